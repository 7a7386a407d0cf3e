/- Maps: texts of the proof, joined. -/
import Derived.Test.YtilmhemcpgiikaaDoorVSame
import Derived.Test.YtilmhemcpgiikaaDoorVLess
import Derived.Test.YtilmhemcpgiikaaDoorVOwn
import Derived.Test.YtilmhemcpgiikaaDoorVSz
import Derived.Test.YtilmhemcpgiikaaDoorCStr
import Derived.Deep.RegionHeld3
import Derived.Test.YtilmhemcpgiikaaDoorVLeaf
import Derived.Test.YtilmhemcpgiikaaDoorVCount
import Derived.Test.YtilmhemcpgiikaaDoorGMaps1
/- OnceEach: both say whether no two names are equal. -/
namespace Go.Proofs.YtilmhemcpgiikaaDoor
open Go.Deep Go.ChangeShapes Go.WideShapes Go.ChangeAt Go.RowKit
open Go.ChangeMaps (open_string shut_string)

/-- No two of the first i are equal. -/
def onceUp (l : List Tree) (i : Nat) : Prop := ∀ i' k, i' < i → k < i' → l[k]? ≠ l[i']?
open Classical in
noncomputable def onceB (l : List Tree) : Bool := decide (onceUp l l.length)
theorem onceB_true {l : List Tree} (h : onceUp l l.length) : onceB l = true := by unfold onceB; simp only [decide_eq_true_eq]; exact h
theorem onceB_false {l : List Tree} {i k : Nat} (hi : i < l.length) (hk : k < i) (h : l[k]'(by omega) = l[i]) : onceB l = false := by
  unfold onceB
  simp only [decide_eq_false_iff_not]
  intro ho
  exact ho i k hi hk (by rw [List.getElem?_eq_getElem (by omega), List.getElem?_eq_getElem hi, h])
theorem onceUp_succ {l : List Tree} {i : Nat} (h : onceUp l i) (hi : i < l.length) (hn : ∀ k, k < i → l[k]? ≠ some l[i]) : onceUp l (i + 1) := by
  intro i' k h1 h2
  by_cases e : i' = i
  · subst e
    rw [List.getElem?_eq_getElem hi]
    exact hn k h2
  · exact h i' k (by omega) h2

set_option maxRecDepth 100000 in
set_option maxHeartbeats 4000000 in
theorem once_spec (t : Tree) (w : World) (u : Value) (hcost : t.cost ≤ 1048576) (hu : TSl w u t.l) (hfit : Fits t.kind t.n t.x t.s) :
    Calls Tryd.prog 68 #[.agg #[.int .i64 t.kind, .int .i64 t.n, .int .i64 t.x, .string t.s, u]] w fun e w' => e = .returned (.bool (onceB (namesF t))) ∧ Below w.heap.size w w' := by
  have hnl : (namesF t).length ≤ 1048576 := by
    have h1 := names_cost t; have h2 := Tree.cost_eq t; have h3 := costL_eq (namesF t); omega
  obtain ⟨a, n, cap, rfl⟩ := hu.form
  have HW := Lib.hid (vbelow1 w (.cells #[.int .i64 t.kind, .int .i64 t.n, .int .i64 t.x, .string t.s, .slice a n cap] 29))
  have HN := Lib.hid (namesOf_spec t _ _ hcost (hu.kept HW.out) hfit)
  clear hu
  generalize namesF t = l at *
  go_enter Tryd.func68, Tryd.ntmps68
  go_wp2_with fail
  refine HN.out.mono ?_
  rintro _ w1 ⟨a1, n1, c1, rfl, ho, b1⟩
  have hsl := ho.tsl
  have HB1 := Lib.hid (vnx HW.out b1)
  clear ho b1 HN
  obtain ⟨a', cap', b, off, hv, hcap, hmax, ha, hl⟩ := hsl
  injection hv with hv1 hv2 hv3
  subst hv1 hv2 hv3
  unfold maxLen at hmax
  have HL := Lib.hid hl; have HA := Lib.hid ha
  clear hl ha
  go_wp2_with fail
  go_loopw [4] (fun i wr => ∃ j : Nat, j ≤ l.length ∧ i = .int .i64 j ∧ Hid (onceUp l j) ∧ Hid (Below w1.heap.size w1 wr)) (fun i _ => l.length - (intOf i).toNat)
  case atStart => exact ⟨0, by omega, rfl, Lib.hid (fun i' k h => absurd h (Nat.not_lt_zero _)), Lib.hid (Below.refl _ _)⟩
  case round =>
    obtain ⟨j, hj, rfl, HO, HBW⟩ := hrel
    by_cases hjl : j < l.length
    · obtain rfl : a1 = some ⟨b, off, none⟩ := HA.out (by intro h; rw [h] at hjl; simp at hjl)
      go_wp2_with fail
      go_loopw [5] (fun i wx => ∃ k : Nat, k ≤ j ∧ i = .int .i64 k ∧ Hid (∀ k', k' < k → l[k']? ≠ some l[j]) ∧ Hid (Below w1.heap.size w1 wx)) (fun i _ => j - (intOf i).toNat)
      case atStart => exact ⟨0, by omega, rfl, Lib.hid (fun k' h => absurd h (Nat.not_lt_zero _)), HBW⟩
      case round =>
        obtain ⟨k, hk, rfl, HK, HBX⟩ := hrel
        by_cases hkj : k < j
        · have hkl : k < l.length := by omega
          obtain ⟨x, c0, c1, c2, c3, c4, hsl, hft⟩ := ((HL.out j hjl).kept HBX.out).parts
          obtain ⟨x', d0, d1, d2, d3, d4, hsl', hft'⟩ := ((HL.out k hkl).kept HBX.out).parts
          have hC := fun w2 (g1 : TSl w2 x l[j].l) (g2 : TSl w2 x' l[k].l) => sameSpec_c l[j] l[k] w2 x x' g1 g2 hft hft'
          have hF : sameB l[j] l[k] = true → onceB l = false := fun h => onceB_false hjl hkj (sameB_true.1 h).symm
          have hT : sameB l[j] l[k] = false → ∀ k', k' < k + 1 → l[k']? ≠ some l[j] := fun h k' hk' => by
            by_cases e : k' = k
            · subst e
              rw [List.getElem?_eq_getElem hkl]
              intro e2
              exact sameB_false.1 h (Option.some.inj e2).symm
            · exact HK.out k' (by omega)
          have HF := Lib.hid hF; have HT := Lib.hid hT
          clear hF hT
          have hszx := HBX.out.size
          cases hb : sameB l[j] l[k] with
          | true =>
            rw [hb] at hC
            have HFF := Lib.hid (HF.out hb)
            clear HF HT hb
            generalize l[j] = r at *
            generalize l[k] = r' at *
            have HC := Lib.hid (hC wr.drew (hsl.kept (Below.refl _ _).drew) (hsl'.kept (Below.refl _ _).drew))
            clear hC hsl hsl' hft hft'
            go_wp2_with fail
            go_still_tail 8, (by kernel_rfl)
            change wpList _ _ _ _ _ wr.drew
            go_wp2_with fail
            refine HC.out.mono ?_
            rintro _ w2 ⟨rfl, hb1'⟩
            have hb1 : Below wr.heap.size wr w2 := ⟨hb1'.os, hb1'.tape, hb1'.output, hb1'.size, hb1'.block⟩
            clear hb1'
            go_wp2_with fail
            go_ret
            exact ⟨ret_bool HFF.out.symm, vnx HB1.out (HBX.out.trans (hb1.mono hszx))⟩
          | false =>
            rw [hb] at hC
            have HTT := Lib.hid (HT.out hb)
            clear HF HT hb
            have HC := Lib.hid (hC wr.drew (hsl.kept (Below.refl _ _).drew) (hsl'.kept (Below.refl _ _).drew))
            clear hC hsl hsl' hft hft'
            go_wp2_with fail
            go_still_tail 8, (by kernel_rfl)
            change wpList _ _ _ _ _ wr.drew
            go_wp2_with fail
            refine HC.out.mono ?_
            rintro _ w2 ⟨rfl, hb1'⟩
            have hb1 : Below wr.heap.size wr w2 := ⟨hb1'.os, hb1'.tape, hb1'.output, hb1'.size, hb1'.block⟩
            clear hb1'
            go_wp2_with fail
            go_roundw
            case rel => exact ⟨k + 1, by omega, by go_num, HTT, Lib.hid (HBX.out.trans (hb1.mono hszx))⟩
            case measure => simp [intOf]; omega
        · obtain rfl : k = j := by omega
          have HO2 := Lib.hid (onceUp_succ HO.out hjl HK.out)
          go_wp2_with fail
          go_roundw
          case rel => exact ⟨k + 1, by omega, by go_num, HO2, HBX⟩
          case measure => simp [intOf]; omega
    · obtain rfl : j = l.length := by omega
      have HF := Lib.hid (onceB_true HO.out)
      go_wp2_with fail
      go_ret
      exact ⟨ret_bool HF.out.symm, vnx HB1.out HBW.out⟩

open Classical in
noncomputable def memB (x : Tree) (l : List Tree) : Bool := decide (x ∈ l)
theorem memB_true {x : Tree} {l : List Tree} : memB x l = true ↔ x ∈ l := by unfold memB; simp only [decide_eq_true_eq]

set_option maxHeartbeats 1000000 in
/-- The closure: is a value the one that it captured? -/
theorem once_clo (o x : Tree) (uo ux : Value) (B : Nat) (w : World) (ho : TSl w uo o.l) (hfo : Fits o.kind o.n o.x o.s) (hx : TSl w ux x.l) (hfx : Fits x.kind x.n x.x x.s)
    (hb : w.heap[B]? = some (.cells #[.int .i64 x.kind, .int .i64 x.n, .int .i64 x.x, .string x.s, ux] 29 (0, 0))) :
    Calls Tryd.prog 123 #[.agg #[.int .i64 o.kind, .int .i64 o.n, .int .i64 o.x, .string o.s, uo], .pointer (some ⟨B, 0, none⟩)] w fun e w' => e = .returned (.bool (sameB o x)) ∧ Below w.heap.size w w' := by
  obtain ⟨a, n, cap, rfl⟩ := ho.form
  obtain ⟨a', n', cap', rfl⟩ := hx.form
  have hW := vbelow1 w (.cells #[.int .i64 o.kind, .int .i64 o.n, .int .i64 o.x, .string o.s, .slice a n cap] 29)
  have HC := Lib.hid (sameImpl_c o x _ _ _ (ho.kept hW) (hx.kept hW) hfo hfx)
  have hlt : B < w.heap.size := (Array.getElem?_eq_some_iff.1 hb).1
  have hb2 := (hW.block B hlt).trans hb
  obtain ⟨q0, q1, q2, q3, q4, -⟩ := five_kept (Below.refl _ _) hb2
  have HW := Lib.hid hW
  clear ho hx hb hb2 hW
  generalize sameB o x = R at *
  go_enter Tryd.func123, Tryd.ntmps123
  go_wp2_with fail
  refine HC.out.mono ?_
  rintro _ w1 ⟨rfl, b1⟩
  go_wp2_with fail
  go_ret
  exact ⟨rfl, vnx HW.out b1⟩

set_option maxRecDepth 100000 in
set_option maxHeartbeats 4000000 in
theorem once_idx (l : List Tree) (x : Tree) (u ux : Value) (B : Nat) (w : World) (hu : TSl w u l) (hx : TSl w ux x.l) (hfx : Fits x.kind x.n x.x x.s)
    (hb : w.heap[B]? = some (.cells #[.int .i64 x.kind, .int .i64 x.n, .int .i64 x.x, .string x.s, ux] 29 (0, 0))) :
    Calls Tryd.prog 155 #[u, .func (.func 123) #[] #[.pointer (some ⟨B, 0, none⟩)]] w fun e w' => ∃ r : Int, e = .returned (.int .i64 r) ∧ decide (0 ≤ r) = memB x l ∧ Below w.heap.size w w' := by
  obtain ⟨a, cap, b, off, rfl, hcap, hmax, ha, hl⟩ := hu
  unfold maxLen at hmax
  have hlt : B < w.heap.size := (Array.getElem?_eq_some_iff.1 hb).1
  have HL := Lib.hid hl; have HA := Lib.hid ha
  have HCL := Lib.hid (fun (w1 : World) (hb1 : Below w.heap.size w w1) (o : Tree) (uo : Value) (h : TSl w1 uo o.l) hf => once_clo o x uo ux B w1 h hf (hx.kept hb1) hfx ((hb1.block B hlt).trans hb))
  clear hl ha hx hb
  go_enter Tryd.func155, Tryd.ntmps155
  go_wp2_with fail
  go_loopw [8] (fun i wr => ∃ j : Nat, j ≤ l.length ∧ i = .int .i64 j ∧ Hid (∀ k, k < j → l[k]? ≠ some x) ∧ Hid (Below w.heap.size w wr)) (fun i _ => l.length - (intOf i).toNat)
  case atStart => exact ⟨0, by omega, rfl, Lib.hid (fun k h => absurd h (Nat.not_lt_zero _)), Lib.hid (Below.refl _ _)⟩
  case round =>
    obtain ⟨j, hj, rfl, HN, HBW⟩ := hrel
    by_cases hjl : j < l.length
    · obtain rfl : a = some ⟨b, off, none⟩ := HA.out (by intro h; rw [h] at hjl; simp at hjl)
      obtain ⟨y, c0, c1, c2, c3, c4, hsl, hft⟩ := ((HL.out j hjl).kept HBW.out).parts
      have hC := HCL.out wr HBW.out l[j] y hsl hft
      have hszr := HBW.out.size
      have hT : sameB l[j] x = true → memB x l = true := fun h => memB_true.2 (by rw [← sameB_true.1 h]; exact List.getElem_mem hjl)
      have hF : sameB l[j] x = false → ∀ k, k < j + 1 → l[k]? ≠ some x := fun h k hk => by
        by_cases e : k = j
        · subst e
          rw [List.getElem?_eq_getElem hjl]
          intro e2
          exact sameB_false.1 h (Option.some.inj e2)
        · exact HN.out k (by omega)
      have HT := Lib.hid hT; have HF := Lib.hid hF
      clear hT hF
      cases hb : sameB l[j] x with
      | true =>
        rw [hb] at hC
        have HTT := Lib.hid (HT.out hb)
        have HC := Lib.hid hC
        clear HT HF hb hC hsl hft
        generalize l[j] = r at *
        go_wp2_with fail
        refine HC.out.mono ?_
        rintro _ w2 ⟨rfl, hb1⟩
        go_wp2_with fail
        go_ret
        exact ⟨_, rfl, by rw [HTT.out]; simp, HBW.out.trans (hb1.mono hszr)⟩
      | false =>
        rw [hb] at hC
        have HFF := Lib.hid (HF.out hb)
        have HC := Lib.hid hC
        clear HT HF hb hC hsl hft
        go_wp2_with fail
        refine HC.out.mono ?_
        rintro _ w2 ⟨rfl, hb1⟩
        go_wp2_with fail
        go_roundw
        case rel => exact ⟨j + 1, by omega, by go_num, HFF, Lib.hid (HBW.out.trans (hb1.mono hszr))⟩
        case measure => simp [intOf]; omega
    · obtain rfl : j = l.length := by omega
      have hm : memB x l = false := by
        rw [← Bool.not_eq_true, memB_true]
        intro hm
        obtain ⟨k, hk, e⟩ := List.getElem_of_mem hm
        exact HN.out k hk (by rw [List.getElem?_eq_getElem hk, e])
      have HM := Lib.hid hm
      clear hm
      go_wp2_with fail
      go_ret
      exact ⟨_, rfl, by rw [HM.out]; decide, HBW.out⟩

set_option maxHeartbeats 1000000 in
theorem once_con (l : List Tree) (x : Tree) (u ux : Value) (B : Nat) (w : World) (hu : TSl w u l) (hx : TSl w ux x.l) (hfx : Fits x.kind x.n x.x x.s)
    (hb : w.heap[B]? = some (.cells #[.int .i64 x.kind, .int .i64 x.n, .int .i64 x.x, .string x.s, ux] 29 (0, 0))) :
    Calls Tryd.prog 122 #[u, .func (.func 123) #[] #[.pointer (some ⟨B, 0, none⟩)]] w fun e w' => e = .returned (.bool (memB x l)) ∧ Below w.heap.size w w' := by
  have HC := Lib.hid (once_idx l x u ux B w hu hx hfx hb)
  obtain ⟨a, n, cap, rfl⟩ := hu.form
  clear hu hx hb
  go_enter Tryd.func122, Tryd.ntmps122
  go_wp2_with fail
  refine HC.out.mono ?_
  rintro _ w1 ⟨r, rfl, hr, b1⟩
  have HR := Lib.hid hr; clear hr
  go_wp2_with fail
  go_ret
  exact ⟨ret_bool HR.out, b1⟩

theorem TSl.take {w : World} {a : Option Addr} {n cap : Nat} {l : List Tree} (h : TSl w (.slice a n cap) l) {j : Nat} (hj : j ≤ l.length) : TSl w (.slice a j cap) (l.take j) := by
  obtain ⟨a', cap', b, off, hv, hcap, hmax, ha, hl⟩ := h
  injection hv with hv1 hv2 hv3
  subst hv1 hv2 hv3
  have htl : (l.take j).length = j := by rw [List.length_take]; omega
  refine ⟨a, cap, b, off, by rw [htl], by rw [htl]; omega, hmax, fun hne => ha (fun e => hne (by rw [e]; simp)), fun i hi => ?_⟩
  rw [List.getElem_take]
  exact hl i (by rw [htl] at hi; omega)

set_option maxRecDepth 100000 in
set_option maxHeartbeats 4000000 in
theorem once_impl (t : Tree) (w : World) (u : Value) (hcost : t.cost ≤ 1048576) (hu : TSl w u t.l) (hfit : Fits t.kind t.n t.x t.s) :
    Calls Tryd.prog 67 #[.agg #[.int .i64 t.kind, .int .i64 t.n, .int .i64 t.x, .string t.s, u]] w fun e w' => e = .returned (.bool (onceB (namesF t))) ∧ Below w.heap.size w w' := by
  have hnl : (namesF t).length ≤ 1048576 := by
    have h1 := names_cost t; have h2 := Tree.cost_eq t; have h3 := costL_eq (namesF t); omega
  obtain ⟨a, n, cap, rfl⟩ := hu.form
  have HW := Lib.hid (vbelow1 w (.cells #[.int .i64 t.kind, .int .i64 t.n, .int .i64 t.x, .string t.s, .slice a n cap] 29))
  have HN := Lib.hid (names_impl t _ _ hcost (hu.kept HW.out) hfit)
  clear hu
  generalize namesF t = l at *
  go_enter Tryd.func67, Tryd.ntmps67
  go_wp2_with fail
  refine HN.out.mono ?_
  rintro _ w1 ⟨v1, rfl, hsl, b1⟩
  have HB1 := Lib.hid (vnx HW.out b1)
  have HSL := Lib.hid hsl
  clear b1 HN
  obtain ⟨a1, c1, b, off, rfl, hcap, hmax, ha, hl⟩ := hsl
  unfold maxLen at hmax
  have HL := Lib.hid hl; have HA := Lib.hid ha
  clear hl ha
  go_wp2_with fail
  go_loopw [10] (fun i wr => ∃ j : Nat, j ≤ l.length ∧ i = .int .i64 j ∧ Hid (onceUp l j) ∧ Hid (Below w1.heap.size w1 wr)) (fun i _ => l.length - (intOf i).toNat)
  case atStart => exact ⟨0, by omega, rfl, Lib.hid (fun i' k h => absurd h (Nat.not_lt_zero _)), Lib.hid (Below.refl _ _)⟩
  case round =>
    obtain ⟨j, hj, rfl, HO, HBW⟩ := hrel
    by_cases hjl : j < l.length
    · obtain rfl : a1 = some ⟨b, off, none⟩ := HA.out (by intro h; rw [h] at hjl; simp at hjl)
      obtain ⟨x, c0, c1', c2, c3, c4, hsl, hft⟩ := ((HL.out j hjl).kept HBW.out).parts
      obtain ⟨x1, x2, x3, rfl⟩ := hsl.form
      have hszr := HBW.out.size
      have hbx := vbelow1 wr (.cells #[.int .i64 l[j].kind, .int .i64 l[j].n, .int .i64 l[j].x, .string l[j].s, .slice x1 x2 x3] 29)
      have hC := once_con (l.take j) l[j] (.slice (some ⟨b, off, none⟩) j c1) (.slice x1 x2 x3) wr.heap.size _ (((HSL.out.take hj).kept HBW.out).kept hbx) (hsl.kept hbx) hft (heap_alloc_new wr _)
      have hF : memB l[j] (l.take j) = true → onceB l = false := fun h => by
        obtain ⟨k, hk, e⟩ := List.getElem_of_mem (memB_true.1 h)
        rw [List.length_take] at hk
        rw [List.getElem_take] at e
        exact onceB_false hjl (by omega) e
      have hT : memB l[j] (l.take j) = false → onceUp l (j + 1) := fun h => onceUp_succ HO.out hjl (fun k hk e => by
        have : l[j] ∈ l.take j := by
          rw [List.getElem?_eq_getElem (by omega)] at e
          rw [← Option.some.inj e]
          have hk2 : k < (l.take j).length := by rw [List.length_take]; omega
          have := List.getElem_mem hk2
          rwa [List.getElem_take] at this
        rw [← Bool.not_eq_true, memB_true] at h
        exact h this)
      have HF := Lib.hid hF; have HT := Lib.hid hT; have HC := Lib.hid hC
      have HBX := Lib.hid hbx
      clear hF hT hC hbx hsl hft
      cases hb : memB l[j] (l.take j) with
      | true =>
        rw [hb] at HC
        have HFF := Lib.hid (HF.out hb)
        clear HF HT hb
        generalize l[j] = r at *
        go_wp2_with fail
        refine HC.out.mono ?_
        rintro _ w2 ⟨rfl, hb1⟩
        go_wp2_with fail
        go_ret
        exact ⟨ret_bool HFF.out.symm, vnx HB1.out (HBW.out.trans ((vnx HBX.out hb1).mono hszr))⟩
      | false =>
        rw [hb] at HC
        have HTT := Lib.hid (HT.out hb)
        clear HF HT hb
        generalize l[j] = r at *
        go_wp2_with fail
        refine HC.out.mono ?_
        rintro _ w2 ⟨rfl, hb1⟩
        go_wp2_with fail
        go_roundw
        case rel => exact ⟨j + 1, by omega, by go_num, HTT, Lib.hid (HBW.out.trans ((vnx HBX.out hb1).mono hszr))⟩
        case measure => simp [intOf]; omega
    · obtain rfl : j = l.length := by omega
      have HF := Lib.hid (onceB_true HO.out)
      go_wp2_with fail
      go_ret
      exact ⟨ret_bool HF.out.symm, vnx HB1.out HBW.out⟩
end Go.Proofs.YtilmhemcpgiikaaDoor
/- Sorted: both say whether a map's names stand in order. -/
namespace Go.Proofs.YtilmhemcpgiikaaDoor
open Go.Deep Go.ChangeShapes Go.WideShapes Go.ChangeAt Go.RowKit
open Go.ChangeMaps (open_string shut_string)

open Classical in
/-- Does each stand ahead of its next? -/
noncomputable def sortedL (l : List Tree) : Bool := decide (∀ k (h : k + 1 < l.length), lessT l[k] l[k + 1] = true)
open Classical in
theorem sortedL_yes {l : List Tree} (h : ∀ k (h : k + 1 < l.length), lessT l[k] l[k + 1] = true) : sortedL l = true := by
  unfold sortedL; exact decide_eq_true h
open Classical in
theorem sortedL_no {l : List Tree} {k : Nat} (hk : k + 1 < l.length) (h : lessT l[k] l[k + 1] = false) : sortedL l = false := by
  unfold sortedL; exact decide_eq_false (fun e => by rw [e k hk] at h; cases h)

set_option maxRecDepth 100000 in
set_option maxHeartbeats 4000000 in
theorem sorted_spec (t : Tree) (w : World) (u : Value) (hcost : t.cost ≤ 1048576) (hu : TSl w u t.l) (hfit : Fits t.kind t.n t.x t.s) :
    Calls Tryd.prog 18 #[.agg #[.int .i64 t.kind, .int .i64 t.n, .int .i64 t.x, .string t.s, u]] w fun e w' => e = .returned (.bool (sortedL (namesF t))) ∧ Below w.heap.size w w' := by
  obtain ⟨a, n, cap, rfl⟩ := hu.form
  have HW := Lib.hid (vbelow1 w (.cells #[.int .i64 t.kind, .int .i64 t.n, .int .i64 t.x, .string t.s, .slice a n cap] 29))
  have HN := Lib.hid (namesOf_spec t _ _ hcost (hu.kept HW.out) hfit)
  clear hu hfit hcost
  generalize namesF t = l at *
  go_enter Tryd.func18, Tryd.ntmps18
  go_wp2_with fail
  refine HN.out.mono ?_
  rintro _ w1 ⟨a1, n1, c1, rfl, ho, b1⟩
  have B1 := Lib.hid (vnx HW.out b1); clear b1
  have htl := ho.tsl; clear ho
  obtain ⟨a2, cap, b, off, he, hcap, hmax, ha, hl⟩ := htl
  cases he
  unfold maxLen at hmax
  have HL := Lib.hid hl; clear hl
  have HA := Lib.hid ha; clear ha
  go_wp2_with fail
  go_loopw [4] (fun i wr => ∃ j : Nat, (j = 0 ∨ j + 1 ≤ l.length) ∧ i = .int .i64 ((j : Int) + 1) ∧ Hid (∀ k, k < j → ∀ (h : k + 1 < l.length), lessT l[k] l[k + 1] = true) ∧ Hid (Below w1.heap.size w1 wr)) (fun i _ => l.length + 1 - (intOf i).toNat)
  case atStart => exact ⟨0, by omega, rfl, Lib.hid (by omega), Lib.hid (Below.refl _ _)⟩
  case round =>
    obtain ⟨j, hj, rfl, HT, HBW⟩ := hrel
    have hbw0 : Below w.heap.size w wr := vnx B1.out HBW.out
    have hszr := HBW.out.size
    by_cases hjl : j + 1 < l.length
    · obtain rfl : a1 = some ⟨b, off, none⟩ := HA.out (by intro h; rw [h] at hjl; simp at hjl)
      obtain ⟨x, c0, c1', c2, c3, c4, hsl, hft⟩ := ((HL.out j (by omega)).kept HBW.out).parts
      obtain ⟨x', d0, d1, d2, d3, d4, hsl', hft'⟩ := ((HL.out (j + 1) hjl).kept HBW.out).parts
      have hno := fun h => sortedL_no (l := l) hjl h
      have hyes : lessT l[j] l[j + 1] = true → ∀ k, k < j + 1 → ∀ (h : k + 1 < l.length), lessT l[k] l[k + 1] = true := fun e k hk h => by
        by_cases hkj : k = j
        · subst hkj; exact e
        · exact HT.out k (by omega) h
      have HC := Lib.hid (lessSpec_c l[j] l[j + 1] wr.drew x x' (hsl.kept (Below.refl _ _).drew) (hsl'.kept (Below.refl _ _).drew) hft hft')
      clear hsl hsl' hft hft'
      have hi1 : (j : Int) + 1 - 1 = j := by omega
      have hwj : IntKind.i64.wrap (j : Int) = j := IntWalk.i64_in _ (by omega)
      have htn : ((j : Int) + 1).toNat = j + 1 := by omega
      have hjb : (j : Int) < l.length := by omega
      have hj0 : (0 : Int) ≤ (j : Int) + 1 := by omega
      have hjn : ¬ ((j : Int) + 1 < 0) := by omega
      have hjl2 : (j : Int) + 1 < l.length := by omega
      have hjl3 : ¬ ((l.length : Int) ≤ (j : Int) + 1) := by omega
      generalize l[j] = r at *
      generalize l[j + 1] = r' at *
      generalize lessT r r' = R at *
      cases R with
      | true =>
        have HY := Lib.hid (hyes rfl)
        clear hno hyes
        go_wp2_with fail
        go_still_tail 9, (by kernel_rfl)
        change wpList _ _ _ _ _ wr.drew
        go_wp2_with fail
        refine HC.out.mono ?_
        rintro _ w2 ⟨rfl, hb1'⟩
        have hb1 : Below wr.heap.size wr w2 := ⟨hb1'.os, hb1'.tape, hb1'.output, hb1'.size, hb1'.block⟩
        clear hb1'
        go_wp2_with fail
        go_roundw
        case rel => exact ⟨j + 1, by omega, by go_num, HY, Lib.hid (HBW.out.trans (hb1.mono hszr))⟩
        case measure => simp [intOf]; omega
      | false =>
        have HF := Lib.hid (hno rfl)
        clear hno hyes
        go_wp2_with fail
        go_still_tail 9, (by kernel_rfl)
        change wpList _ _ _ _ _ wr.drew
        go_wp2_with fail
        refine HC.out.mono ?_
        rintro _ w2 ⟨rfl, hb1'⟩
        have hb1 : Below wr.heap.size wr w2 := ⟨hb1'.os, hb1'.tape, hb1'.output, hb1'.size, hb1'.block⟩
        clear hb1'
        go_wp2_with fail
        go_ret
        exact ⟨ret_bool HF.out.symm, hbw0.trans (hb1.mono hbw0.size)⟩
    · have HF := Lib.hid (sortedL_yes (l := l) (fun k h => HT.out k (by omega) h))
      have e1 : decide ((j : Int) + 1 < l.length) = false := decide_eq_false (by omega)
      go_wp2_with fail
      go_ret
      exact ⟨ret_bool HF.out.symm, hbw0⟩
set_option maxRecDepth 100000 in
set_option maxHeartbeats 4000000 in
theorem sorted_impl (t : Tree) (w : World) (u : Value) (hLP : LaidP w) (hcost : t.cost ≤ 1048576) (hu : TSl w u t.l) (hfit : Fits t.kind t.n t.x t.s) :
    Calls Tryd.prog 19 #[.agg #[.int .i64 t.kind, .int .i64 t.n, .int .i64 t.x, .string t.s, u]] w fun e w' => e = .returned (.bool (sortedL (namesF t))) ∧ Below w.heap.size w w' := by
  obtain ⟨a, n, cap, rfl⟩ := hu.form
  have HW := Lib.hid (vbelow1 w (.cells #[.int .i64 t.kind, .int .i64 t.n, .int .i64 t.x, .string t.s, .slice a n cap] 29))
  have HN := Lib.hid (names_impl t _ _ hcost (hu.kept HW.out) hfit)
  clear hu hfit hcost
  have HP := Lib.hid hLP; clear hLP
  generalize namesF t = l at *
  go_enter Tryd.func19, Tryd.ntmps19
  go_wp2_with fail
  refine HN.out.mono ?_
  rintro _ w1 ⟨v1, rfl, htl, b1⟩
  have B1 := Lib.hid (vnx HW.out b1); clear b1
  obtain ⟨a1, cap, b, off, rfl, hcap, hmax, ha, hl⟩ := htl
  unfold maxLen at hmax
  have HL := Lib.hid hl; clear hl
  have HA := Lib.hid ha; clear ha
  go_wp2_with fail
  go_loopw [4] (fun i wr => ∃ j : Nat, (j = 0 ∨ j + 1 ≤ l.length) ∧ i = .int .i64 ((j : Int) + 1) ∧ Hid (∀ k, k < j → ∀ (h : k + 1 < l.length), lessT l[k] l[k + 1] = true) ∧ Hid (Below w1.heap.size w1 wr)) (fun i _ => l.length + 1 - (intOf i).toNat)
  case atStart => exact ⟨0, by omega, rfl, Lib.hid (by omega), Lib.hid (Below.refl _ _)⟩
  case round =>
    obtain ⟨j, hj, rfl, HT, HBW⟩ := hrel
    have hbw0 : Below w.heap.size w wr := vnx B1.out HBW.out
    have hszr := HBW.out.size
    by_cases hjl : j + 1 < l.length
    · obtain rfl : a1 = some ⟨b, off, none⟩ := HA.out (by intro h; rw [h] at hjl; simp at hjl)
      obtain ⟨x, c0, c1', c2, c3, c4, hsl, hft⟩ := ((HL.out j (by omega)).kept HBW.out).parts
      obtain ⟨x', d0, d1, d2, d3, d4, hsl', hft'⟩ := ((HL.out (j + 1) hjl).kept HBW.out).parts
      have hno := fun h => sortedL_no (l := l) hjl h
      have hyes : lessT l[j] l[j + 1] = true → ∀ k, k < j + 1 → ∀ (h : k + 1 < l.length), lessT l[k] l[k + 1] = true := fun e k hk h => by
        by_cases hkj : k = j
        · subst hkj; exact e
        · exact HT.out k (by omega) h
      have HC := Lib.hid (lessImpl_c l[j] l[j + 1] wr.drew x x' (HP.out.kept hbw0.drew) (hsl.kept (Below.refl _ _).drew) (hsl'.kept (Below.refl _ _).drew) hft hft')
      clear hsl hsl' hft hft'
      have hi1 : (j : Int) + 1 - 1 = j := by omega
      have hwj : IntKind.i64.wrap (j : Int) = j := IntWalk.i64_in _ (by omega)
      have htn : ((j : Int) + 1).toNat = j + 1 := by omega
      have hjb : (j : Int) < l.length := by omega
      have hj0 : (0 : Int) ≤ (j : Int) + 1 := by omega
      have hjn : ¬ ((j : Int) + 1 < 0) := by omega
      have hjl2 : (j : Int) + 1 < l.length := by omega
      have hjl3 : ¬ ((l.length : Int) ≤ (j : Int) + 1) := by omega
      generalize l[j] = r at *
      generalize l[j + 1] = r' at *
      generalize lessT r r' = R at *
      cases R with
      | true =>
        have HY := Lib.hid (hyes rfl)
        clear hno hyes
        go_wp2_with fail
        go_still_tail 9, (by kernel_rfl)
        change wpList _ _ _ _ _ wr.drew
        go_wp2_with fail
        refine HC.out.mono ?_
        rintro _ w2 ⟨rfl, hb1'⟩
        have hb1 : Below wr.heap.size wr w2 := ⟨hb1'.os, hb1'.tape, hb1'.output, hb1'.size, hb1'.block⟩
        clear hb1'
        go_wp2_with fail
        go_roundw
        case rel => exact ⟨j + 1, by omega, by go_num, HY, Lib.hid (HBW.out.trans (hb1.mono hszr))⟩
        case measure => simp [intOf]; omega
      | false =>
        have HF := Lib.hid (hno rfl)
        clear hno hyes
        go_wp2_with fail
        go_still_tail 9, (by kernel_rfl)
        change wpList _ _ _ _ _ wr.drew
        go_wp2_with fail
        refine HC.out.mono ?_
        rintro _ w2 ⟨rfl, hb1'⟩
        have hb1 : Below wr.heap.size wr w2 := ⟨hb1'.os, hb1'.tape, hb1'.output, hb1'.size, hb1'.block⟩
        clear hb1'
        go_wp2_with fail
        go_ret
        exact ⟨ret_bool HF.out.symm, hbw0.trans (hb1.mono hbw0.size)⟩
    · have HF := Lib.hid (sortedL_yes (l := l) (fun k h => HT.out k (by omega) h))
      have e1 : decide ((j : Int) + 1 < l.length) = false := decide_eq_false (by omega)
      go_wp2_with fail
      go_ret
      exact ⟨ret_bool HF.out.symm, hbw0⟩
end Go.Proofs.YtilmhemcpgiikaaDoor
/- Plain laws of FnMaps: sorted, the same names stand for the same; they ascend just where no name is met twice. -/
namespace Go.Proofs.YtilmhemcpgiikaaDoor

open Classical in
/-- The value of the last equal name. -/
noncomputable def lookE (x : Tree) : List Tree → Option Tree
  | [] => none
  | [_] => none
  | a :: b :: r => match lookE x r with | some v => some v | none => if a = x then some b else none
theorem lookE_app (x : Tree) : ∀ (k : Nat) (p q : List Tree), p.length = 2 * k → lookE x (p ++ q) = match lookE x q with | some v => some v | none => lookE x p
  | 0, p, q, h => by
    have : p = [] := List.length_eq_zero_iff.1 (by omega)
    subst this
    rw [List.nil_append]
    cases lookE x q <;> simp [lookE]
  | k + 1, p, q, h => by
    match p, h with
    | [], h => simp at h
    | [_], h => simp at h; omega
    | a :: b :: r, h =>
      have ih := lookE_app x k r q (by simp at h; omega)
      rw [List.cons_append, List.cons_append, lookE, ih, lookE]
      cases lookE x q <;> rfl
open Classical in
theorem lookE_pair (x a b : Tree) : lookE x [a, b] = if a = x then some b else none := by simp [lookE]
theorem lookAt_take (l : List Tree) (x : Tree) : ∀ j, 2 * j ≤ l.length → lookAt l x j = lookE x (l.take (2 * j))
  | 0, _ => by simp [lookAt, lookE]
  | j + 1, h => by
    rw [take_two (by omega), lookE_app x j _ _ (by rw [List.length_take]; omega), lookE_pair, lookAt, List.getElem?_eq_getElem (by omega), List.getElem?_eq_getElem (show 2 * j + 1 < l.length by omega), lookAt_take l x j (by omega)]
    by_cases e : l[2 * j] = x
    · rw [if_pos (by rw [e]), if_pos e]
    · rw [if_neg (by intro q; exact e (Option.some.inj q)), if_neg e]
theorem evens_app : ∀ (k : Nat) (p q : List Tree), p.length = 2 * k → evens (p ++ q) = evens p ++ evens q
  | 0, p, q, h => by
    have : p = [] := List.length_eq_zero_iff.1 (by omega)
    subst this; rfl
  | k + 1, p, q, h => by
    match p, h with
    | [], h => simp at h
    | [_], h => simp at h; omega
    | a :: b :: r, h =>
      have ih := evens_app k r q (by simp at h; omega)
      rw [List.cons_append, List.cons_append, evens, ih]; rfl
theorem lookE_none {x : Tree} : ∀ (k : Nat) (l : List Tree), l.length = 2 * k → (∀ y ∈ evens l, y ≠ x) → lookE x l = none
  | 0, l, h, _ => by
    have : l = [] := List.length_eq_zero_iff.1 (by omega)
    subst this; simp [lookE]
  | k + 1, l, h, hn => by
    match l, h with
    | [], h => simp at h
    | [_], h => simp at h; omega
    | a :: b :: r, h =>
      have ih := lookE_none (x := x) k r (by simp at h; omega) (fun y hy => hn y (by rw [evens]; exact List.mem_cons_of_mem _ hy))
      rw [lookE, ih]
      exact if_neg (hn a (by rw [evens]; exact List.mem_cons_self ..))
theorem lookE_some {x : Tree} : ∀ (k : Nat) (l : List Tree), l.length = 2 * k → x ∈ evens l → (lookE x l).isSome = true
  | 0, l, h, hx => by
    have : l = [] := List.length_eq_zero_iff.1 (by omega)
    subst this; simp [evens] at hx
  | k + 1, l, h, hx => by
    match l, h with
    | [], h => simp at h
    | [_], h => simp at h; omega
    | a :: b :: r, h =>
      rw [evens] at hx
      rw [lookE]
      rcases List.mem_cons.1 hx with e | e
      · subst e
        cases lookE x r <;> simp
      · have ih := lookE_some k r (by simp at h; omega) e
        obtain ⟨v, hv⟩ := Option.isSome_iff_exists.1 ih
        rw [hv]; rfl
/-- What stands behind the place where a name is put in, it is ahead of. -/
theorem kF_after {x : Tree} {σ : List Tree} : ∀ k, 2 * k ≤ σ.length → ∀ j, kF lessT x σ k ≤ j → j < k → ∃ h : 2 * j < σ.length, lessT x σ[2 * j] = true
  | 0, _, j, _, hj => absurd hj (Nat.not_lt_zero _)
  | k + 1, h, j, h1, h2 => by
    have hk : 2 * k < σ.length := by omega
    cases hl : lessT x σ[2 * k] with
    | true =>
      by_cases e : j = k
      · subst e; exact ⟨hk, hl⟩
      · rw [kF_yes hl] at h1
        exact kF_after k (by omega) j h1 (by omega)
    | false =>
      rw [kF_no hl] at h1
      omega
/-- What stands just ahead of that place, it is not ahead of. -/
theorem kF_before {x : Tree} {σ : List Tree} : ∀ k, 2 * k ≤ σ.length → ∀ j, kF lessT x σ k = j + 1 → ∃ h : 2 * j < σ.length, lessT x σ[2 * j] = false
  | 0, _, j, h => by simp [kF] at h
  | k + 1, h, j, h1 => by
    have hk : 2 * k < σ.length := by omega
    cases hl : lessT x σ[2 * k] with
    | true =>
      rw [kF_yes hl] at h1
      exact kF_before k (by omega) j h1
    | false =>
      rw [kF_no hl] at h1
      have : j = k := by omega
      subst this; exact ⟨hk, hl⟩
theorem evens_at {l : List Tree} {k j : Nat} (hl : l.length = 2 * k) (hj : j < (evens l).length) : ∃ h : 2 * j < l.length, (evens l)[j] = l[2 * j] := by
  have := evens_len l
  have h : 2 * j < l.length := by omega
  exact ⟨h, evens_get l j hj h⟩
theorem evens_mem {l : List Tree} {k : Nat} (hl : l.length = 2 * k) {y : Tree} (hy : y ∈ evens l) : ∃ j, ∃ h : 2 * j < l.length, y = l[2 * j] := by
  obtain ⟨j, hj, e⟩ := List.getElem_of_mem hy
  obtain ⟨h, e2⟩ := evens_at hl hj
  exact ⟨j, h, by rw [← e, e2]⟩
theorem ins_parts {x y : Tree} {σ : List Tree} {k : Nat} (hσ : σ.length = 2 * k) : ∃ K, K ≤ k ∧ insF lessT x y σ = σ.take (2 * K) ++ x :: y :: σ.drop (2 * K) ∧ (σ.take (2 * K)).length = 2 * K ∧ (σ.drop (2 * K)).length = 2 * (k - K) ∧ (∀ z ∈ evens (σ.drop (2 * K)), lessT x z = true) ∧
    (∀ j, K = j + 1 → ∃ h : 2 * j < σ.length, lessT x σ[2 * j] = false) := by
  have hk : σ.length / 2 = k := by omega
  have hle := kF_le lessT x σ k
  refine ⟨kF lessT x σ k, hle, by unfold insF; rw [hk], by rw [List.length_take]; omega, by rw [List.length_drop]; omega, fun z hz => ?_, fun j hj => kF_before k (by omega) j hj⟩
  obtain ⟨j, h, e⟩ := evens_mem (k := k - kF lessT x σ k) (by rw [List.length_drop]; omega) hz
  have hj : j < k - kF lessT x σ k := by rw [List.length_drop] at h; omega
  obtain ⟨h3, h4⟩ := kF_after (x := x) (σ := σ) k (by omega) (kF lessT x σ k + j) (by omega) (by omega)
  rw [e, List.getElem_drop]
  have e2 : 2 * kF lessT x σ k + 2 * j = 2 * (kF lessT x σ k + j) := by omega
  simp only [e2]; exact h4
open Classical in
theorem ins_look {x y n : Tree} {σ : List Tree} {k : Nat} (hσ : σ.length = 2 * k) : lookE n (insF lessT x y σ) = if x = n then some y else lookE n σ := by
  obtain ⟨K, h1, h2, h3, h4, h5, -⟩ := ins_parts (x := x) (y := y) hσ
  have e2 : σ.take (2 * K) ++ x :: y :: σ.drop (2 * K) = σ.take (2 * K) ++ ([x, y] ++ σ.drop (2 * K)) := rfl
  have e3 : lookE n σ = match lookE n (σ.drop (2 * K)) with | some v => some v | none => lookE n (σ.take (2 * K)) := by
    rw [← lookE_app n K _ _ h3, List.take_append_drop]
  rw [h2, e2, lookE_app n K _ _ h3, lookE_app n 1 [x, y] _ (by simp), lookE_pair, e3]
  by_cases e : x = n
  · rw [if_pos e, if_pos e, lookE_none (k - K) _ h4 (fun z hz q => by
      have := h5 z hz
      rw [q, ← e, lessT_irr] at this; cases this)]
  · rw [if_neg e, if_neg e]
    cases lookE n (σ.drop (2 * K)) <;> rfl
theorem sort_look {l : List Tree} (n : Tree) : ∀ {i : Nat}, 2 * i ≤ l.length → lookE n (sortF lessT l i) = lookE n (l.take (2 * i))
  | 0, _ => by simp [sortF]
  | i + 1, h => by
    rw [sortF_succ (by omega), ins_look (k := i) (sortF_len (by omega)), sort_look n (i := i) (by omega), take_two (by omega), lookE_app n i _ _ (by rw [List.length_take]; omega), lookE_pair]
    by_cases e : l[2 * i] = n
    · rw [if_pos e, if_pos e]
    · rw [if_neg e, if_neg e]
theorem ins_evens {x y : Tree} {σ : List Tree} {k : Nat} (hσ : σ.length = 2 * k) : (evens (insF lessT x y σ)).Perm (evens σ ++ [x]) := by
  obtain ⟨K, h1, h2, h3, h4, h5, -⟩ := ins_parts (x := x) (y := y) hσ
  rw [h2, evens_app K _ _ h3]
  have e : evens σ = evens (σ.take (2 * K)) ++ evens (σ.drop (2 * K)) := by rw [← evens_app K _ _ h3, List.take_append_drop]
  rw [e, evens, List.append_assoc]
  exact List.Perm.append_left _ (List.perm_append_comm (l₁ := [x]))
theorem sort_evens {l : List Tree} : ∀ {i : Nat}, 2 * i ≤ l.length → (evens (sortF lessT l i)).Perm (evens (l.take (2 * i)))
  | 0, _ => by simp [sortF]
  | i + 1, h => by
    rw [sortF_succ (by omega), take_two (by omega), evens_app i _ _ (by rw [List.length_take]; omega)]
    exact (ins_evens (k := i) (sortF_len (by omega))).trans ((sort_evens (i := i) (by omega)).append_right _)
theorem onceUp_nodup {l : List Tree} : onceUp l l.length ↔ l.Nodup := by
  unfold onceUp
  rw [List.Nodup, List.pairwise_iff_getElem]
  constructor
  · intro h i j hi hj hij e
    exact h j i hj hij (by rw [List.getElem?_eq_getElem hi, List.getElem?_eq_getElem hj, e])
  · intro h i k hi hk e
    rw [List.getElem?_eq_getElem (by omega), List.getElem?_eq_getElem hi] at e
    exact h k i (by omega) hi hk (Option.some.inj e)
open Classical in
theorem onceB_eq (l : List Tree) : onceB l = decide l.Nodup := by
  unfold onceB
  exact decide_eq_decide.2 onceUp_nodup
theorem once_perm {l l' : List Tree} (h : l.Perm l') : onceB l = onceB l' := by
  rw [onceB_eq, onceB_eq]
  exact decide_eq_decide.2 h.nodup_iff

/-- A name as the draws make them. -/
def Nm (t : Tree) : Prop := (∃ n, t = .mk 3 n 0 { data := #[] } []) ∨ ∃ s, t = .mk 7 0 0 s []
theorem bytes_trans : ∀ a b c : List UInt8, Lib.compareBytes a b < 0 → Lib.compareBytes b c < 0 → Lib.compareBytes a c < 0
  | [], [], _, h, _ => by simp [Lib.compareBytes] at h
  | [], _ :: _, [], _, h => by simp [Lib.compareBytes] at h
  | [], _ :: _, _ :: _, _, _ => by simp [Lib.compareBytes]
  | _ :: _, [], _, h, _ => by simp [Lib.compareBytes] at h
  | _ :: _, _ :: _, [], _, h => by simp [Lib.compareBytes] at h
  | a :: x, b :: y, c :: z, h, h' => by
    have ih := bytes_trans x y z
    have key : ∀ (a b : UInt8) (x y : List UInt8), Lib.compareBytes (a :: x) (b :: y) < 0 ↔ a.toNat < b.toNat ∨ (a.toNat = b.toNat ∧ Lib.compareBytes x y < 0) := by
      intro a b x y
      by_cases h1 : a < b
      · have : a.toNat < b.toNat := h1
        simp [Lib.compareBytes, h1, this]
      · by_cases h2 : b < a
        · have : b.toNat < a.toNat := h2
          simp [Lib.compareBytes, h1, h2]; omega
        · have he : a = b := UInt8.le_antisymm (UInt8.not_lt.1 h2) (UInt8.not_lt.1 h1)
          subst he
          simp [Lib.compareBytes, h1]
    rw [key] at h h' ⊢
    rcases h with h | ⟨h, g⟩
    · rcases h' with h' | ⟨h', g'⟩
      · left; omega
      · left; omega
    · rcases h' with h' | ⟨h', g'⟩
      · left; omega
      · right; exact ⟨by omega, ih g g'⟩
theorem plain_sign (n m : Int) : (plainC n 0 m 0 < 0 ↔ n < m) ∧ (plainC n 0 m 0 = 0 ↔ n = m) := by
  unfold plainC
  by_cases h1 : n < m
  · rw [if_pos h1]; omega
  · rw [if_neg h1]
    by_cases h2 : m < n
    · rw [if_pos h2]; omega
    · rw [if_neg h2, if_neg (by omega), if_neg (by omega)]; omega
theorem nm_less {t t' : Tree} (h : Nm t) (h' : Nm t') : lessT t t' = true ↔ t.kind < t'.kind ∨ (t.kind = t'.kind ∧ (t.n < t'.n ∨ (t.n = t'.n ∧ Lib.compareBytes t.s.data.toList t'.s.data.toList < 0))) := by
  have hz : ∀ a b : Int, numC 3 a 0 b 0 = plainC a 0 b 0 := fun a b => numC_0 (by decide) (by decide)
  have hz7 : ∀ a b : Int, numC 7 a 0 b 0 = plainC a 0 b 0 := fun a b => numC_0 (by decide) (by decide)
  have e0 : Lib.compareBytes ([] : List UInt8) [] = 0 := by simp [Lib.compareBytes]
  unfold lessT
  rw [decide_eq_true_iff, Tree.cmp_eq]
  rcases h with ⟨n, rfl⟩ | ⟨s, rfl⟩ <;> rcases h' with ⟨m, rfl⟩ | ⟨r, rfl⟩
  · simp only [Tree.kind_mk, Tree.n_mk, Tree.x_mk, Tree.s_mk, Tree.l_mk, hz, cmpL]
    have e0' : Lib.compareBytes ({ data := #[] } : ByteArray).data.toList ({ data := #[] } : ByteArray).data.toList = 0 := e0
    obtain ⟨p1, p2⟩ := plain_sign n m
    rw [e0']
    generalize plainC n 0 m 0 = D at *
    (repeat' split) <;> constructor <;> intro hh <;> first | omega | (simp only [true_and, Int.lt_irrefl, false_or]; omega)
  · simp
  · simp
  · simp only [Tree.kind_mk, Tree.n_mk, Tree.x_mk, Tree.s_mk, Tree.l_mk, hz7, cmpL]
    have p3 : plainC 0 0 0 0 = 0 := rfl
    rw [p3]
    generalize Lib.compareBytes s.data.toList r.data.toList = D at *
    (repeat' split) <;> constructor <;> intro hh <;> first | omega | (simp only [true_and, Int.lt_irrefl, false_or]; omega)
theorem nm_eq {t t' : Tree} (h : Nm t) (h' : Nm t') (h1 : lessT t t' = false) (h2 : lessT t' t = false) : t = t' := by
  have a := nm_less h h'
  have b := nm_less h' h
  rw [h1] at a; rw [h2] at b
  have a' : ¬ (t.kind < t'.kind ∨ (t.kind = t'.kind ∧ (t.n < t'.n ∨ (t.n = t'.n ∧ Lib.compareBytes t.s.data.toList t'.s.data.toList < 0)))) := fun q => by have := a.2 q; cases this
  have b' : ¬ (t'.kind < t.kind ∨ (t'.kind = t.kind ∧ (t'.n < t.n ∨ (t'.n = t.n ∧ Lib.compareBytes t'.s.data.toList t.s.data.toList < 0)))) := fun q => by have := b.2 q; cases this
  have hb := bytes_neg t.s.data.toList t'.s.data.toList
  clear a b
  have e1 : t.kind = t'.kind := by omega
  have e2 : t.n = t'.n := by omega
  have e3 : Lib.compareBytes t.s.data.toList t'.s.data.toList = 0 := by omega
  have e4 : t.s = t'.s := by
    apply ByteArray.ext
    exact Array.ext' (bytes_zero e3)
  clear a' b' hb h1 h2 e3
  rcases h with ⟨n, rfl⟩ | ⟨s, rfl⟩
  · rcases h' with ⟨m, rfl⟩ | ⟨r, rfl⟩
    · have : n = m := e2
      rw [this]
    · have : (3 : Int) = 7 := e1
      omega
  · rcases h' with ⟨m, rfl⟩ | ⟨r, rfl⟩
    · have : (7 : Int) = 3 := e1
      omega
    · have : s = r := e4
      rw [this]
theorem nm_trans {a b c : Tree} (ha : Nm a) (hb : Nm b) (hc : Nm c) (h1 : lessT a b = true) (h2 : lessT b c = true) : lessT a c = true := by
  rw [nm_less ha hb] at h1
  rw [nm_less hb hc] at h2
  rw [nm_less ha hc]
  have := bytes_trans a.s.data.toList b.s.data.toList c.s.data.toList
  omega
theorem nm_weak {a b c : Tree} (ha : Nm a) (hb : Nm b) (hc : Nm c) (h1 : lessT a b = false) (h2 : lessT b c = false) : lessT a c = false := by
  cases h : lessT a c with
  | false => rfl
  | true =>
    cases hcb : lessT c b with
    | true => rw [nm_trans ha hc hb h hcb] at h1; cases h1
    | false =>
      have := nm_eq hb hc h2 hcb
      subst this
      rw [h1] at h; cases h
theorem ins_weak {x y : Tree} {σ : List Tree} {k : Nat} (hσ : σ.length = 2 * k) (hx : Nm x) (hn : ∀ z ∈ evens σ, Nm z) (hw : (evens σ).Pairwise (fun a b => lessT b a = false)) : (evens (insF lessT x y σ)).Pairwise (fun a b => lessT b a = false) := by
  obtain ⟨K, h1, h2, h3, h4, h5, h6⟩ := ins_parts (x := x) (y := y) hσ
  have e : evens σ = evens (σ.take (2 * K)) ++ evens (σ.drop (2 * K)) := by rw [← evens_app K _ _ h3, List.take_append_drop]
  rw [e] at hw hn
  rw [h2, evens_app K _ _ h3, evens]
  rw [List.pairwise_append] at hw ⊢
  obtain ⟨w1, w2, w3⟩ := hw
  have hback : ∀ z ∈ evens (σ.drop (2 * K)), lessT z x = false := by
    intro z hz
    have h := h5 z hz
    have hb := lessT_both x z
    rw [h] at hb; simpa using hb
  have hfront : ∀ z ∈ evens (σ.take (2 * K)), lessT x z = false := by
    intro z hz
    have hlen := evens_len (σ.take (2 * K))
    obtain ⟨j, hj, ez⟩ := List.getElem_of_mem hz
    have hKp : 0 < K := by rw [h3] at hlen; omega
    obtain ⟨J, rfl⟩ : ∃ J, K = J + 1 := ⟨K - 1, by omega⟩
    obtain ⟨hJ, hl⟩ := h6 J rfl
    have hJl : J < (evens (σ.take (2 * (J + 1)))).length := by rw [hlen, h3]; omega
    obtain ⟨g, eg⟩ := evens_at h3 hJl
    have eg2 : (evens (σ.take (2 * (J + 1))))[J] = σ[2 * J] := by rw [eg, List.getElem_take]
    by_cases ej : j = J
    · subst ej; rw [← ez, eg2]; exact hl
    · have hw1 := (List.pairwise_iff_getElem.1 w1) j J hj hJl (by rw [hlen, h3] at hj; omega)
      rw [ez, eg2] at hw1
      refine nm_weak hx (hn _ (List.mem_append_left _ (List.getElem_mem hJl))) (hn z (List.mem_append_left _ hz)) ?_ ?_
      · rw [eg2]; exact hl
      · rw [eg2]; exact hw1
  refine ⟨w1, List.pairwise_cons.2 ⟨hback, w2⟩, fun a ha b hb => ?_⟩
  rcases List.mem_cons.1 hb with q | q
  · subst q; exact hfront a ha
  · exact w3 a ha b q
theorem evens_take {l : List Tree} {i : Nat} (h : 2 * i ≤ l.length) {z : Tree} (hz : z ∈ evens (l.take (2 * i))) : z ∈ evens l := by
  have : evens l = evens (l.take (2 * i)) ++ evens (l.drop (2 * i)) := by rw [← evens_app i _ _ (by rw [List.length_take]; omega), List.take_append_drop]
  rw [this]; exact List.mem_append_left _ hz
theorem sort_weak {l : List Tree} (hn : ∀ z ∈ evens l, Nm z) : ∀ {i : Nat}, 2 * i ≤ l.length → (evens (sortF lessT l i)).Pairwise (fun a b => lessT b a = false)
  | 0, _ => by simp [sortF, evens]
  | i + 1, h => by
    rw [sortF_succ (by omega)]
    refine ins_weak (k := i) (sortF_len (by omega)) (hn _ ?_) (fun z hz => hn z (evens_take (i := i) (by omega) ((sort_evens (i := i) (by omega)).mem_iff.1 hz))) (sort_weak hn (by omega))
    refine evens_take (i := i + 1) h ?_
    rw [take_two (by omega), evens_app i _ _ (by rw [List.length_take]; omega)]
    exact List.mem_append_right _ (by simp [evens])
theorem sorted_once {l : List Tree} (hn : ∀ z ∈ l, Nm z) (hw : l.Pairwise (fun a b => lessT b a = false)) : sortedL l = onceB l := by
  rw [onceB_eq]
  by_cases hd : l.Nodup
  · simp only [hd, decide_true]
    refine sortedL_yes fun k h => ?_
    have h1 := (List.pairwise_iff_getElem.1 hw) k (k + 1) (by omega) h (by omega)
    have h2 := (List.pairwise_iff_getElem.1 hd) k (k + 1) (by omega) h (by omega)
    cases hl : lessT l[k] l[k + 1] with
    | true => rfl
    | false => exact absurd (nm_eq (hn _ (List.getElem_mem _)) (hn _ (List.getElem_mem _)) hl h1) h2
  · simp only [hd, decide_false]
    cases hs : sortedL l with
    | false => rfl
    | true =>
      exfalso
      refine hd ?_
      have hadj : ∀ k (h : k + 1 < l.length), lessT l[k] l[k + 1] = true := by
        unfold sortedL at hs
        simpa using hs
      have hall : ∀ d i (h : i + (d + 1) < l.length), lessT l[i] l[i + (d + 1)] = true := by
        intro d
        induction d with
        | zero => intro i h; exact hadj i h
        | succ d ih =>
          intro i h
          exact nm_trans (hn _ (List.getElem_mem _)) (hn _ (List.getElem_mem _)) (hn _ (List.getElem_mem _)) (ih i (by omega)) (hadj (i + (d + 1)) (by omega))
      refine List.pairwise_iff_getElem.2 fun i j hi hj hij e => ?_
      have := hall (j - i - 1) i (by omega)
      have e2 : i + (j - i - 1 + 1) = j := by omega
      simp only [e2] at this
      rw [e, lessT_irr] at this; cases this

theorem sortT_kind (t : Tree) : (sortT t).kind = t.kind := by unfold sortT; split <;> rfl
theorem sortT_len (t : Tree) : (sortT t).l.length = t.l.length := by
  unfold sortT
  split
  · rename_i h
    unfold pairedB at h
    simp only [Bool.and_eq_true, beq_iff_eq] at h
    rw [Tree.l_mk, sortF_len (by omega)]; omega
  · rfl
theorem sortT_paired (t : Tree) : pairedB (sortT t) = pairedB t := by unfold pairedB; rw [sortT_kind, sortT_len]
theorem paired_parts {t : Tree} (h : pairedB t = true) : t.kind = 10 ∧ t.l.length = 2 * (t.l.length / 2) := by
  unfold pairedB at h
  simp only [Bool.and_eq_true, beq_iff_eq] at h
  exact ⟨h.1, by omega⟩
theorem sortT_l {t : Tree} (h : pairedB t = true) : (sortT t).l = sortF lessT t.l (t.l.length / 2) := by unfold sortT; rw [if_pos h]; rfl
theorem sortT_not {t : Tree} (h : pairedB t = false) : sortT t = t := by unfold sortT; rw [h]; rfl
theorem take_all {t : Tree} (h : pairedB t = true) : t.l.take (2 * (t.l.length / 2)) = t.l := List.take_of_length_le (by have := (paired_parts h).2; omega)
/-- A name stands for the same when the pairs are sorted. -/
theorem lookO_sort {t : Tree} (n : Tree) : lookO (sortT t) n = lookO t n := by
  unfold lookO
  rw [sortT_paired]
  cases h : pairedB t with
  | false => rfl
  | true =>
    rw [if_pos rfl, if_pos rfl, lookAt_take _ _ _ (by omega), lookAt_take _ _ _ (by omega), sortT_len, take_all h, sortT_l h, List.take_of_length_le (by rw [sortF_len (by omega)]; omega), sort_look n (by omega), take_all h]
theorem lookO_some {t n : Tree} (h : pairedB t = true) (hn : n ∈ namesF t) : (lookO t n).isSome = true := by
  unfold lookO
  rw [if_pos h, lookAt_take _ _ _ (by omega), take_all h]
  unfold namesF at hn
  rw [if_pos (paired_parts h).1] at hn
  exact lookE_some _ _ (paired_parts h).2 hn
theorem names_sort {t : Tree} (h : pairedB t = true) : (namesF (sortT t)).Perm (namesF t) := by
  unfold namesF
  rw [sortT_kind, if_pos (paired_parts h).1, if_pos (paired_parts h).1, sortT_l h]
  have := sort_evens (l := t.l) (i := t.l.length / 2) (by omega)
  rw [take_all h] at this
  exact this
theorem once_sort {t : Tree} (h : pairedB t = true) : onceB (namesF (sortT t)) = onceB (namesF t) := once_perm (names_sort h)
theorem sorted_sort {t : Tree} (h : pairedB t = true) (hn : ∀ z ∈ namesF t, Nm z) : sortedL (namesF (sortT t)) = onceB (namesF t) := by
  have hk := (paired_parts h).1
  rw [← once_sort h]
  refine sorted_once (fun z hz => hn z ((names_sort h).mem_iff.1 hz)) ?_
  unfold namesF
  rw [sortT_kind, if_pos hk, sortT_l h]
  refine sort_weak (fun z hz => hn z ?_) (by omega)
  unfold namesF; rw [if_pos hk]; exact hz
end Go.Proofs.YtilmhemcpgiikaaDoor
/- The laws' own comparison of trees. -/
namespace Go.Proofs.YtilmhemcpgiikaaDoor
open Go.Deep Go.ChangeShapes Go.WideShapes Go.ChangeAt Go.RowKit
open Go.ChangeMaps (open_string shut_string)

set_option maxRecDepth 100000 in
set_option maxHeartbeats 4000000 in
theorem sameLaw_of (t : Tree) (ih : ∀ t' ∈ t.l, SameC 63 t') : SameC 63 t := by
  intro t' w u u' hu hu' hfit hfit'
  obtain ⟨a, cap, b, off, rfl, hcap, hmax, ha, hl⟩ := hu
  obtain ⟨a', cap', b', off', rfl, hcap', hmax', ha', hl'⟩ := hu'
  unfold maxLen at hmax hmax'
  have IH := Lib.hid ih; clear ih
  have HL := Lib.hid hl; clear hl
  have HA := Lib.hid ha; clear ha
  have HL' := Lib.hid hl'; clear hl'
  have HA' := Lib.hid ha'; clear ha'
  have HW := Lib.hid (vbelow2 w (.cells #[.int .i64 t.kind, .int .i64 t.n, .int .i64 t.x, .string t.s, .slice a t.l.length cap] 29) (.cells #[.int .i64 t'.kind, .int .i64 t'.n, .int .i64 t'.x, .string t'.s, .slice a' t'.l.length cap'] 29))
  cases e1 : (t.kind != t'.kind) with
  | true =>
    have HF := Lib.hid (same_kind (t := t) (t' := t') (by simpa using e1))
    go_enter Tryd.func63, Tryd.ntmps63
    go_wp2_with fail
    go_ret
    exact ⟨ret_bool HF.out.symm, HW.out⟩
  | false =>
    cases e2 : (t.n != t'.n) with
    | true =>
      have HF := Lib.hid (same_n (t := t) (t' := t') (by simpa using e2))
      go_enter Tryd.func63, Tryd.ntmps63
      go_wp2_with fail
      go_ret
      exact ⟨ret_bool HF.out.symm, HW.out⟩
    | false =>
      cases e3 : (t.x != t'.x) with
      | true =>
        have HF := Lib.hid (same_x (t := t) (t' := t') (by simpa using e3))
        go_enter Tryd.func63, Tryd.ntmps63
        go_wp2_with fail
        go_ret
        exact ⟨ret_bool HF.out.symm, HW.out⟩
      | false =>
        by_cases e4 : t.s.toList = t'.s.toList
        · have hsame := same_l (t := t) (t' := t') (by simpa using e1) (by simpa using e2) (by simpa using e3) (toList_inj e4)
          cases e5 : ((t.l.length : Int) != (t'.l.length : Int)) with
          | true =>
            have HF := Lib.hid (hsame.trans (sameL_len (by simp at e5; omega)))
            clear hsame
            go_enter Tryd.func63, Tryd.ntmps63
            go_wp2_with fail
            go_ret
            exact ⟨ret_bool HF.out.symm, HW.out⟩
          | false =>
            have hll : t.l.length = t'.l.length := by simp at e5; omega
            have HS := Lib.hid hsame
            have HLL := Lib.hid hll
            clear hsame hll
            go_enter Tryd.func63, Tryd.ntmps63
            go_wp2_with fail
            generalize hW0 : ((w.alloc (.cells #[.int .i64 t.kind, .int .i64 t.n, .int .i64 t.x, .string t.s, .slice a t.l.length cap] 29)).alloc (.cells #[.int .i64 t'.kind, .int .i64 t'.n, .int .i64 t'.x, .string t'.s, .slice a' t'.l.length cap'] 29)) = W0 at *
            have hbx := fun w1 (h : Below W0.heap.size W0 w1) => boxes2 (w := w) (w1 := w1) (by rw [hW0]; exact h)
            have HBX := Lib.hid hbx
            have hs0 : W0.heap.size = w.heap.size + 2 := by rw [← hW0]; simp only [World.size_alloc]
            clear hbx hW0
            go_loopw [5] (fun i wr => ∃ j : Nat, j ≤ t.l.length ∧ i = .int .i64 j ∧ Hid (t.l.take j = t'.l.take j) ∧ Hid (Below W0.heap.size W0 wr)) (fun i _ => t.l.length - (intOf i).toNat)
            case atStart => exact ⟨0, by omega, rfl, Lib.hid (by simp), Lib.hid (Below.refl _ _)⟩
            case round =>
              obtain ⟨j, hj, rfl, HT, HBW⟩ := hrel
              obtain ⟨p4, q4⟩ := HBX.out _ HBW.out
              have hszr := HBW.out.size
              have hbw0 : Below w.heap.size w wr := HW.out.trans (HBW.out.mono (by omega))
              by_cases hjl : j < t.l.length
              · have hjl' : j < t'.l.length := by have := HLL.out; omega
                obtain rfl : a = some ⟨b, off, none⟩ := HA.out (by intro h; rw [h] at hjl; simp at hjl)
                obtain rfl : a' = some ⟨b', off', none⟩ := HA'.out (by intro h; rw [h] at hjl'; simp at hjl')
                obtain ⟨x, c0, c1, c2, c3, c4, hsl, hft⟩ := ((HL.out j hjl).kept hbw0).parts
                obtain ⟨x', d0, d1, d2, d3, d4, hsl', hft'⟩ := ((HL'.out j hjl').kept hbw0).parts
                have hih := IH.out t.l[j] (List.getElem_mem hjl) t'.l[j]
                have hst := take_snocS hjl
                have hst' := take_snocS hjl'
                have hat := fun h => sameL_at hjl hjl' h
                generalize t.l[j] = r at *
                generalize t'.l[j] = r' at *
                have HC := Lib.hid (hih wr.drew x x' (hsl.kept (Below.refl _ _).drew) (hsl'.kept (Below.refl _ _).drew) hft hft')
                have HST := Lib.hid hst; have HST' := Lib.hid hst'; have HAT := Lib.hid hat
                clear hih hsl hsl' hft hft' hst hst' hat
                cases hb : sameB r r' with
                | true =>
                  rw [hb] at HC
                  have HRR := Lib.hid (sameB_true.1 hb)
                  clear hb
                  go_wp2_with fail
                  go_still_tail 10, (by kernel_rfl)
                  change wpList _ _ _ _ _ wr.drew
                  go_wp2_with fail
                  refine HC.out.mono ?_
                  rintro _ w1 ⟨rfl, hb1'⟩
                  have hb1 : Below wr.heap.size wr w1 := ⟨hb1'.os, hb1'.tape, hb1'.output, hb1'.size, hb1'.block⟩
                  clear hb1'
                  go_wp2_with fail
                  go_roundw
                  case rel => exact ⟨j + 1, by omega, by go_num, Lib.hid (by rw [HST.out, HST'.out, HT.out, HRR.out]), Lib.hid (HBW.out.trans (hb1.mono hszr))⟩
                  case measure => simp [intOf]; omega
                | false =>
                  rw [hb] at HC
                  have HF := Lib.hid (HS.out.trans (HAT.out hb))
                  clear hb
                  go_wp2_with fail
                  go_still_tail 10, (by kernel_rfl)
                  change wpList _ _ _ _ _ wr.drew
                  go_wp2_with fail
                  refine HC.out.mono ?_
                  rintro _ w1 ⟨rfl, hb1'⟩
                  have hb1 : Below wr.heap.size wr w1 := ⟨hb1'.os, hb1'.tape, hb1'.output, hb1'.size, hb1'.block⟩
                  clear hb1'
                  go_wp2_with fail
                  go_ret
                  exact ⟨ret_bool HF.out.symm, hbw0.trans (hb1.mono hbw0.size)⟩
              · obtain rfl : j = t.l.length := by omega
                have hf : sameL t.l t'.l = true := by
                  have h := HT.out
                  rw [List.take_length] at h
                  rw [HLL.out, List.take_length] at h
                  exact sameL_true.2 h
                have HF := Lib.hid (HS.out.trans hf)
                clear hf
                go_wp2_with fail
                go_ret
                exact ⟨ret_bool HF.out.symm, hbw0⟩
        · have HF := Lib.hid (same_s (t := t) (t' := t') (fun e => e4 (by rw [e])))
          go_enter Tryd.func63, Tryd.ntmps63
          go_wp2_with fail
          go_ret
          exact ⟨ret_bool HF.out.symm, HW.out⟩
theorem sameLaw_c (t : Tree) : SameC 63 t := Tree.ind (p := SameC 63) sameLaw_of t
theorem sameVals_c (l l' : List Tree) (w : World) (u u' : Value) (hu : TSl w u l) (hu' : TSl w u' l') :
    Calls Tryd.prog 64 #[u, u'] w fun e w' => e = .returned (.bool (sameB (.mk 0 0 0 { data := #[] } l) (.mk 0 0 0 { data := #[] } l'))) ∧ Below w.heap.size w w' := by
  have HC := Lib.hid (fun ww (hb : Below w.heap.size w ww) => sameLaw_c (.mk 0 0 0 { data := #[] } l) (.mk 0 0 0 { data := #[] } l') ww u u' (hu.kept hb) (hu'.kept hb) ⟨by show _ ≤ (0 : Int) ∧ (0 : Int) ≤ _; decide, by show _ ≤ (0 : Int) ∧ (0 : Int) ≤ _; decide, by show _ ≤ (0 : Int) ∧ (0 : Int) ≤ _; decide, by show (0 : Nat) ≤ _; decide⟩ ⟨by show _ ≤ (0 : Int) ∧ (0 : Int) ≤ _; decide, by show _ ≤ (0 : Int) ∧ (0 : Int) ≤ _; decide, by show _ ≤ (0 : Int) ∧ (0 : Int) ≤ _; decide, by show (0 : Nat) ≤ _; decide⟩)
  obtain ⟨a, n, c, rfl⟩ := hu.form
  obtain ⟨a', n', c', rfl⟩ := hu'.form
  clear hu hu'
  go_enter Tryd.func64, Tryd.ntmps64
  go_wp2_with fail
  refine (HC.out _ (Below.refl _ _)).mono ?_
  rintro _ w1 ⟨rfl, b1⟩
  have B1 := Lib.hid b1; clear b1
  go_wp2_with fail
  go_ret
  exact ⟨rfl, B1.out⟩
end Go.Proofs.YtilmhemcpgiikaaDoor
/- Marks: every field of a tree that a call owns is overwritten, and found again. -/
namespace Go.Proofs.YtilmhemcpgiikaaDoor
open Go.Deep Go.ChangeShapes Go.WideShapes Go.ChangeAt Go.RowKit
open Go.ChangeMaps (open_string shut_string)

/-- The digits of a mark. -/
def mtGo : Nat → Nat → List UInt8 → List UInt8
  | 0, _, acc => acc
  | f + 1, k, acc => if k = 0 then acc else mtGo f (k / 10) (UInt8.ofNat (48 + k % 10) :: acc)
def mt (k : Nat) : ByteArray := ⟨(109 :: mtGo k k []).toArray⟩
theorem mtGo_zero : ∀ f acc, mtGo f 0 acc = acc
  | 0, _ => rfl
  | _ + 1, _ => by simp [mtGo]
theorem mtGo_len : ∀ f k acc, (mtGo f k acc).length ≤ acc.length + f
  | 0, _, _ => by simp [mtGo]
  | f + 1, k, acc => by
    unfold mtGo
    split
    · omega
    · have := mtGo_len f (k / 10) (UInt8.ofNat (48 + k % 10) :: acc)
      rw [List.length_cons] at this; omega
theorem mtGo_succ {k : Nat} (h : k ≠ 0) (f : Nat) (acc : List UInt8) : mtGo (f + 1) k acc = mtGo f (k / 10) (UInt8.ofNat (48 + k % 10) :: acc) := by
  rw [mtGo, if_neg h]
theorem mt_size (k : Nat) : (mt k).size ≤ k + 1 := by
  have := mtGo_len k k []
  simp [mt, ByteArray.size] at *; omega

theorem conv_oneM (c : UInt8) (z : Int) (hz : z = (c.toNat : Int)) (w : World) :
    (convert 39 9 (.slice (some ⟨w.heap.size, 0, none⟩) 1 1)).run Tryd.prog (w.alloc (.cells #[.int .u8 z] 5)) = .ok (.string ⟨#[c]⟩) (w.alloc (.cells #[.int .u8 z] 5)) := by
  refine run_str (l := [c]) Tryd.underlying39 Tryd.underlying5 Tryd.underlying9 rfl (.inr ⟨_, 0, rfl, by simp, fun j hj => ?_⟩)
  obtain rfl : j = 0 := by simpa [bz] using hj
  rw [World.cell?_alloc_at _ _ _ _ rfl, hz]
  rfl
theorem str_consM (c : UInt8) (l : List UInt8) : (({ data := #[c] } : ByteArray) ++ { data := l.toArray }) = { data := (c :: l).toArray } := by
  apply ByteArray.ext; simp

set_option maxRecDepth 100000 in
set_option maxHeartbeats 1000000 in
theorem markText_c (k : Nat) (w : World) (h1 : 1 ≤ k) (h2 : k ≤ 8388608) :
    Calls Tryd.prog 136 #[.int .i64 k] w fun e w' => e = .returned (.string (mt k)) ∧ Below w.heap.size w w' := by
  have hd0 : decide ((k : Int) ≤ 0) = false := decide_eq_false (by omega)
  go_enter Tryd.func136, Tryd.ntmps136
  go_wp2_with fail
  clear hd0
  go_loopw [0, 3] (fun x s wr => ∃ (l : List UInt8) (X f : Nat), s = .string ⟨l.toArray⟩ ∧ x = .int .i64 X ∧ X ≤ f ∧ l.length + f ≤ k ∧ Hid (mtGo f X l = mtGo k k []) ∧ Below w.heap.size w wr) (fun x _ _ => (intOf x).toNat)
  case atStart => exact ⟨[], k, k, rfl, rfl, Nat.le_refl _, by simp, Lib.hid rfl, Below.refl _ _⟩
  case round =>
    obtain ⟨l, X, f, rfl, rfl, hXf, hlf, hd, hbw⟩ := hrel
    by_cases h0 : X = 0
    · subst h0
      have hm : ({ data := #[109] } : ByteArray) ++ { data := l.toArray } = mt k := by
        rw [str_consM, mt, ← hd.out, mtGo_zero]
      have HM := Lib.hid hm; clear hm hd
      go_wp2_with fail
      go_ret
      exact ⟨ret_str HM.out, hbw⟩
    · have hpos : decide ((0 : Int) < (X : Int)) = true := decide_eq_true (by omega)
      obtain ⟨f', rfl⟩ : ∃ f', f = f' + 1 := ⟨f - 1, by omega⟩
      have hst := hd.out
      rw [mtGo_succ h0] at hst
      have hm : (X : Int).tmod 10 = ((X % 10 : Nat) : Int) := by rw [Int.tmod_eq_emod_of_nonneg (by omega)]; omega
      have hq : (X : Int).tdiv 10 = ((X / 10 : Nat) : Int) := by rw [Int.tdiv_eq_ediv_of_nonneg (by omega)]; omega
      have hdg : X % 10 < 10 := Nat.mod_lt _ (by decide)
      have hql : X / 10 < X := by omega
      obtain ⟨Y, hY⟩ : ∃ Y, Y = X / 10 := ⟨_, rfl⟩
      obtain ⟨d, hdd⟩ : ∃ d, d = X % 10 := ⟨_, rfl⟩
      rw [← hY] at hst hq hql
      rw [← hdd] at hst hm hdg
      have hw : IntKind.i64.wrap (Y : Int) = Y := IntWalk.i64_in _ (by omega)
      have hc8 : (48 : Int) + (d : Int) = ((UInt8.ofNat (48 + d)).toNat : Int) := by simp; omega
      have hcv := conv_oneM (UInt8.ofNat (48 + d)) _ hc8 wr
      have HST := Lib.hid hst; clear hst hd hY hdd hc8
      generalize UInt8.ofNat (48 + d) = c at *
      go_wp2_with fail
      rw [str_consM]
      go_roundw
      case rel => exact ⟨_, Y, f', rfl, rfl, by omega, by simp; omega, HST, hbw.alloc hbw.size _⟩
      case measure => simp [intOf]; omega

mutual
def Tree.mark : Tree → Nat → Tree | .mk _ _ _ _ l, k => .mk k ((k : Int) + 1) ((k : Int) + 1 + 1) (mt (k + 3)) (markL l (k + 4))
/-- Trees, every field overwritten by its mark. -/
def markL : List Tree → Nat → List Tree | [], _ => [] | t :: ts, k => t.mark k :: markL ts (k + 4 * t.sz)
end
theorem Tree.mark_eq (t : Tree) (k : Nat) : t.mark k = .mk k ((k : Int) + 1) ((k : Int) + 1 + 1) (mt (k + 3)) (markL t.l (k + 4)) := by cases t; rw [Tree.mark]; rfl
theorem szL_app : ∀ (l : List Tree) (t : Tree), szL (l ++ [t]) = szL l + t.sz
  | [], t => by simp [szL]
  | u :: l, t => by simp only [List.cons_append, szL, szL_app l t]; omega
theorem sz_eq (t : Tree) : t.sz = 1 + szL t.l := by cases t; rw [Tree.sz]; rfl
theorem markL_len : ∀ (l : List Tree) (k : Nat), (markL l k).length = l.length
  | [], _ => by simp [markL]
  | t :: l, k => by simp [markL, markL_len l]
theorem markL_snoc : ∀ (l : List Tree) (t : Tree) (k : Nat), markL (l ++ [t]) k = markL l k ++ [t.mark (k + 4 * szL l)]
  | [], t, k => by simp [markL, szL]
  | u :: l, t, k => by
    simp only [List.cons_append, markL, szL, markL_snoc l t]
    congr 4; omega
theorem szL_take_succ {l : List Tree} {j : Nat} (h : j < l.length) : szL (l.take (j + 1)) = szL (l.take j) + l[j].sz := by
  rw [List.take_succ_eq_append_getElem h, szL_app]
theorem szL_take_le : ∀ (l : List Tree) (j : Nat), szL (l.take j) ≤ szL l
  | [], _ => by simp
  | t :: l, 0 => by simp [szL]
  | t :: l, j + 1 => by
    have := szL_take_le l j
    simp only [List.take_succ_cons, szL]; omega

/-- Nothing turned but in blocks of S. -/
structure Fr (S : Nat → Prop) (w w' : World) : Prop where
  os : w'.os = w.os
  tape : w'.tape = w.tape
  output : w'.output = w.output
  size : w.heap.size ≤ w'.heap.size
  block : ∀ b, b < w.heap.size → ¬ S b → w'.heap[b]? = w.heap[b]?
theorem Fr.refl (S : Nat → Prop) (w : World) : Fr S w w := ⟨rfl, rfl, rfl, Nat.le_refl _, fun _ _ _ => rfl⟩
theorem Fr.trans {S : Nat → Prop} {a b c : World} (h : Fr S a b) (k : Fr S b c) : Fr S a c :=
  ⟨k.os.trans h.os, k.tape.trans h.tape, k.output.trans h.output, Nat.le_trans h.size k.size, fun i hi hn => (k.block i (Nat.lt_of_lt_of_le hi h.size) hn).trans (h.block i hi hn)⟩
theorem Fr.mono {S S' : Nat → Prop} {w w' : World} (h : Fr S w w') (hS : ∀ b, S b → S' b) : Fr S' w w' := ⟨h.os, h.tape, h.output, h.size, fun b hb hn => h.block b hb (fun hs => hn (hS b hs))⟩
theorem Fr.of_below {S : Nat → Prop} {w w' : World} (h : Below w.heap.size w w') : Fr S w w' := ⟨h.os, h.tape, h.output, h.size, fun b hb _ => h.block b hb⟩
theorem Fr.setCell {S : Nat → Prop} {a w : World} (h : Fr S a w) {p : Addr} (hp : S p.block) (u : Value) : Fr S a (w.setCell p u) :=
  ⟨h.os, h.tape, h.output, by simpa [World.setCell] using h.size, fun b hb hn => (Below.heap_setCell _ _ _ _ (fun e => hn (by rw [e]; exact hp))).trans (h.block b hb hn)⟩
theorem Fr.below {S : Nat → Prop} {B : Nat} {a w w' : World} (h : Below B a w) (hf : Fr S w w') (hS : ∀ b, S b → B ≤ b) (hB : B ≤ w.heap.size) : Below B a w' :=
  h.trans ⟨hf.os, hf.tape, hf.output, hf.size, fun b hb => hf.block b (by omega) (fun hs => by have := hS b hs; omega)⟩

/-- One element of an owned row: its cells, its blocks, and how it may be turned. -/
theorem OSl.at {w : World} {T : TypeId} {v : Value} {l : List Tree} {S : Nat → Prop} (h : OSl w T v l S) (hlt : ∀ b, S b → b < w.heap.size) {j : Nat} (hj : j < l.length) :
    ∃ g cap u Sj, v = .slice (some ⟨g, 0, none⟩) l.length cap ∧ l.length ≤ cap ∧ cap ≤ maxLen ∧ S g ∧ (∀ b, Sj b → S b ∧ b ≠ g) ∧
      w.cell? ⟨g, j * 5, none⟩ = some (.int .i64 l[j].kind) ∧ w.cell? ⟨g, j * 5 + 1, none⟩ = some (.int .i64 l[j].n) ∧ w.cell? ⟨g, j * 5 + 2, none⟩ = some (.int .i64 l[j].x) ∧ w.cell? ⟨g, j * 5 + 3, none⟩ = some (.string l[j].s) ∧ w.cell? ⟨g, j * 5 + 4, none⟩ = some u ∧
      (∀ o, w.frozen? ⟨g, o, none⟩ = false) ∧ OSl w T u l[j].l Sj ∧ Fits l[j].kind l[j].n l[j].x l[j].s ∧
      (∀ (w' : World) (k n x : Int) (s : ByteArray) (l' : List Tree), Fits k n x s → w'.heap[g]? = ((((w.setCell ⟨g, j * 5, none⟩ (.int .i64 k)).setCell ⟨g, j * 5 + 1, none⟩ (.int .i64 n)).setCell ⟨g, j * 5 + 2, none⟩ (.int .i64 x)).setCell ⟨g, j * 5 + 3, none⟩ (.string s)).heap[g]? →
        (∀ b, b < w.heap.size → ¬ Sj b → b ≠ g → w'.heap[b]? = w.heap[b]?) → OSl w' T u l' Sj → OSl w' T v (l.set j (.mk k n x s l')) S) := by
  cases h with
  | nil => simp at hj
  | @row g cap f l us Si S h0 hrow hcap hmax hc hsub hS hSi hd =>
    obtain ⟨⟨e0, e1, e2, e3, e4⟩, fit⟩ := hc j hj
    have k0 := hrow.cell (i := j * 5) (by omega)
    have k1 := hrow.cell (i := j * 5 + 1) (by omega)
    have k2 := hrow.cell (i := j * 5 + 2) (by omega)
    have k3 := hrow.cell (i := j * 5 + 3) (by omega)
    have k4 := hrow.cell (i := j * 5 + 4) (by omega)
    rw [e0] at k0; rw [e1] at k1; rw [e2] at k2; rw [e3] at k3; rw [e4] at k4
    refine ⟨g, cap, us j, Si j, rfl, hcap, hmax, hS, fun b hb => hSi j b hj hb, k0, k1, k2, k3, k4, fun o => hrow.frozen o, hsub j hj, fit, ?_⟩
    intro w' k n x s l' hfit hg hframe ho
    have hrow2 := (((hrow.set (j * 5) (.int .i64 k)).set (j * 5 + 1) (.int .i64 n)).set (j * 5 + 2) (.int .i64 x)).set (j * 5 + 3) (.string s)
    have hrow3 := hrow2.of_block hg
    have key := OSl.row (w := w') (T := T) (g := g) (cap := cap) (l := l.set j (.mk k n x s l')) (us := us) (Si := Si) (S := S) (by simpa using h0) hrow3 (by simpa using hcap) hmax ?_ ?_ hS (fun i b hi hb => hSi i b (by simpa using hi) hb) (fun a i b ha hi hne => hd a i b (by simpa using ha) (by simpa using hi) hne)
    · simpa using key
    · intro i hi
      have hi' : i < l.length := by simpa using hi
      by_cases e : i = j
      · subst e
        rw [List.getElem_set_self]
        refine ⟨⟨?_, ?_, ?_, ?_, ?_⟩, hfit⟩
        · show (if _ then _ else _) = _
          simp
        · show (if _ then _ else _) = _
          simp
        · show (if _ then _ else _) = _
          simp
        · show (if _ then _ else _) = _
          simp
        · simp; exact e4
      · obtain ⟨⟨g0, g1, g2, g3, g4⟩, fit'⟩ := hc i hi'
        rw [List.getElem_set_ne (by omega)]
        refine ⟨⟨?_, ?_, ?_, ?_, ?_⟩, fit'⟩
        · simp only [show ¬ i * 5 = j * 5 + 3 by omega, show ¬ i * 5 = j * 5 + 2 by omega, show ¬ i * 5 = j * 5 + 1 by omega, show ¬ i * 5 = j * 5 by omega, if_false]; exact g0
        · simp only [show ¬ i * 5 + 1 = j * 5 + 3 by omega, show ¬ i * 5 + 1 = j * 5 + 2 by omega, show ¬ i * 5 + 1 = j * 5 + 1 by omega, show ¬ i * 5 + 1 = j * 5 by omega, if_false]; exact g1
        · simp only [show ¬ i * 5 + 2 = j * 5 + 3 by omega, show ¬ i * 5 + 2 = j * 5 + 2 by omega, show ¬ i * 5 + 2 = j * 5 + 1 by omega, show ¬ i * 5 + 2 = j * 5 by omega, if_false]; exact g2
        · simp only [show ¬ i * 5 + 3 = j * 5 + 3 by omega, show ¬ i * 5 + 3 = j * 5 + 2 by omega, show ¬ i * 5 + 3 = j * 5 + 1 by omega, show ¬ i * 5 + 3 = j * 5 by omega, if_false]; exact g3
        · simp only [show ¬ i * 5 + 4 = j * 5 + 3 by omega, show ¬ i * 5 + 4 = j * 5 + 2 by omega, show ¬ i * 5 + 4 = j * 5 + 1 by omega, show ¬ i * 5 + 4 = j * 5 by omega, if_false]; exact g4
    · intro i hi
      have hi' : i < l.length := by simpa using hi
      by_cases e : i = j
      · subst e
        rw [List.getElem_set_self]
        exact ho
      · rw [List.getElem_set_ne (by omega)]
        exact (hsub i hi').kept (fun b hb => hframe b (hlt b (hSi i b hi' hb).1) (fun hb' => hd i j b hi' hj e hb hb') (hSi i b hi' hb).2)

theorem cell_three {w : World} {g j : Nat} {a b c : Value} (r : Nat) (hr : 3 ≤ r) :
    (((w.setCell ⟨g, j * 5, none⟩ a).setCell ⟨g, j * 5 + 1, none⟩ b).setCell ⟨g, j * 5 + 2, none⟩ c).cell? ⟨g, j * 5 + r, none⟩ = w.cell? ⟨g, j * 5 + r, none⟩ := by
  exact (World.cell?_setCell_other _ ⟨g, j * 5 + 2, none⟩ ⟨g, j * 5 + r, none⟩ _ (by simp <;> omega)).trans ((World.cell?_setCell_other _ ⟨g, j * 5 + 1, none⟩ ⟨g, j * 5 + r, none⟩ _ (by simp <;> omega)).trans (World.cell?_setCell_other _ ⟨g, j * 5, none⟩ ⟨g, j * 5 + r, none⟩ _ (by simp <;> omega)))
def MarkC (l : List Tree) : Prop := ∀ (w : World) (v : Value) (S : Nat → Prop) (k : Nat), 1 ≤ k → k + 4 * szL l ≤ 8388600 → (∀ b, S b → b < w.heap.size) → OSl w 29 v l S →
  Calls Tryd.prog 82 #[v, .int .i64 k] w fun e w' => e = .returned (.int .i64 ((k + 4 * szL l : Nat) : Int)) ∧ OSl w' 29 v (markL l k) S ∧ Fr S w w'

theorem setCell_congr {w w' : World} (p : Addr) (v : Value) (h : w'.heap[p.block]? = w.heap[p.block]?) : (w'.setCell p v).heap[p.block]? = (w.setCell p v).heap[p.block]? := by
  simp only [World.setCell, Array.getElem?_modify, h]
theorem mark_set {l : List Tree} {j : Nat} (h : j < l.length) (k : Nat) : (markL (l.take j) k ++ l.drop j).set j (l[j].mark (k + 4 * szL (l.take j))) = markL (l.take (j + 1)) k ++ l.drop (j + 1) := by
  rw [List.take_succ_eq_append_getElem h, markL_snoc, List.set_append_right _ _ (by rw [markL_len, List.length_take]; omega), markL_len, List.length_take, Nat.min_eq_left (by omega), Nat.sub_self, List.append_assoc, List.drop_eq_getElem_cons h]
  rfl

set_option maxRecDepth 100000 in
set_option maxHeartbeats 4000000 in
theorem markValS_of (l : List Tree) (ih : ∀ t ∈ l, MarkC t.l) : MarkC l := by
  intro w v S k hk1 hk hlt ho
  obtain ⟨a, cap, b0, off0, rfl, hcap0, hmax0, -⟩ := ho.tsl
  have hll : ∀ j, j ≤ l.length → szL (l.take j) ≤ szL l := fun j _ => szL_take_le l j
  have hlen : l.length ≤ 8388600 := by
    have : ∀ l : List Tree, l.length ≤ szL l := by
      intro l
      induction l with
      | nil => simp
      | cons t l ih => have := sz_eq t; simp only [szL, List.length_cons]; omega
    have := this l
    omega
  have IH := Lib.hid ih
  have HLT := Lib.hid hlt
  have HO := Lib.hid ho
  have HLL := Lib.hid hll
  clear ih hlt ho hll hcap0 hmax0
  go_enter Tryd.func82, Tryd.ntmps82
  go_wp2_with fail
  go_loopw [1, 5] (fun c i wr => ∃ (j K : Nat), j ≤ l.length ∧ K = k + 4 * szL (l.take j) ∧ c = .int .i64 K ∧ i = .int .i64 j ∧ Hid (OSl wr 29 (.slice a l.length cap) (markL (l.take j) k ++ l.drop j) S) ∧ Hid (Fr S w wr)) (fun _ i _ => l.length - (intOf i).toNat)
  case atStart => exact ⟨0, k, by omega, by simp [szL], rfl, rfl, Lib.hid (by simpa [markL] using HO.out), Lib.hid (Fr.refl _ _)⟩
  case round =>
    obtain ⟨j, K, hj, hK, rfl, rfl, HP, HF⟩ := hrel
    by_cases hjl : j < l.length
    · have hlt' : ∀ b, S b → b < wr.heap.size := fun b hb => Nat.lt_of_lt_of_le (HLT.out b hb) HF.out.size
      have hlen1 : (markL (l.take j) k ++ l.drop j).length = l.length := by simp [markL_len]; omega
      have hjx : j < (markL (l.take j) k ++ l.drop j).length := by omega
      have hget : (markL (l.take j) k ++ l.drop j)[j] = l[j] := by
        rw [List.getElem_append_right (by simp [markL_len]; omega)]
        simp [markL_len, Nat.min_eq_left (Nat.le_of_lt hjl)]
      obtain ⟨g, cap', u, Sj, hv, hcap, hmax, hSg, hSj, c0, c1, c2, c3, c4, hfz, hsub, hfit, hupd⟩ := HP.out.at hlt' hjx
      rw [hget] at c0 c1 c2 c3 hsub hfit
      rw [hlen1] at hv hcap
      have hset := mark_set hjl k
      have hKb : K + 4 * l[j].sz ≤ 8388600 := by
        have h1 := HLL.out (j + 1) (by omega)
        rw [szL_take_succ hjl] at h1
        omega
      have hsz := sz_eq l[j]
      have hmk := Tree.mark_eq l[j] K
      rw [← hK] at hset
      have hnxt : K + 4 * l[j].sz = k + 4 * szL (l.take (j + 1)) := by rw [szL_take_succ hjl]; omega
      have hih := IH.out l[j] (List.getElem_mem hjl)
      rw [hmk] at hset
      have HSET := Lib.hid hset; have HUPD := Lib.hid hupd; have HIH := Lib.hid hih; have HSUB := Lib.hid hsub; have HSJ := Lib.hid hSj; have HNX := Lib.hid hnxt; have HLT2 := Lib.hid hlt'
      clear hset hupd hih hsub hmk hget hjx hSj hnxt hlt' HP
      generalize l[j] = t at *
      injection hv with hv1 hv2 hv3
      subst hv1 hv3
      have hk1 : 1 ≤ K := by omega
      have HKK := Lib.hid hK; clear hK hk
      have hgl : g < wr.heap.size := World.block_lt_of_cell? wr _ c0
      have hf0 := hfz (j * 5); have hf1 := hfz (j * 5 + 1); have hf2 := hfz (j * 5 + 2); have hf3 := hfz (j * 5 + 3)
      have HFZ := Lib.hid hfz; clear hfz
      go_wp2_with fail
      have e3 : (K : Int) + 1 + 1 + 1 = ((K + 3 : Nat) : Int) := by omega
      rw [e3]
      refine (markText_c (K + 3) _ (by omega) (by omega)).mono ?_
      rintro _ w1 ⟨rfl, hb1⟩
      have hg1 := hb1.block g (by simpa [World.setCell] using hgl)
      have hsz1 := hb1.size
      have x3 := (World.cell?_of_block (a := ⟨g, j * 5 + 3, none⟩) hg1).trans ((cell_three 3 (by omega)).trans c3)
      have x4 := (World.cell?_of_block (a := ⟨g, j * 5 + 4, none⟩) hg1).trans ((cell_three 4 (by omega)).trans c4)
      have z3 : w1.frozen? ⟨g, j * 5 + 3, none⟩ = false := (World.frozen?_of_block (a := ⟨g, j * 5 + 3, none⟩) hg1).trans (by simpa using hf3)
      have HB1 := Lib.hid hb1; have HG1 := Lib.hid hg1
      clear hb1 hg1 c0 c1 c2 c3 c4 hf0 hf1 hf2 hf3
      obtain ⟨M, hM⟩ : ∃ M, M = mt (K + 3) := ⟨_, rfl⟩
      rw [← hM]
      have HM := Lib.hid hM; clear hM
      obtain ⟨u1, u2, u3, rfl⟩ : ∃ a n c, u = .slice a n c := HSUB.out.tsl.form
      go_wp2_with fail
      have e4 : (K : Int) + 3 + 1 = ((K + 4 : Nat) : Int) := by omega
      rw [e4]
      have hsz3 : wr.heap.size ≤ w1.heap.size := by simpa [World.setCell] using hsz1
      have hfr : ∀ b, b < wr.heap.size → b ≠ g → (w1.setCell ⟨g, j * 5 + 3, none⟩ (.string M)).heap[b]? = wr.heap[b]? := by
        intro b hb hne
        rw [Below.heap_setCell _ _ _ _ hne, HB1.out.block b (by simpa [World.setCell] using hb), Below.heap_setCell _ _ _ _ hne, Below.heap_setCell _ _ _ _ hne, Below.heap_setCell _ _ _ _ hne]
      refine (HIH.out _ _ Sj (K + 4) (by omega) (by omega) (fun b hb => ?_) (HSUB.out.kept (fun b hb => hfr b (HLT2.out b (HSJ.out b hb).1) (HSJ.out b hb).2))).mono ?_
      · have := HLT2.out b (HSJ.out b hb).1
        simp only [World.size_setCell]; omega
      rintro _ w2 ⟨rfl, ho2, hf2⟩
      have hng : ¬ Sj g := fun h => (HSJ.out g h).2 rfl
      have hres := HUPD.out w2 K ((K : Int) + 1) ((K : Int) + 1 + 1) M (markL t.l (K + 4)) ⟨by omega, by omega, by omega, by have := mt_size (K + 3); rw [HM.out]; omega⟩
        ((hf2.block g (by simp only [World.size_setCell]; omega) hng).trans (setCell_congr ⟨g, j * 5 + 3, none⟩ _ HG1.out))
        (fun b hb hn hne => (hf2.block b (by simp only [World.size_setCell]; omega) hn).trans (hfr b hb hne)) ho2
      rw [HM.out, HSET.out] at hres
      have hfs : Fr S w w2 := HF.out.trans ((((((Fr.refl S wr).setCell hSg _).setCell hSg _).setCell hSg _).trans (Fr.of_below HB1.out)).setCell hSg _ |>.trans (hf2.mono (fun b hb => (HSJ.out b hb).1)))
      have HR := Lib.hid hres; have HFS := Lib.hid hfs
      clear hres hfs ho2 hf2 hfr
      go_wp2_with fail
      go_roundw
      case rel => exact ⟨j + 1, _, by omega, rfl, by have := HNX.out; congr 1; omega, by go_num, HR, HFS⟩
      case measure => simp [intOf]; omega
    · obtain rfl : j = l.length := by omega
      have hfin := HP.out
      rw [List.take_length, List.drop_length, List.append_nil] at hfin
      rw [List.take_length] at hK
      have HFIN := Lib.hid hfin; have HKK := Lib.hid hK; clear hfin hK HP
      go_wp2_with fail
      go_ret
      exact ⟨ret_int (by have := HKK.out; omega), HFIN.out, HF.out⟩

theorem markC_all (t : Tree) : MarkC t.l := Tree.ind (p := fun t => MarkC t.l) (fun t ih => markValS_of t.l ih) t
theorem markValS_c (l : List Tree) : MarkC l := markValS_of l (fun t _ => markC_all t)

theorem markL_get : ∀ (l : List Tree) (k : Nat) {j : Nat} (h : j < l.length) (h' : j < (markL l k).length), (markL l k)[j] = l[j].mark (k + 4 * szL (l.take j))
  | t :: l, k, 0, _, _ => by simp [markL, szL]
  | t :: l, k, j + 1, h, h' => by
    have hj : j < l.length := by simpa using h
    have := markL_get l (k + 4 * t.sz) hj (by rw [markL_len]; exact hj)
    simp only [markL, List.getElem_cons_succ, List.take_succ_cons, szL] at this ⊢
    rw [this]; congr 1; omega

def HeldC (l : List Tree) : Prop := ∀ (w : World) (v : Value) (k : Nat), 1 ≤ k → k + 4 * szL l ≤ 8388600 → TSl w v (markL l k) →
  Calls Tryd.prog 83 #[v, .int .i64 k] w fun e w' => e = .returned (.int .i64 ((k + 4 * szL l : Nat) : Int)) ∧ Below w.heap.size w w'

set_option maxRecDepth 100000 in
set_option maxHeartbeats 4000000 in
theorem heldValS_of (l : List Tree) (ih : ∀ t ∈ l, HeldC t.l) : HeldC l := by
  intro w v k hk1 hk hv
  obtain ⟨a, cap, b, off, rfl, hcap, hmax, ha, hl⟩ := hv
  rw [markL_len]
  rw [markL_len] at hcap
  have hlen : l.length ≤ 8388600 := by
    have : ∀ l : List Tree, l.length ≤ szL l := by
      intro l
      induction l with
      | nil => simp
      | cons t l ih => have := sz_eq t; simp only [szL, List.length_cons]; omega
    have := this l
    omega
  have ha' : l ≠ [] → a = some ⟨b, off, none⟩ := fun h => ha (fun e => h (by have := congrArg List.length e; rw [markL_len] at this; exact List.eq_nil_of_length_eq_zero this))
  have hl' : ∀ j (h : j < l.length), TAt w b (off + j * 5) (l[j].mark (k + 4 * szL (l.take j))) := fun j h => by
    have := hl j (by rw [markL_len]; exact h)
    rwa [markL_get l k h] at this
  have hll : ∀ j, j ≤ l.length → szL (l.take j) ≤ szL l := fun j _ => szL_take_le l j
  have IH := Lib.hid ih; have HL := Lib.hid hl'; have HA := Lib.hid ha'; have HLL := Lib.hid hll
  clear ih hl hl' ha ha' hll hcap hmax
  go_enter Tryd.func83, Tryd.ntmps83
  go_wp2_with fail
  go_loopw [1, 5] (fun c i wr => ∃ (j K : Nat), j ≤ l.length ∧ K = k + 4 * szL (l.take j) ∧ c = .int .i64 K ∧ i = .int .i64 j ∧ Hid (Below w.heap.size w wr)) (fun _ i _ => l.length - (intOf i).toNat)
  case atStart => exact ⟨0, k, by omega, by simp [szL], rfl, rfl, Lib.hid (Below.refl _ _)⟩
  case round =>
    obtain ⟨j, K, hj, hK, rfl, rfl, HF⟩ := hrel
    by_cases hjl : j < l.length
    · obtain rfl : a = some ⟨b, off, none⟩ := HA.out (by intro h; rw [h] at hjl; simp at hjl)
      have hat := HL.out j hjl
      rw [← hK, Tree.mark_eq] at hat
      obtain ⟨u, c0, c1, c2, c3, c4, hsl, hfit⟩ := (hat.kept HF.out).parts
      simp only [Tree.kind_mk, Tree.n_mk, Tree.x_mk, Tree.s_mk, Tree.l_mk] at c0 c1 c2 c3 hsl
      have hKb : K + 4 * l[j].sz ≤ 8388600 := by
        have h1 := HLL.out (j + 1) (by omega)
        rw [szL_take_succ hjl] at h1
        omega
      have hsz := sz_eq l[j]
      have hnxt : K + 4 * l[j].sz = k + 4 * szL (l.take (j + 1)) := by rw [szL_take_succ hjl]; omega
      have hih := IH.out l[j] (List.getElem_mem hjl)
      have HIH := Lib.hid hih; have HNX := Lib.hid hnxt; have HSL := Lib.hid hsl
      clear hih hnxt hsl hat hfit
      generalize l[j] = t at *
      have hk1 : 1 ≤ K := by omega
      have HKK := Lib.hid hK; clear hK hk
      have n1 : ((K : Int) != (K : Int)) = false := by simp
      have n2 : ((K : Int) + 1 != (K : Int) + 1) = false := by simp
      have n3 : ((K : Int) + 1 + 1 != (K : Int) + 1 + 1) = false := by simp
      have hmt := fun w1 => markText_c (K + 3) w1 (by omega) (by omega)
      obtain ⟨M, hM⟩ : ∃ M, M = mt (K + 3) := ⟨_, rfl⟩
      rw [← hM] at c3 hmt
      rw [show ((K + 3 : Nat) : Int) = (K : Int) + 1 + 1 + 1 by omega] at hmt
      have HMT := Lib.hid hmt; clear hM hmt
      have hbl : b < wr.heap.size := World.block_lt_of_cell? wr _ c0
      have HK3 : Hid (∀ w1, Below wr.heap.size wr w1 → w1.cell? ⟨b, off + j * 5 + 3, none⟩ = some (.string M)) := Lib.hid (fun w1 hb => (hb.cell (p := ⟨b, off + j * 5 + 3, none⟩) hbl).trans c3)
      have d5 : Below wr.heap.size wr wr.drew := (Below.refl _ _).drew
      go_wp2_with fail
      go_region_held3 (fun w' => w'.cell? ⟨b, off + j * 5 + 3, none⟩ = some (.string M)) (first | exact HK3.out _ d6 | exact HK3.out _ d5)
        (first
         | (go_at_call 136; refine (HMT.out _).mono ?_; rintro _ w6 ⟨rfl, b6⟩; have d6 := d5.trans (b6.mono d5.size)))
      all_goals
        have y4 := (d6.cell (p := ⟨b, off + j * 5 + 4, none⟩) hbl).trans c4
        have HD6 := Lib.hid d6
        have HIH2 := Lib.hid (HIH.out _ _ (K + 4) (by omega) (by omega) (HSL.out.kept d6))
        rw [show ((K + 4 : Nat) : Int) = (K : Int) + 1 + 1 + 1 + 1 by omega] at HIH2
        clear d6 d5 c0 c1 c2 c3 c4 HMT HK3
        obtain ⟨u1, u2, u3, rfl⟩ : ∃ a n c, u = .slice a n c := HSL.out.form
        go_wp2_with fail
        refine HIH2.out.mono ?_
        rintro _ w7 ⟨rfl, b7⟩
        have HB7 := Lib.hid (HF.out.trans (HD6.out.trans (b7.mono HD6.out.size) |>.mono HF.out.size))
        clear b7
        have hneg : decide (((K + 4 + 4 * szL t.l : Nat) : Int) < 0) = false := decide_eq_false (by omega)
        go_wp2_with fail
        go_roundw
        case rel => exact ⟨j + 1, _, by omega, rfl, by have := HNX.out; congr 1; omega, by go_num, HB7⟩
        case measure => simp [intOf]; omega
    · obtain rfl : j = l.length := by omega
      rw [List.take_length] at hK
      have HKK := Lib.hid hK; clear hK
      go_wp2_with fail
      go_ret
      exact ⟨ret_int (by have := HKK.out; omega), HF.out⟩

theorem heldC_all (t : Tree) : HeldC t.l := Tree.ind (p := fun t => HeldC t.l) (fun t ih => heldValS_of t.l ih) t
theorem heldValS_c (l : List Tree) : HeldC l := heldValS_of l (fun t _ => heldC_all t)
end Go.Proofs.YtilmhemcpgiikaaDoor
/- Marks of one tree by value; what stays while other trees are marked. -/
namespace Go.Proofs.YtilmhemcpgiikaaDoor
open Go.Deep Go.ChangeShapes Go.WideShapes Go.ChangeAt Go.RowKit
open Go.ChangeMaps (open_string shut_string)

theorem OSl.kept_fr {w w' : World} {T : TypeId} {v : Value} {l : List Tree} {lo hi : Nat} {S : Nat → Prop} (h : OSl w T v l (Rng lo hi)) (hhi : hi ≤ w.heap.size) (hf : Fr S w w') (hd : ∀ b, S b → b < lo ∨ hi ≤ b) : OSl w' T v l (Rng lo hi) :=
  h.kept (fun b hb => hf.block b (by have := hb.2; omega) (fun hs => by have := hd b hs; have := hb.1; have := hb.2; omega))
theorem OSl.kept_bl {w w' : World} {T : TypeId} {v : Value} {l : List Tree} {lo hi : Nat} (h : OSl w T v l (Rng lo hi)) (hhi : hi ≤ w.heap.size) (hb : Below w.heap.size w w') : OSl w' T v l (Rng lo hi) :=
  h.kept (fun b hs => hb.block b (by have := hs.2; omega))
theorem box5_fr {w w' : World} {S : Nat → Prop} {B : Nat} {a b c d e : Value} (h : Box5 w B a b c d e) (hf : Fr S w w') (hB : ¬ S B) : Box5 w' B a b c d e := by
  obtain ⟨h0, h1, h2, h3, h4⟩ := h
  have hlt := World.block_lt_of_cell? w _ h0
  have hk := hf.block B hlt hB
  exact ⟨(World.cell?_of_block (a := ⟨B, 0, none⟩) hk).trans h0, (World.cell?_of_block (a := ⟨B, 1, none⟩) hk).trans h1, (World.cell?_of_block (a := ⟨B, 2, none⟩) hk).trans h2, (World.cell?_of_block (a := ⟨B, 3, none⟩) hk).trans h3, (World.cell?_of_block (a := ⟨B, 4, none⟩) hk).trans h4⟩
theorem TSl.kept_fr {w w' : World} {W : World} {u : Value} {l : List Tree} {S : Nat → Prop} (_h : TSl W u l) (hb : Below W.heap.size W w) (hf : Fr S w w') (hS : ∀ b, S b → W.heap.size ≤ b) : Below W.heap.size W w' :=
  Fr.below hb hf hS hb.size

theorem szL_le_costL (l : List Tree) : szL l ≤ costL l := by
  have h := sz_le_cost (.mk 0 0 0 { data := #[] } l)
  rw [Tree.sz_eq, Tree.cost_eq] at h
  simp only [Tree.l_mk, Tree.s_mk] at h
  have : ({ data := #[] } : ByteArray).size = 0 := rfl
  omega

set_option maxHeartbeats 1000000 in
theorem markVal_c (t : Tree) (w : World) (a : Option Addr) (n c : Nat) (S : Nat → Prop) (k : Nat) (hk1 : 1 ≤ k) (hk : k + 4 * szL t.l ≤ 8388600) (hlt : ∀ b, S b → b < w.heap.size) (ho : OSl w 29 (.slice a n c) t.l S) :
    Calls Tryd.prog 22 #[.agg #[.int .i64 t.kind, .int .i64 t.n, .int .i64 t.x, .string t.s, .slice a n c], .int .i64 k] w fun e w' => e = .returned (.int .i64 ((k + 4 * szL t.l : Nat) : Int)) ∧ OSl w' 29 (.slice a n c) (markL t.l k) S ∧ Fr S w w' := by
  have hb := vbelow1 w (.cells #[.int .i64 t.kind, .int .i64 t.n, .int .i64 t.x, .string t.s, .slice a n c] 29)
  have HC := Lib.hid (markValS_c t.l _ _ S k hk1 hk (fun b hb' => by rw [World.size_alloc]; have := hlt b hb'; omega) (ho.kept (fun b hb' => hb.block b (hlt b hb'))))
  have HB := Lib.hid hb
  clear ho hlt hb
  go_enter Tryd.func22, Tryd.ntmps22
  go_wp2_with fail
  refine HC.out.mono ?_
  rintro _ w1 ⟨rfl, ho1, hf1⟩
  have HO := Lib.hid ho1; have HF := Lib.hid hf1
  clear ho1 hf1
  go_wp2_with fail
  go_ret
  exact ⟨rfl, HO.out, (Fr.of_below HB.out).trans HF.out⟩
set_option maxHeartbeats 1000000 in
theorem heldVal_c (t : Tree) (w : World) (a : Option Addr) (n c : Nat) (k : Nat) (hk1 : 1 ≤ k) (hk : k + 4 * szL t.l ≤ 8388600) (ho : TSl w (.slice a n c) (markL t.l k)) :
    Calls Tryd.prog 23 #[.agg #[.int .i64 t.kind, .int .i64 t.n, .int .i64 t.x, .string t.s, .slice a n c], .int .i64 k] w fun e w' => e = .returned (.int .i64 ((k + 4 * szL t.l : Nat) : Int)) ∧ Below w.heap.size w w' := by
  have hb := vbelow1 w (.cells #[.int .i64 t.kind, .int .i64 t.n, .int .i64 t.x, .string t.s, .slice a n c] 29)
  have HC := Lib.hid (heldValS_c t.l _ _ k hk1 hk (ho.kept hb))
  have HB := Lib.hid hb
  have hneg : decide (((k + 4 * szL t.l : Nat) : Int) < 0) = false := decide_eq_false (by omega)
  clear ho hb
  go_enter Tryd.func23, Tryd.ntmps23
  go_wp2_with fail
  refine HC.out.mono ?_
  rintro _ w1 ⟨rfl, hb1⟩
  go_wp2_with fail
  go_ret
  exact ⟨rfl, vnx HB.out hb1⟩
end Go.Proofs.YtilmhemcpgiikaaDoor
/- What a region that calls a function with a pair as result leaves: the pair's value in a box, its flag. -/
namespace Go.Proofs.YtilmhemcpgiikaaDoor
open Go.Deep Go.ChangeShapes Go.WideShapes Go.ChangeAt Go.RowKit
open Go.ChangeMaps (open_string shut_string)

theorem five_box {w : World} {B : Nat} {a b c d e : Value} {T : TypeId} (h : w.heap[B]? = some (.cells #[a, b, c, d, e] T (0, 0))) (a' b' c' d' e' : Value) :
    Box5 (((((w.setCell ⟨B, 0, none⟩ a').setCell ⟨B, 1, none⟩ b').setCell ⟨B, 2, none⟩ c').setCell ⟨B, 3, none⟩ d').setCell ⟨B, 4, none⟩ e') B a' b' c' d' e' := by
  have h5 : (((((w.setCell ⟨B, 0, none⟩ a').setCell ⟨B, 1, none⟩ b').setCell ⟨B, 2, none⟩ c').setCell ⟨B, 3, none⟩ d').setCell ⟨B, 4, none⟩ e').heap[B]? = some (.cells #[a', b', c', d', e'] T (0, 0)) := by
    simp [World.setCell, Array.getElem?_modify, h]
  refine ⟨?_, ?_, ?_, ?_, ?_⟩ <;> simp [World.cell?, h5]
/-- What a region with a result's box leaves behind. -/
def Left (w wx : World) (r : Tree) (b : Bool) (s6 s7 : Value) : Prop := ∃ (B : Nat) (a3 : Option Addr) (n3 c3 lo hi : Nat), s6 = .pointer (some ⟨B, 0, none⟩) ∧ s7 = .bool b ∧ w.heap.size ≤ lo ∧ hi ≤ wx.heap.size ∧ (B < lo ∨ hi ≤ B) ∧ w.heap.size ≤ B ∧ B < wx.heap.size ∧ Hid (Box5 wx B (.int .i64 r.kind) (.int .i64 r.n) (.int .i64 r.x) (.string r.s) (.slice a3 n3 c3)) ∧ Hid (OSl wx 29 (.slice a3 n3 c3) r.l (Rng lo hi)) ∧ Hid (Below w.heap.size w wx)
theorem heap_alloc_drew (w : World) (o : Obj) : (w.alloc o).drew.heap[w.heap.size]? = some o := heap_alloc_new w o
theorem lt_alloc_drew (w : World) (o : Obj) : w.heap.size < (w.alloc o).drew.heap.size := by show _ < (w.alloc o).heap.size; rw [World.size_alloc]; exact Nat.lt_succ_self _
theorem left_last {w wp wc : World} {r : Tree} {b : Bool} {a3 : Option Addr} {n3 c3 : Nat} (hp : w.heap.size ≤ wp.heap.size) (hb : Below w.heap.size w wc) (ho : OSl wc 29 (.slice a3 n3 c3) r.l (Rng wp.heap.size wc.heap.size)) :
    Left w (wc.alloc (.cells #[.int .i64 r.kind, .int .i64 r.n, .int .i64 r.x, .string r.s, .slice a3 n3 c3] 29)) r b (.pointer (some ⟨wc.heap.size, 0, none⟩)) (.bool b) :=
  ⟨_, _, _, _, _, _, rfl, rfl, hp, by rw [World.size_alloc]; omega, .inr (Nat.le_refl _), hb.size, by rw [World.size_alloc]; omega, Lib.hid (box5_new _ _ _ _ _ _ _), Lib.hid (ho.kept_bl (Nat.le_refl _) (vbelow1 _ _)), Lib.hid (vnx hb (vbelow1 _ _))⟩
theorem left_early {w wp wc : World} {r : Tree} {b : Bool} {a3 : Option Addr} {n3 c3 B : Nat} {x0 x1 x2 x3 x4 : Value} {T : TypeId} (hp : w.heap.size ≤ wp.heap.size) (hb : Below w.heap.size w wc) (ho : OSl wc 29 (.slice a3 n3 c3) r.l (Rng wp.heap.size wc.heap.size))
    (hB : wc.heap[B]? = some (.cells #[x0, x1, x2, x3, x4] T (0, 0))) (h1 : w.heap.size ≤ B) (h2 : B < wp.heap.size) :
    Left w (((((wc.setCell ⟨B, 0, none⟩ (.int .i64 r.kind)).setCell ⟨B, 1, none⟩ (.int .i64 r.n)).setCell ⟨B, 2, none⟩ (.int .i64 r.x)).setCell ⟨B, 3, none⟩ (.string r.s)).setCell ⟨B, 4, none⟩ (.slice a3 n3 c3)) r b (.pointer (some ⟨B, 0, none⟩)) (.bool b) := by
  have hlt : B < wc.heap.size := (Array.getElem?_eq_some_iff.1 hB).1
  refine ⟨B, a3, n3, c3, wp.heap.size, wc.heap.size, rfl, rfl, hp, by simp [World.setCell], .inl h2, h1, by simpa [World.setCell] using hlt, Lib.hid (five_box hB _ _ _ _ _), Lib.hid ?_, Lib.hid ?_⟩
  · iterate 5 refine osl_sets ?_ (by dsimp only; omega) _
    exact ho
  · iterate 5 refine Below.setCell ?_ (by dsimp only; omega) _
    exact hb
end Go.Proofs.YtilmhemcpgiikaaDoor
/- Lookup, by the reference and by the program. -/
namespace Go.Proofs.YtilmhemcpgiikaaDoor
open Go.Deep Go.ChangeShapes Go.WideShapes Go.ChangeAt Go.RowKit
open Go.ChangeMaps (open_string shut_string)
set_option maxRecDepth 100000 in
set_option maxHeartbeats 8000000 in
theorem look_spec (t t' : Tree) (w : World) (u u' : Value) (hcost : t.cost ≤ 1048576) (hu : TSl w u t.l) (hu' : TSl w u' t'.l) (hfit : Fits t.kind t.n t.x t.s) (hfit' : Fits t'.kind t'.n t'.x t'.s) :
    Calls Tryd.prog 61 #[.agg #[.int .i64 t.kind, .int .i64 t.n, .int .i64 t.x, .string t.s, u], .agg #[.int .i64 t'.kind, .int .i64 t'.n, .int .i64 t'.x, .string t'.s, u']] w (PairP w (lookR t t') (lookB t t')) := by
  have hc := Tree.cost_eq t
  have hcl := costL_eq t.l
  have hlen : t.l.length ≤ 1048576 := by omega
  have hcE : costE t.l ≤ 1048576 := by omega
  clear hc hcl hcost
  obtain ⟨a, cap, b, off, rfl, hcap, hmax, ha, hl⟩ := hu
  obtain ⟨a', n', cap', rfl⟩ := hu'.form
  unfold maxLen at hmax
  have HL := Lib.hid hl; have HA := Lib.hid ha; have HU' := Lib.hid hu'; have HF' := Lib.hid hfit'
  clear hl ha hu' hfit'
  obtain ⟨hA, hB, hC, hW⟩ := three_blocks w (.cells #[.int .i64 t.kind, .int .i64 t.n, .int .i64 t.x, .string t.s, .slice a t.l.length cap] 29) (.cells #[.int .i64 t'.kind, .int .i64 t'.n, .int .i64 t'.x, .string t'.s, .slice a' n' cap'] 29) (.cells #[.int .i64 0, .int .i64 0, .int .i64 0, .string { data := #[] }, .slice none 0 0] 29)
  have HBA := Lib.hid hA; have HBB := Lib.hid hB; have HBC := Lib.hid hC; have HW := Lib.hid hW
  have HP := Lib.hid (fun w1 => l7Map_c t a cap w1 hlen)
  clear hA hB hC hW
  have hwl : IntKind.i64.wrap ((t.l.length : Int) - 2) = (t.l.length : Int) - 2 := IntWalk.i64_in _ (by omega)
  cases hpb : pairedB t with
  | false =>
    have hn : lookO t t' = none := by unfold lookO; rw [if_neg (by rw [hpb]; simp)]
    have HN1 : Hid (lookR t t' = zeroT) := Lib.hid (by unfold lookR; rw [hn]; rfl)
    have HN2 : Hid (lookB t t' = false) := Lib.hid (by unfold lookB; rw [hn]; rfl)
    rw [hpb] at HP
    clear hn hpb

    go_enter Tryd.func61, Tryd.ntmps61
    go_wp2_with fail
    generalize hW0 : (((w.alloc (.cells #[.int .i64 t.kind, .int .i64 t.n, .int .i64 t.x, .string t.s, .slice a t.l.length cap] 29)).alloc (.cells #[.int .i64 t'.kind, .int .i64 t'.n, .int .i64 t'.x, .string t'.s, .slice a' n' cap'] 29)).alloc (.cells #[.int .i64 0, .int .i64 0, .int .i64 0, .string { data := #[] }, .slice none 0 0] 29)) = W0 at *
    have hs0 : W0.heap.size = w.heap.size + 3 := by rw [← hW0]; simp only [World.size_alloc]
    clear hW0
    go_loopw [6] (fun i wr => i = .int .i64 ((t.l.length : Int) - 2) ∧ wr = W0) (fun _ _ => 0)
    case atStart => exact ⟨rfl, rfl⟩
    case round =>
      obtain ⟨rfl, rfl⟩ := hrel
      obtain ⟨p0, p1, p2, p3, p4, pf⟩ := five_kept (Below.refl _ _) HBA.out
      obtain ⟨q0, q1, q2, q3, q4, qf⟩ := five_kept (Below.refl _ _) HBC.out
      have qf0 := qf 0; have qf1 := qf 1; have qf2 := qf 2; have qf3 := qf 3; have qf4 := qf 4
      clear pf qf
      go_wp2_with fail
      all_goals first
      | (refine (HP.out _).mono ?_
         rintro _ w1 ⟨rfl, b1⟩
         clear q0 q1 q2 q3 q4 qf0 qf1 qf2 qf3 qf4 p0 p1 p2 p3 p4
         obtain ⟨q0, q1, q2, q3, q4, qf⟩ := five_kept b1 HBC.out
         have qf0 := qf 0; have qf1 := qf 1; have qf2 := qf 2; have qf3 := qf 3; have qf4 := qf 4
         have HB1 := Lib.hid (HW.out.trans (b1.mono (by omega)))
         clear qf b1
         go_wp2_with fail
         refine bodyPost_ret (v := .tuple #[.agg #[.int .i64 0, .int .i64 0, .int .i64 0, .string { data := #[] }, .slice none 0 0], .bool false]) (by simp [results, Tryd.results61, go_sem, q0, q1, q2, q3, q4]) rfl ?_
         rw [HN1.out, HN2.out]
         refine ⟨_, _, _, rfl, .nil _ _ _ (by simp [maxLen]), ?_⟩
         iterate 5 refine Below.setCell ?_ (by dsimp only; omega) _
         exact HB1.out)
      | (refine bodyPost_ret (v := .tuple #[.agg #[.int .i64 0, .int .i64 0, .int .i64 0, .string { data := #[] }, .slice none 0 0], .bool false]) (by simp [results, Tryd.results61, go_sem, q0, q1, q2, q3, q4]) rfl ?_
         rw [HN1.out, HN2.out]
         refine ⟨_, _, _, rfl, .nil _ _ _ (by simp [maxLen]), ?_⟩
         iterate 5 refine Below.setCell ?_ (by dsimp only; omega) _
         exact HW.out)

  | true =>
    have hkl : t.l.length % 2 = 0 := by
      unfold pairedB at hpb
      simp at hpb
      exact hpb.2
    obtain ⟨N, hN⟩ : ∃ N, t.l.length = 2 * N := ⟨t.l.length / 2, by omega⟩
    have ho : lookO t t' = lookAt t.l t' N := by unfold lookO; rw [if_pos hpb, hN]; congr 1; omega
    have HO := Lib.hid ho
    rw [hpb] at HP
    have HNN := Lib.hid hN
    have hNl : N ≤ 1048576 := by omega
    clear hkl ho hpb hN
    go_enter Tryd.func61, Tryd.ntmps61
    go_wp2_with fail

    generalize hW0 : (((w.alloc (.cells #[.int .i64 t.kind, .int .i64 t.n, .int .i64 t.x, .string t.s, .slice a t.l.length cap] 29)).alloc (.cells #[.int .i64 t'.kind, .int .i64 t'.n, .int .i64 t'.x, .string t'.s, .slice a' n' cap'] 29)).alloc (.cells #[.int .i64 0, .int .i64 0, .int .i64 0, .string { data := #[] }, .slice none 0 0] 29)) = W0 at *
    have hs0 : W0.heap.size = w.heap.size + 3 := by rw [← hW0]; simp only [World.size_alloc]
    clear hW0
    have HSTART : Hid (Below W0.heap.size W0 W0) := Lib.hid (Below.refl _ _)

    go_loopw [6] (fun i wr => ∃ (j I : Nat), j ≤ N ∧ I = 2 * j ∧ i = .int .i64 ((I : Int) - 2) ∧ Hid (lookAt t.l t' N = lookAt t.l t' j) ∧ Hid (Below W0.heap.size W0 wr)) (fun i _ => (intOf i + 2).toNat)
    case atStart => exact ⟨N, 2 * N, by omega, rfl, by have := HNN.out; congr 1; omega, Lib.hid rfl, HSTART⟩
    case round =>
      obtain ⟨j, I, hj, hI, rfl, HK, HBW⟩ := hrel
      have hszr := HBW.out.size
      have HXA := Lib.hid ((HBW.out.block w.heap.size (by omega)).trans HBA.out)
      cases j with
      | zero =>
        have hI0 : (I : Int) - 2 = -2 := by omega
        rw [hI0]
        clear hI0 hI
        have HN1 : Hid (lookR t t' = zeroT) := Lib.hid (by unfold lookR; rw [HO.out, HK.out]; rfl)
        have HN2 : Hid (lookB t t' = false) := Lib.hid (by unfold lookB; rw [HO.out, HK.out]; rfl)
        obtain ⟨q0, q1, q2, q3, q4, qf⟩ := five_kept HBW.out HBC.out
        have qf0 := qf 0; have qf1 := qf 1; have qf2 := qf 2; have qf3 := qf 3; have qf4 := qf 4
        clear qf
        go_wp2_with fail
        refine bodyPost_ret (v := .tuple #[.agg #[.int .i64 0, .int .i64 0, .int .i64 0, .string { data := #[] }, .slice none 0 0], .bool false]) (by simp [results, Tryd.results61, go_sem, q0, q1, q2, q3, q4]) rfl ?_
        rw [HN1.out, HN2.out]
        refine ⟨_, _, _, rfl, .nil _ _ _ (by simp [maxLen]), ?_⟩
        iterate 5 refine Below.setCell ?_ (by dsimp only; omega) _
        exact HW.out.trans (HBW.out.mono (by omega))
      | succ j =>
        obtain ⟨k, hk⟩ : ∃ k, k = 2 * j := ⟨_, rfl⟩
        have hIk : (I : Int) - 2 = (k : Int) := by omega
        rw [hIk]
        have hkl : k < t.l.length := by have := HNN.out; omega
        have hkl1 : k + 1 < t.l.length := by have := HNN.out; omega
        have HIT := Lib.hid (fun h => lookAt_hit (l := t.l) (x := t') hk h)
        have MISS := Lib.hid (fun h => lookAt_miss (l := t.l) (x := t') hk h)
        obtain rfl : a = some ⟨b, off, none⟩ := HA.out (by intro h; rw [h] at hkl; simp at hkl)
        have HKE := Lib.hid hk
        have hII : (I : Int) = (k : Int) + 2 := by omega
        clear hIk hk hI
        obtain ⟨p0, p1, p2, p3, p4, pf⟩ := five_kept (Below.refl _ _) HXA.out
        clear pf
        go_wp2_with fail
        refine (HP.out _).mono ?_
        rintro _ w2 ⟨rfl, b2⟩
        have hbw2 : Below W0.heap.size W0 w2 := HBW.out.trans (b2.mono hszr)
        clear p0 p1 p2 p3 p4 b2
        have hszw : W0.heap.size ≤ w2.heap.size := hbw2.size
        have hb0 : Below w.heap.size w w2 := HW.out.trans (hbw2.mono (by omega))
        have HB0 := Lib.hid hb0; have HBW2 := Lib.hid hbw2
        obtain ⟨p0, p1, p2, p3, p4, pf⟩ := five_kept hbw2 HBA.out
        obtain ⟨m0, m1, m2, m3, m4, mf⟩ := five_kept hbw2 HBB.out
        obtain ⟨x, c0, c1, c2, c3, c4, hsl, hft⟩ := ((HL.out k hkl).kept hb0).parts
        have hC := sameSpec_c t.l[k] t' w2.drew x (.slice a' n' cap') (hsl.kept (Below.refl _ _).drew) (HU'.out.kept ((hb0).trans ((Below.refl _ _).drew))) hft HF'.out
        have hwk1 : IntKind.i64.wrap ((k : Int) + 1) = ((k + 1 : Nat) : Int) := by rw [IntWalk.i64_in _ (by omega)]; omega
        have hwk2 : IntKind.i64.wrap ((k : Int) - 2) = (k : Int) - 2 := IntWalk.i64_in _ (by omega)
        have hcm := cost_mem (List.getElem_mem hkl1)
        clear pf mf p0 p1 p2 p3 hb0 hbw2
        cases hb : sameB t.l[k] t' with
        | true =>
          rw [hb] at hC
          have e0 : lookO t t' = some t.l[k + 1] := by rw [HO.out, HK.out, HIT.out (by rw [List.getElem?_eq_getElem hkl, sameB_true.1 hb]), List.getElem?_eq_getElem hkl1]
          have HN1 : Hid (lookR t t' = t.l[k + 1]) := Lib.hid (by unfold lookR; rw [e0]; rfl)
          have HN2 : Hid (lookB t t' = true) := Lib.hid (by unfold lookB; rw [e0]; rfl)
          have HLK := HL.out (k + 1) hkl1
          generalize t.l[k] = r0 at *
          generalize t.l[k + 1] = r at *
          have HC := Lib.hid hC; have HLKK := Lib.hid HLK
          clear hb hC HLK hsl hft e0 HIT MISS HK HO
          go_wp2_with fail
          go_still_tail 6, (by kernel_rfl)
          change wpList _ _ _ _ _ w2.drew
          go_wp2_with fail
          refine HC.out.mono ?_
          rintro _ w3 ⟨rfl, hb3'⟩
          have hb3 : Below w2.heap.size w2 w3 := ⟨hb3'.os, hb3'.tape, hb3'.output, hb3'.size, hb3'.block⟩
          have hbw3 := HBW2.out.trans (hb3.mono hszw)
          have hb03 := HW.out.trans (hbw3.mono (by omega))
          have HB03 := Lib.hid hb03; have HBW3 := Lib.hid hbw3
          obtain ⟨y, d0, d1, d2, d3, d4, hsl1, hft1⟩ := (HLKK.out.kept hb03).parts
          obtain ⟨y1, y2, y3, rfl⟩ := hsl1.form
          obtain ⟨p0', p1', p2', p3', p4', pf'⟩ := five_kept hbw3 HBA.out
          have HSL1 := Lib.hid hsl1; have HFT1 := Lib.hid hft1
          have eoff : off + (k + 1) * 5 = off + (k * 5 + 5) := by omega
          clear hb3' hb3 hbw3 hb03 p4 m0 m1 m2 m3 m4 c0 c1 c2 c3 c4 pf' p0' p1' p2' p3' hsl1 hft1 eoff
          go_wp2_with fail
          refine (l6Copy_c r _ _ (by omega) HSL1.out HFT1.out).mono ?_
          rintro _ w4 ⟨a2, n2, k2, rfl, ho4, hb4⟩
          have hs4 := hb4.size
          obtain ⟨q0, q1, q2, q3, q4, qf⟩ := five_kept (HBW3.out.trans (hb4.mono HBW3.out.size)) HBC.out
          have qf0 := qf 0; have qf1 := qf 1; have qf2 := qf 2; have qf3 := qf 3; have qf4 := qf 4
          have HO4 := Lib.hid ho4; have HB4 := Lib.hid hb4
          have hsw3 := HBW3.out.size
          clear qf ho4 hb4 d0 d1 d2 d3 d4
          go_wp2_with fail
          refine bodyPost_ret (v := .tuple #[.agg #[.int .i64 r.kind, .int .i64 r.n, .int .i64 r.x, .string r.s, .slice a2 n2 k2], .bool true]) (by simp [results, Tryd.results61, go_sem, q0, q1, q2, q3, q4]) rfl ?_
          rw [HN1.out, HN2.out]
          refine ⟨_, _, _, rfl, ?_, ?_⟩
          · refine OSl.mono (S := Rng w3.heap.size w4.heap.size) ?_ (fun b hb => ⟨by have := hb.1; omega, by have := hb.2; simpa [World.setCell] using this⟩)
            iterate 5 refine osl_sets ?_ (by dsimp only; omega) _
            exact HO4.out
          · iterate 5 refine Below.setCell ?_ (by dsimp only; omega) _
            exact HB03.out.trans (HB4.out.mono (by have := HB03.out.size; omega))
        | false =>
          rw [hb] at hC
          have HKN : Hid (lookAt t.l t' N = lookAt t.l t' j) := Lib.hid (by rw [HK.out, MISS.out (by rw [List.getElem?_eq_getElem hkl]; intro e; exact sameB_false.1 hb (Option.some.inj e))])
          generalize t.l[k] = r0 at *
          have HC := Lib.hid hC
          clear hb hC hsl hft HIT MISS HK
          go_wp2_with fail
          go_still_tail 6, (by kernel_rfl)
          change wpList _ _ _ _ _ w2.drew
          go_wp2_with fail
          refine HC.out.mono ?_
          rintro _ w3 ⟨rfl, hb3'⟩
          have hb3 : Below w2.heap.size w2 w3 := ⟨hb3'.os, hb3'.tape, hb3'.output, hb3'.size, hb3'.block⟩
          have hbw3 := HBW2.out.trans (hb3.mono hszw)
          have HBW3 := Lib.hid hbw3
          clear hb3' hb3 hbw3 p4 m0 m1 m2 m3 m4 c0 c1 c2 c3 c4
          go_wp2_with fail
          go_roundw
          case rel => exact ⟨j, k, by omega, HKE.out, rfl, HKN, HBW3⟩
          case measure => simp [intOf]; omega


set_option maxRecDepth 100000 in
set_option maxHeartbeats 8000000 in
theorem look_impl (t t' : Tree) (w : World) (u u' : Value) (hcost : t.cost ≤ 1048576) (hu : TSl w u t.l) (hu' : TSl w u' t'.l) (hfit : Fits t.kind t.n t.x t.s) (hfit' : Fits t'.kind t'.n t'.x t'.s) :
    Calls Tryd.prog 60 #[.agg #[.int .i64 t.kind, .int .i64 t.n, .int .i64 t.x, .string t.s, u], .agg #[.int .i64 t'.kind, .int .i64 t'.n, .int .i64 t'.x, .string t'.s, u']] w (PairP w (lookR t t') (lookB t t')) := by
  have hc := Tree.cost_eq t
  have hcl := costL_eq t.l
  have hlen : t.l.length ≤ 1048576 := by omega
  have hcE : costE t.l ≤ 1048576 := by omega
  clear hc hcl hcost
  obtain ⟨a, cap, b, off, rfl, hcap, hmax, ha, hl⟩ := hu
  obtain ⟨a', n', cap', rfl⟩ := hu'.form
  unfold maxLen at hmax
  have HL := Lib.hid hl; have HA := Lib.hid ha; have HU' := Lib.hid hu'; have HF' := Lib.hid hfit'
  clear hl ha hu' hfit'
  obtain ⟨hA, hB, hC, hW⟩ := three_blocks w (.cells #[.int .i64 t.kind, .int .i64 t.n, .int .i64 t.x, .string t.s, .slice a t.l.length cap] 29) (.cells #[.int .i64 t'.kind, .int .i64 t'.n, .int .i64 t'.x, .string t'.s, .slice a' n' cap'] 29) (.cells #[.int .i64 0, .int .i64 0, .int .i64 0, .string { data := #[] }, .slice none 0 0] 29)
  have HBA := Lib.hid hA; have HBB := Lib.hid hB; have HBC := Lib.hid hC; have HW := Lib.hid hW
  have HP := Lib.hid (fun w1 => isPaired_c t a cap w1 hlen)
  clear hA hB hC hW
  have hwl : IntKind.i64.wrap ((t.l.length : Int) - 2) = (t.l.length : Int) - 2 := IntWalk.i64_in _ (by omega)
  cases hpb : pairedB t with
  | false =>
    have hn : lookO t t' = none := by unfold lookO; rw [if_neg (by rw [hpb]; simp)]
    have HN1 : Hid (lookR t t' = zeroT) := Lib.hid (by unfold lookR; rw [hn]; rfl)
    have HN2 : Hid (lookB t t' = false) := Lib.hid (by unfold lookB; rw [hn]; rfl)
    rw [hpb] at HP
    clear hn hpb

    go_enter Tryd.func60, Tryd.ntmps60
    go_wp2_with fail
    refine (HP.out _).mono ?_
    rintro _ w1 ⟨rfl, b1⟩
    obtain ⟨q0, q1, q2, q3, q4, qf⟩ := five_kept b1 HBC.out
    have qf0 := qf 0; have qf1 := qf 1; have qf2 := qf 2; have qf3 := qf 3; have qf4 := qf 4
    have HB1 := Lib.hid (HW.out.trans (b1.mono (by simp only [World.size_alloc]; omega)))
    clear qf b1
    go_wp2_with fail
    refine bodyPost_ret (v := .tuple #[.agg #[.int .i64 0, .int .i64 0, .int .i64 0, .string { data := #[] }, .slice none 0 0], .bool false]) (by simp [results, Tryd.results60, go_sem, q0, q1, q2, q3, q4]) rfl ?_
    rw [HN1.out, HN2.out]
    refine ⟨_, _, _, rfl, .nil _ _ _ (by simp [maxLen]), ?_⟩
    iterate 5 refine Below.setCell ?_ (by dsimp only; omega) _
    exact HB1.out

  | true =>
    have hkl : t.l.length % 2 = 0 := by
      unfold pairedB at hpb
      simp at hpb
      exact hpb.2
    obtain ⟨N, hN⟩ : ∃ N, t.l.length = 2 * N := ⟨t.l.length / 2, by omega⟩
    have ho : lookO t t' = lookAt t.l t' N := by unfold lookO; rw [if_pos hpb, hN]; congr 1; omega
    have HO := Lib.hid ho
    rw [hpb] at HP
    have HNN := Lib.hid hN
    have hNl : N ≤ 1048576 := by omega
    clear hkl ho hpb hN
    go_enter Tryd.func60, Tryd.ntmps60
    go_wp2_with fail

    refine (HP.out _).mono ?_
    rintro _ w1 ⟨rfl, b1⟩
    have HSTART := Lib.hid b1
    obtain ⟨p0, p1, p2, p3, p4, pf⟩ := five_kept b1 HBA.out
    clear b1 pf p0 p1 p2 p3
    generalize hW0 : (((w.alloc (.cells #[.int .i64 t.kind, .int .i64 t.n, .int .i64 t.x, .string t.s, .slice a t.l.length cap] 29)).alloc (.cells #[.int .i64 t'.kind, .int .i64 t'.n, .int .i64 t'.x, .string t'.s, .slice a' n' cap'] 29)).alloc (.cells #[.int .i64 0, .int .i64 0, .int .i64 0, .string { data := #[] }, .slice none 0 0] 29)) = W0 at *
    have hs0 : W0.heap.size = w.heap.size + 3 := by rw [← hW0]; simp only [World.size_alloc]
    clear hW0
    go_wp2_with fail
    clear p4

    go_loopw [6] (fun i wr => ∃ (j I : Nat), j ≤ N ∧ I = 2 * j ∧ i = .int .i64 ((I : Int) - 2) ∧ Hid (lookAt t.l t' N = lookAt t.l t' j) ∧ Hid (Below W0.heap.size W0 wr)) (fun i _ => (intOf i + 2).toNat)
    case atStart => exact ⟨N, 2 * N, by omega, rfl, by have := HNN.out; congr 1; omega, Lib.hid rfl, HSTART⟩
    case round =>
      obtain ⟨j, I, hj, hI, rfl, HK, HBW⟩ := hrel
      have hszr := HBW.out.size
      have HXA := Lib.hid ((HBW.out.block w.heap.size (by omega)).trans HBA.out)
      cases j with
      | zero =>
        have hI0 : (I : Int) - 2 = -2 := by omega
        rw [hI0]
        clear hI0 hI
        have HN1 : Hid (lookR t t' = zeroT) := Lib.hid (by unfold lookR; rw [HO.out, HK.out]; rfl)
        have HN2 : Hid (lookB t t' = false) := Lib.hid (by unfold lookB; rw [HO.out, HK.out]; rfl)
        obtain ⟨q0, q1, q2, q3, q4, qf⟩ := five_kept HBW.out HBC.out
        have qf0 := qf 0; have qf1 := qf 1; have qf2 := qf 2; have qf3 := qf 3; have qf4 := qf 4
        clear qf
        go_wp2_with fail
        refine bodyPost_ret (v := .tuple #[.agg #[.int .i64 0, .int .i64 0, .int .i64 0, .string { data := #[] }, .slice none 0 0], .bool false]) (by simp [results, Tryd.results60, go_sem, q0, q1, q2, q3, q4]) rfl ?_
        rw [HN1.out, HN2.out]
        refine ⟨_, _, _, rfl, .nil _ _ _ (by simp [maxLen]), ?_⟩
        iterate 5 refine Below.setCell ?_ (by dsimp only; omega) _
        exact HW.out.trans (HBW.out.mono (by omega))
      | succ j =>
        obtain ⟨k, hk⟩ : ∃ k, k = 2 * j := ⟨_, rfl⟩
        have hIk : (I : Int) - 2 = (k : Int) := by omega
        rw [hIk]
        have hkl : k < t.l.length := by have := HNN.out; omega
        have hkl1 : k + 1 < t.l.length := by have := HNN.out; omega
        have HIT := Lib.hid (fun h => lookAt_hit (l := t.l) (x := t') hk h)
        have MISS := Lib.hid (fun h => lookAt_miss (l := t.l) (x := t') hk h)
        obtain rfl : a = some ⟨b, off, none⟩ := HA.out (by intro h; rw [h] at hkl; simp at hkl)
        have HKE := Lib.hid hk
        have hII : (I : Int) = (k : Int) + 2 := by omega
        clear hIk hk hI
        obtain ⟨w2, hw2⟩ : ∃ w2, w2 = wr := ⟨_, rfl⟩
        subst hw2
        have hbw2 := HBW.out
        have hszw : W0.heap.size ≤ w2.heap.size := hbw2.size
        have hb0 : Below w.heap.size w w2 := HW.out.trans (hbw2.mono (by omega))
        have HB0 := Lib.hid hb0; have HBW2 := Lib.hid hbw2
        obtain ⟨p0, p1, p2, p3, p4, pf⟩ := five_kept hbw2 HBA.out
        obtain ⟨m0, m1, m2, m3, m4, mf⟩ := five_kept hbw2 HBB.out
        obtain ⟨x, c0, c1, c2, c3, c4, hsl, hft⟩ := ((HL.out k hkl).kept hb0).parts
        have hC := sameImpl_c t.l[k] t' w2.drew x (.slice a' n' cap') (hsl.kept (Below.refl _ _).drew) (HU'.out.kept ((hb0).trans ((Below.refl _ _).drew))) hft HF'.out
        have hwk1 : IntKind.i64.wrap ((k : Int) + 1) = ((k + 1 : Nat) : Int) := by rw [IntWalk.i64_in _ (by omega)]; omega
        have hwk2 : IntKind.i64.wrap ((k : Int) - 2) = (k : Int) - 2 := IntWalk.i64_in _ (by omega)
        have hcm := cost_mem (List.getElem_mem hkl1)
        clear pf mf p0 p1 p2 p3 hb0 hbw2
        cases hb : sameB t.l[k] t' with
        | true =>
          rw [hb] at hC
          have e0 : lookO t t' = some t.l[k + 1] := by rw [HO.out, HK.out, HIT.out (by rw [List.getElem?_eq_getElem hkl, sameB_true.1 hb]), List.getElem?_eq_getElem hkl1]
          have HN1 : Hid (lookR t t' = t.l[k + 1]) := Lib.hid (by unfold lookR; rw [e0]; rfl)
          have HN2 : Hid (lookB t t' = true) := Lib.hid (by unfold lookB; rw [e0]; rfl)
          have HLK := HL.out (k + 1) hkl1
          generalize t.l[k] = r0 at *
          generalize t.l[k + 1] = r at *
          have HC := Lib.hid hC; have HLKK := Lib.hid HLK
          clear hb hC HLK hsl hft e0 HIT MISS HK HO
          go_wp2_with fail
          go_still_tail 6, (by kernel_rfl)
          change wpList _ _ _ _ _ w2.drew
          go_wp2_with fail
          refine HC.out.mono ?_
          rintro _ w3 ⟨rfl, hb3'⟩
          have hb3 : Below w2.heap.size w2 w3 := ⟨hb3'.os, hb3'.tape, hb3'.output, hb3'.size, hb3'.block⟩
          have hbw3 := HBW2.out.trans (hb3.mono hszw)
          have hb03 := HW.out.trans (hbw3.mono (by omega))
          have HB03 := Lib.hid hb03; have HBW3 := Lib.hid hbw3
          obtain ⟨y, d0, d1, d2, d3, d4, hsl1, hft1⟩ := (HLKK.out.kept hb03).parts
          obtain ⟨y1, y2, y3, rfl⟩ := hsl1.form
          obtain ⟨p0', p1', p2', p3', p4', pf'⟩ := five_kept hbw3 HBA.out
          have HSL1 := Lib.hid hsl1; have HFT1 := Lib.hid hft1
          have eoff : off + (k + 1) * 5 = off + (k * 5 + 5) := by omega
          clear hb3' hb3 hbw3 hb03 p4 m0 m1 m2 m3 m4 c0 c1 c2 c3 c4 pf' p0' p1' p2' p3' hsl1 hft1 eoff
          go_wp2_with fail
          refine (copyVal_c r _ _ (by omega) HSL1.out HFT1.out).mono ?_
          rintro _ w4 ⟨a2, n2, k2, rfl, ho4, hb4⟩
          have hs4 := hb4.size
          obtain ⟨q0, q1, q2, q3, q4, qf⟩ := five_kept (HBW3.out.trans (hb4.mono HBW3.out.size)) HBC.out
          have qf0 := qf 0; have qf1 := qf 1; have qf2 := qf 2; have qf3 := qf 3; have qf4 := qf 4
          have HO4 := Lib.hid ho4; have HB4 := Lib.hid hb4
          have hsw3 := HBW3.out.size
          clear qf ho4 hb4 d0 d1 d2 d3 d4
          go_wp2_with fail
          refine bodyPost_ret (v := .tuple #[.agg #[.int .i64 r.kind, .int .i64 r.n, .int .i64 r.x, .string r.s, .slice a2 n2 k2], .bool true]) (by simp [results, Tryd.results60, go_sem, q0, q1, q2, q3, q4]) rfl ?_
          rw [HN1.out, HN2.out]
          refine ⟨_, _, _, rfl, ?_, ?_⟩
          · refine OSl.mono (S := Rng w3.heap.size w4.heap.size) ?_ (fun b hb => ⟨by have := hb.1; omega, by have := hb.2; simpa [World.setCell] using this⟩)
            iterate 5 refine osl_sets ?_ (by dsimp only; omega) _
            exact HO4.out
          · iterate 5 refine Below.setCell ?_ (by dsimp only; omega) _
            exact HB03.out.trans (HB4.out.mono (by have := HB03.out.size; omega))
        | false =>
          rw [hb] at hC
          have HKN : Hid (lookAt t.l t' N = lookAt t.l t' j) := Lib.hid (by rw [HK.out, MISS.out (by rw [List.getElem?_eq_getElem hkl]; intro e; exact sameB_false.1 hb (Option.some.inj e))])
          generalize t.l[k] = r0 at *
          have HC := Lib.hid hC
          clear hb hC hsl hft HIT MISS HK
          go_wp2_with fail
          go_still_tail 6, (by kernel_rfl)
          change wpList _ _ _ _ _ w2.drew
          go_wp2_with fail
          refine HC.out.mono ?_
          rintro _ w3 ⟨rfl, hb3'⟩
          have hb3 : Below w2.heap.size w2 w3 := ⟨hb3'.os, hb3'.tape, hb3'.output, hb3'.size, hb3'.block⟩
          have hbw3 := HBW2.out.trans (hb3.mono hszw)
          have HBW3 := Lib.hid hbw3
          clear hb3' hb3 hbw3 p4 m0 m1 m2 m3 m4 c0 c1 c2 c3 c4
          go_wp2_with fail
          go_roundw
          case rel => exact ⟨j, k, by omega, HKE.out, rfl, HKN, HBW3⟩
          case measure => simp [intOf]; omega

end Go.Proofs.YtilmhemcpgiikaaDoor
