/- OnceEach: both say whether no two names are equal. -/
import Derived.Test.YtjkjfdhbbblffaaVNames
import Derived.Test.YtjkjfdhbbblffaaVSame
namespace Go.Proofs.Ytjkjfdhbbblffaa
open Go.Deep Go.ChangeShapes Go.WideShapes Go.ChangeAt Go.RowKit
open Go.ChangeMaps (open_string shut_string)

/-- No two of the first i are equal. -/
def onceUp (l : List Tree) (i : Nat) : Prop := ∀ i' k, i' < i → k < i' → l[k]? ≠ l[i']?
open Classical in
noncomputable def onceB (l : List Tree) : Bool := decide (onceUp l l.length)
theorem onceB_true {l : List Tree} (h : onceUp l l.length) : onceB l = true := by unfold onceB; simp only [decide_eq_true_eq]; exact h
theorem onceB_false {l : List Tree} {i k : Nat} (hi : i < l.length) (hk : k < i) (h : l[k]'(by omega) = l[i]) : onceB l = false := by
  unfold onceB
  simp only [decide_eq_false_iff_not]
  intro ho
  exact ho i k hi hk (by rw [List.getElem?_eq_getElem (by omega), List.getElem?_eq_getElem hi, h])
theorem onceUp_succ {l : List Tree} {i : Nat} (h : onceUp l i) (hi : i < l.length) (hn : ∀ k, k < i → l[k]? ≠ some l[i]) : onceUp l (i + 1) := by
  intro i' k h1 h2
  by_cases e : i' = i
  · subst e
    rw [List.getElem?_eq_getElem hi]
    exact hn k h2
  · exact h i' k (by omega) h2

set_option maxRecDepth 100000 in
set_option maxHeartbeats 4000000 in
theorem once_spec (t : Tree) (w : World) (u : Value) (hcost : t.cost ≤ 1048576) (hu : TSl w u t.l) (hfit : Fits t.kind t.n t.x t.s) :
    Calls Try.prog 20 #[.agg #[.int .i64 t.kind, .int .i64 t.n, .int .i64 t.x, .string t.s, u]] w fun e w' => e = .returned (.bool (onceB (namesF t))) ∧ Below w.heap.size w w' := by
  have hnl : (namesF t).length ≤ 1048576 := by
    have h1 := names_cost t; have h2 := Tree.cost_eq t; have h3 := costL_eq (namesF t); omega
  obtain ⟨a, n, cap, rfl⟩ := hu.form
  have HW := Lib.hid (vbelow1 w (.cells #[.int .i64 t.kind, .int .i64 t.n, .int .i64 t.x, .string t.s, .slice a n cap] 29))
  have HN := Lib.hid (namesOf_spec t _ _ hcost (hu.kept HW.out) hfit)
  clear hu
  generalize namesF t = l at *
  go_enter Try.func20, Try.ntmps20
  go_wp2_with fail
  refine HN.out.mono ?_
  rintro _ w1 ⟨a1, n1, c1, rfl, ho, b1⟩
  have hsl := ho.tsl
  have HB1 := Lib.hid (vnx HW.out b1)
  clear ho b1 HN
  obtain ⟨a', cap', b, off, hv, hcap, hmax, ha, hl⟩ := hsl
  injection hv with hv1 hv2 hv3
  subst hv1 hv2 hv3
  unfold maxLen at hmax
  have HL := Lib.hid hl; have HA := Lib.hid ha
  clear hl ha
  go_wp2_with fail
  go_loopw [4] (fun i wr => ∃ j : Nat, j ≤ l.length ∧ i = .int .i64 j ∧ Hid (onceUp l j) ∧ Hid (Below w1.heap.size w1 wr)) (fun i _ => l.length - (intOf i).toNat)
  case atStart => exact ⟨0, by omega, rfl, Lib.hid (fun i' k h => absurd h (Nat.not_lt_zero _)), Lib.hid (Below.refl _ _)⟩
  case round =>
    obtain ⟨j, hj, rfl, HO, HBW⟩ := hrel
    by_cases hjl : j < l.length
    · obtain rfl : a1 = some ⟨b, off, none⟩ := HA.out (by intro h; rw [h] at hjl; simp at hjl)
      go_wp2_with fail
      go_loopw [5] (fun i wx => ∃ k : Nat, k ≤ j ∧ i = .int .i64 k ∧ Hid (∀ k', k' < k → l[k']? ≠ some l[j]) ∧ Hid (Below w1.heap.size w1 wx)) (fun i _ => j - (intOf i).toNat)
      case atStart => exact ⟨0, by omega, rfl, Lib.hid (fun k' h => absurd h (Nat.not_lt_zero _)), HBW⟩
      case round =>
        obtain ⟨k, hk, rfl, HK, HBX⟩ := hrel
        by_cases hkj : k < j
        · have hkl : k < l.length := by omega
          obtain ⟨x, c0, c1, c2, c3, c4, hsl, hft⟩ := ((HL.out j hjl).kept HBX.out).parts
          obtain ⟨x', d0, d1, d2, d3, d4, hsl', hft'⟩ := ((HL.out k hkl).kept HBX.out).parts
          have hC := fun w2 (g1 : TSl w2 x l[j].l) (g2 : TSl w2 x' l[k].l) => sameSpec_c l[j] l[k] w2 x x' g1 g2 hft hft'
          have hF : sameB l[j] l[k] = true → onceB l = false := fun h => onceB_false hjl hkj (sameB_true.1 h).symm
          have hT : sameB l[j] l[k] = false → ∀ k', k' < k + 1 → l[k']? ≠ some l[j] := fun h k' hk' => by
            by_cases e : k' = k
            · subst e
              rw [List.getElem?_eq_getElem hkl]
              intro e2
              exact sameB_false.1 h (Option.some.inj e2).symm
            · exact HK.out k' (by omega)
          have HF := Lib.hid hF; have HT := Lib.hid hT
          clear hF hT
          have hszx := HBX.out.size
          cases hb : sameB l[j] l[k] with
          | true =>
            rw [hb] at hC
            have HFF := Lib.hid (HF.out hb)
            clear HF HT hb
            generalize l[j] = r at *
            generalize l[k] = r' at *
            have HC := Lib.hid (hC wr.drew (hsl.kept (Below.refl _ _).drew) (hsl'.kept (Below.refl _ _).drew))
            clear hC hsl hsl' hft hft'
            go_wp2_with fail
            go_still_tail 8, (by kernel_rfl)
            change wpList _ _ _ _ _ wr.drew
            go_wp2_with fail
            refine HC.out.mono ?_
            rintro _ w2 ⟨rfl, hb1'⟩
            have hb1 : Below wr.heap.size wr w2 := ⟨hb1'.os, hb1'.tape, hb1'.output, hb1'.size, hb1'.block⟩
            clear hb1'
            go_wp2_with fail
            go_ret
            exact ⟨ret_bool HFF.out.symm, vnx HB1.out (HBX.out.trans (hb1.mono hszx))⟩
          | false =>
            rw [hb] at hC
            have HTT := Lib.hid (HT.out hb)
            clear HF HT hb
            have HC := Lib.hid (hC wr.drew (hsl.kept (Below.refl _ _).drew) (hsl'.kept (Below.refl _ _).drew))
            clear hC hsl hsl' hft hft'
            go_wp2_with fail
            go_still_tail 8, (by kernel_rfl)
            change wpList _ _ _ _ _ wr.drew
            go_wp2_with fail
            refine HC.out.mono ?_
            rintro _ w2 ⟨rfl, hb1'⟩
            have hb1 : Below wr.heap.size wr w2 := ⟨hb1'.os, hb1'.tape, hb1'.output, hb1'.size, hb1'.block⟩
            clear hb1'
            go_wp2_with fail
            go_roundw
            case rel => exact ⟨k + 1, by omega, by go_num, HTT, Lib.hid (HBX.out.trans (hb1.mono hszx))⟩
            case measure => simp [intOf]; omega
        · obtain rfl : k = j := by omega
          have HO2 := Lib.hid (onceUp_succ HO.out hjl HK.out)
          go_wp2_with fail
          go_roundw
          case rel => exact ⟨k + 1, by omega, by go_num, HO2, HBX⟩
          case measure => simp [intOf]; omega
    · obtain rfl : j = l.length := by omega
      have HF := Lib.hid (onceB_true HO.out)
      go_wp2_with fail
      go_ret
      exact ⟨ret_bool HF.out.symm, vnx HB1.out HBW.out⟩

open Classical in
noncomputable def memB (x : Tree) (l : List Tree) : Bool := decide (x ∈ l)
theorem memB_true {x : Tree} {l : List Tree} : memB x l = true ↔ x ∈ l := by unfold memB; simp only [decide_eq_true_eq]

set_option maxHeartbeats 1000000 in
/-- The closure: is a value the one that it captured? -/
theorem once_clo (o x : Tree) (uo ux : Value) (B : Nat) (w : World) (ho : TSl w uo o.l) (hfo : Fits o.kind o.n o.x o.s) (hx : TSl w ux x.l) (hfx : Fits x.kind x.n x.x x.s)
    (hb : w.heap[B]? = some (.cells #[.int .i64 x.kind, .int .i64 x.n, .int .i64 x.x, .string x.s, ux] 29 (0, 0))) :
    Calls Try.prog 41 #[.agg #[.int .i64 o.kind, .int .i64 o.n, .int .i64 o.x, .string o.s, uo], .pointer (some ⟨B, 0, none⟩)] w fun e w' => e = .returned (.bool (sameB o x)) ∧ Below w.heap.size w w' := by
  obtain ⟨a, n, cap, rfl⟩ := ho.form
  obtain ⟨a', n', cap', rfl⟩ := hx.form
  have hW := vbelow1 w (.cells #[.int .i64 o.kind, .int .i64 o.n, .int .i64 o.x, .string o.s, .slice a n cap] 29)
  have HC := Lib.hid (sameImpl_c o x _ _ _ (ho.kept hW) (hx.kept hW) hfo hfx)
  have hlt : B < w.heap.size := (Array.getElem?_eq_some_iff.1 hb).1
  have hb2 := (hW.block B hlt).trans hb
  obtain ⟨q0, q1, q2, q3, q4, -⟩ := five_kept (Below.refl _ _) hb2
  have HW := Lib.hid hW
  clear ho hx hb hb2 hW
  generalize sameB o x = R at *
  go_enter Try.func41, Try.ntmps41
  go_wp2_with fail
  refine HC.out.mono ?_
  rintro _ w1 ⟨rfl, b1⟩
  go_wp2_with fail
  go_ret
  exact ⟨rfl, vnx HW.out b1⟩

set_option maxRecDepth 100000 in
set_option maxHeartbeats 4000000 in
theorem once_idx (l : List Tree) (x : Tree) (u ux : Value) (B : Nat) (w : World) (hu : TSl w u l) (hx : TSl w ux x.l) (hfx : Fits x.kind x.n x.x x.s)
    (hb : w.heap[B]? = some (.cells #[.int .i64 x.kind, .int .i64 x.n, .int .i64 x.x, .string x.s, ux] 29 (0, 0))) :
    Calls Try.prog 51 #[u, .func (.func 41) #[] #[.pointer (some ⟨B, 0, none⟩)]] w fun e w' => ∃ r : Int, e = .returned (.int .i64 r) ∧ decide (0 ≤ r) = memB x l ∧ Below w.heap.size w w' := by
  obtain ⟨a, cap, b, off, rfl, hcap, hmax, ha, hl⟩ := hu
  unfold maxLen at hmax
  have hlt : B < w.heap.size := (Array.getElem?_eq_some_iff.1 hb).1
  have HL := Lib.hid hl; have HA := Lib.hid ha
  have HCL := Lib.hid (fun (w1 : World) (hb1 : Below w.heap.size w w1) (o : Tree) (uo : Value) (h : TSl w1 uo o.l) hf => once_clo o x uo ux B w1 h hf (hx.kept hb1) hfx ((hb1.block B hlt).trans hb))
  clear hl ha hx hb
  go_enter Try.func51, Try.ntmps51
  go_wp2_with fail
  go_loopw [8] (fun i wr => ∃ j : Nat, j ≤ l.length ∧ i = .int .i64 j ∧ Hid (∀ k, k < j → l[k]? ≠ some x) ∧ Hid (Below w.heap.size w wr)) (fun i _ => l.length - (intOf i).toNat)
  case atStart => exact ⟨0, by omega, rfl, Lib.hid (fun k h => absurd h (Nat.not_lt_zero _)), Lib.hid (Below.refl _ _)⟩
  case round =>
    obtain ⟨j, hj, rfl, HN, HBW⟩ := hrel
    by_cases hjl : j < l.length
    · obtain rfl : a = some ⟨b, off, none⟩ := HA.out (by intro h; rw [h] at hjl; simp at hjl)
      obtain ⟨y, c0, c1, c2, c3, c4, hsl, hft⟩ := ((HL.out j hjl).kept HBW.out).parts
      have hC := HCL.out wr HBW.out l[j] y hsl hft
      have hszr := HBW.out.size
      have hT : sameB l[j] x = true → memB x l = true := fun h => memB_true.2 (by rw [← sameB_true.1 h]; exact List.getElem_mem hjl)
      have hF : sameB l[j] x = false → ∀ k, k < j + 1 → l[k]? ≠ some x := fun h k hk => by
        by_cases e : k = j
        · subst e
          rw [List.getElem?_eq_getElem hjl]
          intro e2
          exact sameB_false.1 h (Option.some.inj e2)
        · exact HN.out k (by omega)
      have HT := Lib.hid hT; have HF := Lib.hid hF
      clear hT hF
      cases hb : sameB l[j] x with
      | true =>
        rw [hb] at hC
        have HTT := Lib.hid (HT.out hb)
        have HC := Lib.hid hC
        clear HT HF hb hC hsl hft
        generalize l[j] = r at *
        go_wp2_with fail
        refine HC.out.mono ?_
        rintro _ w2 ⟨rfl, hb1⟩
        go_wp2_with fail
        go_ret
        exact ⟨_, rfl, by rw [HTT.out]; simp, HBW.out.trans (hb1.mono hszr)⟩
      | false =>
        rw [hb] at hC
        have HFF := Lib.hid (HF.out hb)
        have HC := Lib.hid hC
        clear HT HF hb hC hsl hft
        go_wp2_with fail
        refine HC.out.mono ?_
        rintro _ w2 ⟨rfl, hb1⟩
        go_wp2_with fail
        go_roundw
        case rel => exact ⟨j + 1, by omega, by go_num, HFF, Lib.hid (HBW.out.trans (hb1.mono hszr))⟩
        case measure => simp [intOf]; omega
    · obtain rfl : j = l.length := by omega
      have hm : memB x l = false := by
        rw [← Bool.not_eq_true, memB_true]
        intro hm
        obtain ⟨k, hk, e⟩ := List.getElem_of_mem hm
        exact HN.out k hk (by rw [List.getElem?_eq_getElem hk, e])
      have HM := Lib.hid hm
      clear hm
      go_wp2_with fail
      go_ret
      exact ⟨_, rfl, by rw [HM.out]; decide, HBW.out⟩

set_option maxHeartbeats 1000000 in
theorem once_con (l : List Tree) (x : Tree) (u ux : Value) (B : Nat) (w : World) (hu : TSl w u l) (hx : TSl w ux x.l) (hfx : Fits x.kind x.n x.x x.s)
    (hb : w.heap[B]? = some (.cells #[.int .i64 x.kind, .int .i64 x.n, .int .i64 x.x, .string x.s, ux] 29 (0, 0))) :
    Calls Try.prog 40 #[u, .func (.func 41) #[] #[.pointer (some ⟨B, 0, none⟩)]] w fun e w' => e = .returned (.bool (memB x l)) ∧ Below w.heap.size w w' := by
  have HC := Lib.hid (once_idx l x u ux B w hu hx hfx hb)
  obtain ⟨a, n, cap, rfl⟩ := hu.form
  clear hu hx hb
  go_enter Try.func40, Try.ntmps40
  go_wp2_with fail
  refine HC.out.mono ?_
  rintro _ w1 ⟨r, rfl, hr, b1⟩
  have HR := Lib.hid hr; clear hr
  go_wp2_with fail
  go_ret
  exact ⟨ret_bool HR.out, b1⟩

theorem TSl.take {w : World} {a : Option Addr} {n cap : Nat} {l : List Tree} (h : TSl w (.slice a n cap) l) {j : Nat} (hj : j ≤ l.length) : TSl w (.slice a j cap) (l.take j) := by
  obtain ⟨a', cap', b, off, hv, hcap, hmax, ha, hl⟩ := h
  injection hv with hv1 hv2 hv3
  subst hv1 hv2 hv3
  have htl : (l.take j).length = j := by rw [List.length_take]; omega
  refine ⟨a, cap, b, off, by rw [htl], by rw [htl]; omega, hmax, fun hne => ha (fun e => hne (by rw [e]; simp)), fun i hi => ?_⟩
  rw [List.getElem_take]
  exact hl i (by rw [htl] at hi; omega)

set_option maxRecDepth 100000 in
set_option maxHeartbeats 4000000 in
theorem once_impl (t : Tree) (w : World) (u : Value) (hcost : t.cost ≤ 1048576) (hu : TSl w u t.l) (hfit : Fits t.kind t.n t.x t.s) :
    Calls Try.prog 21 #[.agg #[.int .i64 t.kind, .int .i64 t.n, .int .i64 t.x, .string t.s, u]] w fun e w' => e = .returned (.bool (onceB (namesF t))) ∧ Below w.heap.size w w' := by
  have hnl : (namesF t).length ≤ 1048576 := by
    have h1 := names_cost t; have h2 := Tree.cost_eq t; have h3 := costL_eq (namesF t); omega
  obtain ⟨a, n, cap, rfl⟩ := hu.form
  have HW := Lib.hid (vbelow1 w (.cells #[.int .i64 t.kind, .int .i64 t.n, .int .i64 t.x, .string t.s, .slice a n cap] 29))
  have HN := Lib.hid (names_impl t _ _ hcost (hu.kept HW.out) hfit)
  clear hu
  generalize namesF t = l at *
  go_enter Try.func21, Try.ntmps21
  go_wp2_with fail
  refine HN.out.mono ?_
  rintro _ w1 ⟨v1, rfl, hsl, b1⟩
  have HB1 := Lib.hid (vnx HW.out b1)
  have HSL := Lib.hid hsl
  clear b1 HN
  obtain ⟨a1, c1, b, off, rfl, hcap, hmax, ha, hl⟩ := hsl
  unfold maxLen at hmax
  have HL := Lib.hid hl; have HA := Lib.hid ha
  clear hl ha
  go_wp2_with fail
  go_loopw [10] (fun i wr => ∃ j : Nat, j ≤ l.length ∧ i = .int .i64 j ∧ Hid (onceUp l j) ∧ Hid (Below w1.heap.size w1 wr)) (fun i _ => l.length - (intOf i).toNat)
  case atStart => exact ⟨0, by omega, rfl, Lib.hid (fun i' k h => absurd h (Nat.not_lt_zero _)), Lib.hid (Below.refl _ _)⟩
  case round =>
    obtain ⟨j, hj, rfl, HO, HBW⟩ := hrel
    by_cases hjl : j < l.length
    · obtain rfl : a1 = some ⟨b, off, none⟩ := HA.out (by intro h; rw [h] at hjl; simp at hjl)
      obtain ⟨x, c0, c1', c2, c3, c4, hsl, hft⟩ := ((HL.out j hjl).kept HBW.out).parts
      obtain ⟨x1, x2, x3, rfl⟩ := hsl.form
      have hszr := HBW.out.size
      have hbx := vbelow1 wr (.cells #[.int .i64 l[j].kind, .int .i64 l[j].n, .int .i64 l[j].x, .string l[j].s, .slice x1 x2 x3] 29)
      have hC := once_con (l.take j) l[j] (.slice (some ⟨b, off, none⟩) j c1) (.slice x1 x2 x3) wr.heap.size _ (((HSL.out.take hj).kept HBW.out).kept hbx) (hsl.kept hbx) hft (heap_alloc_new wr _)
      have hF : memB l[j] (l.take j) = true → onceB l = false := fun h => by
        obtain ⟨k, hk, e⟩ := List.getElem_of_mem (memB_true.1 h)
        rw [List.length_take] at hk
        rw [List.getElem_take] at e
        exact onceB_false hjl (by omega) e
      have hT : memB l[j] (l.take j) = false → onceUp l (j + 1) := fun h => onceUp_succ HO.out hjl (fun k hk e => by
        have : l[j] ∈ l.take j := by
          rw [List.getElem?_eq_getElem (by omega)] at e
          rw [← Option.some.inj e]
          have hk2 : k < (l.take j).length := by rw [List.length_take]; omega
          have := List.getElem_mem hk2
          rwa [List.getElem_take] at this
        rw [← Bool.not_eq_true, memB_true] at h
        exact h this)
      have HF := Lib.hid hF; have HT := Lib.hid hT; have HC := Lib.hid hC
      have HBX := Lib.hid hbx
      clear hF hT hC hbx hsl hft
      cases hb : memB l[j] (l.take j) with
      | true =>
        rw [hb] at HC
        have HFF := Lib.hid (HF.out hb)
        clear HF HT hb
        generalize l[j] = r at *
        go_wp2_with fail
        refine HC.out.mono ?_
        rintro _ w2 ⟨rfl, hb1⟩
        go_wp2_with fail
        go_ret
        exact ⟨ret_bool HFF.out.symm, vnx HB1.out (HBW.out.trans ((vnx HBX.out hb1).mono hszr))⟩
      | false =>
        rw [hb] at HC
        have HTT := Lib.hid (HT.out hb)
        clear HF HT hb
        generalize l[j] = r at *
        go_wp2_with fail
        refine HC.out.mono ?_
        rintro _ w2 ⟨rfl, hb1⟩
        go_wp2_with fail
        go_roundw
        case rel => exact ⟨j + 1, by omega, by go_num, HTT, Lib.hid (HBW.out.trans ((vnx HBX.out hb1).mono hszr))⟩
        case measure => simp [intOf]; omega
    · obtain rfl : j = l.length := by omega
      have HF := Lib.hid (onceB_true HO.out)
      go_wp2_with fail
      go_ret
      exact ⟨ret_bool HF.out.symm, vnx HB1.out HBW.out⟩
end Go.Proofs.Ytjkjfdhbbblffaa
