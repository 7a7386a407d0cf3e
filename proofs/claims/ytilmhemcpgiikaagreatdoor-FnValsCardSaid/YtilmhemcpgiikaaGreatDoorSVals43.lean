/- Vals: texts of the proof (VEvery). -/
import Derived.Test.YtilmhemcpgiikaaGreatDoorSVals42
/- every, over a tree, and ValOk of the program. -/
namespace Go.Proofs.YtilmhemcpgiikaaGreatDoor
open Go.Deep Go.ChangeShapes Go.WideShapes Go.ChangeAt Go.RowKit
open Go.ChangeMaps (open_string shut_string)

/-- The function value that is handed on. -/
abbrev isV : Value := .func (.func 42) #[] #[]
def everyC (t : Tree) : Prop := ∀ (w : World) (u : Value), t.cost ≤ 1048576 → LaidP w → LaidU w → TSl w u t.l → Fits t.kind t.n t.x t.s →
  Calls Tryz.prog 41 #[.agg #[.int .i64 t.kind, .int .i64 t.n, .int .i64 t.x, .string t.s, u], isV] w fun e w' => e = .returned (.bool t.ok) ∧ Below w.heap.size w w'
theorem fn_kept {W w1 : World} (hb : Below W.heap.size W w1) {B : Nat} {v : Value} {T : TypeId} (h : W.heap[B]? = some (.cells #[v] T (0, 0))) : w1.cell? ⟨B, 0, none⟩ = some v := by
  have hlt : B < W.heap.size := (Array.getElem?_eq_some_iff.1 h).1
  have := (hb.block B hlt).trans h
  simp [World.cell?, this]

set_option maxRecDepth 100000 in
set_option maxHeartbeats 4000000 in
theorem every_clo (o : Tree) (uo : Value) (B : Nat) (w : World) (ih : everyC o) (hcost : o.cost ≤ 1048576) (hP : LaidP w) (hU : LaidU w) (ho : TSl w uo o.l) (hfo : Fits o.kind o.n o.x o.s)
    (hb : w.heap[B]? = some (.cells #[isV] 36 (0, 0))) :
    Calls Tryz.prog 69 #[.agg #[.int .i64 o.kind, .int .i64 o.n, .int .i64 o.x, .string o.s, uo], .pointer (some ⟨B, 0, none⟩)] w fun e w' => e = .returned (.bool (!o.ok)) ∧ Below w.heap.size w w' := by
  obtain ⟨a, n, cap, rfl⟩ := ho.form
  have hW := vbelow1 w (.cells #[.int .i64 o.kind, .int .i64 o.n, .int .i64 o.x, .string o.s, .slice a n cap] 26)
  have HC := Lib.hid (ih _ _ hcost (hP.kept hW) (hU.kept hW) (ho.kept hW) hfo)
  have q0 := fn_kept hW hb
  have HW := Lib.hid hW
  clear ho hb hW hP hU
  generalize o.ok = R at *
  go_enter Tryz.func69, Tryz.ntmps69
  go_wp2_with fail
  refine HC.out.mono ?_
  rintro _ w1 ⟨rfl, b1⟩
  go_wp2_with fail
  go_ret
  exact ⟨rfl, vnx HW.out b1⟩

set_option maxRecDepth 100000 in
set_option maxHeartbeats 4000000 in
theorem every_idx (l : List Tree) (ih : ∀ t ∈ l, everyC t) (u : Value) (B : Nat) (w : World) (hcost : ∀ j (h : j < l.length), l[j].cost ≤ 1048576) (hP : LaidP w) (hU : LaidU w) (hu : TSl w u l)
    (hb : w.heap[B]? = some (.cells #[isV] 36 (0, 0))) :
    Calls Tryz.prog 83 #[u, .func (.func 69) #[] #[.pointer (some ⟨B, 0, none⟩)]] w fun e w' => ∃ r : Int, e = .returned (.int .i64 r) ∧ decide (0 ≤ r) = !okL l ∧ Below w.heap.size w w' := by
  obtain ⟨a, cap, b, off, rfl, hcap, hmax, ha, hl⟩ := hu
  unfold maxLen at hmax
  have hlt : B < w.heap.size := (Array.getElem?_eq_some_iff.1 hb).1
  have HL := Lib.hid hl; have HA := Lib.hid ha
  have HCL := Lib.hid (fun (w1 : World) (hb1 : Below w.heap.size w w1) j (h : j < l.length) (uo : Value) (hs : TSl w1 uo l[j].l) (hf : Fits l[j].kind l[j].n l[j].x l[j].s) => every_clo l[j] uo B w1 (ih _ (List.getElem_mem h)) (hcost j h) (hP.kept hb1) (hU.kept hb1) hs hf ((hb1.block B hlt).trans hb))
  clear hl ha hb hP hU ih hcost
  go_enter Tryz.func83, Tryz.ntmps83
  go_wp2_with fail
  go_loopw [8] (fun i wr => ∃ j : Nat, j ≤ l.length ∧ i = .int .i64 j ∧ Hid (∀ k (h : k < l.length), k < j → l[k].ok = true) ∧ Hid (Below w.heap.size w wr)) (fun i _ => l.length - (intOf i).toNat)
  case atStart => exact ⟨0, by omega, rfl, Lib.hid (fun k h h2 => absurd h2 (Nat.not_lt_zero _)), Lib.hid (Below.refl _ _)⟩
  case round =>
    obtain ⟨j, hj, rfl, HN, HBW⟩ := hrel
    by_cases hjl : j < l.length
    · obtain rfl : a = some ⟨b, off, none⟩ := HA.out (by intro h; rw [h] at hjl; simp at hjl)
      obtain ⟨y, c0, c1, c2, c3, c4, hsl, hft⟩ := ((HL.out j hjl).kept HBW.out).parts
      have hC := HCL.out wr HBW.out j hjl y hsl hft
      have hszr := HBW.out.size
      have hT : l[j].ok = false → okL l = false := fun h => okL_at hjl h
      have hF : l[j].ok = true → ∀ k (h : k < l.length), k < j + 1 → l[k].ok = true := fun h k hk hk2 => by
        by_cases e : k = j
        · subst e; exact h
        · exact HN.out k hk (by omega)
      have HT := Lib.hid hT; have HF := Lib.hid hF
      clear hT hF
      cases hb : l[j].ok with
      | false =>
        rw [hb] at hC
        have HTT := Lib.hid (HT.out hb)
        have HC := Lib.hid hC
        clear HT HF hb hC hsl hft
        generalize l[j] = r at *
        go_wp2_with fail
        refine HC.out.mono ?_
        rintro _ w2 ⟨rfl, hb1⟩
        go_wp2_with fail
        go_ret
        exact ⟨_, rfl, by rw [HTT.out]; simp, HBW.out.trans (hb1.mono hszr)⟩
      | true =>
        rw [hb] at hC
        have HFF := Lib.hid (HF.out hb)
        have HC := Lib.hid hC
        clear HT HF hb hC hsl hft
        go_wp2_with fail
        refine HC.out.mono ?_
        rintro _ w2 ⟨rfl, hb1⟩
        go_wp2_with fail
        go_roundw
        case rel => exact ⟨j + 1, by omega, by go_num, HFF, Lib.hid (HBW.out.trans (hb1.mono hszr))⟩
        case measure => simp [intOf]; omega
    · obtain rfl : j = l.length := by omega
      have hm : okL l = true := okL_true (fun k h => HN.out k h h)
      have HM := Lib.hid hm
      clear hm
      go_wp2_with fail
      go_ret
      exact ⟨_, rfl, by rw [HM.out]; decide, HBW.out⟩

set_option maxHeartbeats 1000000 in
theorem every_con (l : List Tree) (ih : ∀ t ∈ l, everyC t) (u : Value) (B : Nat) (w : World) (hcost : ∀ j (h : j < l.length), l[j].cost ≤ 1048576) (hP : LaidP w) (hU : LaidU w) (hu : TSl w u l)
    (hb : w.heap[B]? = some (.cells #[isV] 36 (0, 0))) :
    Calls Tryz.prog 68 #[u, .func (.func 69) #[] #[.pointer (some ⟨B, 0, none⟩)]] w fun e w' => e = .returned (.bool (!okL l)) ∧ Below w.heap.size w w' := by
  have HC := Lib.hid (every_idx l ih u B w hcost hP hU hu hb)
  obtain ⟨a, n, cap, rfl⟩ := hu.form
  clear hu hb hP hU ih
  go_enter Tryz.func68, Tryz.ntmps68
  go_wp2_with fail
  refine HC.out.mono ?_
  rintro _ w1 ⟨r, rfl, hr, b1⟩
  have HR := Lib.hid hr; clear hr
  go_wp2_with fail
  go_ret
  exact ⟨ret_bool HR.out, b1⟩

set_option maxRecDepth 100000 in
set_option maxHeartbeats 4000000 in
theorem every_of (t : Tree) (ih : ∀ t' ∈ t.l, everyC t') : everyC t := by
  intro w u hcost hP hU hu hfit
  obtain ⟨a, n, cap, rfl⟩ := hu.form
  have HW := Lib.hid (vbelow2 w (.cells #[.int .i64 t.kind, .int .i64 t.n, .int .i64 t.x, .string t.s, .slice a n cap] 26) (.cells #[isV] 36))
  have K0 := Lib.hid (box5_kept (vbelow1 _ (.cells #[isV] 36)) (box5_new w (.int .i64 t.kind) (.int .i64 t.n) (.int .i64 t.x) (.string t.s) (.slice a n cap) 26))
  have B0 : Hid (((w.alloc (.cells #[.int .i64 t.kind, .int .i64 t.n, .int .i64 t.x, .string t.s, .slice a n cap] 26)).alloc (.cells #[isV] 36)).heap[w.heap.size + 1]? = some (.cells #[isV] 36 (0, 0))) := by
    have := heap_alloc_new (w.alloc (.cells #[.int .i64 t.kind, .int .i64 t.n, .int .i64 t.x, .string t.s, .slice a n cap] 26)) (.cells #[isV] 36)
    refine Lib.hid ?_
    simpa only [World.size_alloc] using this
  have HO := Lib.hid (ownImpl_c t _ _ hcost (hP.kept HW.out) (hU.kept HW.out) (hu.kept HW.out) hfit)
  have HCN := Lib.hid (fun w1 (hb : Below ((w.alloc (.cells #[.int .i64 t.kind, .int .i64 t.n, .int .i64 t.x, .string t.s, .slice a n cap] 26)).alloc (.cells #[isV] 36)).heap.size ((w.alloc (.cells #[.int .i64 t.kind, .int .i64 t.n, .int .i64 t.x, .string t.s, .slice a n cap] 26)).alloc (.cells #[isV] 36)) w1) => every_con t.l ih (.slice a n cap) (w.heap.size + 1) w1 (fun j h => Nat.le_trans (cost_elem h) hcost) (hP.kept (vnx HW.out hb)) (hU.kept (vnx HW.out hb)) (hu.kept (vnx HW.out hb)) ((hb.block _ (by simp only [World.size_alloc]; omega)).trans B0.out))
  have HOK := Lib.hid (Tree.ok_eq t)
  clear hu hP hU ih hfit hcost
  go_enter Tryz.func41, Tryz.ntmps41
  go_wp2_with fail
  refine HO.out.mono ?_
  rintro _ w1 ⟨rfl, b1⟩
  have HB1 := Lib.hid b1
  obtain ⟨k0, k1, k2, k3, k4⟩ := box5_kept b1 K0.out
  have HC1 := Lib.hid (HCN.out w1 b1)
  clear b1 HCN
  cases hb : ownB t with
  | false =>
    have hf : t.ok = false := by rw [HOK.out, hb]; simp
    have HF := Lib.hid hf; clear hf hb
    go_wp2_with fail
    go_ret
    exact ⟨ret_bool HF.out.symm, vnx HW.out HB1.out⟩
  | true =>
    have hf : t.ok = okL t.l := by rw [HOK.out, hb]; simp
    have HF := Lib.hid hf; clear hf hb
    go_wp2_with fail
    refine HC1.out.mono ?_
    rintro _ w2 ⟨rfl, b2⟩
    have HB2 := Lib.hid b2; clear b2
    go_wp2_with fail
    go_ret
    exact ⟨ret_bool (by first | rw [HF.out] | (rw [HF.out]; simp)), vnx (vnx HW.out HB1.out) HB2.out⟩
theorem every_c (t : Tree) : everyC t := Tree.ind (p := everyC) every_of t

set_option maxHeartbeats 1000000 in
theorem okImpl_c (t : Tree) (w : World) (u : Value) (hcost : t.cost ≤ 1048576) (hP : LaidP w) (hU : LaidU w) (hu : TSl w u t.l) (hfit : Fits t.kind t.n t.x t.s) :
    Calls Tryz.prog 13 #[.agg #[.int .i64 t.kind, .int .i64 t.n, .int .i64 t.x, .string t.s, u]] w fun e w' => e = .returned (.bool t.ok) ∧ Below w.heap.size w w' := by
  obtain ⟨a, n, cap, rfl⟩ := hu.form
  have HW := Lib.hid (vbelow1 w (.cells #[.int .i64 t.kind, .int .i64 t.n, .int .i64 t.x, .string t.s, .slice a n cap] 26))
  have HC := Lib.hid (every_c t _ _ hcost (hP.kept HW.out) (hU.kept HW.out) (hu.kept HW.out) hfit)
  clear hu hP hU
  go_enter Tryz.func13, Tryz.ntmps13
  go_wp2_with fail
  refine HC.out.mono ?_
  rintro _ w1 ⟨rfl, b1⟩
  go_wp2_with fail
  go_ret
  exact ⟨rfl, vnx HW.out b1⟩
end Go.Proofs.YtilmhemcpgiikaaGreatDoor
