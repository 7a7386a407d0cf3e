/- Sorted: both say whether a map's names stand in order. -/
import Derived.Test.YtilmhemcpgiikaaDoorVLess
import Derived.Test.YtilmhemcpgiikaaDoorVNames
namespace Go.Proofs.YtilmhemcpgiikaaDoor
open Go.Deep Go.ChangeShapes Go.WideShapes Go.ChangeAt Go.RowKit
open Go.ChangeMaps (open_string shut_string)

open Classical in
/-- Does each stand ahead of its next? -/
noncomputable def sortedL (l : List Tree) : Bool := decide (∀ k (h : k + 1 < l.length), lessT l[k] l[k + 1] = true)
open Classical in
theorem sortedL_yes {l : List Tree} (h : ∀ k (h : k + 1 < l.length), lessT l[k] l[k + 1] = true) : sortedL l = true := by
  unfold sortedL; exact decide_eq_true h
open Classical in
theorem sortedL_no {l : List Tree} {k : Nat} (hk : k + 1 < l.length) (h : lessT l[k] l[k + 1] = false) : sortedL l = false := by
  unfold sortedL; exact decide_eq_false (fun e => by rw [e k hk] at h; cases h)

set_option maxRecDepth 100000 in
set_option maxHeartbeats 4000000 in
theorem sorted_spec (t : Tree) (w : World) (u : Value) (hcost : t.cost ≤ 1048576) (hu : TSl w u t.l) (hfit : Fits t.kind t.n t.x t.s) :
    Calls Tryd.prog 18 #[.agg #[.int .i64 t.kind, .int .i64 t.n, .int .i64 t.x, .string t.s, u]] w fun e w' => e = .returned (.bool (sortedL (namesF t))) ∧ Below w.heap.size w w' := by
  obtain ⟨a, n, cap, rfl⟩ := hu.form
  have HW := Lib.hid (vbelow1 w (.cells #[.int .i64 t.kind, .int .i64 t.n, .int .i64 t.x, .string t.s, .slice a n cap] 29))
  have HN := Lib.hid (namesOf_spec t _ _ hcost (hu.kept HW.out) hfit)
  clear hu hfit hcost
  generalize namesF t = l at *
  go_enter Tryd.func18, Tryd.ntmps18
  go_wp2_with fail
  refine HN.out.mono ?_
  rintro _ w1 ⟨a1, n1, c1, rfl, ho, b1⟩
  have B1 := Lib.hid (vnx HW.out b1); clear b1
  have htl := ho.tsl; clear ho
  obtain ⟨a2, cap, b, off, he, hcap, hmax, ha, hl⟩ := htl
  cases he
  unfold maxLen at hmax
  have HL := Lib.hid hl; clear hl
  have HA := Lib.hid ha; clear ha
  go_wp2_with fail
  go_loopw [4] (fun i wr => ∃ j : Nat, (j = 0 ∨ j + 1 ≤ l.length) ∧ i = .int .i64 ((j : Int) + 1) ∧ Hid (∀ k, k < j → ∀ (h : k + 1 < l.length), lessT l[k] l[k + 1] = true) ∧ Hid (Below w1.heap.size w1 wr)) (fun i _ => l.length + 1 - (intOf i).toNat)
  case atStart => exact ⟨0, by omega, rfl, Lib.hid (by omega), Lib.hid (Below.refl _ _)⟩
  case round =>
    obtain ⟨j, hj, rfl, HT, HBW⟩ := hrel
    have hbw0 : Below w.heap.size w wr := vnx B1.out HBW.out
    have hszr := HBW.out.size
    by_cases hjl : j + 1 < l.length
    · obtain rfl : a1 = some ⟨b, off, none⟩ := HA.out (by intro h; rw [h] at hjl; simp at hjl)
      obtain ⟨x, c0, c1', c2, c3, c4, hsl, hft⟩ := ((HL.out j (by omega)).kept HBW.out).parts
      obtain ⟨x', d0, d1, d2, d3, d4, hsl', hft'⟩ := ((HL.out (j + 1) hjl).kept HBW.out).parts
      have hno := fun h => sortedL_no (l := l) hjl h
      have hyes : lessT l[j] l[j + 1] = true → ∀ k, k < j + 1 → ∀ (h : k + 1 < l.length), lessT l[k] l[k + 1] = true := fun e k hk h => by
        by_cases hkj : k = j
        · subst hkj; exact e
        · exact HT.out k (by omega) h
      have HC := Lib.hid (lessSpec_c l[j] l[j + 1] wr.drew x x' (hsl.kept (Below.refl _ _).drew) (hsl'.kept (Below.refl _ _).drew) hft hft')
      clear hsl hsl' hft hft'
      have hi1 : (j : Int) + 1 - 1 = j := by omega
      have hwj : IntKind.i64.wrap (j : Int) = j := IntWalk.i64_in _ (by omega)
      have htn : ((j : Int) + 1).toNat = j + 1 := by omega
      have hjb : (j : Int) < l.length := by omega
      have hj0 : (0 : Int) ≤ (j : Int) + 1 := by omega
      have hjn : ¬ ((j : Int) + 1 < 0) := by omega
      have hjl2 : (j : Int) + 1 < l.length := by omega
      have hjl3 : ¬ ((l.length : Int) ≤ (j : Int) + 1) := by omega
      generalize l[j] = r at *
      generalize l[j + 1] = r' at *
      generalize lessT r r' = R at *
      cases R with
      | true =>
        have HY := Lib.hid (hyes rfl)
        clear hno hyes
        go_wp2_with fail
        go_still_tail 9, (by kernel_rfl)
        change wpList _ _ _ _ _ wr.drew
        go_wp2_with fail
        refine HC.out.mono ?_
        rintro _ w2 ⟨rfl, hb1'⟩
        have hb1 : Below wr.heap.size wr w2 := ⟨hb1'.os, hb1'.tape, hb1'.output, hb1'.size, hb1'.block⟩
        clear hb1'
        go_wp2_with fail
        go_roundw
        case rel => exact ⟨j + 1, by omega, by go_num, HY, Lib.hid (HBW.out.trans (hb1.mono hszr))⟩
        case measure => simp [intOf]; omega
      | false =>
        have HF := Lib.hid (hno rfl)
        clear hno hyes
        go_wp2_with fail
        go_still_tail 9, (by kernel_rfl)
        change wpList _ _ _ _ _ wr.drew
        go_wp2_with fail
        refine HC.out.mono ?_
        rintro _ w2 ⟨rfl, hb1'⟩
        have hb1 : Below wr.heap.size wr w2 := ⟨hb1'.os, hb1'.tape, hb1'.output, hb1'.size, hb1'.block⟩
        clear hb1'
        go_wp2_with fail
        go_ret
        exact ⟨ret_bool HF.out.symm, hbw0.trans (hb1.mono hbw0.size)⟩
    · have HF := Lib.hid (sortedL_yes (l := l) (fun k h => HT.out k (by omega) h))
      have e1 : decide ((j : Int) + 1 < l.length) = false := decide_eq_false (by omega)
      go_wp2_with fail
      go_ret
      exact ⟨ret_bool HF.out.symm, hbw0⟩
set_option maxRecDepth 100000 in
set_option maxHeartbeats 4000000 in
theorem sorted_impl (t : Tree) (w : World) (u : Value) (hLP : LaidP w) (hcost : t.cost ≤ 1048576) (hu : TSl w u t.l) (hfit : Fits t.kind t.n t.x t.s) :
    Calls Tryd.prog 19 #[.agg #[.int .i64 t.kind, .int .i64 t.n, .int .i64 t.x, .string t.s, u]] w fun e w' => e = .returned (.bool (sortedL (namesF t))) ∧ Below w.heap.size w w' := by
  obtain ⟨a, n, cap, rfl⟩ := hu.form
  have HW := Lib.hid (vbelow1 w (.cells #[.int .i64 t.kind, .int .i64 t.n, .int .i64 t.x, .string t.s, .slice a n cap] 29))
  have HN := Lib.hid (names_impl t _ _ hcost (hu.kept HW.out) hfit)
  clear hu hfit hcost
  have HP := Lib.hid hLP; clear hLP
  generalize namesF t = l at *
  go_enter Tryd.func19, Tryd.ntmps19
  go_wp2_with fail
  refine HN.out.mono ?_
  rintro _ w1 ⟨v1, rfl, htl, b1⟩
  have B1 := Lib.hid (vnx HW.out b1); clear b1
  obtain ⟨a1, cap, b, off, rfl, hcap, hmax, ha, hl⟩ := htl
  unfold maxLen at hmax
  have HL := Lib.hid hl; clear hl
  have HA := Lib.hid ha; clear ha
  go_wp2_with fail
  go_loopw [4] (fun i wr => ∃ j : Nat, (j = 0 ∨ j + 1 ≤ l.length) ∧ i = .int .i64 ((j : Int) + 1) ∧ Hid (∀ k, k < j → ∀ (h : k + 1 < l.length), lessT l[k] l[k + 1] = true) ∧ Hid (Below w1.heap.size w1 wr)) (fun i _ => l.length + 1 - (intOf i).toNat)
  case atStart => exact ⟨0, by omega, rfl, Lib.hid (by omega), Lib.hid (Below.refl _ _)⟩
  case round =>
    obtain ⟨j, hj, rfl, HT, HBW⟩ := hrel
    have hbw0 : Below w.heap.size w wr := vnx B1.out HBW.out
    have hszr := HBW.out.size
    by_cases hjl : j + 1 < l.length
    · obtain rfl : a1 = some ⟨b, off, none⟩ := HA.out (by intro h; rw [h] at hjl; simp at hjl)
      obtain ⟨x, c0, c1', c2, c3, c4, hsl, hft⟩ := ((HL.out j (by omega)).kept HBW.out).parts
      obtain ⟨x', d0, d1, d2, d3, d4, hsl', hft'⟩ := ((HL.out (j + 1) hjl).kept HBW.out).parts
      have hno := fun h => sortedL_no (l := l) hjl h
      have hyes : lessT l[j] l[j + 1] = true → ∀ k, k < j + 1 → ∀ (h : k + 1 < l.length), lessT l[k] l[k + 1] = true := fun e k hk h => by
        by_cases hkj : k = j
        · subst hkj; exact e
        · exact HT.out k (by omega) h
      have HC := Lib.hid (lessImpl_c l[j] l[j + 1] wr.drew x x' (HP.out.kept hbw0.drew) (hsl.kept (Below.refl _ _).drew) (hsl'.kept (Below.refl _ _).drew) hft hft')
      clear hsl hsl' hft hft'
      have hi1 : (j : Int) + 1 - 1 = j := by omega
      have hwj : IntKind.i64.wrap (j : Int) = j := IntWalk.i64_in _ (by omega)
      have htn : ((j : Int) + 1).toNat = j + 1 := by omega
      have hjb : (j : Int) < l.length := by omega
      have hj0 : (0 : Int) ≤ (j : Int) + 1 := by omega
      have hjn : ¬ ((j : Int) + 1 < 0) := by omega
      have hjl2 : (j : Int) + 1 < l.length := by omega
      have hjl3 : ¬ ((l.length : Int) ≤ (j : Int) + 1) := by omega
      generalize l[j] = r at *
      generalize l[j + 1] = r' at *
      generalize lessT r r' = R at *
      cases R with
      | true =>
        have HY := Lib.hid (hyes rfl)
        clear hno hyes
        go_wp2_with fail
        go_still_tail 9, (by kernel_rfl)
        change wpList _ _ _ _ _ wr.drew
        go_wp2_with fail
        refine HC.out.mono ?_
        rintro _ w2 ⟨rfl, hb1'⟩
        have hb1 : Below wr.heap.size wr w2 := ⟨hb1'.os, hb1'.tape, hb1'.output, hb1'.size, hb1'.block⟩
        clear hb1'
        go_wp2_with fail
        go_roundw
        case rel => exact ⟨j + 1, by omega, by go_num, HY, Lib.hid (HBW.out.trans (hb1.mono hszr))⟩
        case measure => simp [intOf]; omega
      | false =>
        have HF := Lib.hid (hno rfl)
        clear hno hyes
        go_wp2_with fail
        go_still_tail 9, (by kernel_rfl)
        change wpList _ _ _ _ _ wr.drew
        go_wp2_with fail
        refine HC.out.mono ?_
        rintro _ w2 ⟨rfl, hb1'⟩
        have hb1 : Below wr.heap.size wr w2 := ⟨hb1'.os, hb1'.tape, hb1'.output, hb1'.size, hb1'.block⟩
        clear hb1'
        go_wp2_with fail
        go_ret
        exact ⟨ret_bool HF.out.symm, hbw0.trans (hb1.mono hbw0.size)⟩
    · have HF := Lib.hid (sortedL_yes (l := l) (fun k h => HT.out k (by omega) h))
      have e1 : decide ((j : Int) + 1 < l.length) = false := decide_eq_false (by omega)
      go_wp2_with fail
      go_ret
      exact ⟨ret_bool HF.out.symm, hbw0⟩
end Go.Proofs.YtilmhemcpgiikaaDoor
