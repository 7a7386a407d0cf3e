/- The laws' own comparisons. -/
import Derived.Test.YtcagcjkhjfbbpaaDoorCStr
namespace Go.Proofs.YtcagcjkhjfbbpaaDoor
open Go.Deep Go.ChangeShapes Go.WideShapes Go.ChangeAt Go.RowKit

theorem big_c (n : Nat) (a : Option Addr) (cap : Nat) (w : World) :
    Calls Tryd.prog 6 #[.slice a n cap] w fun e w' => e = .returned (.bool (decide ((1048576 : Int) < (n : Int)))) ∧ w = w' := by
  go_enter Tryd.func6, Tryd.ntmps6
  go_wp2_with fail
  go_ret
  exact ⟨rfl, rfl⟩
set_option maxHeartbeats 1000000 in
theorem same_c (xs ys : List Int) (a b : Option Addr) (ca cb : Nat) (w : World) (ha : Rd w .u8 a xs) (hb : Rd w .u8 b ys) (hlen : xs.length ≤ 1099511627776) (hlen2 : ys.length ≤ 1099511627776) :
    Calls Tryd.prog 12 #[.slice a xs.length ca, .slice b ys.length cb] w fun e w' => e = .returned (.bool (decide (xs = ys))) ∧ ∃ q, w' = w.drewN q := by
  by_cases hne : xs.length = ys.length
  · have hx : ((xs.length : Int) != (ys.length : Int)) = false := by simp [hne]
    have HA := Lib.hid ha; clear ha
    have HB := Lib.hid hb; clear hb
    have HNE := Lib.hid hne; clear hne
    go_enter Tryd.func12, Tryd.ntmps12
    go_wp2_with fail
    go_loopw [5] (fun i wr => ∃ j q : Nat, j ≤ xs.length ∧ i = .int .i64 j ∧ wr = w.drewN q ∧ Hid (xs.take j = ys.take j)) (fun i _ => xs.length - (intOf i).toNat)
    case atStart => exact ⟨0, 0, by omega, rfl, rfl, Lib.hid (by simp)⟩
    case round =>
      obtain ⟨j, q, hj, rfl, rfl, HT⟩ := hrel
      by_cases hjl : j < xs.length
      · have hjl2 : j < ys.length := by have := HNE.out; omega
        rcases HA.out with h0 | ⟨ba, oa, rfl, hba, hca⟩
        · rw [h0] at hjl; simp at hjl
        rcases HB.out with h0 | ⟨bb, ob, rfl, hbb, hcb⟩
        · rw [h0] at hjl2; simp at hjl2
        have ka := hca j hjl
        have kb := hcb j hjl2
        clear hca hcb
        have tx : xs.take (j + 1) = xs.take j ++ [xs.getD j 0] := take_snoc hjl
        have ty : ys.take (j + 1) = ys.take j ++ [ys.getD j 0] := take_snoc hjl2
        have TX := Lib.hid tx; clear tx
        have TY := Lib.hid ty; clear ty
        generalize xs.getD j 0 = x at *
        generalize ys.getD j 0 = y at *
        cases hxy : (x != y) with
        | false =>
          have hx2 : x = y := by simpa using hxy
          have HX := Lib.hid hx2; clear hx2
          go_wp2_with fail
          go_quiet (fail)
          go_wp2_with fail
          go_roundw
          case rel => exact ⟨j + 1, _, by omega, by go_num, rfl, Lib.hid (by rw [TX.out, TY.out, HT.out, HX.out])⟩
          case measure => simp [intOf]; omega
        | true =>
          have hx2 : xs ≠ ys := by
            intro h
            have h1 := TX.out
            have h2 := TY.out
            rw [h] at h1
            rw [h1] at h2
            have := List.append_inj_right' h2 rfl
            simp at this hxy
            exact hxy this
          have HX := Lib.hid hx2; clear hx2
          go_wp2_with fail
          go_quiet (fail)
          go_wp2_with fail
          go_ret
          exact ⟨ret_bool (by rw [decide_eq_false HX.out]), _, drewN_two _ _ _⟩
      · obtain rfl : j = xs.length := by omega
        have hx2 : xs = ys := by
          have h1 := HT.out
          have h2 := HNE.out
          rw [List.take_length] at h1
          rw [h2, List.take_length] at h1
          exact h1
        have HX := Lib.hid hx2; clear hx2
        go_wp2_with fail
        go_ret
        exact ⟨ret_bool (by rw [decide_eq_true HX.out]), _, rfl⟩
  · have hx : ((xs.length : Int) != (ys.length : Int)) = true := by simp; omega
    have hf : decide (xs = ys) = false := decide_eq_false (fun h => hne (by rw [h]))
    rw [hf]; clear hf hne
    go_enter Tryd.func12, Tryd.ntmps12
    go_wp2_with fail
    go_ret
    exact ⟨rfl, 0, rfl⟩
set_option maxHeartbeats 1000000 in
theorem sameInts_c (xs ys : List Int) (a b : Option Addr) (ca cb : Nat) (w : World) (ha : Rd w .i64 a xs) (hb : Rd w .i64 b ys) (hlen : xs.length ≤ 1099511627776) (hlen2 : ys.length ≤ 1099511627776) :
    Calls Tryd.prog 22 #[.slice a xs.length ca, .slice b ys.length cb] w fun e w' => e = .returned (.bool (decide (xs = ys))) ∧ ∃ q, w' = w.drewN q := by
  by_cases hne : xs.length = ys.length
  · have hx : ((xs.length : Int) != (ys.length : Int)) = false := by simp [hne]
    have HA := Lib.hid ha; clear ha
    have HB := Lib.hid hb; clear hb
    have HNE := Lib.hid hne; clear hne
    go_enter Tryd.func22, Tryd.ntmps22
    go_wp2_with fail
    go_loopw [5] (fun i wr => ∃ j q : Nat, j ≤ xs.length ∧ i = .int .i64 j ∧ wr = w.drewN q ∧ Hid (xs.take j = ys.take j)) (fun i _ => xs.length - (intOf i).toNat)
    case atStart => exact ⟨0, 0, by omega, rfl, rfl, Lib.hid (by simp)⟩
    case round =>
      obtain ⟨j, q, hj, rfl, rfl, HT⟩ := hrel
      by_cases hjl : j < xs.length
      · have hjl2 : j < ys.length := by have := HNE.out; omega
        rcases HA.out with h0 | ⟨ba, oa, rfl, hba, hca⟩
        · rw [h0] at hjl; simp at hjl
        rcases HB.out with h0 | ⟨bb, ob, rfl, hbb, hcb⟩
        · rw [h0] at hjl2; simp at hjl2
        have ka := hca j hjl
        have kb := hcb j hjl2
        clear hca hcb
        have tx : xs.take (j + 1) = xs.take j ++ [xs.getD j 0] := take_snoc hjl
        have ty : ys.take (j + 1) = ys.take j ++ [ys.getD j 0] := take_snoc hjl2
        have TX := Lib.hid tx; clear tx
        have TY := Lib.hid ty; clear ty
        generalize xs.getD j 0 = x at *
        generalize ys.getD j 0 = y at *
        cases hxy : (x != y) with
        | false =>
          have hx2 : x = y := by simpa using hxy
          have HX := Lib.hid hx2; clear hx2
          go_wp2_with fail
          go_quiet (fail)
          go_wp2_with fail
          go_roundw
          case rel => exact ⟨j + 1, _, by omega, by go_num, rfl, Lib.hid (by rw [TX.out, TY.out, HT.out, HX.out])⟩
          case measure => simp [intOf]; omega
        | true =>
          have hx2 : xs ≠ ys := by
            intro h
            have h1 := TX.out
            have h2 := TY.out
            rw [h] at h1
            rw [h1] at h2
            have := List.append_inj_right' h2 rfl
            simp at this hxy
            exact hxy this
          have HX := Lib.hid hx2; clear hx2
          go_wp2_with fail
          go_quiet (fail)
          go_wp2_with fail
          go_ret
          exact ⟨ret_bool (by rw [decide_eq_false HX.out]), _, drewN_two _ _ _⟩
      · obtain rfl : j = xs.length := by omega
        have hx2 : xs = ys := by
          have h1 := HT.out
          have h2 := HNE.out
          rw [List.take_length] at h1
          rw [h2, List.take_length] at h1
          exact h1
        have HX := Lib.hid hx2; clear hx2
        go_wp2_with fail
        go_ret
        exact ⟨ret_bool (by rw [decide_eq_true HX.out]), _, rfl⟩
  · have hx : ((xs.length : Int) != (ys.length : Int)) = true := by simp; omega
    have hf : decide (xs = ys) = false := decide_eq_false (fun h => hne (by rw [h]))
    rw [hf]; clear hf hne
    go_enter Tryd.func22, Tryd.ntmps22
    go_wp2_with fail
    go_ret
    exact ⟨rfl, 0, rfl⟩
end Go.Proofs.YtcagcjkhjfbbpaaDoor
