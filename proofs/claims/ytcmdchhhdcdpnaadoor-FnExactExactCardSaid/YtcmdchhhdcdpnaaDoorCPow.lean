/- Pow: both give the power. -/
import Derived.Test.YtcmdchhhdcdpnaaDoorCBase
namespace Go.Proofs.YtcmdchhhdcdpnaaDoor
open Go.ChangeShapes Go.WideShapes Go.ChangeAt Go.RowKit
open Go.ChangeMaps (open_string shut_string)


/-- The power of 2, 5 or 10, else 0. -/
def powF (b k : Int) : Int := if (b = 2 ∨ b = 5 ∨ b = 10) ∧ 0 ≤ k ∧ k ≤ 17 then b ^ k.toNat else 0

theorem pow_bd (b : Int) (j : Nat) (h0 : 1 ≤ b) (hb : b ≤ 10) (hj : j ≤ 17) : 1 ≤ b ^ j ∧ b ^ j ≤ 100000000000000000 := by
  have h1 : (1 : Int) ≤ b ^ j := by
    induction j with
    | zero => simp
    | succ j ih => rw [Int.pow_succ]; have := ih (by omega); exact Int.le_trans this (by have := Int.mul_le_mul_of_nonneg_left h0 (show 0 ≤ b ^ j by omega); omega)
  refine ⟨h1, ?_⟩
  have h2 : b ^ j ≤ 10 ^ j := by
    clear h1 hj
    induction j with
    | zero => simp
    | succ j ih =>
      rw [Int.pow_succ, Int.pow_succ]
      have hp : (0 : Int) ≤ b ^ j := Int.pow_nonneg (by omega)
      exact Int.mul_le_mul ih hb (by omega) (Int.pow_nonneg (by decide))
  have h3 : (10 : Int) ^ j ≤ 10 ^ 17 := by
    have : (10 ^ j : Nat) ≤ 10 ^ 17 := Nat.pow_le_pow_right (by decide) hj
    exact_mod_cast this
  have h4 : (10 : Int) ^ 17 = 100000000000000000 := by decide
  omega

set_option maxHeartbeats 2000000 in
theorem pow_spec (b k : Int) (w : World) :
    Calls Tryd.prog 12 #[.int .i64 b, .int .i64 k] w fun e w' => e = .returned (.int .i64 (powF b k)) ∧ w = w' := by
  by_cases hb : b = 2 ∨ b = 5 ∨ b = 10
  · cases hk : inB k 0 17 with
    | false =>
      have hf : powF b k = 0 := by unfold powF; rw [if_neg (by have := inB_false.1 hk; omega)]
      rw [hf]; clear hf
      rcases hb with rfl | rfl | rfl
      all_goals
        go_enter Tryd.func12, Tryd.ntmps12
        go_wp2_with (go_at_call 22; refine (l1In_c _ _ _ _).mono ?_; rintro e w' ⟨rfl, rfl⟩)
        all_goals (go_ret; exact ⟨rfl, rfl⟩)
    | true =>
      obtain ⟨h1, h2⟩ := inB_true.1 hk
      obtain ⟨K, rfl⟩ : ∃ K : Nat, k = (K : Int) := ⟨k.toNat, by omega⟩
      have hf : powF b K = b ^ K := by unfold powF; rw [if_pos ⟨hb, h1, h2⟩]; rfl
      rw [hf]; clear hf
      rcases hb with rfl | rfl | rfl
      · go_enter Tryd.func12, Tryd.ntmps12
        go_wp2_with (go_at_call 22; refine (l1In_c _ _ _ _).mono ?_; rintro e w' ⟨rfl, rfl⟩)
        go_loop [5, 6] (fun n i => ∃ j : Nat, j ≤ K ∧ n = .int .i64 (2 ^ j) ∧ i = .int .i64 j) (fun _ i => K - (intOf i).toNat)
        case atStart => exact ⟨0, by omega, by simp, rfl⟩
        case round =>
          obtain ⟨j, hj, rfl, rfl⟩ := hrel
          obtain ⟨p1, p2⟩ := pow_bd 2 j (by omega) (by omega) (by omega)
          by_cases hlt : j < K
          · obtain ⟨p3, p4⟩ := pow_bd 2 (j + 1) (by omega) (by omega) (by omega)
            rw [Int.pow_succ] at p3 p4
            go_wp2
            go_round
            case rel => exact ⟨j + 1, by omega, by rw [Int.pow_succ], by go_num⟩
            case measure => simp [intOf]; omega
          · obtain rfl : j = K := by omega
            go_wp2
            go_ret
            exact ⟨rfl, rfl⟩
      · go_enter Tryd.func12, Tryd.ntmps12
        go_wp2_with (go_at_call 22; refine (l1In_c _ _ _ _).mono ?_; rintro e w' ⟨rfl, rfl⟩)
        go_loop [5, 6] (fun n i => ∃ j : Nat, j ≤ K ∧ n = .int .i64 (5 ^ j) ∧ i = .int .i64 j) (fun _ i => K - (intOf i).toNat)
        case atStart => exact ⟨0, by omega, by simp, rfl⟩
        case round =>
          obtain ⟨j, hj, rfl, rfl⟩ := hrel
          obtain ⟨p1, p2⟩ := pow_bd 5 j (by omega) (by omega) (by omega)
          by_cases hlt : j < K
          · obtain ⟨p3, p4⟩ := pow_bd 5 (j + 1) (by omega) (by omega) (by omega)
            rw [Int.pow_succ] at p3 p4
            go_wp2
            go_round
            case rel => exact ⟨j + 1, by omega, by rw [Int.pow_succ], by go_num⟩
            case measure => simp [intOf]; omega
          · obtain rfl : j = K := by omega
            go_wp2
            go_ret
            exact ⟨rfl, rfl⟩
      · go_enter Tryd.func12, Tryd.ntmps12
        go_wp2_with (go_at_call 22; refine (l1In_c _ _ _ _).mono ?_; rintro e w' ⟨rfl, rfl⟩)
        go_loop [5, 6] (fun n i => ∃ j : Nat, j ≤ K ∧ n = .int .i64 (10 ^ j) ∧ i = .int .i64 j) (fun _ i => K - (intOf i).toNat)
        case atStart => exact ⟨0, by omega, by simp, rfl⟩
        case round =>
          obtain ⟨j, hj, rfl, rfl⟩ := hrel
          obtain ⟨p1, p2⟩ := pow_bd 10 j (by omega) (by omega) (by omega)
          by_cases hlt : j < K
          · obtain ⟨p3, p4⟩ := pow_bd 10 (j + 1) (by omega) (by omega) (by omega)
            rw [Int.pow_succ] at p3 p4
            go_wp2
            go_round
            case rel => exact ⟨j + 1, by omega, by rw [Int.pow_succ], by go_num⟩
            case measure => simp [intOf]; omega
          · obtain rfl : j = K := by omega
            go_wp2
            go_ret
            exact ⟨rfl, rfl⟩
  · have hf : powF b k = 0 := by unfold powF; rw [if_neg (by intro h; exact hb h.1)]
    rw [hf]; clear hf
    have hb1 : (b != 2) = true := by simp; omega
    have hb2 : (b != 5) = true := by simp; omega
    have hb3 : (b != 10) = true := by simp; omega
    clear hb
    go_enter Tryd.func12, Tryd.ntmps12
    go_wp2_with (go_at_call 22; refine (l1In_c _ _ _ _).mono ?_; rintro e w' ⟨rfl, rfl⟩)
    all_goals (go_ret; exact ⟨rfl, rfl⟩)
set_option maxHeartbeats 2000000 in
theorem power_impl (b : Int) (K : Nat) (w : World) (hb : b = 2 ∨ b = 5 ∨ b = 10) (hk : K ≤ 17) :
    Calls Tryd.prog 16 #[.int .i64 b, .int .i64 K] w fun e w' => e = .returned (.int .i64 (b ^ K)) ∧ w = w' := by
  have h0 : 1 ≤ b := by omega
  have h10 : b ≤ 10 := by omega
  clear hb
  go_enter Tryd.func16, Tryd.ntmps16
  go_wp2_with fail
  go_loop [5, 7] (fun n i => ∃ j : Nat, j ≤ K ∧ n = .int .i64 (b ^ j) ∧ i = .int .i64 j) (fun _ i => K - (intOf i).toNat)
  case atStart => exact ⟨0, by omega, by simp, rfl⟩
  case round =>
    obtain ⟨j, hj, rfl, rfl⟩ := hrel
    obtain ⟨p1, p2⟩ := pow_bd b j (by omega) (by omega) (by omega)
    by_cases hlt : j < K
    · obtain ⟨p3, p4⟩ := pow_bd b (j + 1) (by omega) (by omega) (by omega)
      rw [Int.pow_succ] at p3 p4
      go_wp2
      go_round
      case rel => exact ⟨j + 1, by omega, by rw [Int.pow_succ], by go_num⟩
      case measure => simp [intOf]; omega
    · obtain rfl : j = K := by omega
      go_wp2
      go_ret
      exact ⟨rfl, rfl⟩

end Go.Proofs.YtcmdchhhdcdpnaaDoor
