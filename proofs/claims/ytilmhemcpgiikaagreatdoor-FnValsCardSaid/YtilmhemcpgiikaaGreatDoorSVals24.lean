/- Vals: texts of the proof (CPow MLess). -/
import Derived.Test.YtilmhemcpgiikaaGreatDoorSVals1
import Derived.Test.YtilmhemcpgiikaaGreatDoorSVals14
/- Pow: both give the power. -/
namespace Go.Proofs.YtilmhemcpgiikaaGreatDoor
open Go.ChangeShapes Go.WideShapes Go.ChangeAt Go.RowKit
open Go.ChangeMaps (open_string shut_string)


/-- The power of 2, 5 or 10, else 0. -/
def powF (b k : Int) : Int := if (b = 2 ∨ b = 5 ∨ b = 10) ∧ 0 ≤ k ∧ k ≤ 17 then b ^ k.toNat else 0

theorem pow_bd (b : Int) (j : Nat) (h0 : 1 ≤ b) (hb : b ≤ 10) (hj : j ≤ 17) : 1 ≤ b ^ j ∧ b ^ j ≤ 100000000000000000 := by
  have h1 : (1 : Int) ≤ b ^ j := by
    induction j with
    | zero => simp
    | succ j ih => rw [Int.pow_succ]; have := ih (by omega); exact Int.le_trans this (by have := Int.mul_le_mul_of_nonneg_left h0 (show 0 ≤ b ^ j by omega); omega)
  refine ⟨h1, ?_⟩
  have h2 : b ^ j ≤ 10 ^ j := by
    clear h1 hj
    induction j with
    | zero => simp
    | succ j ih =>
      rw [Int.pow_succ, Int.pow_succ]
      have hp : (0 : Int) ≤ b ^ j := Int.pow_nonneg (by omega)
      exact Int.mul_le_mul ih hb (by omega) (Int.pow_nonneg (by decide))
  have h3 : (10 : Int) ^ j ≤ 10 ^ 17 := by
    have : (10 ^ j : Nat) ≤ 10 ^ 17 := Nat.pow_le_pow_right (by decide) hj
    exact_mod_cast this
  have h4 : (10 : Int) ^ 17 = 100000000000000000 := by decide
  omega

set_option maxHeartbeats 2000000 in
theorem pow_spec (b k : Int) (w : World) :
    Calls Tryz.prog 89 #[.int .i64 b, .int .i64 k] w fun e w' => e = .returned (.int .i64 (powF b k)) ∧ w = w' := by
  by_cases hb : b = 2 ∨ b = 5 ∨ b = 10
  · cases hk : inB k 0 17 with
    | false =>
      have hf : powF b k = 0 := by unfold powF; rw [if_neg (by have := inB_false.1 hk; omega)]
      rw [hf]; clear hf
      rcases hb with rfl | rfl | rfl
      all_goals
        go_enter Tryz.func89, Tryz.ntmps89
        go_wp2_with (go_at_call 44; refine (l1In_c _ _ _ _).mono ?_; rintro e w' ⟨rfl, rfl⟩)
        all_goals (go_ret; exact ⟨rfl, rfl⟩)
    | true =>
      obtain ⟨h1, h2⟩ := inB_true.1 hk
      obtain ⟨K, rfl⟩ : ∃ K : Nat, k = (K : Int) := ⟨k.toNat, by omega⟩
      have hf : powF b K = b ^ K := by unfold powF; rw [if_pos ⟨hb, h1, h2⟩]; rfl
      rw [hf]; clear hf
      rcases hb with rfl | rfl | rfl
      · go_enter Tryz.func89, Tryz.ntmps89
        go_wp2_with (go_at_call 44; refine (l1In_c _ _ _ _).mono ?_; rintro e w' ⟨rfl, rfl⟩)
        go_loop [5, 6] (fun n i => ∃ j : Nat, j ≤ K ∧ n = .int .i64 (2 ^ j) ∧ i = .int .i64 j) (fun _ i => K - (intOf i).toNat)
        case atStart => exact ⟨0, by omega, by simp, rfl⟩
        case round =>
          obtain ⟨j, hj, rfl, rfl⟩ := hrel
          obtain ⟨p1, p2⟩ := pow_bd 2 j (by omega) (by omega) (by omega)
          by_cases hlt : j < K
          · obtain ⟨p3, p4⟩ := pow_bd 2 (j + 1) (by omega) (by omega) (by omega)
            rw [Int.pow_succ] at p3 p4
            go_wp2
            go_round
            case rel => exact ⟨j + 1, by omega, by rw [Int.pow_succ], by go_num⟩
            case measure => simp [intOf]; omega
          · obtain rfl : j = K := by omega
            go_wp2
            go_ret
            exact ⟨rfl, rfl⟩
      · go_enter Tryz.func89, Tryz.ntmps89
        go_wp2_with (go_at_call 44; refine (l1In_c _ _ _ _).mono ?_; rintro e w' ⟨rfl, rfl⟩)
        go_loop [5, 6] (fun n i => ∃ j : Nat, j ≤ K ∧ n = .int .i64 (5 ^ j) ∧ i = .int .i64 j) (fun _ i => K - (intOf i).toNat)
        case atStart => exact ⟨0, by omega, by simp, rfl⟩
        case round =>
          obtain ⟨j, hj, rfl, rfl⟩ := hrel
          obtain ⟨p1, p2⟩ := pow_bd 5 j (by omega) (by omega) (by omega)
          by_cases hlt : j < K
          · obtain ⟨p3, p4⟩ := pow_bd 5 (j + 1) (by omega) (by omega) (by omega)
            rw [Int.pow_succ] at p3 p4
            go_wp2
            go_round
            case rel => exact ⟨j + 1, by omega, by rw [Int.pow_succ], by go_num⟩
            case measure => simp [intOf]; omega
          · obtain rfl : j = K := by omega
            go_wp2
            go_ret
            exact ⟨rfl, rfl⟩
      · go_enter Tryz.func89, Tryz.ntmps89
        go_wp2_with (go_at_call 44; refine (l1In_c _ _ _ _).mono ?_; rintro e w' ⟨rfl, rfl⟩)
        go_loop [5, 6] (fun n i => ∃ j : Nat, j ≤ K ∧ n = .int .i64 (10 ^ j) ∧ i = .int .i64 j) (fun _ i => K - (intOf i).toNat)
        case atStart => exact ⟨0, by omega, by simp, rfl⟩
        case round =>
          obtain ⟨j, hj, rfl, rfl⟩ := hrel
          obtain ⟨p1, p2⟩ := pow_bd 10 j (by omega) (by omega) (by omega)
          by_cases hlt : j < K
          · obtain ⟨p3, p4⟩ := pow_bd 10 (j + 1) (by omega) (by omega) (by omega)
            rw [Int.pow_succ] at p3 p4
            go_wp2
            go_round
            case rel => exact ⟨j + 1, by omega, by rw [Int.pow_succ], by go_num⟩
            case measure => simp [intOf]; omega
          · obtain rfl : j = K := by omega
            go_wp2
            go_ret
            exact ⟨rfl, rfl⟩
  · have hf : powF b k = 0 := by unfold powF; rw [if_neg (by intro h; exact hb h.1)]
    rw [hf]; clear hf
    have hb1 : (b != 2) = true := by simp; omega
    have hb2 : (b != 5) = true := by simp; omega
    have hb3 : (b != 10) = true := by simp; omega
    clear hb
    go_enter Tryz.func89, Tryz.ntmps89
    go_wp2_with (go_at_call 44; refine (l1In_c _ _ _ _).mono ?_; rintro e w' ⟨rfl, rfl⟩)
    all_goals (go_ret; exact ⟨rfl, rfl⟩)

end Go.Proofs.YtilmhemcpgiikaaGreatDoor
/- Plain laws on the order of decimal numbers. -/
namespace Go.Proofs.YtilmhemcpgiikaaGreatDoor

theorem pair_lt {x y u v : Int} (hy : -10000000000000000 < y ∧ y < 10000000000000000) (hv : -10000000000000000 < v ∧ v < 10000000000000000)
    (sx : (0 ≤ x ∧ 0 ≤ y) ∨ (x ≤ 0 ∧ y ≤ 0)) (su : (0 ≤ u ∧ 0 ≤ v) ∨ (u ≤ 0 ∧ v ≤ 0)) :
    (x < u ∨ x = u ∧ y < v) ↔ x * 10000000000000000 + y < u * 10000000000000000 + v := by omega

theorem p10_16 : (10 : Int) ^ 16 = 10000000000000000 := by decide
/-- The two powers of a valid exponent. -/
theorem pow_pair {x : Int} (h1 : -16 ≤ x) (h2 : x ≤ 0) : ∃ P Q : Int, (10 : Int) ^ (-x).toNat = P ∧ (10 : Int) ^ (16 + x).toNat = Q ∧ P * Q = 10000000000000000 ∧ 1 ≤ P ∧ 1 ≤ Q ∧ P ≤ 10000000000000000 ∧ Q ≤ 10000000000000000 := by
  refine ⟨_, _, rfl, rfl, ?_⟩
  have e : (10 : Int) ^ (-x).toNat * 10 ^ (16 + x).toNat = 10000000000000000 := by
    rw [← Int.pow_add, show (-x).toNat + (16 + x).toNat = 16 by omega, p10_16]
  have a : (1 : Int) ≤ 10 ^ (-x).toNat := (pow_bd 10 _ (by omega) (by omega) (by omega)).1
  have b : (1 : Int) ≤ 10 ^ (16 + x).toNat := (pow_bd 10 _ (by omega) (by omega) (by omega)).1
  refine ⟨e, a, b, ?_, ?_⟩
  · have := Int.mul_le_mul_of_nonneg_left b (show (0 : Int) ≤ 10 ^ (-x).toNat by omega); omega
  · have := Int.mul_le_mul_of_nonneg_right a (show (0 : Int) ≤ 10 ^ (16 + x).toNat by omega); omega
theorem powF_ten {k : Int} (h1 : 0 ≤ k) (h2 : k ≤ 17) : powF 10 k = 10 ^ k.toNat := by
  unfold powF; rw [if_pos ⟨.inr (.inr rfl), h1, h2⟩]

/-- A number in two halves: what they are worth. -/
theorem halves_eq {n P Q : Int} (hPQ : P * Q = 10000000000000000) : n.tdiv P * 10000000000000000 + n.tmod P * Q = n * Q := by
  have h := Int.mul_tdiv_add_tmod n P
  rw [← hPQ]
  conv => rhs; rw [← h]
  rw [Int.add_mul]
  congr 1
  rw [Int.mul_comm P (n.tdiv P), Int.mul_assoc]
theorem halves_bd {n P Q : Int} (hP : 1 ≤ P) (hQ : 1 ≤ Q) (hPQ : P * Q = 10000000000000000) :
    (-10000000000000000 < n.tmod P * Q ∧ n.tmod P * Q < 10000000000000000) ∧ ((0 ≤ n.tdiv P ∧ 0 ≤ n.tmod P * Q) ∨ (n.tdiv P ≤ 0 ∧ n.tmod P * Q ≤ 0)) ∧ (n.tdiv P).natAbs ≤ n.natAbs ∧ (n.tmod P).natAbs < P := by
  have hm : (n.tmod P).natAbs < P := by
    have := Int.natAbs_lt_natAbs_of_nonneg_of_lt (a := (n.tmod P).natAbs) (b := P) (by omega)
    have h2 : (n.tmod P).natAbs = n.natAbs % P.natAbs := by rw [Int.natAbs_tmod]
    have := Nat.mod_lt n.natAbs (show 0 < P.natAbs by omega)
    omega
  have hd : (n.tdiv P).natAbs ≤ n.natAbs := by rw [Int.natAbs_tdiv]; exact Nat.div_le_self _ _
  have b1 : n.tmod P * Q ≤ (P - 1) * Q := Int.mul_le_mul_of_nonneg_right (by omega) (by omega)
  have b2 : -(P - 1) * Q ≤ n.tmod P * Q := Int.mul_le_mul_of_nonneg_right (by omega) (by omega)
  rw [Int.neg_mul] at b2
  rw [Int.sub_mul, hPQ, Int.one_mul] at b1 b2
  refine ⟨⟨by omega, by omega⟩, ?_, hd, hm⟩
  by_cases hn : 0 ≤ n
  · exact .inl ⟨Int.tdiv_nonneg hn (by omega), Int.mul_nonneg (Int.tmod_nonneg _ hn) (by omega)⟩
  · refine .inr ⟨?_, ?_⟩
    · have := Int.tdiv_nonneg (a := -n) (b := P) (by omega) (by omega)
      rw [Int.neg_tdiv] at this; omega
    · have := Int.tmod_nonneg P (a := -n) (by omega)
      rw [Int.neg_tmod] at this
      have := Int.mul_nonneg (a := -(n.tmod P)) (b := Q) (by omega) (by omega)
      rw [Int.neg_mul] at this; omega
theorem decOk_range {n x : Int} (h : decOkB n x = true) : -16 ≤ x ∧ x ≤ 0 ∧ -100000000000000000 < n ∧ n < 100000000000000000 := by
  rcases decOkB_iff.1 h with ⟨rfl, a, b⟩ | ⟨a, b, c, d, _⟩ <;> omega
end Go.Proofs.YtilmhemcpgiikaaGreatDoor
