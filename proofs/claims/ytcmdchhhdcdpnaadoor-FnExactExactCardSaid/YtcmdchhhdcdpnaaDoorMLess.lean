/- Plain laws on the order of decimal numbers. -/
import Derived.Test.YtcmdchhhdcdpnaaDoorCPow
import Derived.Test.YtcmdchhhdcdpnaaDoorMDec
namespace Go.Proofs.YtcmdchhhdcdpnaaDoor

theorem pair_lt {x y u v : Int} (hy : -10000000000000000 < y ∧ y < 10000000000000000) (hv : -10000000000000000 < v ∧ v < 10000000000000000)
    (sx : (0 ≤ x ∧ 0 ≤ y) ∨ (x ≤ 0 ∧ y ≤ 0)) (su : (0 ≤ u ∧ 0 ≤ v) ∨ (u ≤ 0 ∧ v ≤ 0)) :
    (x < u ∨ x = u ∧ y < v) ↔ x * 10000000000000000 + y < u * 10000000000000000 + v := by omega

theorem p10_16 : (10 : Int) ^ 16 = 10000000000000000 := by decide
/-- The two powers of a valid exponent. -/
theorem pow_pair {x : Int} (h1 : -16 ≤ x) (h2 : x ≤ 0) : ∃ P Q : Int, (10 : Int) ^ (-x).toNat = P ∧ (10 : Int) ^ (16 + x).toNat = Q ∧ P * Q = 10000000000000000 ∧ 1 ≤ P ∧ 1 ≤ Q ∧ P ≤ 10000000000000000 ∧ Q ≤ 10000000000000000 := by
  refine ⟨_, _, rfl, rfl, ?_⟩
  have e : (10 : Int) ^ (-x).toNat * 10 ^ (16 + x).toNat = 10000000000000000 := by
    rw [← Int.pow_add, show (-x).toNat + (16 + x).toNat = 16 by omega, p10_16]
  have a : (1 : Int) ≤ 10 ^ (-x).toNat := (pow_bd 10 _ (by omega) (by omega) (by omega)).1
  have b : (1 : Int) ≤ 10 ^ (16 + x).toNat := (pow_bd 10 _ (by omega) (by omega) (by omega)).1
  refine ⟨e, a, b, ?_, ?_⟩
  · have := Int.mul_le_mul_of_nonneg_left b (show (0 : Int) ≤ 10 ^ (-x).toNat by omega); omega
  · have := Int.mul_le_mul_of_nonneg_right a (show (0 : Int) ≤ 10 ^ (16 + x).toNat by omega); omega
theorem powF_ten {k : Int} (h1 : 0 ≤ k) (h2 : k ≤ 17) : powF 10 k = 10 ^ k.toNat := by
  unfold powF; rw [if_pos ⟨.inr (.inr rfl), h1, h2⟩]

/-- A number in two halves: what they are worth. -/
theorem halves_eq {n P Q : Int} (hPQ : P * Q = 10000000000000000) : n.tdiv P * 10000000000000000 + n.tmod P * Q = n * Q := by
  have h := Int.mul_tdiv_add_tmod n P
  rw [← hPQ]
  conv => rhs; rw [← h]
  rw [Int.add_mul]
  congr 1
  rw [Int.mul_comm P (n.tdiv P), Int.mul_assoc]
theorem halves_bd {n P Q : Int} (hP : 1 ≤ P) (hQ : 1 ≤ Q) (hPQ : P * Q = 10000000000000000) :
    (-10000000000000000 < n.tmod P * Q ∧ n.tmod P * Q < 10000000000000000) ∧ ((0 ≤ n.tdiv P ∧ 0 ≤ n.tmod P * Q) ∨ (n.tdiv P ≤ 0 ∧ n.tmod P * Q ≤ 0)) ∧ (n.tdiv P).natAbs ≤ n.natAbs ∧ (n.tmod P).natAbs < P := by
  have hm : (n.tmod P).natAbs < P := by
    have := Int.natAbs_lt_natAbs_of_nonneg_of_lt (a := (n.tmod P).natAbs) (b := P) (by omega)
    have h2 : (n.tmod P).natAbs = n.natAbs % P.natAbs := by rw [Int.natAbs_tmod]
    have := Nat.mod_lt n.natAbs (show 0 < P.natAbs by omega)
    omega
  have hd : (n.tdiv P).natAbs ≤ n.natAbs := by rw [Int.natAbs_tdiv]; exact Nat.div_le_self _ _
  have b1 : n.tmod P * Q ≤ (P - 1) * Q := Int.mul_le_mul_of_nonneg_right (by omega) (by omega)
  have b2 : -(P - 1) * Q ≤ n.tmod P * Q := Int.mul_le_mul_of_nonneg_right (by omega) (by omega)
  rw [Int.neg_mul] at b2
  rw [Int.sub_mul, hPQ, Int.one_mul] at b1 b2
  refine ⟨⟨by omega, by omega⟩, ?_, hd, hm⟩
  by_cases hn : 0 ≤ n
  · exact .inl ⟨Int.tdiv_nonneg hn (by omega), Int.mul_nonneg (Int.tmod_nonneg _ hn) (by omega)⟩
  · refine .inr ⟨?_, ?_⟩
    · have := Int.tdiv_nonneg (a := -n) (b := P) (by omega) (by omega)
      rw [Int.neg_tdiv] at this; omega
    · have := Int.tmod_nonneg P (a := -n) (by omega)
      rw [Int.neg_tmod] at this
      have := Int.mul_nonneg (a := -(n.tmod P)) (b := Q) (by omega) (by omega)
      rw [Int.neg_mul] at this; omega
theorem decOk_range {n x : Int} (h : decOkB n x = true) : -16 ≤ x ∧ x ≤ 0 ∧ -100000000000000000 < n ∧ n < 100000000000000000 := by
  rcases decOkB_iff.1 h with ⟨rfl, a, b⟩ | ⟨a, b, c, d, _⟩ <;> omega
end Go.Proofs.YtcmdchhhdcdpnaaDoor
