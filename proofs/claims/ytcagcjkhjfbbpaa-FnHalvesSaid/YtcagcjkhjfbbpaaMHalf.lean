/- Plain laws of rounding and of bits. -/
import Derived.Test.YtcagcjkhjfbbpaaCHalf
import Derived.Test.YtcagcjkhjfbbpaaCBitsOf
namespace Go.Proofs.Ytcagcjkhjfbbpaa
open Go.ChangeShapes Go.WideShapes Go.ChangeAt Go.RowKit

theorem halfF_law (n d : Int) (hn : 0 ≤ n ∧ n ≤ 1000000000000000) (hd : 1 ≤ d ∧ d ≤ 1000000000000000) :
    0 ≤ halfF n d ∧ halfF n d * d ≤ 2 * n ∧ n < halfF n d * d + d ∧ 2 * (n - halfF n d * d) ≤ d ∧ -(2 * (n - halfF n d * d)) ≤ d ∧ ((2 * (n - halfF n d * d) = d ∨ -(2 * (n - halfF n d * d)) = d) → halfF n d % 2 = 0) := by
  have e := Int.emod_add_mul_ediv n d
  have r0 := Int.emod_nonneg n (show d ≠ 0 by omega)
  have r1 := Int.emod_lt_of_pos n (show 0 < d by omega)
  have q0 : 0 ≤ n / d := Int.ediv_nonneg hn.1 (by omega)
  unfold halfF
  rw [if_pos ⟨hn.1, hn.2, hd.1, hd.2⟩]
  generalize hr : n % d = r at *
  generalize hq : n / d = q at *
  have e1 : d * q = q * d := Int.mul_comm _ _
  rw [e1] at e
  have e2 : (q + 1) * d = q * d + d := by rw [Int.add_mul, Int.one_mul]
  have hqd : 0 ≤ q * d := Int.mul_nonneg q0 (by omega)
  split
  · rename_i hc
    rw [e2]
    generalize q * d = m at *
    have : n ≠ 0 ∨ True := .inr trivial
    refine ⟨by omega, by omega, by omega, by omega, by omega, ?_⟩
    rintro (h | h) <;> omega
  · rename_i hc
    generalize q * d = m at *
    refine ⟨q0, by omega, by omega, by omega, by omega, ?_⟩
    rintro (h | h) <;> omega
theorem bitLen_law : ∀ (k N : Nat), N < 2 ^ k → k ≤ 64 → 1 ≤ N → N < 2 ^ Lib.bitLen N ∧ 2 ^ (Lib.bitLen N - 1) ≤ N ∧ 1 ≤ Lib.bitLen N ∧ Lib.bitLen N ≤ k
  | 0, N, h, _, h1 => by simp at h; omega
  | k + 1, N, h, hk, h1 => by
    have hp : 2 ^ (k + 1) ≤ 2 ^ 64 := Nat.pow_le_pow_right (by decide) hk
    have e := Lib.bitLen_half N (by omega) (by omega)
    by_cases h2 : N / 2 = 0
    · have : N = 1 := by omega
      subst this
      have : Lib.bitLen 1 = 1 := by decide
      rw [this]; refine ⟨by decide, by decide, by decide, by omega⟩
    · rw [Nat.pow_succ] at h
      have ih := bitLen_law k (N / 2) (by omega) (by omega) (by omega)
      generalize Lib.bitLen (N / 2) = b at *
      obtain ⟨i1, i2, i3, i4⟩ := ih
      rw [e]
      refine ⟨?_, ?_, by omega, by omega⟩
      · rw [Nat.add_comm, Nat.pow_succ]; omega
      · have : 1 + b - 1 = (b - 1) + 1 := by omega
        rw [this, Nat.pow_succ]; omega
theorem bitsF_law (n : Int) (h : 1 ≤ n ∧ n ≤ 1000000000000000) : ∃ k : Nat, 1 ≤ k ∧ k ≤ 50 ∧ bitsF n = k ∧ n < 2 ^ k ∧ (2 : Int) ^ (k - 1) ≤ n := by
  obtain ⟨N, rfl⟩ := Int.eq_ofNat_of_zero_le (show 0 ≤ n by omega)
  have hb : bitsF (N : Int) = (Lib.bitLen N : Int) := by unfold bitsF; rw [if_pos ⟨by omega, h.2⟩]; rfl
  have := bitLen_law 50 N (by omega) (by omega) (by omega)
  refine ⟨Lib.bitLen N, this.2.2.1, this.2.2.2, hb, ?_, ?_⟩
  · exact_mod_cast this.1
  · exact_mod_cast this.2.1
end Go.Proofs.Ytcagcjkhjfbbpaa
