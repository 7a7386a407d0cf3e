/- Plain laws on the division of two words by one. -/
import Derived.Lib.ItoaNum
namespace Go.Proofs.YtcmdchhhdcdpnaaDoor

/-- One digit of the quotient: what its loop keeps. -/
theorem digit_cond {Q R y1 y0 u3 u1 : Nat} (h : Q * y1 + R = u3) :
    (4294967296 * R + u1 < Q * y0) ↔ u3 * 4294967296 + u1 < Q * (y1 * 4294967296 + y0) := by
  have e : Q * (y1 * 4294967296 + y0) = (Q * y1) * 4294967296 + Q * y0 := by rw [Nat.mul_add, ← Nat.mul_assoc]
  rw [e]
  generalize Q * y1 = A at *
  generalize Q * y0 = B at *
  omega
theorem digit_small {u3 u1 y : Nat} (h : u3 < y) (h1 : u1 < 4294967296) : (u3 * 4294967296 + u1) / y < 4294967296 := by
  rw [Nat.div_lt_iff_lt_mul (by omega)]
  have := Nat.mul_le_mul_right 4294967296 (show u3 + 1 ≤ y by omega)
  rw [Nat.mul_comm]; omega
theorem digit_down {Q R y1 y0 u3 u1 : Nat} (h : Q * y1 + R = u3) (hy : 0 < y1 * 4294967296 + y0) (hs : (u3 * 4294967296 + u1) / (y1 * 4294967296 + y0) < 4294967296)
    (hQ : (u3 * 4294967296 + u1) / (y1 * 4294967296 + y0) ≤ Q) (hc : 4294967296 ≤ Q ∨ 4294967296 * R + u1 < Q * y0) :
    1 ≤ Q ∧ (u3 * 4294967296 + u1) / (y1 * 4294967296 + y0) ≤ Q - 1 ∧ (Q - 1) * y1 + (R + y1) = u3 := by
  have hlt : (u3 * 4294967296 + u1) / (y1 * 4294967296 + y0) < Q := by
    rcases hc with hc | hc
    · omega
    · rw [Nat.div_lt_iff_lt_mul hy]; exact (digit_cond h).1 hc
  clear hs hQ hc hy
  generalize (u3 * 4294967296 + u1) / (y1 * 4294967296 + y0) = q at *
  obtain ⟨k, rfl⟩ : ∃ k, Q = k + 1 := ⟨Q - 1, by omega⟩
  refine ⟨by omega, by omega, ?_⟩
  rw [Nat.add_mul, Nat.one_mul] at h
  rw [Nat.add_sub_cancel]; omega
theorem digit_done {Q R y1 y0 u3 u1 : Nat} (h : Q * y1 + R = u3) (hy : 0 < y1 * 4294967296 + y0)
    (hQ : (u3 * 4294967296 + u1) / (y1 * 4294967296 + y0) ≤ Q) (hc : ¬ 4294967296 * R + u1 < Q * y0) : Q = (u3 * 4294967296 + u1) / (y1 * 4294967296 + y0) := by
  have h2 : Q ≤ (u3 * 4294967296 + u1) / (y1 * 4294967296 + y0) := by
    rw [Nat.le_div_iff_mul_le hy]
    have := mt (digit_cond (u1 := u1) (y0 := y0) h).2 hc
    omega
  omega
theorem digit_break {Q R y1 y0 u3 u1 : Nat} (h : Q * y1 + R = u3) (hy : 0 < y1 * 4294967296 + y0) (hy0 : y0 < 4294967296)
    (hQ : (u3 * 4294967296 + u1) / (y1 * 4294967296 + y0) ≤ Q) (hQ2 : Q ≤ 4294967296) (hR : 4294967296 ≤ R) : Q = (u3 * 4294967296 + u1) / (y1 * 4294967296 + y0) := by
  refine digit_done h hy hQ ?_
  have a := Nat.mul_le_mul hQ2 (show y0 ≤ 4294967295 by omega)
  omega
/-- Where the loop begins. -/
theorem digit_start {y1 y0 u3 u1 : Nat} (hn : 2147483648 ≤ y1) (hy0 : y0 < 4294967296) (hu : u3 < y1 * 4294967296 + y0) (h1 : u1 < 4294967296) :
    u3 / y1 * y1 + u3 % y1 = u3 ∧ (u3 * 4294967296 + u1) / (y1 * 4294967296 + y0) ≤ u3 / y1 ∧ u3 / y1 ≤ 4294967297 ∧ u3 % y1 < y1 := by
  have e := Nat.div_add_mod u3 y1
  have em := Nat.mod_lt u3 (show 0 < y1 by omega)
  refine ⟨by rw [Nat.mul_comm]; exact e, ?_, ?_, em⟩
  · have h2 : (u3 * 4294967296 + u1) / (y1 * 4294967296 + y0) < u3 / y1 + 1 := by
      rw [Nat.div_lt_iff_lt_mul (by omega), Nat.add_mul, Nat.one_mul, Nat.mul_add, ← Nat.mul_assoc, Nat.mul_comm (u3 / y1) y1]
      generalize y1 * (u3 / y1) = A at *
      generalize u3 / y1 * y0 = B at *
      generalize u3 % y1 = r at *
      omega
    omega
  · have h3 : u3 / y1 < 4294967298 := by
      rw [Nat.div_lt_iff_lt_mul (by omega)]; omega
    omega
/-- The whole division, out of its two digits. -/
theorem whole_div {N y q1 q0 U u0 : Nat} (hy : 0 < y) (hN : N = U * 4294967296 + u0) (h1 : q1 = U / y)
    (h0 : q0 = (U % y * 4294967296 + u0) / y) :
    N / y = q1 * 4294967296 + q0 ∧ N % y = (U % y * 4294967296 + u0) % y := by
  have e := Nat.div_add_mod U y
  have em := Nat.mod_lt U hy
  rw [← h1] at e
  generalize U % y = r at *
  have e2 := Nat.div_add_mod (r * 4294967296 + u0) y
  have em2 := Nat.mod_lt (r * 4294967296 + u0) hy
  rw [← h0] at e2
  generalize (r * 4294967296 + u0) % y = t at *
  have e3 : N = y * (q1 * 4294967296 + q0) + t := by
    rw [hN, ← e, Nat.mul_add, ← Nat.mul_assoc]
    generalize y * q1 = A at *
    generalize y * q0 = B at *
    omega
  constructor
  · rw [e3, Nat.mul_add_div hy, Nat.div_eq_of_lt em2, Nat.add_zero]
  · rw [e3, Nat.mul_add_mod, Nat.mod_eq_of_lt em2]
/-- Shifted alike, a division stays. -/
theorem shift_div {N y s : Nat} (_hy : 0 < y) : N * 2 ^ s / (y * 2 ^ s) = N / y ∧ N * 2 ^ s % (y * 2 ^ s) / 2 ^ s = N % y := by
  have hp : 0 < 2 ^ s := Nat.pow_pos (by decide)
  refine ⟨Nat.mul_div_mul_right _ _ hp, ?_⟩
  rw [Nat.mul_mod_mul_right, Nat.mul_div_cancel _ hp]
/-- The shifted dividend, in words. -/
theorem shift_words {hi lo s : Nat} (hs : s ≤ 64) : (hi * 18446744073709551616 + lo) * 2 ^ s = (hi * 2 ^ s + lo / 2 ^ (64 - s)) * 18446744073709551616 + lo * 2 ^ s % 18446744073709551616 := by
  have e64 : (2 : Nat) ^ (64 - s) * 2 ^ s = 18446744073709551616 := by
    rw [← Nat.pow_add, show 64 - s + s = 64 by omega]
  have e1 : lo * 2 ^ s / 18446744073709551616 = lo / 2 ^ (64 - s) := by
    rw [← e64]; exact Nat.mul_div_mul_right _ _ (Nat.pow_pos (by decide))
  have e2 := Nat.div_add_mod (lo * 2 ^ s) 18446744073709551616
  rw [e1] at e2
  rw [Nat.add_mul, Nat.add_mul, Nat.mul_right_comm hi]
  generalize hi * 2 ^ s = A at *
  generalize lo * 2 ^ s = B at *
  generalize lo / 2 ^ (64 - s) = C at *
  omega
end Go.Proofs.YtcmdchhhdcdpnaaDoor
