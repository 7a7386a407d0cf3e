/- bits.Div64: the quotient and the rest. -/
import Derived.Test.YtcmdchhhdcdpnaaDoorCNum
import Derived.Test.YtcmdchhhdcdpnaaDoorCTwo
import Derived.Test.YtcmdchhhdcdpnaaDoorMDiv
import Derived.Shelf.Bits.Mul64
import Derived.Laws.BitsAllLaws
namespace Go.Proofs.YtcmdchhhdcdpnaaDoor
open Go.Deep Go.ChangeShapes Go.WideShapes Go.ChangeAt Go.RowKit
open Go.ChangeMaps (open_string shut_string)

theorem u64w (a : Nat) (h : a < 18446744073709551616) : IntKind.u64.wrap (a : Int) = (a : Int) := Mul64.wrapN a h
/-- The number of leading zeros, as a shift. -/
theorem lead_shift {y : Nat} (h0 : 0 < y) (h : y < 18446744073709551616) : ∃ S : Nat, (64 - (Lib.bitLen (y : Int).toNat : Int)) = (S : Int) ∧ S ≤ 63 ∧ 9223372036854775808 ≤ y * 2 ^ S ∧ y * 2 ^ S < 18446744073709551616 := by
  obtain ⟨a, b, c⟩ := Lib.bitLenAux_bounds 64 y h (by omega)
  have hL : Lib.bitLenAux 64 y ≤ 64 := Lib.bitLen_le y 64 (Nat.le_refl _) h
  rw [Int.toNat_natCast]
  have e : Lib.bitLen y = Lib.bitLenAux 64 y := rfl
  rw [e]
  generalize Lib.bitLenAux 64 y = L at *
  refine ⟨64 - L, by omega, by omega, ?_, ?_⟩
  · have h1 := Nat.mul_le_mul_right (2 ^ (64 - L)) b
    rw [← Nat.pow_add, show L - 1 + (64 - L) = 63 by omega] at h1
    exact h1
  · have h1 := Nat.mul_lt_mul_of_pos_right c (show 0 < 2 ^ (64 - L) from Nat.pow_pos (by decide))
    rw [← Nat.pow_add, show L + (64 - L) = 64 by omega] at h1
    exact h1

theorem wrap_mod (x : Int) : IntKind.u64.wrap x = x % 18446744073709551616 := by rw [IntKind.wrap_u64]
/-- What stands between the two digits. -/
theorem second_facts {y1 y0 u3 u1 u0 Y : Nat} {Y1 Y0 U1 U0 U3 YY q1 : Int}
    (E : Y1 = (y1 : Int) ∧ Y0 = (y0 : Int) ∧ U1 = (u1 : Int) ∧ U0 = (u0 : Int) ∧ U3 = (u3 : Int) ∧ YY = (Y : Int)) (hY : Y = y1 * 4294967296 + y0) (m1 : 2147483648 ≤ Y1) (m2 : Y1 < 4294967296) (m3 : Y0 < 4294967296)
    (hn1 : U1 < 4294967296) (hn0 : U0 < 4294967296) (hq : q1 = (((u3 * 4294967296 + u1) / (y1 * 4294967296 + y0) : Nat) : Int)) :
    ∃ A1 A2 A3 T Q0 P R0 : Int, IntKind.u64.wrap (U3 * 4294967296) = A1 ∧ IntKind.u64.wrap (A1 + U1) = A2 ∧ IntKind.u64.wrap (q1 * YY) = A3 ∧ IntKind.u64.wrap (A2 - A3) = T ∧ T / Y1 = Q0 ∧ IntKind.u64.wrap Q0 = Q0 ∧
      IntKind.u64.wrap (Q0 * Y1) = P ∧ IntKind.u64.wrap (T - P) = R0 ∧ 0 ≤ T ∧ T < 18446744073709551616 ∧ 0 ≤ Q0 ∧ Q0 ≤ 4294967297 ∧ 0 ≤ R0 ∧ R0 < 4294967296 ∧
      T = (((u3 * 4294967296 + u1) % (y1 * 4294967296 + y0) : Nat) : Int) ∧
      ∃ Q R : Nat, Q0 = (Q : Int) ∧ R0 = (R : Int) ∧ Q * y1 + R = (u3 * 4294967296 + u1) % (y1 * 4294967296 + y0) ∧ ((u3 * 4294967296 + u1) % (y1 * 4294967296 + y0) * 4294967296 + u0) / (y1 * 4294967296 + y0) ≤ Q := by
  obtain ⟨rfl, rfl, rfl, rfl, rfl, rfl⟩ := E
  have hD : 0 < y1 * 4294967296 + y0 := by omega
  have e := Nat.div_add_mod (u3 * 4294967296 + u1) (y1 * 4294967296 + y0)
  have et := Nat.mod_lt (u3 * 4294967296 + u1) hD
  obtain ⟨s1, s2, s3, s4⟩ := digit_start (u3 := (u3 * 4294967296 + u1) % (y1 * 4294967296 + y0)) (u1 := u0) (by omega) (by omega) et (by omega)
  obtain ⟨t, ht⟩ : ∃ t, t = (u3 * 4294967296 + u1) % (y1 * 4294967296 + y0) := ⟨_, rfl⟩
  obtain ⟨d, hd⟩ : ∃ d, d = (u3 * 4294967296 + u1) / (y1 * 4294967296 + y0) := ⟨_, rfl⟩
  rw [← hd] at e hq
  rw [← ht] at e et s1 s2 s3 s4 ⊢
  rw [← hY] at e et hD
  obtain ⟨X, hX⟩ : ∃ X, X = Y * d := ⟨_, rfl⟩
  rw [← hX] at e
  have hqY : q1 * (Y : Int) = (X : Int) := by rw [hq, hX, Int.natCast_mul, Int.mul_comm]
  have hYb : Y < 18446744073709551616 := by omega
  obtain ⟨A, hA⟩ : ∃ A, A = t / y1 := ⟨_, rfl⟩
  obtain ⟨R, hR⟩ : ∃ R, R = t % y1 := ⟨_, rfl⟩
  rw [← hA, ← hR] at s1
  rw [← hA] at s2 s3
  rw [← hR] at s4
  have hAy : ((A : Int) * (y1 : Int)) = ((A * y1 : Nat) : Int) := (Int.natCast_mul _ _).symm
  obtain ⟨P, hP⟩ : ∃ P, P = A * y1 := ⟨_, rfl⟩
  rw [← hP] at s1 hAy
  refine ⟨_, _, _, (t : Int), (A : Int), (P : Int), (R : Int), rfl, rfl, rfl, ?_, ?_, ?_, ?_, ?_, by omega, by omega, by omega, by omega, by omega, by omega, rfl, A, R, rfl, rfl, by rw [← hP]; exact s1, s2⟩
  · rw [hqY, wrap_mod, wrap_mod, wrap_mod, wrap_mod]; clear s2; omega
  · rw [hA, Int.natCast_ediv]
  · exact u64w _ (by omega)
  · rw [hAy]; exact u64w _ (by omega)
  · rw [show (t : Int) - (P : Int) = (R : Int) by omega]; exact u64w _ (by omega)
/-- What stands behind the two digits. -/
theorem last_facts {y1 y0 u3 u1 u0 Y S : Nat} {Y1 Y0 U1 U0 U3 YY q1 q0 T : Int}
    (E : Y1 = (y1 : Int) ∧ Y0 = (y0 : Int) ∧ U1 = (u1 : Int) ∧ U0 = (u0 : Int) ∧ U3 = (u3 : Int) ∧ YY = (Y : Int)) (hY : Y = y1 * 4294967296 + y0) (m1 : 2147483648 ≤ Y1) (m2 : Y1 < 4294967296) (m3 : Y0 < 4294967296)
    (hn1 : U1 < 4294967296) (hn0 : U0 < 4294967296) (hu3 : u3 < y1 * 4294967296 + y0) (hq : q1 = (((u3 * 4294967296 + u1) / (y1 * 4294967296 + y0) : Nat) : Int))
    (hT : T = (((u3 * 4294967296 + u1) % (y1 * 4294967296 + y0) : Nat) : Int))
    (hq0 : q0 = ((((u3 * 4294967296 + u1) % (y1 * 4294967296 + y0) * 4294967296 + u0) / (y1 * 4294967296 + y0) : Nat) : Int)) :
    ∃ B1 B2 B3 B4 B5 B6 : Int, IntKind.u64.wrap (q1 * 4294967296) = B1 ∧ IntKind.u64.wrap (B1 + q0) = B2 ∧ IntKind.u64.wrap (T * 4294967296) = B3 ∧ IntKind.u64.wrap (B3 + U0) = B4 ∧ IntKind.u64.wrap (q0 * YY) = B5 ∧ IntKind.u64.wrap (B4 - B5) = B6 ∧
      B2 = ((((u3 * 4294967296 + u1) * 4294967296 + u0) / (y1 * 4294967296 + y0) : Nat) : Int) ∧ B6 / 2 ^ S = ((((u3 * 4294967296 + u1) * 4294967296 + u0) % (y1 * 4294967296 + y0) / 2 ^ S : Nat) : Int) := by
  obtain ⟨rfl, rfl, rfl, rfl, rfl, rfl⟩ := E
  have hD : 0 < y1 * 4294967296 + y0 := by omega
  obtain ⟨w1, w2⟩ := whole_div (N := (u3 * 4294967296 + u1) * 4294967296 + u0) (U := u3 * 4294967296 + u1) (u0 := u0) hD rfl rfl rfl
  have et := Nat.mod_lt (u3 * 4294967296 + u1) hD
  have hs1 := digit_small hu3 (u1 := u1) (by omega)
  have hs2 := digit_small et (u1 := u0) (by omega)
  rw [w1, w2]
  obtain ⟨t, ht⟩ : ∃ t, t = (u3 * 4294967296 + u1) % (y1 * 4294967296 + y0) := ⟨_, rfl⟩
  rw [← ht] at et hs2 hT hq0 ⊢
  obtain ⟨d, hd⟩ : ∃ d, d = (u3 * 4294967296 + u1) / (y1 * 4294967296 + y0) := ⟨_, rfl⟩
  rw [← hd] at hq hs1 ⊢
  have e2 := Nat.div_add_mod (t * 4294967296 + u0) (y1 * 4294967296 + y0)
  have et2 := Nat.mod_lt (t * 4294967296 + u0) hD
  obtain ⟨f, hf⟩ : ∃ f, f = (t * 4294967296 + u0) / (y1 * 4294967296 + y0) := ⟨_, rfl⟩
  obtain ⟨g, hg⟩ : ∃ g, g = (t * 4294967296 + u0) % (y1 * 4294967296 + y0) := ⟨_, rfl⟩
  rw [← hf] at e2 hs2 hq0 ⊢
  rw [← hg] at e2 et2 ⊢
  rw [← hY] at e2 et2 et
  have hYb : Y < 18446744073709551616 := by omega
  obtain ⟨X, hX⟩ : ∃ X, X = Y * f := ⟨_, rfl⟩
  rw [← hX] at e2
  have hqY : q0 * (Y : Int) = (X : Int) := by rw [hq0, hX, Int.natCast_mul, Int.mul_comm]
  have h6 : (((T * 4294967296) % 18446744073709551616 + (u0 : Int)) % 18446744073709551616 - (X : Int) % 18446744073709551616) % 18446744073709551616 = (g : Int) := by omega
  refine ⟨_, _, _, _, _, _, rfl, rfl, rfl, rfl, rfl, rfl, ?_, ?_⟩
  · rw [wrap_mod, wrap_mod]; omega
  · rw [hqY, wrap_mod, wrap_mod, wrap_mod, wrap_mod, h6, Int.natCast_ediv, Int.natCast_pow]; rfl

theorem down_facts {y1 y0 u3 u1 : Nat} {Y1 Y0 U1 q r : Int} (e1 : Y1 = (y1 : Int)) (e0 : Y0 = (y0 : Int)) (i1 : U1 = (u1 : Int)) (hy0 : y0 < 4294967296) (hD : 0 < y1 * 4294967296 + y0)
    (hs : (u3 * 4294967296 + u1) / (y1 * 4294967296 + y0) < 4294967296) (hle : q ≤ 4294967297)
    (hH : ∃ Q R : Nat, q = (Q : Int) ∧ r = (R : Int) ∧ Q * y1 + R = u3 ∧ (u3 * 4294967296 + u1) / (y1 * 4294967296 + y0) ≤ Q) (hc : 4294967296 ≤ q ∨ 4294967296 * r + U1 < q * Y0) :
    1 ≤ q ∧ (∃ Q R : Nat, q - 1 = (Q : Int) ∧ r + Y1 = (R : Int) ∧ Q * y1 + R = u3 ∧ (u3 * 4294967296 + u1) / (y1 * 4294967296 + y0) ≤ Q) ∧ (4294967296 ≤ r + Y1 → q - 1 = (((u3 * 4294967296 + u1) / (y1 * 4294967296 + y0) : Nat) : Int)) := by
  obtain ⟨Q, R, rfl, rfl, hinv, hge⟩ := hH
  subst e1 e0 i1
  have hc' : 4294967296 ≤ Q ∨ 4294967296 * R + u1 < Q * y0 := by
    rw [← Int.natCast_mul] at hc
    rcases hc with hc | hc
    · exact .inl (by omega)
    · exact .inr (by omega)
  obtain ⟨d1, d2, d3⟩ := digit_down hinv hD hs hge hc'
  refine ⟨by omega, ⟨Q - 1, R + y1, by omega, by omega, d3, d2⟩, fun hb => ?_⟩
  have := digit_break d3 hD hy0 d2 (by omega) (by omega)
  rw [← this]; omega
theorem exit_facts {y1 y0 u3 u1 : Nat} {Y0 U1 q r : Int} (e0 : Y0 = (y0 : Int)) (i1 : U1 = (u1 : Int)) (hD : 0 < y1 * 4294967296 + y0)
    (hH : ∃ Q R : Nat, q = (Q : Int) ∧ r = (R : Int) ∧ Q * y1 + R = u3 ∧ (u3 * 4294967296 + u1) / (y1 * 4294967296 + y0) ≤ Q) (hc : ¬ (4294967296 ≤ q ∨ 4294967296 * r + U1 < q * Y0)) :
    q = (((u3 * 4294967296 + u1) / (y1 * 4294967296 + y0) : Nat) : Int) := by
  obtain ⟨Q, R, rfl, rfl, hinv, hge⟩ := hH
  subst e0 i1
  have hc' : ¬ 4294967296 * R + u1 < Q * y0 := by
    rw [← Int.natCast_mul] at hc
    intro h; exact hc (.inr (by omega))
  rw [← digit_done hinv hD hge hc']
theorem mul_bd {q Y : Int} (h1 : 0 ≤ q) (h2 : q < 4294967296) (h3 : 0 ≤ Y) (h4 : Y < 4294967296) : IntKind.u64.wrap (q * Y) = q * Y := by
  have a := Int.mul_nonneg h1 h3
  have b := Int.mul_le_mul (show q ≤ 4294967295 by omega) (show Y ≤ 4294967295 by omega) h3 (by omega)
  exact IntWalk.u64_in _ (by omega)

set_option maxRecDepth 100000 in
set_option maxHeartbeats 4000000 in
theorem div64_big (hi lo y : Nat) (w : World) (h0 : 0 < hi) (h : hi < y) (hy : y < 18446744073709551616) (hlo : lo < 18446744073709551616) :
    Calls Tryd.prog 27 #[.int .u64 hi, .int .u64 lo, .int .u64 y] w fun e w' => e = .returned (.tuple #[.int .u64 (((hi * 18446744073709551616 + lo) / y : Nat) : Int), .int .u64 (((hi * 18446744073709551616 + lo) % y : Nat) : Int)]) ∧ Below w.heap.size w w' := by
  obtain ⟨S, hS, hS63, hY1, hY2⟩ := lead_shift (by omega) hy
  have hlz := fun w => Tryd.bits_LeadingZeros64 (y : Int) w (by omega) (by omega)
  rw [hS] at hlz
  have HLZ := Lib.hid hlz
  have hwords := shift_words (hi := hi) (lo := lo) (s := S) (by omega)
  obtain ⟨hsd1, hsd2⟩ := shift_div (N := hi * 18446744073709551616 + lo) (y := y) (s := S) (by omega)
  rw [← hsd1, ← hsd2, hwords]
  have hH : hi * 2 ^ S < y * 2 ^ S := Nat.mul_lt_mul_of_pos_right h (Nat.pow_pos (by decide))
  have hHle : (hi + 1) * 2 ^ S ≤ y * 2 ^ S := Nat.mul_le_mul_right _ h
  have hL1 : lo / 2 ^ (64 - S) < 2 ^ S := by
    rw [Nat.div_lt_iff_lt_mul (Nat.pow_pos (by decide)), ← Nat.pow_add, show S + (64 - S) = 64 by omega]
    exact hlo
  rw [Nat.add_mul, Nat.one_mul] at hHle
  have hor : bits .or .u64 ((hi * 2 ^ S : Nat) : Int) ((lo / 2 ^ (64 - S) : Nat) : Int) = ((hi * 2 ^ S + lo / 2 ^ (64 - S) : Nat) : Int) := by
    rw [u64_or_nat _ _ (by omega) (by omega), Nat.mul_comm hi, Nat.two_pow_add_eq_or_of_lt hL1]
  have hu3 : hi * 2 ^ S + lo / 2 ^ (64 - S) < y * 2 ^ S := by omega
  obtain ⟨u10, hu10⟩ : ∃ u10, u10 = lo * 2 ^ S % 18446744073709551616 := ⟨_, rfl⟩
  have hu10b : u10 < 18446744073709551616 := by rw [hu10]; exact Nat.mod_lt _ (by decide)
  obtain ⟨Y, hYe⟩ : ∃ Y, Y = y * 2 ^ S := ⟨_, rfl⟩
  rw [← hYe] at hY1 hY2 hu3 ⊢
  rw [← hu10]
  have f1 : IntKind.u64.wrap ((y : Int) * 2 ^ S) = (Y : Int) := by
    have := u64w Y hY2
    rw [hYe, Int.natCast_mul, Int.natCast_pow] at this
    rw [hYe, Int.natCast_mul, Int.natCast_pow]; exact this
  have f2 : IntKind.u64.wrap ((hi : Int) * 2 ^ S) = ((hi * 2 ^ S : Nat) : Int) := by
    have := u64w (hi * 2 ^ S) (by omega)
    rw [Int.natCast_mul, Int.natCast_pow] at this ⊢; exact this
  have f3 : (lo : Int) / 2 ^ (64 - S) = ((lo / 2 ^ (64 - S) : Nat) : Int) := by rw [Int.natCast_ediv, Int.natCast_pow]; rfl
  have f4 : IntKind.u64.wrap ((lo : Int) * 2 ^ S) = (u10 : Int) := by
    have := Mul64.wrapM (lo * 2 ^ S)
    rw [Int.natCast_mul, Int.natCast_pow] at this
    rw [hu10]; exact this
  have f5 : ((64 : Int) - (S : Int)).toNat = 64 - S := by omega
  have f6 : IntKind.u64.wrap ((64 : Int) - (S : Int)) = 64 - (S : Int) := IntWalk.u64_in _ (by omega)
  generalize hi * 2 ^ S = H at *
  generalize lo / 2 ^ (64 - S) = L1 at *
  obtain ⟨u3, hu3e⟩ : ∃ u3, u3 = H + L1 := ⟨_, rfl⟩
  rw [← hu3e] at hor hu3 ⊢
  obtain ⟨y1, hy1⟩ : ∃ y1, y1 = Y / 4294967296 := ⟨_, rfl⟩
  obtain ⟨y0, hy0⟩ : ∃ y0, y0 = Y % 4294967296 := ⟨_, rfl⟩
  obtain ⟨u1, hu1⟩ : ∃ u1, u1 = u10 / 4294967296 := ⟨_, rfl⟩
  obtain ⟨u0, hu0⟩ : ∃ u0, u0 = u10 % 4294967296 := ⟨_, rfl⟩
  have g1 : (Y : Int) / 4294967296 = (y1 : Int) := by omega
  have g2 : bits .and .u64 (Y : Int) 4294967295 = (y0 : Int) := by rw [Mul64.maskN Y hY2, hy0]
  have g3 : (u10 : Int) / 4294967296 = (u1 : Int) := by omega
  have g4 : bits .and .u64 (u10 : Int) 4294967295 = (u0 : Int) := by rw [Mul64.maskN u10 hu10b, hu0]
  have hYy : Y = y1 * 4294967296 + y0 := by omega
  have hN : u3 * 18446744073709551616 + u10 = (u3 * 4294967296 + u1) * 4294967296 + u0 := by omega
  have b1 : 2147483648 ≤ y1 := by omega
  have b1' : y1 < 4294967296 := by omega
  have b0 : y0 < 4294967296 := by omega
  have c1 : u1 < 4294967296 := by omega
  have c0 : u0 < 4294967296 := by omega
  rw [hN]
  have hu3' : u3 < y1 * 4294967296 + y0 := by omega
  have HSMALL := Lib.hid (digit_small hu3' c1)
  have HSTART := Lib.hid (digit_start b1 b0 hu3' c1)
  have HYY := Lib.hid hYy
  rw [hYy]
  obtain ⟨RQ, hRQ⟩ : ∃ z, z = ((u3 * 4294967296 + u1) * 4294967296 + u0) / (y1 * 4294967296 + y0) := ⟨_, rfl⟩
  obtain ⟨RR, hRR⟩ : ∃ z, z = ((u3 * 4294967296 + u1) * 4294967296 + u0) % (y1 * 4294967296 + y0) / 2 ^ S := ⟨_, rfl⟩
  rw [← hRQ, ← hRR]
  have HRES := Lib.hid (⟨hRQ, hRR⟩ : RQ = ((u3 * 4294967296 + u1) * 4294967296 + u0) / (y1 * 4294967296 + y0) ∧ RR = ((u3 * 4294967296 + u1) * 4294967296 + u0) % (y1 * 4294967296 + y0) / 2 ^ S)
  clear hRQ hRR
  have hu3w : u3 < 18446744073709551616 := by omega
  have k1 : IntKind.u64.wrap ((u3 : Int) / (y1 : Int)) = ((u3 / y1 : Nat) : Int) := by rw [← Int.natCast_ediv]; exact u64w _ (Nat.lt_of_le_of_lt (Nat.div_le_self _ _) hu3w)
  have k1' : (u3 : Int) / (y1 : Int) = ((u3 / y1 : Nat) : Int) := (Int.natCast_ediv _ _).symm
  have k2 : IntKind.u64.wrap (((u3 / y1 : Nat) : Int) * (y1 : Int)) = ((u3 / y1 * y1 : Nat) : Int) := by
    rw [← Int.natCast_mul]; exact u64w _ (Nat.lt_of_le_of_lt (Nat.div_mul_le_self _ _) hu3w)
  have k3 : IntKind.u64.wrap ((u3 : Int) - ((u3 / y1 * y1 : Nat) : Int)) = ((u3 % y1 : Nat) : Int) := by
    have e1 := HSTART.out.1
    generalize u3 / y1 * y1 = A at *
    generalize u3 % y1 = B at *
    rw [show (u3 : Int) - (A : Int) = (B : Int) by omega]; exact u64w _ (by omega)
  have k3' : IntKind.u64.wrap ((u3 : Int) - ((u3 / y1 : Nat) : Int) * (y1 : Int)) = ((u3 % y1 : Nat) : Int) := by rw [← Int.natCast_mul]; exact k3
  have hy1p : ¬ y1 = 0 := by omega
  have hhi0 : ¬ hi = 0 := by omega
  have hyhi : ¬ y ≤ hi := by omega
  have hy00 : ¬ y = 0 := by omega
  clear hsd1 hsd2 hwords hH hHle hL1 hu10 hYe hu3e hy0 hy1 hu1 hu0 hN hlz hS hYy
  have kq : IntKind.u64.wrap ((u3 / y1 : Nat) : Int) = ((u3 / y1 : Nat) : Int) := u64w _ (Nat.lt_of_le_of_lt (Nat.div_le_self _ _) hu3w)
  generalize hq0 : u3 / y1 = q0 at *
  generalize hr0 : u3 % y1 = r0 at *
  go_enter Tryd.func27, Tryd.ntmps27
  go_wp2_with fail
  refine (HLZ.out _).mono ?_
  rintro _ _ ⟨rfl, rfl⟩
  go_wp2_with fail
  clear k1 k1' k2 k3 k3' kq f1 f2 f3 f4 f5 f6 hor g1 g2 g3 g4 hq0 hr0 hy1p hhi0 hyhi hy00 hY1 hu3
  obtain ⟨Y1, e1⟩ : ∃ z, z = (y1 : Int) := ⟨_, rfl⟩
  obtain ⟨Y0, e0⟩ : ∃ z, z = (y0 : Int) := ⟨_, rfl⟩
  obtain ⟨U1, i1⟩ : ∃ z, z = (u1 : Int) := ⟨_, rfl⟩
  obtain ⟨U0, i0⟩ : ∃ z, z = (u0 : Int) := ⟨_, rfl⟩
  obtain ⟨U3, i3⟩ : ∃ z, z = (u3 : Int) := ⟨_, rfl⟩
  obtain ⟨YY, iy⟩ : ∃ z, z = (Y : Int) := ⟨_, rfl⟩
  rw [← e1, ← e0, ← i1, ← i0, ← i3, ← iy]
  have m1 : 2147483648 ≤ Y1 ∧ Y1 < 4294967296 := by omega
  have m0 : 0 ≤ Y0 ∧ Y0 < 4294967296 := by omega
  have n1 : 0 ≤ U1 ∧ U1 < 4294967296 := by omega
  have n0 : 0 ≤ U0 ∧ U0 < 4294967296 := by omega
  have n3 : 0 ≤ U3 ∧ U3 < 18446744073709551616 := by omega
  have ny : 0 ≤ YY ∧ YY < 18446744073709551616 := by omega
  obtain ⟨m11, m12⟩ := m1
  obtain ⟨m01, m02⟩ := m0
  obtain ⟨n11, n12⟩ := n1
  obtain ⟨n01, n02⟩ := n0
  obtain ⟨n31, n32⟩ := n3
  obtain ⟨ny1, ny2⟩ := ny
  have E := Lib.hid (⟨e1, e0, i1, i0, i3, iy⟩ : Y1 = (y1 : Int) ∧ Y0 = (y0 : Int) ∧ U1 = (u1 : Int) ∧ U0 = (u0 : Int) ∧ U3 = (u3 : Int) ∧ YY = (Y : Int))
  have B := Lib.hid (⟨b0, by omega, hu3'⟩ : y0 < 4294967296 ∧ 0 < y1 * 4294967296 + y0 ∧ u3 < y1 * 4294967296 + y0)
  clear e1 e0 i1 i0 i3 iy b0 b1 b1' c1 c0 hu3' hu3w hu10b hY2 h0 h hy hlo
  go_loop [15, 16] (fun a b => ∃ q r : Int, a = .int .u64 q ∧ b = .int .u64 r ∧ 0 ≤ q ∧ q ≤ 4294967297 ∧ 0 ≤ r ∧ r < 4294967296 ∧ Hid (∃ Q R : Nat, q = (Q : Int) ∧ r = (R : Int) ∧ Q * y1 + R = u3 ∧ (u3 * 4294967296 + u1) / (y1 * 4294967296 + y0) ≤ Q)) (fun a _ => (intOf a).toNat)
  case atStart =>
    obtain ⟨s1, s2, s3, s4⟩ := HSTART.out
    have := E.out.1
    exact ⟨q0, r0, rfl, rfl, by omega, by omega, by omega, by omega, Lib.hid ⟨q0, r0, rfl, rfl, s1, s2⟩⟩
  case round =>
    obtain ⟨q, r, rfl, rfl, hq1, hq2, hr1, hr2, hH⟩ := hrel
    clear HSTART
    by_cases hc : 4294967296 ≤ q ∨ 4294967296 * r + U1 < q * Y0
    · have hdn := Lib.hid (down_facts E.out.1 E.out.2.1 E.out.2.2.1 B.out.1 B.out.2.1 HSMALL.out (by omega) hH.out hc)
      have hq3 : 1 ≤ q := hdn.out.1
      have w1 : IntKind.u64.wrap (q - 1) = q - 1 := IntWalk.u64_in _ (by omega)
      have w2 : IntKind.u64.wrap (r + Y1) = r + Y1 := IntWalk.u64_in _ (by omega)
      clear hH
      by_cases hqb : 4294967296 ≤ q
      · have x1 : decide ((4294967296 : Int) ≤ q) = true := decide_eq_true hqb
        clear hc
        by_cases hb : 4294967296 ≤ r + Y1
        · have x2 : decide ((4294967296 : Int) ≤ r + Y1) = true := decide_eq_true hb
          have HQ := Lib.hid (hdn.out.2.2 hb)
          clear hdn
          obtain ⟨A1, A2, A3, T, Q0, P0, R0, v1, v2, v3, v4, v5, v6, v7, v8, t1, t2, t3, t4, t5, t6, tT, tH⟩ := second_facts E.out HYY.out m11 m12 m02 n12 n02 HQ.out
          have HQ1 := HQ
          have HT := Lib.hid tT
          have HH := Lib.hid tH
          have HSM := Lib.hid (digit_small (Nat.mod_lt (u3 * 4294967296 + u1) B.out.2.1) (u1 := u0) (by have := E.out.2.2.2.1; omega))
          clear HQ tT tH
          go_wp2_with fail
          clear v1 v2 v3 v4 v5 v6 v7 v8
          go_loop [18, 16] (fun a b => ∃ q r : Int, a = .int .u64 q ∧ b = .int .u64 r ∧ 0 ≤ q ∧ q ≤ 4294967297 ∧ 0 ≤ r ∧ r < 4294967296 ∧ Hid (∃ Q R : Nat, q = (Q : Int) ∧ r = (R : Int) ∧ Q * y1 + R = (u3 * 4294967296 + u1) % (y1 * 4294967296 + y0) ∧ ((u3 * 4294967296 + u1) % (y1 * 4294967296 + y0) * 4294967296 + u0) / (y1 * 4294967296 + y0) ≤ Q)) (fun a _ => (intOf a).toNat)
          case atStart => exact ⟨Q0, R0, rfl, rfl, t3, t4, t5, t6, HH⟩
          case round =>
            obtain ⟨f, g, rfl, rfl, hf1, hf2, hg1, hg2, hG⟩ := hrel
            clear HH
            by_cases hc : 4294967296 ≤ f ∨ 4294967296 * g + U0 < f * Y0
            · have hdn := Lib.hid (down_facts E.out.1 E.out.2.1 E.out.2.2.2.1 B.out.1 B.out.2.1 HSM.out (by omega) hG.out hc)
              have hq3 : 1 ≤ f := hdn.out.1
              have w1 : IntKind.u64.wrap (f - 1) = f - 1 := IntWalk.u64_in _ (by omega)
              have w2 : IntKind.u64.wrap (g + Y1) = g + Y1 := IntWalk.u64_in _ (by omega)
              clear hG
              by_cases hqb : 4294967296 ≤ f
              · have x1 : decide ((4294967296 : Int) ≤ f) = true := decide_eq_true hqb
                clear hc
                by_cases hb : 4294967296 ≤ g + Y1
                · have x2 : decide ((4294967296 : Int) ≤ g + Y1) = true := decide_eq_true hb
                  have HQ := Lib.hid (hdn.out.2.2 hb)
                  clear hdn
                  obtain ⟨B1, B2, B3, B4, B5, B6, z1, z2, z3, z4, z5, z6, Z1, Z2⟩ := last_facts (S := S) E.out HYY.out m11 m12 m02 n12 n02 B.out.2.2 HQ1.out HT.out HQ.out
                  have FZ := Lib.hid (⟨Z1, Z2⟩ : _ ∧ _)
                  clear Z1 Z2
                  go_wp2_with fail
                  go_ret2
                  exact ⟨by rw [HRES.out.1, HRES.out.2, ← FZ.out.1, ← FZ.out.2]; rfl, Below.refl _ _⟩
                · have x2 : decide ((4294967296 : Int) ≤ g + Y1) = false := decide_eq_false hb
                  go_wp2_with fail
                  go_round
                  case rel => exact ⟨f - 1, g + Y1, rfl, rfl, by omega, by omega, by omega, by omega, Lib.hid hdn.out.2.1⟩
                  case measure => simp [intOf]; omega
              · have x1 : decide ((4294967296 : Int) ≤ f) = false := decide_eq_false hqb
                have hc2 : 4294967296 * g + U0 < f * Y0 := hc.resolve_left hqb
                have wm : IntKind.u64.wrap (f * Y0) = f * Y0 := mul_bd (by omega) (by omega) m01 m02
                have x3 : decide (4294967296 * g + U0 < f * Y0) = true := decide_eq_true hc2
                clear hc
                by_cases hb : 4294967296 ≤ g + Y1
                · have x2 : decide ((4294967296 : Int) ≤ g + Y1) = true := decide_eq_true hb
                  have HQ := Lib.hid (hdn.out.2.2 hb)
                  clear hdn
                  obtain ⟨B1, B2, B3, B4, B5, B6, z1, z2, z3, z4, z5, z6, Z1, Z2⟩ := last_facts (S := S) E.out HYY.out m11 m12 m02 n12 n02 B.out.2.2 HQ1.out HT.out HQ.out
                  have FZ := Lib.hid (⟨Z1, Z2⟩ : _ ∧ _)
                  clear Z1 Z2
                  go_wp2_with fail
                  go_ret2
                  exact ⟨by rw [HRES.out.1, HRES.out.2, ← FZ.out.1, ← FZ.out.2]; rfl, Below.refl _ _⟩
                · have x2 : decide ((4294967296 : Int) ≤ g + Y1) = false := decide_eq_false hb
                  go_wp2_with fail
                  go_round
                  case rel => exact ⟨f - 1, g + Y1, rfl, rfl, by omega, by omega, by omega, by omega, Lib.hid hdn.out.2.1⟩
                  case measure => simp [intOf]; omega
            · have HQ := Lib.hid (exit_facts E.out.2.1 E.out.2.2.2.1 B.out.2.1 hG.out hc)
              have hqb : ¬ 4294967296 ≤ f := fun h => hc (.inl h)
              have x1 : decide ((4294967296 : Int) ≤ f) = false := decide_eq_false hqb
              have hc2 : ¬ 4294967296 * g + U0 < f * Y0 := fun h => hc (.inr h)
              have wm : IntKind.u64.wrap (f * Y0) = f * Y0 := mul_bd (by omega) (by omega) m01 m02
              have x3 : decide (4294967296 * g + U0 < f * Y0) = false := decide_eq_false hc2
              clear hc hG
              obtain ⟨B1, B2, B3, B4, B5, B6, z1, z2, z3, z4, z5, z6, Z1, Z2⟩ := last_facts (S := S) E.out HYY.out m11 m12 m02 n12 n02 B.out.2.2 HQ1.out HT.out HQ.out
              have FZ := Lib.hid (⟨Z1, Z2⟩ : _ ∧ _)
              clear Z1 Z2
              go_wp2_with fail
              go_ret2
              exact ⟨by rw [HRES.out.1, HRES.out.2, ← FZ.out.1, ← FZ.out.2]; rfl, Below.refl _ _⟩
        · have x2 : decide ((4294967296 : Int) ≤ r + Y1) = false := decide_eq_false hb
          go_wp2_with fail
          go_round
          case rel => exact ⟨q - 1, r + Y1, rfl, rfl, by omega, by omega, by omega, by omega, Lib.hid hdn.out.2.1⟩
          case measure => simp [intOf]; omega
      · have x1 : decide ((4294967296 : Int) ≤ q) = false := decide_eq_false hqb
        have hc2 : 4294967296 * r + U1 < q * Y0 := hc.resolve_left hqb
        have wm : IntKind.u64.wrap (q * Y0) = q * Y0 := mul_bd (by omega) (by omega) m01 m02
        have x3 : decide (4294967296 * r + U1 < q * Y0) = true := decide_eq_true hc2
        clear hc
        by_cases hb : 4294967296 ≤ r + Y1
        · have x2 : decide ((4294967296 : Int) ≤ r + Y1) = true := decide_eq_true hb
          have HQ := Lib.hid (hdn.out.2.2 hb)
          clear hdn
          obtain ⟨A1, A2, A3, T, Q0, P0, R0, v1, v2, v3, v4, v5, v6, v7, v8, t1, t2, t3, t4, t5, t6, tT, tH⟩ := second_facts E.out HYY.out m11 m12 m02 n12 n02 HQ.out
          have HQ1 := HQ
          have HT := Lib.hid tT
          have HH := Lib.hid tH
          have HSM := Lib.hid (digit_small (Nat.mod_lt (u3 * 4294967296 + u1) B.out.2.1) (u1 := u0) (by have := E.out.2.2.2.1; omega))
          clear HQ tT tH
          go_wp2_with fail
          clear v1 v2 v3 v4 v5 v6 v7 v8
          go_loop [18, 16] (fun a b => ∃ q r : Int, a = .int .u64 q ∧ b = .int .u64 r ∧ 0 ≤ q ∧ q ≤ 4294967297 ∧ 0 ≤ r ∧ r < 4294967296 ∧ Hid (∃ Q R : Nat, q = (Q : Int) ∧ r = (R : Int) ∧ Q * y1 + R = (u3 * 4294967296 + u1) % (y1 * 4294967296 + y0) ∧ ((u3 * 4294967296 + u1) % (y1 * 4294967296 + y0) * 4294967296 + u0) / (y1 * 4294967296 + y0) ≤ Q)) (fun a _ => (intOf a).toNat)
          case atStart => exact ⟨Q0, R0, rfl, rfl, t3, t4, t5, t6, HH⟩
          case round =>
            obtain ⟨f, g, rfl, rfl, hf1, hf2, hg1, hg2, hG⟩ := hrel
            clear HH
            by_cases hc : 4294967296 ≤ f ∨ 4294967296 * g + U0 < f * Y0
            · have hdn := Lib.hid (down_facts E.out.1 E.out.2.1 E.out.2.2.2.1 B.out.1 B.out.2.1 HSM.out (by omega) hG.out hc)
              have hq3 : 1 ≤ f := hdn.out.1
              have w1 : IntKind.u64.wrap (f - 1) = f - 1 := IntWalk.u64_in _ (by omega)
              have w2 : IntKind.u64.wrap (g + Y1) = g + Y1 := IntWalk.u64_in _ (by omega)
              clear hG
              by_cases hqb : 4294967296 ≤ f
              · have x1 : decide ((4294967296 : Int) ≤ f) = true := decide_eq_true hqb
                clear hc
                by_cases hb : 4294967296 ≤ g + Y1
                · have x2 : decide ((4294967296 : Int) ≤ g + Y1) = true := decide_eq_true hb
                  have HQ := Lib.hid (hdn.out.2.2 hb)
                  clear hdn
                  obtain ⟨B1, B2, B3, B4, B5, B6, z1, z2, z3, z4, z5, z6, Z1, Z2⟩ := last_facts (S := S) E.out HYY.out m11 m12 m02 n12 n02 B.out.2.2 HQ1.out HT.out HQ.out
                  have FZ := Lib.hid (⟨Z1, Z2⟩ : _ ∧ _)
                  clear Z1 Z2
                  go_wp2_with fail
                  go_ret2
                  exact ⟨by rw [HRES.out.1, HRES.out.2, ← FZ.out.1, ← FZ.out.2]; rfl, Below.refl _ _⟩
                · have x2 : decide ((4294967296 : Int) ≤ g + Y1) = false := decide_eq_false hb
                  go_wp2_with fail
                  go_round
                  case rel => exact ⟨f - 1, g + Y1, rfl, rfl, by omega, by omega, by omega, by omega, Lib.hid hdn.out.2.1⟩
                  case measure => simp [intOf]; omega
              · have x1 : decide ((4294967296 : Int) ≤ f) = false := decide_eq_false hqb
                have hc2 : 4294967296 * g + U0 < f * Y0 := hc.resolve_left hqb
                have wm : IntKind.u64.wrap (f * Y0) = f * Y0 := mul_bd (by omega) (by omega) m01 m02
                have x3 : decide (4294967296 * g + U0 < f * Y0) = true := decide_eq_true hc2
                clear hc
                by_cases hb : 4294967296 ≤ g + Y1
                · have x2 : decide ((4294967296 : Int) ≤ g + Y1) = true := decide_eq_true hb
                  have HQ := Lib.hid (hdn.out.2.2 hb)
                  clear hdn
                  obtain ⟨B1, B2, B3, B4, B5, B6, z1, z2, z3, z4, z5, z6, Z1, Z2⟩ := last_facts (S := S) E.out HYY.out m11 m12 m02 n12 n02 B.out.2.2 HQ1.out HT.out HQ.out
                  have FZ := Lib.hid (⟨Z1, Z2⟩ : _ ∧ _)
                  clear Z1 Z2
                  go_wp2_with fail
                  go_ret2
                  exact ⟨by rw [HRES.out.1, HRES.out.2, ← FZ.out.1, ← FZ.out.2]; rfl, Below.refl _ _⟩
                · have x2 : decide ((4294967296 : Int) ≤ g + Y1) = false := decide_eq_false hb
                  go_wp2_with fail
                  go_round
                  case rel => exact ⟨f - 1, g + Y1, rfl, rfl, by omega, by omega, by omega, by omega, Lib.hid hdn.out.2.1⟩
                  case measure => simp [intOf]; omega
            · have HQ := Lib.hid (exit_facts E.out.2.1 E.out.2.2.2.1 B.out.2.1 hG.out hc)
              have hqb : ¬ 4294967296 ≤ f := fun h => hc (.inl h)
              have x1 : decide ((4294967296 : Int) ≤ f) = false := decide_eq_false hqb
              have hc2 : ¬ 4294967296 * g + U0 < f * Y0 := fun h => hc (.inr h)
              have wm : IntKind.u64.wrap (f * Y0) = f * Y0 := mul_bd (by omega) (by omega) m01 m02
              have x3 : decide (4294967296 * g + U0 < f * Y0) = false := decide_eq_false hc2
              clear hc hG
              obtain ⟨B1, B2, B3, B4, B5, B6, z1, z2, z3, z4, z5, z6, Z1, Z2⟩ := last_facts (S := S) E.out HYY.out m11 m12 m02 n12 n02 B.out.2.2 HQ1.out HT.out HQ.out
              have FZ := Lib.hid (⟨Z1, Z2⟩ : _ ∧ _)
              clear Z1 Z2
              go_wp2_with fail
              go_ret2
              exact ⟨by rw [HRES.out.1, HRES.out.2, ← FZ.out.1, ← FZ.out.2]; rfl, Below.refl _ _⟩
        · have x2 : decide ((4294967296 : Int) ≤ r + Y1) = false := decide_eq_false hb
          go_wp2_with fail
          go_round
          case rel => exact ⟨q - 1, r + Y1, rfl, rfl, by omega, by omega, by omega, by omega, Lib.hid hdn.out.2.1⟩
          case measure => simp [intOf]; omega
    · have HQ := Lib.hid (exit_facts E.out.2.1 E.out.2.2.1 B.out.2.1 hH.out hc)
      have hqb : ¬ 4294967296 ≤ q := fun h => hc (.inl h)
      have x1 : decide ((4294967296 : Int) ≤ q) = false := decide_eq_false hqb
      have hc2 : ¬ 4294967296 * r + U1 < q * Y0 := fun h => hc (.inr h)
      have wm : IntKind.u64.wrap (q * Y0) = q * Y0 := mul_bd (by omega) (by omega) m01 m02
      have x3 : decide (4294967296 * r + U1 < q * Y0) = false := decide_eq_false hc2
      clear hc hH
      obtain ⟨A1, A2, A3, T, Q0, P0, R0, v1, v2, v3, v4, v5, v6, v7, v8, t1, t2, t3, t4, t5, t6, tT, tH⟩ := second_facts E.out HYY.out m11 m12 m02 n12 n02 HQ.out
      have HQ1 := HQ
      have HT := Lib.hid tT
      have HH := Lib.hid tH
      have HSM := Lib.hid (digit_small (Nat.mod_lt (u3 * 4294967296 + u1) B.out.2.1) (u1 := u0) (by have := E.out.2.2.2.1; omega))
      clear HQ tT tH
      go_wp2_with fail
      clear v1 v2 v3 v4 v5 v6 v7 v8
      go_loop [18, 16] (fun a b => ∃ q r : Int, a = .int .u64 q ∧ b = .int .u64 r ∧ 0 ≤ q ∧ q ≤ 4294967297 ∧ 0 ≤ r ∧ r < 4294967296 ∧ Hid (∃ Q R : Nat, q = (Q : Int) ∧ r = (R : Int) ∧ Q * y1 + R = (u3 * 4294967296 + u1) % (y1 * 4294967296 + y0) ∧ ((u3 * 4294967296 + u1) % (y1 * 4294967296 + y0) * 4294967296 + u0) / (y1 * 4294967296 + y0) ≤ Q)) (fun a _ => (intOf a).toNat)
      case atStart => exact ⟨Q0, R0, rfl, rfl, t3, t4, t5, t6, HH⟩
      case round =>
        obtain ⟨f, g, rfl, rfl, hf1, hf2, hg1, hg2, hG⟩ := hrel
        clear HH
        by_cases hc : 4294967296 ≤ f ∨ 4294967296 * g + U0 < f * Y0
        · have hdn := Lib.hid (down_facts E.out.1 E.out.2.1 E.out.2.2.2.1 B.out.1 B.out.2.1 HSM.out (by omega) hG.out hc)
          have hq3 : 1 ≤ f := hdn.out.1
          have w1 : IntKind.u64.wrap (f - 1) = f - 1 := IntWalk.u64_in _ (by omega)
          have w2 : IntKind.u64.wrap (g + Y1) = g + Y1 := IntWalk.u64_in _ (by omega)
          clear hG
          by_cases hqb : 4294967296 ≤ f
          · have x1 : decide ((4294967296 : Int) ≤ f) = true := decide_eq_true hqb
            clear hc
            by_cases hb : 4294967296 ≤ g + Y1
            · have x2 : decide ((4294967296 : Int) ≤ g + Y1) = true := decide_eq_true hb
              have HQ := Lib.hid (hdn.out.2.2 hb)
              clear hdn
              obtain ⟨B1, B2, B3, B4, B5, B6, z1, z2, z3, z4, z5, z6, Z1, Z2⟩ := last_facts (S := S) E.out HYY.out m11 m12 m02 n12 n02 B.out.2.2 HQ1.out HT.out HQ.out
              have FZ := Lib.hid (⟨Z1, Z2⟩ : _ ∧ _)
              clear Z1 Z2
              go_wp2_with fail
              go_ret2
              exact ⟨by rw [HRES.out.1, HRES.out.2, ← FZ.out.1, ← FZ.out.2]; rfl, Below.refl _ _⟩
            · have x2 : decide ((4294967296 : Int) ≤ g + Y1) = false := decide_eq_false hb
              go_wp2_with fail
              go_round
              case rel => exact ⟨f - 1, g + Y1, rfl, rfl, by omega, by omega, by omega, by omega, Lib.hid hdn.out.2.1⟩
              case measure => simp [intOf]; omega
          · have x1 : decide ((4294967296 : Int) ≤ f) = false := decide_eq_false hqb
            have hc2 : 4294967296 * g + U0 < f * Y0 := hc.resolve_left hqb
            have wm : IntKind.u64.wrap (f * Y0) = f * Y0 := mul_bd (by omega) (by omega) m01 m02
            have x3 : decide (4294967296 * g + U0 < f * Y0) = true := decide_eq_true hc2
            clear hc
            by_cases hb : 4294967296 ≤ g + Y1
            · have x2 : decide ((4294967296 : Int) ≤ g + Y1) = true := decide_eq_true hb
              have HQ := Lib.hid (hdn.out.2.2 hb)
              clear hdn
              obtain ⟨B1, B2, B3, B4, B5, B6, z1, z2, z3, z4, z5, z6, Z1, Z2⟩ := last_facts (S := S) E.out HYY.out m11 m12 m02 n12 n02 B.out.2.2 HQ1.out HT.out HQ.out
              have FZ := Lib.hid (⟨Z1, Z2⟩ : _ ∧ _)
              clear Z1 Z2
              go_wp2_with fail
              go_ret2
              exact ⟨by rw [HRES.out.1, HRES.out.2, ← FZ.out.1, ← FZ.out.2]; rfl, Below.refl _ _⟩
            · have x2 : decide ((4294967296 : Int) ≤ g + Y1) = false := decide_eq_false hb
              go_wp2_with fail
              go_round
              case rel => exact ⟨f - 1, g + Y1, rfl, rfl, by omega, by omega, by omega, by omega, Lib.hid hdn.out.2.1⟩
              case measure => simp [intOf]; omega
        · have HQ := Lib.hid (exit_facts E.out.2.1 E.out.2.2.2.1 B.out.2.1 hG.out hc)
          have hqb : ¬ 4294967296 ≤ f := fun h => hc (.inl h)
          have x1 : decide ((4294967296 : Int) ≤ f) = false := decide_eq_false hqb
          have hc2 : ¬ 4294967296 * g + U0 < f * Y0 := fun h => hc (.inr h)
          have wm : IntKind.u64.wrap (f * Y0) = f * Y0 := mul_bd (by omega) (by omega) m01 m02
          have x3 : decide (4294967296 * g + U0 < f * Y0) = false := decide_eq_false hc2
          clear hc hG
          obtain ⟨B1, B2, B3, B4, B5, B6, z1, z2, z3, z4, z5, z6, Z1, Z2⟩ := last_facts (S := S) E.out HYY.out m11 m12 m02 n12 n02 B.out.2.2 HQ1.out HT.out HQ.out
          have FZ := Lib.hid (⟨Z1, Z2⟩ : _ ∧ _)
          clear Z1 Z2
          go_wp2_with fail
          go_ret2
          exact ⟨by rw [HRES.out.1, HRES.out.2, ← FZ.out.1, ← FZ.out.2]; rfl, Below.refl _ _⟩

set_option maxHeartbeats 1000000 in
theorem div64_c (hi lo y : Nat) (w : World) (h : hi < y) (hy : y < 18446744073709551616) (hlo : lo < 18446744073709551616) :
    Calls Tryd.prog 27 #[.int .u64 hi, .int .u64 lo, .int .u64 y] w fun e w' => e = .returned (.tuple #[.int .u64 (((hi * 18446744073709551616 + lo) / y : Nat) : Int), .int .u64 (((hi * 18446744073709551616 + lo) % y : Nat) : Int)]) ∧ Below w.heap.size w w' := by
  by_cases h0 : hi = 0
  · subst h0
    rw [Nat.zero_mul, Nat.zero_add]
    have k1 : IntKind.u64.wrap ((lo : Int) / (y : Int)) = ((lo / y : Nat) : Int) := by rw [← Int.natCast_ediv]; exact u64w _ (Nat.lt_of_le_of_lt (Nat.div_le_self _ _) hlo)
    have k2 : (lo : Int) / (y : Int) = ((lo / y : Nat) : Int) := (Int.natCast_ediv _ _).symm
    have k3 : IntKind.u64.wrap ((lo / y : Nat) : Int) = ((lo / y : Nat) : Int) := u64w _ (Nat.lt_of_le_of_lt (Nat.div_le_self _ _) hlo)
    have k4 : (lo : Int) % (y : Int) = ((lo % y : Nat) : Int) := (Int.natCast_emod _ _).symm
    have hy0 : ¬ y = 0 := by omega
    have hy1 : ¬ (y : Int) = 0 := by omega
    have hy2 : ¬ y ≤ 0 := by omega
    generalize lo / y = A at *
    generalize lo % y = B at *
    have K4 := Lib.hid k4
    clear k4
    go_enter Tryd.func27, Tryd.ntmps27
    go_wp2_with fail
    go_quiet (fail)
    go_wp2_with fail
    go_ret2
    exact ⟨by rw [← K4.out]; rfl, ⟨rfl, rfl, rfl, Nat.le_refl _, fun _ _ => rfl⟩⟩
  · exact div64_big hi lo y w (by omega) h hy hlo
end Go.Proofs.YtcmdchhhdcdpnaaDoor
