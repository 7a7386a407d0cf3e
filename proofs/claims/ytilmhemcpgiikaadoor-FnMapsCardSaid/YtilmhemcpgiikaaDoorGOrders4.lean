/- Orders: texts of the proof, joined. -/
import Derived.Test.YtilmhemcpgiikaaDoorCNum
import Derived.Test.YtilmhemcpgiikaaDoorCTwo
import Derived.Shelf.Bits.Mul64
import Derived.Laws.BitsAllLaws
import Derived.Test.YtilmhemcpgiikaaDoorCFltOk
import Derived.Test.YtilmhemcpgiikaaDoorMDec
import Derived.Test.YtilmhemcpgiikaaDoorCDec
import Derived.Test.YtilmhemcpgiikaaDoorCLessFlt
import Derived.Deep.RegionHeld3
import Derived.Deep.RegionWith
import Derived.Test.YtilmhemcpgiikaaDoorCLess
import Derived.Deep.DeepCutAuto
import Derived.Test.YtilmhemcpgiikaaDoorGOrders3
/- bits.Div64: the quotient and the rest. -/
namespace Go.Proofs.YtilmhemcpgiikaaDoor
open Go.Deep Go.ChangeShapes Go.WideShapes Go.ChangeAt Go.RowKit
open Go.ChangeMaps (open_string shut_string)

theorem u64w (a : Nat) (h : a < 18446744073709551616) : IntKind.u64.wrap (a : Int) = (a : Int) := Mul64.wrapN a h
/-- The number of leading zeros, as a shift. -/
theorem lead_shift {y : Nat} (h0 : 0 < y) (h : y < 18446744073709551616) : ∃ S : Nat, (64 - (Lib.bitLen (y : Int).toNat : Int)) = (S : Int) ∧ S ≤ 63 ∧ 9223372036854775808 ≤ y * 2 ^ S ∧ y * 2 ^ S < 18446744073709551616 := by
  obtain ⟨a, b, c⟩ := Lib.bitLenAux_bounds 64 y h (by omega)
  have hL : Lib.bitLenAux 64 y ≤ 64 := Lib.bitLen_le y 64 (Nat.le_refl _) h
  rw [Int.toNat_natCast]
  have e : Lib.bitLen y = Lib.bitLenAux 64 y := rfl
  rw [e]
  generalize Lib.bitLenAux 64 y = L at *
  refine ⟨64 - L, by omega, by omega, ?_, ?_⟩
  · have h1 := Nat.mul_le_mul_right (2 ^ (64 - L)) b
    rw [← Nat.pow_add, show L - 1 + (64 - L) = 63 by omega] at h1
    exact h1
  · have h1 := Nat.mul_lt_mul_of_pos_right c (show 0 < 2 ^ (64 - L) from Nat.pow_pos (by decide))
    rw [← Nat.pow_add, show L + (64 - L) = 64 by omega] at h1
    exact h1

theorem wrap_mod (x : Int) : IntKind.u64.wrap x = x % 18446744073709551616 := by rw [IntKind.wrap_u64]
/-- What stands between the two digits. -/
theorem second_facts {y1 y0 u3 u1 u0 Y : Nat} {Y1 Y0 U1 U0 U3 YY q1 : Int}
    (E : Y1 = (y1 : Int) ∧ Y0 = (y0 : Int) ∧ U1 = (u1 : Int) ∧ U0 = (u0 : Int) ∧ U3 = (u3 : Int) ∧ YY = (Y : Int)) (hY : Y = y1 * 4294967296 + y0) (m1 : 2147483648 ≤ Y1) (m2 : Y1 < 4294967296) (m3 : Y0 < 4294967296)
    (hn1 : U1 < 4294967296) (hn0 : U0 < 4294967296) (hq : q1 = (((u3 * 4294967296 + u1) / (y1 * 4294967296 + y0) : Nat) : Int)) :
    ∃ A1 A2 A3 T Q0 P R0 : Int, IntKind.u64.wrap (U3 * 4294967296) = A1 ∧ IntKind.u64.wrap (A1 + U1) = A2 ∧ IntKind.u64.wrap (q1 * YY) = A3 ∧ IntKind.u64.wrap (A2 - A3) = T ∧ T / Y1 = Q0 ∧ IntKind.u64.wrap Q0 = Q0 ∧
      IntKind.u64.wrap (Q0 * Y1) = P ∧ IntKind.u64.wrap (T - P) = R0 ∧ 0 ≤ T ∧ T < 18446744073709551616 ∧ 0 ≤ Q0 ∧ Q0 ≤ 4294967297 ∧ 0 ≤ R0 ∧ R0 < 4294967296 ∧
      T = (((u3 * 4294967296 + u1) % (y1 * 4294967296 + y0) : Nat) : Int) ∧
      ∃ Q R : Nat, Q0 = (Q : Int) ∧ R0 = (R : Int) ∧ Q * y1 + R = (u3 * 4294967296 + u1) % (y1 * 4294967296 + y0) ∧ ((u3 * 4294967296 + u1) % (y1 * 4294967296 + y0) * 4294967296 + u0) / (y1 * 4294967296 + y0) ≤ Q := by
  obtain ⟨rfl, rfl, rfl, rfl, rfl, rfl⟩ := E
  have hD : 0 < y1 * 4294967296 + y0 := by omega
  have e := Nat.div_add_mod (u3 * 4294967296 + u1) (y1 * 4294967296 + y0)
  have et := Nat.mod_lt (u3 * 4294967296 + u1) hD
  obtain ⟨s1, s2, s3, s4⟩ := digit_start (u3 := (u3 * 4294967296 + u1) % (y1 * 4294967296 + y0)) (u1 := u0) (by omega) (by omega) et (by omega)
  obtain ⟨t, ht⟩ : ∃ t, t = (u3 * 4294967296 + u1) % (y1 * 4294967296 + y0) := ⟨_, rfl⟩
  obtain ⟨d, hd⟩ : ∃ d, d = (u3 * 4294967296 + u1) / (y1 * 4294967296 + y0) := ⟨_, rfl⟩
  rw [← hd] at e hq
  rw [← ht] at e et s1 s2 s3 s4 ⊢
  rw [← hY] at e et hD
  obtain ⟨X, hX⟩ : ∃ X, X = Y * d := ⟨_, rfl⟩
  rw [← hX] at e
  have hqY : q1 * (Y : Int) = (X : Int) := by rw [hq, hX, Int.natCast_mul, Int.mul_comm]
  have hYb : Y < 18446744073709551616 := by omega
  obtain ⟨A, hA⟩ : ∃ A, A = t / y1 := ⟨_, rfl⟩
  obtain ⟨R, hR⟩ : ∃ R, R = t % y1 := ⟨_, rfl⟩
  rw [← hA, ← hR] at s1
  rw [← hA] at s2 s3
  rw [← hR] at s4
  have hAy : ((A : Int) * (y1 : Int)) = ((A * y1 : Nat) : Int) := (Int.natCast_mul _ _).symm
  obtain ⟨P, hP⟩ : ∃ P, P = A * y1 := ⟨_, rfl⟩
  rw [← hP] at s1 hAy
  refine ⟨_, _, _, (t : Int), (A : Int), (P : Int), (R : Int), rfl, rfl, rfl, ?_, ?_, ?_, ?_, ?_, by omega, by omega, by omega, by omega, by omega, by omega, rfl, A, R, rfl, rfl, by rw [← hP]; exact s1, s2⟩
  · rw [hqY, wrap_mod, wrap_mod, wrap_mod, wrap_mod]; clear s2; omega
  · rw [hA, Int.natCast_ediv]
  · exact u64w _ (by omega)
  · rw [hAy]; exact u64w _ (by omega)
  · rw [show (t : Int) - (P : Int) = (R : Int) by omega]; exact u64w _ (by omega)
/-- What stands behind the two digits. -/
theorem last_facts {y1 y0 u3 u1 u0 Y S : Nat} {Y1 Y0 U1 U0 U3 YY q1 q0 T : Int}
    (E : Y1 = (y1 : Int) ∧ Y0 = (y0 : Int) ∧ U1 = (u1 : Int) ∧ U0 = (u0 : Int) ∧ U3 = (u3 : Int) ∧ YY = (Y : Int)) (hY : Y = y1 * 4294967296 + y0) (m1 : 2147483648 ≤ Y1) (m2 : Y1 < 4294967296) (m3 : Y0 < 4294967296)
    (hn1 : U1 < 4294967296) (hn0 : U0 < 4294967296) (hu3 : u3 < y1 * 4294967296 + y0) (hq : q1 = (((u3 * 4294967296 + u1) / (y1 * 4294967296 + y0) : Nat) : Int))
    (hT : T = (((u3 * 4294967296 + u1) % (y1 * 4294967296 + y0) : Nat) : Int))
    (hq0 : q0 = ((((u3 * 4294967296 + u1) % (y1 * 4294967296 + y0) * 4294967296 + u0) / (y1 * 4294967296 + y0) : Nat) : Int)) :
    ∃ B1 B2 B3 B4 B5 B6 : Int, IntKind.u64.wrap (q1 * 4294967296) = B1 ∧ IntKind.u64.wrap (B1 + q0) = B2 ∧ IntKind.u64.wrap (T * 4294967296) = B3 ∧ IntKind.u64.wrap (B3 + U0) = B4 ∧ IntKind.u64.wrap (q0 * YY) = B5 ∧ IntKind.u64.wrap (B4 - B5) = B6 ∧
      B2 = ((((u3 * 4294967296 + u1) * 4294967296 + u0) / (y1 * 4294967296 + y0) : Nat) : Int) ∧ B6 / 2 ^ S = ((((u3 * 4294967296 + u1) * 4294967296 + u0) % (y1 * 4294967296 + y0) / 2 ^ S : Nat) : Int) := by
  obtain ⟨rfl, rfl, rfl, rfl, rfl, rfl⟩ := E
  have hD : 0 < y1 * 4294967296 + y0 := by omega
  obtain ⟨w1, w2⟩ := whole_div (N := (u3 * 4294967296 + u1) * 4294967296 + u0) (U := u3 * 4294967296 + u1) (u0 := u0) hD rfl rfl rfl
  have et := Nat.mod_lt (u3 * 4294967296 + u1) hD
  have hs1 := digit_small hu3 (u1 := u1) (by omega)
  have hs2 := digit_small et (u1 := u0) (by omega)
  rw [w1, w2]
  obtain ⟨t, ht⟩ : ∃ t, t = (u3 * 4294967296 + u1) % (y1 * 4294967296 + y0) := ⟨_, rfl⟩
  rw [← ht] at et hs2 hT hq0 ⊢
  obtain ⟨d, hd⟩ : ∃ d, d = (u3 * 4294967296 + u1) / (y1 * 4294967296 + y0) := ⟨_, rfl⟩
  rw [← hd] at hq hs1 ⊢
  have e2 := Nat.div_add_mod (t * 4294967296 + u0) (y1 * 4294967296 + y0)
  have et2 := Nat.mod_lt (t * 4294967296 + u0) hD
  obtain ⟨f, hf⟩ : ∃ f, f = (t * 4294967296 + u0) / (y1 * 4294967296 + y0) := ⟨_, rfl⟩
  obtain ⟨g, hg⟩ : ∃ g, g = (t * 4294967296 + u0) % (y1 * 4294967296 + y0) := ⟨_, rfl⟩
  rw [← hf] at e2 hs2 hq0 ⊢
  rw [← hg] at e2 et2 ⊢
  rw [← hY] at e2 et2 et
  have hYb : Y < 18446744073709551616 := by omega
  obtain ⟨X, hX⟩ : ∃ X, X = Y * f := ⟨_, rfl⟩
  rw [← hX] at e2
  have hqY : q0 * (Y : Int) = (X : Int) := by rw [hq0, hX, Int.natCast_mul, Int.mul_comm]
  have h6 : (((T * 4294967296) % 18446744073709551616 + (u0 : Int)) % 18446744073709551616 - (X : Int) % 18446744073709551616) % 18446744073709551616 = (g : Int) := by omega
  refine ⟨_, _, _, _, _, _, rfl, rfl, rfl, rfl, rfl, rfl, ?_, ?_⟩
  · rw [wrap_mod, wrap_mod]; omega
  · rw [hqY, wrap_mod, wrap_mod, wrap_mod, wrap_mod, h6, Int.natCast_ediv, Int.natCast_pow]; rfl

theorem down_facts {y1 y0 u3 u1 : Nat} {Y1 Y0 U1 q r : Int} (e1 : Y1 = (y1 : Int)) (e0 : Y0 = (y0 : Int)) (i1 : U1 = (u1 : Int)) (hy0 : y0 < 4294967296) (hD : 0 < y1 * 4294967296 + y0)
    (hs : (u3 * 4294967296 + u1) / (y1 * 4294967296 + y0) < 4294967296) (hle : q ≤ 4294967297)
    (hH : ∃ Q R : Nat, q = (Q : Int) ∧ r = (R : Int) ∧ Q * y1 + R = u3 ∧ (u3 * 4294967296 + u1) / (y1 * 4294967296 + y0) ≤ Q) (hc : 4294967296 ≤ q ∨ 4294967296 * r + U1 < q * Y0) :
    1 ≤ q ∧ (∃ Q R : Nat, q - 1 = (Q : Int) ∧ r + Y1 = (R : Int) ∧ Q * y1 + R = u3 ∧ (u3 * 4294967296 + u1) / (y1 * 4294967296 + y0) ≤ Q) ∧ (4294967296 ≤ r + Y1 → q - 1 = (((u3 * 4294967296 + u1) / (y1 * 4294967296 + y0) : Nat) : Int)) := by
  obtain ⟨Q, R, rfl, rfl, hinv, hge⟩ := hH
  subst e1 e0 i1
  have hc' : 4294967296 ≤ Q ∨ 4294967296 * R + u1 < Q * y0 := by
    rw [← Int.natCast_mul] at hc
    rcases hc with hc | hc
    · exact .inl (by omega)
    · exact .inr (by omega)
  obtain ⟨d1, d2, d3⟩ := digit_down hinv hD hs hge hc'
  refine ⟨by omega, ⟨Q - 1, R + y1, by omega, by omega, d3, d2⟩, fun hb => ?_⟩
  have := digit_break d3 hD hy0 d2 (by omega) (by omega)
  rw [← this]; omega
theorem exit_facts {y1 y0 u3 u1 : Nat} {Y0 U1 q r : Int} (e0 : Y0 = (y0 : Int)) (i1 : U1 = (u1 : Int)) (hD : 0 < y1 * 4294967296 + y0)
    (hH : ∃ Q R : Nat, q = (Q : Int) ∧ r = (R : Int) ∧ Q * y1 + R = u3 ∧ (u3 * 4294967296 + u1) / (y1 * 4294967296 + y0) ≤ Q) (hc : ¬ (4294967296 ≤ q ∨ 4294967296 * r + U1 < q * Y0)) :
    q = (((u3 * 4294967296 + u1) / (y1 * 4294967296 + y0) : Nat) : Int) := by
  obtain ⟨Q, R, rfl, rfl, hinv, hge⟩ := hH
  subst e0 i1
  have hc' : ¬ 4294967296 * R + u1 < Q * y0 := by
    rw [← Int.natCast_mul] at hc
    intro h; exact hc (.inr (by omega))
  rw [← digit_done hinv hD hge hc']
theorem mul_bd {q Y : Int} (h1 : 0 ≤ q) (h2 : q < 4294967296) (h3 : 0 ≤ Y) (h4 : Y < 4294967296) : IntKind.u64.wrap (q * Y) = q * Y := by
  have a := Int.mul_nonneg h1 h3
  have b := Int.mul_le_mul (show q ≤ 4294967295 by omega) (show Y ≤ 4294967295 by omega) h3 (by omega)
  exact IntWalk.u64_in _ (by omega)

set_option maxRecDepth 100000 in
set_option maxHeartbeats 4000000 in
theorem div64_big (hi lo y : Nat) (w : World) (h0 : 0 < hi) (h : hi < y) (hy : y < 18446744073709551616) (hlo : lo < 18446744073709551616) :
    Calls Tryd.prog 152 #[.int .u64 hi, .int .u64 lo, .int .u64 y] w fun e w' => e = .returned (.tuple #[.int .u64 (((hi * 18446744073709551616 + lo) / y : Nat) : Int), .int .u64 (((hi * 18446744073709551616 + lo) % y : Nat) : Int)]) ∧ Below w.heap.size w w' := by
  obtain ⟨S, hS, hS63, hY1, hY2⟩ := lead_shift (by omega) hy
  have hlz := fun w => Tryd.bits_LeadingZeros64 (y : Int) w (by omega) (by omega)
  rw [hS] at hlz
  have HLZ := Lib.hid hlz
  have hwords := shift_words (hi := hi) (lo := lo) (s := S) (by omega)
  obtain ⟨hsd1, hsd2⟩ := shift_div (N := hi * 18446744073709551616 + lo) (y := y) (s := S) (by omega)
  rw [← hsd1, ← hsd2, hwords]
  have hH : hi * 2 ^ S < y * 2 ^ S := Nat.mul_lt_mul_of_pos_right h (Nat.pow_pos (by decide))
  have hHle : (hi + 1) * 2 ^ S ≤ y * 2 ^ S := Nat.mul_le_mul_right _ h
  have hL1 : lo / 2 ^ (64 - S) < 2 ^ S := by
    rw [Nat.div_lt_iff_lt_mul (Nat.pow_pos (by decide)), ← Nat.pow_add, show S + (64 - S) = 64 by omega]
    exact hlo
  rw [Nat.add_mul, Nat.one_mul] at hHle
  have hor : bits .or .u64 ((hi * 2 ^ S : Nat) : Int) ((lo / 2 ^ (64 - S) : Nat) : Int) = ((hi * 2 ^ S + lo / 2 ^ (64 - S) : Nat) : Int) := by
    rw [u64_or_nat _ _ (by omega) (by omega), Nat.mul_comm hi, Nat.two_pow_add_eq_or_of_lt hL1]
  have hu3 : hi * 2 ^ S + lo / 2 ^ (64 - S) < y * 2 ^ S := by omega
  obtain ⟨u10, hu10⟩ : ∃ u10, u10 = lo * 2 ^ S % 18446744073709551616 := ⟨_, rfl⟩
  have hu10b : u10 < 18446744073709551616 := by rw [hu10]; exact Nat.mod_lt _ (by decide)
  obtain ⟨Y, hYe⟩ : ∃ Y, Y = y * 2 ^ S := ⟨_, rfl⟩
  rw [← hYe] at hY1 hY2 hu3 ⊢
  rw [← hu10]
  have f1 : IntKind.u64.wrap ((y : Int) * 2 ^ S) = (Y : Int) := by
    have := u64w Y hY2
    rw [hYe, Int.natCast_mul, Int.natCast_pow] at this
    rw [hYe, Int.natCast_mul, Int.natCast_pow]; exact this
  have f2 : IntKind.u64.wrap ((hi : Int) * 2 ^ S) = ((hi * 2 ^ S : Nat) : Int) := by
    have := u64w (hi * 2 ^ S) (by omega)
    rw [Int.natCast_mul, Int.natCast_pow] at this ⊢; exact this
  have f3 : (lo : Int) / 2 ^ (64 - S) = ((lo / 2 ^ (64 - S) : Nat) : Int) := by rw [Int.natCast_ediv, Int.natCast_pow]; rfl
  have f4 : IntKind.u64.wrap ((lo : Int) * 2 ^ S) = (u10 : Int) := by
    have := Mul64.wrapM (lo * 2 ^ S)
    rw [Int.natCast_mul, Int.natCast_pow] at this
    rw [hu10]; exact this
  have f5 : ((64 : Int) - (S : Int)).toNat = 64 - S := by omega
  have f6 : IntKind.u64.wrap ((64 : Int) - (S : Int)) = 64 - (S : Int) := IntWalk.u64_in _ (by omega)
  generalize hi * 2 ^ S = H at *
  generalize lo / 2 ^ (64 - S) = L1 at *
  obtain ⟨u3, hu3e⟩ : ∃ u3, u3 = H + L1 := ⟨_, rfl⟩
  rw [← hu3e] at hor hu3 ⊢
  obtain ⟨y1, hy1⟩ : ∃ y1, y1 = Y / 4294967296 := ⟨_, rfl⟩
  obtain ⟨y0, hy0⟩ : ∃ y0, y0 = Y % 4294967296 := ⟨_, rfl⟩
  obtain ⟨u1, hu1⟩ : ∃ u1, u1 = u10 / 4294967296 := ⟨_, rfl⟩
  obtain ⟨u0, hu0⟩ : ∃ u0, u0 = u10 % 4294967296 := ⟨_, rfl⟩
  have g1 : (Y : Int) / 4294967296 = (y1 : Int) := by omega
  have g2 : bits .and .u64 (Y : Int) 4294967295 = (y0 : Int) := by rw [Mul64.maskN Y hY2, hy0]
  have g3 : (u10 : Int) / 4294967296 = (u1 : Int) := by omega
  have g4 : bits .and .u64 (u10 : Int) 4294967295 = (u0 : Int) := by rw [Mul64.maskN u10 hu10b, hu0]
  have hYy : Y = y1 * 4294967296 + y0 := by omega
  have hN : u3 * 18446744073709551616 + u10 = (u3 * 4294967296 + u1) * 4294967296 + u0 := by omega
  have b1 : 2147483648 ≤ y1 := by omega
  have b1' : y1 < 4294967296 := by omega
  have b0 : y0 < 4294967296 := by omega
  have c1 : u1 < 4294967296 := by omega
  have c0 : u0 < 4294967296 := by omega
  rw [hN]
  have hu3' : u3 < y1 * 4294967296 + y0 := by omega
  have HSMALL := Lib.hid (digit_small hu3' c1)
  have HSTART := Lib.hid (digit_start b1 b0 hu3' c1)
  have HYY := Lib.hid hYy
  rw [hYy]
  obtain ⟨RQ, hRQ⟩ : ∃ z, z = ((u3 * 4294967296 + u1) * 4294967296 + u0) / (y1 * 4294967296 + y0) := ⟨_, rfl⟩
  obtain ⟨RR, hRR⟩ : ∃ z, z = ((u3 * 4294967296 + u1) * 4294967296 + u0) % (y1 * 4294967296 + y0) / 2 ^ S := ⟨_, rfl⟩
  rw [← hRQ, ← hRR]
  have HRES := Lib.hid (⟨hRQ, hRR⟩ : RQ = ((u3 * 4294967296 + u1) * 4294967296 + u0) / (y1 * 4294967296 + y0) ∧ RR = ((u3 * 4294967296 + u1) * 4294967296 + u0) % (y1 * 4294967296 + y0) / 2 ^ S)
  clear hRQ hRR
  have hu3w : u3 < 18446744073709551616 := by omega
  have k1 : IntKind.u64.wrap ((u3 : Int) / (y1 : Int)) = ((u3 / y1 : Nat) : Int) := by rw [← Int.natCast_ediv]; exact u64w _ (Nat.lt_of_le_of_lt (Nat.div_le_self _ _) hu3w)
  have k1' : (u3 : Int) / (y1 : Int) = ((u3 / y1 : Nat) : Int) := (Int.natCast_ediv _ _).symm
  have k2 : IntKind.u64.wrap (((u3 / y1 : Nat) : Int) * (y1 : Int)) = ((u3 / y1 * y1 : Nat) : Int) := by
    rw [← Int.natCast_mul]; exact u64w _ (Nat.lt_of_le_of_lt (Nat.div_mul_le_self _ _) hu3w)
  have k3 : IntKind.u64.wrap ((u3 : Int) - ((u3 / y1 * y1 : Nat) : Int)) = ((u3 % y1 : Nat) : Int) := by
    have e1 := HSTART.out.1
    generalize u3 / y1 * y1 = A at *
    generalize u3 % y1 = B at *
    rw [show (u3 : Int) - (A : Int) = (B : Int) by omega]; exact u64w _ (by omega)
  have k3' : IntKind.u64.wrap ((u3 : Int) - ((u3 / y1 : Nat) : Int) * (y1 : Int)) = ((u3 % y1 : Nat) : Int) := by rw [← Int.natCast_mul]; exact k3
  have hy1p : ¬ y1 = 0 := by omega
  have hhi0 : ¬ hi = 0 := by omega
  have hyhi : ¬ y ≤ hi := by omega
  have hy00 : ¬ y = 0 := by omega
  clear hsd1 hsd2 hwords hH hHle hL1 hu10 hYe hu3e hy0 hy1 hu1 hu0 hN hlz hS hYy
  have kq : IntKind.u64.wrap ((u3 / y1 : Nat) : Int) = ((u3 / y1 : Nat) : Int) := u64w _ (Nat.lt_of_le_of_lt (Nat.div_le_self _ _) hu3w)
  generalize hq0 : u3 / y1 = q0 at *
  generalize hr0 : u3 % y1 = r0 at *
  go_enter Tryd.func152, Tryd.ntmps152
  go_wp2_with fail
  refine (HLZ.out _).mono ?_
  rintro _ _ ⟨rfl, rfl⟩
  go_wp2_with fail
  clear k1 k1' k2 k3 k3' kq f1 f2 f3 f4 f5 f6 hor g1 g2 g3 g4 hq0 hr0 hy1p hhi0 hyhi hy00 hY1 hu3
  obtain ⟨Y1, e1⟩ : ∃ z, z = (y1 : Int) := ⟨_, rfl⟩
  obtain ⟨Y0, e0⟩ : ∃ z, z = (y0 : Int) := ⟨_, rfl⟩
  obtain ⟨U1, i1⟩ : ∃ z, z = (u1 : Int) := ⟨_, rfl⟩
  obtain ⟨U0, i0⟩ : ∃ z, z = (u0 : Int) := ⟨_, rfl⟩
  obtain ⟨U3, i3⟩ : ∃ z, z = (u3 : Int) := ⟨_, rfl⟩
  obtain ⟨YY, iy⟩ : ∃ z, z = (Y : Int) := ⟨_, rfl⟩
  rw [← e1, ← e0, ← i1, ← i0, ← i3, ← iy]
  have m1 : 2147483648 ≤ Y1 ∧ Y1 < 4294967296 := by omega
  have m0 : 0 ≤ Y0 ∧ Y0 < 4294967296 := by omega
  have n1 : 0 ≤ U1 ∧ U1 < 4294967296 := by omega
  have n0 : 0 ≤ U0 ∧ U0 < 4294967296 := by omega
  have n3 : 0 ≤ U3 ∧ U3 < 18446744073709551616 := by omega
  have ny : 0 ≤ YY ∧ YY < 18446744073709551616 := by omega
  obtain ⟨m11, m12⟩ := m1
  obtain ⟨m01, m02⟩ := m0
  obtain ⟨n11, n12⟩ := n1
  obtain ⟨n01, n02⟩ := n0
  obtain ⟨n31, n32⟩ := n3
  obtain ⟨ny1, ny2⟩ := ny
  have E := Lib.hid (⟨e1, e0, i1, i0, i3, iy⟩ : Y1 = (y1 : Int) ∧ Y0 = (y0 : Int) ∧ U1 = (u1 : Int) ∧ U0 = (u0 : Int) ∧ U3 = (u3 : Int) ∧ YY = (Y : Int))
  have B := Lib.hid (⟨b0, by omega, hu3'⟩ : y0 < 4294967296 ∧ 0 < y1 * 4294967296 + y0 ∧ u3 < y1 * 4294967296 + y0)
  clear e1 e0 i1 i0 i3 iy b0 b1 b1' c1 c0 hu3' hu3w hu10b hY2 h0 h hy hlo
  go_loop [15, 16] (fun a b => ∃ q r : Int, a = .int .u64 q ∧ b = .int .u64 r ∧ 0 ≤ q ∧ q ≤ 4294967297 ∧ 0 ≤ r ∧ r < 4294967296 ∧ Hid (∃ Q R : Nat, q = (Q : Int) ∧ r = (R : Int) ∧ Q * y1 + R = u3 ∧ (u3 * 4294967296 + u1) / (y1 * 4294967296 + y0) ≤ Q)) (fun a _ => (intOf a).toNat)
  case atStart =>
    obtain ⟨s1, s2, s3, s4⟩ := HSTART.out
    have := E.out.1
    exact ⟨q0, r0, rfl, rfl, by omega, by omega, by omega, by omega, Lib.hid ⟨q0, r0, rfl, rfl, s1, s2⟩⟩
  case round =>
    obtain ⟨q, r, rfl, rfl, hq1, hq2, hr1, hr2, hH⟩ := hrel
    clear HSTART
    by_cases hc : 4294967296 ≤ q ∨ 4294967296 * r + U1 < q * Y0
    · have hdn := Lib.hid (down_facts E.out.1 E.out.2.1 E.out.2.2.1 B.out.1 B.out.2.1 HSMALL.out (by omega) hH.out hc)
      have hq3 : 1 ≤ q := hdn.out.1
      have w1 : IntKind.u64.wrap (q - 1) = q - 1 := IntWalk.u64_in _ (by omega)
      have w2 : IntKind.u64.wrap (r + Y1) = r + Y1 := IntWalk.u64_in _ (by omega)
      clear hH
      by_cases hqb : 4294967296 ≤ q
      · have x1 : decide ((4294967296 : Int) ≤ q) = true := decide_eq_true hqb
        clear hc
        by_cases hb : 4294967296 ≤ r + Y1
        · have x2 : decide ((4294967296 : Int) ≤ r + Y1) = true := decide_eq_true hb
          have HQ := Lib.hid (hdn.out.2.2 hb)
          clear hdn
          obtain ⟨A1, A2, A3, T, Q0, P0, R0, v1, v2, v3, v4, v5, v6, v7, v8, t1, t2, t3, t4, t5, t6, tT, tH⟩ := second_facts E.out HYY.out m11 m12 m02 n12 n02 HQ.out
          have HQ1 := HQ
          have HT := Lib.hid tT
          have HH := Lib.hid tH
          have HSM := Lib.hid (digit_small (Nat.mod_lt (u3 * 4294967296 + u1) B.out.2.1) (u1 := u0) (by have := E.out.2.2.2.1; omega))
          clear HQ tT tH
          go_wp2_with fail
          clear v1 v2 v3 v4 v5 v6 v7 v8
          go_loop [18, 16] (fun a b => ∃ q r : Int, a = .int .u64 q ∧ b = .int .u64 r ∧ 0 ≤ q ∧ q ≤ 4294967297 ∧ 0 ≤ r ∧ r < 4294967296 ∧ Hid (∃ Q R : Nat, q = (Q : Int) ∧ r = (R : Int) ∧ Q * y1 + R = (u3 * 4294967296 + u1) % (y1 * 4294967296 + y0) ∧ ((u3 * 4294967296 + u1) % (y1 * 4294967296 + y0) * 4294967296 + u0) / (y1 * 4294967296 + y0) ≤ Q)) (fun a _ => (intOf a).toNat)
          case atStart => exact ⟨Q0, R0, rfl, rfl, t3, t4, t5, t6, HH⟩
          case round =>
            obtain ⟨f, g, rfl, rfl, hf1, hf2, hg1, hg2, hG⟩ := hrel
            clear HH
            by_cases hc : 4294967296 ≤ f ∨ 4294967296 * g + U0 < f * Y0
            · have hdn := Lib.hid (down_facts E.out.1 E.out.2.1 E.out.2.2.2.1 B.out.1 B.out.2.1 HSM.out (by omega) hG.out hc)
              have hq3 : 1 ≤ f := hdn.out.1
              have w1 : IntKind.u64.wrap (f - 1) = f - 1 := IntWalk.u64_in _ (by omega)
              have w2 : IntKind.u64.wrap (g + Y1) = g + Y1 := IntWalk.u64_in _ (by omega)
              clear hG
              by_cases hqb : 4294967296 ≤ f
              · have x1 : decide ((4294967296 : Int) ≤ f) = true := decide_eq_true hqb
                clear hc
                by_cases hb : 4294967296 ≤ g + Y1
                · have x2 : decide ((4294967296 : Int) ≤ g + Y1) = true := decide_eq_true hb
                  have HQ := Lib.hid (hdn.out.2.2 hb)
                  clear hdn
                  obtain ⟨B1, B2, B3, B4, B5, B6, z1, z2, z3, z4, z5, z6, Z1, Z2⟩ := last_facts (S := S) E.out HYY.out m11 m12 m02 n12 n02 B.out.2.2 HQ1.out HT.out HQ.out
                  have FZ := Lib.hid (⟨Z1, Z2⟩ : _ ∧ _)
                  clear Z1 Z2
                  go_wp2_with fail
                  go_ret2
                  exact ⟨by rw [HRES.out.1, HRES.out.2, ← FZ.out.1, ← FZ.out.2]; rfl, Below.refl _ _⟩
                · have x2 : decide ((4294967296 : Int) ≤ g + Y1) = false := decide_eq_false hb
                  go_wp2_with fail
                  go_round
                  case rel => exact ⟨f - 1, g + Y1, rfl, rfl, by omega, by omega, by omega, by omega, Lib.hid hdn.out.2.1⟩
                  case measure => simp [intOf]; omega
              · have x1 : decide ((4294967296 : Int) ≤ f) = false := decide_eq_false hqb
                have hc2 : 4294967296 * g + U0 < f * Y0 := hc.resolve_left hqb
                have wm : IntKind.u64.wrap (f * Y0) = f * Y0 := mul_bd (by omega) (by omega) m01 m02
                have x3 : decide (4294967296 * g + U0 < f * Y0) = true := decide_eq_true hc2
                clear hc
                by_cases hb : 4294967296 ≤ g + Y1
                · have x2 : decide ((4294967296 : Int) ≤ g + Y1) = true := decide_eq_true hb
                  have HQ := Lib.hid (hdn.out.2.2 hb)
                  clear hdn
                  obtain ⟨B1, B2, B3, B4, B5, B6, z1, z2, z3, z4, z5, z6, Z1, Z2⟩ := last_facts (S := S) E.out HYY.out m11 m12 m02 n12 n02 B.out.2.2 HQ1.out HT.out HQ.out
                  have FZ := Lib.hid (⟨Z1, Z2⟩ : _ ∧ _)
                  clear Z1 Z2
                  go_wp2_with fail
                  go_ret2
                  exact ⟨by rw [HRES.out.1, HRES.out.2, ← FZ.out.1, ← FZ.out.2]; rfl, Below.refl _ _⟩
                · have x2 : decide ((4294967296 : Int) ≤ g + Y1) = false := decide_eq_false hb
                  go_wp2_with fail
                  go_round
                  case rel => exact ⟨f - 1, g + Y1, rfl, rfl, by omega, by omega, by omega, by omega, Lib.hid hdn.out.2.1⟩
                  case measure => simp [intOf]; omega
            · have HQ := Lib.hid (exit_facts E.out.2.1 E.out.2.2.2.1 B.out.2.1 hG.out hc)
              have hqb : ¬ 4294967296 ≤ f := fun h => hc (.inl h)
              have x1 : decide ((4294967296 : Int) ≤ f) = false := decide_eq_false hqb
              have hc2 : ¬ 4294967296 * g + U0 < f * Y0 := fun h => hc (.inr h)
              have wm : IntKind.u64.wrap (f * Y0) = f * Y0 := mul_bd (by omega) (by omega) m01 m02
              have x3 : decide (4294967296 * g + U0 < f * Y0) = false := decide_eq_false hc2
              clear hc hG
              obtain ⟨B1, B2, B3, B4, B5, B6, z1, z2, z3, z4, z5, z6, Z1, Z2⟩ := last_facts (S := S) E.out HYY.out m11 m12 m02 n12 n02 B.out.2.2 HQ1.out HT.out HQ.out
              have FZ := Lib.hid (⟨Z1, Z2⟩ : _ ∧ _)
              clear Z1 Z2
              go_wp2_with fail
              go_ret2
              exact ⟨by rw [HRES.out.1, HRES.out.2, ← FZ.out.1, ← FZ.out.2]; rfl, Below.refl _ _⟩
        · have x2 : decide ((4294967296 : Int) ≤ r + Y1) = false := decide_eq_false hb
          go_wp2_with fail
          go_round
          case rel => exact ⟨q - 1, r + Y1, rfl, rfl, by omega, by omega, by omega, by omega, Lib.hid hdn.out.2.1⟩
          case measure => simp [intOf]; omega
      · have x1 : decide ((4294967296 : Int) ≤ q) = false := decide_eq_false hqb
        have hc2 : 4294967296 * r + U1 < q * Y0 := hc.resolve_left hqb
        have wm : IntKind.u64.wrap (q * Y0) = q * Y0 := mul_bd (by omega) (by omega) m01 m02
        have x3 : decide (4294967296 * r + U1 < q * Y0) = true := decide_eq_true hc2
        clear hc
        by_cases hb : 4294967296 ≤ r + Y1
        · have x2 : decide ((4294967296 : Int) ≤ r + Y1) = true := decide_eq_true hb
          have HQ := Lib.hid (hdn.out.2.2 hb)
          clear hdn
          obtain ⟨A1, A2, A3, T, Q0, P0, R0, v1, v2, v3, v4, v5, v6, v7, v8, t1, t2, t3, t4, t5, t6, tT, tH⟩ := second_facts E.out HYY.out m11 m12 m02 n12 n02 HQ.out
          have HQ1 := HQ
          have HT := Lib.hid tT
          have HH := Lib.hid tH
          have HSM := Lib.hid (digit_small (Nat.mod_lt (u3 * 4294967296 + u1) B.out.2.1) (u1 := u0) (by have := E.out.2.2.2.1; omega))
          clear HQ tT tH
          go_wp2_with fail
          clear v1 v2 v3 v4 v5 v6 v7 v8
          go_loop [18, 16] (fun a b => ∃ q r : Int, a = .int .u64 q ∧ b = .int .u64 r ∧ 0 ≤ q ∧ q ≤ 4294967297 ∧ 0 ≤ r ∧ r < 4294967296 ∧ Hid (∃ Q R : Nat, q = (Q : Int) ∧ r = (R : Int) ∧ Q * y1 + R = (u3 * 4294967296 + u1) % (y1 * 4294967296 + y0) ∧ ((u3 * 4294967296 + u1) % (y1 * 4294967296 + y0) * 4294967296 + u0) / (y1 * 4294967296 + y0) ≤ Q)) (fun a _ => (intOf a).toNat)
          case atStart => exact ⟨Q0, R0, rfl, rfl, t3, t4, t5, t6, HH⟩
          case round =>
            obtain ⟨f, g, rfl, rfl, hf1, hf2, hg1, hg2, hG⟩ := hrel
            clear HH
            by_cases hc : 4294967296 ≤ f ∨ 4294967296 * g + U0 < f * Y0
            · have hdn := Lib.hid (down_facts E.out.1 E.out.2.1 E.out.2.2.2.1 B.out.1 B.out.2.1 HSM.out (by omega) hG.out hc)
              have hq3 : 1 ≤ f := hdn.out.1
              have w1 : IntKind.u64.wrap (f - 1) = f - 1 := IntWalk.u64_in _ (by omega)
              have w2 : IntKind.u64.wrap (g + Y1) = g + Y1 := IntWalk.u64_in _ (by omega)
              clear hG
              by_cases hqb : 4294967296 ≤ f
              · have x1 : decide ((4294967296 : Int) ≤ f) = true := decide_eq_true hqb
                clear hc
                by_cases hb : 4294967296 ≤ g + Y1
                · have x2 : decide ((4294967296 : Int) ≤ g + Y1) = true := decide_eq_true hb
                  have HQ := Lib.hid (hdn.out.2.2 hb)
                  clear hdn
                  obtain ⟨B1, B2, B3, B4, B5, B6, z1, z2, z3, z4, z5, z6, Z1, Z2⟩ := last_facts (S := S) E.out HYY.out m11 m12 m02 n12 n02 B.out.2.2 HQ1.out HT.out HQ.out
                  have FZ := Lib.hid (⟨Z1, Z2⟩ : _ ∧ _)
                  clear Z1 Z2
                  go_wp2_with fail
                  go_ret2
                  exact ⟨by rw [HRES.out.1, HRES.out.2, ← FZ.out.1, ← FZ.out.2]; rfl, Below.refl _ _⟩
                · have x2 : decide ((4294967296 : Int) ≤ g + Y1) = false := decide_eq_false hb
                  go_wp2_with fail
                  go_round
                  case rel => exact ⟨f - 1, g + Y1, rfl, rfl, by omega, by omega, by omega, by omega, Lib.hid hdn.out.2.1⟩
                  case measure => simp [intOf]; omega
              · have x1 : decide ((4294967296 : Int) ≤ f) = false := decide_eq_false hqb
                have hc2 : 4294967296 * g + U0 < f * Y0 := hc.resolve_left hqb
                have wm : IntKind.u64.wrap (f * Y0) = f * Y0 := mul_bd (by omega) (by omega) m01 m02
                have x3 : decide (4294967296 * g + U0 < f * Y0) = true := decide_eq_true hc2
                clear hc
                by_cases hb : 4294967296 ≤ g + Y1
                · have x2 : decide ((4294967296 : Int) ≤ g + Y1) = true := decide_eq_true hb
                  have HQ := Lib.hid (hdn.out.2.2 hb)
                  clear hdn
                  obtain ⟨B1, B2, B3, B4, B5, B6, z1, z2, z3, z4, z5, z6, Z1, Z2⟩ := last_facts (S := S) E.out HYY.out m11 m12 m02 n12 n02 B.out.2.2 HQ1.out HT.out HQ.out
                  have FZ := Lib.hid (⟨Z1, Z2⟩ : _ ∧ _)
                  clear Z1 Z2
                  go_wp2_with fail
                  go_ret2
                  exact ⟨by rw [HRES.out.1, HRES.out.2, ← FZ.out.1, ← FZ.out.2]; rfl, Below.refl _ _⟩
                · have x2 : decide ((4294967296 : Int) ≤ g + Y1) = false := decide_eq_false hb
                  go_wp2_with fail
                  go_round
                  case rel => exact ⟨f - 1, g + Y1, rfl, rfl, by omega, by omega, by omega, by omega, Lib.hid hdn.out.2.1⟩
                  case measure => simp [intOf]; omega
            · have HQ := Lib.hid (exit_facts E.out.2.1 E.out.2.2.2.1 B.out.2.1 hG.out hc)
              have hqb : ¬ 4294967296 ≤ f := fun h => hc (.inl h)
              have x1 : decide ((4294967296 : Int) ≤ f) = false := decide_eq_false hqb
              have hc2 : ¬ 4294967296 * g + U0 < f * Y0 := fun h => hc (.inr h)
              have wm : IntKind.u64.wrap (f * Y0) = f * Y0 := mul_bd (by omega) (by omega) m01 m02
              have x3 : decide (4294967296 * g + U0 < f * Y0) = false := decide_eq_false hc2
              clear hc hG
              obtain ⟨B1, B2, B3, B4, B5, B6, z1, z2, z3, z4, z5, z6, Z1, Z2⟩ := last_facts (S := S) E.out HYY.out m11 m12 m02 n12 n02 B.out.2.2 HQ1.out HT.out HQ.out
              have FZ := Lib.hid (⟨Z1, Z2⟩ : _ ∧ _)
              clear Z1 Z2
              go_wp2_with fail
              go_ret2
              exact ⟨by rw [HRES.out.1, HRES.out.2, ← FZ.out.1, ← FZ.out.2]; rfl, Below.refl _ _⟩
        · have x2 : decide ((4294967296 : Int) ≤ r + Y1) = false := decide_eq_false hb
          go_wp2_with fail
          go_round
          case rel => exact ⟨q - 1, r + Y1, rfl, rfl, by omega, by omega, by omega, by omega, Lib.hid hdn.out.2.1⟩
          case measure => simp [intOf]; omega
    · have HQ := Lib.hid (exit_facts E.out.2.1 E.out.2.2.1 B.out.2.1 hH.out hc)
      have hqb : ¬ 4294967296 ≤ q := fun h => hc (.inl h)
      have x1 : decide ((4294967296 : Int) ≤ q) = false := decide_eq_false hqb
      have hc2 : ¬ 4294967296 * r + U1 < q * Y0 := fun h => hc (.inr h)
      have wm : IntKind.u64.wrap (q * Y0) = q * Y0 := mul_bd (by omega) (by omega) m01 m02
      have x3 : decide (4294967296 * r + U1 < q * Y0) = false := decide_eq_false hc2
      clear hc hH
      obtain ⟨A1, A2, A3, T, Q0, P0, R0, v1, v2, v3, v4, v5, v6, v7, v8, t1, t2, t3, t4, t5, t6, tT, tH⟩ := second_facts E.out HYY.out m11 m12 m02 n12 n02 HQ.out
      have HQ1 := HQ
      have HT := Lib.hid tT
      have HH := Lib.hid tH
      have HSM := Lib.hid (digit_small (Nat.mod_lt (u3 * 4294967296 + u1) B.out.2.1) (u1 := u0) (by have := E.out.2.2.2.1; omega))
      clear HQ tT tH
      go_wp2_with fail
      clear v1 v2 v3 v4 v5 v6 v7 v8
      go_loop [18, 16] (fun a b => ∃ q r : Int, a = .int .u64 q ∧ b = .int .u64 r ∧ 0 ≤ q ∧ q ≤ 4294967297 ∧ 0 ≤ r ∧ r < 4294967296 ∧ Hid (∃ Q R : Nat, q = (Q : Int) ∧ r = (R : Int) ∧ Q * y1 + R = (u3 * 4294967296 + u1) % (y1 * 4294967296 + y0) ∧ ((u3 * 4294967296 + u1) % (y1 * 4294967296 + y0) * 4294967296 + u0) / (y1 * 4294967296 + y0) ≤ Q)) (fun a _ => (intOf a).toNat)
      case atStart => exact ⟨Q0, R0, rfl, rfl, t3, t4, t5, t6, HH⟩
      case round =>
        obtain ⟨f, g, rfl, rfl, hf1, hf2, hg1, hg2, hG⟩ := hrel
        clear HH
        by_cases hc : 4294967296 ≤ f ∨ 4294967296 * g + U0 < f * Y0
        · have hdn := Lib.hid (down_facts E.out.1 E.out.2.1 E.out.2.2.2.1 B.out.1 B.out.2.1 HSM.out (by omega) hG.out hc)
          have hq3 : 1 ≤ f := hdn.out.1
          have w1 : IntKind.u64.wrap (f - 1) = f - 1 := IntWalk.u64_in _ (by omega)
          have w2 : IntKind.u64.wrap (g + Y1) = g + Y1 := IntWalk.u64_in _ (by omega)
          clear hG
          by_cases hqb : 4294967296 ≤ f
          · have x1 : decide ((4294967296 : Int) ≤ f) = true := decide_eq_true hqb
            clear hc
            by_cases hb : 4294967296 ≤ g + Y1
            · have x2 : decide ((4294967296 : Int) ≤ g + Y1) = true := decide_eq_true hb
              have HQ := Lib.hid (hdn.out.2.2 hb)
              clear hdn
              obtain ⟨B1, B2, B3, B4, B5, B6, z1, z2, z3, z4, z5, z6, Z1, Z2⟩ := last_facts (S := S) E.out HYY.out m11 m12 m02 n12 n02 B.out.2.2 HQ1.out HT.out HQ.out
              have FZ := Lib.hid (⟨Z1, Z2⟩ : _ ∧ _)
              clear Z1 Z2
              go_wp2_with fail
              go_ret2
              exact ⟨by rw [HRES.out.1, HRES.out.2, ← FZ.out.1, ← FZ.out.2]; rfl, Below.refl _ _⟩
            · have x2 : decide ((4294967296 : Int) ≤ g + Y1) = false := decide_eq_false hb
              go_wp2_with fail
              go_round
              case rel => exact ⟨f - 1, g + Y1, rfl, rfl, by omega, by omega, by omega, by omega, Lib.hid hdn.out.2.1⟩
              case measure => simp [intOf]; omega
          · have x1 : decide ((4294967296 : Int) ≤ f) = false := decide_eq_false hqb
            have hc2 : 4294967296 * g + U0 < f * Y0 := hc.resolve_left hqb
            have wm : IntKind.u64.wrap (f * Y0) = f * Y0 := mul_bd (by omega) (by omega) m01 m02
            have x3 : decide (4294967296 * g + U0 < f * Y0) = true := decide_eq_true hc2
            clear hc
            by_cases hb : 4294967296 ≤ g + Y1
            · have x2 : decide ((4294967296 : Int) ≤ g + Y1) = true := decide_eq_true hb
              have HQ := Lib.hid (hdn.out.2.2 hb)
              clear hdn
              obtain ⟨B1, B2, B3, B4, B5, B6, z1, z2, z3, z4, z5, z6, Z1, Z2⟩ := last_facts (S := S) E.out HYY.out m11 m12 m02 n12 n02 B.out.2.2 HQ1.out HT.out HQ.out
              have FZ := Lib.hid (⟨Z1, Z2⟩ : _ ∧ _)
              clear Z1 Z2
              go_wp2_with fail
              go_ret2
              exact ⟨by rw [HRES.out.1, HRES.out.2, ← FZ.out.1, ← FZ.out.2]; rfl, Below.refl _ _⟩
            · have x2 : decide ((4294967296 : Int) ≤ g + Y1) = false := decide_eq_false hb
              go_wp2_with fail
              go_round
              case rel => exact ⟨f - 1, g + Y1, rfl, rfl, by omega, by omega, by omega, by omega, Lib.hid hdn.out.2.1⟩
              case measure => simp [intOf]; omega
        · have HQ := Lib.hid (exit_facts E.out.2.1 E.out.2.2.2.1 B.out.2.1 hG.out hc)
          have hqb : ¬ 4294967296 ≤ f := fun h => hc (.inl h)
          have x1 : decide ((4294967296 : Int) ≤ f) = false := decide_eq_false hqb
          have hc2 : ¬ 4294967296 * g + U0 < f * Y0 := fun h => hc (.inr h)
          have wm : IntKind.u64.wrap (f * Y0) = f * Y0 := mul_bd (by omega) (by omega) m01 m02
          have x3 : decide (4294967296 * g + U0 < f * Y0) = false := decide_eq_false hc2
          clear hc hG
          obtain ⟨B1, B2, B3, B4, B5, B6, z1, z2, z3, z4, z5, z6, Z1, Z2⟩ := last_facts (S := S) E.out HYY.out m11 m12 m02 n12 n02 B.out.2.2 HQ1.out HT.out HQ.out
          have FZ := Lib.hid (⟨Z1, Z2⟩ : _ ∧ _)
          clear Z1 Z2
          go_wp2_with fail
          go_ret2
          exact ⟨by rw [HRES.out.1, HRES.out.2, ← FZ.out.1, ← FZ.out.2]; rfl, Below.refl _ _⟩

set_option maxHeartbeats 1000000 in
theorem div64_c (hi lo y : Nat) (w : World) (h : hi < y) (hy : y < 18446744073709551616) (hlo : lo < 18446744073709551616) :
    Calls Tryd.prog 152 #[.int .u64 hi, .int .u64 lo, .int .u64 y] w fun e w' => e = .returned (.tuple #[.int .u64 (((hi * 18446744073709551616 + lo) / y : Nat) : Int), .int .u64 (((hi * 18446744073709551616 + lo) % y : Nat) : Int)]) ∧ Below w.heap.size w w' := by
  by_cases h0 : hi = 0
  · subst h0
    rw [Nat.zero_mul, Nat.zero_add]
    have k1 : IntKind.u64.wrap ((lo : Int) / (y : Int)) = ((lo / y : Nat) : Int) := by rw [← Int.natCast_ediv]; exact u64w _ (Nat.lt_of_le_of_lt (Nat.div_le_self _ _) hlo)
    have k2 : (lo : Int) / (y : Int) = ((lo / y : Nat) : Int) := (Int.natCast_ediv _ _).symm
    have k3 : IntKind.u64.wrap ((lo / y : Nat) : Int) = ((lo / y : Nat) : Int) := u64w _ (Nat.lt_of_le_of_lt (Nat.div_le_self _ _) hlo)
    have k4 : (lo : Int) % (y : Int) = ((lo % y : Nat) : Int) := (Int.natCast_emod _ _).symm
    have hy0 : ¬ y = 0 := by omega
    have hy1 : ¬ (y : Int) = 0 := by omega
    have hy2 : ¬ y ≤ 0 := by omega
    generalize lo / y = A at *
    generalize lo % y = B at *
    have K4 := Lib.hid k4
    clear k4
    go_enter Tryd.func152, Tryd.ntmps152
    go_wp2_with fail
    go_quiet (fail)
    go_wp2_with fail
    go_ret2
    exact ⟨by rw [← K4.out]; rfl, ⟨rfl, rfl, rfl, Nat.le_refl _, fun _ _ => rfl⟩⟩
  · exact div64_big hi lo y w (by omega) h hy hlo
end Go.Proofs.YtilmhemcpgiikaaDoor
/- FltNew: both strip the twos. -/
namespace Go.Proofs.YtilmhemcpgiikaaDoor
open Go.Deep Go.ChangeShapes Go.WideShapes Go.ChangeAt Go.RowKit
open Go.ChangeMaps (open_string shut_string)

/-- The twos go out of m into e. -/
def stripF : Nat → Int → Int → Int × Int
  | 0, m, e => (m, e)
  | f + 1, m, e => if m % 2 = 0 then stripF f (m / 2) (e + 1) else (m, e)
theorem stripF_odd {m : Int} (h : ¬ m % 2 = 0) (e : Int) : ∀ f, stripF f m e = (m, e)
  | 0 => rfl
  | _ + 1 => if_neg h
theorem stripF_even {m : Int} (h : m % 2 = 0) (e : Int) (f : Nat) : stripF (f + 1) m e = stripF f (m / 2) (e + 1) := if_pos h
theorem wrap_mid64 {n : Int} (h : -9223372036854775808 ≤ n) (h2 : n ≤ 9223372036854775807) : IntKind.i64.wrap n = n := by
  unfold IntKind.wrap; simp [IntKind.bits, IntKind.signed]; omega
theorem pow60 : (2 : Nat) ^ 60 = 1152921504606846976 := by decide
def newF (m e : Int) : Int × Int × Bool :=
  if inB m (-1000000000000000) 1000000000000000 = true ∧ inB e (-100) 100 = true then
    if m = 0 then (0, 0, true) else
      if fltOkF (stripF 60 m e).1 (stripF 60 m e).2 = true then ((stripF 60 m e).1, (stripF 60 m e).2, true) else (0, 0, false)
  else (0, 0, false)


set_option maxHeartbeats 2000000 in
theorem newF_impl (m e : Int) (w : World) : Calls Tryd.prog 42 #[.int .i64 m, .int .i64 e] w fun en w' => en = .returned (.tuple #[.agg #[.int .i64 (newF m e).1, .int .i64 (newF m e).2.1], .bool (newF m e).2.2]) ∧ Below w.heap.size w w' := by
  cases hm : inB m (-1000000000000000) 1000000000000000 with
  | false =>
    have hn : newF m e = (0, 0, false) := if_neg (by rw [hm]; simp)
    rw [hn]; clear hn
    go_enter Tryd.func42, Tryd.ntmps42
    go_wp2_with (go_at_call 86; refine (within_c _ _ _ _).mono ?_; rintro e w' ⟨rfl, rfl⟩)
    exact bodyPost_ret (v := .tuple #[.agg #[.int .i64 0, .int .i64 0], .bool false]) (by simp [results, Tryd.results42, go_sem]) rfl ⟨rfl, below1 _ _⟩
  | true =>
  cases he : inB e (-100) 100 with
  | false =>
    have hn : newF m e = (0, 0, false) := if_neg (by rw [he]; simp)
    rw [hn]; clear hn
    go_enter Tryd.func42, Tryd.ntmps42
    go_wp2_with (go_at_call 86; refine (within_c _ _ _ _).mono ?_; rintro e w' ⟨rfl, rfl⟩)
    exact bodyPost_ret (v := .tuple #[.agg #[.int .i64 0, .int .i64 0], .bool false]) (by simp [results, Tryd.results42, go_sem]) rfl ⟨rfl, below1 _ _⟩
  | true =>
  by_cases h0 : m = 0
  · subst h0
    have hn : newF 0 e = (0, 0, true) := by unfold newF; rw [if_pos ⟨hm, he⟩, if_pos rfl]
    rw [hn]; clear hn
    go_enter Tryd.func42, Tryd.ntmps42
    go_wp2_with (go_at_call 86; refine (within_c _ _ _ _).mono ?_; rintro e w' ⟨rfl, rfl⟩)
    exact bodyPost_ret (v := .tuple #[.agg #[.int .i64 0, .int .i64 0], .bool true]) (by simp [results, Tryd.results42, go_sem]) rfl ⟨rfl, below1 _ _⟩
  · have hz : (m == 0) = false := by simpa using h0
    obtain ⟨q1, q2⟩ := inB_true.1 hm
    obtain ⟨q3, q4⟩ := inB_true.1 he
    go_enter Tryd.func42, Tryd.ntmps42
    go_wp2_with (go_at_call 86; refine (within_c _ _ _ _).mono ?_; rintro e w' ⟨rfl, rfl⟩)
    go_loop [0, 1] (fun a b => ∃ (f : Nat) (M E : Int), f ≤ 60 ∧ a = .int .i64 M ∧ b = .int .i64 E ∧ M ≠ 0 ∧ M.natAbs < 2 ^ f ∧ -1000000000000000 ≤ M ∧ M ≤ 1000000000000000 ∧ -100 ≤ E ∧ E ≤ 160 - f ∧ stripF f M E = stripF 60 m e) (fun a _ => (intOf a).natAbs)
    case atStart => exact ⟨60, m, e, by omega, rfl, rfl, h0, by have h60 := pow60; omega, by omega, by omega, by omega, by omega, rfl⟩
    case round =>
      obtain ⟨f, M, E, hf, rfl, rfl, hM0, hMf, hM1, hM2, hE1, hE2, hst⟩ := hrel
      by_cases hev : M % 2 = 0
      · obtain ⟨N, rfl⟩ : ∃ N, M = 2 * N := ⟨M / 2, by omega⟩
        cases f with
        | zero => exfalso; simp at hMf; omega
        | succ f =>
          have hmod : ((2 * N).tmod 2 == 0) = true := by simp
          have hdiv : (2 * N).tdiv 2 = N := by simp
          have hw1 : IntKind.i64.wrap N = N := wrap_mid64 (by omega) (by omega)
          have hw2 : IntKind.i64.wrap (E + 1) = E + 1 := wrap_mid64 (by omega) (by omega)
          have hst' : stripF f N (E + 1) = stripF 60 m e := by rw [← hst, stripF_even (by omega)]; congr 1; omega
          have hN : N ≠ 0 ∧ N.natAbs < 2 ^ f ∧ -1000000000000000 ≤ N ∧ N ≤ 1000000000000000 ∧ -100 ≤ E + 1 ∧ E + 1 ≤ 160 - f := by
            rw [Nat.pow_succ] at hMf; exact ⟨by omega, by omega, by omega, by omega, by omega, by omega⟩
          have HS := Lib.hid hst'; have HN := Lib.hid hN
          clear hst hst' hN hMf hev
          go_wp2_with fail
          go_round
          case rel =>
            obtain ⟨n1, n2, n3, n4, n5, n6⟩ := HN.out
            exact ⟨f, N, E + 1, by omega, rfl, rfl, n1, n2, n3, n4, n5, n6, HS.out⟩
          case measure => simp [intOf]; omega
      · have hmod : (M.tmod 2 == 0) = false := by
          have : ¬ M.tmod 2 = 0 := fun h => hev (tmod_zero.1 h)
          simpa using this
        rw [stripF_odd hev] at hst
        have hnew : newF m e = if fltOkF M E = true then (M, E, true) else (0, 0, false) := by
          unfold newF; rw [if_pos ⟨hm, he⟩, if_neg h0, ← hst]
        have HNEW := Lib.hid hnew; clear hnew hst hMf hev
        cases hk : fltOkF M E with
        | true =>
          go_wp2_with fail
          refine (fltOk_impl _ _ _).mono ?_
          rintro _ w1 ⟨rfl, b1⟩
          obtain ⟨r0, r1, rf⟩ := two_num b1 (first_block w _ _)
          obtain ⟨g0, g1, _⟩ := two_num b1 (second_block2 w _ _)
          have rf0 := rf 0; have rf1 := rf 1; clear rf
          have hsz := b1.size
          have BB := Lib.hid b1; clear b1
          rw [hk]
          go_wp2_with fail
          simp only [World.size_alloc] at hsz
          refine bodyPost_ret (v := .tuple #[.agg #[.int .i64 M, .int .i64 E], .bool true]) (by simp [results, Tryd.results42, go_sem, r0, r1]) rfl ⟨by rw [HNEW.out, if_pos hk], ?_⟩
          iterate 2 refine Below.setCell ?_ (by dsimp only; omega) _
          exact nx (below2 _ _ _) BB.out
        | false =>
          go_wp2_with fail
          refine (fltOk_impl _ _ _).mono ?_
          rintro _ w1 ⟨rfl, b1⟩
          obtain ⟨r0, r1, rf⟩ := two_num b1 (first_block w _ _)
          obtain ⟨g0, g1, _⟩ := two_num b1 (second_block2 w _ _)
          have rf0 := rf 0; have rf1 := rf 1; clear rf
          have hsz := b1.size
          have BB := Lib.hid b1; clear b1
          rw [hk]
          go_wp2_with fail
          simp only [World.size_alloc] at hsz
          refine bodyPost_ret (v := .tuple #[.agg #[.int .i64 0, .int .i64 0], .bool false]) (by simp [results, Tryd.results42, go_sem, r0, r1]) rfl ⟨by rw [HNEW.out, if_neg (by rw [hk]; simp)], ?_⟩
          iterate 2 refine Below.setCell ?_ (by dsimp only; omega) _
          exact nx (below2 _ _ _) BB.out

set_option maxHeartbeats 2000000 in
theorem newF_spec (m e : Int) (w : World) : Calls Tryd.prog 43 #[.int .i64 m, .int .i64 e] w fun en w' => en = .returned (.tuple #[.agg #[.int .i64 (newF m e).1, .int .i64 (newF m e).2.1], .bool (newF m e).2.2]) ∧ Below w.heap.size w w' := by
  cases hm : inB m (-1000000000000000) 1000000000000000 with
  | false =>
    have hn : newF m e = (0, 0, false) := if_neg (by rw [hm]; simp)
    rw [hn]; clear hn
    go_enter Tryd.func43, Tryd.ntmps43
    go_wp2_with (go_at_call 98; refine (l1In_c _ _ _ _).mono ?_; rintro e w' ⟨rfl, rfl⟩)
    exact bodyPost_ret (v := .tuple #[.agg #[.int .i64 0, .int .i64 0], .bool false]) (by simp [results, Tryd.results43, go_sem]) rfl ⟨rfl, below1 _ _⟩
  | true =>
  cases he : inB e (-100) 100 with
  | false =>
    have hn : newF m e = (0, 0, false) := if_neg (by rw [he]; simp)
    rw [hn]; clear hn
    go_enter Tryd.func43, Tryd.ntmps43
    go_wp2_with (go_at_call 98; refine (l1In_c _ _ _ _).mono ?_; rintro e w' ⟨rfl, rfl⟩)
    exact bodyPost_ret (v := .tuple #[.agg #[.int .i64 0, .int .i64 0], .bool false]) (by simp [results, Tryd.results43, go_sem]) rfl ⟨rfl, below1 _ _⟩
  | true =>
  by_cases h0 : m = 0
  · subst h0
    have hn : newF 0 e = (0, 0, true) := by unfold newF; rw [if_pos ⟨hm, he⟩, if_pos rfl]
    rw [hn]; clear hn
    go_enter Tryd.func43, Tryd.ntmps43
    go_wp2_with (go_at_call 98; refine (l1In_c _ _ _ _).mono ?_; rintro e w' ⟨rfl, rfl⟩)
    exact bodyPost_ret (v := .tuple #[.agg #[.int .i64 0, .int .i64 0], .bool true]) (by simp [results, Tryd.results43, go_sem]) rfl ⟨rfl, below1 _ _⟩
  · have hz : (m == 0) = false := by simpa using h0
    obtain ⟨q1, q2⟩ := inB_true.1 hm
    obtain ⟨q3, q4⟩ := inB_true.1 he
    go_enter Tryd.func43, Tryd.ntmps43
    go_wp2_with (go_at_call 98; refine (l1In_c _ _ _ _).mono ?_; rintro e w' ⟨rfl, rfl⟩)
    go_loop [0, 1] (fun a b => ∃ (f : Nat) (M E : Int), f ≤ 60 ∧ a = .int .i64 M ∧ b = .int .i64 E ∧ M ≠ 0 ∧ M.natAbs < 2 ^ f ∧ -1000000000000000 ≤ M ∧ M ≤ 1000000000000000 ∧ -100 ≤ E ∧ E ≤ 160 - f ∧ stripF f M E = stripF 60 m e) (fun a _ => (intOf a).natAbs)
    case atStart => exact ⟨60, m, e, by omega, rfl, rfl, h0, by have h60 := pow60; omega, by omega, by omega, by omega, by omega, rfl⟩
    case round =>
      obtain ⟨f, M, E, hf, rfl, rfl, hM0, hMf, hM1, hM2, hE1, hE2, hst⟩ := hrel
      by_cases hev : M % 2 = 0
      · obtain ⟨N, rfl⟩ : ∃ N, M = 2 * N := ⟨M / 2, by omega⟩
        cases f with
        | zero => exfalso; simp at hMf; omega
        | succ f =>
          have hmod : ((2 * N).tmod 2 == 0) = true := by simp
          have hdiv : (2 * N).tdiv 2 = N := by simp
          have hw1 : IntKind.i64.wrap N = N := wrap_mid64 (by omega) (by omega)
          have hw2 : IntKind.i64.wrap (E + 1) = E + 1 := wrap_mid64 (by omega) (by omega)
          have hst' : stripF f N (E + 1) = stripF 60 m e := by rw [← hst, stripF_even (by omega)]; congr 1; omega
          have hN : N ≠ 0 ∧ N.natAbs < 2 ^ f ∧ -1000000000000000 ≤ N ∧ N ≤ 1000000000000000 ∧ -100 ≤ E + 1 ∧ E + 1 ≤ 160 - f := by
            rw [Nat.pow_succ] at hMf; exact ⟨by omega, by omega, by omega, by omega, by omega, by omega⟩
          have HS := Lib.hid hst'; have HN := Lib.hid hN
          clear hst hst' hN hMf hev
          go_wp2_with fail
          go_round
          case rel =>
            obtain ⟨n1, n2, n3, n4, n5, n6⟩ := HN.out
            exact ⟨f, N, E + 1, by omega, rfl, rfl, n1, n2, n3, n4, n5, n6, HS.out⟩
          case measure => simp [intOf]; omega
      · have hmod : (M.tmod 2 == 0) = false := by
          have : ¬ M.tmod 2 = 0 := fun h => hev (tmod_zero.1 h)
          simpa using this
        rw [stripF_odd hev] at hst
        have hnew : newF m e = if fltOkF M E = true then (M, E, true) else (0, 0, false) := by
          unfold newF; rw [if_pos ⟨hm, he⟩, if_neg h0, ← hst]
        have HNEW := Lib.hid hnew; clear hnew hst hMf hev
        cases hk : fltOkF M E with
        | true =>
          go_wp2_with fail
          refine (fltOk_spec _ _ _).mono ?_
          rintro _ w1 ⟨rfl, b1⟩
          obtain ⟨r0, r1, rf⟩ := two_num b1 (first_block w _ _)
          obtain ⟨g0, g1, _⟩ := two_num b1 (second_block2 w _ _)
          have rf0 := rf 0; have rf1 := rf 1; clear rf
          have hsz := b1.size
          have BB := Lib.hid b1; clear b1
          rw [hk]
          go_wp2_with fail
          simp only [World.size_alloc] at hsz
          refine bodyPost_ret (v := .tuple #[.agg #[.int .i64 M, .int .i64 E], .bool true]) (by simp [results, Tryd.results43, go_sem, r0, r1]) rfl ⟨by rw [HNEW.out, if_pos hk], ?_⟩
          iterate 2 refine Below.setCell ?_ (by dsimp only; omega) _
          exact nx (below2 _ _ _) BB.out
        | false =>
          go_wp2_with fail
          refine (fltOk_spec _ _ _).mono ?_
          rintro _ w1 ⟨rfl, b1⟩
          obtain ⟨r0, r1, rf⟩ := two_num b1 (first_block w _ _)
          obtain ⟨g0, g1, _⟩ := two_num b1 (second_block2 w _ _)
          have rf0 := rf 0; have rf1 := rf 1; clear rf
          have hsz := b1.size
          have BB := Lib.hid b1; clear b1
          rw [hk]
          go_wp2_with fail
          simp only [World.size_alloc] at hsz
          refine bodyPost_ret (v := .tuple #[.agg #[.int .i64 0, .int .i64 0], .bool false]) (by simp [results, Tryd.results43, go_sem, r0, r1]) rfl ⟨by rw [HNEW.out, if_neg (by rw [hk]; simp)], ?_⟩
          iterate 2 refine Below.setCell ?_ (by dsimp only; omega) _
          exact nx (below2 _ _ _) BB.out

end Go.Proofs.YtilmhemcpgiikaaDoor
/- Plain laws on the nearest floating-point number. -/
namespace Go.Proofs.YtilmhemcpgiikaaDoor

/-- The whole part of n / (p * 2^e), and what is left. -/
def qE (n p : Nat) (e : Int) : Nat := n * 2 ^ (-e).toNat / (p * 2 ^ e.toNat)
def rE (n p : Nat) (e : Int) : Nat := n * 2 ^ (-e).toNat % (p * 2 ^ e.toNat)
/-- Rounded, ties to even. -/
def bump (q r d : Nat) : Nat := if d < 2 * r ∨ 2 * r = d ∧ q % 2 = 1 then q + 1 else q
/-- The least exponent at which the whole part fits. -/
def findE (n p : Nat) : Nat → Int → Int
  | 0, e => e
  | f + 1, e => if qE n p e ≤ 65535 then e else findE n p f (e + 1)
theorem findE_yes {n p : Nat} {e : Int} (h : qE n p e ≤ 65535) (f : Nat) : findE n p (f + 1) e = e := if_pos h
theorem findE_no {n p : Nat} {e : Int} (h : ¬ qE n p e ≤ 65535) (f : Nat) : findE n p (f + 1) e = findE n p f (e + 1) := if_neg h

theorem qE_succ (n p : Nat) (e : Int) : qE n p (e + 1) = qE n p e / 2 := by
  unfold qE
  by_cases h : 0 ≤ e
  · rw [show (-(e + 1)).toNat = 0 by omega, show (-e).toNat = 0 by omega, show (e + 1).toNat = e.toNat + 1 by omega, Nat.pow_succ, ← Nat.mul_assoc, Nat.div_div_eq_div_mul]
  · rw [show (-e).toNat = (-(e + 1)).toNat + 1 by omega, show (e + 1).toNat = 0 by omega, show e.toNat = 0 by omega, Nat.pow_succ, Nat.div_div_eq_div_mul, ← Nat.mul_assoc, Nat.mul_div_mul_right _ _ (by decide)]
theorem qE_mono (n p : Nat) (a : Int) : ∀ k : Nat, qE n p (a + k) ≤ qE n p a
  | 0 => by simp
  | k + 1 => by
    have := qE_mono n p a k
    rw [show a + ((k + 1 : Nat) : Int) = (a + k) + 1 by omega, qE_succ]
    omega
theorem findE_of {n p : Nat} {e : Int} (hq : qE n p e ≤ 65535) : ∀ (f : Nat) (a : Int), a ≤ e → e < a + f → (e = a ∨ 65535 < qE n p (e - 1)) → findE n p f a = e
  | 0, a, h1, h2, _ => by omega
  | f + 1, a, h1, h2, h3 => by
    by_cases h : e = a
    · subst h; exact findE_yes hq f
    · have h4 : 65535 < qE n p (e - 1) := h3.resolve_left h
      have := qE_mono n p a (e - 1 - a).toNat
      rw [show a + ((e - 1 - a).toNat : Int) = e - 1 by omega] at this
      rw [findE_no (by omega)]
      exact findE_of hq f (a + 1) (by omega) (by omega) (.inr h4)

def nearF (n x : Int) : Int × Int × Bool :=
  if decOkB n x = true then
    newF (if n < 0 then -(bump (qE n.natAbs (10 ^ (-x).toNat) (findE n.natAbs (10 ^ (-x).toNat) 70 (-16))) (rE n.natAbs (10 ^ (-x).toNat) (findE n.natAbs (10 ^ (-x).toNat) 70 (-16))) (10 ^ (-x).toNat * 2 ^ (findE n.natAbs (10 ^ (-x).toNat) 70 (-16)).toNat) : Int)
      else (bump (qE n.natAbs (10 ^ (-x).toNat) (findE n.natAbs (10 ^ (-x).toNat) 70 (-16))) (rE n.natAbs (10 ^ (-x).toNat) (findE n.natAbs (10 ^ (-x).toNat) 70 (-16))) (10 ^ (-x).toNat * 2 ^ (findE n.natAbs (10 ^ (-x).toNat) 70 (-16)).toNat) : Int))
      (findE n.natAbs (10 ^ (-x).toNat) 70 (-16))
  else (0, 0, false)
theorem nearF_of {n x : Int} {e : Int} {N P : Nat} (hok : decOkB n x = true) (hN : N = n.natAbs) (hP : P = 10 ^ (-x).toNat) (hq : qE N P e ≤ 65535) (h1 : -16 ≤ e) (h2 : e < 54) (h3 : e = -16 ∨ 65535 < qE N P (e - 1)) :
    nearF n x = newF (if n < 0 then -(bump (qE N P e) (rE N P e) (P * 2 ^ e.toNat) : Int) else (bump (qE N P e) (rE N P e) (P * 2 ^ e.toNat) : Int)) e := by
  unfold nearF
  rw [if_pos hok, ← hN, ← hP, findE_of hq 70 (-16) h1 (by omega) h3]

/-! In the parts that the reference reckons with. -/
theorem rest_big (n p : Nat) (k : Nat) (_hp : 0 < p) : n % (p * 2 ^ k) = (n / p % 2 ^ k) * p + n % p := by
  rw [Nat.mod_mul, Nat.mul_comm]; omega
theorem qE_big (n p k : Nat) : qE n p (k : Int) = n / p / 2 ^ k := by
  unfold qE; rw [show (-(k : Int)).toNat = 0 by omega, Int.toNat_natCast, Nat.pow_zero, Nat.mul_one, Nat.div_div_eq_div_mul]
theorem rE_big (n p k : Nat) (hp : 0 < p) : rE n p (k : Int) = (n / p % 2 ^ k) * p + n % p := by
  unfold rE; rw [show (-(k : Int)).toNat = 0 by omega, Int.toNat_natCast, Nat.pow_zero, Nat.mul_one, rest_big n p k hp]
theorem qE_low (n p s : Nat) : qE n p (-(s : Int)) = n * 2 ^ s / p := by
  unfold qE; rw [show (- -(s : Int)).toNat = s by omega, show (-(s : Int)).toNat = 0 by omega, Nat.pow_zero, Nat.mul_one]
theorem rE_low (n p s : Nat) : rE n p (-(s : Int)) = n * 2 ^ s % p := by
  unfold rE; rw [show (- -(s : Int)).toNat = s by omega, show (-(s : Int)).toNat = 0 by omega, Nat.pow_zero, Nat.mul_one]
theorem double_div (a p : Nat) (hp : 0 < p) : a * 2 / p = 2 * (a / p) + (if p ≤ 2 * (a % p) then 1 else 0) ∧ a * 2 % p = 2 * (a % p) - (if p ≤ 2 * (a % p) then p else 0) := by
  have h1 := Nat.div_add_mod a p
  have h2 := Nat.mod_lt a hp
  generalize a % p = r at *
  generalize a / p = q at *
  by_cases h : p ≤ 2 * r
  · rw [if_pos h, if_pos h]
    have e : a * 2 = p * (2 * q + 1) + (2 * r - p) := by rw [Nat.mul_add, Nat.mul_one, ← h1, ← Nat.mul_assoc, Nat.mul_comm p 2, Nat.mul_assoc]; omega
    constructor
    · rw [e, Nat.mul_add_div hp, Nat.div_eq_of_lt (by omega)]
    · rw [e, Nat.mul_add_mod, Nat.mod_eq_of_lt (by omega)]
  · rw [if_neg h, if_neg h]
    have e : a * 2 = p * (2 * q) + 2 * r := by rw [← h1, ← Nat.mul_assoc, Nat.mul_comm p 2, Nat.mul_assoc]; omega
    constructor
    · rw [e, Nat.mul_add_div hp, Nat.div_eq_of_lt (by omega)]
    · rw [e, Nat.mul_add_mod, Nat.mod_eq_of_lt (by omega), Nat.sub_zero]

theorem stripF_big : ∀ (f : Nat) (m e : Int), m ≠ 0 → 31 ≤ e → 32768 ≤ m.natAbs * 2 ^ (e - 31).toNat →
    (stripF f m e).1 ≠ 0 ∧ 31 ≤ (stripF f m e).2 ∧ 32768 ≤ (stripF f m e).1.natAbs * 2 ^ ((stripF f m e).2 - 31).toNat
  | 0, m, e, h0, h1, h2 => ⟨h0, h1, h2⟩
  | f + 1, m, e, h0, h1, h2 => by
    by_cases h : m % 2 = 0
    · rw [stripF_even h]
      refine stripF_big f (m / 2) (e + 1) (by omega) (by omega) ?_
      rw [show (e + 1 - 31).toNat = (e - 31).toNat + 1 by omega, Nat.pow_succ]
      have e2 : m.natAbs = (m / 2).natAbs * 2 := by omega
      rw [e2] at h2
      rw [Nat.mul_comm (2 ^ (e - 31).toNat) 2, ← Nat.mul_assoc]
      exact h2
    · rw [stripF_odd h]; exact ⟨h0, h1, h2⟩
theorem newF_big {m e : Int} (hm : 32768 ≤ m.natAbs) (he : 31 ≤ e) : newF m e = (0, 0, false) := by
  unfold newF
  split
  · rw [if_neg (by omega)]
    have hp : 1 ≤ 2 ^ (e - 31).toNat := Nat.one_le_two_pow
    obtain ⟨a, b, c⟩ := stripF_big 60 m e (by omega) he (Nat.le_trans hm (Nat.le_mul_of_pos_right _ hp))
    generalize stripF 60 m e = z at *
    obtain ⟨M, E⟩ := z
    simp only at a b c ⊢
    rw [if_neg]
    intro h
    unfold fltOkF at h
    rw [if_neg a] at h
    obtain ⟨_, _, _, _, h5⟩ := of_decide_eq_true h
    rcases h5 with h5 | ⟨_, h6, h7⟩
    · omega
    · rw [show (E - 30).toNat = (E - 31).toNat + 1 by omega, Int.pow_succ] at h6 h7
      have hc : (32768 : Int) ≤ (M.natAbs : Int) * 2 ^ (E - 31).toNat := by
        have c2 := Int.ofNat_le.2 c
        rw [Int.natCast_mul, Int.natCast_pow] at c2
        exact c2
      generalize (2 : Int) ^ (E - 31).toNat = P at *
      rw [← Int.mul_assoc] at h6 h7
      rcases Int.natAbs_eq M with hM | hM
      · rw [← hM] at hc; omega
      · have : (M.natAbs : Int) = -M := by omega
        rw [this, Int.neg_mul] at hc; omega
  · rfl
theorem newF_of {m e a b : Int} (hm : inB m (-1000000000000000) 1000000000000000 = true) (he : inB e (-100) 100 = true) (h0 : m ≠ 0) (hs : stripF 60 m e = (a, b)) :
    newF m e = if fltOkF a b = true then (a, b, true) else (0, 0, false) := by
  unfold newF; rw [if_pos ⟨hm, he⟩, if_neg h0, hs]
theorem newF_65536 (e : Int) (h1 : -16 ≤ e) (h2 : e ≤ 60) : newF 65536 e = newF 32768 (e + 1) ∧ newF (-65536) e = newF (-32768) (e + 1) := by
  have a1 : stripF 60 65536 e = (1, e + 16) := by simp [stripF]; omega
  have a2 : stripF 60 32768 (e + 1) = (1, e + 16) := by simp [stripF]; omega
  have a3 : stripF 60 (-65536) e = (-1, e + 16) := by simp [stripF]; omega
  have a4 : stripF 60 (-32768) (e + 1) = (-1, e + 16) := by simp [stripF]; omega
  have i1 : inB e (-100) 100 = true := inB_mk (by omega)
  have i2 : inB (e + 1) (-100) 100 = true := inB_mk (by omega)
  constructor
  · rw [newF_of (by decide) i1 (by decide) a1, newF_of (by decide) i2 (by decide) a2]
  · rw [newF_of (by decide) i1 (by decide) a3, newF_of (by decide) i2 (by decide) a4]
end Go.Proofs.YtilmhemcpgiikaaDoor
/- Plain laws on the text of decimal numbers. -/
namespace Go.Proofs.YtilmhemcpgiikaaDoor

/-- With zeros ahead, up to a length. -/
def padZ (L : Nat) (s : List UInt8) : List UInt8 := List.replicate (L - s.length) 48 ++ s
theorem padZ_step {L : Nat} {s : List UInt8} (h : s.length < L) : padZ L (48 :: s) = padZ L s := by
  unfold padZ
  rw [List.length_cons, show L - s.length = (L - (s.length + 1)) + 1 by omega, List.replicate_succ', List.append_assoc]
  rfl
theorem padZ_done {L : Nat} {s : List UInt8} (h : L ≤ s.length) : padZ L s = s := by
  unfold padZ; rw [show L - s.length = 0 by omega]; rfl
theorem padZ_length (L : Nat) (s : List UInt8) : (padZ L s).length = max L s.length := by
  unfold padZ; rw [List.length_append, List.length_replicate]; omega
/-- The text of a number with a point. -/
def pointed (n : Int) (k : Nat) (s : List UInt8) : List UInt8 := (if n < 0 then [45] else []) ++ (s.take (s.length - k) ++ (46 :: s.drop (s.length - k)))
def decTextL (n x : Int) : List UInt8 :=
  if decOkB n x = true then
    if x = 0 then Lib.itoa n else pointed n (-x).toNat (padZ (1 + (-x).toNat) (Lib.decDigits n.natAbs))
  else []
theorem decTextL_no {n x : Int} (h : decOkB n x = false) : decTextL n x = [] := if_neg (by rw [h]; simp)
theorem decTextL_int {n : Int} (h : decOkB n 0 = true) : decTextL n 0 = Lib.itoa n := by unfold decTextL; rw [if_pos h, if_pos rfl]
theorem decTextL_pt {n x : Int} (h : decOkB n x = true) (hx : x ≠ 0) {k : Nat} (hk : x = -(k : Int)) : decTextL n x = pointed n k (padZ (1 + k) (Lib.decDigits n.natAbs)) := by
  unfold decTextL; rw [if_pos h, if_neg hx, show (-x).toNat = k by omega]
end Go.Proofs.YtilmhemcpgiikaaDoor
/- DecText: both write the same text. -/
namespace Go.Proofs.YtilmhemcpgiikaaDoor
open Go.Deep Go.ChangeShapes Go.WideShapes Go.ChangeAt Go.RowKit
open Go.ChangeMaps (open_string shut_string)

theorem drewN_belowT {B : Nat} {w w' : World} (h : Below B w w') (k : Nat) : Below B w (w'.drewN k) := ⟨h.os, h.tape, h.output, h.size, h.block⟩
def strLen : Value → Nat
  | .string s => s.size
  | _ => 0
theorem strLen_mk (l : List UInt8) : strLen (.string ⟨l.toArray⟩) = l.length := by simp [strLen, ByteArray.size]
def decTextS (n x : Int) : ByteArray := ⟨(decTextL n x).toArray⟩

theorem pointed_str (sg l : List UInt8) (p k : Nat) (hp : l.length = p + k) :
    ({ data := sg.toArray } : ByteArray) ++ ({ data := l.toArray } : ByteArray).extract 0 p ++ { data := #[46] } ++ ({ data := l.toArray } : ByteArray).extract p (p + k) = { data := (sg ++ (l.take (l.length - k) ++ 46 :: l.drop (l.length - k))).toArray } := by
  apply ByteArray.ext
  rw [hp, Nat.add_sub_cancel]
  simp only [ByteArray.data_append, ByteArray.data_extract]
  apply Array.ext'
  simp [← hp]
  exact List.take_of_length_le (by simp)
theorem pointed_str0 (l : List UInt8) (p k : Nat) (hp : l.length = p + k) :
    ({ data := l.toArray } : ByteArray).extract 0 p ++ { data := #[46] } ++ ({ data := l.toArray } : ByteArray).extract p (p + k) = { data := ([] ++ (l.take (l.length - k) ++ 46 :: l.drop (l.length - k))).toArray } := by
  rw [← pointed_str [] l p k hp]
  apply ByteArray.ext
  simp
theorem pointed_neg {n : Int} (h : n < 0) (k : Nat) (l : List UInt8) : pointed n k l = [45] ++ (l.take (l.length - k) ++ 46 :: l.drop (l.length - k)) := by unfold pointed; rw [if_pos h]
theorem pointed_pos {n : Int} (h : ¬ n < 0) (k : Nat) (l : List UInt8) : pointed n k l = [] ++ (l.take (l.length - k) ++ 46 :: l.drop (l.length - k)) := by unfold pointed; rw [if_neg h]

set_option maxRecDepth 100000 in
set_option maxHeartbeats 2000000 in
theorem decText_spec (n x : Int) (w : World) (h1 : -9223372036854775808 ≤ n) (h2 : n ≤ 9223372036854775807) :
    Calls Tryd.prog 32 #[.agg #[.int .i64 n, .int .i64 x]] w fun e w' => e = .returned (.string (decTextS n x)) ∧ Below w.heap.size w w' := by
  have H1 := Lib.hid (fun w => decOk_spec n x w h1 h2)
  have H2 := Lib.hid (fun w => numText_spec n w h1 h2)
  cases hk : decOkB n x with
  | false =>
    have hs : decTextS n x = { data := #[] } := by unfold decTextS; rw [decTextL_no hk]
    rw [hs]
    rw [hk] at H1
    clear hs H2
    go_enter Tryd.func32, Tryd.ntmps32
    go_wp2_with fail
    refine (H1.out _).mono ?_
    rintro _ w1 ⟨rfl, b1⟩
    go_wp2_with fail
    go_ret
    exact ⟨rfl, nx (below1 _ _) b1⟩
  | true =>
  by_cases h0 : x = 0
  · subst h0
    have hs : decTextS n 0 = numS n := by unfold decTextS; rw [decTextL_int hk]; rfl
    rw [hs]
    rw [hk] at H1
    clear hs
    generalize numS n = S at *
    go_enter Tryd.func32, Tryd.ntmps32
    go_wp2_with fail
    refine (H1.out _).mono ?_
    rintro _ w1 ⟨rfl, b1⟩
    obtain ⟨c0, c1, _⟩ := two_num b1 (one_block w _)
    go_wp2_with fail
    refine (H2.out _).mono ?_
    rintro _ w2 ⟨rfl, b2⟩
    go_wp2_with fail
    go_ret
    exact ⟨rfl, nx (nx (below1 _ _) b1) b2⟩
  · have hrg : -16 ≤ x ∧ x ≤ -1 := by
      rcases decOkB_iff.1 hk with ⟨h, _⟩ | ⟨a, b, _⟩
      · exact absurd h h0
      · exact ⟨a, b⟩
    have hd17 : dgs n ≤ 17 := by
      rcases decOkB_iff.1 hk with ⟨h, _⟩ | ⟨_, _, a, b, _⟩
      · exact absurd h h0
      · exact dgs_17.2 ⟨a, b⟩
    obtain ⟨k, rfl⟩ : ∃ k : Nat, x = -(k : Int) := ⟨(-x).toNat, by omega⟩
    have hk1 : 1 ≤ k := by omega
    have hk16 : k ≤ 16 := by omega
    have hs : decTextS n (-(k : Int)) = ⟨(pointed n k (padZ (1 + k) (Lib.decDigits n.natAbs))).toArray⟩ := by unfold decTextS; rw [decTextL_pt hk h0 rfl]
    have hx0 : (-(k : Int) == 0) = false := by simp; omega
    have hx1 : ¬ k = 0 := by omega
    rw [hs]
    rw [hk] at H1
    have hdl : (Lib.decDigits n.natAbs).length ≤ 17 := by rw [Lib.decDigits_length]; exact hd17
    have HS := Lib.hid hs
    clear hs hrg hd17 h0 HS hk
    by_cases hn : n < 0
    · have hsz : (numS n).size = (Lib.decDigits n.natAbs).length + 1 := by rw [numS_size, if_pos hn, Lib.decDigits_length]; rfl
      have hex : (numS n).extract 1 ((Lib.decDigits n.natAbs).length + 1) = ⟨(Lib.decDigits n.natAbs).toArray⟩ := by
        apply ByteArray.ext
        rw [ByteArray.data_extract]
        unfold numS
        rw [itoa_neg hn]
        simp
      generalize numS n = S at *
      generalize Lib.decDigits n.natAbs = D at *
      have HSZ := Lib.hid hsz
      go_enter Tryd.func32, Tryd.ntmps32
      go_wp2_with fail
      refine (H1.out _).mono ?_
      rintro _ w1 ⟨rfl, b1⟩
      obtain ⟨c0, c1, _⟩ := two_num b1 (one_block w _)
      go_wp2_with fail
      refine (H2.out _).mono ?_
      rintro _ w2 ⟨rfl, b2⟩
      clear c0 c1
      obtain ⟨c0, c1, _⟩ := two_num (nx b1 b2) (one_block w _)
      have t2 := nx b1 b2
      go_wp2_with fail
      clear hex hsz
      go_loop [3] (fun s => ∃ l : List UInt8, s = .string ⟨l.toArray⟩ ∧ padZ (1 + k) l = padZ (1 + k) D ∧ l.length ≤ 17) (fun s => 40 - strLen s)
      case atStart => exact ⟨D, rfl, rfl, hdl⟩
      case round =>
        obtain ⟨l, rfl, hpad, hl⟩ := hrel
        have hch : ({ data := #[48] } : ByteArray).size = 1 := rfl
        by_cases hlt : l.length < 1 + k
        · have hpn := (padZ_step hlt).trans hpad
          have hm := strLen_mk l
          have hm2 := strLen_mk (48 :: l)
          have HPN := Lib.hid hpn; have HM := Lib.hid hm; have HM2 := Lib.hid hm2
          have hd1 : (l.length : Int) < 1 + (k : Int) := by omega
          clear hpad hpn hm hm2
          go_wp2_with fail
          rw [str_cons]
          go_round
          case rel => exact ⟨48 :: l, rfl, HPN.out, by simp; omega⟩
          case measure =>
            show 40 - strLen (.string ⟨(48 :: l).toArray⟩) < 40 - strLen (.string ⟨l.toArray⟩)
            rw [HM.out, HM2.out, List.length_cons]; omega
        · have hl2 : padZ (1 + k) D = l := by rw [← hpad]; exact padZ_done (by omega)
          rw [hl2]
          obtain ⟨p, hp⟩ : ∃ p, l.length = p + k := ⟨l.length - k, by omega⟩
          have hp1 : 1 ≤ p := by omega
          have hge : ¬ (l.length : Int) < 1 + (k : Int) := by omega
          have hsum : (p : Int) + (k : Int) + -(k : Int) = p := by omega
          have HL2 := Lib.hid hl2
          clear hpad hl2
          go_wp2_with fail
          go_quiet (fail)
          go_wp2_with fail
          go_ret
          refine ⟨ret_str ?_, drewN_belowT (nx (below1 _ _) t2) _⟩
          rw [HL2.out, pointed_neg hn]
          exact pointed_str [45] l p k hp
    · have hsz : (numS n) = ⟨(Lib.decDigits n.natAbs).toArray⟩ := by unfold numS; rw [itoa_pos (by omega)]
      rw [hsz] at H2
      clear hsz
      generalize Lib.decDigits n.natAbs = D at *
      go_enter Tryd.func32, Tryd.ntmps32
      go_wp2_with fail
      refine (H1.out _).mono ?_
      rintro _ w1 ⟨rfl, b1⟩
      obtain ⟨c0, c1, _⟩ := two_num b1 (one_block w _)
      go_wp2_with fail
      refine (H2.out _).mono ?_
      rintro _ w2 ⟨rfl, b2⟩
      clear c0 c1
      obtain ⟨c0, c1, _⟩ := two_num (nx b1 b2) (one_block w _)
      have t2 := nx b1 b2
      go_wp2_with fail
      go_loop [3] (fun s => ∃ l : List UInt8, s = .string ⟨l.toArray⟩ ∧ padZ (1 + k) l = padZ (1 + k) D ∧ l.length ≤ 17) (fun s => 40 - strLen s)
      case atStart => exact ⟨D, rfl, rfl, hdl⟩
      case round =>
        obtain ⟨l, rfl, hpad, hl⟩ := hrel
        have hch : ({ data := #[48] } : ByteArray).size = 1 := rfl
        by_cases hlt : l.length < 1 + k
        · have hpn := (padZ_step hlt).trans hpad
          have hm := strLen_mk l
          have hm2 := strLen_mk (48 :: l)
          have HPN := Lib.hid hpn; have HM := Lib.hid hm; have HM2 := Lib.hid hm2
          have hd1 : (l.length : Int) < 1 + (k : Int) := by omega
          clear hpad hpn hm hm2
          go_wp2_with fail
          rw [str_cons]
          go_round
          case rel => exact ⟨48 :: l, rfl, HPN.out, by simp; omega⟩
          case measure =>
            show 40 - strLen (.string ⟨(48 :: l).toArray⟩) < 40 - strLen (.string ⟨l.toArray⟩)
            rw [HM.out, HM2.out, List.length_cons]; omega
        · have hl2 : padZ (1 + k) D = l := by rw [← hpad]; exact padZ_done (by omega)
          rw [hl2]
          obtain ⟨p, hp⟩ : ∃ p, l.length = p + k := ⟨l.length - k, by omega⟩
          have hp1 : 1 ≤ p := by omega
          have hge : ¬ (l.length : Int) < 1 + (k : Int) := by omega
          have hsum : (p : Int) + (k : Int) + -(k : Int) = p := by omega
          have HL2 := Lib.hid hl2
          clear hpad hl2
          go_wp2_with fail
          go_quiet (fail)
          go_wp2_with fail
          go_ret
          refine ⟨ret_str ?_, drewN_belowT (nx (below1 _ _) t2) _⟩
          rw [HL2.out, pointed_pos (by omega)]
          exact pointed_str [] l p k hp

theorem cut_minus (n : Int) : Lib.trimPrefix (Lib.itoa n) [45] = Lib.decDigits n.natAbs ∧ Lib.hasPrefix (Lib.itoa n) [45] = decide (n < 0) := by
  refine ⟨trim_minus n, ?_⟩
  by_cases h : n < 0
  · rw [itoa_neg h, decide_eq_true h]
    simp [Lib.hasPrefix, List.isPrefixOf]
  · rw [itoa_pos (by omega), decide_eq_false h]
    obtain ⟨c, l, e, h1, h2⟩ := decDigits_head n.natAbs
    rw [e]
    have : (45 == c) = false := by
      rw [beq_eq_false_iff_ne]
      intro hc; subst hc; simp at h1
    simp [Lib.hasPrefix, List.isPrefixOf, this]

set_option maxRecDepth 100000 in
set_option maxHeartbeats 4000000 in
theorem decText_impl (n x : Int) (w : World) (hL : LaidP w) (h1 : -9223372036854775808 ≤ n) (h2 : n ≤ 9223372036854775807) :
    Calls Tryd.prog 31 #[.agg #[.int .i64 n, .int .i64 x]] w fun e w' => e = .returned (.string (decTextS n x)) ∧ Below w.heap.size w w' := by
  have H1 := Lib.hid (fun w1 (hb : Below w.heap.size w w1) => decOk_impl n x w1 (hL.kept hb) h1 h2)
  have H2 := Lib.hid (fun w1 (hb : Below w.heap.size w w1) => numText_impl n w1 (hL.kept hb) h1 h2)
  clear hL
  cases hk : decOkB n x with
  | false =>
    have hs : decTextS n x = { data := #[] } := by unfold decTextS; rw [decTextL_no hk]
    rw [hs]
    rw [hk] at H1
    clear hs
    generalize numS n = S at *
    go_enter Tryd.func31, Tryd.ntmps31
    go_wp2_with fail
    refine (H2.out _ (below1 _ _)).mono ?_
    rintro _ w1 ⟨rfl, b1⟩
    obtain ⟨c0, c1, _⟩ := two_num b1 (one_block w _)
    go_wp2_with fail
    refine (H1.out _ (nx (below1 _ _) b1)).mono ?_
    rintro _ w2 ⟨rfl, b2⟩
    go_wp2_with fail
    go_ret
    exact ⟨rfl, nx (nx (below1 _ _) b1) b2⟩
  | true =>
  by_cases h0 : x = 0
  · subst h0
    have hs : decTextS n 0 = numS n := by unfold decTextS; rw [decTextL_int hk]; rfl
    rw [hs]
    rw [hk] at H1
    clear hs
    generalize numS n = S at *
    go_enter Tryd.func31, Tryd.ntmps31
    go_wp2_with fail
    refine (H2.out _ (below1 _ _)).mono ?_
    rintro _ w1 ⟨rfl, b1⟩
    obtain ⟨c0, c1, _⟩ := two_num b1 (one_block w _)
    go_wp2_with fail
    refine (H1.out _ (nx (below1 _ _) b1)).mono ?_
    rintro _ w2 ⟨rfl, b2⟩
    clear c0 c1
    obtain ⟨c0, c1, _⟩ := two_num (nx b1 b2) (one_block w _)
    go_wp2_with fail
    go_ret
    exact ⟨rfl, nx (nx (below1 _ _) b1) b2⟩
  · have hrg : -16 ≤ x ∧ x ≤ -1 := by
      rcases decOkB_iff.1 hk with ⟨h, _⟩ | ⟨a, b, _⟩
      · exact absurd h h0
      · exact ⟨a, b⟩
    have hd17 : dgs n ≤ 17 := by
      rcases decOkB_iff.1 hk with ⟨h, _⟩ | ⟨_, _, a, b, _⟩
      · exact absurd h h0
      · exact dgs_17.2 ⟨a, b⟩
    obtain ⟨k, rfl⟩ : ∃ k : Nat, x = -(k : Int) := ⟨(-x).toNat, by omega⟩
    have hk1 : 1 ≤ k := by omega
    have hk16 : k ≤ 16 := by omega
    have hs : decTextS n (-(k : Int)) = ⟨(pointed n k (padZ (1 + k) (Lib.decDigits n.natAbs))).toArray⟩ := by unfold decTextS; rw [decTextL_pt hk h0 rfl]
    have hx0 : (-(k : Int) == 0) = false := by simp; omega
    have hx1 : ¬ k = 0 := by omega
    rw [hs]
    rw [hk] at H1
    have hdl : (Lib.decDigits n.natAbs).length ≤ 17 := by rw [Lib.decDigits_length]; exact hd17
    have hcp : ∀ w, Calls Tryd.prog 100 #[.string (numS n), .string { data := #[45] }] w fun e w' => e = .returned (.tuple #[.string ⟨(Lib.decDigits n.natAbs).toArray⟩, .bool (decide (n < 0))]) ∧ w' = w := by
      intro w
      have := Tryd.strings_CutPrefix (numS n) { data := #[45] } w
      have e1 : Lib.trimPrefix (numS n).data.toList ({ data := #[45] } : ByteArray).data.toList = Lib.decDigits n.natAbs := (cut_minus n).1
      have e2 : Lib.hasPrefix (numS n).data.toList ({ data := #[45] } : ByteArray).data.toList = decide (n < 0) := (cut_minus n).2
      rw [e1, e2] at this
      exact this
    have HC := Lib.hid hcp
    clear hs hrg hd17 h0 hk hcp
    generalize numS n = S at *
    generalize Lib.decDigits n.natAbs = D at *
    go_enter Tryd.func31, Tryd.ntmps31
    go_wp2_with fail
    refine (H2.out _ (below1 _ _)).mono ?_
    rintro _ w1 ⟨rfl, b1⟩
    obtain ⟨c0, c1, _⟩ := two_num b1 (one_block w _)
    go_wp2_with fail
    refine (H1.out _ (nx (below1 _ _) b1)).mono ?_
    rintro _ w2 ⟨rfl, b2⟩
    clear c0 c1
    obtain ⟨c0, c1, _⟩ := two_num (nx b1 b2) (one_block w _)
    have t2 := nx b1 b2
    go_wp2_with fail
    refine (HC.out _).mono ?_
    rintro _ _ ⟨rfl, rfl⟩
    go_wp2_with fail
    go_loop [4] (fun s => ∃ l : List UInt8, s = .string ⟨l.toArray⟩ ∧ padZ (1 + k) l = padZ (1 + k) D ∧ l.length ≤ 17) (fun s => 40 - strLen s)
    case atStart => exact ⟨D, rfl, rfl, hdl⟩
    case round =>
      obtain ⟨l, rfl, hpad, hl⟩ := hrel
      have hch : ({ data := #[48] } : ByteArray).size = 1 := rfl
      by_cases hlt : l.length < 1 + k
      · have hpn := (padZ_step hlt).trans hpad
        have hm := strLen_mk l
        have hm2 := strLen_mk (48 :: l)
        have HPN := Lib.hid hpn; have HM := Lib.hid hm; have HM2 := Lib.hid hm2
        have hd1 : (l.length : Int) ≤ (k : Int) := by omega
        have hd2 : l.length ≤ k := by omega
        clear hpad hpn hm hm2
        go_wp2_with fail
        rw [str_cons]
        go_round
        case rel => exact ⟨48 :: l, rfl, HPN.out, by simp; omega⟩
        case measure =>
          show 40 - strLen (.string ⟨(48 :: l).toArray⟩) < 40 - strLen (.string ⟨l.toArray⟩)
          rw [HM.out, HM2.out, List.length_cons]; omega
      · have hl2 : padZ (1 + k) D = l := by rw [← hpad]; exact padZ_done (by omega)
        obtain ⟨p, hp⟩ : ∃ p, l.length = p + k := ⟨l.length - k, by omega⟩
        have hp1 : 1 ≤ p := by omega
        have hge : ¬ (l.length : Int) ≤ (k : Int) := by omega
        have hge2 : ¬ p = 0 := by omega
        have hsum : (p : Int) + (k : Int) + -(k : Int) = p := by omega
        have HL2 := Lib.hid hl2
        clear hpad hl2
        by_cases hn : n < 0
        · have hdn : decide (n < 0) = true := decide_eq_true hn
          go_wp2_with fail
          go_quiet (fail)
          go_wp2_with fail
          go_ret
          refine ⟨ret_str ?_, drewN_belowT (nx (below1 _ _) t2) _⟩
          rw [HL2.out, pointed_neg hn, ← pointed_str [45] l p k hp]
          apply ByteArray.ext
          simp
        · have hdn : decide (n < 0) = false := decide_eq_false hn
          go_wp2_with fail
          go_quiet (fail)
          go_wp2_with fail
          go_ret
          refine ⟨ret_str ?_, drewN_belowT (nx (below1 _ _) t2) _⟩
          rw [HL2.out, pointed_pos (by omega)]
          exact pointed_str0 l p k hp
end Go.Proofs.YtilmhemcpgiikaaDoor
/- FltText and LessFlt: both alike. -/
namespace Go.Proofs.YtilmhemcpgiikaaDoor
open Go.Deep Go.ChangeShapes Go.WideShapes Go.ChangeAt Go.RowKit
open Go.ChangeMaps (open_string shut_string)

def fltTextS (m e : Int) : ByteArray := if fltOkF m e = true then decTextS (fltDecF m e).1 (fltDecF m e).2 else { data := #[] }


set_option maxHeartbeats 1000000 in
theorem fltText_spec (m e : Int) (w : World) :
    Calls Tryd.prog 51 #[.agg #[.int .i64 m, .int .i64 e]] w fun en w' => en = .returned (.string (fltTextS m e)) ∧ Below w.heap.size w w' := by
  have h1 := fun w1 => fltOk_spec m e w1
  have h2 := fun w1 (hb : Below w.heap.size w w1) => fltDec_spec m e w1
  have h3 := fun w1 (hb : Below w.heap.size w w1) => (decText_spec (fltDecF m e).1 (fltDecF m e).2 w1 (fltDecF_bd m e).1 (fltDecF_bd m e).2)
  cases hk : fltOkF m e with
  | false =>
    have hr : fltTextS m e = { data := #[] } := if_neg (by rw [hk]; simp)
    rw [hr]
    rw [hk] at h1
    have H1 := Lib.hid h1
    clear hr h1 h2 h3
    go_enter Tryd.func51, Tryd.ntmps51
    go_wp2_with fail
    refine (H1.out _).mono ?_
    rintro _ w1 ⟨rfl, b1⟩
    go_wp2_with fail
    go_ret
    exact ⟨rfl, nx (below1 _ _) b1⟩
  | true =>
    have hr : fltTextS m e = decTextS (fltDecF m e).1 (fltDecF m e).2 := if_pos hk
    rw [hr]
    rw [hk] at h1
    clear hr
    generalize decTextS (fltDecF m e).1 (fltDecF m e).2 = S at *
    generalize fltDecF m e = z at *
    obtain ⟨A, B⟩ := z
    dsimp only at h2 h3
    have H1 := Lib.hid h1; have H2 := Lib.hid h2; have H3 := Lib.hid h3
    clear h1 h2 h3
    go_enter Tryd.func51, Tryd.ntmps51
    go_wp2_with fail
    refine (H1.out _).mono ?_
    rintro _ w1 ⟨rfl, b1⟩
    obtain ⟨c0, c1⟩ := box2 b1
    have t1 := nx (below1 _ _) b1
    go_wp2_with fail
    refine (H2.out _ t1).mono ?_
    rintro _ w2 ⟨rfl, b2⟩
    go_wp2_with fail
    refine (H3.out _ (nx t1 b2)).mono ?_
    rintro _ w3 ⟨rfl, b3⟩
    go_wp2_with fail
    go_ret
    exact ⟨rfl, nx (nx t1 b2) b3⟩


set_option maxHeartbeats 1000000 in
theorem fltText_impl (m e : Int) (w : World) (hL : LaidP w) :
    Calls Tryd.prog 50 #[.agg #[.int .i64 m, .int .i64 e]] w fun en w' => en = .returned (.string (fltTextS m e)) ∧ Below w.heap.size w w' := by
  have h1 := fun w1 => fltOk_impl m e w1
  have h2 := fun w1 (hb : Below w.heap.size w w1) => fltDec_impl m e w1 (hL.kept hb)
  have h3 := fun w1 (hb : Below w.heap.size w w1) => (decText_impl (fltDecF m e).1 (fltDecF m e).2 w1 (hL.kept hb) (fltDecF_bd m e).1 (fltDecF_bd m e).2)
  cases hk : fltOkF m e with
  | false =>
    have hr : fltTextS m e = { data := #[] } := if_neg (by rw [hk]; simp)
    rw [hr]
    rw [hk] at h1
    have H1 := Lib.hid h1
    clear hr h1 h2 h3 hL
    go_enter Tryd.func50, Tryd.ntmps50
    go_wp2_with fail
    refine (H1.out _).mono ?_
    rintro _ w1 ⟨rfl, b1⟩
    go_wp2_with fail
    go_ret
    exact ⟨rfl, nx (below1 _ _) b1⟩
  | true =>
    have hr : fltTextS m e = decTextS (fltDecF m e).1 (fltDecF m e).2 := if_pos hk
    rw [hr]
    rw [hk] at h1
    clear hr hL
    generalize decTextS (fltDecF m e).1 (fltDecF m e).2 = S at *
    generalize fltDecF m e = z at *
    obtain ⟨A, B⟩ := z
    dsimp only at h2 h3
    have H1 := Lib.hid h1; have H2 := Lib.hid h2; have H3 := Lib.hid h3
    clear h1 h2 h3
    go_enter Tryd.func50, Tryd.ntmps50
    go_wp2_with fail
    refine (H1.out _).mono ?_
    rintro _ w1 ⟨rfl, b1⟩
    obtain ⟨c0, c1⟩ := box2 b1
    have t1 := nx (below1 _ _) b1
    go_wp2_with fail
    refine (H2.out _ t1).mono ?_
    rintro _ w2 ⟨rfl, b2⟩
    go_wp2_with fail
    refine (H3.out _ (nx t1 b2)).mono ?_
    rintro _ w3 ⟨rfl, b3⟩
    go_wp2_with fail
    go_ret
    exact ⟨rfl, nx (nx t1 b2) b3⟩


end Go.Proofs.YtilmhemcpgiikaaDoor
/- NearFlt of the program. -/
namespace Go.Proofs.YtilmhemcpgiikaaDoor
open Go.Deep Go.ChangeShapes Go.WideShapes Go.ChangeAt Go.RowKit
open Go.ChangeMaps (open_string shut_string)

/-- How a rest compares with a half. -/
def cmpH (r d : Nat) : Int := if d < 2 * r then 1 else if 2 * r = d then 0 else -1
/-- What 'shifted' gives. -/
def shQ (n k d : Nat) : Nat := if d * 18446744073709551616 ≤ n * 2 ^ k then 9223372036854775808 else n * 2 ^ k / d
def shH (n k d : Nat) : Int := if d * 18446744073709551616 ≤ n * 2 ^ k then 0 else cmpH (n * 2 ^ k % d) d

set_option maxRecDepth 100000 in
set_option maxHeartbeats 4000000 in
theorem shifted_c (n k d : Nat) (w : World) (hn : n < 18446744073709551616) (hk : k ≤ 16) (hd : 0 < d) (hd2 : d < 18446744073709551616) :
    Calls Tryd.prog 113 #[.int .u64 n, .int .u64 k, .int .u64 d] w fun e w' => e = .returned (.tuple #[.int .u64 ((shQ n k d : Nat) : Int), .int .i64 (shH n k d)]) ∧ Below w.heap.size w w' := by
  have hp : 2 ^ k ≤ 65536 := by
    have := Nat.pow_le_pow_right (n := 2) (by decide) hk
    have e : (2 : Nat) ^ 16 = 65536 := by decide
    rw [e] at this; exact this
  have f1 : IntKind.u64.wrap (2 ^ k : Int) = ((2 ^ k : Nat) : Int) := by
    have := u64w (2 ^ k) (by omega)
    rw [Int.natCast_pow] at this ⊢
    exact this
  have hm := fun w => Tryd.bits_Mul64 n (2 ^ k) hn (by omega) w
  obtain ⟨hi, hhi⟩ : ∃ z, z = n * 2 ^ k / 18446744073709551616 := ⟨_, rfl⟩
  obtain ⟨lo, hlo⟩ : ∃ z, z = n * 2 ^ k % 18446744073709551616 := ⟨_, rfl⟩
  have hN : n * 2 ^ k = hi * 18446744073709551616 + lo := by omega
  rw [← hhi, ← hlo] at hm
  have hlo2 : lo < 18446744073709551616 := by omega
  have hhi2 : hi < 18446744073709551616 := by
    have := Nat.mul_le_mul (show n ≤ 18446744073709551615 by omega) hp
    omega
  by_cases hb : d ≤ hi
  · have hs : d * 18446744073709551616 ≤ n * 2 ^ k := by omega
    have h1 : shQ n k d = 9223372036854775808 := if_pos hs
    have h2 : shH n k d = 0 := if_pos hs
    rw [h1, h2]
    have HM := Lib.hid hm
    have hc : decide ((d : Int) ≤ (hi : Int)) = true := decide_eq_true (by omega)
    clear h1 h2 hs hN hhi hlo hm hp
    generalize (2 : Nat) ^ k = P at *
    go_enter Tryd.func113, Tryd.ntmps113
    go_wp2_with fail
    refine (HM.out _).mono ?_
    rintro _ _ ⟨rfl, rfl⟩
    go_wp2_with fail
    go_ret2
    exact ⟨rfl, Below.refl _ _⟩
  · have hs : ¬ d * 18446744073709551616 ≤ n * 2 ^ k := by
      have := Nat.mul_le_mul_right 18446744073709551616 (show hi + 1 ≤ d by omega)
      omega
    have h1 : shQ n k d = n * 2 ^ k / d := if_neg hs
    have h2 : shH n k d = cmpH (n * 2 ^ k % d) d := if_neg hs
    rw [h1, h2]
    have hv := fun w => div64_c hi lo d w (by omega) hd2 hlo2
    rw [← hN] at hv
    have hrl := Nat.mod_lt (n * 2 ^ k) hd
    have hcn : ¬ (d : Int) ≤ (hi : Int) := by omega
    obtain ⟨Q, hQ⟩ : ∃ z, z = n * 2 ^ k / d := ⟨_, rfl⟩
    obtain ⟨R, hR⟩ : ∃ z, z = n * 2 ^ k % d := ⟨_, rfl⟩
    rw [← hQ, ← hR] at hv ⊢
    rw [← hR] at hrl
    have HM := Lib.hid hm; have HV := Lib.hid hv
    have hdec : decide ((d : Int) ≤ (hi : Int)) = false := decide_eq_false hcn
    have hsub : IntKind.u64.wrap ((d : Int) - (R : Int)) = (d : Int) - (R : Int) := IntWalk.u64_in _ (by omega)
    obtain ⟨D, hD⟩ : ∃ z : Int, z = (d : Int) := ⟨_, rfl⟩
    obtain ⟨RI, hRI⟩ : ∃ z : Int, z = (R : Int) := ⟨_, rfl⟩
    clear hs hN hhi hlo hm hv h1 h2 hQ hR hb hp
    generalize (2 : Nat) ^ k = P at *
    have hc : (d < 2 * R) ∨ (¬ d < 2 * R ∧ 2 * R = d) ∨ (¬ d < 2 * R ∧ ¬ 2 * R = d) := by omega
    rcases hc with h | ⟨h, h'⟩ | ⟨h, h'⟩
    · have hr : cmpH R d = 1 := if_pos h
      rw [hr]
      have t1 : decide ((d : Int) - (R : Int) < (R : Int)) = true := decide_eq_true (by omega)
      clear h hr
      go_enter Tryd.func113, Tryd.ntmps113
      go_wp2_with fail
      refine (HM.out _).mono ?_
      rintro _ _ ⟨rfl, rfl⟩
      go_wp2_with fail
      refine (HV.out _).mono ?_
      rintro _ w2 ⟨rfl, b2⟩
      go_wp2_with fail
      go_ret2
      exact ⟨rfl, b2⟩
    · have hr : cmpH R d = 0 := by unfold cmpH; rw [if_neg h, if_pos h']
      rw [hr]
      have t1 : decide ((d : Int) - (R : Int) < (R : Int)) = false := decide_eq_false (by omega)
      have t2 : (R : Int) = (d : Int) - (R : Int) := by omega
      have t3 : ((R : Int) == (d : Int) - (R : Int)) = true := by rw [← t2]; simp
      clear h h' hr t2
      go_enter Tryd.func113, Tryd.ntmps113
      go_wp2_with fail
      refine (HM.out _).mono ?_
      rintro _ _ ⟨rfl, rfl⟩
      go_wp2_with fail
      refine (HV.out _).mono ?_
      rintro _ w2 ⟨rfl, b2⟩
      go_wp2_with fail
      go_ret2
      exact ⟨rfl, b2⟩
    · have hr : cmpH R d = -1 := by unfold cmpH; rw [if_neg h, if_neg h']
      rw [hr]
      have t1 : decide ((d : Int) - (R : Int) < (R : Int)) = false := decide_eq_false (by omega)
      have t2 : ¬ (R : Int) = (d : Int) - (R : Int) := by omega
      have t3 : ((R : Int) == (d : Int) - (R : Int)) = false := by simpa using t2
      clear h h' hr t2
      go_enter Tryd.func113, Tryd.ntmps113
      go_wp2_with fail
      refine (HM.out _).mono ?_
      rintro _ _ ⟨rfl, rfl⟩
      go_wp2_with fail
      refine (HV.out _).mono ?_
      rintro _ w2 ⟨rfl, b2⟩
      go_wp2_with fail
      go_ret2
      exact ⟨rfl, b2⟩
end Go.Proofs.YtilmhemcpgiikaaDoor
/- NearFlt of the program. -/
namespace Go.Proofs.YtilmhemcpgiikaaDoor
open Go.Deep Go.ChangeShapes Go.WideShapes Go.ChangeAt Go.RowKit
open Go.ChangeMaps (open_string shut_string)

theorem near_bounds {N P : Nat} {E : Int} (hN : N < 100000000000000000) (hP : 1 ≤ P) (hP2 : P ≤ 10000000000000000) (_h16 : -16 ≤ E) (h : E = -16 ∨ 65535 < qE N P (E - 1)) : E ≤ 41 ∧ 1 ≤ P * 2 ^ E.toNat ∧ P * 2 ^ E.toNat ≤ 10000000000000000 := by
  by_cases h1 : 1 ≤ E
  · have hq := h.resolve_left (by omega)
    unfold qE at hq
    rw [show (-(E - 1)).toNat = 0 by omega, Nat.pow_zero, Nat.mul_one] at hq
    have e : E.toNat = (E - 1).toNat + 1 := by omega
    have hX : 0 < P * 2 ^ (E - 1).toNat := Nat.mul_pos hP (Nat.pow_pos (by decide))
    have hle : 65536 ≤ N / (P * 2 ^ (E - 1).toNat) := hq
    rw [Nat.le_div_iff_mul_le hX] at hle
    refine ⟨?_, ?_, ?_⟩
    · by_cases h41 : E ≤ 41
      · exact h41
      · exfalso
        have a := Nat.pow_le_pow_right (n := 2) (by decide) (show 41 ≤ (E - 1).toNat by omega)
        have e41 : (2 : Nat) ^ 41 = 2199023255552 := by decide
        rw [e41] at a
        have b := Nat.mul_le_mul hP a
        generalize P * 2 ^ (E - 1).toNat = X at *
        omega
    · exact Nat.mul_pos hP (Nat.pow_pos (by decide))
    · rw [e, Nat.pow_succ, ← Nat.mul_assoc]
      generalize P * 2 ^ (E - 1).toNat = X at *
      omega
  · rw [show E.toNat = 0 by omega, Nat.pow_zero, Nat.mul_one]; omega
theorem sh_big {N P : Nat} {E : Int} (_hd : 0 < P * 2 ^ E.toNat) (h : 65535 < qE N P E) : 65535 < shQ N (-E).toNat (P * 2 ^ E.toNat) := by
  unfold shQ; split
  · decide
  · exact h
theorem sh_small {N P : Nat} {E : Int} (hd : 0 < P * 2 ^ E.toNat) (h : qE N P E ≤ 65535) : shQ N (-E).toNat (P * 2 ^ E.toNat) = qE N P E ∧ shH N (-E).toNat (P * 2 ^ E.toNat) = cmpH (rE N P E) (P * 2 ^ E.toNat) := by
  have hs : ¬ P * 2 ^ E.toNat * 18446744073709551616 ≤ N * 2 ^ (-E).toNat := by
    intro hc
    have : 18446744073709551616 ≤ qE N P E := by
      unfold qE
      rw [Nat.le_div_iff_mul_le hd, Nat.mul_comm]; exact hc
    omega
  exact ⟨if_neg hs, if_neg hs⟩
theorem bump_cmp {q r d : Nat} : bump q r d = if 0 < cmpH r d ∨ cmpH r d = 0 ∧ q % 2 = 1 then q + 1 else q := by
  unfold bump cmpH
  by_cases h1 : d < 2 * r
  · rw [if_pos (.inl h1), if_pos h1, if_pos (.inl (by decide))]
  · by_cases h2 : 2 * r = d
    · by_cases h3 : q % 2 = 1
      · rw [if_pos (.inr ⟨h2, h3⟩), if_neg h1, if_pos h2, if_pos (.inr ⟨rfl, h3⟩)]
      · rw [if_neg (by omega), if_neg h1, if_pos h2, if_neg (by omega)]
    · rw [if_neg (by omega), if_neg h1, if_neg h2, if_neg (by omega)]

theorem nearF_no {n x : Int} (h : decOkB n x = false) : nearF n x = (0, 0, false) := if_neg (by rw [h]; simp)

set_option maxRecDepth 100000 in
set_option maxHeartbeats 2000000 in
theorem nearFlt_impl (n x : Int) (w : World) (hL : LaidP w) (h1 : -9223372036854775808 ≤ n) (h2 : n ≤ 9223372036854775807) :
    Calls Tryd.prog 52 #[.agg #[.int .i64 n, .int .i64 x]] w fun en w' => en = .returned (.tuple #[.agg #[.int .i64 (nearF n x).1, .int .i64 (nearF n x).2.1], .bool (nearF n x).2.2]) ∧ Below w.heap.size w w' := by
  have H1 := Lib.hid (fun w1 (hb : Below w.heap.size w w1) => decOk_impl n x w1 (hL.kept hb) h1 h2)
  clear hL
  cases hk : decOkB n x with
  | false =>
    rw [nearF_no hk]
    rw [hk] at H1
    go_enter Tryd.func52, Tryd.ntmps52
    go_wp2_with fail
    refine (H1.out _ (below2 _ _ _)).mono ?_
    rintro _ w1 ⟨rfl, b1⟩
    obtain ⟨r0, r1, rf⟩ := two_num b1 (second_block2 w _ _)
    have rf0 := rf 0; have rf1 := rf 1; clear rf
    have hsz := b1.size
    simp only [World.size_alloc] at hsz
    have BB := Lib.hid b1; clear b1
    go_wp2_with fail
    refine bodyPost_ret (v := .tuple #[.agg #[.int .i64 0, .int .i64 0], .bool false]) (by simp [results, Tryd.results52, go_sem, r0, r1]) rfl ⟨rfl, ?_⟩
    iterate 2 refine Below.setCell ?_ (by dsimp only; omega) _
    exact nx (below2 _ _ _) BB.out
  | true =>
    obtain ⟨a1, a2, a3, a4⟩ := decOk_range hk
    rw [hk] at H1
    obtain ⟨P, hP⟩ : ∃ P : Nat, P = 10 ^ (-x).toNat := ⟨_, rfl⟩
    have hPI : (10 : Int) ^ (-x).toNat = (P : Int) := by rw [hP, Int.natCast_pow]; rfl
    obtain ⟨P', Q', e1, e2, hPQ, p1, q1, p2, q2⟩ := pow_pair a1 a2
    have hPP : (P : Int) = P' := hPI.symm.trans e1
    have hP1 : 1 ≤ P := by omega
    have hP2 : P ≤ 10000000000000000 := by omega
    obtain ⟨N, hN⟩ : ∃ N : Nat, N = n.natAbs := ⟨_, rfl⟩
    have hN1 : N < 100000000000000000 := by omega
    have hmax : max n (-n) = (N : Int) := by omega
    have hwn : IntKind.i64.wrap (-n) = -n := IntWalk.i64_in _ (by omega)
    have hwx : IntKind.i64.wrap (-x) = -x := IntWalk.i64_in _ (by omega)
    have c1 := fun w => power_c 10 (-x) w (by omega) (by omega) (by omega)
    rw [hPI] at c1
    have C1 := Lib.hid c1
    have hu1 : IntKind.u64.wrap (N : Int) = (N : Int) := u64w N (by omega)
    have hu2 : IntKind.u64.wrap (P : Int) = (P : Int) := u64w P (by omega)
    have HOF := Lib.hid (fun (e : Int) (hq : qE N P e ≤ 65535) (g1 : -16 ≤ e) (g2 : e < 54) (g3 : e = -16 ∨ 65535 < qE N P (e - 1)) => nearF_of hk hN hP hq g1 g2 g3)
    have hbd : ∀ E : Int, -16 ≤ E → (E = -16 ∨ 65535 < qE N P (E - 1)) → E ≤ 41 ∧ 1 ≤ P * 2 ^ E.toNat ∧ P * 2 ^ E.toNat ≤ 10000000000000000 := fun E g1 g2 => near_bounds hN1 hP1 hP2 g1 g2
    have HBD := Lib.hid hbd
    clear hbd c1 e1 e2 hPQ p1 q1 p2 q2 hPP hPI hk hP hN
    have F := Lib.hid (first_block w (.cells #[.int .i64 n, .int .i64 x] 42) (.cells #[.int .i64 0, .int .i64 0] 56))
    have G := Lib.hid (second_block2 w (.cells #[.int .i64 n, .int .i64 x] 42) (.cells #[.int .i64 0, .int .i64 0] 56))
    have bb := below2 w (.cells #[.int .i64 n, .int .i64 x] 42) (.cells #[.int .i64 0, .int .i64 0] 56)
    obtain ⟨W0, hW0⟩ : ∃ W0, W0 = (w.alloc (.cells #[.int .i64 n, .int .i64 x] 42)).alloc (.cells #[.int .i64 0, .int .i64 0] 56) := ⟨_, rfl⟩
    have HK : Hid (∀ w1, Below W0.heap.size W0 w1 → (w1.cell? ⟨w.heap.size, 0, none⟩ = some (.int .i64 n) ∧ w1.cell? ⟨w.heap.size, 1, none⟩ = some (.int .i64 x)) ∧ (w1.cell? ⟨w.heap.size + 1, 0, none⟩ = some (.int .i64 0) ∧ w1.cell? ⟨w.heap.size + 1, 1, none⟩ = some (.int .i64 0) ∧ w1.frozen? ⟨w.heap.size + 1, 0, none⟩ = false ∧ w1.frozen? ⟨w.heap.size + 1, 1, none⟩ = false)) :=
      Lib.hid (fun w1 hb => by
        subst hW0
        obtain ⟨c0, c1, _⟩ := two_num hb F.out
        obtain ⟨d0, d1, df⟩ := two_num hb G.out
        exact ⟨⟨c0, c1⟩, d0, d1, df 0, df 1⟩)
    rw [← hW0] at bb
    have HW := Lib.hid hW0
    clear hW0 F G
    go_enter Tryd.func52, Tryd.ntmps52
    go_wp2_with fail
    rw [← HW.out]
    refine (H1.out _ bb).mono ?_
    rintro _ w1 ⟨rfl, b1⟩
    obtain ⟨⟨c0, c1⟩, -⟩ := HK.out _ b1
    go_wp2_with fail
    go_quiet ((go_at_call 109; exact Calls.quiet_of_same (quiet_eq' (C1.out _))))
    clear c0 c1
    have b2 := drewN_below b1 nq
    clear b1
    generalize w1.drewN nq = w2 at *
    go_wp2_with fail
    clear hmax hwn hwx hu1 C1 H1 h1 h2 a1 a2
    go_loopw [6] (fun e wr => ∃ E : Int, e = .int .i64 E ∧ -16 ≤ E ∧ E ≤ 41 ∧ Hid (E = -16 ∨ 65535 < qE N P (E - 1)) ∧ Below W0.heap.size W0 wr) (fun e _ => (60 - intOf e).toNat)
    case atStart => exact ⟨-16, rfl, by omega, by omega, Lib.hid (.inl rfl), b2⟩
    case round =>
      obtain ⟨E, rfl, hE1, hE2, hQ, hbw⟩ := hrel
      clear b2
      have hbdd := HBD.out E hE1 hQ.out
      obtain ⟨SQ, hSQ⟩ : ∃ z, z = shQ N (-E).toNat (P * 2 ^ E.toNat) := ⟨_, rfl⟩
      obtain ⟨SH, hSH⟩ : ∃ z, z = shH N (-E).toNat (P * 2 ^ E.toNat) := ⟨_, rfl⟩
      have hsh : ∀ w, Calls Tryd.prog 113 #[.int .u64 N, .int .u64 ((-E).toNat : Nat), .int .u64 ((P * 2 ^ E.toNat : Nat) : Int)] w fun e w' => e = .returned (.tuple #[.int .u64 ((SQ : Nat) : Int), .int .i64 SH]) ∧ Below w.heap.size w w' := by
        rw [hSQ, hSH]
        exact fun w => shifted_c N (-E).toNat (P * 2 ^ E.toNat) w (by omega) (by omega) (by omega) (by omega)
      have hmu : ∀ w, Calls Tryd.prog 112 #[.int .u64 P, .int .u64 ((2 ^ E.toNat : Nat) : Int)] w fun e w' => e = .returned (.tuple #[.int .u64 0, .int .u64 ((P * 2 ^ E.toNat : Nat) : Int)]) ∧ w' = w := by
        intro w
        have hG : 2 ^ E.toNat ≤ P * 2 ^ E.toNat := Nat.le_mul_of_pos_left _ (by omega)
        have := Tryd.bits_Mul64 P (2 ^ E.toNat) (by omega) (by omega) w
        rw [Nat.div_eq_of_lt (by omega), Nat.mod_eq_of_lt (by omega)] at this
        exact this
      have hmulw : IntKind.u64.wrap ((P : Int) * ((2 ^ E.toNat : Nat) : Int)) = ((P * 2 ^ E.toNat : Nat) : Int) := by
        rw [← Int.natCast_mul]; exact u64w _ (by omega)
      have hG1 : IntKind.u64.wrap ((2 ^ E.toNat : Nat) : Int) = ((2 ^ E.toNat : Nat) : Int) := u64w _ (by
        have : 2 ^ E.toNat ≤ P * 2 ^ E.toNat := Nat.le_mul_of_pos_left _ (by omega)
        omega)
      -- the two ways: not yet, or found
      have hway : (65535 < SQ ∧ Hid (65535 < qE N P (E + 1 - 1)) ∧ E + 1 ≤ 41) ∨ (SQ ≤ 65535 ∧ ∃ M : Nat, (((0 < SH ∨ SH = 0 ∧ SQ % 2 = 1) ∧ M = SQ + 1) ∨ (¬ (0 < SH ∨ SH = 0 ∧ SQ % 2 = 1) ∧ M = SQ)) ∧ Hid (nearF n x = newF (if n < 0 then -(M : Int) else (M : Int)) E)) := by
        by_cases hq : qE N P E ≤ 65535
        · obtain ⟨s1, s2⟩ := sh_small (N := N) (P := P) (E := E) (by omega) hq
          have hres := HOF.out E hq hE1 (by omega) hQ.out
          rw [bump_cmp, ← s1, ← s2, ← hSQ, ← hSH] at hres
          rw [← hSQ] at s1
          refine .inr ⟨by omega, _, ?_, Lib.hid hres⟩
          split
          · rename_i h; exact .inl ⟨h, rfl⟩
          · rename_i h; exact .inr ⟨h, rfl⟩
        · have hb := sh_big (N := N) (P := P) (E := E) (by omega) (by omega)
          rw [← hSQ] at hb
          have hq' : 65535 < qE N P (E + 1 - 1) := by rw [show E + 1 - 1 = E by omega]; omega
          have := (HBD.out (E + 1) (by omega) (.inr hq')).1
          exact .inl ⟨hb, Lib.hid hq', this⟩
      have hGpow : E.toNat ≤ 41 := by omega
      have HSH := Lib.hid hsh; have HMU := Lib.hid hmu
      have hshl : ∀ K : Nat, E = (K : Int) → IntKind.u64.wrap (2 ^ K : Int) = ((2 ^ E.toNat : Nat) : Int) := by
        intro K hK
        rw [hK, Int.toNat_natCast, Int.natCast_pow] at hG1
        rw [hK, Int.toNat_natCast, Int.natCast_pow]
        exact hG1
      have hun : E < 0 → ((2 ^ E.toNat : Nat) : Int) = 1 := by
        intro h; rw [show E.toNat = 0 by omega]; rfl
      have hup : ∀ K : Nat, E = (K : Int) → (((-E).toNat : Nat) : Int) = 0 := by intro K hK; omega
      have hun2 : E < 0 → (((-E).toNat : Nat) : Int) = -E := by intro h; omega
      clear hsh hmu hSQ hSH hbdd hG1
      generalize hgd : ((P * 2 ^ E.toNat : Nat) : Int) = D at *
      generalize hgg : ((2 ^ E.toNat : Nat) : Int) = G at *
      generalize hgu : (((-E).toNat : Nat) : Int) = U at *
      obtain ⟨QI, hQI⟩ : ∃ z : Int, z = (SQ : Int) := ⟨_, rfl⟩
      rw [← hQI] at HSH
      clear hgd hgg hgu HBD HOF hGpow
      rcases hway with ⟨hq1, hq2, hq3⟩ | ⟨hq1, M, hM, hres⟩
      · have hqi : 65535 < QI := by omega
        have hqd : decide (65535 < QI) = true := decide_eq_true hqi
        clear hq1 hQI
        by_cases hneg : E < 0
        · have g1 := hun hneg
          have g2 := hun2 hneg
          subst g1 g2
          have hnd : decide (E < 0) = true := decide_eq_true hneg
          have hu : IntKind.u64.wrap (-E) = -E := IntWalk.u64_in _ (by omega)
          have hmulw2 : IntKind.u64.wrap (P : Int) = D := by simpa using hmulw
          clear hun hun2 hup hshl hmulw hu2
          go_wp2_with fail
          (with_reducible refine (HMU.out _).mono ?_)
          rintro _ _ ⟨rfl, rfl⟩
          go_wp2_with fail
          (with_reducible refine (HSH.out _).mono ?_)
          rintro _ w3 ⟨rfl, b3⟩
          go_wp2_with fail
          go_roundw
          case rel => exact ⟨E + 1, rfl, by omega, by omega, Lib.hid (.inr hq2.out), nx hbw b3⟩
          case measure => simp [intOf]; omega
        · obtain ⟨K, rfl⟩ : ∃ K : Nat, E = (K : Int) := ⟨E.toNat, by omega⟩
          have g1 := hup K rfl
          have f1 := hshl K rfl
          subst g1
          have hnd : decide ((K : Int) < 0) = false := decide_eq_false (by omega)
          clear hun hun2 hup hshl hu2 hneg
          go_wp2_with fail
          (with_reducible refine (HMU.out _).mono ?_)
          rintro _ _ ⟨rfl, rfl⟩
          go_wp2_with fail
          (with_reducible refine (HSH.out _).mono ?_)
          rintro _ w3 ⟨rfl, b3⟩
          go_wp2_with fail
          go_roundw
          case rel => exact ⟨(K : Int) + 1, rfl, by omega, by omega, Lib.hid (.inr hq2.out), nx hbw b3⟩
          case measure => simp [intOf]; omega
      · by_cases hneg : E < 0
        · have g1 := hun hneg
          have g2 := hun2 hneg
          subst g1 g2
          have hnd : decide (E < 0) = true := decide_eq_true hneg
          have hu : IntKind.u64.wrap (-E) = -E := IntWalk.u64_in _ (by omega)
          have hmulw2 : IntKind.u64.wrap (P : Int) = D := by simpa using hmulw
          clear hun hun2 hup hshl hmulw hu2
          have hqi0 : 0 ≤ QI := by omega
          have hqi : QI ≤ 65535 := by omega
          have hqn : ¬ 65535 < QI := by omega
          have hqd : decide (65535 < QI) = false := decide_eq_false hqn
          have hc : 0 < SH ∨ (SH = 0 ∧ QI % 2 = 1) ∨ (SH = 0 ∧ QI % 2 = 0) ∨ SH < 0 := by omega
          rcases hc with hc | ⟨hc, ho⟩ | ⟨hc, ho⟩ | hc
          · have hMI : (M : Int) = QI + 1 := by omega
            have x1 : decide (0 < SH) = true := decide_eq_true hc
            clear hM hQI hq1 hqn
            by_cases hn : n < 0
            · have hV : nearF n x = newF (-(QI + 1)) E := by rw [hres.out, if_pos hn, hMI]
              have hdn : decide (n < 0) = true := decide_eq_true hn
              obtain ⟨⟨A, B, C⟩, hz⟩ : ∃ z, newF (-(QI + 1)) E = z := ⟨_, rfl⟩
              have hfn := fun w => newF_impl (-(QI + 1)) E w
              rw [hz] at hV hfn
              have HR := Lib.hid hV; have HFN := Lib.hid hfn
              clear hV hfn hz hMI hres
              go_wp2_with fail
              (with_reducible refine (HMU.out _).mono ?_)
              rintro _ _ ⟨rfl, rfl⟩
              go_wp2_with fail
              (with_reducible refine (HSH.out _).mono ?_)
              rintro _ w3 ⟨rfl, b3⟩
              have t3 := nx hbw b3
              obtain ⟨⟨c0, c1⟩, -⟩ := HK.out _ t3
              go_wp2_with fail
              (with_reducible refine (HFN.out _).mono ?_)
              rintro _ w4 ⟨rfl, b4⟩
              clear c0 c1
              obtain ⟨-, s0, s1, sf0, sf1⟩ := HK.out _ (nx t3 b4)
              go_wp2_with fail
              refine bodyPost_ret (v := .tuple #[.agg #[.int .i64 A, .int .i64 B], .bool C]) (by simp [results, Tryd.results52, go_sem, s0, s1]) rfl ⟨by rw [HR.out], ?_⟩
              iterate 2 refine Below.setCell ?_ (by dsimp only; omega) _
              exact nx bb (nx t3 b4)
            · have hV : nearF n x = newF (QI + 1) E := by rw [hres.out, if_neg hn, hMI]
              have hdn : decide (n < 0) = false := decide_eq_false hn
              obtain ⟨⟨A, B, C⟩, hz⟩ : ∃ z, newF (QI + 1) E = z := ⟨_, rfl⟩
              have hfn := fun w => newF_impl (QI + 1) E w
              rw [hz] at hV hfn
              have HR := Lib.hid hV; have HFN := Lib.hid hfn
              clear hV hfn hz hMI hres
              go_wp2_with fail
              (with_reducible refine (HMU.out _).mono ?_)
              rintro _ _ ⟨rfl, rfl⟩
              go_wp2_with fail
              (with_reducible refine (HSH.out _).mono ?_)
              rintro _ w3 ⟨rfl, b3⟩
              have t3 := nx hbw b3
              obtain ⟨⟨c0, c1⟩, -⟩ := HK.out _ t3
              go_wp2_with fail
              (with_reducible refine (HFN.out _).mono ?_)
              rintro _ w4 ⟨rfl, b4⟩
              clear c0 c1
              obtain ⟨-, s0, s1, sf0, sf1⟩ := HK.out _ (nx t3 b4)
              go_wp2_with fail
              refine bodyPost_ret (v := .tuple #[.agg #[.int .i64 A, .int .i64 B], .bool C]) (by simp [results, Tryd.results52, go_sem, s0, s1]) rfl ⟨by rw [HR.out], ?_⟩
              iterate 2 refine Below.setCell ?_ (by dsimp only; omega) _
              exact nx bb (nx t3 b4)
          · have hMI : (M : Int) = QI + 1 := by omega
            subst hc
            have x3 : (QI % 2 == 1) = true := by rw [ho]; rfl
            clear hM hQI hq1 hqn
            by_cases hn : n < 0
            · have hV : nearF n x = newF (-(QI + 1)) E := by rw [hres.out, if_pos hn, hMI]
              have hdn : decide (n < 0) = true := decide_eq_true hn
              obtain ⟨⟨A, B, C⟩, hz⟩ : ∃ z, newF (-(QI + 1)) E = z := ⟨_, rfl⟩
              have hfn := fun w => newF_impl (-(QI + 1)) E w
              rw [hz] at hV hfn
              have HR := Lib.hid hV; have HFN := Lib.hid hfn
              clear hV hfn hz hMI hres
              go_wp2_with fail
              (with_reducible refine (HMU.out _).mono ?_)
              rintro _ _ ⟨rfl, rfl⟩
              go_wp2_with fail
              (with_reducible refine (HSH.out _).mono ?_)
              rintro _ w3 ⟨rfl, b3⟩
              have t3 := nx hbw b3
              obtain ⟨⟨c0, c1⟩, -⟩ := HK.out _ t3
              go_wp2_with fail
              (with_reducible refine (HFN.out _).mono ?_)
              rintro _ w4 ⟨rfl, b4⟩
              clear c0 c1
              obtain ⟨-, s0, s1, sf0, sf1⟩ := HK.out _ (nx t3 b4)
              go_wp2_with fail
              refine bodyPost_ret (v := .tuple #[.agg #[.int .i64 A, .int .i64 B], .bool C]) (by simp [results, Tryd.results52, go_sem, s0, s1]) rfl ⟨by rw [HR.out], ?_⟩
              iterate 2 refine Below.setCell ?_ (by dsimp only; omega) _
              exact nx bb (nx t3 b4)
            · have hV : nearF n x = newF (QI + 1) E := by rw [hres.out, if_neg hn, hMI]
              have hdn : decide (n < 0) = false := decide_eq_false hn
              obtain ⟨⟨A, B, C⟩, hz⟩ : ∃ z, newF (QI + 1) E = z := ⟨_, rfl⟩
              have hfn := fun w => newF_impl (QI + 1) E w
              rw [hz] at hV hfn
              have HR := Lib.hid hV; have HFN := Lib.hid hfn
              clear hV hfn hz hMI hres
              go_wp2_with fail
              (with_reducible refine (HMU.out _).mono ?_)
              rintro _ _ ⟨rfl, rfl⟩
              go_wp2_with fail
              (with_reducible refine (HSH.out _).mono ?_)
              rintro _ w3 ⟨rfl, b3⟩
              have t3 := nx hbw b3
              obtain ⟨⟨c0, c1⟩, -⟩ := HK.out _ t3
              go_wp2_with fail
              (with_reducible refine (HFN.out _).mono ?_)
              rintro _ w4 ⟨rfl, b4⟩
              clear c0 c1
              obtain ⟨-, s0, s1, sf0, sf1⟩ := HK.out _ (nx t3 b4)
              go_wp2_with fail
              refine bodyPost_ret (v := .tuple #[.agg #[.int .i64 A, .int .i64 B], .bool C]) (by simp [results, Tryd.results52, go_sem, s0, s1]) rfl ⟨by rw [HR.out], ?_⟩
              iterate 2 refine Below.setCell ?_ (by dsimp only; omega) _
              exact nx bb (nx t3 b4)
          · have hMI : (M : Int) = QI := by omega
            subst hc
            have x3 : (QI % 2 == 1) = false := by rw [ho]; rfl
            clear hM hQI hq1 hqn
            by_cases hn : n < 0
            · have hV : nearF n x = newF (-(QI)) E := by rw [hres.out, if_pos hn, hMI]
              have hdn : decide (n < 0) = true := decide_eq_true hn
              obtain ⟨⟨A, B, C⟩, hz⟩ : ∃ z, newF (-(QI)) E = z := ⟨_, rfl⟩
              have hfn := fun w => newF_impl (-(QI)) E w
              rw [hz] at hV hfn
              have HR := Lib.hid hV; have HFN := Lib.hid hfn
              clear hV hfn hz hMI hres
              go_wp2_with fail
              (with_reducible refine (HMU.out _).mono ?_)
              rintro _ _ ⟨rfl, rfl⟩
              go_wp2_with fail
              (with_reducible refine (HSH.out _).mono ?_)
              rintro _ w3 ⟨rfl, b3⟩
              have t3 := nx hbw b3
              obtain ⟨⟨c0, c1⟩, -⟩ := HK.out _ t3
              go_wp2_with fail
              (with_reducible refine (HFN.out _).mono ?_)
              rintro _ w4 ⟨rfl, b4⟩
              clear c0 c1
              obtain ⟨-, s0, s1, sf0, sf1⟩ := HK.out _ (nx t3 b4)
              go_wp2_with fail
              refine bodyPost_ret (v := .tuple #[.agg #[.int .i64 A, .int .i64 B], .bool C]) (by simp [results, Tryd.results52, go_sem, s0, s1]) rfl ⟨by rw [HR.out], ?_⟩
              iterate 2 refine Below.setCell ?_ (by dsimp only; omega) _
              exact nx bb (nx t3 b4)
            · have hV : nearF n x = newF (QI) E := by rw [hres.out, if_neg hn, hMI]
              have hdn : decide (n < 0) = false := decide_eq_false hn
              obtain ⟨⟨A, B, C⟩, hz⟩ : ∃ z, newF (QI) E = z := ⟨_, rfl⟩
              have hfn := fun w => newF_impl (QI) E w
              rw [hz] at hV hfn
              have HR := Lib.hid hV; have HFN := Lib.hid hfn
              clear hV hfn hz hMI hres
              go_wp2_with fail
              (with_reducible refine (HMU.out _).mono ?_)
              rintro _ _ ⟨rfl, rfl⟩
              go_wp2_with fail
              (with_reducible refine (HSH.out _).mono ?_)
              rintro _ w3 ⟨rfl, b3⟩
              have t3 := nx hbw b3
              obtain ⟨⟨c0, c1⟩, -⟩ := HK.out _ t3
              go_wp2_with fail
              (with_reducible refine (HFN.out _).mono ?_)
              rintro _ w4 ⟨rfl, b4⟩
              clear c0 c1
              obtain ⟨-, s0, s1, sf0, sf1⟩ := HK.out _ (nx t3 b4)
              go_wp2_with fail
              refine bodyPost_ret (v := .tuple #[.agg #[.int .i64 A, .int .i64 B], .bool C]) (by simp [results, Tryd.results52, go_sem, s0, s1]) rfl ⟨by rw [HR.out], ?_⟩
              iterate 2 refine Below.setCell ?_ (by dsimp only; omega) _
              exact nx bb (nx t3 b4)
          · have hMI : (M : Int) = QI := by omega
            have x1 : decide (0 < SH) = false := decide_eq_false (by omega)
            have x2 : (SH == 0) = false := by simp; omega
            clear hM hQI hq1 hqn
            by_cases hn : n < 0
            · have hV : nearF n x = newF (-(QI)) E := by rw [hres.out, if_pos hn, hMI]
              have hdn : decide (n < 0) = true := decide_eq_true hn
              obtain ⟨⟨A, B, C⟩, hz⟩ : ∃ z, newF (-(QI)) E = z := ⟨_, rfl⟩
              have hfn := fun w => newF_impl (-(QI)) E w
              rw [hz] at hV hfn
              have HR := Lib.hid hV; have HFN := Lib.hid hfn
              clear hV hfn hz hMI hres
              go_wp2_with fail
              (with_reducible refine (HMU.out _).mono ?_)
              rintro _ _ ⟨rfl, rfl⟩
              go_wp2_with fail
              (with_reducible refine (HSH.out _).mono ?_)
              rintro _ w3 ⟨rfl, b3⟩
              have t3 := nx hbw b3
              obtain ⟨⟨c0, c1⟩, -⟩ := HK.out _ t3
              go_wp2_with fail
              (with_reducible refine (HFN.out _).mono ?_)
              rintro _ w4 ⟨rfl, b4⟩
              clear c0 c1
              obtain ⟨-, s0, s1, sf0, sf1⟩ := HK.out _ (nx t3 b4)
              go_wp2_with fail
              refine bodyPost_ret (v := .tuple #[.agg #[.int .i64 A, .int .i64 B], .bool C]) (by simp [results, Tryd.results52, go_sem, s0, s1]) rfl ⟨by rw [HR.out], ?_⟩
              iterate 2 refine Below.setCell ?_ (by dsimp only; omega) _
              exact nx bb (nx t3 b4)
            · have hV : nearF n x = newF (QI) E := by rw [hres.out, if_neg hn, hMI]
              have hdn : decide (n < 0) = false := decide_eq_false hn
              obtain ⟨⟨A, B, C⟩, hz⟩ : ∃ z, newF (QI) E = z := ⟨_, rfl⟩
              have hfn := fun w => newF_impl (QI) E w
              rw [hz] at hV hfn
              have HR := Lib.hid hV; have HFN := Lib.hid hfn
              clear hV hfn hz hMI hres
              go_wp2_with fail
              (with_reducible refine (HMU.out _).mono ?_)
              rintro _ _ ⟨rfl, rfl⟩
              go_wp2_with fail
              (with_reducible refine (HSH.out _).mono ?_)
              rintro _ w3 ⟨rfl, b3⟩
              have t3 := nx hbw b3
              obtain ⟨⟨c0, c1⟩, -⟩ := HK.out _ t3
              go_wp2_with fail
              (with_reducible refine (HFN.out _).mono ?_)
              rintro _ w4 ⟨rfl, b4⟩
              clear c0 c1
              obtain ⟨-, s0, s1, sf0, sf1⟩ := HK.out _ (nx t3 b4)
              go_wp2_with fail
              refine bodyPost_ret (v := .tuple #[.agg #[.int .i64 A, .int .i64 B], .bool C]) (by simp [results, Tryd.results52, go_sem, s0, s1]) rfl ⟨by rw [HR.out], ?_⟩
              iterate 2 refine Below.setCell ?_ (by dsimp only; omega) _
              exact nx bb (nx t3 b4)
        · obtain ⟨K, rfl⟩ : ∃ K : Nat, E = (K : Int) := ⟨E.toNat, by omega⟩
          have g1 := hup K rfl
          have f1 := hshl K rfl
          subst g1
          have hnd : decide ((K : Int) < 0) = false := decide_eq_false (by omega)
          clear hun hun2 hup hshl hu2 hneg
          have hqi0 : 0 ≤ QI := by omega
          have hqi : QI ≤ 65535 := by omega
          have hqn : ¬ 65535 < QI := by omega
          have hqd : decide (65535 < QI) = false := decide_eq_false hqn
          have hc : 0 < SH ∨ (SH = 0 ∧ QI % 2 = 1) ∨ (SH = 0 ∧ QI % 2 = 0) ∨ SH < 0 := by omega
          rcases hc with hc | ⟨hc, ho⟩ | ⟨hc, ho⟩ | hc
          · have hMI : (M : Int) = QI + 1 := by omega
            have x1 : decide (0 < SH) = true := decide_eq_true hc
            clear hM hQI hq1 hqn
            by_cases hn : n < 0
            · have hV : nearF n x = newF (-(QI + 1)) (K : Int) := by rw [hres.out, if_pos hn, hMI]
              have hdn : decide (n < 0) = true := decide_eq_true hn
              obtain ⟨⟨A, B, C⟩, hz⟩ : ∃ z, newF (-(QI + 1)) (K : Int) = z := ⟨_, rfl⟩
              have hfn := fun w => newF_impl (-(QI + 1)) (K : Int) w
              rw [hz] at hV hfn
              have HR := Lib.hid hV; have HFN := Lib.hid hfn
              clear hV hfn hz hMI hres
              go_wp2_with fail
              (with_reducible refine (HMU.out _).mono ?_)
              rintro _ _ ⟨rfl, rfl⟩
              go_wp2_with fail
              (with_reducible refine (HSH.out _).mono ?_)
              rintro _ w3 ⟨rfl, b3⟩
              have t3 := nx hbw b3
              obtain ⟨⟨c0, c1⟩, -⟩ := HK.out _ t3
              go_wp2_with fail
              (with_reducible refine (HFN.out _).mono ?_)
              rintro _ w4 ⟨rfl, b4⟩
              clear c0 c1
              obtain ⟨-, s0, s1, sf0, sf1⟩ := HK.out _ (nx t3 b4)
              go_wp2_with fail
              refine bodyPost_ret (v := .tuple #[.agg #[.int .i64 A, .int .i64 B], .bool C]) (by simp [results, Tryd.results52, go_sem, s0, s1]) rfl ⟨by rw [HR.out], ?_⟩
              iterate 2 refine Below.setCell ?_ (by dsimp only; omega) _
              exact nx bb (nx t3 b4)
            · have hV : nearF n x = newF (QI + 1) (K : Int) := by rw [hres.out, if_neg hn, hMI]
              have hdn : decide (n < 0) = false := decide_eq_false hn
              obtain ⟨⟨A, B, C⟩, hz⟩ : ∃ z, newF (QI + 1) (K : Int) = z := ⟨_, rfl⟩
              have hfn := fun w => newF_impl (QI + 1) (K : Int) w
              rw [hz] at hV hfn
              have HR := Lib.hid hV; have HFN := Lib.hid hfn
              clear hV hfn hz hMI hres
              go_wp2_with fail
              (with_reducible refine (HMU.out _).mono ?_)
              rintro _ _ ⟨rfl, rfl⟩
              go_wp2_with fail
              (with_reducible refine (HSH.out _).mono ?_)
              rintro _ w3 ⟨rfl, b3⟩
              have t3 := nx hbw b3
              obtain ⟨⟨c0, c1⟩, -⟩ := HK.out _ t3
              go_wp2_with fail
              (with_reducible refine (HFN.out _).mono ?_)
              rintro _ w4 ⟨rfl, b4⟩
              clear c0 c1
              obtain ⟨-, s0, s1, sf0, sf1⟩ := HK.out _ (nx t3 b4)
              go_wp2_with fail
              refine bodyPost_ret (v := .tuple #[.agg #[.int .i64 A, .int .i64 B], .bool C]) (by simp [results, Tryd.results52, go_sem, s0, s1]) rfl ⟨by rw [HR.out], ?_⟩
              iterate 2 refine Below.setCell ?_ (by dsimp only; omega) _
              exact nx bb (nx t3 b4)
          · have hMI : (M : Int) = QI + 1 := by omega
            subst hc
            have x3 : (QI % 2 == 1) = true := by rw [ho]; rfl
            clear hM hQI hq1 hqn
            by_cases hn : n < 0
            · have hV : nearF n x = newF (-(QI + 1)) (K : Int) := by rw [hres.out, if_pos hn, hMI]
              have hdn : decide (n < 0) = true := decide_eq_true hn
              obtain ⟨⟨A, B, C⟩, hz⟩ : ∃ z, newF (-(QI + 1)) (K : Int) = z := ⟨_, rfl⟩
              have hfn := fun w => newF_impl (-(QI + 1)) (K : Int) w
              rw [hz] at hV hfn
              have HR := Lib.hid hV; have HFN := Lib.hid hfn
              clear hV hfn hz hMI hres
              go_wp2_with fail
              (with_reducible refine (HMU.out _).mono ?_)
              rintro _ _ ⟨rfl, rfl⟩
              go_wp2_with fail
              (with_reducible refine (HSH.out _).mono ?_)
              rintro _ w3 ⟨rfl, b3⟩
              have t3 := nx hbw b3
              obtain ⟨⟨c0, c1⟩, -⟩ := HK.out _ t3
              go_wp2_with fail
              (with_reducible refine (HFN.out _).mono ?_)
              rintro _ w4 ⟨rfl, b4⟩
              clear c0 c1
              obtain ⟨-, s0, s1, sf0, sf1⟩ := HK.out _ (nx t3 b4)
              go_wp2_with fail
              refine bodyPost_ret (v := .tuple #[.agg #[.int .i64 A, .int .i64 B], .bool C]) (by simp [results, Tryd.results52, go_sem, s0, s1]) rfl ⟨by rw [HR.out], ?_⟩
              iterate 2 refine Below.setCell ?_ (by dsimp only; omega) _
              exact nx bb (nx t3 b4)
            · have hV : nearF n x = newF (QI + 1) (K : Int) := by rw [hres.out, if_neg hn, hMI]
              have hdn : decide (n < 0) = false := decide_eq_false hn
              obtain ⟨⟨A, B, C⟩, hz⟩ : ∃ z, newF (QI + 1) (K : Int) = z := ⟨_, rfl⟩
              have hfn := fun w => newF_impl (QI + 1) (K : Int) w
              rw [hz] at hV hfn
              have HR := Lib.hid hV; have HFN := Lib.hid hfn
              clear hV hfn hz hMI hres
              go_wp2_with fail
              (with_reducible refine (HMU.out _).mono ?_)
              rintro _ _ ⟨rfl, rfl⟩
              go_wp2_with fail
              (with_reducible refine (HSH.out _).mono ?_)
              rintro _ w3 ⟨rfl, b3⟩
              have t3 := nx hbw b3
              obtain ⟨⟨c0, c1⟩, -⟩ := HK.out _ t3
              go_wp2_with fail
              (with_reducible refine (HFN.out _).mono ?_)
              rintro _ w4 ⟨rfl, b4⟩
              clear c0 c1
              obtain ⟨-, s0, s1, sf0, sf1⟩ := HK.out _ (nx t3 b4)
              go_wp2_with fail
              refine bodyPost_ret (v := .tuple #[.agg #[.int .i64 A, .int .i64 B], .bool C]) (by simp [results, Tryd.results52, go_sem, s0, s1]) rfl ⟨by rw [HR.out], ?_⟩
              iterate 2 refine Below.setCell ?_ (by dsimp only; omega) _
              exact nx bb (nx t3 b4)
          · have hMI : (M : Int) = QI := by omega
            subst hc
            have x3 : (QI % 2 == 1) = false := by rw [ho]; rfl
            clear hM hQI hq1 hqn
            by_cases hn : n < 0
            · have hV : nearF n x = newF (-(QI)) (K : Int) := by rw [hres.out, if_pos hn, hMI]
              have hdn : decide (n < 0) = true := decide_eq_true hn
              obtain ⟨⟨A, B, C⟩, hz⟩ : ∃ z, newF (-(QI)) (K : Int) = z := ⟨_, rfl⟩
              have hfn := fun w => newF_impl (-(QI)) (K : Int) w
              rw [hz] at hV hfn
              have HR := Lib.hid hV; have HFN := Lib.hid hfn
              clear hV hfn hz hMI hres
              go_wp2_with fail
              (with_reducible refine (HMU.out _).mono ?_)
              rintro _ _ ⟨rfl, rfl⟩
              go_wp2_with fail
              (with_reducible refine (HSH.out _).mono ?_)
              rintro _ w3 ⟨rfl, b3⟩
              have t3 := nx hbw b3
              obtain ⟨⟨c0, c1⟩, -⟩ := HK.out _ t3
              go_wp2_with fail
              (with_reducible refine (HFN.out _).mono ?_)
              rintro _ w4 ⟨rfl, b4⟩
              clear c0 c1
              obtain ⟨-, s0, s1, sf0, sf1⟩ := HK.out _ (nx t3 b4)
              go_wp2_with fail
              refine bodyPost_ret (v := .tuple #[.agg #[.int .i64 A, .int .i64 B], .bool C]) (by simp [results, Tryd.results52, go_sem, s0, s1]) rfl ⟨by rw [HR.out], ?_⟩
              iterate 2 refine Below.setCell ?_ (by dsimp only; omega) _
              exact nx bb (nx t3 b4)
            · have hV : nearF n x = newF (QI) (K : Int) := by rw [hres.out, if_neg hn, hMI]
              have hdn : decide (n < 0) = false := decide_eq_false hn
              obtain ⟨⟨A, B, C⟩, hz⟩ : ∃ z, newF (QI) (K : Int) = z := ⟨_, rfl⟩
              have hfn := fun w => newF_impl (QI) (K : Int) w
              rw [hz] at hV hfn
              have HR := Lib.hid hV; have HFN := Lib.hid hfn
              clear hV hfn hz hMI hres
              go_wp2_with fail
              (with_reducible refine (HMU.out _).mono ?_)
              rintro _ _ ⟨rfl, rfl⟩
              go_wp2_with fail
              (with_reducible refine (HSH.out _).mono ?_)
              rintro _ w3 ⟨rfl, b3⟩
              have t3 := nx hbw b3
              obtain ⟨⟨c0, c1⟩, -⟩ := HK.out _ t3
              go_wp2_with fail
              (with_reducible refine (HFN.out _).mono ?_)
              rintro _ w4 ⟨rfl, b4⟩
              clear c0 c1
              obtain ⟨-, s0, s1, sf0, sf1⟩ := HK.out _ (nx t3 b4)
              go_wp2_with fail
              refine bodyPost_ret (v := .tuple #[.agg #[.int .i64 A, .int .i64 B], .bool C]) (by simp [results, Tryd.results52, go_sem, s0, s1]) rfl ⟨by rw [HR.out], ?_⟩
              iterate 2 refine Below.setCell ?_ (by dsimp only; omega) _
              exact nx bb (nx t3 b4)
          · have hMI : (M : Int) = QI := by omega
            have x1 : decide (0 < SH) = false := decide_eq_false (by omega)
            have x2 : (SH == 0) = false := by simp; omega
            clear hM hQI hq1 hqn
            by_cases hn : n < 0
            · have hV : nearF n x = newF (-(QI)) (K : Int) := by rw [hres.out, if_pos hn, hMI]
              have hdn : decide (n < 0) = true := decide_eq_true hn
              obtain ⟨⟨A, B, C⟩, hz⟩ : ∃ z, newF (-(QI)) (K : Int) = z := ⟨_, rfl⟩
              have hfn := fun w => newF_impl (-(QI)) (K : Int) w
              rw [hz] at hV hfn
              have HR := Lib.hid hV; have HFN := Lib.hid hfn
              clear hV hfn hz hMI hres
              go_wp2_with fail
              (with_reducible refine (HMU.out _).mono ?_)
              rintro _ _ ⟨rfl, rfl⟩
              go_wp2_with fail
              (with_reducible refine (HSH.out _).mono ?_)
              rintro _ w3 ⟨rfl, b3⟩
              have t3 := nx hbw b3
              obtain ⟨⟨c0, c1⟩, -⟩ := HK.out _ t3
              go_wp2_with fail
              (with_reducible refine (HFN.out _).mono ?_)
              rintro _ w4 ⟨rfl, b4⟩
              clear c0 c1
              obtain ⟨-, s0, s1, sf0, sf1⟩ := HK.out _ (nx t3 b4)
              go_wp2_with fail
              refine bodyPost_ret (v := .tuple #[.agg #[.int .i64 A, .int .i64 B], .bool C]) (by simp [results, Tryd.results52, go_sem, s0, s1]) rfl ⟨by rw [HR.out], ?_⟩
              iterate 2 refine Below.setCell ?_ (by dsimp only; omega) _
              exact nx bb (nx t3 b4)
            · have hV : nearF n x = newF (QI) (K : Int) := by rw [hres.out, if_neg hn, hMI]
              have hdn : decide (n < 0) = false := decide_eq_false hn
              obtain ⟨⟨A, B, C⟩, hz⟩ : ∃ z, newF (QI) (K : Int) = z := ⟨_, rfl⟩
              have hfn := fun w => newF_impl (QI) (K : Int) w
              rw [hz] at hV hfn
              have HR := Lib.hid hV; have HFN := Lib.hid hfn
              clear hV hfn hz hMI hres
              go_wp2_with fail
              (with_reducible refine (HMU.out _).mono ?_)
              rintro _ _ ⟨rfl, rfl⟩
              go_wp2_with fail
              (with_reducible refine (HSH.out _).mono ?_)
              rintro _ w3 ⟨rfl, b3⟩
              have t3 := nx hbw b3
              obtain ⟨⟨c0, c1⟩, -⟩ := HK.out _ t3
              go_wp2_with fail
              (with_reducible refine (HFN.out _).mono ?_)
              rintro _ w4 ⟨rfl, b4⟩
              clear c0 c1
              obtain ⟨-, s0, s1, sf0, sf1⟩ := HK.out _ (nx t3 b4)
              go_wp2_with fail
              refine bodyPost_ret (v := .tuple #[.agg #[.int .i64 A, .int .i64 B], .bool C]) (by simp [results, Tryd.results52, go_sem, s0, s1]) rfl ⟨by rw [HR.out], ?_⟩
              iterate 2 refine Below.setCell ?_ (by dsimp only; omega) _
              exact nx bb (nx t3 b4)
end Go.Proofs.YtilmhemcpgiikaaDoor
/- NearFlt of the reference. -/
namespace Go.Proofs.YtilmhemcpgiikaaDoor
open Go.Deep Go.ChangeShapes Go.WideShapes Go.ChangeAt Go.RowKit
open Go.ChangeMaps (open_string shut_string)

/-- Is there a rest that counts? -/
def restB (r d : Nat) : Bool := if 2 * r < d then decide (0 < r) else true

theorem scaled_step {n p i : Nat} (hp : 0 < p) : n * 2 ^ (i + 1) / p = 2 * (n * 2 ^ i / p) + (if p ≤ 2 * (n * 2 ^ i % p) then 1 else 0) ∧ n * 2 ^ (i + 1) % p = 2 * (n * 2 ^ i % p) - (if p ≤ 2 * (n * 2 ^ i % p) then p else 0) := by
  rw [Nat.pow_succ, ← Nat.mul_assoc]
  exact double_div _ p hp
theorem scaled_mono {n p i s : Nat} (h : i ≤ s) : n * 2 ^ i / p ≤ n * 2 ^ s / p :=
  Nat.div_le_div_right (Nat.mul_le_mul_left _ (Nat.pow_le_pow_right (by decide) h))

set_option maxRecDepth 100000 in
set_option maxHeartbeats 2000000 in
theorem scaled_c (n p s : Nat) (w : World) (hn : n < 100000000000000000) (hp : 1 ≤ p) (hp2 : p ≤ 10000000000000000) (hs : s ≤ 17) (hb : n * 2 ^ s / p ≤ 200000) :
    Calls Tryd.prog 115 #[.int .i64 n, .int .i64 p, .int .i64 s] w fun e w' => e = .returned (.tuple #[.int .i64 ((n * 2 ^ s / p : Nat) : Int), .int .i64 (cmpH (n * 2 ^ s % p) p), .bool (restB (n * 2 ^ s % p) p)]) ∧ w = w' := by
  have hmono := fun i (h : i ≤ s) => Nat.le_trans (scaled_mono (n := n) (p := p) h) hb
  have hml := fun i => Nat.mod_lt (n * 2 ^ i) (show 0 < p by omega)
  have hstep := fun i => scaled_step (n := n) (p := p) (i := i) (by omega)
  have h0 : n / p ≤ 200000 := by have := hmono 0 (by omega); simpa using this
  have k1 : (n : Int) / (p : Int) = ((n / p : Nat) : Int) := (Int.natCast_ediv _ _).symm
  have k2 : (n : Int) % (p : Int) = ((n % p : Nat) : Int) := (Int.natCast_emod _ _).symm
  have hm0 : n % p < p := Nat.mod_lt _ (by omega)
  have e0 : n * 2 ^ 0 / p = n / p ∧ n * 2 ^ 0 % p = n % p := by rw [Nat.pow_zero, Nat.mul_one]; exact ⟨rfl, rfl⟩
  obtain ⟨Q, hQ⟩ : ∃ z, z = n * 2 ^ s / p := ⟨_, rfl⟩
  obtain ⟨R, hR⟩ : ∃ z, z = n * 2 ^ s % p := ⟨_, rfl⟩
  rw [← hQ, ← hR]
  have HR := Lib.hid (⟨hQ, hR⟩ : Q = n * 2 ^ s / p ∧ R = n * 2 ^ s % p)
  obtain ⟨qn, hqn⟩ : ∃ z, z = n / p := ⟨_, rfl⟩
  obtain ⟨rn, hrn⟩ : ∃ z, z = n % p := ⟨_, rfl⟩
  rw [← hqn] at k1 h0
  rw [← hrn] at k2 hm0
  have HZ := Lib.hid (⟨by rw [hqn, e0.1], by rw [hrn, e0.2]⟩ : (qn : Int) = ((n * 2 ^ 0 / p : Nat) : Int) ∧ (rn : Int) = ((n * 2 ^ 0 % p : Nat) : Int))
  obtain ⟨q0, hq0⟩ : ∃ z : Int, z = (qn : Int) := ⟨_, rfl⟩
  obtain ⟨r0, hr0⟩ : ∃ z : Int, z = (rn : Int) := ⟨_, rfl⟩
  have z1 : 0 ≤ q0 ∧ q0 ≤ 200000 := by omega
  have z2 : 0 ≤ r0 ∧ r0 < (p : Int) := by omega
  rw [← hq0] at k1 HZ
  rw [← hr0] at k2 HZ
  have K2 := Lib.hid k2
  clear hqn hrn k2
  have hp0 : ¬ p = 0 := by omega
  have HM := Lib.hid hmono; have HST := Lib.hid hstep; have HML := Lib.hid hml
  clear hmono hml hstep h0 hm0 e0 hQ hR hb hq0 hr0
  go_enter Tryd.func115, Tryd.ntmps115
  go_wp2_with fail
  clear k1
  go_loop [9, 10, 11] (fun a b c => ∃ (i : Nat) (q r : Int), i ≤ s ∧ a = .int .i64 q ∧ b = .int .i64 r ∧ c = .int .i64 i ∧ 0 ≤ q ∧ q ≤ 200000 ∧ 0 ≤ r ∧ r < (p : Int) ∧ Hid (q = ((n * 2 ^ i / p : Nat) : Int) ∧ r = ((n * 2 ^ i % p : Nat) : Int))) (fun _ _ c => s - (intOf c).toNat)
  case atStart => exact ⟨0, q0, r0, by omega, rfl, by first | rfl | rw [K2.out], rfl, by omega, by omega, by omega, by omega, HZ⟩
  case round =>
    clear HZ z1 z2
    obtain ⟨i, q, r, hi, rfl, rfl, rfl, hq1, hq2, hr1, hr2, hH⟩ := hrel
    by_cases hlt : i < s
    · have hm1 := HM.out (i + 1) (by omega)
      obtain ⟨t1, t2⟩ := HST.out i
      have hl1 := HML.out (i + 1)
      obtain ⟨hh1, hh2⟩ := hH.out
      by_cases hge : (p : Int) ≤ 2 * r
      · rw [if_pos (by omega)] at t1 t2
        have hN : Hid (2 * q + 1 = ((n * 2 ^ (i + 1) / p : Nat) : Int) ∧ 2 * r - p = ((n * 2 ^ (i + 1) % p : Nat) : Int)) := Lib.hid ⟨by omega, by omega⟩
        have z3 : 2 * q + 1 ≤ 200000 := by omega
        have z4 : 0 ≤ 2 * r - (p : Int) ∧ 2 * r - (p : Int) < (p : Int) := by omega
        clear hm1 t1 t2 hl1 hh1 hh2 hH
        go_wp2_with fail
        go_round
        case rel => exact ⟨i + 1, _, _, by omega, rfl, rfl, by go_num, by omega, z3, z4.1, z4.2, hN⟩
        case measure => simp [intOf]; omega
      · rw [if_neg (by omega)] at t1 t2
        have hN : Hid (2 * q = ((n * 2 ^ (i + 1) / p : Nat) : Int) ∧ 2 * r = ((n * 2 ^ (i + 1) % p : Nat) : Int)) := Lib.hid ⟨by omega, by omega⟩
        have z3 : 2 * q ≤ 200000 := by omega
        clear hm1 t1 t2 hl1 hh1 hh2 hH
        go_wp2_with fail
        go_round
        case rel => exact ⟨i + 1, _, _, by omega, rfl, rfl, by go_num, by omega, z3, by omega, by omega, hN⟩
        case measure => simp [intOf]; omega
    · obtain rfl : i = s := by omega
      obtain ⟨hh1, hh2⟩ := hH.out
      rw [← HR.out.1] at hh1
      rw [← HR.out.2] at hh2
      subst hh1
      have hc : (2 * r < (p : Int)) ∨ ((p : Int) < 2 * r) ∨ 2 * r = (p : Int) := by omega
      rcases hc with h | h | h
      · have e1 : cmpH R p = -1 := by unfold cmpH; rw [if_neg (by omega), if_neg (by omega)]
        have e2 : restB R p = decide (0 < r) := by unfold restB; rw [if_pos (by omega)]; apply decide_eq_decide.2; omega
        have E1 := Lib.hid e1; have E2 := Lib.hid e2
        have hd : decide (2 * r < (p : Int)) = true := decide_eq_true h
        clear e1 e2 hh2 hH
        go_wp2_with fail
        go_ret3
        exact ⟨by rw [E1.out, E2.out]; rfl, rfl⟩
      · have e1 : cmpH R p = 1 := by unfold cmpH; rw [if_pos (by omega)]
        have e2 : restB R p = true := by unfold restB; rw [if_neg (by omega)]
        have E1 := Lib.hid e1; have E2 := Lib.hid e2
        have hd : decide (2 * r < (p : Int)) = false := decide_eq_false (by omega)
        have hd2 : decide ((p : Int) < 2 * r) = true := decide_eq_true h
        clear e1 e2 hh2 hH
        go_wp2_with fail
        go_ret3
        exact ⟨by rw [E1.out, E2.out]; rfl, rfl⟩
      · have e1 : cmpH R p = 0 := by unfold cmpH; rw [if_neg (by omega), if_pos (by omega)]
        have e2 : restB R p = true := by unfold restB; rw [if_neg (by omega)]
        have E1 := Lib.hid e1; have E2 := Lib.hid e2
        have hd : decide (2 * r < (p : Int)) = false := decide_eq_false (by omega)
        have hd2 : decide ((p : Int) < 2 * r) = false := decide_eq_false (by omega)
        clear e1 e2 hh2 hH
        go_wp2_with fail
        go_ret3
        exact ⟨by rw [E1.out, E2.out]; rfl, rfl⟩
end Go.Proofs.YtilmhemcpgiikaaDoor
/- NearFlt of the reference: the walk. -/
namespace Go.Proofs.YtilmhemcpgiikaaDoor
open Go.Deep Go.ChangeShapes Go.WideShapes Go.ChangeAt Go.RowKit
open Go.ChangeMaps (open_string shut_string)

/-- The sign. -/
def sgn (n : Int) : Int := if n < 0 then -1 else 1

theorem newF_false {m e : Int} {A B : Int} (h : newF m e = (A, B, false)) : A = 0 ∧ B = 0 := by
  unfold newF at h
  split at h
  · split at h
    · simp at h
    · split at h
      · simp at h
      · simp at h; exact ⟨h.1.symm, h.2.symm⟩
  · simp at h; exact ⟨h.1.symm, h.2.symm⟩

theorem restB_cmp {r d : Nat} (h : 0 ≤ cmpH r d) : restB r d = true := by
  unfold cmpH at h
  unfold restB
  by_cases h1 : d < 2 * r
  · rw [if_neg (by omega)]
  · rw [if_neg h1] at h
    by_cases h2 : 2 * r = d
    · rw [if_neg (by omega)]
    · rw [if_neg h2] at h; omega
theorem big_facts {N P k : Nat} (hp : 1 ≤ P) : cmpH (rE N P ((k : Int) + 1)) (P * 2 ^ (k + 1)) = if 2 ^ k < N / P % 2 ^ (k + 1) ∨ (N / P % 2 ^ (k + 1) = 2 ^ k ∧ 0 < N % P) then 1 else if N / P % 2 ^ (k + 1) = 2 ^ k then 0 else -1 := by
  have e := rE_big N P (k + 1) (by omega)
  rw [show (((k + 1 : Nat)) : Int) = (k : Int) + 1 by omega] at e
  rw [e]
  have hf := Nat.mod_lt N (show 0 < P by omega)
  have hD : P * 2 ^ (k + 1) = 2 * (2 ^ k * P) := by rw [Nat.pow_succ, Nat.mul_comm P, Nat.mul_assoc, Nat.mul_comm 2 P, ← Nat.mul_assoc, Nat.mul_comm]
  rw [hD]
  generalize N / P % 2 ^ (k + 1) = L at *
  generalize (2 : Nat) ^ k = T at *
  generalize N % P = F at *
  clear e hD
  unfold cmpH
  rcases Nat.lt_trichotomy L T with h | h | h
  · have h1 := Nat.mul_le_mul_right P (show L + 1 ≤ T by omega)
    rw [Nat.add_mul, Nat.one_mul] at h1
    rw [if_neg (by omega), if_neg (by omega), if_neg (by omega), if_neg (by omega)]
  · subst h
    by_cases hF : 0 < F
    · rw [if_pos (by omega), if_pos (.inr ⟨rfl, hF⟩)]
    · rw [if_neg (by omega), if_pos (by omega), if_neg (by omega), if_pos rfl]
  · have h1 := Nat.mul_le_mul_right P (show T + 1 ≤ L by omega)
    rw [Nat.add_mul, Nat.one_mul] at h1
    rw [if_pos (by omega), if_pos (.inl h)]

set_option maxRecDepth 100000 in
set_option maxHeartbeats 4000000 in
theorem nearFlt_spec (n x : Int) (w : World) (h1 : -9223372036854775808 ≤ n) (h2 : n ≤ 9223372036854775807) :
    Calls Tryd.prog 55 #[.agg #[.int .i64 n, .int .i64 x]] w fun en w' => en = .returned (.tuple #[.agg #[.int .i64 (nearF n x).1, .int .i64 (nearF n x).2.1], .bool (nearF n x).2.2]) ∧ Below w.heap.size w w' := by
  have H1 := Lib.hid (fun w1 => decOk_spec n x w1 h1 h2)
  cases hk : decOkB n x with
  | false =>
    rw [nearF_no hk]
    rw [hk] at H1
    go_enter Tryd.func55, Tryd.ntmps55
    go_wp2_with fail
    refine (H1.out _).mono ?_
    rintro _ w1 ⟨rfl, b1⟩
    obtain ⟨r0, r1, rf⟩ := two_num b1 (second_block2 w _ _)
    have rf0 := rf 0; have rf1 := rf 1; clear rf
    have hsz := b1.size
    simp only [World.size_alloc] at hsz
    have BB := Lib.hid b1; clear b1
    go_wp2_with fail
    refine bodyPost_ret (v := .tuple #[.agg #[.int .i64 0, .int .i64 0], .bool false]) (by simp [results, Tryd.results55, go_sem, r0, r1]) rfl ⟨rfl, ?_⟩
    iterate 2 refine Below.setCell ?_ (by dsimp only; omega) _
    exact nx (below2 _ _ _) BB.out
  | true =>
    obtain ⟨a1, a2, a3, a4⟩ := decOk_range hk
    rw [hk] at H1
    obtain ⟨P, hP⟩ : ∃ P : Nat, P = 10 ^ (-x).toNat := ⟨_, rfl⟩
    have hPI : (10 : Int) ^ (-x).toNat = (P : Int) := by rw [hP, Int.natCast_pow]; rfl
    obtain ⟨P', Q', e1, e2, hPQ, p1, q1, p2, q2⟩ := pow_pair a1 a2
    have hPP : (P : Int) = P' := hPI.symm.trans e1
    have hP1 : 1 ≤ P := by omega
    have hP2 : P ≤ 10000000000000000 := by omega
    obtain ⟨N, hN⟩ : ∃ N : Nat, N = n.natAbs := ⟨_, rfl⟩
    have hN1 : N < 100000000000000000 := by omega
    have hwx : IntKind.i64.wrap (-x) = -x := IntWalk.i64_in _ (by omega)
    have c1 := fun w => pow_spec 10 (-x) w
    rw [powF_ten (by omega) (by omega), hPI] at c1
    have C1 := Lib.hid c1
    have HOF := Lib.hid (fun (e : Int) (hq : qE N P e ≤ 65535) (g1 : -16 ≤ e) (g2 : e < 54) (g3 : e = -16 ∨ 65535 < qE N P (e - 1)) => nearF_of hk hN hP hq g1 g2 g3)
    have hbd : ∀ E : Int, -16 ≤ E → (E = -16 ∨ 65535 < qE N P (E - 1)) → E ≤ 41 ∧ 1 ≤ P * 2 ^ E.toNat ∧ P * 2 ^ E.toNat ≤ 10000000000000000 := fun E g1 g2 => near_bounds hN1 hP1 hP2 g1 g2
    have HBD := Lib.hid hbd
    have HNn := Lib.hid hN
    clear hbd c1 e1 e2 hPQ p1 q1 p2 q2 hPP hPI hk hP hN
    have F := Lib.hid (first_block w (.cells #[.int .i64 n, .int .i64 x] 42) (.cells #[.int .i64 0, .int .i64 0] 56))
    have G := Lib.hid (second_block2 w (.cells #[.int .i64 n, .int .i64 x] 42) (.cells #[.int .i64 0, .int .i64 0] 56))
    have bb := below2 w (.cells #[.int .i64 n, .int .i64 x] 42) (.cells #[.int .i64 0, .int .i64 0] 56)
    obtain ⟨W0, hW0⟩ : ∃ W0, W0 = (w.alloc (.cells #[.int .i64 n, .int .i64 x] 42)).alloc (.cells #[.int .i64 0, .int .i64 0] 56) := ⟨_, rfl⟩
    have HK : Hid (∀ w1, Below W0.heap.size W0 w1 → (w1.cell? ⟨w.heap.size, 0, none⟩ = some (.int .i64 n) ∧ w1.cell? ⟨w.heap.size, 1, none⟩ = some (.int .i64 x)) ∧ (w1.cell? ⟨w.heap.size + 1, 0, none⟩ = some (.int .i64 0) ∧ w1.cell? ⟨w.heap.size + 1, 1, none⟩ = some (.int .i64 0) ∧ w1.frozen? ⟨w.heap.size + 1, 0, none⟩ = false ∧ w1.frozen? ⟨w.heap.size + 1, 1, none⟩ = false)) :=
      Lib.hid (fun w1 hb => by
        subst hW0
        obtain ⟨c0, c1, _⟩ := two_num hb F.out
        obtain ⟨d0, d1, df⟩ := two_num hb G.out
        exact ⟨⟨c0, c1⟩, d0, d1, df 0, df 1⟩)
    rw [← hW0] at bb
    have HW := Lib.hid hW0
    clear hW0 F G
    obtain ⟨sg, hsg⟩ : ∃ sg, sg = sgn n := ⟨_, rfl⟩
    have hsgr : sg = 1 ∨ sg = -1 := by rw [hsg]; unfold sgn; split <;> simp
    have HSG := Lib.hid hsg
    clear hsg
    go_enter Tryd.func55, Tryd.ntmps55
    go_wp2_with fail
    rw [← HW.out]
    refine (H1.out _).mono ?_
    rintro _ w1 ⟨rfl, b1⟩
    obtain ⟨⟨c0, c1⟩, -⟩ := HK.out _ b1
    go_upto_if 26 with fail
    go_cut [4, 5] (fun s4 s5 wx => s4 = .int .i64 N ∧ s5 = .int .i64 sg ∧ wx = w1)
    case first =>
      by_cases hn : n < 0
      · have e1 : sg = -1 := by rw [HSG.out]; exact if_pos hn
        have e2 : -n = (N : Int) := by have := HNn.out; omega
        have hdn : decide (n < 0) = true := decide_eq_true hn
        have hwn : IntKind.i64.wrap (-n) = (N : Int) := by rw [e2]; exact IntWalk.i64_in _ (by omega)
        have E1 := Lib.hid e1; have E2 := Lib.hid e2
        clear e1 e2
        go_wp2_with fail
        go_meet
        case rel => exact ⟨by first | rfl | rw [E2.out], by rw [E1.out], rfl⟩
      · have e1 : sg = 1 := by rw [HSG.out]; exact if_neg hn
        have e2 : n = (N : Int) := by have := HNn.out; omega
        have hdn : decide (n < 0) = false := decide_eq_false hn
        have E1 := Lib.hid e1; have E2 := Lib.hid e2
        clear e1 e2
        go_wp2_with fail
        go_meet
        case rel => exact ⟨by rw [← E2.out], by rw [E1.out], rfl⟩
    case rest =>
      obtain ⟨rfl, rfl, rfl⟩ := hcut
      have hp0 : ¬ P = 0 := by omega
      have hpp : ¬ (P : Int) = 0 := by omega
      obtain ⟨Vn, hVn⟩ : ∃ z, z = N / P := ⟨_, rfl⟩
      have hVb : Vn < 100000000000000000 := by rw [hVn]; exact Nat.lt_of_le_of_lt (Nat.div_le_self _ _) hN1
      obtain ⟨V, hV⟩ : ∃ z : Int, z = (Vn : Int) := ⟨_, rfl⟩
      have k1 : (N : Int) / (P : Int) = V := by rw [hV, hVn]; exact (Int.natCast_ediv _ _).symm
      have hqb : ∀ K : Nat, qE N P (K : Int) = Vn / 2 ^ K := fun K => by rw [qE_big, hVn]
      have kw : IntKind.i64.wrap V = V := IntWalk.i64_in _ (by omega)
      have hshl : ∀ K : Nat, K ≤ 41 → ∃ Z : Int, IntKind.i64.wrap (65536 * 2 ^ K) = Z ∧ (Z ≤ V ↔ ¬ qE N P (K : Int) ≤ 65535) := by
        intro K hK
        have hz1 : 2 ^ K ≤ 2199023255552 := by
          have := Nat.pow_le_pow_right (n := 2) (by decide) hK
          have e41 : (2 : Nat) ^ 41 = 2199023255552 := by decide
          rw [e41] at this; exact this
        have hz0 : 0 < 2 ^ K := Nat.pow_pos (by decide)
        refine ⟨((65536 * 2 ^ K : Nat) : Int), ?_, ?_⟩
        · rw [Int.natCast_mul, Int.natCast_pow]
          have := IntWalk.i64_in ((65536 * 2 ^ K : Nat) : Int) (by omega)
          rw [Int.natCast_mul, Int.natCast_pow] at this
          exact this
        · rw [hV, hqb K]
          have := Nat.div_lt_iff_lt_mul (x := Vn) (y := 65536) hz0
          omega
      have HV := Lib.hid (⟨hV, hVn⟩ : V = (Vn : Int) ∧ Vn = N / P); have HQB := Lib.hid hqb; have HSHL := Lib.hid hshl
      clear hV hVn hqb hshl c0 H1
      have hw1 := b1
      obtain ⟨⟨c0, c1⟩, -⟩ := HK.out _ b1
      go_wp2_with fail
      refine (C1.out _).mono ?_
      rintro _ _ ⟨rfl, rfl⟩
      go_wp2_with fail
      clear c0 c1 hw1 h1 h2 a1 a2 hwx C1
      go_loopw [7] (fun e wr => ∃ K : Nat, e = .int .i64 K ∧ K ≤ 41 ∧ Hid ((K : Int) = 0 ∨ 65535 < qE N P ((K : Int) - 1)) ∧ Below W0.heap.size W0 wr) (fun e _ => (60 - intOf e).toNat)
      case atStart => exact ⟨0, rfl, by omega, Lib.hid (.inl rfl), b1⟩
      case round =>
        clear b1
        obtain ⟨K, rfl, hK, hQ, hbw⟩ := hrel
        obtain ⟨Z, z1, z2⟩ := HSHL.out K hK
        by_cases hz : Z ≤ V
        · have hq := z2.1 hz
          have hq' : 65535 < qE N P (((K : Int) + 1) - 1) := by rw [show (K : Int) + 1 - 1 = (K : Int) by omega]; omega
          have hK1 := (HBD.out ((K : Int) + 1) (by omega) (.inr hq')).1
          have HQ' := Lib.hid hq'
          have hzd : decide (Z ≤ V) = true := decide_eq_true hz
          clear z2 hq hq'
          go_wp2_with fail
          go_quiet (fail)
          go_wp2_with fail
          go_roundw
          case rel => exact ⟨K + 1, by go_num, by omega, Lib.hid (.inr HQ'.out), drewN_below hbw _⟩
          case measure => simp [intOf]; omega
        · have HQ0 := Lib.hid (show qE N P (K : Int) ≤ 65535 by have := mt z2.2 hz; omega)
          have hzd : decide (Z ≤ V) = false := decide_eq_false hz
          clear z2
          go_wp2_with fail
          go_quiet (fail)
          have hbw2 := drewN_below hbw nq
          clear hbw
          generalize wr.drewN nq = wq at *
          clear z1 hz hzd
          go_upto_if 42 with fail
          have hKI2 : (K : Int) ≤ 41 ∧ 0 ≤ (K : Int) := by omega
          generalize (K : Int) = KI at *
          clear hK
          go_cut [7] (fun s7 wx => ∃ E : Int, s7 = .int .i64 E ∧ wx = wq ∧ -16 ≤ E ∧ E ≤ 41 ∧ Hid (qE N P E ≤ 65535 ∧ (E = -16 ∨ 65535 < qE N P (E - 1))))
          case first =>
            by_cases hK0 : KI = 0
            · subst hK0
              go_wp2_with fail
              go_loop [7] (fun e => ∃ s : Nat, e = .int .i64 (-(s : Int)) ∧ s ≤ 16 ∧ Hid (qE N P (-(s : Int)) ≤ 65535)) (fun e => (20 + intOf e).toNat)
              case atStart => exact ⟨0, rfl, by omega, Lib.hid HQ0.out⟩
              case round =>
                obtain ⟨s, rfl, hs, hqs⟩ := hrel
                by_cases h16 : s < 16
                · have hb : N * 2 ^ (s + 1) / P ≤ 131071 := by
                    have e := qE_succ N P (-((s + 1 : Nat) : Int))
                    rw [show -((s + 1 : Nat) : Int) + 1 = -(s : Int) by omega, qE_low N P (s + 1)] at e
                    have := hqs.out
                    omega
                  have hsc := fun w => scaled_c N P (s + 1) w hN1 hP1 hP2 (by omega) (by omega)
                  rw [show ((s + 1 : Nat) : Int) = 1 + (s : Int) by omega, ← qE_low N P (s + 1)] at hsc
                  rw [← qE_low N P (s + 1)] at hb
                  obtain ⟨Qn, hQn⟩ : ∃ z, z = qE N P (-((s + 1 : Nat) : Int)) := ⟨_, rfl⟩
                  rw [← hQn] at hsc hb
                  obtain ⟨Q1, hQ1⟩ : ∃ z : Int, z = (Qn : Int) := ⟨_, rfl⟩
                  rw [← hQ1] at hsc
                  have HSC := Lib.hid hsc
                  have h16d : decide (-(16 : Int) < -(s : Int)) = true := decide_eq_true (by omega)
                  have h16e : (s : Int) < 16 := by omega
                  have hwa : IntKind.i64.wrap (1 + (s : Int)) = 1 + (s : Int) := IntWalk.i64_in _ (by omega)
                  by_cases hbig : 65535 < Q1
                  · have hH : Hid (qE N P (-(s : Int)) ≤ 65535 ∧ (-(s : Int) = -16 ∨ 65535 < qE N P (-(s : Int) - 1))) := Lib.hid ⟨hqs.out, .inr (by rw [show -(s : Int) - 1 = -((s + 1 : Nat) : Int) by omega, ← hQn]; omega)⟩
                    have hbd : decide (65535 < Q1) = true := decide_eq_true hbig
                    clear hsc hb hQn hQ1 hqs
                    go_wp2_with fail
                    (with_reducible refine (HSC.out _).mono ?_)
                    rintro _ _ ⟨rfl, rfl⟩
                    go_wp2_with fail
                    go_meet
                    case rel => exact ⟨-(s : Int), rfl, rfl, by omega, by omega, hH⟩
                  · have hH : Hid (qE N P (-((s + 1 : Nat) : Int)) ≤ 65535) := Lib.hid (by rw [← hQn]; omega)
                    have hbd : decide (65535 < Q1) = false := decide_eq_false hbig
                    have hws : IntKind.i64.wrap (-(s : Int) - 1) = -((s + 1 : Nat) : Int) := by rw [show -(s : Int) - 1 = -((s + 1 : Nat) : Int) by omega]; exact IntWalk.i64_in _ (by omega)
                    have HWS := Lib.hid (show -(s : Int) - 1 = -((s + 1 : Nat) : Int) by omega)
                    clear hsc hb hQn hQ1 hqs hws
                    go_wp2_with fail
                    (with_reducible refine (HSC.out _).mono ?_)
                    rintro _ _ ⟨rfl, rfl⟩
                    go_wp2_with fail
                    go_round
                    case rel => exact ⟨s + 1, by rw [HWS.out], by omega, hH⟩
                    case measure => simp [intOf]; omega
                · obtain rfl : s = 16 := by omega
                  have hH : Hid (qE N P (-16) ≤ 65535) := Lib.hid hqs.out
                  clear hqs
                  go_wp2_with fail
                  go_meet
                  case rel => exact ⟨-16, rfl, rfl, by omega, by omega, Lib.hid ⟨hH.out, .inl rfl⟩⟩
            · have hH : Hid (qE N P KI ≤ 65535 ∧ (KI = -16 ∨ 65535 < qE N P (KI - 1))) := Lib.hid ⟨HQ0.out, .inr (hQ.out.resolve_left hK0)⟩
              have hKd : (KI == 0) = false := by simpa using hK0
              clear HQ0 hQ
              go_wp2_with fail
              go_meet
              case rel => exact ⟨KI, rfl, rfl, by omega, by omega, hH⟩
          case rest =>
            obtain ⟨E, rfl, rfl, hE1, hE2, hH⟩ := hcut
            clear HQ0 hQ HSHL hKI2
            go_upto_if 59 with fail
            go_cut [11, 12, 13] (fun s11 s12 s13 wx => ∃ (qi c : Int) (rb : Bool), s11 = .int .i64 qi ∧ s12 = .int .i64 c ∧ s13 = .bool rb ∧ wx = wc ∧ 0 ≤ qi ∧ qi ≤ 65535 ∧ Hid (qi = ((qE N P E : Nat) : Int) ∧ c = cmpH (rE N P E) (P * 2 ^ E.toNat)) ∧ (0 ≤ c → rb = true))
            case first =>
              by_cases hE0 : E ≤ 0
              · obtain ⟨s, rfl⟩ : ∃ s : Nat, E = -(s : Int) := ⟨(-E).toNat, by omega⟩
                have hqs := hH.out.1
                rw [qE_low N P s] at hqs
                have hsc := fun w => scaled_c N P s w hN1 hP1 hP2 (by omega) (by omega)
                rw [← qE_low N P s, ← rE_low N P s] at hsc
                rw [← qE_low N P s] at hqs
                have hcr := fun h => restB_cmp (r := rE N P (-(s : Int))) (d := P) h
                have hc : cmpH (rE N P (-(s : Int))) (P * 2 ^ (-(s : Int)).toNat) = cmpH (rE N P (-(s : Int))) P := by rw [show (-(s : Int)).toNat = 0 by omega, Nat.pow_zero, Nat.mul_one]
                obtain ⟨qi, hqi⟩ : ∃ z, z = ((qE N P (-(s : Int)) : Nat) : Int) := ⟨_, rfl⟩
                obtain ⟨c, hc2⟩ : ∃ z, z = cmpH (rE N P (-(s : Int))) P := ⟨_, rfl⟩
                obtain ⟨rb, hrb⟩ : ∃ z, z = restB (rE N P (-(s : Int))) P := ⟨_, rfl⟩
                rw [← hqi, ← hc2, ← hrb] at hsc
                rw [← hc2, ← hrb] at hcr
                have HSC := Lib.hid hsc; have HCR := Lib.hid hcr; have HE := Lib.hid (⟨hqi, hc2.trans hc.symm⟩ : _ ∧ _)
                have hb1 : 0 ≤ qi ∧ qi ≤ 65535 := by omega
                have hle : decide (-(s : Int) ≤ 0) = true := decide_eq_true (by omega)
                clear hsc hcr hqi hc2 hrb hqs hc hH
                go_wp2_with fail
                (with_reducible refine (HSC.out _).mono ?_)
                rintro _ _ ⟨rfl, rfl⟩
                go_wp2_with fail
                go_meet
                case rel => exact ⟨qi, c, rb, rfl, rfl, rfl, rfl, hb1.1, hb1.2, HE, HCR.out⟩
              · obtain ⟨k, rfl⟩ : ∃ k : Nat, E = (k : Int) + 1 := ⟨(E - 1).toNat, by omega⟩
                have hk40 : k ≤ 40 := by omega
                have hbf := big_facts (N := N) (P := P) (k := k) hP1
                have hqe : qE N P ((k : Int) + 1) = Vn / 2 ^ (k + 1) := by
                  have := HQB.out (k + 1)
                  rw [show (((k + 1 : Nat)) : Int) = (k : Int) + 1 by omega] at this
                  exact this
                have hqle := hH.out.1
                obtain ⟨hV1, hV2⟩ := HV.out
                rw [hqe] at hqle
                rw [← hV2] at hbf
                have hT1 : 2 ^ k ≤ 1099511627776 := by
                  have := Nat.pow_le_pow_right (n := 2) (by decide) hk40
                  have e40 : (2 : Nat) ^ 40 = 1099511627776 := by decide
                  rw [e40] at this; exact this
                have hT0 : 0 < 2 ^ k := Nat.pow_pos (by decide)
                have hT2 : 2 ^ (k + 1) = 2 * 2 ^ k := by rw [Nat.pow_succ, Nat.mul_comm]
                have hdm := Nat.div_add_mod Vn (2 ^ (k + 1))
                have hml := Nat.mod_lt Vn (show 0 < 2 ^ (k + 1) by omega)
                have f1 : V / 2 ^ (k + 1) = ((Vn / 2 ^ (k + 1) : Nat) : Int) := by rw [hV1, Int.natCast_ediv, Int.natCast_pow]; rfl
                have f2' : ((Vn / 2 ^ (k + 1) : Nat) : Int) * 2 ^ (k + 1) = ((2 ^ (k + 1) * (Vn / 2 ^ (k + 1)) : Nat) : Int) := by rw [Int.natCast_mul, Int.natCast_pow, Int.mul_comm]; rfl
                have f4' : IntKind.i64.wrap (2 ^ k) = ((2 ^ k : Nat) : Int) := by
                  have := IntWalk.i64_in ((2 ^ k : Nat) : Int) (by omega)
                  rw [Int.natCast_pow] at this
                  rw [Int.natCast_pow]; exact this
                have htn : ((k : Int) + 1).toNat = k + 1 := by omega
                have f5 : (N : Int) % (P : Int) = ((N % P : Nat) : Int) := (Int.natCast_emod _ _).symm
                obtain ⟨FRn, hFRn⟩ : ∃ z, z = N % P := ⟨_, rfl⟩
                obtain ⟨Ln, hLn⟩ : ∃ z, z = Vn % 2 ^ (k + 1) := ⟨_, rfl⟩
                obtain ⟨Qn, hQn⟩ : ∃ z, z = Vn / 2 ^ (k + 1) := ⟨_, rfl⟩
                obtain ⟨Mn, hMn⟩ : ∃ z, z = 2 ^ (k + 1) * (Vn / 2 ^ (k + 1)) := ⟨_, rfl⟩
                rw [← hFRn, ← hLn] at hbf
                rw [← hMn, ← hLn] at hdm
                rw [← hMn, ← hQn] at f2'
                rw [← hLn] at hml
                rw [← hQn] at f1 hqle hqe
                rw [← hFRn] at f5
                obtain ⟨Tn, hTn⟩ : ∃ z, z = 2 ^ k := ⟨_, rfl⟩
                rw [← hTn] at hbf hT1 hT0 hT2 f4'
                rw [hT2] at hml
                obtain ⟨qi, hqi⟩ : ∃ z : Int, z = (Qn : Int) := ⟨_, rfl⟩
                obtain ⟨Mz, hMz⟩ : ∃ z : Int, z = (Mn : Int) := ⟨_, rfl⟩
                obtain ⟨LI, hLI⟩ : ∃ z : Int, z = (Ln : Int) := ⟨_, rfl⟩
                obtain ⟨TI, hTI⟩ : ∃ z : Int, z = (Tn : Int) := ⟨_, rfl⟩
                obtain ⟨FI, hFI⟩ : ∃ z : Int, z = (FRn : Int) := ⟨_, rfl⟩
                rw [← hqi] at f1
                rw [← hqi, ← hMz] at f2'
                rw [← hTI] at f4'
                rw [← hFI] at f5
                have f2 : IntKind.i64.wrap (qi * 2 ^ (k + 1)) = Mz := by rw [f2']; exact IntWalk.i64_in _ (by omega)
                have f3 : V - Mz = LI := by omega
                have f3' : IntKind.i64.wrap LI = LI := IntWalk.i64_in _ (by omega)
                have f6 : (N : Int).tmod (P : Int) = FI := by rw [Int.tmod_eq_emod_of_nonneg (by omega)]; exact f5
                have hq1 : 0 ≤ qi := by omega
                have hq2 : qi ≤ 65535 := by omega
                have hl0 : 0 ≤ LI := by omega
                have ht0 : 1 ≤ TI := by omega
                have hf0 : 0 ≤ FI := by omega
                have htt : (((k : Int) + 1)).toNat = k + 1 := htn
                have HQE := Lib.hid (show qi = ((qE N P ((k : Int) + 1) : Nat) : Int) by rw [hqe, hqi])
                have hkd : decide ((k : Int) + 1 ≤ 0) = false := decide_eq_false (by omega)
                have hway : ∃ c : Int, Hid (c = cmpH (rE N P ((k : Int) + 1)) (P * 2 ^ ((k : Int) + 1).toNat)) ∧ ((TI < LI ∧ c = 1) ∨ (LI = TI ∧ 0 < FI ∧ c = 1) ∨ (LI = TI ∧ FI = 0 ∧ c = 0) ∨ (LI < TI ∧ c = -1)) := by
                  refine ⟨_, Lib.hid rfl, ?_⟩
                  rw [htn, hbf]
                  split
                  · rename_i h; omega
                  · split
                    · rename_i h; omega
                    · rename_i h; omega
                obtain ⟨c, HC, hway⟩ := hway
                clear hbf hqe hqle hV1 hV2 hT1 hT0 hT2 hdm hml f2' htn hFRn hLn hQn hMn hTn hqi hMz hLI hTI hFI hH
                rcases hway with ⟨g1, rfl⟩ | ⟨rfl, g1, rfl⟩ | ⟨rfl, rfl, rfl⟩ | ⟨g1, rfl⟩
                · have x1 : decide (TI < LI) = true := decide_eq_true g1
                  have x2 : decide (0 < LI) = true := decide_eq_true (by omega)
                  go_wp2_with fail
                  go_meet
                  case rel => exact ⟨qi, 1, true, rfl, rfl, rfl, rfl, hq1, hq2, Lib.hid ⟨HQE.out, HC.out⟩, fun _ => rfl⟩
                · have x1 : decide (LI < LI) = false := by simp
                  have x2 : decide (0 < LI) = true := decide_eq_true (by omega)
                  have x3 : decide (0 < FI) = true := decide_eq_true g1
                  go_wp2_with fail
                  go_meet
                  case rel => exact ⟨qi, 1, true, rfl, rfl, rfl, rfl, hq1, hq2, Lib.hid ⟨HQE.out, HC.out⟩, fun _ => rfl⟩
                · have x1 : decide (LI < LI) = false := by simp
                  have x2 : decide (0 < LI) = true := decide_eq_true (by omega)
                  have x3 : decide ((0 : Int) < 0) = false := by simp
                  go_wp2_with fail
                  go_meet
                  case rel => exact ⟨qi, 0, true, rfl, rfl, rfl, rfl, hq1, hq2, Lib.hid ⟨HQE.out, HC.out⟩, fun _ => rfl⟩
                · have x1 : decide (TI < LI) = false := decide_eq_false (by omega)
                  have x4 : (LI == TI) = false := by simp; omega
                  by_cases hl : 0 < LI
                  · have x2 : decide (0 < LI) = true := decide_eq_true hl
                    go_wp2_with fail
                    go_meet
                    case rel => exact ⟨qi, (-1), true, rfl, rfl, rfl, rfl, hq1, hq2, Lib.hid ⟨HQE.out, HC.out⟩, fun _ => rfl⟩
                  · have x2 : decide (0 < LI) = false := decide_eq_false hl
                    by_cases hf : 0 < FI
                    · have x3 : decide (0 < FI) = true := decide_eq_true hf
                      go_wp2_with fail
                      go_meet
                      case rel => exact ⟨qi, (-1), true, rfl, rfl, rfl, rfl, hq1, hq2, Lib.hid ⟨HQE.out, HC.out⟩, fun _ => rfl⟩
                    · have x3 : decide (0 < FI) = false := decide_eq_false hf
                      go_wp2_with fail
                      go_meet
                      case rel => exact ⟨qi, (-1), false, rfl, rfl, rfl, rfl, hq1, hq2, Lib.hid ⟨HQE.out, HC.out⟩, fun h => absurd h (by decide)⟩
            case rest =>
              obtain ⟨qi, c, rb, rfl, rfl, rfl, rfl, hq1, hq2, hR, hrb⟩ := hcut
              clear k1 kw hVb c1 HV HQB
              go_upto_region 31 with fail
              go_cut [123] (fun s123 wx => ∃ B : Bool, s123 = .bool B ∧ wx = wc ∧ Hid ((if B = true then qi + 1 else qi) = ((bump (qE N P E) (rE N P E) (P * 2 ^ E.toNat) : Nat) : Int)))
              case first =>
                have hb := bump_cmp (q := qE N P E) (r := rE N P E) (d := P * 2 ^ E.toNat)
                obtain ⟨hr1, hr2⟩ := hR.out
                rw [← hr2] at hb
                have hw : (((0 < c ∨ (c = 0 ∧ qi % 2 = 1)) ∧ Hid (qi + 1 = ((bump (qE N P E) (rE N P E) (P * 2 ^ E.toNat) : Nat) : Int))) ∨ (¬ (0 < c ∨ (c = 0 ∧ qi % 2 = 1)) ∧ Hid (qi = ((bump (qE N P E) (rE N P E) (P * 2 ^ E.toNat) : Nat) : Int)))) := by
                  by_cases hcc : 0 < c ∨ (c = 0 ∧ qi % 2 = 1)
                  · rw [if_pos (by omega)] at hb
                    exact .inl ⟨hcc, Lib.hid (by rw [hb]; omega)⟩
                  · rw [if_neg (by omega)] at hb
                    exact .inr ⟨hcc, Lib.hid (by rw [hb]; omega)⟩
                clear hb hr1 hr2 hR hH
                have hc3 : 0 < c ∨ (c = 0 ∧ qi % 2 = 1) ∨ (c = 0 ∧ qi % 2 = 0) ∨ c < 0 := by omega
                rcases hc3 with h | ⟨rfl, h⟩ | ⟨rfl, h⟩ | h
                · have HB : Hid (qi + 1 = ((bump (qE N P E) (rE N P E) (P * 2 ^ E.toNat) : Nat) : Int)) := by
                    rcases hw with ⟨_, h2⟩ | ⟨h2, _⟩
                    · exact h2
                    · exact absurd (.inl h) h2
                  obtain rfl := hrb (by omega)
                  have x1 : decide (0 < c) = true := decide_eq_true h
                  clear hw hrb
                  go_wp2_with fail
                  go_meet
                  case rel => exact ⟨true, rfl, rfl, Lib.hid (by rw [if_pos rfl]; exact HB.out)⟩
                · have HB : Hid (qi + 1 = ((bump (qE N P E) (rE N P E) (P * 2 ^ E.toNat) : Nat) : Int)) := by
                    rcases hw with ⟨_, h2⟩ | ⟨h2, _⟩
                    · exact h2
                    · exact absurd (.inr ⟨rfl, h⟩) h2
                  obtain rfl := hrb (by omega)
                  have x3 : (qi % 2 == 1) = true := by rw [h]; rfl
                  clear hw hrb
                  go_wp2_with fail
                  go_meet
                  case rel => exact ⟨true, rfl, rfl, Lib.hid (by rw [if_pos rfl]; exact HB.out)⟩
                · have HB : Hid (qi = ((bump (qE N P E) (rE N P E) (P * 2 ^ E.toNat) : Nat) : Int)) := by
                    rcases hw with ⟨h2, _⟩ | ⟨_, h2⟩
                    · exfalso; omega
                    · exact h2
                  obtain rfl := hrb (by omega)
                  have x3 : (qi % 2 == 1) = false := by rw [h]; rfl
                  clear hw hrb
                  go_wp2_with fail
                  go_meet
                  case rel => exact ⟨false, rfl, rfl, Lib.hid (by rw [if_neg (by simp)]; exact HB.out)⟩
                · have HB : Hid (qi = ((bump (qE N P E) (rE N P E) (P * 2 ^ E.toNat) : Nat) : Int)) := by
                    rcases hw with ⟨h2, _⟩ | ⟨_, h2⟩
                    · exfalso; omega
                    · exact h2
                  have x1 : decide (0 < c) = false := decide_eq_false (by omega)
                  have x2 : (c == 0) = false := by simp; omega
                  clear hw hrb
                  cases rb
                  · go_wp2_with fail
                    go_meet
                    case rel => exact ⟨false, rfl, rfl, Lib.hid (by rw [if_neg (by simp)]; exact HB.out)⟩
                  · go_wp2_with fail
                    go_meet
                    case rel => exact ⟨false, rfl, rfl, Lib.hid (by rw [if_neg (by simp)]; exact HB.out)⟩
              case rest =>
                obtain ⟨B, rfl, rfl, hB⟩ := hcut
                go_upto_if 123 with fail
                go_cut [11] (fun s11 wx => ∃ M : Int, s11 = .int .i64 M ∧ wx = wc ∧ 0 ≤ M ∧ M ≤ 65536 ∧ Hid (M = ((bump (qE N P E) (rE N P E) (P * 2 ^ E.toNat) : Nat) : Int)))
                case first =>
                  clear hrb hR
                  cases B
                  · have HB : Hid (qi = ((bump (qE N P E) (rE N P E) (P * 2 ^ E.toNat) : Nat) : Int)) := Lib.hid (by have := hB.out; rw [if_neg (by simp)] at this; exact this)
                    clear hB
                    go_wp2_with fail
                    go_meet
                    case rel => exact ⟨qi, rfl, rfl, by omega, by omega, HB⟩
                  · have HB : Hid (qi + 1 = ((bump (qE N P E) (rE N P E) (P * 2 ^ E.toNat) : Nat) : Int)) := Lib.hid (by have := hB.out; rw [if_pos rfl] at this; exact this)
                    clear hB
                    go_wp2_with fail
                    go_meet
                    case rel => exact ⟨qi + 1, rfl, rfl, by omega, by omega, HB⟩
                case rest =>
                  obtain ⟨M, rfl, rfl, hM1, hM2, hMb⟩ := hcut
                  have hmain : nearF n x = newF (if n < 0 then -M else M) E := by
                    have := HOF.out E hH.out.1 hE1 (by omega) hH.out.2
                    rw [← hMb.out] at this
                    exact this
                  have hmain2 : nearF n x = newF (sg * M) E := by
                    rw [hmain, HSG.out]
                    unfold sgn
                    split
                    · rw [Int.neg_mul, Int.one_mul]
                    · rw [Int.one_mul]
                  have hgreat : 30 < E → 32768 ≤ M := by
                    intro h30
                    have h2 := hH.out.2.resolve_left (by omega)
                    have e := qE_succ N P (E - 1)
                    rw [show E - 1 + 1 = E by omega] at e
                    have hle : qE N P E ≤ bump (qE N P E) (rE N P E) (P * 2 ^ E.toNat) := by
                      unfold bump; split <;> omega
                    have := hMb.out
                    omega
                  have HM := Lib.hid hmain2; have HGR := Lib.hid hgreat
                  clear hmain hmain2 hgreat hMb hB hR hrb hH HOF HBD
                  go_upto_if 127 with fail
                  go_cut [7, 11] (fun s7 s11 wx => ∃ M' E' : Int, s7 = .int .i64 E' ∧ s11 = .int .i64 M' ∧ wx = wc ∧ 0 ≤ M' ∧ M' ≤ 65536 ∧ -16 ≤ E' ∧ E' ≤ 42 ∧ Hid (nearF n x = newF (sg * M') E' ∧ (30 < E' → 32768 ≤ M')))
                  case first =>
                    by_cases h6 : M = 65536
                    · subst h6
                      have hH : Hid (nearF n x = newF (sg * 32768) (E + 1) ∧ (30 < E + 1 → (32768 : Int) ≤ 32768)) := by
                        refine Lib.hid ⟨?_, fun _ => Int.le_refl _⟩
                        rw [HM.out]
                        obtain ⟨a, b⟩ := newF_65536 E hE1 (by omega)
                        rcases hsgr with rfl | rfl
                        · exact a
                        · exact b
                      clear HM HGR
                      go_wp2_with fail
                      go_meet
                      case rel => exact ⟨32768, E + 1, rfl, rfl, rfl, by omega, by omega, by omega, by omega, hH⟩
                    · have h6d : (M == 65536) = false := by simpa using h6
                      have hH : Hid (nearF n x = newF (sg * M) E ∧ (30 < E → 32768 ≤ M)) := Lib.hid ⟨HM.out, HGR.out⟩
                      clear HM HGR
                      go_wp2_with fail
                      go_meet
                      case rel => exact ⟨M, E, rfl, rfl, rfl, by omega, by omega, by omega, by omega, hH⟩
                  case rest =>
                    obtain ⟨M', E', rfl, rfl, rfl, hm1, hm2, he1, he2, hZ⟩ := hcut
                    clear HM HGR
                    by_cases h30 : 30 < E'
                    · have hres : nearF n x = (0, 0, false) := by
                        have h32 := hZ.out.2 h30
                        rw [hZ.out.1]
                        refine newF_big ?_ (by omega)
                        rcases hsgr with rfl | rfl
                        · omega
                        · omega
                      have HR := Lib.hid hres
                      have h30d : decide (30 < E') = true := decide_eq_true h30
                      obtain ⟨-, s0, s1, sf0, sf1⟩ := HK.out _ hbw2
                      clear hres hZ
                      go_wp2_with fail
                      refine bodyPost_ret (v := .tuple #[.agg #[.int .i64 0, .int .i64 0], .bool false]) (by simp [results, Tryd.results55, go_sem, s0, s1]) rfl ⟨by rw [HR.out], ?_⟩
                      iterate 2 refine Below.setCell ?_ (by dsimp only; omega) _
                      exact nx bb hbw2
                    · have h30d : decide (30 < E') = false := decide_eq_false h30
                      have hwsg : IntKind.i64.wrap (sg * M') = sg * M' := by rcases hsgr with rfl | rfl <;> exact IntWalk.i64_in _ (by omega)
                      obtain ⟨⟨A, B2, C⟩, hz⟩ : ∃ z, newF (sg * M') E' = z := ⟨_, rfl⟩
                      have hfn := fun w => newF_spec (sg * M') E' w
                      have hV := hZ.out.1
                      rw [hz] at hV hfn
                      obtain ⟨MM, hMM⟩ : ∃ z, z = sg * M' := ⟨_, rfl⟩
                      rw [← hMM] at hfn hwsg hz
                      have HR := Lib.hid hV; have HFN := Lib.hid hfn; have HMM := Lib.hid hMM
                      have hsm : sg * M' = MM := hMM.symm
                      have HZZ := Lib.hid hz
                      clear hV hfn hz hZ hMM
                      go_wp2_with fail
                      (with_reducible refine (HFN.out _).mono ?_)
                      rintro _ w4 ⟨rfl, b4⟩
                      have d4 := nx b4 (below1 w4 (.cells #[.int .i64 A, .int .i64 B2] 56))
                      obtain ⟨k0, k1⟩ := box2 (Below.refl _ (w4.alloc (.cells #[.int .i64 A, .int .i64 B2] 56)))
                      obtain ⟨-, s0, s1, sf0, sf1⟩ := HK.out _ (nx hbw2 d4)
                      cases C with
                      | false =>
                        obtain ⟨rfl, rfl⟩ := newF_false HZZ.out
                        go_wp2_with fail
                        try (refine bodyPost_ret (v := .tuple #[.agg #[.int .i64 0, .int .i64 0], .bool false]) (by simp [results, Tryd.results55, go_sem, s0, s1]) rfl ⟨by rw [HR.out], ?_⟩
                             iterate 2 refine Below.setCell ?_ (by dsimp only; omega) _
                             exact nx bb (nx hbw2 d4))
                      | true =>
                        go_wp2_with fail
                        try (refine bodyPost_ret (v := .tuple #[.agg #[.int .i64 A, .int .i64 B2], .bool true]) (by simp [results, Tryd.results55, go_sem, s0, s1]) rfl ⟨by rw [HR.out], ?_⟩
                             iterate 2 refine Below.setCell ?_ (by dsimp only; omega) _
                             exact nx bb (nx hbw2 d4))
end Go.Proofs.YtilmhemcpgiikaaDoor
/- Exact: both alike. -/
namespace Go.Proofs.YtilmhemcpgiikaaDoor
open Go.Deep Go.ChangeShapes Go.WideShapes Go.ChangeAt Go.RowKit
open Go.ChangeMaps (open_string shut_string)

/-- Whether the nearest floating-point number is the number itself. -/
def exactB (n x : Int) : Bool := (nearF n x).2.2 && (decide (fltDecF (nearF n x).1 (nearF n x).2.1 = (n, x)))


set_option maxHeartbeats 2000000 in
theorem exact_spec (n x : Int) (w : World) (g1 : -9223372036854775808 ≤ n) (g2 : n ≤ 9223372036854775807) :
    Calls Tryd.prog 57 #[.agg #[.int .i64 n, .int .i64 x]] w fun en w' => en = .returned (.bool (exactB n x)) ∧ Below w.heap.size w w' := by
  obtain ⟨⟨A, B, C⟩, hN⟩ : ∃ z : Int × Int × Bool, nearF n x = z := ⟨_, rfl⟩
  have h1 := fun w1 (_hb : Below w.heap.size w w1) => nearFlt_spec n x w1 g1 g2
  have h2 := fun w1 (_hb : Below w.heap.size w w1) => fltDec_spec A B w1
  have hr : exactB n x = (C && decide (fltDecF A B = (n, x))) := by unfold exactB; rw [hN]
  rw [hr]
  rw [hN] at h1
  simp only at h1
  obtain ⟨⟨D, E⟩, hD⟩ : ∃ z : Int × Int, fltDecF A B = z := ⟨_, rfl⟩
  rw [hD] at h2 ⊢
  simp only at h2
  obtain ⟨R, hR⟩ : ∃ R, R = (C && decide ((D, E) = (n, x))) := ⟨_, rfl⟩
  rw [← hR]
  have HR := Lib.hid hR
  clear hR
  have H1 := Lib.hid h1; have H2 := Lib.hid h2
  clear h1 h2 hN hr hD 
  go_enter Tryd.func57, Tryd.ntmps57
  go_wp2_with fail
  have b0 := below1 w (.cells #[.int .i64 n, .int .i64 x] 42)
  refine (H1.out _ b0).mono ?_
  rintro _ w1 ⟨rfl, b1⟩
  have d1 := nx b1 (below1 w1 (.cells #[.int .i64 A, .int .i64 B] 56))
  have HK : Hid (∀ w', Below (w1.alloc (.cells #[.int .i64 A, .int .i64 B] 56)).heap.size (w1.alloc (.cells #[.int .i64 A, .int .i64 B] 56)) w' → (w'.cell? ⟨w.heap.size, 0, none⟩ = some (.int .i64 n) ∧ w'.cell? ⟨w.heap.size, 1, none⟩ = some (.int .i64 x)) ∧ (w'.cell? ⟨w1.heap.size, 0, none⟩ = some (.int .i64 A) ∧ w'.cell? ⟨w1.heap.size, 1, none⟩ = some (.int .i64 B))) :=
    Lib.hid (fun w' h => ⟨box2 (nx d1 h), box2 h⟩)
  have d5 : Below (w1.alloc (.cells #[.int .i64 A, .int .i64 B] 56)).heap.size (w1.alloc (.cells #[.int .i64 A, .int .i64 B] 56)) (w1.alloc (.cells #[.int .i64 A, .int .i64 B] 56)).drew := (Below.refl _ _).drew
  cases C with
  | false =>
    obtain rfl : R = false := by rw [HR.out]; simp
    go_wp2_with fail
    go_region_with (fail)
    all_goals
      go_wp2_with fail
      go_ret
      exact ⟨rfl, nx b0 (nx d1 d5)⟩
  | true =>
   by_cases hd : D = n
   · subst hd
     by_cases he : E = x
     · subst he
       obtain rfl : R = true := by rw [HR.out]; simp
       go_wp2_with fail
       go_region_held3 (fun w' => (w'.cell? ⟨w.heap.size, 0, none⟩ = some (.int .i64 D) ∧ w'.cell? ⟨w.heap.size, 1, none⟩ = some (.int .i64 E)) ∧ (w'.cell? ⟨w1.heap.size, 0, none⟩ = some (.int .i64 A) ∧ w'.cell? ⟨w1.heap.size, 1, none⟩ = some (.int .i64 B))) (first | exact HK.out _ d6 | exact HK.out _ d5)
         (first | (go_at_call 45; refine (H2.out _ (nx b0 (nx d1 d5))).mono ?_; rintro _ w6 ⟨rfl, b6⟩; have d6 := nx d5 b6))
       all_goals
         go_wp2_with fail
         go_ret
         exact ⟨rfl, nx b0 (nx d1 d6)⟩
     · have he2 : (E == x) = false := by simpa using he
       obtain rfl : R = false := by rw [HR.out]; simp [he]
       go_wp2_with fail
       go_region_held3 (fun w' => (w'.cell? ⟨w.heap.size, 0, none⟩ = some (.int .i64 D) ∧ w'.cell? ⟨w.heap.size, 1, none⟩ = some (.int .i64 x)) ∧ (w'.cell? ⟨w1.heap.size, 0, none⟩ = some (.int .i64 A) ∧ w'.cell? ⟨w1.heap.size, 1, none⟩ = some (.int .i64 B))) (first | exact HK.out _ d6 | exact HK.out _ d5)
         (first | (go_at_call 45; refine (H2.out _ (nx b0 (nx d1 d5))).mono ?_; rintro _ w6 ⟨rfl, b6⟩; have d6 := nx d5 b6))
       all_goals
         go_wp2_with fail
         go_ret
         exact ⟨rfl, nx b0 (nx d1 d6)⟩
   · have hd2 : (D == n) = false := by simpa using hd
     obtain rfl : R = false := by rw [HR.out]; simp [hd]
     go_wp2_with fail
     go_region_held3 (fun w' => (w'.cell? ⟨w.heap.size, 0, none⟩ = some (.int .i64 n) ∧ w'.cell? ⟨w.heap.size, 1, none⟩ = some (.int .i64 x)) ∧ (w'.cell? ⟨w1.heap.size, 0, none⟩ = some (.int .i64 A) ∧ w'.cell? ⟨w1.heap.size, 1, none⟩ = some (.int .i64 B))) (first | exact HK.out _ d6 | exact HK.out _ d5)
       (first | (go_at_call 45; refine (H2.out _ (nx b0 (nx d1 d5))).mono ?_; rintro _ w6 ⟨rfl, b6⟩; have d6 := nx d5 b6))
     all_goals
       go_wp2_with fail
       go_ret
       exact ⟨rfl, nx b0 (nx d1 d6)⟩

set_option maxHeartbeats 2000000 in
theorem exact_impl (n x : Int) (w : World) (hL : LaidP w) (g1 : -9223372036854775808 ≤ n) (g2 : n ≤ 9223372036854775807) :
    Calls Tryd.prog 53 #[.agg #[.int .i64 n, .int .i64 x]] w fun en w' => en = .returned (.bool (exactB n x)) ∧ Below w.heap.size w w' := by
  obtain ⟨⟨A, B, C⟩, hN⟩ : ∃ z : Int × Int × Bool, nearF n x = z := ⟨_, rfl⟩
  have h1 := fun w1 (hb : Below w.heap.size w w1) => nearFlt_impl n x w1 (hL.kept hb) g1 g2
  have h2 := fun w1 (hb : Below w.heap.size w w1) => fltDec_impl A B w1 (hL.kept hb)
  have hr : exactB n x = (C && decide (fltDecF A B = (n, x))) := by unfold exactB; rw [hN]
  rw [hr]
  rw [hN] at h1
  simp only at h1
  obtain ⟨⟨D, E⟩, hD⟩ : ∃ z : Int × Int, fltDecF A B = z := ⟨_, rfl⟩
  rw [hD] at h2 ⊢
  simp only at h2
  obtain ⟨R, hR⟩ : ∃ R, R = (C && decide ((D, E) = (n, x))) := ⟨_, rfl⟩
  rw [← hR]
  have HR := Lib.hid hR
  clear hR
  have H1 := Lib.hid h1; have H2 := Lib.hid h2
  clear h1 h2 hN hr hD hL
  go_enter Tryd.func53, Tryd.ntmps53
  go_wp2_with fail
  have b0 := below1 w (.cells #[.int .i64 n, .int .i64 x] 42)
  refine (H1.out _ b0).mono ?_
  rintro _ w1 ⟨rfl, b1⟩
  have d1 := nx b1 (below1 w1 (.cells #[.int .i64 A, .int .i64 B] 56))
  have HK : Hid (∀ w', Below (w1.alloc (.cells #[.int .i64 A, .int .i64 B] 56)).heap.size (w1.alloc (.cells #[.int .i64 A, .int .i64 B] 56)) w' → (w'.cell? ⟨w.heap.size, 0, none⟩ = some (.int .i64 n) ∧ w'.cell? ⟨w.heap.size, 1, none⟩ = some (.int .i64 x)) ∧ (w'.cell? ⟨w1.heap.size, 0, none⟩ = some (.int .i64 A) ∧ w'.cell? ⟨w1.heap.size, 1, none⟩ = some (.int .i64 B))) :=
    Lib.hid (fun w' h => ⟨box2 (nx d1 h), box2 h⟩)
  have d5 : Below (w1.alloc (.cells #[.int .i64 A, .int .i64 B] 56)).heap.size (w1.alloc (.cells #[.int .i64 A, .int .i64 B] 56)) (w1.alloc (.cells #[.int .i64 A, .int .i64 B] 56)).drew := (Below.refl _ _).drew
  cases C with
  | false =>
    obtain rfl : R = false := by rw [HR.out]; simp
    go_wp2_with fail
    go_region_with (fail)
    all_goals
      go_wp2_with fail
      go_ret
      exact ⟨rfl, nx b0 (nx d1 d5)⟩
  | true =>
   by_cases hd : D = n
   · subst hd
     by_cases he : E = x
     · subst he
       obtain rfl : R = true := by rw [HR.out]; simp
       go_wp2_with fail
       go_region_held3 (fun w' => (w'.cell? ⟨w.heap.size, 0, none⟩ = some (.int .i64 D) ∧ w'.cell? ⟨w.heap.size, 1, none⟩ = some (.int .i64 E)) ∧ (w'.cell? ⟨w1.heap.size, 0, none⟩ = some (.int .i64 A) ∧ w'.cell? ⟨w1.heap.size, 1, none⟩ = some (.int .i64 B))) (first | exact HK.out _ d6 | exact HK.out _ d5)
         (first | (go_at_call 40; refine (H2.out _ (nx b0 (nx d1 d5))).mono ?_; rintro _ w6 ⟨rfl, b6⟩; have d6 := nx d5 b6))
       all_goals
         go_wp2_with fail
         go_ret
         exact ⟨rfl, nx b0 (nx d1 d6)⟩
     · have he2 : (E == x) = false := by simpa using he
       obtain rfl : R = false := by rw [HR.out]; simp [he]
       go_wp2_with fail
       go_region_held3 (fun w' => (w'.cell? ⟨w.heap.size, 0, none⟩ = some (.int .i64 D) ∧ w'.cell? ⟨w.heap.size, 1, none⟩ = some (.int .i64 x)) ∧ (w'.cell? ⟨w1.heap.size, 0, none⟩ = some (.int .i64 A) ∧ w'.cell? ⟨w1.heap.size, 1, none⟩ = some (.int .i64 B))) (first | exact HK.out _ d6 | exact HK.out _ d5)
         (first | (go_at_call 40; refine (H2.out _ (nx b0 (nx d1 d5))).mono ?_; rintro _ w6 ⟨rfl, b6⟩; have d6 := nx d5 b6))
       all_goals
         go_wp2_with fail
         go_ret
         exact ⟨rfl, nx b0 (nx d1 d6)⟩
   · have hd2 : (D == n) = false := by simpa using hd
     obtain rfl : R = false := by rw [HR.out]; simp [hd]
     go_wp2_with fail
     go_region_held3 (fun w' => (w'.cell? ⟨w.heap.size, 0, none⟩ = some (.int .i64 n) ∧ w'.cell? ⟨w.heap.size, 1, none⟩ = some (.int .i64 x)) ∧ (w'.cell? ⟨w1.heap.size, 0, none⟩ = some (.int .i64 A) ∧ w'.cell? ⟨w1.heap.size, 1, none⟩ = some (.int .i64 B))) (first | exact HK.out _ d6 | exact HK.out _ d5)
       (first | (go_at_call 40; refine (H2.out _ (nx b0 (nx d1 d5))).mono ?_; rintro _ w6 ⟨rfl, b6⟩; have d6 := nx d5 b6))
     all_goals
       go_wp2_with fail
       go_ret
       exact ⟨rfl, nx b0 (nx d1 d6)⟩
end Go.Proofs.YtilmhemcpgiikaaDoor
