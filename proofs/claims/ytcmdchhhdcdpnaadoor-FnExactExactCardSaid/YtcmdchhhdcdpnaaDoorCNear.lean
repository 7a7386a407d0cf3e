/- NearFlt of the program. -/
import Derived.Test.YtcmdchhhdcdpnaaDoorCDiv
import Derived.Test.YtcmdchhhdcdpnaaDoorMNear
import Derived.Test.YtcmdchhhdcdpnaaDoorCLess
import Derived.Test.YtcmdchhhdcdpnaaDoorCFltText
namespace Go.Proofs.YtcmdchhhdcdpnaaDoor
open Go.Deep Go.ChangeShapes Go.WideShapes Go.ChangeAt Go.RowKit
open Go.ChangeMaps (open_string shut_string)

/-- How a rest compares with a half. -/
def cmpH (r d : Nat) : Int := if d < 2 * r then 1 else if 2 * r = d then 0 else -1
/-- What 'shifted' gives. -/
def shQ (n k d : Nat) : Nat := if d * 18446744073709551616 ≤ n * 2 ^ k then 9223372036854775808 else n * 2 ^ k / d
def shH (n k d : Nat) : Int := if d * 18446744073709551616 ≤ n * 2 ^ k then 0 else cmpH (n * 2 ^ k % d) d

set_option maxRecDepth 100000 in
set_option maxHeartbeats 4000000 in
theorem shifted_c (n k d : Nat) (w : World) (hn : n < 18446744073709551616) (hk : k ≤ 16) (hd : 0 < d) (hd2 : d < 18446744073709551616) :
    Calls Tryd.prog 18 #[.int .u64 n, .int .u64 k, .int .u64 d] w fun e w' => e = .returned (.tuple #[.int .u64 ((shQ n k d : Nat) : Int), .int .i64 (shH n k d)]) ∧ Below w.heap.size w w' := by
  have hp : 2 ^ k ≤ 65536 := by
    have := Nat.pow_le_pow_right (n := 2) (by decide) hk
    have e : (2 : Nat) ^ 16 = 65536 := by decide
    rw [e] at this; exact this
  have f1 : IntKind.u64.wrap (2 ^ k : Int) = ((2 ^ k : Nat) : Int) := by
    have := u64w (2 ^ k) (by omega)
    rw [Int.natCast_pow] at this ⊢
    exact this
  have hm := fun w => Tryd.bits_Mul64 n (2 ^ k) hn (by omega) w
  obtain ⟨hi, hhi⟩ : ∃ z, z = n * 2 ^ k / 18446744073709551616 := ⟨_, rfl⟩
  obtain ⟨lo, hlo⟩ : ∃ z, z = n * 2 ^ k % 18446744073709551616 := ⟨_, rfl⟩
  have hN : n * 2 ^ k = hi * 18446744073709551616 + lo := by omega
  rw [← hhi, ← hlo] at hm
  have hlo2 : lo < 18446744073709551616 := by omega
  have hhi2 : hi < 18446744073709551616 := by
    have := Nat.mul_le_mul (show n ≤ 18446744073709551615 by omega) hp
    omega
  by_cases hb : d ≤ hi
  · have hs : d * 18446744073709551616 ≤ n * 2 ^ k := by omega
    have h1 : shQ n k d = 9223372036854775808 := if_pos hs
    have h2 : shH n k d = 0 := if_pos hs
    rw [h1, h2]
    have HM := Lib.hid hm
    have hc : decide ((d : Int) ≤ (hi : Int)) = true := decide_eq_true (by omega)
    clear h1 h2 hs hN hhi hlo hm hp
    generalize (2 : Nat) ^ k = P at *
    go_enter Tryd.func18, Tryd.ntmps18
    go_wp2_with fail
    refine (HM.out _).mono ?_
    rintro _ _ ⟨rfl, rfl⟩
    go_wp2_with fail
    go_ret2
    exact ⟨rfl, Below.refl _ _⟩
  · have hs : ¬ d * 18446744073709551616 ≤ n * 2 ^ k := by
      have := Nat.mul_le_mul_right 18446744073709551616 (show hi + 1 ≤ d by omega)
      omega
    have h1 : shQ n k d = n * 2 ^ k / d := if_neg hs
    have h2 : shH n k d = cmpH (n * 2 ^ k % d) d := if_neg hs
    rw [h1, h2]
    have hv := fun w => div64_c hi lo d w (by omega) hd2 hlo2
    rw [← hN] at hv
    have hrl := Nat.mod_lt (n * 2 ^ k) hd
    have hcn : ¬ (d : Int) ≤ (hi : Int) := by omega
    obtain ⟨Q, hQ⟩ : ∃ z, z = n * 2 ^ k / d := ⟨_, rfl⟩
    obtain ⟨R, hR⟩ : ∃ z, z = n * 2 ^ k % d := ⟨_, rfl⟩
    rw [← hQ, ← hR] at hv ⊢
    rw [← hR] at hrl
    have HM := Lib.hid hm; have HV := Lib.hid hv
    have hdec : decide ((d : Int) ≤ (hi : Int)) = false := decide_eq_false hcn
    have hsub : IntKind.u64.wrap ((d : Int) - (R : Int)) = (d : Int) - (R : Int) := IntWalk.u64_in _ (by omega)
    obtain ⟨D, hD⟩ : ∃ z : Int, z = (d : Int) := ⟨_, rfl⟩
    obtain ⟨RI, hRI⟩ : ∃ z : Int, z = (R : Int) := ⟨_, rfl⟩
    clear hs hN hhi hlo hm hv h1 h2 hQ hR hb hp
    generalize (2 : Nat) ^ k = P at *
    have hc : (d < 2 * R) ∨ (¬ d < 2 * R ∧ 2 * R = d) ∨ (¬ d < 2 * R ∧ ¬ 2 * R = d) := by omega
    rcases hc with h | ⟨h, h'⟩ | ⟨h, h'⟩
    · have hr : cmpH R d = 1 := if_pos h
      rw [hr]
      have t1 : decide ((d : Int) - (R : Int) < (R : Int)) = true := decide_eq_true (by omega)
      clear h hr
      go_enter Tryd.func18, Tryd.ntmps18
      go_wp2_with fail
      refine (HM.out _).mono ?_
      rintro _ _ ⟨rfl, rfl⟩
      go_wp2_with fail
      refine (HV.out _).mono ?_
      rintro _ w2 ⟨rfl, b2⟩
      go_wp2_with fail
      go_ret2
      exact ⟨rfl, b2⟩
    · have hr : cmpH R d = 0 := by unfold cmpH; rw [if_neg h, if_pos h']
      rw [hr]
      have t1 : decide ((d : Int) - (R : Int) < (R : Int)) = false := decide_eq_false (by omega)
      have t2 : (R : Int) = (d : Int) - (R : Int) := by omega
      have t3 : ((R : Int) == (d : Int) - (R : Int)) = true := by rw [← t2]; simp
      clear h h' hr t2
      go_enter Tryd.func18, Tryd.ntmps18
      go_wp2_with fail
      refine (HM.out _).mono ?_
      rintro _ _ ⟨rfl, rfl⟩
      go_wp2_with fail
      refine (HV.out _).mono ?_
      rintro _ w2 ⟨rfl, b2⟩
      go_wp2_with fail
      go_ret2
      exact ⟨rfl, b2⟩
    · have hr : cmpH R d = -1 := by unfold cmpH; rw [if_neg h, if_neg h']
      rw [hr]
      have t1 : decide ((d : Int) - (R : Int) < (R : Int)) = false := decide_eq_false (by omega)
      have t2 : ¬ (R : Int) = (d : Int) - (R : Int) := by omega
      have t3 : ((R : Int) == (d : Int) - (R : Int)) = false := by simpa using t2
      clear h h' hr t2
      go_enter Tryd.func18, Tryd.ntmps18
      go_wp2_with fail
      refine (HM.out _).mono ?_
      rintro _ _ ⟨rfl, rfl⟩
      go_wp2_with fail
      refine (HV.out _).mono ?_
      rintro _ w2 ⟨rfl, b2⟩
      go_wp2_with fail
      go_ret2
      exact ⟨rfl, b2⟩
end Go.Proofs.YtcmdchhhdcdpnaaDoor
