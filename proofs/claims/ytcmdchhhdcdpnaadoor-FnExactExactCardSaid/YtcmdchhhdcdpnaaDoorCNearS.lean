/- NearFlt of the reference. -/
import Derived.Test.YtcmdchhhdcdpnaaDoorCNearI
namespace Go.Proofs.YtcmdchhhdcdpnaaDoor
open Go.Deep Go.ChangeShapes Go.WideShapes Go.ChangeAt Go.RowKit
open Go.ChangeMaps (open_string shut_string)

/-- Is there a rest that counts? -/
def restB (r d : Nat) : Bool := if 2 * r < d then decide (0 < r) else true

theorem scaled_step {n p i : Nat} (hp : 0 < p) : n * 2 ^ (i + 1) / p = 2 * (n * 2 ^ i / p) + (if p ≤ 2 * (n * 2 ^ i % p) then 1 else 0) ∧ n * 2 ^ (i + 1) % p = 2 * (n * 2 ^ i % p) - (if p ≤ 2 * (n * 2 ^ i % p) then p else 0) := by
  rw [Nat.pow_succ, ← Nat.mul_assoc]
  exact double_div _ p hp
theorem scaled_mono {n p i s : Nat} (h : i ≤ s) : n * 2 ^ i / p ≤ n * 2 ^ s / p :=
  Nat.div_le_div_right (Nat.mul_le_mul_left _ (Nat.pow_le_pow_right (by decide) h))

set_option maxRecDepth 100000 in
set_option maxHeartbeats 2000000 in
theorem scaled_c (n p s : Nat) (w : World) (hn : n < 100000000000000000) (hp : 1 ≤ p) (hp2 : p ≤ 10000000000000000) (hs : s ≤ 17) (hb : n * 2 ^ s / p ≤ 200000) :
    Calls Tryd.prog 13 #[.int .i64 n, .int .i64 p, .int .i64 s] w fun e w' => e = .returned (.tuple #[.int .i64 ((n * 2 ^ s / p : Nat) : Int), .int .i64 (cmpH (n * 2 ^ s % p) p), .bool (restB (n * 2 ^ s % p) p)]) ∧ w = w' := by
  have hmono := fun i (h : i ≤ s) => Nat.le_trans (scaled_mono (n := n) (p := p) h) hb
  have hml := fun i => Nat.mod_lt (n * 2 ^ i) (show 0 < p by omega)
  have hstep := fun i => scaled_step (n := n) (p := p) (i := i) (by omega)
  have h0 : n / p ≤ 200000 := by have := hmono 0 (by omega); simpa using this
  have k1 : (n : Int) / (p : Int) = ((n / p : Nat) : Int) := (Int.natCast_ediv _ _).symm
  have k2 : (n : Int) % (p : Int) = ((n % p : Nat) : Int) := (Int.natCast_emod _ _).symm
  have hm0 : n % p < p := Nat.mod_lt _ (by omega)
  have e0 : n * 2 ^ 0 / p = n / p ∧ n * 2 ^ 0 % p = n % p := by rw [Nat.pow_zero, Nat.mul_one]; exact ⟨rfl, rfl⟩
  obtain ⟨Q, hQ⟩ : ∃ z, z = n * 2 ^ s / p := ⟨_, rfl⟩
  obtain ⟨R, hR⟩ : ∃ z, z = n * 2 ^ s % p := ⟨_, rfl⟩
  rw [← hQ, ← hR]
  have HR := Lib.hid (⟨hQ, hR⟩ : Q = n * 2 ^ s / p ∧ R = n * 2 ^ s % p)
  obtain ⟨qn, hqn⟩ : ∃ z, z = n / p := ⟨_, rfl⟩
  obtain ⟨rn, hrn⟩ : ∃ z, z = n % p := ⟨_, rfl⟩
  rw [← hqn] at k1 h0
  rw [← hrn] at k2 hm0
  have HZ := Lib.hid (⟨by rw [hqn, e0.1], by rw [hrn, e0.2]⟩ : (qn : Int) = ((n * 2 ^ 0 / p : Nat) : Int) ∧ (rn : Int) = ((n * 2 ^ 0 % p : Nat) : Int))
  obtain ⟨q0, hq0⟩ : ∃ z : Int, z = (qn : Int) := ⟨_, rfl⟩
  obtain ⟨r0, hr0⟩ : ∃ z : Int, z = (rn : Int) := ⟨_, rfl⟩
  have z1 : 0 ≤ q0 ∧ q0 ≤ 200000 := by omega
  have z2 : 0 ≤ r0 ∧ r0 < (p : Int) := by omega
  rw [← hq0] at k1 HZ
  rw [← hr0] at k2 HZ
  have K2 := Lib.hid k2
  clear hqn hrn k2
  have hp0 : ¬ p = 0 := by omega
  have HM := Lib.hid hmono; have HST := Lib.hid hstep; have HML := Lib.hid hml
  clear hmono hml hstep h0 hm0 e0 hQ hR hb hq0 hr0
  go_enter Tryd.func13, Tryd.ntmps13
  go_wp2_with fail
  clear k1
  go_loop [9, 10, 11] (fun a b c => ∃ (i : Nat) (q r : Int), i ≤ s ∧ a = .int .i64 q ∧ b = .int .i64 r ∧ c = .int .i64 i ∧ 0 ≤ q ∧ q ≤ 200000 ∧ 0 ≤ r ∧ r < (p : Int) ∧ Hid (q = ((n * 2 ^ i / p : Nat) : Int) ∧ r = ((n * 2 ^ i % p : Nat) : Int))) (fun _ _ c => s - (intOf c).toNat)
  case atStart => exact ⟨0, q0, r0, by omega, rfl, by first | rfl | rw [K2.out], rfl, by omega, by omega, by omega, by omega, HZ⟩
  case round =>
    clear HZ z1 z2
    obtain ⟨i, q, r, hi, rfl, rfl, rfl, hq1, hq2, hr1, hr2, hH⟩ := hrel
    by_cases hlt : i < s
    · have hm1 := HM.out (i + 1) (by omega)
      obtain ⟨t1, t2⟩ := HST.out i
      have hl1 := HML.out (i + 1)
      obtain ⟨hh1, hh2⟩ := hH.out
      by_cases hge : (p : Int) ≤ 2 * r
      · rw [if_pos (by omega)] at t1 t2
        have hN : Hid (2 * q + 1 = ((n * 2 ^ (i + 1) / p : Nat) : Int) ∧ 2 * r - p = ((n * 2 ^ (i + 1) % p : Nat) : Int)) := Lib.hid ⟨by omega, by omega⟩
        have z3 : 2 * q + 1 ≤ 200000 := by omega
        have z4 : 0 ≤ 2 * r - (p : Int) ∧ 2 * r - (p : Int) < (p : Int) := by omega
        clear hm1 t1 t2 hl1 hh1 hh2 hH
        go_wp2_with fail
        go_round
        case rel => exact ⟨i + 1, _, _, by omega, rfl, rfl, by go_num, by omega, z3, z4.1, z4.2, hN⟩
        case measure => simp [intOf]; omega
      · rw [if_neg (by omega)] at t1 t2
        have hN : Hid (2 * q = ((n * 2 ^ (i + 1) / p : Nat) : Int) ∧ 2 * r = ((n * 2 ^ (i + 1) % p : Nat) : Int)) := Lib.hid ⟨by omega, by omega⟩
        have z3 : 2 * q ≤ 200000 := by omega
        clear hm1 t1 t2 hl1 hh1 hh2 hH
        go_wp2_with fail
        go_round
        case rel => exact ⟨i + 1, _, _, by omega, rfl, rfl, by go_num, by omega, z3, by omega, by omega, hN⟩
        case measure => simp [intOf]; omega
    · obtain rfl : i = s := by omega
      obtain ⟨hh1, hh2⟩ := hH.out
      rw [← HR.out.1] at hh1
      rw [← HR.out.2] at hh2
      subst hh1
      have hc : (2 * r < (p : Int)) ∨ ((p : Int) < 2 * r) ∨ 2 * r = (p : Int) := by omega
      rcases hc with h | h | h
      · have e1 : cmpH R p = -1 := by unfold cmpH; rw [if_neg (by omega), if_neg (by omega)]
        have e2 : restB R p = decide (0 < r) := by unfold restB; rw [if_pos (by omega)]; apply decide_eq_decide.2; omega
        have E1 := Lib.hid e1; have E2 := Lib.hid e2
        have hd : decide (2 * r < (p : Int)) = true := decide_eq_true h
        clear e1 e2 hh2 hH
        go_wp2_with fail
        go_ret3
        exact ⟨by rw [E1.out, E2.out]; rfl, rfl⟩
      · have e1 : cmpH R p = 1 := by unfold cmpH; rw [if_pos (by omega)]
        have e2 : restB R p = true := by unfold restB; rw [if_neg (by omega)]
        have E1 := Lib.hid e1; have E2 := Lib.hid e2
        have hd : decide (2 * r < (p : Int)) = false := decide_eq_false (by omega)
        have hd2 : decide ((p : Int) < 2 * r) = true := decide_eq_true h
        clear e1 e2 hh2 hH
        go_wp2_with fail
        go_ret3
        exact ⟨by rw [E1.out, E2.out]; rfl, rfl⟩
      · have e1 : cmpH R p = 0 := by unfold cmpH; rw [if_neg (by omega), if_pos (by omega)]
        have e2 : restB R p = true := by unfold restB; rw [if_neg (by omega)]
        have E1 := Lib.hid e1; have E2 := Lib.hid e2
        have hd : decide (2 * r < (p : Int)) = false := decide_eq_false (by omega)
        have hd2 : decide ((p : Int) < 2 * r) = false := decide_eq_false (by omega)
        clear e1 e2 hh2 hH
        go_wp2_with fail
        go_ret3
        exact ⟨by rw [E1.out, E2.out]; rfl, rfl⟩
end Go.Proofs.YtcmdchhhdcdpnaaDoor
