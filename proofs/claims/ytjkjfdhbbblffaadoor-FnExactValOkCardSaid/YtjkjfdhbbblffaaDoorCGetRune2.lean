/- GetRune of the reference, at every place of every slice. -/
import Derived.Test.YtjkjfdhbbblffaaDoorCGetRune
namespace Go.Proofs.YtjkjfdhbbblffaaDoor
open Go.Deep Go.ChangeShapes Go.WideShapes Go.ChangeAt Go.RowKit
open Go.ChangeMaps (open_string shut_string)

set_option maxRecDepth 100000 in
set_option maxHeartbeats 2000000 in
theorem getRune_spec_0 (zs : List Int) (b off : Nat) (cap : Nat) (p : Nat) (w : World) (hread : ∀ j, j < zs.length → w.cell? ⟨b, off + j, none⟩ = some (.int .u8 (zs.getD j 0))) (hz : ∀ n ∈ zs, (Lit.int .u8 n).wf = true) (hlen : zs.length ≤ 1048576) (hp : p < zs.length) (hcl : leadW (bzf zs p 0) = 0) :
    Calls Tryd.prog 40 #[.slice (some ⟨b, off, none⟩) zs.length cap, .int .i64 p] w fun e w' => e = .returned (.tuple #[.int .i64 (getV zs p).1, .int .i64 (getV zs p).2.1, .bool (getV zs p).2.2]) ∧ w = w' := by
  have HR := Lib.hid hread; have HZ := Lib.hid hz; clear hread hz
  have d1 : decide ((p : Int) < 0) = false := decide_eq_false (by omega)
  have d2 : decide ((zs.length : Int) ≤ (p : Int)) = false := decide_eq_false (by omega)
  have hcell := HR.out p hp
  have HF : Hid (getV zs p = (0, 0, false)) := Lib.hid (getV_bad (fun h => h.1 hcl))
  obtain ⟨X, hX⟩ : ∃ X : Nat, X = bzf zs p 0 := ⟨_, rfl⟩
  have hx0 := bzf_eq HZ.out p 0
  rw [← hX, Nat.add_zero] at hx0
  rw [← hx0] at hcell
  rw [← hX] at hcl
  have hxl : X < 256 := by rw [hX]; exact bzf_lt HZ.out p 0
  have hwx : IntKind.i64.wrap (X : Int) = X := wrap_mid (by omega) (by omega)
  clear hX hx0
  have hq : 128 ≤ X ∧ ¬ (192 ≤ X ∧ X ≤ 223) ∧ ¬ (224 ≤ X ∧ X ≤ 239) ∧ ¬ (240 ≤ X ∧ X ≤ 247) := by
    unfold leadW at hcl
    (repeat' split at hcl) <;> omega
  have e1 : decide ((X : Int) < 128) = false := decide_eq_false (by omega)
  have e2 : inB (X : Int) 192 223 = false := inB_false.2 (by omega)
  have e3 : inB (X : Int) 224 239 = false := inB_false.2 (by omega)
  have e4 : inB (X : Int) 240 247 = false := inB_false.2 (by omega)
  clear hcl hq
  go_enter Tryd.func40, Tryd.ntmps40
  go_wp2_with (first | (go_at_call 22; refine (l1In_c _ _ _ _).mono ?_; rintro e w' ⟨rfl, rfl⟩) | (go_at_call 56; refine (wideOf_spec _ _).mono ?_; rintro e w' ⟨rfl, rfl⟩))
  refine bodyPost_ret (v := .tuple #[.int .i64 0, .int .i64 0, .bool false]) (by simp [results, Tryd.results40, go_sem]) rfl ⟨by rw [HF.out], rfl⟩

theorem getRune_spec_no (L : Nat) (a : Option Addr) (cap : Nat) (p : Int) (w : World) (h : ¬ (0 ≤ p ∧ p < L)) :
    Calls Tryd.prog 40 #[.slice a L cap, .int .i64 p] w fun e w' => e = .returned (.tuple #[.int .i64 0, .int .i64 0, .bool false]) ∧ w = w' := by
  by_cases c : p < 0
  · go_enter Tryd.func40, Tryd.ntmps40
    go_wp2_with fail
    refine bodyPost_ret (v := .tuple #[.int .i64 0, .int .i64 0, .bool false]) (by simp [results, Tryd.results40, go_sem]) rfl ⟨rfl, rfl⟩
  · have d1 : decide (p < 0) = false := decide_eq_false c
    have d2 : decide ((L : Int) ≤ p) = true := decide_eq_true (by omega)
    clear h
    go_enter Tryd.func40, Tryd.ntmps40
    go_wp2_with fail
    refine bodyPost_ret (v := .tuple #[.int .i64 0, .int .i64 0, .bool false]) (by simp [results, Tryd.results40, go_sem]) rfl ⟨rfl, rfl⟩

theorem getRune_spec (zs : List Int) (a : Option Addr) (cap : Nat) (p : Int) (w : World) (hr : Rd w .u8 a zs) (hz : ∀ n ∈ zs, (Lit.int .u8 n).wf = true) (hlen : zs.length ≤ 1048576) :
    Calls Tryd.prog 40 #[.slice a zs.length cap, .int .i64 p] w fun e w' => e = .returned (.tuple #[.int .i64 (getV zs p).1, .int .i64 (getV zs p).2.1, .bool (getV zs p).2.2]) ∧ w = w' := by
  by_cases h : 0 ≤ p ∧ p < zs.length
  · obtain ⟨q, rfl⟩ : ∃ q : Nat, p = q := ⟨p.toNat, by omega⟩
    have hq : q < zs.length := by omega
    rcases hr with rfl | ⟨b, off, rfl, -, hc⟩
    · simp at hq
    by_cases c1 : bzf zs q 0 < 128
    · exact getRune_spec_1 zs b off cap q w hc hz hlen hq c1
    by_cases c2 : 192 ≤ bzf zs q 0 ∧ bzf zs q 0 ≤ 223
    · exact getRune_spec_2 zs b off cap q w hc hz hlen hq c2
    by_cases c3 : 224 ≤ bzf zs q 0 ∧ bzf zs q 0 ≤ 239
    · exact getRune_spec_3 zs b off cap q w hc hz hlen hq c3
    by_cases c4 : 240 ≤ bzf zs q 0 ∧ bzf zs q 0 ≤ 247
    · exact getRune_spec_4 zs b off cap q w hc hz hlen hq c4
    · exact getRune_spec_0 zs b off cap q w hc hz hlen hq (by unfold leadW; rw [if_neg c1, if_neg c2, if_neg c3, if_neg c4])
  · rw [getV_no h]
    exact getRune_spec_no _ _ _ _ _ h
end Go.Proofs.YtjkjfdhbbblffaaDoor
