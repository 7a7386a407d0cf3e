/- Vals: texts of the proof (CGetRune). -/
import Derived.Test.YtilmhemcpgiikaaGreatDoorSVals17
import Derived.Deep.DeepCutAuto
/- GetRune of the reference. -/
namespace Go.Proofs.YtilmhemcpgiikaaGreatDoor
open Go.Deep Go.ChangeShapes Go.WideShapes Go.ChangeAt Go.RowKit
open Go.ChangeMaps (open_string shut_string)

theorem wrap_mid {n : Int} (h : -9223372036854775808 ≤ n) (h2 : n ≤ 9223372036854775807) : IntKind.i64.wrap n = n := by
  unfold IntKind.wrap; simp [IntKind.bits, IntKind.signed]; omega
/-- The bytes from a place on. -/
def bzf (zs : List Int) (p : Nat) : Nat → Nat := fun i => (zs.getD (p + i) 0).toNat
theorem byte_at {zs : List Int} (hz : ∀ n ∈ zs, (Lit.int .u8 n).wf = true) (i : Nat) : 0 ≤ zs.getD i 0 ∧ zs.getD i 0 ≤ 255 := by
  rw [List.getD_eq_getElem?_getD]
  cases h : zs[i]? with
  | none => simp
  | some x =>
    have := hz x (List.mem_of_getElem? h)
    have h2 : (0 : Int) ≤ x ∧ x ≤ 255 := by simpa [Lit.wf, IntKind.min, IntKind.max, IntKind.bits, IntKind.signed] using this
    simpa using h2
theorem bzf_eq {zs : List Int} (hz : ∀ n ∈ zs, (Lit.int .u8 n).wf = true) (p i : Nat) : ((bzf zs p i : Nat) : Int) = zs.getD (p + i) 0 := by
  have := byte_at hz (p + i); unfold bzf; omega
theorem bzf_lt {zs : List Int} (hz : ∀ n ∈ zs, (Lit.int .u8 n).wf = true) (p i : Nat) : bzf zs p i < 256 := by
  have := byte_at hz (p + i); unfold bzf; omega
/-- What GetRune answers. -/
noncomputable def getV (zs : List Int) (p : Int) : Int × Int × Bool :=
  if 0 ≤ p ∧ p < zs.length then (if (getF (zs.length - p.toNat) (bzf zs p.toNat)).2.2 = true then ((getF (zs.length - p.toNat) (bzf zs p.toNat)).1, p + (getF (zs.length - p.toNat) (bzf zs p.toNat)).2.1, true) else (0, 0, false)) else (0, 0, false)

theorem getV_no {zs : List Int} {p : Int} (h : ¬(0 ≤ p ∧ p < zs.length)) : getV zs p = (0, 0, false) := if_neg h
theorem getV_bad {zs : List Int} {p : Nat} (h : ¬ goodB (zs.length - p) (bzf zs p)) : getV zs p = (0, 0, false) := by
  unfold getV
  split
  · rw [show ((p : Int)).toNat = p by omega]
    unfold getF
    rw [if_neg h, if_neg (by simp)]
  · rfl
theorem getV_good {zs : List Int} {p : Nat} (hp : p < zs.length) (h : goodB (zs.length - p) (bzf zs p)) : getV zs p = (accB (bzf zs p) (leadW (bzf zs p 0) - 1), (p : Int) + (leadW (bzf zs p 0) : Nat), true) := by
  unfold getV
  rw [if_pos ⟨by omega, by omega⟩, show ((p : Int)).toNat = p by omega]
  unfold getF
  rw [if_pos h, if_pos rfl]
theorem leadN_bd {x : Nat} (h0 : leadW x ≠ 0) : 0 ≤ leadN x ∧ leadN x < 512 := by
  unfold leadW at h0
  unfold leadN
  (repeat' split at h0) <;> (repeat' split) <;> omega
theorem accB_bd (b : Nat → Nat) (h0 : leadW (b 0) ≠ 0) : ∀ j, j ≤ 3 → (∀ i, 1 ≤ i → i ≤ j → 128 ≤ b i ∧ b i ≤ 191) → 0 ≤ accB b j ∧ accB b j < 64 ^ j * 512
  | 0, _, _ => by simpa [accB] using leadN_bd h0
  | j + 1, h, hc => by
    have h1 := accB_bd b h0 j (by omega) (fun i a c => hc i a (by omega))
    have h2 := hc (j + 1) (by omega) (by omega)
    have e : (64 : Int) ^ (j + 1) = 64 ^ j * 64 := Int.pow_succ _ _
    simp only [accB, e]
    generalize (64 : Int) ^ j = T at *
    omega
theorem pow_small {j : Nat} (h : j ≤ 3) : (64 : Int) ^ j * 512 ≤ 134217728 := by
  have : (j = 0 ∨ j = 1) ∨ j = 2 ∨ j = 3 := by omega
  rcases this with (rfl | rfl) | rfl | rfl <;> decide

set_option maxRecDepth 100000 in
set_option maxHeartbeats 2000000 in
theorem getRune_spec_1 (zs : List Int) (b off : Nat) (cap : Nat) (p : Nat) (w : World) (hread : ∀ j, j < zs.length → w.cell? ⟨b, off + j, none⟩ = some (.int .u8 (zs.getD j 0))) (hz : ∀ n ∈ zs, (Lit.int .u8 n).wf = true) (hlen : zs.length ≤ 1048576) (hp : p < zs.length) (hcl : bzf zs p 0 < 128) :
    Calls Tryz.prog 73 #[.slice (some ⟨b, off, none⟩) zs.length cap, .int .i64 p] w fun e w' => e = .returned (.tuple #[.int .i64 (getV zs p).1, .int .i64 (getV zs p).2.1, .bool (getV zs p).2.2]) ∧ w = w' := by
  have HR := Lib.hid hread; have HZ := Lib.hid hz; clear hread hz
  have d1 : decide ((p : Int) < 0) = false := decide_eq_false (by omega)
  have d2 : decide ((zs.length : Int) ≤ (p : Int)) = false := decide_eq_false (by omega)
  have hcell := HR.out p hp
  obtain ⟨X, hX⟩ : ∃ X : Nat, X = bzf zs p 0 := ⟨_, rfl⟩
  have hx0 := bzf_eq HZ.out p 0
  rw [← hX, Nat.add_zero] at hx0
  rw [← hx0] at hcell
  rw [← hX] at hcl
  have hxl : X < 256 := by rw [hX]; exact bzf_lt HZ.out p 0
  have hwx : IntKind.i64.wrap (X : Int) = X := wrap_mid (by omega) (by omega)
  have hWX : leadW (bzf zs p 0) = 1 := by rw [← hX]; unfold leadW; rw [if_pos hcl]
  have hNX : accB (bzf zs p) 0 = (X : Int) := by show leadN (bzf zs p 0) = _; rw [← hX]; unfold leadN; rw [if_pos hcl]
  have HX := Lib.hid hX; have HW := Lib.hid hWX; have HN := Lib.hid hNX; clear hX hx0 hWX hNX
  have hwn : IntKind.i64.wrap ((zs.length : Int) - (p : Int)) = (zs.length : Int) - p := wrap_mid (by omega) (by omega)
  have e1 : decide ((X : Int) < 128) = true := decide_eq_true (by omega)
  clear hcl
  by_cases hn : 1 ≤ zs.length - p
  · have hn2 : decide ((zs.length : Int) - (p : Int) < 1) = false := decide_eq_false (by omega)
    go_enter Tryz.func73, Tryz.ntmps73
    go_wp2_with (first | (go_at_call 44; refine (l1In_c _ _ _ _).mono ?_; rintro e w' ⟨rfl, rfl⟩) | (go_at_call 85; refine (wideOf_spec _ _).mono ?_; rintro e w' ⟨rfl, rfl⟩))
    go_loop [9, 10, 11] (fun n i _ => ∃ j : Nat, j + 1 ≤ 1 ∧ i = .int .i64 ((j : Int) + 1) ∧ n = .int .i64 (accB (bzf zs p) j) ∧ Hid (∀ i, 1 ≤ i → i ≤ j → 128 ≤ bzf zs p i ∧ bzf zs p i ≤ 191)) (fun _ i _ => (1 - intOf i).toNat)
    case atStart => exact ⟨0, by omega, by simp, by rw [HN.out], Lib.hid (fun i a c => by omega)⟩
    case round =>
      obtain ⟨j, hj, rfl, rfl, hc⟩ := hrel
      have hb := accB_bd (bzf zs p) (by rw [HW.out]; omega) j (by omega) hc.out
      have hs := pow_small (show j ≤ 3 by omega)
      have hb1 : 0 ≤ accB (bzf zs p) j ∧ accB (bzf zs p) j < 134217728 := by omega
      clear hb hs
      by_cases hjw : j + 1 < 1
      · exfalso; omega
      · obtain rfl : j = 1 - 1 := by omega
        have hcont : contB (bzf zs p) 1 := fun i a c => hc.out i a (by omega)
        cases hwide : (wideF (accB (bzf zs p) (1 - 1)) != (1 : Int)) with
        | true =>
          have HF : Hid (getV zs p = (0, 0, false)) := Lib.hid (getV_bad (fun h => by
            have h4 := h.2.2.2
            rw [HW.out] at h4
            simp at hwide h4
            exact hwide h4))
          go_wp2_with (first | (go_at_call 44; refine (l1In_c _ _ _ _).mono ?_; rintro e w' ⟨rfl, rfl⟩) | (go_at_call 85; refine (wideOf_spec _ _).mono ?_; rintro e w' ⟨rfl, rfl⟩))
          refine bodyPost_ret (v := .tuple #[.int .i64 0, .int .i64 0, .bool false]) (by simp [results, Tryz.results73, go_sem]) rfl ⟨by rw [HF.out], rfl⟩
        | false =>
          have HF : Hid (getV zs p = (accB (bzf zs p) (1 - 1), (p : Int) + 1, true)) := Lib.hid (by
            rw [getV_good hp ⟨by rw [HW.out]; omega, by rw [HW.out]; exact hn, by rw [HW.out]; exact hcont, by rw [HW.out]; simpa using hwide⟩, HW.out]; rfl)
          have hwe : IntKind.i64.wrap ((p : Int) + 1) = (p : Int) + 1 := wrap_mid (by omega) (by omega)
          go_wp2_with (first | (go_at_call 44; refine (l1In_c _ _ _ _).mono ?_; rintro e w' ⟨rfl, rfl⟩) | (go_at_call 85; refine (wideOf_spec _ _).mono ?_; rintro e w' ⟨rfl, rfl⟩))
          refine bodyPost_ret (v := .tuple #[.int .i64 (accB (bzf zs p) (1 - 1)), .int .i64 ((p : Int) + 1), .bool true]) (by simp [results, Tryz.results73, go_sem]) rfl ⟨by rw [HF.out], rfl⟩
  · exfalso; omega

set_option maxRecDepth 100000 in
set_option maxHeartbeats 2000000 in
theorem getRune_spec_2 (zs : List Int) (b off : Nat) (cap : Nat) (p : Nat) (w : World) (hread : ∀ j, j < zs.length → w.cell? ⟨b, off + j, none⟩ = some (.int .u8 (zs.getD j 0))) (hz : ∀ n ∈ zs, (Lit.int .u8 n).wf = true) (hlen : zs.length ≤ 1048576) (hp : p < zs.length) (hcl : 192 ≤ bzf zs p 0 ∧ bzf zs p 0 ≤ 223) :
    Calls Tryz.prog 73 #[.slice (some ⟨b, off, none⟩) zs.length cap, .int .i64 p] w fun e w' => e = .returned (.tuple #[.int .i64 (getV zs p).1, .int .i64 (getV zs p).2.1, .bool (getV zs p).2.2]) ∧ w = w' := by
  have HR := Lib.hid hread; have HZ := Lib.hid hz; clear hread hz
  have d1 : decide ((p : Int) < 0) = false := decide_eq_false (by omega)
  have d2 : decide ((zs.length : Int) ≤ (p : Int)) = false := decide_eq_false (by omega)
  have hcell := HR.out p hp
  obtain ⟨X, hX⟩ : ∃ X : Nat, X = bzf zs p 0 := ⟨_, rfl⟩
  have hx0 := bzf_eq HZ.out p 0
  rw [← hX, Nat.add_zero] at hx0
  rw [← hx0] at hcell
  rw [← hX] at hcl
  have hxl : X < 256 := by rw [hX]; exact bzf_lt HZ.out p 0
  have hwx : IntKind.i64.wrap (X : Int) = X := wrap_mid (by omega) (by omega)
  have hWX : leadW (bzf zs p 0) = 2 := by rw [← hX]; unfold leadW; rw [if_neg (by omega), if_pos hcl]
  have hNX : accB (bzf zs p) 0 = (X : Int) - 192 := by show leadN (bzf zs p 0) = _; rw [← hX]; unfold leadN; rw [if_neg (by omega), if_pos (by omega)]
  have HX := Lib.hid hX; have HW := Lib.hid hWX; have HN := Lib.hid hNX; clear hX hx0 hWX hNX
  have hwn : IntKind.i64.wrap ((zs.length : Int) - (p : Int)) = (zs.length : Int) - p := wrap_mid (by omega) (by omega)
  have e1 : decide ((X : Int) < 128) = false := decide_eq_false (by omega)
  have e2 : inB (X : Int) 192 223 = true := inB_true.2 (by omega)
  have hwm : IntKind.i64.wrap ((X : Int) - 192) = (X : Int) - 192 := wrap_mid (by omega) (by omega)
  clear hcl
  by_cases hn : 2 ≤ zs.length - p
  · have hn2 : decide ((zs.length : Int) - (p : Int) < 2) = false := decide_eq_false (by omega)
    go_enter Tryz.func73, Tryz.ntmps73
    go_wp2_with (first | (go_at_call 44; refine (l1In_c _ _ _ _).mono ?_; rintro e w' ⟨rfl, rfl⟩) | (go_at_call 85; refine (wideOf_spec _ _).mono ?_; rintro e w' ⟨rfl, rfl⟩))
    go_loop [9, 10, 11] (fun n i _ => ∃ j : Nat, j + 1 ≤ 2 ∧ i = .int .i64 ((j : Int) + 1) ∧ n = .int .i64 (accB (bzf zs p) j) ∧ Hid (∀ i, 1 ≤ i → i ≤ j → 128 ≤ bzf zs p i ∧ bzf zs p i ≤ 191)) (fun _ i _ => (2 - intOf i).toNat)
    case atStart => exact ⟨0, by omega, by simp, by rw [HN.out], Lib.hid (fun i a c => by omega)⟩
    case round =>
      obtain ⟨j, hj, rfl, rfl, hc⟩ := hrel
      have hb := accB_bd (bzf zs p) (by rw [HW.out]; omega) j (by omega) hc.out
      have hs := pow_small (show j ≤ 3 by omega)
      have hb1 : 0 ≤ accB (bzf zs p) j ∧ accB (bzf zs p) j < 134217728 := by omega
      clear hb hs
      by_cases hjw : j + 1 < 2
      · have e0 : decide ((j : Int) + 1 < 2) = true := decide_eq_true (by omega)
        obtain ⟨q, hq⟩ : ∃ q : Nat, q = p + (j + 1) := ⟨_, rfl⟩
        have hwq : IntKind.i64.wrap ((p : Int) + ((j : Int) + 1)) = (q : Int) := by rw [hq]; exact (wrap_mid (by omega) (by omega)).trans (by omega)
        have hcq := HR.out q (by omega)
        have hyq := bzf_eq HZ.out p (j + 1)
        rw [← hq] at hyq
        rw [← hyq] at hcq
        have hyl := bzf_lt HZ.out p (j + 1)
        have hql : q < zs.length := by omega
        have hnext : accB (bzf zs p) (j + 1) = 64 * accB (bzf zs p) j + bzf zs p (j + 1) - 128 := rfl
        have HNX := Lib.hid hnext; have HQ := Lib.hid hq
        obtain ⟨Y, hY⟩ : ∃ Y : Int, Y = bzf zs p (j + 1) := ⟨_, rfl⟩
        rw [← hY] at hcq
        have hyb : 0 ≤ Y ∧ Y < 256 := by omega
        have HY := Lib.hid hY
        clear hyq hnext hyl hY hq
        generalize accB (bzf zs p) j = acc at *
        have hw1 : IntKind.i64.wrap (64 * acc) = 64 * acc := wrap_mid (by omega) (by omega)
        have hw2 : IntKind.i64.wrap (64 * acc + Y) = 64 * acc + Y := wrap_mid (by omega) (by omega)
        have hw2b : IntKind.i64.wrap (64 * acc + Y - 128) = 64 * acc + Y - 128 := wrap_mid (by omega) (by omega)
        have hw3 : IntKind.i64.wrap Y = Y := wrap_mid (by omega) (by omega)
        have hw4 : IntKind.i64.wrap ((j : Int) + 1 + 1) = (j : Int) + 1 + 1 := wrap_mid (by omega) (by omega)
        cases hy : inB Y 128 191 with
        | false =>
          have HF : Hid (getV zs p = (0, 0, false)) := Lib.hid (getV_bad (fun h => by
            have h3 := h.2.2.1
            rw [HW.out] at h3
            have := h3 (j + 1) (by omega) hjw
            have h5 := inB_false.1 hy
            have := HY.out
            omega))
          go_wp2_with (first | (go_at_call 44; refine (l1In_c _ _ _ _).mono ?_; rintro e w' ⟨rfl, rfl⟩) | (go_at_call 85; refine (wideOf_spec _ _).mono ?_; rintro e w' ⟨rfl, rfl⟩))
          refine bodyPost_ret (v := .tuple #[.int .i64 0, .int .i64 0, .bool false]) (by simp [results, Tryz.results73, go_sem]) rfl ⟨by rw [HF.out], rfl⟩
        | true =>
          have hyy := inB_true.1 hy
          go_wp2_with (first | (go_at_call 44; refine (l1In_c _ _ _ _).mono ?_; rintro e w' ⟨rfl, rfl⟩) | (go_at_call 85; refine (wideOf_spec _ _).mono ?_; rintro e w' ⟨rfl, rfl⟩))
          go_roundw
          case rel => exact ⟨j + 1, by omega, by simp, by rw [HNX.out, HY.out], Lib.hid (fun i a c => by
            by_cases hi : i = j + 1
            · subst hi; have := HY.out; omega
            · exact hc.out i a (by omega))⟩
          case measure => simp [intOf]; omega
      · obtain rfl : j = 2 - 1 := by omega
        have hcont : contB (bzf zs p) 2 := fun i a c => hc.out i a (by omega)
        cases hwide : (wideF (accB (bzf zs p) (2 - 1)) != (2 : Int)) with
        | true =>
          have HF : Hid (getV zs p = (0, 0, false)) := Lib.hid (getV_bad (fun h => by
            have h4 := h.2.2.2
            rw [HW.out] at h4
            simp at hwide h4
            exact hwide h4))
          go_wp2_with (first | (go_at_call 44; refine (l1In_c _ _ _ _).mono ?_; rintro e w' ⟨rfl, rfl⟩) | (go_at_call 85; refine (wideOf_spec _ _).mono ?_; rintro e w' ⟨rfl, rfl⟩))
          refine bodyPost_ret (v := .tuple #[.int .i64 0, .int .i64 0, .bool false]) (by simp [results, Tryz.results73, go_sem]) rfl ⟨by rw [HF.out], rfl⟩
        | false =>
          have HF : Hid (getV zs p = (accB (bzf zs p) (2 - 1), (p : Int) + 2, true)) := Lib.hid (by
            rw [getV_good hp ⟨by rw [HW.out]; omega, by rw [HW.out]; exact hn, by rw [HW.out]; exact hcont, by rw [HW.out]; simpa using hwide⟩, HW.out]; rfl)
          have hwe : IntKind.i64.wrap ((p : Int) + 2) = (p : Int) + 2 := wrap_mid (by omega) (by omega)
          go_wp2_with (first | (go_at_call 44; refine (l1In_c _ _ _ _).mono ?_; rintro e w' ⟨rfl, rfl⟩) | (go_at_call 85; refine (wideOf_spec _ _).mono ?_; rintro e w' ⟨rfl, rfl⟩))
          refine bodyPost_ret (v := .tuple #[.int .i64 (accB (bzf zs p) (2 - 1)), .int .i64 ((p : Int) + 2), .bool true]) (by simp [results, Tryz.results73, go_sem]) rfl ⟨by rw [HF.out], rfl⟩
  · have hn2 : decide ((zs.length : Int) - (p : Int) < 2) = true := decide_eq_true (by omega)
    have HF : Hid (getV zs p = (0, 0, false)) := Lib.hid (getV_bad (fun h => by have := h.2.1; rw [HW.out] at this; omega))
    go_enter Tryz.func73, Tryz.ntmps73
    go_wp2_with (first | (go_at_call 44; refine (l1In_c _ _ _ _).mono ?_; rintro e w' ⟨rfl, rfl⟩) | (go_at_call 85; refine (wideOf_spec _ _).mono ?_; rintro e w' ⟨rfl, rfl⟩))
    refine bodyPost_ret (v := .tuple #[.int .i64 0, .int .i64 0, .bool false]) (by simp [results, Tryz.results73, go_sem]) rfl ⟨by rw [HF.out], rfl⟩

set_option maxRecDepth 100000 in
set_option maxHeartbeats 2000000 in
theorem getRune_spec_3 (zs : List Int) (b off : Nat) (cap : Nat) (p : Nat) (w : World) (hread : ∀ j, j < zs.length → w.cell? ⟨b, off + j, none⟩ = some (.int .u8 (zs.getD j 0))) (hz : ∀ n ∈ zs, (Lit.int .u8 n).wf = true) (hlen : zs.length ≤ 1048576) (hp : p < zs.length) (hcl : 224 ≤ bzf zs p 0 ∧ bzf zs p 0 ≤ 239) :
    Calls Tryz.prog 73 #[.slice (some ⟨b, off, none⟩) zs.length cap, .int .i64 p] w fun e w' => e = .returned (.tuple #[.int .i64 (getV zs p).1, .int .i64 (getV zs p).2.1, .bool (getV zs p).2.2]) ∧ w = w' := by
  have HR := Lib.hid hread; have HZ := Lib.hid hz; clear hread hz
  have d1 : decide ((p : Int) < 0) = false := decide_eq_false (by omega)
  have d2 : decide ((zs.length : Int) ≤ (p : Int)) = false := decide_eq_false (by omega)
  have hcell := HR.out p hp
  obtain ⟨X, hX⟩ : ∃ X : Nat, X = bzf zs p 0 := ⟨_, rfl⟩
  have hx0 := bzf_eq HZ.out p 0
  rw [← hX, Nat.add_zero] at hx0
  rw [← hx0] at hcell
  rw [← hX] at hcl
  have hxl : X < 256 := by rw [hX]; exact bzf_lt HZ.out p 0
  have hwx : IntKind.i64.wrap (X : Int) = X := wrap_mid (by omega) (by omega)
  have hWX : leadW (bzf zs p 0) = 3 := by rw [← hX]; unfold leadW; rw [if_neg (by omega), if_neg (by omega), if_pos hcl]
  have hNX : accB (bzf zs p) 0 = (X : Int) - 224 := by show leadN (bzf zs p 0) = _; rw [← hX]; unfold leadN; rw [if_neg (by omega), if_neg (by omega), if_pos (by omega)]
  have HX := Lib.hid hX; have HW := Lib.hid hWX; have HN := Lib.hid hNX; clear hX hx0 hWX hNX
  have hwn : IntKind.i64.wrap ((zs.length : Int) - (p : Int)) = (zs.length : Int) - p := wrap_mid (by omega) (by omega)
  have e1 : decide ((X : Int) < 128) = false := decide_eq_false (by omega)
  have e2 : inB (X : Int) 192 223 = false := inB_false.2 (by omega)
  have e3 : inB (X : Int) 224 239 = true := inB_true.2 (by omega)
  have hwm : IntKind.i64.wrap ((X : Int) - 224) = (X : Int) - 224 := wrap_mid (by omega) (by omega)
  clear hcl
  by_cases hn : 3 ≤ zs.length - p
  · have hn2 : decide ((zs.length : Int) - (p : Int) < 3) = false := decide_eq_false (by omega)
    go_enter Tryz.func73, Tryz.ntmps73
    go_wp2_with (first | (go_at_call 44; refine (l1In_c _ _ _ _).mono ?_; rintro e w' ⟨rfl, rfl⟩) | (go_at_call 85; refine (wideOf_spec _ _).mono ?_; rintro e w' ⟨rfl, rfl⟩))
    go_loop [9, 10, 11] (fun n i _ => ∃ j : Nat, j + 1 ≤ 3 ∧ i = .int .i64 ((j : Int) + 1) ∧ n = .int .i64 (accB (bzf zs p) j) ∧ Hid (∀ i, 1 ≤ i → i ≤ j → 128 ≤ bzf zs p i ∧ bzf zs p i ≤ 191)) (fun _ i _ => (3 - intOf i).toNat)
    case atStart => exact ⟨0, by omega, by simp, by rw [HN.out], Lib.hid (fun i a c => by omega)⟩
    case round =>
      obtain ⟨j, hj, rfl, rfl, hc⟩ := hrel
      have hb := accB_bd (bzf zs p) (by rw [HW.out]; omega) j (by omega) hc.out
      have hs := pow_small (show j ≤ 3 by omega)
      have hb1 : 0 ≤ accB (bzf zs p) j ∧ accB (bzf zs p) j < 134217728 := by omega
      clear hb hs
      by_cases hjw : j + 1 < 3
      · have e0 : decide ((j : Int) + 1 < 3) = true := decide_eq_true (by omega)
        obtain ⟨q, hq⟩ : ∃ q : Nat, q = p + (j + 1) := ⟨_, rfl⟩
        have hwq : IntKind.i64.wrap ((p : Int) + ((j : Int) + 1)) = (q : Int) := by rw [hq]; exact (wrap_mid (by omega) (by omega)).trans (by omega)
        have hcq := HR.out q (by omega)
        have hyq := bzf_eq HZ.out p (j + 1)
        rw [← hq] at hyq
        rw [← hyq] at hcq
        have hyl := bzf_lt HZ.out p (j + 1)
        have hql : q < zs.length := by omega
        have hnext : accB (bzf zs p) (j + 1) = 64 * accB (bzf zs p) j + bzf zs p (j + 1) - 128 := rfl
        have HNX := Lib.hid hnext; have HQ := Lib.hid hq
        obtain ⟨Y, hY⟩ : ∃ Y : Int, Y = bzf zs p (j + 1) := ⟨_, rfl⟩
        rw [← hY] at hcq
        have hyb : 0 ≤ Y ∧ Y < 256 := by omega
        have HY := Lib.hid hY
        clear hyq hnext hyl hY hq
        generalize accB (bzf zs p) j = acc at *
        have hw1 : IntKind.i64.wrap (64 * acc) = 64 * acc := wrap_mid (by omega) (by omega)
        have hw2 : IntKind.i64.wrap (64 * acc + Y) = 64 * acc + Y := wrap_mid (by omega) (by omega)
        have hw2b : IntKind.i64.wrap (64 * acc + Y - 128) = 64 * acc + Y - 128 := wrap_mid (by omega) (by omega)
        have hw3 : IntKind.i64.wrap Y = Y := wrap_mid (by omega) (by omega)
        have hw4 : IntKind.i64.wrap ((j : Int) + 1 + 1) = (j : Int) + 1 + 1 := wrap_mid (by omega) (by omega)
        cases hy : inB Y 128 191 with
        | false =>
          have HF : Hid (getV zs p = (0, 0, false)) := Lib.hid (getV_bad (fun h => by
            have h3 := h.2.2.1
            rw [HW.out] at h3
            have := h3 (j + 1) (by omega) hjw
            have h5 := inB_false.1 hy
            have := HY.out
            omega))
          go_wp2_with (first | (go_at_call 44; refine (l1In_c _ _ _ _).mono ?_; rintro e w' ⟨rfl, rfl⟩) | (go_at_call 85; refine (wideOf_spec _ _).mono ?_; rintro e w' ⟨rfl, rfl⟩))
          refine bodyPost_ret (v := .tuple #[.int .i64 0, .int .i64 0, .bool false]) (by simp [results, Tryz.results73, go_sem]) rfl ⟨by rw [HF.out], rfl⟩
        | true =>
          have hyy := inB_true.1 hy
          go_wp2_with (first | (go_at_call 44; refine (l1In_c _ _ _ _).mono ?_; rintro e w' ⟨rfl, rfl⟩) | (go_at_call 85; refine (wideOf_spec _ _).mono ?_; rintro e w' ⟨rfl, rfl⟩))
          go_roundw
          case rel => exact ⟨j + 1, by omega, by simp, by rw [HNX.out, HY.out], Lib.hid (fun i a c => by
            by_cases hi : i = j + 1
            · subst hi; have := HY.out; omega
            · exact hc.out i a (by omega))⟩
          case measure => simp [intOf]; omega
      · obtain rfl : j = 3 - 1 := by omega
        have hcont : contB (bzf zs p) 3 := fun i a c => hc.out i a (by omega)
        cases hwide : (wideF (accB (bzf zs p) (3 - 1)) != (3 : Int)) with
        | true =>
          have HF : Hid (getV zs p = (0, 0, false)) := Lib.hid (getV_bad (fun h => by
            have h4 := h.2.2.2
            rw [HW.out] at h4
            simp at hwide h4
            exact hwide h4))
          go_wp2_with (first | (go_at_call 44; refine (l1In_c _ _ _ _).mono ?_; rintro e w' ⟨rfl, rfl⟩) | (go_at_call 85; refine (wideOf_spec _ _).mono ?_; rintro e w' ⟨rfl, rfl⟩))
          refine bodyPost_ret (v := .tuple #[.int .i64 0, .int .i64 0, .bool false]) (by simp [results, Tryz.results73, go_sem]) rfl ⟨by rw [HF.out], rfl⟩
        | false =>
          have HF : Hid (getV zs p = (accB (bzf zs p) (3 - 1), (p : Int) + 3, true)) := Lib.hid (by
            rw [getV_good hp ⟨by rw [HW.out]; omega, by rw [HW.out]; exact hn, by rw [HW.out]; exact hcont, by rw [HW.out]; simpa using hwide⟩, HW.out]; rfl)
          have hwe : IntKind.i64.wrap ((p : Int) + 3) = (p : Int) + 3 := wrap_mid (by omega) (by omega)
          go_wp2_with (first | (go_at_call 44; refine (l1In_c _ _ _ _).mono ?_; rintro e w' ⟨rfl, rfl⟩) | (go_at_call 85; refine (wideOf_spec _ _).mono ?_; rintro e w' ⟨rfl, rfl⟩))
          refine bodyPost_ret (v := .tuple #[.int .i64 (accB (bzf zs p) (3 - 1)), .int .i64 ((p : Int) + 3), .bool true]) (by simp [results, Tryz.results73, go_sem]) rfl ⟨by rw [HF.out], rfl⟩
  · have hn2 : decide ((zs.length : Int) - (p : Int) < 3) = true := decide_eq_true (by omega)
    have HF : Hid (getV zs p = (0, 0, false)) := Lib.hid (getV_bad (fun h => by have := h.2.1; rw [HW.out] at this; omega))
    go_enter Tryz.func73, Tryz.ntmps73
    go_wp2_with (first | (go_at_call 44; refine (l1In_c _ _ _ _).mono ?_; rintro e w' ⟨rfl, rfl⟩) | (go_at_call 85; refine (wideOf_spec _ _).mono ?_; rintro e w' ⟨rfl, rfl⟩))
    refine bodyPost_ret (v := .tuple #[.int .i64 0, .int .i64 0, .bool false]) (by simp [results, Tryz.results73, go_sem]) rfl ⟨by rw [HF.out], rfl⟩

set_option maxRecDepth 100000 in
set_option maxHeartbeats 2000000 in
theorem getRune_spec_4 (zs : List Int) (b off : Nat) (cap : Nat) (p : Nat) (w : World) (hread : ∀ j, j < zs.length → w.cell? ⟨b, off + j, none⟩ = some (.int .u8 (zs.getD j 0))) (hz : ∀ n ∈ zs, (Lit.int .u8 n).wf = true) (hlen : zs.length ≤ 1048576) (hp : p < zs.length) (hcl : 240 ≤ bzf zs p 0 ∧ bzf zs p 0 ≤ 247) :
    Calls Tryz.prog 73 #[.slice (some ⟨b, off, none⟩) zs.length cap, .int .i64 p] w fun e w' => e = .returned (.tuple #[.int .i64 (getV zs p).1, .int .i64 (getV zs p).2.1, .bool (getV zs p).2.2]) ∧ w = w' := by
  have HR := Lib.hid hread; have HZ := Lib.hid hz; clear hread hz
  have d1 : decide ((p : Int) < 0) = false := decide_eq_false (by omega)
  have d2 : decide ((zs.length : Int) ≤ (p : Int)) = false := decide_eq_false (by omega)
  have hcell := HR.out p hp
  obtain ⟨X, hX⟩ : ∃ X : Nat, X = bzf zs p 0 := ⟨_, rfl⟩
  have hx0 := bzf_eq HZ.out p 0
  rw [← hX, Nat.add_zero] at hx0
  rw [← hx0] at hcell
  rw [← hX] at hcl
  have hxl : X < 256 := by rw [hX]; exact bzf_lt HZ.out p 0
  have hwx : IntKind.i64.wrap (X : Int) = X := wrap_mid (by omega) (by omega)
  have hWX : leadW (bzf zs p 0) = 4 := by rw [← hX]; unfold leadW; rw [if_neg (by omega), if_neg (by omega), if_neg (by omega), if_pos hcl]
  have hNX : accB (bzf zs p) 0 = (X : Int) - 240 := by show leadN (bzf zs p 0) = _; rw [← hX]; unfold leadN; rw [if_neg (by omega), if_neg (by omega), if_neg (by omega)]
  have HX := Lib.hid hX; have HW := Lib.hid hWX; have HN := Lib.hid hNX; clear hX hx0 hWX hNX
  have hwn : IntKind.i64.wrap ((zs.length : Int) - (p : Int)) = (zs.length : Int) - p := wrap_mid (by omega) (by omega)
  have e1 : decide ((X : Int) < 128) = false := decide_eq_false (by omega)
  have e2 : inB (X : Int) 192 223 = false := inB_false.2 (by omega)
  have e3 : inB (X : Int) 224 239 = false := inB_false.2 (by omega)
  have e4 : inB (X : Int) 240 247 = true := inB_true.2 (by omega)
  have hwm : IntKind.i64.wrap ((X : Int) - 240) = (X : Int) - 240 := wrap_mid (by omega) (by omega)
  clear hcl
  by_cases hn : 4 ≤ zs.length - p
  · have hn2 : decide ((zs.length : Int) - (p : Int) < 4) = false := decide_eq_false (by omega)
    go_enter Tryz.func73, Tryz.ntmps73
    go_wp2_with (first | (go_at_call 44; refine (l1In_c _ _ _ _).mono ?_; rintro e w' ⟨rfl, rfl⟩) | (go_at_call 85; refine (wideOf_spec _ _).mono ?_; rintro e w' ⟨rfl, rfl⟩))
    go_loop [9, 10, 11] (fun n i _ => ∃ j : Nat, j + 1 ≤ 4 ∧ i = .int .i64 ((j : Int) + 1) ∧ n = .int .i64 (accB (bzf zs p) j) ∧ Hid (∀ i, 1 ≤ i → i ≤ j → 128 ≤ bzf zs p i ∧ bzf zs p i ≤ 191)) (fun _ i _ => (4 - intOf i).toNat)
    case atStart => exact ⟨0, by omega, by simp, by rw [HN.out], Lib.hid (fun i a c => by omega)⟩
    case round =>
      obtain ⟨j, hj, rfl, rfl, hc⟩ := hrel
      have hb := accB_bd (bzf zs p) (by rw [HW.out]; omega) j (by omega) hc.out
      have hs := pow_small (show j ≤ 3 by omega)
      have hb1 : 0 ≤ accB (bzf zs p) j ∧ accB (bzf zs p) j < 134217728 := by omega
      clear hb hs
      by_cases hjw : j + 1 < 4
      · have e0 : decide ((j : Int) + 1 < 4) = true := decide_eq_true (by omega)
        obtain ⟨q, hq⟩ : ∃ q : Nat, q = p + (j + 1) := ⟨_, rfl⟩
        have hwq : IntKind.i64.wrap ((p : Int) + ((j : Int) + 1)) = (q : Int) := by rw [hq]; exact (wrap_mid (by omega) (by omega)).trans (by omega)
        have hcq := HR.out q (by omega)
        have hyq := bzf_eq HZ.out p (j + 1)
        rw [← hq] at hyq
        rw [← hyq] at hcq
        have hyl := bzf_lt HZ.out p (j + 1)
        have hql : q < zs.length := by omega
        have hnext : accB (bzf zs p) (j + 1) = 64 * accB (bzf zs p) j + bzf zs p (j + 1) - 128 := rfl
        have HNX := Lib.hid hnext; have HQ := Lib.hid hq
        obtain ⟨Y, hY⟩ : ∃ Y : Int, Y = bzf zs p (j + 1) := ⟨_, rfl⟩
        rw [← hY] at hcq
        have hyb : 0 ≤ Y ∧ Y < 256 := by omega
        have HY := Lib.hid hY
        clear hyq hnext hyl hY hq
        generalize accB (bzf zs p) j = acc at *
        have hw1 : IntKind.i64.wrap (64 * acc) = 64 * acc := wrap_mid (by omega) (by omega)
        have hw2 : IntKind.i64.wrap (64 * acc + Y) = 64 * acc + Y := wrap_mid (by omega) (by omega)
        have hw2b : IntKind.i64.wrap (64 * acc + Y - 128) = 64 * acc + Y - 128 := wrap_mid (by omega) (by omega)
        have hw3 : IntKind.i64.wrap Y = Y := wrap_mid (by omega) (by omega)
        have hw4 : IntKind.i64.wrap ((j : Int) + 1 + 1) = (j : Int) + 1 + 1 := wrap_mid (by omega) (by omega)
        cases hy : inB Y 128 191 with
        | false =>
          have HF : Hid (getV zs p = (0, 0, false)) := Lib.hid (getV_bad (fun h => by
            have h3 := h.2.2.1
            rw [HW.out] at h3
            have := h3 (j + 1) (by omega) hjw
            have h5 := inB_false.1 hy
            have := HY.out
            omega))
          go_wp2_with (first | (go_at_call 44; refine (l1In_c _ _ _ _).mono ?_; rintro e w' ⟨rfl, rfl⟩) | (go_at_call 85; refine (wideOf_spec _ _).mono ?_; rintro e w' ⟨rfl, rfl⟩))
          refine bodyPost_ret (v := .tuple #[.int .i64 0, .int .i64 0, .bool false]) (by simp [results, Tryz.results73, go_sem]) rfl ⟨by rw [HF.out], rfl⟩
        | true =>
          have hyy := inB_true.1 hy
          go_wp2_with (first | (go_at_call 44; refine (l1In_c _ _ _ _).mono ?_; rintro e w' ⟨rfl, rfl⟩) | (go_at_call 85; refine (wideOf_spec _ _).mono ?_; rintro e w' ⟨rfl, rfl⟩))
          go_roundw
          case rel => exact ⟨j + 1, by omega, by simp, by rw [HNX.out, HY.out], Lib.hid (fun i a c => by
            by_cases hi : i = j + 1
            · subst hi; have := HY.out; omega
            · exact hc.out i a (by omega))⟩
          case measure => simp [intOf]; omega
      · obtain rfl : j = 4 - 1 := by omega
        have hcont : contB (bzf zs p) 4 := fun i a c => hc.out i a (by omega)
        cases hwide : (wideF (accB (bzf zs p) (4 - 1)) != (4 : Int)) with
        | true =>
          have HF : Hid (getV zs p = (0, 0, false)) := Lib.hid (getV_bad (fun h => by
            have h4 := h.2.2.2
            rw [HW.out] at h4
            simp at hwide h4
            exact hwide h4))
          go_wp2_with (first | (go_at_call 44; refine (l1In_c _ _ _ _).mono ?_; rintro e w' ⟨rfl, rfl⟩) | (go_at_call 85; refine (wideOf_spec _ _).mono ?_; rintro e w' ⟨rfl, rfl⟩))
          refine bodyPost_ret (v := .tuple #[.int .i64 0, .int .i64 0, .bool false]) (by simp [results, Tryz.results73, go_sem]) rfl ⟨by rw [HF.out], rfl⟩
        | false =>
          have HF : Hid (getV zs p = (accB (bzf zs p) (4 - 1), (p : Int) + 4, true)) := Lib.hid (by
            rw [getV_good hp ⟨by rw [HW.out]; omega, by rw [HW.out]; exact hn, by rw [HW.out]; exact hcont, by rw [HW.out]; simpa using hwide⟩, HW.out]; rfl)
          have hwe : IntKind.i64.wrap ((p : Int) + 4) = (p : Int) + 4 := wrap_mid (by omega) (by omega)
          go_wp2_with (first | (go_at_call 44; refine (l1In_c _ _ _ _).mono ?_; rintro e w' ⟨rfl, rfl⟩) | (go_at_call 85; refine (wideOf_spec _ _).mono ?_; rintro e w' ⟨rfl, rfl⟩))
          refine bodyPost_ret (v := .tuple #[.int .i64 (accB (bzf zs p) (4 - 1)), .int .i64 ((p : Int) + 4), .bool true]) (by simp [results, Tryz.results73, go_sem]) rfl ⟨by rw [HF.out], rfl⟩
  · have hn2 : decide ((zs.length : Int) - (p : Int) < 4) = true := decide_eq_true (by omega)
    have HF : Hid (getV zs p = (0, 0, false)) := Lib.hid (getV_bad (fun h => by have := h.2.1; rw [HW.out] at this; omega))
    go_enter Tryz.func73, Tryz.ntmps73
    go_wp2_with (first | (go_at_call 44; refine (l1In_c _ _ _ _).mono ?_; rintro e w' ⟨rfl, rfl⟩) | (go_at_call 85; refine (wideOf_spec _ _).mono ?_; rintro e w' ⟨rfl, rfl⟩))
    refine bodyPost_ret (v := .tuple #[.int .i64 0, .int .i64 0, .bool false]) (by simp [results, Tryz.results73, go_sem]) rfl ⟨by rw [HF.out], rfl⟩
end Go.Proofs.YtilmhemcpgiikaaGreatDoor
