/- FltOk: both judge alike. -/
import Derived.Test.YtcmdchhhdcdpnaaDoorCBase
namespace Go.Proofs.YtcmdchhhdcdpnaaDoor
open Go.ChangeShapes Go.WideShapes Go.ChangeAt Go.RowKit
open Go.ChangeMaps (open_string shut_string)


/-- Is a floating-point number valid? -/
def fltOkF (m e : Int) : Bool :=
  if m = 0 then (e == 0) else
    decide (m % 2 = 1 ∧ -65535 ≤ m ∧ m ≤ 65535 ∧ -16 ≤ e ∧ (e ≤ 30 ∨ e ≤ 45 ∧ -65535 ≤ m * 2 ^ (e - 30).toNat ∧ m * 2 ^ (e - 30).toNat ≤ 65535))
theorem fltOkF_mid (m e c : Int) (h0 : ¬ m = 0) (hm : inB m (-65535) 65535 = true) (hodd : m % 2 = 1) (h1 : 31 ≤ e) (h2 : e ≤ 45) (hc : c = 2 ^ (e - 30).toNat) :
    fltOkF m e = inB (m * c) (-65535) 65535 := by
  subst hc
  have := inB_true.1 hm
  unfold fltOkF inB
  rw [if_neg h0]
  apply decide_eq_decide.2
  constructor
  · intro ⟨_, _, _, _, h⟩; omega
  · intro h; exact ⟨hodd, this.1, this.2, by omega, .inr ⟨h2, h.1, h.2⟩⟩
theorem fltOkF_yes {m e : Int} (h0 : ¬ m = 0) (hodd : m % 2 = 1) (h1 : -65535 ≤ m) (h2 : m ≤ 65535) (h3 : -16 ≤ e) (h4 : e ≤ 30) : fltOkF m e = true := by
  unfold fltOkF; rw [if_neg h0]; exact decide_eq_true ⟨hodd, h1, h2, h3, .inl h4⟩
theorem fltOkF_no {m e : Int} (h : m ≠ 0 ∧ (m % 2 ≠ 1 ∨ m < -65535 ∨ 65535 < m ∨ e < -16 ∨ 45 < e)) : fltOkF m e = false := by
  unfold fltOkF; rw [if_neg h.1]; exact decide_eq_false (by omega)

set_option maxHeartbeats 8000000 in
theorem fltOk_spec_mid (m e : Int) (w : World) (h0 : ¬ m = 0) (hz : (m == 0) = false) (hm : inB m (-65535) 65535 = true) (hod : (m.tmod 2 == 0) = false) (hodd0 : m % 2 = 1) (h31 : 31 ≤ e) (hhi : e ≤ 45) :
    Calls Tryd.prog 24 #[.agg #[.int .i64 m, .int .i64 e]] w fun en w' => en = .returned (.bool (fltOkF m e)) ∧ Below w.heap.size w w' := by
      have hx : True := trivial
      have he : True := trivial
      obtain ⟨hm1, hm2⟩ := inB_true.1 hm
      have hodd := Lib.hid hodd0; clear hodd0
      have hs : e = 31 ∨ e = 32 ∨ e = 33 ∨ e = 34 ∨ e = 35 ∨ e = 36 ∨ e = 37 ∨ e = 38 ∨ e = 39 ∨ e = 40 ∨ e = 41 ∨ e = 42 ∨ e = 43 ∨ e = 44 ∨ e = 45 := by omega
      clear hx he
      rcases hs with rfl | rfl | rfl | rfl | rfl | rfl | rfl | rfl | rfl | rfl | rfl | rfl | rfl | rfl | rfl
      · have hf : fltOkF m 31 = inB (m * 2) (-65535) 65535 := fltOkF_mid m 31 2 h0 hm hodd.out (by omega) (by omega) (by decide)
        rw [hf]; clear hf
        go_enter Tryd.func24, Tryd.ntmps24
        have hr : inB 31 (-16) 45 = true := by decide
        go_wp2_with (go_at_call 22; refine (l1In_c _ _ _ _).mono ?_; rintro e w' ⟨rfl, rfl⟩)
        go_ret
        exact ⟨rfl, (Below.refl _ _).alloc (Nat.le_refl _) _⟩
      · have hf : fltOkF m 32 = inB (m * 4) (-65535) 65535 := fltOkF_mid m 32 4 h0 hm hodd.out (by omega) (by omega) (by decide)
        rw [hf]; clear hf
        go_enter Tryd.func24, Tryd.ntmps24
        have hr : inB 32 (-16) 45 = true := by decide
        go_wp2_with (go_at_call 22; refine (l1In_c _ _ _ _).mono ?_; rintro e w' ⟨rfl, rfl⟩)
        go_ret
        exact ⟨rfl, (Below.refl _ _).alloc (Nat.le_refl _) _⟩
      · have hf : fltOkF m 33 = inB (m * 8) (-65535) 65535 := fltOkF_mid m 33 8 h0 hm hodd.out (by omega) (by omega) (by decide)
        rw [hf]; clear hf
        go_enter Tryd.func24, Tryd.ntmps24
        have hr : inB 33 (-16) 45 = true := by decide
        go_wp2_with (go_at_call 22; refine (l1In_c _ _ _ _).mono ?_; rintro e w' ⟨rfl, rfl⟩)
        go_ret
        exact ⟨rfl, (Below.refl _ _).alloc (Nat.le_refl _) _⟩
      · have hf : fltOkF m 34 = inB (m * 16) (-65535) 65535 := fltOkF_mid m 34 16 h0 hm hodd.out (by omega) (by omega) (by decide)
        rw [hf]; clear hf
        go_enter Tryd.func24, Tryd.ntmps24
        have hr : inB 34 (-16) 45 = true := by decide
        go_wp2_with (go_at_call 22; refine (l1In_c _ _ _ _).mono ?_; rintro e w' ⟨rfl, rfl⟩)
        go_ret
        exact ⟨rfl, (Below.refl _ _).alloc (Nat.le_refl _) _⟩
      · have hf : fltOkF m 35 = inB (m * 32) (-65535) 65535 := fltOkF_mid m 35 32 h0 hm hodd.out (by omega) (by omega) (by decide)
        rw [hf]; clear hf
        go_enter Tryd.func24, Tryd.ntmps24
        have hr : inB 35 (-16) 45 = true := by decide
        go_wp2_with (go_at_call 22; refine (l1In_c _ _ _ _).mono ?_; rintro e w' ⟨rfl, rfl⟩)
        go_ret
        exact ⟨rfl, (Below.refl _ _).alloc (Nat.le_refl _) _⟩
      · have hf : fltOkF m 36 = inB (m * 64) (-65535) 65535 := fltOkF_mid m 36 64 h0 hm hodd.out (by omega) (by omega) (by decide)
        rw [hf]; clear hf
        go_enter Tryd.func24, Tryd.ntmps24
        have hr : inB 36 (-16) 45 = true := by decide
        go_wp2_with (go_at_call 22; refine (l1In_c _ _ _ _).mono ?_; rintro e w' ⟨rfl, rfl⟩)
        go_ret
        exact ⟨rfl, (Below.refl _ _).alloc (Nat.le_refl _) _⟩
      · have hf : fltOkF m 37 = inB (m * 128) (-65535) 65535 := fltOkF_mid m 37 128 h0 hm hodd.out (by omega) (by omega) (by decide)
        rw [hf]; clear hf
        go_enter Tryd.func24, Tryd.ntmps24
        have hr : inB 37 (-16) 45 = true := by decide
        go_wp2_with (go_at_call 22; refine (l1In_c _ _ _ _).mono ?_; rintro e w' ⟨rfl, rfl⟩)
        go_ret
        exact ⟨rfl, (Below.refl _ _).alloc (Nat.le_refl _) _⟩
      · have hf : fltOkF m 38 = inB (m * 256) (-65535) 65535 := fltOkF_mid m 38 256 h0 hm hodd.out (by omega) (by omega) (by decide)
        rw [hf]; clear hf
        go_enter Tryd.func24, Tryd.ntmps24
        have hr : inB 38 (-16) 45 = true := by decide
        go_wp2_with (go_at_call 22; refine (l1In_c _ _ _ _).mono ?_; rintro e w' ⟨rfl, rfl⟩)
        go_ret
        exact ⟨rfl, (Below.refl _ _).alloc (Nat.le_refl _) _⟩
      · have hf : fltOkF m 39 = inB (m * 512) (-65535) 65535 := fltOkF_mid m 39 512 h0 hm hodd.out (by omega) (by omega) (by decide)
        rw [hf]; clear hf
        go_enter Tryd.func24, Tryd.ntmps24
        have hr : inB 39 (-16) 45 = true := by decide
        go_wp2_with (go_at_call 22; refine (l1In_c _ _ _ _).mono ?_; rintro e w' ⟨rfl, rfl⟩)
        go_ret
        exact ⟨rfl, (Below.refl _ _).alloc (Nat.le_refl _) _⟩
      · have hf : fltOkF m 40 = inB (m * 1024) (-65535) 65535 := fltOkF_mid m 40 1024 h0 hm hodd.out (by omega) (by omega) (by decide)
        rw [hf]; clear hf
        go_enter Tryd.func24, Tryd.ntmps24
        have hr : inB 40 (-16) 45 = true := by decide
        go_wp2_with (go_at_call 22; refine (l1In_c _ _ _ _).mono ?_; rintro e w' ⟨rfl, rfl⟩)
        go_ret
        exact ⟨rfl, (Below.refl _ _).alloc (Nat.le_refl _) _⟩
      · have hf : fltOkF m 41 = inB (m * 2048) (-65535) 65535 := fltOkF_mid m 41 2048 h0 hm hodd.out (by omega) (by omega) (by decide)
        rw [hf]; clear hf
        go_enter Tryd.func24, Tryd.ntmps24
        have hr : inB 41 (-16) 45 = true := by decide
        go_wp2_with (go_at_call 22; refine (l1In_c _ _ _ _).mono ?_; rintro e w' ⟨rfl, rfl⟩)
        go_ret
        exact ⟨rfl, (Below.refl _ _).alloc (Nat.le_refl _) _⟩
      · have hf : fltOkF m 42 = inB (m * 4096) (-65535) 65535 := fltOkF_mid m 42 4096 h0 hm hodd.out (by omega) (by omega) (by decide)
        rw [hf]; clear hf
        go_enter Tryd.func24, Tryd.ntmps24
        have hr : inB 42 (-16) 45 = true := by decide
        go_wp2_with (go_at_call 22; refine (l1In_c _ _ _ _).mono ?_; rintro e w' ⟨rfl, rfl⟩)
        go_ret
        exact ⟨rfl, (Below.refl _ _).alloc (Nat.le_refl _) _⟩
      · have hf : fltOkF m 43 = inB (m * 8192) (-65535) 65535 := fltOkF_mid m 43 8192 h0 hm hodd.out (by omega) (by omega) (by decide)
        rw [hf]; clear hf
        go_enter Tryd.func24, Tryd.ntmps24
        have hr : inB 43 (-16) 45 = true := by decide
        go_wp2_with (go_at_call 22; refine (l1In_c _ _ _ _).mono ?_; rintro e w' ⟨rfl, rfl⟩)
        go_ret
        exact ⟨rfl, (Below.refl _ _).alloc (Nat.le_refl _) _⟩
      · have hf : fltOkF m 44 = inB (m * 16384) (-65535) 65535 := fltOkF_mid m 44 16384 h0 hm hodd.out (by omega) (by omega) (by decide)
        rw [hf]; clear hf
        go_enter Tryd.func24, Tryd.ntmps24
        have hr : inB 44 (-16) 45 = true := by decide
        go_wp2_with (go_at_call 22; refine (l1In_c _ _ _ _).mono ?_; rintro e w' ⟨rfl, rfl⟩)
        go_ret
        exact ⟨rfl, (Below.refl _ _).alloc (Nat.le_refl _) _⟩
      · have hf : fltOkF m 45 = inB (m * 32768) (-65535) 65535 := fltOkF_mid m 45 32768 h0 hm hodd.out (by omega) (by omega) (by decide)
        rw [hf]; clear hf
        go_enter Tryd.func24, Tryd.ntmps24
        have hr : inB 45 (-16) 45 = true := by decide
        go_wp2_with (go_at_call 22; refine (l1In_c _ _ _ _).mono ?_; rintro e w' ⟨rfl, rfl⟩)
        go_ret
        exact ⟨rfl, (Below.refl _ _).alloc (Nat.le_refl _) _⟩

set_option maxHeartbeats 4000000 in
theorem fltOk_spec (m e : Int) (w : World) :
    Calls Tryd.prog 24 #[.agg #[.int .i64 m, .int .i64 e]] w fun en w' => en = .returned (.bool (fltOkF m e)) ∧ Below w.heap.size w w' := by
  by_cases h0 : m = 0
  · subst h0
    have hf : fltOkF 0 e = (e == 0) := rfl
    rw [hf]; clear hf
    go_enter Tryd.func24, Tryd.ntmps24
    go_wp2_with (go_at_call 22; refine (l1In_c _ _ _ _).mono ?_; rintro e w' ⟨rfl, rfl⟩)
    go_ret
    exact ⟨rfl, (Below.refl _ _).alloc (Nat.le_refl _) _⟩
  · have hz : (m == 0) = false := by simpa using h0
    by_cases hodd : m % 2 = 1
    · have hod : (m.tmod 2 == 0) = false := by rw [beq_eq_false_iff_ne, ne_eq, tmod_zero]; omega
      cases hm : inB m (-65535) 65535 with
      | false =>
        have hf : fltOkF m e = false := fltOkF_no (by have := inB_false.1 hm; omega)
        rw [hf]; clear hf
        have H := Lib.hid hodd; clear hodd
        go_enter Tryd.func24, Tryd.ntmps24
        go_wp2_with (go_at_call 22; refine (l1In_c _ _ _ _).mono ?_; rintro e w' ⟨rfl, rfl⟩)
        all_goals (go_ret; exact ⟨rfl, (Below.refl _ _).alloc (Nat.le_refl _) _⟩)
      | true =>
        obtain ⟨hm1, hm2⟩ := inB_true.1 hm
        have H := Lib.hid hodd
        by_cases hlo : e < -16
        · have hf : fltOkF m e = false := fltOkF_no (by omega)
          rw [hf]; clear hf hodd
          have he : inB e (-16) 45 = false := inB_no (by omega)
          go_enter Tryd.func24, Tryd.ntmps24
          go_wp2_with (go_at_call 22; refine (l1In_c _ _ _ _).mono ?_; rintro e w' ⟨rfl, rfl⟩)
          all_goals (go_ret; exact ⟨rfl, (Below.refl _ _).alloc (Nat.le_refl _) _⟩)
        by_cases hhi : 45 < e
        · have hf : fltOkF m e = false := fltOkF_no (by omega)
          rw [hf]; clear hf hodd
          have he : inB e (-16) 45 = false := inB_no (by omega)
          have hd : decide (e ≤ 45) = false := decide_eq_false (by omega)
          go_enter Tryd.func24, Tryd.ntmps24
          go_wp2_with (go_at_call 22; refine (l1In_c _ _ _ _).mono ?_; rintro e w' ⟨rfl, rfl⟩)
          all_goals (go_ret; exact ⟨rfl, (Below.refl _ _).alloc (Nat.le_refl _) _⟩)
        by_cases h30 : e ≤ 30
        · have hf : fltOkF m e = true := fltOkF_yes h0 H.out (by omega) (by omega) (by omega) (by omega)
          rw [hf]; clear hf hodd
          have he : inB e (-16) 45 = true := inB_mk (by omega)
          go_enter Tryd.func24, Tryd.ntmps24
          go_wp2_with (go_at_call 22; refine (l1In_c _ _ _ _).mono ?_; rintro e w' ⟨rfl, rfl⟩)
          all_goals (go_ret; exact ⟨rfl, (Below.refl _ _).alloc (Nat.le_refl _) _⟩)
        exact fltOk_spec_mid m e w h0 hz hm hod H.out (by omega) (by omega)
    · have hod : (m.tmod 2 == 0) = true := by rw [beq_iff_eq, tmod_zero]; omega
      have hf : fltOkF m e = false := fltOkF_no (by omega)
      rw [hf]; clear hf hodd
      go_enter Tryd.func24, Tryd.ntmps24
      go_wp2_with (go_at_call 22; refine (l1In_c _ _ _ _).mono ?_; rintro e w' ⟨rfl, rfl⟩)
      all_goals (go_ret; exact ⟨rfl, (Below.refl _ _).alloc (Nat.le_refl _) _⟩)

set_option maxHeartbeats 8000000 in
theorem fltOk_impl_mid (m e : Int) (w : World) (h0 : ¬ m = 0) (hz : (m == 0) = false) (hm : inB m (-65535) 65535 = true) (hod : (m.tmod 2 == 0) = false) (hodd0 : m % 2 = 1) (h31 : 31 ≤ e) (hhi : e ≤ 46) :
    Calls Tryd.prog 28 #[.agg #[.int .i64 m, .int .i64 e]] w fun en w' => en = .returned (.bool (fltOkF m e)) ∧ Below w.heap.size w w' := by
      have hx : True := trivial
      have he : True := trivial
      obtain ⟨hm1, hm2⟩ := inB_true.1 hm
      have hodd := Lib.hid hodd0; clear hodd0
      have hs : e = 31 ∨ e = 32 ∨ e = 33 ∨ e = 34 ∨ e = 35 ∨ e = 36 ∨ e = 37 ∨ e = 38 ∨ e = 39 ∨ e = 40 ∨ e = 41 ∨ e = 42 ∨ e = 43 ∨ e = 44 ∨ e = 45 ∨ e = 46 := by omega
      clear hx he
      rcases hs with rfl | rfl | rfl | rfl | rfl | rfl | rfl | rfl | rfl | rfl | rfl | rfl | rfl | rfl | rfl | rfl
      · have hf : fltOkF m 31 = inB (m * 2) (-65535) 65535 := fltOkF_mid m 31 2 h0 hm hodd.out (by omega) (by omega) (by decide)
        rw [hf]; clear hf
        go_enter Tryd.func28, Tryd.ntmps28
        go_wp2_with (go_at_call 25; refine (within_c _ _ _ _).mono ?_; rintro e w' ⟨rfl, rfl⟩)
        go_ret
        exact ⟨rfl, (Below.refl _ _).alloc (Nat.le_refl _) _⟩
      · have hf : fltOkF m 32 = inB (m * 4) (-65535) 65535 := fltOkF_mid m 32 4 h0 hm hodd.out (by omega) (by omega) (by decide)
        rw [hf]; clear hf
        go_enter Tryd.func28, Tryd.ntmps28
        go_wp2_with (go_at_call 25; refine (within_c _ _ _ _).mono ?_; rintro e w' ⟨rfl, rfl⟩)
        go_ret
        exact ⟨rfl, (Below.refl _ _).alloc (Nat.le_refl _) _⟩
      · have hf : fltOkF m 33 = inB (m * 8) (-65535) 65535 := fltOkF_mid m 33 8 h0 hm hodd.out (by omega) (by omega) (by decide)
        rw [hf]; clear hf
        go_enter Tryd.func28, Tryd.ntmps28
        go_wp2_with (go_at_call 25; refine (within_c _ _ _ _).mono ?_; rintro e w' ⟨rfl, rfl⟩)
        go_ret
        exact ⟨rfl, (Below.refl _ _).alloc (Nat.le_refl _) _⟩
      · have hf : fltOkF m 34 = inB (m * 16) (-65535) 65535 := fltOkF_mid m 34 16 h0 hm hodd.out (by omega) (by omega) (by decide)
        rw [hf]; clear hf
        go_enter Tryd.func28, Tryd.ntmps28
        go_wp2_with (go_at_call 25; refine (within_c _ _ _ _).mono ?_; rintro e w' ⟨rfl, rfl⟩)
        go_ret
        exact ⟨rfl, (Below.refl _ _).alloc (Nat.le_refl _) _⟩
      · have hf : fltOkF m 35 = inB (m * 32) (-65535) 65535 := fltOkF_mid m 35 32 h0 hm hodd.out (by omega) (by omega) (by decide)
        rw [hf]; clear hf
        go_enter Tryd.func28, Tryd.ntmps28
        go_wp2_with (go_at_call 25; refine (within_c _ _ _ _).mono ?_; rintro e w' ⟨rfl, rfl⟩)
        go_ret
        exact ⟨rfl, (Below.refl _ _).alloc (Nat.le_refl _) _⟩
      · have hf : fltOkF m 36 = inB (m * 64) (-65535) 65535 := fltOkF_mid m 36 64 h0 hm hodd.out (by omega) (by omega) (by decide)
        rw [hf]; clear hf
        go_enter Tryd.func28, Tryd.ntmps28
        go_wp2_with (go_at_call 25; refine (within_c _ _ _ _).mono ?_; rintro e w' ⟨rfl, rfl⟩)
        go_ret
        exact ⟨rfl, (Below.refl _ _).alloc (Nat.le_refl _) _⟩
      · have hf : fltOkF m 37 = inB (m * 128) (-65535) 65535 := fltOkF_mid m 37 128 h0 hm hodd.out (by omega) (by omega) (by decide)
        rw [hf]; clear hf
        go_enter Tryd.func28, Tryd.ntmps28
        go_wp2_with (go_at_call 25; refine (within_c _ _ _ _).mono ?_; rintro e w' ⟨rfl, rfl⟩)
        go_ret
        exact ⟨rfl, (Below.refl _ _).alloc (Nat.le_refl _) _⟩
      · have hf : fltOkF m 38 = inB (m * 256) (-65535) 65535 := fltOkF_mid m 38 256 h0 hm hodd.out (by omega) (by omega) (by decide)
        rw [hf]; clear hf
        go_enter Tryd.func28, Tryd.ntmps28
        go_wp2_with (go_at_call 25; refine (within_c _ _ _ _).mono ?_; rintro e w' ⟨rfl, rfl⟩)
        go_ret
        exact ⟨rfl, (Below.refl _ _).alloc (Nat.le_refl _) _⟩
      · have hf : fltOkF m 39 = inB (m * 512) (-65535) 65535 := fltOkF_mid m 39 512 h0 hm hodd.out (by omega) (by omega) (by decide)
        rw [hf]; clear hf
        go_enter Tryd.func28, Tryd.ntmps28
        go_wp2_with (go_at_call 25; refine (within_c _ _ _ _).mono ?_; rintro e w' ⟨rfl, rfl⟩)
        go_ret
        exact ⟨rfl, (Below.refl _ _).alloc (Nat.le_refl _) _⟩
      · have hf : fltOkF m 40 = inB (m * 1024) (-65535) 65535 := fltOkF_mid m 40 1024 h0 hm hodd.out (by omega) (by omega) (by decide)
        rw [hf]; clear hf
        go_enter Tryd.func28, Tryd.ntmps28
        go_wp2_with (go_at_call 25; refine (within_c _ _ _ _).mono ?_; rintro e w' ⟨rfl, rfl⟩)
        go_ret
        exact ⟨rfl, (Below.refl _ _).alloc (Nat.le_refl _) _⟩
      · have hf : fltOkF m 41 = inB (m * 2048) (-65535) 65535 := fltOkF_mid m 41 2048 h0 hm hodd.out (by omega) (by omega) (by decide)
        rw [hf]; clear hf
        go_enter Tryd.func28, Tryd.ntmps28
        go_wp2_with (go_at_call 25; refine (within_c _ _ _ _).mono ?_; rintro e w' ⟨rfl, rfl⟩)
        go_ret
        exact ⟨rfl, (Below.refl _ _).alloc (Nat.le_refl _) _⟩
      · have hf : fltOkF m 42 = inB (m * 4096) (-65535) 65535 := fltOkF_mid m 42 4096 h0 hm hodd.out (by omega) (by omega) (by decide)
        rw [hf]; clear hf
        go_enter Tryd.func28, Tryd.ntmps28
        go_wp2_with (go_at_call 25; refine (within_c _ _ _ _).mono ?_; rintro e w' ⟨rfl, rfl⟩)
        go_ret
        exact ⟨rfl, (Below.refl _ _).alloc (Nat.le_refl _) _⟩
      · have hf : fltOkF m 43 = inB (m * 8192) (-65535) 65535 := fltOkF_mid m 43 8192 h0 hm hodd.out (by omega) (by omega) (by decide)
        rw [hf]; clear hf
        go_enter Tryd.func28, Tryd.ntmps28
        go_wp2_with (go_at_call 25; refine (within_c _ _ _ _).mono ?_; rintro e w' ⟨rfl, rfl⟩)
        go_ret
        exact ⟨rfl, (Below.refl _ _).alloc (Nat.le_refl _) _⟩
      · have hf : fltOkF m 44 = inB (m * 16384) (-65535) 65535 := fltOkF_mid m 44 16384 h0 hm hodd.out (by omega) (by omega) (by decide)
        rw [hf]; clear hf
        go_enter Tryd.func28, Tryd.ntmps28
        go_wp2_with (go_at_call 25; refine (within_c _ _ _ _).mono ?_; rintro e w' ⟨rfl, rfl⟩)
        go_ret
        exact ⟨rfl, (Below.refl _ _).alloc (Nat.le_refl _) _⟩
      · have hf : fltOkF m 45 = inB (m * 32768) (-65535) 65535 := fltOkF_mid m 45 32768 h0 hm hodd.out (by omega) (by omega) (by decide)
        rw [hf]; clear hf
        go_enter Tryd.func28, Tryd.ntmps28
        go_wp2_with (go_at_call 25; refine (within_c _ _ _ _).mono ?_; rintro e w' ⟨rfl, rfl⟩)
        go_ret
        exact ⟨rfl, (Below.refl _ _).alloc (Nat.le_refl _) _⟩
      · have hf : fltOkF m 46 = inB (m * 65536) (-65535) 65535 := by rw [inB_no (by omega)]; exact fltOkF_no (by omega)
        rw [hf]; clear hf
        go_enter Tryd.func28, Tryd.ntmps28
        go_wp2_with (go_at_call 25; refine (within_c _ _ _ _).mono ?_; rintro e w' ⟨rfl, rfl⟩)
        go_ret
        exact ⟨rfl, (Below.refl _ _).alloc (Nat.le_refl _) _⟩

set_option maxHeartbeats 4000000 in
theorem fltOk_impl (m e : Int) (w : World) :
    Calls Tryd.prog 28 #[.agg #[.int .i64 m, .int .i64 e]] w fun en w' => en = .returned (.bool (fltOkF m e)) ∧ Below w.heap.size w w' := by
  by_cases h0 : m = 0
  · subst h0
    have hf : fltOkF 0 e = (e == 0) := rfl
    rw [hf]; clear hf
    go_enter Tryd.func28, Tryd.ntmps28
    go_wp2_with (go_at_call 25; refine (within_c _ _ _ _).mono ?_; rintro e w' ⟨rfl, rfl⟩)
    go_ret
    exact ⟨rfl, (Below.refl _ _).alloc (Nat.le_refl _) _⟩
  · have hz : (m == 0) = false := by simpa using h0
    by_cases hodd : m % 2 = 1
    · have hod : (m.tmod 2 == 0) = false := by rw [beq_eq_false_iff_ne, ne_eq, tmod_zero]; omega
      cases hm : inB m (-65535) 65535 with
      | false =>
        have hf : fltOkF m e = false := fltOkF_no (by have := inB_false.1 hm; omega)
        rw [hf]; clear hf
        have H := Lib.hid hodd; clear hodd
        go_enter Tryd.func28, Tryd.ntmps28
        go_wp2_with (go_at_call 25; refine (within_c _ _ _ _).mono ?_; rintro e w' ⟨rfl, rfl⟩)
        all_goals (go_ret; exact ⟨rfl, (Below.refl _ _).alloc (Nat.le_refl _) _⟩)
      | true =>
        obtain ⟨hm1, hm2⟩ := inB_true.1 hm
        have H := Lib.hid hodd
        by_cases hlo : e < -16
        · have hf : fltOkF m e = false := fltOkF_no (by omega)
          rw [hf]; clear hf hodd
          have he : inB e (-16) 45 = false := inB_no (by omega)
          go_enter Tryd.func28, Tryd.ntmps28
          go_wp2_with (go_at_call 25; refine (within_c _ _ _ _).mono ?_; rintro e w' ⟨rfl, rfl⟩)
          all_goals (go_ret; exact ⟨rfl, (Below.refl _ _).alloc (Nat.le_refl _) _⟩)
        by_cases hhi : 46 < e
        · have hf : fltOkF m e = false := fltOkF_no (by omega)
          rw [hf]; clear hf hodd
          have he : inB e (-16) 45 = false := inB_no (by omega)
          have hd : decide (e ≤ 46) = false := decide_eq_false (by omega)
          go_enter Tryd.func28, Tryd.ntmps28
          go_wp2_with (go_at_call 25; refine (within_c _ _ _ _).mono ?_; rintro e w' ⟨rfl, rfl⟩)
          all_goals (go_ret; exact ⟨rfl, (Below.refl _ _).alloc (Nat.le_refl _) _⟩)
        by_cases h30 : e ≤ 30
        · have hf : fltOkF m e = true := fltOkF_yes h0 H.out (by omega) (by omega) (by omega) (by omega)
          rw [hf]; clear hf hodd
          have he : inB e (-16) 45 = true := inB_mk (by omega)
          go_enter Tryd.func28, Tryd.ntmps28
          go_wp2_with (go_at_call 25; refine (within_c _ _ _ _).mono ?_; rintro e w' ⟨rfl, rfl⟩)
          all_goals (go_ret; exact ⟨rfl, (Below.refl _ _).alloc (Nat.le_refl _) _⟩)
        exact fltOk_impl_mid m e w h0 hz hm hod H.out (by omega) (by omega)
    · have hod : (m.tmod 2 == 0) = true := by rw [beq_iff_eq, tmod_zero]; omega
      have hf : fltOkF m e = false := fltOkF_no (by omega)
      rw [hf]; clear hf hodd
      go_enter Tryd.func28, Tryd.ntmps28
      go_wp2_with (go_at_call 25; refine (within_c _ _ _ _).mono ?_; rintro e w' ⟨rfl, rfl⟩)
      all_goals (go_ret; exact ⟨rfl, (Below.refl _ _).alloc (Nat.le_refl _) _⟩)

end Go.Proofs.YtcmdchhhdcdpnaaDoor
