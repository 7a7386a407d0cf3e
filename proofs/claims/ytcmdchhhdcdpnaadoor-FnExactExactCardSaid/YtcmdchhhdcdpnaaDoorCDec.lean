/- DecOk and DecNew: both judge and build alike. -/
import Derived.Test.YtcmdchhhdcdpnaaDoorCNum
namespace Go.Proofs.YtcmdchhhdcdpnaaDoor
open Go.Deep Go.ChangeShapes Go.WideShapes Go.ChangeAt Go.RowKit
open Go.ChangeMaps (open_string shut_string)

theorem decOkB_zero (n : Int) : decOkB n 0 = inB n (-1000000000000000) 1000000000000000 := if_pos rfl
theorem decOkB_out {n x : Int} (h0 : ¬ x = 0) (h : inB x (-16) (-1) = false) : decOkB n x = false := by
  have : decide (-16 ≤ x ∧ x ≤ -1) = false := h
  unfold decOkB; rw [if_neg h0, this]; rfl
theorem decOkB_in {n x : Int} (h0 : ¬ x = 0) (h : inB x (-16) (-1) = true) : decOkB n x = (decide (dgs n ≤ 17) && decide (n % 10 ≠ 0)) := by
  have : decide (-16 ≤ x ∧ x ≤ -1) = true := h
  unfold decOkB; rw [if_neg h0, this, Bool.true_and]


set_option maxHeartbeats 2000000 in
theorem decOk_spec (n x : Int) (w : World) (h1 : -9223372036854775808 ≤ n) (h2 : n ≤ 9223372036854775807) :
    Calls Tryd.prog 11 #[.agg #[.int .i64 n, .int .i64 x]] w fun e w' => e = .returned (.bool (decOkB n x)) ∧ Below w.heap.size w w' := by
  by_cases h0 : x = 0
  · subst h0
    rw [decOkB_zero]
    skip
    go_enter Tryd.func11, Tryd.ntmps11
    go_wp2_with (go_at_call 22; refine (l1In_c _ _ _ _).mono ?_; rintro e w' ⟨rfl, rfl⟩)
    go_ret
    exact ⟨rfl, below1 _ _⟩
  have hx : (x == 0) = false := by simpa using h0
  cases hb : inB x (-16) (-1) with
  | false =>
    rw [decOkB_out h0 hb]
    skip
    go_enter Tryd.func11, Tryd.ntmps11
    go_wp2_with (go_at_call 22; refine (l1In_c _ _ _ _).mono ?_; rintro e w' ⟨rfl, rfl⟩)
    go_ret
    exact ⟨rfl, below1 _ _⟩
  | true =>
    rw [decOkB_in h0 hb]
    have HI := Lib.hid (fun w1 => digits_spec n w1 h1 h2)
    skip

    by_cases hm : n % 10 = 0
    · have hmod : (n.tmod 10 != 0) = false := by have := tmod_zero.2 hm; simpa using this
      have e2 : decide (n % 10 ≠ 0) = false := by simpa using hm
      rw [e2, Bool.and_false]
      clear e2 hm
      go_enter Tryd.func11, Tryd.ntmps11
      go_wp2_with (go_at_call 22; refine (l1In_c _ _ _ _).mono ?_; rintro e w' ⟨rfl, rfl⟩)
      go_ret
      exact ⟨rfl, below1 _ _⟩
    · have hmod : (n.tmod 10 != 0) = true := by
        have : ¬ n.tmod 10 = 0 := fun h => hm (tmod_zero.1 h)
        simpa using this
      have e2 : decide (n % 10 ≠ 0) = true := by simpa using hm
      rw [e2, Bool.and_true]
      clear e2 hm
      by_cases hd : dgs n ≤ 17
      · rw [decide_eq_true hd]
        have hd1 : ((dgs n : Nat) : Int) ≤ 17 := by omega
        clear hd
        generalize ((dgs n : Nat) : Int) = D at *
        go_enter Tryd.func11, Tryd.ntmps11
        go_wp2_with (go_at_call 22; refine (l1In_c _ _ _ _).mono ?_; rintro e w' ⟨rfl, rfl⟩)
        refine (HI.out _).mono ?_
        rintro _ _ ⟨rfl, rfl⟩
        go_wp2_with fail
        go_ret
        exact ⟨rfl, below1 _ _⟩
      · rw [decide_eq_false hd]
        have hd1 : ¬ ((dgs n : Nat) : Int) ≤ 17 := by omega
        have hd2 : decide (((dgs n : Nat) : Int) ≤ 17) = false := decide_eq_false hd1
        clear hd hd1
        generalize ((dgs n : Nat) : Int) = D at *
        go_enter Tryd.func11, Tryd.ntmps11
        go_wp2_with (go_at_call 22; refine (l1In_c _ _ _ _).mono ?_; rintro e w' ⟨rfl, rfl⟩)
        refine (HI.out _).mono ?_
        rintro _ _ ⟨rfl, rfl⟩
        go_wp2_with fail
        go_ret
        exact ⟨rfl, below1 _ _⟩

set_option maxHeartbeats 2000000 in
theorem decOk_impl (n x : Int) (w : World) (hL : LaidP w) (h1 : -9223372036854775808 ≤ n) (h2 : n ≤ 9223372036854775807) :
    Calls Tryd.prog 15 #[.agg #[.int .i64 n, .int .i64 x]] w fun e w' => e = .returned (.bool (decOkB n x)) ∧ Below w.heap.size w w' := by
  by_cases h0 : x = 0
  · subst h0
    rw [decOkB_zero]
    clear hL
    go_enter Tryd.func15, Tryd.ntmps15
    go_wp2_with (go_at_call 25; refine (within_c _ _ _ _).mono ?_; rintro e w' ⟨rfl, rfl⟩)
    go_ret
    exact ⟨rfl, below1 _ _⟩
  have hx : (x == 0) = false := by simpa using h0
  cases hb : inB x (-16) (-1) with
  | false =>
    rw [decOkB_out h0 hb]
    clear hL
    go_enter Tryd.func15, Tryd.ntmps15
    go_wp2_with (go_at_call 25; refine (within_c _ _ _ _).mono ?_; rintro e w' ⟨rfl, rfl⟩)
    go_ret
    exact ⟨rfl, below1 _ _⟩
  | true =>
    rw [decOkB_in h0 hb]
    have HI := Lib.hid (fun w1 (hb : Below w.heap.size w w1) => digits_impl n w1 (hL.kept hb) h1 h2)
    clear hL

    by_cases hm : n % 10 = 0
    · have hmod : (n.tmod 10 != 0) = false := by have := tmod_zero.2 hm; simpa using this
      have e2 : decide (n % 10 ≠ 0) = false := by simpa using hm
      rw [e2, Bool.and_false]
      clear e2 hm
      by_cases hd : dgs n ≤ 17
      · have hd1 : ((dgs n : Nat) : Int) ≤ 17 := by omega
        clear hd
        generalize ((dgs n : Nat) : Int) = D at *
        go_enter Tryd.func15, Tryd.ntmps15
        go_wp2_with (go_at_call 25; refine (within_c _ _ _ _).mono ?_; rintro e w' ⟨rfl, rfl⟩)
        refine (HI.out _ ?_).mono ?_
        · exact below1 _ _
        rintro _ w2 ⟨rfl, b2⟩
        obtain ⟨c0, c1⟩ := box2 b2
        go_wp2_with fail
        go_ret
        exact ⟨rfl, nx (below1 _ _) b2⟩
      · have hd1 : ¬ ((dgs n : Nat) : Int) ≤ 17 := by omega
        have hd2 : decide (((dgs n : Nat) : Int) ≤ 17) = false := decide_eq_false hd1
        clear hd hd1
        generalize ((dgs n : Nat) : Int) = D at *
        go_enter Tryd.func15, Tryd.ntmps15
        go_wp2_with (go_at_call 25; refine (within_c _ _ _ _).mono ?_; rintro e w' ⟨rfl, rfl⟩)
        refine (HI.out _ ?_).mono ?_
        · exact below1 _ _
        rintro _ w2 ⟨rfl, b2⟩
        obtain ⟨c0, c1⟩ := box2 b2
        go_wp2_with fail
        go_ret
        exact ⟨rfl, nx (below1 _ _) b2⟩
    · have hmod : (n.tmod 10 != 0) = true := by
        have : ¬ n.tmod 10 = 0 := fun h => hm (tmod_zero.1 h)
        simpa using this
      have e2 : decide (n % 10 ≠ 0) = true := by simpa using hm
      rw [e2, Bool.and_true]
      clear e2 hm
      by_cases hd : dgs n ≤ 17
      · rw [decide_eq_true hd]
        have hd1 : ((dgs n : Nat) : Int) ≤ 17 := by omega
        clear hd
        generalize ((dgs n : Nat) : Int) = D at *
        go_enter Tryd.func15, Tryd.ntmps15
        go_wp2_with (go_at_call 25; refine (within_c _ _ _ _).mono ?_; rintro e w' ⟨rfl, rfl⟩)
        refine (HI.out _ ?_).mono ?_
        · exact below1 _ _
        rintro _ w2 ⟨rfl, b2⟩
        obtain ⟨c0, c1⟩ := box2 b2
        go_wp2_with fail
        go_ret
        exact ⟨rfl, nx (below1 _ _) b2⟩
      · rw [decide_eq_false hd]
        have hd1 : ¬ ((dgs n : Nat) : Int) ≤ 17 := by omega
        have hd2 : decide (((dgs n : Nat) : Int) ≤ 17) = false := decide_eq_false hd1
        clear hd hd1
        generalize ((dgs n : Nat) : Int) = D at *
        go_enter Tryd.func15, Tryd.ntmps15
        go_wp2_with (go_at_call 25; refine (within_c _ _ _ _).mono ?_; rintro e w' ⟨rfl, rfl⟩)
        refine (HI.out _ ?_).mono ?_
        · exact below1 _ _
        rintro _ w2 ⟨rfl, b2⟩
        obtain ⟨c0, c1⟩ := box2 b2
        go_wp2_with fail
        go_ret
        exact ⟨rfl, nx (below1 _ _) b2⟩
end Go.Proofs.YtcmdchhhdcdpnaaDoor
