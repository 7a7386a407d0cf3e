/- StepVal: both step to the same value, and copy it. -/
import Derived.Test.YtjkjfdhbbblffaaVCopy
import Derived.Test.YtjkjfdhbbblffaaCConv
namespace Go.Proofs.Ytjkjfdhbbblffaa
open Go.Deep Go.ChangeShapes Go.WideShapes Go.ChangeAt Go.RowKit
open Go.ChangeMaps (open_string shut_string)

/-- Where a step leads; -1: nowhere. -/
def placeF (kind : Int) (len : Nat) (at_ : Int) (name : Bool) : Int :=
  if kind = 10 then (if at_ < 0 ∨ (len : Int) < at_ then -1 else if 2 * at_ + (if name = true then 0 else 1) < len then 2 * at_ + (if name = true then 0 else 1) else -1)
  else if name = true then -1 else if 0 ≤ at_ ∧ at_ < len then at_ else -1
theorem placeF_bd (kind : Int) (len : Nat) (at_ : Int) (name : Bool) : placeF kind len at_ name = -1 ∨ (0 ≤ placeF kind len at_ name ∧ placeF kind len at_ name < len) := by
  unfold placeF
  repeat' split
  all_goals omega

section
variable (t : Tree) (a : Option Addr) (cap : Nat) (m : Int) (e : Bool) (w : World)
set_option maxRecDepth 100000 in
set_option maxHeartbeats 4000000 in
theorem place_spec (hlen : t.l.length ≤ 1048576) (hm : -9223372036854775808 ≤ m ∧ m ≤ 9223372036854775807) :
    Calls Try.prog 49 #[.agg #[.int .i64 t.kind, .int .i64 t.n, .int .i64 t.x, .string t.s, .slice a t.l.length cap], .agg #[.int .i64 m, .bool e]] w fun r w' => r = .returned (.int .i64 (placeF t.kind t.l.length m e)) ∧ Below w.heap.size w w' := by
  have HW := Lib.hid (vbelow2 w (.cells #[.int .i64 t.kind, .int .i64 t.n, .int .i64 t.x, .string t.s, .slice a t.l.length cap] 29) (.cells #[.int .i64 m, .bool e] 48))
  have hwl : IntKind.i64.wrap ((t.l.length : Int) - 1) = (t.l.length : Int) - 1 := IntWalk.i64_in _ (by omega)
  cases hk : (t.kind == 10) with
  | true =>
    have hk' : t.kind = 10 := by simpa using hk
    by_cases h1 : m < 0
    · have HF : Hid (placeF t.kind t.l.length m e = -1) := Lib.hid (by unfold placeF; rw [if_pos hk', if_pos (.inl h1)])
      have d1 : decide (m < 0) = true := decide_eq_true h1
      clear hk'
      go_enter Try.func49, Try.ntmps49
      go_wp2_with fail
      go_ret
      exact ⟨ret_int HF.out.symm, HW.out⟩
    by_cases h2 : (t.l.length : Int) < m
    · have HF : Hid (placeF t.kind t.l.length m e = -1) := Lib.hid (by unfold placeF; rw [if_pos hk', if_pos (.inr h2)])
      have d1 : decide (m < 0) = false := decide_eq_false h1
      have d2 : decide ((t.l.length : Int) < m) = true := decide_eq_true h2
      clear hk'
      go_enter Try.func49, Try.ntmps49
      go_wp2_with fail
      go_ret
      exact ⟨ret_int HF.out.symm, HW.out⟩
    have d1 : decide (m < 0) = false := decide_eq_false h1
    have d2 : decide ((t.l.length : Int) < m) = false := decide_eq_false h2
    have hw2 : IntKind.i64.wrap (2 * m) = 2 * m := IntWalk.i64_in _ (by omega)
    have hw3 : IntKind.i64.wrap (2 * m + 1) = 2 * m + 1 := IntWalk.i64_in _ (by omega)
    cases e with
    | true =>
      cases hb : inB (2 * m) 0 ((t.l.length : Int) - 1) with
      | true =>
        have HF : Hid (placeF t.kind t.l.length m true = 2 * m) := Lib.hid (by have := inB_true.1 hb; unfold placeF; rw [if_pos hk', if_neg (by omega)]; simp only [if_true, Int.add_zero]; rw [if_pos (by omega)])
        clear hk' h1 h2
        go_enter Try.func49, Try.ntmps49
        go_wp2_with (go_at_call 52; refine (l1In_c _ _ _ _).mono ?_; rintro e w' ⟨rfl, rfl⟩)
        go_ret
        exact ⟨ret_int HF.out.symm, HW.out⟩
      | false =>
        have HF : Hid (placeF t.kind t.l.length m true = -1) := Lib.hid (by have := inB_false.1 hb; unfold placeF; rw [if_pos hk', if_neg (by omega)]; simp only [if_true, Int.add_zero]; rw [if_neg (by omega)])
        clear hk' h1 h2
        go_enter Try.func49, Try.ntmps49
        go_wp2_with (go_at_call 52; refine (l1In_c _ _ _ _).mono ?_; rintro e w' ⟨rfl, rfl⟩)
        go_ret
        exact ⟨ret_int HF.out.symm, HW.out⟩
    | false =>
      cases hb : inB (2 * m + 1) 0 ((t.l.length : Int) - 1) with
      | true =>
        have HF : Hid (placeF t.kind t.l.length m false = 2 * m + 1) := Lib.hid (by have := inB_true.1 hb; unfold placeF; rw [if_pos hk', if_neg (by omega)]; simp only [Bool.false_eq_true, if_false]; rw [if_pos (by omega)])
        clear hk' h1 h2
        go_enter Try.func49, Try.ntmps49
        go_wp2_with (go_at_call 52; refine (l1In_c _ _ _ _).mono ?_; rintro e w' ⟨rfl, rfl⟩)
        go_ret
        exact ⟨ret_int HF.out.symm, HW.out⟩
      | false =>
        have HF : Hid (placeF t.kind t.l.length m false = -1) := Lib.hid (by have := inB_false.1 hb; unfold placeF; rw [if_pos hk', if_neg (by omega)]; simp only [Bool.false_eq_true, if_false]; rw [if_neg (by omega)])
        clear hk' h1 h2
        go_enter Try.func49, Try.ntmps49
        go_wp2_with (go_at_call 52; refine (l1In_c _ _ _ _).mono ?_; rintro e w' ⟨rfl, rfl⟩)
        go_ret
        exact ⟨ret_int HF.out.symm, HW.out⟩
  | false =>
    have hk' : t.kind ≠ 10 := by simpa using hk
    cases e with
    | true =>
      have HF : Hid (placeF t.kind t.l.length m true = -1) := Lib.hid (by unfold placeF; rw [if_neg hk', if_pos rfl])
      clear hk'
      go_enter Try.func49, Try.ntmps49
      go_wp2_with fail
      go_ret
      exact ⟨ret_int HF.out.symm, HW.out⟩
    | false =>
      cases hb : inB m 0 ((t.l.length : Int) - 1) with
      | true =>
        have HF : Hid (placeF t.kind t.l.length m false = m) := Lib.hid (by have := inB_true.1 hb; unfold placeF; rw [if_neg hk', if_neg (by simp), if_pos (by omega)])
        clear hk'
        go_enter Try.func49, Try.ntmps49
        go_wp2_with (go_at_call 52; refine (l1In_c _ _ _ _).mono ?_; rintro e w' ⟨rfl, rfl⟩)
        go_ret
        exact ⟨ret_int HF.out.symm, HW.out⟩
      | false =>
        have HF : Hid (placeF t.kind t.l.length m false = -1) := Lib.hid (by have := inB_false.1 hb; unfold placeF; rw [if_neg hk', if_neg (by simp), if_neg (by omega)])
        clear hk'
        go_enter Try.func49, Try.ntmps49
        go_wp2_with (go_at_call 52; refine (l1In_c _ _ _ _).mono ?_; rintro e w' ⟨rfl, rfl⟩)
        go_ret
        exact ⟨ret_int HF.out.symm, HW.out⟩
set_option maxRecDepth 100000 in
set_option maxHeartbeats 4000000 in
theorem index_impl (hlen : t.l.length ≤ 1048576) :
    Calls Try.prog 53 #[.agg #[.int .i64 m, .bool e], .agg #[.int .i64 t.kind, .int .i64 t.n, .int .i64 t.x, .string t.s, .slice a t.l.length cap]] w fun r w' => r = .returned (.int .i64 (placeF t.kind t.l.length m e)) ∧ Below w.heap.size w w' := by
  have HW := Lib.hid (vbelow2 w (.cells #[.int .i64 m, .bool e] 48) (.cells #[.int .i64 t.kind, .int .i64 t.n, .int .i64 t.x, .string t.s, .slice a t.l.length cap] 29))
  have hwl : IntKind.i64.wrap ((t.l.length : Int) - 1) = (t.l.length : Int) - 1 := IntWalk.i64_in _ (by omega)
  cases hb : inB m 0 ((t.l.length : Int) - 1) with
  | false =>
    have HF : Hid (placeF t.kind t.l.length m e = -1) := Lib.hid (by
      have := inB_false.1 hb
      unfold placeF
      repeat' split
      all_goals first | rfl | (exfalso; omega))
    go_enter Try.func53, Try.ntmps53
    go_wp2_with (go_at_call 54; refine (within_c _ _ _ _).mono ?_; rintro e w' ⟨rfl, rfl⟩)
    go_ret
    exact ⟨ret_int HF.out.symm, HW.out⟩
  | true =>
    have hin := inB_true.1 hb
    have hw2 : IntKind.i64.wrap (2 * m) = 2 * m := IntWalk.i64_in _ (by omega)
    have hw3 : IntKind.i64.wrap (2 * m + 1) = 2 * m + 1 := IntWalk.i64_in _ (by omega)
    cases hk : (t.kind == 10) with
    | true =>
      have hk' : t.kind = 10 := by simpa using hk
      have hk2 : (t.kind != 10) = false := by simpa using hk
      cases e with
      | true =>
        by_cases h : 2 * m < (t.l.length : Int)
        · have HF : Hid (placeF t.kind t.l.length m true = 2 * m) := Lib.hid (by unfold placeF; rw [if_pos hk', if_neg (by omega)]; simp only [if_true, Int.add_zero]; rw [if_pos (by omega)])
          have d : decide ((t.l.length : Int) ≤ 2 * m) = false := decide_eq_false (by omega)
          clear hk' h hin
          go_enter Try.func53, Try.ntmps53
          go_wp2_with (go_at_call 54; refine (within_c _ _ _ _).mono ?_; rintro e w' ⟨rfl, rfl⟩)
          go_ret
          exact ⟨ret_int HF.out.symm, HW.out⟩
        · have HF : Hid (placeF t.kind t.l.length m true = -1) := Lib.hid (by unfold placeF; rw [if_pos hk', if_neg (by omega)]; simp only [if_true, Int.add_zero]; rw [if_neg (by omega)])
          have d : decide ((t.l.length : Int) ≤ 2 * m) = true := decide_eq_true (by omega)
          clear hk' h hin
          go_enter Try.func53, Try.ntmps53
          go_wp2_with (go_at_call 54; refine (within_c _ _ _ _).mono ?_; rintro e w' ⟨rfl, rfl⟩)
          go_ret
          exact ⟨ret_int HF.out.symm, HW.out⟩
      | false =>
        by_cases h : 2 * m + 1 < (t.l.length : Int)
        · have HF : Hid (placeF t.kind t.l.length m false = 2 * m + 1) := Lib.hid (by unfold placeF; rw [if_pos hk', if_neg (by omega)]; simp only [Bool.false_eq_true, if_false]; rw [if_pos (by omega)])
          have d : decide ((t.l.length : Int) ≤ 2 * m + 1) = false := decide_eq_false (by omega)
          clear hk' h hin
          go_enter Try.func53, Try.ntmps53
          go_wp2_with (go_at_call 54; refine (within_c _ _ _ _).mono ?_; rintro e w' ⟨rfl, rfl⟩)
          go_ret
          exact ⟨ret_int HF.out.symm, HW.out⟩
        · have HF : Hid (placeF t.kind t.l.length m false = -1) := Lib.hid (by unfold placeF; rw [if_pos hk', if_neg (by omega)]; simp only [Bool.false_eq_true, if_false]; rw [if_neg (by omega)])
          have d : decide ((t.l.length : Int) ≤ 2 * m + 1) = true := decide_eq_true (by omega)
          clear hk' h hin
          go_enter Try.func53, Try.ntmps53
          go_wp2_with (go_at_call 54; refine (within_c _ _ _ _).mono ?_; rintro e w' ⟨rfl, rfl⟩)
          go_ret
          exact ⟨ret_int HF.out.symm, HW.out⟩
    | false =>
      have hk' : t.kind ≠ 10 := by simpa using hk
      have hk2 : (t.kind != 10) = true := by simpa using hk
      cases e with
      | true =>
        have HF : Hid (placeF t.kind t.l.length m true = -1) := Lib.hid (by unfold placeF; rw [if_neg hk', if_pos rfl])
        clear hk' hin
        go_enter Try.func53, Try.ntmps53
        go_wp2_with (go_at_call 54; refine (within_c _ _ _ _).mono ?_; rintro e w' ⟨rfl, rfl⟩)
        go_ret
        exact ⟨ret_int HF.out.symm, HW.out⟩
      | false =>
        have HF : Hid (placeF t.kind t.l.length m false = m) := Lib.hid (by unfold placeF; rw [if_neg hk', if_neg (by simp), if_pos (by omega)])
        have d : decide ((t.l.length : Int) ≤ m) = false := decide_eq_false (by omega)
        clear hk' hin
        go_enter Try.func53, Try.ntmps53
        go_wp2_with (go_at_call 54; refine (within_c _ _ _ _).mono ?_; rintro e w' ⟨rfl, rfl⟩)
        go_ret
        exact ⟨ret_int HF.out.symm, HW.out⟩
end
end Go.Proofs.Ytjkjfdhbbblffaa
