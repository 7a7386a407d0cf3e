/- RuneOk, and how wide a character is. -/
import Derived.Test.YtjkjfdhbbblffaaDoorAppend
import Derived.Deep.AppendLies
import Derived.Lib.RuneBytes
namespace Go.Proofs.YtjkjfdhbbblffaaDoor
open Go.Deep Go.ChangeShapes Go.WideShapes Go.ChangeAt Go.RowKit
open Go.ChangeMaps (open_string shut_string)


/-- Is a number a character? -/
def runeOkB (n : Int) : Bool := inB n 0 1114111 && !inB n 55296 57343
theorem runeOkB_true {n : Int} : runeOkB n = true ↔ (0 ≤ n ∧ n ≤ 1114111) ∧ (n < 55296 ∨ 57343 < n) := by
  unfold runeOkB
  rw [Bool.and_eq_true, inB_true, Bool.not_eq_true', inB_false]
theorem runeOkB_false {n : Int} : runeOkB n = false ↔ n < 0 ∨ 1114111 < n ∨ (55296 ≤ n ∧ n ≤ 57343) := by
  rw [← Bool.not_eq_true, runeOkB_true]; omega
/-- The bytes of a character, none of what is none. -/
def encZ (n : Int) : List Int := if runeOkB n = true then Lib.encodeRuneZ n else []
def wideF (n : Int) : Int := if runeOkB n = true then (if n < 128 then 1 else if n < 2048 then 2 else if n < 65536 then 3 else 4) else 0
theorem encZ_len (n : Int) : ((encZ n).length : Int) = wideF n := by
  unfold encZ wideF
  by_cases h : runeOkB n = true
  · rw [if_pos h, if_pos h]
    have h' := runeOkB_true.1 h
    by_cases h1 : n < 128
    · rw [Lib.encodeRuneZ_one (by omega) (by omega), if_pos h1]; rfl
    by_cases h2 : n < 2048
    · rw [Lib.encodeRuneZ_two (by omega) (by omega), if_neg h1, if_pos h2]; rfl
    by_cases h3 : n < 65536
    · rw [Lib.encodeRuneZ_three (by omega), if_neg h1, if_neg h2, if_pos h3]; rfl
    · rw [Lib.encodeRuneZ_four (by omega) (by omega), if_neg h1, if_neg h2, if_neg h3]; rfl
  · rw [if_neg h, if_neg h]; rfl
theorem wideF_bd (n : Int) : 0 ≤ wideF n ∧ wideF n ≤ 4 := by unfold wideF; (repeat' split) <;> omega

theorem runeOk_spec (n : Int) (w : World) :
    Calls Tryd.prog 68 #[.int .i64 n] w fun e w' => e = .returned (.bool (runeOkB n)) ∧ w = w' := by
  unfold runeOkB
  cases h1 : inB n 0 1114111 with
  | false =>
    go_enter Tryd.func68, Tryd.ntmps68
    go_wp2_with (go_at_call 22; refine (l1In_c _ _ _ _).mono ?_; rintro e w' ⟨rfl, rfl⟩)
    go_ret; exact ⟨rfl, rfl⟩
  | true =>
    cases h2 : inB n 55296 57343
    all_goals
      go_enter Tryd.func68, Tryd.ntmps68
      go_wp2_with (go_at_call 22; refine (l1In_c _ _ _ _).mono ?_; rintro e w' ⟨rfl, rfl⟩)
      go_ret; exact ⟨rfl, rfl⟩


set_option maxHeartbeats 1000000 in
theorem wideOf_spec (n : Int) (w : World) :
    Calls Tryd.prog 56 #[.int .i64 n] w fun e w' => e = .returned (.int .i64 (wideF n)) ∧ w = w' := by
  unfold wideF
  cases h1 : runeOkB n with
  | false =>
    rw [if_neg (by simp)]
    go_enter Tryd.func56, Tryd.ntmps56
    go_wp2_with (go_at_call 68; refine (runeOk_spec _ _).mono ?_; rintro e w' ⟨rfl, rfl⟩)
    go_ret; exact ⟨rfl, rfl⟩
  | true =>
    rw [if_pos rfl]
    by_cases c1 : n < 128
    · rw [if_pos c1]
      go_enter Tryd.func56, Tryd.ntmps56
      go_wp2_with (go_at_call 68; refine (runeOk_spec _ _).mono ?_; rintro e w' ⟨rfl, rfl⟩)
      go_ret; exact ⟨rfl, rfl⟩
    rw [if_neg c1]
    by_cases c2 : n < 2048
    · rw [if_pos c2]
      go_enter Tryd.func56, Tryd.ntmps56
      go_wp2_with (go_at_call 68; refine (runeOk_spec _ _).mono ?_; rintro e w' ⟨rfl, rfl⟩)
      go_ret; exact ⟨rfl, rfl⟩
    rw [if_neg c2]
    by_cases c3 : n < 65536
    · rw [if_pos c3]
      go_enter Tryd.func56, Tryd.ntmps56
      go_wp2_with (go_at_call 68; refine (runeOk_spec _ _).mono ?_; rintro e w' ⟨rfl, rfl⟩)
      go_ret; exact ⟨rfl, rfl⟩
    rw [if_neg c3]
    go_enter Tryd.func56, Tryd.ntmps56
    go_wp2_with (go_at_call 68; refine (runeOk_spec _ _).mono ?_; rintro e w' ⟨rfl, rfl⟩)
    go_ret; exact ⟨rfl, rfl⟩

end Go.Proofs.YtjkjfdhbbblffaaDoor
