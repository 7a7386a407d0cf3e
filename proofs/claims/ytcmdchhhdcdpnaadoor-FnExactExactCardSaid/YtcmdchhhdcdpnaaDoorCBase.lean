/- The smallest functions: within and l1In, each as one Bool. -/
import Derived.Test.YtcmdchhhdcdpnaaDoorFrame
import Derived.WalkLawsBesides
import Derived.WalkSpells
import Derived.Deep.QuietTactic
import Derived.BigQuiet
import Derived.Lib.Hide
import Derived.IntWalk
namespace Go.Proofs.YtcmdchhhdcdpnaaDoor
open Go.ChangeShapes Go.WideShapes Go.ChangeAt Go.RowKit
open Go.ChangeMaps (open_string shut_string)

theorem ret_int {k : IntKind} {a b : Int} (h : a = b) : Ending.returned (.int k a) = .returned (.int k b) := by rw [h]
theorem ret_bool {a b : Bool} (h : a = b) : Ending.returned (.bool a) = .returned (.bool b) := by rw [h]
theorem ret_str {a b : ByteArray} (h : a = b) : Ending.returned (.string a) = .returned (.string b) := by rw [h]

theorem tmod_zero {m c : Int} : m.tmod c = 0 ↔ m % c = 0 := by
  rw [← Int.dvd_iff_emod_eq_zero]
  exact ⟨Int.dvd_of_tmod_eq_zero, Int.tmod_eq_zero_of_dvd⟩

/-- Is a number in a range? -/
def inB (n lo hi : Int) : Bool := decide (lo ≤ n ∧ n ≤ hi)
theorem inB_true {n lo hi : Int} : inB n lo hi = true ↔ lo ≤ n ∧ n ≤ hi := by unfold inB; exact decide_eq_true_iff
theorem inB_false {n lo hi : Int} : inB n lo hi = false ↔ n < lo ∨ hi < n := by unfold inB; rw [decide_eq_false_iff_not]; omega
theorem inB_mk {n lo hi : Int} (h : lo ≤ n ∧ n ≤ hi) : inB n lo hi = true := inB_true.2 h
theorem inB_no {n lo hi : Int} (h : n < lo ∨ hi < n) : inB n lo hi = false := inB_false.2 h

theorem wf64 {n : Int} (h : (Lit.int .i64 n).wf = true) : -9223372036854775808 ≤ n ∧ n ≤ 9223372036854775807 := by
  simpa [Lit.wf, IntKind.min, IntKind.max, IntKind.signed, IntKind.bits] using h

theorem within_c (n lo hi : Int) (w : World) :
    Calls Tryd.prog 25 #[.int .i64 n, .int .i64 lo, .int .i64 hi] w fun e w' => e = .returned (.bool (inB n lo hi)) ∧ w = w' := by
  cases hb : inB n lo hi with
  | true =>
    have h := inB_true.1 hb
    clear hb
    obtain ⟨h1, h2⟩ := h
    go_enter Tryd.func25, Tryd.ntmps25
    go_wp2
    all_goals (go_ret; exact ⟨rfl, rfl⟩)
  | false =>
    by_cases h1 : lo ≤ n
    · have h2 : decide (n ≤ hi) = false := decide_eq_false (by have := inB_false.1 hb; omega)
      clear hb
      go_enter Tryd.func25, Tryd.ntmps25
      go_wp2
      all_goals (go_ret; exact ⟨rfl, rfl⟩)
    · clear hb
      go_enter Tryd.func25, Tryd.ntmps25
      go_wp2
      all_goals (go_ret; exact ⟨rfl, rfl⟩)
theorem l1In_c (n lo hi : Int) (w : World) :
    Calls Tryd.prog 22 #[.int .i64 n, .int .i64 lo, .int .i64 hi] w fun e w' => e = .returned (.bool (inB n lo hi)) ∧ w = w' := by
  cases hb : inB n lo hi with
  | true =>
    have h := inB_true.1 hb
    clear hb
    obtain ⟨h1, h2⟩ := h
    go_enter Tryd.func22, Tryd.ntmps22
    go_wp2
    all_goals (go_ret; exact ⟨rfl, rfl⟩)
  | false =>
    by_cases h1 : lo ≤ n
    · have h2 : decide (n ≤ hi) = false := decide_eq_false (by have := inB_false.1 hb; omega)
      clear hb
      go_enter Tryd.func22, Tryd.ntmps22
      go_wp2
      all_goals (go_ret; exact ⟨rfl, rfl⟩)
    · clear hb
      go_enter Tryd.func22, Tryd.ntmps22
      go_wp2
      all_goals (go_ret; exact ⟨rfl, rfl⟩)
end Go.Proofs.YtcmdchhhdcdpnaaDoor
