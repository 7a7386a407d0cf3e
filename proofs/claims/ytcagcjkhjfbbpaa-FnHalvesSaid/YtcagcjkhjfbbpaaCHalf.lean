/- Half: both divide and round alike. -/
import Derived.Test.YtcagcjkhjfbbpaaCBase
namespace Go.Proofs.Ytcagcjkhjfbbpaa
open Go.ChangeShapes Go.WideShapes Go.ChangeAt Go.RowKit
open Go.ChangeMaps (open_string shut_string)


/-- The rounded quotient. -/
def halfF (n d : Int) : Int :=
  if 0 ≤ n ∧ n ≤ 1000000000000000 ∧ 1 ≤ d ∧ d ≤ 1000000000000000 then
    (if d < 2 * (n % d) ∨ 2 * (n % d) = d ∧ (n / d) % 2 = 1 then n / d + 1 else n / d) else 0

set_option maxHeartbeats 2000000 in
theorem half_spec (n d : Int) (w : World) :
    Calls Try.prog 21 #[.int .i64 n, .int .i64 d] w fun e w' => e = .returned (.int .i64 (halfF n d)) ∧ ∃ k, w' = w.drewN k := by
  cases hb1 : inB n 0 1000000000000000 with
  | false =>
    have hf : halfF n d = 0 := by unfold halfF; rw [if_neg (by have := inB_false.1 hb1; omega)]
    rw [hf]; clear hf
    go_enter Try.func21, Try.ntmps21
    go_wp2_with (go_at_call 47; refine (l1In_c _ _ _ _).mono ?_; rintro e w' ⟨rfl, rfl⟩)
    all_goals (go_ret; exact ⟨rfl, 0, rfl⟩)
  | true =>
    cases hb2 : inB d 1 1000000000000000 with
    | false =>
      have hf : halfF n d = 0 := by unfold halfF; rw [if_neg (by have := inB_false.1 hb2; omega)]
      rw [hf]; clear hf
      go_enter Try.func21, Try.ntmps21
      go_wp2_with (go_at_call 47; refine (l1In_c _ _ _ _).mono ?_; rintro e w' ⟨rfl, rfl⟩)
      all_goals (go_ret; exact ⟨rfl, 0, rfl⟩)
    | true =>
      obtain ⟨h1, h2⟩ := inB_true.1 hb1
      obtain ⟨h3, h4⟩ := inB_true.1 hb2
      have hq : 0 ≤ n / d := Int.ediv_nonneg h1 (by omega)
      have hq2 : n / d ≤ n := Int.ediv_le_self _ h1
      have hr : 0 ≤ n % d := Int.emod_nonneg _ (by omega)
      have hr2 : n % d < d := Int.emod_lt_of_pos _ (by omega)
      go_enter Try.func21, Try.ntmps21
      go_wp2_with (go_at_call 47; refine (l1In_c _ _ _ _).mono ?_; rintro e w' ⟨rfl, rfl⟩)
      all_goals (go_ret; refine ⟨ret_int ?_, 0, rfl⟩; unfold halfF; rw [if_pos ⟨h1, h2, h3, h4⟩]; (try simp only [beq_iff_eq, beq_eq_false_iff_ne, ne_eq] at *); first | (rw [if_pos (by omega)]; done) | (rw [if_neg (by omega)]; done))

set_option maxHeartbeats 2000000 in
theorem half_impl (n d : Int) (w : World) :
    Calls Try.prog 20 #[.int .i64 n, .int .i64 d] w fun e w' => e = .returned (.int .i64 (halfF n d)) ∧ ∃ k, w' = w.drewN k := by
  cases hb1 : inB n 0 1000000000000000 with
  | false =>
    have hf : halfF n d = 0 := by unfold halfF; rw [if_neg (by have := inB_false.1 hb1; omega)]
    rw [hf]; clear hf
    go_enter Try.func20, Try.ntmps20
    go_wp2_with (go_at_call 46; refine (within_c _ _ _ _).mono ?_; rintro e w' ⟨rfl, rfl⟩)
    all_goals (go_ret; exact ⟨rfl, 0, rfl⟩)
  | true =>
    cases hb2 : inB d 1 1000000000000000 with
    | false =>
      have hf : halfF n d = 0 := by unfold halfF; rw [if_neg (by have := inB_false.1 hb2; omega)]
      rw [hf]; clear hf
      go_enter Try.func20, Try.ntmps20
      go_wp2_with (go_at_call 46; refine (within_c _ _ _ _).mono ?_; rintro e w' ⟨rfl, rfl⟩)
      all_goals (go_ret; exact ⟨rfl, 0, rfl⟩)
    | true =>
      obtain ⟨h1, h2⟩ := inB_true.1 hb1
      obtain ⟨h3, h4⟩ := inB_true.1 hb2
      have hq : 0 ≤ n / d := Int.ediv_nonneg h1 (by omega)
      have hq2 : n / d ≤ n := Int.ediv_le_self _ h1
      have hr : 0 ≤ n % d := Int.emod_nonneg _ (by omega)
      have hr2 : n % d < d := Int.emod_lt_of_pos _ (by omega)
      have e1 : IntKind.i64.wrap (2 * (n % d)) = 2 * (n % d) := IntWalk.i64_in _ (by omega)
      go_enter Try.func20, Try.ntmps20
      go_wp2_with (go_at_call 46; refine (within_c _ _ _ _).mono ?_; rintro e w' ⟨rfl, rfl⟩)
      go_quiet (fail)
      go_wp2
      all_goals (go_ret; refine ⟨ret_int ?_, _, rfl⟩; unfold halfF; rw [if_pos ⟨h1, h2, h3, h4⟩]; (try simp only [beq_iff_eq, beq_eq_false_iff_ne, ne_eq] at *); first | (rw [if_pos (by omega)]; done) | (rw [if_neg (by omega)]; done))

end Go.Proofs.Ytcagcjkhjfbbpaa
