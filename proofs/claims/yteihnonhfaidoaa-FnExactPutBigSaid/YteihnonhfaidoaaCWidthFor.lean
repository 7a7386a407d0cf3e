/- WidthFor: both give the least width. -/
import Derived.Test.YteihnonhfaidoaaCBase
namespace Go.Proofs.Yteihnonhfaidoaa
open Go.ChangeShapes Go.WideShapes Go.ChangeAt Go.RowKit
open Go.ChangeMaps (open_string shut_string)


def widthF (n : Int) : Int := if n < 0 then 0 else if n < 256 then 1 else if n < 65536 then 2 else if n < 4294967296 then 4 else 8
/-- Does a number fit into so many bytes? -/
def fitsF (n w : Int) : Bool := decide (0 ≤ n ∧ (8 ≤ w ∨ n < 2 ^ (8 * w.toNat)))
set_option maxHeartbeats 2000000 in
theorem fitsInto_impl (n k : Int) (w : World) (hn : n ≤ 9223372036854775807) (hk : k = 1 ∨ k = 2 ∨ k = 4 ∨ k = 8) :
    Calls Try.prog 49 #[.int .i64 n, .int .i64 k] w fun e w' => e = .returned (.bool (fitsF n k)) ∧ w = w' := by
  by_cases h0 : 0 ≤ n
  · rcases hk with rfl | rfl | rfl | rfl
    all_goals
      go_enter Try.func49, Try.ntmps49
      go_wp2_with fail
      all_goals (go_ret; refine ⟨ret_bool ?_, rfl⟩; unfold fitsF; rw [Bool.eq_iff_iff]; simp; try omega)
  · have hf : fitsF n k = false := by unfold fitsF; exact decide_eq_false (by omega)
    rw [hf]; clear hf
    go_enter Try.func49, Try.ntmps49
    go_wp2_with fail
    all_goals (go_ret; exact ⟨rfl, rfl⟩)
theorem fits_1 {n : Int} (h0 : 0 ≤ n) : fitsF n 1 = decide (n < 256) := by unfold fitsF; simp [h0]
theorem fits_2 {n : Int} (h0 : 0 ≤ n) : fitsF n 2 = decide (n < 65536) := by unfold fitsF; simp [h0]
theorem fits_4 {n : Int} (h0 : 0 ≤ n) : fitsF n 4 = decide (n < 4294967296) := by unfold fitsF; simp [h0]
theorem fits_8 {n : Int} (h0 : 0 ≤ n) : fitsF n 8 = true := by unfold fitsF; simp [h0]

end Go.Proofs.Yteihnonhfaidoaa
