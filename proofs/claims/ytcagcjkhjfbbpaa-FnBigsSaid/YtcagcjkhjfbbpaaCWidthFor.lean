/- WidthFor: both give the least width. -/
import Derived.Test.YtcagcjkhjfbbpaaCBase
namespace Go.Proofs.Ytcagcjkhjfbbpaa
open Go.ChangeShapes Go.WideShapes Go.ChangeAt Go.RowKit
open Go.ChangeMaps (open_string shut_string)


def widthF (n : Int) : Int := if n < 0 then 0 else if n < 256 then 1 else if n < 65536 then 2 else if n < 4294967296 then 4 else 8
set_option maxHeartbeats 2000000 in
theorem widthFor_spec (n : Int) (w : World) :
    Calls Try.prog 34 #[.int .i64 n] w fun e w' => e = .returned (.int .i64 (widthF n)) ∧ w = w' := by
  go_enter Try.func34, Try.ntmps34
  go_wp2_with fail
  all_goals (go_ret; refine ⟨ret_int ?_, rfl⟩; unfold widthF; (repeat' split) <;> omega)
/-- Does a number fit into so many bytes? -/
def fitsF (n w : Int) : Bool := decide (0 ≤ n ∧ (8 ≤ w ∨ n < 2 ^ (8 * w.toNat)))
set_option maxHeartbeats 2000000 in
theorem fitsInto_impl (n k : Int) (w : World) (hn : n ≤ 9223372036854775807) (hk : k = 1 ∨ k = 2 ∨ k = 4 ∨ k = 8) :
    Calls Try.prog 51 #[.int .i64 n, .int .i64 k] w fun e w' => e = .returned (.bool (fitsF n k)) ∧ w = w' := by
  by_cases h0 : 0 ≤ n
  · rcases hk with rfl | rfl | rfl | rfl
    all_goals
      go_enter Try.func51, Try.ntmps51
      go_wp2_with fail
      all_goals (go_ret; refine ⟨ret_bool ?_, rfl⟩; unfold fitsF; rw [Bool.eq_iff_iff]; simp; try omega)
  · have hf : fitsF n k = false := by unfold fitsF; exact decide_eq_false (by omega)
    rw [hf]; clear hf
    go_enter Try.func51, Try.ntmps51
    go_wp2_with fail
    all_goals (go_ret; exact ⟨rfl, rfl⟩)
theorem fits_1 {n : Int} (h0 : 0 ≤ n) : fitsF n 1 = decide (n < 256) := by unfold fitsF; simp [h0]
theorem fits_2 {n : Int} (h0 : 0 ≤ n) : fitsF n 2 = decide (n < 65536) := by unfold fitsF; simp [h0]
theorem fits_4 {n : Int} (h0 : 0 ≤ n) : fitsF n 4 = decide (n < 4294967296) := by unfold fitsF; simp [h0]
theorem fits_8 {n : Int} (h0 : 0 ≤ n) : fitsF n 8 = true := by unfold fitsF; simp [h0]
set_option maxHeartbeats 2000000 in
theorem widthFor_impl (n : Int) (w : World) (hn : n ≤ 9223372036854775807) :
    Calls Try.prog 33 #[.int .i64 n] w fun e w' => e = .returned (.int .i64 (widthF n)) ∧ w = w' := by
  by_cases h0 : 0 ≤ n
  · go_enter Try.func33, Try.ntmps33
    go_wp2_with fail
    go_loop [3] (fun v => (v = .int .i64 1 ∨ v = .int .i64 2 ∧ 256 ≤ n ∨ v = .int .i64 4 ∧ 65536 ≤ n ∨ v = .int .i64 8 ∧ 4294967296 ≤ n)) (fun v => 8 - (intOf v).toNat)
    case atStart => exact .inl rfl
    case round =>
      rcases hrel with rfl | ⟨rfl, h⟩ | ⟨rfl, h⟩ | ⟨rfl, h⟩
      · by_cases hlt : n < 256
        · have hb : fitsF n 1 = true := by rw [fits_1 h0]; exact decide_eq_true hlt
          go_wp2_with (go_at_call 51; refine (fitsInto_impl _ _ _ hn (by omega)).mono ?_; rintro e w' ⟨rfl, rfl⟩)
          go_ret
          exact ⟨ret_int (by unfold widthF; rw [if_neg (by omega), if_pos hlt]), rfl⟩
        · have hb : fitsF n 1 = false := by rw [fits_1 h0]; exact decide_eq_false hlt
          go_wp2_with (go_at_call 51; refine (fitsInto_impl _ _ _ hn (by omega)).mono ?_; rintro e w' ⟨rfl, rfl⟩)
          go_round
          case rel => exact .inr (.inl ⟨rfl, by omega⟩)
          case measure => simp [intOf]
      · by_cases hlt : n < 65536
        · have hb : fitsF n 2 = true := by rw [fits_2 h0]; exact decide_eq_true hlt
          go_wp2_with (go_at_call 51; refine (fitsInto_impl _ _ _ hn (by omega)).mono ?_; rintro e w' ⟨rfl, rfl⟩)
          go_ret
          exact ⟨ret_int (by unfold widthF; rw [if_neg (by omega), if_neg (by omega), if_pos hlt]), rfl⟩
        · have hb : fitsF n 2 = false := by rw [fits_2 h0]; exact decide_eq_false hlt
          go_wp2_with (go_at_call 51; refine (fitsInto_impl _ _ _ hn (by omega)).mono ?_; rintro e w' ⟨rfl, rfl⟩)
          go_round
          case rel => exact .inr (.inr (.inl ⟨rfl, by omega⟩))
          case measure => simp [intOf]
      · by_cases hlt : n < 4294967296
        · have hb : fitsF n 4 = true := by rw [fits_4 h0]; exact decide_eq_true hlt
          go_wp2_with (go_at_call 51; refine (fitsInto_impl _ _ _ hn (by omega)).mono ?_; rintro e w' ⟨rfl, rfl⟩)
          go_ret
          exact ⟨ret_int (by unfold widthF; rw [if_neg (by omega), if_neg (by omega), if_neg (by omega), if_pos hlt]), rfl⟩
        · have hb : fitsF n 4 = false := by rw [fits_4 h0]; exact decide_eq_false hlt
          go_wp2_with (go_at_call 51; refine (fitsInto_impl _ _ _ hn (by omega)).mono ?_; rintro e w' ⟨rfl, rfl⟩)
          go_round
          case rel => exact .inr (.inr (.inr ⟨rfl, by omega⟩))
          case measure => simp [intOf]
      · have hb : fitsF n 8 = true := fits_8 h0
        go_wp2_with (go_at_call 51; refine (fitsInto_impl _ _ _ hn (by omega)).mono ?_; rintro e w' ⟨rfl, rfl⟩)
        go_ret
        exact ⟨ret_int (by unfold widthF; rw [if_neg (by omega), if_neg (by omega), if_neg (by omega), if_neg (by omega)]), rfl⟩
  · have hf : widthF n = 0 := by unfold widthF; rw [if_pos (by omega)]
    rw [hf]; clear hf
    go_enter Try.func33, Try.ntmps33
    go_wp2_with fail
    go_ret
    exact ⟨rfl, rfl⟩

end Go.Proofs.Ytcagcjkhjfbbpaa
