/- PutBig: the copies, and the contracts in one form. -/
import Derived.Test.YtcagcjkhjfbbpaaCPutBigS
namespace Go.Proofs.Ytcagcjkhjfbbpaa
open Go.Deep Go.ChangeShapes Go.WideShapes Go.ChangeAt Go.RowKit
open Go.ChangeMaps (open_string shut_string)


/-- May a number be appended in so many bytes? -/
def okBig (n k : Int) : Bool := decide (k = 1 ∨ k = 2 ∨ k = 4 ∨ k = 8) && fitsF n k
def beF (n w : Int) : List Int := if w = 1 then [n % 256] else if w = 2 then [(n / 256) % 256, n % 256] else if w = 4 then [(n / 16777216) % 256, (n / 65536) % 256, (n / 256) % 256, n % 256] else [n / 72057594037927936, (n / 281474976710656) % 256, (n / 1099511627776) % 256, (n / 4294967296) % 256, (n / 16777216) % 256, (n / 65536) % 256, (n / 256) % 256, n % 256]
def putF (zs : List Int) (n k : Int) : List Int := if okBig n k = true then zs ++ beF n k else zs
theorem putF_len (zs : List Int) (n k : Int) : (putF zs n k).length ≤ zs.length + 8 := by
  unfold putF beF
  (repeat' split) <;> simp

set_option maxHeartbeats 2000000 in
theorem putBig_impl_no (n k : Int) (zs : List Int) (a : Option Addr) (cap : Nat) (w : World) (hr : Rd w .u8 a zs) (hlen : zs.length ≤ 1048576) (hn : n ≤ 9223372036854775807) (hno : okBig n k = false) :
    Calls Try.prog 27 #[.slice a zs.length cap, .int .i64 n, .int .i64 k] w fun e w' => ∃ v, e = .returned v ∧ w'.ownsRow w.heap.size 5 1 v zs.length (zs.map (Value.int .u8)) ∧ Below w.heap.size w w' := by
  obtain ⟨i0, hi, hz, hs, hb⟩ := info_parts info_byte2
  have hm := World.ownsRow_made (base := w.heap.size) (e := 5) (size := 1) w #[] 0 (Nat.le_refl _) (by simp [maxLen]) rfl
  have HI := Lib.hid hi; clear hi
  have HR := Lib.hid hr; clear hr
  by_cases h1 : k = 1 ∨ k = 2 ∨ k = 4 ∨ k = 8
  · have hf : fitsF n k = false := by unfold okBig at hno; simpa [h1] using hno
    clear hno
    rcases h1 with rfl | rfl | rfl | rfl
    all_goals
      go_enter Try.func27, Try.ntmps27
      go_wp2_with (first | (go_at_call 51; refine (fitsInto_impl _ _ _ hn (by omega)).mono ?_; rintro e w' ⟨rfl, rfl⟩) | (go_in) | (at_builtin; go_must (refine wpList_append_rd _ rfl (.tmp 9) (.tmp 10) 22 rfl w.heap.size 5 i0 (.int .u8 0) 1 Try.underlying22 HI.out hz hs hb rfl _ _ _ rfl hm .u8 _ _ _ zs rfl rfl (rd_alloc HR.out _) (by unfold maxLen; omega) (by omega) (by simp) ?_); intro v' w1 hown hg))
      go_ret
      exact ⟨_, rfl, by simpa using hown, made_grown hg⟩
  · have d1 : (k == 1) = false := by simp; omega
    have d2 : (k == 2) = false := by simp; omega
    have d3 : (k == 4) = false := by simp; omega
    have d4 : (k == 8) = false := by simp; omega
    clear hno h1
    go_enter Try.func27, Try.ntmps27
    go_wp2_with (first | (go_in) | (at_builtin; go_must (refine wpList_append_rd _ rfl (.tmp 9) (.tmp 10) 22 rfl w.heap.size 5 i0 (.int .u8 0) 1 Try.underlying22 HI.out hz hs hb rfl _ _ _ rfl hm .u8 _ _ _ zs rfl rfl (rd_alloc HR.out _) (by unfold maxLen; omega) (by omega) (by simp) ?_); intro v' w1 hown hg))
    go_ret
    exact ⟨_, rfl, by simpa using hown, made_grown hg⟩

set_option maxHeartbeats 2000000 in
theorem putBig_spec_no (n k : Int) (zs : List Int) (a : Option Addr) (cap : Nat) (w : World) (hr : Rd w .u8 a zs) (hlen : zs.length ≤ 1048576) (hn : n ≤ 9223372036854775807) (hno : okBig n k = false) :
    Calls Try.prog 32 #[.slice a zs.length cap, .int .i64 n, .int .i64 k] w fun e w' => ∃ v, e = .returned v ∧ w'.ownsRow w.heap.size 5 1 v zs.length (zs.map (Value.int .u8)) ∧ Below w.heap.size w w' := by
  obtain ⟨i0, hi, hz, hs, hb⟩ := info_parts info_byte2
  have hm := World.ownsRow_made (base := w.heap.size) (e := 5) (size := 1) w #[] 0 (Nat.le_refl _) (by simp [maxLen]) rfl
  have HI := Lib.hid hi; clear hi
  have HR := Lib.hid hr; clear hr
  by_cases h0 : n < 0
  · have d0 : decide (n < 0) = true := decide_eq_true h0
    clear hno
    go_enter Try.func32, Try.ntmps32
    go_wp2_with (first | (go_in) | (at_builtin; go_must (refine wpList_append_rd _ rfl (.tmp 9) (.tmp 10) 22 rfl w.heap.size 5 i0 (.int .u8 0) 1 Try.underlying22 HI.out hz hs hb rfl _ _ _ rfl hm .u8 _ _ _ zs rfl rfl (rd_alloc HR.out _) (by unfold maxLen; omega) (by omega) (by simp) ?_); intro v' w1 hown hg))
    go_ret
    exact ⟨_, rfl, by simpa using hown, made_grown hg⟩
  have d0 : decide (n < 0) = false := decide_eq_false h0
  by_cases h1 : k = 1 ∨ k = 2 ∨ k = 4 ∨ k = 8
  · have hf : fitsF n k = false := by unfold okBig at hno; simpa [h1] using hno
    clear hno
    rcases h1 with rfl | rfl | rfl | rfl
    · rw [fits_1 (by omega)] at hf
      have hq : (n / 256 != 0) = true := by simp at hf ⊢; omega
      clear hf
      go_enter Try.func32, Try.ntmps32
      go_wp2_with (first | (go_in) | (at_builtin; go_must (refine wpList_append_rd _ rfl (.tmp 9) (.tmp 10) 22 rfl w.heap.size 5 i0 (.int .u8 0) 1 Try.underlying22 HI.out hz hs hb rfl _ _ _ rfl hm .u8 _ _ _ zs rfl rfl (rd_alloc HR.out _) (by unfold maxLen; omega) (by omega) (by simp) ?_); intro v' w1 hown hg))
      go_ret
      exact ⟨_, rfl, by simpa using hown, made_grown hg⟩
    · rw [fits_2 (by omega)] at hf
      have hq : (n / 65536 != 0) = true := by simp at hf ⊢; omega
      clear hf
      go_enter Try.func32, Try.ntmps32
      go_wp2_with (first | (go_in) | (at_builtin; go_must (refine wpList_append_rd _ rfl (.tmp 9) (.tmp 10) 22 rfl w.heap.size 5 i0 (.int .u8 0) 1 Try.underlying22 HI.out hz hs hb rfl _ _ _ rfl hm .u8 _ _ _ zs rfl rfl (rd_alloc HR.out _) (by unfold maxLen; omega) (by omega) (by simp) ?_); intro v' w1 hown hg))
      go_ret
      exact ⟨_, rfl, by simpa using hown, made_grown hg⟩
    · rw [fits_4 (by omega)] at hf
      have hq : (n / 4294967296 != 0) = true := by simp at hf ⊢; omega
      clear hf
      go_enter Try.func32, Try.ntmps32
      go_wp2_with (first | (go_in) | (at_builtin; go_must (refine wpList_append_rd _ rfl (.tmp 9) (.tmp 10) 22 rfl w.heap.size 5 i0 (.int .u8 0) 1 Try.underlying22 HI.out hz hs hb rfl _ _ _ rfl hm .u8 _ _ _ zs rfl rfl (rd_alloc HR.out _) (by unfold maxLen; omega) (by omega) (by simp) ?_); intro v' w1 hown hg))
      go_ret
      exact ⟨_, rfl, by simpa using hown, made_grown hg⟩
    · rw [fits_8 (by omega)] at hf; cases hf
  · have d1 : (k == 1) = false := by simp; omega
    have d2 : (k == 2) = false := by simp; omega
    have d3 : (k == 4) = false := by simp; omega
    have d4 : (k == 8) = false := by simp; omega
    clear hno h1
    go_enter Try.func32, Try.ntmps32
    go_wp2_with (first | (go_in) | (at_builtin; go_must (refine wpList_append_rd _ rfl (.tmp 9) (.tmp 10) 22 rfl w.heap.size 5 i0 (.int .u8 0) 1 Try.underlying22 HI.out hz hs hb rfl _ _ _ rfl hm .u8 _ _ _ zs rfl rfl (rd_alloc HR.out _) (by unfold maxLen; omega) (by omega) (by simp) ?_); intro v' w1 hown hg))
    go_ret
    exact ⟨_, rfl, by simpa using hown, made_grown hg⟩

theorem okBig_true {n k : Int} (h : okBig n k = true) : 0 ≤ n ∧ fitsF n k = true ∧ (k = 1 ∨ k = 2 ∨ k = 4 ∨ k = 8) := by
  unfold okBig at h
  rw [Bool.and_eq_true, decide_eq_true_eq] at h
  refine ⟨?_, h.2, h.1⟩
  have := h.2
  unfold fitsF at this
  exact (of_decide_eq_true this).1

theorem putBig_impl_c (n k : Int) (zs : List Int) (a : Option Addr) (cap : Nat) (w : World) (hr : Rd w .u8 a zs) (hlen : zs.length ≤ 1048576) (hn : n ≤ 9223372036854775807) :
    Calls Try.prog 27 #[.slice a zs.length cap, .int .i64 n, .int .i64 k] w fun e w' => ∃ v, e = .returned v ∧ w'.ownsRow w.heap.size 5 1 v (putF zs n k).length ((putF zs n k).map (Value.int .u8)) ∧ Below w.heap.size w w' := by
  cases h : okBig n k with
  | false =>
    have e : putF zs n k = zs := by unfold putF; rw [if_neg (by rw [h]; simp)]
    rw [e]
    exact putBig_impl_no n k zs a cap w hr hlen hn h
  | true =>
    obtain ⟨h0, hf, hk⟩ := okBig_true h
    have e : putF zs n k = zs ++ beF n k := by unfold putF; rw [if_pos h]
    rw [e, List.length_append]
    rcases hk with rfl | rfl | rfl | rfl
    · exact putBig_impl_1 n zs a cap w hr hlen h0 hn hf
    · exact putBig_impl_2 n zs a cap w hr hlen h0 hn hf
    · exact putBig_impl_4 n zs a cap w hr hlen h0 hn hf
    · exact putBig_impl_8 n zs a cap w hr hlen h0 hn hf

theorem putBig_spec_c (n k : Int) (zs : List Int) (a : Option Addr) (cap : Nat) (w : World) (hr : Rd w .u8 a zs) (hlen : zs.length ≤ 1048576) (hn : n ≤ 9223372036854775807) :
    Calls Try.prog 32 #[.slice a zs.length cap, .int .i64 n, .int .i64 k] w fun e w' => ∃ v, e = .returned v ∧ w'.ownsRow w.heap.size 5 1 v (putF zs n k).length ((putF zs n k).map (Value.int .u8)) ∧ Below w.heap.size w w' := by
  cases h : okBig n k with
  | false =>
    have e : putF zs n k = zs := by unfold putF; rw [if_neg (by rw [h]; simp)]
    rw [e]
    exact putBig_spec_no n k zs a cap w hr hlen hn h
  | true =>
    obtain ⟨h0, hf, hk⟩ := okBig_true h
    have e : putF zs n k = zs ++ beF n k := by unfold putF; rw [if_pos h]
    rw [e, List.length_append]
    rcases hk with rfl | rfl | rfl | rfl
    · exact putBig_spec_1 n zs a cap w hr hlen h0 hn (by rw [fits_1 h0] at hf; exact of_decide_eq_true hf)
    · exact putBig_spec_2 n zs a cap w hr hlen h0 hn (by rw [fits_2 h0] at hf; exact of_decide_eq_true hf)
    · exact putBig_spec_4 n zs a cap w hr hlen h0 hn (by rw [fits_4 h0] at hf; exact of_decide_eq_true hf)
    · exact putBig_spec_8 n zs a cap w hr hlen h0 hn 

end Go.Proofs.Ytcagcjkhjfbbpaa
