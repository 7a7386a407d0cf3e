/- PutBig: both append alike. -/
import Derived.Test.YtcagcjkhjfbbpaaBLaw
import Derived.Test.YtcagcjkhjfbbpaaCWidthFor
namespace Go.Proofs.Ytcagcjkhjfbbpaa
open Go.Deep Go.ChangeShapes Go.WideShapes Go.ChangeAt Go.RowKit
open Go.ChangeMaps (open_string shut_string)


theorem info_byte2 : (Try.prog.info? 5).map (fun i => (i.zero, i.size, i.bytes)) = some (some (.int .u8 0), 1, 1) := by kernel_rfl

set_option maxHeartbeats 4000000 in
theorem putBig_impl_1 (n : Int) (zs : List Int) (a : Option Addr) (cap : Nat) (w : World) (hr : Rd w .u8 a zs) (hlen : zs.length ≤ 1048576) (hn0 : 0 ≤ n) (hn : n ≤ 9223372036854775807) (hfit : fitsF n 1 = true) :
    Calls Try.prog 27 #[.slice a zs.length cap, .int .i64 n, .int .i64 1] w fun e w' => ∃ v, e = .returned v ∧ w'.ownsRow w.heap.size 5 1 v (zs.length + 1) ((zs ++ [n % 256]).map (Value.int .u8)) ∧ Below w.heap.size w w' := by
  obtain ⟨i0, hi, hz, hs, hb⟩ := info_parts info_byte2
  have hm := World.ownsRow_made (base := w.heap.size) (e := 5) (size := 1) w #[] 0 (Nat.le_refl _) (by simp [maxLen]) rfl
  have HI := Lib.hid hi; clear hi
  have HR := Lib.hid hr; clear hr
  go_enter Try.func27, Try.ntmps27
  go_wp2_with (first | (go_at_call 51; refine (fitsInto_impl _ _ _ hn (by omega)).mono ?_; rintro e w' ⟨rfl, rfl⟩) | (go_in) | (at_builtin; go_must (refine wpList_append_rd _ rfl (.tmp 9) (.tmp 10) 22 rfl w.heap.size 5 i0 (.int .u8 0) 1 Try.underlying22 HI.out hz hs hb rfl _ _ _ rfl hm .u8 _ _ _ zs rfl rfl (rd_alloc HR.out _) (by unfold maxLen; omega) (by omega) (by simp) ?_); intro v' w1 hown hg))
  have hbel := made_grown hg
  have hown' : w1.ownsRow w.heap.size 5 1 v' (zs.length + 0) ((zs ++ (([n % 256] : List Int).take 0)).map (Value.int .u8)) := by simpa using hown
  clear hg hown
  go_loopw [7, 8] (fun v i wr => ∃ m : Nat, m ≤ 1 ∧ i = .int .i64 (0 - m) ∧ wr.ownsRow w.heap.size 5 1 v (zs.length + m) ((zs ++ (([n % 256] : List Int).take m)).map (Value.int .u8)) ∧ Below w.heap.size w wr) (fun _ i _ => (intOf i + 1).toNat)
  case atStart => exact ⟨0, by omega, rfl, hown', hbel⟩
  case round =>
    clear hown' hbel
    obtain ⟨m, hm, rfl, hown, hbw⟩ := hrel
    have OWN := Lib.hid hown; clear hown
    have hm' : m = 0 ∨ m = 1 := by omega
    rcases hm' with rfl | rfl
    · skip
      go_wp2_with (first | (at_builtin; go_must (refine wpList_append_own _ rfl (.tmp 28) (.tmp 35) 22 rfl w.heap.size 5 i0 (.int .u8 0) 1 1 Try.underlying22 HI.out hz hs hb rfl (by decide) _ _ _ rfl (OWN.out.alloc _) ⟨wr.heap.size, 0, none⟩ 1 1 [.int .u8 (n % 256)] rfl rfl (cell_one_new _ _ _) (by simp; rfl) (by unfold maxLen; omega) (by omega) (by simp only [World.size_alloc]; have := hbw.size; omega) ?_); intro v1 w2 hown2 hg2 _))
      go_roundw
      case rel => exact ⟨1, by omega, rfl, by simpa using hown2, (hbw.alloc hbw.size _).grown hg2 (by simp only [World.size_alloc]; have := hbw.size; omega) (fun k hk => (OWN.out.lt k hk).1)⟩
      case measure => simp [intOf]
    · go_wp2_with fail
      go_ret
      exact ⟨_, rfl, by simpa using OWN.out, hbw⟩

set_option maxHeartbeats 4000000 in
theorem putBig_impl_2 (n : Int) (zs : List Int) (a : Option Addr) (cap : Nat) (w : World) (hr : Rd w .u8 a zs) (hlen : zs.length ≤ 1048576) (hn0 : 0 ≤ n) (hn : n ≤ 9223372036854775807) (hfit : fitsF n 2 = true) :
    Calls Try.prog 27 #[.slice a zs.length cap, .int .i64 n, .int .i64 2] w fun e w' => ∃ v, e = .returned v ∧ w'.ownsRow w.heap.size 5 1 v (zs.length + 2) ((zs ++ [(n / 256) % 256, n % 256]).map (Value.int .u8)) ∧ Below w.heap.size w w' := by
  obtain ⟨i0, hi, hz, hs, hb⟩ := info_parts info_byte2
  have hm := World.ownsRow_made (base := w.heap.size) (e := 5) (size := 1) w #[] 0 (Nat.le_refl _) (by simp [maxLen]) rfl
  have HI := Lib.hid hi; clear hi
  have HR := Lib.hid hr; clear hr
  go_enter Try.func27, Try.ntmps27
  go_wp2_with (first | (go_at_call 51; refine (fitsInto_impl _ _ _ hn (by omega)).mono ?_; rintro e w' ⟨rfl, rfl⟩) | (go_in) | (at_builtin; go_must (refine wpList_append_rd _ rfl (.tmp 9) (.tmp 10) 22 rfl w.heap.size 5 i0 (.int .u8 0) 1 Try.underlying22 HI.out hz hs hb rfl _ _ _ rfl hm .u8 _ _ _ zs rfl rfl (rd_alloc HR.out _) (by unfold maxLen; omega) (by omega) (by simp) ?_); intro v' w1 hown hg))
  have hbel := made_grown hg
  have hown' : w1.ownsRow w.heap.size 5 1 v' (zs.length + 0) ((zs ++ (([(n / 256) % 256, n % 256] : List Int).take 0)).map (Value.int .u8)) := by simpa using hown
  clear hg hown
  go_loopw [7, 8] (fun v i wr => ∃ m : Nat, m ≤ 2 ∧ i = .int .i64 (1 - m) ∧ wr.ownsRow w.heap.size 5 1 v (zs.length + m) ((zs ++ (([(n / 256) % 256, n % 256] : List Int).take m)).map (Value.int .u8)) ∧ Below w.heap.size w wr) (fun _ i _ => (intOf i + 1).toNat)
  case atStart => exact ⟨0, by omega, rfl, hown', hbel⟩
  case round =>
    clear hown' hbel
    obtain ⟨m, hm, rfl, hown, hbw⟩ := hrel
    have OWN := Lib.hid hown; clear hown
    have hm' : m = 0 ∨ m = 1 ∨ m = 2 := by omega
    rcases hm' with rfl | rfl | rfl
    · skip
      go_wp2_with (first | (at_builtin; go_must (refine wpList_append_own _ rfl (.tmp 28) (.tmp 35) 22 rfl w.heap.size 5 i0 (.int .u8 0) 1 1 Try.underlying22 HI.out hz hs hb rfl (by decide) _ _ _ rfl (OWN.out.alloc _) ⟨wr.heap.size, 0, none⟩ 1 1 [.int .u8 ((n / 256) % 256)] rfl rfl (cell_one_new _ _ _) (by simp; rfl) (by unfold maxLen; omega) (by omega) (by simp only [World.size_alloc]; have := hbw.size; omega) ?_); intro v1 w2 hown2 hg2 _))
      go_roundw
      case rel => exact ⟨1, by omega, rfl, by simpa using hown2, (hbw.alloc hbw.size _).grown hg2 (by simp only [World.size_alloc]; have := hbw.size; omega) (fun k hk => (OWN.out.lt k hk).1)⟩
      case measure => simp [intOf]
    · skip
      go_wp2_with (first | (at_builtin; go_must (refine wpList_append_own _ rfl (.tmp 28) (.tmp 35) 22 rfl w.heap.size 5 i0 (.int .u8 0) 1 1 Try.underlying22 HI.out hz hs hb rfl (by decide) _ _ _ rfl (OWN.out.alloc _) ⟨wr.heap.size, 0, none⟩ 1 1 [.int .u8 (n % 256)] rfl rfl (cell_one_new _ _ _) (by simp; rfl) (by unfold maxLen; omega) (by omega) (by simp only [World.size_alloc]; have := hbw.size; omega) ?_); intro v1 w2 hown2 hg2 _))
      go_roundw
      case rel => exact ⟨2, by omega, rfl, by simpa using hown2, (hbw.alloc hbw.size _).grown hg2 (by simp only [World.size_alloc]; have := hbw.size; omega) (fun k hk => (OWN.out.lt k hk).1)⟩
      case measure => simp [intOf]
    · go_wp2_with fail
      go_ret
      exact ⟨_, rfl, by simpa using OWN.out, hbw⟩

set_option maxHeartbeats 4000000 in
theorem putBig_impl_4 (n : Int) (zs : List Int) (a : Option Addr) (cap : Nat) (w : World) (hr : Rd w .u8 a zs) (hlen : zs.length ≤ 1048576) (hn0 : 0 ≤ n) (hn : n ≤ 9223372036854775807) (hfit : fitsF n 4 = true) :
    Calls Try.prog 27 #[.slice a zs.length cap, .int .i64 n, .int .i64 4] w fun e w' => ∃ v, e = .returned v ∧ w'.ownsRow w.heap.size 5 1 v (zs.length + 4) ((zs ++ [(n / 16777216) % 256, (n / 65536) % 256, (n / 256) % 256, n % 256]).map (Value.int .u8)) ∧ Below w.heap.size w w' := by
  obtain ⟨i0, hi, hz, hs, hb⟩ := info_parts info_byte2
  have hm := World.ownsRow_made (base := w.heap.size) (e := 5) (size := 1) w #[] 0 (Nat.le_refl _) (by simp [maxLen]) rfl
  have HI := Lib.hid hi; clear hi
  have HR := Lib.hid hr; clear hr
  go_enter Try.func27, Try.ntmps27
  go_wp2_with (first | (go_at_call 51; refine (fitsInto_impl _ _ _ hn (by omega)).mono ?_; rintro e w' ⟨rfl, rfl⟩) | (go_in) | (at_builtin; go_must (refine wpList_append_rd _ rfl (.tmp 9) (.tmp 10) 22 rfl w.heap.size 5 i0 (.int .u8 0) 1 Try.underlying22 HI.out hz hs hb rfl _ _ _ rfl hm .u8 _ _ _ zs rfl rfl (rd_alloc HR.out _) (by unfold maxLen; omega) (by omega) (by simp) ?_); intro v' w1 hown hg))
  have hbel := made_grown hg
  have hown' : w1.ownsRow w.heap.size 5 1 v' (zs.length + 0) ((zs ++ (([(n / 16777216) % 256, (n / 65536) % 256, (n / 256) % 256, n % 256] : List Int).take 0)).map (Value.int .u8)) := by simpa using hown
  clear hg hown
  go_loopw [7, 8] (fun v i wr => ∃ m : Nat, m ≤ 4 ∧ i = .int .i64 (3 - m) ∧ wr.ownsRow w.heap.size 5 1 v (zs.length + m) ((zs ++ (([(n / 16777216) % 256, (n / 65536) % 256, (n / 256) % 256, n % 256] : List Int).take m)).map (Value.int .u8)) ∧ Below w.heap.size w wr) (fun _ i _ => (intOf i + 1).toNat)
  case atStart => exact ⟨0, by omega, rfl, hown', hbel⟩
  case round =>
    clear hown' hbel
    obtain ⟨m, hm, rfl, hown, hbw⟩ := hrel
    have OWN := Lib.hid hown; clear hown
    have hm' : m = 0 ∨ m = 1 ∨ m = 2 ∨ m = 3 ∨ m = 4 := by omega
    rcases hm' with rfl | rfl | rfl | rfl | rfl
    · skip
      go_wp2_with (first | (at_builtin; go_must (refine wpList_append_own _ rfl (.tmp 28) (.tmp 35) 22 rfl w.heap.size 5 i0 (.int .u8 0) 1 1 Try.underlying22 HI.out hz hs hb rfl (by decide) _ _ _ rfl (OWN.out.alloc _) ⟨wr.heap.size, 0, none⟩ 1 1 [.int .u8 ((n / 16777216) % 256)] rfl rfl (cell_one_new _ _ _) (by simp; rfl) (by unfold maxLen; omega) (by omega) (by simp only [World.size_alloc]; have := hbw.size; omega) ?_); intro v1 w2 hown2 hg2 _))
      go_roundw
      case rel => exact ⟨1, by omega, rfl, by simpa using hown2, (hbw.alloc hbw.size _).grown hg2 (by simp only [World.size_alloc]; have := hbw.size; omega) (fun k hk => (OWN.out.lt k hk).1)⟩
      case measure => simp [intOf]
    · skip
      go_wp2_with (first | (at_builtin; go_must (refine wpList_append_own _ rfl (.tmp 28) (.tmp 35) 22 rfl w.heap.size 5 i0 (.int .u8 0) 1 1 Try.underlying22 HI.out hz hs hb rfl (by decide) _ _ _ rfl (OWN.out.alloc _) ⟨wr.heap.size, 0, none⟩ 1 1 [.int .u8 ((n / 65536) % 256)] rfl rfl (cell_one_new _ _ _) (by simp; rfl) (by unfold maxLen; omega) (by omega) (by simp only [World.size_alloc]; have := hbw.size; omega) ?_); intro v1 w2 hown2 hg2 _))
      go_roundw
      case rel => exact ⟨2, by omega, rfl, by simpa using hown2, (hbw.alloc hbw.size _).grown hg2 (by simp only [World.size_alloc]; have := hbw.size; omega) (fun k hk => (OWN.out.lt k hk).1)⟩
      case measure => simp [intOf]
    · skip
      go_wp2_with (first | (at_builtin; go_must (refine wpList_append_own _ rfl (.tmp 28) (.tmp 35) 22 rfl w.heap.size 5 i0 (.int .u8 0) 1 1 Try.underlying22 HI.out hz hs hb rfl (by decide) _ _ _ rfl (OWN.out.alloc _) ⟨wr.heap.size, 0, none⟩ 1 1 [.int .u8 ((n / 256) % 256)] rfl rfl (cell_one_new _ _ _) (by simp; rfl) (by unfold maxLen; omega) (by omega) (by simp only [World.size_alloc]; have := hbw.size; omega) ?_); intro v1 w2 hown2 hg2 _))
      go_roundw
      case rel => exact ⟨3, by omega, rfl, by simpa using hown2, (hbw.alloc hbw.size _).grown hg2 (by simp only [World.size_alloc]; have := hbw.size; omega) (fun k hk => (OWN.out.lt k hk).1)⟩
      case measure => simp [intOf]
    · skip
      go_wp2_with (first | (at_builtin; go_must (refine wpList_append_own _ rfl (.tmp 28) (.tmp 35) 22 rfl w.heap.size 5 i0 (.int .u8 0) 1 1 Try.underlying22 HI.out hz hs hb rfl (by decide) _ _ _ rfl (OWN.out.alloc _) ⟨wr.heap.size, 0, none⟩ 1 1 [.int .u8 (n % 256)] rfl rfl (cell_one_new _ _ _) (by simp; rfl) (by unfold maxLen; omega) (by omega) (by simp only [World.size_alloc]; have := hbw.size; omega) ?_); intro v1 w2 hown2 hg2 _))
      go_roundw
      case rel => exact ⟨4, by omega, rfl, by simpa using hown2, (hbw.alloc hbw.size _).grown hg2 (by simp only [World.size_alloc]; have := hbw.size; omega) (fun k hk => (OWN.out.lt k hk).1)⟩
      case measure => simp [intOf]
    · go_wp2_with fail
      go_ret
      exact ⟨_, rfl, by simpa using OWN.out, hbw⟩

set_option maxHeartbeats 4000000 in
theorem putBig_impl_8 (n : Int) (zs : List Int) (a : Option Addr) (cap : Nat) (w : World) (hr : Rd w .u8 a zs) (hlen : zs.length ≤ 1048576) (hn0 : 0 ≤ n) (hn : n ≤ 9223372036854775807) (hfit : fitsF n 8 = true) :
    Calls Try.prog 27 #[.slice a zs.length cap, .int .i64 n, .int .i64 8] w fun e w' => ∃ v, e = .returned v ∧ w'.ownsRow w.heap.size 5 1 v (zs.length + 8) ((zs ++ [n / 72057594037927936, (n / 281474976710656) % 256, (n / 1099511627776) % 256, (n / 4294967296) % 256, (n / 16777216) % 256, (n / 65536) % 256, (n / 256) % 256, n % 256]).map (Value.int .u8)) ∧ Below w.heap.size w w' := by
  obtain ⟨i0, hi, hz, hs, hb⟩ := info_parts info_byte2
  have hm := World.ownsRow_made (base := w.heap.size) (e := 5) (size := 1) w #[] 0 (Nat.le_refl _) (by simp [maxLen]) rfl
  have HI := Lib.hid hi; clear hi
  have HR := Lib.hid hr; clear hr
  go_enter Try.func27, Try.ntmps27
  go_wp2_with (first | (go_at_call 51; refine (fitsInto_impl _ _ _ hn (by omega)).mono ?_; rintro e w' ⟨rfl, rfl⟩) | (go_in) | (at_builtin; go_must (refine wpList_append_rd _ rfl (.tmp 9) (.tmp 10) 22 rfl w.heap.size 5 i0 (.int .u8 0) 1 Try.underlying22 HI.out hz hs hb rfl _ _ _ rfl hm .u8 _ _ _ zs rfl rfl (rd_alloc HR.out _) (by unfold maxLen; omega) (by omega) (by simp) ?_); intro v' w1 hown hg))
  have hbel := made_grown hg
  have hown' : w1.ownsRow w.heap.size 5 1 v' (zs.length + 0) ((zs ++ (([n / 72057594037927936, (n / 281474976710656) % 256, (n / 1099511627776) % 256, (n / 4294967296) % 256, (n / 16777216) % 256, (n / 65536) % 256, (n / 256) % 256, n % 256] : List Int).take 0)).map (Value.int .u8)) := by simpa using hown
  clear hg hown
  go_loopw [7, 8] (fun v i wr => ∃ m : Nat, m ≤ 8 ∧ i = .int .i64 (7 - m) ∧ wr.ownsRow w.heap.size 5 1 v (zs.length + m) ((zs ++ (([n / 72057594037927936, (n / 281474976710656) % 256, (n / 1099511627776) % 256, (n / 4294967296) % 256, (n / 16777216) % 256, (n / 65536) % 256, (n / 256) % 256, n % 256] : List Int).take m)).map (Value.int .u8)) ∧ Below w.heap.size w wr) (fun _ i _ => (intOf i + 1).toNat)
  case atStart => exact ⟨0, by omega, rfl, hown', hbel⟩
  case round =>
    clear hown' hbel
    obtain ⟨m, hm, rfl, hown, hbw⟩ := hrel
    have OWN := Lib.hid hown; clear hown
    have hm' : m = 0 ∨ m = 1 ∨ m = 2 ∨ m = 3 ∨ m = 4 ∨ m = 5 ∨ m = 6 ∨ m = 7 ∨ m = 8 := by omega
    rcases hm' with rfl | rfl | rfl | rfl | rfl | rfl | rfl | rfl | rfl
    · skip
      go_wp2_with (first | (at_builtin; go_must (refine wpList_append_own _ rfl (.tmp 28) (.tmp 35) 22 rfl w.heap.size 5 i0 (.int .u8 0) 1 1 Try.underlying22 HI.out hz hs hb rfl (by decide) _ _ _ rfl (OWN.out.alloc _) ⟨wr.heap.size, 0, none⟩ 1 1 [.int .u8 (n / 72057594037927936)] rfl rfl (cell_one_new _ _ _) (by simp; rfl) (by unfold maxLen; omega) (by omega) (by simp only [World.size_alloc]; have := hbw.size; omega) ?_); intro v1 w2 hown2 hg2 _))
      go_roundw
      case rel => exact ⟨1, by omega, rfl, by simpa using hown2, (hbw.alloc hbw.size _).grown hg2 (by simp only [World.size_alloc]; have := hbw.size; omega) (fun k hk => (OWN.out.lt k hk).1)⟩
      case measure => simp [intOf]
    · skip
      go_wp2_with (first | (at_builtin; go_must (refine wpList_append_own _ rfl (.tmp 28) (.tmp 35) 22 rfl w.heap.size 5 i0 (.int .u8 0) 1 1 Try.underlying22 HI.out hz hs hb rfl (by decide) _ _ _ rfl (OWN.out.alloc _) ⟨wr.heap.size, 0, none⟩ 1 1 [.int .u8 ((n / 281474976710656) % 256)] rfl rfl (cell_one_new _ _ _) (by simp; rfl) (by unfold maxLen; omega) (by omega) (by simp only [World.size_alloc]; have := hbw.size; omega) ?_); intro v1 w2 hown2 hg2 _))
      go_roundw
      case rel => exact ⟨2, by omega, rfl, by simpa using hown2, (hbw.alloc hbw.size _).grown hg2 (by simp only [World.size_alloc]; have := hbw.size; omega) (fun k hk => (OWN.out.lt k hk).1)⟩
      case measure => simp [intOf]
    · skip
      go_wp2_with (first | (at_builtin; go_must (refine wpList_append_own _ rfl (.tmp 28) (.tmp 35) 22 rfl w.heap.size 5 i0 (.int .u8 0) 1 1 Try.underlying22 HI.out hz hs hb rfl (by decide) _ _ _ rfl (OWN.out.alloc _) ⟨wr.heap.size, 0, none⟩ 1 1 [.int .u8 ((n / 1099511627776) % 256)] rfl rfl (cell_one_new _ _ _) (by simp; rfl) (by unfold maxLen; omega) (by omega) (by simp only [World.size_alloc]; have := hbw.size; omega) ?_); intro v1 w2 hown2 hg2 _))
      go_roundw
      case rel => exact ⟨3, by omega, rfl, by simpa using hown2, (hbw.alloc hbw.size _).grown hg2 (by simp only [World.size_alloc]; have := hbw.size; omega) (fun k hk => (OWN.out.lt k hk).1)⟩
      case measure => simp [intOf]
    · skip
      go_wp2_with (first | (at_builtin; go_must (refine wpList_append_own _ rfl (.tmp 28) (.tmp 35) 22 rfl w.heap.size 5 i0 (.int .u8 0) 1 1 Try.underlying22 HI.out hz hs hb rfl (by decide) _ _ _ rfl (OWN.out.alloc _) ⟨wr.heap.size, 0, none⟩ 1 1 [.int .u8 ((n / 4294967296) % 256)] rfl rfl (cell_one_new _ _ _) (by simp; rfl) (by unfold maxLen; omega) (by omega) (by simp only [World.size_alloc]; have := hbw.size; omega) ?_); intro v1 w2 hown2 hg2 _))
      go_roundw
      case rel => exact ⟨4, by omega, rfl, by simpa using hown2, (hbw.alloc hbw.size _).grown hg2 (by simp only [World.size_alloc]; have := hbw.size; omega) (fun k hk => (OWN.out.lt k hk).1)⟩
      case measure => simp [intOf]
    · skip
      go_wp2_with (first | (at_builtin; go_must (refine wpList_append_own _ rfl (.tmp 28) (.tmp 35) 22 rfl w.heap.size 5 i0 (.int .u8 0) 1 1 Try.underlying22 HI.out hz hs hb rfl (by decide) _ _ _ rfl (OWN.out.alloc _) ⟨wr.heap.size, 0, none⟩ 1 1 [.int .u8 ((n / 16777216) % 256)] rfl rfl (cell_one_new _ _ _) (by simp; rfl) (by unfold maxLen; omega) (by omega) (by simp only [World.size_alloc]; have := hbw.size; omega) ?_); intro v1 w2 hown2 hg2 _))
      go_roundw
      case rel => exact ⟨5, by omega, rfl, by simpa using hown2, (hbw.alloc hbw.size _).grown hg2 (by simp only [World.size_alloc]; have := hbw.size; omega) (fun k hk => (OWN.out.lt k hk).1)⟩
      case measure => simp [intOf]
    · skip
      go_wp2_with (first | (at_builtin; go_must (refine wpList_append_own _ rfl (.tmp 28) (.tmp 35) 22 rfl w.heap.size 5 i0 (.int .u8 0) 1 1 Try.underlying22 HI.out hz hs hb rfl (by decide) _ _ _ rfl (OWN.out.alloc _) ⟨wr.heap.size, 0, none⟩ 1 1 [.int .u8 ((n / 65536) % 256)] rfl rfl (cell_one_new _ _ _) (by simp; rfl) (by unfold maxLen; omega) (by omega) (by simp only [World.size_alloc]; have := hbw.size; omega) ?_); intro v1 w2 hown2 hg2 _))
      go_roundw
      case rel => exact ⟨6, by omega, rfl, by simpa using hown2, (hbw.alloc hbw.size _).grown hg2 (by simp only [World.size_alloc]; have := hbw.size; omega) (fun k hk => (OWN.out.lt k hk).1)⟩
      case measure => simp [intOf]
    · skip
      go_wp2_with (first | (at_builtin; go_must (refine wpList_append_own _ rfl (.tmp 28) (.tmp 35) 22 rfl w.heap.size 5 i0 (.int .u8 0) 1 1 Try.underlying22 HI.out hz hs hb rfl (by decide) _ _ _ rfl (OWN.out.alloc _) ⟨wr.heap.size, 0, none⟩ 1 1 [.int .u8 ((n / 256) % 256)] rfl rfl (cell_one_new _ _ _) (by simp; rfl) (by unfold maxLen; omega) (by omega) (by simp only [World.size_alloc]; have := hbw.size; omega) ?_); intro v1 w2 hown2 hg2 _))
      go_roundw
      case rel => exact ⟨7, by omega, rfl, by simpa using hown2, (hbw.alloc hbw.size _).grown hg2 (by simp only [World.size_alloc]; have := hbw.size; omega) (fun k hk => (OWN.out.lt k hk).1)⟩
      case measure => simp [intOf]
    · skip
      go_wp2_with (first | (at_builtin; go_must (refine wpList_append_own _ rfl (.tmp 28) (.tmp 35) 22 rfl w.heap.size 5 i0 (.int .u8 0) 1 1 Try.underlying22 HI.out hz hs hb rfl (by decide) _ _ _ rfl (OWN.out.alloc _) ⟨wr.heap.size, 0, none⟩ 1 1 [.int .u8 (n % 256)] rfl rfl (cell_one_new _ _ _) (by simp; rfl) (by unfold maxLen; omega) (by omega) (by simp only [World.size_alloc]; have := hbw.size; omega) ?_); intro v1 w2 hown2 hg2 _))
      go_roundw
      case rel => exact ⟨8, by omega, rfl, by simpa using hown2, (hbw.alloc hbw.size _).grown hg2 (by simp only [World.size_alloc]; have := hbw.size; omega) (fun k hk => (OWN.out.lt k hk).1)⟩
      case measure => simp [intOf]
    · go_wp2_with fail
      go_ret
      exact ⟨_, rfl, by simpa using OWN.out, hbw⟩

end Go.Proofs.Ytcagcjkhjfbbpaa
