/- PutRune: both append the same bytes. -/
import Derived.Test.YtcagcjkhjfbbpaaDoorCRune
import Derived.Test.YtcagcjkhjfbbpaaDoorShelf
import Derived.Deep.AppendLies
import Derived.Lib.RuneBytes
namespace Go.Proofs.YtcagcjkhjfbbpaaDoor
open Go.Deep Go.ChangeShapes Go.WideShapes Go.ChangeAt Go.RowKit
open Go.ChangeMaps (open_string shut_string)


theorem info_byte3 : (Tryd.prog.info? 5).map (fun i => (i.zero, i.size, i.bytes)) = some (some (.int .u8 0), 1, 1) := by kernel_rfl
set_option maxHeartbeats 1000000 in
theorem putRune_impl (zs : List Int) (a : Option Addr) (cap : Nat) (n : Int) (w : World) (hr : Rd w .u8 a zs) (hlen : zs.length ≤ 4194304) :
    Calls Tryd.prog 8 #[.slice a zs.length cap, .int .i64 n] w fun e w' => ∃ v, e = .returned v ∧ w'.ownsRow w.heap.size 5 1 v (zs ++ encZ n).length ((zs ++ encZ n).map (Value.int .u8)) ∧ Below w.heap.size w w' := by
  obtain ⟨i0, hi, hz, hs, hb⟩ := info_parts info_byte3
  have HI := Lib.hid hi; clear hi
  have HR := Lib.hid hr; clear hr
  have hm := World.ownsRow_made (base := w.heap.size) (e := 5) (size := 1) w #[] 0 (Nat.le_refl _) (by simp [maxLen]) rfl
  cases hok : runeOkB n with
  | false =>
    have he : encZ n = [] := by unfold encZ; rw [if_neg (by rw [hok]; simp)]
    rw [he, List.append_nil]; clear he
    go_enter Tryd.func8, Tryd.ntmps8
    go_wp2_with (first | (go_at_call 14; refine (runeOk_impl _ _).mono ?_; rintro e w' ⟨rfl, rfl⟩) | (at_builtin; go_must (refine wpList_append_rd _ rfl (.tmp 6) (.tmp 7) 22 rfl w.heap.size 5 i0 (.int .u8 0) 1 Tryd.underlying22 HI.out hz hs hb rfl _ _ _ rfl hm .u8 _ _ _ zs rfl rfl (rd_alloc HR.out _) (by unfold maxLen; omega) (by omega) (by simp) ?_); intro v' w1 hown hg))
    go_ret
    exact ⟨_, rfl, by simpa using hown, made_grown hg⟩
  | true =>
    have he : encZ n = Lib.encodeRuneZ n := by unfold encZ; rw [if_pos hok]
    rw [he]; clear he
    have hn0 : 0 ≤ n := (runeOkB_true.1 hok).1.1
    have hn1 : n ≤ 1114111 := (runeOkB_true.1 hok).1.2
    go_enter Tryd.func8, Tryd.ntmps8
    go_wp2_with (first | (go_at_call 40; fail) | (go_at_call 14; refine (runeOk_impl _ _).mono ?_; rintro e w' ⟨rfl, rfl⟩) | (at_builtin; go_must (refine wpList_append_rd _ rfl (.tmp 6) (.tmp 7) 22 rfl w.heap.size 5 i0 (.int .u8 0) 1 Tryd.underlying22 HI.out hz hs hb rfl _ _ _ rfl hm .u8 _ _ _ zs rfl rfl (rd_alloc HR.out _) (by unfold maxLen; omega) (by omega) (by simp) ?_); intro v' w1 hown hg))
    have HB := Lib.hid (made_grown hg)
    have HO := Lib.hid hown
    clear hg hown
    refine (Tryd.utf8_AppendRune_plain w.heap.size _ _ _ n (by omega) (by omega) _ HO.out (by omega) HB.out.size).mono ?_
    rintro e w2 ⟨v2, rfl, hown2, o, hg2⟩
    have hfin : w2.ownsRow w.heap.size 5 1 v2 (zs ++ Lib.encodeRuneZ n).length ((zs ++ Lib.encodeRuneZ n).map (Value.int .u8)) := by
      rw [List.map_append, List.length_append]
      simpa [Lib.runeCells] using hown2
    have HF := Lib.hid hfin; clear hfin hown2
    have hbl := (HB.out.alloc HB.out.size o).grown hg2 (by simp only [World.size_alloc]; have := HB.out.size; omega) (fun k hk => (HO.out.lt k hk).1)
    clear hg2
    go_wp2_with fail
    go_ret
    exact ⟨_, rfl, HF.out, hbl⟩
set_option maxHeartbeats 2000000 in
theorem putRune_spec (zs : List Int) (a : Option Addr) (cap : Nat) (n : Int) (w : World) (hr : Rd w .u8 a zs) (hlen : zs.length ≤ 4194304) :
    Calls Tryd.prog 13 #[.slice a zs.length cap, .int .i64 n] w fun e w' => ∃ v, e = .returned v ∧ w'.ownsRow w.heap.size 5 1 v (zs ++ encZ n).length ((zs ++ encZ n).map (Value.int .u8)) ∧ Below w.heap.size w w' := by
  obtain ⟨i0, hi, hz, hs, hb⟩ := info_parts info_byte3
  have HI := Lib.hid hi; clear hi
  have HR := Lib.hid hr; clear hr
  have hm := World.ownsRow_made (base := w.heap.size) (e := 5) (size := 1) w #[] 0 (Nat.le_refl _) (by simp [maxLen]) rfl
  cases hok : runeOkB n with
  | false =>
    have he : encZ n = [] := by unfold encZ; rw [if_neg (by rw [hok]; simp)]
    have hw : wideF n = 0 := by rw [← encZ_len, he]; rfl
    rw [he, List.append_nil]; clear he
    go_enter Tryd.func13, Tryd.ntmps13
    go_wp2_with (first | (go_at_call 17; refine (wideOf_spec _ _).mono ?_; rintro e w' ⟨rfl, rfl⟩) | (at_builtin; go_must (refine wpList_append_rd _ rfl (.tmp 6) (.tmp 7) 22 rfl w.heap.size 5 i0 (.int .u8 0) 1 Tryd.underlying22 HI.out hz hs hb rfl _ _ _ rfl hm .u8 _ _ _ zs rfl rfl (rd_alloc HR.out _) (by unfold maxLen; omega) (by omega) (by simp) ?_); intro v' w1 hown hg))
    go_ret
    exact ⟨_, rfl, by simpa using hown, made_grown hg⟩
  | true =>
    have hn0 : 0 ≤ n := (runeOkB_true.1 hok).1.1
    have hn1 : n ≤ 1114111 := (runeOkB_true.1 hok).1.2
    have hsur := Lib.hid (runeOkB_true.1 hok).2
    by_cases c1 : n < 128

    · have he : encZ n = [n] := by unfold encZ; rw [if_pos hok, Lib.encodeRuneZ_one (by omega) (by omega)]
      have hw : wideF n = 1 := by rw [← encZ_len, he]; rfl
      rw [he]; clear he
      go_enter Tryd.func13, Tryd.ntmps13
      go_wp2_with (first | (go_at_call 17; fail) | (at_builtin; go_must (refine wpList_append_rd _ rfl (.tmp 6) (.tmp 7) 22 rfl w.heap.size 5 i0 (.int .u8 0) 1 Tryd.underlying22 HI.out hz hs hb rfl _ _ _ rfl hm .u8 _ _ _ zs rfl rfl (rd_alloc HR.out _) (by unfold maxLen; omega) (by omega) (by simp) ?_); intro v' w1 hown hg))
      refine (wideOf_spec _ _).mono ?_
      rintro _ _ ⟨rfl, rfl⟩
      rw [hw]
      have HB := Lib.hid (made_grown hg)
      have HO := Lib.hid hown
      clear hg hown hw
      go_wp2_with (first | (at_builtin; go_must (refine wpList_append_own _ rfl (.tmp 13) (.tmp 16) 22 rfl w.heap.size 5 i0 (.int .u8 0) 1 1 Tryd.underlying22 HI.out hz hs hb rfl (by decide) _ _ _ rfl (HO.out.alloc _) ⟨w1.heap.size, 0, none⟩ 1 1 [.int .u8 (n)] rfl rfl (by exact World.news_of_block (heap_alloc_new _ _)) (by simp; rfl) (by unfold maxLen; omega) (by omega) (by simp only [World.size_alloc]; have := HB.out.size; omega) ?_); intro v2 w2 hown2 hg2 q1; clear q1))
      go_ret
      have hfin : w2.ownsRow w.heap.size 5 1 v2 (zs ++ [n]).length ((zs ++ [n]).map (Value.int .u8)) := by simpa using hown2
      exact ⟨_, rfl, hfin, (HB.out.alloc HB.out.size _).grown hg2 (by simp only [World.size_alloc]; have := HB.out.size; omega) (fun k hk => (HO.out.lt k hk).1)⟩
    by_cases c2 : n < 2048

    · have he : encZ n = [192 + n / 64, 128 + n % 64] := by unfold encZ; rw [if_pos hok, Lib.encodeRuneZ_two (by omega) (by omega)]
      have hw : wideF n = 2 := by rw [← encZ_len, he]; rfl
      rw [he]; clear he
      go_enter Tryd.func13, Tryd.ntmps13
      go_wp2_with (first | (go_at_call 17; fail) | (at_builtin; go_must (refine wpList_append_rd _ rfl (.tmp 6) (.tmp 7) 22 rfl w.heap.size 5 i0 (.int .u8 0) 1 Tryd.underlying22 HI.out hz hs hb rfl _ _ _ rfl hm .u8 _ _ _ zs rfl rfl (rd_alloc HR.out _) (by unfold maxLen; omega) (by omega) (by simp) ?_); intro v' w1 hown hg))
      refine (wideOf_spec _ _).mono ?_
      rintro _ _ ⟨rfl, rfl⟩
      rw [hw]
      have HB := Lib.hid (made_grown hg)
      have HO := Lib.hid hown
      clear hg hown hw
      go_wp2_with (first | (at_builtin; go_must (refine wpList_append_own _ rfl (.tmp 20) (.tmp 29) 22 rfl w.heap.size 5 i0 (.int .u8 0) 1 1 Tryd.underlying22 HI.out hz hs hb rfl (by decide) _ _ _ rfl (HO.out.alloc _) ⟨w1.heap.size, 0, none⟩ 2 2 [.int .u8 (192 + n / 64), .int .u8 (128 + n % 64)] rfl rfl (by exact World.news_of_block (heap_alloc_new _ _)) (by simp; exact ⟨rfl, rfl⟩) (by unfold maxLen; omega) (by omega) (by simp only [World.size_alloc]; have := HB.out.size; omega) ?_); intro v2 w2 hown2 hg2 q1; clear q1))
      go_ret
      have hfin : w2.ownsRow w.heap.size 5 1 v2 (zs ++ [192 + n / 64, 128 + n % 64]).length ((zs ++ [192 + n / 64, 128 + n % 64]).map (Value.int .u8)) := by simpa using hown2
      exact ⟨_, rfl, hfin, (HB.out.alloc HB.out.size _).grown hg2 (by simp only [World.size_alloc]; have := HB.out.size; omega) (fun k hk => (HO.out.lt k hk).1)⟩
    by_cases c3 : n < 65536

    · have he : encZ n = [224 + n / 4096, 128 + n / 64 % 64, 128 + n % 64] := by unfold encZ; rw [if_pos hok, Lib.encodeRuneZ_three (by have := hsur.out; omega)]
      have hw : wideF n = 3 := by rw [← encZ_len, he]; rfl
      rw [he]; clear he
      go_enter Tryd.func13, Tryd.ntmps13
      go_wp2_with (first | (go_at_call 17; fail) | (at_builtin; go_must (refine wpList_append_rd _ rfl (.tmp 6) (.tmp 7) 22 rfl w.heap.size 5 i0 (.int .u8 0) 1 Tryd.underlying22 HI.out hz hs hb rfl _ _ _ rfl hm .u8 _ _ _ zs rfl rfl (rd_alloc HR.out _) (by unfold maxLen; omega) (by omega) (by simp) ?_); intro v' w1 hown hg))
      refine (wideOf_spec _ _).mono ?_
      rintro _ _ ⟨rfl, rfl⟩
      rw [hw]
      have HB := Lib.hid (made_grown hg)
      have HO := Lib.hid hown
      clear hg hown hw
      go_wp2_with (first | (at_builtin; go_must (refine wpList_append_own _ rfl (.tmp 33) (.tmp 47) 22 rfl w.heap.size 5 i0 (.int .u8 0) 1 1 Tryd.underlying22 HI.out hz hs hb rfl (by decide) _ _ _ rfl (HO.out.alloc _) ⟨w1.heap.size, 0, none⟩ 3 3 [.int .u8 (224 + n / 4096), .int .u8 (128 + n / 64 % 64), .int .u8 (128 + n % 64)] rfl rfl (by exact World.news_of_block (heap_alloc_new _ _)) (by simp; exact ⟨rfl, rfl, rfl⟩) (by unfold maxLen; omega) (by omega) (by simp only [World.size_alloc]; have := HB.out.size; omega) ?_); intro v2 w2 hown2 hg2 q1; clear q1))
      go_ret
      have hfin : w2.ownsRow w.heap.size 5 1 v2 (zs ++ [224 + n / 4096, 128 + n / 64 % 64, 128 + n % 64]).length ((zs ++ [224 + n / 4096, 128 + n / 64 % 64, 128 + n % 64]).map (Value.int .u8)) := by simpa using hown2
      exact ⟨_, rfl, hfin, (HB.out.alloc HB.out.size _).grown hg2 (by simp only [World.size_alloc]; have := HB.out.size; omega) (fun k hk => (HO.out.lt k hk).1)⟩

    · have he : encZ n = [240 + n / 262144, 128 + n / 4096 % 64, 128 + n / 64 % 64, 128 + n % 64] := by unfold encZ; rw [if_pos hok, Lib.encodeRuneZ_four (by omega) (by omega)]
      have hw : wideF n = 4 := by rw [← encZ_len, he]; rfl
      rw [he]; clear he
      go_enter Tryd.func13, Tryd.ntmps13
      go_wp2_with (first | (go_at_call 17; fail) | (at_builtin; go_must (refine wpList_append_rd _ rfl (.tmp 6) (.tmp 7) 22 rfl w.heap.size 5 i0 (.int .u8 0) 1 Tryd.underlying22 HI.out hz hs hb rfl _ _ _ rfl hm .u8 _ _ _ zs rfl rfl (rd_alloc HR.out _) (by unfold maxLen; omega) (by omega) (by simp) ?_); intro v' w1 hown hg))
      refine (wideOf_spec _ _).mono ?_
      rintro _ _ ⟨rfl, rfl⟩
      rw [hw]
      have HB := Lib.hid (made_grown hg)
      have HO := Lib.hid hown
      clear hg hown hw
      go_wp2_with (first | (at_builtin; go_must (refine wpList_append_own _ rfl (.tmp 51) (.tmp 70) 22 rfl w.heap.size 5 i0 (.int .u8 0) 1 1 Tryd.underlying22 HI.out hz hs hb rfl (by decide) _ _ _ rfl (HO.out.alloc _) ⟨w1.heap.size, 0, none⟩ 4 4 [.int .u8 (240 + n / 262144), .int .u8 (128 + n / 4096 % 64), .int .u8 (128 + n / 64 % 64), .int .u8 (128 + n % 64)] rfl rfl (by exact World.news_of_block (heap_alloc_new _ _)) (by simp; exact ⟨rfl, rfl, rfl, rfl⟩) (by unfold maxLen; omega) (by omega) (by simp only [World.size_alloc]; have := HB.out.size; omega) ?_); intro v2 w2 hown2 hg2 q1; clear q1))
      go_ret
      have hfin : w2.ownsRow w.heap.size 5 1 v2 (zs ++ [240 + n / 262144, 128 + n / 4096 % 64, 128 + n / 64 % 64, 128 + n % 64]).length ((zs ++ [240 + n / 262144, 128 + n / 4096 % 64, 128 + n / 64 % 64, 128 + n % 64]).map (Value.int .u8)) := by simpa using hown2
      exact ⟨_, rfl, hfin, (HB.out.alloc HB.out.size _).grown hg2 (by simp only [World.size_alloc]; have := HB.out.size; omega) (fun k hk => (HO.out.lt k hk).1)⟩


end Go.Proofs.YtcagcjkhjfbbpaaDoor
