/- PutRune: both append the same bytes. -/
import Derived.Test.YtabinkejdfaojaaCRune
import Derived.Test.YtabinkejdfaojaaShelf
import Derived.Deep.AppendLies
import Derived.Lib.RuneBytes
namespace Go.Proofs.Ytabinkejdfaojaa
open Go.Deep Go.ChangeShapes Go.WideShapes Go.ChangeAt Go.RowKit
open Go.ChangeMaps (open_string shut_string)


theorem info_byte3 : (Try.prog.info? 5).map (fun i => (i.zero, i.size, i.bytes)) = some (some (.int .u8 0), 1, 1) := by kernel_rfl
set_option maxHeartbeats 1000000 in
theorem putRune_impl (zs : List Int) (a : Option Addr) (cap : Nat) (n : Int) (w : World) (hr : Rd w .u8 a zs) (hlen : zs.length ≤ 1048576) :
    Calls Try.prog 49 #[.slice a zs.length cap, .int .i64 n] w fun e w' => ∃ v, e = .returned v ∧ w'.ownsRow w.heap.size 5 1 v (zs ++ encZ n).length ((zs ++ encZ n).map (Value.int .u8)) ∧ Below w.heap.size w w' := by
  obtain ⟨i0, hi, hz, hs, hb⟩ := info_parts info_byte3
  have HI := Lib.hid hi; clear hi
  have HR := Lib.hid hr; clear hr
  have hm := World.ownsRow_made (base := w.heap.size) (e := 5) (size := 1) w #[] 0 (Nat.le_refl _) (by simp [maxLen]) rfl
  cases hok : runeOkB n with
  | false =>
    have he : encZ n = [] := by unfold encZ; rw [if_neg (by rw [hok]; simp)]
    rw [he, List.append_nil]; clear he
    go_enter Try.func49, Try.ntmps49
    go_wp2_with (first | (go_at_call 16; refine (runeOk_impl _ _).mono ?_; rintro e w' ⟨rfl, rfl⟩) | (at_builtin; go_must (refine wpList_append_rd _ rfl (.tmp 6) (.tmp 7) 38 rfl w.heap.size 5 i0 (.int .u8 0) 1 Try.underlying38 HI.out hz hs hb rfl _ _ _ rfl hm .u8 _ _ _ zs rfl rfl (rd_alloc HR.out _) (by unfold maxLen; omega) (by omega) (by simp) ?_); intro v' w1 hown hg))
    go_ret
    exact ⟨_, rfl, by simpa using hown, made_grown hg⟩
  | true =>
    have he : encZ n = Lib.encodeRuneZ n := by unfold encZ; rw [if_pos hok]
    rw [he]; clear he
    have hn0 : 0 ≤ n := (runeOkB_true.1 hok).1.1
    have hn1 : n ≤ 1114111 := (runeOkB_true.1 hok).1.2
    go_enter Try.func49, Try.ntmps49
    go_wp2_with (first | (go_at_call 53; fail) | (go_at_call 16; refine (runeOk_impl _ _).mono ?_; rintro e w' ⟨rfl, rfl⟩) | (at_builtin; go_must (refine wpList_append_rd _ rfl (.tmp 6) (.tmp 7) 38 rfl w.heap.size 5 i0 (.int .u8 0) 1 Try.underlying38 HI.out hz hs hb rfl _ _ _ rfl hm .u8 _ _ _ zs rfl rfl (rd_alloc HR.out _) (by unfold maxLen; omega) (by omega) (by simp) ?_); intro v' w1 hown hg))
    have HB := Lib.hid (made_grown hg)
    have HO := Lib.hid hown
    clear hg hown
    refine (Try.utf8_AppendRune_plain w.heap.size _ _ _ n (by omega) (by omega) _ HO.out (by omega) HB.out.size).mono ?_
    rintro e w2 ⟨v2, rfl, hown2, o, hg2⟩
    have hfin : w2.ownsRow w.heap.size 5 1 v2 (zs ++ Lib.encodeRuneZ n).length ((zs ++ Lib.encodeRuneZ n).map (Value.int .u8)) := by
      rw [List.map_append, List.length_append]
      simpa [Lib.runeCells] using hown2
    have HF := Lib.hid hfin; clear hfin hown2
    have hbl := (HB.out.alloc HB.out.size o).grown hg2 (by simp only [World.size_alloc]; have := HB.out.size; omega) (fun k hk => (HO.out.lt k hk).1)
    clear hg2
    go_wp2_with fail
    go_ret
    exact ⟨_, rfl, HF.out, hbl⟩

end Go.Proofs.Ytabinkejdfaojaa
