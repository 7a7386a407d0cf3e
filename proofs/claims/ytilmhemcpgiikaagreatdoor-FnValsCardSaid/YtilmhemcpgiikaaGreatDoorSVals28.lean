/- Vals: texts of the proof (DName CPutRune). -/
import Derived.Test.YtilmhemcpgiikaaGreatDoorSVals21
import Derived.Test.YtilmhemcpgiikaaGreatDoorSVals23
import Derived.Test.YtilmhemcpgiikaaGreatDoorSVals27
import Derived.Test.YtilmhemcpgiikaaGreatDoorSVals12
import Derived.Test.YtilmhemcpgiikaaGreatDoorSVals17
import Derived.Test.YtilmhemcpgiikaaGreatDoorShelf
import Derived.Deep.AppendLies
import Derived.Lib.RuneBytes
/- What makes a value of a number, and the draw of a name. -/
namespace Go.Proofs.YtilmhemcpgiikaaGreatDoor
open Go.Deep Go.ChangeShapes Go.WideShapes Go.ChangeAt Go.RowKit
open Go.ChangeMaps (open_string shut_string)

theorem fltVal_c (m e : Int) (w : World) : Calls Tryz.prog 62 #[.agg #[.int .i64 m, .int .i64 e]] w fun en w' => en = .returned (.agg #[.int .i64 4, .int .i64 m, .int .i64 e, .string { data := #[] }, .slice none 0 0]) ∧ Below w.heap.size w w' := by
  go_enter Tryz.func62, Tryz.ntmps62
  go_wp2_with fail
  exact bodyPost_ret (v := .agg #[.int .i64 4, .int .i64 m, .int .i64 e, .string { data := #[] }, .slice none 0 0]) (by simp [results, Tryz.results62, go_sem]) rfl ⟨rfl, (by first | exact vbelow1 _ _ | exact vbelow2 _ _ _ | exact below3 _ _ _ _ | exact below4 _ _ _ _ _)⟩
/-- The tree of a decimal number. -/
def numT (n x : Int) : Tree := if x = 0 then .mk 3 n 0 { data := #[] } [] else .mk 6 n x { data := #[] } []
theorem numT_ok {n x : Int} (h : decOkB n x = true) : (numT n x).ok = true := by
  unfold numT
  have := decOkB_iff.1 h
  split
  · exact ok_int (by omega)
  · exact ok_dec h (by omega)
theorem numVal_s (n x : Int) (w : World) : Calls Tryz.prog 30 #[.agg #[.int .i64 n, .int .i64 x]] w fun en w' => en = .returned (.agg #[.int .i64 (numT n x).kind, .int .i64 (numT n x).n, .int .i64 (numT n x).x, .string (numT n x).s, .slice none 0 0]) ∧ Below w.heap.size w w' := by
  by_cases hx : x = 0
  · subst hx
    go_enter Tryz.func30, Tryz.ntmps30
    go_wp2_with fail
    refine (spec_IntVal n _).mono ?_
    rintro _ w1 ⟨rfl, b1⟩
    have b2 := nx (below2 w _ _) b1
    obtain ⟨r0, r1, r2, r3, r4, rf⟩ := five_kept b1 (second_block2 w _ _)
    have rf0 := rf 0; have rf1 := rf 1; have rf2 := rf 2; have rf3 := rf 3; have rf4 := rf 4; clear rf
    have hsz := b1.size
    simp only [World.size_alloc] at hsz
    have BB := Lib.hid b2; clear b1 b2
    go_wp2_with fail
    refine bodyPost_ret (v := .agg #[.int .i64 3, .int .i64 n, .int .i64 0, .string { data := #[] }, .slice none 0 0]) (by simp [results, Tryz.results30, go_sem, r0, r1, r2, r3, r4]) rfl ⟨by simp [numT], ?_⟩
    iterate 5 refine Below.setCell ?_ (by dsimp only; omega) _
    exact BB.out
  · have hb : (x == 0) = false := by simpa using hx
    go_enter Tryz.func30, Tryz.ntmps30
    go_wp2_with fail
    exact bodyPost_ret (v := .agg #[.int .i64 6, .int .i64 n, .int .i64 x, .string { data := #[] }, .slice none 0 0]) (by simp [results, Tryz.results30, go_sem]) rfl ⟨by simp [numT, hx], (by first | exact vbelow1 _ _ | exact vbelow2 _ _ _ | exact below3 _ _ _ _ | exact below4 _ _ _ _ _)⟩
/-- A name: a small number or a short text. -/
def NmD (t : Tree) : Prop := (∃ n : Int, (0 ≤ n ∧ n ≤ 9) ∧ t = .mk 3 n 0 { data := #[] } []) ∨ ∃ s : ByteArray, (s.size ≤ 10 ∧ Lib.validD s.data.toList = true) ∧ t = .mk 7 0 0 s []
theorem NmD.ok {t : Tree} (h : NmD t) : t.ok = true := by
  rcases h with ⟨n, h, rfl⟩ | ⟨s, h, rfl⟩
  · exact ok_int (by omega)
  · exact ok_text h.2
theorem NmD.fits {t : Tree} (h : NmD t) : Fits t.kind t.n t.x t.s := by
  rcases h with ⟨n, h, rfl⟩ | ⟨s, h, rfl⟩
  · exact ⟨⟨by show _ ≤ (3 : Int); decide, by show (3 : Int) ≤ _; decide⟩, ⟨by show _ ≤ n; omega, by show n ≤ _; omega⟩, ⟨by show _ ≤ (0 : Int); decide, by show (0 : Int) ≤ _; decide⟩, by show (0 : Nat) ≤ _; decide⟩
  · exact ⟨⟨by show _ ≤ (7 : Int); decide, by show (7 : Int) ≤ _; decide⟩, ⟨by show _ ≤ (0 : Int); decide, by show (0 : Int) ≤ _; decide⟩, ⟨by show _ ≤ (0 : Int); decide, by show (0 : Int) ≤ _; decide⟩, by show s.size ≤ _; omega⟩
theorem NmD.cost {t : Tree} (h : NmD t) : t.cost ≤ 10 ∧ t.l = [] := by
  rcases h with ⟨n, h, rfl⟩ | ⟨s, h, rfl⟩
  · exact ⟨by rw [Tree.cost_eq]; simp [costL, ByteArray.size], rfl⟩
  · exact ⟨by rw [Tree.cost_eq]; show s.size + costL [] ≤ 10; simp [costL]; omega, rfl⟩
set_option maxRecDepth 100000 in
set_option maxHeartbeats 8000000 in
theorem l6Name_c (P : Nat) (w : World) (hC : Cur w P) :
    Calls Tryz.prog 66 #[.pointer (some ⟨P, 0, none⟩)] w fun e w' => ∃ t : Tree, e = .returned (.agg #[.int .i64 t.kind, .int .i64 t.n, .int .i64 t.x, .string t.s, .slice none 0 0]) ∧ NmD t ∧ Cur w' P ∧ w.grownBy w' (some P) := by
  have HC := Lib.hid hC; clear hC
  have HP := Lib.hid HC.out.lt
  have LER := Lib.hid (Nat.le_refl w.heap.size)
  go_enter Tryz.func66, Tryz.ntmps66
  go_wp2_with fail
  refine (l1Once_c P 6 _ (by exact (Cur.alloc HC.out _)) (by omega)).mono ?_
  rintro _ w1 ⟨q, rfl, C', G'⟩
  have C1 := Lib.hid C'; clear C'
  have XR1 : Hid (w1.heap[w.heap.size]? = some (.cells #[.int .i64 0, .int .i64 0, .int .i64 0, .string { data := #[] }, .slice none 0 0] 26 (0, 0))) := Lib.hid (box_gr (heap_alloc_new _ _) G' (by have h1 := HP.out; have h2 := LER.out; omega))
  have G1 := Lib.hid (gr_trans (gr_alloc (gr_refl (w := w) (P := P)) _) G'); clear G'
  cases q with
  | true =>
    go_wp2_with fail
    refine (l1Below_c P 4 _ (by exact C1.out) (by omega)).mono ?_
    rintro _ w2 ⟨n, rfl, n0, n1, -, -, C', G'⟩
    have C2 := Lib.hid C'; clear C'
    have XR2 : Hid (w2.heap[w.heap.size]? = some (.cells #[.int .i64 0, .int .i64 0, .int .i64 0, .string { data := #[] }, .slice none 0 0] 26 (0, 0))) := Lib.hid (box_gr XR1.out G' (by have h1 := HP.out; have h2 := LER.out; omega))
    have G2 := Lib.hid (gr_trans G1.out G'); clear G'
    replace n1 := n1 (by omega)
    go_wp2_with fail
    refine (spec_IntVal n _).mono ?_
    rintro _ w3 ⟨rfl, b'⟩
    have C3 := Lib.hid (Cur.below C2.out b')
    have XR3 : Hid (w3.heap[w.heap.size]? = some (.cells #[.int .i64 0, .int .i64 0, .int .i64 0, .string { data := #[] }, .slice none 0 0] 26 (0, 0))) := Lib.hid (box_below XR2.out b')
    have G3 := Lib.hid (gr_on G2.out b'); clear b'
    have Rl := box_lt XR3.out
    obtain ⟨R0, R1, R2, R3, R4, Rf0, Rf1, Rf2, Rf3, Rf4⟩ := five_open XR3.out
    go_wp2_with fail
    refine bodyPost_ret (v := .agg #[.int .i64 3, .int .i64 n, .int .i64 0, .string { data := #[] }, .slice none 0 0]) (by simp [results, Tryz.results66, go_sem, R0, R1, R2, R3, R4]) rfl ⟨.mk 3 n 0 { data := #[] } [], rfl, .inl ⟨n, by omega, rfl⟩, ?_, ?_⟩
    · repeat (first | with_reducible exact C3.out | with_reducible refine Cur.set ?_ _ (by have h1 := HP.out; have eR := LER.out; omega) | with_reducible refine Cur.alloc ?_ _ | with_reducible refine cur_drew ?_)
    · repeat (first | with_reducible exact G3.out | with_reducible refine gr_sets ?_ _ (by have eR := LER.out; omega) | with_reducible refine gr_alloc ?_ _ | with_reducible refine gr_drew ?_)
  | false =>
    go_wp2_with fail
    refine (l1Str_c P [⟨#[97]⟩, ⟨#[98]⟩, ⟨#[99]⟩, ⟨#[]⟩, ⟨#[107, 101, 121]⟩, ⟨#[195, 169]⟩] w1.heap.size 6 _ (by exact (Cur.alloc C1.out _)) (rs_laid w1 _ _) (Nat.ne_of_gt (Cur.lt C1.out)) (by simp) (by simp) (by simp)).mono ?_
    rintro _ w2 ⟨S, rfl, hS', C', G'⟩
    have HS := Lib.hid hS'; clear hS'
    have C2 := Lib.hid C'; clear C'
    have XR2 : Hid (w2.heap[w.heap.size]? = some (.cells #[.int .i64 0, .int .i64 0, .int .i64 0, .string { data := #[] }, .slice none 0 0] 26 (0, 0))) := Lib.hid (box_gr (box_alloc XR1.out _) G' (by have h1 := HP.out; have h2 := LER.out; omega))
    have G2 := Lib.hid (gr_trans (gr_alloc G1.out _) G'); clear G'
    have hs : S.size ≤ 10 ∧ Lib.validD S.data.toList = true := by have h := HS.out; simp at h; rcases h with rfl | rfl | rfl | rfl | rfl | rfl <;> exact ⟨by decide, by decide⟩
    have HS2 := Lib.hid hs; clear hs HS
    go_wp2_with fail
    refine (spec_TextVal S _).mono ?_
    rintro _ w3 ⟨rfl, b'⟩
    have C3 := Lib.hid (Cur.below C2.out b')
    have XR3 : Hid (w3.heap[w.heap.size]? = some (.cells #[.int .i64 0, .int .i64 0, .int .i64 0, .string { data := #[] }, .slice none 0 0] 26 (0, 0))) := Lib.hid (box_below XR2.out b')
    have G3 := Lib.hid (gr_on G2.out b'); clear b'
    have Rl := box_lt XR3.out
    obtain ⟨R0, R1, R2, R3, R4, Rf0, Rf1, Rf2, Rf3, Rf4⟩ := five_open XR3.out
    go_wp2_with fail
    refine bodyPost_ret (v := .agg #[.int .i64 7, .int .i64 0, .int .i64 0, .string S, .slice none 0 0]) (by simp [results, Tryz.results66, go_sem, R0, R1, R2, R3, R4]) rfl ⟨.mk 7 0 0 S [], rfl, .inr ⟨S, HS2.out, rfl⟩, ?_, ?_⟩
    · repeat (first | with_reducible exact C3.out | with_reducible refine Cur.set ?_ _ (by have h1 := HP.out; have eR := LER.out; omega) | with_reducible refine Cur.alloc ?_ _ | with_reducible refine cur_drew ?_)
    · repeat (first | with_reducible exact G3.out | with_reducible refine gr_sets ?_ _ (by have eR := LER.out; omega) | with_reducible refine gr_alloc ?_ _ | with_reducible refine gr_drew ?_)
end Go.Proofs.YtilmhemcpgiikaaGreatDoor
/- PutRune: both append the same bytes. -/
namespace Go.Proofs.YtilmhemcpgiikaaGreatDoor
open Go.Deep Go.ChangeShapes Go.WideShapes Go.ChangeAt Go.RowKit
open Go.ChangeMaps (open_string shut_string)


theorem info_byte3 : (Tryz.prog.info? 5).map (fun i => (i.zero, i.size, i.bytes)) = some (some (.int .u8 0), 1, 1) := by kernel_rfl
set_option maxHeartbeats 2000000 in
theorem putRune_spec (zs : List Int) (a : Option Addr) (cap : Nat) (n : Int) (w : World) (hr : Rd w .u8 a zs) (hlen : zs.length ≤ 4194304) :
    Calls Tryz.prog 88 #[.slice a zs.length cap, .int .i64 n] w fun e w' => ∃ v, e = .returned v ∧ w'.ownsRow w.heap.size 5 1 v (zs ++ encZ n).length ((zs ++ encZ n).map (Value.int .u8)) ∧ Below w.heap.size w w' := by
  obtain ⟨i0, hi, hz, hs, hb⟩ := info_parts info_byte3
  have HI := Lib.hid hi; clear hi
  have HR := Lib.hid hr; clear hr
  have hm := World.ownsRow_made (base := w.heap.size) (e := 5) (size := 1) w #[] 0 (Nat.le_refl _) (by simp [maxLen]) rfl
  cases hok : runeOkB n with
  | false =>
    have he : encZ n = [] := by unfold encZ; rw [if_neg (by rw [hok]; simp)]
    have hw : wideF n = 0 := by rw [← encZ_len, he]; rfl
    rw [he, List.append_nil]; clear he
    go_enter Tryz.func88, Tryz.ntmps88
    go_wp2_with (first | (go_at_call 85; refine (wideOf_spec _ _).mono ?_; rintro e w' ⟨rfl, rfl⟩) | (at_builtin; go_must (refine wpList_append_rd _ rfl (.tmp 6) (.tmp 7) 22 rfl w.heap.size 5 i0 (.int .u8 0) 1 Tryz.underlying22 HI.out hz hs hb rfl _ _ _ rfl hm .u8 _ _ _ zs rfl rfl (rd_alloc HR.out _) (by unfold maxLen; omega) (by omega) (by simp) ?_); intro v' w1 hown hg))
    go_ret
    exact ⟨_, rfl, by simpa using hown, made_grown hg⟩
  | true =>
    have hn0 : 0 ≤ n := (runeOkB_true.1 hok).1.1
    have hn1 : n ≤ 1114111 := (runeOkB_true.1 hok).1.2
    have hsur := Lib.hid (runeOkB_true.1 hok).2
    by_cases c1 : n < 128

    · have he : encZ n = [n] := by unfold encZ; rw [if_pos hok, Lib.encodeRuneZ_one (by omega) (by omega)]
      have hw : wideF n = 1 := by rw [← encZ_len, he]; rfl
      rw [he]; clear he
      go_enter Tryz.func88, Tryz.ntmps88
      go_wp2_with (first | (go_at_call 85; fail) | (at_builtin; go_must (refine wpList_append_rd _ rfl (.tmp 6) (.tmp 7) 22 rfl w.heap.size 5 i0 (.int .u8 0) 1 Tryz.underlying22 HI.out hz hs hb rfl _ _ _ rfl hm .u8 _ _ _ zs rfl rfl (rd_alloc HR.out _) (by unfold maxLen; omega) (by omega) (by simp) ?_); intro v' w1 hown hg))
      refine (wideOf_spec _ _).mono ?_
      rintro _ _ ⟨rfl, rfl⟩
      rw [hw]
      have HB := Lib.hid (made_grown hg)
      have HO := Lib.hid hown
      clear hg hown hw
      go_wp2_with (first | (at_builtin; go_must (refine wpList_append_own _ rfl (.tmp 13) (.tmp 16) 22 rfl w.heap.size 5 i0 (.int .u8 0) 1 1 Tryz.underlying22 HI.out hz hs hb rfl (by decide) _ _ _ rfl (HO.out.alloc _) ⟨w1.heap.size, 0, none⟩ 1 1 [.int .u8 (n)] rfl rfl (by exact World.news_of_block (heap_alloc_new _ _)) (by simp; rfl) (by unfold maxLen; omega) (by omega) (by simp only [World.size_alloc]; have := HB.out.size; omega) ?_); intro v2 w2 hown2 hg2 q1; clear q1))
      go_ret
      have hfin : w2.ownsRow w.heap.size 5 1 v2 (zs ++ [n]).length ((zs ++ [n]).map (Value.int .u8)) := by simpa using hown2
      exact ⟨_, rfl, hfin, (HB.out.alloc HB.out.size _).grown hg2 (by simp only [World.size_alloc]; have := HB.out.size; omega) (fun k hk => (HO.out.lt k hk).1)⟩
    by_cases c2 : n < 2048

    · have he : encZ n = [192 + n / 64, 128 + n % 64] := by unfold encZ; rw [if_pos hok, Lib.encodeRuneZ_two (by omega) (by omega)]
      have hw : wideF n = 2 := by rw [← encZ_len, he]; rfl
      rw [he]; clear he
      go_enter Tryz.func88, Tryz.ntmps88
      go_wp2_with (first | (go_at_call 85; fail) | (at_builtin; go_must (refine wpList_append_rd _ rfl (.tmp 6) (.tmp 7) 22 rfl w.heap.size 5 i0 (.int .u8 0) 1 Tryz.underlying22 HI.out hz hs hb rfl _ _ _ rfl hm .u8 _ _ _ zs rfl rfl (rd_alloc HR.out _) (by unfold maxLen; omega) (by omega) (by simp) ?_); intro v' w1 hown hg))
      refine (wideOf_spec _ _).mono ?_
      rintro _ _ ⟨rfl, rfl⟩
      rw [hw]
      have HB := Lib.hid (made_grown hg)
      have HO := Lib.hid hown
      clear hg hown hw
      go_wp2_with (first | (at_builtin; go_must (refine wpList_append_own _ rfl (.tmp 20) (.tmp 29) 22 rfl w.heap.size 5 i0 (.int .u8 0) 1 1 Tryz.underlying22 HI.out hz hs hb rfl (by decide) _ _ _ rfl (HO.out.alloc _) ⟨w1.heap.size, 0, none⟩ 2 2 [.int .u8 (192 + n / 64), .int .u8 (128 + n % 64)] rfl rfl (by exact World.news_of_block (heap_alloc_new _ _)) (by simp; exact ⟨rfl, rfl⟩) (by unfold maxLen; omega) (by omega) (by simp only [World.size_alloc]; have := HB.out.size; omega) ?_); intro v2 w2 hown2 hg2 q1; clear q1))
      go_ret
      have hfin : w2.ownsRow w.heap.size 5 1 v2 (zs ++ [192 + n / 64, 128 + n % 64]).length ((zs ++ [192 + n / 64, 128 + n % 64]).map (Value.int .u8)) := by simpa using hown2
      exact ⟨_, rfl, hfin, (HB.out.alloc HB.out.size _).grown hg2 (by simp only [World.size_alloc]; have := HB.out.size; omega) (fun k hk => (HO.out.lt k hk).1)⟩
    by_cases c3 : n < 65536

    · have he : encZ n = [224 + n / 4096, 128 + n / 64 % 64, 128 + n % 64] := by unfold encZ; rw [if_pos hok, Lib.encodeRuneZ_three (by have := hsur.out; omega)]
      have hw : wideF n = 3 := by rw [← encZ_len, he]; rfl
      rw [he]; clear he
      go_enter Tryz.func88, Tryz.ntmps88
      go_wp2_with (first | (go_at_call 85; fail) | (at_builtin; go_must (refine wpList_append_rd _ rfl (.tmp 6) (.tmp 7) 22 rfl w.heap.size 5 i0 (.int .u8 0) 1 Tryz.underlying22 HI.out hz hs hb rfl _ _ _ rfl hm .u8 _ _ _ zs rfl rfl (rd_alloc HR.out _) (by unfold maxLen; omega) (by omega) (by simp) ?_); intro v' w1 hown hg))
      refine (wideOf_spec _ _).mono ?_
      rintro _ _ ⟨rfl, rfl⟩
      rw [hw]
      have HB := Lib.hid (made_grown hg)
      have HO := Lib.hid hown
      clear hg hown hw
      go_wp2_with (first | (at_builtin; go_must (refine wpList_append_own _ rfl (.tmp 33) (.tmp 47) 22 rfl w.heap.size 5 i0 (.int .u8 0) 1 1 Tryz.underlying22 HI.out hz hs hb rfl (by decide) _ _ _ rfl (HO.out.alloc _) ⟨w1.heap.size, 0, none⟩ 3 3 [.int .u8 (224 + n / 4096), .int .u8 (128 + n / 64 % 64), .int .u8 (128 + n % 64)] rfl rfl (by exact World.news_of_block (heap_alloc_new _ _)) (by simp; exact ⟨rfl, rfl, rfl⟩) (by unfold maxLen; omega) (by omega) (by simp only [World.size_alloc]; have := HB.out.size; omega) ?_); intro v2 w2 hown2 hg2 q1; clear q1))
      go_ret
      have hfin : w2.ownsRow w.heap.size 5 1 v2 (zs ++ [224 + n / 4096, 128 + n / 64 % 64, 128 + n % 64]).length ((zs ++ [224 + n / 4096, 128 + n / 64 % 64, 128 + n % 64]).map (Value.int .u8)) := by simpa using hown2
      exact ⟨_, rfl, hfin, (HB.out.alloc HB.out.size _).grown hg2 (by simp only [World.size_alloc]; have := HB.out.size; omega) (fun k hk => (HO.out.lt k hk).1)⟩

    · have he : encZ n = [240 + n / 262144, 128 + n / 4096 % 64, 128 + n / 64 % 64, 128 + n % 64] := by unfold encZ; rw [if_pos hok, Lib.encodeRuneZ_four (by omega) (by omega)]
      have hw : wideF n = 4 := by rw [← encZ_len, he]; rfl
      rw [he]; clear he
      go_enter Tryz.func88, Tryz.ntmps88
      go_wp2_with (first | (go_at_call 85; fail) | (at_builtin; go_must (refine wpList_append_rd _ rfl (.tmp 6) (.tmp 7) 22 rfl w.heap.size 5 i0 (.int .u8 0) 1 Tryz.underlying22 HI.out hz hs hb rfl _ _ _ rfl hm .u8 _ _ _ zs rfl rfl (rd_alloc HR.out _) (by unfold maxLen; omega) (by omega) (by simp) ?_); intro v' w1 hown hg))
      refine (wideOf_spec _ _).mono ?_
      rintro _ _ ⟨rfl, rfl⟩
      rw [hw]
      have HB := Lib.hid (made_grown hg)
      have HO := Lib.hid hown
      clear hg hown hw
      go_wp2_with (first | (at_builtin; go_must (refine wpList_append_own _ rfl (.tmp 51) (.tmp 70) 22 rfl w.heap.size 5 i0 (.int .u8 0) 1 1 Tryz.underlying22 HI.out hz hs hb rfl (by decide) _ _ _ rfl (HO.out.alloc _) ⟨w1.heap.size, 0, none⟩ 4 4 [.int .u8 (240 + n / 262144), .int .u8 (128 + n / 4096 % 64), .int .u8 (128 + n / 64 % 64), .int .u8 (128 + n % 64)] rfl rfl (by exact World.news_of_block (heap_alloc_new _ _)) (by simp; exact ⟨rfl, rfl, rfl, rfl⟩) (by unfold maxLen; omega) (by omega) (by simp only [World.size_alloc]; have := HB.out.size; omega) ?_); intro v2 w2 hown2 hg2 q1; clear q1))
      go_ret
      have hfin : w2.ownsRow w.heap.size 5 1 v2 (zs ++ [240 + n / 262144, 128 + n / 4096 % 64, 128 + n / 64 % 64, 128 + n % 64]).length ((zs ++ [240 + n / 262144, 128 + n / 4096 % 64, 128 + n / 64 % 64, 128 + n % 64]).map (Value.int .u8)) := by simpa using hown2
      exact ⟨_, rfl, hfin, (HB.out.alloc HB.out.size _).grown hg2 (by simp only [World.size_alloc]; have := HB.out.size; omega) (fun k hk => (HO.out.lt k hk).1)⟩


end Go.Proofs.YtilmhemcpgiikaaGreatDoor
