/- RunesOf: both give the same characters. -/
import Derived.Test.YtcagcjkhjfbbpaaDoorCTextOk
import Derived.Test.YtcagcjkhjfbbpaaDoorBLaw
import Derived.Lib.OthersKept
namespace Go.Proofs.YtcagcjkhjfbbpaaDoor
open Go.Deep Go.ChangeShapes Go.WideShapes Go.ChangeAt Go.RowKit
open Go.ChangeMaps (open_string shut_string)

/-- The characters of a text that is valid; none of another. -/
def runesF (l : List UInt8) : List Int := if Lib.validD l = true then runesD l else []
theorem info_int : (Tryd.prog.info? 3).map (fun i => (i.zero, i.size, i.bytes)) = some (some (.int .i64 0), 1, 8) := by kernel_rfl

set_option maxRecDepth 100000 in
set_option maxHeartbeats 4000000 in
theorem runesOf_spec (s : ByteArray) (w : World) (hlen : s.size ≤ 1048576) :
    Calls Tryd.prog 23 #[.string s] w fun e w' => ∃ v, e = .returned v ∧ w'.ownsRow w.heap.size 3 1 v (runesF s.data.toList).length ((runesF s.data.toList).map (Value.int .i64)) ∧ Below w.heap.size w w' := by
  obtain ⟨i0, hi, hz, hs, hb⟩ := info_parts info_int
  have HI := Lib.hid hi; clear hi
  have HM := Lib.hid (World.ownsRow_made (base := w.heap.size) (e := 3) (size := 1) w #[] 0 (Nat.le_refl _) (by simp [maxLen]) rfl)
  have HT := Lib.hid (fun w1 => textOk_spec s w1 hlen)
  have HCV := Lib.hid (fun w1 => conv_bytes (P := Tryd.prog) w1 9 22 5 s Tryd.underlying9 Tryd.underlying22 Tryd.underlying5)
  obtain ⟨l, hl⟩ : ∃ l, l = s.data.toList := ⟨_, rfl⟩
  obtain ⟨L, hL⟩ : ∃ L, L = s.size := ⟨_, rfl⟩
  have hLl : L = l.length := by rw [hL, hl]; simp
  rw [← hl] at HT HCV ⊢
  rw [← hL] at HCV hlen
  have HL := Lib.hid hLl
  clear hl hL hLl
  cases hv : Lib.validD l with
  | false =>
    have hf : runesF l = [] := by unfold runesF; rw [if_neg (by rw [hv]; simp)]
    rw [hf]
    rw [hv] at HT
    clear hf HCV hv
    go_enter Tryd.func23, Tryd.ntmps23
    go_wp2_with fail
    refine (HT.out _).mono ?_
    rintro _ w1 ⟨rfl, b1⟩
    go_wp2_with fail
    go_ret
    exact ⟨_, rfl, own_kept b1 (by simpa using HM.out), nx (below1 _ _) b1⟩
  | true =>
    have hf : runesF l = runesD l := by unfold runesF; rw [if_pos hv]
    rw [hf]
    rw [hv] at HT
    have HV0 := Lib.hid hv
    clear hf hv
    have HRL := Lib.hid (runesD_len l)
    go_enter Tryd.func23, Tryd.ntmps23
    go_wp2_with fail
    refine (HT.out _).mono ?_
    rintro _ w1 ⟨rfl, b1⟩
    obtain ⟨c, W1, hcv, hrd, hb2, hlt2⟩ := HCV.out w1
    have t1 := nx (below1 _ _) b1
    have t2 := nx t1 hb2
    have hM0 : W1.ownsRow w.heap.size 3 1 (.slice (some ⟨w.heap.size, 0, none⟩) 0 0) 0 [] := own_kept hb2 (own_kept b1 HM.out)
    have HS := Lib.hid (fun p w2 (hr : Rd w2 .u8 (some ⟨w1.heap.size, 0, none⟩) (bz l)) => by
      have := getRune_spec (bz l) (some ⟨w1.heap.size, 0, none⟩) c p w2 hr (bz_byte l) (by rw [bz_length]; have := HL.out; omega)
      rwa [bz_length, ← HL.out] at this)
    have hlt1 : w.heap.size < w1.heap.size := by have := b1.size; simp only [World.size_alloc] at this; omega
    have HT2 := Lib.hid t2
    have HRD := Lib.hid hrd
    have HM2 := Lib.hid hM0
    clear hrd HM b1 hb2 t1 t2 HT HCV hM0
    go_wp2_with fail
    clear hcv
    go_loopw [3, 5, 6, 7, 8] (fun v a _ _ _ wr => ∃ (j : Nat) (acc : List Int), j ≤ L ∧ a = .int .i64 j ∧ wr.ownsRow w.heap.size 3 1 v acc.length (acc.map (Value.int .i64)) ∧ Hid (acc ++ runesD (l.drop j) = runesD l) ∧ Hid (Lib.validD (l.drop j) = true) ∧ w1.heap.size < wr.heap.size ∧ Hid (Rd wr .u8 (some ⟨w1.heap.size, 0, none⟩) (bz l) ∧ v.ownBlock ≠ some w1.heap.size ∧ Below w.heap.size w wr)) (fun _ a _ _ _ _ => L - (intOf a).toNat)
    case atStart => exact ⟨0, [], by omega, rfl, by simpa using HM2.out, Lib.hid (by simp), Lib.hid (by simpa using HV0.out), hlt2, Lib.hid ⟨HRD.out, by simp [Value.ownBlock]; omega, HT2.out⟩⟩
    case round =>
      obtain ⟨j, acc, hj, rfl, hown, HA, HV, hsz, HBB⟩ := hrel
      obtain ⟨a2, cap2, rfl, -, r2, -, -⟩ := own_rd hown
      have OWN := Lib.hid hown; clear hown r2
      have hal : acc.length ≤ 1048576 := by
        have h1 := congrArg List.length HA.out
        rw [List.length_append] at h1
        have := HRL.out; have := HL.out; omega
      by_cases hjl : j < L
      · have hsj := HS.out j
        have hva := valid_at l j (by have := HL.out; omega)
        have hnx := next_bd l j (by have := HL.out; omega)
        obtain ⟨R, hR⟩ : ∃ R, getV (bz l) j = R := ⟨_, rfl⟩
        rw [hR] at hsj hva hnx
        clear hR
        obtain ⟨R1, R2, R3⟩ := R
        simp only at hsj hva hnx
        rw [HV.out] at hva
        cases R3 with
        | false => simp at hva
        | true =>
          obtain ⟨q, rfl, hq1, hq2, hq3⟩ := hnx rfl
          have hvq : Lib.validD (l.drop q) = true := by simpa using hva.symm
          have hal1 : (acc ++ [R1]) ++ runesD (l.drop q) = runesD l := by rw [← HA.out, hq3]; simp
          have hqL : q ≤ L := by have := HL.out; omega
          have HSJ := Lib.hid (hsj wr HBB.out.1); have HVQ := Lib.hid hvq; have HAL := Lib.hid hal1
          have hbsz := HBB.out.2.2.size
          clear hsj hva hvq hal1 hq3 hq2 hnx
          go_wp2_with (first | (go_at_call 11; refine HSJ.out.mono ?_; rintro e w' ⟨rfl, rfl⟩) | (at_builtin; go_must (refine wpList_append_lies rfl (.tmp 27) (.tmp 29) 33 rfl w.heap.size 3 i0 (.int .i64 0) 1 8 Tryd.underlying33 HI.out hz hs hb rfl (by decide) _ _ _ rfl (OWN.out.alloc _) ⟨wr.heap.size, 0, none⟩ 1 1 [.int .i64 R1] rfl rfl (cell_one_new _ _ _) (by simp; rfl) (by decide) (by unfold maxLen; omega) (by omega) (by simp only [World.size_alloc]; omega) _ rfl ?_); intro g2 cap3 w2 hown2 hg2 hf2 hlt3))
          go_roundw
          case rel =>
            have hgs := hg2.size
            simp only [World.size_alloc] at hgs hf2
            refine ⟨q, acc ++ [R1], by omega, rfl, by simpa using hown2, HAL, HVQ, by omega, Lib.hid ⟨rd_grown hg2 (rd_alloc HBB.out.1 _) HBB.out.2.1, ?_, (HBB.out.2.2.alloc hbsz _).grown hg2 (by simp only [World.size_alloc]; omega) (fun k hk => (OWN.out.lt k hk).1)⟩⟩
            rcases hf2 with hf2 | hf2
            · have h := HBB.out.2.1
              rw [show (Value.slice a2 acc.length cap2).ownBlock = some g2 from hf2] at h
              simpa [Value.ownBlock] using h
            · simp only [Value.ownBlock, ne_eq, Option.some.injEq]; omega
          case measure => simp [intOf]; omega
      · obtain rfl : j = L := by omega
        have hf : acc = runesD l := by
          have h := HA.out
          rw [List.drop_of_length_le (by have := HL.out; omega)] at h
          simpa [runesD, runesGo] using h
        have HO : Hid (wr.ownsRow w.heap.size 3 1 (.slice a2 acc.length cap2) (runesD l).length ((runesD l).map (Value.int .i64))) := Lib.hid (by rw [← hf]; exact OWN.out)
        clear hf
        go_wp2_with fail
        go_ret
        exact ⟨_, rfl, HO.out, HBB.out.2.2⟩


theorem dec_step (s : ByteArray) (pos : Nat) (hp : pos < s.size) : 1 ≤ (Utf8.decode s pos).2 ∧ pos + (Utf8.decode s pos).2 ≤ s.size ∧ (Utf8.decode s pos).1 ≤ 1114111 ∧ runesD (s.data.toList.drop pos) = ((Utf8.decode s pos).1 : Int) :: runesD (s.data.toList.drop (pos + (Utf8.decode s pos).2)) := by
  have hsz : s.data.toList.length = s.size := by simp
  have hne : s.data.toList.drop pos ≠ [] := by intro h; have := congrArg List.length h; simp at this; omega
  have h1 := Lib.decodeL_width (s.data.toList.drop pos)
  have h2 := dec_le _ hne
  have h3 := Lib.decodeL_rune (s.data.toList.drop pos)
  have h4 := runesD_step _ hne
  rw [List.length_drop, hsz] at h2
  rw [Lib.decodeL_drop] at h1 h2 h3 h4
  rw [List.drop_drop] at h4
  exact ⟨h1, by omega, h3, h4⟩

set_option maxRecDepth 100000 in
set_option maxHeartbeats 4000000 in
theorem runesOf_impl (s : ByteArray) (w : World) (hlen : s.size ≤ 1048576) (hLaid : Laid w) :
    Calls Tryd.prog 20 #[.string s] w fun e w' => ∃ v, e = .returned v ∧ w'.ownsRow w.heap.size 3 1 v (runesF s.data.toList).length ((runesF s.data.toList).map (Value.int .i64)) ∧ Below w.heap.size w w' := by
  obtain ⟨i0, hi, hz, hs, hb⟩ := info_parts info_int
  have HI := Lib.hid hi; clear hi
  have HM := Lib.hid (World.ownsRow_made (base := w.heap.size) (e := 3) (size := 1) w #[] 0 (Nat.le_refl _) (by simp [maxLen]) rfl)
  have HT := Lib.hid (fun w1 (hb : Below w.heap.size w w1) => textOk_impl s w1 hlen (hLaid.kept hb))
  have HDS := Lib.hid (dec_step s)
  have hsl : s.data.toList.length = s.size := by simp
  have HL := Lib.hid hsl
  clear hLaid hsl
  obtain ⟨l, hl⟩ : ∃ l, l = s.data.toList := ⟨_, rfl⟩
  rw [← hl] at HT HDS HL ⊢
  clear hl
  cases hv : Lib.validD l with
  | false =>
    have hf : runesF l = [] := by unfold runesF; rw [if_neg (by rw [hv]; simp)]
    rw [hf]
    rw [hv] at HT
    clear hf hv HDS
    go_enter Tryd.func20, Tryd.ntmps20
    go_wp2_with fail
    refine (HT.out _ (below1 _ _)).mono ?_
    rintro _ w1 ⟨rfl, b1⟩
    go_wp2_with fail
    go_ret
    exact ⟨_, rfl, own_kept b1 (by simpa using HM.out), nx (below1 _ _) b1⟩
  | true =>
    have hf : runesF l = runesD l := by unfold runesF; rw [if_pos hv]
    rw [hf]
    rw [hv] at HT
    clear hf hv
    have HRL := Lib.hid (runesD_len l)
    go_enter Tryd.func20, Tryd.ntmps20
    go_wp2_with fail
    refine (HT.out _ (below1 _ _)).mono ?_
    rintro _ w1 ⟨rfl, b1⟩
    have HM2 := Lib.hid (show (w1.iter s 0).ownsRow w.heap.size 3 1 (.slice (some ⟨w.heap.size, 0, none⟩) 0 0) 0 [] from own_kept (below1 w1 (.stringIter s 0)) (own_kept b1 HM.out))
    have hlt1 : w.heap.size < w1.heap.size := by have := b1.size; simp only [World.size_alloc] at this; omega
    have HT2 := Lib.hid (nx (nx (below1 w _) b1) (below1 w1 (.stringIter s 0)))
    have HIT := Lib.hid (World.iter_heap w1 s 0)
    clear b1 HM HT
    go_wp2_with fail
    go_loopw [3, 5] (fun v _ wr => ∃ (pos : Nat) (acc : List Int), pos ≤ s.size ∧ wr.ownsRow w.heap.size 3 1 v acc.length (acc.map (Value.int .i64)) ∧ Hid (acc ++ runesD (l.drop pos) = runesD l) ∧ wr.heap[w1.heap.size]? = some (.stringIter s pos) ∧ v.ownBlock ≠ some w1.heap.size ∧ Hid (Below w.heap.size w wr)) (fun _ _ wr => s.size - wr.iterPos w1.heap.size)
    case atStart => exact ⟨0, [], by omega, by simpa using HM2.out, Lib.hid (by simp), HIT.out, by simp [Value.ownBlock]; omega, HT2⟩
    case round =>
      obtain ⟨pos, acc, hj, hown, HA, hit, hob, HBB⟩ := hrel
      obtain ⟨a2, cap2, rfl, -, r2, -, -⟩ := own_rd hown
      have OWN := Lib.hid hown; clear hown r2
      have hsz : w1.heap.size < wr.heap.size := (Array.getElem?_eq_some_iff.1 hit).1
      have hal : acc.length ≤ 1048576 := by
        have h1 := congrArg List.length HA.out
        rw [List.length_append] at h1
        have := HRL.out; have := HL.out; omega
      by_cases hp : pos < s.size
      · have hnx : ∀ ty, (Instr.next (.pointer (some ⟨w1.heap.size, 0, none⟩)) true ty).run Tryd.prog wr = _ := fun ty => Lib.run_next_any_at wr w1.heap.size s pos ty hit hp
        obtain ⟨d1, d2, d3, d4⟩ := HDS.out pos hp
        have hit2 := Lib.iterAt_heap wr w1.heap.size s pos (pos + (Utf8.decode s pos).2) hit
        have hbw2 := Lib.below_iterAt HBB.out (k := w1.heap.size) (by omega) s (pos + (Utf8.decode s pos).2)
        have hsz2 : (wr.iterAt w1.heap.size s (pos + (Utf8.decode s pos).2)).heap.size = wr.heap.size := Lib.iterAt_size _ _ _ _
        have hown2 : (wr.iterAt w1.heap.size s (pos + (Utf8.decode s pos).2)).ownsRow w.heap.size 3 1 (.slice a2 acc.length cap2) acc.length (acc.map (Value.int .i64)) := by
          refine ⟨OWN.out.1, ?_⟩
          rcases OWN.out.2 with h2 | ⟨g, cap, cur, hv, hg, hh, r⟩
          · exact .inl h2
          · refine .inr ⟨g, cap, cur, hv, hg, ?_, r⟩
            rw [Lib.iterAt_other wr _ _ s _ (fun e => hob (by rw [hv, ← e]; rfl))]
            exact hh
        have hal1 : (acc ++ [((Utf8.decode s pos).1 : Int)]) ++ runesD (l.drop (pos + (Utf8.decode s pos).2)) = runesD l := by rw [← HA.out, d4]; simp
        have OWN2 := Lib.hid hown2; have HAL := Lib.hid hal1; have HIT2 := Lib.hid hit2; have HBW2 := Lib.hid hbw2; have HITO := Lib.hid hit
        clear hown2 hal1 hit2 hbw2 d4 OWN
        obtain ⟨W2, hW2⟩ : ∃ W2, W2 = wr.iterAt w1.heap.size s (pos + (Utf8.decode s pos).2) := ⟨_, rfl⟩
        rw [← hW2] at hnx hsz2 OWN2 HIT2 HBW2
        generalize (Utf8.decode s pos).1 = R at *
        generalize (Utf8.decode s pos).2 = D at *
        have hwr : IntKind.i64.wrap (R : Int) = R := wrap_mid (by omega) (by omega)
        have HS2 := Lib.hid hsz2
        clear hW2 hit hsz2
        go_wp2_with (at_builtin; go_must (refine wpList_append_lies rfl (.tmp 16) (.tmp 19) 33 rfl w.heap.size 3 i0 (.int .i64 0) 1 8 Tryd.underlying33 HI.out hz hs hb rfl (by decide) _ _ _ rfl (OWN2.out.alloc _) ⟨W2.heap.size, 0, none⟩ 1 1 [.int .i64 R] rfl rfl (cell_one_new _ _ _) (by simp; rfl) (by decide) (by unfold maxLen; omega) (by omega) (by simp only [World.size_alloc]; have := HS2.out; omega) _ rfl ?_); intro g2 cap3 w3 hown3 hg2 hf2 hlt3)
        have hsz2 := HS2.out
        have hit3 : w3.heap[w1.heap.size]? = some (.stringIter s (pos + D)) := by
          rw [hg2.block _ (by simp only [World.size_alloc]; omega) (fun e => hob e.symm), Below.heap_alloc _ _ _ (by omega)]
          exact HIT2.out
        go_roundw
        case rel =>
          simp only [World.size_alloc] at hf2
          refine ⟨pos + D, acc ++ [(R : Int)], by omega, by simpa using hown3, HAL, hit3, ?_, Lib.hid ((HBW2.out.alloc (by omega) _).grown hg2 (by simp only [World.size_alloc]; omega) (fun k hk => (OWN2.out.lt k hk).1))⟩
          rcases hf2 with hf2 | hf2
          · rw [show (Value.slice a2 acc.length cap2).ownBlock = some g2 from hf2] at hob
            simpa [Value.ownBlock] using hob
          · simp only [Value.ownBlock, ne_eq, Option.some.injEq]; omega
        case measure =>
          simp only [World.iterPos, hit3, HITO.out]
          omega
      · have hnx : ∀ ty, (Instr.next (.pointer (some ⟨w1.heap.size, 0, none⟩)) true ty).run Tryd.prog wr = _ := fun ty => Lib.run_next_end_at wr w1.heap.size s pos ty hit hp
        have hf : acc = runesD l := by
          have h := HA.out
          rw [List.drop_of_length_le (by have := HL.out; omega)] at h
          simpa [runesD, runesGo] using h
        have HO : Hid (wr.ownsRow w.heap.size 3 1 (.slice a2 acc.length cap2) (runesD l).length ((runesD l).map (Value.int .i64))) := Lib.hid (by rw [← hf]; exact OWN.out)
        clear hf
        go_wp2_with fail
        go_ret
        exact ⟨_, rfl, HO.out, HBB.out⟩
end Go.Proofs.YtcagcjkhjfbbpaaDoor
