/- Vals: texts of the proof (DText). -/
import Derived.Test.YtilmhemcpgiikaaGreatDoorSVals35
import Derived.Test.YtilmhemcpgiikaaGreatDoorSVals29
import Derived.Test.YtilmhemcpgiikaaGreatDoorSVals3
/- The draws of texts. -/
namespace Go.Proofs.YtilmhemcpgiikaaGreatDoor
open Go.Deep Go.ChangeShapes Go.WideShapes Go.ChangeAt Go.RowKit

set_option maxRecDepth 100000 in
set_option maxHeartbeats 4000000 in
theorem l2Text_c (P : Nat) (w : World) (hC : Cur w P) :
    Calls Tryz.prog 61 #[.pointer (some ⟨P, 0, none⟩)] w fun e w' => ∃ S : ByteArray, e = .returned (.string S) ∧ S.size ≤ 100 ∧ Cur w' P ∧ w.grownBy w' (some P) := by
  have HC := Lib.hid hC; clear hC
  obtain ⟨i0, hi, hz, hsz, hb⟩ := info_parts (show (Tryz.prog.info? 3).map (fun i => (i.zero, i.size, i.bytes)) = some (some (.int .i64 0), 1, 8) by kernel_rfl)
  have HI := Lib.hid hi; clear hi
  go_enter Tryz.func61, Tryz.ntmps61
  have C0 := Lib.hid HC.out
  have G0 := Lib.hid (gr_refl (w := w) (P := P))
  have HP := Lib.hid HC.out.lt
  go_wp2_with fail
  refine (l1Once_c P 2 _ C0.out (by omega)).mono ?_
  rintro _ w1 ⟨t, rfl, C', G'⟩
  have C1 := Lib.hid C'; clear C'
  have G1 := Lib.hid (gr_trans G0.out G')
  clear G'
  cases t with
  | true =>
    go_wp2_with fail
    refine (l1Str_c P [⟨#[]⟩, ⟨#[97]⟩, ⟨#[98]⟩, ⟨#[107, 101, 121]⟩, ⟨#[120, 32, 121]⟩, ⟨#[49]⟩, ⟨#[195, 169]⟩, ⟨#[34]⟩, ⟨#[92]⟩] w1.heap.size 9 _ (C1.out.alloc _) (rs_laid w1 _ _) (Nat.ne_of_gt C1.out.lt) (by simp) (by simp) (by simp)).mono ?_
    rintro _ w2 ⟨S, rfl, hS', C', G'⟩
    have HS := Lib.hid hS'; clear hS'
    have C2 := Lib.hid C'; clear C'
    have G2 := Lib.hid (gr_trans (gr_on G1.out (below1 _ _)) G')
    clear G'
    have hl : S.size ≤ 100 := by have h := HS.out; simp at h; rcases h with rfl | rfl | rfl | rfl | rfl | rfl | rfl | rfl | rfl <;> decide
    go_wp2_with fail
    go_ret
    exact ⟨_, rfl, hl, C2.out, G2.out⟩
  | false =>
    have HM := Lib.hid (World.ownsRow_made (base := w.heap.size) (e := 3) (size := 1) w1 #[] 0 G1.out.size (by simp [maxLen]) rfl)
    go_wp2_with fail
    refine (l1Below_c P 4 _ (by exact C1.out.alloc _) (by omega)).mono ?_
    rintro _ w2 ⟨x, rfl, x0, x1, -, -, C', G'⟩
    have O2 := Lib.hid (own_gr HM.out G' HP.out)
    have C2 := Lib.hid C'
    have G2 := Lib.hid (gr_trans (gr_on G1.out (below1 _ _)) G')
    clear C' G' HM C1 G1
    replace x1 := x1 (by omega)
    go_wp2_with fail
    go_loopw [3, 4] (fun v i wr => ∃ (ns : List Int) (X : Int), ns.length + X ≤ 4 ∧ X ≤ 4 ∧ 0 ≤ X ∧ i = .int .i64 X ∧ wr.ownsRow w.heap.size 3 1 v ns.length (ns.map (Value.int .i64)) ∧ Cur wr P ∧ w.grownBy wr (some P)) (fun _ i _ => (intOf i).toNat)
    case atStart => exact ⟨[], x, by simp; omega, by omega, x0, rfl, by simpa using O2.out, C2.out, G2.out⟩
    case round =>
      obtain ⟨ns, X, hX, hX2, hX0, rfl, hown, hcur, hgr⟩ := hrel
      have OWN := Lib.hid hown; clear hown
      have CUR := Lib.hid hcur; clear hcur
      have GR := Lib.hid hgr; clear hgr
      by_cases hjl : 0 < X
      · go_wp2_with fail
        refine (l2Rune_c P _ CUR.out).mono ?_
        rintro _ w3 ⟨r, rfl, hr', C', G'⟩
        have O3 := Lib.hid (own_gr OWN.out G' HP.out)
        have C3 := Lib.hid C'; clear C'
        have G3 := Lib.hid (gr_trans GR.out G'); clear G' OWN CUR GR hr'
        go_wp2_with (at_builtin; go_must (refine wpList_append_own _ rfl (.tmp 17) (.tmp 20) 69 rfl w.heap.size 3 i0 (.int .i64 0) 1 8 Tryz.underlying69 HI.out hz hsz hb rfl (by decide) _ _ _ rfl (by exact O3.out.alloc _) ⟨w3.heap.size, 0, none⟩ 1 1 [.int .i64 r] rfl rfl (by exact World.news_of_block (heap_alloc_new _ _)) (by simp; exact rfl) (by unfold maxLen; omega) (by omega) (by have := G3.out.size; simp; omega) ?_); intro v' w4 hown2 hg2 q1; clear q1)
        have hg3 : (w3.alloc (.cells #[.int .i64 r] 3)).grownBy w4 u3.ownBlock := hg2
        have H2 := Lib.hid hown2; clear hown2
        have H3 := Lib.hid hg3; clear hg3 hg2
        go_wp2_with fail
        go_roundw
        case rel =>
          have hro : ∀ k, u3.ownBlock = some k → w.heap.size ≤ k := fun k hk => (O3.out.lt k hk).1
          refine ⟨ns ++ [r], X - 1, by simp; omega, by omega, by omega, rfl, ?_, (C3.out.alloc _).grown H3.out (fun k hk => Nat.lt_of_lt_of_le HP.out (hro k hk)), gr_new (gr_on G3.out (below1 _ _)) H3.out hro⟩
          rw [List.map_append, List.length_append]; exact H2.out
        case measure => simp [intOf]; omega
      · obtain ⟨a1, cap1, rfl, -, r1, c1, -⟩ := own_rd OWN.out
        have R1 := Lib.hid r1; clear r1
        have HLn := Lib.hid (show ns.length ≤ 4 by omega)
        go_wp2_with fail
        refine (fromRunes_spec ns a1 cap1 _ R1.out (by have := HLn.out; omega)).mono ?_
        rintro _ w9 ⟨rfl, b9⟩
        have C9 := Lib.hid (CUR.out.below b9)
        have G9 := Lib.hid (gr_on GR.out b9); clear b9
        have hl : (encS ns).size ≤ 100 := by have h1 := encL_len ns; have h2 := HLn.out; show (toBs (encL ns)).toArray.size ≤ 100; simp [toBs]; omega
        generalize encS ns = S at *
        have HLS := Lib.hid hl; clear hl
        go_wp2_with fail
        go_ret
        exact ⟨_, rfl, HLS.out, C9.out, G9.out⟩
set_option maxRecDepth 100000 in
set_option maxHeartbeats 4000000 in
theorem l2Str_c (P : Nat) (w : World) (hC : Cur w P) :
    Calls Tryz.prog 38 #[.pointer (some ⟨P, 0, none⟩)] w fun e w' => ∃ S : ByteArray, e = .returned (.string S) ∧ S.size ≤ 200 ∧ Cur w' P ∧ w.grownBy w' (some P) := by
  have HC := Lib.hid hC; clear hC
  go_enter Tryz.func38, Tryz.ntmps38
  have C0 := Lib.hid HC.out
  have G0 := Lib.hid (gr_refl (w := w) (P := P))
  have HP := Lib.hid HC.out.lt
  go_wp2_with fail
  refine (l1Once_c P 5 _ C0.out (by omega)).mono ?_
  rintro _ w1 ⟨t, rfl, C', G'⟩
  have C1 := Lib.hid C'; clear C'
  have G1 := Lib.hid (gr_trans G0.out G')
  clear G'
  cases t with
  | true =>
    go_wp2_with fail
    refine (l2Text_c P _ C1.out).mono ?_
    rintro _ w2 ⟨S, rfl, hS, C', G'⟩
    have HS := Lib.hid hS; clear hS
    have C2 := Lib.hid C'; clear C'
    have G2 := Lib.hid (gr_trans G1.out G')
    clear G'
    obtain ⟨cc, W1, hcv, hrd, hb1, hlt1, hcc⟩ := conv_bytes2 (P := Tryz.prog) w2 9 22 5 S Tryz.underlying9 Tryz.underlying22 Tryz.underlying5
    have CW := Lib.hid (C2.out.below hb1)
    have GW := Lib.hid (gr_on G2.out hb1)
    have RW := Lib.hid hrd; clear hrd hlt1 hb1 hcc
    have hsz : (bz S.data.toList).length = S.size := by rw [bz_length, Array.length_toList]; rfl
    have HSZ := Lib.hid hsz
    have HBW := Lib.hid (bz_wf S.data.toList)
    have HB := Lib.hid (l1Bent_c P (bz S.data.toList) (some ⟨w2.heap.size, 0, none⟩) cc W1 CW.out RW.out HBW.out (by have := HS.out; omega))
    rw [hsz] at HB
    clear hsz
    go_wp2_with fail
    refine HB.out.mono ?_
    rintro _ w4 ⟨v, rfl, vs, lv, q', o', C', G'⟩
    have C4 := Lib.hid C'
    have G4 := Lib.hid (gr_trans GW.out G'); clear C' G'
    have lv2 : vs.length ≤ 101 := by have := HS.out; omega
    obtain ⟨l, rfl⟩ := bz_of vs q'
    obtain ⟨a1, cap1, rfl, -, r1, c1, -⟩ := own_rd o'
    have hst := run_str (P := Tryz.prog) Tryz.underlying22 Tryz.underlying5 Tryz.underlying9 (c := cap1) (bz_length _) r1
    have hl : (⟨l.toArray⟩ : ByteArray).size ≤ 200 := by rw [bz_length] at lv2; simp [ByteArray.size]; omega
    generalize (⟨l.toArray⟩ : ByteArray) = T at *
    have HL := Lib.hid hl; clear hl r1 o' q' HB
    go_wp2_with fail
    go_ret
    exact ⟨_, rfl, HL.out, C4.out, G4.out⟩
  | false =>
    go_wp2_with fail
    refine (l2Text_c P _ C1.out).mono ?_
    rintro _ w2 ⟨S, rfl, hS, C', G'⟩
    have HS := Lib.hid hS; clear hS
    have C2 := Lib.hid C'; clear C'
    have G2 := Lib.hid (gr_trans G1.out G')
    clear G'
    go_wp2_with fail
    go_ret
    exact ⟨_, rfl, by have := HS.out; omega, C2.out, G2.out⟩
end Go.Proofs.YtilmhemcpgiikaaGreatDoor
