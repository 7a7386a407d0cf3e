/- Vals: texts of the proof (MLetters DTextV). -/
import Derived.Test.YtilmhemcpgiikaaGreatDoorSVals19
import Derived.Test.YtilmhemcpgiikaaGreatDoorSVals29
import Derived.Lib.MapLaws
import Derived.Lib.ValidLaws
import Derived.Test.YtilmhemcpgiikaaGreatDoorSVals5
import Derived.Test.YtilmhemcpgiikaaGreatDoorSVals3
/- Plain laws of characters: what is put is got again, and the other way round; a text is its characters. -/
namespace Go.Proofs.YtilmhemcpgiikaaGreatDoor
open Go.Deep Go.ChangeShapes Go.WideShapes Go.ChangeAt Go.RowKit

theorem toBs_append (a b : List Int) : toBs (a ++ b) = toBs a ++ toBs b := by simp [toBs]
/-- A character's bytes are decoded to it. -/
theorem dec_enc (n : Int) (rest : List UInt8) (h : runeOkB n = true) : Lib.decodeL (toBs (encZ n) ++ rest) = (n.toNat, (wideF n).toNat) := by
  have h' := runeOkB_true.1 h
  unfold encZ wideF
  rw [if_pos h, if_pos h]
  by_cases h1 : n < 128
  · rw [Lib.encodeRuneZ_one (by omega) (by omega), if_pos h1, Lib.decodeL_N]
    have e0 : (UInt8.ofNat n.toNat).toNat = n.toNat := by simp; omega
    simp only [toBs, List.map_cons, List.map_nil, List.cons_append, List.nil_append, List.getD_cons_zero, e0]
    unfold Lib.decodeN
    rw [if_pos (by omega)]; rfl
  by_cases h2 : n < 2048
  · rw [Lib.encodeRuneZ_two (by omega) (by omega), if_neg h1, if_pos h2, Lib.decodeL_N]
    have e0 : (UInt8.ofNat (192 + n / 64).toNat).toNat = (192 + n / 64).toNat := by simp; omega
    have e1 : (UInt8.ofNat (128 + n % 64).toNat).toNat = (128 + n % 64).toNat := by simp; omega
    simp only [toBs, List.map_cons, List.map_nil, List.cons_append, List.nil_append, List.getD_cons_zero, List.getD_cons_succ, List.length_cons, e0, e1]
    unfold Lib.decodeN
    rw [if_neg (by omega), if_pos (by omega), if_pos (by omega)]
    refine Prod.ext ?_ rfl
    show _ = n.toNat
    omega
  by_cases h3 : n < 65536
  · rw [Lib.encodeRuneZ_three (by omega), if_neg h1, if_neg h2, if_pos h3, Lib.decodeL_N]
    have e0 : (UInt8.ofNat (224 + n / 4096).toNat).toNat = (224 + n / 4096).toNat := by simp; omega
    have e1 : (UInt8.ofNat (128 + n / 64 % 64).toNat).toNat = (128 + n / 64 % 64).toNat := by simp; omega
    have e2 : (UInt8.ofNat (128 + n % 64).toNat).toNat = (128 + n % 64).toNat := by simp; omega
    simp only [toBs, List.map_cons, List.map_nil, List.cons_append, List.nil_append, List.getD_cons_zero, List.getD_cons_succ, List.length_cons, e0, e1, e2]
    unfold Lib.decodeN
    rw [if_neg (by omega), if_neg (by omega), if_pos (by omega), if_pos (by omega)]
    refine Prod.ext ?_ rfl
    show _ = n.toNat
    omega
  · rw [Lib.encodeRuneZ_four (by omega) (by omega), if_neg h1, if_neg h2, if_neg h3, Lib.decodeL_N]
    have e0 : (UInt8.ofNat (240 + n / 262144).toNat).toNat = (240 + n / 262144).toNat := by simp; omega
    have e1 : (UInt8.ofNat (128 + n / 4096 % 64).toNat).toNat = (128 + n / 4096 % 64).toNat := by simp; omega
    have e2 : (UInt8.ofNat (128 + n / 64 % 64).toNat).toNat = (128 + n / 64 % 64).toNat := by simp; omega
    have e3 : (UInt8.ofNat (128 + n % 64).toNat).toNat = (128 + n % 64).toNat := by simp; omega
    simp only [toBs, List.map_cons, List.map_nil, List.cons_append, List.nil_append, List.getD_cons_zero, List.getD_cons_succ, List.length_cons, e0, e1, e2, e3]
    unfold Lib.decodeN
    rw [if_neg (by omega), if_neg (by omega), if_neg (by omega), if_pos (by omega), if_pos (by omega)]
    refine Prod.ext ?_ rfl
    show _ = n.toNat
    omega
theorem wideF_ok {n : Int} (h : runeOkB n = true) : 1 ≤ wideF n ∧ wideF n ≤ 4 := by
  unfold wideF; rw [if_pos h]; (repeat' split) <;> omega
theorem dec_enc_ok (n : Int) (h : runeOkB n = true) : ¬ ((n.toNat = 65533 ∧ (wideF n).toNat = 1)) := by
  have h' := runeOkB_true.1 h
  unfold wideF; rw [if_pos h]; (repeat' split) <;> omega
theorem toBs_len (n : Int) : (toBs (encZ n)).length = (wideF n).toNat := by
  have := encZ_len n; unfold toBs; rw [List.length_map]; omega
theorem drop_enc (n : Int) (rest : List UInt8) : (toBs (encZ n) ++ rest).drop (wideF n).toNat = rest := by
  rw [← toBs_len]; simp
/-- What was put is got again. -/
theorem get_put (l : List UInt8) (n : Int) (h : runeOkB n = true) : getV (bz (l ++ toBs (encZ n))) l.length = (n, (l.length : Int) + wideF n, true) := by
  have hw := wideF_ok h
  have h' := runeOkB_true.1 h
  have hlen := toBs_len n
  rw [getV_L _ _ (by rw [List.length_append]; omega), List.drop_left]
  have hd := dec_enc n [] h
  rw [List.append_nil] at hd
  have hno := dec_enc_ok n h
  rw [hd, if_neg (fun e => hno (by rw [Prod.mk.injEq] at e; exact e))]
  refine Prod.ext ?_ (Prod.ext ?_ rfl)
  · show ((n.toNat : Nat) : Int) = n; omega
  · show (l.length : Int) + (((wideF n).toNat : Nat) : Int) = (l.length : Int) + wideF n; omega
/-- What was got is put again. -/
theorem dec_rune (l : List UInt8) (hne : l ≠ []) (hv : Lib.decodeL l ≠ (65533, 1)) : runeOkB ((Lib.decodeL l).1 : Int) = true ∧ toBs (encZ ((Lib.decodeL l).1 : Int)) = l.take (Lib.decodeL l).2 ∧ wideF ((Lib.decodeL l).1 : Int) = (Lib.decodeL l).2 := by
  have hv' : ¬ ((Lib.decodeL l).1 = 65533 ∧ (Lib.decodeL l).2 = 1) := fun h => hv (Prod.ext h.1 h.2)
  have he := Lib.encode_decode l hne hv'
  have hr : runeOkB ((Lib.decodeL l).1 : Int) = true := by
    rw [runeOkB_true]
    have k0 := (l.getD 0 0).toNat_lt
    rw [Lib.decodeL_N] at hv ⊢
    rcases Lib.decodeN_shape l.length (l.getD 0 0).toNat (l.getD 1 0).toNat (l.getD 2 0).toNat (l.getD 3 0).toNat with ⟨c, e⟩ | ⟨c1, c2, c3, cv, e⟩ | ⟨c1, c2, c3, c4, cv, cs, e⟩ | ⟨c1, c2, c3, c4, c5, cv, cw, e⟩ | e
    · rw [e]; dsimp only; omega
    · rw [e]; dsimp only; omega
    · rw [e]; dsimp only; omega
    · rw [e]; dsimp only; omega
    · exact absurd e hv
  have ht : toBs (encZ ((Lib.decodeL l).1 : Int)) = l.take (Lib.decodeL l).2 := by
    unfold encZ; rw [if_pos hr]; exact he
  refine ⟨hr, ht, ?_⟩
  have h1 := toBs_len ((Lib.decodeL l).1 : Int)
  have h2 := dec_le l hne
  have h3 := wideF_ok hr
  rw [ht, List.length_take] at h1
  omega
theorem put_get (l : List UInt8) (p : Nat) (hp : p < l.length) (m q : Int) (h : getV (bz l) p = (m, q, true)) :
    runeOkB m = true ∧ ∃ k : Nat, q = (p : Int) + k ∧ p + k ≤ l.length ∧ toBs (encZ m) = (l.drop p).take k := by
  have hne : l.drop p ≠ [] := by intro e; have := congrArg List.length e; simp at this; omega
  rw [getV_L l p hp] at h
  by_cases hv : Lib.decodeL (l.drop p) = (65533, 1)
  · rw [if_pos hv] at h; simp at h
  · rw [if_neg hv, Prod.mk.injEq, Prod.mk.injEq] at h
    obtain ⟨rfl, rfl, -⟩ := h
    have h1 := dec_rune _ hne hv
    have h2 := dec_le _ hne
    rw [List.length_drop] at h2
    exact ⟨h1.1, _, rfl, by omega, h1.2.1⟩
/-- The text of characters is valid, and has just those that are characters. -/
theorem runes_encL : ∀ zs : List Int, Lib.validD (toBs (encL zs)) = true ∧ runesD (toBs (encL zs)) = zs.filter fun n => runeOkB n
  | [] => ⟨rfl, rfl⟩
  | n :: zs => by
    have ih := runes_encL zs
    have e : toBs (encL (n :: zs)) = toBs (encZ n) ++ toBs (encL zs) := by
      show toBs (List.flatMap encZ (n :: zs)) = _
      rw [List.flatMap_cons, toBs_append]; rfl
    rw [e]
    cases h : runeOkB n with
    | false =>
      have : encZ n = [] := by unfold encZ; rw [if_neg (by rw [h]; decide)]
      rw [this, List.filter_cons, if_neg (by rw [h]; decide)]
      exact ih
    | true =>
      have hw := wideF_ok h
      have h' := runeOkB_true.1 h
      have hlen := toBs_len n
      have hne : toBs (encZ n) ++ toBs (encL zs) ≠ [] := by
        intro h0
        have := congrArg List.length h0
        rw [List.length_append, List.length_nil] at this
        omega
      have hd := dec_enc n (toBs (encL zs)) h
      have hdr := drop_enc n (toBs (encL zs))
      refine ⟨?_, ?_⟩
      · rw [Lib.validD_step _ hne, hd, if_neg (dec_enc_ok n h)]
        show Lib.validD ((toBs (encZ n) ++ toBs (encL zs)).drop (wideF n).toNat) = true
        rw [hdr]; exact ih.1
      · rw [runesD_step _ hne, hd]
        show ((n.toNat : Nat) : Int) :: runesD ((toBs (encZ n) ++ toBs (encL zs)).drop (wideF n).toNat) = _
        rw [hdr, ih.2, List.filter_cons, if_pos h]
        congr 1; omega
/-- A valid text is the text of its characters. -/
theorem encL_runes : ∀ (k : Nat) (l : List UInt8), l.length ≤ k → Lib.validD l = true → toBs (encL (runesD l)) = l
  | 0, l, hk, _ => by
    have : l = [] := List.eq_nil_of_length_eq_zero (by omega)
    subst this; rfl
  | k + 1, l, hk, hv => by
    by_cases hne : l = []
    · subst hne; rfl
    · have hl : 0 < l.length := List.length_pos_iff.2 hne
      have hw := Lib.decodeL_width l
      rw [Lib.validD_step _ hne] at hv
      split at hv
      · cases hv
      · rename_i hno
        have hne2 : Lib.decodeL l ≠ (65533, 1) := fun e => hno (by rw [e]; exact ⟨rfl, rfl⟩)
        have h1 := dec_rune l hne hne2
        have ih := encL_runes k (l.drop (Lib.decodeL l).2) (by rw [List.length_drop]; omega) hv
        rw [runesD_step _ hne]
        show toBs (List.flatMap encZ (_ :: _)) = l
        rw [List.flatMap_cons, toBs_append, h1.2.1]
        show _ ++ toBs (encL _) = l
        rw [ih, List.take_append_drop]
end Go.Proofs.YtilmhemcpgiikaaGreatDoor
/- The draw of a text: it is a right one. -/
namespace Go.Proofs.YtilmhemcpgiikaaGreatDoor
open Go.Deep Go.ChangeShapes Go.WideShapes Go.ChangeAt Go.RowKit

theorem encS_list (ns : List Int) : (encS ns).data.toList = toBs (encL ns) := by unfold encS; simp
theorem encS_valid (ns : List Int) : Lib.validD (encS ns).data.toList = true := by rw [encS_list]; exact (runes_encL ns).1
set_option maxRecDepth 100000 in
set_option maxHeartbeats 4000000 in
theorem l2Rune_c (P : Nat) (w : World) (hC : Cur w P) :
    Calls Tryz.prog 79 #[.pointer (some ⟨P, 0, none⟩)] w fun e w' => ∃ x : Int, e = .returned (.int .i64 x) ∧ (0 ≤ x ∧ x ≤ 1114111) ∧ Cur w' P ∧ w.grownBy w' (some P) := by
  have HC := Lib.hid hC; clear hC
  go_enter Tryz.func79, Tryz.ntmps79
  have C0 := Lib.hid HC.out
  have G0 := Lib.hid (gr_refl (w := w) (P := P))
  have HP := Lib.hid HC.out.lt
  go_wp2_with fail
  refine (l1Int_c P [0, 97, 98, 34, 92, 10, 127, 128, 233, 2047, 2048, 8364, 55295, 57344, 65535, 65536, 128512, 1114111] w.heap.size 18 _ (C0.out.alloc _) (rd_laid w _ _) (Nat.ne_of_gt C0.out.lt) (by simp) (by simp) (by simp)).mono ?_
  rintro _ w1 ⟨x, rfl, hx', C', G'⟩
  have Hx := Lib.hid hx'; clear hx'
  have C1 := Lib.hid C'; clear C'
  have G1 := Lib.hid (gr_trans (gr_on G0.out (below1 _ _)) G')
  clear G'
  have hb : 0 ≤ x ∧ x ≤ 1114111 := by have h := Hx.out; simp at h; omega
  go_wp2_with fail
  go_ret
  exact ⟨_, rfl, hb, C1.out, G1.out⟩
set_option maxRecDepth 100000 in
set_option maxHeartbeats 4000000 in
theorem l2Text_v (P : Nat) (w : World) (hC : Cur w P) :
    Calls Tryz.prog 61 #[.pointer (some ⟨P, 0, none⟩)] w fun e w' => ∃ S : ByteArray, e = .returned (.string S) ∧ (S.size ≤ 100 ∧ Lib.validD S.data.toList = true) ∧ Cur w' P ∧ w.grownBy w' (some P) := by
  have HC := Lib.hid hC; clear hC
  obtain ⟨i0, hi, hz, hsz, hb⟩ := info_parts (show (Tryz.prog.info? 3).map (fun i => (i.zero, i.size, i.bytes)) = some (some (.int .i64 0), 1, 8) by kernel_rfl)
  have HI := Lib.hid hi; clear hi
  go_enter Tryz.func61, Tryz.ntmps61
  have C0 := Lib.hid HC.out
  have G0 := Lib.hid (gr_refl (w := w) (P := P))
  have HP := Lib.hid HC.out.lt
  go_wp2_with fail
  refine (l1Once_c P 2 _ C0.out (by omega)).mono ?_
  rintro _ w1 ⟨t, rfl, C', G'⟩
  have C1 := Lib.hid C'; clear C'
  have G1 := Lib.hid (gr_trans G0.out G')
  clear G'
  cases t with
  | true =>
    go_wp2_with fail
    refine (l1Str_c P [⟨#[]⟩, ⟨#[97]⟩, ⟨#[98]⟩, ⟨#[107, 101, 121]⟩, ⟨#[120, 32, 121]⟩, ⟨#[49]⟩, ⟨#[195, 169]⟩, ⟨#[34]⟩, ⟨#[92]⟩] w1.heap.size 9 _ (C1.out.alloc _) (rs_laid w1 _ _) (Nat.ne_of_gt C1.out.lt) (by simp) (by simp) (by simp)).mono ?_
    rintro _ w2 ⟨S, rfl, hS', C', G'⟩
    have HS := Lib.hid hS'; clear hS'
    have C2 := Lib.hid C'; clear C'
    have G2 := Lib.hid (gr_trans (gr_on G1.out (below1 _ _)) G')
    clear G'
    have hl : S.size ≤ 100 ∧ Lib.validD S.data.toList = true := by have h := HS.out; simp at h; rcases h with rfl | rfl | rfl | rfl | rfl | rfl | rfl | rfl | rfl <;> exact ⟨by decide, by decide⟩
    go_wp2_with fail
    go_ret
    exact ⟨_, rfl, hl, C2.out, G2.out⟩
  | false =>
    have HM := Lib.hid (World.ownsRow_made (base := w.heap.size) (e := 3) (size := 1) w1 #[] 0 G1.out.size (by simp [maxLen]) rfl)
    go_wp2_with fail
    refine (l1Below_c P 4 _ (by exact C1.out.alloc _) (by omega)).mono ?_
    rintro _ w2 ⟨x, rfl, x0, x1, -, -, C', G'⟩
    have O2 := Lib.hid (own_gr HM.out G' HP.out)
    have C2 := Lib.hid C'
    have G2 := Lib.hid (gr_trans (gr_on G1.out (below1 _ _)) G')
    clear C' G' HM C1 G1
    replace x1 := x1 (by omega)
    go_wp2_with fail
    go_loopw [3, 4] (fun v i wr => ∃ (ns : List Int) (X : Int), ns.length + X ≤ 4 ∧ X ≤ 4 ∧ 0 ≤ X ∧ i = .int .i64 X ∧ wr.ownsRow w.heap.size 3 1 v ns.length (ns.map (Value.int .i64)) ∧ Cur wr P ∧ w.grownBy wr (some P)) (fun _ i _ => (intOf i).toNat)
    case atStart => exact ⟨[], x, by simp; omega, by omega, x0, rfl, by simpa using O2.out, C2.out, G2.out⟩
    case round =>
      obtain ⟨ns, X, hX, hX2, hX0, rfl, hown, hcur, hgr⟩ := hrel
      have OWN := Lib.hid hown; clear hown
      have CUR := Lib.hid hcur; clear hcur
      have GR := Lib.hid hgr; clear hgr
      by_cases hjl : 0 < X
      · go_wp2_with fail
        refine (l2Rune_c P _ CUR.out).mono ?_
        rintro _ w3 ⟨r, rfl, hr', C', G'⟩
        have O3 := Lib.hid (own_gr OWN.out G' HP.out)
        have C3 := Lib.hid C'; clear C'
        have G3 := Lib.hid (gr_trans GR.out G'); clear G' OWN CUR GR hr'
        go_wp2_with (at_builtin; go_must (refine wpList_append_own _ rfl (.tmp 17) (.tmp 20) 69 rfl w.heap.size 3 i0 (.int .i64 0) 1 8 Tryz.underlying69 HI.out hz hsz hb rfl (by decide) _ _ _ rfl (by exact O3.out.alloc _) ⟨w3.heap.size, 0, none⟩ 1 1 [.int .i64 r] rfl rfl (by exact World.news_of_block (heap_alloc_new _ _)) (by simp; exact rfl) (by unfold maxLen; omega) (by omega) (by have := G3.out.size; simp; omega) ?_); intro v' w4 hown2 hg2 q1; clear q1)
        have hg3 : (w3.alloc (.cells #[.int .i64 r] 3)).grownBy w4 u3.ownBlock := hg2
        have H2 := Lib.hid hown2; clear hown2
        have H3 := Lib.hid hg3; clear hg3 hg2
        go_wp2_with fail
        go_roundw
        case rel =>
          have hro : ∀ k, u3.ownBlock = some k → w.heap.size ≤ k := fun k hk => (O3.out.lt k hk).1
          refine ⟨ns ++ [r], X - 1, by simp; omega, by omega, by omega, rfl, ?_, (C3.out.alloc _).grown H3.out (fun k hk => Nat.lt_of_lt_of_le HP.out (hro k hk)), gr_new (gr_on G3.out (below1 _ _)) H3.out hro⟩
          rw [List.map_append, List.length_append]; exact H2.out
        case measure => simp [intOf]; omega
      · obtain ⟨a1, cap1, rfl, -, r1, c1, -⟩ := own_rd OWN.out
        have R1 := Lib.hid r1; clear r1
        have HLn := Lib.hid (show ns.length ≤ 4 by omega)
        go_wp2_with fail
        refine (fromRunes_spec ns a1 cap1 _ R1.out (by have := HLn.out; omega)).mono ?_
        rintro _ w9 ⟨rfl, b9⟩
        have C9 := Lib.hid (CUR.out.below b9)
        have G9 := Lib.hid (gr_on GR.out b9); clear b9
        have hl : (encS ns).size ≤ 100 ∧ Lib.validD (encS ns).data.toList = true := ⟨by have h1 := encL_len ns; have h2 := HLn.out; show (toBs (encL ns)).toArray.size ≤ 100; simp [toBs]; omega, encS_valid ns⟩
        generalize encS ns = S at *
        have HLS := Lib.hid hl; clear hl
        go_wp2_with fail
        go_ret
        exact ⟨_, rfl, HLS.out, C9.out, G9.out⟩
end Go.Proofs.YtilmhemcpgiikaaGreatDoor
