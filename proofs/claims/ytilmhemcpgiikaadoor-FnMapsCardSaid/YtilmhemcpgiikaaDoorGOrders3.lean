/- Orders: texts of the proof, joined. -/
import Derived.Test.YtilmhemcpgiikaaDoorCStr
import Derived.Lib.MapLaws
import Derived.Lib.ValidLaws
import Derived.Test.YtilmhemcpgiikaaDoorVLeaf
import Derived.Deep.DeepCutAuto
import Derived.Deep.AppendLies
import Derived.Deep.RegionLaw
import Derived.Deep.RegionWith
import Derived.Lib.ItoaNum
import Derived.Test.YtilmhemcpgiikaaDoorGOrders2
/- FromRunes: both write the same text. -/
namespace Go.Proofs.YtilmhemcpgiikaaDoor
open Go.Deep Go.ChangeShapes Go.WideShapes Go.ChangeAt Go.RowKit
open Go.ChangeMaps (open_string shut_string)


/-- The bytes of characters. -/
def encL (zs : List Int) : List Int := zs.flatMap encZ
theorem encL_snoc (zs : List Int) (n : Int) : encL (zs ++ [n]) = encL zs ++ encZ n := by simp [encL]
theorem encZ_byte (n : Int) : ∀ x ∈ encZ n, 0 ≤ x ∧ x < 256 := by
  unfold encZ
  by_cases h : runeOkB n = true
  · rw [if_pos h]
    have h' := runeOkB_true.1 h
    by_cases h1 : n < 128
    · rw [Lib.encodeRuneZ_one (by omega) (by omega)]; intro x hx; simp at hx; omega
    by_cases h2 : n < 2048
    · rw [Lib.encodeRuneZ_two (by omega) (by omega)]; intro x hx; simp at hx; omega
    by_cases h3 : n < 65536
    · rw [Lib.encodeRuneZ_three (by omega)]; intro x hx; simp at hx; omega
    · rw [Lib.encodeRuneZ_four (by omega) (by omega)]; intro x hx; simp at hx; omega
  · rw [if_neg h]; simp
/-- Numbers of bytes, as bytes. -/
def toBs (zs : List Int) : List UInt8 := zs.map fun n => UInt8.ofNat n.toNat
theorem bz_toBs (zs : List Int) (h : ∀ x ∈ zs, 0 ≤ x ∧ x < 256) : bz (toBs zs) = zs := by
  unfold bz toBs
  rw [List.map_map]
  conv => rhs; rw [← List.map_id zs]
  refine List.map_congr_left fun n hn => ?_
  have := h n hn
  simp
  omega
theorem encL_byte (zs : List Int) : ∀ x ∈ encL zs, 0 ≤ x ∧ x < 256 := by
  intro x hx
  obtain ⟨n, _, h⟩ := List.mem_flatMap.1 hx
  exact encZ_byte n x h
theorem encL_len (zs : List Int) : (encL zs).length ≤ 4 * zs.length := by
  induction zs with
  | nil => simp [encL]
  | cons n zs ih =>
    have h1 := encZ_len n
    have h2 := wideF_bd n
    simp only [encL, List.flatMap_cons, List.length_append, List.length_cons] at *
    omega
def encS (zs : List Int) : ByteArray := ⟨(toBs (encL zs)).toArray⟩
theorem take_snocI {zs : List Int} {j : Nat} (h : j < zs.length) : zs.take (j + 1) = zs.take j ++ [zs.getD j 0] := by
  rw [List.take_succ_eq_append_getElem h]
  simp [List.getD, List.getElem?_eq_getElem h]
set_option maxHeartbeats 2000000 in
theorem fromRunes_spec (zs : List Int) (a : Option Addr) (cap : Nat) (w : World) (hr : Rd w .i64 a zs) (hlen : zs.length ≤ 1048576) :
    Calls Tryd.prog 180 #[.slice a zs.length cap] w fun e w' => e = .returned (.string (encS zs)) ∧ Below w.heap.size w w' := by
  have HR := Lib.hid hr; clear hr
  have HM := Lib.hid (World.ownsRow_made (base := w.heap.size) (e := 5) (size := 1) w #[] 0 (Nat.le_refl _) (by simp [maxLen]) rfl)
  go_enter Tryd.func180, Tryd.ntmps180
  go_wp2_with fail
  go_loopw [3, 4] (fun v i wr => ∃ (j : Nat) (acc : List Int), j ≤ zs.length ∧ i = .int .i64 j ∧ Hid (acc = encL (zs.take j)) ∧ wr.ownsRow w.heap.size 5 1 v acc.length (acc.map (Value.int .u8)) ∧ Below w.heap.size w wr) (fun _ i _ => zs.length - (intOf i).toNat)
  case atStart => exact ⟨0, [], by omega, rfl, Lib.hid (by simp [encL]), by simpa using HM.out, below1 _ _⟩
  case round =>
    obtain ⟨j, acc, hj, rfl, HA, hown, hbw⟩ := hrel
    obtain ⟨a2, cap2, rfl, -, r2, -, -⟩ := own_rd hown
    have R2 := Lib.hid r2; clear r2
    have OWN := Lib.hid hown; clear hown
    by_cases hjl : j < zs.length
    · rcases HR.out with h0 | ⟨b, off, rfl, hblt, hc⟩
      · rw [h0] at hjl; simp at hjl
      have hc0 := (hbw.cell (p := ⟨b, off + j, none⟩) hblt).trans (hc j hjl)
      clear hc
      have hs := encL_snoc (zs.take j) (zs.getD j 0)
      rw [← take_snocI hjl] at hs
      have HS := Lib.hid hs; clear hs
      have hal : acc.length ≤ 4194304 := by
        have h1 := encL_len (zs.take j)
        rw [← HA.out] at h1
        simp at h1
        omega
      generalize zs.getD j 0 = n at *
      go_wp2_with fail
      refine (putRune_spec acc a2 cap2 n _ R2.out (by omega)).mono ?_
      rintro _ w1 ⟨v1, rfl, ho1, hb1⟩
      have HO1 := Lib.hid ho1; clear ho1
      go_wp2_with fail
      go_roundw
      case rel => exact ⟨j + 1, acc ++ encZ n, by omega, by go_num, Lib.hid (by rw [HS.out, HA.out]), HO1.out.mono hbw.size, hbw.trans (hb1.mono hbw.size)⟩
      case measure => simp [intOf]; omega
    · obtain rfl : j = zs.length := by omega
      have hacc : acc = encL zs := by have := HA.out; rwa [List.take_length] at this
      have hz0 : bz (toBs acc) = acc := bz_toBs _ (by rw [hacc]; exact encL_byte zs)
      have hfin : encS zs = ⟨(toBs acc).toArray⟩ := by unfold encS; rw [hacc]
      have HF := Lib.hid hfin; clear hfin hacc
      have hst := run_str (P := Tryd.prog) Tryd.underlying39 Tryd.underlying5 Tryd.underlying9 (c := cap2) (n := acc.length) (l := toBs acc) (by simp [toBs]) (w := wr) (a := a2) (by rw [hz0]; exact R2.out)
      clear hz0
      generalize (⟨(toBs acc).toArray⟩ : ByteArray) = res at *
      go_wp2_with fail
      go_ret
      exact ⟨ret_str HF.out.symm, hbw⟩

end Go.Proofs.YtilmhemcpgiikaaDoor
/- Plain laws of characters: what is put is got again, and the other way round; a text is its characters. -/
namespace Go.Proofs.YtilmhemcpgiikaaDoor
open Go.Deep Go.ChangeShapes Go.WideShapes Go.ChangeAt Go.RowKit

theorem toBs_append (a b : List Int) : toBs (a ++ b) = toBs a ++ toBs b := by simp [toBs]
/-- A character's bytes are decoded to it. -/
theorem dec_enc (n : Int) (rest : List UInt8) (h : runeOkB n = true) : Lib.decodeL (toBs (encZ n) ++ rest) = (n.toNat, (wideF n).toNat) := by
  have h' := runeOkB_true.1 h
  unfold encZ wideF
  rw [if_pos h, if_pos h]
  by_cases h1 : n < 128
  · rw [Lib.encodeRuneZ_one (by omega) (by omega), if_pos h1, Lib.decodeL_N]
    have e0 : (UInt8.ofNat n.toNat).toNat = n.toNat := by simp; omega
    simp only [toBs, List.map_cons, List.map_nil, List.cons_append, List.nil_append, List.getD_cons_zero, e0]
    unfold Lib.decodeN
    rw [if_pos (by omega)]; rfl
  by_cases h2 : n < 2048
  · rw [Lib.encodeRuneZ_two (by omega) (by omega), if_neg h1, if_pos h2, Lib.decodeL_N]
    have e0 : (UInt8.ofNat (192 + n / 64).toNat).toNat = (192 + n / 64).toNat := by simp; omega
    have e1 : (UInt8.ofNat (128 + n % 64).toNat).toNat = (128 + n % 64).toNat := by simp; omega
    simp only [toBs, List.map_cons, List.map_nil, List.cons_append, List.nil_append, List.getD_cons_zero, List.getD_cons_succ, List.length_cons, e0, e1]
    unfold Lib.decodeN
    rw [if_neg (by omega), if_pos (by omega), if_pos (by omega)]
    refine Prod.ext ?_ rfl
    show _ = n.toNat
    omega
  by_cases h3 : n < 65536
  · rw [Lib.encodeRuneZ_three (by omega), if_neg h1, if_neg h2, if_pos h3, Lib.decodeL_N]
    have e0 : (UInt8.ofNat (224 + n / 4096).toNat).toNat = (224 + n / 4096).toNat := by simp; omega
    have e1 : (UInt8.ofNat (128 + n / 64 % 64).toNat).toNat = (128 + n / 64 % 64).toNat := by simp; omega
    have e2 : (UInt8.ofNat (128 + n % 64).toNat).toNat = (128 + n % 64).toNat := by simp; omega
    simp only [toBs, List.map_cons, List.map_nil, List.cons_append, List.nil_append, List.getD_cons_zero, List.getD_cons_succ, List.length_cons, e0, e1, e2]
    unfold Lib.decodeN
    rw [if_neg (by omega), if_neg (by omega), if_pos (by omega), if_pos (by omega)]
    refine Prod.ext ?_ rfl
    show _ = n.toNat
    omega
  · rw [Lib.encodeRuneZ_four (by omega) (by omega), if_neg h1, if_neg h2, if_neg h3, Lib.decodeL_N]
    have e0 : (UInt8.ofNat (240 + n / 262144).toNat).toNat = (240 + n / 262144).toNat := by simp; omega
    have e1 : (UInt8.ofNat (128 + n / 4096 % 64).toNat).toNat = (128 + n / 4096 % 64).toNat := by simp; omega
    have e2 : (UInt8.ofNat (128 + n / 64 % 64).toNat).toNat = (128 + n / 64 % 64).toNat := by simp; omega
    have e3 : (UInt8.ofNat (128 + n % 64).toNat).toNat = (128 + n % 64).toNat := by simp; omega
    simp only [toBs, List.map_cons, List.map_nil, List.cons_append, List.nil_append, List.getD_cons_zero, List.getD_cons_succ, List.length_cons, e0, e1, e2, e3]
    unfold Lib.decodeN
    rw [if_neg (by omega), if_neg (by omega), if_neg (by omega), if_pos (by omega), if_pos (by omega)]
    refine Prod.ext ?_ rfl
    show _ = n.toNat
    omega
theorem wideF_ok {n : Int} (h : runeOkB n = true) : 1 ≤ wideF n ∧ wideF n ≤ 4 := by
  unfold wideF; rw [if_pos h]; (repeat' split) <;> omega
theorem dec_enc_ok (n : Int) (h : runeOkB n = true) : ¬ ((n.toNat = 65533 ∧ (wideF n).toNat = 1)) := by
  have h' := runeOkB_true.1 h
  unfold wideF; rw [if_pos h]; (repeat' split) <;> omega
theorem toBs_len (n : Int) : (toBs (encZ n)).length = (wideF n).toNat := by
  have := encZ_len n; unfold toBs; rw [List.length_map]; omega
theorem drop_enc (n : Int) (rest : List UInt8) : (toBs (encZ n) ++ rest).drop (wideF n).toNat = rest := by
  rw [← toBs_len]; simp
/-- What was put is got again. -/
theorem get_put (l : List UInt8) (n : Int) (h : runeOkB n = true) : getV (bz (l ++ toBs (encZ n))) l.length = (n, (l.length : Int) + wideF n, true) := by
  have hw := wideF_ok h
  have h' := runeOkB_true.1 h
  have hlen := toBs_len n
  rw [getV_L _ _ (by rw [List.length_append]; omega), List.drop_left]
  have hd := dec_enc n [] h
  rw [List.append_nil] at hd
  have hno := dec_enc_ok n h
  rw [hd, if_neg (fun e => hno (by rw [Prod.mk.injEq] at e; exact e))]
  refine Prod.ext ?_ (Prod.ext ?_ rfl)
  · show ((n.toNat : Nat) : Int) = n; omega
  · show (l.length : Int) + (((wideF n).toNat : Nat) : Int) = (l.length : Int) + wideF n; omega
/-- What was got is put again. -/
theorem dec_rune (l : List UInt8) (hne : l ≠ []) (hv : Lib.decodeL l ≠ (65533, 1)) : runeOkB ((Lib.decodeL l).1 : Int) = true ∧ toBs (encZ ((Lib.decodeL l).1 : Int)) = l.take (Lib.decodeL l).2 ∧ wideF ((Lib.decodeL l).1 : Int) = (Lib.decodeL l).2 := by
  have hv' : ¬ ((Lib.decodeL l).1 = 65533 ∧ (Lib.decodeL l).2 = 1) := fun h => hv (Prod.ext h.1 h.2)
  have he := Lib.encode_decode l hne hv'
  have hr : runeOkB ((Lib.decodeL l).1 : Int) = true := by
    rw [runeOkB_true]
    have k0 := (l.getD 0 0).toNat_lt
    rw [Lib.decodeL_N] at hv ⊢
    rcases Lib.decodeN_shape l.length (l.getD 0 0).toNat (l.getD 1 0).toNat (l.getD 2 0).toNat (l.getD 3 0).toNat with ⟨c, e⟩ | ⟨c1, c2, c3, cv, e⟩ | ⟨c1, c2, c3, c4, cv, cs, e⟩ | ⟨c1, c2, c3, c4, c5, cv, cw, e⟩ | e
    · rw [e]; dsimp only; omega
    · rw [e]; dsimp only; omega
    · rw [e]; dsimp only; omega
    · rw [e]; dsimp only; omega
    · exact absurd e hv
  have ht : toBs (encZ ((Lib.decodeL l).1 : Int)) = l.take (Lib.decodeL l).2 := by
    unfold encZ; rw [if_pos hr]; exact he
  refine ⟨hr, ht, ?_⟩
  have h1 := toBs_len ((Lib.decodeL l).1 : Int)
  have h2 := dec_le l hne
  have h3 := wideF_ok hr
  rw [ht, List.length_take] at h1
  omega
theorem put_get (l : List UInt8) (p : Nat) (hp : p < l.length) (m q : Int) (h : getV (bz l) p = (m, q, true)) :
    runeOkB m = true ∧ ∃ k : Nat, q = (p : Int) + k ∧ p + k ≤ l.length ∧ toBs (encZ m) = (l.drop p).take k := by
  have hne : l.drop p ≠ [] := by intro e; have := congrArg List.length e; simp at this; omega
  rw [getV_L l p hp] at h
  by_cases hv : Lib.decodeL (l.drop p) = (65533, 1)
  · rw [if_pos hv] at h; simp at h
  · rw [if_neg hv, Prod.mk.injEq, Prod.mk.injEq] at h
    obtain ⟨rfl, rfl, -⟩ := h
    have h1 := dec_rune _ hne hv
    have h2 := dec_le _ hne
    rw [List.length_drop] at h2
    exact ⟨h1.1, _, rfl, by omega, h1.2.1⟩
/-- The text of characters is valid, and has just those that are characters. -/
theorem runes_encL : ∀ zs : List Int, Lib.validD (toBs (encL zs)) = true ∧ runesD (toBs (encL zs)) = zs.filter fun n => runeOkB n
  | [] => ⟨rfl, rfl⟩
  | n :: zs => by
    have ih := runes_encL zs
    have e : toBs (encL (n :: zs)) = toBs (encZ n) ++ toBs (encL zs) := by
      show toBs (List.flatMap encZ (n :: zs)) = _
      rw [List.flatMap_cons, toBs_append]; rfl
    rw [e]
    cases h : runeOkB n with
    | false =>
      have : encZ n = [] := by unfold encZ; rw [if_neg (by rw [h]; decide)]
      rw [this, List.filter_cons, if_neg (by rw [h]; decide)]
      exact ih
    | true =>
      have hw := wideF_ok h
      have h' := runeOkB_true.1 h
      have hlen := toBs_len n
      have hne : toBs (encZ n) ++ toBs (encL zs) ≠ [] := by
        intro h0
        have := congrArg List.length h0
        rw [List.length_append, List.length_nil] at this
        omega
      have hd := dec_enc n (toBs (encL zs)) h
      have hdr := drop_enc n (toBs (encL zs))
      refine ⟨?_, ?_⟩
      · rw [Lib.validD_step _ hne, hd, if_neg (dec_enc_ok n h)]
        show Lib.validD ((toBs (encZ n) ++ toBs (encL zs)).drop (wideF n).toNat) = true
        rw [hdr]; exact ih.1
      · rw [runesD_step _ hne, hd]
        show ((n.toNat : Nat) : Int) :: runesD ((toBs (encZ n) ++ toBs (encL zs)).drop (wideF n).toNat) = _
        rw [hdr, ih.2, List.filter_cons, if_pos h]
        congr 1; omega
/-- A valid text is the text of its characters. -/
theorem encL_runes : ∀ (k : Nat) (l : List UInt8), l.length ≤ k → Lib.validD l = true → toBs (encL (runesD l)) = l
  | 0, l, hk, _ => by
    have : l = [] := List.eq_nil_of_length_eq_zero (by omega)
    subst this; rfl
  | k + 1, l, hk, hv => by
    by_cases hne : l = []
    · subst hne; rfl
    · have hl : 0 < l.length := List.length_pos_iff.2 hne
      have hw := Lib.decodeL_width l
      rw [Lib.validD_step _ hne] at hv
      split at hv
      · cases hv
      · rename_i hno
        have hne2 : Lib.decodeL l ≠ (65533, 1) := fun e => hno (by rw [e]; exact ⟨rfl, rfl⟩)
        have h1 := dec_rune l hne hne2
        have ih := encL_runes k (l.drop (Lib.decodeL l).2) (by rw [List.length_drop]; omega) hv
        rw [runesD_step _ hne]
        show toBs (List.flatMap encZ (_ :: _)) = l
        rw [List.flatMap_cons, toBs_append, h1.2.1]
        show _ ++ toBs (encL _) = l
        rw [ih, List.take_append_drop]
end Go.Proofs.YtilmhemcpgiikaaDoor
/- The draw of a text: it is a right one. -/
namespace Go.Proofs.YtilmhemcpgiikaaDoor
open Go.Deep Go.ChangeShapes Go.WideShapes Go.ChangeAt Go.RowKit

theorem encS_list (ns : List Int) : (encS ns).data.toList = toBs (encL ns) := by unfold encS; simp
theorem encS_valid (ns : List Int) : Lib.validD (encS ns).data.toList = true := by rw [encS_list]; exact (runes_encL ns).1
set_option maxRecDepth 100000 in
set_option maxHeartbeats 4000000 in
theorem l2Rune_c (P : Nat) (w : World) (hC : Cur w P) :
    Calls Tryd.prog 179 #[.pointer (some ⟨P, 0, none⟩)] w fun e w' => ∃ x : Int, e = .returned (.int .i64 x) ∧ (0 ≤ x ∧ x ≤ 1114111) ∧ Cur w' P ∧ w.grownBy w' (some P) := by
  have HC := Lib.hid hC; clear hC
  go_enter Tryd.func179, Tryd.ntmps179
  have C0 := Lib.hid HC.out
  have G0 := Lib.hid (gr_refl (w := w) (P := P))
  have HP := Lib.hid HC.out.lt
  go_wp2_with fail
  refine (l1Int_c P [0, 97, 98, 34, 92, 10, 127, 128, 233, 2047, 2048, 8364, 55295, 57344, 65535, 65536, 128512, 1114111] w.heap.size 18 _ (C0.out.alloc _) (rd_laid w _ _) (Nat.ne_of_gt C0.out.lt) (by simp) (by simp) (by simp)).mono ?_
  rintro _ w1 ⟨x, rfl, hx', C', G'⟩
  have Hx := Lib.hid hx'; clear hx'
  have C1 := Lib.hid C'; clear C'
  have G1 := Lib.hid (gr_trans (gr_on G0.out (below1 _ _)) G')
  clear G'
  have hb : 0 ≤ x ∧ x ≤ 1114111 := by have h := Hx.out; simp at h; omega
  go_wp2_with fail
  go_ret
  exact ⟨_, rfl, hb, C1.out, G1.out⟩
set_option maxRecDepth 100000 in
set_option maxHeartbeats 4000000 in
theorem l2Text_v (P : Nat) (w : World) (hC : Cur w P) :
    Calls Tryd.prog 158 #[.pointer (some ⟨P, 0, none⟩)] w fun e w' => ∃ S : ByteArray, e = .returned (.string S) ∧ (S.size ≤ 100 ∧ Lib.validD S.data.toList = true) ∧ Cur w' P ∧ w.grownBy w' (some P) := by
  have HC := Lib.hid hC; clear hC
  obtain ⟨i0, hi, hz, hsz, hb⟩ := info_parts (show (Tryd.prog.info? 3).map (fun i => (i.zero, i.size, i.bytes)) = some (some (.int .i64 0), 1, 8) by kernel_rfl)
  have HI := Lib.hid hi; clear hi
  go_enter Tryd.func158, Tryd.ntmps158
  have C0 := Lib.hid HC.out
  have G0 := Lib.hid (gr_refl (w := w) (P := P))
  have HP := Lib.hid HC.out.lt
  go_wp2_with fail
  refine (l1Once_c P 2 _ C0.out (by omega)).mono ?_
  rintro _ w1 ⟨t, rfl, C', G'⟩
  have C1 := Lib.hid C'; clear C'
  have G1 := Lib.hid (gr_trans G0.out G')
  clear G'
  cases t with
  | true =>
    go_wp2_with fail
    refine (l1Str_c P [⟨#[]⟩, ⟨#[97]⟩, ⟨#[98]⟩, ⟨#[107, 101, 121]⟩, ⟨#[120, 32, 121]⟩, ⟨#[49]⟩, ⟨#[195, 169]⟩, ⟨#[34]⟩, ⟨#[92]⟩] w1.heap.size 9 _ (C1.out.alloc _) (rs_laid w1 _ _) (Nat.ne_of_gt C1.out.lt) (by simp) (by simp) (by simp)).mono ?_
    rintro _ w2 ⟨S, rfl, hS', C', G'⟩
    have HS := Lib.hid hS'; clear hS'
    have C2 := Lib.hid C'; clear C'
    have G2 := Lib.hid (gr_trans (gr_on G1.out (below1 _ _)) G')
    clear G'
    have hl : S.size ≤ 100 ∧ Lib.validD S.data.toList = true := by have h := HS.out; simp at h; rcases h with rfl | rfl | rfl | rfl | rfl | rfl | rfl | rfl | rfl <;> exact ⟨by decide, by decide⟩
    go_wp2_with fail
    go_ret
    exact ⟨_, rfl, hl, C2.out, G2.out⟩
  | false =>
    have HM := Lib.hid (World.ownsRow_made (base := w.heap.size) (e := 3) (size := 1) w1 #[] 0 G1.out.size (by simp [maxLen]) rfl)
    go_wp2_with fail
    refine (l1Below_c P 4 _ (by exact C1.out.alloc _) (by omega)).mono ?_
    rintro _ w2 ⟨x, rfl, x0, x1, -, -, C', G'⟩
    have O2 := Lib.hid (own_gr HM.out G' HP.out)
    have C2 := Lib.hid C'
    have G2 := Lib.hid (gr_trans (gr_on G1.out (below1 _ _)) G')
    clear C' G' HM C1 G1
    replace x1 := x1 (by omega)
    go_wp2_with fail
    go_loopw [3, 4] (fun v i wr => ∃ (ns : List Int) (X : Int), ns.length + X ≤ 4 ∧ X ≤ 4 ∧ 0 ≤ X ∧ i = .int .i64 X ∧ wr.ownsRow w.heap.size 3 1 v ns.length (ns.map (Value.int .i64)) ∧ Cur wr P ∧ w.grownBy wr (some P)) (fun _ i _ => (intOf i).toNat)
    case atStart => exact ⟨[], x, by simp; omega, by omega, x0, rfl, by simpa using O2.out, C2.out, G2.out⟩
    case round =>
      obtain ⟨ns, X, hX, hX2, hX0, rfl, hown, hcur, hgr⟩ := hrel
      have OWN := Lib.hid hown; clear hown
      have CUR := Lib.hid hcur; clear hcur
      have GR := Lib.hid hgr; clear hgr
      by_cases hjl : 0 < X
      · go_wp2_with fail
        refine (l2Rune_c P _ CUR.out).mono ?_
        rintro _ w3 ⟨r, rfl, hr', C', G'⟩
        have O3 := Lib.hid (own_gr OWN.out G' HP.out)
        have C3 := Lib.hid C'; clear C'
        have G3 := Lib.hid (gr_trans GR.out G'); clear G' OWN CUR GR hr'
        go_wp2_with (at_builtin; go_must (refine wpList_append_own _ rfl (.tmp 17) (.tmp 20) 102 rfl w.heap.size 3 i0 (.int .i64 0) 1 8 Tryd.underlying102 HI.out hz hsz hb rfl (by decide) _ _ _ rfl (by exact O3.out.alloc _) ⟨w3.heap.size, 0, none⟩ 1 1 [.int .i64 r] rfl rfl (by exact World.news_of_block (heap_alloc_new _ _)) (by simp; exact rfl) (by unfold maxLen; omega) (by omega) (by have := G3.out.size; simp; omega) ?_); intro v' w4 hown2 hg2 q1; clear q1)
        have hg3 : (w3.alloc (.cells #[.int .i64 r] 3)).grownBy w4 u3.ownBlock := hg2
        have H2 := Lib.hid hown2; clear hown2
        have H3 := Lib.hid hg3; clear hg3 hg2
        go_wp2_with fail
        go_roundw
        case rel =>
          have hro : ∀ k, u3.ownBlock = some k → w.heap.size ≤ k := fun k hk => (O3.out.lt k hk).1
          refine ⟨ns ++ [r], X - 1, by simp; omega, by omega, by omega, rfl, ?_, (C3.out.alloc _).grown H3.out (fun k hk => Nat.lt_of_lt_of_le HP.out (hro k hk)), gr_new (gr_on G3.out (below1 _ _)) H3.out hro⟩
          rw [List.map_append, List.length_append]; exact H2.out
        case measure => simp [intOf]; omega
      · obtain ⟨a1, cap1, rfl, -, r1, c1, -⟩ := own_rd OWN.out
        have R1 := Lib.hid r1; clear r1
        have HLn := Lib.hid (show ns.length ≤ 4 by omega)
        go_wp2_with fail
        refine (fromRunes_spec ns a1 cap1 _ R1.out (by have := HLn.out; omega)).mono ?_
        rintro _ w9 ⟨rfl, b9⟩
        have C9 := Lib.hid (CUR.out.below b9)
        have G9 := Lib.hid (gr_on GR.out b9); clear b9
        have hl : (encS ns).size ≤ 100 ∧ Lib.validD (encS ns).data.toList = true := ⟨by have h1 := encL_len ns; have h2 := HLn.out; show (toBs (encL ns)).toArray.size ≤ 100; simp [toBs]; omega, encS_valid ns⟩
        generalize encS ns = S at *
        have HLS := Lib.hid hl; clear hl
        go_wp2_with fail
        go_ret
        exact ⟨_, rfl, HLS.out, C9.out, G9.out⟩
end Go.Proofs.YtilmhemcpgiikaaDoor
/- The draw of a tree. -/
namespace Go.Proofs.YtilmhemcpgiikaaDoor
open Go.Deep Go.ChangeShapes Go.WideShapes Go.ChangeAt Go.RowKit
open Go.ChangeMaps (open_string shut_string)

/-- What the draw of a tree answers. -/
def DPost (w : World) (P B : Nat) : Ending → World → Prop := fun e w' => ∃ (t : Tree) (u : Value), e = .returned (.agg #[.int .i64 t.kind, .int .i64 t.n, .int .i64 t.x, .string t.s, u]) ∧
  (t.ok = true ∧ t.cost ≤ B ∧ Fits t.kind t.n t.x t.s) ∧ AP w' w.heap.size 29 u t.l ∧ Cur w' P ∧ w.grownBy w' (some P)
theorem wf_lit {k : Int} (h : 0 ≤ k ∧ k ≤ 20) : wf6 k := by unfold wf6; omega
theorem flt_wf {m e : Int} (h : fltOkF m e = true) : wf6 m ∧ wf6 e := flt_rng h
theorem dec_wf {n x : Int} (h : decOkB n x = true) : wf6 n ∧ wf6 x := by have := dec_rng h; unfold wf6; omega
theorem leaf_cost (k n x : Int) (s : ByteArray) : (Tree.mk k n x s []).cost = s.size := by rw [Tree.cost_eq]; simp [costL]
theorem fitsM {k n x : Int} {s : ByteArray} {l : List Tree} (hk : wf6 k) (hn : wf6 n) (hx : wf6 x) (hs : s.size ≤ 9223372036854775807) : Fits (Tree.mk k n x s l).kind (Tree.mk k n x s l).n (Tree.mk k n x s l).x (Tree.mk k n x s l).s := ⟨hk, hn, hx, hs⟩
theorem emp_size : ({ data := #[] } : ByteArray).size = 0 := rfl
theorem cat_str {S : ByteArray} {l : List UInt8} (h : S = ⟨l.toArray⟩) : S.size = l.length := by subst h; simp [ByteArray.size]
theorem numT_all {n x : Int} (h : decOkB n x = true) : (numT n x).ok = true ∧ (numT n x).cost ≤ 0 ∧ Fits (numT n x).kind (numT n x).n (numT n x).x (numT n x).s ∧ (numT n x).l = [] := by
  have hw := dec_wf h
  refine ⟨numT_ok h, ?_⟩
  unfold numT
  split
  · exact ⟨by rw [leaf_cost]; exact Nat.le_refl _, fitsM (wf_lit (by decide)) hw.1 (wf_lit (by decide)) (by decide), rfl⟩
  · exact ⟨by rw [leaf_cost]; exact Nat.le_refl _, fitsM (wf_lit (by decide)) hw.1 hw.2 (by decide), rfl⟩
/-- One tree in a block of its own. -/
theorem tag_row {w : World} {lo : Nat} {u : Value} {t : Tree} (h : AP w lo 29 u t.l) (fit : Fits t.kind t.n t.x t.s) (hlo : lo ≤ w.heap.size) {N : Nat} (hN : w.heap.size = N) : AP (w.alloc (.cells #[.int .i64 t.kind, .int .i64 t.n, .int .i64 t.x, .string t.s, u] 29)) lo 29 (.slice (some ⟨N, 0, none⟩) 1 1) [t] := by
  subst hN
  refine ⟨[⟨t, u, Rng lo w.heap.size⟩], rfl, ⟨by simp [Elem.cells, cells5], .inr ⟨w.heap.size, 1, #[.int .i64 t.kind, .int .i64 t.n, .int .i64 t.x, .string t.s, u], rfl, hlo, heap_alloc_new _ _, Nat.le_refl _, by simp [maxLen], by simp, by simp [Elem.cells, cells5]⟩⟩, ?_, by simp⟩
  intro e he
  rw [List.mem_singleton] at he
  subst he
  refine ⟨fit, h.osl.kept (fun b hb => Below.heap_alloc _ _ _ hb.2), fun b hb => ⟨hb.1, by simp only [World.size_alloc]; have := hb.2; omega, fun e => ?_⟩⟩
  have h2 := hb.2
  simp only [Value.ownBlock, Option.some.injEq] at e
  omega
set_option maxRecDepth 100000 in
set_option maxHeartbeats 40000000 in
theorem l6Draw_step (Z : Int) (hz0 : 0 ≤ Z) (hz1 : Z ≤ 3) (B B' : Nat) (hB : 100 ≤ B) (hBB : Z ≠ 0 → 36 + 3 * B' ≤ B) (P : Nat) (IH : Z ≠ 0 → ∀ w : World, Cur w P → Calls Tryd.prog 125 #[.pointer (some ⟨P, 0, none⟩), .int .i64 (Z - 1)] w (DPost w P B')) (w : World) (hC : Cur w P) :
    Calls Tryd.prog 125 #[.pointer (some ⟨P, 0, none⟩), .int .i64 Z] w (DPost w P B) := by
  have HC := Lib.hid hC; clear hC
  have HP := Lib.hid HC.out.lt
  have LER := Lib.hid (Nat.le_refl w.heap.size)
  obtain ⟨i0, hi, hz, hs, hb⟩ := info_parts info_val
  have HI := Lib.hid hi; clear hi
  have HB1 := Lib.hid hB
  have HB4 := Lib.hid hBB; clear hBB
  have HIH := Lib.hid IH; clear IH
  go_enter Tryd.func125, Tryd.ntmps125
  go_wp2_with fail
  refine (l1Below_c P 13 _ (by exact (Cur.alloc HC.out _)) (by omega)).mono ?_
  rintro _ w1 ⟨k0, rfl, k00, k01, -, -, C', G'⟩
  have C1 := Lib.hid C'; clear C'
  have XR1 : Hid (w1.heap[w.heap.size]? = some (.cells #[.int .i64 0, .int .i64 0, .int .i64 0, .string { data := #[] }, .slice none 0 0] 29 (0, 0))) := Lib.hid (box_gr (heap_alloc_new _ _) G' (by have h1 := HP.out; have h2 := LER.out; omega))
  have G1 := Lib.hid (gr_trans (gr_alloc (gr_refl (w := w) (P := P)) _) G'); clear G'
  replace k01 := k01 (by omega)
  go_upto_if 12 with fail
  go_cut [5] (fun s5 wx => ∃ k : Int, s5 = .int .i64 k ∧ 0 ≤ k ∧ k < 13 ∧ (Z = 0 → k < 9) ∧ Hid (Cur wx P) ∧ Hid (w.grownBy wx (some P)) ∧ Hid (wx.heap[w.heap.size]? = some (.cells #[.int .i64 0, .int .i64 0, .int .i64 0, .string { data := #[] }, .slice none 0 0] 29 (0, 0))))
  case first =>
    by_cases hZ : Z = 0
    · have hzb : (Z == 0) = true := by simpa using hZ
      clear hZ
      go_wp2_with fail
      refine (l1Below_c P 9 _ (by exact C1.out) (by omega)).mono ?_
      rintro _ w2 ⟨k, rfl, k0, k1, -, -, C', G'⟩
      have C2 := Lib.hid C'; clear C'
      have XR2 : Hid (w2.heap[w.heap.size]? = some (.cells #[.int .i64 0, .int .i64 0, .int .i64 0, .string { data := #[] }, .slice none 0 0] 29 (0, 0))) := Lib.hid (box_gr XR1.out G' (by have h1 := HP.out; have h2 := LER.out; omega))
      have G2 := Lib.hid (gr_trans G1.out G'); clear G'
      replace k1 := k1 (by omega)
      go_wp2_with fail
      go_meet
      case rel => exact ⟨k, rfl, k0, by omega, fun _ => k1, C2, G2, XR2⟩
    · have hzb : (Z == 0) = false := by simpa using hZ
      have HZ := Lib.hid hZ; clear hZ
      go_wp2_with fail
      go_meet
      case rel => exact ⟨k0, rfl, by omega, by omega, fun h => absurd h HZ.out, C1, G1, XR1⟩
  case rest =>
    rename World => wb
    obtain ⟨k, rfl, hk0, hk1, hkZ, C2, G2, XR2⟩ := hcut
    clear C1 G1 XR1
    have hk : k = 0 ∨ k = 1 ∨ k = 2 ∨ k = 3 ∨ k = 4 ∨ k = 5 ∨ k = 6 ∨ k = 7 ∨ k = 8 ∨ k = 9 ∨ k = 10 ∨ k = 11 ∨ k = 12 := by omega
    rcases hk with rfl | rfl | rfl | rfl | rfl | rfl | rfl | rfl | rfl | rfl | rfl | rfl | rfl
    · have Rl := box_lt XR2.out
      obtain ⟨R0, R1, R2, R3, R4, Rf0, Rf1, Rf2, Rf3, Rf4⟩ := five_open XR2.out
      go_wp2_with fail
      refine bodyPost_ret (v := .agg #[.int .i64 1, .int .i64 0, .int .i64 0, .string { data := #[] }, .slice none 0 0]) (by simp [results, Tryd.results125, go_sem, R0, R1, R2, R3, R4]) rfl ⟨.mk 1 0 0 { data := #[] } [], _, rfl, ⟨ok_null, by rw [leaf_cost]; rw [emp_size]; omega, fitsM (wf_lit (by decide)) (wf_lit (by decide)) (wf_lit (by decide)) (by decide)⟩, AP.nil _ _ _, ?_, ?_⟩
      · repeat (first | with_reducible exact C2.out | with_reducible refine Cur.set ?_ _ (by have h1 := HP.out; have eR := LER.out; omega) | with_reducible refine Cur.alloc ?_ _ | with_reducible refine cur_drew ?_)
      · repeat (first | with_reducible exact G2.out | with_reducible refine gr_sets ?_ _ (by have eR := LER.out; omega) | with_reducible refine gr_alloc ?_ _ | with_reducible refine gr_drew ?_)
    · go_wp2_with fail
      refine (l1Below_c P 2 _ (by exact C2.out) (by omega)).mono ?_
      rintro _ w3 ⟨n, rfl, n0, n1, -, -, C', G'⟩
      have C3 := Lib.hid C'; clear C'
      have XR3 : Hid (w3.heap[w.heap.size]? = some (.cells #[.int .i64 0, .int .i64 0, .int .i64 0, .string { data := #[] }, .slice none 0 0] 29 (0, 0))) := Lib.hid (box_gr XR2.out G' (by have h1 := HP.out; have h2 := LER.out; omega))
      have G3 := Lib.hid (gr_trans G2.out G'); clear G'
      replace n1 := n1 (by omega)
      have Rl := box_lt XR3.out
      obtain ⟨R0, R1, R2, R3, R4, Rf0, Rf1, Rf2, Rf3, Rf4⟩ := five_open XR3.out
      go_wp2_with fail
      refine bodyPost_ret (v := .agg #[.int .i64 2, .int .i64 n, .int .i64 0, .string { data := #[] }, .slice none 0 0]) (by simp [results, Tryd.results125, go_sem, R0, R1, R2, R3, R4]) rfl ⟨.mk 2 n 0 { data := #[] } [], _, rfl, ⟨ok_bool (by omega), by rw [leaf_cost]; rw [emp_size]; omega, fitsM (wf_lit (by decide)) (by unfold wf6; omega) (wf_lit (by decide)) (by decide)⟩, AP.nil _ _ _, ?_, ?_⟩
      · repeat (first | with_reducible exact C3.out | with_reducible refine Cur.set ?_ _ (by have h1 := HP.out; have eR := LER.out; omega) | with_reducible refine Cur.alloc ?_ _ | with_reducible refine cur_drew ?_)
      · repeat (first | with_reducible exact G3.out | with_reducible refine gr_sets ?_ _ (by have eR := LER.out; omega) | with_reducible refine gr_alloc ?_ _ | with_reducible refine gr_drew ?_)
    · go_wp2_with fail
      refine (l1Signed_c P _ (by exact C2.out)).mono ?_
      rintro _ w3 ⟨n, rfl, hn, C', G'⟩
      have Hhn := Lib.hid hn; clear hn
      have C3 := Lib.hid C'; clear C'
      have XR3 : Hid (w3.heap[w.heap.size]? = some (.cells #[.int .i64 0, .int .i64 0, .int .i64 0, .string { data := #[] }, .slice none 0 0] 29 (0, 0))) := Lib.hid (box_gr XR2.out G' (by have h1 := HP.out; have h2 := LER.out; omega))
      have G3 := Lib.hid (gr_trans G2.out G'); clear G'
      go_wp2_with fail
      refine (spec_IntVal n _).mono ?_
      rintro _ w4 ⟨rfl, b'⟩
      have C4 := Lib.hid (Cur.below C3.out b')
      have XR4 : Hid (w4.heap[w.heap.size]? = some (.cells #[.int .i64 0, .int .i64 0, .int .i64 0, .string { data := #[] }, .slice none 0 0] 29 (0, 0))) := Lib.hid (box_below XR3.out b')
      have G4 := Lib.hid (gr_on G3.out b'); clear b'
      have Rl := box_lt XR4.out
      obtain ⟨R0, R1, R2, R3, R4, Rf0, Rf1, Rf2, Rf3, Rf4⟩ := five_open XR4.out
      go_wp2_with fail
      refine bodyPost_ret (v := .agg #[.int .i64 3, .int .i64 n, .int .i64 0, .string { data := #[] }, .slice none 0 0]) (by simp [results, Tryd.results125, go_sem, R0, R1, R2, R3, R4]) rfl ⟨.mk 3 n 0 { data := #[] } [], _, rfl, ⟨ok_int Hhn.out, by rw [leaf_cost]; rw [emp_size]; omega, fitsM (wf_lit (by decide)) (by have := Hhn.out; unfold wf6; omega) (wf_lit (by decide)) (by decide)⟩, AP.nil _ _ _, ?_, ?_⟩
      · repeat (first | with_reducible exact C4.out | with_reducible refine Cur.set ?_ _ (by have h1 := HP.out; have eR := LER.out; omega) | with_reducible refine Cur.alloc ?_ _ | with_reducible refine cur_drew ?_)
      · repeat (first | with_reducible exact G4.out | with_reducible refine gr_sets ?_ _ (by have eR := LER.out; omega) | with_reducible refine gr_alloc ?_ _ | with_reducible refine gr_drew ?_)
    · go_wp2_with fail
      refine (l1Signed_c P _ (by exact C2.out)).mono ?_
      rintro _ w3 ⟨n, rfl, hn, C', G'⟩
      have Hhn := Lib.hid hn; clear hn
      have C3 := Lib.hid C'; clear C'
      have XR3 : Hid (w3.heap[w.heap.size]? = some (.cells #[.int .i64 0, .int .i64 0, .int .i64 0, .string { data := #[] }, .slice none 0 0] 29 (0, 0))) := Lib.hid (box_gr XR2.out G' (by have h1 := HP.out; have h2 := LER.out; omega))
      have G3 := Lib.hid (gr_trans G2.out G'); clear G'
      go_wp2_with fail
      refine (spec_IntVal n _).mono ?_
      rintro _ w4 ⟨rfl, b'⟩
      have C4 := Lib.hid (Cur.below C3.out b')
      have XR4 : Hid (w4.heap[w.heap.size]? = some (.cells #[.int .i64 0, .int .i64 0, .int .i64 0, .string { data := #[] }, .slice none 0 0] 29 (0, 0))) := Lib.hid (box_below XR3.out b')
      have G4 := Lib.hid (gr_on G3.out b'); clear b'
      have Rl := box_lt XR4.out
      obtain ⟨R0, R1, R2, R3, R4, Rf0, Rf1, Rf2, Rf3, Rf4⟩ := five_open XR4.out
      go_wp2_with fail
      refine bodyPost_ret (v := .agg #[.int .i64 3, .int .i64 n, .int .i64 0, .string { data := #[] }, .slice none 0 0]) (by simp [results, Tryd.results125, go_sem, R0, R1, R2, R3, R4]) rfl ⟨.mk 3 n 0 { data := #[] } [], _, rfl, ⟨ok_int Hhn.out, by rw [leaf_cost]; rw [emp_size]; omega, fitsM (wf_lit (by decide)) (by have := Hhn.out; unfold wf6; omega) (wf_lit (by decide)) (by decide)⟩, AP.nil _ _ _, ?_, ?_⟩
      · repeat (first | with_reducible exact C4.out | with_reducible refine Cur.set ?_ _ (by have h1 := HP.out; have eR := LER.out; omega) | with_reducible refine Cur.alloc ?_ _ | with_reducible refine cur_drew ?_)
      · repeat (first | with_reducible exact G4.out | with_reducible refine gr_sets ?_ _ (by have eR := LER.out; omega) | with_reducible refine gr_alloc ?_ _ | with_reducible refine gr_drew ?_)
    · go_wp2_with fail
      refine (l5Draw_c P _ (by exact C2.out)).mono ?_
      rintro _ w3 ⟨n, x, rfl, hn, C', G'⟩
      have Hhn := Lib.hid hn; clear hn
      have C3 := Lib.hid C'; clear C'
      have XR3 : Hid (w3.heap[w.heap.size]? = some (.cells #[.int .i64 0, .int .i64 0, .int .i64 0, .string { data := #[] }, .slice none 0 0] 29 (0, 0))) := Lib.hid (box_gr XR2.out G' (by have h1 := HP.out; have h2 := LER.out; omega))
      have G3 := Lib.hid (gr_trans G2.out G'); clear G'
      go_wp2_with fail
      refine (fltVal_c n x _).mono ?_
      rintro _ w4 ⟨rfl, b'⟩
      have C4 := Lib.hid (Cur.below C3.out b')
      have XR4 : Hid (w4.heap[w.heap.size]? = some (.cells #[.int .i64 0, .int .i64 0, .int .i64 0, .string { data := #[] }, .slice none 0 0] 29 (0, 0))) := Lib.hid (box_below XR3.out b')
      have G4 := Lib.hid (gr_on G3.out b'); clear b'
      have Rl := box_lt XR4.out
      obtain ⟨R0, R1, R2, R3, R4, Rf0, Rf1, Rf2, Rf3, Rf4⟩ := five_open XR4.out
      go_wp2_with fail
      refine bodyPost_ret (v := .agg #[.int .i64 4, .int .i64 n, .int .i64 x, .string { data := #[] }, .slice none 0 0]) (by simp [results, Tryd.results125, go_sem, R0, R1, R2, R3, R4]) rfl ⟨.mk 4 n x { data := #[] } [], _, rfl, ⟨ok_flt Hhn.out, by rw [leaf_cost]; rw [emp_size]; omega, fitsM (wf_lit (by decide)) (flt_wf Hhn.out).1 (flt_wf Hhn.out).2 (by decide)⟩, AP.nil _ _ _, ?_, ?_⟩
      · repeat (first | with_reducible exact C4.out | with_reducible refine Cur.set ?_ _ (by have h1 := HP.out; have eR := LER.out; omega) | with_reducible refine Cur.alloc ?_ _ | with_reducible refine cur_drew ?_)
      · repeat (first | with_reducible exact G4.out | with_reducible refine gr_sets ?_ _ (by have eR := LER.out; omega) | with_reducible refine gr_alloc ?_ _ | with_reducible refine gr_drew ?_)
    · go_wp2_with fail
      refine (l1Below_c P 3 _ (by exact C2.out) (by omega)).mono ?_
      rintro _ w3 ⟨n, rfl, n0, n1, -, -, C', G'⟩
      have C3 := Lib.hid C'; clear C'
      have XR3 : Hid (w3.heap[w.heap.size]? = some (.cells #[.int .i64 0, .int .i64 0, .int .i64 0, .string { data := #[] }, .slice none 0 0] 29 (0, 0))) := Lib.hid (box_gr XR2.out G' (by have h1 := HP.out; have h2 := LER.out; omega))
      have G3 := Lib.hid (gr_trans G2.out G'); clear G'
      replace n1 := n1 (by omega)
      have Rl := box_lt XR3.out
      obtain ⟨R0, R1, R2, R3, R4, Rf0, Rf1, Rf2, Rf3, Rf4⟩ := five_open XR3.out
      go_wp2_with fail
      refine bodyPost_ret (v := .agg #[.int .i64 5, .int .i64 n, .int .i64 0, .string { data := #[] }, .slice none 0 0]) (by simp [results, Tryd.results125, go_sem, R0, R1, R2, R3, R4]) rfl ⟨.mk 5 n 0 { data := #[] } [], _, rfl, ⟨ok_odd (by omega), by rw [leaf_cost]; rw [emp_size]; omega, fitsM (wf_lit (by decide)) (by unfold wf6; omega) (wf_lit (by decide)) (by decide)⟩, AP.nil _ _ _, ?_, ?_⟩
      · repeat (first | with_reducible exact C3.out | with_reducible refine Cur.set ?_ _ (by have h1 := HP.out; have eR := LER.out; omega) | with_reducible refine Cur.alloc ?_ _ | with_reducible refine cur_drew ?_)
      · repeat (first | with_reducible exact G3.out | with_reducible refine gr_sets ?_ _ (by have eR := LER.out; omega) | with_reducible refine gr_alloc ?_ _ | with_reducible refine gr_drew ?_)
    · go_wp2_with fail
      refine (l5Dec_c P _ (by exact C2.out)).mono ?_
      rintro _ w3 ⟨n, x, rfl, hn, C', G'⟩
      have Hhn := Lib.hid hn; clear hn
      have C3 := Lib.hid C'; clear C'
      have XR3 : Hid (w3.heap[w.heap.size]? = some (.cells #[.int .i64 0, .int .i64 0, .int .i64 0, .string { data := #[] }, .slice none 0 0] 29 (0, 0))) := Lib.hid (box_gr XR2.out G' (by have h1 := HP.out; have h2 := LER.out; omega))
      have G3 := Lib.hid (gr_trans G2.out G'); clear G'
      have HNT : Hid ((numT n x).ok = true ∧ (numT n x).cost ≤ 0 ∧ Fits (numT n x).kind (numT n x).n (numT n x).x (numT n x).s ∧ (numT n x).l = []) := Lib.hid (numT_all Hhn.out)
      have hnv := fun ww => numVal_s n x ww
      generalize numT n x = T at *
      have HNV := Lib.hid hnv; clear hnv
      go_wp2_with fail
      refine (HNV.out _).mono ?_
      rintro _ w4 ⟨rfl, b'⟩
      have C4 := Lib.hid (Cur.below C3.out b')
      have XR4 : Hid (w4.heap[w.heap.size]? = some (.cells #[.int .i64 0, .int .i64 0, .int .i64 0, .string { data := #[] }, .slice none 0 0] 29 (0, 0))) := Lib.hid (box_below XR3.out b')
      have G4 := Lib.hid (gr_on G3.out b'); clear b'
      have Rl := box_lt XR4.out
      obtain ⟨R0, R1, R2, R3, R4, Rf0, Rf1, Rf2, Rf3, Rf4⟩ := five_open XR4.out
      go_wp2_with fail
      refine bodyPost_ret (v := .agg #[.int .i64 T.kind, .int .i64 T.n, .int .i64 T.x, .string T.s, .slice none 0 0]) (by simp [results, Tryd.results125, go_sem, R0, R1, R2, R3, R4]) rfl ⟨T, _, rfl, ⟨HNT.out.1, by have := HNT.out.2.1; omega, HNT.out.2.2.1⟩, by rw [HNT.out.2.2.2]; exact AP.nil _ _ _, ?_, ?_⟩
      · repeat (first | with_reducible exact C4.out | with_reducible refine Cur.set ?_ _ (by have h1 := HP.out; have eR := LER.out; omega) | with_reducible refine Cur.alloc ?_ _ | with_reducible refine cur_drew ?_)
      · repeat (first | with_reducible exact G4.out | with_reducible refine gr_sets ?_ _ (by have eR := LER.out; omega) | with_reducible refine gr_alloc ?_ _ | with_reducible refine gr_drew ?_)
    · go_wp2_with fail
      refine (l2Text_v P _ (by exact C2.out)).mono ?_
      rintro _ w3 ⟨S, rfl, hS, C', G'⟩
      have HhS := Lib.hid hS; clear hS
      have C3 := Lib.hid C'; clear C'
      have XR3 : Hid (w3.heap[w.heap.size]? = some (.cells #[.int .i64 0, .int .i64 0, .int .i64 0, .string { data := #[] }, .slice none 0 0] 29 (0, 0))) := Lib.hid (box_gr XR2.out G' (by have h1 := HP.out; have h2 := LER.out; omega))
      have G3 := Lib.hid (gr_trans G2.out G'); clear G'
      go_wp2_with fail
      refine (spec_TextVal S _).mono ?_
      rintro _ w4 ⟨rfl, b'⟩
      have C4 := Lib.hid (Cur.below C3.out b')
      have XR4 : Hid (w4.heap[w.heap.size]? = some (.cells #[.int .i64 0, .int .i64 0, .int .i64 0, .string { data := #[] }, .slice none 0 0] 29 (0, 0))) := Lib.hid (box_below XR3.out b')
      have G4 := Lib.hid (gr_on G3.out b'); clear b'
      have Rl := box_lt XR4.out
      obtain ⟨R0, R1, R2, R3, R4, Rf0, Rf1, Rf2, Rf3, Rf4⟩ := five_open XR4.out
      go_wp2_with fail
      refine bodyPost_ret (v := .agg #[.int .i64 7, .int .i64 0, .int .i64 0, .string S, .slice none 0 0]) (by simp [results, Tryd.results125, go_sem, R0, R1, R2, R3, R4]) rfl ⟨.mk 7 0 0 S [], _, rfl, ⟨ok_text HhS.out.2, by rw [leaf_cost]; have := HhS.out.1; omega, fitsM (wf_lit (by decide)) (wf_lit (by decide)) (wf_lit (by decide)) (by have := HhS.out.1; omega)⟩, AP.nil _ _ _, ?_, ?_⟩
      · repeat (first | with_reducible exact C4.out | with_reducible refine Cur.set ?_ _ (by have h1 := HP.out; have eR := LER.out; omega) | with_reducible refine Cur.alloc ?_ _ | with_reducible refine cur_drew ?_)
      · repeat (first | with_reducible exact G4.out | with_reducible refine gr_sets ?_ _ (by have eR := LER.out; omega) | with_reducible refine gr_alloc ?_ _ | with_reducible refine gr_drew ?_)
    · go_wp2_with fail
      refine (l1Below_c P 4 _ (by exact C2.out) (by omega)).mono ?_
      rintro _ w3 ⟨x, rfl, x0, x1, -, -, C', G'⟩
      have C3 := Lib.hid C'; clear C'
      have XR3 : Hid (w3.heap[w.heap.size]? = some (.cells #[.int .i64 0, .int .i64 0, .int .i64 0, .string { data := #[] }, .slice none 0 0] 29 (0, 0))) := Lib.hid (box_gr XR2.out G' (by have h1 := HP.out; have h2 := LER.out; omega))
      have G3 := Lib.hid (gr_trans G2.out G'); clear G'
      replace x1 := x1 (by omega)
      go_wp2_with fail
      refine (l1Bytes_c P x _ (by exact C3.out) (by omega)).mono ?_
      rintro _ w4 ⟨v, rfl, vs, lv, qv, o', C', G'⟩
      have C4 := Lib.hid C'; clear C'
      have XR4 : Hid (w4.heap[w.heap.size]? = some (.cells #[.int .i64 0, .int .i64 0, .int .i64 0, .string { data := #[] }, .slice none 0 0] 29 (0, 0))) := Lib.hid (box_gr XR3.out G' (by have h1 := HP.out; have h2 := LER.out; omega))
      have G4 := Lib.hid (gr_trans G3.out G'); clear G'
      obtain ⟨bl, rfl⟩ := bz_of vs qv
      obtain ⟨a1, cap1, rfl, -, r1, c1, -⟩ := own_rd o'
      have hst := run_str (P := Tryd.prog) Tryd.underlying39 Tryd.underlying5 Tryd.underlying9 (c := cap1) (bz_length _) r1
      have hl : (⟨bl.toArray⟩ : ByteArray).size ≤ 100 := by rw [bz_length] at lv; simp [ByteArray.size]; omega
      generalize (⟨bl.toArray⟩ : ByteArray) = S at *
      have HL := Lib.hid hl; clear hl r1 o' qv
      have Rl := box_lt XR4.out
      obtain ⟨R0, R1, R2, R3, R4, Rf0, Rf1, Rf2, Rf3, Rf4⟩ := five_open XR4.out
      go_wp2_with fail
      refine bodyPost_ret (v := .agg #[.int .i64 8, .int .i64 0, .int .i64 0, .string S, .slice none 0 0]) (by simp [results, Tryd.results125, go_sem, R0, R1, R2, R3, R4]) rfl ⟨.mk 8 0 0 S [], _, rfl, ⟨ok_bytes, by rw [leaf_cost]; have := HL.out; omega, fitsM (wf_lit (by decide)) (wf_lit (by decide)) (wf_lit (by decide)) (by have := HL.out; omega)⟩, AP.nil _ _ _, ?_, ?_⟩
      · repeat (first | with_reducible exact C4.out | with_reducible refine Cur.set ?_ _ (by have h1 := HP.out; have eR := LER.out; omega) | with_reducible refine Cur.alloc ?_ _ | with_reducible refine cur_drew ?_)
      · repeat (first | with_reducible exact G4.out | with_reducible refine gr_sets ?_ _ (by have eR := LER.out; omega) | with_reducible refine gr_alloc ?_ _ | with_reducible refine gr_drew ?_)
    · have hZne : Z ≠ 0 := fun h => by have := hkZ h; omega
      go_wp2_with fail
      refine (l1Below_c P 300 _ (by exact C2.out) (by omega)).mono ?_
      rintro _ w3 ⟨n, rfl, n0, n1, -, -, C', G'⟩
      have C3 := Lib.hid C'; clear C'
      have XR3 : Hid (w3.heap[w.heap.size]? = some (.cells #[.int .i64 0, .int .i64 0, .int .i64 0, .string { data := #[] }, .slice none 0 0] 29 (0, 0))) := Lib.hid (box_gr XR2.out G' (by have h1 := HP.out; have h2 := LER.out; omega))
      have G3 := Lib.hid (gr_trans G2.out G'); clear G'
      replace n1 := n1 (by omega)
      go_wp2_with fail
      refine (HIH.out hZne _ C3.out).mono ?_
      rintro _ w4 ⟨t, u, rfl, ht, hap, C', G'⟩
      have HT := Lib.hid ht; clear ht
      have HAP0 := Lib.hid hap; clear hap
      have hgs := G'.size
      have C4 := Lib.hid C'; clear C'
      have XR4 : Hid (w4.heap[w.heap.size]? = some (.cells #[.int .i64 0, .int .i64 0, .int .i64 0, .string { data := #[] }, .slice none 0 0] 29 (0, 0))) := Lib.hid (box_gr XR3.out G' (by have h1 := HP.out; have h2 := LER.out; omega))
      have G4 := Lib.hid (gr_trans G3.out G'); clear G'
      obtain ⟨au, cu, hu⟩ := HAP0.out.form
      have hKs : w3.heap.size ≤ w4.heap.size := hgs
      subst hu
      have HLT := Lib.hid (show w.heap.size < w3.heap.size from box_lt XR3.out)
      have Rl := box_lt XR4.out
      obtain ⟨R0, R1, R2, R3, R4, Rf0, Rf1, Rf2, Rf3, Rf4⟩ := five_open XR4.out
      go_wp2_with fail
      refine bodyPost_ret (v := .agg #[.int .i64 11, .int .i64 n, .int .i64 0, .string { data := #[] }, .slice (some ⟨w4.heap.size, 0, none⟩) 1 1]) (by simp [results, Tryd.results125, go_sem, Rl, R0, R1, R2, R3, R4]) rfl ⟨.mk 11 n 0 { data := #[] } [t], _, rfl, ⟨ok_tag (by omega) HT.out.1, by have h1 := HT.out.2.1; have h2 := HB4.out hZne; rw [Tree.cost_eq]; show _ + (1 + t.cost + 0) ≤ B; rw [show (Tree.mk 11 n 0 { data := #[] } [t]).s.size = 0 from rfl]; omega, fitsM (wf_lit (by decide)) (by unfold wf6; omega) (wf_lit (by decide)) (by decide)⟩, ?_, ?_, ?_⟩
      · refine AP.mono (lo := w3.heap.size) ?_ (by have hs2 := G3.out.size; omega)
        simp only [Tree.l_mk]
        refine tag_row ?_ HT.out.2.2 ?_ (by simp only [World.size_setCell])
        · repeat (first | with_reducible exact HAP0.out | with_reducible refine ap_set ?_ _ (by have hs2 := HLT.out; omega))
        · simp only [World.size_setCell]; exact hKs
      · repeat (first | with_reducible exact C4.out | with_reducible refine Cur.set ?_ _ (by have h1 := HP.out; omega) | with_reducible refine Cur.alloc ?_ _)
      · repeat (first | with_reducible exact G4.out | with_reducible refine gr_sets ?_ _ (Nat.le_refl _) | with_reducible refine gr_alloc ?_ _)
    · have hZne : Z ≠ 0 := fun h => by have := hkZ h; omega
      have hZ1 : 1 ≤ Z := by omega
      have LEV := Lib.hid G2.out.size
      have NERV := Lib.hid (Nat.ne_of_lt (box_lt XR2.out)); have NEVR := Lib.hid (Nat.ne_of_gt (box_lt XR2.out))
      have hRV : w.heap.size < wb.heap.size := box_lt XR2.out
      go_wp2_with fail
      refine (l1Below_c P 4 _ (by exact (Cur.alloc C2.out _)) (by omega)).mono ?_
      rintro _ w3 ⟨x0, rfl, x00, x01, -, -, C', G'⟩
      have C3 := Lib.hid C'; clear C'
      have XR3 : Hid (w3.heap[w.heap.size]? = some (.cells #[.int .i64 0, .int .i64 0, .int .i64 0, .string { data := #[] }, .slice none 0 0] 29 (0, 0))) := Lib.hid (box_gr (box_alloc XR2.out _) G' (by have h1 := HP.out; have h2 := LER.out; omega))
      have XV3 : Hid (w3.heap[wb.heap.size]? = some (.cells #[.int .i64 9, .int .i64 0, .int .i64 0, .string { data := #[] }, .slice none 0 0] 29 (0, 0))) := Lib.hid (box_gr (heap_alloc_new _ _) G' (by have h1 := HP.out; have h2 := LEV.out; omega))
      have G3 := Lib.hid (gr_trans (gr_alloc G2.out _) G'); clear G'
      replace x01 := x01 (by omega)
      have hVl := box_lt XV3.out
      have Vl := box_lt XV3.out
      obtain ⟨V0, V1, V2, V3, V4, Vf0, Vf1, Vf2, Vf3, Vf4⟩ := five_open XV3.out
      go_wp2_with fail
      clear Vl V0 V1 V2 V3 V4 Vf0 Vf1 Vf2 Vf3 Vf4
      have GB := Lib.hid (show w.heap.size ≤ wb.heap.size from G2.out.size)
      go_loopw [7] (fun i wr => ∃ (l : List Tree) (v : Value) (X : Int), i = .int .i64 X ∧ 0 ≤ X ∧ X ≤ 3 ∧ l.length + 2 * X ≤ 6 ∧ Hid (okL l = true ∧ (costL l : Int) + X * (12 + B') ≤ 3 * (12 + B') ∧ (9 = 10 → l.length % 2 = 0)) ∧ Hid (AP wr (wb.heap.size + 1) 29 v l) ∧ Hid (Cur wr P) ∧ Hid (w.grownBy wr (some P)) ∧ Hid (wr.heap[w.heap.size]? = some (.cells #[.int .i64 0, .int .i64 0, .int .i64 0, .string { data := #[] }, .slice none 0 0] 29 (0, 0))) ∧ Hid (wr.heap[wb.heap.size]? = some (.cells #[.int .i64 9, .int .i64 0, .int .i64 0, .string { data := #[] }, v] 29 (0, 0)))) (fun i _ => (intOf i).toNat)
      case atStart => exact ⟨[], _, x0, rfl, x00, by omega, by simp; omega, Lib.hid ⟨by rw [okL], by simp [costL]; exact Int.mul_le_mul_of_nonneg_right (by omega) (by omega), fun _ => rfl⟩, Lib.hid (AP.nil _ _ _), C3, G3, XR3, XV3⟩
      case round =>
        obtain ⟨l, v, X, rfl, hX0, hX3, hlX, HL, HA, CUR, GR, XR, XV⟩ := hrel
        have hVr := box_lt XV.out
        obtain ⟨a3, cap3, rfl⟩ := HA.out.form
        by_cases hX : 0 < X
        · have XR20 := XR; have XV20 := XV; have G20 := GR; have C20 := CUR
          have hPlo : P < wb.heap.size + 1 := by have h1 := HP.out; omega
          have HPL := Lib.hid hPlo; clear hPlo
          have hwlo : w.heap.size ≤ wb.heap.size + 1 := by omega
          have HWL := Lib.hid hwlo; clear hwlo
          obtain ⟨es, hes⟩ := HA.out
          have HES := Lib.hid hes; clear hes
          have XR40 := XR; have XV40 := XV; have G40 := GR; have C40 := CUR
          have Vl := box_lt XV40.out
          obtain ⟨V0, V1, V2, V3, V4, Vf0, Vf1, Vf2, Vf3, Vf4⟩ := five_open XV40.out
          go_wp2_with fail
          refine (HIH.out hZne _ (by exact CUR.out)).mono ?_
          rintro _ w41 ⟨t, u, rfl, ht, hap, C', G'⟩
          have HT := Lib.hid ht; clear ht
          have HAP := Lib.hid hap; clear hap
          have GP := Lib.hid G'
          have C41 := Lib.hid C'; clear C'
          have XR41 : Hid (w41.heap[w.heap.size]? = some (.cells #[.int .i64 0, .int .i64 0, .int .i64 0, .string { data := #[] }, .slice none 0 0] 29 (0, 0))) := Lib.hid (box_gr XR.out G' (by have h1 := HP.out; have h2 := LER.out; omega))
          have XV41 : Hid (w41.heap[wb.heap.size]? = some (.cells #[.int .i64 9, .int .i64 0, .int .i64 0, .string { data := #[] }, .slice a3 l.length cap3] 29 (0, 0))) := Lib.hid (box_gr XV.out G' (by have h1 := HP.out; have h2 := LEV.out; omega))
          have G41 := Lib.hid (gr_trans GR.out G'); clear G'
          clear XR40 XV40 G40 C40
          clear Vl V0 V1 V2 V3 V4 Vf0 Vf1 Vf2 Vf3 Vf4
          obtain ⟨au, cu, rfl⟩ := HAP.out.form
          have hsz41 := GP.out.size
          have Vl := box_lt XV41.out
          obtain ⟨V0, V1, V2, V3, V4, Vf0, Vf1, Vf2, Vf3, Vf4⟩ := five_open XV41.out
          have HB1 := Lib.hid (vbelow1 w41 (.cells #[.int .i64 t.kind, .int .i64 t.n, .int .i64 t.x, .string t.s, .slice au t.l.length cu] 29))
          have HB2 := Lib.hid (vbelow2 w41 (.cells #[.int .i64 t.kind, .int .i64 t.n, .int .i64 t.x, .string t.s, .slice au t.l.length cu] 29) (.cells #[.int .i64 t.kind, .int .i64 t.n, .int .i64 t.x, .string t.s, .slice au t.l.length cu] 29))
          have OWN := Lib.hid (draw_own HES.out HPL.out GP.out HB1.out)
          have HBK : Hid (∀ w3, ((w41.alloc (.cells #[.int .i64 t.kind, .int .i64 t.n, .int .i64 t.x, .string t.s, .slice au t.l.length cu] 29)).alloc (.cells #[.int .i64 t.kind, .int .i64 t.n, .int .i64 t.x, .string t.s, .slice au t.l.length cu] 29)).grownBy w3 (Value.ownBlock (.slice a3 l.length cap3)) → w3.heap[wb.heap.size]? = w41.heap[wb.heap.size]? ∧ w3.heap[w.heap.size]? = w41.heap[w.heap.size]?) := Lib.hid (fun w3 hg => by
            have hh : ∀ i, i < wb.heap.size + 1 → w3.heap[i]? = w41.heap[i]? := fun i hi => by
              rw [hg.block i (by simp only [World.size_alloc]; omega) (fun e => by have := (HES.out.row.lt i e.symm).1; omega), Below.heap_alloc _ _ _ (by simp only [World.size_alloc]; omega), Below.heap_alloc _ _ _ (by omega)]
            exact ⟨hh _ (by omega), hh _ (by omega)⟩)
          generalize hX' : cells5 t (.slice au t.l.length cu) = XX
          have hXl : XX.length = 1 * 5 := by rw [← hX']; rfl
          have hX1 : ∀ x ∈ XX, x.oneCell' = true := by rw [← hX']; exact one5 _ _ _ _
          have hXn : ∀ (k : Nat) v, XX[k]? = some v → ((w41.alloc (.cells #[.int .i64 t.kind, .int .i64 t.n, .int .i64 t.x, .string t.s, .slice au t.l.length cu] 29)).alloc (.cells #[.int .i64 t.kind, .int .i64 t.n, .int .i64 t.x, .string t.s, .slice au t.l.length cu] 29)).cell? ((⟨w41.heap.size + 1, 0, none⟩ : Addr).add k) = some v := by
            rw [← hX']
            exact World.news_of_block (first_blocks w41 _ _).2
          have HX := Lib.hid hX'; have HXN := Lib.hid hXn; have HX1 := Lib.hid hX1; clear hX' hXn hX1
          go_wp2_with (at_builtin; go_must (refine wpList_append_lies rfl (.tmp 93) (.tmp 95) 27 rfl (wb.heap.size + 1) 29 i0 _ 5 64 Tryd.underlying27 HI.out hz hs hb rfl (by decide) _ _ _ rfl (OWN.out.alloc _) ⟨w41.heap.size + 1, 0, none⟩ 1 1 XX rfl hXl HXN.out HX1.out (by decide) (by unfold maxLen; omega) (by omega) (by simp only [World.size_alloc]; omega) _ rfl ?_); intro g cap5 w42 hown2 hg2 hf2 hlt2; obtain ⟨z1, z2⟩ := HBK.out _ hg2; have XV42 := Lib.hid (z1.trans XV41.out); have XR42 := Lib.hid (z2.trans XR41.out); have Yl := box_lt XV42.out; obtain ⟨Y0, Y1, Y2, Y3, Y4, Yf0, Yf1, Yf2, Yf3, Yf4⟩ := five_open XV42.out; have HOWN := Lib.hid hown2; have HG2 := Lib.hid hg2; have HF2 := Lib.hid hf2; clear hown2 hg2 hf2 z1 z2)
          have DA := draw_append HES.out HP.out HWL.out (by omega) GR.out GP.out C41.out HAP.out HT.out.2.2 HB2.out (by rw [HX.out]; exact HOWN.out) HG2.out HF2.out
          have HDA := Lib.hid DA; clear DA
          go_roundw
          case rel =>
            refine ⟨l ++ [t], _, X - 1, by first | rfl | go_num, by omega, by omega, by rw [List.length_append]; simp; omega, Lib.hid ⟨by rw [okL_snoc, HL.out.1, HT.out.1]; rfl, by have h1 := HL.out.2.1; have h2 := HT.out.2.1; clear HL; rw [costL_snoc, Int.sub_mul, Int.one_mul]; generalize X * (12 + (B' : Int)) = M at *; omega, fun h => absurd h (by decide)⟩, Lib.hid (ap_set HDA.out.1 _ (by omega)), Lib.hid (Cur.set HDA.out.2.1 _ (by have h1 := HP.out; omega)), Lib.hid (gr_sets HDA.out.2.2.1 _ (by omega)), Lib.hid (box_other XR42.out _ (by omega)), Lib.hid (five_set XV42.out _)⟩
          case measure => simp [intOf]; omega
        · obtain rfl : X = 0 := by omega
          have XR20 := XR; have XV20 := XV; have G20 := GR; have C20 := CUR
          have Rl := box_lt XR20.out
          obtain ⟨R0, R1, R2, R3, R4, Rf0, Rf1, Rf2, Rf3, Rf4⟩ := five_open XR20.out
          have Vl := box_lt XV20.out
          obtain ⟨V0, V1, V2, V3, V4, Vf0, Vf1, Vf2, Vf3, Vf4⟩ := five_open XV20.out
          go_wp2_with fail
          refine bodyPost_ret (v := .agg #[.int .i64 9, .int .i64 0, .int .i64 0, .string { data := #[] }, .slice a3 l.length cap3]) (by simp [results, Tryd.results125, go_sem, R0, R1, R2, R3, R4]) rfl ⟨.mk 9 0 0 { data := #[] } l, _, rfl, ⟨ok_list HL.out.1, by have h1 := HL.out.2.1; have h2 := HB4.out hZne; rw [Tree.cost_eq]; show 0 + costL l ≤ B; omega, fitsM (wf_lit (by decide)) (wf_lit (by decide)) (wf_lit (by decide)) (by decide)⟩, ?_, ?_, ?_⟩
          · have hs2 := G2.out.size
            refine AP.mono (lo := wb.heap.size + 1) ?_ (by omega)
            simp only [Tree.l_mk]
            repeat (first | with_reducible exact HA.out | with_reducible refine ap_set ?_ _ (by omega))
          · repeat (first | with_reducible exact CUR.out | with_reducible refine Cur.set ?_ _ (by have h1 := HP.out; omega) | with_reducible refine Cur.alloc ?_ _)
          · repeat (first | with_reducible exact GR.out | with_reducible refine gr_sets ?_ _ (Nat.le_refl _) | with_reducible refine gr_alloc ?_ _)
    · have hZne : Z ≠ 0 := fun h => by have := hkZ h; omega
      have hZ1 : 1 ≤ Z := by omega
      have LEV := Lib.hid G2.out.size
      have NERV := Lib.hid (Nat.ne_of_lt (box_lt XR2.out)); have NEVR := Lib.hid (Nat.ne_of_gt (box_lt XR2.out))
      have hRV : w.heap.size < wb.heap.size := box_lt XR2.out
      go_wp2_with fail
      refine (l1Below_c P 4 _ (by exact (Cur.alloc C2.out _)) (by omega)).mono ?_
      rintro _ w3 ⟨x0, rfl, x00, x01, -, -, C', G'⟩
      have C3 := Lib.hid C'; clear C'
      have XR3 : Hid (w3.heap[w.heap.size]? = some (.cells #[.int .i64 0, .int .i64 0, .int .i64 0, .string { data := #[] }, .slice none 0 0] 29 (0, 0))) := Lib.hid (box_gr (box_alloc XR2.out _) G' (by have h1 := HP.out; have h2 := LER.out; omega))
      have XV3 : Hid (w3.heap[wb.heap.size]? = some (.cells #[.int .i64 10, .int .i64 0, .int .i64 0, .string { data := #[] }, .slice none 0 0] 29 (0, 0))) := Lib.hid (box_gr (heap_alloc_new _ _) G' (by have h1 := HP.out; have h2 := LEV.out; omega))
      have G3 := Lib.hid (gr_trans (gr_alloc G2.out _) G'); clear G'
      replace x01 := x01 (by omega)
      have hVl := box_lt XV3.out
      have Vl := box_lt XV3.out
      obtain ⟨V0, V1, V2, V3, V4, Vf0, Vf1, Vf2, Vf3, Vf4⟩ := five_open XV3.out
      go_wp2_with fail
      clear Vl V0 V1 V2 V3 V4 Vf0 Vf1 Vf2 Vf3 Vf4
      have GB := Lib.hid (show w.heap.size ≤ wb.heap.size from G2.out.size)
      go_loopw [7] (fun i wr => ∃ (l : List Tree) (v : Value) (X : Int), i = .int .i64 X ∧ 0 ≤ X ∧ X ≤ 3 ∧ l.length + 2 * X ≤ 6 ∧ Hid (okL l = true ∧ (costL l : Int) + X * (12 + B') ≤ 3 * (12 + B') ∧ (10 = 10 → l.length % 2 = 0)) ∧ Hid (AP wr (wb.heap.size + 1) 29 v l) ∧ Hid (Cur wr P) ∧ Hid (w.grownBy wr (some P)) ∧ Hid (wr.heap[w.heap.size]? = some (.cells #[.int .i64 0, .int .i64 0, .int .i64 0, .string { data := #[] }, .slice none 0 0] 29 (0, 0))) ∧ Hid (wr.heap[wb.heap.size]? = some (.cells #[.int .i64 10, .int .i64 0, .int .i64 0, .string { data := #[] }, v] 29 (0, 0)))) (fun i _ => (intOf i).toNat)
      case atStart => exact ⟨[], _, x0, rfl, x00, by omega, by simp; omega, Lib.hid ⟨by rw [okL], by simp [costL]; exact Int.mul_le_mul_of_nonneg_right (by omega) (by omega), fun _ => rfl⟩, Lib.hid (AP.nil _ _ _), C3, G3, XR3, XV3⟩
      case round =>
        obtain ⟨l, v, X, rfl, hX0, hX3, hlX, HL, HA, CUR, GR, XR, XV⟩ := hrel
        have hVr := box_lt XV.out
        obtain ⟨a3, cap3, rfl⟩ := HA.out.form
        by_cases hX : 0 < X
        · have XR20 := XR; have XV20 := XV; have G20 := GR; have C20 := CUR
          have hPlo : P < wb.heap.size + 1 := by have h1 := HP.out; omega
          have HPL := Lib.hid hPlo; clear hPlo
          have hwlo : w.heap.size ≤ wb.heap.size + 1 := by omega
          have HWL := Lib.hid hwlo; clear hwlo
          obtain ⟨es, hes⟩ := HA.out
          have HES := Lib.hid hes; clear hes
          have Vl := box_lt XV20.out
          obtain ⟨V0, V1, V2, V3, V4, Vf0, Vf1, Vf2, Vf3, Vf4⟩ := five_open XV20.out
          clear C20 G20 XR20 XV20
          go_upto_region 31 with fail
          go_cut [86] (fun s86 wx => ∃ (l2 : List Tree) (g2 c2 : Nat), l2.length = l.length + 1 ∧ Hid (okL l2 = true ∧ (costL l2 : Int) ≤ costL l + 11) ∧ Hid (AP wx (wb.heap.size + 1) 29 (.slice (some ⟨g2, 0, none⟩) l2.length c2) l2) ∧ Hid (Cur wx P) ∧ Hid (w.grownBy wx (some P)) ∧ Hid (wx.heap[w.heap.size]? = some (.cells #[.int .i64 0, .int .i64 0, .int .i64 0, .string { data := #[] }, .slice none 0 0] 29 (0, 0))) ∧ Hid (wx.heap[wb.heap.size]? = some (.cells #[.int .i64 10, .int .i64 0, .int .i64 0, .string { data := #[] }, .slice (some ⟨g2, 0, none⟩) l2.length c2] 29 (0, 0))) ∧ wr.heap.size ≤ wx.heap.size)
          case first =>
            have hCB := Lib.hid (fun wx (h : Cur wx P) => l6Name_c P wx h)
            go_region_law
              (first
               | (go_at_call 117; refine (hCB.out _ (cur_drew CUR.out)).mono ?_; rintro _ w5 ⟨t, rfl, hnm, C', G''⟩; have G' : wr.grownBy w5 (some P) := ⟨G''.os, G''.tape, G''.output, G''.size, G''.block⟩; clear G''; have HNM := Lib.hid hnm; clear hnm; have C5 := Lib.hid C'; have GP := Lib.hid G'; have XV5 := Lib.hid (box_gr XV.out G' (by have h1 := HP.out; omega)); have XR5 := Lib.hid (box_gr XR.out G' (by have h1 := HP.out; omega)); clear C' G'; have Wl := box_lt XV5.out; obtain ⟨W0, W1, W2, W3, W4, Wf0, Wf1, Wf2, Wf3, Wf4⟩ := five_open XV5.out)
               | (go_simp; go_at_call 117; refine (hCB.out _ (cur_drew CUR.out)).mono ?_; rintro _ w5 ⟨t, rfl, hnm, C', G''⟩; have G' : wr.grownBy w5 (some P) := ⟨G''.os, G''.tape, G''.output, G''.size, G''.block⟩; clear G''; have HNM := Lib.hid hnm; clear hnm; have C5 := Lib.hid C'; have GP := Lib.hid G'; have XV5 := Lib.hid (box_gr XV.out G' (by have h1 := HP.out; omega)); have XR5 := Lib.hid (box_gr XR.out G' (by have h1 := HP.out; omega)); clear C' G'; have Wl := box_lt XV5.out; obtain ⟨W0, W1, W2, W3, W4, Wf0, Wf1, Wf2, Wf3, Wf4⟩ := five_open XV5.out)
               | (refine step_append_lies _ rfl (.tmp 82) (.tmp 85) 27 rfl (wb.heap.size + 1) 29 i0 _ 5 64 Tryd.underlying27 HI.out hz hs hb rfl (by decide) _ _ _ rfl ((draw_own HES.out HPL.out GP.out (below1 _ _))) ⟨w5.heap.size, 0, none⟩ 1 1 (cells5 t (.slice none 0 0)) rfl rfl (by exact World.news_of_block (heap_alloc_new _ _)) (one5 _ _ _ _) (by decide) (by unfold maxLen; omega) (by omega) (by have := GP.out.size; simp only [World.size_alloc]; (try omega)) _ rfl ?_; intro g cap5 w6 hown2 hg2 hf2 hlt2; have hsz5 := GP.out.size; have z := fun (i : Nat) (hi : i < wb.heap.size + 1) => (hg2.block i (by simp only [World.size_alloc]; omega) (fun e => by have := (HES.out.row.lt i e.symm).1; omega)).trans (Below.heap_alloc _ _ _ (by omega)); have HZ6 := Lib.hid (And.intro (z wb.heap.size (by omega)) (z w.heap.size (by omega))); clear z; have XV6 := Lib.hid (HZ6.out.1.trans XV5.out); have Yl := box_lt XV6.out; obtain ⟨Y0, Y1, Y2, Y3, Y4, Yf0, Yf1, Yf2, Yf3, Yf4⟩ := five_open XV6.out; have HOWN := Lib.hid hown2; have HG2 := Lib.hid hg2; have HF2 := Lib.hid hf2; clear hown2 hg2 hf2))
            all_goals
              have hfit := HNM.out.fits
              have hcl := HNM.out.cost
              have DA := draw_append HES.out HP.out HWL.out (by omega) GR.out GP.out C5.out (by rw [hcl.2]; exact AP.nil _ _ _) hfit (below1 _ _) HOWN.out HG2.out HF2.out
              have HDA := Lib.hid DA; clear DA
              have hOK := HNM.out.ok
              have HCO := Lib.hid hcl; have HOK := Lib.hid hOK; clear hcl hOK hfit
              go_wp2_with fail
              go_meet
              case rel =>
                refine ⟨l ++ [t], g, cap5, by simp, Lib.hid ⟨by rw [okL_snoc, HL.out.1, HOK.out]; rfl, by rw [costL_snoc]; have := HCO.out.1; omega⟩, Lib.hid ?_, Lib.hid ?_, Lib.hid ?_, Lib.hid ?_, Lib.hid ?_, ?_⟩
                · rw [show (l ++ [t]).length = l.length + 1 by simp]; exact ap_set HDA.out.1 _ (by omega)
                · exact Cur.set HDA.out.2.1 _ (by have h1 := HP.out; omega)
                · exact gr_sets HDA.out.2.2.1 _ (by omega)
                · exact box_other (HZ6.out.2.trans XR5.out) _ (by omega)
                · rw [show (l ++ [t]).length = l.length + 1 by simp]; exact five_set XV6.out _
                · simp only [World.size_setCell]; have h1 := HG2.out.size; simp only [World.size_alloc] at h1; omega
          case rest =>
            obtain ⟨l2, g2, c2, hl2, HL2, HA2, CUR2, GR2, XR2b, XV2, hsz2⟩ := hcut
            have hl2b : l2.length + 2 * X ≤ 7 := by omega
            have HLL := Lib.hid hl2; clear hl2
            clear HES HPL HWL
            have hPlo : P < wb.heap.size + 1 := by have h1 := HP.out; omega
            have HPL := Lib.hid hPlo; clear hPlo
            have hwlo : w.heap.size ≤ wb.heap.size + 1 := by omega
            have HWL := Lib.hid hwlo; clear hwlo
            obtain ⟨es, hes⟩ := HA2.out
            have HES := Lib.hid hes; clear hes
            have hVd := box_lt XV2.out
            go_wp2_with fail
            refine (HIH.out hZne _ (by exact CUR2.out)).mono ?_
            rintro _ w41 ⟨t, u, rfl, ht, hap, C', G'⟩
            have HT := Lib.hid ht; clear ht
            have HAP := Lib.hid hap; clear hap
            have GP := Lib.hid G'
            have C41 := Lib.hid C'; clear C'
            have XR41 : Hid (w41.heap[w.heap.size]? = some (.cells #[.int .i64 0, .int .i64 0, .int .i64 0, .string { data := #[] }, .slice none 0 0] 29 (0, 0))) := Lib.hid (box_gr XR2b.out G' (by have h1 := HP.out; have h2 := LER.out; omega))
            have XV41 : Hid (w41.heap[wb.heap.size]? = some (.cells #[.int .i64 10, .int .i64 0, .int .i64 0, .string { data := #[] }, .slice (some ⟨g2, 0, none⟩) l2.length c2] 29 (0, 0))) := Lib.hid (box_gr XV2.out G' (by have h1 := HP.out; have h2 := LEV.out; omega))
            have G41 := Lib.hid (gr_trans GR2.out G'); clear G'
            obtain ⟨au, cu, rfl⟩ := HAP.out.form
            have hsz41 := GP.out.size
            have Vl := box_lt XV41.out
            obtain ⟨V0, V1, V2, V3, V4, Vf0, Vf1, Vf2, Vf3, Vf4⟩ := five_open XV41.out
            have HB1 := Lib.hid (vbelow1 w41 (.cells #[.int .i64 t.kind, .int .i64 t.n, .int .i64 t.x, .string t.s, .slice au t.l.length cu] 29))
            have HB2 := Lib.hid (vbelow2 w41 (.cells #[.int .i64 t.kind, .int .i64 t.n, .int .i64 t.x, .string t.s, .slice au t.l.length cu] 29) (.cells #[.int .i64 t.kind, .int .i64 t.n, .int .i64 t.x, .string t.s, .slice au t.l.length cu] 29))
            have OWN := Lib.hid (draw_own HES.out HPL.out GP.out HB1.out)
            have HBK : Hid (∀ w3, ((w41.alloc (.cells #[.int .i64 t.kind, .int .i64 t.n, .int .i64 t.x, .string t.s, .slice au t.l.length cu] 29)).alloc (.cells #[.int .i64 t.kind, .int .i64 t.n, .int .i64 t.x, .string t.s, .slice au t.l.length cu] 29)).grownBy w3 (Value.ownBlock (.slice (some ⟨g2, 0, none⟩) l2.length c2)) → w3.heap[wb.heap.size]? = w41.heap[wb.heap.size]? ∧ w3.heap[w.heap.size]? = w41.heap[w.heap.size]?) := Lib.hid (fun w3 hg => by
              have hh : ∀ i, i < wb.heap.size + 1 → w3.heap[i]? = w41.heap[i]? := fun i hi => by
                rw [hg.block i (by simp only [World.size_alloc]; omega) (fun e => by have := (HES.out.row.lt i e.symm).1; omega), Below.heap_alloc _ _ _ (by simp only [World.size_alloc]; omega), Below.heap_alloc _ _ _ (by omega)]
              exact ⟨hh _ (by omega), hh _ (by omega)⟩)
            generalize hX' : cells5 t (.slice au t.l.length cu) = XX
            have hXl : XX.length = 1 * 5 := by rw [← hX']; rfl
            have hX1 : ∀ x ∈ XX, x.oneCell' = true := by rw [← hX']; exact one5 _ _ _ _
            have hXn : ∀ (k : Nat) v, XX[k]? = some v → ((w41.alloc (.cells #[.int .i64 t.kind, .int .i64 t.n, .int .i64 t.x, .string t.s, .slice au t.l.length cu] 29)).alloc (.cells #[.int .i64 t.kind, .int .i64 t.n, .int .i64 t.x, .string t.s, .slice au t.l.length cu] 29)).cell? ((⟨w41.heap.size + 1, 0, none⟩ : Addr).add k) = some v := by
              rw [← hX']
              exact World.news_of_block (first_blocks w41 _ _).2
            have HX := Lib.hid hX'; have HXN := Lib.hid hXn; have HX1 := Lib.hid hX1; clear hX' hXn hX1
            go_wp2_with (at_builtin; go_must (refine wpList_append_lies rfl (.tmp 93) (.tmp 95) 27 rfl (wb.heap.size + 1) 29 i0 _ 5 64 Tryd.underlying27 HI.out hz hs hb rfl (by decide) _ _ _ rfl (OWN.out.alloc _) ⟨w41.heap.size + 1, 0, none⟩ 1 1 XX rfl hXl HXN.out HX1.out (by decide) (by unfold maxLen; omega) (by omega) (by simp only [World.size_alloc]; omega) _ rfl ?_); intro g cap5 w42 hown2 hg2 hf2 hlt2; obtain ⟨z1, z2⟩ := HBK.out _ hg2; have XV42 := Lib.hid (z1.trans XV41.out); have XR42 := Lib.hid (z2.trans XR41.out); have Yl := box_lt XV42.out; obtain ⟨Y0, Y1, Y2, Y3, Y4, Yf0, Yf1, Yf2, Yf3, Yf4⟩ := five_open XV42.out; have HOWN := Lib.hid hown2; have HG2 := Lib.hid hg2; have HF2 := Lib.hid hf2; clear hown2 hg2 hf2 z1 z2)
            have DA := draw_append HES.out HP.out HWL.out (by omega) GR2.out GP.out C41.out HAP.out HT.out.2.2 HB2.out (by rw [HX.out]; exact HOWN.out) HG2.out HF2.out
            have HDA := Lib.hid DA; clear DA
            go_roundw
            case rel =>
              refine ⟨l2 ++ [t], _, X - 1, by first | rfl | go_num, by omega, by omega, by rw [List.length_append]; have := HLL.out; simp; omega, Lib.hid ⟨by rw [okL_snoc, HL2.out.1, HT.out.1]; rfl, by have h1 := HL.out.2.1; have h2 := HT.out.2.1; have h3 := HL2.out.2; clear HL; rw [costL_snoc, Int.sub_mul, Int.one_mul]; generalize X * (12 + (B' : Int)) = M at *; omega, fun _ => by have h1 := HL.out.2.2 (by first | rfl | trivial); rw [List.length_append, HLL.out]; simp; omega⟩, Lib.hid (ap_set HDA.out.1 _ (by omega)), Lib.hid (Cur.set HDA.out.2.1 _ (by have h1 := HP.out; omega)), Lib.hid (gr_sets HDA.out.2.2.1 _ (by omega)), Lib.hid (box_other XR42.out _ (by omega)), Lib.hid (five_set XV42.out _)⟩
            case measure => simp [intOf]; omega
        · obtain rfl : X = 0 := by omega
          have XR20 := XR; have XV20 := XV; have G20 := GR; have C20 := CUR
          have Rl := box_lt XR20.out
          obtain ⟨R0, R1, R2, R3, R4, Rf0, Rf1, Rf2, Rf3, Rf4⟩ := five_open XR20.out
          have Vl := box_lt XV20.out
          obtain ⟨V0, V1, V2, V3, V4, Vf0, Vf1, Vf2, Vf3, Vf4⟩ := five_open XV20.out
          go_wp2_with fail
          refine bodyPost_ret (v := .agg #[.int .i64 10, .int .i64 0, .int .i64 0, .string { data := #[] }, .slice a3 l.length cap3]) (by simp [results, Tryd.results125, go_sem, R0, R1, R2, R3, R4]) rfl ⟨.mk 10 0 0 { data := #[] } l, _, rfl, ⟨ok_map HL.out.1 (HL.out.2.2 (by first | rfl | trivial)), by have h1 := HL.out.2.1; have h2 := HB4.out hZne; rw [Tree.cost_eq]; show 0 + costL l ≤ B; omega, fitsM (wf_lit (by decide)) (wf_lit (by decide)) (wf_lit (by decide)) (by decide)⟩, ?_, ?_, ?_⟩
          · have hs2 := G2.out.size
            refine AP.mono (lo := wb.heap.size + 1) ?_ (by omega)
            simp only [Tree.l_mk]
            repeat (first | with_reducible exact HA.out | with_reducible refine ap_set ?_ _ (by omega))
          · repeat (first | with_reducible exact CUR.out | with_reducible refine Cur.set ?_ _ (by have h1 := HP.out; omega) | with_reducible refine Cur.alloc ?_ _)
          · repeat (first | with_reducible exact GR.out | with_reducible refine gr_sets ?_ _ (Nat.le_refl _) | with_reducible refine gr_alloc ?_ _)
    · have hZne : Z ≠ 0 := fun h => by have := hkZ h; omega
      have hZ1 : 1 ≤ Z := by omega
      have LEV := Lib.hid G2.out.size
      have NERV := Lib.hid (Nat.ne_of_lt (box_lt XR2.out)); have NEVR := Lib.hid (Nat.ne_of_gt (box_lt XR2.out))
      have hRV : w.heap.size < wb.heap.size := box_lt XR2.out
      go_wp2_with fail
      refine (l1Below_c P 4 _ (by exact (Cur.alloc C2.out _)) (by omega)).mono ?_
      rintro _ w3 ⟨x0, rfl, x00, x01, -, -, C', G'⟩
      have C3 := Lib.hid C'; clear C'
      have XR3 : Hid (w3.heap[w.heap.size]? = some (.cells #[.int .i64 0, .int .i64 0, .int .i64 0, .string { data := #[] }, .slice none 0 0] 29 (0, 0))) := Lib.hid (box_gr (box_alloc XR2.out _) G' (by have h1 := HP.out; have h2 := LER.out; omega))
      have XV3 : Hid (w3.heap[wb.heap.size]? = some (.cells #[.int .i64 10, .int .i64 0, .int .i64 0, .string { data := #[] }, .slice none 0 0] 29 (0, 0))) := Lib.hid (box_gr (heap_alloc_new _ _) G' (by have h1 := HP.out; have h2 := LEV.out; omega))
      have G3 := Lib.hid (gr_trans (gr_alloc G2.out _) G'); clear G'
      replace x01 := x01 (by omega)
      have hVl := box_lt XV3.out
      have Vl := box_lt XV3.out
      obtain ⟨V0, V1, V2, V3, V4, Vf0, Vf1, Vf2, Vf3, Vf4⟩ := five_open XV3.out
      go_wp2_with fail
      clear Vl V0 V1 V2 V3 V4 Vf0 Vf1 Vf2 Vf3 Vf4
      have GB := Lib.hid (show w.heap.size ≤ wb.heap.size from G2.out.size)
      go_loopw [7] (fun i wr => ∃ (l : List Tree) (v : Value) (X : Int), i = .int .i64 X ∧ 0 ≤ X ∧ X ≤ 3 ∧ l.length + 2 * X ≤ 6 ∧ Hid (okL l = true ∧ (costL l : Int) + X * (12 + B') ≤ 3 * (12 + B') ∧ (10 = 10 → l.length % 2 = 0)) ∧ Hid (AP wr (wb.heap.size + 1) 29 v l) ∧ Hid (Cur wr P) ∧ Hid (w.grownBy wr (some P)) ∧ Hid (wr.heap[w.heap.size]? = some (.cells #[.int .i64 0, .int .i64 0, .int .i64 0, .string { data := #[] }, .slice none 0 0] 29 (0, 0))) ∧ Hid (wr.heap[wb.heap.size]? = some (.cells #[.int .i64 10, .int .i64 0, .int .i64 0, .string { data := #[] }, v] 29 (0, 0)))) (fun i _ => (intOf i).toNat)
      case atStart => exact ⟨[], _, x0, rfl, x00, by omega, by simp; omega, Lib.hid ⟨by rw [okL], by simp [costL]; exact Int.mul_le_mul_of_nonneg_right (by omega) (by omega), fun _ => rfl⟩, Lib.hid (AP.nil _ _ _), C3, G3, XR3, XV3⟩
      case round =>
        obtain ⟨l, v, X, rfl, hX0, hX3, hlX, HL, HA, CUR, GR, XR, XV⟩ := hrel
        have hVr := box_lt XV.out
        obtain ⟨a3, cap3, rfl⟩ := HA.out.form
        by_cases hX : 0 < X
        · have XR20 := XR; have XV20 := XV; have G20 := GR; have C20 := CUR
          have hPlo : P < wb.heap.size + 1 := by have h1 := HP.out; omega
          have HPL := Lib.hid hPlo; clear hPlo
          have hwlo : w.heap.size ≤ wb.heap.size + 1 := by omega
          have HWL := Lib.hid hwlo; clear hwlo
          obtain ⟨es, hes⟩ := HA.out
          have HES := Lib.hid hes; clear hes
          have Vl := box_lt XV20.out
          obtain ⟨V0, V1, V2, V3, V4, Vf0, Vf1, Vf2, Vf3, Vf4⟩ := five_open XV20.out
          clear C20 G20 XR20 XV20
          go_upto_region 31 with fail
          go_cut [86] (fun s86 wx => ∃ (l2 : List Tree) (g2 c2 : Nat), l2.length = l.length + 1 ∧ Hid (okL l2 = true ∧ (costL l2 : Int) ≤ costL l + 11) ∧ Hid (AP wx (wb.heap.size + 1) 29 (.slice (some ⟨g2, 0, none⟩) l2.length c2) l2) ∧ Hid (Cur wx P) ∧ Hid (w.grownBy wx (some P)) ∧ Hid (wx.heap[w.heap.size]? = some (.cells #[.int .i64 0, .int .i64 0, .int .i64 0, .string { data := #[] }, .slice none 0 0] 29 (0, 0))) ∧ Hid (wx.heap[wb.heap.size]? = some (.cells #[.int .i64 10, .int .i64 0, .int .i64 0, .string { data := #[] }, .slice (some ⟨g2, 0, none⟩) l2.length c2] 29 (0, 0))) ∧ wr.heap.size ≤ wx.heap.size)
          case first =>
            have hCB := Lib.hid (fun wx (h : Cur wx P) => l6Name_c P wx h)
            go_region_law
              (first
               | (go_at_call 117; refine (hCB.out _ (cur_drew CUR.out)).mono ?_; rintro _ w5 ⟨t, rfl, hnm, C', G''⟩; have G' : wr.grownBy w5 (some P) := ⟨G''.os, G''.tape, G''.output, G''.size, G''.block⟩; clear G''; have HNM := Lib.hid hnm; clear hnm; have C5 := Lib.hid C'; have GP := Lib.hid G'; have XV5 := Lib.hid (box_gr XV.out G' (by have h1 := HP.out; omega)); have XR5 := Lib.hid (box_gr XR.out G' (by have h1 := HP.out; omega)); clear C' G'; have Wl := box_lt XV5.out; obtain ⟨W0, W1, W2, W3, W4, Wf0, Wf1, Wf2, Wf3, Wf4⟩ := five_open XV5.out)
               | (go_simp; go_at_call 117; refine (hCB.out _ (cur_drew CUR.out)).mono ?_; rintro _ w5 ⟨t, rfl, hnm, C', G''⟩; have G' : wr.grownBy w5 (some P) := ⟨G''.os, G''.tape, G''.output, G''.size, G''.block⟩; clear G''; have HNM := Lib.hid hnm; clear hnm; have C5 := Lib.hid C'; have GP := Lib.hid G'; have XV5 := Lib.hid (box_gr XV.out G' (by have h1 := HP.out; omega)); have XR5 := Lib.hid (box_gr XR.out G' (by have h1 := HP.out; omega)); clear C' G'; have Wl := box_lt XV5.out; obtain ⟨W0, W1, W2, W3, W4, Wf0, Wf1, Wf2, Wf3, Wf4⟩ := five_open XV5.out)
               | (refine step_append_lies _ rfl (.tmp 82) (.tmp 85) 27 rfl (wb.heap.size + 1) 29 i0 _ 5 64 Tryd.underlying27 HI.out hz hs hb rfl (by decide) _ _ _ rfl ((draw_own HES.out HPL.out GP.out (below1 _ _))) ⟨w5.heap.size, 0, none⟩ 1 1 (cells5 t (.slice none 0 0)) rfl rfl (by exact World.news_of_block (heap_alloc_new _ _)) (one5 _ _ _ _) (by decide) (by unfold maxLen; omega) (by omega) (by have := GP.out.size; simp only [World.size_alloc]; (try omega)) _ rfl ?_; intro g cap5 w6 hown2 hg2 hf2 hlt2; have hsz5 := GP.out.size; have z := fun (i : Nat) (hi : i < wb.heap.size + 1) => (hg2.block i (by simp only [World.size_alloc]; omega) (fun e => by have := (HES.out.row.lt i e.symm).1; omega)).trans (Below.heap_alloc _ _ _ (by omega)); have HZ6 := Lib.hid (And.intro (z wb.heap.size (by omega)) (z w.heap.size (by omega))); clear z; have XV6 := Lib.hid (HZ6.out.1.trans XV5.out); have Yl := box_lt XV6.out; obtain ⟨Y0, Y1, Y2, Y3, Y4, Yf0, Yf1, Yf2, Yf3, Yf4⟩ := five_open XV6.out; have HOWN := Lib.hid hown2; have HG2 := Lib.hid hg2; have HF2 := Lib.hid hf2; clear hown2 hg2 hf2))
            all_goals
              have hfit := HNM.out.fits
              have hcl := HNM.out.cost
              have DA := draw_append HES.out HP.out HWL.out (by omega) GR.out GP.out C5.out (by rw [hcl.2]; exact AP.nil _ _ _) hfit (below1 _ _) HOWN.out HG2.out HF2.out
              have HDA := Lib.hid DA; clear DA
              have hOK := HNM.out.ok
              have HCO := Lib.hid hcl; have HOK := Lib.hid hOK; clear hcl hOK hfit
              go_wp2_with fail
              go_meet
              case rel =>
                refine ⟨l ++ [t], g, cap5, by simp, Lib.hid ⟨by rw [okL_snoc, HL.out.1, HOK.out]; rfl, by rw [costL_snoc]; have := HCO.out.1; omega⟩, Lib.hid ?_, Lib.hid ?_, Lib.hid ?_, Lib.hid ?_, Lib.hid ?_, ?_⟩
                · rw [show (l ++ [t]).length = l.length + 1 by simp]; exact ap_set HDA.out.1 _ (by omega)
                · exact Cur.set HDA.out.2.1 _ (by have h1 := HP.out; omega)
                · exact gr_sets HDA.out.2.2.1 _ (by omega)
                · exact box_other (HZ6.out.2.trans XR5.out) _ (by omega)
                · rw [show (l ++ [t]).length = l.length + 1 by simp]; exact five_set XV6.out _
                · simp only [World.size_setCell]; have h1 := HG2.out.size; simp only [World.size_alloc] at h1; omega
          case rest =>
            obtain ⟨l2, g2, c2, hl2, HL2, HA2, CUR2, GR2, XR2b, XV2, hsz2⟩ := hcut
            have hl2b : l2.length + 2 * X ≤ 7 := by omega
            have HLL := Lib.hid hl2; clear hl2
            clear HES HPL HWL
            have hPlo : P < wb.heap.size + 1 := by have h1 := HP.out; omega
            have HPL := Lib.hid hPlo; clear hPlo
            have hwlo : w.heap.size ≤ wb.heap.size + 1 := by omega
            have HWL := Lib.hid hwlo; clear hwlo
            obtain ⟨es, hes⟩ := HA2.out
            have HES := Lib.hid hes; clear hes
            have hVd := box_lt XV2.out
            go_wp2_with fail
            refine (HIH.out hZne _ (by exact CUR2.out)).mono ?_
            rintro _ w41 ⟨t, u, rfl, ht, hap, C', G'⟩
            have HT := Lib.hid ht; clear ht
            have HAP := Lib.hid hap; clear hap
            have GP := Lib.hid G'
            have C41 := Lib.hid C'; clear C'
            have XR41 : Hid (w41.heap[w.heap.size]? = some (.cells #[.int .i64 0, .int .i64 0, .int .i64 0, .string { data := #[] }, .slice none 0 0] 29 (0, 0))) := Lib.hid (box_gr XR2b.out G' (by have h1 := HP.out; have h2 := LER.out; omega))
            have XV41 : Hid (w41.heap[wb.heap.size]? = some (.cells #[.int .i64 10, .int .i64 0, .int .i64 0, .string { data := #[] }, .slice (some ⟨g2, 0, none⟩) l2.length c2] 29 (0, 0))) := Lib.hid (box_gr XV2.out G' (by have h1 := HP.out; have h2 := LEV.out; omega))
            have G41 := Lib.hid (gr_trans GR2.out G'); clear G'
            obtain ⟨au, cu, rfl⟩ := HAP.out.form
            have hsz41 := GP.out.size
            have Vl := box_lt XV41.out
            obtain ⟨V0, V1, V2, V3, V4, Vf0, Vf1, Vf2, Vf3, Vf4⟩ := five_open XV41.out
            have HB1 := Lib.hid (vbelow1 w41 (.cells #[.int .i64 t.kind, .int .i64 t.n, .int .i64 t.x, .string t.s, .slice au t.l.length cu] 29))
            have HB2 := Lib.hid (vbelow2 w41 (.cells #[.int .i64 t.kind, .int .i64 t.n, .int .i64 t.x, .string t.s, .slice au t.l.length cu] 29) (.cells #[.int .i64 t.kind, .int .i64 t.n, .int .i64 t.x, .string t.s, .slice au t.l.length cu] 29))
            have OWN := Lib.hid (draw_own HES.out HPL.out GP.out HB1.out)
            have HBK : Hid (∀ w3, ((w41.alloc (.cells #[.int .i64 t.kind, .int .i64 t.n, .int .i64 t.x, .string t.s, .slice au t.l.length cu] 29)).alloc (.cells #[.int .i64 t.kind, .int .i64 t.n, .int .i64 t.x, .string t.s, .slice au t.l.length cu] 29)).grownBy w3 (Value.ownBlock (.slice (some ⟨g2, 0, none⟩) l2.length c2)) → w3.heap[wb.heap.size]? = w41.heap[wb.heap.size]? ∧ w3.heap[w.heap.size]? = w41.heap[w.heap.size]?) := Lib.hid (fun w3 hg => by
              have hh : ∀ i, i < wb.heap.size + 1 → w3.heap[i]? = w41.heap[i]? := fun i hi => by
                rw [hg.block i (by simp only [World.size_alloc]; omega) (fun e => by have := (HES.out.row.lt i e.symm).1; omega), Below.heap_alloc _ _ _ (by simp only [World.size_alloc]; omega), Below.heap_alloc _ _ _ (by omega)]
              exact ⟨hh _ (by omega), hh _ (by omega)⟩)
            generalize hX' : cells5 t (.slice au t.l.length cu) = XX
            have hXl : XX.length = 1 * 5 := by rw [← hX']; rfl
            have hX1 : ∀ x ∈ XX, x.oneCell' = true := by rw [← hX']; exact one5 _ _ _ _
            have hXn : ∀ (k : Nat) v, XX[k]? = some v → ((w41.alloc (.cells #[.int .i64 t.kind, .int .i64 t.n, .int .i64 t.x, .string t.s, .slice au t.l.length cu] 29)).alloc (.cells #[.int .i64 t.kind, .int .i64 t.n, .int .i64 t.x, .string t.s, .slice au t.l.length cu] 29)).cell? ((⟨w41.heap.size + 1, 0, none⟩ : Addr).add k) = some v := by
              rw [← hX']
              exact World.news_of_block (first_blocks w41 _ _).2
            have HX := Lib.hid hX'; have HXN := Lib.hid hXn; have HX1 := Lib.hid hX1; clear hX' hXn hX1
            go_wp2_with (at_builtin; go_must (refine wpList_append_lies rfl (.tmp 93) (.tmp 95) 27 rfl (wb.heap.size + 1) 29 i0 _ 5 64 Tryd.underlying27 HI.out hz hs hb rfl (by decide) _ _ _ rfl (OWN.out.alloc _) ⟨w41.heap.size + 1, 0, none⟩ 1 1 XX rfl hXl HXN.out HX1.out (by decide) (by unfold maxLen; omega) (by omega) (by simp only [World.size_alloc]; omega) _ rfl ?_); intro g cap5 w42 hown2 hg2 hf2 hlt2; obtain ⟨z1, z2⟩ := HBK.out _ hg2; have XV42 := Lib.hid (z1.trans XV41.out); have XR42 := Lib.hid (z2.trans XR41.out); have Yl := box_lt XV42.out; obtain ⟨Y0, Y1, Y2, Y3, Y4, Yf0, Yf1, Yf2, Yf3, Yf4⟩ := five_open XV42.out; have HOWN := Lib.hid hown2; have HG2 := Lib.hid hg2; have HF2 := Lib.hid hf2; clear hown2 hg2 hf2 z1 z2)
            have DA := draw_append HES.out HP.out HWL.out (by omega) GR2.out GP.out C41.out HAP.out HT.out.2.2 HB2.out (by rw [HX.out]; exact HOWN.out) HG2.out HF2.out
            have HDA := Lib.hid DA; clear DA
            go_roundw
            case rel =>
              refine ⟨l2 ++ [t], _, X - 1, by first | rfl | go_num, by omega, by omega, by rw [List.length_append]; have := HLL.out; simp; omega, Lib.hid ⟨by rw [okL_snoc, HL2.out.1, HT.out.1]; rfl, by have h1 := HL.out.2.1; have h2 := HT.out.2.1; have h3 := HL2.out.2; clear HL; rw [costL_snoc, Int.sub_mul, Int.one_mul]; generalize X * (12 + (B' : Int)) = M at *; omega, fun _ => by have h1 := HL.out.2.2 (by first | rfl | trivial); rw [List.length_append, HLL.out]; simp; omega⟩, Lib.hid (ap_set HDA.out.1 _ (by omega)), Lib.hid (Cur.set HDA.out.2.1 _ (by have h1 := HP.out; omega)), Lib.hid (gr_sets HDA.out.2.2.1 _ (by omega)), Lib.hid (box_other XR42.out _ (by omega)), Lib.hid (five_set XV42.out _)⟩
            case measure => simp [intOf]; omega
        · obtain rfl : X = 0 := by omega
          have XR20 := XR; have XV20 := XV; have G20 := GR; have C20 := CUR
          have Rl := box_lt XR20.out
          obtain ⟨R0, R1, R2, R3, R4, Rf0, Rf1, Rf2, Rf3, Rf4⟩ := five_open XR20.out
          have Vl := box_lt XV20.out
          obtain ⟨V0, V1, V2, V3, V4, Vf0, Vf1, Vf2, Vf3, Vf4⟩ := five_open XV20.out
          go_wp2_with fail
          refine bodyPost_ret (v := .agg #[.int .i64 10, .int .i64 0, .int .i64 0, .string { data := #[] }, .slice a3 l.length cap3]) (by simp [results, Tryd.results125, go_sem, R0, R1, R2, R3, R4]) rfl ⟨.mk 10 0 0 { data := #[] } l, _, rfl, ⟨ok_map HL.out.1 (HL.out.2.2 (by first | rfl | trivial)), by have h1 := HL.out.2.1; have h2 := HB4.out hZne; rw [Tree.cost_eq]; show 0 + costL l ≤ B; omega, fitsM (wf_lit (by decide)) (wf_lit (by decide)) (wf_lit (by decide)) (by decide)⟩, ?_, ?_, ?_⟩
          · have hs2 := G2.out.size
            refine AP.mono (lo := wb.heap.size + 1) ?_ (by omega)
            simp only [Tree.l_mk]
            repeat (first | with_reducible exact HA.out | with_reducible refine ap_set ?_ _ (by omega))
          · repeat (first | with_reducible exact CUR.out | with_reducible refine Cur.set ?_ _ (by have h1 := HP.out; omega) | with_reducible refine Cur.alloc ?_ _)
          · repeat (first | with_reducible exact GR.out | with_reducible refine gr_sets ?_ _ (Nat.le_refl _) | with_reducible refine gr_alloc ?_ _)
end Go.Proofs.YtilmhemcpgiikaaDoor
/- The draws of a tree and of a tree that may be wrong. -/
namespace Go.Proofs.YtilmhemcpgiikaaDoor
open Go.Deep Go.ChangeShapes Go.WideShapes Go.ChangeAt Go.RowKit
open Go.ChangeMaps (open_string shut_string)

theorem DPost.mono {w : World} {P B B' : Nat} (h : B ≤ B') {e : Ending} {w' : World} (hp : DPost w P B e w') : DPost w P B' e w' := by
  obtain ⟨t, u, h1, ⟨h2, h3, h4⟩, h5⟩ := hp
  exact ⟨t, u, h1, ⟨h2, by omega, h4⟩, h5⟩
theorem l6Draw_0 (P : Nat) (w : World) (hC : Cur w P) : Calls Tryd.prog 125 #[.pointer (some ⟨P, 0, none⟩), .int .i64 0] w (DPost w P 100) :=
  l6Draw_step 0 (by decide) (by decide) 100 0 (by decide) (fun h => absurd rfl h) P (fun h => absurd rfl h) w hC
theorem l6Draw_1 (P : Nat) (w : World) (hC : Cur w P) : Calls Tryd.prog 125 #[.pointer (some ⟨P, 0, none⟩), .int .i64 1] w (DPost w P 400) :=
  l6Draw_step 1 (by decide) (by decide) 400 100 (by decide) (fun _ => by decide) P (fun _ w h => l6Draw_0 P w h) w hC
theorem l6Draw_2 (P : Nat) (w : World) (hC : Cur w P) : Calls Tryd.prog 125 #[.pointer (some ⟨P, 0, none⟩), .int .i64 2] w (DPost w P 1600) :=
  l6Draw_step 2 (by decide) (by decide) 1600 400 (by decide) (fun _ => by decide) P (fun _ w h => l6Draw_1 P w h) w hC
theorem l6Draw_3 (P : Nat) (w : World) (hC : Cur w P) : Calls Tryd.prog 125 #[.pointer (some ⟨P, 0, none⟩), .int .i64 3] w (DPost w P 6400) :=
  l6Draw_step 3 (by decide) (by decide) 6400 1600 (by decide) (fun _ => by decide) P (fun _ w h => l6Draw_2 P w h) w hC
theorem l6Draw_c (Z : Int) (h0 : 0 ≤ Z) (h1 : Z ≤ 3) (P : Nat) (w : World) (hC : Cur w P) : Calls Tryd.prog 125 #[.pointer (some ⟨P, 0, none⟩), .int .i64 Z] w (DPost w P 6400) := by
  have hz : Z = 0 ∨ Z = 1 ∨ Z = 2 ∨ Z = 3 := by omega
  rcases hz with rfl | rfl | rfl | rfl
  · exact (l6Draw_0 P w hC).mono fun e w' h => h.mono (by decide)
  · exact (l6Draw_1 P w hC).mono fun e w' h => h.mono (by decide)
  · exact (l6Draw_2 P w hC).mono fun e w' h => h.mono (by decide)
  · exact l6Draw_3 P w hC
/-- What the draw of any tree answers. -/
def APost (w : World) (P B : Nat) : Ending → World → Prop := fun e w' => ∃ (t : Tree) (u : Value), e = .returned (.agg #[.int .i64 t.kind, .int .i64 t.n, .int .i64 t.x, .string t.s, u]) ∧
  (t.cost ≤ B ∧ Fits t.kind t.n t.x t.s) ∧ AP w' w.heap.size 29 u t.l ∧ Cur w' P ∧ w.grownBy w' (some P)
theorem len_cost (t : Tree) : t.l.length ≤ t.cost := by have := Tree.cost_eq t; have := costL_eq t.l; omega
set_option maxRecDepth 100000 in
set_option maxHeartbeats 8000000 in
theorem l6Val_c (P : Nat) (w : World) (hC : Cur w P) :
    Calls Tryd.prog 126 #[.pointer (some ⟨P, 0, none⟩)] w (DPost w P 6400) := by
  have HC := Lib.hid hC; clear hC
  have HP := Lib.hid HC.out.lt
  have LER := Lib.hid (Nat.le_refl w.heap.size)
  go_enter Tryd.func126, Tryd.ntmps126
  go_wp2_with fail
  refine (l1Below_c P 4 _ (by exact (Cur.alloc HC.out _)) (by omega)).mono ?_
  rintro _ w1 ⟨z, rfl, z0, z1, -, -, C', G'⟩
  have C1 := Lib.hid C'; clear C'
  have XR1 : Hid (w1.heap[w.heap.size]? = some (.cells #[.int .i64 0, .int .i64 0, .int .i64 0, .string { data := #[] }, .slice none 0 0] 29 (0, 0))) := Lib.hid (box_gr (heap_alloc_new _ _) G' (by have h1 := HP.out; have h2 := LER.out; omega))
  have G1 := Lib.hid (gr_trans (gr_alloc (gr_refl (w := w) (P := P)) _) G'); clear G'
  replace z1 := z1 (by omega)
  go_wp2_with fail
  refine (l6Draw_c z (by omega) (by omega) P _ (by exact C1.out)).mono ?_
  rintro _ w2 ⟨t, u, rfl, ht, hap, C', G'⟩
  have HT := Lib.hid ht; clear ht
  have HAP := Lib.hid hap; clear hap
  have C2 := Lib.hid C'; clear C'
  have XR2 : Hid (w2.heap[w.heap.size]? = some (.cells #[.int .i64 0, .int .i64 0, .int .i64 0, .string { data := #[] }, .slice none 0 0] 29 (0, 0))) := Lib.hid (box_gr XR1.out G' (by have h1 := HP.out; have h2 := LER.out; omega))
  have G2 := Lib.hid (gr_trans G1.out G'); clear G'
  obtain ⟨au, cu, rfl⟩ := HAP.out.form
  have hlo := G1.out.size
  have hRl1 := box_lt XR1.out
  have Rl := box_lt XR2.out
  obtain ⟨R0, R1, R2, R3, R4, Rf0, Rf1, Rf2, Rf3, Rf4⟩ := five_open XR2.out
  go_wp2_with fail
  refine bodyPost_ret (v := .agg #[.int .i64 t.kind, .int .i64 t.n, .int .i64 t.x, .string t.s, .slice au t.l.length cu]) (by simp [results, Tryd.results126, go_sem, R0, R1, R2, R3, R4]) rfl ⟨t, _, rfl, HT.out, ?_, ?_, ?_⟩
  · refine AP.mono (lo := w1.heap.size) ?_ (by omega)
    refine Kp.ap ?_ HAP.out
    repeat (first | with_reducible exact (Kp.refl w2 (w1.heap.size)) | with_reducible refine Kp.set ?_ _ (by omega) | with_reducible refine Kp.alloc ?_ _)
  · repeat (first | with_reducible exact C2.out | with_reducible refine Cur.set ?_ _ (by have h1 := HP.out; have eR := LER.out; omega) | with_reducible refine Cur.alloc ?_ _ | with_reducible refine cur_drew ?_)
  · repeat (first | with_reducible exact G2.out | with_reducible refine gr_sets ?_ _ (by have eR := LER.out; omega) | with_reducible refine gr_alloc ?_ _ | with_reducible refine gr_drew ?_)
set_option maxRecDepth 100000 in
set_option maxHeartbeats 40000000 in
theorem l6Any_c (P : Nat) (w : World) (hC : Cur w P) :
    Calls Tryd.prog 124 #[.pointer (some ⟨P, 0, none⟩)] w (APost w P 6600) := by
  have HC := Lib.hid hC; clear hC
  have HP := Lib.hid HC.out.lt
  have LER := Lib.hid (Nat.le_refl w.heap.size)
  obtain ⟨i0, hi, hz, hs, hb⟩ := info_parts info_val
  have HI := Lib.hid hi; clear hi
  go_enter Tryd.func124, Tryd.ntmps124
  go_wp2_with fail
  refine (l6Val_c P _ (by exact (Cur.alloc HC.out _))).mono ?_
  rintro _ w1 ⟨t, u, rfl, ht, hap, C', G'⟩
  have HT := Lib.hid ht; clear ht
  simp only [World.size_alloc] at hap
  have HAP := Lib.hid hap; clear hap
  have hs01 := G'.size
  simp only [World.size_alloc] at hs01
  have C1 := Lib.hid C'; clear C'
  have XR1 : Hid (w1.heap[w.heap.size]? = some (.cells #[.int .i64 0, .int .i64 0, .int .i64 0, .string { data := #[] }, .slice none 0 0] 29 (0, 0))) := Lib.hid (box_gr (heap_alloc_new _ _) G' (by have h1 := HP.out; have h2 := LER.out; omega))
  have G1 := Lib.hid (gr_trans (gr_alloc (gr_refl (w := w) (P := P)) _) G'); clear G'
  obtain ⟨au, cu, rfl⟩ := HAP.out.form
  have LPT := Lib.hid (show P < w.heap.size + 1 by have h1 := HP.out; omega)
  have hRV : w.heap.size < w1.heap.size := by omega
  have NERV := Lib.hid (Nat.ne_of_lt hRV); have NEVR := Lib.hid (Nat.ne_of_gt hRV)
  have LEV := Lib.hid G1.out.size
  go_wp2_with fail
  refine (l1Below_c P 12 _ (by exact (Cur.alloc C1.out _)) (by omega)).mono ?_
  rintro _ w2 ⟨y, rfl, y0, y1, -, -, C', G'⟩
  have G1x := Lib.hid G'
  have KT2 := Lib.hid (Kp.gr (Kp.alloc (Kp.refl w1 (w.heap.size + 1)) _) G' LPT.out)
  have C2 := Lib.hid C'; clear C'
  have XR2 : Hid (w2.heap[w.heap.size]? = some (.cells #[.int .i64 0, .int .i64 0, .int .i64 0, .string { data := #[] }, .slice none 0 0] 29 (0, 0))) := Lib.hid (box_gr (box_alloc XR1.out _) G' (by have h1 := HP.out; have h2 := LER.out; omega))
  have XV2 : Hid (w2.heap[w1.heap.size]? = some (.cells #[.int .i64 t.kind, .int .i64 t.n, .int .i64 t.x, .string t.s, .slice au t.l.length cu] 29 (0, 0))) := Lib.hid (box_gr (heap_alloc_new _ _) G' (by have h1 := HP.out; have h2 := LEV.out; omega))
  have G2 := Lib.hid (gr_trans (gr_alloc G1.out _) G'); clear G'
  replace y1 := y1 (by omega)
  by_cases hy0 : y = 0
  · subst hy0
    go_wp2_with fail
    refine (l1Below_c P 14 _ (by exact C2.out) (by omega)).mono ?_
    rintro _ w3 ⟨m, rfl, m0, m1, -, -, C', G'⟩
    have KT3 := Lib.hid (Kp.gr KT2.out G' LPT.out)
    have C3 := Lib.hid C'; clear C'
    have XR3 : Hid (w3.heap[w.heap.size]? = some (.cells #[.int .i64 0, .int .i64 0, .int .i64 0, .string { data := #[] }, .slice none 0 0] 29 (0, 0))) := Lib.hid (box_gr XR2.out G' (by have h1 := HP.out; have h2 := LER.out; omega))
    have XV3 : Hid (w3.heap[w1.heap.size]? = some (.cells #[.int .i64 t.kind, .int .i64 t.n, .int .i64 t.x, .string t.s, .slice au t.l.length cu] 29 (0, 0))) := Lib.hid (box_gr XV2.out G' (by have h1 := HP.out; have h2 := LEV.out; omega))
    have G3 := Lib.hid (gr_trans G2.out G'); clear G'
    replace m1 := m1 (by omega)
    have Rl := box_lt XR3.out
    obtain ⟨R0, R1, R2, R3, R4, Rf0, Rf1, Rf2, Rf3, Rf4⟩ := five_open XR3.out
    have Vl := box_lt XV3.out
    obtain ⟨V0, V1, V2, V3, V4, Vf0, Vf1, Vf2, Vf3, Vf4⟩ := five_open XV3.out
    go_wp2_with fail
    refine bodyPost_ret (v := .agg #[.int .i64 (m - 1), .int .i64 t.n, .int .i64 t.x, .string t.s, .slice au t.l.length cu]) (by simp [results, Tryd.results124, go_sem, R0, R1, R2, R3, R4]) rfl ⟨.mk (m - 1) t.n t.x t.s t.l, _, rfl, ⟨by have h1 := HT.out.2.1; have h2 := Tree.cost_eq t; rw [Tree.cost_eq]; show t.s.size + costL t.l ≤ _; omega, fitsM (by unfold wf6; omega) HT.out.2.2.n HT.out.2.2.x HT.out.2.2.s⟩, ?_, ?_, ?_⟩
    · refine AP.mono (lo := w.heap.size + 1) ?_ (by omega)
      refine Kp.ap ?_ HAP.out
      repeat (first | with_reducible exact KT3.out | with_reducible refine Kp.set ?_ _ (by omega) | with_reducible refine Kp.alloc ?_ _)
    · repeat (first | with_reducible exact C3.out | with_reducible refine Cur.set ?_ _ (by have h1 := HP.out; have eR := LER.out; have eV := LEV.out; omega) | with_reducible refine Cur.alloc ?_ _ | with_reducible refine cur_drew ?_)
    · repeat (first | with_reducible exact G3.out | with_reducible refine gr_sets ?_ _ (by have eR := LER.out; have eV := LEV.out; omega) | with_reducible refine gr_alloc ?_ _ | with_reducible refine gr_drew ?_)
  by_cases hy1 : y = 1
  · subst hy1
    go_wp2_with fail
    refine (l1Raw_c P _ (by exact C2.out)).mono ?_
    rintro _ w3 ⟨m, rfl, hm, C', G'⟩
    have Hhm := Lib.hid hm; clear hm
    have KT3 := Lib.hid (Kp.gr KT2.out G' LPT.out)
    have C3 := Lib.hid C'; clear C'
    have XR3 : Hid (w3.heap[w.heap.size]? = some (.cells #[.int .i64 0, .int .i64 0, .int .i64 0, .string { data := #[] }, .slice none 0 0] 29 (0, 0))) := Lib.hid (box_gr XR2.out G' (by have h1 := HP.out; have h2 := LER.out; omega))
    have XV3 : Hid (w3.heap[w1.heap.size]? = some (.cells #[.int .i64 t.kind, .int .i64 t.n, .int .i64 t.x, .string t.s, .slice au t.l.length cu] 29 (0, 0))) := Lib.hid (box_gr XV2.out G' (by have h1 := HP.out; have h2 := LEV.out; omega))
    have G3 := Lib.hid (gr_trans G2.out G'); clear G'
    have Rl := box_lt XR3.out
    obtain ⟨R0, R1, R2, R3, R4, Rf0, Rf1, Rf2, Rf3, Rf4⟩ := five_open XR3.out
    have Vl := box_lt XV3.out
    obtain ⟨V0, V1, V2, V3, V4, Vf0, Vf1, Vf2, Vf3, Vf4⟩ := five_open XV3.out
    go_wp2_with fail
    refine bodyPost_ret (v := .agg #[.int .i64 t.kind, .int .i64 m, .int .i64 t.x, .string t.s, .slice au t.l.length cu]) (by simp [results, Tryd.results124, go_sem, R0, R1, R2, R3, R4]) rfl ⟨.mk t.kind m t.x t.s t.l, _, rfl, ⟨by have h1 := HT.out.2.1; have h2 := Tree.cost_eq t; rw [Tree.cost_eq]; show t.s.size + costL t.l ≤ _; omega, fitsM HT.out.2.2.kind Hhm.out HT.out.2.2.x HT.out.2.2.s⟩, ?_, ?_, ?_⟩
    · refine AP.mono (lo := w.heap.size + 1) ?_ (by omega)
      refine Kp.ap ?_ HAP.out
      repeat (first | with_reducible exact KT3.out | with_reducible refine Kp.set ?_ _ (by omega) | with_reducible refine Kp.alloc ?_ _)
    · repeat (first | with_reducible exact C3.out | with_reducible refine Cur.set ?_ _ (by have h1 := HP.out; have eR := LER.out; have eV := LEV.out; omega) | with_reducible refine Cur.alloc ?_ _ | with_reducible refine cur_drew ?_)
    · repeat (first | with_reducible exact G3.out | with_reducible refine gr_sets ?_ _ (by have eR := LER.out; have eV := LEV.out; omega) | with_reducible refine gr_alloc ?_ _ | with_reducible refine gr_drew ?_)
  by_cases hy2 : y = 2
  · subst hy2
    go_wp2_with fail
    refine (l1Int_c P [1, -17, -1] w2.heap.size 3 _ (by exact (Cur.alloc C2.out _)) (rd_laid w2 _ _) (Nat.ne_of_gt (Cur.lt C2.out)) (by simp) (by simp) (by simp)).mono ?_
    rintro _ w3 ⟨m, rfl, hm', C', G'⟩
    have Hm := Lib.hid hm'; clear hm'
    have KT3 := Lib.hid (Kp.gr (Kp.alloc KT2.out _) G' LPT.out)
    have C3 := Lib.hid C'; clear C'
    have XR3 : Hid (w3.heap[w.heap.size]? = some (.cells #[.int .i64 0, .int .i64 0, .int .i64 0, .string { data := #[] }, .slice none 0 0] 29 (0, 0))) := Lib.hid (box_gr (box_alloc XR2.out _) G' (by have h1 := HP.out; have h2 := LER.out; omega))
    have XV3 : Hid (w3.heap[w1.heap.size]? = some (.cells #[.int .i64 t.kind, .int .i64 t.n, .int .i64 t.x, .string t.s, .slice au t.l.length cu] 29 (0, 0))) := Lib.hid (box_gr (box_alloc XV2.out _) G' (by have h1 := HP.out; have h2 := LEV.out; omega))
    have G3 := Lib.hid (gr_trans (gr_alloc G2.out _) G'); clear G'
    have Rl := box_lt XR3.out
    obtain ⟨R0, R1, R2, R3, R4, Rf0, Rf1, Rf2, Rf3, Rf4⟩ := five_open XR3.out
    have Vl := box_lt XV3.out
    obtain ⟨V0, V1, V2, V3, V4, Vf0, Vf1, Vf2, Vf3, Vf4⟩ := five_open XV3.out
    go_wp2_with fail
    refine bodyPost_ret (v := .agg #[.int .i64 t.kind, .int .i64 t.n, .int .i64 m, .string t.s, .slice au t.l.length cu]) (by simp [results, Tryd.results124, go_sem, R0, R1, R2, R3, R4]) rfl ⟨.mk t.kind t.n m t.s t.l, _, rfl, ⟨by have h1 := HT.out.2.1; have h2 := Tree.cost_eq t; rw [Tree.cost_eq]; show t.s.size + costL t.l ≤ _; omega, fitsM HT.out.2.2.kind HT.out.2.2.n (by have h := Hm.out; simp at h; unfold wf6; omega) HT.out.2.2.s⟩, ?_, ?_, ?_⟩
    · refine AP.mono (lo := w.heap.size + 1) ?_ (by omega)
      refine Kp.ap ?_ HAP.out
      repeat (first | with_reducible exact KT3.out | with_reducible refine Kp.set ?_ _ (by omega) | with_reducible refine Kp.alloc ?_ _)
    · repeat (first | with_reducible exact C3.out | with_reducible refine Cur.set ?_ _ (by have h1 := HP.out; have eR := LER.out; have eV := LEV.out; omega) | with_reducible refine Cur.alloc ?_ _ | with_reducible refine cur_drew ?_)
    · repeat (first | with_reducible exact G3.out | with_reducible refine gr_sets ?_ _ (by have eR := LER.out; have eV := LEV.out; omega) | with_reducible refine gr_alloc ?_ _ | with_reducible refine gr_drew ?_)
  by_cases hy3 : y = 3
  · subst hy3
    go_wp2_with fail
    refine (l1Str_c P [⟨#[128]⟩, ⟨#[120]⟩, ⟨#[255]⟩] w2.heap.size 3 _ (by exact (Cur.alloc C2.out _)) (rs_laid w2 _ _) (Nat.ne_of_gt (Cur.lt C2.out)) (by simp) (by simp) (by simp)).mono ?_
    rintro _ w3 ⟨S, rfl, hS', C', G'⟩
    have HS := Lib.hid hS'; clear hS'
    have KT3 := Lib.hid (Kp.gr (Kp.alloc KT2.out _) G' LPT.out)
    have C3 := Lib.hid C'; clear C'
    have XR3 : Hid (w3.heap[w.heap.size]? = some (.cells #[.int .i64 0, .int .i64 0, .int .i64 0, .string { data := #[] }, .slice none 0 0] 29 (0, 0))) := Lib.hid (box_gr (box_alloc XR2.out _) G' (by have h1 := HP.out; have h2 := LER.out; omega))
    have XV3 : Hid (w3.heap[w1.heap.size]? = some (.cells #[.int .i64 t.kind, .int .i64 t.n, .int .i64 t.x, .string t.s, .slice au t.l.length cu] 29 (0, 0))) := Lib.hid (box_gr (box_alloc XV2.out _) G' (by have h1 := HP.out; have h2 := LEV.out; omega))
    have G3 := Lib.hid (gr_trans (gr_alloc G2.out _) G'); clear G'
    have hs : S.size ≤ 10 := by have h := HS.out; simp at h; rcases h with rfl | rfl | rfl <;> decide
    have HS2 := Lib.hid hs; clear hs HS
    have Rl := box_lt XR3.out
    obtain ⟨R0, R1, R2, R3, R4, Rf0, Rf1, Rf2, Rf3, Rf4⟩ := five_open XR3.out
    have Vl := box_lt XV3.out
    obtain ⟨V0, V1, V2, V3, V4, Vf0, Vf1, Vf2, Vf3, Vf4⟩ := five_open XV3.out
    go_wp2_with fail
    refine bodyPost_ret (v := .agg #[.int .i64 t.kind, .int .i64 t.n, .int .i64 t.x, .string S, .slice au t.l.length cu]) (by simp [results, Tryd.results124, go_sem, R0, R1, R2, R3, R4]) rfl ⟨.mk t.kind t.n t.x S t.l, _, rfl, ⟨by have h1 := HT.out.2.1; have h2 := Tree.cost_eq t; have h3 := HS2.out; rw [Tree.cost_eq]; show S.size + costL t.l ≤ _; omega, fitsM HT.out.2.2.kind HT.out.2.2.n HT.out.2.2.x (by have := HS2.out; omega)⟩, ?_, ?_, ?_⟩
    · refine AP.mono (lo := w.heap.size + 1) ?_ (by omega)
      refine Kp.ap ?_ HAP.out
      repeat (first | with_reducible exact KT3.out | with_reducible refine Kp.set ?_ _ (by omega) | with_reducible refine Kp.alloc ?_ _)
    · repeat (first | with_reducible exact C3.out | with_reducible refine Cur.set ?_ _ (by have h1 := HP.out; have eR := LER.out; have eV := LEV.out; omega) | with_reducible refine Cur.alloc ?_ _ | with_reducible refine cur_drew ?_)
    · repeat (first | with_reducible exact G3.out | with_reducible refine gr_sets ?_ _ (by have eR := LER.out; have eV := LEV.out; omega) | with_reducible refine gr_alloc ?_ _ | with_reducible refine gr_drew ?_)
  by_cases hy4 : y = 4
  · subst hy4
    have Vl := box_lt XV2.out
    obtain ⟨V0, V1, V2, V3, V4, Vf0, Vf1, Vf2, Vf3, Vf4⟩ := five_open XV2.out
    have hlc := len_cost t; have htc := HT.out.2.1
    obtain ⟨es, hes⟩ := HAP.out
    have HES := Lib.hid hes; clear hes
    have G12 := Lib.hid (gr_trans (gr_below (below1 w1 (.cells #[.int .i64 t.kind, .int .i64 t.n, .int .i64 t.x, .string t.s, .slice au t.l.length cu] 29))) G1x.out)
    have hCB := Lib.hid (fun wx (h : Cur wx P) => l6Draw_0 P wx h)
    go_wp2_with fail
    go_region_law
      (first
       | (go_at_call 125; refine (hCB.out _ (cur_drew C2.out)).mono ?_; rintro _ w5 ⟨t', u', rfl, ht', hap', C', G''⟩; have G' : w2.grownBy w5 (some P) := ⟨G''.os, G''.tape, G''.output, G''.size, G''.block⟩; clear G''; have HT' := Lib.hid ht'; clear ht'; have HAP' := Lib.hid (show AP w5 w2.heap.size 29 u' t'.l from hap'); clear hap'; obtain ⟨au', cu', rfl⟩ := HAP'.out.form; have C5 := Lib.hid C'; have GP := Lib.hid G'; have XV5 := Lib.hid (box_gr XV2.out G' (by have h1 := HP.out; omega)); have XR5 := Lib.hid (box_gr XR2.out G' (by have h1 := HP.out; omega)); clear C' G'; have Wl := box_lt XV5.out; obtain ⟨W0, W1, W2, W3, W4, Wf0, Wf1, Wf2, Wf3, Wf4⟩ := five_open XV5.out)
       | (go_simp; go_at_call 125; refine (hCB.out _ (cur_drew C2.out)).mono ?_; rintro _ w5 ⟨t', u', rfl, ht', hap', C', G''⟩; have G' : w2.grownBy w5 (some P) := ⟨G''.os, G''.tape, G''.output, G''.size, G''.block⟩; clear G''; have HT' := Lib.hid ht'; clear ht'; have HAP' := Lib.hid (show AP w5 w2.heap.size 29 u' t'.l from hap'); clear hap'; obtain ⟨au', cu', rfl⟩ := HAP'.out.form; have C5 := Lib.hid C'; have GP := Lib.hid G'; have XV5 := Lib.hid (box_gr XV2.out G' (by have h1 := HP.out; omega)); have XR5 := Lib.hid (box_gr XR2.out G' (by have h1 := HP.out; omega)); clear C' G'; have Wl := box_lt XV5.out; obtain ⟨W0, W1, W2, W3, W4, Wf0, Wf1, Wf2, Wf3, Wf4⟩ := five_open XV5.out)
       | (refine step_append_lies _ rfl (.tmp 34) (.tmp 37) 27 rfl (w.heap.size + 1) 29 i0 _ 5 64 Tryd.underlying27 HI.out hz hs hb rfl (by decide) _ _ _ rfl (draw_own HES.out LPT.out (gr_trans G12.out GP.out) (below1 _ _)) ⟨w5.heap.size, 0, none⟩ 1 1 (cells5 t' (.slice au' t'.l.length cu')) rfl rfl (by exact World.news_of_block (heap_alloc_new _ _)) (one5 _ _ _ _) (by decide) (by unfold maxLen; omega) (by omega) (by have h1 := G12.out.size; have h2 := GP.out.size; simp only [World.size_alloc]; (try omega)) _ rfl ?_; intro g cap5 w6 hown2 hg2 hf2 hlt2; have hsz5 := GP.out.size; have hsz12 := G12.out.size; have z := fun (i : Nat) (hi : i < w.heap.size + 1 ∨ w1.heap.size ≤ i) (hi2 : i < w2.heap.size) => (hg2.block i (by simp only [World.size_alloc]; omega) (fun e => by have := HES.out.row.lt i e.symm; omega)).trans (Below.heap_alloc _ _ _ (by omega)); have HZ6 := Lib.hid (And.intro (z w1.heap.size (by omega) (by omega)) (z w.heap.size (by omega) (by omega))); clear z; have XV6 := Lib.hid (HZ6.out.1.trans XV5.out); have XR6 := Lib.hid (HZ6.out.2.trans XR5.out); have Yl := box_lt XV6.out; obtain ⟨Y0, Y1, Y2, Y3, Y4, Yf0, Yf1, Yf2, Yf3, Yf4⟩ := five_open XV6.out; have Rl := box_lt XR6.out; obtain ⟨R0, R1, R2, R3, R4, Rf0, Rf1, Rf2, Rf3, Rf4⟩ := five_open XR6.out; have HOWN := Lib.hid hown2; have HG2 := Lib.hid hg2; have HF2 := Lib.hid hf2; clear hown2 hg2 hf2))
    all_goals
      have DA := draw_append HES.out HP.out (by omega) (by omega) G1.out (gr_trans G12.out GP.out) C5.out (HAP'.out.mono (by have := G12.out.size; omega)) HT'.out.2.2 (below1 _ _) HOWN.out HG2.out HF2.out
      have HDA := Lib.hid DA; clear DA
      go_wp2_with fail
      refine bodyPost_ret (v := .agg #[.int .i64 t.kind, .int .i64 t.n, .int .i64 t.x, .string t.s, .slice (some ⟨g, 0, none⟩) (t.l.length + 1) cap5]) (by simp [results, Tryd.results124, go_sem, R0, R1, R2, R3, R4]) rfl ⟨.mk t.kind t.n t.x t.s (t.l ++ [t']), _, rfl, ⟨by have h1 := HT.out.2.1; have h2 := Tree.cost_eq t; have h3 := HT'.out.2.1; rw [Tree.cost_eq]; show t.s.size + costL (t.l ++ [t']) ≤ _; rw [costL_snoc]; omega, fitsM HT.out.2.2.kind HT.out.2.2.n HT.out.2.2.x HT.out.2.2.s⟩, ?_, ?_, ?_⟩
      · refine AP.mono (lo := w.heap.size + 1) ?_ (by omega)
        simp only [Tree.l_mk]
        refine draw_append2 HES.out LPT.out (by omega) (gr_trans G12.out GP.out) (m := w2.heap.size) G12.out.size HAP'.out HT'.out.2.2 GP.out.size (below1 _ _) HOWN.out HG2.out HF2.out (by simp only [World.size_setCell]; exact Nat.le_refl _) (Ex.out (R := w.heap.size) (V := w1.heap.size) ?_ (by omega) ⟨Nat.le_refl _, box_lt XV2.out⟩)
        repeat (first | with_reducible exact Ex.refl _ _ _ | with_reducible refine Ex.set0 ?_ _ | with_reducible refine Ex.set1 ?_ _)
      · repeat (first | with_reducible exact HDA.out.2.1 | with_reducible refine Cur.set ?_ _ (by have h1 := HP.out; omega) | with_reducible refine cur_drew ?_)
      · repeat (first | with_reducible exact HDA.out.2.2.1 | with_reducible refine gr_sets ?_ _ (by omega) | with_reducible refine gr_drew ?_)
  have n0 : (y == 0) = false := by simpa using hy0
  have n1 : (y == 1) = false := by simpa using hy1
  have n2 : (y == 2) = false := by simpa using hy2
  have n3 : (y == 3) = false := by simpa using hy3
  have n4 : (y == 4) = false := by simpa using hy4
  have Rl := box_lt XR2.out
  obtain ⟨R0, R1, R2, R3, R4, Rf0, Rf1, Rf2, Rf3, Rf4⟩ := five_open XR2.out
  have Vl := box_lt XV2.out
  obtain ⟨V0, V1, V2, V3, V4, Vf0, Vf1, Vf2, Vf3, Vf4⟩ := five_open XV2.out
  go_wp2_with fail
  refine bodyPost_ret (v := .agg #[.int .i64 t.kind, .int .i64 t.n, .int .i64 t.x, .string t.s, .slice au t.l.length cu]) (by simp [results, Tryd.results124, go_sem, R0, R1, R2, R3, R4]) rfl ⟨t, _, rfl, ⟨by have := HT.out.2.1; omega, HT.out.2.2⟩, ?_, ?_, ?_⟩
  · refine AP.mono (lo := w.heap.size + 1) ?_ (by omega)
    refine Kp.ap ?_ HAP.out
    repeat (first | with_reducible exact KT2.out | with_reducible refine Kp.set ?_ _ (by omega) | with_reducible refine Kp.alloc ?_ _)
  · repeat (first | with_reducible exact C2.out | with_reducible refine Cur.set ?_ _ (by have h1 := HP.out; have eR := LER.out; have eV := LEV.out; omega) | with_reducible refine Cur.alloc ?_ _ | with_reducible refine cur_drew ?_)
  · repeat (first | with_reducible exact G2.out | with_reducible refine gr_sets ?_ _ (by have eR := LER.out; have eV := LEV.out; omega) | with_reducible refine gr_alloc ?_ _ | with_reducible refine gr_drew ?_)
end Go.Proofs.YtilmhemcpgiikaaDoor
/- The reference's copy of a tree: its row is its own, and can grow. -/
namespace Go.Proofs.YtilmhemcpgiikaaDoor
open Go.Deep Go.ChangeShapes Go.WideShapes Go.ChangeAt Go.RowKit
open Go.ChangeMaps (open_string shut_string)

def CopyPA (w : World) (t : Tree) : Ending → World → Prop := fun e w' => ∃ a n c, e = .returned (.agg #[.int .i64 t.kind, .int .i64 t.n, .int .i64 t.x, .string t.s, .slice a n c]) ∧ AP w' w.heap.size 29 (.slice a n c) t.l ∧ Below w.heap.size w w'
def CopyA (f : FuncId) (t : Tree) : Prop := ∀ (w : World) (u : Value), t.cost ≤ 1048576 → TSl w u t.l → Fits t.kind t.n t.x t.s →
  Calls Tryd.prog f #[.agg #[.int .i64 t.kind, .int .i64 t.n, .int .i64 t.x, .string t.s, u]] w (CopyPA w t)
set_option maxHeartbeats 4000000 in
theorem l6Copy_a (t : Tree) : CopyA 79 t := by
  have ih : ∀ t' ∈ t.l, CopyC 79 t' := fun t' _ => l6Copy_c t'
  intro w u hcost hu hfit
  obtain ⟨i0, hi, hz, hs, hb⟩ := info_parts info_val
  have hc := Tree.cost_eq t
  have hcl := costL_eq t.l
  have hlen : t.l.length ≤ 1048576 := by omega
  have hcE : costE t.l ≤ 1048576 := by omega
  clear hc hcl hcost
  obtain ⟨a, cap, b, off, rfl, hcap, hmax, ha, hl⟩ := hu
  unfold maxLen at hmax
  have IH := Lib.hid ih; have HL := Lib.hid hl; have HA := Lib.hid ha; have HI := Lib.hid hi
  clear ih hl ha hi
  obtain ⟨hA, hB, hC, hP0, hs0, hw0⟩ := four_blocks w (.cells #[.int .i64 t.kind, .int .i64 t.n, .int .i64 t.x, .string t.s, .slice a t.l.length cap] 29) (.cells #[.int .i64 0, .int .i64 0, .int .i64 0, .string { data := #[] }, .slice none 0 0] 29) (.cells #[.int .i64 t.kind, .int .i64 t.n, .int .i64 t.x, .string t.s, .slice (some ⟨w.heap.size + 1 + 1 + 1, 0, none⟩) 0 0] 29) 29
  have HBA := Lib.hid hA; have HBB := Lib.hid hB; have HBC := Lib.hid hC; have HP0 := Lib.hid hP0; have HW0 := Lib.hid hw0; have HS0 := Lib.hid hs0
  clear hA hB hC hP0 hw0 hs0
  go_enter Tryd.func79, Tryd.ntmps79
  go_wp2_with fail
  generalize hW0 : ((((w.alloc (.cells #[.int .i64 t.kind, .int .i64 t.n, .int .i64 t.x, .string t.s, .slice a t.l.length cap] 29)).alloc (.cells #[.int .i64 0, .int .i64 0, .int .i64 0, .string { data := #[] }, .slice none 0 0] 29)).alloc (.cells #[.int .i64 t.kind, .int .i64 t.n, .int .i64 t.x, .string t.s, .slice (some ⟨w.heap.size + 1 + 1 + 1, 0, none⟩) 0 0] 29)).alloc (.cells #[] 29)) = W0 at *
  clear hW0
  go_loopw [4] (fun i wr => ∃ (j : Nat) (a3 : Option Addr) (cap3 : Nat), j ≤ t.l.length ∧ i = .int .i64 j ∧ w.heap.size + 4 ≤ wr.heap.size ∧ Hid (AP wr (w.heap.size + 1 + 1 + 1) 29 (.slice a3 j cap3) (t.l.take j)) ∧ Hid (Below w.heap.size w wr) ∧ Hid (wr.heap[w.heap.size]? = some (.cells #[.int .i64 t.kind, .int .i64 t.n, .int .i64 t.x, .string t.s, .slice a t.l.length cap] 29)) ∧ Hid (wr.heap[w.heap.size + 1]? = some (.cells #[.int .i64 0, .int .i64 0, .int .i64 0, .string { data := #[] }, .slice none 0 0] 29)) ∧ Hid (wr.heap[w.heap.size + 1 + 1]? = some (.cells #[.int .i64 t.kind, .int .i64 t.n, .int .i64 t.x, .string t.s, .slice a3 j cap3] 29))) (fun i _ => t.l.length - (intOf i).toNat)
  case atStart => exact ⟨0, _, _, by omega, rfl, by have := HS0.out; omega, HP0, HW0, HBA, HBB, HBC⟩
  case round =>
    obtain ⟨j, a3, cap3, hj, rfl, hszr, HP, HBW, HBA, HBB, HBC⟩ := hrel
    have htl : (t.l.take j).length = j := by rw [List.length_take]; omega
    obtain ⟨p0, p1, p2, p3, p4, pf⟩ := five_kept (Below.refl _ _) HBA.out
    clear p0 p1 p2 p3 pf
    by_cases hjl : j < t.l.length
    · obtain rfl : a = some ⟨b, off, none⟩ := HA.out (by intro h; rw [h] at hjl; simp at hjl)
      have hTA := (HL.out j hjl).kept HBW.out
      obtain ⟨u, c0, c1, c2, c3, c4, hsl, hfit'⟩ := hTA.parts
      have hih := IH.out t.l[j] (List.getElem_mem hjl)
      have hcm := cost_mem (List.getElem_mem hjl)
      have hst := take_snocT hjl
      generalize t.l[j] = t' at *
      have HI2 := Lib.hid hih; have HST := Lib.hid hst; clear hih hst hTA
      obtain ⟨a2, n2, cap2, rfl⟩ := hsl.form
      have HSL := Lib.hid hsl; have HFT := Lib.hid hfit'; clear hsl hfit'
      go_wp2_with fail
      refine (HI2.out _ _ (by omega) HSL.out HFT.out).mono ?_
      rintro _ w1 ⟨a4, n4, k4, rfl, ho, hb1⟩
      obtain ⟨es, hes⟩ := HP.out
      have hsz1 := hb1.size
      have hb01 : Below wr.heap.size wr (w1.alloc (.cells #[.int .i64 t'.kind, .int .i64 t'.n, .int .i64 t'.x, .string t'.s, .slice a4 n4 k4] 29)) := hb1.alloc hsz1 _
      have hown0 := owns_below hb01 hes.row
      rw [htl] at hown0
      have q4 := (five_kept hb01 HBC.out).2.2.2.2.1
      have HBK : Hid (∀ (o : Obj) (w3 : World), ((w1.alloc (.cells #[.int .i64 t'.kind, .int .i64 t'.n, .int .i64 t'.x, .string t'.s, .slice a4 n4 k4] 29)).alloc o).grownBy w3 (Value.slice a3 j cap3).ownBlock → w3.heap[w.heap.size]? = wr.heap[w.heap.size]? ∧ w3.heap[w.heap.size + 1]? = wr.heap[w.heap.size + 1]? ∧ w3.heap[w.heap.size + 1 + 1]? = wr.heap[w.heap.size + 1 + 1]?) := Lib.hid (fun o w3 hg => by
        have hne : ∀ i, i < w.heap.size + 1 + 1 + 1 → some i ≠ (Value.slice a3 j cap3).ownBlock := fun i hi e => by have := HP.out.block i e.symm; omega
        have hh : ∀ i, i < w.heap.size + 1 + 1 + 1 → w3.heap[i]? = wr.heap[i]? := fun i hi => by
          rw [hg.block i (by simp only [World.size_alloc]; omega) (hne i hi), Below.heap_alloc _ _ _ (by simp only [World.size_alloc]; omega), Below.heap_alloc _ _ _ (by omega), hb1.block i (by omega)]
        exact ⟨hh _ (by omega), hh _ (by omega), hh _ (by omega)⟩)
      have OWN := Lib.hid hown0; have HES := Lib.hid hes; have HO := Lib.hid ho; have HB01 := Lib.hid hb01
      clear hown0 hes ho hb01 hb1 c0 c1 c2 c3 c4
      generalize hX : cells5 t' (.slice a4 n4 k4) = X
      have hXl : X.length = 1 * 5 := by rw [← hX]; rfl
      have hX1 : ∀ x ∈ X, x.oneCell' = true := by rw [← hX]; exact one5 _ _ _ _
      have hXn : ∀ (k : Nat) v, X[k]? = some v → ((w1.alloc (.cells #[.int .i64 t'.kind, .int .i64 t'.n, .int .i64 t'.x, .string t'.s, .slice a4 n4 k4] 29)).alloc (.cells #[.int .i64 t'.kind, .int .i64 t'.n, .int .i64 t'.x, .string t'.s, .slice a4 n4 k4] 29)).cell? ((⟨w1.heap.size + 1, 0, none⟩ : Addr).add k) = some v := by
        rw [← hX]
        exact World.news_of_block (first_blocks w1 _ _).2
      have HX := Lib.hid hX; have HXN := Lib.hid hXn; have HX1 := Lib.hid hX1
      clear hX hXn hX1
      go_wp2_with (at_builtin; go_must (refine wpList_append_lies rfl (.tmp 23) (.tmp 25) 27 rfl (w.heap.size + 1 + 1 + 1) 29 i0 _ 5 64 Tryd.underlying27 HI.out hz hs hb rfl (by decide) _ _ _ rfl (OWN.out.alloc _) ⟨w1.heap.size + 1, 0, none⟩ 1 1 X rfl hXl HXN.out HX1.out (by decide) (by unfold maxLen; omega) (by omega) (by simp only [World.size_alloc]; omega) _ rfl ?_); intro g cap5 w2 hown2 hg2 hf2 hlt2; obtain ⟨z1, z2, z3⟩ := HBK.out _ _ hg2; rw [HBA.out] at z1; rw [HBB.out] at z2; rw [HBC.out] at z3; have y4 := (five_kept (Below.refl _ _) z3).2.2.2.2.1; have yf := (five_kept (Below.refl _ _) z3).2.2.2.2.2 4; have Z1 := Lib.hid z1; have Z2 := Lib.hid z2; have Z3 := Lib.hid z3; have HOWN2 := Lib.hid hown2; have HG2 := Lib.hid hg2; have HF2 := Lib.hid hf2; clear z1 z2 z3 hown2 hg2 hf2)
      have hb0 : Below wr.heap.size wr ((w1.alloc (.cells #[.int .i64 t'.kind, .int .i64 t'.n, .int .i64 t'.x, .string t'.s, .slice a4 n4 k4] 29)).alloc (.cells #[.int .i64 t'.kind, .int .i64 t'.n, .int .i64 t'.x, .string t'.s, .slice a4 n4 k4] 29)) := HB01.out.alloc (by simp only [World.size_alloc]; omega) _
      have hap := HES.out.snoc hb0 HFT.out (hi := w1.heap.size) (HO.out.kept (fun b hb => by rw [Below.heap_alloc _ _ _ (by simp only [World.size_alloc]; have := hb.2; omega), Below.heap_alloc _ _ _ hb.2])) (by simp only [World.size_alloc]; omega) (by omega) (g := g) (cap := cap5) (w' := w2) (by rw [htl, HX.out]; exact HOWN2.out) HG2.out (by
        rcases HF2.out with h | h
        · exact .inl h
        · right; rw [h])
      rw [htl, ← HST.out] at hap
      have hgs := HG2.out.size
      simp only [World.size_alloc] at hgs
      have hap2 : AP (w2.setCell ⟨w.heap.size + 1 + 1, 4, none⟩ (.slice (some ⟨g, 0, none⟩) (j + 1) cap5)) (w.heap.size + 1 + 1 + 1) 29 (.slice (some ⟨g, 0, none⟩) (j + 1) cap5) (t.l.take (j + 1)) :=
        hap.kept_lo (by simp) (fun b hb _ => Below.heap_setCell _ _ _ _ (by dsimp only; omega))
      have hbw2 : Below w.heap.size w (w2.setCell ⟨w.heap.size + 1 + 1, 4, none⟩ (.slice (some ⟨g, 0, none⟩) (j + 1) cap5)) := ((HBW.out.trans (hb0.mono (by omega))).grown HG2.out (by simp only [World.size_alloc]; omega) (fun k hk => by have := HP.out.block k hk; omega)).setCell (by dsimp only; omega) _
      have HAP := Lib.hid hap2; have HBW2 := Lib.hid hbw2
      have HZ1 := Lib.hid ((Below.heap_setCell w2 ⟨w.heap.size + 1 + 1, 4, none⟩ (.slice (some ⟨g, 0, none⟩) (j + 1) cap5) w.heap.size (by dsimp only; omega)).trans Z1.out)
      have HZ2 := Lib.hid ((Below.heap_setCell w2 ⟨w.heap.size + 1 + 1, 4, none⟩ (.slice (some ⟨g, 0, none⟩) (j + 1) cap5) (w.heap.size + 1) (by dsimp only; omega)).trans Z2.out)
      have HZ3 := Lib.hid (five_set Z3.out (.slice (some ⟨g, 0, none⟩) (j + 1) cap5))
      clear hap hap2 hbw2 hb0
      go_roundw
      case rel => exact ⟨j + 1, _, _, by omega, by go_num, by simp only [World.size_setCell]; omega, HAP, HBW2, HZ1, HZ2, HZ3⟩
      case measure => simp [intOf]; omega
    · obtain rfl : j = t.l.length := by omega
      have hosl := HP.out
      rw [List.take_length] at hosl
      obtain ⟨r0, r1, r2, r3, r4, rf⟩ := five_kept (Below.refl _ _) HBC.out
      obtain ⟨q0, q1, q2, q3, q4, qf⟩ := five_kept (Below.refl _ _) HBB.out
      have qf0 := qf 0; have qf1 := qf 1; have qf2 := qf 2; have qf3 := qf 3; have qf4 := qf 4
      clear qf rf
      have HO := Lib.hid hosl; clear hosl
      go_wp2_with fail
      refine bodyPost_ret (v := .agg #[.int .i64 t.kind, .int .i64 t.n, .int .i64 t.x, .string t.s, .slice a3 t.l.length cap3]) (by simp [results, Tryd.results79, go_sem, q0, q1, q2, q3, q4]) rfl ?_
      unfold CopyPA
      refine ⟨_, _, _, rfl, ?_, ?_⟩
      · refine AP.mono (lo := w.heap.size + 1 + 1 + 1) ?_ (by omega)
        iterate 5 refine ap_set ?_ _ (by omega)
        exact HO.out
      · iterate 5 refine Below.setCell ?_ (by dsimp only; omega) _
        exact HBW.out
end Go.Proofs.YtilmhemcpgiikaaDoor
/- The draws of two trees and of a right tree. -/
namespace Go.Proofs.YtilmhemcpgiikaaDoor
open Go.Deep Go.ChangeShapes Go.WideShapes Go.ChangeAt Go.RowKit
open Go.ChangeMaps (open_string shut_string)

set_option maxRecDepth 100000 in
set_option maxHeartbeats 40000000 in
theorem drawVal_c (zs : List Int) (a : Option Addr) (cap : Nat) (w : World) (hr : Rd w .u8 a zs) (hw : ∀ n ∈ zs, (Lit.int .u8 n).wf = true) (hlen : zs.length ≤ 1048576) (hcap : zs.length ≤ cap) :
    Calls Tryd.prog 70 #[.slice a zs.length cap] w fun e w' => (∃ (t : Tree) (u : Value), e = .returned (.agg #[.int .i64 t.kind, .int .i64 t.n, .int .i64 t.x, .string t.s, u]) ∧ (t.ok = true ∧ t.cost ≤ 6400 ∧ Fits t.kind t.n t.x t.s) ∧ TSl w' u t.l) ∧ Below w.heap.size w w' := by
  have HR := Lib.hid hr; clear hr
  have HW := Lib.hid hw; clear hw
  go_enter Tryd.func70, Tryd.ntmps70
  go_wp2_with fail
  refine (l1New_c zs a cap _ (by exact rd_kept (below_alloc (Below.refl w.heap.size w) _) HR.out) HW.out hlen hcap).mono ?_
  rintro _ w1 ⟨P, rfl, hP, C', b'⟩
  simp only [World.size_alloc] at hP
  have C1 := Lib.hid C'; clear C'
  have XR1 : Hid (w1.heap[w.heap.size]? = some (.cells #[.int .i64 0, .int .i64 0, .int .i64 0, .string { data := #[] }, .slice none 0 0] 29 (0, 0))) := Lib.hid (box_below (heap_alloc_new _ _) b')
  have LER := Lib.hid (show w.heap.size < P by omega)
  have BW1 := Lib.hid (nx (below_alloc (Below.refl w.heap.size w) _) b'); clear b'
  have HP := Lib.hid C1.out.lt
  have HWP := Lib.hid (show w.heap.size ≤ P by omega); clear hP
  have G1 := Lib.hid (gr_refl (w := w1) (P := P))
  go_wp2_with fail
  refine (l6Val_c P _ (by exact C1.out)).mono ?_
  rintro _ w2 ⟨t, u, rfl, ht, hap, C', G'⟩
  have HT := Lib.hid ht; clear ht
  have HAP := Lib.hid hap; clear hap
  have C2 := Lib.hid C'; clear C'
  have XR2 : Hid (w2.heap[w.heap.size]? = some (.cells #[.int .i64 0, .int .i64 0, .int .i64 0, .string { data := #[] }, .slice none 0 0] 29 (0, 0))) := Lib.hid (box_gr XR1.out G' (by have h1 := HP.out; have h2 := LER.out; omega))
  have G2 := Lib.hid (gr_trans G1.out G'); clear G'
  obtain ⟨au, cu, rfl⟩ := HAP.out.form
  have Rl := box_lt XR2.out
  obtain ⟨R0, R1, R2, R3, R4, Rf0, Rf1, Rf2, Rf3, Rf4⟩ := five_open XR2.out
  go_wp2_with fail
  have hRl := LER.out; have hP1 := HP.out
  refine bodyPost_ret (v := .agg #[.int .i64 t.kind, .int .i64 t.n, .int .i64 t.x, .string t.s, .slice au t.l.length cu]) (by simp [results, Tryd.results70, go_sem, R0, R1, R2, R3, R4]) rfl ⟨⟨t, _, rfl, HT.out, ?_⟩, ?_⟩
  · have hk : Kp w2 w1.heap.size w2 := Kp.refl _ _
    refine (Kp.ap (w0 := w2) (lo := w1.heap.size) ?_ HAP.out).osl.tsl
    repeat (first | with_reducible exact hk | with_reducible refine Kp.set ?_ _ (by omega))
  · have hb := below_gr BW1.out G2.out HWP.out
    repeat (first | with_reducible exact hb | with_reducible refine below_set ?_ _ (Nat.le_refl _))
set_option maxRecDepth 100000 in
set_option maxHeartbeats 40000000 in
theorem drawLessVal_c (zs : List Int) (a : Option Addr) (cap : Nat) (w : World) (hr : Rd w .u8 a zs) (hw : ∀ n ∈ zs, (Lit.int .u8 n).wf = true) (hlen : zs.length ≤ 1048576) (hcap : zs.length ≤ cap) :
    Calls Tryd.prog 69 #[.slice a zs.length cap] w fun e w' => (∃ (t t' : Tree) (u u' : Value), e = .returned (.tuple #[.agg #[.int .i64 t.kind, .int .i64 t.n, .int .i64 t.x, .string t.s, u], .agg #[.int .i64 t'.kind, .int .i64 t'.n, .int .i64 t'.x, .string t'.s, u']]) ∧ (t.cost ≤ 7000 ∧ Fits t.kind t.n t.x t.s) ∧ (t'.cost ≤ 7000 ∧ Fits t'.kind t'.n t'.x t'.s) ∧ TSl w' u t.l ∧ TSl w' u' t'.l) ∧ Below w.heap.size w w' := by
  have HR := Lib.hid hr; clear hr
  have HW := Lib.hid hw; clear hw
  go_enter Tryd.func69, Tryd.ntmps69
  go_wp2_with fail
  refine (l1New_c zs a cap _ (by exact rd_kept (below_alloc (below_alloc (Below.refl w.heap.size w) _) _) HR.out) HW.out hlen hcap).mono ?_
  rintro _ w1 ⟨P, rfl, hP, C', b'⟩
  simp only [World.size_alloc] at hP
  have C1 := Lib.hid C'; clear C'
  have XR1 : Hid (w1.heap[w.heap.size]? = some (.cells #[.int .i64 0, .int .i64 0, .int .i64 0, .string { data := #[] }, .slice none 0 0] 29 (0, 0))) := Lib.hid (box_below (first_block _ _ _) b')
  have LER := Lib.hid (show w.heap.size < P by omega)
  have XQ1 : Hid (w1.heap[(w.heap.size + 1)]? = some (.cells #[.int .i64 0, .int .i64 0, .int .i64 0, .string { data := #[] }, .slice none 0 0] 29 (0, 0))) := Lib.hid (box_below (second_block2 _ _ _) b')
  have LEQ := Lib.hid (show (w.heap.size + 1) < P by omega)
  have BW1 := Lib.hid (nx (below_alloc (below_alloc (Below.refl w.heap.size w) _) _) b'); clear b'
  have HP := Lib.hid C1.out.lt
  have HWP := Lib.hid (show w.heap.size ≤ P by omega); clear hP
  have G1 := Lib.hid (gr_refl (w := w1) (P := P))
  go_wp2_with fail
  refine (l6Any_c P _ (by exact C1.out)).mono ?_
  rintro _ w2 ⟨t, u, rfl, ht, hap, C', G'⟩
  have HT := Lib.hid ht; clear ht
  have HAP := Lib.hid hap; clear hap
  have C2 := Lib.hid C'; clear C'
  have XR2 : Hid (w2.heap[w.heap.size]? = some (.cells #[.int .i64 0, .int .i64 0, .int .i64 0, .string { data := #[] }, .slice none 0 0] 29 (0, 0))) := Lib.hid (box_gr XR1.out G' (by have h1 := HP.out; have h2 := LER.out; omega))
  have XQ2 : Hid (w2.heap[(w.heap.size + 1)]? = some (.cells #[.int .i64 0, .int .i64 0, .int .i64 0, .string { data := #[] }, .slice none 0 0] 29 (0, 0))) := Lib.hid (box_gr XQ1.out G' (by have h1 := HP.out; have h2 := LEQ.out; omega))
  have G2 := Lib.hid (gr_trans G1.out G'); clear G'
  obtain ⟨au, cu, rfl⟩ := HAP.out.form
  have LPT := Lib.hid HP.out
  have LEA := Lib.hid G2.out.size
  go_wp2_with fail
  refine (l6Copy_a t _ _ (by have := HT.out.1; omega) ((ap_alloc HAP.out _).osl.tsl) HT.out.2).mono ?_
  rintro _ w3 ⟨ab, nb, cb, rfl, hapb, b'⟩
  simp only [World.size_alloc] at hapb
  obtain ⟨ab', cb', hfb⟩ := hapb.form
  injection hfb with e1 e2 e3; subst e1; subst e2; subst e3
  have HAPB := Lib.hid hapb; clear hapb
  have hs23 := b'.size
  simp only [World.size_alloc] at hs23
  have KT3 := Lib.hid (Kp.below (Kp.alloc (Kp.refl w2 (w1.heap.size)) _) b')
  have C3 := Lib.hid (Cur.below (Cur.alloc C2.out _) b')
  have XR3 : Hid (w3.heap[w.heap.size]? = some (.cells #[.int .i64 0, .int .i64 0, .int .i64 0, .string { data := #[] }, .slice none 0 0] 29 (0, 0))) := Lib.hid (box_below (box_alloc XR2.out _) b')
  have XQ3 : Hid (w3.heap[(w.heap.size + 1)]? = some (.cells #[.int .i64 0, .int .i64 0, .int .i64 0, .string { data := #[] }, .slice none 0 0] 29 (0, 0))) := Lib.hid (box_below (box_alloc XQ2.out _) b')
  have XA3 : Hid (w3.heap[w2.heap.size]? = some (.cells #[.int .i64 t.kind, .int .i64 t.n, .int .i64 t.x, .string t.s, .slice au t.l.length cu] 29 (0, 0))) := Lib.hid (box_below (heap_alloc_new _ _) b')
  have G3 := Lib.hid (gr_on (gr_alloc G2.out _) b'); clear b'
  have LPU := Lib.hid (show P < w2.heap.size + 1 by have h1 := HP.out; have h2 := G2.out.size; omega)
  have LEB := Lib.hid G3.out.size
  have hAB : w2.heap.size < w3.heap.size := by omega
  have NEAB := Lib.hid (Nat.ne_of_lt hAB); have NEBA := Lib.hid (Nat.ne_of_gt hAB)
  go_wp2_with fail
  refine (l1Below_c P 4 _ (by exact (Cur.alloc C3.out _)) (by omega)).mono ?_
  rintro _ w4 ⟨y, rfl, y0, y1, -, -, C', G'⟩
  have G1x := Lib.hid G'
  have KT4 := Lib.hid (Kp.gr (Kp.alloc KT3.out _) G' LPT.out)
  have KU4 := Lib.hid (Kp.gr (Kp.alloc (Kp.refl w3 (w2.heap.size + 1)) _) G' LPU.out)
  have C4 := Lib.hid C'; clear C'
  have XR4 : Hid (w4.heap[w.heap.size]? = some (.cells #[.int .i64 0, .int .i64 0, .int .i64 0, .string { data := #[] }, .slice none 0 0] 29 (0, 0))) := Lib.hid (box_gr (box_alloc XR3.out _) G' (by have h1 := HP.out; have h2 := LER.out; omega))
  have XQ4 : Hid (w4.heap[(w.heap.size + 1)]? = some (.cells #[.int .i64 0, .int .i64 0, .int .i64 0, .string { data := #[] }, .slice none 0 0] 29 (0, 0))) := Lib.hid (box_gr (box_alloc XQ3.out _) G' (by have h1 := HP.out; have h2 := LEQ.out; omega))
  have XA4 : Hid (w4.heap[w2.heap.size]? = some (.cells #[.int .i64 t.kind, .int .i64 t.n, .int .i64 t.x, .string t.s, .slice au t.l.length cu] 29 (0, 0))) := Lib.hid (box_gr (box_alloc XA3.out _) G' (by have h1 := HP.out; have h2 := LEA.out; omega))
  have XB4 : Hid (w4.heap[w3.heap.size]? = some (.cells #[.int .i64 t.kind, .int .i64 t.n, .int .i64 t.x, .string t.s, .slice ab t.l.length cb] 29 (0, 0))) := Lib.hid (box_gr (heap_alloc_new _ _) G' (by have h1 := HP.out; have h2 := LEB.out; omega))
  have G4 := Lib.hid (gr_trans (gr_alloc G3.out _) G'); clear G'
  replace y1 := y1 (by omega)
  have hw1 : w.heap.size + 1 < w1.heap.size := by have h1 := HP.out; have h2 := LEQ.out; omega
  have hw12 := G2.out.size
  by_cases hy0 : y = 0
  · subst hy0
    go_wp2_with fail
    refine (l6Any_c P _ (by exact C4.out)).mono ?_
    rintro _ w5 ⟨t', u', rfl, ht', hap', C', G'⟩
    have HT' := Lib.hid ht'; clear ht'
    have HAP' := Lib.hid hap'; clear hap'
    have KT5 := Lib.hid (Kp.gr KT4.out G' LPT.out)
    have KU5 := Lib.hid (Kp.gr KU4.out G' LPU.out)
    have C5 := Lib.hid C'; clear C'
    have XR5 : Hid (w5.heap[w.heap.size]? = some (.cells #[.int .i64 0, .int .i64 0, .int .i64 0, .string { data := #[] }, .slice none 0 0] 29 (0, 0))) := Lib.hid (box_gr XR4.out G' (by have h1 := HP.out; have h2 := LER.out; omega))
    have XQ5 : Hid (w5.heap[(w.heap.size + 1)]? = some (.cells #[.int .i64 0, .int .i64 0, .int .i64 0, .string { data := #[] }, .slice none 0 0] 29 (0, 0))) := Lib.hid (box_gr XQ4.out G' (by have h1 := HP.out; have h2 := LEQ.out; omega))
    have XA5 : Hid (w5.heap[w2.heap.size]? = some (.cells #[.int .i64 t.kind, .int .i64 t.n, .int .i64 t.x, .string t.s, .slice au t.l.length cu] 29 (0, 0))) := Lib.hid (box_gr XA4.out G' (by have h1 := HP.out; have h2 := LEA.out; omega))
    have XB5 : Hid (w5.heap[w3.heap.size]? = some (.cells #[.int .i64 t.kind, .int .i64 t.n, .int .i64 t.x, .string t.s, .slice ab t.l.length cb] 29 (0, 0))) := Lib.hid (box_gr XB4.out G' (by have h1 := HP.out; have h2 := LEB.out; omega))
    have G5 := Lib.hid (gr_trans G4.out G'); clear G'
    obtain ⟨au', cu', rfl⟩ := HAP'.out.form
    have hs35 := G5.out.size; have hs34 := G4.out.size
    have hB4 := box_lt XB4.out
    have hk5 : Kp w5 w4.heap.size w5 := Kp.refl _ _
    have Rl := box_lt XR5.out
    obtain ⟨R0, R1, R2, R3, R4, Rf0, Rf1, Rf2, Rf3, Rf4⟩ := five_open XR5.out
    have Ql := box_lt XQ5.out
    obtain ⟨Q0, Q1, Q2, Q3, Q4, Qf0, Qf1, Qf2, Qf3, Qf4⟩ := five_open XQ5.out
    have Al := box_lt XA5.out
    obtain ⟨A0, A1, A2, A3, A4, Af0, Af1, Af2, Af3, Af4⟩ := five_open XA5.out
    have Bl := box_lt XB5.out
    obtain ⟨B0, B1, B2, B3, B4, Bf0, Bf1, Bf2, Bf3, Bf4⟩ := five_open XB5.out
    go_wp2_with fail
    go_region
    all_goals
      go_wp2_with fail
      refine bodyPost_ret (v := .tuple #[.agg #[.int .i64 t.kind, .int .i64 t.n, .int .i64 t.x, .string t.s, .slice au t.l.length cu], .agg #[.int .i64 t'.kind, .int .i64 t'.n, .int .i64 t'.x, .string t'.s, .slice au' t'.l.length cu']]) (by simp [results, Tryd.results69, go_sem, R0, R1, R2, R3, R4, Q0, Q1, Q2, Q3, Q4]) rfl ⟨⟨t, t', _, _, rfl, ⟨by have := HT.out.1; omega, HT.out.2⟩, ⟨by have := HT'.out.1; omega, HT'.out.2⟩, ?_, ?_⟩, ?_⟩
      · refine (Kp.ap (w0 := w2) (lo := w1.heap.size) ?_ HAP.out).osl.tsl
        repeat (first | with_reducible exact KT5.out | with_reducible refine Kp.set ?_ _ (by omega) | with_reducible refine Kp.drew ?_ | with_reducible refine Kp.alloc ?_ _)
      · refine (Kp.ap (w0 := w5) (lo := w4.heap.size) ?_ HAP'.out).osl.tsl
        repeat (first | with_reducible exact hk5 | with_reducible refine Kp.set ?_ _ (by omega) | with_reducible refine Kp.drew ?_ | with_reducible refine Kp.alloc ?_ _)
      · have hb := below_gr BW1.out G5.out HWP.out
        repeat (first | with_reducible exact hb | with_reducible refine below_set ?_ _ (by omega) | with_reducible refine Below.drew ?_ | with_reducible refine below_alloc ?_ _)
  by_cases hy1 : y = 1
  · subst hy1
    have Bl := box_lt XB4.out
    obtain ⟨B0, B1, B2, B3, B4, Bf0, Bf1, Bf2, Bf3, Bf4⟩ := five_open XB4.out
    have hlc := len_cost t; have htc := HT.out.1
    obtain ⟨es, hes⟩ := HAPB.out
    have HES := Lib.hid hes; clear hes
    have G34 := Lib.hid (gr_trans (gr_below (P := P) (below1 w3 (.cells #[.int .i64 t.kind, .int .i64 t.n, .int .i64 t.x, .string t.s, .slice ab t.l.length cb] 29))) G1x.out)
    obtain ⟨i0, hi, hz, hs, hb⟩ := info_parts info_val
    have HI := Lib.hid hi; clear hi
    have hCB := Lib.hid (fun wx (h : Cur wx P) => l6Draw_0 P wx h)
    go_wp2_with fail
    go_region_law
      (first
       | (go_at_call 125; refine (hCB.out _ (cur_drew C4.out)).mono ?_; rintro _ w5 ⟨t', u', rfl, ht', hap', C', G''⟩; have G' : w4.grownBy w5 (some P) := ⟨G''.os, G''.tape, G''.output, G''.size, G''.block⟩; clear G''; have HT' := Lib.hid ht'; clear ht'; have HAP' := Lib.hid (show AP w5 w4.heap.size 29 u' t'.l from hap'); clear hap'; obtain ⟨au', cu', rfl⟩ := HAP'.out.form; have C5 := Lib.hid C'; have GP := Lib.hid G'; have XR5 := Lib.hid (box_gr XR4.out G' (by have h1 := HP.out; have h2 := LER.out; omega)); have XQ5 := Lib.hid (box_gr XQ4.out G' (by have h1 := HP.out; have h2 := LEQ.out; omega)); have XA5 := Lib.hid (box_gr XA4.out G' (by have h1 := HP.out; have h2 := LEA.out; omega)); have XB5 := Lib.hid (box_gr XB4.out G' (by have h1 := HP.out; have h2 := LEB.out; omega)); have KT5 := Lib.hid (Kp.gr KT4.out G' LPT.out); have G5 := Lib.hid (gr_trans G4.out G'); clear C' G'; have Wl := box_lt XB5.out; obtain ⟨W0, W1, W2, W3, W4, Wf0, Wf1, Wf2, Wf3, Wf4⟩ := five_open XB5.out)
       | (go_simp; go_at_call 125; refine (hCB.out _ (cur_drew C4.out)).mono ?_; rintro _ w5 ⟨t', u', rfl, ht', hap', C', G''⟩; have G' : w4.grownBy w5 (some P) := ⟨G''.os, G''.tape, G''.output, G''.size, G''.block⟩; clear G''; have HT' := Lib.hid ht'; clear ht'; have HAP' := Lib.hid (show AP w5 w4.heap.size 29 u' t'.l from hap'); clear hap'; obtain ⟨au', cu', rfl⟩ := HAP'.out.form; have C5 := Lib.hid C'; have GP := Lib.hid G'; have XR5 := Lib.hid (box_gr XR4.out G' (by have h1 := HP.out; have h2 := LER.out; omega)); have XQ5 := Lib.hid (box_gr XQ4.out G' (by have h1 := HP.out; have h2 := LEQ.out; omega)); have XA5 := Lib.hid (box_gr XA4.out G' (by have h1 := HP.out; have h2 := LEA.out; omega)); have XB5 := Lib.hid (box_gr XB4.out G' (by have h1 := HP.out; have h2 := LEB.out; omega)); have KT5 := Lib.hid (Kp.gr KT4.out G' LPT.out); have G5 := Lib.hid (gr_trans G4.out G'); clear C' G'; have Wl := box_lt XB5.out; obtain ⟨W0, W1, W2, W3, W4, Wf0, Wf1, Wf2, Wf3, Wf4⟩ := five_open XB5.out)
       | (refine step_append_lies _ rfl (.tmp 22) (.tmp 25) 27 rfl (w2.heap.size + 1) 29 i0 _ 5 64 Tryd.underlying27 HI.out hz hs hb rfl (by decide) _ _ _ rfl (draw_own HES.out LPU.out (gr_trans G34.out GP.out) (below1 _ _)) ⟨w5.heap.size, 0, none⟩ 1 1 (cells5 t' (.slice au' t'.l.length cu')) rfl rfl (by exact World.news_of_block (heap_alloc_new _ _)) (one5 _ _ _ _) (by decide) (by unfold maxLen; omega) (by omega) (by have h1 := G34.out.size; have h2 := GP.out.size; simp only [World.size_alloc]; (try omega)) _ rfl ?_; intro g cap5 w6 hown2 hg2 hf2 hlt2; have hsz5 := GP.out.size; have hsz34 := G34.out.size; have z := fun (i : Nat) (hi : i < w2.heap.size + 1 ∨ w3.heap.size ≤ i) (hi2 : i < w4.heap.size) => (hg2.block i (by simp only [World.size_alloc]; omega) (fun e => by have := HES.out.row.lt i e.symm; omega)).trans (Below.heap_alloc _ _ _ (by omega)); have XR6 := Lib.hid ((z w.heap.size (by omega) (by omega)).trans XR5.out); have XQ6 := Lib.hid ((z (w.heap.size + 1) (by omega) (by omega)).trans XQ5.out); have XA6 := Lib.hid ((z w2.heap.size (by omega) (by omega)).trans XA5.out); have XB6 := Lib.hid ((z w3.heap.size (by omega) (by omega)).trans XB5.out); clear z; have Yl := box_lt XB6.out; obtain ⟨Y0, Y1, Y2, Y3, Y4, Yf0, Yf1, Yf2, Yf3, Yf4⟩ := five_open XB6.out; have Rl := box_lt XR6.out; obtain ⟨R0, R1, R2, R3, R4, Rf0, Rf1, Rf2, Rf3, Rf4⟩ := five_open XR6.out; have Ql := box_lt XQ6.out; obtain ⟨Q0, Q1, Q2, Q3, Q4, Qf0, Qf1, Qf2, Qf3, Qf4⟩ := five_open XQ6.out; have Al := box_lt XA6.out; obtain ⟨A0, A1, A2, A3, A4, Af0, Af1, Af2, Af3, Af4⟩ := five_open XA6.out; have HOWN := Lib.hid hown2; have HG2 := Lib.hid hg2; have HF2 := Lib.hid hf2; clear hown2 hg2 hf2))
    all_goals
      have hr6 : ∀ k, Value.ownBlock (.slice ab t.l.length cb) = some k → w2.heap.size + 1 ≤ k := fun k hk => (HES.out.row.lt k hk).1
      have C6 := Lib.hid ((Cur.alloc C5.out _).grown HG2.out (fun k hk => by have h1 := LPU.out; have h2 := hr6 k hk; omega))
      have G6 := Lib.hid (gr_new (gr_alloc G5.out _) HG2.out (fun k hk => by have h2 := hr6 k hk; omega))
      have KT6 := Lib.hid (show Kp w2 w1.heap.size w6 from ⟨by have h1 := HG2.out.size; simp only [World.size_alloc] at h1; omega, fun b hb hlt => ((HG2.out.block b (by simp only [World.size_alloc]; omega) (fun e => by have := hr6 b e.symm; omega)).trans (Below.heap_alloc _ _ _ (by omega))).trans (KT5.out.2 b hb hlt)⟩)
      go_wp2_with fail
      go_region
      all_goals
        go_wp2_with fail
        refine bodyPost_ret (v := .tuple #[.agg #[.int .i64 t.kind, .int .i64 t.n, .int .i64 t.x, .string t.s, .slice au t.l.length cu], .agg #[.int .i64 t.kind, .int .i64 t.n, .int .i64 t.x, .string t.s, .slice (some ⟨g, 0, none⟩) (t.l.length + 1) cap5]]) (by simp [results, Tryd.results69, go_sem, R0, R1, R2, R3, R4, Q0, Q1, Q2, Q3, Q4]) rfl ⟨⟨t, .mk t.kind t.n t.x t.s (t.l ++ [t']), _, _, rfl, ⟨by have := HT.out.1; omega, HT.out.2⟩, ⟨by have h1 := HT.out.1; have h2 := Tree.cost_eq t; have h3 := HT'.out.2.1; rw [Tree.cost_eq]; show t.s.size + costL (t.l ++ [t']) ≤ _; rw [costL_snoc]; omega, fitsM HT.out.2.kind HT.out.2.n HT.out.2.x HT.out.2.s⟩, ?_, ?_⟩, ?_⟩
        · refine (Kp.ap (w0 := w2) (lo := w1.heap.size) ?_ HAP.out).osl.tsl
          repeat (first | with_reducible exact KT6.out | with_reducible refine Kp.set ?_ _ (by omega) | with_reducible refine Kp.drew ?_ | with_reducible refine Kp.alloc ?_ _)
        · simp only [Tree.l_mk]
          have hap7 : AP (w6.setCell ⟨w3.heap.size, 4, none⟩ (.slice (some ⟨g, 0, none⟩) (t.l.length + 1) cap5)) (w2.heap.size + 1) 29 (.slice (some ⟨g, 0, none⟩) (t.l.length + 1) cap5) (t.l ++ [t']) := draw_append2 HES.out LPU.out (by omega) (gr_trans G34.out GP.out) (m := w4.heap.size) G34.out.size HAP'.out HT'.out.2.2 GP.out.size (below1 _ _) HOWN.out HG2.out HF2.out (by simp only [World.size_setCell]; exact Nat.le_refl _) (Ex.out (R := w.heap.size) (V := w3.heap.size) (Ex.set1 (Ex.refl _ _ _) _) (by omega) ⟨Nat.le_refl _, box_lt XB4.out⟩)
          refine (Kp.ap (w0 := (w6.setCell ⟨w3.heap.size, 4, none⟩ (.slice (some ⟨g, 0, none⟩) (t.l.length + 1) cap5))) (lo := w2.heap.size + 1) ?_ hap7).osl.tsl
          have hk7 := Kp.refl (w6.setCell ⟨w3.heap.size, 4, none⟩ (.slice (some ⟨g, 0, none⟩) (t.l.length + 1) cap5)) (w2.heap.size + 1)
          repeat (first | with_reducible exact hk7 | with_reducible refine Kp.set ?_ _ (by omega) | with_reducible refine Kp.drew ?_ | with_reducible refine Kp.alloc ?_ _)
        · have hb := below_gr BW1.out G6.out HWP.out
          repeat (first | with_reducible exact hb | with_reducible refine below_set ?_ _ (by omega) | with_reducible refine Below.drew ?_)
  by_cases hy2 : y = 2
  · subst hy2
    have Rl := box_lt XR4.out
    obtain ⟨R0, R1, R2, R3, R4, Rf0, Rf1, Rf2, Rf3, Rf4⟩ := five_open XR4.out
    have Ql := box_lt XQ4.out
    obtain ⟨Q0, Q1, Q2, Q3, Q4, Qf0, Qf1, Qf2, Qf3, Qf4⟩ := five_open XQ4.out
    have Al := box_lt XA4.out
    obtain ⟨A0, A1, A2, A3, A4, Af0, Af1, Af2, Af3, Af4⟩ := five_open XA4.out
    have Bl := box_lt XB4.out
    obtain ⟨B0, B1, B2, B3, B4, Bf0, Bf1, Bf2, Bf3, Bf4⟩ := five_open XB4.out
    obtain ⟨N2, hN2⟩ : ∃ z, z = wrap64 (t.n + 2) := ⟨_, rfl⟩
    have hNw : wf6 N2 := by rw [hN2]; exact wf6_wrap _
    go_wp2_with fail
    rw [← hN2]
    have HNW := Lib.hid hNw; clear hNw hN2
    go_region
    all_goals
      go_wp2_with fail
      refine bodyPost_ret (v := .tuple #[.agg #[.int .i64 t.kind, .int .i64 t.n, .int .i64 t.x, .string t.s, .slice au t.l.length cu], .agg #[.int .i64 t.kind, .int .i64 N2, .int .i64 t.x, .string t.s, .slice ab t.l.length cb]]) (by simp [results, Tryd.results69, go_sem, R0, R1, R2, R3, R4, Q0, Q1, Q2, Q3, Q4]) rfl ⟨⟨t, .mk t.kind N2 t.x t.s t.l, _, _, rfl, ⟨by have := HT.out.1; omega, HT.out.2⟩, ⟨by have h1 := HT.out.1; have h2 := Tree.cost_eq t; rw [Tree.cost_eq]; show t.s.size + costL t.l ≤ _; omega, fitsM HT.out.2.kind HNW.out HT.out.2.x HT.out.2.s⟩, ?_, ?_⟩, ?_⟩
      · refine (Kp.ap (w0 := w2) (lo := w1.heap.size) ?_ HAP.out).osl.tsl
        repeat (first | with_reducible exact KT4.out | with_reducible refine Kp.set ?_ _ (by omega) | with_reducible refine Kp.drew ?_ | with_reducible refine Kp.alloc ?_ _)
      · refine (Kp.ap (w0 := w3) (lo := w2.heap.size + 1) ?_ HAPB.out).osl.tsl
        repeat (first | with_reducible exact KU4.out | with_reducible refine Kp.set ?_ _ (by omega) | with_reducible refine Kp.drew ?_ | with_reducible refine Kp.alloc ?_ _)
      · have hb := below_gr BW1.out G4.out HWP.out
        repeat (first | with_reducible exact hb | with_reducible refine below_set ?_ _ (by omega) | with_reducible refine Below.drew ?_ | with_reducible refine below_alloc ?_ _)
  have n0 : (y == 0) = false := by simpa using hy0
  have n1 : (y == 1) = false := by simpa using hy1
  have n2 : (y == 2) = false := by simpa using hy2
  have Rl := box_lt XR4.out
  obtain ⟨R0, R1, R2, R3, R4, Rf0, Rf1, Rf2, Rf3, Rf4⟩ := five_open XR4.out
  have Ql := box_lt XQ4.out
  obtain ⟨Q0, Q1, Q2, Q3, Q4, Qf0, Qf1, Qf2, Qf3, Qf4⟩ := five_open XQ4.out
  have Al := box_lt XA4.out
  obtain ⟨A0, A1, A2, A3, A4, Af0, Af1, Af2, Af3, Af4⟩ := five_open XA4.out
  have Bl := box_lt XB4.out
  obtain ⟨B0, B1, B2, B3, B4, Bf0, Bf1, Bf2, Bf3, Bf4⟩ := five_open XB4.out
  go_wp2_with fail
  go_region
  all_goals
    go_wp2_with fail
    refine bodyPost_ret (v := .tuple #[.agg #[.int .i64 t.kind, .int .i64 t.n, .int .i64 t.x, .string t.s, .slice au t.l.length cu], .agg #[.int .i64 t.kind, .int .i64 t.n, .int .i64 t.x, .string t.s, .slice ab t.l.length cb]]) (by simp [results, Tryd.results69, go_sem, R0, R1, R2, R3, R4, Q0, Q1, Q2, Q3, Q4]) rfl ⟨⟨t, t, _, _, rfl, ⟨by have := HT.out.1; omega, HT.out.2⟩, ⟨by have := HT.out.1; omega, HT.out.2⟩, ?_, ?_⟩, ?_⟩
    · refine (Kp.ap (w0 := w2) (lo := w1.heap.size) ?_ HAP.out).osl.tsl
      repeat (first | with_reducible exact KT4.out | with_reducible refine Kp.set ?_ _ (by omega) | with_reducible refine Kp.drew ?_ | with_reducible refine Kp.alloc ?_ _)
    · refine (Kp.ap (w0 := w3) (lo := w2.heap.size + 1) ?_ HAPB.out).osl.tsl
      repeat (first | with_reducible exact KU4.out | with_reducible refine Kp.set ?_ _ (by omega) | with_reducible refine Kp.drew ?_ | with_reducible refine Kp.alloc ?_ _)
    · have hb := below_gr BW1.out G4.out HWP.out
      repeat (first | with_reducible exact hb | with_reducible refine below_set ?_ _ (by omega) | with_reducible refine Below.drew ?_ | with_reducible refine below_alloc ?_ _)
end Go.Proofs.YtilmhemcpgiikaaDoor
/- The laws' own comparisons. -/
namespace Go.Proofs.YtilmhemcpgiikaaDoor
open Go.Deep Go.ChangeShapes Go.WideShapes Go.ChangeAt Go.RowKit

theorem big_c (n : Nat) (a : Option Addr) (cap : Nat) (w : World) :
    Calls Tryd.prog 26 #[.slice a n cap] w fun e w' => e = .returned (.bool (decide ((1048576 : Int) < (n : Int)))) ∧ w = w' := by
  go_enter Tryd.func26, Tryd.ntmps26
  go_wp2_with fail
  go_ret
  exact ⟨rfl, rfl⟩
end Go.Proofs.YtilmhemcpgiikaaDoor
/- Plain laws on the division of two words by one. -/
namespace Go.Proofs.YtilmhemcpgiikaaDoor

/-- One digit of the quotient: what its loop keeps. -/
theorem digit_cond {Q R y1 y0 u3 u1 : Nat} (h : Q * y1 + R = u3) :
    (4294967296 * R + u1 < Q * y0) ↔ u3 * 4294967296 + u1 < Q * (y1 * 4294967296 + y0) := by
  have e : Q * (y1 * 4294967296 + y0) = (Q * y1) * 4294967296 + Q * y0 := by rw [Nat.mul_add, ← Nat.mul_assoc]
  rw [e]
  generalize Q * y1 = A at *
  generalize Q * y0 = B at *
  omega
theorem digit_small {u3 u1 y : Nat} (h : u3 < y) (h1 : u1 < 4294967296) : (u3 * 4294967296 + u1) / y < 4294967296 := by
  rw [Nat.div_lt_iff_lt_mul (by omega)]
  have := Nat.mul_le_mul_right 4294967296 (show u3 + 1 ≤ y by omega)
  rw [Nat.mul_comm]; omega
theorem digit_down {Q R y1 y0 u3 u1 : Nat} (h : Q * y1 + R = u3) (hy : 0 < y1 * 4294967296 + y0) (hs : (u3 * 4294967296 + u1) / (y1 * 4294967296 + y0) < 4294967296)
    (hQ : (u3 * 4294967296 + u1) / (y1 * 4294967296 + y0) ≤ Q) (hc : 4294967296 ≤ Q ∨ 4294967296 * R + u1 < Q * y0) :
    1 ≤ Q ∧ (u3 * 4294967296 + u1) / (y1 * 4294967296 + y0) ≤ Q - 1 ∧ (Q - 1) * y1 + (R + y1) = u3 := by
  have hlt : (u3 * 4294967296 + u1) / (y1 * 4294967296 + y0) < Q := by
    rcases hc with hc | hc
    · omega
    · rw [Nat.div_lt_iff_lt_mul hy]; exact (digit_cond h).1 hc
  clear hs hQ hc hy
  generalize (u3 * 4294967296 + u1) / (y1 * 4294967296 + y0) = q at *
  obtain ⟨k, rfl⟩ : ∃ k, Q = k + 1 := ⟨Q - 1, by omega⟩
  refine ⟨by omega, by omega, ?_⟩
  rw [Nat.add_mul, Nat.one_mul] at h
  rw [Nat.add_sub_cancel]; omega
theorem digit_done {Q R y1 y0 u3 u1 : Nat} (h : Q * y1 + R = u3) (hy : 0 < y1 * 4294967296 + y0)
    (hQ : (u3 * 4294967296 + u1) / (y1 * 4294967296 + y0) ≤ Q) (hc : ¬ 4294967296 * R + u1 < Q * y0) : Q = (u3 * 4294967296 + u1) / (y1 * 4294967296 + y0) := by
  have h2 : Q ≤ (u3 * 4294967296 + u1) / (y1 * 4294967296 + y0) := by
    rw [Nat.le_div_iff_mul_le hy]
    have := mt (digit_cond (u1 := u1) (y0 := y0) h).2 hc
    omega
  omega
theorem digit_break {Q R y1 y0 u3 u1 : Nat} (h : Q * y1 + R = u3) (hy : 0 < y1 * 4294967296 + y0) (hy0 : y0 < 4294967296)
    (hQ : (u3 * 4294967296 + u1) / (y1 * 4294967296 + y0) ≤ Q) (hQ2 : Q ≤ 4294967296) (hR : 4294967296 ≤ R) : Q = (u3 * 4294967296 + u1) / (y1 * 4294967296 + y0) := by
  refine digit_done h hy hQ ?_
  have a := Nat.mul_le_mul hQ2 (show y0 ≤ 4294967295 by omega)
  omega
/-- Where the loop begins. -/
theorem digit_start {y1 y0 u3 u1 : Nat} (hn : 2147483648 ≤ y1) (hy0 : y0 < 4294967296) (hu : u3 < y1 * 4294967296 + y0) (h1 : u1 < 4294967296) :
    u3 / y1 * y1 + u3 % y1 = u3 ∧ (u3 * 4294967296 + u1) / (y1 * 4294967296 + y0) ≤ u3 / y1 ∧ u3 / y1 ≤ 4294967297 ∧ u3 % y1 < y1 := by
  have e := Nat.div_add_mod u3 y1
  have em := Nat.mod_lt u3 (show 0 < y1 by omega)
  refine ⟨by rw [Nat.mul_comm]; exact e, ?_, ?_, em⟩
  · have h2 : (u3 * 4294967296 + u1) / (y1 * 4294967296 + y0) < u3 / y1 + 1 := by
      rw [Nat.div_lt_iff_lt_mul (by omega), Nat.add_mul, Nat.one_mul, Nat.mul_add, ← Nat.mul_assoc, Nat.mul_comm (u3 / y1) y1]
      generalize y1 * (u3 / y1) = A at *
      generalize u3 / y1 * y0 = B at *
      generalize u3 % y1 = r at *
      omega
    omega
  · have h3 : u3 / y1 < 4294967298 := by
      rw [Nat.div_lt_iff_lt_mul (by omega)]; omega
    omega
/-- The whole division, out of its two digits. -/
theorem whole_div {N y q1 q0 U u0 : Nat} (hy : 0 < y) (hN : N = U * 4294967296 + u0) (h1 : q1 = U / y)
    (h0 : q0 = (U % y * 4294967296 + u0) / y) :
    N / y = q1 * 4294967296 + q0 ∧ N % y = (U % y * 4294967296 + u0) % y := by
  have e := Nat.div_add_mod U y
  have em := Nat.mod_lt U hy
  rw [← h1] at e
  generalize U % y = r at *
  have e2 := Nat.div_add_mod (r * 4294967296 + u0) y
  have em2 := Nat.mod_lt (r * 4294967296 + u0) hy
  rw [← h0] at e2
  generalize (r * 4294967296 + u0) % y = t at *
  have e3 : N = y * (q1 * 4294967296 + q0) + t := by
    rw [hN, ← e, Nat.mul_add, ← Nat.mul_assoc]
    generalize y * q1 = A at *
    generalize y * q0 = B at *
    omega
  constructor
  · rw [e3, Nat.mul_add_div hy, Nat.div_eq_of_lt em2, Nat.add_zero]
  · rw [e3, Nat.mul_add_mod, Nat.mod_eq_of_lt em2]
/-- Shifted alike, a division stays. -/
theorem shift_div {N y s : Nat} (_hy : 0 < y) : N * 2 ^ s / (y * 2 ^ s) = N / y ∧ N * 2 ^ s % (y * 2 ^ s) / 2 ^ s = N % y := by
  have hp : 0 < 2 ^ s := Nat.pow_pos (by decide)
  refine ⟨Nat.mul_div_mul_right _ _ hp, ?_⟩
  rw [Nat.mul_mod_mul_right, Nat.mul_div_cancel _ hp]
/-- The shifted dividend, in words. -/
theorem shift_words {hi lo s : Nat} (hs : s ≤ 64) : (hi * 18446744073709551616 + lo) * 2 ^ s = (hi * 2 ^ s + lo / 2 ^ (64 - s)) * 18446744073709551616 + lo * 2 ^ s % 18446744073709551616 := by
  have e64 : (2 : Nat) ^ (64 - s) * 2 ^ s = 18446744073709551616 := by
    rw [← Nat.pow_add, show 64 - s + s = 64 by omega]
  have e1 : lo * 2 ^ s / 18446744073709551616 = lo / 2 ^ (64 - s) := by
    rw [← e64]; exact Nat.mul_div_mul_right _ _ (Nat.pow_pos (by decide))
  have e2 := Nat.div_add_mod (lo * 2 ^ s) 18446744073709551616
  rw [e1] at e2
  rw [Nat.add_mul, Nat.add_mul, Nat.mul_right_comm hi]
  generalize hi * 2 ^ s = A at *
  generalize lo * 2 ^ s = B at *
  generalize lo / 2 ^ (64 - s) = C at *
  omega
end Go.Proofs.YtilmhemcpgiikaaDoor
