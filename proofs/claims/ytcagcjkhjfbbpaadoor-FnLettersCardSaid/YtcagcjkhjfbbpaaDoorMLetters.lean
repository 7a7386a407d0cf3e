/- Plain laws of characters: what is put is got again, and the other way round; a text is its characters. -/
import Derived.Test.YtcagcjkhjfbbpaaDoorMRunes
import Derived.Test.YtcagcjkhjfbbpaaDoorCFromRunes
import Derived.Lib.MapLaws
import Derived.Lib.ValidLaws
namespace Go.Proofs.YtcagcjkhjfbbpaaDoor
open Go.Deep Go.ChangeShapes Go.WideShapes Go.ChangeAt Go.RowKit

theorem toBs_append (a b : List Int) : toBs (a ++ b) = toBs a ++ toBs b := by simp [toBs]
/-- A character's bytes are decoded to it. -/
theorem dec_enc (n : Int) (rest : List UInt8) (h : runeOkB n = true) : Lib.decodeL (toBs (encZ n) ++ rest) = (n.toNat, (wideF n).toNat) := by
  have h' := runeOkB_true.1 h
  unfold encZ wideF
  rw [if_pos h, if_pos h]
  by_cases h1 : n < 128
  · rw [Lib.encodeRuneZ_one (by omega) (by omega), if_pos h1, Lib.decodeL_N]
    have e0 : (UInt8.ofNat n.toNat).toNat = n.toNat := by simp; omega
    simp only [toBs, List.map_cons, List.map_nil, List.cons_append, List.nil_append, List.getD_cons_zero, e0]
    unfold Lib.decodeN
    rw [if_pos (by omega)]; rfl
  by_cases h2 : n < 2048
  · rw [Lib.encodeRuneZ_two (by omega) (by omega), if_neg h1, if_pos h2, Lib.decodeL_N]
    have e0 : (UInt8.ofNat (192 + n / 64).toNat).toNat = (192 + n / 64).toNat := by simp; omega
    have e1 : (UInt8.ofNat (128 + n % 64).toNat).toNat = (128 + n % 64).toNat := by simp; omega
    simp only [toBs, List.map_cons, List.map_nil, List.cons_append, List.nil_append, List.getD_cons_zero, List.getD_cons_succ, List.length_cons, e0, e1]
    unfold Lib.decodeN
    rw [if_neg (by omega), if_pos (by omega), if_pos (by omega)]
    refine Prod.ext ?_ rfl
    show _ = n.toNat
    omega
  by_cases h3 : n < 65536
  · rw [Lib.encodeRuneZ_three (by omega), if_neg h1, if_neg h2, if_pos h3, Lib.decodeL_N]
    have e0 : (UInt8.ofNat (224 + n / 4096).toNat).toNat = (224 + n / 4096).toNat := by simp; omega
    have e1 : (UInt8.ofNat (128 + n / 64 % 64).toNat).toNat = (128 + n / 64 % 64).toNat := by simp; omega
    have e2 : (UInt8.ofNat (128 + n % 64).toNat).toNat = (128 + n % 64).toNat := by simp; omega
    simp only [toBs, List.map_cons, List.map_nil, List.cons_append, List.nil_append, List.getD_cons_zero, List.getD_cons_succ, List.length_cons, e0, e1, e2]
    unfold Lib.decodeN
    rw [if_neg (by omega), if_neg (by omega), if_pos (by omega), if_pos (by omega)]
    refine Prod.ext ?_ rfl
    show _ = n.toNat
    omega
  · rw [Lib.encodeRuneZ_four (by omega) (by omega), if_neg h1, if_neg h2, if_neg h3, Lib.decodeL_N]
    have e0 : (UInt8.ofNat (240 + n / 262144).toNat).toNat = (240 + n / 262144).toNat := by simp; omega
    have e1 : (UInt8.ofNat (128 + n / 4096 % 64).toNat).toNat = (128 + n / 4096 % 64).toNat := by simp; omega
    have e2 : (UInt8.ofNat (128 + n / 64 % 64).toNat).toNat = (128 + n / 64 % 64).toNat := by simp; omega
    have e3 : (UInt8.ofNat (128 + n % 64).toNat).toNat = (128 + n % 64).toNat := by simp; omega
    simp only [toBs, List.map_cons, List.map_nil, List.cons_append, List.nil_append, List.getD_cons_zero, List.getD_cons_succ, List.length_cons, e0, e1, e2, e3]
    unfold Lib.decodeN
    rw [if_neg (by omega), if_neg (by omega), if_neg (by omega), if_pos (by omega), if_pos (by omega)]
    refine Prod.ext ?_ rfl
    show _ = n.toNat
    omega
theorem wideF_ok {n : Int} (h : runeOkB n = true) : 1 ≤ wideF n ∧ wideF n ≤ 4 := by
  unfold wideF; rw [if_pos h]; (repeat' split) <;> omega
theorem dec_enc_ok (n : Int) (h : runeOkB n = true) : ¬ ((n.toNat = 65533 ∧ (wideF n).toNat = 1)) := by
  have h' := runeOkB_true.1 h
  unfold wideF; rw [if_pos h]; (repeat' split) <;> omega
theorem toBs_len (n : Int) : (toBs (encZ n)).length = (wideF n).toNat := by
  have := encZ_len n; unfold toBs; rw [List.length_map]; omega
theorem drop_enc (n : Int) (rest : List UInt8) : (toBs (encZ n) ++ rest).drop (wideF n).toNat = rest := by
  rw [← toBs_len]; simp
/-- What was put is got again. -/
theorem get_put (l : List UInt8) (n : Int) (h : runeOkB n = true) : getV (bz (l ++ toBs (encZ n))) l.length = (n, (l.length : Int) + wideF n, true) := by
  have hw := wideF_ok h
  have h' := runeOkB_true.1 h
  have hlen := toBs_len n
  rw [getV_L _ _ (by rw [List.length_append]; omega), List.drop_left]
  have hd := dec_enc n [] h
  rw [List.append_nil] at hd
  have hno := dec_enc_ok n h
  rw [hd, if_neg (fun e => hno (by rw [Prod.mk.injEq] at e; exact e))]
  refine Prod.ext ?_ (Prod.ext ?_ rfl)
  · show ((n.toNat : Nat) : Int) = n; omega
  · show (l.length : Int) + (((wideF n).toNat : Nat) : Int) = (l.length : Int) + wideF n; omega
/-- What was got is put again. -/
theorem dec_rune (l : List UInt8) (hne : l ≠ []) (hv : Lib.decodeL l ≠ (65533, 1)) : runeOkB ((Lib.decodeL l).1 : Int) = true ∧ toBs (encZ ((Lib.decodeL l).1 : Int)) = l.take (Lib.decodeL l).2 ∧ wideF ((Lib.decodeL l).1 : Int) = (Lib.decodeL l).2 := by
  have hv' : ¬ ((Lib.decodeL l).1 = 65533 ∧ (Lib.decodeL l).2 = 1) := fun h => hv (Prod.ext h.1 h.2)
  have he := Lib.encode_decode l hne hv'
  have hr : runeOkB ((Lib.decodeL l).1 : Int) = true := by
    rw [runeOkB_true]
    have k0 := (l.getD 0 0).toNat_lt
    rw [Lib.decodeL_N] at hv ⊢
    rcases Lib.decodeN_shape l.length (l.getD 0 0).toNat (l.getD 1 0).toNat (l.getD 2 0).toNat (l.getD 3 0).toNat with ⟨c, e⟩ | ⟨c1, c2, c3, cv, e⟩ | ⟨c1, c2, c3, c4, cv, cs, e⟩ | ⟨c1, c2, c3, c4, c5, cv, cw, e⟩ | e
    · rw [e]; dsimp only; omega
    · rw [e]; dsimp only; omega
    · rw [e]; dsimp only; omega
    · rw [e]; dsimp only; omega
    · exact absurd e hv
  have ht : toBs (encZ ((Lib.decodeL l).1 : Int)) = l.take (Lib.decodeL l).2 := by
    unfold encZ; rw [if_pos hr]; exact he
  refine ⟨hr, ht, ?_⟩
  have h1 := toBs_len ((Lib.decodeL l).1 : Int)
  have h2 := dec_le l hne
  have h3 := wideF_ok hr
  rw [ht, List.length_take] at h1
  omega
theorem put_get (l : List UInt8) (p : Nat) (hp : p < l.length) (m q : Int) (h : getV (bz l) p = (m, q, true)) :
    runeOkB m = true ∧ ∃ k : Nat, q = (p : Int) + k ∧ p + k ≤ l.length ∧ toBs (encZ m) = (l.drop p).take k := by
  have hne : l.drop p ≠ [] := by intro e; have := congrArg List.length e; simp at this; omega
  rw [getV_L l p hp] at h
  by_cases hv : Lib.decodeL (l.drop p) = (65533, 1)
  · rw [if_pos hv] at h; simp at h
  · rw [if_neg hv, Prod.mk.injEq, Prod.mk.injEq] at h
    obtain ⟨rfl, rfl, -⟩ := h
    have h1 := dec_rune _ hne hv
    have h2 := dec_le _ hne
    rw [List.length_drop] at h2
    exact ⟨h1.1, _, rfl, by omega, h1.2.1⟩
/-- The text of characters is valid, and has just those that are characters. -/
theorem runes_encL : ∀ zs : List Int, Lib.validD (toBs (encL zs)) = true ∧ runesD (toBs (encL zs)) = zs.filter fun n => runeOkB n
  | [] => ⟨rfl, rfl⟩
  | n :: zs => by
    have ih := runes_encL zs
    have e : toBs (encL (n :: zs)) = toBs (encZ n) ++ toBs (encL zs) := by
      show toBs (List.flatMap encZ (n :: zs)) = _
      rw [List.flatMap_cons, toBs_append]; rfl
    rw [e]
    cases h : runeOkB n with
    | false =>
      have : encZ n = [] := by unfold encZ; rw [if_neg (by rw [h]; decide)]
      rw [this, List.filter_cons, if_neg (by rw [h]; decide)]
      exact ih
    | true =>
      have hw := wideF_ok h
      have h' := runeOkB_true.1 h
      have hlen := toBs_len n
      have hne : toBs (encZ n) ++ toBs (encL zs) ≠ [] := by
        intro h0
        have := congrArg List.length h0
        rw [List.length_append, List.length_nil] at this
        omega
      have hd := dec_enc n (toBs (encL zs)) h
      have hdr := drop_enc n (toBs (encL zs))
      refine ⟨?_, ?_⟩
      · rw [Lib.validD_step _ hne, hd, if_neg (dec_enc_ok n h)]
        show Lib.validD ((toBs (encZ n) ++ toBs (encL zs)).drop (wideF n).toNat) = true
        rw [hdr]; exact ih.1
      · rw [runesD_step _ hne, hd]
        show ((n.toNat : Nat) : Int) :: runesD ((toBs (encZ n) ++ toBs (encL zs)).drop (wideF n).toNat) = _
        rw [hdr, ih.2, List.filter_cons, if_pos h]
        congr 1; omega
/-- A valid text is the text of its characters. -/
theorem encL_runes : ∀ (k : Nat) (l : List UInt8), l.length ≤ k → Lib.validD l = true → toBs (encL (runesD l)) = l
  | 0, l, hk, _ => by
    have : l = [] := List.eq_nil_of_length_eq_zero (by omega)
    subst this; rfl
  | k + 1, l, hk, hv => by
    by_cases hne : l = []
    · subst hne; rfl
    · have hl : 0 < l.length := List.length_pos_iff.2 hne
      have hw := Lib.decodeL_width l
      rw [Lib.validD_step _ hne] at hv
      split at hv
      · cases hv
      · rename_i hno
        have hne2 : Lib.decodeL l ≠ (65533, 1) := fun e => hno (by rw [e]; exact ⟨rfl, rfl⟩)
        have h1 := dec_rune l hne hne2
        have ih := encL_runes k (l.drop (Lib.decodeL l).2) (by rw [List.length_drop]; omega) hv
        rw [runesD_step _ hne]
        show toBs (List.flatMap encZ (_ :: _)) = l
        rw [List.flatMap_cons, toBs_append, h1.2.1]
        show _ ++ toBs (encL _) = l
        rw [ih, List.take_append_drop]
end Go.Proofs.YtcagcjkhjfbbpaaDoor
