/- The plain law under GetRune, over lists of bytes: what GetRune answers is what the decoder of a list's tail says. -/
import Derived.Test.YtjkjfdhbbblffaaDoorCGetRune
import Derived.Test.YtjkjfdhbbblffaaDoorCStr
import Derived.Lib.TrimUEq
import Derived.Lib.ValidLaws
namespace Go.Proofs.YtjkjfdhbbblffaaDoor

theorem decodeN_four (n b0 b1 b2 b3 : Nat) : Lib.decodeN (min 4 n) b0 b1 b2 b3 = Lib.decodeN n b0 b1 b2 b3 := by
  have c1 : (1 < min 4 n) = (1 < n) := propext ⟨fun h => by omega, fun h => by omega⟩
  have c2 : (2 < min 4 n) = (2 < n) := propext ⟨fun h => by omega, fun h => by omega⟩
  have c3 : (3 < min 4 n) = (3 < n) := propext ⟨fun h => by omega, fun h => by omega⟩
  unfold Lib.decodeN
  simp only [c1, c2, c3]
theorem dec_le (l : List UInt8) (hne : l ≠ []) : (Lib.decodeL l).2 ≤ l.length := by
  have hl : 0 < l.length := List.length_pos_iff.2 hne
  rw [Lib.decodeL_N]
  unfold Lib.decodeN
  repeat' split
  all_goals (simp only; omega)
theorem decodeL_take (l : List UInt8) : Lib.decodeL (l.take 4) = Lib.decodeL l := by
  rw [Lib.decodeL_N, Lib.decodeL_N, List.length_take, decodeN_four]
  congr 2 <;> simp [List.getD_eq_getElem?_getD, List.getElem?_take]
theorem bzf_bz (l : List UInt8) (p i : Nat) : bzf (bz l) p i = ((l.drop p).getD i 0).toNat := by
  unfold bzf
  by_cases h : p + i < l.length
  · rw [bz_getD h]
    simp [List.getD_eq_getElem?_getD, List.getElem?_drop, h]
  · have h1 : (bz l).length ≤ p + i := by rw [bz_length]; omega
    simp [List.getD_eq_getElem?_getD, List.getElem?_drop, List.getElem?_eq_none h1, List.getElem?_eq_none (show l.length ≤ p + i by omega)]
theorem getV_L (l : List UInt8) (p : Nat) (hp : p < l.length) :
    getV (bz l) p = if Lib.decodeL (l.drop p) = (65533, 1) then (0, 0, false) else (((Lib.decodeL (l.drop p)).1 : Int), (p : Int) + (Lib.decodeL (l.drop p)).2, true) := by
  have hN : Lib.decodeL (l.drop p) = Lib.decodeN ((bz l).length - p) (bzf (bz l) p 0) (bzf (bz l) p 1) (bzf (bz l) p 2) (bzf (bz l) p 3) := by
    rw [Lib.decodeL_N, List.length_drop, bz_length]
    simp only [bzf_bz]
  have hlt : ∀ i, bzf (bz l) p i < 256 := fun i => by rw [bzf_bz]; exact UInt8.toNat_lt _
  have hg := getF_eq ((bz l).length - p) (bzf (bz l) p) (by rw [bz_length]; omega) hlt
  rw [← hN] at hg
  unfold getV
  rw [if_pos ⟨by omega, by rw [bz_length]; omega⟩, show ((p : Int)).toNat = p by omega, hg]
  by_cases h : Lib.decodeL (l.drop p) = (65533, 1)
  · rw [if_pos h]; simp [h]
  · rw [if_neg h]; simp [h]
end Go.Proofs.YtjkjfdhbbblffaaDoor
