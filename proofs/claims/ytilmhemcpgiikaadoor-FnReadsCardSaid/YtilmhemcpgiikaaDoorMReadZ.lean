/- Where a number that was read ends: within the text. -/
import Derived.Test.YtilmhemcpgiikaaDoorMBack
namespace Go.Proofs.YtilmhemcpgiikaaDoor

theorem rn4_z {ng dn : Bool} {ds ex : List UInt8} {fr q : Nat} {n x z c : Int} (h : rn4 ng ds fr ex dn q = (n, x, z, c)) : z = q := by
  unfold rn4 at h
  split at h <;> (simp only [Prod.mk.injEq] at h; omega)
theorem rn3_z {l : List UInt8} {ng : Bool} {ds : List UInt8} {fr q : Nat} {n x z : Int} (hq : q ≤ l.length) (h : rn3 l ng ds fr q = (n, x, z, 0)) : z ≤ l.length := by
  unfold rn3 at h
  by_cases h1 : byN l q = 101 ∨ byN l q = 69
  · rw [if_pos h1] at h
    have h2 : q < l.length := byN_lt (by omega)
    have h3 : (if byN l (q + 1) = 45 ∨ byN l (q + 1) = 43 then q + 2 else q + 1) ≤ l.length := by
      split
      · rename_i h4
        have : q + 1 < l.length := byN_lt (by omega)
        omega
      · omega
    generalize (if byN l (q + 1) = 45 ∨ byN l (q + 1) = 43 then q + 2 else q + 1) = r at *
    split at h
    · simp at h
    · have := rn4_z h
      have := dsAt_le h3
      omega
  · rw [if_neg h1] at h
    have := rn4_z h
    omega
theorem rn2_z {l : List UInt8} {ng : Bool} {wh : List UInt8} {q : Nat} {n x z : Int} (hq : q ≤ l.length) (h : rn2 l ng wh q = (n, x, z, 0)) : z ≤ l.length := by
  unfold rn2 at h
  split at h
  · rename_i h1
    have h2 : q < l.length := byN_lt (by omega)
    split at h
    · simp at h
    · exact rn3_z (dsAt_le (by omega)) h
  · exact rn3_z hq h
theorem rn1_z {l : List UInt8} {ng : Bool} {p : Nat} {n x z : Int} (hq : p ≤ l.length) (h : rn1 l ng p = (n, x, z, 0)) : z ≤ l.length := by
  unfold rn1 at h
  split at h
  · simp at h
  · split at h
    · rename_i h1
      have : p < l.length := byN_lt (by omega)
      exact rn2_z (by omega) h
    · exact rn2_z (dsAt_le hq) h
/-- A number that was read ends within the text. -/
theorem rnF_z {l : List UInt8} {p n x z : Int} (h : rnF l p = (n, x, z, 0)) : z ≤ l.length := by
  unfold rnF at h
  split at h
  · simp at h
  · rename_i h0
    split at h
    · rename_i h1
      have : p.toNat < l.length := byN_lt (by omega)
      exact rn1_z (by omega) h
    · exact rn1_z (by omega) h
theorem ext_cut (S : ByteArray) (i z : Nat) : (S.extract i z).data.toList = cutL S.data.toList i z := by
  unfold cutL
  rw [ByteArray.data_extract, Array.toList_extract, List.extract_eq_take_drop]
end Go.Proofs.YtilmhemcpgiikaaDoor
