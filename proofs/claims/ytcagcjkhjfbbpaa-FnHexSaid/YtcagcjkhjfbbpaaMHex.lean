/- Plain laws of hexadecimal digits: what is written is read again, and the other way round. -/
import Derived.Test.YtcagcjkhjfbbpaaCPHex
namespace Go.Proofs.Ytcagcjkhjfbbpaa
open Go.Deep Go.ChangeShapes Go.WideShapes Go.ChangeAt Go.RowKit

theorem hexV_hexD : ∀ k : Fin 16, hexV ((hexD k.val).toNat : Int) = (k.val : Int) := by decide +kernel
theorem hexD_hexV : ∀ k : Fin 256, 0 ≤ hexV (k.val : Int) → hexD (hexV (k.val : Int)).toNat = UInt8.ofNat k.val := by decide +kernel
theorem hexL_cons (b : UInt8) (l : List UInt8) : hexL (b :: l) = hexD (b.toNat / 16) :: hexD (b.toNat % 16) :: hexL l := by simp [hexL]
theorem parse_hexL : ∀ l : List UInt8, parseX (hexL l) = some l
  | [] => rfl
  | b :: l => by
    have hb := UInt8.toNat_lt b
    have h1 := hexV_hexD ⟨b.toNat / 16, by omega⟩
    have h2 := hexV_hexD ⟨b.toNat % 16, by omega⟩
    simp only at h1 h2
    rw [hexL_cons, parseX, parse_hexL l, h1, h2, if_neg (by omega)]
    have : ((16 : Int) * ((b.toNat / 16 : Nat) : Int) + ((b.toNat % 16 : Nat) : Int)).toNat = b.toNat := by omega
    rw [this]; simp
theorem hexL_parse : ∀ (l m : List UInt8), parseX l = some m → hexL m = l
  | [], m, h => by simp [parseX] at h; subst h; rfl
  | [_], m, h => by simp [parseX] at h
  | a :: b :: l, m, h => by
    rw [parseX] at h
    split at h
    · cases h
    · rename_i hn
      have ha := hexD_hexV ⟨a.toNat, UInt8.toNat_lt a⟩ (by show 0 ≤ hexV (a.toNat : Int); omega)
      have hb := hexD_hexV ⟨b.toNat, UInt8.toNat_lt b⟩ (by show 0 ≤ hexV (b.toNat : Int); omega)
      simp only [UInt8.ofNat_toNat] at ha hb
      obtain ⟨m', hm', rfl⟩ := Option.map_eq_some_iff.1 h
      have ih := hexL_parse l m' hm'
      have va : hexV (a.toNat : Int) ≤ 15 := by unfold hexV; split <;> (try split) <;> omega
      have vb : hexV (b.toNat : Int) ≤ 15 := by unfold hexV; split <;> (try split) <;> omega
      have e : (UInt8.ofNat (16 * hexV a.toNat + hexV b.toNat).toNat).toNat = (16 * hexV a.toNat + hexV b.toNat).toNat := by simp; omega
      rw [hexL_cons, ih, e]
      have e1 : (16 * hexV a.toNat + hexV b.toNat).toNat / 16 = (hexV a.toNat).toNat := by omega
      have e2 : (16 * hexV a.toNat + hexV b.toNat).toNat % 16 = (hexV b.toNat).toNat := by omega
      rw [e1, e2, ha, hb]
end Go.Proofs.Ytcagcjkhjfbbpaa
