/- A slice of bytes as a string. -/
import Derived.Test.YtcmdchhhdcdpnaaDoorAppend
import Derived.Laws.BytesString
namespace Go.Proofs.YtcmdchhhdcdpnaaDoor
open Go.Deep Go.ChangeShapes Go.WideShapes Go.ChangeAt Go.RowKit

/-- The numbers of bytes. -/
def bz (l : List UInt8) : List Int := l.map fun b => (b.toNat : Int)
theorem bz_length (l : List UInt8) : (bz l).length = l.length := by simp [bz]
theorem bz_map (l : List UInt8) : (bz l).map (Value.int .u8) = l.map fun b => Value.int .u8 (b.toNat : Int) := by simp [bz]
theorem bz_append (l m : List UInt8) : bz (l ++ m) = bz l ++ bz m := by simp [bz]
theorem bz_getD {l : List UInt8} {j : Nat} (h : j < l.length) : (bz l).getD j 0 = (l[j].toNat : Int) := by simp [bz, List.getD, h]
/-- What fits a byte is a byte. -/
theorem bz_of (zs : List Int) (h : ∀ n ∈ zs, (Lit.int .u8 n).wf = true) : ∃ l, zs = bz l := by
  refine ⟨zs.map fun n => UInt8.ofNat n.toNat, ?_⟩
  unfold bz
  rw [List.map_map]
  conv => lhs; rw [← List.map_id zs]
  refine List.map_congr_left fun n hn => ?_
  have := h n hn
  simp [Lit.wf, IntKind.min, IntKind.max, IntKind.signed, IntKind.bits] at this
  simp
  omega

theorem push_all : ∀ (l : List UInt8) (s : ByteArray), (bz l).foldl (fun r n => r.push (UInt8.ofNat n.toNat)) s = ⟨s.data ++ l.toArray⟩
  | [], s => by simp [bz]
  | b :: l, s => by
    have := push_all l (s.push b)
    simp only [bz, List.map_cons, List.foldl_cons, Int.toNat_natCast, UInt8.ofNat_toNat] at this ⊢
    rw [this]
    congr 1
    simp [ByteArray.push]

/-- string(b). -/
theorem run_str {P : Program} {w : World} {src dst e : TypeId} (hs : P.underlying src = some (.slice e)) (he : P.underlying e = some (.int .u8)) (hd : P.underlying dst = some .string)
    {l : List UInt8} {a : Option Addr} {c n : Nat} (hn : n = l.length) (hr : Rd w .u8 a (bz l)) : (convert src dst (.slice a n c)).run P w = .ok (.string ⟨l.toArray⟩) w := by
  subst hn
  rw [run_convert_bytes_string w src dst e a _ c hs he hd]
  cases a with
  | none =>
    have : l = [] := by
      rcases hr with h | ⟨b, off, hb, _⟩
      · simpa [bz] using h
      · cases hb
    subst this
    simp [Conv.bytesToString, Sem.run_pure]
    rfl
  | some ad =>
    rw [run_bytesToString w ad l.length c (bz l) ?_, push_all]
    · simp
    · have h1 : ∀ j v, ((bz l).map (Value.int .u8))[j]? = some v → w.cell? (ad.add j) = some v := by
        intro j u hu
        rcases hr with h | ⟨b, off, hb, _, hc⟩
        · rw [h] at hu; simp at hu
        · rw [Option.some.injEq] at hb
          subst hb
          rw [List.getElem?_map] at hu
          by_cases hj : j < (bz l).length
          · rw [List.getElem?_eq_getElem hj] at hu
            simp at hu
            have hadd : (⟨b, off, none⟩ : Addr).add j = ⟨b, off + j, none⟩ := by unfold Addr.add; split <;> simp_all
            rw [hadd, hc j hj, ← hu]
            simp [List.getD, List.getElem?_eq_getElem hj]
          · rw [List.getElem?_eq_none (by omega)] at hu; simp at hu
      have h2 := run_loadCells_list (P := P) w ad ((bz l).map (Value.int .u8)) h1
      have h3 : ((bz l).map (Value.int .u8)).length = l.length := by simp [bz]
      rw [h3] at h2
      exact h2
/-- make([]T, 0, c), c a variable. -/
theorem make0 {P : Program} (t e : TypeId) (z : Value) (bytes : Nat) (ht : P.underlying t = some (.slice e)) (hinfo : (P.info? e).map (fun i => (i.zero, i.size, i.bytes)) = some (some z, 1, bytes)) (_hz1 : z.cells = #[z])
    (c : Nat) (X : Int) (hX : X = (c : Int)) (hb : bytes * c ≤ 281474976710656) (h63 : c ≤ 9223372036854775807) :
    ∃ cells : Array Value, (∀ w, (Instr.makeSlice t (.int .i64 0) (.int .i64 X)).run P w = .ok (.slice (some ⟨w.heap.size, 0, none⟩) 0 c) (w.alloc (.cells cells e))) ∧ cells.size = c := by
  obtain ⟨i, hi, hz, hs, hby⟩ := info_parts hinfo
  subst hX
  refine ⟨madeCells z.cells (c * 1), fun w => ?_, by rw [size_madeCells]; omega⟩
  have hb' : (bytes : Int) * (c : Int) ≤ 281474976710656 := by
    have h : ((bytes * c : Nat) : Int) ≤ 281474976710656 := by omega
    rwa [Int.natCast_mul] at h
  have := run_make (P := P) w t e i z ht hi hz .i64 .i64 0 (c : Int) (by omega) (by omega) (by rw [hby]; exact hb') (by omega)
  rw [this, hs]
  simp only [Int.toNat_zero, Int.toNat_natCast]
theorem str_take_size (s : ByteArray) : (⟨s.data.toList.toArray⟩ : ByteArray) = s := by simp
end Go.Proofs.YtcmdchhhdcdpnaaDoor
