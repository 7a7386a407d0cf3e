/- Vals: texts of the proof (CFromRunes). -/
import Derived.Test.YtilmhemcpgiikaaGreatDoorSVals28
import Derived.Test.YtilmhemcpgiikaaGreatDoorSVals3
/- FromRunes: both write the same text. -/
namespace Go.Proofs.YtilmhemcpgiikaaGreatDoor
open Go.Deep Go.ChangeShapes Go.WideShapes Go.ChangeAt Go.RowKit
open Go.ChangeMaps (open_string shut_string)


/-- The bytes of characters. -/
def encL (zs : List Int) : List Int := zs.flatMap encZ
theorem encL_snoc (zs : List Int) (n : Int) : encL (zs ++ [n]) = encL zs ++ encZ n := by simp [encL]
theorem encZ_byte (n : Int) : ∀ x ∈ encZ n, 0 ≤ x ∧ x < 256 := by
  unfold encZ
  by_cases h : runeOkB n = true
  · rw [if_pos h]
    have h' := runeOkB_true.1 h
    by_cases h1 : n < 128
    · rw [Lib.encodeRuneZ_one (by omega) (by omega)]; intro x hx; simp at hx; omega
    by_cases h2 : n < 2048
    · rw [Lib.encodeRuneZ_two (by omega) (by omega)]; intro x hx; simp at hx; omega
    by_cases h3 : n < 65536
    · rw [Lib.encodeRuneZ_three (by omega)]; intro x hx; simp at hx; omega
    · rw [Lib.encodeRuneZ_four (by omega) (by omega)]; intro x hx; simp at hx; omega
  · rw [if_neg h]; simp
/-- Numbers of bytes, as bytes. -/
def toBs (zs : List Int) : List UInt8 := zs.map fun n => UInt8.ofNat n.toNat
theorem bz_toBs (zs : List Int) (h : ∀ x ∈ zs, 0 ≤ x ∧ x < 256) : bz (toBs zs) = zs := by
  unfold bz toBs
  rw [List.map_map]
  conv => rhs; rw [← List.map_id zs]
  refine List.map_congr_left fun n hn => ?_
  have := h n hn
  simp
  omega
theorem encL_byte (zs : List Int) : ∀ x ∈ encL zs, 0 ≤ x ∧ x < 256 := by
  intro x hx
  obtain ⟨n, _, h⟩ := List.mem_flatMap.1 hx
  exact encZ_byte n x h
theorem encL_len (zs : List Int) : (encL zs).length ≤ 4 * zs.length := by
  induction zs with
  | nil => simp [encL]
  | cons n zs ih =>
    have h1 := encZ_len n
    have h2 := wideF_bd n
    simp only [encL, List.flatMap_cons, List.length_append, List.length_cons] at *
    omega
def encS (zs : List Int) : ByteArray := ⟨(toBs (encL zs)).toArray⟩
theorem take_snocI {zs : List Int} {j : Nat} (h : j < zs.length) : zs.take (j + 1) = zs.take j ++ [zs.getD j 0] := by
  rw [List.take_succ_eq_append_getElem h]
  simp [List.getD, List.getElem?_eq_getElem h]
set_option maxHeartbeats 2000000 in
theorem fromRunes_spec (zs : List Int) (a : Option Addr) (cap : Nat) (w : World) (hr : Rd w .i64 a zs) (hlen : zs.length ≤ 1048576) :
    Calls Tryz.prog 80 #[.slice a zs.length cap] w fun e w' => e = .returned (.string (encS zs)) ∧ Below w.heap.size w w' := by
  have HR := Lib.hid hr; clear hr
  have HM := Lib.hid (World.ownsRow_made (base := w.heap.size) (e := 5) (size := 1) w #[] 0 (Nat.le_refl _) (by simp [maxLen]) rfl)
  go_enter Tryz.func80, Tryz.ntmps80
  go_wp2_with fail
  go_loopw [3, 4] (fun v i wr => ∃ (j : Nat) (acc : List Int), j ≤ zs.length ∧ i = .int .i64 j ∧ Hid (acc = encL (zs.take j)) ∧ wr.ownsRow w.heap.size 5 1 v acc.length (acc.map (Value.int .u8)) ∧ Below w.heap.size w wr) (fun _ i _ => zs.length - (intOf i).toNat)
  case atStart => exact ⟨0, [], by omega, rfl, Lib.hid (by simp [encL]), by simpa using HM.out, below1 _ _⟩
  case round =>
    obtain ⟨j, acc, hj, rfl, HA, hown, hbw⟩ := hrel
    obtain ⟨a2, cap2, rfl, -, r2, -, -⟩ := own_rd hown
    have R2 := Lib.hid r2; clear r2
    have OWN := Lib.hid hown; clear hown
    by_cases hjl : j < zs.length
    · rcases HR.out with h0 | ⟨b, off, rfl, hblt, hc⟩
      · rw [h0] at hjl; simp at hjl
      have hc0 := (hbw.cell (p := ⟨b, off + j, none⟩) hblt).trans (hc j hjl)
      clear hc
      have hs := encL_snoc (zs.take j) (zs.getD j 0)
      rw [← take_snocI hjl] at hs
      have HS := Lib.hid hs; clear hs
      have hal : acc.length ≤ 4194304 := by
        have h1 := encL_len (zs.take j)
        rw [← HA.out] at h1
        simp at h1
        omega
      generalize zs.getD j 0 = n at *
      go_wp2_with fail
      refine (putRune_spec acc a2 cap2 n _ R2.out (by omega)).mono ?_
      rintro _ w1 ⟨v1, rfl, ho1, hb1⟩
      have HO1 := Lib.hid ho1; clear ho1
      go_wp2_with fail
      go_roundw
      case rel => exact ⟨j + 1, acc ++ encZ n, by omega, by go_num, Lib.hid (by rw [HS.out, HA.out]), HO1.out.mono hbw.size, hbw.trans (hb1.mono hbw.size)⟩
      case measure => simp [intOf]; omega
    · obtain rfl : j = zs.length := by omega
      have hacc : acc = encL zs := by have := HA.out; rwa [List.take_length] at this
      have hz0 : bz (toBs acc) = acc := bz_toBs _ (by rw [hacc]; exact encL_byte zs)
      have hfin : encS zs = ⟨(toBs acc).toArray⟩ := by unfold encS; rw [hacc]
      have HF := Lib.hid hfin; clear hfin hacc
      have hst := run_str (P := Tryz.prog) Tryz.underlying22 Tryz.underlying5 Tryz.underlying9 (c := cap2) (n := acc.length) (l := toBs acc) (by simp [toBs]) (w := wr) (a := a2) (by rw [hz0]; exact R2.out)
      clear hz0
      generalize (⟨(toBs acc).toArray⟩ : ByteArray) = res at *
      go_wp2_with fail
      go_ret
      exact ⟨ret_str HF.out.symm, hbw⟩

end Go.Proofs.YtilmhemcpgiikaaGreatDoor
