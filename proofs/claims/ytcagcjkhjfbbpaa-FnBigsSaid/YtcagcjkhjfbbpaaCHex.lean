/- HexText: both write the same digits. -/
import Derived.Test.YtcagcjkhjfbbpaaCSlice
import Derived.Test.YtcagcjkhjfbbpaaBLaw
import Derived.Test.YtcagcjkhjfbbpaaCStr
import Derived.Deep.AppendLies
import Derived.Deep.RegionLaw
namespace Go.Proofs.Ytcagcjkhjfbbpaa
open Go.Deep Go.ChangeShapes Go.WideShapes Go.ChangeAt Go.RowKit


/-- A hexadecimal digit. -/
def hexD (n : Nat) : UInt8 := if n < 10 then (48 + n).toUInt8 else (87 + n).toUInt8
def hexL (l : List UInt8) : List UInt8 := l.flatMap fun b => [hexD (b.toNat / 16), hexD (b.toNat % 16)]
theorem hexL_snoc (l : List UInt8) (b : UInt8) : hexL (l ++ [b]) = hexL l ++ [hexD (b.toNat / 16), hexD (b.toNat % 16)] := by simp [hexL]
theorem hexL_length (l : List UInt8) : (hexL l).length = 2 * l.length := by
  induction l with
  | nil => rfl
  | cons b l ih => simp [hexL] at *; omega
theorem hx0 (w : World) : (Instr.index 9 (Value.string { data := #[48, 49, 50, 51, 52, 53, 54, 55, 56, 57, 97, 98, 99, 100, 101, 102] }) (.int .u8 0)).run Try.prog w = .ok (.int .u8 48) w := by kernel_rfl
theorem hx1 (w : World) : (Instr.index 9 (Value.string { data := #[48, 49, 50, 51, 52, 53, 54, 55, 56, 57, 97, 98, 99, 100, 101, 102] }) (.int .u8 1)).run Try.prog w = .ok (.int .u8 49) w := by kernel_rfl
theorem hx2 (w : World) : (Instr.index 9 (Value.string { data := #[48, 49, 50, 51, 52, 53, 54, 55, 56, 57, 97, 98, 99, 100, 101, 102] }) (.int .u8 2)).run Try.prog w = .ok (.int .u8 50) w := by kernel_rfl
theorem hx3 (w : World) : (Instr.index 9 (Value.string { data := #[48, 49, 50, 51, 52, 53, 54, 55, 56, 57, 97, 98, 99, 100, 101, 102] }) (.int .u8 3)).run Try.prog w = .ok (.int .u8 51) w := by kernel_rfl
theorem hx4 (w : World) : (Instr.index 9 (Value.string { data := #[48, 49, 50, 51, 52, 53, 54, 55, 56, 57, 97, 98, 99, 100, 101, 102] }) (.int .u8 4)).run Try.prog w = .ok (.int .u8 52) w := by kernel_rfl
theorem hx5 (w : World) : (Instr.index 9 (Value.string { data := #[48, 49, 50, 51, 52, 53, 54, 55, 56, 57, 97, 98, 99, 100, 101, 102] }) (.int .u8 5)).run Try.prog w = .ok (.int .u8 53) w := by kernel_rfl
theorem hx6 (w : World) : (Instr.index 9 (Value.string { data := #[48, 49, 50, 51, 52, 53, 54, 55, 56, 57, 97, 98, 99, 100, 101, 102] }) (.int .u8 6)).run Try.prog w = .ok (.int .u8 54) w := by kernel_rfl
theorem hx7 (w : World) : (Instr.index 9 (Value.string { data := #[48, 49, 50, 51, 52, 53, 54, 55, 56, 57, 97, 98, 99, 100, 101, 102] }) (.int .u8 7)).run Try.prog w = .ok (.int .u8 55) w := by kernel_rfl
theorem hx8 (w : World) : (Instr.index 9 (Value.string { data := #[48, 49, 50, 51, 52, 53, 54, 55, 56, 57, 97, 98, 99, 100, 101, 102] }) (.int .u8 8)).run Try.prog w = .ok (.int .u8 56) w := by kernel_rfl
theorem hx9 (w : World) : (Instr.index 9 (Value.string { data := #[48, 49, 50, 51, 52, 53, 54, 55, 56, 57, 97, 98, 99, 100, 101, 102] }) (.int .u8 9)).run Try.prog w = .ok (.int .u8 57) w := by kernel_rfl
theorem hx10 (w : World) : (Instr.index 9 (Value.string { data := #[48, 49, 50, 51, 52, 53, 54, 55, 56, 57, 97, 98, 99, 100, 101, 102] }) (.int .u8 10)).run Try.prog w = .ok (.int .u8 97) w := by kernel_rfl
theorem hx11 (w : World) : (Instr.index 9 (Value.string { data := #[48, 49, 50, 51, 52, 53, 54, 55, 56, 57, 97, 98, 99, 100, 101, 102] }) (.int .u8 11)).run Try.prog w = .ok (.int .u8 98) w := by kernel_rfl
theorem hx12 (w : World) : (Instr.index 9 (Value.string { data := #[48, 49, 50, 51, 52, 53, 54, 55, 56, 57, 97, 98, 99, 100, 101, 102] }) (.int .u8 12)).run Try.prog w = .ok (.int .u8 99) w := by kernel_rfl
theorem hx13 (w : World) : (Instr.index 9 (Value.string { data := #[48, 49, 50, 51, 52, 53, 54, 55, 56, 57, 97, 98, 99, 100, 101, 102] }) (.int .u8 13)).run Try.prog w = .ok (.int .u8 100) w := by kernel_rfl
theorem hx14 (w : World) : (Instr.index 9 (Value.string { data := #[48, 49, 50, 51, 52, 53, 54, 55, 56, 57, 97, 98, 99, 100, 101, 102] }) (.int .u8 14)).run Try.prog w = .ok (.int .u8 101) w := by kernel_rfl
theorem hx15 (w : World) : (Instr.index 9 (Value.string { data := #[48, 49, 50, 51, 52, 53, 54, 55, 56, 57, 97, 98, 99, 100, 101, 102] }) (.int .u8 15)).run Try.prog w = .ok (.int .u8 102) w := by kernel_rfl
theorem hexIx (k : Nat) (h : k < 16) (w : World) : (Instr.index 9 (Value.string { data := #[48, 49, 50, 51, 52, 53, 54, 55, 56, 57, 97, 98, 99, 100, 101, 102] }) (.int .u8 (k : Int))).run Try.prog w = .ok (.int .u8 ((hexD k).toNat : Int)) w := by
  have hk : k = 0 ∨ k = 1 ∨ k = 2 ∨ k = 3 ∨ k = 4 ∨ k = 5 ∨ k = 6 ∨ k = 7 ∨ k = 8 ∨ k = 9 ∨ k = 10 ∨ k = 11 ∨ k = 12 ∨ k = 13 ∨ k = 14 ∨ k = 15 := by omega
  rcases hk with rfl | rfl | rfl | rfl | rfl | rfl | rfl | rfl | rfl | rfl | rfl | rfl | rfl | rfl | rfl | rfl
  · exact hx0 w
  · exact hx1 w
  · exact hx2 w
  · exact hx3 w
  · exact hx4 w
  · exact hx5 w
  · exact hx6 w
  · exact hx7 w
  · exact hx8 w
  · exact hx9 w
  · exact hx10 w
  · exact hx11 w
  · exact hx12 w
  · exact hx13 w
  · exact hx14 w
  · exact hx15 w

theorem index_str (s : ByteArray) (j : Nat) (h : j < s.size) : ∀ w, (Instr.index 9 (.string s) (.int .i64 j)).run Try.prog w = .ok (.int .u8 ((s.data.toList[j]'(by rw [Array.length_toList]; exact h)).toNat : Int)) w := by
  intro w
  have h' : (j : Int) < (s.size : Int) := by omega
  go_simp
  rfl
theorem hex_at (b : Nat) (h : b < 256) : ∀ w, (Instr.index 9 (Value.string { data := #[48, 49, 50, 51, 52, 53, 54, 55, 56, 57, 97, 98, 99, 100, 101, 102] }) (.int .u8 ((b : Int) / 16))).run Try.prog w = .ok (.int .u8 ((hexD (b / 16)).toNat : Int)) w := by
  intro w
  have := hexIx (b / 16) (by omega) w
  rwa [Int.natCast_ediv] at this
theorem hex_and (b : Nat) (h : b < 256) : (bits BinOp.and IntKind.u8 b 15 = (b : Int) % 16) ∧ ∀ w, (Instr.index 9 (Value.string { data := #[48, 49, 50, 51, 52, 53, 54, 55, 56, 57, 97, 98, 99, 100, 101, 102] }) (.int .u8 ((b : Int) % 16))).run Try.prog w = .ok (.int .u8 ((hexD (b % 16)).toNat : Int)) w := by
  refine ⟨?_, fun w => by have := hexIx (b % 16) (by omega) w; rwa [Int.natCast_emod] at this⟩
  rw [show (15 : Int) = ((15 : Nat) : Int) from rfl, u8_and_nat b 15 h (by decide), show 15 = 2 ^ 4 - 1 from rfl, Nat.and_two_pow_sub_one_eq_mod, Int.natCast_emod]
  rfl


set_option maxHeartbeats 1000000 in
theorem hexText_spec (s : ByteArray) (w : World) (hs : s.size ≤ 1048576) :
    Calls Try.prog 15 #[.string s] w fun e w' => e = .returned (.string ⟨(hexL s.data.toList).toArray⟩) ∧ Below w.heap.size w w' := by
  obtain ⟨i0, hi, hz, hsz, hb⟩ := info_parts info_byte
  have HI := Lib.hid hi; clear hi
  have hsize : s.data.toList.length = s.size := by rw [Array.length_toList]; rfl
  have HSZ := Lib.hid hsize; clear hsize
  have HM := Lib.hid (World.ownsRow_made (base := w.heap.size) (e := 5) (size := 1) w #[] 0 (Nat.le_refl _) (by simp [maxLen]) rfl)
  go_enter Try.func15, Try.ntmps15
  go_wp2_with fail
  go_loopw [3, 4] (fun v i wr => ∃ j : Nat, j ≤ s.size ∧ i = .int .i64 j ∧ wr.ownsRow w.heap.size 5 1 v (2 * j) ((hexL (s.data.toList.take j)).map fun b => Value.int .u8 b.toNat) ∧ Below w.heap.size w wr) (fun _ i _ => s.size - (intOf i).toNat)
  case atStart => exact ⟨0, by omega, rfl, by simpa [hexL] using HM.out, below1 _ _⟩
  case round =>
    obtain ⟨j, hj, rfl, hown, hbw⟩ := hrel
    have OWN := Lib.hid hown; clear hown
    by_cases hjl : j < s.size
    · have hbx := index_str s j hjl
      have hd1 := hex_at (s.data.toList[j]'(by rw [HSZ.out]; exact hjl)).toNat (UInt8.toNat_lt _)
      have hd2 := hex_and (s.data.toList[j]'(by rw [HSZ.out]; exact hjl)).toNat (UInt8.toNat_lt _)
      have hb1 := UInt8.toNat_lt (s.data.toList[j]'(by rw [HSZ.out]; exact hjl))
      have hst : hexL (s.data.toList.take (j + 1)) = hexL (s.data.toList.take j) ++ [hexD ((s.data.toList[j]'(by rw [HSZ.out]; exact hjl)).toNat / 16), hexD ((s.data.toList[j]'(by rw [HSZ.out]; exact hjl)).toNat % 16)] := by
        rw [List.take_succ_eq_append_getElem (by rw [HSZ.out]; exact hjl), hexL_snoc]
      have HST := Lib.hid hst; clear hst
      generalize hbb : (s.data.toList[j]'(by rw [HSZ.out]; exact hjl)).toNat = b at *
      clear hbb
      obtain ⟨hd3, hd4⟩ := hd2
      go_wp2_with fail
      go_region_law (refine step_append_lies _ rfl (.tmp 12) (.tmp 23) 22 rfl w.heap.size 5 i0 (.int .u8 0) 1 1 Try.underlying22 HI.out hz hsz hb rfl (by decide) _ _ _ rfl (by exact OWN.out.alloc _) ⟨wr.heap.size, 0, none⟩ 2 2 [.int .u8 (hexD (b / 16)).toNat, .int .u8 (hexD (b % 16)).toNat] rfl rfl (by exact World.news_of_block (heap_alloc_new _ _)) (by simp; exact ⟨rfl, rfl⟩) (by decide) (by unfold maxLen; omega) (by omega) (by have := hbw.size; simp; omega) _ rfl ?_; intro g cap w2 hown2 hg2 q1 q2; clear q1 q2)
      all_goals
        go_wp2_with fail
        go_roundw
        case rel =>
          refine ⟨j + 1, by omega, by go_num, ?_, ((hbw.alloc hbw.size _).drew).grown hg2 (by show _ ≤ (wr.alloc _).heap.size; simp only [World.size_alloc]; have := hbw.size; omega) (fun k hk => (OWN.out.lt k hk).1)⟩
          rw [HST.out, List.map_append]
          exact hown2
        case measure => simp [intOf]; omega
    · obtain rfl : j = s.size := by omega
      have htk : s.data.toList.take s.size = s.data.toList := by rw [List.take_of_length_le]; rw [HSZ.out]; exact Nat.le_refl _
      have hO := OWN.out
      rw [htk, ← bz_map] at hO
      obtain ⟨a1, cap1, rfl, hn1, r1, c1, -⟩ := own_rd hO
      rw [bz_length] at hn1
      have hst := run_str (P := Try.prog) Try.underlying22 Try.underlying5 Try.underlying9 (c := cap1) (bz_length _) r1
      generalize bz (hexL s.data.toList) = zz at *
      clear hO htk hn1 OWN
      go_wp2_with fail
      go_ret
      exact ⟨rfl, hbw⟩

set_option maxHeartbeats 1000000 in
theorem hexText_impl (s : ByteArray) (w : World) (hs : s.size ≤ 1048576) :
    Calls Try.prog 10 #[.string s] w fun e w' => e = .returned (.string ⟨(hexL s.data.toList).toArray⟩) ∧ Below w.heap.size w w' := by
  obtain ⟨i0, hi, hz, hsz, hb⟩ := info_parts info_byte
  have HI := Lib.hid hi; clear hi
  have hsize : s.data.toList.length = s.size := by rw [Array.length_toList]; rfl
  have HSZ := Lib.hid hsize; clear hsize
  obtain ⟨cells, hmk, hsz0⟩ := make0 (P := Try.prog) 22 5 (.int .u8 0) 1 Try.underlying22 info_byte rfl (2 * s.size) (2 * (s.size : Int)) (by omega) (by omega) (by omega)
  have HM := Lib.hid (World.ownsRow_made (base := w.heap.size) (e := 5) (size := 1) w cells (2 * s.size) (Nat.le_refl _) (by unfold maxLen; omega) (by omega))
  clear hsz0
  go_enter Try.func10, Try.ntmps10
  go_wp2_with fail
  go_loopw [3, 11] (fun v i wr => ∃ j : Nat, j ≤ s.size ∧ i = .int .i64 j ∧ wr.ownsRow w.heap.size 5 1 v (2 * j) ((hexL (s.data.toList.take j)).map fun b => Value.int .u8 b.toNat) ∧ Below w.heap.size w wr) (fun _ i _ => s.size - (intOf i).toNat)
  case atStart => exact ⟨0, by omega, rfl, by simpa [hexL] using HM.out, below1 _ _⟩
  case round =>
    obtain ⟨j, hj, rfl, hown, hbw⟩ := hrel
    have OWN := Lib.hid hown; clear hown
    by_cases hjl : j < s.size
    · have hbx := index_str s j hjl
      have hd1 := hex_at (s.data.toList[j]'(by rw [HSZ.out]; exact hjl)).toNat (UInt8.toNat_lt _)
      have hd2 := hex_and (s.data.toList[j]'(by rw [HSZ.out]; exact hjl)).toNat (UInt8.toNat_lt _)
      have hb1 := UInt8.toNat_lt (s.data.toList[j]'(by rw [HSZ.out]; exact hjl))
      have hst : hexL (s.data.toList.take (j + 1)) = hexL (s.data.toList.take j) ++ [hexD ((s.data.toList[j]'(by rw [HSZ.out]; exact hjl)).toNat / 16), hexD ((s.data.toList[j]'(by rw [HSZ.out]; exact hjl)).toNat % 16)] := by
        rw [List.take_succ_eq_append_getElem (by rw [HSZ.out]; exact hjl), hexL_snoc]
      have HST := Lib.hid hst; clear hst
      generalize hbb : (s.data.toList[j]'(by rw [HSZ.out]; exact hjl)).toNat = b at *
      clear hbb
      obtain ⟨hd3, hd4⟩ := hd2
      go_wp2_with fail
      go_region_law (refine step_append_lies _ rfl (.tmp 14) (.tmp 25) 22 rfl w.heap.size 5 i0 (.int .u8 0) 1 1 Try.underlying22 HI.out hz hsz hb rfl (by decide) _ _ _ rfl (by exact OWN.out.alloc _) ⟨wr.heap.size, 0, none⟩ 2 2 [.int .u8 (hexD (b / 16)).toNat, .int .u8 (hexD (b % 16)).toNat] rfl rfl (by exact World.news_of_block (heap_alloc_new _ _)) (by simp; exact ⟨rfl, rfl⟩) (by decide) (by unfold maxLen; omega) (by omega) (by have := hbw.size; simp; omega) _ rfl ?_; intro g cap w2 hown2 hg2 q1 q2; clear q1 q2)
      all_goals
        go_wp2_with fail
        go_roundw
        case rel =>
          refine ⟨j + 1, by omega, by go_num, ?_, ((hbw.alloc hbw.size _).drew).grown hg2 (by show _ ≤ (wr.alloc _).heap.size; simp only [World.size_alloc]; have := hbw.size; omega) (fun k hk => (OWN.out.lt k hk).1)⟩
          rw [HST.out, List.map_append]
          exact hown2
        case measure => simp [intOf]; omega
    · obtain rfl : j = s.size := by omega
      have htk : s.data.toList.take s.size = s.data.toList := by rw [List.take_of_length_le]; rw [HSZ.out]; exact Nat.le_refl _
      have hO := OWN.out
      rw [htk, ← bz_map] at hO
      obtain ⟨a1, cap1, rfl, hn1, r1, c1, -⟩ := own_rd hO
      rw [bz_length] at hn1
      have hst := run_str (P := Try.prog) Try.underlying22 Try.underlying5 Try.underlying9 (c := cap1) (bz_length _) r1
      generalize bz (hexL s.data.toList) = zz at *
      clear hO htk hn1 OWN
      go_wp2_with fail
      go_ret
      exact ⟨rfl, hbw⟩

end Go.Proofs.Ytcagcjkhjfbbpaa
