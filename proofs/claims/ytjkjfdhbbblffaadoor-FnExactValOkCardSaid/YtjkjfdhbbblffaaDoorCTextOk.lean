/- TextOk: both say whether all bytes are encoded characters. -/
import Derived.Test.YtjkjfdhbbblffaaDoorCGetRune2
import Derived.Test.YtjkjfdhbbblffaaDoorMGet
import Derived.Test.YtjkjfdhbbblffaaDoorFrameX
import Derived.Test.YtjkjfdhbbblffaaDoorShelf
import Derived.Test.YtjkjfdhbbblffaaDoorMRunes
namespace Go.Proofs.YtjkjfdhbbblffaaDoor
open Go.Deep Go.ChangeShapes Go.WideShapes Go.ChangeAt Go.RowKit
open Go.ChangeMaps (open_string shut_string)

theorem bz_byte (l : List UInt8) : ∀ n ∈ bz l, (Lit.int .u8 n).wf = true := by
  intro n hn
  unfold bz at hn
  obtain ⟨b, _, rfl⟩ := List.mem_map.1 hn
  have := UInt8.toNat_lt b
  simp [Lit.wf, IntKind.min, IntKind.max, IntKind.signed, IntKind.bits]
  omega

set_option maxRecDepth 100000 in
set_option maxHeartbeats 2000000 in
theorem textOk_spec (s : ByteArray) (w : World) (hlen : s.size ≤ 1048576) :
    Calls Tryd.prog 25 #[.string s] w fun e w' => e = .returned (.bool (Lib.validD s.data.toList)) ∧ Below w.heap.size w w' := by
  obtain ⟨c, W1, hcv, hrd, hb1, -⟩ := conv_bytes (P := Tryd.prog) w 9 53 5 s Tryd.underlying9 Tryd.underlying53 Tryd.underlying5
  obtain ⟨l, hl⟩ : ∃ l, l = s.data.toList := ⟨_, rfl⟩
  obtain ⟨L, hL⟩ : ∃ L, L = s.size := ⟨_, rfl⟩
  have hLl : L = l.length := by rw [hL, hl]; simp
  rw [← hL] at hcv hlen
  rw [← hl] at hrd ⊢
  have HS := Lib.hid (fun p => by
    have := getRune_spec (bz l) (some ⟨w.heap.size, 0, none⟩) c p W1 hrd (bz_byte l) (by rw [bz_length]; omega)
    rwa [bz_length, ← hLl] at this)
  have HB := Lib.hid hb1
  have HL := Lib.hid hLl
  clear hrd hl hL hb1 hLl
  go_enter Tryd.func25, Tryd.ntmps25
  go_wp2_with fail
  clear hcv
  go_loop [4, 5, 6, 7] (fun a _ _ _ => ∃ j : Nat, j ≤ L ∧ a = .int .i64 j ∧ Hid (Lib.validD l = Lib.validD (l.drop j))) (fun a _ _ _ => L - (intOf a).toNat)
  case atStart => exact ⟨0, by omega, rfl, Lib.hid (by simp)⟩
  case round =>
    obtain ⟨j, hj, rfl, HV⟩ := hrel
    by_cases hjl : j < L
    · have hsj := HS.out j
      have hva := valid_at l j (by have := HL.out; omega)
      have hnx := next_bd l j (by have := HL.out; omega)
      obtain ⟨R, hR⟩ : ∃ R, getV (bz l) j = R := ⟨_, rfl⟩
      rw [hR] at hsj hva hnx
      clear hR
      obtain ⟨R1, R2, R3⟩ := R
      simp only at hsj hva hnx
      cases R3 with
      | false =>
        have hf : Lib.validD l = false := by rw [HV.out, hva]; simp
        have HF := Lib.hid hf; have HSJ := Lib.hid hsj; clear hf hva hnx HV hsj
        go_wp2_with (go_at_call 40; refine HSJ.out.mono ?_; rintro e w' ⟨rfl, rfl⟩)
        go_ret
        exact ⟨ret_bool HF.out.symm, HB.out⟩
      | true =>
        obtain ⟨q, rfl, hq1, hq2, -⟩ := hnx rfl
        have hf : Lib.validD l = Lib.validD (l.drop q) := by rw [HV.out, hva]; simp
        have hq3 : q ≤ L := by have := HL.out; omega
        have HF := Lib.hid hf; have HSJ := Lib.hid hsj; clear hf hva hnx HV hsj hq2
        go_wp2_with (go_at_call 40; refine HSJ.out.mono ?_; rintro e w' ⟨rfl, rfl⟩)
        go_round
        case rel => exact ⟨q, by omega, rfl, HF⟩
        case measure => simp [intOf]; omega
    · obtain rfl : j = L := by omega
      have hf : Lib.validD l = true := by
        have h := HV.out
        rw [List.drop_of_length_le (by have := HL.out; omega), Lib.validD_nil] at h
        exact h
      have HF := Lib.hid hf; clear hf
      go_wp2_with fail
      go_ret
      exact ⟨ret_bool HF.out.symm, HB.out⟩

theorem textOk_impl (s : ByteArray) (w : World) (hlen : s.size ≤ 1048576) (hL : LaidU w) :
    Calls Tryd.prog 43 #[.string s] w fun e w' => e = .returned (.bool (Lib.validD s.data.toList)) ∧ Below w.heap.size w w' := by
  have HC := Lib.hid (Tryd.utf8_ValidString s w (by omega) hL)
  clear hL
  generalize Lib.validD s.data.toList = R at *
  go_enter Tryd.func43, Tryd.ntmps43
  go_wp2_with (go_at_call 58; go_fit HC.out; rintro e w' ⟨rfl, hb⟩)
  go_ret
  exact ⟨rfl, hb⟩
end Go.Proofs.YtjkjfdhbbblffaaDoor
