/- Vals: texts of the proof (DRune). -/
import Derived.Test.YtilmhemcpgiikaaGreatDoorSVals34
import Derived.Test.YtilmhemcpgiikaaGreatDoorSVals28
import Derived.Test.YtilmhemcpgiikaaGreatDoorSVals19
/- The draws of characters. -/
namespace Go.Proofs.YtilmhemcpgiikaaGreatDoor
open Go.Deep Go.ChangeShapes Go.WideShapes Go.ChangeAt Go.RowKit

set_option maxRecDepth 100000 in
set_option maxHeartbeats 4000000 in
theorem l2Rune_c (P : Nat) (w : World) (hC : Cur w P) :
    Calls Tryz.prog 79 #[.pointer (some ⟨P, 0, none⟩)] w fun e w' => ∃ x : Int, e = .returned (.int .i64 x) ∧ (0 ≤ x ∧ x ≤ 1114111) ∧ Cur w' P ∧ w.grownBy w' (some P) := by
  have HC := Lib.hid hC; clear hC
  go_enter Tryz.func79, Tryz.ntmps79
  have C0 := Lib.hid HC.out
  have G0 := Lib.hid (gr_refl (w := w) (P := P))
  have HP := Lib.hid HC.out.lt
  go_wp2_with fail
  refine (l1Int_c P [0, 97, 98, 34, 92, 10, 127, 128, 233, 2047, 2048, 8364, 55295, 57344, 65535, 65536, 128512, 1114111] w.heap.size 18 _ (C0.out.alloc _) (rd_laid w _ _) (Nat.ne_of_gt C0.out.lt) (by simp) (by simp) (by simp)).mono ?_
  rintro _ w1 ⟨x, rfl, hx', C', G'⟩
  have Hx := Lib.hid hx'; clear hx'
  have C1 := Lib.hid C'; clear C'
  have G1 := Lib.hid (gr_trans (gr_on G0.out (below1 _ _)) G')
  clear G'
  have hb : 0 ≤ x ∧ x ≤ 1114111 := by have h := Hx.out; simp at h; omega
  go_wp2_with fail
  go_ret
  exact ⟨_, rfl, hb, C1.out, G1.out⟩
theorem enc_wf (n : Int) : ∀ x ∈ encZ n, (Lit.int .u8 x).wf = true := by
  intro x hx
  have h := encZ_len n
  unfold encZ at hx
  split at hx
  · have := Lib.encodeRuneZ_byte n x hx
    simp [Lit.wf, IntKind.min, IntKind.max, IntKind.signed, IntKind.bits]; omega
  · simp at hx
theorem conv_bytes2 {P : Program} (w : World) (src dst e : TypeId) (s : ByteArray) (hs : P.underlying src = some .string) (hd : P.underlying dst = some (.slice e)) (he : P.underlying e = some (.int .u8)) :
    ∃ c W1, (convert src dst (.string s)).run P w = .ok (.slice (some ⟨w.heap.size, 0, none⟩) s.size c) W1 ∧ Rd W1 .u8 (some ⟨w.heap.size, 0, none⟩) (bz s.data.toList) ∧ Below w.heap.size w W1 ∧ w.heap.size < W1.heap.size ∧ s.size ≤ c := by
  obtain ⟨c, W1, h1, h2, h3, h4⟩ := conv_bytes (P := P) w src dst e s hs hd he
  refine ⟨c, W1, h1, h2, h3, h4, ?_⟩
  have h5 := run_bytes_of_string (P := P) w src dst e s hs hd he
  rw [h1] at h5
  injection h5 with e1 e2
  injection e1 with e1 e3 e4
  rw [e4]
  exact grownCap_ge w s.size 0 e
theorem bz_wf (l : List UInt8) : ∀ n ∈ bz l, (Lit.int .u8 n).wf = true := by
  intro n hn
  obtain ⟨b, _, rfl⟩ := List.mem_map.1 hn
  have := UInt8.toNat_lt b
  simp [Lit.wf, IntKind.min, IntKind.max, IntKind.signed, IntKind.bits]; omega
end Go.Proofs.YtilmhemcpgiikaaGreatDoor
