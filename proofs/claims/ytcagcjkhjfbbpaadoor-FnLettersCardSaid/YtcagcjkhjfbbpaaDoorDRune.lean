/- The draws of characters. -/
import Derived.Test.YtcagcjkhjfbbpaaDoorCBent
import Derived.Test.YtcagcjkhjfbbpaaDoorCPutRune
import Derived.Test.YtcagcjkhjfbbpaaDoorMRunes
namespace Go.Proofs.YtcagcjkhjfbbpaaDoor
open Go.Deep Go.ChangeShapes Go.WideShapes Go.ChangeAt Go.RowKit

set_option maxRecDepth 100000 in
set_option maxHeartbeats 4000000 in
theorem l2Rune_c (P : Nat) (w : World) (hC : Cur w P) :
    Calls Tryd.prog 42 #[.pointer (some ⟨P, 0, none⟩)] w fun e w' => ∃ x : Int, e = .returned (.int .i64 x) ∧ (0 ≤ x ∧ x ≤ 1114111) ∧ Cur w' P ∧ w.grownBy w' (some P) := by
  have HC := Lib.hid hC; clear hC
  go_enter Tryd.func42, Tryd.ntmps42
  have C0 := Lib.hid HC.out
  have G0 := Lib.hid (gr_refl (w := w) (P := P))
  have HP := Lib.hid HC.out.lt
  go_wp2_with fail
  refine (l1Int_c P [0, 97, 98, 34, 92, 10, 127, 128, 233, 2047, 2048, 8364, 55295, 57344, 65535, 65536, 128512, 1114111] w.heap.size 18 _ (C0.out.alloc _) (rd_laid w _ _) (Nat.ne_of_gt C0.out.lt) (by simp) (by simp) (by simp)).mono ?_
  rintro _ w1 ⟨x, rfl, hx', C', G'⟩
  have Hx := Lib.hid hx'; clear hx'
  have C1 := Lib.hid C'; clear C'
  have G1 := Lib.hid (gr_trans (gr_on G0.out (below1 _ _)) G')
  clear G'
  have hb : 0 ≤ x ∧ x ≤ 1114111 := by have h := Hx.out; simp at h; omega
  go_wp2_with fail
  go_ret
  exact ⟨_, rfl, hb, C1.out, G1.out⟩
set_option maxRecDepth 100000 in
set_option maxHeartbeats 4000000 in
theorem l2Any_c (P : Nat) (w : World) (hC : Cur w P) :
    Calls Tryd.prog 39 #[.pointer (some ⟨P, 0, none⟩)] w fun e w' => ∃ x : Int, e = .returned (.int .i64 x) ∧ (-1 ≤ x ∧ x ≤ 1114112) ∧ Cur w' P ∧ w.grownBy w' (some P) := by
  have HC := Lib.hid hC; clear hC
  go_enter Tryd.func39, Tryd.ntmps39
  have C0 := Lib.hid HC.out
  have G0 := Lib.hid (gr_refl (w := w) (P := P))
  have HP := Lib.hid HC.out.lt
  go_wp2_with fail
  refine (l1Once_c P 5 _ C0.out (by omega)).mono ?_
  rintro _ w1 ⟨t, rfl, C', G'⟩
  have C1 := Lib.hid C'; clear C'
  have G1 := Lib.hid (gr_trans G0.out G')
  clear G'
  cases t with
  | true =>
    go_wp2_with fail
    refine (l1Int_c P [-1, 55296, 57343, 1114112] w1.heap.size 4 _ (C1.out.alloc _) (rd_laid w1 _ _) (Nat.ne_of_gt C1.out.lt) (by simp) (by simp) (by simp)).mono ?_
    rintro _ w2 ⟨x, rfl, hx', C', G'⟩
    have Hx := Lib.hid hx'; clear hx'
    have C2 := Lib.hid C'; clear C'
    have G2 := Lib.hid (gr_trans (gr_on G1.out (below1 _ _)) G')
    clear G'
    have hb : -1 ≤ x ∧ x ≤ 1114112 := by have h := Hx.out; simp at h; omega
    go_wp2_with fail
    go_ret
    exact ⟨_, rfl, hb, C2.out, G2.out⟩
  | false =>
    go_wp2_with fail
    refine (l2Rune_c P _ C1.out).mono ?_
    rintro _ w2 ⟨x, rfl, hx', C', G'⟩
    have Hx := Lib.hid hx'; clear hx'
    have C2 := Lib.hid C'; clear C'
    have G2 := Lib.hid (gr_trans G1.out G')
    clear G'
    go_wp2_with fail
    go_ret
    exact ⟨_, rfl, by have := Hx.out; omega, C2.out, G2.out⟩
set_option maxRecDepth 100000 in
set_option maxHeartbeats 4000000 in
theorem drawPutRune_c (zs : List Int) (a : Option Addr) (cap : Nat) (w : World) (hr : Rd w .u8 a zs) (hw : ∀ n ∈ zs, (Lit.int .u8 n).wf = true) (hlen : zs.length ≤ 1048576) (hcap : zs.length ≤ cap) :
    Calls Tryd.prog 7 #[.slice a zs.length cap] w fun e w' => (∃ (v : Value) (vs : List Int) (n : Int) (a1 : Option Addr) (cap1 : Nat), e = .returned (.tuple #[v, .int .i64 n]) ∧ v = .slice a1 vs.length cap1 ∧ vs.length ≤ cap1 ∧ Rd w' .u8 a1 vs ∧ (∀ x ∈ vs, (Lit.int .u8 x).wf = true) ∧ vs.length ≤ 1000 ∧ (-1 ≤ n ∧ n ≤ 1114112)) ∧ Below w.heap.size w w' := by
  have HR := Lib.hid hr; clear hr
  have HW := Lib.hid hw; clear hw
  go_enter Tryd.func7, Tryd.ntmps7
  go_wp2_with fail
  refine (l1New_c zs a cap _ HR.out HW.out hlen hcap).mono ?_
  rintro _ w1 ⟨P, rfl, hP, C', B'⟩
  have HP := Lib.hid hP; clear hP
  have C1 := Lib.hid C'; clear C'
  have B1 := Lib.hid B'; clear B'
  go_wp2_with fail
  refine (l1Below_c P 3 _ C1.out (by omega)).mono ?_
  rintro _ w2 ⟨x, rfl, x0, x1, -, -, C', G'⟩
  have C2 := Lib.hid C'; clear C'
  have B2 := Lib.hid (below_gr B1.out G' HP.out)
  clear G'
  replace x1 := x1 (by omega)
  go_wp2_with fail
  refine (l1Bytes_c P x _ C2.out (by omega)).mono ?_
  rintro _ w3 ⟨v, rfl, vs, lv, qv', o', C', G'⟩
  have Qv := Lib.hid qv'; clear qv'
  have Ov3 := Lib.hid o'; clear o'
  have C3 := Lib.hid C'; clear C'
  have B3 := Lib.hid (below_gr B2.out G' HP.out)
  clear G'
  obtain ⟨a1, cap1, rfl, -, -, c1, c2⟩ := own_rd Ov3.out
  go_wp2_with fail
  refine (l2Any_c P _ C3.out).mono ?_
  rintro _ w4 ⟨n, rfl, hn', C', G'⟩
  have Hn := Lib.hid hn'; clear hn'
  have C4 := Lib.hid C'; clear C'
  have B4 := Lib.hid (below_gr B3.out G' HP.out)
  have Ov4 := Lib.hid (own_gr Ov3.out G' C2.out.lt); clear Ov3
  clear G'
  go_wp2_with fail
  refine bodyPost_ret (v := .tuple #[.slice a1 vs.length cap1, .int .i64 n]) (by simp [results, Tryd.results7, go_sem]) rfl ⟨⟨_, vs, _, _, _, rfl, rfl, c1, by obtain ⟨a2, cap2, h1, h2, h3, -⟩ := own_rd Ov4.out; injection h1 with e1; subst e1; exact h3, Qv.out, by omega, Hn.out⟩, B4.out⟩
theorem enc_wf (n : Int) : ∀ x ∈ encZ n, (Lit.int .u8 x).wf = true := by
  intro x hx
  have h := encZ_len n
  unfold encZ at hx
  split at hx
  · have := Lib.encodeRuneZ_byte n x hx
    simp [Lit.wf, IntKind.min, IntKind.max, IntKind.signed, IntKind.bits]; omega
  · simp at hx
theorem conv_bytes2 {P : Program} (w : World) (src dst e : TypeId) (s : ByteArray) (hs : P.underlying src = some .string) (hd : P.underlying dst = some (.slice e)) (he : P.underlying e = some (.int .u8)) :
    ∃ c W1, (convert src dst (.string s)).run P w = .ok (.slice (some ⟨w.heap.size, 0, none⟩) s.size c) W1 ∧ Rd W1 .u8 (some ⟨w.heap.size, 0, none⟩) (bz s.data.toList) ∧ Below w.heap.size w W1 ∧ w.heap.size < W1.heap.size ∧ s.size ≤ c := by
  obtain ⟨c, W1, h1, h2, h3, h4⟩ := conv_bytes (P := P) w src dst e s hs hd he
  refine ⟨c, W1, h1, h2, h3, h4, ?_⟩
  have h5 := run_bytes_of_string (P := P) w src dst e s hs hd he
  rw [h1] at h5
  injection h5 with e1 e2
  injection e1 with e1 e3 e4
  rw [e4]
  exact grownCap_ge w s.size 0 e
theorem bz_wf (l : List UInt8) : ∀ n ∈ bz l, (Lit.int .u8 n).wf = true := by
  intro n hn
  obtain ⟨b, _, rfl⟩ := List.mem_map.1 hn
  have := UInt8.toNat_lt b
  simp [Lit.wf, IntKind.min, IntKind.max, IntKind.signed, IntKind.bits]; omega
set_option maxRecDepth 100000 in
set_option maxHeartbeats 4000000 in
theorem drawGetRune_c (zs : List Int) (a : Option Addr) (cap : Nat) (w : World) (hr : Rd w .u8 a zs) (hw : ∀ n ∈ zs, (Lit.int .u8 n).wf = true) (hlen : zs.length ≤ 1048576) (hcap : zs.length ≤ cap) :
    Calls Tryd.prog 9 #[.slice a zs.length cap] w fun e w' => (∃ (v : Value) (vs : List Int) (n : Int) (a1 : Option Addr) (cap1 : Nat), e = .returned (.tuple #[v, .int .i64 n]) ∧ v = .slice a1 vs.length cap1 ∧ vs.length ≤ cap1 ∧ Rd w' .u8 a1 vs ∧ (∀ x ∈ vs, (Lit.int .u8 x).wf = true) ∧ vs.length ≤ 1000 ∧ (-1 ≤ n ∧ n ≤ 1)) ∧ Below w.heap.size w w' := by
  have HR := Lib.hid hr; clear hr
  have HW := Lib.hid hw; clear hw
  go_enter Tryd.func9, Tryd.ntmps9
  go_wp2_with fail
  refine (l1New_c zs a cap _ HR.out HW.out hlen hcap).mono ?_
  rintro _ w1 ⟨P, rfl, hP, C', B'⟩
  have HP := Lib.hid hP; clear hP
  have C1 := Lib.hid C'; clear C'
  have B1 := Lib.hid B'; clear B'
  go_wp2_with fail
  refine (l2Rune_c P _ (by exact C1.out.alloc _)).mono ?_
  rintro _ w2 ⟨r, rfl, hr', C', G'⟩
  have Hr := Lib.hid hr'; clear hr'
  have C2 := Lib.hid C'; clear C'
  have B2 := Lib.hid (below_gr (B1.out.alloc B1.out.size _) G' HP.out); clear G'
  go_wp2_with fail
  refine (putRune_spec [] _ 0 r _ (.inl rfl) (by simp)).mono ?_
  rintro _ w3 ⟨vp, rfl, op, bp⟩
  rw [List.nil_append] at op
  obtain ⟨ap, cp, rfl, -, rp, lp, -⟩ := own_rd op
  have RP := Lib.hid rp; clear rp op
  have C3 := Lib.hid (C2.out.below bp)
  have B3 := Lib.hid (nx B2.out bp); clear bp
  have EL := Lib.hid (show (encZ r).length ≤ 4 by have h1 := encZ_len r; have h2 := wideF_bd r; omega)
  have EW := Lib.hid (enc_wf r)
  generalize encZ r = es at *
  go_wp2_with fail
  refine (l1Bent_c P es ap cp _ C3.out RP.out EW.out (by have := EL.out; omega)).mono ?_
  rintro _ w4 ⟨v, rfl, vs, lv, q', o', C', G'⟩
  have Qv := Lib.hid q'; clear q'
  have lv2 : vs.length ≤ 5 := by have := EL.out; omega
  have Ov4 := Lib.hid o'; clear o'
  have C4 := Lib.hid C'; clear C'
  have B4 := Lib.hid (below_gr B3.out G' HP.out); clear G'
  obtain ⟨a1, cap1, rfl, -, -, c1, c2⟩ := own_rd Ov4.out
  go_wp2_with fail
  refine (l1Once_c P 6 _ C4.out (by omega)).mono ?_
  rintro _ w5 ⟨t, rfl, C', G'⟩
  have C5 := Lib.hid C'; clear C'
  have B5 := Lib.hid (below_gr B4.out G' HP.out)
  have Ov5 := Lib.hid (own_gr Ov4.out G' C3.out.lt); clear Ov4
  clear G'
  cases t with
  | true =>
    clear Ov5
    go_wp2_with fail
    refine (l1Str_c P [⟨#[192, 128]⟩, ⟨#[237, 160, 128]⟩, ⟨#[244, 144, 128, 128]⟩, ⟨#[226, 130]⟩, ⟨#[128]⟩, ⟨#[248, 136, 128, 128, 128]⟩] w5.heap.size 6 _ (C5.out.alloc _) (rs_laid w5 _ _) (Nat.ne_of_gt C5.out.lt) (by simp) (by simp) (by simp)).mono ?_
    rintro _ w6 ⟨S, rfl, hS', C', G'⟩
    have HS := Lib.hid hS'; clear hS'
    have C6 := Lib.hid C'; clear C'
    have B6 := Lib.hid (below_gr (B5.out.alloc B5.out.size _) G' HP.out)
    clear G'
    have hl : S.size ≤ 5 := by have h := HS.out; simp at h; rcases h with rfl | rfl | rfl | rfl | rfl | rfl <;> decide
    obtain ⟨cc, W1, hcv, hrd, hb1, hlt1, hcc⟩ := conv_bytes2 (P := Tryd.prog) w6 9 22 5 S Tryd.underlying9 Tryd.underlying22 Tryd.underlying5
    have CW := Lib.hid (C6.out.below hb1)
    have BW := Lib.hid (nx B6.out hb1)
    have RW := Lib.hid hrd; clear hrd
    have hPk := C6.out.lt
    have HLT := Lib.hid hlt1; clear hlt1 hb1
    have hsz : (bz S.data.toList).length = S.size := by rw [bz_length, Array.length_toList]; rfl
    have HSZ := Lib.hid hsz; clear hsz
    have HBW := Lib.hid (bz_wf S.data.toList)
    generalize bz S.data.toList = bs at *
    go_wp2_with fail
    refine (l1Int_c P [0, 0, 0, 0, 1, -1] W1.heap.size 6 _ (CW.out.alloc _) (rd_laid W1 _ _) (Nat.ne_of_gt CW.out.lt) (by simp) (by simp) (by simp)).mono ?_
    rintro _ wn ⟨n, rfl, hn', C', G'⟩
    have Hn : -1 ≤ n ∧ n ≤ 1 := by simp at hn'; omega
    have RN := Lib.hid (rd_grown G' (rd_alloc RW.out _) (by intro h; injection h with h; omega))
    have BN := Lib.hid (below_gr (BW.out.alloc BW.out.size _) G' HP.out); clear C' G' hn'
    have hsz := HSZ.out
    go_wp2_with fail
    refine bodyPost_ret (v := .tuple #[.slice (some ⟨w6.heap.size, 0, none⟩) S.size cc, .int .i64 n]) (by simp [results, Tryd.results9, go_sem]) rfl ⟨⟨_, bs, _, _, cc, rfl, by rw [hsz], by omega, RN.out, HBW.out, by omega, Hn⟩, BN.out⟩
  | false =>
    go_wp2_with fail
    refine (l1Int_c P [0, 0, 0, 0, 1, -1] w5.heap.size 6 _ (C5.out.alloc _) (rd_laid w5 _ _) (Nat.ne_of_gt C5.out.lt) (by simp) (by simp) (by simp)).mono ?_
    rintro _ w6 ⟨n, rfl, hn', C', G'⟩
    have Hn := Lib.hid hn'; clear hn'
    have C6 := Lib.hid C'; clear C'
    have B6 := Lib.hid (below_gr (B5.out.alloc B5.out.size _) G' HP.out)
    have Ov6 := Lib.hid (own_gr (own_kept (below1 _ _) Ov5.out) G' C3.out.lt); clear Ov5
    clear G'
    have hn2 : -1 ≤ n ∧ n ≤ 1 := by have h := Hn.out; simp at h; omega
    go_wp2_with fail
    refine bodyPost_ret (v := .tuple #[.slice a1 vs.length cap1, .int .i64 n]) (by simp [results, Tryd.results9, go_sem]) rfl ⟨⟨_, vs, _, _, _, rfl, rfl, c1, by obtain ⟨a2, cap2, h1, h2, h3, -⟩ := own_rd Ov6.out; injection h1 with e1; subst e1; exact h3, Qv.out, by omega, hn2⟩, B6.out⟩
end Go.Proofs.YtcagcjkhjfbbpaaDoor
