/- The draws of big-endian numbers. -/
import Derived.Test.YtcagcjkhjfbbpaaCCur2
import Derived.Test.YtcagcjkhjfbbpaaCPutBigN
import Derived.Test.YtcagcjkhjfbbpaaCWidthFor
import Derived.Test.YtcagcjkhjfbbpaaDHalf
import Derived.Test.YtcagcjkhjfbbpaaDHex
namespace Go.Proofs.Ytcagcjkhjfbbpaa
open Go.Deep Go.ChangeShapes Go.WideShapes Go.ChangeAt Go.RowKit

theorem widthF_bd (n : Int) : 0 ≤ widthF n ∧ widthF n ≤ 8 := by unfold widthF; (repeat' split) <;> omega
theorem beF_byte (n k : Int) (h0 : 0 ≤ n) (h1 : n ≤ 9223372036854775807) : ∀ x ∈ beF n k, 0 ≤ x ∧ x ≤ 255 := by
  intro x hx
  unfold beF at hx
  (repeat' split at hx) <;> simp at hx <;> omega
theorem putF_byte (zs : List Int) (n k : Int) (h1 : n ≤ 9223372036854775807) (hz : ∀ x ∈ zs, (Lit.int .u8 x).wf = true) : ∀ x ∈ putF zs n k, (Lit.int .u8 x).wf = true := by
  unfold putF
  split
  · rename_i hok
    have h0 := (okBig_true hok).1
    intro x hx
    rcases List.mem_append.1 hx with h | h
    · exact hz x h
    · have := beF_byte n k h0 h1 x h
      simp [Lit.wf, IntKind.min, IntKind.max, IntKind.signed, IntKind.bits]; omega
  · exact hz
set_option maxRecDepth 100000 in
set_option maxHeartbeats 4000000 in
theorem drawPutBig_c (zs : List Int) (a : Option Addr) (cap : Nat) (w : World) (hr : Rd w .u8 a zs) (hw : ∀ n ∈ zs, (Lit.int .u8 n).wf = true) (hlen : zs.length ≤ 1048576) (hcap : zs.length ≤ cap) :
    Calls Try.prog 26 #[.slice a zs.length cap] w fun e w' => (∃ (v : Value) (vs : List Int) (n k : Int), e = .returned (.tuple #[v, .int .i64 n, .int .i64 k]) ∧ (∀ x ∈ vs, (Lit.int .u8 x).wf = true) ∧ vs.length ≤ 1000 ∧ wf6 n ∧ (0 ≤ k ∧ k ≤ 8) ∧ w'.ownsRow w.heap.size 5 1 v vs.length (vs.map (Value.int .u8))) ∧ Below w.heap.size w w' := by
  have HR := Lib.hid hr; clear hr
  have HW := Lib.hid hw; clear hw
  go_enter Try.func26, Try.ntmps26
  go_wp2_with fail
  refine (l1New_c zs a cap _ HR.out HW.out hlen hcap).mono ?_
  rintro _ w1 ⟨P, rfl, hP, C', B'⟩
  have HP := Lib.hid hP; clear hP
  have C1 := Lib.hid C'; clear C'
  have B1 := Lib.hid B'; clear B'
  go_wp2_with fail
  refine (l1Below_c P 3 _ C1.out (by omega)).mono ?_
  rintro _ w2 ⟨x, rfl, x0, x1, -, -, C', G'⟩
  have C2 := Lib.hid C'; clear C'
  have B2 := Lib.hid (below_gr B1.out G' HP.out)
  clear G'
  replace x1 := x1 (by omega)
  go_wp2_with fail
  refine (l1Bytes_c P x _ C2.out (by omega)).mono ?_
  rintro _ w3 ⟨v, rfl, vs, lv, qv', o', C', G'⟩
  have Qv := Lib.hid qv'; clear qv'
  have Ov3 := Lib.hid o'; clear o'
  have C3 := Lib.hid C'; clear C'
  have B3 := Lib.hid (below_gr B2.out G' HP.out)
  clear G'
  obtain ⟨a1, cap1, rfl, -, -, c1, c2⟩ := own_rd Ov3.out
  go_wp2_with fail
  refine (l1One_c P _ C3.out).mono ?_
  rintro _ w4 ⟨n, rfl, hn', C', G'⟩
  have Hn := Lib.hid hn'; clear hn'
  have C4 := Lib.hid C'; clear C'
  have B4 := Lib.hid (below_gr B3.out G' HP.out)
  have Ov4 := Lib.hid (own_gr Ov3.out G' C2.out.lt); clear Ov3
  clear G'
  go_wp2_with fail
  refine (l1Int_c P [1, 2, 4, 8, 3, 0] w4.heap.size 6 _ (C4.out.alloc _) (rd_laid w4 _ _) (Nat.ne_of_gt C4.out.lt) (by simp) (by simp) (by simp)).mono ?_
  rintro _ w5 ⟨k, rfl, hk', C', G'⟩
  have Hk := Lib.hid hk'; clear hk'
  have C5 := Lib.hid C'; clear C'
  have B5 := Lib.hid (below_gr (B4.out.alloc B4.out.size _) G' HP.out)
  have Ov5 := Lib.hid (own_gr (own_kept (below1 _ _) Ov4.out) G' C2.out.lt); clear Ov4
  clear G'
  have hk : 0 ≤ k ∧ k ≤ 8 := by have h := Hk.out; simp at h; omega
  have HK := Lib.hid hk; clear hk
  go_wp2_with fail
  refine (l1Once_c P 2 _ C5.out (by omega)).mono ?_
  rintro _ w6 ⟨t, rfl, C', G'⟩
  have C6 := Lib.hid C'; clear C'
  have B6 := Lib.hid (below_gr B5.out G' HP.out)
  have Ov6 := Lib.hid (own_gr Ov5.out G' C2.out.lt); clear Ov5
  clear G'
  cases t with
  | true =>
    go_wp2_with fail
    refine (widthFor_spec n _).mono ?_
    rintro _ _ ⟨rfl, rfl⟩
    have hwd := Lib.hid (widthF_bd n)
    generalize widthF n = kk at *
    go_wp2_with fail
    refine bodyPost_ret (v := .tuple #[.slice a1 vs.length cap1, .int .i64 n, .int .i64 kk]) (by simp [results, Try.results26, go_sem]) rfl ⟨⟨_, vs, _, _, rfl, Qv.out, by omega, Hn.out, hwd.out, own_mono Ov6.out B2.out.size⟩, B6.out⟩
  | false =>
    go_wp2_with fail
    refine bodyPost_ret (v := .tuple #[.slice a1 vs.length cap1, .int .i64 n, .int .i64 k]) (by simp [results, Try.results26, go_sem]) rfl ⟨⟨_, vs, _, _, rfl, Qv.out, by omega, Hn.out, HK.out, own_mono Ov6.out B2.out.size⟩, B6.out⟩
set_option maxRecDepth 100000 in
set_option maxHeartbeats 4000000 in
theorem drawGetBig_c (zs : List Int) (a : Option Addr) (cap : Nat) (w : World) (hr : Rd w .u8 a zs) (hw : ∀ n ∈ zs, (Lit.int .u8 n).wf = true) (hlen : zs.length ≤ 1048576) (hcap : zs.length ≤ cap) :
    Calls Try.prog 28 #[.slice a zs.length cap] w fun e w' => (∃ (v : Value) (vs : List Int) (p k : Int), e = .returned (.tuple #[v, .int .i64 p, .int .i64 k]) ∧ (∀ x ∈ vs, (Lit.int .u8 x).wf = true) ∧ vs.length ≤ 1000 ∧ (-1 ≤ p ∧ p ≤ 10) ∧ (0 ≤ k ∧ k ≤ 8) ∧ w'.ownsRow w.heap.size 5 1 v vs.length (vs.map (Value.int .u8))) ∧ Below w.heap.size w w' := by
  have HR := Lib.hid hr; clear hr
  have HW := Lib.hid hw; clear hw
  go_enter Try.func28, Try.ntmps28
  go_wp2_with fail
  refine (l1New_c zs a cap _ HR.out HW.out hlen hcap).mono ?_
  rintro _ w1 ⟨P, rfl, hP, C', B'⟩
  have HP := Lib.hid hP; clear hP
  have C1 := Lib.hid C'; clear C'
  have B1 := Lib.hid B'; clear B'
  go_wp2_with fail
  refine (l1Once_c P 2 _ C1.out (by omega)).mono ?_
  rintro _ w2 ⟨t, rfl, C', G'⟩
  have C2 := Lib.hid C'; clear C'
  have B2 := Lib.hid (below_gr B1.out G' HP.out)
  clear G'
  cases t with
  | true =>
    go_wp2_with fail
    refine (l1Num_c P _ C2.out).mono ?_
    rintro _ w3 ⟨n, rfl, hn', C', G'⟩
    have Hn := Lib.hid hn'; clear hn'
    have C3 := Lib.hid C'; clear C'
    have B3 := Lib.hid (below_gr B2.out G' HP.out)
    clear G'
    go_wp2_with fail
    refine (widthFor_spec n _).mono ?_
    rintro _ _ ⟨rfl, rfl⟩
    have hwd := Lib.hid (widthF_bd n)
    generalize widthF n = kk at *
    go_wp2_with fail
    refine (putBig_spec_c n kk [7] (some ⟨w3.heap.size, 0, none⟩) 1 _ (.inr ⟨_, 0, rfl, by simp, fun j hj => by simp at hj; subst hj; rw [World.cell?_alloc_at _ _ _ _ rfl]; rfl⟩) (by simp) (by have := Hn.out; omega)).mono ?_
    rintro _ wp ⟨vp, rfl, op, bp⟩
    have hby := Lib.hid (putF_byte [7] n kk (by have := Hn.out; omega) (by simp [Lit.wf, IntKind.min, IntKind.max, IntKind.signed, IntKind.bits]))
    have hln := Lib.hid (putF_len [7] n kk)
    generalize putF [7] n kk = ps at *
    have OP := Lib.hid (own_mono op (show w.heap.size ≤ _ by rw [World.size_alloc]; have := B3.out.size; omega)); clear op
    have TP := Lib.hid (nx (B3.out.alloc B3.out.size _) bp); clear bp
    obtain ⟨a1, cap1, rfl, -, -, c1, c2⟩ := own_rd OP.out
    go_wp2_with fail
    refine bodyPost_ret (v := .tuple #[.slice a1 ps.length cap1, .int .i64 1, .int .i64 kk]) (by simp [results, Try.results28, go_sem]) rfl ⟨⟨_, ps, _, _, rfl, hby.out, by have := hln.out; simp at this; omega, ⟨by omega, by omega⟩, hwd.out, OP.out⟩, TP.out⟩
  | false =>
    go_wp2_with fail
    refine (l1Below_c P 10 _ C2.out (by omega)).mono ?_
    rintro _ w3 ⟨x, rfl, x0, x1, -, -, C', G'⟩
    have C3 := Lib.hid C'; clear C'
    have B3 := Lib.hid (below_gr B2.out G' HP.out)
    clear G'
    replace x1 := x1 (by omega)
    go_wp2_with fail
    refine (l1Bytes_c P x _ C3.out (by omega)).mono ?_
    rintro _ w4 ⟨v, rfl, vs, lv, qv', o', C', G'⟩
    have Qv := Lib.hid qv'; clear qv'
    have Ov4 := Lib.hid o'; clear o'
    have C4 := Lib.hid C'; clear C'
    have B4 := Lib.hid (below_gr B3.out G' HP.out)
    clear G'
    obtain ⟨a1, cap1, rfl, -, -, c1, c2⟩ := own_rd Ov4.out
    go_wp2_with fail
    refine (l1Below_c P 5 _ C4.out (by omega)).mono ?_
    rintro _ w5 ⟨y, rfl, y0, y1, -, -, C', G'⟩
    have C5 := Lib.hid C'; clear C'
    have B5 := Lib.hid (below_gr B4.out G' HP.out)
    have Ov5 := Lib.hid (own_gr Ov4.out G' C3.out.lt); clear Ov4
    clear G'
    replace y1 := y1 (by omega)
    go_wp2_with fail
    refine (l1Int_c P [1, 2, 4, 8, 3] w5.heap.size 5 _ (C5.out.alloc _) (rd_laid w5 _ _) (Nat.ne_of_gt C5.out.lt) (by simp) (by simp) (by simp)).mono ?_
    rintro _ w6 ⟨k, rfl, hk', C', G'⟩
    have Hk := Lib.hid hk'; clear hk'
    have C6 := Lib.hid C'; clear C'
    have B6 := Lib.hid (below_gr (B5.out.alloc B5.out.size _) G' HP.out)
    have Ov6 := Lib.hid (own_gr (own_kept (below1 _ _) Ov5.out) G' C3.out.lt); clear Ov5
    clear G'
    have hk : 0 ≤ k ∧ k ≤ 8 := by have h := Hk.out; simp at h; omega
    have HK := Lib.hid hk; clear hk
    go_wp2_with fail
    refine bodyPost_ret (v := .tuple #[.slice a1 vs.length cap1, .int .i64 (y - 1), .int .i64 k]) (by simp [results, Try.results28, go_sem]) rfl ⟨⟨_, vs, _, _, rfl, Qv.out, by omega, ⟨by omega, by omega⟩, HK.out, own_mono Ov6.out (by have h1 := B3.out.size; exact h1)⟩, B6.out⟩
end Go.Proofs.Ytcagcjkhjfbbpaa
