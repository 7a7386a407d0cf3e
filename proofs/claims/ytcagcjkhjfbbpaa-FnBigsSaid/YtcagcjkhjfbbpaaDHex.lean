/- The draws of bytes and their digits. -/
import Derived.Test.YtcagcjkhjfbbpaaCCur2
import Derived.Test.YtcagcjkhjfbbpaaCHex
import Derived.Test.YtcagcjkhjfbbpaaBLaw
namespace Go.Proofs.Ytcagcjkhjfbbpaa
open Go.Deep Go.ChangeShapes Go.WideShapes Go.ChangeAt Go.RowKit

set_option maxRecDepth 100000 in
set_option maxHeartbeats 4000000 in
theorem drawHexText_c (zs : List Int) (a : Option Addr) (cap : Nat) (w : World) (hr : Rd w .u8 a zs) (hw : ∀ n ∈ zs, (Lit.int .u8 n).wf = true) (hlen : zs.length ≤ 1048576) (hcap : zs.length ≤ cap) :
    Calls Try.prog 7 #[.slice a zs.length cap] w fun e w' => (∃ s : ByteArray, e = .returned (.string s) ∧ s.size ≤ 1000) ∧ Below w.heap.size w w' := by
  have HR := Lib.hid hr; clear hr
  have HW := Lib.hid hw; clear hw
  go_enter Try.func7, Try.ntmps7
  go_wp2_with fail
  refine (l1New_c zs a cap _ HR.out HW.out hlen hcap).mono ?_
  rintro _ w1 ⟨P, rfl, hP, C', B'⟩
  have HP := Lib.hid hP; clear hP
  have C1 := Lib.hid C'; clear C'
  have B1 := Lib.hid B'; clear B'
  go_wp2_with fail
  refine (l1Below_c P 5 _ C1.out (by omega)).mono ?_
  rintro _ w2 ⟨x, rfl, x0, x1, -, -, C', G'⟩
  have C2 := Lib.hid C'; clear C'
  have B2 := Lib.hid (below_gr B1.out G' HP.out)
  clear G'
  replace x1 := x1 (by omega)
  go_wp2_with fail
  refine (l1Bytes_c P x _ C2.out (by omega)).mono ?_
  rintro _ w3 ⟨v, rfl, vs, lv, qv', o', C', G'⟩
  have Qv := Lib.hid qv'; clear qv'
  have Ov3 := Lib.hid o'; clear o'
  have C3 := Lib.hid C'; clear C'
  have B3 := Lib.hid (below_gr B2.out G' HP.out)
  clear G'
  obtain ⟨l, rfl⟩ := bz_of vs Qv.out
  obtain ⟨a1, cap1, rfl, -, r1, c1, -⟩ := own_rd Ov3.out
  have hst := run_str (P := Try.prog) Try.underlying22 Try.underlying5 Try.underlying9 (c := cap1) (bz_length _) r1
  have hl : (⟨l.toArray⟩ : ByteArray).size ≤ 1000 := by rw [bz_length] at lv; simp [ByteArray.size]; omega
  generalize (⟨l.toArray⟩ : ByteArray) = S at *
  have HL := Lib.hid hl; clear hl r1
  go_wp2_with fail
  go_ret
  exact ⟨⟨_, rfl, HL.out⟩, B3.out⟩
set_option maxRecDepth 100000 in
set_option maxHeartbeats 4000000 in
theorem drawParseHex_c (zs : List Int) (a : Option Addr) (cap : Nat) (w : World) (hr : Rd w .u8 a zs) (hw : ∀ n ∈ zs, (Lit.int .u8 n).wf = true) (hlen : zs.length ≤ 1048576) (hcap : zs.length ≤ cap) :
    Calls Try.prog 8 #[.slice a zs.length cap] w fun e w' => (∃ s : ByteArray, e = .returned (.string s) ∧ s.size ≤ 1000) ∧ Below w.heap.size w w' := by
  have HR := Lib.hid hr; clear hr
  have HW := Lib.hid hw; clear hw
  go_enter Try.func8, Try.ntmps8
  go_wp2_with fail
  refine (l1New_c zs a cap _ HR.out HW.out hlen hcap).mono ?_
  rintro _ w1 ⟨P, rfl, hP, C', B'⟩
  have HP := Lib.hid hP; clear hP
  have C1 := Lib.hid C'; clear C'
  have B1 := Lib.hid B'; clear B'
  go_wp2_with fail
  refine (l1Once_c P 3 _ C1.out (by omega)).mono ?_
  rintro _ w2 ⟨t, rfl, C', G'⟩
  have C2 := Lib.hid C'; clear C'
  have B2 := Lib.hid (below_gr B1.out G' HP.out)
  clear G'
  cases t with
  | true =>
    go_wp2_with fail
    refine (l1Str_c P [⟨#[]⟩, ⟨#[48]⟩, ⟨#[48, 103]⟩, ⟨#[65, 66]⟩, ⟨#[48, 48, 102, 102]⟩, ⟨#[48, 32]⟩] w2.heap.size 6 _ (C2.out.alloc _) (rs_laid w2 _ _) (Nat.ne_of_gt C2.out.lt) (by simp) (by simp) (by simp)).mono ?_
    rintro _ w3 ⟨S, rfl, hS', C', G'⟩
    have HS := Lib.hid hS'; clear hS'
    have C3 := Lib.hid C'; clear C'
    have B3 := Lib.hid (below_gr (B2.out.alloc B2.out.size _) G' HP.out)
    clear G'
    have hl : S.size ≤ 1000 := by have h := HS.out; simp at h; rcases h with rfl | rfl | rfl | rfl | rfl | rfl <;> decide
    go_wp2_with fail
    go_ret
    exact ⟨⟨_, rfl, hl⟩, B3.out⟩
  | false =>
    go_wp2_with fail
    refine (l1Below_c P 4 _ C2.out (by omega)).mono ?_
    rintro _ w3 ⟨x, rfl, x0, x1, -, -, C', G'⟩
    have C3 := Lib.hid C'; clear C'
    have B3 := Lib.hid (below_gr B2.out G' HP.out)
    clear G'
    replace x1 := x1 (by omega)
    go_wp2_with fail
    refine (l1Bytes_c P x _ C3.out (by omega)).mono ?_
    rintro _ w4 ⟨v, rfl, vs, lv, qv', o', C', G'⟩
    have Qv := Lib.hid qv'; clear qv'
    have Ov4 := Lib.hid o'; clear o'
    have C4 := Lib.hid C'; clear C'
    have B4 := Lib.hid (below_gr B3.out G' HP.out)
    clear G'
    obtain ⟨l, rfl⟩ := bz_of vs Qv.out
    obtain ⟨a1, cap1, rfl, -, r1, c1, -⟩ := own_rd Ov4.out
    have hst := run_str (P := Try.prog) Try.underlying22 Try.underlying5 Try.underlying9 (c := cap1) (bz_length _) r1
    have hl : l.length ≤ 400 := by rw [bz_length] at lv; omega
    have HL := Lib.hid hl; clear hl r1
    go_wp2_with fail
    refine (hexText_spec _ _ (by have := HL.out; simp [ByteArray.size]; omega)).mono ?_
    rintro _ wh ⟨rfl, bh⟩
    have hl : (⟨(hexL (⟨l.toArray⟩ : ByteArray).data.toList).toArray⟩ : ByteArray).size ≤ 1000 := by have h1 := HL.out; have h2 := hexL_length l; simp [ByteArray.size]; omega
    generalize (⟨(hexL (⟨l.toArray⟩ : ByteArray).data.toList).toArray⟩ : ByteArray) = S at *
    have HL2 := Lib.hid hl; clear hl
    go_wp2_with fail
    go_ret
    exact ⟨⟨_, rfl, HL2.out⟩, nx B4.out bh⟩
theorem own_mono {w : World} {B B' : Nat} {T : TypeId} {v : Value} {n : Nat} {xs : List Value} (h : w.ownsRow B T 1 v n xs) (hb : B' ≤ B) : w.ownsRow B' T 1 v n xs := by
  refine ⟨h.1, ?_⟩
  rcases h.2 with h2 | ⟨g, cap, cur, hv, hg, r⟩
  · exact .inl h2
  · exact .inr ⟨g, cap, cur, hv, Nat.le_trans hb hg, r⟩
set_option maxRecDepth 100000 in
set_option maxHeartbeats 4000000 in
theorem drawSlice_c (zs : List Int) (a : Option Addr) (cap : Nat) (w : World) (hr : Rd w .u8 a zs) (hw : ∀ n ∈ zs, (Lit.int .u8 n).wf = true) (hlen : zs.length ≤ 1048576) (hcap : zs.length ≤ cap) :
    Calls Try.prog 12 #[.slice a zs.length cap] w fun e w' => (∃ (v : Value) (vs : List Int) (p n : Int), e = .returned (.tuple #[v, .int .i64 p, .int .i64 n]) ∧ (∀ x ∈ vs, (Lit.int .u8 x).wf = true) ∧ vs.length ≤ 1000 ∧ wf6 p ∧ wf6 n ∧ w'.ownsRow w.heap.size 5 1 v vs.length (vs.map (Value.int .u8))) ∧ Below w.heap.size w w' := by
  have HR := Lib.hid hr; clear hr
  have HW := Lib.hid hw; clear hw
  go_enter Try.func12, Try.ntmps12
  go_wp2_with fail
  refine (l1New_c zs a cap _ HR.out HW.out hlen hcap).mono ?_
  rintro _ w1 ⟨P, rfl, hP, C', B'⟩
  have HP := Lib.hid hP; clear hP
  have C1 := Lib.hid C'; clear C'
  have B1 := Lib.hid B'; clear B'
  go_wp2_with fail
  refine (l1Below_c P 8 _ C1.out (by omega)).mono ?_
  rintro _ w2 ⟨x, rfl, x0, x1, -, -, C', G'⟩
  have C2 := Lib.hid C'; clear C'
  have B2 := Lib.hid (below_gr B1.out G' HP.out)
  clear G'
  replace x1 := x1 (by omega)
  go_wp2_with fail
  refine (l1Bytes_c P x _ C2.out (by omega)).mono ?_
  rintro _ w3 ⟨v, rfl, vs, lv, qv', o', C', G'⟩
  have Qv := Lib.hid qv'; clear qv'
  have Ov3 := Lib.hid o'; clear o'
  have C3 := Lib.hid C'; clear C'
  have B3 := Lib.hid (below_gr B2.out G' HP.out)
  clear G'
  obtain ⟨a1, cap1, rfl, -, -, c1, c2⟩ := own_rd Ov3.out
  go_wp2_with fail
  refine (l1Below_c P _ _ C3.out (by omega)).mono ?_
  rintro _ w4 ⟨y, rfl, y0, y1, -, -, C', G'⟩
  have C4 := Lib.hid C'; clear C'
  have B4 := Lib.hid (below_gr B3.out G' HP.out)
  have Ov4 := Lib.hid (own_gr Ov3.out G' C2.out.lt); clear Ov3
  clear G'
  replace y1 := y1 (by omega)
  go_wp2_with fail
  refine (l1Below_c P 5 _ C4.out (by omega)).mono ?_
  rintro _ w5 ⟨z, rfl, z0, z1, -, -, C', G'⟩
  have C5 := Lib.hid C'; clear C'
  have B5 := Lib.hid (below_gr B4.out G' HP.out)
  have Ov5 := Lib.hid (own_gr Ov4.out G' C2.out.lt); clear Ov4
  clear G'
  replace z1 := z1 (by omega)
  go_wp2_with fail
  refine (l1Once_c P 6 _ C5.out (by omega)).mono ?_
  rintro _ w6 ⟨t, rfl, C', G'⟩
  have C6 := Lib.hid C'; clear C'
  have B6 := Lib.hid (below_gr B5.out G' HP.out)
  have Ov6 := Lib.hid (own_gr Ov5.out G' C2.out.lt); clear Ov5
  clear G'
  cases t with
  | true =>
    go_wp2_with fail
    refine (l1Raw_c P _ C6.out).mono ?_
    rintro _ w7 ⟨m, rfl, hm', C', G'⟩
    have Hm := Lib.hid hm'; clear hm'
    have C7 := Lib.hid C'; clear C'
    have B7 := Lib.hid (below_gr B6.out G' HP.out)
    have Ov7 := Lib.hid (own_gr Ov6.out G' C2.out.lt); clear Ov6
    clear G'
    go_wp2_with fail
    refine (l1Once_c P 6 _ C7.out (by omega)).mono ?_
    rintro _ w8 ⟨u, rfl, C', G'⟩
    have C8 := Lib.hid C'; clear C'
    have B8 := Lib.hid (below_gr B7.out G' HP.out)
    have Ov8 := Lib.hid (own_gr Ov7.out G' C2.out.lt); clear Ov7
    clear G'
    cases u with
    | true =>
      go_wp2_with fail
      refine (l1Raw_c P _ C8.out).mono ?_
      rintro _ w9 ⟨n, rfl, hn', C', G'⟩
      have Hn := Lib.hid hn'; clear hn'
      have C9 := Lib.hid C'; clear C'
      have B9 := Lib.hid (below_gr B8.out G' HP.out)
      have Ov9 := Lib.hid (own_gr Ov8.out G' C2.out.lt); clear Ov8
      clear G'
      go_wp2_with fail
      refine bodyPost_ret (v := .tuple #[.slice a1 vs.length cap1, .int .i64 m, .int .i64 n]) (by simp [results, Try.results12, go_sem]) rfl ⟨⟨_, vs, _, _, rfl, Qv.out, by omega, Hm.out, Hn.out, own_mono Ov9.out B2.out.size⟩, B9.out⟩
    | false =>
      go_wp2_with fail
      refine bodyPost_ret (v := .tuple #[.slice a1 vs.length cap1, .int .i64 m, .int .i64 z]) (by simp [results, Try.results12, go_sem]) rfl ⟨⟨_, vs, _, _, rfl, Qv.out, by omega, Hm.out, by unfold wf6; omega, own_mono Ov8.out B2.out.size⟩, B8.out⟩
  | false =>
    go_wp2_with fail
    refine (l1Once_c P 6 _ C6.out (by omega)).mono ?_
    rintro _ w7 ⟨u, rfl, C', G'⟩
    have C7 := Lib.hid C'; clear C'
    have B7 := Lib.hid (below_gr B6.out G' HP.out)
    have Ov7 := Lib.hid (own_gr Ov6.out G' C2.out.lt); clear Ov6
    clear G'
    cases u with
    | true =>
      go_wp2_with fail
      refine (l1Raw_c P _ C7.out).mono ?_
      rintro _ w8 ⟨n, rfl, hn', C', G'⟩
      have Hn := Lib.hid hn'; clear hn'
      have C8 := Lib.hid C'; clear C'
      have B8 := Lib.hid (below_gr B7.out G' HP.out)
      have Ov8 := Lib.hid (own_gr Ov7.out G' C2.out.lt); clear Ov7
      clear G'
      go_wp2_with fail
      refine bodyPost_ret (v := .tuple #[.slice a1 vs.length cap1, .int .i64 y, .int .i64 n]) (by simp [results, Try.results12, go_sem]) rfl ⟨⟨_, vs, _, _, rfl, Qv.out, by omega, by unfold wf6; omega, Hn.out, own_mono Ov8.out B2.out.size⟩, B8.out⟩
    | false =>
      go_wp2_with fail
      refine bodyPost_ret (v := .tuple #[.slice a1 vs.length cap1, .int .i64 y, .int .i64 z]) (by simp [results, Try.results12, go_sem]) rfl ⟨⟨_, vs, _, _, rfl, Qv.out, by omega, by unfold wf6; omega, by unfold wf6; omega, own_mono Ov7.out B2.out.size⟩, B7.out⟩
end Go.Proofs.Ytcagcjkhjfbbpaa
