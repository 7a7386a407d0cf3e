/- FnHex: bytes come back of their digits. -/
import Derived.Test.YtcagcjkhjfbbpaaDHex
import Derived.Test.YtcagcjkhjfbbpaaDSame
import Derived.Test.YtcagcjkhjfbbpaaMHex
import Derived.Test.YtcagcjkhjfbbpaaCSlice2
namespace Go.Proofs.Ytcagcjkhjfbbpaa
open Go.Deep Go.ChangeShapes Go.WideShapes Go.ChangeAt Go.RowKit
open Go.ChangeMaps (open_string shut_string)

def hexS (s : ByteArray) : ByteArray := ⟨(hexL s.data.toList).toArray⟩
theorem parse_hexS (s : ByteArray) : parseS (hexS s) = s ∧ parseB (hexS s) = true := by
  have h := parse_hexL s.data.toList
  unfold parseS parseB hexS
  have e : (⟨(hexL s.data.toList).toArray⟩ : ByteArray).data.toList = hexL s.data.toList := by simp
  rw [e, h]
  exact ⟨by simp, rfl⟩
theorem hexS_parse (s : ByteArray) (h : parseB s = true) : hexS (parseS s) = s := by
  unfold parseB at h
  unfold parseS hexS
  cases hp : parseX s.data.toList with
  | none => rw [hp] at h; cases h
  | some m =>
    have := hexL_parse _ _ hp
    simp only
    rw [show hexL (⟨m.toArray⟩ : ByteArray).data.toList = s.data.toList from this]
theorem hexS_size (s : ByteArray) : (hexS s).size = 2 * s.size := by
  have := hexL_length s.data.toList
  have e : s.data.toList.length = s.size := by rw [Array.length_toList]; rfl
  show (hexL s.data.toList).toArray.size = _
  simp; omega
theorem parseX_len : ∀ (l m : List UInt8), parseX l = some m → m.length ≤ l.length
  | [], m, h => by simp [parseX] at h; subst h; simp
  | [_], m, h => by simp [parseX] at h
  | a :: b :: l, m, h => by
    rw [parseX] at h
    split at h
    · cases h
    · obtain ⟨m', hm', rfl⟩ := Option.map_eq_some_iff.1 h
      have := parseX_len l m' hm'
      simp; omega
theorem bytes_size (m : List UInt8) : (⟨m.toArray⟩ : ByteArray).size = m.length := List.size_toArray
theorem parseS_size (s : ByteArray) : (parseS s).size ≤ s.size := by
  have e : s.data.toList.length = s.size := by rw [Array.length_toList]; rfl
  unfold parseS
  cases hp : parseX s.data.toList with
  | none => exact Nat.zero_le _
  | some m =>
    have h1 := parseX_len _ _ hp
    have h2 := bytes_size m
    exact Nat.le_trans (Nat.le_of_eq h2) (by omega)

set_option maxRecDepth 100000 in
set_option maxHeartbeats 4000000 in
theorem fnHex_law (a : Option Addr) (cap : Nat) (zs : List Int) (w : World) (hr : Rd w .u8 a zs) (hw : ∀ n ∈ zs, (Lit.int .u8 n).wf = true) (hcap : zs.length ≤ cap) (_hm : cap ≤ maxLen) :
    Calls Try.prog 3 #[.slice a zs.length cap] w fun e w' => e = .returned (.bool true) ∧ Below w.heap.size w w' := by
  have HR := Lib.hid hr; clear hr
  have HW := Lib.hid hw; clear hw
  have Hlen := Lib.hid (show zs.length ≤ 9223372036854775807 by unfold maxLen at _hm; omega)
  cases hbig : decide ((1048576 : Int) < (zs.length : Int)) with
  | true =>
    have HB := Lib.hid hbig; clear hbig
    go_enter Try.func3, Try.ntmps3
    go_wp2_with fail
    refine (big_c _ _ _ _).mono ?_
    rintro _ _ ⟨rfl, rfl⟩
    rw [HB.out]
    go_wp2_with fail
    go_ret
    exact ⟨rfl, Below.refl _ _⟩
  | false =>
    have hlen : zs.length ≤ 1048576 := by have := of_decide_eq_false hbig; omega
    have HB := Lib.hid hbig; clear hbig
    go_enter Try.func3, Try.ntmps3
    go_wp2_with fail
    refine (big_c _ _ _ _).mono ?_
    rintro _ _ ⟨rfl, rfl⟩
    rw [HB.out]
    go_wp2_with fail
    refine (drawHexText_c zs a cap _ HR.out HW.out hlen hcap).mono ?_
    rintro _ w1 ⟨⟨s, rfl, s1⟩, b1⟩
    have T1 := Lib.hid b1; clear b1
    go_wp2_with fail
    refine (drawParseHex_c zs a cap _ (rd_kept T1.out HR.out) HW.out hlen hcap).mono ?_
    rintro _ w2 ⟨⟨u, rfl, u1⟩, b2⟩
    have T2 := Lib.hid (nx T1.out b2); clear b2
    go_wp2_with fail
    refine (hexText_impl s _ (by omega)).mono ?_
    rintro _ w3 ⟨rfl, b3⟩
    have T3 := Lib.hid (nx T2.out b3); clear b3
    rw [show (⟨(hexL s.data.toList).toArray⟩ : ByteArray) = hexS s from rfl]
    have HZ := Lib.hid (hexS_size s)
    have HP := Lib.hid (parse_hexS s)
    generalize hH : hexS s = H at *
    have HH := Lib.hid hH; clear hH
    go_wp2_with fail
    refine (parseHex_impl H _ (by have := HZ.out; omega)).mono ?_
    rintro _ w4 ⟨rfl, b4⟩
    have T4 := Lib.hid (nx T3.out b4); clear b4
    rw [HP.out.1, HP.out.2]
    go_wp2_with fail
    refine (parseHex_impl u _ (by omega)).mono ?_
    rintro _ w5 ⟨rfl, b5⟩
    have T5 := Lib.hid (nx T4.out b5); clear b5
    have HQ := Lib.hid (hexS_parse u)
    have HQ2 := Lib.hid (parseS_size u)
    obtain ⟨y, hy⟩ : ∃ y, y = parseS u := ⟨_, rfl⟩
    obtain ⟨is, his⟩ : ∃ y, y = parseB u := ⟨_, rfl⟩
    rw [← hy, ← his]
    have HY := Lib.hid hy; clear hy
    have HIS := Lib.hid his; clear his
    go_wp2_with fail
    refine (parseHex_spec u _ (by omega)).mono ?_
    rintro _ w6 ⟨rfl, b6⟩
    have T6 := Lib.hid (nx T5.out b6); clear b6
    rw [← HY.out, ← HIS.out]
    go_wp2_with fail
    refine (drawSlice_c zs a cap _ (rd_kept T6.out HR.out) HW.out hlen hcap).mono ?_
    rintro _ w7 ⟨⟨v, vs, p, n, rfl, qv, lv, pw, nw, ov⟩, b7⟩
    have T7 := Lib.hid (nx T6.out b7); clear b7 qv
    have PW := Lib.hid pw; clear pw
    have NW := Lib.hid nw; clear nw
    obtain ⟨a1, cap1, rfl, -, r1, c1, -⟩ := own_rd ov
    have R7 := Lib.hid r1; clear r1 ov
    go_wp2_with fail
    refine (slice_impl_c vs a1 cap1 p n _ R7.out (by omega) c1).mono ?_
    rintro _ w8 ⟨vg, rfl, og, b8⟩
    have T8 := Lib.hid (nx T7.out b8)
    have R8 := Lib.hid (rd_kept b8 R7.out); clear b8 R7
    obtain ⟨ag, capg, rfl, -, rg, cg, -⟩ := own_rd og
    have G8 := Lib.hid rg; clear rg og
    go_wp2_with fail
    refine (slice_spec_c vs a1 cap1 p n _ R8.out (by omega) c1 PW.out NW.out).mono ?_
    rintro _ w9 ⟨vh, rfl, oh, b9⟩
    have T9 := Lib.hid (nx T8.out b9)
    have G9 := Lib.hid (rd_kept b9 G8.out); clear b9 G8
    obtain ⟨ah, caph, rfl, -, rh, ch, -⟩ := own_rd oh
    have H9 := Lib.hid rh; clear rh oh
    have hsl : (sliceF vs p n).length ≤ 1048576 := by unfold sliceF; split <;> simp; omega
    generalize sliceF vs p n = sl at *
    generalize existF (vs.length : Int) p n = ex at *
    go_wp2_with fail
    refine (hexText_impl s _ (by omega)).mono ?_
    rintro _ w10 ⟨rfl, b10⟩
    have T10 := Lib.hid (nx T9.out b10)
    have G10 := Lib.hid (rd_kept b10 G9.out)
    have H10 := Lib.hid (rd_kept b10 H9.out); clear b10 G9 H9
    rw [show (⟨(hexL s.data.toList).toArray⟩ : ByteArray) = hexS s from rfl, HH.out]
    go_wp2_with fail
    refine (hexText_spec s _ (by omega)).mono ?_
    rintro _ w11 ⟨rfl, b11⟩
    have T11 := Lib.hid (nx T10.out b11)
    have G11 := Lib.hid (rd_kept b11 G10.out)
    have H11 := Lib.hid (rd_kept b11 H10.out); clear b11 G10 H10
    rw [show (⟨(hexL s.data.toList).toArray⟩ : ByteArray) = hexS s from rfl, HH.out]
    go_wp2_with fail
    refine (same_c sl sl _ _ _ _ _ G11.out H11.out (by omega) (by omega)).mono ?_
    rintro _ _ ⟨rfl, q, rfl⟩
    have T12 := Lib.hid (below_drewN T11.out q); clear G11 H11
    rw [decide_eq_true (rfl : sl = sl)]
    cases is with
    | false =>
      go_wp2_with fail
      go_ret
      exact ⟨rfl, T12.out⟩
    | true =>
      have HE := Lib.hid (HQ.out HIS.out.symm)
      have hys : y.size ≤ 1000 := by have h1 := HQ2.out; have h2 := HY.out; rw [← h2] at h1; omega
      go_wp2_with fail
      refine (hexText_impl y _ (by omega)).mono ?_
      rintro _ w13 ⟨rfl, b13⟩
      have T13 := Lib.hid (nx T12.out b13); clear b13
      rw [show (⟨(hexL y.data.toList).toArray⟩ : ByteArray) = u by have h1 := HE.out; have h2 := HY.out; rw [← h2] at h1; exact h1]
      go_wp2_with fail
      go_ret
      exact ⟨rfl, T13.out⟩
namespace fnHex
theorem walk : LawWalk 3 Try.f3 := by
  intro H enc W base args ds p hval0 hA0
  have hval : ∀ (j : Nat) t v, Try.f3.params[j]? = some t → args[j]? = some v → Value.okWide Try.prog W .any base t v := hval0
  have hA : DataW.TrodAll enc Try.prog W 0 (fun _ => true) true Try.f3.params.toList args.toList ds p := hA0
  clear hval0 hA0
  rw [Try.params3] at hA hval
  obtain ⟨v0, vs0, d0, ds0, p0, q0, hargs, rfl, rfl, h0, r0⟩ := trodAll_cons hA
  obtain ⟨rfl, rfl, rfl⟩ := trodAll_nil r0
  obtain rfl : args = #[v0] := by cases args; simp_all
  obtain ⟨a0, len0, cap0, rfl⟩ := okWide_slice Try.underlying22 (hval 0 22 v0 rfl rfl)
  obtain ⟨z0, rfl, w0, x0, y0, m0⟩ := open_ints_rd Try.underlying22 Try.underlying5 (by kernel_rfl) h0
  exact fnHex_law a0 cap0 z0 W w0 x0 y0 m0
set_option maxRecDepth 100000 in
theorem lifted (os : Os) (started : os.Started) (H : Type) (enc : TypeId × Value → H) :
    ReturnsInHanded {} Try.checked os 3 .any (Rows.fnHexSpec.pre6 enc Try.prog Try.f3 [] false) (Rows.fnHexSpec.post enc Try.prog Try.f3 false true false false) :=
  law_lifted 3 Try.f3 Rows.fnHexSpec os started H enc (by kernel_rfl) Try.func3 rfl rfl (by kernel_rfl)
    (fun ds h => by match ds, h with | [_], _ => rfl)
    (ChangeSpec.witness6 (enc := enc) (C := Try.checked) false ⟨#[], #[.slice none 0 0], []⟩ 8 (by kernel_rfl) (by kernel_rfl) (by kernel_rfl) (by kernel_rfl)) walk
theorem proved : Rows.FnHexSaid :=
  OpenClaim.holds_of_wide 3 Try.f3 rfl rfl rfl rfl rfl rfl rfl ⟨rfl, rfl, rfl, rfl, rfl⟩ rfl rfl rfl rfl rfl (by kernel_rfl) Try.func3 (by kernel_rfl)
    (of_decide_eq_true (by kernel_rfl)) (by unfold Func.isWrapper; first | (rw [if_pos (by decide +kernel)]; kernel_rfl) | (rw [if_neg (by decide +kernel)]; exact ⟨rfl, rfl⟩))
    (fun os started H enc _ => lifted os started H enc)
#print axioms proved
end fnHex
end Go.Proofs.Ytcagcjkhjfbbpaa
