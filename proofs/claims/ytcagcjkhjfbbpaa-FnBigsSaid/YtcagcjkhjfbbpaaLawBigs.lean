/- FnBigs: numbers come back of their bytes. -/
import Derived.Test.YtcagcjkhjfbbpaaDBig
import Derived.Test.YtcagcjkhjfbbpaaDSame
import Derived.Test.YtcagcjkhjfbbpaaMBigs
import Derived.Deep.RegionHeld3
namespace Go.Proofs.Ytcagcjkhjfbbpaa
open Go.Deep Go.ChangeShapes Go.WideShapes Go.ChangeAt Go.RowKit
open Go.ChangeMaps (open_string shut_string)

theorem rd_cutZ {w : World} {k : IntKind} {a : Option Addr} {zs : List Int} (hr : Rd w k a zs) (cap p n : Nat) (h : p + n ≤ zs.length) (hcap : zs.length ≤ cap) : Rd w k (cutA a cap p) ((zs.drop p).take n) := rd_cut hr cap p n h hcap

set_option maxRecDepth 100000 in
set_option maxHeartbeats 8000000 in
theorem fnBigs_law (a : Option Addr) (cap : Nat) (zs : List Int) (w : World) (hr : Rd w .u8 a zs) (hw : ∀ n ∈ zs, (Lit.int .u8 n).wf = true) (hcap : zs.length ≤ cap) (_hm : cap ≤ maxLen) :
    Calls Try.prog 5 #[.slice a zs.length cap] w fun e w' => e = .returned (.bool true) ∧ Below w.heap.size w w' := by
  have HR := Lib.hid hr; clear hr
  have HW := Lib.hid hw; clear hw
  have Hlen := Lib.hid (show zs.length ≤ 9223372036854775807 by unfold maxLen at _hm; omega)
  cases hbig : decide ((1048576 : Int) < (zs.length : Int)) with
  | true =>
    have HB := Lib.hid hbig; clear hbig
    go_enter Try.func5, Try.ntmps5
    go_wp2_with fail
    refine (big_c _ _ _ _).mono ?_
    rintro _ _ ⟨rfl, rfl⟩
    rw [HB.out]
    go_wp2_with fail
    go_ret
    exact ⟨rfl, Below.refl _ _⟩
  | false =>
    have hlen : zs.length ≤ 1048576 := by have := of_decide_eq_false hbig; omega
    have HB := Lib.hid hbig; clear hbig
    go_enter Try.func5, Try.ntmps5
    go_wp2_with fail
    refine (big_c _ _ _ _).mono ?_
    rintro _ _ ⟨rfl, rfl⟩
    rw [HB.out]
    go_wp2_with fail
    refine (drawPutBig_c zs a cap _ HR.out HW.out hlen hcap).mono ?_
    rintro _ w1 ⟨⟨v, bs, n, k, rfl, bw, bl, nw, kw, ov⟩, b1⟩
    have T1 := Lib.hid b1; clear b1
    have BW := Lib.hid bw; clear bw
    have NW := Lib.hid nw; clear nw
    have KW := Lib.hid kw; clear kw
    obtain ⟨ab, cb, rfl, -, rb, lb, -⟩ := own_rd ov
    have RB1 := Lib.hid rb; clear rb ov
    go_wp2_with fail
    refine (putBig_impl_c n k bs ab cb _ RB1.out (by omega) NW.out.2).mono ?_
    rintro _ w2 ⟨vx, rfl, ox, b2⟩
    have T2 := Lib.hid (nx T1.out b2)
    have RB2 := Lib.hid (rd_kept b2 RB1.out); clear b2 RB1
    have LX := Lib.hid (putF_len bs n k)
    obtain ⟨xs, hxs⟩ : ∃ x, x = putF bs n k := ⟨_, rfl⟩
    rw [← hxs] at ox LX
    obtain ⟨ax, cx, rfl, -, rx, lx, -⟩ := own_rd ox
    have RX2 := Lib.hid rx; clear rx ox
    have XS := Lib.hid hxs; clear hxs
    go_wp2_with fail
    refine (drawGetBig_c zs a cap _ (rd_kept T2.out HR.out) HW.out hlen hcap).mono ?_
    rintro _ w3 ⟨⟨v, cs, i, u, rfl, cw, cl, iw, uw, oc⟩, b3⟩
    have T3 := Lib.hid (nx T2.out b3)
    have RB3 := Lib.hid (rd_kept b3 RB2.out)
    have RX3 := Lib.hid (rd_kept b3 RX2.out); clear b3 RB2 RX2
    have CW := Lib.hid cw; clear cw
    have IW := Lib.hid iw; clear iw
    have UW := Lib.hid uw; clear uw
    obtain ⟨ac, cc, rfl, -, rc, lc, lc2⟩ := own_rd oc
    have RC3 := Lib.hid rc; clear rc oc
    go_wp2_with fail
    refine (getBig_impl_c cs ac cc i u _ RC3.out CW.out (by omega) lc).mono ?_
    rintro _ _ ⟨rfl, rfl⟩
    have HBE : Hid (gB cs i u = true → ∃ p' k' : Nat, i = p' ∧ u = k' ∧ p' + k' ≤ cs.length ∧ okBig (gN cs i u) u = true ∧ beF (gN cs i u) u = (cs.drop p').take k' ∧ gN cs i u ≤ 1000000000000000) := by
      intro hgb
      have hok : okG cs i u = true := by
        cases h : okG cs i u with
        | true => rfl
        | false => unfold gB at hgb; rw [h] at hgb; simp at hgb
      obtain ⟨p', k', rfl, rfl, h3, h4, h5, h6⟩ := okG_true hok
      rw [h6] at hgb
      have hs := of_decide_eq_true hgb
      have h7 := be_get (byte_at CW.out) p' k' h3 h4 hs
      rw [h5]
      unfold getN
      rw [if_pos hs]
      exact ⟨p', k', rfl, rfl, h4, h7.1, h7.2, hs⟩
    obtain ⟨gn, hgn⟩ : ∃ x, x = gN cs i u := ⟨_, rfl⟩
    obtain ⟨gb, hgb⟩ : ∃ x, x = gB cs i u := ⟨_, rfl⟩
    rw [← hgn, ← hgb] at HBE ⊢
    have GN := Lib.hid hgn; clear hgn
    have GB := Lib.hid hgb; clear hgb
    go_wp2_with fail
    refine (getBig_spec_c cs ac cc i u _ RC3.out CW.out (by omega)).mono ?_
    rintro _ _ ⟨rfl, rfl⟩
    rw [← GN.out, ← GB.out]
    go_wp2_with fail
    refine (drawWidthFor_c zs a cap _ (rd_kept T3.out HR.out) HW.out hlen hcap).mono ?_
    rintro _ w4 ⟨⟨d, rfl, dw⟩, b4⟩
    have T4 := Lib.hid (nx T3.out b4)
    have RB4 := Lib.hid (rd_kept b4 RB3.out)
    have RC4 := Lib.hid (rd_kept b4 RC3.out)
    have RX4 := Lib.hid (rd_kept b4 RX3.out); clear b4 RB3 RX3 RC3
    have DW := Lib.hid dw; clear dw
    go_wp2_with fail
    refine (putBig_spec_c n k bs ab cb _ RB4.out (by omega) NW.out.2).mono ?_
    rintro _ w5 ⟨vy, rfl, oy, b5⟩
    have T5 := Lib.hid (nx T4.out b5)
    have RB5 := Lib.hid (rd_kept b5 RB4.out)
    have RC5 := Lib.hid (rd_kept b5 RC4.out)
    have RX5 := Lib.hid (rd_kept b5 RX4.out); clear b5 RB4 RX4 RC4
    rw [← XS.out] at oy
    obtain ⟨ay, cy, rfl, -, ry, ly, -⟩ := own_rd oy
    have RY5 := Lib.hid ry; clear ry oy
    have hxl := LX.out
    go_wp2_with fail
    refine (same_c xs xs _ _ _ _ _ RX5.out RY5.out (by omega) (by omega)).mono ?_
    rintro _ _ ⟨rfl, q1, rfl⟩
    rw [decide_eq_true (rfl : xs = xs)]
    have T6 := Lib.hid (below_drewN T5.out q1); clear RY5
    go_wp2_with fail
    refine (widthFor_impl d _ DW.out.2).mono ?_
    rintro _ _ ⟨rfl, rfl⟩
    go_wp2_with fail
    refine (widthFor_spec d _).mono ?_
    rintro _ _ ⟨rfl, rfl⟩
    generalize widthF d = wd at *
    clear hxl
    cases gb with
    | false =>
      go_wp2_with fail
      go_quiet (fail)
      have TT0 : Hid (Below w.heap.size w (w5.drewN (q1 + nq))) := by have := below_drewN T6.out nq; rw [drewN_two] at this; exact this
      have RX := Lib.hid (rd_kept (below_drewN (Below.refl _ w5) (q1 + nq)) RX5.out)
      have RB := Lib.hid (rd_kept (below_drewN (Below.refl _ w5) (q1 + nq)) RB5.out)
      have LX2 := Lib.hid lx
      clear HBE RX5 RB5
      have nw1 := NW.out.1
      have nw2 := NW.out.2
      have kw1 := KW.out.1
      have kw2 := KW.out.2
      have PN := Lib.hid (put_none bs n k)
      have GP := Lib.hid (get_be bs n k)
      clear hcap lb lx ly lc
      by_cases c1 : n < 0
      · obtain rfl : xs = bs := XS.out.trans (PN.out (by omega) (.inl c1))
        clear GP
        go_wp2_with fail
        refine (same_c xs xs _ _ _ _ _ (by exact RX.out) (by exact RB.out) (by omega) (by omega)).mono ?_
        rintro _ _ ⟨rfl, q9, rfl⟩
        rw [decide_eq_true (rfl : xs = xs)]
        go_wp2_with fail
        go_ret
        exact ⟨rfl, ⟨TT0.out.os, TT0.out.tape, TT0.out.output, TT0.out.size, TT0.out.block⟩⟩
      by_cases c2 : 1000000000000000 < n
      · clear GP PN
        go_wp2_with fail
        go_ret
        exact ⟨rfl, ⟨TT0.out.os, TT0.out.tape, TT0.out.output, TT0.out.size, TT0.out.block⟩⟩
      have hwf := Lib.hid (show n ≤ 9223372036854775807 by omega)
      go_wp2_with fail
      refine (widthFor_impl n _ hwf.out).mono ?_
      rintro _ _ ⟨rfl, rfl⟩
      obtain ⟨wn, hwn⟩ : ∃ x, x = widthF n := ⟨_, rfl⟩
      rw [← hwn] at PN GP ⊢
      clear hwn
      by_cases c3 : k < wn
      · obtain rfl : xs = bs := XS.out.trans (PN.out (by omega) (.inr (.inl c3)))
        clear GP
        go_wp2_with fail
        refine (same_c xs xs _ _ _ _ _ (by exact RX.out) (by exact RB.out) (by omega) (by omega)).mono ?_
        rintro _ _ ⟨rfl, q9, rfl⟩
        rw [decide_eq_true (rfl : xs = xs)]
        go_wp2_with fail
        go_ret
        exact ⟨rfl, ⟨TT0.out.os, TT0.out.tape, TT0.out.output, TT0.out.size, TT0.out.block⟩⟩
      by_cases c4 : k = 1 ∨ k = 2 ∨ k = 4 ∨ k = 8
      · have hgp := GP.out ⟨by omega, by omega⟩ c4 (by omega)
        rw [← XS.out] at hgp
        obtain ⟨-, p2, p3, p4⟩ := hgp
        have XW : Hid (∀ x ∈ xs, (Lit.int .u8 x).wf = true) := by rw [XS.out]; exact putF_byte bs n k (by omega) BW.out
        have P3 := Lib.hid p3; clear p3
        have P4 := Lib.hid p4; clear p4
        have P2 := Lib.hid p2.symm; clear p2
        clear GP PN
        have hlx := LX.out
        rcases c4 with rfl | rfl | rfl | rfl
        all_goals
          go_wp2_with fail
          refine (getBig_impl_c xs ax cx _ _ _ (by exact RX.out) XW.out (by omega) LX2.out).mono ?_
          rintro _ _ ⟨rfl, rfl⟩
          rw [P3.out, P4.out]
          have hp2 := P2.out
          go_wp2_with fail
          go_ret
          exact ⟨rfl, ⟨TT0.out.os, TT0.out.tape, TT0.out.output, TT0.out.size, TT0.out.block⟩⟩
      · obtain rfl : xs = bs := XS.out.trans (PN.out (by omega) (.inr (.inr c4)))
        clear GP
        have d1 : (k != 1) = true := by simp; omega
        have d2 : (k != 2) = true := by simp; omega
        have d4 : (k != 4) = true := by simp; omega
        have d8 : (k != 8) = true := by simp; omega
        clear c4
        go_wp2_with fail
        refine (same_c xs xs _ _ _ _ _ (by exact RX.out) (by exact RB.out) (by omega) (by omega)).mono ?_
        rintro _ _ ⟨rfl, q9, rfl⟩
        rw [decide_eq_true (rfl : xs = xs)]
        go_wp2_with fail
        go_ret
        exact ⟨rfl, ⟨TT0.out.os, TT0.out.tape, TT0.out.output, TT0.out.size, TT0.out.block⟩⟩
    | true =>
      obtain ⟨p', k', rfl, rfl, h3, h4, h5, h6⟩ := HBE.out rfl
      have hcut := fun w => run_cut (P := Try.prog) 22 Try.underlying22 size_bytes ac cs.length cc p' k' (by omega) w
      have hrc := rd_cutZ RC5.out cc p' k' h3 lc
      have hl : ((cs.drop p').take k').length = k' := by simp; omega
      have HPF : Hid (putF [] gn k' = (cs.drop p').take k') := by
        have : okBig gn (k' : Int) = true := h4
        unfold putF; rw [if_pos this, List.nil_append]; exact h5
      have HPI := Lib.hid (fun w' a' c' => putBig_impl_c gn k' [] a' c' w' (.inl rfl) (by simp) (by omega))
      rw [HPF.out] at HPI
      clear HBE h4 h5 HPF
      generalize (cs.drop p').take k' = ds at *
      generalize cutA ac cc p' = ad at *
      subst hl
      have HRC := Lib.hid hrc; clear hrc
      have BX : Hid (∀ w', Below w5.heap.size w5 w' → Below w.heap.size w w' ∧ Rd w' .u8 ad ds ∧ Rd w' .u8 ax xs ∧ Rd w' .u8 ab bs) := fun w' h => ⟨nx T5.out h, rd_kept h HRC.out, rd_kept h RX5.out, rd_kept h RB5.out⟩
      have hwr : IntKind.i64.wrap ((p' : Int) + (ds.length : Int)) = (p' : Int) + (ds.length : Int) := wrap_mid (by omega) (by omega)
      clear hlen h6 lc
      go_wp2_with fail
      go_region_held3 (fun w' => True) (trivial)
        (first
         | (go_at_call 27; refine (HPI.out _ _ _).mono ?_; rintro _ w6 ⟨v6, rfl, o6, b6⟩; obtain ⟨a6, c6, rfl, -, r6, -, -⟩ := own_rd o6; have R6 := Lib.hid r6; have h0 := below1 w5 (.cells #[] 5); have h1 : Below w5.heap.size w5 w6 := (by refine nx ?_ b6; exact ⟨h0.os, h0.tape, h0.output, h0.size, h0.block⟩); have BB := Lib.hid (BX.out w6 h1); clear h1 r6 o6 b6 h0)
         | (go_at_call 16; refine (same_c ds ds _ _ _ _ _ (by exact R6.out) (by exact BB.out.2.1) (by omega) (by omega)).mono ?_; rintro _ _ ⟨rfl, q2, rfl⟩))
      have TT0 := Lib.hid BB.out.1
      have RX := Lib.hid BB.out.2.2.1
      have RB := Lib.hid BB.out.2.2.2
      have LX2 := Lib.hid lx
      clear BX RX5 RB5 BB HPI hcut hwr R6 HRC
      have nw1 := NW.out.1
      have nw2 := NW.out.2
      have kw1 := KW.out.1
      have kw2 := KW.out.2
      have PN := Lib.hid (put_none bs n k)
      have GP := Lib.hid (get_be bs n k)
      clear hcap lb lx ly
      by_cases c1 : n < 0
      · obtain rfl : xs = bs := XS.out.trans (PN.out (by omega) (.inl c1))
        clear GP
        go_wp2_with fail
        refine (same_c xs xs _ _ _ _ _ (by exact RX.out) (by exact RB.out) (by omega) (by omega)).mono ?_
        rintro _ _ ⟨rfl, q9, rfl⟩
        rw [decide_eq_true (rfl : xs = xs)]
        go_wp2_with fail
        go_ret
        exact ⟨rfl, ⟨TT0.out.os, TT0.out.tape, TT0.out.output, TT0.out.size, TT0.out.block⟩⟩
      by_cases c2 : 1000000000000000 < n
      · clear GP PN
        go_wp2_with fail
        go_ret
        exact ⟨rfl, ⟨TT0.out.os, TT0.out.tape, TT0.out.output, TT0.out.size, TT0.out.block⟩⟩
      have hwf := Lib.hid (show n ≤ 9223372036854775807 by omega)
      go_wp2_with fail
      refine (widthFor_impl n _ hwf.out).mono ?_
      rintro _ _ ⟨rfl, rfl⟩
      obtain ⟨wn, hwn⟩ : ∃ x, x = widthF n := ⟨_, rfl⟩
      rw [← hwn] at PN GP ⊢
      clear hwn
      by_cases c3 : k < wn
      · obtain rfl : xs = bs := XS.out.trans (PN.out (by omega) (.inr (.inl c3)))
        clear GP
        go_wp2_with fail
        refine (same_c xs xs _ _ _ _ _ (by exact RX.out) (by exact RB.out) (by omega) (by omega)).mono ?_
        rintro _ _ ⟨rfl, q9, rfl⟩
        rw [decide_eq_true (rfl : xs = xs)]
        go_wp2_with fail
        go_ret
        exact ⟨rfl, ⟨TT0.out.os, TT0.out.tape, TT0.out.output, TT0.out.size, TT0.out.block⟩⟩
      by_cases c4 : k = 1 ∨ k = 2 ∨ k = 4 ∨ k = 8
      · have hgp := GP.out ⟨by omega, by omega⟩ c4 (by omega)
        rw [← XS.out] at hgp
        obtain ⟨-, p2, p3, p4⟩ := hgp
        have XW : Hid (∀ x ∈ xs, (Lit.int .u8 x).wf = true) := by rw [XS.out]; exact putF_byte bs n k (by omega) BW.out
        have P3 := Lib.hid p3; clear p3
        have P4 := Lib.hid p4; clear p4
        have P2 := Lib.hid p2.symm; clear p2
        clear GP PN
        have hlx := LX.out
        rcases c4 with rfl | rfl | rfl | rfl
        all_goals
          go_wp2_with fail
          refine (getBig_impl_c xs ax cx _ _ _ (by exact RX.out) XW.out (by omega) LX2.out).mono ?_
          rintro _ _ ⟨rfl, rfl⟩
          rw [P3.out, P4.out]
          have hp2 := P2.out
          go_wp2_with fail
          go_ret
          exact ⟨rfl, ⟨TT0.out.os, TT0.out.tape, TT0.out.output, TT0.out.size, TT0.out.block⟩⟩
      · obtain rfl : xs = bs := XS.out.trans (PN.out (by omega) (.inr (.inr c4)))
        clear GP
        have d1 : (k != 1) = true := by simp; omega
        have d2 : (k != 2) = true := by simp; omega
        have d4 : (k != 4) = true := by simp; omega
        have d8 : (k != 8) = true := by simp; omega
        clear c4
        go_wp2_with fail
        refine (same_c xs xs _ _ _ _ _ (by exact RX.out) (by exact RB.out) (by omega) (by omega)).mono ?_
        rintro _ _ ⟨rfl, q9, rfl⟩
        rw [decide_eq_true (rfl : xs = xs)]
        go_wp2_with fail
        go_ret
        exact ⟨rfl, ⟨TT0.out.os, TT0.out.tape, TT0.out.output, TT0.out.size, TT0.out.block⟩⟩
namespace fnBigs
theorem walk : LawWalk 5 Try.f5 := by
  intro H enc W base args ds p hval0 hA0
  have hval : ∀ (j : Nat) t v, Try.f5.params[j]? = some t → args[j]? = some v → Value.okWide Try.prog W .any base t v := hval0
  have hA : DataW.TrodAll enc Try.prog W 0 (fun _ => true) true Try.f5.params.toList args.toList ds p := hA0
  clear hval0 hA0
  rw [Try.params5] at hA hval
  obtain ⟨v0, vs0, d0, ds0, p0, q0, hargs, rfl, rfl, h0, r0⟩ := trodAll_cons hA
  obtain ⟨rfl, rfl, rfl⟩ := trodAll_nil r0
  obtain rfl : args = #[v0] := by cases args; simp_all
  obtain ⟨a0, len0, cap0, rfl⟩ := okWide_slice Try.underlying22 (hval 0 22 v0 rfl rfl)
  obtain ⟨z0, rfl, w0, x0, y0, m0⟩ := open_ints_rd Try.underlying22 Try.underlying5 (by kernel_rfl) h0
  exact fnBigs_law a0 cap0 z0 W w0 x0 y0 m0
set_option maxRecDepth 100000 in
theorem lifted (os : Os) (started : os.Started) (H : Type) (enc : TypeId × Value → H) :
    ReturnsInHanded {} Try.checked os 5 .any (Rows.fnBigsSpec.pre6 enc Try.prog Try.f5 [] false) (Rows.fnBigsSpec.post enc Try.prog Try.f5 false true false false) :=
  law_lifted 5 Try.f5 Rows.fnBigsSpec os started H enc (by kernel_rfl) Try.func5 rfl rfl (by kernel_rfl)
    (fun ds h => by match ds, h with | [_], _ => rfl)
    (ChangeSpec.witness6 (enc := enc) (C := Try.checked) false ⟨#[], #[.slice none 0 0], []⟩ 8 (by kernel_rfl) (by kernel_rfl) (by kernel_rfl) (by kernel_rfl)) walk
theorem proved : Rows.FnBigsSaid :=
  OpenClaim.holds_of_wide 5 Try.f5 rfl rfl rfl rfl rfl rfl rfl ⟨rfl, rfl, rfl, rfl, rfl⟩ rfl rfl rfl rfl rfl (by kernel_rfl) Try.func5 (by kernel_rfl)
    (of_decide_eq_true (by kernel_rfl)) (by unfold Func.isWrapper; first | (rw [if_pos (by decide +kernel)]; kernel_rfl) | (rw [if_neg (by decide +kernel)]; exact ⟨rfl, rfl⟩))
    (fun os started H enc _ => lifted os started H enc)
#print axioms proved
end fnBigs
end Go.Proofs.Ytcagcjkhjfbbpaa
