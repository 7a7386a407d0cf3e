/- FnRunes: letters come back of their bytes, and of no other ones. -/
import Derived.Test.YtcagcjkhjfbbpaaDoorDRune
import Derived.Test.YtcagcjkhjfbbpaaDoorDSame
import Derived.Test.YtcagcjkhjfbbpaaDoorMLetters
import Derived.Test.YtcagcjkhjfbbpaaDoorCWide
import Derived.Test.YtcagcjkhjfbbpaaDoorCGetRune3
import Derived.Deep.RegionHeld3
namespace Go.Proofs.YtcagcjkhjfbbpaaDoor
open Go.Deep Go.ChangeShapes Go.WideShapes Go.ChangeAt Go.RowKit
open Go.ChangeMaps (open_string shut_string)

theorem getV_in {zs : List Int} {p : Int} (h : (getV zs p).2.2 = true) : 0 ≤ p ∧ p < zs.length := by
  by_cases hp : 0 ≤ p ∧ p < zs.length
  · exact hp
  · rw [getV_no hp] at h; cases h

set_option maxRecDepth 100000 in
set_option maxHeartbeats 8000000 in
theorem fnRunes_law (a : Option Addr) (cap : Nat) (zs : List Int) (w : World) (hL : Laid w) (hr : Rd w .u8 a zs) (hw : ∀ n ∈ zs, (Lit.int .u8 n).wf = true) (hcap : zs.length ≤ cap) (_hm : cap ≤ maxLen) :
    Calls Tryd.prog 3 #[.slice a zs.length cap] w fun e w' => e = .returned (.bool true) ∧ Below w.heap.size w w' := by
  have HR := Lib.hid hr; clear hr
  have HW := Lib.hid hw; clear hw
  have LA := Lib.hid hL; clear hL
  have Hlen := Lib.hid (show zs.length ≤ 9223372036854775807 by unfold maxLen at _hm; omega)
  cases hbig : decide ((1048576 : Int) < (zs.length : Int)) with
  | true =>
    have HB := Lib.hid hbig; clear hbig
    go_enter Tryd.func3, Tryd.ntmps3
    go_wp2_with fail
    refine (big_c _ _ _ _).mono ?_
    rintro _ _ ⟨rfl, rfl⟩
    rw [HB.out]
    go_wp2_with fail
    go_ret
    exact ⟨rfl, Below.refl _ _⟩
  | false =>
    have hlen : zs.length ≤ 1048576 := by have := of_decide_eq_false hbig; omega
    have HB := Lib.hid hbig; clear hbig
    go_enter Tryd.func3, Tryd.ntmps3
    go_wp2_with fail
    refine (big_c _ _ _ _).mono ?_
    rintro _ _ ⟨rfl, rfl⟩
    rw [HB.out]
    go_wp2_with fail
    refine (drawPutRune_c zs a cap _ HR.out HW.out hlen hcap).mono ?_
    rintro _ w1 ⟨⟨v, bs, n, ab, cb, rfl, rfl, lb, rb, bw, bl, nw⟩, b1⟩
    have T1 := Lib.hid b1; clear b1
    have BW := Lib.hid bw; clear bw
    have NW := Lib.hid nw; clear nw
    have RB1 := Lib.hid rb; clear rb
    go_wp2_with fail
    refine (putRune_impl bs ab cb n _ RB1.out (by omega)).mono ?_
    rintro _ w2 ⟨vx, rfl, ox, b2⟩
    have T2 := Lib.hid (nx T1.out b2)
    have RB2 := Lib.hid (rd_kept b2 RB1.out); clear b2 RB1
    have LX := Lib.hid (show ((bs ++ encZ n).length : Int) = bs.length + wideF n by rw [List.length_append]; have := encZ_len n; omega)
    obtain ⟨xs, hxs⟩ : ∃ x, x = bs ++ encZ n := ⟨_, rfl⟩
    rw [← hxs] at ox LX
    obtain ⟨ax, cx, rfl, -, rx, lx, -⟩ := own_rd ox
    have RX2 := Lib.hid rx; clear rx ox
    have XS := Lib.hid hxs; clear hxs
    go_wp2_with fail
    refine (drawGetRune_c zs a cap _ (rd_kept T2.out HR.out) HW.out hlen hcap).mono ?_
    rintro _ w3 ⟨⟨v, cs, i, ac, cc, rfl, rfl, lc, rc, cw, cl, iw⟩, b3⟩
    have T3 := Lib.hid (nx T2.out b3)
    have RB3 := Lib.hid (rd_kept b3 RB2.out)
    have RX3 := Lib.hid (rd_kept b3 RX2.out); clear b3 RB2 RX2
    have CW := Lib.hid cw; clear cw
    have IW := Lib.hid iw; clear iw
    have RC3 := Lib.hid rc; clear rc
    obtain ⟨cl8, hcl8⟩ := bz_of cs CW.out
    have hc8 : cs.length = cl8.length := by rw [hcl8, bz_length]
    have GI := Lib.hid (fun w1 (h : Rd w1 .u8 ac cs) (hb : Below w.heap.size w w1) => by
      have := getRune_impl cl8 ac cc i w1 (by rw [← hcl8]; exact h) (by omega) (by omega) (LA.out.kept hb) (by have := IW.out; omega)
      rw [← hcl8, ← hc8] at this
      exact this)
    have HBE : Hid ((getV cs i).2.2 = true → ∃ p' k' : Nat, i = p' ∧ (getV cs i).2.1 = (p' : Int) + k' ∧ p' + k' ≤ cs.length ∧ runeOkB (getV cs i).1 = true ∧ encZ (getV cs i).1 = (cs.drop p').take k') := by
      intro hgb
      have hin := getV_in hgb
      obtain ⟨p', rfl⟩ : ∃ p' : Nat, i = p' := ⟨i.toNat, by omega⟩
      have hpp : p' < cl8.length := by omega
      have h3 := put_get cl8 p' hpp (getV cs p').1 (getV cs p').2.1 (by rw [← hcl8]; exact Prod.ext rfl (Prod.ext rfl hgb))
      obtain ⟨h4, k', h5, h6, h7⟩ := h3
      refine ⟨p', k', rfl, h5, by omega, h4, ?_⟩
      have h8 := congrArg bz h7
      rw [bz_toBs _ (encZ_byte _)] at h8
      rw [h8, hcl8]
      simp [bz, List.map_drop, List.map_take]
    clear hcl8 hc8
    have GW := Lib.hid (fun w1 (h : Rd w1 .u8 ac cs) => getRune_spec cs ac cc i w1 h CW.out (by omega))
    have G3 := Lib.hid (GI.out w3 RC3.out T3.out); clear GI
    obtain ⟨bl8, hbl8⟩ := bz_of bs BW.out
    have hb8 : bs.length = bl8.length := by rw [hbl8, bz_length]
    have hlx := LX.out
    have hwb := wideF_bd n
    have GPF : Hid (runeOkB n = true → ∀ w1, Rd w1 .u8 ax xs → Below w.heap.size w w1 → Calls Tryd.prog 10 #[.slice ax xs.length cx, .int .i64 (bs.length : Int)] w1 fun e w' => e = .returned (.tuple #[.int .i64 n, .int .i64 ((bs.length : Int) + wideF n), .bool true]) ∧ Below w1.heap.size w1 w') := by
      intro hk w1 h1 hb
      have hx8 : xs = bz (bl8 ++ toBs (encZ n)) := by rw [XS.out, bz_append, bz_toBs _ (encZ_byte n), ← hbl8]
      have hl8 : xs.length = (bl8 ++ toBs (encZ n)).length := by rw [hx8, bz_length]
      have h2 := getRune_impl (bl8 ++ toBs (encZ n)) ax cx bl8.length w1 (by rw [← hx8]; exact h1) (by omega) (by omega) (LA.out.kept hb) (by omega)
      rw [get_put bl8 n hk, ← hl8, ← hb8] at h2
      exact h2
    clear hbl8 hb8 hlx hwb
    obtain ⟨gt, hgt⟩ : ∃ x, getV cs i = x := ⟨_, rfl⟩
    rw [hgt] at HBE GW G3
    clear hgt
    obtain ⟨gm, gq, gb⟩ := gt
    dsimp only at HBE GW G3
    go_wp2_with fail
    refine G3.out.mono ?_
    rintro _ w4 ⟨rfl, b4⟩
    have T4 := Lib.hid (nx T3.out b4)
    have RB4 := Lib.hid (rd_kept b4 RB3.out)
    have RC4 := Lib.hid (rd_kept b4 RC3.out)
    have RX4 := Lib.hid (rd_kept b4 RX3.out); clear b4 RB3 RX3 RC3 G3
    go_wp2_with fail
    refine (GW.out _ RC4.out).mono ?_
    rintro _ _ ⟨rfl, rfl⟩
    clear GW
    go_wp2_with fail
    refine (putRune_spec bs ab cb n _ RB4.out (by omega)).mono ?_
    rintro _ w5 ⟨vy, rfl, oy, b5⟩
    have T5 := Lib.hid (nx T4.out b5)
    have RB5 := Lib.hid (rd_kept b5 RB4.out)
    have RC5 := Lib.hid (rd_kept b5 RC4.out)
    have RX5 := Lib.hid (rd_kept b5 RX4.out); clear b5 RB4 RX4 RC4
    rw [← XS.out] at oy
    obtain ⟨ay, cy, rfl, -, ry, ly, -⟩ := own_rd oy
    have RY5 := Lib.hid ry; clear ry oy
    have hxl : xs.length ≤ 1048576 := by have h1 := LX.out; have h2 := wideF_bd n; omega
    go_wp2_with fail
    refine (same_c xs xs _ _ _ _ _ RX5.out RY5.out (by omega) (by omega)).mono ?_
    rintro _ _ ⟨rfl, q1, rfl⟩
    rw [decide_eq_true (rfl : xs = xs)]
    clear RY5
    go_wp2_with fail
    refine (runeOk_impl n _).mono ?_
    rintro _ _ ⟨rfl, rfl⟩
    go_wp2_with fail
    refine (runeOk_spec n _).mono ?_
    rintro _ _ ⟨rfl, rfl⟩
    obtain ⟨rk, hrk⟩ : ∃ x, x = runeOkB n := ⟨_, rfl⟩
    rw [← hrk]
    clear hrk
    go_wp2_with fail
    refine (wideOf_impl n _).mono ?_
    rintro _ w6 ⟨rfl, b6⟩
    have b6' : Below w5.heap.size w5 w6 := by refine nx ?_ b6; exact ⟨rfl, rfl, rfl, Nat.le_refl _, fun _ _ => rfl⟩
    have T6 := Lib.hid (nx T5.out b6')
    have RB6 := Lib.hid (rd_kept b6' RB5.out)
    have RC6 := Lib.hid (rd_kept b6' RC5.out)
    have RX6 := Lib.hid (rd_kept b6' RX5.out); clear b6 b6' RB5 RX5 RC5
    go_wp2_with fail
    refine (wideOf_spec n _).mono ?_
    rintro _ _ ⟨rfl, rfl⟩
    obtain ⟨wn, hwn⟩ : ∃ x, x = wideF n := ⟨_, rfl⟩
    rw [← hwn]
    clear hwn
    cases gb with
    | false =>
      go_wp2_with fail
      go_quiet (fail)
      have TT0 : Hid (Below w.heap.size w w6) := T6.out
      have RX := Lib.hid RX6.out
      have RB := Lib.hid RB6.out
      clear HBE RX6 RB6 hcap lb lx ly lc
      have PG := Lib.hid GPF.out
      cases hrk : runeOkB n with
      | false =>
        have hxe : xs = bs := by rw [XS.out]; unfold encZ; rw [if_neg (by rw [hrk]; decide)]; simp
        have hw0 : wideF n = 0 := by unfold wideF; rw [if_neg (by rw [hrk]; decide)]
        have HRK := Lib.hid hrk; clear hrk
        have HW0 := Lib.hid hw0; clear hw0
        obtain rfl := hxe
        go_wp2_with fail
        refine (runeOk_impl n _).mono ?_
        rintro _ _ ⟨rfl, rfl⟩
        rw [HRK.out]
        go_wp2_with fail
        refine (same_c xs xs _ _ _ _ _ (by exact RX.out) (by exact RB.out) (by omega) (by omega)).mono ?_
        rintro _ _ ⟨rfl, q9, rfl⟩
        rw [decide_eq_true (rfl : xs = xs)]
        go_wp2_with fail
        refine (wideOf_impl n _).mono ?_
        rintro _ wz ⟨rfl, bZ⟩
        rw [HW0.out]
        have TZ := Lib.hid (show Below w.heap.size w wz by refine nx ?_ bZ; exact ⟨TT0.out.os, TT0.out.tape, TT0.out.output, TT0.out.size, TT0.out.block⟩)
        go_wp2_with fail
        go_ret
        exact ⟨rfl, TZ.out⟩
      | true =>
        have hwd := Lib.hid (wideF_bd n)
        have hgp := PG.out hrk
        have HRK := Lib.hid hrk; clear hrk
        have HGP := Lib.hid hgp; clear hgp
        go_wp2_with fail
        refine (runeOk_impl n _).mono ?_
        rintro _ _ ⟨rfl, rfl⟩
        rw [HRK.out]
        go_wp2_with fail
        refine (HGP.out _ (by exact RX.out) (by exact ⟨TT0.out.os, TT0.out.tape, TT0.out.output, TT0.out.size, TT0.out.block⟩)).mono ?_
        rintro _ wy ⟨rfl, bY⟩
        have TY := Lib.hid (show Below w.heap.size w wy by refine nx ?_ bY; exact ⟨TT0.out.os, TT0.out.tape, TT0.out.output, TT0.out.size, TT0.out.block⟩)
        have HLX := LX.out
        obtain ⟨wd, hwd2⟩ : ∃ x, x = wideF n := ⟨_, rfl⟩
        rw [← hwd2] at HLX hwd ⊢
        have HWD := Lib.hid hwd2; clear hwd2
        have hwb := hwd.out
        have HLX' : (bs.length : Int) + wd = xs.length := by omega
        clear HLX
        go_wp2_with fail
        refine (wideOf_impl n _).mono ?_
        rintro _ wz ⟨rfl, bZ⟩
        rw [← HWD.out]
        have TZ : Hid (Below w.heap.size w wz) := nx TY.out bZ
        go_wp2_with fail
        go_ret
        exact ⟨rfl, TZ.out⟩
    | true =>
      obtain ⟨p', k', rfl, rfl, h3, h4, h5⟩ := HBE.out rfl
      have hcut := fun w => run_cut (P := Tryd.prog) 22 Tryd.underlying22 size_bytes ac cs.length cc p' k' (by omega) w
      have hrc := rd_cut RC6.out cc p' k' h3 lc
      have hl : ((cs.drop p').take k').length = k' := by simp; omega
      have HPI := Lib.hid (fun w' a' c' => putRune_impl [] a' c' gm w' (.inl rfl) (by simp))
      rw [List.nil_append, h5] at HPI
      have HRO := Lib.hid (fun w' => runeOk_impl gm w')
      rw [h4] at HRO
      clear HBE h4 h5
      generalize (cs.drop p').take k' = ds at *
      generalize cutA ac cc p' = ad at *
      subst hl
      have HRC := Lib.hid hrc; clear hrc
      have BX : Hid (∀ w', Below w6.heap.size w6 w' → Below w.heap.size w w' ∧ Rd w' .u8 ad ds ∧ Rd w' .u8 ax xs ∧ Rd w' .u8 ab bs) := fun w' h => ⟨nx T6.out h, rd_kept h HRC.out, rd_kept h RX6.out, rd_kept h RB6.out⟩
      have hwr : IntKind.i64.wrap ((p' : Int) + (ds.length : Int)) = (p' : Int) + (ds.length : Int) := wrap_mid (by omega) (by omega)
      have hdl : ds.length ≤ 1000 := by omega
      clear hlen lc
      go_wp2_with fail
      go_region_held3 (fun w' => True) (trivial)
        (first
         | (go_at_call 14; refine (HRO.out _).mono ?_; rintro _ _ ⟨rfl, rfl⟩)
         | (go_at_call 8; refine (HPI.out _ _ _).mono ?_; rintro _ w7 ⟨v7, rfl, o7, b7⟩; obtain ⟨a7, c7, rfl, -, r7, -, -⟩ := own_rd o7; have R7 := Lib.hid r7; have h0 := below1 w6 (.cells #[] 5); have h1 : Below w6.heap.size w6 w7 := (by refine nx ?_ b7; exact ⟨h0.os, h0.tape, h0.output, h0.size, h0.block⟩); have BB := Lib.hid (BX.out w7 h1); clear h1 r7 o7 b7 h0)
         | (go_at_call 12; refine (same_c ds ds _ _ _ _ _ (by exact R7.out) (by exact BB.out.2.1) (by omega) (by omega)).mono ?_; rintro _ _ ⟨rfl, q2, rfl⟩))
      have TT0 := Lib.hid BB.out.1
      have RX := Lib.hid BB.out.2.2.1
      have RB := Lib.hid BB.out.2.2.2
      clear BX RX6 RB6 BB HPI hcut hwr R7 HRC hcap lb lx ly
      have PG := Lib.hid GPF.out
      cases hrk : runeOkB n with
      | false =>
        have hxe : xs = bs := by rw [XS.out]; unfold encZ; rw [if_neg (by rw [hrk]; decide)]; simp
        have hw0 : wideF n = 0 := by unfold wideF; rw [if_neg (by rw [hrk]; decide)]
        have HRK := Lib.hid hrk; clear hrk
        have HW0 := Lib.hid hw0; clear hw0
        obtain rfl := hxe
        go_wp2_with fail
        refine (runeOk_impl n _).mono ?_
        rintro _ _ ⟨rfl, rfl⟩
        rw [HRK.out]
        go_wp2_with fail
        refine (same_c xs xs _ _ _ _ _ (by exact RX.out) (by exact RB.out) (by omega) (by omega)).mono ?_
        rintro _ _ ⟨rfl, q9, rfl⟩
        rw [decide_eq_true (rfl : xs = xs)]
        go_wp2_with fail
        refine (wideOf_impl n _).mono ?_
        rintro _ wz ⟨rfl, bZ⟩
        rw [HW0.out]
        have TZ := Lib.hid (show Below w.heap.size w wz by refine nx ?_ bZ; exact ⟨TT0.out.os, TT0.out.tape, TT0.out.output, TT0.out.size, TT0.out.block⟩)
        go_wp2_with fail
        go_ret
        exact ⟨rfl, TZ.out⟩
      | true =>
        have hwd := Lib.hid (wideF_bd n)
        have hgp := PG.out hrk
        have HRK := Lib.hid hrk; clear hrk
        have HGP := Lib.hid hgp; clear hgp
        go_wp2_with fail
        refine (runeOk_impl n _).mono ?_
        rintro _ _ ⟨rfl, rfl⟩
        rw [HRK.out]
        go_wp2_with fail
        refine (HGP.out _ (by exact RX.out) (by exact ⟨TT0.out.os, TT0.out.tape, TT0.out.output, TT0.out.size, TT0.out.block⟩)).mono ?_
        rintro _ wy ⟨rfl, bY⟩
        have TY := Lib.hid (show Below w.heap.size w wy by refine nx ?_ bY; exact ⟨TT0.out.os, TT0.out.tape, TT0.out.output, TT0.out.size, TT0.out.block⟩)
        have HLX := LX.out
        obtain ⟨wd, hwd2⟩ : ∃ x, x = wideF n := ⟨_, rfl⟩
        rw [← hwd2] at HLX hwd ⊢
        have HWD := Lib.hid hwd2; clear hwd2
        have hwb := hwd.out
        have HLX' : (bs.length : Int) + wd = xs.length := by omega
        clear HLX
        go_wp2_with fail
        refine (wideOf_impl n _).mono ?_
        rintro _ wz ⟨rfl, bZ⟩
        rw [← HWD.out]
        have TZ : Hid (Below w.heap.size w wz) := nx TY.out bZ
        go_wp2_with fail
        go_ret
        exact ⟨rfl, TZ.out⟩
namespace fnRunes
set_option maxRecDepth 100000 in
theorem walk : LawWalkL 3 Tryd.f3 := by
  intro H enc W base args ds p hval0 hA0 hL
  have hval : ∀ (j : Nat) t v, Tryd.f3.params[j]? = some t → args[j]? = some v → Value.okWide Tryd.prog W .any base t v := hval0
  have hA : DataW.TrodAll enc Tryd.prog W 0 (fun _ => true) true Tryd.f3.params.toList args.toList ds p := hA0
  clear hval0 hA0
  rw [Tryd.params3] at hA hval
  obtain ⟨v0, vs0, d0, ds0, p0, q0, hargs, rfl, rfl, h0, r0⟩ := trodAll_cons hA
  obtain ⟨rfl, rfl, rfl⟩ := trodAll_nil r0
  obtain rfl : args = #[v0] := by cases args; simp_all
  obtain ⟨a0, len0, cap0, rfl⟩ := okWide_slice Tryd.underlying22 (hval 0 22 v0 rfl rfl)
  obtain ⟨z0, rfl, w0, x0, y0, m0⟩ := open_ints_rd Tryd.underlying22 Tryd.underlying5 (by kernel_rfl) h0
  exact fnRunes_law a0 cap0 z0 W hL w0 x0 y0 m0
theorem laid_met (os : Os) : laidMet Tryd.prog Rows.fnRunesRow.laid ((laidWorld os).forCall (fun _ _ => 0) ⟨#[], #[.slice none 0 0], []⟩).memory :=
  laidMet_of_run' 8 (by kernel_rfl) (by kernel_rfl)
theorem reads (os : Os) {H : Type} (enc : TypeId × Value → H) : ∃ places, DataW.whole enc Tryd.prog ((laidWorld os).forCall (fun _ _ => 0) ⟨#[], #[.slice none 0 0], []⟩).memory Tryd.f3.params.toList Rows.fnRunesSpec.vars false (#[Value.slice none 0 0] : Array Value).toList 8 = some ([.nil], [], places) :=
  ⟨[], by kernel_rfl⟩
set_option maxRecDepth 100000 in
theorem lifted (os : Os) (started : os.Started) (H : Type) (enc : TypeId × Value → H) (F : Stop.Interp) :
    ReturnsInHanded {} Tryd.checked os 3 .any ((OpenSpec.ofChange Rows.fnRunesSpec).preRow enc Tryd.prog Tryd.f3 Rows.fnRunesRow.domain false Rows.fnRunesRow.laid) (((OpenSpec.ofChange Rows.fnRunesSpec).at F).post enc Tryd.prog Tryd.f3 false true false false) := by
  obtain ⟨places, hx⟩ := reads os enc
  refine returnsInHanded_of_row (C := Tryd.checked) (s := OpenSpec.ofChange Rows.fnRunesSpec) own started (by kernel_rfl) Tryd.func3
    (witness_row_at (enc := enc) (C := Tryd.checked) false (laidWorld os) #[.slice none 0 0] rfl (by kernel_rfl) (by kernel_rfl) (by kernel_rfl)
      (OpenSpec.preRow_of_cond 8 hx (by kernel_rfl) (fun k hk => by cases hk) (by kernel_rfl) (laid_met os))) ?_
  intro W base args ds gs before hval hW _ _ _ hL _ _
  exact law_contract 3 Tryd.f3 Rows.fnRunesSpec H enc rfl rfl (by kernel_rfl) (fun ds h => by match ds, h with | [_], _ => rfl) walk W base args ds gs before hval hW (laid_of hL (by simp [Rows.fnRunesRow]))
theorem said : Rows.FnRunesSaid :=
  OpenClaim.holds_of_cond 3 Tryd.f3 rfl rfl rfl rfl rfl rfl rfl ⟨rfl, rfl, rfl, rfl, rfl⟩ rfl rfl rfl rfl rfl (by kernel_rfl) Tryd.func3 (by kernel_rfl)
    (of_decide_eq_true (by kernel_rfl)) (by unfold Func.isWrapper; first | (rw [if_pos (by decide +kernel)]; kernel_rfl) | (rw [if_neg (by decide +kernel)]; exact ⟨rfl, rfl⟩))
    (fun os started H enc _ F => by rw [OpenClaim.pre_eq_preRow]; exact lifted os started H enc F)
theorem plain (f : FuncId) (fn : Func) (hf : Tryd.pinned.checked.prog.funcNamed "loop.example/g00502/laws.FnRunes" = some f) (hfn : Tryd.pinned.checked.prog.funcs[f]? = some fn) :
    true = Tryd.pinned.checked.prog.looks [] ∧ ∀ (j : Nat) t, fn.params[j]? = some t → Tryd.pinned.checked.prog.wantsStandIn t = false := by
  obtain rfl : f = 3 := Option.some.inj ((show Tryd.prog.funcNamed "loop.example/g00502/laws.FnRunes" = some 3 by kernel_rfl).symm.trans hf) |>.symm
  obtain rfl : fn = Tryd.f3 := (Option.some.inj (Tryd.func3.symm.trans hfn)).symm
  refine ⟨by kernel_rfl, fun j t ht => ?_⟩
  have hall : Tryd.f3.params.toList.all (fun t => !Tryd.pinned.checked.prog.wantsStandIn t) = true := by kernel_rfl
  have hm := List.all_eq_true.1 hall t (by simpa using Array.mem_of_getElem? ht)
  simpa using hm
theorem proved : Rows.FnRunesCardSaid :=
  Claim7.holds_tied_plain_at .later [] _ _ _ _ said (fun _ h => by cases h) (by kernel_rfl) (fun _ h => by cases h) fnRunes_row_tie rfl ⟨rfl, rfl⟩ (by kernel_rfl) rfl plain (by kernel_rfl)
#print axioms proved
end fnRunes
end Go.Proofs.YtcagcjkhjfbbpaaDoor
