/- FnDigits: numbers come back of their digits. -/
import Derived.Test.YtcagcjkhjfbbpaaDoorDNum
import Derived.Test.YtcagcjkhjfbbpaaDoorDSame
import Derived.Test.YtcagcjkhjfbbpaaDoorCParse
namespace Go.Proofs.YtcagcjkhjfbbpaaDoor
open Go.Deep Go.ChangeShapes Go.WideShapes Go.ChangeAt Go.RowKit
open Go.ChangeMaps (open_string shut_string)

theorem pnF_out (n : Int) (h : ¬(-1000000000000000 ≤ n ∧ n ≤ 1000000000000000)) : pnF (numS n) = (0, false) := by
  refine pnF_none fun m h1 h2 h3 => ?_
  have h4 := congrArg (fun s : ByteArray => s.data.toList) h3
  simp only [numS_list] at h4
  have := itoa_inj h4
  omega

set_option maxRecDepth 100000 in
set_option maxHeartbeats 8000000 in
theorem fnDigits_law (a : Option Addr) (cap : Nat) (zs : List Int) (w : World) (hL : LaidP w ∧ LaidE w) (hr : Rd w .u8 a zs) (hw : ∀ n ∈ zs, (Lit.int .u8 n).wf = true) (hcap : zs.length ≤ cap) (_hm : cap ≤ maxLen) :
    Calls Tryd.prog 5 #[.slice a zs.length cap] w fun e w' => e = .returned (.bool true) ∧ Below w.heap.size w w' := by
  have HR := Lib.hid hr; clear hr
  have HW := Lib.hid hw; clear hw
  have LA := Lib.hid hL; clear hL
  have Hlen := Lib.hid (show zs.length ≤ 9223372036854775807 by unfold maxLen at _hm; omega)
  cases hbig : decide ((1048576 : Int) < (zs.length : Int)) with
  | true =>
    have HB := Lib.hid hbig; clear hbig
    go_enter Tryd.func5, Tryd.ntmps5
    go_wp2_with fail
    refine (big_c _ _ _ _).mono ?_
    rintro _ _ ⟨rfl, rfl⟩
    rw [HB.out]
    go_wp2_with fail
    go_ret
    exact ⟨rfl, Below.refl _ _⟩
  | false =>
    have hlen : zs.length ≤ 1048576 := by have := of_decide_eq_false hbig; omega
    have HB := Lib.hid hbig; clear hbig
    go_enter Tryd.func5, Tryd.ntmps5
    go_wp2_with fail
    refine (big_c _ _ _ _).mono ?_
    rintro _ _ ⟨rfl, rfl⟩
    rw [HB.out]
    go_wp2_with fail
    refine (drawNumText_c zs a cap _ HR.out HW.out hlen hcap).mono ?_
    rintro _ w1 ⟨⟨n, rfl, nw⟩, b1⟩
    have T1 := Lib.hid b1; clear b1
    have NW := Lib.hid nw; clear nw
    go_wp2_with fail
    refine (drawParseNum_c zs a cap _ (rd_kept T1.out HR.out) HW.out hlen hcap).mono ?_
    rintro _ w2 ⟨⟨s, rfl, s1⟩, b2⟩
    have T2 := Lib.hid (nx T1.out b2); clear b2
    have NS : Hid ((numS n).size ≤ 100) := by
      have h1 := itoa_length n
      have h2 : dgs n ≤ 19 := nDigits_64 (by have := NW.out; unfold wf6 at this; omega)
      show (Lib.itoa n).toArray.size ≤ 100
      rw [List.size_toArray, h1]; split <;> omega
    have PIN := Lib.hid (pnF_num n)
    have POUT := Lib.hid (pnF_out n)
    go_wp2_with fail
    refine (numText_impl n _ (LA.out.1.kept T2.out) NW.out.1 NW.out.2).mono ?_
    rintro _ w3 ⟨rfl, b3⟩
    have T3 := Lib.hid (nx T2.out b3); clear b3
    obtain ⟨t, ht⟩ : ∃ t, t = numS n := ⟨_, rfl⟩
    rw [← ht] at NS PIN POUT ⊢
    have HT := Lib.hid ht; clear ht
    go_wp2_with fail
    refine (parseNum_impl t _ (by have := NS.out; omega) (LA.out.2.kept T3.out) (LA.out.1.kept T3.out)).mono ?_
    rintro _ w4 ⟨rfl, b4⟩
    have T4 := Lib.hid (nx T3.out b4); clear b4
    obtain ⟨R, hR⟩ : ∃ R, R = pnF t := ⟨_, rfl⟩
    rw [← hR] at PIN POUT ⊢
    clear hR
    obtain ⟨v, ok⟩ := R
    dsimp only
    go_wp2_with fail
    refine (parseNum_impl s _ (by omega) (LA.out.2.kept T4.out) (LA.out.1.kept T4.out)).mono ?_
    rintro _ w5 ⟨rfl, b5⟩
    have T5 := Lib.hid (nx T4.out b5); clear b5
    have YES := Lib.hid (@pnF_yes s)
    obtain ⟨Q, hQ⟩ : ∃ R, R = pnF s := ⟨_, rfl⟩
    rw [← hQ] at YES ⊢
    have HQ := Lib.hid hQ; clear hQ
    obtain ⟨x, is⟩ := Q
    dsimp only at YES ⊢
    go_wp2_with fail
    refine (parseNum_spec s _ (by omega)).mono ?_
    rintro _ w6 ⟨rfl, b6⟩
    have T6 := Lib.hid (nx T5.out b6); clear b6
    rw [← HQ.out]
    dsimp only
    go_wp2_with fail
    refine (drawDigits_c zs a cap _ (rd_kept T6.out HR.out) HW.out hlen hcap).mono ?_
    rintro _ w7 ⟨⟨d, rfl, dw⟩, b7⟩
    have T7 := Lib.hid (nx T6.out b7); clear b7
    have DW := Lib.hid dw; clear dw
    go_wp2_with fail
    refine (numText_impl n _ (LA.out.1.kept T7.out) NW.out.1 NW.out.2).mono ?_
    rintro _ w8 ⟨rfl, b8⟩
    have T8 := Lib.hid (nx T7.out b8); clear b8
    rw [← HT.out]
    go_wp2_with fail
    refine (numText_spec n _ NW.out.1 NW.out.2).mono ?_
    rintro _ w9 ⟨rfl, b9⟩
    have T9 := Lib.hid (nx T8.out b9); clear b9
    rw [← HT.out]
    go_wp2_with fail
    refine (digits_impl d _ (LA.out.1.kept T9.out) DW.out.1 DW.out.2).mono ?_
    rintro _ w10 ⟨rfl, b10⟩
    have T10 := Lib.hid (nx T9.out b10); clear b10
    go_wp2_with fail
    refine (digits_spec d _ DW.out.1 DW.out.2).mono ?_
    rintro _ _ ⟨rfl, rfl⟩
    generalize dgs d = dd at *
    have OKE : Hid (((v, ok) = (n, true) ∧ -1000000000000000 ≤ n ∧ n ≤ 1000000000000000) ∨ ((v, ok) = (0, false) ∧ (n < -1000000000000000 ∨ 1000000000000000 < n))) := by
      by_cases h : -1000000000000000 ≤ n ∧ n ≤ 1000000000000000
      · exact .inl ⟨PIN.out h, h⟩
      · exact .inr ⟨POUT.out h, by omega⟩
    clear PIN POUT
    cases is with
    | false =>
      rcases OKE.out with ⟨h1, h2, h3⟩ | ⟨h1, h2⟩
      · injection h1 with h1 h4
        subst h1 h4
        clear OKE
        go_wp2_with fail
        go_ret
        exact ⟨rfl, T10.out⟩
      · injection h1 with h1 h4
        subst h1 h4
        clear OKE
        rcases h2 with h2 | h2
        · go_wp2_with fail
          go_ret
          exact ⟨rfl, T10.out⟩
        · have hd1 : decide (n ≤ 1000000000000000) = false := decide_eq_false (by omega)
          go_wp2_with fail
          go_ret
          exact ⟨rfl, T10.out⟩
    | true =>
      have hy := YES.out rfl
      have HY1 := Lib.hid hy.1
      have HY2 := Lib.hid hy.2; clear hy
      rcases OKE.out with ⟨h1, h2, h3⟩ | ⟨h1, h2⟩
      · injection h1 with h1 h4
        subst h1 h4
        clear OKE
        go_wp2_with fail
        refine (numText_impl x _ (LA.out.1.kept T10.out) (by have := HY1.out; omega) (by have := HY1.out; omega)).mono ?_
        rintro _ w11 ⟨rfl, b11⟩
        have T11 := Lib.hid (nx T10.out b11); clear b11
        rw [HY2.out]
        go_wp2_with fail
        go_ret
        exact ⟨rfl, T11.out⟩
      · injection h1 with h1 h4
        subst h1 h4
        clear OKE
        have hd1 : n < -1000000000000000 ∨ (decide (n ≤ 1000000000000000) = false ∧ 1000000000000000 < n) := by
          rcases h2 with h | h
          · exact .inl h
          · exact .inr ⟨decide_eq_false (by omega), h⟩
        clear h2
        rcases hd1 with h2 | ⟨hd1, h2⟩
        all_goals
          go_wp2_with fail
          refine (numText_impl x _ (LA.out.1.kept T10.out) (by have := HY1.out; omega) (by have := HY1.out; omega)).mono ?_
          rintro _ w11 ⟨rfl, b11⟩
          have T11 := Lib.hid (nx T10.out b11); clear b11
          rw [HY2.out]
          go_wp2_with fail
          go_ret
          exact ⟨rfl, T11.out⟩
namespace fnDigits
set_option maxRecDepth 100000 in
theorem walk : LawWalkX (fun W => LaidP W ∧ LaidE W) 5 Tryd.f5 := by
  intro H enc W base args ds p hval0 hA0 hL
  have hval : ∀ (j : Nat) t v, Tryd.f5.params[j]? = some t → args[j]? = some v → Value.okWide Tryd.prog W .any base t v := hval0
  have hA : DataW.TrodAll enc Tryd.prog W 0 (fun _ => true) true Tryd.f5.params.toList args.toList ds p := hA0
  clear hval0 hA0
  rw [Tryd.params5] at hA hval
  obtain ⟨v0, vs0, d0, ds0, p0, q0, hargs, rfl, rfl, h0, r0⟩ := trodAll_cons hA
  obtain ⟨rfl, rfl, rfl⟩ := trodAll_nil r0
  obtain rfl : args = #[v0] := by cases args; simp_all
  obtain ⟨a0, len0, cap0, rfl⟩ := okWide_slice Tryd.underlying22 (hval 0 22 v0 rfl rfl)
  obtain ⟨z0, rfl, w0, x0, y0, m0⟩ := open_ints_rd Tryd.underlying22 Tryd.underlying5 (by kernel_rfl) h0
  exact fnDigits_law a0 cap0 z0 W hL w0 x0 y0 m0
theorem laid_met (os : Os) : laidMet Tryd.prog Rows.fnDigitsRow.laid ((laidWorld os).forCall (fun _ _ => 0) ⟨#[], #[.slice none 0 0], []⟩).memory :=
  laidMet_of_run' 8 (by kernel_rfl) (by kernel_rfl)
theorem reads (os : Os) {H : Type} (enc : TypeId × Value → H) : ∃ places, DataW.whole enc Tryd.prog ((laidWorld os).forCall (fun _ _ => 0) ⟨#[], #[.slice none 0 0], []⟩).memory Tryd.f5.params.toList Rows.fnDigitsSpec.vars false (#[Value.slice none 0 0] : Array Value).toList 8 = some ([.nil], [], places) :=
  ⟨[], by kernel_rfl⟩
set_option maxRecDepth 100000 in
theorem lifted (os : Os) (started : os.Started) (H : Type) (enc : TypeId × Value → H) (F : Stop.Interp) :
    ReturnsInHanded {} Tryd.checked os 5 .any ((OpenSpec.ofChange Rows.fnDigitsSpec).preRow enc Tryd.prog Tryd.f5 Rows.fnDigitsRow.domain false Rows.fnDigitsRow.laid) (((OpenSpec.ofChange Rows.fnDigitsSpec).at F).post enc Tryd.prog Tryd.f5 false true false false) := by
  obtain ⟨places, hx⟩ := reads os enc
  refine returnsInHanded_of_row (C := Tryd.checked) (s := OpenSpec.ofChange Rows.fnDigitsSpec) own started (by kernel_rfl) Tryd.func5
    (witness_row_at (enc := enc) (C := Tryd.checked) false (laidWorld os) #[.slice none 0 0] rfl (by kernel_rfl) (by kernel_rfl) (by kernel_rfl)
      (OpenSpec.preRow_of_cond 8 hx (by kernel_rfl) (fun k hk => by cases hk) (by kernel_rfl) (laid_met os))) ?_
  intro W base args ds gs before hval hW _ _ _ hL _ _
  exact law_contractX (fun W => LaidP W ∧ LaidE W) 5 Tryd.f5 Rows.fnDigitsSpec H enc rfl rfl (by kernel_rfl) (fun ds h => by match ds, h with | [_], _ => rfl) walk W base args ds gs before hval hW ⟨laidP_of hL (by simp [Rows.fnDigitsRow]), laidE_of hL (by simp [Rows.fnDigitsRow])⟩
theorem said : Rows.FnDigitsSaid :=
  OpenClaim.holds_of_cond 5 Tryd.f5 rfl rfl rfl rfl rfl rfl rfl ⟨rfl, rfl, rfl, rfl, rfl⟩ rfl rfl rfl rfl rfl (by kernel_rfl) Tryd.func5 (by kernel_rfl)
    (of_decide_eq_true (by kernel_rfl)) (by unfold Func.isWrapper; first | (rw [if_pos (by decide +kernel)]; kernel_rfl) | (rw [if_neg (by decide +kernel)]; exact ⟨rfl, rfl⟩))
    (fun os started H enc _ F => by rw [OpenClaim.pre_eq_preRow]; exact lifted os started H enc F)
theorem plain (f : FuncId) (fn : Func) (hf : Tryd.pinned.checked.prog.funcNamed "loop.example/g00502/laws.FnDigits" = some f) (hfn : Tryd.pinned.checked.prog.funcs[f]? = some fn) :
    true = Tryd.pinned.checked.prog.looks [] ∧ ∀ (j : Nat) t, fn.params[j]? = some t → Tryd.pinned.checked.prog.wantsStandIn t = false := by
  obtain rfl : f = 5 := Option.some.inj ((show Tryd.prog.funcNamed "loop.example/g00502/laws.FnDigits" = some 5 by kernel_rfl).symm.trans hf) |>.symm
  obtain rfl : fn = Tryd.f5 := (Option.some.inj (Tryd.func5.symm.trans hfn)).symm
  refine ⟨by kernel_rfl, fun j t ht => ?_⟩
  have hall : Tryd.f5.params.toList.all (fun t => !Tryd.pinned.checked.prog.wantsStandIn t) = true := by kernel_rfl
  have hm := List.all_eq_true.1 hall t (by simpa using Array.mem_of_getElem? ht)
  simpa using hm
theorem proved : Rows.FnDigitsCardSaid :=
  Claim7.holds_tied_plain_at .later [] _ _ _ _ said (fun _ h => by cases h) (by kernel_rfl) (fun _ h => by cases h) fnDigits_row_tie rfl ⟨rfl, rfl⟩ (by kernel_rfl) rfl plain (by kernel_rfl)
#print axioms proved
end fnDigits
end Go.Proofs.YtcagcjkhjfbbpaaDoor
