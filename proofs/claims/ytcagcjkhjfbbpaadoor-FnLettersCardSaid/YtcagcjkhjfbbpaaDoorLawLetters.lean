/- FnLetters: a text is its letters, and comes back of them. -/
import Derived.Test.YtcagcjkhjfbbpaaDoorDText
import Derived.Test.YtcagcjkhjfbbpaaDoorDSame
import Derived.Test.YtcagcjkhjfbbpaaDoorMLetters
import Derived.Test.YtcagcjkhjfbbpaaDoorCTextOk
import Derived.Test.YtcagcjkhjfbbpaaDoorCRunesOf
namespace Go.Proofs.YtcagcjkhjfbbpaaDoor
open Go.Deep Go.ChangeShapes Go.WideShapes Go.ChangeAt Go.RowKit
open Go.ChangeMaps (open_string shut_string)

def cntR (ns : List Int) : Nat := (ns.filter fun n => runeOkB n).length
theorem encS_list (ns : List Int) : (encS ns).data.toList = toBs (encL ns) := by unfold encS; simp
theorem encS_valid (ns : List Int) : Lib.validD (encS ns).data.toList = true := by rw [encS_list]; exact (runes_encL ns).1
theorem encS_runes (ns : List Int) : (runesF (encS ns).data.toList).length = cntR ns := by
  unfold runesF; rw [if_pos (encS_valid ns), encS_list, (runes_encL ns).2]; rfl
theorem runes_back (s : ByteArray) (h : Lib.validD s.data.toList = true) : encS (runesF s.data.toList) = s := by
  unfold runesF encS
  rw [if_pos h, encL_runes s.data.toList.length s.data.toList (Nat.le_refl _) h]
theorem encS_size (ns : List Int) : (encS ns).size ≤ 4 * ns.length := by
  have h1 := encL_len ns
  show (toBs (encL ns)).toArray.size ≤ _
  simp [toBs]; omega
theorem runesF_len (s : ByteArray) : (runesF s.data.toList).length ≤ s.size := by
  unfold runesF
  have e : s.data.toList.length = s.size := by rw [Array.length_toList]; rfl
  split
  · have := runesD_len s.data.toList; omega
  · simp
theorem cnt_take {ns : List Int} {j : Nat} (h : j < ns.length) : cntR (ns.take (j + 1)) = cntR (ns.take j) + if runeOkB (ns.getD j 0) = true then 1 else 0 := by
  unfold cntR
  rw [take_snocI h, List.filter_append, List.length_append]
  generalize ns.getD j 0 = z
  cases hz : runeOkB z <;> simp [List.filter, hz]

set_option maxRecDepth 100000 in
set_option maxHeartbeats 8000000 in
theorem fnLetters_law (a : Option Addr) (cap : Nat) (zs : List Int) (w : World) (hL : Laid w) (hr : Rd w .u8 a zs) (hw : ∀ n ∈ zs, (Lit.int .u8 n).wf = true) (hcap : zs.length ≤ cap) (_hm : cap ≤ maxLen) :
    Calls Tryd.prog 4 #[.slice a zs.length cap] w fun e w' => e = .returned (.bool true) ∧ Below w.heap.size w w' := by
  have HR := Lib.hid hr; clear hr
  have HW := Lib.hid hw; clear hw
  have LA := Lib.hid hL; clear hL
  have Hlen := Lib.hid (show zs.length ≤ 9223372036854775807 by unfold maxLen at _hm; omega)
  cases hbig : decide ((1048576 : Int) < (zs.length : Int)) with
  | true =>
    have HB := Lib.hid hbig; clear hbig
    go_enter Tryd.func4, Tryd.ntmps4
    go_wp2_with fail
    refine (big_c _ _ _ _).mono ?_
    rintro _ _ ⟨rfl, rfl⟩
    rw [HB.out]
    go_wp2_with fail
    go_ret
    exact ⟨rfl, Below.refl _ _⟩
  | false =>
    have hlen : zs.length ≤ 1048576 := by have := of_decide_eq_false hbig; omega
    have HB := Lib.hid hbig; clear hbig
    go_enter Tryd.func4, Tryd.ntmps4
    go_wp2_with fail
    refine (big_c _ _ _ _).mono ?_
    rintro _ _ ⟨rfl, rfl⟩
    rw [HB.out]
    go_wp2_with fail
    refine (drawRunesOf_c zs a cap _ HR.out HW.out hlen hcap).mono ?_
    rintro _ w1 ⟨⟨s, rfl, s1⟩, b1⟩
    have T1 := Lib.hid b1; clear b1
    go_wp2_with fail
    refine (drawFromRunes_c zs a cap _ (rd_kept T1.out HR.out) HW.out hlen hcap).mono ?_
    rintro _ w2 ⟨⟨v, rfl, ns, an, cn, rfl, ln, rn, nl⟩, b2⟩
    have T2 := Lib.hid (nx T1.out b2); clear b2
    have RN2 := Lib.hid rn; clear rn
    have HRF := Lib.hid (runesF_len s)
    have HRB := Lib.hid (runes_back s)
    go_wp2_with fail
    refine (runesOf_impl s _ (by omega) (LA.out.kept T2.out)).mono ?_
    rintro _ w3 ⟨vr, rfl, or', b3⟩
    have T3 := Lib.hid (nx T2.out b3)
    have RN3 := Lib.hid (rd_kept b3 RN2.out); clear b3 RN2
    obtain ⟨rs, hrs⟩ : ∃ x, x = runesF s.data.toList := ⟨_, rfl⟩
    rw [← hrs] at or' HRF HRB
    have RS := Lib.hid hrs; clear hrs
    obtain ⟨ar, cr, rfl, -, rr, lr, -⟩ := own_rd or'
    have RR3 := Lib.hid rr; clear rr or'
    have hrl := HRF.out
    go_wp2_with fail
    refine (fromRunes_impl ns an cn _ RN3.out (by omega)).mono ?_
    rintro _ w4 ⟨rfl, b4⟩
    have T4 := Lib.hid (nx T3.out b4)
    have RN4 := Lib.hid (rd_kept b4 RN3.out)
    have RR4 := Lib.hid (rd_kept b4 RR3.out); clear b4 RN3 RR3
    have HTV := Lib.hid (encS_valid ns)
    have HTR := Lib.hid (encS_runes ns)
    have HTS := Lib.hid (encS_size ns)
    obtain ⟨t, ht⟩ : ∃ x, x = encS ns := ⟨_, rfl⟩
    rw [← ht] at HTV HTR HTS ⊢
    have TT := Lib.hid ht; clear ht
    have hts := HTS.out
    go_wp2_with fail
    refine (runesOf_spec s _ (by omega)).mono ?_
    rintro _ w5 ⟨vq, rfl, oq, b5⟩
    have T5 := Lib.hid (nx T4.out b5)
    have RN5 := Lib.hid (rd_kept b5 RN4.out)
    have RR5 := Lib.hid (rd_kept b5 RR4.out); clear b5 RN4 RR4
    rw [← RS.out] at oq
    obtain ⟨aq, cq, rfl, -, rq, lq, -⟩ := own_rd oq
    have RQ5 := Lib.hid rq; clear rq oq
    go_wp2_with fail
    refine (sameInts_c rs rs _ _ _ _ _ RR5.out RQ5.out (by omega) (by omega)).mono ?_
    rintro _ _ ⟨rfl, q1, rfl⟩
    rw [decide_eq_true (rfl : rs = rs)]
    clear RQ5
    go_wp2_with fail
    refine (fromRunes_spec ns an cn _ (by exact RN5.out) (by omega)).mono ?_
    rintro _ w6 ⟨rfl, b6⟩
    have b6' : Below w5.heap.size w5 w6 := by refine nx ?_ b6; exact ⟨rfl, rfl, rfl, Nat.le_refl _, fun _ _ => rfl⟩
    have T6 := Lib.hid (nx T5.out b6')
    have RN6 := Lib.hid (rd_kept b6' RN5.out)
    have RR6 := Lib.hid (rd_kept b6' RR5.out); clear b6 b6' RN5 RR5
    rw [← TT.out]
    go_wp2_with fail
    refine (textOk_impl s _ (by omega) (LA.out.kept T6.out)).mono ?_
    rintro _ w7 ⟨rfl, b7⟩
    have T7 := Lib.hid (nx T6.out b7)
    have RN7 := Lib.hid (rd_kept b7 RN6.out)
    have RR7 := Lib.hid (rd_kept b7 RR6.out); clear b7 RN6 RR6
    obtain ⟨ok, hok⟩ : ∃ x, x = Lib.validD s.data.toList := ⟨_, rfl⟩
    rw [← hok] at HRB ⊢
    have OK := Lib.hid hok; clear hok
    go_wp2_with fail
    refine (textOk_spec s _ (by omega)).mono ?_
    rintro _ w8 ⟨rfl, b8⟩
    have T8 := Lib.hid (nx T7.out b8)
    have RN8 := Lib.hid (rd_kept b8 RN7.out)
    have RR8 := Lib.hid (rd_kept b8 RR7.out); clear b8 RN7 RR7
    rw [← OK.out]
    go_wp2_with fail
    refine (textOk_impl t _ (by omega) (LA.out.kept T8.out)).mono ?_
    rintro _ w9 ⟨rfl, b9⟩
    have T9 := Lib.hid (nx T8.out b9)
    have RN9 := Lib.hid (rd_kept b9 RN8.out)
    have RR9 := Lib.hid (rd_kept b9 RR8.out); clear b9 RN8 RR8
    rw [HTV.out]
    go_wp2_with fail
    go_loopw [7, 8] (fun n i wr => ∃ j : Nat, j ≤ ns.length ∧ i = .int .i64 j ∧ n = .int .i64 (cntR (ns.take j) : Nat) ∧ cntR (ns.take j) ≤ j ∧ wr = w9) (fun _ i _ => ns.length - (intOf i).toNat)
    case atStart => exact ⟨0, by omega, rfl, rfl, by simp [cntR], rfl⟩
    case round =>
      obtain ⟨j, hj, rfl, rfl, hcj, rfl⟩ := hrel
      by_cases hjl : j < ns.length
      · rcases RN9.out with h0 | ⟨b, off, rfl, hblt, hc⟩
        · rw [h0] at hjl; simp at hjl
        have hc0 := hc j hjl
        have hst := cnt_take hjl
        have HST := Lib.hid hst; clear hst hc
        generalize hz : ns.getD j 0 = z at *
        clear hz
        generalize cntR (ns.take j) = cj at *
        go_wp2_with fail
        refine (runeOk_impl z _).mono ?_
        rintro _ _ ⟨rfl, rfl⟩
        cases hrk : runeOkB z with
        | true =>
          have h1 := HST.out; rw [if_pos hrk] at h1
          have H1 := Lib.hid h1; clear h1 hrk HST
          go_wp2_with fail
          go_roundw
          case rel => exact ⟨j + 1, by omega, by go_num, by rw [H1.out]; go_num, by rw [H1.out]; omega, trivial⟩
          case measure => simp [intOf]; omega
        | false =>
          have h1 := HST.out; rw [if_neg (by rw [hrk]; decide)] at h1
          have H1 := Lib.hid h1; clear h1 hrk HST
          go_wp2_with fail
          go_roundw
          case rel => exact ⟨j + 1, by omega, by go_num, by rw [H1.out]; go_num, by rw [H1.out]; omega, trivial⟩
          case measure => simp [intOf]; omega
      · obtain rfl : j = ns.length := by omega
        have hcn : cntR (ns.take ns.length) = cntR ns := by rw [List.take_length]
        have HCN := Lib.hid hcn; clear hcn
        rw [HCN.out] at hcj ⊢
        obtain ⟨cn', hcn'⟩ : ∃ x, x = cntR ns := ⟨_, rfl⟩
        rw [← hcn'] at HTR hcj ⊢
        have HC := Lib.hid hcn'; clear hcn'
        go_wp2_with fail
        refine (runesOf_impl t _ (by omega) (LA.out.kept T9.out)).mono ?_
        rintro _ w10 ⟨vr2, rfl, or2, b10⟩
        have T10 := Lib.hid (nx T9.out b10)
        have RR10 := Lib.hid (rd_kept b10 RR9.out); clear b10 RR9
        obtain ⟨ar2, cr2, rfl, -, -, -, -⟩ := own_rd or2
        rw [HTR.out]
        clear or2
        go_wp2_with fail
        refine (textOk_impl s _ (by omega) (LA.out.kept T10.out)).mono ?_
        rintro _ w11 ⟨rfl, b11⟩
        have T11 := Lib.hid (nx T10.out b11)
        have RR11 := Lib.hid (rd_kept b11 RR10.out); clear b11 RR10
        rw [← OK.out]
        cases ok with
        | false =>
          go_wp2_with fail
          go_ret
          exact ⟨rfl, T11.out⟩
        | true =>
          have HBK := Lib.hid (HRB.out rfl)
          go_wp2_with fail
          refine (fromRunes_impl rs ar cr _ RR11.out (by omega)).mono ?_
          rintro _ w12 ⟨rfl, b12⟩
          have T12 := Lib.hid (nx T11.out b12); clear b12
          rw [HBK.out]
          go_wp2_with fail
          go_ret
          exact ⟨rfl, T12.out⟩
namespace fnLetters
set_option maxRecDepth 100000 in
theorem walk : LawWalkL 4 Tryd.f4 := by
  intro H enc W base args ds p hval0 hA0 hL
  have hval : ∀ (j : Nat) t v, Tryd.f4.params[j]? = some t → args[j]? = some v → Value.okWide Tryd.prog W .any base t v := hval0
  have hA : DataW.TrodAll enc Tryd.prog W 0 (fun _ => true) true Tryd.f4.params.toList args.toList ds p := hA0
  clear hval0 hA0
  rw [Tryd.params4] at hA hval
  obtain ⟨v0, vs0, d0, ds0, p0, q0, hargs, rfl, rfl, h0, r0⟩ := trodAll_cons hA
  obtain ⟨rfl, rfl, rfl⟩ := trodAll_nil r0
  obtain rfl : args = #[v0] := by cases args; simp_all
  obtain ⟨a0, len0, cap0, rfl⟩ := okWide_slice Tryd.underlying22 (hval 0 22 v0 rfl rfl)
  obtain ⟨z0, rfl, w0, x0, y0, m0⟩ := open_ints_rd Tryd.underlying22 Tryd.underlying5 (by kernel_rfl) h0
  exact fnLetters_law a0 cap0 z0 W hL w0 x0 y0 m0
theorem laid_met (os : Os) : laidMet Tryd.prog Rows.fnLettersRow.laid ((laidWorld os).forCall (fun _ _ => 0) ⟨#[], #[.slice none 0 0], []⟩).memory :=
  laidMet_of_run' 8 (by kernel_rfl) (by kernel_rfl)
theorem reads (os : Os) {H : Type} (enc : TypeId × Value → H) : ∃ places, DataW.whole enc Tryd.prog ((laidWorld os).forCall (fun _ _ => 0) ⟨#[], #[.slice none 0 0], []⟩).memory Tryd.f4.params.toList Rows.fnLettersSpec.vars false (#[Value.slice none 0 0] : Array Value).toList 8 = some ([.nil], [], places) :=
  ⟨[], by kernel_rfl⟩
set_option maxRecDepth 100000 in
theorem lifted (os : Os) (started : os.Started) (H : Type) (enc : TypeId × Value → H) (F : Stop.Interp) :
    ReturnsInHanded {} Tryd.checked os 4 .any ((OpenSpec.ofChange Rows.fnLettersSpec).preRow enc Tryd.prog Tryd.f4 Rows.fnLettersRow.domain false Rows.fnLettersRow.laid) (((OpenSpec.ofChange Rows.fnLettersSpec).at F).post enc Tryd.prog Tryd.f4 false true false false) := by
  obtain ⟨places, hx⟩ := reads os enc
  refine returnsInHanded_of_row (C := Tryd.checked) (s := OpenSpec.ofChange Rows.fnLettersSpec) own started (by kernel_rfl) Tryd.func4
    (witness_row_at (enc := enc) (C := Tryd.checked) false (laidWorld os) #[.slice none 0 0] rfl (by kernel_rfl) (by kernel_rfl) (by kernel_rfl)
      (OpenSpec.preRow_of_cond 8 hx (by kernel_rfl) (fun k hk => by cases hk) (by kernel_rfl) (laid_met os))) ?_
  intro W base args ds gs before hval hW _ _ _ hL _ _
  exact law_contract 4 Tryd.f4 Rows.fnLettersSpec H enc rfl rfl (by kernel_rfl) (fun ds h => by match ds, h with | [_], _ => rfl) walk W base args ds gs before hval hW (laid_of hL (by simp [Rows.fnLettersRow]))
theorem said : Rows.FnLettersSaid :=
  OpenClaim.holds_of_cond 4 Tryd.f4 rfl rfl rfl rfl rfl rfl rfl ⟨rfl, rfl, rfl, rfl, rfl⟩ rfl rfl rfl rfl rfl (by kernel_rfl) Tryd.func4 (by kernel_rfl)
    (of_decide_eq_true (by kernel_rfl)) (by unfold Func.isWrapper; first | (rw [if_pos (by decide +kernel)]; kernel_rfl) | (rw [if_neg (by decide +kernel)]; exact ⟨rfl, rfl⟩))
    (fun os started H enc _ F => by rw [OpenClaim.pre_eq_preRow]; exact lifted os started H enc F)
theorem plain (f : FuncId) (fn : Func) (hf : Tryd.pinned.checked.prog.funcNamed "loop.example/g00502/laws.FnLetters" = some f) (hfn : Tryd.pinned.checked.prog.funcs[f]? = some fn) :
    true = Tryd.pinned.checked.prog.looks [] ∧ ∀ (j : Nat) t, fn.params[j]? = some t → Tryd.pinned.checked.prog.wantsStandIn t = false := by
  obtain rfl : f = 4 := Option.some.inj ((show Tryd.prog.funcNamed "loop.example/g00502/laws.FnLetters" = some 4 by kernel_rfl).symm.trans hf) |>.symm
  obtain rfl : fn = Tryd.f4 := (Option.some.inj (Tryd.func4.symm.trans hfn)).symm
  refine ⟨by kernel_rfl, fun j t ht => ?_⟩
  have hall : Tryd.f4.params.toList.all (fun t => !Tryd.pinned.checked.prog.wantsStandIn t) = true := by kernel_rfl
  have hm := List.all_eq_true.1 hall t (by simpa using Array.mem_of_getElem? ht)
  simpa using hm
theorem proved : Rows.FnLettersCardSaid :=
  Claim7.holds_tied_plain_at .later [] _ _ _ _ said (fun _ h => by cases h) (by kernel_rfl) (fun _ h => by cases h) fnLetters_row_tie rfl ⟨rfl, rfl⟩ (by kernel_rfl) rfl plain (by kernel_rfl)
#print axioms proved
end fnLetters
end Go.Proofs.YtcagcjkhjfbbpaaDoor
