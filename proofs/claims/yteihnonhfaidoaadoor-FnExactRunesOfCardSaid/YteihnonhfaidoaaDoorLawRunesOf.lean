/- FnExactRunesOf: both give the same characters, in memory of the call's own. -/
import Derived.Test.YteihnonhfaidoaaDoorCRunesOf
namespace Go.Proofs.YteihnonhfaidoaaDoor
open Go.Deep Go.ChangeShapes Go.WideShapes Go.ChangeAt Go.RowKit
open Go.ChangeMaps (open_string shut_string)

set_option maxHeartbeats 4000000 in
theorem runesOf_law (s : ByteArray) (w : World) (hL : Laid w) (hs : s.size ≤ maxLen) :
    Calls Tryd.prog 5 #[.string s] w fun e w' => e = .returned (.bool true) ∧ Below w.heap.size w w' := by
  unfold maxLen at hs
  by_cases hbig : 1048576 < s.size
  · have hd : decide ((1048576 : Int) < (s.size : Int)) = true := decide_eq_true (by omega)
    clear hL
    go_enter Tryd.func5, Tryd.ntmps5
    go_wp2_with fail
    go_ret
    exact ⟨rfl, Below.refl _ _⟩
  · have hd : decide ((1048576 : Int) < (s.size : Int)) = false := decide_eq_false (by omega)
    have hle : s.size ≤ 1048576 := by omega
    have HS := Lib.hid (fun w1 => runesOf_spec s w1 hle)
    have HI := Lib.hid (fun w1 (hb : Below w.heap.size w w1) => runesOf_impl s w1 hle (hL.kept hb))
    have hrl : (runesF s.data.toList).length ≤ 1048576 := by
      unfold runesF
      split
      · have h1 := runesD_len s.data.toList
        have h2 : s.data.toList.length = s.size := by simp
        omega
      · simp
    clear hL
    generalize runesF s.data.toList = zs at *
    go_enter Tryd.func5, Tryd.ntmps5
    go_wp2_with fail
    refine (HS.out _).mono ?_
    rintro _ w3 ⟨vw, rfl, ow, b3⟩
    have OW3 := Lib.hid ow; clear ow
    go_wp2_with fail
    refine (HI.out _ b3).mono ?_
    rintro _ w4 ⟨vg, rfl, og, b4⟩
    have t4 := nx b3 b4
    have OW4 := Lib.hid (own_kept b4 OW3.out)
    obtain ⟨ag, capg, hvg, -, rg, cg, -⟩ := own_rd og
    obtain ⟨aw, capw, hvw, -, rw', cw, -⟩ := own_rd OW4.out
    have OG := Lib.hid og; clear og
    have AWG := Lib.hid (own_apart OW3.out OG.out (Nat.le_refl _)); clear OW3
    subst hvg hvw
    have RG := Lib.hid rg; clear rg
    have RW := Lib.hid rw'; clear rw'
    have hb3 := b3.size
    go_wp2_with fail
    refine (eqIntS_c _ _ _ _ _ _ _ RG.out RW.out (by omega) (by omega)).mono ?_
    rintro _ _ ⟨rfl, q1, rfl⟩
    clear RG RW
    go_wp2_with fail
    refine (markIntS_c _ _ _ _ 1 _ (by exact OG.out) (by omega) (by omega)).mono ?_
    rintro _ w7 ⟨rfl, og7, g7'⟩
    have g7 : w4.grownBy w7 (Value.slice ag zs.length capg).ownBlock := ⟨g7'.os, g7'.tape, g7'.output, g7'.size, g7'.block⟩
    have t7 := below_mark t4 OG.out hb3 g7
    have OW7 := Lib.hid (OW4.out.kept g7 AWG.out)
    have OG7 := Lib.hid og7
    clear g7' og7 OW4 OG
    go_wp2_with fail
    refine (heldIntS_c _ _ _ 1 _ OG7.out (by omega) (by omega)).mono ?_
    rintro _ _ ⟨rfl, rfl⟩
    go_wp2_with fail
    refine (HI.out _ t7).mono ?_
    rintro _ w9 ⟨vh, rfl, oh, b9⟩
    have t9 := nx t7 b9
    have OW9 := Lib.hid (own_kept b9 OW7.out)
    have OG9 := Lib.hid (own_kept b9 OG7.out)
    obtain ⟨ah, caph, rfl, -, rh, -, -⟩ := own_rd oh
    obtain ⟨aw9, capw9, hvw9, -, rw9, -, -⟩ := own_rd OW9.out
    simp only [Value.slice.injEq, true_and] at hvw9
    obtain ⟨rfl, rfl⟩ := hvw9
    have RH := Lib.hid rh; clear rh oh
    have RW := Lib.hid rw9; clear rw9 OW7 OG7
    go_wp2_with fail
    refine (eqIntS_c _ _ _ _ _ _ _ RH.out RW.out (by omega) (by omega)).mono ?_
    rintro _ _ ⟨rfl, q4, rfl⟩
    go_wp2_with fail
    refine (heldIntS_c _ _ _ 1 _ (by exact OG9.out) (by omega) (by omega)).mono ?_
    rintro _ _ ⟨rfl, rfl⟩
    go_wp2_with fail
    go_ret
    exact ⟨rfl, ⟨t9.os, t9.tape, t9.output, t9.size, t9.block⟩⟩
namespace fnExactRunesOf
set_option maxRecDepth 100000 in
theorem walk : LawWalkL 5 Tryd.f5 := by
  intro H enc W base args ds p hval0 hA0 hL
  have hval : ∀ (j : Nat) t v, Tryd.f5.params[j]? = some t → args[j]? = some v → Value.okWide Tryd.prog W .any base t v := hval0
  have hA : DataW.TrodAll enc Tryd.prog W 0 (fun _ => true) true Tryd.f5.params.toList args.toList ds p := hA0
  clear hval0 hA0
  rw [Tryd.params5] at hA hval
  obtain ⟨v0, vs0, d0, ds0, p0, q0, hargs, rfl, rfl, h0, r0⟩ := trodAll_cons hA
  obtain ⟨rfl, rfl, rfl⟩ := trodAll_nil r0
  obtain rfl : args = #[v0] := by cases args; simp_all
  obtain ⟨a0, rfl, rfl, rfl, w0⟩ := open_string Tryd.underlying9 (hval 0 9 v0 rfl rfl) h0
  exact runesOf_law a0 W hL w0
theorem laid_met (os : Os) : laidMet Tryd.prog Rows.fnExactRunesOfRow.laid ((laidWorld os).forCall (fun _ _ => 0) ⟨#[], #[.string ByteArray.empty], []⟩).memory :=
  laidMet_of_run' 8 (by kernel_rfl) (by kernel_rfl)
theorem reads (os : Os) {H : Type} (enc : TypeId × Value → H) : ∃ places, DataW.whole enc Tryd.prog ((laidWorld os).forCall (fun _ _ => 0) ⟨#[], #[.string ByteArray.empty], []⟩).memory Tryd.f5.params.toList Rows.fnExactRunesOfSpec.vars false (#[Value.string ByteArray.empty] : Array Value).toList 8 = some ([.lit (.string [])], [], places) :=
  ⟨[], by kernel_rfl⟩
set_option maxRecDepth 100000 in
theorem lifted (os : Os) (started : os.Started) (H : Type) (enc : TypeId × Value → H) (F : Stop.Interp) :
    ReturnsInHanded {} Tryd.checked os 5 .any ((OpenSpec.ofChange Rows.fnExactRunesOfSpec).preRow enc Tryd.prog Tryd.f5 Rows.fnExactRunesOfRow.domain false Rows.fnExactRunesOfRow.laid) (((OpenSpec.ofChange Rows.fnExactRunesOfSpec).at F).post enc Tryd.prog Tryd.f5 false true false false) := by
  obtain ⟨places, hx⟩ := reads os enc
  refine returnsInHanded_of_row (C := Tryd.checked) (s := OpenSpec.ofChange Rows.fnExactRunesOfSpec) own started (by kernel_rfl) Tryd.func5
    (witness_row_at (enc := enc) (C := Tryd.checked) false (laidWorld os) #[.string ByteArray.empty] rfl (by kernel_rfl) (by kernel_rfl) (by kernel_rfl)
      (OpenSpec.preRow_of_cond 8 hx (by kernel_rfl) (fun k hk => by cases hk) (by kernel_rfl) (laid_met os))) ?_
  intro W base args ds gs before hval hW _ _ _ hL _ _
  exact law_contract 5 Tryd.f5 Rows.fnExactRunesOfSpec H enc rfl rfl (by kernel_rfl) (fun ds h => by match ds, h with | [_], _ => rfl) walk W base args ds gs before hval hW (laid_of hL (by simp [Rows.fnExactRunesOfRow]))
theorem said : Rows.FnExactRunesOfSaid :=
  OpenClaim.holds_of_cond 5 Tryd.f5 rfl rfl rfl rfl rfl rfl rfl ⟨rfl, rfl, rfl, rfl, rfl⟩ rfl rfl rfl rfl rfl (by kernel_rfl) Tryd.func5 (by kernel_rfl)
    (of_decide_eq_true (by kernel_rfl)) (by unfold Func.isWrapper; first | (rw [if_pos (by decide +kernel)]; kernel_rfl) | (rw [if_neg (by decide +kernel)]; exact ⟨rfl, rfl⟩))
    (fun os started H enc _ F => by rw [OpenClaim.pre_eq_preRow]; exact lifted os started H enc F)
theorem plain (f : FuncId) (fn : Func) (hf : Tryd.pinned.checked.prog.funcNamed "loop.example/g00502/laws.FnExactRunesOf" = some f) (hfn : Tryd.pinned.checked.prog.funcs[f]? = some fn) :
    false = Tryd.pinned.checked.prog.looks [] ∧ ∀ (j : Nat) t, fn.params[j]? = some t → Tryd.pinned.checked.prog.wantsStandIn t = false := by
  obtain rfl : f = 5 := Option.some.inj ((show Tryd.prog.funcNamed "loop.example/g00502/laws.FnExactRunesOf" = some 5 by kernel_rfl).symm.trans hf) |>.symm
  obtain rfl : fn = Tryd.f5 := (Option.some.inj (Tryd.func5.symm.trans hfn)).symm
  refine ⟨by kernel_rfl, fun j t ht => ?_⟩
  have hall : Tryd.f5.params.toList.all (fun t => !Tryd.pinned.checked.prog.wantsStandIn t) = true := by kernel_rfl
  have hm := List.all_eq_true.1 hall t (by simpa using Array.mem_of_getElem? ht)
  simpa using hm
theorem proved : Rows.FnExactRunesOfCardSaid :=
  Claim7.holds_tied_plain_at .later [] _ _ _ _ said (fun _ h => by cases h) (by kernel_rfl) (fun _ h => by cases h) fnExactRunesOf_row_tie rfl ⟨rfl, rfl⟩ (by kernel_rfl) rfl plain (by kernel_rfl)
#print axioms proved
end fnExactRunesOf
end Go.Proofs.YteihnonhfaidoaaDoor
