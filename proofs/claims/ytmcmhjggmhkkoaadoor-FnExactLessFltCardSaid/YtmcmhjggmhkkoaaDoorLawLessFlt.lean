/- FnExactLessFlt: the program's LessFlt answers what the reference's answers, for all arguments. -/
import Derived.Test.YtmcmhjggmhkkoaaDoorCFltText
import Derived.Deep.RegionHeld3
namespace Go.Proofs.YtmcmhjggmhkkoaaDoor
open Go.Deep Go.ChangeShapes Go.WideShapes Go.ChangeAt Go.RowKit
open Go.ChangeMaps (open_string shut_string)

set_option maxHeartbeats 4000000 in
theorem lessFlt_law (n x m y : Int) (w : World) (hL : Laid w) (hn : (Lit.int .i64 n).wf = true) (hx : (Lit.int .i64 x).wf = true) (hm : (Lit.int .i64 m).wf = true) (hy : (Lit.int .i64 y).wf = true) :
    Calls Tryd.prog 10 #[.agg #[.int .i64 n, .int .i64 x], .agg #[.int .i64 m, .int .i64 y]] w fun e w' => e = .returned (.bool true) ∧ Below w.heap.size w w' := by
  obtain ⟨n1, n2⟩ := wf64 hn
  obtain ⟨x1, x2⟩ := wf64 hx
  obtain ⟨m1, m2⟩ := wf64 hm
  obtain ⟨y1, y2⟩ := wf64 hy
  have HS := Lib.hid (fun w1 (hb : Below w.heap.size w w1) => lessFlt_spec n x m y w1)
  have HI := Lib.hid (fun w1 (hb : Below w.heap.size w w1) => lessFlt_impl n x m y w1 (hL.kept hb))
  clear hL hn hx hm hy n1 n2 x1 x2 m1 m2 y1 y2
  generalize lessFltB n x m y = R at *
  have F := Lib.hid (first_block w (.cells #[.int .i64 n, .int .i64 x] 38) (.cells #[.int .i64 m, .int .i64 y] 38))
  have G := Lib.hid (second_block2 w (.cells #[.int .i64 n, .int .i64 x] 38) (.cells #[.int .i64 m, .int .i64 y] 38))
  have bb := below2 w (.cells #[.int .i64 n, .int .i64 x] 38) (.cells #[.int .i64 m, .int .i64 y] 38)
  obtain ⟨W0, hW0⟩ : ∃ W0, W0 = (w.alloc (.cells #[.int .i64 n, .int .i64 x] 38)).alloc (.cells #[.int .i64 m, .int .i64 y] 38) := ⟨_, rfl⟩
  have HK : Hid (∀ w1, Below W0.heap.size W0 w1 → (w1.cell? ⟨w.heap.size, 0, none⟩ = some (.int .i64 n) ∧ w1.cell? ⟨w.heap.size, 1, none⟩ = some (.int .i64 x)) ∧ (w1.cell? ⟨w.heap.size + 1, 0, none⟩ = some (.int .i64 m) ∧ w1.cell? ⟨w.heap.size + 1, 1, none⟩ = some (.int .i64 y))) :=
    Lib.hid (fun w1 hb => by
      subst hW0
      obtain ⟨c0, c1, _⟩ := two_num hb F.out
      obtain ⟨d0, d1, _⟩ := two_num hb G.out
      exact ⟨⟨c0, c1⟩, d0, d1⟩)
  rw [← hW0] at bb
  have d5 : Below W0.heap.size W0 W0.drew := (Below.refl _ _).drew
  have HW := Lib.hid hW0
  clear hW0 F G
  go_enter Tryd.func10, Tryd.ntmps10
  go_wp2_with fail
  rw [← HW.out]
  have tok1 : True := trivial
  go_region_held3 (fun w' => (w'.cell? ⟨w.heap.size, 0, none⟩ = some (.int .i64 n) ∧ w'.cell? ⟨w.heap.size, 1, none⟩ = some (.int .i64 x)) ∧ (w'.cell? ⟨w.heap.size + 1, 0, none⟩ = some (.int .i64 m) ∧ w'.cell? ⟨w.heap.size + 1, 1, none⟩ = some (.int .i64 y))) (first | exact HK.out _ d8 | exact HK.out _ d7 | exact HK.out _ d6 | exact HK.out _ d5)
    (first
     | (go_at_call 31; have tk := tok1; refine (toFlt_c _ _ _).mono ?_; rintro _ w6 ⟨rfl, b6⟩; have d6 := nx d5 b6; clear tok1; have tok2 : True := trivial)
     | (go_at_call 31; have tk := tok2; refine (toFlt_c _ _ _).mono ?_; rintro _ w7 ⟨rfl, b7⟩; have d7 := nx d6 b7; clear tok2)
     | (go_at_call 33; refine (HS.out _ (nx bb d7)).mono ?_; rintro _ w8 ⟨rfl, b8⟩; have d8 := nx d7 b8))
  all_goals
    go_wp2_with fail
    have e5 : Below W0.heap.size W0 w8.drew := d8.drew
    have tok3 : True := trivial
    clear d5 d6 d7 d8 b6 b7 b8
    go_region_held3 (fun w' => (w'.cell? ⟨w.heap.size, 0, none⟩ = some (.int .i64 n) ∧ w'.cell? ⟨w.heap.size, 1, none⟩ = some (.int .i64 x)) ∧ (w'.cell? ⟨w.heap.size + 1, 0, none⟩ = some (.int .i64 m) ∧ w'.cell? ⟨w.heap.size + 1, 1, none⟩ = some (.int .i64 y))) (first | exact HK.out _ e8 | exact HK.out _ e7 | exact HK.out _ e6 | exact HK.out _ e5)
      (first
       | (go_at_call 31; have tk := tok3; refine (toFlt_c _ _ _).mono ?_; rintro _ v6 ⟨rfl, b6⟩; have e6 := nx e5 b6; clear tok3; have tok4 : True := trivial)
       | (go_at_call 31; have tk := tok4; refine (toFlt_c _ _ _).mono ?_; rintro _ v7 ⟨rfl, b7⟩; have e7 := nx e6 b7; clear tok4)
       | (go_at_call 34; refine (HI.out _ (nx bb e7)).mono ?_; rintro _ v8 ⟨rfl, b8⟩; have e8 := nx e7 b8))
  all_goals
    go_wp2_with fail
    go_ret
    exact ⟨rfl, nx bb e8⟩
namespace fnExactLessFlt
set_option maxRecDepth 100000 in
theorem walk : LawWalkL 10 Tryd.f10 := by
  intro H enc W base args ds p hval0 hA0 hL
  have hval : ∀ (j : Nat) t v, Tryd.f10.params[j]? = some t → args[j]? = some v → Value.okWide Tryd.prog W .any base t v := hval0
  have hA : DataW.TrodAll enc Tryd.prog W 0 (fun _ => true) true Tryd.f10.params.toList args.toList ds p := hA0
  clear hval0 hA0
  rw [Tryd.params10] at hA hval
  obtain ⟨v0, vs0, d0, ds0, p0, q0, hargs, rfl, rfl, h0, r0⟩ := trodAll_cons hA
  obtain ⟨v1, vs1, d1, ds1, p1, q1, rfl, rfl, rfl, h1, r1⟩ := trodAll_cons r0
  obtain ⟨rfl, rfl, rfl⟩ := trodAll_nil r1
  obtain rfl : args = #[v0, v1] := by cases args; simp_all
  obtain ⟨a0, b0, rfl, w0, x0⟩ := open_two Tryd.underlying38 Tryd.underlying3 Tryd.underlying3 (by kernel_rfl) (by kernel_rfl) (hval 0 38 v0 rfl rfl) h0
  obtain ⟨a1, b1, rfl, w1, x1⟩ := open_two Tryd.underlying38 Tryd.underlying3 Tryd.underlying3 (by kernel_rfl) (by kernel_rfl) (hval 1 38 v1 rfl rfl) h1
  exact lessFlt_law a0 b0 a1 b1 W hL w0 x0 w1 x1
theorem laid_met (os : Os) : laidMet Tryd.prog Rows.fnExactLessFltRow.laid ((laidWorld os).forCall (fun _ _ => 0) ⟨#[], #[.agg #[.int .i64 0, .int .i64 0], .agg #[.int .i64 0, .int .i64 0]], []⟩).memory :=
  laidMet_of_run' 8 (by kernel_rfl) (by kernel_rfl)
theorem reads (os : Os) {H : Type} (enc : TypeId × Value → H) : ∃ places, DataW.whole enc Tryd.prog ((laidWorld os).forCall (fun _ _ => 0) ⟨#[], #[.agg #[.int .i64 0, .int .i64 0], .agg #[.int .i64 0, .int .i64 0]], []⟩).memory Tryd.f10.params.toList Rows.fnExactLessFltSpec.vars false (#[Value.agg #[.int .i64 0, .int .i64 0], Value.agg #[.int .i64 0, .int .i64 0]] : Array Value).toList 8 = some ([.agg [.lit (.int .i64 0), .lit (.int .i64 0)], .agg [.lit (.int .i64 0), .lit (.int .i64 0)]], [], places) :=
  ⟨[], by kernel_rfl⟩
set_option maxRecDepth 100000 in
theorem lifted (os : Os) (started : os.Started) (H : Type) (enc : TypeId × Value → H) (F : Stop.Interp) :
    ReturnsInHanded {} Tryd.checked os 10 .any ((OpenSpec.ofChange Rows.fnExactLessFltSpec).preRow enc Tryd.prog Tryd.f10 Rows.fnExactLessFltRow.domain false Rows.fnExactLessFltRow.laid) (((OpenSpec.ofChange Rows.fnExactLessFltSpec).at F).post enc Tryd.prog Tryd.f10 false true false false) := by
  obtain ⟨places, hx⟩ := reads os enc
  refine returnsInHanded_of_row (C := Tryd.checked) (s := OpenSpec.ofChange Rows.fnExactLessFltSpec) own started (by kernel_rfl) Tryd.func10
    (witness_row_at (enc := enc) (C := Tryd.checked) false (laidWorld os) #[.agg #[.int .i64 0, .int .i64 0], .agg #[.int .i64 0, .int .i64 0]] rfl (by kernel_rfl) (by kernel_rfl) (by kernel_rfl)
      (OpenSpec.preRow_of_cond 8 hx (by kernel_rfl) (fun k hk => by cases hk) (by kernel_rfl) (laid_met os))) ?_
  intro W base args ds gs before hval hW _ _ _ hL _ _
  exact law_contract 10 Tryd.f10 Rows.fnExactLessFltSpec H enc rfl rfl (by kernel_rfl) (fun ds h => by match ds, h with | [_, _], _ => rfl) walk W base args ds gs before hval hW (laid_of hL (by simp [Rows.fnExactLessFltRow]))
theorem said : Rows.FnExactLessFltSaid :=
  OpenClaim.holds_of_cond 10 Tryd.f10 rfl rfl rfl rfl rfl rfl rfl ⟨rfl, rfl, rfl, rfl, rfl⟩ rfl rfl rfl rfl rfl (by kernel_rfl) Tryd.func10 (by kernel_rfl)
    (of_decide_eq_true (by kernel_rfl)) (by unfold Func.isWrapper; first | (rw [if_pos (by decide +kernel)]; kernel_rfl) | (rw [if_neg (by decide +kernel)]; exact ⟨rfl, rfl⟩))
    (fun os started H enc _ F => by rw [OpenClaim.pre_eq_preRow]; exact lifted os started H enc F)
theorem plain (f : FuncId) (fn : Func) (hf : Tryd.pinned.checked.prog.funcNamed "loop.example/g00502/laws.FnExactLessFlt" = some f) (hfn : Tryd.pinned.checked.prog.funcs[f]? = some fn) :
    true = Tryd.pinned.checked.prog.looks [] ∧ ∀ (j : Nat) t, fn.params[j]? = some t → Tryd.pinned.checked.prog.wantsStandIn t = false := by
  obtain rfl : f = 10 := Option.some.inj ((show Tryd.prog.funcNamed "loop.example/g00502/laws.FnExactLessFlt" = some 10 by kernel_rfl).symm.trans hf) |>.symm
  obtain rfl : fn = Tryd.f10 := (Option.some.inj (Tryd.func10.symm.trans hfn)).symm
  refine ⟨by kernel_rfl, fun j t ht => ?_⟩
  have hall : Tryd.f10.params.toList.all (fun t => !Tryd.pinned.checked.prog.wantsStandIn t) = true := by kernel_rfl
  have hm := List.all_eq_true.1 hall t (by simpa using Array.mem_of_getElem? ht)
  simpa using hm
theorem proved : Rows.FnExactLessFltCardSaid :=
  Claim7.holds_tied_plain_at .later [] _ _ _ _ said (fun _ h => by cases h) (by kernel_rfl) (fun _ h => by cases h) fnExactLessFlt_row_tie rfl ⟨rfl, rfl⟩ (by kernel_rfl) rfl plain (by kernel_rfl)
#print axioms proved
end fnExactLessFlt
end Go.Proofs.YtmcmhjggmhkkoaaDoor
