/- FnExactDecNew: the program's function answers what the reference's answers, for every argument. -/
import Derived.Test.YtmcmhjggmhkkoaaDoorCDecNew
import Derived.Test.YtmcmhjggmhkkoaaDoorCEq
namespace Go.Proofs.YtmcmhjggmhkkoaaDoor
open Go.Deep Go.ChangeShapes Go.WideShapes Go.ChangeAt Go.RowKit
open Go.ChangeMaps (open_string shut_string)

set_option maxHeartbeats 1000000 in
theorem decNew_law (m e : Int) (w : World) (hL : Laid w) (hm : (Lit.int .i64 m).wf = true) (_he : (Lit.int .i64 e).wf = true) :
    Calls Tryd.prog 6 #[.int .i64 m, .int .i64 e] w fun en w' => en = .returned (.bool true) ∧ Below w.heap.size w w' := by
  obtain ⟨g1, g2⟩ := wf64 hm
  obtain ⟨⟨A, B, C⟩, hN⟩ : ∃ z : Int × Int × Bool, decNewF m e = z := ⟨_, rfl⟩
  have hs := fun w1 => decNew_spec m e w1 g1 g2
  have hi := fun w1 (hb : Below w.heap.size w w1) => decNew_impl m e w1 (hL.kept hb) g1 g2
  rw [hN] at hs hi
  simp only at hs hi
  have HS := Lib.hid hs; have HI := Lib.hid hi
  clear hs hi hN hL
  have hcc : (C != C) = false := by simp
  go_enter Tryd.func6, Tryd.ntmps6
  go_wp2_with fail
  refine (HS.out _).mono ?_
  rintro _ w1 ⟨rfl, b1⟩
  go_wp2_with fail
  refine (HI.out _ (nx b1 (below1 _ _))).mono ?_
  rintro _ w2 ⟨rfl, b2⟩
  obtain ⟨k0, k1⟩ := box2 (nx b2 (below1 w2 (.cells #[.int .i64 A, .int .i64 B] 28)))
  have t2 := nx (nx b1 (below1 w1 (.cells #[.int .i64 A, .int .i64 B] 28))) (nx b2 (below1 w2 (.cells #[.int .i64 A, .int .i64 B] 28)))
  go_wp2_with fail
  refine (eqDec_c _ _ _).mono ?_
  rintro _ w3 ⟨rfl, b3⟩
  go_wp2_with fail
  go_ret
  exact ⟨rfl, nx t2 b3⟩
namespace fnExactDecNew
set_option maxRecDepth 100000 in
theorem walk : LawWalkL 6 Tryd.f6 := by
  intro H enc W base args ds p hval0 hA0 hL
  have hval : ∀ (j : Nat) t v, Tryd.f6.params[j]? = some t → args[j]? = some v → Value.okWide Tryd.prog W .any base t v := hval0
  have hA : DataW.TrodAll enc Tryd.prog W 0 (fun _ => true) true Tryd.f6.params.toList args.toList ds p := hA0
  clear hval0 hA0
  rw [Tryd.params6] at hA hval
  obtain ⟨v0, vs0, d0, ds0, p0, q0, hargs, rfl, rfl, h0, r0⟩ := trodAll_cons hA
  obtain ⟨v1, vs1, d1, ds1, p1, q1, rfl, rfl, rfl, h1, r1⟩ := trodAll_cons r0
  obtain ⟨rfl, rfl, rfl⟩ := trodAll_nil r1
  obtain rfl : args = #[v0, v1] := by cases args; simp_all
  obtain ⟨a0, rfl, rfl, rfl, w0⟩ := open_int Tryd.underlying3 (hval 0 3 v0 rfl rfl) h0
  obtain ⟨a1, rfl, rfl, rfl, w1⟩ := open_int Tryd.underlying3 (hval 1 3 v1 rfl rfl) h1
  exact decNew_law a0 a1 W hL w0 w1
theorem laid_met (os : Os) : laidMet Tryd.prog Rows.fnExactDecNewRow.laid ((laidWorld os).forCall (fun _ _ => 0) ⟨#[], #[.int .i64 0, .int .i64 0], []⟩).memory :=
  laidMet_of_run' 8 (by kernel_rfl) (by kernel_rfl)
theorem reads (os : Os) {H : Type} (enc : TypeId × Value → H) : ∃ places, DataW.whole enc Tryd.prog ((laidWorld os).forCall (fun _ _ => 0) ⟨#[], #[.int .i64 0, .int .i64 0], []⟩).memory Tryd.f6.params.toList Rows.fnExactDecNewSpec.vars false (#[Value.int .i64 0, Value.int .i64 0] : Array Value).toList 8 = some ([.lit (.int .i64 0), .lit (.int .i64 0)], [], places) :=
  ⟨[], by kernel_rfl⟩
set_option maxRecDepth 100000 in
theorem lifted (os : Os) (started : os.Started) (H : Type) (enc : TypeId × Value → H) (F : Stop.Interp) :
    ReturnsInHanded {} Tryd.checked os 6 .any ((OpenSpec.ofChange Rows.fnExactDecNewSpec).preRow enc Tryd.prog Tryd.f6 Rows.fnExactDecNewRow.domain false Rows.fnExactDecNewRow.laid) (((OpenSpec.ofChange Rows.fnExactDecNewSpec).at F).post enc Tryd.prog Tryd.f6 false true false false) := by
  obtain ⟨places, hx⟩ := reads os enc
  refine returnsInHanded_of_row (C := Tryd.checked) (s := OpenSpec.ofChange Rows.fnExactDecNewSpec) own started (by kernel_rfl) Tryd.func6
    (witness_row_at (enc := enc) (C := Tryd.checked) false (laidWorld os) #[.int .i64 0, .int .i64 0] rfl (by kernel_rfl) (by kernel_rfl) (by kernel_rfl)
      (OpenSpec.preRow_of_cond 8 hx (by kernel_rfl) (fun k hk => by cases hk) (by kernel_rfl) (laid_met os))) ?_
  intro W base args ds gs before hval hW _ _ _ hL _ _
  exact law_contract 6 Tryd.f6 Rows.fnExactDecNewSpec H enc rfl rfl (by kernel_rfl) (fun ds h => by match ds, h with | [_, _], _ => rfl) walk W base args ds gs before hval hW (laid_of hL (by simp [Rows.fnExactDecNewRow]))
theorem said : Rows.FnExactDecNewSaid :=
  OpenClaim.holds_of_cond 6 Tryd.f6 rfl rfl rfl rfl rfl rfl rfl ⟨rfl, rfl, rfl, rfl, rfl⟩ rfl rfl rfl rfl rfl (by kernel_rfl) Tryd.func6 (by kernel_rfl)
    (of_decide_eq_true (by kernel_rfl)) (by unfold Func.isWrapper; first | (rw [if_pos (by decide +kernel)]; kernel_rfl) | (rw [if_neg (by decide +kernel)]; exact ⟨rfl, rfl⟩))
    (fun os started H enc _ F => by rw [OpenClaim.pre_eq_preRow]; exact lifted os started H enc F)
theorem plain (f : FuncId) (fn : Func) (hf : Tryd.pinned.checked.prog.funcNamed "loop.example/g00502/laws.FnExactDecNew" = some f) (hfn : Tryd.pinned.checked.prog.funcs[f]? = some fn) :
    true = Tryd.pinned.checked.prog.looks [] ∧ ∀ (j : Nat) t, fn.params[j]? = some t → Tryd.pinned.checked.prog.wantsStandIn t = false := by
  obtain rfl : f = 6 := Option.some.inj ((show Tryd.prog.funcNamed "loop.example/g00502/laws.FnExactDecNew" = some 6 by kernel_rfl).symm.trans hf) |>.symm
  obtain rfl : fn = Tryd.f6 := (Option.some.inj (Tryd.func6.symm.trans hfn)).symm
  refine ⟨by kernel_rfl, fun j t ht => ?_⟩
  have hall : Tryd.f6.params.toList.all (fun t => !Tryd.pinned.checked.prog.wantsStandIn t) = true := by kernel_rfl
  have hm := List.all_eq_true.1 hall t (by simpa using Array.mem_of_getElem? ht)
  simpa using hm
theorem proved : Rows.FnExactDecNewCardSaid :=
  Claim7.holds_tied_plain_at .later [] _ _ _ _ said (fun _ h => by cases h) (by kernel_rfl) (fun _ h => by cases h) fnExactDecNew_row_tie rfl ⟨rfl, rfl⟩ (by kernel_rfl) rfl plain (by kernel_rfl)
#print axioms proved
end fnExactDecNew
end Go.Proofs.YtmcmhjggmhkkoaaDoor
