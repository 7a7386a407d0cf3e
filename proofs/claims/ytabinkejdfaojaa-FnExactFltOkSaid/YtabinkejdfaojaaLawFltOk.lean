/- FnExactFltOk: the program's FltOk answers what the reference's answers, for every argument. -/
import Derived.Test.YtabinkejdfaojaaCFltOk
import Derived.Test.YtabinkejdfaojaaCConv
namespace Go.Proofs.Ytabinkejdfaojaa
open Go.ChangeShapes Go.WideShapes Go.ChangeAt Go.RowKit
open Go.ChangeMaps (open_string shut_string)

set_option maxHeartbeats 1000000 in
theorem fltOk_law (m e : Int) (w : World) (_hm : (Lit.int .i64 m).wf = true) (_he : (Lit.int .i64 e).wf = true) :
    Calls Try.prog 10 #[.agg #[.int .i64 m, .int .i64 e]] w fun en w' => en = .returned (.bool true) ∧ Below w.heap.size w w' := by
  go_enter Try.func10, Try.ntmps10
  go_wp2_with fail
  refine (toFlt_c _ _ _).mono ?_
  rintro _ w1 ⟨rfl, b1⟩
  go_wp2_with fail
  refine (fltOk_spec _ _ _).mono ?_
  rintro _ w2 ⟨rfl, b2⟩
  obtain ⟨k0, k1⟩ := box2 (nx b1 b2)
  go_wp2_with fail
  refine (toFlt_c _ _ _).mono ?_
  rintro _ w3 ⟨rfl, b3⟩
  go_wp2_with fail
  refine (fltOk_impl _ _ _).mono ?_
  rintro _ w4 ⟨rfl, b4⟩
  go_wp2_with fail
  go_ret
  exact ⟨rfl, nx (below1 _ _) (nx (nx (nx b1 b2) b3) b4)⟩
namespace fnExactFltOk
theorem walk : LawWalk 10 Try.f10 := by
  intro H enc W base args ds p hval0 hA0
  have hval : ∀ (j : Nat) t v, Try.f10.params[j]? = some t → args[j]? = some v → Value.okWide Try.prog W .any base t v := hval0
  have hA : DataW.TrodAll enc Try.prog W 0 (fun _ => true) true Try.f10.params.toList args.toList ds p := hA0
  clear hval0 hA0
  rw [Try.params10] at hA hval
  obtain ⟨v0, vs0, d0, ds0, p0, q0, hargs, rfl, rfl, h0, r0⟩ := trodAll_cons hA
  obtain ⟨rfl, rfl, rfl⟩ := trodAll_nil r0
  obtain rfl : args = #[v0] := by cases args; simp_all
  obtain ⟨a0, b0, rfl, w0, x0⟩ := open_two Try.underlying31 Try.underlying3 Try.underlying3 (by kernel_rfl) (by kernel_rfl) (hval 0 31 v0 rfl rfl) h0
  exact fltOk_law a0 b0 W w0 x0
set_option maxRecDepth 100000 in
theorem lifted (os : Os) (started : os.Started) (H : Type) (enc : TypeId × Value → H) :
    ReturnsInHanded {} Try.checked os 10 .any (Rows.fnExactFltOkSpec.pre6 enc Try.prog Try.f10 [] false) (Rows.fnExactFltOkSpec.post enc Try.prog Try.f10 false true false false) :=
  law_lifted 10 Try.f10 Rows.fnExactFltOkSpec os started H enc (by kernel_rfl) Try.func10 rfl rfl (by kernel_rfl)
    (fun ds h => by match ds, h with | [_], _ => rfl)
    (ChangeSpec.witness6 (enc := enc) (C := Try.checked) false ⟨#[], #[.agg #[.int .i64 0, .int .i64 0]], []⟩ 8 (by kernel_rfl) (by kernel_rfl) (by kernel_rfl) (by kernel_rfl)) walk
theorem proved : Rows.FnExactFltOkSaid :=
  OpenClaim.holds_of_wide 10 Try.f10 rfl rfl rfl rfl rfl rfl rfl ⟨rfl, rfl, rfl, rfl, rfl⟩ rfl rfl rfl rfl rfl (by kernel_rfl) Try.func10 (by kernel_rfl)
    (of_decide_eq_true (by kernel_rfl)) (by unfold Func.isWrapper; first | (rw [if_pos (by decide +kernel)]; kernel_rfl) | (rw [if_neg (by decide +kernel)]; exact ⟨rfl, rfl⟩))
    (fun os started H enc _ => lifted os started H enc)
#print axioms proved
end fnExactFltOk
end Go.Proofs.Ytabinkejdfaojaa
