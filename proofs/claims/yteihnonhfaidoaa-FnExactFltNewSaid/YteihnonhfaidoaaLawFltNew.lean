/- FnExactFltNew: the program's FltNew answers what the reference's answers, for every argument. -/
import Derived.Test.YteihnonhfaidoaaCFltNew
namespace Go.Proofs.Yteihnonhfaidoaa
open Go.ChangeShapes Go.WideShapes Go.ChangeAt Go.RowKit
open Go.ChangeMaps (open_string shut_string)

theorem eqFlt_c (m e : Int) (w : World) :
    Calls Try.prog 27 #[.agg #[.int .i64 m, .int .i64 e], .agg #[.int .i64 m, .int .i64 e]] w fun en w' => en = .returned (.bool true) ∧ Below w.heap.size w w' := by
  go_enter Try.func27, Try.ntmps27
  go_wp2
  go_ret
  exact ⟨rfl, below2 _ _ _⟩

set_option maxHeartbeats 1000000 in
theorem fltNew_law (m e : Int) (w : World) (_hm : (Lit.int .i64 m).wf = true) (_he : (Lit.int .i64 e).wf = true) :
    Calls Try.prog 6 #[.int .i64 m, .int .i64 e] w fun en w' => en = .returned (.bool true) ∧ Below w.heap.size w w' := by
  obtain ⟨⟨A, B, C⟩, hN⟩ : ∃ z : Int × Int × Bool, newF m e = z := ⟨_, rfl⟩
  have hs := newF_spec m e
  have hi := newF_impl m e
  rw [hN] at hs hi
  simp only at hs hi
  have HS := Lib.hid hs; have HI := Lib.hid hi
  clear hs hi hN
  go_enter Try.func6, Try.ntmps6
  go_wp2_with fail
  refine (HS.out _).mono ?_
  rintro _ w1 ⟨rfl, b1⟩
  go_wp2_with fail
  refine (HI.out _).mono ?_
  rintro _ w2 ⟨rfl, b2⟩
  obtain ⟨k0, k1⟩ := box2 (nx b2 (below1 w2 (.cells #[.int .i64 A, .int .i64 B] 37)))
  have hcc : (C != C) = false := by simp
  have t2 := nx (nx b1 (below1 w1 (.cells #[.int .i64 A, .int .i64 B] 37))) (nx b2 (below1 w2 (.cells #[.int .i64 A, .int .i64 B] 37)))
  go_wp2_with fail
  refine (eqFlt_c _ _ _).mono ?_
  rintro _ w3 ⟨rfl, b3⟩
  go_wp2_with fail
  go_ret
  exact ⟨rfl, nx t2 b3⟩
namespace fnExactFltNew
theorem walk : LawWalk 6 Try.f6 := by
  intro H enc W base args ds p hval0 hA0
  have hval : ∀ (j : Nat) t v, Try.f6.params[j]? = some t → args[j]? = some v → Value.okWide Try.prog W .any base t v := hval0
  have hA : DataW.TrodAll enc Try.prog W 0 (fun _ => true) true Try.f6.params.toList args.toList ds p := hA0
  clear hval0 hA0
  rw [Try.params6] at hA hval
  obtain ⟨v0, vs0, d0, ds0, p0, q0, hargs, rfl, rfl, h0, r0⟩ := trodAll_cons hA
  obtain ⟨v1, vs1, d1, ds1, p1, q1, rfl, rfl, rfl, h1, r1⟩ := trodAll_cons r0
  obtain ⟨rfl, rfl, rfl⟩ := trodAll_nil r1
  obtain rfl : args = #[v0, v1] := by cases args; simp_all
  obtain ⟨a0, rfl, rfl, rfl, w0⟩ := open_int Try.underlying3 (hval 0 3 v0 rfl rfl) h0
  obtain ⟨a1, rfl, rfl, rfl, w1⟩ := open_int Try.underlying3 (hval 1 3 v1 rfl rfl) h1
  exact fltNew_law a0 a1 W w0 w1
set_option maxRecDepth 100000 in
theorem lifted (os : Os) (started : os.Started) (H : Type) (enc : TypeId × Value → H) :
    ReturnsInHanded {} Try.checked os 6 .any (Rows.fnExactFltNewSpec.pre6 enc Try.prog Try.f6 [] false) (Rows.fnExactFltNewSpec.post enc Try.prog Try.f6 false true false false) :=
  law_lifted 6 Try.f6 Rows.fnExactFltNewSpec os started H enc (by kernel_rfl) Try.func6 rfl rfl (by kernel_rfl)
    (fun ds h => by match ds, h with | [_, _], _ => rfl)
    (ChangeSpec.witness6 (enc := enc) (C := Try.checked) false ⟨#[], #[.int .i64 0, .int .i64 0], []⟩ 8 (by kernel_rfl) (by kernel_rfl) (by kernel_rfl) (by kernel_rfl)) walk
theorem proved : Rows.FnExactFltNewSaid :=
  OpenClaim.holds_of_wide 6 Try.f6 rfl rfl rfl rfl rfl rfl rfl ⟨rfl, rfl, rfl, rfl, rfl⟩ rfl rfl rfl rfl rfl (by kernel_rfl) Try.func6 (by kernel_rfl)
    (of_decide_eq_true (by kernel_rfl)) (by unfold Func.isWrapper; first | (rw [if_pos (by decide +kernel)]; kernel_rfl) | (rw [if_neg (by decide +kernel)]; exact ⟨rfl, rfl⟩))
    (fun os started H enc _ => lifted os started H enc)
#print axioms proved
end fnExactFltNew
end Go.Proofs.Yteihnonhfaidoaa
