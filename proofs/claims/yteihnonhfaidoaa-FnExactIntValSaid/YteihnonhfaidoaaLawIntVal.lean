/- FnExactIntVal: both make the same value. -/
import Derived.Test.YteihnonhfaidoaaVLeaf
namespace Go.Proofs.Yteihnonhfaidoaa
open Go.Deep Go.ChangeShapes Go.WideShapes Go.ChangeAt Go.RowKit
open Go.ChangeMaps (open_string shut_string)


set_option maxHeartbeats 2000000 in
theorem intVal_law (n : Int) (w : World) (_hn : (Lit.int .i64 n).wf = true) :
    Calls Try.prog 8 #[.int .i64 n] w fun e w' => e = .returned (.bool true) ∧ Below w.heap.size w w' := by
  go_enter Try.func8, Try.ntmps8
  go_wp2_with fail
  refine (spec_IntVal _ _).mono ?_
  rintro _ w1 ⟨rfl, b1⟩
  have K1 := Lib.hid (box5_new w1 (.int .i64 3) (.int .i64 n) (.int .i64 0) (.string { data := #[] }) (.slice none 0 0) 49)
  have t1 := nx b1 (vbelow1 w1 (.cells #[.int .i64 3, .int .i64 n, .int .i64 0, .string { data := #[] }, .slice none 0 0] 49))
  go_wp2_with fail
  refine (impl_IntVal _ _).mono ?_
  rintro _ w2 ⟨rfl, b2⟩
  have t2 := nx (nx t1 b2) (vbelow1 w2 (.cells #[.int .i64 3, .int .i64 n, .int .i64 0, .string { data := #[] }, .slice none 0 0] 49))
  have K2 := Lib.hid (box5_kept (nx b2 (vbelow1 w2 (.cells #[.int .i64 3, .int .i64 n, .int .i64 0, .string { data := #[] }, .slice none 0 0] 49))) K1.out); clear K1
  have L2 := Lib.hid (box5_new w2 (.int .i64 3) (.int .i64 n) (.int .i64 0) (.string { data := #[] }) (.slice none 0 0) 49)
  obtain ⟨k0, k1, k2, k3, k4⟩ := K2.out
  obtain ⟨l0, l1, l2, l3, l4⟩ := L2.out
  go_wp2_with fail
  refine (eq_leaf _ _ _ _ _).mono ?_
  rintro _ w3 ⟨rfl, b3⟩
  have t3 := nx t2 b3
  have K3 := Lib.hid (box5_kept b3 K2.out); clear K2
  have L3 := Lib.hid (box5_kept b3 L2.out); clear L2 k0 k1 k2 k3 k4 l0 l1 l2 l3 l4
  obtain ⟨l0, l1, l2, l3, l4⟩ := L3.out
  go_wp2_with fail
  refine (mark_leaf _ _ _ _ _ _).mono ?_
  rintro _ w4 ⟨rfl, b4⟩
  have t4 := nx t3 b4
  have K4 := Lib.hid (box5_kept b4 K3.out); clear K3
  have L4 := Lib.hid (box5_kept b4 L3.out); clear L3 l0 l1 l2 l3 l4
  obtain ⟨l0, l1, l2, l3, l4⟩ := L4.out
  go_wp2_with fail
  refine (held_leaf _ _ _ _ _ _ (by decide)).mono ?_
  rintro _ w5 ⟨rfl, b5⟩
  have t5 := nx t4 b5
  have K5 := Lib.hid (box5_kept b5 K4.out); clear K4
  have L5 := Lib.hid (box5_kept b5 L4.out); clear L4 l0 l1 l2 l3 l4
  go_wp2_with fail
  refine (impl_IntVal _ _).mono ?_
  rintro _ w6 ⟨rfl, b6⟩
  have t6 := nx (nx t5 b6) (vbelow1 w6 (.cells #[.int .i64 3, .int .i64 n, .int .i64 0, .string { data := #[] }, .slice none 0 0] 49))
  have K6 := Lib.hid (box5_kept (nx b6 (vbelow1 w6 (.cells #[.int .i64 3, .int .i64 n, .int .i64 0, .string { data := #[] }, .slice none 0 0] 49))) K5.out); clear K5
  have L6 := Lib.hid (box5_kept (nx b6 (vbelow1 w6 (.cells #[.int .i64 3, .int .i64 n, .int .i64 0, .string { data := #[] }, .slice none 0 0] 49))) L5.out); clear L5
  have M6 := Lib.hid (box5_new w6 (.int .i64 3) (.int .i64 n) (.int .i64 0) (.string { data := #[] }) (.slice none 0 0) 49)
  obtain ⟨k0, k1, k2, k3, k4⟩ := K6.out
  obtain ⟨m0, m1, m2, m3, m4⟩ := M6.out
  go_wp2_with fail
  refine (eq_leaf _ _ _ _ _).mono ?_
  rintro _ w7 ⟨rfl, b7⟩
  have t7 := nx t6 b7
  have L7 := Lib.hid (box5_kept b7 L6.out); clear L6 K6 M6 k0 k1 k2 k3 k4 m0 m1 m2 m3 m4
  obtain ⟨l0, l1, l2, l3, l4⟩ := L7.out
  go_wp2_with fail
  refine (held_leaf _ _ _ _ _ _ (by decide)).mono ?_
  rintro _ w8 ⟨rfl, b8⟩
  have t8 := nx t7 b8
  go_wp2_with fail
  go_ret
  exact ⟨rfl, t8⟩
namespace fnExactIntVal
theorem walk : LawWalk 8 Try.f8 := by
  intro H enc W base args ds p hval0 hA0
  have hval : ∀ (j : Nat) t v, Try.f8.params[j]? = some t → args[j]? = some v → Value.okWide Try.prog W .any base t v := hval0
  have hA : DataW.TrodAll enc Try.prog W 0 (fun _ => true) true Try.f8.params.toList args.toList ds p := hA0
  clear hval0 hA0
  rw [Try.params8] at hA hval
  obtain ⟨v0, vs0, d0, ds0, p0, q0, hargs, rfl, rfl, h0, r0⟩ := trodAll_cons hA
  obtain ⟨rfl, rfl, rfl⟩ := trodAll_nil r0
  obtain rfl : args = #[v0] := by cases args; simp_all
  obtain ⟨a0, rfl, rfl, rfl, w0⟩ := open_int Try.underlying3 (hval 0 3 v0 rfl rfl) h0
  exact intVal_law a0 W w0
set_option maxRecDepth 100000 in
theorem lifted (os : Os) (started : os.Started) (H : Type) (enc : TypeId × Value → H) :
    ReturnsInHanded {} Try.checked os 8 .any (Rows.fnExactIntValSpec.pre6 enc Try.prog Try.f8 [] false) (Rows.fnExactIntValSpec.post enc Try.prog Try.f8 false true false false) :=
  law_lifted 8 Try.f8 Rows.fnExactIntValSpec os started H enc (by kernel_rfl) Try.func8 rfl rfl (by kernel_rfl)
    (fun ds h => by match ds, h with | [_], _ => rfl)
    (ChangeSpec.witness6 (enc := enc) (C := Try.checked) false ⟨#[], #[.int .i64 0], []⟩ 8 (by kernel_rfl) (by kernel_rfl) (by kernel_rfl) (by kernel_rfl)) walk
theorem proved : Rows.FnExactIntValSaid :=
  OpenClaim.holds_of_wide 8 Try.f8 rfl rfl rfl rfl rfl rfl rfl ⟨rfl, rfl, rfl, rfl, rfl⟩ rfl rfl rfl rfl rfl (by kernel_rfl) Try.func8 (by kernel_rfl)
    (of_decide_eq_true (by kernel_rfl)) (by unfold Func.isWrapper; first | (rw [if_pos (by decide +kernel)]; kernel_rfl) | (rw [if_neg (by decide +kernel)]; exact ⟨rfl, rfl⟩))
    (fun os started H enc _ => lifted os started H enc)
#print axioms proved
end fnExactIntVal

end Go.Proofs.Yteihnonhfaidoaa
