/- FnExactNumberVal: both make the same value. -/
import Derived.Test.YteihnonhfaidoaaVNum
namespace Go.Proofs.Yteihnonhfaidoaa
open Go.Deep Go.ChangeShapes Go.WideShapes Go.ChangeAt Go.RowKit
open Go.ChangeMaps (open_string shut_string)

set_option maxHeartbeats 4000000 in
theorem numberVal_law (n x : Int) (w : World) (_hn : (Lit.int .i64 n).wf = true) (_hx : (Lit.int .i64 x).wf = true) :
    Calls Try.prog 11 #[.agg #[.int .i64 n, .int .i64 x]] w fun e w' => e = .returned (.bool true) ∧ Below w.heap.size w w' := by
  go_enter Try.func11, Try.ntmps11
  go_wp2_with fail
  refine (toDec_c _ _ _).mono ?_
  rintro _ v1 ⟨rfl, c1⟩
  go_wp2_with fail
  refine (spec_NumberVal _ _ _).mono ?_
  rintro _ w1 ⟨rfl, b1⟩
  have K1 := Lib.hid (box5_new w1 (.int .i64 (numK x)) (.int .i64 n) (.int .i64 x) (.string { data := #[] }) (.slice none 0 0) 49)
  have t1 := nx (nx c1 b1) (vbelow1 w1 (.cells #[.int .i64 (numK x), .int .i64 n, .int .i64 x, .string { data := #[] }, .slice none 0 0] 49))
  obtain ⟨d0, d1⟩ := box2 t1
  go_wp2_with fail
  refine (toDec_c _ _ _).mono ?_
  rintro _ v2 ⟨rfl, c2⟩
  go_wp2_with fail
  refine (impl_NumberVal _ _ _).mono ?_
  rintro _ w2 ⟨rfl, e2⟩
  have b2 := nx c2 e2
  clear c2 e2 d0 d1
  have t2 := nx (nx t1 b2) (vbelow1 w2 (.cells #[.int .i64 (numK x), .int .i64 n, .int .i64 x, .string { data := #[] }, .slice none 0 0] 49))
  have K2 := Lib.hid (box5_kept (nx b2 (vbelow1 w2 (.cells #[.int .i64 (numK x), .int .i64 n, .int .i64 x, .string { data := #[] }, .slice none 0 0] 49))) K1.out); clear K1
  have L2 := Lib.hid (box5_new w2 (.int .i64 (numK x)) (.int .i64 n) (.int .i64 x) (.string { data := #[] }) (.slice none 0 0) 49)
  obtain ⟨k0, k1, k2, k3, k4⟩ := K2.out
  obtain ⟨l0, l1, l2, l3, l4⟩ := L2.out
  go_wp2_with fail
  refine (eq_leaf _ _ _ _ _).mono ?_
  rintro _ w3 ⟨rfl, b3⟩
  have t3 := nx t2 b3
  have K3 := Lib.hid (box5_kept b3 K2.out); clear K2
  have L3 := Lib.hid (box5_kept b3 L2.out); clear L2 k0 k1 k2 k3 k4 l0 l1 l2 l3 l4
  obtain ⟨l0, l1, l2, l3, l4⟩ := L3.out
  go_wp2_with fail
  refine (mark_leaf _ _ _ _ _ _).mono ?_
  rintro _ w4 ⟨rfl, b4⟩
  have t4 := nx t3 b4
  have K4 := Lib.hid (box5_kept b4 K3.out); clear K3
  have L4 := Lib.hid (box5_kept b4 L3.out); clear L3 l0 l1 l2 l3 l4
  obtain ⟨l0, l1, l2, l3, l4⟩ := L4.out
  go_wp2_with fail
  refine (held_leaf _ _ _ _ _ _ (by decide)).mono ?_
  rintro _ w5 ⟨rfl, b5⟩
  have t5 := nx t4 b5
  have K5 := Lib.hid (box5_kept b5 K4.out); clear K4
  have L5 := Lib.hid (box5_kept b5 L4.out); clear L4 l0 l1 l2 l3 l4
  obtain ⟨d0, d1⟩ := box2 t5
  go_wp2_with fail
  refine (toDec_c _ _ _).mono ?_
  rintro _ v6 ⟨rfl, c6⟩
  go_wp2_with fail
  refine (impl_NumberVal _ _ _).mono ?_
  rintro _ w6 ⟨rfl, e6⟩
  have b6 := nx c6 e6
  clear c6 e6 d0 d1
  have t6 := nx (nx t5 b6) (vbelow1 w6 (.cells #[.int .i64 (numK x), .int .i64 n, .int .i64 x, .string { data := #[] }, .slice none 0 0] 49))
  have K6 := Lib.hid (box5_kept (nx b6 (vbelow1 w6 (.cells #[.int .i64 (numK x), .int .i64 n, .int .i64 x, .string { data := #[] }, .slice none 0 0] 49))) K5.out); clear K5
  have L6 := Lib.hid (box5_kept (nx b6 (vbelow1 w6 (.cells #[.int .i64 (numK x), .int .i64 n, .int .i64 x, .string { data := #[] }, .slice none 0 0] 49))) L5.out); clear L5
  have M6 := Lib.hid (box5_new w6 (.int .i64 (numK x)) (.int .i64 n) (.int .i64 x) (.string { data := #[] }) (.slice none 0 0) 49)
  obtain ⟨k0, k1, k2, k3, k4⟩ := K6.out
  obtain ⟨m0, m1, m2, m3, m4⟩ := M6.out
  go_wp2_with fail
  refine (eq_leaf _ _ _ _ _).mono ?_
  rintro _ w7 ⟨rfl, b7⟩
  have t7 := nx t6 b7
  have L7 := Lib.hid (box5_kept b7 L6.out); clear L6 K6 M6 k0 k1 k2 k3 k4 m0 m1 m2 m3 m4
  obtain ⟨l0, l1, l2, l3, l4⟩ := L7.out
  go_wp2_with fail
  refine (held_leaf _ _ _ _ _ _ (by decide)).mono ?_
  rintro _ w8 ⟨rfl, b8⟩
  have t8 := nx t7 b8
  go_wp2_with fail
  go_ret
  exact ⟨rfl, nx (vbelow1 _ _) t8⟩

namespace fnExactNumberVal
theorem walk : LawWalk 11 Try.f11 := by
  intro H enc W base args ds p hval0 hA0
  have hval : ∀ (j : Nat) t v, Try.f11.params[j]? = some t → args[j]? = some v → Value.okWide Try.prog W .any base t v := hval0
  have hA : DataW.TrodAll enc Try.prog W 0 (fun _ => true) true Try.f11.params.toList args.toList ds p := hA0
  clear hval0 hA0
  rw [Try.params11] at hA hval
  obtain ⟨v0, vs0, d0, ds0, p0, q0, hargs, rfl, rfl, h0, r0⟩ := trodAll_cons hA
  obtain ⟨rfl, rfl, rfl⟩ := trodAll_nil r0
  obtain rfl : args = #[v0] := by cases args; simp_all
  obtain ⟨a0, b0, rfl, w0, x0⟩ := open_two Try.underlying59 Try.underlying3 Try.underlying3 (by kernel_rfl) (by kernel_rfl) (hval 0 59 v0 rfl rfl) h0
  exact numberVal_law a0 b0 W w0 x0
set_option maxRecDepth 100000 in
theorem lifted (os : Os) (started : os.Started) (H : Type) (enc : TypeId × Value → H) :
    ReturnsInHanded {} Try.checked os 11 .any (Rows.fnExactNumberValSpec.pre6 enc Try.prog Try.f11 [] false) (Rows.fnExactNumberValSpec.post enc Try.prog Try.f11 false true false false) :=
  law_lifted 11 Try.f11 Rows.fnExactNumberValSpec os started H enc (by kernel_rfl) Try.func11 rfl rfl (by kernel_rfl)
    (fun ds h => by match ds, h with | [_], _ => rfl)
    (ChangeSpec.witness6 (enc := enc) (C := Try.checked) false ⟨#[], #[.agg #[.int .i64 0, .int .i64 0]], []⟩ 8 (by kernel_rfl) (by kernel_rfl) (by kernel_rfl) (by kernel_rfl)) walk
theorem proved : Rows.FnExactNumberValSaid :=
  OpenClaim.holds_of_wide 11 Try.f11 rfl rfl rfl rfl rfl rfl rfl ⟨rfl, rfl, rfl, rfl, rfl⟩ rfl rfl rfl rfl rfl (by kernel_rfl) Try.func11 (by kernel_rfl)
    (of_decide_eq_true (by kernel_rfl)) (by unfold Func.isWrapper; first | (rw [if_pos (by decide +kernel)]; kernel_rfl) | (rw [if_neg (by decide +kernel)]; exact ⟨rfl, rfl⟩))
    (fun os started H enc _ => lifted os started H enc)
#print axioms proved
end fnExactNumberVal

end Go.Proofs.Yteihnonhfaidoaa
