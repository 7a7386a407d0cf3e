/- FnExactTextVal: both make the same value. -/
import Derived.Test.YteihnonhfaidoaaVLeaf
namespace Go.Proofs.Yteihnonhfaidoaa
open Go.Deep Go.ChangeShapes Go.WideShapes Go.ChangeAt Go.RowKit
open Go.ChangeMaps (open_string shut_string)


set_option maxHeartbeats 2000000 in
theorem textVal_law (s : ByteArray) (w : World) (hs : s.size ≤ maxLen) :
    Calls Try.prog 9 #[.string s] w fun e w' => e = .returned (.bool true) ∧ Below w.heap.size w w' := by
  unfold maxLen at hs
  by_cases hbig : 1048576 < s.size
  · have hd : decide ((1048576 : Int) < (s.size : Int)) = true := decide_eq_true (by omega)
    go_enter Try.func9, Try.ntmps9
    go_wp2_with fail
    go_ret
    exact ⟨rfl, Below.refl _ _⟩
  have hd : decide ((1048576 : Int) < (s.size : Int)) = false := decide_eq_false (by omega)
  go_enter Try.func9, Try.ntmps9
  go_wp2_with fail
  refine (spec_TextVal _ _).mono ?_
  rintro _ w1 ⟨rfl, b1⟩
  have K1 := Lib.hid (box5_new w1 (.int .i64 7) (.int .i64 0) (.int .i64 0) (.string s) (.slice none 0 0) 49)
  have t1 := nx b1 (vbelow1 w1 (.cells #[.int .i64 7, .int .i64 0, .int .i64 0, .string s, .slice none 0 0] 49))
  go_wp2_with fail
  refine (impl_TextVal _ _).mono ?_
  rintro _ w2 ⟨rfl, b2⟩
  have t2 := nx (nx t1 b2) (vbelow1 w2 (.cells #[.int .i64 7, .int .i64 0, .int .i64 0, .string s, .slice none 0 0] 49))
  have K2 := Lib.hid (box5_kept (nx b2 (vbelow1 w2 (.cells #[.int .i64 7, .int .i64 0, .int .i64 0, .string s, .slice none 0 0] 49))) K1.out); clear K1
  have L2 := Lib.hid (box5_new w2 (.int .i64 7) (.int .i64 0) (.int .i64 0) (.string s) (.slice none 0 0) 49)
  obtain ⟨k0, k1, k2, k3, k4⟩ := K2.out
  obtain ⟨l0, l1, l2, l3, l4⟩ := L2.out
  go_wp2_with fail
  refine (eq_leaf _ _ _ _ _).mono ?_
  rintro _ w3 ⟨rfl, b3⟩
  have t3 := nx t2 b3
  have K3 := Lib.hid (box5_kept b3 K2.out); clear K2
  have L3 := Lib.hid (box5_kept b3 L2.out); clear L2 k0 k1 k2 k3 k4 l0 l1 l2 l3 l4
  obtain ⟨l0, l1, l2, l3, l4⟩ := L3.out
  go_wp2_with fail
  refine (mark_leaf _ _ _ _ _ _).mono ?_
  rintro _ w4 ⟨rfl, b4⟩
  have t4 := nx t3 b4
  have K4 := Lib.hid (box5_kept b4 K3.out); clear K3
  have L4 := Lib.hid (box5_kept b4 L3.out); clear L3 l0 l1 l2 l3 l4
  obtain ⟨l0, l1, l2, l3, l4⟩ := L4.out
  go_wp2_with fail
  refine (held_leaf _ _ _ _ _ _ (by decide)).mono ?_
  rintro _ w5 ⟨rfl, b5⟩
  have t5 := nx t4 b5
  have K5 := Lib.hid (box5_kept b5 K4.out); clear K4
  have L5 := Lib.hid (box5_kept b5 L4.out); clear L4 l0 l1 l2 l3 l4
  go_wp2_with fail
  refine (impl_TextVal _ _).mono ?_
  rintro _ w6 ⟨rfl, b6⟩
  have t6 := nx (nx t5 b6) (vbelow1 w6 (.cells #[.int .i64 7, .int .i64 0, .int .i64 0, .string s, .slice none 0 0] 49))
  have K6 := Lib.hid (box5_kept (nx b6 (vbelow1 w6 (.cells #[.int .i64 7, .int .i64 0, .int .i64 0, .string s, .slice none 0 0] 49))) K5.out); clear K5
  have L6 := Lib.hid (box5_kept (nx b6 (vbelow1 w6 (.cells #[.int .i64 7, .int .i64 0, .int .i64 0, .string s, .slice none 0 0] 49))) L5.out); clear L5
  have M6 := Lib.hid (box5_new w6 (.int .i64 7) (.int .i64 0) (.int .i64 0) (.string s) (.slice none 0 0) 49)
  obtain ⟨k0, k1, k2, k3, k4⟩ := K6.out
  obtain ⟨m0, m1, m2, m3, m4⟩ := M6.out
  go_wp2_with fail
  refine (eq_leaf _ _ _ _ _).mono ?_
  rintro _ w7 ⟨rfl, b7⟩
  have t7 := nx t6 b7
  have L7 := Lib.hid (box5_kept b7 L6.out); clear L6 K6 M6 k0 k1 k2 k3 k4 m0 m1 m2 m3 m4
  obtain ⟨l0, l1, l2, l3, l4⟩ := L7.out
  go_wp2_with fail
  refine (held_leaf _ _ _ _ _ _ (by decide)).mono ?_
  rintro _ w8 ⟨rfl, b8⟩
  have t8 := nx t7 b8
  go_wp2_with fail
  go_ret
  exact ⟨rfl, t8⟩
namespace fnExactTextVal
theorem walk : LawWalk 9 Try.f9 := by
  intro H enc W base args ds p hval0 hA0
  have hval : ∀ (j : Nat) t v, Try.f9.params[j]? = some t → args[j]? = some v → Value.okWide Try.prog W .any base t v := hval0
  have hA : DataW.TrodAll enc Try.prog W 0 (fun _ => true) true Try.f9.params.toList args.toList ds p := hA0
  clear hval0 hA0
  rw [Try.params9] at hA hval
  obtain ⟨v0, vs0, d0, ds0, p0, q0, hargs, rfl, rfl, h0, r0⟩ := trodAll_cons hA
  obtain ⟨rfl, rfl, rfl⟩ := trodAll_nil r0
  obtain rfl : args = #[v0] := by cases args; simp_all
  obtain ⟨a0, rfl, rfl, rfl, w0⟩ := open_string Try.underlying9 (hval 0 9 v0 rfl rfl) h0
  exact textVal_law a0 W w0
set_option maxRecDepth 100000 in
theorem lifted (os : Os) (started : os.Started) (H : Type) (enc : TypeId × Value → H) :
    ReturnsInHanded {} Try.checked os 9 .any (Rows.fnExactTextValSpec.pre6 enc Try.prog Try.f9 [] false) (Rows.fnExactTextValSpec.post enc Try.prog Try.f9 false true false false) :=
  law_lifted 9 Try.f9 Rows.fnExactTextValSpec os started H enc (by kernel_rfl) Try.func9 rfl rfl (by kernel_rfl)
    (fun ds h => by match ds, h with | [_], _ => rfl)
    (ChangeSpec.witness6 (enc := enc) (C := Try.checked) false ⟨#[], #[.string ByteArray.empty], []⟩ 8 (by kernel_rfl) (by kernel_rfl) (by kernel_rfl) (by kernel_rfl)) walk
theorem proved : Rows.FnExactTextValSaid :=
  OpenClaim.holds_of_wide 9 Try.f9 rfl rfl rfl rfl rfl rfl rfl ⟨rfl, rfl, rfl, rfl, rfl⟩ rfl rfl rfl rfl rfl (by kernel_rfl) Try.func9 (by kernel_rfl)
    (of_decide_eq_true (by kernel_rfl)) (by unfold Func.isWrapper; first | (rw [if_pos (by decide +kernel)]; kernel_rfl) | (rw [if_neg (by decide +kernel)]; exact ⟨rfl, rfl⟩))
    (fun os started H enc _ => lifted os started H enc)
#print axioms proved
end fnExactTextVal

end Go.Proofs.Yteihnonhfaidoaa
