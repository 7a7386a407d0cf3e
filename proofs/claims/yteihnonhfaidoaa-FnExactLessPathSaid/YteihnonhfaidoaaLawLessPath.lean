/- FnExactLessPath: the program's LessPath answers what the reference's answers, for all arguments. -/
import Derived.Test.YteihnonhfaidoaaStepLess
namespace Go.Proofs.Yteihnonhfaidoaa
open Go.Deep Go.ChangeShapes Go.WideShapes Go.ChangeAt Go.RowKit Go.Joins
open Go.ChangeMaps (open_string shut_string)

theorem StSl.form {w : World} {u : Value} {l : List (Int × Bool)} (h : StSl w u l) : ∃ a cap, u = .slice a l.length cap ∧ l.length ≤ 9223372036854775807 := by
  obtain ⟨a, cap, _, _, rfl, h1, h2, _⟩ := h
  unfold maxLen at h2
  exact ⟨_, _, rfl, by omega⟩

set_option maxHeartbeats 2000000 in
theorem lessPath_law (l : List (Int × Bool)) (u : Value) (m : List (Int × Bool)) (u' : Value) (w : World) (hu : StSl w u l) (hu' : StSl w u' m) :
    Calls Try.prog 4 #[u, u'] w fun e w' => e = .returned (.bool true) ∧ Below w.heap.size w w' := by
  obtain ⟨a, cap, rfl, hl⟩ := hu.form
  obtain ⟨a', cap', rfl, hm⟩ := hu'.form
  have HU := Lib.hid hu; have HU' := Lib.hid hu'
  clear hu hu'
  by_cases h1 : (l.length : Int) ≤ 1048576
  · by_cases h2 : (m.length : Int) ≤ 1048576 - l.length
    · have e1 : (if (l.length : Int) ≤ 1048576 then 1048576 - (l.length : Int) else -1) = 1048576 - l.length := if_pos h1
      have e2 : (if (m.length : Int) ≤ 1048576 - l.length then 1048576 - l.length - (m.length : Int) else -1) = 1048576 - l.length - m.length := if_pos h2
      have d1 : decide ((1048576 : Int) - l.length < 0) = false := decide_eq_false (by omega)
      have d2 : decide ((1048576 : Int) - l.length - m.length < 0) = false := decide_eq_false (by omega)
      have E1 := Lib.hid e1; have E2 := Lib.hid e2
      clear e1 e2
      go_enter Try.func4, Try.ntmps4
      go_wp2_with fail
      refine (szStepS_c _ _ _ _ _ (by omega) (by omega) hl).mono ?_
      rintro _ _ ⟨rfl, rfl⟩
      rw [E1.out]
      go_wp2_with fail
      refine (szStepS_c _ _ _ _ _ (by omega) (by omega) hm).mono ?_
      rintro _ _ ⟨rfl, rfl⟩
      rw [E2.out]
      have hne : (lessPathF l m != lessPathF l m) = false := by simp
      go_wp2_with fail
      refine (toStepS_c _ _ _ HU.out (by omega)).mono ?_
      rintro _ w1 ⟨v1, rfl, s1, b1⟩
      have S1 := Lib.hid s1; clear s1
      go_wp2_with fail
      refine (toStepS_c _ _ _ (HU'.out.kept b1) (by omega)).mono ?_
      rintro _ w2 ⟨v2, rfl, s2, b2⟩
      have S2 := Lib.hid s2; clear s2
      have t2 := nx b1 b2
      go_wp2_with fail
      refine (lessPath_spec l m _ _ _ (S1.out.kept b2) S2.out).mono ?_
      rintro _ w3 ⟨rfl, b3⟩
      have t3 := nx t2 b3
      go_wp2_with fail
      refine (toStepS_c _ _ _ (HU.out.kept t3) (by omega)).mono ?_
      rintro _ w4 ⟨v4, rfl, s4, b4⟩
      have S4 := Lib.hid s4; clear s4
      have t4 := nx t3 b4
      go_wp2_with fail
      refine (toStepS_c _ _ _ (HU'.out.kept t4) (by omega)).mono ?_
      rintro _ w5 ⟨v5, rfl, s5, b5⟩
      have S5 := Lib.hid s5; clear s5
      have t5 := nx t4 b5
      go_wp2_with fail
      refine (lessPath_impl l m _ _ _ (S4.out.kept b5) S5.out).mono ?_
      rintro _ w6 ⟨rfl, b6⟩
      have t6 := nx t5 b6
      generalize lessPathF l m = R at *
      go_wp2_with fail
      refine (toStepS_c _ _ _ (HU.out.kept t6) (by omega)).mono ?_
      rintro _ w7 ⟨v7, rfl, s7, b7⟩
      have S7 := Lib.hid s7; clear s7
      have t7 := nx t6 b7
      go_wp2_with fail
      refine (eqStepS_c l _ _ _ (S4.out.kept (nx (nx b5 b6) b7)) S7.out).mono ?_
      rintro _ w8 ⟨rfl, b8⟩
      have t8 := nx t7 b8
      go_wp2_with fail
      refine (toStepS_c _ _ _ (HU'.out.kept t8) (by omega)).mono ?_
      rintro _ w9 ⟨v9, rfl, s9, b9⟩
      have S9 := Lib.hid s9; clear s9
      have t9 := nx t8 b9
      go_wp2_with fail
      refine (eqStepS_c m _ _ _ (S5.out.kept (nx (nx (nx b6 b7) b8) b9)) S9.out).mono ?_
      rintro _ w10 ⟨rfl, b10⟩
      have t10 := nx t9 b10
      go_wp2_with fail
      go_ret
      exact ⟨rfl, t10⟩
    · have e1 : (if (l.length : Int) ≤ 1048576 then 1048576 - (l.length : Int) else -1) = 1048576 - l.length := if_pos h1
      have e2 : (if (m.length : Int) ≤ 1048576 - l.length then 1048576 - l.length - (m.length : Int) else -1) = -1 := if_neg h2
      have d1 : decide ((1048576 : Int) - l.length < 0) = false := decide_eq_false (by omega)
      have E1 := Lib.hid e1; have E2 := Lib.hid e2
      clear e1 e2
      go_enter Try.func4, Try.ntmps4
      go_wp2_with fail
      refine (szStepS_c _ _ _ _ _ (by omega) (by omega) hl).mono ?_
      rintro _ _ ⟨rfl, rfl⟩
      rw [E1.out]
      go_wp2_with fail
      refine (szStepS_c _ _ _ _ _ (by omega) (by omega) hm).mono ?_
      rintro _ _ ⟨rfl, rfl⟩
      rw [E2.out]
      go_wp2_with fail
      go_ret
      exact ⟨rfl, Below.refl _ _⟩
  · have e1 : (if (l.length : Int) ≤ 1048576 then 1048576 - (l.length : Int) else -1) = -1 := if_neg h1
    have E1 := Lib.hid e1
    clear e1
    go_enter Try.func4, Try.ntmps4
    go_wp2_with fail
    refine (szStepS_c _ _ _ _ _ (by omega) (by omega) hl).mono ?_
    rintro _ _ ⟨rfl, rfl⟩
    rw [E1.out]
    go_wp2_with fail
    go_ret
    exact ⟨rfl, Below.refl _ _⟩
namespace fnExactLessPath
theorem walk : LawWalk 4 Try.f4 := by
  intro H enc W base args ds p hval0 hA0
  have hval : ∀ (j : Nat) t v, Try.f4.params[j]? = some t → args[j]? = some v → Value.okWide Try.prog W .any base t v := hval0
  have hA : DataW.TrodAll enc Try.prog W 0 (fun _ => true) true Try.f4.params.toList args.toList ds p := hA0
  clear hval0 hA0
  rw [Try.params4] at hA hval
  obtain ⟨v0, vs0, d0, ds0, p0, q0, hargs, rfl, rfl, h0, r0⟩ := trodAll_cons hA
  obtain ⟨v1, vs1, d1, ds1, p1, q1, rfl, rfl, rfl, h1, r1⟩ := trodAll_cons r0
  obtain ⟨rfl, rfl, rfl⟩ := trodAll_nil r1
  obtain rfl : args = #[v0, v1] := by cases args; simp_all
  obtain ⟨a0, len0, cap0, rfl⟩ := okWide_slice Try.underlying28 (hval 0 28 v0 rfl rfl)
  obtain ⟨t0, w0⟩ := open_steps Try.underlying69 (by kernel_rfl) (by kernel_rfl) Try.underlying3 Try.underlying4 Try.underlying28 rfl h0
  obtain ⟨a1, len1, cap1, rfl⟩ := okWide_slice Try.underlying28 (hval 1 28 v1 rfl rfl)
  obtain ⟨t1, w1⟩ := open_steps Try.underlying69 (by kernel_rfl) (by kernel_rfl) Try.underlying3 Try.underlying4 Try.underlying28 rfl h1
  exact lessPath_law t0 _ t1 _ W w0 w1
set_option maxRecDepth 100000 in
theorem lifted (os : Os) (started : os.Started) (H : Type) (enc : TypeId × Value → H) :
    ReturnsInHanded {} Try.checked os 4 .any (Rows.fnExactLessPathSpec.pre6 enc Try.prog Try.f4 [] false) (Rows.fnExactLessPathSpec.post enc Try.prog Try.f4 false true false false) :=
  law_lifted 4 Try.f4 Rows.fnExactLessPathSpec os started H enc (by kernel_rfl) Try.func4 rfl rfl (by kernel_rfl)
    (fun ds h => by match ds, h with | [_, _], _ => rfl)
    (ChangeSpec.witness6 (enc := enc) (C := Try.checked) false ⟨#[], #[.slice none 0 0, .slice none 0 0], []⟩ 8 (by kernel_rfl) (by kernel_rfl) (by kernel_rfl) (by kernel_rfl)) walk
theorem proved : Rows.FnExactLessPathSaid :=
  OpenClaim.holds_of_wide 4 Try.f4 rfl rfl rfl rfl rfl rfl rfl ⟨rfl, rfl, rfl, rfl, rfl⟩ rfl rfl rfl rfl rfl (by kernel_rfl) Try.func4 (by kernel_rfl)
    (of_decide_eq_true (by kernel_rfl)) (by unfold Func.isWrapper; first | (rw [if_pos (by decide +kernel)]; kernel_rfl) | (rw [if_neg (by decide +kernel)]; exact ⟨rfl, rfl⟩))
    (fun os started H enc _ => lifted os started H enc)
#print axioms proved
end fnExactLessPath
end Go.Proofs.Yteihnonhfaidoaa
