/- FnExactFromRunes: both write the same text. -/
import Derived.Test.YteihnonhfaidoaaCFromRunes
import Derived.Test.YteihnonhfaidoaaCBytes
namespace Go.Proofs.Yteihnonhfaidoaa
open Go.Deep Go.ChangeShapes Go.WideShapes Go.ChangeAt Go.RowKit
open Go.ChangeMaps (open_string shut_string)


set_option maxHeartbeats 2000000 in
theorem fromRunes_law (a0 : Option Addr) (cap0 : Nat) (zs : List Int) (w : World) (hr0 : Rd w .i64 a0 zs) (_hw0 : ∀ n ∈ zs, (Lit.int .i64 n).wf = true) (_hcap0 : zs.length ≤ cap0) (_hm0 : cap0 ≤ maxLen) :
    Calls Try.prog 7 #[.slice a0 zs.length cap0] w fun e w' => e = .returned (.bool true) ∧ Below w.heap.size w w' := by
  unfold maxLen at _hm0
  have HR := Lib.hid hr0; clear hr0 _hw0
  by_cases hbig : 1048576 < zs.length
  · have hd : decide ((1048576 : Int) < (zs.length : Int)) = true := decide_eq_true (by omega)
    go_enter Try.func7, Try.ntmps7
    go_wp2_with fail
    go_ret
    exact ⟨rfl, Below.refl _ _⟩
  · have hd : decide ((1048576 : Int) < (zs.length : Int)) = false := decide_eq_false (by omega)
    have hlen : zs.length ≤ 1048576 := by omega
    go_enter Try.func7, Try.ntmps7
    go_wp2_with fail
    refine (toIntS_c _ _ _ _ HR.out hlen).mono ?_
    rintro _ w1 ⟨v1, rfl, o1, b1⟩
    obtain ⟨a1, cap1, rfl, -, r1, c1, -⟩ := own_rd o1
    have R1 := Lib.hid r1; clear r1 o1
    go_wp2_with fail
    refine (fromRunes_spec _ _ _ _ R1.out hlen).mono ?_
    rintro _ w2 ⟨rfl, b2⟩
    have t2 := nx b1 b2
    go_wp2_with fail
    refine (toIntS_c _ _ _ _ (rd_kept t2 HR.out) hlen).mono ?_
    rintro _ w3 ⟨v3, rfl, o3, b3⟩
    have t3 := nx t2 b3
    obtain ⟨a3, cap3, rfl, -, r3, c3, -⟩ := own_rd o3
    have R3 := Lib.hid r3; clear r3 o3
    go_wp2_with fail
    refine (fromRunes_impl _ _ _ _ R3.out hlen).mono ?_
    rintro _ w4 ⟨rfl, b4⟩
    have t4 := nx t3 b4
    generalize encS zs = res at *
    go_wp2_with fail
    refine (toIntS_c _ _ _ _ (rd_kept t4 HR.out) hlen).mono ?_
    rintro _ w5 ⟨v5, rfl, o5, b5⟩
    have t5 := nx t4 b5
    obtain ⟨a5, cap5, rfl, -, r5, c5, -⟩ := own_rd o5
    have R5 := Lib.hid r5; clear r5 o5
    have R35 := Lib.hid (rd_kept (nx b4 b5) R3.out)
    go_wp2_with fail
    refine (eqIntS_c _ _ _ _ _ _ _ R35.out R5.out (by omega) (by omega)).mono ?_
    rintro _ _ ⟨rfl, q, rfl⟩
    go_wp2_with fail
    go_ret
    exact ⟨rfl, below_drewN t5 _⟩
namespace fnExactFromRunes
theorem walk : LawWalk 7 Try.f7 := by
  intro H enc W base args ds p hval0 hA0
  have hval : ∀ (j : Nat) t v, Try.f7.params[j]? = some t → args[j]? = some v → Value.okWide Try.prog W .any base t v := hval0
  have hA : DataW.TrodAll enc Try.prog W 0 (fun _ => true) true Try.f7.params.toList args.toList ds p := hA0
  clear hval0 hA0
  rw [Try.params7] at hA hval
  obtain ⟨v0, vs0, d0, ds0, p0, q0, hargs, rfl, rfl, h0, r0⟩ := trodAll_cons hA
  obtain ⟨rfl, rfl, rfl⟩ := trodAll_nil r0
  obtain rfl : args = #[v0] := by cases args; simp_all
  obtain ⟨a0, len0, cap0, rfl⟩ := okWide_slice Try.underlying42 (hval 0 42 v0 rfl rfl)
  obtain ⟨z0, rfl, w0, x0, y0, m0⟩ := open_ints_rd Try.underlying42 Try.underlying3 (by kernel_rfl) h0
  exact fromRunes_law a0 cap0 z0 W w0 x0 y0 m0
set_option maxRecDepth 100000 in
theorem lifted (os : Os) (started : os.Started) (H : Type) (enc : TypeId × Value → H) :
    ReturnsInHanded {} Try.checked os 7 .any (Rows.fnExactFromRunesSpec.pre6 enc Try.prog Try.f7 [] false) (Rows.fnExactFromRunesSpec.post enc Try.prog Try.f7 false true false false) :=
  law_lifted 7 Try.f7 Rows.fnExactFromRunesSpec os started H enc (by kernel_rfl) Try.func7 rfl rfl (by kernel_rfl)
    (fun ds h => by match ds, h with | [_], _ => rfl)
    (ChangeSpec.witness6 (enc := enc) (C := Try.checked) false ⟨#[], #[.slice none 0 0], []⟩ 8 (by kernel_rfl) (by kernel_rfl) (by kernel_rfl) (by kernel_rfl)) walk
theorem proved : Rows.FnExactFromRunesSaid :=
  OpenClaim.holds_of_wide 7 Try.f7 rfl rfl rfl rfl rfl rfl rfl ⟨rfl, rfl, rfl, rfl, rfl⟩ rfl rfl rfl rfl rfl (by kernel_rfl) Try.func7 (by kernel_rfl)
    (of_decide_eq_true (by kernel_rfl)) (by unfold Func.isWrapper; first | (rw [if_pos (by decide +kernel)]; kernel_rfl) | (rw [if_neg (by decide +kernel)]; exact ⟨rfl, rfl⟩))
    (fun os started H enc _ => lifted os started H enc)
#print axioms proved
end fnExactFromRunes

end Go.Proofs.Yteihnonhfaidoaa
