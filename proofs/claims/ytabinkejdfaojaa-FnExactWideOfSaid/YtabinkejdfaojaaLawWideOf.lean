/- FnExactWideOf: both give the number of bytes of a character. -/
import Derived.Test.YtabinkejdfaojaaCPutRune
namespace Go.Proofs.Ytabinkejdfaojaa
open Go.Deep Go.ChangeShapes Go.WideShapes Go.ChangeAt Go.RowKit
open Go.ChangeMaps (open_string shut_string)


set_option maxHeartbeats 1000000 in
theorem wideOf_impl (n : Int) (w : World) :
    Calls Try.prog 33 #[.int .i64 n] w fun e w' => e = .returned (.int .i64 (wideF n)) ∧ Below w.heap.size w w' := by
  have hl := encZ_len n
  have hp : Calls Try.prog 49 #[.slice none 0 0, .int .i64 n] w fun e w' => ∃ v, e = .returned v ∧ w'.ownsRow w.heap.size 5 1 v (encZ n).length ((encZ n).map (Value.int .u8)) ∧ Below w.heap.size w w' :=
    putRune_impl [] none 0 n w (.inl rfl) (by simp)
  generalize encZ n = zs at *
  have HP := Lib.hid hp; clear hp
  have HL := Lib.hid hl; clear hl
  go_enter Try.func33, Try.ntmps33
  go_wp2_with fail
  refine HP.out.mono ?_
  rintro _ w1 ⟨v, rfl, ho, hb⟩
  obtain ⟨a, cap, rfl, -, -, -, -⟩ := own_rd ho
  clear ho
  go_wp2_with fail
  go_ret
  exact ⟨ret_int HL.out, hb⟩
set_option maxHeartbeats 1000000 in
theorem wideOf_law (n : Int) (w : World) (_hn : (Lit.int .i64 n).wf = true) :
    Calls Try.prog 12 #[.int .i64 n] w fun e w' => e = .returned (.bool true) ∧ Below w.heap.size w w' := by
  go_enter Try.func12, Try.ntmps12
  go_wp2_with fail
  refine (wideOf_spec _ _).mono ?_
  rintro _ _ ⟨rfl, rfl⟩
  go_wp2_with fail
  refine (wideOf_impl _ _).mono ?_
  rintro _ w1 ⟨rfl, b1⟩
  go_wp2_with fail
  go_ret
  exact ⟨rfl, b1⟩
namespace fnExactWideOf
theorem walk : LawWalk 12 Try.f12 := by
  intro H enc W base args ds p hval0 hA0
  have hval : ∀ (j : Nat) t v, Try.f12.params[j]? = some t → args[j]? = some v → Value.okWide Try.prog W .any base t v := hval0
  have hA : DataW.TrodAll enc Try.prog W 0 (fun _ => true) true Try.f12.params.toList args.toList ds p := hA0
  clear hval0 hA0
  rw [Try.params12] at hA hval
  obtain ⟨v0, vs0, d0, ds0, p0, q0, hargs, rfl, rfl, h0, r0⟩ := trodAll_cons hA
  obtain ⟨rfl, rfl, rfl⟩ := trodAll_nil r0
  obtain rfl : args = #[v0] := by cases args; simp_all
  obtain ⟨a0, rfl, rfl, rfl, w0⟩ := open_int Try.underlying3 (hval 0 3 v0 rfl rfl) h0
  exact wideOf_law a0 W w0
set_option maxRecDepth 100000 in
theorem lifted (os : Os) (started : os.Started) (H : Type) (enc : TypeId × Value → H) :
    ReturnsInHanded {} Try.checked os 12 .any (Rows.fnExactWideOfSpec.pre6 enc Try.prog Try.f12 [] false) (Rows.fnExactWideOfSpec.post enc Try.prog Try.f12 false true false false) :=
  law_lifted 12 Try.f12 Rows.fnExactWideOfSpec os started H enc (by kernel_rfl) Try.func12 rfl rfl (by kernel_rfl)
    (fun ds h => by match ds, h with | [_], _ => rfl)
    (ChangeSpec.witness6 (enc := enc) (C := Try.checked) false ⟨#[], #[.int .i64 0], []⟩ 8 (by kernel_rfl) (by kernel_rfl) (by kernel_rfl) (by kernel_rfl)) walk
theorem proved : Rows.FnExactWideOfSaid :=
  OpenClaim.holds_of_wide 12 Try.f12 rfl rfl rfl rfl rfl rfl rfl ⟨rfl, rfl, rfl, rfl, rfl⟩ rfl rfl rfl rfl rfl (by kernel_rfl) Try.func12 (by kernel_rfl)
    (of_decide_eq_true (by kernel_rfl)) (by unfold Func.isWrapper; first | (rw [if_pos (by decide +kernel)]; kernel_rfl) | (rw [if_neg (by decide +kernel)]; exact ⟨rfl, rfl⟩))
    (fun os started H enc _ => lifted os started H enc)
#print axioms proved
end fnExactWideOf

end Go.Proofs.Ytabinkejdfaojaa
