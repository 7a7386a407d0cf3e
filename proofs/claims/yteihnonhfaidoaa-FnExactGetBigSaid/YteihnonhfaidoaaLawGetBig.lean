/- FnExactGetBig: both read the same number. -/
import Derived.Test.YteihnonhfaidoaaCGetBig
import Derived.Test.YteihnonhfaidoaaBLaw
namespace Go.Proofs.Yteihnonhfaidoaa
open Go.Deep Go.ChangeShapes Go.WideShapes Go.ChangeAt Go.RowKit
open Go.ChangeMaps (open_string shut_string)


set_option maxHeartbeats 4000000 in
theorem getBig_law (a0 : Option Addr) (cap0 : Nat) (zs : List Int) (n k : Int) (w : World) (hr0 : Rd w .u8 a0 zs) (hz : ∀ n ∈ zs, (Lit.int .u8 n).wf = true) (_hcap0 : zs.length ≤ cap0) (_hm0 : cap0 ≤ maxLen) (_hn : (Lit.int .i64 n).wf = true) (_hk : (Lit.int .i64 k).wf = true) :
    Calls Try.prog 3 #[.slice a0 zs.length cap0, .int .i64 n, .int .i64 k] w fun e w' => e = .returned (.bool true) ∧ Below w.heap.size w w' := by
  by_cases hbig : 1048576 < zs.length
  · have hd : decide ((1048576 : Int) < (zs.length : Int)) = true := decide_eq_true (by omega)
    have hmx : zs.length ≤ 9223372036854775807 := by unfold maxLen at _hm0; omega
    clear hr0 hz
    go_enter Try.func3, Try.ntmps3
    go_wp2_with fail
    go_ret
    exact ⟨rfl, Below.refl _ _⟩
  have hd : decide ((1048576 : Int) < (zs.length : Int)) = false := decide_eq_false (by omega)
  have hlen : zs.length ≤ 1048576 := by omega
  have HZ := Lib.hid hz
  clear hz hbig
  have HR := Lib.hid hr0; clear hr0
  go_enter Try.func3, Try.ntmps3
  go_wp2_with fail
  refine (toByteS_c _ _ _ _ HR.out hlen).mono ?_
  rintro _ w1 ⟨v1, rfl, o1, b1⟩
  obtain ⟨a1, cap1, rfl, -, r1, c1, -⟩ := own_rd o1
  have R1 := Lib.hid r1; clear r1 o1
  go_wp2_with fail
  refine (getBig_spec_c zs _ _ _ _ _ R1.out HZ.out hlen).mono ?_
  rintro _ _ ⟨rfl, rfl⟩
  go_wp2_with fail
  refine (toByteS_c _ _ _ _ (rd_kept b1 HR.out) hlen).mono ?_
  rintro _ w3 ⟨vx, rfl, ox, b3⟩
  have t3 := nx b1 b3
  obtain ⟨ax, capx, rfl, -, rx, cx, -⟩ := own_rd ox
  have RX := Lib.hid rx; clear rx ox
  go_wp2_with fail
  refine (getBig_impl_c zs _ _ _ _ _ RX.out HZ.out hlen cx).mono ?_
  rintro _ _ ⟨rfl, rfl⟩
  have g1 : (gN zs n k != gN zs n k) = false := by simp
  have g2 : (gB zs n k != gB zs n k) = false := by simp
  generalize gN zs n k = G1 at *
  generalize gB zs n k = G2 at *
  go_wp2_with fail
  refine (toByteS_c _ _ _ _ (rd_kept t3 HR.out) hlen).mono ?_
  rintro _ w4 ⟨vy, rfl, oy, b4⟩
  have t4 := nx t3 b4
  obtain ⟨ay, capy, rfl, -, ry, cy, -⟩ := own_rd oy
  have RY := Lib.hid ry; clear ry oy
  have RX4 := Lib.hid (rd_kept b4 RX.out)
  go_wp2_with fail
  refine (eqByteS_c _ _ _ _ _ _ _ RX4.out RY.out (by omega) (by omega)).mono ?_
  rintro _ _ ⟨rfl, q1, rfl⟩
  go_wp2_with fail
  go_ret
  exact ⟨rfl, ⟨t4.os, t4.tape, t4.output, t4.size, t4.block⟩⟩

namespace fnExactGetBig
theorem walk : LawWalk 3 Try.f3 := by
  intro H enc W base args ds p hval0 hA0
  have hval : ∀ (j : Nat) t v, Try.f3.params[j]? = some t → args[j]? = some v → Value.okWide Try.prog W .any base t v := hval0
  have hA : DataW.TrodAll enc Try.prog W 0 (fun _ => true) true Try.f3.params.toList args.toList ds p := hA0
  clear hval0 hA0
  rw [Try.params3] at hA hval
  obtain ⟨v0, vs0, d0, ds0, p0, q0, hargs, rfl, rfl, h0, r0⟩ := trodAll_cons hA
  obtain ⟨v1, vs1, d1, ds1, p1, q1, rfl, rfl, rfl, h1, r1⟩ := trodAll_cons r0
  obtain ⟨v2, vs2, d2, ds2, p2, q2, rfl, rfl, rfl, h2, r2⟩ := trodAll_cons r1
  obtain ⟨rfl, rfl, rfl⟩ := trodAll_nil r2
  obtain rfl : args = #[v0, v1, v2] := by cases args; simp_all
  obtain ⟨a0, len0, cap0, rfl⟩ := okWide_slice Try.underlying22 (hval 0 22 v0 rfl rfl)
  obtain ⟨z0, rfl, w0, x0, y0, m0⟩ := open_ints_rd Try.underlying22 Try.underlying5 (by kernel_rfl) h0
  obtain ⟨a1, rfl, rfl, rfl, w1⟩ := open_int Try.underlying3 (hval 1 3 v1 rfl rfl) h1
  obtain ⟨a2, rfl, rfl, rfl, w2⟩ := open_int Try.underlying3 (hval 2 3 v2 rfl rfl) h2
  exact getBig_law a0 cap0 z0 a1 a2 W w0 x0 y0 m0 w1 w2
set_option maxRecDepth 100000 in
theorem lifted (os : Os) (started : os.Started) (H : Type) (enc : TypeId × Value → H) :
    ReturnsInHanded {} Try.checked os 3 .any (Rows.fnExactGetBigSpec.pre6 enc Try.prog Try.f3 [] false) (Rows.fnExactGetBigSpec.post enc Try.prog Try.f3 false true false false) :=
  law_lifted 3 Try.f3 Rows.fnExactGetBigSpec os started H enc (by kernel_rfl) Try.func3 rfl rfl (by kernel_rfl)
    (fun ds h => by match ds, h with | [_, _, _], _ => rfl)
    (ChangeSpec.witness6 (enc := enc) (C := Try.checked) false ⟨#[], #[.slice none 0 0, .int .i64 0, .int .i64 0], []⟩ 8 (by kernel_rfl) (by kernel_rfl) (by kernel_rfl) (by kernel_rfl)) walk
theorem proved : Rows.FnExactGetBigSaid :=
  OpenClaim.holds_of_wide 3 Try.f3 rfl rfl rfl rfl rfl rfl rfl ⟨rfl, rfl, rfl, rfl, rfl⟩ rfl rfl rfl rfl rfl (by kernel_rfl) Try.func3 (by kernel_rfl)
    (of_decide_eq_true (by kernel_rfl)) (by unfold Func.isWrapper; first | (rw [if_pos (by decide +kernel)]; kernel_rfl) | (rw [if_neg (by decide +kernel)]; exact ⟨rfl, rfl⟩))
    (fun os started H enc _ => lifted os started H enc)
#print axioms proved
end fnExactGetBig

end Go.Proofs.Yteihnonhfaidoaa
