/- FnExactGetRune: both read the same character, for every slice of bytes and every place. -/
import Derived.Test.YteihnonhfaidoaaDoorCGetRune3
namespace Go.Proofs.YteihnonhfaidoaaDoor
open Go.Deep Go.ChangeShapes Go.WideShapes Go.ChangeAt Go.RowKit
open Go.ChangeMaps (open_string shut_string)

set_option maxHeartbeats 4000000 in
theorem getRune_law (a0 : Option Addr) (cap0 : Nat) (zs : List Int) (n : Int) (w : World) (hL : Laid w) (hr0 : Rd w .u8 a0 zs) (hz : ∀ n ∈ zs, (Lit.int .u8 n).wf = true) (_hcap0 : zs.length ≤ cap0) (_hm0 : cap0 ≤ maxLen) (hn : (Lit.int .i64 n).wf = true) :
    Calls Tryd.prog 4 #[.slice a0 zs.length cap0, .int .i64 n] w fun e w' => e = .returned (.bool true) ∧ Below w.heap.size w w' := by
  by_cases hbig : 1048576 < zs.length
  · have hd : decide ((1048576 : Int) < (zs.length : Int)) = true := decide_eq_true (by omega)
    have hmx : zs.length ≤ 9223372036854775807 := by unfold maxLen at _hm0; omega
    clear hr0 hz hL hn
    go_enter Tryd.func4, Tryd.ntmps4
    go_wp2_with fail
    go_ret
    exact ⟨rfl, Below.refl _ _⟩
  have hd : decide ((1048576 : Int) < (zs.length : Int)) = false := decide_eq_false (by omega)
  have hlen : zs.length ≤ 1048576 := by omega
  obtain ⟨l, hl⟩ := bz_of zs hz
  have hll : zs.length = l.length := by rw [hl, bz_length]
  have HS := Lib.hid (fun a cap w1 (h : Rd w1 .u8 a zs) => getRune_spec zs a cap n w1 h hz hlen)
  have HI := Lib.hid (fun a (cap : Nat) w1 (h : Rd w1 .u8 a zs) (hc : zs.length ≤ cap) (hb : Below w.heap.size w w1) => by
    have := getRune_impl l a cap n w1 (by rw [← hl]; exact h) (by omega) (by omega) (hL.kept hb) (wf64 hn)
    rw [← hl, ← hll] at this
    exact this)
  clear hz hbig hL hn hl hll
  have HR := Lib.hid hr0; clear hr0
  obtain ⟨R, hR⟩ : ∃ R, getV zs n = R := ⟨_, rfl⟩
  rw [hR] at HS HI
  obtain ⟨R1, R2, R3⟩ := R
  clear hR
  go_enter Tryd.func4, Tryd.ntmps4
  go_wp2_with fail
  refine (toByteS_c _ _ _ _ HR.out hlen).mono ?_
  rintro _ w1 ⟨v1, rfl, o1, b1⟩
  obtain ⟨a1, cap1, rfl, -, r1, c1, -⟩ := own_rd o1
  have RR1 := Lib.hid r1; clear r1 o1
  go_wp2_with fail
  refine (HS.out _ _ _ RR1.out).mono ?_
  rintro _ _ ⟨rfl, rfl⟩
  go_wp2_with fail
  refine (toByteS_c _ _ _ _ (rd_kept b1 HR.out) hlen).mono ?_
  rintro _ w3 ⟨vx, rfl, ox, b3⟩
  have t3 := nx b1 b3
  obtain ⟨ax, capx, rfl, -, rx, cx, -⟩ := own_rd ox
  have RX := Lib.hid rx; clear rx ox
  go_wp2_with fail
  refine (HI.out _ _ _ RX.out cx t3).mono ?_
  rintro _ w4 ⟨rfl, b4⟩
  have t4 := nx t3 b4
  have g1 : (R1 != R1) = false := by simp
  have g2 : (R2 != R2) = false := by simp
  have g3 : (R3 != R3) = false := by simp
  go_wp2_with fail
  refine (toByteS_c _ _ _ _ (rd_kept t4 HR.out) hlen).mono ?_
  rintro _ w5 ⟨vy, rfl, oy, b5⟩
  have t5 := nx t4 b5
  obtain ⟨ay, capy, rfl, -, ry, cy, -⟩ := own_rd oy
  have RY := Lib.hid ry; clear ry oy
  have RX5 := Lib.hid (rd_kept (nx b4 b5) RX.out)
  go_wp2_with fail
  refine (eqByteS_c _ _ _ _ _ _ _ RX5.out RY.out (by omega) (by omega)).mono ?_
  rintro _ _ ⟨rfl, q1, rfl⟩
  go_wp2_with fail
  go_ret
  exact ⟨rfl, ⟨t5.os, t5.tape, t5.output, t5.size, t5.block⟩⟩
namespace fnExactGetRune
set_option maxRecDepth 100000 in
theorem walk : LawWalkL 4 Tryd.f4 := by
  intro H enc W base args ds p hval0 hA0 hL
  have hval : ∀ (j : Nat) t v, Tryd.f4.params[j]? = some t → args[j]? = some v → Value.okWide Tryd.prog W .any base t v := hval0
  have hA : DataW.TrodAll enc Tryd.prog W 0 (fun _ => true) true Tryd.f4.params.toList args.toList ds p := hA0
  clear hval0 hA0
  rw [Tryd.params4] at hA hval
  obtain ⟨v0, vs0, d0, ds0, p0, q0, hargs, rfl, rfl, h0, r0⟩ := trodAll_cons hA
  obtain ⟨v1, vs1, d1, ds1, p1, q1, rfl, rfl, rfl, h1, r1⟩ := trodAll_cons r0
  obtain ⟨rfl, rfl, rfl⟩ := trodAll_nil r1
  obtain rfl : args = #[v0, v1] := by cases args; simp_all
  obtain ⟨a0, len0, cap0, rfl⟩ := okWide_slice Tryd.underlying23 (hval 0 23 v0 rfl rfl)
  obtain ⟨z0, rfl, w0, x0, y0, m0⟩ := open_ints_rd Tryd.underlying23 Tryd.underlying5 (by kernel_rfl) h0
  obtain ⟨a1, rfl, rfl, rfl, w1⟩ := open_int Tryd.underlying3 (hval 1 3 v1 rfl rfl) h1
  exact getRune_law a0 cap0 z0 a1 W hL w0 x0 y0 m0 w1
theorem laid_met (os : Os) : laidMet Tryd.prog Rows.fnExactGetRuneRow.laid ((laidWorld os).forCall (fun _ _ => 0) ⟨#[], #[.slice none 0 0, .int .i64 0], []⟩).memory :=
  laidMet_of_run' 8 (by kernel_rfl) (by kernel_rfl)
theorem reads (os : Os) {H : Type} (enc : TypeId × Value → H) : ∃ places, DataW.whole enc Tryd.prog ((laidWorld os).forCall (fun _ _ => 0) ⟨#[], #[.slice none 0 0, .int .i64 0], []⟩).memory Tryd.f4.params.toList Rows.fnExactGetRuneSpec.vars false (#[Value.slice none 0 0, Value.int .i64 0] : Array Value).toList 8 = some ([.nil, .lit (.int .i64 0)], [], places) :=
  ⟨[], by kernel_rfl⟩
set_option maxRecDepth 100000 in
theorem lifted (os : Os) (started : os.Started) (H : Type) (enc : TypeId × Value → H) (F : Stop.Interp) :
    ReturnsInHanded {} Tryd.checked os 4 .any ((OpenSpec.ofChange Rows.fnExactGetRuneSpec).preRow enc Tryd.prog Tryd.f4 Rows.fnExactGetRuneRow.domain false Rows.fnExactGetRuneRow.laid) (((OpenSpec.ofChange Rows.fnExactGetRuneSpec).at F).post enc Tryd.prog Tryd.f4 false true false false) := by
  obtain ⟨places, hx⟩ := reads os enc
  refine returnsInHanded_of_row (C := Tryd.checked) (s := OpenSpec.ofChange Rows.fnExactGetRuneSpec) own started (by kernel_rfl) Tryd.func4
    (witness_row_at (enc := enc) (C := Tryd.checked) false (laidWorld os) #[.slice none 0 0, .int .i64 0] rfl (by kernel_rfl) (by kernel_rfl) (by kernel_rfl)
      (OpenSpec.preRow_of_cond 8 hx (by kernel_rfl) (fun k hk => by cases hk) (by kernel_rfl) (laid_met os))) ?_
  intro W base args ds gs before hval hW _ _ _ hL _ _
  exact law_contract 4 Tryd.f4 Rows.fnExactGetRuneSpec H enc rfl rfl (by kernel_rfl) (fun ds h => by match ds, h with | [_, _], _ => rfl) walk W base args ds gs before hval hW (laid_of hL (by simp [Rows.fnExactGetRuneRow]))
theorem said : Rows.FnExactGetRuneSaid :=
  OpenClaim.holds_of_cond 4 Tryd.f4 rfl rfl rfl rfl rfl rfl rfl ⟨rfl, rfl, rfl, rfl, rfl⟩ rfl rfl rfl rfl rfl (by kernel_rfl) Tryd.func4 (by kernel_rfl)
    (of_decide_eq_true (by kernel_rfl)) (by unfold Func.isWrapper; first | (rw [if_pos (by decide +kernel)]; kernel_rfl) | (rw [if_neg (by decide +kernel)]; exact ⟨rfl, rfl⟩))
    (fun os started H enc _ F => by rw [OpenClaim.pre_eq_preRow]; exact lifted os started H enc F)
theorem plain (f : FuncId) (fn : Func) (hf : Tryd.pinned.checked.prog.funcNamed "loop.example/g00502/laws.FnExactGetRune" = some f) (hfn : Tryd.pinned.checked.prog.funcs[f]? = some fn) :
    false = Tryd.pinned.checked.prog.looks [] ∧ ∀ (j : Nat) t, fn.params[j]? = some t → Tryd.pinned.checked.prog.wantsStandIn t = false := by
  obtain rfl : f = 4 := Option.some.inj ((show Tryd.prog.funcNamed "loop.example/g00502/laws.FnExactGetRune" = some 4 by kernel_rfl).symm.trans hf) |>.symm
  obtain rfl : fn = Tryd.f4 := (Option.some.inj (Tryd.func4.symm.trans hfn)).symm
  refine ⟨by kernel_rfl, fun j t ht => ?_⟩
  have hall : Tryd.f4.params.toList.all (fun t => !Tryd.pinned.checked.prog.wantsStandIn t) = true := by kernel_rfl
  have hm := List.all_eq_true.1 hall t (by simpa using Array.mem_of_getElem? ht)
  simpa using hm
theorem proved : Rows.FnExactGetRuneCardSaid :=
  Claim7.holds_tied_plain_at .later [] _ _ _ _ said (fun _ h => by cases h) (by kernel_rfl) (fun _ h => by cases h) fnExactGetRune_row_tie rfl ⟨rfl, rfl⟩ (by kernel_rfl) rfl plain (by kernel_rfl)
#print axioms proved
end fnExactGetRune
end Go.Proofs.YteihnonhfaidoaaDoor
