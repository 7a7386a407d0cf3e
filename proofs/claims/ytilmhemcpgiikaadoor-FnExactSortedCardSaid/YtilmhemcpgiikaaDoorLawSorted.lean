/- FnExactSorted: both answer the same of every tree. -/
import Derived.Test.YtilmhemcpgiikaaDoorVSorted
import Derived.Test.YtilmhemcpgiikaaDoorVTo
import Derived.Test.YtilmhemcpgiikaaDoorVLeaf
import Derived.Deep.RegionHeld3
namespace Go.Proofs.YtilmhemcpgiikaaDoor
open Go.Deep Go.ChangeShapes Go.WideShapes Go.ChangeAt Go.RowKit
open Go.ChangeMaps (open_string shut_string)

set_option maxHeartbeats 4000000 in
theorem sorted_law (t : Tree) (u : Value) (w : World) (hL : LaidP w) (hu : TSl w u t.l) (hfit : Fits t.kind t.n t.x t.s) :
    Calls Tryd.prog 4 #[.agg #[.int .i64 t.kind, .int .i64 t.n, .int .i64 t.x, .string t.s, u]] w fun e w' => e = .returned (.bool true) ∧ Below w.heap.size w w' := by
  have LA := Lib.hid hL; clear hL
  obtain ⟨a, n, cap, rfl⟩ := hu.form
  have HU := Lib.hid hu; clear hu
  have t0 := vbelow1 w (.cells #[.int .i64 t.kind, .int .i64 t.n, .int .i64 t.x, .string t.s, .slice a n cap] 24)
  have K0 := Lib.hid (box5_new w (.int .i64 t.kind) (.int .i64 t.n) (.int .i64 t.x) (.string t.s) (.slice a n cap) 24)
  by_cases hbig : 1048576 < (t.cost : Int)
  · have hs : subC 1048576 t.cost = -1 := subC_no (by omega)
    have hs1 : subC 1048576 t.cost < 0 := by omega
    clear hs hbig
    obtain ⟨k0, k1, k2, k3, k4⟩ := K0.out
    go_enter Tryd.func4, Tryd.ntmps4
    go_wp2_with fail
    refine (szVal_c t _ _ _ (by omega) (by omega) (HU.out.kept t0) hfit).mono ?_
    rintro _ w1 ⟨rfl, b1⟩
    go_wp2_with fail
    go_ret
    exact ⟨rfl, vnx t0 b1⟩
  have hcost : t.cost ≤ 1048576 := by omega
  have hs : subC 1048576 t.cost = 1048576 - t.cost := subC_yes (by omega)
  have hs1 : 0 ≤ subC 1048576 t.cost := by omega
  have hs2 : ¬ subC 1048576 t.cost < 0 := by omega
  have HCS := Lib.hid (fun w1 v (_hb : Below w.heap.size w w1) h => sorted_spec t w1 v hcost h hfit)
  have HCI := Lib.hid (fun w1 v (_hb : Below w.heap.size w w1) h => sorted_impl t w1 v (LA.out.kept _hb) hcost h hfit)
  generalize sortedL (namesF t) = R at *
  clear hs hbig
  obtain ⟨k0, k1, k2, k3, k4⟩ := K0.out
  go_enter Tryd.func4, Tryd.ntmps4
  go_wp2_with fail
  refine (szVal_c t _ _ _ (by omega) (by omega) (HU.out.kept t0) hfit).mono ?_
  rintro _ w1 ⟨rfl, b1⟩
  have t1 := vnx t0 b1
  have K1 := Lib.hid (box5_kept b1 K0.out); clear K0 k0 k1 k2 k3 k4
  obtain ⟨k0, k1, k2, k3, k4⟩ := K1.out
  go_wp2_with fail
  refine (toVal_c t _ _ hcost (HU.out.kept t1) hfit).mono ?_
  rintro _ w2 ⟨a2, n2, c2, rfl, o2, b2⟩
  have t2 := vnx t1 b2
  have K2 := Lib.hid (box5_kept b2 K1.out); clear K1 k0 k1 k2 k3 k4
  have S2 := Lib.hid o2.tsl; clear o2
  go_wp2_with fail
  refine (HCS.out _ _ t2 S2.out).mono ?_
  rintro _ w3 ⟨rfl, b3⟩
  have t3 := vnx t2 b3
  have K3 := Lib.hid (box5_kept b3 K2.out); clear K2
  obtain ⟨k0, k1, k2, k3, k4⟩ := K3.out
  go_wp2_with fail
  refine (toVal_c t _ _ hcost (HU.out.kept t3) hfit).mono ?_
  rintro _ w4 ⟨a4, n4, c4, rfl, o4, b4⟩
  have e4 := vbelow1 w4 (.cells #[.int .i64 t.kind, .int .i64 t.n, .int .i64 t.x, .string t.s, .slice a4 n4 c4] 29)
  have t4 := vnx (vnx t3 b4) e4
  have K4 := Lib.hid (box5_kept (vnx b4 e4) K3.out); clear K3 k0 k1 k2 k3 k4
  have S4 := Lib.hid (o4.tsl.kept e4); clear o4
  have L4 := Lib.hid (box5_new w4 (.int .i64 t.kind) (.int .i64 t.n) (.int .i64 t.x) (.string t.s) (.slice a4 n4 c4) 29)
  obtain ⟨l0, l1, l2, l3, l4⟩ := L4.out
  go_wp2_with fail
  refine (HCI.out _ _ t4 S4.out).mono ?_
  rintro _ w5 ⟨rfl, b5⟩
  have t5 := vnx t4 b5
  have K5 := Lib.hid (box5_kept b5 K4.out); clear K4 l0 l1 l2 l3 l4
  have L5 := Lib.hid (box5_kept b5 L4.out); clear L4
  have S5 := Lib.hid (S4.out.kept b5); clear S4
  obtain ⟨k0, k1, k2, k3, k4⟩ := K5.out
  obtain ⟨l0, l1, l2, l3, l4⟩ := L5.out
  go_wp2_with fail
  have d5 : Below w5.heap.size w5 w5.drew := (Below.refl _ _).drew
  go_region_held3 (fun w' => (w'.cell? ⟨w.heap.size, 0, none⟩ = some (.int .i64 t.kind) ∧ w'.cell? ⟨w.heap.size, 1, none⟩ = some (.int .i64 t.n) ∧ w'.cell? ⟨w.heap.size, 2, none⟩ = some (.int .i64 t.x) ∧ w'.cell? ⟨w.heap.size, 3, none⟩ = some (.string t.s) ∧ w'.cell? ⟨w.heap.size, 4, none⟩ = some (.slice a n cap)) ∧ (w'.cell? ⟨w4.heap.size, 0, none⟩ = some (.int .i64 t.kind) ∧ w'.cell? ⟨w4.heap.size, 1, none⟩ = some (.int .i64 t.n) ∧ w'.cell? ⟨w4.heap.size, 2, none⟩ = some (.int .i64 t.x) ∧ w'.cell? ⟨w4.heap.size, 3, none⟩ = some (.string t.s) ∧ w'.cell? ⟨w4.heap.size, 4, none⟩ = some (.slice a4 n4 c4))) (first | exact ⟨box5_kept d7 K5.out, box5_kept d7 L5.out⟩ | exact ⟨box5_kept d6 K5.out, box5_kept d6 L5.out⟩ | exact ⟨box5_kept d5 K5.out, box5_kept d5 L5.out⟩)
    (first
     | (go_at_call 15; refine (toVal_c t _ _ hcost (HU.out.kept (vnx t5 d5)) hfit).mono ?_; rintro _ w6 ⟨a6, n6, c6, rfl, o6, b6⟩; have d6 := vnx d5 b6; have S6 := Lib.hid (S5.out.kept d6); have R6 := Lib.hid o6.tsl; clear o6)
     | (go_at_call 17; refine (eqVal_c t _ _ _ S6.out R6.out).mono ?_; rintro _ w7 ⟨rfl, b7⟩; have d7 := vnx d6 b7))
  all_goals go_wp2_with fail
  all_goals go_ret
  all_goals exact ⟨rfl, vnx t5 d7⟩

namespace fnExactSorted
set_option maxRecDepth 100000 in
theorem walk : LawWalkX (fun W => LaidP W) 4 Tryd.f4 := by
  intro H enc W base args ds p hval0 hA0 hL
  have hval : ∀ (j : Nat) t v, Tryd.f4.params[j]? = some t → args[j]? = some v → Value.okWide Tryd.prog W .any base t v := hval0
  have hA : DataW.TrodAll enc Tryd.prog W 0 (fun _ => true) true Tryd.f4.params.toList args.toList ds p := hA0
  clear hval0 hA0
  rw [Tryd.params4] at hA hval
  obtain ⟨v0, vs0, d0, ds0, p0, q0, hargs, rfl, rfl, h0, r0⟩ := trodAll_cons hA
  obtain ⟨rfl, rfl, rfl⟩ := trodAll_nil r0
  obtain rfl : args = #[v0] := by cases args; simp_all
  obtain ⟨t0, u0, rfl, w0, x0⟩ := open_val Tryd.underlying24 (by kernel_rfl) (by kernel_rfl) Tryd.underlying3 Tryd.underlying3 Tryd.underlying3 Tryd.underlying9 Tryd.underlying22 (hval 0 24 v0 rfl rfl) h0
  exact sorted_law t0 u0 W hL w0 x0
theorem laid_met (os : Os) : laidMet Tryd.prog Rows.fnExactSortedRow.laid ((laidWorld os).forCall (fun _ _ => 0) ⟨#[], #[.agg #[.int .i64 0, .int .i64 0, .int .i64 0, .string ByteArray.empty, .slice none 0 0]], []⟩).memory :=
  laidMet_of_run' 8 (by kernel_rfl) (by kernel_rfl)
theorem reads (os : Os) {H : Type} (enc : TypeId × Value → H) : ∃ places, DataW.whole enc Tryd.prog ((laidWorld os).forCall (fun _ _ => 0) ⟨#[], #[.agg #[.int .i64 0, .int .i64 0, .int .i64 0, .string ByteArray.empty, .slice none 0 0]], []⟩).memory Tryd.f4.params.toList Rows.fnExactSortedSpec.vars false (#[Value.agg #[.int .i64 0, .int .i64 0, .int .i64 0, .string ByteArray.empty, .slice none 0 0]] : Array Value).toList 8 = some ([.agg [.lit (.int .i64 0), .lit (.int .i64 0), .lit (.int .i64 0), .lit (.string []), .nil]], [], places) :=
  ⟨[], by kernel_rfl⟩
set_option maxRecDepth 100000 in
theorem lifted (os : Os) (started : os.Started) (H : Type) (enc : TypeId × Value → H) (F : Stop.Interp) :
    ReturnsInHanded {} Tryd.checked os 4 .any ((OpenSpec.ofChange Rows.fnExactSortedSpec).preRow enc Tryd.prog Tryd.f4 Rows.fnExactSortedRow.domain false Rows.fnExactSortedRow.laid) (((OpenSpec.ofChange Rows.fnExactSortedSpec).at F).post enc Tryd.prog Tryd.f4 false true false false) := by
  obtain ⟨places, hx⟩ := reads os enc
  refine returnsInHanded_of_row (C := Tryd.checked) (s := OpenSpec.ofChange Rows.fnExactSortedSpec) own started (by kernel_rfl) Tryd.func4
    (witness_row_at (enc := enc) (C := Tryd.checked) false (laidWorld os) #[.agg #[.int .i64 0, .int .i64 0, .int .i64 0, .string ByteArray.empty, .slice none 0 0]] rfl (by kernel_rfl) (by kernel_rfl) (by kernel_rfl)
      (OpenSpec.preRow_of_cond 8 hx (by kernel_rfl) (fun k hk => by cases hk) (by kernel_rfl) (laid_met os))) ?_
  intro W base args ds gs before hval hW _ _ _ hL _ _
  exact law_contractX (fun W => LaidP W) 4 Tryd.f4 Rows.fnExactSortedSpec H enc rfl rfl (by kernel_rfl) (fun ds h => by match ds, h with | [_], _ => rfl) walk W base args ds gs before hval hW (laidP_of hL (by simp [Rows.fnExactSortedRow]))
theorem said : Rows.FnExactSortedSaid :=
  OpenClaim.holds_of_cond 4 Tryd.f4 rfl rfl rfl rfl rfl rfl rfl ⟨rfl, rfl, rfl, rfl, rfl⟩ rfl rfl rfl rfl rfl (by kernel_rfl) Tryd.func4 (by kernel_rfl)
    (of_decide_eq_true (by kernel_rfl)) (by unfold Func.isWrapper; first | (rw [if_pos (by decide +kernel)]; kernel_rfl) | (rw [if_neg (by decide +kernel)]; exact ⟨rfl, rfl⟩))
    (fun os started H enc _ F => by rw [OpenClaim.pre_eq_preRow]; exact lifted os started H enc F)
theorem plain (f : FuncId) (fn : Func) (hf : Tryd.pinned.checked.prog.funcNamed "loop.example/g00502/laws.FnExactSorted" = some f) (hfn : Tryd.pinned.checked.prog.funcs[f]? = some fn) :
    true = Tryd.pinned.checked.prog.looks [] ∧ ∀ (j : Nat) t, fn.params[j]? = some t → Tryd.pinned.checked.prog.wantsStandIn t = false := by
  obtain rfl : f = 4 := Option.some.inj ((show Tryd.prog.funcNamed "loop.example/g00502/laws.FnExactSorted" = some 4 by kernel_rfl).symm.trans hf) |>.symm
  obtain rfl : fn = Tryd.f4 := (Option.some.inj (Tryd.func4.symm.trans hfn)).symm
  refine ⟨by kernel_rfl, fun j t ht => ?_⟩
  have hall : Tryd.f4.params.toList.all (fun t => !Tryd.pinned.checked.prog.wantsStandIn t) = true := by kernel_rfl
  have hm := List.all_eq_true.1 hall t (by simpa using Array.mem_of_getElem? ht)
  simpa using hm
theorem proved : Rows.FnExactSortedCardSaid :=
  Claim7.holds_tied_plain_at .later [] _ _ _ _ said (fun _ h => by cases h) (by kernel_rfl) (fun _ h => by cases h) fnExactSorted_row_tie rfl ⟨rfl, rfl⟩ (by kernel_rfl) rfl plain (by kernel_rfl)
#print axioms proved
end fnExactSorted

end Go.Proofs.YtilmhemcpgiikaaDoor
