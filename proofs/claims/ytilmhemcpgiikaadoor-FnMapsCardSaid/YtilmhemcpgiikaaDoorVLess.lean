/- LessVal: both say whether one tree is ahead of another. -/
import Derived.Test.YtilmhemcpgiikaaDoorVOrd
import Derived.Test.YtilmhemcpgiikaaDoorVOrdI
namespace Go.Proofs.YtilmhemcpgiikaaDoor
open Go.Deep Go.ChangeShapes Go.WideShapes Go.ChangeAt Go.RowKit
open Go.ChangeMaps (open_string shut_string)

def lessT (t t' : Tree) : Bool := decide (t.cmp t' < 0)
set_option maxRecDepth 100000 in
set_option maxHeartbeats 4000000 in
theorem lessSpec_c (t t' : Tree) (w : World) (u u' : Value) (hu : TSl w u t.l) (hu' : TSl w u' t'.l) (hfit : Fits t.kind t.n t.x t.s) (hfit' : Fits t'.kind t'.n t'.x t'.s) :
    Calls Tryd.prog 14 #[.agg #[.int .i64 t.kind, .int .i64 t.n, .int .i64 t.x, .string t.s, u], .agg #[.int .i64 t'.kind, .int .i64 t'.n, .int .i64 t'.x, .string t'.s, u']] w fun e w' => e = .returned (.bool (lessT t t')) ∧ Below w.heap.size w w' := by
  obtain ⟨a, n, cap, rfl⟩ := hu.form
  obtain ⟨a', n', cap', rfl⟩ := hu'.form
  have HW := Lib.hid (vbelow2 w (.cells #[.int .i64 t.kind, .int .i64 t.n, .int .i64 t.x, .string t.s, .slice a n cap] 29) (.cells #[.int .i64 t'.kind, .int .i64 t'.n, .int .i64 t'.x, .string t'.s, .slice a' n' cap'] 29))
  have HC := Lib.hid (ordSpec_c t t' _ _ _ (hu.kept HW.out) (hu'.kept HW.out) hfit hfit')
  clear hu hu' hfit hfit'
  have HR : Hid (lessT t t' = decide (t.cmp t' < 0)) := Lib.hid rfl
  generalize lessT t t' = R at *
  generalize t.cmp t' = D at *
  go_enter Tryd.func14, Tryd.ntmps14
  go_wp2_with fail
  refine HC.out.mono ?_
  rintro _ w1 ⟨rfl, b1⟩
  go_wp2_with fail
  go_ret
  exact ⟨ret_bool (by first | exact HR.out.symm | (rw [HR.out])), vnx HW.out b1⟩
set_option maxRecDepth 100000 in
set_option maxHeartbeats 4000000 in
theorem lessImpl_c (t t' : Tree) (w : World) (u u' : Value) (hL : LaidP w) (hu : TSl w u t.l) (hu' : TSl w u' t'.l) (hfit : Fits t.kind t.n t.x t.s) (hfit' : Fits t'.kind t'.n t'.x t'.s) :
    Calls Tryd.prog 16 #[.agg #[.int .i64 t.kind, .int .i64 t.n, .int .i64 t.x, .string t.s, u], .agg #[.int .i64 t'.kind, .int .i64 t'.n, .int .i64 t'.x, .string t'.s, u']] w fun e w' => e = .returned (.bool (lessT t t')) ∧ Below w.heap.size w w' := by
  obtain ⟨a, n, cap, rfl⟩ := hu.form
  obtain ⟨a', n', cap', rfl⟩ := hu'.form
  have HW := Lib.hid (vbelow2 w (.cells #[.int .i64 t.kind, .int .i64 t.n, .int .i64 t.x, .string t.s, .slice a n cap] 29) (.cells #[.int .i64 t'.kind, .int .i64 t'.n, .int .i64 t'.x, .string t'.s, .slice a' n' cap'] 29))
  have HC := Lib.hid (ordImpl_c t t' _ _ _ (hL.kept HW.out) (hu.kept HW.out) (hu'.kept HW.out) hfit hfit')
  clear hu hu' hfit hfit' hL
  have HR : Hid (lessT t t' = decide (t.cmp t' < 0)) := Lib.hid rfl
  generalize lessT t t' = R at *
  generalize t.cmp t' = D at *
  go_enter Tryd.func16, Tryd.ntmps16
  go_wp2_with fail
  refine HC.out.mono ?_
  rintro _ w1 ⟨rfl, b1⟩
  go_wp2_with fail
  go_ret
  exact ⟨ret_bool (by first | exact HR.out.symm | (rw [HR.out])), vnx HW.out b1⟩
end Go.Proofs.YtilmhemcpgiikaaDoor
