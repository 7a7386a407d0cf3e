/- Equality of plain structs. -/
import Derived.Test.YtmcmhjggmhkkoaaDoorCTwo
namespace Go.Proofs.YtmcmhjggmhkkoaaDoor
open Go.ChangeShapes Go.WideShapes Go.ChangeAt Go.RowKit
open Go.ChangeMaps (open_string shut_string)

theorem eqFlt_c (m e : Int) (w : World) :
    Calls Tryd.prog 39 #[.agg #[.int .i64 m, .int .i64 e], .agg #[.int .i64 m, .int .i64 e]] w fun en w' => en = .returned (.bool true) ∧ Below w.heap.size w w' := by
  go_enter Tryd.func39, Tryd.ntmps39
  go_wp2
  go_ret
  exact ⟨rfl, below2 _ _ _⟩
theorem eqDec_c (m e : Int) (w : World) :
    Calls Tryd.prog 25 #[.agg #[.int .i64 m, .int .i64 e], .agg #[.int .i64 m, .int .i64 e]] w fun en w' => en = .returned (.bool true) ∧ Below w.heap.size w w' := by
  go_enter Tryd.func25, Tryd.ntmps25
  go_wp2
  go_ret
  exact ⟨rfl, below2 _ _ _⟩
end Go.Proofs.YtmcmhjggmhkkoaaDoor
