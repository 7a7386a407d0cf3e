/- Equality of plain structs. -/
import Derived.Test.YtcmdchhhdcdpnaaDoorCTwo
namespace Go.Proofs.YtcmdchhhdcdpnaaDoor
open Go.ChangeShapes Go.WideShapes Go.ChangeAt Go.RowKit
open Go.ChangeMaps (open_string shut_string)

theorem eqFlt_c (m e : Int) (w : World) :
    Calls Tryd.prog 8 #[.agg #[.int .i64 m, .int .i64 e], .agg #[.int .i64 m, .int .i64 e]] w fun en w' => en = .returned (.bool true) ∧ Below w.heap.size w w' := by
  go_enter Tryd.func8, Tryd.ntmps8
  go_wp2
  go_ret
  exact ⟨rfl, below2 _ _ _⟩
end Go.Proofs.YtcmdchhhdcdpnaaDoor
