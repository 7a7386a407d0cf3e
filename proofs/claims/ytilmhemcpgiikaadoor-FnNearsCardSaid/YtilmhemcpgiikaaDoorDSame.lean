/- The laws' own comparisons. -/
import Derived.Test.YtilmhemcpgiikaaDoorCStr
namespace Go.Proofs.YtilmhemcpgiikaaDoor
open Go.Deep Go.ChangeShapes Go.WideShapes Go.ChangeAt Go.RowKit

theorem big_c (n : Nat) (a : Option Addr) (cap : Nat) (w : World) :
    Calls Tryd.prog 26 #[.slice a n cap] w fun e w' => e = .returned (.bool (decide ((1048576 : Int) < (n : Int)))) ∧ w = w' := by
  go_enter Tryd.func26, Tryd.ntmps26
  go_wp2_with fail
  go_ret
  exact ⟨rfl, rfl⟩
end Go.Proofs.YtilmhemcpgiikaaDoor
