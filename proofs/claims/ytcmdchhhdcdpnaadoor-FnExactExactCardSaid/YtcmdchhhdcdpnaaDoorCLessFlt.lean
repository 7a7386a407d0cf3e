/- LessFlt of both. -/
import Derived.Test.YtcmdchhhdcdpnaaDoorCFltDec
import Derived.Deep.RegionHeld3
import Derived.Deep.RegionWith
namespace Go.Proofs.YtcmdchhhdcdpnaaDoor
open Go.Deep Go.ChangeShapes Go.WideShapes Go.ChangeAt Go.RowKit
open Go.ChangeMaps (open_string shut_string)

/-- What DecNew gives is valid. -/
theorem decNewF_ok (n x : Int) : decOkB (decNewF n x).1 (decNewF n x).2.1 = true := by
  have z : decOkB 0 0 = true := decOkB_iff.2 (.inl ⟨rfl, by decide, by decide⟩)
  unfold decNewF
  split
  · split
    · exact z
    · split
      · split
        · assumption
        · exact z
      · split
        · rename_i h; exact decOkB_iff.2 (.inl ⟨rfl, h⟩)
        · exact z
  · exact z
theorem fltDecF_ok (m e : Int) : decOkB (fltDecF m e).1 (fltDecF m e).2 = true := by
  have z : decOkB 0 0 = true := decOkB_iff.2 (.inl ⟨rfl, by decide, by decide⟩)
  unfold fltDecF
  split
  · rename_i hk
    split
    · rename_i h; exact decOkB_iff.2 (.inl ⟨rfl, (fltOkF_range hk).2.2.2.2 h⟩)
    · exact decNewF_ok _ _
  · exact z
theorem fltDecF_bd (m e : Int) : -9223372036854775808 ≤ (fltDecF m e).1 ∧ (fltDecF m e).1 ≤ 9223372036854775807 := by
  have := decOk_range (fltDecF_ok m e); omega

def lessFltB (m e p q : Int) : Bool := fltOkF m e && (fltOkF p q && lessDecB (fltDecF m e).1 (fltDecF m e).2 (fltDecF p q).1 (fltDecF p q).2)


end Go.Proofs.YtcmdchhhdcdpnaaDoor
