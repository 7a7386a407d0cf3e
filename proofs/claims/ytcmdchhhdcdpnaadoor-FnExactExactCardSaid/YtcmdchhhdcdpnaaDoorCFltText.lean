/- FltText and LessFlt: both alike. -/
import Derived.Test.YtcmdchhhdcdpnaaDoorCLessFlt
import Derived.Test.YtcmdchhhdcdpnaaDoorCText
import Derived.Deep.RegionHeld3
import Derived.Deep.RegionWith
namespace Go.Proofs.YtcmdchhhdcdpnaaDoor
open Go.Deep Go.ChangeShapes Go.WideShapes Go.ChangeAt Go.RowKit
open Go.ChangeMaps (open_string shut_string)

def fltTextS (m e : Int) : ByteArray := if fltOkF m e = true then decTextS (fltDecF m e).1 (fltDecF m e).2 else { data := #[] }


end Go.Proofs.YtcmdchhhdcdpnaaDoor
