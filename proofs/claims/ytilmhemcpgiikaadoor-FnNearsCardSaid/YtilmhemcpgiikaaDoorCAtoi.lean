/- Atoi, at every string. -/
import Derived.Test.YtilmhemcpgiikaaDoorFrameX
import Derived.Test.YtilmhemcpgiikaaDoorCBase
import Derived.Test.YtilmhemcpgiikaaDoorShelf
import Derived.Shelf.Strconv.AtoiAll
import Derived.Shelf.Strconv.ErrVarAll
import Derived.Lib.AtoiErrMem
namespace Go.Proofs.YtilmhemcpgiikaaDoor
open Go.ChangeShapes Go.WideShapes Go.ChangeAt Go.RowKit

/-- The number that a text spells, if it spells one. -/
def atoiO (l : List UInt8) : Option Int := match Lib.atoiAll l with
  | .ok v => some v
  | _ => none
theorem atoi_c (s : ByteArray) (w : World) (hs : s.size ≤ 1048576) (hL : LaidE w) :
    Calls Tryd.prog 91 #[.string s] w fun e w' => ((∃ v, atoiO s.data.toList = some v ∧ e = .returned (.tuple #[.int .i64 v, .nilIface])) ∨ (∃ (x : Int) (T : TypeId) (p : Value), atoiO s.data.toList = none ∧ e = .returned (.tuple #[.int .i64 x, .iface T p]))) ∧ Below w.heap.size w w' := by
  obtain ⟨⟨t1, p1, h1⟩, ⟨t2, p2, h2⟩⟩ := hL
  unfold atoiO
  rcases h : Lib.atoiAll s.data.toList with v | _ | _
  · refine (Any.strconv_Atoi_ok Tryd.laysC172 s (by omega) v h w).mono ?_
    rintro _ w' ⟨rfl, hw⟩
    refine ⟨.inl ⟨v, rfl, rfl⟩, ?_⟩
    rcases hw with rfl | ⟨t, rfl⟩
    · exact Below.refl _ _
    · exact Lib.bytesWorld_below _ _ _
  · refine (Any.strconv_Atoi_syntax_var Tryd.laysC172 s (by omega) h t2 p2 w h2).mono ?_
    rintro _ w' ⟨N, rfl, -, -, hb⟩
    exact ⟨.inr ⟨_, _, _, rfl, rfl⟩, hb⟩
  · refine (Any.strconv_Atoi_range_var Tryd.laysC172 s (by omega) h t1 p1 w h1).mono ?_
    rintro _ w' ⟨N, rfl, -, -, hb⟩
    exact ⟨.inr ⟨_, _, _, rfl, rfl⟩, hb⟩
end Go.Proofs.YtilmhemcpgiikaaDoor
