/- How many bytes a character takes, by the program. -/
import Derived.Test.YtcagcjkhjfbbpaaDoorCPutRune
namespace Go.Proofs.YtcagcjkhjfbbpaaDoor
open Go.Deep Go.ChangeShapes Go.WideShapes Go.ChangeAt Go.RowKit

set_option maxHeartbeats 1000000 in
theorem wideOf_impl (n : Int) (w : World) :
    Calls Tryd.prog 16 #[.int .i64 n] w fun e w' => e = .returned (.int .i64 (wideF n)) ∧ Below w.heap.size w w' := by
  have hl := encZ_len n
  have hp : Calls Tryd.prog 8 #[.slice none 0 0, .int .i64 n] w fun e w' => ∃ v, e = .returned v ∧ w'.ownsRow w.heap.size 5 1 v (encZ n).length ((encZ n).map (Value.int .u8)) ∧ Below w.heap.size w w' :=
    putRune_impl [] none 0 n w (.inl rfl) (by simp)
  generalize encZ n = zs at *
  have HP := Lib.hid hp; clear hp
  have HL := Lib.hid hl; clear hl
  go_enter Tryd.func16, Tryd.ntmps16
  go_wp2_with fail
  refine HP.out.mono ?_
  rintro _ w1 ⟨v, rfl, ho, hb⟩
  obtain ⟨a, cap, rfl, -, -, -, -⟩ := own_rd ho
  clear ho
  go_wp2_with fail
  go_ret
  exact ⟨ret_int HL.out, hb⟩
end Go.Proofs.YtcagcjkhjfbbpaaDoor
