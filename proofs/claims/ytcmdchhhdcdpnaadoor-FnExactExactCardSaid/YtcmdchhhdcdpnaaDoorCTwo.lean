/- Blocks of two cells, read again later. -/
import Derived.Test.YtcmdchhhdcdpnaaDoorCConv
namespace Go.Proofs.YtcmdchhhdcdpnaaDoor
open Go.Deep Go.ChangeShapes Go.WideShapes Go.ChangeAt Go.RowKit

theorem two_num {W w1 : World} (hb : Below W.heap.size W w1) {B : Nat} {a b : Value} {T : TypeId} (h : W.heap[B]? = some (.cells #[a, b] T (0, 0))) :
    w1.cell? ⟨B, 0, none⟩ = some a ∧ w1.cell? ⟨B, 1, none⟩ = some b ∧ ∀ o, w1.frozen? ⟨B, o, none⟩ = false := by
  have hlt : B < W.heap.size := (Array.getElem?_eq_some_iff.1 h).1
  have h1 : w1.heap[B]? = some (.cells #[a, b] T (0, 0)) := (hb.block B hlt).trans h
  refine ⟨?_, ?_, fun o => ?_⟩
  all_goals simp [World.cell?, World.frozen?, h1]
theorem first_block (w : World) (o o' : Obj) : ((w.alloc o).alloc o').heap[w.heap.size]? = some o := by
  rw [Below.heap_alloc _ _ _ (by simp only [World.size_alloc]; omega)]
  exact heap_alloc_new w o
theorem second_block2 (w : World) (o o' : Obj) : ((w.alloc o).alloc o').heap[w.heap.size + 1]? = some o' := by
  have := heap_alloc_new (w.alloc o) o'
  simpa only [World.size_alloc] using this
theorem one_block (w : World) (o : Obj) : (w.alloc o).heap[w.heap.size]? = some o := heap_alloc_new w o
end Go.Proofs.YtcmdchhhdcdpnaaDoor
