/- Boxes of two cells of a draw's own, kept while the cursor turns. -/
import Derived.Test.YtilmhemcpgiikaaDoorCCur2
import Derived.Test.YtilmhemcpgiikaaDoorCTwo
namespace Go.Proofs.YtilmhemcpgiikaaDoor
open Go.Deep Go.ChangeShapes Go.WideShapes Go.ChangeAt Go.RowKit

section
variable {w w1 : World} {P R : Nat}
theorem box_gr {o : Obj} (h : w.heap[R]? = some o) (g : w.grownBy w1 (some P)) (hne : P ≠ R) : w1.heap[R]? = some o :=
  (g.block R (Array.getElem?_eq_some_iff.1 h).1 (fun e => hne (Option.some.inj e).symm)).trans h
theorem box_below {o : Obj} (h : w.heap[R]? = some o) (g : Below w.heap.size w w1) : w1.heap[R]? = some o :=
  (g.block R (Array.getElem?_eq_some_iff.1 h).1).trans h
theorem box_alloc {o : Obj} (h : w.heap[R]? = some o) (o' : Obj) : (w.alloc o').heap[R]? = some o := box_below h (below1 w o')
theorem box_other {o : Obj} (h : w.heap[R]? = some o) {Q j : Nat} (v : Value) (hne : R ≠ Q) : (w.setCell ⟨Q, j, none⟩ v).heap[R]? = some o :=
  (Below.heap_setCell _ _ _ _ hne).trans h
theorem box_set0 {a b : Value} {T : TypeId} (h : w.heap[R]? = some (.cells #[a, b] T (0, 0))) (v : Value) : (w.setCell ⟨R, 0, none⟩ v).heap[R]? = some (.cells #[v, b] T (0, 0)) := by
  simp [World.setCell, Array.getElem?_modify, h]
theorem box_set1 {a b : Value} {T : TypeId} (h : w.heap[R]? = some (.cells #[a, b] T (0, 0))) (v : Value) : (w.setCell ⟨R, 1, none⟩ v).heap[R]? = some (.cells #[a, v] T (0, 0)) := by
  simp [World.setCell, Array.getElem?_modify, h]
theorem box_two {a b : Value} {T : TypeId} (h : w.heap[R]? = some (.cells #[a, b] T (0, 0))) :
    w.cell? ⟨R, 0, none⟩ = some a ∧ w.cell? ⟨R, 1, none⟩ = some b ∧ w.frozen? ⟨R, 0, none⟩ = false ∧ w.frozen? ⟨R, 1, none⟩ = false := by
  obtain ⟨h0, h1, h2⟩ := two_num (Below.refl _ _) h
  exact ⟨h0, h1, h2 0, h2 1⟩
theorem box_lt {o : Obj} (h : w.heap[R]? = some o) : R < w.heap.size := (Array.getElem?_eq_some_iff.1 h).1
theorem Cur.set (h : Cur w P) {j : Nat} (v : Value) (hR : P < R) : Cur (w.setCell ⟨R, j, none⟩ v) P :=
  h.kept (by simp [World.setCell]) (fun k hk _ => Below.heap_setCell _ _ _ _ (by dsimp only; omega))
theorem gr_sets (h : w.grownBy w1 (some P)) {j : Nat} (v : Value) (hR : w.heap.size ≤ R) : w.grownBy (w1.setCell ⟨R, j, none⟩ v) (some P) :=
  ⟨h.os, h.tape, h.output, by simpa [World.setCell] using h.size, fun k hk hne => (Below.heap_setCell _ _ _ _ (by dsimp only; omega)).trans (h.block k hk hne)⟩
theorem gr_alloc (h : w.grownBy w1 (some P)) (o : Obj) : w.grownBy (w1.alloc o) (some P) := gr_on h (below1 _ _)
theorem below_alloc {W : World} (h : Below W.heap.size W w) (o : Obj) : Below W.heap.size W (w.alloc o) := h.alloc h.size o
theorem below_set {W : World} (h : Below W.heap.size W w) {j : Nat} (v : Value) (hR : W.heap.size ≤ R) : Below W.heap.size W (w.setCell ⟨R, j, none⟩ v) := h.setCell hR _
end
end Go.Proofs.YtilmhemcpgiikaaDoor
