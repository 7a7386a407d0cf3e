/- CountOf and DeepOf, in the reference and in the program. -/
import Derived.Test.YtilmhemcpgiikaaDoorVSz
namespace Go.Proofs.YtilmhemcpgiikaaDoor
open Go.ChangeShapes Go.WideShapes Go.ChangeAt Go.RowKit
open Go.ChangeMaps (open_string shut_string)


theorem szL_snoc (t : Tree) : ∀ l, szL (l ++ [t]) = szL l + t.sz
  | [] => by simp [szL]
  | u :: ts => by simp only [List.cons_append, szL, szL_snoc t ts]; omega
theorem szL_take : ∀ (l : List Tree) (j : Nat), szL (l.take j) ≤ szL l
  | [], j => by simp [szL]
  | t :: ts, 0 => by simp [szL]
  | t :: ts, j + 1 => by simp only [List.take_succ_cons, szL]; have := szL_take ts j; omega
theorem Tree.sz_eq (t : Tree) : t.sz = 1 + szL t.l := by cases t; rw [Tree.sz]; rfl
theorem len_le_szL : ∀ l : List Tree, l.length ≤ szL l
  | [] => by simp
  | t :: ts => by rw [szL, List.length_cons]; have := len_le_szL ts; have := Tree.sz_eq t; omega
mutual
/-- How deep a tree is. -/
def Tree.deep : Tree → Nat | .mk _ _ _ _ l => deepL l + 1
def deepL : List Tree → Nat | [] => 0 | t :: ts => max t.deep (deepL ts)
end
theorem Tree.deep_eq (t : Tree) : t.deep = deepL t.l + 1 := by cases t; rw [Tree.deep]; rfl
theorem deepL_snoc (t : Tree) : ∀ l, deepL (l ++ [t]) = max (deepL l) t.deep
  | [] => by simp [deepL]
  | u :: ts => by simp only [List.cons_append, deepL, deepL_snoc t ts]; omega
theorem Tree.deep_le (t : Tree) : t.deep ≤ t.sz := by
  refine Tree.ind (p := fun t => t.deep ≤ t.sz) (fun t ih => ?_) t
  rw [Tree.deep_eq, Tree.sz_eq]
  have : ∀ l : List Tree, (∀ t' ∈ l, t'.deep ≤ t'.sz) → deepL l ≤ szL l := by
    intro l
    induction l with
    | nil => intro _; simp [deepL]
    | cons u ts ih2 =>
      intro h
      rw [deepL, szL]
      have h1 := h u (by simp)
      have h2 := ih2 (fun t' ht' => h t' (by simp [ht']))
      omega
  have := this t.l ih
  omega
theorem sz_le_cost (t : Tree) : t.sz ≤ t.cost + 1 := by
  refine Tree.ind (p := fun t => t.sz ≤ t.cost + 1) (fun t ih => ?_) t
  rw [Tree.sz_eq, Tree.cost_eq, costL_eq]
  have : ∀ l : List Tree, (∀ t' ∈ l, t'.sz ≤ t'.cost + 1) → szL l ≤ l.length + costE l := by
    intro l
    induction l with
    | nil => intro _; simp [szL]
    | cons u ts ih2 =>
      intro h
      rw [szL, costE, List.length_cons]
      have h1 := h u (by simp)
      have h2 := ih2 (fun t' ht' => h t' (by simp [ht']))
      omega
  have := this t.l ih
  omega
/-- The fifth cell of a boxed Val. -/
theorem box_cell (w : World) (a b c d u : Value) (T : TypeId) : (w.alloc (.cells #[a, b, c, d, u] T)).cell? ⟨w.heap.size, 4, none⟩ = some u := by
  rw [World.cell?_alloc_at _ _ _ _ rfl]; rfl





end Go.Proofs.YtilmhemcpgiikaaDoor
