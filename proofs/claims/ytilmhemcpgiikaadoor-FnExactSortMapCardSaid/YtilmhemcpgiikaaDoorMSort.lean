/- Plain laws of SortMap: pairs are put in by their names, one after the other. -/
import Derived.Test.YtilmhemcpgiikaaDoorVLess
import Derived.Test.YtilmhemcpgiikaaDoorVLookB
namespace Go.Proofs.YtilmhemcpgiikaaDoor

section
variable {α β : Type}
/-- Behind which of the first k pairs a name comes. -/
def kF (lt : α → α → Bool) (x : α) (σ : List α) : Nat → Nat
  | 0 => 0
  | k + 1 => match σ[2 * k]? with | some y => if lt x y = true then kF lt x σ k else k + 1 | none => k + 1
def insF (lt : α → α → Bool) (x y : α) (σ : List α) : List α := σ.take (2 * kF lt x σ (σ.length / 2)) ++ x :: y :: σ.drop (2 * kF lt x σ (σ.length / 2))
/-- The first i pairs, sorted. -/
def sortF (lt : α → α → Bool) (l : List α) : Nat → List α
  | 0 => []
  | i + 1 => match l[2 * i]?, l[2 * i + 1]? with | some x, some y => insF lt x y (sortF lt l i) | _, _ => sortF lt l i

theorem kF_le (lt : α → α → Bool) (x : α) (σ : List α) : ∀ k, kF lt x σ k ≤ k
  | 0 => Nat.le_refl _
  | k + 1 => by
    have := kF_le lt x σ k
    rw [kF]
    split
    · split <;> omega
    · omega
theorem kF_yes {lt : α → α → Bool} {x : α} {σ : List α} {k : Nat} {h : 2 * k < σ.length} (hl : lt x σ[2 * k] = true) : kF lt x σ (k + 1) = kF lt x σ k := by
  rw [kF, List.getElem?_eq_getElem h]
  exact if_pos hl
theorem kF_no {lt : α → α → Bool} {x : α} {σ : List α} {k : Nat} {h : 2 * k < σ.length} (hl : lt x σ[2 * k] = false) : kF lt x σ (k + 1) = k + 1 := by
  rw [kF, List.getElem?_eq_getElem h]
  exact if_neg (by rw [hl]; simp)
theorem insF_len (lt : α → α → Bool) (x y : α) (σ : List α) : (insF lt x y σ).length = σ.length + 2 := by
  have h := kF_le lt x σ (σ.length / 2)
  unfold insF
  simp only [List.length_append, List.length_cons, List.length_take, List.length_drop]
  omega
theorem sortF_succ {lt : α → α → Bool} {l : List α} {i : Nat} (h : 2 * i + 1 < l.length) : sortF lt l (i + 1) = insF lt l[2 * i] l[2 * i + 1] (sortF lt l i) := by
  rw [sortF, List.getElem?_eq_getElem (by omega), List.getElem?_eq_getElem h]
theorem sortF_len {lt : α → α → Bool} {l : List α} : ∀ {i : Nat}, 2 * i ≤ l.length → (sortF lt l i).length = 2 * i
  | 0, _ => rfl
  | i + 1, h => by rw [sortF_succ (by omega), insF_len, sortF_len (i := i) (by omega)]; omega
theorem insF_perm (lt : α → α → Bool) (x y : α) (σ : List α) : (insF lt x y σ).Perm (σ ++ [x, y]) := by
  unfold insF
  generalize 2 * kF lt x σ (σ.length / 2) = k
  have h1 : (x :: y :: σ.drop k).Perm (σ.drop k ++ [x, y]) := List.perm_append_comm (l₁ := [x, y])
  have h2 := List.Perm.append_left (σ.take k) h1
  rw [← List.append_assoc, List.take_append_drop] at h2
  exact h2
theorem take_two {l : List α} {i : Nat} (h : 2 * i + 1 < l.length) : l.take (2 * (i + 1)) = l.take (2 * i) ++ [l[2 * i], l[2 * i + 1]] := by
  have e1 : l.take (2 * i + 1 + 1) = l.take (2 * i + 1) ++ [l[2 * i + 1]] := List.take_succ_eq_append_getElem h
  have e2 : l.take (2 * i + 1) = l.take (2 * i) ++ [l[2 * i]] := List.take_succ_eq_append_getElem (by omega)
  have e3 : 2 * (i + 1) = 2 * i + 1 + 1 := by omega
  rw [e3, e1, e2, List.append_assoc]
  rfl
theorem sortF_perm {lt : α → α → Bool} {l : List α} : ∀ {i : Nat}, 2 * i ≤ l.length → (sortF lt l i).Perm (l.take (2 * i))
  | 0, _ => by simp [sortF]
  | i + 1, h => by
    rw [sortF_succ (by omega), take_two (by omega)]
    exact (insF_perm ..).trans ((sortF_perm (i := i) (by omega)).append_right _)
theorem kF_map {f : α → β} {lt : α → α → Bool} {lt' : β → β → Bool} (hf : ∀ a b, lt' (f a) (f b) = lt a b) (x : α) (σ : List α) : ∀ k, kF lt' (f x) (σ.map f) k = kF lt x σ k
  | 0 => rfl
  | k + 1 => by
    rw [kF, kF, List.getElem?_map, kF_map hf x σ k]
    cases σ[2 * k]? with
    | none => rfl
    | some y => simp only [Option.map_some, hf]
theorem insF_map {f : α → β} {lt : α → α → Bool} {lt' : β → β → Bool} (hf : ∀ a b, lt' (f a) (f b) = lt a b) (x y : α) (σ : List α) : insF lt' (f x) (f y) (σ.map f) = (insF lt x y σ).map f := by
  unfold insF
  rw [List.length_map, kF_map hf]
  simp [List.map_take, List.map_drop]
theorem sortF_map {f : α → β} {lt : α → α → Bool} {lt' : β → β → Bool} (hf : ∀ a b, lt' (f a) (f b) = lt a b) (l : List α) : ∀ {i : Nat}, 2 * i ≤ l.length → sortF lt' (l.map f) i = (sortF lt l i).map f
  | 0, _ => rfl
  | i + 1, h => by
    rw [sortF_succ (by rw [List.length_map]; omega), sortF_succ (by omega), List.getElem_map, List.getElem_map, sortF_map hf l (i := i) (by omega), insF_map hf]
end
/-- What SortMap gives. -/
def sortT (t : Tree) : Tree := if pairedB t = true then .mk t.kind t.n t.x t.s (sortF lessT t.l (t.l.length / 2)) else t
end Go.Proofs.YtilmhemcpgiikaaDoor
