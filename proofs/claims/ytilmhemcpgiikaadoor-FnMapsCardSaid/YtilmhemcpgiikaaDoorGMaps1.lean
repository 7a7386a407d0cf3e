/- Maps: texts of the proof, joined. -/
import Derived.Test.YtilmhemcpgiikaaDoorCConv
import Derived.Test.YtilmhemcpgiikaaDoorVSame
import Derived.Test.YtilmhemcpgiikaaDoorVLess
import Derived.StillTailTactics
import Derived.Deep.DeepCutAuto
import Derived.Deep.CutBlock
import Derived.Deep.RegionHeld3
import Derived.Deep.RegionLaw
import Derived.Deep.AppendLies
import Derived.BigRegion
import Derived.Test.YtilmhemcpgiikaaDoorGOrders5
/- What a name stands for in a map; whether a map is paired. -/
namespace Go.Proofs.YtilmhemcpgiikaaDoor
open Go.Deep Go.ChangeShapes Go.WideShapes Go.ChangeAt Go.RowKit
open Go.ChangeMaps (open_string shut_string)
def zeroT : Tree := .mk 0 0 0 { data := #[] } []
/-- A tree and a Bool, the tree's elements owned. -/
def PairP (w : World) (r : Tree) (b : Bool) : Ending → World → Prop := fun e w' => ∃ a n c, e = .returned (.tuple #[.agg #[.int .i64 r.kind, .int .i64 r.n, .int .i64 r.x, .string r.s, .slice a n c], .bool b]) ∧ OSl w' 29 (.slice a n c) r.l (Rng w.heap.size w'.heap.size) ∧ Below w.heap.size w w'
theorem three_blocks (w : World) (o1 o2 o3 : Obj) :
    (((w.alloc o1).alloc o2).alloc o3).heap[w.heap.size]? = some o1 ∧ (((w.alloc o1).alloc o2).alloc o3).heap[w.heap.size + 1]? = some o2 ∧ (((w.alloc o1).alloc o2).alloc o3).heap[w.heap.size + 1 + 1]? = some o3 ∧ Below w.heap.size w (((w.alloc o1).alloc o2).alloc o3) := by
  have h1 := first_blocks w o1 o2
  have h3 := heap_alloc_new ((w.alloc o1).alloc o2) o3
  simp only [World.size_alloc] at h3
  refine ⟨?_, ?_, h3, (vbelow2 w o1 o2).alloc (by simp only [World.size_alloc]; omega) _⟩
  · rw [Below.heap_alloc _ _ _ (by simp only [World.size_alloc]; omega)]; exact h1.1
  · rw [Below.heap_alloc _ _ _ (by simp only [World.size_alloc]; omega)]; exact h1.2

/-- Is a value a map whose names all have values? -/
def pairedB (t : Tree) : Bool := t.kind == 10 && t.l.length % 2 == 0
theorem paired_kind {t : Tree} (h : (t.kind == 10) = false) : pairedB t = false := by unfold pairedB; rw [h]; rfl
theorem paired_len {t : Tree} (h : (t.kind == 10) = true) : pairedB t = (t.l.length % 2 == 0) := by unfold pairedB; rw [h]; rfl
open Classical in
/-- The value of the last equal name among the first j pairs. -/
noncomputable def lookAt (l : List Tree) (x : Tree) : Nat → Option Tree
  | 0 => none
  | j + 1 => if l[2 * j]? = some x then l[2 * j + 1]? else lookAt l x j
noncomputable def lookO (t t' : Tree) : Option Tree := if pairedB t = true then lookAt t.l t' (t.l.length / 2) else none
noncomputable def lookR (t t' : Tree) : Tree := (lookO t t').getD zeroT
noncomputable def lookB (t t' : Tree) : Bool := (lookO t t').isSome
theorem lookAt_hit {l : List Tree} {x : Tree} {j k : Nat} (hk : k = 2 * j) (h : l[k]? = some x) : lookAt l x (j + 1) = l[k + 1]? := by
  subst hk
  rw [lookAt, if_pos h]
theorem lookAt_miss {l : List Tree} {x : Tree} {j k : Nat} (hk : k = 2 * j) (h : l[k]? ≠ some x) : lookAt l x (j + 1) = lookAt l x j := by
  subst hk
  rw [lookAt, if_neg h]
theorem lookAt_mem (l : List Tree) (x : Tree) : ∀ j r, lookAt l x j = some r → r ∈ l
  | 0, r, h => by simp [lookAt] at h
  | j + 1, r, h => by
    unfold lookAt at h
    split at h
    · exact List.mem_of_getElem? h
    · exact lookAt_mem l x j r h
theorem lookR_cost (t t' : Tree) : (lookR t t').cost ≤ t.cost := by
  unfold lookR
  cases h : lookO t t' with
  | none => exact Nat.zero_le _
  | some r =>
    have hm : r ∈ t.l := by
      unfold lookO at h
      split at h
      · exact lookAt_mem _ _ _ _ h
      · simp at h
    have h1 := cost_mem hm
    have h2 := Tree.cost_eq t
    have h3 := costL_eq t.l
    simp only [Option.getD_some]
    omega
theorem len_mod {n : Nat} (hn : n ≤ 9223372036854775807) : (((n : Int).tmod 2) == 0) = (n % 2 == 0) := by
  have h : (n : Int).tmod 2 = ((n % 2 : Nat) : Int) := by rw [Int.tmod_eq_emod_of_nonneg (by omega)]; omega
  rw [h]
  by_cases e : n % 2 = 0
  · simp [e]
  · have : n % 2 = 1 := by omega
    simp [this]


set_option maxHeartbeats 2000000 in
theorem l7Map_c (t : Tree) (a : Option Addr) (cap : Nat) (w : World) (hlen : t.l.length ≤ 1048576) :
    Calls Tryd.prog 80 #[.agg #[.int .i64 t.kind, .int .i64 t.n, .int .i64 t.x, .string t.s, .slice a t.l.length cap]] w fun e w' => e = .returned (.bool (pairedB t)) ∧ Below w.heap.size w w' := by
  have HW := Lib.hid (vbelow1 w (.cells #[.int .i64 t.kind, .int .i64 t.n, .int .i64 t.x, .string t.s, .slice a t.l.length cap] 29))
  cases hk : (t.kind == 10) with
  | false =>
    have HF := Lib.hid (paired_kind hk)
    go_enter Tryd.func80, Tryd.ntmps80
    go_wp2_with fail
    go_ret
    exact ⟨ret_bool HF.out.symm, HW.out⟩
  | true =>
    have hp := paired_len hk
    rw [← len_mod (by omega)] at hp
    have HF := Lib.hid hp
    clear hp
    go_enter Tryd.func80, Tryd.ntmps80
    go_wp2_with fail
    go_ret
    exact ⟨ret_bool HF.out.symm, HW.out⟩


set_option maxHeartbeats 2000000 in
theorem isPaired_c (t : Tree) (a : Option Addr) (cap : Nat) (w : World) (hlen : t.l.length ≤ 1048576) :
    Calls Tryd.prog 118 #[.agg #[.int .i64 t.kind, .int .i64 t.n, .int .i64 t.x, .string t.s, .slice a t.l.length cap]] w fun e w' => e = .returned (.bool (pairedB t)) ∧ Below w.heap.size w w' := by
  have HW := Lib.hid (vbelow1 w (.cells #[.int .i64 t.kind, .int .i64 t.n, .int .i64 t.x, .string t.s, .slice a t.l.length cap] 29))
  cases hk : (t.kind == 10) with
  | false =>
    have HF := Lib.hid (paired_kind hk)
    go_enter Tryd.func118, Tryd.ntmps118
    go_wp2_with fail
    go_ret
    exact ⟨ret_bool HF.out.symm, HW.out⟩
  | true =>
    have hp := paired_len hk
    rw [← len_mod (by omega)] at hp
    have HF := Lib.hid hp
    clear hp
    go_enter Tryd.func118, Tryd.ntmps118
    go_wp2_with fail
    go_ret
    exact ⟨ret_bool HF.out.symm, HW.out⟩


end Go.Proofs.YtilmhemcpgiikaaDoor
/- Plain laws of SortMap: pairs are put in by their names, one after the other. -/
namespace Go.Proofs.YtilmhemcpgiikaaDoor

section
variable {α β : Type}
/-- Behind which of the first k pairs a name comes. -/
def kF (lt : α → α → Bool) (x : α) (σ : List α) : Nat → Nat
  | 0 => 0
  | k + 1 => match σ[2 * k]? with | some y => if lt x y = true then kF lt x σ k else k + 1 | none => k + 1
def insF (lt : α → α → Bool) (x y : α) (σ : List α) : List α := σ.take (2 * kF lt x σ (σ.length / 2)) ++ x :: y :: σ.drop (2 * kF lt x σ (σ.length / 2))
/-- The first i pairs, sorted. -/
def sortF (lt : α → α → Bool) (l : List α) : Nat → List α
  | 0 => []
  | i + 1 => match l[2 * i]?, l[2 * i + 1]? with | some x, some y => insF lt x y (sortF lt l i) | _, _ => sortF lt l i

theorem kF_le (lt : α → α → Bool) (x : α) (σ : List α) : ∀ k, kF lt x σ k ≤ k
  | 0 => Nat.le_refl _
  | k + 1 => by
    have := kF_le lt x σ k
    rw [kF]
    split
    · split <;> omega
    · omega
theorem kF_yes {lt : α → α → Bool} {x : α} {σ : List α} {k : Nat} {h : 2 * k < σ.length} (hl : lt x σ[2 * k] = true) : kF lt x σ (k + 1) = kF lt x σ k := by
  rw [kF, List.getElem?_eq_getElem h]
  exact if_pos hl
theorem kF_no {lt : α → α → Bool} {x : α} {σ : List α} {k : Nat} {h : 2 * k < σ.length} (hl : lt x σ[2 * k] = false) : kF lt x σ (k + 1) = k + 1 := by
  rw [kF, List.getElem?_eq_getElem h]
  exact if_neg (by rw [hl]; simp)
theorem insF_len (lt : α → α → Bool) (x y : α) (σ : List α) : (insF lt x y σ).length = σ.length + 2 := by
  have h := kF_le lt x σ (σ.length / 2)
  unfold insF
  simp only [List.length_append, List.length_cons, List.length_take, List.length_drop]
  omega
theorem sortF_succ {lt : α → α → Bool} {l : List α} {i : Nat} (h : 2 * i + 1 < l.length) : sortF lt l (i + 1) = insF lt l[2 * i] l[2 * i + 1] (sortF lt l i) := by
  rw [sortF, List.getElem?_eq_getElem (by omega), List.getElem?_eq_getElem h]
theorem sortF_len {lt : α → α → Bool} {l : List α} : ∀ {i : Nat}, 2 * i ≤ l.length → (sortF lt l i).length = 2 * i
  | 0, _ => rfl
  | i + 1, h => by rw [sortF_succ (by omega), insF_len, sortF_len (i := i) (by omega)]; omega
theorem insF_perm (lt : α → α → Bool) (x y : α) (σ : List α) : (insF lt x y σ).Perm (σ ++ [x, y]) := by
  unfold insF
  generalize 2 * kF lt x σ (σ.length / 2) = k
  have h1 : (x :: y :: σ.drop k).Perm (σ.drop k ++ [x, y]) := List.perm_append_comm (l₁ := [x, y])
  have h2 := List.Perm.append_left (σ.take k) h1
  rw [← List.append_assoc, List.take_append_drop] at h2
  exact h2
theorem take_two {l : List α} {i : Nat} (h : 2 * i + 1 < l.length) : l.take (2 * (i + 1)) = l.take (2 * i) ++ [l[2 * i], l[2 * i + 1]] := by
  have e1 : l.take (2 * i + 1 + 1) = l.take (2 * i + 1) ++ [l[2 * i + 1]] := List.take_succ_eq_append_getElem h
  have e2 : l.take (2 * i + 1) = l.take (2 * i) ++ [l[2 * i]] := List.take_succ_eq_append_getElem (by omega)
  have e3 : 2 * (i + 1) = 2 * i + 1 + 1 := by omega
  rw [e3, e1, e2, List.append_assoc]
  rfl
theorem sortF_perm {lt : α → α → Bool} {l : List α} : ∀ {i : Nat}, 2 * i ≤ l.length → (sortF lt l i).Perm (l.take (2 * i))
  | 0, _ => by simp [sortF]
  | i + 1, h => by
    rw [sortF_succ (by omega), take_two (by omega)]
    exact (insF_perm ..).trans ((sortF_perm (i := i) (by omega)).append_right _)
theorem kF_map {f : α → β} {lt : α → α → Bool} {lt' : β → β → Bool} (hf : ∀ a b, lt' (f a) (f b) = lt a b) (x : α) (σ : List α) : ∀ k, kF lt' (f x) (σ.map f) k = kF lt x σ k
  | 0 => rfl
  | k + 1 => by
    rw [kF, kF, List.getElem?_map, kF_map hf x σ k]
    cases σ[2 * k]? with
    | none => rfl
    | some y => simp only [Option.map_some, hf]
theorem insF_map {f : α → β} {lt : α → α → Bool} {lt' : β → β → Bool} (hf : ∀ a b, lt' (f a) (f b) = lt a b) (x y : α) (σ : List α) : insF lt' (f x) (f y) (σ.map f) = (insF lt x y σ).map f := by
  unfold insF
  rw [List.length_map, kF_map hf]
  simp [List.map_take, List.map_drop]
theorem sortF_map {f : α → β} {lt : α → α → Bool} {lt' : β → β → Bool} (hf : ∀ a b, lt' (f a) (f b) = lt a b) (l : List α) : ∀ {i : Nat}, 2 * i ≤ l.length → sortF lt' (l.map f) i = (sortF lt l i).map f
  | 0, _ => rfl
  | i + 1, h => by
    rw [sortF_succ (by rw [List.length_map]; omega), sortF_succ (by omega), List.getElem_map, List.getElem_map, sortF_map hf l (i := i) (by omega), insF_map hf]
end
/-- What SortMap gives. -/
def sortT (t : Tree) : Tree := if pairedB t = true then .mk t.kind t.n t.x t.s (sortF lessT t.l (t.l.length / 2)) else t
end Go.Proofs.YtilmhemcpgiikaaDoor
/- Rows of trees by their elements: what putting pairs in their places leaves. -/
namespace Go.Proofs.YtilmhemcpgiikaaDoor
open Go.Deep Go.ChangeShapes Go.WideShapes Go.ChangeAt Go.RowKit

section
variable {α : Type}
/-- A pair on its way down: ahead of it the first K pairs of the sorted ones, behind it the others, then what is not sorted yet. -/
def midF (σ : List α) (K : Nat) (x y : α) (r : List α) : List α := σ.take (2 * K) ++ x :: y :: (σ.drop (2 * K) ++ r)
variable {σ r : List α} {K : Nat} {x y a b : α}
theorem mid_len (h : 2 * K ≤ σ.length) : (midF σ K x y r).length = σ.length + 2 + r.length := by
  unfold midF
  simp only [List.length_append, List.length_cons, List.length_take, List.length_drop]; omega
theorem mid_get0 (h : 2 * K ≤ σ.length) : (midF σ K x y r)[2 * K]? = some x := by
  unfold midF
  have : (σ.take (2 * K)).length = 2 * K := by rw [List.length_take]; omega
  rw [List.getElem?_append_right (by omega), this, Nat.sub_self]; rfl
theorem mid_get1 (h : 2 * K ≤ σ.length) : (midF σ K x y r)[2 * K + 1]? = some y := by
  unfold midF
  have : (σ.take (2 * K)).length = 2 * K := by rw [List.length_take]; omega
  rw [List.getElem?_append_right (by omega), this, Nat.add_sub_cancel_left]; rfl
theorem mid_low {j : Nat} (h : 2 * K ≤ σ.length) (hj : j < 2 * K) : (midF σ K x y r)[j]? = σ[j]? := by
  unfold midF
  have : (σ.take (2 * K)).length = 2 * K := by rw [List.length_take]; omega
  rw [List.getElem?_append_left (by omega), List.getElem?_take, if_pos hj]
theorem split_at2 (h : 2 * (K + 1) ≤ σ.length) : ∃ p q, p.length = 2 * K ∧ σ = p ++ σ[2 * K] :: σ[2 * K + 1] :: q := by
  refine ⟨σ.take (2 * K), σ.drop (2 * K + 2), by rw [List.length_take]; omega, ?_⟩
  have e1 : σ.drop (2 * K) = σ[2 * K] :: σ.drop (2 * K + 1) := List.drop_eq_getElem_cons (by omega)
  have e2 : σ.drop (2 * K + 1) = σ[2 * K + 1] :: σ.drop (2 * K + 2) := List.drop_eq_getElem_cons (by omega)
  rw [← e2, ← e1, List.take_append_drop]
theorem mid_swap (h : 2 * (K + 1) ≤ σ.length) (ha : σ[2 * K]? = some a) (hb : σ[2 * K + 1]? = some b) :
    ((((midF σ (K + 1) x y r).set (2 * K + 2) a).set (2 * K) x).set (2 * K + 3) b).set (2 * K + 1) y = midF σ K x y r := by
  obtain ⟨p, q, hp, e⟩ := split_at2 h
  have e0 : σ[2 * K] = a := by rw [List.getElem?_eq_getElem (by omega)] at ha; exact Option.some.inj ha
  have e1 : σ[2 * K + 1] = b := by rw [List.getElem?_eq_getElem (by omega)] at hb; exact Option.some.inj hb
  rw [e0, e1] at e
  clear ha hb e0 e1
  subst e
  have t1 : (p ++ a :: b :: q).take (2 * (K + 1)) = p ++ [a, b] := by
    rw [List.take_append, hp, List.take_of_length_le (by omega), show 2 * (K + 1) - 2 * K = 2 by omega]; rfl
  have d1 : (p ++ a :: b :: q).drop (2 * (K + 1)) = q := by
    rw [List.drop_append, hp, List.drop_of_length_le (by omega), show 2 * (K + 1) - 2 * K = 2 by omega]; rfl
  have t0 : (p ++ a :: b :: q).take (2 * K) = p := by
    rw [List.take_append, hp, List.take_of_length_le (by omega), Nat.sub_self]; simp
  have d0 : (p ++ a :: b :: q).drop (2 * K) = a :: b :: q := by
    rw [List.drop_append, hp, List.drop_of_length_le (by omega), Nat.sub_self]; simp
  unfold midF
  rw [t1, d1, t0, d0, List.append_assoc]
  show ((((p ++ a :: b :: x :: y :: (q ++ r)).set (2 * K + 2) a).set (2 * K) x).set (2 * K + 3) b).set (2 * K + 1) y = p ++ x :: y :: a :: b :: (q ++ r)
  rw [List.set_append_right _ _ (by omega), List.set_append_right _ _ (by omega), List.set_append_right _ _ (by omega), List.set_append_right _ _ (by omega), hp,
    show 2 * K + 2 - 2 * K = 2 by omega, Nat.sub_self, show 2 * K + 3 - 2 * K = 3 by omega, show 2 * K + 1 - 2 * K = 1 by omega]
  rfl
theorem drop_two {l : List α} {i : Nat} (h : 2 * i + 1 < l.length) : l.drop (2 * i) = l[2 * i] :: l[2 * i + 1] :: l.drop (2 * (i + 1)) := by
  have e1 : l.drop (2 * i) = l[2 * i] :: l.drop (2 * i + 1) := List.drop_eq_getElem_cons (by omega)
  have e2 : l.drop (2 * i + 1) = l[2 * i + 1] :: l.drop (2 * i + 2) := List.drop_eq_getElem_cons (by omega)
  rw [e1, e2]; rfl
variable {lt : α → α → Bool} {l : List α} {i : Nat}
/-- How the pair i goes in. -/
theorem mid_start (h : 2 * i + 1 < l.length) : sortF lt l i ++ l.drop (2 * i) = midF (sortF lt l i) i l[2 * i] l[2 * i + 1] (l.drop (2 * (i + 1))) := by
  have hl := sortF_len (lt := lt) (l := l) (i := i) (by omega)
  unfold midF
  rw [drop_two h, List.take_of_length_le (l := sortF lt l i) (by omega), List.drop_of_length_le (l := sortF lt l i) (by omega), List.nil_append]
theorem mid_end (h : 2 * i + 1 < l.length) (hK : K = kF lt l[2 * i] (sortF lt l i) i) : midF (sortF lt l i) K l[2 * i] l[2 * i + 1] (l.drop (2 * (i + 1))) = sortF lt l (i + 1) ++ l.drop (2 * (i + 1)) := by
  have hl := sortF_len (lt := lt) (l := l) (i := i) (by omega)
  rw [sortF_succ h]
  unfold midF insF
  rw [hl, show 2 * i / 2 = i by omega, ← hK, List.append_assoc]
  rfl
theorem kF_le' (lt : α → α → Bool) (x : α) (σ : List α) (k : Nat) : kF lt x σ k ≤ k := kF_le lt x σ k
theorem sort_all {n : Nat} (h : l.length = 2 * n) : sortF lt l n ++ l.drop (2 * n) = sortF lt l n := by
  rw [List.drop_of_length_le (by omega), List.append_nil]
theorem mid_perm : (midF σ K x y r).Perm (σ ++ x :: y :: r) := by
  unfold midF
  have h1 : (x :: y :: (σ.drop (2 * K) ++ r)).Perm (σ.drop (2 * K) ++ x :: y :: r) := by
    have : (x :: y :: (σ.drop (2 * K) ++ r)) = [x, y] ++ σ.drop (2 * K) ++ r := rfl
    rw [this]
    have e2 : σ.drop (2 * K) ++ x :: y :: r = σ.drop (2 * K) ++ [x, y] ++ r := by simp
    rw [e2]
    exact (List.perm_append_comm).append_right r
  have h2 := List.Perm.append_left (σ.take (2 * K)) h1
  rw [← List.append_assoc (σ.take (2 * K)), List.take_append_drop] at h2
  exact h2
theorem sort_state_perm (h : 2 * i ≤ l.length) : (sortF lt l i ++ l.drop (2 * i)).Perm l := by
  have := (sortF_perm (lt := lt) (l := l) (i := i) h).append_right (l.drop (2 * i))
  rwa [List.take_append_drop] at this
theorem mid_perm_all (h : 2 * i + 1 < l.length) : (midF (sortF lt l i) K l[2 * i] l[2 * i + 1] (l.drop (2 * (i + 1)))).Perm l := by
  refine mid_perm.trans ?_
  rw [← drop_two h]
  exact sort_state_perm (by omega)
end

def ltE (a b : Elem) : Bool := lessT a.t b.t
theorem sortE_map (es : List Elem) {i : Nat} (h : 2 * i ≤ es.length) : (sortF ltE es i).map (·.t) = sortF lessT (es.map (·.t)) i := (sortF_map (f := fun e : Elem => e.t) (lt := ltE) (lt' := lessT) (fun _ _ => rfl) es h).symm

/-- A block whose first elements are these. -/
def RowE (w : World) (g cap : Nat) (T : TypeId) (es : List Elem) : Prop :=
  es.length ≤ cap ∧ ∃ f, w.rowIs g T (cap * 5) f ∧ ∀ j (h : j < es.length), Cells5 f j es[j].t es[j].u
/-- Element j written. -/
def set5 (w : World) (g j : Nat) (e : Elem) : World := ((((w.setCell ⟨g, j * 5, none⟩ (.int .i64 e.t.kind)).setCell ⟨g, j * 5 + 1, none⟩ (.int .i64 e.t.n)).setCell ⟨g, j * 5 + 2, none⟩ (.int .i64 e.t.x)).setCell ⟨g, j * 5 + 3, none⟩ (.string e.t.s)).setCell ⟨g, j * 5 + 4, none⟩ e.u
section
variable {w w' : World} {g cap lo : Nat} {T : TypeId} {es es' : List Elem}
theorem RowE.set (h : RowE w g cap T es) {j : Nat} (e : Elem) : RowE (set5 w g j e) g cap T (es.set j e) := by
  obtain ⟨hl, f, hr, hc⟩ := h
  refine ⟨by simpa using hl, _, ((((hr.set (j * 5) (.int .i64 e.t.kind)).set (j * 5 + 1) (.int .i64 e.t.n)).set (j * 5 + 2) (.int .i64 e.t.x)).set (j * 5 + 3) (.string e.t.s)).set (j * 5 + 4) e.u, fun i hi => ?_⟩
  have hi' : i < es.length := by simpa using hi
  by_cases e' : i = j
  · subst e'
    rw [List.getElem_set_self]
    refine ⟨?_, ?_, ?_, ?_, ?_⟩ <;> (show (if _ then _ else _) = _; simp)
  · rw [List.getElem_set_ne (Ne.symm e')]
    obtain ⟨e0, e1, e2, e3, e4⟩ := hc i hi'
    refine ⟨?_, ?_, ?_, ?_, ?_⟩
    · simp only [show ¬ i * 5 = j * 5 + 4 by omega, show ¬ i * 5 = j * 5 + 3 by omega, show ¬ i * 5 = j * 5 + 2 by omega, show ¬ i * 5 = j * 5 + 1 by omega, show ¬ i * 5 = j * 5 by omega, if_false]; exact e0
    · simp only [show ¬ i * 5 + 1 = j * 5 + 4 by omega, show ¬ i * 5 + 1 = j * 5 + 3 by omega, show ¬ i * 5 + 1 = j * 5 + 2 by omega, show ¬ i * 5 + 1 = j * 5 + 1 by omega, show ¬ i * 5 + 1 = j * 5 by omega, if_false]; exact e1
    · simp only [show ¬ i * 5 + 2 = j * 5 + 4 by omega, show ¬ i * 5 + 2 = j * 5 + 3 by omega, show ¬ i * 5 + 2 = j * 5 + 2 by omega, show ¬ i * 5 + 2 = j * 5 + 1 by omega, show ¬ i * 5 + 2 = j * 5 by omega, if_false]; exact e2
    · simp only [show ¬ i * 5 + 3 = j * 5 + 4 by omega, show ¬ i * 5 + 3 = j * 5 + 3 by omega, show ¬ i * 5 + 3 = j * 5 + 2 by omega, show ¬ i * 5 + 3 = j * 5 + 1 by omega, show ¬ i * 5 + 3 = j * 5 by omega, if_false]; exact e3
    · simp only [show ¬ i * 5 + 4 = j * 5 + 4 by omega, show ¬ i * 5 + 4 = j * 5 + 3 by omega, show ¬ i * 5 + 4 = j * 5 + 2 by omega, show ¬ i * 5 + 4 = j * 5 + 1 by omega, show ¬ i * 5 + 4 = j * 5 by omega, if_false]; exact e4
theorem set5_block (w : World) (g j : Nat) (e : Elem) {b : Nat} (h : b ≠ g) : (set5 w g j e).heap[b]? = w.heap[b]? := by
  unfold set5
  rw [Below.heap_setCell _ _ _ _ h, Below.heap_setCell _ _ _ _ h, Below.heap_setCell _ _ _ _ h, Below.heap_setCell _ _ _ _ h, Below.heap_setCell _ _ _ _ h]
theorem set5_size (w : World) (g j : Nat) (e : Elem) : (set5 w g j e).heap.size = w.heap.size := by simp [set5, World.setCell]
theorem RowE.of_block (h : RowE w g cap T es) (e : w'.heap[g]? = w.heap[g]?) : RowE w' g cap T es := by
  obtain ⟨hl, f, hr, hc⟩ := h
  exact ⟨hl, f, hr.of_block e, hc⟩
theorem RowE.drew (h : RowE w g cap T es) : RowE w.drew g cap T es := h.of_block rfl
theorem RowE.lt (h : RowE w g cap T es) : g < w.heap.size := by
  obtain ⟨_, f, hr, _⟩ := h
  exact hr.lt
theorem RowE.kept (h : RowE w g cap T es) (hb : Below w.heap.size w w') : RowE w' g cap T es := h.of_block (hb.block _ h.lt)
/-- The five cells of an element. -/
theorem RowE.cells (h : RowE w g cap T es) {j : Nat} {e : Elem} (he : es[j]? = some e) :
    w.cell? ⟨g, j * 5, none⟩ = some (.int .i64 e.t.kind) ∧ w.cell? ⟨g, j * 5 + 1, none⟩ = some (.int .i64 e.t.n) ∧ w.cell? ⟨g, j * 5 + 2, none⟩ = some (.int .i64 e.t.x) ∧
    w.cell? ⟨g, j * 5 + 3, none⟩ = some (.string e.t.s) ∧ w.cell? ⟨g, j * 5 + 4, none⟩ = some e.u := by
  obtain ⟨hl, f, hr, hc⟩ := h
  obtain ⟨hj, rfl⟩ := List.getElem?_eq_some_iff.1 he
  obtain ⟨e0, e1, e2, e3, e4⟩ := hc j hj
  have h0 := hr.cell (i := j * 5) (by omega)
  have h1 := hr.cell (i := j * 5 + 1) (by omega)
  have h2 := hr.cell (i := j * 5 + 2) (by omega)
  have h3 := hr.cell (i := j * 5 + 3) (by omega)
  have h4 := hr.cell (i := j * 5 + 4) (by omega)
  rw [e0] at h0; rw [e1] at h1; rw [e2] at h2; rw [e3] at h3; rw [e4] at h4
  exact ⟨h0, h1, h2, h3, h4⟩
theorem RowE.frozen (h : RowE w g cap T es) (i : Nat) : w.frozen? ⟨g, i, none⟩ = false := by
  obtain ⟨_, f, hr, _⟩ := h
  exact hr.frozen i

/-- The elements are right, what they own is below, apart from each other and from block g. -/
def EsOk (w : World) (T : TypeId) (lo g : Nat) (es : List Elem) : Prop :=
  (∀ e ∈ es, Fits e.t.kind e.t.n e.t.x e.t.s ∧ OSl w T e.u e.t.l e.S ∧ ∀ b, e.S b → lo ≤ b ∧ b < w.heap.size ∧ b ≠ g) ∧ es.Pairwise (fun p q => ∀ b, p.S b → q.S b → False)
theorem EsOk.perm (h : EsOk w T lo g es) (hp : es'.Perm es) : EsOk w T lo g es' := by
  refine ⟨fun e he => h.1 e (hp.mem_iff.1 he), ?_⟩
  exact (hp.pairwise_iff (fun hxy b hb hb' => hxy b hb' hb)).2 h.2
theorem EsOk.kept (h : EsOk w T lo g es) (hs : w.heap.size ≤ w'.heap.size) (hb : ∀ b, b < w.heap.size → b ≠ g → w'.heap[b]? = w.heap[b]?) : EsOk w' T lo g es :=
  ⟨fun e he => by
    obtain ⟨h1, h2, h3⟩ := h.1 e he
    exact ⟨h1, h2.kept (fun b hS => hb b (h3 b hS).2.1 (h3 b hS).2.2), fun b hS => ⟨(h3 b hS).1, Nat.lt_of_lt_of_le (h3 b hS).2.1 hs, (h3 b hS).2.2⟩⟩, h.2⟩
theorem EsOk.other {g' : Nat} (h : EsOk w T lo g es) (hg : w.heap.size ≤ g') : EsOk w T lo g' es :=
  ⟨fun e he => by
    obtain ⟨h1, h2, h3⟩ := h.1 e he
    exact ⟨h1, h2, fun b hS => ⟨(h3 b hS).1, (h3 b hS).2.1, by have := (h3 b hS).2.1; omega⟩⟩, h.2⟩
theorem EsOk.form (h : EsOk w T lo g es) {e : Elem} (he : e ∈ es) : ∃ a cap, e.u = .slice a e.t.l.length cap := by
  have h2 := (h.1 e he).2.1
  generalize e.u = v at *
  generalize e.t.l = l at *
  cases h2 with
  | nil a cap S h => exact ⟨a, cap, rfl⟩
  | row => exact ⟨_, _, rfl⟩

/-- A copy's elements, opened. -/
theorem osl_open {v : Value} {l : List Tree} {hi : Nat} (h : OSl w T v l (Rng lo hi)) (hhi : hi ≤ w.heap.size) (h0 : 0 < l.length) :
    ∃ (g cap : Nat) (es : List Elem), v = .slice (some ⟨g, 0, none⟩) l.length cap ∧ es.map (·.t) = l ∧ es.length = l.length ∧ RowE w g cap T es ∧ cap ≤ maxLen ∧ lo ≤ g ∧ g < hi ∧ EsOk w T lo g es := by
  cases h with
  | nil a cap S h => simp at h0
  | @row g cap f l us Si S h0 hrow hcap hmax hc hsub hS hSi hd =>
    refine ⟨g, cap, (List.range l.length).map (fun j => ⟨(l[j]?).getD (.mk 0 0 0 { data := #[] } []), us j, Si j⟩), rfl, ?_, by simp, ⟨by simpa using hcap, f, hrow, fun j hj => ?_⟩, hmax, hS.1, hS.2, fun e he => ?_, ?_⟩
    · apply List.ext_getElem?
      intro j
      simp only [List.map_map, List.getElem?_map]
      by_cases hj : j < l.length
      · rw [List.getElem?_range hj, List.getElem?_eq_getElem hj]
        simp [List.getElem?_eq_getElem hj]
      · rw [List.getElem?_eq_none (l := List.range l.length) (by simp; omega), List.getElem?_eq_none (l := l) (by omega)]; rfl
    · have hj' : j < l.length := by simpa using hj
      rw [List.getElem_map, List.getElem_range]
      simp only [List.getElem?_eq_getElem hj', Option.getD_some]
      exact (hc j hj').1
    · obtain ⟨j, hj, rfl⟩ := List.mem_map.1 he
      have hj' : j < l.length := List.mem_range.1 hj
      simp only [List.getElem?_eq_getElem hj', Option.getD_some]
      refine ⟨(hc j hj').2, hsub j hj', fun b hb => ?_⟩
      obtain ⟨h1, h2⟩ := hSi j b hj' hb
      exact ⟨h1.1, Nat.lt_of_lt_of_le h1.2 hhi, h2⟩
    · rw [List.pairwise_map]
      refine List.pairwise_iff_getElem.2 fun i j hi hj hij b hb hb' => ?_
      simp only [List.getElem_range] at hb hb'
      exact hd i j b (by simpa using hi) (by simpa using hj) (by omega) hb hb'
/-- .. and shut again. -/
theorem osl_shut (h : RowE w g cap T es) (hm : cap ≤ maxLen) (he : EsOk w T lo g es) (hlo : lo ≤ g) {l : List Tree} (hl : es.map (·.t) = l) : OSl w T (.slice (some ⟨g, 0, none⟩) l.length cap) l (Rng lo w.heap.size) := by
  subst hl
  have hlt := h.lt
  obtain ⟨hcap, f, hr, hc⟩ := h
  have hlen : (es.map (·.t)).length = es.length := by simp
  by_cases h0 : es.length = 0
  · have : es = [] := List.eq_nil_of_length_eq_zero h0
    subst this
    exact .nil _ _ _ hm
  refine OSl.row (us := fun j => (es[j]?.map (·.u)).getD undef) (Si := fun j => (es[j]?.map (·.S)).getD (fun _ => False)) (f := f) (by rw [hlen]; omega) hr (by rw [hlen]; exact hcap) hm ?_ ?_ ⟨hlo, hlt⟩ ?_ ?_
  · intro j hj
    have hj' : j < es.length := by rwa [hlen] at hj
    have hm := he.1 es[j] (List.getElem_mem hj')
    rw [List.getElem_map]
    simp only [List.getElem?_eq_getElem hj', Option.map_some, Option.getD_some]
    exact ⟨hc j hj', hm.1⟩
  · intro j hj
    have hj' : j < es.length := by rwa [hlen] at hj
    have hm := he.1 es[j] (List.getElem_mem hj')
    simpa [List.getElem?_eq_getElem hj'] using hm.2.1
  · intro j b hj hb
    have hj' : j < es.length := by rwa [hlen] at hj
    have hm := (he.1 es[j] (List.getElem_mem hj')).2.2 b (by simpa [List.getElem?_eq_getElem hj'] using hb)
    exact ⟨⟨hm.1, hm.2.1⟩, hm.2.2⟩
  · intro i j b hi hj hne hbi hbj
    have hi' : i < es.length := by rwa [hlen] at hi
    have hj' : j < es.length := by rwa [hlen] at hj
    rw [List.getElem?_eq_getElem hi'] at hbi
    rw [List.getElem?_eq_getElem hj'] at hbj
    simp only [Option.map_some, Option.getD_some] at hbi hbj
    have hpw := List.pairwise_iff_getElem.1 he.2
    rcases Nat.lt_or_gt_of_ne hne with hlt' | hlt'
    · exact hpw i j hi' hj' hlt' b hbi hbj
    · exact hpw j i hj' hi' hlt' b hbj hbi
end
theorem costL_perm {l l' : List Tree} (h : l.Perm l') : costL l = costL l' := by
  induction h with
  | nil => rfl
  | cons x _ ih => rw [costL, costL, ih]
  | swap x y l => rw [costL, costL, costL, costL]; omega
  | trans _ _ h1 h2 => exact h1.trans h2
theorem sortT_parts (t : Tree) : (sortT t).kind = t.kind ∧ (sortT t).n = t.n ∧ (sortT t).x = t.x ∧ (sortT t).s = t.s := by
  unfold sortT
  split <;> exact ⟨rfl, rfl, rfl, rfl⟩
theorem sortT_cost (t : Tree) : (sortT t).cost = t.cost := by
  rw [Tree.cost_eq, Tree.cost_eq, (sortT_parts t).2.2.2]
  unfold sortT
  split
  · rename_i h
    have h2 : t.l.length = 2 * (t.l.length / 2) := by
      unfold pairedB at h
      simp only [Bool.and_eq_true, beq_iff_eq] at h
      omega
    have hp := sortF_perm (lt := lessT) (l := t.l) (i := t.l.length / 2) (by omega)
    rw [List.take_of_length_le (by omega)] at hp
    rw [Tree.l_mk, costL_perm hp]
  · rfl
theorem sortT_fits {t : Tree} (h : Fits t.kind t.n t.x t.s) : Fits (sortT t).kind (sortT t).n (sortT t).x (sortT t).s := by
  obtain ⟨h1, h2, h3, h4⟩ := sortT_parts t
  rw [h1, h2, h3, h4]; exact h
theorem sort_one {α : Type} {lt : α → α → Bool} {l : List α} (h : 2 ≤ l.length) : sortF lt l 1 ++ l.drop 2 = l := by
  have h1 := mid_start (lt := lt) (l := l) (i := 0) (by omega)
  have h2 := mid_end (lt := lt) (l := l) (i := 0) (K := 0) (by omega) rfl
  exact h2.symm.trans (h1.symm.trans (by simp [sortF]))
section
variable {w w' : World} {g cap lo : Nat} {T : TypeId} {es es' : List Elem} {v : Value}
theorem cells5_get (t : Tree) (u : Value) (r : Nat) {x : Value} (h : (cells5 t u)[r]? = some x) : r < 5 := by
  have := (List.getElem?_eq_some_iff.1 h).1
  simpa [cells5] using this
/-- An own row that is not empty, by its elements. -/
theorem rowE_of (h : w.ownsRow lo T 5 v es.length (es.flatMap Elem.cells)) (h0 : 0 < es.length) : ∃ g cap, v = .slice (some ⟨g, 0, none⟩) es.length cap ∧ RowE w g cap T es ∧ cap ≤ maxLen ∧ lo ≤ g := by
  rcases h.2 with ⟨_, h1⟩ | ⟨g, cap, cur, rfl, hb, hg, hnc, hcm, hcs, htake⟩
  · omega
  refine ⟨g, cap, rfl, ⟨hnc, fun i => cur.getD i undef, ⟨cur, hg, hcs, fun i hi => by simp [Array.getD, show i < cur.size by omega]⟩, fun j hj => ?_⟩, hcm, hb⟩
  have hcell : ∀ r, r < 5 → some (cur.getD (j * 5 + r) undef) = (cells5 es[j].t es[j].u)[r]? := by
    intro r hr
    rw [← flat_get es hj r hr, ← htake, List.getElem?_take, if_pos (by omega), Array.getElem?_toList]
    have : j * 5 + r < cur.size := by omega
    simp [Array.getD, this]
  refine ⟨?_, ?_, ?_, ?_, ?_⟩
  · have := hcell 0 (by omega); simpa [cells5] using this
  · have := hcell 1 (by omega); simpa [cells5] using this
  · have := hcell 2 (by omega); simpa [cells5] using this
  · have := hcell 3 (by omega); simpa [cells5] using this
  · have := hcell 4 (by omega); simpa [cells5] using this
/-- The cells of some elements in a row, as an append takes them. -/
theorem news_of (h : RowE w g cap T es) (a b : Nat) : ∀ j u, (((es.drop a).take b).flatMap Elem.cells)[j]? = some u → w.cell? ((⟨g, a * 5, none⟩ : Addr).add j) = some u := by
  intro j u hj
  have hlt : j < (((es.drop a).take b).flatMap Elem.cells).length := (List.getElem?_eq_some_iff.1 hj).1
  rw [flat_len] at hlt
  have hq : j / 5 < ((es.drop a).take b).length := by omega
  have hjq : j = j / 5 * 5 + j % 5 := by omega
  have hr : j % 5 < 5 := Nat.mod_lt _ (by decide)
  generalize j / 5 = q at *
  generalize j % 5 = r at *
  subst hjq
  rw [flat_get _ hq r hr] at hj
  have hq2 : a + q < es.length := by
    rw [List.length_take, List.length_drop] at hq; omega
  have he : ((es.drop a).take b)[q] = es[a + q] := by rw [List.getElem_take, List.getElem_drop]
  rw [he] at hj
  have hadd : (⟨g, a * 5, none⟩ : Addr).add (q * 5 + r) = ⟨g, a * 5 + (q * 5 + r), none⟩ := by unfold Addr.add; split <;> simp_all
  obtain ⟨c0, c1, c2, c3, c4⟩ := h.cells (List.getElem?_eq_getElem hq2)
  rw [hadd, show a * 5 + (q * 5 + r) = (a + q) * 5 + r by omega]
  match r, hr with
  | 0, _ => rw [Nat.add_zero, c0, ← hj]; rfl
  | 1, _ => rw [c1, ← hj]; rfl
  | 2, _ => rw [c2, ← hj]; rfl
  | 3, _ => rw [c3, ← hj]; rfl
  | 4, _ => rw [c4, ← hj]; rfl
theorem news_one (l : List Elem) (h : ∀ e ∈ l, ∃ a n c, e.u = .slice a n c) : ∀ x ∈ l.flatMap Elem.cells, x.oneCell' = true := by
  intro x hx
  obtain ⟨e, he, hx⟩ := List.mem_flatMap.1 hx
  obtain ⟨a, n, c, hu⟩ := h e he
  have := one5 e.t a n c x
  rw [← hu] at this
  exact this hx
theorem EsOk.forms (h : EsOk w T lo g es) : ∀ e ∈ es, ∃ a n c, e.u = .slice a n c := fun e he => by
  obtain ⟨a, c, hu⟩ := h.form he
  exact ⟨a, _, c, hu⟩
end
section
variable {P : Program} (w : World)
/-- append to a row that is not nil: there may be nothing to append. -/
theorem run_append_z (t ty : TypeId) (base : Nat) (e : TypeId) (i : TypeInfo) (z : Value) (size bytes : Nat) (ht : P.underlying t = some (.slice e)) (hi : P.info? e = some i) (hz : i.zero = some z)
    (hsize : i.size = size) (hby : i.bytes = bytes) (hzs : z.cells.size = size) (hsz : 0 < size)
    (v : Value) (n : Nat) (xs : List Value) (hown : w.ownsRow base e size v n xs) (hv : v ≠ .slice none 0 0)
    (ad : Addr) (m c : Nat) (news : List Value) (hl : news.length = m * size) (hnews : ∀ j u, news[j]? = some u → w.cell? (ad.add j) = some u) (h1 : ∀ u ∈ news, u.oneCell' = true)
    (h63 : n + m ≤ maxLen) (hbytes : (n + m) * bytes ≤ 140737488355328) (hbase : base ≤ w.heap.size) :
    ∃ g cap w', (Builtin.append_ #[t, t] ty #[v, .slice (some ad) m c]).run P w = .ok (.slice (some ⟨g, 0, none⟩) (n + m) cap) w' ∧
      w'.ownsRow base e size (.slice (some ⟨g, 0, none⟩) (n + m) cap) (n + m) (xs ++ news) ∧ w.grownBy w' v.ownBlock ∧ (v.ownBlock = some g ∨ g = w.heap.size) ∧ g < w'.heap.size := by
  obtain ⟨v', w', hr, h2, h3, h4, h5⟩ := run_append_own_at (P := P) w base t ty e i z size bytes ht hi hz hsize hby hzs hsz v n xs hown ad m c news hl hnews h1 h63 hbytes hbase
  rcases h2.2 with ⟨hn, _⟩ | ⟨g, cap, cur, rfl, hb, hg, _⟩
  · exact absurd (h4.1 hn).1 hv
  refine ⟨g, cap, w', hr, h2, h3, ?_, (Array.getElem?_eq_some_iff.1 hg).1⟩
  rcases h5 with h5 | h5
  · exact .inl (by rw [← h5]; rfl)
  · exact .inr (by simpa [Value.ownBlock] using h5)
end
/-- Nothing but block g has turned since. -/
structure Sv (g : Nat) (a w : World) : Prop where
  os : w.os = a.os
  tape : w.tape = a.tape
  output : w.output = a.output
  size : a.heap.size ≤ w.heap.size
  block : ∀ b, b < a.heap.size → b ≠ g → w.heap[b]? = a.heap[b]?
section
variable {g lo cap : Nat} {a w w1 : World} {T : TypeId} {es : List Elem}
theorem Sv.refl (g : Nat) (a : World) : Sv g a a := ⟨rfl, rfl, rfl, Nat.le_refl _, fun _ _ _ => rfl⟩
theorem Sv.below (h : Sv g a w) (hb : Below w.heap.size w w1) : Sv g a w1 :=
  ⟨hb.os.trans h.os, hb.tape.trans h.tape, hb.output.trans h.output, Nat.le_trans h.size hb.size, fun b hlt hne => (hb.block b (Nat.lt_of_lt_of_le hlt h.size)).trans (h.block b hlt hne)⟩
theorem Sv.drew (h : Sv g a w) : Sv g a w.drew := h.below (Below.refl _ _).drew
theorem Sv.set (h : Sv g a w) (j : Nat) (v : Value) : Sv g a (w.setCell ⟨g, j, none⟩ v) :=
  ⟨h.os, h.tape, h.output, by simpa [World.setCell] using h.size, fun b hlt hne => (Below.heap_setCell _ _ _ _ hne).trans (h.block b hlt hne)⟩
theorem Sv.set5 (h : Sv g a w) (j : Nat) (e : Elem) : Sv g a (set5 w g j e) := ((((h.set _ _).set _ _).set _ _).set _ _).set _ _
theorem Sv.toBelow {B : Nat} {b0 : World} (h : Sv g a w) (hb : Below B b0 a) (hg : B ≤ g) (hB : B ≤ a.heap.size) : Below B b0 w :=
  ⟨h.os.trans hb.os, h.tape.trans hb.tape, h.output.trans hb.output, Nat.le_trans hb.size h.size, fun b hlt => (h.block b (Nat.lt_of_lt_of_le hlt hB) (by omega)).trans (hb.block b hlt)⟩
theorem Sv.ok (h : Sv g a w) (he : EsOk a T lo g es) : EsOk w T lo g es := he.kept h.size h.block
theorem Sv.box (h : Sv g a w) {R : Nat} {o : Obj} (hR : a.heap[R]? = some o) (hne : R ≠ g) : w.heap[R]? = some o :=
  (h.block R (Array.getElem?_eq_some_iff.1 hR).1 hne).trans hR
end
section
variable {w w1 W : World} {R j : Nat}
theorem bx_below {o : Obj} (h : w.heap[R]? = some o) (g : Below w.heap.size w w1) : w1.heap[R]? = some o := (g.block R (Array.getElem?_eq_some_iff.1 h).1).trans h
theorem bx_alloc {o : Obj} (h : w.heap[R]? = some o) (o' : Obj) : (w.alloc o').heap[R]? = some o := bx_below h (vbelow1 w o')
theorem bx_lt {o : Obj} (h : w.heap[R]? = some o) : R < w.heap.size := (Array.getElem?_eq_some_iff.1 h).1
theorem bl_alloc (h : Below W.heap.size W w) (o : Obj) : Below W.heap.size W (w.alloc o) := h.alloc h.size o
theorem bl_set (h : Below W.heap.size W w) (v : Value) (hR : W.heap.size ≤ R) : Below W.heap.size W (w.setCell ⟨R, j, none⟩ v) := h.setCell hR _
end
/-- .. as a step of a region that draws its order. -/
theorem step_append_z {P : Program} {w : World} {ops : Array Oper} {o : Oper} {a : Act} {K : Act → World → Prop} {Q : Exit → Act → World → Prop} {E : Prop} (hgd : o.guard = none) (s x : Operand) (t : TypeId)
    (ho : o.op = .call { callee := .builtin .append, args := #[s, x], argTypes := #[t, t] })
    (base : Nat) (e : TypeId) (i : TypeInfo) (z : Value) (size bytes : Nat) (ht : P.underlying t = some (.slice e)) (hi : P.info? e = some i) (hz : i.zero = some z)
    (hsize : i.size = size) (hby : i.bytes = bytes) (hzs : z.cells.size = size) (hsz : 0 < size)
    (v : Value) (n : Nat) (xs : List Value) (hs : a.eval s = v) (ad : Addr) (m c : Nat) (news : List Value) (hx : a.eval x = .slice (some ad) m c) (hown : w.ownsRow base e size v n xs) (hv : v ≠ .slice none 0 0)
    (hl : news.length = m * size) (hnews : ∀ j u, news[j]? = some u → w.cell? (ad.add j) = some u) (h1 : ∀ u ∈ news, u.oneCell' = true)
    (h63 : n + m ≤ maxLen) (hbytes : (n + m) * bytes ≤ 140737488355328) (nm : Nat) (hnm : n + m = nm) (ys : List Value) (hys : xs ++ news = ys) (hbase : base ≤ w.heap.size)
    (h : ∀ g cap w', w'.ownsRow base e size (.slice (some ⟨g, 0, none⟩) nm cap) nm ys → w.grownBy w' v.ownBlock → (v.ownBlock = some g ∨ g = w.heap.size) → g < w'.heap.size → K (a.put o.dst (.slice (some ⟨g, 0, none⟩) nm cap)) w') :
    if Region.wanted o (yielded ops a.tmps) = true then Oper.wp P o a w K Q else E := by
  subst hnm hys
  have hw : Region.wanted o (yielded ops a.tmps) = true := by simp [Region.wanted, hgd]
  rw [if_pos hw]
  obtain ⟨g, cap, w', hr, h2, h3, h4, h5⟩ := run_append_z (P := P) w t o.type base e i z size bytes ht hi hz hsize hby hzs hsz v n xs hown hv ad m c news hl hnews h1 h63 hbytes hbase
  unfold Oper.wp execOp
  simp only [ho, resolve, invoke, builtin, Sem.run_bind, Sem.run_pure, Result.andThen_ok, List.map_toArray, List.map_cons, List.map_nil, hs, hx, hr]
  exact h g cap w' h2 h3 h4 h5
end Go.Proofs.YtilmhemcpgiikaaDoor
/- SortMap of the reference: each pair is put in behind those that its name does not come ahead of. -/
namespace Go.Proofs.YtilmhemcpgiikaaDoor
open Go.Deep Go.ChangeShapes Go.WideShapes Go.ChangeAt Go.RowKit
open Go.ChangeMaps (open_string shut_string)

set_option maxRecDepth 100000 in
set_option maxHeartbeats 20000000 in
theorem sortMap_spec (t : Tree) (w : World) (u : Value) (hcost : t.cost ≤ 1048576) (hu : TSl w u t.l) (hfit : Fits t.kind t.n t.x t.s) :
    Calls Tryd.prog 20 #[.agg #[.int .i64 t.kind, .int .i64 t.n, .int .i64 t.x, .string t.s, u]] w (CopyP w (sortT t)) := by
  obtain ⟨i0, hi, hz, hs, hb⟩ := info_parts info_val
  have HI := Lib.hid hi; clear hi
  have hc := Tree.cost_eq t
  have hcl := costL_eq t.l
  have hlen : t.l.length ≤ 1048576 := by omega
  have HC := Lib.hid (fun w1 (hb : Below w.heap.size w w1) => l6Copy_c t w1 u hcost (hu.kept hb) hfit)
  obtain ⟨a, cap, -, -, rfl, -⟩ := hu
  have HP := Lib.hid (fun w1 => l7Map_c t a cap w1 hlen)
  have hB := first_blocks w (.cells #[.int .i64 t.kind, .int .i64 t.n, .int .i64 t.x, .string t.s, .slice a t.l.length cap] 29) (.cells #[.int .i64 0, .int .i64 0, .int .i64 0, .string { data := #[] }, .slice none 0 0] 29)
  have HB1 := Lib.hid hB.1; have HB2 := Lib.hid hB.2
  have HW := Lib.hid (vbelow2 w (.cells #[.int .i64 t.kind, .int .i64 t.n, .int .i64 t.x, .string t.s, .slice a t.l.length cap] 29) (.cells #[.int .i64 0, .int .i64 0, .int .i64 0, .string { data := #[] }, .slice none 0 0] 29))
  clear hcost hfit hc hcl hB
  cases hp : pairedB t with
  | false =>
    have hS : sortT t = t := by unfold sortT; rw [hp]; rfl
    rw [hS]
    rw [hp] at HP
    clear hp hS
    go_enter Tryd.func20, Tryd.ntmps20
    go_wp2_with fail
    refine (HC.out _ HW.out).mono ?_
    rintro _ w1 ⟨a1, n1, c1, rfl, ho, b1⟩
    have XV1 := Lib.hid (bx_below HB1.out b1); have XR1 := Lib.hid (bx_below HB2.out b1)
    have HO := Lib.hid ho; clear ho
    have hs1 := b1.size
    simp only [World.size_alloc] at hs1
    have BW1 := Lib.hid (vnx HW.out b1); clear b1
    have Vl := bx_lt XV1.out
    obtain ⟨v0, v1, v2, v3, v4, vf⟩ := five_kept (Below.refl _ _) XV1.out
    clear vf
    go_wp2_with fail
    refine (HP.out _).mono ?_
    rintro _ w2 ⟨rfl, b2⟩
    have XR2 := Lib.hid (bx_below (bx_alloc XR1.out _) b2)
    have XO2 : Hid (w2.heap[w1.heap.size]? = some (.cells #[.int .i64 t.kind, .int .i64 t.n, .int .i64 t.x, .string t.s, .slice a1 n1 c1] 29 (0, 0))) := Lib.hid (bx_below (heap_alloc_new _ _) b2)
    have HO2 := Lib.hid ((HO.out.kept (fun b hb => Below.heap_alloc w1 (.cells #[.int .i64 t.kind, .int .i64 t.n, .int .i64 t.x, .string t.s, .slice a1 n1 c1] 29) b hb.2)).kept (fun b hb => b2.block b (by rw [World.size_alloc]; have := hb.2; omega)))
    have hs2 := b2.size
    simp only [World.size_alloc] at hs2
    have BW2 := Lib.hid (vnx (bl_alloc BW1.out _) b2); clear b2 Vl v0 v1 v2 v3 v4
    have Rl := bx_lt XR2.out
    obtain ⟨R0, R1, R2, R3, R4, Rf⟩ := five_kept (Below.refl _ _) XR2.out
    have Rf0 := Rf 0; have Rf1 := Rf 1; have Rf2 := Rf 2; have Rf3 := Rf 3; have Rf4 := Rf 4; clear Rf
    obtain ⟨O0, O1, O2, O3, O4, Of⟩ := five_kept (Below.refl _ _) XO2.out
    clear Of
    go_wp2_with fail
    refine bodyPost_ret (v := .agg #[.int .i64 t.kind, .int .i64 t.n, .int .i64 t.x, .string t.s, .slice a1 n1 c1]) (by simp [results, Tryd.results20, go_sem, R0, R1, R2, R3, R4]) rfl ?_
    unfold CopyP
    refine ⟨_, _, _, rfl, ?_, ?_⟩
    · refine OSl.mono (S := Rng (w.heap.size + 2) w1.heap.size) ?_ (fun b hb => ⟨by have := hb.1; omega, by have := hb.2; simp only [World.size_setCell]; omega⟩)
      iterate 5 refine osl_sets ?_ (by dsimp only; omega) _
      have h := HO2.out
      simp only [World.size_alloc] at h
      exact h
    · repeat (first | with_reducible exact BW2.out | with_reducible refine bl_set ?_ _ (by omega))
  | true =>
    have hk : t.kind = 10 := by unfold pairedB at hp; simp only [Bool.and_eq_true, beq_iff_eq] at hp; exact hp.1
    have hn2 : t.l.length = 2 * (t.l.length / 2) := by unfold pairedB at hp; simp only [Bool.and_eq_true, beq_iff_eq] at hp; omega
    have hS : sortT t = .mk t.kind t.n t.x t.s (sortF lessT t.l (t.l.length / 2)) := by unfold sortT; rw [hp]; rfl
    obtain ⟨N, hN⟩ : ∃ N, N = t.l.length / 2 := ⟨_, rfl⟩
    rw [← hN] at hn2 hS
    rw [hS]
    rw [hp] at HP
    clear hp hS hk
    have HNN := Lib.hid hN; have HN2 := Lib.hid hn2
    clear hN hn2
    go_enter Tryd.func20, Tryd.ntmps20
    go_wp2_with fail
    refine (HC.out _ HW.out).mono ?_
    rintro _ w1 ⟨a1, n1, c1, rfl, ho, b1⟩
    have XV1 := Lib.hid (bx_below HB1.out b1); have XR1 := Lib.hid (bx_below HB2.out b1)
    have hs1 := b1.size
    simp only [World.size_alloc] at hs1
    have BW1 := Lib.hid (vnx HW.out b1); clear b1
    have Vl := bx_lt XV1.out
    obtain ⟨v0, v1, v2, v3, v4, vf⟩ := five_kept (Below.refl _ _) XV1.out
    clear vf
    obtain ⟨a1', n1', hfo⟩ : ∃ a1' n1', (Value.slice a1 n1 c1) = .slice a1' t.l.length n1' := by
      obtain ⟨q1, q2, _, _, q3, _⟩ := ho.tsl
      exact ⟨q1, q2, q3⟩
    injection hfo with hf1 hf2 hf3
    subst hf1 hf2 hf3
    have HO := Lib.hid ho; clear ho
    go_wp2_with fail
    refine (HP.out _).mono ?_
    rintro _ w2 ⟨rfl, b2⟩
    have XR2 := Lib.hid (bx_below (bx_alloc XR1.out _) b2)
    have XO2 : Hid (w2.heap[w1.heap.size]? = some (.cells #[.int .i64 t.kind, .int .i64 t.n, .int .i64 t.x, .string t.s, .slice a1 t.l.length c1] 29 (0, 0))) := Lib.hid (bx_below (heap_alloc_new _ _) b2)
    have HO2 := Lib.hid ((HO.out.kept (fun b hb => Below.heap_alloc w1 (.cells #[.int .i64 t.kind, .int .i64 t.n, .int .i64 t.x, .string t.s, .slice a1 t.l.length c1] 29) b hb.2)).kept (fun b hb => b2.block b (by rw [World.size_alloc]; have := hb.2; omega)))
    have hs2 := b2.size
    simp only [World.size_alloc] at hs2
    have BW2 := Lib.hid (vnx (bl_alloc BW1.out _) b2); have B12 : Hid (∀ b, b < w1.heap.size → w2.heap[b]? = w1.heap[b]?) := Lib.hid (fun b hb => (b2.block b (by rw [World.size_alloc]; omega)).trans (Below.heap_alloc _ _ _ hb))
    clear b2 Vl v0 v1 v2 v3 v4
    have hn2 := HN2.out
    clear HNN HN2
    by_cases h0 : 0 < t.l.length
    · have hop := HO.out
      simp only [World.size_alloc] at hop
      obtain ⟨g, cap0, es, hv, hmap, hesl, hrow1, hcm, hg1, hg2, hok1⟩ := osl_open hop (Nat.le_refl _) h0
      have hrow := hrow1.of_block (B12.out g hg2)
      have hok := hok1.kept (w' := w2) (by omega) (fun b hb _ => B12.out b hb)
      have HOK1 := Lib.hid hok1; clear hok1 hrow1
      injection hv with hv1 hv2 hv3
      subst hv1 hv3
      have HR := Lib.hid hrow; have HOK := Lib.hid hok; have HMAP := Lib.hid hmap; clear hrow hok hmap hop
      have hesN : es.length = 2 * N := by omega
      have hN1 : 1 ≤ N := by omega
      have hNb : N ≤ 524288 := by omega
      have hL0 : ((t.l.length : Nat) : Int) = 2 * (N : Int) := by omega
      clear h0
      generalize t.l.length = L at *
      subst hn2
      have HGR := Lib.hid (show g ≠ w.heap.size + 1 by omega); have HGO := Lib.hid (show g ≠ w1.heap.size by omega); have HG1 := Lib.hid hg1; have HG2 := Lib.hid hg2
      have hown0 := World.ownsRow_made (base := w2.heap.size) (e := 29) (size := 5) w2 #[] 0 (Nat.le_refl _) (by simp [maxLen]) rfl
      have HOW0 := Lib.hid hown0; clear hown0
      go_wp2_with fail
      go_loopw [4, 5] (fun v i wr => ∃ (j I g3 cap3 : Nat), j ≤ N ∧ I = 2 * j ∧ i = .int .i64 I ∧ v = .slice (some ⟨g3, 0, none⟩) I cap3 ∧ Hid (wr.ownsRow w2.heap.size 29 5 v I ((sortF ltE es j).flatMap Elem.cells)) ∧ Hid (Below w2.heap.size w2 wr)) (fun _ i _ => 2 * N + 2 - (intOf i).toNat)
      case atStart => exact ⟨0, 0, _, _, Nat.zero_le _, rfl, rfl, rfl, HOW0, Lib.hid (vbelow1 _ _)⟩
      case round =>
        obtain ⟨j, I, g3, cap3, hjN, hI, rfl, rfl, HOW, HBW⟩ := hrel
        have XOr := Lib.hid (bx_below XO2.out HBW.out)
        have hOl := bx_lt XOr.out
        obtain ⟨O0, O1, O2, O3, O4, Of⟩ := five_kept (Below.refl _ _) XOr.out
        clear O0 O1 O2 O3
        have Of4 := Of 4; clear Of
        by_cases hjl : I < 2 * N
        · have hj : 2 * j + 1 < es.length := by omega
          obtain ⟨x, hx⟩ : ∃ x, x = es[2 * j] := ⟨_, rfl⟩
          obtain ⟨y, hy⟩ : ∃ y, y = es[2 * j + 1] := ⟨_, rfl⟩
          have hsl := sortF_len (lt := ltE) (l := es) (i := j) (by omega)
          have hend : sortF ltE es (j + 1) = (sortF ltE es j).take (2 * kF ltE x (sortF ltE es j) j) ++ x :: y :: (sortF ltE es j).drop (2 * kF ltE x (sortF ltE es j) j) := by
            rw [sortF_succ hj]
            unfold insF
            rw [hsl, show 2 * j / 2 = j by omega, ← hx, ← hy]
          have hmem : ∀ e ∈ sortF ltE es j, e ∈ es := fun e he => List.mem_of_mem_take ((sortF_perm (lt := ltE) (l := es) (i := j) (by omega)).mem_iff.1 he)
          have hxm : x ∈ es := by rw [hx]; exact List.getElem_mem _
          have hym : y ∈ es := by rw [hy]; exact List.getElem_mem _
          have gx : es[I]? = some x := by rw [hI, hx]; exact List.getElem?_eq_getElem _
          have gy : es[I + 1]? = some y := by rw [hI, hy]; exact List.getElem?_eq_getElem _
          have hkle := kF_le ltE x (sortF ltE es j) j
          clear hx hy
          have hrs : 0 < j → RowE wr g3 cap3 29 (sortF ltE es j) := fun h0 => by
            have how := HOW.out
            have e1 : I = (sortF ltE es j).length := by rw [hsl]; exact hI
            rw [e1] at how
            obtain ⟨g', cap', hv, hr, -, -⟩ := rowE_of how (by omega)
            injection hv with hv1 hv2 hv3
            injection hv1 with hv1
            injection hv1 with hv4
            subst hv3 hv4
            exact hr
          have hIc : I ≤ cap3 ∧ cap3 ≤ maxLen := by
            rcases HOW.out.2 with ⟨hq, _⟩ | ⟨g', cap', cur, hv, _, _, hnc, hcm', _⟩
            · cases hq
            · injection hv with hv1 hv2 hv3
              subst hv3
              exact ⟨hnc, hcm'⟩
          obtain ⟨hIc1, hIc2⟩ := hIc
          unfold maxLen at hIc2
          have HEND := Lib.hid hend; have HMEM := Lib.hid hmem; have HXM := Lib.hid hxm; have HYM := Lib.hid hym; have HSL := Lib.hid hsl; have HGX := Lib.hid gx; have HGY := Lib.hid gy; have HRS := Lib.hid hrs; have HKL := Lib.hid hkle
          clear hend hmem hxm hym gx gy hrs hsl hkle
          generalize sortF ltE es j = σ at *
          have hIN : (I : Int) < 2 * (N : Int) := by omega
          have hIN2 : ¬ (2 * (N : Int) ≤ (I : Int)) := by omega
          have hII := hI
          have HII := Lib.hid hI
          have hIb : I ≤ 1048576 := by omega
          clear hI hII
          have hok0 := HOK.out.kept (w' := wr) HBW.out.size (fun b hb _ => HBW.out.block b hb)
          obtain ⟨fx, ox, -⟩ := hok0.1 x HXM.out
          obtain ⟨xa, xc, hxu⟩ := hok0.form HXM.out
          obtain ⟨ya, yc, hyu⟩ := hok0.form HYM.out
          obtain ⟨xt, xu, xS⟩ := x
          obtain ⟨yt, yu, yS⟩ := y
          dsimp only at hxu hyu fx ox
          subst hxu hyu
          have HFX := Lib.hid fx; have HOX := Lib.hid ox; have HOK0 := Lib.hid hok0; clear fx ox hok0
          have HRX := Lib.hid (HR.out.kept HBW.out)
          clear O4 Of4 hOl
          generalize wr = wo at *
          have Ol := bx_lt XOr.out
          obtain ⟨O0, O1, O2, O3, O4, Of⟩ := five_kept (Below.refl _ _) XOr.out
          clear O0 O1 O2 O3 Of
          go_upto_block 2 with fail
          go_cut [6] (fun k wx => ∃ Kn : Nat, k = .int .i64 Kn ∧ Kn ≤ I ∧ Hid (Kn = 2 * kF ltE (⟨xt, .slice xa xt.l.length xc, xS⟩ : Elem) σ j) ∧ Hid (Below wo.heap.size wo wx))
          case first =>
            go_wp2_with fail
            go_loopw [6] (fun k wx => ∃ (K : Nat) (z : Int), K ≤ j ∧ z = 2 * (K : Int) ∧ k = .int .i64 z ∧ Hid (kF ltE (⟨xt, .slice xa xt.l.length xc, xS⟩ : Elem) σ K = kF ltE (⟨xt, .slice xa xt.l.length xc, xS⟩ : Elem) σ j) ∧ Hid (Below wo.heap.size wo wx)) (fun k _ => (intOf k).toNat)
            case atStart => exact ⟨j, I, Nat.le_refl _, by have := HII.out; omega, rfl, Lib.hid rfl, Lib.hid (Below.refl _ _)⟩
            case round =>
              obtain ⟨K, z, hKj, hz, rfl, HKF, HBX⟩ := hrel
              have XOk := Lib.hid (bx_below XOr.out HBX.out)
              have Ok := bx_lt XOk.out
              clear O4
              obtain ⟨O0, O1, O2, O3, O4, Of⟩ := five_kept (Below.refl _ _) XOk.out
              clear Of O0 O1 O2 O3
              by_cases hK0 : 0 < K
              · obtain ⟨K', rfl⟩ : ∃ K', K = K' + 1 := ⟨K - 1, by omega⟩
                obtain ⟨M, hM⟩ : ∃ M : Nat, M = 2 * K' := ⟨_, rfl⟩
                obtain rfl : z = (M : Int) + 2 := by omega
                have hsl2 := HSL.out
                have hl2 : 2 * K' < σ.length := by omega
                have ga : σ[M]? = some (σ[2 * K']'(by omega)) := by rw [hM]; exact List.getElem?_eq_getElem _
                have hyes := kF_yes (lt := ltE) (x := (⟨xt, .slice xa xt.l.length xc, xS⟩ : Elem)) (σ := σ) (k := K') (h := by omega)
                have hno := kF_no (lt := ltE) (x := (⟨xt, .slice xa xt.l.length xc, xS⟩ : Elem)) (σ := σ) (k := K') (h := by omega)
                have ham := HMEM.out _ (List.getElem_mem (show 2 * K' < σ.length by omega))
                generalize σ[2 * K'] = e1 at *
                have hokx := HOK0.out.kept (w' := wr) HBX.out.size (fun b hb _ => HBX.out.block b hb)
                obtain ⟨f1, o1, -⟩ := hokx.1 e1 ham
                obtain ⟨aa, ac, hau⟩ := hokx.form ham
                have hltE : ltE (⟨xt, .slice xa xt.l.length xc, xS⟩ : Elem) e1 = lessT xt e1.t := rfl
                rw [hltE] at hyes hno
                obtain ⟨A0, A1, A2, A3, A4⟩ := ((HRS.out (by omega)).kept HBX.out).cells ga
                obtain ⟨X0, X1, X2, X3, X4⟩ := (HRX.out.kept HBX.out).cells HGX.out
                have HC := Lib.hid (lessSpec_c xt e1.t wr.drew (.slice xa xt.l.length xc) e1.u ((HOX.out.tsl.kept HBX.out).kept (Below.refl _ _).drew) (o1.tsl.kept (Below.refl _ _).drew) HFX.out f1)
                clear hltE f1 o1 hokx ham hl2 hsl2 ga
                have HY := Lib.hid hyes; have HN := Lib.hid hno; have HKJ := Lib.hid hKj
                have HMM := Lib.hid hM
                clear hyes hno
                obtain ⟨e1t, e1u, e1S⟩ := e1
                dsimp only at hau HC HY HN X0 X1 X2 X3 X4 A0 A1 A2 A3 A4
                subst hau
                have hMb : M + 2 ≤ 1048576 := by omega
                have hMI : M + 2 ≤ I := by have := HII.out; omega
                have hi1 : (M : Int) + 2 - 2 = M := by omega
                have hw1 : IntKind.i64.wrap (M : Int) = M := IntWalk.i64_in _ (by omega)
                have hgt : decide ((0 : Int) < (M : Int) + 2) = true := decide_eq_true (by omega)
                have hB1 : (M : Int) < (I : Int) := by omega
                have hB2 : ¬ ((I : Int) ≤ (M : Int)) := by omega
                have hB3 : M < I := by omega
                have hszx := HBX.out.size
                clear hz hKj hM
                generalize lessT xt e1t = R at *
                cases R with
                | true =>
                  have HKK := Lib.hid ((HY.out rfl).symm.trans HKF.out)
                  clear HY HN
                  go_wp2_with fail
                  go_still_tail 13, (by kernel_rfl)
                  change wpList _ _ _ _ _ wr.drew
                  go_wp2_with fail
                  refine HC.out.mono ?_
                  rintro _ w3 ⟨rfl, hb1'⟩
                  have hb1 : Below wr.heap.size wr w3 := ⟨hb1'.os, hb1'.tape, hb1'.output, hb1'.size, hb1'.block⟩
                  clear hb1'
                  go_wp2_with fail
                  go_roundw
                  case rel => exact ⟨K', M, by have := HKJ.out; omega, by have := HMM.out; omega, by go_num, HKK, Lib.hid (HBX.out.trans (hb1.mono hszx))⟩
                  case measure => simp [intOf]; omega
                | false =>
                  have HKK := Lib.hid (HKF.out.symm.trans (HN.out rfl))
                  clear HY HN
                  go_wp2_with fail
                  go_still_tail 13, (by kernel_rfl)
                  change wpList _ _ _ _ _ wr.drew
                  go_wp2_with fail
                  refine HC.out.mono ?_
                  rintro _ w3 ⟨rfl, hb1'⟩
                  have hb1 : Below wr.heap.size wr w3 := ⟨hb1'.os, hb1'.tape, hb1'.output, hb1'.size, hb1'.block⟩
                  clear hb1'
                  go_wp2_with fail
                  go_meet
                  case rel => exact ⟨M + 2, by first | rfl | go_num, hMI, Lib.hid (by have h1 := HKK.out; have h2 := HMM.out; omega), Lib.hid (HBX.out.trans (hb1.mono hszx))⟩
              · obtain rfl : K = 0 := by omega
                obtain rfl : z = 0 := by omega
                clear hz hKj hK0
                go_wp2_with fail
                go_quiet (fail)
                go_wp2_with fail
                go_meet
                case rel => exact ⟨0, by first | rfl | go_num, Nat.zero_le _, Lib.hid (by have h1 : 0 = _ := HKF.out; omega), Lib.hid (HBX.out.trans ⟨rfl, rfl, rfl, Nat.le_refl _, fun _ _ => rfl⟩)⟩
          case rest =>
            rename World => wx
            obtain ⟨Kn, rfl, hKI, HKN, HBX⟩ := hcut
            have XOx := Lib.hid (bx_below XOr.out HBX.out)
            clear O4 Ol
            have Ol := bx_lt XOx.out
            obtain ⟨O0, O1, O2, O3, O4, Of⟩ := five_kept (Below.refl _ _) XOx.out
            clear Of O0 O1 O2 O3
            have hrx := HRX.out.kept HBX.out
            obtain ⟨X0, X1, X2, X3, X4⟩ := hrx.cells HGX.out
            obtain ⟨Y0, Y1, Y2, Y3, Y4⟩ := hrx.cells HGY.out
            dsimp only at X0 X1 X2 X3 X4 Y0 Y1 Y2 Y3 Y4
            have hsl2 : σ.length = I := by have h1 := HSL.out; have h2 := HII.out; omega
            have hfm := HOK0.out.forms
            have hmm := HMEM.out
            have hend := HEND.out
            rw [← HKN.out] at hend
            have hrs : 0 < I → RowE wx g3 cap3 29 σ := fun h => (HRS.out (by have := HII.out; omega)).kept HBX.out
            obtain ⟨TK, hTK⟩ : ∃ q, q = (σ.drop 0).take Kn := ⟨_, rfl⟩
            obtain ⟨DK, hDK⟩ : ∃ q, q = (σ.drop Kn).take (I - Kn) := ⟨_, rfl⟩
            have hT0 : TK.length = Kn := by rw [hTK, List.length_take, List.length_drop]; omega
            have hD0 : DK.length = I - Kn := by rw [hDK, List.length_take, List.length_drop]; omega
            have hTl : (TK.flatMap Elem.cells).length = Kn * 5 := by rw [flat_len, hT0]
            have hDl : (DK.flatMap Elem.cells).length = (I - Kn) * 5 := by rw [flat_len, hD0]
            have hTn : ∀ ww, Below wx.heap.size wx ww → ∀ q u, (TK.flatMap Elem.cells)[q]? = some u → ww.cell? ((⟨g3, 0, none⟩ : Addr).add q) = some u := by
              intro ww hb q u hq
              by_cases h0 : 0 < I
              · have h := news_of ((hrs h0).kept hb) 0 Kn q u (by rw [← hTK]; exact hq)
                rwa [Nat.zero_mul] at h
              · have : TK = [] := List.eq_nil_of_length_eq_zero (by omega)
                rw [this] at hq; simp at hq
            have hDn : ∀ ww, Below wx.heap.size wx ww → ∀ q u, (DK.flatMap Elem.cells)[q]? = some u → ww.cell? ((⟨g3, Kn * 5, none⟩ : Addr).add q) = some u := by
              intro ww hb q u hq
              by_cases h0 : 0 < I
              · exact news_of ((hrs h0).kept hb) Kn (I - Kn) q u (by rw [← hDK]; exact hq)
              · have : DK = [] := List.eq_nil_of_length_eq_zero (by omega)
                rw [this] at hq; simp at hq
            have hT1 := news_one TK (fun e he => hfm e (hmm e (by rw [hTK] at he; exact List.mem_of_mem_drop (List.mem_of_mem_take he))))
            have hD1 := news_one DK (fun e he => hfm e (hmm e (by rw [hDK] at he; exact List.mem_of_mem_drop (List.mem_of_mem_take he))))
            have hend2 : (sortF ltE es (j + 1)).flatMap Elem.cells = TK.flatMap Elem.cells ++ (cells5 xt (.slice xa xt.l.length xc) ++ cells5 yt (.slice ya yt.l.length yc)) ++ DK.flatMap Elem.cells := by
              rw [hend, hTK, hDK, List.drop_zero, List.take_of_length_le (l := σ.drop Kn) (by rw [List.length_drop]; omega)]
              simp [Elem.cells]
            have hXY1 : ∀ u ∈ cells5 xt (.slice xa xt.l.length xc) ++ cells5 yt (.slice ya yt.l.length yc), u.oneCell' = true := by
              intro u hu
              rcases List.mem_append.1 hu with hu | hu
              · exact one5 _ _ _ _ u hu
              · exact one5 _ _ _ _ u hu
            have HK : Hid (∀ ww, Below wx.heap.size wx ww → ww.cell? ⟨w1.heap.size, 4, none⟩ = some (.slice (some ⟨g, 0, none⟩) (2 * N) c1) ∧ ww.cell? ⟨g, I * 5, none⟩ = some (.int .i64 xt.kind) ∧ ww.cell? ⟨g, I * 5 + 1, none⟩ = some (.int .i64 xt.n) ∧ ww.cell? ⟨g, I * 5 + 2, none⟩ = some (.int .i64 xt.x) ∧ ww.cell? ⟨g, I * 5 + 3, none⟩ = some (.string xt.s) ∧ ww.cell? ⟨g, I * 5 + 4, none⟩ = some (.slice xa xt.l.length xc) ∧ ww.cell? ⟨g, (I + 1) * 5, none⟩ = some (.int .i64 yt.kind) ∧ ww.cell? ⟨g, (I + 1) * 5 + 1, none⟩ = some (.int .i64 yt.n) ∧ ww.cell? ⟨g, (I + 1) * 5 + 2, none⟩ = some (.int .i64 yt.x) ∧ ww.cell? ⟨g, (I + 1) * 5 + 3, none⟩ = some (.string yt.s) ∧ ww.cell? ⟨g, (I + 1) * 5 + 4, none⟩ = some (.slice ya yt.l.length yc)) := Lib.hid (fun ww hb => by
              have h1 := (five_kept hb XOx.out).2.2.2.2.1
              obtain ⟨a0, a1, a2, a3, a4⟩ := (hrx.kept hb).cells HGX.out
              obtain ⟨b0, b1, b2, b3, b4⟩ := (hrx.kept hb).cells HGY.out
              exact ⟨h1, a0, a1, a2, a3, a4, b0, b1, b2, b3, b4⟩)
            obtain ⟨AD, hAD, hADn⟩ : ∃ AD : Addr, (if cap3 = Kn then (some ⟨g3, 0, none⟩ : Option Addr) else some ⟨g3, Kn * 5, none⟩) = some AD ∧ ∀ ww, Below wx.heap.size wx ww → ∀ q u, (DK.flatMap Elem.cells)[q]? = some u → ww.cell? (AD.add q) = some u := by
              by_cases hc : cap3 = Kn
              · refine ⟨⟨g3, 0, none⟩, if_pos hc, fun ww hb q u hq => ?_⟩
                have : DK = [] := List.eq_nil_of_length_eq_zero (by omega)
                rw [this] at hq; simp at hq
              · exact ⟨⟨g3, Kn * 5, none⟩, if_neg hc, hDn⟩
            have HAD := Lib.hid hAD; have HADN := Lib.hid hADn
            clear hAD hADn
            have HTL := Lib.hid hTl; have HDL := Lib.hid hDl; have HTN := Lib.hid hTn; have HT1 := Lib.hid hT1; have HD1 := Lib.hid hD1; have HE2 := Lib.hid hend2; have HXY := Lib.hid hXY1
            clear hTK hDK hT0 hD0 hTl hDl hTn hDn hT1 hD1 hend2 hXY1 hfm hmm hend hrs hrx hsl2
            have hI1 : ((I : Int) + 1).toNat = I + 1 := by omega
            have hI2 : (I : Int) + 1 < 2 * (N : Int) := by have := HII.out; omega
            have hI3 : ¬ (2 * (N : Int) ≤ (I : Int) + 1) := by omega
            have hI4 : (0 : Int) ≤ (I : Int) + 1 := by omega
            have hI5 : ¬ ((I : Int) + 1 < 0) := by omega
            have hI6 : IntKind.i64.wrap ((I : Int) + 1) = (I : Int) + 1 := IntWalk.i64_in _ (by omega)
            have hI7 : I + 1 < 2 * N := by omega
            have hK1 : (Kn : Int) ≤ (I : Int) := by omega
            have hK2 : ¬ ((I : Int) < (Kn : Int)) := by omega
            have hK3 : (Kn : Int) ≤ (cap3 : Int) := by omega
            have hK4 : ¬ ((cap3 : Int) < (Kn : Int)) := by omega
            have hK5 : Kn ≤ cap3 := by omega
            have hK6 : (I : Int) ≤ (cap3 : Int) := by omega
            have OW1 : Hid (World.ownsRow (wx.alloc (.cells #[] 29)).drew wx.heap.size 29 5 (.slice (some ⟨wx.heap.size, 0, none⟩) 0 0) 0 []) := Lib.hid (World.ownsRow_made (base := wx.heap.size) (e := 29) (size := 5) wx #[] 0 (Nat.le_refl _) (by simp [maxLen]) rfl)
            have OW2 : Hid (World.ownsRow ((wx.alloc (.cells #[] 29)).alloc (.cells #[.int .i64 xt.kind, .int .i64 xt.n, .int .i64 xt.x, .string xt.s, .slice xa xt.l.length xc, .int .i64 yt.kind, .int .i64 yt.n, .int .i64 yt.x, .string yt.s, .slice ya yt.l.length yc] 29)).drew wx.heap.size 29 5 (.slice (some ⟨wx.heap.size, 0, none⟩) 0 0) 0 []) := Lib.hid ((World.ownsRow_made (base := wx.heap.size) (e := 29) (size := 5) wx #[] 0 (Nat.le_refl _) (by simp [maxLen]) rfl).alloc _)
            have OW3 : Hid (World.ownsRow ((wx.alloc (.cells #[.int .i64 xt.kind, .int .i64 xt.n, .int .i64 xt.x, .string xt.s, .slice xa xt.l.length xc, .int .i64 yt.kind, .int .i64 yt.n, .int .i64 yt.x, .string yt.s, .slice ya yt.l.length yc] 29)).alloc (.cells #[] 29)).drew wx.heap.size 29 5 (.slice (some ⟨wx.heap.size + 1, 0, none⟩) 0 0) 0 []) := Lib.hid (by
              have h := World.ownsRow_made (base := wx.heap.size) (e := 29) (size := 5) (wx.alloc (.cells #[.int .i64 xt.kind, .int .i64 xt.n, .int .i64 xt.x, .string xt.s, .slice xa xt.l.length xc, .int .i64 yt.kind, .int .i64 yt.n, .int .i64 yt.x, .string yt.s, .slice ya yt.l.length yc] 29)) #[] 0 (by simp only [World.size_alloc]; omega) (by simp [maxLen]) rfl
              simp only [World.size_alloc] at h
              exact h)
            have dd : Below wx.heap.size wx wx := Below.refl _ _
            go_wp2_with fail
            go_region_held3 (fun ww => ww.cell? ⟨w1.heap.size, 4, none⟩ = some (.slice (some ⟨g, 0, none⟩) (2 * N) c1) ∧ ww.cell? ⟨g, I * 5, none⟩ = some (.int .i64 xt.kind) ∧ ww.cell? ⟨g, I * 5 + 1, none⟩ = some (.int .i64 xt.n) ∧ ww.cell? ⟨g, I * 5 + 2, none⟩ = some (.int .i64 xt.x) ∧ ww.cell? ⟨g, I * 5 + 3, none⟩ = some (.string xt.s) ∧ ww.cell? ⟨g, I * 5 + 4, none⟩ = some (.slice xa xt.l.length xc) ∧ ww.cell? ⟨g, (I + 1) * 5, none⟩ = some (.int .i64 yt.kind) ∧ ww.cell? ⟨g, (I + 1) * 5 + 1, none⟩ = some (.int .i64 yt.n) ∧ ww.cell? ⟨g, (I + 1) * 5 + 2, none⟩ = some (.int .i64 yt.x) ∧ ww.cell? ⟨g, (I + 1) * 5 + 3, none⟩ = some (.string yt.s) ∧ ww.cell? ⟨g, (I + 1) * 5 + 4, none⟩ = some (.slice ya yt.l.length yc)) (first | with_reducible exact HK.out _ dd | with_reducible exact HK.out _ dd.drew | with_reducible exact HK.out _ (bl_alloc dd _) | with_reducible exact HK.out _ ((bl_alloc dd _).drew) | with_reducible exact HK.out _ (bl_alloc (bl_alloc dd _) _) | with_reducible exact HK.out _ ((bl_alloc (bl_alloc dd _) _).drew))
              (first
               | (refine step_append_z rfl (.tmp 40) (.tmp 43) 27 rfl wx.heap.size 29 i0 _ 5 64 Tryd.underlying27 HI.out hz hs hb rfl (by decide) (.slice (some ⟨wx.heap.size, 0, none⟩) 0 0) 0 [] rfl ⟨g3, 0, none⟩ Kn cap3 (TK.flatMap Elem.cells) rfl ?_ (by simp) HTL.out ?_ HT1.out (by unfold maxLen; omega) (by omega) Kn (Nat.zero_add _) (TK.flatMap Elem.cells) (List.nil_append _) ?_ ?_; (with_reducible exact OW1.out); (with_reducible exact HTN.out _ (bl_alloc dd _).drew); (first | exact Nat.le_refl _ | (simp only [World.size_alloc, World.size_drew]; omega)); intro ga capa wa hown1 hgr1 hat1 hlt1; have da := ((bl_alloc dd _).drew).grown hgr1 (by simp only [World.size_alloc, World.size_drew]; omega) (fun k hk => by injection hk with hk; first | omega | (simp only at hk; omega)); clear dd; have dd := da; clear da; have HO1 := Lib.hid hown1; clear hown1 hgr1 hat1)
               | (refine step_append_z rfl (.tmp 40) (.tmp 43) 27 rfl wx.heap.size 29 i0 _ 5 64 Tryd.underlying27 HI.out hz hs hb rfl (by decide) (.slice (some ⟨wx.heap.size, 0, none⟩) 0 0) 0 [] rfl ⟨g3, 0, none⟩ Kn cap3 (TK.flatMap Elem.cells) rfl ?_ (by simp) HTL.out ?_ HT1.out (by unfold maxLen; omega) (by omega) Kn (Nat.zero_add _) (TK.flatMap Elem.cells) (List.nil_append _) ?_ ?_; (with_reducible exact OW2.out); (with_reducible exact HTN.out _ (bl_alloc (bl_alloc dd _) _).drew); (first | exact Nat.le_refl _ | (simp only [World.size_alloc, World.size_drew]; omega)); intro ga capa wa hown1 hgr1 hat1 hlt1; have hz0 := hgr1.block (wx.heap.size + 1) (by simp only [World.size_alloc, World.size_drew]; omega) (fun e => by injection e with e; first | omega | (simp only at e; omega) | (dsimp only at e; omega)); have hz1 := (first_blocks wx (.cells #[] 29) (.cells #[.int .i64 xt.kind, .int .i64 xt.n, .int .i64 xt.x, .string xt.s, .slice xa xt.l.length xc, .int .i64 yt.kind, .int .i64 yt.n, .int .i64 yt.x, .string yt.s, .slice ya yt.l.length yc] 29)).2; have HB : Hid (wa.heap[wx.heap.size + 1]? = some (.cells #[.int .i64 xt.kind, .int .i64 xt.n, .int .i64 xt.x, .string xt.s, .slice xa xt.l.length xc, .int .i64 yt.kind, .int .i64 yt.n, .int .i64 yt.x, .string yt.s, .slice ya yt.l.length yc] 29 (0, 0))) := Lib.hid (hz0.trans hz1); clear hz0 hz1; have da := ((bl_alloc (bl_alloc dd _) _).drew).grown hgr1 (by simp only [World.size_alloc, World.size_drew]; omega) (fun k hk => by injection hk with hk; first | omega | (simp only at hk; omega)); clear dd; have dd := da; clear da; have HO1 := Lib.hid hown1; clear hown1 hgr1 hat1)
               | (refine step_append_z rfl (.tmp 40) (.tmp 43) 27 rfl wx.heap.size 29 i0 _ 5 64 Tryd.underlying27 HI.out hz hs hb rfl (by decide) (.slice (some ⟨wx.heap.size + 1, 0, none⟩) 0 0) 0 [] rfl ⟨g3, 0, none⟩ Kn cap3 (TK.flatMap Elem.cells) rfl ?_ (by simp) HTL.out ?_ HT1.out (by unfold maxLen; omega) (by omega) Kn (Nat.zero_add _) (TK.flatMap Elem.cells) (List.nil_append _) ?_ ?_; (with_reducible exact OW3.out); (with_reducible exact HTN.out _ (bl_alloc (bl_alloc dd _) _).drew); (first | exact Nat.le_refl _ | (simp only [World.size_alloc, World.size_drew]; omega)); intro ga capa wa hown1 hgr1 hat1 hlt1; have hz0 := hgr1.block (wx.heap.size) (by simp only [World.size_alloc, World.size_drew]; omega) (fun e => by injection e with e; first | omega | (simp only at e; omega) | (dsimp only at e; omega)); have hz1 := (first_blocks wx (.cells #[.int .i64 xt.kind, .int .i64 xt.n, .int .i64 xt.x, .string xt.s, .slice xa xt.l.length xc, .int .i64 yt.kind, .int .i64 yt.n, .int .i64 yt.x, .string yt.s, .slice ya yt.l.length yc] 29) (.cells #[] 29)).1; have HB : Hid (wa.heap[wx.heap.size]? = some (.cells #[.int .i64 xt.kind, .int .i64 xt.n, .int .i64 xt.x, .string xt.s, .slice xa xt.l.length xc, .int .i64 yt.kind, .int .i64 yt.n, .int .i64 yt.x, .string yt.s, .slice ya yt.l.length yc] 29 (0, 0))) := Lib.hid (hz0.trans hz1); clear hz0 hz1; have da := ((bl_alloc (bl_alloc dd _) _).drew).grown hgr1 (by simp only [World.size_alloc, World.size_drew]; omega) (fun k hk => by injection hk with hk; first | omega | (simp only at hk; omega)); clear dd; have dd := da; clear da; have HO1 := Lib.hid hown1; clear hown1 hgr1 hat1)
               | (refine step_append_z rfl (.tmp 44) (.tmp 56) 27 rfl wx.heap.size 29 i0 _ 5 64 Tryd.underlying27 HI.out hz hs hb rfl (by decide) (.slice (some ⟨ga, 0, none⟩) Kn capa) Kn (TK.flatMap Elem.cells) rfl ⟨wa.heap.size, 0, none⟩ 2 2 (cells5 xt (.slice xa xt.l.length xc) ++ cells5 yt (.slice ya yt.l.length yc)) rfl ?_ (by simp) rfl ?_ HXY.out (by unfold maxLen; omega) (by omega) (Kn + 2) rfl ((TK.flatMap Elem.cells) ++ (cells5 xt (.slice xa xt.l.length xc) ++ cells5 yt (.slice ya yt.l.length yc))) rfl ?_ ?_; (with_reducible exact HO1.out.alloc _); (exact World.news_of_block (heap_alloc_new wa _)); (have hq := dd.size; (try simp only [World.size_alloc]); omega); intro gb capb wb hown2 hgr2 hat2 hlt2; have hg1x := HO1.out.lt; have da : Below wx.heap.size wx wb := (by first | exact (bl_alloc dd _).grown hgr2 (by first | exact Nat.le_refl _ | exact dd.size | (have hq := dd.size; (try simp only [World.size_alloc]); omega)) (fun k hk => (hg1x k hk).1)); clear dd; have dd := da; clear da; have HO2x := Lib.hid hown2; clear hown2 hgr2 hat2 hg1x)
               | (refine step_append_z rfl (.tmp 44) (.tmp 56) 27 rfl wx.heap.size 29 i0 _ 5 64 Tryd.underlying27 HI.out hz hs hb rfl (by decide) (.slice (some ⟨ga, 0, none⟩) Kn capa) Kn (TK.flatMap Elem.cells) rfl ⟨wx.heap.size + 1, 0, none⟩ 2 2 (cells5 xt (.slice xa xt.l.length xc) ++ cells5 yt (.slice ya yt.l.length yc)) rfl ?_ (by simp) rfl ?_ HXY.out (by unfold maxLen; omega) (by omega) (Kn + 2) rfl ((TK.flatMap Elem.cells) ++ (cells5 xt (.slice xa xt.l.length xc) ++ cells5 yt (.slice ya yt.l.length yc))) rfl ?_ ?_; (with_reducible exact HO1.out); (exact World.news_of_block HB.out); (have hq := dd.size; (try simp only [World.size_alloc, World.size_drew]); omega); intro gb capb wb hown2 hgr2 hat2 hlt2; have hg1x := HO1.out.lt; have da : Below wx.heap.size wx wb := (by first | exact (dd).grown hgr2 (by first | exact Nat.le_refl _ | exact dd.size | (have hq := dd.size; (try simp only [World.size_alloc, World.size_drew]); omega)) (fun k hk => (hg1x k hk).1)); clear dd; have dd := da; clear da; have HO2x := Lib.hid hown2; clear hown2 hgr2 hat2 hg1x)
               | (refine step_append_z rfl (.tmp 44) (.tmp 56) 27 rfl wx.heap.size 29 i0 _ 5 64 Tryd.underlying27 HI.out hz hs hb rfl (by decide) (.slice (some ⟨ga, 0, none⟩) Kn capa) Kn (TK.flatMap Elem.cells) rfl ⟨wx.heap.size, 0, none⟩ 2 2 (cells5 xt (.slice xa xt.l.length xc) ++ cells5 yt (.slice ya yt.l.length yc)) rfl ?_ (by simp) rfl ?_ HXY.out (by unfold maxLen; omega) (by omega) (Kn + 2) rfl ((TK.flatMap Elem.cells) ++ (cells5 xt (.slice xa xt.l.length xc) ++ cells5 yt (.slice ya yt.l.length yc))) rfl ?_ ?_; (with_reducible exact HO1.out); (exact World.news_of_block HB.out); (have hq := dd.size; (try simp only [World.size_alloc, World.size_drew]); omega); intro gb capb wb hown2 hgr2 hat2 hlt2; have hg1x := HO1.out.lt; have da : Below wx.heap.size wx wb := (by first | exact (dd).grown hgr2 (by first | exact Nat.le_refl _ | exact dd.size | (have hq := dd.size; (try simp only [World.size_alloc, World.size_drew]); omega)) (fun k hk => (hg1x k hk).1)); clear dd; have dd := da; clear da; have HO2x := Lib.hid hown2; clear hown2 hgr2 hat2 hg1x)
               | (refine step_append_z rfl (.tmp 57) (.tmp 60) 27 rfl wx.heap.size 29 i0 _ 5 64 Tryd.underlying27 HI.out hz hs hb rfl (by decide) (.slice (some ⟨gb, 0, none⟩) (Kn + 2) capb) (Kn + 2) ((TK.flatMap Elem.cells) ++ (cells5 xt (.slice xa xt.l.length xc) ++ cells5 yt (.slice ya yt.l.length yc))) rfl AD (I - Kn) (cap3 - Kn) (DK.flatMap Elem.cells) (congrArg (fun q => Value.slice q (I - Kn) (cap3 - Kn)) HAD.out) ?_ (by simp) HDL.out ?_ HD1.out (by unfold maxLen; omega) (by omega) (I + 2) (by omega) ((sortF ltE es (j + 1)).flatMap Elem.cells) HE2.out.symm ?_ ?_; (with_reducible exact HO2x.out); (with_reducible exact HADN.out _ dd); (have hq := dd.size; omega); intro gc capc wc hown3 hgr3 hat3 hlt3; have hg1x := HO2x.out.lt; have da := dd.grown hgr3 dd.size (fun k hk => (hg1x k hk).1); clear dd; have dd := da; clear da; have HO3 := Lib.hid hown3; clear hown3 hgr3 hat3 hg1x))
            all_goals
              have how3 := HO3.out
              have hsw2 : w2.heap.size ≤ wx.heap.size := by have h1 := HBW.out.size; have h2 := HBX.out.size; omega
              have how4 := Lib.hid (owns_mono how3 hsw2)
              have HBN := Lib.hid (HBW.out.trans ((HBX.out.trans (dd.mono HBX.out.size)).mono HBW.out.size))
              clear how3 dd X0 X1 X2 X3 X4 Y0 Y1 Y2 Y3 Y4 O4
              go_wp2_with fail
              go_roundw
              case rel => exact ⟨j + 1, I + 2, _, _, by omega, by have := HII.out; omega, by go_num, rfl, how4, HBN⟩
              case measure => simp [intOf]; omega
        · obtain rfl : j = N := by omega
          have hrow := rowE_of (es := sortF ltE es j) (by have h := HOW.out; rw [show I = (sortF ltE es j).length by rw [sortF_len (by omega)]; exact hI] at h; exact h) (by rw [sortF_len (by omega)]; omega)
          obtain ⟨g', cap', hv, hr3, hcm3, hlo3⟩ := hrow
          injection hv with hv1 hv2 hv3
          injection hv1 with hv1
          injection hv1 with hv4
          subst hv3 hv4
          have hgO : g3 ≠ w1.heap.size := by omega
          have hr4 : RowE (wr.setCell ⟨w1.heap.size, 4, none⟩ (.slice (some ⟨g3, 0, none⟩) I cap3)) g3 cap3 29 (sortF ltE es j) := hr3.of_block (Below.heap_setCell _ _ _ _ hgO)
          have hok4 : EsOk (wr.setCell ⟨w1.heap.size, 4, none⟩ (.slice (some ⟨g3, 0, none⟩) I cap3)) 29 (w.heap.size + 1 + 1) g3 (sortF ltE es j) :=
            (EsOk.perm ((HOK1.out.other (g' := g3) (by omega)).kept (by have := HBW.out.size; simp only [World.size_setCell]; omega) (fun b hb _ => by rw [Below.heap_setCell _ _ _ _ (show b ≠ w1.heap.size by omega), HBW.out.block b (by omega), B12.out b hb])) ((sortF_perm (lt := ltE) (l := es) (i := j) (by omega)).trans (by rw [List.take_of_length_le (by omega)])))
          have hso := osl_shut hr4 hcm3 hok4 (by omega) (by rw [sortE_map es (by omega), HMAP.out])
          have hlF : (sortF lessT t.l j).length = I := by rw [← HMAP.out, ← sortE_map es (by omega), List.length_map, sortF_len (by omega)]; omega
          rw [hlF] at hso
          have HSO := Lib.hid hso
          have hswr := HBW.out.size
          have XRr := Lib.hid (bx_below XR2.out HBW.out)
          have BWr := Lib.hid (vnx BW2.out HBW.out)
          have hjn : ¬ (I : Int) < 2 * (j : Int) := by omega
          clear hso hlF hr3 hr4 hok4 hI
          have Rl := bx_lt XRr.out
          obtain ⟨R0, R1, R2, R3, R4, Rf⟩ := five_kept (Below.refl _ _) XRr.out
          have Rf0 := Rf 0; have Rf1 := Rf 1; have Rf2 := Rf 2; have Rf3 := Rf 3; have Rf4 := Rf 4; clear Rf
          obtain ⟨O0, O1, O2, O3, O4, Of⟩ := five_kept (Below.refl _ _) XOr.out
          clear Of O4
          have O4 := (five_kept (Below.refl _ _) XOr.out).2.2.2.2.1
          have hRO : w.heap.size + 1 < w1.heap.size := by omega
          have hRO2 : w.heap.size + 1 ≠ w1.heap.size := by omega
          go_wp2_with fail
          refine bodyPost_ret (v := .agg #[.int .i64 t.kind, .int .i64 t.n, .int .i64 t.x, .string t.s, .slice (some ⟨g3, 0, none⟩) I cap3]) (by simp [results, Tryd.results20, go_sem, R0, R1, R2, R3, R4]) rfl ?_
          unfold CopyP
          refine ⟨_, _, _, rfl, ?_, ?_⟩
          · refine OSl.mono (S := Rng (w.heap.size + 1 + 1) wr.heap.size) ?_ (fun b hb => ⟨by have := hb.1; omega, by have := hb.2; simp only [World.size_setCell]; omega⟩)
            iterate 5 refine osl_sets ?_ (by dsimp only; omega) _
            have h := HSO.out
            simp only [World.size_setCell] at h
            exact h
          · repeat (first | with_reducible exact BWr.out | with_reducible refine bl_set ?_ _ (by omega))
    · obtain rfl : N = 0 := by omega
      have htl : t.l = [] := List.eq_nil_of_length_eq_zero (by omega)
      have HTL := Lib.hid htl
      have hd : decide ((0 : Int) < (t.l.length : Int)) = false := decide_eq_false (by omega)
      have hd2 : ¬ ((0 : Int) < (t.l.length : Int)) := by omega
      have HL0 := Lib.hid hn2
      clear hn2 htl h0 hlen
      have Rl := bx_lt XR2.out
      obtain ⟨R0, R1, R2, R3, R4, Rf⟩ := five_kept (Below.refl _ _) XR2.out
      have Rf0 := Rf 0; have Rf1 := Rf 1; have Rf2 := Rf 2; have Rf3 := Rf 3; have Rf4 := Rf 4; clear Rf
      have Ol := bx_lt XO2.out
      obtain ⟨O0, O1, O2, O3, O4, Of⟩ := five_kept (Below.refl _ _) XO2.out
      have Of0 := Of 0; have Of1 := Of 1; have Of2 := Of 2; have Of3 := Of 3; have Of4 := Of 4
      clear Of
      have hRO : w.heap.size + 1 < w1.heap.size := by omega
      go_wp2_with fail
      go_loopw [4, 5] (fun v i wr => v = .slice (some ⟨w2.heap.size, 0, none⟩) 0 0 ∧ i = .int .i64 0 ∧ wr = w2.alloc (.cells #[] 29)) (fun _ _ _ => 0)
      case atStart => exact ⟨rfl, rfl, rfl⟩
      case round =>
        obtain ⟨rfl, rfl, rfl⟩ := hrel
        go_wp2_with fail
        refine bodyPost_ret (v := .agg #[.int .i64 t.kind, .int .i64 t.n, .int .i64 t.x, .string t.s, .slice (some ⟨w2.heap.size, 0, none⟩) 0 0]) (by simp [results, Tryd.results20, go_sem, Rl, R0, R1, R2, R3, R4]) rfl ?_
        unfold CopyP
        refine ⟨_, _, _, rfl, ?_, ?_⟩
        · exact OSl.nil _ _ _ (by simp [maxLen])
        · repeat (first | with_reducible exact BW2.out | with_reducible refine bl_set ?_ _ (by omega) | with_reducible refine bl_alloc ?_ _)
end Go.Proofs.YtilmhemcpgiikaaDoor
/- The draws of maps: names with what they stand for. -/
namespace Go.Proofs.YtilmhemcpgiikaaDoor
open Go.Deep Go.ChangeShapes Go.WideShapes Go.ChangeAt Go.RowKit
open Go.ChangeMaps (open_string shut_string)

/-- A row of leaves. -/
def leafC (t : Tree) : List Value := cells5 t (.slice none 0 0)
def LR (w : World) (lo : Nat) (T : TypeId) (v : Value) (l : List Tree) : Prop := w.ownsRow lo T 5 v l.length (l.flatMap leafC)
section
variable {w w1 : World} {lo P R j : Nat} {T : TypeId} {v : Value} {l : List Tree}
theorem LR.nil (w : World) (lo : Nat) (T : TypeId) : LR w lo T (.slice none 0 0) [] := World.ownsRow_nil _ _ _ _
theorem LR.keepL (h : LR w lo T v l) (hb : ∀ b, lo ≤ b → b < w.heap.size → w1.heap[b]? = w.heap[b]?) : LR w1 lo T v l := owns_lo h hb
theorem LR.gr (h : LR w lo T v l) (g : w.grownBy w1 (some P)) (hP : P < lo) : LR w1 lo T v l := LR.keepL h (fun b hb hlt => g.block b hlt (fun e => by cases e; omega))
theorem LR.below (h : LR w lo T v l) (g : Below w.heap.size w w1) : LR w1 lo T v l := LR.keepL h (fun b _ hlt => g.block b hlt)
theorem LR.set (h : LR w lo T v l) (x : Value) (hR : R < lo) : LR (w.setCell ⟨R, j, none⟩ x) lo T v l := LR.keepL h (fun b hb _ => Below.heap_setCell _ _ _ _ (by dsimp only; omega))
theorem LR.form (h : LR w lo T v l) : ∃ a cap, v = .slice a l.length cap := by
  rcases h.2 with ⟨rfl, h0⟩ | ⟨g, cap, cur, rfl, _⟩
  · exact ⟨none, 0, by simp [h0]⟩
  · exact ⟨some ⟨g, 0, none⟩, cap, rfl⟩
theorem LR.ap (h : LR w lo T v l) (hl : ∀ t ∈ l, NmD t) : AP w lo T v l := by
  refine ⟨l.map (fun t => ⟨t, .slice none 0 0, fun _ => False⟩), by simp [Function.comp_def], ?_, ?_, ?_⟩
  · have e1 : (l.map (fun t => (⟨t, .slice none 0 0, fun _ => False⟩ : Elem))).flatMap Elem.cells = l.flatMap leafC := by
      rw [List.flatMap_map]; rfl
    rw [e1, List.length_map]; exact h
  · intro e he
    obtain ⟨t, ht, rfl⟩ := List.mem_map.1 he
    refine ⟨(hl t ht).fits, ?_, fun b hb => hb.elim⟩
    rw [(hl t ht).cost.2]
    exact .nil _ _ _ (by simp [maxLen])
  · rw [List.pairwise_map]
    exact List.pairwise_of_forall (fun _ _ _ hb => hb.elim)
theorem leaf_one (t : Tree) : ∀ x ∈ leafC t, x.oneCell' = true := one5 _ _ _ _
theorem leaf_two (t t' : Tree) : ∀ x ∈ leafC t ++ leafC t', x.oneCell' = true := fun x hx => (List.mem_append.1 hx).elim (leaf_one t x) (leaf_one t' x)
end
theorem nmd_int {n : Int} (h : 0 ≤ n ∧ n ≤ 9) : NmD (.mk 3 n 0 { data := #[] } []) := .inl ⟨n, h, rfl⟩
theorem nmd_costL : ∀ l : List Tree, (∀ t ∈ l, NmD t) → costL l ≤ l.length * 11
  | [], _ => by simp [costL]
  | t :: l, h => by
    have h1 := (h t (List.mem_cons_self ..)).cost.1
    have h2 := nmd_costL l (fun x hx => h x (List.mem_cons_of_mem _ hx))
    rw [costL, List.length_cons]; omega
theorem nmd_app {l m : List Tree} (h : ∀ t ∈ l, NmD t) (h2 : ∀ t ∈ m, NmD t) : ∀ t ∈ l ++ m, NmD t := fun t ht => (List.mem_append.1 ht).elim (h t) (h2 t)
/-- What a draw of names answers. -/
def MapT (t : Tree) : Prop := (t.kind = 10 ∨ t.kind = 9) ∧ t.n = 0 ∧ t.x = 0 ∧ t.s = { data := #[] } ∧ (∀ z ∈ t.l, NmD z) ∧ t.l.length ≤ 9
theorem MapT.fits {t : Tree} (h : MapT t) : Fits t.kind t.n t.x t.s := by
  obtain ⟨h1, h2, h3, h4, -⟩ := h
  refine ⟨by omega, by omega, by omega, ?_⟩
  rw [h4]; show (0 : Nat) ≤ _; decide
theorem MapT.cost {t : Tree} (h : MapT t) : t.cost ≤ 99 := by
  have h1 := nmd_costL t.l h.2.2.2.2.1
  have h2 := h.2.2.2.2.2
  rw [Tree.cost_eq, h.2.2.2.1]
  show (0 : Nat) + costL t.l ≤ 99
  omega

set_option maxRecDepth 100000 in
set_option maxHeartbeats 16000000 in
theorem l7Names_c (P : Nat) (w : World) (hC : Cur w P) :
    Calls Tryd.prog 116 #[.pointer (some ⟨P, 0, none⟩)] w fun e w' => ∃ (t : Tree) (u : Value), e = .returned (.agg #[.int .i64 t.kind, .int .i64 t.n, .int .i64 t.x, .string t.s, u]) ∧ MapT t ∧ AP w' w.heap.size 29 u t.l ∧ Cur w' P ∧ w.grownBy w' (some P) := by
  have HC := Lib.hid hC; clear hC
  have HP := Lib.hid HC.out.lt
  obtain ⟨i0, hi, hz, hs, hb⟩ := info_parts info_val
  have HI := Lib.hid hi; clear hi
  go_enter Tryd.func116, Tryd.ntmps116
  go_wp2_with fail
  refine (l1Below_c P 5 _ (by exact (Cur.alloc (Cur.alloc HC.out _) _)) (by omega)).mono ?_
  rintro _ w1 ⟨x0, rfl, x00, x01, -, -, C', G'⟩
  have C1 := Lib.hid C'; clear C'
  have XR1 : Hid (w1.heap[w.heap.size]? = some (.cells #[.int .i64 0, .int .i64 0, .int .i64 0, .string { data := #[] }, .slice none 0 0] 29 (0, 0))) := Lib.hid (box_gr (first_blocks w _ _).1 G' (by have h1 := HP.out; omega))
  have XV1 : Hid (w1.heap[w.heap.size + 1]? = some (.cells #[.int .i64 10, .int .i64 0, .int .i64 0, .string { data := #[] }, .slice none 0 0] 29 (0, 0))) := Lib.hid (box_gr (first_blocks w _ _).2 G' (by have h1 := HP.out; omega))
  have G1 := Lib.hid (gr_trans (gr_alloc (gr_alloc (gr_refl (w := w) (P := P)) _) _) G'); clear G'
  replace x01 := x01 (by omega)
  have hVl := box_lt XV1.out
  go_wp2_with fail
  go_loopw [4] (fun i wr => ∃ (l : List Tree) (v : Value) (X : Int), i = .int .i64 X ∧ 0 ≤ X ∧ X ≤ 4 ∧ l.length + 2 * X ≤ 8 ∧ Hid (∀ z ∈ l, NmD z) ∧ Hid (LR wr (w.heap.size + 2) 29 v l) ∧ Hid (Cur wr P) ∧ Hid (w.grownBy wr (some P)) ∧ Hid (wr.heap[w.heap.size]? = some (.cells #[.int .i64 0, .int .i64 0, .int .i64 0, .string { data := #[] }, .slice none 0 0] 29 (0, 0))) ∧ Hid (wr.heap[w.heap.size + 1]? = some (.cells #[.int .i64 10, .int .i64 0, .int .i64 0, .string { data := #[] }, v] 29 (0, 0)))) (fun i _ => (intOf i).toNat)
  case atStart => exact ⟨[], _, x0, rfl, x00, by omega, by simp; omega, Lib.hid (by simp), Lib.hid (LR.nil _ _ _), C1, G1, XR1, XV1⟩
  case round =>
    obtain ⟨l, v, X, rfl, hX0, hX3, hlX, HL, HA, CUR, GR, XR, XV⟩ := hrel
    have hVr := box_lt XV.out
    obtain ⟨a3, cap3, rfl⟩ := HA.out.form
    have hll : l.length ≤ 8 := by omega
    have HPL := Lib.hid (show P < w.heap.size + 2 by have h1 := HP.out; omega)
    by_cases hX : 0 < X
    · have Vl := box_lt XV.out
      obtain ⟨V0, V1, V2, V3, V4, Vf0, Vf1, Vf2, Vf3, Vf4⟩ := five_open XV.out
      clear V0 V1 V2 V3
      have hCB := Lib.hid (fun wx (h : Cur wx P) => l6Name_c P wx h)
      have hC5 := Lib.hid (fun wx (h : Cur wx P) => l1Below_c P 5 wx h (by omega))
      have hCI := Lib.hid (fun n wx => spec_IntVal n wx)
      go_wp2_with fail
      go_region_law
        (first
         | (go_at_call 117; refine (hCB.out _ (cur_drew CUR.out)).mono ?_; rintro _ w5 ⟨t, rfl, hnm, C', G''⟩; have G' : wr.grownBy w5 (some P) := ⟨G''.os, G''.tape, G''.output, G''.size, G''.block⟩; clear G''; have HNM := Lib.hid hnm; clear hnm; have C5 := Lib.hid C'; have GP := Lib.hid G'; have XV5 := Lib.hid (box_gr XV.out G' (by have h1 := HP.out; omega)); have XR5 := Lib.hid (box_gr XR.out G' (by have h1 := HP.out; omega)); have HA5 := Lib.hid (HA.out.gr G' HPL.out); clear C' G'; have Wl := box_lt XV5.out; obtain ⟨W0, W1, W2, W3, W4, Wf0, Wf1, Wf2, Wf3, Wf4⟩ := five_open XV5.out; clear W0 W1 W2 W3)
         | (go_simp; go_at_call 117; refine (hCB.out _ (cur_drew CUR.out)).mono ?_; rintro _ w5 ⟨t, rfl, hnm, C', G''⟩; have G' : wr.grownBy w5 (some P) := ⟨G''.os, G''.tape, G''.output, G''.size, G''.block⟩; clear G''; have HNM := Lib.hid hnm; clear hnm; have C5 := Lib.hid C'; have GP := Lib.hid G'; have XV5 := Lib.hid (box_gr XV.out G' (by have h1 := HP.out; omega)); have XR5 := Lib.hid (box_gr XR.out G' (by have h1 := HP.out; omega)); have HA5 := Lib.hid (HA.out.gr G' HPL.out); clear C' G'; have Wl := box_lt XV5.out; obtain ⟨W0, W1, W2, W3, W4, Wf0, Wf1, Wf2, Wf3, Wf4⟩ := five_open XV5.out; clear W0 W1 W2 W3)
         | (go_at_call 95; refine (hC5.out _ (by first | exact C5.out | exact cur_drew C5.out)).mono ?_; rintro _ w6 ⟨n, rfl, n0, n1', -, -, C', G''⟩; have G' : w5.grownBy w6 (some P) := ⟨G''.os, G''.tape, G''.output, G''.size, G''.block⟩; clear G''; have n1 : n < 5 := n1' (by omega); clear n1'; have C6 := Lib.hid C'; have XV6 := Lib.hid (box_gr XV5.out G' (by have h1 := HP.out; omega)); have XR6 := Lib.hid (box_gr XR5.out G' (by have h1 := HP.out; omega)); have HA6 := Lib.hid (HA5.out.gr G' HPL.out); have GP6 := Lib.hid (gr_trans GP.out G'); clear C' G'; have Yl := box_lt XV6.out; obtain ⟨Y0, Y1, Y2, Y3, Y4, Yf0, Yf1, Yf2, Yf3, Yf4⟩ := five_open XV6.out; clear Y0 Y1 Y2 Y3)
         | (go_simp; go_at_call 95; refine (hC5.out _ (by first | exact C5.out | exact cur_drew C5.out)).mono ?_; rintro _ w6 ⟨n, rfl, n0, n1', -, -, C', G''⟩; have G' : w5.grownBy w6 (some P) := ⟨G''.os, G''.tape, G''.output, G''.size, G''.block⟩; clear G''; have n1 : n < 5 := n1' (by omega); clear n1'; have C6 := Lib.hid C'; have XV6 := Lib.hid (box_gr XV5.out G' (by have h1 := HP.out; omega)); have XR6 := Lib.hid (box_gr XR5.out G' (by have h1 := HP.out; omega)); have HA6 := Lib.hid (HA5.out.gr G' HPL.out); have GP6 := Lib.hid (gr_trans GP.out G'); clear C' G'; have Yl := box_lt XV6.out; obtain ⟨Y0, Y1, Y2, Y3, Y4, Yf0, Yf1, Yf2, Yf3, Yf4⟩ := five_open XV6.out; clear Y0 Y1 Y2 Y3)
         | (go_at_call 153; refine (hCI.out n _).mono ?_; rintro _ w7 ⟨rfl, b''⟩; have b' : Below w6.heap.size w6 w7 := ⟨b''.os, b''.tape, b''.output, b''.size, b''.block⟩; clear b''; have C7 := Lib.hid (Cur.below C6.out b'); have XV7 := Lib.hid (box_below XV6.out b'); have XR7 := Lib.hid (box_below XR6.out b'); have HA7 := Lib.hid (HA6.out.below b'); have GP7 := Lib.hid (gr_on GP6.out b'); clear b'; have Zl := box_lt XV7.out; obtain ⟨Z0, Z1, Z2, Z3, Z4, Zf0, Zf1, Zf2, Zf3, Zf4⟩ := five_open XV7.out; clear Z0 Z1 Z2 Z3)
         | (go_simp; go_at_call 153; refine (hCI.out n _).mono ?_; rintro _ w7 ⟨rfl, b''⟩; have b' : Below w6.heap.size w6 w7 := ⟨b''.os, b''.tape, b''.output, b''.size, b''.block⟩; clear b''; have C7 := Lib.hid (Cur.below C6.out b'); have XV7 := Lib.hid (box_below XV6.out b'); have XR7 := Lib.hid (box_below XR6.out b'); have HA7 := Lib.hid (HA6.out.below b'); have GP7 := Lib.hid (gr_on GP6.out b'); clear b'; have Zl := box_lt XV7.out; obtain ⟨Z0, Z1, Z2, Z3, Z4, Zf0, Zf1, Zf2, Zf3, Zf4⟩ := five_open XV7.out; clear Z0 Z1 Z2 Z3)
         | (refine step_append_lies _ rfl (.tmp 13) (.tmp 19) 27 rfl (w.heap.size + 2) 29 i0 _ 5 64 Tryd.underlying27 HI.out hz hs hb rfl (by decide) _ _ _ rfl (HA7.out.below (below1 _ _)) ⟨w7.heap.size, 0, none⟩ 2 2 (leafC t ++ leafC (.mk 3 n 0 { data := #[] } [])) rfl rfl (by exact World.news_of_block (heap_alloc_new _ _)) (leaf_two _ _) (by decide) (by unfold maxLen; omega) (by omega) (by have hq := GP7.out.size; simp only [World.size_alloc]; (try omega)) _ rfl ?_; intro g cap5 w8 hown2 hg2 hf2 hlt2; have hsz7 := GP7.out.size; have z := fun (i : Nat) (hi : i < w.heap.size + 2) => (hg2.block i (by simp only [World.size_alloc]; omega) (fun e => by have := (HA7.out.lt i e.symm).1; omega)).trans (Below.heap_alloc _ _ _ (by omega)); have XR8 := Lib.hid ((z w.heap.size (by omega)).trans XR7.out); have XV8 := Lib.hid ((z (w.heap.size + 1) (by omega)).trans XV7.out); clear z; have Ul := box_lt XV8.out; obtain ⟨U0, U1, U2, U3, U4, Uf0, Uf1, Uf2, Uf3, Uf4⟩ := five_open XV8.out; clear U0 U1 U2 U3; have C8 := Lib.hid ((Cur.alloc C7.out _).grown hg2 (fun k hk => by have h1 := HPL.out; have h2 := (HA7.out.lt k hk).1; omega)); have HOWN := Lib.hid hown2; have HG2 := Lib.hid hg2; clear hown2 hg2 hf2))
      all_goals
        have G8 := Lib.hid (gr_new (gr_alloc (gr_trans GR.out GP7.out) _) HG2.out (fun k hk => by have h2 := (HA7.out.lt k hk).1; omega))
        have HLR : Hid (LR w8 (w.heap.size + 2) 29 (.slice (some ⟨g, 0, none⟩) (l.length + 2) cap5) (l ++ [t, .mk 3 n 0 { data := #[] } []])) := Lib.hid (by unfold LR; rw [List.length_append, List.flatMap_append]; simpa [leafC] using HOWN.out)
        go_wp2_with fail
        go_roundw
        case rel => exact ⟨l ++ [t, .mk 3 n 0 { data := #[] } []], .slice (some ⟨g, 0, none⟩) (l.length + 2) cap5, X - 1, by first | rfl | go_num, by omega, by omega, by rw [List.length_append]; simp; omega, Lib.hid (nmd_app HL.out (by intro z hz; simp only [List.mem_cons, List.not_mem_nil, or_false] at hz; rcases hz with rfl | rfl; exact HNM.out; exact nmd_int (by omega))), Lib.hid (LR.set HLR.out _ (by omega)), Lib.hid (Cur.set C8.out _ (by have h1 := HP.out; omega)), Lib.hid (gr_sets G8.out _ (by omega)), Lib.hid (box_other XR8.out _ (by omega)), Lib.hid (five_set XV8.out _)⟩
        case measure => simp [intOf]; omega
    · obtain rfl : X = 0 := by omega
      clear hX hX0 hX3 hlX
      have Vl0 := box_lt XV.out
      go_wp2_with fail
      refine (l1Once_c P 10 _ (by exact CUR.out) (by omega)).mono ?_
      rintro _ w2 ⟨q, rfl, C', G'⟩
      have C2 := Lib.hid C'; clear C'
      have XR2 : Hid (w2.heap[w.heap.size]? = some (.cells #[.int .i64 0, .int .i64 0, .int .i64 0, .string { data := #[] }, .slice none 0 0] 29 (0, 0))) := Lib.hid (box_gr XR.out G' (by have h1 := HP.out; omega))
      have XV2 : Hid (w2.heap[w.heap.size + 1]? = some (.cells #[.int .i64 10, .int .i64 0, .int .i64 0, .string { data := #[] }, .slice a3 l.length cap3] 29 (0, 0))) := Lib.hid (box_gr XV.out G' (by have h1 := HP.out; omega))
      have HA2 := Lib.hid (HA.out.gr G' HPL.out)
      have G2 := Lib.hid (gr_trans GR.out G'); clear G'
      have Vl := box_lt XV2.out
      obtain ⟨V0, V1, V2, V3, V4, Vf0, Vf1, Vf2, Vf3, Vf4⟩ := five_open XV2.out
      clear V0 V1 V2 V3
      cases q with
      | false =>
        go_wp2_with fail
        have hl9b : l.length ≤ 9 := by omega
        refine (l1Once_c P 12 _ (by exact C2.out) (by omega)).mono ?_
        rintro _ w10 ⟨q2, rfl, C', G'⟩
        have C10 := Lib.hid C'; clear C'
        have XR10 : Hid (w10.heap[w.heap.size]? = some (.cells #[.int .i64 0, .int .i64 0, .int .i64 0, .string { data := #[] }, .slice none 0 0] 29 (0, 0))) := Lib.hid (box_gr XR2.out G' (by have h1 := HP.out; omega))
        have XV10 : Hid (w10.heap[w.heap.size + 1]? = some (.cells #[.int .i64 10, .int .i64 0, .int .i64 0, .string { data := #[] }, .slice a3 l.length cap3] 29 (0, 0))) := Lib.hid (box_gr XV2.out G' (by have h1 := HP.out; omega))
        have HA10 := Lib.hid (HA2.out.gr G' HPL.out)
        have G10 := Lib.hid (gr_trans G2.out G'); clear G'
        have HAP10 := Lib.hid (AP.mono (lo' := w.heap.size) (HA10.out.ap HL.out) (by omega))
        have Rl := box_lt XR10.out
        obtain ⟨R0, R1, R2, R3, R4, Rf0, Rf1, Rf2, Rf3, Rf4⟩ := five_open XR10.out
        have El := box_lt XV10.out
        obtain ⟨E0, E1, E2, E3, E4, Ef0, Ef1, Ef2, Ef3, Ef4⟩ := five_open XV10.out
        cases q2 with
        | true =>
          go_wp2_with fail
          refine bodyPost_ret (v := .agg #[.int .i64 9, .int .i64 0, .int .i64 0, .string { data := #[] }, .slice a3 l.length cap3]) (by simp [results, Tryd.results116, go_sem, R0, R1, R2, R3, R4]) rfl ⟨.mk 9 0 0 { data := #[] } l, _, rfl, ⟨.inr rfl, rfl, rfl, rfl, HL.out, hl9b⟩, ?_, ?_, ?_⟩
          · refine AP.mono (lo := w.heap.size + 2) ?_ (by omega)
            have hq := HA10.out.ap HL.out
            simp only [Tree.l_mk]
            repeat (first | with_reducible exact hq | with_reducible refine ap_set ?_ _ (by omega))
          · repeat (first | with_reducible exact C10.out | with_reducible refine Cur.set ?_ _ (by have h1 := HP.out; omega))
          · repeat (first | with_reducible exact G10.out | with_reducible refine gr_sets ?_ _ (by omega))
        | false =>
          go_wp2_with fail
          refine bodyPost_ret (v := .agg #[.int .i64 10, .int .i64 0, .int .i64 0, .string { data := #[] }, .slice a3 l.length cap3]) (by simp [results, Tryd.results116, go_sem, R0, R1, R2, R3, R4]) rfl ⟨.mk 10 0 0 { data := #[] } l, _, rfl, ⟨.inl rfl, rfl, rfl, rfl, HL.out, hl9b⟩, ?_, ?_, ?_⟩
          · refine AP.mono (lo := w.heap.size + 2) ?_ (by omega)
            have hq := HA10.out.ap HL.out
            simp only [Tree.l_mk]
            repeat (first | with_reducible exact hq | with_reducible refine ap_set ?_ _ (by omega))
          · repeat (first | with_reducible exact C10.out | with_reducible refine Cur.set ?_ _ (by have h1 := HP.out; omega))
          · repeat (first | with_reducible exact G10.out | with_reducible refine gr_sets ?_ _ (by omega))
      | true =>
        have hCB := Lib.hid (fun wx (h : Cur wx P) => l6Name_c P wx h)
        go_wp2_with fail
        go_region_law
          (first
           | (go_at_call 117; refine (hCB.out _ (cur_drew C2.out)).mono ?_; rintro _ w5 ⟨t, rfl, hnm, C', G''⟩; have G' : w2.grownBy w5 (some P) := ⟨G''.os, G''.tape, G''.output, G''.size, G''.block⟩; clear G''; have HNM := Lib.hid hnm; clear hnm; have C5 := Lib.hid C'; have GP := Lib.hid G'; have XV5 := Lib.hid (box_gr XV2.out G' (by have h1 := HP.out; omega)); have XR5 := Lib.hid (box_gr XR2.out G' (by have h1 := HP.out; omega)); have HA5 := Lib.hid (HA2.out.gr G' HPL.out); clear C' G'; have Wl := box_lt XV5.out; obtain ⟨W0, W1, W2, W3, W4, Wf0, Wf1, Wf2, Wf3, Wf4⟩ := five_open XV5.out; clear W0 W1 W2 W3)
           | (go_simp; go_at_call 117; refine (hCB.out _ (cur_drew C2.out)).mono ?_; rintro _ w5 ⟨t, rfl, hnm, C', G''⟩; have G' : w2.grownBy w5 (some P) := ⟨G''.os, G''.tape, G''.output, G''.size, G''.block⟩; clear G''; have HNM := Lib.hid hnm; clear hnm; have C5 := Lib.hid C'; have GP := Lib.hid G'; have XV5 := Lib.hid (box_gr XV2.out G' (by have h1 := HP.out; omega)); have XR5 := Lib.hid (box_gr XR2.out G' (by have h1 := HP.out; omega)); have HA5 := Lib.hid (HA2.out.gr G' HPL.out); clear C' G'; have Wl := box_lt XV5.out; obtain ⟨W0, W1, W2, W3, W4, Wf0, Wf1, Wf2, Wf3, Wf4⟩ := five_open XV5.out; clear W0 W1 W2 W3)
           | (refine step_append_lies _ rfl (.tmp 25) (.tmp 28) 27 rfl (w.heap.size + 2) 29 i0 _ 5 64 Tryd.underlying27 HI.out hz hs hb rfl (by decide) _ _ _ rfl (HA5.out.below (below1 _ _)) ⟨w5.heap.size, 0, none⟩ 1 1 (leafC t) rfl rfl (by exact World.news_of_block (heap_alloc_new _ _)) (leaf_one _) (by decide) (by unfold maxLen; omega) (by omega) (by have hq := GP.out.size; simp only [World.size_alloc]; (try omega)) _ rfl ?_; intro g cap5 w8 hown2 hg2 hf2 hlt2; have hsz7 := GP.out.size; have z := fun (i : Nat) (hi : i < w.heap.size + 2) => (hg2.block i (by simp only [World.size_alloc]; omega) (fun e => by have := (HA5.out.lt i e.symm).1; omega)).trans (Below.heap_alloc _ _ _ (by omega)); have XR8 := Lib.hid ((z w.heap.size (by omega)).trans XR5.out); have XV8 := Lib.hid ((z (w.heap.size + 1) (by omega)).trans XV5.out); clear z; have Ul := box_lt XV8.out; obtain ⟨U0, U1, U2, U3, U4, Uf0, Uf1, Uf2, Uf3, Uf4⟩ := five_open XV8.out; clear U0 U1 U2 U3; have C8 := Lib.hid ((Cur.alloc C5.out _).grown hg2 (fun k hk => by have h1 := HPL.out; have h2 := (HA5.out.lt k hk).1; omega)); have HOWN := Lib.hid hown2; have HG2 := Lib.hid hg2; clear hown2 hg2 hf2))
        all_goals
          have G8 := Lib.hid (gr_new (gr_alloc (gr_trans G2.out GP.out) _) HG2.out (fun k hk => by have h2 := (HA5.out.lt k hk).1; omega))
          have HLR : Hid (LR w8 (w.heap.size + 2) 29 (.slice (some ⟨g, 0, none⟩) (l.length + 1) cap5) (l ++ [t])) := Lib.hid (by unfold LR; rw [List.length_append, List.flatMap_append]; simpa [leafC] using HOWN.out)
          go_wp2_with fail
          have hsz8 := G8.out.size
          have hVl8 := box_lt XV8.out
          obtain ⟨w9, hw9⟩ : ∃ wx, wx = (w8.setCell ⟨w.heap.size + 1, 4, none⟩ (.slice (some ⟨g, 0, none⟩) (l.length + 1) cap5)) := ⟨_, rfl⟩
          have C9 : Hid (Cur w9 P) := Lib.hid (by rw [hw9]; exact Cur.set C8.out _ (by have h1 := HP.out; omega))
          have G9 : Hid (w.grownBy w9 (some P)) := Lib.hid (by rw [hw9]; exact gr_sets G8.out _ (by omega))
          have XR9 : Hid (w9.heap[w.heap.size]? = some (.cells #[.int .i64 0, .int .i64 0, .int .i64 0, .string { data := #[] }, .slice none 0 0] 29 (0, 0))) := Lib.hid (by rw [hw9]; exact box_other XR8.out _ (by omega))
          have XV9 : Hid (w9.heap[w.heap.size + 1]? = some (.cells #[.int .i64 10, .int .i64 0, .int .i64 0, .string { data := #[] }, .slice (some ⟨g, 0, none⟩) (l.length + 1) cap5] 29 (0, 0))) := Lib.hid (by rw [hw9]; exact five_set XV8.out _)
          have HA9 : Hid (LR w9 (w.heap.size + 2) 29 (.slice (some ⟨g, 0, none⟩) (l.length + 1) cap5) (l ++ [t])) := Lib.hid (by rw [hw9]; exact LR.set HLR.out _ (by omega))
          have HL9 := Lib.hid (nmd_app HL.out (m := [t]) (by intro z hz; rw [List.mem_singleton] at hz; subst hz; exact HNM.out))
          rw [← hw9]
          clear hw9 HLR
          obtain ⟨l9, hl9⟩ : ∃ q, q = l ++ [t] := ⟨_, rfl⟩
          have hlen9 : l9.length = l.length + 1 := by rw [hl9]; simp
          rw [← hl9] at HA9 HL9
          rw [← hlen9] at XV9 HA9
          have hl9b : l9.length ≤ 9 := by omega
          clear hl9
          rw [← hlen9]
          refine (l1Once_c P 12 _ (by exact C9.out) (by omega)).mono ?_
          rintro _ w10 ⟨q2, rfl, C', G'⟩
          have C10 := Lib.hid C'; clear C'
          have XR10 : Hid (w10.heap[w.heap.size]? = some (.cells #[.int .i64 0, .int .i64 0, .int .i64 0, .string { data := #[] }, .slice none 0 0] 29 (0, 0))) := Lib.hid (box_gr XR9.out G' (by have h1 := HP.out; omega))
          have XV10 : Hid (w10.heap[w.heap.size + 1]? = some (.cells #[.int .i64 10, .int .i64 0, .int .i64 0, .string { data := #[] }, .slice (some ⟨g, 0, none⟩) l9.length cap5] 29 (0, 0))) := Lib.hid (box_gr XV9.out G' (by have h1 := HP.out; omega))
          have HA10 := Lib.hid (HA9.out.gr G' HPL.out)
          have G10 := Lib.hid (gr_trans G9.out G'); clear G'
          have HAP10 := Lib.hid (AP.mono (lo' := w.heap.size) (HA10.out.ap HL9.out) (by omega))
          have Rl := box_lt XR10.out
          obtain ⟨R0, R1, R2, R3, R4, Rf0, Rf1, Rf2, Rf3, Rf4⟩ := five_open XR10.out
          have El := box_lt XV10.out
          obtain ⟨E0, E1, E2, E3, E4, Ef0, Ef1, Ef2, Ef3, Ef4⟩ := five_open XV10.out
          cases q2 with
          | true =>
            go_wp2_with fail
            refine bodyPost_ret (v := .agg #[.int .i64 9, .int .i64 0, .int .i64 0, .string { data := #[] }, .slice (some ⟨g, 0, none⟩) l9.length cap5]) (by simp [results, Tryd.results116, go_sem, R0, R1, R2, R3, R4, hlen9]) rfl ⟨.mk 9 0 0 { data := #[] } l9, _, rfl, ⟨.inr rfl, rfl, rfl, rfl, HL9.out, hl9b⟩, ?_, ?_, ?_⟩
            · refine AP.mono (lo := w.heap.size + 2) ?_ (by omega)
              have hq := HA10.out.ap HL9.out
              simp only [Tree.l_mk]
              repeat (first | with_reducible exact hq | with_reducible refine ap_set ?_ _ (by omega))
            · repeat (first | with_reducible exact C10.out | with_reducible refine Cur.set ?_ _ (by have h1 := HP.out; omega))
            · repeat (first | with_reducible exact G10.out | with_reducible refine gr_sets ?_ _ (by omega))
          | false =>
            go_wp2_with fail
            refine bodyPost_ret (v := .agg #[.int .i64 10, .int .i64 0, .int .i64 0, .string { data := #[] }, .slice (some ⟨g, 0, none⟩) l9.length cap5]) (by simp [results, Tryd.results116, go_sem, R0, R1, R2, R3, R4, hlen9]) rfl ⟨.mk 10 0 0 { data := #[] } l9, _, rfl, ⟨.inl rfl, rfl, rfl, rfl, HL9.out, hl9b⟩, ?_, ?_, ?_⟩
            · refine AP.mono (lo := w.heap.size + 2) ?_ (by omega)
              have hq := HA10.out.ap HL9.out
              simp only [Tree.l_mk]
              repeat (first | with_reducible exact hq | with_reducible refine ap_set ?_ _ (by omega))
            · repeat (first | with_reducible exact C10.out | with_reducible refine Cur.set ?_ _ (by have h1 := HP.out; omega))
            · repeat (first | with_reducible exact G10.out | with_reducible refine gr_sets ?_ _ (by omega))

end Go.Proofs.YtilmhemcpgiikaaDoor
/- The draws of maps. -/
namespace Go.Proofs.YtilmhemcpgiikaaDoor
open Go.Deep Go.ChangeShapes Go.WideShapes Go.ChangeAt Go.RowKit
open Go.ChangeMaps (open_string shut_string)

set_option maxRecDepth 100000 in
set_option maxHeartbeats 40000000 in
theorem drawSortMap_c (zs : List Int) (a : Option Addr) (cap : Nat) (w : World) (hr : Rd w .u8 a zs) (hw : ∀ n ∈ zs, (Lit.int .u8 n).wf = true) (hlen : zs.length ≤ 1048576) (hcap : zs.length ≤ cap) :
    Calls Tryd.prog 58 #[.slice a zs.length cap] w fun e w' => (∃ (t : Tree) (u : Value), e = .returned (.agg #[.int .i64 t.kind, .int .i64 t.n, .int .i64 t.x, .string t.s, u]) ∧ MapT t ∧ TSl w' u t.l) ∧ Below w.heap.size w w' := by
  have HR := Lib.hid hr; clear hr
  have HW := Lib.hid hw; clear hw
  go_enter Tryd.func58, Tryd.ntmps58
  go_wp2_with fail
  refine (l1New_c zs a cap _ (by exact rd_kept (below_alloc (Below.refl w.heap.size w) _) HR.out) HW.out hlen hcap).mono ?_
  rintro _ w1 ⟨P, rfl, hP, C', b'⟩
  simp only [World.size_alloc] at hP
  have C1 := Lib.hid C'; clear C'
  have XR1 : Hid (w1.heap[w.heap.size]? = some (.cells #[.int .i64 0, .int .i64 0, .int .i64 0, .string { data := #[] }, .slice none 0 0] 29 (0, 0))) := Lib.hid (box_below (heap_alloc_new _ _) b')
  have LER := Lib.hid (show w.heap.size < P by omega)
  have BW1 := Lib.hid (nx (below_alloc (Below.refl w.heap.size w) _) b'); clear b'
  have HP := Lib.hid C1.out.lt
  have HWP := Lib.hid (show w.heap.size ≤ P by omega); clear hP
  have G1 := Lib.hid (gr_refl (w := w1) (P := P))
  go_wp2_with fail
  refine (l7Names_c P _ (by exact C1.out)).mono ?_
  rintro _ w2 ⟨t, u, rfl, ht, hap, C', G'⟩
  have HT := Lib.hid ht; clear ht
  have HAP := Lib.hid hap; clear hap
  have XR2 : Hid (w2.heap[w.heap.size]? = some (.cells #[.int .i64 0, .int .i64 0, .int .i64 0, .string { data := #[] }, .slice none 0 0] 29 (0, 0))) := Lib.hid (box_gr XR1.out G' (by have h1 := HP.out; have h2 := LER.out; omega))
  have G2 := Lib.hid (gr_trans G1.out G'); clear G' C'
  obtain ⟨au, cu, rfl⟩ := HAP.out.form
  have Rl := box_lt XR2.out
  obtain ⟨R0, R1, R2, R3, R4, Rf0, Rf1, Rf2, Rf3, Rf4⟩ := five_open XR2.out
  go_wp2_with fail
  have hRl := LER.out; have hP1 := HP.out
  refine bodyPost_ret (v := .agg #[.int .i64 t.kind, .int .i64 t.n, .int .i64 t.x, .string t.s, .slice au t.l.length cu]) (by simp [results, Tryd.results58, go_sem, R0, R1, R2, R3, R4]) rfl ⟨⟨t, _, rfl, HT.out, ?_⟩, ?_⟩
  · have hk : Kp w2 w1.heap.size w2 := Kp.refl _ _
    refine (Kp.ap (w0 := w2) (lo := w1.heap.size) ?_ HAP.out).osl.tsl
    repeat (first | with_reducible exact hk | with_reducible refine Kp.set ?_ _ (by omega))
  · have hb := below_gr BW1.out G2.out HWP.out
    repeat (first | with_reducible exact hb | with_reducible refine below_set ?_ _ (Nat.le_refl _))
set_option maxRecDepth 100000 in
set_option maxHeartbeats 40000000 in
theorem drawLookup_c (zs : List Int) (a : Option Addr) (cap : Nat) (w : World) (hr : Rd w .u8 a zs) (hw : ∀ n ∈ zs, (Lit.int .u8 n).wf = true) (hlen : zs.length ≤ 1048576) (hcap : zs.length ≤ cap) :
    Calls Tryd.prog 59 #[.slice a zs.length cap] w fun e w' => (∃ (t t' : Tree) (u : Value), e = .returned (.tuple #[.agg #[.int .i64 t.kind, .int .i64 t.n, .int .i64 t.x, .string t.s, u], .agg #[.int .i64 t'.kind, .int .i64 t'.n, .int .i64 t'.x, .string t'.s, .slice none 0 0]]) ∧ MapT t ∧ NmD t' ∧ TSl w' u t.l) ∧ Below w.heap.size w w' := by
  have HR := Lib.hid hr; clear hr
  have HW := Lib.hid hw; clear hw
  go_enter Tryd.func59, Tryd.ntmps59
  go_wp2_with fail
  refine (l1New_c zs a cap _ (by exact rd_kept (below_alloc (below_alloc (Below.refl w.heap.size w) _) _) HR.out) HW.out hlen hcap).mono ?_
  rintro _ w1 ⟨P, rfl, hP, C', b'⟩
  simp only [World.size_alloc] at hP
  have C1 := Lib.hid C'; clear C'
  have XR1 : Hid (w1.heap[w.heap.size]? = some (.cells #[.int .i64 0, .int .i64 0, .int .i64 0, .string { data := #[] }, .slice none 0 0] 29 (0, 0))) := Lib.hid (box_below (first_block _ _ _) b')
  have LER := Lib.hid (show w.heap.size < P by omega)
  have XQ1 : Hid (w1.heap[(w.heap.size + 1)]? = some (.cells #[.int .i64 0, .int .i64 0, .int .i64 0, .string { data := #[] }, .slice none 0 0] 29 (0, 0))) := Lib.hid (box_below (second_block2 _ _ _) b')
  have LEQ := Lib.hid (show (w.heap.size + 1) < P by omega)
  have BW1 := Lib.hid (nx (below_alloc (below_alloc (Below.refl w.heap.size w) _) _) b'); clear b'
  have HP := Lib.hid C1.out.lt
  have HWP := Lib.hid (show w.heap.size ≤ P by omega); clear hP
  have G1 := Lib.hid (gr_refl (w := w1) (P := P))
  go_wp2_with fail
  refine (l7Names_c P _ (by exact C1.out)).mono ?_
  rintro _ w2 ⟨t, u, rfl, ht, hap, C', G'⟩
  have HT := Lib.hid ht; clear ht
  have HAP := Lib.hid hap; clear hap
  have C2 := Lib.hid C'; clear C'
  have XR2 : Hid (w2.heap[w.heap.size]? = some (.cells #[.int .i64 0, .int .i64 0, .int .i64 0, .string { data := #[] }, .slice none 0 0] 29 (0, 0))) := Lib.hid (box_gr XR1.out G' (by have h1 := HP.out; have h2 := LER.out; omega))
  have XQ2 : Hid (w2.heap[(w.heap.size + 1)]? = some (.cells #[.int .i64 0, .int .i64 0, .int .i64 0, .string { data := #[] }, .slice none 0 0] 29 (0, 0))) := Lib.hid (box_gr XQ1.out G' (by have h1 := HP.out; have h2 := LEQ.out; omega))
  have G2 := Lib.hid (gr_trans G1.out G'); clear G'
  obtain ⟨au, cu, rfl⟩ := HAP.out.form
  go_wp2_with fail
  refine (l6Name_c P _ (by exact C2.out)).mono ?_
  rintro _ w3 ⟨t', rfl, hnm, C', G'⟩
  have HNM := Lib.hid hnm; clear hnm
  have XR3 : Hid (w3.heap[w.heap.size]? = some (.cells #[.int .i64 0, .int .i64 0, .int .i64 0, .string { data := #[] }, .slice none 0 0] 29 (0, 0))) := Lib.hid (box_gr XR2.out G' (by have h1 := HP.out; have h2 := LER.out; omega))
  have XQ3 : Hid (w3.heap[(w.heap.size + 1)]? = some (.cells #[.int .i64 0, .int .i64 0, .int .i64 0, .string { data := #[] }, .slice none 0 0] 29 (0, 0))) := Lib.hid (box_gr XQ2.out G' (by have h1 := HP.out; have h2 := LEQ.out; omega))
  have KT3 := Lib.hid (Kp.gr (Kp.refl w2 (w1.heap.size)) G' HP.out)
  have G3 := Lib.hid (gr_trans G2.out G'); clear G' C'
  have Rl := box_lt XR3.out
  obtain ⟨R0, R1, R2, R3, R4, Rf0, Rf1, Rf2, Rf3, Rf4⟩ := five_open XR3.out
  have Ql := box_lt XQ3.out
  obtain ⟨Q0, Q1, Q2, Q3, Q4, Qf0, Qf1, Qf2, Qf3, Qf4⟩ := five_open XQ3.out
  go_wp2_with fail
  have hRl := LER.out; have hQl := LEQ.out; have hP1 := HP.out
  refine bodyPost_ret (v := .tuple #[.agg #[.int .i64 t.kind, .int .i64 t.n, .int .i64 t.x, .string t.s, .slice au t.l.length cu], .agg #[.int .i64 t'.kind, .int .i64 t'.n, .int .i64 t'.x, .string t'.s, .slice none 0 0]]) (by simp [results, Tryd.results59, go_sem, R0, R1, R2, R3, R4, Q0, Q1, Q2, Q3, Q4]) rfl ⟨⟨t, t', _, rfl, HT.out, HNM.out, ?_⟩, ?_⟩
  · refine (Kp.ap (w0 := w2) (lo := w1.heap.size) ?_ HAP.out).osl.tsl
    repeat (first | with_reducible exact KT3.out | with_reducible refine Kp.set ?_ _ (by omega))
  · have hb := below_gr BW1.out G3.out HWP.out
    repeat (first | with_reducible exact hb | with_reducible refine below_set ?_ _ (by omega))
set_option maxRecDepth 100000 in
set_option maxHeartbeats 40000000 in
theorem drawSorted_c (zs : List Int) (a : Option Addr) (cap : Nat) (w : World) (hr : Rd w .u8 a zs) (hw : ∀ n ∈ zs, (Lit.int .u8 n).wf = true) (hlen : zs.length ≤ 1048576) (hcap : zs.length ≤ cap) :
    Calls Tryd.prog 62 #[.slice a zs.length cap] w fun e w' => (∃ (t : Tree) (u : Value), e = .returned (.agg #[.int .i64 t.kind, .int .i64 t.n, .int .i64 t.x, .string t.s, u]) ∧ t.cost ≤ 99 ∧ Fits t.kind t.n t.x t.s ∧ TSl w' u t.l) ∧ Below w.heap.size w w' := by
  have HR := Lib.hid hr; clear hr
  have HW := Lib.hid hw; clear hw
  go_enter Tryd.func62, Tryd.ntmps62
  go_wp2_with fail
  refine (l1New_c zs a cap _ (by exact rd_kept (below_alloc (Below.refl w.heap.size w) _) HR.out) HW.out hlen hcap).mono ?_
  rintro _ w1 ⟨P, rfl, hP, C', b'⟩
  simp only [World.size_alloc] at hP
  have C1 := Lib.hid C'; clear C'
  have XR1 : Hid (w1.heap[w.heap.size]? = some (.cells #[.int .i64 0, .int .i64 0, .int .i64 0, .string { data := #[] }, .slice none 0 0] 29 (0, 0))) := Lib.hid (box_below (heap_alloc_new _ _) b')
  have LER := Lib.hid (show w.heap.size < P by omega)
  have BW1 := Lib.hid (nx (below_alloc (Below.refl w.heap.size w) _) b'); clear b'
  have HP := Lib.hid C1.out.lt
  have HWP := Lib.hid (show w.heap.size ≤ P by omega); clear hP
  have G1 := Lib.hid (gr_refl (w := w1) (P := P))
  go_wp2_with fail
  refine (l7Names_c P _ (by exact C1.out)).mono ?_
  rintro _ w2 ⟨t, u, rfl, ht, hap, C', G'⟩
  have HT := Lib.hid ht; clear ht
  have HAP := Lib.hid hap; clear hap
  have C2 := Lib.hid C'; clear C'
  have XR2 : Hid (w2.heap[w.heap.size]? = some (.cells #[.int .i64 0, .int .i64 0, .int .i64 0, .string { data := #[] }, .slice none 0 0] 29 (0, 0))) := Lib.hid (box_gr XR1.out G' (by have h1 := HP.out; have h2 := LER.out; omega))
  have G2 := Lib.hid (gr_trans G1.out G'); clear G'
  obtain ⟨au, cu, rfl⟩ := HAP.out.form
  have LEV := Lib.hid (show P < w2.heap.size by have h1 := HP.out; have h2 := G2.out.size; omega)
  go_wp2_with fail
  refine (l1Once_c P 2 _ (by exact (Cur.alloc C2.out _)) (by omega)).mono ?_
  rintro _ w3 ⟨q, rfl, C', G'⟩
  have XR3 : Hid (w3.heap[w.heap.size]? = some (.cells #[.int .i64 0, .int .i64 0, .int .i64 0, .string { data := #[] }, .slice none 0 0] 29 (0, 0))) := Lib.hid (box_gr (box_alloc XR2.out _) G' (by have h1 := HP.out; have h2 := LER.out; omega))
  have XV3 : Hid (w3.heap[w2.heap.size]? = some (.cells #[.int .i64 t.kind, .int .i64 t.n, .int .i64 t.x, .string t.s, .slice au t.l.length cu] 29 (0, 0))) := Lib.hid (box_gr (heap_alloc_new _ _) G' (by have h1 := LEV.out; omega))
  have KT3 := Lib.hid (Kp.gr (Kp.alloc (Kp.refl w2 (w1.heap.size)) _) G' HP.out)
  have G3 := Lib.hid (gr_trans (gr_alloc G2.out _) G'); clear G' C'
  have HTS := Lib.hid (Kp.ap (w0 := w2) (lo := w1.heap.size) KT3.out HAP.out).osl.tsl
  have hb3 := below_gr BW1.out G3.out HWP.out
  have HB3 := Lib.hid hb3; clear hb3
  have Rl := box_lt XR3.out
  obtain ⟨R0, R1, R2, R3, R4, Rf0, Rf1, Rf2, Rf3, Rf4⟩ := five_open XR3.out
  have Vl := box_lt XV3.out
  obtain ⟨V0, V1, V2, V3, V4, Vf0, Vf1, Vf2, Vf3, Vf4⟩ := five_open XV3.out
  cases q with
  | false =>
    go_wp2_with fail
    have hRl := LER.out; have hP1 := HP.out
    refine bodyPost_ret (v := .agg #[.int .i64 t.kind, .int .i64 t.n, .int .i64 t.x, .string t.s, .slice au t.l.length cu]) (by simp [results, Tryd.results62, go_sem, R0, R1, R2, R3, R4]) rfl ⟨⟨t, _, rfl, HT.out.cost, HT.out.fits, ?_⟩, ?_⟩
    · refine (Kp.ap (w0 := w2) (lo := w1.heap.size) ?_ HAP.out).osl.tsl
      repeat (first | with_reducible exact KT3.out | with_reducible refine Kp.set ?_ _ (by omega))
    · repeat (first | with_reducible exact HB3.out | with_reducible refine below_set ?_ _ (Nat.le_refl _))
  | true =>
    have hcs := sortT_cost t; have hfs := sortT_fits HT.out.fits; have htc := HT.out.cost
    have hSP := sortMap_spec t w3 (.slice au t.l.length cu) (by omega) HTS.out HT.out.fits
    have HFS := Lib.hid (show (sortT t).cost ≤ 99 ∧ Fits (sortT t).kind (sortT t).n (sortT t).x (sortT t).s from ⟨by omega, hfs⟩)
    clear hcs hfs htc
    generalize sortT t = r at *
    have HSP := Lib.hid hSP; clear hSP
    go_wp2_with fail
    refine HSP.out.mono ?_
    rintro _ w4 ⟨a4, n4, c4, rfl, ho, b'⟩
    have XR4 : Hid (w4.heap[w.heap.size]? = some (.cells #[.int .i64 0, .int .i64 0, .int .i64 0, .string { data := #[] }, .slice none 0 0] 29 (0, 0))) := Lib.hid (box_below XR3.out b')
    have HO := Lib.hid ho; clear ho
    have hs4 := b'.size
    have HB4 := Lib.hid (vnx HB3.out b'); clear b' Rl R0 R1 R2 R3 R4 Rf0 Rf1 Rf2 Rf3 Rf4 Vl V0 V1 V2 V3 V4 Vf0 Vf1 Vf2 Vf3 Vf4
    have Rl := box_lt XR4.out
    obtain ⟨R0, R1, R2, R3, R4, Rf0, Rf1, Rf2, Rf3, Rf4⟩ := five_open XR4.out
    have hR3 := box_lt XR3.out
    go_wp2_with fail
    refine bodyPost_ret (v := .agg #[.int .i64 r.kind, .int .i64 r.n, .int .i64 r.x, .string r.s, .slice a4 n4 c4]) (by simp [results, Tryd.results62, go_sem, R0, R1, R2, R3, R4]) rfl ⟨⟨r, _, rfl, HFS.out.1, HFS.out.2, ?_⟩, ?_⟩
    · refine OSl.tsl (T := 29) (S := Rng w3.heap.size w4.heap.size) ?_
      iterate 5 refine osl_sets ?_ (by dsimp only; omega) _
      exact HO.out
    · repeat (first | with_reducible exact HB4.out | with_reducible refine below_set ?_ _ (Nat.le_refl _))
end Go.Proofs.YtilmhemcpgiikaaDoor
/- SortMap of the program: pairs are exchanged with those ahead of them. -/
namespace Go.Proofs.YtilmhemcpgiikaaDoor
open Go.Deep Go.ChangeShapes Go.WideShapes Go.ChangeAt Go.RowKit
open Go.ChangeMaps (open_string shut_string)

/-- The function value that is handed on. -/
abbrev lessV : Value := .func (.func 16) #[] #[]
set_option maxRecDepth 100000 in
set_option maxHeartbeats 20000000 in
theorem sortPairs_c (t : Tree) (w : World) (u : Value) (hL : LaidP w) (hcost : t.cost ≤ 1048576) (hu : TSl w u t.l) (hfit : Fits t.kind t.n t.x t.s) :
    Calls Tryd.prog 81 #[.agg #[.int .i64 t.kind, .int .i64 t.n, .int .i64 t.x, .string t.s, u], lessV] w (CopyP w (sortT t)) := by
  have hc := Tree.cost_eq t
  have hcl := costL_eq t.l
  have hlen : t.l.length ≤ 1048576 := by omega
  have LP := Lib.hid hL
  have HC := Lib.hid (fun w1 (hb : Below w.heap.size w w1) => copyVal_c t w1 u hcost (hu.kept hb) hfit)
  obtain ⟨a, cap, -, -, rfl, -⟩ := hu
  have HP := Lib.hid (fun w1 => isPaired_c t a cap w1 hlen)
  have hB := first_blocks w (.cells #[.int .i64 t.kind, .int .i64 t.n, .int .i64 t.x, .string t.s, .slice a t.l.length cap] 29) (.cells #[.int .i64 0, .int .i64 0, .int .i64 0, .string { data := #[] }, .slice none 0 0] 29)
  have HB1 := Lib.hid hB.1; have HB2 := Lib.hid hB.2
  have HW := Lib.hid (vbelow2 w (.cells #[.int .i64 t.kind, .int .i64 t.n, .int .i64 t.x, .string t.s, .slice a t.l.length cap] 29) (.cells #[.int .i64 0, .int .i64 0, .int .i64 0, .string { data := #[] }, .slice none 0 0] 29))
  clear hL hcost hfit hc hcl hB
  cases hp : pairedB t with
  | false =>
    have hS : sortT t = t := by unfold sortT; rw [hp]; rfl
    rw [hS]
    rw [hp] at HP
    clear hp hS
    go_enter Tryd.func81, Tryd.ntmps81
    go_wp2_with fail
    refine (HC.out _ HW.out).mono ?_
    rintro _ w1 ⟨a1, n1, c1, rfl, ho, b1⟩
    have XV1 := Lib.hid (bx_below HB1.out b1); have XR1 := Lib.hid (bx_below HB2.out b1)
    have HO := Lib.hid ho; clear ho
    have hs1 := b1.size
    simp only [World.size_alloc] at hs1
    have BW1 := Lib.hid (vnx HW.out b1); clear b1
    have Vl := bx_lt XV1.out
    obtain ⟨v0, v1, v2, v3, v4, vf⟩ := five_kept (Below.refl _ _) XV1.out
    clear vf
    go_wp2_with fail
    refine (HP.out _).mono ?_
    rintro _ w2 ⟨rfl, b2⟩
    have XR2 := Lib.hid (bx_below (bx_alloc XR1.out _) b2)
    have XO2 : Hid (w2.heap[w1.heap.size]? = some (.cells #[.int .i64 t.kind, .int .i64 t.n, .int .i64 t.x, .string t.s, .slice a1 n1 c1] 29 (0, 0))) := Lib.hid (bx_below (heap_alloc_new _ _) b2)
    have HO2 := Lib.hid ((HO.out.kept (fun b hb => Below.heap_alloc w1 (.cells #[.int .i64 t.kind, .int .i64 t.n, .int .i64 t.x, .string t.s, .slice a1 n1 c1] 29) b hb.2)).kept (fun b hb => b2.block b (by rw [World.size_alloc]; have := hb.2; omega)))
    have hs2 := b2.size
    simp only [World.size_alloc] at hs2
    have BW2 := Lib.hid (vnx (bl_alloc BW1.out _) b2); clear b2 Vl v0 v1 v2 v3 v4
    have Rl := bx_lt XR2.out
    obtain ⟨R0, R1, R2, R3, R4, Rf⟩ := five_kept (Below.refl _ _) XR2.out
    have Rf0 := Rf 0; have Rf1 := Rf 1; have Rf2 := Rf 2; have Rf3 := Rf 3; have Rf4 := Rf 4; clear Rf
    obtain ⟨O0, O1, O2, O3, O4, Of⟩ := five_kept (Below.refl _ _) XO2.out
    clear Of
    go_wp2_with fail
    refine bodyPost_ret (v := .agg #[.int .i64 t.kind, .int .i64 t.n, .int .i64 t.x, .string t.s, .slice a1 n1 c1]) (by simp [results, Tryd.results81, go_sem, R0, R1, R2, R3, R4]) rfl ?_
    unfold CopyP
    refine ⟨_, _, _, rfl, ?_, ?_⟩
    · refine OSl.mono (S := Rng (w.heap.size + 2) w1.heap.size) ?_ (fun b hb => ⟨by have := hb.1; omega, by have := hb.2; simp only [World.size_setCell]; omega⟩)
      iterate 5 refine osl_sets ?_ (by dsimp only; omega) _
      have h := HO2.out
      simp only [World.size_alloc] at h
      exact h
    · repeat (first | with_reducible exact BW2.out | with_reducible refine bl_set ?_ _ (by omega))
  | true =>
    have hk : t.kind = 10 := by unfold pairedB at hp; simp only [Bool.and_eq_true, beq_iff_eq] at hp; exact hp.1
    have hn2 : t.l.length = 2 * (t.l.length / 2) := by unfold pairedB at hp; simp only [Bool.and_eq_true, beq_iff_eq] at hp; omega
    have hS : sortT t = .mk t.kind t.n t.x t.s (sortF lessT t.l (t.l.length / 2)) := by unfold sortT; rw [hp]; rfl
    obtain ⟨N, hN⟩ : ∃ N, N = t.l.length / 2 := ⟨_, rfl⟩
    rw [← hN] at hn2 hS
    rw [hS]
    rw [hp] at HP
    clear hp hS hk
    have HNN := Lib.hid hN; have HN2 := Lib.hid hn2
    clear hN hn2
    go_enter Tryd.func81, Tryd.ntmps81
    go_wp2_with fail
    refine (HC.out _ HW.out).mono ?_
    rintro _ w1 ⟨a1, n1, c1, rfl, ho, b1⟩
    have XV1 := Lib.hid (bx_below HB1.out b1); have XR1 := Lib.hid (bx_below HB2.out b1)
    have hs1 := b1.size
    simp only [World.size_alloc] at hs1
    have BW1 := Lib.hid (vnx HW.out b1); clear b1
    have Vl := bx_lt XV1.out
    obtain ⟨v0, v1, v2, v3, v4, vf⟩ := five_kept (Below.refl _ _) XV1.out
    clear vf
    obtain ⟨a1', n1', hfo⟩ : ∃ a1' n1', (Value.slice a1 n1 c1) = .slice a1' t.l.length n1' := by
      obtain ⟨q1, q2, _, _, q3, _⟩ := ho.tsl
      exact ⟨q1, q2, q3⟩
    injection hfo with hf1 hf2 hf3
    subst hf1 hf2 hf3
    have HO := Lib.hid ho; clear ho
    go_wp2_with fail
    refine (HP.out _).mono ?_
    rintro _ w2 ⟨rfl, b2⟩
    have XR2 := Lib.hid (bx_below (bx_alloc XR1.out _) b2)
    have XO2 : Hid (w2.heap[w1.heap.size]? = some (.cells #[.int .i64 t.kind, .int .i64 t.n, .int .i64 t.x, .string t.s, .slice a1 t.l.length c1] 29 (0, 0))) := Lib.hid (bx_below (heap_alloc_new _ _) b2)
    have HO2 := Lib.hid ((HO.out.kept (fun b hb => Below.heap_alloc w1 (.cells #[.int .i64 t.kind, .int .i64 t.n, .int .i64 t.x, .string t.s, .slice a1 t.l.length c1] 29) b hb.2)).kept (fun b hb => b2.block b (by rw [World.size_alloc]; have := hb.2; omega)))
    have hs2 := b2.size
    simp only [World.size_alloc] at hs2
    have BW2 := Lib.hid (vnx (bl_alloc BW1.out _) b2); clear b2 Vl v0 v1 v2 v3 v4 HO
    have hn2 := HN2.out
    clear HNN HN2
    by_cases h0 : 0 < t.l.length
    · have hop := HO2.out
      simp only [World.size_alloc] at hop
      obtain ⟨g, cap0, es, hv, hmap, hesl, hrow, hcm, hg1, hg2, hok⟩ := osl_open hop (by omega) h0
      injection hv with hv1 hv2 hv3
      subst hv1 hv3
      have HR := Lib.hid hrow; have HOK := Lib.hid hok; have HMAP := Lib.hid hmap; clear hrow hok hmap hop
      have hesN : es.length = 2 * N := by omega
      have hN1 : 1 ≤ N := by omega
      have hNb : N ≤ 524288 := by omega
      have hL0 : ((t.l.length : Nat) : Int) = 2 * (N : Int) := by omega
      clear h0
      generalize t.l.length = L at *
      subst hn2
      have HGR := Lib.hid (show g ≠ w.heap.size + 1 by omega); have HGO := Lib.hid (show g ≠ w1.heap.size by omega); have HG1 := Lib.hid hg1; have HG2 := Lib.hid hg2
      go_wp2_with fail
      go_loopw [6] (fun i wr => ∃ (j I : Nat), 1 ≤ j ∧ j ≤ N ∧ I = 2 * j ∧ i = .int .i64 I ∧ Hid (RowE wr g c1 29 (sortF ltE es j ++ es.drop (2 * j))) ∧ Hid (Sv g w2 wr)) (fun i _ => 2 * N + 2 - (intOf i).toNat)
      case atStart => exact ⟨1, 2, Nat.le_refl _, hN1, rfl, rfl, Lib.hid (by rw [Nat.mul_one, sort_one (by omega)]; exact HR.out), Lib.hid (Sv.refl _ _)⟩
      case round =>
        obtain ⟨j, I, hj1, hjN, hI, rfl, HRJ, HSV⟩ := hrel
        have XOr := Lib.hid (HSV.out.box XO2.out HGO.out.symm)
        obtain ⟨O0, O1, O2, O3, O4, Of⟩ := five_kept (Below.refl _ _) XOr.out
        clear Of O0 O1 O2 O3
        by_cases hjl : I < 2 * N
        · have hj : 2 * j + 1 < es.length := by omega
          obtain ⟨x, hx⟩ : ∃ x, x = es[2 * j] := ⟨_, rfl⟩
          obtain ⟨y, hy⟩ : ∃ y, y = es[2 * j + 1] := ⟨_, rfl⟩
          have hst := mid_start (lt := ltE) hj
          have hend := fun K (hK : K = kF ltE x (sortF ltE es j) j) => mid_end (lt := ltE) (K := K) hj (by rw [← hx]; exact hK)
          have hperm := fun K => mid_perm_all (lt := ltE) (K := K) hj
          have hsl := sortF_len (lt := ltE) (l := es) (i := j) (by omega)
          have hmem : ∀ e ∈ sortF ltE es j, e ∈ es := fun e he => List.mem_of_mem_take ((sortF_perm (lt := ltE) (l := es) (i := j) (by omega)).mem_iff.1 he)
          have hxm : x ∈ es := by rw [hx]; exact List.getElem_mem _
          have hym : y ∈ es := by rw [hy]; exact List.getElem_mem _
          simp only [← hx, ← hy] at hst hend hperm
          rw [hst] at HRJ
          clear hst hx hy
          generalize sortF ltE es j = σ at *
          generalize hrr : es.drop (2 * (j + 1)) = r at *
          have HRR := Lib.hid hrr; clear hrr
          have HEND := Lib.hid hend; have HMEM := Lib.hid hmem; have HXM := Lib.hid hxm; have HYM := Lib.hid hym; have HSL := Lib.hid hsl
          clear hend hmem hxm hym hperm
          have hIN : (I : Int) < 2 * (N : Int) := by omega
          have HII := Lib.hid hI
          have hI2 : 2 ≤ I := by omega
          have hIb : I ≤ 1048576 := by omega
          clear hI
          go_wp2_with fail
          clear O4
          go_loopw [7] (fun k wx => ∃ (K : Nat) (z : Int), K ≤ j ∧ z = 2 * (K : Int) ∧ k = .int .i64 z ∧ Hid (kF ltE x σ K = kF ltE x σ j) ∧ Hid (RowE wx g c1 29 (midF σ K x y r)) ∧ Hid (Sv g w2 wx)) (fun k _ => (intOf k).toNat)
          case atStart => exact ⟨j, I, Nat.le_refl _, by have := HII.out; omega, rfl, Lib.hid rfl, HRJ, HSV⟩
          case round =>
            obtain ⟨K, z, hKj, hz, rfl, HKF, HRK, HSK⟩ := hrel
            have XOk := Lib.hid (HSK.out.box XO2.out HGO.out.symm)
            obtain ⟨O0, O1, O2, O3, O4, Of⟩ := five_kept (Below.refl _ _) XOk.out
            clear Of O0 O1 O2 O3
            by_cases hK0 : 0 < K
            · obtain ⟨K', rfl⟩ : ∃ K', K = K' + 1 := ⟨K - 1, by omega⟩
              obtain ⟨M, hM⟩ : ∃ M : Nat, M = 2 * K' := ⟨_, rfl⟩
              obtain rfl : z = (M : Int) + 2 := by omega
              have hsl2 := HSL.out
              have hl2 : 2 * (K' + 1) ≤ σ.length := by omega
              have gx : (midF σ (K' + 1) x y r)[M + 2]? = some x := by rw [show M + 2 = 2 * (K' + 1) by omega]; exact mid_get0 hl2
              have gy : (midF σ (K' + 1) x y r)[M + 3]? = some y := by rw [show M + 3 = 2 * (K' + 1) + 1 by omega]; exact mid_get1 hl2
              have ga : (midF σ (K' + 1) x y r)[M]? = some (σ[2 * K']'(by omega)) := by rw [hM, mid_low hl2 (by omega)]; exact List.getElem?_eq_getElem _
              have gb : (midF σ (K' + 1) x y r)[M + 1]? = some (σ[2 * K' + 1]'(by omega)) := by rw [hM, mid_low hl2 (by omega)]; exact List.getElem?_eq_getElem _
              have hsw := mid_swap (σ := σ) (r := r) (K := K') (x := x) (y := y) hl2 (List.getElem?_eq_getElem (by omega)) (List.getElem?_eq_getElem (by omega))
              have hyes := kF_yes (lt := ltE) (x := x) (σ := σ) (k := K') (h := by omega)
              have hno := kF_no (lt := ltE) (x := x) (σ := σ) (k := K') (h := by omega)
              have ham := HMEM.out _ (List.getElem_mem (show 2 * K' < σ.length by omega))
              have hbm := HMEM.out _ (List.getElem_mem (show 2 * K' + 1 < σ.length by omega))
              generalize σ[2 * K'] = e1 at *
              generalize σ[2 * K' + 1] = e2 at *
              have hok := HSK.out.ok HOK.out
              obtain ⟨fx, ox, -⟩ := hok.1 x HXM.out
              obtain ⟨f1, o1, -⟩ := hok.1 e1 ham
              obtain ⟨xa, xc, hxu⟩ := hok.form HXM.out
              obtain ⟨ya, yc, hyu⟩ := hok.form HYM.out
              obtain ⟨aa, ac, hau⟩ := hok.form ham
              obtain ⟨ba, bc, hbu⟩ := hok.form hbm
              have hltE : ltE x e1 = lessT x.t e1.t := rfl
              rw [hltE] at hyes hno
              have HC := Lib.hid (lessImpl_c x.t e1.t wr.drew x.u e1.u (LP.out.kept (HSK.out.drew.toBelow BW2.out (by have := HG1.out; omega) (by omega))) (ox.tsl.kept (Below.refl _ _).drew) (o1.tsl.kept (Below.refl _ _).drew) fx f1)
              have hsw2 : ((((midF σ (K' + 1) x y r).set (M + 2) e1).set M x).set (M + 3) e2).set (M + 1) y = midF σ K' x y r := by rw [hM]; exact hsw
              clear hsw hltE fx ox f1 o1 hok ham hbm hl2 hsl2
              have HSW := Lib.hid hsw2; have HY := Lib.hid hyes; have HN := Lib.hid hno; have HGX := Lib.hid gx; have HGY := Lib.hid gy; have HGA := Lib.hid ga; have HGB := Lib.hid gb; have HKJ := Lib.hid hKj
              have HMM := Lib.hid hM
              clear hsw2 hyes hno gx gy ga gb
              obtain ⟨xt, xu, xS⟩ := x
              obtain ⟨yt, yu, yS⟩ := y
              obtain ⟨e1t, e1u, e1S⟩ := e1
              obtain ⟨e2t, e2u, e2S⟩ := e2
              dsimp only at hxu hyu hau hbu HC HY HN
              subst hxu hyu hau hbu
              have hMb : M + 2 ≤ 1048576 := by omega
              have hML : (M : Int) + 3 < 2 * (N : Int) := by omega
              obtain ⟨X0, X1, X2, X3, X4⟩ := HRK.out.cells HGX.out
              obtain ⟨A0, A1, A2, A3, A4⟩ := HRK.out.cells HGA.out
              dsimp only at X0 X1 X2 X3 X4 A0 A1 A2 A3 A4
              have hi1 : (M : Int) + 2 - 2 = M := by omega
              have hw1 : IntKind.i64.wrap (M : Int) = M := IntWalk.i64_in _ (by omega)
              have ht2 : ((M : Int) + 2).toNat = M + 2 := by omega
              have hgt : decide ((0 : Int) < (M : Int) + 2) = true := decide_eq_true (by omega)
              have hA1 : (M : Int) + 2 < 2 * (N : Int) := by omega
              have hA2 : ¬ (2 * (N : Int) ≤ (M : Int) + 2) := by omega
              have hA3 : (0 : Int) ≤ (M : Int) + 2 := by omega
              have hA4 : ¬ ((M : Int) + 2 < 0) := by omega
              have hA5 : M + 2 < 2 * N := by omega
              have hB1 : (M : Int) < 2 * (N : Int) := by omega
              have hB2 : ¬ (2 * (N : Int) ≤ (M : Int)) := by omega
              have hB3 : M < 2 * N := by omega
              clear hz hKj hM
              generalize lessT xt e1t = R at *
              have HZ := Lib.hid (show (w.heap.size + 1 + 1 ≤ w1.heap.size ∧ w1.heap.size + 1 ≤ w2.heap.size ∧ w.heap.size + 1 + 1 ≤ g ∧ g < w1.heap.size ∧ c1 ≤ maxLen ∧ es.length = 2 * N) ∧ (1 ≤ N ∧ N ≤ 524288 ∧ 1 ≤ j ∧ j ≤ N ∧ I < 2 * N ∧ 2 ≤ I ∧ I ≤ 1048576) ∧ (M + 2 ≤ 1048576 ∧ (M : Int) + 3 < 2 * (N : Int)) from ⟨⟨hs1, hs2, hg1, hg2, hcm, hesN⟩, ⟨hN1, hNb, hj1, hjN, hjl, hI2, hIb⟩, ⟨hMb, hML⟩⟩)
              clear hs1 hs2 hg1 hg2 hcm hesN hN1 hNb hlen hesl hL0 hj1 hjN hjl hj hsl hIN hI2 hIb hK0 hMb hML
              cases R with
              | true =>
                have HKK := Lib.hid ((HY.out rfl).symm.trans HKF.out)
                clear HY HN
                go_wp2_with fail
                go_still_tail 15, (by kernel_rfl)
                change wpList _ _ _ _ _ wr.drew
                go_wp2_with fail
                refine HC.out.mono ?_
                rintro _ w3 ⟨rfl, hb1⟩
                have HS3 := Lib.hid (HSK.out.drew.below hb1)
                have HR3 := Lib.hid (RowE.kept (w := wr.drew) HRK.out hb1)
                have XO3 := Lib.hid (HS3.out.box XO2.out HGO.out.symm)
                clear hb1 X0 X1 X2 X3 X4 A0 A1 A2 A3 A4 O4 HC hgt
                go_upto_region 10 with fail
                go_cut [7] (fun k wx => k = .int .i64 ((M : Int) + 2) ∧ Hid (RowE wx g c1 29 (((midF σ (K' + 1) ⟨xt, .slice xa xt.l.length xc, xS⟩ ⟨yt, .slice ya yt.l.length yc, yS⟩ r).set (M + 2) ⟨e1t, .slice aa e1t.l.length ac, e1S⟩).set M ⟨xt, .slice xa xt.l.length xc, xS⟩)) ∧ Hid (Sv g w2 wx))
                case first =>
                  obtain ⟨O0, O1, O2, O3, O4, Of⟩ := five_kept (Below.refl _ _) XO3.out
                  clear Of O0 O1 O2 O3
                  obtain ⟨X0, X1, X2, X3, X4⟩ := HR3.out.cells HGX.out
                  obtain ⟨A0, A1, A2, A3, A4⟩ := HR3.out.cells HGA.out
                  dsimp only at X0 X1 X2 X3 X4 A0 A1 A2 A3 A4
                  have hfz := HR3.out.frozen
                  have F0 := hfz ((M + 2) * 5); have F1 := hfz ((M + 2) * 5 + 1); have F2 := hfz ((M + 2) * 5 + 2); have F3 := hfz ((M + 2) * 5 + 3); have F4 := hfz ((M + 2) * 5 + 4)
                  have G0 := hfz (M * 5); have G1 := hfz (M * 5 + 1); have G2 := hfz (M * 5 + 2); have G3 := hfz (M * 5 + 3); have G4 := hfz (M * 5 + 4)
                  clear hfz
                  go_wp2_with fail
                  go_big_region
                  obtain ⟨w4, hw4⟩ : ∃ w4, w4 = (set5 (set5 w3 g (M + 2) ⟨e1t, .slice aa e1t.l.length ac, e1S⟩) g M ⟨xt, .slice xa xt.l.length xc, xS⟩).drew := ⟨_, rfl⟩
                  have HR4 : Hid (RowE w4 g c1 29 (((midF σ (K' + 1) ⟨xt, .slice xa xt.l.length xc, xS⟩ ⟨yt, .slice ya yt.l.length yc, yS⟩ r).set (M + 2) ⟨e1t, .slice aa e1t.l.length ac, e1S⟩).set M ⟨xt, .slice xa xt.l.length xc, xS⟩)) := Lib.hid (by rw [hw4]; exact RowE.drew ((HR3.out.set (j := M + 2) ⟨e1t, .slice aa e1t.l.length ac, e1S⟩).set (j := M) ⟨xt, .slice xa xt.l.length xc, xS⟩))
                  have HS4 : Hid (Sv g w2 w4) := Lib.hid (by rw [hw4]; exact ((HS3.out.set5 (M + 2) ⟨e1t, .slice aa e1t.l.length ac, e1S⟩).set5 M ⟨xt, .slice xa xt.l.length xc, xS⟩).drew)
                  unfold set5 at hw4
                  dsimp only at hw4
                  rw [← hw4]
                  clear hw4 X0 X1 X2 X3 X4 A0 A1 A2 A3 A4 O4 F0 F1 F2 F3 F4 G0 G1 G2 G3 G4
                  go_wp2_with fail
                  go_meet
                  case rel => exact ⟨rfl, HR4, HS4⟩
                case rest =>
                  rename World => w4
                  obtain ⟨rfl, HR4, HS4⟩ := hcut
                  clear hi1 hw1 ht2 hA1 hA2 hA3 hA4 hA5 hB1 hB2 hB3
                  have XO4 := Lib.hid (HS4.out.box XO2.out HGO.out.symm)
                  obtain ⟨O0, O1, O2, O3, O4, Of⟩ := five_kept (Below.refl _ _) XO4.out
                  clear Of O0 O1 O2 O3
                  have gy4 : ((((midF σ (K' + 1) ⟨xt, .slice xa xt.l.length xc, xS⟩ ⟨yt, .slice ya yt.l.length yc, yS⟩ r).set (M + 2) ⟨e1t, .slice aa e1t.l.length ac, e1S⟩).set M ⟨xt, .slice xa xt.l.length xc, xS⟩))[M + 3]? = some ⟨yt, .slice ya yt.l.length yc, yS⟩ := by
                    rw [List.getElem?_set_ne (by omega), List.getElem?_set_ne (by omega)]; exact HGY.out
                  have gb4 : ((((midF σ (K' + 1) ⟨xt, .slice xa xt.l.length xc, xS⟩ ⟨yt, .slice ya yt.l.length yc, yS⟩ r).set (M + 2) ⟨e1t, .slice aa e1t.l.length ac, e1S⟩).set M ⟨xt, .slice xa xt.l.length xc, xS⟩))[M + 1]? = some ⟨e2t, .slice ba e2t.l.length bc, e2S⟩ := by
                    rw [List.getElem?_set_ne (by omega), List.getElem?_set_ne (by omega)]; exact HGB.out
                  obtain ⟨X0, X1, X2, X3, X4⟩ := HR4.out.cells gy4
                  obtain ⟨A0, A1, A2, A3, A4⟩ := HR4.out.cells gb4
                  clear gy4 gb4
                  dsimp only at X0 X1 X2 X3 X4 A0 A1 A2 A3 A4
                  have hfz := HR4.out.frozen
                  have F0 := hfz ((M + 3) * 5); have F1 := hfz ((M + 3) * 5 + 1); have F2 := hfz ((M + 3) * 5 + 2); have F3 := hfz ((M + 3) * 5 + 3); have F4 := hfz ((M + 3) * 5 + 4)
                  have G0 := hfz ((M + 1) * 5); have G1 := hfz ((M + 1) * 5 + 1); have G2 := hfz ((M + 1) * 5 + 2); have G3 := hfz ((M + 1) * 5 + 3); have G4 := hfz ((M + 1) * 5 + 4)
                  clear hfz
                  obtain ⟨⟨hs1, hs2, hg1, hg2, hcm, hesN⟩, ⟨hN1, hNb, hj1, hjN, hjl, hI2, hIb⟩, ⟨hMb, hML⟩⟩ := HZ.out
                  have hA6 : ((M : Int) + 3).toNat = M + 3 := by omega
                  have hA7 : ((M : Int) + 1).toNat = M + 1 := by omega
                  have hA8 : (M : Int) + 2 + 1 = (M : Int) + 3 := by omega
                  have hA9 : (M : Int) + 2 - 1 = (M : Int) + 1 := by omega
                  have hC1 : IntKind.i64.wrap ((M : Int) + 3) = (M : Int) + 3 := IntWalk.i64_in _ (by omega)
                  have hC2 : IntKind.i64.wrap ((M : Int) + 1) = (M : Int) + 1 := IntWalk.i64_in _ (by omega)
                  have hC3 : ¬ (2 * (N : Int) ≤ (M : Int) + 3) := by omega
                  have hC4 : ¬ (2 * (N : Int) ≤ (M : Int) + 1) := by omega
                  have hC5 : (0 : Int) ≤ (M : Int) + 3 := by omega
                  have hC6 : (0 : Int) ≤ (M : Int) + 1 := by omega
                  have hC7 : ¬ ((M : Int) + 3 < 0) := by omega
                  have hC8 : ¬ ((M : Int) + 1 < 0) := by omega
                  have hC9 : (M : Int) + 1 < 2 * (N : Int) := by omega
                  have hD1 : M + 3 < 2 * N := by omega
                  have hD2 : M + 1 < 2 * N := by omega
                  clear hs1 hs2 hg1 hg2 hcm hesN hN1 hNb hj1 hjN hjl hI2 hIb hMb hML
                  go_wp2_with fail
                  go_big_region
                  obtain ⟨w5, hw5⟩ : ∃ w5, w5 = (set5 (set5 w4 g (M + 3) ⟨e2t, .slice ba e2t.l.length bc, e2S⟩) g (M + 1) ⟨yt, .slice ya yt.l.length yc, yS⟩).drew := ⟨_, rfl⟩
                  have HR5 : Hid (RowE w5 g c1 29 (midF σ K' ⟨xt, .slice xa xt.l.length xc, xS⟩ ⟨yt, .slice ya yt.l.length yc, yS⟩ r)) := Lib.hid (by rw [hw5, ← HSW.out]; exact RowE.drew ((HR4.out.set (j := M + 3) ⟨e2t, .slice ba e2t.l.length bc, e2S⟩).set (j := M + 1) ⟨yt, .slice ya yt.l.length yc, yS⟩))
                  have HS5 : Hid (Sv g w2 w5) := Lib.hid (by rw [hw5]; exact ((HS4.out.set5 (M + 3) ⟨e2t, .slice ba e2t.l.length bc, e2S⟩).set5 (M + 1) ⟨yt, .slice ya yt.l.length yc, yS⟩).drew)
                  unfold set5 at hw5
                  dsimp only at hw5
                  rw [← hw5]
                  clear hw5 hA6 hA7 hA8 hA9 hC1 hC2 hC3 hC4 hC5 hC6 hC7 hC8 hC9 hD1 hD2 X0 X1 X2 X3 X4 A0 A1 A2 A3 A4 O4 F0 F1 F2 F3 F4 G0 G1 G2 G3 G4
                  have hi1 : (M : Int) + 2 - 2 = M := by omega
                  have hw1 : IntKind.i64.wrap (M : Int) = M := IntWalk.i64_in _ (by have := HZ.out.2.2.1; omega)
                  go_wp2_with fail
                  go_roundw
                  case rel => exact ⟨K', M, by have := HKJ.out; omega, by have := HMM.out; omega, by go_num, HKK, HR5, HS5⟩
                  case measure => simp [intOf]; omega
              | false =>
                have HKK := Lib.hid (HKF.out.symm.trans (HN.out rfl))
                clear HY HN
                go_wp2_with fail
                go_still_tail 15, (by kernel_rfl)
                change wpList _ _ _ _ _ wr.drew
                go_wp2_with fail
                refine HC.out.mono ?_
                rintro _ w3 ⟨rfl, hb1⟩
                have HS3 := Lib.hid (HSK.out.drew.below hb1)
                have HR3 : Hid (RowE w3 g c1 29 (sortF ltE es (j + 1) ++ es.drop (2 * (j + 1)))) := Lib.hid (by rw [HRR.out, ← HEND.out _ HKK.out.symm]; exact RowE.kept (w := wr.drew) HRK.out hb1)
                clear hb1 X0 X1 X2 X3 X4 A0 A1 A2 A3 A4 O4 HC
                obtain ⟨⟨hs1, hs2, hg1, hg2, hcm, hesN⟩, ⟨hN1, hNb, hj1, hjN, hjl, hI2, hIb⟩, ⟨hMb, hML⟩⟩ := HZ.out
                go_wp2_with fail
                go_roundw
                case rel => exact ⟨j + 1, I + 2, by omega, by have := HII.out; omega, by have := HII.out; omega, by go_num, HR3, HS3⟩
                case measure => simp [intOf]; omega
            · obtain rfl : K = 0 := by omega
              obtain rfl : z = 0 := by omega
              clear hz hKj hK0
              have HR3 : Hid (RowE wr g c1 29 (sortF ltE es (j + 1) ++ es.drop (2 * (j + 1)))) := Lib.hid (by rw [HRR.out, ← HEND.out 0 HKF.out]; exact HRK.out)
              go_wp2_with fail
              go_quiet (fail)
              go_wp2_with fail
              go_roundw
              case rel => exact ⟨j + 1, I + 2, by omega, by omega, by have := HII.out; omega, by go_num, Lib.hid (HR3.out.of_block rfl), Lib.hid (HSK.out.below ⟨rfl, rfl, rfl, Nat.le_refl _, fun _ _ => rfl⟩)⟩
              case measure => simp [intOf]; omega
        · obtain rfl : j = N := by omega
          have hjn : ¬ (I : Int) < 2 * (j : Int) := by omega
          have HR3 := HRJ.out
          rw [sort_all hesN] at HR3
          have hso := osl_shut HR3 hcm ((HSV.out.ok HOK.out).perm ((sortF_perm (lt := ltE) (l := es) (i := j) (by omega)).trans (by rw [List.take_of_length_le (by omega)]))) (by omega) (by rw [sortE_map es (by omega), HMAP.out])
          have hlF : (sortF lessT t.l j).length = 2 * j := by rw [← HMAP.out, ← sortE_map es (by omega), List.length_map, sortF_len (by omega)]
          rw [hlF] at hso
          have HSO := Lib.hid hso
          have hswr := HSV.out.size
          have XRr := Lib.hid (HSV.out.box XR2.out HGR.out.symm)
          have BWr := Lib.hid (HSV.out.toBelow BW2.out (by omega) (by omega))
          clear hso hlF HR3 hlen
          have Rl := bx_lt XRr.out
          obtain ⟨R0, R1, R2, R3, R4, Rf⟩ := five_kept (Below.refl _ _) XRr.out
          have Rf0 := Rf 0; have Rf1 := Rf 1; have Rf2 := Rf 2; have Rf3 := Rf 3; have Rf4 := Rf 4; clear Rf
          obtain ⟨O0, O1, O2, O3, O4, Of⟩ := five_kept (Below.refl _ _) XOr.out
          clear Of
          go_wp2_with fail
          refine bodyPost_ret (v := .agg #[.int .i64 t.kind, .int .i64 t.n, .int .i64 t.x, .string t.s, .slice (some ⟨g, 0, none⟩) (2 * j) c1]) (by simp [results, Tryd.results81, go_sem, R0, R1, R2, R3, R4]) rfl ?_
          unfold CopyP
          refine ⟨_, _, _, rfl, ?_, ?_⟩
          · refine OSl.mono (S := Rng (w.heap.size + 2) wr.heap.size) ?_ (fun b hb => ⟨by have := hb.1; omega, by have := hb.2; simp only [World.size_setCell]; omega⟩)
            iterate 5 refine osl_sets ?_ (by dsimp only; omega) _
            exact HSO.out
          · repeat (first | with_reducible exact BWr.out | with_reducible refine bl_set ?_ _ (by omega))
    · obtain rfl : N = 0 := by omega
      have htl : t.l = [] := List.eq_nil_of_length_eq_zero (by omega)
      have HTL := Lib.hid htl
      have hd : decide ((2 : Int) < (t.l.length : Int)) = false := decide_eq_false (by omega)
      have hd2 : ¬ ((2 : Int) < (t.l.length : Int)) := by omega
      have HL0 := Lib.hid hn2
      clear hn2 htl h0 hlen
      have Rl := bx_lt XR2.out
      obtain ⟨R0, R1, R2, R3, R4, Rf⟩ := five_kept (Below.refl _ _) XR2.out
      have Rf0 := Rf 0; have Rf1 := Rf 1; have Rf2 := Rf 2; have Rf3 := Rf 3; have Rf4 := Rf 4; clear Rf
      obtain ⟨O0, O1, O2, O3, O4, Of⟩ := five_kept (Below.refl _ _) XO2.out
      clear Of
      go_wp2_with fail
      go_loopw [6] (fun i wr => i = .int .i64 2 ∧ wr = w2) (fun _ _ => 0)
      case atStart => exact ⟨rfl, rfl⟩
      case round =>
        obtain ⟨rfl, rfl⟩ := hrel
        go_wp2_with fail
        refine bodyPost_ret (v := .agg #[.int .i64 t.kind, .int .i64 t.n, .int .i64 t.x, .string t.s, .slice a1 t.l.length c1]) (by simp [results, Tryd.results81, go_sem, R0, R1, R2, R3, R4]) rfl ?_
        unfold CopyP
        refine ⟨_, _, _, rfl, ?_, ?_⟩
        · have h := HO2.out
          simp only [World.size_alloc] at h
          refine OSl.mono (S := Rng (w.heap.size + 2) w1.heap.size) ?_ (fun b hb => ⟨by have := hb.1; omega, by have := hb.2; simp only [World.size_setCell]; omega⟩)
          iterate 5 refine osl_sets ?_ (by dsimp only; omega) _
          rw [HTL.out] at h ⊢
          exact h
        · repeat (first | with_reducible exact BW2.out | with_reducible refine bl_set ?_ _ (by omega))
set_option maxHeartbeats 1000000 in
theorem sortMap_impl (t : Tree) (w : World) (u : Value) (hL : LaidP w) (hcost : t.cost ≤ 1048576) (hu : TSl w u t.l) (hfit : Fits t.kind t.n t.x t.s) :
    Calls Tryd.prog 21 #[.agg #[.int .i64 t.kind, .int .i64 t.n, .int .i64 t.x, .string t.s, u]] w (CopyP w (sortT t)) := by
  obtain ⟨a, n, cap, rfl⟩ := hu.form
  have HB0 := Lib.hid (first_blocks w (.cells #[.int .i64 t.kind, .int .i64 t.n, .int .i64 t.x, .string t.s, .slice a n cap] 29) (.cells #[.int .i64 0, .int .i64 0, .int .i64 0, .string { data := #[] }, .slice none 0 0] 29))
  have HW0 := Lib.hid (vbelow2 w (.cells #[.int .i64 t.kind, .int .i64 t.n, .int .i64 t.x, .string t.s, .slice a n cap] 29) (.cells #[.int .i64 0, .int .i64 0, .int .i64 0, .string { data := #[] }, .slice none 0 0] 29))
  have HC := Lib.hid (sortPairs_c t _ _ (hL.kept HW0.out) hcost (hu.kept HW0.out) hfit)
  clear hu hfit hcost hL
  generalize sortT t = r at *
  go_enter Tryd.func21, Tryd.ntmps21
  go_wp2_with fail
  refine HC.out.mono ?_
  rintro _ w1 ⟨a1, n1, c1, rfl, ho, hb⟩
  have XR := Lib.hid (bx_below HB0.out.2 hb)
  have Rl := bx_lt XR.out
  obtain ⟨q0, q1, q2, q3, q4, qf⟩ := five_kept (Below.refl _ _) XR.out
  have qf0 := qf 0; have qf1 := qf 1; have qf2 := qf 2; have qf3 := qf 3; have qf4 := qf 4
  have HO := Lib.hid ho; have HB := Lib.hid hb
  clear qf ho hb
  go_wp2_with fail
  refine bodyPost_ret (v := .agg #[.int .i64 r.kind, .int .i64 r.n, .int .i64 r.x, .string r.s, .slice a1 n1 c1]) (by simp [results, Tryd.results21, go_sem, q0, q1, q2, q3, q4]) rfl ?_
  unfold CopyP
  refine ⟨_, _, _, rfl, ?_, ?_⟩
  · refine OSl.mono (S := Rng (w.heap.size + 2) w1.heap.size) ?_ (fun b hb => ⟨by have := hb.1; omega, by have := hb.2; simpa [World.setCell] using this⟩)
    iterate 5 refine osl_sets ?_ (by dsimp only; omega) _
    have h := HO.out
    simp only [World.size_alloc] at h
    exact h
  · iterate 5 refine Below.setCell ?_ (by dsimp only; omega) _
    exact vnx HW0.out HB.out
end Go.Proofs.YtilmhemcpgiikaaDoor
/- The names of a map: the values at the even places. -/
namespace Go.Proofs.YtilmhemcpgiikaaDoor
open Go.Deep Go.ChangeShapes Go.WideShapes Go.ChangeAt Go.RowKit
open Go.ChangeMaps (open_string shut_string)

/-- What stands at the even places. -/
def evens : List Tree → List Tree
  | [] => []
  | [a] => [a]
  | a :: _ :: l => a :: evens l
def namesF (t : Tree) : List Tree := if t.kind = 10 then evens t.l else []
theorem evens_len : ∀ l : List Tree, (evens l).length = (l.length + 1) / 2
  | [] => by simp [evens]
  | [a] => by simp [evens]
  | a :: b :: l => by
    have := evens_len l
    simp only [evens, List.length_cons, this]; omega
theorem evens_get : ∀ (l : List Tree) (j : Nat) (h : j < (evens l).length) (h' : 2 * j < l.length), (evens l)[j] = l[2 * j]
  | [], j, h, _ => by simp [evens] at h
  | [a], j, h, h' => by
    have : j = 0 := by simp at h'; omega
    subst this; rfl
  | a :: b :: l, 0, _, _ => rfl
  | a :: b :: l, j + 1, h, h' => by
    have h1 : j < (evens l).length := by simp only [evens, List.length_cons] at h; omega
    have h2 : 2 * j < l.length := by simp only [List.length_cons] at h'; omega
    have := evens_get l j h1 h2
    simp only [evens, List.getElem_cons_succ, this]
    show l[2 * j] = (a :: b :: l)[2 * j + 1 + 1]
    rfl
theorem evens_cost : ∀ l : List Tree, costL (evens l) ≤ costL l
  | [] => Nat.le_refl _
  | [a] => Nat.le_refl _
  | a :: b :: l => by
    have := evens_cost l
    simp only [evens, costL]; omega
theorem names_cost (t : Tree) : costL (namesF t) ≤ costL t.l := by
  unfold namesF
  split
  · exact evens_cost _
  · exact Nat.zero_le _

/-- Trees gathered by append, their elements shared. -/
def SPe (w : World) (lo : Nat) (T : TypeId) (v : Value) (l : List Tree) (es : List Elem) : Prop :=
  es.map (·.t) = l ∧ w.ownsRow lo T 5 v es.length (es.flatMap Elem.cells) ∧ ∀ e ∈ es, Fits e.t.kind e.t.n e.t.x e.t.s ∧ TSl w e.u e.t.l
def SP (w : World) (lo : Nat) (T : TypeId) (v : Value) (l : List Tree) : Prop := ∃ es : List Elem, SPe w lo T v l es
theorem SPe.row {w : World} {lo : Nat} {T : TypeId} {v : Value} {l : List Tree} {es : List Elem} (h : SPe w lo T v l es) : w.ownsRow lo T 5 v l.length (es.flatMap Elem.cells) := by
  obtain ⟨rfl, ho, _⟩ := h
  simpa using ho
theorem SP.made (w : World) (T : TypeId) : SP (w.alloc (.cells #[] T)) w.heap.size T (.slice (some ⟨w.heap.size, 0, none⟩) 0 0) [] :=
  ⟨[], rfl, World.ownsRow_made (base := w.heap.size) w #[] 0 (Nat.le_refl _) (by simp [maxLen]) rfl, by simp⟩
/-- One more: what lay below the first block stays, and the elements lie there. -/
theorem SPe.snoc {W w' : World} {lo : Nat} {T : TypeId} {l : List Tree} {es : List Elem} (h : es.map (·.t) = l) (hE : ∀ e ∈ es, Fits e.t.kind e.t.n e.t.x e.t.s ∧ TSl W e.u e.t.l) {t : Tree} {u : Value} (fit : Fits t.kind t.n t.x t.s) (ht : TSl W u t.l)
    {g cap : Nat} (hn : w'.ownsRow lo T 5 (.slice (some ⟨g, 0, none⟩) (l.length + 1) cap) (l.length + 1) (es.flatMap Elem.cells ++ cells5 t u)) :
    ∃ es' : List Elem, es'.map (·.t) = l ++ [t] ∧ w'.ownsRow lo T 5 (.slice (some ⟨g, 0, none⟩) (l.length + 1) cap) es'.length (es'.flatMap Elem.cells) ∧ ∀ e ∈ es', Fits e.t.kind e.t.n e.t.x e.t.s ∧ TSl W e.u e.t.l := by
  refine ⟨es ++ [⟨t, u, fun _ => False⟩], by simp [h], ?_, fun e he => ?_⟩
  · have hel : es.length = l.length := by rw [← h]; simp
    have e1 : (es ++ [⟨t, u, fun _ => False⟩] : List Elem).length = l.length + 1 := by simp [hel]
    rw [e1, List.flatMap_append]
    simpa [Elem.cells] using hn
  · rcases List.mem_append.1 he with he | he
    · exact hE e he
    · rw [List.mem_singleton] at he
      subst he
      exact ⟨fit, ht⟩
theorem SP.tsl {w : World} {lo : Nat} {T : TypeId} {v : Value} {l : List Tree} {es : List Elem} (h : es.map (·.t) = l) (ho : w.ownsRow lo T 5 v es.length (es.flatMap Elem.cells)) (hE : ∀ e ∈ es, Fits e.t.kind e.t.n e.t.x e.t.s ∧ TSl w e.u e.t.l) : TSl w v l := by
  subst h
  have hlen : (es.map (·.t)).length = es.length := by simp
  rcases ho.2 with ⟨rfl, h0⟩ | ⟨g, cap, cur, rfl, hb, hg, hnc, hcm, hcs, htake⟩
  · have : es = [] := List.eq_nil_of_length_eq_zero h0
    subst this
    exact ⟨none, 0, 0, 0, rfl, Nat.le_refl _, by simp [maxLen], fun h => absurd rfl h, fun j hj => absurd hj (Nat.not_lt_zero _)⟩
  · refine ⟨some ⟨g, 0, none⟩, cap, g, 0, by rw [hlen], by rw [hlen]; exact hnc, hcm, fun _ => rfl, fun j hj => ?_⟩
    have hj' : j < es.length := by rwa [hlen] at hj
    have hm := hE es[j] (List.getElem_mem hj')
    have hcell : ∀ r, r < 5 → w.cell? ⟨g, 0 + j * 5 + r, none⟩ = (cells5 es[j].t es[j].u)[r]? := by
      intro r hr
      rw [← flat_get es hj' r hr, ← htake, List.getElem?_take, if_pos (by omega), Array.getElem?_toList, Nat.zero_add]
      simp [World.cell?, hg]
    rw [List.getElem_map]
    have k0 := hcell 0 (by omega)
    have k1 := hcell 1 (by omega)
    have k2 := hcell 2 (by omega)
    have k3 := hcell 3 (by omega)
    have k4 := hcell 4 (by omega)
    exact tat_of k0 k1 k2 k3 k4 hm.2 hm.1

theorem SPe_kept {w w' : World} (hb : Below w.heap.size w w') {es : List Elem} (hE : ∀ e ∈ es, Fits e.t.kind e.t.n e.t.x e.t.s ∧ TSl w e.u e.t.l) : ∀ e ∈ es, Fits e.t.kind e.t.n e.t.x e.t.s ∧ TSl w' e.u e.t.l :=
  fun e he => ⟨(hE e he).1, (hE e he).2.kept hb⟩

set_option maxRecDepth 100000 in
set_option maxHeartbeats 4000000 in
theorem names_impl (t : Tree) (w : World) (u : Value) (hcost : t.cost ≤ 1048576) (hu : TSl w u t.l) (_hfit : Fits t.kind t.n t.x t.s) :
    Calls Tryd.prog 78 #[.agg #[.int .i64 t.kind, .int .i64 t.n, .int .i64 t.x, .string t.s, u]] w fun e w' => ∃ v, e = .returned v ∧ TSl w' v (namesF t) ∧ Below w.heap.size w w' := by
  obtain ⟨i0, hi, hz, hs, hb⟩ := info_parts info_val
  have hc := Tree.cost_eq t
  have hcl := costL_eq t.l
  have hlen : t.l.length ≤ 1048576 := by omega
  have hsl0 := hu
  obtain ⟨a, cap, b, off, rfl, hcap, hmax, ha, hl⟩ := hu
  unfold maxLen at hmax
  have HL := Lib.hid hl; have HA := Lib.hid ha; have HI := Lib.hid hi
  have hB := first_blocks w (.cells #[.int .i64 t.kind, .int .i64 t.n, .int .i64 t.x, .string t.s, .slice a t.l.length cap] 29) (.cells #[] 29)
  have hsp := World.ownsRow_made (base := w.heap.size + 1) (e := 29) (size := 5) (w.alloc (.cells #[.int .i64 t.kind, .int .i64 t.n, .int .i64 t.x, .string t.s, .slice a t.l.length cap] 29)) #[] 0 (by simp) (by simp [maxLen]) rfl
  simp only [World.size_alloc] at hsp
  have HB := Lib.hid hB.1; have HSP := Lib.hid hsp
  have HW := Lib.hid (vbelow2 w (.cells #[.int .i64 t.kind, .int .i64 t.n, .int .i64 t.x, .string t.s, .slice a t.l.length cap] 29) (.cells #[] 29))
  clear hl ha hi hB hsp hsl0 hc hcl hcost
  cases hk : (t.kind != 10) with
  | true =>
    have hn : namesF t = [] := by unfold namesF; rw [if_neg (by simpa using hk)]
    have HN := Lib.hid hn; clear hn
    go_enter Tryd.func78, Tryd.ntmps78
    go_wp2_with fail
    go_ret
    refine ⟨_, rfl, ?_, HW.out⟩
    rw [HN.out]
    exact SP.tsl (es := []) rfl HSP.out (by simp)
  | false =>
    have hn : namesF t = evens t.l := by unfold namesF; rw [if_pos (by simpa using hk)]
    have HN := Lib.hid hn; clear hn
    have hel := evens_len t.l
    have HG := Lib.hid (evens_get t.l)
    go_enter Tryd.func78, Tryd.ntmps78
    go_wp2_with fail
    generalize hW0 : ((w.alloc (.cells #[.int .i64 t.kind, .int .i64 t.n, .int .i64 t.x, .string t.s, .slice a t.l.length cap] 29)).alloc (.cells #[] 29)) = W0 at *
    have hs0 : W0.heap.size = w.heap.size + 2 := by rw [← hW0]; simp only [World.size_alloc]
    clear hW0
    go_loopw [3, 4] (fun v i wr => ∃ (j I : Nat) (a3 : Option Addr) (cap3 : Nat) (es : List Elem), j ≤ (evens t.l).length ∧ I = 2 * j ∧ i = .int .i64 I ∧ v = .slice a3 j cap3 ∧ w.heap.size + 2 ≤ wr.heap.size ∧ Hid (es.map (·.t) = (evens t.l).take j) ∧ Hid (wr.ownsRow (w.heap.size + 1) 29 5 v j (es.flatMap Elem.cells)) ∧ Hid (∀ e ∈ es, Fits e.t.kind e.t.n e.t.x e.t.s ∧ TSl w e.u e.t.l) ∧ Hid (Below (w.heap.size + 1) W0 wr)) (fun _ i _ => t.l.length + 2 - (intOf i).toNat)
    case atStart => exact ⟨0, 0, _, _, [], by omega, rfl, rfl, rfl, by omega, Lib.hid (by simp), Lib.hid (by simpa using HSP.out), Lib.hid (by simp), Lib.hid (Below.refl _ _)⟩
    case round =>
      obtain ⟨j, I, a3, cap3, es, hj, hI, rfl, rfl, hszr, HM, HOW, HE, HBW⟩ := hrel
      have hbox : wr.heap[w.heap.size]? = _ := (HBW.out.block w.heap.size (by omega)).trans HB.out
      have p4 : wr.cell? ⟨w.heap.size, 4, none⟩ = some (.slice a t.l.length cap) := by simp [World.cell?, hbox]
      have p0 : wr.cell? ⟨w.heap.size, 0, none⟩ = some (.int .i64 t.kind) := by simp [World.cell?, hbox]
      have hbw0 : Below w.heap.size w wr := HW.out.trans (HBW.out.mono (by omega))
      have HBX := Lib.hid hbox; clear hbox
      by_cases hjl : I < t.l.length
      · have hje : j < (evens t.l).length := by omega
        obtain rfl : a = some ⟨b, off, none⟩ := HA.out (by intro h; rw [h] at hjl; simp at hjl)
        have hTA := HL.out I hjl
        have hTA2 := hTA.kept hbw0
        obtain ⟨x0, _, _, _, _, y4, hsl, hfit'⟩ := hTA.parts
        obtain ⟨x, c0, c1, c2, c3, c4, hsl2, hfit2⟩ := hTA2.parts
        have hxx : x = x0 := by
          have e1 := (hbw0.cell (p := ⟨b, off + I * 5 + 4, none⟩) hTA.lt).trans y4
          rw [c4] at e1
          exact Option.some.inj e1
        subst hxx
        have hg : (evens t.l)[j] = t.l[I] := by subst hI; exact HG.out j hje hjl
        have hst := take_snocT hje
        rw [hg] at hst
        generalize t.l[I] = t' at *
        have HST := Lib.hid hst; have HSL := Lib.hid hsl; have HFT := Lib.hid hfit'
        clear hg hst hTA hTA2 hsl hfit' hsl2 hfit2 y4
        obtain ⟨a2, n2, cap2, rfl⟩ := HSL.out.form
        generalize hX : cells5 t' (.slice a2 n2 cap2) = X
        have hXl : X.length = 1 * 5 := by rw [← hX]; rfl
        have hX1 : ∀ x ∈ X, x.oneCell' = true := by rw [← hX]; exact one5 _ _ _ _
        have hXn : ∀ (k : Nat) v, X[k]? = some v → (wr.alloc (.cells #[.int .i64 t'.kind, .int .i64 t'.n, .int .i64 t'.x, .string t'.s, .slice a2 n2 cap2] 29)).cell? ((⟨wr.heap.size, 0, none⟩ : Addr).add k) = some v := by
          rw [← hX]
          exact World.news_of_block (heap_alloc_new _ _)
        have HX := Lib.hid hX; have HXN := Lib.hid hXn; have HX1 := Lib.hid hX1
        clear hX hXn hX1
        have HII := Lib.hid hI
        have hje2 : j ≤ 1048576 := by omega
        have hIl : I ≤ 1048576 := by omega
        clear hI
        go_wp2_with (at_builtin; go_must (refine wpList_append_lies rfl (.tmp 17) (.tmp 23) 27 rfl (w.heap.size + 1) 29 i0 _ 5 64 Tryd.underlying27 HI.out hz hs hb rfl (by decide) _ _ _ rfl (HOW.out.alloc _) ⟨wr.heap.size, 0, none⟩ 1 1 X rfl hXl HXN.out HX1.out (by decide) (by unfold maxLen; omega) (by omega) (by simp only [World.size_alloc]; omega) _ rfl ?_); intro g cap5 w2 hown2 hg2 hf2 hlt2)
        obtain ⟨es2, hm2, ho2, hE2⟩ := SPe.snoc HM.out HE.out HFT.out HSL.out (w' := w2) (g := g) (cap := cap5) (by rw [List.length_take, Nat.min_eq_left (by omega), HX.out]; exact hown2)
        rw [List.length_take, Nat.min_eq_left (by omega)] at ho2
        rw [← HST.out] at hm2
        have hel2 : es2.length = j + 1 := by have := congrArg List.length hm2; simp at this; omega
        rw [hel2] at ho2
        have hgs := hg2.size
        simp only [World.size_alloc] at hgs
        have hbw2 : Below (w.heap.size + 1) W0 w2 := (HBW.out.alloc (by omega) _).grown hg2 (by simp only [World.size_alloc]; omega) (fun k hk => (HOW.out.lt k hk).1)
        have HM2 := Lib.hid hm2; have HO2 := Lib.hid ho2; have HE2 := Lib.hid hE2; have HB2 := Lib.hid hbw2
        clear hm2 ho2 hE2 hbw2 hown2 hg2 hf2 hel2
        go_roundw
        case rel => exact ⟨j + 1, I + 2, _, _, es2, by omega, by have := HII.out; omega, by go_num, rfl, by omega, HM2, HO2, HE2, HB2⟩
        case measure => simp [intOf]; omega
      · have hje : j = (evens t.l).length := by omega
        have htsl : TSl wr (.slice a3 j cap3) (evens t.l) := by
          have hm := HM.out
          rw [hje, List.take_length] at hm
          have hel2 : es.length = j := by have := congrArg List.length hm; simp at this; omega
          exact SP.tsl hm (by rw [hel2]; exact HOW.out) (SPe_kept hbw0 HE.out)
        have HT := Lib.hid htsl
        clear htsl
        go_wp2_with fail
        go_ret
        exact ⟨_, rfl, by rw [HN.out]; exact HT.out, hbw0⟩

def NamesP (w : World) (l : List Tree) : Ending → World → Prop := fun e w' => ∃ a n c, e = .returned (.slice a n c) ∧ OSl w' 29 (.slice a n c) l (Rng w.heap.size w'.heap.size) ∧ Below w.heap.size w w'

set_option maxHeartbeats 1000000 in
theorem namesOf_impl (t : Tree) (w : World) (u : Value) (hcost : t.cost ≤ 1048576) (hu : TSl w u t.l) (hfit : Fits t.kind t.n t.x t.s) :
    Calls Tryd.prog 65 #[.agg #[.int .i64 t.kind, .int .i64 t.n, .int .i64 t.x, .string t.s, u]] w (NamesP w (namesF t)) := by
  have hcn := names_cost t
  have hce := Tree.cost_eq t
  obtain ⟨a, n, cap, rfl⟩ := hu.form
  have HW := Lib.hid (vbelow1 w (.cells #[.int .i64 t.kind, .int .i64 t.n, .int .i64 t.x, .string t.s, .slice a n cap] 29))
  have HN := Lib.hid (names_impl t _ _ hcost (hu.kept HW.out) hfit)
  have HC := Lib.hid (fun w1 v (h : TSl w1 v (namesF t)) => copyVals_c (namesF t) w1 v (by omega) h)
  clear hu hcn hce
  go_enter Tryd.func65, Tryd.ntmps65
  go_wp2_with fail
  refine HN.out.mono ?_
  rintro _ w1 ⟨v, rfl, hv, b1⟩
  have HV := Lib.hid hv; clear hv
  obtain ⟨a1, n1, c1, rfl⟩ := HV.out.form
  go_wp2_with fail
  refine (HC.out _ _ HV.out).mono ?_
  rintro _ w2 ⟨a2, n2, c2, rfl, ho, b2⟩
  have HO := Lib.hid ho; clear ho
  have s1 := b1.size
  simp only [World.size_alloc] at s1
  go_wp2_with fail
  go_ret
  exact ⟨_, _, _, rfl, HO.out.mono (fun b hb => ⟨by have := hb.1; omega, hb.2⟩), vnx (vnx HW.out b1) b2⟩

set_option maxRecDepth 100000 in
set_option maxHeartbeats 4000000 in
theorem namesOf_spec (t : Tree) (w : World) (u : Value) (hcost : t.cost ≤ 1048576) (hu : TSl w u t.l) (_hfit : Fits t.kind t.n t.x t.s) :
    Calls Tryd.prog 66 #[.agg #[.int .i64 t.kind, .int .i64 t.n, .int .i64 t.x, .string t.s, u]] w (NamesP w (namesF t)) := by
  obtain ⟨i0, hi, hz, hs, hb⟩ := info_parts info_val
  have hc := Tree.cost_eq t
  have hcl := costL_eq t.l
  have hlen : t.l.length ≤ 1048576 := by omega
  have hcE : costE t.l ≤ 1048576 := by omega
  obtain ⟨a, cap, b, off, rfl, hcap, hmax, ha, hl⟩ := hu
  unfold maxLen at hmax
  have HL := Lib.hid hl; have HA := Lib.hid ha; have HI := Lib.hid hi
  have hB := first_blocks w (.cells #[.int .i64 t.kind, .int .i64 t.n, .int .i64 t.x, .string t.s, .slice a t.l.length cap] 29) (.cells #[] 29)
  have hap := AP.made (w.alloc (.cells #[.int .i64 t.kind, .int .i64 t.n, .int .i64 t.x, .string t.s, .slice a t.l.length cap] 29)) 29
  simp only [World.size_alloc] at hap
  have HB := Lib.hid hB.1; have HAP := Lib.hid hap
  have HW := Lib.hid (vbelow2 w (.cells #[.int .i64 t.kind, .int .i64 t.n, .int .i64 t.x, .string t.s, .slice a t.l.length cap] 29) (.cells #[] 29))
  clear hl ha hi hB hap hc hcl hcost
  have hel := evens_len t.l
  have HG := Lib.hid (evens_get t.l)
  cases hk : (t.kind == 10) with
  | false =>
    have hn : namesF t = [] := by unfold namesF; rw [if_neg (by simpa using hk)]
    have HN := Lib.hid hn; clear hn
    by_cases hz0 : 0 < t.l.length
    · go_enter Tryd.func66, Tryd.ntmps66
      go_wp2_with fail
      generalize hW0 : ((w.alloc (.cells #[.int .i64 t.kind, .int .i64 t.n, .int .i64 t.x, .string t.s, .slice a t.l.length cap] 29)).alloc (.cells #[] 29)) = W0 at *
      have hs0 : W0.heap.size = w.heap.size + 2 := by rw [← hW0]; simp only [World.size_alloc]
      clear hW0
      go_loopw [3, 4] (fun v i wr => v = .slice (some ⟨w.heap.size + 1, 0, none⟩) 0 0 ∧ i = .int .i64 0 ∧ wr = W0) (fun _ _ _ => 0)
      case atStart => exact ⟨rfl, rfl, rfl⟩
      case round =>
        obtain ⟨rfl, rfl, rfl⟩ := hrel
        have p4 : wr.cell? ⟨w.heap.size, 4, none⟩ = some (.slice a t.l.length cap) := by simp [World.cell?, HB.out]
        have p0 : wr.cell? ⟨w.heap.size, 0, none⟩ = some (.int .i64 t.kind) := by simp [World.cell?, HB.out]
        go_wp2_with fail
        all_goals
          go_ret
          unfold NamesP
          refine ⟨_, _, _, rfl, ?_, HW.out⟩
          rw [HN.out]
          exact HAP.out.osl.mono (fun b hb => ⟨by have := hb.1; omega, hb.2⟩)
    · have hd : decide ((0 : Int) < (t.l.length : Int)) = false := decide_eq_false (by omega)
      clear hz0
      go_enter Tryd.func66, Tryd.ntmps66
      go_wp2_with fail
      generalize hW0 : ((w.alloc (.cells #[.int .i64 t.kind, .int .i64 t.n, .int .i64 t.x, .string t.s, .slice a t.l.length cap] 29)).alloc (.cells #[] 29)) = W0 at *
      have hs0 : W0.heap.size = w.heap.size + 2 := by rw [← hW0]; simp only [World.size_alloc]
      clear hW0
      go_loopw [3, 4] (fun v i wr => v = .slice (some ⟨w.heap.size + 1, 0, none⟩) 0 0 ∧ i = .int .i64 0 ∧ wr = W0) (fun _ _ _ => 0)
      case atStart => exact ⟨rfl, rfl, rfl⟩
      case round =>
        obtain ⟨rfl, rfl, rfl⟩ := hrel
        have p4 : wr.cell? ⟨w.heap.size, 4, none⟩ = some (.slice a t.l.length cap) := by simp [World.cell?, HB.out]
        have p0 : wr.cell? ⟨w.heap.size, 0, none⟩ = some (.int .i64 t.kind) := by simp [World.cell?, HB.out]
        go_wp2_with fail
        all_goals
          go_ret
          unfold NamesP
          refine ⟨_, _, _, rfl, ?_, HW.out⟩
          rw [HN.out]
          exact HAP.out.osl.mono (fun b hb => ⟨by have := hb.1; omega, hb.2⟩)
  | true =>
    have hn : namesF t = evens t.l := by unfold namesF; rw [if_pos (by simpa using hk)]
    have HN := Lib.hid hn; clear hn
    go_enter Tryd.func66, Tryd.ntmps66
    go_wp2_with fail
    generalize hW0 : ((w.alloc (.cells #[.int .i64 t.kind, .int .i64 t.n, .int .i64 t.x, .string t.s, .slice a t.l.length cap] 29)).alloc (.cells #[] 29)) = W0 at *
    have hs0 : W0.heap.size = w.heap.size + 2 := by rw [← hW0]; simp only [World.size_alloc]
    clear hW0
    go_loopw [3, 4] (fun v i wr => ∃ (j I : Nat) (a3 : Option Addr) (cap3 : Nat), j ≤ (evens t.l).length ∧ I = 2 * j ∧ i = .int .i64 I ∧ v = .slice a3 j cap3 ∧ w.heap.size + 2 ≤ wr.heap.size ∧ Hid (AP wr (w.heap.size + 1) 29 v ((evens t.l).take j)) ∧ Hid (Below (w.heap.size + 1) W0 wr)) (fun _ i _ => t.l.length + 2 - (intOf i).toNat)
    case atStart => exact ⟨0, 0, _, _, by omega, rfl, rfl, rfl, by omega, HAP, Lib.hid (Below.refl _ _)⟩
    case round =>
      obtain ⟨j, I, a3, cap3, hj, hI, rfl, rfl, hszr, HP, HBW⟩ := hrel
      have htl : ((evens t.l).take j).length = j := by rw [List.length_take]; omega
      have hbox : wr.heap[w.heap.size]? = _ := (HBW.out.block w.heap.size (by omega)).trans HB.out
      have p4 : wr.cell? ⟨w.heap.size, 4, none⟩ = some (.slice a t.l.length cap) := by simp [World.cell?, hbox]
      have p0 : wr.cell? ⟨w.heap.size, 0, none⟩ = some (.int .i64 t.kind) := by simp [World.cell?, hbox]
      have hbw0 : Below w.heap.size w wr := HW.out.trans (HBW.out.mono (by omega))
      have HBX := Lib.hid hbox; clear hbox
      by_cases hjl : I < t.l.length
      · have hje : j < (evens t.l).length := by omega
        obtain rfl : a = some ⟨b, off, none⟩ := HA.out (by intro h; rw [h] at hjl; simp at hjl)
        obtain ⟨x, c0, c1, c2, c3, c4, hsl, hfit'⟩ := ((HL.out I hjl).kept hbw0).parts
        have hg : (evens t.l)[j] = t.l[I] := by subst hI; exact HG.out j hje hjl
        have hst := take_snocT hje
        rw [hg] at hst
        have hcm := cost_mem (List.getElem_mem hjl)
        generalize t.l[I] = t' at *
        have HST := Lib.hid hst; clear hst hg
        obtain ⟨a2, n2, cap2, rfl⟩ := hsl.form
        have HSL := Lib.hid hsl; have HFT := Lib.hid hfit'; clear hsl hfit'
        have HII := Lib.hid hI
        have hje2 : j ≤ 1048576 := by omega
        have hIl : I ≤ 1048576 := by omega
        clear hI
        go_wp2_with fail
        refine (l6Copy_c t' _ _ (by omega) HSL.out HFT.out).mono ?_
        rintro _ w1 ⟨a4, n4, k4, rfl, ho, hb1⟩
        obtain ⟨es, hes⟩ := HP.out
        have hsz1 := hb1.size
        have hb01 : Below wr.heap.size wr (w1.alloc (.cells #[.int .i64 t'.kind, .int .i64 t'.n, .int .i64 t'.x, .string t'.s, .slice a4 n4 k4] 29)) := hb1.alloc hsz1 _
        have hown0 := owns_below hb01 hes.row
        rw [htl] at hown0
        have OWN := Lib.hid hown0; have HES := Lib.hid hes; have HO := Lib.hid ho; have HB01 := Lib.hid hb01
        clear hown0 hes ho hb01 hb1 c0 c1 c2 c3 c4
        generalize hX : cells5 t' (.slice a4 n4 k4) = X
        have hXl : X.length = 1 * 5 := by rw [← hX]; rfl
        have hX1 : ∀ x ∈ X, x.oneCell' = true := by rw [← hX]; exact one5 _ _ _ _
        have hXn : ∀ (k : Nat) v, X[k]? = some v → ((w1.alloc (.cells #[.int .i64 t'.kind, .int .i64 t'.n, .int .i64 t'.x, .string t'.s, .slice a4 n4 k4] 29)).alloc (.cells #[.int .i64 t'.kind, .int .i64 t'.n, .int .i64 t'.x, .string t'.s, .slice a4 n4 k4] 29)).cell? ((⟨w1.heap.size + 1, 0, none⟩ : Addr).add k) = some v := by
          rw [← hX]
          exact World.news_of_block (first_blocks w1 _ _).2
        have HX := Lib.hid hX; have HXN := Lib.hid hXn; have HX1 := Lib.hid hX1
        clear hX hXn hX1
        go_wp2_with (at_builtin; go_must (refine wpList_append_lies rfl (.tmp 25) (.tmp 27) 27 rfl (w.heap.size + 1) 29 i0 _ 5 64 Tryd.underlying27 HI.out hz hs hb rfl (by decide) _ _ _ rfl (OWN.out.alloc _) ⟨w1.heap.size + 1, 0, none⟩ 1 1 X rfl hXl HXN.out HX1.out (by decide) (by unfold maxLen; omega) (by omega) (by simp only [World.size_alloc]; omega) _ rfl ?_); intro g cap5 w2 hown2 hg2 hf2 hlt2)
        have hb0 : Below wr.heap.size wr ((w1.alloc (.cells #[.int .i64 t'.kind, .int .i64 t'.n, .int .i64 t'.x, .string t'.s, .slice a4 n4 k4] 29)).alloc (.cells #[.int .i64 t'.kind, .int .i64 t'.n, .int .i64 t'.x, .string t'.s, .slice a4 n4 k4] 29)) := HB01.out.alloc (by simp only [World.size_alloc]; omega) _
        have hap := HES.out.snoc hb0 HFT.out (hi := w1.heap.size) (HO.out.kept (fun b hb => by rw [Below.heap_alloc _ _ _ (by simp only [World.size_alloc]; have := hb.2; omega), Below.heap_alloc _ _ _ hb.2])) (by simp only [World.size_alloc]; omega) (by omega) (g := g) (cap := cap5) (w' := w2) (by rw [htl, HX.out]; exact hown2) hg2 (by
          rcases hf2 with h | h
          · exact .inl h
          · right; rw [h])
        rw [htl, ← HST.out] at hap
        have hgs := hg2.size
        simp only [World.size_alloc] at hgs
        have hbw2 : Below (w.heap.size + 1) W0 w2 := ((HBW.out.trans (hb0.mono (by omega)))).grown hg2 (by simp only [World.size_alloc]; omega) (fun k hk => (OWN.out.lt k hk).1)
        have HAP2 := Lib.hid hap; have HBW2 := Lib.hid hbw2
        clear hap hbw2 hown2 hg2 hf2 hb0
        go_roundw
        case rel => exact ⟨j + 1, I + 2, _, _, by omega, by have := HII.out; omega, by go_num, rfl, by omega, HAP2, HBW2⟩
        case measure => simp [intOf]; omega
      · have hje : j = (evens t.l).length := by omega
        have hosl := HP.out.osl
        rw [show (evens t.l).take j = namesF t by rw [hje, List.take_length, HN.out]] at hosl
        have HO := Lib.hid hosl; clear hosl hje hel
        go_wp2_with fail
        go_ret
        unfold NamesP
        exact ⟨_, _, _, rfl, HO.out.mono (fun b hb => ⟨by have := hb.1; omega, hb.2⟩), hbw0⟩
end Go.Proofs.YtilmhemcpgiikaaDoor
