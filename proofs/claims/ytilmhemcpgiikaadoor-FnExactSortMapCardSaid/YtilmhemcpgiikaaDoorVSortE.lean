/- Rows of trees by their elements: what putting pairs in their places leaves. -/
import Derived.Test.YtilmhemcpgiikaaDoorVCopy
import Derived.Test.YtilmhemcpgiikaaDoorMSort
namespace Go.Proofs.YtilmhemcpgiikaaDoor
open Go.Deep Go.ChangeShapes Go.WideShapes Go.ChangeAt Go.RowKit

section
variable {α : Type}
/-- A pair on its way down: ahead of it the first K pairs of the sorted ones, behind it the others, then what is not sorted yet. -/
def midF (σ : List α) (K : Nat) (x y : α) (r : List α) : List α := σ.take (2 * K) ++ x :: y :: (σ.drop (2 * K) ++ r)
variable {σ r : List α} {K : Nat} {x y a b : α}
theorem mid_len (h : 2 * K ≤ σ.length) : (midF σ K x y r).length = σ.length + 2 + r.length := by
  unfold midF
  simp only [List.length_append, List.length_cons, List.length_take, List.length_drop]; omega
theorem mid_get0 (h : 2 * K ≤ σ.length) : (midF σ K x y r)[2 * K]? = some x := by
  unfold midF
  have : (σ.take (2 * K)).length = 2 * K := by rw [List.length_take]; omega
  rw [List.getElem?_append_right (by omega), this, Nat.sub_self]; rfl
theorem mid_get1 (h : 2 * K ≤ σ.length) : (midF σ K x y r)[2 * K + 1]? = some y := by
  unfold midF
  have : (σ.take (2 * K)).length = 2 * K := by rw [List.length_take]; omega
  rw [List.getElem?_append_right (by omega), this, Nat.add_sub_cancel_left]; rfl
theorem mid_low {j : Nat} (h : 2 * K ≤ σ.length) (hj : j < 2 * K) : (midF σ K x y r)[j]? = σ[j]? := by
  unfold midF
  have : (σ.take (2 * K)).length = 2 * K := by rw [List.length_take]; omega
  rw [List.getElem?_append_left (by omega), List.getElem?_take, if_pos hj]
theorem split_at2 (h : 2 * (K + 1) ≤ σ.length) : ∃ p q, p.length = 2 * K ∧ σ = p ++ σ[2 * K] :: σ[2 * K + 1] :: q := by
  refine ⟨σ.take (2 * K), σ.drop (2 * K + 2), by rw [List.length_take]; omega, ?_⟩
  have e1 : σ.drop (2 * K) = σ[2 * K] :: σ.drop (2 * K + 1) := List.drop_eq_getElem_cons (by omega)
  have e2 : σ.drop (2 * K + 1) = σ[2 * K + 1] :: σ.drop (2 * K + 2) := List.drop_eq_getElem_cons (by omega)
  rw [← e2, ← e1, List.take_append_drop]
theorem mid_swap (h : 2 * (K + 1) ≤ σ.length) (ha : σ[2 * K]? = some a) (hb : σ[2 * K + 1]? = some b) :
    ((((midF σ (K + 1) x y r).set (2 * K + 2) a).set (2 * K) x).set (2 * K + 3) b).set (2 * K + 1) y = midF σ K x y r := by
  obtain ⟨p, q, hp, e⟩ := split_at2 h
  have e0 : σ[2 * K] = a := by rw [List.getElem?_eq_getElem (by omega)] at ha; exact Option.some.inj ha
  have e1 : σ[2 * K + 1] = b := by rw [List.getElem?_eq_getElem (by omega)] at hb; exact Option.some.inj hb
  rw [e0, e1] at e
  clear ha hb e0 e1
  subst e
  have t1 : (p ++ a :: b :: q).take (2 * (K + 1)) = p ++ [a, b] := by
    rw [List.take_append, hp, List.take_of_length_le (by omega), show 2 * (K + 1) - 2 * K = 2 by omega]; rfl
  have d1 : (p ++ a :: b :: q).drop (2 * (K + 1)) = q := by
    rw [List.drop_append, hp, List.drop_of_length_le (by omega), show 2 * (K + 1) - 2 * K = 2 by omega]; rfl
  have t0 : (p ++ a :: b :: q).take (2 * K) = p := by
    rw [List.take_append, hp, List.take_of_length_le (by omega), Nat.sub_self]; simp
  have d0 : (p ++ a :: b :: q).drop (2 * K) = a :: b :: q := by
    rw [List.drop_append, hp, List.drop_of_length_le (by omega), Nat.sub_self]; simp
  unfold midF
  rw [t1, d1, t0, d0, List.append_assoc]
  show ((((p ++ a :: b :: x :: y :: (q ++ r)).set (2 * K + 2) a).set (2 * K) x).set (2 * K + 3) b).set (2 * K + 1) y = p ++ x :: y :: a :: b :: (q ++ r)
  rw [List.set_append_right _ _ (by omega), List.set_append_right _ _ (by omega), List.set_append_right _ _ (by omega), List.set_append_right _ _ (by omega), hp,
    show 2 * K + 2 - 2 * K = 2 by omega, Nat.sub_self, show 2 * K + 3 - 2 * K = 3 by omega, show 2 * K + 1 - 2 * K = 1 by omega]
  rfl
theorem drop_two {l : List α} {i : Nat} (h : 2 * i + 1 < l.length) : l.drop (2 * i) = l[2 * i] :: l[2 * i + 1] :: l.drop (2 * (i + 1)) := by
  have e1 : l.drop (2 * i) = l[2 * i] :: l.drop (2 * i + 1) := List.drop_eq_getElem_cons (by omega)
  have e2 : l.drop (2 * i + 1) = l[2 * i + 1] :: l.drop (2 * i + 2) := List.drop_eq_getElem_cons (by omega)
  rw [e1, e2]; rfl
variable {lt : α → α → Bool} {l : List α} {i : Nat}
/-- How the pair i goes in. -/
theorem mid_start (h : 2 * i + 1 < l.length) : sortF lt l i ++ l.drop (2 * i) = midF (sortF lt l i) i l[2 * i] l[2 * i + 1] (l.drop (2 * (i + 1))) := by
  have hl := sortF_len (lt := lt) (l := l) (i := i) (by omega)
  unfold midF
  rw [drop_two h, List.take_of_length_le (l := sortF lt l i) (by omega), List.drop_of_length_le (l := sortF lt l i) (by omega), List.nil_append]
theorem mid_end (h : 2 * i + 1 < l.length) (hK : K = kF lt l[2 * i] (sortF lt l i) i) : midF (sortF lt l i) K l[2 * i] l[2 * i + 1] (l.drop (2 * (i + 1))) = sortF lt l (i + 1) ++ l.drop (2 * (i + 1)) := by
  have hl := sortF_len (lt := lt) (l := l) (i := i) (by omega)
  rw [sortF_succ h]
  unfold midF insF
  rw [hl, show 2 * i / 2 = i by omega, ← hK, List.append_assoc]
  rfl
theorem kF_le' (lt : α → α → Bool) (x : α) (σ : List α) (k : Nat) : kF lt x σ k ≤ k := kF_le lt x σ k
theorem sort_all {n : Nat} (h : l.length = 2 * n) : sortF lt l n ++ l.drop (2 * n) = sortF lt l n := by
  rw [List.drop_of_length_le (by omega), List.append_nil]
theorem mid_perm : (midF σ K x y r).Perm (σ ++ x :: y :: r) := by
  unfold midF
  have h1 : (x :: y :: (σ.drop (2 * K) ++ r)).Perm (σ.drop (2 * K) ++ x :: y :: r) := by
    have : (x :: y :: (σ.drop (2 * K) ++ r)) = [x, y] ++ σ.drop (2 * K) ++ r := rfl
    rw [this]
    have e2 : σ.drop (2 * K) ++ x :: y :: r = σ.drop (2 * K) ++ [x, y] ++ r := by simp
    rw [e2]
    exact (List.perm_append_comm).append_right r
  have h2 := List.Perm.append_left (σ.take (2 * K)) h1
  rw [← List.append_assoc (σ.take (2 * K)), List.take_append_drop] at h2
  exact h2
theorem sort_state_perm (h : 2 * i ≤ l.length) : (sortF lt l i ++ l.drop (2 * i)).Perm l := by
  have := (sortF_perm (lt := lt) (l := l) (i := i) h).append_right (l.drop (2 * i))
  rwa [List.take_append_drop] at this
theorem mid_perm_all (h : 2 * i + 1 < l.length) : (midF (sortF lt l i) K l[2 * i] l[2 * i + 1] (l.drop (2 * (i + 1)))).Perm l := by
  refine mid_perm.trans ?_
  rw [← drop_two h]
  exact sort_state_perm (by omega)
end

def ltE (a b : Elem) : Bool := lessT a.t b.t
theorem sortE_map (es : List Elem) {i : Nat} (h : 2 * i ≤ es.length) : (sortF ltE es i).map (·.t) = sortF lessT (es.map (·.t)) i := (sortF_map (f := fun e : Elem => e.t) (lt := ltE) (lt' := lessT) (fun _ _ => rfl) es h).symm

/-- A block whose first elements are these. -/
def RowE (w : World) (g cap : Nat) (T : TypeId) (es : List Elem) : Prop :=
  es.length ≤ cap ∧ ∃ f, w.rowIs g T (cap * 5) f ∧ ∀ j (h : j < es.length), Cells5 f j es[j].t es[j].u
/-- Element j written. -/
def set5 (w : World) (g j : Nat) (e : Elem) : World := ((((w.setCell ⟨g, j * 5, none⟩ (.int .i64 e.t.kind)).setCell ⟨g, j * 5 + 1, none⟩ (.int .i64 e.t.n)).setCell ⟨g, j * 5 + 2, none⟩ (.int .i64 e.t.x)).setCell ⟨g, j * 5 + 3, none⟩ (.string e.t.s)).setCell ⟨g, j * 5 + 4, none⟩ e.u
section
variable {w w' : World} {g cap lo : Nat} {T : TypeId} {es es' : List Elem}
theorem RowE.set (h : RowE w g cap T es) {j : Nat} (e : Elem) : RowE (set5 w g j e) g cap T (es.set j e) := by
  obtain ⟨hl, f, hr, hc⟩ := h
  refine ⟨by simpa using hl, _, ((((hr.set (j * 5) (.int .i64 e.t.kind)).set (j * 5 + 1) (.int .i64 e.t.n)).set (j * 5 + 2) (.int .i64 e.t.x)).set (j * 5 + 3) (.string e.t.s)).set (j * 5 + 4) e.u, fun i hi => ?_⟩
  have hi' : i < es.length := by simpa using hi
  by_cases e' : i = j
  · subst e'
    rw [List.getElem_set_self]
    refine ⟨?_, ?_, ?_, ?_, ?_⟩ <;> (show (if _ then _ else _) = _; simp)
  · rw [List.getElem_set_ne (Ne.symm e')]
    obtain ⟨e0, e1, e2, e3, e4⟩ := hc i hi'
    refine ⟨?_, ?_, ?_, ?_, ?_⟩
    · simp only [show ¬ i * 5 = j * 5 + 4 by omega, show ¬ i * 5 = j * 5 + 3 by omega, show ¬ i * 5 = j * 5 + 2 by omega, show ¬ i * 5 = j * 5 + 1 by omega, show ¬ i * 5 = j * 5 by omega, if_false]; exact e0
    · simp only [show ¬ i * 5 + 1 = j * 5 + 4 by omega, show ¬ i * 5 + 1 = j * 5 + 3 by omega, show ¬ i * 5 + 1 = j * 5 + 2 by omega, show ¬ i * 5 + 1 = j * 5 + 1 by omega, show ¬ i * 5 + 1 = j * 5 by omega, if_false]; exact e1
    · simp only [show ¬ i * 5 + 2 = j * 5 + 4 by omega, show ¬ i * 5 + 2 = j * 5 + 3 by omega, show ¬ i * 5 + 2 = j * 5 + 2 by omega, show ¬ i * 5 + 2 = j * 5 + 1 by omega, show ¬ i * 5 + 2 = j * 5 by omega, if_false]; exact e2
    · simp only [show ¬ i * 5 + 3 = j * 5 + 4 by omega, show ¬ i * 5 + 3 = j * 5 + 3 by omega, show ¬ i * 5 + 3 = j * 5 + 2 by omega, show ¬ i * 5 + 3 = j * 5 + 1 by omega, show ¬ i * 5 + 3 = j * 5 by omega, if_false]; exact e3
    · simp only [show ¬ i * 5 + 4 = j * 5 + 4 by omega, show ¬ i * 5 + 4 = j * 5 + 3 by omega, show ¬ i * 5 + 4 = j * 5 + 2 by omega, show ¬ i * 5 + 4 = j * 5 + 1 by omega, show ¬ i * 5 + 4 = j * 5 by omega, if_false]; exact e4
theorem set5_block (w : World) (g j : Nat) (e : Elem) {b : Nat} (h : b ≠ g) : (set5 w g j e).heap[b]? = w.heap[b]? := by
  unfold set5
  rw [Below.heap_setCell _ _ _ _ h, Below.heap_setCell _ _ _ _ h, Below.heap_setCell _ _ _ _ h, Below.heap_setCell _ _ _ _ h, Below.heap_setCell _ _ _ _ h]
theorem set5_size (w : World) (g j : Nat) (e : Elem) : (set5 w g j e).heap.size = w.heap.size := by simp [set5, World.setCell]
theorem RowE.of_block (h : RowE w g cap T es) (e : w'.heap[g]? = w.heap[g]?) : RowE w' g cap T es := by
  obtain ⟨hl, f, hr, hc⟩ := h
  exact ⟨hl, f, hr.of_block e, hc⟩
theorem RowE.drew (h : RowE w g cap T es) : RowE w.drew g cap T es := h.of_block rfl
theorem RowE.lt (h : RowE w g cap T es) : g < w.heap.size := by
  obtain ⟨_, f, hr, _⟩ := h
  exact hr.lt
theorem RowE.kept (h : RowE w g cap T es) (hb : Below w.heap.size w w') : RowE w' g cap T es := h.of_block (hb.block _ h.lt)
/-- The five cells of an element. -/
theorem RowE.cells (h : RowE w g cap T es) {j : Nat} {e : Elem} (he : es[j]? = some e) :
    w.cell? ⟨g, j * 5, none⟩ = some (.int .i64 e.t.kind) ∧ w.cell? ⟨g, j * 5 + 1, none⟩ = some (.int .i64 e.t.n) ∧ w.cell? ⟨g, j * 5 + 2, none⟩ = some (.int .i64 e.t.x) ∧
    w.cell? ⟨g, j * 5 + 3, none⟩ = some (.string e.t.s) ∧ w.cell? ⟨g, j * 5 + 4, none⟩ = some e.u := by
  obtain ⟨hl, f, hr, hc⟩ := h
  obtain ⟨hj, rfl⟩ := List.getElem?_eq_some_iff.1 he
  obtain ⟨e0, e1, e2, e3, e4⟩ := hc j hj
  have h0 := hr.cell (i := j * 5) (by omega)
  have h1 := hr.cell (i := j * 5 + 1) (by omega)
  have h2 := hr.cell (i := j * 5 + 2) (by omega)
  have h3 := hr.cell (i := j * 5 + 3) (by omega)
  have h4 := hr.cell (i := j * 5 + 4) (by omega)
  rw [e0] at h0; rw [e1] at h1; rw [e2] at h2; rw [e3] at h3; rw [e4] at h4
  exact ⟨h0, h1, h2, h3, h4⟩
theorem RowE.frozen (h : RowE w g cap T es) (i : Nat) : w.frozen? ⟨g, i, none⟩ = false := by
  obtain ⟨_, f, hr, _⟩ := h
  exact hr.frozen i

/-- The elements are right, what they own is below, apart from each other and from block g. -/
def EsOk (w : World) (T : TypeId) (lo g : Nat) (es : List Elem) : Prop :=
  (∀ e ∈ es, Fits e.t.kind e.t.n e.t.x e.t.s ∧ OSl w T e.u e.t.l e.S ∧ ∀ b, e.S b → lo ≤ b ∧ b < w.heap.size ∧ b ≠ g) ∧ es.Pairwise (fun p q => ∀ b, p.S b → q.S b → False)
theorem EsOk.perm (h : EsOk w T lo g es) (hp : es'.Perm es) : EsOk w T lo g es' := by
  refine ⟨fun e he => h.1 e (hp.mem_iff.1 he), ?_⟩
  exact (hp.pairwise_iff (fun hxy b hb hb' => hxy b hb' hb)).2 h.2
theorem EsOk.kept (h : EsOk w T lo g es) (hs : w.heap.size ≤ w'.heap.size) (hb : ∀ b, b < w.heap.size → b ≠ g → w'.heap[b]? = w.heap[b]?) : EsOk w' T lo g es :=
  ⟨fun e he => by
    obtain ⟨h1, h2, h3⟩ := h.1 e he
    exact ⟨h1, h2.kept (fun b hS => hb b (h3 b hS).2.1 (h3 b hS).2.2), fun b hS => ⟨(h3 b hS).1, Nat.lt_of_lt_of_le (h3 b hS).2.1 hs, (h3 b hS).2.2⟩⟩, h.2⟩
theorem EsOk.other {g' : Nat} (h : EsOk w T lo g es) (hg : w.heap.size ≤ g') : EsOk w T lo g' es :=
  ⟨fun e he => by
    obtain ⟨h1, h2, h3⟩ := h.1 e he
    exact ⟨h1, h2, fun b hS => ⟨(h3 b hS).1, (h3 b hS).2.1, by have := (h3 b hS).2.1; omega⟩⟩, h.2⟩
theorem EsOk.form (h : EsOk w T lo g es) {e : Elem} (he : e ∈ es) : ∃ a cap, e.u = .slice a e.t.l.length cap := by
  have h2 := (h.1 e he).2.1
  generalize e.u = v at *
  generalize e.t.l = l at *
  cases h2 with
  | nil a cap S h => exact ⟨a, cap, rfl⟩
  | row => exact ⟨_, _, rfl⟩

/-- A copy's elements, opened. -/
theorem osl_open {v : Value} {l : List Tree} {hi : Nat} (h : OSl w T v l (Rng lo hi)) (hhi : hi ≤ w.heap.size) (h0 : 0 < l.length) :
    ∃ (g cap : Nat) (es : List Elem), v = .slice (some ⟨g, 0, none⟩) l.length cap ∧ es.map (·.t) = l ∧ es.length = l.length ∧ RowE w g cap T es ∧ cap ≤ maxLen ∧ lo ≤ g ∧ g < hi ∧ EsOk w T lo g es := by
  cases h with
  | nil a cap S h => simp at h0
  | @row g cap f l us Si S h0 hrow hcap hmax hc hsub hS hSi hd =>
    refine ⟨g, cap, (List.range l.length).map (fun j => ⟨(l[j]?).getD (.mk 0 0 0 { data := #[] } []), us j, Si j⟩), rfl, ?_, by simp, ⟨by simpa using hcap, f, hrow, fun j hj => ?_⟩, hmax, hS.1, hS.2, fun e he => ?_, ?_⟩
    · apply List.ext_getElem?
      intro j
      simp only [List.map_map, List.getElem?_map]
      by_cases hj : j < l.length
      · rw [List.getElem?_range hj, List.getElem?_eq_getElem hj]
        simp [List.getElem?_eq_getElem hj]
      · rw [List.getElem?_eq_none (l := List.range l.length) (by simp; omega), List.getElem?_eq_none (l := l) (by omega)]; rfl
    · have hj' : j < l.length := by simpa using hj
      rw [List.getElem_map, List.getElem_range]
      simp only [List.getElem?_eq_getElem hj', Option.getD_some]
      exact (hc j hj').1
    · obtain ⟨j, hj, rfl⟩ := List.mem_map.1 he
      have hj' : j < l.length := List.mem_range.1 hj
      simp only [List.getElem?_eq_getElem hj', Option.getD_some]
      refine ⟨(hc j hj').2, hsub j hj', fun b hb => ?_⟩
      obtain ⟨h1, h2⟩ := hSi j b hj' hb
      exact ⟨h1.1, Nat.lt_of_lt_of_le h1.2 hhi, h2⟩
    · rw [List.pairwise_map]
      refine List.pairwise_iff_getElem.2 fun i j hi hj hij b hb hb' => ?_
      simp only [List.getElem_range] at hb hb'
      exact hd i j b (by simpa using hi) (by simpa using hj) (by omega) hb hb'
/-- .. and shut again. -/
theorem osl_shut (h : RowE w g cap T es) (hm : cap ≤ maxLen) (he : EsOk w T lo g es) (hlo : lo ≤ g) {l : List Tree} (hl : es.map (·.t) = l) : OSl w T (.slice (some ⟨g, 0, none⟩) l.length cap) l (Rng lo w.heap.size) := by
  subst hl
  have hlt := h.lt
  obtain ⟨hcap, f, hr, hc⟩ := h
  have hlen : (es.map (·.t)).length = es.length := by simp
  by_cases h0 : es.length = 0
  · have : es = [] := List.eq_nil_of_length_eq_zero h0
    subst this
    exact .nil _ _ _ hm
  refine OSl.row (us := fun j => (es[j]?.map (·.u)).getD undef) (Si := fun j => (es[j]?.map (·.S)).getD (fun _ => False)) (f := f) (by rw [hlen]; omega) hr (by rw [hlen]; exact hcap) hm ?_ ?_ ⟨hlo, hlt⟩ ?_ ?_
  · intro j hj
    have hj' : j < es.length := by rwa [hlen] at hj
    have hm := he.1 es[j] (List.getElem_mem hj')
    rw [List.getElem_map]
    simp only [List.getElem?_eq_getElem hj', Option.map_some, Option.getD_some]
    exact ⟨hc j hj', hm.1⟩
  · intro j hj
    have hj' : j < es.length := by rwa [hlen] at hj
    have hm := he.1 es[j] (List.getElem_mem hj')
    simpa [List.getElem?_eq_getElem hj'] using hm.2.1
  · intro j b hj hb
    have hj' : j < es.length := by rwa [hlen] at hj
    have hm := (he.1 es[j] (List.getElem_mem hj')).2.2 b (by simpa [List.getElem?_eq_getElem hj'] using hb)
    exact ⟨⟨hm.1, hm.2.1⟩, hm.2.2⟩
  · intro i j b hi hj hne hbi hbj
    have hi' : i < es.length := by rwa [hlen] at hi
    have hj' : j < es.length := by rwa [hlen] at hj
    rw [List.getElem?_eq_getElem hi'] at hbi
    rw [List.getElem?_eq_getElem hj'] at hbj
    simp only [Option.map_some, Option.getD_some] at hbi hbj
    have hpw := List.pairwise_iff_getElem.1 he.2
    rcases Nat.lt_or_gt_of_ne hne with hlt' | hlt'
    · exact hpw i j hi' hj' hlt' b hbi hbj
    · exact hpw j i hj' hi' hlt' b hbj hbi
end
theorem costL_perm {l l' : List Tree} (h : l.Perm l') : costL l = costL l' := by
  induction h with
  | nil => rfl
  | cons x _ ih => rw [costL, costL, ih]
  | swap x y l => rw [costL, costL, costL, costL]; omega
  | trans _ _ h1 h2 => exact h1.trans h2
theorem sortT_parts (t : Tree) : (sortT t).kind = t.kind ∧ (sortT t).n = t.n ∧ (sortT t).x = t.x ∧ (sortT t).s = t.s := by
  unfold sortT
  split <;> exact ⟨rfl, rfl, rfl, rfl⟩
theorem sortT_cost (t : Tree) : (sortT t).cost = t.cost := by
  rw [Tree.cost_eq, Tree.cost_eq, (sortT_parts t).2.2.2]
  unfold sortT
  split
  · rename_i h
    have h2 : t.l.length = 2 * (t.l.length / 2) := by
      unfold pairedB at h
      simp only [Bool.and_eq_true, beq_iff_eq] at h
      omega
    have hp := sortF_perm (lt := lessT) (l := t.l) (i := t.l.length / 2) (by omega)
    rw [List.take_of_length_le (by omega)] at hp
    rw [Tree.l_mk, costL_perm hp]
  · rfl
theorem sortT_fits {t : Tree} (h : Fits t.kind t.n t.x t.s) : Fits (sortT t).kind (sortT t).n (sortT t).x (sortT t).s := by
  obtain ⟨h1, h2, h3, h4⟩ := sortT_parts t
  rw [h1, h2, h3, h4]; exact h
theorem sort_one {α : Type} {lt : α → α → Bool} {l : List α} (h : 2 ≤ l.length) : sortF lt l 1 ++ l.drop 2 = l := by
  have h1 := mid_start (lt := lt) (l := l) (i := 0) (by omega)
  have h2 := mid_end (lt := lt) (l := l) (i := 0) (K := 0) (by omega) rfl
  exact h2.symm.trans (h1.symm.trans (by simp [sortF]))
section
variable {w w' : World} {g cap lo : Nat} {T : TypeId} {es es' : List Elem} {v : Value}
theorem cells5_get (t : Tree) (u : Value) (r : Nat) {x : Value} (h : (cells5 t u)[r]? = some x) : r < 5 := by
  have := (List.getElem?_eq_some_iff.1 h).1
  simpa [cells5] using this
/-- An own row that is not empty, by its elements. -/
theorem rowE_of (h : w.ownsRow lo T 5 v es.length (es.flatMap Elem.cells)) (h0 : 0 < es.length) : ∃ g cap, v = .slice (some ⟨g, 0, none⟩) es.length cap ∧ RowE w g cap T es ∧ cap ≤ maxLen ∧ lo ≤ g := by
  rcases h.2 with ⟨_, h1⟩ | ⟨g, cap, cur, rfl, hb, hg, hnc, hcm, hcs, htake⟩
  · omega
  refine ⟨g, cap, rfl, ⟨hnc, fun i => cur.getD i undef, ⟨cur, hg, hcs, fun i hi => by simp [Array.getD, show i < cur.size by omega]⟩, fun j hj => ?_⟩, hcm, hb⟩
  have hcell : ∀ r, r < 5 → some (cur.getD (j * 5 + r) undef) = (cells5 es[j].t es[j].u)[r]? := by
    intro r hr
    rw [← flat_get es hj r hr, ← htake, List.getElem?_take, if_pos (by omega), Array.getElem?_toList]
    have : j * 5 + r < cur.size := by omega
    simp [Array.getD, this]
  refine ⟨?_, ?_, ?_, ?_, ?_⟩
  · have := hcell 0 (by omega); simpa [cells5] using this
  · have := hcell 1 (by omega); simpa [cells5] using this
  · have := hcell 2 (by omega); simpa [cells5] using this
  · have := hcell 3 (by omega); simpa [cells5] using this
  · have := hcell 4 (by omega); simpa [cells5] using this
/-- The cells of some elements in a row, as an append takes them. -/
theorem news_of (h : RowE w g cap T es) (a b : Nat) : ∀ j u, (((es.drop a).take b).flatMap Elem.cells)[j]? = some u → w.cell? ((⟨g, a * 5, none⟩ : Addr).add j) = some u := by
  intro j u hj
  have hlt : j < (((es.drop a).take b).flatMap Elem.cells).length := (List.getElem?_eq_some_iff.1 hj).1
  rw [flat_len] at hlt
  have hq : j / 5 < ((es.drop a).take b).length := by omega
  have hjq : j = j / 5 * 5 + j % 5 := by omega
  have hr : j % 5 < 5 := Nat.mod_lt _ (by decide)
  generalize j / 5 = q at *
  generalize j % 5 = r at *
  subst hjq
  rw [flat_get _ hq r hr] at hj
  have hq2 : a + q < es.length := by
    rw [List.length_take, List.length_drop] at hq; omega
  have he : ((es.drop a).take b)[q] = es[a + q] := by rw [List.getElem_take, List.getElem_drop]
  rw [he] at hj
  have hadd : (⟨g, a * 5, none⟩ : Addr).add (q * 5 + r) = ⟨g, a * 5 + (q * 5 + r), none⟩ := by unfold Addr.add; split <;> simp_all
  obtain ⟨c0, c1, c2, c3, c4⟩ := h.cells (List.getElem?_eq_getElem hq2)
  rw [hadd, show a * 5 + (q * 5 + r) = (a + q) * 5 + r by omega]
  match r, hr with
  | 0, _ => rw [Nat.add_zero, c0, ← hj]; rfl
  | 1, _ => rw [c1, ← hj]; rfl
  | 2, _ => rw [c2, ← hj]; rfl
  | 3, _ => rw [c3, ← hj]; rfl
  | 4, _ => rw [c4, ← hj]; rfl
theorem news_one (l : List Elem) (h : ∀ e ∈ l, ∃ a n c, e.u = .slice a n c) : ∀ x ∈ l.flatMap Elem.cells, x.oneCell' = true := by
  intro x hx
  obtain ⟨e, he, hx⟩ := List.mem_flatMap.1 hx
  obtain ⟨a, n, c, hu⟩ := h e he
  have := one5 e.t a n c x
  rw [← hu] at this
  exact this hx
theorem EsOk.forms (h : EsOk w T lo g es) : ∀ e ∈ es, ∃ a n c, e.u = .slice a n c := fun e he => by
  obtain ⟨a, c, hu⟩ := h.form he
  exact ⟨a, _, c, hu⟩
end
section
variable {P : Program} (w : World)
/-- append to a row that is not nil: there may be nothing to append. -/
theorem run_append_z (t ty : TypeId) (base : Nat) (e : TypeId) (i : TypeInfo) (z : Value) (size bytes : Nat) (ht : P.underlying t = some (.slice e)) (hi : P.info? e = some i) (hz : i.zero = some z)
    (hsize : i.size = size) (hby : i.bytes = bytes) (hzs : z.cells.size = size) (hsz : 0 < size)
    (v : Value) (n : Nat) (xs : List Value) (hown : w.ownsRow base e size v n xs) (hv : v ≠ .slice none 0 0)
    (ad : Addr) (m c : Nat) (news : List Value) (hl : news.length = m * size) (hnews : ∀ j u, news[j]? = some u → w.cell? (ad.add j) = some u) (h1 : ∀ u ∈ news, u.oneCell' = true)
    (h63 : n + m ≤ maxLen) (hbytes : (n + m) * bytes ≤ 140737488355328) (hbase : base ≤ w.heap.size) :
    ∃ g cap w', (Builtin.append_ #[t, t] ty #[v, .slice (some ad) m c]).run P w = .ok (.slice (some ⟨g, 0, none⟩) (n + m) cap) w' ∧
      w'.ownsRow base e size (.slice (some ⟨g, 0, none⟩) (n + m) cap) (n + m) (xs ++ news) ∧ w.grownBy w' v.ownBlock ∧ (v.ownBlock = some g ∨ g = w.heap.size) ∧ g < w'.heap.size := by
  obtain ⟨v', w', hr, h2, h3, h4, h5⟩ := run_append_own_at (P := P) w base t ty e i z size bytes ht hi hz hsize hby hzs hsz v n xs hown ad m c news hl hnews h1 h63 hbytes hbase
  rcases h2.2 with ⟨hn, _⟩ | ⟨g, cap, cur, rfl, hb, hg, _⟩
  · exact absurd (h4.1 hn).1 hv
  refine ⟨g, cap, w', hr, h2, h3, ?_, (Array.getElem?_eq_some_iff.1 hg).1⟩
  rcases h5 with h5 | h5
  · exact .inl (by rw [← h5]; rfl)
  · exact .inr (by simpa [Value.ownBlock] using h5)
end
/-- Nothing but block g has turned since. -/
structure Sv (g : Nat) (a w : World) : Prop where
  os : w.os = a.os
  tape : w.tape = a.tape
  output : w.output = a.output
  size : a.heap.size ≤ w.heap.size
  block : ∀ b, b < a.heap.size → b ≠ g → w.heap[b]? = a.heap[b]?
section
variable {g lo cap : Nat} {a w w1 : World} {T : TypeId} {es : List Elem}
theorem Sv.refl (g : Nat) (a : World) : Sv g a a := ⟨rfl, rfl, rfl, Nat.le_refl _, fun _ _ _ => rfl⟩
theorem Sv.below (h : Sv g a w) (hb : Below w.heap.size w w1) : Sv g a w1 :=
  ⟨hb.os.trans h.os, hb.tape.trans h.tape, hb.output.trans h.output, Nat.le_trans h.size hb.size, fun b hlt hne => (hb.block b (Nat.lt_of_lt_of_le hlt h.size)).trans (h.block b hlt hne)⟩
theorem Sv.drew (h : Sv g a w) : Sv g a w.drew := h.below (Below.refl _ _).drew
theorem Sv.set (h : Sv g a w) (j : Nat) (v : Value) : Sv g a (w.setCell ⟨g, j, none⟩ v) :=
  ⟨h.os, h.tape, h.output, by simpa [World.setCell] using h.size, fun b hlt hne => (Below.heap_setCell _ _ _ _ hne).trans (h.block b hlt hne)⟩
theorem Sv.set5 (h : Sv g a w) (j : Nat) (e : Elem) : Sv g a (set5 w g j e) := ((((h.set _ _).set _ _).set _ _).set _ _).set _ _
theorem Sv.toBelow {B : Nat} {b0 : World} (h : Sv g a w) (hb : Below B b0 a) (hg : B ≤ g) (hB : B ≤ a.heap.size) : Below B b0 w :=
  ⟨h.os.trans hb.os, h.tape.trans hb.tape, h.output.trans hb.output, Nat.le_trans hb.size h.size, fun b hlt => (h.block b (Nat.lt_of_lt_of_le hlt hB) (by omega)).trans (hb.block b hlt)⟩
theorem Sv.ok (h : Sv g a w) (he : EsOk a T lo g es) : EsOk w T lo g es := he.kept h.size h.block
theorem Sv.box (h : Sv g a w) {R : Nat} {o : Obj} (hR : a.heap[R]? = some o) (hne : R ≠ g) : w.heap[R]? = some o :=
  (h.block R (Array.getElem?_eq_some_iff.1 hR).1 hne).trans hR
end
section
variable {w w1 W : World} {R j : Nat}
theorem bx_below {o : Obj} (h : w.heap[R]? = some o) (g : Below w.heap.size w w1) : w1.heap[R]? = some o := (g.block R (Array.getElem?_eq_some_iff.1 h).1).trans h
theorem bx_alloc {o : Obj} (h : w.heap[R]? = some o) (o' : Obj) : (w.alloc o').heap[R]? = some o := bx_below h (vbelow1 w o')
theorem bx_lt {o : Obj} (h : w.heap[R]? = some o) : R < w.heap.size := (Array.getElem?_eq_some_iff.1 h).1
theorem bl_alloc (h : Below W.heap.size W w) (o : Obj) : Below W.heap.size W (w.alloc o) := h.alloc h.size o
theorem bl_set (h : Below W.heap.size W w) (v : Value) (hR : W.heap.size ≤ R) : Below W.heap.size W (w.setCell ⟨R, j, none⟩ v) := h.setCell hR _
end
/-- .. as a step of a region that draws its order. -/
theorem step_append_z {P : Program} {w : World} {ops : Array Oper} {o : Oper} {a : Act} {K : Act → World → Prop} {Q : Exit → Act → World → Prop} {E : Prop} (hgd : o.guard = none) (s x : Operand) (t : TypeId)
    (ho : o.op = .call { callee := .builtin .append, args := #[s, x], argTypes := #[t, t] })
    (base : Nat) (e : TypeId) (i : TypeInfo) (z : Value) (size bytes : Nat) (ht : P.underlying t = some (.slice e)) (hi : P.info? e = some i) (hz : i.zero = some z)
    (hsize : i.size = size) (hby : i.bytes = bytes) (hzs : z.cells.size = size) (hsz : 0 < size)
    (v : Value) (n : Nat) (xs : List Value) (hs : a.eval s = v) (ad : Addr) (m c : Nat) (news : List Value) (hx : a.eval x = .slice (some ad) m c) (hown : w.ownsRow base e size v n xs) (hv : v ≠ .slice none 0 0)
    (hl : news.length = m * size) (hnews : ∀ j u, news[j]? = some u → w.cell? (ad.add j) = some u) (h1 : ∀ u ∈ news, u.oneCell' = true)
    (h63 : n + m ≤ maxLen) (hbytes : (n + m) * bytes ≤ 140737488355328) (nm : Nat) (hnm : n + m = nm) (ys : List Value) (hys : xs ++ news = ys) (hbase : base ≤ w.heap.size)
    (h : ∀ g cap w', w'.ownsRow base e size (.slice (some ⟨g, 0, none⟩) nm cap) nm ys → w.grownBy w' v.ownBlock → (v.ownBlock = some g ∨ g = w.heap.size) → g < w'.heap.size → K (a.put o.dst (.slice (some ⟨g, 0, none⟩) nm cap)) w') :
    if Region.wanted o (yielded ops a.tmps) = true then Oper.wp P o a w K Q else E := by
  subst hnm hys
  have hw : Region.wanted o (yielded ops a.tmps) = true := by simp [Region.wanted, hgd]
  rw [if_pos hw]
  obtain ⟨g, cap, w', hr, h2, h3, h4, h5⟩ := run_append_z (P := P) w t o.type base e i z size bytes ht hi hz hsize hby hzs hsz v n xs hown hv ad m c news hl hnews h1 h63 hbytes hbase
  unfold Oper.wp execOp
  simp only [ho, resolve, invoke, builtin, Sem.run_bind, Sem.run_pure, Result.andThen_ok, List.map_toArray, List.map_cons, List.map_nil, hs, hx, hr]
  exact h g cap w' h2 h3 h4 h5
end Go.Proofs.YtilmhemcpgiikaaDoor
