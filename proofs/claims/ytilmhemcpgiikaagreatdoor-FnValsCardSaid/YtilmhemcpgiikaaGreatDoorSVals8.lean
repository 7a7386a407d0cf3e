/- Vals: texts of the proof (VSz VAp). -/
import Derived.Test.YtilmhemcpgiikaaGreatDoorSVals6
import Derived.Test.YtilmhemcpgiikaaGreatDoorSVals7
import Derived.Deep.AppendLies
/- How much a tree holds, and the functions that take it off. -/
namespace Go.Proofs.YtilmhemcpgiikaaGreatDoor
open Go.ChangeShapes Go.WideShapes Go.ChangeAt Go.RowKit
open Go.ChangeMaps (open_string shut_string)


mutual
/-- What szVal takes off for a tree: the letters and the elements. -/
def Tree.cost : Tree → Nat | .mk _ _ _ s l => s.size + costL l
def costL : List Tree → Nat | [] => 0 | t :: ts => 1 + t.cost + costL ts
end
theorem Tree.cost_eq (t : Tree) : t.cost = t.s.size + costL t.l := by cases t; rw [Tree.cost]; rfl
/-- The cost of the elements, but for their number. -/
def costE : List Tree → Nat | [] => 0 | t :: ts => t.cost + costE ts
theorem costL_eq : ∀ l, costL l = l.length + costE l
  | [] => rfl
  | t :: ts => by rw [costL, costE, costL_eq ts, List.length_cons]; omega
theorem costE_snoc (t : Tree) : ∀ l, costE (l ++ [t]) = costE l + t.cost
  | [] => by simp [costE]
  | u :: ts => by simp only [List.cons_append, costE, costE_snoc t ts]; omega
theorem costE_take : ∀ (l : List Tree) (j : Nat), costE (l.take j) ≤ costE l
  | [], j => by simp [costE]
  | t :: ts, 0 => by simp [costE]
  | t :: ts, j + 1 => by simp only [List.take_succ_cons, costE]; have := costE_take ts j; omega
/-- What is left. -/
def subC (left : Int) (c : Nat) : Int := if (c : Int) ≤ left then left - c else -1
theorem subC_yes {left : Int} {c : Nat} (h : (c : Int) ≤ left) : subC left c = left - c := if_pos h
theorem subC_no {left : Int} {c : Nat} (h : left < (c : Int)) : subC left c = -1 := if_neg (by omega)

end Go.Proofs.YtilmhemcpgiikaaGreatDoor
/- Trees gathered by append: a row of the call's own whose elements own their blocks. -/
namespace Go.Proofs.YtilmhemcpgiikaaGreatDoor
open Go.Deep Go.ChangeShapes Go.WideShapes Go.ChangeAt Go.RowKit

/-- The five cells of a tree whose elements stand as u. -/
def cells5 (t : Tree) (u : Value) : List Value := [.int .i64 t.kind, .int .i64 t.n, .int .i64 t.x, .string t.s, u]
/-- A tree, its elements' value, and the blocks that these own. -/
structure Elem where
  t : Tree
  u : Value
  S : Nat → Prop
def Elem.cells (e : Elem) : List Value := cells5 e.t e.u

/-- Trees gathered so far: a row of the call's own, from block lo on. -/
def APe (w : World) (lo : Nat) (T : TypeId) (v : Value) (l : List Tree) (es : List Elem) : Prop :=
  es.map (·.t) = l ∧ w.ownsRow lo T 5 v es.length (es.flatMap Elem.cells) ∧
    (∀ e ∈ es, Fits e.t.kind e.t.n e.t.x e.t.s ∧ OSl w T e.u e.t.l e.S ∧ ∀ b, e.S b → lo ≤ b ∧ b < w.heap.size ∧ v.ownBlock ≠ some b) ∧
    es.Pairwise (fun p q => ∀ b, p.S b → q.S b → False)
def AP (w : World) (lo : Nat) (T : TypeId) (v : Value) (l : List Tree) : Prop := ∃ es : List Elem, APe w lo T v l es

theorem flat_len (es : List Elem) : (es.flatMap Elem.cells).length = es.length * 5 := by
  induction es with
  | nil => rfl
  | cons e es ih => simp only [List.flatMap_cons, List.length_append, ih, List.length_cons]; simp [Elem.cells, cells5]; omega

theorem AP.nil (w : World) (lo : Nat) (T : TypeId) : AP w lo T (.slice none 0 0) [] := ⟨[], rfl, World.ownsRow_nil _ _ _ _, by simp, by simp⟩
theorem AP.made (w : World) (T : TypeId) : AP (w.alloc (.cells #[] T)) w.heap.size T (.slice (some ⟨w.heap.size, 0, none⟩) 0 0) [] :=
  ⟨[], rfl, World.ownsRow_made (base := w.heap.size) w #[] 0 (Nat.le_refl _) (by simp [maxLen]) rfl, by simp, by simp⟩

theorem APe.row {w : World} {lo : Nat} {T : TypeId} {v : Value} {l : List Tree} {es : List Elem} (h : APe w lo T v l es) : w.ownsRow lo T 5 v l.length (es.flatMap Elem.cells) := by
  obtain ⟨rfl, ho, _, _⟩ := h
  simpa using ho
theorem owns_below {w w' : World} (hb : Below w.heap.size w w') {B k : Nat} {T : TypeId} {v : Value} {n : Nat} {xs : List Value} (h : w.ownsRow B T k v n xs) : w'.ownsRow B T k v n xs := by
  refine ⟨h.1, ?_⟩
  rcases h.2 with h2 | ⟨g, cap, cur, hv, hg, hh, r⟩
  · exact .inl h2
  · exact .inr ⟨g, cap, cur, hv, hg, by rw [hb.block g (Array.getElem?_eq_some_iff.1 hh).1]; exact hh, r⟩

theorem AP.kept {w w' : World} (hb : Below w.heap.size w w') {lo : Nat} {T : TypeId} {v : Value} {l : List Tree} (h : AP w lo T v l) : AP w' lo T v l := by
  obtain ⟨es, hl, ho, hE, hp⟩ := h
  refine ⟨es, hl, owns_below hb ho, fun e he => ?_, hp⟩
  obtain ⟨a, c, d⟩ := hE e he
  exact ⟨a, c.kept (fun b hS => hb.block b (d b hS).2.1), fun b hS => ⟨(d b hS).1, Nat.lt_of_lt_of_le (d b hS).2.1 hb.size, (d b hS).2.2⟩⟩

theorem AP.kept_lo {w w' : World} {lo : Nat} {T : TypeId} {v : Value} {l : List Tree} (h : AP w lo T v l) (hsz : w.heap.size ≤ w'.heap.size) (hb : ∀ b, lo ≤ b → b < w.heap.size → w'.heap[b]? = w.heap[b]?) : AP w' lo T v l := by
  obtain ⟨es, hl, ho, hE, hp⟩ := h
  refine ⟨es, hl, ⟨ho.1, ?_⟩, fun e he => ?_, hp⟩
  · rcases ho.2 with h2 | ⟨g, cap, cur, hv, hg, hh, r⟩
    · exact .inl h2
    · exact .inr ⟨g, cap, cur, hv, hg, by rw [hb g hg (Array.getElem?_eq_some_iff.1 hh).1]; exact hh, r⟩
  · obtain ⟨a, c, d⟩ := hE e he
    exact ⟨a, c.kept (fun b hS => hb b (d b hS).1 (d b hS).2.1), fun b hS => ⟨(d b hS).1, Nat.lt_of_lt_of_le (d b hS).2.1 hsz, (d b hS).2.2⟩⟩

theorem owns_mono {w : World} {lo lo' k : Nat} {T : TypeId} {v : Value} {n : Nat} {xs : List Value} (h : w.ownsRow lo T k v n xs) (hl : lo' ≤ lo) : w.ownsRow lo' T k v n xs := by
  refine ⟨h.1, ?_⟩
  rcases h.2 with h2 | ⟨g, cap, cur, hv, hg, r⟩
  · exact .inl h2
  · exact .inr ⟨g, cap, cur, hv, Nat.le_trans hl hg, r⟩
theorem AP.mono {w : World} {lo lo' : Nat} {T : TypeId} {v : Value} {l : List Tree} (h : AP w lo T v l) (hl : lo' ≤ lo) : AP w lo' T v l := by
  obtain ⟨es, hm, ho, hE, hp⟩ := h
  exact ⟨es, hm, owns_mono ho hl, fun e he => ⟨(hE e he).1, (hE e he).2.1, fun b hb => ⟨Nat.le_trans hl ((hE e he).2.2 b hb).1, ((hE e he).2.2 b hb).2⟩⟩, hp⟩

/-- One more: the element's blocks are new, the row grew. -/
theorem APe.snoc {w0 w w' : World} {lo : Nat} {T : TypeId} {v : Value} {l : List Tree} {es : List Elem} (h : APe w0 lo T v l es) (hb0 : Below w0.heap.size w0 w) {t : Tree} {u : Value} (fit : Fits t.kind t.n t.x t.s) {hi : Nat} (ho : OSl w T u t.l (Rng w0.heap.size hi)) (hhi : hi ≤ w.heap.size)
    (hlo : lo ≤ w0.heap.size) {g cap : Nat} (hn : w'.ownsRow lo T 5 (.slice (some ⟨g, 0, none⟩) (l.length + 1) cap) (l.length + 1) (es.flatMap Elem.cells ++ cells5 t u))
    (hg : w.grownBy w' v.ownBlock) (hfresh : v.ownBlock = some g ∨ g = w.heap.size) : AP w' lo T (.slice (some ⟨g, 0, none⟩) (l.length + 1) cap) (l ++ [t]) := by
  obtain ⟨hl, hrow0, hE0, hp⟩ := h
  have hel : es.length = l.length := by rw [← hl]; simp
  have hvlt : ∀ b, v.ownBlock = some b → b < w0.heap.size := fun b hb => (hrow0.lt b hb).2
  have hsz := hb0.size
  have hgs := hg.size
  have hgn : ∀ b, b < w.heap.size → v.ownBlock ≠ some b → (Value.slice (some ⟨g, 0, none⟩) (l.length + 1) cap).ownBlock ≠ some b := by
    intro b hb hne
    simp only [Value.ownBlock, ne_eq, Option.some.injEq]
    rcases hfresh with hf | hf
    · intro e; exact hne (by rw [hf, e])
    · omega
  refine ⟨es ++ [⟨t, u, Rng w0.heap.size hi⟩], by simp [hl], ?_, fun e he => ?_, ?_⟩
  · have e1 : (es ++ [⟨t, u, Rng w0.heap.size hi⟩] : List Elem).length = l.length + 1 := by simp [hel]
    rw [e1, List.flatMap_append]
    simpa [Elem.cells] using hn
  · rcases List.mem_append.1 he with he | he
    · obtain ⟨a, c, d⟩ := hE0 e he
      refine ⟨a, c.kept (fun b hS => ?_), fun b hS => ?_⟩
      · obtain ⟨d1, d2, d3⟩ := d b hS
        rw [hg.block b (by omega) (fun e => d3 e.symm), hb0.block b d2]
      · obtain ⟨d1, d2, d3⟩ := d b hS
        exact ⟨d1, by omega, hgn b (by omega) d3⟩
    · rw [List.mem_singleton] at he
      subst he
      have hne : ∀ b, Rng w0.heap.size hi b → v.ownBlock ≠ some b := fun b hb e => by have := hvlt b e; have := hb.1; omega
      refine ⟨fit, ho.kept (fun b hS => hg.block b (by have := hS.2; omega) (fun e => hne b hS e.symm)), fun b hS => ?_⟩
      have h1 := hS.1; have h2 := hS.2
      exact ⟨by omega, by omega, hgn b (by omega) (hne b hS)⟩
  · rw [List.pairwise_append]
    refine ⟨hp, by simp, fun p hp' q hq b hb hb' => ?_⟩
    rw [List.mem_singleton] at hq
    subst hq
    have := ((hE0 p hp').2.2 b hb).2.1
    have := hb'.1
    omega

theorem flat_get (es : List Elem) {j : Nat} (hj : j < es.length) (r : Nat) (hr : r < 5) : (es.flatMap Elem.cells)[j * 5 + r]? = (cells5 es[j].t es[j].u)[r]? := by
  induction es generalizing j with
  | nil => simp at hj
  | cons e es ih =>
    have hl : (Elem.cells e).length = 5 := rfl
    rw [List.flatMap_cons]
    cases j with
    | zero =>
      rw [List.getElem?_append_left (by rw [hl]; omega)]
      simp [Elem.cells]
    | succ j =>
      rw [List.getElem?_append_right (by rw [hl]; omega), hl, show (j + 1) * 5 + r - 5 = j * 5 + r by omega]
      simpa using ih (by simpa using hj)

/-- What was gathered is owned. -/
theorem AP.osl {w : World} {lo : Nat} {T : TypeId} {v : Value} {l : List Tree} (h : AP w lo T v l) : OSl w T v l (Rng lo w.heap.size) := by
  obtain ⟨es, rfl, ho, hE, hp⟩ := h
  rcases ho.2 with ⟨rfl, h0⟩ | ⟨g, cap, cur, rfl, hb, hg, hnc, hcm, hcs, htake⟩
  · have : es = [] := List.eq_nil_of_length_eq_zero h0
    subst this
    exact .nil _ _ _ (by simp [maxLen])
  · by_cases h0 : es.length = 0
    · have : es = [] := List.eq_nil_of_length_eq_zero h0
      subst this
      exact .nil _ _ _ hcm
    · have hlt : g < w.heap.size := (Array.getElem?_eq_some_iff.1 hg).1
      have hcell : ∀ j (hj : j < es.length) r, r < 5 → some (cur.getD (j * 5 + r) undef) = (cells5 es[j].t es[j].u)[r]? := by
        intro j hj r hr
        rw [← flat_get es hj r hr, ← htake, List.getElem?_take, if_pos (by omega), Array.getElem?_toList]
        have : j * 5 + r < cur.size := by omega
        simp [Array.getD, this]
      have hlen : (es.map (·.t)).length = es.length := by simp
      have key := OSl.row (w := w) (T := T) (g := g) (cap := cap) (f := fun i => cur.getD i undef) (l := es.map (·.t)) (us := fun j => (es[j]?.map (·.u)).getD undef) (Si := fun j => (es[j]?.map (·.S)).getD (fun _ => False)) (S := Rng lo w.heap.size)
        (by rw [hlen]; omega) ⟨cur, hg, by omega, fun i hi => by simp [Array.getD, show i < cur.size by omega]⟩ (by rw [hlen]; exact hnc) hcm ?_ ?_ ⟨hb, hlt⟩ ?_ ?_
      · rwa [hlen] at key
      · intro j hj
        have hj' : j < es.length := by rwa [hlen] at hj
        have hm := hE es[j] (List.getElem_mem hj')
        rw [List.getElem_map]
        refine ⟨⟨?_, ?_, ?_, ?_, ?_⟩, hm.1⟩
        · have := hcell j hj' 0 (by omega); simpa [cells5] using this
        · have := hcell j hj' 1 (by omega); simpa [cells5] using this
        · have := hcell j hj' 2 (by omega); simpa [cells5] using this
        · have := hcell j hj' 3 (by omega); simpa [cells5] using this
        · have := hcell j hj' 4 (by omega); simpa [cells5, List.getElem?_eq_getElem hj'] using this
      · intro j hj
        have hj' : j < es.length := by rwa [hlen] at hj
        have hm := hE es[j] (List.getElem_mem hj')
        simpa [List.getElem?_eq_getElem hj'] using hm.2.1
      · intro j b hj hb'
        have hj' : j < es.length := by rwa [hlen] at hj
        have hm := (hE es[j] (List.getElem_mem hj')).2.2 b (by simpa [List.getElem?_eq_getElem hj'] using hb')
        exact ⟨⟨hm.1, hm.2.1⟩, fun e => hm.2.2 (by simp [Value.ownBlock, e])⟩
      · intro i j b hi hj hne hbi hbj
        have hi' : i < es.length := by rwa [hlen] at hi
        have hj' : j < es.length := by rwa [hlen] at hj
        rw [List.getElem?_eq_getElem hi'] at hbi
        rw [List.getElem?_eq_getElem hj'] at hbj
        simp only [Option.map_some, Option.getD_some] at hbi hbj
        have hpw := List.pairwise_iff_getElem.1 hp
        rcases Nat.lt_or_gt_of_ne hne with hlt' | hlt'
        · exact hpw i j hi' hj' hlt' b hbi hbj
        · exact hpw j i hj' hi' hlt' b hbj hbi

theorem AP.block {w : World} {lo : Nat} {T : TypeId} {v : Value} {l : List Tree} (h : AP w lo T v l) : ∀ b, v.ownBlock = some b → lo ≤ b ∧ b < w.heap.size := by
  obtain ⟨es, hl, ho, _, _⟩ := h
  exact fun b hb => ho.lt b hb
theorem AP.form {w : World} {lo : Nat} {T : TypeId} {v : Value} {l : List Tree} (h : AP w lo T v l) : ∃ a cap, v = .slice a l.length cap := by
  obtain ⟨es, rfl, ho, _, _⟩ := h
  rcases ho.2 with ⟨rfl, h0⟩ | ⟨g, cap, cur, rfl, _⟩
  · exact ⟨none, 0, by simp [h0]⟩
  · exact ⟨some ⟨g, 0, none⟩, cap, by rw [List.length_map]⟩

section
variable {P : Program}
theorem wpList_append_lies {ops : Array Oper} {rest : List Oper} {o : Oper} {a : Act} {w : World} {Q : Exit → Act → World → Prop} (hgd : o.guard = none) (s x : Operand) (t : TypeId)
    (ho : o.op = .call { callee := .builtin .append, args := #[s, x], argTypes := #[t, t] })
    (base : Nat) (e : TypeId) (i : TypeInfo) (z : Value) (size bytes : Nat) (ht : P.underlying t = some (.slice e)) (hi : P.info? e = some i) (hz : i.zero = some z)
    (hsize : i.size = size) (hby : i.bytes = bytes) (hzs : z.cells.size = size) (hsz : 0 < size)
    (v : Value) (n : Nat) (xs : List Value) (hs : a.eval s = v) (hown : w.ownsRow base e size v n xs)
    (ad : Addr) (m c : Nat) (news : List Value) (hx : a.eval x = .slice (some ad) m c) (hl : news.length = m * size) (hnews : ∀ j u, news[j]? = some u → w.cell? (ad.add j) = some u) (h1 : ∀ u ∈ news, u.oneCell' = true)
    (hm : 0 < m) (h63 : n + m ≤ maxLen) (hbytes : (n + m) * bytes ≤ 140737488355328) (hbase : base ≤ w.heap.size) (H : Nat) (hH : w.heap.size = H)
    (h : ∀ g cap w', w'.ownsRow base e size (.slice (some ⟨g, 0, none⟩) (n + m) cap) (n + m) (xs ++ news) → w.grownBy w' v.ownBlock → (v.ownBlock = some g ∨ g = H) → g < w'.heap.size → wpList P ops Q rest (a.put o.dst (.slice (some ⟨g, 0, none⟩) (n + m) cap)) w') : wpList P ops Q (o :: rest) a w :=
  wpList_plain hgd fun _ hK => wp_append_lies w s x t ho base e i z size bytes ht hi hz hsize hby hzs hsz v n xs hs hown ad m c news hx hl hnews h1 hm h63 hbytes hbase H hH fun g cap w' h2 h3 h4 h5 => hK _ _ (h g cap w' h2 h3 h4 h5)
end
end Go.Proofs.YtilmhemcpgiikaaGreatDoor
