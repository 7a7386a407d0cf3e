/- Orders: texts of the proof, joined. -/
import Derived.Test.YtilmhemcpgiikaaDoorVCount
import Derived.Test.YtilmhemcpgiikaaDoorVEq
import Derived.Test.YtilmhemcpgiikaaDoorVTo
import Derived.Test.YtilmhemcpgiikaaDoorVLeaf
import Derived.Test.YtilmhemcpgiikaaDoorCDec
import Derived.Test.YtilmhemcpgiikaaDoorCFltOk
import Derived.Test.YtilmhemcpgiikaaDoorCDecNew
import Derived.Deep.RegionWith
import Derived.Deep.RegionHeld3
import Derived.Test.YtilmhemcpgiikaaDoorCFltDec
import Derived.Test.YtilmhemcpgiikaaDoorShelf
import Derived.Deep.AppendLies
import Derived.Lib.RuneBytes
import Derived.Test.YtilmhemcpgiikaaDoorGOrders1
/- ValOk: both judge trees alike. -/
namespace Go.Proofs.YtilmhemcpgiikaaDoor
open Go.Deep Go.ChangeShapes Go.WideShapes Go.ChangeAt Go.RowKit
open Go.ChangeMaps (open_string shut_string)

/-- Are a value's own fields right for its kind? -/
def ownB (t : Tree) : Bool :=
  if t.kind = 1 then ((t.n == 0) && ((t.x == 0) && (t.s.toList.isEmpty && ((t.l.length : Int) == 0)))) else
  if t.kind = 2 then (inB t.n 0 1 && ((t.x == 0) && (t.s.toList.isEmpty && ((t.l.length : Int) == 0)))) else
  if t.kind = 3 then (inB t.n (-1000000000000000) 1000000000000000 && ((t.x == 0) && (t.s.toList.isEmpty && ((t.l.length : Int) == 0)))) else
  if t.kind = 4 then (fltOkF t.n t.x && (t.s.toList.isEmpty && ((t.l.length : Int) == 0))) else
  if t.kind = 5 then (inB t.n 0 2 && ((t.x == 0) && (t.s.toList.isEmpty && ((t.l.length : Int) == 0)))) else
  if t.kind = 6 then (decOkB t.n t.x && (decide (t.x < 0) && (t.s.toList.isEmpty && ((t.l.length : Int) == 0)))) else
  if t.kind = 7 then ((t.n == 0) && ((t.x == 0) && (Lib.validD t.s.data.toList && ((t.l.length : Int) == 0)))) else
  if t.kind = 8 then ((t.n == 0) && ((t.x == 0) && ((t.l.length : Int) == 0))) else
  if t.kind = 9 then ((t.n == 0) && ((t.x == 0) && t.s.toList.isEmpty)) else
  if t.kind = 10 then ((t.n == 0) && ((t.x == 0) && (t.s.toList.isEmpty && ((t.l.length : Int) % 2 == 0)))) else
  if t.kind = 11 then (inB t.n 0 1000000000000000 && ((t.x == 0) && (t.s.toList.isEmpty && ((t.l.length : Int) == 1)))) else
  false
theorem own_1 {t : Tree} (h : t.kind = 1) : ownB t = ((t.n == 0) && ((t.x == 0) && (t.s.toList.isEmpty && ((t.l.length : Int) == 0)))) := by
  unfold ownB
  rw [if_pos h]
theorem own_2 {t : Tree} (h : t.kind = 2) : ownB t = (inB t.n 0 1 && ((t.x == 0) && (t.s.toList.isEmpty && ((t.l.length : Int) == 0)))) := by
  unfold ownB
  rw [if_neg (by omega)]
  rw [if_pos h]
theorem own_3 {t : Tree} (h : t.kind = 3) : ownB t = (inB t.n (-1000000000000000) 1000000000000000 && ((t.x == 0) && (t.s.toList.isEmpty && ((t.l.length : Int) == 0)))) := by
  unfold ownB
  rw [if_neg (by omega)]
  rw [if_neg (by omega)]
  rw [if_pos h]
theorem own_4 {t : Tree} (h : t.kind = 4) : ownB t = (fltOkF t.n t.x && (t.s.toList.isEmpty && ((t.l.length : Int) == 0))) := by
  unfold ownB
  rw [if_neg (by omega)]
  rw [if_neg (by omega)]
  rw [if_neg (by omega)]
  rw [if_pos h]
theorem own_5 {t : Tree} (h : t.kind = 5) : ownB t = (inB t.n 0 2 && ((t.x == 0) && (t.s.toList.isEmpty && ((t.l.length : Int) == 0)))) := by
  unfold ownB
  rw [if_neg (by omega)]
  rw [if_neg (by omega)]
  rw [if_neg (by omega)]
  rw [if_neg (by omega)]
  rw [if_pos h]
theorem own_6 {t : Tree} (h : t.kind = 6) : ownB t = (decOkB t.n t.x && (decide (t.x < 0) && (t.s.toList.isEmpty && ((t.l.length : Int) == 0)))) := by
  unfold ownB
  rw [if_neg (by omega)]
  rw [if_neg (by omega)]
  rw [if_neg (by omega)]
  rw [if_neg (by omega)]
  rw [if_neg (by omega)]
  rw [if_pos h]
theorem own_7 {t : Tree} (h : t.kind = 7) : ownB t = ((t.n == 0) && ((t.x == 0) && (Lib.validD t.s.data.toList && ((t.l.length : Int) == 0)))) := by
  unfold ownB
  rw [if_neg (by omega)]
  rw [if_neg (by omega)]
  rw [if_neg (by omega)]
  rw [if_neg (by omega)]
  rw [if_neg (by omega)]
  rw [if_neg (by omega)]
  rw [if_pos h]
theorem own_8 {t : Tree} (h : t.kind = 8) : ownB t = ((t.n == 0) && ((t.x == 0) && ((t.l.length : Int) == 0))) := by
  unfold ownB
  rw [if_neg (by omega)]
  rw [if_neg (by omega)]
  rw [if_neg (by omega)]
  rw [if_neg (by omega)]
  rw [if_neg (by omega)]
  rw [if_neg (by omega)]
  rw [if_neg (by omega)]
  rw [if_pos h]
theorem own_9 {t : Tree} (h : t.kind = 9) : ownB t = ((t.n == 0) && ((t.x == 0) && t.s.toList.isEmpty)) := by
  unfold ownB
  rw [if_neg (by omega)]
  rw [if_neg (by omega)]
  rw [if_neg (by omega)]
  rw [if_neg (by omega)]
  rw [if_neg (by omega)]
  rw [if_neg (by omega)]
  rw [if_neg (by omega)]
  rw [if_neg (by omega)]
  rw [if_pos h]
theorem own_10 {t : Tree} (h : t.kind = 10) : ownB t = ((t.n == 0) && ((t.x == 0) && (t.s.toList.isEmpty && ((t.l.length : Int) % 2 == 0)))) := by
  unfold ownB
  rw [if_neg (by omega)]
  rw [if_neg (by omega)]
  rw [if_neg (by omega)]
  rw [if_neg (by omega)]
  rw [if_neg (by omega)]
  rw [if_neg (by omega)]
  rw [if_neg (by omega)]
  rw [if_neg (by omega)]
  rw [if_neg (by omega)]
  rw [if_pos h]
theorem own_11 {t : Tree} (h : t.kind = 11) : ownB t = (inB t.n 0 1000000000000000 && ((t.x == 0) && (t.s.toList.isEmpty && ((t.l.length : Int) == 1)))) := by
  unfold ownB
  rw [if_neg (by omega)]
  rw [if_neg (by omega)]
  rw [if_neg (by omega)]
  rw [if_neg (by omega)]
  rw [if_neg (by omega)]
  rw [if_neg (by omega)]
  rw [if_neg (by omega)]
  rw [if_neg (by omega)]
  rw [if_neg (by omega)]
  rw [if_neg (by omega)]
  rw [if_pos h]
theorem own_no {t : Tree} (h : t.kind < 1 ∨ 11 < t.kind) : ownB t = false := by
  unfold ownB
  rw [if_neg (by omega)]
  rw [if_neg (by omega)]
  rw [if_neg (by omega)]
  rw [if_neg (by omega)]
  rw [if_neg (by omega)]
  rw [if_neg (by omega)]
  rw [if_neg (by omega)]
  rw [if_neg (by omega)]
  rw [if_neg (by omega)]
  rw [if_neg (by omega)]
  rw [if_neg (by omega)]

mutual
/-- Is a tree right? -/
def Tree.ok : Tree → Bool | .mk k n x s l => okL l && ownB (.mk k n x s l)
def okL : List Tree → Bool | [] => true | t :: ts => t.ok && okL ts
end
theorem Tree.ok_eq (t : Tree) : t.ok = (okL t.l && ownB t) := by cases t; rw [Tree.ok]; rfl
theorem okL_true : ∀ {l : List Tree}, (∀ j (h : j < l.length), l[j].ok = true) → okL l = true
  | [], _ => by rw [okL]
  | t :: ts, h => by
    rw [okL, okL_true (l := ts) (fun j hj => h (j + 1) (by simpa using hj))]
    have := h 0 (by simp)
    simpa using this
theorem okL_at : ∀ {l : List Tree} {j : Nat} (h : j < l.length), l[j].ok = false → okL l = false
  | t :: ts, 0, _, h => by rw [okL]; have : t.ok = false := h; rw [this]; rfl
  | t :: ts, j + 1, hj, h => by rw [okL, okL_at (l := ts) (j := j) (by simpa using hj) h]; simp
theorem cost_elem {t : Tree} {j : Nat} (h : j < t.l.length) : t.l[j].cost ≤ t.cost := by
  have h1 := Tree.cost_eq t
  have h2 := costL_eq t.l
  have h3 : ∀ l : List Tree, ∀ t' ∈ l, t'.cost ≤ costE l := by
    intro l
    induction l with
    | nil => intro t' h; cases h
    | cons u ts ih =>
      intro t' h
      rw [costE]
      rcases List.mem_cons.1 h with rfl | h
      · omega
      · have := ih t' h; omega
  have := h3 t.l _ (List.getElem_mem h)
  omega
theorem size_cost (t : Tree) : t.s.size ≤ t.cost := by have := Tree.cost_eq t; omega

end Go.Proofs.YtilmhemcpgiikaaDoor
/- Trees that a draw makes while the cursor turns: what is kept, and which are right. -/
namespace Go.Proofs.YtilmhemcpgiikaaDoor
open Go.Deep Go.ChangeShapes Go.WideShapes Go.ChangeAt Go.RowKit

section
variable {w w1 : World} {P lo R j : Nat} {T : TypeId} {v : Value} {l : List Tree}
theorem ap_gr (h : AP w lo T v l) (g : w.grownBy w1 (some P)) (hP : P < lo) : AP w1 lo T v l :=
  h.kept_lo g.size (fun b hb hlt => g.block b hlt (fun e => by cases e; omega))
theorem ap_set (h : AP w lo T v l) (x : Value) (hR : R < lo) : AP (w.setCell ⟨R, j, none⟩ x) lo T v l :=
  h.kept_lo (by simp [World.setCell]) (fun b hb _ => Below.heap_setCell _ _ _ _ (by dsimp only; omega))
theorem ap_alloc (h : AP w lo T v l) (o : Obj) : AP (w.alloc o) lo T v l := h.kept (below1 _ _)
theorem ap_drew (h : AP w lo T v l) : AP w.drew lo T v l := h.kept_lo (Nat.le_refl _) (fun _ _ _ => rfl)
theorem cur_drew (h : Cur w P) : Cur w.drew P := h
theorem gr_drew {w0 : World} (h : w0.grownBy w (some P)) : w0.grownBy w.drew (some P) := ⟨h.os, h.tape, h.output, h.size, h.block⟩
end
section
variable {w : World} {R : Nat} {a b c d e : Value} {T : TypeId}
theorem five_set0 (h : w.heap[R]? = some (.cells #[a, b, c, d, e] T (0, 0))) (v : Value) : (w.setCell ⟨R, 0, none⟩ v).heap[R]? = some (.cells #[v, b, c, d, e] T (0, 0)) := by
  simp [World.setCell, Array.getElem?_modify, h]
theorem five_set1 (h : w.heap[R]? = some (.cells #[a, b, c, d, e] T (0, 0))) (v : Value) : (w.setCell ⟨R, 1, none⟩ v).heap[R]? = some (.cells #[a, v, c, d, e] T (0, 0)) := by
  simp [World.setCell, Array.getElem?_modify, h]
theorem five_set2 (h : w.heap[R]? = some (.cells #[a, b, c, d, e] T (0, 0))) (v : Value) : (w.setCell ⟨R, 2, none⟩ v).heap[R]? = some (.cells #[a, b, v, d, e] T (0, 0)) := by
  simp [World.setCell, Array.getElem?_modify, h]
theorem five_set3 (h : w.heap[R]? = some (.cells #[a, b, c, d, e] T (0, 0))) (v : Value) : (w.setCell ⟨R, 3, none⟩ v).heap[R]? = some (.cells #[a, b, c, v, e] T (0, 0)) := by
  simp [World.setCell, Array.getElem?_modify, h]
theorem five_open (h : w.heap[R]? = some (.cells #[a, b, c, d, e] T (0, 0))) :
    w.cell? ⟨R, 0, none⟩ = some a ∧ w.cell? ⟨R, 1, none⟩ = some b ∧ w.cell? ⟨R, 2, none⟩ = some c ∧ w.cell? ⟨R, 3, none⟩ = some d ∧ w.cell? ⟨R, 4, none⟩ = some e ∧
    w.frozen? ⟨R, 0, none⟩ = false ∧ w.frozen? ⟨R, 1, none⟩ = false ∧ w.frozen? ⟨R, 2, none⟩ = false ∧ w.frozen? ⟨R, 3, none⟩ = false ∧ w.frozen? ⟨R, 4, none⟩ = false := by
  obtain ⟨h0, h1, h2, h3, h4, h5⟩ := five_kept (Below.refl _ _) h
  exact ⟨h0, h1, h2, h3, h4, h5 0, h5 1, h5 2, h5 3, h5 4⟩
end
/-- One more: the element's blocks are new, the row grew. -/
theorem APe.snocG {w0 w w' : World} {lo : Nat} {T : TypeId} {v : Value} {l : List Tree} {es : List Elem} (h : APe w0 lo T v l es) (hsz : w0.heap.size ≤ w.heap.size) (hb0 : ∀ b, lo ≤ b → b < w0.heap.size → w.heap[b]? = w0.heap[b]?) {t : Tree} {u : Value} (fit : Fits t.kind t.n t.x t.s) {hi : Nat} (ho : OSl w T u t.l (Rng w0.heap.size hi)) (hhi : hi ≤ w.heap.size)
    (hlo : lo ≤ w0.heap.size) {g cap : Nat} (hn : w'.ownsRow lo T 5 (.slice (some ⟨g, 0, none⟩) (l.length + 1) cap) (l.length + 1) (es.flatMap Elem.cells ++ cells5 t u))
    (hg : w.grownBy w' v.ownBlock) (hfresh : v.ownBlock = some g ∨ g = w.heap.size) : AP w' lo T (.slice (some ⟨g, 0, none⟩) (l.length + 1) cap) (l ++ [t]) := by
  obtain ⟨hl, hrow0, hE0, hp⟩ := h
  have hel : es.length = l.length := by rw [← hl]; simp
  have hvlt : ∀ b, v.ownBlock = some b → b < w0.heap.size := fun b hb => (hrow0.lt b hb).2
  have hgs := hg.size
  have hgn : ∀ b, b < w.heap.size → v.ownBlock ≠ some b → (Value.slice (some ⟨g, 0, none⟩) (l.length + 1) cap).ownBlock ≠ some b := by
    intro b hb hne
    simp only [Value.ownBlock, ne_eq, Option.some.injEq]
    rcases hfresh with hf | hf
    · intro e; exact hne (by rw [hf, e])
    · omega
  refine ⟨es ++ [⟨t, u, Rng w0.heap.size hi⟩], by simp [hl], ?_, fun e he => ?_, ?_⟩
  · have e1 : (es ++ [⟨t, u, Rng w0.heap.size hi⟩] : List Elem).length = l.length + 1 := by simp [hel]
    rw [e1, List.flatMap_append]
    simpa [Elem.cells] using hn
  · rcases List.mem_append.1 he with he | he
    · obtain ⟨a, c, d⟩ := hE0 e he
      refine ⟨a, c.kept (fun b hS => ?_), fun b hS => ?_⟩
      · obtain ⟨d1, d2, d3⟩ := d b hS
        rw [hg.block b (by omega) (fun e => d3 e.symm), hb0 b d1 d2]
      · obtain ⟨d1, d2, d3⟩ := d b hS
        exact ⟨d1, by omega, hgn b (by omega) d3⟩
    · rw [List.mem_singleton] at he
      subst he
      have hne : ∀ b, Rng w0.heap.size hi b → v.ownBlock ≠ some b := fun b hb e => by have := hvlt b e; have := hb.1; omega
      refine ⟨fit, ho.kept (fun b hS => hg.block b (by have := hS.2; omega) (fun e => hne b hS e.symm)), fun b hS => ?_⟩
      have h1 := hS.1; have h2 := hS.2
      exact ⟨by omega, by omega, hgn b (by omega) (hne b hS)⟩
  · rw [List.pairwise_append]
    refine ⟨hp, by simp, fun p hp' q hq b hb hb' => ?_⟩
    rw [List.mem_singleton] at hq
    subst hq
    have := ((hE0 p hp').2.2 b hb).2.1
    have := hb'.1
    omega



/-- What lay in the blocks from lo on is as it was. -/
def Kp (w0 : World) (lo : Nat) (w : World) : Prop := w0.heap.size ≤ w.heap.size ∧ ∀ b, lo ≤ b → b < w0.heap.size → w.heap[b]? = w0.heap[b]?
section
variable {w0 w w1 : World} {lo P R j : Nat}
theorem Kp.refl (w0 : World) (lo : Nat) : Kp w0 lo w0 := ⟨Nat.le_refl _, fun _ _ _ => rfl⟩
theorem Kp.gr (h : Kp w0 lo w) (g : w.grownBy w1 (some P)) (hP : P < lo) : Kp w0 lo w1 :=
  ⟨Nat.le_trans h.1 g.size, fun b hb hlt => (g.block b (Nat.lt_of_lt_of_le hlt h.1) (fun e => by cases e; omega)).trans (h.2 b hb hlt)⟩
theorem Kp.below (h : Kp w0 lo w) (g : Below w.heap.size w w1) : Kp w0 lo w1 := ⟨Nat.le_trans h.1 g.size, fun b hb hlt => (g.block b (Nat.lt_of_lt_of_le hlt h.1)).trans (h.2 b hb hlt)⟩
theorem Kp.alloc (h : Kp w0 lo w) (o : Obj) : Kp w0 lo (w.alloc o) := h.below (below1 _ _)
theorem Kp.drew (h : Kp w0 lo w) : Kp w0 lo w.drew := h
theorem Kp.set (h : Kp w0 lo w) (x : Value) (hR : R < lo ∨ w0.heap.size ≤ R) : Kp w0 lo (w.setCell ⟨R, j, none⟩ x) :=
  ⟨by simpa [World.setCell] using h.1, fun b hb hlt => (Below.heap_setCell _ _ _ _ (by dsimp only; omega)).trans (h.2 b hb hlt)⟩
theorem Kp.ap {T : TypeId} {v : Value} {l : List Tree} (h : Kp w0 lo w) (a : AP w0 lo T v l) : AP w lo T v l := a.kept_lo h.1 h.2
end
theorem owns_lo {w w' : World} {lo k : Nat} {T : TypeId} {v : Value} {n : Nat} {xs : List Value} (h : w.ownsRow lo T k v n xs) (hb : ∀ b, lo ≤ b → b < w.heap.size → w'.heap[b]? = w.heap[b]?) : w'.ownsRow lo T k v n xs := by
  refine ⟨h.1, ?_⟩
  rcases h.2 with h2 | ⟨g, cap, cur, hv, hg, hh, r⟩
  · exact .inl h2
  · exact .inr ⟨g, cap, cur, hv, hg, by rw [hb g hg (Array.getElem?_eq_some_iff.1 hh).1]; exact hh, r⟩
section
variable {w wr wK Wa w2 : World} {P lo : Nat} {T : TypeId} {v u : Value} {l : List Tree} {es : List Elem} {t : Tree}
/-- The row behind the draw of an element. -/
theorem draw_own (hes : APe wr lo T v l es) (hP : P < lo) (G' : wr.grownBy wK (some P)) (hB : Below wK.heap.size wK Wa) : Wa.ownsRow lo T 5 v l.length (es.flatMap Elem.cells) :=
  owns_lo hes.row (fun b hb hlt => (hB.block b (Nat.lt_of_lt_of_le hlt G'.size)).trans (G'.block b hlt (fun e => by cases e; omega)))
/-- An element drawn and put behind the row. -/
theorem draw_append (hes : APe wr lo T v l es) (hP : P < w.heap.size) (hwlo : w.heap.size ≤ lo) (hlo : lo ≤ wr.heap.size) (GR : w.grownBy wr (some P)) (G' : wr.grownBy wK (some P)) (C' : Cur wK P)
    (hap : AP wK wr.heap.size T u t.l) (fit : Fits t.kind t.n t.x t.s) (hB : Below wK.heap.size wK Wa) {g cap : Nat}
    (hown : w2.ownsRow lo T 5 (.slice (some ⟨g, 0, none⟩) (l.length + 1) cap) (l.length + 1) (es.flatMap Elem.cells ++ cells5 t u)) (hg : Wa.grownBy w2 v.ownBlock) (hf : v.ownBlock = some g ∨ g = Wa.heap.size) :
    AP w2 lo T (.slice (some ⟨g, 0, none⟩) (l.length + 1) cap) (l ++ [t]) ∧ Cur w2 P ∧ w.grownBy w2 (some P) ∧ ∀ b, b < lo → b < wr.heap.size → b ≠ P → w2.heap[b]? = wr.heap[b]? := by
  have hrow : ∀ k, v.ownBlock = some k → lo ≤ k ∧ k < wr.heap.size := fun k hk => hes.row.lt k hk
  have s1 := G'.size; have s2 := hB.size; have s3 := GR.size
  refine ⟨hes.snocG (w := Wa) (by omega) (fun b hb hlt => (hB.block b (by omega)).trans (G'.block b hlt (fun e => by cases e; omega))) fit (hi := wK.heap.size) (hap.osl.kept (fun b hb => hB.block b hb.2)) s2 hlo hown hg hf,
    (C'.below hB).grown hg (fun k hk => by have := hrow k hk; omega), gr_new (gr_on (gr_trans GR G') hB) hg (fun k hk => by have := hrow k hk; omega), fun b hb hlt hne => ?_⟩
  rw [hg.block b (by omega) (fun e => by have := hrow b e.symm; omega), hB.block b (by omega), G'.block b hlt (fun e => hne (by cases e; rfl))]
end
theorem APe.snocE {w0 w w' : World} {lo : Nat} {T : TypeId} {v : Value} {l : List Tree} {es : List Elem} (h : APe w0 lo T v l es) (hsz : w0.heap.size ≤ w.heap.size) (hb0 : ∀ b, lo ≤ b → b < w0.heap.size → w.heap[b]? = w0.heap[b]?) {t : Tree} {u : Value} (fit : Fits t.kind t.n t.x t.s) {S : Nat → Prop} (ho : OSl w T u t.l S) (hSr : ∀ b, S b → w0.heap.size ≤ b ∧ b < w.heap.size)
    (hlo : lo ≤ w0.heap.size) {g cap : Nat} (hn : w'.ownsRow lo T 5 (.slice (some ⟨g, 0, none⟩) (l.length + 1) cap) (l.length + 1) (es.flatMap Elem.cells ++ cells5 t u))
    (hg : w.grownBy w' v.ownBlock) (hfresh : v.ownBlock = some g ∨ g = w.heap.size) : APe w' lo T (.slice (some ⟨g, 0, none⟩) (l.length + 1) cap) (l ++ [t]) (es ++ [⟨t, u, S⟩]) := by
  obtain ⟨hl, hrow0, hE0, hp⟩ := h
  have hel : es.length = l.length := by rw [← hl]; simp
  have hvlt : ∀ b, v.ownBlock = some b → b < w0.heap.size := fun b hb => (hrow0.lt b hb).2
  have hgs := hg.size
  have hgn : ∀ b, b < w.heap.size → v.ownBlock ≠ some b → (Value.slice (some ⟨g, 0, none⟩) (l.length + 1) cap).ownBlock ≠ some b := by
    intro b hb hne
    simp only [Value.ownBlock, ne_eq, Option.some.injEq]
    rcases hfresh with hf | hf
    · intro e; exact hne (by rw [hf, e])
    · omega
  refine ⟨by simp [hl], ?_, fun e he => ?_, ?_⟩
  · have e1 : (es ++ [⟨t, u, S⟩] : List Elem).length = l.length + 1 := by simp [hel]
    rw [e1, List.flatMap_append]
    simpa [Elem.cells] using hn
  · rcases List.mem_append.1 he with he | he
    · obtain ⟨a, c, d⟩ := hE0 e he
      refine ⟨a, c.kept (fun b hS => ?_), fun b hS => ?_⟩
      · obtain ⟨d1, d2, d3⟩ := d b hS
        rw [hg.block b (by omega) (fun e => d3 e.symm), hb0 b d1 d2]
      · obtain ⟨d1, d2, d3⟩ := d b hS
        exact ⟨d1, by omega, hgn b (by omega) d3⟩
    · rw [List.mem_singleton] at he
      subst he
      have hne : ∀ b, S b → v.ownBlock ≠ some b := fun b hb e => by have := hvlt b e; have := (hSr b hb).1; omega
      refine ⟨fit, ho.kept (fun b hS => hg.block b (hSr b hS).2 (fun e => hne b hS e.symm)), fun b hS => ?_⟩
      have h1 := (hSr b hS).1; have h2 := (hSr b hS).2
      exact ⟨by omega, by omega, hgn b (by omega) (hne b hS)⟩
  · rw [List.pairwise_append]
    refine ⟨hp, by simp, fun p hp' q hq b hb hb' => ?_⟩
    rw [List.mem_singleton] at hq
    subst hq
    have := ((hE0 p hp').2.2 b hb).2.1
    have := (hSr b hb').1
    omega




/-- An element drawn and put behind the row, where the blocks from wr's end up to m may turn (the box of the value itself). -/
theorem draw_append2 {wr wK Wa w2 w7 : World} {P lo m : Nat} {T : TypeId} {v u : Value} {l : List Tree} {es : List Elem} {t : Tree} (hes : APe wr lo T v l es) (hP : P < lo) (hlo : lo ≤ wr.heap.size) (G' : wr.grownBy wK (some P)) (hm : wr.heap.size ≤ m)
    (hap : AP wK m T u t.l) (fit : Fits t.kind t.n t.x t.s) (hmK : m ≤ wK.heap.size) (hB : Below wK.heap.size wK Wa) {g cap : Nat}
    (hown : w2.ownsRow lo T 5 (.slice (some ⟨g, 0, none⟩) (l.length + 1) cap) (l.length + 1) (es.flatMap Elem.cells ++ cells5 t u)) (hg : Wa.grownBy w2 v.ownBlock) (hf : v.ownBlock = some g ∨ g = Wa.heap.size)
    (hs : w2.heap.size ≤ w7.heap.size) (h7 : ∀ b, lo ≤ b → b < w2.heap.size → ¬ (wr.heap.size ≤ b ∧ b < m) → w7.heap[b]? = w2.heap[b]?) :
    AP w7 lo T (.slice (some ⟨g, 0, none⟩) (l.length + 1) cap) (l ++ [t]) := by
  have hrow : ∀ k, v.ownBlock = some k → lo ≤ k ∧ k < wr.heap.size := fun k hk => hes.row.lt k hk
  have s1 := G'.size; have s2 := hB.size; have s3 := hg.size
  have key := hes.snocE (w := Wa) (w' := w2) (by omega) (fun b hb hlt => (hB.block b (by omega)).trans (G'.block b hlt (fun e => by cases e; omega))) fit (S := Rng m wK.heap.size) (hap.osl.kept (fun b hb => hB.block b hb.2)) (fun b hb => ⟨by have := hb.1; omega, by have := hb.2; omega⟩) hlo hown hg hf
  obtain ⟨hl, ho, hE, hp⟩ := key
  refine ⟨_, hl, ?_, fun e he => ?_, hp⟩
  · refine ⟨ho.1, ?_⟩
    rcases ho.2 with h2 | ⟨g', cap', cur, hv, hg', hh, r⟩
    · exact .inl h2
    · refine .inr ⟨g', cap', cur, hv, hg', ?_, r⟩
      injection hv with hv1
      injection hv1 with hv2
      injection hv2 with hv3
      rw [h7 g' hg' (Array.getElem?_eq_some_iff.1 hh).1 (fun hc => by
        rcases hf with hf | hf
        · have := hrow g hf; omega
        · omega)]
      exact hh
  · obtain ⟨a, c, d⟩ := hE e he
    refine ⟨a, c.kept (fun b hS => ?_), fun b hS => ⟨(d b hS).1, Nat.lt_of_lt_of_le (d b hS).2.1 hs, (d b hS).2.2⟩⟩
    refine h7 b (d b hS).1 (d b hS).2.1 (fun hc => ?_)
    rcases List.mem_append.1 he with he | he
    · have := ((hes.2.2.1 e he).2.2 b hS).2.1; omega
    · rw [List.mem_singleton] at he
      subst he
      have := hS.1
      omega

/-- Nothing but two blocks has turned. -/
def Ex (R V : Nat) (w w1 : World) : Prop := ∀ b, b ≠ R → b ≠ V → w1.heap[b]? = w.heap[b]?
theorem Ex.refl (R V : Nat) (w : World) : Ex R V w w := fun _ _ _ => rfl
theorem Ex.set0 {R V j : Nat} {w w1 : World} (h : Ex R V w w1) (x : Value) : Ex R V w (w1.setCell ⟨R, j, none⟩ x) := fun b h1 h2 => (Below.heap_setCell _ _ _ _ (by dsimp only; exact h1)).trans (h b h1 h2)
theorem Ex.set1 {R V j : Nat} {w w1 : World} (h : Ex R V w w1) (x : Value) : Ex R V w (w1.setCell ⟨V, j, none⟩ x) := fun b h1 h2 => (Below.heap_setCell _ _ _ _ (by dsimp only; exact h2)).trans (h b h1 h2)

theorem Ex.out {R V lo r m : Nat} {w w1 : World} (h : Ex R V w w1) (hR : R < lo) (hV : r ≤ V ∧ V < m) : ∀ b, lo ≤ b → b < w.heap.size → ¬ (r ≤ b ∧ b < m) → w1.heap[b]? = w.heap[b]? :=
  fun b hb _ hn => h b (by omega) (fun e => hn (by omega))
theorem emp_nil : (({ data := #[] } : ByteArray).toList.isEmpty) = true := by unfold ByteArray.toList ByteArray.toList.loop; simp [ByteArray.size]
theorem fits_of {k n x : Int} {s : ByteArray} (hk : wf6 k) (hn : wf6 n) (hx : wf6 x) (hs : s.size ≤ 9223372036854775807) : Fits k n x s := ⟨hk, hn, hx, hs⟩
section
variable {n x : Int} {s : ByteArray} {l : List Tree}
theorem ok_null : (Tree.mk 1 0 0 { data := #[] } []).ok = true := by rw [Tree.ok, okL]; simp [ownB]
theorem ok_bool (h : 0 ≤ n ∧ n ≤ 1) : (Tree.mk 2 n 0 { data := #[] } []).ok = true := by rw [Tree.ok, okL]; simp [ownB, inB_mk h]
theorem ok_int (h : -1000000000000000 ≤ n ∧ n ≤ 1000000000000000) : (Tree.mk 3 n 0 { data := #[] } []).ok = true := by rw [Tree.ok, okL]; simp [ownB, inB_mk h]
theorem ok_flt (h : fltOkF n x = true) : (Tree.mk 4 n x { data := #[] } []).ok = true := by rw [Tree.ok, okL]; simp [ownB, h]
theorem ok_odd (h : 0 ≤ n ∧ n ≤ 2) : (Tree.mk 5 n 0 { data := #[] } []).ok = true := by rw [Tree.ok, okL]; simp [ownB, inB_mk h]
theorem ok_dec (h : decOkB n x = true) (hx : x < 0) : (Tree.mk 6 n x { data := #[] } []).ok = true := by rw [Tree.ok, okL]; simp [ownB, h, hx]
theorem ok_text (h : Lib.validD s.data.toList = true) : (Tree.mk 7 0 0 s []).ok = true := by rw [Tree.ok, okL]; simp [ownB, h]
theorem ok_bytes : (Tree.mk 8 0 0 s []).ok = true := by rw [Tree.ok, okL]; simp [ownB]
theorem ok_list (h : okL l = true) : (Tree.mk 9 0 0 { data := #[] } l).ok = true := by rw [Tree.ok, h]; simp [ownB]
theorem ok_map (h : okL l = true) (h2 : l.length % 2 = 0) : (Tree.mk 10 0 0 { data := #[] } l).ok = true := by
  rw [Tree.ok, h]
  have : ((l.length : Int) % 2 == 0) = true := by simp; omega
  simp [ownB, this]
theorem ok_tag (h : 0 ≤ n ∧ n ≤ 1000000000000000) {t : Tree} (ht : t.ok = true) : (Tree.mk 11 n 0 { data := #[] } [t]).ok = true := by rw [Tree.ok, okL, okL, ht]; simp [ownB, inB_mk h]
end
theorem okL_snoc : ∀ (l : List Tree) (t : Tree), okL (l ++ [t]) = (okL l && t.ok)
  | [], t => by rw [List.nil_append, okL, okL]; cases t.ok <;> rfl
  | u :: l, t => by rw [List.cons_append, okL, okL, okL_snoc l t, Bool.and_assoc]
theorem costL_snoc (l : List Tree) (t : Tree) : costL (l ++ [t]) = costL l + 1 + t.cost := by
  rw [costL_eq, costL_eq, costE_snoc, List.length_append]; simp; omega
end Go.Proofs.YtilmhemcpgiikaaDoor
/- The draws of decimal numbers. -/
namespace Go.Proofs.YtilmhemcpgiikaaDoor
open Go.Deep Go.ChangeShapes Go.WideShapes Go.ChangeAt Go.RowKit

/-- What DecNew gives is valid. -/
theorem dnF_ok (n x : Int) : decOkB (decNewF n x).1 (decNewF n x).2.1 = true := by
  have z : decOkB 0 0 = true := decOkB_iff.2 (.inl ⟨rfl, by decide, by decide⟩)
  unfold decNewF
  split
  · split
    · exact z
    · split
      · split
        · assumption
        · exact z
      · split
        · rename_i h; exact decOkB_iff.2 (.inl ⟨rfl, h⟩)
        · exact z
  · exact z
theorem dec_rng {n x : Int} (h : decOkB n x = true) : -100000000000000000 < n ∧ n < 100000000000000000 ∧ -16 ≤ x ∧ x ≤ 0 := by
  have := decOkB_iff.1 h; omega
set_option maxRecDepth 100000 in
set_option maxHeartbeats 4000000 in
theorem l4Draw_c (P : Nat) (w : World) (hC : Cur w P) :
    Calls Tryd.prog 104 #[.pointer (some ⟨P, 0, none⟩)] w fun e w' => ∃ n x : Int, e = .returned (.agg #[.int .i64 n, .int .i64 x]) ∧ decOkB n x = true ∧ Cur w' P ∧ w.grownBy w' (some P) := by
  have HC := Lib.hid hC; clear hC
  have HP := Lib.hid HC.out.lt
  have LER := Lib.hid (Nat.le_refl w.heap.size)
  go_enter Tryd.func104, Tryd.ntmps104
  go_wp2_with fail
  go_loopw [3] (fun i wr => ∃ j : Nat, j ≤ 6 ∧ i = .int .i64 j ∧ Cur wr P ∧ w.grownBy wr (some P) ∧ wr.heap[w.heap.size]? = some (.cells #[.int .i64 0, .int .i64 0] 42 (0, 0))) (fun i _ => 6 - (intOf i).toNat)
  case atStart => exact ⟨0, by omega, rfl, Cur.alloc HC.out _, gr_alloc gr_refl _, heap_alloc_new _ _⟩
  case round =>
    obtain ⟨j, hj, rfl, hcur, hgr, hxr⟩ := hrel
    have CUR := Lib.hid hcur; clear hcur
    have G0 := Lib.hid hgr; clear hgr
    have XR := Lib.hid hxr; clear hxr
    by_cases hjl : j < 6
    · have hjj := hjl
      go_wp2_with fail
      refine (l1Signed_c P _ (by exact CUR.out)).mono ?_
      rintro _ w1 ⟨n, rfl, hn', C', G'⟩
      have Hn := Lib.hid hn'; clear hn'
      have C1 := Lib.hid C'; clear C'
      have XR1 : Hid (w1.heap[w.heap.size]? = some (.cells #[.int .i64 0, .int .i64 0] 42 (0, 0))) := Lib.hid (box_gr XR.out G' (by have h1 := HP.out; have h2 := LER.out; omega))
      have G1 := Lib.hid (gr_trans G0.out G')
      clear G'
      go_wp2_with fail
      refine (l1Below_c P 17 _ (by exact C1.out) (by omega)).mono ?_
      rintro _ w2 ⟨x, rfl, x0, x1, -, -, C', G'⟩
      have C2 := Lib.hid C'; clear C'
      have XR2 : Hid (w2.heap[w.heap.size]? = some (.cells #[.int .i64 0, .int .i64 0] 42 (0, 0))) := Lib.hid (box_gr XR1.out G' (by have h1 := HP.out; have h2 := LER.out; omega))
      have G2 := Lib.hid (gr_trans G1.out G')
      clear G'
      replace x1 := x1 (by omega)
      go_wp2_with fail
      refine (decNew_spec n (-x) _ (by have := Hn.out; omega) (by have := Hn.out; omega)).mono ?_
      rintro _ w3 ⟨rfl, b'⟩
      have C3 := Lib.hid (Cur.below C2.out b')
      have XR3 : Hid (w3.heap[w.heap.size]? = some (.cells #[.int .i64 0, .int .i64 0] 42 (0, 0))) := Lib.hid (box_below XR2.out b')
      have G3 := Lib.hid (gr_on G2.out b')
      clear b'
      have HOK := Lib.hid (dnF_ok n (-x))
      obtain ⟨⟨A, B, Q⟩, hQ⟩ : ∃ z : Int × Int × Bool, decNewF n (-x) = z := ⟨_, rfl⟩
      rw [hQ] at HOK ⊢
      clear hQ
      have HOK2 : Hid (decOkB A B = true) := HOK; clear HOK
      dsimp only
      cases Q with
      | true =>
        have Rl := box_lt XR3.out
        obtain ⟨R0, R1, Rf0, Rf1⟩ := box_two XR3.out
        go_wp2_with fail
        refine bodyPost_ret (v := .agg #[.int .i64 A, .int .i64 B]) (by simp [results, Tryd.results104, go_sem, Rl, R0, R1]) rfl ⟨A, B, rfl, HOK2.out, ?_, ?_⟩
        · repeat (first | exact C3.out | refine Cur.set ?_ _ (by have h1 := HP.out; have h2 := G1.out.size; have h3 := G2.out.size; have h4 := G3.out.size; omega) | refine Cur.alloc ?_ _)
        · repeat (first | exact G3.out | refine gr_sets ?_ _ (by have h2 := G1.out.size; have h3 := G2.out.size; have h4 := G3.out.size; omega) | refine gr_alloc ?_ _)
      | false =>
        go_wp2_with fail
        go_roundw
        case rel => exact ⟨j + 1, by omega, by go_num, C3.out.alloc _, gr_alloc G3.out _, box_alloc XR3.out _⟩
        case measure => simp [intOf]; omega
    · obtain rfl : j = 6 := by omega
      have Rl := box_lt XR.out
      obtain ⟨R0, R1, Rf0, Rf1⟩ := box_two XR.out
      go_wp2_with fail
      refine bodyPost_ret (v := .agg #[.int .i64 15, .int .i64 (-1)]) (by simp [results, Tryd.results104, go_sem, R0, R1]) rfl ⟨15, -1, rfl, decOkB_iff.2 (.inr (by decide)), ?_, ?_⟩
      · repeat (first | exact CUR.out | refine Cur.set ?_ _ (by have h1 := HP.out; omega) | refine Cur.alloc ?_ _)
      · repeat (first | exact G0.out | refine gr_sets ?_ _ (Nat.le_refl _) | refine gr_alloc ?_ _)
set_option maxRecDepth 100000 in
set_option maxHeartbeats 4000000 in
theorem l4Any_c (P : Nat) (w : World) (hC : Cur w P) :
    Calls Tryd.prog 93 #[.pointer (some ⟨P, 0, none⟩)] w fun e w' => ∃ n x : Int, e = .returned (.agg #[.int .i64 n, .int .i64 x]) ∧ (wf6 (n) ∧ wf6 (x)) ∧ Cur w' P ∧ w.grownBy w' (some P) := by
  have HC := Lib.hid hC; clear hC
  have HP := Lib.hid HC.out.lt
  have LER := Lib.hid (Nat.le_refl w.heap.size)
  go_enter Tryd.func93, Tryd.ntmps93
  go_wp2_with fail
  refine (l4Draw_c P _ (by exact (Cur.alloc HC.out _))).mono ?_
  rintro _ w1 ⟨n, x, rfl, hn', C', G'⟩
  have Hn := Lib.hid hn'; clear hn'
  have C1 := Lib.hid C'; clear C'
  have XR1 : Hid (w1.heap[w.heap.size]? = some (.cells #[.int .i64 0, .int .i64 0] 42 (0, 0))) := Lib.hid (box_gr (heap_alloc_new _ _) G' (by have h1 := HP.out; have h2 := LER.out; omega))
  have G1 := Lib.hid (gr_trans (gr_alloc (gr_refl (w := w) (P := P)) _) G')
  clear G'
  have bdx : wf6 n ∧ wf6 x := by have h := Hn.out; have := dec_rng h; unfold wf6; omega
  have BDX := Lib.hid bdx; clear bdx
  have LED := Lib.hid G1.out.size
  have hRD := box_lt XR1.out
  have NERD := Lib.hid (Nat.ne_of_lt hRD)
  have NEDR := Lib.hid (Nat.ne_of_gt hRD)
  go_wp2_with fail
  refine (l1Below_c P 8 _ (by exact (Cur.alloc C1.out _)) (by omega)).mono ?_
  rintro _ w2 ⟨y, rfl, y0, y1, -, -, C', G'⟩
  have C2 := Lib.hid C'; clear C'
  have XR2 : Hid (w2.heap[w.heap.size]? = some (.cells #[.int .i64 0, .int .i64 0] 42 (0, 0))) := Lib.hid (box_gr (box_alloc XR1.out _) G' (by have h1 := HP.out; have h2 := LER.out; omega))
  have XD2 : Hid (w2.heap[w1.heap.size]? = some (.cells #[.int .i64 n, .int .i64 x] 42 (0, 0))) := Lib.hid (box_gr (heap_alloc_new _ _) G' (by have h1 := HP.out; have h2 := LED.out; omega))
  have G2 := Lib.hid (gr_trans (gr_alloc G1.out _) G')
  clear G'
  replace y1 := y1 (by omega)
  have hDD := box_lt XD2.out
  by_cases hy0 : y = 0
  · subst hy0
    go_wp2_with fail
    refine (l1Raw_c P _ (by exact C2.out)).mono ?_
    rintro _ w3 ⟨m, rfl, hm', C', G'⟩
    have Hm := Lib.hid hm'; clear hm'
    have C3 := Lib.hid C'; clear C'
    have XR3 : Hid (w3.heap[w.heap.size]? = some (.cells #[.int .i64 0, .int .i64 0] 42 (0, 0))) := Lib.hid (box_gr XR2.out G' (by have h1 := HP.out; have h2 := LER.out; omega))
    have XD3 : Hid (w3.heap[w1.heap.size]? = some (.cells #[.int .i64 n, .int .i64 x] 42 (0, 0))) := Lib.hid (box_gr XD2.out G' (by have h1 := HP.out; have h2 := LED.out; omega))
    have G3 := Lib.hid (gr_trans G2.out G')
    clear G'
    have bdv : wf6 (m) ∧ wf6 (x) := by have h1 := Hm.out; have h2 := BDX.out; unfold wf6 at *; omega
    have BDV := Lib.hid bdv; clear bdv
    have Rl := box_lt XR3.out
    obtain ⟨R0, R1, Rf0, Rf1⟩ := box_two XR3.out
    have Dl := box_lt XD3.out
    obtain ⟨D0, D1, Df0, Df1⟩ := box_two XD3.out
    go_wp2_with fail
    refine bodyPost_ret (v := .agg #[.int .i64 (m), .int .i64 (x)]) (by simp [results, Tryd.results93, go_sem, R0, R1]) rfl ⟨_, _, rfl, BDV.out, ?_, ?_⟩
    · repeat (first | exact C3.out | refine Cur.set ?_ _ (by have h1 := HP.out; have h2 := G1.out.size; have h3 := G2.out.size; have h4 := G3.out.size; omega) | refine Cur.alloc ?_ _)
    · repeat (first | exact G3.out | refine gr_sets ?_ _ (by have h2 := G1.out.size; have h3 := G2.out.size; have h4 := G3.out.size; omega) | refine gr_alloc ?_ _)
  by_cases hy1 : y = 1
  · subst hy1
    go_wp2_with fail
    refine (l1Int_c P [-17, -16, 0, 1] w2.heap.size 4 _ (by exact (Cur.alloc C2.out _)) (rd_laid w2 _ _) (Nat.ne_of_gt (Cur.lt C2.out)) (by simp) (by simp) (by simp)).mono ?_
    rintro _ w3 ⟨m, rfl, hm', C', G'⟩
    have Hm := Lib.hid hm'; clear hm'
    have C3 := Lib.hid C'; clear C'
    have XR3 : Hid (w3.heap[w.heap.size]? = some (.cells #[.int .i64 0, .int .i64 0] 42 (0, 0))) := Lib.hid (box_gr (box_alloc XR2.out _) G' (by have h1 := HP.out; have h2 := LER.out; omega))
    have XD3 : Hid (w3.heap[w1.heap.size]? = some (.cells #[.int .i64 n, .int .i64 x] 42 (0, 0))) := Lib.hid (box_gr (box_alloc XD2.out _) G' (by have h1 := HP.out; have h2 := LED.out; omega))
    have G3 := Lib.hid (gr_trans (gr_alloc G2.out _) G')
    clear G'
    have bdv : wf6 (n) ∧ wf6 (m) := by have h1 := Hm.out; have h2 := BDX.out; simp at h1; unfold wf6 at *; omega
    have BDV := Lib.hid bdv; clear bdv
    have Rl := box_lt XR3.out
    obtain ⟨R0, R1, Rf0, Rf1⟩ := box_two XR3.out
    have Dl := box_lt XD3.out
    obtain ⟨D0, D1, Df0, Df1⟩ := box_two XD3.out
    go_wp2_with fail
    refine bodyPost_ret (v := .agg #[.int .i64 (n), .int .i64 (m)]) (by simp [results, Tryd.results93, go_sem, R0, R1]) rfl ⟨_, _, rfl, BDV.out, ?_, ?_⟩
    · repeat (first | exact C3.out | refine Cur.set ?_ _ (by have h1 := HP.out; have h2 := G1.out.size; have h3 := G2.out.size; have h4 := G3.out.size; omega) | refine Cur.alloc ?_ _)
    · repeat (first | exact G3.out | refine gr_sets ?_ _ (by have h2 := G1.out.size; have h3 := G2.out.size; have h4 := G3.out.size; omega) | refine gr_alloc ?_ _)
  by_cases hy2 : y = 2
  · subst hy2
    go_wp2_with fail
    refine (l1Below_c P 9 _ (by exact C2.out) (by omega)).mono ?_
    rintro _ w3 ⟨m, rfl, m0, m1, -, -, C', G'⟩
    have C3 := Lib.hid C'; clear C'
    have XR3 : Hid (w3.heap[w.heap.size]? = some (.cells #[.int .i64 0, .int .i64 0] 42 (0, 0))) := Lib.hid (box_gr XR2.out G' (by have h1 := HP.out; have h2 := LER.out; omega))
    have XD3 : Hid (w3.heap[w1.heap.size]? = some (.cells #[.int .i64 n, .int .i64 x] 42 (0, 0))) := Lib.hid (box_gr XD2.out G' (by have h1 := HP.out; have h2 := LED.out; omega))
    have G3 := Lib.hid (gr_trans G2.out G')
    clear G'
    replace m1 := m1 (by omega)
    have bdv : wf6 (10 * m) ∧ wf6 (x) := by have h2 := BDX.out; unfold wf6 at *; omega
    have BDV := Lib.hid bdv; clear bdv
    have Rl := box_lt XR3.out
    obtain ⟨R0, R1, Rf0, Rf1⟩ := box_two XR3.out
    have Dl := box_lt XD3.out
    obtain ⟨D0, D1, Df0, Df1⟩ := box_two XD3.out
    go_wp2_with fail
    refine bodyPost_ret (v := .agg #[.int .i64 (10 * m), .int .i64 (x)]) (by simp [results, Tryd.results93, go_sem, R0, R1]) rfl ⟨_, _, rfl, BDV.out, ?_, ?_⟩
    · repeat (first | exact C3.out | refine Cur.set ?_ _ (by have h1 := HP.out; have h2 := G1.out.size; have h3 := G2.out.size; have h4 := G3.out.size; omega) | refine Cur.alloc ?_ _)
    · repeat (first | exact G3.out | refine gr_sets ?_ _ (by have h2 := G1.out.size; have h3 := G2.out.size; have h4 := G3.out.size; omega) | refine gr_alloc ?_ _)
  have n0 : (y == 0) = false := by simpa using hy0
  have n1 : (y == 1) = false := by simpa using hy1
  have n2 : (y == 2) = false := by simpa using hy2
  have Rl := box_lt XR2.out
  obtain ⟨R0, R1, Rf0, Rf1⟩ := box_two XR2.out
  have Dl := box_lt XD2.out
  obtain ⟨D0, D1, Df0, Df1⟩ := box_two XD2.out
  go_wp2_with fail
  refine bodyPost_ret (v := .agg #[.int .i64 n, .int .i64 x]) (by simp [results, Tryd.results93, go_sem, R0, R1]) rfl ⟨_, _, rfl, BDX.out, ?_, ?_⟩
  · repeat (first | exact C2.out | refine Cur.set ?_ _ (by have h1 := HP.out; have h2 := G1.out.size; have h3 := G2.out.size; omega) | refine Cur.alloc ?_ _)
  · repeat (first | exact G2.out | refine gr_sets ?_ _ (by have h2 := G1.out.size; have h3 := G2.out.size; omega) | refine gr_alloc ?_ _)
end Go.Proofs.YtilmhemcpgiikaaDoor
/- The draws of numbers by halves. -/
namespace Go.Proofs.YtilmhemcpgiikaaDoor
open Go.Deep Go.ChangeShapes Go.WideShapes Go.ChangeAt Go.RowKit

theorem flt_rng {m e : Int} (h : fltOkF m e = true) : wf6 m ∧ wf6 e := by
  unfold fltOkF at h
  unfold wf6
  split at h
  · have := eq_of_beq h; omega
  · have := of_decide_eq_true h; omega
theorem flt_ok1 {m e : Int} (h1 : m % 2 = 1) (h2 : -65535 ≤ m ∧ m ≤ 65535) (h3 : -16 ≤ e ∧ e ≤ 30) : fltOkF m e = true := by
  unfold fltOkF
  rw [if_neg (by omega)]
  exact decide_eq_true ⟨h1, h2.1, h2.2, h3.1, .inl h3.2⟩
/-- FltDec gives a valid number. -/
theorem fdF_ok (m e : Int) : decOkB (fltDecF m e).1 (fltDecF m e).2 = true := by
  have z : decOkB 0 0 = true := decOkB_iff.2 (.inl ⟨rfl, by decide, by decide⟩)
  unfold fltDecF
  split
  · rename_i hk
    split
    · rename_i h; exact decOkB_iff.2 (.inl ⟨rfl, (fltOkF_range hk).2.2.2.2 h⟩)
    · exact dnF_ok _ _
  · exact z
set_option maxRecDepth 100000 in
set_option maxHeartbeats 4000000 in
theorem l5Draw_c (P : Nat) (w : World) (hC : Cur w P) :
    Calls Tryd.prog 110 #[.pointer (some ⟨P, 0, none⟩)] w fun e w' => ∃ m x : Int, e = .returned (.agg #[.int .i64 m, .int .i64 x]) ∧ fltOkF m x = true ∧ Cur w' P ∧ w.grownBy w' (some P) := by
  have HC := Lib.hid hC; clear hC
  have HP := Lib.hid HC.out.lt
  have LER := Lib.hid (Nat.le_refl w.heap.size)
  go_enter Tryd.func110, Tryd.ntmps110
  go_wp2_with fail
  refine (l1Below_c P 32767 _ (by exact (Cur.alloc HC.out _)) (by omega)).mono ?_
  rintro _ w1 ⟨k, rfl, k0, k1, -, -, C', G'⟩
  have C1 := Lib.hid C'; clear C'
  have XR1 : Hid (w1.heap[w.heap.size]? = some (.cells #[.int .i64 0, .int .i64 0] 56 (0, 0))) := Lib.hid (box_gr (heap_alloc_new _ _) G' (by have h1 := HP.out; have h2 := LER.out; omega))
  have G1 := Lib.hid (gr_trans (gr_alloc (gr_refl (w := w) (P := P)) _) G')
  clear G'
  replace k1 := k1 (by omega)
  go_wp2_with fail
  refine (l1Int_c P [0, 1, 3, 5, 255, 32767, 65535, 1 + 2 * k] w1.heap.size 8 _ (by exact (Cur.alloc C1.out _)) (rd_laid w1 _ _) (Nat.ne_of_gt (Cur.lt C1.out)) (by simp) (by simp) (by simp)).mono ?_
  rintro _ w2 ⟨m, rfl, hm', C', G'⟩
  have Hm := Lib.hid hm'; clear hm'
  have C2 := Lib.hid C'; clear C'
  have XR2 : Hid (w2.heap[w.heap.size]? = some (.cells #[.int .i64 0, .int .i64 0] 56 (0, 0))) := Lib.hid (box_gr (box_alloc XR1.out _) G' (by have h1 := HP.out; have h2 := LER.out; omega))
  have G2 := Lib.hid (gr_trans (gr_alloc G1.out _) G')
  clear G'
  have hm : 0 ≤ m ∧ m ≤ 65535 ∧ (m = 0 ∨ m % 2 = 1) := by have h := Hm.out; simp at h; omega
  clear Hm
  go_wp2_with fail
  refine (l1Below_c P 47 _ (by exact C2.out) (by omega)).mono ?_
  rintro _ w3 ⟨j, rfl, j0, j1, -, -, C', G'⟩
  have C3 := Lib.hid C'; clear C'
  have XR3 : Hid (w3.heap[w.heap.size]? = some (.cells #[.int .i64 0, .int .i64 0] 56 (0, 0))) := Lib.hid (box_gr XR2.out G' (by have h1 := HP.out; have h2 := LER.out; omega))
  have G3 := Lib.hid (gr_trans G2.out G')
  clear G'
  replace j1 := j1 (by omega)
  go_wp2_with fail
  refine (l1Int_c P [0, 0, 1, -1, -16, 30, j - 16] w3.heap.size 7 _ (by exact (Cur.alloc C3.out _)) (rd_laid w3 _ _) (Nat.ne_of_gt (Cur.lt C3.out)) (by simp) (by simp) (by simp)).mono ?_
  rintro _ w4 ⟨e, rfl, he', C', G'⟩
  have He := Lib.hid he'; clear he'
  have C4 := Lib.hid C'; clear C'
  have XR4 : Hid (w4.heap[w.heap.size]? = some (.cells #[.int .i64 0, .int .i64 0] 56 (0, 0))) := Lib.hid (box_gr (box_alloc XR3.out _) G' (by have h1 := HP.out; have h2 := LER.out; omega))
  have G4 := Lib.hid (gr_trans (gr_alloc G3.out _) G')
  clear G'
  have he : -16 ≤ e ∧ e ≤ 30 := by have h := He.out; simp at h; omega
  clear He
  by_cases h0 : m = 0
  · subst h0
    go_wp2_with fail
    refine (l1Once_c P 3 _ (by exact C4.out) (by omega)).mono ?_
    rintro _ w5 ⟨t, rfl, C', G'⟩
    have C5 := Lib.hid C'; clear C'
    have XR5 : Hid (w5.heap[w.heap.size]? = some (.cells #[.int .i64 0, .int .i64 0] 56 (0, 0))) := Lib.hid (box_gr XR4.out G' (by have h1 := HP.out; have h2 := LER.out; omega))
    have G5 := Lib.hid (gr_trans G4.out G')
    clear G'
    cases t with
    | true =>
      have Rl := box_lt XR5.out
      obtain ⟨R0, R1, Rf0, Rf1⟩ := box_two XR5.out
      go_wp2_with fail
      refine bodyPost_ret (v := .agg #[.int .i64 (0), .int .i64 (0)]) (by simp [results, Tryd.results110, go_sem, R0, R1]) rfl ⟨_, _, rfl, by decide, ?_, ?_⟩
      · repeat (first | exact C5.out | refine Cur.set ?_ _ (by have h1 := HP.out; have h2 := G1.out.size; have h3 := G2.out.size; have h4 := G3.out.size; have h5 := G4.out.size; have h6 := G5.out.size; omega) | refine Cur.alloc ?_ _)
      · repeat (first | exact G5.out | refine gr_sets ?_ _ (by have h2 := G1.out.size; have h3 := G2.out.size; have h4 := G3.out.size; have h5 := G4.out.size; have h6 := G5.out.size; omega) | refine gr_alloc ?_ _)
    | false =>
      have Rl := box_lt XR5.out
      obtain ⟨R0, R1, Rf0, Rf1⟩ := box_two XR5.out
      go_wp2_with fail
      refine bodyPost_ret (v := .agg #[.int .i64 (0), .int .i64 (0)]) (by simp [results, Tryd.results110, go_sem, R0, R1]) rfl ⟨_, _, rfl, by decide, ?_, ?_⟩
      · repeat (first | exact C5.out | refine Cur.set ?_ _ (by have h1 := HP.out; have h2 := G1.out.size; have h3 := G2.out.size; have h4 := G3.out.size; have h5 := G4.out.size; have h6 := G5.out.size; omega) | refine Cur.alloc ?_ _)
      · repeat (first | exact G5.out | refine gr_sets ?_ _ (by have h2 := G1.out.size; have h3 := G2.out.size; have h4 := G3.out.size; have h5 := G4.out.size; have h6 := G5.out.size; omega) | refine gr_alloc ?_ _)
  · have h0b : (m == 0) = false := by simpa using h0
    by_cases h1 : m = 1
    · subst h1
      go_wp2_with fail
      refine (l1Once_c P 2 _ (by exact C4.out) (by omega)).mono ?_
      rintro _ w5 ⟨q, rfl, C', G'⟩
      have C5 := Lib.hid C'; clear C'
      have XR5 : Hid (w5.heap[w.heap.size]? = some (.cells #[.int .i64 0, .int .i64 0] 56 (0, 0))) := Lib.hid (box_gr XR4.out G' (by have h1 := HP.out; have h2 := LER.out; omega))
      have G5 := Lib.hid (gr_trans G4.out G')
      clear G'
      cases q with
      | true =>
        go_wp2_with fail
        refine (l1Int_c P [31, 45] w5.heap.size 2 _ (by exact (Cur.alloc C5.out _)) (rd_laid w5 _ _) (Nat.ne_of_gt (Cur.lt C5.out)) (by simp) (by simp) (by simp)).mono ?_
        rintro _ w6 ⟨g, rfl, hg', C', G'⟩
        have Hg := Lib.hid hg'; clear hg'
        have C6 := Lib.hid C'; clear C'
        have XR6 : Hid (w6.heap[w.heap.size]? = some (.cells #[.int .i64 0, .int .i64 0] 56 (0, 0))) := Lib.hid (box_gr (box_alloc XR5.out _) G' (by have h1 := HP.out; have h2 := LER.out; omega))
        have G6 := Lib.hid (gr_trans (gr_alloc G5.out _) G')
        clear G'
        have hg : g = 31 ∨ g = 45 := by have h := Hg.out; simp at h; omega
        clear Hg
        go_wp2_with fail
        refine (l1Once_c P 3 _ (by exact C6.out) (by omega)).mono ?_
        rintro _ w7 ⟨t, rfl, C', G'⟩
        have C7 := Lib.hid C'; clear C'
        have XR7 : Hid (w7.heap[w.heap.size]? = some (.cells #[.int .i64 0, .int .i64 0] 56 (0, 0))) := Lib.hid (box_gr XR6.out G' (by have h1 := HP.out; have h2 := LER.out; omega))
        have G7 := Lib.hid (gr_trans G6.out G')
        clear G'
        cases t with
        | true =>
          have Rl := box_lt XR7.out
          obtain ⟨R0, R1, Rf0, Rf1⟩ := box_two XR7.out
          go_wp2_with fail
          refine bodyPost_ret (v := .agg #[.int .i64 (-1), .int .i64 (g)]) (by simp [results, Tryd.results110, go_sem, R0, R1]) rfl ⟨_, _, rfl, by rcases hg with rfl | rfl <;> decide, ?_, ?_⟩
          · repeat (first | exact C7.out | refine Cur.set ?_ _ (by have h1 := HP.out; have h2 := G1.out.size; have h3 := G2.out.size; have h4 := G3.out.size; have h5 := G4.out.size; have h6 := G5.out.size; have h7 := G6.out.size; have h8 := G7.out.size; omega) | refine Cur.alloc ?_ _)
          · repeat (first | exact G7.out | refine gr_sets ?_ _ (by have h2 := G1.out.size; have h3 := G2.out.size; have h4 := G3.out.size; have h5 := G4.out.size; have h6 := G5.out.size; have h7 := G6.out.size; have h8 := G7.out.size; omega) | refine gr_alloc ?_ _)
        | false =>
          have Rl := box_lt XR7.out
          obtain ⟨R0, R1, Rf0, Rf1⟩ := box_two XR7.out
          go_wp2_with fail
          refine bodyPost_ret (v := .agg #[.int .i64 (1), .int .i64 (g)]) (by simp [results, Tryd.results110, go_sem, R0, R1]) rfl ⟨_, _, rfl, by rcases hg with rfl | rfl <;> decide, ?_, ?_⟩
          · repeat (first | exact C7.out | refine Cur.set ?_ _ (by have h1 := HP.out; have h2 := G1.out.size; have h3 := G2.out.size; have h4 := G3.out.size; have h5 := G4.out.size; have h6 := G5.out.size; have h7 := G6.out.size; have h8 := G7.out.size; omega) | refine Cur.alloc ?_ _)
          · repeat (first | exact G7.out | refine gr_sets ?_ _ (by have h2 := G1.out.size; have h3 := G2.out.size; have h4 := G3.out.size; have h5 := G4.out.size; have h6 := G5.out.size; have h7 := G6.out.size; have h8 := G7.out.size; omega) | refine gr_alloc ?_ _)
      | false =>
        go_wp2_with fail
        refine (l1Once_c P 3 _ (by exact C5.out) (by omega)).mono ?_
        rintro _ w6 ⟨t, rfl, C', G'⟩
        have C6 := Lib.hid C'; clear C'
        have XR6 : Hid (w6.heap[w.heap.size]? = some (.cells #[.int .i64 0, .int .i64 0] 56 (0, 0))) := Lib.hid (box_gr XR5.out G' (by have h1 := HP.out; have h2 := LER.out; omega))
        have G6 := Lib.hid (gr_trans G5.out G')
        clear G'
        cases t with
        | true =>
          have Rl := box_lt XR6.out
          obtain ⟨R0, R1, Rf0, Rf1⟩ := box_two XR6.out
          go_wp2_with fail
          refine bodyPost_ret (v := .agg #[.int .i64 (-1), .int .i64 (e)]) (by simp [results, Tryd.results110, go_sem, R0, R1]) rfl ⟨_, _, rfl, flt_ok1 (by decide) (by omega) he, ?_, ?_⟩
          · repeat (first | exact C6.out | refine Cur.set ?_ _ (by have h1 := HP.out; have h2 := G1.out.size; have h3 := G2.out.size; have h4 := G3.out.size; have h5 := G4.out.size; have h6 := G5.out.size; have h7 := G6.out.size; omega) | refine Cur.alloc ?_ _)
          · repeat (first | exact G6.out | refine gr_sets ?_ _ (by have h2 := G1.out.size; have h3 := G2.out.size; have h4 := G3.out.size; have h5 := G4.out.size; have h6 := G5.out.size; have h7 := G6.out.size; omega) | refine gr_alloc ?_ _)
        | false =>
          have Rl := box_lt XR6.out
          obtain ⟨R0, R1, Rf0, Rf1⟩ := box_two XR6.out
          go_wp2_with fail
          refine bodyPost_ret (v := .agg #[.int .i64 (1), .int .i64 (e)]) (by simp [results, Tryd.results110, go_sem, R0, R1]) rfl ⟨_, _, rfl, flt_ok1 (by decide) (by omega) he, ?_, ?_⟩
          · repeat (first | exact C6.out | refine Cur.set ?_ _ (by have h1 := HP.out; have h2 := G1.out.size; have h3 := G2.out.size; have h4 := G3.out.size; have h5 := G4.out.size; have h6 := G5.out.size; have h7 := G6.out.size; omega) | refine Cur.alloc ?_ _)
          · repeat (first | exact G6.out | refine gr_sets ?_ _ (by have h2 := G1.out.size; have h3 := G2.out.size; have h4 := G3.out.size; have h5 := G4.out.size; have h6 := G5.out.size; have h7 := G6.out.size; omega) | refine gr_alloc ?_ _)
    · have h1b : (m == 1) = false := by simpa using h1
      go_wp2_with fail
      refine (l1Once_c P 3 _ (by exact C4.out) (by omega)).mono ?_
      rintro _ w5 ⟨t, rfl, C', G'⟩
      have C5 := Lib.hid C'; clear C'
      have XR5 : Hid (w5.heap[w.heap.size]? = some (.cells #[.int .i64 0, .int .i64 0] 56 (0, 0))) := Lib.hid (box_gr XR4.out G' (by have h1 := HP.out; have h2 := LER.out; omega))
      have G5 := Lib.hid (gr_trans G4.out G')
      clear G'
      cases t with
      | true =>
        have Rl := box_lt XR5.out
        obtain ⟨R0, R1, Rf0, Rf1⟩ := box_two XR5.out
        go_wp2_with fail
        refine bodyPost_ret (v := .agg #[.int .i64 (-m), .int .i64 (e)]) (by simp [results, Tryd.results110, go_sem, R0, R1]) rfl ⟨_, _, rfl, flt_ok1 (by omega) (by omega) he, ?_, ?_⟩
        · repeat (first | exact C5.out | refine Cur.set ?_ _ (by have h1 := HP.out; have h2 := G1.out.size; have h3 := G2.out.size; have h4 := G3.out.size; have h5 := G4.out.size; have h6 := G5.out.size; omega) | refine Cur.alloc ?_ _)
        · repeat (first | exact G5.out | refine gr_sets ?_ _ (by have h2 := G1.out.size; have h3 := G2.out.size; have h4 := G3.out.size; have h5 := G4.out.size; have h6 := G5.out.size; omega) | refine gr_alloc ?_ _)
      | false =>
        have Rl := box_lt XR5.out
        obtain ⟨R0, R1, Rf0, Rf1⟩ := box_two XR5.out
        go_wp2_with fail
        refine bodyPost_ret (v := .agg #[.int .i64 (m), .int .i64 (e)]) (by simp [results, Tryd.results110, go_sem, R0, R1]) rfl ⟨_, _, rfl, flt_ok1 (by omega) (by omega) he, ?_, ?_⟩
        · repeat (first | exact C5.out | refine Cur.set ?_ _ (by have h1 := HP.out; have h2 := G1.out.size; have h3 := G2.out.size; have h4 := G3.out.size; have h5 := G4.out.size; have h6 := G5.out.size; omega) | refine Cur.alloc ?_ _)
        · repeat (first | exact G5.out | refine gr_sets ?_ _ (by have h2 := G1.out.size; have h3 := G2.out.size; have h4 := G3.out.size; have h5 := G4.out.size; have h6 := G5.out.size; omega) | refine gr_alloc ?_ _)
set_option maxRecDepth 100000 in
set_option maxHeartbeats 4000000 in
theorem l5Any_c (P : Nat) (w : World) (hC : Cur w P) :
    Calls Tryd.prog 108 #[.pointer (some ⟨P, 0, none⟩)] w fun e w' => ∃ n x : Int, e = .returned (.agg #[.int .i64 n, .int .i64 x]) ∧ (wf6 (n) ∧ wf6 (x)) ∧ Cur w' P ∧ w.grownBy w' (some P) := by
  have HC := Lib.hid hC; clear hC
  have HP := Lib.hid HC.out.lt
  have LER := Lib.hid (Nat.le_refl w.heap.size)
  go_enter Tryd.func108, Tryd.ntmps108
  go_wp2_with fail
  refine (l5Draw_c P _ (by exact (Cur.alloc HC.out _))).mono ?_
  rintro _ w1 ⟨n, x, rfl, hn', C', G'⟩
  have Hn := Lib.hid hn'; clear hn'
  have C1 := Lib.hid C'; clear C'
  have XR1 : Hid (w1.heap[w.heap.size]? = some (.cells #[.int .i64 0, .int .i64 0] 56 (0, 0))) := Lib.hid (box_gr (heap_alloc_new _ _) G' (by have h1 := HP.out; have h2 := LER.out; omega))
  have G1 := Lib.hid (gr_trans (gr_alloc (gr_refl (w := w) (P := P)) _) G')
  clear G'
  have bdx : wf6 n ∧ wf6 x := by have h := Hn.out; exact flt_rng h
  have BDX := Lib.hid bdx; clear bdx
  have LED := Lib.hid G1.out.size
  have hRD := box_lt XR1.out
  have NERD := Lib.hid (Nat.ne_of_lt hRD)
  have NEDR := Lib.hid (Nat.ne_of_gt hRD)
  go_wp2_with fail
  refine (l1Below_c P 8 _ (by exact (Cur.alloc C1.out _)) (by omega)).mono ?_
  rintro _ w2 ⟨y, rfl, y0, y1, -, -, C', G'⟩
  have C2 := Lib.hid C'; clear C'
  have XR2 : Hid (w2.heap[w.heap.size]? = some (.cells #[.int .i64 0, .int .i64 0] 56 (0, 0))) := Lib.hid (box_gr (box_alloc XR1.out _) G' (by have h1 := HP.out; have h2 := LER.out; omega))
  have XD2 : Hid (w2.heap[w1.heap.size]? = some (.cells #[.int .i64 n, .int .i64 x] 56 (0, 0))) := Lib.hid (box_gr (heap_alloc_new _ _) G' (by have h1 := HP.out; have h2 := LED.out; omega))
  have G2 := Lib.hid (gr_trans (gr_alloc G1.out _) G')
  clear G'
  replace y1 := y1 (by omega)
  have hDD := box_lt XD2.out
  by_cases hy0 : y = 0
  · subst hy0
    go_wp2_with fail
    refine (l1Int_c P [2, 65537, -65537, 0] w2.heap.size 4 _ (by exact (Cur.alloc C2.out _)) (rd_laid w2 _ _) (Nat.ne_of_gt (Cur.lt C2.out)) (by simp) (by simp) (by simp)).mono ?_
    rintro _ w3 ⟨m, rfl, hm', C', G'⟩
    have Hm := Lib.hid hm'; clear hm'
    have C3 := Lib.hid C'; clear C'
    have XR3 : Hid (w3.heap[w.heap.size]? = some (.cells #[.int .i64 0, .int .i64 0] 56 (0, 0))) := Lib.hid (box_gr (box_alloc XR2.out _) G' (by have h1 := HP.out; have h2 := LER.out; omega))
    have XD3 : Hid (w3.heap[w1.heap.size]? = some (.cells #[.int .i64 n, .int .i64 x] 56 (0, 0))) := Lib.hid (box_gr (box_alloc XD2.out _) G' (by have h1 := HP.out; have h2 := LED.out; omega))
    have G3 := Lib.hid (gr_trans (gr_alloc G2.out _) G')
    clear G'
    have bdv : wf6 (m) ∧ wf6 (x) := by have h1 := Hm.out; have h2 := BDX.out; simp at h1; unfold wf6 at *; omega
    have BDV := Lib.hid bdv; clear bdv
    have Rl := box_lt XR3.out
    obtain ⟨R0, R1, Rf0, Rf1⟩ := box_two XR3.out
    have Dl := box_lt XD3.out
    obtain ⟨D0, D1, Df0, Df1⟩ := box_two XD3.out
    go_wp2_with fail
    refine bodyPost_ret (v := .agg #[.int .i64 (m), .int .i64 (x)]) (by simp [results, Tryd.results108, go_sem, R0, R1]) rfl ⟨_, _, rfl, BDV.out, ?_, ?_⟩
    · repeat (first | exact C3.out | refine Cur.set ?_ _ (by have h1 := HP.out; have h2 := G1.out.size; have h3 := G2.out.size; have h4 := G3.out.size; omega) | refine Cur.alloc ?_ _)
    · repeat (first | exact G3.out | refine gr_sets ?_ _ (by have h2 := G1.out.size; have h3 := G2.out.size; have h4 := G3.out.size; omega) | refine gr_alloc ?_ _)
  by_cases hy1 : y = 1
  · subst hy1
    go_wp2_with fail
    refine (l1Int_c P [-17, 31, 46, 0] w2.heap.size 4 _ (by exact (Cur.alloc C2.out _)) (rd_laid w2 _ _) (Nat.ne_of_gt (Cur.lt C2.out)) (by simp) (by simp) (by simp)).mono ?_
    rintro _ w3 ⟨m, rfl, hm', C', G'⟩
    have Hm := Lib.hid hm'; clear hm'
    have C3 := Lib.hid C'; clear C'
    have XR3 : Hid (w3.heap[w.heap.size]? = some (.cells #[.int .i64 0, .int .i64 0] 56 (0, 0))) := Lib.hid (box_gr (box_alloc XR2.out _) G' (by have h1 := HP.out; have h2 := LER.out; omega))
    have XD3 : Hid (w3.heap[w1.heap.size]? = some (.cells #[.int .i64 n, .int .i64 x] 56 (0, 0))) := Lib.hid (box_gr (box_alloc XD2.out _) G' (by have h1 := HP.out; have h2 := LED.out; omega))
    have G3 := Lib.hid (gr_trans (gr_alloc G2.out _) G')
    clear G'
    have bdv : wf6 (n) ∧ wf6 (m) := by have h1 := Hm.out; have h2 := BDX.out; simp at h1; unfold wf6 at *; omega
    have BDV := Lib.hid bdv; clear bdv
    have Rl := box_lt XR3.out
    obtain ⟨R0, R1, Rf0, Rf1⟩ := box_two XR3.out
    have Dl := box_lt XD3.out
    obtain ⟨D0, D1, Df0, Df1⟩ := box_two XD3.out
    go_wp2_with fail
    refine bodyPost_ret (v := .agg #[.int .i64 (n), .int .i64 (m)]) (by simp [results, Tryd.results108, go_sem, R0, R1]) rfl ⟨_, _, rfl, BDV.out, ?_, ?_⟩
    · repeat (first | exact C3.out | refine Cur.set ?_ _ (by have h1 := HP.out; have h2 := G1.out.size; have h3 := G2.out.size; have h4 := G3.out.size; omega) | refine Cur.alloc ?_ _)
    · repeat (first | exact G3.out | refine gr_sets ?_ _ (by have h2 := G1.out.size; have h3 := G2.out.size; have h4 := G3.out.size; omega) | refine gr_alloc ?_ _)
  have n0 : (y == 0) = false := by simpa using hy0
  have n1 : (y == 1) = false := by simpa using hy1
  have Rl := box_lt XR2.out
  obtain ⟨R0, R1, Rf0, Rf1⟩ := box_two XR2.out
  have Dl := box_lt XD2.out
  obtain ⟨D0, D1, Df0, Df1⟩ := box_two XD2.out
  go_wp2_with fail
  refine bodyPost_ret (v := .agg #[.int .i64 n, .int .i64 x]) (by simp [results, Tryd.results108, go_sem, R0, R1]) rfl ⟨_, _, rfl, BDX.out, ?_, ?_⟩
  · repeat (first | exact C2.out | refine Cur.set ?_ _ (by have h1 := HP.out; have h2 := G1.out.size; have h3 := G2.out.size; omega) | refine Cur.alloc ?_ _)
  · repeat (first | exact G2.out | refine gr_sets ?_ _ (by have h2 := G1.out.size; have h3 := G2.out.size; omega) | refine gr_alloc ?_ _)
set_option maxRecDepth 100000 in
set_option maxHeartbeats 4000000 in
theorem l5Dec_c (P : Nat) (w : World) (hC : Cur w P) :
    Calls Tryd.prog 114 #[.pointer (some ⟨P, 0, none⟩)] w fun e w' => ∃ n x : Int, e = .returned (.agg #[.int .i64 n, .int .i64 x]) ∧ decOkB n x = true ∧ Cur w' P ∧ w.grownBy w' (some P) := by
  have HC := Lib.hid hC; clear hC
  have HP := Lib.hid HC.out.lt
  have LER := Lib.hid (Nat.le_refl w.heap.size)
  go_enter Tryd.func114, Tryd.ntmps114
  go_wp2_with fail
  refine (l1Once_c P 2 _ (by exact (Cur.alloc HC.out _)) (by omega)).mono ?_
  rintro _ w1 ⟨t, rfl, C', G'⟩
  have C1 := Lib.hid C'; clear C'
  have XR1 : Hid (w1.heap[w.heap.size]? = some (.cells #[.int .i64 0, .int .i64 0] 42 (0, 0))) := Lib.hid (box_gr (heap_alloc_new _ _) G' (by have h1 := HP.out; have h2 := LER.out; omega))
  have G1 := Lib.hid (gr_trans (gr_alloc (gr_refl (w := w) (P := P)) _) G')
  clear G'
  cases t with
  | true =>
    go_wp2_with fail
    refine (l5Draw_c P _ (by exact C1.out)).mono ?_
    rintro _ w2 ⟨m, f, rfl, hm', C', G'⟩
    have Hm := Lib.hid hm'; clear hm'
    have C2 := Lib.hid C'; clear C'
    have XR2 : Hid (w2.heap[w.heap.size]? = some (.cells #[.int .i64 0, .int .i64 0] 42 (0, 0))) := Lib.hid (box_gr XR1.out G' (by have h1 := HP.out; have h2 := LER.out; omega))
    have G2 := Lib.hid (gr_trans G1.out G')
    clear G'
    go_wp2_with fail
    refine (fltDec_spec m f _).mono ?_
    rintro _ w3 ⟨rfl, b'⟩
    have C3 := Lib.hid (Cur.below C2.out b')
    have XR3 : Hid (w3.heap[w.heap.size]? = some (.cells #[.int .i64 0, .int .i64 0] 42 (0, 0))) := Lib.hid (box_below XR2.out b')
    have G3 := Lib.hid (gr_on G2.out b')
    clear b'
    have HOK := Lib.hid (fdF_ok m f)
    obtain ⟨⟨A, B⟩, hQ⟩ : ∃ z : Int × Int, fltDecF m f = z := ⟨_, rfl⟩
    rw [hQ] at HOK ⊢
    clear hQ
    have HOK2 : Hid (decOkB A B = true) := HOK; clear HOK
    dsimp only
    have hAB := dec_rng HOK2.out
    have LED := Lib.hid G3.out.size
    have hRD := box_lt XR3.out
    have NERD := Lib.hid (Nat.ne_of_lt hRD)
    have NEDR := Lib.hid (Nat.ne_of_gt hRD)
    go_wp2_with fail
    refine (l1Once_c P 3 _ (by exact (Cur.alloc C3.out _)) (by omega)).mono ?_
    rintro _ w4 ⟨q, rfl, C', G'⟩
    have C4 := Lib.hid C'; clear C'
    have XR4 : Hid (w4.heap[w.heap.size]? = some (.cells #[.int .i64 0, .int .i64 0] 42 (0, 0))) := Lib.hid (box_gr (box_alloc XR3.out _) G' (by have h1 := HP.out; have h2 := LER.out; omega))
    have XD4 : Hid (w4.heap[w3.heap.size]? = some (.cells #[.int .i64 A, .int .i64 B] 42 (0, 0))) := Lib.hid (box_gr (heap_alloc_new _ _) G' (by have h1 := HP.out; have h2 := LED.out; omega))
    have G4 := Lib.hid (gr_trans (gr_alloc G3.out _) G')
    clear G'
    cases q with
    | true =>
      have Rl := box_lt XR4.out
      obtain ⟨R0, R1, Rf0, Rf1⟩ := box_two XR4.out
      have Dl := box_lt XD4.out
      obtain ⟨D0, D1, Df0, Df1⟩ := box_two XD4.out
      go_wp2_with fail
      refine (decOk_spec (A + 1) B _ (by omega) (by omega)).mono ?_
      rintro _ w5 ⟨rfl, b'⟩
      clear R0 R1 Rf0 Rf1
      clear D0 D1 Df0 Df1
      clear Rl Dl
      have C5 := Lib.hid (Cur.below (Cur.set C4.out _ (by have h1 := HP.out; have h2 := LED.out; omega)) b')
      have XR5 : Hid (w5.heap[w.heap.size]? = some (.cells #[.int .i64 0, .int .i64 0] 42 (0, 0))) := Lib.hid (box_below (box_other XR4.out _ NERD.out) b')
      have XD5 : Hid (w5.heap[w3.heap.size]? = some (.cells #[.int .i64 (A + 1), .int .i64 B] 42 (0, 0))) := Lib.hid (box_below (box_set0 XD4.out _) b')
      have G5 := Lib.hid (gr_on (gr_sets G4.out _ LED.out) b')
      clear b'
      cases hk : decOkB (A + 1) B with
      | true =>
        have Rl := box_lt XR5.out
        obtain ⟨R0, R1, Rf0, Rf1⟩ := box_two XR5.out
        have Dl := box_lt XD5.out
        obtain ⟨D0, D1, Df0, Df1⟩ := box_two XD5.out
        go_wp2_with fail
        refine bodyPost_ret (v := .agg #[.int .i64 (A + 1), .int .i64 B]) (by simp [results, Tryd.results114, go_sem, R0, R1]) rfl ⟨_, _, rfl, hk, ?_, ?_⟩
        · repeat (first | exact C5.out | refine Cur.set ?_ _ (by have h1 := HP.out; have h2 := G1.out.size; have h3 := G2.out.size; have h4 := G3.out.size; have h5 := G4.out.size; have h6 := G5.out.size; omega) | refine Cur.alloc ?_ _)
        · repeat (first | exact G5.out | refine gr_sets ?_ _ (by have h2 := G1.out.size; have h3 := G2.out.size; have h4 := G3.out.size; have h5 := G4.out.size; have h6 := G5.out.size; omega) | refine gr_alloc ?_ _)
      | false =>
        go_wp2_with fail
        refine (l4Draw_c P _ (by exact C5.out)).mono ?_
        rintro _ w6 ⟨n, x, rfl, hn', C', G'⟩
        have Hn := Lib.hid hn'; clear hn'
        have C6 := Lib.hid C'; clear C'
        have XR6 : Hid (w6.heap[w.heap.size]? = some (.cells #[.int .i64 0, .int .i64 0] 42 (0, 0))) := Lib.hid (box_gr XR5.out G' (by have h1 := HP.out; have h2 := LER.out; omega))
        have XD6 : Hid (w6.heap[w3.heap.size]? = some (.cells #[.int .i64 (A + 1), .int .i64 B] 42 (0, 0))) := Lib.hid (box_gr XD5.out G' (by have h1 := HP.out; have h2 := LED.out; omega))
        have G6 := Lib.hid (gr_trans G5.out G')
        clear G'
        have Rl := box_lt XR6.out
        obtain ⟨R0, R1, Rf0, Rf1⟩ := box_two XR6.out
        have Dl := box_lt XD6.out
        obtain ⟨D0, D1, Df0, Df1⟩ := box_two XD6.out
        go_wp2_with fail
        refine bodyPost_ret (v := .agg #[.int .i64 n, .int .i64 x]) (by simp [results, Tryd.results114, go_sem, R0, R1]) rfl ⟨n, x, rfl, Hn.out, ?_, ?_⟩
        · repeat (first | exact C6.out | refine Cur.set ?_ _ (by have h1 := HP.out; have h2 := G1.out.size; have h3 := G2.out.size; have h4 := G3.out.size; have h5 := G4.out.size; have h6 := G5.out.size; have h7 := G6.out.size; omega) | refine Cur.alloc ?_ _)
        · repeat (first | exact G6.out | refine gr_sets ?_ _ (by have h2 := G1.out.size; have h3 := G2.out.size; have h4 := G3.out.size; have h5 := G4.out.size; have h6 := G5.out.size; have h7 := G6.out.size; omega) | refine gr_alloc ?_ _)
    | false =>
      have Rl := box_lt XR4.out
      obtain ⟨R0, R1, Rf0, Rf1⟩ := box_two XR4.out
      have Dl := box_lt XD4.out
      obtain ⟨D0, D1, Df0, Df1⟩ := box_two XD4.out
      go_wp2_with fail
      refine (decOk_spec (A) B _ (by omega) (by omega)).mono ?_
      rintro _ w5 ⟨rfl, b'⟩
      clear R0 R1 Rf0 Rf1
      clear D0 D1 Df0 Df1
      clear Rl Dl
      have C5 := Lib.hid (Cur.below C4.out b')
      have XR5 : Hid (w5.heap[w.heap.size]? = some (.cells #[.int .i64 0, .int .i64 0] 42 (0, 0))) := Lib.hid (box_below XR4.out b')
      have XD5 : Hid (w5.heap[w3.heap.size]? = some (.cells #[.int .i64 A, .int .i64 B] 42 (0, 0))) := Lib.hid (box_below XD4.out b')
      have G5 := Lib.hid (gr_on G4.out b')
      clear b'
      cases hk : decOkB (A) B with
      | true =>
        have Rl := box_lt XR5.out
        obtain ⟨R0, R1, Rf0, Rf1⟩ := box_two XR5.out
        have Dl := box_lt XD5.out
        obtain ⟨D0, D1, Df0, Df1⟩ := box_two XD5.out
        go_wp2_with fail
        refine bodyPost_ret (v := .agg #[.int .i64 (A), .int .i64 B]) (by simp [results, Tryd.results114, go_sem, R0, R1]) rfl ⟨_, _, rfl, hk, ?_, ?_⟩
        · repeat (first | exact C5.out | refine Cur.set ?_ _ (by have h1 := HP.out; have h2 := G1.out.size; have h3 := G2.out.size; have h4 := G3.out.size; have h5 := G4.out.size; have h6 := G5.out.size; omega) | refine Cur.alloc ?_ _)
        · repeat (first | exact G5.out | refine gr_sets ?_ _ (by have h2 := G1.out.size; have h3 := G2.out.size; have h4 := G3.out.size; have h5 := G4.out.size; have h6 := G5.out.size; omega) | refine gr_alloc ?_ _)
      | false =>
        go_wp2_with fail
        refine (l4Draw_c P _ (by exact C5.out)).mono ?_
        rintro _ w6 ⟨n, x, rfl, hn', C', G'⟩
        have Hn := Lib.hid hn'; clear hn'
        have C6 := Lib.hid C'; clear C'
        have XR6 : Hid (w6.heap[w.heap.size]? = some (.cells #[.int .i64 0, .int .i64 0] 42 (0, 0))) := Lib.hid (box_gr XR5.out G' (by have h1 := HP.out; have h2 := LER.out; omega))
        have XD6 : Hid (w6.heap[w3.heap.size]? = some (.cells #[.int .i64 A, .int .i64 B] 42 (0, 0))) := Lib.hid (box_gr XD5.out G' (by have h1 := HP.out; have h2 := LED.out; omega))
        have G6 := Lib.hid (gr_trans G5.out G')
        clear G'
        have Rl := box_lt XR6.out
        obtain ⟨R0, R1, Rf0, Rf1⟩ := box_two XR6.out
        have Dl := box_lt XD6.out
        obtain ⟨D0, D1, Df0, Df1⟩ := box_two XD6.out
        go_wp2_with fail
        refine bodyPost_ret (v := .agg #[.int .i64 n, .int .i64 x]) (by simp [results, Tryd.results114, go_sem, R0, R1]) rfl ⟨n, x, rfl, Hn.out, ?_, ?_⟩
        · repeat (first | exact C6.out | refine Cur.set ?_ _ (by have h1 := HP.out; have h2 := G1.out.size; have h3 := G2.out.size; have h4 := G3.out.size; have h5 := G4.out.size; have h6 := G5.out.size; have h7 := G6.out.size; omega) | refine Cur.alloc ?_ _)
        · repeat (first | exact G6.out | refine gr_sets ?_ _ (by have h2 := G1.out.size; have h3 := G2.out.size; have h4 := G3.out.size; have h5 := G4.out.size; have h6 := G5.out.size; have h7 := G6.out.size; omega) | refine gr_alloc ?_ _)
  | false =>
    go_wp2_with fail
    refine (l4Draw_c P _ (by exact C1.out)).mono ?_
    rintro _ w2 ⟨n, x, rfl, hn', C', G'⟩
    have Hn := Lib.hid hn'; clear hn'
    have C2 := Lib.hid C'; clear C'
    have XR2 : Hid (w2.heap[w.heap.size]? = some (.cells #[.int .i64 0, .int .i64 0] 42 (0, 0))) := Lib.hid (box_gr XR1.out G' (by have h1 := HP.out; have h2 := LER.out; omega))
    have G2 := Lib.hid (gr_trans G1.out G')
    clear G'
    have Rl := box_lt XR2.out
    obtain ⟨R0, R1, Rf0, Rf1⟩ := box_two XR2.out
    go_wp2_with fail
    refine bodyPost_ret (v := .agg #[.int .i64 n, .int .i64 x]) (by simp [results, Tryd.results114, go_sem, R0, R1]) rfl ⟨n, x, rfl, Hn.out, ?_, ?_⟩
    · repeat (first | exact C2.out | refine Cur.set ?_ _ (by have h1 := HP.out; have h2 := G1.out.size; have h3 := G2.out.size; omega) | refine Cur.alloc ?_ _)
    · repeat (first | exact G2.out | refine gr_sets ?_ _ (by have h2 := G1.out.size; have h3 := G2.out.size; omega) | refine gr_alloc ?_ _)
set_option maxRecDepth 100000 in
set_option maxHeartbeats 4000000 in
theorem drawFltDec_c (zs : List Int) (a : Option Addr) (cap : Nat) (w : World) (hr : Rd w .u8 a zs) (hw : ∀ n ∈ zs, (Lit.int .u8 n).wf = true) (hlen : zs.length ≤ 1048576) (hcap : zs.length ≤ cap) :
    Calls Tryd.prog 39 #[.slice a zs.length cap] w fun e w' => (∃ n x : Int, e = .returned (.agg #[.int .i64 n, .int .i64 x]) ∧ wf6 n ∧ wf6 x) ∧ Below w.heap.size w w' := by
  have HR := Lib.hid hr; clear hr
  have HW := Lib.hid hw; clear hw
  go_enter Tryd.func39, Tryd.ntmps39
  go_wp2_with fail
  refine (l1New_c zs a cap _ (by exact rd_kept (below_alloc (Below.refl w.heap.size w) _) HR.out) HW.out hlen hcap).mono ?_
  rintro _ w1 ⟨P, rfl, hP, C', b'⟩
  simp only [World.size_alloc] at hP
  have HP := Lib.hid hP; clear hP
  have C1 := Lib.hid C'; clear C'
  have XR1 : Hid (w1.heap[w.heap.size]? = some (.cells #[.int .i64 0, .int .i64 0] 56 (0, 0))) := Lib.hid (box_below (by first | exact (heap_alloc_new _ _) | (have h := (heap_alloc_new _ _); simp only [World.size_alloc] at h; exact h)) b')
  have LER : Hid (w.heap.size ≤ w.heap.size ∧ P ≠ w.heap.size) := Lib.hid (by have h := HP.out; omega)
  have G1 := Lib.hid (nx (below_alloc (Below.refl w.heap.size w) _) b'); clear b'
  go_wp2_with fail
  refine (l5Any_c P _ (by exact C1.out)).mono ?_
  rintro _ w2 ⟨n, x, rfl, hn', C', G'⟩
  have Hn := Lib.hid hn'; clear hn'
  have C2 := Lib.hid C'; clear C'
  have XR2 : Hid (w2.heap[w.heap.size]? = some (.cells #[.int .i64 0, .int .i64 0] 56 (0, 0))) := Lib.hid (box_gr XR1.out G' LER.out.2)
  have G2 := Lib.hid (below_gr G1.out G' (by have h := HP.out; omega)); clear G'
  have Rl := box_lt XR2.out
  obtain ⟨R0, R1, Rf0, Rf1⟩ := box_two XR2.out
  go_wp2_with fail
  refine bodyPost_ret (v := .agg #[.int .i64 n, .int .i64 x]) (by simp [results, Tryd.results39, go_sem, R0, R1]) rfl ⟨⟨n, x, rfl, Hn.out⟩, ?_⟩
  repeat (first | exact G2.out | refine below_set ?_ _ (by first | exact Nat.le_refl _ | (have hR := LER.out; omega)) | refine below_alloc ?_ _ | refine Below.drew ?_)
set_option maxRecDepth 100000 in
set_option maxHeartbeats 4000000 in
theorem drawExact_c (zs : List Int) (a : Option Addr) (cap : Nat) (w : World) (hr : Rd w .u8 a zs) (hw : ∀ n ∈ zs, (Lit.int .u8 n).wf = true) (hlen : zs.length ≤ 1048576) (hcap : zs.length ≤ cap) :
    Calls Tryd.prog 56 #[.slice a zs.length cap] w fun e w' => (∃ n x : Int, e = .returned (.agg #[.int .i64 n, .int .i64 x]) ∧ decOkB n x = true) ∧ Below w.heap.size w w' := by
  have HR := Lib.hid hr; clear hr
  have HW := Lib.hid hw; clear hw
  go_enter Tryd.func56, Tryd.ntmps56
  go_wp2_with fail
  refine (l1New_c zs a cap _ (by exact rd_kept (below_alloc (Below.refl w.heap.size w) _) HR.out) HW.out hlen hcap).mono ?_
  rintro _ w1 ⟨P, rfl, hP, C', b'⟩
  simp only [World.size_alloc] at hP
  have HP := Lib.hid hP; clear hP
  have C1 := Lib.hid C'; clear C'
  have XR1 : Hid (w1.heap[w.heap.size]? = some (.cells #[.int .i64 0, .int .i64 0] 42 (0, 0))) := Lib.hid (box_below (by first | exact (heap_alloc_new _ _) | (have h := (heap_alloc_new _ _); simp only [World.size_alloc] at h; exact h)) b')
  have LER : Hid (w.heap.size ≤ w.heap.size ∧ P ≠ w.heap.size) := Lib.hid (by have h := HP.out; omega)
  have G1 := Lib.hid (nx (below_alloc (Below.refl w.heap.size w) _) b'); clear b'
  go_wp2_with fail
  refine (l5Dec_c P _ (by exact C1.out)).mono ?_
  rintro _ w2 ⟨n, x, rfl, hn', C', G'⟩
  have Hn := Lib.hid hn'; clear hn'
  have C2 := Lib.hid C'; clear C'
  have XR2 : Hid (w2.heap[w.heap.size]? = some (.cells #[.int .i64 0, .int .i64 0] 42 (0, 0))) := Lib.hid (box_gr XR1.out G' LER.out.2)
  have G2 := Lib.hid (below_gr G1.out G' (by have h := HP.out; omega)); clear G'
  have Rl := box_lt XR2.out
  obtain ⟨R0, R1, Rf0, Rf1⟩ := box_two XR2.out
  go_wp2_with fail
  refine bodyPost_ret (v := .agg #[.int .i64 n, .int .i64 x]) (by simp [results, Tryd.results56, go_sem, R0, R1]) rfl ⟨⟨n, x, rfl, Hn.out⟩, ?_⟩
  repeat (first | exact G2.out | refine below_set ?_ _ (by first | exact Nat.le_refl _ | (have hR := LER.out; omega)) | refine below_alloc ?_ _ | refine Below.drew ?_)
set_option maxRecDepth 100000 in
set_option maxHeartbeats 4000000 in
theorem drawFltNew_c (zs : List Int) (a : Option Addr) (cap : Nat) (w : World) (hr : Rd w .u8 a zs) (hw : ∀ n ∈ zs, (Lit.int .u8 n).wf = true) (hlen : zs.length ≤ 1048576) (hcap : zs.length ≤ cap) :
    Calls Tryd.prog 41 #[.slice a zs.length cap] w fun e w' => (∃ n x : Int, e = .returned (.tuple #[.int .i64 n, .int .i64 x]) ∧ wf6 n ∧ wf6 x) ∧ Below w.heap.size w w' := by
  have HR := Lib.hid hr; clear hr
  have HW := Lib.hid hw; clear hw
  go_enter Tryd.func41, Tryd.ntmps41
  go_wp2_with fail
  refine (l1New_c zs a cap _ HR.out HW.out hlen hcap).mono ?_
  rintro _ w1 ⟨P, rfl, hP, C', b'⟩
  have HP := Lib.hid hP; clear hP
  have C1 := Lib.hid C'; clear C'
  have G1 := Lib.hid (nx (Below.refl w.heap.size w) b'); clear b'
  go_wp2_with fail
  refine (l1One_c P _ (by exact C1.out)).mono ?_
  rintro _ w2 ⟨n, rfl, hn', C', G'⟩
  have Hn := Lib.hid hn'; clear hn'
  have C2 := Lib.hid C'; clear C'
  have G2 := Lib.hid (below_gr G1.out G' (by have h := HP.out; omega)); clear G'
  go_wp2_with fail
  refine (l1Below_c P 60 _ (by exact C2.out) (by omega)).mono ?_
  rintro _ w3 ⟨x, rfl, x0, x1, -, -, C', G'⟩
  have C3 := Lib.hid C'; clear C'
  have G3 := Lib.hid (below_gr G2.out G' (by have h := HP.out; omega)); clear G'
  replace x1 := x1 (by omega)
  go_wp2_with fail
  go_ret2
  exact ⟨⟨_, _, rfl, Hn.out, by unfold wf6; omega⟩, G3.out⟩
set_option maxRecDepth 100000 in
set_option maxHeartbeats 4000000 in
theorem drawNearFlt_c (zs : List Int) (a : Option Addr) (cap : Nat) (w : World) (hr : Rd w .u8 a zs) (hw : ∀ n ∈ zs, (Lit.int .u8 n).wf = true) (hlen : zs.length ≤ 1048576) (hcap : zs.length ≤ cap) :
    Calls Tryd.prog 54 #[.slice a zs.length cap] w fun e w' => (∃ n x : Int, e = .returned (.agg #[.int .i64 n, .int .i64 x]) ∧ wf6 n ∧ wf6 x) ∧ Below w.heap.size w w' := by
  have HR := Lib.hid hr; clear hr
  have HW := Lib.hid hw; clear hw
  go_enter Tryd.func54, Tryd.ntmps54
  go_wp2_with fail
  refine (l1New_c zs a cap _ (by exact rd_kept (below_alloc (Below.refl w.heap.size w) _) HR.out) HW.out hlen hcap).mono ?_
  rintro _ w1 ⟨P, rfl, hP, C', b'⟩
  simp only [World.size_alloc] at hP
  have HP := Lib.hid hP; clear hP
  have C1 := Lib.hid C'; clear C'
  have XR1 : Hid (w1.heap[w.heap.size]? = some (.cells #[.int .i64 0, .int .i64 0] 42 (0, 0))) := Lib.hid (box_below (by first | exact (heap_alloc_new _ _) | (have h := (heap_alloc_new _ _); simp only [World.size_alloc] at h; exact h)) b')
  have LER : Hid (w.heap.size ≤ w.heap.size ∧ P ≠ w.heap.size) := Lib.hid (by have h := HP.out; omega)
  have G1 := Lib.hid (nx (below_alloc (Below.refl w.heap.size w) _) b'); clear b'
  go_wp2_with fail
  refine (l1Once_c P 8 _ (by exact C1.out) (by omega)).mono ?_
  rintro _ w2 ⟨t, rfl, C', G'⟩
  have C2 := Lib.hid C'; clear C'
  have XR2 : Hid (w2.heap[w.heap.size]? = some (.cells #[.int .i64 0, .int .i64 0] 42 (0, 0))) := Lib.hid (box_gr XR1.out G' LER.out.2)
  have G2 := Lib.hid (below_gr G1.out G' (by have h := HP.out; omega)); clear G'
  cases t with
  | true =>
    go_wp2_with fail
    refine (l4Any_c P _ (by exact C2.out)).mono ?_
    rintro _ w3 ⟨n, x, rfl, hn', C', G'⟩
    have Hn := Lib.hid hn'; clear hn'
    have C3 := Lib.hid C'; clear C'
    have XR3 : Hid (w3.heap[w.heap.size]? = some (.cells #[.int .i64 0, .int .i64 0] 42 (0, 0))) := Lib.hid (box_gr XR2.out G' LER.out.2)
    have G3 := Lib.hid (below_gr G2.out G' (by have h := HP.out; omega)); clear G'
    have Rl := box_lt XR3.out
    obtain ⟨R0, R1, Rf0, Rf1⟩ := box_two XR3.out
    go_wp2_with fail
    refine bodyPost_ret (v := .agg #[.int .i64 n, .int .i64 x]) (by simp [results, Tryd.results54, go_sem, R0, R1]) rfl ⟨⟨n, x, rfl, Hn.out⟩, ?_⟩
    repeat (first | exact G3.out | refine below_set ?_ _ (by first | exact Nat.le_refl _ | (have hR := LER.out; omega)) | refine below_alloc ?_ _ | refine Below.drew ?_)
  | false =>
    go_wp2_with fail
    refine (l5Dec_c P _ (by exact C2.out)).mono ?_
    rintro _ w3 ⟨n, x, rfl, hn', C', G'⟩
    have Hn := Lib.hid hn'; clear hn'
    have C3 := Lib.hid C'; clear C'
    have XR3 : Hid (w3.heap[w.heap.size]? = some (.cells #[.int .i64 0, .int .i64 0] 42 (0, 0))) := Lib.hid (box_gr XR2.out G' LER.out.2)
    have G3 := Lib.hid (below_gr G2.out G' (by have h := HP.out; omega)); clear G'
    have Rl := box_lt XR3.out
    obtain ⟨R0, R1, Rf0, Rf1⟩ := box_two XR3.out
    go_wp2_with fail
    refine bodyPost_ret (v := .agg #[.int .i64 n, .int .i64 x]) (by simp [results, Tryd.results54, go_sem, R0, R1]) rfl ⟨⟨n, x, rfl, by have := dec_rng Hn.out; unfold wf6; omega⟩, ?_⟩
    repeat (first | exact G3.out | refine below_set ?_ _ (by first | exact Nat.le_refl _ | (have hR := LER.out; omega)) | refine below_alloc ?_ _ | refine Below.drew ?_)
set_option maxRecDepth 100000 in
set_option maxHeartbeats 4000000 in
theorem drawLessFlt_c (zs : List Int) (a : Option Addr) (cap : Nat) (w : World) (hr : Rd w .u8 a zs) (hw : ∀ n ∈ zs, (Lit.int .u8 n).wf = true) (hlen : zs.length ≤ 1048576) (hcap : zs.length ≤ cap) :
    Calls Tryd.prog 44 #[.slice a zs.length cap] w fun e w' => (∃ n x m y : Int, e = .returned (.tuple #[.agg #[.int .i64 n, .int .i64 x], .agg #[.int .i64 m, .int .i64 y]]) ∧ (wf6 n ∧ wf6 x) ∧ (wf6 m ∧ wf6 y)) ∧ Below w.heap.size w w' := by
  have HR := Lib.hid hr; clear hr
  have HW := Lib.hid hw; clear hw
  go_enter Tryd.func44, Tryd.ntmps44
  go_wp2_with fail
  refine (l1New_c zs a cap _ (by exact rd_kept (below_alloc (below_alloc (Below.refl w.heap.size w) _) _) HR.out) HW.out hlen hcap).mono ?_
  rintro _ w1 ⟨P, rfl, hP, C', b'⟩
  simp only [World.size_alloc] at hP
  have HP := Lib.hid hP; clear hP
  have C1 := Lib.hid C'; clear C'
  have XR1 : Hid (w1.heap[w.heap.size]? = some (.cells #[.int .i64 0, .int .i64 0] 56 (0, 0))) := Lib.hid (box_below (by first | exact (box_alloc (heap_alloc_new _ _) _) | (have h := (box_alloc (heap_alloc_new _ _) _); simp only [World.size_alloc] at h; exact h)) b')
  have LER : Hid (w.heap.size ≤ w.heap.size ∧ P ≠ w.heap.size) := Lib.hid (by have h := HP.out; omega)
  have XQ1 : Hid (w1.heap[(w.heap.size + 1)]? = some (.cells #[.int .i64 0, .int .i64 0] 56 (0, 0))) := Lib.hid (box_below (by first | exact (second_block2 _ _ _) | (have h := (second_block2 _ _ _); simp only [World.size_alloc] at h; exact h)) b')
  have LEQ : Hid (w.heap.size ≤ (w.heap.size + 1) ∧ P ≠ (w.heap.size + 1)) := Lib.hid (by have h := HP.out; omega)
  have G1 := Lib.hid (nx (below_alloc (below_alloc (Below.refl w.heap.size w) _) _) b'); clear b'
  go_wp2_with fail
  refine (l5Draw_c P _ (by exact C1.out)).mono ?_
  rintro _ w2 ⟨n, x, rfl, hn', C', G'⟩
  have Hn := Lib.hid hn'; clear hn'
  have C2 := Lib.hid C'; clear C'
  have XR2 : Hid (w2.heap[w.heap.size]? = some (.cells #[.int .i64 0, .int .i64 0] 56 (0, 0))) := Lib.hid (box_gr XR1.out G' LER.out.2)
  have XQ2 : Hid (w2.heap[(w.heap.size + 1)]? = some (.cells #[.int .i64 0, .int .i64 0] 56 (0, 0))) := Lib.hid (box_gr XQ1.out G' LEQ.out.2)
  have G2 := Lib.hid (below_gr G1.out G' (by have h := HP.out; omega)); clear G'
  have bdx : wf6 n ∧ wf6 x := by exact flt_rng Hn.out
  have BDX := Lib.hid bdx; clear bdx
  have LED : Hid (w.heap.size ≤ w2.heap.size ∧ P ≠ w2.heap.size) := Lib.hid ⟨G2.out.size, Nat.ne_of_lt C2.out.lt⟩
  go_wp2_with fail
  refine (l1Once_c P 3 _ (by exact (Cur.alloc C2.out _)) (by omega)).mono ?_
  rintro _ w3 ⟨t, rfl, C', G'⟩
  have C3 := Lib.hid C'; clear C'
  have XR3 : Hid (w3.heap[w.heap.size]? = some (.cells #[.int .i64 0, .int .i64 0] 56 (0, 0))) := Lib.hid (box_gr (box_alloc XR2.out _) G' LER.out.2)
  have XQ3 : Hid (w3.heap[(w.heap.size + 1)]? = some (.cells #[.int .i64 0, .int .i64 0] 56 (0, 0))) := Lib.hid (box_gr (box_alloc XQ2.out _) G' LEQ.out.2)
  have XD3 : Hid (w3.heap[w2.heap.size]? = some (.cells #[.int .i64 n, .int .i64 x] 56 (0, 0))) := Lib.hid (box_gr (heap_alloc_new _ _) G' LED.out.2)
  have G3 := Lib.hid (below_gr (below_alloc G2.out _) G' (by have h := HP.out; omega)); clear G'
  cases t with
  | true =>
    have Rl := box_lt XR3.out
    obtain ⟨R0, R1, Rf0, Rf1⟩ := box_two XR3.out
    have Ql := box_lt XQ3.out
    obtain ⟨Q0, Q1, Qf0, Qf1⟩ := box_two XQ3.out
    have Dl := box_lt XD3.out
    obtain ⟨D0, D1, Df0, Df1⟩ := box_two XD3.out
    have hRD : w.heap.size < w2.heap.size := box_lt XR2.out
    have hQD : w.heap.size + 1 < w2.heap.size := box_lt XQ2.out
    go_wp2_with fail
    go_region
    all_goals
      go_wp2_with fail
      refine bodyPost_ret (v := .tuple #[.agg #[.int .i64 n, .int .i64 x], .agg #[.int .i64 n, .int .i64 x]]) (by simp [results, Tryd.results44, go_sem, R0, R1, Q0, Q1]) rfl ⟨⟨n, x, n, x, rfl, BDX.out, BDX.out⟩, ?_⟩
      repeat (first | exact G3.out | refine below_set ?_ _ (by first | exact Nat.le_refl _ | (have hR := LER.out; have hQ := LEQ.out; have hD := LED.out; omega)) | refine below_alloc ?_ _ | refine Below.drew ?_)
  | false =>
    have Rl := box_lt XR3.out
    obtain ⟨R0, R1, Rf0, Rf1⟩ := box_two XR3.out
    have Ql := box_lt XQ3.out
    obtain ⟨Q0, Q1, Qf0, Qf1⟩ := box_two XQ3.out
    have Dl := box_lt XD3.out
    obtain ⟨D0, D1, Df0, Df1⟩ := box_two XD3.out
    have hRD : w.heap.size < w2.heap.size := box_lt XR2.out
    have hQD : w.heap.size + 1 < w2.heap.size := box_lt XQ2.out
    have hCB := Lib.hid (fun wx (h : Cur wx P) => l5Any_c P wx h)
    go_wp2_with fail
    go_region_with
      (first
       | (go_at_call 108; refine (hCB.out _ (by exact C3.out)).mono ?_; rintro _ w4 ⟨m, y, rfl, hm', C', G''⟩; have G' : w3.grownBy w4 (some P) := ⟨G''.os, G''.tape, G''.output, G''.size, G''.block⟩; clear G''; have Hm := Lib.hid hm'; clear hm'; have C4 := Lib.hid C'; clear C'; have XR4 : Hid (w4.heap[w.heap.size]? = some (.cells #[.int .i64 0, .int .i64 0] 56 (0, 0))) := Lib.hid (box_gr XR3.out G' LER.out.2); have XQ4 : Hid (w4.heap[(w.heap.size + 1)]? = some (.cells #[.int .i64 0, .int .i64 0] 56 (0, 0))) := Lib.hid (box_gr XQ3.out G' LEQ.out.2); have XD4 : Hid (w4.heap[w2.heap.size]? = some (.cells #[.int .i64 n, .int .i64 x] 56 (0, 0))) := Lib.hid (box_gr XD3.out G' LED.out.2); have G4 := Lib.hid (below_gr G3.out G' (by have h := HP.out; omega)); clear G'; obtain ⟨R0', R1', Rf0', Rf1'⟩ := box_two XR4.out; have Rl' := box_lt XR4.out; obtain ⟨Q0', Q1', Qf0', Qf1'⟩ := box_two XQ4.out; have Ql' := box_lt XQ4.out; obtain ⟨D0', D1', Df0', Df1'⟩ := box_two XD4.out; have Dl' := box_lt XD4.out))
    all_goals
      go_wp2_with fail
      refine bodyPost_ret (v := .tuple #[.agg #[.int .i64 n, .int .i64 x], .agg #[.int .i64 m, .int .i64 y]]) (by simp [results, Tryd.results44, go_sem, R0', R1', Q0', Q1']) rfl ⟨⟨n, x, m, y, rfl, BDX.out, Hm.out⟩, ?_⟩
      repeat (first | exact G4.out | refine below_set ?_ _ (by first | exact Nat.le_refl _ | (have hR := LER.out; have hQ := LEQ.out; have hD := LED.out; omega)) | refine below_alloc ?_ _ | refine Below.drew ?_)
end Go.Proofs.YtilmhemcpgiikaaDoor
/- What makes a value of a number, and the draw of a name. -/
namespace Go.Proofs.YtilmhemcpgiikaaDoor
open Go.Deep Go.ChangeShapes Go.WideShapes Go.ChangeAt Go.RowKit
open Go.ChangeMaps (open_string shut_string)

theorem fltVal_c (m e : Int) (w : World) : Calls Tryd.prog 156 #[.agg #[.int .i64 m, .int .i64 e]] w fun en w' => en = .returned (.agg #[.int .i64 4, .int .i64 m, .int .i64 e, .string { data := #[] }, .slice none 0 0]) ∧ Below w.heap.size w w' := by
  go_enter Tryd.func156, Tryd.ntmps156
  go_wp2_with fail
  exact bodyPost_ret (v := .agg #[.int .i64 4, .int .i64 m, .int .i64 e, .string { data := #[] }, .slice none 0 0]) (by simp [results, Tryd.results156, go_sem]) rfl ⟨rfl, (by first | exact vbelow1 _ _ | exact vbelow2 _ _ _ | exact below3 _ _ _ _ | exact below4 _ _ _ _ _)⟩
/-- The tree of a decimal number. -/
def numT (n x : Int) : Tree := if x = 0 then .mk 3 n 0 { data := #[] } [] else .mk 6 n x { data := #[] } []
theorem numT_ok {n x : Int} (h : decOkB n x = true) : (numT n x).ok = true := by
  unfold numT
  have := decOkB_iff.1 h
  split
  · exact ok_int (by omega)
  · exact ok_dec h (by omega)
theorem numVal_s (n x : Int) (w : World) : Calls Tryd.prog 157 #[.agg #[.int .i64 n, .int .i64 x]] w fun en w' => en = .returned (.agg #[.int .i64 (numT n x).kind, .int .i64 (numT n x).n, .int .i64 (numT n x).x, .string (numT n x).s, .slice none 0 0]) ∧ Below w.heap.size w w' := by
  by_cases hx : x = 0
  · subst hx
    go_enter Tryd.func157, Tryd.ntmps157
    go_wp2_with fail
    refine (spec_IntVal n _).mono ?_
    rintro _ w1 ⟨rfl, b1⟩
    have b2 := nx (below2 w _ _) b1
    obtain ⟨r0, r1, r2, r3, r4, rf⟩ := five_kept b1 (second_block2 w _ _)
    have rf0 := rf 0; have rf1 := rf 1; have rf2 := rf 2; have rf3 := rf 3; have rf4 := rf 4; clear rf
    have hsz := b1.size
    simp only [World.size_alloc] at hsz
    have BB := Lib.hid b2; clear b1 b2
    go_wp2_with fail
    refine bodyPost_ret (v := .agg #[.int .i64 3, .int .i64 n, .int .i64 0, .string { data := #[] }, .slice none 0 0]) (by simp [results, Tryd.results157, go_sem, r0, r1, r2, r3, r4]) rfl ⟨by simp [numT], ?_⟩
    iterate 5 refine Below.setCell ?_ (by dsimp only; omega) _
    exact BB.out
  · have hb : (x == 0) = false := by simpa using hx
    go_enter Tryd.func157, Tryd.ntmps157
    go_wp2_with fail
    exact bodyPost_ret (v := .agg #[.int .i64 6, .int .i64 n, .int .i64 x, .string { data := #[] }, .slice none 0 0]) (by simp [results, Tryd.results157, go_sem]) rfl ⟨by simp [numT, hx], (by first | exact vbelow1 _ _ | exact vbelow2 _ _ _ | exact below3 _ _ _ _ | exact below4 _ _ _ _ _)⟩
/-- A name: a small number or a short text. -/
def NmD (t : Tree) : Prop := (∃ n : Int, (0 ≤ n ∧ n ≤ 9) ∧ t = .mk 3 n 0 { data := #[] } []) ∨ ∃ s : ByteArray, (s.size ≤ 10 ∧ Lib.validD s.data.toList = true) ∧ t = .mk 7 0 0 s []
theorem NmD.ok {t : Tree} (h : NmD t) : t.ok = true := by
  rcases h with ⟨n, h, rfl⟩ | ⟨s, h, rfl⟩
  · exact ok_int (by omega)
  · exact ok_text h.2
theorem NmD.fits {t : Tree} (h : NmD t) : Fits t.kind t.n t.x t.s := by
  rcases h with ⟨n, h, rfl⟩ | ⟨s, h, rfl⟩
  · exact ⟨⟨by show _ ≤ (3 : Int); decide, by show (3 : Int) ≤ _; decide⟩, ⟨by show _ ≤ n; omega, by show n ≤ _; omega⟩, ⟨by show _ ≤ (0 : Int); decide, by show (0 : Int) ≤ _; decide⟩, by show (0 : Nat) ≤ _; decide⟩
  · exact ⟨⟨by show _ ≤ (7 : Int); decide, by show (7 : Int) ≤ _; decide⟩, ⟨by show _ ≤ (0 : Int); decide, by show (0 : Int) ≤ _; decide⟩, ⟨by show _ ≤ (0 : Int); decide, by show (0 : Int) ≤ _; decide⟩, by show s.size ≤ _; omega⟩
theorem NmD.cost {t : Tree} (h : NmD t) : t.cost ≤ 10 ∧ t.l = [] := by
  rcases h with ⟨n, h, rfl⟩ | ⟨s, h, rfl⟩
  · exact ⟨by rw [Tree.cost_eq]; simp [costL, ByteArray.size], rfl⟩
  · exact ⟨by rw [Tree.cost_eq]; show s.size + costL [] ≤ 10; simp [costL]; omega, rfl⟩
set_option maxRecDepth 100000 in
set_option maxHeartbeats 8000000 in
theorem l6Name_c (P : Nat) (w : World) (hC : Cur w P) :
    Calls Tryd.prog 117 #[.pointer (some ⟨P, 0, none⟩)] w fun e w' => ∃ t : Tree, e = .returned (.agg #[.int .i64 t.kind, .int .i64 t.n, .int .i64 t.x, .string t.s, .slice none 0 0]) ∧ NmD t ∧ Cur w' P ∧ w.grownBy w' (some P) := by
  have HC := Lib.hid hC; clear hC
  have HP := Lib.hid HC.out.lt
  have LER := Lib.hid (Nat.le_refl w.heap.size)
  go_enter Tryd.func117, Tryd.ntmps117
  go_wp2_with fail
  refine (l1Once_c P 6 _ (by exact (Cur.alloc HC.out _)) (by omega)).mono ?_
  rintro _ w1 ⟨q, rfl, C', G'⟩
  have C1 := Lib.hid C'; clear C'
  have XR1 : Hid (w1.heap[w.heap.size]? = some (.cells #[.int .i64 0, .int .i64 0, .int .i64 0, .string { data := #[] }, .slice none 0 0] 29 (0, 0))) := Lib.hid (box_gr (heap_alloc_new _ _) G' (by have h1 := HP.out; have h2 := LER.out; omega))
  have G1 := Lib.hid (gr_trans (gr_alloc (gr_refl (w := w) (P := P)) _) G'); clear G'
  cases q with
  | true =>
    go_wp2_with fail
    refine (l1Below_c P 4 _ (by exact C1.out) (by omega)).mono ?_
    rintro _ w2 ⟨n, rfl, n0, n1, -, -, C', G'⟩
    have C2 := Lib.hid C'; clear C'
    have XR2 : Hid (w2.heap[w.heap.size]? = some (.cells #[.int .i64 0, .int .i64 0, .int .i64 0, .string { data := #[] }, .slice none 0 0] 29 (0, 0))) := Lib.hid (box_gr XR1.out G' (by have h1 := HP.out; have h2 := LER.out; omega))
    have G2 := Lib.hid (gr_trans G1.out G'); clear G'
    replace n1 := n1 (by omega)
    go_wp2_with fail
    refine (spec_IntVal n _).mono ?_
    rintro _ w3 ⟨rfl, b'⟩
    have C3 := Lib.hid (Cur.below C2.out b')
    have XR3 : Hid (w3.heap[w.heap.size]? = some (.cells #[.int .i64 0, .int .i64 0, .int .i64 0, .string { data := #[] }, .slice none 0 0] 29 (0, 0))) := Lib.hid (box_below XR2.out b')
    have G3 := Lib.hid (gr_on G2.out b'); clear b'
    have Rl := box_lt XR3.out
    obtain ⟨R0, R1, R2, R3, R4, Rf0, Rf1, Rf2, Rf3, Rf4⟩ := five_open XR3.out
    go_wp2_with fail
    refine bodyPost_ret (v := .agg #[.int .i64 3, .int .i64 n, .int .i64 0, .string { data := #[] }, .slice none 0 0]) (by simp [results, Tryd.results117, go_sem, R0, R1, R2, R3, R4]) rfl ⟨.mk 3 n 0 { data := #[] } [], rfl, .inl ⟨n, by omega, rfl⟩, ?_, ?_⟩
    · repeat (first | with_reducible exact C3.out | with_reducible refine Cur.set ?_ _ (by have h1 := HP.out; have eR := LER.out; omega) | with_reducible refine Cur.alloc ?_ _ | with_reducible refine cur_drew ?_)
    · repeat (first | with_reducible exact G3.out | with_reducible refine gr_sets ?_ _ (by have eR := LER.out; omega) | with_reducible refine gr_alloc ?_ _ | with_reducible refine gr_drew ?_)
  | false =>
    go_wp2_with fail
    refine (l1Str_c P [⟨#[97]⟩, ⟨#[98]⟩, ⟨#[99]⟩, ⟨#[]⟩, ⟨#[107, 101, 121]⟩, ⟨#[195, 169]⟩] w1.heap.size 6 _ (by exact (Cur.alloc C1.out _)) (rs_laid w1 _ _) (Nat.ne_of_gt (Cur.lt C1.out)) (by simp) (by simp) (by simp)).mono ?_
    rintro _ w2 ⟨S, rfl, hS', C', G'⟩
    have HS := Lib.hid hS'; clear hS'
    have C2 := Lib.hid C'; clear C'
    have XR2 : Hid (w2.heap[w.heap.size]? = some (.cells #[.int .i64 0, .int .i64 0, .int .i64 0, .string { data := #[] }, .slice none 0 0] 29 (0, 0))) := Lib.hid (box_gr (box_alloc XR1.out _) G' (by have h1 := HP.out; have h2 := LER.out; omega))
    have G2 := Lib.hid (gr_trans (gr_alloc G1.out _) G'); clear G'
    have hs : S.size ≤ 10 ∧ Lib.validD S.data.toList = true := by have h := HS.out; simp at h; rcases h with rfl | rfl | rfl | rfl | rfl | rfl <;> exact ⟨by decide, by decide⟩
    have HS2 := Lib.hid hs; clear hs HS
    go_wp2_with fail
    refine (spec_TextVal S _).mono ?_
    rintro _ w3 ⟨rfl, b'⟩
    have C3 := Lib.hid (Cur.below C2.out b')
    have XR3 : Hid (w3.heap[w.heap.size]? = some (.cells #[.int .i64 0, .int .i64 0, .int .i64 0, .string { data := #[] }, .slice none 0 0] 29 (0, 0))) := Lib.hid (box_below XR2.out b')
    have G3 := Lib.hid (gr_on G2.out b'); clear b'
    have Rl := box_lt XR3.out
    obtain ⟨R0, R1, R2, R3, R4, Rf0, Rf1, Rf2, Rf3, Rf4⟩ := five_open XR3.out
    go_wp2_with fail
    refine bodyPost_ret (v := .agg #[.int .i64 7, .int .i64 0, .int .i64 0, .string S, .slice none 0 0]) (by simp [results, Tryd.results117, go_sem, R0, R1, R2, R3, R4]) rfl ⟨.mk 7 0 0 S [], rfl, .inr ⟨S, HS2.out, rfl⟩, ?_, ?_⟩
    · repeat (first | with_reducible exact C3.out | with_reducible refine Cur.set ?_ _ (by have h1 := HP.out; have eR := LER.out; omega) | with_reducible refine Cur.alloc ?_ _ | with_reducible refine cur_drew ?_)
    · repeat (first | with_reducible exact G3.out | with_reducible refine gr_sets ?_ _ (by have eR := LER.out; omega) | with_reducible refine gr_alloc ?_ _ | with_reducible refine gr_drew ?_)
end Go.Proofs.YtilmhemcpgiikaaDoor
/- PutRune: both append the same bytes. -/
namespace Go.Proofs.YtilmhemcpgiikaaDoor
open Go.Deep Go.ChangeShapes Go.WideShapes Go.ChangeAt Go.RowKit
open Go.ChangeMaps (open_string shut_string)


theorem info_byte3 : (Tryd.prog.info? 5).map (fun i => (i.zero, i.size, i.bytes)) = some (some (.int .u8 0), 1, 1) := by kernel_rfl
set_option maxHeartbeats 2000000 in
theorem putRune_spec (zs : List Int) (a : Option Addr) (cap : Nat) (n : Int) (w : World) (hr : Rd w .u8 a zs) (hlen : zs.length ≤ 4194304) :
    Calls Tryd.prog 190 #[.slice a zs.length cap, .int .i64 n] w fun e w' => ∃ v, e = .returned v ∧ w'.ownsRow w.heap.size 5 1 v (zs ++ encZ n).length ((zs ++ encZ n).map (Value.int .u8)) ∧ Below w.heap.size w w' := by
  obtain ⟨i0, hi, hz, hs, hb⟩ := info_parts info_byte3
  have HI := Lib.hid hi; clear hi
  have HR := Lib.hid hr; clear hr
  have hm := World.ownsRow_made (base := w.heap.size) (e := 5) (size := 1) w #[] 0 (Nat.le_refl _) (by simp [maxLen]) rfl
  cases hok : runeOkB n with
  | false =>
    have he : encZ n = [] := by unfold encZ; rw [if_neg (by rw [hok]; simp)]
    have hw : wideF n = 0 := by rw [← encZ_len, he]; rfl
    rw [he, List.append_nil]; clear he
    go_enter Tryd.func190, Tryd.ntmps190
    go_wp2_with (first | (go_at_call 202; refine (wideOf_spec _ _).mono ?_; rintro e w' ⟨rfl, rfl⟩) | (at_builtin; go_must (refine wpList_append_rd _ rfl (.tmp 6) (.tmp 7) 39 rfl w.heap.size 5 i0 (.int .u8 0) 1 Tryd.underlying39 HI.out hz hs hb rfl _ _ _ rfl hm .u8 _ _ _ zs rfl rfl (rd_alloc HR.out _) (by unfold maxLen; omega) (by omega) (by simp) ?_); intro v' w1 hown hg))
    go_ret
    exact ⟨_, rfl, by simpa using hown, made_grown hg⟩
  | true =>
    have hn0 : 0 ≤ n := (runeOkB_true.1 hok).1.1
    have hn1 : n ≤ 1114111 := (runeOkB_true.1 hok).1.2
    have hsur := Lib.hid (runeOkB_true.1 hok).2
    by_cases c1 : n < 128

    · have he : encZ n = [n] := by unfold encZ; rw [if_pos hok, Lib.encodeRuneZ_one (by omega) (by omega)]
      have hw : wideF n = 1 := by rw [← encZ_len, he]; rfl
      rw [he]; clear he
      go_enter Tryd.func190, Tryd.ntmps190
      go_wp2_with (first | (go_at_call 202; fail) | (at_builtin; go_must (refine wpList_append_rd _ rfl (.tmp 6) (.tmp 7) 39 rfl w.heap.size 5 i0 (.int .u8 0) 1 Tryd.underlying39 HI.out hz hs hb rfl _ _ _ rfl hm .u8 _ _ _ zs rfl rfl (rd_alloc HR.out _) (by unfold maxLen; omega) (by omega) (by simp) ?_); intro v' w1 hown hg))
      refine (wideOf_spec _ _).mono ?_
      rintro _ _ ⟨rfl, rfl⟩
      rw [hw]
      have HB := Lib.hid (made_grown hg)
      have HO := Lib.hid hown
      clear hg hown hw
      go_wp2_with (first | (at_builtin; go_must (refine wpList_append_own _ rfl (.tmp 13) (.tmp 16) 39 rfl w.heap.size 5 i0 (.int .u8 0) 1 1 Tryd.underlying39 HI.out hz hs hb rfl (by decide) _ _ _ rfl (HO.out.alloc _) ⟨w1.heap.size, 0, none⟩ 1 1 [.int .u8 (n)] rfl rfl (by exact World.news_of_block (heap_alloc_new _ _)) (by simp; rfl) (by unfold maxLen; omega) (by omega) (by simp only [World.size_alloc]; have := HB.out.size; omega) ?_); intro v2 w2 hown2 hg2 q1; clear q1))
      go_ret
      have hfin : w2.ownsRow w.heap.size 5 1 v2 (zs ++ [n]).length ((zs ++ [n]).map (Value.int .u8)) := by simpa using hown2
      exact ⟨_, rfl, hfin, (HB.out.alloc HB.out.size _).grown hg2 (by simp only [World.size_alloc]; have := HB.out.size; omega) (fun k hk => (HO.out.lt k hk).1)⟩
    by_cases c2 : n < 2048

    · have he : encZ n = [192 + n / 64, 128 + n % 64] := by unfold encZ; rw [if_pos hok, Lib.encodeRuneZ_two (by omega) (by omega)]
      have hw : wideF n = 2 := by rw [← encZ_len, he]; rfl
      rw [he]; clear he
      go_enter Tryd.func190, Tryd.ntmps190
      go_wp2_with (first | (go_at_call 202; fail) | (at_builtin; go_must (refine wpList_append_rd _ rfl (.tmp 6) (.tmp 7) 39 rfl w.heap.size 5 i0 (.int .u8 0) 1 Tryd.underlying39 HI.out hz hs hb rfl _ _ _ rfl hm .u8 _ _ _ zs rfl rfl (rd_alloc HR.out _) (by unfold maxLen; omega) (by omega) (by simp) ?_); intro v' w1 hown hg))
      refine (wideOf_spec _ _).mono ?_
      rintro _ _ ⟨rfl, rfl⟩
      rw [hw]
      have HB := Lib.hid (made_grown hg)
      have HO := Lib.hid hown
      clear hg hown hw
      go_wp2_with (first | (at_builtin; go_must (refine wpList_append_own _ rfl (.tmp 20) (.tmp 29) 39 rfl w.heap.size 5 i0 (.int .u8 0) 1 1 Tryd.underlying39 HI.out hz hs hb rfl (by decide) _ _ _ rfl (HO.out.alloc _) ⟨w1.heap.size, 0, none⟩ 2 2 [.int .u8 (192 + n / 64), .int .u8 (128 + n % 64)] rfl rfl (by exact World.news_of_block (heap_alloc_new _ _)) (by simp; exact ⟨rfl, rfl⟩) (by unfold maxLen; omega) (by omega) (by simp only [World.size_alloc]; have := HB.out.size; omega) ?_); intro v2 w2 hown2 hg2 q1; clear q1))
      go_ret
      have hfin : w2.ownsRow w.heap.size 5 1 v2 (zs ++ [192 + n / 64, 128 + n % 64]).length ((zs ++ [192 + n / 64, 128 + n % 64]).map (Value.int .u8)) := by simpa using hown2
      exact ⟨_, rfl, hfin, (HB.out.alloc HB.out.size _).grown hg2 (by simp only [World.size_alloc]; have := HB.out.size; omega) (fun k hk => (HO.out.lt k hk).1)⟩
    by_cases c3 : n < 65536

    · have he : encZ n = [224 + n / 4096, 128 + n / 64 % 64, 128 + n % 64] := by unfold encZ; rw [if_pos hok, Lib.encodeRuneZ_three (by have := hsur.out; omega)]
      have hw : wideF n = 3 := by rw [← encZ_len, he]; rfl
      rw [he]; clear he
      go_enter Tryd.func190, Tryd.ntmps190
      go_wp2_with (first | (go_at_call 202; fail) | (at_builtin; go_must (refine wpList_append_rd _ rfl (.tmp 6) (.tmp 7) 39 rfl w.heap.size 5 i0 (.int .u8 0) 1 Tryd.underlying39 HI.out hz hs hb rfl _ _ _ rfl hm .u8 _ _ _ zs rfl rfl (rd_alloc HR.out _) (by unfold maxLen; omega) (by omega) (by simp) ?_); intro v' w1 hown hg))
      refine (wideOf_spec _ _).mono ?_
      rintro _ _ ⟨rfl, rfl⟩
      rw [hw]
      have HB := Lib.hid (made_grown hg)
      have HO := Lib.hid hown
      clear hg hown hw
      go_wp2_with (first | (at_builtin; go_must (refine wpList_append_own _ rfl (.tmp 33) (.tmp 47) 39 rfl w.heap.size 5 i0 (.int .u8 0) 1 1 Tryd.underlying39 HI.out hz hs hb rfl (by decide) _ _ _ rfl (HO.out.alloc _) ⟨w1.heap.size, 0, none⟩ 3 3 [.int .u8 (224 + n / 4096), .int .u8 (128 + n / 64 % 64), .int .u8 (128 + n % 64)] rfl rfl (by exact World.news_of_block (heap_alloc_new _ _)) (by simp; exact ⟨rfl, rfl, rfl⟩) (by unfold maxLen; omega) (by omega) (by simp only [World.size_alloc]; have := HB.out.size; omega) ?_); intro v2 w2 hown2 hg2 q1; clear q1))
      go_ret
      have hfin : w2.ownsRow w.heap.size 5 1 v2 (zs ++ [224 + n / 4096, 128 + n / 64 % 64, 128 + n % 64]).length ((zs ++ [224 + n / 4096, 128 + n / 64 % 64, 128 + n % 64]).map (Value.int .u8)) := by simpa using hown2
      exact ⟨_, rfl, hfin, (HB.out.alloc HB.out.size _).grown hg2 (by simp only [World.size_alloc]; have := HB.out.size; omega) (fun k hk => (HO.out.lt k hk).1)⟩

    · have he : encZ n = [240 + n / 262144, 128 + n / 4096 % 64, 128 + n / 64 % 64, 128 + n % 64] := by unfold encZ; rw [if_pos hok, Lib.encodeRuneZ_four (by omega) (by omega)]
      have hw : wideF n = 4 := by rw [← encZ_len, he]; rfl
      rw [he]; clear he
      go_enter Tryd.func190, Tryd.ntmps190
      go_wp2_with (first | (go_at_call 202; fail) | (at_builtin; go_must (refine wpList_append_rd _ rfl (.tmp 6) (.tmp 7) 39 rfl w.heap.size 5 i0 (.int .u8 0) 1 Tryd.underlying39 HI.out hz hs hb rfl _ _ _ rfl hm .u8 _ _ _ zs rfl rfl (rd_alloc HR.out _) (by unfold maxLen; omega) (by omega) (by simp) ?_); intro v' w1 hown hg))
      refine (wideOf_spec _ _).mono ?_
      rintro _ _ ⟨rfl, rfl⟩
      rw [hw]
      have HB := Lib.hid (made_grown hg)
      have HO := Lib.hid hown
      clear hg hown hw
      go_wp2_with (first | (at_builtin; go_must (refine wpList_append_own _ rfl (.tmp 51) (.tmp 70) 39 rfl w.heap.size 5 i0 (.int .u8 0) 1 1 Tryd.underlying39 HI.out hz hs hb rfl (by decide) _ _ _ rfl (HO.out.alloc _) ⟨w1.heap.size, 0, none⟩ 4 4 [.int .u8 (240 + n / 262144), .int .u8 (128 + n / 4096 % 64), .int .u8 (128 + n / 64 % 64), .int .u8 (128 + n % 64)] rfl rfl (by exact World.news_of_block (heap_alloc_new _ _)) (by simp; exact ⟨rfl, rfl, rfl, rfl⟩) (by unfold maxLen; omega) (by omega) (by simp only [World.size_alloc]; have := HB.out.size; omega) ?_); intro v2 w2 hown2 hg2 q1; clear q1))
      go_ret
      have hfin : w2.ownsRow w.heap.size 5 1 v2 (zs ++ [240 + n / 262144, 128 + n / 4096 % 64, 128 + n / 64 % 64, 128 + n % 64]).length ((zs ++ [240 + n / 262144, 128 + n / 4096 % 64, 128 + n / 64 % 64, 128 + n % 64]).map (Value.int .u8)) := by simpa using hown2
      exact ⟨_, rfl, hfin, (HB.out.alloc HB.out.size _).grown hg2 (by simp only [World.size_alloc]; have := HB.out.size; omega) (fun k hk => (HO.out.lt k hk).1)⟩


end Go.Proofs.YtilmhemcpgiikaaDoor
