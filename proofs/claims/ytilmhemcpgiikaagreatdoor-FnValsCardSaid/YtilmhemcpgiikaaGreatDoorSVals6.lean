/- Vals: texts of the proof (CTwo CBox Val). -/
import Derived.Test.YtilmhemcpgiikaaGreatDoorSVals1
import Derived.Test.YtilmhemcpgiikaaGreatDoorSVals5
import Derived.Lib.SmallJoins
import Derived.Deep.Slices
import Derived.Deep.Fields
import Derived.ChangeSame
/- Blocks of two cells, read again later. -/
namespace Go.Proofs.YtilmhemcpgiikaaGreatDoor
open Go.Deep Go.ChangeShapes Go.WideShapes Go.ChangeAt Go.RowKit

theorem two_num {W w1 : World} (hb : Below W.heap.size W w1) {B : Nat} {a b : Value} {T : TypeId} (h : W.heap[B]? = some (.cells #[a, b] T (0, 0))) :
    w1.cell? ⟨B, 0, none⟩ = some a ∧ w1.cell? ⟨B, 1, none⟩ = some b ∧ ∀ o, w1.frozen? ⟨B, o, none⟩ = false := by
  have hlt : B < W.heap.size := (Array.getElem?_eq_some_iff.1 h).1
  have h1 : w1.heap[B]? = some (.cells #[a, b] T (0, 0)) := (hb.block B hlt).trans h
  refine ⟨?_, ?_, fun o => ?_⟩
  all_goals simp [World.cell?, World.frozen?, h1]
theorem first_block (w : World) (o o' : Obj) : ((w.alloc o).alloc o').heap[w.heap.size]? = some o := by
  rw [Below.heap_alloc _ _ _ (by simp only [World.size_alloc]; omega)]
  exact heap_alloc_new w o
theorem second_block2 (w : World) (o o' : Obj) : ((w.alloc o).alloc o').heap[w.heap.size + 1]? = some o' := by
  have := heap_alloc_new (w.alloc o) o'
  simpa only [World.size_alloc] using this
theorem one_block (w : World) (o : Obj) : (w.alloc o).heap[w.heap.size]? = some o := heap_alloc_new w o
end Go.Proofs.YtilmhemcpgiikaaGreatDoor
/- Boxes of two cells of a draw's own, kept while the cursor turns. -/
namespace Go.Proofs.YtilmhemcpgiikaaGreatDoor
open Go.Deep Go.ChangeShapes Go.WideShapes Go.ChangeAt Go.RowKit

section
variable {w w1 : World} {P R : Nat}
theorem box_gr {o : Obj} (h : w.heap[R]? = some o) (g : w.grownBy w1 (some P)) (hne : P ≠ R) : w1.heap[R]? = some o :=
  (g.block R (Array.getElem?_eq_some_iff.1 h).1 (fun e => hne (Option.some.inj e).symm)).trans h
theorem box_below {o : Obj} (h : w.heap[R]? = some o) (g : Below w.heap.size w w1) : w1.heap[R]? = some o :=
  (g.block R (Array.getElem?_eq_some_iff.1 h).1).trans h
theorem box_alloc {o : Obj} (h : w.heap[R]? = some o) (o' : Obj) : (w.alloc o').heap[R]? = some o := box_below h (below1 w o')
theorem box_other {o : Obj} (h : w.heap[R]? = some o) {Q j : Nat} (v : Value) (hne : R ≠ Q) : (w.setCell ⟨Q, j, none⟩ v).heap[R]? = some o :=
  (Below.heap_setCell _ _ _ _ hne).trans h
theorem box_set0 {a b : Value} {T : TypeId} (h : w.heap[R]? = some (.cells #[a, b] T (0, 0))) (v : Value) : (w.setCell ⟨R, 0, none⟩ v).heap[R]? = some (.cells #[v, b] T (0, 0)) := by
  simp [World.setCell, Array.getElem?_modify, h]
theorem box_set1 {a b : Value} {T : TypeId} (h : w.heap[R]? = some (.cells #[a, b] T (0, 0))) (v : Value) : (w.setCell ⟨R, 1, none⟩ v).heap[R]? = some (.cells #[a, v] T (0, 0)) := by
  simp [World.setCell, Array.getElem?_modify, h]
theorem box_two {a b : Value} {T : TypeId} (h : w.heap[R]? = some (.cells #[a, b] T (0, 0))) :
    w.cell? ⟨R, 0, none⟩ = some a ∧ w.cell? ⟨R, 1, none⟩ = some b ∧ w.frozen? ⟨R, 0, none⟩ = false ∧ w.frozen? ⟨R, 1, none⟩ = false := by
  obtain ⟨h0, h1, h2⟩ := two_num (Below.refl _ _) h
  exact ⟨h0, h1, h2 0, h2 1⟩
theorem box_lt {o : Obj} (h : w.heap[R]? = some o) : R < w.heap.size := (Array.getElem?_eq_some_iff.1 h).1
theorem Cur.set (h : Cur w P) {j : Nat} (v : Value) (hR : P < R) : Cur (w.setCell ⟨R, j, none⟩ v) P :=
  h.kept (by simp [World.setCell]) (fun k hk _ => Below.heap_setCell _ _ _ _ (by dsimp only; omega))
theorem gr_sets (h : w.grownBy w1 (some P)) {j : Nat} (v : Value) (hR : w.heap.size ≤ R) : w.grownBy (w1.setCell ⟨R, j, none⟩ v) (some P) :=
  ⟨h.os, h.tape, h.output, by simpa [World.setCell] using h.size, fun k hk hne => (Below.heap_setCell _ _ _ _ (by dsimp only; omega)).trans (h.block k hk hne)⟩
theorem gr_alloc (h : w.grownBy w1 (some P)) (o : Obj) : w.grownBy (w1.alloc o) (some P) := gr_on h (below1 _ _)
theorem below_alloc {W : World} (h : Below W.heap.size W w) (o : Obj) : Below W.heap.size W (w.alloc o) := h.alloc h.size o
theorem below_set {W : World} (h : Below W.heap.size W w) {j : Nat} (v : Value) (hR : W.heap.size ≤ R) : Below W.heap.size W (w.setCell ⟨R, j, none⟩ v) := h.setCell hR _
end
end Go.Proofs.YtilmhemcpgiikaaGreatDoor
/- Trees of values: what a Val in memory reads as; how an argument is opened to its tree. -/
namespace Go.Proofs.YtilmhemcpgiikaaGreatDoor
open Go.ChangeShapes Go.WideShapes Go.ChangeAt Go.RowKit Go.Joins Go.Deep
open Go.ChangeMaps (open_string shut_string)

/-- A tree of values: kind, n, x, the text, the elements. -/
inductive Tree where
  | mk : Int → Int → Int → ByteArray → List Tree → Tree
def Tree.kind : Tree → Int | .mk k _ _ _ _ => k
def Tree.n : Tree → Int | .mk _ n _ _ _ => n
def Tree.x : Tree → Int | .mk _ _ x _ _ => x
def Tree.s : Tree → ByteArray | .mk _ _ _ s _ => s
def Tree.l : Tree → List Tree | .mk _ _ _ _ l => l
theorem Tree.eta (t : Tree) : t = .mk t.kind t.n t.x t.s t.l := by cases t; rfl
@[simp] theorem Tree.kind_mk (k n x : Int) (s : ByteArray) (l : List Tree) : (Tree.mk k n x s l).kind = k := rfl
@[simp] theorem Tree.n_mk (k n x : Int) (s : ByteArray) (l : List Tree) : (Tree.mk k n x s l).n = n := rfl
@[simp] theorem Tree.x_mk (k n x : Int) (s : ByteArray) (l : List Tree) : (Tree.mk k n x s l).x = x := rfl
@[simp] theorem Tree.s_mk (k n x : Int) (s : ByteArray) (l : List Tree) : (Tree.mk k n x s l).s = s := rfl
@[simp] theorem Tree.l_mk (k n x : Int) (s : ByteArray) (l : List Tree) : (Tree.mk k n x s l).l = l := rfl

/-- The numbers fit an int, the text is no longer than a text can be. -/
structure Fits (k n x : Int) (s : ByteArray) : Prop where
  kind : -9223372036854775808 ≤ k ∧ k ≤ 9223372036854775807
  n : -9223372036854775808 ≤ n ∧ n ≤ 9223372036854775807
  x : -9223372036854775808 ≤ x ∧ x ≤ 9223372036854775807
  s : s.size ≤ 9223372036854775807

/-- The five cells from ⟨b, off⟩ on hold this tree. -/
inductive TAt (w : World) : Nat → Nat → Tree → Prop
  | mk {b off : Nat} {k n x : Int} {s : ByteArray} {l : List Tree} {a : Option Addr} {cap b' off' : Nat}
      (c0 : w.cell? ⟨b, off, none⟩ = some (.int .i64 k)) (c1 : w.cell? ⟨b, off + 1, none⟩ = some (.int .i64 n)) (c2 : w.cell? ⟨b, off + 2, none⟩ = some (.int .i64 x))
      (c3 : w.cell? ⟨b, off + 3, none⟩ = some (.string s)) (c4 : w.cell? ⟨b, off + 4, none⟩ = some (.slice a l.length cap))
      (fit : Fits k n x s) (hcap : l.length ≤ cap) (hmax : cap ≤ maxLen) (ha : l ≠ [] → a = some ⟨b', off', none⟩)
      (hl : ∀ j (h : j < l.length), TAt w b' (off' + j * 5) l[j]) : TAt w b off (.mk k n x s l)

/-- A slice value whose elements hold these trees. -/
def TSl (w : World) (v : Value) (l : List Tree) : Prop :=
  ∃ a cap b' off', v = .slice a l.length cap ∧ l.length ≤ cap ∧ cap ≤ maxLen ∧ (l ≠ [] → a = some ⟨b', off', none⟩) ∧ ∀ j (h : j < l.length), TAt w b' (off' + j * 5) l[j]

/-- A Val by value: its five parts. -/
def TVal (w : World) (v : Value) (t : Tree) : Prop :=
  ∃ u, v = .agg #[.int .i64 t.kind, .int .i64 t.n, .int .i64 t.x, .string t.s, u] ∧ TSl w u t.l ∧ Fits t.kind t.n t.x t.s

/-- What a world below agrees on, holds the same trees, where they lie below. -/
theorem TAt.lt {w : World} {b off : Nat} {t : Tree} (h : TAt w b off t) : b < w.heap.size := by
  cases h with
  | mk c0 => exact World.block_lt_of_cell? w _ c0

theorem TAt.kept {w w' : World} (hb : Below w.heap.size w w') {b off : Nat} {t : Tree} (h : TAt w b off t) : TAt w' b off t := by
  induction h with
  | mk c0 c1 c2 c3 c4 fit hcap hmax ha hl ih =>
    have hlt := World.block_lt_of_cell? w _ c0
    have kc := fun o v (h : w.cell? ⟨_, o, none⟩ = some v) => (World.cell?_of_block (w := w) (a := ⟨_, o, none⟩) (hb.block _ hlt)).trans h
    exact .mk (kc _ _ c0) (kc _ _ c1) (kc _ _ c2) (kc _ _ c3) (kc _ _ c4) fit hcap hmax ha ih

theorem TSl.kept {w w' : World} (hb : Below w.heap.size w w') {v : Value} {l : List Tree} (h : TSl w v l) : TSl w' v l := by
  obtain ⟨a, cap, b', off', h1, h2, h3, h4, h5⟩ := h
  exact ⟨a, cap, b', off', h1, h2, h3, h4, fun j hj => (h5 j hj).kept hb⟩

theorem TVal.kept {w w' : World} (hb : Below w.heap.size w w') {v : Value} {t : Tree} (h : TVal w v t) : TVal w' v t := by
  obtain ⟨u, h1, h2, h3⟩ := h
  exact ⟨u, h1, h2.kept hb, h3⟩

theorem TSl.form {w : World} {u : Value} {l : List Tree} (h : TSl w u l) : ∃ a n cap, u = .slice a n cap := by
  obtain ⟨a, cap, _, _, rfl, _⟩ := h; exact ⟨_, _, _, rfl⟩

/-- The five cells, and the elements. -/
theorem TAt.parts {w : World} {b off : Nat} {t : Tree} (h : TAt w b off t) : ∃ u, w.cell? ⟨b, off, none⟩ = some (.int .i64 t.kind) ∧ w.cell? ⟨b, off + 1, none⟩ = some (.int .i64 t.n) ∧
    w.cell? ⟨b, off + 2, none⟩ = some (.int .i64 t.x) ∧ w.cell? ⟨b, off + 3, none⟩ = some (.string t.s) ∧ w.cell? ⟨b, off + 4, none⟩ = some u ∧ TSl w u t.l ∧ Fits t.kind t.n t.x t.s := by
  cases h with
  | mk c0 c1 c2 c3 c4 fit hcap hmax ha hl => exact ⟨_, c0, c1, c2, c3, c4, ⟨_, _, _, _, rfl, hcap, hmax, ha, hl⟩, fit⟩

mutual
/-- How many values a tree has. -/
def Tree.sz : Tree → Nat | .mk _ _ _ _ l => 1 + szL l
def szL : List Tree → Nat | [] => 0 | t :: ts => t.sz + szL ts
end
theorem sz_mem {t : Tree} : ∀ {l : List Tree}, t ∈ l → t.sz ≤ szL l
  | [], h => by simp at h
  | u :: ts, h => by
    rw [szL]
    rcases List.mem_cons.1 h with rfl | h
    · omega
    · have := sz_mem h; omega
/-- Induction over a tree by its elements. -/
theorem Tree.ind {p : Tree → Prop} (h : ∀ t, (∀ t' ∈ t.l, p t') → p t) : ∀ t, p t := by
  have : ∀ k (t : Tree), t.sz ≤ k → p t := by
    intro k
    induction k with
    | zero => intro t ht; cases t; simp [Tree.sz] at ht; 
    | succ k ih =>
      intro t ht
      refine h t fun t' ht' => ih t' ?_
      have := sz_mem ht'
      cases t
      simp [Tree.sz] at ht this
      omega
  exact fun t => this t.sz t (Nat.le_refl _)

section
variable {H : Type} {enc : TypeId × Value → H} {P : Program} {w : World}

/-- A row of Vals, each opened, is a slice of trees. -/
theorem vals_of {tV : TypeId} {spare : Nat → Bool} {held : Bool} {m len cap : Nat} {a : Addr} {elems : List (DataW H × List MemPlace)} (hC : P.cellsOf tV = 5) (hl : len ≤ cap) (hm : cap ≤ maxLen)
    (hat : ∀ i, i < len → (w.cells? 0 (a.add (i * P.cellsOf tV)) (P.cellsOf tV)).bind (DataW.trod enc P w 0 spare held m tV) = elems[i]?)
    (_hx : ∀ i, i < len → i < cap) (hel : elems.length = len)
    (ih : ∀ (cs : List Value) (x : DataW H × List MemPlace), DataW.trod enc P w 0 spare held m tV cs = some x →
      ∃ (t : Tree) (u : Value), cs = [.int .i64 t.kind, .int .i64 t.n, .int .i64 t.x, .string t.s, u] ∧ TSl w u t.l ∧ Fits t.kind t.n t.x t.s) :
    ∃ l, TSl w (.slice (some a) len cap) l := by
  have each : ∀ i, i < len → ∃ (t : Tree) (u : Value), w.cells? 0 (a.add (i * 5)) 5 = some [.int .i64 t.kind, .int .i64 t.n, .int .i64 t.x, .string t.s, u] ∧ TSl w u t.l ∧ Fits t.kind t.n t.x t.s := by
    intro i hi
    have hi' := hat i hi
    rw [hC] at hi'
    have hsome : elems[i]? = some (elems[i]'(by omega)) := List.getElem?_eq_getElem (by omega)
    rw [hsome] at hi'
    cases hcc : w.cells? 0 (a.add (i * 5)) 5 with
    | none => rw [hcc] at hi'; simp at hi'
    | some cs' =>
      rw [hcc] at hi'
      obtain ⟨t, u, rfl, ht, hf⟩ := ih cs' _ hi'
      exact ⟨t, u, rfl, ht, hf⟩
  by_cases hz : len = 0
  · subst hz
    exact ⟨[], some a, cap, 0, 0, rfl, hl, hm, fun h => absurd rfl h, fun j h => absurd h (Nat.not_lt_zero _)⟩
  · have hinh : Inhabited Tree := ⟨.mk 0 0 0 ByteArray.empty []⟩
    obtain ⟨T, hT⟩ := choose_lt (n := len) (p := fun i (t : Tree) => ∃ u, w.cells? 0 (a.add (i * 5)) 5 = some [.int .i64 t.kind, .int .i64 t.n, .int .i64 t.x, .string t.s, u] ∧ TSl w u t.l ∧ Fits t.kind t.n t.x t.s) each
    obtain ⟨b, off, spot⟩ := a
    have hspot : spot = none := by
      obtain ⟨u, hc, _⟩ := hT 0 (by omega)
      have := (World.cells?_some hc).2.2 0 (by omega)
      exact World.cell?_spot (by simpa [Addr.add] using this)
    subst hspot
    have hadd : ∀ j, (⟨b, off, none⟩ : Addr).add j = ⟨b, off + j, none⟩ := fun j => by unfold Addr.add; split <;> simp_all
    refine ⟨(List.range len).map T, some ⟨b, off, none⟩, cap, b, off, by simp, by simpa using hl, hm, fun _ => rfl, fun j hj => ?_⟩
    have hj' : j < len := by simpa using hj
    obtain ⟨u, hc, ⟨a', cap', b', off', hu, q1, q2, q3, q4⟩, hf⟩ := hT j hj'
    have hcell := (World.cells?_some hc).2.2
    have e : ((List.range len).map T)[j] = .mk (T j).kind (T j).n (T j).x (T j).s (T j).l := by rw [List.getElem_map, List.getElem_range]; exact Tree.eta _
    rw [e]
    have ad : ∀ q, ((⟨b, off, none⟩ : Addr).add (j * 5)).add q = ⟨b, off + j * 5 + q, none⟩ := fun q => by rw [add_add, hadd, Nat.add_assoc]
    have k0 := hcell 0 (by omega)
    have k1 := hcell 1 (by omega)
    have k2 := hcell 2 (by omega)
    have k3 := hcell 3 (by omega)
    have k4 := hcell 4 (by omega)
    rw [ad] at k0 k1 k2 k3 k4
    exact .mk (by simpa using k0) (by simpa using k1) (by simpa using k2) (by simpa using k3) (by rw [k4, hu]; rfl) hf q1 q2 q3 q4

/-- The cells of a Val that can be read, opened to its tree. -/
theorem open_val_cells {tV tL tI tS : TypeId} {f0 f1 f2 f3 f4 : Field} {spare : Nat → Bool} {held : Bool}
    (hs : P.underlying tV = some (.struct #[f0, f1, f2, f3, f4])) (hone : oneCellFields P #[f0, f1, f2, f3, f4] = true) (hC : P.cellsOf tV = 5)
    (h0 : P.underlying f0.type = some (.int .i64)) (h1 : P.underlying f1.type = some (.int .i64)) (h2 : P.underlying f2.type = some (.int .i64))
    (h3 : P.underlying f3.type = some .string) (h4 : P.underlying f4.type = some (.slice tV)) :
    ∀ (fuel : Nat) (cs : List Value) (x : DataW H × List MemPlace), DataW.trod enc P w 0 spare held fuel tV cs = some x →
      ∃ (t : Tree) (u : Value), cs = [.int .i64 t.kind, .int .i64 t.n, .int .i64 t.x, .string t.s, u] ∧ TSl w u t.l ∧ Fits t.kind t.n t.x t.s := by
  intro fuel
  induction fuel using Nat.strongRecOn with
  | _ fuel ih =>
    intro cs x h
    obtain ⟨xs, n, rfl, hx, hcs, hlen, hg⟩ := DataW.trod_struct hs h
    obtain ⟨o0, k0⟩ := hone_of hone 0 f0 rfl
    obtain ⟨o1, k1⟩ := hone_of hone 1 f1 rfl
    obtain ⟨o2, k2⟩ := hone_of hone 2 f2 rfl
    obtain ⟨o3, k3⟩ := hone_of hone 3 f3 rfl
    obtain ⟨o4, k4⟩ := hone_of hone 4 f4 rfl
    match cs, hcs.trans hC with
    | [v0, v1, v2, v3, v4], _ =>
      match xs, hlen with
      | [y0, y1, y2, y3, y4], _ =>
        have g0 : DataW.trod enc P w 0 spare held n f0.type [v0] = some y0 := by simpa [o0, k0] using hg 0 f0 rfl
        have g1 : DataW.trod enc P w 0 spare held n f1.type [v1] = some y1 := by simpa [o1, k1] using hg 1 f1 rfl
        have g2 : DataW.trod enc P w 0 spare held n f2.type [v2] = some y2 := by simpa [o2, k2] using hg 2 f2 rfl
        have g3 : DataW.trod enc P w 0 spare held n f3.type [v3] = some y3 := by simpa [o3, k3] using hg 3 f3 rfl
        have g4 : DataW.trod enc P w 0 spare held n f4.type [v4] = some y4 := by simpa [o4, k4] using hg 4 f4 rfl
        obtain ⟨K, e0, _, w0⟩ := DataW.trod_int h0 g0
        obtain ⟨N, e1, _, w1⟩ := DataW.trod_int h1 g1
        obtain ⟨X, e2, _, w2⟩ := DataW.trod_int h2 g2
        obtain ⟨S, e3, _, w3⟩ := DataW.trod_string h3 g3
        simp only [List.cons.injEq, and_true] at e0 e1 e2 e3
        subst e0 e1 e2 e3
        have fit : Fits K N X S := ⟨wf64 w0, wf64 w1, wf64 w2, w3⟩
        rcases DataW.trod_slice h4 g4 with ⟨hc, _⟩ | ⟨a, len, cap, elems, rest, m, rfl, hc, _, _, hl, hm, hel, hat, _, _⟩
        · simp only [List.cons.injEq, and_true] at hc
          subst hc
          exact ⟨.mk K N X S [], _, rfl, ⟨none, 0, 0, 0, rfl, Nat.le_refl _, by simp [maxLen], fun h => absurd rfl h, fun j h => absurd h (Nat.not_lt_zero _)⟩, fit⟩
        · simp only [List.cons.injEq, and_true] at hc
          subst hc
          obtain ⟨l, hl'⟩ := vals_of hC hl hm (fun i hi => hat i hi) (fun i hi => by omega) hel (fun cs' x' h' => ih m (by omega) cs' x' h')
          exact ⟨.mk K N X S l, _, rfl, hl', fit⟩

/-- A Val that came in by value. -/
theorem open_val {r : Reach} {b0 : Nat} {tV : TypeId} {f0 f1 f2 f3 f4 : Field} {spare : Nat → Bool} {held : Bool} {v : Value} {d : DataW H} {p : List MemPlace}
    (hs : P.underlying tV = some (.struct #[f0, f1, f2, f3, f4])) (hone : oneCellFields P #[f0, f1, f2, f3, f4] = true) (hC : P.cellsOf tV = 5)
    (h0 : P.underlying f0.type = some (.int .i64)) (h1 : P.underlying f1.type = some (.int .i64)) (h2 : P.underlying f2.type = some (.int .i64))
    (h3 : P.underlying f3.type = some .string) (h4 : P.underlying f4.type = some (.slice tV))
    (hv : Value.okWide P w r b0 tV v) (h : DataW.Trod enc P w 0 spare held tV v d p) : ∃ t, TVal w v t := by
  obtain ⟨cs, rfl, hsz⟩ := okWide_struct hs hv
  obtain ⟨fuel, hf⟩ := h
  obtain ⟨t, u, hcs, ht, hfit⟩ := open_val_cells (tL := f4.type) (tI := f0.type) (tS := f3.type) hs hone hC h0 h1 h2 h3 h4 fuel _ _ hf
  refine ⟨t, u, ?_, ht, hfit⟩
  have : cs.toList = [.int .i64 t.kind, .int .i64 t.n, .int .i64 t.x, .string t.s, u] := by simpa [Value.cells] using hcs
  rw [← this]

/-- A slice of Vals that came in. -/
theorem open_vals {tV tL : TypeId} {f0 f1 f2 f3 f4 : Field} {spare : Nat → Bool} {held : Bool} {v : Value} {d : DataW H} {p : List MemPlace} {a : Option Addr} {len cap : Nat}
    (hs : P.underlying tV = some (.struct #[f0, f1, f2, f3, f4])) (hone : oneCellFields P #[f0, f1, f2, f3, f4] = true) (hC : P.cellsOf tV = 5)
    (h0 : P.underlying f0.type = some (.int .i64)) (h1 : P.underlying f1.type = some (.int .i64)) (h2 : P.underlying f2.type = some (.int .i64))
    (h3 : P.underlying f3.type = some .string) (h4 : P.underlying f4.type = some (.slice tV)) (hL : P.underlying tL = some (.slice tV))
    (hv : v = .slice a len cap) (h : DataW.Trod enc P w 0 spare held tL v d p) : ∃ l, TSl w v l := by
  subst hv
  obtain ⟨fuel, hf⟩ := h
  rcases DataW.trod_slice hL hf with ⟨hc, _⟩ | ⟨a, len, cap, elems, rest, m, rfl, hc, _, _, hl, hm, hel, hat, _, _⟩
  · simp [Value.cells] at hc
    obtain ⟨rfl, rfl, rfl⟩ := hc
    exact ⟨[], none, 0, 0, 0, rfl, Nat.le_refl _, by simp [maxLen], fun h => absurd rfl h, fun j h => absurd h (Nat.not_lt_zero _)⟩
  · simp [Value.cells] at hc
    obtain ⟨rfl, rfl, rfl⟩ := hc
    exact vals_of hC hl hm (fun i hi => hat i hi) (fun i hi => by omega) hel (open_val_cells (tL := f4.type) (tI := f0.type) (tS := f3.type) hs hone hC h0 h1 h2 h3 h4 m)
end
end Go.Proofs.YtilmhemcpgiikaaGreatDoor
