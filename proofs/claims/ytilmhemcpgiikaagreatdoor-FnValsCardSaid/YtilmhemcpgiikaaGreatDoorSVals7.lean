/- Vals: texts of the proof (VEq VOwn). -/
import Derived.Test.YtilmhemcpgiikaaGreatDoorSVals6
import Derived.StillTailTactics
import Derived.Deep.OwnRows
/- eqVal: a tree in memory equals the same tree in memory. -/
namespace Go.Proofs.YtilmhemcpgiikaaGreatDoor
open Go.ChangeShapes Go.WideShapes Go.ChangeAt Go.RowKit
open Go.ChangeMaps (open_string shut_string)


theorem vbelow1 (w : World) (o : Obj) : Below w.heap.size w (w.alloc o) := (Below.refl _ _).alloc (Nat.le_refl _) o
theorem vbelow2 (w : World) (o o' : Obj) : Below w.heap.size w ((w.alloc o).alloc o') := (vbelow1 w o).alloc (by simp) o'
theorem vnx {w w1 w2 : World} (h : Below w.heap.size w w1) (k : Below w1.heap.size w1 w2) : Below w.heap.size w w2 := h.trans (k.mono h.size)
end Go.Proofs.YtilmhemcpgiikaaGreatDoor
/- Trees that a call has made: their blocks are its own, and no two places share one. -/
namespace Go.Proofs.YtilmhemcpgiikaaGreatDoor
open Go.Deep Go.ChangeShapes Go.WideShapes Go.ChangeAt Go.RowKit

/-- The five cells of element j, by an index function. -/
def Cells5 (f : Nat → Value) (j : Nat) (t : Tree) (u : Value) : Prop :=
  f (j * 5) = .int .i64 t.kind ∧ f (j * 5 + 1) = .int .i64 t.n ∧ f (j * 5 + 2) = .int .i64 t.x ∧ f (j * 5 + 3) = .string t.s ∧ f (j * 5 + 4) = u

/-- A slice value whose elements hold these trees, in blocks of S, each block met once. -/
inductive OSl (w : World) (T : TypeId) : Value → List Tree → (Nat → Prop) → Prop
  | nil (a : Option Addr) (cap : Nat) (S : Nat → Prop) (h : cap ≤ maxLen) : OSl w T (.slice a 0 cap) [] S
  | row {g cap : Nat} {f : Nat → Value} {l : List Tree} {us : Nat → Value} {Si : Nat → Nat → Prop} {S : Nat → Prop}
      (h0 : 0 < l.length) (hrow : w.rowIs g T (cap * 5) f) (hcap : l.length ≤ cap) (hmax : cap ≤ maxLen)
      (hc : ∀ j (h : j < l.length), Cells5 f j l[j] (us j) ∧ Fits l[j].kind l[j].n l[j].x l[j].s)
      (hsub : ∀ j (h : j < l.length), OSl w T (us j) l[j].l (Si j))
      (hS : S g) (hSi : ∀ j b, j < l.length → Si j b → S b ∧ b ≠ g)
      (hd : ∀ i j b, i < l.length → j < l.length → i ≠ j → Si i b → Si j b → False) : OSl w T (.slice (some ⟨g, 0, none⟩) l.length cap) l S

theorem OSl.kept {w w' : World} {T : TypeId} {v : Value} {l : List Tree} {S : Nat → Prop} (h : OSl w T v l S) : (∀ b, S b → w'.heap[b]? = w.heap[b]?) → OSl w' T v l S := by
  induction h with
  | nil a cap S h => exact fun _ => .nil a cap S h
  | row h0 hrow hcap hmax hc hsub hS hSi hd ih => exact fun hk => .row h0 (hrow.of_block (hk _ hS)) hcap hmax hc (fun j hj => ih j hj (fun b hb => hk b (hSi j b hj hb).1)) hS hSi hd

theorem OSl.mono {w : World} {T : TypeId} {v : Value} {l : List Tree} {S S' : Nat → Prop} (h : OSl w T v l S) (hS : ∀ b, S b → S' b) : OSl w T v l S' := by
  cases h with
  | nil a cap S h => exact .nil a cap S' h
  | row h0 hrow hcap hmax hc hsub hSg hSi hd => exact .row h0 hrow hcap hmax hc hsub (hS _ hSg) (fun j b hj hb => ⟨hS b (hSi j b hj hb).1, (hSi j b hj hb).2⟩) hd

theorem tat_of {w : World} {b off : Nat} {t : Tree} {u : Value} (c0 : w.cell? ⟨b, off, none⟩ = some (.int .i64 t.kind)) (c1 : w.cell? ⟨b, off + 1, none⟩ = some (.int .i64 t.n)) (c2 : w.cell? ⟨b, off + 2, none⟩ = some (.int .i64 t.x))
    (c3 : w.cell? ⟨b, off + 3, none⟩ = some (.string t.s)) (c4 : w.cell? ⟨b, off + 4, none⟩ = some u) (h : TSl w u t.l) (fit : Fits t.kind t.n t.x t.s) : TAt w b off t := by
  obtain ⟨a, cap', b', off', rfl, q1, q2, q3, q4⟩ := h
  cases t
  exact .mk c0 c1 c2 c3 c4 fit q1 q2 q3 q4

theorem OSl.tsl {w : World} {T : TypeId} {v : Value} {l : List Tree} {S : Nat → Prop} (h : OSl w T v l S) : TSl w v l := by
  induction h with
  | nil a cap S h => exact ⟨a, cap, 0, 0, rfl, Nat.zero_le _, h, fun h => absurd rfl h, fun j h => absurd h (Nat.not_lt_zero _)⟩
  | row h0 hrow hcap hmax hc hsub hS hSi hd ih =>
    refine ⟨_, _, _, 0, rfl, hcap, hmax, fun _ => rfl, fun j hj => ?_⟩
    obtain ⟨⟨e0, e1, e2, e3, e4⟩, fit⟩ := hc j hj
    have hc0 := hrow.cell (i := j * 5) (by omega)
    have hc1 := hrow.cell (i := j * 5 + 1) (by omega)
    have hc2 := hrow.cell (i := j * 5 + 2) (by omega)
    have hc3 := hrow.cell (i := j * 5 + 3) (by omega)
    have hc4 := hrow.cell (i := j * 5 + 4) (by omega)
    rw [e0] at hc0
    rw [e1] at hc1
    rw [e2] at hc2
    rw [e3] at hc3
    rw [e4] at hc4
    rw [Nat.zero_add]
    exact tat_of hc0 hc1 hc2 hc3 hc4 (ih j hj) fit

/-- The range of blocks that a call has made. -/
def Rng (lo hi : Nat) (b : Nat) : Prop := lo ≤ b ∧ b < hi

/-- A row of elements, the first j of which are filled. -/
def Part (w wr : World) (T : TypeId) (l : List Tree) (j : Nat) : Prop :=
  ∃ (f : Nat → Value) (us : Nat → Value) (Si : Nat → Nat → Prop), wr.rowIs w.heap.size T (l.length * 5) f ∧
    (∀ i (h : i < l.length), i < j → Cells5 f i l[i] (us i) ∧ Fits l[i].kind l[i].n l[i].x l[i].s ∧ OSl wr T (us i) l[i].l (Si i)) ∧
    (∀ i b, i < j → Si i b → w.heap.size < b ∧ b < wr.heap.size) ∧ (∀ i i' b, i < j → i' < j → i ≠ i' → Si i b → Si i' b → False)

theorem part_zero {w wr : World} {T : TypeId} {l : List Tree} {f : Nat → Value} (h : wr.rowIs w.heap.size T (l.length * 5) f) : Part w wr T l 0 :=
  ⟨f, fun _ => undef, fun _ _ => False, h, fun _ _ h => absurd h (Nat.not_lt_zero _), fun _ _ h => absurd h (Nat.not_lt_zero _), fun _ _ _ h => absurd h (Nat.not_lt_zero _)⟩

theorem part_step {w wr w1 : World} {T : TypeId} {l : List Tree} {j : Nat} (hp : Part w wr T l j) (hj : j < l.length) (hlt : w.heap.size < wr.heap.size) (hb : Below wr.heap.size wr w1) {u : Value}
    (fit : Fits l[j].kind l[j].n l[j].x l[j].s) (ho : OSl w1 T u l[j].l (Rng wr.heap.size w1.heap.size)) :
    (∀ r, r < 5 → (∃ x, w1.cell? ⟨w.heap.size, j * 5 + r, none⟩ = some x) ∧ w1.frozen? ⟨w.heap.size, j * 5 + r, none⟩ = false) ∧
    Part w (((((w1.setCell ⟨w.heap.size, j * 5, none⟩ (.int .i64 l[j].kind)).setCell ⟨w.heap.size, j * 5 + 1, none⟩ (.int .i64 l[j].n)).setCell ⟨w.heap.size, j * 5 + 2, none⟩ (.int .i64 l[j].x)).setCell ⟨w.heap.size, j * 5 + 3, none⟩ (.string l[j].s)).setCell ⟨w.heap.size, j * 5 + 4, none⟩ u) T l (j + 1) := by
  obtain ⟨f, us, Si, hrow, hc, hr, hd⟩ := hp
  have hrow1 : w1.rowIs w.heap.size T (l.length * 5) f := hrow.of_block (hb.block _ hlt)
  refine ⟨fun r hr => ⟨⟨_, hrow1.cell (by omega)⟩, hrow1.frozen _⟩, ?_⟩
  have hrow2 := ((((hrow1.set (j * 5) (.int .i64 l[j].kind)).set (j * 5 + 1) (.int .i64 l[j].n)).set (j * 5 + 2) (.int .i64 l[j].x)).set (j * 5 + 3) (.string l[j].s)).set (j * 5 + 4) u
  have hsz : (((((w1.setCell ⟨w.heap.size, j * 5, none⟩ (.int .i64 l[j].kind)).setCell ⟨w.heap.size, j * 5 + 1, none⟩ (.int .i64 l[j].n)).setCell ⟨w.heap.size, j * 5 + 2, none⟩ (.int .i64 l[j].x)).setCell ⟨w.heap.size, j * 5 + 3, none⟩ (.string l[j].s)).setCell ⟨w.heap.size, j * 5 + 4, none⟩ u).heap.size = w1.heap.size := by simp [World.setCell]
  have hkeep : ∀ b, b ≠ w.heap.size → (((((w1.setCell ⟨w.heap.size, j * 5, none⟩ (.int .i64 l[j].kind)).setCell ⟨w.heap.size, j * 5 + 1, none⟩ (.int .i64 l[j].n)).setCell ⟨w.heap.size, j * 5 + 2, none⟩ (.int .i64 l[j].x)).setCell ⟨w.heap.size, j * 5 + 3, none⟩ (.string l[j].s)).setCell ⟨w.heap.size, j * 5 + 4, none⟩ u).heap[b]? = w1.heap[b]? := by
    intro b hb
    rw [Below.heap_setCell _ _ _ _ hb, Below.heap_setCell _ _ _ _ hb, Below.heap_setCell _ _ _ _ hb, Below.heap_setCell _ _ _ _ hb, Below.heap_setCell _ _ _ _ hb]
  refine ⟨_, fun i => if i = j then u else us i, fun i => if i = j then Rng wr.heap.size w1.heap.size else Si i, hrow2, fun i hi hij => ?_, fun i b hij hb' => ?_, fun i i' b hi hi' hne h h' => ?_⟩
  · by_cases e : i = j
    · subst e
      simp only [if_pos]
      refine ⟨⟨?_, ?_, ?_, ?_, ?_⟩, fit, ho.kept (fun b hb' => hkeep b (by have := hb'.1; omega))⟩
      · show (if _ then _ else _) = _
        simp
      · show (if _ then _ else _) = _
        simp
      · show (if _ then _ else _) = _
        simp
      · show (if _ then _ else _) = _
        simp
      · show (if _ then _ else _) = _
        simp
    · obtain ⟨⟨e0, e1, e2, e3, e4⟩, fit', ho'⟩ := hc i hi (by omega)
      simp only [if_neg e]
      have hne : ∀ r s, r < 5 → s < 5 → i * 5 + r ≠ j * 5 + s := by intro r s _ _; omega
      refine ⟨⟨?_, ?_, ?_, ?_, ?_⟩, fit', ho'.kept (fun b hb' => ?_)⟩
      · simp only [show ¬ i * 5 = j * 5 + 4 by omega, show ¬ i * 5 = j * 5 + 3 by omega, show ¬ i * 5 = j * 5 + 2 by omega, show ¬ i * 5 = j * 5 + 1 by omega, show ¬ i * 5 = j * 5 by omega, if_false]; exact e0
      · simp only [show ¬ i * 5 + 1 = j * 5 + 4 by omega, show ¬ i * 5 + 1 = j * 5 + 3 by omega, show ¬ i * 5 + 1 = j * 5 + 2 by omega, show ¬ i * 5 + 1 = j * 5 + 1 by omega, show ¬ i * 5 + 1 = j * 5 by omega, if_false]; exact e1
      · simp only [show ¬ i * 5 + 2 = j * 5 + 4 by omega, show ¬ i * 5 + 2 = j * 5 + 3 by omega, show ¬ i * 5 + 2 = j * 5 + 2 by omega, show ¬ i * 5 + 2 = j * 5 + 1 by omega, show ¬ i * 5 + 2 = j * 5 by omega, if_false]; exact e2
      · simp only [show ¬ i * 5 + 3 = j * 5 + 4 by omega, show ¬ i * 5 + 3 = j * 5 + 3 by omega, show ¬ i * 5 + 3 = j * 5 + 2 by omega, show ¬ i * 5 + 3 = j * 5 + 1 by omega, show ¬ i * 5 + 3 = j * 5 by omega, if_false]; exact e3
      · simp only [show ¬ i * 5 + 4 = j * 5 + 4 by omega, show ¬ i * 5 + 4 = j * 5 + 3 by omega, show ¬ i * 5 + 4 = j * 5 + 2 by omega, show ¬ i * 5 + 4 = j * 5 + 1 by omega, show ¬ i * 5 + 4 = j * 5 by omega, if_false]; exact e4
      · have := hr i b (by omega) hb'
        rw [hkeep b (by omega), hb.block b this.2]
  · by_cases e : i = j
    · simp only [if_pos e] at hb'
      have := hb'.1; have := hb'.2
      rw [hsz]; omega
    · simp only [if_neg e] at hb'
      have := hr i b (by omega) hb'
      have := hb.size
      rw [hsz]; omega
  · by_cases e : i = j
    · by_cases e' : i' = j
      · omega
      · simp only [if_pos e] at h
        simp only [if_neg e'] at h'
        have := hr i' b (by omega) h'
        have := h.1
        omega
    · by_cases e' : i' = j
      · simp only [if_neg e] at h
        simp only [if_pos e'] at h'
        have := hr i b (by omega) h
        have := h'.1
        omega
      · simp only [if_neg e] at h
        simp only [if_neg e'] at h'
        exact hd i i' b (by omega) (by omega) hne h h'

theorem part_done {w wr : World} {T : TypeId} {l : List Tree} (hp : Part w wr T l l.length) (hlt : w.heap.size < wr.heap.size) (hmax : l.length ≤ maxLen) :
    OSl wr T (.slice (some ⟨w.heap.size, 0, none⟩) l.length l.length) l (Rng w.heap.size wr.heap.size) := by
  obtain ⟨f, us, Si, hrow, hc, hr, hd⟩ := hp
  by_cases h0 : l.length = 0
  · have : l = [] := List.eq_nil_of_length_eq_zero h0
    subst this
    exact .nil _ _ _ hmax
  · exact .row (us := us) (Si := Si) (by omega) hrow (Nat.le_refl _) hmax (fun j hj => ⟨(hc j hj hj).1, (hc j hj hj).2.1⟩) (fun j hj => (hc j hj hj).2.2) ⟨Nat.le_refl _, hlt⟩
      (fun j b hj hb => ⟨⟨by have := (hr j b hj hb).1; omega, (hr j b hj hb).2⟩, by have := (hr j b hj hb).1; omega⟩) (fun i j b hi hj hne h h' => hd i j b hi hj hne h h')
end Go.Proofs.YtilmhemcpgiikaaGreatDoor
