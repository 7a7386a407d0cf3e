/- Vals: texts of the proof (VDraw). -/
import Derived.Test.YtilmhemcpgiikaaGreatDoorSVals6
import Derived.Test.YtilmhemcpgiikaaGreatDoorSVals11
import Derived.Test.YtilmhemcpgiikaaGreatDoorSVals20
/- Trees that a draw makes while the cursor turns: what is kept, and which are right. -/
namespace Go.Proofs.YtilmhemcpgiikaaGreatDoor
open Go.Deep Go.ChangeShapes Go.WideShapes Go.ChangeAt Go.RowKit

section
variable {w w1 : World} {P lo R j : Nat} {T : TypeId} {v : Value} {l : List Tree}
theorem ap_gr (h : AP w lo T v l) (g : w.grownBy w1 (some P)) (hP : P < lo) : AP w1 lo T v l :=
  h.kept_lo g.size (fun b hb hlt => g.block b hlt (fun e => by cases e; omega))
theorem ap_set (h : AP w lo T v l) (x : Value) (hR : R < lo) : AP (w.setCell ⟨R, j, none⟩ x) lo T v l :=
  h.kept_lo (by simp [World.setCell]) (fun b hb _ => Below.heap_setCell _ _ _ _ (by dsimp only; omega))
theorem ap_alloc (h : AP w lo T v l) (o : Obj) : AP (w.alloc o) lo T v l := h.kept (below1 _ _)
theorem ap_drew (h : AP w lo T v l) : AP w.drew lo T v l := h.kept_lo (Nat.le_refl _) (fun _ _ _ => rfl)
theorem cur_drew (h : Cur w P) : Cur w.drew P := h
theorem gr_drew {w0 : World} (h : w0.grownBy w (some P)) : w0.grownBy w.drew (some P) := ⟨h.os, h.tape, h.output, h.size, h.block⟩
end
section
variable {w : World} {R : Nat} {a b c d e : Value} {T : TypeId}
theorem five_set0 (h : w.heap[R]? = some (.cells #[a, b, c, d, e] T (0, 0))) (v : Value) : (w.setCell ⟨R, 0, none⟩ v).heap[R]? = some (.cells #[v, b, c, d, e] T (0, 0)) := by
  simp [World.setCell, Array.getElem?_modify, h]
theorem five_set1 (h : w.heap[R]? = some (.cells #[a, b, c, d, e] T (0, 0))) (v : Value) : (w.setCell ⟨R, 1, none⟩ v).heap[R]? = some (.cells #[a, v, c, d, e] T (0, 0)) := by
  simp [World.setCell, Array.getElem?_modify, h]
theorem five_set2 (h : w.heap[R]? = some (.cells #[a, b, c, d, e] T (0, 0))) (v : Value) : (w.setCell ⟨R, 2, none⟩ v).heap[R]? = some (.cells #[a, b, v, d, e] T (0, 0)) := by
  simp [World.setCell, Array.getElem?_modify, h]
theorem five_set3 (h : w.heap[R]? = some (.cells #[a, b, c, d, e] T (0, 0))) (v : Value) : (w.setCell ⟨R, 3, none⟩ v).heap[R]? = some (.cells #[a, b, c, v, e] T (0, 0)) := by
  simp [World.setCell, Array.getElem?_modify, h]
theorem five_open (h : w.heap[R]? = some (.cells #[a, b, c, d, e] T (0, 0))) :
    w.cell? ⟨R, 0, none⟩ = some a ∧ w.cell? ⟨R, 1, none⟩ = some b ∧ w.cell? ⟨R, 2, none⟩ = some c ∧ w.cell? ⟨R, 3, none⟩ = some d ∧ w.cell? ⟨R, 4, none⟩ = some e ∧
    w.frozen? ⟨R, 0, none⟩ = false ∧ w.frozen? ⟨R, 1, none⟩ = false ∧ w.frozen? ⟨R, 2, none⟩ = false ∧ w.frozen? ⟨R, 3, none⟩ = false ∧ w.frozen? ⟨R, 4, none⟩ = false := by
  obtain ⟨h0, h1, h2, h3, h4, h5⟩ := five_kept (Below.refl _ _) h
  exact ⟨h0, h1, h2, h3, h4, h5 0, h5 1, h5 2, h5 3, h5 4⟩
end
/-- One more: the element's blocks are new, the row grew. -/
theorem APe.snocG {w0 w w' : World} {lo : Nat} {T : TypeId} {v : Value} {l : List Tree} {es : List Elem} (h : APe w0 lo T v l es) (hsz : w0.heap.size ≤ w.heap.size) (hb0 : ∀ b, lo ≤ b → b < w0.heap.size → w.heap[b]? = w0.heap[b]?) {t : Tree} {u : Value} (fit : Fits t.kind t.n t.x t.s) {hi : Nat} (ho : OSl w T u t.l (Rng w0.heap.size hi)) (hhi : hi ≤ w.heap.size)
    (hlo : lo ≤ w0.heap.size) {g cap : Nat} (hn : w'.ownsRow lo T 5 (.slice (some ⟨g, 0, none⟩) (l.length + 1) cap) (l.length + 1) (es.flatMap Elem.cells ++ cells5 t u))
    (hg : w.grownBy w' v.ownBlock) (hfresh : v.ownBlock = some g ∨ g = w.heap.size) : AP w' lo T (.slice (some ⟨g, 0, none⟩) (l.length + 1) cap) (l ++ [t]) := by
  obtain ⟨hl, hrow0, hE0, hp⟩ := h
  have hel : es.length = l.length := by rw [← hl]; simp
  have hvlt : ∀ b, v.ownBlock = some b → b < w0.heap.size := fun b hb => (hrow0.lt b hb).2
  have hgs := hg.size
  have hgn : ∀ b, b < w.heap.size → v.ownBlock ≠ some b → (Value.slice (some ⟨g, 0, none⟩) (l.length + 1) cap).ownBlock ≠ some b := by
    intro b hb hne
    simp only [Value.ownBlock, ne_eq, Option.some.injEq]
    rcases hfresh with hf | hf
    · intro e; exact hne (by rw [hf, e])
    · omega
  refine ⟨es ++ [⟨t, u, Rng w0.heap.size hi⟩], by simp [hl], ?_, fun e he => ?_, ?_⟩
  · have e1 : (es ++ [⟨t, u, Rng w0.heap.size hi⟩] : List Elem).length = l.length + 1 := by simp [hel]
    rw [e1, List.flatMap_append]
    simpa [Elem.cells] using hn
  · rcases List.mem_append.1 he with he | he
    · obtain ⟨a, c, d⟩ := hE0 e he
      refine ⟨a, c.kept (fun b hS => ?_), fun b hS => ?_⟩
      · obtain ⟨d1, d2, d3⟩ := d b hS
        rw [hg.block b (by omega) (fun e => d3 e.symm), hb0 b d1 d2]
      · obtain ⟨d1, d2, d3⟩ := d b hS
        exact ⟨d1, by omega, hgn b (by omega) d3⟩
    · rw [List.mem_singleton] at he
      subst he
      have hne : ∀ b, Rng w0.heap.size hi b → v.ownBlock ≠ some b := fun b hb e => by have := hvlt b e; have := hb.1; omega
      refine ⟨fit, ho.kept (fun b hS => hg.block b (by have := hS.2; omega) (fun e => hne b hS e.symm)), fun b hS => ?_⟩
      have h1 := hS.1; have h2 := hS.2
      exact ⟨by omega, by omega, hgn b (by omega) (hne b hS)⟩
  · rw [List.pairwise_append]
    refine ⟨hp, by simp, fun p hp' q hq b hb hb' => ?_⟩
    rw [List.mem_singleton] at hq
    subst hq
    have := ((hE0 p hp').2.2 b hb).2.1
    have := hb'.1
    omega



/-- What lay in the blocks from lo on is as it was. -/
def Kp (w0 : World) (lo : Nat) (w : World) : Prop := w0.heap.size ≤ w.heap.size ∧ ∀ b, lo ≤ b → b < w0.heap.size → w.heap[b]? = w0.heap[b]?
section
variable {w0 w w1 : World} {lo P R j : Nat}
theorem Kp.refl (w0 : World) (lo : Nat) : Kp w0 lo w0 := ⟨Nat.le_refl _, fun _ _ _ => rfl⟩
theorem Kp.gr (h : Kp w0 lo w) (g : w.grownBy w1 (some P)) (hP : P < lo) : Kp w0 lo w1 :=
  ⟨Nat.le_trans h.1 g.size, fun b hb hlt => (g.block b (Nat.lt_of_lt_of_le hlt h.1) (fun e => by cases e; omega)).trans (h.2 b hb hlt)⟩
theorem Kp.below (h : Kp w0 lo w) (g : Below w.heap.size w w1) : Kp w0 lo w1 := ⟨Nat.le_trans h.1 g.size, fun b hb hlt => (g.block b (Nat.lt_of_lt_of_le hlt h.1)).trans (h.2 b hb hlt)⟩
theorem Kp.alloc (h : Kp w0 lo w) (o : Obj) : Kp w0 lo (w.alloc o) := h.below (below1 _ _)
theorem Kp.drew (h : Kp w0 lo w) : Kp w0 lo w.drew := h
theorem Kp.set (h : Kp w0 lo w) (x : Value) (hR : R < lo ∨ w0.heap.size ≤ R) : Kp w0 lo (w.setCell ⟨R, j, none⟩ x) :=
  ⟨by simpa [World.setCell] using h.1, fun b hb hlt => (Below.heap_setCell _ _ _ _ (by dsimp only; omega)).trans (h.2 b hb hlt)⟩
theorem Kp.ap {T : TypeId} {v : Value} {l : List Tree} (h : Kp w0 lo w) (a : AP w0 lo T v l) : AP w lo T v l := a.kept_lo h.1 h.2
end
theorem owns_lo {w w' : World} {lo k : Nat} {T : TypeId} {v : Value} {n : Nat} {xs : List Value} (h : w.ownsRow lo T k v n xs) (hb : ∀ b, lo ≤ b → b < w.heap.size → w'.heap[b]? = w.heap[b]?) : w'.ownsRow lo T k v n xs := by
  refine ⟨h.1, ?_⟩
  rcases h.2 with h2 | ⟨g, cap, cur, hv, hg, hh, r⟩
  · exact .inl h2
  · exact .inr ⟨g, cap, cur, hv, hg, by rw [hb g hg (Array.getElem?_eq_some_iff.1 hh).1]; exact hh, r⟩
section
variable {w wr wK Wa w2 : World} {P lo : Nat} {T : TypeId} {v u : Value} {l : List Tree} {es : List Elem} {t : Tree}
/-- The row behind the draw of an element. -/
theorem draw_own (hes : APe wr lo T v l es) (hP : P < lo) (G' : wr.grownBy wK (some P)) (hB : Below wK.heap.size wK Wa) : Wa.ownsRow lo T 5 v l.length (es.flatMap Elem.cells) :=
  owns_lo hes.row (fun b hb hlt => (hB.block b (Nat.lt_of_lt_of_le hlt G'.size)).trans (G'.block b hlt (fun e => by cases e; omega)))
/-- An element drawn and put behind the row. -/
theorem draw_append (hes : APe wr lo T v l es) (hP : P < w.heap.size) (hwlo : w.heap.size ≤ lo) (hlo : lo ≤ wr.heap.size) (GR : w.grownBy wr (some P)) (G' : wr.grownBy wK (some P)) (C' : Cur wK P)
    (hap : AP wK wr.heap.size T u t.l) (fit : Fits t.kind t.n t.x t.s) (hB : Below wK.heap.size wK Wa) {g cap : Nat}
    (hown : w2.ownsRow lo T 5 (.slice (some ⟨g, 0, none⟩) (l.length + 1) cap) (l.length + 1) (es.flatMap Elem.cells ++ cells5 t u)) (hg : Wa.grownBy w2 v.ownBlock) (hf : v.ownBlock = some g ∨ g = Wa.heap.size) :
    AP w2 lo T (.slice (some ⟨g, 0, none⟩) (l.length + 1) cap) (l ++ [t]) ∧ Cur w2 P ∧ w.grownBy w2 (some P) ∧ ∀ b, b < lo → b < wr.heap.size → b ≠ P → w2.heap[b]? = wr.heap[b]? := by
  have hrow : ∀ k, v.ownBlock = some k → lo ≤ k ∧ k < wr.heap.size := fun k hk => hes.row.lt k hk
  have s1 := G'.size; have s2 := hB.size; have s3 := GR.size
  refine ⟨hes.snocG (w := Wa) (by omega) (fun b hb hlt => (hB.block b (by omega)).trans (G'.block b hlt (fun e => by cases e; omega))) fit (hi := wK.heap.size) (hap.osl.kept (fun b hb => hB.block b hb.2)) s2 hlo hown hg hf,
    (C'.below hB).grown hg (fun k hk => by have := hrow k hk; omega), gr_new (gr_on (gr_trans GR G') hB) hg (fun k hk => by have := hrow k hk; omega), fun b hb hlt hne => ?_⟩
  rw [hg.block b (by omega) (fun e => by have := hrow b e.symm; omega), hB.block b (by omega), G'.block b hlt (fun e => hne (by cases e; rfl))]
end
theorem APe.snocE {w0 w w' : World} {lo : Nat} {T : TypeId} {v : Value} {l : List Tree} {es : List Elem} (h : APe w0 lo T v l es) (hsz : w0.heap.size ≤ w.heap.size) (hb0 : ∀ b, lo ≤ b → b < w0.heap.size → w.heap[b]? = w0.heap[b]?) {t : Tree} {u : Value} (fit : Fits t.kind t.n t.x t.s) {S : Nat → Prop} (ho : OSl w T u t.l S) (hSr : ∀ b, S b → w0.heap.size ≤ b ∧ b < w.heap.size)
    (hlo : lo ≤ w0.heap.size) {g cap : Nat} (hn : w'.ownsRow lo T 5 (.slice (some ⟨g, 0, none⟩) (l.length + 1) cap) (l.length + 1) (es.flatMap Elem.cells ++ cells5 t u))
    (hg : w.grownBy w' v.ownBlock) (hfresh : v.ownBlock = some g ∨ g = w.heap.size) : APe w' lo T (.slice (some ⟨g, 0, none⟩) (l.length + 1) cap) (l ++ [t]) (es ++ [⟨t, u, S⟩]) := by
  obtain ⟨hl, hrow0, hE0, hp⟩ := h
  have hel : es.length = l.length := by rw [← hl]; simp
  have hvlt : ∀ b, v.ownBlock = some b → b < w0.heap.size := fun b hb => (hrow0.lt b hb).2
  have hgs := hg.size
  have hgn : ∀ b, b < w.heap.size → v.ownBlock ≠ some b → (Value.slice (some ⟨g, 0, none⟩) (l.length + 1) cap).ownBlock ≠ some b := by
    intro b hb hne
    simp only [Value.ownBlock, ne_eq, Option.some.injEq]
    rcases hfresh with hf | hf
    · intro e; exact hne (by rw [hf, e])
    · omega
  refine ⟨by simp [hl], ?_, fun e he => ?_, ?_⟩
  · have e1 : (es ++ [⟨t, u, S⟩] : List Elem).length = l.length + 1 := by simp [hel]
    rw [e1, List.flatMap_append]
    simpa [Elem.cells] using hn
  · rcases List.mem_append.1 he with he | he
    · obtain ⟨a, c, d⟩ := hE0 e he
      refine ⟨a, c.kept (fun b hS => ?_), fun b hS => ?_⟩
      · obtain ⟨d1, d2, d3⟩ := d b hS
        rw [hg.block b (by omega) (fun e => d3 e.symm), hb0 b d1 d2]
      · obtain ⟨d1, d2, d3⟩ := d b hS
        exact ⟨d1, by omega, hgn b (by omega) d3⟩
    · rw [List.mem_singleton] at he
      subst he
      have hne : ∀ b, S b → v.ownBlock ≠ some b := fun b hb e => by have := hvlt b e; have := (hSr b hb).1; omega
      refine ⟨fit, ho.kept (fun b hS => hg.block b (hSr b hS).2 (fun e => hne b hS e.symm)), fun b hS => ?_⟩
      have h1 := (hSr b hS).1; have h2 := (hSr b hS).2
      exact ⟨by omega, by omega, hgn b (by omega) (hne b hS)⟩
  · rw [List.pairwise_append]
    refine ⟨hp, by simp, fun p hp' q hq b hb hb' => ?_⟩
    rw [List.mem_singleton] at hq
    subst hq
    have := ((hE0 p hp').2.2 b hb).2.1
    have := (hSr b hb').1
    omega




/-- An element drawn and put behind the row, where the blocks from wr's end up to m may turn (the box of the value itself). -/
theorem draw_append2 {wr wK Wa w2 w7 : World} {P lo m : Nat} {T : TypeId} {v u : Value} {l : List Tree} {es : List Elem} {t : Tree} (hes : APe wr lo T v l es) (hP : P < lo) (hlo : lo ≤ wr.heap.size) (G' : wr.grownBy wK (some P)) (hm : wr.heap.size ≤ m)
    (hap : AP wK m T u t.l) (fit : Fits t.kind t.n t.x t.s) (hmK : m ≤ wK.heap.size) (hB : Below wK.heap.size wK Wa) {g cap : Nat}
    (hown : w2.ownsRow lo T 5 (.slice (some ⟨g, 0, none⟩) (l.length + 1) cap) (l.length + 1) (es.flatMap Elem.cells ++ cells5 t u)) (hg : Wa.grownBy w2 v.ownBlock) (hf : v.ownBlock = some g ∨ g = Wa.heap.size)
    (hs : w2.heap.size ≤ w7.heap.size) (h7 : ∀ b, lo ≤ b → b < w2.heap.size → ¬ (wr.heap.size ≤ b ∧ b < m) → w7.heap[b]? = w2.heap[b]?) :
    AP w7 lo T (.slice (some ⟨g, 0, none⟩) (l.length + 1) cap) (l ++ [t]) := by
  have hrow : ∀ k, v.ownBlock = some k → lo ≤ k ∧ k < wr.heap.size := fun k hk => hes.row.lt k hk
  have s1 := G'.size; have s2 := hB.size; have s3 := hg.size
  have key := hes.snocE (w := Wa) (w' := w2) (by omega) (fun b hb hlt => (hB.block b (by omega)).trans (G'.block b hlt (fun e => by cases e; omega))) fit (S := Rng m wK.heap.size) (hap.osl.kept (fun b hb => hB.block b hb.2)) (fun b hb => ⟨by have := hb.1; omega, by have := hb.2; omega⟩) hlo hown hg hf
  obtain ⟨hl, ho, hE, hp⟩ := key
  refine ⟨_, hl, ?_, fun e he => ?_, hp⟩
  · refine ⟨ho.1, ?_⟩
    rcases ho.2 with h2 | ⟨g', cap', cur, hv, hg', hh, r⟩
    · exact .inl h2
    · refine .inr ⟨g', cap', cur, hv, hg', ?_, r⟩
      injection hv with hv1
      injection hv1 with hv2
      injection hv2 with hv3
      rw [h7 g' hg' (Array.getElem?_eq_some_iff.1 hh).1 (fun hc => by
        rcases hf with hf | hf
        · have := hrow g hf; omega
        · omega)]
      exact hh
  · obtain ⟨a, c, d⟩ := hE e he
    refine ⟨a, c.kept (fun b hS => ?_), fun b hS => ⟨(d b hS).1, Nat.lt_of_lt_of_le (d b hS).2.1 hs, (d b hS).2.2⟩⟩
    refine h7 b (d b hS).1 (d b hS).2.1 (fun hc => ?_)
    rcases List.mem_append.1 he with he | he
    · have := ((hes.2.2.1 e he).2.2 b hS).2.1; omega
    · rw [List.mem_singleton] at he
      subst he
      have := hS.1
      omega

/-- Nothing but two blocks has turned. -/
def Ex (R V : Nat) (w w1 : World) : Prop := ∀ b, b ≠ R → b ≠ V → w1.heap[b]? = w.heap[b]?
theorem Ex.refl (R V : Nat) (w : World) : Ex R V w w := fun _ _ _ => rfl
theorem Ex.set0 {R V j : Nat} {w w1 : World} (h : Ex R V w w1) (x : Value) : Ex R V w (w1.setCell ⟨R, j, none⟩ x) := fun b h1 h2 => (Below.heap_setCell _ _ _ _ (by dsimp only; exact h1)).trans (h b h1 h2)
theorem Ex.set1 {R V j : Nat} {w w1 : World} (h : Ex R V w w1) (x : Value) : Ex R V w (w1.setCell ⟨V, j, none⟩ x) := fun b h1 h2 => (Below.heap_setCell _ _ _ _ (by dsimp only; exact h2)).trans (h b h1 h2)

theorem Ex.out {R V lo r m : Nat} {w w1 : World} (h : Ex R V w w1) (hR : R < lo) (hV : r ≤ V ∧ V < m) : ∀ b, lo ≤ b → b < w.heap.size → ¬ (r ≤ b ∧ b < m) → w1.heap[b]? = w.heap[b]? :=
  fun b hb _ hn => h b (by omega) (fun e => hn (by omega))
theorem emp_nil : (({ data := #[] } : ByteArray).toList.isEmpty) = true := by unfold ByteArray.toList ByteArray.toList.loop; simp [ByteArray.size]
theorem fits_of {k n x : Int} {s : ByteArray} (hk : wf6 k) (hn : wf6 n) (hx : wf6 x) (hs : s.size ≤ 9223372036854775807) : Fits k n x s := ⟨hk, hn, hx, hs⟩
section
variable {n x : Int} {s : ByteArray} {l : List Tree}
theorem ok_null : (Tree.mk 1 0 0 { data := #[] } []).ok = true := by rw [Tree.ok, okL]; simp [ownB]
theorem ok_bool (h : 0 ≤ n ∧ n ≤ 1) : (Tree.mk 2 n 0 { data := #[] } []).ok = true := by rw [Tree.ok, okL]; simp [ownB, inB_mk h]
theorem ok_int (h : -1000000000000000 ≤ n ∧ n ≤ 1000000000000000) : (Tree.mk 3 n 0 { data := #[] } []).ok = true := by rw [Tree.ok, okL]; simp [ownB, inB_mk h]
theorem ok_flt (h : fltOkF n x = true) : (Tree.mk 4 n x { data := #[] } []).ok = true := by rw [Tree.ok, okL]; simp [ownB, h]
theorem ok_odd (h : 0 ≤ n ∧ n ≤ 2) : (Tree.mk 5 n 0 { data := #[] } []).ok = true := by rw [Tree.ok, okL]; simp [ownB, inB_mk h]
theorem ok_dec (h : decOkB n x = true) (hx : x < 0) : (Tree.mk 6 n x { data := #[] } []).ok = true := by rw [Tree.ok, okL]; simp [ownB, h, hx]
theorem ok_text (h : Lib.validD s.data.toList = true) : (Tree.mk 7 0 0 s []).ok = true := by rw [Tree.ok, okL]; simp [ownB, h]
theorem ok_bytes : (Tree.mk 8 0 0 s []).ok = true := by rw [Tree.ok, okL]; simp [ownB]
theorem ok_list (h : okL l = true) : (Tree.mk 9 0 0 { data := #[] } l).ok = true := by rw [Tree.ok, h]; simp [ownB]
theorem ok_map (h : okL l = true) (h2 : l.length % 2 = 0) : (Tree.mk 10 0 0 { data := #[] } l).ok = true := by
  rw [Tree.ok, h]
  have : ((l.length : Int) % 2 == 0) = true := by simp; omega
  simp [ownB, this]
theorem ok_tag (h : 0 ≤ n ∧ n ≤ 1000000000000000) {t : Tree} (ht : t.ok = true) : (Tree.mk 11 n 0 { data := #[] } [t]).ok = true := by rw [Tree.ok, okL, okL, ht]; simp [ownB, inB_mk h]
end
theorem okL_snoc : ∀ (l : List Tree) (t : Tree), okL (l ++ [t]) = (okL l && t.ok)
  | [], t => by rw [List.nil_append, okL, okL]; cases t.ok <;> rfl
  | u :: l, t => by rw [List.cons_append, okL, okL, okL_snoc l t, Bool.and_assoc]
theorem costL_snoc (l : List Tree) (t : Tree) : costL (l ++ [t]) = costL l + 1 + t.cost := by
  rw [costL_eq, costL_eq, costE_snoc, List.length_append]; simp; omega
end Go.Proofs.YtilmhemcpgiikaaGreatDoor
