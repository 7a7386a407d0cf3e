/- Slices of bytes and of ints: copies, comparisons, marks. -/
import Derived.Test.YtcmdchhhdcdpnaaDoorCConv
import Derived.Deep.OwnRows
import Derived.Deep.Onto
namespace Go.Proofs.YtcmdchhhdcdpnaaDoor
open Go.Deep Go.ChangeShapes Go.WideShapes Go.ChangeAt Go.RowKit
open Go.ChangeMaps (open_string shut_string)


/-- Built numbers read as numbers. -/
theorem own_rd {w : World} {B : Nat} {T : TypeId} {k : IntKind} {v : Value} {n : Nat} {zs : List Int} (h : w.ownsRow B T 1 v n (zs.map (Value.int k))) :
    ∃ a cap, v = .slice a zs.length cap ∧ n = zs.length ∧ Rd w k a zs ∧ zs.length ≤ cap ∧ cap ≤ maxLen := by
  have hn : n = zs.length := by have := h.1; simp at this; omega
  subst hn
  rcases h.2 with ⟨rfl, h0⟩ | ⟨g, cap, cur, rfl, hb, hg, hnc, hcm, hcs, htake⟩
  · have : zs = [] := List.eq_nil_of_length_eq_zero h0
    subst this
    exact ⟨none, 0, rfl, rfl, .inl rfl, Nat.le_refl _, by simp [maxLen]⟩
  · refine ⟨_, cap, rfl, rfl, .inr ⟨g, 0, rfl, (Array.getElem?_eq_some_iff.1 hg).1, fun j hj => ?_⟩, hnc, hcm⟩
    have := h.cells (g := g) rfl j (.int k (zs.getD j 0)) (by rw [List.getElem?_map]; simp [List.getD, List.getElem?_eq_getElem hj])
    simpa [Addr.add_lit] using this

/-- A row of the call's own, filled, is owned. -/
theorem row_own {w : World} {lo g n : Nat} {T : TypeId} {k : IntKind} {zs : List Int} {f : Nat → Value} (h : w.rowIs g T n f) (hm : zs.length ≤ n) (hmax : n ≤ maxLen)
    (hf : ∀ i, i < zs.length → f i = .int k (zs.getD i 0)) (hlo : lo ≤ g) : w.ownsRow lo T 1 (.slice (some ⟨g, 0, none⟩) zs.length n) zs.length (zs.map (Value.int k)) := by
  obtain ⟨c, hg, hs, hc⟩ := h
  refine ⟨by simp, .inr ⟨g, n, c, rfl, hlo, hg, hm, hmax, by omega, ?_⟩⟩
  apply List.ext_getElem?
  intro i
  rw [List.getElem?_take, List.getElem?_map]
  by_cases hi : i < zs.length
  · rw [if_pos (by omega), Array.getElem?_toList, hc i (by omega), hf i hi]
    simp [List.getD, List.getElem?_eq_getElem hi]
  · rw [if_neg (by omega), List.getElem?_eq_none (by omega)]; rfl

/-- What is owned is nothing, or a row. -/
theorem own_row {w : World} {B : Nat} {T : TypeId} {v : Value} {n : Nat} {xs : List Value} (h : w.ownsRow B T 1 v n xs) :
    (∃ cap : Nat, v = .slice none 0 0 ∧ n = 0 ∧ cap = 0) ∨ ∃ g cap f, v = .slice (some ⟨g, 0, none⟩) n cap ∧ B ≤ g ∧ w.rowIs g T cap f ∧ n ≤ cap ∧ cap ≤ maxLen := by
  rcases h.2 with ⟨rfl, h0⟩ | ⟨g, cap, cur, rfl, hb, hg, hnc, hcm, hcs, htake⟩
  · exact .inl ⟨0, rfl, h0, rfl⟩
  · exact .inr ⟨g, cap, fun i => cur.getD i undef, rfl, hb, ⟨cur, hg, by omega, fun i hi => by simp [Array.getD, show i < cur.size by omega]⟩, hnc, hcm⟩

theorem grown_set {w wr : World} {g : Nat} (h : w.grownBy wr (some g)) (j : Nat) (v : Value) : w.grownBy (wr.setCell ⟨g, j, none⟩ v) (some g) :=
  ⟨h.os, h.tape, h.output, by simpa [World.setCell] using h.size, fun k hk hne => (Below.heap_setCell _ _ _ _ (fun e => hne (by rw [e]))).trans (h.block k hk hne)⟩

theorem take_snoc {zs : List Int} {j : Nat} (h : j < zs.length) : zs.take (j + 1) = zs.take j ++ [zs.getD j 0] := by
  rw [List.take_succ_eq_append_getElem h]
  simp [List.getD, List.getElem?_eq_getElem h]

theorem drewN_two (w : World) (a b : Nat) : (w.drewN a).drewN b = w.drewN (a + b) := World.drewN_drewN _ _ _

/-- The marks. -/
def marksB (k n : Nat) : List Int := (List.range n).map fun i => (((k + i : Nat) : Int) % 256)
theorem marksB_get {k n j : Nat} (h : j < n) : (marksB k n).getD j 0 = ((k + j : Nat) : Int) % 256 := by
  simp [marksB, List.getD, h]
def marksI (k n : Nat) : List Int := (List.range n).map fun i => ((k + i : Nat) : Int)
theorem marksI_get {k n j : Nat} (h : j < n) : (marksI k n).getD j 0 = ((k + j : Nat) : Int) := by
  simp [marksI, List.getD, h]



end Go.Proofs.YtcmdchhhdcdpnaaDoor
