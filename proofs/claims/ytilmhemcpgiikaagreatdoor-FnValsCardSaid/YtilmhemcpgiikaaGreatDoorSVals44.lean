/- Vals: texts of the proof (DSame Held HeldV). -/
import Derived.Test.YtilmhemcpgiikaaGreatDoorSVals3
import Derived.Test.YtilmhemcpgiikaaGreatDoorSVals6
import Derived.Deep.RegionHeld3
import Derived.Test.YtilmhemcpgiikaaGreatDoorSVals9
/- The laws' own comparisons. -/
namespace Go.Proofs.YtilmhemcpgiikaaGreatDoor
open Go.Deep Go.ChangeShapes Go.WideShapes Go.ChangeAt Go.RowKit

theorem big_c (n : Nat) (a : Option Addr) (cap : Nat) (w : World) :
    Calls Tryz.prog 4 #[.slice a n cap] w fun e w' => e = .returned (.bool (decide ((1048576 : Int) < (n : Int)))) ∧ w = w' := by
  go_enter Tryz.func4, Tryz.ntmps4
  go_wp2_with fail
  go_ret
  exact ⟨rfl, rfl⟩
end Go.Proofs.YtilmhemcpgiikaaGreatDoor
/- Steps of a region that draws its order, by hand: an operation that its guard passes over, one that yields in every world that meets S, a load of a struct, a call. -/
namespace Go.Proofs.YtilmhemcpgiikaaGreatDoor
open Go.Deep Go.ChangeShapes Go.WideShapes Go.ChangeAt Go.RowKit

section
variable {P : Program} {md : Region.Mode} {ops : Array Oper} {Q : Exit → Act → World → Prop} {S : World → Prop} {fuel : Nat} {listed : Array Bool} {a : Act} {w : World}
/-- Passed over: its slot holds nothing. -/
theorem held_skip (i d : Nat) (hs : Region.noSelect ops = true) (hf : Region.free md ops listed i = true) (hr : (Region.ready md ops listed).contains i = true)
    (hQ : ∀ c a w, Q (.panic c) (a.put (some d) undef) w → Q (.panic c) a w) (hd : (ops[i]?).map (·.dst) = some (some d))
    (hw : (ops[i]?).map (fun o => Region.wanted o (yielded ops a.tmps)) = some false) (hS : S w)
    (h : wpAnyH P md ops Q S fuel (listed.setIfInBounds i true) (a.put (some d) undef) w) : wpAnyH P md ops Q S (fuel + 1) listed a w := by
  cases ho : ops[i]? with
  | none => rw [ho] at hd; cases hd
  | some o =>
    rw [ho] at hd hw
    have e1 : o.dst = some d := Option.some.inj hd
    have e2 : Region.wanted o (yielded ops a.tmps) = false := Option.some.inj hw
    exact wpAnyH_take ho hs hf hr (by rw [e1]; exact hQ) (Or.inr ⟨e2, rfl⟩) hS (by rw [e1]; exact h)
/-- Carried out: its slot holds v. -/
theorem held_do (i d : Nat) (v : Value) (hs : Region.noSelect ops = true) (hf : Region.free md ops listed i = true) (hr : (Region.ready md ops listed).contains i = true)
    (hQ : ∀ c a w, Q (.panic c) (a.put (some d) v) w → Q (.panic c) a w) (hd : (ops[i]?).map (·.dst) = some (some d))
    (hw : (ops[i]?).map (fun o => Region.wanted o (yielded ops a.tmps)) = some true) (hS : S w)
    (hv : ∀ w, S w → (ops[i]?).map (fun o => (execOp a.eval o).run P w) = some (.ok (.value v) w))
    (h : wpAnyH P md ops Q S fuel (listed.setIfInBounds i true) (a.put (some d) v) w) : wpAnyH P md ops Q S (fuel + 1) listed a w := by
  cases ho : ops[i]? with
  | none => rw [ho] at hd; cases hd
  | some o =>
    rw [ho] at hd hw
    have e1 : o.dst = some d := Option.some.inj hd
    have e2 : Region.wanted o (yielded ops a.tmps) = true := Option.some.inj hw
    exact wpAnyH_take ho hs hf hr (by rw [e1]; exact hQ) (Or.inl ⟨e2, fun w h => Option.some.inj (by have := hv w h; rw [ho] at this; exact this)⟩) hS (by rw [e1]; exact h)
/-- A call that alone may come up: by its contract. -/
theorem held_call (i d F : Nat) (vals : Array Value) (hr : Region.ready md ops listed = [i]) (hd : (ops[i]?).map (·.dst) = some (some d))
    (hw : (ops[i]?).map (fun o => Region.wanted o (yielded ops a.tmps)) = some true) (hx : ∀ w, (ops[i]?).map (fun o => (execOp a.eval o).run P w) = some (.ok (.enter F vals) w))
    (h : Calls P F vals w fun e w' => ∃ v, e = .returned v ∧ S w' ∧ wpAnyH P md ops Q S fuel (listed.setIfInBounds i true) (a.put (some d) v) w') : wpAnyH P md ops Q S (fuel + 1) listed a w := by
  refine wpAnyH_all hr (by simp) fun j hj => ?_
  obtain rfl : j = i := by simpa using hj
  have hx := hx w
  cases ho : ops[j]? with
  | none => rw [ho] at hd; cases hd
  | some o =>
    rw [ho] at hd hw hx
    have e1 : o.dst = some d := Option.some.inj hd
    have e2 : Region.wanted o (yielded ops a.tmps) = true := Option.some.inj hw
    have e3 : (execOp a.eval o).run P w = .ok (.enter F vals) w := Option.some.inj hx
    unfold wpOp
    simp only [ho, e2, if_true]
    refine .inl ?_
    unfold Oper.wp
    rw [e3, Oper.upon_enter]
    refine h.mono ?_
    rintro _ w' ⟨v, rfl, hS, hk⟩
    rw [e1]
    exact ⟨hS, hk⟩
/-- A load by what the operation is. -/
theorem run_of {op : Op} {v : Value} {i : Nat} (hi : (ops[i]?).map (·.op) = some op) (h : ∀ o : Oper, o.op = op → (execOp a.eval o).run P w = .ok (.value v) w) :
    (ops[i]?).map (fun o => (execOp a.eval o).run P w) = some (.ok (.value v) w) := by
  cases ho : ops[i]? with
  | none => rw [ho] at hi; cases hi
  | some o => rw [ho] at hi; exact congrArg some (h o (Option.some.inj hi))
end
section
variable {ρ : Operand → Value} {w : World} {o : Oper} {t B : Nat}
theorem load_dec {x y : Value} (hp : ρ (.tmp t) = .pointer (some ⟨B, 0, none⟩)) (h : w.cell? ⟨B, 0, none⟩ = some x ∧ w.cell? ⟨B, 1, none⟩ = some y ∧ ∀ j, w.frozen? ⟨B, j, none⟩ = false) (ho : o.op = .load 34 (.tmp t)) :
    (execOp ρ o).run Tryz.prog w = .ok (.value (.agg #[x, y])) w := by
  obtain ⟨h0, h1, -⟩ := h
  unfold execOp
  rw [ho]
  simp [hp, go_sem, h0, h1]
theorem load_flt {x y : Value} (hp : ρ (.tmp t) = .pointer (some ⟨B, 0, none⟩)) (h : w.cell? ⟨B, 0, none⟩ = some x ∧ w.cell? ⟨B, 1, none⟩ = some y ∧ ∀ j, w.frozen? ⟨B, j, none⟩ = false) (ho : o.op = .load 58 (.tmp t)) :
    (execOp ρ o).run Tryz.prog w = .ok (.value (.agg #[x, y])) w := by
  obtain ⟨h0, h1, -⟩ := h
  unfold execOp
  rw [ho]
  simp [hp, go_sem, h0, h1]
end
end Go.Proofs.YtilmhemcpgiikaaGreatDoor
/- A load of a value in a region that is walked by hand. -/
namespace Go.Proofs.YtilmhemcpgiikaaGreatDoor
open Go.Deep Go.ChangeShapes Go.WideShapes Go.ChangeAt Go.RowKit

theorem load_val {ρ : Operand → Value} {w : World} {o : Oper} {t B : Nat} {a b c d e : Value} (hp : ρ (.tmp t) = .pointer (some ⟨B, 0, none⟩))
    (h : w.cell? ⟨B, 0, none⟩ = some a ∧ w.cell? ⟨B, 1, none⟩ = some b ∧ w.cell? ⟨B, 2, none⟩ = some c ∧ w.cell? ⟨B, 3, none⟩ = some d ∧ w.cell? ⟨B, 4, none⟩ = some e ∧ ∀ j, w.frozen? ⟨B, j, none⟩ = false) (ho : o.op = .load 26 (.tmp t)) :
    (execOp ρ o).run Tryz.prog w = .ok (.value (.agg #[a, b, c, d, e])) w := by
  obtain ⟨h0, h1, h2, h3, h4, -⟩ := h
  unfold execOp
  rw [ho]
  simp [hp, go_sem, h0, h1, h2, h3, h4]
end Go.Proofs.YtilmhemcpgiikaaGreatDoor
