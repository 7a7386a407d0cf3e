/- LessDec: both order alike. -/
import Derived.Test.YtcmdchhhdcdpnaaDoorCDec
import Derived.Test.YtcmdchhhdcdpnaaDoorCTwo
import Derived.Test.YtcmdchhhdcdpnaaDoorMLess
import Derived.RegionTactic
namespace Go.Proofs.YtcmdchhhdcdpnaaDoor
open Go.Deep Go.ChangeShapes Go.WideShapes Go.ChangeAt Go.RowKit
open Go.ChangeMaps (open_string shut_string)

theorem drewN_below {B : Nat} {w w' : World} (h : Below B w w') (k : Nat) : Below B w (w'.drewN k) := ⟨h.os, h.tape, h.output, h.size, h.block⟩
theorem quiet_eq' {P : Program} {f : FuncId} {args : Array Value} {w : World} {v : Value} (h : Calls P f args w fun e w' => e = .returned v ∧ w = w') : Calls P f args w fun e w' => e = .returned v ∧ w' = w :=
  h.mono fun _ _ ⟨a, b⟩ => ⟨a, b.symm⟩

theorem quiet_second {P : Program} {f : FuncId} {args : Array Value} {w : World} {v : Value} {a b : Nat} (h : Calls P f args (w.drewN (a + b)) fun e w' => e = .returned v ∧ w.drewN (a + b) = w') :
    Calls P f args (w.drewN (a + b)) fun e w'' => e = .returned v ∧ ∃ m, w'' = w.drewN (a + m) :=
  h.mono fun _ _ ⟨x, y⟩ => ⟨x, b, y.symm⟩

theorem power_c (b k : Int) (w : World) (hb : b = 2 ∨ b = 5 ∨ b = 10) (h1 : 0 ≤ k) (h2 : k ≤ 17) :
    Calls Tryd.prog 16 #[.int .i64 b, .int .i64 k] w fun e w' => e = .returned (.int .i64 (b ^ k.toNat)) ∧ w = w' := by
  obtain ⟨K, rfl⟩ : ∃ K : Nat, k = (K : Int) := ⟨k.toNat, by omega⟩
  exact power_impl b K w hb (by omega)

theorem lessDecB_no1 {n x m y : Int} (h : decOkB n x = false) : lessDecB n x m y = false := by unfold lessDecB; rw [h]; rfl
theorem lessDecB_no2 {n x m y : Int} (h : decOkB m y = false) : lessDecB n x m y = false := by unfold lessDecB; rw [h]; simp
theorem lessDecB_yes {n x m y P Q R S : Int} (h : decOkB n x = true) (h' : decOkB m y = true)
    (hP : (10 : Int) ^ (-x).toNat = P) (hQ : (10 : Int) ^ (16 + x).toNat = Q) (hR : (10 : Int) ^ (-y).toNat = R) (hS : (10 : Int) ^ (16 + y).toNat = S) :
    lessDecB n x m y = decide (n * Q < m * S) ∧ P * Q = 10000000000000000 ∧ R * S = 10000000000000000 ∧ 1 ≤ P ∧ 1 ≤ Q ∧ 1 ≤ R ∧ 1 ≤ S := by
  obtain ⟨a1, a2, _, _⟩ := decOk_range h
  obtain ⟨b1, b2, _, _⟩ := decOk_range h'
  obtain ⟨P', Q', e1, e2, hPQ, p1, q1, _, _⟩ := pow_pair a1 a2
  obtain ⟨R', S', e3, e4, hRS, r1, s1, _, _⟩ := pow_pair b1 b2
  obtain rfl : P' = P := e1.symm.trans hP
  obtain rfl : Q' = Q := e2.symm.trans hQ
  obtain rfl : R' = R := e3.symm.trans hR
  obtain rfl : S' = S := e4.symm.trans hS
  refine ⟨?_, hPQ, hRS, p1, q1, r1, s1⟩
  unfold lessDecB decUp
  rw [h, h', hQ, hS]; rfl
theorem lessDecB_pair {n x m y P Q R S : Int} (h : decOkB n x = true) (h' : decOkB m y = true)
    (hP : (10 : Int) ^ (-x).toNat = P) (hQ : (10 : Int) ^ (16 + x).toNat = Q) (hR : (10 : Int) ^ (-y).toNat = R) (hS : (10 : Int) ^ (16 + y).toNat = S) :
    lessDecB n x m y = decide (n.tdiv P < m.tdiv R ∨ n.tdiv P = m.tdiv R ∧ n.tmod P * Q < m.tmod R * S) := by
  obtain ⟨e, hPQ, hRS, p1, q1, r1, s1⟩ := lessDecB_yes h h' hP hQ hR hS
  rw [e]
  obtain ⟨a, b, _⟩ := halves_bd (n := n) p1 q1 hPQ
  obtain ⟨c, d, _⟩ := halves_bd (n := m) r1 s1 hRS
  apply decide_eq_decide.2
  rw [← halves_eq (n := n) hPQ, ← halves_eq (n := m) hRS]
  exact (pair_lt a c b d).symm
theorem bcell {W w1 : World} (hb : Below W.heap.size W w1) : (∀ b o, b < W.heap.size → w1.cell? ⟨b, o, none⟩ = W.cell? ⟨b, o, none⟩) ∧ (∀ b o, b < W.heap.size → w1.frozen? ⟨b, o, none⟩ = W.frozen? ⟨b, o, none⟩) :=
  ⟨fun b o h => hb.cell (p := ⟨b, o, none⟩) h, fun b o h => hb.frozen (p := ⟨b, o, none⟩) h⟩

/-- The sizes, in two halves. -/
theorem less_pos {n m P Q R S : Int} (hn : 0 ≤ n) (hm : 0 ≤ m) (hPQ : P * Q = 10000000000000000) (hRS : R * S = 10000000000000000) (p1 : 1 ≤ P) (q1 : 1 ≤ Q) (r1 : 1 ≤ R) (s1 : 1 ≤ S) {A B : Int} (hA : (n.natAbs : Int) = A) (hB : (m.natAbs : Int) = B) :
    decide (n * Q < m * S) = decide (A.tdiv P < B.tdiv R ∨ A.tdiv P = B.tdiv R ∧ A.tmod P * Q < B.tmod R * S) := by
  obtain rfl : A = n := by omega
  obtain rfl : B = m := by omega
  obtain ⟨a, b, _⟩ := halves_bd (n := A) p1 q1 hPQ
  obtain ⟨c, d, _⟩ := halves_bd (n := B) r1 s1 hRS
  apply decide_eq_decide.2
  rw [← halves_eq (n := A) hPQ, ← halves_eq (n := B) hRS]
  exact (pair_lt a c b d).symm
theorem less_neg {n m P Q R S : Int} (hn : n < 0) (hm : m < 0) (hPQ : P * Q = 10000000000000000) (hRS : R * S = 10000000000000000) (p1 : 1 ≤ P) (q1 : 1 ≤ Q) (r1 : 1 ≤ R) (s1 : 1 ≤ S) {A B : Int} (hA : (n.natAbs : Int) = A) (hB : (m.natAbs : Int) = B) :
    decide (n * Q < m * S) = decide (B.tdiv R < A.tdiv P ∨ B.tdiv R = A.tdiv P ∧ B.tmod R * S < A.tmod P * Q) := by
  obtain ⟨a, b, _⟩ := halves_bd (n := A) p1 q1 hPQ
  obtain ⟨c, d, _⟩ := halves_bd (n := B) r1 s1 hRS
  apply decide_eq_decide.2
  rw [pair_lt c a d b, halves_eq (n := A) hPQ, halves_eq (n := B) hRS]
  obtain rfl : n = -A := by omega
  obtain rfl : m = -B := by omega
  rw [Int.neg_mul, Int.neg_mul]; omega
theorem less_mix {n m Q S : Int} (q1 : 1 ≤ Q) (s1 : 1 ≤ S) (h : (n < 0 ∧ ¬ m < 0) ∨ (¬ n < 0 ∧ m < 0)) : decide (n * Q < m * S) = decide (n < 0) := by
  apply decide_eq_decide.2
  rcases h with ⟨a, b⟩ | ⟨a, b⟩
  · have h1 := Int.mul_nonneg (a := m) (b := S) (by omega) (by omega)
    have h2 : n * Q < 0 := Int.mul_neg_of_neg_of_pos a (by omega)
    omega
  · have h1 := Int.mul_nonneg (a := n) (b := Q) (by omega) (by omega)
    have h2 : m * S < 0 := Int.mul_neg_of_neg_of_pos b (by omega)
    omega

end Go.Proofs.YtcmdchhhdcdpnaaDoor
