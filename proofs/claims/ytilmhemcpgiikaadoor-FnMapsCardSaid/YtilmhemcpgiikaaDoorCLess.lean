/- LessDec: both order alike. -/
import Derived.Test.YtilmhemcpgiikaaDoorCDec
import Derived.Test.YtilmhemcpgiikaaDoorCTwo
import Derived.Test.YtilmhemcpgiikaaDoorMLess
import Derived.RegionTactic
namespace Go.Proofs.YtilmhemcpgiikaaDoor
open Go.Deep Go.ChangeShapes Go.WideShapes Go.ChangeAt Go.RowKit
open Go.ChangeMaps (open_string shut_string)

theorem drewN_below {B : Nat} {w w' : World} (h : Below B w w') (k : Nat) : Below B w (w'.drewN k) := ⟨h.os, h.tape, h.output, h.size, h.block⟩
theorem quiet_eq' {P : Program} {f : FuncId} {args : Array Value} {w : World} {v : Value} (h : Calls P f args w fun e w' => e = .returned v ∧ w = w') : Calls P f args w fun e w' => e = .returned v ∧ w' = w :=
  h.mono fun _ _ ⟨a, b⟩ => ⟨a, b.symm⟩

theorem quiet_second {P : Program} {f : FuncId} {args : Array Value} {w : World} {v : Value} {a b : Nat} (h : Calls P f args (w.drewN (a + b)) fun e w' => e = .returned v ∧ w.drewN (a + b) = w') :
    Calls P f args (w.drewN (a + b)) fun e w'' => e = .returned v ∧ ∃ m, w'' = w.drewN (a + m) :=
  h.mono fun _ _ ⟨x, y⟩ => ⟨x, b, y.symm⟩

theorem power_c (b k : Int) (w : World) (hb : b = 2 ∨ b = 5 ∨ b = 10) (h1 : 0 ≤ k) (h2 : k ≤ 17) :
    Calls Tryd.prog 109 #[.int .i64 b, .int .i64 k] w fun e w' => e = .returned (.int .i64 (b ^ k.toNat)) ∧ w = w' := by
  obtain ⟨K, rfl⟩ : ∃ K : Nat, k = (K : Int) := ⟨k.toNat, by omega⟩
  exact power_impl b K w hb (by omega)

set_option maxHeartbeats 1000000 in
theorem l4Up_c (n x P Q : Int) (w : World) (h1 : -16 ≤ x) (h2 : x ≤ 0) (h3 : -100000000000000000 < n) (h4 : n < 100000000000000000)
    (hP : (10 : Int) ^ (-x).toNat = P) (hQ : (10 : Int) ^ (16 + x).toNat = Q) :
    Calls Tryd.prog 107 #[.agg #[.int .i64 n, .int .i64 x]] w fun e w' => e = .returned (.tuple #[.int .i64 (n.tdiv P), .int .i64 (n.tmod P * Q)]) ∧ Below w.heap.size w w' := by
  obtain ⟨P', Q', e1, e2, hPQ, p1, q1, p2, q2⟩ := pow_pair h1 h2
  obtain rfl : P' = P := e1.symm.trans hP
  obtain rfl : Q' = Q := e2.symm.trans hQ
  obtain ⟨b1, b2, b3, b4⟩ := halves_bd (n := n) p1 q1 hPQ
  have c1 := fun w => pow_spec 10 (-x) w
  have c2 := fun w => pow_spec 10 (16 + x) w
  rw [powF_ten (by omega) (by omega), hP] at c1
  rw [powF_ten (by omega) (by omega), hQ] at c2
  have C1 := Lib.hid c1; have C2 := Lib.hid c2
  have hw1 : IntKind.i64.wrap (n.tdiv P') = n.tdiv P' := IntWalk.i64_in _ (by omega)
  have hw2 : IntKind.i64.wrap (n.tmod P') = n.tmod P' := IntWalk.i64_in _ (by omega)
  have hw3 : IntKind.i64.wrap (n.tmod P' * Q') = n.tmod P' * Q' := IntWalk.i64_in _ (by omega)
  have hw4 : IntKind.i64.wrap (16 + x) = 16 + x := IntWalk.i64_in _ (by omega)
  have hp0 : ¬ P' = 0 := by omega
  clear c1 c2 hP hQ e1 e2 b1 b2 b3 b4 hPQ
  go_enter Tryd.func107, Tryd.ntmps107
  go_wp2_with fail
  refine (C1.out _).mono ?_
  rintro _ _ ⟨rfl, rfl⟩
  go_wp2_with fail
  go_quiet ((go_at_call 111; exact Calls.quiet_of_same (quiet_eq' (C2.out _))))
  go_wp2_with fail
  go_ret2
  exact ⟨rfl, drewN_below (below1 _ _) _⟩

set_option maxHeartbeats 1000000 in
theorem parts_c (n x P Q A : Int) (w : World) (h1 : -16 ≤ x) (h2 : x ≤ 0) (h3 : -100000000000000000 < n) (h4 : n < 100000000000000000)
    (hP : (10 : Int) ^ (-x).toNat = P) (hQ : (10 : Int) ^ (16 + x).toNat = Q) (hA : (n.natAbs : Int) = A) :
    Calls Tryd.prog 106 #[.agg #[.int .i64 n, .int .i64 x]] w fun e w' => e = .returned (.tuple #[.int .i64 (A.tdiv P), .int .i64 (A.tmod P * Q)]) ∧ Below w.heap.size w w' := by
  obtain ⟨P', Q', e1, e2, hPQ, p1, q1, p2, q2⟩ := pow_pair h1 h2
  obtain rfl : P' = P := e1.symm.trans hP
  obtain rfl : Q' = Q := e2.symm.trans hQ
  have hA0 : 0 ≤ A := by omega
  have hA1 : A < 100000000000000000 := by omega
  have hmax : max n (-n) = A := by omega
  obtain ⟨b1, b2, b3, b4⟩ := halves_bd (n := A) p1 q1 hPQ
  have c1 := fun w => power_c 10 (-x) w (by omega) (by omega) (by omega)
  have c2 := fun w => power_c 10 (16 + x) w (by omega) (by omega) (by omega)
  rw [hP] at c1
  rw [hQ] at c2
  have C1 := Lib.hid c1; have C2 := Lib.hid c2
  have hw0 : IntKind.i64.wrap (-n) = -n := IntWalk.i64_in _ (by omega)
  have hw1 : IntKind.i64.wrap (A.tdiv P') = A.tdiv P' := IntWalk.i64_in _ (by omega)
  have hm : A.tmod P' = A % P' := Int.tmod_eq_emod_of_nonneg hA0
  have hw3 : IntKind.i64.wrap (A % P' * Q') = A % P' * Q' := IntWalk.i64_in _ (by rw [← hm]; omega)
  have HM := Lib.hid hm; clear hm
  have hw4 : IntKind.i64.wrap (16 + x) = 16 + x := IntWalk.i64_in _ (by omega)
  have hp0 : ¬ P' = 0 := by omega
  clear c1 c2 hP hQ e1 e2 b1 b2 b3 b4 hPQ hA
  go_enter Tryd.func106, Tryd.ntmps106
  go_wp2_with fail
  go_quiet ((go_at_call 109; exact Calls.quiet_of_same (quiet_eq' (C1.out _))))
  go_wp2_with fail
  go_quiet ((go_at_call 109; exact quiet_second (C2.out _)))
  go_wp2_with fail
  go_ret2
  exact ⟨by rw [HM.out]; rfl, drewN_below (drewN_below (below1 _ _) _) _⟩

theorem lessDecB_no1 {n x m y : Int} (h : decOkB n x = false) : lessDecB n x m y = false := by unfold lessDecB; rw [h]; rfl
theorem lessDecB_no2 {n x m y : Int} (h : decOkB m y = false) : lessDecB n x m y = false := by unfold lessDecB; rw [h]; simp
theorem lessDecB_yes {n x m y P Q R S : Int} (h : decOkB n x = true) (h' : decOkB m y = true)
    (hP : (10 : Int) ^ (-x).toNat = P) (hQ : (10 : Int) ^ (16 + x).toNat = Q) (hR : (10 : Int) ^ (-y).toNat = R) (hS : (10 : Int) ^ (16 + y).toNat = S) :
    lessDecB n x m y = decide (n * Q < m * S) ∧ P * Q = 10000000000000000 ∧ R * S = 10000000000000000 ∧ 1 ≤ P ∧ 1 ≤ Q ∧ 1 ≤ R ∧ 1 ≤ S := by
  obtain ⟨a1, a2, _, _⟩ := decOk_range h
  obtain ⟨b1, b2, _, _⟩ := decOk_range h'
  obtain ⟨P', Q', e1, e2, hPQ, p1, q1, _, _⟩ := pow_pair a1 a2
  obtain ⟨R', S', e3, e4, hRS, r1, s1, _, _⟩ := pow_pair b1 b2
  obtain rfl : P' = P := e1.symm.trans hP
  obtain rfl : Q' = Q := e2.symm.trans hQ
  obtain rfl : R' = R := e3.symm.trans hR
  obtain rfl : S' = S := e4.symm.trans hS
  refine ⟨?_, hPQ, hRS, p1, q1, r1, s1⟩
  unfold lessDecB decUp
  rw [h, h', hQ, hS]; rfl
theorem lessDecB_pair {n x m y P Q R S : Int} (h : decOkB n x = true) (h' : decOkB m y = true)
    (hP : (10 : Int) ^ (-x).toNat = P) (hQ : (10 : Int) ^ (16 + x).toNat = Q) (hR : (10 : Int) ^ (-y).toNat = R) (hS : (10 : Int) ^ (16 + y).toNat = S) :
    lessDecB n x m y = decide (n.tdiv P < m.tdiv R ∨ n.tdiv P = m.tdiv R ∧ n.tmod P * Q < m.tmod R * S) := by
  obtain ⟨e, hPQ, hRS, p1, q1, r1, s1⟩ := lessDecB_yes h h' hP hQ hR hS
  rw [e]
  obtain ⟨a, b, _⟩ := halves_bd (n := n) p1 q1 hPQ
  obtain ⟨c, d, _⟩ := halves_bd (n := m) r1 s1 hRS
  apply decide_eq_decide.2
  rw [← halves_eq (n := n) hPQ, ← halves_eq (n := m) hRS]
  exact (pair_lt a c b d).symm
theorem bcell {W w1 : World} (hb : Below W.heap.size W w1) : (∀ b o, b < W.heap.size → w1.cell? ⟨b, o, none⟩ = W.cell? ⟨b, o, none⟩) ∧ (∀ b o, b < W.heap.size → w1.frozen? ⟨b, o, none⟩ = W.frozen? ⟨b, o, none⟩) :=
  ⟨fun b o h => hb.cell (p := ⟨b, o, none⟩) h, fun b o h => hb.frozen (p := ⟨b, o, none⟩) h⟩

set_option maxHeartbeats 2000000 in
theorem lessDec_spec (n x m y : Int) (w : World) (n1 : -9223372036854775808 ≤ n) (n2 : n ≤ 9223372036854775807) (m1 : -9223372036854775808 ≤ m) (m2 : m ≤ 9223372036854775807) :
    Calls Tryd.prog 38 #[.agg #[.int .i64 n, .int .i64 x], .agg #[.int .i64 m, .int .i64 y]] w fun e w' => e = .returned (.bool (lessDecB n x m y)) ∧ Below w.heap.size w w' := by
  have H1 := Lib.hid (fun w => decOk_spec n x w n1 n2)
  have H2 := Lib.hid (fun w => decOk_spec m y w m1 m2)
  cases hk : decOkB n x with
  | false =>
    rw [lessDecB_no1 hk]
    rw [hk] at H1
    go_enter Tryd.func38, Tryd.ntmps38
    go_wp2_with fail
    refine (H1.out _).mono ?_
    rintro _ w1 ⟨rfl, b1⟩
    go_wp2_with fail
    go_ret
    exact ⟨rfl, nx (below2 _ _ _) b1⟩
  | true =>
  cases hk2 : decOkB m y with
  | false =>
    rw [lessDecB_no2 hk2]
    rw [hk] at H1
    rw [hk2] at H2
    go_enter Tryd.func38, Tryd.ntmps38
    go_wp2_with fail
    refine (H1.out _).mono ?_
    rintro _ w1 ⟨rfl, b1⟩
    obtain ⟨c0, c1, _⟩ := two_num b1 (second_block2 w _ _)
    go_wp2_with fail
    refine (H2.out _).mono ?_
    rintro _ w2 ⟨rfl, b2⟩
    go_wp2_with fail
    go_ret
    exact ⟨rfl, nx (nx (below2 _ _ _) b1) b2⟩
  | true =>
    obtain ⟨P, hP⟩ : ∃ P, (10 : Int) ^ (-x).toNat = P := ⟨_, rfl⟩
    obtain ⟨Q, hQ⟩ : ∃ P, (10 : Int) ^ (16 + x).toNat = P := ⟨_, rfl⟩
    obtain ⟨R, hR⟩ : ∃ P, (10 : Int) ^ (-y).toNat = P := ⟨_, rfl⟩
    obtain ⟨S, hS⟩ : ∃ P, (10 : Int) ^ (16 + y).toNat = P := ⟨_, rfl⟩
    have hres := lessDecB_pair hk hk2 hP hQ hR hS
    obtain ⟨a1, a2, a3, a4⟩ := decOk_range hk
    obtain ⟨e1, e2, e3, e4⟩ := decOk_range hk2
    have L1 := fun w => l4Up_c n x P Q w a1 a2 a3 a4 hP hQ
    have L2 := fun w => l4Up_c m y R S w e1 e2 e3 e4 hR hS
    rw [hk] at H1
    rw [hk2] at H2
    clear hk hk2 hP hQ hR hS a1 a2 a3 a4 e1 e2 e3 e4 n1 n2 m1 m2
    generalize n.tdiv P = X at *
    generalize n.tmod P * Q = Y at *
    generalize m.tdiv R = U at *
    generalize m.tmod R * S = V at *
    rw [hres]
    have HL1 := Lib.hid L1; have HL2 := Lib.hid L2
    clear L1 L2 hres
    have hc : (X < U) ∨ (X = U ∧ Y < V) ∨ (X = U ∧ ¬ Y < V) ∨ U < X := by omega
    rcases hc with h | ⟨rfl, h⟩ | ⟨rfl, h⟩ | h
    · have hd1 : decide (X < U) = true := decide_eq_true h
      have hd2 : (X == U) = false := by simp; omega
      have hd : decide (X < U ∨ X = U ∧ Y < V) = true := decide_eq_true (.inl h)
      rw [hd]; clear hd
      go_enter Tryd.func38, Tryd.ntmps38
      go_wp2_with fail
      refine (H1.out _).mono ?_
      rintro _ w1 ⟨rfl, b1⟩
      obtain ⟨c0, c1, _⟩ := two_num b1 (first_block w _ _)
      obtain ⟨d0, d1, _⟩ := two_num b1 (second_block2 w _ _)
      go_wp2_with fail
      refine (H2.out _).mono ?_
      rintro _ w2 ⟨rfl, b2⟩
      clear c0 c1 d0 d1
      have t2 := nx b1 b2
      obtain ⟨c0, c1, _⟩ := two_num t2 (first_block w _ _)
      go_wp2_with fail
      refine (HL1.out _).mono ?_
      rintro _ w3 ⟨rfl, b3⟩
      clear c0 c1
      have t3 := nx t2 b3
      obtain ⟨d0, d1, _⟩ := two_num t3 (second_block2 w _ _)
      go_wp2_with fail
      refine (HL2.out _).mono ?_
      rintro _ w4 ⟨rfl, b4⟩
      clear d0 d1
      go_wp2_with fail
      go_ret
      exact ⟨rfl, nx (below2 _ _ _) (nx t3 b4)⟩
    · have hd1 : decide (X < X) = false := by simp
      have hd2 : decide (Y < V) = true := decide_eq_true h
      have hd : decide (X < X ∨ X = X ∧ Y < V) = true := decide_eq_true (.inr ⟨rfl, h⟩)
      rw [hd]; clear hd
      go_enter Tryd.func38, Tryd.ntmps38
      go_wp2_with fail
      refine (H1.out _).mono ?_
      rintro _ w1 ⟨rfl, b1⟩
      obtain ⟨c0, c1, _⟩ := two_num b1 (first_block w _ _)
      obtain ⟨d0, d1, _⟩ := two_num b1 (second_block2 w _ _)
      go_wp2_with fail
      refine (H2.out _).mono ?_
      rintro _ w2 ⟨rfl, b2⟩
      clear c0 c1 d0 d1
      have t2 := nx b1 b2
      obtain ⟨c0, c1, _⟩ := two_num t2 (first_block w _ _)
      go_wp2_with fail
      refine (HL1.out _).mono ?_
      rintro _ w3 ⟨rfl, b3⟩
      clear c0 c1
      have t3 := nx t2 b3
      obtain ⟨d0, d1, _⟩ := two_num t3 (second_block2 w _ _)
      go_wp2_with fail
      refine (HL2.out _).mono ?_
      rintro _ w4 ⟨rfl, b4⟩
      clear d0 d1
      go_wp2_with fail
      go_ret
      exact ⟨rfl, nx (below2 _ _ _) (nx t3 b4)⟩
    · have hd1 : decide (X < X) = false := by simp
      have hd2 : decide (Y < V) = false := decide_eq_false h
      have hd : decide (X < X ∨ X = X ∧ Y < V) = false := decide_eq_false (by omega)
      rw [hd]; clear hd
      go_enter Tryd.func38, Tryd.ntmps38
      go_wp2_with fail
      refine (H1.out _).mono ?_
      rintro _ w1 ⟨rfl, b1⟩
      obtain ⟨c0, c1, _⟩ := two_num b1 (first_block w _ _)
      obtain ⟨d0, d1, _⟩ := two_num b1 (second_block2 w _ _)
      go_wp2_with fail
      refine (H2.out _).mono ?_
      rintro _ w2 ⟨rfl, b2⟩
      clear c0 c1 d0 d1
      have t2 := nx b1 b2
      obtain ⟨c0, c1, _⟩ := two_num t2 (first_block w _ _)
      go_wp2_with fail
      refine (HL1.out _).mono ?_
      rintro _ w3 ⟨rfl, b3⟩
      clear c0 c1
      have t3 := nx t2 b3
      obtain ⟨d0, d1, _⟩ := two_num t3 (second_block2 w _ _)
      go_wp2_with fail
      refine (HL2.out _).mono ?_
      rintro _ w4 ⟨rfl, b4⟩
      clear d0 d1
      go_wp2_with fail
      go_ret
      exact ⟨rfl, nx (below2 _ _ _) (nx t3 b4)⟩
    · have hd1 : decide (X < U) = false := decide_eq_false (by omega)
      have hd2 : (X == U) = false := by simp; omega
      have hd : decide (X < U ∨ X = U ∧ Y < V) = false := decide_eq_false (by omega)
      rw [hd]; clear hd
      go_enter Tryd.func38, Tryd.ntmps38
      go_wp2_with fail
      refine (H1.out _).mono ?_
      rintro _ w1 ⟨rfl, b1⟩
      obtain ⟨c0, c1, _⟩ := two_num b1 (first_block w _ _)
      obtain ⟨d0, d1, _⟩ := two_num b1 (second_block2 w _ _)
      go_wp2_with fail
      refine (H2.out _).mono ?_
      rintro _ w2 ⟨rfl, b2⟩
      clear c0 c1 d0 d1
      have t2 := nx b1 b2
      obtain ⟨c0, c1, _⟩ := two_num t2 (first_block w _ _)
      go_wp2_with fail
      refine (HL1.out _).mono ?_
      rintro _ w3 ⟨rfl, b3⟩
      clear c0 c1
      have t3 := nx t2 b3
      obtain ⟨d0, d1, _⟩ := two_num t3 (second_block2 w _ _)
      go_wp2_with fail
      refine (HL2.out _).mono ?_
      rintro _ w4 ⟨rfl, b4⟩
      clear d0 d1
      go_wp2_with fail
      go_ret
      exact ⟨rfl, nx (below2 _ _ _) (nx t3 b4)⟩

/-- The sizes, in two halves. -/
theorem less_pos {n m P Q R S : Int} (hn : 0 ≤ n) (hm : 0 ≤ m) (hPQ : P * Q = 10000000000000000) (hRS : R * S = 10000000000000000) (p1 : 1 ≤ P) (q1 : 1 ≤ Q) (r1 : 1 ≤ R) (s1 : 1 ≤ S) {A B : Int} (hA : (n.natAbs : Int) = A) (hB : (m.natAbs : Int) = B) :
    decide (n * Q < m * S) = decide (A.tdiv P < B.tdiv R ∨ A.tdiv P = B.tdiv R ∧ A.tmod P * Q < B.tmod R * S) := by
  obtain rfl : A = n := by omega
  obtain rfl : B = m := by omega
  obtain ⟨a, b, _⟩ := halves_bd (n := A) p1 q1 hPQ
  obtain ⟨c, d, _⟩ := halves_bd (n := B) r1 s1 hRS
  apply decide_eq_decide.2
  rw [← halves_eq (n := A) hPQ, ← halves_eq (n := B) hRS]
  exact (pair_lt a c b d).symm
theorem less_neg {n m P Q R S : Int} (hn : n < 0) (hm : m < 0) (hPQ : P * Q = 10000000000000000) (hRS : R * S = 10000000000000000) (p1 : 1 ≤ P) (q1 : 1 ≤ Q) (r1 : 1 ≤ R) (s1 : 1 ≤ S) {A B : Int} (hA : (n.natAbs : Int) = A) (hB : (m.natAbs : Int) = B) :
    decide (n * Q < m * S) = decide (B.tdiv R < A.tdiv P ∨ B.tdiv R = A.tdiv P ∧ B.tmod R * S < A.tmod P * Q) := by
  obtain ⟨a, b, _⟩ := halves_bd (n := A) p1 q1 hPQ
  obtain ⟨c, d, _⟩ := halves_bd (n := B) r1 s1 hRS
  apply decide_eq_decide.2
  rw [pair_lt c a d b, halves_eq (n := A) hPQ, halves_eq (n := B) hRS]
  obtain rfl : n = -A := by omega
  obtain rfl : m = -B := by omega
  rw [Int.neg_mul, Int.neg_mul]; omega
theorem less_mix {n m Q S : Int} (q1 : 1 ≤ Q) (s1 : 1 ≤ S) (h : (n < 0 ∧ ¬ m < 0) ∨ (¬ n < 0 ∧ m < 0)) : decide (n * Q < m * S) = decide (n < 0) := by
  apply decide_eq_decide.2
  rcases h with ⟨a, b⟩ | ⟨a, b⟩
  · have h1 := Int.mul_nonneg (a := m) (b := S) (by omega) (by omega)
    have h2 : n * Q < 0 := Int.mul_neg_of_neg_of_pos a (by omega)
    omega
  · have h1 := Int.mul_nonneg (a := n) (b := Q) (by omega) (by omega)
    have h2 : m * S < 0 := Int.mul_neg_of_neg_of_pos b (by omega)
    omega

set_option maxHeartbeats 4000000 in
theorem lessDec_impl (n x m y : Int) (w : World) (hL : LaidP w) (n1 : -9223372036854775808 ≤ n) (n2 : n ≤ 9223372036854775807) (m1 : -9223372036854775808 ≤ m) (m2 : m ≤ 9223372036854775807) :
    Calls Tryd.prog 37 #[.agg #[.int .i64 n, .int .i64 x], .agg #[.int .i64 m, .int .i64 y]] w fun e w' => e = .returned (.bool (lessDecB n x m y)) ∧ Below w.heap.size w w' := by
  have H1 := Lib.hid (fun w1 (hb : Below w.heap.size w w1) => decOk_impl n x w1 (hL.kept hb) n1 n2)
  have H2 := Lib.hid (fun w1 (hb : Below w.heap.size w w1) => decOk_impl m y w1 (hL.kept hb) m1 m2)
  clear hL
  cases hk : decOkB n x with
  | false =>
    rw [lessDecB_no1 hk]
    rw [hk] at H1
    go_enter Tryd.func37, Tryd.ntmps37
    go_wp2_with fail
    refine (H1.out _ (below2 _ _ _)).mono ?_
    rintro _ w1 ⟨rfl, b1⟩
    go_wp2_with fail
    go_ret
    exact ⟨rfl, nx (below2 _ _ _) b1⟩
  | true =>
  cases hk2 : decOkB m y with
  | false =>
    rw [lessDecB_no2 hk2]
    rw [hk] at H1
    rw [hk2] at H2
    go_enter Tryd.func37, Tryd.ntmps37
    go_wp2_with fail
    refine (H1.out _ (below2 _ _ _)).mono ?_
    rintro _ w1 ⟨rfl, b1⟩
    obtain ⟨c0, c1, _⟩ := two_num b1 (second_block2 w _ _)
    go_wp2_with fail
    refine (H2.out _ (nx (below2 _ _ _) b1)).mono ?_
    rintro _ w2 ⟨rfl, b2⟩
    go_wp2_with fail
    go_ret
    exact ⟨rfl, nx (nx (below2 _ _ _) b1) b2⟩
  | true =>
    obtain ⟨P, hP⟩ : ∃ P, (10 : Int) ^ (-x).toNat = P := ⟨_, rfl⟩
    obtain ⟨Q, hQ⟩ : ∃ P, (10 : Int) ^ (16 + x).toNat = P := ⟨_, rfl⟩
    obtain ⟨R, hR⟩ : ∃ P, (10 : Int) ^ (-y).toNat = P := ⟨_, rfl⟩
    obtain ⟨S, hS⟩ : ∃ P, (10 : Int) ^ (16 + y).toNat = P := ⟨_, rfl⟩
    obtain ⟨hres, hPQ, hRS, p1, q1, r1, s1⟩ := lessDecB_yes hk hk2 hP hQ hR hS
    obtain ⟨a1, a2, a3, a4⟩ := decOk_range hk
    obtain ⟨e1, e2, e3, e4⟩ := decOk_range hk2
    rw [hres]; clear hres
    obtain ⟨A, hA⟩ : ∃ A, (n.natAbs : Int) = A := ⟨_, rfl⟩
    obtain ⟨B, hB⟩ : ∃ A, (m.natAbs : Int) = A := ⟨_, rfl⟩
    have L1 := fun w => parts_c n x P Q A w a1 a2 a3 a4 hP hQ hA
    have L2 := fun w => parts_c m y R S B w e1 e2 e3 e4 hR hS hB
    rw [hk] at H1
    rw [hk2] at H2
    by_cases hn : n < 0
    · by_cases hm : m < 0
      · rw [less_neg hn hm hPQ hRS p1 q1 r1 s1 hA hB]
        clear hk hk2 hP hQ hR hS a1 a2 a3 a4 e1 e2 e3 e4 n1 n2 m1 m2 hPQ hRS p1 q1 r1 s1 hA hB
        generalize A.tdiv P = X at *
        generalize A.tmod P * Q = Y at *
        generalize B.tdiv R = U at *
        generalize B.tmod R * S = V at *
        have HL1 := Lib.hid L1; have HL2 := Lib.hid L2
        clear L1 L2
        have hdn : decide (n < 0) = true := decide_eq_true hn
        have hdm : decide (m < 0) = true := decide_eq_true hm
        have hc : (U < X) ∨ (U = X ∧ V < Y) ∨ (U = X ∧ ¬ V < Y) ∨ X < U := by omega
        rcases hc with h | ⟨rfl, h⟩ | ⟨rfl, h⟩ | h
        · have hd1 : decide (U < X) = true := decide_eq_true h
          have hd2 : (U == X) = false := by simp; omega
          have hd : decide (U < X ∨ U = X ∧ V < Y) = true := decide_eq_true (.inl h)
          rw [hd]; clear hd
          go_enter Tryd.func37, Tryd.ntmps37
          go_wp2_with fail
          refine (H1.out _ (below2 _ _ _)).mono ?_
          rintro _ w1 ⟨rfl, b1⟩
          obtain ⟨c0, c1, _⟩ := two_num b1 (first_block w _ _)
          obtain ⟨d0, d1, _⟩ := two_num b1 (second_block2 w _ _)
          go_wp2_with fail
          refine (H2.out _ (nx (below2 _ _ _) b1)).mono ?_
          rintro _ w2 ⟨rfl, b2⟩
          clear c0 c1 d0 d1
          have t2 := nx b1 b2
          obtain ⟨c0, c1, cf⟩ := two_num t2 (first_block w _ _)
          obtain ⟨d0, d1, df⟩ := two_num t2 (second_block2 w _ _)
          have cf0 := cf 0; have cf1 := cf 1; have df0 := df 0; have df1 := df 1
          clear cf df
          have hsz2 := t2.size
          simp only [World.size_alloc] at hsz2
          go_wp2_with fail
          refine (HL2.out _).mono ?_
          rintro _ w3 ⟨rfl, b3⟩
          obtain ⟨hc, hf⟩ := bcell b3
          have hszb := b3.size
          have BB := Lib.hid b3; clear b3
          have e0 := hc (w.heap.size + 1) 0 (by simp [World.setCell]; omega)
          have e1 := hc (w.heap.size + 1) 1 (by simp [World.setCell]; omega)
          clear hc hf
          have e0' : w3.cell? ⟨w.heap.size + 1, 0, none⟩ = some (.int .i64 n) := by rw [e0]; go_simp
          have e1' : w3.cell? ⟨w.heap.size + 1, 1, none⟩ = some (.int .i64 x) := by rw [e1]; go_simp
          clear e0 e1
          go_wp2_with fail
          refine (HL1.out _).mono ?_
          rintro _ w4 ⟨rfl, b4⟩
          go_wp2_with fail
          go_ret
          refine ⟨rfl, (Below.trans ?_ (BB.out.mono ?_)).trans (b4.mono ?_)⟩
          · exact ((((nx (below2 _ _ _) t2).setCell (by dsimp only; omega) _).setCell (by dsimp only; omega) _).setCell (by dsimp only; omega) _).setCell (by dsimp only; omega) _
          · simp [World.setCell]; omega
          · simp [World.setCell] at hszb; omega
        · have hd1 : decide (U < U) = false := by simp
          have hd2 : decide (V < Y) = true := decide_eq_true h
          have hd : decide (U < U ∨ U = U ∧ V < Y) = true := decide_eq_true (.inr ⟨rfl, h⟩)
          rw [hd]; clear hd
          go_enter Tryd.func37, Tryd.ntmps37
          go_wp2_with fail
          refine (H1.out _ (below2 _ _ _)).mono ?_
          rintro _ w1 ⟨rfl, b1⟩
          obtain ⟨c0, c1, _⟩ := two_num b1 (first_block w _ _)
          obtain ⟨d0, d1, _⟩ := two_num b1 (second_block2 w _ _)
          go_wp2_with fail
          refine (H2.out _ (nx (below2 _ _ _) b1)).mono ?_
          rintro _ w2 ⟨rfl, b2⟩
          clear c0 c1 d0 d1
          have t2 := nx b1 b2
          obtain ⟨c0, c1, cf⟩ := two_num t2 (first_block w _ _)
          obtain ⟨d0, d1, df⟩ := two_num t2 (second_block2 w _ _)
          have cf0 := cf 0; have cf1 := cf 1; have df0 := df 0; have df1 := df 1
          clear cf df
          have hsz2 := t2.size
          simp only [World.size_alloc] at hsz2
          go_wp2_with fail
          refine (HL2.out _).mono ?_
          rintro _ w3 ⟨rfl, b3⟩
          obtain ⟨hc, hf⟩ := bcell b3
          have hszb := b3.size
          have BB := Lib.hid b3; clear b3
          have e0 := hc (w.heap.size + 1) 0 (by simp [World.setCell]; omega)
          have e1 := hc (w.heap.size + 1) 1 (by simp [World.setCell]; omega)
          clear hc hf
          have e0' : w3.cell? ⟨w.heap.size + 1, 0, none⟩ = some (.int .i64 n) := by rw [e0]; go_simp
          have e1' : w3.cell? ⟨w.heap.size + 1, 1, none⟩ = some (.int .i64 x) := by rw [e1]; go_simp
          clear e0 e1
          go_wp2_with fail
          refine (HL1.out _).mono ?_
          rintro _ w4 ⟨rfl, b4⟩
          go_wp2_with fail
          go_ret
          refine ⟨rfl, (Below.trans ?_ (BB.out.mono ?_)).trans (b4.mono ?_)⟩
          · exact ((((nx (below2 _ _ _) t2).setCell (by dsimp only; omega) _).setCell (by dsimp only; omega) _).setCell (by dsimp only; omega) _).setCell (by dsimp only; omega) _
          · simp [World.setCell]; omega
          · simp [World.setCell] at hszb; omega
        · have hd1 : decide (U < U) = false := by simp
          have hd2 : decide (V < Y) = false := decide_eq_false h
          have hd : decide (U < U ∨ U = U ∧ V < Y) = false := decide_eq_false (by omega)
          rw [hd]; clear hd
          go_enter Tryd.func37, Tryd.ntmps37
          go_wp2_with fail
          refine (H1.out _ (below2 _ _ _)).mono ?_
          rintro _ w1 ⟨rfl, b1⟩
          obtain ⟨c0, c1, _⟩ := two_num b1 (first_block w _ _)
          obtain ⟨d0, d1, _⟩ := two_num b1 (second_block2 w _ _)
          go_wp2_with fail
          refine (H2.out _ (nx (below2 _ _ _) b1)).mono ?_
          rintro _ w2 ⟨rfl, b2⟩
          clear c0 c1 d0 d1
          have t2 := nx b1 b2
          obtain ⟨c0, c1, cf⟩ := two_num t2 (first_block w _ _)
          obtain ⟨d0, d1, df⟩ := two_num t2 (second_block2 w _ _)
          have cf0 := cf 0; have cf1 := cf 1; have df0 := df 0; have df1 := df 1
          clear cf df
          have hsz2 := t2.size
          simp only [World.size_alloc] at hsz2
          go_wp2_with fail
          refine (HL2.out _).mono ?_
          rintro _ w3 ⟨rfl, b3⟩
          obtain ⟨hc, hf⟩ := bcell b3
          have hszb := b3.size
          have BB := Lib.hid b3; clear b3
          have e0 := hc (w.heap.size + 1) 0 (by simp [World.setCell]; omega)
          have e1 := hc (w.heap.size + 1) 1 (by simp [World.setCell]; omega)
          clear hc hf
          have e0' : w3.cell? ⟨w.heap.size + 1, 0, none⟩ = some (.int .i64 n) := by rw [e0]; go_simp
          have e1' : w3.cell? ⟨w.heap.size + 1, 1, none⟩ = some (.int .i64 x) := by rw [e1]; go_simp
          clear e0 e1
          go_wp2_with fail
          refine (HL1.out _).mono ?_
          rintro _ w4 ⟨rfl, b4⟩
          go_wp2_with fail
          go_ret
          refine ⟨rfl, (Below.trans ?_ (BB.out.mono ?_)).trans (b4.mono ?_)⟩
          · exact ((((nx (below2 _ _ _) t2).setCell (by dsimp only; omega) _).setCell (by dsimp only; omega) _).setCell (by dsimp only; omega) _).setCell (by dsimp only; omega) _
          · simp [World.setCell]; omega
          · simp [World.setCell] at hszb; omega
        · have hd1 : decide (U < X) = false := decide_eq_false (by omega)
          have hd2 : (U == X) = false := by simp; omega
          have hd : decide (U < X ∨ U = X ∧ V < Y) = false := decide_eq_false (by omega)
          rw [hd]; clear hd
          go_enter Tryd.func37, Tryd.ntmps37
          go_wp2_with fail
          refine (H1.out _ (below2 _ _ _)).mono ?_
          rintro _ w1 ⟨rfl, b1⟩
          obtain ⟨c0, c1, _⟩ := two_num b1 (first_block w _ _)
          obtain ⟨d0, d1, _⟩ := two_num b1 (second_block2 w _ _)
          go_wp2_with fail
          refine (H2.out _ (nx (below2 _ _ _) b1)).mono ?_
          rintro _ w2 ⟨rfl, b2⟩
          clear c0 c1 d0 d1
          have t2 := nx b1 b2
          obtain ⟨c0, c1, cf⟩ := two_num t2 (first_block w _ _)
          obtain ⟨d0, d1, df⟩ := two_num t2 (second_block2 w _ _)
          have cf0 := cf 0; have cf1 := cf 1; have df0 := df 0; have df1 := df 1
          clear cf df
          have hsz2 := t2.size
          simp only [World.size_alloc] at hsz2
          go_wp2_with fail
          refine (HL2.out _).mono ?_
          rintro _ w3 ⟨rfl, b3⟩
          obtain ⟨hc, hf⟩ := bcell b3
          have hszb := b3.size
          have BB := Lib.hid b3; clear b3
          have e0 := hc (w.heap.size + 1) 0 (by simp [World.setCell]; omega)
          have e1 := hc (w.heap.size + 1) 1 (by simp [World.setCell]; omega)
          clear hc hf
          have e0' : w3.cell? ⟨w.heap.size + 1, 0, none⟩ = some (.int .i64 n) := by rw [e0]; go_simp
          have e1' : w3.cell? ⟨w.heap.size + 1, 1, none⟩ = some (.int .i64 x) := by rw [e1]; go_simp
          clear e0 e1
          go_wp2_with fail
          refine (HL1.out _).mono ?_
          rintro _ w4 ⟨rfl, b4⟩
          go_wp2_with fail
          go_ret
          refine ⟨rfl, (Below.trans ?_ (BB.out.mono ?_)).trans (b4.mono ?_)⟩
          · exact ((((nx (below2 _ _ _) t2).setCell (by dsimp only; omega) _).setCell (by dsimp only; omega) _).setCell (by dsimp only; omega) _).setCell (by dsimp only; omega) _
          · simp [World.setCell]; omega
          · simp [World.setCell] at hszb; omega
      · rw [less_mix q1 s1 (.inl ⟨hn, hm⟩)]
        clear hk hk2 hP hQ hR hS a1 a2 a3 a4 e1 e2 e3 e4 n1 n2 m1 m2 hPQ hRS p1 q1 r1 s1 hA hB L1 L2
        have hdn : decide (n < 0) = true := decide_eq_true hn
        have hdm : decide (m < 0) = false := decide_eq_false hm
        rw [hdn]
        go_enter Tryd.func37, Tryd.ntmps37
        go_wp2_with fail
        refine (H1.out _ (below2 _ _ _)).mono ?_
        rintro _ w1 ⟨rfl, b1⟩
        obtain ⟨c0, c1, _⟩ := two_num b1 (first_block w _ _)
        obtain ⟨d0, d1, _⟩ := two_num b1 (second_block2 w _ _)
        go_wp2_with fail
        refine (H2.out _ (nx (below2 _ _ _) b1)).mono ?_
        rintro _ w2 ⟨rfl, b2⟩
        clear c0 c1 d0 d1
        have t2 := nx b1 b2
        obtain ⟨c0, c1, cf⟩ := two_num t2 (first_block w _ _)
        obtain ⟨d0, d1, df⟩ := two_num t2 (second_block2 w _ _)
        have cf0 := cf 0; have cf1 := cf 1; have df0 := df 0; have df1 := df 1
        clear cf df
        have hsz2 := t2.size
        simp only [World.size_alloc] at hsz2
        go_wp2_with fail
        go_ret
        exact ⟨rfl, nx (below2 _ _ _) t2⟩
    · by_cases hm : m < 0
      · rw [less_mix q1 s1 (.inr ⟨hn, hm⟩)]
        clear hk hk2 hP hQ hR hS a1 a2 a3 a4 e1 e2 e3 e4 n1 n2 m1 m2 hPQ hRS p1 q1 r1 s1 hA hB L1 L2
        have hdn : decide (n < 0) = false := decide_eq_false hn
        have hdm : decide (m < 0) = true := decide_eq_true hm
        rw [hdn]
        go_enter Tryd.func37, Tryd.ntmps37
        go_wp2_with fail
        refine (H1.out _ (below2 _ _ _)).mono ?_
        rintro _ w1 ⟨rfl, b1⟩
        obtain ⟨c0, c1, _⟩ := two_num b1 (first_block w _ _)
        obtain ⟨d0, d1, _⟩ := two_num b1 (second_block2 w _ _)
        go_wp2_with fail
        refine (H2.out _ (nx (below2 _ _ _) b1)).mono ?_
        rintro _ w2 ⟨rfl, b2⟩
        clear c0 c1 d0 d1
        have t2 := nx b1 b2
        obtain ⟨c0, c1, cf⟩ := two_num t2 (first_block w _ _)
        obtain ⟨d0, d1, df⟩ := two_num t2 (second_block2 w _ _)
        have cf0 := cf 0; have cf1 := cf 1; have df0 := df 0; have df1 := df 1
        clear cf df
        have hsz2 := t2.size
        simp only [World.size_alloc] at hsz2
        go_wp2_with fail
        go_ret
        exact ⟨rfl, nx (below2 _ _ _) t2⟩
      · rw [less_pos (by omega) (by omega) hPQ hRS p1 q1 r1 s1 hA hB]
        clear hk hk2 hP hQ hR hS a1 a2 a3 a4 e1 e2 e3 e4 n1 n2 m1 m2 hPQ hRS p1 q1 r1 s1 hA hB
        generalize A.tdiv P = X at *
        generalize A.tmod P * Q = Y at *
        generalize B.tdiv R = U at *
        generalize B.tmod R * S = V at *
        have HL1 := Lib.hid L1; have HL2 := Lib.hid L2
        clear L1 L2
        have hdn : decide (n < 0) = false := decide_eq_false hn
        have hdm : decide (m < 0) = false := decide_eq_false hm
        have hc : (X < U) ∨ (X = U ∧ Y < V) ∨ (X = U ∧ ¬ Y < V) ∨ U < X := by omega
        rcases hc with h | ⟨rfl, h⟩ | ⟨rfl, h⟩ | h
        · have hd1 : decide (X < U) = true := decide_eq_true h
          have hd2 : (X == U) = false := by simp; omega
          have hd : decide (X < U ∨ X = U ∧ Y < V) = true := decide_eq_true (.inl h)
          rw [hd]; clear hd
          go_enter Tryd.func37, Tryd.ntmps37
          go_wp2_with fail
          refine (H1.out _ (below2 _ _ _)).mono ?_
          rintro _ w1 ⟨rfl, b1⟩
          obtain ⟨c0, c1, _⟩ := two_num b1 (first_block w _ _)
          obtain ⟨d0, d1, _⟩ := two_num b1 (second_block2 w _ _)
          go_wp2_with fail
          refine (H2.out _ (nx (below2 _ _ _) b1)).mono ?_
          rintro _ w2 ⟨rfl, b2⟩
          clear c0 c1 d0 d1
          have t2 := nx b1 b2
          obtain ⟨c0, c1, cf⟩ := two_num t2 (first_block w _ _)
          obtain ⟨d0, d1, df⟩ := two_num t2 (second_block2 w _ _)
          have cf0 := cf 0; have cf1 := cf 1; have df0 := df 0; have df1 := df 1
          clear cf df
          have hsz2 := t2.size
          simp only [World.size_alloc] at hsz2
          go_wp2_with fail
          refine (HL1.out _).mono ?_
          rintro _ w3 ⟨rfl, b3⟩
          clear c0 c1 d0 d1 cf0 cf1 df0 df1
          have t3 := nx t2 b3
          obtain ⟨d0, d1, _⟩ := two_num t3 (second_block2 w _ _)
          go_wp2_with fail
          refine (HL2.out _).mono ?_
          rintro _ w4 ⟨rfl, b4⟩
          clear d0 d1
          go_wp2_with fail
          go_ret
          exact ⟨rfl, nx (below2 _ _ _) (nx t3 b4)⟩
        · have hd1 : decide (X < X) = false := by simp
          have hd2 : decide (Y < V) = true := decide_eq_true h
          have hd : decide (X < X ∨ X = X ∧ Y < V) = true := decide_eq_true (.inr ⟨rfl, h⟩)
          rw [hd]; clear hd
          go_enter Tryd.func37, Tryd.ntmps37
          go_wp2_with fail
          refine (H1.out _ (below2 _ _ _)).mono ?_
          rintro _ w1 ⟨rfl, b1⟩
          obtain ⟨c0, c1, _⟩ := two_num b1 (first_block w _ _)
          obtain ⟨d0, d1, _⟩ := two_num b1 (second_block2 w _ _)
          go_wp2_with fail
          refine (H2.out _ (nx (below2 _ _ _) b1)).mono ?_
          rintro _ w2 ⟨rfl, b2⟩
          clear c0 c1 d0 d1
          have t2 := nx b1 b2
          obtain ⟨c0, c1, cf⟩ := two_num t2 (first_block w _ _)
          obtain ⟨d0, d1, df⟩ := two_num t2 (second_block2 w _ _)
          have cf0 := cf 0; have cf1 := cf 1; have df0 := df 0; have df1 := df 1
          clear cf df
          have hsz2 := t2.size
          simp only [World.size_alloc] at hsz2
          go_wp2_with fail
          refine (HL1.out _).mono ?_
          rintro _ w3 ⟨rfl, b3⟩
          clear c0 c1 d0 d1 cf0 cf1 df0 df1
          have t3 := nx t2 b3
          obtain ⟨d0, d1, _⟩ := two_num t3 (second_block2 w _ _)
          go_wp2_with fail
          refine (HL2.out _).mono ?_
          rintro _ w4 ⟨rfl, b4⟩
          clear d0 d1
          go_wp2_with fail
          go_ret
          exact ⟨rfl, nx (below2 _ _ _) (nx t3 b4)⟩
        · have hd1 : decide (X < X) = false := by simp
          have hd2 : decide (Y < V) = false := decide_eq_false h
          have hd : decide (X < X ∨ X = X ∧ Y < V) = false := decide_eq_false (by omega)
          rw [hd]; clear hd
          go_enter Tryd.func37, Tryd.ntmps37
          go_wp2_with fail
          refine (H1.out _ (below2 _ _ _)).mono ?_
          rintro _ w1 ⟨rfl, b1⟩
          obtain ⟨c0, c1, _⟩ := two_num b1 (first_block w _ _)
          obtain ⟨d0, d1, _⟩ := two_num b1 (second_block2 w _ _)
          go_wp2_with fail
          refine (H2.out _ (nx (below2 _ _ _) b1)).mono ?_
          rintro _ w2 ⟨rfl, b2⟩
          clear c0 c1 d0 d1
          have t2 := nx b1 b2
          obtain ⟨c0, c1, cf⟩ := two_num t2 (first_block w _ _)
          obtain ⟨d0, d1, df⟩ := two_num t2 (second_block2 w _ _)
          have cf0 := cf 0; have cf1 := cf 1; have df0 := df 0; have df1 := df 1
          clear cf df
          have hsz2 := t2.size
          simp only [World.size_alloc] at hsz2
          go_wp2_with fail
          refine (HL1.out _).mono ?_
          rintro _ w3 ⟨rfl, b3⟩
          clear c0 c1 d0 d1 cf0 cf1 df0 df1
          have t3 := nx t2 b3
          obtain ⟨d0, d1, _⟩ := two_num t3 (second_block2 w _ _)
          go_wp2_with fail
          refine (HL2.out _).mono ?_
          rintro _ w4 ⟨rfl, b4⟩
          clear d0 d1
          go_wp2_with fail
          go_ret
          exact ⟨rfl, nx (below2 _ _ _) (nx t3 b4)⟩
        · have hd1 : decide (X < U) = false := decide_eq_false (by omega)
          have hd2 : (X == U) = false := by simp; omega
          have hd : decide (X < U ∨ X = U ∧ Y < V) = false := decide_eq_false (by omega)
          rw [hd]; clear hd
          go_enter Tryd.func37, Tryd.ntmps37
          go_wp2_with fail
          refine (H1.out _ (below2 _ _ _)).mono ?_
          rintro _ w1 ⟨rfl, b1⟩
          obtain ⟨c0, c1, _⟩ := two_num b1 (first_block w _ _)
          obtain ⟨d0, d1, _⟩ := two_num b1 (second_block2 w _ _)
          go_wp2_with fail
          refine (H2.out _ (nx (below2 _ _ _) b1)).mono ?_
          rintro _ w2 ⟨rfl, b2⟩
          clear c0 c1 d0 d1
          have t2 := nx b1 b2
          obtain ⟨c0, c1, cf⟩ := two_num t2 (first_block w _ _)
          obtain ⟨d0, d1, df⟩ := two_num t2 (second_block2 w _ _)
          have cf0 := cf 0; have cf1 := cf 1; have df0 := df 0; have df1 := df 1
          clear cf df
          have hsz2 := t2.size
          simp only [World.size_alloc] at hsz2
          go_wp2_with fail
          refine (HL1.out _).mono ?_
          rintro _ w3 ⟨rfl, b3⟩
          clear c0 c1 d0 d1 cf0 cf1 df0 df1
          have t3 := nx t2 b3
          obtain ⟨d0, d1, _⟩ := two_num t3 (second_block2 w _ _)
          go_wp2_with fail
          refine (HL2.out _).mono ?_
          rintro _ w4 ⟨rfl, b4⟩
          clear d0 d1
          go_wp2_with fail
          go_ret
          exact ⟨rfl, nx (below2 _ _ _) (nx t3 b4)⟩
end Go.Proofs.YtilmhemcpgiikaaDoor
