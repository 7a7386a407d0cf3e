/- DecNew: both build the same number. -/
import Derived.Test.YtcmdchhhdcdpnaaDoorCDec
import Derived.Test.YtcmdchhhdcdpnaaDoorCTwo
namespace Go.Proofs.YtcmdchhhdcdpnaaDoor
open Go.Deep Go.ChangeShapes Go.WideShapes Go.ChangeAt Go.RowKit
open Go.ChangeMaps (open_string shut_string)

theorem decNewF_long {n x : Int} (h : ¬ dgs n ≤ 17) : decNewF n x = (0, 0, false) := if_neg (fun h' => h h'.1)
theorem decNewF_far {n x : Int} (h : inB x (-40) 40 = false) : decNewF n x = (0, 0, false) := if_neg (fun h' => by have := inB_false.1 h; omega)
theorem decNewF_zero {x : Int} (h : inB x (-40) 40 = true) : decNewF 0 x = (0, 0, true) := by
  have := inB_true.1 h
  unfold decNewF; rw [if_pos ⟨dgs_17.2 ⟨by decide, by decide⟩, this.1, this.2⟩, if_pos rfl]
theorem decNewF_low {n x : Int} (hd : dgs n ≤ 17) (h : inB x (-40) 40 = true) (h0 : n ≠ 0) (hx : x ≤ 0) {N X : Int} (hs : stripD (-x).toNat n x = (N, X)) :
    decNewF n x = if decOkB N X = true then (N, X, true) else (0, 0, false) := by
  have := inB_true.1 h
  unfold decNewF; rw [if_pos ⟨hd, this.1, this.2⟩, if_neg h0, if_pos hx, hs]
theorem decNewF_up {n x : Int} (hd : dgs n ≤ 17) (h : inB x (-40) 40 = true) (h0 : n ≠ 0) (hx : ¬ x ≤ 0) :
    decNewF n x = if decOkB (n * 10 ^ x.toNat) 0 = true then (n * 10 ^ x.toNat, 0, true) else (0, 0, false) := by
  have := inB_true.1 h
  unfold decNewF; rw [if_pos ⟨hd, this.1, this.2⟩, if_neg h0, if_neg hx]
  by_cases hr : -1000000000000000 ≤ n * 10 ^ x.toNat ∧ n * 10 ^ x.toNat ≤ 1000000000000000
  · rw [if_pos hr, if_pos (decOkB_iff.2 (.inl ⟨rfl, hr.1, hr.2⟩))]
  · rw [if_neg hr, if_neg]
    intro hk
    rcases decOkB_iff.1 hk with ⟨_, a, b⟩ | ⟨_, a, _⟩
    · exact hr ⟨a, b⟩
    · omega
theorem tdiv_ten (N : Int) : (10 * N).tdiv 10 = N := by simp
/-- What grows once too far stays there. -/
theorem grow_far {n : Int} {j k : Nat} (h : 100000000000000 < (n * 10 ^ j).natAbs) (hjk : j < k) : 1000000000000000 < (n * 10 ^ k).natAbs := by
  obtain ⟨d, rfl⟩ : ∃ d, k = j + (d + 1) := ⟨k - j - 1, by omega⟩
  rw [Int.pow_add, ← Int.mul_assoc, Int.natAbs_mul (n * 10 ^ j)]
  have h10 : 10 ≤ ((10 : Int) ^ (d + 1)).natAbs := by
    rw [Int.natAbs_pow, Nat.pow_succ]
    have := Nat.one_le_pow d 10 (by decide)
    simpa using Nat.mul_le_mul_right 10 this
  generalize ((10 : Int) ^ (d + 1)).natAbs = P at *
  generalize (n * 10 ^ j).natAbs = M at *
  have := Nat.mul_le_mul (show 100000000000001 ≤ M by omega) h10
  omega
theorem decOkB_far {N : Int} (h : 1000000000000000 < N.natAbs) : decOkB N 0 = false := by
  cases hk : decOkB N 0 with
  | false => rfl
  | true =>
    rcases decOkB_iff.1 hk with ⟨_, a, b⟩ | ⟨_, a, _⟩ <;> omega

set_option maxHeartbeats 2000000 in
theorem decNew_spec_edge (n x : Int) (w : World) (h1 : -9223372036854775808 ≤ n) (h2 : n ≤ 9223372036854775807) (hc : ¬ dgs n ≤ 17 ∨ inB x (-40) 40 = false ∨ n = 0) :
    Calls Tryd.prog 29 #[.int .i64 n, .int .i64 x] w fun en w' => en = .returned (.tuple #[.agg #[.int .i64 (decNewF n x).1, .int .i64 (decNewF n x).2.1], .bool (decNewF n x).2.2]) ∧ Below w.heap.size w w' := by
  have HI := Lib.hid (fun w1 => digits_spec n w1 h1 h2)
  by_cases hd : dgs n ≤ 17
  · have hd1 : ((dgs n : Nat) : Int) ≤ 17 := by omega
    have hd2 : decide (17 < ((dgs n : Nat) : Int)) = false := decide_eq_false (by omega)
    cases hb : inB x (-40) 40 with
    | false =>
      rw [decNewF_far hb]
      clear hc hd
      generalize ((dgs n : Nat) : Int) = D at *
      go_enter Tryd.func29, Tryd.ntmps29
      go_wp2_with fail
      refine (HI.out _).mono ?_
      rintro _ _ ⟨rfl, rfl⟩
      go_wp2_with (go_at_call 22; refine (l1In_c _ _ _ _).mono ?_; rintro e w' ⟨rfl, rfl⟩)
      refine bodyPost_ret (v := .tuple #[.agg #[.int .i64 0, .int .i64 0], .bool false]) (by simp [results, Tryd.results29, go_sem]) rfl ⟨rfl, ?_⟩
      exact below1 _ _

    | true =>
      obtain rfl : n = 0 := by
        rcases hc with h | h | h
        · exact absurd hd h
        · rw [hb] at h; cases h
        · exact h
      rw [decNewF_zero hb]
      clear hc hd
      generalize ((dgs 0 : Nat) : Int) = D at *
      go_enter Tryd.func29, Tryd.ntmps29
      go_wp2_with fail
      refine (HI.out _).mono ?_
      rintro _ _ ⟨rfl, rfl⟩
      go_wp2_with (go_at_call 22; refine (l1In_c _ _ _ _).mono ?_; rintro e w' ⟨rfl, rfl⟩)
      refine bodyPost_ret (v := .tuple #[.agg #[.int .i64 0, .int .i64 0], .bool true]) (by simp [results, Tryd.results29, go_sem]) rfl ⟨rfl, ?_⟩
      exact below1 _ _

  · rw [decNewF_long hd]
    have hd1 : ¬ ((dgs n : Nat) : Int) ≤ 17 := by omega
    have hd2 : decide (17 < ((dgs n : Nat) : Int)) = true := decide_eq_true (by omega)
    clear hc hd
    generalize ((dgs n : Nat) : Int) = D at *
    go_enter Tryd.func29, Tryd.ntmps29
    go_wp2_with fail
    refine (HI.out _).mono ?_
    rintro _ _ ⟨rfl, rfl⟩
    go_wp2_with (go_at_call 22; refine (l1In_c _ _ _ _).mono ?_; rintro e w' ⟨rfl, rfl⟩)
    refine bodyPost_ret (v := .tuple #[.agg #[.int .i64 0, .int .i64 0], .bool false]) (by simp [results, Tryd.results29, go_sem]) rfl ⟨rfl, ?_⟩
    exact below1 _ _

set_option maxHeartbeats 2000000 in
theorem decNew_impl_edge (n x : Int) (w : World) (hL : LaidP w) (h1 : -9223372036854775808 ≤ n) (h2 : n ≤ 9223372036854775807) (hc : ¬ dgs n ≤ 17 ∨ inB x (-40) 40 = false ∨ n = 0) :
    Calls Tryd.prog 30 #[.int .i64 n, .int .i64 x] w fun en w' => en = .returned (.tuple #[.agg #[.int .i64 (decNewF n x).1, .int .i64 (decNewF n x).2.1], .bool (decNewF n x).2.2]) ∧ Below w.heap.size w w' := by
  have HI := Lib.hid (fun w1 (hb : Below w.heap.size w w1) => digits_impl n w1 (hL.kept hb) h1 h2)
  clear hL
  by_cases hd : dgs n ≤ 17
  · have hd1 : ((dgs n : Nat) : Int) ≤ 17 := by omega
    have hd2 : decide (17 < ((dgs n : Nat) : Int)) = false := decide_eq_false (by omega)
    cases hb : inB x (-40) 40 with
    | false =>
      rw [decNewF_far hb]
      clear hc hd
      generalize ((dgs n : Nat) : Int) = D at *
      go_enter Tryd.func30, Tryd.ntmps30
      go_wp2_with fail
      refine (HI.out _ ?_).mono ?_
      · exact below1 _ _
      rintro _ w1 ⟨rfl, b1⟩
      obtain ⟨r0, r1, rf⟩ := two_num b1 (one_block w _)
      have rf0 := rf 0; have rf1 := rf 1; clear rf
      have hsz := b1.size
      simp only [World.size_alloc] at hsz
      have BB := Lib.hid (nx (below1 _ _) b1); clear b1
      go_wp2_with (go_at_call 25; refine (within_c _ _ _ _).mono ?_; rintro e w' ⟨rfl, rfl⟩)
      refine bodyPost_ret (v := .tuple #[.agg #[.int .i64 0, .int .i64 0], .bool false]) (by simp [results, Tryd.results30, go_sem, r0, r1]) rfl ⟨rfl, ?_⟩
      iterate 2 refine Below.setCell ?_ (by dsimp only; omega) _
      exact BB.out

    | true =>
      obtain rfl : n = 0 := by
        rcases hc with h | h | h
        · exact absurd hd h
        · rw [hb] at h; cases h
        · exact h
      rw [decNewF_zero hb]
      clear hc hd
      generalize ((dgs 0 : Nat) : Int) = D at *
      go_enter Tryd.func30, Tryd.ntmps30
      go_wp2_with fail
      refine (HI.out _ ?_).mono ?_
      · exact below1 _ _
      rintro _ w1 ⟨rfl, b1⟩
      obtain ⟨r0, r1, rf⟩ := two_num b1 (one_block w _)
      have rf0 := rf 0; have rf1 := rf 1; clear rf
      have hsz := b1.size
      simp only [World.size_alloc] at hsz
      have BB := Lib.hid (nx (below1 _ _) b1); clear b1
      go_wp2_with (go_at_call 25; refine (within_c _ _ _ _).mono ?_; rintro e w' ⟨rfl, rfl⟩)
      refine bodyPost_ret (v := .tuple #[.agg #[.int .i64 0, .int .i64 0], .bool true]) (by simp [results, Tryd.results30, go_sem, r0, r1]) rfl ⟨rfl, ?_⟩
      iterate 2 refine Below.setCell ?_ (by dsimp only; omega) _
      exact BB.out

  · rw [decNewF_long hd]
    have hd1 : ¬ ((dgs n : Nat) : Int) ≤ 17 := by omega
    have hd2 : decide (17 < ((dgs n : Nat) : Int)) = true := decide_eq_true (by omega)
    clear hc hd
    generalize ((dgs n : Nat) : Int) = D at *
    go_enter Tryd.func30, Tryd.ntmps30
    go_wp2_with fail
    refine (HI.out _ ?_).mono ?_
    · exact below1 _ _
    rintro _ w1 ⟨rfl, b1⟩
    obtain ⟨r0, r1, rf⟩ := two_num b1 (one_block w _)
    have rf0 := rf 0; have rf1 := rf 1; clear rf
    have hsz := b1.size
    simp only [World.size_alloc] at hsz
    have BB := Lib.hid (nx (below1 _ _) b1); clear b1
    go_wp2_with (go_at_call 25; refine (within_c _ _ _ _).mono ?_; rintro e w' ⟨rfl, rfl⟩)
    refine bodyPost_ret (v := .tuple #[.agg #[.int .i64 0, .int .i64 0], .bool false]) (by simp [results, Tryd.results30, go_sem, r0, r1]) rfl ⟨rfl, ?_⟩
    iterate 2 refine Below.setCell ?_ (by dsimp only; omega) _
    exact BB.out

set_option maxHeartbeats 4000000 in
theorem decNew_spec_low (n x : Int) (w : World) (h1 : -9223372036854775808 ≤ n) (h2 : n ≤ 9223372036854775807) (hd : dgs n ≤ 17) (hb : inB x (-40) 40 = true) (h0 : n ≠ 0) (hx : x ≤ 0) :
    Calls Tryd.prog 29 #[.int .i64 n, .int .i64 x] w fun en w' => en = .returned (.tuple #[.agg #[.int .i64 (decNewF n x).1, .int .i64 (decNewF n x).2.1], .bool (decNewF n x).2.2]) ∧ Below w.heap.size w w' := by
  have HI := Lib.hid (fun w1 => digits_spec n w1 h1 h2)
  have HK := Lib.hid (fun (N X : Int) w1 (_ : Below w.heap.size w w1) (g1 : -9223372036854775808 ≤ N) (g2 : N ≤ 9223372036854775807) => decOk_spec N X w1 g1 g2)
  have hd1 : ((dgs n : Nat) : Int) ≤ 17 := by omega
  have hd2 : decide (17 < ((dgs n : Nat) : Int)) = false := decide_eq_false (by omega)
  obtain ⟨q1, q2⟩ := dgs_17.1 hd
  obtain ⟨q3, q4⟩ := inB_true.1 hb
  have hz : (n == 0) = false := by simpa using h0
  have HD := Lib.hid hd
  clear hd
  generalize hDD : ((dgs n : Nat) : Int) = D at *
  clear hDD
  go_enter Tryd.func29, Tryd.ntmps29
  go_wp2_with fail
  refine (HI.out _).mono ?_
  rintro _ _ ⟨rfl, rfl⟩
  go_wp2_with (go_at_call 22; refine (l1In_c _ _ _ _).mono ?_; rintro e w' ⟨rfl, rfl⟩)
  go_loop [0, 1] (fun a b => ∃ (N X : Int), a = .int .i64 N ∧ b = .int .i64 X ∧ N ≠ 0 ∧ -100000000000000000 < N ∧ N < 100000000000000000 ∧ -40 ≤ X ∧ X ≤ 0 ∧ stripD (-X).toNat N X = stripD (-x).toNat n x) (fun a _ => (intOf a).natAbs)
  case atStart => exact ⟨n, x, rfl, rfl, h0, q1, q2, q3, hx, rfl⟩
  case round =>
    obtain ⟨N, X, rfl, rfl, hN0, hN1, hN2, hX1, hX2, hst⟩ := hrel
    by_cases hc : X < 0 ∧ N % 10 = 0
    · obtain ⟨hX, hev⟩ := hc
      obtain ⟨M, rfl⟩ : ∃ M, N = 10 * M := ⟨N / 10, by omega⟩
      have hmod : ((10 * M).tmod 10 == 0) = true := by simp
      have hdx : decide (X < 0) = true := decide_eq_true hX
      have hdiv : (10 * M).tdiv 10 = M := tdiv_ten M
      have hw1 : IntKind.i64.wrap M = M := IntWalk.i64_in _ (by omega)
      have hw2 : IntKind.i64.wrap (X + 1) = X + 1 := IntWalk.i64_in _ (by omega)
      have hst' : stripD (-(X + 1)).toNat M (X + 1) = stripD (-x).toNat n x := by
        rw [← hst, show (-X).toNat = (-(X + 1)).toNat + 1 by omega, stripD_yes (by omega)]
        congr 1; omega
      have hN : M ≠ 0 ∧ -100000000000000000 < M ∧ M < 100000000000000000 ∧ -40 ≤ X + 1 ∧ X + 1 ≤ 0 := by omega
      have HS := Lib.hid hst'; have HN := Lib.hid hN
      clear hst hst' hN hev
      go_wp2_with fail
      go_round
      case rel =>
        obtain ⟨n1, n2, n3, n4, n5⟩ := HN.out
        exact ⟨M, X + 1, rfl, rfl, n1, n2, n3, n4, n5, HS.out⟩
      case measure => simp [intOf]; omega
    · have hres : (N, X) = stripD (-x).toNat n x := by
        rw [← hst]
        by_cases hX : X = 0
        · subst hX; rfl
        · rw [stripD_no (by omega)]
      have HF := Lib.hid (decNewF_low HD.out hb h0 hx hres.symm)
      have hgt : decide (0 < X) = false := decide_eq_false (by omega)
      clear hres hst
      by_cases hX : X < 0
      · have hdx : decide (X < 0) = true := decide_eq_true hX
        have hmod : (N.tmod 10 == 0) = false := by
          have : ¬ N.tmod 10 = 0 := fun h => hc ⟨hX, tmod_zero.1 h⟩
          simpa using this
        clear hc
        go_wp2_with fail
        go_loop [0, 1] (fun a b => a = .int .i64 N ∧ b = .int .i64 X) (fun _ _ => 0)
        case atStart => exact ⟨rfl, rfl⟩
        case round =>
          obtain ⟨rfl, rfl⟩ := hrel
          go_wp2_with fail
          refine (HK.out _ _ _ ?_ (by omega) (by omega)).mono ?_
          · exact below2 _ _ _
          rintro _ w2 ⟨rfl, b2⟩
          obtain ⟨r0, r1, rf⟩ := two_num b2 (first_block w _ _)
          obtain ⟨g0, g1, _⟩ := two_num b2 (second_block2 w _ _)
          have rf0 := rf 0; have rf1 := rf 1; clear rf
          have hsz := b2.size
          simp only [World.size_alloc] at hsz
          have B2 := Lib.hid (nx (below2 _ _ _) b2); clear b2
          cases hk : decOkB N X with
          | true =>
            go_wp2_with fail
            refine bodyPost_ret (v := .tuple #[.agg #[.int .i64 N, .int .i64 X], .bool true]) (by simp [results, Tryd.results29, go_sem, r0, r1]) rfl ⟨by rw [HF.out, if_pos hk], ?_⟩
            iterate 2 refine Below.setCell ?_ (by dsimp only; omega) _
            exact B2.out
          | false =>
            go_wp2_with fail
            refine bodyPost_ret (v := .tuple #[.agg #[.int .i64 0, .int .i64 0], .bool false]) (by simp [results, Tryd.results29, go_sem, r0, r1]) rfl ⟨by rw [HF.out, if_neg (by rw [hk]; simp)], ?_⟩
            iterate 2 refine Below.setCell ?_ (by dsimp only; omega) _
            exact B2.out
      · obtain rfl : X = 0 := by omega
        clear hc
        cases hmod : (N.tmod 10 == 0)
        all_goals
          go_wp2_with fail
          go_loop [0, 1] (fun a b => a = .int .i64 N ∧ b = .int .i64 0) (fun _ _ => 0)
          case atStart => exact ⟨rfl, rfl⟩
          case round =>
            obtain ⟨rfl, rfl⟩ := hrel
            go_wp2_with fail
            refine (HK.out _ _ _ ?_ (by omega) (by omega)).mono ?_
            · exact below2 _ _ _
            rintro _ w2 ⟨rfl, b2⟩
            obtain ⟨r0, r1, rf⟩ := two_num b2 (first_block w _ _)
            obtain ⟨g0, g1, _⟩ := two_num b2 (second_block2 w _ _)
            have rf0 := rf 0; have rf1 := rf 1; clear rf
            have hsz := b2.size
            simp only [World.size_alloc] at hsz
            have B2 := Lib.hid (nx (below2 _ _ _) b2); clear b2
            cases hk : decOkB N 0 with
            | true =>
              go_wp2_with fail
              refine bodyPost_ret (v := .tuple #[.agg #[.int .i64 N, .int .i64 0], .bool true]) (by simp [results, Tryd.results29, go_sem, r0, r1]) rfl ⟨by rw [HF.out, if_pos hk], ?_⟩
              iterate 2 refine Below.setCell ?_ (by dsimp only; omega) _
              exact B2.out
            | false =>
              go_wp2_with fail
              refine bodyPost_ret (v := .tuple #[.agg #[.int .i64 0, .int .i64 0], .bool false]) (by simp [results, Tryd.results29, go_sem, r0, r1]) rfl ⟨by rw [HF.out, if_neg (by rw [hk]; simp)], ?_⟩
              iterate 2 refine Below.setCell ?_ (by dsimp only; omega) _
              exact B2.out
set_option maxHeartbeats 4000000 in
theorem decNew_spec_up (n : Int) (K : Nat) (w : World) (h1 : -9223372036854775808 ≤ n) (h2 : n ≤ 9223372036854775807) (hd : dgs n ≤ 17) (hb : inB (K : Int) (-40) 40 = true) (h0 : n ≠ 0) (hx : ¬ (K : Int) ≤ 0) :
    Calls Tryd.prog 29 #[.int .i64 n, .int .i64 (K : Int)] w fun en w' => en = .returned (.tuple #[.agg #[.int .i64 (decNewF n (K : Int)).1, .int .i64 (decNewF n (K : Int)).2.1], .bool (decNewF n (K : Int)).2.2]) ∧ Below w.heap.size w w' := by
  have HI := Lib.hid (fun w1 => digits_spec n w1 h1 h2)
  have HK := Lib.hid (fun (N X : Int) w1 (_ : Below w.heap.size w w1) (g1 : -9223372036854775808 ≤ N) (g2 : N ≤ 9223372036854775807) => decOk_spec N X w1 g1 g2)
  have HG := Lib.hid (fun (N : Int) w1 (g1 : -9223372036854775808 ≤ N) (g2 : N ≤ 9223372036854775807) => digits_spec N w1 g1 g2)
  have hd1 : ((dgs n : Nat) : Int) ≤ 17 := by omega
  have hd2 : decide (17 < ((dgs n : Nat) : Int)) = false := decide_eq_false (by omega)
  obtain ⟨q1, q2⟩ := dgs_17.1 hd
  have hneg : decide ((K : Int) < 0) = false := decide_eq_false (by omega)
  obtain ⟨q3, q4⟩ := inB_true.1 hb
  have hz : (n == 0) = false := by simpa using h0
  have HD := Lib.hid hd
  clear hd
  generalize hDD : ((dgs n : Nat) : Int) = D at *
  clear hDD
  obtain ⟨mm, hmm⟩ : ∃ mm, (n.tmod 10 == 0) = mm := ⟨_, rfl⟩
  go_enter Tryd.func29, Tryd.ntmps29
  go_wp2_with fail
  refine (HI.out _).mono ?_
  rintro _ _ ⟨rfl, rfl⟩
  go_wp2_with (go_at_call 22; refine (l1In_c _ _ _ _).mono ?_; rintro e w' ⟨rfl, rfl⟩)
  go_loop [0, 1] (fun a b => a = .int .i64 n ∧ b = .int .i64 (K : Int)) (fun _ _ => 0)
  case atStart => exact ⟨rfl, rfl⟩
  case round =>
    obtain ⟨rfl, rfl⟩ := hrel
    cases mm
    all_goals
      go_wp2_with fail
      go_loop [0, 1] (fun a b => ∃ (j : Nat) (N : Int), j ≤ K ∧ a = .int .i64 N ∧ b = .int .i64 ((K : Int) - j) ∧ N = n * 10 ^ j ∧ -100000000000000000 < N ∧ N < 100000000000000000) (fun _ b => (intOf b).toNat)
      case atStart => exact ⟨0, n, by omega, rfl, by simp, by simp, q1, q2⟩
      case round =>
        clear hmm
        obtain ⟨j, N, hj, rfl, rfl, hNe, hN1, hN2⟩ := hrel
        by_cases hjK : j < K
        · have hgt : decide (0 < (K : Int) - j) = true := decide_eq_true (by omega)
          by_cases hbig : dgs N ≤ 16
          · have hg1 : ((dgs N : Nat) : Int) ≤ 16 := by omega
            have hg2 : decide (16 < ((dgs N : Nat) : Int)) = false := decide_eq_false (by omega)
            obtain ⟨m1, m2⟩ := dgs_16.1 hbig
            have hw1 : IntKind.i64.wrap (N * 10) = N * 10 := IntWalk.i64_in _ (by omega)
            have hw2 : IntKind.i64.wrap ((K : Int) - j - 1) = (K : Int) - j - 1 := IntWalk.i64_in _ (by omega)
            have HN := Lib.hid hNe
            clear hNe hbig
            generalize hEE : ((dgs N : Nat) : Int) = E at *
            go_wp2_with fail
            refine (HG.out _ _ (by omega) (by omega)).mono ?_
            rintro _ _ ⟨rfl, rfl⟩
            rw [hEE]
            clear hEE
            go_wp2_with fail
            go_round
            case rel => exact ⟨j + 1, N * 10, by omega, rfl, by go_num, by rw [Int.pow_succ, ← Int.mul_assoc, ← HN.out], by omega, by omega⟩
            case measure => simp [intOf]; omega
          · have hg1 : ¬ ((dgs N : Nat) : Int) ≤ 16 := by omega
            have hg2 : decide (16 < ((dgs N : Nat) : Int)) = true := decide_eq_true (by omega)
            have hfar : decOkB (n * 10 ^ K) 0 = false := by
              have hbg : ¬ (-10000000000000000 < N ∧ N < 10000000000000000) := fun h => hbig (dgs_16.2 h)
              exact decOkB_far (grow_far (j := j) (k := K) (by rw [← hNe]; omega) hjK)
            have HFAR := Lib.hid (show decNewF n (K : Int) = (0, 0, false) by rw [decNewF_up HD.out hb h0 (by omega), Int.toNat_natCast, if_neg (by rw [hfar]; simp)])
            clear hNe hbig hfar
            generalize hEE : ((dgs N : Nat) : Int) = E at *
            go_wp2_with fail
            refine (HG.out _ _ (by omega) (by omega)).mono ?_
            rintro _ _ ⟨rfl, rfl⟩
            rw [hEE]
            clear hEE
            go_wp2_with fail
            exact bodyPost_ret (v := .tuple #[.agg #[.int .i64 0, .int .i64 0], .bool false]) (by simp [results, Tryd.results29, go_sem]) rfl ⟨by rw [HFAR.out], below1 _ _⟩
        · obtain rfl : j = K := by omega
          have hsub : (j : Int) - j = 0 := by omega
          have HF := Lib.hid (show decNewF n (j : Int) = if decOkB N 0 = true then (N, 0, true) else (0, 0, false) by rw [decNewF_up HD.out hb h0 (by omega), Int.toNat_natCast, ← hNe])
          clear hNe
          rw [hsub]
          go_wp2_with fail
          refine (HK.out _ _ _ ?_ (by omega) (by omega)).mono ?_
          · exact below2 _ _ _
          rintro _ w2 ⟨rfl, b2⟩
          obtain ⟨r0, r1, rf⟩ := two_num b2 (first_block w _ _)
          obtain ⟨g0, g1, _⟩ := two_num b2 (second_block2 w _ _)
          have rf0 := rf 0; have rf1 := rf 1; clear rf
          have hsz := b2.size
          simp only [World.size_alloc] at hsz
          have B2 := Lib.hid (nx (below2 _ _ _) b2); clear b2
          cases hk : decOkB N 0 with
          | true =>
            go_wp2_with fail
            refine bodyPost_ret (v := .tuple #[.agg #[.int .i64 N, .int .i64 0], .bool true]) (by simp [results, Tryd.results29, go_sem, r0, r1]) rfl ⟨by rw [HF.out, if_pos hk], ?_⟩
            iterate 2 refine Below.setCell ?_ (by dsimp only; omega) _
            exact B2.out
          | false =>
            go_wp2_with fail
            refine bodyPost_ret (v := .tuple #[.agg #[.int .i64 0, .int .i64 0], .bool false]) (by simp [results, Tryd.results29, go_sem, r0, r1]) rfl ⟨by rw [HF.out, if_neg (by rw [hk]; simp)], ?_⟩
            iterate 2 refine Below.setCell ?_ (by dsimp only; omega) _
            exact B2.out
theorem decNew_spec (n x : Int) (w : World) (h1 : -9223372036854775808 ≤ n) (h2 : n ≤ 9223372036854775807) :
    Calls Tryd.prog 29 #[.int .i64 n, .int .i64 x] w fun en w' => en = .returned (.tuple #[.agg #[.int .i64 (decNewF n x).1, .int .i64 (decNewF n x).2.1], .bool (decNewF n x).2.2]) ∧ Below w.heap.size w w' := by
  by_cases hd : dgs n ≤ 17
  · cases hb : inB x (-40) 40 with
    | false => exact decNew_spec_edge n x w h1 h2 (.inr (.inl hb))
    | true =>
      by_cases h0 : n = 0
      · exact decNew_spec_edge n x w h1 h2 (.inr (.inr h0))
      · by_cases hx : x ≤ 0
        · exact decNew_spec_low n x w h1 h2 hd hb h0 hx
        · obtain ⟨K, rfl⟩ : ∃ K : Nat, x = (K : Int) := ⟨x.toNat, by omega⟩
          exact decNew_spec_up n K w h1 h2 hd hb h0 hx
  · exact decNew_spec_edge n x w h1 h2 (.inl hd)

set_option maxHeartbeats 4000000 in
theorem decNew_impl_low (n x : Int) (w : World) (hL : LaidP w) (h1 : -9223372036854775808 ≤ n) (h2 : n ≤ 9223372036854775807) (hd : dgs n ≤ 17) (hb : inB x (-40) 40 = true) (h0 : n ≠ 0) (hx : x ≤ 0) :
    Calls Tryd.prog 30 #[.int .i64 n, .int .i64 x] w fun en w' => en = .returned (.tuple #[.agg #[.int .i64 (decNewF n x).1, .int .i64 (decNewF n x).2.1], .bool (decNewF n x).2.2]) ∧ Below w.heap.size w w' := by
  have HI := Lib.hid (fun w1 (hb : Below w.heap.size w w1) => digits_impl n w1 (hL.kept hb) h1 h2)
  have HK := Lib.hid (fun (N X : Int) w1 (hb : Below w.heap.size w w1) (g1 : -9223372036854775808 ≤ N) (g2 : N ≤ 9223372036854775807) => decOk_impl N X w1 (hL.kept hb) g1 g2)
  clear hL
  have hd1 : ((dgs n : Nat) : Int) ≤ 17 := by omega
  have hd2 : decide (17 < ((dgs n : Nat) : Int)) = false := decide_eq_false (by omega)
  obtain ⟨q1, q2⟩ := dgs_17.1 hd
  obtain ⟨q3, q4⟩ := inB_true.1 hb
  have hz : (n == 0) = false := by simpa using h0
  have HD := Lib.hid hd
  clear hd
  generalize hDD : ((dgs n : Nat) : Int) = D at *
  clear hDD
  go_enter Tryd.func30, Tryd.ntmps30
  go_wp2_with fail
  refine (HI.out _ ?_).mono ?_
  · exact below1 _ _
  rintro _ w1 ⟨rfl, b1⟩
  obtain ⟨r0, r1, rf⟩ := two_num b1 (one_block w _)
  have rf0 := rf 0; have rf1 := rf 1; clear rf
  have hsz := b1.size
  simp only [World.size_alloc] at hsz
  have BB := Lib.hid b1; clear b1
  go_wp2_with (go_at_call 25; refine (within_c _ _ _ _).mono ?_; rintro e w' ⟨rfl, rfl⟩)
  go_loop [0, 1] (fun a b => ∃ (N X : Int), a = .int .i64 N ∧ b = .int .i64 X ∧ N ≠ 0 ∧ -100000000000000000 < N ∧ N < 100000000000000000 ∧ -40 ≤ X ∧ X ≤ 0 ∧ stripD (-X).toNat N X = stripD (-x).toNat n x) (fun a _ => (intOf a).natAbs)
  case atStart => exact ⟨n, x, rfl, rfl, h0, q1, q2, q3, hx, rfl⟩
  case round =>
    obtain ⟨N, X, rfl, rfl, hN0, hN1, hN2, hX1, hX2, hst⟩ := hrel
    by_cases hc : X < 0 ∧ N % 10 = 0
    · obtain ⟨hX, hev⟩ := hc
      obtain ⟨M, rfl⟩ : ∃ M, N = 10 * M := ⟨N / 10, by omega⟩
      have hmod : ((10 * M).tmod 10 == 0) = true := by simp
      have hdx : decide (X < 0) = true := decide_eq_true hX
      have hdiv : (10 * M).tdiv 10 = M := tdiv_ten M
      have hw1 : IntKind.i64.wrap M = M := IntWalk.i64_in _ (by omega)
      have hw2 : IntKind.i64.wrap (X + 1) = X + 1 := IntWalk.i64_in _ (by omega)
      have hst' : stripD (-(X + 1)).toNat M (X + 1) = stripD (-x).toNat n x := by
        rw [← hst, show (-X).toNat = (-(X + 1)).toNat + 1 by omega, stripD_yes (by omega)]
        congr 1; omega
      have hN : M ≠ 0 ∧ -100000000000000000 < M ∧ M < 100000000000000000 ∧ -40 ≤ X + 1 ∧ X + 1 ≤ 0 := by omega
      have HS := Lib.hid hst'; have HN := Lib.hid hN
      clear hst hst' hN hev
      go_wp2_with fail
      go_round
      case rel =>
        obtain ⟨n1, n2, n3, n4, n5⟩ := HN.out
        exact ⟨M, X + 1, rfl, rfl, n1, n2, n3, n4, n5, HS.out⟩
      case measure => simp [intOf]; omega
    · have hres : (N, X) = stripD (-x).toNat n x := by
        rw [← hst]
        by_cases hX : X = 0
        · subst hX; rfl
        · rw [stripD_no (by omega)]
      have HF := Lib.hid (decNewF_low HD.out hb h0 hx hres.symm)
      have hgt : decide (0 < X) = false := decide_eq_false (by omega)
      clear hres hst
      by_cases hX : X < 0
      · have hdx : decide (X < 0) = true := decide_eq_true hX
        have hmod : (N.tmod 10 == 0) = false := by
          have : ¬ N.tmod 10 = 0 := fun h => hc ⟨hX, tmod_zero.1 h⟩
          simpa using this
        clear hc
        go_wp2_with fail
        go_loop [0, 1] (fun a b => a = .int .i64 N ∧ b = .int .i64 X) (fun _ _ => 0)
        case atStart => exact ⟨rfl, rfl⟩
        case round =>
          obtain ⟨rfl, rfl⟩ := hrel
          go_wp2_with fail
          refine (HK.out _ _ _ ?_ (by omega) (by omega)).mono ?_
          · exact nx (below1 _ _) (nx BB.out (below1 _ _))
          rintro _ w2 ⟨rfl, b2⟩
          clear r0 r1 rf0 rf1
          obtain ⟨r0, r1, rf⟩ := two_num (nx (nx BB.out (below1 _ _)) b2) (one_block w _)
          obtain ⟨g0, g1, _⟩ := two_num b2 (one_block w1 _)
          have rf0 := rf 0; have rf1 := rf 1; clear rf
          have hsz2 := b2.size
          simp only [World.size_alloc] at hsz2
          have B2 := Lib.hid (nx (below1 _ _) (nx (nx BB.out (below1 _ _)) b2)); clear b2
          cases hk : decOkB N X with
          | true =>
            go_wp2_with fail
            refine bodyPost_ret (v := .tuple #[.agg #[.int .i64 N, .int .i64 X], .bool true]) (by simp [results, Tryd.results30, go_sem, r0, r1]) rfl ⟨by rw [HF.out, if_pos hk], ?_⟩
            iterate 2 refine Below.setCell ?_ (by dsimp only; omega) _
            exact B2.out
          | false =>
            go_wp2_with fail
            refine bodyPost_ret (v := .tuple #[.agg #[.int .i64 0, .int .i64 0], .bool false]) (by simp [results, Tryd.results30, go_sem, r0, r1]) rfl ⟨by rw [HF.out, if_neg (by rw [hk]; simp)], ?_⟩
            iterate 2 refine Below.setCell ?_ (by dsimp only; omega) _
            exact B2.out
      · obtain rfl : X = 0 := by omega
        clear hc
        cases hmod : (N.tmod 10 == 0)
        all_goals
          go_wp2_with fail
          go_loop [0, 1] (fun a b => a = .int .i64 N ∧ b = .int .i64 0) (fun _ _ => 0)
          case atStart => exact ⟨rfl, rfl⟩
          case round =>
            obtain ⟨rfl, rfl⟩ := hrel
            go_wp2_with fail
            refine (HK.out _ _ _ ?_ (by omega) (by omega)).mono ?_
            · exact nx (below1 _ _) (nx BB.out (below1 _ _))
            rintro _ w2 ⟨rfl, b2⟩
            clear r0 r1 rf0 rf1
            obtain ⟨r0, r1, rf⟩ := two_num (nx (nx BB.out (below1 _ _)) b2) (one_block w _)
            obtain ⟨g0, g1, _⟩ := two_num b2 (one_block w1 _)
            have rf0 := rf 0; have rf1 := rf 1; clear rf
            have hsz2 := b2.size
            simp only [World.size_alloc] at hsz2
            have B2 := Lib.hid (nx (below1 _ _) (nx (nx BB.out (below1 _ _)) b2)); clear b2
            cases hk : decOkB N 0 with
            | true =>
              go_wp2_with fail
              refine bodyPost_ret (v := .tuple #[.agg #[.int .i64 N, .int .i64 0], .bool true]) (by simp [results, Tryd.results30, go_sem, r0, r1]) rfl ⟨by rw [HF.out, if_pos hk], ?_⟩
              iterate 2 refine Below.setCell ?_ (by dsimp only; omega) _
              exact B2.out
            | false =>
              go_wp2_with fail
              refine bodyPost_ret (v := .tuple #[.agg #[.int .i64 0, .int .i64 0], .bool false]) (by simp [results, Tryd.results30, go_sem, r0, r1]) rfl ⟨by rw [HF.out, if_neg (by rw [hk]; simp)], ?_⟩
              iterate 2 refine Below.setCell ?_ (by dsimp only; omega) _
              exact B2.out
set_option maxHeartbeats 4000000 in
theorem decNew_impl_up (n : Int) (K : Nat) (w : World) (hL : LaidP w) (h1 : -9223372036854775808 ≤ n) (h2 : n ≤ 9223372036854775807) (hd : dgs n ≤ 17) (hb : inB (K : Int) (-40) 40 = true) (h0 : n ≠ 0) (hx : ¬ (K : Int) ≤ 0) :
    Calls Tryd.prog 30 #[.int .i64 n, .int .i64 (K : Int)] w fun en w' => en = .returned (.tuple #[.agg #[.int .i64 (decNewF n (K : Int)).1, .int .i64 (decNewF n (K : Int)).2.1], .bool (decNewF n (K : Int)).2.2]) ∧ Below w.heap.size w w' := by
  have HI := Lib.hid (fun w1 (hb : Below w.heap.size w w1) => digits_impl n w1 (hL.kept hb) h1 h2)
  have HK := Lib.hid (fun (N X : Int) w1 (hb : Below w.heap.size w w1) (g1 : -9223372036854775808 ≤ N) (g2 : N ≤ 9223372036854775807) => decOk_impl N X w1 (hL.kept hb) g1 g2)
  clear hL
  have hd1 : ((dgs n : Nat) : Int) ≤ 17 := by omega
  have hd2 : decide (17 < ((dgs n : Nat) : Int)) = false := decide_eq_false (by omega)
  obtain ⟨q1, q2⟩ := dgs_17.1 hd
  have hneg : decide ((K : Int) < 0) = false := decide_eq_false (by omega)
  obtain ⟨q3, q4⟩ := inB_true.1 hb
  have hz : (n == 0) = false := by simpa using h0
  have HD := Lib.hid hd
  clear hd
  generalize hDD : ((dgs n : Nat) : Int) = D at *
  clear hDD
  obtain ⟨mm, hmm⟩ : ∃ mm, (n.tmod 10 == 0) = mm := ⟨_, rfl⟩
  go_enter Tryd.func30, Tryd.ntmps30
  go_wp2_with fail
  refine (HI.out _ ?_).mono ?_
  · exact below1 _ _
  rintro _ w1 ⟨rfl, b1⟩
  obtain ⟨r0, r1, rf⟩ := two_num b1 (one_block w _)
  have rf0 := rf 0; have rf1 := rf 1; clear rf
  have hsz := b1.size
  simp only [World.size_alloc] at hsz
  have BB := Lib.hid b1; clear b1
  go_wp2_with (go_at_call 25; refine (within_c _ _ _ _).mono ?_; rintro e w' ⟨rfl, rfl⟩)
  go_loop [0, 1] (fun a b => a = .int .i64 n ∧ b = .int .i64 (K : Int)) (fun _ _ => 0)
  case atStart => exact ⟨rfl, rfl⟩
  case round =>
    obtain ⟨rfl, rfl⟩ := hrel
    cases mm
    all_goals
      go_wp2_with fail
      go_loop [0, 1] (fun a b => ∃ (j : Nat) (N : Int), j ≤ K ∧ a = .int .i64 N ∧ b = .int .i64 ((K : Int) - j) ∧ N = n * 10 ^ j ∧ -100000000000000000 < N ∧ N < 100000000000000000) (fun _ b => (intOf b).toNat)
      case atStart => exact ⟨0, n, by omega, rfl, by simp, by simp, q1, q2⟩
      case round =>
        clear hmm
        obtain ⟨j, N, hj, rfl, rfl, hNe, hN1, hN2⟩ := hrel
        by_cases hjK : j < K
        · have hgt : decide (0 < (K : Int) - j) = true := decide_eq_true (by omega)
          cases hbig : inB N (-100000000000000) 100000000000000 with
          | true =>
            obtain ⟨m1, m2⟩ := inB_true.1 hbig
            have hw1 : IntKind.i64.wrap (N * 10) = N * 10 := IntWalk.i64_in _ (by omega)
            have hw2 : IntKind.i64.wrap ((K : Int) - j - 1) = (K : Int) - j - 1 := IntWalk.i64_in _ (by omega)
            have HN := Lib.hid hNe
            clear hNe
            go_wp2_with (go_at_call 25; refine (within_c _ _ _ _).mono ?_; rintro e w' ⟨rfl, rfl⟩)
            go_round
            case rel => exact ⟨j + 1, N * 10, by omega, rfl, by go_num, by rw [Int.pow_succ, ← Int.mul_assoc, ← HN.out], by omega, by omega⟩
            case measure => simp [intOf]; omega
          | false =>
            have hfar : decOkB (n * 10 ^ K) 0 = false := by
              have hbg := inB_false.1 hbig
              exact decOkB_far (grow_far (j := j) (k := K) (by rw [← hNe]; omega) hjK)
            have HFAR := Lib.hid (show decNewF n (K : Int) = (0, 0, false) by rw [decNewF_up HD.out hb h0 (by omega), Int.toNat_natCast, if_neg (by rw [hfar]; simp)])
            clear hNe hfar
            go_wp2_with (go_at_call 25; refine (within_c _ _ _ _).mono ?_; rintro e w' ⟨rfl, rfl⟩)
            refine bodyPost_ret (v := .tuple #[.agg #[.int .i64 0, .int .i64 0], .bool false]) (by simp [results, Tryd.results30, go_sem, r0, r1]) rfl ⟨by rw [HFAR.out], ?_⟩
            iterate 2 refine Below.setCell ?_ (by dsimp only; omega) _
            exact nx (below1 _ _) BB.out
        · obtain rfl : j = K := by omega
          have hsub : (j : Int) - j = 0 := by omega
          have HF := Lib.hid (show decNewF n (j : Int) = if decOkB N 0 = true then (N, 0, true) else (0, 0, false) by rw [decNewF_up HD.out hb h0 (by omega), Int.toNat_natCast, ← hNe])
          clear hNe
          rw [hsub]
          go_wp2_with fail
          refine (HK.out _ _ _ ?_ (by omega) (by omega)).mono ?_
          · exact nx (below1 _ _) (nx BB.out (below1 _ _))
          rintro _ w2 ⟨rfl, b2⟩
          clear r0 r1 rf0 rf1
          obtain ⟨r0, r1, rf⟩ := two_num (nx (nx BB.out (below1 _ _)) b2) (one_block w _)
          obtain ⟨g0, g1, _⟩ := two_num b2 (one_block w1 _)
          have rf0 := rf 0; have rf1 := rf 1; clear rf
          have hsz2 := b2.size
          simp only [World.size_alloc] at hsz2
          have B2 := Lib.hid (nx (below1 _ _) (nx (nx BB.out (below1 _ _)) b2)); clear b2
          cases hk : decOkB N 0 with
          | true =>
            go_wp2_with fail
            refine bodyPost_ret (v := .tuple #[.agg #[.int .i64 N, .int .i64 0], .bool true]) (by simp [results, Tryd.results30, go_sem, r0, r1]) rfl ⟨by rw [HF.out, if_pos hk], ?_⟩
            iterate 2 refine Below.setCell ?_ (by dsimp only; omega) _
            exact B2.out
          | false =>
            go_wp2_with fail
            refine bodyPost_ret (v := .tuple #[.agg #[.int .i64 0, .int .i64 0], .bool false]) (by simp [results, Tryd.results30, go_sem, r0, r1]) rfl ⟨by rw [HF.out, if_neg (by rw [hk]; simp)], ?_⟩
            iterate 2 refine Below.setCell ?_ (by dsimp only; omega) _
            exact B2.out
theorem decNew_impl (n x : Int) (w : World) (hL : LaidP w) (h1 : -9223372036854775808 ≤ n) (h2 : n ≤ 9223372036854775807) :
    Calls Tryd.prog 30 #[.int .i64 n, .int .i64 x] w fun en w' => en = .returned (.tuple #[.agg #[.int .i64 (decNewF n x).1, .int .i64 (decNewF n x).2.1], .bool (decNewF n x).2.2]) ∧ Below w.heap.size w w' := by
  by_cases hd : dgs n ≤ 17
  · cases hb : inB x (-40) 40 with
    | false => exact decNew_impl_edge n x w hL h1 h2 (.inr (.inl hb))
    | true =>
      by_cases h0 : n = 0
      · exact decNew_impl_edge n x w hL h1 h2 (.inr (.inr h0))
      · by_cases hx : x ≤ 0
        · exact decNew_impl_low n x w hL h1 h2 hd hb h0 hx
        · obtain ⟨K, rfl⟩ : ∃ K : Nat, x = (K : Int) := ⟨x.toNat, by omega⟩
          exact decNew_impl_up n K w hL h1 h2 hd hb h0 hx
  · exact decNew_impl_edge n x w hL h1 h2 (.inl hd)

end Go.Proofs.YtcmdchhhdcdpnaaDoor
