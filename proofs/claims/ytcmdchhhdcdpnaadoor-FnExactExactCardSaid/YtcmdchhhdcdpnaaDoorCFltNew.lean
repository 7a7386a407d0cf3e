/- FltNew: both strip the twos. -/
import Derived.Test.YtcmdchhhdcdpnaaDoorCFltOk
import Derived.Test.YtcmdchhhdcdpnaaDoorCTwo
namespace Go.Proofs.YtcmdchhhdcdpnaaDoor
open Go.Deep Go.ChangeShapes Go.WideShapes Go.ChangeAt Go.RowKit
open Go.ChangeMaps (open_string shut_string)

/-- The twos go out of m into e. -/
def stripF : Nat → Int → Int → Int × Int
  | 0, m, e => (m, e)
  | f + 1, m, e => if m % 2 = 0 then stripF f (m / 2) (e + 1) else (m, e)
theorem stripF_odd {m : Int} (h : ¬ m % 2 = 0) (e : Int) : ∀ f, stripF f m e = (m, e)
  | 0 => rfl
  | _ + 1 => if_neg h
theorem stripF_even {m : Int} (h : m % 2 = 0) (e : Int) (f : Nat) : stripF (f + 1) m e = stripF f (m / 2) (e + 1) := if_pos h
theorem wrap_mid64 {n : Int} (h : -9223372036854775808 ≤ n) (h2 : n ≤ 9223372036854775807) : IntKind.i64.wrap n = n := by
  unfold IntKind.wrap; simp [IntKind.bits, IntKind.signed]; omega
theorem pow60 : (2 : Nat) ^ 60 = 1152921504606846976 := by decide
def newF (m e : Int) : Int × Int × Bool :=
  if inB m (-1000000000000000) 1000000000000000 = true ∧ inB e (-100) 100 = true then
    if m = 0 then (0, 0, true) else
      if fltOkF (stripF 60 m e).1 (stripF 60 m e).2 = true then ((stripF 60 m e).1, (stripF 60 m e).2, true) else (0, 0, false)
  else (0, 0, false)


set_option maxHeartbeats 2000000 in
theorem newF_impl (m e : Int) (w : World) : Calls Tryd.prog 19 #[.int .i64 m, .int .i64 e] w fun en w' => en = .returned (.tuple #[.agg #[.int .i64 (newF m e).1, .int .i64 (newF m e).2.1], .bool (newF m e).2.2]) ∧ Below w.heap.size w w' := by
  cases hm : inB m (-1000000000000000) 1000000000000000 with
  | false =>
    have hn : newF m e = (0, 0, false) := if_neg (by rw [hm]; simp)
    rw [hn]; clear hn
    go_enter Tryd.func19, Tryd.ntmps19
    go_wp2_with (go_at_call 25; refine (within_c _ _ _ _).mono ?_; rintro e w' ⟨rfl, rfl⟩)
    exact bodyPost_ret (v := .tuple #[.agg #[.int .i64 0, .int .i64 0], .bool false]) (by simp [results, Tryd.results19, go_sem]) rfl ⟨rfl, below1 _ _⟩
  | true =>
  cases he : inB e (-100) 100 with
  | false =>
    have hn : newF m e = (0, 0, false) := if_neg (by rw [he]; simp)
    rw [hn]; clear hn
    go_enter Tryd.func19, Tryd.ntmps19
    go_wp2_with (go_at_call 25; refine (within_c _ _ _ _).mono ?_; rintro e w' ⟨rfl, rfl⟩)
    exact bodyPost_ret (v := .tuple #[.agg #[.int .i64 0, .int .i64 0], .bool false]) (by simp [results, Tryd.results19, go_sem]) rfl ⟨rfl, below1 _ _⟩
  | true =>
  by_cases h0 : m = 0
  · subst h0
    have hn : newF 0 e = (0, 0, true) := by unfold newF; rw [if_pos ⟨hm, he⟩, if_pos rfl]
    rw [hn]; clear hn
    go_enter Tryd.func19, Tryd.ntmps19
    go_wp2_with (go_at_call 25; refine (within_c _ _ _ _).mono ?_; rintro e w' ⟨rfl, rfl⟩)
    exact bodyPost_ret (v := .tuple #[.agg #[.int .i64 0, .int .i64 0], .bool true]) (by simp [results, Tryd.results19, go_sem]) rfl ⟨rfl, below1 _ _⟩
  · have hz : (m == 0) = false := by simpa using h0
    obtain ⟨q1, q2⟩ := inB_true.1 hm
    obtain ⟨q3, q4⟩ := inB_true.1 he
    go_enter Tryd.func19, Tryd.ntmps19
    go_wp2_with (go_at_call 25; refine (within_c _ _ _ _).mono ?_; rintro e w' ⟨rfl, rfl⟩)
    go_loop [0, 1] (fun a b => ∃ (f : Nat) (M E : Int), f ≤ 60 ∧ a = .int .i64 M ∧ b = .int .i64 E ∧ M ≠ 0 ∧ M.natAbs < 2 ^ f ∧ -1000000000000000 ≤ M ∧ M ≤ 1000000000000000 ∧ -100 ≤ E ∧ E ≤ 160 - f ∧ stripF f M E = stripF 60 m e) (fun a _ => (intOf a).natAbs)
    case atStart => exact ⟨60, m, e, by omega, rfl, rfl, h0, by have h60 := pow60; omega, by omega, by omega, by omega, by omega, rfl⟩
    case round =>
      obtain ⟨f, M, E, hf, rfl, rfl, hM0, hMf, hM1, hM2, hE1, hE2, hst⟩ := hrel
      by_cases hev : M % 2 = 0
      · obtain ⟨N, rfl⟩ : ∃ N, M = 2 * N := ⟨M / 2, by omega⟩
        cases f with
        | zero => exfalso; simp at hMf; omega
        | succ f =>
          have hmod : ((2 * N).tmod 2 == 0) = true := by simp
          have hdiv : (2 * N).tdiv 2 = N := by simp
          have hw1 : IntKind.i64.wrap N = N := wrap_mid64 (by omega) (by omega)
          have hw2 : IntKind.i64.wrap (E + 1) = E + 1 := wrap_mid64 (by omega) (by omega)
          have hst' : stripF f N (E + 1) = stripF 60 m e := by rw [← hst, stripF_even (by omega)]; congr 1; omega
          have hN : N ≠ 0 ∧ N.natAbs < 2 ^ f ∧ -1000000000000000 ≤ N ∧ N ≤ 1000000000000000 ∧ -100 ≤ E + 1 ∧ E + 1 ≤ 160 - f := by
            rw [Nat.pow_succ] at hMf; exact ⟨by omega, by omega, by omega, by omega, by omega, by omega⟩
          have HS := Lib.hid hst'; have HN := Lib.hid hN
          clear hst hst' hN hMf hev
          go_wp2_with fail
          go_round
          case rel =>
            obtain ⟨n1, n2, n3, n4, n5, n6⟩ := HN.out
            exact ⟨f, N, E + 1, by omega, rfl, rfl, n1, n2, n3, n4, n5, n6, HS.out⟩
          case measure => simp [intOf]; omega
      · have hmod : (M.tmod 2 == 0) = false := by
          have : ¬ M.tmod 2 = 0 := fun h => hev (tmod_zero.1 h)
          simpa using this
        rw [stripF_odd hev] at hst
        have hnew : newF m e = if fltOkF M E = true then (M, E, true) else (0, 0, false) := by
          unfold newF; rw [if_pos ⟨hm, he⟩, if_neg h0, ← hst]
        have HNEW := Lib.hid hnew; clear hnew hst hMf hev
        cases hk : fltOkF M E with
        | true =>
          go_wp2_with fail
          refine (fltOk_impl _ _ _).mono ?_
          rintro _ w1 ⟨rfl, b1⟩
          obtain ⟨r0, r1, rf⟩ := two_num b1 (first_block w _ _)
          obtain ⟨g0, g1, _⟩ := two_num b1 (second_block2 w _ _)
          have rf0 := rf 0; have rf1 := rf 1; clear rf
          have hsz := b1.size
          have BB := Lib.hid b1; clear b1
          rw [hk]
          go_wp2_with fail
          simp only [World.size_alloc] at hsz
          refine bodyPost_ret (v := .tuple #[.agg #[.int .i64 M, .int .i64 E], .bool true]) (by simp [results, Tryd.results19, go_sem, r0, r1]) rfl ⟨by rw [HNEW.out, if_pos hk], ?_⟩
          iterate 2 refine Below.setCell ?_ (by dsimp only; omega) _
          exact nx (below2 _ _ _) BB.out
        | false =>
          go_wp2_with fail
          refine (fltOk_impl _ _ _).mono ?_
          rintro _ w1 ⟨rfl, b1⟩
          obtain ⟨r0, r1, rf⟩ := two_num b1 (first_block w _ _)
          obtain ⟨g0, g1, _⟩ := two_num b1 (second_block2 w _ _)
          have rf0 := rf 0; have rf1 := rf 1; clear rf
          have hsz := b1.size
          have BB := Lib.hid b1; clear b1
          rw [hk]
          go_wp2_with fail
          simp only [World.size_alloc] at hsz
          refine bodyPost_ret (v := .tuple #[.agg #[.int .i64 0, .int .i64 0], .bool false]) (by simp [results, Tryd.results19, go_sem, r0, r1]) rfl ⟨by rw [HNEW.out, if_neg (by rw [hk]; simp)], ?_⟩
          iterate 2 refine Below.setCell ?_ (by dsimp only; omega) _
          exact nx (below2 _ _ _) BB.out

set_option maxHeartbeats 2000000 in
theorem newF_spec (m e : Int) (w : World) : Calls Tryd.prog 14 #[.int .i64 m, .int .i64 e] w fun en w' => en = .returned (.tuple #[.agg #[.int .i64 (newF m e).1, .int .i64 (newF m e).2.1], .bool (newF m e).2.2]) ∧ Below w.heap.size w w' := by
  cases hm : inB m (-1000000000000000) 1000000000000000 with
  | false =>
    have hn : newF m e = (0, 0, false) := if_neg (by rw [hm]; simp)
    rw [hn]; clear hn
    go_enter Tryd.func14, Tryd.ntmps14
    go_wp2_with (go_at_call 22; refine (l1In_c _ _ _ _).mono ?_; rintro e w' ⟨rfl, rfl⟩)
    exact bodyPost_ret (v := .tuple #[.agg #[.int .i64 0, .int .i64 0], .bool false]) (by simp [results, Tryd.results14, go_sem]) rfl ⟨rfl, below1 _ _⟩
  | true =>
  cases he : inB e (-100) 100 with
  | false =>
    have hn : newF m e = (0, 0, false) := if_neg (by rw [he]; simp)
    rw [hn]; clear hn
    go_enter Tryd.func14, Tryd.ntmps14
    go_wp2_with (go_at_call 22; refine (l1In_c _ _ _ _).mono ?_; rintro e w' ⟨rfl, rfl⟩)
    exact bodyPost_ret (v := .tuple #[.agg #[.int .i64 0, .int .i64 0], .bool false]) (by simp [results, Tryd.results14, go_sem]) rfl ⟨rfl, below1 _ _⟩
  | true =>
  by_cases h0 : m = 0
  · subst h0
    have hn : newF 0 e = (0, 0, true) := by unfold newF; rw [if_pos ⟨hm, he⟩, if_pos rfl]
    rw [hn]; clear hn
    go_enter Tryd.func14, Tryd.ntmps14
    go_wp2_with (go_at_call 22; refine (l1In_c _ _ _ _).mono ?_; rintro e w' ⟨rfl, rfl⟩)
    exact bodyPost_ret (v := .tuple #[.agg #[.int .i64 0, .int .i64 0], .bool true]) (by simp [results, Tryd.results14, go_sem]) rfl ⟨rfl, below1 _ _⟩
  · have hz : (m == 0) = false := by simpa using h0
    obtain ⟨q1, q2⟩ := inB_true.1 hm
    obtain ⟨q3, q4⟩ := inB_true.1 he
    go_enter Tryd.func14, Tryd.ntmps14
    go_wp2_with (go_at_call 22; refine (l1In_c _ _ _ _).mono ?_; rintro e w' ⟨rfl, rfl⟩)
    go_loop [0, 1] (fun a b => ∃ (f : Nat) (M E : Int), f ≤ 60 ∧ a = .int .i64 M ∧ b = .int .i64 E ∧ M ≠ 0 ∧ M.natAbs < 2 ^ f ∧ -1000000000000000 ≤ M ∧ M ≤ 1000000000000000 ∧ -100 ≤ E ∧ E ≤ 160 - f ∧ stripF f M E = stripF 60 m e) (fun a _ => (intOf a).natAbs)
    case atStart => exact ⟨60, m, e, by omega, rfl, rfl, h0, by have h60 := pow60; omega, by omega, by omega, by omega, by omega, rfl⟩
    case round =>
      obtain ⟨f, M, E, hf, rfl, rfl, hM0, hMf, hM1, hM2, hE1, hE2, hst⟩ := hrel
      by_cases hev : M % 2 = 0
      · obtain ⟨N, rfl⟩ : ∃ N, M = 2 * N := ⟨M / 2, by omega⟩
        cases f with
        | zero => exfalso; simp at hMf; omega
        | succ f =>
          have hmod : ((2 * N).tmod 2 == 0) = true := by simp
          have hdiv : (2 * N).tdiv 2 = N := by simp
          have hw1 : IntKind.i64.wrap N = N := wrap_mid64 (by omega) (by omega)
          have hw2 : IntKind.i64.wrap (E + 1) = E + 1 := wrap_mid64 (by omega) (by omega)
          have hst' : stripF f N (E + 1) = stripF 60 m e := by rw [← hst, stripF_even (by omega)]; congr 1; omega
          have hN : N ≠ 0 ∧ N.natAbs < 2 ^ f ∧ -1000000000000000 ≤ N ∧ N ≤ 1000000000000000 ∧ -100 ≤ E + 1 ∧ E + 1 ≤ 160 - f := by
            rw [Nat.pow_succ] at hMf; exact ⟨by omega, by omega, by omega, by omega, by omega, by omega⟩
          have HS := Lib.hid hst'; have HN := Lib.hid hN
          clear hst hst' hN hMf hev
          go_wp2_with fail
          go_round
          case rel =>
            obtain ⟨n1, n2, n3, n4, n5, n6⟩ := HN.out
            exact ⟨f, N, E + 1, by omega, rfl, rfl, n1, n2, n3, n4, n5, n6, HS.out⟩
          case measure => simp [intOf]; omega
      · have hmod : (M.tmod 2 == 0) = false := by
          have : ¬ M.tmod 2 = 0 := fun h => hev (tmod_zero.1 h)
          simpa using this
        rw [stripF_odd hev] at hst
        have hnew : newF m e = if fltOkF M E = true then (M, E, true) else (0, 0, false) := by
          unfold newF; rw [if_pos ⟨hm, he⟩, if_neg h0, ← hst]
        have HNEW := Lib.hid hnew; clear hnew hst hMf hev
        cases hk : fltOkF M E with
        | true =>
          go_wp2_with fail
          refine (fltOk_spec _ _ _).mono ?_
          rintro _ w1 ⟨rfl, b1⟩
          obtain ⟨r0, r1, rf⟩ := two_num b1 (first_block w _ _)
          obtain ⟨g0, g1, _⟩ := two_num b1 (second_block2 w _ _)
          have rf0 := rf 0; have rf1 := rf 1; clear rf
          have hsz := b1.size
          have BB := Lib.hid b1; clear b1
          rw [hk]
          go_wp2_with fail
          simp only [World.size_alloc] at hsz
          refine bodyPost_ret (v := .tuple #[.agg #[.int .i64 M, .int .i64 E], .bool true]) (by simp [results, Tryd.results14, go_sem, r0, r1]) rfl ⟨by rw [HNEW.out, if_pos hk], ?_⟩
          iterate 2 refine Below.setCell ?_ (by dsimp only; omega) _
          exact nx (below2 _ _ _) BB.out
        | false =>
          go_wp2_with fail
          refine (fltOk_spec _ _ _).mono ?_
          rintro _ w1 ⟨rfl, b1⟩
          obtain ⟨r0, r1, rf⟩ := two_num b1 (first_block w _ _)
          obtain ⟨g0, g1, _⟩ := two_num b1 (second_block2 w _ _)
          have rf0 := rf 0; have rf1 := rf 1; clear rf
          have hsz := b1.size
          have BB := Lib.hid b1; clear b1
          rw [hk]
          go_wp2_with fail
          simp only [World.size_alloc] at hsz
          refine bodyPost_ret (v := .tuple #[.agg #[.int .i64 0, .int .i64 0], .bool false]) (by simp [results, Tryd.results14, go_sem, r0, r1]) rfl ⟨by rw [HNEW.out, if_neg (by rw [hk]; simp)], ?_⟩
          iterate 2 refine Below.setCell ?_ (by dsimp only; omega) _
          exact nx (below2 _ _ _) BB.out

end Go.Proofs.YtcmdchhhdcdpnaaDoor
