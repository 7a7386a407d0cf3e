/- NearFlt of the program. -/
import Derived.Test.YtcmdchhhdcdpnaaDoorCNear
namespace Go.Proofs.YtcmdchhhdcdpnaaDoor
open Go.Deep Go.ChangeShapes Go.WideShapes Go.ChangeAt Go.RowKit
open Go.ChangeMaps (open_string shut_string)

theorem near_bounds {N P : Nat} {E : Int} (hN : N < 100000000000000000) (hP : 1 ≤ P) (hP2 : P ≤ 10000000000000000) (_h16 : -16 ≤ E) (h : E = -16 ∨ 65535 < qE N P (E - 1)) : E ≤ 41 ∧ 1 ≤ P * 2 ^ E.toNat ∧ P * 2 ^ E.toNat ≤ 10000000000000000 := by
  by_cases h1 : 1 ≤ E
  · have hq := h.resolve_left (by omega)
    unfold qE at hq
    rw [show (-(E - 1)).toNat = 0 by omega, Nat.pow_zero, Nat.mul_one] at hq
    have e : E.toNat = (E - 1).toNat + 1 := by omega
    have hX : 0 < P * 2 ^ (E - 1).toNat := Nat.mul_pos hP (Nat.pow_pos (by decide))
    have hle : 65536 ≤ N / (P * 2 ^ (E - 1).toNat) := hq
    rw [Nat.le_div_iff_mul_le hX] at hle
    refine ⟨?_, ?_, ?_⟩
    · by_cases h41 : E ≤ 41
      · exact h41
      · exfalso
        have a := Nat.pow_le_pow_right (n := 2) (by decide) (show 41 ≤ (E - 1).toNat by omega)
        have e41 : (2 : Nat) ^ 41 = 2199023255552 := by decide
        rw [e41] at a
        have b := Nat.mul_le_mul hP a
        generalize P * 2 ^ (E - 1).toNat = X at *
        omega
    · exact Nat.mul_pos hP (Nat.pow_pos (by decide))
    · rw [e, Nat.pow_succ, ← Nat.mul_assoc]
      generalize P * 2 ^ (E - 1).toNat = X at *
      omega
  · rw [show E.toNat = 0 by omega, Nat.pow_zero, Nat.mul_one]; omega
theorem sh_big {N P : Nat} {E : Int} (_hd : 0 < P * 2 ^ E.toNat) (h : 65535 < qE N P E) : 65535 < shQ N (-E).toNat (P * 2 ^ E.toNat) := by
  unfold shQ; split
  · decide
  · exact h
theorem sh_small {N P : Nat} {E : Int} (hd : 0 < P * 2 ^ E.toNat) (h : qE N P E ≤ 65535) : shQ N (-E).toNat (P * 2 ^ E.toNat) = qE N P E ∧ shH N (-E).toNat (P * 2 ^ E.toNat) = cmpH (rE N P E) (P * 2 ^ E.toNat) := by
  have hs : ¬ P * 2 ^ E.toNat * 18446744073709551616 ≤ N * 2 ^ (-E).toNat := by
    intro hc
    have : 18446744073709551616 ≤ qE N P E := by
      unfold qE
      rw [Nat.le_div_iff_mul_le hd, Nat.mul_comm]; exact hc
    omega
  exact ⟨if_neg hs, if_neg hs⟩
theorem bump_cmp {q r d : Nat} : bump q r d = if 0 < cmpH r d ∨ cmpH r d = 0 ∧ q % 2 = 1 then q + 1 else q := by
  unfold bump cmpH
  by_cases h1 : d < 2 * r
  · rw [if_pos (.inl h1), if_pos h1, if_pos (.inl (by decide))]
  · by_cases h2 : 2 * r = d
    · by_cases h3 : q % 2 = 1
      · rw [if_pos (.inr ⟨h2, h3⟩), if_neg h1, if_pos h2, if_pos (.inr ⟨rfl, h3⟩)]
      · rw [if_neg (by omega), if_neg h1, if_pos h2, if_neg (by omega)]
    · rw [if_neg (by omega), if_neg h1, if_neg h2, if_neg (by omega)]

theorem nearF_no {n x : Int} (h : decOkB n x = false) : nearF n x = (0, 0, false) := if_neg (by rw [h]; simp)

set_option maxRecDepth 100000 in
set_option maxHeartbeats 2000000 in
theorem nearFlt_impl (n x : Int) (w : World) (hL : LaidP w) (h1 : -9223372036854775808 ≤ n) (h2 : n ≤ 9223372036854775807) :
    Calls Tryd.prog 7 #[.agg #[.int .i64 n, .int .i64 x]] w fun en w' => en = .returned (.tuple #[.agg #[.int .i64 (nearF n x).1, .int .i64 (nearF n x).2.1], .bool (nearF n x).2.2]) ∧ Below w.heap.size w w' := by
  have H1 := Lib.hid (fun w1 (hb : Below w.heap.size w w1) => decOk_impl n x w1 (hL.kept hb) h1 h2)
  clear hL
  cases hk : decOkB n x with
  | false =>
    rw [nearF_no hk]
    rw [hk] at H1
    go_enter Tryd.func7, Tryd.ntmps7
    go_wp2_with fail
    refine (H1.out _ (below2 _ _ _)).mono ?_
    rintro _ w1 ⟨rfl, b1⟩
    obtain ⟨r0, r1, rf⟩ := two_num b1 (second_block2 w _ _)
    have rf0 := rf 0; have rf1 := rf 1; clear rf
    have hsz := b1.size
    simp only [World.size_alloc] at hsz
    have BB := Lib.hid b1; clear b1
    go_wp2_with fail
    refine bodyPost_ret (v := .tuple #[.agg #[.int .i64 0, .int .i64 0], .bool false]) (by simp [results, Tryd.results7, go_sem, r0, r1]) rfl ⟨rfl, ?_⟩
    iterate 2 refine Below.setCell ?_ (by dsimp only; omega) _
    exact nx (below2 _ _ _) BB.out
  | true =>
    obtain ⟨a1, a2, a3, a4⟩ := decOk_range hk
    rw [hk] at H1
    obtain ⟨P, hP⟩ : ∃ P : Nat, P = 10 ^ (-x).toNat := ⟨_, rfl⟩
    have hPI : (10 : Int) ^ (-x).toNat = (P : Int) := by rw [hP, Int.natCast_pow]; rfl
    obtain ⟨P', Q', e1, e2, hPQ, p1, q1, p2, q2⟩ := pow_pair a1 a2
    have hPP : (P : Int) = P' := hPI.symm.trans e1
    have hP1 : 1 ≤ P := by omega
    have hP2 : P ≤ 10000000000000000 := by omega
    obtain ⟨N, hN⟩ : ∃ N : Nat, N = n.natAbs := ⟨_, rfl⟩
    have hN1 : N < 100000000000000000 := by omega
    have hmax : max n (-n) = (N : Int) := by omega
    have hwn : IntKind.i64.wrap (-n) = -n := IntWalk.i64_in _ (by omega)
    have hwx : IntKind.i64.wrap (-x) = -x := IntWalk.i64_in _ (by omega)
    have c1 := fun w => power_c 10 (-x) w (by omega) (by omega) (by omega)
    rw [hPI] at c1
    have C1 := Lib.hid c1
    have hu1 : IntKind.u64.wrap (N : Int) = (N : Int) := u64w N (by omega)
    have hu2 : IntKind.u64.wrap (P : Int) = (P : Int) := u64w P (by omega)
    have HOF := Lib.hid (fun (e : Int) (hq : qE N P e ≤ 65535) (g1 : -16 ≤ e) (g2 : e < 54) (g3 : e = -16 ∨ 65535 < qE N P (e - 1)) => nearF_of hk hN hP hq g1 g2 g3)
    have hbd : ∀ E : Int, -16 ≤ E → (E = -16 ∨ 65535 < qE N P (E - 1)) → E ≤ 41 ∧ 1 ≤ P * 2 ^ E.toNat ∧ P * 2 ^ E.toNat ≤ 10000000000000000 := fun E g1 g2 => near_bounds hN1 hP1 hP2 g1 g2
    have HBD := Lib.hid hbd
    clear hbd c1 e1 e2 hPQ p1 q1 p2 q2 hPP hPI hk hP hN
    have F := Lib.hid (first_block w (.cells #[.int .i64 n, .int .i64 x] 28) (.cells #[.int .i64 0, .int .i64 0] 25))
    have G := Lib.hid (second_block2 w (.cells #[.int .i64 n, .int .i64 x] 28) (.cells #[.int .i64 0, .int .i64 0] 25))
    have bb := below2 w (.cells #[.int .i64 n, .int .i64 x] 28) (.cells #[.int .i64 0, .int .i64 0] 25)
    obtain ⟨W0, hW0⟩ : ∃ W0, W0 = (w.alloc (.cells #[.int .i64 n, .int .i64 x] 28)).alloc (.cells #[.int .i64 0, .int .i64 0] 25) := ⟨_, rfl⟩
    have HK : Hid (∀ w1, Below W0.heap.size W0 w1 → (w1.cell? ⟨w.heap.size, 0, none⟩ = some (.int .i64 n) ∧ w1.cell? ⟨w.heap.size, 1, none⟩ = some (.int .i64 x)) ∧ (w1.cell? ⟨w.heap.size + 1, 0, none⟩ = some (.int .i64 0) ∧ w1.cell? ⟨w.heap.size + 1, 1, none⟩ = some (.int .i64 0) ∧ w1.frozen? ⟨w.heap.size + 1, 0, none⟩ = false ∧ w1.frozen? ⟨w.heap.size + 1, 1, none⟩ = false)) :=
      Lib.hid (fun w1 hb => by
        subst hW0
        obtain ⟨c0, c1, _⟩ := two_num hb F.out
        obtain ⟨d0, d1, df⟩ := two_num hb G.out
        exact ⟨⟨c0, c1⟩, d0, d1, df 0, df 1⟩)
    rw [← hW0] at bb
    have HW := Lib.hid hW0
    clear hW0 F G
    go_enter Tryd.func7, Tryd.ntmps7
    go_wp2_with fail
    rw [← HW.out]
    refine (H1.out _ bb).mono ?_
    rintro _ w1 ⟨rfl, b1⟩
    obtain ⟨⟨c0, c1⟩, -⟩ := HK.out _ b1
    go_wp2_with fail
    go_quiet ((go_at_call 16; exact Calls.quiet_of_same (quiet_eq' (C1.out _))))
    clear c0 c1
    have b2 := drewN_below b1 nq
    clear b1
    generalize w1.drewN nq = w2 at *
    go_wp2_with fail
    clear hmax hwn hwx hu1 C1 H1 h1 h2 a1 a2
    go_loopw [6] (fun e wr => ∃ E : Int, e = .int .i64 E ∧ -16 ≤ E ∧ E ≤ 41 ∧ Hid (E = -16 ∨ 65535 < qE N P (E - 1)) ∧ Below W0.heap.size W0 wr) (fun e _ => (60 - intOf e).toNat)
    case atStart => exact ⟨-16, rfl, by omega, by omega, Lib.hid (.inl rfl), b2⟩
    case round =>
      obtain ⟨E, rfl, hE1, hE2, hQ, hbw⟩ := hrel
      clear b2
      have hbdd := HBD.out E hE1 hQ.out
      obtain ⟨SQ, hSQ⟩ : ∃ z, z = shQ N (-E).toNat (P * 2 ^ E.toNat) := ⟨_, rfl⟩
      obtain ⟨SH, hSH⟩ : ∃ z, z = shH N (-E).toNat (P * 2 ^ E.toNat) := ⟨_, rfl⟩
      have hsh : ∀ w, Calls Tryd.prog 18 #[.int .u64 N, .int .u64 ((-E).toNat : Nat), .int .u64 ((P * 2 ^ E.toNat : Nat) : Int)] w fun e w' => e = .returned (.tuple #[.int .u64 ((SQ : Nat) : Int), .int .i64 SH]) ∧ Below w.heap.size w w' := by
        rw [hSQ, hSH]
        exact fun w => shifted_c N (-E).toNat (P * 2 ^ E.toNat) w (by omega) (by omega) (by omega) (by omega)
      have hmu : ∀ w, Calls Tryd.prog 17 #[.int .u64 P, .int .u64 ((2 ^ E.toNat : Nat) : Int)] w fun e w' => e = .returned (.tuple #[.int .u64 0, .int .u64 ((P * 2 ^ E.toNat : Nat) : Int)]) ∧ w' = w := by
        intro w
        have hG : 2 ^ E.toNat ≤ P * 2 ^ E.toNat := Nat.le_mul_of_pos_left _ (by omega)
        have := Tryd.bits_Mul64 P (2 ^ E.toNat) (by omega) (by omega) w
        rw [Nat.div_eq_of_lt (by omega), Nat.mod_eq_of_lt (by omega)] at this
        exact this
      have hmulw : IntKind.u64.wrap ((P : Int) * ((2 ^ E.toNat : Nat) : Int)) = ((P * 2 ^ E.toNat : Nat) : Int) := by
        rw [← Int.natCast_mul]; exact u64w _ (by omega)
      have hG1 : IntKind.u64.wrap ((2 ^ E.toNat : Nat) : Int) = ((2 ^ E.toNat : Nat) : Int) := u64w _ (by
        have : 2 ^ E.toNat ≤ P * 2 ^ E.toNat := Nat.le_mul_of_pos_left _ (by omega)
        omega)
      -- the two ways: not yet, or found
      have hway : (65535 < SQ ∧ Hid (65535 < qE N P (E + 1 - 1)) ∧ E + 1 ≤ 41) ∨ (SQ ≤ 65535 ∧ ∃ M : Nat, (((0 < SH ∨ SH = 0 ∧ SQ % 2 = 1) ∧ M = SQ + 1) ∨ (¬ (0 < SH ∨ SH = 0 ∧ SQ % 2 = 1) ∧ M = SQ)) ∧ Hid (nearF n x = newF (if n < 0 then -(M : Int) else (M : Int)) E)) := by
        by_cases hq : qE N P E ≤ 65535
        · obtain ⟨s1, s2⟩ := sh_small (N := N) (P := P) (E := E) (by omega) hq
          have hres := HOF.out E hq hE1 (by omega) hQ.out
          rw [bump_cmp, ← s1, ← s2, ← hSQ, ← hSH] at hres
          rw [← hSQ] at s1
          refine .inr ⟨by omega, _, ?_, Lib.hid hres⟩
          split
          · rename_i h; exact .inl ⟨h, rfl⟩
          · rename_i h; exact .inr ⟨h, rfl⟩
        · have hb := sh_big (N := N) (P := P) (E := E) (by omega) (by omega)
          rw [← hSQ] at hb
          have hq' : 65535 < qE N P (E + 1 - 1) := by rw [show E + 1 - 1 = E by omega]; omega
          have := (HBD.out (E + 1) (by omega) (.inr hq')).1
          exact .inl ⟨hb, Lib.hid hq', this⟩
      have hGpow : E.toNat ≤ 41 := by omega
      have HSH := Lib.hid hsh; have HMU := Lib.hid hmu
      have hshl : ∀ K : Nat, E = (K : Int) → IntKind.u64.wrap (2 ^ K : Int) = ((2 ^ E.toNat : Nat) : Int) := by
        intro K hK
        rw [hK, Int.toNat_natCast, Int.natCast_pow] at hG1
        rw [hK, Int.toNat_natCast, Int.natCast_pow]
        exact hG1
      have hun : E < 0 → ((2 ^ E.toNat : Nat) : Int) = 1 := by
        intro h; rw [show E.toNat = 0 by omega]; rfl
      have hup : ∀ K : Nat, E = (K : Int) → (((-E).toNat : Nat) : Int) = 0 := by intro K hK; omega
      have hun2 : E < 0 → (((-E).toNat : Nat) : Int) = -E := by intro h; omega
      clear hsh hmu hSQ hSH hbdd hG1
      generalize hgd : ((P * 2 ^ E.toNat : Nat) : Int) = D at *
      generalize hgg : ((2 ^ E.toNat : Nat) : Int) = G at *
      generalize hgu : (((-E).toNat : Nat) : Int) = U at *
      obtain ⟨QI, hQI⟩ : ∃ z : Int, z = (SQ : Int) := ⟨_, rfl⟩
      rw [← hQI] at HSH
      clear hgd hgg hgu HBD HOF hGpow
      rcases hway with ⟨hq1, hq2, hq3⟩ | ⟨hq1, M, hM, hres⟩
      · have hqi : 65535 < QI := by omega
        have hqd : decide (65535 < QI) = true := decide_eq_true hqi
        clear hq1 hQI
        by_cases hneg : E < 0
        · have g1 := hun hneg
          have g2 := hun2 hneg
          subst g1 g2
          have hnd : decide (E < 0) = true := decide_eq_true hneg
          have hu : IntKind.u64.wrap (-E) = -E := IntWalk.u64_in _ (by omega)
          have hmulw2 : IntKind.u64.wrap (P : Int) = D := by simpa using hmulw
          clear hun hun2 hup hshl hmulw hu2
          go_wp2_with fail
          (with_reducible refine (HMU.out _).mono ?_)
          rintro _ _ ⟨rfl, rfl⟩
          go_wp2_with fail
          (with_reducible refine (HSH.out _).mono ?_)
          rintro _ w3 ⟨rfl, b3⟩
          go_wp2_with fail
          go_roundw
          case rel => exact ⟨E + 1, rfl, by omega, by omega, Lib.hid (.inr hq2.out), nx hbw b3⟩
          case measure => simp [intOf]; omega
        · obtain ⟨K, rfl⟩ : ∃ K : Nat, E = (K : Int) := ⟨E.toNat, by omega⟩
          have g1 := hup K rfl
          have f1 := hshl K rfl
          subst g1
          have hnd : decide ((K : Int) < 0) = false := decide_eq_false (by omega)
          clear hun hun2 hup hshl hu2 hneg
          go_wp2_with fail
          (with_reducible refine (HMU.out _).mono ?_)
          rintro _ _ ⟨rfl, rfl⟩
          go_wp2_with fail
          (with_reducible refine (HSH.out _).mono ?_)
          rintro _ w3 ⟨rfl, b3⟩
          go_wp2_with fail
          go_roundw
          case rel => exact ⟨(K : Int) + 1, rfl, by omega, by omega, Lib.hid (.inr hq2.out), nx hbw b3⟩
          case measure => simp [intOf]; omega
      · by_cases hneg : E < 0
        · have g1 := hun hneg
          have g2 := hun2 hneg
          subst g1 g2
          have hnd : decide (E < 0) = true := decide_eq_true hneg
          have hu : IntKind.u64.wrap (-E) = -E := IntWalk.u64_in _ (by omega)
          have hmulw2 : IntKind.u64.wrap (P : Int) = D := by simpa using hmulw
          clear hun hun2 hup hshl hmulw hu2
          have hqi0 : 0 ≤ QI := by omega
          have hqi : QI ≤ 65535 := by omega
          have hqn : ¬ 65535 < QI := by omega
          have hqd : decide (65535 < QI) = false := decide_eq_false hqn
          have hc : 0 < SH ∨ (SH = 0 ∧ QI % 2 = 1) ∨ (SH = 0 ∧ QI % 2 = 0) ∨ SH < 0 := by omega
          rcases hc with hc | ⟨hc, ho⟩ | ⟨hc, ho⟩ | hc
          · have hMI : (M : Int) = QI + 1 := by omega
            have x1 : decide (0 < SH) = true := decide_eq_true hc
            clear hM hQI hq1 hqn
            by_cases hn : n < 0
            · have hV : nearF n x = newF (-(QI + 1)) E := by rw [hres.out, if_pos hn, hMI]
              have hdn : decide (n < 0) = true := decide_eq_true hn
              obtain ⟨⟨A, B, C⟩, hz⟩ : ∃ z, newF (-(QI + 1)) E = z := ⟨_, rfl⟩
              have hfn := fun w => newF_impl (-(QI + 1)) E w
              rw [hz] at hV hfn
              have HR := Lib.hid hV; have HFN := Lib.hid hfn
              clear hV hfn hz hMI hres
              go_wp2_with fail
              (with_reducible refine (HMU.out _).mono ?_)
              rintro _ _ ⟨rfl, rfl⟩
              go_wp2_with fail
              (with_reducible refine (HSH.out _).mono ?_)
              rintro _ w3 ⟨rfl, b3⟩
              have t3 := nx hbw b3
              obtain ⟨⟨c0, c1⟩, -⟩ := HK.out _ t3
              go_wp2_with fail
              (with_reducible refine (HFN.out _).mono ?_)
              rintro _ w4 ⟨rfl, b4⟩
              clear c0 c1
              obtain ⟨-, s0, s1, sf0, sf1⟩ := HK.out _ (nx t3 b4)
              go_wp2_with fail
              refine bodyPost_ret (v := .tuple #[.agg #[.int .i64 A, .int .i64 B], .bool C]) (by simp [results, Tryd.results7, go_sem, s0, s1]) rfl ⟨by rw [HR.out], ?_⟩
              iterate 2 refine Below.setCell ?_ (by dsimp only; omega) _
              exact nx bb (nx t3 b4)
            · have hV : nearF n x = newF (QI + 1) E := by rw [hres.out, if_neg hn, hMI]
              have hdn : decide (n < 0) = false := decide_eq_false hn
              obtain ⟨⟨A, B, C⟩, hz⟩ : ∃ z, newF (QI + 1) E = z := ⟨_, rfl⟩
              have hfn := fun w => newF_impl (QI + 1) E w
              rw [hz] at hV hfn
              have HR := Lib.hid hV; have HFN := Lib.hid hfn
              clear hV hfn hz hMI hres
              go_wp2_with fail
              (with_reducible refine (HMU.out _).mono ?_)
              rintro _ _ ⟨rfl, rfl⟩
              go_wp2_with fail
              (with_reducible refine (HSH.out _).mono ?_)
              rintro _ w3 ⟨rfl, b3⟩
              have t3 := nx hbw b3
              obtain ⟨⟨c0, c1⟩, -⟩ := HK.out _ t3
              go_wp2_with fail
              (with_reducible refine (HFN.out _).mono ?_)
              rintro _ w4 ⟨rfl, b4⟩
              clear c0 c1
              obtain ⟨-, s0, s1, sf0, sf1⟩ := HK.out _ (nx t3 b4)
              go_wp2_with fail
              refine bodyPost_ret (v := .tuple #[.agg #[.int .i64 A, .int .i64 B], .bool C]) (by simp [results, Tryd.results7, go_sem, s0, s1]) rfl ⟨by rw [HR.out], ?_⟩
              iterate 2 refine Below.setCell ?_ (by dsimp only; omega) _
              exact nx bb (nx t3 b4)
          · have hMI : (M : Int) = QI + 1 := by omega
            subst hc
            have x3 : (QI % 2 == 1) = true := by rw [ho]; rfl
            clear hM hQI hq1 hqn
            by_cases hn : n < 0
            · have hV : nearF n x = newF (-(QI + 1)) E := by rw [hres.out, if_pos hn, hMI]
              have hdn : decide (n < 0) = true := decide_eq_true hn
              obtain ⟨⟨A, B, C⟩, hz⟩ : ∃ z, newF (-(QI + 1)) E = z := ⟨_, rfl⟩
              have hfn := fun w => newF_impl (-(QI + 1)) E w
              rw [hz] at hV hfn
              have HR := Lib.hid hV; have HFN := Lib.hid hfn
              clear hV hfn hz hMI hres
              go_wp2_with fail
              (with_reducible refine (HMU.out _).mono ?_)
              rintro _ _ ⟨rfl, rfl⟩
              go_wp2_with fail
              (with_reducible refine (HSH.out _).mono ?_)
              rintro _ w3 ⟨rfl, b3⟩
              have t3 := nx hbw b3
              obtain ⟨⟨c0, c1⟩, -⟩ := HK.out _ t3
              go_wp2_with fail
              (with_reducible refine (HFN.out _).mono ?_)
              rintro _ w4 ⟨rfl, b4⟩
              clear c0 c1
              obtain ⟨-, s0, s1, sf0, sf1⟩ := HK.out _ (nx t3 b4)
              go_wp2_with fail
              refine bodyPost_ret (v := .tuple #[.agg #[.int .i64 A, .int .i64 B], .bool C]) (by simp [results, Tryd.results7, go_sem, s0, s1]) rfl ⟨by rw [HR.out], ?_⟩
              iterate 2 refine Below.setCell ?_ (by dsimp only; omega) _
              exact nx bb (nx t3 b4)
            · have hV : nearF n x = newF (QI + 1) E := by rw [hres.out, if_neg hn, hMI]
              have hdn : decide (n < 0) = false := decide_eq_false hn
              obtain ⟨⟨A, B, C⟩, hz⟩ : ∃ z, newF (QI + 1) E = z := ⟨_, rfl⟩
              have hfn := fun w => newF_impl (QI + 1) E w
              rw [hz] at hV hfn
              have HR := Lib.hid hV; have HFN := Lib.hid hfn
              clear hV hfn hz hMI hres
              go_wp2_with fail
              (with_reducible refine (HMU.out _).mono ?_)
              rintro _ _ ⟨rfl, rfl⟩
              go_wp2_with fail
              (with_reducible refine (HSH.out _).mono ?_)
              rintro _ w3 ⟨rfl, b3⟩
              have t3 := nx hbw b3
              obtain ⟨⟨c0, c1⟩, -⟩ := HK.out _ t3
              go_wp2_with fail
              (with_reducible refine (HFN.out _).mono ?_)
              rintro _ w4 ⟨rfl, b4⟩
              clear c0 c1
              obtain ⟨-, s0, s1, sf0, sf1⟩ := HK.out _ (nx t3 b4)
              go_wp2_with fail
              refine bodyPost_ret (v := .tuple #[.agg #[.int .i64 A, .int .i64 B], .bool C]) (by simp [results, Tryd.results7, go_sem, s0, s1]) rfl ⟨by rw [HR.out], ?_⟩
              iterate 2 refine Below.setCell ?_ (by dsimp only; omega) _
              exact nx bb (nx t3 b4)
          · have hMI : (M : Int) = QI := by omega
            subst hc
            have x3 : (QI % 2 == 1) = false := by rw [ho]; rfl
            clear hM hQI hq1 hqn
            by_cases hn : n < 0
            · have hV : nearF n x = newF (-(QI)) E := by rw [hres.out, if_pos hn, hMI]
              have hdn : decide (n < 0) = true := decide_eq_true hn
              obtain ⟨⟨A, B, C⟩, hz⟩ : ∃ z, newF (-(QI)) E = z := ⟨_, rfl⟩
              have hfn := fun w => newF_impl (-(QI)) E w
              rw [hz] at hV hfn
              have HR := Lib.hid hV; have HFN := Lib.hid hfn
              clear hV hfn hz hMI hres
              go_wp2_with fail
              (with_reducible refine (HMU.out _).mono ?_)
              rintro _ _ ⟨rfl, rfl⟩
              go_wp2_with fail
              (with_reducible refine (HSH.out _).mono ?_)
              rintro _ w3 ⟨rfl, b3⟩
              have t3 := nx hbw b3
              obtain ⟨⟨c0, c1⟩, -⟩ := HK.out _ t3
              go_wp2_with fail
              (with_reducible refine (HFN.out _).mono ?_)
              rintro _ w4 ⟨rfl, b4⟩
              clear c0 c1
              obtain ⟨-, s0, s1, sf0, sf1⟩ := HK.out _ (nx t3 b4)
              go_wp2_with fail
              refine bodyPost_ret (v := .tuple #[.agg #[.int .i64 A, .int .i64 B], .bool C]) (by simp [results, Tryd.results7, go_sem, s0, s1]) rfl ⟨by rw [HR.out], ?_⟩
              iterate 2 refine Below.setCell ?_ (by dsimp only; omega) _
              exact nx bb (nx t3 b4)
            · have hV : nearF n x = newF (QI) E := by rw [hres.out, if_neg hn, hMI]
              have hdn : decide (n < 0) = false := decide_eq_false hn
              obtain ⟨⟨A, B, C⟩, hz⟩ : ∃ z, newF (QI) E = z := ⟨_, rfl⟩
              have hfn := fun w => newF_impl (QI) E w
              rw [hz] at hV hfn
              have HR := Lib.hid hV; have HFN := Lib.hid hfn
              clear hV hfn hz hMI hres
              go_wp2_with fail
              (with_reducible refine (HMU.out _).mono ?_)
              rintro _ _ ⟨rfl, rfl⟩
              go_wp2_with fail
              (with_reducible refine (HSH.out _).mono ?_)
              rintro _ w3 ⟨rfl, b3⟩
              have t3 := nx hbw b3
              obtain ⟨⟨c0, c1⟩, -⟩ := HK.out _ t3
              go_wp2_with fail
              (with_reducible refine (HFN.out _).mono ?_)
              rintro _ w4 ⟨rfl, b4⟩
              clear c0 c1
              obtain ⟨-, s0, s1, sf0, sf1⟩ := HK.out _ (nx t3 b4)
              go_wp2_with fail
              refine bodyPost_ret (v := .tuple #[.agg #[.int .i64 A, .int .i64 B], .bool C]) (by simp [results, Tryd.results7, go_sem, s0, s1]) rfl ⟨by rw [HR.out], ?_⟩
              iterate 2 refine Below.setCell ?_ (by dsimp only; omega) _
              exact nx bb (nx t3 b4)
          · have hMI : (M : Int) = QI := by omega
            have x1 : decide (0 < SH) = false := decide_eq_false (by omega)
            have x2 : (SH == 0) = false := by simp; omega
            clear hM hQI hq1 hqn
            by_cases hn : n < 0
            · have hV : nearF n x = newF (-(QI)) E := by rw [hres.out, if_pos hn, hMI]
              have hdn : decide (n < 0) = true := decide_eq_true hn
              obtain ⟨⟨A, B, C⟩, hz⟩ : ∃ z, newF (-(QI)) E = z := ⟨_, rfl⟩
              have hfn := fun w => newF_impl (-(QI)) E w
              rw [hz] at hV hfn
              have HR := Lib.hid hV; have HFN := Lib.hid hfn
              clear hV hfn hz hMI hres
              go_wp2_with fail
              (with_reducible refine (HMU.out _).mono ?_)
              rintro _ _ ⟨rfl, rfl⟩
              go_wp2_with fail
              (with_reducible refine (HSH.out _).mono ?_)
              rintro _ w3 ⟨rfl, b3⟩
              have t3 := nx hbw b3
              obtain ⟨⟨c0, c1⟩, -⟩ := HK.out _ t3
              go_wp2_with fail
              (with_reducible refine (HFN.out _).mono ?_)
              rintro _ w4 ⟨rfl, b4⟩
              clear c0 c1
              obtain ⟨-, s0, s1, sf0, sf1⟩ := HK.out _ (nx t3 b4)
              go_wp2_with fail
              refine bodyPost_ret (v := .tuple #[.agg #[.int .i64 A, .int .i64 B], .bool C]) (by simp [results, Tryd.results7, go_sem, s0, s1]) rfl ⟨by rw [HR.out], ?_⟩
              iterate 2 refine Below.setCell ?_ (by dsimp only; omega) _
              exact nx bb (nx t3 b4)
            · have hV : nearF n x = newF (QI) E := by rw [hres.out, if_neg hn, hMI]
              have hdn : decide (n < 0) = false := decide_eq_false hn
              obtain ⟨⟨A, B, C⟩, hz⟩ : ∃ z, newF (QI) E = z := ⟨_, rfl⟩
              have hfn := fun w => newF_impl (QI) E w
              rw [hz] at hV hfn
              have HR := Lib.hid hV; have HFN := Lib.hid hfn
              clear hV hfn hz hMI hres
              go_wp2_with fail
              (with_reducible refine (HMU.out _).mono ?_)
              rintro _ _ ⟨rfl, rfl⟩
              go_wp2_with fail
              (with_reducible refine (HSH.out _).mono ?_)
              rintro _ w3 ⟨rfl, b3⟩
              have t3 := nx hbw b3
              obtain ⟨⟨c0, c1⟩, -⟩ := HK.out _ t3
              go_wp2_with fail
              (with_reducible refine (HFN.out _).mono ?_)
              rintro _ w4 ⟨rfl, b4⟩
              clear c0 c1
              obtain ⟨-, s0, s1, sf0, sf1⟩ := HK.out _ (nx t3 b4)
              go_wp2_with fail
              refine bodyPost_ret (v := .tuple #[.agg #[.int .i64 A, .int .i64 B], .bool C]) (by simp [results, Tryd.results7, go_sem, s0, s1]) rfl ⟨by rw [HR.out], ?_⟩
              iterate 2 refine Below.setCell ?_ (by dsimp only; omega) _
              exact nx bb (nx t3 b4)
        · obtain ⟨K, rfl⟩ : ∃ K : Nat, E = (K : Int) := ⟨E.toNat, by omega⟩
          have g1 := hup K rfl
          have f1 := hshl K rfl
          subst g1
          have hnd : decide ((K : Int) < 0) = false := decide_eq_false (by omega)
          clear hun hun2 hup hshl hu2 hneg
          have hqi0 : 0 ≤ QI := by omega
          have hqi : QI ≤ 65535 := by omega
          have hqn : ¬ 65535 < QI := by omega
          have hqd : decide (65535 < QI) = false := decide_eq_false hqn
          have hc : 0 < SH ∨ (SH = 0 ∧ QI % 2 = 1) ∨ (SH = 0 ∧ QI % 2 = 0) ∨ SH < 0 := by omega
          rcases hc with hc | ⟨hc, ho⟩ | ⟨hc, ho⟩ | hc
          · have hMI : (M : Int) = QI + 1 := by omega
            have x1 : decide (0 < SH) = true := decide_eq_true hc
            clear hM hQI hq1 hqn
            by_cases hn : n < 0
            · have hV : nearF n x = newF (-(QI + 1)) (K : Int) := by rw [hres.out, if_pos hn, hMI]
              have hdn : decide (n < 0) = true := decide_eq_true hn
              obtain ⟨⟨A, B, C⟩, hz⟩ : ∃ z, newF (-(QI + 1)) (K : Int) = z := ⟨_, rfl⟩
              have hfn := fun w => newF_impl (-(QI + 1)) (K : Int) w
              rw [hz] at hV hfn
              have HR := Lib.hid hV; have HFN := Lib.hid hfn
              clear hV hfn hz hMI hres
              go_wp2_with fail
              (with_reducible refine (HMU.out _).mono ?_)
              rintro _ _ ⟨rfl, rfl⟩
              go_wp2_with fail
              (with_reducible refine (HSH.out _).mono ?_)
              rintro _ w3 ⟨rfl, b3⟩
              have t3 := nx hbw b3
              obtain ⟨⟨c0, c1⟩, -⟩ := HK.out _ t3
              go_wp2_with fail
              (with_reducible refine (HFN.out _).mono ?_)
              rintro _ w4 ⟨rfl, b4⟩
              clear c0 c1
              obtain ⟨-, s0, s1, sf0, sf1⟩ := HK.out _ (nx t3 b4)
              go_wp2_with fail
              refine bodyPost_ret (v := .tuple #[.agg #[.int .i64 A, .int .i64 B], .bool C]) (by simp [results, Tryd.results7, go_sem, s0, s1]) rfl ⟨by rw [HR.out], ?_⟩
              iterate 2 refine Below.setCell ?_ (by dsimp only; omega) _
              exact nx bb (nx t3 b4)
            · have hV : nearF n x = newF (QI + 1) (K : Int) := by rw [hres.out, if_neg hn, hMI]
              have hdn : decide (n < 0) = false := decide_eq_false hn
              obtain ⟨⟨A, B, C⟩, hz⟩ : ∃ z, newF (QI + 1) (K : Int) = z := ⟨_, rfl⟩
              have hfn := fun w => newF_impl (QI + 1) (K : Int) w
              rw [hz] at hV hfn
              have HR := Lib.hid hV; have HFN := Lib.hid hfn
              clear hV hfn hz hMI hres
              go_wp2_with fail
              (with_reducible refine (HMU.out _).mono ?_)
              rintro _ _ ⟨rfl, rfl⟩
              go_wp2_with fail
              (with_reducible refine (HSH.out _).mono ?_)
              rintro _ w3 ⟨rfl, b3⟩
              have t3 := nx hbw b3
              obtain ⟨⟨c0, c1⟩, -⟩ := HK.out _ t3
              go_wp2_with fail
              (with_reducible refine (HFN.out _).mono ?_)
              rintro _ w4 ⟨rfl, b4⟩
              clear c0 c1
              obtain ⟨-, s0, s1, sf0, sf1⟩ := HK.out _ (nx t3 b4)
              go_wp2_with fail
              refine bodyPost_ret (v := .tuple #[.agg #[.int .i64 A, .int .i64 B], .bool C]) (by simp [results, Tryd.results7, go_sem, s0, s1]) rfl ⟨by rw [HR.out], ?_⟩
              iterate 2 refine Below.setCell ?_ (by dsimp only; omega) _
              exact nx bb (nx t3 b4)
          · have hMI : (M : Int) = QI + 1 := by omega
            subst hc
            have x3 : (QI % 2 == 1) = true := by rw [ho]; rfl
            clear hM hQI hq1 hqn
            by_cases hn : n < 0
            · have hV : nearF n x = newF (-(QI + 1)) (K : Int) := by rw [hres.out, if_pos hn, hMI]
              have hdn : decide (n < 0) = true := decide_eq_true hn
              obtain ⟨⟨A, B, C⟩, hz⟩ : ∃ z, newF (-(QI + 1)) (K : Int) = z := ⟨_, rfl⟩
              have hfn := fun w => newF_impl (-(QI + 1)) (K : Int) w
              rw [hz] at hV hfn
              have HR := Lib.hid hV; have HFN := Lib.hid hfn
              clear hV hfn hz hMI hres
              go_wp2_with fail
              (with_reducible refine (HMU.out _).mono ?_)
              rintro _ _ ⟨rfl, rfl⟩
              go_wp2_with fail
              (with_reducible refine (HSH.out _).mono ?_)
              rintro _ w3 ⟨rfl, b3⟩
              have t3 := nx hbw b3
              obtain ⟨⟨c0, c1⟩, -⟩ := HK.out _ t3
              go_wp2_with fail
              (with_reducible refine (HFN.out _).mono ?_)
              rintro _ w4 ⟨rfl, b4⟩
              clear c0 c1
              obtain ⟨-, s0, s1, sf0, sf1⟩ := HK.out _ (nx t3 b4)
              go_wp2_with fail
              refine bodyPost_ret (v := .tuple #[.agg #[.int .i64 A, .int .i64 B], .bool C]) (by simp [results, Tryd.results7, go_sem, s0, s1]) rfl ⟨by rw [HR.out], ?_⟩
              iterate 2 refine Below.setCell ?_ (by dsimp only; omega) _
              exact nx bb (nx t3 b4)
            · have hV : nearF n x = newF (QI + 1) (K : Int) := by rw [hres.out, if_neg hn, hMI]
              have hdn : decide (n < 0) = false := decide_eq_false hn
              obtain ⟨⟨A, B, C⟩, hz⟩ : ∃ z, newF (QI + 1) (K : Int) = z := ⟨_, rfl⟩
              have hfn := fun w => newF_impl (QI + 1) (K : Int) w
              rw [hz] at hV hfn
              have HR := Lib.hid hV; have HFN := Lib.hid hfn
              clear hV hfn hz hMI hres
              go_wp2_with fail
              (with_reducible refine (HMU.out _).mono ?_)
              rintro _ _ ⟨rfl, rfl⟩
              go_wp2_with fail
              (with_reducible refine (HSH.out _).mono ?_)
              rintro _ w3 ⟨rfl, b3⟩
              have t3 := nx hbw b3
              obtain ⟨⟨c0, c1⟩, -⟩ := HK.out _ t3
              go_wp2_with fail
              (with_reducible refine (HFN.out _).mono ?_)
              rintro _ w4 ⟨rfl, b4⟩
              clear c0 c1
              obtain ⟨-, s0, s1, sf0, sf1⟩ := HK.out _ (nx t3 b4)
              go_wp2_with fail
              refine bodyPost_ret (v := .tuple #[.agg #[.int .i64 A, .int .i64 B], .bool C]) (by simp [results, Tryd.results7, go_sem, s0, s1]) rfl ⟨by rw [HR.out], ?_⟩
              iterate 2 refine Below.setCell ?_ (by dsimp only; omega) _
              exact nx bb (nx t3 b4)
          · have hMI : (M : Int) = QI := by omega
            subst hc
            have x3 : (QI % 2 == 1) = false := by rw [ho]; rfl
            clear hM hQI hq1 hqn
            by_cases hn : n < 0
            · have hV : nearF n x = newF (-(QI)) (K : Int) := by rw [hres.out, if_pos hn, hMI]
              have hdn : decide (n < 0) = true := decide_eq_true hn
              obtain ⟨⟨A, B, C⟩, hz⟩ : ∃ z, newF (-(QI)) (K : Int) = z := ⟨_, rfl⟩
              have hfn := fun w => newF_impl (-(QI)) (K : Int) w
              rw [hz] at hV hfn
              have HR := Lib.hid hV; have HFN := Lib.hid hfn
              clear hV hfn hz hMI hres
              go_wp2_with fail
              (with_reducible refine (HMU.out _).mono ?_)
              rintro _ _ ⟨rfl, rfl⟩
              go_wp2_with fail
              (with_reducible refine (HSH.out _).mono ?_)
              rintro _ w3 ⟨rfl, b3⟩
              have t3 := nx hbw b3
              obtain ⟨⟨c0, c1⟩, -⟩ := HK.out _ t3
              go_wp2_with fail
              (with_reducible refine (HFN.out _).mono ?_)
              rintro _ w4 ⟨rfl, b4⟩
              clear c0 c1
              obtain ⟨-, s0, s1, sf0, sf1⟩ := HK.out _ (nx t3 b4)
              go_wp2_with fail
              refine bodyPost_ret (v := .tuple #[.agg #[.int .i64 A, .int .i64 B], .bool C]) (by simp [results, Tryd.results7, go_sem, s0, s1]) rfl ⟨by rw [HR.out], ?_⟩
              iterate 2 refine Below.setCell ?_ (by dsimp only; omega) _
              exact nx bb (nx t3 b4)
            · have hV : nearF n x = newF (QI) (K : Int) := by rw [hres.out, if_neg hn, hMI]
              have hdn : decide (n < 0) = false := decide_eq_false hn
              obtain ⟨⟨A, B, C⟩, hz⟩ : ∃ z, newF (QI) (K : Int) = z := ⟨_, rfl⟩
              have hfn := fun w => newF_impl (QI) (K : Int) w
              rw [hz] at hV hfn
              have HR := Lib.hid hV; have HFN := Lib.hid hfn
              clear hV hfn hz hMI hres
              go_wp2_with fail
              (with_reducible refine (HMU.out _).mono ?_)
              rintro _ _ ⟨rfl, rfl⟩
              go_wp2_with fail
              (with_reducible refine (HSH.out _).mono ?_)
              rintro _ w3 ⟨rfl, b3⟩
              have t3 := nx hbw b3
              obtain ⟨⟨c0, c1⟩, -⟩ := HK.out _ t3
              go_wp2_with fail
              (with_reducible refine (HFN.out _).mono ?_)
              rintro _ w4 ⟨rfl, b4⟩
              clear c0 c1
              obtain ⟨-, s0, s1, sf0, sf1⟩ := HK.out _ (nx t3 b4)
              go_wp2_with fail
              refine bodyPost_ret (v := .tuple #[.agg #[.int .i64 A, .int .i64 B], .bool C]) (by simp [results, Tryd.results7, go_sem, s0, s1]) rfl ⟨by rw [HR.out], ?_⟩
              iterate 2 refine Below.setCell ?_ (by dsimp only; omega) _
              exact nx bb (nx t3 b4)
          · have hMI : (M : Int) = QI := by omega
            have x1 : decide (0 < SH) = false := decide_eq_false (by omega)
            have x2 : (SH == 0) = false := by simp; omega
            clear hM hQI hq1 hqn
            by_cases hn : n < 0
            · have hV : nearF n x = newF (-(QI)) (K : Int) := by rw [hres.out, if_pos hn, hMI]
              have hdn : decide (n < 0) = true := decide_eq_true hn
              obtain ⟨⟨A, B, C⟩, hz⟩ : ∃ z, newF (-(QI)) (K : Int) = z := ⟨_, rfl⟩
              have hfn := fun w => newF_impl (-(QI)) (K : Int) w
              rw [hz] at hV hfn
              have HR := Lib.hid hV; have HFN := Lib.hid hfn
              clear hV hfn hz hMI hres
              go_wp2_with fail
              (with_reducible refine (HMU.out _).mono ?_)
              rintro _ _ ⟨rfl, rfl⟩
              go_wp2_with fail
              (with_reducible refine (HSH.out _).mono ?_)
              rintro _ w3 ⟨rfl, b3⟩
              have t3 := nx hbw b3
              obtain ⟨⟨c0, c1⟩, -⟩ := HK.out _ t3
              go_wp2_with fail
              (with_reducible refine (HFN.out _).mono ?_)
              rintro _ w4 ⟨rfl, b4⟩
              clear c0 c1
              obtain ⟨-, s0, s1, sf0, sf1⟩ := HK.out _ (nx t3 b4)
              go_wp2_with fail
              refine bodyPost_ret (v := .tuple #[.agg #[.int .i64 A, .int .i64 B], .bool C]) (by simp [results, Tryd.results7, go_sem, s0, s1]) rfl ⟨by rw [HR.out], ?_⟩
              iterate 2 refine Below.setCell ?_ (by dsimp only; omega) _
              exact nx bb (nx t3 b4)
            · have hV : nearF n x = newF (QI) (K : Int) := by rw [hres.out, if_neg hn, hMI]
              have hdn : decide (n < 0) = false := decide_eq_false hn
              obtain ⟨⟨A, B, C⟩, hz⟩ : ∃ z, newF (QI) (K : Int) = z := ⟨_, rfl⟩
              have hfn := fun w => newF_impl (QI) (K : Int) w
              rw [hz] at hV hfn
              have HR := Lib.hid hV; have HFN := Lib.hid hfn
              clear hV hfn hz hMI hres
              go_wp2_with fail
              (with_reducible refine (HMU.out _).mono ?_)
              rintro _ _ ⟨rfl, rfl⟩
              go_wp2_with fail
              (with_reducible refine (HSH.out _).mono ?_)
              rintro _ w3 ⟨rfl, b3⟩
              have t3 := nx hbw b3
              obtain ⟨⟨c0, c1⟩, -⟩ := HK.out _ t3
              go_wp2_with fail
              (with_reducible refine (HFN.out _).mono ?_)
              rintro _ w4 ⟨rfl, b4⟩
              clear c0 c1
              obtain ⟨-, s0, s1, sf0, sf1⟩ := HK.out _ (nx t3 b4)
              go_wp2_with fail
              refine bodyPost_ret (v := .tuple #[.agg #[.int .i64 A, .int .i64 B], .bool C]) (by simp [results, Tryd.results7, go_sem, s0, s1]) rfl ⟨by rw [HR.out], ?_⟩
              iterate 2 refine Below.setCell ?_ (by dsimp only; omega) _
              exact nx bb (nx t3 b4)
end Go.Proofs.YtcmdchhhdcdpnaaDoor
