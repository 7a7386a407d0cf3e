/- NearFlt of the reference: the walk. -/
import Derived.Test.YtcmdchhhdcdpnaaDoorCNearS
import Derived.Deep.DeepCutAuto
namespace Go.Proofs.YtcmdchhhdcdpnaaDoor
open Go.Deep Go.ChangeShapes Go.WideShapes Go.ChangeAt Go.RowKit
open Go.ChangeMaps (open_string shut_string)

/-- The sign. -/
def sgn (n : Int) : Int := if n < 0 then -1 else 1

theorem newF_false {m e : Int} {A B : Int} (h : newF m e = (A, B, false)) : A = 0 ∧ B = 0 := by
  unfold newF at h
  split at h
  · split at h
    · simp at h
    · split at h
      · simp at h
      · simp at h; exact ⟨h.1.symm, h.2.symm⟩
  · simp at h; exact ⟨h.1.symm, h.2.symm⟩

theorem restB_cmp {r d : Nat} (h : 0 ≤ cmpH r d) : restB r d = true := by
  unfold cmpH at h
  unfold restB
  by_cases h1 : d < 2 * r
  · rw [if_neg (by omega)]
  · rw [if_neg h1] at h
    by_cases h2 : 2 * r = d
    · rw [if_neg (by omega)]
    · rw [if_neg h2] at h; omega
theorem big_facts {N P k : Nat} (hp : 1 ≤ P) : cmpH (rE N P ((k : Int) + 1)) (P * 2 ^ (k + 1)) = if 2 ^ k < N / P % 2 ^ (k + 1) ∨ (N / P % 2 ^ (k + 1) = 2 ^ k ∧ 0 < N % P) then 1 else if N / P % 2 ^ (k + 1) = 2 ^ k then 0 else -1 := by
  have e := rE_big N P (k + 1) (by omega)
  rw [show (((k + 1 : Nat)) : Int) = (k : Int) + 1 by omega] at e
  rw [e]
  have hf := Nat.mod_lt N (show 0 < P by omega)
  have hD : P * 2 ^ (k + 1) = 2 * (2 ^ k * P) := by rw [Nat.pow_succ, Nat.mul_comm P, Nat.mul_assoc, Nat.mul_comm 2 P, ← Nat.mul_assoc, Nat.mul_comm]
  rw [hD]
  generalize N / P % 2 ^ (k + 1) = L at *
  generalize (2 : Nat) ^ k = T at *
  generalize N % P = F at *
  clear e hD
  unfold cmpH
  rcases Nat.lt_trichotomy L T with h | h | h
  · have h1 := Nat.mul_le_mul_right P (show L + 1 ≤ T by omega)
    rw [Nat.add_mul, Nat.one_mul] at h1
    rw [if_neg (by omega), if_neg (by omega), if_neg (by omega), if_neg (by omega)]
  · subst h
    by_cases hF : 0 < F
    · rw [if_pos (by omega), if_pos (.inr ⟨rfl, hF⟩)]
    · rw [if_neg (by omega), if_pos (by omega), if_neg (by omega), if_pos rfl]
  · have h1 := Nat.mul_le_mul_right P (show T + 1 ≤ L by omega)
    rw [Nat.add_mul, Nat.one_mul] at h1
    rw [if_pos (by omega), if_pos (.inl h)]

set_option maxRecDepth 100000 in
set_option maxHeartbeats 4000000 in
theorem nearFlt_spec (n x : Int) (w : World) (h1 : -9223372036854775808 ≤ n) (h2 : n ≤ 9223372036854775807) :
    Calls Tryd.prog 5 #[.agg #[.int .i64 n, .int .i64 x]] w fun en w' => en = .returned (.tuple #[.agg #[.int .i64 (nearF n x).1, .int .i64 (nearF n x).2.1], .bool (nearF n x).2.2]) ∧ Below w.heap.size w w' := by
  have H1 := Lib.hid (fun w1 => decOk_spec n x w1 h1 h2)
  cases hk : decOkB n x with
  | false =>
    rw [nearF_no hk]
    rw [hk] at H1
    go_enter Tryd.func5, Tryd.ntmps5
    go_wp2_with fail
    refine (H1.out _).mono ?_
    rintro _ w1 ⟨rfl, b1⟩
    obtain ⟨r0, r1, rf⟩ := two_num b1 (second_block2 w _ _)
    have rf0 := rf 0; have rf1 := rf 1; clear rf
    have hsz := b1.size
    simp only [World.size_alloc] at hsz
    have BB := Lib.hid b1; clear b1
    go_wp2_with fail
    refine bodyPost_ret (v := .tuple #[.agg #[.int .i64 0, .int .i64 0], .bool false]) (by simp [results, Tryd.results5, go_sem, r0, r1]) rfl ⟨rfl, ?_⟩
    iterate 2 refine Below.setCell ?_ (by dsimp only; omega) _
    exact nx (below2 _ _ _) BB.out
  | true =>
    obtain ⟨a1, a2, a3, a4⟩ := decOk_range hk
    rw [hk] at H1
    obtain ⟨P, hP⟩ : ∃ P : Nat, P = 10 ^ (-x).toNat := ⟨_, rfl⟩
    have hPI : (10 : Int) ^ (-x).toNat = (P : Int) := by rw [hP, Int.natCast_pow]; rfl
    obtain ⟨P', Q', e1, e2, hPQ, p1, q1, p2, q2⟩ := pow_pair a1 a2
    have hPP : (P : Int) = P' := hPI.symm.trans e1
    have hP1 : 1 ≤ P := by omega
    have hP2 : P ≤ 10000000000000000 := by omega
    obtain ⟨N, hN⟩ : ∃ N : Nat, N = n.natAbs := ⟨_, rfl⟩
    have hN1 : N < 100000000000000000 := by omega
    have hwx : IntKind.i64.wrap (-x) = -x := IntWalk.i64_in _ (by omega)
    have c1 := fun w => pow_spec 10 (-x) w
    rw [powF_ten (by omega) (by omega), hPI] at c1
    have C1 := Lib.hid c1
    have HOF := Lib.hid (fun (e : Int) (hq : qE N P e ≤ 65535) (g1 : -16 ≤ e) (g2 : e < 54) (g3 : e = -16 ∨ 65535 < qE N P (e - 1)) => nearF_of hk hN hP hq g1 g2 g3)
    have hbd : ∀ E : Int, -16 ≤ E → (E = -16 ∨ 65535 < qE N P (E - 1)) → E ≤ 41 ∧ 1 ≤ P * 2 ^ E.toNat ∧ P * 2 ^ E.toNat ≤ 10000000000000000 := fun E g1 g2 => near_bounds hN1 hP1 hP2 g1 g2
    have HBD := Lib.hid hbd
    have HNn := Lib.hid hN
    clear hbd c1 e1 e2 hPQ p1 q1 p2 q2 hPP hPI hk hP hN
    have F := Lib.hid (first_block w (.cells #[.int .i64 n, .int .i64 x] 28) (.cells #[.int .i64 0, .int .i64 0] 25))
    have G := Lib.hid (second_block2 w (.cells #[.int .i64 n, .int .i64 x] 28) (.cells #[.int .i64 0, .int .i64 0] 25))
    have bb := below2 w (.cells #[.int .i64 n, .int .i64 x] 28) (.cells #[.int .i64 0, .int .i64 0] 25)
    obtain ⟨W0, hW0⟩ : ∃ W0, W0 = (w.alloc (.cells #[.int .i64 n, .int .i64 x] 28)).alloc (.cells #[.int .i64 0, .int .i64 0] 25) := ⟨_, rfl⟩
    have HK : Hid (∀ w1, Below W0.heap.size W0 w1 → (w1.cell? ⟨w.heap.size, 0, none⟩ = some (.int .i64 n) ∧ w1.cell? ⟨w.heap.size, 1, none⟩ = some (.int .i64 x)) ∧ (w1.cell? ⟨w.heap.size + 1, 0, none⟩ = some (.int .i64 0) ∧ w1.cell? ⟨w.heap.size + 1, 1, none⟩ = some (.int .i64 0) ∧ w1.frozen? ⟨w.heap.size + 1, 0, none⟩ = false ∧ w1.frozen? ⟨w.heap.size + 1, 1, none⟩ = false)) :=
      Lib.hid (fun w1 hb => by
        subst hW0
        obtain ⟨c0, c1, _⟩ := two_num hb F.out
        obtain ⟨d0, d1, df⟩ := two_num hb G.out
        exact ⟨⟨c0, c1⟩, d0, d1, df 0, df 1⟩)
    rw [← hW0] at bb
    have HW := Lib.hid hW0
    clear hW0 F G
    obtain ⟨sg, hsg⟩ : ∃ sg, sg = sgn n := ⟨_, rfl⟩
    have hsgr : sg = 1 ∨ sg = -1 := by rw [hsg]; unfold sgn; split <;> simp
    have HSG := Lib.hid hsg
    clear hsg
    go_enter Tryd.func5, Tryd.ntmps5
    go_wp2_with fail
    rw [← HW.out]
    refine (H1.out _).mono ?_
    rintro _ w1 ⟨rfl, b1⟩
    obtain ⟨⟨c0, c1⟩, -⟩ := HK.out _ b1
    go_upto_if 26 with fail
    go_cut [4, 5] (fun s4 s5 wx => s4 = .int .i64 N ∧ s5 = .int .i64 sg ∧ wx = w1)
    case first =>
      by_cases hn : n < 0
      · have e1 : sg = -1 := by rw [HSG.out]; exact if_pos hn
        have e2 : -n = (N : Int) := by have := HNn.out; omega
        have hdn : decide (n < 0) = true := decide_eq_true hn
        have hwn : IntKind.i64.wrap (-n) = (N : Int) := by rw [e2]; exact IntWalk.i64_in _ (by omega)
        have E1 := Lib.hid e1; have E2 := Lib.hid e2
        clear e1 e2
        go_wp2_with fail
        go_meet
        case rel => exact ⟨by first | rfl | rw [E2.out], by rw [E1.out], rfl⟩
      · have e1 : sg = 1 := by rw [HSG.out]; exact if_neg hn
        have e2 : n = (N : Int) := by have := HNn.out; omega
        have hdn : decide (n < 0) = false := decide_eq_false hn
        have E1 := Lib.hid e1; have E2 := Lib.hid e2
        clear e1 e2
        go_wp2_with fail
        go_meet
        case rel => exact ⟨by rw [← E2.out], by rw [E1.out], rfl⟩
    case rest =>
      obtain ⟨rfl, rfl, rfl⟩ := hcut
      have hp0 : ¬ P = 0 := by omega
      have hpp : ¬ (P : Int) = 0 := by omega
      obtain ⟨Vn, hVn⟩ : ∃ z, z = N / P := ⟨_, rfl⟩
      have hVb : Vn < 100000000000000000 := by rw [hVn]; exact Nat.lt_of_le_of_lt (Nat.div_le_self _ _) hN1
      obtain ⟨V, hV⟩ : ∃ z : Int, z = (Vn : Int) := ⟨_, rfl⟩
      have k1 : (N : Int) / (P : Int) = V := by rw [hV, hVn]; exact (Int.natCast_ediv _ _).symm
      have hqb : ∀ K : Nat, qE N P (K : Int) = Vn / 2 ^ K := fun K => by rw [qE_big, hVn]
      have kw : IntKind.i64.wrap V = V := IntWalk.i64_in _ (by omega)
      have hshl : ∀ K : Nat, K ≤ 41 → ∃ Z : Int, IntKind.i64.wrap (65536 * 2 ^ K) = Z ∧ (Z ≤ V ↔ ¬ qE N P (K : Int) ≤ 65535) := by
        intro K hK
        have hz1 : 2 ^ K ≤ 2199023255552 := by
          have := Nat.pow_le_pow_right (n := 2) (by decide) hK
          have e41 : (2 : Nat) ^ 41 = 2199023255552 := by decide
          rw [e41] at this; exact this
        have hz0 : 0 < 2 ^ K := Nat.pow_pos (by decide)
        refine ⟨((65536 * 2 ^ K : Nat) : Int), ?_, ?_⟩
        · rw [Int.natCast_mul, Int.natCast_pow]
          have := IntWalk.i64_in ((65536 * 2 ^ K : Nat) : Int) (by omega)
          rw [Int.natCast_mul, Int.natCast_pow] at this
          exact this
        · rw [hV, hqb K]
          have := Nat.div_lt_iff_lt_mul (x := Vn) (y := 65536) hz0
          omega
      have HV := Lib.hid (⟨hV, hVn⟩ : V = (Vn : Int) ∧ Vn = N / P); have HQB := Lib.hid hqb; have HSHL := Lib.hid hshl
      clear hV hVn hqb hshl c0 H1
      have hw1 := b1
      obtain ⟨⟨c0, c1⟩, -⟩ := HK.out _ b1
      go_wp2_with fail
      refine (C1.out _).mono ?_
      rintro _ _ ⟨rfl, rfl⟩
      go_wp2_with fail
      clear c0 c1 hw1 h1 h2 a1 a2 hwx C1
      go_loopw [7] (fun e wr => ∃ K : Nat, e = .int .i64 K ∧ K ≤ 41 ∧ Hid ((K : Int) = 0 ∨ 65535 < qE N P ((K : Int) - 1)) ∧ Below W0.heap.size W0 wr) (fun e _ => (60 - intOf e).toNat)
      case atStart => exact ⟨0, rfl, by omega, Lib.hid (.inl rfl), b1⟩
      case round =>
        clear b1
        obtain ⟨K, rfl, hK, hQ, hbw⟩ := hrel
        obtain ⟨Z, z1, z2⟩ := HSHL.out K hK
        by_cases hz : Z ≤ V
        · have hq := z2.1 hz
          have hq' : 65535 < qE N P (((K : Int) + 1) - 1) := by rw [show (K : Int) + 1 - 1 = (K : Int) by omega]; omega
          have hK1 := (HBD.out ((K : Int) + 1) (by omega) (.inr hq')).1
          have HQ' := Lib.hid hq'
          have hzd : decide (Z ≤ V) = true := decide_eq_true hz
          clear z2 hq hq'
          go_wp2_with fail
          go_quiet (fail)
          go_wp2_with fail
          go_roundw
          case rel => exact ⟨K + 1, by go_num, by omega, Lib.hid (.inr HQ'.out), drewN_below hbw _⟩
          case measure => simp [intOf]; omega
        · have HQ0 := Lib.hid (show qE N P (K : Int) ≤ 65535 by have := mt z2.2 hz; omega)
          have hzd : decide (Z ≤ V) = false := decide_eq_false hz
          clear z2
          go_wp2_with fail
          go_quiet (fail)
          have hbw2 := drewN_below hbw nq
          clear hbw
          generalize wr.drewN nq = wq at *
          clear z1 hz hzd
          go_upto_if 42 with fail
          have hKI2 : (K : Int) ≤ 41 ∧ 0 ≤ (K : Int) := by omega
          generalize (K : Int) = KI at *
          clear hK
          go_cut [7] (fun s7 wx => ∃ E : Int, s7 = .int .i64 E ∧ wx = wq ∧ -16 ≤ E ∧ E ≤ 41 ∧ Hid (qE N P E ≤ 65535 ∧ (E = -16 ∨ 65535 < qE N P (E - 1))))
          case first =>
            by_cases hK0 : KI = 0
            · subst hK0
              go_wp2_with fail
              go_loop [7] (fun e => ∃ s : Nat, e = .int .i64 (-(s : Int)) ∧ s ≤ 16 ∧ Hid (qE N P (-(s : Int)) ≤ 65535)) (fun e => (20 + intOf e).toNat)
              case atStart => exact ⟨0, rfl, by omega, Lib.hid HQ0.out⟩
              case round =>
                obtain ⟨s, rfl, hs, hqs⟩ := hrel
                by_cases h16 : s < 16
                · have hb : N * 2 ^ (s + 1) / P ≤ 131071 := by
                    have e := qE_succ N P (-((s + 1 : Nat) : Int))
                    rw [show -((s + 1 : Nat) : Int) + 1 = -(s : Int) by omega, qE_low N P (s + 1)] at e
                    have := hqs.out
                    omega
                  have hsc := fun w => scaled_c N P (s + 1) w hN1 hP1 hP2 (by omega) (by omega)
                  rw [show ((s + 1 : Nat) : Int) = 1 + (s : Int) by omega, ← qE_low N P (s + 1)] at hsc
                  rw [← qE_low N P (s + 1)] at hb
                  obtain ⟨Qn, hQn⟩ : ∃ z, z = qE N P (-((s + 1 : Nat) : Int)) := ⟨_, rfl⟩
                  rw [← hQn] at hsc hb
                  obtain ⟨Q1, hQ1⟩ : ∃ z : Int, z = (Qn : Int) := ⟨_, rfl⟩
                  rw [← hQ1] at hsc
                  have HSC := Lib.hid hsc
                  have h16d : decide (-(16 : Int) < -(s : Int)) = true := decide_eq_true (by omega)
                  have h16e : (s : Int) < 16 := by omega
                  have hwa : IntKind.i64.wrap (1 + (s : Int)) = 1 + (s : Int) := IntWalk.i64_in _ (by omega)
                  by_cases hbig : 65535 < Q1
                  · have hH : Hid (qE N P (-(s : Int)) ≤ 65535 ∧ (-(s : Int) = -16 ∨ 65535 < qE N P (-(s : Int) - 1))) := Lib.hid ⟨hqs.out, .inr (by rw [show -(s : Int) - 1 = -((s + 1 : Nat) : Int) by omega, ← hQn]; omega)⟩
                    have hbd : decide (65535 < Q1) = true := decide_eq_true hbig
                    clear hsc hb hQn hQ1 hqs
                    go_wp2_with fail
                    (with_reducible refine (HSC.out _).mono ?_)
                    rintro _ _ ⟨rfl, rfl⟩
                    go_wp2_with fail
                    go_meet
                    case rel => exact ⟨-(s : Int), rfl, rfl, by omega, by omega, hH⟩
                  · have hH : Hid (qE N P (-((s + 1 : Nat) : Int)) ≤ 65535) := Lib.hid (by rw [← hQn]; omega)
                    have hbd : decide (65535 < Q1) = false := decide_eq_false hbig
                    have hws : IntKind.i64.wrap (-(s : Int) - 1) = -((s + 1 : Nat) : Int) := by rw [show -(s : Int) - 1 = -((s + 1 : Nat) : Int) by omega]; exact IntWalk.i64_in _ (by omega)
                    have HWS := Lib.hid (show -(s : Int) - 1 = -((s + 1 : Nat) : Int) by omega)
                    clear hsc hb hQn hQ1 hqs hws
                    go_wp2_with fail
                    (with_reducible refine (HSC.out _).mono ?_)
                    rintro _ _ ⟨rfl, rfl⟩
                    go_wp2_with fail
                    go_round
                    case rel => exact ⟨s + 1, by rw [HWS.out], by omega, hH⟩
                    case measure => simp [intOf]; omega
                · obtain rfl : s = 16 := by omega
                  have hH : Hid (qE N P (-16) ≤ 65535) := Lib.hid hqs.out
                  clear hqs
                  go_wp2_with fail
                  go_meet
                  case rel => exact ⟨-16, rfl, rfl, by omega, by omega, Lib.hid ⟨hH.out, .inl rfl⟩⟩
            · have hH : Hid (qE N P KI ≤ 65535 ∧ (KI = -16 ∨ 65535 < qE N P (KI - 1))) := Lib.hid ⟨HQ0.out, .inr (hQ.out.resolve_left hK0)⟩
              have hKd : (KI == 0) = false := by simpa using hK0
              clear HQ0 hQ
              go_wp2_with fail
              go_meet
              case rel => exact ⟨KI, rfl, rfl, by omega, by omega, hH⟩
          case rest =>
            obtain ⟨E, rfl, rfl, hE1, hE2, hH⟩ := hcut
            clear HQ0 hQ HSHL hKI2
            go_upto_if 59 with fail
            go_cut [11, 12, 13] (fun s11 s12 s13 wx => ∃ (qi c : Int) (rb : Bool), s11 = .int .i64 qi ∧ s12 = .int .i64 c ∧ s13 = .bool rb ∧ wx = wc ∧ 0 ≤ qi ∧ qi ≤ 65535 ∧ Hid (qi = ((qE N P E : Nat) : Int) ∧ c = cmpH (rE N P E) (P * 2 ^ E.toNat)) ∧ (0 ≤ c → rb = true))
            case first =>
              by_cases hE0 : E ≤ 0
              · obtain ⟨s, rfl⟩ : ∃ s : Nat, E = -(s : Int) := ⟨(-E).toNat, by omega⟩
                have hqs := hH.out.1
                rw [qE_low N P s] at hqs
                have hsc := fun w => scaled_c N P s w hN1 hP1 hP2 (by omega) (by omega)
                rw [← qE_low N P s, ← rE_low N P s] at hsc
                rw [← qE_low N P s] at hqs
                have hcr := fun h => restB_cmp (r := rE N P (-(s : Int))) (d := P) h
                have hc : cmpH (rE N P (-(s : Int))) (P * 2 ^ (-(s : Int)).toNat) = cmpH (rE N P (-(s : Int))) P := by rw [show (-(s : Int)).toNat = 0 by omega, Nat.pow_zero, Nat.mul_one]
                obtain ⟨qi, hqi⟩ : ∃ z, z = ((qE N P (-(s : Int)) : Nat) : Int) := ⟨_, rfl⟩
                obtain ⟨c, hc2⟩ : ∃ z, z = cmpH (rE N P (-(s : Int))) P := ⟨_, rfl⟩
                obtain ⟨rb, hrb⟩ : ∃ z, z = restB (rE N P (-(s : Int))) P := ⟨_, rfl⟩
                rw [← hqi, ← hc2, ← hrb] at hsc
                rw [← hc2, ← hrb] at hcr
                have HSC := Lib.hid hsc; have HCR := Lib.hid hcr; have HE := Lib.hid (⟨hqi, hc2.trans hc.symm⟩ : _ ∧ _)
                have hb1 : 0 ≤ qi ∧ qi ≤ 65535 := by omega
                have hle : decide (-(s : Int) ≤ 0) = true := decide_eq_true (by omega)
                clear hsc hcr hqi hc2 hrb hqs hc hH
                go_wp2_with fail
                (with_reducible refine (HSC.out _).mono ?_)
                rintro _ _ ⟨rfl, rfl⟩
                go_wp2_with fail
                go_meet
                case rel => exact ⟨qi, c, rb, rfl, rfl, rfl, rfl, hb1.1, hb1.2, HE, HCR.out⟩
              · obtain ⟨k, rfl⟩ : ∃ k : Nat, E = (k : Int) + 1 := ⟨(E - 1).toNat, by omega⟩
                have hk40 : k ≤ 40 := by omega
                have hbf := big_facts (N := N) (P := P) (k := k) hP1
                have hqe : qE N P ((k : Int) + 1) = Vn / 2 ^ (k + 1) := by
                  have := HQB.out (k + 1)
                  rw [show (((k + 1 : Nat)) : Int) = (k : Int) + 1 by omega] at this
                  exact this
                have hqle := hH.out.1
                obtain ⟨hV1, hV2⟩ := HV.out
                rw [hqe] at hqle
                rw [← hV2] at hbf
                have hT1 : 2 ^ k ≤ 1099511627776 := by
                  have := Nat.pow_le_pow_right (n := 2) (by decide) hk40
                  have e40 : (2 : Nat) ^ 40 = 1099511627776 := by decide
                  rw [e40] at this; exact this
                have hT0 : 0 < 2 ^ k := Nat.pow_pos (by decide)
                have hT2 : 2 ^ (k + 1) = 2 * 2 ^ k := by rw [Nat.pow_succ, Nat.mul_comm]
                have hdm := Nat.div_add_mod Vn (2 ^ (k + 1))
                have hml := Nat.mod_lt Vn (show 0 < 2 ^ (k + 1) by omega)
                have f1 : V / 2 ^ (k + 1) = ((Vn / 2 ^ (k + 1) : Nat) : Int) := by rw [hV1, Int.natCast_ediv, Int.natCast_pow]; rfl
                have f2' : ((Vn / 2 ^ (k + 1) : Nat) : Int) * 2 ^ (k + 1) = ((2 ^ (k + 1) * (Vn / 2 ^ (k + 1)) : Nat) : Int) := by rw [Int.natCast_mul, Int.natCast_pow, Int.mul_comm]; rfl
                have f4' : IntKind.i64.wrap (2 ^ k) = ((2 ^ k : Nat) : Int) := by
                  have := IntWalk.i64_in ((2 ^ k : Nat) : Int) (by omega)
                  rw [Int.natCast_pow] at this
                  rw [Int.natCast_pow]; exact this
                have htn : ((k : Int) + 1).toNat = k + 1 := by omega
                have f5 : (N : Int) % (P : Int) = ((N % P : Nat) : Int) := (Int.natCast_emod _ _).symm
                obtain ⟨FRn, hFRn⟩ : ∃ z, z = N % P := ⟨_, rfl⟩
                obtain ⟨Ln, hLn⟩ : ∃ z, z = Vn % 2 ^ (k + 1) := ⟨_, rfl⟩
                obtain ⟨Qn, hQn⟩ : ∃ z, z = Vn / 2 ^ (k + 1) := ⟨_, rfl⟩
                obtain ⟨Mn, hMn⟩ : ∃ z, z = 2 ^ (k + 1) * (Vn / 2 ^ (k + 1)) := ⟨_, rfl⟩
                rw [← hFRn, ← hLn] at hbf
                rw [← hMn, ← hLn] at hdm
                rw [← hMn, ← hQn] at f2'
                rw [← hLn] at hml
                rw [← hQn] at f1 hqle hqe
                rw [← hFRn] at f5
                obtain ⟨Tn, hTn⟩ : ∃ z, z = 2 ^ k := ⟨_, rfl⟩
                rw [← hTn] at hbf hT1 hT0 hT2 f4'
                rw [hT2] at hml
                obtain ⟨qi, hqi⟩ : ∃ z : Int, z = (Qn : Int) := ⟨_, rfl⟩
                obtain ⟨Mz, hMz⟩ : ∃ z : Int, z = (Mn : Int) := ⟨_, rfl⟩
                obtain ⟨LI, hLI⟩ : ∃ z : Int, z = (Ln : Int) := ⟨_, rfl⟩
                obtain ⟨TI, hTI⟩ : ∃ z : Int, z = (Tn : Int) := ⟨_, rfl⟩
                obtain ⟨FI, hFI⟩ : ∃ z : Int, z = (FRn : Int) := ⟨_, rfl⟩
                rw [← hqi] at f1
                rw [← hqi, ← hMz] at f2'
                rw [← hTI] at f4'
                rw [← hFI] at f5
                have f2 : IntKind.i64.wrap (qi * 2 ^ (k + 1)) = Mz := by rw [f2']; exact IntWalk.i64_in _ (by omega)
                have f3 : V - Mz = LI := by omega
                have f3' : IntKind.i64.wrap LI = LI := IntWalk.i64_in _ (by omega)
                have f6 : (N : Int).tmod (P : Int) = FI := by rw [Int.tmod_eq_emod_of_nonneg (by omega)]; exact f5
                have hq1 : 0 ≤ qi := by omega
                have hq2 : qi ≤ 65535 := by omega
                have hl0 : 0 ≤ LI := by omega
                have ht0 : 1 ≤ TI := by omega
                have hf0 : 0 ≤ FI := by omega
                have htt : (((k : Int) + 1)).toNat = k + 1 := htn
                have HQE := Lib.hid (show qi = ((qE N P ((k : Int) + 1) : Nat) : Int) by rw [hqe, hqi])
                have hkd : decide ((k : Int) + 1 ≤ 0) = false := decide_eq_false (by omega)
                have hway : ∃ c : Int, Hid (c = cmpH (rE N P ((k : Int) + 1)) (P * 2 ^ ((k : Int) + 1).toNat)) ∧ ((TI < LI ∧ c = 1) ∨ (LI = TI ∧ 0 < FI ∧ c = 1) ∨ (LI = TI ∧ FI = 0 ∧ c = 0) ∨ (LI < TI ∧ c = -1)) := by
                  refine ⟨_, Lib.hid rfl, ?_⟩
                  rw [htn, hbf]
                  split
                  · rename_i h; omega
                  · split
                    · rename_i h; omega
                    · rename_i h; omega
                obtain ⟨c, HC, hway⟩ := hway
                clear hbf hqe hqle hV1 hV2 hT1 hT0 hT2 hdm hml f2' htn hFRn hLn hQn hMn hTn hqi hMz hLI hTI hFI hH
                rcases hway with ⟨g1, rfl⟩ | ⟨rfl, g1, rfl⟩ | ⟨rfl, rfl, rfl⟩ | ⟨g1, rfl⟩
                · have x1 : decide (TI < LI) = true := decide_eq_true g1
                  have x2 : decide (0 < LI) = true := decide_eq_true (by omega)
                  go_wp2_with fail
                  go_meet
                  case rel => exact ⟨qi, 1, true, rfl, rfl, rfl, rfl, hq1, hq2, Lib.hid ⟨HQE.out, HC.out⟩, fun _ => rfl⟩
                · have x1 : decide (LI < LI) = false := by simp
                  have x2 : decide (0 < LI) = true := decide_eq_true (by omega)
                  have x3 : decide (0 < FI) = true := decide_eq_true g1
                  go_wp2_with fail
                  go_meet
                  case rel => exact ⟨qi, 1, true, rfl, rfl, rfl, rfl, hq1, hq2, Lib.hid ⟨HQE.out, HC.out⟩, fun _ => rfl⟩
                · have x1 : decide (LI < LI) = false := by simp
                  have x2 : decide (0 < LI) = true := decide_eq_true (by omega)
                  have x3 : decide ((0 : Int) < 0) = false := by simp
                  go_wp2_with fail
                  go_meet
                  case rel => exact ⟨qi, 0, true, rfl, rfl, rfl, rfl, hq1, hq2, Lib.hid ⟨HQE.out, HC.out⟩, fun _ => rfl⟩
                · have x1 : decide (TI < LI) = false := decide_eq_false (by omega)
                  have x4 : (LI == TI) = false := by simp; omega
                  by_cases hl : 0 < LI
                  · have x2 : decide (0 < LI) = true := decide_eq_true hl
                    go_wp2_with fail
                    go_meet
                    case rel => exact ⟨qi, (-1), true, rfl, rfl, rfl, rfl, hq1, hq2, Lib.hid ⟨HQE.out, HC.out⟩, fun _ => rfl⟩
                  · have x2 : decide (0 < LI) = false := decide_eq_false hl
                    by_cases hf : 0 < FI
                    · have x3 : decide (0 < FI) = true := decide_eq_true hf
                      go_wp2_with fail
                      go_meet
                      case rel => exact ⟨qi, (-1), true, rfl, rfl, rfl, rfl, hq1, hq2, Lib.hid ⟨HQE.out, HC.out⟩, fun _ => rfl⟩
                    · have x3 : decide (0 < FI) = false := decide_eq_false hf
                      go_wp2_with fail
                      go_meet
                      case rel => exact ⟨qi, (-1), false, rfl, rfl, rfl, rfl, hq1, hq2, Lib.hid ⟨HQE.out, HC.out⟩, fun h => absurd h (by decide)⟩
            case rest =>
              obtain ⟨qi, c, rb, rfl, rfl, rfl, rfl, hq1, hq2, hR, hrb⟩ := hcut
              clear k1 kw hVb c1 HV HQB
              go_upto_region 31 with fail
              go_cut [123] (fun s123 wx => ∃ B : Bool, s123 = .bool B ∧ wx = wc ∧ Hid ((if B = true then qi + 1 else qi) = ((bump (qE N P E) (rE N P E) (P * 2 ^ E.toNat) : Nat) : Int)))
              case first =>
                have hb := bump_cmp (q := qE N P E) (r := rE N P E) (d := P * 2 ^ E.toNat)
                obtain ⟨hr1, hr2⟩ := hR.out
                rw [← hr2] at hb
                have hw : (((0 < c ∨ (c = 0 ∧ qi % 2 = 1)) ∧ Hid (qi + 1 = ((bump (qE N P E) (rE N P E) (P * 2 ^ E.toNat) : Nat) : Int))) ∨ (¬ (0 < c ∨ (c = 0 ∧ qi % 2 = 1)) ∧ Hid (qi = ((bump (qE N P E) (rE N P E) (P * 2 ^ E.toNat) : Nat) : Int)))) := by
                  by_cases hcc : 0 < c ∨ (c = 0 ∧ qi % 2 = 1)
                  · rw [if_pos (by omega)] at hb
                    exact .inl ⟨hcc, Lib.hid (by rw [hb]; omega)⟩
                  · rw [if_neg (by omega)] at hb
                    exact .inr ⟨hcc, Lib.hid (by rw [hb]; omega)⟩
                clear hb hr1 hr2 hR hH
                have hc3 : 0 < c ∨ (c = 0 ∧ qi % 2 = 1) ∨ (c = 0 ∧ qi % 2 = 0) ∨ c < 0 := by omega
                rcases hc3 with h | ⟨rfl, h⟩ | ⟨rfl, h⟩ | h
                · have HB : Hid (qi + 1 = ((bump (qE N P E) (rE N P E) (P * 2 ^ E.toNat) : Nat) : Int)) := by
                    rcases hw with ⟨_, h2⟩ | ⟨h2, _⟩
                    · exact h2
                    · exact absurd (.inl h) h2
                  obtain rfl := hrb (by omega)
                  have x1 : decide (0 < c) = true := decide_eq_true h
                  clear hw hrb
                  go_wp2_with fail
                  go_meet
                  case rel => exact ⟨true, rfl, rfl, Lib.hid (by rw [if_pos rfl]; exact HB.out)⟩
                · have HB : Hid (qi + 1 = ((bump (qE N P E) (rE N P E) (P * 2 ^ E.toNat) : Nat) : Int)) := by
                    rcases hw with ⟨_, h2⟩ | ⟨h2, _⟩
                    · exact h2
                    · exact absurd (.inr ⟨rfl, h⟩) h2
                  obtain rfl := hrb (by omega)
                  have x3 : (qi % 2 == 1) = true := by rw [h]; rfl
                  clear hw hrb
                  go_wp2_with fail
                  go_meet
                  case rel => exact ⟨true, rfl, rfl, Lib.hid (by rw [if_pos rfl]; exact HB.out)⟩
                · have HB : Hid (qi = ((bump (qE N P E) (rE N P E) (P * 2 ^ E.toNat) : Nat) : Int)) := by
                    rcases hw with ⟨h2, _⟩ | ⟨_, h2⟩
                    · exfalso; omega
                    · exact h2
                  obtain rfl := hrb (by omega)
                  have x3 : (qi % 2 == 1) = false := by rw [h]; rfl
                  clear hw hrb
                  go_wp2_with fail
                  go_meet
                  case rel => exact ⟨false, rfl, rfl, Lib.hid (by rw [if_neg (by simp)]; exact HB.out)⟩
                · have HB : Hid (qi = ((bump (qE N P E) (rE N P E) (P * 2 ^ E.toNat) : Nat) : Int)) := by
                    rcases hw with ⟨h2, _⟩ | ⟨_, h2⟩
                    · exfalso; omega
                    · exact h2
                  have x1 : decide (0 < c) = false := decide_eq_false (by omega)
                  have x2 : (c == 0) = false := by simp; omega
                  clear hw hrb
                  cases rb
                  · go_wp2_with fail
                    go_meet
                    case rel => exact ⟨false, rfl, rfl, Lib.hid (by rw [if_neg (by simp)]; exact HB.out)⟩
                  · go_wp2_with fail
                    go_meet
                    case rel => exact ⟨false, rfl, rfl, Lib.hid (by rw [if_neg (by simp)]; exact HB.out)⟩
              case rest =>
                obtain ⟨B, rfl, rfl, hB⟩ := hcut
                go_upto_if 123 with fail
                go_cut [11] (fun s11 wx => ∃ M : Int, s11 = .int .i64 M ∧ wx = wc ∧ 0 ≤ M ∧ M ≤ 65536 ∧ Hid (M = ((bump (qE N P E) (rE N P E) (P * 2 ^ E.toNat) : Nat) : Int)))
                case first =>
                  clear hrb hR
                  cases B
                  · have HB : Hid (qi = ((bump (qE N P E) (rE N P E) (P * 2 ^ E.toNat) : Nat) : Int)) := Lib.hid (by have := hB.out; rw [if_neg (by simp)] at this; exact this)
                    clear hB
                    go_wp2_with fail
                    go_meet
                    case rel => exact ⟨qi, rfl, rfl, by omega, by omega, HB⟩
                  · have HB : Hid (qi + 1 = ((bump (qE N P E) (rE N P E) (P * 2 ^ E.toNat) : Nat) : Int)) := Lib.hid (by have := hB.out; rw [if_pos rfl] at this; exact this)
                    clear hB
                    go_wp2_with fail
                    go_meet
                    case rel => exact ⟨qi + 1, rfl, rfl, by omega, by omega, HB⟩
                case rest =>
                  obtain ⟨M, rfl, rfl, hM1, hM2, hMb⟩ := hcut
                  have hmain : nearF n x = newF (if n < 0 then -M else M) E := by
                    have := HOF.out E hH.out.1 hE1 (by omega) hH.out.2
                    rw [← hMb.out] at this
                    exact this
                  have hmain2 : nearF n x = newF (sg * M) E := by
                    rw [hmain, HSG.out]
                    unfold sgn
                    split
                    · rw [Int.neg_mul, Int.one_mul]
                    · rw [Int.one_mul]
                  have hgreat : 30 < E → 32768 ≤ M := by
                    intro h30
                    have h2 := hH.out.2.resolve_left (by omega)
                    have e := qE_succ N P (E - 1)
                    rw [show E - 1 + 1 = E by omega] at e
                    have hle : qE N P E ≤ bump (qE N P E) (rE N P E) (P * 2 ^ E.toNat) := by
                      unfold bump; split <;> omega
                    have := hMb.out
                    omega
                  have HM := Lib.hid hmain2; have HGR := Lib.hid hgreat
                  clear hmain hmain2 hgreat hMb hB hR hrb hH HOF HBD
                  go_upto_if 127 with fail
                  go_cut [7, 11] (fun s7 s11 wx => ∃ M' E' : Int, s7 = .int .i64 E' ∧ s11 = .int .i64 M' ∧ wx = wc ∧ 0 ≤ M' ∧ M' ≤ 65536 ∧ -16 ≤ E' ∧ E' ≤ 42 ∧ Hid (nearF n x = newF (sg * M') E' ∧ (30 < E' → 32768 ≤ M')))
                  case first =>
                    by_cases h6 : M = 65536
                    · subst h6
                      have hH : Hid (nearF n x = newF (sg * 32768) (E + 1) ∧ (30 < E + 1 → (32768 : Int) ≤ 32768)) := by
                        refine Lib.hid ⟨?_, fun _ => Int.le_refl _⟩
                        rw [HM.out]
                        obtain ⟨a, b⟩ := newF_65536 E hE1 (by omega)
                        rcases hsgr with rfl | rfl
                        · exact a
                        · exact b
                      clear HM HGR
                      go_wp2_with fail
                      go_meet
                      case rel => exact ⟨32768, E + 1, rfl, rfl, rfl, by omega, by omega, by omega, by omega, hH⟩
                    · have h6d : (M == 65536) = false := by simpa using h6
                      have hH : Hid (nearF n x = newF (sg * M) E ∧ (30 < E → 32768 ≤ M)) := Lib.hid ⟨HM.out, HGR.out⟩
                      clear HM HGR
                      go_wp2_with fail
                      go_meet
                      case rel => exact ⟨M, E, rfl, rfl, rfl, by omega, by omega, by omega, by omega, hH⟩
                  case rest =>
                    obtain ⟨M', E', rfl, rfl, rfl, hm1, hm2, he1, he2, hZ⟩ := hcut
                    clear HM HGR
                    by_cases h30 : 30 < E'
                    · have hres : nearF n x = (0, 0, false) := by
                        have h32 := hZ.out.2 h30
                        rw [hZ.out.1]
                        refine newF_big ?_ (by omega)
                        rcases hsgr with rfl | rfl
                        · omega
                        · omega
                      have HR := Lib.hid hres
                      have h30d : decide (30 < E') = true := decide_eq_true h30
                      obtain ⟨-, s0, s1, sf0, sf1⟩ := HK.out _ hbw2
                      clear hres hZ
                      go_wp2_with fail
                      refine bodyPost_ret (v := .tuple #[.agg #[.int .i64 0, .int .i64 0], .bool false]) (by simp [results, Tryd.results5, go_sem, s0, s1]) rfl ⟨by rw [HR.out], ?_⟩
                      iterate 2 refine Below.setCell ?_ (by dsimp only; omega) _
                      exact nx bb hbw2
                    · have h30d : decide (30 < E') = false := decide_eq_false h30
                      have hwsg : IntKind.i64.wrap (sg * M') = sg * M' := by rcases hsgr with rfl | rfl <;> exact IntWalk.i64_in _ (by omega)
                      obtain ⟨⟨A, B2, C⟩, hz⟩ : ∃ z, newF (sg * M') E' = z := ⟨_, rfl⟩
                      have hfn := fun w => newF_spec (sg * M') E' w
                      have hV := hZ.out.1
                      rw [hz] at hV hfn
                      obtain ⟨MM, hMM⟩ : ∃ z, z = sg * M' := ⟨_, rfl⟩
                      rw [← hMM] at hfn hwsg hz
                      have HR := Lib.hid hV; have HFN := Lib.hid hfn; have HMM := Lib.hid hMM
                      have hsm : sg * M' = MM := hMM.symm
                      have HZZ := Lib.hid hz
                      clear hV hfn hz hZ hMM
                      go_wp2_with fail
                      (with_reducible refine (HFN.out _).mono ?_)
                      rintro _ w4 ⟨rfl, b4⟩
                      have d4 := nx b4 (below1 w4 (.cells #[.int .i64 A, .int .i64 B2] 25))
                      obtain ⟨k0, k1⟩ := box2 (Below.refl _ (w4.alloc (.cells #[.int .i64 A, .int .i64 B2] 25)))
                      obtain ⟨-, s0, s1, sf0, sf1⟩ := HK.out _ (nx hbw2 d4)
                      cases C with
                      | false =>
                        obtain ⟨rfl, rfl⟩ := newF_false HZZ.out
                        go_wp2_with fail
                        try (refine bodyPost_ret (v := .tuple #[.agg #[.int .i64 0, .int .i64 0], .bool false]) (by simp [results, Tryd.results5, go_sem, s0, s1]) rfl ⟨by rw [HR.out], ?_⟩
                             iterate 2 refine Below.setCell ?_ (by dsimp only; omega) _
                             exact nx bb (nx hbw2 d4))
                      | true =>
                        go_wp2_with fail
                        try (refine bodyPost_ret (v := .tuple #[.agg #[.int .i64 A, .int .i64 B2], .bool true]) (by simp [results, Tryd.results5, go_sem, s0, s1]) rfl ⟨by rw [HR.out], ?_⟩
                             iterate 2 refine Below.setCell ?_ (by dsimp only; omega) _
                             exact nx bb (nx hbw2 d4))
end Go.Proofs.YtcmdchhhdcdpnaaDoor
