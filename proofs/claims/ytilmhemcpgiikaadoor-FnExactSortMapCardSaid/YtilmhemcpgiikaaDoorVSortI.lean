/- SortMap of the program: pairs are exchanged with those ahead of them. -/
import Derived.Test.YtilmhemcpgiikaaDoorVSortE
import Derived.StillTailTactics
import Derived.BigRegion
import Derived.Deep.DeepCutAuto
namespace Go.Proofs.YtilmhemcpgiikaaDoor
open Go.Deep Go.ChangeShapes Go.WideShapes Go.ChangeAt Go.RowKit
open Go.ChangeMaps (open_string shut_string)

/-- The function value that is handed on. -/
abbrev lessV : Value := .func (.func 16) #[] #[]
set_option maxRecDepth 100000 in
set_option maxHeartbeats 20000000 in
theorem sortPairs_c (t : Tree) (w : World) (u : Value) (hL : LaidP w) (hcost : t.cost ≤ 1048576) (hu : TSl w u t.l) (hfit : Fits t.kind t.n t.x t.s) :
    Calls Tryd.prog 81 #[.agg #[.int .i64 t.kind, .int .i64 t.n, .int .i64 t.x, .string t.s, u], lessV] w (CopyP w (sortT t)) := by
  have hc := Tree.cost_eq t
  have hcl := costL_eq t.l
  have hlen : t.l.length ≤ 1048576 := by omega
  have LP := Lib.hid hL
  have HC := Lib.hid (fun w1 (hb : Below w.heap.size w w1) => copyVal_c t w1 u hcost (hu.kept hb) hfit)
  obtain ⟨a, cap, -, -, rfl, -⟩ := hu
  have HP := Lib.hid (fun w1 => isPaired_c t a cap w1 hlen)
  have hB := first_blocks w (.cells #[.int .i64 t.kind, .int .i64 t.n, .int .i64 t.x, .string t.s, .slice a t.l.length cap] 29) (.cells #[.int .i64 0, .int .i64 0, .int .i64 0, .string { data := #[] }, .slice none 0 0] 29)
  have HB1 := Lib.hid hB.1; have HB2 := Lib.hid hB.2
  have HW := Lib.hid (vbelow2 w (.cells #[.int .i64 t.kind, .int .i64 t.n, .int .i64 t.x, .string t.s, .slice a t.l.length cap] 29) (.cells #[.int .i64 0, .int .i64 0, .int .i64 0, .string { data := #[] }, .slice none 0 0] 29))
  clear hL hcost hfit hc hcl hB
  cases hp : pairedB t with
  | false =>
    have hS : sortT t = t := by unfold sortT; rw [hp]; rfl
    rw [hS]
    rw [hp] at HP
    clear hp hS
    go_enter Tryd.func81, Tryd.ntmps81
    go_wp2_with fail
    refine (HC.out _ HW.out).mono ?_
    rintro _ w1 ⟨a1, n1, c1, rfl, ho, b1⟩
    have XV1 := Lib.hid (bx_below HB1.out b1); have XR1 := Lib.hid (bx_below HB2.out b1)
    have HO := Lib.hid ho; clear ho
    have hs1 := b1.size
    simp only [World.size_alloc] at hs1
    have BW1 := Lib.hid (vnx HW.out b1); clear b1
    have Vl := bx_lt XV1.out
    obtain ⟨v0, v1, v2, v3, v4, vf⟩ := five_kept (Below.refl _ _) XV1.out
    clear vf
    go_wp2_with fail
    refine (HP.out _).mono ?_
    rintro _ w2 ⟨rfl, b2⟩
    have XR2 := Lib.hid (bx_below (bx_alloc XR1.out _) b2)
    have XO2 : Hid (w2.heap[w1.heap.size]? = some (.cells #[.int .i64 t.kind, .int .i64 t.n, .int .i64 t.x, .string t.s, .slice a1 n1 c1] 29 (0, 0))) := Lib.hid (bx_below (heap_alloc_new _ _) b2)
    have HO2 := Lib.hid ((HO.out.kept (fun b hb => Below.heap_alloc w1 (.cells #[.int .i64 t.kind, .int .i64 t.n, .int .i64 t.x, .string t.s, .slice a1 n1 c1] 29) b hb.2)).kept (fun b hb => b2.block b (by rw [World.size_alloc]; have := hb.2; omega)))
    have hs2 := b2.size
    simp only [World.size_alloc] at hs2
    have BW2 := Lib.hid (vnx (bl_alloc BW1.out _) b2); clear b2 Vl v0 v1 v2 v3 v4
    have Rl := bx_lt XR2.out
    obtain ⟨R0, R1, R2, R3, R4, Rf⟩ := five_kept (Below.refl _ _) XR2.out
    have Rf0 := Rf 0; have Rf1 := Rf 1; have Rf2 := Rf 2; have Rf3 := Rf 3; have Rf4 := Rf 4; clear Rf
    obtain ⟨O0, O1, O2, O3, O4, Of⟩ := five_kept (Below.refl _ _) XO2.out
    clear Of
    go_wp2_with fail
    refine bodyPost_ret (v := .agg #[.int .i64 t.kind, .int .i64 t.n, .int .i64 t.x, .string t.s, .slice a1 n1 c1]) (by simp [results, Tryd.results81, go_sem, R0, R1, R2, R3, R4]) rfl ?_
    unfold CopyP
    refine ⟨_, _, _, rfl, ?_, ?_⟩
    · refine OSl.mono (S := Rng (w.heap.size + 2) w1.heap.size) ?_ (fun b hb => ⟨by have := hb.1; omega, by have := hb.2; simp only [World.size_setCell]; omega⟩)
      iterate 5 refine osl_sets ?_ (by dsimp only; omega) _
      have h := HO2.out
      simp only [World.size_alloc] at h
      exact h
    · repeat (first | with_reducible exact BW2.out | with_reducible refine bl_set ?_ _ (by omega))
  | true =>
    have hk : t.kind = 10 := by unfold pairedB at hp; simp only [Bool.and_eq_true, beq_iff_eq] at hp; exact hp.1
    have hn2 : t.l.length = 2 * (t.l.length / 2) := by unfold pairedB at hp; simp only [Bool.and_eq_true, beq_iff_eq] at hp; omega
    have hS : sortT t = .mk t.kind t.n t.x t.s (sortF lessT t.l (t.l.length / 2)) := by unfold sortT; rw [hp]; rfl
    obtain ⟨N, hN⟩ : ∃ N, N = t.l.length / 2 := ⟨_, rfl⟩
    rw [← hN] at hn2 hS
    rw [hS]
    rw [hp] at HP
    clear hp hS hk
    have HNN := Lib.hid hN; have HN2 := Lib.hid hn2
    clear hN hn2
    go_enter Tryd.func81, Tryd.ntmps81
    go_wp2_with fail
    refine (HC.out _ HW.out).mono ?_
    rintro _ w1 ⟨a1, n1, c1, rfl, ho, b1⟩
    have XV1 := Lib.hid (bx_below HB1.out b1); have XR1 := Lib.hid (bx_below HB2.out b1)
    have hs1 := b1.size
    simp only [World.size_alloc] at hs1
    have BW1 := Lib.hid (vnx HW.out b1); clear b1
    have Vl := bx_lt XV1.out
    obtain ⟨v0, v1, v2, v3, v4, vf⟩ := five_kept (Below.refl _ _) XV1.out
    clear vf
    obtain ⟨a1', n1', hfo⟩ : ∃ a1' n1', (Value.slice a1 n1 c1) = .slice a1' t.l.length n1' := by
      obtain ⟨q1, q2, _, _, q3, _⟩ := ho.tsl
      exact ⟨q1, q2, q3⟩
    injection hfo with hf1 hf2 hf3
    subst hf1 hf2 hf3
    have HO := Lib.hid ho; clear ho
    go_wp2_with fail
    refine (HP.out _).mono ?_
    rintro _ w2 ⟨rfl, b2⟩
    have XR2 := Lib.hid (bx_below (bx_alloc XR1.out _) b2)
    have XO2 : Hid (w2.heap[w1.heap.size]? = some (.cells #[.int .i64 t.kind, .int .i64 t.n, .int .i64 t.x, .string t.s, .slice a1 t.l.length c1] 29 (0, 0))) := Lib.hid (bx_below (heap_alloc_new _ _) b2)
    have HO2 := Lib.hid ((HO.out.kept (fun b hb => Below.heap_alloc w1 (.cells #[.int .i64 t.kind, .int .i64 t.n, .int .i64 t.x, .string t.s, .slice a1 t.l.length c1] 29) b hb.2)).kept (fun b hb => b2.block b (by rw [World.size_alloc]; have := hb.2; omega)))
    have hs2 := b2.size
    simp only [World.size_alloc] at hs2
    have BW2 := Lib.hid (vnx (bl_alloc BW1.out _) b2); clear b2 Vl v0 v1 v2 v3 v4 HO
    have hn2 := HN2.out
    clear HNN HN2
    by_cases h0 : 0 < t.l.length
    · have hop := HO2.out
      simp only [World.size_alloc] at hop
      obtain ⟨g, cap0, es, hv, hmap, hesl, hrow, hcm, hg1, hg2, hok⟩ := osl_open hop (by omega) h0
      injection hv with hv1 hv2 hv3
      subst hv1 hv3
      have HR := Lib.hid hrow; have HOK := Lib.hid hok; have HMAP := Lib.hid hmap; clear hrow hok hmap hop
      have hesN : es.length = 2 * N := by omega
      have hN1 : 1 ≤ N := by omega
      have hNb : N ≤ 524288 := by omega
      have hL0 : ((t.l.length : Nat) : Int) = 2 * (N : Int) := by omega
      clear h0
      generalize t.l.length = L at *
      subst hn2
      have HGR := Lib.hid (show g ≠ w.heap.size + 1 by omega); have HGO := Lib.hid (show g ≠ w1.heap.size by omega); have HG1 := Lib.hid hg1; have HG2 := Lib.hid hg2
      go_wp2_with fail
      go_loopw [6] (fun i wr => ∃ (j I : Nat), 1 ≤ j ∧ j ≤ N ∧ I = 2 * j ∧ i = .int .i64 I ∧ Hid (RowE wr g c1 29 (sortF ltE es j ++ es.drop (2 * j))) ∧ Hid (Sv g w2 wr)) (fun i _ => 2 * N + 2 - (intOf i).toNat)
      case atStart => exact ⟨1, 2, Nat.le_refl _, hN1, rfl, rfl, Lib.hid (by rw [Nat.mul_one, sort_one (by omega)]; exact HR.out), Lib.hid (Sv.refl _ _)⟩
      case round =>
        obtain ⟨j, I, hj1, hjN, hI, rfl, HRJ, HSV⟩ := hrel
        have XOr := Lib.hid (HSV.out.box XO2.out HGO.out.symm)
        obtain ⟨O0, O1, O2, O3, O4, Of⟩ := five_kept (Below.refl _ _) XOr.out
        clear Of O0 O1 O2 O3
        by_cases hjl : I < 2 * N
        · have hj : 2 * j + 1 < es.length := by omega
          obtain ⟨x, hx⟩ : ∃ x, x = es[2 * j] := ⟨_, rfl⟩
          obtain ⟨y, hy⟩ : ∃ y, y = es[2 * j + 1] := ⟨_, rfl⟩
          have hst := mid_start (lt := ltE) hj
          have hend := fun K (hK : K = kF ltE x (sortF ltE es j) j) => mid_end (lt := ltE) (K := K) hj (by rw [← hx]; exact hK)
          have hperm := fun K => mid_perm_all (lt := ltE) (K := K) hj
          have hsl := sortF_len (lt := ltE) (l := es) (i := j) (by omega)
          have hmem : ∀ e ∈ sortF ltE es j, e ∈ es := fun e he => List.mem_of_mem_take ((sortF_perm (lt := ltE) (l := es) (i := j) (by omega)).mem_iff.1 he)
          have hxm : x ∈ es := by rw [hx]; exact List.getElem_mem _
          have hym : y ∈ es := by rw [hy]; exact List.getElem_mem _
          simp only [← hx, ← hy] at hst hend hperm
          rw [hst] at HRJ
          clear hst hx hy
          generalize sortF ltE es j = σ at *
          generalize hrr : es.drop (2 * (j + 1)) = r at *
          have HRR := Lib.hid hrr; clear hrr
          have HEND := Lib.hid hend; have HMEM := Lib.hid hmem; have HXM := Lib.hid hxm; have HYM := Lib.hid hym; have HSL := Lib.hid hsl
          clear hend hmem hxm hym hperm
          have hIN : (I : Int) < 2 * (N : Int) := by omega
          have HII := Lib.hid hI
          have hI2 : 2 ≤ I := by omega
          have hIb : I ≤ 1048576 := by omega
          clear hI
          go_wp2_with fail
          clear O4
          go_loopw [7] (fun k wx => ∃ (K : Nat) (z : Int), K ≤ j ∧ z = 2 * (K : Int) ∧ k = .int .i64 z ∧ Hid (kF ltE x σ K = kF ltE x σ j) ∧ Hid (RowE wx g c1 29 (midF σ K x y r)) ∧ Hid (Sv g w2 wx)) (fun k _ => (intOf k).toNat)
          case atStart => exact ⟨j, I, Nat.le_refl _, by have := HII.out; omega, rfl, Lib.hid rfl, HRJ, HSV⟩
          case round =>
            obtain ⟨K, z, hKj, hz, rfl, HKF, HRK, HSK⟩ := hrel
            have XOk := Lib.hid (HSK.out.box XO2.out HGO.out.symm)
            obtain ⟨O0, O1, O2, O3, O4, Of⟩ := five_kept (Below.refl _ _) XOk.out
            clear Of O0 O1 O2 O3
            by_cases hK0 : 0 < K
            · obtain ⟨K', rfl⟩ : ∃ K', K = K' + 1 := ⟨K - 1, by omega⟩
              obtain ⟨M, hM⟩ : ∃ M : Nat, M = 2 * K' := ⟨_, rfl⟩
              obtain rfl : z = (M : Int) + 2 := by omega
              have hsl2 := HSL.out
              have hl2 : 2 * (K' + 1) ≤ σ.length := by omega
              have gx : (midF σ (K' + 1) x y r)[M + 2]? = some x := by rw [show M + 2 = 2 * (K' + 1) by omega]; exact mid_get0 hl2
              have gy : (midF σ (K' + 1) x y r)[M + 3]? = some y := by rw [show M + 3 = 2 * (K' + 1) + 1 by omega]; exact mid_get1 hl2
              have ga : (midF σ (K' + 1) x y r)[M]? = some (σ[2 * K']'(by omega)) := by rw [hM, mid_low hl2 (by omega)]; exact List.getElem?_eq_getElem _
              have gb : (midF σ (K' + 1) x y r)[M + 1]? = some (σ[2 * K' + 1]'(by omega)) := by rw [hM, mid_low hl2 (by omega)]; exact List.getElem?_eq_getElem _
              have hsw := mid_swap (σ := σ) (r := r) (K := K') (x := x) (y := y) hl2 (List.getElem?_eq_getElem (by omega)) (List.getElem?_eq_getElem (by omega))
              have hyes := kF_yes (lt := ltE) (x := x) (σ := σ) (k := K') (h := by omega)
              have hno := kF_no (lt := ltE) (x := x) (σ := σ) (k := K') (h := by omega)
              have ham := HMEM.out _ (List.getElem_mem (show 2 * K' < σ.length by omega))
              have hbm := HMEM.out _ (List.getElem_mem (show 2 * K' + 1 < σ.length by omega))
              generalize σ[2 * K'] = e1 at *
              generalize σ[2 * K' + 1] = e2 at *
              have hok := HSK.out.ok HOK.out
              obtain ⟨fx, ox, -⟩ := hok.1 x HXM.out
              obtain ⟨f1, o1, -⟩ := hok.1 e1 ham
              obtain ⟨xa, xc, hxu⟩ := hok.form HXM.out
              obtain ⟨ya, yc, hyu⟩ := hok.form HYM.out
              obtain ⟨aa, ac, hau⟩ := hok.form ham
              obtain ⟨ba, bc, hbu⟩ := hok.form hbm
              have hltE : ltE x e1 = lessT x.t e1.t := rfl
              rw [hltE] at hyes hno
              have HC := Lib.hid (lessImpl_c x.t e1.t wr.drew x.u e1.u (LP.out.kept (HSK.out.drew.toBelow BW2.out (by have := HG1.out; omega) (by omega))) (ox.tsl.kept (Below.refl _ _).drew) (o1.tsl.kept (Below.refl _ _).drew) fx f1)
              have hsw2 : ((((midF σ (K' + 1) x y r).set (M + 2) e1).set M x).set (M + 3) e2).set (M + 1) y = midF σ K' x y r := by rw [hM]; exact hsw
              clear hsw hltE fx ox f1 o1 hok ham hbm hl2 hsl2
              have HSW := Lib.hid hsw2; have HY := Lib.hid hyes; have HN := Lib.hid hno; have HGX := Lib.hid gx; have HGY := Lib.hid gy; have HGA := Lib.hid ga; have HGB := Lib.hid gb; have HKJ := Lib.hid hKj
              have HMM := Lib.hid hM
              clear hsw2 hyes hno gx gy ga gb
              obtain ⟨xt, xu, xS⟩ := x
              obtain ⟨yt, yu, yS⟩ := y
              obtain ⟨e1t, e1u, e1S⟩ := e1
              obtain ⟨e2t, e2u, e2S⟩ := e2
              dsimp only at hxu hyu hau hbu HC HY HN
              subst hxu hyu hau hbu
              have hMb : M + 2 ≤ 1048576 := by omega
              have hML : (M : Int) + 3 < 2 * (N : Int) := by omega
              obtain ⟨X0, X1, X2, X3, X4⟩ := HRK.out.cells HGX.out
              obtain ⟨A0, A1, A2, A3, A4⟩ := HRK.out.cells HGA.out
              dsimp only at X0 X1 X2 X3 X4 A0 A1 A2 A3 A4
              have hi1 : (M : Int) + 2 - 2 = M := by omega
              have hw1 : IntKind.i64.wrap (M : Int) = M := IntWalk.i64_in _ (by omega)
              have ht2 : ((M : Int) + 2).toNat = M + 2 := by omega
              have hgt : decide ((0 : Int) < (M : Int) + 2) = true := decide_eq_true (by omega)
              have hA1 : (M : Int) + 2 < 2 * (N : Int) := by omega
              have hA2 : ¬ (2 * (N : Int) ≤ (M : Int) + 2) := by omega
              have hA3 : (0 : Int) ≤ (M : Int) + 2 := by omega
              have hA4 : ¬ ((M : Int) + 2 < 0) := by omega
              have hA5 : M + 2 < 2 * N := by omega
              have hB1 : (M : Int) < 2 * (N : Int) := by omega
              have hB2 : ¬ (2 * (N : Int) ≤ (M : Int)) := by omega
              have hB3 : M < 2 * N := by omega
              clear hz hKj hM
              generalize lessT xt e1t = R at *
              have HZ := Lib.hid (show (w.heap.size + 1 + 1 ≤ w1.heap.size ∧ w1.heap.size + 1 ≤ w2.heap.size ∧ w.heap.size + 1 + 1 ≤ g ∧ g < w1.heap.size ∧ c1 ≤ maxLen ∧ es.length = 2 * N) ∧ (1 ≤ N ∧ N ≤ 524288 ∧ 1 ≤ j ∧ j ≤ N ∧ I < 2 * N ∧ 2 ≤ I ∧ I ≤ 1048576) ∧ (M + 2 ≤ 1048576 ∧ (M : Int) + 3 < 2 * (N : Int)) from ⟨⟨hs1, hs2, hg1, hg2, hcm, hesN⟩, ⟨hN1, hNb, hj1, hjN, hjl, hI2, hIb⟩, ⟨hMb, hML⟩⟩)
              clear hs1 hs2 hg1 hg2 hcm hesN hN1 hNb hlen hesl hL0 hj1 hjN hjl hj hsl hIN hI2 hIb hK0 hMb hML
              cases R with
              | true =>
                have HKK := Lib.hid ((HY.out rfl).symm.trans HKF.out)
                clear HY HN
                go_wp2_with fail
                go_still_tail 15, (by kernel_rfl)
                change wpList _ _ _ _ _ wr.drew
                go_wp2_with fail
                refine HC.out.mono ?_
                rintro _ w3 ⟨rfl, hb1⟩
                have HS3 := Lib.hid (HSK.out.drew.below hb1)
                have HR3 := Lib.hid (RowE.kept (w := wr.drew) HRK.out hb1)
                have XO3 := Lib.hid (HS3.out.box XO2.out HGO.out.symm)
                clear hb1 X0 X1 X2 X3 X4 A0 A1 A2 A3 A4 O4 HC hgt
                go_upto_region 10 with fail
                go_cut [7] (fun k wx => k = .int .i64 ((M : Int) + 2) ∧ Hid (RowE wx g c1 29 (((midF σ (K' + 1) ⟨xt, .slice xa xt.l.length xc, xS⟩ ⟨yt, .slice ya yt.l.length yc, yS⟩ r).set (M + 2) ⟨e1t, .slice aa e1t.l.length ac, e1S⟩).set M ⟨xt, .slice xa xt.l.length xc, xS⟩)) ∧ Hid (Sv g w2 wx))
                case first =>
                  obtain ⟨O0, O1, O2, O3, O4, Of⟩ := five_kept (Below.refl _ _) XO3.out
                  clear Of O0 O1 O2 O3
                  obtain ⟨X0, X1, X2, X3, X4⟩ := HR3.out.cells HGX.out
                  obtain ⟨A0, A1, A2, A3, A4⟩ := HR3.out.cells HGA.out
                  dsimp only at X0 X1 X2 X3 X4 A0 A1 A2 A3 A4
                  have hfz := HR3.out.frozen
                  have F0 := hfz ((M + 2) * 5); have F1 := hfz ((M + 2) * 5 + 1); have F2 := hfz ((M + 2) * 5 + 2); have F3 := hfz ((M + 2) * 5 + 3); have F4 := hfz ((M + 2) * 5 + 4)
                  have G0 := hfz (M * 5); have G1 := hfz (M * 5 + 1); have G2 := hfz (M * 5 + 2); have G3 := hfz (M * 5 + 3); have G4 := hfz (M * 5 + 4)
                  clear hfz
                  go_wp2_with fail
                  go_big_region
                  obtain ⟨w4, hw4⟩ : ∃ w4, w4 = (set5 (set5 w3 g (M + 2) ⟨e1t, .slice aa e1t.l.length ac, e1S⟩) g M ⟨xt, .slice xa xt.l.length xc, xS⟩).drew := ⟨_, rfl⟩
                  have HR4 : Hid (RowE w4 g c1 29 (((midF σ (K' + 1) ⟨xt, .slice xa xt.l.length xc, xS⟩ ⟨yt, .slice ya yt.l.length yc, yS⟩ r).set (M + 2) ⟨e1t, .slice aa e1t.l.length ac, e1S⟩).set M ⟨xt, .slice xa xt.l.length xc, xS⟩)) := Lib.hid (by rw [hw4]; exact RowE.drew ((HR3.out.set (j := M + 2) ⟨e1t, .slice aa e1t.l.length ac, e1S⟩).set (j := M) ⟨xt, .slice xa xt.l.length xc, xS⟩))
                  have HS4 : Hid (Sv g w2 w4) := Lib.hid (by rw [hw4]; exact ((HS3.out.set5 (M + 2) ⟨e1t, .slice aa e1t.l.length ac, e1S⟩).set5 M ⟨xt, .slice xa xt.l.length xc, xS⟩).drew)
                  unfold set5 at hw4
                  dsimp only at hw4
                  rw [← hw4]
                  clear hw4 X0 X1 X2 X3 X4 A0 A1 A2 A3 A4 O4 F0 F1 F2 F3 F4 G0 G1 G2 G3 G4
                  go_wp2_with fail
                  go_meet
                  case rel => exact ⟨rfl, HR4, HS4⟩
                case rest =>
                  rename World => w4
                  obtain ⟨rfl, HR4, HS4⟩ := hcut
                  clear hi1 hw1 ht2 hA1 hA2 hA3 hA4 hA5 hB1 hB2 hB3
                  have XO4 := Lib.hid (HS4.out.box XO2.out HGO.out.symm)
                  obtain ⟨O0, O1, O2, O3, O4, Of⟩ := five_kept (Below.refl _ _) XO4.out
                  clear Of O0 O1 O2 O3
                  have gy4 : ((((midF σ (K' + 1) ⟨xt, .slice xa xt.l.length xc, xS⟩ ⟨yt, .slice ya yt.l.length yc, yS⟩ r).set (M + 2) ⟨e1t, .slice aa e1t.l.length ac, e1S⟩).set M ⟨xt, .slice xa xt.l.length xc, xS⟩))[M + 3]? = some ⟨yt, .slice ya yt.l.length yc, yS⟩ := by
                    rw [List.getElem?_set_ne (by omega), List.getElem?_set_ne (by omega)]; exact HGY.out
                  have gb4 : ((((midF σ (K' + 1) ⟨xt, .slice xa xt.l.length xc, xS⟩ ⟨yt, .slice ya yt.l.length yc, yS⟩ r).set (M + 2) ⟨e1t, .slice aa e1t.l.length ac, e1S⟩).set M ⟨xt, .slice xa xt.l.length xc, xS⟩))[M + 1]? = some ⟨e2t, .slice ba e2t.l.length bc, e2S⟩ := by
                    rw [List.getElem?_set_ne (by omega), List.getElem?_set_ne (by omega)]; exact HGB.out
                  obtain ⟨X0, X1, X2, X3, X4⟩ := HR4.out.cells gy4
                  obtain ⟨A0, A1, A2, A3, A4⟩ := HR4.out.cells gb4
                  clear gy4 gb4
                  dsimp only at X0 X1 X2 X3 X4 A0 A1 A2 A3 A4
                  have hfz := HR4.out.frozen
                  have F0 := hfz ((M + 3) * 5); have F1 := hfz ((M + 3) * 5 + 1); have F2 := hfz ((M + 3) * 5 + 2); have F3 := hfz ((M + 3) * 5 + 3); have F4 := hfz ((M + 3) * 5 + 4)
                  have G0 := hfz ((M + 1) * 5); have G1 := hfz ((M + 1) * 5 + 1); have G2 := hfz ((M + 1) * 5 + 2); have G3 := hfz ((M + 1) * 5 + 3); have G4 := hfz ((M + 1) * 5 + 4)
                  clear hfz
                  obtain ⟨⟨hs1, hs2, hg1, hg2, hcm, hesN⟩, ⟨hN1, hNb, hj1, hjN, hjl, hI2, hIb⟩, ⟨hMb, hML⟩⟩ := HZ.out
                  have hA6 : ((M : Int) + 3).toNat = M + 3 := by omega
                  have hA7 : ((M : Int) + 1).toNat = M + 1 := by omega
                  have hA8 : (M : Int) + 2 + 1 = (M : Int) + 3 := by omega
                  have hA9 : (M : Int) + 2 - 1 = (M : Int) + 1 := by omega
                  have hC1 : IntKind.i64.wrap ((M : Int) + 3) = (M : Int) + 3 := IntWalk.i64_in _ (by omega)
                  have hC2 : IntKind.i64.wrap ((M : Int) + 1) = (M : Int) + 1 := IntWalk.i64_in _ (by omega)
                  have hC3 : ¬ (2 * (N : Int) ≤ (M : Int) + 3) := by omega
                  have hC4 : ¬ (2 * (N : Int) ≤ (M : Int) + 1) := by omega
                  have hC5 : (0 : Int) ≤ (M : Int) + 3 := by omega
                  have hC6 : (0 : Int) ≤ (M : Int) + 1 := by omega
                  have hC7 : ¬ ((M : Int) + 3 < 0) := by omega
                  have hC8 : ¬ ((M : Int) + 1 < 0) := by omega
                  have hC9 : (M : Int) + 1 < 2 * (N : Int) := by omega
                  have hD1 : M + 3 < 2 * N := by omega
                  have hD2 : M + 1 < 2 * N := by omega
                  clear hs1 hs2 hg1 hg2 hcm hesN hN1 hNb hj1 hjN hjl hI2 hIb hMb hML
                  go_wp2_with fail
                  go_big_region
                  obtain ⟨w5, hw5⟩ : ∃ w5, w5 = (set5 (set5 w4 g (M + 3) ⟨e2t, .slice ba e2t.l.length bc, e2S⟩) g (M + 1) ⟨yt, .slice ya yt.l.length yc, yS⟩).drew := ⟨_, rfl⟩
                  have HR5 : Hid (RowE w5 g c1 29 (midF σ K' ⟨xt, .slice xa xt.l.length xc, xS⟩ ⟨yt, .slice ya yt.l.length yc, yS⟩ r)) := Lib.hid (by rw [hw5, ← HSW.out]; exact RowE.drew ((HR4.out.set (j := M + 3) ⟨e2t, .slice ba e2t.l.length bc, e2S⟩).set (j := M + 1) ⟨yt, .slice ya yt.l.length yc, yS⟩))
                  have HS5 : Hid (Sv g w2 w5) := Lib.hid (by rw [hw5]; exact ((HS4.out.set5 (M + 3) ⟨e2t, .slice ba e2t.l.length bc, e2S⟩).set5 (M + 1) ⟨yt, .slice ya yt.l.length yc, yS⟩).drew)
                  unfold set5 at hw5
                  dsimp only at hw5
                  rw [← hw5]
                  clear hw5 hA6 hA7 hA8 hA9 hC1 hC2 hC3 hC4 hC5 hC6 hC7 hC8 hC9 hD1 hD2 X0 X1 X2 X3 X4 A0 A1 A2 A3 A4 O4 F0 F1 F2 F3 F4 G0 G1 G2 G3 G4
                  have hi1 : (M : Int) + 2 - 2 = M := by omega
                  have hw1 : IntKind.i64.wrap (M : Int) = M := IntWalk.i64_in _ (by have := HZ.out.2.2.1; omega)
                  go_wp2_with fail
                  go_roundw
                  case rel => exact ⟨K', M, by have := HKJ.out; omega, by have := HMM.out; omega, by go_num, HKK, HR5, HS5⟩
                  case measure => simp [intOf]; omega
              | false =>
                have HKK := Lib.hid (HKF.out.symm.trans (HN.out rfl))
                clear HY HN
                go_wp2_with fail
                go_still_tail 15, (by kernel_rfl)
                change wpList _ _ _ _ _ wr.drew
                go_wp2_with fail
                refine HC.out.mono ?_
                rintro _ w3 ⟨rfl, hb1⟩
                have HS3 := Lib.hid (HSK.out.drew.below hb1)
                have HR3 : Hid (RowE w3 g c1 29 (sortF ltE es (j + 1) ++ es.drop (2 * (j + 1)))) := Lib.hid (by rw [HRR.out, ← HEND.out _ HKK.out.symm]; exact RowE.kept (w := wr.drew) HRK.out hb1)
                clear hb1 X0 X1 X2 X3 X4 A0 A1 A2 A3 A4 O4 HC
                obtain ⟨⟨hs1, hs2, hg1, hg2, hcm, hesN⟩, ⟨hN1, hNb, hj1, hjN, hjl, hI2, hIb⟩, ⟨hMb, hML⟩⟩ := HZ.out
                go_wp2_with fail
                go_roundw
                case rel => exact ⟨j + 1, I + 2, by omega, by have := HII.out; omega, by have := HII.out; omega, by go_num, HR3, HS3⟩
                case measure => simp [intOf]; omega
            · obtain rfl : K = 0 := by omega
              obtain rfl : z = 0 := by omega
              clear hz hKj hK0
              have HR3 : Hid (RowE wr g c1 29 (sortF ltE es (j + 1) ++ es.drop (2 * (j + 1)))) := Lib.hid (by rw [HRR.out, ← HEND.out 0 HKF.out]; exact HRK.out)
              go_wp2_with fail
              go_quiet (fail)
              go_wp2_with fail
              go_roundw
              case rel => exact ⟨j + 1, I + 2, by omega, by omega, by have := HII.out; omega, by go_num, Lib.hid (HR3.out.of_block rfl), Lib.hid (HSK.out.below ⟨rfl, rfl, rfl, Nat.le_refl _, fun _ _ => rfl⟩)⟩
              case measure => simp [intOf]; omega
        · obtain rfl : j = N := by omega
          have hjn : ¬ (I : Int) < 2 * (j : Int) := by omega
          have HR3 := HRJ.out
          rw [sort_all hesN] at HR3
          have hso := osl_shut HR3 hcm ((HSV.out.ok HOK.out).perm ((sortF_perm (lt := ltE) (l := es) (i := j) (by omega)).trans (by rw [List.take_of_length_le (by omega)]))) (by omega) (by rw [sortE_map es (by omega), HMAP.out])
          have hlF : (sortF lessT t.l j).length = 2 * j := by rw [← HMAP.out, ← sortE_map es (by omega), List.length_map, sortF_len (by omega)]
          rw [hlF] at hso
          have HSO := Lib.hid hso
          have hswr := HSV.out.size
          have XRr := Lib.hid (HSV.out.box XR2.out HGR.out.symm)
          have BWr := Lib.hid (HSV.out.toBelow BW2.out (by omega) (by omega))
          clear hso hlF HR3 hlen
          have Rl := bx_lt XRr.out
          obtain ⟨R0, R1, R2, R3, R4, Rf⟩ := five_kept (Below.refl _ _) XRr.out
          have Rf0 := Rf 0; have Rf1 := Rf 1; have Rf2 := Rf 2; have Rf3 := Rf 3; have Rf4 := Rf 4; clear Rf
          obtain ⟨O0, O1, O2, O3, O4, Of⟩ := five_kept (Below.refl _ _) XOr.out
          clear Of
          go_wp2_with fail
          refine bodyPost_ret (v := .agg #[.int .i64 t.kind, .int .i64 t.n, .int .i64 t.x, .string t.s, .slice (some ⟨g, 0, none⟩) (2 * j) c1]) (by simp [results, Tryd.results81, go_sem, R0, R1, R2, R3, R4]) rfl ?_
          unfold CopyP
          refine ⟨_, _, _, rfl, ?_, ?_⟩
          · refine OSl.mono (S := Rng (w.heap.size + 2) wr.heap.size) ?_ (fun b hb => ⟨by have := hb.1; omega, by have := hb.2; simp only [World.size_setCell]; omega⟩)
            iterate 5 refine osl_sets ?_ (by dsimp only; omega) _
            exact HSO.out
          · repeat (first | with_reducible exact BWr.out | with_reducible refine bl_set ?_ _ (by omega))
    · obtain rfl : N = 0 := by omega
      have htl : t.l = [] := List.eq_nil_of_length_eq_zero (by omega)
      have HTL := Lib.hid htl
      have hd : decide ((2 : Int) < (t.l.length : Int)) = false := decide_eq_false (by omega)
      have hd2 : ¬ ((2 : Int) < (t.l.length : Int)) := by omega
      have HL0 := Lib.hid hn2
      clear hn2 htl h0 hlen
      have Rl := bx_lt XR2.out
      obtain ⟨R0, R1, R2, R3, R4, Rf⟩ := five_kept (Below.refl _ _) XR2.out
      have Rf0 := Rf 0; have Rf1 := Rf 1; have Rf2 := Rf 2; have Rf3 := Rf 3; have Rf4 := Rf 4; clear Rf
      obtain ⟨O0, O1, O2, O3, O4, Of⟩ := five_kept (Below.refl _ _) XO2.out
      clear Of
      go_wp2_with fail
      go_loopw [6] (fun i wr => i = .int .i64 2 ∧ wr = w2) (fun _ _ => 0)
      case atStart => exact ⟨rfl, rfl⟩
      case round =>
        obtain ⟨rfl, rfl⟩ := hrel
        go_wp2_with fail
        refine bodyPost_ret (v := .agg #[.int .i64 t.kind, .int .i64 t.n, .int .i64 t.x, .string t.s, .slice a1 t.l.length c1]) (by simp [results, Tryd.results81, go_sem, R0, R1, R2, R3, R4]) rfl ?_
        unfold CopyP
        refine ⟨_, _, _, rfl, ?_, ?_⟩
        · have h := HO2.out
          simp only [World.size_alloc] at h
          refine OSl.mono (S := Rng (w.heap.size + 2) w1.heap.size) ?_ (fun b hb => ⟨by have := hb.1; omega, by have := hb.2; simp only [World.size_setCell]; omega⟩)
          iterate 5 refine osl_sets ?_ (by dsimp only; omega) _
          rw [HTL.out] at h ⊢
          exact h
        · repeat (first | with_reducible exact BW2.out | with_reducible refine bl_set ?_ _ (by omega))
set_option maxHeartbeats 1000000 in
theorem sortMap_impl (t : Tree) (w : World) (u : Value) (hL : LaidP w) (hcost : t.cost ≤ 1048576) (hu : TSl w u t.l) (hfit : Fits t.kind t.n t.x t.s) :
    Calls Tryd.prog 21 #[.agg #[.int .i64 t.kind, .int .i64 t.n, .int .i64 t.x, .string t.s, u]] w (CopyP w (sortT t)) := by
  obtain ⟨a, n, cap, rfl⟩ := hu.form
  have HB0 := Lib.hid (first_blocks w (.cells #[.int .i64 t.kind, .int .i64 t.n, .int .i64 t.x, .string t.s, .slice a n cap] 29) (.cells #[.int .i64 0, .int .i64 0, .int .i64 0, .string { data := #[] }, .slice none 0 0] 29))
  have HW0 := Lib.hid (vbelow2 w (.cells #[.int .i64 t.kind, .int .i64 t.n, .int .i64 t.x, .string t.s, .slice a n cap] 29) (.cells #[.int .i64 0, .int .i64 0, .int .i64 0, .string { data := #[] }, .slice none 0 0] 29))
  have HC := Lib.hid (sortPairs_c t _ _ (hL.kept HW0.out) hcost (hu.kept HW0.out) hfit)
  clear hu hfit hcost hL
  generalize sortT t = r at *
  go_enter Tryd.func21, Tryd.ntmps21
  go_wp2_with fail
  refine HC.out.mono ?_
  rintro _ w1 ⟨a1, n1, c1, rfl, ho, hb⟩
  have XR := Lib.hid (bx_below HB0.out.2 hb)
  have Rl := bx_lt XR.out
  obtain ⟨q0, q1, q2, q3, q4, qf⟩ := five_kept (Below.refl _ _) XR.out
  have qf0 := qf 0; have qf1 := qf 1; have qf2 := qf 2; have qf3 := qf 3; have qf4 := qf 4
  have HO := Lib.hid ho; have HB := Lib.hid hb
  clear qf ho hb
  go_wp2_with fail
  refine bodyPost_ret (v := .agg #[.int .i64 r.kind, .int .i64 r.n, .int .i64 r.x, .string r.s, .slice a1 n1 c1]) (by simp [results, Tryd.results21, go_sem, q0, q1, q2, q3, q4]) rfl ?_
  unfold CopyP
  refine ⟨_, _, _, rfl, ?_, ?_⟩
  · refine OSl.mono (S := Rng (w.heap.size + 2) w1.heap.size) ?_ (fun b hb => ⟨by have := hb.1; omega, by have := hb.2; simpa [World.setCell] using this⟩)
    iterate 5 refine osl_sets ?_ (by dsimp only; omega) _
    have h := HO.out
    simp only [World.size_alloc] at h
    exact h
  · iterate 5 refine Below.setCell ?_ (by dsimp only; omega) _
    exact vnx HW0.out HB.out
end Go.Proofs.YtilmhemcpgiikaaDoor
