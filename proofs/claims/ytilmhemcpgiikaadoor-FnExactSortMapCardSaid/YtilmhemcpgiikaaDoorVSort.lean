/- SortMap of the reference: each pair is put in behind those that its name does not come ahead of. -/
import Derived.Test.YtilmhemcpgiikaaDoorVSortE
import Derived.StillTailTactics
import Derived.Deep.DeepCutAuto
import Derived.Deep.CutBlock
import Derived.Deep.RegionHeld3
namespace Go.Proofs.YtilmhemcpgiikaaDoor
open Go.Deep Go.ChangeShapes Go.WideShapes Go.ChangeAt Go.RowKit
open Go.ChangeMaps (open_string shut_string)

set_option maxRecDepth 100000 in
set_option maxHeartbeats 20000000 in
theorem sortMap_spec (t : Tree) (w : World) (u : Value) (hcost : t.cost ≤ 1048576) (hu : TSl w u t.l) (hfit : Fits t.kind t.n t.x t.s) :
    Calls Tryd.prog 20 #[.agg #[.int .i64 t.kind, .int .i64 t.n, .int .i64 t.x, .string t.s, u]] w (CopyP w (sortT t)) := by
  obtain ⟨i0, hi, hz, hs, hb⟩ := info_parts info_val
  have HI := Lib.hid hi; clear hi
  have hc := Tree.cost_eq t
  have hcl := costL_eq t.l
  have hlen : t.l.length ≤ 1048576 := by omega
  have HC := Lib.hid (fun w1 (hb : Below w.heap.size w w1) => l6Copy_c t w1 u hcost (hu.kept hb) hfit)
  obtain ⟨a, cap, -, -, rfl, -⟩ := hu
  have HP := Lib.hid (fun w1 => l7Map_c t a cap w1 hlen)
  have hB := first_blocks w (.cells #[.int .i64 t.kind, .int .i64 t.n, .int .i64 t.x, .string t.s, .slice a t.l.length cap] 29) (.cells #[.int .i64 0, .int .i64 0, .int .i64 0, .string { data := #[] }, .slice none 0 0] 29)
  have HB1 := Lib.hid hB.1; have HB2 := Lib.hid hB.2
  have HW := Lib.hid (vbelow2 w (.cells #[.int .i64 t.kind, .int .i64 t.n, .int .i64 t.x, .string t.s, .slice a t.l.length cap] 29) (.cells #[.int .i64 0, .int .i64 0, .int .i64 0, .string { data := #[] }, .slice none 0 0] 29))
  clear hcost hfit hc hcl hB
  cases hp : pairedB t with
  | false =>
    have hS : sortT t = t := by unfold sortT; rw [hp]; rfl
    rw [hS]
    rw [hp] at HP
    clear hp hS
    go_enter Tryd.func20, Tryd.ntmps20
    go_wp2_with fail
    refine (HC.out _ HW.out).mono ?_
    rintro _ w1 ⟨a1, n1, c1, rfl, ho, b1⟩
    have XV1 := Lib.hid (bx_below HB1.out b1); have XR1 := Lib.hid (bx_below HB2.out b1)
    have HO := Lib.hid ho; clear ho
    have hs1 := b1.size
    simp only [World.size_alloc] at hs1
    have BW1 := Lib.hid (vnx HW.out b1); clear b1
    have Vl := bx_lt XV1.out
    obtain ⟨v0, v1, v2, v3, v4, vf⟩ := five_kept (Below.refl _ _) XV1.out
    clear vf
    go_wp2_with fail
    refine (HP.out _).mono ?_
    rintro _ w2 ⟨rfl, b2⟩
    have XR2 := Lib.hid (bx_below (bx_alloc XR1.out _) b2)
    have XO2 : Hid (w2.heap[w1.heap.size]? = some (.cells #[.int .i64 t.kind, .int .i64 t.n, .int .i64 t.x, .string t.s, .slice a1 n1 c1] 29 (0, 0))) := Lib.hid (bx_below (heap_alloc_new _ _) b2)
    have HO2 := Lib.hid ((HO.out.kept (fun b hb => Below.heap_alloc w1 (.cells #[.int .i64 t.kind, .int .i64 t.n, .int .i64 t.x, .string t.s, .slice a1 n1 c1] 29) b hb.2)).kept (fun b hb => b2.block b (by rw [World.size_alloc]; have := hb.2; omega)))
    have hs2 := b2.size
    simp only [World.size_alloc] at hs2
    have BW2 := Lib.hid (vnx (bl_alloc BW1.out _) b2); clear b2 Vl v0 v1 v2 v3 v4
    have Rl := bx_lt XR2.out
    obtain ⟨R0, R1, R2, R3, R4, Rf⟩ := five_kept (Below.refl _ _) XR2.out
    have Rf0 := Rf 0; have Rf1 := Rf 1; have Rf2 := Rf 2; have Rf3 := Rf 3; have Rf4 := Rf 4; clear Rf
    obtain ⟨O0, O1, O2, O3, O4, Of⟩ := five_kept (Below.refl _ _) XO2.out
    clear Of
    go_wp2_with fail
    refine bodyPost_ret (v := .agg #[.int .i64 t.kind, .int .i64 t.n, .int .i64 t.x, .string t.s, .slice a1 n1 c1]) (by simp [results, Tryd.results20, go_sem, R0, R1, R2, R3, R4]) rfl ?_
    unfold CopyP
    refine ⟨_, _, _, rfl, ?_, ?_⟩
    · refine OSl.mono (S := Rng (w.heap.size + 2) w1.heap.size) ?_ (fun b hb => ⟨by have := hb.1; omega, by have := hb.2; simp only [World.size_setCell]; omega⟩)
      iterate 5 refine osl_sets ?_ (by dsimp only; omega) _
      have h := HO2.out
      simp only [World.size_alloc] at h
      exact h
    · repeat (first | with_reducible exact BW2.out | with_reducible refine bl_set ?_ _ (by omega))
  | true =>
    have hk : t.kind = 10 := by unfold pairedB at hp; simp only [Bool.and_eq_true, beq_iff_eq] at hp; exact hp.1
    have hn2 : t.l.length = 2 * (t.l.length / 2) := by unfold pairedB at hp; simp only [Bool.and_eq_true, beq_iff_eq] at hp; omega
    have hS : sortT t = .mk t.kind t.n t.x t.s (sortF lessT t.l (t.l.length / 2)) := by unfold sortT; rw [hp]; rfl
    obtain ⟨N, hN⟩ : ∃ N, N = t.l.length / 2 := ⟨_, rfl⟩
    rw [← hN] at hn2 hS
    rw [hS]
    rw [hp] at HP
    clear hp hS hk
    have HNN := Lib.hid hN; have HN2 := Lib.hid hn2
    clear hN hn2
    go_enter Tryd.func20, Tryd.ntmps20
    go_wp2_with fail
    refine (HC.out _ HW.out).mono ?_
    rintro _ w1 ⟨a1, n1, c1, rfl, ho, b1⟩
    have XV1 := Lib.hid (bx_below HB1.out b1); have XR1 := Lib.hid (bx_below HB2.out b1)
    have hs1 := b1.size
    simp only [World.size_alloc] at hs1
    have BW1 := Lib.hid (vnx HW.out b1); clear b1
    have Vl := bx_lt XV1.out
    obtain ⟨v0, v1, v2, v3, v4, vf⟩ := five_kept (Below.refl _ _) XV1.out
    clear vf
    obtain ⟨a1', n1', hfo⟩ : ∃ a1' n1', (Value.slice a1 n1 c1) = .slice a1' t.l.length n1' := by
      obtain ⟨q1, q2, _, _, q3, _⟩ := ho.tsl
      exact ⟨q1, q2, q3⟩
    injection hfo with hf1 hf2 hf3
    subst hf1 hf2 hf3
    have HO := Lib.hid ho; clear ho
    go_wp2_with fail
    refine (HP.out _).mono ?_
    rintro _ w2 ⟨rfl, b2⟩
    have XR2 := Lib.hid (bx_below (bx_alloc XR1.out _) b2)
    have XO2 : Hid (w2.heap[w1.heap.size]? = some (.cells #[.int .i64 t.kind, .int .i64 t.n, .int .i64 t.x, .string t.s, .slice a1 t.l.length c1] 29 (0, 0))) := Lib.hid (bx_below (heap_alloc_new _ _) b2)
    have HO2 := Lib.hid ((HO.out.kept (fun b hb => Below.heap_alloc w1 (.cells #[.int .i64 t.kind, .int .i64 t.n, .int .i64 t.x, .string t.s, .slice a1 t.l.length c1] 29) b hb.2)).kept (fun b hb => b2.block b (by rw [World.size_alloc]; have := hb.2; omega)))
    have hs2 := b2.size
    simp only [World.size_alloc] at hs2
    have BW2 := Lib.hid (vnx (bl_alloc BW1.out _) b2); have B12 : Hid (∀ b, b < w1.heap.size → w2.heap[b]? = w1.heap[b]?) := Lib.hid (fun b hb => (b2.block b (by rw [World.size_alloc]; omega)).trans (Below.heap_alloc _ _ _ hb))
    clear b2 Vl v0 v1 v2 v3 v4
    have hn2 := HN2.out
    clear HNN HN2
    by_cases h0 : 0 < t.l.length
    · have hop := HO.out
      simp only [World.size_alloc] at hop
      obtain ⟨g, cap0, es, hv, hmap, hesl, hrow1, hcm, hg1, hg2, hok1⟩ := osl_open hop (Nat.le_refl _) h0
      have hrow := hrow1.of_block (B12.out g hg2)
      have hok := hok1.kept (w' := w2) (by omega) (fun b hb _ => B12.out b hb)
      have HOK1 := Lib.hid hok1; clear hok1 hrow1
      injection hv with hv1 hv2 hv3
      subst hv1 hv3
      have HR := Lib.hid hrow; have HOK := Lib.hid hok; have HMAP := Lib.hid hmap; clear hrow hok hmap hop
      have hesN : es.length = 2 * N := by omega
      have hN1 : 1 ≤ N := by omega
      have hNb : N ≤ 524288 := by omega
      have hL0 : ((t.l.length : Nat) : Int) = 2 * (N : Int) := by omega
      clear h0
      generalize t.l.length = L at *
      subst hn2
      have HGR := Lib.hid (show g ≠ w.heap.size + 1 by omega); have HGO := Lib.hid (show g ≠ w1.heap.size by omega); have HG1 := Lib.hid hg1; have HG2 := Lib.hid hg2
      have hown0 := World.ownsRow_made (base := w2.heap.size) (e := 29) (size := 5) w2 #[] 0 (Nat.le_refl _) (by simp [maxLen]) rfl
      have HOW0 := Lib.hid hown0; clear hown0
      go_wp2_with fail
      go_loopw [4, 5] (fun v i wr => ∃ (j I g3 cap3 : Nat), j ≤ N ∧ I = 2 * j ∧ i = .int .i64 I ∧ v = .slice (some ⟨g3, 0, none⟩) I cap3 ∧ Hid (wr.ownsRow w2.heap.size 29 5 v I ((sortF ltE es j).flatMap Elem.cells)) ∧ Hid (Below w2.heap.size w2 wr)) (fun _ i _ => 2 * N + 2 - (intOf i).toNat)
      case atStart => exact ⟨0, 0, _, _, Nat.zero_le _, rfl, rfl, rfl, HOW0, Lib.hid (vbelow1 _ _)⟩
      case round =>
        obtain ⟨j, I, g3, cap3, hjN, hI, rfl, rfl, HOW, HBW⟩ := hrel
        have XOr := Lib.hid (bx_below XO2.out HBW.out)
        have hOl := bx_lt XOr.out
        obtain ⟨O0, O1, O2, O3, O4, Of⟩ := five_kept (Below.refl _ _) XOr.out
        clear O0 O1 O2 O3
        have Of4 := Of 4; clear Of
        by_cases hjl : I < 2 * N
        · have hj : 2 * j + 1 < es.length := by omega
          obtain ⟨x, hx⟩ : ∃ x, x = es[2 * j] := ⟨_, rfl⟩
          obtain ⟨y, hy⟩ : ∃ y, y = es[2 * j + 1] := ⟨_, rfl⟩
          have hsl := sortF_len (lt := ltE) (l := es) (i := j) (by omega)
          have hend : sortF ltE es (j + 1) = (sortF ltE es j).take (2 * kF ltE x (sortF ltE es j) j) ++ x :: y :: (sortF ltE es j).drop (2 * kF ltE x (sortF ltE es j) j) := by
            rw [sortF_succ hj]
            unfold insF
            rw [hsl, show 2 * j / 2 = j by omega, ← hx, ← hy]
          have hmem : ∀ e ∈ sortF ltE es j, e ∈ es := fun e he => List.mem_of_mem_take ((sortF_perm (lt := ltE) (l := es) (i := j) (by omega)).mem_iff.1 he)
          have hxm : x ∈ es := by rw [hx]; exact List.getElem_mem _
          have hym : y ∈ es := by rw [hy]; exact List.getElem_mem _
          have gx : es[I]? = some x := by rw [hI, hx]; exact List.getElem?_eq_getElem _
          have gy : es[I + 1]? = some y := by rw [hI, hy]; exact List.getElem?_eq_getElem _
          have hkle := kF_le ltE x (sortF ltE es j) j
          clear hx hy
          have hrs : 0 < j → RowE wr g3 cap3 29 (sortF ltE es j) := fun h0 => by
            have how := HOW.out
            have e1 : I = (sortF ltE es j).length := by rw [hsl]; exact hI
            rw [e1] at how
            obtain ⟨g', cap', hv, hr, -, -⟩ := rowE_of how (by omega)
            injection hv with hv1 hv2 hv3
            injection hv1 with hv1
            injection hv1 with hv4
            subst hv3 hv4
            exact hr
          have hIc : I ≤ cap3 ∧ cap3 ≤ maxLen := by
            rcases HOW.out.2 with ⟨hq, _⟩ | ⟨g', cap', cur, hv, _, _, hnc, hcm', _⟩
            · cases hq
            · injection hv with hv1 hv2 hv3
              subst hv3
              exact ⟨hnc, hcm'⟩
          obtain ⟨hIc1, hIc2⟩ := hIc
          unfold maxLen at hIc2
          have HEND := Lib.hid hend; have HMEM := Lib.hid hmem; have HXM := Lib.hid hxm; have HYM := Lib.hid hym; have HSL := Lib.hid hsl; have HGX := Lib.hid gx; have HGY := Lib.hid gy; have HRS := Lib.hid hrs; have HKL := Lib.hid hkle
          clear hend hmem hxm hym gx gy hrs hsl hkle
          generalize sortF ltE es j = σ at *
          have hIN : (I : Int) < 2 * (N : Int) := by omega
          have hIN2 : ¬ (2 * (N : Int) ≤ (I : Int)) := by omega
          have hII := hI
          have HII := Lib.hid hI
          have hIb : I ≤ 1048576 := by omega
          clear hI hII
          have hok0 := HOK.out.kept (w' := wr) HBW.out.size (fun b hb _ => HBW.out.block b hb)
          obtain ⟨fx, ox, -⟩ := hok0.1 x HXM.out
          obtain ⟨xa, xc, hxu⟩ := hok0.form HXM.out
          obtain ⟨ya, yc, hyu⟩ := hok0.form HYM.out
          obtain ⟨xt, xu, xS⟩ := x
          obtain ⟨yt, yu, yS⟩ := y
          dsimp only at hxu hyu fx ox
          subst hxu hyu
          have HFX := Lib.hid fx; have HOX := Lib.hid ox; have HOK0 := Lib.hid hok0; clear fx ox hok0
          have HRX := Lib.hid (HR.out.kept HBW.out)
          clear O4 Of4 hOl
          generalize wr = wo at *
          have Ol := bx_lt XOr.out
          obtain ⟨O0, O1, O2, O3, O4, Of⟩ := five_kept (Below.refl _ _) XOr.out
          clear O0 O1 O2 O3 Of
          go_upto_block 2 with fail
          go_cut [6] (fun k wx => ∃ Kn : Nat, k = .int .i64 Kn ∧ Kn ≤ I ∧ Hid (Kn = 2 * kF ltE (⟨xt, .slice xa xt.l.length xc, xS⟩ : Elem) σ j) ∧ Hid (Below wo.heap.size wo wx))
          case first =>
            go_wp2_with fail
            go_loopw [6] (fun k wx => ∃ (K : Nat) (z : Int), K ≤ j ∧ z = 2 * (K : Int) ∧ k = .int .i64 z ∧ Hid (kF ltE (⟨xt, .slice xa xt.l.length xc, xS⟩ : Elem) σ K = kF ltE (⟨xt, .slice xa xt.l.length xc, xS⟩ : Elem) σ j) ∧ Hid (Below wo.heap.size wo wx)) (fun k _ => (intOf k).toNat)
            case atStart => exact ⟨j, I, Nat.le_refl _, by have := HII.out; omega, rfl, Lib.hid rfl, Lib.hid (Below.refl _ _)⟩
            case round =>
              obtain ⟨K, z, hKj, hz, rfl, HKF, HBX⟩ := hrel
              have XOk := Lib.hid (bx_below XOr.out HBX.out)
              have Ok := bx_lt XOk.out
              clear O4
              obtain ⟨O0, O1, O2, O3, O4, Of⟩ := five_kept (Below.refl _ _) XOk.out
              clear Of O0 O1 O2 O3
              by_cases hK0 : 0 < K
              · obtain ⟨K', rfl⟩ : ∃ K', K = K' + 1 := ⟨K - 1, by omega⟩
                obtain ⟨M, hM⟩ : ∃ M : Nat, M = 2 * K' := ⟨_, rfl⟩
                obtain rfl : z = (M : Int) + 2 := by omega
                have hsl2 := HSL.out
                have hl2 : 2 * K' < σ.length := by omega
                have ga : σ[M]? = some (σ[2 * K']'(by omega)) := by rw [hM]; exact List.getElem?_eq_getElem _
                have hyes := kF_yes (lt := ltE) (x := (⟨xt, .slice xa xt.l.length xc, xS⟩ : Elem)) (σ := σ) (k := K') (h := by omega)
                have hno := kF_no (lt := ltE) (x := (⟨xt, .slice xa xt.l.length xc, xS⟩ : Elem)) (σ := σ) (k := K') (h := by omega)
                have ham := HMEM.out _ (List.getElem_mem (show 2 * K' < σ.length by omega))
                generalize σ[2 * K'] = e1 at *
                have hokx := HOK0.out.kept (w' := wr) HBX.out.size (fun b hb _ => HBX.out.block b hb)
                obtain ⟨f1, o1, -⟩ := hokx.1 e1 ham
                obtain ⟨aa, ac, hau⟩ := hokx.form ham
                have hltE : ltE (⟨xt, .slice xa xt.l.length xc, xS⟩ : Elem) e1 = lessT xt e1.t := rfl
                rw [hltE] at hyes hno
                obtain ⟨A0, A1, A2, A3, A4⟩ := ((HRS.out (by omega)).kept HBX.out).cells ga
                obtain ⟨X0, X1, X2, X3, X4⟩ := (HRX.out.kept HBX.out).cells HGX.out
                have HC := Lib.hid (lessSpec_c xt e1.t wr.drew (.slice xa xt.l.length xc) e1.u ((HOX.out.tsl.kept HBX.out).kept (Below.refl _ _).drew) (o1.tsl.kept (Below.refl _ _).drew) HFX.out f1)
                clear hltE f1 o1 hokx ham hl2 hsl2 ga
                have HY := Lib.hid hyes; have HN := Lib.hid hno; have HKJ := Lib.hid hKj
                have HMM := Lib.hid hM
                clear hyes hno
                obtain ⟨e1t, e1u, e1S⟩ := e1
                dsimp only at hau HC HY HN X0 X1 X2 X3 X4 A0 A1 A2 A3 A4
                subst hau
                have hMb : M + 2 ≤ 1048576 := by omega
                have hMI : M + 2 ≤ I := by have := HII.out; omega
                have hi1 : (M : Int) + 2 - 2 = M := by omega
                have hw1 : IntKind.i64.wrap (M : Int) = M := IntWalk.i64_in _ (by omega)
                have hgt : decide ((0 : Int) < (M : Int) + 2) = true := decide_eq_true (by omega)
                have hB1 : (M : Int) < (I : Int) := by omega
                have hB2 : ¬ ((I : Int) ≤ (M : Int)) := by omega
                have hB3 : M < I := by omega
                have hszx := HBX.out.size
                clear hz hKj hM
                generalize lessT xt e1t = R at *
                cases R with
                | true =>
                  have HKK := Lib.hid ((HY.out rfl).symm.trans HKF.out)
                  clear HY HN
                  go_wp2_with fail
                  go_still_tail 13, (by kernel_rfl)
                  change wpList _ _ _ _ _ wr.drew
                  go_wp2_with fail
                  refine HC.out.mono ?_
                  rintro _ w3 ⟨rfl, hb1'⟩
                  have hb1 : Below wr.heap.size wr w3 := ⟨hb1'.os, hb1'.tape, hb1'.output, hb1'.size, hb1'.block⟩
                  clear hb1'
                  go_wp2_with fail
                  go_roundw
                  case rel => exact ⟨K', M, by have := HKJ.out; omega, by have := HMM.out; omega, by go_num, HKK, Lib.hid (HBX.out.trans (hb1.mono hszx))⟩
                  case measure => simp [intOf]; omega
                | false =>
                  have HKK := Lib.hid (HKF.out.symm.trans (HN.out rfl))
                  clear HY HN
                  go_wp2_with fail
                  go_still_tail 13, (by kernel_rfl)
                  change wpList _ _ _ _ _ wr.drew
                  go_wp2_with fail
                  refine HC.out.mono ?_
                  rintro _ w3 ⟨rfl, hb1'⟩
                  have hb1 : Below wr.heap.size wr w3 := ⟨hb1'.os, hb1'.tape, hb1'.output, hb1'.size, hb1'.block⟩
                  clear hb1'
                  go_wp2_with fail
                  go_meet
                  case rel => exact ⟨M + 2, by first | rfl | go_num, hMI, Lib.hid (by have h1 := HKK.out; have h2 := HMM.out; omega), Lib.hid (HBX.out.trans (hb1.mono hszx))⟩
              · obtain rfl : K = 0 := by omega
                obtain rfl : z = 0 := by omega
                clear hz hKj hK0
                go_wp2_with fail
                go_quiet (fail)
                go_wp2_with fail
                go_meet
                case rel => exact ⟨0, by first | rfl | go_num, Nat.zero_le _, Lib.hid (by have h1 : 0 = _ := HKF.out; omega), Lib.hid (HBX.out.trans ⟨rfl, rfl, rfl, Nat.le_refl _, fun _ _ => rfl⟩)⟩
          case rest =>
            rename World => wx
            obtain ⟨Kn, rfl, hKI, HKN, HBX⟩ := hcut
            have XOx := Lib.hid (bx_below XOr.out HBX.out)
            clear O4 Ol
            have Ol := bx_lt XOx.out
            obtain ⟨O0, O1, O2, O3, O4, Of⟩ := five_kept (Below.refl _ _) XOx.out
            clear Of O0 O1 O2 O3
            have hrx := HRX.out.kept HBX.out
            obtain ⟨X0, X1, X2, X3, X4⟩ := hrx.cells HGX.out
            obtain ⟨Y0, Y1, Y2, Y3, Y4⟩ := hrx.cells HGY.out
            dsimp only at X0 X1 X2 X3 X4 Y0 Y1 Y2 Y3 Y4
            have hsl2 : σ.length = I := by have h1 := HSL.out; have h2 := HII.out; omega
            have hfm := HOK0.out.forms
            have hmm := HMEM.out
            have hend := HEND.out
            rw [← HKN.out] at hend
            have hrs : 0 < I → RowE wx g3 cap3 29 σ := fun h => (HRS.out (by have := HII.out; omega)).kept HBX.out
            obtain ⟨TK, hTK⟩ : ∃ q, q = (σ.drop 0).take Kn := ⟨_, rfl⟩
            obtain ⟨DK, hDK⟩ : ∃ q, q = (σ.drop Kn).take (I - Kn) := ⟨_, rfl⟩
            have hT0 : TK.length = Kn := by rw [hTK, List.length_take, List.length_drop]; omega
            have hD0 : DK.length = I - Kn := by rw [hDK, List.length_take, List.length_drop]; omega
            have hTl : (TK.flatMap Elem.cells).length = Kn * 5 := by rw [flat_len, hT0]
            have hDl : (DK.flatMap Elem.cells).length = (I - Kn) * 5 := by rw [flat_len, hD0]
            have hTn : ∀ ww, Below wx.heap.size wx ww → ∀ q u, (TK.flatMap Elem.cells)[q]? = some u → ww.cell? ((⟨g3, 0, none⟩ : Addr).add q) = some u := by
              intro ww hb q u hq
              by_cases h0 : 0 < I
              · have h := news_of ((hrs h0).kept hb) 0 Kn q u (by rw [← hTK]; exact hq)
                rwa [Nat.zero_mul] at h
              · have : TK = [] := List.eq_nil_of_length_eq_zero (by omega)
                rw [this] at hq; simp at hq
            have hDn : ∀ ww, Below wx.heap.size wx ww → ∀ q u, (DK.flatMap Elem.cells)[q]? = some u → ww.cell? ((⟨g3, Kn * 5, none⟩ : Addr).add q) = some u := by
              intro ww hb q u hq
              by_cases h0 : 0 < I
              · exact news_of ((hrs h0).kept hb) Kn (I - Kn) q u (by rw [← hDK]; exact hq)
              · have : DK = [] := List.eq_nil_of_length_eq_zero (by omega)
                rw [this] at hq; simp at hq
            have hT1 := news_one TK (fun e he => hfm e (hmm e (by rw [hTK] at he; exact List.mem_of_mem_drop (List.mem_of_mem_take he))))
            have hD1 := news_one DK (fun e he => hfm e (hmm e (by rw [hDK] at he; exact List.mem_of_mem_drop (List.mem_of_mem_take he))))
            have hend2 : (sortF ltE es (j + 1)).flatMap Elem.cells = TK.flatMap Elem.cells ++ (cells5 xt (.slice xa xt.l.length xc) ++ cells5 yt (.slice ya yt.l.length yc)) ++ DK.flatMap Elem.cells := by
              rw [hend, hTK, hDK, List.drop_zero, List.take_of_length_le (l := σ.drop Kn) (by rw [List.length_drop]; omega)]
              simp [Elem.cells]
            have hXY1 : ∀ u ∈ cells5 xt (.slice xa xt.l.length xc) ++ cells5 yt (.slice ya yt.l.length yc), u.oneCell' = true := by
              intro u hu
              rcases List.mem_append.1 hu with hu | hu
              · exact one5 _ _ _ _ u hu
              · exact one5 _ _ _ _ u hu
            have HK : Hid (∀ ww, Below wx.heap.size wx ww → ww.cell? ⟨w1.heap.size, 4, none⟩ = some (.slice (some ⟨g, 0, none⟩) (2 * N) c1) ∧ ww.cell? ⟨g, I * 5, none⟩ = some (.int .i64 xt.kind) ∧ ww.cell? ⟨g, I * 5 + 1, none⟩ = some (.int .i64 xt.n) ∧ ww.cell? ⟨g, I * 5 + 2, none⟩ = some (.int .i64 xt.x) ∧ ww.cell? ⟨g, I * 5 + 3, none⟩ = some (.string xt.s) ∧ ww.cell? ⟨g, I * 5 + 4, none⟩ = some (.slice xa xt.l.length xc) ∧ ww.cell? ⟨g, (I + 1) * 5, none⟩ = some (.int .i64 yt.kind) ∧ ww.cell? ⟨g, (I + 1) * 5 + 1, none⟩ = some (.int .i64 yt.n) ∧ ww.cell? ⟨g, (I + 1) * 5 + 2, none⟩ = some (.int .i64 yt.x) ∧ ww.cell? ⟨g, (I + 1) * 5 + 3, none⟩ = some (.string yt.s) ∧ ww.cell? ⟨g, (I + 1) * 5 + 4, none⟩ = some (.slice ya yt.l.length yc)) := Lib.hid (fun ww hb => by
              have h1 := (five_kept hb XOx.out).2.2.2.2.1
              obtain ⟨a0, a1, a2, a3, a4⟩ := (hrx.kept hb).cells HGX.out
              obtain ⟨b0, b1, b2, b3, b4⟩ := (hrx.kept hb).cells HGY.out
              exact ⟨h1, a0, a1, a2, a3, a4, b0, b1, b2, b3, b4⟩)
            obtain ⟨AD, hAD, hADn⟩ : ∃ AD : Addr, (if cap3 = Kn then (some ⟨g3, 0, none⟩ : Option Addr) else some ⟨g3, Kn * 5, none⟩) = some AD ∧ ∀ ww, Below wx.heap.size wx ww → ∀ q u, (DK.flatMap Elem.cells)[q]? = some u → ww.cell? (AD.add q) = some u := by
              by_cases hc : cap3 = Kn
              · refine ⟨⟨g3, 0, none⟩, if_pos hc, fun ww hb q u hq => ?_⟩
                have : DK = [] := List.eq_nil_of_length_eq_zero (by omega)
                rw [this] at hq; simp at hq
              · exact ⟨⟨g3, Kn * 5, none⟩, if_neg hc, hDn⟩
            have HAD := Lib.hid hAD; have HADN := Lib.hid hADn
            clear hAD hADn
            have HTL := Lib.hid hTl; have HDL := Lib.hid hDl; have HTN := Lib.hid hTn; have HT1 := Lib.hid hT1; have HD1 := Lib.hid hD1; have HE2 := Lib.hid hend2; have HXY := Lib.hid hXY1
            clear hTK hDK hT0 hD0 hTl hDl hTn hDn hT1 hD1 hend2 hXY1 hfm hmm hend hrs hrx hsl2
            have hI1 : ((I : Int) + 1).toNat = I + 1 := by omega
            have hI2 : (I : Int) + 1 < 2 * (N : Int) := by have := HII.out; omega
            have hI3 : ¬ (2 * (N : Int) ≤ (I : Int) + 1) := by omega
            have hI4 : (0 : Int) ≤ (I : Int) + 1 := by omega
            have hI5 : ¬ ((I : Int) + 1 < 0) := by omega
            have hI6 : IntKind.i64.wrap ((I : Int) + 1) = (I : Int) + 1 := IntWalk.i64_in _ (by omega)
            have hI7 : I + 1 < 2 * N := by omega
            have hK1 : (Kn : Int) ≤ (I : Int) := by omega
            have hK2 : ¬ ((I : Int) < (Kn : Int)) := by omega
            have hK3 : (Kn : Int) ≤ (cap3 : Int) := by omega
            have hK4 : ¬ ((cap3 : Int) < (Kn : Int)) := by omega
            have hK5 : Kn ≤ cap3 := by omega
            have hK6 : (I : Int) ≤ (cap3 : Int) := by omega
            have OW1 : Hid (World.ownsRow (wx.alloc (.cells #[] 29)).drew wx.heap.size 29 5 (.slice (some ⟨wx.heap.size, 0, none⟩) 0 0) 0 []) := Lib.hid (World.ownsRow_made (base := wx.heap.size) (e := 29) (size := 5) wx #[] 0 (Nat.le_refl _) (by simp [maxLen]) rfl)
            have OW2 : Hid (World.ownsRow ((wx.alloc (.cells #[] 29)).alloc (.cells #[.int .i64 xt.kind, .int .i64 xt.n, .int .i64 xt.x, .string xt.s, .slice xa xt.l.length xc, .int .i64 yt.kind, .int .i64 yt.n, .int .i64 yt.x, .string yt.s, .slice ya yt.l.length yc] 29)).drew wx.heap.size 29 5 (.slice (some ⟨wx.heap.size, 0, none⟩) 0 0) 0 []) := Lib.hid ((World.ownsRow_made (base := wx.heap.size) (e := 29) (size := 5) wx #[] 0 (Nat.le_refl _) (by simp [maxLen]) rfl).alloc _)
            have OW3 : Hid (World.ownsRow ((wx.alloc (.cells #[.int .i64 xt.kind, .int .i64 xt.n, .int .i64 xt.x, .string xt.s, .slice xa xt.l.length xc, .int .i64 yt.kind, .int .i64 yt.n, .int .i64 yt.x, .string yt.s, .slice ya yt.l.length yc] 29)).alloc (.cells #[] 29)).drew wx.heap.size 29 5 (.slice (some ⟨wx.heap.size + 1, 0, none⟩) 0 0) 0 []) := Lib.hid (by
              have h := World.ownsRow_made (base := wx.heap.size) (e := 29) (size := 5) (wx.alloc (.cells #[.int .i64 xt.kind, .int .i64 xt.n, .int .i64 xt.x, .string xt.s, .slice xa xt.l.length xc, .int .i64 yt.kind, .int .i64 yt.n, .int .i64 yt.x, .string yt.s, .slice ya yt.l.length yc] 29)) #[] 0 (by simp only [World.size_alloc]; omega) (by simp [maxLen]) rfl
              simp only [World.size_alloc] at h
              exact h)
            have dd : Below wx.heap.size wx wx := Below.refl _ _
            go_wp2_with fail
            go_region_held3 (fun ww => ww.cell? ⟨w1.heap.size, 4, none⟩ = some (.slice (some ⟨g, 0, none⟩) (2 * N) c1) ∧ ww.cell? ⟨g, I * 5, none⟩ = some (.int .i64 xt.kind) ∧ ww.cell? ⟨g, I * 5 + 1, none⟩ = some (.int .i64 xt.n) ∧ ww.cell? ⟨g, I * 5 + 2, none⟩ = some (.int .i64 xt.x) ∧ ww.cell? ⟨g, I * 5 + 3, none⟩ = some (.string xt.s) ∧ ww.cell? ⟨g, I * 5 + 4, none⟩ = some (.slice xa xt.l.length xc) ∧ ww.cell? ⟨g, (I + 1) * 5, none⟩ = some (.int .i64 yt.kind) ∧ ww.cell? ⟨g, (I + 1) * 5 + 1, none⟩ = some (.int .i64 yt.n) ∧ ww.cell? ⟨g, (I + 1) * 5 + 2, none⟩ = some (.int .i64 yt.x) ∧ ww.cell? ⟨g, (I + 1) * 5 + 3, none⟩ = some (.string yt.s) ∧ ww.cell? ⟨g, (I + 1) * 5 + 4, none⟩ = some (.slice ya yt.l.length yc)) (first | with_reducible exact HK.out _ dd | with_reducible exact HK.out _ dd.drew | with_reducible exact HK.out _ (bl_alloc dd _) | with_reducible exact HK.out _ ((bl_alloc dd _).drew) | with_reducible exact HK.out _ (bl_alloc (bl_alloc dd _) _) | with_reducible exact HK.out _ ((bl_alloc (bl_alloc dd _) _).drew))
              (first
               | (refine step_append_z rfl (.tmp 40) (.tmp 43) 27 rfl wx.heap.size 29 i0 _ 5 64 Tryd.underlying27 HI.out hz hs hb rfl (by decide) (.slice (some ⟨wx.heap.size, 0, none⟩) 0 0) 0 [] rfl ⟨g3, 0, none⟩ Kn cap3 (TK.flatMap Elem.cells) rfl ?_ (by simp) HTL.out ?_ HT1.out (by unfold maxLen; omega) (by omega) Kn (Nat.zero_add _) (TK.flatMap Elem.cells) (List.nil_append _) ?_ ?_; (with_reducible exact OW1.out); (with_reducible exact HTN.out _ (bl_alloc dd _).drew); (first | exact Nat.le_refl _ | (simp only [World.size_alloc, World.size_drew]; omega)); intro ga capa wa hown1 hgr1 hat1 hlt1; have da := ((bl_alloc dd _).drew).grown hgr1 (by simp only [World.size_alloc, World.size_drew]; omega) (fun k hk => by injection hk with hk; first | omega | (simp only at hk; omega)); clear dd; have dd := da; clear da; have HO1 := Lib.hid hown1; clear hown1 hgr1 hat1)
               | (refine step_append_z rfl (.tmp 40) (.tmp 43) 27 rfl wx.heap.size 29 i0 _ 5 64 Tryd.underlying27 HI.out hz hs hb rfl (by decide) (.slice (some ⟨wx.heap.size, 0, none⟩) 0 0) 0 [] rfl ⟨g3, 0, none⟩ Kn cap3 (TK.flatMap Elem.cells) rfl ?_ (by simp) HTL.out ?_ HT1.out (by unfold maxLen; omega) (by omega) Kn (Nat.zero_add _) (TK.flatMap Elem.cells) (List.nil_append _) ?_ ?_; (with_reducible exact OW2.out); (with_reducible exact HTN.out _ (bl_alloc (bl_alloc dd _) _).drew); (first | exact Nat.le_refl _ | (simp only [World.size_alloc, World.size_drew]; omega)); intro ga capa wa hown1 hgr1 hat1 hlt1; have hz0 := hgr1.block (wx.heap.size + 1) (by simp only [World.size_alloc, World.size_drew]; omega) (fun e => by injection e with e; first | omega | (simp only at e; omega) | (dsimp only at e; omega)); have hz1 := (first_blocks wx (.cells #[] 29) (.cells #[.int .i64 xt.kind, .int .i64 xt.n, .int .i64 xt.x, .string xt.s, .slice xa xt.l.length xc, .int .i64 yt.kind, .int .i64 yt.n, .int .i64 yt.x, .string yt.s, .slice ya yt.l.length yc] 29)).2; have HB : Hid (wa.heap[wx.heap.size + 1]? = some (.cells #[.int .i64 xt.kind, .int .i64 xt.n, .int .i64 xt.x, .string xt.s, .slice xa xt.l.length xc, .int .i64 yt.kind, .int .i64 yt.n, .int .i64 yt.x, .string yt.s, .slice ya yt.l.length yc] 29 (0, 0))) := Lib.hid (hz0.trans hz1); clear hz0 hz1; have da := ((bl_alloc (bl_alloc dd _) _).drew).grown hgr1 (by simp only [World.size_alloc, World.size_drew]; omega) (fun k hk => by injection hk with hk; first | omega | (simp only at hk; omega)); clear dd; have dd := da; clear da; have HO1 := Lib.hid hown1; clear hown1 hgr1 hat1)
               | (refine step_append_z rfl (.tmp 40) (.tmp 43) 27 rfl wx.heap.size 29 i0 _ 5 64 Tryd.underlying27 HI.out hz hs hb rfl (by decide) (.slice (some ⟨wx.heap.size + 1, 0, none⟩) 0 0) 0 [] rfl ⟨g3, 0, none⟩ Kn cap3 (TK.flatMap Elem.cells) rfl ?_ (by simp) HTL.out ?_ HT1.out (by unfold maxLen; omega) (by omega) Kn (Nat.zero_add _) (TK.flatMap Elem.cells) (List.nil_append _) ?_ ?_; (with_reducible exact OW3.out); (with_reducible exact HTN.out _ (bl_alloc (bl_alloc dd _) _).drew); (first | exact Nat.le_refl _ | (simp only [World.size_alloc, World.size_drew]; omega)); intro ga capa wa hown1 hgr1 hat1 hlt1; have hz0 := hgr1.block (wx.heap.size) (by simp only [World.size_alloc, World.size_drew]; omega) (fun e => by injection e with e; first | omega | (simp only at e; omega) | (dsimp only at e; omega)); have hz1 := (first_blocks wx (.cells #[.int .i64 xt.kind, .int .i64 xt.n, .int .i64 xt.x, .string xt.s, .slice xa xt.l.length xc, .int .i64 yt.kind, .int .i64 yt.n, .int .i64 yt.x, .string yt.s, .slice ya yt.l.length yc] 29) (.cells #[] 29)).1; have HB : Hid (wa.heap[wx.heap.size]? = some (.cells #[.int .i64 xt.kind, .int .i64 xt.n, .int .i64 xt.x, .string xt.s, .slice xa xt.l.length xc, .int .i64 yt.kind, .int .i64 yt.n, .int .i64 yt.x, .string yt.s, .slice ya yt.l.length yc] 29 (0, 0))) := Lib.hid (hz0.trans hz1); clear hz0 hz1; have da := ((bl_alloc (bl_alloc dd _) _).drew).grown hgr1 (by simp only [World.size_alloc, World.size_drew]; omega) (fun k hk => by injection hk with hk; first | omega | (simp only at hk; omega)); clear dd; have dd := da; clear da; have HO1 := Lib.hid hown1; clear hown1 hgr1 hat1)
               | (refine step_append_z rfl (.tmp 44) (.tmp 56) 27 rfl wx.heap.size 29 i0 _ 5 64 Tryd.underlying27 HI.out hz hs hb rfl (by decide) (.slice (some ⟨ga, 0, none⟩) Kn capa) Kn (TK.flatMap Elem.cells) rfl ⟨wa.heap.size, 0, none⟩ 2 2 (cells5 xt (.slice xa xt.l.length xc) ++ cells5 yt (.slice ya yt.l.length yc)) rfl ?_ (by simp) rfl ?_ HXY.out (by unfold maxLen; omega) (by omega) (Kn + 2) rfl ((TK.flatMap Elem.cells) ++ (cells5 xt (.slice xa xt.l.length xc) ++ cells5 yt (.slice ya yt.l.length yc))) rfl ?_ ?_; (with_reducible exact HO1.out.alloc _); (exact World.news_of_block (heap_alloc_new wa _)); (have hq := dd.size; (try simp only [World.size_alloc]); omega); intro gb capb wb hown2 hgr2 hat2 hlt2; have hg1x := HO1.out.lt; have da : Below wx.heap.size wx wb := (by first | exact (bl_alloc dd _).grown hgr2 (by first | exact Nat.le_refl _ | exact dd.size | (have hq := dd.size; (try simp only [World.size_alloc]); omega)) (fun k hk => (hg1x k hk).1)); clear dd; have dd := da; clear da; have HO2x := Lib.hid hown2; clear hown2 hgr2 hat2 hg1x)
               | (refine step_append_z rfl (.tmp 44) (.tmp 56) 27 rfl wx.heap.size 29 i0 _ 5 64 Tryd.underlying27 HI.out hz hs hb rfl (by decide) (.slice (some ⟨ga, 0, none⟩) Kn capa) Kn (TK.flatMap Elem.cells) rfl ⟨wx.heap.size + 1, 0, none⟩ 2 2 (cells5 xt (.slice xa xt.l.length xc) ++ cells5 yt (.slice ya yt.l.length yc)) rfl ?_ (by simp) rfl ?_ HXY.out (by unfold maxLen; omega) (by omega) (Kn + 2) rfl ((TK.flatMap Elem.cells) ++ (cells5 xt (.slice xa xt.l.length xc) ++ cells5 yt (.slice ya yt.l.length yc))) rfl ?_ ?_; (with_reducible exact HO1.out); (exact World.news_of_block HB.out); (have hq := dd.size; (try simp only [World.size_alloc, World.size_drew]); omega); intro gb capb wb hown2 hgr2 hat2 hlt2; have hg1x := HO1.out.lt; have da : Below wx.heap.size wx wb := (by first | exact (dd).grown hgr2 (by first | exact Nat.le_refl _ | exact dd.size | (have hq := dd.size; (try simp only [World.size_alloc, World.size_drew]); omega)) (fun k hk => (hg1x k hk).1)); clear dd; have dd := da; clear da; have HO2x := Lib.hid hown2; clear hown2 hgr2 hat2 hg1x)
               | (refine step_append_z rfl (.tmp 44) (.tmp 56) 27 rfl wx.heap.size 29 i0 _ 5 64 Tryd.underlying27 HI.out hz hs hb rfl (by decide) (.slice (some ⟨ga, 0, none⟩) Kn capa) Kn (TK.flatMap Elem.cells) rfl ⟨wx.heap.size, 0, none⟩ 2 2 (cells5 xt (.slice xa xt.l.length xc) ++ cells5 yt (.slice ya yt.l.length yc)) rfl ?_ (by simp) rfl ?_ HXY.out (by unfold maxLen; omega) (by omega) (Kn + 2) rfl ((TK.flatMap Elem.cells) ++ (cells5 xt (.slice xa xt.l.length xc) ++ cells5 yt (.slice ya yt.l.length yc))) rfl ?_ ?_; (with_reducible exact HO1.out); (exact World.news_of_block HB.out); (have hq := dd.size; (try simp only [World.size_alloc, World.size_drew]); omega); intro gb capb wb hown2 hgr2 hat2 hlt2; have hg1x := HO1.out.lt; have da : Below wx.heap.size wx wb := (by first | exact (dd).grown hgr2 (by first | exact Nat.le_refl _ | exact dd.size | (have hq := dd.size; (try simp only [World.size_alloc, World.size_drew]); omega)) (fun k hk => (hg1x k hk).1)); clear dd; have dd := da; clear da; have HO2x := Lib.hid hown2; clear hown2 hgr2 hat2 hg1x)
               | (refine step_append_z rfl (.tmp 57) (.tmp 60) 27 rfl wx.heap.size 29 i0 _ 5 64 Tryd.underlying27 HI.out hz hs hb rfl (by decide) (.slice (some ⟨gb, 0, none⟩) (Kn + 2) capb) (Kn + 2) ((TK.flatMap Elem.cells) ++ (cells5 xt (.slice xa xt.l.length xc) ++ cells5 yt (.slice ya yt.l.length yc))) rfl AD (I - Kn) (cap3 - Kn) (DK.flatMap Elem.cells) (congrArg (fun q => Value.slice q (I - Kn) (cap3 - Kn)) HAD.out) ?_ (by simp) HDL.out ?_ HD1.out (by unfold maxLen; omega) (by omega) (I + 2) (by omega) ((sortF ltE es (j + 1)).flatMap Elem.cells) HE2.out.symm ?_ ?_; (with_reducible exact HO2x.out); (with_reducible exact HADN.out _ dd); (have hq := dd.size; omega); intro gc capc wc hown3 hgr3 hat3 hlt3; have hg1x := HO2x.out.lt; have da := dd.grown hgr3 dd.size (fun k hk => (hg1x k hk).1); clear dd; have dd := da; clear da; have HO3 := Lib.hid hown3; clear hown3 hgr3 hat3 hg1x))
            all_goals
              have how3 := HO3.out
              have hsw2 : w2.heap.size ≤ wx.heap.size := by have h1 := HBW.out.size; have h2 := HBX.out.size; omega
              have how4 := Lib.hid (owns_mono how3 hsw2)
              have HBN := Lib.hid (HBW.out.trans ((HBX.out.trans (dd.mono HBX.out.size)).mono HBW.out.size))
              clear how3 dd X0 X1 X2 X3 X4 Y0 Y1 Y2 Y3 Y4 O4
              go_wp2_with fail
              go_roundw
              case rel => exact ⟨j + 1, I + 2, _, _, by omega, by have := HII.out; omega, by go_num, rfl, how4, HBN⟩
              case measure => simp [intOf]; omega
        · obtain rfl : j = N := by omega
          have hrow := rowE_of (es := sortF ltE es j) (by have h := HOW.out; rw [show I = (sortF ltE es j).length by rw [sortF_len (by omega)]; exact hI] at h; exact h) (by rw [sortF_len (by omega)]; omega)
          obtain ⟨g', cap', hv, hr3, hcm3, hlo3⟩ := hrow
          injection hv with hv1 hv2 hv3
          injection hv1 with hv1
          injection hv1 with hv4
          subst hv3 hv4
          have hgO : g3 ≠ w1.heap.size := by omega
          have hr4 : RowE (wr.setCell ⟨w1.heap.size, 4, none⟩ (.slice (some ⟨g3, 0, none⟩) I cap3)) g3 cap3 29 (sortF ltE es j) := hr3.of_block (Below.heap_setCell _ _ _ _ hgO)
          have hok4 : EsOk (wr.setCell ⟨w1.heap.size, 4, none⟩ (.slice (some ⟨g3, 0, none⟩) I cap3)) 29 (w.heap.size + 1 + 1) g3 (sortF ltE es j) :=
            (EsOk.perm ((HOK1.out.other (g' := g3) (by omega)).kept (by have := HBW.out.size; simp only [World.size_setCell]; omega) (fun b hb _ => by rw [Below.heap_setCell _ _ _ _ (show b ≠ w1.heap.size by omega), HBW.out.block b (by omega), B12.out b hb])) ((sortF_perm (lt := ltE) (l := es) (i := j) (by omega)).trans (by rw [List.take_of_length_le (by omega)])))
          have hso := osl_shut hr4 hcm3 hok4 (by omega) (by rw [sortE_map es (by omega), HMAP.out])
          have hlF : (sortF lessT t.l j).length = I := by rw [← HMAP.out, ← sortE_map es (by omega), List.length_map, sortF_len (by omega)]; omega
          rw [hlF] at hso
          have HSO := Lib.hid hso
          have hswr := HBW.out.size
          have XRr := Lib.hid (bx_below XR2.out HBW.out)
          have BWr := Lib.hid (vnx BW2.out HBW.out)
          have hjn : ¬ (I : Int) < 2 * (j : Int) := by omega
          clear hso hlF hr3 hr4 hok4 hI
          have Rl := bx_lt XRr.out
          obtain ⟨R0, R1, R2, R3, R4, Rf⟩ := five_kept (Below.refl _ _) XRr.out
          have Rf0 := Rf 0; have Rf1 := Rf 1; have Rf2 := Rf 2; have Rf3 := Rf 3; have Rf4 := Rf 4; clear Rf
          obtain ⟨O0, O1, O2, O3, O4, Of⟩ := five_kept (Below.refl _ _) XOr.out
          clear Of O4
          have O4 := (five_kept (Below.refl _ _) XOr.out).2.2.2.2.1
          have hRO : w.heap.size + 1 < w1.heap.size := by omega
          have hRO2 : w.heap.size + 1 ≠ w1.heap.size := by omega
          go_wp2_with fail
          refine bodyPost_ret (v := .agg #[.int .i64 t.kind, .int .i64 t.n, .int .i64 t.x, .string t.s, .slice (some ⟨g3, 0, none⟩) I cap3]) (by simp [results, Tryd.results20, go_sem, R0, R1, R2, R3, R4]) rfl ?_
          unfold CopyP
          refine ⟨_, _, _, rfl, ?_, ?_⟩
          · refine OSl.mono (S := Rng (w.heap.size + 1 + 1) wr.heap.size) ?_ (fun b hb => ⟨by have := hb.1; omega, by have := hb.2; simp only [World.size_setCell]; omega⟩)
            iterate 5 refine osl_sets ?_ (by dsimp only; omega) _
            have h := HSO.out
            simp only [World.size_setCell] at h
            exact h
          · repeat (first | with_reducible exact BWr.out | with_reducible refine bl_set ?_ _ (by omega))
    · obtain rfl : N = 0 := by omega
      have htl : t.l = [] := List.eq_nil_of_length_eq_zero (by omega)
      have HTL := Lib.hid htl
      have hd : decide ((0 : Int) < (t.l.length : Int)) = false := decide_eq_false (by omega)
      have hd2 : ¬ ((0 : Int) < (t.l.length : Int)) := by omega
      have HL0 := Lib.hid hn2
      clear hn2 htl h0 hlen
      have Rl := bx_lt XR2.out
      obtain ⟨R0, R1, R2, R3, R4, Rf⟩ := five_kept (Below.refl _ _) XR2.out
      have Rf0 := Rf 0; have Rf1 := Rf 1; have Rf2 := Rf 2; have Rf3 := Rf 3; have Rf4 := Rf 4; clear Rf
      have Ol := bx_lt XO2.out
      obtain ⟨O0, O1, O2, O3, O4, Of⟩ := five_kept (Below.refl _ _) XO2.out
      have Of0 := Of 0; have Of1 := Of 1; have Of2 := Of 2; have Of3 := Of 3; have Of4 := Of 4
      clear Of
      have hRO : w.heap.size + 1 < w1.heap.size := by omega
      go_wp2_with fail
      go_loopw [4, 5] (fun v i wr => v = .slice (some ⟨w2.heap.size, 0, none⟩) 0 0 ∧ i = .int .i64 0 ∧ wr = w2.alloc (.cells #[] 29)) (fun _ _ _ => 0)
      case atStart => exact ⟨rfl, rfl, rfl⟩
      case round =>
        obtain ⟨rfl, rfl, rfl⟩ := hrel
        go_wp2_with fail
        refine bodyPost_ret (v := .agg #[.int .i64 t.kind, .int .i64 t.n, .int .i64 t.x, .string t.s, .slice (some ⟨w2.heap.size, 0, none⟩) 0 0]) (by simp [results, Tryd.results20, go_sem, Rl, R0, R1, R2, R3, R4]) rfl ?_
        unfold CopyP
        refine ⟨_, _, _, rfl, ?_, ?_⟩
        · exact OSl.nil _ _ _ (by simp [maxLen])
        · repeat (first | with_reducible exact BW2.out | with_reducible refine bl_set ?_ _ (by omega) | with_reducible refine bl_alloc ?_ _)
end Go.Proofs.YtilmhemcpgiikaaDoor
