/- Vals: texts of the proof (DFlt). -/
import Derived.Test.YtilmhemcpgiikaaGreatDoorSVals23
import Derived.Deep.RegionWith
import Derived.Deep.RegionHeld3
import Derived.Test.YtilmhemcpgiikaaGreatDoorSVals26
/- The draws of numbers by halves. -/
namespace Go.Proofs.YtilmhemcpgiikaaGreatDoor
open Go.Deep Go.ChangeShapes Go.WideShapes Go.ChangeAt Go.RowKit

theorem flt_rng {m e : Int} (h : fltOkF m e = true) : wf6 m ∧ wf6 e := by
  unfold fltOkF at h
  unfold wf6
  split at h
  · have := eq_of_beq h; omega
  · have := of_decide_eq_true h; omega
theorem flt_ok1 {m e : Int} (h1 : m % 2 = 1) (h2 : -65535 ≤ m ∧ m ≤ 65535) (h3 : -16 ≤ e ∧ e ≤ 30) : fltOkF m e = true := by
  unfold fltOkF
  rw [if_neg (by omega)]
  exact decide_eq_true ⟨h1, h2.1, h2.2, h3.1, .inl h3.2⟩
/-- FltDec gives a valid number. -/
theorem fdF_ok (m e : Int) : decOkB (fltDecF m e).1 (fltDecF m e).2 = true := by
  have z : decOkB 0 0 = true := decOkB_iff.2 (.inl ⟨rfl, by decide, by decide⟩)
  unfold fltDecF
  split
  · rename_i hk
    split
    · rename_i h; exact decOkB_iff.2 (.inl ⟨rfl, (fltOkF_range hk).2.2.2.2 h⟩)
    · exact dnF_ok _ _
  · exact z
set_option maxRecDepth 100000 in
set_option maxHeartbeats 4000000 in
theorem l5Draw_c (P : Nat) (w : World) (hC : Cur w P) :
    Calls Tryz.prog 63 #[.pointer (some ⟨P, 0, none⟩)] w fun e w' => ∃ m x : Int, e = .returned (.agg #[.int .i64 m, .int .i64 x]) ∧ fltOkF m x = true ∧ Cur w' P ∧ w.grownBy w' (some P) := by
  have HC := Lib.hid hC; clear hC
  have HP := Lib.hid HC.out.lt
  have LER := Lib.hid (Nat.le_refl w.heap.size)
  go_enter Tryz.func63, Tryz.ntmps63
  go_wp2_with fail
  refine (l1Below_c P 32767 _ (by exact (Cur.alloc HC.out _)) (by omega)).mono ?_
  rintro _ w1 ⟨k, rfl, k0, k1, -, -, C', G'⟩
  have C1 := Lib.hid C'; clear C'
  have XR1 : Hid (w1.heap[w.heap.size]? = some (.cells #[.int .i64 0, .int .i64 0] 58 (0, 0))) := Lib.hid (box_gr (heap_alloc_new _ _) G' (by have h1 := HP.out; have h2 := LER.out; omega))
  have G1 := Lib.hid (gr_trans (gr_alloc (gr_refl (w := w) (P := P)) _) G')
  clear G'
  replace k1 := k1 (by omega)
  go_wp2_with fail
  refine (l1Int_c P [0, 1, 3, 5, 255, 32767, 65535, 1 + 2 * k] w1.heap.size 8 _ (by exact (Cur.alloc C1.out _)) (rd_laid w1 _ _) (Nat.ne_of_gt (Cur.lt C1.out)) (by simp) (by simp) (by simp)).mono ?_
  rintro _ w2 ⟨m, rfl, hm', C', G'⟩
  have Hm := Lib.hid hm'; clear hm'
  have C2 := Lib.hid C'; clear C'
  have XR2 : Hid (w2.heap[w.heap.size]? = some (.cells #[.int .i64 0, .int .i64 0] 58 (0, 0))) := Lib.hid (box_gr (box_alloc XR1.out _) G' (by have h1 := HP.out; have h2 := LER.out; omega))
  have G2 := Lib.hid (gr_trans (gr_alloc G1.out _) G')
  clear G'
  have hm : 0 ≤ m ∧ m ≤ 65535 ∧ (m = 0 ∨ m % 2 = 1) := by have h := Hm.out; simp at h; omega
  clear Hm
  go_wp2_with fail
  refine (l1Below_c P 47 _ (by exact C2.out) (by omega)).mono ?_
  rintro _ w3 ⟨j, rfl, j0, j1, -, -, C', G'⟩
  have C3 := Lib.hid C'; clear C'
  have XR3 : Hid (w3.heap[w.heap.size]? = some (.cells #[.int .i64 0, .int .i64 0] 58 (0, 0))) := Lib.hid (box_gr XR2.out G' (by have h1 := HP.out; have h2 := LER.out; omega))
  have G3 := Lib.hid (gr_trans G2.out G')
  clear G'
  replace j1 := j1 (by omega)
  go_wp2_with fail
  refine (l1Int_c P [0, 0, 1, -1, -16, 30, j - 16] w3.heap.size 7 _ (by exact (Cur.alloc C3.out _)) (rd_laid w3 _ _) (Nat.ne_of_gt (Cur.lt C3.out)) (by simp) (by simp) (by simp)).mono ?_
  rintro _ w4 ⟨e, rfl, he', C', G'⟩
  have He := Lib.hid he'; clear he'
  have C4 := Lib.hid C'; clear C'
  have XR4 : Hid (w4.heap[w.heap.size]? = some (.cells #[.int .i64 0, .int .i64 0] 58 (0, 0))) := Lib.hid (box_gr (box_alloc XR3.out _) G' (by have h1 := HP.out; have h2 := LER.out; omega))
  have G4 := Lib.hid (gr_trans (gr_alloc G3.out _) G')
  clear G'
  have he : -16 ≤ e ∧ e ≤ 30 := by have h := He.out; simp at h; omega
  clear He
  by_cases h0 : m = 0
  · subst h0
    go_wp2_with fail
    refine (l1Once_c P 3 _ (by exact C4.out) (by omega)).mono ?_
    rintro _ w5 ⟨t, rfl, C', G'⟩
    have C5 := Lib.hid C'; clear C'
    have XR5 : Hid (w5.heap[w.heap.size]? = some (.cells #[.int .i64 0, .int .i64 0] 58 (0, 0))) := Lib.hid (box_gr XR4.out G' (by have h1 := HP.out; have h2 := LER.out; omega))
    have G5 := Lib.hid (gr_trans G4.out G')
    clear G'
    cases t with
    | true =>
      have Rl := box_lt XR5.out
      obtain ⟨R0, R1, Rf0, Rf1⟩ := box_two XR5.out
      go_wp2_with fail
      refine bodyPost_ret (v := .agg #[.int .i64 (0), .int .i64 (0)]) (by simp [results, Tryz.results63, go_sem, R0, R1]) rfl ⟨_, _, rfl, by decide, ?_, ?_⟩
      · repeat (first | exact C5.out | refine Cur.set ?_ _ (by have h1 := HP.out; have h2 := G1.out.size; have h3 := G2.out.size; have h4 := G3.out.size; have h5 := G4.out.size; have h6 := G5.out.size; omega) | refine Cur.alloc ?_ _)
      · repeat (first | exact G5.out | refine gr_sets ?_ _ (by have h2 := G1.out.size; have h3 := G2.out.size; have h4 := G3.out.size; have h5 := G4.out.size; have h6 := G5.out.size; omega) | refine gr_alloc ?_ _)
    | false =>
      have Rl := box_lt XR5.out
      obtain ⟨R0, R1, Rf0, Rf1⟩ := box_two XR5.out
      go_wp2_with fail
      refine bodyPost_ret (v := .agg #[.int .i64 (0), .int .i64 (0)]) (by simp [results, Tryz.results63, go_sem, R0, R1]) rfl ⟨_, _, rfl, by decide, ?_, ?_⟩
      · repeat (first | exact C5.out | refine Cur.set ?_ _ (by have h1 := HP.out; have h2 := G1.out.size; have h3 := G2.out.size; have h4 := G3.out.size; have h5 := G4.out.size; have h6 := G5.out.size; omega) | refine Cur.alloc ?_ _)
      · repeat (first | exact G5.out | refine gr_sets ?_ _ (by have h2 := G1.out.size; have h3 := G2.out.size; have h4 := G3.out.size; have h5 := G4.out.size; have h6 := G5.out.size; omega) | refine gr_alloc ?_ _)
  · have h0b : (m == 0) = false := by simpa using h0
    by_cases h1 : m = 1
    · subst h1
      go_wp2_with fail
      refine (l1Once_c P 2 _ (by exact C4.out) (by omega)).mono ?_
      rintro _ w5 ⟨q, rfl, C', G'⟩
      have C5 := Lib.hid C'; clear C'
      have XR5 : Hid (w5.heap[w.heap.size]? = some (.cells #[.int .i64 0, .int .i64 0] 58 (0, 0))) := Lib.hid (box_gr XR4.out G' (by have h1 := HP.out; have h2 := LER.out; omega))
      have G5 := Lib.hid (gr_trans G4.out G')
      clear G'
      cases q with
      | true =>
        go_wp2_with fail
        refine (l1Int_c P [31, 45] w5.heap.size 2 _ (by exact (Cur.alloc C5.out _)) (rd_laid w5 _ _) (Nat.ne_of_gt (Cur.lt C5.out)) (by simp) (by simp) (by simp)).mono ?_
        rintro _ w6 ⟨g, rfl, hg', C', G'⟩
        have Hg := Lib.hid hg'; clear hg'
        have C6 := Lib.hid C'; clear C'
        have XR6 : Hid (w6.heap[w.heap.size]? = some (.cells #[.int .i64 0, .int .i64 0] 58 (0, 0))) := Lib.hid (box_gr (box_alloc XR5.out _) G' (by have h1 := HP.out; have h2 := LER.out; omega))
        have G6 := Lib.hid (gr_trans (gr_alloc G5.out _) G')
        clear G'
        have hg : g = 31 ∨ g = 45 := by have h := Hg.out; simp at h; omega
        clear Hg
        go_wp2_with fail
        refine (l1Once_c P 3 _ (by exact C6.out) (by omega)).mono ?_
        rintro _ w7 ⟨t, rfl, C', G'⟩
        have C7 := Lib.hid C'; clear C'
        have XR7 : Hid (w7.heap[w.heap.size]? = some (.cells #[.int .i64 0, .int .i64 0] 58 (0, 0))) := Lib.hid (box_gr XR6.out G' (by have h1 := HP.out; have h2 := LER.out; omega))
        have G7 := Lib.hid (gr_trans G6.out G')
        clear G'
        cases t with
        | true =>
          have Rl := box_lt XR7.out
          obtain ⟨R0, R1, Rf0, Rf1⟩ := box_two XR7.out
          go_wp2_with fail
          refine bodyPost_ret (v := .agg #[.int .i64 (-1), .int .i64 (g)]) (by simp [results, Tryz.results63, go_sem, R0, R1]) rfl ⟨_, _, rfl, by rcases hg with rfl | rfl <;> decide, ?_, ?_⟩
          · repeat (first | exact C7.out | refine Cur.set ?_ _ (by have h1 := HP.out; have h2 := G1.out.size; have h3 := G2.out.size; have h4 := G3.out.size; have h5 := G4.out.size; have h6 := G5.out.size; have h7 := G6.out.size; have h8 := G7.out.size; omega) | refine Cur.alloc ?_ _)
          · repeat (first | exact G7.out | refine gr_sets ?_ _ (by have h2 := G1.out.size; have h3 := G2.out.size; have h4 := G3.out.size; have h5 := G4.out.size; have h6 := G5.out.size; have h7 := G6.out.size; have h8 := G7.out.size; omega) | refine gr_alloc ?_ _)
        | false =>
          have Rl := box_lt XR7.out
          obtain ⟨R0, R1, Rf0, Rf1⟩ := box_two XR7.out
          go_wp2_with fail
          refine bodyPost_ret (v := .agg #[.int .i64 (1), .int .i64 (g)]) (by simp [results, Tryz.results63, go_sem, R0, R1]) rfl ⟨_, _, rfl, by rcases hg with rfl | rfl <;> decide, ?_, ?_⟩
          · repeat (first | exact C7.out | refine Cur.set ?_ _ (by have h1 := HP.out; have h2 := G1.out.size; have h3 := G2.out.size; have h4 := G3.out.size; have h5 := G4.out.size; have h6 := G5.out.size; have h7 := G6.out.size; have h8 := G7.out.size; omega) | refine Cur.alloc ?_ _)
          · repeat (first | exact G7.out | refine gr_sets ?_ _ (by have h2 := G1.out.size; have h3 := G2.out.size; have h4 := G3.out.size; have h5 := G4.out.size; have h6 := G5.out.size; have h7 := G6.out.size; have h8 := G7.out.size; omega) | refine gr_alloc ?_ _)
      | false =>
        go_wp2_with fail
        refine (l1Once_c P 3 _ (by exact C5.out) (by omega)).mono ?_
        rintro _ w6 ⟨t, rfl, C', G'⟩
        have C6 := Lib.hid C'; clear C'
        have XR6 : Hid (w6.heap[w.heap.size]? = some (.cells #[.int .i64 0, .int .i64 0] 58 (0, 0))) := Lib.hid (box_gr XR5.out G' (by have h1 := HP.out; have h2 := LER.out; omega))
        have G6 := Lib.hid (gr_trans G5.out G')
        clear G'
        cases t with
        | true =>
          have Rl := box_lt XR6.out
          obtain ⟨R0, R1, Rf0, Rf1⟩ := box_two XR6.out
          go_wp2_with fail
          refine bodyPost_ret (v := .agg #[.int .i64 (-1), .int .i64 (e)]) (by simp [results, Tryz.results63, go_sem, R0, R1]) rfl ⟨_, _, rfl, flt_ok1 (by decide) (by omega) he, ?_, ?_⟩
          · repeat (first | exact C6.out | refine Cur.set ?_ _ (by have h1 := HP.out; have h2 := G1.out.size; have h3 := G2.out.size; have h4 := G3.out.size; have h5 := G4.out.size; have h6 := G5.out.size; have h7 := G6.out.size; omega) | refine Cur.alloc ?_ _)
          · repeat (first | exact G6.out | refine gr_sets ?_ _ (by have h2 := G1.out.size; have h3 := G2.out.size; have h4 := G3.out.size; have h5 := G4.out.size; have h6 := G5.out.size; have h7 := G6.out.size; omega) | refine gr_alloc ?_ _)
        | false =>
          have Rl := box_lt XR6.out
          obtain ⟨R0, R1, Rf0, Rf1⟩ := box_two XR6.out
          go_wp2_with fail
          refine bodyPost_ret (v := .agg #[.int .i64 (1), .int .i64 (e)]) (by simp [results, Tryz.results63, go_sem, R0, R1]) rfl ⟨_, _, rfl, flt_ok1 (by decide) (by omega) he, ?_, ?_⟩
          · repeat (first | exact C6.out | refine Cur.set ?_ _ (by have h1 := HP.out; have h2 := G1.out.size; have h3 := G2.out.size; have h4 := G3.out.size; have h5 := G4.out.size; have h6 := G5.out.size; have h7 := G6.out.size; omega) | refine Cur.alloc ?_ _)
          · repeat (first | exact G6.out | refine gr_sets ?_ _ (by have h2 := G1.out.size; have h3 := G2.out.size; have h4 := G3.out.size; have h5 := G4.out.size; have h6 := G5.out.size; have h7 := G6.out.size; omega) | refine gr_alloc ?_ _)
    · have h1b : (m == 1) = false := by simpa using h1
      go_wp2_with fail
      refine (l1Once_c P 3 _ (by exact C4.out) (by omega)).mono ?_
      rintro _ w5 ⟨t, rfl, C', G'⟩
      have C5 := Lib.hid C'; clear C'
      have XR5 : Hid (w5.heap[w.heap.size]? = some (.cells #[.int .i64 0, .int .i64 0] 58 (0, 0))) := Lib.hid (box_gr XR4.out G' (by have h1 := HP.out; have h2 := LER.out; omega))
      have G5 := Lib.hid (gr_trans G4.out G')
      clear G'
      cases t with
      | true =>
        have Rl := box_lt XR5.out
        obtain ⟨R0, R1, Rf0, Rf1⟩ := box_two XR5.out
        go_wp2_with fail
        refine bodyPost_ret (v := .agg #[.int .i64 (-m), .int .i64 (e)]) (by simp [results, Tryz.results63, go_sem, R0, R1]) rfl ⟨_, _, rfl, flt_ok1 (by omega) (by omega) he, ?_, ?_⟩
        · repeat (first | exact C5.out | refine Cur.set ?_ _ (by have h1 := HP.out; have h2 := G1.out.size; have h3 := G2.out.size; have h4 := G3.out.size; have h5 := G4.out.size; have h6 := G5.out.size; omega) | refine Cur.alloc ?_ _)
        · repeat (first | exact G5.out | refine gr_sets ?_ _ (by have h2 := G1.out.size; have h3 := G2.out.size; have h4 := G3.out.size; have h5 := G4.out.size; have h6 := G5.out.size; omega) | refine gr_alloc ?_ _)
      | false =>
        have Rl := box_lt XR5.out
        obtain ⟨R0, R1, Rf0, Rf1⟩ := box_two XR5.out
        go_wp2_with fail
        refine bodyPost_ret (v := .agg #[.int .i64 (m), .int .i64 (e)]) (by simp [results, Tryz.results63, go_sem, R0, R1]) rfl ⟨_, _, rfl, flt_ok1 (by omega) (by omega) he, ?_, ?_⟩
        · repeat (first | exact C5.out | refine Cur.set ?_ _ (by have h1 := HP.out; have h2 := G1.out.size; have h3 := G2.out.size; have h4 := G3.out.size; have h5 := G4.out.size; have h6 := G5.out.size; omega) | refine Cur.alloc ?_ _)
        · repeat (first | exact G5.out | refine gr_sets ?_ _ (by have h2 := G1.out.size; have h3 := G2.out.size; have h4 := G3.out.size; have h5 := G4.out.size; have h6 := G5.out.size; omega) | refine gr_alloc ?_ _)
set_option maxRecDepth 100000 in
set_option maxHeartbeats 4000000 in
theorem l5Dec_c (P : Nat) (w : World) (hC : Cur w P) :
    Calls Tryz.prog 64 #[.pointer (some ⟨P, 0, none⟩)] w fun e w' => ∃ n x : Int, e = .returned (.agg #[.int .i64 n, .int .i64 x]) ∧ decOkB n x = true ∧ Cur w' P ∧ w.grownBy w' (some P) := by
  have HC := Lib.hid hC; clear hC
  have HP := Lib.hid HC.out.lt
  have LER := Lib.hid (Nat.le_refl w.heap.size)
  go_enter Tryz.func64, Tryz.ntmps64
  go_wp2_with fail
  refine (l1Once_c P 2 _ (by exact (Cur.alloc HC.out _)) (by omega)).mono ?_
  rintro _ w1 ⟨t, rfl, C', G'⟩
  have C1 := Lib.hid C'; clear C'
  have XR1 : Hid (w1.heap[w.heap.size]? = some (.cells #[.int .i64 0, .int .i64 0] 34 (0, 0))) := Lib.hid (box_gr (heap_alloc_new _ _) G' (by have h1 := HP.out; have h2 := LER.out; omega))
  have G1 := Lib.hid (gr_trans (gr_alloc (gr_refl (w := w) (P := P)) _) G')
  clear G'
  cases t with
  | true =>
    go_wp2_with fail
    refine (l5Draw_c P _ (by exact C1.out)).mono ?_
    rintro _ w2 ⟨m, f, rfl, hm', C', G'⟩
    have Hm := Lib.hid hm'; clear hm'
    have C2 := Lib.hid C'; clear C'
    have XR2 : Hid (w2.heap[w.heap.size]? = some (.cells #[.int .i64 0, .int .i64 0] 34 (0, 0))) := Lib.hid (box_gr XR1.out G' (by have h1 := HP.out; have h2 := LER.out; omega))
    have G2 := Lib.hid (gr_trans G1.out G')
    clear G'
    go_wp2_with fail
    refine (fltDec_spec m f _).mono ?_
    rintro _ w3 ⟨rfl, b'⟩
    have C3 := Lib.hid (Cur.below C2.out b')
    have XR3 : Hid (w3.heap[w.heap.size]? = some (.cells #[.int .i64 0, .int .i64 0] 34 (0, 0))) := Lib.hid (box_below XR2.out b')
    have G3 := Lib.hid (gr_on G2.out b')
    clear b'
    have HOK := Lib.hid (fdF_ok m f)
    obtain ⟨⟨A, B⟩, hQ⟩ : ∃ z : Int × Int, fltDecF m f = z := ⟨_, rfl⟩
    rw [hQ] at HOK ⊢
    clear hQ
    have HOK2 : Hid (decOkB A B = true) := HOK; clear HOK
    dsimp only
    have hAB := dec_rng HOK2.out
    have LED := Lib.hid G3.out.size
    have hRD := box_lt XR3.out
    have NERD := Lib.hid (Nat.ne_of_lt hRD)
    have NEDR := Lib.hid (Nat.ne_of_gt hRD)
    go_wp2_with fail
    refine (l1Once_c P 3 _ (by exact (Cur.alloc C3.out _)) (by omega)).mono ?_
    rintro _ w4 ⟨q, rfl, C', G'⟩
    have C4 := Lib.hid C'; clear C'
    have XR4 : Hid (w4.heap[w.heap.size]? = some (.cells #[.int .i64 0, .int .i64 0] 34 (0, 0))) := Lib.hid (box_gr (box_alloc XR3.out _) G' (by have h1 := HP.out; have h2 := LER.out; omega))
    have XD4 : Hid (w4.heap[w3.heap.size]? = some (.cells #[.int .i64 A, .int .i64 B] 34 (0, 0))) := Lib.hid (box_gr (heap_alloc_new _ _) G' (by have h1 := HP.out; have h2 := LED.out; omega))
    have G4 := Lib.hid (gr_trans (gr_alloc G3.out _) G')
    clear G'
    cases q with
    | true =>
      have Rl := box_lt XR4.out
      obtain ⟨R0, R1, Rf0, Rf1⟩ := box_two XR4.out
      have Dl := box_lt XD4.out
      obtain ⟨D0, D1, Df0, Df1⟩ := box_two XD4.out
      go_wp2_with fail
      refine (decOk_spec (A + 1) B _ (by omega) (by omega)).mono ?_
      rintro _ w5 ⟨rfl, b'⟩
      clear R0 R1 Rf0 Rf1
      clear D0 D1 Df0 Df1
      clear Rl Dl
      have C5 := Lib.hid (Cur.below (Cur.set C4.out _ (by have h1 := HP.out; have h2 := LED.out; omega)) b')
      have XR5 : Hid (w5.heap[w.heap.size]? = some (.cells #[.int .i64 0, .int .i64 0] 34 (0, 0))) := Lib.hid (box_below (box_other XR4.out _ NERD.out) b')
      have XD5 : Hid (w5.heap[w3.heap.size]? = some (.cells #[.int .i64 (A + 1), .int .i64 B] 34 (0, 0))) := Lib.hid (box_below (box_set0 XD4.out _) b')
      have G5 := Lib.hid (gr_on (gr_sets G4.out _ LED.out) b')
      clear b'
      cases hk : decOkB (A + 1) B with
      | true =>
        have Rl := box_lt XR5.out
        obtain ⟨R0, R1, Rf0, Rf1⟩ := box_two XR5.out
        have Dl := box_lt XD5.out
        obtain ⟨D0, D1, Df0, Df1⟩ := box_two XD5.out
        go_wp2_with fail
        refine bodyPost_ret (v := .agg #[.int .i64 (A + 1), .int .i64 B]) (by simp [results, Tryz.results64, go_sem, R0, R1]) rfl ⟨_, _, rfl, hk, ?_, ?_⟩
        · repeat (first | exact C5.out | refine Cur.set ?_ _ (by have h1 := HP.out; have h2 := G1.out.size; have h3 := G2.out.size; have h4 := G3.out.size; have h5 := G4.out.size; have h6 := G5.out.size; omega) | refine Cur.alloc ?_ _)
        · repeat (first | exact G5.out | refine gr_sets ?_ _ (by have h2 := G1.out.size; have h3 := G2.out.size; have h4 := G3.out.size; have h5 := G4.out.size; have h6 := G5.out.size; omega) | refine gr_alloc ?_ _)
      | false =>
        go_wp2_with fail
        refine (l4Draw_c P _ (by exact C5.out)).mono ?_
        rintro _ w6 ⟨n, x, rfl, hn', C', G'⟩
        have Hn := Lib.hid hn'; clear hn'
        have C6 := Lib.hid C'; clear C'
        have XR6 : Hid (w6.heap[w.heap.size]? = some (.cells #[.int .i64 0, .int .i64 0] 34 (0, 0))) := Lib.hid (box_gr XR5.out G' (by have h1 := HP.out; have h2 := LER.out; omega))
        have XD6 : Hid (w6.heap[w3.heap.size]? = some (.cells #[.int .i64 (A + 1), .int .i64 B] 34 (0, 0))) := Lib.hid (box_gr XD5.out G' (by have h1 := HP.out; have h2 := LED.out; omega))
        have G6 := Lib.hid (gr_trans G5.out G')
        clear G'
        have Rl := box_lt XR6.out
        obtain ⟨R0, R1, Rf0, Rf1⟩ := box_two XR6.out
        have Dl := box_lt XD6.out
        obtain ⟨D0, D1, Df0, Df1⟩ := box_two XD6.out
        go_wp2_with fail
        refine bodyPost_ret (v := .agg #[.int .i64 n, .int .i64 x]) (by simp [results, Tryz.results64, go_sem, R0, R1]) rfl ⟨n, x, rfl, Hn.out, ?_, ?_⟩
        · repeat (first | exact C6.out | refine Cur.set ?_ _ (by have h1 := HP.out; have h2 := G1.out.size; have h3 := G2.out.size; have h4 := G3.out.size; have h5 := G4.out.size; have h6 := G5.out.size; have h7 := G6.out.size; omega) | refine Cur.alloc ?_ _)
        · repeat (first | exact G6.out | refine gr_sets ?_ _ (by have h2 := G1.out.size; have h3 := G2.out.size; have h4 := G3.out.size; have h5 := G4.out.size; have h6 := G5.out.size; have h7 := G6.out.size; omega) | refine gr_alloc ?_ _)
    | false =>
      have Rl := box_lt XR4.out
      obtain ⟨R0, R1, Rf0, Rf1⟩ := box_two XR4.out
      have Dl := box_lt XD4.out
      obtain ⟨D0, D1, Df0, Df1⟩ := box_two XD4.out
      go_wp2_with fail
      refine (decOk_spec (A) B _ (by omega) (by omega)).mono ?_
      rintro _ w5 ⟨rfl, b'⟩
      clear R0 R1 Rf0 Rf1
      clear D0 D1 Df0 Df1
      clear Rl Dl
      have C5 := Lib.hid (Cur.below C4.out b')
      have XR5 : Hid (w5.heap[w.heap.size]? = some (.cells #[.int .i64 0, .int .i64 0] 34 (0, 0))) := Lib.hid (box_below XR4.out b')
      have XD5 : Hid (w5.heap[w3.heap.size]? = some (.cells #[.int .i64 A, .int .i64 B] 34 (0, 0))) := Lib.hid (box_below XD4.out b')
      have G5 := Lib.hid (gr_on G4.out b')
      clear b'
      cases hk : decOkB (A) B with
      | true =>
        have Rl := box_lt XR5.out
        obtain ⟨R0, R1, Rf0, Rf1⟩ := box_two XR5.out
        have Dl := box_lt XD5.out
        obtain ⟨D0, D1, Df0, Df1⟩ := box_two XD5.out
        go_wp2_with fail
        refine bodyPost_ret (v := .agg #[.int .i64 (A), .int .i64 B]) (by simp [results, Tryz.results64, go_sem, R0, R1]) rfl ⟨_, _, rfl, hk, ?_, ?_⟩
        · repeat (first | exact C5.out | refine Cur.set ?_ _ (by have h1 := HP.out; have h2 := G1.out.size; have h3 := G2.out.size; have h4 := G3.out.size; have h5 := G4.out.size; have h6 := G5.out.size; omega) | refine Cur.alloc ?_ _)
        · repeat (first | exact G5.out | refine gr_sets ?_ _ (by have h2 := G1.out.size; have h3 := G2.out.size; have h4 := G3.out.size; have h5 := G4.out.size; have h6 := G5.out.size; omega) | refine gr_alloc ?_ _)
      | false =>
        go_wp2_with fail
        refine (l4Draw_c P _ (by exact C5.out)).mono ?_
        rintro _ w6 ⟨n, x, rfl, hn', C', G'⟩
        have Hn := Lib.hid hn'; clear hn'
        have C6 := Lib.hid C'; clear C'
        have XR6 : Hid (w6.heap[w.heap.size]? = some (.cells #[.int .i64 0, .int .i64 0] 34 (0, 0))) := Lib.hid (box_gr XR5.out G' (by have h1 := HP.out; have h2 := LER.out; omega))
        have XD6 : Hid (w6.heap[w3.heap.size]? = some (.cells #[.int .i64 A, .int .i64 B] 34 (0, 0))) := Lib.hid (box_gr XD5.out G' (by have h1 := HP.out; have h2 := LED.out; omega))
        have G6 := Lib.hid (gr_trans G5.out G')
        clear G'
        have Rl := box_lt XR6.out
        obtain ⟨R0, R1, Rf0, Rf1⟩ := box_two XR6.out
        have Dl := box_lt XD6.out
        obtain ⟨D0, D1, Df0, Df1⟩ := box_two XD6.out
        go_wp2_with fail
        refine bodyPost_ret (v := .agg #[.int .i64 n, .int .i64 x]) (by simp [results, Tryz.results64, go_sem, R0, R1]) rfl ⟨n, x, rfl, Hn.out, ?_, ?_⟩
        · repeat (first | exact C6.out | refine Cur.set ?_ _ (by have h1 := HP.out; have h2 := G1.out.size; have h3 := G2.out.size; have h4 := G3.out.size; have h5 := G4.out.size; have h6 := G5.out.size; have h7 := G6.out.size; omega) | refine Cur.alloc ?_ _)
        · repeat (first | exact G6.out | refine gr_sets ?_ _ (by have h2 := G1.out.size; have h3 := G2.out.size; have h4 := G3.out.size; have h5 := G4.out.size; have h6 := G5.out.size; have h7 := G6.out.size; omega) | refine gr_alloc ?_ _)
  | false =>
    go_wp2_with fail
    refine (l4Draw_c P _ (by exact C1.out)).mono ?_
    rintro _ w2 ⟨n, x, rfl, hn', C', G'⟩
    have Hn := Lib.hid hn'; clear hn'
    have C2 := Lib.hid C'; clear C'
    have XR2 : Hid (w2.heap[w.heap.size]? = some (.cells #[.int .i64 0, .int .i64 0] 34 (0, 0))) := Lib.hid (box_gr XR1.out G' (by have h1 := HP.out; have h2 := LER.out; omega))
    have G2 := Lib.hid (gr_trans G1.out G')
    clear G'
    have Rl := box_lt XR2.out
    obtain ⟨R0, R1, Rf0, Rf1⟩ := box_two XR2.out
    go_wp2_with fail
    refine bodyPost_ret (v := .agg #[.int .i64 n, .int .i64 x]) (by simp [results, Tryz.results64, go_sem, R0, R1]) rfl ⟨n, x, rfl, Hn.out, ?_, ?_⟩
    · repeat (first | exact C2.out | refine Cur.set ?_ _ (by have h1 := HP.out; have h2 := G1.out.size; have h3 := G2.out.size; omega) | refine Cur.alloc ?_ _)
    · repeat (first | exact G2.out | refine gr_sets ?_ _ (by have h2 := G1.out.size; have h3 := G2.out.size; omega) | refine gr_alloc ?_ _)
end Go.Proofs.YtilmhemcpgiikaaGreatDoor
