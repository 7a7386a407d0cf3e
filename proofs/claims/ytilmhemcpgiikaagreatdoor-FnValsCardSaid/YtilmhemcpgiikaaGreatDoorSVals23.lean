/- Vals: texts of the proof (DDec). -/
import Derived.Test.YtilmhemcpgiikaaGreatDoorSVals6
import Derived.Test.YtilmhemcpgiikaaGreatDoorSVals22
/- The draws of decimal numbers. -/
namespace Go.Proofs.YtilmhemcpgiikaaGreatDoor
open Go.Deep Go.ChangeShapes Go.WideShapes Go.ChangeAt Go.RowKit

/-- What DecNew gives is valid. -/
theorem dnF_ok (n x : Int) : decOkB (decNewF n x).1 (decNewF n x).2.1 = true := by
  have z : decOkB 0 0 = true := decOkB_iff.2 (.inl ⟨rfl, by decide, by decide⟩)
  unfold decNewF
  split
  · split
    · exact z
    · split
      · split
        · assumption
        · exact z
      · split
        · rename_i h; exact decOkB_iff.2 (.inl ⟨rfl, h⟩)
        · exact z
  · exact z
theorem dec_rng {n x : Int} (h : decOkB n x = true) : -100000000000000000 < n ∧ n < 100000000000000000 ∧ -16 ≤ x ∧ x ≤ 0 := by
  have := decOkB_iff.1 h; omega
set_option maxRecDepth 100000 in
set_option maxHeartbeats 4000000 in
theorem l4Draw_c (P : Nat) (w : World) (hC : Cur w P) :
    Calls Tryz.prog 67 #[.pointer (some ⟨P, 0, none⟩)] w fun e w' => ∃ n x : Int, e = .returned (.agg #[.int .i64 n, .int .i64 x]) ∧ decOkB n x = true ∧ Cur w' P ∧ w.grownBy w' (some P) := by
  have HC := Lib.hid hC; clear hC
  have HP := Lib.hid HC.out.lt
  have LER := Lib.hid (Nat.le_refl w.heap.size)
  go_enter Tryz.func67, Tryz.ntmps67
  go_wp2_with fail
  go_loopw [3] (fun i wr => ∃ j : Nat, j ≤ 6 ∧ i = .int .i64 j ∧ Cur wr P ∧ w.grownBy wr (some P) ∧ wr.heap[w.heap.size]? = some (.cells #[.int .i64 0, .int .i64 0] 34 (0, 0))) (fun i _ => 6 - (intOf i).toNat)
  case atStart => exact ⟨0, by omega, rfl, Cur.alloc HC.out _, gr_alloc gr_refl _, heap_alloc_new _ _⟩
  case round =>
    obtain ⟨j, hj, rfl, hcur, hgr, hxr⟩ := hrel
    have CUR := Lib.hid hcur; clear hcur
    have G0 := Lib.hid hgr; clear hgr
    have XR := Lib.hid hxr; clear hxr
    by_cases hjl : j < 6
    · have hjj := hjl
      go_wp2_with fail
      refine (l1Signed_c P _ (by exact CUR.out)).mono ?_
      rintro _ w1 ⟨n, rfl, hn', C', G'⟩
      have Hn := Lib.hid hn'; clear hn'
      have C1 := Lib.hid C'; clear C'
      have XR1 : Hid (w1.heap[w.heap.size]? = some (.cells #[.int .i64 0, .int .i64 0] 34 (0, 0))) := Lib.hid (box_gr XR.out G' (by have h1 := HP.out; have h2 := LER.out; omega))
      have G1 := Lib.hid (gr_trans G0.out G')
      clear G'
      go_wp2_with fail
      refine (l1Below_c P 17 _ (by exact C1.out) (by omega)).mono ?_
      rintro _ w2 ⟨x, rfl, x0, x1, -, -, C', G'⟩
      have C2 := Lib.hid C'; clear C'
      have XR2 : Hid (w2.heap[w.heap.size]? = some (.cells #[.int .i64 0, .int .i64 0] 34 (0, 0))) := Lib.hid (box_gr XR1.out G' (by have h1 := HP.out; have h2 := LER.out; omega))
      have G2 := Lib.hid (gr_trans G1.out G')
      clear G'
      replace x1 := x1 (by omega)
      go_wp2_with fail
      refine (decNew_spec n (-x) _ (by have := Hn.out; omega) (by have := Hn.out; omega)).mono ?_
      rintro _ w3 ⟨rfl, b'⟩
      have C3 := Lib.hid (Cur.below C2.out b')
      have XR3 : Hid (w3.heap[w.heap.size]? = some (.cells #[.int .i64 0, .int .i64 0] 34 (0, 0))) := Lib.hid (box_below XR2.out b')
      have G3 := Lib.hid (gr_on G2.out b')
      clear b'
      have HOK := Lib.hid (dnF_ok n (-x))
      obtain ⟨⟨A, B, Q⟩, hQ⟩ : ∃ z : Int × Int × Bool, decNewF n (-x) = z := ⟨_, rfl⟩
      rw [hQ] at HOK ⊢
      clear hQ
      have HOK2 : Hid (decOkB A B = true) := HOK; clear HOK
      dsimp only
      cases Q with
      | true =>
        have Rl := box_lt XR3.out
        obtain ⟨R0, R1, Rf0, Rf1⟩ := box_two XR3.out
        go_wp2_with fail
        refine bodyPost_ret (v := .agg #[.int .i64 A, .int .i64 B]) (by simp [results, Tryz.results67, go_sem, Rl, R0, R1]) rfl ⟨A, B, rfl, HOK2.out, ?_, ?_⟩
        · repeat (first | exact C3.out | refine Cur.set ?_ _ (by have h1 := HP.out; have h2 := G1.out.size; have h3 := G2.out.size; have h4 := G3.out.size; omega) | refine Cur.alloc ?_ _)
        · repeat (first | exact G3.out | refine gr_sets ?_ _ (by have h2 := G1.out.size; have h3 := G2.out.size; have h4 := G3.out.size; omega) | refine gr_alloc ?_ _)
      | false =>
        go_wp2_with fail
        go_roundw
        case rel => exact ⟨j + 1, by omega, by go_num, C3.out.alloc _, gr_alloc G3.out _, box_alloc XR3.out _⟩
        case measure => simp [intOf]; omega
    · obtain rfl : j = 6 := by omega
      have Rl := box_lt XR.out
      obtain ⟨R0, R1, Rf0, Rf1⟩ := box_two XR.out
      go_wp2_with fail
      refine bodyPost_ret (v := .agg #[.int .i64 15, .int .i64 (-1)]) (by simp [results, Tryz.results67, go_sem, R0, R1]) rfl ⟨15, -1, rfl, decOkB_iff.2 (.inr (by decide)), ?_, ?_⟩
      · repeat (first | exact CUR.out | refine Cur.set ?_ _ (by have h1 := HP.out; omega) | refine Cur.alloc ?_ _)
      · repeat (first | exact G0.out | refine gr_sets ?_ _ (Nat.le_refl _) | refine gr_alloc ?_ _)
set_option maxRecDepth 100000 in
set_option maxHeartbeats 4000000 in
theorem l4Any_c (P : Nat) (w : World) (hC : Cur w P) :
    Calls Tryz.prog 40 #[.pointer (some ⟨P, 0, none⟩)] w fun e w' => ∃ n x : Int, e = .returned (.agg #[.int .i64 n, .int .i64 x]) ∧ (wf6 (n) ∧ wf6 (x)) ∧ Cur w' P ∧ w.grownBy w' (some P) := by
  have HC := Lib.hid hC; clear hC
  have HP := Lib.hid HC.out.lt
  have LER := Lib.hid (Nat.le_refl w.heap.size)
  go_enter Tryz.func40, Tryz.ntmps40
  go_wp2_with fail
  refine (l4Draw_c P _ (by exact (Cur.alloc HC.out _))).mono ?_
  rintro _ w1 ⟨n, x, rfl, hn', C', G'⟩
  have Hn := Lib.hid hn'; clear hn'
  have C1 := Lib.hid C'; clear C'
  have XR1 : Hid (w1.heap[w.heap.size]? = some (.cells #[.int .i64 0, .int .i64 0] 34 (0, 0))) := Lib.hid (box_gr (heap_alloc_new _ _) G' (by have h1 := HP.out; have h2 := LER.out; omega))
  have G1 := Lib.hid (gr_trans (gr_alloc (gr_refl (w := w) (P := P)) _) G')
  clear G'
  have bdx : wf6 n ∧ wf6 x := by have h := Hn.out; have := dec_rng h; unfold wf6; omega
  have BDX := Lib.hid bdx; clear bdx
  have LED := Lib.hid G1.out.size
  have hRD := box_lt XR1.out
  have NERD := Lib.hid (Nat.ne_of_lt hRD)
  have NEDR := Lib.hid (Nat.ne_of_gt hRD)
  go_wp2_with fail
  refine (l1Below_c P 8 _ (by exact (Cur.alloc C1.out _)) (by omega)).mono ?_
  rintro _ w2 ⟨y, rfl, y0, y1, -, -, C', G'⟩
  have C2 := Lib.hid C'; clear C'
  have XR2 : Hid (w2.heap[w.heap.size]? = some (.cells #[.int .i64 0, .int .i64 0] 34 (0, 0))) := Lib.hid (box_gr (box_alloc XR1.out _) G' (by have h1 := HP.out; have h2 := LER.out; omega))
  have XD2 : Hid (w2.heap[w1.heap.size]? = some (.cells #[.int .i64 n, .int .i64 x] 34 (0, 0))) := Lib.hid (box_gr (heap_alloc_new _ _) G' (by have h1 := HP.out; have h2 := LED.out; omega))
  have G2 := Lib.hid (gr_trans (gr_alloc G1.out _) G')
  clear G'
  replace y1 := y1 (by omega)
  have hDD := box_lt XD2.out
  by_cases hy0 : y = 0
  · subst hy0
    go_wp2_with fail
    refine (l1Raw_c P _ (by exact C2.out)).mono ?_
    rintro _ w3 ⟨m, rfl, hm', C', G'⟩
    have Hm := Lib.hid hm'; clear hm'
    have C3 := Lib.hid C'; clear C'
    have XR3 : Hid (w3.heap[w.heap.size]? = some (.cells #[.int .i64 0, .int .i64 0] 34 (0, 0))) := Lib.hid (box_gr XR2.out G' (by have h1 := HP.out; have h2 := LER.out; omega))
    have XD3 : Hid (w3.heap[w1.heap.size]? = some (.cells #[.int .i64 n, .int .i64 x] 34 (0, 0))) := Lib.hid (box_gr XD2.out G' (by have h1 := HP.out; have h2 := LED.out; omega))
    have G3 := Lib.hid (gr_trans G2.out G')
    clear G'
    have bdv : wf6 (m) ∧ wf6 (x) := by have h1 := Hm.out; have h2 := BDX.out; unfold wf6 at *; omega
    have BDV := Lib.hid bdv; clear bdv
    have Rl := box_lt XR3.out
    obtain ⟨R0, R1, Rf0, Rf1⟩ := box_two XR3.out
    have Dl := box_lt XD3.out
    obtain ⟨D0, D1, Df0, Df1⟩ := box_two XD3.out
    go_wp2_with fail
    refine bodyPost_ret (v := .agg #[.int .i64 (m), .int .i64 (x)]) (by simp [results, Tryz.results40, go_sem, R0, R1]) rfl ⟨_, _, rfl, BDV.out, ?_, ?_⟩
    · repeat (first | exact C3.out | refine Cur.set ?_ _ (by have h1 := HP.out; have h2 := G1.out.size; have h3 := G2.out.size; have h4 := G3.out.size; omega) | refine Cur.alloc ?_ _)
    · repeat (first | exact G3.out | refine gr_sets ?_ _ (by have h2 := G1.out.size; have h3 := G2.out.size; have h4 := G3.out.size; omega) | refine gr_alloc ?_ _)
  by_cases hy1 : y = 1
  · subst hy1
    go_wp2_with fail
    refine (l1Int_c P [-17, -16, 0, 1] w2.heap.size 4 _ (by exact (Cur.alloc C2.out _)) (rd_laid w2 _ _) (Nat.ne_of_gt (Cur.lt C2.out)) (by simp) (by simp) (by simp)).mono ?_
    rintro _ w3 ⟨m, rfl, hm', C', G'⟩
    have Hm := Lib.hid hm'; clear hm'
    have C3 := Lib.hid C'; clear C'
    have XR3 : Hid (w3.heap[w.heap.size]? = some (.cells #[.int .i64 0, .int .i64 0] 34 (0, 0))) := Lib.hid (box_gr (box_alloc XR2.out _) G' (by have h1 := HP.out; have h2 := LER.out; omega))
    have XD3 : Hid (w3.heap[w1.heap.size]? = some (.cells #[.int .i64 n, .int .i64 x] 34 (0, 0))) := Lib.hid (box_gr (box_alloc XD2.out _) G' (by have h1 := HP.out; have h2 := LED.out; omega))
    have G3 := Lib.hid (gr_trans (gr_alloc G2.out _) G')
    clear G'
    have bdv : wf6 (n) ∧ wf6 (m) := by have h1 := Hm.out; have h2 := BDX.out; simp at h1; unfold wf6 at *; omega
    have BDV := Lib.hid bdv; clear bdv
    have Rl := box_lt XR3.out
    obtain ⟨R0, R1, Rf0, Rf1⟩ := box_two XR3.out
    have Dl := box_lt XD3.out
    obtain ⟨D0, D1, Df0, Df1⟩ := box_two XD3.out
    go_wp2_with fail
    refine bodyPost_ret (v := .agg #[.int .i64 (n), .int .i64 (m)]) (by simp [results, Tryz.results40, go_sem, R0, R1]) rfl ⟨_, _, rfl, BDV.out, ?_, ?_⟩
    · repeat (first | exact C3.out | refine Cur.set ?_ _ (by have h1 := HP.out; have h2 := G1.out.size; have h3 := G2.out.size; have h4 := G3.out.size; omega) | refine Cur.alloc ?_ _)
    · repeat (first | exact G3.out | refine gr_sets ?_ _ (by have h2 := G1.out.size; have h3 := G2.out.size; have h4 := G3.out.size; omega) | refine gr_alloc ?_ _)
  by_cases hy2 : y = 2
  · subst hy2
    go_wp2_with fail
    refine (l1Below_c P 9 _ (by exact C2.out) (by omega)).mono ?_
    rintro _ w3 ⟨m, rfl, m0, m1, -, -, C', G'⟩
    have C3 := Lib.hid C'; clear C'
    have XR3 : Hid (w3.heap[w.heap.size]? = some (.cells #[.int .i64 0, .int .i64 0] 34 (0, 0))) := Lib.hid (box_gr XR2.out G' (by have h1 := HP.out; have h2 := LER.out; omega))
    have XD3 : Hid (w3.heap[w1.heap.size]? = some (.cells #[.int .i64 n, .int .i64 x] 34 (0, 0))) := Lib.hid (box_gr XD2.out G' (by have h1 := HP.out; have h2 := LED.out; omega))
    have G3 := Lib.hid (gr_trans G2.out G')
    clear G'
    replace m1 := m1 (by omega)
    have bdv : wf6 (10 * m) ∧ wf6 (x) := by have h2 := BDX.out; unfold wf6 at *; omega
    have BDV := Lib.hid bdv; clear bdv
    have Rl := box_lt XR3.out
    obtain ⟨R0, R1, Rf0, Rf1⟩ := box_two XR3.out
    have Dl := box_lt XD3.out
    obtain ⟨D0, D1, Df0, Df1⟩ := box_two XD3.out
    go_wp2_with fail
    refine bodyPost_ret (v := .agg #[.int .i64 (10 * m), .int .i64 (x)]) (by simp [results, Tryz.results40, go_sem, R0, R1]) rfl ⟨_, _, rfl, BDV.out, ?_, ?_⟩
    · repeat (first | exact C3.out | refine Cur.set ?_ _ (by have h1 := HP.out; have h2 := G1.out.size; have h3 := G2.out.size; have h4 := G3.out.size; omega) | refine Cur.alloc ?_ _)
    · repeat (first | exact G3.out | refine gr_sets ?_ _ (by have h2 := G1.out.size; have h3 := G2.out.size; have h4 := G3.out.size; omega) | refine gr_alloc ?_ _)
  have n0 : (y == 0) = false := by simpa using hy0
  have n1 : (y == 1) = false := by simpa using hy1
  have n2 : (y == 2) = false := by simpa using hy2
  have Rl := box_lt XR2.out
  obtain ⟨R0, R1, Rf0, Rf1⟩ := box_two XR2.out
  have Dl := box_lt XD2.out
  obtain ⟨D0, D1, Df0, Df1⟩ := box_two XD2.out
  go_wp2_with fail
  refine bodyPost_ret (v := .agg #[.int .i64 n, .int .i64 x]) (by simp [results, Tryz.results40, go_sem, R0, R1]) rfl ⟨_, _, rfl, BDX.out, ?_, ?_⟩
  · repeat (first | exact C2.out | refine Cur.set ?_ _ (by have h1 := HP.out; have h2 := G1.out.size; have h3 := G2.out.size; omega) | refine Cur.alloc ?_ _)
  · repeat (first | exact G2.out | refine gr_sets ?_ _ (by have h2 := G1.out.size; have h3 := G2.out.size; omega) | refine gr_alloc ?_ _)
end Go.Proofs.YtilmhemcpgiikaaGreatDoor
