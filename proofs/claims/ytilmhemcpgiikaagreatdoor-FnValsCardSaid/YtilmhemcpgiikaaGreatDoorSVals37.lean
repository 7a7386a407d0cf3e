/- Vals: texts of the proof (DVals). -/
import Derived.Test.YtilmhemcpgiikaaGreatDoorSVals32
import Derived.Test.YtilmhemcpgiikaaGreatDoorSVals33
import Derived.Test.YtilmhemcpgiikaaGreatDoorSVals36
import Derived.Deep.RegionWith
/- The draws of FnVals. -/
namespace Go.Proofs.YtilmhemcpgiikaaGreatDoor
open Go.Deep Go.ChangeShapes Go.WideShapes Go.ChangeAt Go.RowKit
open Go.ChangeMaps (open_string shut_string)

set_option maxRecDepth 100000 in
set_option maxHeartbeats 40000000 in
theorem drawValOk_c (zs : List Int) (a : Option Addr) (cap : Nat) (w : World) (hr : Rd w .u8 a zs) (hw : ∀ n ∈ zs, (Lit.int .u8 n).wf = true) (hlen : zs.length ≤ 1048576) (hcap : zs.length ≤ cap) :
    Calls Tryz.prog 5 #[.slice a zs.length cap] w fun e w' => (∃ (t : Tree) (u : Value), e = .returned (.agg #[.int .i64 t.kind, .int .i64 t.n, .int .i64 t.x, .string t.s, u]) ∧ (t.cost ≤ 6600 ∧ Fits t.kind t.n t.x t.s) ∧ TSl w' u t.l) ∧ Below w.heap.size w w' := by
  have HR := Lib.hid hr; clear hr
  have HW := Lib.hid hw; clear hw
  go_enter Tryz.func5, Tryz.ntmps5
  go_wp2_with fail
  refine (l1New_c zs a cap _ (by exact rd_kept (below_alloc (Below.refl w.heap.size w) _) HR.out) HW.out hlen hcap).mono ?_
  rintro _ w1 ⟨P, rfl, hP, C', b'⟩
  simp only [World.size_alloc] at hP
  have C1 := Lib.hid C'; clear C'
  have XR1 : Hid (w1.heap[w.heap.size]? = some (.cells #[.int .i64 0, .int .i64 0, .int .i64 0, .string { data := #[] }, .slice none 0 0] 26 (0, 0))) := Lib.hid (box_below (heap_alloc_new _ _) b')
  have LER := Lib.hid (show w.heap.size < P by omega)
  have BW1 := Lib.hid (nx (below_alloc (Below.refl w.heap.size w) _) b'); clear b'
  have HP := Lib.hid C1.out.lt
  have HWP := Lib.hid (show w.heap.size ≤ P by omega); clear hP
  have G1 := Lib.hid (gr_refl (w := w1) (P := P))
  go_wp2_with fail
  refine (l6Any_c P _ (by exact C1.out)).mono ?_
  rintro _ w2 ⟨t, u, rfl, ht, hap, C', G'⟩
  have HT := Lib.hid ht; clear ht
  have HAP := Lib.hid hap; clear hap
  have XR2 : Hid (w2.heap[w.heap.size]? = some (.cells #[.int .i64 0, .int .i64 0, .int .i64 0, .string { data := #[] }, .slice none 0 0] 26 (0, 0))) := Lib.hid (box_gr XR1.out G' (by have h1 := HP.out; have h2 := LER.out; omega))
  have G2 := Lib.hid (gr_trans G1.out G'); clear G' C'
  obtain ⟨au, cu, rfl⟩ := HAP.out.form
  have Rl := box_lt XR2.out
  obtain ⟨R0, R1, R2, R3, R4, Rf0, Rf1, Rf2, Rf3, Rf4⟩ := five_open XR2.out
  go_wp2_with fail
  have hRl := LER.out; have hP1 := HP.out
  refine bodyPost_ret (v := .agg #[.int .i64 t.kind, .int .i64 t.n, .int .i64 t.x, .string t.s, .slice au t.l.length cu]) (by simp [results, Tryz.results5, go_sem, R0, R1, R2, R3, R4]) rfl ⟨⟨t, _, rfl, HT.out, ?_⟩, ?_⟩
  · have hk : Kp w2 w1.heap.size w2 := Kp.refl _ _
    refine (Kp.ap (w0 := w2) (lo := w1.heap.size) ?_ HAP.out).osl.tsl
    repeat (first | with_reducible exact hk | with_reducible refine Kp.set ?_ _ (by omega))
  · have hb := below_gr BW1.out G2.out HWP.out
    repeat (first | with_reducible exact hb | with_reducible refine below_set ?_ _ (Nat.le_refl _))
set_option maxRecDepth 100000 in
set_option maxHeartbeats 40000000 in
theorem drawSameVal_c (zs : List Int) (a : Option Addr) (cap : Nat) (w : World) (hr : Rd w .u8 a zs) (hw : ∀ n ∈ zs, (Lit.int .u8 n).wf = true) (hlen : zs.length ≤ 1048576) (hcap : zs.length ≤ cap) :
    Calls Tryz.prog 6 #[.slice a zs.length cap] w fun e w' => (∃ (t t' : Tree) (u u' : Value), e = .returned (.tuple #[.agg #[.int .i64 t.kind, .int .i64 t.n, .int .i64 t.x, .string t.s, u], .agg #[.int .i64 t'.kind, .int .i64 t'.n, .int .i64 t'.x, .string t'.s, u']]) ∧ (t.cost ≤ 7000 ∧ Fits t.kind t.n t.x t.s) ∧ (t'.cost ≤ 7000 ∧ Fits t'.kind t'.n t'.x t'.s) ∧ TSl w' u t.l ∧ TSl w' u' t'.l) ∧ Below w.heap.size w w' := by
  have HR := Lib.hid hr; clear hr
  have HW := Lib.hid hw; clear hw
  go_enter Tryz.func6, Tryz.ntmps6
  go_wp2_with fail
  refine (l1New_c zs a cap _ (by exact rd_kept (below_alloc (below_alloc (Below.refl w.heap.size w) _) _) HR.out) HW.out hlen hcap).mono ?_
  rintro _ w1 ⟨P, rfl, hP, C', b'⟩
  simp only [World.size_alloc] at hP
  have C1 := Lib.hid C'; clear C'
  have XR1 : Hid (w1.heap[w.heap.size]? = some (.cells #[.int .i64 0, .int .i64 0, .int .i64 0, .string { data := #[] }, .slice none 0 0] 26 (0, 0))) := Lib.hid (box_below (first_block _ _ _) b')
  have LER := Lib.hid (show w.heap.size < P by omega)
  have XQ1 : Hid (w1.heap[(w.heap.size + 1)]? = some (.cells #[.int .i64 0, .int .i64 0, .int .i64 0, .string { data := #[] }, .slice none 0 0] 26 (0, 0))) := Lib.hid (box_below (second_block2 _ _ _) b')
  have LEQ := Lib.hid (show (w.heap.size + 1) < P by omega)
  have BW1 := Lib.hid (nx (below_alloc (below_alloc (Below.refl w.heap.size w) _) _) b'); clear b'
  have HP := Lib.hid C1.out.lt
  have HWP := Lib.hid (show w.heap.size ≤ P by omega); clear hP
  have G1 := Lib.hid (gr_refl (w := w1) (P := P))
  go_wp2_with fail
  refine (l6Any_c P _ (by exact C1.out)).mono ?_
  rintro _ w2 ⟨t, u, rfl, ht, hap, C', G'⟩
  have HT := Lib.hid ht; clear ht
  have HAP := Lib.hid hap; clear hap
  have C2 := Lib.hid C'; clear C'
  have XR2 : Hid (w2.heap[w.heap.size]? = some (.cells #[.int .i64 0, .int .i64 0, .int .i64 0, .string { data := #[] }, .slice none 0 0] 26 (0, 0))) := Lib.hid (box_gr XR1.out G' (by have h1 := HP.out; have h2 := LER.out; omega))
  have XQ2 : Hid (w2.heap[(w.heap.size + 1)]? = some (.cells #[.int .i64 0, .int .i64 0, .int .i64 0, .string { data := #[] }, .slice none 0 0] 26 (0, 0))) := Lib.hid (box_gr XQ1.out G' (by have h1 := HP.out; have h2 := LEQ.out; omega))
  have G2 := Lib.hid (gr_trans G1.out G'); clear G'
  obtain ⟨au, cu, rfl⟩ := HAP.out.form
  have LPT := Lib.hid HP.out
  have LEA := Lib.hid G2.out.size
  go_wp2_with fail
  refine (l6Copy_a t _ _ (by have := HT.out.1; omega) ((ap_alloc HAP.out _).osl.tsl) HT.out.2).mono ?_
  rintro _ w3 ⟨ab, nb, cb, rfl, hapb, b'⟩
  simp only [World.size_alloc] at hapb
  obtain ⟨ab', cb', hfb⟩ := hapb.form
  injection hfb with e1 e2 e3; subst e1; subst e2; subst e3
  have HAPB := Lib.hid hapb; clear hapb
  have hs23 := b'.size
  simp only [World.size_alloc] at hs23
  have KT3 := Lib.hid (Kp.below (Kp.alloc (Kp.refl w2 (w1.heap.size)) _) b')
  have C3 := Lib.hid (Cur.below (Cur.alloc C2.out _) b')
  have XR3 : Hid (w3.heap[w.heap.size]? = some (.cells #[.int .i64 0, .int .i64 0, .int .i64 0, .string { data := #[] }, .slice none 0 0] 26 (0, 0))) := Lib.hid (box_below (box_alloc XR2.out _) b')
  have XQ3 : Hid (w3.heap[(w.heap.size + 1)]? = some (.cells #[.int .i64 0, .int .i64 0, .int .i64 0, .string { data := #[] }, .slice none 0 0] 26 (0, 0))) := Lib.hid (box_below (box_alloc XQ2.out _) b')
  have XA3 : Hid (w3.heap[w2.heap.size]? = some (.cells #[.int .i64 t.kind, .int .i64 t.n, .int .i64 t.x, .string t.s, .slice au t.l.length cu] 26 (0, 0))) := Lib.hid (box_below (heap_alloc_new _ _) b')
  have G3 := Lib.hid (gr_on (gr_alloc G2.out _) b'); clear b'
  have LPU := Lib.hid (show P < w2.heap.size + 1 by have h1 := HP.out; have h2 := G2.out.size; omega)
  have LEB := Lib.hid G3.out.size
  have hAB : w2.heap.size < w3.heap.size := by omega
  have NEAB := Lib.hid (Nat.ne_of_lt hAB); have NEBA := Lib.hid (Nat.ne_of_gt hAB)
  go_wp2_with fail
  refine (l1Below_c P 4 _ (by exact (Cur.alloc C3.out _)) (by omega)).mono ?_
  rintro _ w4 ⟨y, rfl, y0, y1, -, -, C', G'⟩
  have G1x := Lib.hid G'
  have KT4 := Lib.hid (Kp.gr (Kp.alloc KT3.out _) G' LPT.out)
  have KU4 := Lib.hid (Kp.gr (Kp.alloc (Kp.refl w3 (w2.heap.size + 1)) _) G' LPU.out)
  have C4 := Lib.hid C'; clear C'
  have XR4 : Hid (w4.heap[w.heap.size]? = some (.cells #[.int .i64 0, .int .i64 0, .int .i64 0, .string { data := #[] }, .slice none 0 0] 26 (0, 0))) := Lib.hid (box_gr (box_alloc XR3.out _) G' (by have h1 := HP.out; have h2 := LER.out; omega))
  have XQ4 : Hid (w4.heap[(w.heap.size + 1)]? = some (.cells #[.int .i64 0, .int .i64 0, .int .i64 0, .string { data := #[] }, .slice none 0 0] 26 (0, 0))) := Lib.hid (box_gr (box_alloc XQ3.out _) G' (by have h1 := HP.out; have h2 := LEQ.out; omega))
  have XA4 : Hid (w4.heap[w2.heap.size]? = some (.cells #[.int .i64 t.kind, .int .i64 t.n, .int .i64 t.x, .string t.s, .slice au t.l.length cu] 26 (0, 0))) := Lib.hid (box_gr (box_alloc XA3.out _) G' (by have h1 := HP.out; have h2 := LEA.out; omega))
  have XB4 : Hid (w4.heap[w3.heap.size]? = some (.cells #[.int .i64 t.kind, .int .i64 t.n, .int .i64 t.x, .string t.s, .slice ab t.l.length cb] 26 (0, 0))) := Lib.hid (box_gr (heap_alloc_new _ _) G' (by have h1 := HP.out; have h2 := LEB.out; omega))
  have G4 := Lib.hid (gr_trans (gr_alloc G3.out _) G'); clear G'
  replace y1 := y1 (by omega)
  have hw1 : w.heap.size + 1 < w1.heap.size := by have h1 := HP.out; have h2 := LEQ.out; omega
  have hw12 := G2.out.size
  by_cases hy0 : y = 0
  · subst hy0
    go_wp2_with fail
    refine (l6Any_c P _ (by exact C4.out)).mono ?_
    rintro _ w5 ⟨t', u', rfl, ht', hap', C', G'⟩
    have HT' := Lib.hid ht'; clear ht'
    have HAP' := Lib.hid hap'; clear hap'
    have KT5 := Lib.hid (Kp.gr KT4.out G' LPT.out)
    have KU5 := Lib.hid (Kp.gr KU4.out G' LPU.out)
    have C5 := Lib.hid C'; clear C'
    have XR5 : Hid (w5.heap[w.heap.size]? = some (.cells #[.int .i64 0, .int .i64 0, .int .i64 0, .string { data := #[] }, .slice none 0 0] 26 (0, 0))) := Lib.hid (box_gr XR4.out G' (by have h1 := HP.out; have h2 := LER.out; omega))
    have XQ5 : Hid (w5.heap[(w.heap.size + 1)]? = some (.cells #[.int .i64 0, .int .i64 0, .int .i64 0, .string { data := #[] }, .slice none 0 0] 26 (0, 0))) := Lib.hid (box_gr XQ4.out G' (by have h1 := HP.out; have h2 := LEQ.out; omega))
    have XA5 : Hid (w5.heap[w2.heap.size]? = some (.cells #[.int .i64 t.kind, .int .i64 t.n, .int .i64 t.x, .string t.s, .slice au t.l.length cu] 26 (0, 0))) := Lib.hid (box_gr XA4.out G' (by have h1 := HP.out; have h2 := LEA.out; omega))
    have XB5 : Hid (w5.heap[w3.heap.size]? = some (.cells #[.int .i64 t.kind, .int .i64 t.n, .int .i64 t.x, .string t.s, .slice ab t.l.length cb] 26 (0, 0))) := Lib.hid (box_gr XB4.out G' (by have h1 := HP.out; have h2 := LEB.out; omega))
    have G5 := Lib.hid (gr_trans G4.out G'); clear G'
    obtain ⟨au', cu', rfl⟩ := HAP'.out.form
    have hs35 := G5.out.size; have hs34 := G4.out.size
    have hB4 := box_lt XB4.out
    have hk5 : Kp w5 w4.heap.size w5 := Kp.refl _ _
    have Rl := box_lt XR5.out
    obtain ⟨R0, R1, R2, R3, R4, Rf0, Rf1, Rf2, Rf3, Rf4⟩ := five_open XR5.out
    have Ql := box_lt XQ5.out
    obtain ⟨Q0, Q1, Q2, Q3, Q4, Qf0, Qf1, Qf2, Qf3, Qf4⟩ := five_open XQ5.out
    have Al := box_lt XA5.out
    obtain ⟨A0, A1, A2, A3, A4, Af0, Af1, Af2, Af3, Af4⟩ := five_open XA5.out
    have Bl := box_lt XB5.out
    obtain ⟨B0, B1, B2, B3, B4, Bf0, Bf1, Bf2, Bf3, Bf4⟩ := five_open XB5.out
    go_wp2_with fail
    go_region
    all_goals
      go_wp2_with fail
      refine bodyPost_ret (v := .tuple #[.agg #[.int .i64 t.kind, .int .i64 t.n, .int .i64 t.x, .string t.s, .slice au t.l.length cu], .agg #[.int .i64 t'.kind, .int .i64 t'.n, .int .i64 t'.x, .string t'.s, .slice au' t'.l.length cu']]) (by simp [results, Tryz.results6, go_sem, R0, R1, R2, R3, R4, Q0, Q1, Q2, Q3, Q4]) rfl ⟨⟨t, t', _, _, rfl, ⟨by have := HT.out.1; omega, HT.out.2⟩, ⟨by have := HT'.out.1; omega, HT'.out.2⟩, ?_, ?_⟩, ?_⟩
      · refine (Kp.ap (w0 := w2) (lo := w1.heap.size) ?_ HAP.out).osl.tsl
        repeat (first | with_reducible exact KT5.out | with_reducible refine Kp.set ?_ _ (by omega) | with_reducible refine Kp.drew ?_ | with_reducible refine Kp.alloc ?_ _)
      · refine (Kp.ap (w0 := w5) (lo := w4.heap.size) ?_ HAP'.out).osl.tsl
        repeat (first | with_reducible exact hk5 | with_reducible refine Kp.set ?_ _ (by omega) | with_reducible refine Kp.drew ?_ | with_reducible refine Kp.alloc ?_ _)
      · have hb := below_gr BW1.out G5.out HWP.out
        repeat (first | with_reducible exact hb | with_reducible refine below_set ?_ _ (by omega) | with_reducible refine Below.drew ?_ | with_reducible refine below_alloc ?_ _)
  by_cases hy1 : y = 1
  · subst hy1
    have Rl := box_lt XR4.out
    obtain ⟨R0, R1, R2, R3, R4, Rf0, Rf1, Rf2, Rf3, Rf4⟩ := five_open XR4.out
    have Ql := box_lt XQ4.out
    obtain ⟨Q0, Q1, Q2, Q3, Q4, Qf0, Qf1, Qf2, Qf3, Qf4⟩ := five_open XQ4.out
    have Al := box_lt XA4.out
    obtain ⟨A0, A1, A2, A3, A4, Af0, Af1, Af2, Af3, Af4⟩ := five_open XA4.out
    have Bl := box_lt XB4.out
    obtain ⟨B0, B1, B2, B3, B4, Bf0, Bf1, Bf2, Bf3, Bf4⟩ := five_open XB4.out
    obtain ⟨N2, hN2⟩ : ∃ z, z = wrap64 (t.n + 1) := ⟨_, rfl⟩
    have hNw : wf6 N2 := by rw [hN2]; exact wf6_wrap _
    go_wp2_with fail
    rw [← hN2]
    have HNW := Lib.hid hNw; clear hNw hN2
    go_region
    all_goals
      go_wp2_with fail
      refine bodyPost_ret (v := .tuple #[.agg #[.int .i64 t.kind, .int .i64 t.n, .int .i64 t.x, .string t.s, .slice au t.l.length cu], .agg #[.int .i64 t.kind, .int .i64 N2, .int .i64 t.x, .string t.s, .slice ab t.l.length cb]]) (by simp [results, Tryz.results6, go_sem, R0, R1, R2, R3, R4, Q0, Q1, Q2, Q3, Q4]) rfl ⟨⟨t, .mk t.kind N2 t.x t.s t.l, _, _, rfl, ⟨by have := HT.out.1; omega, HT.out.2⟩, ⟨by have h1 := HT.out.1; have h2 := Tree.cost_eq t; rw [Tree.cost_eq]; show t.s.size + costL t.l ≤ _; omega, fitsM HT.out.2.kind HNW.out HT.out.2.x HT.out.2.s⟩, ?_, ?_⟩, ?_⟩
      · refine (Kp.ap (w0 := w2) (lo := w1.heap.size) ?_ HAP.out).osl.tsl
        repeat (first | with_reducible exact KT4.out | with_reducible refine Kp.set ?_ _ (by omega) | with_reducible refine Kp.drew ?_ | with_reducible refine Kp.alloc ?_ _)
      · refine (Kp.ap (w0 := w3) (lo := w2.heap.size + 1) ?_ HAPB.out).osl.tsl
        repeat (first | with_reducible exact KU4.out | with_reducible refine Kp.set ?_ _ (by omega) | with_reducible refine Kp.drew ?_ | with_reducible refine Kp.alloc ?_ _)
      · have hb := below_gr BW1.out G4.out HWP.out
        repeat (first | with_reducible exact hb | with_reducible refine below_set ?_ _ (by omega) | with_reducible refine Below.drew ?_ | with_reducible refine below_alloc ?_ _)
  have n0 : (y == 0) = false := by simpa using hy0
  have n1 : (y == 1) = false := by simpa using hy1
  have Rl := box_lt XR4.out
  obtain ⟨R0, R1, R2, R3, R4, Rf0, Rf1, Rf2, Rf3, Rf4⟩ := five_open XR4.out
  have Ql := box_lt XQ4.out
  obtain ⟨Q0, Q1, Q2, Q3, Q4, Qf0, Qf1, Qf2, Qf3, Qf4⟩ := five_open XQ4.out
  have Al := box_lt XA4.out
  obtain ⟨A0, A1, A2, A3, A4, Af0, Af1, Af2, Af3, Af4⟩ := five_open XA4.out
  have Bl := box_lt XB4.out
  obtain ⟨B0, B1, B2, B3, B4, Bf0, Bf1, Bf2, Bf3, Bf4⟩ := five_open XB4.out
  go_wp2_with fail
  go_region
  all_goals
    go_wp2_with fail
    refine bodyPost_ret (v := .tuple #[.agg #[.int .i64 t.kind, .int .i64 t.n, .int .i64 t.x, .string t.s, .slice au t.l.length cu], .agg #[.int .i64 t.kind, .int .i64 t.n, .int .i64 t.x, .string t.s, .slice ab t.l.length cb]]) (by simp [results, Tryz.results6, go_sem, R0, R1, R2, R3, R4, Q0, Q1, Q2, Q3, Q4]) rfl ⟨⟨t, t, _, _, rfl, ⟨by have := HT.out.1; omega, HT.out.2⟩, ⟨by have := HT.out.1; omega, HT.out.2⟩, ?_, ?_⟩, ?_⟩
    · refine (Kp.ap (w0 := w2) (lo := w1.heap.size) ?_ HAP.out).osl.tsl
      repeat (first | with_reducible exact KT4.out | with_reducible refine Kp.set ?_ _ (by omega) | with_reducible refine Kp.drew ?_ | with_reducible refine Kp.alloc ?_ _)
    · refine (Kp.ap (w0 := w3) (lo := w2.heap.size + 1) ?_ HAPB.out).osl.tsl
      repeat (first | with_reducible exact KU4.out | with_reducible refine Kp.set ?_ _ (by omega) | with_reducible refine Kp.drew ?_ | with_reducible refine Kp.alloc ?_ _)
    · have hb := below_gr BW1.out G4.out HWP.out
      repeat (first | with_reducible exact hb | with_reducible refine below_set ?_ _ (by omega) | with_reducible refine Below.drew ?_ | with_reducible refine below_alloc ?_ _)
set_option maxHeartbeats 8000000 in
theorem drawKindName_c (zs : List Int) (a : Option Addr) (cap : Nat) (w : World) (hr : Rd w .u8 a zs) (hw : ∀ n ∈ zs, (Lit.int .u8 n).wf = true) (hlen : zs.length ≤ 1048576) (hcap : zs.length ≤ cap) :
    Calls Tryz.prog 8 #[.slice a zs.length cap] w fun e w' => (∃ x : Int, e = .returned (.int .i64 x) ∧ -1 ≤ x ∧ x ≤ 12) ∧ Below w.heap.size w w' := by
  have HR := Lib.hid hr; clear hr
  have HW := Lib.hid hw; clear hw
  go_enter Tryz.func8, Tryz.ntmps8
  go_wp2_with fail
  refine (l1New_c zs a cap _ (by exact HR.out) HW.out hlen hcap).mono ?_
  rintro _ w1 ⟨P, rfl, hP, C', b'⟩
  have C1 := Lib.hid C'; clear C'
  have BW1 := Lib.hid b'; clear b'
  have HWP := Lib.hid hP; clear hP
  go_wp2_with fail
  refine (l1Below_c P 14 _ (by exact C1.out) (by omega)).mono ?_
  rintro _ w2 ⟨x, rfl, x0, x1, -, -, C', G'⟩
  have HB2 := Lib.hid (below_gr BW1.out G' HWP.out); clear C' G'
  replace x1 := x1 (by omega)
  have hwx : IntKind.i64.wrap (x - 1) = x - 1 := IntWalk.i64_in _ (by omega)
  go_wp2_with fail
  go_ret
  exact ⟨⟨x - 1, by first | rfl | (rw [hwx]), by omega, by omega⟩, HB2.out⟩
set_option maxHeartbeats 8000000 in
theorem drawIntVal_c (zs : List Int) (a : Option Addr) (cap : Nat) (w : World) (hr : Rd w .u8 a zs) (hw : ∀ n ∈ zs, (Lit.int .u8 n).wf = true) (hlen : zs.length ≤ 1048576) (hcap : zs.length ≤ cap) :
    Calls Tryz.prog 9 #[.slice a zs.length cap] w fun e w' => (∃ x : Int, e = .returned (.int .i64 x) ∧ wf6 x) ∧ Below w.heap.size w w' := by
  have HR := Lib.hid hr; clear hr
  have HW := Lib.hid hw; clear hw
  go_enter Tryz.func9, Tryz.ntmps9
  go_wp2_with fail
  refine (l1New_c zs a cap _ (by exact HR.out) HW.out hlen hcap).mono ?_
  rintro _ w1 ⟨P, rfl, hP, C', b'⟩
  have C1 := Lib.hid C'; clear C'
  have BW1 := Lib.hid b'; clear b'
  have HWP := Lib.hid hP; clear hP
  go_wp2_with fail
  refine (l1One_c P _ (by exact C1.out)).mono ?_
  rintro _ w2 ⟨x, rfl, hx, C', G'⟩
  have HB2 := Lib.hid (below_gr BW1.out G' HWP.out); clear C' G'
  go_wp2_with fail
  go_ret
  exact ⟨⟨x, rfl, hx⟩, HB2.out⟩
set_option maxHeartbeats 8000000 in
theorem drawTextVal_c (zs : List Int) (a : Option Addr) (cap : Nat) (w : World) (hr : Rd w .u8 a zs) (hw : ∀ n ∈ zs, (Lit.int .u8 n).wf = true) (hlen : zs.length ≤ 1048576) (hcap : zs.length ≤ cap) :
    Calls Tryz.prog 10 #[.slice a zs.length cap] w fun e w' => (∃ S : ByteArray, e = .returned (.string S) ∧ S.size ≤ 200) ∧ Below w.heap.size w w' := by
  have HR := Lib.hid hr; clear hr
  have HW := Lib.hid hw; clear hw
  go_enter Tryz.func10, Tryz.ntmps10
  go_wp2_with fail
  refine (l1New_c zs a cap _ (by exact HR.out) HW.out hlen hcap).mono ?_
  rintro _ w1 ⟨P, rfl, hP, C', b'⟩
  have C1 := Lib.hid C'; clear C'
  have BW1 := Lib.hid b'; clear b'
  have HWP := Lib.hid hP; clear hP
  go_wp2_with fail
  refine (l2Str_c P _ (by exact C1.out)).mono ?_
  rintro _ w2 ⟨S, rfl, hS, C', G'⟩
  have HB2 := Lib.hid (below_gr BW1.out G' HWP.out); clear C' G'
  go_wp2_with fail
  go_ret
  exact ⟨⟨S, rfl, hS⟩, HB2.out⟩
set_option maxHeartbeats 8000000 in
theorem drawNumberVal_c (zs : List Int) (a : Option Addr) (cap : Nat) (w : World) (hr : Rd w .u8 a zs) (hw : ∀ n ∈ zs, (Lit.int .u8 n).wf = true) (hlen : zs.length ≤ 1048576) (hcap : zs.length ≤ cap) :
    Calls Tryz.prog 12 #[.slice a zs.length cap] w fun e w' => (∃ n x : Int, e = .returned (.agg #[.int .i64 n, .int .i64 x]) ∧ wf6 n ∧ wf6 x) ∧ Below w.heap.size w w' := by
  have HR := Lib.hid hr; clear hr
  have HW := Lib.hid hw; clear hw
  go_enter Tryz.func12, Tryz.ntmps12
  go_wp2_with fail
  refine (l1New_c zs a cap _ (by exact rd_kept (below_alloc (Below.refl w.heap.size w) _) HR.out) HW.out hlen hcap).mono ?_
  rintro _ w1 ⟨P, rfl, hP, C', b'⟩
  simp only [World.size_alloc] at hP
  have C1 := Lib.hid C'; clear C'
  have XR1 : Hid (w1.heap[w.heap.size]? = some (.cells #[.int .i64 0, .int .i64 0] 34 (0, 0))) := Lib.hid (box_below (heap_alloc_new _ _) b')
  have LER := Lib.hid (show w.heap.size < P by omega)
  have BW1 := Lib.hid (nx (below_alloc (Below.refl w.heap.size w) _) b'); clear b'
  have HWP := Lib.hid (show w.heap.size ≤ P by omega); clear hP
  go_wp2_with fail
  refine (l4Any_c P _ (by exact C1.out)).mono ?_
  rintro _ w2 ⟨n, x, rfl, hnx, C', G'⟩
  have HNX := Lib.hid hnx; clear hnx
  have XR2 : Hid (w2.heap[w.heap.size]? = some (.cells #[.int .i64 0, .int .i64 0] 34 (0, 0))) := Lib.hid (box_gr XR1.out G' (by have h2 := LER.out; omega))
  have HB2 := Lib.hid (below_gr BW1.out G' HWP.out); clear C' G'
  have Rl := box_lt XR2.out
  obtain ⟨R0, R1, Rf0, Rf1⟩ := box_two XR2.out
  go_wp2_with fail
  refine bodyPost_ret (v := .agg #[.int .i64 n, .int .i64 x]) (by simp [results, Tryz.results12, go_sem, R0, R1]) rfl ⟨⟨n, x, rfl, HNX.out.1, HNX.out.2⟩, ?_⟩
  repeat (first | with_reducible exact HB2.out | with_reducible refine below_set ?_ _ (Nat.le_refl _))
set_option maxRecDepth 100000 in
set_option maxHeartbeats 8000000 in
theorem drawListVal_c (zs : List Int) (a : Option Addr) (cap : Nat) (w : World) (hr : Rd w .u8 a zs) (hw : ∀ n ∈ zs, (Lit.int .u8 n).wf = true) (hlen : zs.length ≤ 1048576) (hcap : zs.length ≤ cap) :
    Calls Tryz.prog 11 #[.slice a zs.length cap] w fun e w' => (∃ (l : List Tree) (u : Value), e = .returned u ∧ costL l ≤ 2000 ∧ TSl w' u l) ∧ Below w.heap.size w w' := by
  have HR := Lib.hid hr; clear hr
  have HW := Lib.hid hw; clear hw
  obtain ⟨i0, hi, hz, hs, hb⟩ := info_parts info_val
  have HI := Lib.hid hi; clear hi
  go_enter Tryz.func11, Tryz.ntmps11
  go_wp2_with fail
  refine (l1New_c zs a cap _ (by exact HR.out) HW.out hlen hcap).mono ?_
  rintro _ w1 ⟨P, rfl, hP, C', b'⟩
  have C1 := Lib.hid C'; clear C'
  have BW1 := Lib.hid b'; clear b'
  have HP := Lib.hid C1.out.lt
  have HWP := Lib.hid hP; clear hP
  go_wp2_with fail
  refine (l1Below_c P 4 _ (by exact (Cur.alloc C1.out _)) (by omega)).mono ?_
  rintro _ w3 ⟨x0, rfl, x00, x01, -, -, C', G'⟩
  replace x01 := x01 (by omega)
  have C3 := Lib.hid C'; clear C'
  have HA3 := Lib.hid (ap_gr (AP.made w1 26) G' HP.out)
  have G3 := Lib.hid (gr_trans (gr_alloc (gr_refl (w := w1) (P := P)) _) G'); clear G'
  go_wp2_with fail
  go_loopw [4, 5] (fun v i wr => ∃ (l : List Tree) (X : Int), i = .int .i64 X ∧ 0 ≤ X ∧ X ≤ 3 ∧ l.length + X ≤ 3 ∧ Hid ((costL l : Int) + X * 500 ≤ 1500) ∧ Hid (AP wr w1.heap.size 26 v l) ∧ Hid (Cur wr P) ∧ Hid (w1.grownBy wr (some P))) (fun _ i _ => (intOf i).toNat)
  case atStart => exact ⟨[], x0, rfl, x00, by omega, by simp; omega, Lib.hid (by simp [costL]; omega), HA3, C3, G3⟩
  case round =>
    obtain ⟨l, X, rfl, hX0, hX3, hlX, HL, HA, CUR, GR⟩ := hrel
    obtain ⟨a3, cap3, rfl⟩ := HA.out.form
    by_cases hX : 0 < X
    · obtain ⟨es, hes⟩ := HA.out
      have HES := Lib.hid hes; clear hes
      go_wp2_with fail
      refine (l6Draw_1 P _ (by exact CUR.out)).mono ?_
      rintro _ w4 ⟨t, u, rfl, ht, hap, C', G'⟩
      have HT := Lib.hid ht; clear ht
      have HAP := Lib.hid hap; clear hap
      have GP := Lib.hid G'
      have C4 := Lib.hid C'; clear C' G'
      obtain ⟨au, cu, rfl⟩ := HAP.out.form
      have hsz4 := GP.out.size; have hszr := GR.out.size
      have HB1 := Lib.hid (vbelow1 w4 (.cells #[.int .i64 t.kind, .int .i64 t.n, .int .i64 t.x, .string t.s, .slice au t.l.length cu] 26))
      have OWN := Lib.hid (draw_own HES.out HP.out GP.out HB1.out)
      generalize hX' : cells5 t (.slice au t.l.length cu) = XX
      have hXl : XX.length = 1 * 5 := by rw [← hX']; rfl
      have hX1 : ∀ x ∈ XX, x.oneCell' = true := by rw [← hX']; exact one5 _ _ _ _
      have hXn : ∀ (k : Nat) v, XX[k]? = some v → (w4.alloc (.cells #[.int .i64 t.kind, .int .i64 t.n, .int .i64 t.x, .string t.s, .slice au t.l.length cu] 26)).cell? ((⟨w4.heap.size, 0, none⟩ : Addr).add k) = some v := by
        rw [← hX']
        exact World.news_of_block (heap_alloc_new _ _)
      have HX := Lib.hid hX'; have HXN := Lib.hid hXn; have HX1 := Lib.hid hX1; clear hX' hXn hX1
      go_wp2_with (at_builtin; go_must (refine wpList_append_lies rfl (.tmp 15) (.tmp 18) 24 rfl w1.heap.size 26 i0 _ 5 64 Tryz.underlying24 HI.out hz hs hb rfl (by decide) _ _ _ rfl OWN.out ⟨w4.heap.size, 0, none⟩ 1 1 XX rfl hXl HXN.out HX1.out (by decide) (by unfold maxLen; omega) (by omega) (by simp only [World.size_alloc]; omega) _ rfl ?_); intro g cap5 w5 hown2 hg2 hf2 hlt2; have HOWN := Lib.hid hown2; have HG2 := Lib.hid hg2; have HF2 := Lib.hid hf2; clear hown2 hg2 hf2)
      have DA := draw_append (w := w1) HES.out HP.out (Nat.le_refl _) hszr GR.out GP.out C4.out HAP.out HT.out.2.2 HB1.out (by rw [HX.out]; exact HOWN.out) HG2.out HF2.out
      have HDA := Lib.hid DA; clear DA
      go_roundw
      case rel => exact ⟨l ++ [t], X - 1, by first | rfl | go_num, by omega, by omega, by rw [List.length_append]; simp; omega, Lib.hid (by have h1 := HL.out; have h2 := HT.out.2.1; rw [costL_snoc, Int.sub_mul, Int.one_mul]; omega), Lib.hid HDA.out.1, Lib.hid HDA.out.2.1, Lib.hid HDA.out.2.2.1⟩
      case measure => simp [intOf]; omega
    · obtain rfl : X = 0 := by omega
      clear hX hX0 hX3 hlX
      go_wp2_with fail
      go_ret
      exact ⟨⟨l, _, rfl, by have h1 := HL.out; omega, HA.out.osl.tsl⟩, below_gr BW1.out GR.out HWP.out⟩
end Go.Proofs.YtilmhemcpgiikaaGreatDoor
