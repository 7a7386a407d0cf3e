/- FnNears: what is nearest does not turn its sign, and what is less is not nearest to more. -/
import Derived.Test.YtilmhemcpgiikaaDoorDFlt
import Derived.Test.YtilmhemcpgiikaaDoorDSame
import Derived.Test.YtilmhemcpgiikaaDoorMNearMono
import Derived.Test.YtilmhemcpgiikaaDoorHeld
import Derived.Deep.RegionHeld3
import Derived.Deep.RegionWith
import Derived.Deep.DeepCutAuto
namespace Go.Proofs.YtilmhemcpgiikaaDoor
open Go.Deep Go.ChangeShapes Go.WideShapes Go.ChangeAt Go.RowKit
open Go.ChangeMaps (open_string shut_string)

set_option maxRecDepth 100000 in
set_option maxHeartbeats 40000000 in
theorem fnNears_law (a : Option Addr) (cap : Nat) (zs : List Int) (w : World) (hL : LaidP w) (hr : Rd w .u8 a zs) (hw : ∀ n ∈ zs, (Lit.int .u8 n).wf = true) (hcap : zs.length ≤ cap) (_hm : cap ≤ maxLen) :
    Calls Tryd.prog 10 #[.slice a zs.length cap] w fun e w' => e = .returned (.bool true) ∧ Below w.heap.size w w' := by
  have HR := Lib.hid hr; clear hr
  have HW := Lib.hid hw; clear hw
  have LA := Lib.hid hL; clear hL
  have Hlen := Lib.hid (show zs.length ≤ 9223372036854775807 by unfold maxLen at _hm; omega)
  cases hbig : decide ((1048576 : Int) < (zs.length : Int)) with
  | true =>
    have HB := Lib.hid hbig; clear hbig
    go_enter Tryd.func10, Tryd.ntmps10
    go_wp2_with fail
    refine (big_c _ _ _ _).mono ?_
    rintro _ _ ⟨rfl, rfl⟩
    rw [HB.out]
    go_wp2_with fail
    go_ret
    exact ⟨rfl, Below.refl _ _⟩
  | false =>
    have hlen : zs.length ≤ 1048576 := by have := of_decide_eq_false hbig; omega
    have HB := Lib.hid hbig; clear hbig
    go_enter Tryd.func10, Tryd.ntmps10
    go_wp2_with fail
    refine (big_c _ _ _ _).mono ?_
    rintro _ _ ⟨rfl, rfl⟩
    rw [HB.out]
    go_wp2_with fail
    refine (drawNearFlt_c zs a cap _ (by exact rd_kept (Below.refl w.heap.size w) HR.out) HW.out hlen hcap).mono ?_
    rintro _ w1 ⟨⟨n, x, rfl, hn, hx⟩, b'⟩
    have T1 := Lib.hid (nx (Below.refl w.heap.size w) b'); clear b'
    have NW := Lib.hid hn; clear hn hx
    have HNN := Lib.hid (near_none (n := n) (x := x)); have HOKN := Lib.hid (near_ok (n := n) (x := x)); have HSG := Lib.hid (fun M E => near_sign (n := n) (x := x) (M := M) (E := E))
    have hni := fun ww (hL : LaidP ww) => nearFlt_impl n x ww hL NW.out.1 NW.out.2; have hns := fun ww => nearFlt_spec n x ww NW.out.1 NW.out.2
    have HXB : Hid (exactB n x = ((nearF n x).2.2 && (decide (fltDecF (nearF n x).1 (nearF n x).2.1 = (n, x))))) := Lib.hid rfl
    obtain ⟨⟨M, E, Q⟩, hQ⟩ : ∃ z : Int × Int × Bool, nearF n x = z := ⟨_, rfl⟩
    have HQ := Lib.hid hQ
    rw [hQ] at HNN HOKN hni hns HXB
    clear hQ
    dsimp only at hni hns HXB
    have HNI := Lib.hid hni; have HNS := Lib.hid hns; clear hni hns
    have HN1 : Hid (Q = false → M = 0 ∧ E = 0) := HNN; have HN2 : Hid (Q = true → fltOkF M E = true) := HOKN; clear HNN HOKN
    go_wp2_with fail
    refine (HNI.out _ (LA.out.kept (below_alloc T1.out _))).mono ?_
    rintro _ w2 ⟨rfl, b'⟩
    have XD2 : Hid (w2.heap[w1.heap.size]? = some (.cells #[.int .i64 n, .int .i64 x] 42 (0, 0))) := Lib.hid (box_below (heap_alloc_new _ _) b')
    have T2 := Lib.hid (nx (below_alloc T1.out _) b'); clear b'
    have Dl := box_lt XD2.out
    obtain ⟨D0, D1, Df0, Df1⟩ := box_two XD2.out
    go_wp2_with fail
    refine (HNS.out _).mono ?_
    rintro _ w3 ⟨rfl, b'⟩
    have XD3 : Hid (w3.heap[w1.heap.size]? = some (.cells #[.int .i64 n, .int .i64 x] 42 (0, 0))) := Lib.hid (box_below (box_alloc XD2.out _) b')
    have XF3 : Hid (w3.heap[w2.heap.size]? = some (.cells #[.int .i64 M, .int .i64 E] 56 (0, 0))) := Lib.hid (box_below (heap_alloc_new _ _) b')
    have T3 := Lib.hid (nx (below_alloc T2.out _) b'); clear b'
    clear Dl D0 D1 Df0 Df1
    go_wp2_with fail
    refine (drawExact_c zs a cap _ (by exact rd_kept (below_alloc T3.out _) HR.out) HW.out hlen hcap).mono ?_
    rintro _ w4 ⟨⟨n2, x2, rfl, hn⟩, b'⟩
    have XD4 : Hid (w4.heap[w1.heap.size]? = some (.cells #[.int .i64 n, .int .i64 x] 42 (0, 0))) := Lib.hid (box_below (box_alloc XD3.out _) b')
    have XF4 : Hid (w4.heap[w2.heap.size]? = some (.cells #[.int .i64 M, .int .i64 E] 56 (0, 0))) := Lib.hid (box_below (box_alloc XF3.out _) b')
    have XG4 : Hid (w4.heap[w3.heap.size]? = some (.cells #[.int .i64 M, .int .i64 E] 56 (0, 0))) := Lib.hid (box_below (heap_alloc_new _ _) b')
    have T4 := Lib.hid (nx (below_alloc T3.out _) b'); clear b'
    have HOK2 := Lib.hid hn; have NW2 := Lib.hid (dec_rng hn); clear hn
    have hn2 := fun ww (hL : LaidP ww) => nearFlt_impl n2 x2 ww hL (by have := NW2.out; omega) (by have := NW2.out; omega)
    obtain ⟨⟨M2, E2, Q2⟩, hQ⟩ : ∃ z : Int × Int × Bool, nearF n2 x2 = z := ⟨_, rfl⟩
    have HQ2 := Lib.hid hQ
    rw [hQ] at hn2
    clear hQ
    dsimp only at hn2
    have HNI2 := Lib.hid hn2; clear hn2
    go_wp2_with fail
    refine (HNI2.out _ (LA.out.kept (below_alloc T4.out _))).mono ?_
    rintro _ w5 ⟨rfl, b'⟩
    have XD5 : Hid (w5.heap[w1.heap.size]? = some (.cells #[.int .i64 n, .int .i64 x] 42 (0, 0))) := Lib.hid (box_below (box_alloc XD4.out _) b')
    have XF5 : Hid (w5.heap[w2.heap.size]? = some (.cells #[.int .i64 M, .int .i64 E] 56 (0, 0))) := Lib.hid (box_below (box_alloc XF4.out _) b')
    have XG5 : Hid (w5.heap[w3.heap.size]? = some (.cells #[.int .i64 M, .int .i64 E] 56 (0, 0))) := Lib.hid (box_below (box_alloc XG4.out _) b')
    have XI5 : Hid (w5.heap[w4.heap.size]? = some (.cells #[.int .i64 n2, .int .i64 x2] 42 (0, 0))) := Lib.hid (box_below (heap_alloc_new _ _) b')
    have T5 := Lib.hid (nx (below_alloc T4.out _) b'); clear b'
    obtain ⟨w6, hw6⟩ : ∃ wx, wx = (w5.alloc (.cells #[.int .i64 M2, .int .i64 E2] 56)) := ⟨_, rfl⟩
    have XD6 : Hid (w6.heap[w1.heap.size]? = some (.cells #[.int .i64 n, .int .i64 x] 42 (0, 0))) := Lib.hid (by rw [hw6]; exact (box_alloc XD5.out _))
    have XF6 : Hid (w6.heap[w2.heap.size]? = some (.cells #[.int .i64 M, .int .i64 E] 56 (0, 0))) := Lib.hid (by rw [hw6]; exact (box_alloc XF5.out _))
    have XG6 : Hid (w6.heap[w3.heap.size]? = some (.cells #[.int .i64 M, .int .i64 E] 56 (0, 0))) := Lib.hid (by rw [hw6]; exact (box_alloc XG5.out _))
    have XI6 : Hid (w6.heap[w4.heap.size]? = some (.cells #[.int .i64 n2, .int .i64 x2] 42 (0, 0))) := Lib.hid (by rw [hw6]; exact (box_alloc XI5.out _))
    have XH6 : Hid (w6.heap[w5.heap.size]? = some (.cells #[.int .i64 M2, .int .i64 E2] 56 (0, 0))) := Lib.hid (by rw [hw6]; exact (heap_alloc_new _ _))
    have T6 := Lib.hid (show Below w.heap.size w w6 by rw [hw6]; exact (below_alloc T5.out _))
    go_wp2_with fail
    rw [← hw6]
    clear hw6
    have hei := fun ww (hL : LaidP ww) => exact_impl n2 x2 ww hL (by have := NW2.out; omega) (by have := NW2.out; omega); have hes := fun ww => exact_spec n2 x2 ww (by have := NW2.out; omega) (by have := NW2.out; omega)
    obtain ⟨V, hV⟩ : ∃ q, exactB n2 x2 = q := ⟨_, rfl⟩
    rw [hV] at hei hes
    have HEI := Lib.hid hei; have HES := Lib.hid hes; clear hei hes hV
    have P1 := Lib.hid (fun ww (hb : Below w6.heap.size w6 ww) => LA.out.kept (nx T6.out hb))
    have R1 := Lib.hid (fun ww (hb : Below w6.heap.size w6 ww) => HEI.out ww (P1.out ww hb))
    have R2 := Lib.hid (fun ww (_ : Below w6.heap.size w6 ww) => HES.out ww)
    cases Q with
    | false =>
      obtain ⟨rfl, rfl⟩ := HN1.out rfl
      have d0 : Below w6.heap.size w6 w6.drew := (Below.refl _ _).drew
      refine wp_region_held_drew (S := fun ww => Below w6.heap.size w6 ww) (by kernel_rfl) d0 (fun _ => ?_)
      refine held_do 0 33 (.agg #[.int .i64 0, .int .i64 0]) (by kernel_rfl) (by kernel_rfl) (by kernel_rfl) (fun _ _ _ h => h) (by kernel_rfl) (by kernel_rfl) d0 (fun ww h => run_of (op := .load 56 (.tmp 4)) (by kernel_rfl) (fun o ho => load_flt rfl (two_num h XF6.out) ho)) ?_
      try simp only [Act.put, List.setIfInBounds_toArray, List.set_cons_zero, List.set_cons_succ]
      refine held_do 1 34 (.agg #[.int .i64 0, .int .i64 0]) (by kernel_rfl) (by kernel_rfl) (by kernel_rfl) (fun _ _ _ h => h) (by kernel_rfl) (by kernel_rfl) d0 (fun ww h => run_of (op := .load 56 (.tmp 6)) (by kernel_rfl) (fun o ho => load_flt rfl (two_num h XG6.out) ho)) ?_
      try simp only [Act.put, List.setIfInBounds_toArray, List.set_cons_zero, List.set_cons_succ]
      refine held_do 2 35 (.bool false) (by kernel_rfl) (by kernel_rfl) (by kernel_rfl) (fun _ _ _ h => h) (by kernel_rfl) (by kernel_rfl) d0 (by intro ww hSw; clear hSw; go_simp) ?_
      try simp only [Act.put, List.setIfInBounds_toArray, List.set_cons_zero, List.set_cons_succ]
      refine held_do 3 36 (.bool false) (by kernel_rfl) (by kernel_rfl) (by kernel_rfl) (fun _ _ _ h => h) (by kernel_rfl) (by kernel_rfl) d0 (fun ww _ => by kernel_rfl) ?_
      try simp only [Act.put, List.setIfInBounds_toArray, List.set_cons_zero, List.set_cons_succ]
      refine held_do 4 37 (.bool false) (by kernel_rfl) (by kernel_rfl) (by kernel_rfl) (fun _ _ _ h => h) (by kernel_rfl) (by kernel_rfl) d0 (fun ww _ => by kernel_rfl) ?_
      try simp only [Act.put, List.setIfInBounds_toArray, List.set_cons_zero, List.set_cons_succ]
      refine held_do 5 38 (.bool false) (by kernel_rfl) (by kernel_rfl) (by kernel_rfl) (fun _ _ _ h => h) (by kernel_rfl) (by kernel_rfl) d0 (fun ww _ => by kernel_rfl) ?_
      try simp only [Act.put, List.setIfInBounds_toArray, List.set_cons_zero, List.set_cons_succ]
      refine held_do 6 39 (.bool false) (by kernel_rfl) (by kernel_rfl) (by kernel_rfl) (fun _ _ _ h => h) (by kernel_rfl) (by kernel_rfl) d0 (fun ww _ => by kernel_rfl) ?_
      try simp only [Act.put, List.setIfInBounds_toArray, List.set_cons_zero, List.set_cons_succ]
      refine held_do 7 40 (.bool false) (by kernel_rfl) (by kernel_rfl) (by kernel_rfl) (fun _ _ _ h => h) (by kernel_rfl) (by kernel_rfl) d0 (fun ww _ => by kernel_rfl) ?_
      try simp only [Act.put, List.setIfInBounds_toArray, List.set_cons_zero, List.set_cons_succ]
      refine held_do 8 41 (.bool false) (by kernel_rfl) (by kernel_rfl) (by kernel_rfl) (fun _ _ _ h => h) (by kernel_rfl) (by kernel_rfl) d0 (fun ww _ => by kernel_rfl) ?_
      try simp only [Act.put, List.setIfInBounds_toArray, List.set_cons_zero, List.set_cons_succ]
      refine held_do 9 42 (.agg #[.int .i64 n2, .int .i64 x2]) (by kernel_rfl) (by kernel_rfl) (by kernel_rfl) (fun _ _ _ h => h) (by kernel_rfl) (by kernel_rfl) d0 (fun ww h => run_of (op := .load 42 (.tmp 8)) (by kernel_rfl) (fun o ho => load_dec rfl (two_num h XI6.out) ho)) ?_
      try simp only [Act.put, List.setIfInBounds_toArray, List.set_cons_zero, List.set_cons_succ]
      refine held_do 11 44 (.agg #[.int .i64 n2, .int .i64 x2]) (by kernel_rfl) (by kernel_rfl) (by kernel_rfl) (fun _ _ _ h => h) (by kernel_rfl) (by kernel_rfl) d0 (fun ww h => run_of (op := .load 42 (.tmp 8)) (by kernel_rfl) (fun o ho => load_dec rfl (two_num h XI6.out) ho)) ?_
      try simp only [Act.put, List.setIfInBounds_toArray, List.set_cons_zero, List.set_cons_succ]
      refine held_call 10 43 53 #[.agg #[.int .i64 n2, .int .i64 x2]] (by kernel_rfl) (by kernel_rfl) (by kernel_rfl) (fun _ => by kernel_rfl) ((R1.out _ d0).mono ?_)
      rintro _ v1 ⟨rfl, b1⟩
      have d1 := nx d0 b1
      clear b1
      refine ⟨_, rfl, d1, ?_⟩
      try simp only [Act.put, List.setIfInBounds_toArray, List.set_cons_zero, List.set_cons_succ]
      refine held_call 12 45 57 #[.agg #[.int .i64 n2, .int .i64 x2]] (by kernel_rfl) (by kernel_rfl) (by kernel_rfl) (fun _ => by kernel_rfl) ((R2.out _ d1).mono ?_)
      rintro _ v2 ⟨rfl, b2⟩
      have d2 := nx d1 b2
      clear b2
      refine ⟨_, rfl, d2, ?_⟩
      try simp only [Act.put, List.setIfInBounds_toArray, List.set_cons_zero, List.set_cons_succ]
      refine held_do 13 46 (.bool false) (by kernel_rfl) (by kernel_rfl) (by kernel_rfl) (fun _ _ _ h => h) (by kernel_rfl) (by kernel_rfl) d2 (by intro ww hSw; clear hSw; go_simp) ?_
      try simp only [Act.put, List.setIfInBounds_toArray, List.set_cons_zero, List.set_cons_succ]
      refine held_do 14 47 (.bool false) (by kernel_rfl) (by kernel_rfl) (by kernel_rfl) (fun _ _ _ h => h) (by kernel_rfl) (by kernel_rfl) d2 (fun ww _ => by kernel_rfl) ?_
      try simp only [Act.put, List.setIfInBounds_toArray, List.set_cons_zero, List.set_cons_succ]
      refine held_do 15 48 (.bool false) (by kernel_rfl) (by kernel_rfl) (by kernel_rfl) (fun _ _ _ h => h) (by kernel_rfl) (by kernel_rfl) d2 (fun ww _ => by kernel_rfl) ?_
      try simp only [Act.put, List.setIfInBounds_toArray, List.set_cons_zero, List.set_cons_succ]
      refine held_do 16 49 (.bool false) (by kernel_rfl) (by kernel_rfl) (by kernel_rfl) (fun _ _ _ h => h) (by kernel_rfl) (by kernel_rfl) d2 (fun ww _ => by kernel_rfl) ?_
      try simp only [Act.put, List.setIfInBounds_toArray, List.set_cons_zero, List.set_cons_succ]
      refine held_do 17 50 (.bool true) (by kernel_rfl) (by kernel_rfl) (by kernel_rfl) (fun _ _ _ h => h) (by kernel_rfl) (by kernel_rfl) d2 (fun ww _ => by kernel_rfl) ?_
      try simp only [Act.put, List.setIfInBounds_toArray, List.set_cons_zero, List.set_cons_succ]
      refine held_do 18 51 (.bool true) (by kernel_rfl) (by kernel_rfl) (by kernel_rfl) (fun _ _ _ h => h) (by kernel_rfl) (by kernel_rfl) d2 (fun ww _ => by kernel_rfl) ?_
      try simp only [Act.put, List.setIfInBounds_toArray, List.set_cons_zero, List.set_cons_succ]
      refine held_do 19 52 (.agg #[.int .i64 0, .int .i64 0]) (by kernel_rfl) (by kernel_rfl) (by kernel_rfl) (fun _ _ _ h => h) (by kernel_rfl) (by kernel_rfl) d2 (fun ww h => run_of (op := .load 56 (.tmp 4)) (by kernel_rfl) (fun o ho => load_flt rfl (two_num h XF6.out) ho)) ?_
      try simp only [Act.put, List.setIfInBounds_toArray, List.set_cons_zero, List.set_cons_succ]
      refine held_do 20 53 (.agg #[.int .i64 0, .int .i64 0]) (by kernel_rfl) (by kernel_rfl) (by kernel_rfl) (fun _ _ _ h => h) (by kernel_rfl) (by kernel_rfl) d2 (fun ww _ => by kernel_rfl) ?_
      try simp only [Act.put, List.setIfInBounds_toArray, List.set_cons_zero, List.set_cons_succ]
      refine held_do 21 54 (.bool false) (by kernel_rfl) (by kernel_rfl) (by kernel_rfl) (fun _ _ _ h => h) (by kernel_rfl) (by kernel_rfl) d2 (by intro ww hSw; clear hSw; go_simp) ?_
      try simp only [Act.put, List.setIfInBounds_toArray, List.set_cons_zero, List.set_cons_succ]
      refine held_do 22 55 (.bool false) (by kernel_rfl) (by kernel_rfl) (by kernel_rfl) (fun _ _ _ h => h) (by kernel_rfl) (by kernel_rfl) d2 (fun ww _ => by kernel_rfl) ?_
      try simp only [Act.put, List.setIfInBounds_toArray, List.set_cons_zero, List.set_cons_succ]
      refine held_do 23 56 (.bool false) (by kernel_rfl) (by kernel_rfl) (by kernel_rfl) (fun _ _ _ h => h) (by kernel_rfl) (by kernel_rfl) d2 (fun ww _ => by kernel_rfl) ?_
      try simp only [Act.put, List.setIfInBounds_toArray, List.set_cons_zero, List.set_cons_succ]
      refine wpAnyH_done (by kernel_rfl) ?_ _
      obtain ⟨w7, hw7⟩ : ∃ wx, wx = v2 := ⟨_, rfl⟩
      have XD7 : Hid (w7.heap[w1.heap.size]? = some (.cells #[.int .i64 n, .int .i64 x] 42 (0, 0))) := Lib.hid (by rw [hw7]; exact box_below XD6.out d2)
      have XF7 : Hid (w7.heap[w2.heap.size]? = some (.cells #[.int .i64 0, .int .i64 0] 56 (0, 0))) := Lib.hid (by rw [hw7]; exact box_below XF6.out d2)
      have XG7 : Hid (w7.heap[w3.heap.size]? = some (.cells #[.int .i64 0, .int .i64 0] 56 (0, 0))) := Lib.hid (by rw [hw7]; exact box_below XG6.out d2)
      have XI7 : Hid (w7.heap[w4.heap.size]? = some (.cells #[.int .i64 n2, .int .i64 x2] 42 (0, 0))) := Lib.hid (by rw [hw7]; exact box_below XI6.out d2)
      have XH7 : Hid (w7.heap[w5.heap.size]? = some (.cells #[.int .i64 M2, .int .i64 E2] 56 (0, 0))) := Lib.hid (by rw [hw7]; exact box_below XH6.out d2)
      have T7 := Lib.hid (show Below w.heap.size w w7 by rw [hw7]; exact nx T6.out d2)
      rw [← hw7]
      clear d2 d1 d0 hw7
      go_wp2_with fail
      go_ret
      exact ⟨rfl, T7.out⟩
    | true =>
      have hok := HN2.out rfl; have hsg := HSG.out M E HQ.out
      have d0 : Below w6.heap.size w6 w6.drew := (Below.refl _ _).drew
      refine wp_region_held_drew (S := fun ww => Below w6.heap.size w6 ww) (by kernel_rfl) d0 (fun _ => ?_)
      refine held_do 0 33 (.agg #[.int .i64 M, .int .i64 E]) (by kernel_rfl) (by kernel_rfl) (by kernel_rfl) (fun _ _ _ h => h) (by kernel_rfl) (by kernel_rfl) d0 (fun ww h => run_of (op := .load 56 (.tmp 4)) (by kernel_rfl) (fun o ho => load_flt rfl (two_num h XF6.out) ho)) ?_
      try simp only [Act.put, List.setIfInBounds_toArray, List.set_cons_zero, List.set_cons_succ]
      refine held_do 1 34 (.agg #[.int .i64 M, .int .i64 E]) (by kernel_rfl) (by kernel_rfl) (by kernel_rfl) (fun _ _ _ h => h) (by kernel_rfl) (by kernel_rfl) d0 (fun ww h => run_of (op := .load 56 (.tmp 6)) (by kernel_rfl) (fun o ho => load_flt rfl (two_num h XG6.out) ho)) ?_
      try simp only [Act.put, List.setIfInBounds_toArray, List.set_cons_zero, List.set_cons_succ]
      refine held_do 2 35 (.bool false) (by kernel_rfl) (by kernel_rfl) (by kernel_rfl) (fun _ _ _ h => h) (by kernel_rfl) (by kernel_rfl) d0 (by intro ww hSw; clear hSw; go_simp) ?_
      try simp only [Act.put, List.setIfInBounds_toArray, List.set_cons_zero, List.set_cons_succ]
      refine held_do 3 36 (.bool false) (by kernel_rfl) (by kernel_rfl) (by kernel_rfl) (fun _ _ _ h => h) (by kernel_rfl) (by kernel_rfl) d0 (fun ww _ => by kernel_rfl) ?_
      try simp only [Act.put, List.setIfInBounds_toArray, List.set_cons_zero, List.set_cons_succ]
      refine held_do 4 37 (.bool true) (by kernel_rfl) (by kernel_rfl) (by kernel_rfl) (fun _ _ _ h => h) (by kernel_rfl) (by kernel_rfl) d0 (fun ww _ => by kernel_rfl) ?_
      try simp only [Act.put, List.setIfInBounds_toArray, List.set_cons_zero, List.set_cons_succ]
      refine held_do 5 38 (.bool true) (by kernel_rfl) (by kernel_rfl) (by kernel_rfl) (fun _ _ _ h => h) (by kernel_rfl) (by kernel_rfl) d0 (fun ww _ => by kernel_rfl) ?_
      try simp only [Act.put, List.setIfInBounds_toArray, List.set_cons_zero, List.set_cons_succ]
      refine held_do 6 39 (.bool false) (by kernel_rfl) (by kernel_rfl) (by kernel_rfl) (fun _ _ _ h => h) (by kernel_rfl) (by kernel_rfl) d0 (fun ww _ => by kernel_rfl) ?_
      try simp only [Act.put, List.setIfInBounds_toArray, List.set_cons_zero, List.set_cons_succ]
      refine held_do 7 40 (.bool false) (by kernel_rfl) (by kernel_rfl) (by kernel_rfl) (fun _ _ _ h => h) (by kernel_rfl) (by kernel_rfl) d0 (fun ww _ => by kernel_rfl) ?_
      try simp only [Act.put, List.setIfInBounds_toArray, List.set_cons_zero, List.set_cons_succ]
      refine held_do 8 41 (.bool false) (by kernel_rfl) (by kernel_rfl) (by kernel_rfl) (fun _ _ _ h => h) (by kernel_rfl) (by kernel_rfl) d0 (fun ww _ => by kernel_rfl) ?_
      try simp only [Act.put, List.setIfInBounds_toArray, List.set_cons_zero, List.set_cons_succ]
      refine held_do 9 42 (.agg #[.int .i64 n2, .int .i64 x2]) (by kernel_rfl) (by kernel_rfl) (by kernel_rfl) (fun _ _ _ h => h) (by kernel_rfl) (by kernel_rfl) d0 (fun ww h => run_of (op := .load 42 (.tmp 8)) (by kernel_rfl) (fun o ho => load_dec rfl (two_num h XI6.out) ho)) ?_
      try simp only [Act.put, List.setIfInBounds_toArray, List.set_cons_zero, List.set_cons_succ]
      refine held_do 11 44 (.agg #[.int .i64 n2, .int .i64 x2]) (by kernel_rfl) (by kernel_rfl) (by kernel_rfl) (fun _ _ _ h => h) (by kernel_rfl) (by kernel_rfl) d0 (fun ww h => run_of (op := .load 42 (.tmp 8)) (by kernel_rfl) (fun o ho => load_dec rfl (two_num h XI6.out) ho)) ?_
      try simp only [Act.put, List.setIfInBounds_toArray, List.set_cons_zero, List.set_cons_succ]
      refine held_call 10 43 53 #[.agg #[.int .i64 n2, .int .i64 x2]] (by kernel_rfl) (by kernel_rfl) (by kernel_rfl) (fun _ => by kernel_rfl) ((R1.out _ d0).mono ?_)
      rintro _ v1 ⟨rfl, b1⟩
      have d1 := nx d0 b1
      clear b1
      refine ⟨_, rfl, d1, ?_⟩
      try simp only [Act.put, List.setIfInBounds_toArray, List.set_cons_zero, List.set_cons_succ]
      refine held_call 12 45 57 #[.agg #[.int .i64 n2, .int .i64 x2]] (by kernel_rfl) (by kernel_rfl) (by kernel_rfl) (fun _ => by kernel_rfl) ((R2.out _ d1).mono ?_)
      rintro _ v2 ⟨rfl, b2⟩
      have d2 := nx d1 b2
      clear b2
      refine ⟨_, rfl, d2, ?_⟩
      try simp only [Act.put, List.setIfInBounds_toArray, List.set_cons_zero, List.set_cons_succ]
      refine held_do 13 46 (.bool false) (by kernel_rfl) (by kernel_rfl) (by kernel_rfl) (fun _ _ _ h => h) (by kernel_rfl) (by kernel_rfl) d2 (by intro ww hSw; clear hSw; go_simp) ?_
      try simp only [Act.put, List.setIfInBounds_toArray, List.set_cons_zero, List.set_cons_succ]
      refine held_do 14 47 (.bool false) (by kernel_rfl) (by kernel_rfl) (by kernel_rfl) (fun _ _ _ h => h) (by kernel_rfl) (by kernel_rfl) d2 (fun ww _ => by kernel_rfl) ?_
      try simp only [Act.put, List.setIfInBounds_toArray, List.set_cons_zero, List.set_cons_succ]
      refine held_do 15 48 (.bool false) (by kernel_rfl) (by kernel_rfl) (by kernel_rfl) (fun _ _ _ h => h) (by kernel_rfl) (by kernel_rfl) d2 (fun ww _ => by kernel_rfl) ?_
      try simp only [Act.put, List.setIfInBounds_toArray, List.set_cons_zero, List.set_cons_succ]
      refine held_do 16 49 (.bool true) (by kernel_rfl) (by kernel_rfl) (by kernel_rfl) (fun _ _ _ h => h) (by kernel_rfl) (by kernel_rfl) d2 (fun ww _ => by kernel_rfl) ?_
      try simp only [Act.put, List.setIfInBounds_toArray, List.set_cons_zero, List.set_cons_succ]
      refine held_do 17 50 (.bool false) (by kernel_rfl) (by kernel_rfl) (by kernel_rfl) (fun _ _ _ h => h) (by kernel_rfl) (by kernel_rfl) d2 (fun ww _ => by kernel_rfl) ?_
      try simp only [Act.put, List.setIfInBounds_toArray, List.set_cons_zero, List.set_cons_succ]
      refine held_do 18 51 (.bool false) (by kernel_rfl) (by kernel_rfl) (by kernel_rfl) (fun _ _ _ h => h) (by kernel_rfl) (by kernel_rfl) d2 (fun ww _ => by kernel_rfl) ?_
      try simp only [Act.put, List.setIfInBounds_toArray, List.set_cons_zero, List.set_cons_succ]
      refine held_skip 19 52 (by kernel_rfl) (by kernel_rfl) (by kernel_rfl) (fun _ _ _ h => h) (by kernel_rfl) (by kernel_rfl) d2 ?_
      try simp only [Act.put, List.setIfInBounds_toArray, List.set_cons_zero, List.set_cons_succ]
      refine held_skip 20 53 (by kernel_rfl) (by kernel_rfl) (by kernel_rfl) (fun _ _ _ h => h) (by kernel_rfl) (by kernel_rfl) d2 ?_
      try simp only [Act.put, List.setIfInBounds_toArray, List.set_cons_zero, List.set_cons_succ]
      refine held_skip 21 54 (by kernel_rfl) (by kernel_rfl) (by kernel_rfl) (fun _ _ _ h => h) (by kernel_rfl) (by kernel_rfl) d2 ?_
      try simp only [Act.put, List.setIfInBounds_toArray, List.set_cons_zero, List.set_cons_succ]
      refine held_do 22 55 (.bool false) (by kernel_rfl) (by kernel_rfl) (by kernel_rfl) (fun _ _ _ h => h) (by kernel_rfl) (by kernel_rfl) d2 (fun ww _ => by kernel_rfl) ?_
      try simp only [Act.put, List.setIfInBounds_toArray, List.set_cons_zero, List.set_cons_succ]
      refine held_do 23 56 (.bool false) (by kernel_rfl) (by kernel_rfl) (by kernel_rfl) (fun _ _ _ h => h) (by kernel_rfl) (by kernel_rfl) d2 (fun ww _ => by kernel_rfl) ?_
      try simp only [Act.put, List.setIfInBounds_toArray, List.set_cons_zero, List.set_cons_succ]
      refine wpAnyH_done (by kernel_rfl) ?_ _
      obtain ⟨w7, hw7⟩ : ∃ wx, wx = v2 := ⟨_, rfl⟩
      have XD7 : Hid (w7.heap[w1.heap.size]? = some (.cells #[.int .i64 n, .int .i64 x] 42 (0, 0))) := Lib.hid (by rw [hw7]; exact box_below XD6.out d2)
      have XF7 : Hid (w7.heap[w2.heap.size]? = some (.cells #[.int .i64 M, .int .i64 E] 56 (0, 0))) := Lib.hid (by rw [hw7]; exact box_below XF6.out d2)
      have XG7 : Hid (w7.heap[w3.heap.size]? = some (.cells #[.int .i64 M, .int .i64 E] 56 (0, 0))) := Lib.hid (by rw [hw7]; exact box_below XG6.out d2)
      have XI7 : Hid (w7.heap[w4.heap.size]? = some (.cells #[.int .i64 n2, .int .i64 x2] 42 (0, 0))) := Lib.hid (by rw [hw7]; exact box_below XI6.out d2)
      have XH7 : Hid (w7.heap[w5.heap.size]? = some (.cells #[.int .i64 M2, .int .i64 E2] 56 (0, 0))) := Lib.hid (by rw [hw7]; exact box_below XH6.out d2)
      have T7 := Lib.hid (show Below w.heap.size w w7 by rw [hw7]; exact nx T6.out d2)
      rw [← hw7]
      clear d2 d1 d0 hw7
      clear R1 R2 P1
      have hfo := fun ww => fltOk_impl M E ww
      rw [hok] at hfo
      have HFO := Lib.hid hfo; clear hfo
      have Dl := box_lt XD7.out
      obtain ⟨D0, D1, Df0, Df1⟩ := box_two XD7.out
      have Fl := box_lt XF7.out
      obtain ⟨F0, F1, Ff0, Ff1⟩ := box_two XF7.out
      go_wp2_with fail
      refine (HFO.out _).mono ?_
      rintro _ w8 ⟨rfl, b'⟩
      have XD8 : Hid (w8.heap[w1.heap.size]? = some (.cells #[.int .i64 n, .int .i64 x] 42 (0, 0))) := Lib.hid (box_below XD7.out b')
      have XF8 : Hid (w8.heap[w2.heap.size]? = some (.cells #[.int .i64 M, .int .i64 E] 56 (0, 0))) := Lib.hid (box_below XF7.out b')
      have XG8 : Hid (w8.heap[w3.heap.size]? = some (.cells #[.int .i64 M, .int .i64 E] 56 (0, 0))) := Lib.hid (box_below XG7.out b')
      have XI8 : Hid (w8.heap[w4.heap.size]? = some (.cells #[.int .i64 n2, .int .i64 x2] 42 (0, 0))) := Lib.hid (box_below XI7.out b')
      have XH8 : Hid (w8.heap[w5.heap.size]? = some (.cells #[.int .i64 M2, .int .i64 E2] 56 (0, 0))) := Lib.hid (box_below XH7.out b')
      have T8 := Lib.hid (nx T7.out b'); clear b'
      clear Dl D0 D1 Df0 Df1 Fl F0 F1 Ff0 Ff1
      have Dl := box_lt XD8.out
      obtain ⟨D0, D1, Df0, Df1⟩ := box_two XD8.out
      have Fl := box_lt XF8.out
      obtain ⟨F0, F1, Ff0, Ff1⟩ := box_two XF8.out
      have hp1 : decide (0 < n) = true → decide (M < 0) = false := fun h => decide_eq_false (by have := hsg.1 (of_decide_eq_true h); omega)
      have hp2 : decide (n < 0) = true → decide (0 < M) = false := fun h => decide_eq_false (by have := hsg.2 (of_decide_eq_true h); omega)
      clear hsg
      cases hd1 : decide (0 < n)
      all_goals
        cases hd2 : decide (n < 0)
        all_goals
          (try have hm1 := hp1 hd1); (try have hm2 := hp2 hd2); clear hp1 hp2
          cases Q2 with
          | false =>
            go_wp2_with fail
            go_ret
            exact ⟨rfl, T8.out⟩
          | true =>
            clear Dl D0 D1 Df0 Df1 Fl F0 F1 Ff0 Ff1
            have Dl := box_lt XD8.out
            obtain ⟨D0, D1, Df0, Df1⟩ := box_two XD8.out
            have Fl := box_lt XF8.out
            obtain ⟨F0, F1, Ff0, Ff1⟩ := box_two XF8.out
            have Il := box_lt XI8.out
            obtain ⟨I0, I1, If0, If1⟩ := box_two XI8.out
            have hls := fun ww (hL : LaidP ww) => lessDec_impl n x n2 x2 ww hL NW.out.1 NW.out.2 (by have := NW2.out; omega) (by have := NW2.out; omega)
            have hnl := near_less (n := n) (x := x) (m := n2) (y := x2) HQ.out HQ2.out
            obtain ⟨L, hLL⟩ : ∃ q, lessDecB n x n2 x2 = q := ⟨_, rfl⟩
            rw [hLL] at hls hnl
            clear hLL
            have HLS := Lib.hid hls; have HNL := Lib.hid hnl; clear hls hnl
            go_wp2_with fail
            refine (HLS.out _ (LA.out.kept T8.out)).mono ?_
            rintro _ w9 ⟨rfl, b'⟩
            have XD9 : Hid (w9.heap[w1.heap.size]? = some (.cells #[.int .i64 n, .int .i64 x] 42 (0, 0))) := Lib.hid (box_below XD8.out b')
            have XF9 : Hid (w9.heap[w2.heap.size]? = some (.cells #[.int .i64 M, .int .i64 E] 56 (0, 0))) := Lib.hid (box_below XF8.out b')
            have XG9 : Hid (w9.heap[w3.heap.size]? = some (.cells #[.int .i64 M, .int .i64 E] 56 (0, 0))) := Lib.hid (box_below XG8.out b')
            have XI9 : Hid (w9.heap[w4.heap.size]? = some (.cells #[.int .i64 n2, .int .i64 x2] 42 (0, 0))) := Lib.hid (box_below XI8.out b')
            have XH9 : Hid (w9.heap[w5.heap.size]? = some (.cells #[.int .i64 M2, .int .i64 E2] 56 (0, 0))) := Lib.hid (box_below XH8.out b')
            have T9 := Lib.hid (nx T8.out b'); clear b'
            clear hd1 hd2; (try clear hm1); (try clear hm2)
            clear Dl D0 D1 Df0 Df1 Fl F0 F1 Ff0 Ff1 Il I0 I1 If0 If1
            go_wp2_with fail
            have P1 := Lib.hid (fun ww (hb : Below w9.heap.size w9 ww) => LA.out.kept (nx T9.out hb))
            have hfl := fun ww (hL : LaidP ww) => lessFlt_impl M2 E2 M E ww hL
            have hfd := fun ww (hL : LaidP ww) => fltDec_impl M E ww hL
            have hxi := fun ww (hL : LaidP ww) => exact_impl n x ww hL NW.out.1 NW.out.2
            rw [HXB.out] at hxi
            obtain ⟨⟨A, B⟩, hQd⟩ : ∃ z : Int × Int, fltDecF M E = z := ⟨_, rfl⟩
            rw [hQd] at hfd hxi
            clear hQd
            dsimp only at hfd
            rw [Bool.true_and] at hxi
            have HFD := Lib.hid hfd; clear hfd
            have Q4 := Lib.hid (fun ww (hb : Below w9.heap.size w9 ww) => HFD.out ww (P1.out ww hb))
            have HFL := Lib.hid hfl; have HXI := Lib.hid hxi; clear hfl hxi
            cases L with
            | true =>
              have hf1 := HFL.out
              rw [HNL.out rfl] at hf1
              have HF1 := Lib.hid hf1; clear hf1
              have Q2 := Lib.hid (fun ww (hb : Below w9.heap.size w9 ww) => HF1.out ww (P1.out ww hb))
              by_cases e1 : A = n
              · subst e1
                by_cases e2 : B = x
                · subst e2
                  have hx1 := HXI.out
                  rw [decide_eq_true rfl] at hx1
                  have HX1 := Lib.hid hx1; clear hx1
                  have Q3 := Lib.hid (fun ww (hb : Below w9.heap.size w9 ww) => HX1.out ww (P1.out ww hb))
                  have d0 : Below w9.heap.size w9 w9.drew := (Below.refl _ _).drew
                  refine wp_region_held_drew (S := fun ww => Below w9.heap.size w9 ww) (by kernel_rfl) d0 (fun _ => ?_)
                  refine held_do 0 92 (.bool true) (by kernel_rfl) (by kernel_rfl) (by kernel_rfl) (fun _ _ _ h => h) (by kernel_rfl) (by kernel_rfl) d0 (fun ww _ => by kernel_rfl) ?_
                  try simp only [Act.put, List.setIfInBounds_toArray, List.set_cons_zero, List.set_cons_succ]
                  refine held_do 1 93 (.bool false) (by kernel_rfl) (by kernel_rfl) (by kernel_rfl) (fun _ _ _ h => h) (by kernel_rfl) (by kernel_rfl) d0 (fun ww _ => by kernel_rfl) ?_
                  try simp only [Act.put, List.setIfInBounds_toArray, List.set_cons_zero, List.set_cons_succ]
                  refine held_do 2 94 (.bool false) (by kernel_rfl) (by kernel_rfl) (by kernel_rfl) (fun _ _ _ h => h) (by kernel_rfl) (by kernel_rfl) d0 (fun ww _ => by kernel_rfl) ?_
                  try simp only [Act.put, List.setIfInBounds_toArray, List.set_cons_zero, List.set_cons_succ]
                  refine held_do 3 95 (.agg #[.int .i64 M2, .int .i64 E2]) (by kernel_rfl) (by kernel_rfl) (by kernel_rfl) (fun _ _ _ h => h) (by kernel_rfl) (by kernel_rfl) d0 (fun ww h => run_of (op := .load 56 (.tmp 9)) (by kernel_rfl) (fun o ho => load_flt rfl (two_num h XH9.out) ho)) ?_
                  try simp only [Act.put, List.setIfInBounds_toArray, List.set_cons_zero, List.set_cons_succ]
                  refine held_do 4 96 (.agg #[.int .i64 M, .int .i64 E]) (by kernel_rfl) (by kernel_rfl) (by kernel_rfl) (fun _ _ _ h => h) (by kernel_rfl) (by kernel_rfl) d0 (fun ww h => run_of (op := .load 56 (.tmp 4)) (by kernel_rfl) (fun o ho => load_flt rfl (two_num h XF9.out) ho)) ?_
                  try simp only [Act.put, List.setIfInBounds_toArray, List.set_cons_zero, List.set_cons_succ]
                  refine held_call 5 97 46 #[.agg #[.int .i64 M2, .int .i64 E2], .agg #[.int .i64 M, .int .i64 E]] (by kernel_rfl) (by kernel_rfl) (by kernel_rfl) (fun _ => by kernel_rfl) ((Q2.out _ d0).mono ?_)
                  rintro _ v1 ⟨rfl, b1⟩
                  have d1 := nx d0 b1
                  clear b1
                  refine ⟨_, rfl, d1, ?_⟩
                  try simp only [Act.put, List.setIfInBounds_toArray, List.set_cons_zero, List.set_cons_succ]
                  refine held_do 6 98 (.bool true) (by kernel_rfl) (by kernel_rfl) (by kernel_rfl) (fun _ _ _ h => h) (by kernel_rfl) (by kernel_rfl) d1 (fun ww _ => by kernel_rfl) ?_
                  try simp only [Act.put, List.setIfInBounds_toArray, List.set_cons_zero, List.set_cons_succ]
                  refine held_do 7 99 (.bool true) (by kernel_rfl) (by kernel_rfl) (by kernel_rfl) (fun _ _ _ h => h) (by kernel_rfl) (by kernel_rfl) d1 (fun ww _ => by kernel_rfl) ?_
                  try simp only [Act.put, List.setIfInBounds_toArray, List.set_cons_zero, List.set_cons_succ]
                  refine held_do 8 100 (.bool true) (by kernel_rfl) (by kernel_rfl) (by kernel_rfl) (fun _ _ _ h => h) (by kernel_rfl) (by kernel_rfl) d1 (fun ww _ => by kernel_rfl) ?_
                  try simp only [Act.put, List.setIfInBounds_toArray, List.set_cons_zero, List.set_cons_succ]
                  refine held_do 9 101 (.agg #[.int .i64 A, .int .i64 B]) (by kernel_rfl) (by kernel_rfl) (by kernel_rfl) (fun _ _ _ h => h) (by kernel_rfl) (by kernel_rfl) d1 (fun ww h => run_of (op := .load 42 (.tmp 3)) (by kernel_rfl) (fun o ho => load_dec rfl (two_num h XD9.out) ho)) ?_
                  try simp only [Act.put, List.setIfInBounds_toArray, List.set_cons_zero, List.set_cons_succ]
                  refine held_do 11 103 (.agg #[.int .i64 M, .int .i64 E]) (by kernel_rfl) (by kernel_rfl) (by kernel_rfl) (fun _ _ _ h => h) (by kernel_rfl) (by kernel_rfl) d1 (fun ww h => run_of (op := .load 56 (.tmp 4)) (by kernel_rfl) (fun o ho => load_flt rfl (two_num h XF9.out) ho)) ?_
                  try simp only [Act.put, List.setIfInBounds_toArray, List.set_cons_zero, List.set_cons_succ]
                  refine held_do 13 105 (.agg #[.int .i64 A, .int .i64 B]) (by kernel_rfl) (by kernel_rfl) (by kernel_rfl) (fun _ _ _ h => h) (by kernel_rfl) (by kernel_rfl) d1 (fun ww h => run_of (op := .load 42 (.tmp 3)) (by kernel_rfl) (fun o ho => load_dec rfl (two_num h XD9.out) ho)) ?_
                  try simp only [Act.put, List.setIfInBounds_toArray, List.set_cons_zero, List.set_cons_succ]
                  refine held_call 10 102 53 #[.agg #[.int .i64 A, .int .i64 B]] (by kernel_rfl) (by kernel_rfl) (by kernel_rfl) (fun _ => by kernel_rfl) ((Q3.out _ d1).mono ?_)
                  rintro _ v2 ⟨rfl, b2⟩
                  have d2 := nx d1 b2
                  clear b2
                  refine ⟨_, rfl, d2, ?_⟩
                  try simp only [Act.put, List.setIfInBounds_toArray, List.set_cons_zero, List.set_cons_succ]
                  refine held_call 12 104 40 #[.agg #[.int .i64 M, .int .i64 E]] (by kernel_rfl) (by kernel_rfl) (by kernel_rfl) (fun _ => by kernel_rfl) ((Q4.out _ d2).mono ?_)
                  rintro _ v3 ⟨rfl, b3⟩
                  have d3 := nx d2 b3
                  clear b3
                  refine ⟨_, rfl, d3, ?_⟩
                  try simp only [Act.put, List.setIfInBounds_toArray, List.set_cons_zero, List.set_cons_succ]
                  refine held_do 14 106 (.bool true) (by kernel_rfl) (by kernel_rfl) (by kernel_rfl) (fun _ _ _ h => h) (by kernel_rfl) (by kernel_rfl) d3 (by intro ww hSw; clear hSw; go_simp) ?_
                  try simp only [Act.put, List.setIfInBounds_toArray, List.set_cons_zero, List.set_cons_succ]
                  refine held_do 15 107 (.bool true) (by kernel_rfl) (by kernel_rfl) (by kernel_rfl) (fun _ _ _ h => h) (by kernel_rfl) (by kernel_rfl) d3 (fun ww _ => by kernel_rfl) ?_
                  try simp only [Act.put, List.setIfInBounds_toArray, List.set_cons_zero, List.set_cons_succ]
                  refine held_do 16 108 (.bool true) (by kernel_rfl) (by kernel_rfl) (by kernel_rfl) (fun _ _ _ h => h) (by kernel_rfl) (by kernel_rfl) d3 (fun ww _ => by kernel_rfl) ?_
                  try simp only [Act.put, List.setIfInBounds_toArray, List.set_cons_zero, List.set_cons_succ]
                  refine held_do 17 2 (.bool true) (by kernel_rfl) (by kernel_rfl) (by kernel_rfl) (fun _ _ _ h => h) (by kernel_rfl) (by kernel_rfl) d3 (fun ww _ => by kernel_rfl) ?_
                  try simp only [Act.put, List.setIfInBounds_toArray, List.set_cons_zero, List.set_cons_succ]
                  refine wpAnyH_done (by kernel_rfl) ?_ _
                  obtain ⟨w10, hw10⟩ : ∃ wx, wx = v3 := ⟨_, rfl⟩
                  have XD10 : Hid (w10.heap[w1.heap.size]? = some (.cells #[.int .i64 A, .int .i64 B] 42 (0, 0))) := Lib.hid (by rw [hw10]; exact box_below XD9.out d3)
                  have XF10 : Hid (w10.heap[w2.heap.size]? = some (.cells #[.int .i64 M, .int .i64 E] 56 (0, 0))) := Lib.hid (by rw [hw10]; exact box_below XF9.out d3)
                  have XG10 : Hid (w10.heap[w3.heap.size]? = some (.cells #[.int .i64 M, .int .i64 E] 56 (0, 0))) := Lib.hid (by rw [hw10]; exact box_below XG9.out d3)
                  have XI10 : Hid (w10.heap[w4.heap.size]? = some (.cells #[.int .i64 n2, .int .i64 x2] 42 (0, 0))) := Lib.hid (by rw [hw10]; exact box_below XI9.out d3)
                  have XH10 : Hid (w10.heap[w5.heap.size]? = some (.cells #[.int .i64 M2, .int .i64 E2] 56 (0, 0))) := Lib.hid (by rw [hw10]; exact box_below XH9.out d3)
                  have T10 := Lib.hid (show Below w.heap.size w w10 by rw [hw10]; exact nx T9.out d3)
                  rw [← hw10]
                  clear d3 d2 d1 d0 hw10
                  go_wp2_with fail
                  go_ret
                  exact ⟨rfl, T10.out⟩
                · have e3 : (B == x) = false := by simpa using e2
                  have hx1 := HXI.out
                  rw [decide_eq_false (fun h => e2 (congrArg Prod.snd h))] at hx1
                  have HX1 := Lib.hid hx1; clear hx1 e2
                  have Q3 := Lib.hid (fun ww (hb : Below w9.heap.size w9 ww) => HX1.out ww (P1.out ww hb))
                  have d0 : Below w9.heap.size w9 w9.drew := (Below.refl _ _).drew
                  refine wp_region_held_drew (S := fun ww => Below w9.heap.size w9 ww) (by kernel_rfl) d0 (fun _ => ?_)
                  refine held_do 0 92 (.bool true) (by kernel_rfl) (by kernel_rfl) (by kernel_rfl) (fun _ _ _ h => h) (by kernel_rfl) (by kernel_rfl) d0 (fun ww _ => by kernel_rfl) ?_
                  try simp only [Act.put, List.setIfInBounds_toArray, List.set_cons_zero, List.set_cons_succ]
                  refine held_do 1 93 (.bool false) (by kernel_rfl) (by kernel_rfl) (by kernel_rfl) (fun _ _ _ h => h) (by kernel_rfl) (by kernel_rfl) d0 (fun ww _ => by kernel_rfl) ?_
                  try simp only [Act.put, List.setIfInBounds_toArray, List.set_cons_zero, List.set_cons_succ]
                  refine held_do 2 94 (.bool false) (by kernel_rfl) (by kernel_rfl) (by kernel_rfl) (fun _ _ _ h => h) (by kernel_rfl) (by kernel_rfl) d0 (fun ww _ => by kernel_rfl) ?_
                  try simp only [Act.put, List.setIfInBounds_toArray, List.set_cons_zero, List.set_cons_succ]
                  refine held_do 3 95 (.agg #[.int .i64 M2, .int .i64 E2]) (by kernel_rfl) (by kernel_rfl) (by kernel_rfl) (fun _ _ _ h => h) (by kernel_rfl) (by kernel_rfl) d0 (fun ww h => run_of (op := .load 56 (.tmp 9)) (by kernel_rfl) (fun o ho => load_flt rfl (two_num h XH9.out) ho)) ?_
                  try simp only [Act.put, List.setIfInBounds_toArray, List.set_cons_zero, List.set_cons_succ]
                  refine held_do 4 96 (.agg #[.int .i64 M, .int .i64 E]) (by kernel_rfl) (by kernel_rfl) (by kernel_rfl) (fun _ _ _ h => h) (by kernel_rfl) (by kernel_rfl) d0 (fun ww h => run_of (op := .load 56 (.tmp 4)) (by kernel_rfl) (fun o ho => load_flt rfl (two_num h XF9.out) ho)) ?_
                  try simp only [Act.put, List.setIfInBounds_toArray, List.set_cons_zero, List.set_cons_succ]
                  refine held_call 5 97 46 #[.agg #[.int .i64 M2, .int .i64 E2], .agg #[.int .i64 M, .int .i64 E]] (by kernel_rfl) (by kernel_rfl) (by kernel_rfl) (fun _ => by kernel_rfl) ((Q2.out _ d0).mono ?_)
                  rintro _ v1 ⟨rfl, b1⟩
                  have d1 := nx d0 b1
                  clear b1
                  refine ⟨_, rfl, d1, ?_⟩
                  try simp only [Act.put, List.setIfInBounds_toArray, List.set_cons_zero, List.set_cons_succ]
                  refine held_do 6 98 (.bool true) (by kernel_rfl) (by kernel_rfl) (by kernel_rfl) (fun _ _ _ h => h) (by kernel_rfl) (by kernel_rfl) d1 (fun ww _ => by kernel_rfl) ?_
                  try simp only [Act.put, List.setIfInBounds_toArray, List.set_cons_zero, List.set_cons_succ]
                  refine held_do 7 99 (.bool true) (by kernel_rfl) (by kernel_rfl) (by kernel_rfl) (fun _ _ _ h => h) (by kernel_rfl) (by kernel_rfl) d1 (fun ww _ => by kernel_rfl) ?_
                  try simp only [Act.put, List.setIfInBounds_toArray, List.set_cons_zero, List.set_cons_succ]
                  refine held_do 8 100 (.bool true) (by kernel_rfl) (by kernel_rfl) (by kernel_rfl) (fun _ _ _ h => h) (by kernel_rfl) (by kernel_rfl) d1 (fun ww _ => by kernel_rfl) ?_
                  try simp only [Act.put, List.setIfInBounds_toArray, List.set_cons_zero, List.set_cons_succ]
                  refine held_do 9 101 (.agg #[.int .i64 A, .int .i64 x]) (by kernel_rfl) (by kernel_rfl) (by kernel_rfl) (fun _ _ _ h => h) (by kernel_rfl) (by kernel_rfl) d1 (fun ww h => run_of (op := .load 42 (.tmp 3)) (by kernel_rfl) (fun o ho => load_dec rfl (two_num h XD9.out) ho)) ?_
                  try simp only [Act.put, List.setIfInBounds_toArray, List.set_cons_zero, List.set_cons_succ]
                  refine held_do 11 103 (.agg #[.int .i64 M, .int .i64 E]) (by kernel_rfl) (by kernel_rfl) (by kernel_rfl) (fun _ _ _ h => h) (by kernel_rfl) (by kernel_rfl) d1 (fun ww h => run_of (op := .load 56 (.tmp 4)) (by kernel_rfl) (fun o ho => load_flt rfl (two_num h XF9.out) ho)) ?_
                  try simp only [Act.put, List.setIfInBounds_toArray, List.set_cons_zero, List.set_cons_succ]
                  refine held_do 13 105 (.agg #[.int .i64 A, .int .i64 x]) (by kernel_rfl) (by kernel_rfl) (by kernel_rfl) (fun _ _ _ h => h) (by kernel_rfl) (by kernel_rfl) d1 (fun ww h => run_of (op := .load 42 (.tmp 3)) (by kernel_rfl) (fun o ho => load_dec rfl (two_num h XD9.out) ho)) ?_
                  try simp only [Act.put, List.setIfInBounds_toArray, List.set_cons_zero, List.set_cons_succ]
                  refine held_call 10 102 53 #[.agg #[.int .i64 A, .int .i64 x]] (by kernel_rfl) (by kernel_rfl) (by kernel_rfl) (fun _ => by kernel_rfl) ((Q3.out _ d1).mono ?_)
                  rintro _ v2 ⟨rfl, b2⟩
                  have d2 := nx d1 b2
                  clear b2
                  refine ⟨_, rfl, d2, ?_⟩
                  try simp only [Act.put, List.setIfInBounds_toArray, List.set_cons_zero, List.set_cons_succ]
                  refine held_call 12 104 40 #[.agg #[.int .i64 M, .int .i64 E]] (by kernel_rfl) (by kernel_rfl) (by kernel_rfl) (fun _ => by kernel_rfl) ((Q4.out _ d2).mono ?_)
                  rintro _ v3 ⟨rfl, b3⟩
                  have d3 := nx d2 b3
                  clear b3
                  refine ⟨_, rfl, d3, ?_⟩
                  try simp only [Act.put, List.setIfInBounds_toArray, List.set_cons_zero, List.set_cons_succ]
                  refine held_do 14 106 (.bool false) (by kernel_rfl) (by kernel_rfl) (by kernel_rfl) (fun _ _ _ h => h) (by kernel_rfl) (by kernel_rfl) d3 (by intro ww hSw; clear hSw; go_simp) ?_
                  try simp only [Act.put, List.setIfInBounds_toArray, List.set_cons_zero, List.set_cons_succ]
                  refine held_do 15 107 (.bool true) (by kernel_rfl) (by kernel_rfl) (by kernel_rfl) (fun _ _ _ h => h) (by kernel_rfl) (by kernel_rfl) d3 (fun ww _ => by kernel_rfl) ?_
                  try simp only [Act.put, List.setIfInBounds_toArray, List.set_cons_zero, List.set_cons_succ]
                  refine held_do 16 108 (.bool true) (by kernel_rfl) (by kernel_rfl) (by kernel_rfl) (fun _ _ _ h => h) (by kernel_rfl) (by kernel_rfl) d3 (fun ww _ => by kernel_rfl) ?_
                  try simp only [Act.put, List.setIfInBounds_toArray, List.set_cons_zero, List.set_cons_succ]
                  refine held_do 17 2 (.bool true) (by kernel_rfl) (by kernel_rfl) (by kernel_rfl) (fun _ _ _ h => h) (by kernel_rfl) (by kernel_rfl) d3 (fun ww _ => by kernel_rfl) ?_
                  try simp only [Act.put, List.setIfInBounds_toArray, List.set_cons_zero, List.set_cons_succ]
                  refine wpAnyH_done (by kernel_rfl) ?_ _
                  obtain ⟨w10, hw10⟩ : ∃ wx, wx = v3 := ⟨_, rfl⟩
                  have XD10 : Hid (w10.heap[w1.heap.size]? = some (.cells #[.int .i64 A, .int .i64 x] 42 (0, 0))) := Lib.hid (by rw [hw10]; exact box_below XD9.out d3)
                  have XF10 : Hid (w10.heap[w2.heap.size]? = some (.cells #[.int .i64 M, .int .i64 E] 56 (0, 0))) := Lib.hid (by rw [hw10]; exact box_below XF9.out d3)
                  have XG10 : Hid (w10.heap[w3.heap.size]? = some (.cells #[.int .i64 M, .int .i64 E] 56 (0, 0))) := Lib.hid (by rw [hw10]; exact box_below XG9.out d3)
                  have XI10 : Hid (w10.heap[w4.heap.size]? = some (.cells #[.int .i64 n2, .int .i64 x2] 42 (0, 0))) := Lib.hid (by rw [hw10]; exact box_below XI9.out d3)
                  have XH10 : Hid (w10.heap[w5.heap.size]? = some (.cells #[.int .i64 M2, .int .i64 E2] 56 (0, 0))) := Lib.hid (by rw [hw10]; exact box_below XH9.out d3)
                  have T10 := Lib.hid (show Below w.heap.size w w10 by rw [hw10]; exact nx T9.out d3)
                  rw [← hw10]
                  clear d3 d2 d1 d0 hw10
                  go_wp2_with fail
                  go_ret
                  exact ⟨rfl, T10.out⟩
              · have e3 : (A == n) = false := by simpa using e1
                have hx1 := HXI.out
                rw [decide_eq_false (fun h => e1 (congrArg Prod.fst h))] at hx1
                have HX1 := Lib.hid hx1; clear hx1 e1
                have Q3 := Lib.hid (fun ww (hb : Below w9.heap.size w9 ww) => HX1.out ww (P1.out ww hb))
                have d0 : Below w9.heap.size w9 w9.drew := (Below.refl _ _).drew
                refine wp_region_held_drew (S := fun ww => Below w9.heap.size w9 ww) (by kernel_rfl) d0 (fun _ => ?_)
                refine held_do 0 92 (.bool true) (by kernel_rfl) (by kernel_rfl) (by kernel_rfl) (fun _ _ _ h => h) (by kernel_rfl) (by kernel_rfl) d0 (fun ww _ => by kernel_rfl) ?_
                try simp only [Act.put, List.setIfInBounds_toArray, List.set_cons_zero, List.set_cons_succ]
                refine held_do 1 93 (.bool false) (by kernel_rfl) (by kernel_rfl) (by kernel_rfl) (fun _ _ _ h => h) (by kernel_rfl) (by kernel_rfl) d0 (fun ww _ => by kernel_rfl) ?_
                try simp only [Act.put, List.setIfInBounds_toArray, List.set_cons_zero, List.set_cons_succ]
                refine held_do 2 94 (.bool false) (by kernel_rfl) (by kernel_rfl) (by kernel_rfl) (fun _ _ _ h => h) (by kernel_rfl) (by kernel_rfl) d0 (fun ww _ => by kernel_rfl) ?_
                try simp only [Act.put, List.setIfInBounds_toArray, List.set_cons_zero, List.set_cons_succ]
                refine held_do 3 95 (.agg #[.int .i64 M2, .int .i64 E2]) (by kernel_rfl) (by kernel_rfl) (by kernel_rfl) (fun _ _ _ h => h) (by kernel_rfl) (by kernel_rfl) d0 (fun ww h => run_of (op := .load 56 (.tmp 9)) (by kernel_rfl) (fun o ho => load_flt rfl (two_num h XH9.out) ho)) ?_
                try simp only [Act.put, List.setIfInBounds_toArray, List.set_cons_zero, List.set_cons_succ]
                refine held_do 4 96 (.agg #[.int .i64 M, .int .i64 E]) (by kernel_rfl) (by kernel_rfl) (by kernel_rfl) (fun _ _ _ h => h) (by kernel_rfl) (by kernel_rfl) d0 (fun ww h => run_of (op := .load 56 (.tmp 4)) (by kernel_rfl) (fun o ho => load_flt rfl (two_num h XF9.out) ho)) ?_
                try simp only [Act.put, List.setIfInBounds_toArray, List.set_cons_zero, List.set_cons_succ]
                refine held_call 5 97 46 #[.agg #[.int .i64 M2, .int .i64 E2], .agg #[.int .i64 M, .int .i64 E]] (by kernel_rfl) (by kernel_rfl) (by kernel_rfl) (fun _ => by kernel_rfl) ((Q2.out _ d0).mono ?_)
                rintro _ v1 ⟨rfl, b1⟩
                have d1 := nx d0 b1
                clear b1
                refine ⟨_, rfl, d1, ?_⟩
                try simp only [Act.put, List.setIfInBounds_toArray, List.set_cons_zero, List.set_cons_succ]
                refine held_do 6 98 (.bool true) (by kernel_rfl) (by kernel_rfl) (by kernel_rfl) (fun _ _ _ h => h) (by kernel_rfl) (by kernel_rfl) d1 (fun ww _ => by kernel_rfl) ?_
                try simp only [Act.put, List.setIfInBounds_toArray, List.set_cons_zero, List.set_cons_succ]
                refine held_do 7 99 (.bool true) (by kernel_rfl) (by kernel_rfl) (by kernel_rfl) (fun _ _ _ h => h) (by kernel_rfl) (by kernel_rfl) d1 (fun ww _ => by kernel_rfl) ?_
                try simp only [Act.put, List.setIfInBounds_toArray, List.set_cons_zero, List.set_cons_succ]
                refine held_do 8 100 (.bool true) (by kernel_rfl) (by kernel_rfl) (by kernel_rfl) (fun _ _ _ h => h) (by kernel_rfl) (by kernel_rfl) d1 (fun ww _ => by kernel_rfl) ?_
                try simp only [Act.put, List.setIfInBounds_toArray, List.set_cons_zero, List.set_cons_succ]
                refine held_do 9 101 (.agg #[.int .i64 n, .int .i64 x]) (by kernel_rfl) (by kernel_rfl) (by kernel_rfl) (fun _ _ _ h => h) (by kernel_rfl) (by kernel_rfl) d1 (fun ww h => run_of (op := .load 42 (.tmp 3)) (by kernel_rfl) (fun o ho => load_dec rfl (two_num h XD9.out) ho)) ?_
                try simp only [Act.put, List.setIfInBounds_toArray, List.set_cons_zero, List.set_cons_succ]
                refine held_do 11 103 (.agg #[.int .i64 M, .int .i64 E]) (by kernel_rfl) (by kernel_rfl) (by kernel_rfl) (fun _ _ _ h => h) (by kernel_rfl) (by kernel_rfl) d1 (fun ww h => run_of (op := .load 56 (.tmp 4)) (by kernel_rfl) (fun o ho => load_flt rfl (two_num h XF9.out) ho)) ?_
                try simp only [Act.put, List.setIfInBounds_toArray, List.set_cons_zero, List.set_cons_succ]
                refine held_do 13 105 (.agg #[.int .i64 n, .int .i64 x]) (by kernel_rfl) (by kernel_rfl) (by kernel_rfl) (fun _ _ _ h => h) (by kernel_rfl) (by kernel_rfl) d1 (fun ww h => run_of (op := .load 42 (.tmp 3)) (by kernel_rfl) (fun o ho => load_dec rfl (two_num h XD9.out) ho)) ?_
                try simp only [Act.put, List.setIfInBounds_toArray, List.set_cons_zero, List.set_cons_succ]
                refine held_call 10 102 53 #[.agg #[.int .i64 n, .int .i64 x]] (by kernel_rfl) (by kernel_rfl) (by kernel_rfl) (fun _ => by kernel_rfl) ((Q3.out _ d1).mono ?_)
                rintro _ v2 ⟨rfl, b2⟩
                have d2 := nx d1 b2
                clear b2
                refine ⟨_, rfl, d2, ?_⟩
                try simp only [Act.put, List.setIfInBounds_toArray, List.set_cons_zero, List.set_cons_succ]
                refine held_call 12 104 40 #[.agg #[.int .i64 M, .int .i64 E]] (by kernel_rfl) (by kernel_rfl) (by kernel_rfl) (fun _ => by kernel_rfl) ((Q4.out _ d2).mono ?_)
                rintro _ v3 ⟨rfl, b3⟩
                have d3 := nx d2 b3
                clear b3
                refine ⟨_, rfl, d3, ?_⟩
                try simp only [Act.put, List.setIfInBounds_toArray, List.set_cons_zero, List.set_cons_succ]
                refine held_do 14 106 (.bool false) (by kernel_rfl) (by kernel_rfl) (by kernel_rfl) (fun _ _ _ h => h) (by kernel_rfl) (by kernel_rfl) d3 (by intro ww hSw; clear hSw; go_simp) ?_
                try simp only [Act.put, List.setIfInBounds_toArray, List.set_cons_zero, List.set_cons_succ]
                refine held_do 15 107 (.bool true) (by kernel_rfl) (by kernel_rfl) (by kernel_rfl) (fun _ _ _ h => h) (by kernel_rfl) (by kernel_rfl) d3 (fun ww _ => by kernel_rfl) ?_
                try simp only [Act.put, List.setIfInBounds_toArray, List.set_cons_zero, List.set_cons_succ]
                refine held_do 16 108 (.bool true) (by kernel_rfl) (by kernel_rfl) (by kernel_rfl) (fun _ _ _ h => h) (by kernel_rfl) (by kernel_rfl) d3 (fun ww _ => by kernel_rfl) ?_
                try simp only [Act.put, List.setIfInBounds_toArray, List.set_cons_zero, List.set_cons_succ]
                refine held_do 17 2 (.bool true) (by kernel_rfl) (by kernel_rfl) (by kernel_rfl) (fun _ _ _ h => h) (by kernel_rfl) (by kernel_rfl) d3 (fun ww _ => by kernel_rfl) ?_
                try simp only [Act.put, List.setIfInBounds_toArray, List.set_cons_zero, List.set_cons_succ]
                refine wpAnyH_done (by kernel_rfl) ?_ _
                obtain ⟨w10, hw10⟩ : ∃ wx, wx = v3 := ⟨_, rfl⟩
                have XD10 : Hid (w10.heap[w1.heap.size]? = some (.cells #[.int .i64 n, .int .i64 x] 42 (0, 0))) := Lib.hid (by rw [hw10]; exact box_below XD9.out d3)
                have XF10 : Hid (w10.heap[w2.heap.size]? = some (.cells #[.int .i64 M, .int .i64 E] 56 (0, 0))) := Lib.hid (by rw [hw10]; exact box_below XF9.out d3)
                have XG10 : Hid (w10.heap[w3.heap.size]? = some (.cells #[.int .i64 M, .int .i64 E] 56 (0, 0))) := Lib.hid (by rw [hw10]; exact box_below XG9.out d3)
                have XI10 : Hid (w10.heap[w4.heap.size]? = some (.cells #[.int .i64 n2, .int .i64 x2] 42 (0, 0))) := Lib.hid (by rw [hw10]; exact box_below XI9.out d3)
                have XH10 : Hid (w10.heap[w5.heap.size]? = some (.cells #[.int .i64 M2, .int .i64 E2] 56 (0, 0))) := Lib.hid (by rw [hw10]; exact box_below XH9.out d3)
                have T10 := Lib.hid (show Below w.heap.size w w10 by rw [hw10]; exact nx T9.out d3)
                rw [← hw10]
                clear d3 d2 d1 d0 hw10
                go_wp2_with fail
                go_ret
                exact ⟨rfl, T10.out⟩
            | false =>
              by_cases e1 : A = n
              · subst e1
                by_cases e2 : B = x
                · subst e2
                  have hx1 := HXI.out
                  rw [decide_eq_true rfl] at hx1
                  have HX1 := Lib.hid hx1; clear hx1
                  have Q3 := Lib.hid (fun ww (hb : Below w9.heap.size w9 ww) => HX1.out ww (P1.out ww hb))
                  have d0 : Below w9.heap.size w9 w9.drew := (Below.refl _ _).drew
                  refine wp_region_held_drew (S := fun ww => Below w9.heap.size w9 ww) (by kernel_rfl) d0 (fun _ => ?_)
                  refine held_do 0 92 (.bool false) (by kernel_rfl) (by kernel_rfl) (by kernel_rfl) (fun _ _ _ h => h) (by kernel_rfl) (by kernel_rfl) d0 (fun ww _ => by kernel_rfl) ?_
                  try simp only [Act.put, List.setIfInBounds_toArray, List.set_cons_zero, List.set_cons_succ]
                  refine held_do 1 93 (.bool true) (by kernel_rfl) (by kernel_rfl) (by kernel_rfl) (fun _ _ _ h => h) (by kernel_rfl) (by kernel_rfl) d0 (fun ww _ => by kernel_rfl) ?_
                  try simp only [Act.put, List.setIfInBounds_toArray, List.set_cons_zero, List.set_cons_succ]
                  refine held_do 2 94 (.bool true) (by kernel_rfl) (by kernel_rfl) (by kernel_rfl) (fun _ _ _ h => h) (by kernel_rfl) (by kernel_rfl) d0 (fun ww _ => by kernel_rfl) ?_
                  try simp only [Act.put, List.setIfInBounds_toArray, List.set_cons_zero, List.set_cons_succ]
                  refine held_skip 3 95 (by kernel_rfl) (by kernel_rfl) (by kernel_rfl) (fun _ _ _ h => h) (by kernel_rfl) (by kernel_rfl) d0 ?_
                  try simp only [Act.put, List.setIfInBounds_toArray, List.set_cons_zero, List.set_cons_succ]
                  refine held_skip 4 96 (by kernel_rfl) (by kernel_rfl) (by kernel_rfl) (fun _ _ _ h => h) (by kernel_rfl) (by kernel_rfl) d0 ?_
                  try simp only [Act.put, List.setIfInBounds_toArray, List.set_cons_zero, List.set_cons_succ]
                  refine held_skip 5 97 (by kernel_rfl) (by kernel_rfl) (by kernel_rfl) (fun _ _ _ h => h) (by kernel_rfl) (by kernel_rfl) d0 ?_
                  try simp only [Act.put, List.setIfInBounds_toArray, List.set_cons_zero, List.set_cons_succ]
                  refine held_skip 6 98 (by kernel_rfl) (by kernel_rfl) (by kernel_rfl) (fun _ _ _ h => h) (by kernel_rfl) (by kernel_rfl) d0 ?_
                  try simp only [Act.put, List.setIfInBounds_toArray, List.set_cons_zero, List.set_cons_succ]
                  refine held_do 7 99 (.bool true) (by kernel_rfl) (by kernel_rfl) (by kernel_rfl) (fun _ _ _ h => h) (by kernel_rfl) (by kernel_rfl) d0 (fun ww _ => by kernel_rfl) ?_
                  try simp only [Act.put, List.setIfInBounds_toArray, List.set_cons_zero, List.set_cons_succ]
                  refine held_do 8 100 (.bool true) (by kernel_rfl) (by kernel_rfl) (by kernel_rfl) (fun _ _ _ h => h) (by kernel_rfl) (by kernel_rfl) d0 (fun ww _ => by kernel_rfl) ?_
                  try simp only [Act.put, List.setIfInBounds_toArray, List.set_cons_zero, List.set_cons_succ]
                  refine held_do 9 101 (.agg #[.int .i64 A, .int .i64 B]) (by kernel_rfl) (by kernel_rfl) (by kernel_rfl) (fun _ _ _ h => h) (by kernel_rfl) (by kernel_rfl) d0 (fun ww h => run_of (op := .load 42 (.tmp 3)) (by kernel_rfl) (fun o ho => load_dec rfl (two_num h XD9.out) ho)) ?_
                  try simp only [Act.put, List.setIfInBounds_toArray, List.set_cons_zero, List.set_cons_succ]
                  refine held_do 11 103 (.agg #[.int .i64 M, .int .i64 E]) (by kernel_rfl) (by kernel_rfl) (by kernel_rfl) (fun _ _ _ h => h) (by kernel_rfl) (by kernel_rfl) d0 (fun ww h => run_of (op := .load 56 (.tmp 4)) (by kernel_rfl) (fun o ho => load_flt rfl (two_num h XF9.out) ho)) ?_
                  try simp only [Act.put, List.setIfInBounds_toArray, List.set_cons_zero, List.set_cons_succ]
                  refine held_do 13 105 (.agg #[.int .i64 A, .int .i64 B]) (by kernel_rfl) (by kernel_rfl) (by kernel_rfl) (fun _ _ _ h => h) (by kernel_rfl) (by kernel_rfl) d0 (fun ww h => run_of (op := .load 42 (.tmp 3)) (by kernel_rfl) (fun o ho => load_dec rfl (two_num h XD9.out) ho)) ?_
                  try simp only [Act.put, List.setIfInBounds_toArray, List.set_cons_zero, List.set_cons_succ]
                  refine held_call 10 102 53 #[.agg #[.int .i64 A, .int .i64 B]] (by kernel_rfl) (by kernel_rfl) (by kernel_rfl) (fun _ => by kernel_rfl) ((Q3.out _ d0).mono ?_)
                  rintro _ v1 ⟨rfl, b1⟩
                  have d1 := nx d0 b1
                  clear b1
                  refine ⟨_, rfl, d1, ?_⟩
                  try simp only [Act.put, List.setIfInBounds_toArray, List.set_cons_zero, List.set_cons_succ]
                  refine held_call 12 104 40 #[.agg #[.int .i64 M, .int .i64 E]] (by kernel_rfl) (by kernel_rfl) (by kernel_rfl) (fun _ => by kernel_rfl) ((Q4.out _ d1).mono ?_)
                  rintro _ v2 ⟨rfl, b2⟩
                  have d2 := nx d1 b2
                  clear b2
                  refine ⟨_, rfl, d2, ?_⟩
                  try simp only [Act.put, List.setIfInBounds_toArray, List.set_cons_zero, List.set_cons_succ]
                  refine held_do 14 106 (.bool true) (by kernel_rfl) (by kernel_rfl) (by kernel_rfl) (fun _ _ _ h => h) (by kernel_rfl) (by kernel_rfl) d2 (by intro ww hSw; clear hSw; go_simp) ?_
                  try simp only [Act.put, List.setIfInBounds_toArray, List.set_cons_zero, List.set_cons_succ]
                  refine held_do 15 107 (.bool true) (by kernel_rfl) (by kernel_rfl) (by kernel_rfl) (fun _ _ _ h => h) (by kernel_rfl) (by kernel_rfl) d2 (fun ww _ => by kernel_rfl) ?_
                  try simp only [Act.put, List.setIfInBounds_toArray, List.set_cons_zero, List.set_cons_succ]
                  refine held_do 16 108 (.bool true) (by kernel_rfl) (by kernel_rfl) (by kernel_rfl) (fun _ _ _ h => h) (by kernel_rfl) (by kernel_rfl) d2 (fun ww _ => by kernel_rfl) ?_
                  try simp only [Act.put, List.setIfInBounds_toArray, List.set_cons_zero, List.set_cons_succ]
                  refine held_do 17 2 (.bool true) (by kernel_rfl) (by kernel_rfl) (by kernel_rfl) (fun _ _ _ h => h) (by kernel_rfl) (by kernel_rfl) d2 (fun ww _ => by kernel_rfl) ?_
                  try simp only [Act.put, List.setIfInBounds_toArray, List.set_cons_zero, List.set_cons_succ]
                  refine wpAnyH_done (by kernel_rfl) ?_ _
                  obtain ⟨w10, hw10⟩ : ∃ wx, wx = v2 := ⟨_, rfl⟩
                  have XD10 : Hid (w10.heap[w1.heap.size]? = some (.cells #[.int .i64 A, .int .i64 B] 42 (0, 0))) := Lib.hid (by rw [hw10]; exact box_below XD9.out d2)
                  have XF10 : Hid (w10.heap[w2.heap.size]? = some (.cells #[.int .i64 M, .int .i64 E] 56 (0, 0))) := Lib.hid (by rw [hw10]; exact box_below XF9.out d2)
                  have XG10 : Hid (w10.heap[w3.heap.size]? = some (.cells #[.int .i64 M, .int .i64 E] 56 (0, 0))) := Lib.hid (by rw [hw10]; exact box_below XG9.out d2)
                  have XI10 : Hid (w10.heap[w4.heap.size]? = some (.cells #[.int .i64 n2, .int .i64 x2] 42 (0, 0))) := Lib.hid (by rw [hw10]; exact box_below XI9.out d2)
                  have XH10 : Hid (w10.heap[w5.heap.size]? = some (.cells #[.int .i64 M2, .int .i64 E2] 56 (0, 0))) := Lib.hid (by rw [hw10]; exact box_below XH9.out d2)
                  have T10 := Lib.hid (show Below w.heap.size w w10 by rw [hw10]; exact nx T9.out d2)
                  rw [← hw10]
                  clear d2 d1 d0 hw10
                  go_wp2_with fail
                  go_ret
                  exact ⟨rfl, T10.out⟩
                · have e3 : (B == x) = false := by simpa using e2
                  have hx1 := HXI.out
                  rw [decide_eq_false (fun h => e2 (congrArg Prod.snd h))] at hx1
                  have HX1 := Lib.hid hx1; clear hx1 e2
                  have Q3 := Lib.hid (fun ww (hb : Below w9.heap.size w9 ww) => HX1.out ww (P1.out ww hb))
                  have d0 : Below w9.heap.size w9 w9.drew := (Below.refl _ _).drew
                  refine wp_region_held_drew (S := fun ww => Below w9.heap.size w9 ww) (by kernel_rfl) d0 (fun _ => ?_)
                  refine held_do 0 92 (.bool false) (by kernel_rfl) (by kernel_rfl) (by kernel_rfl) (fun _ _ _ h => h) (by kernel_rfl) (by kernel_rfl) d0 (fun ww _ => by kernel_rfl) ?_
                  try simp only [Act.put, List.setIfInBounds_toArray, List.set_cons_zero, List.set_cons_succ]
                  refine held_do 1 93 (.bool true) (by kernel_rfl) (by kernel_rfl) (by kernel_rfl) (fun _ _ _ h => h) (by kernel_rfl) (by kernel_rfl) d0 (fun ww _ => by kernel_rfl) ?_
                  try simp only [Act.put, List.setIfInBounds_toArray, List.set_cons_zero, List.set_cons_succ]
                  refine held_do 2 94 (.bool true) (by kernel_rfl) (by kernel_rfl) (by kernel_rfl) (fun _ _ _ h => h) (by kernel_rfl) (by kernel_rfl) d0 (fun ww _ => by kernel_rfl) ?_
                  try simp only [Act.put, List.setIfInBounds_toArray, List.set_cons_zero, List.set_cons_succ]
                  refine held_skip 3 95 (by kernel_rfl) (by kernel_rfl) (by kernel_rfl) (fun _ _ _ h => h) (by kernel_rfl) (by kernel_rfl) d0 ?_
                  try simp only [Act.put, List.setIfInBounds_toArray, List.set_cons_zero, List.set_cons_succ]
                  refine held_skip 4 96 (by kernel_rfl) (by kernel_rfl) (by kernel_rfl) (fun _ _ _ h => h) (by kernel_rfl) (by kernel_rfl) d0 ?_
                  try simp only [Act.put, List.setIfInBounds_toArray, List.set_cons_zero, List.set_cons_succ]
                  refine held_skip 5 97 (by kernel_rfl) (by kernel_rfl) (by kernel_rfl) (fun _ _ _ h => h) (by kernel_rfl) (by kernel_rfl) d0 ?_
                  try simp only [Act.put, List.setIfInBounds_toArray, List.set_cons_zero, List.set_cons_succ]
                  refine held_skip 6 98 (by kernel_rfl) (by kernel_rfl) (by kernel_rfl) (fun _ _ _ h => h) (by kernel_rfl) (by kernel_rfl) d0 ?_
                  try simp only [Act.put, List.setIfInBounds_toArray, List.set_cons_zero, List.set_cons_succ]
                  refine held_do 7 99 (.bool true) (by kernel_rfl) (by kernel_rfl) (by kernel_rfl) (fun _ _ _ h => h) (by kernel_rfl) (by kernel_rfl) d0 (fun ww _ => by kernel_rfl) ?_
                  try simp only [Act.put, List.setIfInBounds_toArray, List.set_cons_zero, List.set_cons_succ]
                  refine held_do 8 100 (.bool true) (by kernel_rfl) (by kernel_rfl) (by kernel_rfl) (fun _ _ _ h => h) (by kernel_rfl) (by kernel_rfl) d0 (fun ww _ => by kernel_rfl) ?_
                  try simp only [Act.put, List.setIfInBounds_toArray, List.set_cons_zero, List.set_cons_succ]
                  refine held_do 9 101 (.agg #[.int .i64 A, .int .i64 x]) (by kernel_rfl) (by kernel_rfl) (by kernel_rfl) (fun _ _ _ h => h) (by kernel_rfl) (by kernel_rfl) d0 (fun ww h => run_of (op := .load 42 (.tmp 3)) (by kernel_rfl) (fun o ho => load_dec rfl (two_num h XD9.out) ho)) ?_
                  try simp only [Act.put, List.setIfInBounds_toArray, List.set_cons_zero, List.set_cons_succ]
                  refine held_do 11 103 (.agg #[.int .i64 M, .int .i64 E]) (by kernel_rfl) (by kernel_rfl) (by kernel_rfl) (fun _ _ _ h => h) (by kernel_rfl) (by kernel_rfl) d0 (fun ww h => run_of (op := .load 56 (.tmp 4)) (by kernel_rfl) (fun o ho => load_flt rfl (two_num h XF9.out) ho)) ?_
                  try simp only [Act.put, List.setIfInBounds_toArray, List.set_cons_zero, List.set_cons_succ]
                  refine held_do 13 105 (.agg #[.int .i64 A, .int .i64 x]) (by kernel_rfl) (by kernel_rfl) (by kernel_rfl) (fun _ _ _ h => h) (by kernel_rfl) (by kernel_rfl) d0 (fun ww h => run_of (op := .load 42 (.tmp 3)) (by kernel_rfl) (fun o ho => load_dec rfl (two_num h XD9.out) ho)) ?_
                  try simp only [Act.put, List.setIfInBounds_toArray, List.set_cons_zero, List.set_cons_succ]
                  refine held_call 10 102 53 #[.agg #[.int .i64 A, .int .i64 x]] (by kernel_rfl) (by kernel_rfl) (by kernel_rfl) (fun _ => by kernel_rfl) ((Q3.out _ d0).mono ?_)
                  rintro _ v1 ⟨rfl, b1⟩
                  have d1 := nx d0 b1
                  clear b1
                  refine ⟨_, rfl, d1, ?_⟩
                  try simp only [Act.put, List.setIfInBounds_toArray, List.set_cons_zero, List.set_cons_succ]
                  refine held_call 12 104 40 #[.agg #[.int .i64 M, .int .i64 E]] (by kernel_rfl) (by kernel_rfl) (by kernel_rfl) (fun _ => by kernel_rfl) ((Q4.out _ d1).mono ?_)
                  rintro _ v2 ⟨rfl, b2⟩
                  have d2 := nx d1 b2
                  clear b2
                  refine ⟨_, rfl, d2, ?_⟩
                  try simp only [Act.put, List.setIfInBounds_toArray, List.set_cons_zero, List.set_cons_succ]
                  refine held_do 14 106 (.bool false) (by kernel_rfl) (by kernel_rfl) (by kernel_rfl) (fun _ _ _ h => h) (by kernel_rfl) (by kernel_rfl) d2 (by intro ww hSw; clear hSw; go_simp) ?_
                  try simp only [Act.put, List.setIfInBounds_toArray, List.set_cons_zero, List.set_cons_succ]
                  refine held_do 15 107 (.bool true) (by kernel_rfl) (by kernel_rfl) (by kernel_rfl) (fun _ _ _ h => h) (by kernel_rfl) (by kernel_rfl) d2 (fun ww _ => by kernel_rfl) ?_
                  try simp only [Act.put, List.setIfInBounds_toArray, List.set_cons_zero, List.set_cons_succ]
                  refine held_do 16 108 (.bool true) (by kernel_rfl) (by kernel_rfl) (by kernel_rfl) (fun _ _ _ h => h) (by kernel_rfl) (by kernel_rfl) d2 (fun ww _ => by kernel_rfl) ?_
                  try simp only [Act.put, List.setIfInBounds_toArray, List.set_cons_zero, List.set_cons_succ]
                  refine held_do 17 2 (.bool true) (by kernel_rfl) (by kernel_rfl) (by kernel_rfl) (fun _ _ _ h => h) (by kernel_rfl) (by kernel_rfl) d2 (fun ww _ => by kernel_rfl) ?_
                  try simp only [Act.put, List.setIfInBounds_toArray, List.set_cons_zero, List.set_cons_succ]
                  refine wpAnyH_done (by kernel_rfl) ?_ _
                  obtain ⟨w10, hw10⟩ : ∃ wx, wx = v2 := ⟨_, rfl⟩
                  have XD10 : Hid (w10.heap[w1.heap.size]? = some (.cells #[.int .i64 A, .int .i64 x] 42 (0, 0))) := Lib.hid (by rw [hw10]; exact box_below XD9.out d2)
                  have XF10 : Hid (w10.heap[w2.heap.size]? = some (.cells #[.int .i64 M, .int .i64 E] 56 (0, 0))) := Lib.hid (by rw [hw10]; exact box_below XF9.out d2)
                  have XG10 : Hid (w10.heap[w3.heap.size]? = some (.cells #[.int .i64 M, .int .i64 E] 56 (0, 0))) := Lib.hid (by rw [hw10]; exact box_below XG9.out d2)
                  have XI10 : Hid (w10.heap[w4.heap.size]? = some (.cells #[.int .i64 n2, .int .i64 x2] 42 (0, 0))) := Lib.hid (by rw [hw10]; exact box_below XI9.out d2)
                  have XH10 : Hid (w10.heap[w5.heap.size]? = some (.cells #[.int .i64 M2, .int .i64 E2] 56 (0, 0))) := Lib.hid (by rw [hw10]; exact box_below XH9.out d2)
                  have T10 := Lib.hid (show Below w.heap.size w w10 by rw [hw10]; exact nx T9.out d2)
                  rw [← hw10]
                  clear d2 d1 d0 hw10
                  go_wp2_with fail
                  go_ret
                  exact ⟨rfl, T10.out⟩
              · have e3 : (A == n) = false := by simpa using e1
                have hx1 := HXI.out
                rw [decide_eq_false (fun h => e1 (congrArg Prod.fst h))] at hx1
                have HX1 := Lib.hid hx1; clear hx1 e1
                have Q3 := Lib.hid (fun ww (hb : Below w9.heap.size w9 ww) => HX1.out ww (P1.out ww hb))
                have d0 : Below w9.heap.size w9 w9.drew := (Below.refl _ _).drew
                refine wp_region_held_drew (S := fun ww => Below w9.heap.size w9 ww) (by kernel_rfl) d0 (fun _ => ?_)
                refine held_do 0 92 (.bool false) (by kernel_rfl) (by kernel_rfl) (by kernel_rfl) (fun _ _ _ h => h) (by kernel_rfl) (by kernel_rfl) d0 (fun ww _ => by kernel_rfl) ?_
                try simp only [Act.put, List.setIfInBounds_toArray, List.set_cons_zero, List.set_cons_succ]
                refine held_do 1 93 (.bool true) (by kernel_rfl) (by kernel_rfl) (by kernel_rfl) (fun _ _ _ h => h) (by kernel_rfl) (by kernel_rfl) d0 (fun ww _ => by kernel_rfl) ?_
                try simp only [Act.put, List.setIfInBounds_toArray, List.set_cons_zero, List.set_cons_succ]
                refine held_do 2 94 (.bool true) (by kernel_rfl) (by kernel_rfl) (by kernel_rfl) (fun _ _ _ h => h) (by kernel_rfl) (by kernel_rfl) d0 (fun ww _ => by kernel_rfl) ?_
                try simp only [Act.put, List.setIfInBounds_toArray, List.set_cons_zero, List.set_cons_succ]
                refine held_skip 3 95 (by kernel_rfl) (by kernel_rfl) (by kernel_rfl) (fun _ _ _ h => h) (by kernel_rfl) (by kernel_rfl) d0 ?_
                try simp only [Act.put, List.setIfInBounds_toArray, List.set_cons_zero, List.set_cons_succ]
                refine held_skip 4 96 (by kernel_rfl) (by kernel_rfl) (by kernel_rfl) (fun _ _ _ h => h) (by kernel_rfl) (by kernel_rfl) d0 ?_
                try simp only [Act.put, List.setIfInBounds_toArray, List.set_cons_zero, List.set_cons_succ]
                refine held_skip 5 97 (by kernel_rfl) (by kernel_rfl) (by kernel_rfl) (fun _ _ _ h => h) (by kernel_rfl) (by kernel_rfl) d0 ?_
                try simp only [Act.put, List.setIfInBounds_toArray, List.set_cons_zero, List.set_cons_succ]
                refine held_skip 6 98 (by kernel_rfl) (by kernel_rfl) (by kernel_rfl) (fun _ _ _ h => h) (by kernel_rfl) (by kernel_rfl) d0 ?_
                try simp only [Act.put, List.setIfInBounds_toArray, List.set_cons_zero, List.set_cons_succ]
                refine held_do 7 99 (.bool true) (by kernel_rfl) (by kernel_rfl) (by kernel_rfl) (fun _ _ _ h => h) (by kernel_rfl) (by kernel_rfl) d0 (fun ww _ => by kernel_rfl) ?_
                try simp only [Act.put, List.setIfInBounds_toArray, List.set_cons_zero, List.set_cons_succ]
                refine held_do 8 100 (.bool true) (by kernel_rfl) (by kernel_rfl) (by kernel_rfl) (fun _ _ _ h => h) (by kernel_rfl) (by kernel_rfl) d0 (fun ww _ => by kernel_rfl) ?_
                try simp only [Act.put, List.setIfInBounds_toArray, List.set_cons_zero, List.set_cons_succ]
                refine held_do 9 101 (.agg #[.int .i64 n, .int .i64 x]) (by kernel_rfl) (by kernel_rfl) (by kernel_rfl) (fun _ _ _ h => h) (by kernel_rfl) (by kernel_rfl) d0 (fun ww h => run_of (op := .load 42 (.tmp 3)) (by kernel_rfl) (fun o ho => load_dec rfl (two_num h XD9.out) ho)) ?_
                try simp only [Act.put, List.setIfInBounds_toArray, List.set_cons_zero, List.set_cons_succ]
                refine held_do 11 103 (.agg #[.int .i64 M, .int .i64 E]) (by kernel_rfl) (by kernel_rfl) (by kernel_rfl) (fun _ _ _ h => h) (by kernel_rfl) (by kernel_rfl) d0 (fun ww h => run_of (op := .load 56 (.tmp 4)) (by kernel_rfl) (fun o ho => load_flt rfl (two_num h XF9.out) ho)) ?_
                try simp only [Act.put, List.setIfInBounds_toArray, List.set_cons_zero, List.set_cons_succ]
                refine held_do 13 105 (.agg #[.int .i64 n, .int .i64 x]) (by kernel_rfl) (by kernel_rfl) (by kernel_rfl) (fun _ _ _ h => h) (by kernel_rfl) (by kernel_rfl) d0 (fun ww h => run_of (op := .load 42 (.tmp 3)) (by kernel_rfl) (fun o ho => load_dec rfl (two_num h XD9.out) ho)) ?_
                try simp only [Act.put, List.setIfInBounds_toArray, List.set_cons_zero, List.set_cons_succ]
                refine held_call 10 102 53 #[.agg #[.int .i64 n, .int .i64 x]] (by kernel_rfl) (by kernel_rfl) (by kernel_rfl) (fun _ => by kernel_rfl) ((Q3.out _ d0).mono ?_)
                rintro _ v1 ⟨rfl, b1⟩
                have d1 := nx d0 b1
                clear b1
                refine ⟨_, rfl, d1, ?_⟩
                try simp only [Act.put, List.setIfInBounds_toArray, List.set_cons_zero, List.set_cons_succ]
                refine held_call 12 104 40 #[.agg #[.int .i64 M, .int .i64 E]] (by kernel_rfl) (by kernel_rfl) (by kernel_rfl) (fun _ => by kernel_rfl) ((Q4.out _ d1).mono ?_)
                rintro _ v2 ⟨rfl, b2⟩
                have d2 := nx d1 b2
                clear b2
                refine ⟨_, rfl, d2, ?_⟩
                try simp only [Act.put, List.setIfInBounds_toArray, List.set_cons_zero, List.set_cons_succ]
                refine held_do 14 106 (.bool false) (by kernel_rfl) (by kernel_rfl) (by kernel_rfl) (fun _ _ _ h => h) (by kernel_rfl) (by kernel_rfl) d2 (by intro ww hSw; clear hSw; go_simp) ?_
                try simp only [Act.put, List.setIfInBounds_toArray, List.set_cons_zero, List.set_cons_succ]
                refine held_do 15 107 (.bool true) (by kernel_rfl) (by kernel_rfl) (by kernel_rfl) (fun _ _ _ h => h) (by kernel_rfl) (by kernel_rfl) d2 (fun ww _ => by kernel_rfl) ?_
                try simp only [Act.put, List.setIfInBounds_toArray, List.set_cons_zero, List.set_cons_succ]
                refine held_do 16 108 (.bool true) (by kernel_rfl) (by kernel_rfl) (by kernel_rfl) (fun _ _ _ h => h) (by kernel_rfl) (by kernel_rfl) d2 (fun ww _ => by kernel_rfl) ?_
                try simp only [Act.put, List.setIfInBounds_toArray, List.set_cons_zero, List.set_cons_succ]
                refine held_do 17 2 (.bool true) (by kernel_rfl) (by kernel_rfl) (by kernel_rfl) (fun _ _ _ h => h) (by kernel_rfl) (by kernel_rfl) d2 (fun ww _ => by kernel_rfl) ?_
                try simp only [Act.put, List.setIfInBounds_toArray, List.set_cons_zero, List.set_cons_succ]
                refine wpAnyH_done (by kernel_rfl) ?_ _
                obtain ⟨w10, hw10⟩ : ∃ wx, wx = v2 := ⟨_, rfl⟩
                have XD10 : Hid (w10.heap[w1.heap.size]? = some (.cells #[.int .i64 n, .int .i64 x] 42 (0, 0))) := Lib.hid (by rw [hw10]; exact box_below XD9.out d2)
                have XF10 : Hid (w10.heap[w2.heap.size]? = some (.cells #[.int .i64 M, .int .i64 E] 56 (0, 0))) := Lib.hid (by rw [hw10]; exact box_below XF9.out d2)
                have XG10 : Hid (w10.heap[w3.heap.size]? = some (.cells #[.int .i64 M, .int .i64 E] 56 (0, 0))) := Lib.hid (by rw [hw10]; exact box_below XG9.out d2)
                have XI10 : Hid (w10.heap[w4.heap.size]? = some (.cells #[.int .i64 n2, .int .i64 x2] 42 (0, 0))) := Lib.hid (by rw [hw10]; exact box_below XI9.out d2)
                have XH10 : Hid (w10.heap[w5.heap.size]? = some (.cells #[.int .i64 M2, .int .i64 E2] 56 (0, 0))) := Lib.hid (by rw [hw10]; exact box_below XH9.out d2)
                have T10 := Lib.hid (show Below w.heap.size w w10 by rw [hw10]; exact nx T9.out d2)
                rw [← hw10]
                clear d2 d1 d0 hw10
                go_wp2_with fail
                go_ret
                exact ⟨rfl, T10.out⟩
namespace fnNears
set_option maxRecDepth 100000 in
theorem walk : LawWalkX (fun W => LaidP W) 10 Tryd.f10 := by
  intro H enc W base args ds p hval0 hA0 hL
  have hval : ∀ (j : Nat) t v, Tryd.f10.params[j]? = some t → args[j]? = some v → Value.okWide Tryd.prog W .any base t v := hval0
  have hA : DataW.TrodAll enc Tryd.prog W 0 (fun _ => true) true Tryd.f10.params.toList args.toList ds p := hA0
  clear hval0 hA0
  rw [Tryd.params10] at hA hval
  obtain ⟨v0, vs0, d0, ds0, p0, q0, hargs, rfl, rfl, h0, r0⟩ := trodAll_cons hA
  obtain ⟨rfl, rfl, rfl⟩ := trodAll_nil r0
  obtain rfl : args = #[v0] := by cases args; simp_all
  obtain ⟨a0, len0, cap0, rfl⟩ := okWide_slice Tryd.underlying39 (hval 0 39 v0 rfl rfl)
  obtain ⟨z0, rfl, w0, x0, y0, m0⟩ := open_ints_rd Tryd.underlying39 Tryd.underlying5 (by kernel_rfl) h0
  exact fnNears_law a0 cap0 z0 W hL w0 x0 y0 m0
theorem laid_met (os : Os) : laidMet Tryd.prog Rows.fnNearsRow.laid ((laidWorld os).forCall (fun _ _ => 0) ⟨#[], #[.slice none 0 0], []⟩).memory :=
  laidMet_of_run' 8 (by kernel_rfl) (by kernel_rfl)
theorem reads (os : Os) {H : Type} (enc : TypeId × Value → H) : ∃ places, DataW.whole enc Tryd.prog ((laidWorld os).forCall (fun _ _ => 0) ⟨#[], #[.slice none 0 0], []⟩).memory Tryd.f10.params.toList Rows.fnNearsSpec.vars false (#[Value.slice none 0 0] : Array Value).toList 8 = some ([.nil], [], places) :=
  ⟨[], by kernel_rfl⟩
set_option maxRecDepth 100000 in
theorem lifted (os : Os) (started : os.Started) (H : Type) (enc : TypeId × Value → H) (F : Stop.Interp) :
    ReturnsInHanded {} Tryd.checked os 10 .any ((OpenSpec.ofChange Rows.fnNearsSpec).preRow enc Tryd.prog Tryd.f10 Rows.fnNearsRow.domain false Rows.fnNearsRow.laid) (((OpenSpec.ofChange Rows.fnNearsSpec).at F).post enc Tryd.prog Tryd.f10 false true false false) := by
  obtain ⟨places, hx⟩ := reads os enc
  refine returnsInHanded_of_row (C := Tryd.checked) (s := OpenSpec.ofChange Rows.fnNearsSpec) own started (by kernel_rfl) Tryd.func10
    (witness_row_at (enc := enc) (C := Tryd.checked) false (laidWorld os) #[.slice none 0 0] rfl (by kernel_rfl) (by kernel_rfl) (by kernel_rfl)
      (OpenSpec.preRow_of_cond 8 hx (by kernel_rfl) (fun k hk => by cases hk) (by kernel_rfl) (laid_met os))) ?_
  intro W base args ds gs before hval hW _ _ _ hL _ _
  exact law_contractX (fun W => LaidP W) 10 Tryd.f10 Rows.fnNearsSpec H enc rfl rfl (by kernel_rfl) (fun ds h => by match ds, h with | [_], _ => rfl) walk W base args ds gs before hval hW (laidP_of hL (by simp [Rows.fnNearsRow]))
theorem said : Rows.FnNearsSaid :=
  OpenClaim.holds_of_cond 10 Tryd.f10 rfl rfl rfl rfl rfl rfl rfl ⟨rfl, rfl, rfl, rfl, rfl⟩ rfl rfl rfl rfl rfl (by kernel_rfl) Tryd.func10 (by kernel_rfl)
    (of_decide_eq_true (by kernel_rfl)) (by unfold Func.isWrapper; first | (rw [if_pos (by decide +kernel)]; kernel_rfl) | (rw [if_neg (by decide +kernel)]; exact ⟨rfl, rfl⟩))
    (fun os started H enc _ F => by rw [OpenClaim.pre_eq_preRow]; exact lifted os started H enc F)
theorem plain (f : FuncId) (fn : Func) (hf : Tryd.pinned.checked.prog.funcNamed "loop.example/g00502/laws.FnNears" = some f) (hfn : Tryd.pinned.checked.prog.funcs[f]? = some fn) :
    true = Tryd.pinned.checked.prog.looks [] ∧ ∀ (j : Nat) t, fn.params[j]? = some t → Tryd.pinned.checked.prog.wantsStandIn t = false := by
  obtain rfl : f = 10 := Option.some.inj ((show Tryd.prog.funcNamed "loop.example/g00502/laws.FnNears" = some 10 by kernel_rfl).symm.trans hf) |>.symm
  obtain rfl : fn = Tryd.f10 := (Option.some.inj (Tryd.func10.symm.trans hfn)).symm
  refine ⟨by kernel_rfl, fun j t ht => ?_⟩
  have hall : Tryd.f10.params.toList.all (fun t => !Tryd.pinned.checked.prog.wantsStandIn t) = true := by kernel_rfl
  have hm := List.all_eq_true.1 hall t (by simpa using Array.mem_of_getElem? ht)
  simpa using hm
theorem proved : Rows.FnNearsCardSaid :=
  Claim7.holds_tied_plain_at .later [] _ _ _ _ said (fun _ h => by cases h) (by kernel_rfl) (fun _ h => by cases h) fnNears_row_tie rfl ⟨rfl, rfl⟩ (by kernel_rfl) rfl plain (by kernel_rfl)
#print axioms proved
end fnNears
end Go.Proofs.YtilmhemcpgiikaaDoor
