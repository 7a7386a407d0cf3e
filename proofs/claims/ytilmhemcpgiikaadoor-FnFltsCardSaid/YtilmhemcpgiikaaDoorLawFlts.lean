/- FnFlts: a number by halves is one with a point, and the nearest to itself. -/
import Derived.Test.YtilmhemcpgiikaaDoorDFlt
import Derived.Test.YtilmhemcpgiikaaDoorDSame
import Derived.Test.YtilmhemcpgiikaaDoorMFltBack
import Derived.Test.YtilmhemcpgiikaaDoorCFltNew
import Derived.Test.YtilmhemcpgiikaaDoorHeld
import Derived.Deep.RegionHeld3
import Derived.Deep.RegionWith
import Derived.Deep.DeepCutAuto
namespace Go.Proofs.YtilmhemcpgiikaaDoor
open Go.Deep Go.ChangeShapes Go.WideShapes Go.ChangeAt Go.RowKit
open Go.ChangeMaps (open_string shut_string)

set_option maxRecDepth 100000 in
set_option maxHeartbeats 40000000 in
theorem fnFlts_law (a : Option Addr) (cap : Nat) (zs : List Int) (w : World) (hL : LaidP w) (hr : Rd w .u8 a zs) (hw : ∀ n ∈ zs, (Lit.int .u8 n).wf = true) (hcap : zs.length ≤ cap) (_hm : cap ≤ maxLen) :
    Calls Tryd.prog 9 #[.slice a zs.length cap] w fun e w' => e = .returned (.bool true) ∧ Below w.heap.size w w' := by
  have HR := Lib.hid hr; clear hr
  have HW := Lib.hid hw; clear hw
  have LA := Lib.hid hL; clear hL
  have Hlen := Lib.hid (show zs.length ≤ 9223372036854775807 by unfold maxLen at _hm; omega)
  cases hbig : decide ((1048576 : Int) < (zs.length : Int)) with
  | true =>
    have HB := Lib.hid hbig; clear hbig
    go_enter Tryd.func9, Tryd.ntmps9
    go_wp2_with fail
    refine (big_c _ _ _ _).mono ?_
    rintro _ _ ⟨rfl, rfl⟩
    rw [HB.out]
    go_wp2_with fail
    go_ret
    exact ⟨rfl, Below.refl _ _⟩
  | false =>
    have hlen : zs.length ≤ 1048576 := by have := of_decide_eq_false hbig; omega
    have HB := Lib.hid hbig; clear hbig
    go_enter Tryd.func9, Tryd.ntmps9
    go_wp2_with fail
    refine (big_c _ _ _ _).mono ?_
    rintro _ _ ⟨rfl, rfl⟩
    rw [HB.out]
    go_wp2_with fail
    refine (drawFltDec_c zs a cap _ (by exact rd_kept (Below.refl w.heap.size w) HR.out) HW.out hlen hcap).mono ?_
    rintro _ w1 ⟨⟨m, e, rfl, hm, he⟩, b'⟩
    have T1 := Lib.hid (nx (Below.refl w.heap.size w) b'); clear b'
    have MW := Lib.hid hm; clear hm he
    have HFD := Lib.hid (fdF_ok m e); have HBK := Lib.hid (nearF_back (M := m) (E := e)); have HEX := Lib.hid (exactB_back (M := m) (E := e)); have HNO := Lib.hid (fltDecF_no (M := m) (E := e))
    have HTX : Hid (fltTextS m e = if fltOkF m e = true then decTextS (fltDecF m e).1 (fltDecF m e).2 else { data := #[] }) := Lib.hid rfl
    have hdi := fun ww (hL : LaidP ww) => fltDec_impl m e ww hL; have hds := fun ww => fltDec_spec m e ww
    obtain ⟨⟨A, B⟩, hQ⟩ : ∃ z : Int × Int, fltDecF m e = z := ⟨_, rfl⟩
    rw [hQ] at HFD HBK HEX HNO HTX hdi hds
    clear hQ
    dsimp only at HTX hdi hds
    have hfi := fun ww (hL : LaidP ww) => fltText_impl m e ww hL; have hfs := fun ww => fltText_spec m e ww
    obtain ⟨S, hS⟩ : ∃ S, fltTextS m e = S := ⟨_, rfl⟩
    rw [hS] at HTX hfi hfs
    clear hS
    have hoi := fun ww => fltOk_impl m e ww; have hos := fun ww => fltOk_spec m e ww
    obtain ⟨K, hK⟩ : ∃ K, fltOkF m e = K := ⟨_, rfl⟩
    rw [hK] at HTX HBK HEX HNO hoi hos
    clear hK
    have HDI := Lib.hid hdi; have HDS := Lib.hid hds; have HFI := Lib.hid hfi; have HFS := Lib.hid hfs; have HOI := Lib.hid hoi; have HOS := Lib.hid hos; clear hdi hds hfi hfs hoi hos
    have HAB := Lib.hid (dec_rng (n := A) (x := B) HFD.out)
    go_wp2_with fail
    refine (HDI.out _ (LA.out.kept (below_alloc T1.out _))).mono ?_
    rintro _ w2 ⟨rfl, b'⟩
    have XF2 : Hid (w2.heap[w1.heap.size]? = some (.cells #[.int .i64 m, .int .i64 e] 56 (0, 0))) := Lib.hid (box_below (heap_alloc_new _ _) b')
    have T2 := Lib.hid (nx (below_alloc T1.out _) b'); clear b'
    go_wp2_with fail
    refine (drawFltNew_c zs a cap _ (by exact rd_kept (below_alloc T2.out _) HR.out) HW.out hlen hcap).mono ?_
    rintro _ w3 ⟨⟨N, X, rfl, hn, hx⟩, b'⟩
    have XF3 : Hid (w3.heap[w1.heap.size]? = some (.cells #[.int .i64 m, .int .i64 e] 56 (0, 0))) := Lib.hid (box_below (box_alloc XF2.out _) b')
    have XD3 : Hid (w3.heap[w2.heap.size]? = some (.cells #[.int .i64 A, .int .i64 B] 42 (0, 0))) := Lib.hid (box_below (heap_alloc_new _ _) b')
    have T3 := Lib.hid (nx (below_alloc T2.out _) b'); clear b'
    clear hn hx
    have HNW := Lib.hid (newF_ok (m := N) (e := X))
    have hci := fun ww => newF_impl N X ww; have hcs := fun ww => newF_spec N X ww
    obtain ⟨⟨G, H, Q⟩, hQ⟩ : ∃ z : Int × Int × Bool, newF N X = z := ⟨_, rfl⟩
    rw [hQ] at hci hcs HNW
    dsimp only at hci hcs
    have HNW2 : Hid (Q = true → fltOkF G H = true) := HNW; clear HNW hQ
    have HCI := Lib.hid hci; have HCS := Lib.hid hcs; clear hci hcs
    go_wp2_with fail
    refine (HCI.out _).mono ?_
    rintro _ w4 ⟨rfl, b'⟩
    have XF4 : Hid (w4.heap[w1.heap.size]? = some (.cells #[.int .i64 m, .int .i64 e] 56 (0, 0))) := Lib.hid (box_below XF3.out b')
    have XD4 : Hid (w4.heap[w2.heap.size]? = some (.cells #[.int .i64 A, .int .i64 B] 42 (0, 0))) := Lib.hid (box_below XD3.out b')
    have T4 := Lib.hid (nx T3.out b'); clear b'
    go_wp2_with fail
    refine (HCS.out _).mono ?_
    rintro _ w5 ⟨rfl, b'⟩
    have XF5 : Hid (w5.heap[w1.heap.size]? = some (.cells #[.int .i64 m, .int .i64 e] 56 (0, 0))) := Lib.hid (box_below (box_alloc XF4.out _) b')
    have XD5 : Hid (w5.heap[w2.heap.size]? = some (.cells #[.int .i64 A, .int .i64 B] 42 (0, 0))) := Lib.hid (box_below (box_alloc XD4.out _) b')
    have XI5 : Hid (w5.heap[w4.heap.size]? = some (.cells #[.int .i64 G, .int .i64 H] 56 (0, 0))) := Lib.hid (box_below (heap_alloc_new _ _) b')
    have T5 := Lib.hid (nx (below_alloc T4.out _) b'); clear b'
    go_wp2_with fail
    refine (drawLessFlt_c zs a cap _ (by exact rd_kept (below_alloc T5.out _) HR.out) HW.out hlen hcap).mono ?_
    rintro _ w6 ⟨⟨n1, x1, n2, x2, rfl, h1, h2⟩, b'⟩
    have XF6 : Hid (w6.heap[w1.heap.size]? = some (.cells #[.int .i64 m, .int .i64 e] 56 (0, 0))) := Lib.hid (box_below (box_alloc XF5.out _) b')
    have XD6 : Hid (w6.heap[w2.heap.size]? = some (.cells #[.int .i64 A, .int .i64 B] 42 (0, 0))) := Lib.hid (box_below (box_alloc XD5.out _) b')
    have XI6 : Hid (w6.heap[w4.heap.size]? = some (.cells #[.int .i64 G, .int .i64 H] 56 (0, 0))) := Lib.hid (box_below (box_alloc XI5.out _) b')
    have XJ6 : Hid (w6.heap[w5.heap.size]? = some (.cells #[.int .i64 G, .int .i64 H] 56 (0, 0))) := Lib.hid (box_below (heap_alloc_new _ _) b')
    have T6 := Lib.hid (nx (below_alloc T5.out _) b'); clear b'
    clear h1 h2
    obtain ⟨w7, hw7⟩ : ∃ wx, wx = ((w6.alloc (.cells #[.int .i64 n1, .int .i64 x1] 56)).alloc (.cells #[.int .i64 n2, .int .i64 x2] 56)) := ⟨_, rfl⟩
    have XF7 : Hid (w7.heap[w1.heap.size]? = some (.cells #[.int .i64 m, .int .i64 e] 56 (0, 0))) := Lib.hid (by rw [hw7]; exact (box_alloc (box_alloc XF6.out _) _))
    have XD7 : Hid (w7.heap[w2.heap.size]? = some (.cells #[.int .i64 A, .int .i64 B] 42 (0, 0))) := Lib.hid (by rw [hw7]; exact (box_alloc (box_alloc XD6.out _) _))
    have XI7 : Hid (w7.heap[w4.heap.size]? = some (.cells #[.int .i64 G, .int .i64 H] 56 (0, 0))) := Lib.hid (by rw [hw7]; exact (box_alloc (box_alloc XI6.out _) _))
    have XJ7 : Hid (w7.heap[w5.heap.size]? = some (.cells #[.int .i64 G, .int .i64 H] 56 (0, 0))) := Lib.hid (by rw [hw7]; exact (box_alloc (box_alloc XJ6.out _) _))
    have XA7 : Hid (w7.heap[w6.heap.size]? = some (.cells #[.int .i64 n1, .int .i64 x1] 56 (0, 0))) := Lib.hid (by rw [hw7]; exact (first_block _ _ _))
    have XB7 : Hid (w7.heap[(w6.heap.size + 1)]? = some (.cells #[.int .i64 n2, .int .i64 x2] 56 (0, 0))) := Lib.hid (by rw [hw7]; exact (second_block2 _ _ _))
    have T7 := Lib.hid (show Below w.heap.size w w7 by rw [hw7]; exact (below_alloc (below_alloc T6.out _) _))
    go_wp2_with fail
    rw [← hw7]
    clear hw7
    have hli := fun ww (hL : LaidP ww) => lessFlt_impl n1 x1 n2 x2 ww hL; have hls := fun ww => lessFlt_spec n1 x1 n2 x2 ww
    obtain ⟨L1, hL1⟩ : ∃ q, lessFltB n1 x1 n2 x2 = q := ⟨_, rfl⟩
    rw [hL1] at hli hls
    have HIL1 := Lib.hid hli; have HSL1 := Lib.hid hls; clear hli hls
    have hli := fun ww (hL : LaidP ww) => lessFlt_impl n2 x2 n1 x1 ww hL; have hls := fun ww => lessFlt_spec n2 x2 n1 x1 ww
    obtain ⟨L2, hL2⟩ : ∃ q, lessFltB n2 x2 n1 x1 = q := ⟨_, rfl⟩
    rw [hL2] at hli hls
    have HIL2 := Lib.hid hli; have HSL2 := Lib.hid hls; clear hli hls
    have hone := fun h h' => lessFlt_one (m := n1) (e := x1) (p := n2) (q := x2) h h'
    rw [hL1, hL2] at hone
    have hki := fun ww => fltOk_impl n1 x1 ww
    obtain ⟨K1, hK1⟩ : ∃ q, fltOkF n1 x1 = q := ⟨_, rfl⟩
    rw [hK1] at hki hone
    have HOK1 := Lib.hid hki; clear hki hK1
    have hki := fun ww => fltOk_impl n2 x2 ww
    obtain ⟨K2, hK2⟩ : ∃ q, fltOkF n2 x2 = q := ⟨_, rfl⟩
    rw [hK2] at hki hone
    have HOK2 := Lib.hid hki; clear hki hK2
    have HONE := Lib.hid hone; clear hone hL1 hL2
    have P1 := Lib.hid (fun ww (hb : Below w7.heap.size w7 ww) => LA.out.kept (nx T7.out hb))
    have R1 := Lib.hid (fun ww (_ : Below w7.heap.size w7 ww) => HDS.out ww)
    have R2 := Lib.hid (fun ww (hb : Below w7.heap.size w7 ww) => HIL1.out ww (P1.out ww hb))
    have R3 := Lib.hid (fun ww (_ : Below w7.heap.size w7 ww) => HSL1.out ww)
    have R4 := Lib.hid (fun ww (_ : Below w7.heap.size w7 ww) => HOI.out ww)
    have R5 := Lib.hid (fun ww (_ : Below w7.heap.size w7 ww) => HOS.out ww)
    have R6 := Lib.hid (fun ww (hb : Below w7.heap.size w7 ww) => HFI.out ww (P1.out ww hb))
    have R7 := Lib.hid (fun ww (_ : Below w7.heap.size w7 ww) => HFS.out ww)
    have d0 : Below w7.heap.size w7 w7.drew := (Below.refl _ _).drew
    refine wp_region_held_drew (S := fun ww => Below w7.heap.size w7 ww) (by kernel_rfl) d0 (fun _ => ?_)
    refine held_do 0 43 (.agg #[.int .i64 A, .int .i64 B]) (by kernel_rfl) (by kernel_rfl) (by kernel_rfl) (fun _ _ _ h => h) (by kernel_rfl) (by kernel_rfl) d0 (fun ww h => run_of (op := .load 42 (.tmp 4)) (by kernel_rfl) (fun o ho => load_dec rfl (two_num h XD7.out) ho)) ?_
    try simp only [Act.put, List.setIfInBounds_toArray, List.set_cons_zero, List.set_cons_succ]
    refine held_do 1 44 (.agg #[.int .i64 m, .int .i64 e]) (by kernel_rfl) (by kernel_rfl) (by kernel_rfl) (fun _ _ _ h => h) (by kernel_rfl) (by kernel_rfl) d0 (fun ww h => run_of (op := .load 56 (.tmp 3)) (by kernel_rfl) (fun o ho => load_flt rfl (two_num h XF7.out) ho)) ?_
    try simp only [Act.put, List.setIfInBounds_toArray, List.set_cons_zero, List.set_cons_succ]
    refine held_call 2 45 45 #[.agg #[.int .i64 m, .int .i64 e]] (by kernel_rfl) (by kernel_rfl) (by kernel_rfl) (fun _ => by kernel_rfl) ((R1.out _ d0).mono ?_)
    rintro _ v1 ⟨rfl, b1⟩
    have d1 := nx d0 b1
    clear b1
    refine ⟨_, rfl, d1, ?_⟩
    try simp only [Act.put, List.setIfInBounds_toArray, List.set_cons_zero, List.set_cons_succ]
    refine held_do 3 46 (.bool false) (by kernel_rfl) (by kernel_rfl) (by kernel_rfl) (fun _ _ _ h => h) (by kernel_rfl) (by kernel_rfl) d1 (by intro ww hSw; clear hSw; go_simp) ?_
    try simp only [Act.put, List.setIfInBounds_toArray, List.set_cons_zero, List.set_cons_succ]
    refine held_do 4 47 (.bool false) (by kernel_rfl) (by kernel_rfl) (by kernel_rfl) (fun _ _ _ h => h) (by kernel_rfl) (by kernel_rfl) d1 (fun ww _ => by kernel_rfl) ?_
    try simp only [Act.put, List.setIfInBounds_toArray, List.set_cons_zero, List.set_cons_succ]
    refine held_do 5 48 (.agg #[.int .i64 G, .int .i64 H]) (by kernel_rfl) (by kernel_rfl) (by kernel_rfl) (fun _ _ _ h => h) (by kernel_rfl) (by kernel_rfl) d1 (fun ww h => run_of (op := .load 56 (.tmp 7)) (by kernel_rfl) (fun o ho => load_flt rfl (two_num h XI7.out) ho)) ?_
    try simp only [Act.put, List.setIfInBounds_toArray, List.set_cons_zero, List.set_cons_succ]
    refine held_do 6 49 (.agg #[.int .i64 G, .int .i64 H]) (by kernel_rfl) (by kernel_rfl) (by kernel_rfl) (fun _ _ _ h => h) (by kernel_rfl) (by kernel_rfl) d1 (fun ww h => run_of (op := .load 56 (.tmp 9)) (by kernel_rfl) (fun o ho => load_flt rfl (two_num h XJ7.out) ho)) ?_
    try simp only [Act.put, List.setIfInBounds_toArray, List.set_cons_zero, List.set_cons_succ]
    refine held_do 7 50 (.bool false) (by kernel_rfl) (by kernel_rfl) (by kernel_rfl) (fun _ _ _ h => h) (by kernel_rfl) (by kernel_rfl) d1 (by intro ww hSw; clear hSw; go_simp) ?_
    try simp only [Act.put, List.setIfInBounds_toArray, List.set_cons_zero, List.set_cons_succ]
    refine held_do 8 51 (.bool false) (by kernel_rfl) (by kernel_rfl) (by kernel_rfl) (fun _ _ _ h => h) (by kernel_rfl) (by kernel_rfl) d1 (fun ww _ => by kernel_rfl) ?_
    try simp only [Act.put, List.setIfInBounds_toArray, List.set_cons_zero, List.set_cons_succ]
    refine held_do 9 52 (.bool false) (by kernel_rfl) (by kernel_rfl) (by kernel_rfl) (fun _ _ _ h => h) (by kernel_rfl) (by kernel_rfl) d1 (fun ww _ => by kernel_rfl) ?_
    try simp only [Act.put, List.setIfInBounds_toArray, List.set_cons_zero, List.set_cons_succ]
    refine held_do 10 53 (.bool Q) (by kernel_rfl) (by kernel_rfl) (by kernel_rfl) (fun _ _ _ h => h) (by kernel_rfl) (by kernel_rfl) d1 (fun ww _ => by kernel_rfl) ?_
    try simp only [Act.put, List.setIfInBounds_toArray, List.set_cons_zero, List.set_cons_succ]
    refine held_do 11 54 (.bool Q) (by kernel_rfl) (by kernel_rfl) (by kernel_rfl) (fun _ _ _ h => h) (by kernel_rfl) (by kernel_rfl) d1 (fun ww _ => by kernel_rfl) ?_
    try simp only [Act.put, List.setIfInBounds_toArray, List.set_cons_zero, List.set_cons_succ]
    refine held_do 12 55 (.bool false) (by kernel_rfl) (by kernel_rfl) (by kernel_rfl) (fun _ _ _ h => h) (by kernel_rfl) (by kernel_rfl) d1 (by intro ww hSw; clear hSw; go_simp) ?_
    try simp only [Act.put, List.setIfInBounds_toArray, List.set_cons_zero, List.set_cons_succ]
    refine held_do 13 56 (.bool false) (by kernel_rfl) (by kernel_rfl) (by kernel_rfl) (fun _ _ _ h => h) (by kernel_rfl) (by kernel_rfl) d1 (fun ww _ => by kernel_rfl) ?_
    try simp only [Act.put, List.setIfInBounds_toArray, List.set_cons_zero, List.set_cons_succ]
    refine held_do 14 57 (.bool false) (by kernel_rfl) (by kernel_rfl) (by kernel_rfl) (fun _ _ _ h => h) (by kernel_rfl) (by kernel_rfl) d1 (fun ww _ => by kernel_rfl) ?_
    try simp only [Act.put, List.setIfInBounds_toArray, List.set_cons_zero, List.set_cons_succ]
    refine held_do 15 58 (.agg #[.int .i64 n1, .int .i64 x1]) (by kernel_rfl) (by kernel_rfl) (by kernel_rfl) (fun _ _ _ h => h) (by kernel_rfl) (by kernel_rfl) d1 (fun ww h => run_of (op := .load 56 (.tmp 11)) (by kernel_rfl) (fun o ho => load_flt rfl (two_num h XA7.out) ho)) ?_
    try simp only [Act.put, List.setIfInBounds_toArray, List.set_cons_zero, List.set_cons_succ]
    refine held_do 16 59 (.agg #[.int .i64 n2, .int .i64 x2]) (by kernel_rfl) (by kernel_rfl) (by kernel_rfl) (fun _ _ _ h => h) (by kernel_rfl) (by kernel_rfl) d1 (fun ww h => run_of (op := .load 56 (.tmp 12)) (by kernel_rfl) (fun o ho => load_flt rfl (two_num h XB7.out) ho)) ?_
    try simp only [Act.put, List.setIfInBounds_toArray, List.set_cons_zero, List.set_cons_succ]
    refine held_do 18 61 (.agg #[.int .i64 n1, .int .i64 x1]) (by kernel_rfl) (by kernel_rfl) (by kernel_rfl) (fun _ _ _ h => h) (by kernel_rfl) (by kernel_rfl) d1 (fun ww h => run_of (op := .load 56 (.tmp 11)) (by kernel_rfl) (fun o ho => load_flt rfl (two_num h XA7.out) ho)) ?_
    try simp only [Act.put, List.setIfInBounds_toArray, List.set_cons_zero, List.set_cons_succ]
    refine held_do 19 62 (.agg #[.int .i64 n2, .int .i64 x2]) (by kernel_rfl) (by kernel_rfl) (by kernel_rfl) (fun _ _ _ h => h) (by kernel_rfl) (by kernel_rfl) d1 (fun ww h => run_of (op := .load 56 (.tmp 12)) (by kernel_rfl) (fun o ho => load_flt rfl (two_num h XB7.out) ho)) ?_
    try simp only [Act.put, List.setIfInBounds_toArray, List.set_cons_zero, List.set_cons_succ]
    refine held_call 17 60 46 #[.agg #[.int .i64 n1, .int .i64 x1], .agg #[.int .i64 n2, .int .i64 x2]] (by kernel_rfl) (by kernel_rfl) (by kernel_rfl) (fun _ => by kernel_rfl) ((R2.out _ d1).mono ?_)
    rintro _ v2 ⟨rfl, b2⟩
    have d2 := nx d1 b2
    clear b2
    refine ⟨_, rfl, d2, ?_⟩
    try simp only [Act.put, List.setIfInBounds_toArray, List.set_cons_zero, List.set_cons_succ]
    refine held_call 20 63 47 #[.agg #[.int .i64 n1, .int .i64 x1], .agg #[.int .i64 n2, .int .i64 x2]] (by kernel_rfl) (by kernel_rfl) (by kernel_rfl) (fun _ => by kernel_rfl) ((R3.out _ d2).mono ?_)
    rintro _ v3 ⟨rfl, b3⟩
    have d3 := nx d2 b3
    clear b3
    refine ⟨_, rfl, d3, ?_⟩
    try simp only [Act.put, List.setIfInBounds_toArray, List.set_cons_zero, List.set_cons_succ]
    refine held_do 21 64 (.bool false) (by kernel_rfl) (by kernel_rfl) (by kernel_rfl) (fun _ _ _ h => h) (by kernel_rfl) (by kernel_rfl) d3 (by intro ww hSw; clear hSw; go_simp) ?_
    try simp only [Act.put, List.setIfInBounds_toArray, List.set_cons_zero, List.set_cons_succ]
    refine held_do 22 65 (.bool false) (by kernel_rfl) (by kernel_rfl) (by kernel_rfl) (fun _ _ _ h => h) (by kernel_rfl) (by kernel_rfl) d3 (fun ww _ => by kernel_rfl) ?_
    try simp only [Act.put, List.setIfInBounds_toArray, List.set_cons_zero, List.set_cons_succ]
    refine held_do 23 66 (.bool false) (by kernel_rfl) (by kernel_rfl) (by kernel_rfl) (fun _ _ _ h => h) (by kernel_rfl) (by kernel_rfl) d3 (fun ww _ => by kernel_rfl) ?_
    try simp only [Act.put, List.setIfInBounds_toArray, List.set_cons_zero, List.set_cons_succ]
    refine held_do 24 67 (.agg #[.int .i64 m, .int .i64 e]) (by kernel_rfl) (by kernel_rfl) (by kernel_rfl) (fun _ _ _ h => h) (by kernel_rfl) (by kernel_rfl) d3 (fun ww h => run_of (op := .load 56 (.tmp 3)) (by kernel_rfl) (fun o ho => load_flt rfl (two_num h XF7.out) ho)) ?_
    try simp only [Act.put, List.setIfInBounds_toArray, List.set_cons_zero, List.set_cons_succ]
    refine held_do 26 69 (.agg #[.int .i64 m, .int .i64 e]) (by kernel_rfl) (by kernel_rfl) (by kernel_rfl) (fun _ _ _ h => h) (by kernel_rfl) (by kernel_rfl) d3 (fun ww h => run_of (op := .load 56 (.tmp 3)) (by kernel_rfl) (fun o ho => load_flt rfl (two_num h XF7.out) ho)) ?_
    try simp only [Act.put, List.setIfInBounds_toArray, List.set_cons_zero, List.set_cons_succ]
    refine held_call 25 68 48 #[.agg #[.int .i64 m, .int .i64 e]] (by kernel_rfl) (by kernel_rfl) (by kernel_rfl) (fun _ => by kernel_rfl) ((R4.out _ d3).mono ?_)
    rintro _ v4 ⟨rfl, b4⟩
    have d4 := nx d3 b4
    clear b4
    refine ⟨_, rfl, d4, ?_⟩
    try simp only [Act.put, List.setIfInBounds_toArray, List.set_cons_zero, List.set_cons_succ]
    refine held_call 27 70 49 #[.agg #[.int .i64 m, .int .i64 e]] (by kernel_rfl) (by kernel_rfl) (by kernel_rfl) (fun _ => by kernel_rfl) ((R5.out _ d4).mono ?_)
    rintro _ v5 ⟨rfl, b5⟩
    have d5 := nx d4 b5
    clear b5
    refine ⟨_, rfl, d5, ?_⟩
    try simp only [Act.put, List.setIfInBounds_toArray, List.set_cons_zero, List.set_cons_succ]
    refine held_do 28 71 (.bool false) (by kernel_rfl) (by kernel_rfl) (by kernel_rfl) (fun _ _ _ h => h) (by kernel_rfl) (by kernel_rfl) d5 (by intro ww hSw; clear hSw; go_simp) ?_
    try simp only [Act.put, List.setIfInBounds_toArray, List.set_cons_zero, List.set_cons_succ]
    refine held_do 29 72 (.bool false) (by kernel_rfl) (by kernel_rfl) (by kernel_rfl) (fun _ _ _ h => h) (by kernel_rfl) (by kernel_rfl) d5 (fun ww _ => by kernel_rfl) ?_
    try simp only [Act.put, List.setIfInBounds_toArray, List.set_cons_zero, List.set_cons_succ]
    refine held_do 30 73 (.bool false) (by kernel_rfl) (by kernel_rfl) (by kernel_rfl) (fun _ _ _ h => h) (by kernel_rfl) (by kernel_rfl) d5 (fun ww _ => by kernel_rfl) ?_
    try simp only [Act.put, List.setIfInBounds_toArray, List.set_cons_zero, List.set_cons_succ]
    refine held_do 31 74 (.agg #[.int .i64 m, .int .i64 e]) (by kernel_rfl) (by kernel_rfl) (by kernel_rfl) (fun _ _ _ h => h) (by kernel_rfl) (by kernel_rfl) d5 (fun ww h => run_of (op := .load 56 (.tmp 3)) (by kernel_rfl) (fun o ho => load_flt rfl (two_num h XF7.out) ho)) ?_
    try simp only [Act.put, List.setIfInBounds_toArray, List.set_cons_zero, List.set_cons_succ]
    refine held_do 33 76 (.agg #[.int .i64 m, .int .i64 e]) (by kernel_rfl) (by kernel_rfl) (by kernel_rfl) (fun _ _ _ h => h) (by kernel_rfl) (by kernel_rfl) d5 (fun ww h => run_of (op := .load 56 (.tmp 3)) (by kernel_rfl) (fun o ho => load_flt rfl (two_num h XF7.out) ho)) ?_
    try simp only [Act.put, List.setIfInBounds_toArray, List.set_cons_zero, List.set_cons_succ]
    refine held_call 32 75 50 #[.agg #[.int .i64 m, .int .i64 e]] (by kernel_rfl) (by kernel_rfl) (by kernel_rfl) (fun _ => by kernel_rfl) ((R6.out _ d5).mono ?_)
    rintro _ v6 ⟨rfl, b6⟩
    have d6 := nx d5 b6
    clear b6
    refine ⟨_, rfl, d6, ?_⟩
    try simp only [Act.put, List.setIfInBounds_toArray, List.set_cons_zero, List.set_cons_succ]
    refine held_call 34 77 51 #[.agg #[.int .i64 m, .int .i64 e]] (by kernel_rfl) (by kernel_rfl) (by kernel_rfl) (fun _ => by kernel_rfl) ((R7.out _ d6).mono ?_)
    rintro _ v7 ⟨rfl, b7⟩
    have d7 := nx d6 b7
    clear b7
    refine ⟨_, rfl, d7, ?_⟩
    try simp only [Act.put, List.setIfInBounds_toArray, List.set_cons_zero, List.set_cons_succ]
    refine held_do 35 78 (.bool false) (by kernel_rfl) (by kernel_rfl) (by kernel_rfl) (fun _ _ _ h => h) (by kernel_rfl) (by kernel_rfl) d7 (by intro ww hSw; clear hSw; go_simp) ?_
    try simp only [Act.put, List.setIfInBounds_toArray, List.set_cons_zero, List.set_cons_succ]
    refine held_do 36 79 (.bool false) (by kernel_rfl) (by kernel_rfl) (by kernel_rfl) (fun _ _ _ h => h) (by kernel_rfl) (by kernel_rfl) d7 (fun ww _ => by kernel_rfl) ?_
    try simp only [Act.put, List.setIfInBounds_toArray, List.set_cons_zero, List.set_cons_succ]
    refine wpAnyH_done (by kernel_rfl) ?_ _
    obtain ⟨w8, hw8⟩ : ∃ wx, wx = v7 := ⟨_, rfl⟩
    have XF8 : Hid (w8.heap[w1.heap.size]? = some (.cells #[.int .i64 m, .int .i64 e] 56 (0, 0))) := Lib.hid (by rw [hw8]; exact box_below XF7.out d7)
    have XD8 : Hid (w8.heap[w2.heap.size]? = some (.cells #[.int .i64 A, .int .i64 B] 42 (0, 0))) := Lib.hid (by rw [hw8]; exact box_below XD7.out d7)
    have XI8 : Hid (w8.heap[w4.heap.size]? = some (.cells #[.int .i64 G, .int .i64 H] 56 (0, 0))) := Lib.hid (by rw [hw8]; exact box_below XI7.out d7)
    have XJ8 : Hid (w8.heap[w5.heap.size]? = some (.cells #[.int .i64 G, .int .i64 H] 56 (0, 0))) := Lib.hid (by rw [hw8]; exact box_below XJ7.out d7)
    have XA8 : Hid (w8.heap[w6.heap.size]? = some (.cells #[.int .i64 n1, .int .i64 x1] 56 (0, 0))) := Lib.hid (by rw [hw8]; exact box_below XA7.out d7)
    have XB8 : Hid (w8.heap[(w6.heap.size + 1)]? = some (.cells #[.int .i64 n2, .int .i64 x2] 56 (0, 0))) := Lib.hid (by rw [hw8]; exact box_below XB7.out d7)
    have T8 := Lib.hid (show Below w.heap.size w w8 by rw [hw8]; exact nx T7.out d7)
    rw [← hw8]
    clear d7 d6 d5 d4 d3 d2 d1 d0 hw8
    clear R1 R2 R3 R4 R5 R6 R7 P1
    go_upto_region 11 with fail
    go_cut [107] (fun s107 wx => s107 = .bool false ∧ Below w8.heap.size w8 wx)
    case first =>
      have P1 := Lib.hid (fun ww (hb : Below w8.heap.size w8 ww) => LA.out.kept (nx T8.out hb))
      have Q1 := Lib.hid (fun ww (_ : Below w8.heap.size w8 ww) => HOK1.out ww)
      have Q2 := Lib.hid (fun ww (_ : Below w8.heap.size w8 ww) => HOK2.out ww)
      have Q3 := Lib.hid (fun ww (hb : Below w8.heap.size w8 ww) => HIL1.out ww (P1.out ww hb))
      have Q4 := Lib.hid (fun ww (hb : Below w8.heap.size w8 ww) => HIL2.out ww (P1.out ww hb))
      cases Q with
      | true =>
        have hgh := HNW2.out rfl
        have hq0 := fun ww => fltOk_impl G H ww
        rw [hgh] at hq0
        have Q0 := Lib.hid (fun ww (_ : Below w8.heap.size w8 ww) => hq0 ww); clear hq0 hgh
        cases K1 with
        | false =>
          have d0 : Below w8.heap.size w8 w8.drew := (Below.refl _ _).drew
          refine wp_region_held_drew (S := fun ww => Below w8.heap.size w8 ww) (by kernel_rfl) d0 (fun _ => ?_)
          refine held_do 0 80 (.bool true) (by kernel_rfl) (by kernel_rfl) (by kernel_rfl) (fun _ _ _ h => h) (by kernel_rfl) (by kernel_rfl) d0 (fun ww _ => by kernel_rfl) ?_
          try simp only [Act.put, List.setIfInBounds_toArray, List.set_cons_zero, List.set_cons_succ]
          refine held_do 1 81 (.bool true) (by kernel_rfl) (by kernel_rfl) (by kernel_rfl) (fun _ _ _ h => h) (by kernel_rfl) (by kernel_rfl) d0 (fun ww _ => by kernel_rfl) ?_
          try simp only [Act.put, List.setIfInBounds_toArray, List.set_cons_zero, List.set_cons_succ]
          refine held_do 2 82 (.agg #[.int .i64 G, .int .i64 H]) (by kernel_rfl) (by kernel_rfl) (by kernel_rfl) (fun _ _ _ h => h) (by kernel_rfl) (by kernel_rfl) d0 (fun ww h => run_of (op := .load 56 (.tmp 7)) (by kernel_rfl) (fun o ho => load_flt rfl (two_num h XI8.out) ho)) ?_
          try simp only [Act.put, List.setIfInBounds_toArray, List.set_cons_zero, List.set_cons_succ]
          refine held_call 3 83 48 #[.agg #[.int .i64 G, .int .i64 H]] (by kernel_rfl) (by kernel_rfl) (by kernel_rfl) (fun _ => by kernel_rfl) ((Q0.out _ d0).mono ?_)
          rintro _ v1 ⟨rfl, b1⟩
          have d1 := nx d0 b1
          clear b1
          refine ⟨_, rfl, d1, ?_⟩
          try simp only [Act.put, List.setIfInBounds_toArray, List.set_cons_zero, List.set_cons_succ]
          refine held_do 4 84 (.bool false) (by kernel_rfl) (by kernel_rfl) (by kernel_rfl) (fun _ _ _ h => h) (by kernel_rfl) (by kernel_rfl) d1 (fun ww _ => by kernel_rfl) ?_
          try simp only [Act.put, List.setIfInBounds_toArray, List.set_cons_zero, List.set_cons_succ]
          refine held_do 5 85 (.bool false) (by kernel_rfl) (by kernel_rfl) (by kernel_rfl) (fun _ _ _ h => h) (by kernel_rfl) (by kernel_rfl) d1 (fun ww _ => by kernel_rfl) ?_
          try simp only [Act.put, List.setIfInBounds_toArray, List.set_cons_zero, List.set_cons_succ]
          refine held_do 6 86 (.bool false) (by kernel_rfl) (by kernel_rfl) (by kernel_rfl) (fun _ _ _ h => h) (by kernel_rfl) (by kernel_rfl) d1 (fun ww _ => by kernel_rfl) ?_
          try simp only [Act.put, List.setIfInBounds_toArray, List.set_cons_zero, List.set_cons_succ]
          refine held_do 7 87 (.agg #[.int .i64 n1, .int .i64 x1]) (by kernel_rfl) (by kernel_rfl) (by kernel_rfl) (fun _ _ _ h => h) (by kernel_rfl) (by kernel_rfl) d1 (fun ww h => run_of (op := .load 56 (.tmp 11)) (by kernel_rfl) (fun o ho => load_flt rfl (two_num h XA8.out) ho)) ?_
          try simp only [Act.put, List.setIfInBounds_toArray, List.set_cons_zero, List.set_cons_succ]
          refine held_call 8 88 48 #[.agg #[.int .i64 n1, .int .i64 x1]] (by kernel_rfl) (by kernel_rfl) (by kernel_rfl) (fun _ => by kernel_rfl) ((Q1.out _ d1).mono ?_)
          rintro _ v2 ⟨rfl, b2⟩
          have d2 := nx d1 b2
          clear b2
          refine ⟨_, rfl, d2, ?_⟩
          try simp only [Act.put, List.setIfInBounds_toArray, List.set_cons_zero, List.set_cons_succ]
          refine held_do 9 89 (.bool false) (by kernel_rfl) (by kernel_rfl) (by kernel_rfl) (fun _ _ _ h => h) (by kernel_rfl) (by kernel_rfl) d2 (fun ww _ => by kernel_rfl) ?_
          try simp only [Act.put, List.setIfInBounds_toArray, List.set_cons_zero, List.set_cons_succ]
          refine held_skip 10 90 (by kernel_rfl) (by kernel_rfl) (by kernel_rfl) (fun _ _ _ h => h) (by kernel_rfl) (by kernel_rfl) d2 ?_
          try simp only [Act.put, List.setIfInBounds_toArray, List.set_cons_zero, List.set_cons_succ]
          refine held_skip 11 91 (by kernel_rfl) (by kernel_rfl) (by kernel_rfl) (fun _ _ _ h => h) (by kernel_rfl) (by kernel_rfl) d2 ?_
          try simp only [Act.put, List.setIfInBounds_toArray, List.set_cons_zero, List.set_cons_succ]
          refine held_do 12 92 (.bool false) (by kernel_rfl) (by kernel_rfl) (by kernel_rfl) (fun _ _ _ h => h) (by kernel_rfl) (by kernel_rfl) d2 (fun ww _ => by kernel_rfl) ?_
          try simp only [Act.put, List.setIfInBounds_toArray, List.set_cons_zero, List.set_cons_succ]
          refine held_do 13 93 (.bool false) (by kernel_rfl) (by kernel_rfl) (by kernel_rfl) (fun _ _ _ h => h) (by kernel_rfl) (by kernel_rfl) d2 (fun ww _ => by kernel_rfl) ?_
          try simp only [Act.put, List.setIfInBounds_toArray, List.set_cons_zero, List.set_cons_succ]
          refine held_skip 14 94 (by kernel_rfl) (by kernel_rfl) (by kernel_rfl) (fun _ _ _ h => h) (by kernel_rfl) (by kernel_rfl) d2 ?_
          try simp only [Act.put, List.setIfInBounds_toArray, List.set_cons_zero, List.set_cons_succ]
          refine held_skip 15 95 (by kernel_rfl) (by kernel_rfl) (by kernel_rfl) (fun _ _ _ h => h) (by kernel_rfl) (by kernel_rfl) d2 ?_
          try simp only [Act.put, List.setIfInBounds_toArray, List.set_cons_zero, List.set_cons_succ]
          refine held_skip 16 96 (by kernel_rfl) (by kernel_rfl) (by kernel_rfl) (fun _ _ _ h => h) (by kernel_rfl) (by kernel_rfl) d2 ?_
          try simp only [Act.put, List.setIfInBounds_toArray, List.set_cons_zero, List.set_cons_succ]
          refine held_skip 17 97 (by kernel_rfl) (by kernel_rfl) (by kernel_rfl) (fun _ _ _ h => h) (by kernel_rfl) (by kernel_rfl) d2 ?_
          try simp only [Act.put, List.setIfInBounds_toArray, List.set_cons_zero, List.set_cons_succ]
          refine held_skip 18 98 (by kernel_rfl) (by kernel_rfl) (by kernel_rfl) (fun _ _ _ h => h) (by kernel_rfl) (by kernel_rfl) d2 ?_
          try simp only [Act.put, List.setIfInBounds_toArray, List.set_cons_zero, List.set_cons_succ]
          refine held_skip 19 99 (by kernel_rfl) (by kernel_rfl) (by kernel_rfl) (fun _ _ _ h => h) (by kernel_rfl) (by kernel_rfl) d2 ?_
          try simp only [Act.put, List.setIfInBounds_toArray, List.set_cons_zero, List.set_cons_succ]
          refine held_skip 20 100 (by kernel_rfl) (by kernel_rfl) (by kernel_rfl) (fun _ _ _ h => h) (by kernel_rfl) (by kernel_rfl) d2 ?_
          try simp only [Act.put, List.setIfInBounds_toArray, List.set_cons_zero, List.set_cons_succ]
          refine held_skip 21 101 (by kernel_rfl) (by kernel_rfl) (by kernel_rfl) (fun _ _ _ h => h) (by kernel_rfl) (by kernel_rfl) d2 ?_
          try simp only [Act.put, List.setIfInBounds_toArray, List.set_cons_zero, List.set_cons_succ]
          refine held_skip 22 102 (by kernel_rfl) (by kernel_rfl) (by kernel_rfl) (fun _ _ _ h => h) (by kernel_rfl) (by kernel_rfl) d2 ?_
          try simp only [Act.put, List.setIfInBounds_toArray, List.set_cons_zero, List.set_cons_succ]
          refine held_skip 23 103 (by kernel_rfl) (by kernel_rfl) (by kernel_rfl) (fun _ _ _ h => h) (by kernel_rfl) (by kernel_rfl) d2 ?_
          try simp only [Act.put, List.setIfInBounds_toArray, List.set_cons_zero, List.set_cons_succ]
          refine held_skip 24 104 (by kernel_rfl) (by kernel_rfl) (by kernel_rfl) (fun _ _ _ h => h) (by kernel_rfl) (by kernel_rfl) d2 ?_
          try simp only [Act.put, List.setIfInBounds_toArray, List.set_cons_zero, List.set_cons_succ]
          refine held_skip 25 105 (by kernel_rfl) (by kernel_rfl) (by kernel_rfl) (fun _ _ _ h => h) (by kernel_rfl) (by kernel_rfl) d2 ?_
          try simp only [Act.put, List.setIfInBounds_toArray, List.set_cons_zero, List.set_cons_succ]
          refine held_do 26 106 (.bool false) (by kernel_rfl) (by kernel_rfl) (by kernel_rfl) (fun _ _ _ h => h) (by kernel_rfl) (by kernel_rfl) d2 (fun ww _ => by kernel_rfl) ?_
          try simp only [Act.put, List.setIfInBounds_toArray, List.set_cons_zero, List.set_cons_succ]
          refine held_do 27 107 (.bool false) (by kernel_rfl) (by kernel_rfl) (by kernel_rfl) (fun _ _ _ h => h) (by kernel_rfl) (by kernel_rfl) d2 (fun ww _ => by kernel_rfl) ?_
          try simp only [Act.put, List.setIfInBounds_toArray, List.set_cons_zero, List.set_cons_succ]
          refine wpAnyH_done (by kernel_rfl) ?_ _
          obtain ⟨w9, hw9⟩ : ∃ wx, wx = v2 := ⟨_, rfl⟩
          have XF9 : Hid (w9.heap[w1.heap.size]? = some (.cells #[.int .i64 m, .int .i64 e] 56 (0, 0))) := Lib.hid (by rw [hw9]; exact box_below XF8.out d2)
          have XD9 : Hid (w9.heap[w2.heap.size]? = some (.cells #[.int .i64 A, .int .i64 B] 42 (0, 0))) := Lib.hid (by rw [hw9]; exact box_below XD8.out d2)
          have XI9 : Hid (w9.heap[w4.heap.size]? = some (.cells #[.int .i64 G, .int .i64 H] 56 (0, 0))) := Lib.hid (by rw [hw9]; exact box_below XI8.out d2)
          have XJ9 : Hid (w9.heap[w5.heap.size]? = some (.cells #[.int .i64 G, .int .i64 H] 56 (0, 0))) := Lib.hid (by rw [hw9]; exact box_below XJ8.out d2)
          have XA9 : Hid (w9.heap[w6.heap.size]? = some (.cells #[.int .i64 n1, .int .i64 x1] 56 (0, 0))) := Lib.hid (by rw [hw9]; exact box_below XA8.out d2)
          have XB9 : Hid (w9.heap[(w6.heap.size + 1)]? = some (.cells #[.int .i64 n2, .int .i64 x2] 56 (0, 0))) := Lib.hid (by rw [hw9]; exact box_below XB8.out d2)
          have T9 := Lib.hid (show Below w.heap.size w w9 by rw [hw9]; exact nx T8.out d2)
          have Z9 := Lib.hid (show Below w8.heap.size w8 w9 by rw [hw9]; exact d2)
          rw [← hw9]
          clear d2 d1 d0 hw9
          go_wp2_with fail
          go_meet
          case rel => exact ⟨rfl, Z9.out⟩
        | true =>
          cases K2 with
          | false =>
            have d0 : Below w8.heap.size w8 w8.drew := (Below.refl _ _).drew
            refine wp_region_held_drew (S := fun ww => Below w8.heap.size w8 ww) (by kernel_rfl) d0 (fun _ => ?_)
            refine held_do 0 80 (.bool true) (by kernel_rfl) (by kernel_rfl) (by kernel_rfl) (fun _ _ _ h => h) (by kernel_rfl) (by kernel_rfl) d0 (fun ww _ => by kernel_rfl) ?_
            try simp only [Act.put, List.setIfInBounds_toArray, List.set_cons_zero, List.set_cons_succ]
            refine held_do 1 81 (.bool true) (by kernel_rfl) (by kernel_rfl) (by kernel_rfl) (fun _ _ _ h => h) (by kernel_rfl) (by kernel_rfl) d0 (fun ww _ => by kernel_rfl) ?_
            try simp only [Act.put, List.setIfInBounds_toArray, List.set_cons_zero, List.set_cons_succ]
            refine held_do 2 82 (.agg #[.int .i64 G, .int .i64 H]) (by kernel_rfl) (by kernel_rfl) (by kernel_rfl) (fun _ _ _ h => h) (by kernel_rfl) (by kernel_rfl) d0 (fun ww h => run_of (op := .load 56 (.tmp 7)) (by kernel_rfl) (fun o ho => load_flt rfl (two_num h XI8.out) ho)) ?_
            try simp only [Act.put, List.setIfInBounds_toArray, List.set_cons_zero, List.set_cons_succ]
            refine held_call 3 83 48 #[.agg #[.int .i64 G, .int .i64 H]] (by kernel_rfl) (by kernel_rfl) (by kernel_rfl) (fun _ => by kernel_rfl) ((Q0.out _ d0).mono ?_)
            rintro _ v1 ⟨rfl, b1⟩
            have d1 := nx d0 b1
            clear b1
            refine ⟨_, rfl, d1, ?_⟩
            try simp only [Act.put, List.setIfInBounds_toArray, List.set_cons_zero, List.set_cons_succ]
            refine held_do 4 84 (.bool false) (by kernel_rfl) (by kernel_rfl) (by kernel_rfl) (fun _ _ _ h => h) (by kernel_rfl) (by kernel_rfl) d1 (fun ww _ => by kernel_rfl) ?_
            try simp only [Act.put, List.setIfInBounds_toArray, List.set_cons_zero, List.set_cons_succ]
            refine held_do 5 85 (.bool false) (by kernel_rfl) (by kernel_rfl) (by kernel_rfl) (fun _ _ _ h => h) (by kernel_rfl) (by kernel_rfl) d1 (fun ww _ => by kernel_rfl) ?_
            try simp only [Act.put, List.setIfInBounds_toArray, List.set_cons_zero, List.set_cons_succ]
            refine held_do 6 86 (.bool false) (by kernel_rfl) (by kernel_rfl) (by kernel_rfl) (fun _ _ _ h => h) (by kernel_rfl) (by kernel_rfl) d1 (fun ww _ => by kernel_rfl) ?_
            try simp only [Act.put, List.setIfInBounds_toArray, List.set_cons_zero, List.set_cons_succ]
            refine held_do 7 87 (.agg #[.int .i64 n1, .int .i64 x1]) (by kernel_rfl) (by kernel_rfl) (by kernel_rfl) (fun _ _ _ h => h) (by kernel_rfl) (by kernel_rfl) d1 (fun ww h => run_of (op := .load 56 (.tmp 11)) (by kernel_rfl) (fun o ho => load_flt rfl (two_num h XA8.out) ho)) ?_
            try simp only [Act.put, List.setIfInBounds_toArray, List.set_cons_zero, List.set_cons_succ]
            refine held_call 8 88 48 #[.agg #[.int .i64 n1, .int .i64 x1]] (by kernel_rfl) (by kernel_rfl) (by kernel_rfl) (fun _ => by kernel_rfl) ((Q1.out _ d1).mono ?_)
            rintro _ v2 ⟨rfl, b2⟩
            have d2 := nx d1 b2
            clear b2
            refine ⟨_, rfl, d2, ?_⟩
            try simp only [Act.put, List.setIfInBounds_toArray, List.set_cons_zero, List.set_cons_succ]
            refine held_do 9 89 (.bool true) (by kernel_rfl) (by kernel_rfl) (by kernel_rfl) (fun _ _ _ h => h) (by kernel_rfl) (by kernel_rfl) d2 (fun ww _ => by kernel_rfl) ?_
            try simp only [Act.put, List.setIfInBounds_toArray, List.set_cons_zero, List.set_cons_succ]
            refine held_do 10 90 (.agg #[.int .i64 n2, .int .i64 x2]) (by kernel_rfl) (by kernel_rfl) (by kernel_rfl) (fun _ _ _ h => h) (by kernel_rfl) (by kernel_rfl) d2 (fun ww h => run_of (op := .load 56 (.tmp 12)) (by kernel_rfl) (fun o ho => load_flt rfl (two_num h XB8.out) ho)) ?_
            try simp only [Act.put, List.setIfInBounds_toArray, List.set_cons_zero, List.set_cons_succ]
            refine held_call 11 91 48 #[.agg #[.int .i64 n2, .int .i64 x2]] (by kernel_rfl) (by kernel_rfl) (by kernel_rfl) (fun _ => by kernel_rfl) ((Q2.out _ d2).mono ?_)
            rintro _ v3 ⟨rfl, b3⟩
            have d3 := nx d2 b3
            clear b3
            refine ⟨_, rfl, d3, ?_⟩
            try simp only [Act.put, List.setIfInBounds_toArray, List.set_cons_zero, List.set_cons_succ]
            refine held_do 12 92 (.bool false) (by kernel_rfl) (by kernel_rfl) (by kernel_rfl) (fun _ _ _ h => h) (by kernel_rfl) (by kernel_rfl) d3 (fun ww _ => by kernel_rfl) ?_
            try simp only [Act.put, List.setIfInBounds_toArray, List.set_cons_zero, List.set_cons_succ]
            refine held_do 13 93 (.bool false) (by kernel_rfl) (by kernel_rfl) (by kernel_rfl) (fun _ _ _ h => h) (by kernel_rfl) (by kernel_rfl) d3 (fun ww _ => by kernel_rfl) ?_
            try simp only [Act.put, List.setIfInBounds_toArray, List.set_cons_zero, List.set_cons_succ]
            refine held_skip 14 94 (by kernel_rfl) (by kernel_rfl) (by kernel_rfl) (fun _ _ _ h => h) (by kernel_rfl) (by kernel_rfl) d3 ?_
            try simp only [Act.put, List.setIfInBounds_toArray, List.set_cons_zero, List.set_cons_succ]
            refine held_skip 15 95 (by kernel_rfl) (by kernel_rfl) (by kernel_rfl) (fun _ _ _ h => h) (by kernel_rfl) (by kernel_rfl) d3 ?_
            try simp only [Act.put, List.setIfInBounds_toArray, List.set_cons_zero, List.set_cons_succ]
            refine held_skip 16 96 (by kernel_rfl) (by kernel_rfl) (by kernel_rfl) (fun _ _ _ h => h) (by kernel_rfl) (by kernel_rfl) d3 ?_
            try simp only [Act.put, List.setIfInBounds_toArray, List.set_cons_zero, List.set_cons_succ]
            refine held_skip 17 97 (by kernel_rfl) (by kernel_rfl) (by kernel_rfl) (fun _ _ _ h => h) (by kernel_rfl) (by kernel_rfl) d3 ?_
            try simp only [Act.put, List.setIfInBounds_toArray, List.set_cons_zero, List.set_cons_succ]
            refine held_skip 18 98 (by kernel_rfl) (by kernel_rfl) (by kernel_rfl) (fun _ _ _ h => h) (by kernel_rfl) (by kernel_rfl) d3 ?_
            try simp only [Act.put, List.setIfInBounds_toArray, List.set_cons_zero, List.set_cons_succ]
            refine held_skip 19 99 (by kernel_rfl) (by kernel_rfl) (by kernel_rfl) (fun _ _ _ h => h) (by kernel_rfl) (by kernel_rfl) d3 ?_
            try simp only [Act.put, List.setIfInBounds_toArray, List.set_cons_zero, List.set_cons_succ]
            refine held_skip 20 100 (by kernel_rfl) (by kernel_rfl) (by kernel_rfl) (fun _ _ _ h => h) (by kernel_rfl) (by kernel_rfl) d3 ?_
            try simp only [Act.put, List.setIfInBounds_toArray, List.set_cons_zero, List.set_cons_succ]
            refine held_skip 21 101 (by kernel_rfl) (by kernel_rfl) (by kernel_rfl) (fun _ _ _ h => h) (by kernel_rfl) (by kernel_rfl) d3 ?_
            try simp only [Act.put, List.setIfInBounds_toArray, List.set_cons_zero, List.set_cons_succ]
            refine held_skip 22 102 (by kernel_rfl) (by kernel_rfl) (by kernel_rfl) (fun _ _ _ h => h) (by kernel_rfl) (by kernel_rfl) d3 ?_
            try simp only [Act.put, List.setIfInBounds_toArray, List.set_cons_zero, List.set_cons_succ]
            refine held_skip 23 103 (by kernel_rfl) (by kernel_rfl) (by kernel_rfl) (fun _ _ _ h => h) (by kernel_rfl) (by kernel_rfl) d3 ?_
            try simp only [Act.put, List.setIfInBounds_toArray, List.set_cons_zero, List.set_cons_succ]
            refine held_skip 24 104 (by kernel_rfl) (by kernel_rfl) (by kernel_rfl) (fun _ _ _ h => h) (by kernel_rfl) (by kernel_rfl) d3 ?_
            try simp only [Act.put, List.setIfInBounds_toArray, List.set_cons_zero, List.set_cons_succ]
            refine held_skip 25 105 (by kernel_rfl) (by kernel_rfl) (by kernel_rfl) (fun _ _ _ h => h) (by kernel_rfl) (by kernel_rfl) d3 ?_
            try simp only [Act.put, List.setIfInBounds_toArray, List.set_cons_zero, List.set_cons_succ]
            refine held_do 26 106 (.bool false) (by kernel_rfl) (by kernel_rfl) (by kernel_rfl) (fun _ _ _ h => h) (by kernel_rfl) (by kernel_rfl) d3 (fun ww _ => by kernel_rfl) ?_
            try simp only [Act.put, List.setIfInBounds_toArray, List.set_cons_zero, List.set_cons_succ]
            refine held_do 27 107 (.bool false) (by kernel_rfl) (by kernel_rfl) (by kernel_rfl) (fun _ _ _ h => h) (by kernel_rfl) (by kernel_rfl) d3 (fun ww _ => by kernel_rfl) ?_
            try simp only [Act.put, List.setIfInBounds_toArray, List.set_cons_zero, List.set_cons_succ]
            refine wpAnyH_done (by kernel_rfl) ?_ _
            obtain ⟨w9, hw9⟩ : ∃ wx, wx = v3 := ⟨_, rfl⟩
            have XF9 : Hid (w9.heap[w1.heap.size]? = some (.cells #[.int .i64 m, .int .i64 e] 56 (0, 0))) := Lib.hid (by rw [hw9]; exact box_below XF8.out d3)
            have XD9 : Hid (w9.heap[w2.heap.size]? = some (.cells #[.int .i64 A, .int .i64 B] 42 (0, 0))) := Lib.hid (by rw [hw9]; exact box_below XD8.out d3)
            have XI9 : Hid (w9.heap[w4.heap.size]? = some (.cells #[.int .i64 G, .int .i64 H] 56 (0, 0))) := Lib.hid (by rw [hw9]; exact box_below XI8.out d3)
            have XJ9 : Hid (w9.heap[w5.heap.size]? = some (.cells #[.int .i64 G, .int .i64 H] 56 (0, 0))) := Lib.hid (by rw [hw9]; exact box_below XJ8.out d3)
            have XA9 : Hid (w9.heap[w6.heap.size]? = some (.cells #[.int .i64 n1, .int .i64 x1] 56 (0, 0))) := Lib.hid (by rw [hw9]; exact box_below XA8.out d3)
            have XB9 : Hid (w9.heap[(w6.heap.size + 1)]? = some (.cells #[.int .i64 n2, .int .i64 x2] 56 (0, 0))) := Lib.hid (by rw [hw9]; exact box_below XB8.out d3)
            have T9 := Lib.hid (show Below w.heap.size w w9 by rw [hw9]; exact nx T8.out d3)
            have Z9 := Lib.hid (show Below w8.heap.size w8 w9 by rw [hw9]; exact d3)
            rw [← hw9]
            clear d3 d2 d1 d0 hw9
            go_wp2_with fail
            go_meet
            case rel => exact ⟨rfl, Z9.out⟩
          | true =>
            have hon := HONE.out rfl rfl
            cases L1 with
            | true =>
              have hne : ¬ (n1 = n2 ∧ x1 = x2) := by intro h; rw [decide_eq_true h] at hon; simp at hon
              clear hon
              by_cases e1 : n1 = n2
              · subst e1
                have e2 : (x1 == x2) = false := by have : ¬ x1 = x2 := fun h => hne ⟨rfl, h⟩
                                                   simpa using this
                clear hne
                have d0 : Below w8.heap.size w8 w8.drew := (Below.refl _ _).drew
                refine wp_region_held_drew (S := fun ww => Below w8.heap.size w8 ww) (by kernel_rfl) d0 (fun _ => ?_)
                refine held_do 0 80 (.bool true) (by kernel_rfl) (by kernel_rfl) (by kernel_rfl) (fun _ _ _ h => h) (by kernel_rfl) (by kernel_rfl) d0 (fun ww _ => by kernel_rfl) ?_
                try simp only [Act.put, List.setIfInBounds_toArray, List.set_cons_zero, List.set_cons_succ]
                refine held_do 1 81 (.bool true) (by kernel_rfl) (by kernel_rfl) (by kernel_rfl) (fun _ _ _ h => h) (by kernel_rfl) (by kernel_rfl) d0 (fun ww _ => by kernel_rfl) ?_
                try simp only [Act.put, List.setIfInBounds_toArray, List.set_cons_zero, List.set_cons_succ]
                refine held_do 2 82 (.agg #[.int .i64 G, .int .i64 H]) (by kernel_rfl) (by kernel_rfl) (by kernel_rfl) (fun _ _ _ h => h) (by kernel_rfl) (by kernel_rfl) d0 (fun ww h => run_of (op := .load 56 (.tmp 7)) (by kernel_rfl) (fun o ho => load_flt rfl (two_num h XI8.out) ho)) ?_
                try simp only [Act.put, List.setIfInBounds_toArray, List.set_cons_zero, List.set_cons_succ]
                refine held_call 3 83 48 #[.agg #[.int .i64 G, .int .i64 H]] (by kernel_rfl) (by kernel_rfl) (by kernel_rfl) (fun _ => by kernel_rfl) ((Q0.out _ d0).mono ?_)
                rintro _ v1 ⟨rfl, b1⟩
                have d1 := nx d0 b1
                clear b1
                refine ⟨_, rfl, d1, ?_⟩
                try simp only [Act.put, List.setIfInBounds_toArray, List.set_cons_zero, List.set_cons_succ]
                refine held_do 4 84 (.bool false) (by kernel_rfl) (by kernel_rfl) (by kernel_rfl) (fun _ _ _ h => h) (by kernel_rfl) (by kernel_rfl) d1 (fun ww _ => by kernel_rfl) ?_
                try simp only [Act.put, List.setIfInBounds_toArray, List.set_cons_zero, List.set_cons_succ]
                refine held_do 5 85 (.bool false) (by kernel_rfl) (by kernel_rfl) (by kernel_rfl) (fun _ _ _ h => h) (by kernel_rfl) (by kernel_rfl) d1 (fun ww _ => by kernel_rfl) ?_
                try simp only [Act.put, List.setIfInBounds_toArray, List.set_cons_zero, List.set_cons_succ]
                refine held_do 6 86 (.bool false) (by kernel_rfl) (by kernel_rfl) (by kernel_rfl) (fun _ _ _ h => h) (by kernel_rfl) (by kernel_rfl) d1 (fun ww _ => by kernel_rfl) ?_
                try simp only [Act.put, List.setIfInBounds_toArray, List.set_cons_zero, List.set_cons_succ]
                refine held_do 7 87 (.agg #[.int .i64 n1, .int .i64 x1]) (by kernel_rfl) (by kernel_rfl) (by kernel_rfl) (fun _ _ _ h => h) (by kernel_rfl) (by kernel_rfl) d1 (fun ww h => run_of (op := .load 56 (.tmp 11)) (by kernel_rfl) (fun o ho => load_flt rfl (two_num h XA8.out) ho)) ?_
                try simp only [Act.put, List.setIfInBounds_toArray, List.set_cons_zero, List.set_cons_succ]
                refine held_call 8 88 48 #[.agg #[.int .i64 n1, .int .i64 x1]] (by kernel_rfl) (by kernel_rfl) (by kernel_rfl) (fun _ => by kernel_rfl) ((Q1.out _ d1).mono ?_)
                rintro _ v2 ⟨rfl, b2⟩
                have d2 := nx d1 b2
                clear b2
                refine ⟨_, rfl, d2, ?_⟩
                try simp only [Act.put, List.setIfInBounds_toArray, List.set_cons_zero, List.set_cons_succ]
                refine held_do 9 89 (.bool true) (by kernel_rfl) (by kernel_rfl) (by kernel_rfl) (fun _ _ _ h => h) (by kernel_rfl) (by kernel_rfl) d2 (fun ww _ => by kernel_rfl) ?_
                try simp only [Act.put, List.setIfInBounds_toArray, List.set_cons_zero, List.set_cons_succ]
                refine held_do 10 90 (.agg #[.int .i64 n1, .int .i64 x2]) (by kernel_rfl) (by kernel_rfl) (by kernel_rfl) (fun _ _ _ h => h) (by kernel_rfl) (by kernel_rfl) d2 (fun ww h => run_of (op := .load 56 (.tmp 12)) (by kernel_rfl) (fun o ho => load_flt rfl (two_num h XB8.out) ho)) ?_
                try simp only [Act.put, List.setIfInBounds_toArray, List.set_cons_zero, List.set_cons_succ]
                refine held_call 11 91 48 #[.agg #[.int .i64 n1, .int .i64 x2]] (by kernel_rfl) (by kernel_rfl) (by kernel_rfl) (fun _ => by kernel_rfl) ((Q2.out _ d2).mono ?_)
                rintro _ v3 ⟨rfl, b3⟩
                have d3 := nx d2 b3
                clear b3
                refine ⟨_, rfl, d3, ?_⟩
                try simp only [Act.put, List.setIfInBounds_toArray, List.set_cons_zero, List.set_cons_succ]
                refine held_do 12 92 (.bool true) (by kernel_rfl) (by kernel_rfl) (by kernel_rfl) (fun _ _ _ h => h) (by kernel_rfl) (by kernel_rfl) d3 (fun ww _ => by kernel_rfl) ?_
                try simp only [Act.put, List.setIfInBounds_toArray, List.set_cons_zero, List.set_cons_succ]
                refine held_do 13 93 (.bool true) (by kernel_rfl) (by kernel_rfl) (by kernel_rfl) (fun _ _ _ h => h) (by kernel_rfl) (by kernel_rfl) d3 (fun ww _ => by kernel_rfl) ?_
                try simp only [Act.put, List.setIfInBounds_toArray, List.set_cons_zero, List.set_cons_succ]
                refine held_do 14 94 (.agg #[.int .i64 n1, .int .i64 x1]) (by kernel_rfl) (by kernel_rfl) (by kernel_rfl) (fun _ _ _ h => h) (by kernel_rfl) (by kernel_rfl) d3 (fun ww h => run_of (op := .load 56 (.tmp 11)) (by kernel_rfl) (fun o ho => load_flt rfl (two_num h XA8.out) ho)) ?_
                try simp only [Act.put, List.setIfInBounds_toArray, List.set_cons_zero, List.set_cons_succ]
                refine held_do 15 95 (.agg #[.int .i64 n1, .int .i64 x2]) (by kernel_rfl) (by kernel_rfl) (by kernel_rfl) (fun _ _ _ h => h) (by kernel_rfl) (by kernel_rfl) d3 (fun ww h => run_of (op := .load 56 (.tmp 12)) (by kernel_rfl) (fun o ho => load_flt rfl (two_num h XB8.out) ho)) ?_
                try simp only [Act.put, List.setIfInBounds_toArray, List.set_cons_zero, List.set_cons_succ]
                refine held_do 22 102 (.agg #[.int .i64 n1, .int .i64 x1]) (by kernel_rfl) (by kernel_rfl) (by kernel_rfl) (fun _ _ _ h => h) (by kernel_rfl) (by kernel_rfl) d3 (fun ww h => run_of (op := .load 56 (.tmp 11)) (by kernel_rfl) (fun o ho => load_flt rfl (two_num h XA8.out) ho)) ?_
                try simp only [Act.put, List.setIfInBounds_toArray, List.set_cons_zero, List.set_cons_succ]
                refine held_do 23 103 (.agg #[.int .i64 n1, .int .i64 x2]) (by kernel_rfl) (by kernel_rfl) (by kernel_rfl) (fun _ _ _ h => h) (by kernel_rfl) (by kernel_rfl) d3 (fun ww h => run_of (op := .load 56 (.tmp 12)) (by kernel_rfl) (fun o ho => load_flt rfl (two_num h XB8.out) ho)) ?_
                try simp only [Act.put, List.setIfInBounds_toArray, List.set_cons_zero, List.set_cons_succ]
                refine held_do 24 104 (.bool false) (by kernel_rfl) (by kernel_rfl) (by kernel_rfl) (fun _ _ _ h => h) (by kernel_rfl) (by kernel_rfl) d3 (by intro ww hSw; clear hSw; go_simp) ?_
                try simp only [Act.put, List.setIfInBounds_toArray, List.set_cons_zero, List.set_cons_succ]
                refine held_call 16 96 46 #[.agg #[.int .i64 n1, .int .i64 x1], .agg #[.int .i64 n1, .int .i64 x2]] (by kernel_rfl) (by kernel_rfl) (by kernel_rfl) (fun _ => by kernel_rfl) ((Q3.out _ d3).mono ?_)
                rintro _ v4 ⟨rfl, b4⟩
                have d4 := nx d3 b4
                clear b4
                refine ⟨_, rfl, d4, ?_⟩
                try simp only [Act.put, List.setIfInBounds_toArray, List.set_cons_zero, List.set_cons_succ]
                refine held_do 17 97 (.bool true) (by kernel_rfl) (by kernel_rfl) (by kernel_rfl) (fun _ _ _ h => h) (by kernel_rfl) (by kernel_rfl) d4 (fun ww _ => by kernel_rfl) ?_
                try simp only [Act.put, List.setIfInBounds_toArray, List.set_cons_zero, List.set_cons_succ]
                refine held_skip 18 98 (by kernel_rfl) (by kernel_rfl) (by kernel_rfl) (fun _ _ _ h => h) (by kernel_rfl) (by kernel_rfl) d4 ?_
                try simp only [Act.put, List.setIfInBounds_toArray, List.set_cons_zero, List.set_cons_succ]
                refine held_skip 19 99 (by kernel_rfl) (by kernel_rfl) (by kernel_rfl) (fun _ _ _ h => h) (by kernel_rfl) (by kernel_rfl) d4 ?_
                try simp only [Act.put, List.setIfInBounds_toArray, List.set_cons_zero, List.set_cons_succ]
                refine held_skip 20 100 (by kernel_rfl) (by kernel_rfl) (by kernel_rfl) (fun _ _ _ h => h) (by kernel_rfl) (by kernel_rfl) d4 ?_
                try simp only [Act.put, List.setIfInBounds_toArray, List.set_cons_zero, List.set_cons_succ]
                refine held_do 21 101 (.bool true) (by kernel_rfl) (by kernel_rfl) (by kernel_rfl) (fun _ _ _ h => h) (by kernel_rfl) (by kernel_rfl) d4 (fun ww _ => by kernel_rfl) ?_
                try simp only [Act.put, List.setIfInBounds_toArray, List.set_cons_zero, List.set_cons_succ]
                refine held_do 25 105 (.bool false) (by kernel_rfl) (by kernel_rfl) (by kernel_rfl) (fun _ _ _ h => h) (by kernel_rfl) (by kernel_rfl) d4 (fun ww _ => by kernel_rfl) ?_
                try simp only [Act.put, List.setIfInBounds_toArray, List.set_cons_zero, List.set_cons_succ]
                refine held_do 26 106 (.bool false) (by kernel_rfl) (by kernel_rfl) (by kernel_rfl) (fun _ _ _ h => h) (by kernel_rfl) (by kernel_rfl) d4 (fun ww _ => by kernel_rfl) ?_
                try simp only [Act.put, List.setIfInBounds_toArray, List.set_cons_zero, List.set_cons_succ]
                refine held_do 27 107 (.bool false) (by kernel_rfl) (by kernel_rfl) (by kernel_rfl) (fun _ _ _ h => h) (by kernel_rfl) (by kernel_rfl) d4 (fun ww _ => by kernel_rfl) ?_
                try simp only [Act.put, List.setIfInBounds_toArray, List.set_cons_zero, List.set_cons_succ]
                refine wpAnyH_done (by kernel_rfl) ?_ _
                obtain ⟨w9, hw9⟩ : ∃ wx, wx = v4 := ⟨_, rfl⟩
                have XF9 : Hid (w9.heap[w1.heap.size]? = some (.cells #[.int .i64 m, .int .i64 e] 56 (0, 0))) := Lib.hid (by rw [hw9]; exact box_below XF8.out d4)
                have XD9 : Hid (w9.heap[w2.heap.size]? = some (.cells #[.int .i64 A, .int .i64 B] 42 (0, 0))) := Lib.hid (by rw [hw9]; exact box_below XD8.out d4)
                have XI9 : Hid (w9.heap[w4.heap.size]? = some (.cells #[.int .i64 G, .int .i64 H] 56 (0, 0))) := Lib.hid (by rw [hw9]; exact box_below XI8.out d4)
                have XJ9 : Hid (w9.heap[w5.heap.size]? = some (.cells #[.int .i64 G, .int .i64 H] 56 (0, 0))) := Lib.hid (by rw [hw9]; exact box_below XJ8.out d4)
                have XA9 : Hid (w9.heap[w6.heap.size]? = some (.cells #[.int .i64 n1, .int .i64 x1] 56 (0, 0))) := Lib.hid (by rw [hw9]; exact box_below XA8.out d4)
                have XB9 : Hid (w9.heap[(w6.heap.size + 1)]? = some (.cells #[.int .i64 n1, .int .i64 x2] 56 (0, 0))) := Lib.hid (by rw [hw9]; exact box_below XB8.out d4)
                have T9 := Lib.hid (show Below w.heap.size w w9 by rw [hw9]; exact nx T8.out d4)
                have Z9 := Lib.hid (show Below w8.heap.size w8 w9 by rw [hw9]; exact d4)
                rw [← hw9]
                clear d4 d3 d2 d1 d0 hw9
                go_wp2_with fail
                go_meet
                case rel => exact ⟨rfl, Z9.out⟩
              · have e2 : (n1 == n2) = false := by simpa using e1
                clear hne e1
                have d0 : Below w8.heap.size w8 w8.drew := (Below.refl _ _).drew
                refine wp_region_held_drew (S := fun ww => Below w8.heap.size w8 ww) (by kernel_rfl) d0 (fun _ => ?_)
                refine held_do 0 80 (.bool true) (by kernel_rfl) (by kernel_rfl) (by kernel_rfl) (fun _ _ _ h => h) (by kernel_rfl) (by kernel_rfl) d0 (fun ww _ => by kernel_rfl) ?_
                try simp only [Act.put, List.setIfInBounds_toArray, List.set_cons_zero, List.set_cons_succ]
                refine held_do 1 81 (.bool true) (by kernel_rfl) (by kernel_rfl) (by kernel_rfl) (fun _ _ _ h => h) (by kernel_rfl) (by kernel_rfl) d0 (fun ww _ => by kernel_rfl) ?_
                try simp only [Act.put, List.setIfInBounds_toArray, List.set_cons_zero, List.set_cons_succ]
                refine held_do 2 82 (.agg #[.int .i64 G, .int .i64 H]) (by kernel_rfl) (by kernel_rfl) (by kernel_rfl) (fun _ _ _ h => h) (by kernel_rfl) (by kernel_rfl) d0 (fun ww h => run_of (op := .load 56 (.tmp 7)) (by kernel_rfl) (fun o ho => load_flt rfl (two_num h XI8.out) ho)) ?_
                try simp only [Act.put, List.setIfInBounds_toArray, List.set_cons_zero, List.set_cons_succ]
                refine held_call 3 83 48 #[.agg #[.int .i64 G, .int .i64 H]] (by kernel_rfl) (by kernel_rfl) (by kernel_rfl) (fun _ => by kernel_rfl) ((Q0.out _ d0).mono ?_)
                rintro _ v1 ⟨rfl, b1⟩
                have d1 := nx d0 b1
                clear b1
                refine ⟨_, rfl, d1, ?_⟩
                try simp only [Act.put, List.setIfInBounds_toArray, List.set_cons_zero, List.set_cons_succ]
                refine held_do 4 84 (.bool false) (by kernel_rfl) (by kernel_rfl) (by kernel_rfl) (fun _ _ _ h => h) (by kernel_rfl) (by kernel_rfl) d1 (fun ww _ => by kernel_rfl) ?_
                try simp only [Act.put, List.setIfInBounds_toArray, List.set_cons_zero, List.set_cons_succ]
                refine held_do 5 85 (.bool false) (by kernel_rfl) (by kernel_rfl) (by kernel_rfl) (fun _ _ _ h => h) (by kernel_rfl) (by kernel_rfl) d1 (fun ww _ => by kernel_rfl) ?_
                try simp only [Act.put, List.setIfInBounds_toArray, List.set_cons_zero, List.set_cons_succ]
                refine held_do 6 86 (.bool false) (by kernel_rfl) (by kernel_rfl) (by kernel_rfl) (fun _ _ _ h => h) (by kernel_rfl) (by kernel_rfl) d1 (fun ww _ => by kernel_rfl) ?_
                try simp only [Act.put, List.setIfInBounds_toArray, List.set_cons_zero, List.set_cons_succ]
                refine held_do 7 87 (.agg #[.int .i64 n1, .int .i64 x1]) (by kernel_rfl) (by kernel_rfl) (by kernel_rfl) (fun _ _ _ h => h) (by kernel_rfl) (by kernel_rfl) d1 (fun ww h => run_of (op := .load 56 (.tmp 11)) (by kernel_rfl) (fun o ho => load_flt rfl (two_num h XA8.out) ho)) ?_
                try simp only [Act.put, List.setIfInBounds_toArray, List.set_cons_zero, List.set_cons_succ]
                refine held_call 8 88 48 #[.agg #[.int .i64 n1, .int .i64 x1]] (by kernel_rfl) (by kernel_rfl) (by kernel_rfl) (fun _ => by kernel_rfl) ((Q1.out _ d1).mono ?_)
                rintro _ v2 ⟨rfl, b2⟩
                have d2 := nx d1 b2
                clear b2
                refine ⟨_, rfl, d2, ?_⟩
                try simp only [Act.put, List.setIfInBounds_toArray, List.set_cons_zero, List.set_cons_succ]
                refine held_do 9 89 (.bool true) (by kernel_rfl) (by kernel_rfl) (by kernel_rfl) (fun _ _ _ h => h) (by kernel_rfl) (by kernel_rfl) d2 (fun ww _ => by kernel_rfl) ?_
                try simp only [Act.put, List.setIfInBounds_toArray, List.set_cons_zero, List.set_cons_succ]
                refine held_do 10 90 (.agg #[.int .i64 n2, .int .i64 x2]) (by kernel_rfl) (by kernel_rfl) (by kernel_rfl) (fun _ _ _ h => h) (by kernel_rfl) (by kernel_rfl) d2 (fun ww h => run_of (op := .load 56 (.tmp 12)) (by kernel_rfl) (fun o ho => load_flt rfl (two_num h XB8.out) ho)) ?_
                try simp only [Act.put, List.setIfInBounds_toArray, List.set_cons_zero, List.set_cons_succ]
                refine held_call 11 91 48 #[.agg #[.int .i64 n2, .int .i64 x2]] (by kernel_rfl) (by kernel_rfl) (by kernel_rfl) (fun _ => by kernel_rfl) ((Q2.out _ d2).mono ?_)
                rintro _ v3 ⟨rfl, b3⟩
                have d3 := nx d2 b3
                clear b3
                refine ⟨_, rfl, d3, ?_⟩
                try simp only [Act.put, List.setIfInBounds_toArray, List.set_cons_zero, List.set_cons_succ]
                refine held_do 12 92 (.bool true) (by kernel_rfl) (by kernel_rfl) (by kernel_rfl) (fun _ _ _ h => h) (by kernel_rfl) (by kernel_rfl) d3 (fun ww _ => by kernel_rfl) ?_
                try simp only [Act.put, List.setIfInBounds_toArray, List.set_cons_zero, List.set_cons_succ]
                refine held_do 13 93 (.bool true) (by kernel_rfl) (by kernel_rfl) (by kernel_rfl) (fun _ _ _ h => h) (by kernel_rfl) (by kernel_rfl) d3 (fun ww _ => by kernel_rfl) ?_
                try simp only [Act.put, List.setIfInBounds_toArray, List.set_cons_zero, List.set_cons_succ]
                refine held_do 14 94 (.agg #[.int .i64 n1, .int .i64 x1]) (by kernel_rfl) (by kernel_rfl) (by kernel_rfl) (fun _ _ _ h => h) (by kernel_rfl) (by kernel_rfl) d3 (fun ww h => run_of (op := .load 56 (.tmp 11)) (by kernel_rfl) (fun o ho => load_flt rfl (two_num h XA8.out) ho)) ?_
                try simp only [Act.put, List.setIfInBounds_toArray, List.set_cons_zero, List.set_cons_succ]
                refine held_do 15 95 (.agg #[.int .i64 n2, .int .i64 x2]) (by kernel_rfl) (by kernel_rfl) (by kernel_rfl) (fun _ _ _ h => h) (by kernel_rfl) (by kernel_rfl) d3 (fun ww h => run_of (op := .load 56 (.tmp 12)) (by kernel_rfl) (fun o ho => load_flt rfl (two_num h XB8.out) ho)) ?_
                try simp only [Act.put, List.setIfInBounds_toArray, List.set_cons_zero, List.set_cons_succ]
                refine held_do 22 102 (.agg #[.int .i64 n1, .int .i64 x1]) (by kernel_rfl) (by kernel_rfl) (by kernel_rfl) (fun _ _ _ h => h) (by kernel_rfl) (by kernel_rfl) d3 (fun ww h => run_of (op := .load 56 (.tmp 11)) (by kernel_rfl) (fun o ho => load_flt rfl (two_num h XA8.out) ho)) ?_
                try simp only [Act.put, List.setIfInBounds_toArray, List.set_cons_zero, List.set_cons_succ]
                refine held_do 23 103 (.agg #[.int .i64 n2, .int .i64 x2]) (by kernel_rfl) (by kernel_rfl) (by kernel_rfl) (fun _ _ _ h => h) (by kernel_rfl) (by kernel_rfl) d3 (fun ww h => run_of (op := .load 56 (.tmp 12)) (by kernel_rfl) (fun o ho => load_flt rfl (two_num h XB8.out) ho)) ?_
                try simp only [Act.put, List.setIfInBounds_toArray, List.set_cons_zero, List.set_cons_succ]
                refine held_do 24 104 (.bool false) (by kernel_rfl) (by kernel_rfl) (by kernel_rfl) (fun _ _ _ h => h) (by kernel_rfl) (by kernel_rfl) d3 (by intro ww hSw; clear hSw; go_simp) ?_
                try simp only [Act.put, List.setIfInBounds_toArray, List.set_cons_zero, List.set_cons_succ]
                refine held_call 16 96 46 #[.agg #[.int .i64 n1, .int .i64 x1], .agg #[.int .i64 n2, .int .i64 x2]] (by kernel_rfl) (by kernel_rfl) (by kernel_rfl) (fun _ => by kernel_rfl) ((Q3.out _ d3).mono ?_)
                rintro _ v4 ⟨rfl, b4⟩
                have d4 := nx d3 b4
                clear b4
                refine ⟨_, rfl, d4, ?_⟩
                try simp only [Act.put, List.setIfInBounds_toArray, List.set_cons_zero, List.set_cons_succ]
                refine held_do 17 97 (.bool true) (by kernel_rfl) (by kernel_rfl) (by kernel_rfl) (fun _ _ _ h => h) (by kernel_rfl) (by kernel_rfl) d4 (fun ww _ => by kernel_rfl) ?_
                try simp only [Act.put, List.setIfInBounds_toArray, List.set_cons_zero, List.set_cons_succ]
                refine held_skip 18 98 (by kernel_rfl) (by kernel_rfl) (by kernel_rfl) (fun _ _ _ h => h) (by kernel_rfl) (by kernel_rfl) d4 ?_
                try simp only [Act.put, List.setIfInBounds_toArray, List.set_cons_zero, List.set_cons_succ]
                refine held_skip 19 99 (by kernel_rfl) (by kernel_rfl) (by kernel_rfl) (fun _ _ _ h => h) (by kernel_rfl) (by kernel_rfl) d4 ?_
                try simp only [Act.put, List.setIfInBounds_toArray, List.set_cons_zero, List.set_cons_succ]
                refine held_skip 20 100 (by kernel_rfl) (by kernel_rfl) (by kernel_rfl) (fun _ _ _ h => h) (by kernel_rfl) (by kernel_rfl) d4 ?_
                try simp only [Act.put, List.setIfInBounds_toArray, List.set_cons_zero, List.set_cons_succ]
                refine held_do 21 101 (.bool true) (by kernel_rfl) (by kernel_rfl) (by kernel_rfl) (fun _ _ _ h => h) (by kernel_rfl) (by kernel_rfl) d4 (fun ww _ => by kernel_rfl) ?_
                try simp only [Act.put, List.setIfInBounds_toArray, List.set_cons_zero, List.set_cons_succ]
                refine held_do 25 105 (.bool false) (by kernel_rfl) (by kernel_rfl) (by kernel_rfl) (fun _ _ _ h => h) (by kernel_rfl) (by kernel_rfl) d4 (fun ww _ => by kernel_rfl) ?_
                try simp only [Act.put, List.setIfInBounds_toArray, List.set_cons_zero, List.set_cons_succ]
                refine held_do 26 106 (.bool false) (by kernel_rfl) (by kernel_rfl) (by kernel_rfl) (fun _ _ _ h => h) (by kernel_rfl) (by kernel_rfl) d4 (fun ww _ => by kernel_rfl) ?_
                try simp only [Act.put, List.setIfInBounds_toArray, List.set_cons_zero, List.set_cons_succ]
                refine held_do 27 107 (.bool false) (by kernel_rfl) (by kernel_rfl) (by kernel_rfl) (fun _ _ _ h => h) (by kernel_rfl) (by kernel_rfl) d4 (fun ww _ => by kernel_rfl) ?_
                try simp only [Act.put, List.setIfInBounds_toArray, List.set_cons_zero, List.set_cons_succ]
                refine wpAnyH_done (by kernel_rfl) ?_ _
                obtain ⟨w9, hw9⟩ : ∃ wx, wx = v4 := ⟨_, rfl⟩
                have XF9 : Hid (w9.heap[w1.heap.size]? = some (.cells #[.int .i64 m, .int .i64 e] 56 (0, 0))) := Lib.hid (by rw [hw9]; exact box_below XF8.out d4)
                have XD9 : Hid (w9.heap[w2.heap.size]? = some (.cells #[.int .i64 A, .int .i64 B] 42 (0, 0))) := Lib.hid (by rw [hw9]; exact box_below XD8.out d4)
                have XI9 : Hid (w9.heap[w4.heap.size]? = some (.cells #[.int .i64 G, .int .i64 H] 56 (0, 0))) := Lib.hid (by rw [hw9]; exact box_below XI8.out d4)
                have XJ9 : Hid (w9.heap[w5.heap.size]? = some (.cells #[.int .i64 G, .int .i64 H] 56 (0, 0))) := Lib.hid (by rw [hw9]; exact box_below XJ8.out d4)
                have XA9 : Hid (w9.heap[w6.heap.size]? = some (.cells #[.int .i64 n1, .int .i64 x1] 56 (0, 0))) := Lib.hid (by rw [hw9]; exact box_below XA8.out d4)
                have XB9 : Hid (w9.heap[(w6.heap.size + 1)]? = some (.cells #[.int .i64 n2, .int .i64 x2] 56 (0, 0))) := Lib.hid (by rw [hw9]; exact box_below XB8.out d4)
                have T9 := Lib.hid (show Below w.heap.size w w9 by rw [hw9]; exact nx T8.out d4)
                have Z9 := Lib.hid (show Below w8.heap.size w8 w9 by rw [hw9]; exact d4)
                rw [← hw9]
                clear d4 d3 d2 d1 d0 hw9
                go_wp2_with fail
                go_meet
                case rel => exact ⟨rfl, Z9.out⟩
            | false =>
              cases L2 with
              | true =>
                have hne : ¬ (n1 = n2 ∧ x1 = x2) := by intro h; rw [decide_eq_true h] at hon; simp at hon
                clear hon
                by_cases e1 : n1 = n2
                · subst e1
                  have e2 : (x1 == x2) = false := by have : ¬ x1 = x2 := fun h => hne ⟨rfl, h⟩
                                                     simpa using this
                  clear hne
                  have d0 : Below w8.heap.size w8 w8.drew := (Below.refl _ _).drew
                  refine wp_region_held_drew (S := fun ww => Below w8.heap.size w8 ww) (by kernel_rfl) d0 (fun _ => ?_)
                  refine held_do 0 80 (.bool true) (by kernel_rfl) (by kernel_rfl) (by kernel_rfl) (fun _ _ _ h => h) (by kernel_rfl) (by kernel_rfl) d0 (fun ww _ => by kernel_rfl) ?_
                  try simp only [Act.put, List.setIfInBounds_toArray, List.set_cons_zero, List.set_cons_succ]
                  refine held_do 1 81 (.bool true) (by kernel_rfl) (by kernel_rfl) (by kernel_rfl) (fun _ _ _ h => h) (by kernel_rfl) (by kernel_rfl) d0 (fun ww _ => by kernel_rfl) ?_
                  try simp only [Act.put, List.setIfInBounds_toArray, List.set_cons_zero, List.set_cons_succ]
                  refine held_do 2 82 (.agg #[.int .i64 G, .int .i64 H]) (by kernel_rfl) (by kernel_rfl) (by kernel_rfl) (fun _ _ _ h => h) (by kernel_rfl) (by kernel_rfl) d0 (fun ww h => run_of (op := .load 56 (.tmp 7)) (by kernel_rfl) (fun o ho => load_flt rfl (two_num h XI8.out) ho)) ?_
                  try simp only [Act.put, List.setIfInBounds_toArray, List.set_cons_zero, List.set_cons_succ]
                  refine held_call 3 83 48 #[.agg #[.int .i64 G, .int .i64 H]] (by kernel_rfl) (by kernel_rfl) (by kernel_rfl) (fun _ => by kernel_rfl) ((Q0.out _ d0).mono ?_)
                  rintro _ v1 ⟨rfl, b1⟩
                  have d1 := nx d0 b1
                  clear b1
                  refine ⟨_, rfl, d1, ?_⟩
                  try simp only [Act.put, List.setIfInBounds_toArray, List.set_cons_zero, List.set_cons_succ]
                  refine held_do 4 84 (.bool false) (by kernel_rfl) (by kernel_rfl) (by kernel_rfl) (fun _ _ _ h => h) (by kernel_rfl) (by kernel_rfl) d1 (fun ww _ => by kernel_rfl) ?_
                  try simp only [Act.put, List.setIfInBounds_toArray, List.set_cons_zero, List.set_cons_succ]
                  refine held_do 5 85 (.bool false) (by kernel_rfl) (by kernel_rfl) (by kernel_rfl) (fun _ _ _ h => h) (by kernel_rfl) (by kernel_rfl) d1 (fun ww _ => by kernel_rfl) ?_
                  try simp only [Act.put, List.setIfInBounds_toArray, List.set_cons_zero, List.set_cons_succ]
                  refine held_do 6 86 (.bool false) (by kernel_rfl) (by kernel_rfl) (by kernel_rfl) (fun _ _ _ h => h) (by kernel_rfl) (by kernel_rfl) d1 (fun ww _ => by kernel_rfl) ?_
                  try simp only [Act.put, List.setIfInBounds_toArray, List.set_cons_zero, List.set_cons_succ]
                  refine held_do 7 87 (.agg #[.int .i64 n1, .int .i64 x1]) (by kernel_rfl) (by kernel_rfl) (by kernel_rfl) (fun _ _ _ h => h) (by kernel_rfl) (by kernel_rfl) d1 (fun ww h => run_of (op := .load 56 (.tmp 11)) (by kernel_rfl) (fun o ho => load_flt rfl (two_num h XA8.out) ho)) ?_
                  try simp only [Act.put, List.setIfInBounds_toArray, List.set_cons_zero, List.set_cons_succ]
                  refine held_call 8 88 48 #[.agg #[.int .i64 n1, .int .i64 x1]] (by kernel_rfl) (by kernel_rfl) (by kernel_rfl) (fun _ => by kernel_rfl) ((Q1.out _ d1).mono ?_)
                  rintro _ v2 ⟨rfl, b2⟩
                  have d2 := nx d1 b2
                  clear b2
                  refine ⟨_, rfl, d2, ?_⟩
                  try simp only [Act.put, List.setIfInBounds_toArray, List.set_cons_zero, List.set_cons_succ]
                  refine held_do 9 89 (.bool true) (by kernel_rfl) (by kernel_rfl) (by kernel_rfl) (fun _ _ _ h => h) (by kernel_rfl) (by kernel_rfl) d2 (fun ww _ => by kernel_rfl) ?_
                  try simp only [Act.put, List.setIfInBounds_toArray, List.set_cons_zero, List.set_cons_succ]
                  refine held_do 10 90 (.agg #[.int .i64 n1, .int .i64 x2]) (by kernel_rfl) (by kernel_rfl) (by kernel_rfl) (fun _ _ _ h => h) (by kernel_rfl) (by kernel_rfl) d2 (fun ww h => run_of (op := .load 56 (.tmp 12)) (by kernel_rfl) (fun o ho => load_flt rfl (two_num h XB8.out) ho)) ?_
                  try simp only [Act.put, List.setIfInBounds_toArray, List.set_cons_zero, List.set_cons_succ]
                  refine held_call 11 91 48 #[.agg #[.int .i64 n1, .int .i64 x2]] (by kernel_rfl) (by kernel_rfl) (by kernel_rfl) (fun _ => by kernel_rfl) ((Q2.out _ d2).mono ?_)
                  rintro _ v3 ⟨rfl, b3⟩
                  have d3 := nx d2 b3
                  clear b3
                  refine ⟨_, rfl, d3, ?_⟩
                  try simp only [Act.put, List.setIfInBounds_toArray, List.set_cons_zero, List.set_cons_succ]
                  refine held_do 12 92 (.bool true) (by kernel_rfl) (by kernel_rfl) (by kernel_rfl) (fun _ _ _ h => h) (by kernel_rfl) (by kernel_rfl) d3 (fun ww _ => by kernel_rfl) ?_
                  try simp only [Act.put, List.setIfInBounds_toArray, List.set_cons_zero, List.set_cons_succ]
                  refine held_do 13 93 (.bool true) (by kernel_rfl) (by kernel_rfl) (by kernel_rfl) (fun _ _ _ h => h) (by kernel_rfl) (by kernel_rfl) d3 (fun ww _ => by kernel_rfl) ?_
                  try simp only [Act.put, List.setIfInBounds_toArray, List.set_cons_zero, List.set_cons_succ]
                  refine held_do 14 94 (.agg #[.int .i64 n1, .int .i64 x1]) (by kernel_rfl) (by kernel_rfl) (by kernel_rfl) (fun _ _ _ h => h) (by kernel_rfl) (by kernel_rfl) d3 (fun ww h => run_of (op := .load 56 (.tmp 11)) (by kernel_rfl) (fun o ho => load_flt rfl (two_num h XA8.out) ho)) ?_
                  try simp only [Act.put, List.setIfInBounds_toArray, List.set_cons_zero, List.set_cons_succ]
                  refine held_do 15 95 (.agg #[.int .i64 n1, .int .i64 x2]) (by kernel_rfl) (by kernel_rfl) (by kernel_rfl) (fun _ _ _ h => h) (by kernel_rfl) (by kernel_rfl) d3 (fun ww h => run_of (op := .load 56 (.tmp 12)) (by kernel_rfl) (fun o ho => load_flt rfl (two_num h XB8.out) ho)) ?_
                  try simp only [Act.put, List.setIfInBounds_toArray, List.set_cons_zero, List.set_cons_succ]
                  refine held_do 22 102 (.agg #[.int .i64 n1, .int .i64 x1]) (by kernel_rfl) (by kernel_rfl) (by kernel_rfl) (fun _ _ _ h => h) (by kernel_rfl) (by kernel_rfl) d3 (fun ww h => run_of (op := .load 56 (.tmp 11)) (by kernel_rfl) (fun o ho => load_flt rfl (two_num h XA8.out) ho)) ?_
                  try simp only [Act.put, List.setIfInBounds_toArray, List.set_cons_zero, List.set_cons_succ]
                  refine held_do 23 103 (.agg #[.int .i64 n1, .int .i64 x2]) (by kernel_rfl) (by kernel_rfl) (by kernel_rfl) (fun _ _ _ h => h) (by kernel_rfl) (by kernel_rfl) d3 (fun ww h => run_of (op := .load 56 (.tmp 12)) (by kernel_rfl) (fun o ho => load_flt rfl (two_num h XB8.out) ho)) ?_
                  try simp only [Act.put, List.setIfInBounds_toArray, List.set_cons_zero, List.set_cons_succ]
                  refine held_do 24 104 (.bool false) (by kernel_rfl) (by kernel_rfl) (by kernel_rfl) (fun _ _ _ h => h) (by kernel_rfl) (by kernel_rfl) d3 (by intro ww hSw; clear hSw; go_simp) ?_
                  try simp only [Act.put, List.setIfInBounds_toArray, List.set_cons_zero, List.set_cons_succ]
                  refine held_call 16 96 46 #[.agg #[.int .i64 n1, .int .i64 x1], .agg #[.int .i64 n1, .int .i64 x2]] (by kernel_rfl) (by kernel_rfl) (by kernel_rfl) (fun _ => by kernel_rfl) ((Q3.out _ d3).mono ?_)
                  rintro _ v4 ⟨rfl, b4⟩
                  have d4 := nx d3 b4
                  clear b4
                  refine ⟨_, rfl, d4, ?_⟩
                  try simp only [Act.put, List.setIfInBounds_toArray, List.set_cons_zero, List.set_cons_succ]
                  refine held_do 17 97 (.bool false) (by kernel_rfl) (by kernel_rfl) (by kernel_rfl) (fun _ _ _ h => h) (by kernel_rfl) (by kernel_rfl) d4 (fun ww _ => by kernel_rfl) ?_
                  try simp only [Act.put, List.setIfInBounds_toArray, List.set_cons_zero, List.set_cons_succ]
                  refine held_do 18 98 (.agg #[.int .i64 n1, .int .i64 x2]) (by kernel_rfl) (by kernel_rfl) (by kernel_rfl) (fun _ _ _ h => h) (by kernel_rfl) (by kernel_rfl) d4 (fun ww h => run_of (op := .load 56 (.tmp 12)) (by kernel_rfl) (fun o ho => load_flt rfl (two_num h XB8.out) ho)) ?_
                  try simp only [Act.put, List.setIfInBounds_toArray, List.set_cons_zero, List.set_cons_succ]
                  refine held_do 19 99 (.agg #[.int .i64 n1, .int .i64 x1]) (by kernel_rfl) (by kernel_rfl) (by kernel_rfl) (fun _ _ _ h => h) (by kernel_rfl) (by kernel_rfl) d4 (fun ww h => run_of (op := .load 56 (.tmp 11)) (by kernel_rfl) (fun o ho => load_flt rfl (two_num h XA8.out) ho)) ?_
                  try simp only [Act.put, List.setIfInBounds_toArray, List.set_cons_zero, List.set_cons_succ]
                  refine held_call 20 100 46 #[.agg #[.int .i64 n1, .int .i64 x2], .agg #[.int .i64 n1, .int .i64 x1]] (by kernel_rfl) (by kernel_rfl) (by kernel_rfl) (fun _ => by kernel_rfl) ((Q4.out _ d4).mono ?_)
                  rintro _ v5 ⟨rfl, b5⟩
                  have d5 := nx d4 b5
                  clear b5
                  refine ⟨_, rfl, d5, ?_⟩
                  try simp only [Act.put, List.setIfInBounds_toArray, List.set_cons_zero, List.set_cons_succ]
                  refine held_do 21 101 (.bool true) (by kernel_rfl) (by kernel_rfl) (by kernel_rfl) (fun _ _ _ h => h) (by kernel_rfl) (by kernel_rfl) d5 (fun ww _ => by kernel_rfl) ?_
                  try simp only [Act.put, List.setIfInBounds_toArray, List.set_cons_zero, List.set_cons_succ]
                  refine held_do 25 105 (.bool false) (by kernel_rfl) (by kernel_rfl) (by kernel_rfl) (fun _ _ _ h => h) (by kernel_rfl) (by kernel_rfl) d5 (fun ww _ => by kernel_rfl) ?_
                  try simp only [Act.put, List.setIfInBounds_toArray, List.set_cons_zero, List.set_cons_succ]
                  refine held_do 26 106 (.bool false) (by kernel_rfl) (by kernel_rfl) (by kernel_rfl) (fun _ _ _ h => h) (by kernel_rfl) (by kernel_rfl) d5 (fun ww _ => by kernel_rfl) ?_
                  try simp only [Act.put, List.setIfInBounds_toArray, List.set_cons_zero, List.set_cons_succ]
                  refine held_do 27 107 (.bool false) (by kernel_rfl) (by kernel_rfl) (by kernel_rfl) (fun _ _ _ h => h) (by kernel_rfl) (by kernel_rfl) d5 (fun ww _ => by kernel_rfl) ?_
                  try simp only [Act.put, List.setIfInBounds_toArray, List.set_cons_zero, List.set_cons_succ]
                  refine wpAnyH_done (by kernel_rfl) ?_ _
                  obtain ⟨w9, hw9⟩ : ∃ wx, wx = v5 := ⟨_, rfl⟩
                  have XF9 : Hid (w9.heap[w1.heap.size]? = some (.cells #[.int .i64 m, .int .i64 e] 56 (0, 0))) := Lib.hid (by rw [hw9]; exact box_below XF8.out d5)
                  have XD9 : Hid (w9.heap[w2.heap.size]? = some (.cells #[.int .i64 A, .int .i64 B] 42 (0, 0))) := Lib.hid (by rw [hw9]; exact box_below XD8.out d5)
                  have XI9 : Hid (w9.heap[w4.heap.size]? = some (.cells #[.int .i64 G, .int .i64 H] 56 (0, 0))) := Lib.hid (by rw [hw9]; exact box_below XI8.out d5)
                  have XJ9 : Hid (w9.heap[w5.heap.size]? = some (.cells #[.int .i64 G, .int .i64 H] 56 (0, 0))) := Lib.hid (by rw [hw9]; exact box_below XJ8.out d5)
                  have XA9 : Hid (w9.heap[w6.heap.size]? = some (.cells #[.int .i64 n1, .int .i64 x1] 56 (0, 0))) := Lib.hid (by rw [hw9]; exact box_below XA8.out d5)
                  have XB9 : Hid (w9.heap[(w6.heap.size + 1)]? = some (.cells #[.int .i64 n1, .int .i64 x2] 56 (0, 0))) := Lib.hid (by rw [hw9]; exact box_below XB8.out d5)
                  have T9 := Lib.hid (show Below w.heap.size w w9 by rw [hw9]; exact nx T8.out d5)
                  have Z9 := Lib.hid (show Below w8.heap.size w8 w9 by rw [hw9]; exact d5)
                  rw [← hw9]
                  clear d5 d4 d3 d2 d1 d0 hw9
                  go_wp2_with fail
                  go_meet
                  case rel => exact ⟨rfl, Z9.out⟩
                · have e2 : (n1 == n2) = false := by simpa using e1
                  clear hne e1
                  have d0 : Below w8.heap.size w8 w8.drew := (Below.refl _ _).drew
                  refine wp_region_held_drew (S := fun ww => Below w8.heap.size w8 ww) (by kernel_rfl) d0 (fun _ => ?_)
                  refine held_do 0 80 (.bool true) (by kernel_rfl) (by kernel_rfl) (by kernel_rfl) (fun _ _ _ h => h) (by kernel_rfl) (by kernel_rfl) d0 (fun ww _ => by kernel_rfl) ?_
                  try simp only [Act.put, List.setIfInBounds_toArray, List.set_cons_zero, List.set_cons_succ]
                  refine held_do 1 81 (.bool true) (by kernel_rfl) (by kernel_rfl) (by kernel_rfl) (fun _ _ _ h => h) (by kernel_rfl) (by kernel_rfl) d0 (fun ww _ => by kernel_rfl) ?_
                  try simp only [Act.put, List.setIfInBounds_toArray, List.set_cons_zero, List.set_cons_succ]
                  refine held_do 2 82 (.agg #[.int .i64 G, .int .i64 H]) (by kernel_rfl) (by kernel_rfl) (by kernel_rfl) (fun _ _ _ h => h) (by kernel_rfl) (by kernel_rfl) d0 (fun ww h => run_of (op := .load 56 (.tmp 7)) (by kernel_rfl) (fun o ho => load_flt rfl (two_num h XI8.out) ho)) ?_
                  try simp only [Act.put, List.setIfInBounds_toArray, List.set_cons_zero, List.set_cons_succ]
                  refine held_call 3 83 48 #[.agg #[.int .i64 G, .int .i64 H]] (by kernel_rfl) (by kernel_rfl) (by kernel_rfl) (fun _ => by kernel_rfl) ((Q0.out _ d0).mono ?_)
                  rintro _ v1 ⟨rfl, b1⟩
                  have d1 := nx d0 b1
                  clear b1
                  refine ⟨_, rfl, d1, ?_⟩
                  try simp only [Act.put, List.setIfInBounds_toArray, List.set_cons_zero, List.set_cons_succ]
                  refine held_do 4 84 (.bool false) (by kernel_rfl) (by kernel_rfl) (by kernel_rfl) (fun _ _ _ h => h) (by kernel_rfl) (by kernel_rfl) d1 (fun ww _ => by kernel_rfl) ?_
                  try simp only [Act.put, List.setIfInBounds_toArray, List.set_cons_zero, List.set_cons_succ]
                  refine held_do 5 85 (.bool false) (by kernel_rfl) (by kernel_rfl) (by kernel_rfl) (fun _ _ _ h => h) (by kernel_rfl) (by kernel_rfl) d1 (fun ww _ => by kernel_rfl) ?_
                  try simp only [Act.put, List.setIfInBounds_toArray, List.set_cons_zero, List.set_cons_succ]
                  refine held_do 6 86 (.bool false) (by kernel_rfl) (by kernel_rfl) (by kernel_rfl) (fun _ _ _ h => h) (by kernel_rfl) (by kernel_rfl) d1 (fun ww _ => by kernel_rfl) ?_
                  try simp only [Act.put, List.setIfInBounds_toArray, List.set_cons_zero, List.set_cons_succ]
                  refine held_do 7 87 (.agg #[.int .i64 n1, .int .i64 x1]) (by kernel_rfl) (by kernel_rfl) (by kernel_rfl) (fun _ _ _ h => h) (by kernel_rfl) (by kernel_rfl) d1 (fun ww h => run_of (op := .load 56 (.tmp 11)) (by kernel_rfl) (fun o ho => load_flt rfl (two_num h XA8.out) ho)) ?_
                  try simp only [Act.put, List.setIfInBounds_toArray, List.set_cons_zero, List.set_cons_succ]
                  refine held_call 8 88 48 #[.agg #[.int .i64 n1, .int .i64 x1]] (by kernel_rfl) (by kernel_rfl) (by kernel_rfl) (fun _ => by kernel_rfl) ((Q1.out _ d1).mono ?_)
                  rintro _ v2 ⟨rfl, b2⟩
                  have d2 := nx d1 b2
                  clear b2
                  refine ⟨_, rfl, d2, ?_⟩
                  try simp only [Act.put, List.setIfInBounds_toArray, List.set_cons_zero, List.set_cons_succ]
                  refine held_do 9 89 (.bool true) (by kernel_rfl) (by kernel_rfl) (by kernel_rfl) (fun _ _ _ h => h) (by kernel_rfl) (by kernel_rfl) d2 (fun ww _ => by kernel_rfl) ?_
                  try simp only [Act.put, List.setIfInBounds_toArray, List.set_cons_zero, List.set_cons_succ]
                  refine held_do 10 90 (.agg #[.int .i64 n2, .int .i64 x2]) (by kernel_rfl) (by kernel_rfl) (by kernel_rfl) (fun _ _ _ h => h) (by kernel_rfl) (by kernel_rfl) d2 (fun ww h => run_of (op := .load 56 (.tmp 12)) (by kernel_rfl) (fun o ho => load_flt rfl (two_num h XB8.out) ho)) ?_
                  try simp only [Act.put, List.setIfInBounds_toArray, List.set_cons_zero, List.set_cons_succ]
                  refine held_call 11 91 48 #[.agg #[.int .i64 n2, .int .i64 x2]] (by kernel_rfl) (by kernel_rfl) (by kernel_rfl) (fun _ => by kernel_rfl) ((Q2.out _ d2).mono ?_)
                  rintro _ v3 ⟨rfl, b3⟩
                  have d3 := nx d2 b3
                  clear b3
                  refine ⟨_, rfl, d3, ?_⟩
                  try simp only [Act.put, List.setIfInBounds_toArray, List.set_cons_zero, List.set_cons_succ]
                  refine held_do 12 92 (.bool true) (by kernel_rfl) (by kernel_rfl) (by kernel_rfl) (fun _ _ _ h => h) (by kernel_rfl) (by kernel_rfl) d3 (fun ww _ => by kernel_rfl) ?_
                  try simp only [Act.put, List.setIfInBounds_toArray, List.set_cons_zero, List.set_cons_succ]
                  refine held_do 13 93 (.bool true) (by kernel_rfl) (by kernel_rfl) (by kernel_rfl) (fun _ _ _ h => h) (by kernel_rfl) (by kernel_rfl) d3 (fun ww _ => by kernel_rfl) ?_
                  try simp only [Act.put, List.setIfInBounds_toArray, List.set_cons_zero, List.set_cons_succ]
                  refine held_do 14 94 (.agg #[.int .i64 n1, .int .i64 x1]) (by kernel_rfl) (by kernel_rfl) (by kernel_rfl) (fun _ _ _ h => h) (by kernel_rfl) (by kernel_rfl) d3 (fun ww h => run_of (op := .load 56 (.tmp 11)) (by kernel_rfl) (fun o ho => load_flt rfl (two_num h XA8.out) ho)) ?_
                  try simp only [Act.put, List.setIfInBounds_toArray, List.set_cons_zero, List.set_cons_succ]
                  refine held_do 15 95 (.agg #[.int .i64 n2, .int .i64 x2]) (by kernel_rfl) (by kernel_rfl) (by kernel_rfl) (fun _ _ _ h => h) (by kernel_rfl) (by kernel_rfl) d3 (fun ww h => run_of (op := .load 56 (.tmp 12)) (by kernel_rfl) (fun o ho => load_flt rfl (two_num h XB8.out) ho)) ?_
                  try simp only [Act.put, List.setIfInBounds_toArray, List.set_cons_zero, List.set_cons_succ]
                  refine held_do 22 102 (.agg #[.int .i64 n1, .int .i64 x1]) (by kernel_rfl) (by kernel_rfl) (by kernel_rfl) (fun _ _ _ h => h) (by kernel_rfl) (by kernel_rfl) d3 (fun ww h => run_of (op := .load 56 (.tmp 11)) (by kernel_rfl) (fun o ho => load_flt rfl (two_num h XA8.out) ho)) ?_
                  try simp only [Act.put, List.setIfInBounds_toArray, List.set_cons_zero, List.set_cons_succ]
                  refine held_do 23 103 (.agg #[.int .i64 n2, .int .i64 x2]) (by kernel_rfl) (by kernel_rfl) (by kernel_rfl) (fun _ _ _ h => h) (by kernel_rfl) (by kernel_rfl) d3 (fun ww h => run_of (op := .load 56 (.tmp 12)) (by kernel_rfl) (fun o ho => load_flt rfl (two_num h XB8.out) ho)) ?_
                  try simp only [Act.put, List.setIfInBounds_toArray, List.set_cons_zero, List.set_cons_succ]
                  refine held_do 24 104 (.bool false) (by kernel_rfl) (by kernel_rfl) (by kernel_rfl) (fun _ _ _ h => h) (by kernel_rfl) (by kernel_rfl) d3 (by intro ww hSw; clear hSw; go_simp) ?_
                  try simp only [Act.put, List.setIfInBounds_toArray, List.set_cons_zero, List.set_cons_succ]
                  refine held_call 16 96 46 #[.agg #[.int .i64 n1, .int .i64 x1], .agg #[.int .i64 n2, .int .i64 x2]] (by kernel_rfl) (by kernel_rfl) (by kernel_rfl) (fun _ => by kernel_rfl) ((Q3.out _ d3).mono ?_)
                  rintro _ v4 ⟨rfl, b4⟩
                  have d4 := nx d3 b4
                  clear b4
                  refine ⟨_, rfl, d4, ?_⟩
                  try simp only [Act.put, List.setIfInBounds_toArray, List.set_cons_zero, List.set_cons_succ]
                  refine held_do 17 97 (.bool false) (by kernel_rfl) (by kernel_rfl) (by kernel_rfl) (fun _ _ _ h => h) (by kernel_rfl) (by kernel_rfl) d4 (fun ww _ => by kernel_rfl) ?_
                  try simp only [Act.put, List.setIfInBounds_toArray, List.set_cons_zero, List.set_cons_succ]
                  refine held_do 18 98 (.agg #[.int .i64 n2, .int .i64 x2]) (by kernel_rfl) (by kernel_rfl) (by kernel_rfl) (fun _ _ _ h => h) (by kernel_rfl) (by kernel_rfl) d4 (fun ww h => run_of (op := .load 56 (.tmp 12)) (by kernel_rfl) (fun o ho => load_flt rfl (two_num h XB8.out) ho)) ?_
                  try simp only [Act.put, List.setIfInBounds_toArray, List.set_cons_zero, List.set_cons_succ]
                  refine held_do 19 99 (.agg #[.int .i64 n1, .int .i64 x1]) (by kernel_rfl) (by kernel_rfl) (by kernel_rfl) (fun _ _ _ h => h) (by kernel_rfl) (by kernel_rfl) d4 (fun ww h => run_of (op := .load 56 (.tmp 11)) (by kernel_rfl) (fun o ho => load_flt rfl (two_num h XA8.out) ho)) ?_
                  try simp only [Act.put, List.setIfInBounds_toArray, List.set_cons_zero, List.set_cons_succ]
                  refine held_call 20 100 46 #[.agg #[.int .i64 n2, .int .i64 x2], .agg #[.int .i64 n1, .int .i64 x1]] (by kernel_rfl) (by kernel_rfl) (by kernel_rfl) (fun _ => by kernel_rfl) ((Q4.out _ d4).mono ?_)
                  rintro _ v5 ⟨rfl, b5⟩
                  have d5 := nx d4 b5
                  clear b5
                  refine ⟨_, rfl, d5, ?_⟩
                  try simp only [Act.put, List.setIfInBounds_toArray, List.set_cons_zero, List.set_cons_succ]
                  refine held_do 21 101 (.bool true) (by kernel_rfl) (by kernel_rfl) (by kernel_rfl) (fun _ _ _ h => h) (by kernel_rfl) (by kernel_rfl) d5 (fun ww _ => by kernel_rfl) ?_
                  try simp only [Act.put, List.setIfInBounds_toArray, List.set_cons_zero, List.set_cons_succ]
                  refine held_do 25 105 (.bool false) (by kernel_rfl) (by kernel_rfl) (by kernel_rfl) (fun _ _ _ h => h) (by kernel_rfl) (by kernel_rfl) d5 (fun ww _ => by kernel_rfl) ?_
                  try simp only [Act.put, List.setIfInBounds_toArray, List.set_cons_zero, List.set_cons_succ]
                  refine held_do 26 106 (.bool false) (by kernel_rfl) (by kernel_rfl) (by kernel_rfl) (fun _ _ _ h => h) (by kernel_rfl) (by kernel_rfl) d5 (fun ww _ => by kernel_rfl) ?_
                  try simp only [Act.put, List.setIfInBounds_toArray, List.set_cons_zero, List.set_cons_succ]
                  refine held_do 27 107 (.bool false) (by kernel_rfl) (by kernel_rfl) (by kernel_rfl) (fun _ _ _ h => h) (by kernel_rfl) (by kernel_rfl) d5 (fun ww _ => by kernel_rfl) ?_
                  try simp only [Act.put, List.setIfInBounds_toArray, List.set_cons_zero, List.set_cons_succ]
                  refine wpAnyH_done (by kernel_rfl) ?_ _
                  obtain ⟨w9, hw9⟩ : ∃ wx, wx = v5 := ⟨_, rfl⟩
                  have XF9 : Hid (w9.heap[w1.heap.size]? = some (.cells #[.int .i64 m, .int .i64 e] 56 (0, 0))) := Lib.hid (by rw [hw9]; exact box_below XF8.out d5)
                  have XD9 : Hid (w9.heap[w2.heap.size]? = some (.cells #[.int .i64 A, .int .i64 B] 42 (0, 0))) := Lib.hid (by rw [hw9]; exact box_below XD8.out d5)
                  have XI9 : Hid (w9.heap[w4.heap.size]? = some (.cells #[.int .i64 G, .int .i64 H] 56 (0, 0))) := Lib.hid (by rw [hw9]; exact box_below XI8.out d5)
                  have XJ9 : Hid (w9.heap[w5.heap.size]? = some (.cells #[.int .i64 G, .int .i64 H] 56 (0, 0))) := Lib.hid (by rw [hw9]; exact box_below XJ8.out d5)
                  have XA9 : Hid (w9.heap[w6.heap.size]? = some (.cells #[.int .i64 n1, .int .i64 x1] 56 (0, 0))) := Lib.hid (by rw [hw9]; exact box_below XA8.out d5)
                  have XB9 : Hid (w9.heap[(w6.heap.size + 1)]? = some (.cells #[.int .i64 n2, .int .i64 x2] 56 (0, 0))) := Lib.hid (by rw [hw9]; exact box_below XB8.out d5)
                  have T9 := Lib.hid (show Below w.heap.size w w9 by rw [hw9]; exact nx T8.out d5)
                  have Z9 := Lib.hid (show Below w8.heap.size w8 w9 by rw [hw9]; exact d5)
                  rw [← hw9]
                  clear d5 d4 d3 d2 d1 d0 hw9
                  go_wp2_with fail
                  go_meet
                  case rel => exact ⟨rfl, Z9.out⟩
              | false =>
                obtain ⟨rfl, rfl⟩ : n1 = n2 ∧ x1 = x2 := by refine Decidable.byContradiction fun h => ?_; rw [decide_eq_false h] at hon; simp at hon
                clear hon
                have d0 : Below w8.heap.size w8 w8.drew := (Below.refl _ _).drew
                refine wp_region_held_drew (S := fun ww => Below w8.heap.size w8 ww) (by kernel_rfl) d0 (fun _ => ?_)
                refine held_do 0 80 (.bool true) (by kernel_rfl) (by kernel_rfl) (by kernel_rfl) (fun _ _ _ h => h) (by kernel_rfl) (by kernel_rfl) d0 (fun ww _ => by kernel_rfl) ?_
                try simp only [Act.put, List.setIfInBounds_toArray, List.set_cons_zero, List.set_cons_succ]
                refine held_do 1 81 (.bool true) (by kernel_rfl) (by kernel_rfl) (by kernel_rfl) (fun _ _ _ h => h) (by kernel_rfl) (by kernel_rfl) d0 (fun ww _ => by kernel_rfl) ?_
                try simp only [Act.put, List.setIfInBounds_toArray, List.set_cons_zero, List.set_cons_succ]
                refine held_do 2 82 (.agg #[.int .i64 G, .int .i64 H]) (by kernel_rfl) (by kernel_rfl) (by kernel_rfl) (fun _ _ _ h => h) (by kernel_rfl) (by kernel_rfl) d0 (fun ww h => run_of (op := .load 56 (.tmp 7)) (by kernel_rfl) (fun o ho => load_flt rfl (two_num h XI8.out) ho)) ?_
                try simp only [Act.put, List.setIfInBounds_toArray, List.set_cons_zero, List.set_cons_succ]
                refine held_call 3 83 48 #[.agg #[.int .i64 G, .int .i64 H]] (by kernel_rfl) (by kernel_rfl) (by kernel_rfl) (fun _ => by kernel_rfl) ((Q0.out _ d0).mono ?_)
                rintro _ v1 ⟨rfl, b1⟩
                have d1 := nx d0 b1
                clear b1
                refine ⟨_, rfl, d1, ?_⟩
                try simp only [Act.put, List.setIfInBounds_toArray, List.set_cons_zero, List.set_cons_succ]
                refine held_do 4 84 (.bool false) (by kernel_rfl) (by kernel_rfl) (by kernel_rfl) (fun _ _ _ h => h) (by kernel_rfl) (by kernel_rfl) d1 (fun ww _ => by kernel_rfl) ?_
                try simp only [Act.put, List.setIfInBounds_toArray, List.set_cons_zero, List.set_cons_succ]
                refine held_do 5 85 (.bool false) (by kernel_rfl) (by kernel_rfl) (by kernel_rfl) (fun _ _ _ h => h) (by kernel_rfl) (by kernel_rfl) d1 (fun ww _ => by kernel_rfl) ?_
                try simp only [Act.put, List.setIfInBounds_toArray, List.set_cons_zero, List.set_cons_succ]
                refine held_do 6 86 (.bool false) (by kernel_rfl) (by kernel_rfl) (by kernel_rfl) (fun _ _ _ h => h) (by kernel_rfl) (by kernel_rfl) d1 (fun ww _ => by kernel_rfl) ?_
                try simp only [Act.put, List.setIfInBounds_toArray, List.set_cons_zero, List.set_cons_succ]
                refine held_do 7 87 (.agg #[.int .i64 n1, .int .i64 x1]) (by kernel_rfl) (by kernel_rfl) (by kernel_rfl) (fun _ _ _ h => h) (by kernel_rfl) (by kernel_rfl) d1 (fun ww h => run_of (op := .load 56 (.tmp 11)) (by kernel_rfl) (fun o ho => load_flt rfl (two_num h XA8.out) ho)) ?_
                try simp only [Act.put, List.setIfInBounds_toArray, List.set_cons_zero, List.set_cons_succ]
                refine held_call 8 88 48 #[.agg #[.int .i64 n1, .int .i64 x1]] (by kernel_rfl) (by kernel_rfl) (by kernel_rfl) (fun _ => by kernel_rfl) ((Q1.out _ d1).mono ?_)
                rintro _ v2 ⟨rfl, b2⟩
                have d2 := nx d1 b2
                clear b2
                refine ⟨_, rfl, d2, ?_⟩
                try simp only [Act.put, List.setIfInBounds_toArray, List.set_cons_zero, List.set_cons_succ]
                refine held_do 9 89 (.bool true) (by kernel_rfl) (by kernel_rfl) (by kernel_rfl) (fun _ _ _ h => h) (by kernel_rfl) (by kernel_rfl) d2 (fun ww _ => by kernel_rfl) ?_
                try simp only [Act.put, List.setIfInBounds_toArray, List.set_cons_zero, List.set_cons_succ]
                refine held_do 10 90 (.agg #[.int .i64 n1, .int .i64 x1]) (by kernel_rfl) (by kernel_rfl) (by kernel_rfl) (fun _ _ _ h => h) (by kernel_rfl) (by kernel_rfl) d2 (fun ww h => run_of (op := .load 56 (.tmp 12)) (by kernel_rfl) (fun o ho => load_flt rfl (two_num h XB8.out) ho)) ?_
                try simp only [Act.put, List.setIfInBounds_toArray, List.set_cons_zero, List.set_cons_succ]
                refine held_call 11 91 48 #[.agg #[.int .i64 n1, .int .i64 x1]] (by kernel_rfl) (by kernel_rfl) (by kernel_rfl) (fun _ => by kernel_rfl) ((Q2.out _ d2).mono ?_)
                rintro _ v3 ⟨rfl, b3⟩
                have d3 := nx d2 b3
                clear b3
                refine ⟨_, rfl, d3, ?_⟩
                try simp only [Act.put, List.setIfInBounds_toArray, List.set_cons_zero, List.set_cons_succ]
                refine held_do 12 92 (.bool true) (by kernel_rfl) (by kernel_rfl) (by kernel_rfl) (fun _ _ _ h => h) (by kernel_rfl) (by kernel_rfl) d3 (fun ww _ => by kernel_rfl) ?_
                try simp only [Act.put, List.setIfInBounds_toArray, List.set_cons_zero, List.set_cons_succ]
                refine held_do 13 93 (.bool true) (by kernel_rfl) (by kernel_rfl) (by kernel_rfl) (fun _ _ _ h => h) (by kernel_rfl) (by kernel_rfl) d3 (fun ww _ => by kernel_rfl) ?_
                try simp only [Act.put, List.setIfInBounds_toArray, List.set_cons_zero, List.set_cons_succ]
                refine held_do 14 94 (.agg #[.int .i64 n1, .int .i64 x1]) (by kernel_rfl) (by kernel_rfl) (by kernel_rfl) (fun _ _ _ h => h) (by kernel_rfl) (by kernel_rfl) d3 (fun ww h => run_of (op := .load 56 (.tmp 11)) (by kernel_rfl) (fun o ho => load_flt rfl (two_num h XA8.out) ho)) ?_
                try simp only [Act.put, List.setIfInBounds_toArray, List.set_cons_zero, List.set_cons_succ]
                refine held_do 15 95 (.agg #[.int .i64 n1, .int .i64 x1]) (by kernel_rfl) (by kernel_rfl) (by kernel_rfl) (fun _ _ _ h => h) (by kernel_rfl) (by kernel_rfl) d3 (fun ww h => run_of (op := .load 56 (.tmp 12)) (by kernel_rfl) (fun o ho => load_flt rfl (two_num h XB8.out) ho)) ?_
                try simp only [Act.put, List.setIfInBounds_toArray, List.set_cons_zero, List.set_cons_succ]
                refine held_do 22 102 (.agg #[.int .i64 n1, .int .i64 x1]) (by kernel_rfl) (by kernel_rfl) (by kernel_rfl) (fun _ _ _ h => h) (by kernel_rfl) (by kernel_rfl) d3 (fun ww h => run_of (op := .load 56 (.tmp 11)) (by kernel_rfl) (fun o ho => load_flt rfl (two_num h XA8.out) ho)) ?_
                try simp only [Act.put, List.setIfInBounds_toArray, List.set_cons_zero, List.set_cons_succ]
                refine held_do 23 103 (.agg #[.int .i64 n1, .int .i64 x1]) (by kernel_rfl) (by kernel_rfl) (by kernel_rfl) (fun _ _ _ h => h) (by kernel_rfl) (by kernel_rfl) d3 (fun ww h => run_of (op := .load 56 (.tmp 12)) (by kernel_rfl) (fun o ho => load_flt rfl (two_num h XB8.out) ho)) ?_
                try simp only [Act.put, List.setIfInBounds_toArray, List.set_cons_zero, List.set_cons_succ]
                refine held_do 24 104 (.bool true) (by kernel_rfl) (by kernel_rfl) (by kernel_rfl) (fun _ _ _ h => h) (by kernel_rfl) (by kernel_rfl) d3 (by intro ww hSw; clear hSw; go_simp) ?_
                try simp only [Act.put, List.setIfInBounds_toArray, List.set_cons_zero, List.set_cons_succ]
                refine held_call 16 96 46 #[.agg #[.int .i64 n1, .int .i64 x1], .agg #[.int .i64 n1, .int .i64 x1]] (by kernel_rfl) (by kernel_rfl) (by kernel_rfl) (fun _ => by kernel_rfl) ((Q3.out _ d3).mono ?_)
                rintro _ v4 ⟨rfl, b4⟩
                have d4 := nx d3 b4
                clear b4
                refine ⟨_, rfl, d4, ?_⟩
                try simp only [Act.put, List.setIfInBounds_toArray, List.set_cons_zero, List.set_cons_succ]
                refine held_do 17 97 (.bool false) (by kernel_rfl) (by kernel_rfl) (by kernel_rfl) (fun _ _ _ h => h) (by kernel_rfl) (by kernel_rfl) d4 (fun ww _ => by kernel_rfl) ?_
                try simp only [Act.put, List.setIfInBounds_toArray, List.set_cons_zero, List.set_cons_succ]
                refine held_do 18 98 (.agg #[.int .i64 n1, .int .i64 x1]) (by kernel_rfl) (by kernel_rfl) (by kernel_rfl) (fun _ _ _ h => h) (by kernel_rfl) (by kernel_rfl) d4 (fun ww h => run_of (op := .load 56 (.tmp 12)) (by kernel_rfl) (fun o ho => load_flt rfl (two_num h XB8.out) ho)) ?_
                try simp only [Act.put, List.setIfInBounds_toArray, List.set_cons_zero, List.set_cons_succ]
                refine held_do 19 99 (.agg #[.int .i64 n1, .int .i64 x1]) (by kernel_rfl) (by kernel_rfl) (by kernel_rfl) (fun _ _ _ h => h) (by kernel_rfl) (by kernel_rfl) d4 (fun ww h => run_of (op := .load 56 (.tmp 11)) (by kernel_rfl) (fun o ho => load_flt rfl (two_num h XA8.out) ho)) ?_
                try simp only [Act.put, List.setIfInBounds_toArray, List.set_cons_zero, List.set_cons_succ]
                refine held_call 20 100 46 #[.agg #[.int .i64 n1, .int .i64 x1], .agg #[.int .i64 n1, .int .i64 x1]] (by kernel_rfl) (by kernel_rfl) (by kernel_rfl) (fun _ => by kernel_rfl) ((Q4.out _ d4).mono ?_)
                rintro _ v5 ⟨rfl, b5⟩
                have d5 := nx d4 b5
                clear b5
                refine ⟨_, rfl, d5, ?_⟩
                try simp only [Act.put, List.setIfInBounds_toArray, List.set_cons_zero, List.set_cons_succ]
                refine held_do 21 101 (.bool false) (by kernel_rfl) (by kernel_rfl) (by kernel_rfl) (fun _ _ _ h => h) (by kernel_rfl) (by kernel_rfl) d5 (fun ww _ => by kernel_rfl) ?_
                try simp only [Act.put, List.setIfInBounds_toArray, List.set_cons_zero, List.set_cons_succ]
                refine held_do 25 105 (.bool false) (by kernel_rfl) (by kernel_rfl) (by kernel_rfl) (fun _ _ _ h => h) (by kernel_rfl) (by kernel_rfl) d5 (fun ww _ => by kernel_rfl) ?_
                try simp only [Act.put, List.setIfInBounds_toArray, List.set_cons_zero, List.set_cons_succ]
                refine held_do 26 106 (.bool false) (by kernel_rfl) (by kernel_rfl) (by kernel_rfl) (fun _ _ _ h => h) (by kernel_rfl) (by kernel_rfl) d5 (fun ww _ => by kernel_rfl) ?_
                try simp only [Act.put, List.setIfInBounds_toArray, List.set_cons_zero, List.set_cons_succ]
                refine held_do 27 107 (.bool false) (by kernel_rfl) (by kernel_rfl) (by kernel_rfl) (fun _ _ _ h => h) (by kernel_rfl) (by kernel_rfl) d5 (fun ww _ => by kernel_rfl) ?_
                try simp only [Act.put, List.setIfInBounds_toArray, List.set_cons_zero, List.set_cons_succ]
                refine wpAnyH_done (by kernel_rfl) ?_ _
                obtain ⟨w9, hw9⟩ : ∃ wx, wx = v5 := ⟨_, rfl⟩
                have XF9 : Hid (w9.heap[w1.heap.size]? = some (.cells #[.int .i64 m, .int .i64 e] 56 (0, 0))) := Lib.hid (by rw [hw9]; exact box_below XF8.out d5)
                have XD9 : Hid (w9.heap[w2.heap.size]? = some (.cells #[.int .i64 A, .int .i64 B] 42 (0, 0))) := Lib.hid (by rw [hw9]; exact box_below XD8.out d5)
                have XI9 : Hid (w9.heap[w4.heap.size]? = some (.cells #[.int .i64 G, .int .i64 H] 56 (0, 0))) := Lib.hid (by rw [hw9]; exact box_below XI8.out d5)
                have XJ9 : Hid (w9.heap[w5.heap.size]? = some (.cells #[.int .i64 G, .int .i64 H] 56 (0, 0))) := Lib.hid (by rw [hw9]; exact box_below XJ8.out d5)
                have XA9 : Hid (w9.heap[w6.heap.size]? = some (.cells #[.int .i64 n1, .int .i64 x1] 56 (0, 0))) := Lib.hid (by rw [hw9]; exact box_below XA8.out d5)
                have XB9 : Hid (w9.heap[(w6.heap.size + 1)]? = some (.cells #[.int .i64 n1, .int .i64 x1] 56 (0, 0))) := Lib.hid (by rw [hw9]; exact box_below XB8.out d5)
                have T9 := Lib.hid (show Below w.heap.size w w9 by rw [hw9]; exact nx T8.out d5)
                have Z9 := Lib.hid (show Below w8.heap.size w8 w9 by rw [hw9]; exact d5)
                rw [← hw9]
                clear d5 d4 d3 d2 d1 d0 hw9
                go_wp2_with fail
                go_meet
                case rel => exact ⟨rfl, Z9.out⟩
      | false =>
        cases K1 with
        | false =>
          have d0 : Below w8.heap.size w8 w8.drew := (Below.refl _ _).drew
          refine wp_region_held_drew (S := fun ww => Below w8.heap.size w8 ww) (by kernel_rfl) d0 (fun _ => ?_)
          refine held_do 0 80 (.bool false) (by kernel_rfl) (by kernel_rfl) (by kernel_rfl) (fun _ _ _ h => h) (by kernel_rfl) (by kernel_rfl) d0 (fun ww _ => by kernel_rfl) ?_
          try simp only [Act.put, List.setIfInBounds_toArray, List.set_cons_zero, List.set_cons_succ]
          refine held_do 1 81 (.bool false) (by kernel_rfl) (by kernel_rfl) (by kernel_rfl) (fun _ _ _ h => h) (by kernel_rfl) (by kernel_rfl) d0 (fun ww _ => by kernel_rfl) ?_
          try simp only [Act.put, List.setIfInBounds_toArray, List.set_cons_zero, List.set_cons_succ]
          refine held_skip 2 82 (by kernel_rfl) (by kernel_rfl) (by kernel_rfl) (fun _ _ _ h => h) (by kernel_rfl) (by kernel_rfl) d0 ?_
          try simp only [Act.put, List.setIfInBounds_toArray, List.set_cons_zero, List.set_cons_succ]
          refine held_skip 3 83 (by kernel_rfl) (by kernel_rfl) (by kernel_rfl) (fun _ _ _ h => h) (by kernel_rfl) (by kernel_rfl) d0 ?_
          try simp only [Act.put, List.setIfInBounds_toArray, List.set_cons_zero, List.set_cons_succ]
          refine held_skip 4 84 (by kernel_rfl) (by kernel_rfl) (by kernel_rfl) (fun _ _ _ h => h) (by kernel_rfl) (by kernel_rfl) d0 ?_
          try simp only [Act.put, List.setIfInBounds_toArray, List.set_cons_zero, List.set_cons_succ]
          refine held_do 5 85 (.bool false) (by kernel_rfl) (by kernel_rfl) (by kernel_rfl) (fun _ _ _ h => h) (by kernel_rfl) (by kernel_rfl) d0 (fun ww _ => by kernel_rfl) ?_
          try simp only [Act.put, List.setIfInBounds_toArray, List.set_cons_zero, List.set_cons_succ]
          refine held_do 6 86 (.bool false) (by kernel_rfl) (by kernel_rfl) (by kernel_rfl) (fun _ _ _ h => h) (by kernel_rfl) (by kernel_rfl) d0 (fun ww _ => by kernel_rfl) ?_
          try simp only [Act.put, List.setIfInBounds_toArray, List.set_cons_zero, List.set_cons_succ]
          refine held_do 7 87 (.agg #[.int .i64 n1, .int .i64 x1]) (by kernel_rfl) (by kernel_rfl) (by kernel_rfl) (fun _ _ _ h => h) (by kernel_rfl) (by kernel_rfl) d0 (fun ww h => run_of (op := .load 56 (.tmp 11)) (by kernel_rfl) (fun o ho => load_flt rfl (two_num h XA8.out) ho)) ?_
          try simp only [Act.put, List.setIfInBounds_toArray, List.set_cons_zero, List.set_cons_succ]
          refine held_call 8 88 48 #[.agg #[.int .i64 n1, .int .i64 x1]] (by kernel_rfl) (by kernel_rfl) (by kernel_rfl) (fun _ => by kernel_rfl) ((Q1.out _ d0).mono ?_)
          rintro _ v1 ⟨rfl, b1⟩
          have d1 := nx d0 b1
          clear b1
          refine ⟨_, rfl, d1, ?_⟩
          try simp only [Act.put, List.setIfInBounds_toArray, List.set_cons_zero, List.set_cons_succ]
          refine held_do 9 89 (.bool false) (by kernel_rfl) (by kernel_rfl) (by kernel_rfl) (fun _ _ _ h => h) (by kernel_rfl) (by kernel_rfl) d1 (fun ww _ => by kernel_rfl) ?_
          try simp only [Act.put, List.setIfInBounds_toArray, List.set_cons_zero, List.set_cons_succ]
          refine held_skip 10 90 (by kernel_rfl) (by kernel_rfl) (by kernel_rfl) (fun _ _ _ h => h) (by kernel_rfl) (by kernel_rfl) d1 ?_
          try simp only [Act.put, List.setIfInBounds_toArray, List.set_cons_zero, List.set_cons_succ]
          refine held_skip 11 91 (by kernel_rfl) (by kernel_rfl) (by kernel_rfl) (fun _ _ _ h => h) (by kernel_rfl) (by kernel_rfl) d1 ?_
          try simp only [Act.put, List.setIfInBounds_toArray, List.set_cons_zero, List.set_cons_succ]
          refine held_do 12 92 (.bool false) (by kernel_rfl) (by kernel_rfl) (by kernel_rfl) (fun _ _ _ h => h) (by kernel_rfl) (by kernel_rfl) d1 (fun ww _ => by kernel_rfl) ?_
          try simp only [Act.put, List.setIfInBounds_toArray, List.set_cons_zero, List.set_cons_succ]
          refine held_do 13 93 (.bool false) (by kernel_rfl) (by kernel_rfl) (by kernel_rfl) (fun _ _ _ h => h) (by kernel_rfl) (by kernel_rfl) d1 (fun ww _ => by kernel_rfl) ?_
          try simp only [Act.put, List.setIfInBounds_toArray, List.set_cons_zero, List.set_cons_succ]
          refine held_skip 14 94 (by kernel_rfl) (by kernel_rfl) (by kernel_rfl) (fun _ _ _ h => h) (by kernel_rfl) (by kernel_rfl) d1 ?_
          try simp only [Act.put, List.setIfInBounds_toArray, List.set_cons_zero, List.set_cons_succ]
          refine held_skip 15 95 (by kernel_rfl) (by kernel_rfl) (by kernel_rfl) (fun _ _ _ h => h) (by kernel_rfl) (by kernel_rfl) d1 ?_
          try simp only [Act.put, List.setIfInBounds_toArray, List.set_cons_zero, List.set_cons_succ]
          refine held_skip 16 96 (by kernel_rfl) (by kernel_rfl) (by kernel_rfl) (fun _ _ _ h => h) (by kernel_rfl) (by kernel_rfl) d1 ?_
          try simp only [Act.put, List.setIfInBounds_toArray, List.set_cons_zero, List.set_cons_succ]
          refine held_skip 17 97 (by kernel_rfl) (by kernel_rfl) (by kernel_rfl) (fun _ _ _ h => h) (by kernel_rfl) (by kernel_rfl) d1 ?_
          try simp only [Act.put, List.setIfInBounds_toArray, List.set_cons_zero, List.set_cons_succ]
          refine held_skip 18 98 (by kernel_rfl) (by kernel_rfl) (by kernel_rfl) (fun _ _ _ h => h) (by kernel_rfl) (by kernel_rfl) d1 ?_
          try simp only [Act.put, List.setIfInBounds_toArray, List.set_cons_zero, List.set_cons_succ]
          refine held_skip 19 99 (by kernel_rfl) (by kernel_rfl) (by kernel_rfl) (fun _ _ _ h => h) (by kernel_rfl) (by kernel_rfl) d1 ?_
          try simp only [Act.put, List.setIfInBounds_toArray, List.set_cons_zero, List.set_cons_succ]
          refine held_skip 20 100 (by kernel_rfl) (by kernel_rfl) (by kernel_rfl) (fun _ _ _ h => h) (by kernel_rfl) (by kernel_rfl) d1 ?_
          try simp only [Act.put, List.setIfInBounds_toArray, List.set_cons_zero, List.set_cons_succ]
          refine held_skip 21 101 (by kernel_rfl) (by kernel_rfl) (by kernel_rfl) (fun _ _ _ h => h) (by kernel_rfl) (by kernel_rfl) d1 ?_
          try simp only [Act.put, List.setIfInBounds_toArray, List.set_cons_zero, List.set_cons_succ]
          refine held_skip 22 102 (by kernel_rfl) (by kernel_rfl) (by kernel_rfl) (fun _ _ _ h => h) (by kernel_rfl) (by kernel_rfl) d1 ?_
          try simp only [Act.put, List.setIfInBounds_toArray, List.set_cons_zero, List.set_cons_succ]
          refine held_skip 23 103 (by kernel_rfl) (by kernel_rfl) (by kernel_rfl) (fun _ _ _ h => h) (by kernel_rfl) (by kernel_rfl) d1 ?_
          try simp only [Act.put, List.setIfInBounds_toArray, List.set_cons_zero, List.set_cons_succ]
          refine held_skip 24 104 (by kernel_rfl) (by kernel_rfl) (by kernel_rfl) (fun _ _ _ h => h) (by kernel_rfl) (by kernel_rfl) d1 ?_
          try simp only [Act.put, List.setIfInBounds_toArray, List.set_cons_zero, List.set_cons_succ]
          refine held_skip 25 105 (by kernel_rfl) (by kernel_rfl) (by kernel_rfl) (fun _ _ _ h => h) (by kernel_rfl) (by kernel_rfl) d1 ?_
          try simp only [Act.put, List.setIfInBounds_toArray, List.set_cons_zero, List.set_cons_succ]
          refine held_do 26 106 (.bool false) (by kernel_rfl) (by kernel_rfl) (by kernel_rfl) (fun _ _ _ h => h) (by kernel_rfl) (by kernel_rfl) d1 (fun ww _ => by kernel_rfl) ?_
          try simp only [Act.put, List.setIfInBounds_toArray, List.set_cons_zero, List.set_cons_succ]
          refine held_do 27 107 (.bool false) (by kernel_rfl) (by kernel_rfl) (by kernel_rfl) (fun _ _ _ h => h) (by kernel_rfl) (by kernel_rfl) d1 (fun ww _ => by kernel_rfl) ?_
          try simp only [Act.put, List.setIfInBounds_toArray, List.set_cons_zero, List.set_cons_succ]
          refine wpAnyH_done (by kernel_rfl) ?_ _
          obtain ⟨w9, hw9⟩ : ∃ wx, wx = v1 := ⟨_, rfl⟩
          have XF9 : Hid (w9.heap[w1.heap.size]? = some (.cells #[.int .i64 m, .int .i64 e] 56 (0, 0))) := Lib.hid (by rw [hw9]; exact box_below XF8.out d1)
          have XD9 : Hid (w9.heap[w2.heap.size]? = some (.cells #[.int .i64 A, .int .i64 B] 42 (0, 0))) := Lib.hid (by rw [hw9]; exact box_below XD8.out d1)
          have XI9 : Hid (w9.heap[w4.heap.size]? = some (.cells #[.int .i64 G, .int .i64 H] 56 (0, 0))) := Lib.hid (by rw [hw9]; exact box_below XI8.out d1)
          have XJ9 : Hid (w9.heap[w5.heap.size]? = some (.cells #[.int .i64 G, .int .i64 H] 56 (0, 0))) := Lib.hid (by rw [hw9]; exact box_below XJ8.out d1)
          have XA9 : Hid (w9.heap[w6.heap.size]? = some (.cells #[.int .i64 n1, .int .i64 x1] 56 (0, 0))) := Lib.hid (by rw [hw9]; exact box_below XA8.out d1)
          have XB9 : Hid (w9.heap[(w6.heap.size + 1)]? = some (.cells #[.int .i64 n2, .int .i64 x2] 56 (0, 0))) := Lib.hid (by rw [hw9]; exact box_below XB8.out d1)
          have T9 := Lib.hid (show Below w.heap.size w w9 by rw [hw9]; exact nx T8.out d1)
          have Z9 := Lib.hid (show Below w8.heap.size w8 w9 by rw [hw9]; exact d1)
          rw [← hw9]
          clear d1 d0 hw9
          go_wp2_with fail
          go_meet
          case rel => exact ⟨rfl, Z9.out⟩
        | true =>
          cases K2 with
          | false =>
            have d0 : Below w8.heap.size w8 w8.drew := (Below.refl _ _).drew
            refine wp_region_held_drew (S := fun ww => Below w8.heap.size w8 ww) (by kernel_rfl) d0 (fun _ => ?_)
            refine held_do 0 80 (.bool false) (by kernel_rfl) (by kernel_rfl) (by kernel_rfl) (fun _ _ _ h => h) (by kernel_rfl) (by kernel_rfl) d0 (fun ww _ => by kernel_rfl) ?_
            try simp only [Act.put, List.setIfInBounds_toArray, List.set_cons_zero, List.set_cons_succ]
            refine held_do 1 81 (.bool false) (by kernel_rfl) (by kernel_rfl) (by kernel_rfl) (fun _ _ _ h => h) (by kernel_rfl) (by kernel_rfl) d0 (fun ww _ => by kernel_rfl) ?_
            try simp only [Act.put, List.setIfInBounds_toArray, List.set_cons_zero, List.set_cons_succ]
            refine held_skip 2 82 (by kernel_rfl) (by kernel_rfl) (by kernel_rfl) (fun _ _ _ h => h) (by kernel_rfl) (by kernel_rfl) d0 ?_
            try simp only [Act.put, List.setIfInBounds_toArray, List.set_cons_zero, List.set_cons_succ]
            refine held_skip 3 83 (by kernel_rfl) (by kernel_rfl) (by kernel_rfl) (fun _ _ _ h => h) (by kernel_rfl) (by kernel_rfl) d0 ?_
            try simp only [Act.put, List.setIfInBounds_toArray, List.set_cons_zero, List.set_cons_succ]
            refine held_skip 4 84 (by kernel_rfl) (by kernel_rfl) (by kernel_rfl) (fun _ _ _ h => h) (by kernel_rfl) (by kernel_rfl) d0 ?_
            try simp only [Act.put, List.setIfInBounds_toArray, List.set_cons_zero, List.set_cons_succ]
            refine held_do 5 85 (.bool false) (by kernel_rfl) (by kernel_rfl) (by kernel_rfl) (fun _ _ _ h => h) (by kernel_rfl) (by kernel_rfl) d0 (fun ww _ => by kernel_rfl) ?_
            try simp only [Act.put, List.setIfInBounds_toArray, List.set_cons_zero, List.set_cons_succ]
            refine held_do 6 86 (.bool false) (by kernel_rfl) (by kernel_rfl) (by kernel_rfl) (fun _ _ _ h => h) (by kernel_rfl) (by kernel_rfl) d0 (fun ww _ => by kernel_rfl) ?_
            try simp only [Act.put, List.setIfInBounds_toArray, List.set_cons_zero, List.set_cons_succ]
            refine held_do 7 87 (.agg #[.int .i64 n1, .int .i64 x1]) (by kernel_rfl) (by kernel_rfl) (by kernel_rfl) (fun _ _ _ h => h) (by kernel_rfl) (by kernel_rfl) d0 (fun ww h => run_of (op := .load 56 (.tmp 11)) (by kernel_rfl) (fun o ho => load_flt rfl (two_num h XA8.out) ho)) ?_
            try simp only [Act.put, List.setIfInBounds_toArray, List.set_cons_zero, List.set_cons_succ]
            refine held_call 8 88 48 #[.agg #[.int .i64 n1, .int .i64 x1]] (by kernel_rfl) (by kernel_rfl) (by kernel_rfl) (fun _ => by kernel_rfl) ((Q1.out _ d0).mono ?_)
            rintro _ v1 ⟨rfl, b1⟩
            have d1 := nx d0 b1
            clear b1
            refine ⟨_, rfl, d1, ?_⟩
            try simp only [Act.put, List.setIfInBounds_toArray, List.set_cons_zero, List.set_cons_succ]
            refine held_do 9 89 (.bool true) (by kernel_rfl) (by kernel_rfl) (by kernel_rfl) (fun _ _ _ h => h) (by kernel_rfl) (by kernel_rfl) d1 (fun ww _ => by kernel_rfl) ?_
            try simp only [Act.put, List.setIfInBounds_toArray, List.set_cons_zero, List.set_cons_succ]
            refine held_do 10 90 (.agg #[.int .i64 n2, .int .i64 x2]) (by kernel_rfl) (by kernel_rfl) (by kernel_rfl) (fun _ _ _ h => h) (by kernel_rfl) (by kernel_rfl) d1 (fun ww h => run_of (op := .load 56 (.tmp 12)) (by kernel_rfl) (fun o ho => load_flt rfl (two_num h XB8.out) ho)) ?_
            try simp only [Act.put, List.setIfInBounds_toArray, List.set_cons_zero, List.set_cons_succ]
            refine held_call 11 91 48 #[.agg #[.int .i64 n2, .int .i64 x2]] (by kernel_rfl) (by kernel_rfl) (by kernel_rfl) (fun _ => by kernel_rfl) ((Q2.out _ d1).mono ?_)
            rintro _ v2 ⟨rfl, b2⟩
            have d2 := nx d1 b2
            clear b2
            refine ⟨_, rfl, d2, ?_⟩
            try simp only [Act.put, List.setIfInBounds_toArray, List.set_cons_zero, List.set_cons_succ]
            refine held_do 12 92 (.bool false) (by kernel_rfl) (by kernel_rfl) (by kernel_rfl) (fun _ _ _ h => h) (by kernel_rfl) (by kernel_rfl) d2 (fun ww _ => by kernel_rfl) ?_
            try simp only [Act.put, List.setIfInBounds_toArray, List.set_cons_zero, List.set_cons_succ]
            refine held_do 13 93 (.bool false) (by kernel_rfl) (by kernel_rfl) (by kernel_rfl) (fun _ _ _ h => h) (by kernel_rfl) (by kernel_rfl) d2 (fun ww _ => by kernel_rfl) ?_
            try simp only [Act.put, List.setIfInBounds_toArray, List.set_cons_zero, List.set_cons_succ]
            refine held_skip 14 94 (by kernel_rfl) (by kernel_rfl) (by kernel_rfl) (fun _ _ _ h => h) (by kernel_rfl) (by kernel_rfl) d2 ?_
            try simp only [Act.put, List.setIfInBounds_toArray, List.set_cons_zero, List.set_cons_succ]
            refine held_skip 15 95 (by kernel_rfl) (by kernel_rfl) (by kernel_rfl) (fun _ _ _ h => h) (by kernel_rfl) (by kernel_rfl) d2 ?_
            try simp only [Act.put, List.setIfInBounds_toArray, List.set_cons_zero, List.set_cons_succ]
            refine held_skip 16 96 (by kernel_rfl) (by kernel_rfl) (by kernel_rfl) (fun _ _ _ h => h) (by kernel_rfl) (by kernel_rfl) d2 ?_
            try simp only [Act.put, List.setIfInBounds_toArray, List.set_cons_zero, List.set_cons_succ]
            refine held_skip 17 97 (by kernel_rfl) (by kernel_rfl) (by kernel_rfl) (fun _ _ _ h => h) (by kernel_rfl) (by kernel_rfl) d2 ?_
            try simp only [Act.put, List.setIfInBounds_toArray, List.set_cons_zero, List.set_cons_succ]
            refine held_skip 18 98 (by kernel_rfl) (by kernel_rfl) (by kernel_rfl) (fun _ _ _ h => h) (by kernel_rfl) (by kernel_rfl) d2 ?_
            try simp only [Act.put, List.setIfInBounds_toArray, List.set_cons_zero, List.set_cons_succ]
            refine held_skip 19 99 (by kernel_rfl) (by kernel_rfl) (by kernel_rfl) (fun _ _ _ h => h) (by kernel_rfl) (by kernel_rfl) d2 ?_
            try simp only [Act.put, List.setIfInBounds_toArray, List.set_cons_zero, List.set_cons_succ]
            refine held_skip 20 100 (by kernel_rfl) (by kernel_rfl) (by kernel_rfl) (fun _ _ _ h => h) (by kernel_rfl) (by kernel_rfl) d2 ?_
            try simp only [Act.put, List.setIfInBounds_toArray, List.set_cons_zero, List.set_cons_succ]
            refine held_skip 21 101 (by kernel_rfl) (by kernel_rfl) (by kernel_rfl) (fun _ _ _ h => h) (by kernel_rfl) (by kernel_rfl) d2 ?_
            try simp only [Act.put, List.setIfInBounds_toArray, List.set_cons_zero, List.set_cons_succ]
            refine held_skip 22 102 (by kernel_rfl) (by kernel_rfl) (by kernel_rfl) (fun _ _ _ h => h) (by kernel_rfl) (by kernel_rfl) d2 ?_
            try simp only [Act.put, List.setIfInBounds_toArray, List.set_cons_zero, List.set_cons_succ]
            refine held_skip 23 103 (by kernel_rfl) (by kernel_rfl) (by kernel_rfl) (fun _ _ _ h => h) (by kernel_rfl) (by kernel_rfl) d2 ?_
            try simp only [Act.put, List.setIfInBounds_toArray, List.set_cons_zero, List.set_cons_succ]
            refine held_skip 24 104 (by kernel_rfl) (by kernel_rfl) (by kernel_rfl) (fun _ _ _ h => h) (by kernel_rfl) (by kernel_rfl) d2 ?_
            try simp only [Act.put, List.setIfInBounds_toArray, List.set_cons_zero, List.set_cons_succ]
            refine held_skip 25 105 (by kernel_rfl) (by kernel_rfl) (by kernel_rfl) (fun _ _ _ h => h) (by kernel_rfl) (by kernel_rfl) d2 ?_
            try simp only [Act.put, List.setIfInBounds_toArray, List.set_cons_zero, List.set_cons_succ]
            refine held_do 26 106 (.bool false) (by kernel_rfl) (by kernel_rfl) (by kernel_rfl) (fun _ _ _ h => h) (by kernel_rfl) (by kernel_rfl) d2 (fun ww _ => by kernel_rfl) ?_
            try simp only [Act.put, List.setIfInBounds_toArray, List.set_cons_zero, List.set_cons_succ]
            refine held_do 27 107 (.bool false) (by kernel_rfl) (by kernel_rfl) (by kernel_rfl) (fun _ _ _ h => h) (by kernel_rfl) (by kernel_rfl) d2 (fun ww _ => by kernel_rfl) ?_
            try simp only [Act.put, List.setIfInBounds_toArray, List.set_cons_zero, List.set_cons_succ]
            refine wpAnyH_done (by kernel_rfl) ?_ _
            obtain ⟨w9, hw9⟩ : ∃ wx, wx = v2 := ⟨_, rfl⟩
            have XF9 : Hid (w9.heap[w1.heap.size]? = some (.cells #[.int .i64 m, .int .i64 e] 56 (0, 0))) := Lib.hid (by rw [hw9]; exact box_below XF8.out d2)
            have XD9 : Hid (w9.heap[w2.heap.size]? = some (.cells #[.int .i64 A, .int .i64 B] 42 (0, 0))) := Lib.hid (by rw [hw9]; exact box_below XD8.out d2)
            have XI9 : Hid (w9.heap[w4.heap.size]? = some (.cells #[.int .i64 G, .int .i64 H] 56 (0, 0))) := Lib.hid (by rw [hw9]; exact box_below XI8.out d2)
            have XJ9 : Hid (w9.heap[w5.heap.size]? = some (.cells #[.int .i64 G, .int .i64 H] 56 (0, 0))) := Lib.hid (by rw [hw9]; exact box_below XJ8.out d2)
            have XA9 : Hid (w9.heap[w6.heap.size]? = some (.cells #[.int .i64 n1, .int .i64 x1] 56 (0, 0))) := Lib.hid (by rw [hw9]; exact box_below XA8.out d2)
            have XB9 : Hid (w9.heap[(w6.heap.size + 1)]? = some (.cells #[.int .i64 n2, .int .i64 x2] 56 (0, 0))) := Lib.hid (by rw [hw9]; exact box_below XB8.out d2)
            have T9 := Lib.hid (show Below w.heap.size w w9 by rw [hw9]; exact nx T8.out d2)
            have Z9 := Lib.hid (show Below w8.heap.size w8 w9 by rw [hw9]; exact d2)
            rw [← hw9]
            clear d2 d1 d0 hw9
            go_wp2_with fail
            go_meet
            case rel => exact ⟨rfl, Z9.out⟩
          | true =>
            have hon := HONE.out rfl rfl
            cases L1 with
            | true =>
              have hne : ¬ (n1 = n2 ∧ x1 = x2) := by intro h; rw [decide_eq_true h] at hon; simp at hon
              clear hon
              by_cases e1 : n1 = n2
              · subst e1
                have e2 : (x1 == x2) = false := by have : ¬ x1 = x2 := fun h => hne ⟨rfl, h⟩
                                                   simpa using this
                clear hne
                have d0 : Below w8.heap.size w8 w8.drew := (Below.refl _ _).drew
                refine wp_region_held_drew (S := fun ww => Below w8.heap.size w8 ww) (by kernel_rfl) d0 (fun _ => ?_)
                refine held_do 0 80 (.bool false) (by kernel_rfl) (by kernel_rfl) (by kernel_rfl) (fun _ _ _ h => h) (by kernel_rfl) (by kernel_rfl) d0 (fun ww _ => by kernel_rfl) ?_
                try simp only [Act.put, List.setIfInBounds_toArray, List.set_cons_zero, List.set_cons_succ]
                refine held_do 1 81 (.bool false) (by kernel_rfl) (by kernel_rfl) (by kernel_rfl) (fun _ _ _ h => h) (by kernel_rfl) (by kernel_rfl) d0 (fun ww _ => by kernel_rfl) ?_
                try simp only [Act.put, List.setIfInBounds_toArray, List.set_cons_zero, List.set_cons_succ]
                refine held_skip 2 82 (by kernel_rfl) (by kernel_rfl) (by kernel_rfl) (fun _ _ _ h => h) (by kernel_rfl) (by kernel_rfl) d0 ?_
                try simp only [Act.put, List.setIfInBounds_toArray, List.set_cons_zero, List.set_cons_succ]
                refine held_skip 3 83 (by kernel_rfl) (by kernel_rfl) (by kernel_rfl) (fun _ _ _ h => h) (by kernel_rfl) (by kernel_rfl) d0 ?_
                try simp only [Act.put, List.setIfInBounds_toArray, List.set_cons_zero, List.set_cons_succ]
                refine held_skip 4 84 (by kernel_rfl) (by kernel_rfl) (by kernel_rfl) (fun _ _ _ h => h) (by kernel_rfl) (by kernel_rfl) d0 ?_
                try simp only [Act.put, List.setIfInBounds_toArray, List.set_cons_zero, List.set_cons_succ]
                refine held_do 5 85 (.bool false) (by kernel_rfl) (by kernel_rfl) (by kernel_rfl) (fun _ _ _ h => h) (by kernel_rfl) (by kernel_rfl) d0 (fun ww _ => by kernel_rfl) ?_
                try simp only [Act.put, List.setIfInBounds_toArray, List.set_cons_zero, List.set_cons_succ]
                refine held_do 6 86 (.bool false) (by kernel_rfl) (by kernel_rfl) (by kernel_rfl) (fun _ _ _ h => h) (by kernel_rfl) (by kernel_rfl) d0 (fun ww _ => by kernel_rfl) ?_
                try simp only [Act.put, List.setIfInBounds_toArray, List.set_cons_zero, List.set_cons_succ]
                refine held_do 7 87 (.agg #[.int .i64 n1, .int .i64 x1]) (by kernel_rfl) (by kernel_rfl) (by kernel_rfl) (fun _ _ _ h => h) (by kernel_rfl) (by kernel_rfl) d0 (fun ww h => run_of (op := .load 56 (.tmp 11)) (by kernel_rfl) (fun o ho => load_flt rfl (two_num h XA8.out) ho)) ?_
                try simp only [Act.put, List.setIfInBounds_toArray, List.set_cons_zero, List.set_cons_succ]
                refine held_call 8 88 48 #[.agg #[.int .i64 n1, .int .i64 x1]] (by kernel_rfl) (by kernel_rfl) (by kernel_rfl) (fun _ => by kernel_rfl) ((Q1.out _ d0).mono ?_)
                rintro _ v1 ⟨rfl, b1⟩
                have d1 := nx d0 b1
                clear b1
                refine ⟨_, rfl, d1, ?_⟩
                try simp only [Act.put, List.setIfInBounds_toArray, List.set_cons_zero, List.set_cons_succ]
                refine held_do 9 89 (.bool true) (by kernel_rfl) (by kernel_rfl) (by kernel_rfl) (fun _ _ _ h => h) (by kernel_rfl) (by kernel_rfl) d1 (fun ww _ => by kernel_rfl) ?_
                try simp only [Act.put, List.setIfInBounds_toArray, List.set_cons_zero, List.set_cons_succ]
                refine held_do 10 90 (.agg #[.int .i64 n1, .int .i64 x2]) (by kernel_rfl) (by kernel_rfl) (by kernel_rfl) (fun _ _ _ h => h) (by kernel_rfl) (by kernel_rfl) d1 (fun ww h => run_of (op := .load 56 (.tmp 12)) (by kernel_rfl) (fun o ho => load_flt rfl (two_num h XB8.out) ho)) ?_
                try simp only [Act.put, List.setIfInBounds_toArray, List.set_cons_zero, List.set_cons_succ]
                refine held_call 11 91 48 #[.agg #[.int .i64 n1, .int .i64 x2]] (by kernel_rfl) (by kernel_rfl) (by kernel_rfl) (fun _ => by kernel_rfl) ((Q2.out _ d1).mono ?_)
                rintro _ v2 ⟨rfl, b2⟩
                have d2 := nx d1 b2
                clear b2
                refine ⟨_, rfl, d2, ?_⟩
                try simp only [Act.put, List.setIfInBounds_toArray, List.set_cons_zero, List.set_cons_succ]
                refine held_do 12 92 (.bool true) (by kernel_rfl) (by kernel_rfl) (by kernel_rfl) (fun _ _ _ h => h) (by kernel_rfl) (by kernel_rfl) d2 (fun ww _ => by kernel_rfl) ?_
                try simp only [Act.put, List.setIfInBounds_toArray, List.set_cons_zero, List.set_cons_succ]
                refine held_do 13 93 (.bool true) (by kernel_rfl) (by kernel_rfl) (by kernel_rfl) (fun _ _ _ h => h) (by kernel_rfl) (by kernel_rfl) d2 (fun ww _ => by kernel_rfl) ?_
                try simp only [Act.put, List.setIfInBounds_toArray, List.set_cons_zero, List.set_cons_succ]
                refine held_do 14 94 (.agg #[.int .i64 n1, .int .i64 x1]) (by kernel_rfl) (by kernel_rfl) (by kernel_rfl) (fun _ _ _ h => h) (by kernel_rfl) (by kernel_rfl) d2 (fun ww h => run_of (op := .load 56 (.tmp 11)) (by kernel_rfl) (fun o ho => load_flt rfl (two_num h XA8.out) ho)) ?_
                try simp only [Act.put, List.setIfInBounds_toArray, List.set_cons_zero, List.set_cons_succ]
                refine held_do 15 95 (.agg #[.int .i64 n1, .int .i64 x2]) (by kernel_rfl) (by kernel_rfl) (by kernel_rfl) (fun _ _ _ h => h) (by kernel_rfl) (by kernel_rfl) d2 (fun ww h => run_of (op := .load 56 (.tmp 12)) (by kernel_rfl) (fun o ho => load_flt rfl (two_num h XB8.out) ho)) ?_
                try simp only [Act.put, List.setIfInBounds_toArray, List.set_cons_zero, List.set_cons_succ]
                refine held_do 22 102 (.agg #[.int .i64 n1, .int .i64 x1]) (by kernel_rfl) (by kernel_rfl) (by kernel_rfl) (fun _ _ _ h => h) (by kernel_rfl) (by kernel_rfl) d2 (fun ww h => run_of (op := .load 56 (.tmp 11)) (by kernel_rfl) (fun o ho => load_flt rfl (two_num h XA8.out) ho)) ?_
                try simp only [Act.put, List.setIfInBounds_toArray, List.set_cons_zero, List.set_cons_succ]
                refine held_do 23 103 (.agg #[.int .i64 n1, .int .i64 x2]) (by kernel_rfl) (by kernel_rfl) (by kernel_rfl) (fun _ _ _ h => h) (by kernel_rfl) (by kernel_rfl) d2 (fun ww h => run_of (op := .load 56 (.tmp 12)) (by kernel_rfl) (fun o ho => load_flt rfl (two_num h XB8.out) ho)) ?_
                try simp only [Act.put, List.setIfInBounds_toArray, List.set_cons_zero, List.set_cons_succ]
                refine held_do 24 104 (.bool false) (by kernel_rfl) (by kernel_rfl) (by kernel_rfl) (fun _ _ _ h => h) (by kernel_rfl) (by kernel_rfl) d2 (by intro ww hSw; clear hSw; go_simp) ?_
                try simp only [Act.put, List.setIfInBounds_toArray, List.set_cons_zero, List.set_cons_succ]
                refine held_call 16 96 46 #[.agg #[.int .i64 n1, .int .i64 x1], .agg #[.int .i64 n1, .int .i64 x2]] (by kernel_rfl) (by kernel_rfl) (by kernel_rfl) (fun _ => by kernel_rfl) ((Q3.out _ d2).mono ?_)
                rintro _ v3 ⟨rfl, b3⟩
                have d3 := nx d2 b3
                clear b3
                refine ⟨_, rfl, d3, ?_⟩
                try simp only [Act.put, List.setIfInBounds_toArray, List.set_cons_zero, List.set_cons_succ]
                refine held_do 17 97 (.bool true) (by kernel_rfl) (by kernel_rfl) (by kernel_rfl) (fun _ _ _ h => h) (by kernel_rfl) (by kernel_rfl) d3 (fun ww _ => by kernel_rfl) ?_
                try simp only [Act.put, List.setIfInBounds_toArray, List.set_cons_zero, List.set_cons_succ]
                refine held_skip 18 98 (by kernel_rfl) (by kernel_rfl) (by kernel_rfl) (fun _ _ _ h => h) (by kernel_rfl) (by kernel_rfl) d3 ?_
                try simp only [Act.put, List.setIfInBounds_toArray, List.set_cons_zero, List.set_cons_succ]
                refine held_skip 19 99 (by kernel_rfl) (by kernel_rfl) (by kernel_rfl) (fun _ _ _ h => h) (by kernel_rfl) (by kernel_rfl) d3 ?_
                try simp only [Act.put, List.setIfInBounds_toArray, List.set_cons_zero, List.set_cons_succ]
                refine held_skip 20 100 (by kernel_rfl) (by kernel_rfl) (by kernel_rfl) (fun _ _ _ h => h) (by kernel_rfl) (by kernel_rfl) d3 ?_
                try simp only [Act.put, List.setIfInBounds_toArray, List.set_cons_zero, List.set_cons_succ]
                refine held_do 21 101 (.bool true) (by kernel_rfl) (by kernel_rfl) (by kernel_rfl) (fun _ _ _ h => h) (by kernel_rfl) (by kernel_rfl) d3 (fun ww _ => by kernel_rfl) ?_
                try simp only [Act.put, List.setIfInBounds_toArray, List.set_cons_zero, List.set_cons_succ]
                refine held_do 25 105 (.bool false) (by kernel_rfl) (by kernel_rfl) (by kernel_rfl) (fun _ _ _ h => h) (by kernel_rfl) (by kernel_rfl) d3 (fun ww _ => by kernel_rfl) ?_
                try simp only [Act.put, List.setIfInBounds_toArray, List.set_cons_zero, List.set_cons_succ]
                refine held_do 26 106 (.bool false) (by kernel_rfl) (by kernel_rfl) (by kernel_rfl) (fun _ _ _ h => h) (by kernel_rfl) (by kernel_rfl) d3 (fun ww _ => by kernel_rfl) ?_
                try simp only [Act.put, List.setIfInBounds_toArray, List.set_cons_zero, List.set_cons_succ]
                refine held_do 27 107 (.bool false) (by kernel_rfl) (by kernel_rfl) (by kernel_rfl) (fun _ _ _ h => h) (by kernel_rfl) (by kernel_rfl) d3 (fun ww _ => by kernel_rfl) ?_
                try simp only [Act.put, List.setIfInBounds_toArray, List.set_cons_zero, List.set_cons_succ]
                refine wpAnyH_done (by kernel_rfl) ?_ _
                obtain ⟨w9, hw9⟩ : ∃ wx, wx = v3 := ⟨_, rfl⟩
                have XF9 : Hid (w9.heap[w1.heap.size]? = some (.cells #[.int .i64 m, .int .i64 e] 56 (0, 0))) := Lib.hid (by rw [hw9]; exact box_below XF8.out d3)
                have XD9 : Hid (w9.heap[w2.heap.size]? = some (.cells #[.int .i64 A, .int .i64 B] 42 (0, 0))) := Lib.hid (by rw [hw9]; exact box_below XD8.out d3)
                have XI9 : Hid (w9.heap[w4.heap.size]? = some (.cells #[.int .i64 G, .int .i64 H] 56 (0, 0))) := Lib.hid (by rw [hw9]; exact box_below XI8.out d3)
                have XJ9 : Hid (w9.heap[w5.heap.size]? = some (.cells #[.int .i64 G, .int .i64 H] 56 (0, 0))) := Lib.hid (by rw [hw9]; exact box_below XJ8.out d3)
                have XA9 : Hid (w9.heap[w6.heap.size]? = some (.cells #[.int .i64 n1, .int .i64 x1] 56 (0, 0))) := Lib.hid (by rw [hw9]; exact box_below XA8.out d3)
                have XB9 : Hid (w9.heap[(w6.heap.size + 1)]? = some (.cells #[.int .i64 n1, .int .i64 x2] 56 (0, 0))) := Lib.hid (by rw [hw9]; exact box_below XB8.out d3)
                have T9 := Lib.hid (show Below w.heap.size w w9 by rw [hw9]; exact nx T8.out d3)
                have Z9 := Lib.hid (show Below w8.heap.size w8 w9 by rw [hw9]; exact d3)
                rw [← hw9]
                clear d3 d2 d1 d0 hw9
                go_wp2_with fail
                go_meet
                case rel => exact ⟨rfl, Z9.out⟩
              · have e2 : (n1 == n2) = false := by simpa using e1
                clear hne e1
                have d0 : Below w8.heap.size w8 w8.drew := (Below.refl _ _).drew
                refine wp_region_held_drew (S := fun ww => Below w8.heap.size w8 ww) (by kernel_rfl) d0 (fun _ => ?_)
                refine held_do 0 80 (.bool false) (by kernel_rfl) (by kernel_rfl) (by kernel_rfl) (fun _ _ _ h => h) (by kernel_rfl) (by kernel_rfl) d0 (fun ww _ => by kernel_rfl) ?_
                try simp only [Act.put, List.setIfInBounds_toArray, List.set_cons_zero, List.set_cons_succ]
                refine held_do 1 81 (.bool false) (by kernel_rfl) (by kernel_rfl) (by kernel_rfl) (fun _ _ _ h => h) (by kernel_rfl) (by kernel_rfl) d0 (fun ww _ => by kernel_rfl) ?_
                try simp only [Act.put, List.setIfInBounds_toArray, List.set_cons_zero, List.set_cons_succ]
                refine held_skip 2 82 (by kernel_rfl) (by kernel_rfl) (by kernel_rfl) (fun _ _ _ h => h) (by kernel_rfl) (by kernel_rfl) d0 ?_
                try simp only [Act.put, List.setIfInBounds_toArray, List.set_cons_zero, List.set_cons_succ]
                refine held_skip 3 83 (by kernel_rfl) (by kernel_rfl) (by kernel_rfl) (fun _ _ _ h => h) (by kernel_rfl) (by kernel_rfl) d0 ?_
                try simp only [Act.put, List.setIfInBounds_toArray, List.set_cons_zero, List.set_cons_succ]
                refine held_skip 4 84 (by kernel_rfl) (by kernel_rfl) (by kernel_rfl) (fun _ _ _ h => h) (by kernel_rfl) (by kernel_rfl) d0 ?_
                try simp only [Act.put, List.setIfInBounds_toArray, List.set_cons_zero, List.set_cons_succ]
                refine held_do 5 85 (.bool false) (by kernel_rfl) (by kernel_rfl) (by kernel_rfl) (fun _ _ _ h => h) (by kernel_rfl) (by kernel_rfl) d0 (fun ww _ => by kernel_rfl) ?_
                try simp only [Act.put, List.setIfInBounds_toArray, List.set_cons_zero, List.set_cons_succ]
                refine held_do 6 86 (.bool false) (by kernel_rfl) (by kernel_rfl) (by kernel_rfl) (fun _ _ _ h => h) (by kernel_rfl) (by kernel_rfl) d0 (fun ww _ => by kernel_rfl) ?_
                try simp only [Act.put, List.setIfInBounds_toArray, List.set_cons_zero, List.set_cons_succ]
                refine held_do 7 87 (.agg #[.int .i64 n1, .int .i64 x1]) (by kernel_rfl) (by kernel_rfl) (by kernel_rfl) (fun _ _ _ h => h) (by kernel_rfl) (by kernel_rfl) d0 (fun ww h => run_of (op := .load 56 (.tmp 11)) (by kernel_rfl) (fun o ho => load_flt rfl (two_num h XA8.out) ho)) ?_
                try simp only [Act.put, List.setIfInBounds_toArray, List.set_cons_zero, List.set_cons_succ]
                refine held_call 8 88 48 #[.agg #[.int .i64 n1, .int .i64 x1]] (by kernel_rfl) (by kernel_rfl) (by kernel_rfl) (fun _ => by kernel_rfl) ((Q1.out _ d0).mono ?_)
                rintro _ v1 ⟨rfl, b1⟩
                have d1 := nx d0 b1
                clear b1
                refine ⟨_, rfl, d1, ?_⟩
                try simp only [Act.put, List.setIfInBounds_toArray, List.set_cons_zero, List.set_cons_succ]
                refine held_do 9 89 (.bool true) (by kernel_rfl) (by kernel_rfl) (by kernel_rfl) (fun _ _ _ h => h) (by kernel_rfl) (by kernel_rfl) d1 (fun ww _ => by kernel_rfl) ?_
                try simp only [Act.put, List.setIfInBounds_toArray, List.set_cons_zero, List.set_cons_succ]
                refine held_do 10 90 (.agg #[.int .i64 n2, .int .i64 x2]) (by kernel_rfl) (by kernel_rfl) (by kernel_rfl) (fun _ _ _ h => h) (by kernel_rfl) (by kernel_rfl) d1 (fun ww h => run_of (op := .load 56 (.tmp 12)) (by kernel_rfl) (fun o ho => load_flt rfl (two_num h XB8.out) ho)) ?_
                try simp only [Act.put, List.setIfInBounds_toArray, List.set_cons_zero, List.set_cons_succ]
                refine held_call 11 91 48 #[.agg #[.int .i64 n2, .int .i64 x2]] (by kernel_rfl) (by kernel_rfl) (by kernel_rfl) (fun _ => by kernel_rfl) ((Q2.out _ d1).mono ?_)
                rintro _ v2 ⟨rfl, b2⟩
                have d2 := nx d1 b2
                clear b2
                refine ⟨_, rfl, d2, ?_⟩
                try simp only [Act.put, List.setIfInBounds_toArray, List.set_cons_zero, List.set_cons_succ]
                refine held_do 12 92 (.bool true) (by kernel_rfl) (by kernel_rfl) (by kernel_rfl) (fun _ _ _ h => h) (by kernel_rfl) (by kernel_rfl) d2 (fun ww _ => by kernel_rfl) ?_
                try simp only [Act.put, List.setIfInBounds_toArray, List.set_cons_zero, List.set_cons_succ]
                refine held_do 13 93 (.bool true) (by kernel_rfl) (by kernel_rfl) (by kernel_rfl) (fun _ _ _ h => h) (by kernel_rfl) (by kernel_rfl) d2 (fun ww _ => by kernel_rfl) ?_
                try simp only [Act.put, List.setIfInBounds_toArray, List.set_cons_zero, List.set_cons_succ]
                refine held_do 14 94 (.agg #[.int .i64 n1, .int .i64 x1]) (by kernel_rfl) (by kernel_rfl) (by kernel_rfl) (fun _ _ _ h => h) (by kernel_rfl) (by kernel_rfl) d2 (fun ww h => run_of (op := .load 56 (.tmp 11)) (by kernel_rfl) (fun o ho => load_flt rfl (two_num h XA8.out) ho)) ?_
                try simp only [Act.put, List.setIfInBounds_toArray, List.set_cons_zero, List.set_cons_succ]
                refine held_do 15 95 (.agg #[.int .i64 n2, .int .i64 x2]) (by kernel_rfl) (by kernel_rfl) (by kernel_rfl) (fun _ _ _ h => h) (by kernel_rfl) (by kernel_rfl) d2 (fun ww h => run_of (op := .load 56 (.tmp 12)) (by kernel_rfl) (fun o ho => load_flt rfl (two_num h XB8.out) ho)) ?_
                try simp only [Act.put, List.setIfInBounds_toArray, List.set_cons_zero, List.set_cons_succ]
                refine held_do 22 102 (.agg #[.int .i64 n1, .int .i64 x1]) (by kernel_rfl) (by kernel_rfl) (by kernel_rfl) (fun _ _ _ h => h) (by kernel_rfl) (by kernel_rfl) d2 (fun ww h => run_of (op := .load 56 (.tmp 11)) (by kernel_rfl) (fun o ho => load_flt rfl (two_num h XA8.out) ho)) ?_
                try simp only [Act.put, List.setIfInBounds_toArray, List.set_cons_zero, List.set_cons_succ]
                refine held_do 23 103 (.agg #[.int .i64 n2, .int .i64 x2]) (by kernel_rfl) (by kernel_rfl) (by kernel_rfl) (fun _ _ _ h => h) (by kernel_rfl) (by kernel_rfl) d2 (fun ww h => run_of (op := .load 56 (.tmp 12)) (by kernel_rfl) (fun o ho => load_flt rfl (two_num h XB8.out) ho)) ?_
                try simp only [Act.put, List.setIfInBounds_toArray, List.set_cons_zero, List.set_cons_succ]
                refine held_do 24 104 (.bool false) (by kernel_rfl) (by kernel_rfl) (by kernel_rfl) (fun _ _ _ h => h) (by kernel_rfl) (by kernel_rfl) d2 (by intro ww hSw; clear hSw; go_simp) ?_
                try simp only [Act.put, List.setIfInBounds_toArray, List.set_cons_zero, List.set_cons_succ]
                refine held_call 16 96 46 #[.agg #[.int .i64 n1, .int .i64 x1], .agg #[.int .i64 n2, .int .i64 x2]] (by kernel_rfl) (by kernel_rfl) (by kernel_rfl) (fun _ => by kernel_rfl) ((Q3.out _ d2).mono ?_)
                rintro _ v3 ⟨rfl, b3⟩
                have d3 := nx d2 b3
                clear b3
                refine ⟨_, rfl, d3, ?_⟩
                try simp only [Act.put, List.setIfInBounds_toArray, List.set_cons_zero, List.set_cons_succ]
                refine held_do 17 97 (.bool true) (by kernel_rfl) (by kernel_rfl) (by kernel_rfl) (fun _ _ _ h => h) (by kernel_rfl) (by kernel_rfl) d3 (fun ww _ => by kernel_rfl) ?_
                try simp only [Act.put, List.setIfInBounds_toArray, List.set_cons_zero, List.set_cons_succ]
                refine held_skip 18 98 (by kernel_rfl) (by kernel_rfl) (by kernel_rfl) (fun _ _ _ h => h) (by kernel_rfl) (by kernel_rfl) d3 ?_
                try simp only [Act.put, List.setIfInBounds_toArray, List.set_cons_zero, List.set_cons_succ]
                refine held_skip 19 99 (by kernel_rfl) (by kernel_rfl) (by kernel_rfl) (fun _ _ _ h => h) (by kernel_rfl) (by kernel_rfl) d3 ?_
                try simp only [Act.put, List.setIfInBounds_toArray, List.set_cons_zero, List.set_cons_succ]
                refine held_skip 20 100 (by kernel_rfl) (by kernel_rfl) (by kernel_rfl) (fun _ _ _ h => h) (by kernel_rfl) (by kernel_rfl) d3 ?_
                try simp only [Act.put, List.setIfInBounds_toArray, List.set_cons_zero, List.set_cons_succ]
                refine held_do 21 101 (.bool true) (by kernel_rfl) (by kernel_rfl) (by kernel_rfl) (fun _ _ _ h => h) (by kernel_rfl) (by kernel_rfl) d3 (fun ww _ => by kernel_rfl) ?_
                try simp only [Act.put, List.setIfInBounds_toArray, List.set_cons_zero, List.set_cons_succ]
                refine held_do 25 105 (.bool false) (by kernel_rfl) (by kernel_rfl) (by kernel_rfl) (fun _ _ _ h => h) (by kernel_rfl) (by kernel_rfl) d3 (fun ww _ => by kernel_rfl) ?_
                try simp only [Act.put, List.setIfInBounds_toArray, List.set_cons_zero, List.set_cons_succ]
                refine held_do 26 106 (.bool false) (by kernel_rfl) (by kernel_rfl) (by kernel_rfl) (fun _ _ _ h => h) (by kernel_rfl) (by kernel_rfl) d3 (fun ww _ => by kernel_rfl) ?_
                try simp only [Act.put, List.setIfInBounds_toArray, List.set_cons_zero, List.set_cons_succ]
                refine held_do 27 107 (.bool false) (by kernel_rfl) (by kernel_rfl) (by kernel_rfl) (fun _ _ _ h => h) (by kernel_rfl) (by kernel_rfl) d3 (fun ww _ => by kernel_rfl) ?_
                try simp only [Act.put, List.setIfInBounds_toArray, List.set_cons_zero, List.set_cons_succ]
                refine wpAnyH_done (by kernel_rfl) ?_ _
                obtain ⟨w9, hw9⟩ : ∃ wx, wx = v3 := ⟨_, rfl⟩
                have XF9 : Hid (w9.heap[w1.heap.size]? = some (.cells #[.int .i64 m, .int .i64 e] 56 (0, 0))) := Lib.hid (by rw [hw9]; exact box_below XF8.out d3)
                have XD9 : Hid (w9.heap[w2.heap.size]? = some (.cells #[.int .i64 A, .int .i64 B] 42 (0, 0))) := Lib.hid (by rw [hw9]; exact box_below XD8.out d3)
                have XI9 : Hid (w9.heap[w4.heap.size]? = some (.cells #[.int .i64 G, .int .i64 H] 56 (0, 0))) := Lib.hid (by rw [hw9]; exact box_below XI8.out d3)
                have XJ9 : Hid (w9.heap[w5.heap.size]? = some (.cells #[.int .i64 G, .int .i64 H] 56 (0, 0))) := Lib.hid (by rw [hw9]; exact box_below XJ8.out d3)
                have XA9 : Hid (w9.heap[w6.heap.size]? = some (.cells #[.int .i64 n1, .int .i64 x1] 56 (0, 0))) := Lib.hid (by rw [hw9]; exact box_below XA8.out d3)
                have XB9 : Hid (w9.heap[(w6.heap.size + 1)]? = some (.cells #[.int .i64 n2, .int .i64 x2] 56 (0, 0))) := Lib.hid (by rw [hw9]; exact box_below XB8.out d3)
                have T9 := Lib.hid (show Below w.heap.size w w9 by rw [hw9]; exact nx T8.out d3)
                have Z9 := Lib.hid (show Below w8.heap.size w8 w9 by rw [hw9]; exact d3)
                rw [← hw9]
                clear d3 d2 d1 d0 hw9
                go_wp2_with fail
                go_meet
                case rel => exact ⟨rfl, Z9.out⟩
            | false =>
              cases L2 with
              | true =>
                have hne : ¬ (n1 = n2 ∧ x1 = x2) := by intro h; rw [decide_eq_true h] at hon; simp at hon
                clear hon
                by_cases e1 : n1 = n2
                · subst e1
                  have e2 : (x1 == x2) = false := by have : ¬ x1 = x2 := fun h => hne ⟨rfl, h⟩
                                                     simpa using this
                  clear hne
                  have d0 : Below w8.heap.size w8 w8.drew := (Below.refl _ _).drew
                  refine wp_region_held_drew (S := fun ww => Below w8.heap.size w8 ww) (by kernel_rfl) d0 (fun _ => ?_)
                  refine held_do 0 80 (.bool false) (by kernel_rfl) (by kernel_rfl) (by kernel_rfl) (fun _ _ _ h => h) (by kernel_rfl) (by kernel_rfl) d0 (fun ww _ => by kernel_rfl) ?_
                  try simp only [Act.put, List.setIfInBounds_toArray, List.set_cons_zero, List.set_cons_succ]
                  refine held_do 1 81 (.bool false) (by kernel_rfl) (by kernel_rfl) (by kernel_rfl) (fun _ _ _ h => h) (by kernel_rfl) (by kernel_rfl) d0 (fun ww _ => by kernel_rfl) ?_
                  try simp only [Act.put, List.setIfInBounds_toArray, List.set_cons_zero, List.set_cons_succ]
                  refine held_skip 2 82 (by kernel_rfl) (by kernel_rfl) (by kernel_rfl) (fun _ _ _ h => h) (by kernel_rfl) (by kernel_rfl) d0 ?_
                  try simp only [Act.put, List.setIfInBounds_toArray, List.set_cons_zero, List.set_cons_succ]
                  refine held_skip 3 83 (by kernel_rfl) (by kernel_rfl) (by kernel_rfl) (fun _ _ _ h => h) (by kernel_rfl) (by kernel_rfl) d0 ?_
                  try simp only [Act.put, List.setIfInBounds_toArray, List.set_cons_zero, List.set_cons_succ]
                  refine held_skip 4 84 (by kernel_rfl) (by kernel_rfl) (by kernel_rfl) (fun _ _ _ h => h) (by kernel_rfl) (by kernel_rfl) d0 ?_
                  try simp only [Act.put, List.setIfInBounds_toArray, List.set_cons_zero, List.set_cons_succ]
                  refine held_do 5 85 (.bool false) (by kernel_rfl) (by kernel_rfl) (by kernel_rfl) (fun _ _ _ h => h) (by kernel_rfl) (by kernel_rfl) d0 (fun ww _ => by kernel_rfl) ?_
                  try simp only [Act.put, List.setIfInBounds_toArray, List.set_cons_zero, List.set_cons_succ]
                  refine held_do 6 86 (.bool false) (by kernel_rfl) (by kernel_rfl) (by kernel_rfl) (fun _ _ _ h => h) (by kernel_rfl) (by kernel_rfl) d0 (fun ww _ => by kernel_rfl) ?_
                  try simp only [Act.put, List.setIfInBounds_toArray, List.set_cons_zero, List.set_cons_succ]
                  refine held_do 7 87 (.agg #[.int .i64 n1, .int .i64 x1]) (by kernel_rfl) (by kernel_rfl) (by kernel_rfl) (fun _ _ _ h => h) (by kernel_rfl) (by kernel_rfl) d0 (fun ww h => run_of (op := .load 56 (.tmp 11)) (by kernel_rfl) (fun o ho => load_flt rfl (two_num h XA8.out) ho)) ?_
                  try simp only [Act.put, List.setIfInBounds_toArray, List.set_cons_zero, List.set_cons_succ]
                  refine held_call 8 88 48 #[.agg #[.int .i64 n1, .int .i64 x1]] (by kernel_rfl) (by kernel_rfl) (by kernel_rfl) (fun _ => by kernel_rfl) ((Q1.out _ d0).mono ?_)
                  rintro _ v1 ⟨rfl, b1⟩
                  have d1 := nx d0 b1
                  clear b1
                  refine ⟨_, rfl, d1, ?_⟩
                  try simp only [Act.put, List.setIfInBounds_toArray, List.set_cons_zero, List.set_cons_succ]
                  refine held_do 9 89 (.bool true) (by kernel_rfl) (by kernel_rfl) (by kernel_rfl) (fun _ _ _ h => h) (by kernel_rfl) (by kernel_rfl) d1 (fun ww _ => by kernel_rfl) ?_
                  try simp only [Act.put, List.setIfInBounds_toArray, List.set_cons_zero, List.set_cons_succ]
                  refine held_do 10 90 (.agg #[.int .i64 n1, .int .i64 x2]) (by kernel_rfl) (by kernel_rfl) (by kernel_rfl) (fun _ _ _ h => h) (by kernel_rfl) (by kernel_rfl) d1 (fun ww h => run_of (op := .load 56 (.tmp 12)) (by kernel_rfl) (fun o ho => load_flt rfl (two_num h XB8.out) ho)) ?_
                  try simp only [Act.put, List.setIfInBounds_toArray, List.set_cons_zero, List.set_cons_succ]
                  refine held_call 11 91 48 #[.agg #[.int .i64 n1, .int .i64 x2]] (by kernel_rfl) (by kernel_rfl) (by kernel_rfl) (fun _ => by kernel_rfl) ((Q2.out _ d1).mono ?_)
                  rintro _ v2 ⟨rfl, b2⟩
                  have d2 := nx d1 b2
                  clear b2
                  refine ⟨_, rfl, d2, ?_⟩
                  try simp only [Act.put, List.setIfInBounds_toArray, List.set_cons_zero, List.set_cons_succ]
                  refine held_do 12 92 (.bool true) (by kernel_rfl) (by kernel_rfl) (by kernel_rfl) (fun _ _ _ h => h) (by kernel_rfl) (by kernel_rfl) d2 (fun ww _ => by kernel_rfl) ?_
                  try simp only [Act.put, List.setIfInBounds_toArray, List.set_cons_zero, List.set_cons_succ]
                  refine held_do 13 93 (.bool true) (by kernel_rfl) (by kernel_rfl) (by kernel_rfl) (fun _ _ _ h => h) (by kernel_rfl) (by kernel_rfl) d2 (fun ww _ => by kernel_rfl) ?_
                  try simp only [Act.put, List.setIfInBounds_toArray, List.set_cons_zero, List.set_cons_succ]
                  refine held_do 14 94 (.agg #[.int .i64 n1, .int .i64 x1]) (by kernel_rfl) (by kernel_rfl) (by kernel_rfl) (fun _ _ _ h => h) (by kernel_rfl) (by kernel_rfl) d2 (fun ww h => run_of (op := .load 56 (.tmp 11)) (by kernel_rfl) (fun o ho => load_flt rfl (two_num h XA8.out) ho)) ?_
                  try simp only [Act.put, List.setIfInBounds_toArray, List.set_cons_zero, List.set_cons_succ]
                  refine held_do 15 95 (.agg #[.int .i64 n1, .int .i64 x2]) (by kernel_rfl) (by kernel_rfl) (by kernel_rfl) (fun _ _ _ h => h) (by kernel_rfl) (by kernel_rfl) d2 (fun ww h => run_of (op := .load 56 (.tmp 12)) (by kernel_rfl) (fun o ho => load_flt rfl (two_num h XB8.out) ho)) ?_
                  try simp only [Act.put, List.setIfInBounds_toArray, List.set_cons_zero, List.set_cons_succ]
                  refine held_do 22 102 (.agg #[.int .i64 n1, .int .i64 x1]) (by kernel_rfl) (by kernel_rfl) (by kernel_rfl) (fun _ _ _ h => h) (by kernel_rfl) (by kernel_rfl) d2 (fun ww h => run_of (op := .load 56 (.tmp 11)) (by kernel_rfl) (fun o ho => load_flt rfl (two_num h XA8.out) ho)) ?_
                  try simp only [Act.put, List.setIfInBounds_toArray, List.set_cons_zero, List.set_cons_succ]
                  refine held_do 23 103 (.agg #[.int .i64 n1, .int .i64 x2]) (by kernel_rfl) (by kernel_rfl) (by kernel_rfl) (fun _ _ _ h => h) (by kernel_rfl) (by kernel_rfl) d2 (fun ww h => run_of (op := .load 56 (.tmp 12)) (by kernel_rfl) (fun o ho => load_flt rfl (two_num h XB8.out) ho)) ?_
                  try simp only [Act.put, List.setIfInBounds_toArray, List.set_cons_zero, List.set_cons_succ]
                  refine held_do 24 104 (.bool false) (by kernel_rfl) (by kernel_rfl) (by kernel_rfl) (fun _ _ _ h => h) (by kernel_rfl) (by kernel_rfl) d2 (by intro ww hSw; clear hSw; go_simp) ?_
                  try simp only [Act.put, List.setIfInBounds_toArray, List.set_cons_zero, List.set_cons_succ]
                  refine held_call 16 96 46 #[.agg #[.int .i64 n1, .int .i64 x1], .agg #[.int .i64 n1, .int .i64 x2]] (by kernel_rfl) (by kernel_rfl) (by kernel_rfl) (fun _ => by kernel_rfl) ((Q3.out _ d2).mono ?_)
                  rintro _ v3 ⟨rfl, b3⟩
                  have d3 := nx d2 b3
                  clear b3
                  refine ⟨_, rfl, d3, ?_⟩
                  try simp only [Act.put, List.setIfInBounds_toArray, List.set_cons_zero, List.set_cons_succ]
                  refine held_do 17 97 (.bool false) (by kernel_rfl) (by kernel_rfl) (by kernel_rfl) (fun _ _ _ h => h) (by kernel_rfl) (by kernel_rfl) d3 (fun ww _ => by kernel_rfl) ?_
                  try simp only [Act.put, List.setIfInBounds_toArray, List.set_cons_zero, List.set_cons_succ]
                  refine held_do 18 98 (.agg #[.int .i64 n1, .int .i64 x2]) (by kernel_rfl) (by kernel_rfl) (by kernel_rfl) (fun _ _ _ h => h) (by kernel_rfl) (by kernel_rfl) d3 (fun ww h => run_of (op := .load 56 (.tmp 12)) (by kernel_rfl) (fun o ho => load_flt rfl (two_num h XB8.out) ho)) ?_
                  try simp only [Act.put, List.setIfInBounds_toArray, List.set_cons_zero, List.set_cons_succ]
                  refine held_do 19 99 (.agg #[.int .i64 n1, .int .i64 x1]) (by kernel_rfl) (by kernel_rfl) (by kernel_rfl) (fun _ _ _ h => h) (by kernel_rfl) (by kernel_rfl) d3 (fun ww h => run_of (op := .load 56 (.tmp 11)) (by kernel_rfl) (fun o ho => load_flt rfl (two_num h XA8.out) ho)) ?_
                  try simp only [Act.put, List.setIfInBounds_toArray, List.set_cons_zero, List.set_cons_succ]
                  refine held_call 20 100 46 #[.agg #[.int .i64 n1, .int .i64 x2], .agg #[.int .i64 n1, .int .i64 x1]] (by kernel_rfl) (by kernel_rfl) (by kernel_rfl) (fun _ => by kernel_rfl) ((Q4.out _ d3).mono ?_)
                  rintro _ v4 ⟨rfl, b4⟩
                  have d4 := nx d3 b4
                  clear b4
                  refine ⟨_, rfl, d4, ?_⟩
                  try simp only [Act.put, List.setIfInBounds_toArray, List.set_cons_zero, List.set_cons_succ]
                  refine held_do 21 101 (.bool true) (by kernel_rfl) (by kernel_rfl) (by kernel_rfl) (fun _ _ _ h => h) (by kernel_rfl) (by kernel_rfl) d4 (fun ww _ => by kernel_rfl) ?_
                  try simp only [Act.put, List.setIfInBounds_toArray, List.set_cons_zero, List.set_cons_succ]
                  refine held_do 25 105 (.bool false) (by kernel_rfl) (by kernel_rfl) (by kernel_rfl) (fun _ _ _ h => h) (by kernel_rfl) (by kernel_rfl) d4 (fun ww _ => by kernel_rfl) ?_
                  try simp only [Act.put, List.setIfInBounds_toArray, List.set_cons_zero, List.set_cons_succ]
                  refine held_do 26 106 (.bool false) (by kernel_rfl) (by kernel_rfl) (by kernel_rfl) (fun _ _ _ h => h) (by kernel_rfl) (by kernel_rfl) d4 (fun ww _ => by kernel_rfl) ?_
                  try simp only [Act.put, List.setIfInBounds_toArray, List.set_cons_zero, List.set_cons_succ]
                  refine held_do 27 107 (.bool false) (by kernel_rfl) (by kernel_rfl) (by kernel_rfl) (fun _ _ _ h => h) (by kernel_rfl) (by kernel_rfl) d4 (fun ww _ => by kernel_rfl) ?_
                  try simp only [Act.put, List.setIfInBounds_toArray, List.set_cons_zero, List.set_cons_succ]
                  refine wpAnyH_done (by kernel_rfl) ?_ _
                  obtain ⟨w9, hw9⟩ : ∃ wx, wx = v4 := ⟨_, rfl⟩
                  have XF9 : Hid (w9.heap[w1.heap.size]? = some (.cells #[.int .i64 m, .int .i64 e] 56 (0, 0))) := Lib.hid (by rw [hw9]; exact box_below XF8.out d4)
                  have XD9 : Hid (w9.heap[w2.heap.size]? = some (.cells #[.int .i64 A, .int .i64 B] 42 (0, 0))) := Lib.hid (by rw [hw9]; exact box_below XD8.out d4)
                  have XI9 : Hid (w9.heap[w4.heap.size]? = some (.cells #[.int .i64 G, .int .i64 H] 56 (0, 0))) := Lib.hid (by rw [hw9]; exact box_below XI8.out d4)
                  have XJ9 : Hid (w9.heap[w5.heap.size]? = some (.cells #[.int .i64 G, .int .i64 H] 56 (0, 0))) := Lib.hid (by rw [hw9]; exact box_below XJ8.out d4)
                  have XA9 : Hid (w9.heap[w6.heap.size]? = some (.cells #[.int .i64 n1, .int .i64 x1] 56 (0, 0))) := Lib.hid (by rw [hw9]; exact box_below XA8.out d4)
                  have XB9 : Hid (w9.heap[(w6.heap.size + 1)]? = some (.cells #[.int .i64 n1, .int .i64 x2] 56 (0, 0))) := Lib.hid (by rw [hw9]; exact box_below XB8.out d4)
                  have T9 := Lib.hid (show Below w.heap.size w w9 by rw [hw9]; exact nx T8.out d4)
                  have Z9 := Lib.hid (show Below w8.heap.size w8 w9 by rw [hw9]; exact d4)
                  rw [← hw9]
                  clear d4 d3 d2 d1 d0 hw9
                  go_wp2_with fail
                  go_meet
                  case rel => exact ⟨rfl, Z9.out⟩
                · have e2 : (n1 == n2) = false := by simpa using e1
                  clear hne e1
                  have d0 : Below w8.heap.size w8 w8.drew := (Below.refl _ _).drew
                  refine wp_region_held_drew (S := fun ww => Below w8.heap.size w8 ww) (by kernel_rfl) d0 (fun _ => ?_)
                  refine held_do 0 80 (.bool false) (by kernel_rfl) (by kernel_rfl) (by kernel_rfl) (fun _ _ _ h => h) (by kernel_rfl) (by kernel_rfl) d0 (fun ww _ => by kernel_rfl) ?_
                  try simp only [Act.put, List.setIfInBounds_toArray, List.set_cons_zero, List.set_cons_succ]
                  refine held_do 1 81 (.bool false) (by kernel_rfl) (by kernel_rfl) (by kernel_rfl) (fun _ _ _ h => h) (by kernel_rfl) (by kernel_rfl) d0 (fun ww _ => by kernel_rfl) ?_
                  try simp only [Act.put, List.setIfInBounds_toArray, List.set_cons_zero, List.set_cons_succ]
                  refine held_skip 2 82 (by kernel_rfl) (by kernel_rfl) (by kernel_rfl) (fun _ _ _ h => h) (by kernel_rfl) (by kernel_rfl) d0 ?_
                  try simp only [Act.put, List.setIfInBounds_toArray, List.set_cons_zero, List.set_cons_succ]
                  refine held_skip 3 83 (by kernel_rfl) (by kernel_rfl) (by kernel_rfl) (fun _ _ _ h => h) (by kernel_rfl) (by kernel_rfl) d0 ?_
                  try simp only [Act.put, List.setIfInBounds_toArray, List.set_cons_zero, List.set_cons_succ]
                  refine held_skip 4 84 (by kernel_rfl) (by kernel_rfl) (by kernel_rfl) (fun _ _ _ h => h) (by kernel_rfl) (by kernel_rfl) d0 ?_
                  try simp only [Act.put, List.setIfInBounds_toArray, List.set_cons_zero, List.set_cons_succ]
                  refine held_do 5 85 (.bool false) (by kernel_rfl) (by kernel_rfl) (by kernel_rfl) (fun _ _ _ h => h) (by kernel_rfl) (by kernel_rfl) d0 (fun ww _ => by kernel_rfl) ?_
                  try simp only [Act.put, List.setIfInBounds_toArray, List.set_cons_zero, List.set_cons_succ]
                  refine held_do 6 86 (.bool false) (by kernel_rfl) (by kernel_rfl) (by kernel_rfl) (fun _ _ _ h => h) (by kernel_rfl) (by kernel_rfl) d0 (fun ww _ => by kernel_rfl) ?_
                  try simp only [Act.put, List.setIfInBounds_toArray, List.set_cons_zero, List.set_cons_succ]
                  refine held_do 7 87 (.agg #[.int .i64 n1, .int .i64 x1]) (by kernel_rfl) (by kernel_rfl) (by kernel_rfl) (fun _ _ _ h => h) (by kernel_rfl) (by kernel_rfl) d0 (fun ww h => run_of (op := .load 56 (.tmp 11)) (by kernel_rfl) (fun o ho => load_flt rfl (two_num h XA8.out) ho)) ?_
                  try simp only [Act.put, List.setIfInBounds_toArray, List.set_cons_zero, List.set_cons_succ]
                  refine held_call 8 88 48 #[.agg #[.int .i64 n1, .int .i64 x1]] (by kernel_rfl) (by kernel_rfl) (by kernel_rfl) (fun _ => by kernel_rfl) ((Q1.out _ d0).mono ?_)
                  rintro _ v1 ⟨rfl, b1⟩
                  have d1 := nx d0 b1
                  clear b1
                  refine ⟨_, rfl, d1, ?_⟩
                  try simp only [Act.put, List.setIfInBounds_toArray, List.set_cons_zero, List.set_cons_succ]
                  refine held_do 9 89 (.bool true) (by kernel_rfl) (by kernel_rfl) (by kernel_rfl) (fun _ _ _ h => h) (by kernel_rfl) (by kernel_rfl) d1 (fun ww _ => by kernel_rfl) ?_
                  try simp only [Act.put, List.setIfInBounds_toArray, List.set_cons_zero, List.set_cons_succ]
                  refine held_do 10 90 (.agg #[.int .i64 n2, .int .i64 x2]) (by kernel_rfl) (by kernel_rfl) (by kernel_rfl) (fun _ _ _ h => h) (by kernel_rfl) (by kernel_rfl) d1 (fun ww h => run_of (op := .load 56 (.tmp 12)) (by kernel_rfl) (fun o ho => load_flt rfl (two_num h XB8.out) ho)) ?_
                  try simp only [Act.put, List.setIfInBounds_toArray, List.set_cons_zero, List.set_cons_succ]
                  refine held_call 11 91 48 #[.agg #[.int .i64 n2, .int .i64 x2]] (by kernel_rfl) (by kernel_rfl) (by kernel_rfl) (fun _ => by kernel_rfl) ((Q2.out _ d1).mono ?_)
                  rintro _ v2 ⟨rfl, b2⟩
                  have d2 := nx d1 b2
                  clear b2
                  refine ⟨_, rfl, d2, ?_⟩
                  try simp only [Act.put, List.setIfInBounds_toArray, List.set_cons_zero, List.set_cons_succ]
                  refine held_do 12 92 (.bool true) (by kernel_rfl) (by kernel_rfl) (by kernel_rfl) (fun _ _ _ h => h) (by kernel_rfl) (by kernel_rfl) d2 (fun ww _ => by kernel_rfl) ?_
                  try simp only [Act.put, List.setIfInBounds_toArray, List.set_cons_zero, List.set_cons_succ]
                  refine held_do 13 93 (.bool true) (by kernel_rfl) (by kernel_rfl) (by kernel_rfl) (fun _ _ _ h => h) (by kernel_rfl) (by kernel_rfl) d2 (fun ww _ => by kernel_rfl) ?_
                  try simp only [Act.put, List.setIfInBounds_toArray, List.set_cons_zero, List.set_cons_succ]
                  refine held_do 14 94 (.agg #[.int .i64 n1, .int .i64 x1]) (by kernel_rfl) (by kernel_rfl) (by kernel_rfl) (fun _ _ _ h => h) (by kernel_rfl) (by kernel_rfl) d2 (fun ww h => run_of (op := .load 56 (.tmp 11)) (by kernel_rfl) (fun o ho => load_flt rfl (two_num h XA8.out) ho)) ?_
                  try simp only [Act.put, List.setIfInBounds_toArray, List.set_cons_zero, List.set_cons_succ]
                  refine held_do 15 95 (.agg #[.int .i64 n2, .int .i64 x2]) (by kernel_rfl) (by kernel_rfl) (by kernel_rfl) (fun _ _ _ h => h) (by kernel_rfl) (by kernel_rfl) d2 (fun ww h => run_of (op := .load 56 (.tmp 12)) (by kernel_rfl) (fun o ho => load_flt rfl (two_num h XB8.out) ho)) ?_
                  try simp only [Act.put, List.setIfInBounds_toArray, List.set_cons_zero, List.set_cons_succ]
                  refine held_do 22 102 (.agg #[.int .i64 n1, .int .i64 x1]) (by kernel_rfl) (by kernel_rfl) (by kernel_rfl) (fun _ _ _ h => h) (by kernel_rfl) (by kernel_rfl) d2 (fun ww h => run_of (op := .load 56 (.tmp 11)) (by kernel_rfl) (fun o ho => load_flt rfl (two_num h XA8.out) ho)) ?_
                  try simp only [Act.put, List.setIfInBounds_toArray, List.set_cons_zero, List.set_cons_succ]
                  refine held_do 23 103 (.agg #[.int .i64 n2, .int .i64 x2]) (by kernel_rfl) (by kernel_rfl) (by kernel_rfl) (fun _ _ _ h => h) (by kernel_rfl) (by kernel_rfl) d2 (fun ww h => run_of (op := .load 56 (.tmp 12)) (by kernel_rfl) (fun o ho => load_flt rfl (two_num h XB8.out) ho)) ?_
                  try simp only [Act.put, List.setIfInBounds_toArray, List.set_cons_zero, List.set_cons_succ]
                  refine held_do 24 104 (.bool false) (by kernel_rfl) (by kernel_rfl) (by kernel_rfl) (fun _ _ _ h => h) (by kernel_rfl) (by kernel_rfl) d2 (by intro ww hSw; clear hSw; go_simp) ?_
                  try simp only [Act.put, List.setIfInBounds_toArray, List.set_cons_zero, List.set_cons_succ]
                  refine held_call 16 96 46 #[.agg #[.int .i64 n1, .int .i64 x1], .agg #[.int .i64 n2, .int .i64 x2]] (by kernel_rfl) (by kernel_rfl) (by kernel_rfl) (fun _ => by kernel_rfl) ((Q3.out _ d2).mono ?_)
                  rintro _ v3 ⟨rfl, b3⟩
                  have d3 := nx d2 b3
                  clear b3
                  refine ⟨_, rfl, d3, ?_⟩
                  try simp only [Act.put, List.setIfInBounds_toArray, List.set_cons_zero, List.set_cons_succ]
                  refine held_do 17 97 (.bool false) (by kernel_rfl) (by kernel_rfl) (by kernel_rfl) (fun _ _ _ h => h) (by kernel_rfl) (by kernel_rfl) d3 (fun ww _ => by kernel_rfl) ?_
                  try simp only [Act.put, List.setIfInBounds_toArray, List.set_cons_zero, List.set_cons_succ]
                  refine held_do 18 98 (.agg #[.int .i64 n2, .int .i64 x2]) (by kernel_rfl) (by kernel_rfl) (by kernel_rfl) (fun _ _ _ h => h) (by kernel_rfl) (by kernel_rfl) d3 (fun ww h => run_of (op := .load 56 (.tmp 12)) (by kernel_rfl) (fun o ho => load_flt rfl (two_num h XB8.out) ho)) ?_
                  try simp only [Act.put, List.setIfInBounds_toArray, List.set_cons_zero, List.set_cons_succ]
                  refine held_do 19 99 (.agg #[.int .i64 n1, .int .i64 x1]) (by kernel_rfl) (by kernel_rfl) (by kernel_rfl) (fun _ _ _ h => h) (by kernel_rfl) (by kernel_rfl) d3 (fun ww h => run_of (op := .load 56 (.tmp 11)) (by kernel_rfl) (fun o ho => load_flt rfl (two_num h XA8.out) ho)) ?_
                  try simp only [Act.put, List.setIfInBounds_toArray, List.set_cons_zero, List.set_cons_succ]
                  refine held_call 20 100 46 #[.agg #[.int .i64 n2, .int .i64 x2], .agg #[.int .i64 n1, .int .i64 x1]] (by kernel_rfl) (by kernel_rfl) (by kernel_rfl) (fun _ => by kernel_rfl) ((Q4.out _ d3).mono ?_)
                  rintro _ v4 ⟨rfl, b4⟩
                  have d4 := nx d3 b4
                  clear b4
                  refine ⟨_, rfl, d4, ?_⟩
                  try simp only [Act.put, List.setIfInBounds_toArray, List.set_cons_zero, List.set_cons_succ]
                  refine held_do 21 101 (.bool true) (by kernel_rfl) (by kernel_rfl) (by kernel_rfl) (fun _ _ _ h => h) (by kernel_rfl) (by kernel_rfl) d4 (fun ww _ => by kernel_rfl) ?_
                  try simp only [Act.put, List.setIfInBounds_toArray, List.set_cons_zero, List.set_cons_succ]
                  refine held_do 25 105 (.bool false) (by kernel_rfl) (by kernel_rfl) (by kernel_rfl) (fun _ _ _ h => h) (by kernel_rfl) (by kernel_rfl) d4 (fun ww _ => by kernel_rfl) ?_
                  try simp only [Act.put, List.setIfInBounds_toArray, List.set_cons_zero, List.set_cons_succ]
                  refine held_do 26 106 (.bool false) (by kernel_rfl) (by kernel_rfl) (by kernel_rfl) (fun _ _ _ h => h) (by kernel_rfl) (by kernel_rfl) d4 (fun ww _ => by kernel_rfl) ?_
                  try simp only [Act.put, List.setIfInBounds_toArray, List.set_cons_zero, List.set_cons_succ]
                  refine held_do 27 107 (.bool false) (by kernel_rfl) (by kernel_rfl) (by kernel_rfl) (fun _ _ _ h => h) (by kernel_rfl) (by kernel_rfl) d4 (fun ww _ => by kernel_rfl) ?_
                  try simp only [Act.put, List.setIfInBounds_toArray, List.set_cons_zero, List.set_cons_succ]
                  refine wpAnyH_done (by kernel_rfl) ?_ _
                  obtain ⟨w9, hw9⟩ : ∃ wx, wx = v4 := ⟨_, rfl⟩
                  have XF9 : Hid (w9.heap[w1.heap.size]? = some (.cells #[.int .i64 m, .int .i64 e] 56 (0, 0))) := Lib.hid (by rw [hw9]; exact box_below XF8.out d4)
                  have XD9 : Hid (w9.heap[w2.heap.size]? = some (.cells #[.int .i64 A, .int .i64 B] 42 (0, 0))) := Lib.hid (by rw [hw9]; exact box_below XD8.out d4)
                  have XI9 : Hid (w9.heap[w4.heap.size]? = some (.cells #[.int .i64 G, .int .i64 H] 56 (0, 0))) := Lib.hid (by rw [hw9]; exact box_below XI8.out d4)
                  have XJ9 : Hid (w9.heap[w5.heap.size]? = some (.cells #[.int .i64 G, .int .i64 H] 56 (0, 0))) := Lib.hid (by rw [hw9]; exact box_below XJ8.out d4)
                  have XA9 : Hid (w9.heap[w6.heap.size]? = some (.cells #[.int .i64 n1, .int .i64 x1] 56 (0, 0))) := Lib.hid (by rw [hw9]; exact box_below XA8.out d4)
                  have XB9 : Hid (w9.heap[(w6.heap.size + 1)]? = some (.cells #[.int .i64 n2, .int .i64 x2] 56 (0, 0))) := Lib.hid (by rw [hw9]; exact box_below XB8.out d4)
                  have T9 := Lib.hid (show Below w.heap.size w w9 by rw [hw9]; exact nx T8.out d4)
                  have Z9 := Lib.hid (show Below w8.heap.size w8 w9 by rw [hw9]; exact d4)
                  rw [← hw9]
                  clear d4 d3 d2 d1 d0 hw9
                  go_wp2_with fail
                  go_meet
                  case rel => exact ⟨rfl, Z9.out⟩
              | false =>
                obtain ⟨rfl, rfl⟩ : n1 = n2 ∧ x1 = x2 := by refine Decidable.byContradiction fun h => ?_; rw [decide_eq_false h] at hon; simp at hon
                clear hon
                have d0 : Below w8.heap.size w8 w8.drew := (Below.refl _ _).drew
                refine wp_region_held_drew (S := fun ww => Below w8.heap.size w8 ww) (by kernel_rfl) d0 (fun _ => ?_)
                refine held_do 0 80 (.bool false) (by kernel_rfl) (by kernel_rfl) (by kernel_rfl) (fun _ _ _ h => h) (by kernel_rfl) (by kernel_rfl) d0 (fun ww _ => by kernel_rfl) ?_
                try simp only [Act.put, List.setIfInBounds_toArray, List.set_cons_zero, List.set_cons_succ]
                refine held_do 1 81 (.bool false) (by kernel_rfl) (by kernel_rfl) (by kernel_rfl) (fun _ _ _ h => h) (by kernel_rfl) (by kernel_rfl) d0 (fun ww _ => by kernel_rfl) ?_
                try simp only [Act.put, List.setIfInBounds_toArray, List.set_cons_zero, List.set_cons_succ]
                refine held_skip 2 82 (by kernel_rfl) (by kernel_rfl) (by kernel_rfl) (fun _ _ _ h => h) (by kernel_rfl) (by kernel_rfl) d0 ?_
                try simp only [Act.put, List.setIfInBounds_toArray, List.set_cons_zero, List.set_cons_succ]
                refine held_skip 3 83 (by kernel_rfl) (by kernel_rfl) (by kernel_rfl) (fun _ _ _ h => h) (by kernel_rfl) (by kernel_rfl) d0 ?_
                try simp only [Act.put, List.setIfInBounds_toArray, List.set_cons_zero, List.set_cons_succ]
                refine held_skip 4 84 (by kernel_rfl) (by kernel_rfl) (by kernel_rfl) (fun _ _ _ h => h) (by kernel_rfl) (by kernel_rfl) d0 ?_
                try simp only [Act.put, List.setIfInBounds_toArray, List.set_cons_zero, List.set_cons_succ]
                refine held_do 5 85 (.bool false) (by kernel_rfl) (by kernel_rfl) (by kernel_rfl) (fun _ _ _ h => h) (by kernel_rfl) (by kernel_rfl) d0 (fun ww _ => by kernel_rfl) ?_
                try simp only [Act.put, List.setIfInBounds_toArray, List.set_cons_zero, List.set_cons_succ]
                refine held_do 6 86 (.bool false) (by kernel_rfl) (by kernel_rfl) (by kernel_rfl) (fun _ _ _ h => h) (by kernel_rfl) (by kernel_rfl) d0 (fun ww _ => by kernel_rfl) ?_
                try simp only [Act.put, List.setIfInBounds_toArray, List.set_cons_zero, List.set_cons_succ]
                refine held_do 7 87 (.agg #[.int .i64 n1, .int .i64 x1]) (by kernel_rfl) (by kernel_rfl) (by kernel_rfl) (fun _ _ _ h => h) (by kernel_rfl) (by kernel_rfl) d0 (fun ww h => run_of (op := .load 56 (.tmp 11)) (by kernel_rfl) (fun o ho => load_flt rfl (two_num h XA8.out) ho)) ?_
                try simp only [Act.put, List.setIfInBounds_toArray, List.set_cons_zero, List.set_cons_succ]
                refine held_call 8 88 48 #[.agg #[.int .i64 n1, .int .i64 x1]] (by kernel_rfl) (by kernel_rfl) (by kernel_rfl) (fun _ => by kernel_rfl) ((Q1.out _ d0).mono ?_)
                rintro _ v1 ⟨rfl, b1⟩
                have d1 := nx d0 b1
                clear b1
                refine ⟨_, rfl, d1, ?_⟩
                try simp only [Act.put, List.setIfInBounds_toArray, List.set_cons_zero, List.set_cons_succ]
                refine held_do 9 89 (.bool true) (by kernel_rfl) (by kernel_rfl) (by kernel_rfl) (fun _ _ _ h => h) (by kernel_rfl) (by kernel_rfl) d1 (fun ww _ => by kernel_rfl) ?_
                try simp only [Act.put, List.setIfInBounds_toArray, List.set_cons_zero, List.set_cons_succ]
                refine held_do 10 90 (.agg #[.int .i64 n1, .int .i64 x1]) (by kernel_rfl) (by kernel_rfl) (by kernel_rfl) (fun _ _ _ h => h) (by kernel_rfl) (by kernel_rfl) d1 (fun ww h => run_of (op := .load 56 (.tmp 12)) (by kernel_rfl) (fun o ho => load_flt rfl (two_num h XB8.out) ho)) ?_
                try simp only [Act.put, List.setIfInBounds_toArray, List.set_cons_zero, List.set_cons_succ]
                refine held_call 11 91 48 #[.agg #[.int .i64 n1, .int .i64 x1]] (by kernel_rfl) (by kernel_rfl) (by kernel_rfl) (fun _ => by kernel_rfl) ((Q2.out _ d1).mono ?_)
                rintro _ v2 ⟨rfl, b2⟩
                have d2 := nx d1 b2
                clear b2
                refine ⟨_, rfl, d2, ?_⟩
                try simp only [Act.put, List.setIfInBounds_toArray, List.set_cons_zero, List.set_cons_succ]
                refine held_do 12 92 (.bool true) (by kernel_rfl) (by kernel_rfl) (by kernel_rfl) (fun _ _ _ h => h) (by kernel_rfl) (by kernel_rfl) d2 (fun ww _ => by kernel_rfl) ?_
                try simp only [Act.put, List.setIfInBounds_toArray, List.set_cons_zero, List.set_cons_succ]
                refine held_do 13 93 (.bool true) (by kernel_rfl) (by kernel_rfl) (by kernel_rfl) (fun _ _ _ h => h) (by kernel_rfl) (by kernel_rfl) d2 (fun ww _ => by kernel_rfl) ?_
                try simp only [Act.put, List.setIfInBounds_toArray, List.set_cons_zero, List.set_cons_succ]
                refine held_do 14 94 (.agg #[.int .i64 n1, .int .i64 x1]) (by kernel_rfl) (by kernel_rfl) (by kernel_rfl) (fun _ _ _ h => h) (by kernel_rfl) (by kernel_rfl) d2 (fun ww h => run_of (op := .load 56 (.tmp 11)) (by kernel_rfl) (fun o ho => load_flt rfl (two_num h XA8.out) ho)) ?_
                try simp only [Act.put, List.setIfInBounds_toArray, List.set_cons_zero, List.set_cons_succ]
                refine held_do 15 95 (.agg #[.int .i64 n1, .int .i64 x1]) (by kernel_rfl) (by kernel_rfl) (by kernel_rfl) (fun _ _ _ h => h) (by kernel_rfl) (by kernel_rfl) d2 (fun ww h => run_of (op := .load 56 (.tmp 12)) (by kernel_rfl) (fun o ho => load_flt rfl (two_num h XB8.out) ho)) ?_
                try simp only [Act.put, List.setIfInBounds_toArray, List.set_cons_zero, List.set_cons_succ]
                refine held_do 22 102 (.agg #[.int .i64 n1, .int .i64 x1]) (by kernel_rfl) (by kernel_rfl) (by kernel_rfl) (fun _ _ _ h => h) (by kernel_rfl) (by kernel_rfl) d2 (fun ww h => run_of (op := .load 56 (.tmp 11)) (by kernel_rfl) (fun o ho => load_flt rfl (two_num h XA8.out) ho)) ?_
                try simp only [Act.put, List.setIfInBounds_toArray, List.set_cons_zero, List.set_cons_succ]
                refine held_do 23 103 (.agg #[.int .i64 n1, .int .i64 x1]) (by kernel_rfl) (by kernel_rfl) (by kernel_rfl) (fun _ _ _ h => h) (by kernel_rfl) (by kernel_rfl) d2 (fun ww h => run_of (op := .load 56 (.tmp 12)) (by kernel_rfl) (fun o ho => load_flt rfl (two_num h XB8.out) ho)) ?_
                try simp only [Act.put, List.setIfInBounds_toArray, List.set_cons_zero, List.set_cons_succ]
                refine held_do 24 104 (.bool true) (by kernel_rfl) (by kernel_rfl) (by kernel_rfl) (fun _ _ _ h => h) (by kernel_rfl) (by kernel_rfl) d2 (by intro ww hSw; clear hSw; go_simp) ?_
                try simp only [Act.put, List.setIfInBounds_toArray, List.set_cons_zero, List.set_cons_succ]
                refine held_call 16 96 46 #[.agg #[.int .i64 n1, .int .i64 x1], .agg #[.int .i64 n1, .int .i64 x1]] (by kernel_rfl) (by kernel_rfl) (by kernel_rfl) (fun _ => by kernel_rfl) ((Q3.out _ d2).mono ?_)
                rintro _ v3 ⟨rfl, b3⟩
                have d3 := nx d2 b3
                clear b3
                refine ⟨_, rfl, d3, ?_⟩
                try simp only [Act.put, List.setIfInBounds_toArray, List.set_cons_zero, List.set_cons_succ]
                refine held_do 17 97 (.bool false) (by kernel_rfl) (by kernel_rfl) (by kernel_rfl) (fun _ _ _ h => h) (by kernel_rfl) (by kernel_rfl) d3 (fun ww _ => by kernel_rfl) ?_
                try simp only [Act.put, List.setIfInBounds_toArray, List.set_cons_zero, List.set_cons_succ]
                refine held_do 18 98 (.agg #[.int .i64 n1, .int .i64 x1]) (by kernel_rfl) (by kernel_rfl) (by kernel_rfl) (fun _ _ _ h => h) (by kernel_rfl) (by kernel_rfl) d3 (fun ww h => run_of (op := .load 56 (.tmp 12)) (by kernel_rfl) (fun o ho => load_flt rfl (two_num h XB8.out) ho)) ?_
                try simp only [Act.put, List.setIfInBounds_toArray, List.set_cons_zero, List.set_cons_succ]
                refine held_do 19 99 (.agg #[.int .i64 n1, .int .i64 x1]) (by kernel_rfl) (by kernel_rfl) (by kernel_rfl) (fun _ _ _ h => h) (by kernel_rfl) (by kernel_rfl) d3 (fun ww h => run_of (op := .load 56 (.tmp 11)) (by kernel_rfl) (fun o ho => load_flt rfl (two_num h XA8.out) ho)) ?_
                try simp only [Act.put, List.setIfInBounds_toArray, List.set_cons_zero, List.set_cons_succ]
                refine held_call 20 100 46 #[.agg #[.int .i64 n1, .int .i64 x1], .agg #[.int .i64 n1, .int .i64 x1]] (by kernel_rfl) (by kernel_rfl) (by kernel_rfl) (fun _ => by kernel_rfl) ((Q4.out _ d3).mono ?_)
                rintro _ v4 ⟨rfl, b4⟩
                have d4 := nx d3 b4
                clear b4
                refine ⟨_, rfl, d4, ?_⟩
                try simp only [Act.put, List.setIfInBounds_toArray, List.set_cons_zero, List.set_cons_succ]
                refine held_do 21 101 (.bool false) (by kernel_rfl) (by kernel_rfl) (by kernel_rfl) (fun _ _ _ h => h) (by kernel_rfl) (by kernel_rfl) d4 (fun ww _ => by kernel_rfl) ?_
                try simp only [Act.put, List.setIfInBounds_toArray, List.set_cons_zero, List.set_cons_succ]
                refine held_do 25 105 (.bool false) (by kernel_rfl) (by kernel_rfl) (by kernel_rfl) (fun _ _ _ h => h) (by kernel_rfl) (by kernel_rfl) d4 (fun ww _ => by kernel_rfl) ?_
                try simp only [Act.put, List.setIfInBounds_toArray, List.set_cons_zero, List.set_cons_succ]
                refine held_do 26 106 (.bool false) (by kernel_rfl) (by kernel_rfl) (by kernel_rfl) (fun _ _ _ h => h) (by kernel_rfl) (by kernel_rfl) d4 (fun ww _ => by kernel_rfl) ?_
                try simp only [Act.put, List.setIfInBounds_toArray, List.set_cons_zero, List.set_cons_succ]
                refine held_do 27 107 (.bool false) (by kernel_rfl) (by kernel_rfl) (by kernel_rfl) (fun _ _ _ h => h) (by kernel_rfl) (by kernel_rfl) d4 (fun ww _ => by kernel_rfl) ?_
                try simp only [Act.put, List.setIfInBounds_toArray, List.set_cons_zero, List.set_cons_succ]
                refine wpAnyH_done (by kernel_rfl) ?_ _
                obtain ⟨w9, hw9⟩ : ∃ wx, wx = v4 := ⟨_, rfl⟩
                have XF9 : Hid (w9.heap[w1.heap.size]? = some (.cells #[.int .i64 m, .int .i64 e] 56 (0, 0))) := Lib.hid (by rw [hw9]; exact box_below XF8.out d4)
                have XD9 : Hid (w9.heap[w2.heap.size]? = some (.cells #[.int .i64 A, .int .i64 B] 42 (0, 0))) := Lib.hid (by rw [hw9]; exact box_below XD8.out d4)
                have XI9 : Hid (w9.heap[w4.heap.size]? = some (.cells #[.int .i64 G, .int .i64 H] 56 (0, 0))) := Lib.hid (by rw [hw9]; exact box_below XI8.out d4)
                have XJ9 : Hid (w9.heap[w5.heap.size]? = some (.cells #[.int .i64 G, .int .i64 H] 56 (0, 0))) := Lib.hid (by rw [hw9]; exact box_below XJ8.out d4)
                have XA9 : Hid (w9.heap[w6.heap.size]? = some (.cells #[.int .i64 n1, .int .i64 x1] 56 (0, 0))) := Lib.hid (by rw [hw9]; exact box_below XA8.out d4)
                have XB9 : Hid (w9.heap[(w6.heap.size + 1)]? = some (.cells #[.int .i64 n1, .int .i64 x1] 56 (0, 0))) := Lib.hid (by rw [hw9]; exact box_below XB8.out d4)
                have T9 := Lib.hid (show Below w.heap.size w w9 by rw [hw9]; exact nx T8.out d4)
                have Z9 := Lib.hid (show Below w8.heap.size w8 w9 by rw [hw9]; exact d4)
                rw [← hw9]
                clear d4 d3 d2 d1 d0 hw9
                go_wp2_with fail
                go_meet
                case rel => exact ⟨rfl, Z9.out⟩
    case rest =>
      obtain ⟨rfl, b'⟩ := hcut
      obtain ⟨w9, hw9⟩ : ∃ wx, wx = wc := ⟨_, rfl⟩
      rw [← hw9] at b' ⊢
      clear hw9
      have XF9 : Hid (w9.heap[w1.heap.size]? = some (.cells #[.int .i64 m, .int .i64 e] 56 (0, 0))) := Lib.hid (box_below XF8.out b')
      have XD9 : Hid (w9.heap[w2.heap.size]? = some (.cells #[.int .i64 A, .int .i64 B] 42 (0, 0))) := Lib.hid (box_below XD8.out b')
      have XI9 : Hid (w9.heap[w4.heap.size]? = some (.cells #[.int .i64 G, .int .i64 H] 56 (0, 0))) := Lib.hid (box_below XI8.out b')
      have XJ9 : Hid (w9.heap[w5.heap.size]? = some (.cells #[.int .i64 G, .int .i64 H] 56 (0, 0))) := Lib.hid (box_below XJ8.out b')
      have XA9 : Hid (w9.heap[w6.heap.size]? = some (.cells #[.int .i64 n1, .int .i64 x1] 56 (0, 0))) := Lib.hid (box_below XA8.out b')
      have XB9 : Hid (w9.heap[(w6.heap.size + 1)]? = some (.cells #[.int .i64 n2, .int .i64 x2] 56 (0, 0))) := Lib.hid (box_below XB8.out b')
      have T9 := Lib.hid (nx T8.out b'); clear b'
      have Fl := box_lt XF9.out
      obtain ⟨F0, F1, Ff0, Ff1⟩ := box_two XF9.out
      go_wp2_with fail
      refine (HOI.out _).mono ?_
      rintro _ w10 ⟨rfl, b'⟩
      have XF10 : Hid (w10.heap[w1.heap.size]? = some (.cells #[.int .i64 m, .int .i64 e] 56 (0, 0))) := Lib.hid (box_below XF9.out b')
      have XD10 : Hid (w10.heap[w2.heap.size]? = some (.cells #[.int .i64 A, .int .i64 B] 42 (0, 0))) := Lib.hid (box_below XD9.out b')
      have XI10 : Hid (w10.heap[w4.heap.size]? = some (.cells #[.int .i64 G, .int .i64 H] 56 (0, 0))) := Lib.hid (box_below XI9.out b')
      have XJ10 : Hid (w10.heap[w5.heap.size]? = some (.cells #[.int .i64 G, .int .i64 H] 56 (0, 0))) := Lib.hid (box_below XJ9.out b')
      have XA10 : Hid (w10.heap[w6.heap.size]? = some (.cells #[.int .i64 n1, .int .i64 x1] 56 (0, 0))) := Lib.hid (box_below XA9.out b')
      have XB10 : Hid (w10.heap[(w6.heap.size + 1)]? = some (.cells #[.int .i64 n2, .int .i64 x2] 56 (0, 0))) := Lib.hid (box_below XB9.out b')
      have T10 := Lib.hid (nx T9.out b'); clear b'
      clear Fl F0 F1 Ff0 Ff1
      have Fl := box_lt XF10.out
      obtain ⟨F0, F1, Ff0, Ff1⟩ := box_two XF10.out
      have Dl := box_lt XD10.out
      obtain ⟨D0, D1, Df0, Df1⟩ := box_two XD10.out
      cases K with
      | false =>
        have hs0 : S = { data := #[] } := by have := HTX.out; rw [if_neg (by decide)] at this; exact this
        subst hs0
        have hz := HNO.out rfl
        obtain ⟨rfl, rfl⟩ : A = 0 ∧ B = 0 := ⟨congrArg Prod.fst hz, congrArg Prod.snd hz⟩
        clear hz
        go_wp2_with fail
        refine (HFI.out _ (LA.out.kept T10.out)).mono ?_
        rintro _ w11 ⟨rfl, b'⟩
        have XF11 : Hid (w11.heap[w1.heap.size]? = some (.cells #[.int .i64 m, .int .i64 e] 56 (0, 0))) := Lib.hid (box_below XF10.out b')
        have XD11 : Hid (w11.heap[w2.heap.size]? = some (.cells #[.int .i64 0, .int .i64 0] 42 (0, 0))) := Lib.hid (box_below XD10.out b')
        have XI11 : Hid (w11.heap[w4.heap.size]? = some (.cells #[.int .i64 G, .int .i64 H] 56 (0, 0))) := Lib.hid (box_below XI10.out b')
        have XJ11 : Hid (w11.heap[w5.heap.size]? = some (.cells #[.int .i64 G, .int .i64 H] 56 (0, 0))) := Lib.hid (box_below XJ10.out b')
        have XA11 : Hid (w11.heap[w6.heap.size]? = some (.cells #[.int .i64 n1, .int .i64 x1] 56 (0, 0))) := Lib.hid (box_below XA10.out b')
        have XB11 : Hid (w11.heap[(w6.heap.size + 1)]? = some (.cells #[.int .i64 n2, .int .i64 x2] 56 (0, 0))) := Lib.hid (box_below XB10.out b')
        have T11 := Lib.hid (nx T10.out b'); clear b'
        clear Fl F0 F1 Ff0 Ff1 Dl D0 D1 Df0 Df1
        have Dl := box_lt XD11.out
        obtain ⟨D0, D1, Df0, Df1⟩ := box_two XD11.out
        go_wp2_with fail
        go_ret
        exact ⟨rfl, T11.out⟩
      | true =>
        have hs0 : decTextS A B = S := by have := HTX.out; rw [if_pos rfl] at this; exact this.symm
        have hnr := fun ww (hL : LaidP ww) => nearFlt_impl A B ww hL (by have := HAB.out; omega) (by have := HAB.out; omega)
        rw [show nearF A B = (m, e, true) from HBK.out rfl] at hnr
        dsimp only at hnr
        have HNR := Lib.hid hnr; clear hnr
        have hex := fun ww (hL : LaidP ww) => exact_impl A B ww hL (by have := HAB.out; omega) (by have := HAB.out; omega)
        rw [show exactB A B = true from HEX.out rfl] at hex
        have HXX := Lib.hid hex; clear hex
        have hdo := fun ww (hL : LaidP ww) => decOk_impl A B ww hL (by have := HAB.out; omega) (by have := HAB.out; omega)
        rw [show decOkB A B = true from HFD.out] at hdo
        have HDO := Lib.hid hdo; clear hdo
        have hdt := fun ww (hL : LaidP ww) => decText_impl A B ww hL (by have := HAB.out; omega) (by have := HAB.out; omega)
        rw [hs0] at hdt
        have HDT := Lib.hid hdt; clear hdt hs0
        go_wp2_with fail
        refine (HNR.out _ (LA.out.kept T10.out)).mono ?_
        rintro _ w11 ⟨rfl, b'⟩
        have XF11 : Hid (w11.heap[w1.heap.size]? = some (.cells #[.int .i64 m, .int .i64 e] 56 (0, 0))) := Lib.hid (box_below XF10.out b')
        have XD11 : Hid (w11.heap[w2.heap.size]? = some (.cells #[.int .i64 A, .int .i64 B] 42 (0, 0))) := Lib.hid (box_below XD10.out b')
        have XI11 : Hid (w11.heap[w4.heap.size]? = some (.cells #[.int .i64 G, .int .i64 H] 56 (0, 0))) := Lib.hid (box_below XI10.out b')
        have XJ11 : Hid (w11.heap[w5.heap.size]? = some (.cells #[.int .i64 G, .int .i64 H] 56 (0, 0))) := Lib.hid (box_below XJ10.out b')
        have XA11 : Hid (w11.heap[w6.heap.size]? = some (.cells #[.int .i64 n1, .int .i64 x1] 56 (0, 0))) := Lib.hid (box_below XA10.out b')
        have XB11 : Hid (w11.heap[(w6.heap.size + 1)]? = some (.cells #[.int .i64 n2, .int .i64 x2] 56 (0, 0))) := Lib.hid (box_below XB10.out b')
        have T11 := Lib.hid (nx T10.out b'); clear b'
        clear Fl F0 F1 Ff0 Ff1 Dl D0 D1 Df0 Df1
        obtain ⟨w12, hw12⟩ : ∃ wx, wx = (w11.alloc (.cells #[.int .i64 m, .int .i64 e] 56)) := ⟨_, rfl⟩
        have XF12 : Hid (w12.heap[w1.heap.size]? = some (.cells #[.int .i64 m, .int .i64 e] 56 (0, 0))) := Lib.hid (by rw [hw12]; exact (box_alloc XF11.out _))
        have XD12 : Hid (w12.heap[w2.heap.size]? = some (.cells #[.int .i64 A, .int .i64 B] 42 (0, 0))) := Lib.hid (by rw [hw12]; exact (box_alloc XD11.out _))
        have XI12 : Hid (w12.heap[w4.heap.size]? = some (.cells #[.int .i64 G, .int .i64 H] 56 (0, 0))) := Lib.hid (by rw [hw12]; exact (box_alloc XI11.out _))
        have XJ12 : Hid (w12.heap[w5.heap.size]? = some (.cells #[.int .i64 G, .int .i64 H] 56 (0, 0))) := Lib.hid (by rw [hw12]; exact (box_alloc XJ11.out _))
        have XA12 : Hid (w12.heap[w6.heap.size]? = some (.cells #[.int .i64 n1, .int .i64 x1] 56 (0, 0))) := Lib.hid (by rw [hw12]; exact (box_alloc XA11.out _))
        have XB12 : Hid (w12.heap[(w6.heap.size + 1)]? = some (.cells #[.int .i64 n2, .int .i64 x2] 56 (0, 0))) := Lib.hid (by rw [hw12]; exact (box_alloc XB11.out _))
        have XN12 : Hid (w12.heap[w11.heap.size]? = some (.cells #[.int .i64 m, .int .i64 e] 56 (0, 0))) := Lib.hid (by rw [hw12]; exact (heap_alloc_new _ _))
        have T12 := Lib.hid (show Below w.heap.size w w12 by rw [hw12]; exact (below_alloc T11.out _))
        go_wp2_with fail
        rw [← hw12]
        clear hw12
        have P1 := Lib.hid (fun ww (hb : Below w12.heap.size w12 ww) => LA.out.kept (nx T12.out hb))
        have R1 := Lib.hid (fun ww (hb : Below w12.heap.size w12 ww) => HXX.out ww (P1.out ww hb))
        have R2 := Lib.hid (fun ww (hb : Below w12.heap.size w12 ww) => HDO.out ww (P1.out ww hb))
        have R3 := Lib.hid (fun ww (hb : Below w12.heap.size w12 ww) => HFI.out ww (P1.out ww hb))
        have R4 := Lib.hid (fun ww (hb : Below w12.heap.size w12 ww) => HDT.out ww (P1.out ww hb))
        have d0 : Below w12.heap.size w12 w12.drew := (Below.refl _ _).drew
        refine wp_region_held_drew (S := fun ww => Below w12.heap.size w12 ww) (by kernel_rfl) d0 (fun _ => ?_)
        refine held_do 0 124 (.bool true) (by kernel_rfl) (by kernel_rfl) (by kernel_rfl) (fun _ _ _ h => h) (by kernel_rfl) (by kernel_rfl) d0 (fun ww _ => by kernel_rfl) ?_
        try simp only [Act.put, List.setIfInBounds_toArray, List.set_cons_zero, List.set_cons_succ]
        refine held_do 1 125 (.bool true) (by kernel_rfl) (by kernel_rfl) (by kernel_rfl) (fun _ _ _ h => h) (by kernel_rfl) (by kernel_rfl) d0 (fun ww _ => by kernel_rfl) ?_
        try simp only [Act.put, List.setIfInBounds_toArray, List.set_cons_zero, List.set_cons_succ]
        refine held_do 2 126 (.agg #[.int .i64 m, .int .i64 e]) (by kernel_rfl) (by kernel_rfl) (by kernel_rfl) (fun _ _ _ h => h) (by kernel_rfl) (by kernel_rfl) d0 (fun ww h => run_of (op := .load 56 (.tmp 13)) (by kernel_rfl) (fun o ho => load_flt rfl (two_num h XN12.out) ho)) ?_
        try simp only [Act.put, List.setIfInBounds_toArray, List.set_cons_zero, List.set_cons_succ]
        refine held_do 3 127 (.agg #[.int .i64 m, .int .i64 e]) (by kernel_rfl) (by kernel_rfl) (by kernel_rfl) (fun _ _ _ h => h) (by kernel_rfl) (by kernel_rfl) d0 (fun ww h => run_of (op := .load 56 (.tmp 3)) (by kernel_rfl) (fun o ho => load_flt rfl (two_num h XF12.out) ho)) ?_
        try simp only [Act.put, List.setIfInBounds_toArray, List.set_cons_zero, List.set_cons_succ]
        refine held_do 4 128 (.bool true) (by kernel_rfl) (by kernel_rfl) (by kernel_rfl) (fun _ _ _ h => h) (by kernel_rfl) (by kernel_rfl) d0 (by intro ww hSw; clear hSw; go_simp) ?_
        try simp only [Act.put, List.setIfInBounds_toArray, List.set_cons_zero, List.set_cons_succ]
        refine held_do 5 129 (.bool true) (by kernel_rfl) (by kernel_rfl) (by kernel_rfl) (fun _ _ _ h => h) (by kernel_rfl) (by kernel_rfl) d0 (fun ww _ => by kernel_rfl) ?_
        try simp only [Act.put, List.setIfInBounds_toArray, List.set_cons_zero, List.set_cons_succ]
        refine held_do 6 130 (.bool true) (by kernel_rfl) (by kernel_rfl) (by kernel_rfl) (fun _ _ _ h => h) (by kernel_rfl) (by kernel_rfl) d0 (fun ww _ => by kernel_rfl) ?_
        try simp only [Act.put, List.setIfInBounds_toArray, List.set_cons_zero, List.set_cons_succ]
        refine held_do 7 131 (.agg #[.int .i64 A, .int .i64 B]) (by kernel_rfl) (by kernel_rfl) (by kernel_rfl) (fun _ _ _ h => h) (by kernel_rfl) (by kernel_rfl) d0 (fun ww h => run_of (op := .load 42 (.tmp 4)) (by kernel_rfl) (fun o ho => load_dec rfl (two_num h XD12.out) ho)) ?_
        try simp only [Act.put, List.setIfInBounds_toArray, List.set_cons_zero, List.set_cons_succ]
        refine held_call 8 132 53 #[.agg #[.int .i64 A, .int .i64 B]] (by kernel_rfl) (by kernel_rfl) (by kernel_rfl) (fun _ => by kernel_rfl) ((R1.out _ d0).mono ?_)
        rintro _ v1 ⟨rfl, b1⟩
        have d1 := nx d0 b1
        clear b1
        refine ⟨_, rfl, d1, ?_⟩
        try simp only [Act.put, List.setIfInBounds_toArray, List.set_cons_zero, List.set_cons_succ]
        refine held_do 9 133 (.bool true) (by kernel_rfl) (by kernel_rfl) (by kernel_rfl) (fun _ _ _ h => h) (by kernel_rfl) (by kernel_rfl) d1 (fun ww _ => by kernel_rfl) ?_
        try simp only [Act.put, List.setIfInBounds_toArray, List.set_cons_zero, List.set_cons_succ]
        refine held_do 10 134 (.bool true) (by kernel_rfl) (by kernel_rfl) (by kernel_rfl) (fun _ _ _ h => h) (by kernel_rfl) (by kernel_rfl) d1 (fun ww _ => by kernel_rfl) ?_
        try simp only [Act.put, List.setIfInBounds_toArray, List.set_cons_zero, List.set_cons_succ]
        refine held_do 11 135 (.agg #[.int .i64 A, .int .i64 B]) (by kernel_rfl) (by kernel_rfl) (by kernel_rfl) (fun _ _ _ h => h) (by kernel_rfl) (by kernel_rfl) d1 (fun ww h => run_of (op := .load 42 (.tmp 4)) (by kernel_rfl) (fun o ho => load_dec rfl (two_num h XD12.out) ho)) ?_
        try simp only [Act.put, List.setIfInBounds_toArray, List.set_cons_zero, List.set_cons_succ]
        refine held_call 12 136 33 #[.agg #[.int .i64 A, .int .i64 B]] (by kernel_rfl) (by kernel_rfl) (by kernel_rfl) (fun _ => by kernel_rfl) ((R2.out _ d1).mono ?_)
        rintro _ v2 ⟨rfl, b2⟩
        have d2 := nx d1 b2
        clear b2
        refine ⟨_, rfl, d2, ?_⟩
        try simp only [Act.put, List.setIfInBounds_toArray, List.set_cons_zero, List.set_cons_succ]
        refine held_do 13 137 (.bool true) (by kernel_rfl) (by kernel_rfl) (by kernel_rfl) (fun _ _ _ h => h) (by kernel_rfl) (by kernel_rfl) d2 (fun ww _ => by kernel_rfl) ?_
        try simp only [Act.put, List.setIfInBounds_toArray, List.set_cons_zero, List.set_cons_succ]
        refine held_do 14 138 (.bool true) (by kernel_rfl) (by kernel_rfl) (by kernel_rfl) (fun _ _ _ h => h) (by kernel_rfl) (by kernel_rfl) d2 (fun ww _ => by kernel_rfl) ?_
        try simp only [Act.put, List.setIfInBounds_toArray, List.set_cons_zero, List.set_cons_succ]
        refine held_do 15 139 (.agg #[.int .i64 m, .int .i64 e]) (by kernel_rfl) (by kernel_rfl) (by kernel_rfl) (fun _ _ _ h => h) (by kernel_rfl) (by kernel_rfl) d2 (fun ww h => run_of (op := .load 56 (.tmp 3)) (by kernel_rfl) (fun o ho => load_flt rfl (two_num h XF12.out) ho)) ?_
        try simp only [Act.put, List.setIfInBounds_toArray, List.set_cons_zero, List.set_cons_succ]
        refine held_do 17 141 (.agg #[.int .i64 A, .int .i64 B]) (by kernel_rfl) (by kernel_rfl) (by kernel_rfl) (fun _ _ _ h => h) (by kernel_rfl) (by kernel_rfl) d2 (fun ww h => run_of (op := .load 42 (.tmp 4)) (by kernel_rfl) (fun o ho => load_dec rfl (two_num h XD12.out) ho)) ?_
        try simp only [Act.put, List.setIfInBounds_toArray, List.set_cons_zero, List.set_cons_succ]
        refine held_call 16 140 50 #[.agg #[.int .i64 m, .int .i64 e]] (by kernel_rfl) (by kernel_rfl) (by kernel_rfl) (fun _ => by kernel_rfl) ((R3.out _ d2).mono ?_)
        rintro _ v3 ⟨rfl, b3⟩
        have d3 := nx d2 b3
        clear b3
        refine ⟨_, rfl, d3, ?_⟩
        try simp only [Act.put, List.setIfInBounds_toArray, List.set_cons_zero, List.set_cons_succ]
        refine held_call 18 142 31 #[.agg #[.int .i64 A, .int .i64 B]] (by kernel_rfl) (by kernel_rfl) (by kernel_rfl) (fun _ => by kernel_rfl) ((R4.out _ d3).mono ?_)
        rintro _ v4 ⟨rfl, b4⟩
        have d4 := nx d3 b4
        clear b4
        refine ⟨_, rfl, d4, ?_⟩
        try simp only [Act.put, List.setIfInBounds_toArray, List.set_cons_zero, List.set_cons_succ]
        refine held_do 19 143 (.bool true) (by kernel_rfl) (by kernel_rfl) (by kernel_rfl) (fun _ _ _ h => h) (by kernel_rfl) (by kernel_rfl) d4 (by intro ww hSw; clear hSw; go_simp) ?_
        try simp only [Act.put, List.setIfInBounds_toArray, List.set_cons_zero, List.set_cons_succ]
        refine held_do 20 144 (.bool true) (by kernel_rfl) (by kernel_rfl) (by kernel_rfl) (fun _ _ _ h => h) (by kernel_rfl) (by kernel_rfl) d4 (fun ww _ => by kernel_rfl) ?_
        try simp only [Act.put, List.setIfInBounds_toArray, List.set_cons_zero, List.set_cons_succ]
        refine held_do 21 2 (.bool true) (by kernel_rfl) (by kernel_rfl) (by kernel_rfl) (fun _ _ _ h => h) (by kernel_rfl) (by kernel_rfl) d4 (fun ww _ => by kernel_rfl) ?_
        try simp only [Act.put, List.setIfInBounds_toArray, List.set_cons_zero, List.set_cons_succ]
        refine wpAnyH_done (by kernel_rfl) ?_ _
        obtain ⟨w13, hw13⟩ : ∃ wx, wx = v4 := ⟨_, rfl⟩
        have XF13 : Hid (w13.heap[w1.heap.size]? = some (.cells #[.int .i64 m, .int .i64 e] 56 (0, 0))) := Lib.hid (by rw [hw13]; exact box_below XF12.out d4)
        have XD13 : Hid (w13.heap[w2.heap.size]? = some (.cells #[.int .i64 A, .int .i64 B] 42 (0, 0))) := Lib.hid (by rw [hw13]; exact box_below XD12.out d4)
        have XI13 : Hid (w13.heap[w4.heap.size]? = some (.cells #[.int .i64 G, .int .i64 H] 56 (0, 0))) := Lib.hid (by rw [hw13]; exact box_below XI12.out d4)
        have XJ13 : Hid (w13.heap[w5.heap.size]? = some (.cells #[.int .i64 G, .int .i64 H] 56 (0, 0))) := Lib.hid (by rw [hw13]; exact box_below XJ12.out d4)
        have XA13 : Hid (w13.heap[w6.heap.size]? = some (.cells #[.int .i64 n1, .int .i64 x1] 56 (0, 0))) := Lib.hid (by rw [hw13]; exact box_below XA12.out d4)
        have XB13 : Hid (w13.heap[(w6.heap.size + 1)]? = some (.cells #[.int .i64 n2, .int .i64 x2] 56 (0, 0))) := Lib.hid (by rw [hw13]; exact box_below XB12.out d4)
        have XN13 : Hid (w13.heap[w11.heap.size]? = some (.cells #[.int .i64 m, .int .i64 e] 56 (0, 0))) := Lib.hid (by rw [hw13]; exact box_below XN12.out d4)
        have T13 := Lib.hid (show Below w.heap.size w w13 by rw [hw13]; exact nx T12.out d4)
        rw [← hw13]
        clear d4 d3 d2 d1 d0 hw13
        go_wp2_with fail
        go_ret
        exact ⟨rfl, T13.out⟩
namespace fnFlts
set_option maxRecDepth 100000 in
theorem walk : LawWalkX (fun W => LaidP W) 9 Tryd.f9 := by
  intro H enc W base args ds p hval0 hA0 hL
  have hval : ∀ (j : Nat) t v, Tryd.f9.params[j]? = some t → args[j]? = some v → Value.okWide Tryd.prog W .any base t v := hval0
  have hA : DataW.TrodAll enc Tryd.prog W 0 (fun _ => true) true Tryd.f9.params.toList args.toList ds p := hA0
  clear hval0 hA0
  rw [Tryd.params9] at hA hval
  obtain ⟨v0, vs0, d0, ds0, p0, q0, hargs, rfl, rfl, h0, r0⟩ := trodAll_cons hA
  obtain ⟨rfl, rfl, rfl⟩ := trodAll_nil r0
  obtain rfl : args = #[v0] := by cases args; simp_all
  obtain ⟨a0, len0, cap0, rfl⟩ := okWide_slice Tryd.underlying39 (hval 0 39 v0 rfl rfl)
  obtain ⟨z0, rfl, w0, x0, y0, m0⟩ := open_ints_rd Tryd.underlying39 Tryd.underlying5 (by kernel_rfl) h0
  exact fnFlts_law a0 cap0 z0 W hL w0 x0 y0 m0
theorem laid_met (os : Os) : laidMet Tryd.prog Rows.fnFltsRow.laid ((laidWorld os).forCall (fun _ _ => 0) ⟨#[], #[.slice none 0 0], []⟩).memory :=
  laidMet_of_run' 8 (by kernel_rfl) (by kernel_rfl)
theorem reads (os : Os) {H : Type} (enc : TypeId × Value → H) : ∃ places, DataW.whole enc Tryd.prog ((laidWorld os).forCall (fun _ _ => 0) ⟨#[], #[.slice none 0 0], []⟩).memory Tryd.f9.params.toList Rows.fnFltsSpec.vars false (#[Value.slice none 0 0] : Array Value).toList 8 = some ([.nil], [], places) :=
  ⟨[], by kernel_rfl⟩
set_option maxRecDepth 100000 in
theorem lifted (os : Os) (started : os.Started) (H : Type) (enc : TypeId × Value → H) (F : Stop.Interp) :
    ReturnsInHanded {} Tryd.checked os 9 .any ((OpenSpec.ofChange Rows.fnFltsSpec).preRow enc Tryd.prog Tryd.f9 Rows.fnFltsRow.domain false Rows.fnFltsRow.laid) (((OpenSpec.ofChange Rows.fnFltsSpec).at F).post enc Tryd.prog Tryd.f9 false true false false) := by
  obtain ⟨places, hx⟩ := reads os enc
  refine returnsInHanded_of_row (C := Tryd.checked) (s := OpenSpec.ofChange Rows.fnFltsSpec) own started (by kernel_rfl) Tryd.func9
    (witness_row_at (enc := enc) (C := Tryd.checked) false (laidWorld os) #[.slice none 0 0] rfl (by kernel_rfl) (by kernel_rfl) (by kernel_rfl)
      (OpenSpec.preRow_of_cond 8 hx (by kernel_rfl) (fun k hk => by cases hk) (by kernel_rfl) (laid_met os))) ?_
  intro W base args ds gs before hval hW _ _ _ hL _ _
  exact law_contractX (fun W => LaidP W) 9 Tryd.f9 Rows.fnFltsSpec H enc rfl rfl (by kernel_rfl) (fun ds h => by match ds, h with | [_], _ => rfl) walk W base args ds gs before hval hW (laidP_of hL (by simp [Rows.fnFltsRow]))
theorem said : Rows.FnFltsSaid :=
  OpenClaim.holds_of_cond 9 Tryd.f9 rfl rfl rfl rfl rfl rfl rfl ⟨rfl, rfl, rfl, rfl, rfl⟩ rfl rfl rfl rfl rfl (by kernel_rfl) Tryd.func9 (by kernel_rfl)
    (of_decide_eq_true (by kernel_rfl)) (by unfold Func.isWrapper; first | (rw [if_pos (by decide +kernel)]; kernel_rfl) | (rw [if_neg (by decide +kernel)]; exact ⟨rfl, rfl⟩))
    (fun os started H enc _ F => by rw [OpenClaim.pre_eq_preRow]; exact lifted os started H enc F)
theorem plain (f : FuncId) (fn : Func) (hf : Tryd.pinned.checked.prog.funcNamed "loop.example/g00502/laws.FnFlts" = some f) (hfn : Tryd.pinned.checked.prog.funcs[f]? = some fn) :
    true = Tryd.pinned.checked.prog.looks [] ∧ ∀ (j : Nat) t, fn.params[j]? = some t → Tryd.pinned.checked.prog.wantsStandIn t = false := by
  obtain rfl : f = 9 := Option.some.inj ((show Tryd.prog.funcNamed "loop.example/g00502/laws.FnFlts" = some 9 by kernel_rfl).symm.trans hf) |>.symm
  obtain rfl : fn = Tryd.f9 := (Option.some.inj (Tryd.func9.symm.trans hfn)).symm
  refine ⟨by kernel_rfl, fun j t ht => ?_⟩
  have hall : Tryd.f9.params.toList.all (fun t => !Tryd.pinned.checked.prog.wantsStandIn t) = true := by kernel_rfl
  have hm := List.all_eq_true.1 hall t (by simpa using Array.mem_of_getElem? ht)
  simpa using hm
theorem proved : Rows.FnFltsCardSaid :=
  Claim7.holds_tied_plain_at .later [] _ _ _ _ said (fun _ h => by cases h) (by kernel_rfl) (fun _ h => by cases h) fnFlts_row_tie rfl ⟨rfl, rfl⟩ (by kernel_rfl) rfl plain (by kernel_rfl)
#print axioms proved
end fnFlts
end Go.Proofs.YtilmhemcpgiikaaDoor
