/- FnVals: a valid tree equals itself and differs from the tree with an additional element. -/
import Derived.Test.YtilmhemcpgiikaaGreatDoorSVals37
import Derived.Test.YtilmhemcpgiikaaGreatDoorSVals38
import Derived.Test.YtilmhemcpgiikaaGreatDoorSVals41
import Derived.Test.YtilmhemcpgiikaaGreatDoorSVals43
import Derived.Test.YtilmhemcpgiikaaGreatDoorSVals39
import Derived.Test.YtilmhemcpgiikaaGreatDoorSVals40
import Derived.Test.YtilmhemcpgiikaaGreatDoorSVals10
import Derived.Test.YtilmhemcpgiikaaGreatDoorSVals12
import Derived.Test.YtilmhemcpgiikaaGreatDoorSVals11
import Derived.Test.YtilmhemcpgiikaaGreatDoorSVals44
import Derived.Deep.RegionHeld3
import Derived.Deep.RegionWith
import Derived.Deep.DeepCutAuto
namespace Go.Proofs.YtilmhemcpgiikaaGreatDoor
open Go.Deep Go.ChangeShapes Go.WideShapes Go.ChangeAt Go.RowKit
open Go.ChangeMaps (open_string shut_string)

set_option maxRecDepth 100000 in
set_option maxHeartbeats 40000000 in
theorem fnVals_law (a : Option Addr) (cap : Nat) (zs : List Int) (w : World) (hL : LaidP w ∧ LaidU w) (hr : Rd w .u8 a zs) (hw : ∀ n ∈ zs, (Lit.int .u8 n).wf = true) (hcap : zs.length ≤ cap) (_hm : cap ≤ maxLen) :
    Calls Tryz.prog 3 #[.slice a zs.length cap] w fun e w' => e = .returned (.bool true) ∧ Below w.heap.size w w' := by
  have HR := Lib.hid hr; clear hr
  have HW := Lib.hid hw; clear hw
  have LA := Lib.hid hL; clear hL
  have Hlen := Lib.hid (show zs.length ≤ 9223372036854775807 by unfold maxLen at _hm; omega)
  cases hbig : decide ((1048576 : Int) < (zs.length : Int)) with
  | true =>
    have HB := Lib.hid hbig; clear hbig
    go_enter Tryz.func3, Tryz.ntmps3
    go_wp2_with fail
    refine (big_c _ _ _ _).mono ?_
    rintro _ _ ⟨rfl, rfl⟩
    rw [HB.out]
    go_wp2_with fail
    go_ret
    exact ⟨rfl, Below.refl _ _⟩
  | false =>
    have hlen : zs.length ≤ 1048576 := by have := of_decide_eq_false hbig; omega
    have HB := Lib.hid hbig; clear hbig
    go_enter Tryz.func3, Tryz.ntmps3
    go_wp2_with fail
    refine (big_c _ _ _ _).mono ?_
    rintro _ _ ⟨rfl, rfl⟩
    rw [HB.out]
    go_wp2_with fail
    refine (drawValOk_c zs a cap _ (by exact rd_kept (Below.refl w.heap.size w) HR.out) HW.out hlen hcap).mono ?_
    rintro _ w1 ⟨⟨t1, u1, rfl, h1, s1⟩, b'⟩
    have T1 := Lib.hid (nx (Below.refl w.heap.size w) b'); clear b'
    have HT1 := Lib.hid h1; clear h1
    obtain ⟨a1, n1, c1, rfl⟩ := s1.form
    have TSA1 := Lib.hid s1; clear s1
    go_wp2_with fail
    refine (drawSameVal_c zs a cap _ (by exact rd_kept (below_alloc T1.out _) HR.out) HW.out hlen hcap).mono ?_
    rintro _ w2 ⟨⟨t2, t3, u2, u3, rfl, h2, h3, s2, s3⟩, b'⟩
    have XA2 : Hid (w2.heap[w1.heap.size]? = some (.cells #[.int .i64 t1.kind, .int .i64 t1.n, .int .i64 t1.x, .string t1.s, .slice a1 n1 c1] 26 (0, 0))) := Lib.hid (box_below (heap_alloc_new _ _) b')
    have TSA2 := Lib.hid (TSl.kept b' (TSl.kept (below1 _ _) TSA1.out))
    have T2 := Lib.hid (nx (below_alloc T1.out _) b'); clear b'
    have HT2 := Lib.hid h2; have HT3 := Lib.hid h3; clear h2 h3
    obtain ⟨a2, n2, c2, rfl⟩ := s2.form
    have TSB2 := Lib.hid s2; clear s2
    obtain ⟨a3, n3, c3, rfl⟩ := s3.form
    have TSC2 := Lib.hid s3; clear s3
    go_wp2_with fail
    refine (drawVal_c zs a cap _ (by exact rd_kept (below_alloc (below_alloc T2.out _) _) HR.out) HW.out hlen hcap).mono ?_
    rintro _ w3 ⟨⟨t4, u4, rfl, h4, s4⟩, b'⟩
    have XA3 : Hid (w3.heap[w1.heap.size]? = some (.cells #[.int .i64 t1.kind, .int .i64 t1.n, .int .i64 t1.x, .string t1.s, .slice a1 n1 c1] 26 (0, 0))) := Lib.hid (box_below (box_alloc (box_alloc XA2.out _) _) b')
    have XB3 : Hid (w3.heap[w2.heap.size]? = some (.cells #[.int .i64 t2.kind, .int .i64 t2.n, .int .i64 t2.x, .string t2.s, .slice a2 n2 c2] 26 (0, 0))) := Lib.hid (box_below (first_block _ _ _) b')
    have XC3 : Hid (w3.heap[(w2.heap.size + 1)]? = some (.cells #[.int .i64 t3.kind, .int .i64 t3.n, .int .i64 t3.x, .string t3.s, .slice a3 n3 c3] 26 (0, 0))) := Lib.hid (box_below (second_block2 _ _ _) b')
    have TSA3 := Lib.hid (TSl.kept b' (TSl.kept (below1 _ _) (TSl.kept (below1 _ _) TSA2.out)))
    have TSB3 := Lib.hid (TSl.kept b' (TSl.kept (below1 _ _) (TSl.kept (below1 _ _) TSB2.out)))
    have TSC3 := Lib.hid (TSl.kept b' (TSl.kept (below1 _ _) (TSl.kept (below1 _ _) TSC2.out)))
    have T3 := Lib.hid (nx (below_alloc (below_alloc T2.out _) _) b'); clear b'
    have HT4 := Lib.hid h4; clear h4
    obtain ⟨a4, n4, c4, rfl⟩ := s4.form
    have TSU3 := Lib.hid s4; clear s4
    go_wp2_with fail
    refine (drawKindName_c zs a cap _ (by exact rd_kept (below_alloc T3.out _) HR.out) HW.out hlen hcap).mono ?_
    rintro _ w4 ⟨⟨k7, rfl, k71, k72⟩, b'⟩
    have XA4 : Hid (w4.heap[w1.heap.size]? = some (.cells #[.int .i64 t1.kind, .int .i64 t1.n, .int .i64 t1.x, .string t1.s, .slice a1 n1 c1] 26 (0, 0))) := Lib.hid (box_below (box_alloc XA3.out _) b')
    have XB4 : Hid (w4.heap[w2.heap.size]? = some (.cells #[.int .i64 t2.kind, .int .i64 t2.n, .int .i64 t2.x, .string t2.s, .slice a2 n2 c2] 26 (0, 0))) := Lib.hid (box_below (box_alloc XB3.out _) b')
    have XC4 : Hid (w4.heap[(w2.heap.size + 1)]? = some (.cells #[.int .i64 t3.kind, .int .i64 t3.n, .int .i64 t3.x, .string t3.s, .slice a3 n3 c3] 26 (0, 0))) := Lib.hid (box_below (box_alloc XC3.out _) b')
    have XU4 : Hid (w4.heap[w3.heap.size]? = some (.cells #[.int .i64 t4.kind, .int .i64 t4.n, .int .i64 t4.x, .string t4.s, .slice a4 n4 c4] 26 (0, 0))) := Lib.hid (box_below (heap_alloc_new _ _) b')
    have TSA4 := Lib.hid (TSl.kept b' (TSl.kept (below1 _ _) TSA3.out))
    have TSB4 := Lib.hid (TSl.kept b' (TSl.kept (below1 _ _) TSB3.out))
    have TSC4 := Lib.hid (TSl.kept b' (TSl.kept (below1 _ _) TSC3.out))
    have TSU4 := Lib.hid (TSl.kept b' (TSl.kept (below1 _ _) TSU3.out))
    have T4 := Lib.hid (nx (below_alloc T3.out _) b'); clear b'
    go_wp2_with fail
    refine (drawIntVal_c zs a cap _ (by exact rd_kept T4.out HR.out) HW.out hlen hcap).mono ?_
    rintro _ w5 ⟨⟨n8, rfl, hn8⟩, b'⟩
    have XA5 : Hid (w5.heap[w1.heap.size]? = some (.cells #[.int .i64 t1.kind, .int .i64 t1.n, .int .i64 t1.x, .string t1.s, .slice a1 n1 c1] 26 (0, 0))) := Lib.hid (box_below XA4.out b')
    have XB5 : Hid (w5.heap[w2.heap.size]? = some (.cells #[.int .i64 t2.kind, .int .i64 t2.n, .int .i64 t2.x, .string t2.s, .slice a2 n2 c2] 26 (0, 0))) := Lib.hid (box_below XB4.out b')
    have XC5 : Hid (w5.heap[(w2.heap.size + 1)]? = some (.cells #[.int .i64 t3.kind, .int .i64 t3.n, .int .i64 t3.x, .string t3.s, .slice a3 n3 c3] 26 (0, 0))) := Lib.hid (box_below XC4.out b')
    have XU5 : Hid (w5.heap[w3.heap.size]? = some (.cells #[.int .i64 t4.kind, .int .i64 t4.n, .int .i64 t4.x, .string t4.s, .slice a4 n4 c4] 26 (0, 0))) := Lib.hid (box_below XU4.out b')
    have TSA5 := Lib.hid (TSl.kept b' TSA4.out)
    have TSB5 := Lib.hid (TSl.kept b' TSB4.out)
    have TSC5 := Lib.hid (TSl.kept b' TSC4.out)
    have TSU5 := Lib.hid (TSl.kept b' TSU4.out)
    have T5 := Lib.hid (nx T4.out b'); clear b'
    have HN8 := Lib.hid hn8; clear hn8
    go_wp2_with fail
    refine (drawTextVal_c zs a cap _ (by exact rd_kept T5.out HR.out) HW.out hlen hcap).mono ?_
    rintro _ w6 ⟨⟨S9, rfl, hS9⟩, b'⟩
    have XA6 : Hid (w6.heap[w1.heap.size]? = some (.cells #[.int .i64 t1.kind, .int .i64 t1.n, .int .i64 t1.x, .string t1.s, .slice a1 n1 c1] 26 (0, 0))) := Lib.hid (box_below XA5.out b')
    have XB6 : Hid (w6.heap[w2.heap.size]? = some (.cells #[.int .i64 t2.kind, .int .i64 t2.n, .int .i64 t2.x, .string t2.s, .slice a2 n2 c2] 26 (0, 0))) := Lib.hid (box_below XB5.out b')
    have XC6 : Hid (w6.heap[(w2.heap.size + 1)]? = some (.cells #[.int .i64 t3.kind, .int .i64 t3.n, .int .i64 t3.x, .string t3.s, .slice a3 n3 c3] 26 (0, 0))) := Lib.hid (box_below XC5.out b')
    have XU6 : Hid (w6.heap[w3.heap.size]? = some (.cells #[.int .i64 t4.kind, .int .i64 t4.n, .int .i64 t4.x, .string t4.s, .slice a4 n4 c4] 26 (0, 0))) := Lib.hid (box_below XU5.out b')
    have TSA6 := Lib.hid (TSl.kept b' TSA5.out)
    have TSB6 := Lib.hid (TSl.kept b' TSB5.out)
    have TSC6 := Lib.hid (TSl.kept b' TSC5.out)
    have TSU6 := Lib.hid (TSl.kept b' TSU5.out)
    have T6 := Lib.hid (nx T5.out b'); clear b'
    have HS9 := Lib.hid hS9; clear hS9
    go_wp2_with fail
    refine (drawListVal_c zs a cap _ (by exact rd_kept T6.out HR.out) HW.out hlen hcap).mono ?_
    rintro _ w7 ⟨⟨l10, u10, rfl, hl10, s10⟩, b'⟩
    have XA7 : Hid (w7.heap[w1.heap.size]? = some (.cells #[.int .i64 t1.kind, .int .i64 t1.n, .int .i64 t1.x, .string t1.s, .slice a1 n1 c1] 26 (0, 0))) := Lib.hid (box_below XA6.out b')
    have XB7 : Hid (w7.heap[w2.heap.size]? = some (.cells #[.int .i64 t2.kind, .int .i64 t2.n, .int .i64 t2.x, .string t2.s, .slice a2 n2 c2] 26 (0, 0))) := Lib.hid (box_below XB6.out b')
    have XC7 : Hid (w7.heap[(w2.heap.size + 1)]? = some (.cells #[.int .i64 t3.kind, .int .i64 t3.n, .int .i64 t3.x, .string t3.s, .slice a3 n3 c3] 26 (0, 0))) := Lib.hid (box_below XC6.out b')
    have XU7 : Hid (w7.heap[w3.heap.size]? = some (.cells #[.int .i64 t4.kind, .int .i64 t4.n, .int .i64 t4.x, .string t4.s, .slice a4 n4 c4] 26 (0, 0))) := Lib.hid (box_below XU6.out b')
    have TSA7 := Lib.hid (TSl.kept b' TSA6.out)
    have TSB7 := Lib.hid (TSl.kept b' TSB6.out)
    have TSC7 := Lib.hid (TSl.kept b' TSC6.out)
    have TSU7 := Lib.hid (TSl.kept b' TSU6.out)
    have T7 := Lib.hid (nx T6.out b'); clear b'
    have HL10 := Lib.hid hl10; clear hl10
    obtain ⟨a10, n10, c10, rfl⟩ := s10.form
    have TSL7 := Lib.hid s10; clear s10
    go_wp2_with fail
    refine (drawNumberVal_c zs a cap _ (by exact rd_kept T7.out HR.out) HW.out hlen hcap).mono ?_
    rintro _ w8 ⟨⟨n11, x11, rfl, hn11, hx11⟩, b'⟩
    have XA8 : Hid (w8.heap[w1.heap.size]? = some (.cells #[.int .i64 t1.kind, .int .i64 t1.n, .int .i64 t1.x, .string t1.s, .slice a1 n1 c1] 26 (0, 0))) := Lib.hid (box_below XA7.out b')
    have XB8 : Hid (w8.heap[w2.heap.size]? = some (.cells #[.int .i64 t2.kind, .int .i64 t2.n, .int .i64 t2.x, .string t2.s, .slice a2 n2 c2] 26 (0, 0))) := Lib.hid (box_below XB7.out b')
    have XC8 : Hid (w8.heap[(w2.heap.size + 1)]? = some (.cells #[.int .i64 t3.kind, .int .i64 t3.n, .int .i64 t3.x, .string t3.s, .slice a3 n3 c3] 26 (0, 0))) := Lib.hid (box_below XC7.out b')
    have XU8 : Hid (w8.heap[w3.heap.size]? = some (.cells #[.int .i64 t4.kind, .int .i64 t4.n, .int .i64 t4.x, .string t4.s, .slice a4 n4 c4] 26 (0, 0))) := Lib.hid (box_below XU7.out b')
    have TSA8 := Lib.hid (TSl.kept b' TSA7.out)
    have TSB8 := Lib.hid (TSl.kept b' TSB7.out)
    have TSC8 := Lib.hid (TSl.kept b' TSC7.out)
    have TSU8 := Lib.hid (TSl.kept b' TSU7.out)
    have TSL8 := Lib.hid (TSl.kept b' TSL7.out)
    have T8 := Lib.hid (nx T7.out b'); clear b'
    have HN11 := Lib.hid hn11; have HX11 := Lib.hid hx11; clear hn11 hx11
    obtain ⟨w9, hw9⟩ : ∃ wx, wx = (w8.alloc (.cells #[.int .i64 n11, .int .i64 x11] 34)) := ⟨_, rfl⟩
    have XA9 : Hid (w9.heap[w1.heap.size]? = some (.cells #[.int .i64 t1.kind, .int .i64 t1.n, .int .i64 t1.x, .string t1.s, .slice a1 n1 c1] 26 (0, 0))) := Lib.hid (by rw [hw9]; exact (box_alloc XA8.out _))
    have XB9 : Hid (w9.heap[w2.heap.size]? = some (.cells #[.int .i64 t2.kind, .int .i64 t2.n, .int .i64 t2.x, .string t2.s, .slice a2 n2 c2] 26 (0, 0))) := Lib.hid (by rw [hw9]; exact (box_alloc XB8.out _))
    have XC9 : Hid (w9.heap[(w2.heap.size + 1)]? = some (.cells #[.int .i64 t3.kind, .int .i64 t3.n, .int .i64 t3.x, .string t3.s, .slice a3 n3 c3] 26 (0, 0))) := Lib.hid (by rw [hw9]; exact (box_alloc XC8.out _))
    have XU9 : Hid (w9.heap[w3.heap.size]? = some (.cells #[.int .i64 t4.kind, .int .i64 t4.n, .int .i64 t4.x, .string t4.s, .slice a4 n4 c4] 26 (0, 0))) := Lib.hid (by rw [hw9]; exact (box_alloc XU8.out _))
    have XD9 : Hid (w9.heap[w8.heap.size]? = some (.cells #[.int .i64 n11, .int .i64 x11] 34 (0, 0))) := Lib.hid (by rw [hw9]; exact (heap_alloc_new _ _))
    have TSA9 := Lib.hid (show TSl w9 _ _ by rw [hw9]; exact (TSl.kept (below1 _ _) TSA8.out))
    have TSB9 := Lib.hid (show TSl w9 _ _ by rw [hw9]; exact (TSl.kept (below1 _ _) TSB8.out))
    have TSC9 := Lib.hid (show TSl w9 _ _ by rw [hw9]; exact (TSl.kept (below1 _ _) TSC8.out))
    have TSU9 := Lib.hid (show TSl w9 _ _ by rw [hw9]; exact (TSl.kept (below1 _ _) TSU8.out))
    have TSL9 := Lib.hid (show TSl w9 _ _ by rw [hw9]; exact (TSl.kept (below1 _ _) TSL8.out))
    have T9 := Lib.hid (show Below w.heap.size w w9 by rw [hw9]; exact (below_alloc T8.out _))
    go_wp2_with fail
    rw [← hw9]
    clear hw9
    have P1 := fun ww (hb : Below w9.heap.size w9 ww) => LA.out.1.kept (nx T9.out hb)
    have P2 := fun ww (hb : Below w9.heap.size w9 ww) => LA.out.2.kept (nx T9.out hb)
    have hc1 := HT1.out.1; have hsz1 := sz_le_cost t1
    have r1 := fun ww (hb : Below w9.heap.size w9 ww) => okImpl_c t1 ww (.slice a1 n1 c1) (by omega) (P1 ww hb) (P2 ww hb) (TSl.kept hb TSA9.out) HT1.out.2
    have r2 := fun ww (hb : Below w9.heap.size w9 ww) => okSpec_c t1 ww (.slice a1 n1 c1) (by omega) (TSl.kept hb TSA9.out) HT1.out.2
    generalize t1.ok = K1 at *
    have r3 := fun ww (hb : Below w9.heap.size w9 ww) => sameImpl_c t2 t3 ww (.slice a2 n2 c2) (.slice a3 n3 c3) (TSl.kept hb TSB9.out) (TSl.kept hb TSC9.out) HT2.out.2 HT3.out.2
    have r4 := fun ww (hb : Below w9.heap.size w9 ww) => sameLaw_c t2 t3 ww (.slice a2 n2 c2) (.slice a3 n3 c3) (TSl.kept hb TSB9.out) (TSl.kept hb TSC9.out) HT2.out.2 HT3.out.2
    generalize sameB t2 t3 = E1 at *
    have r5 := fun ww (hb : Below w9.heap.size w9 ww) => deepImpl_c t1 ww (.slice a1 n1 c1) (by omega) (TSl.kept hb TSA9.out) HT1.out.2
    have r6 := fun ww (hb : Below w9.heap.size w9 ww) => deepSpec_c t1 ww (.slice a1 n1 c1) (by omega) (TSl.kept hb TSA9.out) HT1.out.2
    have r7 := fun ww (hb : Below w9.heap.size w9 ww) => countImpl_c t1 ww (.slice a1 n1 c1) (by omega) (TSl.kept hb TSA9.out) HT1.out.2
    have r8 := fun ww (hb : Below w9.heap.size w9 ww) => countSpec_c t1 ww (.slice a1 n1 c1) (by omega) (TSl.kept hb TSA9.out) HT1.out.2
    generalize ((t1.deep : Nat) : Int) = D1 at *
    generalize ((t1.sz : Nat) : Int) = N1 at *
    have r9 := fun ww (_hb : Below w9.heap.size w9 ww) => kindImpl_c k7 ww k71 k72
    have r10 := fun ww (_hb : Below w9.heap.size w9 ww) => kindSpec_c k7 ww k71 k72
    generalize nameF k7 = Q7 at *
    have f8 : Fits (Tree.mk 3 n8 0 { data := #[] } []).kind (Tree.mk 3 n8 0 { data := #[] } []).n (Tree.mk 3 n8 0 { data := #[] } []).x (Tree.mk 3 n8 0 { data := #[] } []).s := wf_fits (wf_sm (by decide)) HN8.out (wf_sm (by decide)) (by decide)
    have f9 : Fits (Tree.mk 7 0 0 S9 []).kind (Tree.mk 7 0 0 S9 []).n (Tree.mk 7 0 0 S9 []).x (Tree.mk 7 0 0 S9 []).s := wf_fits (wf_sm (by decide)) (wf_sm (by decide)) (wf_sm (by decide)) (by have := HS9.out; omega)
    have f10 : Fits (Tree.mk 9 0 0 { data := #[] } l10).kind (Tree.mk 9 0 0 { data := #[] } l10).n (Tree.mk 9 0 0 { data := #[] } l10).x (Tree.mk 9 0 0 { data := #[] } l10).s := fitsM (wf_lit (by decide)) (wf_lit (by decide)) (wf_lit (by decide)) (by decide)
    have r17 := fun ww (hb : Below w9.heap.size w9 ww) => listVal_impl l10 ww (.slice a10 n10 c10) (by have := HL10.out; omega) (TSl.kept hb TSL9.out)
    have r18 := fun ww (hb : Below w9.heap.size w9 ww) => listVal_spec l10 ww (.slice a10 n10 c10) (by have := HL10.out; omega) (TSl.kept hb TSL9.out)
    have hd11 := fun ww hL => decOk_impl n11 x11 ww hL HN11.out.1 HN11.out.2
    have hv11 := fun ww => numVal_i n11 x11 ww
    have hT11 := numT_fits HN11.out HX11.out; have hK11 := numT_okB n11 x11
    have r20 := fun ww (_hb : Below w9.heap.size w9 ww) => numVal_i n11 x11 ww; have r21 := fun ww (_hb : Below w9.heap.size w9 ww) => numVal_s n11 x11 ww
    have r31 := fun ww (hb : Below w9.heap.size w9 ww) => decOk_impl n11 x11 ww (P1 ww hb) HN11.out.1 HN11.out.2
    have r32 := fun ww (hb : Below w9.heap.size w9 ww) => okImpl_c (numT n11 x11) ww (.slice none 0 0) (by have := hT11.2.2; omega) (P1 ww hb) (P2 ww hb) (by rw [hT11.2.1]; exact tsl_nil _) hT11.1
    rw [hK11] at r32
    generalize numT n11 x11 = TN at *
    generalize decOkB n11 x11 = K11 at *
    have HT11 := Lib.hid hT11; have HK11 := Lib.hid hK11; have HD11 := Lib.hid hd11; have HV11 := Lib.hid hv11; clear hT11 hK11 hd11 hv11 P1 P2 hc1 hsz1
    have R1 := Lib.hid r1; clear r1
    have R2 := Lib.hid r2; clear r2
    have R3 := Lib.hid r3; clear r3
    have R4 := Lib.hid r4; clear r4
    have R5 := Lib.hid r5; clear r5
    have R6 := Lib.hid r6; clear r6
    have R7 := Lib.hid r7; clear r7
    have R8 := Lib.hid r8; clear r8
    have R9 := Lib.hid r9; clear r9
    have R10 := Lib.hid r10; clear r10
    have R17 := Lib.hid r17; clear r17
    have R18 := Lib.hid r18; clear r18
    have R20 := Lib.hid r20; clear r20
    have R21 := Lib.hid r21; clear r21
    have F8 := Lib.hid f8; have F9 := Lib.hid f9; have F10 := Lib.hid f10; have R31 := Lib.hid r31; have R32 := Lib.hid r32; clear f8 f9 f10 r31 r32
    have d0 : Below w9.heap.size w9 w9.drew := (Below.refl _ _).drew
    refine wp_region_held_drew (S := fun ww => Below w9.heap.size w9 ww) (by kernel_rfl) d0 (fun _ => ?_)
    refine held_do 0 34 (.agg #[.int .i64 t1.kind, .int .i64 t1.n, .int .i64 t1.x, .string t1.s, .slice a1 n1 c1]) (by kernel_rfl) (by kernel_rfl) (by kernel_rfl) (fun _ _ _ h => h) (by kernel_rfl) (by kernel_rfl) d0 (fun ww h => run_of (op := .load 26 (.tmp 3)) (by kernel_rfl) (fun o ho => load_val rfl (five_kept h XA9.out) ho)) ?_
    try simp only [Act.put, List.setIfInBounds_toArray, List.set_cons_zero, List.set_cons_succ]
    refine held_do 2 36 (.agg #[.int .i64 t1.kind, .int .i64 t1.n, .int .i64 t1.x, .string t1.s, .slice a1 n1 c1]) (by kernel_rfl) (by kernel_rfl) (by kernel_rfl) (fun _ _ _ h => h) (by kernel_rfl) (by kernel_rfl) d0 (fun ww h => run_of (op := .load 26 (.tmp 3)) (by kernel_rfl) (fun o ho => load_val rfl (five_kept h XA9.out) ho)) ?_
    try simp only [Act.put, List.setIfInBounds_toArray, List.set_cons_zero, List.set_cons_succ]
    refine held_call 1 35 13 #[.agg #[.int .i64 t1.kind, .int .i64 t1.n, .int .i64 t1.x, .string t1.s, .slice a1 n1 c1]] (by kernel_rfl) (by kernel_rfl) (by kernel_rfl) (fun _ => by kernel_rfl) ((R1.out _ d0).mono ?_)
    rintro _ v1 ⟨rfl, b1⟩
    have d1 := nx d0 b1
    clear b1
    refine ⟨_, rfl, d1, ?_⟩
    try simp only [Act.put, List.setIfInBounds_toArray, List.set_cons_zero, List.set_cons_succ]
    refine held_call 3 37 14 #[.agg #[.int .i64 t1.kind, .int .i64 t1.n, .int .i64 t1.x, .string t1.s, .slice a1 n1 c1]] (by kernel_rfl) (by kernel_rfl) (by kernel_rfl) (fun _ => by kernel_rfl) ((R2.out _ d1).mono ?_)
    rintro _ v2 ⟨rfl, b2⟩
    have d2 := nx d1 b2
    clear b2
    refine ⟨_, rfl, d2, ?_⟩
    try simp only [Act.put, List.setIfInBounds_toArray, List.set_cons_zero, List.set_cons_succ]
    refine held_do 4 38 (.bool false) (by kernel_rfl) (by kernel_rfl) (by kernel_rfl) (fun _ _ _ h => h) (by kernel_rfl) (by kernel_rfl) d2 (by intro ww hSw; clear hSw; go_simp) ?_
    try simp only [Act.put, List.setIfInBounds_toArray, List.set_cons_zero, List.set_cons_succ]
    refine held_do 5 39 (.bool false) (by kernel_rfl) (by kernel_rfl) (by kernel_rfl) (fun _ _ _ h => h) (by kernel_rfl) (by kernel_rfl) d2 (fun ww _ => by kernel_rfl) ?_
    try simp only [Act.put, List.setIfInBounds_toArray, List.set_cons_zero, List.set_cons_succ]
    refine held_do 6 40 (.agg #[.int .i64 t2.kind, .int .i64 t2.n, .int .i64 t2.x, .string t2.s, .slice a2 n2 c2]) (by kernel_rfl) (by kernel_rfl) (by kernel_rfl) (fun _ _ _ h => h) (by kernel_rfl) (by kernel_rfl) d2 (fun ww h => run_of (op := .load 26 (.tmp 4)) (by kernel_rfl) (fun o ho => load_val rfl (five_kept h XB9.out) ho)) ?_
    try simp only [Act.put, List.setIfInBounds_toArray, List.set_cons_zero, List.set_cons_succ]
    refine held_do 7 41 (.agg #[.int .i64 t3.kind, .int .i64 t3.n, .int .i64 t3.x, .string t3.s, .slice a3 n3 c3]) (by kernel_rfl) (by kernel_rfl) (by kernel_rfl) (fun _ _ _ h => h) (by kernel_rfl) (by kernel_rfl) d2 (fun ww h => run_of (op := .load 26 (.tmp 5)) (by kernel_rfl) (fun o ho => load_val rfl (five_kept h XC9.out) ho)) ?_
    try simp only [Act.put, List.setIfInBounds_toArray, List.set_cons_zero, List.set_cons_succ]
    refine held_do 9 43 (.agg #[.int .i64 t2.kind, .int .i64 t2.n, .int .i64 t2.x, .string t2.s, .slice a2 n2 c2]) (by kernel_rfl) (by kernel_rfl) (by kernel_rfl) (fun _ _ _ h => h) (by kernel_rfl) (by kernel_rfl) d2 (fun ww h => run_of (op := .load 26 (.tmp 4)) (by kernel_rfl) (fun o ho => load_val rfl (five_kept h XB9.out) ho)) ?_
    try simp only [Act.put, List.setIfInBounds_toArray, List.set_cons_zero, List.set_cons_succ]
    refine held_do 10 44 (.agg #[.int .i64 t3.kind, .int .i64 t3.n, .int .i64 t3.x, .string t3.s, .slice a3 n3 c3]) (by kernel_rfl) (by kernel_rfl) (by kernel_rfl) (fun _ _ _ h => h) (by kernel_rfl) (by kernel_rfl) d2 (fun ww h => run_of (op := .load 26 (.tmp 5)) (by kernel_rfl) (fun o ho => load_val rfl (five_kept h XC9.out) ho)) ?_
    try simp only [Act.put, List.setIfInBounds_toArray, List.set_cons_zero, List.set_cons_succ]
    refine held_call 8 42 15 #[.agg #[.int .i64 t2.kind, .int .i64 t2.n, .int .i64 t2.x, .string t2.s, .slice a2 n2 c2], .agg #[.int .i64 t3.kind, .int .i64 t3.n, .int .i64 t3.x, .string t3.s, .slice a3 n3 c3]] (by kernel_rfl) (by kernel_rfl) (by kernel_rfl) (fun _ => by kernel_rfl) ((R3.out _ d2).mono ?_)
    rintro _ v3 ⟨rfl, b3⟩
    have d3 := nx d2 b3
    clear b3
    refine ⟨_, rfl, d3, ?_⟩
    try simp only [Act.put, List.setIfInBounds_toArray, List.set_cons_zero, List.set_cons_succ]
    refine held_call 11 45 16 #[.agg #[.int .i64 t2.kind, .int .i64 t2.n, .int .i64 t2.x, .string t2.s, .slice a2 n2 c2], .agg #[.int .i64 t3.kind, .int .i64 t3.n, .int .i64 t3.x, .string t3.s, .slice a3 n3 c3]] (by kernel_rfl) (by kernel_rfl) (by kernel_rfl) (fun _ => by kernel_rfl) ((R4.out _ d3).mono ?_)
    rintro _ v4 ⟨rfl, b4⟩
    have d4 := nx d3 b4
    clear b4
    refine ⟨_, rfl, d4, ?_⟩
    try simp only [Act.put, List.setIfInBounds_toArray, List.set_cons_zero, List.set_cons_succ]
    refine held_do 12 46 (.bool false) (by kernel_rfl) (by kernel_rfl) (by kernel_rfl) (fun _ _ _ h => h) (by kernel_rfl) (by kernel_rfl) d4 (by intro ww hSw; clear hSw; go_simp) ?_
    try simp only [Act.put, List.setIfInBounds_toArray, List.set_cons_zero, List.set_cons_succ]
    refine held_do 13 47 (.bool false) (by kernel_rfl) (by kernel_rfl) (by kernel_rfl) (fun _ _ _ h => h) (by kernel_rfl) (by kernel_rfl) d4 (fun ww _ => by kernel_rfl) ?_
    try simp only [Act.put, List.setIfInBounds_toArray, List.set_cons_zero, List.set_cons_succ]
    refine held_do 14 48 (.bool false) (by kernel_rfl) (by kernel_rfl) (by kernel_rfl) (fun _ _ _ h => h) (by kernel_rfl) (by kernel_rfl) d4 (fun ww _ => by kernel_rfl) ?_
    try simp only [Act.put, List.setIfInBounds_toArray, List.set_cons_zero, List.set_cons_succ]
    refine held_do 15 49 (.agg #[.int .i64 t1.kind, .int .i64 t1.n, .int .i64 t1.x, .string t1.s, .slice a1 n1 c1]) (by kernel_rfl) (by kernel_rfl) (by kernel_rfl) (fun _ _ _ h => h) (by kernel_rfl) (by kernel_rfl) d4 (fun ww h => run_of (op := .load 26 (.tmp 3)) (by kernel_rfl) (fun o ho => load_val rfl (five_kept h XA9.out) ho)) ?_
    try simp only [Act.put, List.setIfInBounds_toArray, List.set_cons_zero, List.set_cons_succ]
    refine held_do 17 51 (.agg #[.int .i64 t1.kind, .int .i64 t1.n, .int .i64 t1.x, .string t1.s, .slice a1 n1 c1]) (by kernel_rfl) (by kernel_rfl) (by kernel_rfl) (fun _ _ _ h => h) (by kernel_rfl) (by kernel_rfl) d4 (fun ww h => run_of (op := .load 26 (.tmp 3)) (by kernel_rfl) (fun o ho => load_val rfl (five_kept h XA9.out) ho)) ?_
    try simp only [Act.put, List.setIfInBounds_toArray, List.set_cons_zero, List.set_cons_succ]
    refine held_call 16 50 17 #[.agg #[.int .i64 t1.kind, .int .i64 t1.n, .int .i64 t1.x, .string t1.s, .slice a1 n1 c1]] (by kernel_rfl) (by kernel_rfl) (by kernel_rfl) (fun _ => by kernel_rfl) ((R5.out _ d4).mono ?_)
    rintro _ v5 ⟨rfl, b5⟩
    have d5 := nx d4 b5
    clear b5
    refine ⟨_, rfl, d5, ?_⟩
    try simp only [Act.put, List.setIfInBounds_toArray, List.set_cons_zero, List.set_cons_succ]
    refine held_call 18 52 18 #[.agg #[.int .i64 t1.kind, .int .i64 t1.n, .int .i64 t1.x, .string t1.s, .slice a1 n1 c1]] (by kernel_rfl) (by kernel_rfl) (by kernel_rfl) (fun _ => by kernel_rfl) ((R6.out _ d5).mono ?_)
    rintro _ v6 ⟨rfl, b6⟩
    have d6 := nx d5 b6
    clear b6
    refine ⟨_, rfl, d6, ?_⟩
    try simp only [Act.put, List.setIfInBounds_toArray, List.set_cons_zero, List.set_cons_succ]
    refine held_do 19 53 (.bool false) (by kernel_rfl) (by kernel_rfl) (by kernel_rfl) (fun _ _ _ h => h) (by kernel_rfl) (by kernel_rfl) d6 (by intro ww hSw; clear hSw; go_simp) ?_
    try simp only [Act.put, List.setIfInBounds_toArray, List.set_cons_zero, List.set_cons_succ]
    refine held_do 20 54 (.bool false) (by kernel_rfl) (by kernel_rfl) (by kernel_rfl) (fun _ _ _ h => h) (by kernel_rfl) (by kernel_rfl) d6 (fun ww _ => by kernel_rfl) ?_
    try simp only [Act.put, List.setIfInBounds_toArray, List.set_cons_zero, List.set_cons_succ]
    refine held_do 21 55 (.bool false) (by kernel_rfl) (by kernel_rfl) (by kernel_rfl) (fun _ _ _ h => h) (by kernel_rfl) (by kernel_rfl) d6 (fun ww _ => by kernel_rfl) ?_
    try simp only [Act.put, List.setIfInBounds_toArray, List.set_cons_zero, List.set_cons_succ]
    refine held_do 22 56 (.agg #[.int .i64 t1.kind, .int .i64 t1.n, .int .i64 t1.x, .string t1.s, .slice a1 n1 c1]) (by kernel_rfl) (by kernel_rfl) (by kernel_rfl) (fun _ _ _ h => h) (by kernel_rfl) (by kernel_rfl) d6 (fun ww h => run_of (op := .load 26 (.tmp 3)) (by kernel_rfl) (fun o ho => load_val rfl (five_kept h XA9.out) ho)) ?_
    try simp only [Act.put, List.setIfInBounds_toArray, List.set_cons_zero, List.set_cons_succ]
    refine held_do 24 58 (.agg #[.int .i64 t1.kind, .int .i64 t1.n, .int .i64 t1.x, .string t1.s, .slice a1 n1 c1]) (by kernel_rfl) (by kernel_rfl) (by kernel_rfl) (fun _ _ _ h => h) (by kernel_rfl) (by kernel_rfl) d6 (fun ww h => run_of (op := .load 26 (.tmp 3)) (by kernel_rfl) (fun o ho => load_val rfl (five_kept h XA9.out) ho)) ?_
    try simp only [Act.put, List.setIfInBounds_toArray, List.set_cons_zero, List.set_cons_succ]
    refine held_call 23 57 19 #[.agg #[.int .i64 t1.kind, .int .i64 t1.n, .int .i64 t1.x, .string t1.s, .slice a1 n1 c1]] (by kernel_rfl) (by kernel_rfl) (by kernel_rfl) (fun _ => by kernel_rfl) ((R7.out _ d6).mono ?_)
    rintro _ v7 ⟨rfl, b7⟩
    have d7 := nx d6 b7
    clear b7
    refine ⟨_, rfl, d7, ?_⟩
    try simp only [Act.put, List.setIfInBounds_toArray, List.set_cons_zero, List.set_cons_succ]
    refine held_call 25 59 20 #[.agg #[.int .i64 t1.kind, .int .i64 t1.n, .int .i64 t1.x, .string t1.s, .slice a1 n1 c1]] (by kernel_rfl) (by kernel_rfl) (by kernel_rfl) (fun _ => by kernel_rfl) ((R8.out _ d7).mono ?_)
    rintro _ v8 ⟨rfl, b8⟩
    have d8 := nx d7 b8
    clear b8
    refine ⟨_, rfl, d8, ?_⟩
    try simp only [Act.put, List.setIfInBounds_toArray, List.set_cons_zero, List.set_cons_succ]
    refine held_do 26 60 (.bool false) (by kernel_rfl) (by kernel_rfl) (by kernel_rfl) (fun _ _ _ h => h) (by kernel_rfl) (by kernel_rfl) d8 (by intro ww hSw; clear hSw; go_simp) ?_
    try simp only [Act.put, List.setIfInBounds_toArray, List.set_cons_zero, List.set_cons_succ]
    refine held_do 27 61 (.bool false) (by kernel_rfl) (by kernel_rfl) (by kernel_rfl) (fun _ _ _ h => h) (by kernel_rfl) (by kernel_rfl) d8 (fun ww _ => by kernel_rfl) ?_
    try simp only [Act.put, List.setIfInBounds_toArray, List.set_cons_zero, List.set_cons_succ]
    refine held_do 28 62 (.bool false) (by kernel_rfl) (by kernel_rfl) (by kernel_rfl) (fun _ _ _ h => h) (by kernel_rfl) (by kernel_rfl) d8 (fun ww _ => by kernel_rfl) ?_
    try simp only [Act.put, List.setIfInBounds_toArray, List.set_cons_zero, List.set_cons_succ]
    refine held_do 29 63 (.int .i64 k7) (by kernel_rfl) (by kernel_rfl) (by kernel_rfl) (fun _ _ _ h => h) (by kernel_rfl) (by kernel_rfl) d8 (fun ww _ => by kernel_rfl) ?_
    try simp only [Act.put, List.setIfInBounds_toArray, List.set_cons_zero, List.set_cons_succ]
    refine held_do 31 65 (.int .i64 k7) (by kernel_rfl) (by kernel_rfl) (by kernel_rfl) (fun _ _ _ h => h) (by kernel_rfl) (by kernel_rfl) d8 (fun ww _ => by kernel_rfl) ?_
    try simp only [Act.put, List.setIfInBounds_toArray, List.set_cons_zero, List.set_cons_succ]
    refine held_call 30 64 21 #[.int .i64 k7] (by kernel_rfl) (by kernel_rfl) (by kernel_rfl) (fun _ => by kernel_rfl) ((R9.out _ d8).mono ?_)
    rintro _ v9 ⟨rfl, b9⟩
    have d9 := nx d8 b9
    clear b9
    refine ⟨_, rfl, d9, ?_⟩
    try simp only [Act.put, List.setIfInBounds_toArray, List.set_cons_zero, List.set_cons_succ]
    refine held_call 32 66 22 #[.int .i64 k7] (by kernel_rfl) (by kernel_rfl) (by kernel_rfl) (fun _ => by kernel_rfl) ((R10.out _ d9).mono ?_)
    rintro _ v10 ⟨rfl, b10⟩
    have d10 := nx d9 b10
    clear b10
    refine ⟨_, rfl, d10, ?_⟩
    try simp only [Act.put, List.setIfInBounds_toArray, List.set_cons_zero, List.set_cons_succ]
    refine held_do 33 67 (.bool false) (by kernel_rfl) (by kernel_rfl) (by kernel_rfl) (fun _ _ _ h => h) (by kernel_rfl) (by kernel_rfl) d10 (by intro ww hSw; clear hSw; go_simp) ?_
    try simp only [Act.put, List.setIfInBounds_toArray, List.set_cons_zero, List.set_cons_succ]
    refine held_do 34 68 (.bool false) (by kernel_rfl) (by kernel_rfl) (by kernel_rfl) (fun _ _ _ h => h) (by kernel_rfl) (by kernel_rfl) d10 (fun ww _ => by kernel_rfl) ?_
    try simp only [Act.put, List.setIfInBounds_toArray, List.set_cons_zero, List.set_cons_succ]
    refine held_do 35 69 (.bool false) (by kernel_rfl) (by kernel_rfl) (by kernel_rfl) (fun _ _ _ h => h) (by kernel_rfl) (by kernel_rfl) d10 (fun ww _ => by kernel_rfl) ?_
    try simp only [Act.put, List.setIfInBounds_toArray, List.set_cons_zero, List.set_cons_succ]
    refine held_do 36 70 (.int .i64 n8) (by kernel_rfl) (by kernel_rfl) (by kernel_rfl) (fun _ _ _ h => h) (by kernel_rfl) (by kernel_rfl) d10 (fun ww _ => by kernel_rfl) ?_
    try simp only [Act.put, List.setIfInBounds_toArray, List.set_cons_zero, List.set_cons_succ]
    refine held_do 38 72 (.int .i64 n8) (by kernel_rfl) (by kernel_rfl) (by kernel_rfl) (fun _ _ _ h => h) (by kernel_rfl) (by kernel_rfl) d10 (fun ww _ => by kernel_rfl) ?_
    try simp only [Act.put, List.setIfInBounds_toArray, List.set_cons_zero, List.set_cons_succ]
    refine held_call 37 71 23 #[.int .i64 n8] (by kernel_rfl) (by kernel_rfl) (by kernel_rfl) (fun _ => by kernel_rfl) ((impl_IntVal n8 _).mono ?_)
    rintro _ v11 ⟨rfl, b11⟩
    have d11 := nx d10 b11
    clear b11
    refine ⟨_, rfl, d11, ?_⟩
    try simp only [Act.put, List.setIfInBounds_toArray, List.set_cons_zero, List.set_cons_succ]
    refine held_call 39 73 24 #[.int .i64 n8] (by kernel_rfl) (by kernel_rfl) (by kernel_rfl) (fun _ => by kernel_rfl) ((spec_IntVal n8 _).mono ?_)
    rintro _ v12 ⟨rfl, b12⟩
    have d12 := nx d11 b12
    clear b12
    refine ⟨_, rfl, d12, ?_⟩
    try simp only [Act.put, List.setIfInBounds_toArray, List.set_cons_zero, List.set_cons_succ]
    refine held_call 40 74 16 #[.agg #[.int .i64 3, .int .i64 n8, .int .i64 0, .string { data := #[] }, .slice none 0 0], .agg #[.int .i64 3, .int .i64 n8, .int .i64 0, .string { data := #[] }, .slice none 0 0]] (by kernel_rfl) (by kernel_rfl) (by kernel_rfl) (fun _ => by kernel_rfl) ((sameLaw_eq (.mk 3 n8 0 { data := #[] } []) _ (.slice none 0 0) (.slice none 0 0) (tsl_nil _) (tsl_nil _) F8.out).mono ?_)
    rintro _ v13 ⟨rfl, b13⟩
    have d13 := nx d12 b13
    clear b13
    refine ⟨_, rfl, d13, ?_⟩
    try simp only [Act.put, List.setIfInBounds_toArray, List.set_cons_zero, List.set_cons_succ]
    refine held_do 41 75 (.bool false) (by kernel_rfl) (by kernel_rfl) (by kernel_rfl) (fun _ _ _ h => h) (by kernel_rfl) (by kernel_rfl) d13 (fun ww _ => by kernel_rfl) ?_
    try simp only [Act.put, List.setIfInBounds_toArray, List.set_cons_zero, List.set_cons_succ]
    refine held_do 42 76 (.bool false) (by kernel_rfl) (by kernel_rfl) (by kernel_rfl) (fun _ _ _ h => h) (by kernel_rfl) (by kernel_rfl) d13 (fun ww _ => by kernel_rfl) ?_
    try simp only [Act.put, List.setIfInBounds_toArray, List.set_cons_zero, List.set_cons_succ]
    refine held_do 43 77 (.bool false) (by kernel_rfl) (by kernel_rfl) (by kernel_rfl) (fun _ _ _ h => h) (by kernel_rfl) (by kernel_rfl) d13 (fun ww _ => by kernel_rfl) ?_
    try simp only [Act.put, List.setIfInBounds_toArray, List.set_cons_zero, List.set_cons_succ]
    refine held_do 44 78 (.string S9) (by kernel_rfl) (by kernel_rfl) (by kernel_rfl) (fun _ _ _ h => h) (by kernel_rfl) (by kernel_rfl) d13 (fun ww _ => by kernel_rfl) ?_
    try simp only [Act.put, List.setIfInBounds_toArray, List.set_cons_zero, List.set_cons_succ]
    refine held_do 46 80 (.string S9) (by kernel_rfl) (by kernel_rfl) (by kernel_rfl) (fun _ _ _ h => h) (by kernel_rfl) (by kernel_rfl) d13 (fun ww _ => by kernel_rfl) ?_
    try simp only [Act.put, List.setIfInBounds_toArray, List.set_cons_zero, List.set_cons_succ]
    refine held_call 45 79 25 #[.string S9] (by kernel_rfl) (by kernel_rfl) (by kernel_rfl) (fun _ => by kernel_rfl) ((impl_TextVal S9 _).mono ?_)
    rintro _ v14 ⟨rfl, b14⟩
    have d14 := nx d13 b14
    clear b14
    refine ⟨_, rfl, d14, ?_⟩
    try simp only [Act.put, List.setIfInBounds_toArray, List.set_cons_zero, List.set_cons_succ]
    refine held_call 47 81 26 #[.string S9] (by kernel_rfl) (by kernel_rfl) (by kernel_rfl) (fun _ => by kernel_rfl) ((spec_TextVal S9 _).mono ?_)
    rintro _ v15 ⟨rfl, b15⟩
    have d15 := nx d14 b15
    clear b15
    refine ⟨_, rfl, d15, ?_⟩
    try simp only [Act.put, List.setIfInBounds_toArray, List.set_cons_zero, List.set_cons_succ]
    refine held_call 48 82 16 #[.agg #[.int .i64 7, .int .i64 0, .int .i64 0, .string S9, .slice none 0 0], .agg #[.int .i64 7, .int .i64 0, .int .i64 0, .string S9, .slice none 0 0]] (by kernel_rfl) (by kernel_rfl) (by kernel_rfl) (fun _ => by kernel_rfl) ((sameLaw_eq (.mk 7 0 0 S9 []) _ (.slice none 0 0) (.slice none 0 0) (tsl_nil _) (tsl_nil _) F9.out).mono ?_)
    rintro _ v16 ⟨rfl, b16⟩
    have d16 := nx d15 b16
    clear b16
    refine ⟨_, rfl, d16, ?_⟩
    try simp only [Act.put, List.setIfInBounds_toArray, List.set_cons_zero, List.set_cons_succ]
    refine held_do 49 83 (.bool false) (by kernel_rfl) (by kernel_rfl) (by kernel_rfl) (fun _ _ _ h => h) (by kernel_rfl) (by kernel_rfl) d16 (fun ww _ => by kernel_rfl) ?_
    try simp only [Act.put, List.setIfInBounds_toArray, List.set_cons_zero, List.set_cons_succ]
    refine held_do 50 84 (.bool false) (by kernel_rfl) (by kernel_rfl) (by kernel_rfl) (fun _ _ _ h => h) (by kernel_rfl) (by kernel_rfl) d16 (fun ww _ => by kernel_rfl) ?_
    try simp only [Act.put, List.setIfInBounds_toArray, List.set_cons_zero, List.set_cons_succ]
    refine held_do 51 85 (.bool false) (by kernel_rfl) (by kernel_rfl) (by kernel_rfl) (fun _ _ _ h => h) (by kernel_rfl) (by kernel_rfl) d16 (fun ww _ => by kernel_rfl) ?_
    try simp only [Act.put, List.setIfInBounds_toArray, List.set_cons_zero, List.set_cons_succ]
    refine held_do 52 86 (.slice a10 n10 c10) (by kernel_rfl) (by kernel_rfl) (by kernel_rfl) (fun _ _ _ h => h) (by kernel_rfl) (by kernel_rfl) d16 (fun ww _ => by kernel_rfl) ?_
    try simp only [Act.put, List.setIfInBounds_toArray, List.set_cons_zero, List.set_cons_succ]
    refine held_do 54 88 (.slice a10 n10 c10) (by kernel_rfl) (by kernel_rfl) (by kernel_rfl) (fun _ _ _ h => h) (by kernel_rfl) (by kernel_rfl) d16 (fun ww _ => by kernel_rfl) ?_
    try simp only [Act.put, List.setIfInBounds_toArray, List.set_cons_zero, List.set_cons_succ]
    refine held_call 53 87 27 #[.slice a10 n10 c10] (by kernel_rfl) (by kernel_rfl) (by kernel_rfl) (fun _ => by kernel_rfl) ((R17.out _ d16).mono ?_)
    rintro _ v17 ⟨am, nm, cm, rfl, om, b17⟩
    have d17 := nx d16 b17
    have TM := Lib.hid om.tsl; clear om
    clear b17
    refine ⟨_, rfl, d17, ?_⟩
    try simp only [Act.put, List.setIfInBounds_toArray, List.set_cons_zero, List.set_cons_succ]
    refine held_call 55 89 28 #[.slice a10 n10 c10] (by kernel_rfl) (by kernel_rfl) (by kernel_rfl) (fun _ => by kernel_rfl) ((R18.out _ d17).mono ?_)
    rintro _ v18 ⟨ar, nr, cr, rfl, or_, b18⟩
    have d18 := nx d17 b18
    have TM2 := Lib.hid (TSl.kept b18 TM.out)
    have TR := Lib.hid or_.tsl; clear or_
    clear b18
    refine ⟨_, rfl, d18, ?_⟩
    try simp only [Act.put, List.setIfInBounds_toArray, List.set_cons_zero, List.set_cons_succ]
    refine held_call 56 90 16 #[.agg #[.int .i64 9, .int .i64 0, .int .i64 0, .string { data := #[] }, .slice am nm cm], .agg #[.int .i64 9, .int .i64 0, .int .i64 0, .string { data := #[] }, .slice ar nr cr]] (by kernel_rfl) (by kernel_rfl) (by kernel_rfl) (fun _ => by kernel_rfl) ((sameLaw_eq (.mk 9 0 0 { data := #[] } l10) _ (.slice am nm cm) (.slice ar nr cr) TM2.out TR.out F10.out).mono ?_)
    rintro _ v19 ⟨rfl, b19⟩
    have d19 := nx d18 b19
    clear b19
    refine ⟨_, rfl, d19, ?_⟩
    try simp only [Act.put, List.setIfInBounds_toArray, List.set_cons_zero, List.set_cons_succ]
    refine held_do 57 91 (.bool false) (by kernel_rfl) (by kernel_rfl) (by kernel_rfl) (fun _ _ _ h => h) (by kernel_rfl) (by kernel_rfl) d19 (fun ww _ => by kernel_rfl) ?_
    try simp only [Act.put, List.setIfInBounds_toArray, List.set_cons_zero, List.set_cons_succ]
    refine held_do 58 92 (.bool false) (by kernel_rfl) (by kernel_rfl) (by kernel_rfl) (fun _ _ _ h => h) (by kernel_rfl) (by kernel_rfl) d19 (fun ww _ => by kernel_rfl) ?_
    try simp only [Act.put, List.setIfInBounds_toArray, List.set_cons_zero, List.set_cons_succ]
    refine held_do 59 93 (.bool false) (by kernel_rfl) (by kernel_rfl) (by kernel_rfl) (fun _ _ _ h => h) (by kernel_rfl) (by kernel_rfl) d19 (fun ww _ => by kernel_rfl) ?_
    try simp only [Act.put, List.setIfInBounds_toArray, List.set_cons_zero, List.set_cons_succ]
    refine held_do 60 94 (.agg #[.int .i64 n11, .int .i64 x11]) (by kernel_rfl) (by kernel_rfl) (by kernel_rfl) (fun _ _ _ h => h) (by kernel_rfl) (by kernel_rfl) d19 (fun ww h => run_of (op := .load 34 (.tmp 11)) (by kernel_rfl) (fun o ho => load_dec rfl (two_num h XD9.out) ho)) ?_
    try simp only [Act.put, List.setIfInBounds_toArray, List.set_cons_zero, List.set_cons_succ]
    refine held_do 62 96 (.agg #[.int .i64 n11, .int .i64 x11]) (by kernel_rfl) (by kernel_rfl) (by kernel_rfl) (fun _ _ _ h => h) (by kernel_rfl) (by kernel_rfl) d19 (fun ww h => run_of (op := .load 34 (.tmp 11)) (by kernel_rfl) (fun o ho => load_dec rfl (two_num h XD9.out) ho)) ?_
    try simp only [Act.put, List.setIfInBounds_toArray, List.set_cons_zero, List.set_cons_succ]
    refine held_call 61 95 29 #[.agg #[.int .i64 n11, .int .i64 x11]] (by kernel_rfl) (by kernel_rfl) (by kernel_rfl) (fun _ => by kernel_rfl) ((R20.out _ d19).mono ?_)
    rintro _ v20 ⟨rfl, b20⟩
    have d20 := nx d19 b20
    clear b20
    refine ⟨_, rfl, d20, ?_⟩
    try simp only [Act.put, List.setIfInBounds_toArray, List.set_cons_zero, List.set_cons_succ]
    refine held_call 63 97 30 #[.agg #[.int .i64 n11, .int .i64 x11]] (by kernel_rfl) (by kernel_rfl) (by kernel_rfl) (fun _ => by kernel_rfl) ((R21.out _ d20).mono ?_)
    rintro _ v21 ⟨rfl, b21⟩
    have d21 := nx d20 b21
    clear b21
    refine ⟨_, rfl, d21, ?_⟩
    try simp only [Act.put, List.setIfInBounds_toArray, List.set_cons_zero, List.set_cons_succ]
    refine held_call 64 98 16 #[.agg #[.int .i64 TN.kind, .int .i64 TN.n, .int .i64 TN.x, .string TN.s, .slice none 0 0], .agg #[.int .i64 TN.kind, .int .i64 TN.n, .int .i64 TN.x, .string TN.s, .slice none 0 0]] (by kernel_rfl) (by kernel_rfl) (by kernel_rfl) (fun _ => by kernel_rfl) ((sameLaw_eq TN _ (.slice none 0 0) (.slice none 0 0) (by rw [HT11.out.2.1]; exact tsl_nil _) (by rw [HT11.out.2.1]; exact tsl_nil _) HT11.out.1).mono ?_)
    rintro _ v22 ⟨rfl, b22⟩
    have d22 := nx d21 b22
    clear b22
    refine ⟨_, rfl, d22, ?_⟩
    try simp only [Act.put, List.setIfInBounds_toArray, List.set_cons_zero, List.set_cons_succ]
    refine held_do 65 99 (.bool false) (by kernel_rfl) (by kernel_rfl) (by kernel_rfl) (fun _ _ _ h => h) (by kernel_rfl) (by kernel_rfl) d22 (fun ww _ => by kernel_rfl) ?_
    try simp only [Act.put, List.setIfInBounds_toArray, List.set_cons_zero, List.set_cons_succ]
    refine held_do 66 100 (.bool false) (by kernel_rfl) (by kernel_rfl) (by kernel_rfl) (fun _ _ _ h => h) (by kernel_rfl) (by kernel_rfl) d22 (fun ww _ => by kernel_rfl) ?_
    try simp only [Act.put, List.setIfInBounds_toArray, List.set_cons_zero, List.set_cons_succ]
    refine wpAnyH_done (by kernel_rfl) ?_ _
    obtain ⟨w10, hw10⟩ : ∃ wx, wx = v22 := ⟨_, rfl⟩
    have XA10 : Hid (w10.heap[w1.heap.size]? = some (.cells #[.int .i64 t1.kind, .int .i64 t1.n, .int .i64 t1.x, .string t1.s, .slice a1 n1 c1] 26 (0, 0))) := Lib.hid (by rw [hw10]; exact box_below XA9.out d22)
    have XB10 : Hid (w10.heap[w2.heap.size]? = some (.cells #[.int .i64 t2.kind, .int .i64 t2.n, .int .i64 t2.x, .string t2.s, .slice a2 n2 c2] 26 (0, 0))) := Lib.hid (by rw [hw10]; exact box_below XB9.out d22)
    have XC10 : Hid (w10.heap[(w2.heap.size + 1)]? = some (.cells #[.int .i64 t3.kind, .int .i64 t3.n, .int .i64 t3.x, .string t3.s, .slice a3 n3 c3] 26 (0, 0))) := Lib.hid (by rw [hw10]; exact box_below XC9.out d22)
    have XU10 : Hid (w10.heap[w3.heap.size]? = some (.cells #[.int .i64 t4.kind, .int .i64 t4.n, .int .i64 t4.x, .string t4.s, .slice a4 n4 c4] 26 (0, 0))) := Lib.hid (by rw [hw10]; exact box_below XU9.out d22)
    have XD10 : Hid (w10.heap[w8.heap.size]? = some (.cells #[.int .i64 n11, .int .i64 x11] 34 (0, 0))) := Lib.hid (by rw [hw10]; exact box_below XD9.out d22)
    have TSA10 := Lib.hid (show TSl w10 _ _ by rw [hw10]; exact TSl.kept d22 TSA9.out)
    have TSB10 := Lib.hid (show TSl w10 _ _ by rw [hw10]; exact TSl.kept d22 TSB9.out)
    have TSC10 := Lib.hid (show TSl w10 _ _ by rw [hw10]; exact TSl.kept d22 TSC9.out)
    have TSU10 := Lib.hid (show TSl w10 _ _ by rw [hw10]; exact TSl.kept d22 TSU9.out)
    have TSL10 := Lib.hid (show TSl w10 _ _ by rw [hw10]; exact TSl.kept d22 TSL9.out)
    have T10 := Lib.hid (show Below w.heap.size w w10 by rw [hw10]; exact nx T9.out d22)
    rw [← hw10]
    clear d22 d21 d20 d19 d18 d17 d16 d15 d14 d13 d12 d11 d10 d9 d8 d7 d6 d5 d4 d3 d2 d1 d0 hw10
    clear R1 R2 R3 R4 R5 R6 R7 R8 R9 R10 R17 R18 R21 TM TM2 TR F8 F9 F10
    have Ul := box_lt XU10.out
    obtain ⟨U0, U1, U2, U3, U4, Uf0, Uf1, Uf2, Uf3, Uf4⟩ := five_open XU10.out
    obtain ⟨hok4, hc4, hf4⟩ := HT4.out; have hsz4 := sz_le_cost t4
    have hLX : ∀ ww v, TSl ww v [t4, t4] → Calls Tryz.prog 27 #[v] ww (CopyP ww (twoT t4)) := fun ww v h => listVal_impl [t4, t4] ww v (by simp [costL]; omega) h
    have e1 := two_deep t4; have e2 := two_sz t4; have e3 := two_ok hok4; have e4 := two_ne t4; have e5 := two_cost t4; have e6 := two_fits t4
    generalize twoT t4 = tX at *
    have HLX := Lib.hid hLX; have HE := Lib.hid (show tX.deep = t4.deep + 1 ∧ tX.sz = 2 * t4.sz + 1 ∧ tX.ok = true ∧ tX ≠ t4 ∧ tX.cost = 2 * t4.cost + 2 ∧ Fits tX.kind tX.n tX.x tX.s from ⟨e1, e2, e3, e4, e5, e6⟩)
    clear hLX e1 e2 e3 e4 e5 e6 hok4 hc4 hsz4
    go_wp2_with fail
    refine (HLX.out _ _ (two_row TSU10.out hf4)).mono ?_
    rintro _ w11 ⟨a12, n12, c12, rfl, o12, b'⟩
    have XA11 : Hid (w11.heap[w1.heap.size]? = some (.cells #[.int .i64 t1.kind, .int .i64 t1.n, .int .i64 t1.x, .string t1.s, .slice a1 n1 c1] 26 (0, 0))) := Lib.hid (box_below (box_alloc XA10.out _) b')
    have XB11 : Hid (w11.heap[w2.heap.size]? = some (.cells #[.int .i64 t2.kind, .int .i64 t2.n, .int .i64 t2.x, .string t2.s, .slice a2 n2 c2] 26 (0, 0))) := Lib.hid (box_below (box_alloc XB10.out _) b')
    have XC11 : Hid (w11.heap[(w2.heap.size + 1)]? = some (.cells #[.int .i64 t3.kind, .int .i64 t3.n, .int .i64 t3.x, .string t3.s, .slice a3 n3 c3] 26 (0, 0))) := Lib.hid (box_below (box_alloc XC10.out _) b')
    have XU11 : Hid (w11.heap[w3.heap.size]? = some (.cells #[.int .i64 t4.kind, .int .i64 t4.n, .int .i64 t4.x, .string t4.s, .slice a4 n4 c4] 26 (0, 0))) := Lib.hid (box_below (box_alloc XU10.out _) b')
    have XD11 : Hid (w11.heap[w8.heap.size]? = some (.cells #[.int .i64 n11, .int .i64 x11] 34 (0, 0))) := Lib.hid (box_below (box_alloc XD10.out _) b')
    have TSA11 := Lib.hid (TSl.kept b' (TSl.kept (below1 _ _) TSA10.out))
    have TSB11 := Lib.hid (TSl.kept b' (TSl.kept (below1 _ _) TSB10.out))
    have TSC11 := Lib.hid (TSl.kept b' (TSl.kept (below1 _ _) TSC10.out))
    have TSU11 := Lib.hid (TSl.kept b' (TSl.kept (below1 _ _) TSU10.out))
    have TSL11 := Lib.hid (TSl.kept b' (TSl.kept (below1 _ _) TSL10.out))
    have T11 := Lib.hid (nx (below_alloc T10.out _) b'); clear b'
    clear HLX hf4
    clear Ul U0 U1 U2 U3 U4 Uf0 Uf1 Uf2 Uf3 Uf4
    have TSX11 := Lib.hid o12.tsl; clear o12
    obtain ⟨w12, hw12⟩ : ∃ wx, wx = (w11.alloc (.cells #[.int .i64 tX.kind, .int .i64 tX.n, .int .i64 tX.x, .string tX.s, .slice a12 n12 c12] 26)) := ⟨_, rfl⟩
    have XA12 : Hid (w12.heap[w1.heap.size]? = some (.cells #[.int .i64 t1.kind, .int .i64 t1.n, .int .i64 t1.x, .string t1.s, .slice a1 n1 c1] 26 (0, 0))) := Lib.hid (by rw [hw12]; exact (box_alloc XA11.out _))
    have XB12 : Hid (w12.heap[w2.heap.size]? = some (.cells #[.int .i64 t2.kind, .int .i64 t2.n, .int .i64 t2.x, .string t2.s, .slice a2 n2 c2] 26 (0, 0))) := Lib.hid (by rw [hw12]; exact (box_alloc XB11.out _))
    have XC12 : Hid (w12.heap[(w2.heap.size + 1)]? = some (.cells #[.int .i64 t3.kind, .int .i64 t3.n, .int .i64 t3.x, .string t3.s, .slice a3 n3 c3] 26 (0, 0))) := Lib.hid (by rw [hw12]; exact (box_alloc XC11.out _))
    have XU12 : Hid (w12.heap[w3.heap.size]? = some (.cells #[.int .i64 t4.kind, .int .i64 t4.n, .int .i64 t4.x, .string t4.s, .slice a4 n4 c4] 26 (0, 0))) := Lib.hid (by rw [hw12]; exact (box_alloc XU11.out _))
    have XD12 : Hid (w12.heap[w8.heap.size]? = some (.cells #[.int .i64 n11, .int .i64 x11] 34 (0, 0))) := Lib.hid (by rw [hw12]; exact (box_alloc XD11.out _))
    have XX12 : Hid (w12.heap[w11.heap.size]? = some (.cells #[.int .i64 tX.kind, .int .i64 tX.n, .int .i64 tX.x, .string tX.s, .slice a12 n12 c12] 26 (0, 0))) := Lib.hid (by rw [hw12]; exact (heap_alloc_new _ _))
    have TSA12 := Lib.hid (show TSl w12 _ _ by rw [hw12]; exact (TSl.kept (below1 _ _) TSA11.out))
    have TSB12 := Lib.hid (show TSl w12 _ _ by rw [hw12]; exact (TSl.kept (below1 _ _) TSB11.out))
    have TSC12 := Lib.hid (show TSl w12 _ _ by rw [hw12]; exact (TSl.kept (below1 _ _) TSC11.out))
    have TSU12 := Lib.hid (show TSl w12 _ _ by rw [hw12]; exact (TSl.kept (below1 _ _) TSU11.out))
    have TSL12 := Lib.hid (show TSl w12 _ _ by rw [hw12]; exact (TSl.kept (below1 _ _) TSL11.out))
    have TSX12 := Lib.hid (show TSl w12 _ _ by rw [hw12]; exact (TSl.kept (below1 _ _) TSX11.out))
    have T12 := Lib.hid (show Below w.heap.size w w12 by rw [hw12]; exact (below_alloc T11.out _))
    go_wp2_with fail
    rw [← hw12]
    clear hw12
    obtain ⟨hok4, hc4, hf4⟩ := HT4.out; have hsz4 := sz_le_cost t4; have hdp := Tree.deep_le t4
    obtain ⟨e1, e2, e3, e4, e5, e6⟩ := HE.out
    have P1 := fun ww (hb : Below w12.heap.size w12 ww) => LA.out.1.kept (nx T12.out hb)
    have P2 := fun ww (hb : Below w12.heap.size w12 ww) => LA.out.2.kept (nx T12.out hb)
    have r1 := fun ww (hb : Below w12.heap.size w12 ww) => okImpl_c t4 ww (.slice a4 n4 c4) (by omega) (P1 ww hb) (P2 ww hb) (TSl.kept hb TSU12.out) hf4
    rw [hok4] at r1
    have r2 := fun ww (hb : Below w12.heap.size w12 ww) => sameImpl_c t4 t4 ww (.slice a4 n4 c4) (.slice a4 n4 c4) (TSl.kept hb TSU12.out) (TSl.kept hb TSU12.out) hf4 hf4
    rw [sameB_true.2 rfl] at r2
    have r3 := fun ww (hb : Below w12.heap.size w12 ww) => okImpl_c tX ww (.slice a12 n12 c12) (by omega) (P1 ww hb) (P2 ww hb) (TSl.kept hb TSX12.out) e6
    rw [e3] at r3
    have r4 := fun ww (hb : Below w12.heap.size w12 ww) => deepImpl_c tX ww (.slice a12 n12 c12) (by omega) (TSl.kept hb TSX12.out) e6
    rw [show ((tX.deep : Nat) : Int) = (t4.deep : Int) + 1 by omega] at r4
    have r5 := fun ww (hb : Below w12.heap.size w12 ww) => deepImpl_c t4 ww (.slice a4 n4 c4) (by omega) (TSl.kept hb TSU12.out) hf4
    have r6 := fun ww (hb : Below w12.heap.size w12 ww) => countImpl_c tX ww (.slice a12 n12 c12) (by omega) (TSl.kept hb TSX12.out) e6
    rw [show ((tX.sz : Nat) : Int) = 2 * (t4.sz : Int) + 1 by omega] at r6
    have r7 := fun ww (hb : Below w12.heap.size w12 ww) => countImpl_c t4 ww (.slice a4 n4 c4) (by omega) (TSl.kept hb TSU12.out) hf4
    have r8 := fun ww (hb : Below w12.heap.size w12 ww) => sameImpl_c tX t4 ww (.slice a12 n12 c12) (.slice a4 n4 c4) (TSl.kept hb TSX12.out) (TSl.kept hb TSU12.out) e6 hf4
    rw [sameB_false.2 e4] at r8
    have hb1 : 0 ≤ (t4.deep : Int) ∧ (t4.deep : Int) ≤ 1000000 := by omega
    have hb2 : 0 ≤ (t4.sz : Int) ∧ (t4.sz : Int) ≤ 1000000 := by omega
    generalize ((t4.deep : Nat) : Int) = D4 at *
    generalize ((t4.sz : Nat) : Int) = N4 at *
    have w1x : IntKind.i64.wrap (D4 + 1) = D4 + 1 := IntWalk.i64_in _ (by omega)
    have w2x : IntKind.i64.wrap (2 * N4) = 2 * N4 := IntWalk.i64_in _ (by omega)
    have w3x : IntKind.i64.wrap (2 * N4 + 1) = 2 * N4 + 1 := IntWalk.i64_in _ (by omega)
    have R1 := Lib.hid r1; clear r1
    have R2 := Lib.hid r2; clear r2
    have R3 := Lib.hid r3; clear r3
    have R4 := Lib.hid r4; clear r4
    have R5 := Lib.hid r5; clear r5
    have R6 := Lib.hid r6; clear r6
    have R7 := Lib.hid r7; clear r7
    have R8 := Lib.hid r8; clear r8
    have r32 := fun ww (hb : Below w12.heap.size w12 ww) => okImpl_c TN ww (.slice none 0 0) (by have := HT11.out.2.2; omega) (P1 ww hb) (P2 ww hb) (by rw [HT11.out.2.1]; exact tsl_nil _) HT11.out.1
    rw [HK11.out] at r32
    have r31 := fun ww (hb : Below w12.heap.size w12 ww) => HD11.out ww (P1 ww hb)
    have r33 := fun ww (_hb : Below w12.heap.size w12 ww) => HV11.out ww
    have R31 := Lib.hid r31; have R32 := Lib.hid r32; have R33 := Lib.hid r33; clear r31 r32 r33 P1 P2 hb1 hb2 e1 e2 e3 e4 e5 e6 hok4 hc4 hf4 hsz4 hdp
    have d0 : Below w12.heap.size w12 w12.drew := (Below.refl _ _).drew
    refine wp_region_held_drew (S := fun ww => Below w12.heap.size w12 ww) (by kernel_rfl) d0 (fun _ => ?_)
    refine held_do 0 105 (.agg #[.int .i64 t4.kind, .int .i64 t4.n, .int .i64 t4.x, .string t4.s, .slice a4 n4 c4]) (by kernel_rfl) (by kernel_rfl) (by kernel_rfl) (fun _ _ _ h => h) (by kernel_rfl) (by kernel_rfl) d0 (fun ww h => run_of (op := .load 26 (.tmp 6)) (by kernel_rfl) (fun o ho => load_val rfl (five_kept h XU12.out) ho)) ?_
    try simp only [Act.put, List.setIfInBounds_toArray, List.set_cons_zero, List.set_cons_succ]
    refine held_call 1 106 13 #[.agg #[.int .i64 t4.kind, .int .i64 t4.n, .int .i64 t4.x, .string t4.s, .slice a4 n4 c4]] (by kernel_rfl) (by kernel_rfl) (by kernel_rfl) (fun _ => by kernel_rfl) ((R1.out _ d0).mono ?_)
    rintro _ v1 ⟨rfl, b1⟩
    have d1 := nx d0 b1
    clear b1
    refine ⟨_, rfl, d1, ?_⟩
    try simp only [Act.put, List.setIfInBounds_toArray, List.set_cons_zero, List.set_cons_succ]
    refine held_do 2 107 (.bool true) (by kernel_rfl) (by kernel_rfl) (by kernel_rfl) (fun _ _ _ h => h) (by kernel_rfl) (by kernel_rfl) d1 (fun ww _ => by kernel_rfl) ?_
    try simp only [Act.put, List.setIfInBounds_toArray, List.set_cons_zero, List.set_cons_succ]
    refine held_do 3 108 (.agg #[.int .i64 t4.kind, .int .i64 t4.n, .int .i64 t4.x, .string t4.s, .slice a4 n4 c4]) (by kernel_rfl) (by kernel_rfl) (by kernel_rfl) (fun _ _ _ h => h) (by kernel_rfl) (by kernel_rfl) d1 (fun ww h => run_of (op := .load 26 (.tmp 6)) (by kernel_rfl) (fun o ho => load_val rfl (five_kept h XU12.out) ho)) ?_
    try simp only [Act.put, List.setIfInBounds_toArray, List.set_cons_zero, List.set_cons_succ]
    refine held_do 4 109 (.agg #[.int .i64 t4.kind, .int .i64 t4.n, .int .i64 t4.x, .string t4.s, .slice a4 n4 c4]) (by kernel_rfl) (by kernel_rfl) (by kernel_rfl) (fun _ _ _ h => h) (by kernel_rfl) (by kernel_rfl) d1 (fun ww h => run_of (op := .load 26 (.tmp 6)) (by kernel_rfl) (fun o ho => load_val rfl (five_kept h XU12.out) ho)) ?_
    try simp only [Act.put, List.setIfInBounds_toArray, List.set_cons_zero, List.set_cons_succ]
    refine held_call 5 110 15 #[.agg #[.int .i64 t4.kind, .int .i64 t4.n, .int .i64 t4.x, .string t4.s, .slice a4 n4 c4], .agg #[.int .i64 t4.kind, .int .i64 t4.n, .int .i64 t4.x, .string t4.s, .slice a4 n4 c4]] (by kernel_rfl) (by kernel_rfl) (by kernel_rfl) (fun _ => by kernel_rfl) ((R2.out _ d1).mono ?_)
    rintro _ v2 ⟨rfl, b2⟩
    have d2 := nx d1 b2
    clear b2
    refine ⟨_, rfl, d2, ?_⟩
    try simp only [Act.put, List.setIfInBounds_toArray, List.set_cons_zero, List.set_cons_succ]
    refine held_do 6 111 (.bool true) (by kernel_rfl) (by kernel_rfl) (by kernel_rfl) (fun _ _ _ h => h) (by kernel_rfl) (by kernel_rfl) d2 (fun ww _ => by kernel_rfl) ?_
    try simp only [Act.put, List.setIfInBounds_toArray, List.set_cons_zero, List.set_cons_succ]
    refine held_do 7 112 (.bool true) (by kernel_rfl) (by kernel_rfl) (by kernel_rfl) (fun _ _ _ h => h) (by kernel_rfl) (by kernel_rfl) d2 (fun ww _ => by kernel_rfl) ?_
    try simp only [Act.put, List.setIfInBounds_toArray, List.set_cons_zero, List.set_cons_succ]
    refine held_do 8 113 (.agg #[.int .i64 tX.kind, .int .i64 tX.n, .int .i64 tX.x, .string tX.s, .slice a12 n12 c12]) (by kernel_rfl) (by kernel_rfl) (by kernel_rfl) (fun _ _ _ h => h) (by kernel_rfl) (by kernel_rfl) d2 (fun ww h => run_of (op := .load 26 (.tmp 12)) (by kernel_rfl) (fun o ho => load_val rfl (five_kept h XX12.out) ho)) ?_
    try simp only [Act.put, List.setIfInBounds_toArray, List.set_cons_zero, List.set_cons_succ]
    refine held_call 9 114 13 #[.agg #[.int .i64 tX.kind, .int .i64 tX.n, .int .i64 tX.x, .string tX.s, .slice a12 n12 c12]] (by kernel_rfl) (by kernel_rfl) (by kernel_rfl) (fun _ => by kernel_rfl) ((R3.out _ d2).mono ?_)
    rintro _ v3 ⟨rfl, b3⟩
    have d3 := nx d2 b3
    clear b3
    refine ⟨_, rfl, d3, ?_⟩
    try simp only [Act.put, List.setIfInBounds_toArray, List.set_cons_zero, List.set_cons_succ]
    refine held_do 10 115 (.bool true) (by kernel_rfl) (by kernel_rfl) (by kernel_rfl) (fun _ _ _ h => h) (by kernel_rfl) (by kernel_rfl) d3 (fun ww _ => by kernel_rfl) ?_
    try simp only [Act.put, List.setIfInBounds_toArray, List.set_cons_zero, List.set_cons_succ]
    refine held_do 11 116 (.bool true) (by kernel_rfl) (by kernel_rfl) (by kernel_rfl) (fun _ _ _ h => h) (by kernel_rfl) (by kernel_rfl) d3 (fun ww _ => by kernel_rfl) ?_
    try simp only [Act.put, List.setIfInBounds_toArray, List.set_cons_zero, List.set_cons_succ]
    refine held_do 12 117 (.agg #[.int .i64 tX.kind, .int .i64 tX.n, .int .i64 tX.x, .string tX.s, .slice a12 n12 c12]) (by kernel_rfl) (by kernel_rfl) (by kernel_rfl) (fun _ _ _ h => h) (by kernel_rfl) (by kernel_rfl) d3 (fun ww h => run_of (op := .load 26 (.tmp 12)) (by kernel_rfl) (fun o ho => load_val rfl (five_kept h XX12.out) ho)) ?_
    try simp only [Act.put, List.setIfInBounds_toArray, List.set_cons_zero, List.set_cons_succ]
    refine held_do 14 119 (.agg #[.int .i64 t4.kind, .int .i64 t4.n, .int .i64 t4.x, .string t4.s, .slice a4 n4 c4]) (by kernel_rfl) (by kernel_rfl) (by kernel_rfl) (fun _ _ _ h => h) (by kernel_rfl) (by kernel_rfl) d3 (fun ww h => run_of (op := .load 26 (.tmp 6)) (by kernel_rfl) (fun o ho => load_val rfl (five_kept h XU12.out) ho)) ?_
    try simp only [Act.put, List.setIfInBounds_toArray, List.set_cons_zero, List.set_cons_succ]
    refine held_call 13 118 17 #[.agg #[.int .i64 tX.kind, .int .i64 tX.n, .int .i64 tX.x, .string tX.s, .slice a12 n12 c12]] (by kernel_rfl) (by kernel_rfl) (by kernel_rfl) (fun _ => by kernel_rfl) ((R4.out _ d3).mono ?_)
    rintro _ v4 ⟨rfl, b4⟩
    have d4 := nx d3 b4
    clear b4
    refine ⟨_, rfl, d4, ?_⟩
    try simp only [Act.put, List.setIfInBounds_toArray, List.set_cons_zero, List.set_cons_succ]
    refine held_call 15 120 17 #[.agg #[.int .i64 t4.kind, .int .i64 t4.n, .int .i64 t4.x, .string t4.s, .slice a4 n4 c4]] (by kernel_rfl) (by kernel_rfl) (by kernel_rfl) (fun _ => by kernel_rfl) ((R5.out _ d4).mono ?_)
    rintro _ v5 ⟨rfl, b5⟩
    have d5 := nx d4 b5
    clear b5
    refine ⟨_, rfl, d5, ?_⟩
    try simp only [Act.put, List.setIfInBounds_toArray, List.set_cons_zero, List.set_cons_succ]
    refine held_do 16 121 (.int .i64 (D4 + 1)) (by kernel_rfl) (by kernel_rfl) (by kernel_rfl) (fun _ _ _ h => h) (by kernel_rfl) (by kernel_rfl) d5 (by intro ww hSw; clear hSw; go_simp) ?_
    try simp only [Act.put, List.setIfInBounds_toArray, List.set_cons_zero, List.set_cons_succ]
    refine held_do 17 122 (.bool true) (by kernel_rfl) (by kernel_rfl) (by kernel_rfl) (fun _ _ _ h => h) (by kernel_rfl) (by kernel_rfl) d5 (by intro ww hSw; clear hSw; go_simp) ?_
    try simp only [Act.put, List.setIfInBounds_toArray, List.set_cons_zero, List.set_cons_succ]
    refine held_do 18 123 (.bool true) (by kernel_rfl) (by kernel_rfl) (by kernel_rfl) (fun _ _ _ h => h) (by kernel_rfl) (by kernel_rfl) d5 (fun ww _ => by kernel_rfl) ?_
    try simp only [Act.put, List.setIfInBounds_toArray, List.set_cons_zero, List.set_cons_succ]
    refine held_do 19 124 (.bool true) (by kernel_rfl) (by kernel_rfl) (by kernel_rfl) (fun _ _ _ h => h) (by kernel_rfl) (by kernel_rfl) d5 (fun ww _ => by kernel_rfl) ?_
    try simp only [Act.put, List.setIfInBounds_toArray, List.set_cons_zero, List.set_cons_succ]
    refine held_do 20 125 (.agg #[.int .i64 tX.kind, .int .i64 tX.n, .int .i64 tX.x, .string tX.s, .slice a12 n12 c12]) (by kernel_rfl) (by kernel_rfl) (by kernel_rfl) (fun _ _ _ h => h) (by kernel_rfl) (by kernel_rfl) d5 (fun ww h => run_of (op := .load 26 (.tmp 12)) (by kernel_rfl) (fun o ho => load_val rfl (five_kept h XX12.out) ho)) ?_
    try simp only [Act.put, List.setIfInBounds_toArray, List.set_cons_zero, List.set_cons_succ]
    refine held_do 22 127 (.agg #[.int .i64 t4.kind, .int .i64 t4.n, .int .i64 t4.x, .string t4.s, .slice a4 n4 c4]) (by kernel_rfl) (by kernel_rfl) (by kernel_rfl) (fun _ _ _ h => h) (by kernel_rfl) (by kernel_rfl) d5 (fun ww h => run_of (op := .load 26 (.tmp 6)) (by kernel_rfl) (fun o ho => load_val rfl (five_kept h XU12.out) ho)) ?_
    try simp only [Act.put, List.setIfInBounds_toArray, List.set_cons_zero, List.set_cons_succ]
    refine held_call 21 126 19 #[.agg #[.int .i64 tX.kind, .int .i64 tX.n, .int .i64 tX.x, .string tX.s, .slice a12 n12 c12]] (by kernel_rfl) (by kernel_rfl) (by kernel_rfl) (fun _ => by kernel_rfl) ((R6.out _ d5).mono ?_)
    rintro _ v6 ⟨rfl, b6⟩
    have d6 := nx d5 b6
    clear b6
    refine ⟨_, rfl, d6, ?_⟩
    try simp only [Act.put, List.setIfInBounds_toArray, List.set_cons_zero, List.set_cons_succ]
    refine held_call 23 128 19 #[.agg #[.int .i64 t4.kind, .int .i64 t4.n, .int .i64 t4.x, .string t4.s, .slice a4 n4 c4]] (by kernel_rfl) (by kernel_rfl) (by kernel_rfl) (fun _ => by kernel_rfl) ((R7.out _ d6).mono ?_)
    rintro _ v7 ⟨rfl, b7⟩
    have d7 := nx d6 b7
    clear b7
    refine ⟨_, rfl, d7, ?_⟩
    try simp only [Act.put, List.setIfInBounds_toArray, List.set_cons_zero, List.set_cons_succ]
    refine held_do 24 129 (.int .i64 (2 * N4)) (by kernel_rfl) (by kernel_rfl) (by kernel_rfl) (fun _ _ _ h => h) (by kernel_rfl) (by kernel_rfl) d7 (by intro ww hSw; clear hSw; go_simp) ?_
    try simp only [Act.put, List.setIfInBounds_toArray, List.set_cons_zero, List.set_cons_succ]
    refine held_do 25 130 (.int .i64 (2 * N4 + 1)) (by kernel_rfl) (by kernel_rfl) (by kernel_rfl) (fun _ _ _ h => h) (by kernel_rfl) (by kernel_rfl) d7 (by intro ww hSw; clear hSw; go_simp) ?_
    try simp only [Act.put, List.setIfInBounds_toArray, List.set_cons_zero, List.set_cons_succ]
    refine held_do 26 131 (.bool true) (by kernel_rfl) (by kernel_rfl) (by kernel_rfl) (fun _ _ _ h => h) (by kernel_rfl) (by kernel_rfl) d7 (by intro ww hSw; clear hSw; go_simp) ?_
    try simp only [Act.put, List.setIfInBounds_toArray, List.set_cons_zero, List.set_cons_succ]
    refine held_do 27 132 (.bool true) (by kernel_rfl) (by kernel_rfl) (by kernel_rfl) (fun _ _ _ h => h) (by kernel_rfl) (by kernel_rfl) d7 (fun ww _ => by kernel_rfl) ?_
    try simp only [Act.put, List.setIfInBounds_toArray, List.set_cons_zero, List.set_cons_succ]
    refine held_do 28 133 (.bool true) (by kernel_rfl) (by kernel_rfl) (by kernel_rfl) (fun _ _ _ h => h) (by kernel_rfl) (by kernel_rfl) d7 (fun ww _ => by kernel_rfl) ?_
    try simp only [Act.put, List.setIfInBounds_toArray, List.set_cons_zero, List.set_cons_succ]
    refine held_do 29 134 (.agg #[.int .i64 tX.kind, .int .i64 tX.n, .int .i64 tX.x, .string tX.s, .slice a12 n12 c12]) (by kernel_rfl) (by kernel_rfl) (by kernel_rfl) (fun _ _ _ h => h) (by kernel_rfl) (by kernel_rfl) d7 (fun ww h => run_of (op := .load 26 (.tmp 12)) (by kernel_rfl) (fun o ho => load_val rfl (five_kept h XX12.out) ho)) ?_
    try simp only [Act.put, List.setIfInBounds_toArray, List.set_cons_zero, List.set_cons_succ]
    refine held_do 30 135 (.agg #[.int .i64 t4.kind, .int .i64 t4.n, .int .i64 t4.x, .string t4.s, .slice a4 n4 c4]) (by kernel_rfl) (by kernel_rfl) (by kernel_rfl) (fun _ _ _ h => h) (by kernel_rfl) (by kernel_rfl) d7 (fun ww h => run_of (op := .load 26 (.tmp 6)) (by kernel_rfl) (fun o ho => load_val rfl (five_kept h XU12.out) ho)) ?_
    try simp only [Act.put, List.setIfInBounds_toArray, List.set_cons_zero, List.set_cons_succ]
    refine held_call 31 136 15 #[.agg #[.int .i64 tX.kind, .int .i64 tX.n, .int .i64 tX.x, .string tX.s, .slice a12 n12 c12], .agg #[.int .i64 t4.kind, .int .i64 t4.n, .int .i64 t4.x, .string t4.s, .slice a4 n4 c4]] (by kernel_rfl) (by kernel_rfl) (by kernel_rfl) (fun _ => by kernel_rfl) ((R8.out _ d7).mono ?_)
    rintro _ v8 ⟨rfl, b8⟩
    have d8 := nx d7 b8
    clear b8
    refine ⟨_, rfl, d8, ?_⟩
    try simp only [Act.put, List.setIfInBounds_toArray, List.set_cons_zero, List.set_cons_succ]
    refine held_do 32 137 (.bool true) (by kernel_rfl) (by kernel_rfl) (by kernel_rfl) (fun _ _ _ h => h) (by kernel_rfl) (by kernel_rfl) d8 (fun ww _ => by kernel_rfl) ?_
    try simp only [Act.put, List.setIfInBounds_toArray, List.set_cons_zero, List.set_cons_succ]
    refine held_do 33 138 (.bool true) (by kernel_rfl) (by kernel_rfl) (by kernel_rfl) (fun _ _ _ h => h) (by kernel_rfl) (by kernel_rfl) d8 (fun ww _ => by kernel_rfl) ?_
    try simp only [Act.put, List.setIfInBounds_toArray, List.set_cons_zero, List.set_cons_succ]
    refine held_do 34 139 (.bool true) (by kernel_rfl) (by kernel_rfl) (by kernel_rfl) (fun _ _ _ h => h) (by kernel_rfl) (by kernel_rfl) d8 (fun ww _ => by kernel_rfl) ?_
    try simp only [Act.put, List.setIfInBounds_toArray, List.set_cons_zero, List.set_cons_succ]
    refine held_do 35 140 (.agg #[.int .i64 n11, .int .i64 x11]) (by kernel_rfl) (by kernel_rfl) (by kernel_rfl) (fun _ _ _ h => h) (by kernel_rfl) (by kernel_rfl) d8 (fun ww h => run_of (op := .load 34 (.tmp 11)) (by kernel_rfl) (fun o ho => load_dec rfl (two_num h XD12.out) ho)) ?_
    try simp only [Act.put, List.setIfInBounds_toArray, List.set_cons_zero, List.set_cons_succ]
    refine held_do 38 143 (.agg #[.int .i64 n11, .int .i64 x11]) (by kernel_rfl) (by kernel_rfl) (by kernel_rfl) (fun _ _ _ h => h) (by kernel_rfl) (by kernel_rfl) d8 (fun ww h => run_of (op := .load 34 (.tmp 11)) (by kernel_rfl) (fun o ho => load_dec rfl (two_num h XD12.out) ho)) ?_
    try simp only [Act.put, List.setIfInBounds_toArray, List.set_cons_zero, List.set_cons_succ]
    refine held_call 36 141 29 #[.agg #[.int .i64 n11, .int .i64 x11]] (by kernel_rfl) (by kernel_rfl) (by kernel_rfl) (fun _ => by kernel_rfl) ((R33.out _ d8).mono ?_)
    rintro _ v9 ⟨rfl, b9⟩
    have d9 := nx d8 b9
    clear b9
    refine ⟨_, rfl, d9, ?_⟩
    try simp only [Act.put, List.setIfInBounds_toArray, List.set_cons_zero, List.set_cons_succ]
    refine held_call 37 142 13 #[.agg #[.int .i64 TN.kind, .int .i64 TN.n, .int .i64 TN.x, .string TN.s, .slice none 0 0]] (by kernel_rfl) (by kernel_rfl) (by kernel_rfl) (fun _ => by kernel_rfl) ((R32.out _ d9).mono ?_)
    rintro _ v10 ⟨rfl, b10⟩
    have d10 := nx d9 b10
    clear b10
    refine ⟨_, rfl, d10, ?_⟩
    try simp only [Act.put, List.setIfInBounds_toArray, List.set_cons_zero, List.set_cons_succ]
    refine held_call 39 144 31 #[.agg #[.int .i64 n11, .int .i64 x11]] (by kernel_rfl) (by kernel_rfl) (by kernel_rfl) (fun _ => by kernel_rfl) ((R31.out _ d10).mono ?_)
    rintro _ v11 ⟨rfl, b11⟩
    have d11 := nx d10 b11
    clear b11
    refine ⟨_, rfl, d11, ?_⟩
    try simp only [Act.put, List.setIfInBounds_toArray, List.set_cons_zero, List.set_cons_succ]
    refine held_do 40 145 (.bool true) (by kernel_rfl) (by kernel_rfl) (by kernel_rfl) (fun _ _ _ h => h) (by kernel_rfl) (by kernel_rfl) d11 (by intro ww hSw; clear hSw; go_simp) ?_
    try simp only [Act.put, List.setIfInBounds_toArray, List.set_cons_zero, List.set_cons_succ]
    refine held_do 41 146 (.bool true) (by kernel_rfl) (by kernel_rfl) (by kernel_rfl) (fun _ _ _ h => h) (by kernel_rfl) (by kernel_rfl) d11 (fun ww _ => by kernel_rfl) ?_
    try simp only [Act.put, List.setIfInBounds_toArray, List.set_cons_zero, List.set_cons_succ]
    refine held_do 42 2 (.bool true) (by kernel_rfl) (by kernel_rfl) (by kernel_rfl) (fun _ _ _ h => h) (by kernel_rfl) (by kernel_rfl) d11 (fun ww _ => by kernel_rfl) ?_
    try simp only [Act.put, List.setIfInBounds_toArray, List.set_cons_zero, List.set_cons_succ]
    refine wpAnyH_done (by kernel_rfl) ?_ _
    obtain ⟨w13, hw13⟩ : ∃ wx, wx = v11 := ⟨_, rfl⟩
    have XA13 : Hid (w13.heap[w1.heap.size]? = some (.cells #[.int .i64 t1.kind, .int .i64 t1.n, .int .i64 t1.x, .string t1.s, .slice a1 n1 c1] 26 (0, 0))) := Lib.hid (by rw [hw13]; exact box_below XA12.out d11)
    have XB13 : Hid (w13.heap[w2.heap.size]? = some (.cells #[.int .i64 t2.kind, .int .i64 t2.n, .int .i64 t2.x, .string t2.s, .slice a2 n2 c2] 26 (0, 0))) := Lib.hid (by rw [hw13]; exact box_below XB12.out d11)
    have XC13 : Hid (w13.heap[(w2.heap.size + 1)]? = some (.cells #[.int .i64 t3.kind, .int .i64 t3.n, .int .i64 t3.x, .string t3.s, .slice a3 n3 c3] 26 (0, 0))) := Lib.hid (by rw [hw13]; exact box_below XC12.out d11)
    have XU13 : Hid (w13.heap[w3.heap.size]? = some (.cells #[.int .i64 t4.kind, .int .i64 t4.n, .int .i64 t4.x, .string t4.s, .slice a4 n4 c4] 26 (0, 0))) := Lib.hid (by rw [hw13]; exact box_below XU12.out d11)
    have XD13 : Hid (w13.heap[w8.heap.size]? = some (.cells #[.int .i64 n11, .int .i64 x11] 34 (0, 0))) := Lib.hid (by rw [hw13]; exact box_below XD12.out d11)
    have XX13 : Hid (w13.heap[w11.heap.size]? = some (.cells #[.int .i64 tX.kind, .int .i64 tX.n, .int .i64 tX.x, .string tX.s, .slice a12 n12 c12] 26 (0, 0))) := Lib.hid (by rw [hw13]; exact box_below XX12.out d11)
    have TSA13 := Lib.hid (show TSl w13 _ _ by rw [hw13]; exact TSl.kept d11 TSA12.out)
    have TSB13 := Lib.hid (show TSl w13 _ _ by rw [hw13]; exact TSl.kept d11 TSB12.out)
    have TSC13 := Lib.hid (show TSl w13 _ _ by rw [hw13]; exact TSl.kept d11 TSC12.out)
    have TSU13 := Lib.hid (show TSl w13 _ _ by rw [hw13]; exact TSl.kept d11 TSU12.out)
    have TSL13 := Lib.hid (show TSl w13 _ _ by rw [hw13]; exact TSl.kept d11 TSL12.out)
    have TSX13 := Lib.hid (show TSl w13 _ _ by rw [hw13]; exact TSl.kept d11 TSX12.out)
    have T13 := Lib.hid (show Below w.heap.size w w13 by rw [hw13]; exact nx T12.out d11)
    rw [← hw13]
    clear d11 d10 d9 d8 d7 d6 d5 d4 d3 d2 d1 d0 hw13
    go_wp2_with fail
    go_ret
    exact ⟨rfl, T13.out⟩
namespace fnVals
set_option maxRecDepth 100000 in
theorem walk : LawWalkX (fun W => LaidP W ∧ LaidU W) 3 Tryz.f3 := by
  intro H enc W base args ds p hval0 hA0 hL
  have hval : ∀ (j : Nat) t v, Tryz.f3.params[j]? = some t → args[j]? = some v → Value.okWide Tryz.prog W .any base t v := hval0
  have hA : DataW.TrodAll enc Tryz.prog W 0 (fun _ => true) true Tryz.f3.params.toList args.toList ds p := hA0
  clear hval0 hA0
  rw [Tryz.params3] at hA hval
  obtain ⟨v0, vs0, d0, ds0, p0, q0, hargs, rfl, rfl, h0, r0⟩ := trodAll_cons hA
  obtain ⟨rfl, rfl, rfl⟩ := trodAll_nil r0
  obtain rfl : args = #[v0] := by cases args; simp_all
  obtain ⟨a0, len0, cap0, rfl⟩ := okWide_slice Tryz.underlying22 (hval 0 22 v0 rfl rfl)
  obtain ⟨z0, rfl, w0, x0, y0, m0⟩ := open_ints_rd Tryz.underlying22 Tryz.underlying5 (by kernel_rfl) h0
  exact fnVals_law a0 cap0 z0 W hL w0 x0 y0 m0
theorem laid_met (os : Os) : laidMet Tryz.prog Rows.fnValsRow.laid ((laidWorld os).forCall (fun _ _ => 0) ⟨#[], #[.slice none 0 0], []⟩).memory :=
  laidMet_of_run' 8 (by kernel_rfl) (by kernel_rfl)
theorem reads (os : Os) {H : Type} (enc : TypeId × Value → H) : ∃ places, DataW.whole enc Tryz.prog ((laidWorld os).forCall (fun _ _ => 0) ⟨#[], #[.slice none 0 0], []⟩).memory Tryz.f3.params.toList Rows.fnValsSpec.vars false (#[Value.slice none 0 0] : Array Value).toList 8 = some ([.nil], [], places) :=
  ⟨[], by kernel_rfl⟩
set_option maxRecDepth 100000 in
theorem lifted (os : Os) (started : os.Started) (H : Type) (enc : TypeId × Value → H) (F : Stop.Interp) :
    ReturnsInHanded {} Tryz.checked os 3 .any ((OpenSpec.ofChange Rows.fnValsSpec).preRow enc Tryz.prog Tryz.f3 Rows.fnValsRow.domain false Rows.fnValsRow.laid) (((OpenSpec.ofChange Rows.fnValsSpec).at F).post enc Tryz.prog Tryz.f3 false true false false) := by
  obtain ⟨places, hx⟩ := reads os enc
  refine returnsInHanded_of_row (C := Tryz.checked) (s := OpenSpec.ofChange Rows.fnValsSpec) own started (by kernel_rfl) Tryz.func3
    (witness_row_at (enc := enc) (C := Tryz.checked) false (laidWorld os) #[.slice none 0 0] rfl (by kernel_rfl) (by kernel_rfl) (by kernel_rfl)
      (OpenSpec.preRow_of_cond 8 hx (by kernel_rfl) (fun k hk => by cases hk) (by kernel_rfl) (laid_met os))) ?_
  intro W base args ds gs before hval hW _ _ _ hL _ _
  exact law_contractX (fun W => LaidP W ∧ LaidU W) 3 Tryz.f3 Rows.fnValsSpec H enc rfl rfl (by kernel_rfl) (fun ds h => by match ds, h with | [_], _ => rfl) walk W base args ds gs before hval hW ⟨laidP_of hL (by simp [Rows.fnValsRow]), laidU_of hL (by simp [Rows.fnValsRow])⟩
theorem said : Rows.FnValsSaid :=
  OpenClaim.holds_of_cond 3 Tryz.f3 rfl rfl rfl rfl rfl rfl rfl ⟨rfl, rfl, rfl, rfl, rfl⟩ rfl rfl rfl rfl rfl (by kernel_rfl) Tryz.func3 (by kernel_rfl)
    (of_decide_eq_true (by kernel_rfl)) (by unfold Func.isWrapper; first | (rw [if_pos (by decide +kernel)]; kernel_rfl) | (rw [if_neg (by decide +kernel)]; exact ⟨rfl, rfl⟩))
    (fun os started H enc _ F => by rw [OpenClaim.pre_eq_preRow]; exact lifted os started H enc F)
theorem plain (f : FuncId) (fn : Func) (hf : Tryz.pinned.checked.prog.funcNamed "loop.example/g00502/laws.FnVals" = some f) (hfn : Tryz.pinned.checked.prog.funcs[f]? = some fn) :
    false = Tryz.pinned.checked.prog.looks [] ∧ ∀ (j : Nat) t, fn.params[j]? = some t → Tryz.pinned.checked.prog.wantsStandIn t = false := by
  obtain rfl : f = 3 := Option.some.inj ((show Tryz.prog.funcNamed "loop.example/g00502/laws.FnVals" = some 3 by kernel_rfl).symm.trans hf) |>.symm
  obtain rfl : fn = Tryz.f3 := (Option.some.inj (Tryz.func3.symm.trans hfn)).symm
  refine ⟨by kernel_rfl, fun j t ht => ?_⟩
  have hall : Tryz.f3.params.toList.all (fun t => !Tryz.pinned.checked.prog.wantsStandIn t) = true := by kernel_rfl
  have hm := List.all_eq_true.1 hall t (by simpa using Array.mem_of_getElem? ht)
  simpa using hm
theorem proved : Rows.FnValsCardSaid :=
  Claim7.holds_tied_plain_at .later [] _ _ _ _ said (fun _ h => by cases h) (by kernel_rfl) (fun _ h => by cases h) fnVals_row_tie rfl ⟨rfl, rfl⟩ (by kernel_rfl) rfl plain (by kernel_rfl)
#print axioms proved
end fnVals
end Go.Proofs.YtilmhemcpgiikaaGreatDoor
