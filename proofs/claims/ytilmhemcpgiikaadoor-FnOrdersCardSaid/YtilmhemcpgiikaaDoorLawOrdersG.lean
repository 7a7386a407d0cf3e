/- FnOrders: of two trees that are not the same just one is ahead. -/
import Derived.Test.YtilmhemcpgiikaaDoorVSame
import Derived.Deep.RegionHeld3
import Derived.Deep.RegionWith
import Derived.Deep.DeepCutAuto
import Derived.Test.YtilmhemcpgiikaaDoorGOrders5
namespace Go.Proofs.YtilmhemcpgiikaaDoor
open Go.Deep Go.ChangeShapes Go.WideShapes Go.ChangeAt Go.RowKit
open Go.ChangeMaps (open_string shut_string)

set_option maxRecDepth 100000 in
set_option maxHeartbeats 40000000 in
theorem fnOrders_law (a : Option Addr) (cap : Nat) (zs : List Int) (w : World) (hL : LaidP w ∧ LaidU w) (hr : Rd w .u8 a zs) (hw : ∀ n ∈ zs, (Lit.int .u8 n).wf = true) (hcap : zs.length ≤ cap) (_hm : cap ≤ maxLen) :
    Calls Tryd.prog 12 #[.slice a zs.length cap] w fun e w' => e = .returned (.bool true) ∧ Below w.heap.size w w' := by
  have HR := Lib.hid hr; clear hr
  have HW := Lib.hid hw; clear hw
  have LA := Lib.hid hL; clear hL
  have Hlen := Lib.hid (show zs.length ≤ 9223372036854775807 by unfold maxLen at _hm; omega)
  cases hbig : decide ((1048576 : Int) < (zs.length : Int)) with
  | true =>
    have HB := Lib.hid hbig; clear hbig
    go_enter Tryd.func12, Tryd.ntmps12
    go_wp2_with fail
    refine (big_c _ _ _ _).mono ?_
    rintro _ _ ⟨rfl, rfl⟩
    rw [HB.out]
    go_wp2_with fail
    go_ret
    exact ⟨rfl, Below.refl _ _⟩
  | false =>
    have hlen : zs.length ≤ 1048576 := by have := of_decide_eq_false hbig; omega
    have HB := Lib.hid hbig; clear hbig
    go_enter Tryd.func12, Tryd.ntmps12
    go_wp2_with fail
    refine (big_c _ _ _ _).mono ?_
    rintro _ _ ⟨rfl, rfl⟩
    rw [HB.out]
    go_wp2_with fail
    refine (drawLessVal_c zs a cap _ (by exact rd_kept (Below.refl w.heap.size w) HR.out) HW.out hlen hcap).mono ?_
    rintro _ w1 ⟨⟨t1, t2, u1, u2, rfl, h1, h2, s1, s2⟩, b'⟩
    have T1 := Lib.hid (nx (Below.refl w.heap.size w) b'); clear b'
    have HT1 := Lib.hid h1; have HT2 := Lib.hid h2; clear h1 h2
    obtain ⟨a1, n1, c1, rfl⟩ := s1.form; obtain ⟨a2, n2, c2, rfl⟩ := s2.form
    have TSA1 := Lib.hid s1; have TSB1 := Lib.hid s2; clear s1 s2
    go_wp2_with fail
    refine (drawVal_c zs a cap _ (by exact rd_kept (below_alloc (below_alloc T1.out _) _) HR.out) HW.out hlen hcap).mono ?_
    rintro _ w2 ⟨⟨t3, u3, rfl, h3, s3⟩, b'⟩
    have XA2 : Hid (w2.heap[w1.heap.size]? = some (.cells #[.int .i64 t1.kind, .int .i64 t1.n, .int .i64 t1.x, .string t1.s, .slice a1 n1 c1] 29 (0, 0))) := Lib.hid (box_below (first_block _ _ _) b')
    have XB2 : Hid (w2.heap[(w1.heap.size + 1)]? = some (.cells #[.int .i64 t2.kind, .int .i64 t2.n, .int .i64 t2.x, .string t2.s, .slice a2 n2 c2] 29 (0, 0))) := Lib.hid (box_below (second_block2 _ _ _) b')
    have TSA2 := Lib.hid (TSl.kept b' (TSl.kept (below1 _ _) (TSl.kept (below1 _ _) TSA1.out)))
    have TSB2 := Lib.hid (TSl.kept b' (TSl.kept (below1 _ _) (TSl.kept (below1 _ _) TSB1.out)))
    have T2 := Lib.hid (nx (below_alloc (below_alloc T1.out _) _) b'); clear b'
    have HT3 := Lib.hid h3; clear h3
    obtain ⟨a3, n3, c3, rfl⟩ := s3.form
    have TSU2 := Lib.hid s3; clear s3
    obtain ⟨w3, hw3⟩ : ∃ wx, wx = (w2.alloc (.cells #[.int .i64 t3.kind, .int .i64 t3.n, .int .i64 t3.x, .string t3.s, .slice a3 n3 c3] 29)) := ⟨_, rfl⟩
    have XA3 : Hid (w3.heap[w1.heap.size]? = some (.cells #[.int .i64 t1.kind, .int .i64 t1.n, .int .i64 t1.x, .string t1.s, .slice a1 n1 c1] 29 (0, 0))) := Lib.hid (by rw [hw3]; exact (box_alloc XA2.out _))
    have XB3 : Hid (w3.heap[(w1.heap.size + 1)]? = some (.cells #[.int .i64 t2.kind, .int .i64 t2.n, .int .i64 t2.x, .string t2.s, .slice a2 n2 c2] 29 (0, 0))) := Lib.hid (by rw [hw3]; exact (box_alloc XB2.out _))
    have XU3 : Hid (w3.heap[w2.heap.size]? = some (.cells #[.int .i64 t3.kind, .int .i64 t3.n, .int .i64 t3.x, .string t3.s, .slice a3 n3 c3] 29 (0, 0))) := Lib.hid (by rw [hw3]; exact (heap_alloc_new _ _))
    have TSA3 := Lib.hid (show TSl w3 _ _ by rw [hw3]; exact (TSl.kept (below1 _ _) TSA2.out))
    have TSB3 := Lib.hid (show TSl w3 _ _ by rw [hw3]; exact (TSl.kept (below1 _ _) TSB2.out))
    have TSU3 := Lib.hid (show TSl w3 _ _ by rw [hw3]; exact (TSl.kept (below1 _ _) TSU2.out))
    have T3 := Lib.hid (show Below w.heap.size w w3 by rw [hw3]; exact (below_alloc T2.out _))
    go_wp2_with fail
    rw [← hw3]
    clear hw3
    have hboth := lessT_both t1 t2; have hone := fun h h' => lessT_one (t := t1) (t' := t2) h h'; have hirr := lessT_irr t3
    have P1 := fun ww (hb : Below w3.heap.size w3 ww) => LA.out.1.kept (nx T3.out hb)
    have P2 := fun ww (hb : Below w3.heap.size w3 ww) => LA.out.2.kept (nx T3.out hb)
    have ri12 := fun ww (hb : Below w3.heap.size w3 ww) => lessImpl_c t1 t2 ww (.slice a1 n1 c1) (.slice a2 n2 c2) (P1 ww hb) (TSl.kept hb TSA3.out) (TSl.kept hb TSB3.out) HT1.out.2 HT2.out.2
    have rs12 := fun ww (hb : Below w3.heap.size w3 ww) => lessSpec_c t1 t2 ww (.slice a1 n1 c1) (.slice a2 n2 c2) (TSl.kept hb TSA3.out) (TSl.kept hb TSB3.out) HT1.out.2 HT2.out.2
    have ri21 := fun ww (hb : Below w3.heap.size w3 ww) => lessImpl_c t2 t1 ww (.slice a2 n2 c2) (.slice a1 n1 c1) (P1 ww hb) (TSl.kept hb TSB3.out) (TSl.kept hb TSA3.out) HT2.out.2 HT1.out.2
    have ri33 := fun ww (hb : Below w3.heap.size w3 ww) => lessImpl_c t3 t3 ww (.slice a3 n3 c3) (.slice a3 n3 c3) (P1 ww hb) (TSl.kept hb TSU3.out) (TSl.kept hb TSU3.out) HT3.out.2.2 HT3.out.2.2
    clear P1 P2
    rw [hirr] at ri33
    obtain ⟨L1, hL1⟩ : ∃ q, lessT t1 t2 = q := ⟨_, rfl⟩
    obtain ⟨L2, hL2⟩ : ∃ q, lessT t2 t1 = q := ⟨_, rfl⟩
    rw [hL1] at ri12 rs12 hboth hone; rw [hL2] at ri21 hboth hone
    have R1 := Lib.hid ri12; have R2 := Lib.hid rs12; have R3 := Lib.hid ri21; have R4 := Lib.hid ri33; have HBO := Lib.hid hboth; have HON := Lib.hid hone; have HL1 := Lib.hid hL1; have HL2 := Lib.hid hL2
    clear ri12 rs12 ri21 ri33 hboth hone hirr hL1 hL2
    cases L1 with
    | true =>
      obtain rfl : L2 = false := by have h := HBO.out; simpa using h
      have d0 : Below w3.heap.size w3 w3.drew := (Below.refl _ _).drew
      refine wp_region_held_drew (S := fun ww => Below w3.heap.size w3 ww) (by kernel_rfl) d0 (fun _ => ?_)
      refine held_do 0 15 (.agg #[.int .i64 t1.kind, .int .i64 t1.n, .int .i64 t1.x, .string t1.s, .slice a1 n1 c1]) (by kernel_rfl) (by kernel_rfl) (by kernel_rfl) (fun _ _ _ h => h) (by kernel_rfl) (by kernel_rfl) d0 (fun ww h => run_of (op := .load 29 (.tmp 3)) (by kernel_rfl) (fun o ho => load_val rfl (five_kept h XA3.out) ho)) ?_
      try simp only [Act.put, List.setIfInBounds_toArray, List.set_cons_zero, List.set_cons_succ]
      refine held_do 1 16 (.agg #[.int .i64 t2.kind, .int .i64 t2.n, .int .i64 t2.x, .string t2.s, .slice a2 n2 c2]) (by kernel_rfl) (by kernel_rfl) (by kernel_rfl) (fun _ _ _ h => h) (by kernel_rfl) (by kernel_rfl) d0 (fun ww h => run_of (op := .load 29 (.tmp 4)) (by kernel_rfl) (fun o ho => load_val rfl (five_kept h XB3.out) ho)) ?_
      try simp only [Act.put, List.setIfInBounds_toArray, List.set_cons_zero, List.set_cons_succ]
      refine held_do 3 18 (.agg #[.int .i64 t1.kind, .int .i64 t1.n, .int .i64 t1.x, .string t1.s, .slice a1 n1 c1]) (by kernel_rfl) (by kernel_rfl) (by kernel_rfl) (fun _ _ _ h => h) (by kernel_rfl) (by kernel_rfl) d0 (fun ww h => run_of (op := .load 29 (.tmp 3)) (by kernel_rfl) (fun o ho => load_val rfl (five_kept h XA3.out) ho)) ?_
      try simp only [Act.put, List.setIfInBounds_toArray, List.set_cons_zero, List.set_cons_succ]
      refine held_do 4 19 (.agg #[.int .i64 t2.kind, .int .i64 t2.n, .int .i64 t2.x, .string t2.s, .slice a2 n2 c2]) (by kernel_rfl) (by kernel_rfl) (by kernel_rfl) (fun _ _ _ h => h) (by kernel_rfl) (by kernel_rfl) d0 (fun ww h => run_of (op := .load 29 (.tmp 4)) (by kernel_rfl) (fun o ho => load_val rfl (five_kept h XB3.out) ho)) ?_
      try simp only [Act.put, List.setIfInBounds_toArray, List.set_cons_zero, List.set_cons_succ]
      refine held_call 2 17 16 #[.agg #[.int .i64 t1.kind, .int .i64 t1.n, .int .i64 t1.x, .string t1.s, .slice a1 n1 c1], .agg #[.int .i64 t2.kind, .int .i64 t2.n, .int .i64 t2.x, .string t2.s, .slice a2 n2 c2]] (by kernel_rfl) (by kernel_rfl) (by kernel_rfl) (fun _ => by kernel_rfl) ((R1.out _ d0).mono ?_)
      rintro _ v1 ⟨rfl, b1⟩
      have d1 := nx d0 b1
      clear b1
      refine ⟨_, rfl, d1, ?_⟩
      try simp only [Act.put, List.setIfInBounds_toArray, List.set_cons_zero, List.set_cons_succ]
      refine held_call 5 20 14 #[.agg #[.int .i64 t1.kind, .int .i64 t1.n, .int .i64 t1.x, .string t1.s, .slice a1 n1 c1], .agg #[.int .i64 t2.kind, .int .i64 t2.n, .int .i64 t2.x, .string t2.s, .slice a2 n2 c2]] (by kernel_rfl) (by kernel_rfl) (by kernel_rfl) (fun _ => by kernel_rfl) ((R2.out _ d1).mono ?_)
      rintro _ v2 ⟨rfl, b2⟩
      have d2 := nx d1 b2
      clear b2
      refine ⟨_, rfl, d2, ?_⟩
      try simp only [Act.put, List.setIfInBounds_toArray, List.set_cons_zero, List.set_cons_succ]
      refine held_do 6 21 (.bool false) (by kernel_rfl) (by kernel_rfl) (by kernel_rfl) (fun _ _ _ h => h) (by kernel_rfl) (by kernel_rfl) d2 (fun ww _ => by kernel_rfl) ?_
      try simp only [Act.put, List.setIfInBounds_toArray, List.set_cons_zero, List.set_cons_succ]
      refine held_do 7 22 (.bool false) (by kernel_rfl) (by kernel_rfl) (by kernel_rfl) (fun _ _ _ h => h) (by kernel_rfl) (by kernel_rfl) d2 (fun ww _ => by kernel_rfl) ?_
      try simp only [Act.put, List.setIfInBounds_toArray, List.set_cons_zero, List.set_cons_succ]
      refine held_do 8 23 (.agg #[.int .i64 t1.kind, .int .i64 t1.n, .int .i64 t1.x, .string t1.s, .slice a1 n1 c1]) (by kernel_rfl) (by kernel_rfl) (by kernel_rfl) (fun _ _ _ h => h) (by kernel_rfl) (by kernel_rfl) d2 (fun ww h => run_of (op := .load 29 (.tmp 3)) (by kernel_rfl) (fun o ho => load_val rfl (five_kept h XA3.out) ho)) ?_
      try simp only [Act.put, List.setIfInBounds_toArray, List.set_cons_zero, List.set_cons_succ]
      refine held_do 9 24 (.agg #[.int .i64 t2.kind, .int .i64 t2.n, .int .i64 t2.x, .string t2.s, .slice a2 n2 c2]) (by kernel_rfl) (by kernel_rfl) (by kernel_rfl) (fun _ _ _ h => h) (by kernel_rfl) (by kernel_rfl) d2 (fun ww h => run_of (op := .load 29 (.tmp 4)) (by kernel_rfl) (fun o ho => load_val rfl (five_kept h XB3.out) ho)) ?_
      try simp only [Act.put, List.setIfInBounds_toArray, List.set_cons_zero, List.set_cons_succ]
      refine held_call 10 25 16 #[.agg #[.int .i64 t1.kind, .int .i64 t1.n, .int .i64 t1.x, .string t1.s, .slice a1 n1 c1], .agg #[.int .i64 t2.kind, .int .i64 t2.n, .int .i64 t2.x, .string t2.s, .slice a2 n2 c2]] (by kernel_rfl) (by kernel_rfl) (by kernel_rfl) (fun _ => by kernel_rfl) ((R1.out _ d2).mono ?_)
      rintro _ v3 ⟨rfl, b3⟩
      have d3 := nx d2 b3
      clear b3
      refine ⟨_, rfl, d3, ?_⟩
      try simp only [Act.put, List.setIfInBounds_toArray, List.set_cons_zero, List.set_cons_succ]
      refine held_do 11 26 (.bool true) (by kernel_rfl) (by kernel_rfl) (by kernel_rfl) (fun _ _ _ h => h) (by kernel_rfl) (by kernel_rfl) d3 (fun ww _ => by kernel_rfl) ?_
      try simp only [Act.put, List.setIfInBounds_toArray, List.set_cons_zero, List.set_cons_succ]
      refine held_do 12 27 (.agg #[.int .i64 t2.kind, .int .i64 t2.n, .int .i64 t2.x, .string t2.s, .slice a2 n2 c2]) (by kernel_rfl) (by kernel_rfl) (by kernel_rfl) (fun _ _ _ h => h) (by kernel_rfl) (by kernel_rfl) d3 (fun ww h => run_of (op := .load 29 (.tmp 4)) (by kernel_rfl) (fun o ho => load_val rfl (five_kept h XB3.out) ho)) ?_
      try simp only [Act.put, List.setIfInBounds_toArray, List.set_cons_zero, List.set_cons_succ]
      refine held_do 13 28 (.agg #[.int .i64 t1.kind, .int .i64 t1.n, .int .i64 t1.x, .string t1.s, .slice a1 n1 c1]) (by kernel_rfl) (by kernel_rfl) (by kernel_rfl) (fun _ _ _ h => h) (by kernel_rfl) (by kernel_rfl) d3 (fun ww h => run_of (op := .load 29 (.tmp 3)) (by kernel_rfl) (fun o ho => load_val rfl (five_kept h XA3.out) ho)) ?_
      try simp only [Act.put, List.setIfInBounds_toArray, List.set_cons_zero, List.set_cons_succ]
      refine held_call 14 29 16 #[.agg #[.int .i64 t2.kind, .int .i64 t2.n, .int .i64 t2.x, .string t2.s, .slice a2 n2 c2], .agg #[.int .i64 t1.kind, .int .i64 t1.n, .int .i64 t1.x, .string t1.s, .slice a1 n1 c1]] (by kernel_rfl) (by kernel_rfl) (by kernel_rfl) (fun _ => by kernel_rfl) ((R3.out _ d3).mono ?_)
      rintro _ v4 ⟨rfl, b4⟩
      have d4 := nx d3 b4
      clear b4
      refine ⟨_, rfl, d4, ?_⟩
      try simp only [Act.put, List.setIfInBounds_toArray, List.set_cons_zero, List.set_cons_succ]
      refine held_do 15 30 (.bool false) (by kernel_rfl) (by kernel_rfl) (by kernel_rfl) (fun _ _ _ h => h) (by kernel_rfl) (by kernel_rfl) d4 (fun ww _ => by kernel_rfl) ?_
      try simp only [Act.put, List.setIfInBounds_toArray, List.set_cons_zero, List.set_cons_succ]
      refine held_do 16 31 (.bool false) (by kernel_rfl) (by kernel_rfl) (by kernel_rfl) (fun _ _ _ h => h) (by kernel_rfl) (by kernel_rfl) d4 (fun ww _ => by kernel_rfl) ?_
      try simp only [Act.put, List.setIfInBounds_toArray, List.set_cons_zero, List.set_cons_succ]
      refine held_do 17 32 (.bool false) (by kernel_rfl) (by kernel_rfl) (by kernel_rfl) (fun _ _ _ h => h) (by kernel_rfl) (by kernel_rfl) d4 (fun ww _ => by kernel_rfl) ?_
      try simp only [Act.put, List.setIfInBounds_toArray, List.set_cons_zero, List.set_cons_succ]
      refine held_do 18 33 (.agg #[.int .i64 t3.kind, .int .i64 t3.n, .int .i64 t3.x, .string t3.s, .slice a3 n3 c3]) (by kernel_rfl) (by kernel_rfl) (by kernel_rfl) (fun _ _ _ h => h) (by kernel_rfl) (by kernel_rfl) d4 (fun ww h => run_of (op := .load 29 (.tmp 5)) (by kernel_rfl) (fun o ho => load_val rfl (five_kept h XU3.out) ho)) ?_
      try simp only [Act.put, List.setIfInBounds_toArray, List.set_cons_zero, List.set_cons_succ]
      refine held_do 19 34 (.agg #[.int .i64 t3.kind, .int .i64 t3.n, .int .i64 t3.x, .string t3.s, .slice a3 n3 c3]) (by kernel_rfl) (by kernel_rfl) (by kernel_rfl) (fun _ _ _ h => h) (by kernel_rfl) (by kernel_rfl) d4 (fun ww h => run_of (op := .load 29 (.tmp 5)) (by kernel_rfl) (fun o ho => load_val rfl (five_kept h XU3.out) ho)) ?_
      try simp only [Act.put, List.setIfInBounds_toArray, List.set_cons_zero, List.set_cons_succ]
      refine held_call 20 35 16 #[.agg #[.int .i64 t3.kind, .int .i64 t3.n, .int .i64 t3.x, .string t3.s, .slice a3 n3 c3], .agg #[.int .i64 t3.kind, .int .i64 t3.n, .int .i64 t3.x, .string t3.s, .slice a3 n3 c3]] (by kernel_rfl) (by kernel_rfl) (by kernel_rfl) (fun _ => by kernel_rfl) ((R4.out _ d4).mono ?_)
      rintro _ v5 ⟨rfl, b5⟩
      have d5 := nx d4 b5
      clear b5
      refine ⟨_, rfl, d5, ?_⟩
      try simp only [Act.put, List.setIfInBounds_toArray, List.set_cons_zero, List.set_cons_succ]
      refine held_do 21 36 (.bool false) (by kernel_rfl) (by kernel_rfl) (by kernel_rfl) (fun _ _ _ h => h) (by kernel_rfl) (by kernel_rfl) d5 (fun ww _ => by kernel_rfl) ?_
      try simp only [Act.put, List.setIfInBounds_toArray, List.set_cons_zero, List.set_cons_succ]
      refine wpAnyH_done (by kernel_rfl) ?_ _
      obtain ⟨w4, hw4⟩ : ∃ wx, wx = v5 := ⟨_, rfl⟩
      have XA4 : Hid (w4.heap[w1.heap.size]? = some (.cells #[.int .i64 t1.kind, .int .i64 t1.n, .int .i64 t1.x, .string t1.s, .slice a1 n1 c1] 29 (0, 0))) := Lib.hid (by rw [hw4]; exact box_below XA3.out d5)
      have XB4 : Hid (w4.heap[(w1.heap.size + 1)]? = some (.cells #[.int .i64 t2.kind, .int .i64 t2.n, .int .i64 t2.x, .string t2.s, .slice a2 n2 c2] 29 (0, 0))) := Lib.hid (by rw [hw4]; exact box_below XB3.out d5)
      have XU4 : Hid (w4.heap[w2.heap.size]? = some (.cells #[.int .i64 t3.kind, .int .i64 t3.n, .int .i64 t3.x, .string t3.s, .slice a3 n3 c3] 29 (0, 0))) := Lib.hid (by rw [hw4]; exact box_below XU3.out d5)
      have TSA4 := Lib.hid (show TSl w4 _ _ by rw [hw4]; exact TSl.kept d5 TSA3.out)
      have TSB4 := Lib.hid (show TSl w4 _ _ by rw [hw4]; exact TSl.kept d5 TSB3.out)
      have TSU4 := Lib.hid (show TSl w4 _ _ by rw [hw4]; exact TSl.kept d5 TSU3.out)
      have T4 := Lib.hid (show Below w.heap.size w w4 by rw [hw4]; exact nx T3.out d5)
      rw [← hw4]
      clear d5 d4 d3 d2 d1 d0 hw4
      clear R1 R2 R3 R4
      have Al := box_lt XA4.out
      obtain ⟨A0, A1, A2, A3, A4, Af0, Af1, Af2, Af3, Af4⟩ := five_open XA4.out
      have Bl := box_lt XB4.out
      obtain ⟨B0, B1, B2, B3, B4, Bf0, Bf1, Bf2, Bf3, Bf4⟩ := five_open XB4.out
      have P1 := fun ww (hb : Below w4.heap.size w4 ww) => LA.out.1.kept (nx T4.out hb)
      have P2 := fun ww (hb : Below w4.heap.size w4 ww) => LA.out.2.kept (nx T4.out hb)
      have ok1 := fun ww (hb : Below w4.heap.size w4 ww) => okImpl_c t1 ww (.slice a1 n1 c1) (by have := HT1.out.1; omega) (P1 ww hb) (P2 ww hb) (TSl.kept hb TSA4.out) HT1.out.2
      have ok2 := fun ww (hb : Below w4.heap.size w4 ww) => okImpl_c t2 ww (.slice a2 n2 c2) (by have := HT2.out.1; omega) (P1 ww hb) (P2 ww hb) (TSl.kept hb TSB4.out) HT2.out.2
      clear P1 P2
      obtain ⟨K1, hK1⟩ : ∃ q, t1.ok = q := ⟨_, rfl⟩; obtain ⟨K2, hK2⟩ : ∃ q, t2.ok = q := ⟨_, rfl⟩
      have hon := HON.out
      rw [hK1] at ok1 hon; rw [hK2] at ok2 hon
      have O1 := Lib.hid ok1; have O2 := Lib.hid ok2; have HO := Lib.hid hon; clear ok1 ok2 hon hK2 HON; have HK1x := Lib.hid hK1; clear hK1
      go_wp2_with fail
      refine (O1.out _ (Below.refl _ _)).mono ?_
      rintro _ w5 ⟨rfl, b'⟩
      have XA5 : Hid (w5.heap[w1.heap.size]? = some (.cells #[.int .i64 t1.kind, .int .i64 t1.n, .int .i64 t1.x, .string t1.s, .slice a1 n1 c1] 29 (0, 0))) := Lib.hid (box_below XA4.out b')
      have XB5 : Hid (w5.heap[(w1.heap.size + 1)]? = some (.cells #[.int .i64 t2.kind, .int .i64 t2.n, .int .i64 t2.x, .string t2.s, .slice a2 n2 c2] 29 (0, 0))) := Lib.hid (box_below XB4.out b')
      have XU5 : Hid (w5.heap[w2.heap.size]? = some (.cells #[.int .i64 t3.kind, .int .i64 t3.n, .int .i64 t3.x, .string t3.s, .slice a3 n3 c3] 29 (0, 0))) := Lib.hid (box_below XU4.out b')
      have TSA5 := Lib.hid (TSl.kept b' TSA4.out)
      have TSB5 := Lib.hid (TSl.kept b' TSB4.out)
      have TSU5 := Lib.hid (TSl.kept b' TSU4.out)
      have T5 := Lib.hid (nx T4.out b'); clear b'
      clear Al A0 A1 A2 A3 A4 Af0 Af1 Af2 Af3 Af4
      clear Bl B0 B1 B2 B3 B4 Bf0 Bf1 Bf2 Bf3 Bf4
      have Al := box_lt XA5.out
      obtain ⟨A0, A1, A2, A3, A4, Af0, Af1, Af2, Af3, Af4⟩ := five_open XA5.out
      have Bl := box_lt XB5.out
      obtain ⟨B0, B1, B2, B3, B4, Bf0, Bf1, Bf2, Bf3, Bf4⟩ := five_open XB5.out
      cases K1 with
      | false =>
        go_wp2_with fail
        go_ret
        exact ⟨rfl, T5.out⟩
      | true =>
        clear O1 O2; have HK1 := HK1x; clear HK1x
        have P1 := fun ww (hb : Below w5.heap.size w5 ww) => LA.out.1.kept (nx T5.out hb)
        have P2 := fun ww (hb : Below w5.heap.size w5 ww) => LA.out.2.kept (nx T5.out hb)
        have ok2 := fun ww (hb : Below w5.heap.size w5 ww) => okImpl_c t2 ww (.slice a2 n2 c2) (by have := HT2.out.1; omega) (P1 ww hb) (P2 ww hb) (TSl.kept hb TSB5.out) HT2.out.2
        clear P1 P2
        obtain ⟨K3, hK3⟩ : ∃ q, t2.ok = q := ⟨_, rfl⟩
        rw [hK3] at ok2
        have O2 := Lib.hid ok2; clear ok2
        go_wp2_with fail
        refine (O2.out _ (Below.refl _ _)).mono ?_
        rintro _ w6 ⟨rfl, b'⟩
        have XA6 : Hid (w6.heap[w1.heap.size]? = some (.cells #[.int .i64 t1.kind, .int .i64 t1.n, .int .i64 t1.x, .string t1.s, .slice a1 n1 c1] 29 (0, 0))) := Lib.hid (box_below XA5.out b')
        have XB6 : Hid (w6.heap[(w1.heap.size + 1)]? = some (.cells #[.int .i64 t2.kind, .int .i64 t2.n, .int .i64 t2.x, .string t2.s, .slice a2 n2 c2] 29 (0, 0))) := Lib.hid (box_below XB5.out b')
        have XU6 : Hid (w6.heap[w2.heap.size]? = some (.cells #[.int .i64 t3.kind, .int .i64 t3.n, .int .i64 t3.x, .string t3.s, .slice a3 n3 c3] 29 (0, 0))) := Lib.hid (box_below XU5.out b')
        have TSA6 := Lib.hid (TSl.kept b' TSA5.out)
        have TSB6 := Lib.hid (TSl.kept b' TSB5.out)
        have TSU6 := Lib.hid (TSl.kept b' TSU5.out)
        have T6 := Lib.hid (nx T5.out b'); clear b'
        clear Al A0 A1 A2 A3 A4 Af0 Af1 Af2 Af3 Af4
        clear Bl B0 B1 B2 B3 B4 Bf0 Bf1 Bf2 Bf3 Bf4
        cases K3 with
        | false =>
          go_wp2_with fail
          go_ret
          exact ⟨rfl, T6.out⟩
        | true =>
          have hon := lessT_one (t := t1) (t' := t2) HK1.out hK3
          rw [HL1.out, HL2.out] at hon
          clear HO
          go_wp2_with fail
          have P1 := fun ww (hb : Below w6.heap.size w6 ww) => LA.out.1.kept (nx T6.out hb)
          have P2 := fun ww (hb : Below w6.heap.size w6 ww) => LA.out.2.kept (nx T6.out hb)
          have ri12 := fun ww (hb : Below w6.heap.size w6 ww) => lessImpl_c t1 t2 ww (.slice a1 n1 c1) (.slice a2 n2 c2) (P1 ww hb) (TSl.kept hb TSA6.out) (TSl.kept hb TSB6.out) HT1.out.2 HT2.out.2
          have ri21 := fun ww (hb : Below w6.heap.size w6 ww) => lessImpl_c t2 t1 ww (.slice a2 n2 c2) (.slice a1 n1 c1) (P1 ww hb) (TSl.kept hb TSB6.out) (TSl.kept hb TSA6.out) HT2.out.2 HT1.out.2
          have rm12 := fun ww (hb : Below w6.heap.size w6 ww) => sameImpl_c t1 t2 ww (.slice a1 n1 c1) (.slice a2 n2 c2) (TSl.kept hb TSA6.out) (TSl.kept hb TSB6.out) HT1.out.2 HT2.out.2
          clear P1 P2
          rw [HL1.out] at ri12; rw [HL2.out] at ri21
          obtain ⟨E, hE⟩ : ∃ q, sameB t1 t2 = q := ⟨_, rfl⟩
          rw [hE] at rm12 hon
          have R1 := Lib.hid ri12; have R3 := Lib.hid ri21; have R5 := Lib.hid rm12; clear ri12 ri21 rm12 hE hK3
          obtain rfl : E = false := by cases E with | false => rfl | true => simp at hon
          clear hon
          have d0 : Below w6.heap.size w6 w6.drew := (Below.refl _ _).drew
          refine wp_region_held_drew (S := fun ww => Below w6.heap.size w6 ww) (by kernel_rfl) d0 (fun _ => ?_)
          refine held_do 0 45 (.agg #[.int .i64 t1.kind, .int .i64 t1.n, .int .i64 t1.x, .string t1.s, .slice a1 n1 c1]) (by kernel_rfl) (by kernel_rfl) (by kernel_rfl) (fun _ _ _ h => h) (by kernel_rfl) (by kernel_rfl) d0 (fun ww h => run_of (op := .load 29 (.tmp 3)) (by kernel_rfl) (fun o ho => load_val rfl (five_kept h XA6.out) ho)) ?_
          try simp only [Act.put, List.setIfInBounds_toArray, List.set_cons_zero, List.set_cons_succ]
          refine held_do 1 46 (.agg #[.int .i64 t2.kind, .int .i64 t2.n, .int .i64 t2.x, .string t2.s, .slice a2 n2 c2]) (by kernel_rfl) (by kernel_rfl) (by kernel_rfl) (fun _ _ _ h => h) (by kernel_rfl) (by kernel_rfl) d0 (fun ww h => run_of (op := .load 29 (.tmp 4)) (by kernel_rfl) (fun o ho => load_val rfl (five_kept h XB6.out) ho)) ?_
          try simp only [Act.put, List.setIfInBounds_toArray, List.set_cons_zero, List.set_cons_succ]
          refine held_do 8 53 (.agg #[.int .i64 t1.kind, .int .i64 t1.n, .int .i64 t1.x, .string t1.s, .slice a1 n1 c1]) (by kernel_rfl) (by kernel_rfl) (by kernel_rfl) (fun _ _ _ h => h) (by kernel_rfl) (by kernel_rfl) d0 (fun ww h => run_of (op := .load 29 (.tmp 3)) (by kernel_rfl) (fun o ho => load_val rfl (five_kept h XA6.out) ho)) ?_
          try simp only [Act.put, List.setIfInBounds_toArray, List.set_cons_zero, List.set_cons_succ]
          refine held_do 9 54 (.agg #[.int .i64 t2.kind, .int .i64 t2.n, .int .i64 t2.x, .string t2.s, .slice a2 n2 c2]) (by kernel_rfl) (by kernel_rfl) (by kernel_rfl) (fun _ _ _ h => h) (by kernel_rfl) (by kernel_rfl) d0 (fun ww h => run_of (op := .load 29 (.tmp 4)) (by kernel_rfl) (fun o ho => load_val rfl (five_kept h XB6.out) ho)) ?_
          try simp only [Act.put, List.setIfInBounds_toArray, List.set_cons_zero, List.set_cons_succ]
          refine held_call 2 47 16 #[.agg #[.int .i64 t1.kind, .int .i64 t1.n, .int .i64 t1.x, .string t1.s, .slice a1 n1 c1], .agg #[.int .i64 t2.kind, .int .i64 t2.n, .int .i64 t2.x, .string t2.s, .slice a2 n2 c2]] (by kernel_rfl) (by kernel_rfl) (by kernel_rfl) (fun _ => by kernel_rfl) ((R1.out _ d0).mono ?_)
          rintro _ v1 ⟨rfl, b1⟩
          have d1 := nx d0 b1
          clear b1
          refine ⟨_, rfl, d1, ?_⟩
          try simp only [Act.put, List.setIfInBounds_toArray, List.set_cons_zero, List.set_cons_succ]
          refine held_do 3 48 (.bool true) (by kernel_rfl) (by kernel_rfl) (by kernel_rfl) (fun _ _ _ h => h) (by kernel_rfl) (by kernel_rfl) d1 (fun ww _ => by kernel_rfl) ?_
          try simp only [Act.put, List.setIfInBounds_toArray, List.set_cons_zero, List.set_cons_succ]
          refine held_skip 4 49 (by kernel_rfl) (by kernel_rfl) (by kernel_rfl) (fun _ _ _ h => h) (by kernel_rfl) (by kernel_rfl) d1 ?_
          try simp only [Act.put, List.setIfInBounds_toArray, List.set_cons_zero, List.set_cons_succ]
          refine held_skip 5 50 (by kernel_rfl) (by kernel_rfl) (by kernel_rfl) (fun _ _ _ h => h) (by kernel_rfl) (by kernel_rfl) d1 ?_
          try simp only [Act.put, List.setIfInBounds_toArray, List.set_cons_zero, List.set_cons_succ]
          refine held_skip 6 51 (by kernel_rfl) (by kernel_rfl) (by kernel_rfl) (fun _ _ _ h => h) (by kernel_rfl) (by kernel_rfl) d1 ?_
          try simp only [Act.put, List.setIfInBounds_toArray, List.set_cons_zero, List.set_cons_succ]
          refine held_do 7 52 (.bool true) (by kernel_rfl) (by kernel_rfl) (by kernel_rfl) (fun _ _ _ h => h) (by kernel_rfl) (by kernel_rfl) d1 (fun ww _ => by kernel_rfl) ?_
          try simp only [Act.put, List.setIfInBounds_toArray, List.set_cons_zero, List.set_cons_succ]
          refine held_call 10 55 72 #[.agg #[.int .i64 t1.kind, .int .i64 t1.n, .int .i64 t1.x, .string t1.s, .slice a1 n1 c1], .agg #[.int .i64 t2.kind, .int .i64 t2.n, .int .i64 t2.x, .string t2.s, .slice a2 n2 c2]] (by kernel_rfl) (by kernel_rfl) (by kernel_rfl) (fun _ => by kernel_rfl) ((R5.out _ d1).mono ?_)
          rintro _ v2 ⟨rfl, b2⟩
          have d2 := nx d1 b2
          clear b2
          refine ⟨_, rfl, d2, ?_⟩
          try simp only [Act.put, List.setIfInBounds_toArray, List.set_cons_zero, List.set_cons_succ]
          refine held_do 11 56 (.bool true) (by kernel_rfl) (by kernel_rfl) (by kernel_rfl) (fun _ _ _ h => h) (by kernel_rfl) (by kernel_rfl) d2 (fun ww _ => by kernel_rfl) ?_
          try simp only [Act.put, List.setIfInBounds_toArray, List.set_cons_zero, List.set_cons_succ]
          refine held_do 12 2 (.bool true) (by kernel_rfl) (by kernel_rfl) (by kernel_rfl) (fun _ _ _ h => h) (by kernel_rfl) (by kernel_rfl) d2 (fun ww _ => by kernel_rfl) ?_
          try simp only [Act.put, List.setIfInBounds_toArray, List.set_cons_zero, List.set_cons_succ]
          refine wpAnyH_done (by kernel_rfl) ?_ _
          obtain ⟨w7, hw7⟩ : ∃ wx, wx = v2 := ⟨_, rfl⟩
          have XA7 : Hid (w7.heap[w1.heap.size]? = some (.cells #[.int .i64 t1.kind, .int .i64 t1.n, .int .i64 t1.x, .string t1.s, .slice a1 n1 c1] 29 (0, 0))) := Lib.hid (by rw [hw7]; exact box_below XA6.out d2)
          have XB7 : Hid (w7.heap[(w1.heap.size + 1)]? = some (.cells #[.int .i64 t2.kind, .int .i64 t2.n, .int .i64 t2.x, .string t2.s, .slice a2 n2 c2] 29 (0, 0))) := Lib.hid (by rw [hw7]; exact box_below XB6.out d2)
          have XU7 : Hid (w7.heap[w2.heap.size]? = some (.cells #[.int .i64 t3.kind, .int .i64 t3.n, .int .i64 t3.x, .string t3.s, .slice a3 n3 c3] 29 (0, 0))) := Lib.hid (by rw [hw7]; exact box_below XU6.out d2)
          have TSA7 := Lib.hid (show TSl w7 _ _ by rw [hw7]; exact TSl.kept d2 TSA6.out)
          have TSB7 := Lib.hid (show TSl w7 _ _ by rw [hw7]; exact TSl.kept d2 TSB6.out)
          have TSU7 := Lib.hid (show TSl w7 _ _ by rw [hw7]; exact TSl.kept d2 TSU6.out)
          have T7 := Lib.hid (show Below w.heap.size w w7 by rw [hw7]; exact nx T6.out d2)
          rw [← hw7]
          clear d2 d1 d0 hw7
          go_wp2_with fail
          go_ret
          exact ⟨rfl, T7.out⟩
    | false =>
      have d0 : Below w3.heap.size w3 w3.drew := (Below.refl _ _).drew
      refine wp_region_held_drew (S := fun ww => Below w3.heap.size w3 ww) (by kernel_rfl) d0 (fun _ => ?_)
      refine held_do 0 15 (.agg #[.int .i64 t1.kind, .int .i64 t1.n, .int .i64 t1.x, .string t1.s, .slice a1 n1 c1]) (by kernel_rfl) (by kernel_rfl) (by kernel_rfl) (fun _ _ _ h => h) (by kernel_rfl) (by kernel_rfl) d0 (fun ww h => run_of (op := .load 29 (.tmp 3)) (by kernel_rfl) (fun o ho => load_val rfl (five_kept h XA3.out) ho)) ?_
      try simp only [Act.put, List.setIfInBounds_toArray, List.set_cons_zero, List.set_cons_succ]
      refine held_do 1 16 (.agg #[.int .i64 t2.kind, .int .i64 t2.n, .int .i64 t2.x, .string t2.s, .slice a2 n2 c2]) (by kernel_rfl) (by kernel_rfl) (by kernel_rfl) (fun _ _ _ h => h) (by kernel_rfl) (by kernel_rfl) d0 (fun ww h => run_of (op := .load 29 (.tmp 4)) (by kernel_rfl) (fun o ho => load_val rfl (five_kept h XB3.out) ho)) ?_
      try simp only [Act.put, List.setIfInBounds_toArray, List.set_cons_zero, List.set_cons_succ]
      refine held_do 3 18 (.agg #[.int .i64 t1.kind, .int .i64 t1.n, .int .i64 t1.x, .string t1.s, .slice a1 n1 c1]) (by kernel_rfl) (by kernel_rfl) (by kernel_rfl) (fun _ _ _ h => h) (by kernel_rfl) (by kernel_rfl) d0 (fun ww h => run_of (op := .load 29 (.tmp 3)) (by kernel_rfl) (fun o ho => load_val rfl (five_kept h XA3.out) ho)) ?_
      try simp only [Act.put, List.setIfInBounds_toArray, List.set_cons_zero, List.set_cons_succ]
      refine held_do 4 19 (.agg #[.int .i64 t2.kind, .int .i64 t2.n, .int .i64 t2.x, .string t2.s, .slice a2 n2 c2]) (by kernel_rfl) (by kernel_rfl) (by kernel_rfl) (fun _ _ _ h => h) (by kernel_rfl) (by kernel_rfl) d0 (fun ww h => run_of (op := .load 29 (.tmp 4)) (by kernel_rfl) (fun o ho => load_val rfl (five_kept h XB3.out) ho)) ?_
      try simp only [Act.put, List.setIfInBounds_toArray, List.set_cons_zero, List.set_cons_succ]
      refine held_call 2 17 16 #[.agg #[.int .i64 t1.kind, .int .i64 t1.n, .int .i64 t1.x, .string t1.s, .slice a1 n1 c1], .agg #[.int .i64 t2.kind, .int .i64 t2.n, .int .i64 t2.x, .string t2.s, .slice a2 n2 c2]] (by kernel_rfl) (by kernel_rfl) (by kernel_rfl) (fun _ => by kernel_rfl) ((R1.out _ d0).mono ?_)
      rintro _ v1 ⟨rfl, b1⟩
      have d1 := nx d0 b1
      clear b1
      refine ⟨_, rfl, d1, ?_⟩
      try simp only [Act.put, List.setIfInBounds_toArray, List.set_cons_zero, List.set_cons_succ]
      refine held_call 5 20 14 #[.agg #[.int .i64 t1.kind, .int .i64 t1.n, .int .i64 t1.x, .string t1.s, .slice a1 n1 c1], .agg #[.int .i64 t2.kind, .int .i64 t2.n, .int .i64 t2.x, .string t2.s, .slice a2 n2 c2]] (by kernel_rfl) (by kernel_rfl) (by kernel_rfl) (fun _ => by kernel_rfl) ((R2.out _ d1).mono ?_)
      rintro _ v2 ⟨rfl, b2⟩
      have d2 := nx d1 b2
      clear b2
      refine ⟨_, rfl, d2, ?_⟩
      try simp only [Act.put, List.setIfInBounds_toArray, List.set_cons_zero, List.set_cons_succ]
      refine held_do 6 21 (.bool false) (by kernel_rfl) (by kernel_rfl) (by kernel_rfl) (fun _ _ _ h => h) (by kernel_rfl) (by kernel_rfl) d2 (fun ww _ => by kernel_rfl) ?_
      try simp only [Act.put, List.setIfInBounds_toArray, List.set_cons_zero, List.set_cons_succ]
      refine held_do 7 22 (.bool false) (by kernel_rfl) (by kernel_rfl) (by kernel_rfl) (fun _ _ _ h => h) (by kernel_rfl) (by kernel_rfl) d2 (fun ww _ => by kernel_rfl) ?_
      try simp only [Act.put, List.setIfInBounds_toArray, List.set_cons_zero, List.set_cons_succ]
      refine held_do 8 23 (.agg #[.int .i64 t1.kind, .int .i64 t1.n, .int .i64 t1.x, .string t1.s, .slice a1 n1 c1]) (by kernel_rfl) (by kernel_rfl) (by kernel_rfl) (fun _ _ _ h => h) (by kernel_rfl) (by kernel_rfl) d2 (fun ww h => run_of (op := .load 29 (.tmp 3)) (by kernel_rfl) (fun o ho => load_val rfl (five_kept h XA3.out) ho)) ?_
      try simp only [Act.put, List.setIfInBounds_toArray, List.set_cons_zero, List.set_cons_succ]
      refine held_do 9 24 (.agg #[.int .i64 t2.kind, .int .i64 t2.n, .int .i64 t2.x, .string t2.s, .slice a2 n2 c2]) (by kernel_rfl) (by kernel_rfl) (by kernel_rfl) (fun _ _ _ h => h) (by kernel_rfl) (by kernel_rfl) d2 (fun ww h => run_of (op := .load 29 (.tmp 4)) (by kernel_rfl) (fun o ho => load_val rfl (five_kept h XB3.out) ho)) ?_
      try simp only [Act.put, List.setIfInBounds_toArray, List.set_cons_zero, List.set_cons_succ]
      refine held_call 10 25 16 #[.agg #[.int .i64 t1.kind, .int .i64 t1.n, .int .i64 t1.x, .string t1.s, .slice a1 n1 c1], .agg #[.int .i64 t2.kind, .int .i64 t2.n, .int .i64 t2.x, .string t2.s, .slice a2 n2 c2]] (by kernel_rfl) (by kernel_rfl) (by kernel_rfl) (fun _ => by kernel_rfl) ((R1.out _ d2).mono ?_)
      rintro _ v3 ⟨rfl, b3⟩
      have d3 := nx d2 b3
      clear b3
      refine ⟨_, rfl, d3, ?_⟩
      try simp only [Act.put, List.setIfInBounds_toArray, List.set_cons_zero, List.set_cons_succ]
      refine held_do 11 26 (.bool false) (by kernel_rfl) (by kernel_rfl) (by kernel_rfl) (fun _ _ _ h => h) (by kernel_rfl) (by kernel_rfl) d3 (fun ww _ => by kernel_rfl) ?_
      try simp only [Act.put, List.setIfInBounds_toArray, List.set_cons_zero, List.set_cons_succ]
      refine held_skip 12 27 (by kernel_rfl) (by kernel_rfl) (by kernel_rfl) (fun _ _ _ h => h) (by kernel_rfl) (by kernel_rfl) d3 ?_
      try simp only [Act.put, List.setIfInBounds_toArray, List.set_cons_zero, List.set_cons_succ]
      refine held_skip 13 28 (by kernel_rfl) (by kernel_rfl) (by kernel_rfl) (fun _ _ _ h => h) (by kernel_rfl) (by kernel_rfl) d3 ?_
      try simp only [Act.put, List.setIfInBounds_toArray, List.set_cons_zero, List.set_cons_succ]
      refine held_skip 14 29 (by kernel_rfl) (by kernel_rfl) (by kernel_rfl) (fun _ _ _ h => h) (by kernel_rfl) (by kernel_rfl) d3 ?_
      try simp only [Act.put, List.setIfInBounds_toArray, List.set_cons_zero, List.set_cons_succ]
      refine held_do 15 30 (.bool false) (by kernel_rfl) (by kernel_rfl) (by kernel_rfl) (fun _ _ _ h => h) (by kernel_rfl) (by kernel_rfl) d3 (fun ww _ => by kernel_rfl) ?_
      try simp only [Act.put, List.setIfInBounds_toArray, List.set_cons_zero, List.set_cons_succ]
      refine held_do 16 31 (.bool false) (by kernel_rfl) (by kernel_rfl) (by kernel_rfl) (fun _ _ _ h => h) (by kernel_rfl) (by kernel_rfl) d3 (fun ww _ => by kernel_rfl) ?_
      try simp only [Act.put, List.setIfInBounds_toArray, List.set_cons_zero, List.set_cons_succ]
      refine held_do 17 32 (.bool false) (by kernel_rfl) (by kernel_rfl) (by kernel_rfl) (fun _ _ _ h => h) (by kernel_rfl) (by kernel_rfl) d3 (fun ww _ => by kernel_rfl) ?_
      try simp only [Act.put, List.setIfInBounds_toArray, List.set_cons_zero, List.set_cons_succ]
      refine held_do 18 33 (.agg #[.int .i64 t3.kind, .int .i64 t3.n, .int .i64 t3.x, .string t3.s, .slice a3 n3 c3]) (by kernel_rfl) (by kernel_rfl) (by kernel_rfl) (fun _ _ _ h => h) (by kernel_rfl) (by kernel_rfl) d3 (fun ww h => run_of (op := .load 29 (.tmp 5)) (by kernel_rfl) (fun o ho => load_val rfl (five_kept h XU3.out) ho)) ?_
      try simp only [Act.put, List.setIfInBounds_toArray, List.set_cons_zero, List.set_cons_succ]
      refine held_do 19 34 (.agg #[.int .i64 t3.kind, .int .i64 t3.n, .int .i64 t3.x, .string t3.s, .slice a3 n3 c3]) (by kernel_rfl) (by kernel_rfl) (by kernel_rfl) (fun _ _ _ h => h) (by kernel_rfl) (by kernel_rfl) d3 (fun ww h => run_of (op := .load 29 (.tmp 5)) (by kernel_rfl) (fun o ho => load_val rfl (five_kept h XU3.out) ho)) ?_
      try simp only [Act.put, List.setIfInBounds_toArray, List.set_cons_zero, List.set_cons_succ]
      refine held_call 20 35 16 #[.agg #[.int .i64 t3.kind, .int .i64 t3.n, .int .i64 t3.x, .string t3.s, .slice a3 n3 c3], .agg #[.int .i64 t3.kind, .int .i64 t3.n, .int .i64 t3.x, .string t3.s, .slice a3 n3 c3]] (by kernel_rfl) (by kernel_rfl) (by kernel_rfl) (fun _ => by kernel_rfl) ((R4.out _ d3).mono ?_)
      rintro _ v4 ⟨rfl, b4⟩
      have d4 := nx d3 b4
      clear b4
      refine ⟨_, rfl, d4, ?_⟩
      try simp only [Act.put, List.setIfInBounds_toArray, List.set_cons_zero, List.set_cons_succ]
      refine held_do 21 36 (.bool false) (by kernel_rfl) (by kernel_rfl) (by kernel_rfl) (fun _ _ _ h => h) (by kernel_rfl) (by kernel_rfl) d4 (fun ww _ => by kernel_rfl) ?_
      try simp only [Act.put, List.setIfInBounds_toArray, List.set_cons_zero, List.set_cons_succ]
      refine wpAnyH_done (by kernel_rfl) ?_ _
      obtain ⟨w4, hw4⟩ : ∃ wx, wx = v4 := ⟨_, rfl⟩
      have XA4 : Hid (w4.heap[w1.heap.size]? = some (.cells #[.int .i64 t1.kind, .int .i64 t1.n, .int .i64 t1.x, .string t1.s, .slice a1 n1 c1] 29 (0, 0))) := Lib.hid (by rw [hw4]; exact box_below XA3.out d4)
      have XB4 : Hid (w4.heap[(w1.heap.size + 1)]? = some (.cells #[.int .i64 t2.kind, .int .i64 t2.n, .int .i64 t2.x, .string t2.s, .slice a2 n2 c2] 29 (0, 0))) := Lib.hid (by rw [hw4]; exact box_below XB3.out d4)
      have XU4 : Hid (w4.heap[w2.heap.size]? = some (.cells #[.int .i64 t3.kind, .int .i64 t3.n, .int .i64 t3.x, .string t3.s, .slice a3 n3 c3] 29 (0, 0))) := Lib.hid (by rw [hw4]; exact box_below XU3.out d4)
      have TSA4 := Lib.hid (show TSl w4 _ _ by rw [hw4]; exact TSl.kept d4 TSA3.out)
      have TSB4 := Lib.hid (show TSl w4 _ _ by rw [hw4]; exact TSl.kept d4 TSB3.out)
      have TSU4 := Lib.hid (show TSl w4 _ _ by rw [hw4]; exact TSl.kept d4 TSU3.out)
      have T4 := Lib.hid (show Below w.heap.size w w4 by rw [hw4]; exact nx T3.out d4)
      rw [← hw4]
      clear d4 d3 d2 d1 d0 hw4
      clear R1 R2 R3 R4
      have Al := box_lt XA4.out
      obtain ⟨A0, A1, A2, A3, A4, Af0, Af1, Af2, Af3, Af4⟩ := five_open XA4.out
      have Bl := box_lt XB4.out
      obtain ⟨B0, B1, B2, B3, B4, Bf0, Bf1, Bf2, Bf3, Bf4⟩ := five_open XB4.out
      have P1 := fun ww (hb : Below w4.heap.size w4 ww) => LA.out.1.kept (nx T4.out hb)
      have P2 := fun ww (hb : Below w4.heap.size w4 ww) => LA.out.2.kept (nx T4.out hb)
      have ok1 := fun ww (hb : Below w4.heap.size w4 ww) => okImpl_c t1 ww (.slice a1 n1 c1) (by have := HT1.out.1; omega) (P1 ww hb) (P2 ww hb) (TSl.kept hb TSA4.out) HT1.out.2
      have ok2 := fun ww (hb : Below w4.heap.size w4 ww) => okImpl_c t2 ww (.slice a2 n2 c2) (by have := HT2.out.1; omega) (P1 ww hb) (P2 ww hb) (TSl.kept hb TSB4.out) HT2.out.2
      clear P1 P2
      obtain ⟨K1, hK1⟩ : ∃ q, t1.ok = q := ⟨_, rfl⟩; obtain ⟨K2, hK2⟩ : ∃ q, t2.ok = q := ⟨_, rfl⟩
      have hon := HON.out
      rw [hK1] at ok1 hon; rw [hK2] at ok2 hon
      have O1 := Lib.hid ok1; have O2 := Lib.hid ok2; have HO := Lib.hid hon; clear ok1 ok2 hon hK2 HON; have HK1x := Lib.hid hK1; clear hK1
      go_wp2_with fail
      refine (O1.out _ (Below.refl _ _)).mono ?_
      rintro _ w5 ⟨rfl, b'⟩
      have XA5 : Hid (w5.heap[w1.heap.size]? = some (.cells #[.int .i64 t1.kind, .int .i64 t1.n, .int .i64 t1.x, .string t1.s, .slice a1 n1 c1] 29 (0, 0))) := Lib.hid (box_below XA4.out b')
      have XB5 : Hid (w5.heap[(w1.heap.size + 1)]? = some (.cells #[.int .i64 t2.kind, .int .i64 t2.n, .int .i64 t2.x, .string t2.s, .slice a2 n2 c2] 29 (0, 0))) := Lib.hid (box_below XB4.out b')
      have XU5 : Hid (w5.heap[w2.heap.size]? = some (.cells #[.int .i64 t3.kind, .int .i64 t3.n, .int .i64 t3.x, .string t3.s, .slice a3 n3 c3] 29 (0, 0))) := Lib.hid (box_below XU4.out b')
      have TSA5 := Lib.hid (TSl.kept b' TSA4.out)
      have TSB5 := Lib.hid (TSl.kept b' TSB4.out)
      have TSU5 := Lib.hid (TSl.kept b' TSU4.out)
      have T5 := Lib.hid (nx T4.out b'); clear b'
      clear Al A0 A1 A2 A3 A4 Af0 Af1 Af2 Af3 Af4
      clear Bl B0 B1 B2 B3 B4 Bf0 Bf1 Bf2 Bf3 Bf4
      have Al := box_lt XA5.out
      obtain ⟨A0, A1, A2, A3, A4, Af0, Af1, Af2, Af3, Af4⟩ := five_open XA5.out
      have Bl := box_lt XB5.out
      obtain ⟨B0, B1, B2, B3, B4, Bf0, Bf1, Bf2, Bf3, Bf4⟩ := five_open XB5.out
      cases K1 with
      | false =>
        go_wp2_with fail
        go_ret
        exact ⟨rfl, T5.out⟩
      | true =>
        clear O1 O2; have HK1 := HK1x; clear HK1x
        have P1 := fun ww (hb : Below w5.heap.size w5 ww) => LA.out.1.kept (nx T5.out hb)
        have P2 := fun ww (hb : Below w5.heap.size w5 ww) => LA.out.2.kept (nx T5.out hb)
        have ok2 := fun ww (hb : Below w5.heap.size w5 ww) => okImpl_c t2 ww (.slice a2 n2 c2) (by have := HT2.out.1; omega) (P1 ww hb) (P2 ww hb) (TSl.kept hb TSB5.out) HT2.out.2
        clear P1 P2
        obtain ⟨K3, hK3⟩ : ∃ q, t2.ok = q := ⟨_, rfl⟩
        rw [hK3] at ok2
        have O2 := Lib.hid ok2; clear ok2
        go_wp2_with fail
        refine (O2.out _ (Below.refl _ _)).mono ?_
        rintro _ w6 ⟨rfl, b'⟩
        have XA6 : Hid (w6.heap[w1.heap.size]? = some (.cells #[.int .i64 t1.kind, .int .i64 t1.n, .int .i64 t1.x, .string t1.s, .slice a1 n1 c1] 29 (0, 0))) := Lib.hid (box_below XA5.out b')
        have XB6 : Hid (w6.heap[(w1.heap.size + 1)]? = some (.cells #[.int .i64 t2.kind, .int .i64 t2.n, .int .i64 t2.x, .string t2.s, .slice a2 n2 c2] 29 (0, 0))) := Lib.hid (box_below XB5.out b')
        have XU6 : Hid (w6.heap[w2.heap.size]? = some (.cells #[.int .i64 t3.kind, .int .i64 t3.n, .int .i64 t3.x, .string t3.s, .slice a3 n3 c3] 29 (0, 0))) := Lib.hid (box_below XU5.out b')
        have TSA6 := Lib.hid (TSl.kept b' TSA5.out)
        have TSB6 := Lib.hid (TSl.kept b' TSB5.out)
        have TSU6 := Lib.hid (TSl.kept b' TSU5.out)
        have T6 := Lib.hid (nx T5.out b'); clear b'
        clear Al A0 A1 A2 A3 A4 Af0 Af1 Af2 Af3 Af4
        clear Bl B0 B1 B2 B3 B4 Bf0 Bf1 Bf2 Bf3 Bf4
        cases K3 with
        | false =>
          go_wp2_with fail
          go_ret
          exact ⟨rfl, T6.out⟩
        | true =>
          have hon := lessT_one (t := t1) (t' := t2) HK1.out hK3
          rw [HL1.out, HL2.out] at hon
          clear HO
          go_wp2_with fail
          have P1 := fun ww (hb : Below w6.heap.size w6 ww) => LA.out.1.kept (nx T6.out hb)
          have P2 := fun ww (hb : Below w6.heap.size w6 ww) => LA.out.2.kept (nx T6.out hb)
          have ri12 := fun ww (hb : Below w6.heap.size w6 ww) => lessImpl_c t1 t2 ww (.slice a1 n1 c1) (.slice a2 n2 c2) (P1 ww hb) (TSl.kept hb TSA6.out) (TSl.kept hb TSB6.out) HT1.out.2 HT2.out.2
          have ri21 := fun ww (hb : Below w6.heap.size w6 ww) => lessImpl_c t2 t1 ww (.slice a2 n2 c2) (.slice a1 n1 c1) (P1 ww hb) (TSl.kept hb TSB6.out) (TSl.kept hb TSA6.out) HT2.out.2 HT1.out.2
          have rm12 := fun ww (hb : Below w6.heap.size w6 ww) => sameImpl_c t1 t2 ww (.slice a1 n1 c1) (.slice a2 n2 c2) (TSl.kept hb TSA6.out) (TSl.kept hb TSB6.out) HT1.out.2 HT2.out.2
          clear P1 P2
          rw [HL1.out] at ri12; rw [HL2.out] at ri21
          obtain ⟨E, hE⟩ : ∃ q, sameB t1 t2 = q := ⟨_, rfl⟩
          rw [hE] at rm12 hon
          have R1 := Lib.hid ri12; have R3 := Lib.hid ri21; have R5 := Lib.hid rm12; clear ri12 ri21 rm12 hE hK3
          cases L2 with
          | true =>
            obtain rfl : E = false := by cases E with | false => rfl | true => simp at hon
            clear hon
            have d0 : Below w6.heap.size w6 w6.drew := (Below.refl _ _).drew
            refine wp_region_held_drew (S := fun ww => Below w6.heap.size w6 ww) (by kernel_rfl) d0 (fun _ => ?_)
            refine held_do 0 45 (.agg #[.int .i64 t1.kind, .int .i64 t1.n, .int .i64 t1.x, .string t1.s, .slice a1 n1 c1]) (by kernel_rfl) (by kernel_rfl) (by kernel_rfl) (fun _ _ _ h => h) (by kernel_rfl) (by kernel_rfl) d0 (fun ww h => run_of (op := .load 29 (.tmp 3)) (by kernel_rfl) (fun o ho => load_val rfl (five_kept h XA6.out) ho)) ?_
            try simp only [Act.put, List.setIfInBounds_toArray, List.set_cons_zero, List.set_cons_succ]
            refine held_do 1 46 (.agg #[.int .i64 t2.kind, .int .i64 t2.n, .int .i64 t2.x, .string t2.s, .slice a2 n2 c2]) (by kernel_rfl) (by kernel_rfl) (by kernel_rfl) (fun _ _ _ h => h) (by kernel_rfl) (by kernel_rfl) d0 (fun ww h => run_of (op := .load 29 (.tmp 4)) (by kernel_rfl) (fun o ho => load_val rfl (five_kept h XB6.out) ho)) ?_
            try simp only [Act.put, List.setIfInBounds_toArray, List.set_cons_zero, List.set_cons_succ]
            refine held_do 8 53 (.agg #[.int .i64 t1.kind, .int .i64 t1.n, .int .i64 t1.x, .string t1.s, .slice a1 n1 c1]) (by kernel_rfl) (by kernel_rfl) (by kernel_rfl) (fun _ _ _ h => h) (by kernel_rfl) (by kernel_rfl) d0 (fun ww h => run_of (op := .load 29 (.tmp 3)) (by kernel_rfl) (fun o ho => load_val rfl (five_kept h XA6.out) ho)) ?_
            try simp only [Act.put, List.setIfInBounds_toArray, List.set_cons_zero, List.set_cons_succ]
            refine held_do 9 54 (.agg #[.int .i64 t2.kind, .int .i64 t2.n, .int .i64 t2.x, .string t2.s, .slice a2 n2 c2]) (by kernel_rfl) (by kernel_rfl) (by kernel_rfl) (fun _ _ _ h => h) (by kernel_rfl) (by kernel_rfl) d0 (fun ww h => run_of (op := .load 29 (.tmp 4)) (by kernel_rfl) (fun o ho => load_val rfl (five_kept h XB6.out) ho)) ?_
            try simp only [Act.put, List.setIfInBounds_toArray, List.set_cons_zero, List.set_cons_succ]
            refine held_call 2 47 16 #[.agg #[.int .i64 t1.kind, .int .i64 t1.n, .int .i64 t1.x, .string t1.s, .slice a1 n1 c1], .agg #[.int .i64 t2.kind, .int .i64 t2.n, .int .i64 t2.x, .string t2.s, .slice a2 n2 c2]] (by kernel_rfl) (by kernel_rfl) (by kernel_rfl) (fun _ => by kernel_rfl) ((R1.out _ d0).mono ?_)
            rintro _ v1 ⟨rfl, b1⟩
            have d1 := nx d0 b1
            clear b1
            refine ⟨_, rfl, d1, ?_⟩
            try simp only [Act.put, List.setIfInBounds_toArray, List.set_cons_zero, List.set_cons_succ]
            refine held_do 3 48 (.bool false) (by kernel_rfl) (by kernel_rfl) (by kernel_rfl) (fun _ _ _ h => h) (by kernel_rfl) (by kernel_rfl) d1 (fun ww _ => by kernel_rfl) ?_
            try simp only [Act.put, List.setIfInBounds_toArray, List.set_cons_zero, List.set_cons_succ]
            refine held_do 4 49 (.agg #[.int .i64 t2.kind, .int .i64 t2.n, .int .i64 t2.x, .string t2.s, .slice a2 n2 c2]) (by kernel_rfl) (by kernel_rfl) (by kernel_rfl) (fun _ _ _ h => h) (by kernel_rfl) (by kernel_rfl) d1 (fun ww h => run_of (op := .load 29 (.tmp 4)) (by kernel_rfl) (fun o ho => load_val rfl (five_kept h XB6.out) ho)) ?_
            try simp only [Act.put, List.setIfInBounds_toArray, List.set_cons_zero, List.set_cons_succ]
            refine held_do 5 50 (.agg #[.int .i64 t1.kind, .int .i64 t1.n, .int .i64 t1.x, .string t1.s, .slice a1 n1 c1]) (by kernel_rfl) (by kernel_rfl) (by kernel_rfl) (fun _ _ _ h => h) (by kernel_rfl) (by kernel_rfl) d1 (fun ww h => run_of (op := .load 29 (.tmp 3)) (by kernel_rfl) (fun o ho => load_val rfl (five_kept h XA6.out) ho)) ?_
            try simp only [Act.put, List.setIfInBounds_toArray, List.set_cons_zero, List.set_cons_succ]
            refine held_call 6 51 16 #[.agg #[.int .i64 t2.kind, .int .i64 t2.n, .int .i64 t2.x, .string t2.s, .slice a2 n2 c2], .agg #[.int .i64 t1.kind, .int .i64 t1.n, .int .i64 t1.x, .string t1.s, .slice a1 n1 c1]] (by kernel_rfl) (by kernel_rfl) (by kernel_rfl) (fun _ => by kernel_rfl) ((R3.out _ d1).mono ?_)
            rintro _ v2 ⟨rfl, b2⟩
            have d2 := nx d1 b2
            clear b2
            refine ⟨_, rfl, d2, ?_⟩
            try simp only [Act.put, List.setIfInBounds_toArray, List.set_cons_zero, List.set_cons_succ]
            refine held_do 7 52 (.bool true) (by kernel_rfl) (by kernel_rfl) (by kernel_rfl) (fun _ _ _ h => h) (by kernel_rfl) (by kernel_rfl) d2 (fun ww _ => by kernel_rfl) ?_
            try simp only [Act.put, List.setIfInBounds_toArray, List.set_cons_zero, List.set_cons_succ]
            refine held_call 10 55 72 #[.agg #[.int .i64 t1.kind, .int .i64 t1.n, .int .i64 t1.x, .string t1.s, .slice a1 n1 c1], .agg #[.int .i64 t2.kind, .int .i64 t2.n, .int .i64 t2.x, .string t2.s, .slice a2 n2 c2]] (by kernel_rfl) (by kernel_rfl) (by kernel_rfl) (fun _ => by kernel_rfl) ((R5.out _ d2).mono ?_)
            rintro _ v3 ⟨rfl, b3⟩
            have d3 := nx d2 b3
            clear b3
            refine ⟨_, rfl, d3, ?_⟩
            try simp only [Act.put, List.setIfInBounds_toArray, List.set_cons_zero, List.set_cons_succ]
            refine held_do 11 56 (.bool true) (by kernel_rfl) (by kernel_rfl) (by kernel_rfl) (fun _ _ _ h => h) (by kernel_rfl) (by kernel_rfl) d3 (fun ww _ => by kernel_rfl) ?_
            try simp only [Act.put, List.setIfInBounds_toArray, List.set_cons_zero, List.set_cons_succ]
            refine held_do 12 2 (.bool true) (by kernel_rfl) (by kernel_rfl) (by kernel_rfl) (fun _ _ _ h => h) (by kernel_rfl) (by kernel_rfl) d3 (fun ww _ => by kernel_rfl) ?_
            try simp only [Act.put, List.setIfInBounds_toArray, List.set_cons_zero, List.set_cons_succ]
            refine wpAnyH_done (by kernel_rfl) ?_ _
            obtain ⟨w7, hw7⟩ : ∃ wx, wx = v3 := ⟨_, rfl⟩
            have XA7 : Hid (w7.heap[w1.heap.size]? = some (.cells #[.int .i64 t1.kind, .int .i64 t1.n, .int .i64 t1.x, .string t1.s, .slice a1 n1 c1] 29 (0, 0))) := Lib.hid (by rw [hw7]; exact box_below XA6.out d3)
            have XB7 : Hid (w7.heap[(w1.heap.size + 1)]? = some (.cells #[.int .i64 t2.kind, .int .i64 t2.n, .int .i64 t2.x, .string t2.s, .slice a2 n2 c2] 29 (0, 0))) := Lib.hid (by rw [hw7]; exact box_below XB6.out d3)
            have XU7 : Hid (w7.heap[w2.heap.size]? = some (.cells #[.int .i64 t3.kind, .int .i64 t3.n, .int .i64 t3.x, .string t3.s, .slice a3 n3 c3] 29 (0, 0))) := Lib.hid (by rw [hw7]; exact box_below XU6.out d3)
            have TSA7 := Lib.hid (show TSl w7 _ _ by rw [hw7]; exact TSl.kept d3 TSA6.out)
            have TSB7 := Lib.hid (show TSl w7 _ _ by rw [hw7]; exact TSl.kept d3 TSB6.out)
            have TSU7 := Lib.hid (show TSl w7 _ _ by rw [hw7]; exact TSl.kept d3 TSU6.out)
            have T7 := Lib.hid (show Below w.heap.size w w7 by rw [hw7]; exact nx T6.out d3)
            rw [← hw7]
            clear d3 d2 d1 d0 hw7
            go_wp2_with fail
            go_ret
            exact ⟨rfl, T7.out⟩
          | false =>
            obtain rfl : E = true := by cases E with | true => rfl | false => simp at hon
            clear hon
            have d0 : Below w6.heap.size w6 w6.drew := (Below.refl _ _).drew
            refine wp_region_held_drew (S := fun ww => Below w6.heap.size w6 ww) (by kernel_rfl) d0 (fun _ => ?_)
            refine held_do 0 45 (.agg #[.int .i64 t1.kind, .int .i64 t1.n, .int .i64 t1.x, .string t1.s, .slice a1 n1 c1]) (by kernel_rfl) (by kernel_rfl) (by kernel_rfl) (fun _ _ _ h => h) (by kernel_rfl) (by kernel_rfl) d0 (fun ww h => run_of (op := .load 29 (.tmp 3)) (by kernel_rfl) (fun o ho => load_val rfl (five_kept h XA6.out) ho)) ?_
            try simp only [Act.put, List.setIfInBounds_toArray, List.set_cons_zero, List.set_cons_succ]
            refine held_do 1 46 (.agg #[.int .i64 t2.kind, .int .i64 t2.n, .int .i64 t2.x, .string t2.s, .slice a2 n2 c2]) (by kernel_rfl) (by kernel_rfl) (by kernel_rfl) (fun _ _ _ h => h) (by kernel_rfl) (by kernel_rfl) d0 (fun ww h => run_of (op := .load 29 (.tmp 4)) (by kernel_rfl) (fun o ho => load_val rfl (five_kept h XB6.out) ho)) ?_
            try simp only [Act.put, List.setIfInBounds_toArray, List.set_cons_zero, List.set_cons_succ]
            refine held_do 8 53 (.agg #[.int .i64 t1.kind, .int .i64 t1.n, .int .i64 t1.x, .string t1.s, .slice a1 n1 c1]) (by kernel_rfl) (by kernel_rfl) (by kernel_rfl) (fun _ _ _ h => h) (by kernel_rfl) (by kernel_rfl) d0 (fun ww h => run_of (op := .load 29 (.tmp 3)) (by kernel_rfl) (fun o ho => load_val rfl (five_kept h XA6.out) ho)) ?_
            try simp only [Act.put, List.setIfInBounds_toArray, List.set_cons_zero, List.set_cons_succ]
            refine held_do 9 54 (.agg #[.int .i64 t2.kind, .int .i64 t2.n, .int .i64 t2.x, .string t2.s, .slice a2 n2 c2]) (by kernel_rfl) (by kernel_rfl) (by kernel_rfl) (fun _ _ _ h => h) (by kernel_rfl) (by kernel_rfl) d0 (fun ww h => run_of (op := .load 29 (.tmp 4)) (by kernel_rfl) (fun o ho => load_val rfl (five_kept h XB6.out) ho)) ?_
            try simp only [Act.put, List.setIfInBounds_toArray, List.set_cons_zero, List.set_cons_succ]
            refine held_call 2 47 16 #[.agg #[.int .i64 t1.kind, .int .i64 t1.n, .int .i64 t1.x, .string t1.s, .slice a1 n1 c1], .agg #[.int .i64 t2.kind, .int .i64 t2.n, .int .i64 t2.x, .string t2.s, .slice a2 n2 c2]] (by kernel_rfl) (by kernel_rfl) (by kernel_rfl) (fun _ => by kernel_rfl) ((R1.out _ d0).mono ?_)
            rintro _ v1 ⟨rfl, b1⟩
            have d1 := nx d0 b1
            clear b1
            refine ⟨_, rfl, d1, ?_⟩
            try simp only [Act.put, List.setIfInBounds_toArray, List.set_cons_zero, List.set_cons_succ]
            refine held_do 3 48 (.bool false) (by kernel_rfl) (by kernel_rfl) (by kernel_rfl) (fun _ _ _ h => h) (by kernel_rfl) (by kernel_rfl) d1 (fun ww _ => by kernel_rfl) ?_
            try simp only [Act.put, List.setIfInBounds_toArray, List.set_cons_zero, List.set_cons_succ]
            refine held_do 4 49 (.agg #[.int .i64 t2.kind, .int .i64 t2.n, .int .i64 t2.x, .string t2.s, .slice a2 n2 c2]) (by kernel_rfl) (by kernel_rfl) (by kernel_rfl) (fun _ _ _ h => h) (by kernel_rfl) (by kernel_rfl) d1 (fun ww h => run_of (op := .load 29 (.tmp 4)) (by kernel_rfl) (fun o ho => load_val rfl (five_kept h XB6.out) ho)) ?_
            try simp only [Act.put, List.setIfInBounds_toArray, List.set_cons_zero, List.set_cons_succ]
            refine held_do 5 50 (.agg #[.int .i64 t1.kind, .int .i64 t1.n, .int .i64 t1.x, .string t1.s, .slice a1 n1 c1]) (by kernel_rfl) (by kernel_rfl) (by kernel_rfl) (fun _ _ _ h => h) (by kernel_rfl) (by kernel_rfl) d1 (fun ww h => run_of (op := .load 29 (.tmp 3)) (by kernel_rfl) (fun o ho => load_val rfl (five_kept h XA6.out) ho)) ?_
            try simp only [Act.put, List.setIfInBounds_toArray, List.set_cons_zero, List.set_cons_succ]
            refine held_call 6 51 16 #[.agg #[.int .i64 t2.kind, .int .i64 t2.n, .int .i64 t2.x, .string t2.s, .slice a2 n2 c2], .agg #[.int .i64 t1.kind, .int .i64 t1.n, .int .i64 t1.x, .string t1.s, .slice a1 n1 c1]] (by kernel_rfl) (by kernel_rfl) (by kernel_rfl) (fun _ => by kernel_rfl) ((R3.out _ d1).mono ?_)
            rintro _ v2 ⟨rfl, b2⟩
            have d2 := nx d1 b2
            clear b2
            refine ⟨_, rfl, d2, ?_⟩
            try simp only [Act.put, List.setIfInBounds_toArray, List.set_cons_zero, List.set_cons_succ]
            refine held_do 7 52 (.bool false) (by kernel_rfl) (by kernel_rfl) (by kernel_rfl) (fun _ _ _ h => h) (by kernel_rfl) (by kernel_rfl) d2 (fun ww _ => by kernel_rfl) ?_
            try simp only [Act.put, List.setIfInBounds_toArray, List.set_cons_zero, List.set_cons_succ]
            refine held_call 10 55 72 #[.agg #[.int .i64 t1.kind, .int .i64 t1.n, .int .i64 t1.x, .string t1.s, .slice a1 n1 c1], .agg #[.int .i64 t2.kind, .int .i64 t2.n, .int .i64 t2.x, .string t2.s, .slice a2 n2 c2]] (by kernel_rfl) (by kernel_rfl) (by kernel_rfl) (fun _ => by kernel_rfl) ((R5.out _ d2).mono ?_)
            rintro _ v3 ⟨rfl, b3⟩
            have d3 := nx d2 b3
            clear b3
            refine ⟨_, rfl, d3, ?_⟩
            try simp only [Act.put, List.setIfInBounds_toArray, List.set_cons_zero, List.set_cons_succ]
            refine held_do 11 56 (.bool true) (by kernel_rfl) (by kernel_rfl) (by kernel_rfl) (fun _ _ _ h => h) (by kernel_rfl) (by kernel_rfl) d3 (fun ww _ => by kernel_rfl) ?_
            try simp only [Act.put, List.setIfInBounds_toArray, List.set_cons_zero, List.set_cons_succ]
            refine held_do 12 2 (.bool true) (by kernel_rfl) (by kernel_rfl) (by kernel_rfl) (fun _ _ _ h => h) (by kernel_rfl) (by kernel_rfl) d3 (fun ww _ => by kernel_rfl) ?_
            try simp only [Act.put, List.setIfInBounds_toArray, List.set_cons_zero, List.set_cons_succ]
            refine wpAnyH_done (by kernel_rfl) ?_ _
            obtain ⟨w7, hw7⟩ : ∃ wx, wx = v3 := ⟨_, rfl⟩
            have XA7 : Hid (w7.heap[w1.heap.size]? = some (.cells #[.int .i64 t1.kind, .int .i64 t1.n, .int .i64 t1.x, .string t1.s, .slice a1 n1 c1] 29 (0, 0))) := Lib.hid (by rw [hw7]; exact box_below XA6.out d3)
            have XB7 : Hid (w7.heap[(w1.heap.size + 1)]? = some (.cells #[.int .i64 t2.kind, .int .i64 t2.n, .int .i64 t2.x, .string t2.s, .slice a2 n2 c2] 29 (0, 0))) := Lib.hid (by rw [hw7]; exact box_below XB6.out d3)
            have XU7 : Hid (w7.heap[w2.heap.size]? = some (.cells #[.int .i64 t3.kind, .int .i64 t3.n, .int .i64 t3.x, .string t3.s, .slice a3 n3 c3] 29 (0, 0))) := Lib.hid (by rw [hw7]; exact box_below XU6.out d3)
            have TSA7 := Lib.hid (show TSl w7 _ _ by rw [hw7]; exact TSl.kept d3 TSA6.out)
            have TSB7 := Lib.hid (show TSl w7 _ _ by rw [hw7]; exact TSl.kept d3 TSB6.out)
            have TSU7 := Lib.hid (show TSl w7 _ _ by rw [hw7]; exact TSl.kept d3 TSU6.out)
            have T7 := Lib.hid (show Below w.heap.size w w7 by rw [hw7]; exact nx T6.out d3)
            rw [← hw7]
            clear d3 d2 d1 d0 hw7
            go_wp2_with fail
            go_ret
            exact ⟨rfl, T7.out⟩
namespace fnOrders
set_option maxRecDepth 100000 in
theorem walk : LawWalkX (fun W => LaidP W ∧ LaidU W) 12 Tryd.f12 := by
  intro H enc W base args ds p hval0 hA0 hL
  have hval : ∀ (j : Nat) t v, Tryd.f12.params[j]? = some t → args[j]? = some v → Value.okWide Tryd.prog W .any base t v := hval0
  have hA : DataW.TrodAll enc Tryd.prog W 0 (fun _ => true) true Tryd.f12.params.toList args.toList ds p := hA0
  clear hval0 hA0
  rw [Tryd.params12] at hA hval
  obtain ⟨v0, vs0, d0, ds0, p0, q0, hargs, rfl, rfl, h0, r0⟩ := trodAll_cons hA
  obtain ⟨rfl, rfl, rfl⟩ := trodAll_nil r0
  obtain rfl : args = #[v0] := by cases args; simp_all
  obtain ⟨a0, len0, cap0, rfl⟩ := okWide_slice Tryd.underlying39 (hval 0 39 v0 rfl rfl)
  obtain ⟨z0, rfl, w0, x0, y0, m0⟩ := open_ints_rd Tryd.underlying39 Tryd.underlying5 (by kernel_rfl) h0
  exact fnOrders_law a0 cap0 z0 W hL w0 x0 y0 m0
theorem laid_met (os : Os) : laidMet Tryd.prog Rows.fnOrdersRow.laid ((laidWorld os).forCall (fun _ _ => 0) ⟨#[], #[.slice none 0 0], []⟩).memory :=
  laidMet_of_run' 8 (by kernel_rfl) (by kernel_rfl)
theorem reads (os : Os) {H : Type} (enc : TypeId × Value → H) : ∃ places, DataW.whole enc Tryd.prog ((laidWorld os).forCall (fun _ _ => 0) ⟨#[], #[.slice none 0 0], []⟩).memory Tryd.f12.params.toList Rows.fnOrdersSpec.vars false (#[Value.slice none 0 0] : Array Value).toList 8 = some ([.nil], [], places) :=
  ⟨[], by kernel_rfl⟩
set_option maxRecDepth 100000 in
theorem lifted (os : Os) (started : os.Started) (H : Type) (enc : TypeId × Value → H) (F : Stop.Interp) :
    ReturnsInHanded {} Tryd.checked os 12 .any ((OpenSpec.ofChange Rows.fnOrdersSpec).preRow enc Tryd.prog Tryd.f12 Rows.fnOrdersRow.domain false Rows.fnOrdersRow.laid) (((OpenSpec.ofChange Rows.fnOrdersSpec).at F).post enc Tryd.prog Tryd.f12 false true false false) := by
  obtain ⟨places, hx⟩ := reads os enc
  refine returnsInHanded_of_row (C := Tryd.checked) (s := OpenSpec.ofChange Rows.fnOrdersSpec) own started (by kernel_rfl) Tryd.func12
    (witness_row_at (enc := enc) (C := Tryd.checked) false (laidWorld os) #[.slice none 0 0] rfl (by kernel_rfl) (by kernel_rfl) (by kernel_rfl)
      (OpenSpec.preRow_of_cond 8 hx (by kernel_rfl) (fun k hk => by cases hk) (by kernel_rfl) (laid_met os))) ?_
  intro W base args ds gs before hval hW _ _ _ hL _ _
  exact law_contractX (fun W => LaidP W ∧ LaidU W) 12 Tryd.f12 Rows.fnOrdersSpec H enc rfl rfl (by kernel_rfl) (fun ds h => by match ds, h with | [_], _ => rfl) walk W base args ds gs before hval hW ⟨laidP_of hL (by simp [Rows.fnOrdersRow]), laidU_of hL (by simp [Rows.fnOrdersRow])⟩
theorem said : Rows.FnOrdersSaid :=
  OpenClaim.holds_of_cond 12 Tryd.f12 rfl rfl rfl rfl rfl rfl rfl ⟨rfl, rfl, rfl, rfl, rfl⟩ rfl rfl rfl rfl rfl (by kernel_rfl) Tryd.func12 (by kernel_rfl)
    (of_decide_eq_true (by kernel_rfl)) (by unfold Func.isWrapper; first | (rw [if_pos (by decide +kernel)]; kernel_rfl) | (rw [if_neg (by decide +kernel)]; exact ⟨rfl, rfl⟩))
    (fun os started H enc _ F => by rw [OpenClaim.pre_eq_preRow]; exact lifted os started H enc F)
theorem plain (f : FuncId) (fn : Func) (hf : Tryd.pinned.checked.prog.funcNamed "loop.example/g00502/laws.FnOrders" = some f) (hfn : Tryd.pinned.checked.prog.funcs[f]? = some fn) :
    true = Tryd.pinned.checked.prog.looks [] ∧ ∀ (j : Nat) t, fn.params[j]? = some t → Tryd.pinned.checked.prog.wantsStandIn t = false := by
  obtain rfl : f = 12 := Option.some.inj ((show Tryd.prog.funcNamed "loop.example/g00502/laws.FnOrders" = some 12 by kernel_rfl).symm.trans hf) |>.symm
  obtain rfl : fn = Tryd.f12 := (Option.some.inj (Tryd.func12.symm.trans hfn)).symm
  refine ⟨by kernel_rfl, fun j t ht => ?_⟩
  have hall : Tryd.f12.params.toList.all (fun t => !Tryd.pinned.checked.prog.wantsStandIn t) = true := by kernel_rfl
  have hm := List.all_eq_true.1 hall t (by simpa using Array.mem_of_getElem? ht)
  simpa using hm
theorem proved : Rows.FnOrdersCardSaid :=
  Claim7.holds_tied_plain_at .later [] _ _ _ _ said (fun _ h => by cases h) (by kernel_rfl) (fun _ h => by cases h) fnOrders_row_tie rfl ⟨rfl, rfl⟩ (by kernel_rfl) rfl plain (by kernel_rfl)
#print axioms proved
end fnOrders
end Go.Proofs.YtilmhemcpgiikaaDoor
