/- FnReads: a number that stands in a text is read as far as it goes; of two numbers that are not the same just one is less. -/
import Derived.Test.YtilmhemcpgiikaaDoorDDecT
import Derived.Test.YtilmhemcpgiikaaDoorDSame
import Derived.Test.YtilmhemcpgiikaaDoorMReadZ
import Derived.Test.YtilmhemcpgiikaaDoorCReadI
import Derived.Test.YtilmhemcpgiikaaDoorCLess
import Derived.Test.YtilmhemcpgiikaaDoorHeld
import Derived.Deep.RegionHeld3
import Derived.Deep.RegionWith
import Derived.Deep.DeepCutAuto
namespace Go.Proofs.YtilmhemcpgiikaaDoor
open Go.Deep Go.ChangeShapes Go.WideShapes Go.ChangeAt Go.RowKit
open Go.ChangeMaps (open_string shut_string)

set_option maxRecDepth 100000 in
set_option maxHeartbeats 40000000 in
theorem fnReads_law (a : Option Addr) (cap : Nat) (zs : List Int) (w : World) (hL : LaidP w ∧ LaidE w) (hr : Rd w .u8 a zs) (hw : ∀ n ∈ zs, (Lit.int .u8 n).wf = true) (hcap : zs.length ≤ cap) (_hm : cap ≤ maxLen) :
    Calls Tryd.prog 8 #[.slice a zs.length cap] w fun e w' => e = .returned (.bool true) ∧ Below w.heap.size w w' := by
  have HR := Lib.hid hr; clear hr
  have HW := Lib.hid hw; clear hw
  have LA := Lib.hid hL; clear hL
  have Hlen := Lib.hid (show zs.length ≤ 9223372036854775807 by unfold maxLen at _hm; omega)
  cases hbig : decide ((1048576 : Int) < (zs.length : Int)) with
  | true =>
    have HB := Lib.hid hbig; clear hbig
    go_enter Tryd.func8, Tryd.ntmps8
    go_wp2_with fail
    refine (big_c _ _ _ _).mono ?_
    rintro _ _ ⟨rfl, rfl⟩
    rw [HB.out]
    go_wp2_with fail
    go_ret
    exact ⟨rfl, Below.refl _ _⟩
  | false =>
    have hlen : zs.length ≤ 1048576 := by have := of_decide_eq_false hbig; omega
    have HB := Lib.hid hbig; clear hbig
    go_enter Tryd.func8, Tryd.ntmps8
    go_wp2_with fail
    refine (big_c _ _ _ _).mono ?_
    rintro _ _ ⟨rfl, rfl⟩
    rw [HB.out]
    go_wp2_with fail
    refine (drawReadNumber_c zs a cap _ (by exact rd_kept (Below.refl w.heap.size w) HR.out) HW.out hlen hcap).mono ?_
    rintro _ w1 ⟨⟨S, p, rfl, hS, hp1, hp2⟩, b'⟩
    have T1 := Lib.hid (nx (Below.refl w.heap.size w) b'); clear b'
    have HSZ := Lib.hid hS; clear hS
    have HAG := Lib.hid (fun (x y z : Int) => rn_again (l := S.data.toList) (p := p) (n := x) (x := y) (z := z))
    have HNO := Lib.hid (rn_no (l := S.data.toList) (p := p))
    have HLN := Lib.hid (str_len S)
    have hri := fun ww (hL : LaidE ww) => readNumber_impl S p ww (by have := HSZ.out; omega) hL
    have hrs := fun ww => readNumber_spec S p ww (by have := HSZ.out; omega)
    have HZQ := Lib.hid (fun (x y z : Int) => rnF_z (l := S.data.toList) (p := p) (n := x) (x := y) (z := z))
    obtain ⟨⟨n, x, z, c⟩, hR⟩ : ∃ R : Int × Int × Int × Int, rnF S.data.toList p = R := ⟨_, rfl⟩
    have HRR := Lib.hid hR
    rw [hR] at hri hrs HNO
    clear hR
    unfold rnV at hri hrs
    dsimp only at hri hrs
    have HRI := Lib.hid hri; have HRS := Lib.hid hrs; clear hri hrs
    go_wp2_with fail
    refine (HRI.out _ (LA.out.2.kept T1.out)).mono ?_
    rintro _ w2 ⟨rfl, b'⟩
    have T2 := Lib.hid (nx T1.out b'); clear b'
    go_wp2_with fail
    refine (HRS.out _).mono ?_
    rintro _ _ ⟨rfl, rfl⟩
    go_wp2_with fail
    refine (drawLessDec_c zs a cap _ (by exact rd_kept T2.out HR.out) HW.out hlen hcap).mono ?_
    rintro _ w3 ⟨⟨n1, x1, n2, x2, rfl, h1, h2⟩, b'⟩
    have T3 := Lib.hid (nx T2.out b'); clear b'
    have W1 := Lib.hid h1; have W2 := Lib.hid h2; clear h1 h2
    obtain ⟨w4, hw4⟩ : ∃ wx, wx = ((w3.alloc (.cells #[.int .i64 n1, .int .i64 x1] 42)).alloc (.cells #[.int .i64 n2, .int .i64 x2] 42)) := ⟨_, rfl⟩
    have XA4 : Hid (w4.heap[w3.heap.size]? = some (.cells #[.int .i64 n1, .int .i64 x1] 42 (0, 0))) := Lib.hid (by rw [hw4]; exact (first_block _ _ _))
    have XB4 : Hid (w4.heap[(w3.heap.size + 1)]? = some (.cells #[.int .i64 n2, .int .i64 x2] 42 (0, 0))) := Lib.hid (by rw [hw4]; exact (second_block2 _ _ _))
    have T4 := Lib.hid (show Below w.heap.size w w4 by rw [hw4]; exact (below_alloc (below_alloc T3.out _) _))
    go_wp2_with fail
    rw [← hw4]
    clear hw4
    have hli := fun ww (hL : LaidP ww) => lessDec_impl n1 x1 n2 x2 ww hL W1.out.1.1 W1.out.1.2 W2.out.1.1 W2.out.1.2
    have hls := fun ww => lessDec_spec n1 x1 n2 x2 ww W1.out.1.1 W1.out.1.2 W2.out.1.1 W2.out.1.2
    obtain ⟨L1, hL1⟩ : ∃ q, lessDecB n1 x1 n2 x2 = q := ⟨_, rfl⟩
    rw [hL1] at hli hls
    have HIL1 := Lib.hid hli; have HSL1 := Lib.hid hls; clear hli hls
    have hli := fun ww (hL : LaidP ww) => lessDec_impl n2 x2 n1 x1 ww hL W2.out.1.1 W2.out.1.2 W1.out.1.1 W1.out.1.2
    have hls := fun ww => lessDec_spec n2 x2 n1 x1 ww W2.out.1.1 W2.out.1.2 W1.out.1.1 W1.out.1.2
    obtain ⟨L2, hL2⟩ : ∃ q, lessDecB n2 x2 n1 x1 = q := ⟨_, rfl⟩
    rw [hL2] at hli hls
    have HIL2 := Lib.hid hli; have HSL2 := Lib.hid hls; clear hli hls
    have hone := fun h h' => less_one (n := n1) (x := x1) (m := n2) (y := x2) h h'
    have hboth := less_both (n := n1) (x := x1) (m := n2) (y := x2)
    rw [hL1, hL2] at hone hboth
    have hoi := fun ww (hL : LaidP ww) => decOk_impl n1 x1 ww hL W1.out.1.1 W1.out.1.2
    obtain ⟨K1, hK1⟩ : ∃ q, decOkB n1 x1 = q := ⟨_, rfl⟩
    rw [hK1] at hoi hone
    have HOK1 := Lib.hid hoi; clear hoi hK1
    have hoi := fun ww (hL : LaidP ww) => decOk_impl n2 x2 ww hL W2.out.1.1 W2.out.1.2
    obtain ⟨K2, hK2⟩ : ∃ q, decOkB n2 x2 = q := ⟨_, rfl⟩
    rw [hK2] at hoi hone
    have HOK2 := Lib.hid hoi; clear hoi hK2
    have HONE := Lib.hid hone; have HBOTH := Lib.hid hboth; clear hone hboth hL1 hL2
    have P1 := Lib.hid (fun ww (hb : Below w4.heap.size w4 ww) => LA.out.1.kept (nx T4.out hb))
    have R1 := Lib.hid (fun ww (hb : Below w4.heap.size w4 ww) => HIL1.out ww (P1.out ww hb))
    have R2 := Lib.hid (fun ww (_ : Below w4.heap.size w4 ww) => HSL1.out ww)
    have hq1 : (n != n) = false := by simp
    have hq2 : (x != x) = false := by simp
    have hq3 : (z != z) = false := by simp
    have hq4 : (c != c) = false := by simp
    have hq5 : (L1 != L1) = false := by simp
    have HK4 : Hid (∀ ww, Below w4.heap.size w4 ww → (ww.cell? ⟨w3.heap.size, 0, none⟩ = some (.int .i64 n1) ∧ ww.cell? ⟨w3.heap.size, 1, none⟩ = some (.int .i64 x1)) ∧ (ww.cell? ⟨(w3.heap.size + 1), 0, none⟩ = some (.int .i64 n2) ∧ ww.cell? ⟨(w3.heap.size + 1), 1, none⟩ = some (.int .i64 x2))) := Lib.hid (fun ww hb => ⟨⟨(two_num hb XA4.out).1, (two_num hb XA4.out).2.1⟩, ⟨(two_num hb XB4.out).1, (two_num hb XB4.out).2.1⟩⟩)
    have d0 : Below w4.heap.size w4 w4.drew := (Below.refl _ _).drew
    have tok0 : True := trivial
    (first | (go_region_held3 (fun ww => (ww.cell? ⟨w3.heap.size, 0, none⟩ = some (.int .i64 n1) ∧ ww.cell? ⟨w3.heap.size, 1, none⟩ = some (.int .i64 x1)) ∧ (ww.cell? ⟨(w3.heap.size + 1), 0, none⟩ = some (.int .i64 n2) ∧ ww.cell? ⟨(w3.heap.size + 1), 1, none⟩ = some (.int .i64 x2))) (first | with_reducible exact HK4.out _ d2 | with_reducible exact HK4.out _ d1 | with_reducible exact HK4.out _ d0)
      (first
       | (go_at_call 37; have tk := tok0; (with_reducible refine (R1.out _ d0).mono ?_); rintro _ v1 ⟨rfl, b1⟩; have d1 := nx d0 b1; clear tok0 tk; have tok1 : True := trivial)
       | (go_at_call 38; have tk := tok1; (with_reducible refine (R2.out _ d1).mono ?_); rintro _ v2 ⟨rfl, b2⟩; have d2 := nx d1 b2; clear tok1 tk; have tok2 : True := trivial))) | fail)
    all_goals
      obtain ⟨w5, hw5⟩ : ∃ wx, wx = v2 := ⟨_, rfl⟩
      have XA5 : Hid (w5.heap[w3.heap.size]? = some (.cells #[.int .i64 n1, .int .i64 x1] 42 (0, 0))) := Lib.hid (by rw [hw5]; exact box_below XA4.out d2)
      have XB5 : Hid (w5.heap[(w3.heap.size + 1)]? = some (.cells #[.int .i64 n2, .int .i64 x2] 42 (0, 0))) := Lib.hid (by rw [hw5]; exact box_below XB4.out d2)
      have T5 := Lib.hid (show Below w.heap.size w w5 by rw [hw5]; exact nx T4.out d2)
      rw [← hw5]
      clear d2 d1 d0 tok2 hw5
      clear R1 R2 P1 hq1 hq2 hq3 hq4 hq5
      go_upto_region 9 with fail
      go_cut [93] (fun s93 wx => s93 = .bool false ∧ Below w5.heap.size w5 wx)
      case first =>
        have P1 := Lib.hid (fun ww (hb : Below w5.heap.size w5 ww) => LA.out.1.kept (nx T5.out hb))
        have Q1 := Lib.hid (fun ww (hb : Below w5.heap.size w5 ww) => HOK1.out ww (P1.out ww hb)); have Q2 := Lib.hid (fun ww (hb : Below w5.heap.size w5 ww) => HOK2.out ww (P1.out ww hb))
        have Q3 := Lib.hid (fun ww (hb : Below w5.heap.size w5 ww) => HIL1.out ww (P1.out ww hb)); have Q4 := Lib.hid (fun ww (hb : Below w5.heap.size w5 ww) => HIL2.out ww (P1.out ww hb))
        cases K1 with
        | false =>
          have d0 : Below w5.heap.size w5 w5.drew := (Below.refl _ _).drew
          refine wp_region_held_drew (S := fun ww => Below w5.heap.size w5 ww) (by kernel_rfl) d0 (fun _ => ?_)
          refine held_do 0 74 (.agg #[.int .i64 n1, .int .i64 x1]) (by kernel_rfl) (by kernel_rfl) (by kernel_rfl) (fun _ _ _ h => h) (by kernel_rfl) (by kernel_rfl) d0 (fun ww h => run_of (op := .load 42 (.tmp 13)) (by kernel_rfl) (fun o ho => load_dec rfl (two_num h XA5.out) ho)) ?_
          try simp only [Act.put, List.setIfInBounds_toArray, List.set_cons_zero, List.set_cons_succ]
          refine held_call 1 75 33 #[.agg #[.int .i64 n1, .int .i64 x1]] (by kernel_rfl) (by kernel_rfl) (by kernel_rfl) (fun _ => by kernel_rfl) ((Q1.out _ d0).mono ?_)
          rintro _ v1 ⟨rfl, b1⟩
          have d1 := nx d0 b1
          clear b1
          refine ⟨_, rfl, d1, ?_⟩
          try simp only [Act.put, List.setIfInBounds_toArray, List.set_cons_zero, List.set_cons_succ]
          refine held_do 2 76 (.bool false) (by kernel_rfl) (by kernel_rfl) (by kernel_rfl) (fun _ _ _ h => h) (by kernel_rfl) (by kernel_rfl) d1 (fun ww _ => by kernel_rfl) ?_
          try simp only [Act.put, List.setIfInBounds_toArray, List.set_cons_zero, List.set_cons_succ]
          refine held_skip 3 77 (by kernel_rfl) (by kernel_rfl) (by kernel_rfl) (fun _ _ _ h => h) (by kernel_rfl) (by kernel_rfl) d1 ?_
          try simp only [Act.put, List.setIfInBounds_toArray, List.set_cons_zero, List.set_cons_succ]
          refine held_skip 4 78 (by kernel_rfl) (by kernel_rfl) (by kernel_rfl) (fun _ _ _ h => h) (by kernel_rfl) (by kernel_rfl) d1 ?_
          try simp only [Act.put, List.setIfInBounds_toArray, List.set_cons_zero, List.set_cons_succ]
          refine held_do 5 79 (.bool false) (by kernel_rfl) (by kernel_rfl) (by kernel_rfl) (fun _ _ _ h => h) (by kernel_rfl) (by kernel_rfl) d1 (fun ww _ => by kernel_rfl) ?_
          try simp only [Act.put, List.setIfInBounds_toArray, List.set_cons_zero, List.set_cons_succ]
          refine held_do 6 80 (.bool false) (by kernel_rfl) (by kernel_rfl) (by kernel_rfl) (fun _ _ _ h => h) (by kernel_rfl) (by kernel_rfl) d1 (fun ww _ => by kernel_rfl) ?_
          try simp only [Act.put, List.setIfInBounds_toArray, List.set_cons_zero, List.set_cons_succ]
          refine held_skip 7 81 (by kernel_rfl) (by kernel_rfl) (by kernel_rfl) (fun _ _ _ h => h) (by kernel_rfl) (by kernel_rfl) d1 ?_
          try simp only [Act.put, List.setIfInBounds_toArray, List.set_cons_zero, List.set_cons_succ]
          refine held_skip 8 82 (by kernel_rfl) (by kernel_rfl) (by kernel_rfl) (fun _ _ _ h => h) (by kernel_rfl) (by kernel_rfl) d1 ?_
          try simp only [Act.put, List.setIfInBounds_toArray, List.set_cons_zero, List.set_cons_succ]
          refine held_skip 9 83 (by kernel_rfl) (by kernel_rfl) (by kernel_rfl) (fun _ _ _ h => h) (by kernel_rfl) (by kernel_rfl) d1 ?_
          try simp only [Act.put, List.setIfInBounds_toArray, List.set_cons_zero, List.set_cons_succ]
          refine held_skip 10 84 (by kernel_rfl) (by kernel_rfl) (by kernel_rfl) (fun _ _ _ h => h) (by kernel_rfl) (by kernel_rfl) d1 ?_
          try simp only [Act.put, List.setIfInBounds_toArray, List.set_cons_zero, List.set_cons_succ]
          refine held_skip 11 85 (by kernel_rfl) (by kernel_rfl) (by kernel_rfl) (fun _ _ _ h => h) (by kernel_rfl) (by kernel_rfl) d1 ?_
          try simp only [Act.put, List.setIfInBounds_toArray, List.set_cons_zero, List.set_cons_succ]
          refine held_skip 12 86 (by kernel_rfl) (by kernel_rfl) (by kernel_rfl) (fun _ _ _ h => h) (by kernel_rfl) (by kernel_rfl) d1 ?_
          try simp only [Act.put, List.setIfInBounds_toArray, List.set_cons_zero, List.set_cons_succ]
          refine held_skip 13 87 (by kernel_rfl) (by kernel_rfl) (by kernel_rfl) (fun _ _ _ h => h) (by kernel_rfl) (by kernel_rfl) d1 ?_
          try simp only [Act.put, List.setIfInBounds_toArray, List.set_cons_zero, List.set_cons_succ]
          refine held_skip 14 88 (by kernel_rfl) (by kernel_rfl) (by kernel_rfl) (fun _ _ _ h => h) (by kernel_rfl) (by kernel_rfl) d1 ?_
          try simp only [Act.put, List.setIfInBounds_toArray, List.set_cons_zero, List.set_cons_succ]
          refine held_skip 15 89 (by kernel_rfl) (by kernel_rfl) (by kernel_rfl) (fun _ _ _ h => h) (by kernel_rfl) (by kernel_rfl) d1 ?_
          try simp only [Act.put, List.setIfInBounds_toArray, List.set_cons_zero, List.set_cons_succ]
          refine held_skip 16 90 (by kernel_rfl) (by kernel_rfl) (by kernel_rfl) (fun _ _ _ h => h) (by kernel_rfl) (by kernel_rfl) d1 ?_
          try simp only [Act.put, List.setIfInBounds_toArray, List.set_cons_zero, List.set_cons_succ]
          refine held_skip 17 91 (by kernel_rfl) (by kernel_rfl) (by kernel_rfl) (fun _ _ _ h => h) (by kernel_rfl) (by kernel_rfl) d1 ?_
          try simp only [Act.put, List.setIfInBounds_toArray, List.set_cons_zero, List.set_cons_succ]
          refine held_skip 18 92 (by kernel_rfl) (by kernel_rfl) (by kernel_rfl) (fun _ _ _ h => h) (by kernel_rfl) (by kernel_rfl) d1 ?_
          try simp only [Act.put, List.setIfInBounds_toArray, List.set_cons_zero, List.set_cons_succ]
          refine held_do 19 93 (.bool false) (by kernel_rfl) (by kernel_rfl) (by kernel_rfl) (fun _ _ _ h => h) (by kernel_rfl) (by kernel_rfl) d1 (fun ww _ => by kernel_rfl) ?_
          try simp only [Act.put, List.setIfInBounds_toArray, List.set_cons_zero, List.set_cons_succ]
          refine wpAnyH_done (by kernel_rfl) ?_ _
          obtain ⟨w6, hw6⟩ : ∃ wx, wx = v1 := ⟨_, rfl⟩
          have XA6 : Hid (w6.heap[w3.heap.size]? = some (.cells #[.int .i64 n1, .int .i64 x1] 42 (0, 0))) := Lib.hid (by rw [hw6]; exact box_below XA5.out d1)
          have XB6 : Hid (w6.heap[(w3.heap.size + 1)]? = some (.cells #[.int .i64 n2, .int .i64 x2] 42 (0, 0))) := Lib.hid (by rw [hw6]; exact box_below XB5.out d1)
          have T6 := Lib.hid (show Below w.heap.size w w6 by rw [hw6]; exact nx T5.out d1)
          have Z6 := Lib.hid (show Below w5.heap.size w5 w6 by rw [hw6]; exact d1)
          rw [← hw6]
          clear d1 d0 hw6
          go_wp2_with fail
          go_meet
          case rel => exact ⟨rfl, Z6.out⟩
        | true =>
          cases K2 with
          | false =>
            have d0 : Below w5.heap.size w5 w5.drew := (Below.refl _ _).drew
            refine wp_region_held_drew (S := fun ww => Below w5.heap.size w5 ww) (by kernel_rfl) d0 (fun _ => ?_)
            refine held_do 0 74 (.agg #[.int .i64 n1, .int .i64 x1]) (by kernel_rfl) (by kernel_rfl) (by kernel_rfl) (fun _ _ _ h => h) (by kernel_rfl) (by kernel_rfl) d0 (fun ww h => run_of (op := .load 42 (.tmp 13)) (by kernel_rfl) (fun o ho => load_dec rfl (two_num h XA5.out) ho)) ?_
            try simp only [Act.put, List.setIfInBounds_toArray, List.set_cons_zero, List.set_cons_succ]
            refine held_call 1 75 33 #[.agg #[.int .i64 n1, .int .i64 x1]] (by kernel_rfl) (by kernel_rfl) (by kernel_rfl) (fun _ => by kernel_rfl) ((Q1.out _ d0).mono ?_)
            rintro _ v1 ⟨rfl, b1⟩
            have d1 := nx d0 b1
            clear b1
            refine ⟨_, rfl, d1, ?_⟩
            try simp only [Act.put, List.setIfInBounds_toArray, List.set_cons_zero, List.set_cons_succ]
            refine held_do 2 76 (.bool true) (by kernel_rfl) (by kernel_rfl) (by kernel_rfl) (fun _ _ _ h => h) (by kernel_rfl) (by kernel_rfl) d1 (fun ww _ => by kernel_rfl) ?_
            try simp only [Act.put, List.setIfInBounds_toArray, List.set_cons_zero, List.set_cons_succ]
            refine held_do 3 77 (.agg #[.int .i64 n2, .int .i64 x2]) (by kernel_rfl) (by kernel_rfl) (by kernel_rfl) (fun _ _ _ h => h) (by kernel_rfl) (by kernel_rfl) d1 (fun ww h => run_of (op := .load 42 (.tmp 14)) (by kernel_rfl) (fun o ho => load_dec rfl (two_num h XB5.out) ho)) ?_
            try simp only [Act.put, List.setIfInBounds_toArray, List.set_cons_zero, List.set_cons_succ]
            refine held_call 4 78 33 #[.agg #[.int .i64 n2, .int .i64 x2]] (by kernel_rfl) (by kernel_rfl) (by kernel_rfl) (fun _ => by kernel_rfl) ((Q2.out _ d1).mono ?_)
            rintro _ v2 ⟨rfl, b2⟩
            have d2 := nx d1 b2
            clear b2
            refine ⟨_, rfl, d2, ?_⟩
            try simp only [Act.put, List.setIfInBounds_toArray, List.set_cons_zero, List.set_cons_succ]
            refine held_do 5 79 (.bool false) (by kernel_rfl) (by kernel_rfl) (by kernel_rfl) (fun _ _ _ h => h) (by kernel_rfl) (by kernel_rfl) d2 (fun ww _ => by kernel_rfl) ?_
            try simp only [Act.put, List.setIfInBounds_toArray, List.set_cons_zero, List.set_cons_succ]
            refine held_do 6 80 (.bool false) (by kernel_rfl) (by kernel_rfl) (by kernel_rfl) (fun _ _ _ h => h) (by kernel_rfl) (by kernel_rfl) d2 (fun ww _ => by kernel_rfl) ?_
            try simp only [Act.put, List.setIfInBounds_toArray, List.set_cons_zero, List.set_cons_succ]
            refine held_skip 7 81 (by kernel_rfl) (by kernel_rfl) (by kernel_rfl) (fun _ _ _ h => h) (by kernel_rfl) (by kernel_rfl) d2 ?_
            try simp only [Act.put, List.setIfInBounds_toArray, List.set_cons_zero, List.set_cons_succ]
            refine held_skip 8 82 (by kernel_rfl) (by kernel_rfl) (by kernel_rfl) (fun _ _ _ h => h) (by kernel_rfl) (by kernel_rfl) d2 ?_
            try simp only [Act.put, List.setIfInBounds_toArray, List.set_cons_zero, List.set_cons_succ]
            refine held_skip 9 83 (by kernel_rfl) (by kernel_rfl) (by kernel_rfl) (fun _ _ _ h => h) (by kernel_rfl) (by kernel_rfl) d2 ?_
            try simp only [Act.put, List.setIfInBounds_toArray, List.set_cons_zero, List.set_cons_succ]
            refine held_skip 10 84 (by kernel_rfl) (by kernel_rfl) (by kernel_rfl) (fun _ _ _ h => h) (by kernel_rfl) (by kernel_rfl) d2 ?_
            try simp only [Act.put, List.setIfInBounds_toArray, List.set_cons_zero, List.set_cons_succ]
            refine held_skip 11 85 (by kernel_rfl) (by kernel_rfl) (by kernel_rfl) (fun _ _ _ h => h) (by kernel_rfl) (by kernel_rfl) d2 ?_
            try simp only [Act.put, List.setIfInBounds_toArray, List.set_cons_zero, List.set_cons_succ]
            refine held_skip 12 86 (by kernel_rfl) (by kernel_rfl) (by kernel_rfl) (fun _ _ _ h => h) (by kernel_rfl) (by kernel_rfl) d2 ?_
            try simp only [Act.put, List.setIfInBounds_toArray, List.set_cons_zero, List.set_cons_succ]
            refine held_skip 13 87 (by kernel_rfl) (by kernel_rfl) (by kernel_rfl) (fun _ _ _ h => h) (by kernel_rfl) (by kernel_rfl) d2 ?_
            try simp only [Act.put, List.setIfInBounds_toArray, List.set_cons_zero, List.set_cons_succ]
            refine held_skip 14 88 (by kernel_rfl) (by kernel_rfl) (by kernel_rfl) (fun _ _ _ h => h) (by kernel_rfl) (by kernel_rfl) d2 ?_
            try simp only [Act.put, List.setIfInBounds_toArray, List.set_cons_zero, List.set_cons_succ]
            refine held_skip 15 89 (by kernel_rfl) (by kernel_rfl) (by kernel_rfl) (fun _ _ _ h => h) (by kernel_rfl) (by kernel_rfl) d2 ?_
            try simp only [Act.put, List.setIfInBounds_toArray, List.set_cons_zero, List.set_cons_succ]
            refine held_skip 16 90 (by kernel_rfl) (by kernel_rfl) (by kernel_rfl) (fun _ _ _ h => h) (by kernel_rfl) (by kernel_rfl) d2 ?_
            try simp only [Act.put, List.setIfInBounds_toArray, List.set_cons_zero, List.set_cons_succ]
            refine held_skip 17 91 (by kernel_rfl) (by kernel_rfl) (by kernel_rfl) (fun _ _ _ h => h) (by kernel_rfl) (by kernel_rfl) d2 ?_
            try simp only [Act.put, List.setIfInBounds_toArray, List.set_cons_zero, List.set_cons_succ]
            refine held_skip 18 92 (by kernel_rfl) (by kernel_rfl) (by kernel_rfl) (fun _ _ _ h => h) (by kernel_rfl) (by kernel_rfl) d2 ?_
            try simp only [Act.put, List.setIfInBounds_toArray, List.set_cons_zero, List.set_cons_succ]
            refine held_do 19 93 (.bool false) (by kernel_rfl) (by kernel_rfl) (by kernel_rfl) (fun _ _ _ h => h) (by kernel_rfl) (by kernel_rfl) d2 (fun ww _ => by kernel_rfl) ?_
            try simp only [Act.put, List.setIfInBounds_toArray, List.set_cons_zero, List.set_cons_succ]
            refine wpAnyH_done (by kernel_rfl) ?_ _
            obtain ⟨w6, hw6⟩ : ∃ wx, wx = v2 := ⟨_, rfl⟩
            have XA6 : Hid (w6.heap[w3.heap.size]? = some (.cells #[.int .i64 n1, .int .i64 x1] 42 (0, 0))) := Lib.hid (by rw [hw6]; exact box_below XA5.out d2)
            have XB6 : Hid (w6.heap[(w3.heap.size + 1)]? = some (.cells #[.int .i64 n2, .int .i64 x2] 42 (0, 0))) := Lib.hid (by rw [hw6]; exact box_below XB5.out d2)
            have T6 := Lib.hid (show Below w.heap.size w w6 by rw [hw6]; exact nx T5.out d2)
            have Z6 := Lib.hid (show Below w5.heap.size w5 w6 by rw [hw6]; exact d2)
            rw [← hw6]
            clear d2 d1 d0 hw6
            go_wp2_with fail
            go_meet
            case rel => exact ⟨rfl, Z6.out⟩
          | true =>
            have hon := HONE.out rfl rfl
            cases L1 with
            | true =>
              have hne : ¬ (n1 = n2 ∧ x1 = x2) := by intro h; rw [decide_eq_true h] at hon; simp at hon
              clear hon
              by_cases e1 : n1 = n2
              · subst e1
                have e2 : (x1 == x2) = false := by have : ¬ x1 = x2 := fun h => hne ⟨rfl, h⟩
                                                   simpa using this
                clear hne
                have d0 : Below w5.heap.size w5 w5.drew := (Below.refl _ _).drew
                refine wp_region_held_drew (S := fun ww => Below w5.heap.size w5 ww) (by kernel_rfl) d0 (fun _ => ?_)
                refine held_do 0 74 (.agg #[.int .i64 n1, .int .i64 x1]) (by kernel_rfl) (by kernel_rfl) (by kernel_rfl) (fun _ _ _ h => h) (by kernel_rfl) (by kernel_rfl) d0 (fun ww h => run_of (op := .load 42 (.tmp 13)) (by kernel_rfl) (fun o ho => load_dec rfl (two_num h XA5.out) ho)) ?_
                try simp only [Act.put, List.setIfInBounds_toArray, List.set_cons_zero, List.set_cons_succ]
                refine held_call 1 75 33 #[.agg #[.int .i64 n1, .int .i64 x1]] (by kernel_rfl) (by kernel_rfl) (by kernel_rfl) (fun _ => by kernel_rfl) ((Q1.out _ d0).mono ?_)
                rintro _ v1 ⟨rfl, b1⟩
                have d1 := nx d0 b1
                clear b1
                refine ⟨_, rfl, d1, ?_⟩
                try simp only [Act.put, List.setIfInBounds_toArray, List.set_cons_zero, List.set_cons_succ]
                refine held_do 2 76 (.bool true) (by kernel_rfl) (by kernel_rfl) (by kernel_rfl) (fun _ _ _ h => h) (by kernel_rfl) (by kernel_rfl) d1 (fun ww _ => by kernel_rfl) ?_
                try simp only [Act.put, List.setIfInBounds_toArray, List.set_cons_zero, List.set_cons_succ]
                refine held_do 3 77 (.agg #[.int .i64 n1, .int .i64 x2]) (by kernel_rfl) (by kernel_rfl) (by kernel_rfl) (fun _ _ _ h => h) (by kernel_rfl) (by kernel_rfl) d1 (fun ww h => run_of (op := .load 42 (.tmp 14)) (by kernel_rfl) (fun o ho => load_dec rfl (two_num h XB5.out) ho)) ?_
                try simp only [Act.put, List.setIfInBounds_toArray, List.set_cons_zero, List.set_cons_succ]
                refine held_call 4 78 33 #[.agg #[.int .i64 n1, .int .i64 x2]] (by kernel_rfl) (by kernel_rfl) (by kernel_rfl) (fun _ => by kernel_rfl) ((Q2.out _ d1).mono ?_)
                rintro _ v2 ⟨rfl, b2⟩
                have d2 := nx d1 b2
                clear b2
                refine ⟨_, rfl, d2, ?_⟩
                try simp only [Act.put, List.setIfInBounds_toArray, List.set_cons_zero, List.set_cons_succ]
                refine held_do 5 79 (.bool true) (by kernel_rfl) (by kernel_rfl) (by kernel_rfl) (fun _ _ _ h => h) (by kernel_rfl) (by kernel_rfl) d2 (fun ww _ => by kernel_rfl) ?_
                try simp only [Act.put, List.setIfInBounds_toArray, List.set_cons_zero, List.set_cons_succ]
                refine held_do 6 80 (.bool true) (by kernel_rfl) (by kernel_rfl) (by kernel_rfl) (fun _ _ _ h => h) (by kernel_rfl) (by kernel_rfl) d2 (fun ww _ => by kernel_rfl) ?_
                try simp only [Act.put, List.setIfInBounds_toArray, List.set_cons_zero, List.set_cons_succ]
                refine held_do 7 81 (.agg #[.int .i64 n1, .int .i64 x1]) (by kernel_rfl) (by kernel_rfl) (by kernel_rfl) (fun _ _ _ h => h) (by kernel_rfl) (by kernel_rfl) d2 (fun ww h => run_of (op := .load 42 (.tmp 13)) (by kernel_rfl) (fun o ho => load_dec rfl (two_num h XA5.out) ho)) ?_
                try simp only [Act.put, List.setIfInBounds_toArray, List.set_cons_zero, List.set_cons_succ]
                refine held_do 8 82 (.agg #[.int .i64 n1, .int .i64 x2]) (by kernel_rfl) (by kernel_rfl) (by kernel_rfl) (fun _ _ _ h => h) (by kernel_rfl) (by kernel_rfl) d2 (fun ww h => run_of (op := .load 42 (.tmp 14)) (by kernel_rfl) (fun o ho => load_dec rfl (two_num h XB5.out) ho)) ?_
                try simp only [Act.put, List.setIfInBounds_toArray, List.set_cons_zero, List.set_cons_succ]
                refine held_do 15 89 (.agg #[.int .i64 n1, .int .i64 x1]) (by kernel_rfl) (by kernel_rfl) (by kernel_rfl) (fun _ _ _ h => h) (by kernel_rfl) (by kernel_rfl) d2 (fun ww h => run_of (op := .load 42 (.tmp 13)) (by kernel_rfl) (fun o ho => load_dec rfl (two_num h XA5.out) ho)) ?_
                try simp only [Act.put, List.setIfInBounds_toArray, List.set_cons_zero, List.set_cons_succ]
                refine held_do 16 90 (.agg #[.int .i64 n1, .int .i64 x2]) (by kernel_rfl) (by kernel_rfl) (by kernel_rfl) (fun _ _ _ h => h) (by kernel_rfl) (by kernel_rfl) d2 (fun ww h => run_of (op := .load 42 (.tmp 14)) (by kernel_rfl) (fun o ho => load_dec rfl (two_num h XB5.out) ho)) ?_
                try simp only [Act.put, List.setIfInBounds_toArray, List.set_cons_zero, List.set_cons_succ]
                refine held_do 17 91 (.bool false) (by kernel_rfl) (by kernel_rfl) (by kernel_rfl) (fun _ _ _ h => h) (by kernel_rfl) (by kernel_rfl) d2 (by intro ww hSw; clear hSw; go_simp) ?_
                try simp only [Act.put, List.setIfInBounds_toArray, List.set_cons_zero, List.set_cons_succ]
                refine held_call 9 83 37 #[.agg #[.int .i64 n1, .int .i64 x1], .agg #[.int .i64 n1, .int .i64 x2]] (by kernel_rfl) (by kernel_rfl) (by kernel_rfl) (fun _ => by kernel_rfl) ((Q3.out _ d2).mono ?_)
                rintro _ v3 ⟨rfl, b3⟩
                have d3 := nx d2 b3
                clear b3
                refine ⟨_, rfl, d3, ?_⟩
                try simp only [Act.put, List.setIfInBounds_toArray, List.set_cons_zero, List.set_cons_succ]
                refine held_do 10 84 (.bool true) (by kernel_rfl) (by kernel_rfl) (by kernel_rfl) (fun _ _ _ h => h) (by kernel_rfl) (by kernel_rfl) d3 (fun ww _ => by kernel_rfl) ?_
                try simp only [Act.put, List.setIfInBounds_toArray, List.set_cons_zero, List.set_cons_succ]
                refine held_skip 11 85 (by kernel_rfl) (by kernel_rfl) (by kernel_rfl) (fun _ _ _ h => h) (by kernel_rfl) (by kernel_rfl) d3 ?_
                try simp only [Act.put, List.setIfInBounds_toArray, List.set_cons_zero, List.set_cons_succ]
                refine held_skip 12 86 (by kernel_rfl) (by kernel_rfl) (by kernel_rfl) (fun _ _ _ h => h) (by kernel_rfl) (by kernel_rfl) d3 ?_
                try simp only [Act.put, List.setIfInBounds_toArray, List.set_cons_zero, List.set_cons_succ]
                refine held_skip 13 87 (by kernel_rfl) (by kernel_rfl) (by kernel_rfl) (fun _ _ _ h => h) (by kernel_rfl) (by kernel_rfl) d3 ?_
                try simp only [Act.put, List.setIfInBounds_toArray, List.set_cons_zero, List.set_cons_succ]
                refine held_do 14 88 (.bool true) (by kernel_rfl) (by kernel_rfl) (by kernel_rfl) (fun _ _ _ h => h) (by kernel_rfl) (by kernel_rfl) d3 (fun ww _ => by kernel_rfl) ?_
                try simp only [Act.put, List.setIfInBounds_toArray, List.set_cons_zero, List.set_cons_succ]
                refine held_do 18 92 (.bool false) (by kernel_rfl) (by kernel_rfl) (by kernel_rfl) (fun _ _ _ h => h) (by kernel_rfl) (by kernel_rfl) d3 (fun ww _ => by kernel_rfl) ?_
                try simp only [Act.put, List.setIfInBounds_toArray, List.set_cons_zero, List.set_cons_succ]
                refine held_do 19 93 (.bool false) (by kernel_rfl) (by kernel_rfl) (by kernel_rfl) (fun _ _ _ h => h) (by kernel_rfl) (by kernel_rfl) d3 (fun ww _ => by kernel_rfl) ?_
                try simp only [Act.put, List.setIfInBounds_toArray, List.set_cons_zero, List.set_cons_succ]
                refine wpAnyH_done (by kernel_rfl) ?_ _
                obtain ⟨w6, hw6⟩ : ∃ wx, wx = v3 := ⟨_, rfl⟩
                have XA6 : Hid (w6.heap[w3.heap.size]? = some (.cells #[.int .i64 n1, .int .i64 x1] 42 (0, 0))) := Lib.hid (by rw [hw6]; exact box_below XA5.out d3)
                have XB6 : Hid (w6.heap[(w3.heap.size + 1)]? = some (.cells #[.int .i64 n1, .int .i64 x2] 42 (0, 0))) := Lib.hid (by rw [hw6]; exact box_below XB5.out d3)
                have T6 := Lib.hid (show Below w.heap.size w w6 by rw [hw6]; exact nx T5.out d3)
                have Z6 := Lib.hid (show Below w5.heap.size w5 w6 by rw [hw6]; exact d3)
                rw [← hw6]
                clear d3 d2 d1 d0 hw6
                go_wp2_with fail
                go_meet
                case rel => exact ⟨rfl, Z6.out⟩
              · have e2 : (n1 == n2) = false := by simpa using e1
                clear hne e1
                have d0 : Below w5.heap.size w5 w5.drew := (Below.refl _ _).drew
                refine wp_region_held_drew (S := fun ww => Below w5.heap.size w5 ww) (by kernel_rfl) d0 (fun _ => ?_)
                refine held_do 0 74 (.agg #[.int .i64 n1, .int .i64 x1]) (by kernel_rfl) (by kernel_rfl) (by kernel_rfl) (fun _ _ _ h => h) (by kernel_rfl) (by kernel_rfl) d0 (fun ww h => run_of (op := .load 42 (.tmp 13)) (by kernel_rfl) (fun o ho => load_dec rfl (two_num h XA5.out) ho)) ?_
                try simp only [Act.put, List.setIfInBounds_toArray, List.set_cons_zero, List.set_cons_succ]
                refine held_call 1 75 33 #[.agg #[.int .i64 n1, .int .i64 x1]] (by kernel_rfl) (by kernel_rfl) (by kernel_rfl) (fun _ => by kernel_rfl) ((Q1.out _ d0).mono ?_)
                rintro _ v1 ⟨rfl, b1⟩
                have d1 := nx d0 b1
                clear b1
                refine ⟨_, rfl, d1, ?_⟩
                try simp only [Act.put, List.setIfInBounds_toArray, List.set_cons_zero, List.set_cons_succ]
                refine held_do 2 76 (.bool true) (by kernel_rfl) (by kernel_rfl) (by kernel_rfl) (fun _ _ _ h => h) (by kernel_rfl) (by kernel_rfl) d1 (fun ww _ => by kernel_rfl) ?_
                try simp only [Act.put, List.setIfInBounds_toArray, List.set_cons_zero, List.set_cons_succ]
                refine held_do 3 77 (.agg #[.int .i64 n2, .int .i64 x2]) (by kernel_rfl) (by kernel_rfl) (by kernel_rfl) (fun _ _ _ h => h) (by kernel_rfl) (by kernel_rfl) d1 (fun ww h => run_of (op := .load 42 (.tmp 14)) (by kernel_rfl) (fun o ho => load_dec rfl (two_num h XB5.out) ho)) ?_
                try simp only [Act.put, List.setIfInBounds_toArray, List.set_cons_zero, List.set_cons_succ]
                refine held_call 4 78 33 #[.agg #[.int .i64 n2, .int .i64 x2]] (by kernel_rfl) (by kernel_rfl) (by kernel_rfl) (fun _ => by kernel_rfl) ((Q2.out _ d1).mono ?_)
                rintro _ v2 ⟨rfl, b2⟩
                have d2 := nx d1 b2
                clear b2
                refine ⟨_, rfl, d2, ?_⟩
                try simp only [Act.put, List.setIfInBounds_toArray, List.set_cons_zero, List.set_cons_succ]
                refine held_do 5 79 (.bool true) (by kernel_rfl) (by kernel_rfl) (by kernel_rfl) (fun _ _ _ h => h) (by kernel_rfl) (by kernel_rfl) d2 (fun ww _ => by kernel_rfl) ?_
                try simp only [Act.put, List.setIfInBounds_toArray, List.set_cons_zero, List.set_cons_succ]
                refine held_do 6 80 (.bool true) (by kernel_rfl) (by kernel_rfl) (by kernel_rfl) (fun _ _ _ h => h) (by kernel_rfl) (by kernel_rfl) d2 (fun ww _ => by kernel_rfl) ?_
                try simp only [Act.put, List.setIfInBounds_toArray, List.set_cons_zero, List.set_cons_succ]
                refine held_do 7 81 (.agg #[.int .i64 n1, .int .i64 x1]) (by kernel_rfl) (by kernel_rfl) (by kernel_rfl) (fun _ _ _ h => h) (by kernel_rfl) (by kernel_rfl) d2 (fun ww h => run_of (op := .load 42 (.tmp 13)) (by kernel_rfl) (fun o ho => load_dec rfl (two_num h XA5.out) ho)) ?_
                try simp only [Act.put, List.setIfInBounds_toArray, List.set_cons_zero, List.set_cons_succ]
                refine held_do 8 82 (.agg #[.int .i64 n2, .int .i64 x2]) (by kernel_rfl) (by kernel_rfl) (by kernel_rfl) (fun _ _ _ h => h) (by kernel_rfl) (by kernel_rfl) d2 (fun ww h => run_of (op := .load 42 (.tmp 14)) (by kernel_rfl) (fun o ho => load_dec rfl (two_num h XB5.out) ho)) ?_
                try simp only [Act.put, List.setIfInBounds_toArray, List.set_cons_zero, List.set_cons_succ]
                refine held_do 15 89 (.agg #[.int .i64 n1, .int .i64 x1]) (by kernel_rfl) (by kernel_rfl) (by kernel_rfl) (fun _ _ _ h => h) (by kernel_rfl) (by kernel_rfl) d2 (fun ww h => run_of (op := .load 42 (.tmp 13)) (by kernel_rfl) (fun o ho => load_dec rfl (two_num h XA5.out) ho)) ?_
                try simp only [Act.put, List.setIfInBounds_toArray, List.set_cons_zero, List.set_cons_succ]
                refine held_do 16 90 (.agg #[.int .i64 n2, .int .i64 x2]) (by kernel_rfl) (by kernel_rfl) (by kernel_rfl) (fun _ _ _ h => h) (by kernel_rfl) (by kernel_rfl) d2 (fun ww h => run_of (op := .load 42 (.tmp 14)) (by kernel_rfl) (fun o ho => load_dec rfl (two_num h XB5.out) ho)) ?_
                try simp only [Act.put, List.setIfInBounds_toArray, List.set_cons_zero, List.set_cons_succ]
                refine held_do 17 91 (.bool false) (by kernel_rfl) (by kernel_rfl) (by kernel_rfl) (fun _ _ _ h => h) (by kernel_rfl) (by kernel_rfl) d2 (by intro ww hSw; clear hSw; go_simp) ?_
                try simp only [Act.put, List.setIfInBounds_toArray, List.set_cons_zero, List.set_cons_succ]
                refine held_call 9 83 37 #[.agg #[.int .i64 n1, .int .i64 x1], .agg #[.int .i64 n2, .int .i64 x2]] (by kernel_rfl) (by kernel_rfl) (by kernel_rfl) (fun _ => by kernel_rfl) ((Q3.out _ d2).mono ?_)
                rintro _ v3 ⟨rfl, b3⟩
                have d3 := nx d2 b3
                clear b3
                refine ⟨_, rfl, d3, ?_⟩
                try simp only [Act.put, List.setIfInBounds_toArray, List.set_cons_zero, List.set_cons_succ]
                refine held_do 10 84 (.bool true) (by kernel_rfl) (by kernel_rfl) (by kernel_rfl) (fun _ _ _ h => h) (by kernel_rfl) (by kernel_rfl) d3 (fun ww _ => by kernel_rfl) ?_
                try simp only [Act.put, List.setIfInBounds_toArray, List.set_cons_zero, List.set_cons_succ]
                refine held_skip 11 85 (by kernel_rfl) (by kernel_rfl) (by kernel_rfl) (fun _ _ _ h => h) (by kernel_rfl) (by kernel_rfl) d3 ?_
                try simp only [Act.put, List.setIfInBounds_toArray, List.set_cons_zero, List.set_cons_succ]
                refine held_skip 12 86 (by kernel_rfl) (by kernel_rfl) (by kernel_rfl) (fun _ _ _ h => h) (by kernel_rfl) (by kernel_rfl) d3 ?_
                try simp only [Act.put, List.setIfInBounds_toArray, List.set_cons_zero, List.set_cons_succ]
                refine held_skip 13 87 (by kernel_rfl) (by kernel_rfl) (by kernel_rfl) (fun _ _ _ h => h) (by kernel_rfl) (by kernel_rfl) d3 ?_
                try simp only [Act.put, List.setIfInBounds_toArray, List.set_cons_zero, List.set_cons_succ]
                refine held_do 14 88 (.bool true) (by kernel_rfl) (by kernel_rfl) (by kernel_rfl) (fun _ _ _ h => h) (by kernel_rfl) (by kernel_rfl) d3 (fun ww _ => by kernel_rfl) ?_
                try simp only [Act.put, List.setIfInBounds_toArray, List.set_cons_zero, List.set_cons_succ]
                refine held_do 18 92 (.bool false) (by kernel_rfl) (by kernel_rfl) (by kernel_rfl) (fun _ _ _ h => h) (by kernel_rfl) (by kernel_rfl) d3 (fun ww _ => by kernel_rfl) ?_
                try simp only [Act.put, List.setIfInBounds_toArray, List.set_cons_zero, List.set_cons_succ]
                refine held_do 19 93 (.bool false) (by kernel_rfl) (by kernel_rfl) (by kernel_rfl) (fun _ _ _ h => h) (by kernel_rfl) (by kernel_rfl) d3 (fun ww _ => by kernel_rfl) ?_
                try simp only [Act.put, List.setIfInBounds_toArray, List.set_cons_zero, List.set_cons_succ]
                refine wpAnyH_done (by kernel_rfl) ?_ _
                obtain ⟨w6, hw6⟩ : ∃ wx, wx = v3 := ⟨_, rfl⟩
                have XA6 : Hid (w6.heap[w3.heap.size]? = some (.cells #[.int .i64 n1, .int .i64 x1] 42 (0, 0))) := Lib.hid (by rw [hw6]; exact box_below XA5.out d3)
                have XB6 : Hid (w6.heap[(w3.heap.size + 1)]? = some (.cells #[.int .i64 n2, .int .i64 x2] 42 (0, 0))) := Lib.hid (by rw [hw6]; exact box_below XB5.out d3)
                have T6 := Lib.hid (show Below w.heap.size w w6 by rw [hw6]; exact nx T5.out d3)
                have Z6 := Lib.hid (show Below w5.heap.size w5 w6 by rw [hw6]; exact d3)
                rw [← hw6]
                clear d3 d2 d1 d0 hw6
                go_wp2_with fail
                go_meet
                case rel => exact ⟨rfl, Z6.out⟩
            | false =>
              cases L2 with
              | true =>
                have hne : ¬ (n1 = n2 ∧ x1 = x2) := by intro h; rw [decide_eq_true h] at hon; simp at hon
                clear hon
                by_cases e1 : n1 = n2
                · subst e1
                  have e2 : (x1 == x2) = false := by have : ¬ x1 = x2 := fun h => hne ⟨rfl, h⟩
                                                     simpa using this
                  clear hne
                  have d0 : Below w5.heap.size w5 w5.drew := (Below.refl _ _).drew
                  refine wp_region_held_drew (S := fun ww => Below w5.heap.size w5 ww) (by kernel_rfl) d0 (fun _ => ?_)
                  refine held_do 0 74 (.agg #[.int .i64 n1, .int .i64 x1]) (by kernel_rfl) (by kernel_rfl) (by kernel_rfl) (fun _ _ _ h => h) (by kernel_rfl) (by kernel_rfl) d0 (fun ww h => run_of (op := .load 42 (.tmp 13)) (by kernel_rfl) (fun o ho => load_dec rfl (two_num h XA5.out) ho)) ?_
                  try simp only [Act.put, List.setIfInBounds_toArray, List.set_cons_zero, List.set_cons_succ]
                  refine held_call 1 75 33 #[.agg #[.int .i64 n1, .int .i64 x1]] (by kernel_rfl) (by kernel_rfl) (by kernel_rfl) (fun _ => by kernel_rfl) ((Q1.out _ d0).mono ?_)
                  rintro _ v1 ⟨rfl, b1⟩
                  have d1 := nx d0 b1
                  clear b1
                  refine ⟨_, rfl, d1, ?_⟩
                  try simp only [Act.put, List.setIfInBounds_toArray, List.set_cons_zero, List.set_cons_succ]
                  refine held_do 2 76 (.bool true) (by kernel_rfl) (by kernel_rfl) (by kernel_rfl) (fun _ _ _ h => h) (by kernel_rfl) (by kernel_rfl) d1 (fun ww _ => by kernel_rfl) ?_
                  try simp only [Act.put, List.setIfInBounds_toArray, List.set_cons_zero, List.set_cons_succ]
                  refine held_do 3 77 (.agg #[.int .i64 n1, .int .i64 x2]) (by kernel_rfl) (by kernel_rfl) (by kernel_rfl) (fun _ _ _ h => h) (by kernel_rfl) (by kernel_rfl) d1 (fun ww h => run_of (op := .load 42 (.tmp 14)) (by kernel_rfl) (fun o ho => load_dec rfl (two_num h XB5.out) ho)) ?_
                  try simp only [Act.put, List.setIfInBounds_toArray, List.set_cons_zero, List.set_cons_succ]
                  refine held_call 4 78 33 #[.agg #[.int .i64 n1, .int .i64 x2]] (by kernel_rfl) (by kernel_rfl) (by kernel_rfl) (fun _ => by kernel_rfl) ((Q2.out _ d1).mono ?_)
                  rintro _ v2 ⟨rfl, b2⟩
                  have d2 := nx d1 b2
                  clear b2
                  refine ⟨_, rfl, d2, ?_⟩
                  try simp only [Act.put, List.setIfInBounds_toArray, List.set_cons_zero, List.set_cons_succ]
                  refine held_do 5 79 (.bool true) (by kernel_rfl) (by kernel_rfl) (by kernel_rfl) (fun _ _ _ h => h) (by kernel_rfl) (by kernel_rfl) d2 (fun ww _ => by kernel_rfl) ?_
                  try simp only [Act.put, List.setIfInBounds_toArray, List.set_cons_zero, List.set_cons_succ]
                  refine held_do 6 80 (.bool true) (by kernel_rfl) (by kernel_rfl) (by kernel_rfl) (fun _ _ _ h => h) (by kernel_rfl) (by kernel_rfl) d2 (fun ww _ => by kernel_rfl) ?_
                  try simp only [Act.put, List.setIfInBounds_toArray, List.set_cons_zero, List.set_cons_succ]
                  refine held_do 7 81 (.agg #[.int .i64 n1, .int .i64 x1]) (by kernel_rfl) (by kernel_rfl) (by kernel_rfl) (fun _ _ _ h => h) (by kernel_rfl) (by kernel_rfl) d2 (fun ww h => run_of (op := .load 42 (.tmp 13)) (by kernel_rfl) (fun o ho => load_dec rfl (two_num h XA5.out) ho)) ?_
                  try simp only [Act.put, List.setIfInBounds_toArray, List.set_cons_zero, List.set_cons_succ]
                  refine held_do 8 82 (.agg #[.int .i64 n1, .int .i64 x2]) (by kernel_rfl) (by kernel_rfl) (by kernel_rfl) (fun _ _ _ h => h) (by kernel_rfl) (by kernel_rfl) d2 (fun ww h => run_of (op := .load 42 (.tmp 14)) (by kernel_rfl) (fun o ho => load_dec rfl (two_num h XB5.out) ho)) ?_
                  try simp only [Act.put, List.setIfInBounds_toArray, List.set_cons_zero, List.set_cons_succ]
                  refine held_do 15 89 (.agg #[.int .i64 n1, .int .i64 x1]) (by kernel_rfl) (by kernel_rfl) (by kernel_rfl) (fun _ _ _ h => h) (by kernel_rfl) (by kernel_rfl) d2 (fun ww h => run_of (op := .load 42 (.tmp 13)) (by kernel_rfl) (fun o ho => load_dec rfl (two_num h XA5.out) ho)) ?_
                  try simp only [Act.put, List.setIfInBounds_toArray, List.set_cons_zero, List.set_cons_succ]
                  refine held_do 16 90 (.agg #[.int .i64 n1, .int .i64 x2]) (by kernel_rfl) (by kernel_rfl) (by kernel_rfl) (fun _ _ _ h => h) (by kernel_rfl) (by kernel_rfl) d2 (fun ww h => run_of (op := .load 42 (.tmp 14)) (by kernel_rfl) (fun o ho => load_dec rfl (two_num h XB5.out) ho)) ?_
                  try simp only [Act.put, List.setIfInBounds_toArray, List.set_cons_zero, List.set_cons_succ]
                  refine held_do 17 91 (.bool false) (by kernel_rfl) (by kernel_rfl) (by kernel_rfl) (fun _ _ _ h => h) (by kernel_rfl) (by kernel_rfl) d2 (by intro ww hSw; clear hSw; go_simp) ?_
                  try simp only [Act.put, List.setIfInBounds_toArray, List.set_cons_zero, List.set_cons_succ]
                  refine held_call 9 83 37 #[.agg #[.int .i64 n1, .int .i64 x1], .agg #[.int .i64 n1, .int .i64 x2]] (by kernel_rfl) (by kernel_rfl) (by kernel_rfl) (fun _ => by kernel_rfl) ((Q3.out _ d2).mono ?_)
                  rintro _ v3 ⟨rfl, b3⟩
                  have d3 := nx d2 b3
                  clear b3
                  refine ⟨_, rfl, d3, ?_⟩
                  try simp only [Act.put, List.setIfInBounds_toArray, List.set_cons_zero, List.set_cons_succ]
                  refine held_do 10 84 (.bool false) (by kernel_rfl) (by kernel_rfl) (by kernel_rfl) (fun _ _ _ h => h) (by kernel_rfl) (by kernel_rfl) d3 (fun ww _ => by kernel_rfl) ?_
                  try simp only [Act.put, List.setIfInBounds_toArray, List.set_cons_zero, List.set_cons_succ]
                  refine held_do 11 85 (.agg #[.int .i64 n1, .int .i64 x2]) (by kernel_rfl) (by kernel_rfl) (by kernel_rfl) (fun _ _ _ h => h) (by kernel_rfl) (by kernel_rfl) d3 (fun ww h => run_of (op := .load 42 (.tmp 14)) (by kernel_rfl) (fun o ho => load_dec rfl (two_num h XB5.out) ho)) ?_
                  try simp only [Act.put, List.setIfInBounds_toArray, List.set_cons_zero, List.set_cons_succ]
                  refine held_do 12 86 (.agg #[.int .i64 n1, .int .i64 x1]) (by kernel_rfl) (by kernel_rfl) (by kernel_rfl) (fun _ _ _ h => h) (by kernel_rfl) (by kernel_rfl) d3 (fun ww h => run_of (op := .load 42 (.tmp 13)) (by kernel_rfl) (fun o ho => load_dec rfl (two_num h XA5.out) ho)) ?_
                  try simp only [Act.put, List.setIfInBounds_toArray, List.set_cons_zero, List.set_cons_succ]
                  refine held_call 13 87 37 #[.agg #[.int .i64 n1, .int .i64 x2], .agg #[.int .i64 n1, .int .i64 x1]] (by kernel_rfl) (by kernel_rfl) (by kernel_rfl) (fun _ => by kernel_rfl) ((Q4.out _ d3).mono ?_)
                  rintro _ v4 ⟨rfl, b4⟩
                  have d4 := nx d3 b4
                  clear b4
                  refine ⟨_, rfl, d4, ?_⟩
                  try simp only [Act.put, List.setIfInBounds_toArray, List.set_cons_zero, List.set_cons_succ]
                  refine held_do 14 88 (.bool true) (by kernel_rfl) (by kernel_rfl) (by kernel_rfl) (fun _ _ _ h => h) (by kernel_rfl) (by kernel_rfl) d4 (fun ww _ => by kernel_rfl) ?_
                  try simp only [Act.put, List.setIfInBounds_toArray, List.set_cons_zero, List.set_cons_succ]
                  refine held_do 18 92 (.bool false) (by kernel_rfl) (by kernel_rfl) (by kernel_rfl) (fun _ _ _ h => h) (by kernel_rfl) (by kernel_rfl) d4 (fun ww _ => by kernel_rfl) ?_
                  try simp only [Act.put, List.setIfInBounds_toArray, List.set_cons_zero, List.set_cons_succ]
                  refine held_do 19 93 (.bool false) (by kernel_rfl) (by kernel_rfl) (by kernel_rfl) (fun _ _ _ h => h) (by kernel_rfl) (by kernel_rfl) d4 (fun ww _ => by kernel_rfl) ?_
                  try simp only [Act.put, List.setIfInBounds_toArray, List.set_cons_zero, List.set_cons_succ]
                  refine wpAnyH_done (by kernel_rfl) ?_ _
                  obtain ⟨w6, hw6⟩ : ∃ wx, wx = v4 := ⟨_, rfl⟩
                  have XA6 : Hid (w6.heap[w3.heap.size]? = some (.cells #[.int .i64 n1, .int .i64 x1] 42 (0, 0))) := Lib.hid (by rw [hw6]; exact box_below XA5.out d4)
                  have XB6 : Hid (w6.heap[(w3.heap.size + 1)]? = some (.cells #[.int .i64 n1, .int .i64 x2] 42 (0, 0))) := Lib.hid (by rw [hw6]; exact box_below XB5.out d4)
                  have T6 := Lib.hid (show Below w.heap.size w w6 by rw [hw6]; exact nx T5.out d4)
                  have Z6 := Lib.hid (show Below w5.heap.size w5 w6 by rw [hw6]; exact d4)
                  rw [← hw6]
                  clear d4 d3 d2 d1 d0 hw6
                  go_wp2_with fail
                  go_meet
                  case rel => exact ⟨rfl, Z6.out⟩
                · have e2 : (n1 == n2) = false := by simpa using e1
                  clear hne e1
                  have d0 : Below w5.heap.size w5 w5.drew := (Below.refl _ _).drew
                  refine wp_region_held_drew (S := fun ww => Below w5.heap.size w5 ww) (by kernel_rfl) d0 (fun _ => ?_)
                  refine held_do 0 74 (.agg #[.int .i64 n1, .int .i64 x1]) (by kernel_rfl) (by kernel_rfl) (by kernel_rfl) (fun _ _ _ h => h) (by kernel_rfl) (by kernel_rfl) d0 (fun ww h => run_of (op := .load 42 (.tmp 13)) (by kernel_rfl) (fun o ho => load_dec rfl (two_num h XA5.out) ho)) ?_
                  try simp only [Act.put, List.setIfInBounds_toArray, List.set_cons_zero, List.set_cons_succ]
                  refine held_call 1 75 33 #[.agg #[.int .i64 n1, .int .i64 x1]] (by kernel_rfl) (by kernel_rfl) (by kernel_rfl) (fun _ => by kernel_rfl) ((Q1.out _ d0).mono ?_)
                  rintro _ v1 ⟨rfl, b1⟩
                  have d1 := nx d0 b1
                  clear b1
                  refine ⟨_, rfl, d1, ?_⟩
                  try simp only [Act.put, List.setIfInBounds_toArray, List.set_cons_zero, List.set_cons_succ]
                  refine held_do 2 76 (.bool true) (by kernel_rfl) (by kernel_rfl) (by kernel_rfl) (fun _ _ _ h => h) (by kernel_rfl) (by kernel_rfl) d1 (fun ww _ => by kernel_rfl) ?_
                  try simp only [Act.put, List.setIfInBounds_toArray, List.set_cons_zero, List.set_cons_succ]
                  refine held_do 3 77 (.agg #[.int .i64 n2, .int .i64 x2]) (by kernel_rfl) (by kernel_rfl) (by kernel_rfl) (fun _ _ _ h => h) (by kernel_rfl) (by kernel_rfl) d1 (fun ww h => run_of (op := .load 42 (.tmp 14)) (by kernel_rfl) (fun o ho => load_dec rfl (two_num h XB5.out) ho)) ?_
                  try simp only [Act.put, List.setIfInBounds_toArray, List.set_cons_zero, List.set_cons_succ]
                  refine held_call 4 78 33 #[.agg #[.int .i64 n2, .int .i64 x2]] (by kernel_rfl) (by kernel_rfl) (by kernel_rfl) (fun _ => by kernel_rfl) ((Q2.out _ d1).mono ?_)
                  rintro _ v2 ⟨rfl, b2⟩
                  have d2 := nx d1 b2
                  clear b2
                  refine ⟨_, rfl, d2, ?_⟩
                  try simp only [Act.put, List.setIfInBounds_toArray, List.set_cons_zero, List.set_cons_succ]
                  refine held_do 5 79 (.bool true) (by kernel_rfl) (by kernel_rfl) (by kernel_rfl) (fun _ _ _ h => h) (by kernel_rfl) (by kernel_rfl) d2 (fun ww _ => by kernel_rfl) ?_
                  try simp only [Act.put, List.setIfInBounds_toArray, List.set_cons_zero, List.set_cons_succ]
                  refine held_do 6 80 (.bool true) (by kernel_rfl) (by kernel_rfl) (by kernel_rfl) (fun _ _ _ h => h) (by kernel_rfl) (by kernel_rfl) d2 (fun ww _ => by kernel_rfl) ?_
                  try simp only [Act.put, List.setIfInBounds_toArray, List.set_cons_zero, List.set_cons_succ]
                  refine held_do 7 81 (.agg #[.int .i64 n1, .int .i64 x1]) (by kernel_rfl) (by kernel_rfl) (by kernel_rfl) (fun _ _ _ h => h) (by kernel_rfl) (by kernel_rfl) d2 (fun ww h => run_of (op := .load 42 (.tmp 13)) (by kernel_rfl) (fun o ho => load_dec rfl (two_num h XA5.out) ho)) ?_
                  try simp only [Act.put, List.setIfInBounds_toArray, List.set_cons_zero, List.set_cons_succ]
                  refine held_do 8 82 (.agg #[.int .i64 n2, .int .i64 x2]) (by kernel_rfl) (by kernel_rfl) (by kernel_rfl) (fun _ _ _ h => h) (by kernel_rfl) (by kernel_rfl) d2 (fun ww h => run_of (op := .load 42 (.tmp 14)) (by kernel_rfl) (fun o ho => load_dec rfl (two_num h XB5.out) ho)) ?_
                  try simp only [Act.put, List.setIfInBounds_toArray, List.set_cons_zero, List.set_cons_succ]
                  refine held_do 15 89 (.agg #[.int .i64 n1, .int .i64 x1]) (by kernel_rfl) (by kernel_rfl) (by kernel_rfl) (fun _ _ _ h => h) (by kernel_rfl) (by kernel_rfl) d2 (fun ww h => run_of (op := .load 42 (.tmp 13)) (by kernel_rfl) (fun o ho => load_dec rfl (two_num h XA5.out) ho)) ?_
                  try simp only [Act.put, List.setIfInBounds_toArray, List.set_cons_zero, List.set_cons_succ]
                  refine held_do 16 90 (.agg #[.int .i64 n2, .int .i64 x2]) (by kernel_rfl) (by kernel_rfl) (by kernel_rfl) (fun _ _ _ h => h) (by kernel_rfl) (by kernel_rfl) d2 (fun ww h => run_of (op := .load 42 (.tmp 14)) (by kernel_rfl) (fun o ho => load_dec rfl (two_num h XB5.out) ho)) ?_
                  try simp only [Act.put, List.setIfInBounds_toArray, List.set_cons_zero, List.set_cons_succ]
                  refine held_do 17 91 (.bool false) (by kernel_rfl) (by kernel_rfl) (by kernel_rfl) (fun _ _ _ h => h) (by kernel_rfl) (by kernel_rfl) d2 (by intro ww hSw; clear hSw; go_simp) ?_
                  try simp only [Act.put, List.setIfInBounds_toArray, List.set_cons_zero, List.set_cons_succ]
                  refine held_call 9 83 37 #[.agg #[.int .i64 n1, .int .i64 x1], .agg #[.int .i64 n2, .int .i64 x2]] (by kernel_rfl) (by kernel_rfl) (by kernel_rfl) (fun _ => by kernel_rfl) ((Q3.out _ d2).mono ?_)
                  rintro _ v3 ⟨rfl, b3⟩
                  have d3 := nx d2 b3
                  clear b3
                  refine ⟨_, rfl, d3, ?_⟩
                  try simp only [Act.put, List.setIfInBounds_toArray, List.set_cons_zero, List.set_cons_succ]
                  refine held_do 10 84 (.bool false) (by kernel_rfl) (by kernel_rfl) (by kernel_rfl) (fun _ _ _ h => h) (by kernel_rfl) (by kernel_rfl) d3 (fun ww _ => by kernel_rfl) ?_
                  try simp only [Act.put, List.setIfInBounds_toArray, List.set_cons_zero, List.set_cons_succ]
                  refine held_do 11 85 (.agg #[.int .i64 n2, .int .i64 x2]) (by kernel_rfl) (by kernel_rfl) (by kernel_rfl) (fun _ _ _ h => h) (by kernel_rfl) (by kernel_rfl) d3 (fun ww h => run_of (op := .load 42 (.tmp 14)) (by kernel_rfl) (fun o ho => load_dec rfl (two_num h XB5.out) ho)) ?_
                  try simp only [Act.put, List.setIfInBounds_toArray, List.set_cons_zero, List.set_cons_succ]
                  refine held_do 12 86 (.agg #[.int .i64 n1, .int .i64 x1]) (by kernel_rfl) (by kernel_rfl) (by kernel_rfl) (fun _ _ _ h => h) (by kernel_rfl) (by kernel_rfl) d3 (fun ww h => run_of (op := .load 42 (.tmp 13)) (by kernel_rfl) (fun o ho => load_dec rfl (two_num h XA5.out) ho)) ?_
                  try simp only [Act.put, List.setIfInBounds_toArray, List.set_cons_zero, List.set_cons_succ]
                  refine held_call 13 87 37 #[.agg #[.int .i64 n2, .int .i64 x2], .agg #[.int .i64 n1, .int .i64 x1]] (by kernel_rfl) (by kernel_rfl) (by kernel_rfl) (fun _ => by kernel_rfl) ((Q4.out _ d3).mono ?_)
                  rintro _ v4 ⟨rfl, b4⟩
                  have d4 := nx d3 b4
                  clear b4
                  refine ⟨_, rfl, d4, ?_⟩
                  try simp only [Act.put, List.setIfInBounds_toArray, List.set_cons_zero, List.set_cons_succ]
                  refine held_do 14 88 (.bool true) (by kernel_rfl) (by kernel_rfl) (by kernel_rfl) (fun _ _ _ h => h) (by kernel_rfl) (by kernel_rfl) d4 (fun ww _ => by kernel_rfl) ?_
                  try simp only [Act.put, List.setIfInBounds_toArray, List.set_cons_zero, List.set_cons_succ]
                  refine held_do 18 92 (.bool false) (by kernel_rfl) (by kernel_rfl) (by kernel_rfl) (fun _ _ _ h => h) (by kernel_rfl) (by kernel_rfl) d4 (fun ww _ => by kernel_rfl) ?_
                  try simp only [Act.put, List.setIfInBounds_toArray, List.set_cons_zero, List.set_cons_succ]
                  refine held_do 19 93 (.bool false) (by kernel_rfl) (by kernel_rfl) (by kernel_rfl) (fun _ _ _ h => h) (by kernel_rfl) (by kernel_rfl) d4 (fun ww _ => by kernel_rfl) ?_
                  try simp only [Act.put, List.setIfInBounds_toArray, List.set_cons_zero, List.set_cons_succ]
                  refine wpAnyH_done (by kernel_rfl) ?_ _
                  obtain ⟨w6, hw6⟩ : ∃ wx, wx = v4 := ⟨_, rfl⟩
                  have XA6 : Hid (w6.heap[w3.heap.size]? = some (.cells #[.int .i64 n1, .int .i64 x1] 42 (0, 0))) := Lib.hid (by rw [hw6]; exact box_below XA5.out d4)
                  have XB6 : Hid (w6.heap[(w3.heap.size + 1)]? = some (.cells #[.int .i64 n2, .int .i64 x2] 42 (0, 0))) := Lib.hid (by rw [hw6]; exact box_below XB5.out d4)
                  have T6 := Lib.hid (show Below w.heap.size w w6 by rw [hw6]; exact nx T5.out d4)
                  have Z6 := Lib.hid (show Below w5.heap.size w5 w6 by rw [hw6]; exact d4)
                  rw [← hw6]
                  clear d4 d3 d2 d1 d0 hw6
                  go_wp2_with fail
                  go_meet
                  case rel => exact ⟨rfl, Z6.out⟩
              | false =>
                obtain ⟨rfl, rfl⟩ : n1 = n2 ∧ x1 = x2 := by refine Decidable.byContradiction fun h => ?_; rw [decide_eq_false h] at hon; simp at hon
                clear hon
                have d0 : Below w5.heap.size w5 w5.drew := (Below.refl _ _).drew
                refine wp_region_held_drew (S := fun ww => Below w5.heap.size w5 ww) (by kernel_rfl) d0 (fun _ => ?_)
                refine held_do 0 74 (.agg #[.int .i64 n1, .int .i64 x1]) (by kernel_rfl) (by kernel_rfl) (by kernel_rfl) (fun _ _ _ h => h) (by kernel_rfl) (by kernel_rfl) d0 (fun ww h => run_of (op := .load 42 (.tmp 13)) (by kernel_rfl) (fun o ho => load_dec rfl (two_num h XA5.out) ho)) ?_
                try simp only [Act.put, List.setIfInBounds_toArray, List.set_cons_zero, List.set_cons_succ]
                refine held_call 1 75 33 #[.agg #[.int .i64 n1, .int .i64 x1]] (by kernel_rfl) (by kernel_rfl) (by kernel_rfl) (fun _ => by kernel_rfl) ((Q1.out _ d0).mono ?_)
                rintro _ v1 ⟨rfl, b1⟩
                have d1 := nx d0 b1
                clear b1
                refine ⟨_, rfl, d1, ?_⟩
                try simp only [Act.put, List.setIfInBounds_toArray, List.set_cons_zero, List.set_cons_succ]
                refine held_do 2 76 (.bool true) (by kernel_rfl) (by kernel_rfl) (by kernel_rfl) (fun _ _ _ h => h) (by kernel_rfl) (by kernel_rfl) d1 (fun ww _ => by kernel_rfl) ?_
                try simp only [Act.put, List.setIfInBounds_toArray, List.set_cons_zero, List.set_cons_succ]
                refine held_do 3 77 (.agg #[.int .i64 n1, .int .i64 x1]) (by kernel_rfl) (by kernel_rfl) (by kernel_rfl) (fun _ _ _ h => h) (by kernel_rfl) (by kernel_rfl) d1 (fun ww h => run_of (op := .load 42 (.tmp 14)) (by kernel_rfl) (fun o ho => load_dec rfl (two_num h XB5.out) ho)) ?_
                try simp only [Act.put, List.setIfInBounds_toArray, List.set_cons_zero, List.set_cons_succ]
                refine held_call 4 78 33 #[.agg #[.int .i64 n1, .int .i64 x1]] (by kernel_rfl) (by kernel_rfl) (by kernel_rfl) (fun _ => by kernel_rfl) ((Q2.out _ d1).mono ?_)
                rintro _ v2 ⟨rfl, b2⟩
                have d2 := nx d1 b2
                clear b2
                refine ⟨_, rfl, d2, ?_⟩
                try simp only [Act.put, List.setIfInBounds_toArray, List.set_cons_zero, List.set_cons_succ]
                refine held_do 5 79 (.bool true) (by kernel_rfl) (by kernel_rfl) (by kernel_rfl) (fun _ _ _ h => h) (by kernel_rfl) (by kernel_rfl) d2 (fun ww _ => by kernel_rfl) ?_
                try simp only [Act.put, List.setIfInBounds_toArray, List.set_cons_zero, List.set_cons_succ]
                refine held_do 6 80 (.bool true) (by kernel_rfl) (by kernel_rfl) (by kernel_rfl) (fun _ _ _ h => h) (by kernel_rfl) (by kernel_rfl) d2 (fun ww _ => by kernel_rfl) ?_
                try simp only [Act.put, List.setIfInBounds_toArray, List.set_cons_zero, List.set_cons_succ]
                refine held_do 7 81 (.agg #[.int .i64 n1, .int .i64 x1]) (by kernel_rfl) (by kernel_rfl) (by kernel_rfl) (fun _ _ _ h => h) (by kernel_rfl) (by kernel_rfl) d2 (fun ww h => run_of (op := .load 42 (.tmp 13)) (by kernel_rfl) (fun o ho => load_dec rfl (two_num h XA5.out) ho)) ?_
                try simp only [Act.put, List.setIfInBounds_toArray, List.set_cons_zero, List.set_cons_succ]
                refine held_do 8 82 (.agg #[.int .i64 n1, .int .i64 x1]) (by kernel_rfl) (by kernel_rfl) (by kernel_rfl) (fun _ _ _ h => h) (by kernel_rfl) (by kernel_rfl) d2 (fun ww h => run_of (op := .load 42 (.tmp 14)) (by kernel_rfl) (fun o ho => load_dec rfl (two_num h XB5.out) ho)) ?_
                try simp only [Act.put, List.setIfInBounds_toArray, List.set_cons_zero, List.set_cons_succ]
                refine held_do 15 89 (.agg #[.int .i64 n1, .int .i64 x1]) (by kernel_rfl) (by kernel_rfl) (by kernel_rfl) (fun _ _ _ h => h) (by kernel_rfl) (by kernel_rfl) d2 (fun ww h => run_of (op := .load 42 (.tmp 13)) (by kernel_rfl) (fun o ho => load_dec rfl (two_num h XA5.out) ho)) ?_
                try simp only [Act.put, List.setIfInBounds_toArray, List.set_cons_zero, List.set_cons_succ]
                refine held_do 16 90 (.agg #[.int .i64 n1, .int .i64 x1]) (by kernel_rfl) (by kernel_rfl) (by kernel_rfl) (fun _ _ _ h => h) (by kernel_rfl) (by kernel_rfl) d2 (fun ww h => run_of (op := .load 42 (.tmp 14)) (by kernel_rfl) (fun o ho => load_dec rfl (two_num h XB5.out) ho)) ?_
                try simp only [Act.put, List.setIfInBounds_toArray, List.set_cons_zero, List.set_cons_succ]
                refine held_do 17 91 (.bool true) (by kernel_rfl) (by kernel_rfl) (by kernel_rfl) (fun _ _ _ h => h) (by kernel_rfl) (by kernel_rfl) d2 (by intro ww hSw; clear hSw; go_simp) ?_
                try simp only [Act.put, List.setIfInBounds_toArray, List.set_cons_zero, List.set_cons_succ]
                refine held_call 9 83 37 #[.agg #[.int .i64 n1, .int .i64 x1], .agg #[.int .i64 n1, .int .i64 x1]] (by kernel_rfl) (by kernel_rfl) (by kernel_rfl) (fun _ => by kernel_rfl) ((Q3.out _ d2).mono ?_)
                rintro _ v3 ⟨rfl, b3⟩
                have d3 := nx d2 b3
                clear b3
                refine ⟨_, rfl, d3, ?_⟩
                try simp only [Act.put, List.setIfInBounds_toArray, List.set_cons_zero, List.set_cons_succ]
                refine held_do 10 84 (.bool false) (by kernel_rfl) (by kernel_rfl) (by kernel_rfl) (fun _ _ _ h => h) (by kernel_rfl) (by kernel_rfl) d3 (fun ww _ => by kernel_rfl) ?_
                try simp only [Act.put, List.setIfInBounds_toArray, List.set_cons_zero, List.set_cons_succ]
                refine held_do 11 85 (.agg #[.int .i64 n1, .int .i64 x1]) (by kernel_rfl) (by kernel_rfl) (by kernel_rfl) (fun _ _ _ h => h) (by kernel_rfl) (by kernel_rfl) d3 (fun ww h => run_of (op := .load 42 (.tmp 14)) (by kernel_rfl) (fun o ho => load_dec rfl (two_num h XB5.out) ho)) ?_
                try simp only [Act.put, List.setIfInBounds_toArray, List.set_cons_zero, List.set_cons_succ]
                refine held_do 12 86 (.agg #[.int .i64 n1, .int .i64 x1]) (by kernel_rfl) (by kernel_rfl) (by kernel_rfl) (fun _ _ _ h => h) (by kernel_rfl) (by kernel_rfl) d3 (fun ww h => run_of (op := .load 42 (.tmp 13)) (by kernel_rfl) (fun o ho => load_dec rfl (two_num h XA5.out) ho)) ?_
                try simp only [Act.put, List.setIfInBounds_toArray, List.set_cons_zero, List.set_cons_succ]
                refine held_call 13 87 37 #[.agg #[.int .i64 n1, .int .i64 x1], .agg #[.int .i64 n1, .int .i64 x1]] (by kernel_rfl) (by kernel_rfl) (by kernel_rfl) (fun _ => by kernel_rfl) ((Q4.out _ d3).mono ?_)
                rintro _ v4 ⟨rfl, b4⟩
                have d4 := nx d3 b4
                clear b4
                refine ⟨_, rfl, d4, ?_⟩
                try simp only [Act.put, List.setIfInBounds_toArray, List.set_cons_zero, List.set_cons_succ]
                refine held_do 14 88 (.bool false) (by kernel_rfl) (by kernel_rfl) (by kernel_rfl) (fun _ _ _ h => h) (by kernel_rfl) (by kernel_rfl) d4 (fun ww _ => by kernel_rfl) ?_
                try simp only [Act.put, List.setIfInBounds_toArray, List.set_cons_zero, List.set_cons_succ]
                refine held_do 18 92 (.bool false) (by kernel_rfl) (by kernel_rfl) (by kernel_rfl) (fun _ _ _ h => h) (by kernel_rfl) (by kernel_rfl) d4 (fun ww _ => by kernel_rfl) ?_
                try simp only [Act.put, List.setIfInBounds_toArray, List.set_cons_zero, List.set_cons_succ]
                refine held_do 19 93 (.bool false) (by kernel_rfl) (by kernel_rfl) (by kernel_rfl) (fun _ _ _ h => h) (by kernel_rfl) (by kernel_rfl) d4 (fun ww _ => by kernel_rfl) ?_
                try simp only [Act.put, List.setIfInBounds_toArray, List.set_cons_zero, List.set_cons_succ]
                refine wpAnyH_done (by kernel_rfl) ?_ _
                obtain ⟨w6, hw6⟩ : ∃ wx, wx = v4 := ⟨_, rfl⟩
                have XA6 : Hid (w6.heap[w3.heap.size]? = some (.cells #[.int .i64 n1, .int .i64 x1] 42 (0, 0))) := Lib.hid (by rw [hw6]; exact box_below XA5.out d4)
                have XB6 : Hid (w6.heap[(w3.heap.size + 1)]? = some (.cells #[.int .i64 n1, .int .i64 x1] 42 (0, 0))) := Lib.hid (by rw [hw6]; exact box_below XB5.out d4)
                have T6 := Lib.hid (show Below w.heap.size w w6 by rw [hw6]; exact nx T5.out d4)
                have Z6 := Lib.hid (show Below w5.heap.size w5 w6 by rw [hw6]; exact d4)
                rw [← hw6]
                clear d4 d3 d2 d1 d0 hw6
                go_wp2_with fail
                go_meet
                case rel => exact ⟨rfl, Z6.out⟩
      case rest =>
        obtain ⟨rfl, b'⟩ := hcut
        obtain ⟨w6, hw6⟩ : ∃ wx, wx = wc := ⟨_, rfl⟩
        rw [← hw6] at b' ⊢
        clear hw6
        have XA6 : Hid (w6.heap[w3.heap.size]? = some (.cells #[.int .i64 n1, .int .i64 x1] 42 (0, 0))) := Lib.hid (box_below XA5.out b')
        have XB6 : Hid (w6.heap[(w3.heap.size + 1)]? = some (.cells #[.int .i64 n2, .int .i64 x2] 42 (0, 0))) := Lib.hid (box_below XB5.out b')
        have T6 := Lib.hid (nx T5.out b'); clear b'
        have Al := box_lt XA6.out
        obtain ⟨A0, A1, Af0, Af1⟩ := box_two XA6.out
        have Bl := box_lt XB6.out
        obtain ⟨B0, B1, Bf0, Bf1⟩ := box_two XB6.out
        by_cases hc : c = 0
        · subst hc
          obtain ⟨I, Z, hpI, hzZ, hIZ, hcu⟩ := HAG.out n x z HRR.out
          have hZS := HZQ.out n x z HRR.out
          rw [hpI, hzZ] at hcu
          have hlen2 := HLN.out
          have hZS2 : Z ≤ S.size := by rw [hzZ] at hZS; omega
          have hrd := fun ww (hL : LaidE ww) => readNumber_impl (S.extract I Z) 0 ww (by have := HSZ.out; rw [ByteArray.size_extract]; omega) hL
          rw [ext_cut, hcu] at hrd
          unfold rnV at hrd
          dsimp only at hrd
          have HRD := Lib.hid hrd; clear hrd hcu hlen2 hZS
          clear HAG HNO HZQ HRR HRI HRS
          subst hpI
          subst hzZ
          have hsz := HSZ.out
          go_wp2_with fail
          refine (HRD.out _ (LA.out.2.kept T6.out)).mono ?_
          rintro _ w7 ⟨rfl, b'⟩
          have XA7 : Hid (w7.heap[w3.heap.size]? = some (.cells #[.int .i64 n1, .int .i64 x1] 42 (0, 0))) := Lib.hid (box_below XA6.out b')
          have XB7 : Hid (w7.heap[(w3.heap.size + 1)]? = some (.cells #[.int .i64 n2, .int .i64 x2] 42 (0, 0))) := Lib.hid (box_below XB6.out b')
          have T7 := Lib.hid (nx T6.out b'); clear b'
          go_wp2_with fail
          go_ret
          exact ⟨rfl, T7.out⟩
        · obtain ⟨rfl, rfl⟩ : n = 0 ∧ x = 0 := HNO.out hc
          have hcb : (c != 0) = true := by simpa using hc
          clear HAG HNO HZQ HRR HRI HRS hc
          go_wp2_with fail
          refine (HIL1.out _ (LA.out.1.kept T6.out)).mono ?_
          rintro _ w7 ⟨rfl, b'⟩
          have XA7 : Hid (w7.heap[w3.heap.size]? = some (.cells #[.int .i64 n1, .int .i64 x1] 42 (0, 0))) := Lib.hid (box_below XA6.out b')
          have XB7 : Hid (w7.heap[(w3.heap.size + 1)]? = some (.cells #[.int .i64 n2, .int .i64 x2] 42 (0, 0))) := Lib.hid (box_below XB6.out b')
          have T7 := Lib.hid (nx T6.out b'); clear b'
          cases L1 with
          | false =>
            go_wp2_with fail
            go_ret
            exact ⟨rfl, T7.out⟩
          | true =>
            obtain rfl : L2 = false := by have h := HBOTH.out; simpa using h
            clear Al A0 A1 Af0 Af1 Bl B0 B1 Bf0 Bf1
            have Al := box_lt XA7.out
            obtain ⟨A0, A1, Af0, Af1⟩ := box_two XA7.out
            have Bl := box_lt XB7.out
            obtain ⟨B0, B1, Bf0, Bf1⟩ := box_two XB7.out
            go_wp2_with fail
            refine (HIL2.out _ (LA.out.1.kept T7.out)).mono ?_
            rintro _ w8 ⟨rfl, b'⟩
            have XA8 : Hid (w8.heap[w3.heap.size]? = some (.cells #[.int .i64 n1, .int .i64 x1] 42 (0, 0))) := Lib.hid (box_below XA7.out b')
            have XB8 : Hid (w8.heap[(w3.heap.size + 1)]? = some (.cells #[.int .i64 n2, .int .i64 x2] 42 (0, 0))) := Lib.hid (box_below XB7.out b')
            have T8 := Lib.hid (nx T7.out b'); clear b'
            go_wp2_with fail
            go_ret
            exact ⟨rfl, T8.out⟩
namespace fnReads
set_option maxRecDepth 100000 in
theorem walk : LawWalkX (fun W => LaidP W ∧ LaidE W) 8 Tryd.f8 := by
  intro H enc W base args ds p hval0 hA0 hL
  have hval : ∀ (j : Nat) t v, Tryd.f8.params[j]? = some t → args[j]? = some v → Value.okWide Tryd.prog W .any base t v := hval0
  have hA : DataW.TrodAll enc Tryd.prog W 0 (fun _ => true) true Tryd.f8.params.toList args.toList ds p := hA0
  clear hval0 hA0
  rw [Tryd.params8] at hA hval
  obtain ⟨v0, vs0, d0, ds0, p0, q0, hargs, rfl, rfl, h0, r0⟩ := trodAll_cons hA
  obtain ⟨rfl, rfl, rfl⟩ := trodAll_nil r0
  obtain rfl : args = #[v0] := by cases args; simp_all
  obtain ⟨a0, len0, cap0, rfl⟩ := okWide_slice Tryd.underlying39 (hval 0 39 v0 rfl rfl)
  obtain ⟨z0, rfl, w0, x0, y0, m0⟩ := open_ints_rd Tryd.underlying39 Tryd.underlying5 (by kernel_rfl) h0
  exact fnReads_law a0 cap0 z0 W hL w0 x0 y0 m0
theorem laid_met (os : Os) : laidMet Tryd.prog Rows.fnReadsRow.laid ((laidWorld os).forCall (fun _ _ => 0) ⟨#[], #[.slice none 0 0], []⟩).memory :=
  laidMet_of_run' 8 (by kernel_rfl) (by kernel_rfl)
theorem reads (os : Os) {H : Type} (enc : TypeId × Value → H) : ∃ places, DataW.whole enc Tryd.prog ((laidWorld os).forCall (fun _ _ => 0) ⟨#[], #[.slice none 0 0], []⟩).memory Tryd.f8.params.toList Rows.fnReadsSpec.vars false (#[Value.slice none 0 0] : Array Value).toList 8 = some ([.nil], [], places) :=
  ⟨[], by kernel_rfl⟩
set_option maxRecDepth 100000 in
theorem lifted (os : Os) (started : os.Started) (H : Type) (enc : TypeId × Value → H) (F : Stop.Interp) :
    ReturnsInHanded {} Tryd.checked os 8 .any ((OpenSpec.ofChange Rows.fnReadsSpec).preRow enc Tryd.prog Tryd.f8 Rows.fnReadsRow.domain false Rows.fnReadsRow.laid) (((OpenSpec.ofChange Rows.fnReadsSpec).at F).post enc Tryd.prog Tryd.f8 false true false false) := by
  obtain ⟨places, hx⟩ := reads os enc
  refine returnsInHanded_of_row (C := Tryd.checked) (s := OpenSpec.ofChange Rows.fnReadsSpec) own started (by kernel_rfl) Tryd.func8
    (witness_row_at (enc := enc) (C := Tryd.checked) false (laidWorld os) #[.slice none 0 0] rfl (by kernel_rfl) (by kernel_rfl) (by kernel_rfl)
      (OpenSpec.preRow_of_cond 8 hx (by kernel_rfl) (fun k hk => by cases hk) (by kernel_rfl) (laid_met os))) ?_
  intro W base args ds gs before hval hW _ _ _ hL _ _
  exact law_contractX (fun W => LaidP W ∧ LaidE W) 8 Tryd.f8 Rows.fnReadsSpec H enc rfl rfl (by kernel_rfl) (fun ds h => by match ds, h with | [_], _ => rfl) walk W base args ds gs before hval hW ⟨laidP_of hL (by simp [Rows.fnReadsRow]), laidE_of hL (by simp [Rows.fnReadsRow])⟩
theorem said : Rows.FnReadsSaid :=
  OpenClaim.holds_of_cond 8 Tryd.f8 rfl rfl rfl rfl rfl rfl rfl ⟨rfl, rfl, rfl, rfl, rfl⟩ rfl rfl rfl rfl rfl (by kernel_rfl) Tryd.func8 (by kernel_rfl)
    (of_decide_eq_true (by kernel_rfl)) (by unfold Func.isWrapper; first | (rw [if_pos (by decide +kernel)]; kernel_rfl) | (rw [if_neg (by decide +kernel)]; exact ⟨rfl, rfl⟩))
    (fun os started H enc _ F => by rw [OpenClaim.pre_eq_preRow]; exact lifted os started H enc F)
theorem plain (f : FuncId) (fn : Func) (hf : Tryd.pinned.checked.prog.funcNamed "loop.example/g00502/laws.FnReads" = some f) (hfn : Tryd.pinned.checked.prog.funcs[f]? = some fn) :
    true = Tryd.pinned.checked.prog.looks [] ∧ ∀ (j : Nat) t, fn.params[j]? = some t → Tryd.pinned.checked.prog.wantsStandIn t = false := by
  obtain rfl : f = 8 := Option.some.inj ((show Tryd.prog.funcNamed "loop.example/g00502/laws.FnReads" = some 8 by kernel_rfl).symm.trans hf) |>.symm
  obtain rfl : fn = Tryd.f8 := (Option.some.inj (Tryd.func8.symm.trans hfn)).symm
  refine ⟨by kernel_rfl, fun j t ht => ?_⟩
  have hall : Tryd.f8.params.toList.all (fun t => !Tryd.pinned.checked.prog.wantsStandIn t) = true := by kernel_rfl
  have hm := List.all_eq_true.1 hall t (by simpa using Array.mem_of_getElem? ht)
  simpa using hm
theorem proved : Rows.FnReadsCardSaid :=
  Claim7.holds_tied_plain_at .later [] _ _ _ _ said (fun _ h => by cases h) (by kernel_rfl) (fun _ h => by cases h) fnReads_row_tie rfl ⟨rfl, rfl⟩ (by kernel_rfl) rfl plain (by kernel_rfl)
#print axioms proved
end fnReads
end Go.Proofs.YtilmhemcpgiikaaDoor
