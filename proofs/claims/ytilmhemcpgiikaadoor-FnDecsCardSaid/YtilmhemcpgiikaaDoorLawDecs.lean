/- FnDecs: a number with a point comes back of its text, and each has one form. -/
import Derived.Test.YtilmhemcpgiikaaDoorDDecT
import Derived.Test.YtilmhemcpgiikaaDoorDSame
import Derived.Test.YtilmhemcpgiikaaDoorMBack
import Derived.Test.YtilmhemcpgiikaaDoorCReadI
import Derived.Test.YtilmhemcpgiikaaDoorCText
import Derived.Deep.RegionHeld3
import Derived.Deep.RegionWith
namespace Go.Proofs.YtilmhemcpgiikaaDoor
open Go.Deep Go.ChangeShapes Go.WideShapes Go.ChangeAt Go.RowKit
open Go.ChangeMaps (open_string shut_string)

set_option maxRecDepth 100000 in
set_option maxHeartbeats 8000000 in
theorem fnDecs_law (a : Option Addr) (cap : Nat) (zs : List Int) (w : World) (hL : LaidP w ∧ LaidE w) (hr : Rd w .u8 a zs) (hw : ∀ n ∈ zs, (Lit.int .u8 n).wf = true) (hcap : zs.length ≤ cap) (_hm : cap ≤ maxLen) :
    Calls Tryd.prog 7 #[.slice a zs.length cap] w fun e w' => e = .returned (.bool true) ∧ Below w.heap.size w w' := by
  have HR := Lib.hid hr; clear hr
  have HW := Lib.hid hw; clear hw
  have LA := Lib.hid hL; clear hL
  have Hlen := Lib.hid (show zs.length ≤ 9223372036854775807 by unfold maxLen at _hm; omega)
  cases hbig : decide ((1048576 : Int) < (zs.length : Int)) with
  | true =>
    have HB := Lib.hid hbig; clear hbig
    go_enter Tryd.func7, Tryd.ntmps7
    go_wp2_with fail
    refine (big_c _ _ _ _).mono ?_
    rintro _ _ ⟨rfl, rfl⟩
    rw [HB.out]
    go_wp2_with fail
    go_ret
    exact ⟨rfl, Below.refl _ _⟩
  | false =>
    have hlen : zs.length ≤ 1048576 := by have := of_decide_eq_false hbig; omega
    have HB := Lib.hid hbig; clear hbig
    go_enter Tryd.func7, Tryd.ntmps7
    go_wp2_with fail
    refine (big_c _ _ _ _).mono ?_
    rintro _ _ ⟨rfl, rfl⟩
    rw [HB.out]
    go_wp2_with fail
    refine (drawDecText_c zs a cap _ (by exact rd_kept (Below.refl w.heap.size w) HR.out) HW.out hlen hcap).mono ?_
    rintro _ w1 ⟨⟨n, x, rfl, hn, hx⟩, b'⟩
    have T1 := Lib.hid (nx (Below.refl w.heap.size w) b'); clear b'
    have NW := Lib.hid hn; clear hn
    clear hx
    go_wp2_with fail
    refine (drawDecNew_c zs a cap _ (by exact rd_kept (below_alloc T1.out _) HR.out) HW.out hlen hcap).mono ?_
    rintro _ w2 ⟨⟨N, X, rfl, hn, hx⟩, b'⟩
    have XD2 : Hid (w2.heap[w1.heap.size]? = some (.cells #[.int .i64 n, .int .i64 x] 42 (0, 0))) := Lib.hid (box_below (heap_alloc_new _ _) b')
    have T2 := Lib.hid (nx (below_alloc T1.out _) b'); clear b'
    have MW := Lib.hid hn; clear hn
    clear hx
    have HNW := Lib.hid (decNew_ok (n := N) (x := X))
    obtain ⟨⟨A, B, Q⟩, hQ⟩ : ∃ z : Int × Int × Bool, decNewF N X = z := ⟨_, rfl⟩
    have hci := fun w1 (hL : LaidP w1) => decNew_impl N X w1 hL MW.out.1 MW.out.2
    have hcs := fun w1 => decNew_spec N X w1 MW.out.1 MW.out.2
    rw [hQ] at hci hcs HNW
    dsimp only at hci hcs
    have HNW2 : Hid (Q = true → decOkB A B = true) := HNW; clear HNW hQ
    have HCI := Lib.hid hci; have HCS := Lib.hid hcs; clear hci hcs
    go_wp2_with fail
    refine (HCI.out _ (LA.out.1.kept T2.out)).mono ?_
    rintro _ w3 ⟨rfl, b'⟩
    have XD3 : Hid (w3.heap[w1.heap.size]? = some (.cells #[.int .i64 n, .int .i64 x] 42 (0, 0))) := Lib.hid (box_below XD2.out b')
    have T3 := Lib.hid (nx T2.out b'); clear b'
    go_wp2_with fail
    refine (HCS.out _).mono ?_
    rintro _ w4 ⟨rfl, b'⟩
    have XD4 : Hid (w4.heap[w1.heap.size]? = some (.cells #[.int .i64 n, .int .i64 x] 42 (0, 0))) := Lib.hid (box_below (box_alloc XD3.out _) b')
    have XE4 : Hid (w4.heap[w3.heap.size]? = some (.cells #[.int .i64 A, .int .i64 B] 42 (0, 0))) := Lib.hid (box_below (heap_alloc_new _ _) b')
    have T4 := Lib.hid (nx (below_alloc T3.out _) b'); clear b'
    have HTX := Lib.hid (decText_size (n := n) (x := x) NW.out.1 NW.out.2)
    have HTL := Lib.hid (show (decTextS n x).data.toList = decTextL n x by unfold decTextS; simp)
    obtain ⟨S, hS⟩ : ∃ S, decTextS n x = S := ⟨_, rfl⟩
    have hti := fun w1 (hL : LaidP w1) => decText_impl n x w1 hL NW.out.1 NW.out.2
    have hts := fun w1 => decText_spec n x w1 NW.out.1 NW.out.2
    rw [hS] at hti hts HTX HTL
    clear hS
    have HTI := Lib.hid hti; have HTS := Lib.hid hts; clear hti hts
    obtain ⟨K, hK⟩ : ∃ K, decOkB n x = K := ⟨_, rfl⟩
    have hoi := fun w1 (hL : LaidP w1) => decOk_impl n x w1 hL NW.out.1 NW.out.2
    have hos := fun w1 => decOk_spec n x w1 NW.out.1 NW.out.2
    rw [hK] at hoi hos
    have HOI := Lib.hid hoi; have HOS := Lib.hid hos; have HKK := Lib.hid hK; clear hoi hos hK
    have Dl := box_lt XD4.out
    obtain ⟨D0, D1, Df0, Df1⟩ := box_two XD4.out
    go_wp2_with fail
    refine (HTI.out _ (LA.out.1.kept (below_alloc T4.out _))).mono ?_
    rintro _ w5 ⟨rfl, b'⟩
    have XD5 : Hid (w5.heap[w1.heap.size]? = some (.cells #[.int .i64 n, .int .i64 x] 42 (0, 0))) := Lib.hid (box_below (box_alloc XD4.out _) b')
    have XE5 : Hid (w5.heap[w3.heap.size]? = some (.cells #[.int .i64 A, .int .i64 B] 42 (0, 0))) := Lib.hid (box_below (box_alloc XE4.out _) b')
    have XF5 : Hid (w5.heap[w4.heap.size]? = some (.cells #[.int .i64 A, .int .i64 B] 42 (0, 0))) := Lib.hid (box_below (heap_alloc_new _ _) b')
    have T5 := Lib.hid (nx (below_alloc T4.out _) b'); clear b'
    clear Dl D0 D1 Df0 Df1
    go_wp2_with fail
    have R1 := Lib.hid (fun w1 (_ : Below w5.heap.size w5 w1) => HTS.out w1)
    have R2 := Lib.hid (fun w1 (hb : Below w5.heap.size w5 w1) => HOI.out w1 (LA.out.1.kept (nx T5.out hb)))
    have R3 := Lib.hid (fun w1 (_ : Below w5.heap.size w5 w1) => HOS.out w1)
    have hq1 : (Q != Q) = false := by simp
    have hq2 : (K != K) = false := by simp
    have HK5 : Hid (∀ ww, Below w5.heap.size w5 ww → (ww.cell? ⟨w1.heap.size, 0, none⟩ = some (.int .i64 n) ∧ ww.cell? ⟨w1.heap.size, 1, none⟩ = some (.int .i64 x)) ∧ (ww.cell? ⟨w3.heap.size, 0, none⟩ = some (.int .i64 A) ∧ ww.cell? ⟨w3.heap.size, 1, none⟩ = some (.int .i64 B)) ∧ (ww.cell? ⟨w4.heap.size, 0, none⟩ = some (.int .i64 A) ∧ ww.cell? ⟨w4.heap.size, 1, none⟩ = some (.int .i64 B))) := Lib.hid (fun ww hb => ⟨⟨(two_num hb XD5.out).1, (two_num hb XD5.out).2.1⟩, ⟨(two_num hb XE5.out).1, (two_num hb XE5.out).2.1⟩, ⟨(two_num hb XF5.out).1, (two_num hb XF5.out).2.1⟩⟩)
    have d0 : Below w5.heap.size w5 w5.drew := (Below.refl _ _).drew
    have tok0 : True := trivial
    (first | (go_region_held3 (fun ww => (ww.cell? ⟨w1.heap.size, 0, none⟩ = some (.int .i64 n) ∧ ww.cell? ⟨w1.heap.size, 1, none⟩ = some (.int .i64 x)) ∧ (ww.cell? ⟨w3.heap.size, 0, none⟩ = some (.int .i64 A) ∧ ww.cell? ⟨w3.heap.size, 1, none⟩ = some (.int .i64 B)) ∧ (ww.cell? ⟨w4.heap.size, 0, none⟩ = some (.int .i64 A) ∧ ww.cell? ⟨w4.heap.size, 1, none⟩ = some (.int .i64 B))) (first | with_reducible exact HK5.out _ d3 | with_reducible exact HK5.out _ d2 | with_reducible exact HK5.out _ d1 | with_reducible exact HK5.out _ d0)
      (first
       | (go_at_call 32; have tk := tok0; (with_reducible refine (R1.out _ d0).mono ?_); rintro _ v1 ⟨rfl, b1⟩; have d1 := nx d0 b1; clear tok0 tk; have tok1 : True := trivial)
       | (go_at_call 33; have tk := tok1; (with_reducible refine (R2.out _ d1).mono ?_); rintro _ v2 ⟨rfl, b2⟩; have d2 := nx d1 b2; clear tok1 tk; have tok2 : True := trivial)
       | (go_at_call 34; have tk := tok2; (with_reducible refine (R3.out _ d2).mono ?_); rintro _ v3 ⟨rfl, b3⟩; have d3 := nx d2 b3; clear tok2 tk; have tok3 : True := trivial))) | fail)
    all_goals
      obtain ⟨w6, hw6⟩ : ∃ wx, wx = v3 := ⟨_, rfl⟩
      have XD6 : Hid (w6.heap[w1.heap.size]? = some (.cells #[.int .i64 n, .int .i64 x] 42 (0, 0))) := Lib.hid (by rw [hw6]; exact box_below XD5.out d3)
      have XE6 : Hid (w6.heap[w3.heap.size]? = some (.cells #[.int .i64 A, .int .i64 B] 42 (0, 0))) := Lib.hid (by rw [hw6]; exact box_below XE5.out d3)
      have XF6 : Hid (w6.heap[w4.heap.size]? = some (.cells #[.int .i64 A, .int .i64 B] 42 (0, 0))) := Lib.hid (by rw [hw6]; exact box_below XF5.out d3)
      have T6 := Lib.hid (show Below w.heap.size w w6 by rw [hw6]; exact nx T5.out d3)
      rw [← hw6]
      clear d3 d2 d1 d0 tok3 hw6
      clear R1 R2 R3
      have Dl := box_lt XD6.out
      obtain ⟨D0, D1, Df0, Df1⟩ := box_two XD6.out
      have El := box_lt XE6.out
      obtain ⟨E0, E1, Ef0, Ef1⟩ := box_two XE6.out
      cases Q with
      | false =>
        go_wp2_with fail
        refine (HOI.out _ (LA.out.1.kept T6.out)).mono ?_
        rintro _ w7 ⟨rfl, b'⟩
        have XD7 : Hid (w7.heap[w1.heap.size]? = some (.cells #[.int .i64 n, .int .i64 x] 42 (0, 0))) := Lib.hid (box_below XD6.out b')
        have XE7 : Hid (w7.heap[w3.heap.size]? = some (.cells #[.int .i64 A, .int .i64 B] 42 (0, 0))) := Lib.hid (box_below XE6.out b')
        have XF7 : Hid (w7.heap[w4.heap.size]? = some (.cells #[.int .i64 A, .int .i64 B] 42 (0, 0))) := Lib.hid (box_below XF6.out b')
        have T7 := Lib.hid (nx T6.out b'); clear b'
        clear D0 D1 Df0 Df1 Dl
        have Dl := box_lt XD7.out
        obtain ⟨D0, D1, Df0, Df1⟩ := box_two XD7.out
        cases K with
        | false =>
          have hse : S = ⟨#[]⟩ := by have h := HTL.out; rw [decTextL_no HKK.out] at h; exact (by cases S; simp_all)
          subst hse
          go_wp2_with fail
          go_ret
          exact ⟨rfl, T7.out⟩
        | true =>
          have hrd := fun w1 (hL : LaidE w1) => readNumber_impl S 0 w1 (by have := HTX.out; omega) hL
          rw [HTL.out, rn_back HKK.out] at hrd
          rw [← HTL.out, str_len] at hrd
          unfold rnV at hrd
          dsimp only at hrd
          have HRD := Lib.hid hrd; clear hrd
          have hnb := fun w1 (hL : LaidP w1) => decNew_impl n x w1 hL NW.out.1 NW.out.2
          rw [decNew_back HKK.out] at hnb
          dsimp only at hnb
          have HNB := Lib.hid hnb; clear hnb
          go_wp2_with fail
          refine (HRD.out _ (LA.out.2.kept T7.out)).mono ?_
          rintro _ w8 ⟨rfl, b'⟩
          have XD8 : Hid (w8.heap[w1.heap.size]? = some (.cells #[.int .i64 n, .int .i64 x] 42 (0, 0))) := Lib.hid (box_below XD7.out b')
          have XE8 : Hid (w8.heap[w3.heap.size]? = some (.cells #[.int .i64 A, .int .i64 B] 42 (0, 0))) := Lib.hid (box_below XE7.out b')
          have XF8 : Hid (w8.heap[w4.heap.size]? = some (.cells #[.int .i64 A, .int .i64 B] 42 (0, 0))) := Lib.hid (box_below XF7.out b')
          have T8 := Lib.hid (nx T7.out b'); clear b'
          go_wp2_with fail
          refine (HNB.out _ (LA.out.1.kept T8.out)).mono ?_
          rintro _ w9 ⟨rfl, b'⟩
          have XD9 : Hid (w9.heap[w1.heap.size]? = some (.cells #[.int .i64 n, .int .i64 x] 42 (0, 0))) := Lib.hid (box_below XD8.out b')
          have XE9 : Hid (w9.heap[w3.heap.size]? = some (.cells #[.int .i64 A, .int .i64 B] 42 (0, 0))) := Lib.hid (box_below XE8.out b')
          have XF9 : Hid (w9.heap[w4.heap.size]? = some (.cells #[.int .i64 A, .int .i64 B] 42 (0, 0))) := Lib.hid (box_below XF8.out b')
          have T9 := Lib.hid (nx T8.out b'); clear b'
          clear D0 D1 Df0 Df1 Dl
          have Dl := box_lt XD9.out
          obtain ⟨D0, D1, Df0, Df1⟩ := box_two XD9.out
          go_wp2_with fail
          refine (HNB.out _ (by exact (LA.out.1.kept (below_alloc T9.out _)))).mono ?_
          rintro _ w10 ⟨rfl, b'⟩
          have XD10 : Hid (w10.heap[w1.heap.size]? = some (.cells #[.int .i64 n, .int .i64 x] 42 (0, 0))) := Lib.hid (box_below (box_alloc XD9.out _) b')
          have XE10 : Hid (w10.heap[w3.heap.size]? = some (.cells #[.int .i64 A, .int .i64 B] 42 (0, 0))) := Lib.hid (box_below (box_alloc XE9.out _) b')
          have XF10 : Hid (w10.heap[w4.heap.size]? = some (.cells #[.int .i64 A, .int .i64 B] 42 (0, 0))) := Lib.hid (box_below (box_alloc XF9.out _) b')
          have XG10 : Hid (w10.heap[w9.heap.size]? = some (.cells #[.int .i64 n, .int .i64 x] 42 (0, 0))) := Lib.hid (box_below (heap_alloc_new _ _) b')
          have T10 := Lib.hid (nx (below_alloc T9.out _) b'); clear b'
          clear D0 D1 Df0 Df1 Dl
          have Dl := box_lt XD10.out
          obtain ⟨D0, D1, Df0, Df1⟩ := box_two XD10.out
          have Gl := box_lt XG10.out
          obtain ⟨G0, G1, Gf0, Gf1⟩ := box_two XG10.out
          go_wp2_with fail
          go_ret
          exact ⟨rfl, (below_alloc T10.out _)⟩
      | true =>
        have HOK := Lib.hid (HNW2.out rfl)
        have HAB := Lib.hid (dec_rng HOK.out)
        go_wp2_with fail
        refine (decOk_impl A B _ (LA.out.1.kept T6.out) (by have := HAB.out; omega) (by have := HAB.out; omega)).mono ?_
        rintro _ w7 ⟨rfl, b'⟩
        have XD7 : Hid (w7.heap[w1.heap.size]? = some (.cells #[.int .i64 n, .int .i64 x] 42 (0, 0))) := Lib.hid (box_below XD6.out b')
        have XE7 : Hid (w7.heap[w3.heap.size]? = some (.cells #[.int .i64 A, .int .i64 B] 42 (0, 0))) := Lib.hid (box_below XE6.out b')
        have XF7 : Hid (w7.heap[w4.heap.size]? = some (.cells #[.int .i64 A, .int .i64 B] 42 (0, 0))) := Lib.hid (box_below XF6.out b')
        have T7 := Lib.hid (nx T6.out b'); clear b'
        rw [HOK.out]
        clear D0 D1 Df0 Df1 Dl
        have Dl := box_lt XD7.out
        obtain ⟨D0, D1, Df0, Df1⟩ := box_two XD7.out
        go_wp2_with fail
        refine (HOI.out _ (LA.out.1.kept T7.out)).mono ?_
        rintro _ w8 ⟨rfl, b'⟩
        have XD8 : Hid (w8.heap[w1.heap.size]? = some (.cells #[.int .i64 n, .int .i64 x] 42 (0, 0))) := Lib.hid (box_below XD7.out b')
        have XE8 : Hid (w8.heap[w3.heap.size]? = some (.cells #[.int .i64 A, .int .i64 B] 42 (0, 0))) := Lib.hid (box_below XE7.out b')
        have XF8 : Hid (w8.heap[w4.heap.size]? = some (.cells #[.int .i64 A, .int .i64 B] 42 (0, 0))) := Lib.hid (box_below XF7.out b')
        have T8 := Lib.hid (nx T7.out b'); clear b'
        clear D0 D1 Df0 Df1 Dl
        have Dl := box_lt XD8.out
        obtain ⟨D0, D1, Df0, Df1⟩ := box_two XD8.out
        cases K with
        | false =>
          have hse : S = ⟨#[]⟩ := by have h := HTL.out; rw [decTextL_no HKK.out] at h; exact (by cases S; simp_all)
          subst hse
          go_wp2_with fail
          go_ret
          exact ⟨rfl, T8.out⟩
        | true =>
          have hrd := fun w1 (hL : LaidE w1) => readNumber_impl S 0 w1 (by have := HTX.out; omega) hL
          rw [HTL.out, rn_back HKK.out] at hrd
          rw [← HTL.out, str_len] at hrd
          unfold rnV at hrd
          dsimp only at hrd
          have HRD := Lib.hid hrd; clear hrd
          have hnb := fun w1 (hL : LaidP w1) => decNew_impl n x w1 hL NW.out.1 NW.out.2
          rw [decNew_back HKK.out] at hnb
          dsimp only at hnb
          have HNB := Lib.hid hnb; clear hnb
          go_wp2_with fail
          refine (HRD.out _ (LA.out.2.kept T8.out)).mono ?_
          rintro _ w9 ⟨rfl, b'⟩
          have XD9 : Hid (w9.heap[w1.heap.size]? = some (.cells #[.int .i64 n, .int .i64 x] 42 (0, 0))) := Lib.hid (box_below XD8.out b')
          have XE9 : Hid (w9.heap[w3.heap.size]? = some (.cells #[.int .i64 A, .int .i64 B] 42 (0, 0))) := Lib.hid (box_below XE8.out b')
          have XF9 : Hid (w9.heap[w4.heap.size]? = some (.cells #[.int .i64 A, .int .i64 B] 42 (0, 0))) := Lib.hid (box_below XF8.out b')
          have T9 := Lib.hid (nx T8.out b'); clear b'
          go_wp2_with fail
          refine (HNB.out _ (LA.out.1.kept T9.out)).mono ?_
          rintro _ w10 ⟨rfl, b'⟩
          have XD10 : Hid (w10.heap[w1.heap.size]? = some (.cells #[.int .i64 n, .int .i64 x] 42 (0, 0))) := Lib.hid (box_below XD9.out b')
          have XE10 : Hid (w10.heap[w3.heap.size]? = some (.cells #[.int .i64 A, .int .i64 B] 42 (0, 0))) := Lib.hid (box_below XE9.out b')
          have XF10 : Hid (w10.heap[w4.heap.size]? = some (.cells #[.int .i64 A, .int .i64 B] 42 (0, 0))) := Lib.hid (box_below XF9.out b')
          have T10 := Lib.hid (nx T9.out b'); clear b'
          clear D0 D1 Df0 Df1 Dl
          have Dl := box_lt XD10.out
          obtain ⟨D0, D1, Df0, Df1⟩ := box_two XD10.out
          go_wp2_with fail
          refine (HNB.out _ (by exact (LA.out.1.kept (below_alloc T10.out _)))).mono ?_
          rintro _ w11 ⟨rfl, b'⟩
          have XD11 : Hid (w11.heap[w1.heap.size]? = some (.cells #[.int .i64 n, .int .i64 x] 42 (0, 0))) := Lib.hid (box_below (box_alloc XD10.out _) b')
          have XE11 : Hid (w11.heap[w3.heap.size]? = some (.cells #[.int .i64 A, .int .i64 B] 42 (0, 0))) := Lib.hid (box_below (box_alloc XE10.out _) b')
          have XF11 : Hid (w11.heap[w4.heap.size]? = some (.cells #[.int .i64 A, .int .i64 B] 42 (0, 0))) := Lib.hid (box_below (box_alloc XF10.out _) b')
          have XG11 : Hid (w11.heap[w10.heap.size]? = some (.cells #[.int .i64 n, .int .i64 x] 42 (0, 0))) := Lib.hid (box_below (heap_alloc_new _ _) b')
          have T11 := Lib.hid (nx (below_alloc T10.out _) b'); clear b'
          clear D0 D1 Df0 Df1 Dl
          have Dl := box_lt XD11.out
          obtain ⟨D0, D1, Df0, Df1⟩ := box_two XD11.out
          have Gl := box_lt XG11.out
          obtain ⟨G0, G1, Gf0, Gf1⟩ := box_two XG11.out
          go_wp2_with fail
          go_ret
          exact ⟨rfl, (below_alloc T11.out _)⟩
namespace fnDecs
set_option maxRecDepth 100000 in
theorem walk : LawWalkX (fun W => LaidP W ∧ LaidE W) 7 Tryd.f7 := by
  intro H enc W base args ds p hval0 hA0 hL
  have hval : ∀ (j : Nat) t v, Tryd.f7.params[j]? = some t → args[j]? = some v → Value.okWide Tryd.prog W .any base t v := hval0
  have hA : DataW.TrodAll enc Tryd.prog W 0 (fun _ => true) true Tryd.f7.params.toList args.toList ds p := hA0
  clear hval0 hA0
  rw [Tryd.params7] at hA hval
  obtain ⟨v0, vs0, d0, ds0, p0, q0, hargs, rfl, rfl, h0, r0⟩ := trodAll_cons hA
  obtain ⟨rfl, rfl, rfl⟩ := trodAll_nil r0
  obtain rfl : args = #[v0] := by cases args; simp_all
  obtain ⟨a0, len0, cap0, rfl⟩ := okWide_slice Tryd.underlying39 (hval 0 39 v0 rfl rfl)
  obtain ⟨z0, rfl, w0, x0, y0, m0⟩ := open_ints_rd Tryd.underlying39 Tryd.underlying5 (by kernel_rfl) h0
  exact fnDecs_law a0 cap0 z0 W hL w0 x0 y0 m0
theorem laid_met (os : Os) : laidMet Tryd.prog Rows.fnDecsRow.laid ((laidWorld os).forCall (fun _ _ => 0) ⟨#[], #[.slice none 0 0], []⟩).memory :=
  laidMet_of_run' 8 (by kernel_rfl) (by kernel_rfl)
theorem reads (os : Os) {H : Type} (enc : TypeId × Value → H) : ∃ places, DataW.whole enc Tryd.prog ((laidWorld os).forCall (fun _ _ => 0) ⟨#[], #[.slice none 0 0], []⟩).memory Tryd.f7.params.toList Rows.fnDecsSpec.vars false (#[Value.slice none 0 0] : Array Value).toList 8 = some ([.nil], [], places) :=
  ⟨[], by kernel_rfl⟩
set_option maxRecDepth 100000 in
theorem lifted (os : Os) (started : os.Started) (H : Type) (enc : TypeId × Value → H) (F : Stop.Interp) :
    ReturnsInHanded {} Tryd.checked os 7 .any ((OpenSpec.ofChange Rows.fnDecsSpec).preRow enc Tryd.prog Tryd.f7 Rows.fnDecsRow.domain false Rows.fnDecsRow.laid) (((OpenSpec.ofChange Rows.fnDecsSpec).at F).post enc Tryd.prog Tryd.f7 false true false false) := by
  obtain ⟨places, hx⟩ := reads os enc
  refine returnsInHanded_of_row (C := Tryd.checked) (s := OpenSpec.ofChange Rows.fnDecsSpec) own started (by kernel_rfl) Tryd.func7
    (witness_row_at (enc := enc) (C := Tryd.checked) false (laidWorld os) #[.slice none 0 0] rfl (by kernel_rfl) (by kernel_rfl) (by kernel_rfl)
      (OpenSpec.preRow_of_cond 8 hx (by kernel_rfl) (fun k hk => by cases hk) (by kernel_rfl) (laid_met os))) ?_
  intro W base args ds gs before hval hW _ _ _ hL _ _
  exact law_contractX (fun W => LaidP W ∧ LaidE W) 7 Tryd.f7 Rows.fnDecsSpec H enc rfl rfl (by kernel_rfl) (fun ds h => by match ds, h with | [_], _ => rfl) walk W base args ds gs before hval hW ⟨laidP_of hL (by simp [Rows.fnDecsRow]), laidE_of hL (by simp [Rows.fnDecsRow])⟩
theorem said : Rows.FnDecsSaid :=
  OpenClaim.holds_of_cond 7 Tryd.f7 rfl rfl rfl rfl rfl rfl rfl ⟨rfl, rfl, rfl, rfl, rfl⟩ rfl rfl rfl rfl rfl (by kernel_rfl) Tryd.func7 (by kernel_rfl)
    (of_decide_eq_true (by kernel_rfl)) (by unfold Func.isWrapper; first | (rw [if_pos (by decide +kernel)]; kernel_rfl) | (rw [if_neg (by decide +kernel)]; exact ⟨rfl, rfl⟩))
    (fun os started H enc _ F => by rw [OpenClaim.pre_eq_preRow]; exact lifted os started H enc F)
theorem plain (f : FuncId) (fn : Func) (hf : Tryd.pinned.checked.prog.funcNamed "loop.example/g00502/laws.FnDecs" = some f) (hfn : Tryd.pinned.checked.prog.funcs[f]? = some fn) :
    true = Tryd.pinned.checked.prog.looks [] ∧ ∀ (j : Nat) t, fn.params[j]? = some t → Tryd.pinned.checked.prog.wantsStandIn t = false := by
  obtain rfl : f = 7 := Option.some.inj ((show Tryd.prog.funcNamed "loop.example/g00502/laws.FnDecs" = some 7 by kernel_rfl).symm.trans hf) |>.symm
  obtain rfl : fn = Tryd.f7 := (Option.some.inj (Tryd.func7.symm.trans hfn)).symm
  refine ⟨by kernel_rfl, fun j t ht => ?_⟩
  have hall : Tryd.f7.params.toList.all (fun t => !Tryd.pinned.checked.prog.wantsStandIn t) = true := by kernel_rfl
  have hm := List.all_eq_true.1 hall t (by simpa using Array.mem_of_getElem? ht)
  simpa using hm
theorem proved : Rows.FnDecsCardSaid :=
  Claim7.holds_tied_plain_at .later [] _ _ _ _ said (fun _ h => by cases h) (by kernel_rfl) (fun _ h => by cases h) fnDecs_row_tie rfl ⟨rfl, rfl⟩ (by kernel_rfl) rfl plain (by kernel_rfl)
#print axioms proved
end fnDecs
end Go.Proofs.YtilmhemcpgiikaaDoor
