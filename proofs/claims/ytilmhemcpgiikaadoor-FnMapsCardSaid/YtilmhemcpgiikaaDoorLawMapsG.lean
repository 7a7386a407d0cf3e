/- FnMaps: sorted, all names are there, none ahead of a lesser one; what the last of a name stands for is what it stands for. -/
import Derived.Deep.RegionHeld3
import Derived.Deep.RegionWith
import Derived.Deep.DeepCutAuto
import Derived.Test.YtilmhemcpgiikaaDoorGMaps2
namespace Go.Proofs.YtilmhemcpgiikaaDoor
open Go.Deep Go.ChangeShapes Go.WideShapes Go.ChangeAt Go.RowKit
open Go.ChangeMaps (open_string shut_string)

theorem sameLaw_eq (t : Tree) (w : World) (u u' : Value) (hu : TSl w u t.l) (hu' : TSl w u' t.l) (hf : Fits t.kind t.n t.x t.s) :
    Calls Tryd.prog 63 #[.agg #[.int .i64 t.kind, .int .i64 t.n, .int .i64 t.x, .string t.s, u], .agg #[.int .i64 t.kind, .int .i64 t.n, .int .i64 t.x, .string t.s, u']] w fun e w' => e = .returned (.bool true) ∧ Below w.heap.size w w' := by
  have q := sameLaw_c t t w u u' hu hu' hf hf
  rw [sameB_true.2 rfl] at q
  exact q
theorem sameVals_eq (l : List Tree) (w : World) (u u' : Value) (hu : TSl w u l) (hu' : TSl w u' l) :
    Calls Tryd.prog 64 #[u, u'] w fun e w' => e = .returned (.bool true) ∧ Below w.heap.size w w' := by
  have q := sameVals_c l l w u u' hu hu'
  rw [sameB_true.2 rfl] at q
  exact q
theorem NmD.nm {t : Tree} (h : NmD t) : Nm t := by
  rcases h with ⟨n, -, rfl⟩ | ⟨s, -, rfl⟩
  · exact .inl ⟨n, rfl⟩
  · exact .inr ⟨s, rfl⟩
theorem evens_mem1 {z : Tree} : ∀ l : List Tree, z ∈ evens l → z ∈ l
  | [], h => by simp [evens] at h
  | [a], h => by simpa [evens] using h
  | a :: b :: l, h => by
    rw [evens] at h
    rcases List.mem_cons.1 h with rfl | h
    · exact List.mem_cons_self ..
    · exact List.mem_cons_of_mem _ (List.mem_cons_of_mem _ (evens_mem1 l h))
theorem names_mem {t z : Tree} (h : z ∈ namesF t) : z ∈ t.l := by
  unfold namesF at h
  split at h
  · exact evens_mem1 _ h
  · simp at h
theorem zero_fits : Fits zeroT.kind zeroT.n zeroT.x zeroT.s := ⟨⟨by show _ ≤ (0 : Int); decide, by show (0 : Int) ≤ _; decide⟩, ⟨by show _ ≤ (0 : Int); decide, by show (0 : Int) ≤ _; decide⟩, ⟨by show _ ≤ (0 : Int); decide, by show (0 : Int) ≤ _; decide⟩, by show (0 : Nat) ≤ _; decide⟩
theorem lookR_fits {t t' : Tree} (h : MapT t) : Fits (lookR t t').kind (lookR t t').n (lookR t t').x (lookR t t').s := by
  have key : lookR t t' = zeroT ∨ lookR t t' ∈ t.l := by
    unfold lookR lookO
    split
    · cases e : lookAt t.l t' (t.l.length / 2) with
      | none => exact .inl rfl
      | some r => exact .inr (lookAt_mem _ _ _ _ e)
    · exact .inl rfl
  rcases key with h0 | h0
  · rw [h0]; exact zero_fits
  · exact (h.2.2.2.2.1 _ h0).fits

set_option maxRecDepth 100000 in
set_option maxHeartbeats 40000000 in
theorem fnMaps_law (a : Option Addr) (cap : Nat) (zs : List Int) (w : World) (hL : LaidP w) (hr : Rd w .u8 a zs) (hw : ∀ n ∈ zs, (Lit.int .u8 n).wf = true) (hcap : zs.length ≤ cap) (_hm : cap ≤ maxLen) :
    Calls Tryd.prog 11 #[.slice a zs.length cap] w fun e w' => e = .returned (.bool true) ∧ Below w.heap.size w w' := by
  have HR := Lib.hid hr; clear hr
  have HW := Lib.hid hw; clear hw
  have LA := Lib.hid hL; clear hL
  have Hlen := Lib.hid (show zs.length ≤ 9223372036854775807 by unfold maxLen at _hm; omega)
  cases hbig : decide ((1048576 : Int) < (zs.length : Int)) with
  | true =>
    have HB := Lib.hid hbig; clear hbig
    go_enter Tryd.func11, Tryd.ntmps11
    go_wp2_with fail
    refine (big_c _ _ _ _).mono ?_
    rintro _ _ ⟨rfl, rfl⟩
    rw [HB.out]
    go_wp2_with fail
    go_ret
    exact ⟨rfl, Below.refl _ _⟩
  | false =>
    have hlen : zs.length ≤ 1048576 := by have := of_decide_eq_false hbig; omega
    have HB := Lib.hid hbig; clear hbig
    go_enter Tryd.func11, Tryd.ntmps11
    go_wp2_with fail
    refine (big_c _ _ _ _).mono ?_
    rintro _ _ ⟨rfl, rfl⟩
    rw [HB.out]
    go_wp2_with fail
    refine (drawSortMap_c zs a cap _ (by exact rd_kept (Below.refl w.heap.size w) HR.out) HW.out hlen hcap).mono ?_
    rintro _ w1 ⟨⟨t1, u1, rfl, h1, s1⟩, b'⟩
    have T1 := Lib.hid (nx (Below.refl w.heap.size w) b'); clear b'
    have HT1 := Lib.hid h1; clear h1
    obtain ⟨a1, c1, rfl⟩ : ∃ a c, u1 = .slice a t1.l.length c := by
      obtain ⟨q1, q2, _, _, q3, _⟩ := s1
      exact ⟨q1, q2, q3⟩
    have TSV1 := Lib.hid s1; clear s1
    have hc1 := HT1.out.cost
    obtain ⟨t2, e2⟩ : ∃ q, q = sortT t1 := ⟨_, rfl⟩
    have hC2 := fun ww (hL : LaidP ww) (hs : TSl ww (.slice a1 t1.l.length c1) t1.l) => sortMap_impl t1 ww (.slice a1 t1.l.length c1) hL (by omega) hs HT1.out.fits
    rw [← e2] at hC2
    have HC2 := Lib.hid hC2; clear hC2
    have HE2 := Lib.hid e2; clear e2
    go_wp2_with fail
    refine (HC2.out _ (LA.out.kept (below_alloc T1.out _)) (by exact (TSl.kept (below1 _ _) TSV1.out))).mono ?_
    rintro _ w2 ⟨a2, n2, c2, rfl, o2, b'⟩
    have XV2 : Hid (w2.heap[w1.heap.size]? = some (.cells #[.int .i64 t1.kind, .int .i64 t1.n, .int .i64 t1.x, .string t1.s, .slice a1 t1.l.length c1] 29 (0, 0))) := Lib.hid (box_below (heap_alloc_new _ _) b')
    have TSV2 := Lib.hid (TSl.kept b' (TSl.kept (below1 _ _) TSV1.out))
    have T2 := Lib.hid (nx (below_alloc T1.out _) b'); clear b'
    obtain rfl : n2 = t1.l.length := by
      obtain ⟨q1, q2, _, _, q3, _⟩ := o2.tsl
      injection q3 with _ q4 _
      rw [q4, HE2.out, sortT_len]
    have TSX2 := Lib.hid o2.tsl; clear o2
    go_wp2_with fail
    refine (drawLookup_c zs a cap _ (by exact rd_kept (below_alloc T2.out _) HR.out) HW.out hlen hcap).mono ?_
    rintro _ w3 ⟨⟨t3, t4, u3, rfl, h3, h4, s3⟩, b'⟩
    have XV3 : Hid (w3.heap[w1.heap.size]? = some (.cells #[.int .i64 t1.kind, .int .i64 t1.n, .int .i64 t1.x, .string t1.s, .slice a1 t1.l.length c1] 29 (0, 0))) := Lib.hid (box_below (box_alloc XV2.out _) b')
    have XX3 : Hid (w3.heap[w2.heap.size]? = some (.cells #[.int .i64 t2.kind, .int .i64 t2.n, .int .i64 t2.x, .string t2.s, .slice a2 t1.l.length c2] 29 (0, 0))) := Lib.hid (box_below (heap_alloc_new _ _) b')
    have TSV3 := Lib.hid (TSl.kept b' (TSl.kept (below1 _ _) TSV2.out))
    have TSX3 := Lib.hid (TSl.kept b' (TSl.kept (below1 _ _) TSX2.out))
    have T3 := Lib.hid (nx (below_alloc T2.out _) b'); clear b'
    have HT3 := Lib.hid h3; have HT4 := Lib.hid h4; clear h3 h4
    obtain ⟨a3, n3, c3, rfl⟩ := s3.form
    have TSM3 := Lib.hid s3; clear s3
    have TSK3 : Hid (TSl w3 (.slice none 0 0) t4.l) := Lib.hid (by rw [HT4.out.cost.2]; exact tsl_nil _)
    have hc3 := HT3.out.cost
    have hf3 := HT3.out.fits
    have hf4 := HT4.out.fits
    have hLI := fun ww (hm : TSl ww (.slice a3 n3 c3) t3.l) (hk : TSl ww (.slice none 0 0) t4.l) => look_impl t3 t4 ww (.slice a3 n3 c3) (.slice none 0 0) (by omega) hm hk hf3 hf4
    have hLS := fun ww (hm : TSl ww (.slice a3 n3 c3) t3.l) (hk : TSl ww (.slice none 0 0) t4.l) => look_spec t3 t4 ww (.slice a3 n3 c3) (.slice none 0 0) (by omega) hm hk hf3 hf4
    have hfr := show Fits (lookR t3 t4).kind (lookR t3 t4).n (lookR t3 t4).x (lookR t3 t4).s from lookR_fits HT3.out
    generalize lookR t3 t4 = t5 at *
    generalize lookB t3 t4 = B5 at *
    have HLI := Lib.hid hLI; have HLS := Lib.hid hLS; have HFR := Lib.hid hfr; clear hLI hLS hfr hc3 hf3 hf4
    go_wp2_with fail
    refine (HLI.out _ (by exact (TSl.kept (below1 _ _) (TSl.kept (below1 _ _) TSM3.out))) (by exact (TSl.kept (below1 _ _) (TSl.kept (below1 _ _) TSK3.out)))).mono ?_
    rintro _ w4 ⟨a5, n5, c5, rfl, o5, b'⟩
    have XV4 : Hid (w4.heap[w1.heap.size]? = some (.cells #[.int .i64 t1.kind, .int .i64 t1.n, .int .i64 t1.x, .string t1.s, .slice a1 t1.l.length c1] 29 (0, 0))) := Lib.hid (box_below (box_alloc (box_alloc XV3.out _) _) b')
    have XX4 : Hid (w4.heap[w2.heap.size]? = some (.cells #[.int .i64 t2.kind, .int .i64 t2.n, .int .i64 t2.x, .string t2.s, .slice a2 t1.l.length c2] 29 (0, 0))) := Lib.hid (box_below (box_alloc (box_alloc XX3.out _) _) b')
    have XM4 : Hid (w4.heap[w3.heap.size]? = some (.cells #[.int .i64 t3.kind, .int .i64 t3.n, .int .i64 t3.x, .string t3.s, .slice a3 n3 c3] 29 (0, 0))) := Lib.hid (box_below (first_block _ _ _) b')
    have XK4 : Hid (w4.heap[(w3.heap.size + 1)]? = some (.cells #[.int .i64 t4.kind, .int .i64 t4.n, .int .i64 t4.x, .string t4.s, .slice none 0 0] 29 (0, 0))) := Lib.hid (box_below (second_block2 _ _ _) b')
    have TSV4 := Lib.hid (TSl.kept b' (TSl.kept (below1 _ _) (TSl.kept (below1 _ _) TSV3.out)))
    have TSX4 := Lib.hid (TSl.kept b' (TSl.kept (below1 _ _) (TSl.kept (below1 _ _) TSX3.out)))
    have TSM4 := Lib.hid (TSl.kept b' (TSl.kept (below1 _ _) (TSl.kept (below1 _ _) TSM3.out)))
    have TSK4 := Lib.hid (TSl.kept b' (TSl.kept (below1 _ _) (TSl.kept (below1 _ _) TSK3.out)))
    have T4 := Lib.hid (nx (below_alloc (below_alloc T3.out _) _) b'); clear b'
    have TSY4 := Lib.hid o5.tsl; clear o5
    have Ml := box_lt XM4.out
    obtain ⟨M0, M1, M2, M3, M4, Mf0, Mf1, Mf2, Mf3, Mf4⟩ := five_open XM4.out
    have Kl := box_lt XK4.out
    obtain ⟨K0, K1, K2, K3, K4, Kf0, Kf1, Kf2, Kf3, Kf4⟩ := five_open XK4.out
    go_wp2_with fail
    refine (HLS.out _ (by exact (TSl.kept (below1 _ _) TSM4.out)) (by exact (TSl.kept (below1 _ _) TSK4.out))).mono ?_
    rintro _ w5 ⟨a6, n6, c6, rfl, o6, b'⟩
    have XV5 : Hid (w5.heap[w1.heap.size]? = some (.cells #[.int .i64 t1.kind, .int .i64 t1.n, .int .i64 t1.x, .string t1.s, .slice a1 t1.l.length c1] 29 (0, 0))) := Lib.hid (box_below (box_alloc XV4.out _) b')
    have XX5 : Hid (w5.heap[w2.heap.size]? = some (.cells #[.int .i64 t2.kind, .int .i64 t2.n, .int .i64 t2.x, .string t2.s, .slice a2 t1.l.length c2] 29 (0, 0))) := Lib.hid (box_below (box_alloc XX4.out _) b')
    have XM5 : Hid (w5.heap[w3.heap.size]? = some (.cells #[.int .i64 t3.kind, .int .i64 t3.n, .int .i64 t3.x, .string t3.s, .slice a3 n3 c3] 29 (0, 0))) := Lib.hid (box_below (box_alloc XM4.out _) b')
    have XK5 : Hid (w5.heap[(w3.heap.size + 1)]? = some (.cells #[.int .i64 t4.kind, .int .i64 t4.n, .int .i64 t4.x, .string t4.s, .slice none 0 0] 29 (0, 0))) := Lib.hid (box_below (box_alloc XK4.out _) b')
    have XY5 : Hid (w5.heap[w4.heap.size]? = some (.cells #[.int .i64 t5.kind, .int .i64 t5.n, .int .i64 t5.x, .string t5.s, .slice a5 n5 c5] 29 (0, 0))) := Lib.hid (box_below (heap_alloc_new _ _) b')
    have TSV5 := Lib.hid (TSl.kept b' (TSl.kept (below1 _ _) TSV4.out))
    have TSX5 := Lib.hid (TSl.kept b' (TSl.kept (below1 _ _) TSX4.out))
    have TSM5 := Lib.hid (TSl.kept b' (TSl.kept (below1 _ _) TSM4.out))
    have TSK5 := Lib.hid (TSl.kept b' (TSl.kept (below1 _ _) TSK4.out))
    have TSY5 := Lib.hid (TSl.kept b' (TSl.kept (below1 _ _) TSY4.out))
    have T5 := Lib.hid (nx (below_alloc T4.out _) b'); clear b'
    clear Ml M0 M1 M2 M3 M4 Mf0 Mf1 Mf2 Mf3 Mf4
    clear Kl K0 K1 K2 K3 K4 Kf0 Kf1 Kf2 Kf3 Kf4
    have TSZ5 := Lib.hid o6.tsl; clear o6
    go_wp2_with fail
    refine (drawSorted_c zs a cap _ (by exact rd_kept (below_alloc T5.out _) HR.out) HW.out hlen hcap).mono ?_
    rintro _ w6 ⟨⟨t7, u7, rfl, h7, f7, s7⟩, b'⟩
    have XV6 : Hid (w6.heap[w1.heap.size]? = some (.cells #[.int .i64 t1.kind, .int .i64 t1.n, .int .i64 t1.x, .string t1.s, .slice a1 t1.l.length c1] 29 (0, 0))) := Lib.hid (box_below (box_alloc XV5.out _) b')
    have XX6 : Hid (w6.heap[w2.heap.size]? = some (.cells #[.int .i64 t2.kind, .int .i64 t2.n, .int .i64 t2.x, .string t2.s, .slice a2 t1.l.length c2] 29 (0, 0))) := Lib.hid (box_below (box_alloc XX5.out _) b')
    have XM6 : Hid (w6.heap[w3.heap.size]? = some (.cells #[.int .i64 t3.kind, .int .i64 t3.n, .int .i64 t3.x, .string t3.s, .slice a3 n3 c3] 29 (0, 0))) := Lib.hid (box_below (box_alloc XM5.out _) b')
    have XK6 : Hid (w6.heap[(w3.heap.size + 1)]? = some (.cells #[.int .i64 t4.kind, .int .i64 t4.n, .int .i64 t4.x, .string t4.s, .slice none 0 0] 29 (0, 0))) := Lib.hid (box_below (box_alloc XK5.out _) b')
    have XY6 : Hid (w6.heap[w4.heap.size]? = some (.cells #[.int .i64 t5.kind, .int .i64 t5.n, .int .i64 t5.x, .string t5.s, .slice a5 n5 c5] 29 (0, 0))) := Lib.hid (box_below (box_alloc XY5.out _) b')
    have XZ6 : Hid (w6.heap[w5.heap.size]? = some (.cells #[.int .i64 t5.kind, .int .i64 t5.n, .int .i64 t5.x, .string t5.s, .slice a6 n6 c6] 29 (0, 0))) := Lib.hid (box_below (heap_alloc_new _ _) b')
    have TSV6 := Lib.hid (TSl.kept b' (TSl.kept (below1 _ _) TSV5.out))
    have TSX6 := Lib.hid (TSl.kept b' (TSl.kept (below1 _ _) TSX5.out))
    have TSM6 := Lib.hid (TSl.kept b' (TSl.kept (below1 _ _) TSM5.out))
    have TSK6 := Lib.hid (TSl.kept b' (TSl.kept (below1 _ _) TSK5.out))
    have TSY6 := Lib.hid (TSl.kept b' (TSl.kept (below1 _ _) TSY5.out))
    have TSZ6 := Lib.hid (TSl.kept b' (TSl.kept (below1 _ _) TSZ5.out))
    have T6 := Lib.hid (nx (below_alloc T5.out _) b'); clear b'
    have H7 := Lib.hid h7; have F7 := Lib.hid f7; clear h7 f7
    obtain ⟨a7, n7, c7, rfl⟩ := s7.form
    have TSS6 := Lib.hid s7; clear s7
    obtain ⟨w7, hw7⟩ : ∃ wx, wx = (w6.alloc (.cells #[.int .i64 t7.kind, .int .i64 t7.n, .int .i64 t7.x, .string t7.s, .slice a7 n7 c7] 29)) := ⟨_, rfl⟩
    have XV7 : Hid (w7.heap[w1.heap.size]? = some (.cells #[.int .i64 t1.kind, .int .i64 t1.n, .int .i64 t1.x, .string t1.s, .slice a1 t1.l.length c1] 29 (0, 0))) := Lib.hid (by rw [hw7]; exact (box_alloc XV6.out _))
    have XX7 : Hid (w7.heap[w2.heap.size]? = some (.cells #[.int .i64 t2.kind, .int .i64 t2.n, .int .i64 t2.x, .string t2.s, .slice a2 t1.l.length c2] 29 (0, 0))) := Lib.hid (by rw [hw7]; exact (box_alloc XX6.out _))
    have XM7 : Hid (w7.heap[w3.heap.size]? = some (.cells #[.int .i64 t3.kind, .int .i64 t3.n, .int .i64 t3.x, .string t3.s, .slice a3 n3 c3] 29 (0, 0))) := Lib.hid (by rw [hw7]; exact (box_alloc XM6.out _))
    have XK7 : Hid (w7.heap[(w3.heap.size + 1)]? = some (.cells #[.int .i64 t4.kind, .int .i64 t4.n, .int .i64 t4.x, .string t4.s, .slice none 0 0] 29 (0, 0))) := Lib.hid (by rw [hw7]; exact (box_alloc XK6.out _))
    have XY7 : Hid (w7.heap[w4.heap.size]? = some (.cells #[.int .i64 t5.kind, .int .i64 t5.n, .int .i64 t5.x, .string t5.s, .slice a5 n5 c5] 29 (0, 0))) := Lib.hid (by rw [hw7]; exact (box_alloc XY6.out _))
    have XZ7 : Hid (w7.heap[w5.heap.size]? = some (.cells #[.int .i64 t5.kind, .int .i64 t5.n, .int .i64 t5.x, .string t5.s, .slice a6 n6 c6] 29 (0, 0))) := Lib.hid (by rw [hw7]; exact (box_alloc XZ6.out _))
    have XS7 : Hid (w7.heap[w6.heap.size]? = some (.cells #[.int .i64 t7.kind, .int .i64 t7.n, .int .i64 t7.x, .string t7.s, .slice a7 n7 c7] 29 (0, 0))) := Lib.hid (by rw [hw7]; exact (heap_alloc_new _ _))
    have TSV7 := Lib.hid (show TSl w7 _ _ by rw [hw7]; exact (TSl.kept (below1 _ _) TSV6.out))
    have TSX7 := Lib.hid (show TSl w7 _ _ by rw [hw7]; exact (TSl.kept (below1 _ _) TSX6.out))
    have TSM7 := Lib.hid (show TSl w7 _ _ by rw [hw7]; exact (TSl.kept (below1 _ _) TSM6.out))
    have TSK7 := Lib.hid (show TSl w7 _ _ by rw [hw7]; exact (TSl.kept (below1 _ _) TSK6.out))
    have TSY7 := Lib.hid (show TSl w7 _ _ by rw [hw7]; exact (TSl.kept (below1 _ _) TSY6.out))
    have TSZ7 := Lib.hid (show TSl w7 _ _ by rw [hw7]; exact (TSl.kept (below1 _ _) TSZ6.out))
    have TSS7 := Lib.hid (show TSl w7 _ _ by rw [hw7]; exact (TSl.kept (below1 _ _) TSS6.out))
    have T7 := Lib.hid (show Below w.heap.size w w7 by rw [hw7]; exact (below_alloc T6.out _))
    go_wp2_with fail
    rw [← hw7]
    clear hw7
    have hf1 := HT1.out.fits
    have hc7 := H7.out
    have hf2 : Fits t2.kind t2.n t2.x t2.s := by rw [HE2.out]; exact sortT_fits hf1
    have r1 := fun ww (hb : Below w7.heap.size w7 ww) => sortMap_spec t1 ww (.slice a1 t1.l.length c1) (by omega) (TSl.kept hb TSV7.out) hf1
    rw [← HE2.out] at r1
    have r3 := fun ww (hb : Below w7.heap.size w7 ww) => namesOf_impl t1 ww (.slice a1 t1.l.length c1) (by omega) (TSl.kept hb TSV7.out) hf1
    have r4 := fun ww (hb : Below w7.heap.size w7 ww) => namesOf_spec t1 ww (.slice a1 t1.l.length c1) (by omega) (TSl.kept hb TSV7.out) hf1
    have r6 := fun ww (hb : Below w7.heap.size w7 ww) => sameLaw_c t5 t5 ww (.slice a5 n5 c5) (.slice a6 n6 c6) (TSl.kept hb TSY7.out) (TSl.kept hb TSZ7.out) HFR.out HFR.out
    rw [sameB_true.2 rfl] at r6
    have r7 := fun ww (hb : Below w7.heap.size w7 ww) => sorted_impl t7 ww (.slice a7 n7 c7) (LA.out.kept (nx T7.out hb)) (by omega) (TSl.kept hb TSS7.out) F7.out
    have r8 := fun ww (hb : Below w7.heap.size w7 ww) => sorted_spec t7 ww (.slice a7 n7 c7) (by omega) (TSl.kept hb TSS7.out) F7.out
    generalize sortedL (namesF t7) = S7 at *
    have r9 := fun ww (hb : Below w7.heap.size w7 ww) => once_impl t1 ww (.slice a1 t1.l.length c1) (by omega) (TSl.kept hb TSV7.out) hf1
    have r10 := fun ww (hb : Below w7.heap.size w7 ww) => once_spec t1 ww (.slice a1 t1.l.length c1) (by omega) (TSl.kept hb TSV7.out) hf1
    obtain ⟨O1, eO⟩ : ∃ q, q = onceB (namesF t1) := ⟨_, rfl⟩
    rw [← eO] at r9 r10
    obtain ⟨nl, eN⟩ : ∃ q, q = namesF t1 := ⟨_, rfl⟩
    rw [← eN] at r3 r4
    have HEO := Lib.hid eO; have HEN := Lib.hid eN; clear eO eN
    have R1 := Lib.hid r1; clear r1
    have R3 := Lib.hid r3; clear r3
    have R4 := Lib.hid r4; clear r4
    have R6 := Lib.hid r6; clear r6
    have R7 := Lib.hid r7; clear r7
    have R8 := Lib.hid r8; clear r8
    have R9 := Lib.hid r9; clear r9
    have R10 := Lib.hid r10; clear r10
    have HF2 := Lib.hid hf2; have HF1 := Lib.hid hf1; clear hf1 hf2
    have d0 : Below w7.heap.size w7 w7.drew := (Below.refl _ _).drew
    refine wp_region_held_drew (S := fun ww => Below w7.heap.size w7 ww) (by kernel_rfl) d0 (fun _ => ?_)
    refine held_do 0 43 (.agg #[.int .i64 t2.kind, .int .i64 t2.n, .int .i64 t2.x, .string t2.s, .slice a2 t1.l.length c2]) (by kernel_rfl) (by kernel_rfl) (by kernel_rfl) (fun _ _ _ h => h) (by kernel_rfl) (by kernel_rfl) d0 (fun ww h => run_of (op := .load 29 (.tmp 4)) (by kernel_rfl) (fun o ho => load_val rfl (five_kept h XX7.out) ho)) ?_
    try simp only [Act.put, List.setIfInBounds_toArray, List.set_cons_zero, List.set_cons_succ]
    refine held_do 1 44 (.agg #[.int .i64 t1.kind, .int .i64 t1.n, .int .i64 t1.x, .string t1.s, .slice a1 t1.l.length c1]) (by kernel_rfl) (by kernel_rfl) (by kernel_rfl) (fun _ _ _ h => h) (by kernel_rfl) (by kernel_rfl) d0 (fun ww h => run_of (op := .load 29 (.tmp 3)) (by kernel_rfl) (fun o ho => load_val rfl (five_kept h XV7.out) ho)) ?_
    try simp only [Act.put, List.setIfInBounds_toArray, List.set_cons_zero, List.set_cons_succ]
    refine held_call 2 45 20 #[.agg #[.int .i64 t1.kind, .int .i64 t1.n, .int .i64 t1.x, .string t1.s, .slice a1 t1.l.length c1]] (by kernel_rfl) (by kernel_rfl) (by kernel_rfl) (fun _ => by kernel_rfl) ((R1.out _ d0).mono ?_)
    rintro _ v1 ⟨aq, nq, cq, rfl, oq, b1⟩
    have d1 := nx d0 b1
    have TQ := Lib.hid oq.tsl; clear oq
    clear b1
    refine ⟨_, rfl, d1, ?_⟩
    try simp only [Act.put, List.setIfInBounds_toArray, List.set_cons_zero, List.set_cons_succ]
    refine held_call 3 46 63 #[.agg #[.int .i64 t2.kind, .int .i64 t2.n, .int .i64 t2.x, .string t2.s, .slice a2 t1.l.length c2], .agg #[.int .i64 t2.kind, .int .i64 t2.n, .int .i64 t2.x, .string t2.s, .slice aq nq cq]] (by kernel_rfl) (by kernel_rfl) (by kernel_rfl) (fun _ => by kernel_rfl) ((sameLaw_eq t2 _ (.slice a2 t1.l.length c2) (.slice aq nq cq) (TSl.kept d1 TSX7.out) TQ.out HF2.out).mono ?_)
    rintro _ v2 ⟨rfl, b2⟩
    have d2 := nx d1 b2
    clear b2
    refine ⟨_, rfl, d2, ?_⟩
    try simp only [Act.put, List.setIfInBounds_toArray, List.set_cons_zero, List.set_cons_succ]
    refine held_do 4 47 (.bool false) (by kernel_rfl) (by kernel_rfl) (by kernel_rfl) (fun _ _ _ h => h) (by kernel_rfl) (by kernel_rfl) d2 (fun ww _ => by kernel_rfl) ?_
    try simp only [Act.put, List.setIfInBounds_toArray, List.set_cons_zero, List.set_cons_succ]
    refine held_do 5 48 (.bool false) (by kernel_rfl) (by kernel_rfl) (by kernel_rfl) (fun _ _ _ h => h) (by kernel_rfl) (by kernel_rfl) d2 (fun ww _ => by kernel_rfl) ?_
    try simp only [Act.put, List.setIfInBounds_toArray, List.set_cons_zero, List.set_cons_succ]
    refine held_do 6 49 (.agg #[.int .i64 t1.kind, .int .i64 t1.n, .int .i64 t1.x, .string t1.s, .slice a1 t1.l.length c1]) (by kernel_rfl) (by kernel_rfl) (by kernel_rfl) (fun _ _ _ h => h) (by kernel_rfl) (by kernel_rfl) d2 (fun ww h => run_of (op := .load 29 (.tmp 3)) (by kernel_rfl) (fun o ho => load_val rfl (five_kept h XV7.out) ho)) ?_
    try simp only [Act.put, List.setIfInBounds_toArray, List.set_cons_zero, List.set_cons_succ]
    refine held_do 8 51 (.agg #[.int .i64 t1.kind, .int .i64 t1.n, .int .i64 t1.x, .string t1.s, .slice a1 t1.l.length c1]) (by kernel_rfl) (by kernel_rfl) (by kernel_rfl) (fun _ _ _ h => h) (by kernel_rfl) (by kernel_rfl) d2 (fun ww h => run_of (op := .load 29 (.tmp 3)) (by kernel_rfl) (fun o ho => load_val rfl (five_kept h XV7.out) ho)) ?_
    try simp only [Act.put, List.setIfInBounds_toArray, List.set_cons_zero, List.set_cons_succ]
    refine held_call 7 50 65 #[.agg #[.int .i64 t1.kind, .int .i64 t1.n, .int .i64 t1.x, .string t1.s, .slice a1 t1.l.length c1]] (by kernel_rfl) (by kernel_rfl) (by kernel_rfl) (fun _ => by kernel_rfl) ((R3.out _ d2).mono ?_)
    rintro _ v3 ⟨am, nm, cm, rfl, om, b3⟩
    have d3 := nx d2 b3
    have TM := Lib.hid om.tsl; clear om
    clear b3
    refine ⟨_, rfl, d3, ?_⟩
    try simp only [Act.put, List.setIfInBounds_toArray, List.set_cons_zero, List.set_cons_succ]
    refine held_call 9 52 66 #[.agg #[.int .i64 t1.kind, .int .i64 t1.n, .int .i64 t1.x, .string t1.s, .slice a1 t1.l.length c1]] (by kernel_rfl) (by kernel_rfl) (by kernel_rfl) (fun _ => by kernel_rfl) ((R4.out _ d3).mono ?_)
    rintro _ v4 ⟨ar, nr, cr, rfl, or_, b4⟩
    have d4 := nx d3 b4
    have TM2 := Lib.hid (TSl.kept b4 TM.out)
    have TR := Lib.hid or_.tsl; clear or_
    clear b4
    refine ⟨_, rfl, d4, ?_⟩
    try simp only [Act.put, List.setIfInBounds_toArray, List.set_cons_zero, List.set_cons_succ]
    refine held_call 10 53 64 #[.slice am nm cm, .slice ar nr cr] (by kernel_rfl) (by kernel_rfl) (by kernel_rfl) (fun _ => by kernel_rfl) ((sameVals_eq nl _ (.slice am nm cm) (.slice ar nr cr) TM2.out TR.out).mono ?_)
    rintro _ v5 ⟨rfl, b5⟩
    have d5 := nx d4 b5
    clear b5
    refine ⟨_, rfl, d5, ?_⟩
    try simp only [Act.put, List.setIfInBounds_toArray, List.set_cons_zero, List.set_cons_succ]
    refine held_do 11 54 (.bool false) (by kernel_rfl) (by kernel_rfl) (by kernel_rfl) (fun _ _ _ h => h) (by kernel_rfl) (by kernel_rfl) d5 (fun ww _ => by kernel_rfl) ?_
    try simp only [Act.put, List.setIfInBounds_toArray, List.set_cons_zero, List.set_cons_succ]
    refine held_do 12 55 (.bool false) (by kernel_rfl) (by kernel_rfl) (by kernel_rfl) (fun _ _ _ h => h) (by kernel_rfl) (by kernel_rfl) d5 (fun ww _ => by kernel_rfl) ?_
    try simp only [Act.put, List.setIfInBounds_toArray, List.set_cons_zero, List.set_cons_succ]
    refine held_do 13 56 (.bool false) (by kernel_rfl) (by kernel_rfl) (by kernel_rfl) (fun _ _ _ h => h) (by kernel_rfl) (by kernel_rfl) d5 (fun ww _ => by kernel_rfl) ?_
    try simp only [Act.put, List.setIfInBounds_toArray, List.set_cons_zero, List.set_cons_succ]
    refine held_do 14 57 (.agg #[.int .i64 t5.kind, .int .i64 t5.n, .int .i64 t5.x, .string t5.s, .slice a5 n5 c5]) (by kernel_rfl) (by kernel_rfl) (by kernel_rfl) (fun _ _ _ h => h) (by kernel_rfl) (by kernel_rfl) d5 (fun ww h => run_of (op := .load 29 (.tmp 7)) (by kernel_rfl) (fun o ho => load_val rfl (five_kept h XY7.out) ho)) ?_
    try simp only [Act.put, List.setIfInBounds_toArray, List.set_cons_zero, List.set_cons_succ]
    refine held_do 15 58 (.agg #[.int .i64 t5.kind, .int .i64 t5.n, .int .i64 t5.x, .string t5.s, .slice a6 n6 c6]) (by kernel_rfl) (by kernel_rfl) (by kernel_rfl) (fun _ _ _ h => h) (by kernel_rfl) (by kernel_rfl) d5 (fun ww h => run_of (op := .load 29 (.tmp 9)) (by kernel_rfl) (fun o ho => load_val rfl (five_kept h XZ7.out) ho)) ?_
    try simp only [Act.put, List.setIfInBounds_toArray, List.set_cons_zero, List.set_cons_succ]
    refine held_call 16 59 63 #[.agg #[.int .i64 t5.kind, .int .i64 t5.n, .int .i64 t5.x, .string t5.s, .slice a5 n5 c5], .agg #[.int .i64 t5.kind, .int .i64 t5.n, .int .i64 t5.x, .string t5.s, .slice a6 n6 c6]] (by kernel_rfl) (by kernel_rfl) (by kernel_rfl) (fun _ => by kernel_rfl) ((R6.out _ d5).mono ?_)
    rintro _ v6 ⟨rfl, b6⟩
    have d6 := nx d5 b6
    clear b6
    refine ⟨_, rfl, d6, ?_⟩
    try simp only [Act.put, List.setIfInBounds_toArray, List.set_cons_zero, List.set_cons_succ]
    refine held_do 17 60 (.bool false) (by kernel_rfl) (by kernel_rfl) (by kernel_rfl) (fun _ _ _ h => h) (by kernel_rfl) (by kernel_rfl) d6 (fun ww _ => by kernel_rfl) ?_
    try simp only [Act.put, List.setIfInBounds_toArray, List.set_cons_zero, List.set_cons_succ]
    refine held_do 18 61 (.bool false) (by kernel_rfl) (by kernel_rfl) (by kernel_rfl) (fun _ _ _ h => h) (by kernel_rfl) (by kernel_rfl) d6 (fun ww _ => by kernel_rfl) ?_
    try simp only [Act.put, List.setIfInBounds_toArray, List.set_cons_zero, List.set_cons_succ]
    refine held_do 19 62 (.bool false) (by kernel_rfl) (by kernel_rfl) (by kernel_rfl) (fun _ _ _ h => h) (by kernel_rfl) (by kernel_rfl) d6 (fun ww _ => by kernel_rfl) ?_
    try simp only [Act.put, List.setIfInBounds_toArray, List.set_cons_zero, List.set_cons_succ]
    refine held_do 20 63 (.bool B5) (by kernel_rfl) (by kernel_rfl) (by kernel_rfl) (fun _ _ _ h => h) (by kernel_rfl) (by kernel_rfl) d6 (fun ww _ => by kernel_rfl) ?_
    try simp only [Act.put, List.setIfInBounds_toArray, List.set_cons_zero, List.set_cons_succ]
    refine held_do 21 64 (.bool B5) (by kernel_rfl) (by kernel_rfl) (by kernel_rfl) (fun _ _ _ h => h) (by kernel_rfl) (by kernel_rfl) d6 (fun ww _ => by kernel_rfl) ?_
    try simp only [Act.put, List.setIfInBounds_toArray, List.set_cons_zero, List.set_cons_succ]
    refine held_do 22 65 (.bool false) (by kernel_rfl) (by kernel_rfl) (by kernel_rfl) (fun _ _ _ h => h) (by kernel_rfl) (by kernel_rfl) d6 (by intro ww hSw; clear hSw; go_simp) ?_
    try simp only [Act.put, List.setIfInBounds_toArray, List.set_cons_zero, List.set_cons_succ]
    refine held_do 23 66 (.bool false) (by kernel_rfl) (by kernel_rfl) (by kernel_rfl) (fun _ _ _ h => h) (by kernel_rfl) (by kernel_rfl) d6 (fun ww _ => by kernel_rfl) ?_
    try simp only [Act.put, List.setIfInBounds_toArray, List.set_cons_zero, List.set_cons_succ]
    refine held_do 24 67 (.bool false) (by kernel_rfl) (by kernel_rfl) (by kernel_rfl) (fun _ _ _ h => h) (by kernel_rfl) (by kernel_rfl) d6 (fun ww _ => by kernel_rfl) ?_
    try simp only [Act.put, List.setIfInBounds_toArray, List.set_cons_zero, List.set_cons_succ]
    refine held_do 25 68 (.agg #[.int .i64 t7.kind, .int .i64 t7.n, .int .i64 t7.x, .string t7.s, .slice a7 n7 c7]) (by kernel_rfl) (by kernel_rfl) (by kernel_rfl) (fun _ _ _ h => h) (by kernel_rfl) (by kernel_rfl) d6 (fun ww h => run_of (op := .load 29 (.tmp 11)) (by kernel_rfl) (fun o ho => load_val rfl (five_kept h XS7.out) ho)) ?_
    try simp only [Act.put, List.setIfInBounds_toArray, List.set_cons_zero, List.set_cons_succ]
    refine held_do 27 70 (.agg #[.int .i64 t7.kind, .int .i64 t7.n, .int .i64 t7.x, .string t7.s, .slice a7 n7 c7]) (by kernel_rfl) (by kernel_rfl) (by kernel_rfl) (fun _ _ _ h => h) (by kernel_rfl) (by kernel_rfl) d6 (fun ww h => run_of (op := .load 29 (.tmp 11)) (by kernel_rfl) (fun o ho => load_val rfl (five_kept h XS7.out) ho)) ?_
    try simp only [Act.put, List.setIfInBounds_toArray, List.set_cons_zero, List.set_cons_succ]
    refine held_call 26 69 19 #[.agg #[.int .i64 t7.kind, .int .i64 t7.n, .int .i64 t7.x, .string t7.s, .slice a7 n7 c7]] (by kernel_rfl) (by kernel_rfl) (by kernel_rfl) (fun _ => by kernel_rfl) ((R7.out _ d6).mono ?_)
    rintro _ v7 ⟨rfl, b7⟩
    have d7 := nx d6 b7
    clear b7
    refine ⟨_, rfl, d7, ?_⟩
    try simp only [Act.put, List.setIfInBounds_toArray, List.set_cons_zero, List.set_cons_succ]
    refine held_call 28 71 18 #[.agg #[.int .i64 t7.kind, .int .i64 t7.n, .int .i64 t7.x, .string t7.s, .slice a7 n7 c7]] (by kernel_rfl) (by kernel_rfl) (by kernel_rfl) (fun _ => by kernel_rfl) ((R8.out _ d7).mono ?_)
    rintro _ v8 ⟨rfl, b8⟩
    have d8 := nx d7 b8
    clear b8
    refine ⟨_, rfl, d8, ?_⟩
    try simp only [Act.put, List.setIfInBounds_toArray, List.set_cons_zero, List.set_cons_succ]
    refine held_do 29 72 (.bool false) (by kernel_rfl) (by kernel_rfl) (by kernel_rfl) (fun _ _ _ h => h) (by kernel_rfl) (by kernel_rfl) d8 (by intro ww hSw; clear hSw; go_simp) ?_
    try simp only [Act.put, List.setIfInBounds_toArray, List.set_cons_zero, List.set_cons_succ]
    refine held_do 30 73 (.bool false) (by kernel_rfl) (by kernel_rfl) (by kernel_rfl) (fun _ _ _ h => h) (by kernel_rfl) (by kernel_rfl) d8 (fun ww _ => by kernel_rfl) ?_
    try simp only [Act.put, List.setIfInBounds_toArray, List.set_cons_zero, List.set_cons_succ]
    refine held_do 31 74 (.bool false) (by kernel_rfl) (by kernel_rfl) (by kernel_rfl) (fun _ _ _ h => h) (by kernel_rfl) (by kernel_rfl) d8 (fun ww _ => by kernel_rfl) ?_
    try simp only [Act.put, List.setIfInBounds_toArray, List.set_cons_zero, List.set_cons_succ]
    refine held_do 32 75 (.agg #[.int .i64 t1.kind, .int .i64 t1.n, .int .i64 t1.x, .string t1.s, .slice a1 t1.l.length c1]) (by kernel_rfl) (by kernel_rfl) (by kernel_rfl) (fun _ _ _ h => h) (by kernel_rfl) (by kernel_rfl) d8 (fun ww h => run_of (op := .load 29 (.tmp 3)) (by kernel_rfl) (fun o ho => load_val rfl (five_kept h XV7.out) ho)) ?_
    try simp only [Act.put, List.setIfInBounds_toArray, List.set_cons_zero, List.set_cons_succ]
    refine held_do 34 77 (.agg #[.int .i64 t1.kind, .int .i64 t1.n, .int .i64 t1.x, .string t1.s, .slice a1 t1.l.length c1]) (by kernel_rfl) (by kernel_rfl) (by kernel_rfl) (fun _ _ _ h => h) (by kernel_rfl) (by kernel_rfl) d8 (fun ww h => run_of (op := .load 29 (.tmp 3)) (by kernel_rfl) (fun o ho => load_val rfl (five_kept h XV7.out) ho)) ?_
    try simp only [Act.put, List.setIfInBounds_toArray, List.set_cons_zero, List.set_cons_succ]
    refine held_call 33 76 67 #[.agg #[.int .i64 t1.kind, .int .i64 t1.n, .int .i64 t1.x, .string t1.s, .slice a1 t1.l.length c1]] (by kernel_rfl) (by kernel_rfl) (by kernel_rfl) (fun _ => by kernel_rfl) ((R9.out _ d8).mono ?_)
    rintro _ v9 ⟨rfl, b9⟩
    have d9 := nx d8 b9
    clear b9
    refine ⟨_, rfl, d9, ?_⟩
    try simp only [Act.put, List.setIfInBounds_toArray, List.set_cons_zero, List.set_cons_succ]
    refine held_call 35 78 68 #[.agg #[.int .i64 t1.kind, .int .i64 t1.n, .int .i64 t1.x, .string t1.s, .slice a1 t1.l.length c1]] (by kernel_rfl) (by kernel_rfl) (by kernel_rfl) (fun _ => by kernel_rfl) ((R10.out _ d9).mono ?_)
    rintro _ v10 ⟨rfl, b10⟩
    have d10 := nx d9 b10
    clear b10
    refine ⟨_, rfl, d10, ?_⟩
    try simp only [Act.put, List.setIfInBounds_toArray, List.set_cons_zero, List.set_cons_succ]
    refine held_do 36 79 (.bool false) (by kernel_rfl) (by kernel_rfl) (by kernel_rfl) (fun _ _ _ h => h) (by kernel_rfl) (by kernel_rfl) d10 (by intro ww hSw; clear hSw; go_simp) ?_
    try simp only [Act.put, List.setIfInBounds_toArray, List.set_cons_zero, List.set_cons_succ]
    refine held_do 37 80 (.bool false) (by kernel_rfl) (by kernel_rfl) (by kernel_rfl) (fun _ _ _ h => h) (by kernel_rfl) (by kernel_rfl) d10 (fun ww _ => by kernel_rfl) ?_
    try simp only [Act.put, List.setIfInBounds_toArray, List.set_cons_zero, List.set_cons_succ]
    refine wpAnyH_done (by kernel_rfl) ?_ _
    obtain ⟨w8, hw8⟩ : ∃ wx, wx = v10 := ⟨_, rfl⟩
    have XV8 : Hid (w8.heap[w1.heap.size]? = some (.cells #[.int .i64 t1.kind, .int .i64 t1.n, .int .i64 t1.x, .string t1.s, .slice a1 t1.l.length c1] 29 (0, 0))) := Lib.hid (by rw [hw8]; exact box_below XV7.out d10)
    have XX8 : Hid (w8.heap[w2.heap.size]? = some (.cells #[.int .i64 t2.kind, .int .i64 t2.n, .int .i64 t2.x, .string t2.s, .slice a2 t1.l.length c2] 29 (0, 0))) := Lib.hid (by rw [hw8]; exact box_below XX7.out d10)
    have XM8 : Hid (w8.heap[w3.heap.size]? = some (.cells #[.int .i64 t3.kind, .int .i64 t3.n, .int .i64 t3.x, .string t3.s, .slice a3 n3 c3] 29 (0, 0))) := Lib.hid (by rw [hw8]; exact box_below XM7.out d10)
    have XK8 : Hid (w8.heap[(w3.heap.size + 1)]? = some (.cells #[.int .i64 t4.kind, .int .i64 t4.n, .int .i64 t4.x, .string t4.s, .slice none 0 0] 29 (0, 0))) := Lib.hid (by rw [hw8]; exact box_below XK7.out d10)
    have XY8 : Hid (w8.heap[w4.heap.size]? = some (.cells #[.int .i64 t5.kind, .int .i64 t5.n, .int .i64 t5.x, .string t5.s, .slice a5 n5 c5] 29 (0, 0))) := Lib.hid (by rw [hw8]; exact box_below XY7.out d10)
    have XZ8 : Hid (w8.heap[w5.heap.size]? = some (.cells #[.int .i64 t5.kind, .int .i64 t5.n, .int .i64 t5.x, .string t5.s, .slice a6 n6 c6] 29 (0, 0))) := Lib.hid (by rw [hw8]; exact box_below XZ7.out d10)
    have XS8 : Hid (w8.heap[w6.heap.size]? = some (.cells #[.int .i64 t7.kind, .int .i64 t7.n, .int .i64 t7.x, .string t7.s, .slice a7 n7 c7] 29 (0, 0))) := Lib.hid (by rw [hw8]; exact box_below XS7.out d10)
    have TSV8 := Lib.hid (show TSl w8 _ _ by rw [hw8]; exact TSl.kept d10 TSV7.out)
    have TSX8 := Lib.hid (show TSl w8 _ _ by rw [hw8]; exact TSl.kept d10 TSX7.out)
    have TSM8 := Lib.hid (show TSl w8 _ _ by rw [hw8]; exact TSl.kept d10 TSM7.out)
    have TSK8 := Lib.hid (show TSl w8 _ _ by rw [hw8]; exact TSl.kept d10 TSK7.out)
    have TSY8 := Lib.hid (show TSl w8 _ _ by rw [hw8]; exact TSl.kept d10 TSY7.out)
    have TSZ8 := Lib.hid (show TSl w8 _ _ by rw [hw8]; exact TSl.kept d10 TSZ7.out)
    have TSS8 := Lib.hid (show TSl w8 _ _ by rw [hw8]; exact TSl.kept d10 TSS7.out)
    have T8 := Lib.hid (show Below w.heap.size w w8 by rw [hw8]; exact nx T7.out d10)
    rw [← hw8]
    clear d10 d9 d8 d7 d6 d5 d4 d3 d2 d1 d0 hw8
    clear R1 R3 R4 R6 R7 R8 R9 R10 TQ TM TM2 TR
    have Vl := box_lt XV8.out
    obtain ⟨V0, V1, V2, V3, V4, Vf0, Vf1, Vf2, Vf3, Vf4⟩ := five_open XV8.out
    have Xl := box_lt XX8.out
    obtain ⟨X0, X1, X2, X3, X4, Xf0, Xf1, Xf2, Xf3, Xf4⟩ := five_open XX8.out
    have hll : t1.l.length ≤ 9 := HT1.out.2.2.2.2.2
    cases hk : (t1.kind == 10) with
    | false =>
      have hp := paired_kind hk
      have hkn : (t1.kind != 10) = true := by simp only [bne, hk]; rfl
      have hsame : t2 = t1 := by rw [HE2.out]; exact sortT_not hp
      have r := fun ww (hb : Below w8.heap.size w8 ww) => sameLaw_c t2 t1 ww (.slice a2 t1.l.length c2) (.slice a1 t1.l.length c1) (TSl.kept hb TSX8.out) (TSl.kept hb TSV8.out) HF2.out HF1.out
      rw [sameB_true.2 hsame] at r
      have R := Lib.hid r; clear r hsame hp
      go_wp2_with fail
      refine (R.out _ (Below.refl _ _)).mono ?_
      rintro _ w9 ⟨rfl, b'⟩
      have T9 := Lib.hid (nx T8.out b'); clear b'
      go_wp2_with fail
      go_ret
      exact ⟨rfl, T9.out⟩
    | true =>
      have hkn : (t1.kind != 10) = false := by simp only [bne, hk]; rfl
      have hpl := paired_len hk
      have hlm := len_mod (n := t1.l.length) (by omega)
      cases hm : (t1.l.length % 2 == 0) with
      | false =>
        have hp : pairedB t1 = false := by rw [hpl, hm]
        have hmn : (((t1.l.length : Int).tmod 2) != 0) = true := by simp only [bne, hlm, hm]; rfl
        have hx1 : (((t1.l.length : Int).tmod 2) == 0) = false := by rw [hlm, hm]
        have hx2 : ¬ ((t1.l.length : Int).tmod 2 = 0) := by simpa using hx1
        have hm2 : ¬ (t1.l.length % 2 = 0) := by simpa using hm
        have hy2 : ¬ ((t1.l.length : Int) % 2 = 0) := by omega
        have hy1 : (((t1.l.length : Int) % 2) != 0) = true := by simpa using hy2
        clear hm2
        clear hpl hlm hm
        have hsame : t2 = t1 := by rw [HE2.out]; exact sortT_not hp
        have r := fun ww (hb : Below w8.heap.size w8 ww) => sameLaw_c t2 t1 ww (.slice a2 t1.l.length c2) (.slice a1 t1.l.length c1) (TSl.kept hb TSX8.out) (TSl.kept hb TSV8.out) HF2.out HF1.out
        rw [sameB_true.2 hsame] at r
        have R := Lib.hid r; clear r hsame hp
        go_wp2_with fail
        refine (R.out _ (Below.refl _ _)).mono ?_
        rintro _ w9 ⟨rfl, b'⟩
        have T9 := Lib.hid (nx T8.out b'); clear b'
        go_wp2_with fail
        go_ret
        exact ⟨rfl, T9.out⟩
      | true =>
        have hp : pairedB t1 = true := by rw [hpl, hm]
        have hmn : (((t1.l.length : Int).tmod 2) != 0) = false := by simp only [bne, hlm, hm]; rfl
        have hx1 : (((t1.l.length : Int).tmod 2) == 0) = true := by rw [hlm, hm]
        have hx2 : (t1.l.length : Int).tmod 2 = 0 := by simpa using hx1
        have hm2 : t1.l.length % 2 = 0 := by simpa using hm
        have hy2 : (t1.l.length : Int) % 2 = 0 := by omega
        have hy1 : (((t1.l.length : Int) % 2) != 0) = false := by rw [hy2]; rfl
        clear hm2
        clear hpl hlm hm
        have hlk1 : ∀ z ∈ nl, lookB t1 z = true := fun z hz => lookO_some hp (by rw [← HEN.out]; exact hz)
        have hlk2 : ∀ z ∈ nl, lookB t2 z = true ∧ lookR t2 z = lookR t1 z := fun z hz => by
          have h := lookO_sort (t := t1) z
          rw [← HE2.out] at h
          unfold lookB lookR
          rw [h]
          exact ⟨hlk1 z hz, rfl⟩
        have hst : sortedL (namesF t2) = O1 := by rw [HE2.out, HEO.out]; exact sorted_sort hp (fun z hz => (HT1.out.2.2.2.2.1 z (names_mem (by exact hz))).nm)
        have hos : onceB (namesF t2) = O1 := by rw [HE2.out, HEO.out]; exact once_sort hp
        have hnn : ∀ z ∈ nl, NmD z := fun z hz => HT1.out.2.2.2.2.1 z (names_mem (by rw [← HEN.out]; exact hz))
        have HLK1 := Lib.hid hlk1; have HLK2 := Lib.hid hlk2; have HST := Lib.hid hst; have HOS := Lib.hid hos; have HNN := Lib.hid hnn; clear hlk1 hlk2 hst hos hnn hp
        have hr := fun ww (hb : Below w8.heap.size w8 ww) => namesOf_impl t1 ww (.slice a1 t1.l.length c1) (by omega) (TSl.kept hb TSV8.out) HF1.out
        rw [← HEN.out] at hr
        have HR := Lib.hid hr; clear hr
        go_wp2_with fail
        refine (HR.out _ (Below.refl _ _)).mono ?_
        rintro _ w9 ⟨a8, n8, c8, rfl, o8, b'⟩
        have XV9 : Hid (w9.heap[w1.heap.size]? = some (.cells #[.int .i64 t1.kind, .int .i64 t1.n, .int .i64 t1.x, .string t1.s, .slice a1 t1.l.length c1] 29 (0, 0))) := Lib.hid (box_below XV8.out b')
        have XX9 : Hid (w9.heap[w2.heap.size]? = some (.cells #[.int .i64 t2.kind, .int .i64 t2.n, .int .i64 t2.x, .string t2.s, .slice a2 t1.l.length c2] 29 (0, 0))) := Lib.hid (box_below XX8.out b')
        have XM9 : Hid (w9.heap[w3.heap.size]? = some (.cells #[.int .i64 t3.kind, .int .i64 t3.n, .int .i64 t3.x, .string t3.s, .slice a3 n3 c3] 29 (0, 0))) := Lib.hid (box_below XM8.out b')
        have XK9 : Hid (w9.heap[(w3.heap.size + 1)]? = some (.cells #[.int .i64 t4.kind, .int .i64 t4.n, .int .i64 t4.x, .string t4.s, .slice none 0 0] 29 (0, 0))) := Lib.hid (box_below XK8.out b')
        have XY9 : Hid (w9.heap[w4.heap.size]? = some (.cells #[.int .i64 t5.kind, .int .i64 t5.n, .int .i64 t5.x, .string t5.s, .slice a5 n5 c5] 29 (0, 0))) := Lib.hid (box_below XY8.out b')
        have XZ9 : Hid (w9.heap[w5.heap.size]? = some (.cells #[.int .i64 t5.kind, .int .i64 t5.n, .int .i64 t5.x, .string t5.s, .slice a6 n6 c6] 29 (0, 0))) := Lib.hid (box_below XZ8.out b')
        have XS9 : Hid (w9.heap[w6.heap.size]? = some (.cells #[.int .i64 t7.kind, .int .i64 t7.n, .int .i64 t7.x, .string t7.s, .slice a7 n7 c7] 29 (0, 0))) := Lib.hid (box_below XS8.out b')
        have TSV9 := Lib.hid (TSl.kept b' TSV8.out)
        have TSX9 := Lib.hid (TSl.kept b' TSX8.out)
        have TSM9 := Lib.hid (TSl.kept b' TSM8.out)
        have TSK9 := Lib.hid (TSl.kept b' TSK8.out)
        have TSY9 := Lib.hid (TSl.kept b' TSY8.out)
        have TSZ9 := Lib.hid (TSl.kept b' TSZ8.out)
        have TSS9 := Lib.hid (TSl.kept b' TSS8.out)
        have T9 := Lib.hid (nx T8.out b'); clear b'
        clear HR
        clear Vl V0 V1 V2 V3 V4 Vf0 Vf1 Vf2 Vf3 Vf4
        clear Xl X0 X1 X2 X3 X4 Xf0 Xf1 Xf2 Xf3 Xf4
        obtain ⟨a8', cap8, b8, off8, hv8, hcap8, hmax8, ha8, hl8⟩ := o8.tsl
        injection hv8 with q1 q2 q3
        subst q1 q2 q3
        have HL8 := Lib.hid hl8; have HA8 := Lib.hid ha8; clear hl8 ha8 o8
        unfold maxLen at hmax8
        have hnl : nl.length ≤ 1048576 := by
          have h1 := names_cost t1; have h2 := costL_eq (namesF t1); have h3 := Tree.cost_eq t1
          rw [HEN.out]; omega
        go_wp2_with fail
        go_loopw [13] (fun i wr => ∃ j : Nat, j ≤ nl.length ∧ i = .int .i64 j ∧ Hid (Below w9.heap.size w9 wr)) (fun i _ => nl.length - (intOf i).toNat)
        case atStart => exact ⟨0, Nat.zero_le _, rfl, Lib.hid (Below.refl _ _)⟩
        case round =>
          obtain ⟨j, hj, rfl, HBW⟩ := hrel
          generalize wr = w10 at *
          have XV10 : Hid (w10.heap[w1.heap.size]? = some (.cells #[.int .i64 t1.kind, .int .i64 t1.n, .int .i64 t1.x, .string t1.s, .slice a1 t1.l.length c1] 29 (0, 0))) := Lib.hid (box_below XV9.out HBW.out)
          have XX10 : Hid (w10.heap[w2.heap.size]? = some (.cells #[.int .i64 t2.kind, .int .i64 t2.n, .int .i64 t2.x, .string t2.s, .slice a2 t1.l.length c2] 29 (0, 0))) := Lib.hid (box_below XX9.out HBW.out)
          have XM10 : Hid (w10.heap[w3.heap.size]? = some (.cells #[.int .i64 t3.kind, .int .i64 t3.n, .int .i64 t3.x, .string t3.s, .slice a3 n3 c3] 29 (0, 0))) := Lib.hid (box_below XM9.out HBW.out)
          have XK10 : Hid (w10.heap[(w3.heap.size + 1)]? = some (.cells #[.int .i64 t4.kind, .int .i64 t4.n, .int .i64 t4.x, .string t4.s, .slice none 0 0] 29 (0, 0))) := Lib.hid (box_below XK9.out HBW.out)
          have XY10 : Hid (w10.heap[w4.heap.size]? = some (.cells #[.int .i64 t5.kind, .int .i64 t5.n, .int .i64 t5.x, .string t5.s, .slice a5 n5 c5] 29 (0, 0))) := Lib.hid (box_below XY9.out HBW.out)
          have XZ10 : Hid (w10.heap[w5.heap.size]? = some (.cells #[.int .i64 t5.kind, .int .i64 t5.n, .int .i64 t5.x, .string t5.s, .slice a6 n6 c6] 29 (0, 0))) := Lib.hid (box_below XZ9.out HBW.out)
          have XS10 : Hid (w10.heap[w6.heap.size]? = some (.cells #[.int .i64 t7.kind, .int .i64 t7.n, .int .i64 t7.x, .string t7.s, .slice a7 n7 c7] 29 (0, 0))) := Lib.hid (box_below XS9.out HBW.out)
          have TSV10 := Lib.hid (TSl.kept HBW.out TSV9.out)
          have TSX10 := Lib.hid (TSl.kept HBW.out TSX9.out)
          have TSM10 := Lib.hid (TSl.kept HBW.out TSM9.out)
          have TSK10 := Lib.hid (TSl.kept HBW.out TSK9.out)
          have TSY10 := Lib.hid (TSl.kept HBW.out TSY9.out)
          have TSZ10 := Lib.hid (TSl.kept HBW.out TSZ9.out)
          have TSS10 := Lib.hid (TSl.kept HBW.out TSS9.out)
          have T10 := Lib.hid (nx T9.out HBW.out)
          have hs10 := HBW.out.size
          by_cases hjl : j < nl.length
          · obtain rfl : a8 = some ⟨b8, off8, none⟩ := HA8.out (by intro h; rw [h] at hjl; simp at hjl)
            have hTA := HL8.out j hjl
            have hzm := List.getElem_mem hjl
            generalize nl[j] = z at *
            have hB1 := (HLK1.out z hzm); obtain ⟨hB2, hR2⟩ := HLK2.out z hzm; have hzn := HNN.out z hzm
            obtain ⟨uz, z0, z1, z2, z3, z4, hsz, hfz⟩ := (hTA.kept HBW.out).parts
            obtain ⟨az, nz, cz, rfl⟩ := hsz.form
            have HZC : Hid (∀ ww, Below w10.heap.size w10 ww → (ww.cell? ⟨b8, off8 + j * 5, none⟩ = some (.int .i64 z.kind) ∧ ww.cell? ⟨b8, off8 + j * 5 + 1, none⟩ = some (.int .i64 z.n) ∧ ww.cell? ⟨b8, off8 + j * 5 + 2, none⟩ = some (.int .i64 z.x) ∧ ww.cell? ⟨b8, off8 + j * 5 + 3, none⟩ = some (.string z.s) ∧ ww.cell? ⟨b8, off8 + j * 5 + 4, none⟩ = some (.slice az nz cz))) := Lib.hid (fun ww hb => ⟨(hb.cell (p := ⟨b8, off8 + j * 5, none⟩) (World.block_lt_of_cell? _ _ z0)).trans z0, (hb.cell (p := ⟨b8, off8 + j * 5 + 1, none⟩) (World.block_lt_of_cell? _ _ z1)).trans z1, (hb.cell (p := ⟨b8, off8 + j * 5 + 2, none⟩) (World.block_lt_of_cell? _ _ z2)).trans z2, (hb.cell (p := ⟨b8, off8 + j * 5 + 3, none⟩) (World.block_lt_of_cell? _ _ z3)).trans z3, (hb.cell (p := ⟨b8, off8 + j * 5 + 4, none⟩) (World.block_lt_of_cell? _ _ z4)).trans z4⟩)
            have HSZ := Lib.hid hsz; have HFZ := Lib.hid hfz; clear hsz hfz hTA hzn z0 z1 z2 z3 z4
            have hfr := lookR_fits (t' := z) HT1.out
            have hL1 := fun ww (hb : Below w10.heap.size w10 ww) => look_impl t1 z ww (.slice a1 t1.l.length c1) (.slice az nz cz) (by omega) (TSl.kept hb TSV10.out) (TSl.kept hb HSZ.out) HF1.out HFZ.out
            have hL2 := fun ww (hb : Below w10.heap.size w10 ww) => look_impl t2 z ww (.slice a2 t1.l.length c2) (.slice az nz cz) (by rw [HE2.out, sortT_cost]; omega) (TSl.kept hb TSX10.out) (TSl.kept hb HSZ.out) HF2.out HFZ.out
            rw [hB2, hR2] at hL2; rw [hB1] at hL1
            generalize lookR t1 z = rz at *
            have HL1 := Lib.hid hL1; have HL2 := Lib.hid hL2; have HFRZ := Lib.hid hfr; clear hL1 hL2 hfr hB1 hB2 hR2
            have hjb : (j : Int) < nl.length := by omega
            have hjb2 : ¬ ((nl.length : Int) ≤ (j : Int)) := by omega
            have DW := Lib.hid (Below.refl w10.heap.size w10)
            have HK : Hid (∀ ww, Below w10.heap.size w10 ww → (ww.cell? ⟨w1.heap.size, 0, none⟩ = some (.int .i64 t1.kind) ∧ ww.cell? ⟨w1.heap.size, 1, none⟩ = some (.int .i64 t1.n) ∧ ww.cell? ⟨w1.heap.size, 2, none⟩ = some (.int .i64 t1.x) ∧ ww.cell? ⟨w1.heap.size, 3, none⟩ = some (.string t1.s) ∧ ww.cell? ⟨w1.heap.size, 4, none⟩ = some (.slice a1 t1.l.length c1)) ∧ (ww.cell? ⟨b8, off8 + j * 5, none⟩ = some (.int .i64 z.kind) ∧ ww.cell? ⟨b8, off8 + j * 5 + 1, none⟩ = some (.int .i64 z.n) ∧ ww.cell? ⟨b8, off8 + j * 5 + 2, none⟩ = some (.int .i64 z.x) ∧ ww.cell? ⟨b8, off8 + j * 5 + 3, none⟩ = some (.string z.s) ∧ ww.cell? ⟨b8, off8 + j * 5 + 4, none⟩ = some (.slice az nz cz))) := Lib.hid (fun ww hb => ⟨by obtain ⟨h0, h1, h2, h3, h4, -⟩ := five_kept (vnx DW.out hb) XV10.out; exact ⟨h0, h1, h2, h3, h4⟩, HZC.out _ (vnx DW.out hb)⟩)
            go_upto_region 17 with fail
            go_cut [14, 15] (fun s6 s7 wx => Left w10 wx rz true s6 s7)
            case first =>
              obtain ⟨⟨k0, k1, k2, k3, k4⟩, ⟨m0, m1, m2, m3, m4⟩⟩ := HK.out _ (Below.refl _ _)
              have dd : Below w10.heap.size w10 w10.drew := (Below.refl _ _).drew
              have dz : Below w10.heap.size w10 w10 := Below.refl _ _
              go_wp2_with fail
              go_region_held3 (fun ww => (ww.cell? ⟨w1.heap.size, 0, none⟩ = some (.int .i64 t1.kind) ∧ ww.cell? ⟨w1.heap.size, 1, none⟩ = some (.int .i64 t1.n) ∧ ww.cell? ⟨w1.heap.size, 2, none⟩ = some (.int .i64 t1.x) ∧ ww.cell? ⟨w1.heap.size, 3, none⟩ = some (.string t1.s) ∧ ww.cell? ⟨w1.heap.size, 4, none⟩ = some (.slice a1 t1.l.length c1)) ∧ (ww.cell? ⟨b8, off8 + j * 5, none⟩ = some (.int .i64 z.kind) ∧ ww.cell? ⟨b8, off8 + j * 5 + 1, none⟩ = some (.int .i64 z.n) ∧ ww.cell? ⟨b8, off8 + j * 5 + 2, none⟩ = some (.int .i64 z.x) ∧ ww.cell? ⟨b8, off8 + j * 5 + 3, none⟩ = some (.string z.s) ∧ ww.cell? ⟨b8, off8 + j * 5 + 4, none⟩ = some (.slice az nz cz))) (first | with_reducible exact HK.out _ dd | with_reducible exact HK.out _ dz | with_reducible exact HK.out _ (dd.alloc dd.size _) | with_reducible exact HK.out _ (dz.alloc (Nat.le_refl _) _).drew | with_reducible exact HK.out _ (dz.alloc (Nat.le_refl _) _) | with_reducible exact HK.out _ (dd.alloc dd.size _).drew | with_reducible exact HK.out _ dd.drew | with_reducible exact HK.out _ (by (repeat (refine Below.setCell ?_ (by first | (dsimp only; omega) | (simp only [World.size_alloc]; omega)) _)); exact dd))
                (first
                 | (go_at_call 60; (with_reducible refine (HL1.out _ (vnx DW.out (by first | with_reducible exact dd | with_reducible exact dz | with_reducible exact dd.alloc dd.size _ | with_reducible exact dz.alloc (Nat.le_refl _) _ | with_reducible exact (dz.alloc (Nat.le_refl _) _).drew | with_reducible exact (dd.alloc dd.size _).drew | with_reducible exact dd.drew))).mono ?_); rintro _ wC ⟨aC, nC, cC, rfl, oC, bC⟩; have HOC := Lib.hid oC; clear oC; have hpre := dd.size; (try (have HB := Lib.hid ((bC.block _ (by show _ < (World.alloc _ _).heap.size; rw [World.size_alloc]; exact Nat.lt_succ_self _)).trans (heap_alloc_new _ _)); have hBge : w10.heap.size ≤ _ := dd.size)); (try (have HB := Lib.hid ((bC.block _ (lt_alloc_drew _ _)).trans (heap_alloc_drew _ _)); have hBge : w10.heap.size ≤ w10.heap.size := Nat.le_refl _)); (try (have hB' := HB.out; simp only [World.size_alloc, World.size_drew] at hB'; have HB := Lib.hid hB')); have hBC : Below w10.heap.size w10 wC := vnx (by first | with_reducible exact dd | with_reducible exact dz | with_reducible exact dd.alloc dd.size _ | with_reducible exact dz.alloc (Nat.le_refl _) _ | with_reducible exact (dz.alloc (Nat.le_refl _) _).drew | with_reducible exact (dd.alloc dd.size _).drew | with_reducible exact dd.drew) bC; clear dd; have dd := hBC; clear hBC; (try (have HG := five_kept (Below.refl _ _) HB.out; obtain ⟨g0, g1, g2, g3, g4, gf⟩ := HG; have gf0 := gf 0; have gf1 := gf 1; have gf2 := gf 2; have gf3 := gf 3; have gf4 := gf 4; clear gf))))
              all_goals go_wp2_with fail
              all_goals go_meet
              all_goals
                case rel =>
                  first
                  | (with_reducible refine left_last ?_ dd HOC.out); first | exact hpre | exact Nat.le_refl _ | (simp only [World.size_alloc, World.size_drew]; omega)
                  | (with_reducible refine left_early ?_ dd HOC.out HB.out ?_ ?_); (first | exact hpre | (simp only [World.size_alloc, World.size_drew]; omega)); (first | exact hBge | exact Nat.le_refl _ | omega | (simp only [World.size_alloc]; omega)); (first | exact Nat.lt_succ_self _ | (simp only [World.size_alloc, World.size_drew]; omega))
            case rest =>
              rename World => wA
              obtain ⟨BwA, awA, nwA, cwA, lowA, hiwA, rfl, rfl, hl1wA, hl2wA, hl3wA, hl4wA, hl5wA, KRwA, ORwA, HBwA⟩ := hcut
              clear HK
              have DWwA := Lib.hid (vnx DW.out HBwA.out)
              clear DW; have DW := DWwA
              have HK : Hid (∀ ww, Below wA.heap.size wA ww → (ww.cell? ⟨w2.heap.size, 0, none⟩ = some (.int .i64 t2.kind) ∧ ww.cell? ⟨w2.heap.size, 1, none⟩ = some (.int .i64 t2.n) ∧ ww.cell? ⟨w2.heap.size, 2, none⟩ = some (.int .i64 t2.x) ∧ ww.cell? ⟨w2.heap.size, 3, none⟩ = some (.string t2.s) ∧ ww.cell? ⟨w2.heap.size, 4, none⟩ = some (.slice a2 t1.l.length c2)) ∧ (ww.cell? ⟨b8, off8 + j * 5, none⟩ = some (.int .i64 z.kind) ∧ ww.cell? ⟨b8, off8 + j * 5 + 1, none⟩ = some (.int .i64 z.n) ∧ ww.cell? ⟨b8, off8 + j * 5 + 2, none⟩ = some (.int .i64 z.x) ∧ ww.cell? ⟨b8, off8 + j * 5 + 3, none⟩ = some (.string z.s) ∧ ww.cell? ⟨b8, off8 + j * 5 + 4, none⟩ = some (.slice az nz cz))) := Lib.hid (fun ww hb => ⟨by obtain ⟨h0, h1, h2, h3, h4, -⟩ := five_kept (vnx DW.out hb) XX10.out; exact ⟨h0, h1, h2, h3, h4⟩, HZC.out _ (vnx DW.out hb)⟩)
              go_upto_region 18 with fail
              go_cut [16, 17] (fun s6 s7 wx => Left wA wx rz true s6 s7)
              case first =>
                obtain ⟨⟨k0, k1, k2, k3, k4⟩, ⟨m0, m1, m2, m3, m4⟩⟩ := HK.out _ (Below.refl _ _)
                have dd : Below wA.heap.size wA wA.drew := (Below.refl _ _).drew
                have dz : Below wA.heap.size wA wA := Below.refl _ _
                go_wp2_with fail
                go_region_held3 (fun ww => (ww.cell? ⟨w2.heap.size, 0, none⟩ = some (.int .i64 t2.kind) ∧ ww.cell? ⟨w2.heap.size, 1, none⟩ = some (.int .i64 t2.n) ∧ ww.cell? ⟨w2.heap.size, 2, none⟩ = some (.int .i64 t2.x) ∧ ww.cell? ⟨w2.heap.size, 3, none⟩ = some (.string t2.s) ∧ ww.cell? ⟨w2.heap.size, 4, none⟩ = some (.slice a2 t1.l.length c2)) ∧ (ww.cell? ⟨b8, off8 + j * 5, none⟩ = some (.int .i64 z.kind) ∧ ww.cell? ⟨b8, off8 + j * 5 + 1, none⟩ = some (.int .i64 z.n) ∧ ww.cell? ⟨b8, off8 + j * 5 + 2, none⟩ = some (.int .i64 z.x) ∧ ww.cell? ⟨b8, off8 + j * 5 + 3, none⟩ = some (.string z.s) ∧ ww.cell? ⟨b8, off8 + j * 5 + 4, none⟩ = some (.slice az nz cz))) (first | with_reducible exact HK.out _ dd | with_reducible exact HK.out _ dz | with_reducible exact HK.out _ (dd.alloc dd.size _) | with_reducible exact HK.out _ (dz.alloc (Nat.le_refl _) _).drew | with_reducible exact HK.out _ (dz.alloc (Nat.le_refl _) _) | with_reducible exact HK.out _ (dd.alloc dd.size _).drew | with_reducible exact HK.out _ dd.drew | with_reducible exact HK.out _ (by (repeat (refine Below.setCell ?_ (by first | (dsimp only; omega) | (simp only [World.size_alloc]; omega)) _)); exact dd))
                  (first
                   | (go_at_call 60; (with_reducible refine (HL2.out _ (vnx DW.out (by first | with_reducible exact dd | with_reducible exact dz | with_reducible exact dd.alloc dd.size _ | with_reducible exact dz.alloc (Nat.le_refl _) _ | with_reducible exact (dz.alloc (Nat.le_refl _) _).drew | with_reducible exact (dd.alloc dd.size _).drew | with_reducible exact dd.drew))).mono ?_); rintro _ wC ⟨aC, nC, cC, rfl, oC, bC⟩; have HOC := Lib.hid oC; clear oC; have hpre := dd.size; (try (have HB := Lib.hid ((bC.block _ (by show _ < (World.alloc _ _).heap.size; rw [World.size_alloc]; exact Nat.lt_succ_self _)).trans (heap_alloc_new _ _)); have hBge : wA.heap.size ≤ _ := dd.size)); (try (have HB := Lib.hid ((bC.block _ (lt_alloc_drew _ _)).trans (heap_alloc_drew _ _)); have hBge : wA.heap.size ≤ wA.heap.size := Nat.le_refl _)); (try (have hB' := HB.out; simp only [World.size_alloc, World.size_drew] at hB'; have HB := Lib.hid hB')); have hBC : Below wA.heap.size wA wC := vnx (by first | with_reducible exact dd | with_reducible exact dz | with_reducible exact dd.alloc dd.size _ | with_reducible exact dz.alloc (Nat.le_refl _) _ | with_reducible exact (dz.alloc (Nat.le_refl _) _).drew | with_reducible exact (dd.alloc dd.size _).drew | with_reducible exact dd.drew) bC; clear dd; have dd := hBC; clear hBC; (try (have HG := five_kept (Below.refl _ _) HB.out; obtain ⟨g0, g1, g2, g3, g4, gf⟩ := HG; have gf0 := gf 0; have gf1 := gf 1; have gf2 := gf 2; have gf3 := gf 3; have gf4 := gf 4; clear gf))))
                all_goals go_wp2_with fail
                all_goals go_meet
                all_goals
                  case rel =>
                    first
                    | (with_reducible refine left_last ?_ dd HOC.out); first | exact hpre | exact Nat.le_refl _ | (simp only [World.size_alloc, World.size_drew]; omega)
                    | (with_reducible refine left_early ?_ dd HOC.out HB.out ?_ ?_); (first | exact hpre | (simp only [World.size_alloc, World.size_drew]; omega)); (first | exact hBge | exact Nat.le_refl _ | omega | (simp only [World.size_alloc]; omega)); (first | exact Nat.lt_succ_self _ | (simp only [World.size_alloc, World.size_drew]; omega))
              case rest =>
                rename World => wB
                obtain ⟨BwB, awB, nwB, cwB, lowB, hiwB, rfl, rfl, hl1wB, hl2wB, hl3wB, hl4wB, hl5wB, KRwB, ORwB, HBwB⟩ := hcut
                clear HK
                have DWwB := Lib.hid (vnx DW.out HBwB.out)
                have KA := Lib.hid (box5_kept HBwB.out KRwA.out)
                have TA := Lib.hid (ORwA.out.tsl.kept HBwB.out); have TB := Lib.hid ORwB.out.tsl
                have hS := sameLaw_c rz rz wB (.slice awA nwA cwA) (.slice awB nwB cwB) TA.out TB.out HFRZ.out HFRZ.out
                rw [sameB_true.2 rfl] at hS
                have HS := Lib.hid hS; clear hS
                obtain ⟨k0, k1, k2, k3, k4⟩ := KA.out; obtain ⟨m0, m1, m2, m3, m4⟩ := KRwB.out
                go_wp2_with fail
                refine HS.out.mono ?_
                rintro _ wC ⟨rfl, bC⟩
                have DC := Lib.hid (HBW.out.trans ((vnx DWwB.out bC).mono hs10)); clear bC
                go_wp2_with fail
                go_roundw
                case rel => exact ⟨j + 1, by omega, by go_num, DC⟩
                case measure => simp [intOf]; omega
          · obtain rfl : j = nl.length := by omega
            clear hjl
            have hO2 := fun ww (hb : Below w10.heap.size w10 ww) => once_impl t2 ww (.slice a2 t1.l.length c2) (by rw [HE2.out, sortT_cost]; omega) (TSl.kept hb TSX10.out) HF2.out
            have hO1 := fun ww (hb : Below w10.heap.size w10 ww) => once_impl t1 ww (.slice a1 t1.l.length c1) (by omega) (TSl.kept hb TSV10.out) HF1.out
            have hS2 := fun ww (hb : Below w10.heap.size w10 ww) => sorted_impl t2 ww (.slice a2 t1.l.length c2) (LA.out.kept (nx T10.out hb)) (by rw [HE2.out, sortT_cost]; omega) (TSl.kept hb TSX10.out) HF2.out
            rw [HOS.out] at hO2; rw [← HEO.out] at hO1; rw [HST.out] at hS2
            have R1 := Lib.hid hO2; have R2 := Lib.hid hO1; have R3 := Lib.hid hS2; clear hO1 hO2 hS2
            have HK : Hid (∀ ww, Below w10.heap.size w10 ww → (ww.cell? ⟨w1.heap.size, 0, none⟩ = some (.int .i64 t1.kind) ∧ ww.cell? ⟨w1.heap.size, 1, none⟩ = some (.int .i64 t1.n) ∧ ww.cell? ⟨w1.heap.size, 2, none⟩ = some (.int .i64 t1.x) ∧ ww.cell? ⟨w1.heap.size, 3, none⟩ = some (.string t1.s) ∧ ww.cell? ⟨w1.heap.size, 4, none⟩ = some (.slice a1 t1.l.length c1)) ∧ (ww.cell? ⟨w2.heap.size, 0, none⟩ = some (.int .i64 t2.kind) ∧ ww.cell? ⟨w2.heap.size, 1, none⟩ = some (.int .i64 t2.n) ∧ ww.cell? ⟨w2.heap.size, 2, none⟩ = some (.int .i64 t2.x) ∧ ww.cell? ⟨w2.heap.size, 3, none⟩ = some (.string t2.s) ∧ ww.cell? ⟨w2.heap.size, 4, none⟩ = some (.slice a2 t1.l.length c2))) := Lib.hid (fun ww hb => ⟨by obtain ⟨h0, h1, h2, h3, h4, -⟩ := five_kept hb XV10.out; exact ⟨h0, h1, h2, h3, h4⟩, by obtain ⟨h0, h1, h2, h3, h4, -⟩ := five_kept hb XX10.out; exact ⟨h0, h1, h2, h3, h4⟩⟩)
            obtain ⟨⟨k0, k1, k2, k3, k4⟩, ⟨m0, m1, m2, m3, m4⟩⟩ := HK.out _ (Below.refl _ _)
            have d0 : Below w10.heap.size w10 w10.drew := (Below.refl _ _).drew
            have tok0 : True := trivial
            go_wp2_with fail
            go_region_held3 (fun ww => (ww.cell? ⟨w1.heap.size, 0, none⟩ = some (.int .i64 t1.kind) ∧ ww.cell? ⟨w1.heap.size, 1, none⟩ = some (.int .i64 t1.n) ∧ ww.cell? ⟨w1.heap.size, 2, none⟩ = some (.int .i64 t1.x) ∧ ww.cell? ⟨w1.heap.size, 3, none⟩ = some (.string t1.s) ∧ ww.cell? ⟨w1.heap.size, 4, none⟩ = some (.slice a1 t1.l.length c1)) ∧ (ww.cell? ⟨w2.heap.size, 0, none⟩ = some (.int .i64 t2.kind) ∧ ww.cell? ⟨w2.heap.size, 1, none⟩ = some (.int .i64 t2.n) ∧ ww.cell? ⟨w2.heap.size, 2, none⟩ = some (.int .i64 t2.x) ∧ ww.cell? ⟨w2.heap.size, 3, none⟩ = some (.string t2.s) ∧ ww.cell? ⟨w2.heap.size, 4, none⟩ = some (.slice a2 t1.l.length c2))) (first | with_reducible exact HK.out _ d4 | with_reducible exact HK.out _ d3 | with_reducible exact HK.out _ d2 | with_reducible exact HK.out _ d1 | with_reducible exact HK.out _ d0)
              (first
               | (go_at_call 67; have tk := tok0; (with_reducible refine (R1.out _ d0).mono ?_); rintro _ v1 ⟨rfl, b1⟩; have d1 := nx d0 b1; clear tok0 tk; have tok1 : True := trivial)
               | (go_at_call 67; have tk := tok1; (with_reducible refine (R2.out _ d1).mono ?_); rintro _ v2 ⟨rfl, b2⟩; have d2 := nx d1 b2; clear tok1 tk; have tok2 : True := trivial)
               | (go_at_call 19; have tk := tok2; (with_reducible refine (R3.out _ d2).mono ?_); rintro _ v3 ⟨rfl, b3⟩; have d3 := nx d2 b3; clear tok2 tk; have tok3 : True := trivial)
               | (go_at_call 67; have tk := tok3; (with_reducible refine (R2.out _ d3).mono ?_); rintro _ v4 ⟨rfl, b4⟩; have d4 := nx d3 b4; clear tok3 tk; have tok4 : True := trivial))
            all_goals go_wp2_with fail
            all_goals go_ret
            all_goals exact ⟨rfl, nx T10.out d4⟩
namespace fnMaps
set_option maxRecDepth 100000 in
theorem walk : LawWalkX (fun W => LaidP W) 11 Tryd.f11 := by
  intro H enc W base args ds p hval0 hA0 hL
  have hval : ∀ (j : Nat) t v, Tryd.f11.params[j]? = some t → args[j]? = some v → Value.okWide Tryd.prog W .any base t v := hval0
  have hA : DataW.TrodAll enc Tryd.prog W 0 (fun _ => true) true Tryd.f11.params.toList args.toList ds p := hA0
  clear hval0 hA0
  rw [Tryd.params11] at hA hval
  obtain ⟨v0, vs0, d0, ds0, p0, q0, hargs, rfl, rfl, h0, r0⟩ := trodAll_cons hA
  obtain ⟨rfl, rfl, rfl⟩ := trodAll_nil r0
  obtain rfl : args = #[v0] := by cases args; simp_all
  obtain ⟨a0, len0, cap0, rfl⟩ := okWide_slice Tryd.underlying39 (hval 0 39 v0 rfl rfl)
  obtain ⟨z0, rfl, w0, x0, y0, m0⟩ := open_ints_rd Tryd.underlying39 Tryd.underlying5 (by kernel_rfl) h0
  exact fnMaps_law a0 cap0 z0 W hL w0 x0 y0 m0
theorem laid_met (os : Os) : laidMet Tryd.prog Rows.fnMapsRow.laid ((laidWorld os).forCall (fun _ _ => 0) ⟨#[], #[.slice none 0 0], []⟩).memory :=
  laidMet_of_run' 8 (by kernel_rfl) (by kernel_rfl)
theorem reads (os : Os) {H : Type} (enc : TypeId × Value → H) : ∃ places, DataW.whole enc Tryd.prog ((laidWorld os).forCall (fun _ _ => 0) ⟨#[], #[.slice none 0 0], []⟩).memory Tryd.f11.params.toList Rows.fnMapsSpec.vars false (#[Value.slice none 0 0] : Array Value).toList 8 = some ([.nil], [], places) :=
  ⟨[], by kernel_rfl⟩
set_option maxRecDepth 100000 in
theorem lifted (os : Os) (started : os.Started) (H : Type) (enc : TypeId × Value → H) (F : Stop.Interp) :
    ReturnsInHanded {} Tryd.checked os 11 .any ((OpenSpec.ofChange Rows.fnMapsSpec).preRow enc Tryd.prog Tryd.f11 Rows.fnMapsRow.domain false Rows.fnMapsRow.laid) (((OpenSpec.ofChange Rows.fnMapsSpec).at F).post enc Tryd.prog Tryd.f11 false true false false) := by
  obtain ⟨places, hx⟩ := reads os enc
  refine returnsInHanded_of_row (C := Tryd.checked) (s := OpenSpec.ofChange Rows.fnMapsSpec) own started (by kernel_rfl) Tryd.func11
    (witness_row_at (enc := enc) (C := Tryd.checked) false (laidWorld os) #[.slice none 0 0] rfl (by kernel_rfl) (by kernel_rfl) (by kernel_rfl)
      (OpenSpec.preRow_of_cond 8 hx (by kernel_rfl) (fun k hk => by cases hk) (by kernel_rfl) (laid_met os))) ?_
  intro W base args ds gs before hval hW _ _ _ hL _ _
  exact law_contractX (fun W => LaidP W) 11 Tryd.f11 Rows.fnMapsSpec H enc rfl rfl (by kernel_rfl) (fun ds h => by match ds, h with | [_], _ => rfl) walk W base args ds gs before hval hW (laidP_of hL (by simp [Rows.fnMapsRow]))
theorem said : Rows.FnMapsSaid :=
  OpenClaim.holds_of_cond 11 Tryd.f11 rfl rfl rfl rfl rfl rfl rfl ⟨rfl, rfl, rfl, rfl, rfl⟩ rfl rfl rfl rfl rfl (by kernel_rfl) Tryd.func11 (by kernel_rfl)
    (of_decide_eq_true (by kernel_rfl)) (by unfold Func.isWrapper; first | (rw [if_pos (by decide +kernel)]; kernel_rfl) | (rw [if_neg (by decide +kernel)]; exact ⟨rfl, rfl⟩))
    (fun os started H enc _ F => by rw [OpenClaim.pre_eq_preRow]; exact lifted os started H enc F)
theorem plain (f : FuncId) (fn : Func) (hf : Tryd.pinned.checked.prog.funcNamed "loop.example/g00502/laws.FnMaps" = some f) (hfn : Tryd.pinned.checked.prog.funcs[f]? = some fn) :
    true = Tryd.pinned.checked.prog.looks [] ∧ ∀ (j : Nat) t, fn.params[j]? = some t → Tryd.pinned.checked.prog.wantsStandIn t = false := by
  obtain rfl : f = 11 := Option.some.inj ((show Tryd.prog.funcNamed "loop.example/g00502/laws.FnMaps" = some 11 by kernel_rfl).symm.trans hf) |>.symm
  obtain rfl : fn = Tryd.f11 := (Option.some.inj (Tryd.func11.symm.trans hfn)).symm
  refine ⟨by kernel_rfl, fun j t ht => ?_⟩
  have hall : Tryd.f11.params.toList.all (fun t => !Tryd.pinned.checked.prog.wantsStandIn t) = true := by kernel_rfl
  have hm := List.all_eq_true.1 hall t (by simpa using Array.mem_of_getElem? ht)
  simpa using hm
theorem proved : Rows.FnMapsCardSaid :=
  Claim7.holds_tied_plain_at .later [] _ _ _ _ said (fun _ h => by cases h) (by kernel_rfl) (fun _ h => by cases h) fnMaps_row_tie rfl ⟨rfl, rfl⟩ (by kernel_rfl) rfl plain (by kernel_rfl)
#print axioms proved
end fnMaps
end Go.Proofs.YtilmhemcpgiikaaDoor
