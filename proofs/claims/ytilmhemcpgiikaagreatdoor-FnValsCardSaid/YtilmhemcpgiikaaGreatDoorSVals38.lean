/- Vals: texts of the proof (DOrd). -/
import Derived.Test.YtilmhemcpgiikaaGreatDoorSVals32
import Derived.Deep.RegionWith
import Derived.Test.YtilmhemcpgiikaaGreatDoorSVals33
/- The draws of two trees and of a right tree. -/
namespace Go.Proofs.YtilmhemcpgiikaaGreatDoor
open Go.Deep Go.ChangeShapes Go.WideShapes Go.ChangeAt Go.RowKit
open Go.ChangeMaps (open_string shut_string)

set_option maxRecDepth 100000 in
set_option maxHeartbeats 40000000 in
theorem drawVal_c (zs : List Int) (a : Option Addr) (cap : Nat) (w : World) (hr : Rd w .u8 a zs) (hw : ∀ n ∈ zs, (Lit.int .u8 n).wf = true) (hlen : zs.length ≤ 1048576) (hcap : zs.length ≤ cap) :
    Calls Tryz.prog 7 #[.slice a zs.length cap] w fun e w' => (∃ (t : Tree) (u : Value), e = .returned (.agg #[.int .i64 t.kind, .int .i64 t.n, .int .i64 t.x, .string t.s, u]) ∧ (t.ok = true ∧ t.cost ≤ 6400 ∧ Fits t.kind t.n t.x t.s) ∧ TSl w' u t.l) ∧ Below w.heap.size w w' := by
  have HR := Lib.hid hr; clear hr
  have HW := Lib.hid hw; clear hw
  go_enter Tryz.func7, Tryz.ntmps7
  go_wp2_with fail
  refine (l1New_c zs a cap _ (by exact rd_kept (below_alloc (Below.refl w.heap.size w) _) HR.out) HW.out hlen hcap).mono ?_
  rintro _ w1 ⟨P, rfl, hP, C', b'⟩
  simp only [World.size_alloc] at hP
  have C1 := Lib.hid C'; clear C'
  have XR1 : Hid (w1.heap[w.heap.size]? = some (.cells #[.int .i64 0, .int .i64 0, .int .i64 0, .string { data := #[] }, .slice none 0 0] 26 (0, 0))) := Lib.hid (box_below (heap_alloc_new _ _) b')
  have LER := Lib.hid (show w.heap.size < P by omega)
  have BW1 := Lib.hid (nx (below_alloc (Below.refl w.heap.size w) _) b'); clear b'
  have HP := Lib.hid C1.out.lt
  have HWP := Lib.hid (show w.heap.size ≤ P by omega); clear hP
  have G1 := Lib.hid (gr_refl (w := w1) (P := P))
  go_wp2_with fail
  refine (l6Val_c P _ (by exact C1.out)).mono ?_
  rintro _ w2 ⟨t, u, rfl, ht, hap, C', G'⟩
  have HT := Lib.hid ht; clear ht
  have HAP := Lib.hid hap; clear hap
  have C2 := Lib.hid C'; clear C'
  have XR2 : Hid (w2.heap[w.heap.size]? = some (.cells #[.int .i64 0, .int .i64 0, .int .i64 0, .string { data := #[] }, .slice none 0 0] 26 (0, 0))) := Lib.hid (box_gr XR1.out G' (by have h1 := HP.out; have h2 := LER.out; omega))
  have G2 := Lib.hid (gr_trans G1.out G'); clear G'
  obtain ⟨au, cu, rfl⟩ := HAP.out.form
  have Rl := box_lt XR2.out
  obtain ⟨R0, R1, R2, R3, R4, Rf0, Rf1, Rf2, Rf3, Rf4⟩ := five_open XR2.out
  go_wp2_with fail
  have hRl := LER.out; have hP1 := HP.out
  refine bodyPost_ret (v := .agg #[.int .i64 t.kind, .int .i64 t.n, .int .i64 t.x, .string t.s, .slice au t.l.length cu]) (by simp [results, Tryz.results7, go_sem, R0, R1, R2, R3, R4]) rfl ⟨⟨t, _, rfl, HT.out, ?_⟩, ?_⟩
  · have hk : Kp w2 w1.heap.size w2 := Kp.refl _ _
    refine (Kp.ap (w0 := w2) (lo := w1.heap.size) ?_ HAP.out).osl.tsl
    repeat (first | with_reducible exact hk | with_reducible refine Kp.set ?_ _ (by omega))
  · have hb := below_gr BW1.out G2.out HWP.out
    repeat (first | with_reducible exact hb | with_reducible refine below_set ?_ _ (Nat.le_refl _))
end Go.Proofs.YtilmhemcpgiikaaGreatDoor
