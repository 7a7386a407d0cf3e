/- Vals: texts of the proof (DTree). -/
import Derived.Test.YtilmhemcpgiikaaGreatDoorSVals21
import Derived.Test.YtilmhemcpgiikaaGreatDoorSVals28
import Derived.Test.YtilmhemcpgiikaaGreatDoorSVals30
import Derived.Test.YtilmhemcpgiikaaGreatDoorSVals27
import Derived.Test.YtilmhemcpgiikaaGreatDoorSVals12
import Derived.Deep.DeepCutAuto
import Derived.Deep.AppendLies
import Derived.Deep.RegionLaw
/- The draw of a tree. -/
namespace Go.Proofs.YtilmhemcpgiikaaGreatDoor
open Go.Deep Go.ChangeShapes Go.WideShapes Go.ChangeAt Go.RowKit
open Go.ChangeMaps (open_string shut_string)

/-- What the draw of a tree answers. -/
def DPost (w : World) (P B : Nat) : Ending → World → Prop := fun e w' => ∃ (t : Tree) (u : Value), e = .returned (.agg #[.int .i64 t.kind, .int .i64 t.n, .int .i64 t.x, .string t.s, u]) ∧
  (t.ok = true ∧ t.cost ≤ B ∧ Fits t.kind t.n t.x t.s) ∧ AP w' w.heap.size 26 u t.l ∧ Cur w' P ∧ w.grownBy w' (some P)
theorem wf_lit {k : Int} (h : 0 ≤ k ∧ k ≤ 20) : wf6 k := by unfold wf6; omega
theorem flt_wf {m e : Int} (h : fltOkF m e = true) : wf6 m ∧ wf6 e := flt_rng h
theorem dec_wf {n x : Int} (h : decOkB n x = true) : wf6 n ∧ wf6 x := by have := dec_rng h; unfold wf6; omega
theorem leaf_cost (k n x : Int) (s : ByteArray) : (Tree.mk k n x s []).cost = s.size := by rw [Tree.cost_eq]; simp [costL]
theorem fitsM {k n x : Int} {s : ByteArray} {l : List Tree} (hk : wf6 k) (hn : wf6 n) (hx : wf6 x) (hs : s.size ≤ 9223372036854775807) : Fits (Tree.mk k n x s l).kind (Tree.mk k n x s l).n (Tree.mk k n x s l).x (Tree.mk k n x s l).s := ⟨hk, hn, hx, hs⟩
theorem emp_size : ({ data := #[] } : ByteArray).size = 0 := rfl
theorem cat_str {S : ByteArray} {l : List UInt8} (h : S = ⟨l.toArray⟩) : S.size = l.length := by subst h; simp [ByteArray.size]
theorem numT_all {n x : Int} (h : decOkB n x = true) : (numT n x).ok = true ∧ (numT n x).cost ≤ 0 ∧ Fits (numT n x).kind (numT n x).n (numT n x).x (numT n x).s ∧ (numT n x).l = [] := by
  have hw := dec_wf h
  refine ⟨numT_ok h, ?_⟩
  unfold numT
  split
  · exact ⟨by rw [leaf_cost]; exact Nat.le_refl _, fitsM (wf_lit (by decide)) hw.1 (wf_lit (by decide)) (by decide), rfl⟩
  · exact ⟨by rw [leaf_cost]; exact Nat.le_refl _, fitsM (wf_lit (by decide)) hw.1 hw.2 (by decide), rfl⟩
/-- One tree in a block of its own. -/
theorem tag_row {w : World} {lo : Nat} {u : Value} {t : Tree} (h : AP w lo 26 u t.l) (fit : Fits t.kind t.n t.x t.s) (hlo : lo ≤ w.heap.size) {N : Nat} (hN : w.heap.size = N) : AP (w.alloc (.cells #[.int .i64 t.kind, .int .i64 t.n, .int .i64 t.x, .string t.s, u] 26)) lo 26 (.slice (some ⟨N, 0, none⟩) 1 1) [t] := by
  subst hN
  refine ⟨[⟨t, u, Rng lo w.heap.size⟩], rfl, ⟨by simp [Elem.cells, cells5], .inr ⟨w.heap.size, 1, #[.int .i64 t.kind, .int .i64 t.n, .int .i64 t.x, .string t.s, u], rfl, hlo, heap_alloc_new _ _, Nat.le_refl _, by simp [maxLen], by simp, by simp [Elem.cells, cells5]⟩⟩, ?_, by simp⟩
  intro e he
  rw [List.mem_singleton] at he
  subst he
  refine ⟨fit, h.osl.kept (fun b hb => Below.heap_alloc _ _ _ hb.2), fun b hb => ⟨hb.1, by simp only [World.size_alloc]; have := hb.2; omega, fun e => ?_⟩⟩
  have h2 := hb.2
  simp only [Value.ownBlock, Option.some.injEq] at e
  omega
set_option maxRecDepth 100000 in
set_option maxHeartbeats 40000000 in
theorem l6Draw_step (Z : Int) (hz0 : 0 ≤ Z) (hz1 : Z ≤ 3) (B B' : Nat) (hB : 100 ≤ B) (hBB : Z ≠ 0 → 36 + 3 * B' ≤ B) (P : Nat) (IH : Z ≠ 0 → ∀ w : World, Cur w P → Calls Tryz.prog 39 #[.pointer (some ⟨P, 0, none⟩), .int .i64 (Z - 1)] w (DPost w P B')) (w : World) (hC : Cur w P) :
    Calls Tryz.prog 39 #[.pointer (some ⟨P, 0, none⟩), .int .i64 Z] w (DPost w P B) := by
  have HC := Lib.hid hC; clear hC
  have HP := Lib.hid HC.out.lt
  have LER := Lib.hid (Nat.le_refl w.heap.size)
  obtain ⟨i0, hi, hz, hs, hb⟩ := info_parts info_val
  have HI := Lib.hid hi; clear hi
  have HB1 := Lib.hid hB
  have HB4 := Lib.hid hBB; clear hBB
  have HIH := Lib.hid IH; clear IH
  go_enter Tryz.func39, Tryz.ntmps39
  go_wp2_with fail
  refine (l1Below_c P 13 _ (by exact (Cur.alloc HC.out _)) (by omega)).mono ?_
  rintro _ w1 ⟨k0, rfl, k00, k01, -, -, C', G'⟩
  have C1 := Lib.hid C'; clear C'
  have XR1 : Hid (w1.heap[w.heap.size]? = some (.cells #[.int .i64 0, .int .i64 0, .int .i64 0, .string { data := #[] }, .slice none 0 0] 26 (0, 0))) := Lib.hid (box_gr (heap_alloc_new _ _) G' (by have h1 := HP.out; have h2 := LER.out; omega))
  have G1 := Lib.hid (gr_trans (gr_alloc (gr_refl (w := w) (P := P)) _) G'); clear G'
  replace k01 := k01 (by omega)
  go_upto_if 12 with fail
  go_cut [5] (fun s5 wx => ∃ k : Int, s5 = .int .i64 k ∧ 0 ≤ k ∧ k < 13 ∧ (Z = 0 → k < 9) ∧ Hid (Cur wx P) ∧ Hid (w.grownBy wx (some P)) ∧ Hid (wx.heap[w.heap.size]? = some (.cells #[.int .i64 0, .int .i64 0, .int .i64 0, .string { data := #[] }, .slice none 0 0] 26 (0, 0))))
  case first =>
    by_cases hZ : Z = 0
    · have hzb : (Z == 0) = true := by simpa using hZ
      clear hZ
      go_wp2_with fail
      refine (l1Below_c P 9 _ (by exact C1.out) (by omega)).mono ?_
      rintro _ w2 ⟨k, rfl, k0, k1, -, -, C', G'⟩
      have C2 := Lib.hid C'; clear C'
      have XR2 : Hid (w2.heap[w.heap.size]? = some (.cells #[.int .i64 0, .int .i64 0, .int .i64 0, .string { data := #[] }, .slice none 0 0] 26 (0, 0))) := Lib.hid (box_gr XR1.out G' (by have h1 := HP.out; have h2 := LER.out; omega))
      have G2 := Lib.hid (gr_trans G1.out G'); clear G'
      replace k1 := k1 (by omega)
      go_wp2_with fail
      go_meet
      case rel => exact ⟨k, rfl, k0, by omega, fun _ => k1, C2, G2, XR2⟩
    · have hzb : (Z == 0) = false := by simpa using hZ
      have HZ := Lib.hid hZ; clear hZ
      go_wp2_with fail
      go_meet
      case rel => exact ⟨k0, rfl, by omega, by omega, fun h => absurd h HZ.out, C1, G1, XR1⟩
  case rest =>
    rename World => wb
    obtain ⟨k, rfl, hk0, hk1, hkZ, C2, G2, XR2⟩ := hcut
    clear C1 G1 XR1
    have hk : k = 0 ∨ k = 1 ∨ k = 2 ∨ k = 3 ∨ k = 4 ∨ k = 5 ∨ k = 6 ∨ k = 7 ∨ k = 8 ∨ k = 9 ∨ k = 10 ∨ k = 11 ∨ k = 12 := by omega
    rcases hk with rfl | rfl | rfl | rfl | rfl | rfl | rfl | rfl | rfl | rfl | rfl | rfl | rfl
    · have Rl := box_lt XR2.out
      obtain ⟨R0, R1, R2, R3, R4, Rf0, Rf1, Rf2, Rf3, Rf4⟩ := five_open XR2.out
      go_wp2_with fail
      refine bodyPost_ret (v := .agg #[.int .i64 1, .int .i64 0, .int .i64 0, .string { data := #[] }, .slice none 0 0]) (by simp [results, Tryz.results39, go_sem, R0, R1, R2, R3, R4]) rfl ⟨.mk 1 0 0 { data := #[] } [], _, rfl, ⟨ok_null, by rw [leaf_cost]; rw [emp_size]; omega, fitsM (wf_lit (by decide)) (wf_lit (by decide)) (wf_lit (by decide)) (by decide)⟩, AP.nil _ _ _, ?_, ?_⟩
      · repeat (first | with_reducible exact C2.out | with_reducible refine Cur.set ?_ _ (by have h1 := HP.out; have eR := LER.out; omega) | with_reducible refine Cur.alloc ?_ _ | with_reducible refine cur_drew ?_)
      · repeat (first | with_reducible exact G2.out | with_reducible refine gr_sets ?_ _ (by have eR := LER.out; omega) | with_reducible refine gr_alloc ?_ _ | with_reducible refine gr_drew ?_)
    · go_wp2_with fail
      refine (l1Below_c P 2 _ (by exact C2.out) (by omega)).mono ?_
      rintro _ w3 ⟨n, rfl, n0, n1, -, -, C', G'⟩
      have C3 := Lib.hid C'; clear C'
      have XR3 : Hid (w3.heap[w.heap.size]? = some (.cells #[.int .i64 0, .int .i64 0, .int .i64 0, .string { data := #[] }, .slice none 0 0] 26 (0, 0))) := Lib.hid (box_gr XR2.out G' (by have h1 := HP.out; have h2 := LER.out; omega))
      have G3 := Lib.hid (gr_trans G2.out G'); clear G'
      replace n1 := n1 (by omega)
      have Rl := box_lt XR3.out
      obtain ⟨R0, R1, R2, R3, R4, Rf0, Rf1, Rf2, Rf3, Rf4⟩ := five_open XR3.out
      go_wp2_with fail
      refine bodyPost_ret (v := .agg #[.int .i64 2, .int .i64 n, .int .i64 0, .string { data := #[] }, .slice none 0 0]) (by simp [results, Tryz.results39, go_sem, R0, R1, R2, R3, R4]) rfl ⟨.mk 2 n 0 { data := #[] } [], _, rfl, ⟨ok_bool (by omega), by rw [leaf_cost]; rw [emp_size]; omega, fitsM (wf_lit (by decide)) (by unfold wf6; omega) (wf_lit (by decide)) (by decide)⟩, AP.nil _ _ _, ?_, ?_⟩
      · repeat (first | with_reducible exact C3.out | with_reducible refine Cur.set ?_ _ (by have h1 := HP.out; have eR := LER.out; omega) | with_reducible refine Cur.alloc ?_ _ | with_reducible refine cur_drew ?_)
      · repeat (first | with_reducible exact G3.out | with_reducible refine gr_sets ?_ _ (by have eR := LER.out; omega) | with_reducible refine gr_alloc ?_ _ | with_reducible refine gr_drew ?_)
    · go_wp2_with fail
      refine (l1Signed_c P _ (by exact C2.out)).mono ?_
      rintro _ w3 ⟨n, rfl, hn, C', G'⟩
      have Hhn := Lib.hid hn; clear hn
      have C3 := Lib.hid C'; clear C'
      have XR3 : Hid (w3.heap[w.heap.size]? = some (.cells #[.int .i64 0, .int .i64 0, .int .i64 0, .string { data := #[] }, .slice none 0 0] 26 (0, 0))) := Lib.hid (box_gr XR2.out G' (by have h1 := HP.out; have h2 := LER.out; omega))
      have G3 := Lib.hid (gr_trans G2.out G'); clear G'
      go_wp2_with fail
      refine (spec_IntVal n _).mono ?_
      rintro _ w4 ⟨rfl, b'⟩
      have C4 := Lib.hid (Cur.below C3.out b')
      have XR4 : Hid (w4.heap[w.heap.size]? = some (.cells #[.int .i64 0, .int .i64 0, .int .i64 0, .string { data := #[] }, .slice none 0 0] 26 (0, 0))) := Lib.hid (box_below XR3.out b')
      have G4 := Lib.hid (gr_on G3.out b'); clear b'
      have Rl := box_lt XR4.out
      obtain ⟨R0, R1, R2, R3, R4, Rf0, Rf1, Rf2, Rf3, Rf4⟩ := five_open XR4.out
      go_wp2_with fail
      refine bodyPost_ret (v := .agg #[.int .i64 3, .int .i64 n, .int .i64 0, .string { data := #[] }, .slice none 0 0]) (by simp [results, Tryz.results39, go_sem, R0, R1, R2, R3, R4]) rfl ⟨.mk 3 n 0 { data := #[] } [], _, rfl, ⟨ok_int Hhn.out, by rw [leaf_cost]; rw [emp_size]; omega, fitsM (wf_lit (by decide)) (by have := Hhn.out; unfold wf6; omega) (wf_lit (by decide)) (by decide)⟩, AP.nil _ _ _, ?_, ?_⟩
      · repeat (first | with_reducible exact C4.out | with_reducible refine Cur.set ?_ _ (by have h1 := HP.out; have eR := LER.out; omega) | with_reducible refine Cur.alloc ?_ _ | with_reducible refine cur_drew ?_)
      · repeat (first | with_reducible exact G4.out | with_reducible refine gr_sets ?_ _ (by have eR := LER.out; omega) | with_reducible refine gr_alloc ?_ _ | with_reducible refine gr_drew ?_)
    · go_wp2_with fail
      refine (l1Signed_c P _ (by exact C2.out)).mono ?_
      rintro _ w3 ⟨n, rfl, hn, C', G'⟩
      have Hhn := Lib.hid hn; clear hn
      have C3 := Lib.hid C'; clear C'
      have XR3 : Hid (w3.heap[w.heap.size]? = some (.cells #[.int .i64 0, .int .i64 0, .int .i64 0, .string { data := #[] }, .slice none 0 0] 26 (0, 0))) := Lib.hid (box_gr XR2.out G' (by have h1 := HP.out; have h2 := LER.out; omega))
      have G3 := Lib.hid (gr_trans G2.out G'); clear G'
      go_wp2_with fail
      refine (spec_IntVal n _).mono ?_
      rintro _ w4 ⟨rfl, b'⟩
      have C4 := Lib.hid (Cur.below C3.out b')
      have XR4 : Hid (w4.heap[w.heap.size]? = some (.cells #[.int .i64 0, .int .i64 0, .int .i64 0, .string { data := #[] }, .slice none 0 0] 26 (0, 0))) := Lib.hid (box_below XR3.out b')
      have G4 := Lib.hid (gr_on G3.out b'); clear b'
      have Rl := box_lt XR4.out
      obtain ⟨R0, R1, R2, R3, R4, Rf0, Rf1, Rf2, Rf3, Rf4⟩ := five_open XR4.out
      go_wp2_with fail
      refine bodyPost_ret (v := .agg #[.int .i64 3, .int .i64 n, .int .i64 0, .string { data := #[] }, .slice none 0 0]) (by simp [results, Tryz.results39, go_sem, R0, R1, R2, R3, R4]) rfl ⟨.mk 3 n 0 { data := #[] } [], _, rfl, ⟨ok_int Hhn.out, by rw [leaf_cost]; rw [emp_size]; omega, fitsM (wf_lit (by decide)) (by have := Hhn.out; unfold wf6; omega) (wf_lit (by decide)) (by decide)⟩, AP.nil _ _ _, ?_, ?_⟩
      · repeat (first | with_reducible exact C4.out | with_reducible refine Cur.set ?_ _ (by have h1 := HP.out; have eR := LER.out; omega) | with_reducible refine Cur.alloc ?_ _ | with_reducible refine cur_drew ?_)
      · repeat (first | with_reducible exact G4.out | with_reducible refine gr_sets ?_ _ (by have eR := LER.out; omega) | with_reducible refine gr_alloc ?_ _ | with_reducible refine gr_drew ?_)
    · go_wp2_with fail
      refine (l5Draw_c P _ (by exact C2.out)).mono ?_
      rintro _ w3 ⟨n, x, rfl, hn, C', G'⟩
      have Hhn := Lib.hid hn; clear hn
      have C3 := Lib.hid C'; clear C'
      have XR3 : Hid (w3.heap[w.heap.size]? = some (.cells #[.int .i64 0, .int .i64 0, .int .i64 0, .string { data := #[] }, .slice none 0 0] 26 (0, 0))) := Lib.hid (box_gr XR2.out G' (by have h1 := HP.out; have h2 := LER.out; omega))
      have G3 := Lib.hid (gr_trans G2.out G'); clear G'
      go_wp2_with fail
      refine (fltVal_c n x _).mono ?_
      rintro _ w4 ⟨rfl, b'⟩
      have C4 := Lib.hid (Cur.below C3.out b')
      have XR4 : Hid (w4.heap[w.heap.size]? = some (.cells #[.int .i64 0, .int .i64 0, .int .i64 0, .string { data := #[] }, .slice none 0 0] 26 (0, 0))) := Lib.hid (box_below XR3.out b')
      have G4 := Lib.hid (gr_on G3.out b'); clear b'
      have Rl := box_lt XR4.out
      obtain ⟨R0, R1, R2, R3, R4, Rf0, Rf1, Rf2, Rf3, Rf4⟩ := five_open XR4.out
      go_wp2_with fail
      refine bodyPost_ret (v := .agg #[.int .i64 4, .int .i64 n, .int .i64 x, .string { data := #[] }, .slice none 0 0]) (by simp [results, Tryz.results39, go_sem, R0, R1, R2, R3, R4]) rfl ⟨.mk 4 n x { data := #[] } [], _, rfl, ⟨ok_flt Hhn.out, by rw [leaf_cost]; rw [emp_size]; omega, fitsM (wf_lit (by decide)) (flt_wf Hhn.out).1 (flt_wf Hhn.out).2 (by decide)⟩, AP.nil _ _ _, ?_, ?_⟩
      · repeat (first | with_reducible exact C4.out | with_reducible refine Cur.set ?_ _ (by have h1 := HP.out; have eR := LER.out; omega) | with_reducible refine Cur.alloc ?_ _ | with_reducible refine cur_drew ?_)
      · repeat (first | with_reducible exact G4.out | with_reducible refine gr_sets ?_ _ (by have eR := LER.out; omega) | with_reducible refine gr_alloc ?_ _ | with_reducible refine gr_drew ?_)
    · go_wp2_with fail
      refine (l1Below_c P 3 _ (by exact C2.out) (by omega)).mono ?_
      rintro _ w3 ⟨n, rfl, n0, n1, -, -, C', G'⟩
      have C3 := Lib.hid C'; clear C'
      have XR3 : Hid (w3.heap[w.heap.size]? = some (.cells #[.int .i64 0, .int .i64 0, .int .i64 0, .string { data := #[] }, .slice none 0 0] 26 (0, 0))) := Lib.hid (box_gr XR2.out G' (by have h1 := HP.out; have h2 := LER.out; omega))
      have G3 := Lib.hid (gr_trans G2.out G'); clear G'
      replace n1 := n1 (by omega)
      have Rl := box_lt XR3.out
      obtain ⟨R0, R1, R2, R3, R4, Rf0, Rf1, Rf2, Rf3, Rf4⟩ := five_open XR3.out
      go_wp2_with fail
      refine bodyPost_ret (v := .agg #[.int .i64 5, .int .i64 n, .int .i64 0, .string { data := #[] }, .slice none 0 0]) (by simp [results, Tryz.results39, go_sem, R0, R1, R2, R3, R4]) rfl ⟨.mk 5 n 0 { data := #[] } [], _, rfl, ⟨ok_odd (by omega), by rw [leaf_cost]; rw [emp_size]; omega, fitsM (wf_lit (by decide)) (by unfold wf6; omega) (wf_lit (by decide)) (by decide)⟩, AP.nil _ _ _, ?_, ?_⟩
      · repeat (first | with_reducible exact C3.out | with_reducible refine Cur.set ?_ _ (by have h1 := HP.out; have eR := LER.out; omega) | with_reducible refine Cur.alloc ?_ _ | with_reducible refine cur_drew ?_)
      · repeat (first | with_reducible exact G3.out | with_reducible refine gr_sets ?_ _ (by have eR := LER.out; omega) | with_reducible refine gr_alloc ?_ _ | with_reducible refine gr_drew ?_)
    · go_wp2_with fail
      refine (l5Dec_c P _ (by exact C2.out)).mono ?_
      rintro _ w3 ⟨n, x, rfl, hn, C', G'⟩
      have Hhn := Lib.hid hn; clear hn
      have C3 := Lib.hid C'; clear C'
      have XR3 : Hid (w3.heap[w.heap.size]? = some (.cells #[.int .i64 0, .int .i64 0, .int .i64 0, .string { data := #[] }, .slice none 0 0] 26 (0, 0))) := Lib.hid (box_gr XR2.out G' (by have h1 := HP.out; have h2 := LER.out; omega))
      have G3 := Lib.hid (gr_trans G2.out G'); clear G'
      have HNT : Hid ((numT n x).ok = true ∧ (numT n x).cost ≤ 0 ∧ Fits (numT n x).kind (numT n x).n (numT n x).x (numT n x).s ∧ (numT n x).l = []) := Lib.hid (numT_all Hhn.out)
      have hnv := fun ww => numVal_s n x ww
      generalize numT n x = T at *
      have HNV := Lib.hid hnv; clear hnv
      go_wp2_with fail
      refine (HNV.out _).mono ?_
      rintro _ w4 ⟨rfl, b'⟩
      have C4 := Lib.hid (Cur.below C3.out b')
      have XR4 : Hid (w4.heap[w.heap.size]? = some (.cells #[.int .i64 0, .int .i64 0, .int .i64 0, .string { data := #[] }, .slice none 0 0] 26 (0, 0))) := Lib.hid (box_below XR3.out b')
      have G4 := Lib.hid (gr_on G3.out b'); clear b'
      have Rl := box_lt XR4.out
      obtain ⟨R0, R1, R2, R3, R4, Rf0, Rf1, Rf2, Rf3, Rf4⟩ := five_open XR4.out
      go_wp2_with fail
      refine bodyPost_ret (v := .agg #[.int .i64 T.kind, .int .i64 T.n, .int .i64 T.x, .string T.s, .slice none 0 0]) (by simp [results, Tryz.results39, go_sem, R0, R1, R2, R3, R4]) rfl ⟨T, _, rfl, ⟨HNT.out.1, by have := HNT.out.2.1; omega, HNT.out.2.2.1⟩, by rw [HNT.out.2.2.2]; exact AP.nil _ _ _, ?_, ?_⟩
      · repeat (first | with_reducible exact C4.out | with_reducible refine Cur.set ?_ _ (by have h1 := HP.out; have eR := LER.out; omega) | with_reducible refine Cur.alloc ?_ _ | with_reducible refine cur_drew ?_)
      · repeat (first | with_reducible exact G4.out | with_reducible refine gr_sets ?_ _ (by have eR := LER.out; omega) | with_reducible refine gr_alloc ?_ _ | with_reducible refine gr_drew ?_)
    · go_wp2_with fail
      refine (l2Text_v P _ (by exact C2.out)).mono ?_
      rintro _ w3 ⟨S, rfl, hS, C', G'⟩
      have HhS := Lib.hid hS; clear hS
      have C3 := Lib.hid C'; clear C'
      have XR3 : Hid (w3.heap[w.heap.size]? = some (.cells #[.int .i64 0, .int .i64 0, .int .i64 0, .string { data := #[] }, .slice none 0 0] 26 (0, 0))) := Lib.hid (box_gr XR2.out G' (by have h1 := HP.out; have h2 := LER.out; omega))
      have G3 := Lib.hid (gr_trans G2.out G'); clear G'
      go_wp2_with fail
      refine (spec_TextVal S _).mono ?_
      rintro _ w4 ⟨rfl, b'⟩
      have C4 := Lib.hid (Cur.below C3.out b')
      have XR4 : Hid (w4.heap[w.heap.size]? = some (.cells #[.int .i64 0, .int .i64 0, .int .i64 0, .string { data := #[] }, .slice none 0 0] 26 (0, 0))) := Lib.hid (box_below XR3.out b')
      have G4 := Lib.hid (gr_on G3.out b'); clear b'
      have Rl := box_lt XR4.out
      obtain ⟨R0, R1, R2, R3, R4, Rf0, Rf1, Rf2, Rf3, Rf4⟩ := five_open XR4.out
      go_wp2_with fail
      refine bodyPost_ret (v := .agg #[.int .i64 7, .int .i64 0, .int .i64 0, .string S, .slice none 0 0]) (by simp [results, Tryz.results39, go_sem, R0, R1, R2, R3, R4]) rfl ⟨.mk 7 0 0 S [], _, rfl, ⟨ok_text HhS.out.2, by rw [leaf_cost]; have := HhS.out.1; omega, fitsM (wf_lit (by decide)) (wf_lit (by decide)) (wf_lit (by decide)) (by have := HhS.out.1; omega)⟩, AP.nil _ _ _, ?_, ?_⟩
      · repeat (first | with_reducible exact C4.out | with_reducible refine Cur.set ?_ _ (by have h1 := HP.out; have eR := LER.out; omega) | with_reducible refine Cur.alloc ?_ _ | with_reducible refine cur_drew ?_)
      · repeat (first | with_reducible exact G4.out | with_reducible refine gr_sets ?_ _ (by have eR := LER.out; omega) | with_reducible refine gr_alloc ?_ _ | with_reducible refine gr_drew ?_)
    · go_wp2_with fail
      refine (l1Below_c P 4 _ (by exact C2.out) (by omega)).mono ?_
      rintro _ w3 ⟨x, rfl, x0, x1, -, -, C', G'⟩
      have C3 := Lib.hid C'; clear C'
      have XR3 : Hid (w3.heap[w.heap.size]? = some (.cells #[.int .i64 0, .int .i64 0, .int .i64 0, .string { data := #[] }, .slice none 0 0] 26 (0, 0))) := Lib.hid (box_gr XR2.out G' (by have h1 := HP.out; have h2 := LER.out; omega))
      have G3 := Lib.hid (gr_trans G2.out G'); clear G'
      replace x1 := x1 (by omega)
      go_wp2_with fail
      refine (l1Bytes_c P x _ (by exact C3.out) (by omega)).mono ?_
      rintro _ w4 ⟨v, rfl, vs, lv, qv, o', C', G'⟩
      have C4 := Lib.hid C'; clear C'
      have XR4 : Hid (w4.heap[w.heap.size]? = some (.cells #[.int .i64 0, .int .i64 0, .int .i64 0, .string { data := #[] }, .slice none 0 0] 26 (0, 0))) := Lib.hid (box_gr XR3.out G' (by have h1 := HP.out; have h2 := LER.out; omega))
      have G4 := Lib.hid (gr_trans G3.out G'); clear G'
      obtain ⟨bl, rfl⟩ := bz_of vs qv
      obtain ⟨a1, cap1, rfl, -, r1, c1, -⟩ := own_rd o'
      have hst := run_str (P := Tryz.prog) Tryz.underlying22 Tryz.underlying5 Tryz.underlying9 (c := cap1) (bz_length _) r1
      have hl : (⟨bl.toArray⟩ : ByteArray).size ≤ 100 := by rw [bz_length] at lv; simp [ByteArray.size]; omega
      generalize (⟨bl.toArray⟩ : ByteArray) = S at *
      have HL := Lib.hid hl; clear hl r1 o' qv
      have Rl := box_lt XR4.out
      obtain ⟨R0, R1, R2, R3, R4, Rf0, Rf1, Rf2, Rf3, Rf4⟩ := five_open XR4.out
      go_wp2_with fail
      refine bodyPost_ret (v := .agg #[.int .i64 8, .int .i64 0, .int .i64 0, .string S, .slice none 0 0]) (by simp [results, Tryz.results39, go_sem, R0, R1, R2, R3, R4]) rfl ⟨.mk 8 0 0 S [], _, rfl, ⟨ok_bytes, by rw [leaf_cost]; have := HL.out; omega, fitsM (wf_lit (by decide)) (wf_lit (by decide)) (wf_lit (by decide)) (by have := HL.out; omega)⟩, AP.nil _ _ _, ?_, ?_⟩
      · repeat (first | with_reducible exact C4.out | with_reducible refine Cur.set ?_ _ (by have h1 := HP.out; have eR := LER.out; omega) | with_reducible refine Cur.alloc ?_ _ | with_reducible refine cur_drew ?_)
      · repeat (first | with_reducible exact G4.out | with_reducible refine gr_sets ?_ _ (by have eR := LER.out; omega) | with_reducible refine gr_alloc ?_ _ | with_reducible refine gr_drew ?_)
    · have hZne : Z ≠ 0 := fun h => by have := hkZ h; omega
      go_wp2_with fail
      refine (l1Below_c P 300 _ (by exact C2.out) (by omega)).mono ?_
      rintro _ w3 ⟨n, rfl, n0, n1, -, -, C', G'⟩
      have C3 := Lib.hid C'; clear C'
      have XR3 : Hid (w3.heap[w.heap.size]? = some (.cells #[.int .i64 0, .int .i64 0, .int .i64 0, .string { data := #[] }, .slice none 0 0] 26 (0, 0))) := Lib.hid (box_gr XR2.out G' (by have h1 := HP.out; have h2 := LER.out; omega))
      have G3 := Lib.hid (gr_trans G2.out G'); clear G'
      replace n1 := n1 (by omega)
      go_wp2_with fail
      refine (HIH.out hZne _ C3.out).mono ?_
      rintro _ w4 ⟨t, u, rfl, ht, hap, C', G'⟩
      have HT := Lib.hid ht; clear ht
      have HAP0 := Lib.hid hap; clear hap
      have hgs := G'.size
      have C4 := Lib.hid C'; clear C'
      have XR4 : Hid (w4.heap[w.heap.size]? = some (.cells #[.int .i64 0, .int .i64 0, .int .i64 0, .string { data := #[] }, .slice none 0 0] 26 (0, 0))) := Lib.hid (box_gr XR3.out G' (by have h1 := HP.out; have h2 := LER.out; omega))
      have G4 := Lib.hid (gr_trans G3.out G'); clear G'
      obtain ⟨au, cu, hu⟩ := HAP0.out.form
      have hKs : w3.heap.size ≤ w4.heap.size := hgs
      subst hu
      have HLT := Lib.hid (show w.heap.size < w3.heap.size from box_lt XR3.out)
      have Rl := box_lt XR4.out
      obtain ⟨R0, R1, R2, R3, R4, Rf0, Rf1, Rf2, Rf3, Rf4⟩ := five_open XR4.out
      go_wp2_with fail
      refine bodyPost_ret (v := .agg #[.int .i64 11, .int .i64 n, .int .i64 0, .string { data := #[] }, .slice (some ⟨w4.heap.size, 0, none⟩) 1 1]) (by simp [results, Tryz.results39, go_sem, Rl, R0, R1, R2, R3, R4]) rfl ⟨.mk 11 n 0 { data := #[] } [t], _, rfl, ⟨ok_tag (by omega) HT.out.1, by have h1 := HT.out.2.1; have h2 := HB4.out hZne; rw [Tree.cost_eq]; show _ + (1 + t.cost + 0) ≤ B; rw [show (Tree.mk 11 n 0 { data := #[] } [t]).s.size = 0 from rfl]; omega, fitsM (wf_lit (by decide)) (by unfold wf6; omega) (wf_lit (by decide)) (by decide)⟩, ?_, ?_, ?_⟩
      · refine AP.mono (lo := w3.heap.size) ?_ (by have hs2 := G3.out.size; omega)
        simp only [Tree.l_mk]
        refine tag_row ?_ HT.out.2.2 ?_ (by simp only [World.size_setCell])
        · repeat (first | with_reducible exact HAP0.out | with_reducible refine ap_set ?_ _ (by have hs2 := HLT.out; omega))
        · simp only [World.size_setCell]; exact hKs
      · repeat (first | with_reducible exact C4.out | with_reducible refine Cur.set ?_ _ (by have h1 := HP.out; omega) | with_reducible refine Cur.alloc ?_ _)
      · repeat (first | with_reducible exact G4.out | with_reducible refine gr_sets ?_ _ (Nat.le_refl _) | with_reducible refine gr_alloc ?_ _)
    · have hZne : Z ≠ 0 := fun h => by have := hkZ h; omega
      have hZ1 : 1 ≤ Z := by omega
      have LEV := Lib.hid G2.out.size
      have NERV := Lib.hid (Nat.ne_of_lt (box_lt XR2.out)); have NEVR := Lib.hid (Nat.ne_of_gt (box_lt XR2.out))
      have hRV : w.heap.size < wb.heap.size := box_lt XR2.out
      go_wp2_with fail
      refine (l1Below_c P 4 _ (by exact (Cur.alloc C2.out _)) (by omega)).mono ?_
      rintro _ w3 ⟨x0, rfl, x00, x01, -, -, C', G'⟩
      have C3 := Lib.hid C'; clear C'
      have XR3 : Hid (w3.heap[w.heap.size]? = some (.cells #[.int .i64 0, .int .i64 0, .int .i64 0, .string { data := #[] }, .slice none 0 0] 26 (0, 0))) := Lib.hid (box_gr (box_alloc XR2.out _) G' (by have h1 := HP.out; have h2 := LER.out; omega))
      have XV3 : Hid (w3.heap[wb.heap.size]? = some (.cells #[.int .i64 9, .int .i64 0, .int .i64 0, .string { data := #[] }, .slice none 0 0] 26 (0, 0))) := Lib.hid (box_gr (heap_alloc_new _ _) G' (by have h1 := HP.out; have h2 := LEV.out; omega))
      have G3 := Lib.hid (gr_trans (gr_alloc G2.out _) G'); clear G'
      replace x01 := x01 (by omega)
      have hVl := box_lt XV3.out
      have Vl := box_lt XV3.out
      obtain ⟨V0, V1, V2, V3, V4, Vf0, Vf1, Vf2, Vf3, Vf4⟩ := five_open XV3.out
      go_wp2_with fail
      clear Vl V0 V1 V2 V3 V4 Vf0 Vf1 Vf2 Vf3 Vf4
      have GB := Lib.hid (show w.heap.size ≤ wb.heap.size from G2.out.size)
      go_loopw [7] (fun i wr => ∃ (l : List Tree) (v : Value) (X : Int), i = .int .i64 X ∧ 0 ≤ X ∧ X ≤ 3 ∧ l.length + 2 * X ≤ 6 ∧ Hid (okL l = true ∧ (costL l : Int) + X * (12 + B') ≤ 3 * (12 + B') ∧ (9 = 10 → l.length % 2 = 0)) ∧ Hid (AP wr (wb.heap.size + 1) 26 v l) ∧ Hid (Cur wr P) ∧ Hid (w.grownBy wr (some P)) ∧ Hid (wr.heap[w.heap.size]? = some (.cells #[.int .i64 0, .int .i64 0, .int .i64 0, .string { data := #[] }, .slice none 0 0] 26 (0, 0))) ∧ Hid (wr.heap[wb.heap.size]? = some (.cells #[.int .i64 9, .int .i64 0, .int .i64 0, .string { data := #[] }, v] 26 (0, 0)))) (fun i _ => (intOf i).toNat)
      case atStart => exact ⟨[], _, x0, rfl, x00, by omega, by simp; omega, Lib.hid ⟨by rw [okL], by simp [costL]; exact Int.mul_le_mul_of_nonneg_right (by omega) (by omega), fun _ => rfl⟩, Lib.hid (AP.nil _ _ _), C3, G3, XR3, XV3⟩
      case round =>
        obtain ⟨l, v, X, rfl, hX0, hX3, hlX, HL, HA, CUR, GR, XR, XV⟩ := hrel
        have hVr := box_lt XV.out
        obtain ⟨a3, cap3, rfl⟩ := HA.out.form
        by_cases hX : 0 < X
        · have XR20 := XR; have XV20 := XV; have G20 := GR; have C20 := CUR
          have hPlo : P < wb.heap.size + 1 := by have h1 := HP.out; omega
          have HPL := Lib.hid hPlo; clear hPlo
          have hwlo : w.heap.size ≤ wb.heap.size + 1 := by omega
          have HWL := Lib.hid hwlo; clear hwlo
          obtain ⟨es, hes⟩ := HA.out
          have HES := Lib.hid hes; clear hes
          have XR40 := XR; have XV40 := XV; have G40 := GR; have C40 := CUR
          have Vl := box_lt XV40.out
          obtain ⟨V0, V1, V2, V3, V4, Vf0, Vf1, Vf2, Vf3, Vf4⟩ := five_open XV40.out
          go_wp2_with fail
          refine (HIH.out hZne _ (by exact CUR.out)).mono ?_
          rintro _ w41 ⟨t, u, rfl, ht, hap, C', G'⟩
          have HT := Lib.hid ht; clear ht
          have HAP := Lib.hid hap; clear hap
          have GP := Lib.hid G'
          have C41 := Lib.hid C'; clear C'
          have XR41 : Hid (w41.heap[w.heap.size]? = some (.cells #[.int .i64 0, .int .i64 0, .int .i64 0, .string { data := #[] }, .slice none 0 0] 26 (0, 0))) := Lib.hid (box_gr XR.out G' (by have h1 := HP.out; have h2 := LER.out; omega))
          have XV41 : Hid (w41.heap[wb.heap.size]? = some (.cells #[.int .i64 9, .int .i64 0, .int .i64 0, .string { data := #[] }, .slice a3 l.length cap3] 26 (0, 0))) := Lib.hid (box_gr XV.out G' (by have h1 := HP.out; have h2 := LEV.out; omega))
          have G41 := Lib.hid (gr_trans GR.out G'); clear G'
          clear XR40 XV40 G40 C40
          clear Vl V0 V1 V2 V3 V4 Vf0 Vf1 Vf2 Vf3 Vf4
          obtain ⟨au, cu, rfl⟩ := HAP.out.form
          have hsz41 := GP.out.size
          have Vl := box_lt XV41.out
          obtain ⟨V0, V1, V2, V3, V4, Vf0, Vf1, Vf2, Vf3, Vf4⟩ := five_open XV41.out
          have HB1 := Lib.hid (vbelow1 w41 (.cells #[.int .i64 t.kind, .int .i64 t.n, .int .i64 t.x, .string t.s, .slice au t.l.length cu] 26))
          have HB2 := Lib.hid (vbelow2 w41 (.cells #[.int .i64 t.kind, .int .i64 t.n, .int .i64 t.x, .string t.s, .slice au t.l.length cu] 26) (.cells #[.int .i64 t.kind, .int .i64 t.n, .int .i64 t.x, .string t.s, .slice au t.l.length cu] 26))
          have OWN := Lib.hid (draw_own HES.out HPL.out GP.out HB1.out)
          have HBK : Hid (∀ w3, ((w41.alloc (.cells #[.int .i64 t.kind, .int .i64 t.n, .int .i64 t.x, .string t.s, .slice au t.l.length cu] 26)).alloc (.cells #[.int .i64 t.kind, .int .i64 t.n, .int .i64 t.x, .string t.s, .slice au t.l.length cu] 26)).grownBy w3 (Value.ownBlock (.slice a3 l.length cap3)) → w3.heap[wb.heap.size]? = w41.heap[wb.heap.size]? ∧ w3.heap[w.heap.size]? = w41.heap[w.heap.size]?) := Lib.hid (fun w3 hg => by
            have hh : ∀ i, i < wb.heap.size + 1 → w3.heap[i]? = w41.heap[i]? := fun i hi => by
              rw [hg.block i (by simp only [World.size_alloc]; omega) (fun e => by have := (HES.out.row.lt i e.symm).1; omega), Below.heap_alloc _ _ _ (by simp only [World.size_alloc]; omega), Below.heap_alloc _ _ _ (by omega)]
            exact ⟨hh _ (by omega), hh _ (by omega)⟩)
          generalize hX' : cells5 t (.slice au t.l.length cu) = XX
          have hXl : XX.length = 1 * 5 := by rw [← hX']; rfl
          have hX1 : ∀ x ∈ XX, x.oneCell' = true := by rw [← hX']; exact one5 _ _ _ _
          have hXn : ∀ (k : Nat) v, XX[k]? = some v → ((w41.alloc (.cells #[.int .i64 t.kind, .int .i64 t.n, .int .i64 t.x, .string t.s, .slice au t.l.length cu] 26)).alloc (.cells #[.int .i64 t.kind, .int .i64 t.n, .int .i64 t.x, .string t.s, .slice au t.l.length cu] 26)).cell? ((⟨w41.heap.size + 1, 0, none⟩ : Addr).add k) = some v := by
            rw [← hX']
            exact World.news_of_block (first_blocks w41 _ _).2
          have HX := Lib.hid hX'; have HXN := Lib.hid hXn; have HX1 := Lib.hid hX1; clear hX' hXn hX1
          go_wp2_with (at_builtin; go_must (refine wpList_append_lies rfl (.tmp 93) (.tmp 95) 24 rfl (wb.heap.size + 1) 26 i0 _ 5 64 Tryz.underlying24 HI.out hz hs hb rfl (by decide) _ _ _ rfl (OWN.out.alloc _) ⟨w41.heap.size + 1, 0, none⟩ 1 1 XX rfl hXl HXN.out HX1.out (by decide) (by unfold maxLen; omega) (by omega) (by simp only [World.size_alloc]; omega) _ rfl ?_); intro g cap5 w42 hown2 hg2 hf2 hlt2; obtain ⟨z1, z2⟩ := HBK.out _ hg2; have XV42 := Lib.hid (z1.trans XV41.out); have XR42 := Lib.hid (z2.trans XR41.out); have Yl := box_lt XV42.out; obtain ⟨Y0, Y1, Y2, Y3, Y4, Yf0, Yf1, Yf2, Yf3, Yf4⟩ := five_open XV42.out; have HOWN := Lib.hid hown2; have HG2 := Lib.hid hg2; have HF2 := Lib.hid hf2; clear hown2 hg2 hf2 z1 z2)
          have DA := draw_append HES.out HP.out HWL.out (by omega) GR.out GP.out C41.out HAP.out HT.out.2.2 HB2.out (by rw [HX.out]; exact HOWN.out) HG2.out HF2.out
          have HDA := Lib.hid DA; clear DA
          go_roundw
          case rel =>
            refine ⟨l ++ [t], _, X - 1, by first | rfl | go_num, by omega, by omega, by rw [List.length_append]; simp; omega, Lib.hid ⟨by rw [okL_snoc, HL.out.1, HT.out.1]; rfl, by have h1 := HL.out.2.1; have h2 := HT.out.2.1; clear HL; rw [costL_snoc, Int.sub_mul, Int.one_mul]; generalize X * (12 + (B' : Int)) = M at *; omega, fun h => absurd h (by decide)⟩, Lib.hid (ap_set HDA.out.1 _ (by omega)), Lib.hid (Cur.set HDA.out.2.1 _ (by have h1 := HP.out; omega)), Lib.hid (gr_sets HDA.out.2.2.1 _ (by omega)), Lib.hid (box_other XR42.out _ (by omega)), Lib.hid (five_set XV42.out _)⟩
          case measure => simp [intOf]; omega
        · obtain rfl : X = 0 := by omega
          have XR20 := XR; have XV20 := XV; have G20 := GR; have C20 := CUR
          have Rl := box_lt XR20.out
          obtain ⟨R0, R1, R2, R3, R4, Rf0, Rf1, Rf2, Rf3, Rf4⟩ := five_open XR20.out
          have Vl := box_lt XV20.out
          obtain ⟨V0, V1, V2, V3, V4, Vf0, Vf1, Vf2, Vf3, Vf4⟩ := five_open XV20.out
          go_wp2_with fail
          refine bodyPost_ret (v := .agg #[.int .i64 9, .int .i64 0, .int .i64 0, .string { data := #[] }, .slice a3 l.length cap3]) (by simp [results, Tryz.results39, go_sem, R0, R1, R2, R3, R4]) rfl ⟨.mk 9 0 0 { data := #[] } l, _, rfl, ⟨ok_list HL.out.1, by have h1 := HL.out.2.1; have h2 := HB4.out hZne; rw [Tree.cost_eq]; show 0 + costL l ≤ B; omega, fitsM (wf_lit (by decide)) (wf_lit (by decide)) (wf_lit (by decide)) (by decide)⟩, ?_, ?_, ?_⟩
          · have hs2 := G2.out.size
            refine AP.mono (lo := wb.heap.size + 1) ?_ (by omega)
            simp only [Tree.l_mk]
            repeat (first | with_reducible exact HA.out | with_reducible refine ap_set ?_ _ (by omega))
          · repeat (first | with_reducible exact CUR.out | with_reducible refine Cur.set ?_ _ (by have h1 := HP.out; omega) | with_reducible refine Cur.alloc ?_ _)
          · repeat (first | with_reducible exact GR.out | with_reducible refine gr_sets ?_ _ (Nat.le_refl _) | with_reducible refine gr_alloc ?_ _)
    · have hZne : Z ≠ 0 := fun h => by have := hkZ h; omega
      have hZ1 : 1 ≤ Z := by omega
      have LEV := Lib.hid G2.out.size
      have NERV := Lib.hid (Nat.ne_of_lt (box_lt XR2.out)); have NEVR := Lib.hid (Nat.ne_of_gt (box_lt XR2.out))
      have hRV : w.heap.size < wb.heap.size := box_lt XR2.out
      go_wp2_with fail
      refine (l1Below_c P 4 _ (by exact (Cur.alloc C2.out _)) (by omega)).mono ?_
      rintro _ w3 ⟨x0, rfl, x00, x01, -, -, C', G'⟩
      have C3 := Lib.hid C'; clear C'
      have XR3 : Hid (w3.heap[w.heap.size]? = some (.cells #[.int .i64 0, .int .i64 0, .int .i64 0, .string { data := #[] }, .slice none 0 0] 26 (0, 0))) := Lib.hid (box_gr (box_alloc XR2.out _) G' (by have h1 := HP.out; have h2 := LER.out; omega))
      have XV3 : Hid (w3.heap[wb.heap.size]? = some (.cells #[.int .i64 10, .int .i64 0, .int .i64 0, .string { data := #[] }, .slice none 0 0] 26 (0, 0))) := Lib.hid (box_gr (heap_alloc_new _ _) G' (by have h1 := HP.out; have h2 := LEV.out; omega))
      have G3 := Lib.hid (gr_trans (gr_alloc G2.out _) G'); clear G'
      replace x01 := x01 (by omega)
      have hVl := box_lt XV3.out
      have Vl := box_lt XV3.out
      obtain ⟨V0, V1, V2, V3, V4, Vf0, Vf1, Vf2, Vf3, Vf4⟩ := five_open XV3.out
      go_wp2_with fail
      clear Vl V0 V1 V2 V3 V4 Vf0 Vf1 Vf2 Vf3 Vf4
      have GB := Lib.hid (show w.heap.size ≤ wb.heap.size from G2.out.size)
      go_loopw [7] (fun i wr => ∃ (l : List Tree) (v : Value) (X : Int), i = .int .i64 X ∧ 0 ≤ X ∧ X ≤ 3 ∧ l.length + 2 * X ≤ 6 ∧ Hid (okL l = true ∧ (costL l : Int) + X * (12 + B') ≤ 3 * (12 + B') ∧ (10 = 10 → l.length % 2 = 0)) ∧ Hid (AP wr (wb.heap.size + 1) 26 v l) ∧ Hid (Cur wr P) ∧ Hid (w.grownBy wr (some P)) ∧ Hid (wr.heap[w.heap.size]? = some (.cells #[.int .i64 0, .int .i64 0, .int .i64 0, .string { data := #[] }, .slice none 0 0] 26 (0, 0))) ∧ Hid (wr.heap[wb.heap.size]? = some (.cells #[.int .i64 10, .int .i64 0, .int .i64 0, .string { data := #[] }, v] 26 (0, 0)))) (fun i _ => (intOf i).toNat)
      case atStart => exact ⟨[], _, x0, rfl, x00, by omega, by simp; omega, Lib.hid ⟨by rw [okL], by simp [costL]; exact Int.mul_le_mul_of_nonneg_right (by omega) (by omega), fun _ => rfl⟩, Lib.hid (AP.nil _ _ _), C3, G3, XR3, XV3⟩
      case round =>
        obtain ⟨l, v, X, rfl, hX0, hX3, hlX, HL, HA, CUR, GR, XR, XV⟩ := hrel
        have hVr := box_lt XV.out
        obtain ⟨a3, cap3, rfl⟩ := HA.out.form
        by_cases hX : 0 < X
        · have XR20 := XR; have XV20 := XV; have G20 := GR; have C20 := CUR
          have hPlo : P < wb.heap.size + 1 := by have h1 := HP.out; omega
          have HPL := Lib.hid hPlo; clear hPlo
          have hwlo : w.heap.size ≤ wb.heap.size + 1 := by omega
          have HWL := Lib.hid hwlo; clear hwlo
          obtain ⟨es, hes⟩ := HA.out
          have HES := Lib.hid hes; clear hes
          have Vl := box_lt XV20.out
          obtain ⟨V0, V1, V2, V3, V4, Vf0, Vf1, Vf2, Vf3, Vf4⟩ := five_open XV20.out
          clear C20 G20 XR20 XV20
          go_upto_region 31 with fail
          go_cut [86] (fun s86 wx => ∃ (l2 : List Tree) (g2 c2 : Nat), l2.length = l.length + 1 ∧ Hid (okL l2 = true ∧ (costL l2 : Int) ≤ costL l + 11) ∧ Hid (AP wx (wb.heap.size + 1) 26 (.slice (some ⟨g2, 0, none⟩) l2.length c2) l2) ∧ Hid (Cur wx P) ∧ Hid (w.grownBy wx (some P)) ∧ Hid (wx.heap[w.heap.size]? = some (.cells #[.int .i64 0, .int .i64 0, .int .i64 0, .string { data := #[] }, .slice none 0 0] 26 (0, 0))) ∧ Hid (wx.heap[wb.heap.size]? = some (.cells #[.int .i64 10, .int .i64 0, .int .i64 0, .string { data := #[] }, .slice (some ⟨g2, 0, none⟩) l2.length c2] 26 (0, 0))) ∧ wr.heap.size ≤ wx.heap.size)
          case first =>
            have hCB := Lib.hid (fun wx (h : Cur wx P) => l6Name_c P wx h)
            go_region_law
              (first
               | (go_at_call 66; refine (hCB.out _ (cur_drew CUR.out)).mono ?_; rintro _ w5 ⟨t, rfl, hnm, C', G''⟩; have G' : wr.grownBy w5 (some P) := ⟨G''.os, G''.tape, G''.output, G''.size, G''.block⟩; clear G''; have HNM := Lib.hid hnm; clear hnm; have C5 := Lib.hid C'; have GP := Lib.hid G'; have XV5 := Lib.hid (box_gr XV.out G' (by have h1 := HP.out; omega)); have XR5 := Lib.hid (box_gr XR.out G' (by have h1 := HP.out; omega)); clear C' G'; have Wl := box_lt XV5.out; obtain ⟨W0, W1, W2, W3, W4, Wf0, Wf1, Wf2, Wf3, Wf4⟩ := five_open XV5.out)
               | (go_simp; go_at_call 66; refine (hCB.out _ (cur_drew CUR.out)).mono ?_; rintro _ w5 ⟨t, rfl, hnm, C', G''⟩; have G' : wr.grownBy w5 (some P) := ⟨G''.os, G''.tape, G''.output, G''.size, G''.block⟩; clear G''; have HNM := Lib.hid hnm; clear hnm; have C5 := Lib.hid C'; have GP := Lib.hid G'; have XV5 := Lib.hid (box_gr XV.out G' (by have h1 := HP.out; omega)); have XR5 := Lib.hid (box_gr XR.out G' (by have h1 := HP.out; omega)); clear C' G'; have Wl := box_lt XV5.out; obtain ⟨W0, W1, W2, W3, W4, Wf0, Wf1, Wf2, Wf3, Wf4⟩ := five_open XV5.out)
               | (refine step_append_lies _ rfl (.tmp 82) (.tmp 85) 24 rfl (wb.heap.size + 1) 26 i0 _ 5 64 Tryz.underlying24 HI.out hz hs hb rfl (by decide) _ _ _ rfl ((draw_own HES.out HPL.out GP.out (below1 _ _))) ⟨w5.heap.size, 0, none⟩ 1 1 (cells5 t (.slice none 0 0)) rfl rfl (by exact World.news_of_block (heap_alloc_new _ _)) (one5 _ _ _ _) (by decide) (by unfold maxLen; omega) (by omega) (by have := GP.out.size; simp only [World.size_alloc]; (try omega)) _ rfl ?_; intro g cap5 w6 hown2 hg2 hf2 hlt2; have hsz5 := GP.out.size; have z := fun (i : Nat) (hi : i < wb.heap.size + 1) => (hg2.block i (by simp only [World.size_alloc]; omega) (fun e => by have := (HES.out.row.lt i e.symm).1; omega)).trans (Below.heap_alloc _ _ _ (by omega)); have HZ6 := Lib.hid (And.intro (z wb.heap.size (by omega)) (z w.heap.size (by omega))); clear z; have XV6 := Lib.hid (HZ6.out.1.trans XV5.out); have Yl := box_lt XV6.out; obtain ⟨Y0, Y1, Y2, Y3, Y4, Yf0, Yf1, Yf2, Yf3, Yf4⟩ := five_open XV6.out; have HOWN := Lib.hid hown2; have HG2 := Lib.hid hg2; have HF2 := Lib.hid hf2; clear hown2 hg2 hf2))
            all_goals
              have hfit := HNM.out.fits
              have hcl := HNM.out.cost
              have DA := draw_append HES.out HP.out HWL.out (by omega) GR.out GP.out C5.out (by rw [hcl.2]; exact AP.nil _ _ _) hfit (below1 _ _) HOWN.out HG2.out HF2.out
              have HDA := Lib.hid DA; clear DA
              have hOK := HNM.out.ok
              have HCO := Lib.hid hcl; have HOK := Lib.hid hOK; clear hcl hOK hfit
              go_wp2_with fail
              go_meet
              case rel =>
                refine ⟨l ++ [t], g, cap5, by simp, Lib.hid ⟨by rw [okL_snoc, HL.out.1, HOK.out]; rfl, by rw [costL_snoc]; have := HCO.out.1; omega⟩, Lib.hid ?_, Lib.hid ?_, Lib.hid ?_, Lib.hid ?_, Lib.hid ?_, ?_⟩
                · rw [show (l ++ [t]).length = l.length + 1 by simp]; exact ap_set HDA.out.1 _ (by omega)
                · exact Cur.set HDA.out.2.1 _ (by have h1 := HP.out; omega)
                · exact gr_sets HDA.out.2.2.1 _ (by omega)
                · exact box_other (HZ6.out.2.trans XR5.out) _ (by omega)
                · rw [show (l ++ [t]).length = l.length + 1 by simp]; exact five_set XV6.out _
                · simp only [World.size_setCell]; have h1 := HG2.out.size; simp only [World.size_alloc] at h1; omega
          case rest =>
            obtain ⟨l2, g2, c2, hl2, HL2, HA2, CUR2, GR2, XR2b, XV2, hsz2⟩ := hcut
            have hl2b : l2.length + 2 * X ≤ 7 := by omega
            have HLL := Lib.hid hl2; clear hl2
            clear HES HPL HWL
            have hPlo : P < wb.heap.size + 1 := by have h1 := HP.out; omega
            have HPL := Lib.hid hPlo; clear hPlo
            have hwlo : w.heap.size ≤ wb.heap.size + 1 := by omega
            have HWL := Lib.hid hwlo; clear hwlo
            obtain ⟨es, hes⟩ := HA2.out
            have HES := Lib.hid hes; clear hes
            have hVd := box_lt XV2.out
            go_wp2_with fail
            refine (HIH.out hZne _ (by exact CUR2.out)).mono ?_
            rintro _ w41 ⟨t, u, rfl, ht, hap, C', G'⟩
            have HT := Lib.hid ht; clear ht
            have HAP := Lib.hid hap; clear hap
            have GP := Lib.hid G'
            have C41 := Lib.hid C'; clear C'
            have XR41 : Hid (w41.heap[w.heap.size]? = some (.cells #[.int .i64 0, .int .i64 0, .int .i64 0, .string { data := #[] }, .slice none 0 0] 26 (0, 0))) := Lib.hid (box_gr XR2b.out G' (by have h1 := HP.out; have h2 := LER.out; omega))
            have XV41 : Hid (w41.heap[wb.heap.size]? = some (.cells #[.int .i64 10, .int .i64 0, .int .i64 0, .string { data := #[] }, .slice (some ⟨g2, 0, none⟩) l2.length c2] 26 (0, 0))) := Lib.hid (box_gr XV2.out G' (by have h1 := HP.out; have h2 := LEV.out; omega))
            have G41 := Lib.hid (gr_trans GR2.out G'); clear G'
            obtain ⟨au, cu, rfl⟩ := HAP.out.form
            have hsz41 := GP.out.size
            have Vl := box_lt XV41.out
            obtain ⟨V0, V1, V2, V3, V4, Vf0, Vf1, Vf2, Vf3, Vf4⟩ := five_open XV41.out
            have HB1 := Lib.hid (vbelow1 w41 (.cells #[.int .i64 t.kind, .int .i64 t.n, .int .i64 t.x, .string t.s, .slice au t.l.length cu] 26))
            have HB2 := Lib.hid (vbelow2 w41 (.cells #[.int .i64 t.kind, .int .i64 t.n, .int .i64 t.x, .string t.s, .slice au t.l.length cu] 26) (.cells #[.int .i64 t.kind, .int .i64 t.n, .int .i64 t.x, .string t.s, .slice au t.l.length cu] 26))
            have OWN := Lib.hid (draw_own HES.out HPL.out GP.out HB1.out)
            have HBK : Hid (∀ w3, ((w41.alloc (.cells #[.int .i64 t.kind, .int .i64 t.n, .int .i64 t.x, .string t.s, .slice au t.l.length cu] 26)).alloc (.cells #[.int .i64 t.kind, .int .i64 t.n, .int .i64 t.x, .string t.s, .slice au t.l.length cu] 26)).grownBy w3 (Value.ownBlock (.slice (some ⟨g2, 0, none⟩) l2.length c2)) → w3.heap[wb.heap.size]? = w41.heap[wb.heap.size]? ∧ w3.heap[w.heap.size]? = w41.heap[w.heap.size]?) := Lib.hid (fun w3 hg => by
              have hh : ∀ i, i < wb.heap.size + 1 → w3.heap[i]? = w41.heap[i]? := fun i hi => by
                rw [hg.block i (by simp only [World.size_alloc]; omega) (fun e => by have := (HES.out.row.lt i e.symm).1; omega), Below.heap_alloc _ _ _ (by simp only [World.size_alloc]; omega), Below.heap_alloc _ _ _ (by omega)]
              exact ⟨hh _ (by omega), hh _ (by omega)⟩)
            generalize hX' : cells5 t (.slice au t.l.length cu) = XX
            have hXl : XX.length = 1 * 5 := by rw [← hX']; rfl
            have hX1 : ∀ x ∈ XX, x.oneCell' = true := by rw [← hX']; exact one5 _ _ _ _
            have hXn : ∀ (k : Nat) v, XX[k]? = some v → ((w41.alloc (.cells #[.int .i64 t.kind, .int .i64 t.n, .int .i64 t.x, .string t.s, .slice au t.l.length cu] 26)).alloc (.cells #[.int .i64 t.kind, .int .i64 t.n, .int .i64 t.x, .string t.s, .slice au t.l.length cu] 26)).cell? ((⟨w41.heap.size + 1, 0, none⟩ : Addr).add k) = some v := by
              rw [← hX']
              exact World.news_of_block (first_blocks w41 _ _).2
            have HX := Lib.hid hX'; have HXN := Lib.hid hXn; have HX1 := Lib.hid hX1; clear hX' hXn hX1
            go_wp2_with (at_builtin; go_must (refine wpList_append_lies rfl (.tmp 93) (.tmp 95) 24 rfl (wb.heap.size + 1) 26 i0 _ 5 64 Tryz.underlying24 HI.out hz hs hb rfl (by decide) _ _ _ rfl (OWN.out.alloc _) ⟨w41.heap.size + 1, 0, none⟩ 1 1 XX rfl hXl HXN.out HX1.out (by decide) (by unfold maxLen; omega) (by omega) (by simp only [World.size_alloc]; omega) _ rfl ?_); intro g cap5 w42 hown2 hg2 hf2 hlt2; obtain ⟨z1, z2⟩ := HBK.out _ hg2; have XV42 := Lib.hid (z1.trans XV41.out); have XR42 := Lib.hid (z2.trans XR41.out); have Yl := box_lt XV42.out; obtain ⟨Y0, Y1, Y2, Y3, Y4, Yf0, Yf1, Yf2, Yf3, Yf4⟩ := five_open XV42.out; have HOWN := Lib.hid hown2; have HG2 := Lib.hid hg2; have HF2 := Lib.hid hf2; clear hown2 hg2 hf2 z1 z2)
            have DA := draw_append HES.out HP.out HWL.out (by omega) GR2.out GP.out C41.out HAP.out HT.out.2.2 HB2.out (by rw [HX.out]; exact HOWN.out) HG2.out HF2.out
            have HDA := Lib.hid DA; clear DA
            go_roundw
            case rel =>
              refine ⟨l2 ++ [t], _, X - 1, by first | rfl | go_num, by omega, by omega, by rw [List.length_append]; have := HLL.out; simp; omega, Lib.hid ⟨by rw [okL_snoc, HL2.out.1, HT.out.1]; rfl, by have h1 := HL.out.2.1; have h2 := HT.out.2.1; have h3 := HL2.out.2; clear HL; rw [costL_snoc, Int.sub_mul, Int.one_mul]; generalize X * (12 + (B' : Int)) = M at *; omega, fun _ => by have h1 := HL.out.2.2 (by first | rfl | trivial); rw [List.length_append, HLL.out]; simp; omega⟩, Lib.hid (ap_set HDA.out.1 _ (by omega)), Lib.hid (Cur.set HDA.out.2.1 _ (by have h1 := HP.out; omega)), Lib.hid (gr_sets HDA.out.2.2.1 _ (by omega)), Lib.hid (box_other XR42.out _ (by omega)), Lib.hid (five_set XV42.out _)⟩
            case measure => simp [intOf]; omega
        · obtain rfl : X = 0 := by omega
          have XR20 := XR; have XV20 := XV; have G20 := GR; have C20 := CUR
          have Rl := box_lt XR20.out
          obtain ⟨R0, R1, R2, R3, R4, Rf0, Rf1, Rf2, Rf3, Rf4⟩ := five_open XR20.out
          have Vl := box_lt XV20.out
          obtain ⟨V0, V1, V2, V3, V4, Vf0, Vf1, Vf2, Vf3, Vf4⟩ := five_open XV20.out
          go_wp2_with fail
          refine bodyPost_ret (v := .agg #[.int .i64 10, .int .i64 0, .int .i64 0, .string { data := #[] }, .slice a3 l.length cap3]) (by simp [results, Tryz.results39, go_sem, R0, R1, R2, R3, R4]) rfl ⟨.mk 10 0 0 { data := #[] } l, _, rfl, ⟨ok_map HL.out.1 (HL.out.2.2 (by first | rfl | trivial)), by have h1 := HL.out.2.1; have h2 := HB4.out hZne; rw [Tree.cost_eq]; show 0 + costL l ≤ B; omega, fitsM (wf_lit (by decide)) (wf_lit (by decide)) (wf_lit (by decide)) (by decide)⟩, ?_, ?_, ?_⟩
          · have hs2 := G2.out.size
            refine AP.mono (lo := wb.heap.size + 1) ?_ (by omega)
            simp only [Tree.l_mk]
            repeat (first | with_reducible exact HA.out | with_reducible refine ap_set ?_ _ (by omega))
          · repeat (first | with_reducible exact CUR.out | with_reducible refine Cur.set ?_ _ (by have h1 := HP.out; omega) | with_reducible refine Cur.alloc ?_ _)
          · repeat (first | with_reducible exact GR.out | with_reducible refine gr_sets ?_ _ (Nat.le_refl _) | with_reducible refine gr_alloc ?_ _)
    · have hZne : Z ≠ 0 := fun h => by have := hkZ h; omega
      have hZ1 : 1 ≤ Z := by omega
      have LEV := Lib.hid G2.out.size
      have NERV := Lib.hid (Nat.ne_of_lt (box_lt XR2.out)); have NEVR := Lib.hid (Nat.ne_of_gt (box_lt XR2.out))
      have hRV : w.heap.size < wb.heap.size := box_lt XR2.out
      go_wp2_with fail
      refine (l1Below_c P 4 _ (by exact (Cur.alloc C2.out _)) (by omega)).mono ?_
      rintro _ w3 ⟨x0, rfl, x00, x01, -, -, C', G'⟩
      have C3 := Lib.hid C'; clear C'
      have XR3 : Hid (w3.heap[w.heap.size]? = some (.cells #[.int .i64 0, .int .i64 0, .int .i64 0, .string { data := #[] }, .slice none 0 0] 26 (0, 0))) := Lib.hid (box_gr (box_alloc XR2.out _) G' (by have h1 := HP.out; have h2 := LER.out; omega))
      have XV3 : Hid (w3.heap[wb.heap.size]? = some (.cells #[.int .i64 10, .int .i64 0, .int .i64 0, .string { data := #[] }, .slice none 0 0] 26 (0, 0))) := Lib.hid (box_gr (heap_alloc_new _ _) G' (by have h1 := HP.out; have h2 := LEV.out; omega))
      have G3 := Lib.hid (gr_trans (gr_alloc G2.out _) G'); clear G'
      replace x01 := x01 (by omega)
      have hVl := box_lt XV3.out
      have Vl := box_lt XV3.out
      obtain ⟨V0, V1, V2, V3, V4, Vf0, Vf1, Vf2, Vf3, Vf4⟩ := five_open XV3.out
      go_wp2_with fail
      clear Vl V0 V1 V2 V3 V4 Vf0 Vf1 Vf2 Vf3 Vf4
      have GB := Lib.hid (show w.heap.size ≤ wb.heap.size from G2.out.size)
      go_loopw [7] (fun i wr => ∃ (l : List Tree) (v : Value) (X : Int), i = .int .i64 X ∧ 0 ≤ X ∧ X ≤ 3 ∧ l.length + 2 * X ≤ 6 ∧ Hid (okL l = true ∧ (costL l : Int) + X * (12 + B') ≤ 3 * (12 + B') ∧ (10 = 10 → l.length % 2 = 0)) ∧ Hid (AP wr (wb.heap.size + 1) 26 v l) ∧ Hid (Cur wr P) ∧ Hid (w.grownBy wr (some P)) ∧ Hid (wr.heap[w.heap.size]? = some (.cells #[.int .i64 0, .int .i64 0, .int .i64 0, .string { data := #[] }, .slice none 0 0] 26 (0, 0))) ∧ Hid (wr.heap[wb.heap.size]? = some (.cells #[.int .i64 10, .int .i64 0, .int .i64 0, .string { data := #[] }, v] 26 (0, 0)))) (fun i _ => (intOf i).toNat)
      case atStart => exact ⟨[], _, x0, rfl, x00, by omega, by simp; omega, Lib.hid ⟨by rw [okL], by simp [costL]; exact Int.mul_le_mul_of_nonneg_right (by omega) (by omega), fun _ => rfl⟩, Lib.hid (AP.nil _ _ _), C3, G3, XR3, XV3⟩
      case round =>
        obtain ⟨l, v, X, rfl, hX0, hX3, hlX, HL, HA, CUR, GR, XR, XV⟩ := hrel
        have hVr := box_lt XV.out
        obtain ⟨a3, cap3, rfl⟩ := HA.out.form
        by_cases hX : 0 < X
        · have XR20 := XR; have XV20 := XV; have G20 := GR; have C20 := CUR
          have hPlo : P < wb.heap.size + 1 := by have h1 := HP.out; omega
          have HPL := Lib.hid hPlo; clear hPlo
          have hwlo : w.heap.size ≤ wb.heap.size + 1 := by omega
          have HWL := Lib.hid hwlo; clear hwlo
          obtain ⟨es, hes⟩ := HA.out
          have HES := Lib.hid hes; clear hes
          have Vl := box_lt XV20.out
          obtain ⟨V0, V1, V2, V3, V4, Vf0, Vf1, Vf2, Vf3, Vf4⟩ := five_open XV20.out
          clear C20 G20 XR20 XV20
          go_upto_region 31 with fail
          go_cut [86] (fun s86 wx => ∃ (l2 : List Tree) (g2 c2 : Nat), l2.length = l.length + 1 ∧ Hid (okL l2 = true ∧ (costL l2 : Int) ≤ costL l + 11) ∧ Hid (AP wx (wb.heap.size + 1) 26 (.slice (some ⟨g2, 0, none⟩) l2.length c2) l2) ∧ Hid (Cur wx P) ∧ Hid (w.grownBy wx (some P)) ∧ Hid (wx.heap[w.heap.size]? = some (.cells #[.int .i64 0, .int .i64 0, .int .i64 0, .string { data := #[] }, .slice none 0 0] 26 (0, 0))) ∧ Hid (wx.heap[wb.heap.size]? = some (.cells #[.int .i64 10, .int .i64 0, .int .i64 0, .string { data := #[] }, .slice (some ⟨g2, 0, none⟩) l2.length c2] 26 (0, 0))) ∧ wr.heap.size ≤ wx.heap.size)
          case first =>
            have hCB := Lib.hid (fun wx (h : Cur wx P) => l6Name_c P wx h)
            go_region_law
              (first
               | (go_at_call 66; refine (hCB.out _ (cur_drew CUR.out)).mono ?_; rintro _ w5 ⟨t, rfl, hnm, C', G''⟩; have G' : wr.grownBy w5 (some P) := ⟨G''.os, G''.tape, G''.output, G''.size, G''.block⟩; clear G''; have HNM := Lib.hid hnm; clear hnm; have C5 := Lib.hid C'; have GP := Lib.hid G'; have XV5 := Lib.hid (box_gr XV.out G' (by have h1 := HP.out; omega)); have XR5 := Lib.hid (box_gr XR.out G' (by have h1 := HP.out; omega)); clear C' G'; have Wl := box_lt XV5.out; obtain ⟨W0, W1, W2, W3, W4, Wf0, Wf1, Wf2, Wf3, Wf4⟩ := five_open XV5.out)
               | (go_simp; go_at_call 66; refine (hCB.out _ (cur_drew CUR.out)).mono ?_; rintro _ w5 ⟨t, rfl, hnm, C', G''⟩; have G' : wr.grownBy w5 (some P) := ⟨G''.os, G''.tape, G''.output, G''.size, G''.block⟩; clear G''; have HNM := Lib.hid hnm; clear hnm; have C5 := Lib.hid C'; have GP := Lib.hid G'; have XV5 := Lib.hid (box_gr XV.out G' (by have h1 := HP.out; omega)); have XR5 := Lib.hid (box_gr XR.out G' (by have h1 := HP.out; omega)); clear C' G'; have Wl := box_lt XV5.out; obtain ⟨W0, W1, W2, W3, W4, Wf0, Wf1, Wf2, Wf3, Wf4⟩ := five_open XV5.out)
               | (refine step_append_lies _ rfl (.tmp 82) (.tmp 85) 24 rfl (wb.heap.size + 1) 26 i0 _ 5 64 Tryz.underlying24 HI.out hz hs hb rfl (by decide) _ _ _ rfl ((draw_own HES.out HPL.out GP.out (below1 _ _))) ⟨w5.heap.size, 0, none⟩ 1 1 (cells5 t (.slice none 0 0)) rfl rfl (by exact World.news_of_block (heap_alloc_new _ _)) (one5 _ _ _ _) (by decide) (by unfold maxLen; omega) (by omega) (by have := GP.out.size; simp only [World.size_alloc]; (try omega)) _ rfl ?_; intro g cap5 w6 hown2 hg2 hf2 hlt2; have hsz5 := GP.out.size; have z := fun (i : Nat) (hi : i < wb.heap.size + 1) => (hg2.block i (by simp only [World.size_alloc]; omega) (fun e => by have := (HES.out.row.lt i e.symm).1; omega)).trans (Below.heap_alloc _ _ _ (by omega)); have HZ6 := Lib.hid (And.intro (z wb.heap.size (by omega)) (z w.heap.size (by omega))); clear z; have XV6 := Lib.hid (HZ6.out.1.trans XV5.out); have Yl := box_lt XV6.out; obtain ⟨Y0, Y1, Y2, Y3, Y4, Yf0, Yf1, Yf2, Yf3, Yf4⟩ := five_open XV6.out; have HOWN := Lib.hid hown2; have HG2 := Lib.hid hg2; have HF2 := Lib.hid hf2; clear hown2 hg2 hf2))
            all_goals
              have hfit := HNM.out.fits
              have hcl := HNM.out.cost
              have DA := draw_append HES.out HP.out HWL.out (by omega) GR.out GP.out C5.out (by rw [hcl.2]; exact AP.nil _ _ _) hfit (below1 _ _) HOWN.out HG2.out HF2.out
              have HDA := Lib.hid DA; clear DA
              have hOK := HNM.out.ok
              have HCO := Lib.hid hcl; have HOK := Lib.hid hOK; clear hcl hOK hfit
              go_wp2_with fail
              go_meet
              case rel =>
                refine ⟨l ++ [t], g, cap5, by simp, Lib.hid ⟨by rw [okL_snoc, HL.out.1, HOK.out]; rfl, by rw [costL_snoc]; have := HCO.out.1; omega⟩, Lib.hid ?_, Lib.hid ?_, Lib.hid ?_, Lib.hid ?_, Lib.hid ?_, ?_⟩
                · rw [show (l ++ [t]).length = l.length + 1 by simp]; exact ap_set HDA.out.1 _ (by omega)
                · exact Cur.set HDA.out.2.1 _ (by have h1 := HP.out; omega)
                · exact gr_sets HDA.out.2.2.1 _ (by omega)
                · exact box_other (HZ6.out.2.trans XR5.out) _ (by omega)
                · rw [show (l ++ [t]).length = l.length + 1 by simp]; exact five_set XV6.out _
                · simp only [World.size_setCell]; have h1 := HG2.out.size; simp only [World.size_alloc] at h1; omega
          case rest =>
            obtain ⟨l2, g2, c2, hl2, HL2, HA2, CUR2, GR2, XR2b, XV2, hsz2⟩ := hcut
            have hl2b : l2.length + 2 * X ≤ 7 := by omega
            have HLL := Lib.hid hl2; clear hl2
            clear HES HPL HWL
            have hPlo : P < wb.heap.size + 1 := by have h1 := HP.out; omega
            have HPL := Lib.hid hPlo; clear hPlo
            have hwlo : w.heap.size ≤ wb.heap.size + 1 := by omega
            have HWL := Lib.hid hwlo; clear hwlo
            obtain ⟨es, hes⟩ := HA2.out
            have HES := Lib.hid hes; clear hes
            have hVd := box_lt XV2.out
            go_wp2_with fail
            refine (HIH.out hZne _ (by exact CUR2.out)).mono ?_
            rintro _ w41 ⟨t, u, rfl, ht, hap, C', G'⟩
            have HT := Lib.hid ht; clear ht
            have HAP := Lib.hid hap; clear hap
            have GP := Lib.hid G'
            have C41 := Lib.hid C'; clear C'
            have XR41 : Hid (w41.heap[w.heap.size]? = some (.cells #[.int .i64 0, .int .i64 0, .int .i64 0, .string { data := #[] }, .slice none 0 0] 26 (0, 0))) := Lib.hid (box_gr XR2b.out G' (by have h1 := HP.out; have h2 := LER.out; omega))
            have XV41 : Hid (w41.heap[wb.heap.size]? = some (.cells #[.int .i64 10, .int .i64 0, .int .i64 0, .string { data := #[] }, .slice (some ⟨g2, 0, none⟩) l2.length c2] 26 (0, 0))) := Lib.hid (box_gr XV2.out G' (by have h1 := HP.out; have h2 := LEV.out; omega))
            have G41 := Lib.hid (gr_trans GR2.out G'); clear G'
            obtain ⟨au, cu, rfl⟩ := HAP.out.form
            have hsz41 := GP.out.size
            have Vl := box_lt XV41.out
            obtain ⟨V0, V1, V2, V3, V4, Vf0, Vf1, Vf2, Vf3, Vf4⟩ := five_open XV41.out
            have HB1 := Lib.hid (vbelow1 w41 (.cells #[.int .i64 t.kind, .int .i64 t.n, .int .i64 t.x, .string t.s, .slice au t.l.length cu] 26))
            have HB2 := Lib.hid (vbelow2 w41 (.cells #[.int .i64 t.kind, .int .i64 t.n, .int .i64 t.x, .string t.s, .slice au t.l.length cu] 26) (.cells #[.int .i64 t.kind, .int .i64 t.n, .int .i64 t.x, .string t.s, .slice au t.l.length cu] 26))
            have OWN := Lib.hid (draw_own HES.out HPL.out GP.out HB1.out)
            have HBK : Hid (∀ w3, ((w41.alloc (.cells #[.int .i64 t.kind, .int .i64 t.n, .int .i64 t.x, .string t.s, .slice au t.l.length cu] 26)).alloc (.cells #[.int .i64 t.kind, .int .i64 t.n, .int .i64 t.x, .string t.s, .slice au t.l.length cu] 26)).grownBy w3 (Value.ownBlock (.slice (some ⟨g2, 0, none⟩) l2.length c2)) → w3.heap[wb.heap.size]? = w41.heap[wb.heap.size]? ∧ w3.heap[w.heap.size]? = w41.heap[w.heap.size]?) := Lib.hid (fun w3 hg => by
              have hh : ∀ i, i < wb.heap.size + 1 → w3.heap[i]? = w41.heap[i]? := fun i hi => by
                rw [hg.block i (by simp only [World.size_alloc]; omega) (fun e => by have := (HES.out.row.lt i e.symm).1; omega), Below.heap_alloc _ _ _ (by simp only [World.size_alloc]; omega), Below.heap_alloc _ _ _ (by omega)]
              exact ⟨hh _ (by omega), hh _ (by omega)⟩)
            generalize hX' : cells5 t (.slice au t.l.length cu) = XX
            have hXl : XX.length = 1 * 5 := by rw [← hX']; rfl
            have hX1 : ∀ x ∈ XX, x.oneCell' = true := by rw [← hX']; exact one5 _ _ _ _
            have hXn : ∀ (k : Nat) v, XX[k]? = some v → ((w41.alloc (.cells #[.int .i64 t.kind, .int .i64 t.n, .int .i64 t.x, .string t.s, .slice au t.l.length cu] 26)).alloc (.cells #[.int .i64 t.kind, .int .i64 t.n, .int .i64 t.x, .string t.s, .slice au t.l.length cu] 26)).cell? ((⟨w41.heap.size + 1, 0, none⟩ : Addr).add k) = some v := by
              rw [← hX']
              exact World.news_of_block (first_blocks w41 _ _).2
            have HX := Lib.hid hX'; have HXN := Lib.hid hXn; have HX1 := Lib.hid hX1; clear hX' hXn hX1
            go_wp2_with (at_builtin; go_must (refine wpList_append_lies rfl (.tmp 93) (.tmp 95) 24 rfl (wb.heap.size + 1) 26 i0 _ 5 64 Tryz.underlying24 HI.out hz hs hb rfl (by decide) _ _ _ rfl (OWN.out.alloc _) ⟨w41.heap.size + 1, 0, none⟩ 1 1 XX rfl hXl HXN.out HX1.out (by decide) (by unfold maxLen; omega) (by omega) (by simp only [World.size_alloc]; omega) _ rfl ?_); intro g cap5 w42 hown2 hg2 hf2 hlt2; obtain ⟨z1, z2⟩ := HBK.out _ hg2; have XV42 := Lib.hid (z1.trans XV41.out); have XR42 := Lib.hid (z2.trans XR41.out); have Yl := box_lt XV42.out; obtain ⟨Y0, Y1, Y2, Y3, Y4, Yf0, Yf1, Yf2, Yf3, Yf4⟩ := five_open XV42.out; have HOWN := Lib.hid hown2; have HG2 := Lib.hid hg2; have HF2 := Lib.hid hf2; clear hown2 hg2 hf2 z1 z2)
            have DA := draw_append HES.out HP.out HWL.out (by omega) GR2.out GP.out C41.out HAP.out HT.out.2.2 HB2.out (by rw [HX.out]; exact HOWN.out) HG2.out HF2.out
            have HDA := Lib.hid DA; clear DA
            go_roundw
            case rel =>
              refine ⟨l2 ++ [t], _, X - 1, by first | rfl | go_num, by omega, by omega, by rw [List.length_append]; have := HLL.out; simp; omega, Lib.hid ⟨by rw [okL_snoc, HL2.out.1, HT.out.1]; rfl, by have h1 := HL.out.2.1; have h2 := HT.out.2.1; have h3 := HL2.out.2; clear HL; rw [costL_snoc, Int.sub_mul, Int.one_mul]; generalize X * (12 + (B' : Int)) = M at *; omega, fun _ => by have h1 := HL.out.2.2 (by first | rfl | trivial); rw [List.length_append, HLL.out]; simp; omega⟩, Lib.hid (ap_set HDA.out.1 _ (by omega)), Lib.hid (Cur.set HDA.out.2.1 _ (by have h1 := HP.out; omega)), Lib.hid (gr_sets HDA.out.2.2.1 _ (by omega)), Lib.hid (box_other XR42.out _ (by omega)), Lib.hid (five_set XV42.out _)⟩
            case measure => simp [intOf]; omega
        · obtain rfl : X = 0 := by omega
          have XR20 := XR; have XV20 := XV; have G20 := GR; have C20 := CUR
          have Rl := box_lt XR20.out
          obtain ⟨R0, R1, R2, R3, R4, Rf0, Rf1, Rf2, Rf3, Rf4⟩ := five_open XR20.out
          have Vl := box_lt XV20.out
          obtain ⟨V0, V1, V2, V3, V4, Vf0, Vf1, Vf2, Vf3, Vf4⟩ := five_open XV20.out
          go_wp2_with fail
          refine bodyPost_ret (v := .agg #[.int .i64 10, .int .i64 0, .int .i64 0, .string { data := #[] }, .slice a3 l.length cap3]) (by simp [results, Tryz.results39, go_sem, R0, R1, R2, R3, R4]) rfl ⟨.mk 10 0 0 { data := #[] } l, _, rfl, ⟨ok_map HL.out.1 (HL.out.2.2 (by first | rfl | trivial)), by have h1 := HL.out.2.1; have h2 := HB4.out hZne; rw [Tree.cost_eq]; show 0 + costL l ≤ B; omega, fitsM (wf_lit (by decide)) (wf_lit (by decide)) (wf_lit (by decide)) (by decide)⟩, ?_, ?_, ?_⟩
          · have hs2 := G2.out.size
            refine AP.mono (lo := wb.heap.size + 1) ?_ (by omega)
            simp only [Tree.l_mk]
            repeat (first | with_reducible exact HA.out | with_reducible refine ap_set ?_ _ (by omega))
          · repeat (first | with_reducible exact CUR.out | with_reducible refine Cur.set ?_ _ (by have h1 := HP.out; omega) | with_reducible refine Cur.alloc ?_ _)
          · repeat (first | with_reducible exact GR.out | with_reducible refine gr_sets ?_ _ (Nat.le_refl _) | with_reducible refine gr_alloc ?_ _)
end Go.Proofs.YtilmhemcpgiikaaGreatDoor
