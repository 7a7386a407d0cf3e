/- Vals: texts of the proof (DAny). -/
import Derived.Test.YtilmhemcpgiikaaGreatDoorSVals31
/- The draws of a tree and of a tree that may be wrong. -/
namespace Go.Proofs.YtilmhemcpgiikaaGreatDoor
open Go.Deep Go.ChangeShapes Go.WideShapes Go.ChangeAt Go.RowKit
open Go.ChangeMaps (open_string shut_string)

theorem DPost.mono {w : World} {P B B' : Nat} (h : B ≤ B') {e : Ending} {w' : World} (hp : DPost w P B e w') : DPost w P B' e w' := by
  obtain ⟨t, u, h1, ⟨h2, h3, h4⟩, h5⟩ := hp
  exact ⟨t, u, h1, ⟨h2, by omega, h4⟩, h5⟩
theorem l6Draw_0 (P : Nat) (w : World) (hC : Cur w P) : Calls Tryz.prog 39 #[.pointer (some ⟨P, 0, none⟩), .int .i64 0] w (DPost w P 100) :=
  l6Draw_step 0 (by decide) (by decide) 100 0 (by decide) (fun h => absurd rfl h) P (fun h => absurd rfl h) w hC
theorem l6Draw_1 (P : Nat) (w : World) (hC : Cur w P) : Calls Tryz.prog 39 #[.pointer (some ⟨P, 0, none⟩), .int .i64 1] w (DPost w P 400) :=
  l6Draw_step 1 (by decide) (by decide) 400 100 (by decide) (fun _ => by decide) P (fun _ w h => l6Draw_0 P w h) w hC
theorem l6Draw_2 (P : Nat) (w : World) (hC : Cur w P) : Calls Tryz.prog 39 #[.pointer (some ⟨P, 0, none⟩), .int .i64 2] w (DPost w P 1600) :=
  l6Draw_step 2 (by decide) (by decide) 1600 400 (by decide) (fun _ => by decide) P (fun _ w h => l6Draw_1 P w h) w hC
theorem l6Draw_3 (P : Nat) (w : World) (hC : Cur w P) : Calls Tryz.prog 39 #[.pointer (some ⟨P, 0, none⟩), .int .i64 3] w (DPost w P 6400) :=
  l6Draw_step 3 (by decide) (by decide) 6400 1600 (by decide) (fun _ => by decide) P (fun _ w h => l6Draw_2 P w h) w hC
theorem l6Draw_c (Z : Int) (h0 : 0 ≤ Z) (h1 : Z ≤ 3) (P : Nat) (w : World) (hC : Cur w P) : Calls Tryz.prog 39 #[.pointer (some ⟨P, 0, none⟩), .int .i64 Z] w (DPost w P 6400) := by
  have hz : Z = 0 ∨ Z = 1 ∨ Z = 2 ∨ Z = 3 := by omega
  rcases hz with rfl | rfl | rfl | rfl
  · exact (l6Draw_0 P w hC).mono fun e w' h => h.mono (by decide)
  · exact (l6Draw_1 P w hC).mono fun e w' h => h.mono (by decide)
  · exact (l6Draw_2 P w hC).mono fun e w' h => h.mono (by decide)
  · exact l6Draw_3 P w hC
/-- What the draw of any tree answers. -/
def APost (w : World) (P B : Nat) : Ending → World → Prop := fun e w' => ∃ (t : Tree) (u : Value), e = .returned (.agg #[.int .i64 t.kind, .int .i64 t.n, .int .i64 t.x, .string t.s, u]) ∧
  (t.cost ≤ B ∧ Fits t.kind t.n t.x t.s) ∧ AP w' w.heap.size 26 u t.l ∧ Cur w' P ∧ w.grownBy w' (some P)
theorem len_cost (t : Tree) : t.l.length ≤ t.cost := by have := Tree.cost_eq t; have := costL_eq t.l; omega
set_option maxRecDepth 100000 in
set_option maxHeartbeats 8000000 in
theorem l6Val_c (P : Nat) (w : World) (hC : Cur w P) :
    Calls Tryz.prog 36 #[.pointer (some ⟨P, 0, none⟩)] w (DPost w P 6400) := by
  have HC := Lib.hid hC; clear hC
  have HP := Lib.hid HC.out.lt
  have LER := Lib.hid (Nat.le_refl w.heap.size)
  go_enter Tryz.func36, Tryz.ntmps36
  go_wp2_with fail
  refine (l1Below_c P 4 _ (by exact (Cur.alloc HC.out _)) (by omega)).mono ?_
  rintro _ w1 ⟨z, rfl, z0, z1, -, -, C', G'⟩
  have C1 := Lib.hid C'; clear C'
  have XR1 : Hid (w1.heap[w.heap.size]? = some (.cells #[.int .i64 0, .int .i64 0, .int .i64 0, .string { data := #[] }, .slice none 0 0] 26 (0, 0))) := Lib.hid (box_gr (heap_alloc_new _ _) G' (by have h1 := HP.out; have h2 := LER.out; omega))
  have G1 := Lib.hid (gr_trans (gr_alloc (gr_refl (w := w) (P := P)) _) G'); clear G'
  replace z1 := z1 (by omega)
  go_wp2_with fail
  refine (l6Draw_c z (by omega) (by omega) P _ (by exact C1.out)).mono ?_
  rintro _ w2 ⟨t, u, rfl, ht, hap, C', G'⟩
  have HT := Lib.hid ht; clear ht
  have HAP := Lib.hid hap; clear hap
  have C2 := Lib.hid C'; clear C'
  have XR2 : Hid (w2.heap[w.heap.size]? = some (.cells #[.int .i64 0, .int .i64 0, .int .i64 0, .string { data := #[] }, .slice none 0 0] 26 (0, 0))) := Lib.hid (box_gr XR1.out G' (by have h1 := HP.out; have h2 := LER.out; omega))
  have G2 := Lib.hid (gr_trans G1.out G'); clear G'
  obtain ⟨au, cu, rfl⟩ := HAP.out.form
  have hlo := G1.out.size
  have hRl1 := box_lt XR1.out
  have Rl := box_lt XR2.out
  obtain ⟨R0, R1, R2, R3, R4, Rf0, Rf1, Rf2, Rf3, Rf4⟩ := five_open XR2.out
  go_wp2_with fail
  refine bodyPost_ret (v := .agg #[.int .i64 t.kind, .int .i64 t.n, .int .i64 t.x, .string t.s, .slice au t.l.length cu]) (by simp [results, Tryz.results36, go_sem, R0, R1, R2, R3, R4]) rfl ⟨t, _, rfl, HT.out, ?_, ?_, ?_⟩
  · refine AP.mono (lo := w1.heap.size) ?_ (by omega)
    refine Kp.ap ?_ HAP.out
    repeat (first | with_reducible exact (Kp.refl w2 (w1.heap.size)) | with_reducible refine Kp.set ?_ _ (by omega) | with_reducible refine Kp.alloc ?_ _)
  · repeat (first | with_reducible exact C2.out | with_reducible refine Cur.set ?_ _ (by have h1 := HP.out; have eR := LER.out; omega) | with_reducible refine Cur.alloc ?_ _ | with_reducible refine cur_drew ?_)
  · repeat (first | with_reducible exact G2.out | with_reducible refine gr_sets ?_ _ (by have eR := LER.out; omega) | with_reducible refine gr_alloc ?_ _ | with_reducible refine gr_drew ?_)
set_option maxRecDepth 100000 in
set_option maxHeartbeats 40000000 in
theorem l6Any_c (P : Nat) (w : World) (hC : Cur w P) :
    Calls Tryz.prog 33 #[.pointer (some ⟨P, 0, none⟩)] w (APost w P 6600) := by
  have HC := Lib.hid hC; clear hC
  have HP := Lib.hid HC.out.lt
  have LER := Lib.hid (Nat.le_refl w.heap.size)
  obtain ⟨i0, hi, hz, hs, hb⟩ := info_parts info_val
  have HI := Lib.hid hi; clear hi
  go_enter Tryz.func33, Tryz.ntmps33
  go_wp2_with fail
  refine (l6Val_c P _ (by exact (Cur.alloc HC.out _))).mono ?_
  rintro _ w1 ⟨t, u, rfl, ht, hap, C', G'⟩
  have HT := Lib.hid ht; clear ht
  simp only [World.size_alloc] at hap
  have HAP := Lib.hid hap; clear hap
  have hs01 := G'.size
  simp only [World.size_alloc] at hs01
  have C1 := Lib.hid C'; clear C'
  have XR1 : Hid (w1.heap[w.heap.size]? = some (.cells #[.int .i64 0, .int .i64 0, .int .i64 0, .string { data := #[] }, .slice none 0 0] 26 (0, 0))) := Lib.hid (box_gr (heap_alloc_new _ _) G' (by have h1 := HP.out; have h2 := LER.out; omega))
  have G1 := Lib.hid (gr_trans (gr_alloc (gr_refl (w := w) (P := P)) _) G'); clear G'
  obtain ⟨au, cu, rfl⟩ := HAP.out.form
  have LPT := Lib.hid (show P < w.heap.size + 1 by have h1 := HP.out; omega)
  have hRV : w.heap.size < w1.heap.size := by omega
  have NERV := Lib.hid (Nat.ne_of_lt hRV); have NEVR := Lib.hid (Nat.ne_of_gt hRV)
  have LEV := Lib.hid G1.out.size
  go_wp2_with fail
  refine (l1Below_c P 12 _ (by exact (Cur.alloc C1.out _)) (by omega)).mono ?_
  rintro _ w2 ⟨y, rfl, y0, y1, -, -, C', G'⟩
  have G1x := Lib.hid G'
  have KT2 := Lib.hid (Kp.gr (Kp.alloc (Kp.refl w1 (w.heap.size + 1)) _) G' LPT.out)
  have C2 := Lib.hid C'; clear C'
  have XR2 : Hid (w2.heap[w.heap.size]? = some (.cells #[.int .i64 0, .int .i64 0, .int .i64 0, .string { data := #[] }, .slice none 0 0] 26 (0, 0))) := Lib.hid (box_gr (box_alloc XR1.out _) G' (by have h1 := HP.out; have h2 := LER.out; omega))
  have XV2 : Hid (w2.heap[w1.heap.size]? = some (.cells #[.int .i64 t.kind, .int .i64 t.n, .int .i64 t.x, .string t.s, .slice au t.l.length cu] 26 (0, 0))) := Lib.hid (box_gr (heap_alloc_new _ _) G' (by have h1 := HP.out; have h2 := LEV.out; omega))
  have G2 := Lib.hid (gr_trans (gr_alloc G1.out _) G'); clear G'
  replace y1 := y1 (by omega)
  by_cases hy0 : y = 0
  · subst hy0
    go_wp2_with fail
    refine (l1Below_c P 14 _ (by exact C2.out) (by omega)).mono ?_
    rintro _ w3 ⟨m, rfl, m0, m1, -, -, C', G'⟩
    have KT3 := Lib.hid (Kp.gr KT2.out G' LPT.out)
    have C3 := Lib.hid C'; clear C'
    have XR3 : Hid (w3.heap[w.heap.size]? = some (.cells #[.int .i64 0, .int .i64 0, .int .i64 0, .string { data := #[] }, .slice none 0 0] 26 (0, 0))) := Lib.hid (box_gr XR2.out G' (by have h1 := HP.out; have h2 := LER.out; omega))
    have XV3 : Hid (w3.heap[w1.heap.size]? = some (.cells #[.int .i64 t.kind, .int .i64 t.n, .int .i64 t.x, .string t.s, .slice au t.l.length cu] 26 (0, 0))) := Lib.hid (box_gr XV2.out G' (by have h1 := HP.out; have h2 := LEV.out; omega))
    have G3 := Lib.hid (gr_trans G2.out G'); clear G'
    replace m1 := m1 (by omega)
    have Rl := box_lt XR3.out
    obtain ⟨R0, R1, R2, R3, R4, Rf0, Rf1, Rf2, Rf3, Rf4⟩ := five_open XR3.out
    have Vl := box_lt XV3.out
    obtain ⟨V0, V1, V2, V3, V4, Vf0, Vf1, Vf2, Vf3, Vf4⟩ := five_open XV3.out
    go_wp2_with fail
    refine bodyPost_ret (v := .agg #[.int .i64 (m - 1), .int .i64 t.n, .int .i64 t.x, .string t.s, .slice au t.l.length cu]) (by simp [results, Tryz.results33, go_sem, R0, R1, R2, R3, R4]) rfl ⟨.mk (m - 1) t.n t.x t.s t.l, _, rfl, ⟨by have h1 := HT.out.2.1; have h2 := Tree.cost_eq t; rw [Tree.cost_eq]; show t.s.size + costL t.l ≤ _; omega, fitsM (by unfold wf6; omega) HT.out.2.2.n HT.out.2.2.x HT.out.2.2.s⟩, ?_, ?_, ?_⟩
    · refine AP.mono (lo := w.heap.size + 1) ?_ (by omega)
      refine Kp.ap ?_ HAP.out
      repeat (first | with_reducible exact KT3.out | with_reducible refine Kp.set ?_ _ (by omega) | with_reducible refine Kp.alloc ?_ _)
    · repeat (first | with_reducible exact C3.out | with_reducible refine Cur.set ?_ _ (by have h1 := HP.out; have eR := LER.out; have eV := LEV.out; omega) | with_reducible refine Cur.alloc ?_ _ | with_reducible refine cur_drew ?_)
    · repeat (first | with_reducible exact G3.out | with_reducible refine gr_sets ?_ _ (by have eR := LER.out; have eV := LEV.out; omega) | with_reducible refine gr_alloc ?_ _ | with_reducible refine gr_drew ?_)
  by_cases hy1 : y = 1
  · subst hy1
    go_wp2_with fail
    refine (l1Raw_c P _ (by exact C2.out)).mono ?_
    rintro _ w3 ⟨m, rfl, hm, C', G'⟩
    have Hhm := Lib.hid hm; clear hm
    have KT3 := Lib.hid (Kp.gr KT2.out G' LPT.out)
    have C3 := Lib.hid C'; clear C'
    have XR3 : Hid (w3.heap[w.heap.size]? = some (.cells #[.int .i64 0, .int .i64 0, .int .i64 0, .string { data := #[] }, .slice none 0 0] 26 (0, 0))) := Lib.hid (box_gr XR2.out G' (by have h1 := HP.out; have h2 := LER.out; omega))
    have XV3 : Hid (w3.heap[w1.heap.size]? = some (.cells #[.int .i64 t.kind, .int .i64 t.n, .int .i64 t.x, .string t.s, .slice au t.l.length cu] 26 (0, 0))) := Lib.hid (box_gr XV2.out G' (by have h1 := HP.out; have h2 := LEV.out; omega))
    have G3 := Lib.hid (gr_trans G2.out G'); clear G'
    have Rl := box_lt XR3.out
    obtain ⟨R0, R1, R2, R3, R4, Rf0, Rf1, Rf2, Rf3, Rf4⟩ := five_open XR3.out
    have Vl := box_lt XV3.out
    obtain ⟨V0, V1, V2, V3, V4, Vf0, Vf1, Vf2, Vf3, Vf4⟩ := five_open XV3.out
    go_wp2_with fail
    refine bodyPost_ret (v := .agg #[.int .i64 t.kind, .int .i64 m, .int .i64 t.x, .string t.s, .slice au t.l.length cu]) (by simp [results, Tryz.results33, go_sem, R0, R1, R2, R3, R4]) rfl ⟨.mk t.kind m t.x t.s t.l, _, rfl, ⟨by have h1 := HT.out.2.1; have h2 := Tree.cost_eq t; rw [Tree.cost_eq]; show t.s.size + costL t.l ≤ _; omega, fitsM HT.out.2.2.kind Hhm.out HT.out.2.2.x HT.out.2.2.s⟩, ?_, ?_, ?_⟩
    · refine AP.mono (lo := w.heap.size + 1) ?_ (by omega)
      refine Kp.ap ?_ HAP.out
      repeat (first | with_reducible exact KT3.out | with_reducible refine Kp.set ?_ _ (by omega) | with_reducible refine Kp.alloc ?_ _)
    · repeat (first | with_reducible exact C3.out | with_reducible refine Cur.set ?_ _ (by have h1 := HP.out; have eR := LER.out; have eV := LEV.out; omega) | with_reducible refine Cur.alloc ?_ _ | with_reducible refine cur_drew ?_)
    · repeat (first | with_reducible exact G3.out | with_reducible refine gr_sets ?_ _ (by have eR := LER.out; have eV := LEV.out; omega) | with_reducible refine gr_alloc ?_ _ | with_reducible refine gr_drew ?_)
  by_cases hy2 : y = 2
  · subst hy2
    go_wp2_with fail
    refine (l1Int_c P [1, -17, -1] w2.heap.size 3 _ (by exact (Cur.alloc C2.out _)) (rd_laid w2 _ _) (Nat.ne_of_gt (Cur.lt C2.out)) (by simp) (by simp) (by simp)).mono ?_
    rintro _ w3 ⟨m, rfl, hm', C', G'⟩
    have Hm := Lib.hid hm'; clear hm'
    have KT3 := Lib.hid (Kp.gr (Kp.alloc KT2.out _) G' LPT.out)
    have C3 := Lib.hid C'; clear C'
    have XR3 : Hid (w3.heap[w.heap.size]? = some (.cells #[.int .i64 0, .int .i64 0, .int .i64 0, .string { data := #[] }, .slice none 0 0] 26 (0, 0))) := Lib.hid (box_gr (box_alloc XR2.out _) G' (by have h1 := HP.out; have h2 := LER.out; omega))
    have XV3 : Hid (w3.heap[w1.heap.size]? = some (.cells #[.int .i64 t.kind, .int .i64 t.n, .int .i64 t.x, .string t.s, .slice au t.l.length cu] 26 (0, 0))) := Lib.hid (box_gr (box_alloc XV2.out _) G' (by have h1 := HP.out; have h2 := LEV.out; omega))
    have G3 := Lib.hid (gr_trans (gr_alloc G2.out _) G'); clear G'
    have Rl := box_lt XR3.out
    obtain ⟨R0, R1, R2, R3, R4, Rf0, Rf1, Rf2, Rf3, Rf4⟩ := five_open XR3.out
    have Vl := box_lt XV3.out
    obtain ⟨V0, V1, V2, V3, V4, Vf0, Vf1, Vf2, Vf3, Vf4⟩ := five_open XV3.out
    go_wp2_with fail
    refine bodyPost_ret (v := .agg #[.int .i64 t.kind, .int .i64 t.n, .int .i64 m, .string t.s, .slice au t.l.length cu]) (by simp [results, Tryz.results33, go_sem, R0, R1, R2, R3, R4]) rfl ⟨.mk t.kind t.n m t.s t.l, _, rfl, ⟨by have h1 := HT.out.2.1; have h2 := Tree.cost_eq t; rw [Tree.cost_eq]; show t.s.size + costL t.l ≤ _; omega, fitsM HT.out.2.2.kind HT.out.2.2.n (by have h := Hm.out; simp at h; unfold wf6; omega) HT.out.2.2.s⟩, ?_, ?_, ?_⟩
    · refine AP.mono (lo := w.heap.size + 1) ?_ (by omega)
      refine Kp.ap ?_ HAP.out
      repeat (first | with_reducible exact KT3.out | with_reducible refine Kp.set ?_ _ (by omega) | with_reducible refine Kp.alloc ?_ _)
    · repeat (first | with_reducible exact C3.out | with_reducible refine Cur.set ?_ _ (by have h1 := HP.out; have eR := LER.out; have eV := LEV.out; omega) | with_reducible refine Cur.alloc ?_ _ | with_reducible refine cur_drew ?_)
    · repeat (first | with_reducible exact G3.out | with_reducible refine gr_sets ?_ _ (by have eR := LER.out; have eV := LEV.out; omega) | with_reducible refine gr_alloc ?_ _ | with_reducible refine gr_drew ?_)
  by_cases hy3 : y = 3
  · subst hy3
    go_wp2_with fail
    refine (l1Str_c P [⟨#[128]⟩, ⟨#[120]⟩, ⟨#[255]⟩] w2.heap.size 3 _ (by exact (Cur.alloc C2.out _)) (rs_laid w2 _ _) (Nat.ne_of_gt (Cur.lt C2.out)) (by simp) (by simp) (by simp)).mono ?_
    rintro _ w3 ⟨S, rfl, hS', C', G'⟩
    have HS := Lib.hid hS'; clear hS'
    have KT3 := Lib.hid (Kp.gr (Kp.alloc KT2.out _) G' LPT.out)
    have C3 := Lib.hid C'; clear C'
    have XR3 : Hid (w3.heap[w.heap.size]? = some (.cells #[.int .i64 0, .int .i64 0, .int .i64 0, .string { data := #[] }, .slice none 0 0] 26 (0, 0))) := Lib.hid (box_gr (box_alloc XR2.out _) G' (by have h1 := HP.out; have h2 := LER.out; omega))
    have XV3 : Hid (w3.heap[w1.heap.size]? = some (.cells #[.int .i64 t.kind, .int .i64 t.n, .int .i64 t.x, .string t.s, .slice au t.l.length cu] 26 (0, 0))) := Lib.hid (box_gr (box_alloc XV2.out _) G' (by have h1 := HP.out; have h2 := LEV.out; omega))
    have G3 := Lib.hid (gr_trans (gr_alloc G2.out _) G'); clear G'
    have hs : S.size ≤ 10 := by have h := HS.out; simp at h; rcases h with rfl | rfl | rfl <;> decide
    have HS2 := Lib.hid hs; clear hs HS
    have Rl := box_lt XR3.out
    obtain ⟨R0, R1, R2, R3, R4, Rf0, Rf1, Rf2, Rf3, Rf4⟩ := five_open XR3.out
    have Vl := box_lt XV3.out
    obtain ⟨V0, V1, V2, V3, V4, Vf0, Vf1, Vf2, Vf3, Vf4⟩ := five_open XV3.out
    go_wp2_with fail
    refine bodyPost_ret (v := .agg #[.int .i64 t.kind, .int .i64 t.n, .int .i64 t.x, .string S, .slice au t.l.length cu]) (by simp [results, Tryz.results33, go_sem, R0, R1, R2, R3, R4]) rfl ⟨.mk t.kind t.n t.x S t.l, _, rfl, ⟨by have h1 := HT.out.2.1; have h2 := Tree.cost_eq t; have h3 := HS2.out; rw [Tree.cost_eq]; show S.size + costL t.l ≤ _; omega, fitsM HT.out.2.2.kind HT.out.2.2.n HT.out.2.2.x (by have := HS2.out; omega)⟩, ?_, ?_, ?_⟩
    · refine AP.mono (lo := w.heap.size + 1) ?_ (by omega)
      refine Kp.ap ?_ HAP.out
      repeat (first | with_reducible exact KT3.out | with_reducible refine Kp.set ?_ _ (by omega) | with_reducible refine Kp.alloc ?_ _)
    · repeat (first | with_reducible exact C3.out | with_reducible refine Cur.set ?_ _ (by have h1 := HP.out; have eR := LER.out; have eV := LEV.out; omega) | with_reducible refine Cur.alloc ?_ _ | with_reducible refine cur_drew ?_)
    · repeat (first | with_reducible exact G3.out | with_reducible refine gr_sets ?_ _ (by have eR := LER.out; have eV := LEV.out; omega) | with_reducible refine gr_alloc ?_ _ | with_reducible refine gr_drew ?_)
  by_cases hy4 : y = 4
  · subst hy4
    have Vl := box_lt XV2.out
    obtain ⟨V0, V1, V2, V3, V4, Vf0, Vf1, Vf2, Vf3, Vf4⟩ := five_open XV2.out
    have hlc := len_cost t; have htc := HT.out.2.1
    obtain ⟨es, hes⟩ := HAP.out
    have HES := Lib.hid hes; clear hes
    have G12 := Lib.hid (gr_trans (gr_below (below1 w1 (.cells #[.int .i64 t.kind, .int .i64 t.n, .int .i64 t.x, .string t.s, .slice au t.l.length cu] 26))) G1x.out)
    have hCB := Lib.hid (fun wx (h : Cur wx P) => l6Draw_0 P wx h)
    go_wp2_with fail
    go_region_law
      (first
       | (go_at_call 39; refine (hCB.out _ (cur_drew C2.out)).mono ?_; rintro _ w5 ⟨t', u', rfl, ht', hap', C', G''⟩; have G' : w2.grownBy w5 (some P) := ⟨G''.os, G''.tape, G''.output, G''.size, G''.block⟩; clear G''; have HT' := Lib.hid ht'; clear ht'; have HAP' := Lib.hid (show AP w5 w2.heap.size 26 u' t'.l from hap'); clear hap'; obtain ⟨au', cu', rfl⟩ := HAP'.out.form; have C5 := Lib.hid C'; have GP := Lib.hid G'; have XV5 := Lib.hid (box_gr XV2.out G' (by have h1 := HP.out; omega)); have XR5 := Lib.hid (box_gr XR2.out G' (by have h1 := HP.out; omega)); clear C' G'; have Wl := box_lt XV5.out; obtain ⟨W0, W1, W2, W3, W4, Wf0, Wf1, Wf2, Wf3, Wf4⟩ := five_open XV5.out)
       | (go_simp; go_at_call 39; refine (hCB.out _ (cur_drew C2.out)).mono ?_; rintro _ w5 ⟨t', u', rfl, ht', hap', C', G''⟩; have G' : w2.grownBy w5 (some P) := ⟨G''.os, G''.tape, G''.output, G''.size, G''.block⟩; clear G''; have HT' := Lib.hid ht'; clear ht'; have HAP' := Lib.hid (show AP w5 w2.heap.size 26 u' t'.l from hap'); clear hap'; obtain ⟨au', cu', rfl⟩ := HAP'.out.form; have C5 := Lib.hid C'; have GP := Lib.hid G'; have XV5 := Lib.hid (box_gr XV2.out G' (by have h1 := HP.out; omega)); have XR5 := Lib.hid (box_gr XR2.out G' (by have h1 := HP.out; omega)); clear C' G'; have Wl := box_lt XV5.out; obtain ⟨W0, W1, W2, W3, W4, Wf0, Wf1, Wf2, Wf3, Wf4⟩ := five_open XV5.out)
       | (refine step_append_lies _ rfl (.tmp 34) (.tmp 37) 24 rfl (w.heap.size + 1) 26 i0 _ 5 64 Tryz.underlying24 HI.out hz hs hb rfl (by decide) _ _ _ rfl (draw_own HES.out LPT.out (gr_trans G12.out GP.out) (below1 _ _)) ⟨w5.heap.size, 0, none⟩ 1 1 (cells5 t' (.slice au' t'.l.length cu')) rfl rfl (by exact World.news_of_block (heap_alloc_new _ _)) (one5 _ _ _ _) (by decide) (by unfold maxLen; omega) (by omega) (by have h1 := G12.out.size; have h2 := GP.out.size; simp only [World.size_alloc]; (try omega)) _ rfl ?_; intro g cap5 w6 hown2 hg2 hf2 hlt2; have hsz5 := GP.out.size; have hsz12 := G12.out.size; have z := fun (i : Nat) (hi : i < w.heap.size + 1 ∨ w1.heap.size ≤ i) (hi2 : i < w2.heap.size) => (hg2.block i (by simp only [World.size_alloc]; omega) (fun e => by have := HES.out.row.lt i e.symm; omega)).trans (Below.heap_alloc _ _ _ (by omega)); have HZ6 := Lib.hid (And.intro (z w1.heap.size (by omega) (by omega)) (z w.heap.size (by omega) (by omega))); clear z; have XV6 := Lib.hid (HZ6.out.1.trans XV5.out); have XR6 := Lib.hid (HZ6.out.2.trans XR5.out); have Yl := box_lt XV6.out; obtain ⟨Y0, Y1, Y2, Y3, Y4, Yf0, Yf1, Yf2, Yf3, Yf4⟩ := five_open XV6.out; have Rl := box_lt XR6.out; obtain ⟨R0, R1, R2, R3, R4, Rf0, Rf1, Rf2, Rf3, Rf4⟩ := five_open XR6.out; have HOWN := Lib.hid hown2; have HG2 := Lib.hid hg2; have HF2 := Lib.hid hf2; clear hown2 hg2 hf2))
    all_goals
      have DA := draw_append HES.out HP.out (by omega) (by omega) G1.out (gr_trans G12.out GP.out) C5.out (HAP'.out.mono (by have := G12.out.size; omega)) HT'.out.2.2 (below1 _ _) HOWN.out HG2.out HF2.out
      have HDA := Lib.hid DA; clear DA
      go_wp2_with fail
      refine bodyPost_ret (v := .agg #[.int .i64 t.kind, .int .i64 t.n, .int .i64 t.x, .string t.s, .slice (some ⟨g, 0, none⟩) (t.l.length + 1) cap5]) (by simp [results, Tryz.results33, go_sem, R0, R1, R2, R3, R4]) rfl ⟨.mk t.kind t.n t.x t.s (t.l ++ [t']), _, rfl, ⟨by have h1 := HT.out.2.1; have h2 := Tree.cost_eq t; have h3 := HT'.out.2.1; rw [Tree.cost_eq]; show t.s.size + costL (t.l ++ [t']) ≤ _; rw [costL_snoc]; omega, fitsM HT.out.2.2.kind HT.out.2.2.n HT.out.2.2.x HT.out.2.2.s⟩, ?_, ?_, ?_⟩
      · refine AP.mono (lo := w.heap.size + 1) ?_ (by omega)
        simp only [Tree.l_mk]
        refine draw_append2 HES.out LPT.out (by omega) (gr_trans G12.out GP.out) (m := w2.heap.size) G12.out.size HAP'.out HT'.out.2.2 GP.out.size (below1 _ _) HOWN.out HG2.out HF2.out (by simp only [World.size_setCell]; exact Nat.le_refl _) (Ex.out (R := w.heap.size) (V := w1.heap.size) ?_ (by omega) ⟨Nat.le_refl _, box_lt XV2.out⟩)
        repeat (first | with_reducible exact Ex.refl _ _ _ | with_reducible refine Ex.set0 ?_ _ | with_reducible refine Ex.set1 ?_ _)
      · repeat (first | with_reducible exact HDA.out.2.1 | with_reducible refine Cur.set ?_ _ (by have h1 := HP.out; omega) | with_reducible refine cur_drew ?_)
      · repeat (first | with_reducible exact HDA.out.2.2.1 | with_reducible refine gr_sets ?_ _ (by omega) | with_reducible refine gr_drew ?_)
  have n0 : (y == 0) = false := by simpa using hy0
  have n1 : (y == 1) = false := by simpa using hy1
  have n2 : (y == 2) = false := by simpa using hy2
  have n3 : (y == 3) = false := by simpa using hy3
  have n4 : (y == 4) = false := by simpa using hy4
  have Rl := box_lt XR2.out
  obtain ⟨R0, R1, R2, R3, R4, Rf0, Rf1, Rf2, Rf3, Rf4⟩ := five_open XR2.out
  have Vl := box_lt XV2.out
  obtain ⟨V0, V1, V2, V3, V4, Vf0, Vf1, Vf2, Vf3, Vf4⟩ := five_open XV2.out
  go_wp2_with fail
  refine bodyPost_ret (v := .agg #[.int .i64 t.kind, .int .i64 t.n, .int .i64 t.x, .string t.s, .slice au t.l.length cu]) (by simp [results, Tryz.results33, go_sem, R0, R1, R2, R3, R4]) rfl ⟨t, _, rfl, ⟨by have := HT.out.2.1; omega, HT.out.2.2⟩, ?_, ?_, ?_⟩
  · refine AP.mono (lo := w.heap.size + 1) ?_ (by omega)
    refine Kp.ap ?_ HAP.out
    repeat (first | with_reducible exact KT2.out | with_reducible refine Kp.set ?_ _ (by omega) | with_reducible refine Kp.alloc ?_ _)
  · repeat (first | with_reducible exact C2.out | with_reducible refine Cur.set ?_ _ (by have h1 := HP.out; have eR := LER.out; have eV := LEV.out; omega) | with_reducible refine Cur.alloc ?_ _ | with_reducible refine cur_drew ?_)
  · repeat (first | with_reducible exact G2.out | with_reducible refine gr_sets ?_ _ (by have eR := LER.out; have eV := LEV.out; omega) | with_reducible refine gr_alloc ?_ _ | with_reducible refine gr_drew ?_)
end Go.Proofs.YtilmhemcpgiikaaGreatDoor
