/- StepVal of both: what the step leads to, copied. -/
import Derived.Test.YtjkjfdhbbblffaaVStep
namespace Go.Proofs.Ytjkjfdhbbblffaa
open Go.Deep Go.ChangeShapes Go.WideShapes Go.ChangeAt Go.RowKit
open Go.ChangeMaps (open_string shut_string)

def zeroT : Tree := .mk 0 0 0 { data := #[] } []
/-- What a step leads to, and whether it leads anywhere. -/
def stepR (t : Tree) (m : Int) (e : Bool) : Tree := if placeF t.kind t.l.length m e < 0 then zeroT else t.l.getD (placeF t.kind t.l.length m e).toNat zeroT
def stepB (t : Tree) (m : Int) (e : Bool) : Bool := decide (0 ≤ placeF t.kind t.l.length m e)
/-- A tree and a Bool, the tree's elements owned. -/
def PairP (w : World) (r : Tree) (b : Bool) : Ending → World → Prop := fun e w' => ∃ a n c, e = .returned (.tuple #[.agg #[.int .i64 r.kind, .int .i64 r.n, .int .i64 r.x, .string r.s, .slice a n c], .bool b]) ∧ OSl w' 29 (.slice a n c) r.l (Rng w.heap.size w'.heap.size) ∧ Below w.heap.size w w'

theorem stepR_cost (t : Tree) (m : Int) (e : Bool) : (stepR t m e).cost ≤ t.cost := by
  unfold stepR
  split
  · exact Nat.zero_le _
  · rename_i h
    rw [Tree.cost_eq t, List.getD_eq_getElem?_getD]
    have hcl := costL_eq t.l
    cases hg : t.l[(placeF t.kind t.l.length m e).toNat]? with
    | none => exact Nat.zero_le _
    | some x =>
      have := cost_mem (List.mem_of_getElem? hg)
      simp only [Option.getD_some]
      omega
theorem three_blocks (w : World) (o1 o2 o3 : Obj) :
    (((w.alloc o1).alloc o2).alloc o3).heap[w.heap.size]? = some o1 ∧ (((w.alloc o1).alloc o2).alloc o3).heap[w.heap.size + 1]? = some o2 ∧ (((w.alloc o1).alloc o2).alloc o3).heap[w.heap.size + 1 + 1]? = some o3 ∧ Below w.heap.size w (((w.alloc o1).alloc o2).alloc o3) := by
  have h1 := first_blocks w o1 o2
  have h3 := heap_alloc_new ((w.alloc o1).alloc o2) o3
  simp only [World.size_alloc] at h3
  refine ⟨?_, ?_, h3, (vbelow2 w o1 o2).alloc (by simp only [World.size_alloc]; omega) _⟩
  · rw [Below.heap_alloc _ _ _ (by simp only [World.size_alloc]; omega)]; exact h1.1
  · rw [Below.heap_alloc _ _ _ (by simp only [World.size_alloc]; omega)]; exact h1.2

set_option maxRecDepth 100000 in
set_option maxHeartbeats 4000000 in
theorem stepVal_spec (t : Tree) (m : Int) (e : Bool) (w : World) (u : Value) (hcost : t.cost ≤ 1048576) (hu : TSl w u t.l) (hfit : Fits t.kind t.n t.x t.s) (hm : -9223372036854775808 ≤ m ∧ m ≤ 9223372036854775807) :
    Calls Try.prog 35 #[.agg #[.int .i64 t.kind, .int .i64 t.n, .int .i64 t.x, .string t.s, u], .agg #[.int .i64 m, .bool e]] w (PairP w (stepR t m e) (stepB t m e)) := by
  have hc := Tree.cost_eq t
  have hcl := costL_eq t.l
  have hlen : t.l.length ≤ 1048576 := by omega
  have hcE : costE t.l ≤ 1048576 := by omega
  clear hc hcl hcost
  obtain ⟨a, cap, b, off, rfl, hcap, hmax, ha, hl⟩ := hu
  unfold maxLen at hmax
  have HL := Lib.hid hl; have HA := Lib.hid ha
  clear hl ha
  obtain ⟨hA, -, hC, hW⟩ := three_blocks w (.cells #[.int .i64 t.kind, .int .i64 t.n, .int .i64 t.x, .string t.s, .slice a t.l.length cap] 29) (.cells #[.int .i64 m, .bool e] 48) (.cells #[.int .i64 0, .int .i64 0, .int .i64 0, .string { data := #[] }, .slice none 0 0] 29)
  have HBA := Lib.hid hA; have HBC := Lib.hid hC; have HW := Lib.hid hW
  have HP := Lib.hid (fun w1 => place_spec t a cap m e w1 hlen hm)
  have hbd := placeF_bd t.kind t.l.length m e
  clear hA hC hW
  obtain ⟨K, hK⟩ : ∃ K, K = placeF t.kind t.l.length m e := ⟨_, rfl⟩
  have HR : Hid (stepR t m e = if K < 0 then zeroT else t.l.getD K.toNat zeroT) := Lib.hid (by unfold stepR; rw [hK])
  have HB : Hid (stepB t m e = decide (0 ≤ K)) := Lib.hid (by unfold stepB; rw [hK])
  rw [← hK] at HP hbd
  clear hK
  go_enter Try.func35, Try.ntmps35
  go_wp2_with fail
  refine (HP.out _).mono ?_
  rintro _ w1 ⟨rfl, b1⟩
  obtain ⟨p0, p1, p2, p3, p4, pf⟩ := five_kept b1 HBA.out
  obtain ⟨q0, q1, q2, q3, q4, qf⟩ := five_kept b1 HBC.out
  have qf0 := qf 0; have qf1 := qf 1; have qf2 := qf 2; have qf3 := qf 3; have qf4 := qf 4
  have hs1 := b1.size
  simp only [World.size_alloc] at hs1
  have hb1w := HW.out.trans (b1.mono (by simp only [World.size_alloc]; omega))
  have HB1W := Lib.hid hb1w
  have HQ := Lib.hid ((b1.block (w.heap.size + 1 + 1) (by simp only [World.size_alloc]; omega)).trans HBC.out)
  clear p0 p1 p2 p3 pf qf b1 hb1w
  rcases hbd with rfl | ⟨h0, h1⟩
  · go_wp2_with fail
    refine bodyPost_ret (v := .tuple #[.agg #[.int .i64 0, .int .i64 0, .int .i64 0, .string { data := #[] }, .slice none 0 0], .bool false]) (by simp [results, Try.results35, go_sem, q0, q1, q2, q3, q4]) rfl ?_
    have e1 : stepR t m e = zeroT := by rw [HR.out]; rfl
    have e2 : stepB t m e = false := by rw [HB.out]; rfl
    rw [e1, e2]
    refine ⟨_, _, _, rfl, .nil _ _ _ (by simp [maxLen]), ?_⟩
    iterate 5 refine Below.setCell ?_ (by dsimp only; omega) _
    exact HB1W.out
  · obtain ⟨k, rfl⟩ : ∃ k : Nat, K = k := ⟨K.toNat, by omega⟩
    have hkl : k < t.l.length := by omega
    have e1 : stepR t m e = t.l[k] := by rw [HR.out, if_neg (by omega)]; simp [List.getD, List.getElem?_eq_getElem hkl]
    have e2 : stepB t m e = true := by rw [HB.out]; simp
    obtain rfl : a = some ⟨b, off, none⟩ := HA.out (by intro h; rw [h] at hkl; simp at hkl)
    obtain ⟨x, c0, c1, c2, c3, c4, hsl, hft⟩ := ((HL.out k hkl).kept HB1W.out).parts
    have hcm := cost_mem (List.getElem_mem hkl)
    generalize t.l[k] = r at *
    obtain ⟨x1, x2, x3, rfl⟩ := hsl.form
    have HSL := Lib.hid hsl; have HFT := Lib.hid hft; have HE1 := Lib.hid e1; have HE2 := Lib.hid e2
    have hneg : decide ((k : Int) < 0) = false := decide_eq_false (by omega)
    clear e1 e2 hsl hft HR HB
    go_wp2_with fail
    refine (l6Copy_c r _ _ (by omega) HSL.out HFT.out).mono ?_
    rintro _ w2 ⟨a2, n2, k2, rfl, ho, hb2⟩
    have hs2 := hb2.size
    obtain ⟨q0, q1, q2, q3, q4, qf⟩ := five_kept hb2 HQ.out
    have qf0 := qf 0; have qf1 := qf 1; have qf2 := qf 2; have qf3 := qf 3; have qf4 := qf 4
    have HO := Lib.hid ho; have HB2 := Lib.hid hb2
    clear qf ho hb2 c0 c1 c2 c3 c4
    go_wp2_with fail
    refine bodyPost_ret (v := .tuple #[.agg #[.int .i64 r.kind, .int .i64 r.n, .int .i64 r.x, .string r.s, .slice a2 n2 k2], .bool true]) (by simp [results, Try.results35, go_sem, q0, q1, q2, q3, q4]) rfl ?_
    rw [HE1.out, HE2.out]
    refine ⟨_, _, _, rfl, ?_, ?_⟩
    · refine OSl.mono (S := Rng w1.heap.size w2.heap.size) ?_ (fun b hb => ⟨by have := hb.1; omega, by have := hb.2; simpa [World.setCell] using this⟩)
      iterate 5 refine osl_sets ?_ (by dsimp only; omega) _
      exact HO.out
    · iterate 5 refine Below.setCell ?_ (by dsimp only; omega) _
      exact HB1W.out.trans (HB2.out.mono (by omega))

set_option maxRecDepth 100000 in
set_option maxHeartbeats 8000000 in
theorem atPath_one (t : Tree) (m : Int) (e : Bool) (w : World) (u : Value) (B : Nat) (hcost : t.cost ≤ 1048576) (hu : TSl w u t.l) (hfit : Fits t.kind t.n t.x t.s)
    (hst : w.heap[B]? = some (.cells #[.int .i64 m, .bool e] 48 (0, 0))) :
    Calls Try.prog 50 #[.agg #[.int .i64 t.kind, .int .i64 t.n, .int .i64 t.x, .string t.s, u], .slice (some ⟨B, 0, none⟩) 1 1] w (PairP w (stepR t m e) (stepB t m e)) := by
  have hc := Tree.cost_eq t
  have hcl := costL_eq t.l
  have hlen : t.l.length ≤ 1048576 := by omega
  have hcE : costE t.l ≤ 1048576 := by omega
  clear hc hcl hcost
  obtain ⟨a, cap, b, off, rfl, hcap, hmax, ha, hl⟩ := hu
  unfold maxLen at hmax
  have HL := Lib.hid hl; have HA := Lib.hid ha
  clear hl ha
  obtain ⟨hA, hC⟩ := first_blocks w (.cells #[.int .i64 t.kind, .int .i64 t.n, .int .i64 t.x, .string t.s, .slice a t.l.length cap] 29) (.cells #[.int .i64 0, .int .i64 0, .int .i64 0, .string { data := #[] }, .slice none 0 0] 29)
  have HBA := Lib.hid hA; have HBC := Lib.hid hC
  have HW := Lib.hid (vbelow2 w (.cells #[.int .i64 t.kind, .int .i64 t.n, .int .i64 t.x, .string t.s, .slice a t.l.length cap] 29) (.cells #[.int .i64 0, .int .i64 0, .int .i64 0, .string { data := #[] }, .slice none 0 0] 29))
  have hBl : B < w.heap.size := (Array.getElem?_eq_some_iff.1 hst).1
  have HST := Lib.hid hst
  have HP := Lib.hid (fun w1 => index_impl t a cap m e w1 hlen)
  have hbd := placeF_bd t.kind t.l.length m e
  clear hA hC hst
  obtain ⟨K, hK⟩ : ∃ K, K = placeF t.kind t.l.length m e := ⟨_, rfl⟩
  have HR : Hid (stepR t m e = if K < 0 then zeroT else t.l.getD K.toNat zeroT) := Lib.hid (by unfold stepR; rw [hK])
  have HB : Hid (stepB t m e = decide (0 ≤ K)) := Lib.hid (by unfold stepB; rw [hK])
  rw [← hK] at HP hbd
  clear hK
  go_enter Try.func50, Try.ntmps50
  go_wp2_with fail
  generalize hW0 : ((w.alloc (.cells #[.int .i64 t.kind, .int .i64 t.n, .int .i64 t.x, .string t.s, .slice a t.l.length cap] 29)).alloc (.cells #[.int .i64 0, .int .i64 0, .int .i64 0, .string { data := #[] }, .slice none 0 0] 29)) = W0 at *
  have hs0 : W0.heap.size = w.heap.size + 2 := by rw [← hW0]; simp only [World.size_alloc]
  clear hW0
  go_loopw [11] (fun i wr => ∃ (j : Nat) (r : Tree) (a' : Option Addr) (n' c' : Nat), j ≤ 1 ∧ i = .int .i64 j ∧ w.heap.size + 2 ≤ wr.heap.size ∧ Hid (j = 0 → r = t ∧ .slice a' n' c' = Value.slice a t.l.length cap) ∧ Hid (j = 1 → stepR t m e = r ∧ stepB t m e = true ∧ r.cost ≤ 1048576 ∧ TSl w (.slice a' n' c') r.l ∧ Fits r.kind r.n r.x r.s) ∧
      Hid (wr.heap[w.heap.size]? = some (.cells #[.int .i64 r.kind, .int .i64 r.n, .int .i64 r.x, .string r.s, .slice a' n' c'] 29 (0, 0))) ∧ Hid (wr.heap[w.heap.size + 1]? = some (.cells #[.int .i64 0, .int .i64 0, .int .i64 0, .string { data := #[] }, .slice none 0 0] 29 (0, 0))) ∧ Hid (Below w.heap.size w wr)) (fun i _ => 1 - (intOf i).toNat)
  case atStart => exact ⟨0, t, _, _, _, by omega, rfl, by omega, Lib.hid (fun _ => ⟨rfl, rfl⟩), Lib.hid (fun h => by omega), HBA, HBC, HW⟩
  case round =>
    obtain ⟨j, r, a', n', c', hj, rfl, hszr, H0, H1, HX, HZ, HBW⟩ := hrel
    have hj2 : j = 0 ∨ j = 1 := by omega
    rcases hj2 with rfl | rfl
    · obtain ⟨rfl, e1⟩ := H0.out rfl
      injection e1 with e1 e2 e3
      subst e1 e2 e3
      obtain ⟨s0, s1⟩ : wr.cell? ⟨B, 0, none⟩ = some (.int .i64 m) ∧ wr.cell? ⟨B, 1, none⟩ = some (.bool e) := by
        have h := (HBW.out.block B hBl).trans HST.out
        simp [World.cell?, h]
      obtain ⟨p0, p1, p2, p3, p4, pf⟩ := five_kept (vbelow1 wr (.cells #[.int .i64 m, .bool e] 48)) HX.out
      clear pf H0 H1
      go_wp2_with fail
      refine (HP.out _).mono ?_
      rintro _ w1 ⟨rfl, b1⟩
      have hs1 := b1.size
      simp only [World.size_alloc] at hs1
      have hbb := (vbelow1 wr (.cells #[.int .i64 m, .bool e] 48))
      have hb1w := HBW.out.trans ((hbb.trans (b1.mono hbb.size)).mono HBW.out.size)
      have hx1 := (b1.block w.heap.size (by simp only [World.size_alloc]; omega)).trans ((hbb.block w.heap.size (by omega)).trans HX.out)
      have hz1 := (b1.block (w.heap.size + 1) (by simp only [World.size_alloc]; omega)).trans ((hbb.block (w.heap.size + 1) (by omega)).trans HZ.out)
      have HB1W := Lib.hid hb1w; have HX1 := Lib.hid hx1; have HZ1 := Lib.hid hz1
      obtain ⟨p0, p1, p2, p3, p4, pf⟩ := five_kept (Below.refl _ _) hx1
      obtain ⟨q0, q1, q2, q3, q4, qf⟩ := five_kept (Below.refl _ _) hz1
      have qf0 := qf 0; have qf1 := qf 1; have qf2 := qf 2; have qf3 := qf 3; have qf4 := qf 4
      have pf0 := pf 0; have pf1 := pf 1; have pf2 := pf 2; have pf3 := pf 3; have pf4 := pf 4
      clear pf qf b1 hb1w hx1 hz1 hbb
      rcases hbd with rfl | ⟨h0, h1⟩
      · go_wp2_with fail
        refine bodyPost_ret (v := .tuple #[.agg #[.int .i64 0, .int .i64 0, .int .i64 0, .string { data := #[] }, .slice none 0 0], .bool false]) (by simp [results, Try.results50, go_sem, q0, q1, q2, q3, q4]) rfl ?_
        have e1 : stepR r m e = zeroT := by rw [HR.out]; rfl
        have e2 : stepB r m e = false := by rw [HB.out]; rfl
        rw [e1, e2]
        refine ⟨_, _, _, rfl, .nil _ _ _ (by simp [maxLen]), ?_⟩
        iterate 5 refine Below.setCell ?_ (by dsimp only; omega) _
        exact HB1W.out
      · obtain ⟨k, rfl⟩ : ∃ k : Nat, K = k := ⟨K.toNat, by omega⟩
        have hkl : k < r.l.length := by omega
        have e1 : stepR r m e = r.l[k] := by rw [HR.out, if_neg (by omega)]; simp [List.getD, List.getElem?_eq_getElem hkl]
        have e2 : stepB r m e = true := by rw [HB.out]; simp
        obtain rfl : a' = some ⟨b, off, none⟩ := HA.out (by intro h; rw [h] at hkl; simp at hkl)
        obtain ⟨x0, _, _, _, _, y4, hsl0, hft0⟩ := (HL.out k hkl).parts
        obtain ⟨x, c0, c1, c2, c3, c4, hsl, hft⟩ := ((HL.out k hkl).kept HB1W.out).parts
        have hxx : x = x0 := by
          have z1 := (HB1W.out.cell (p := ⟨b, off + k * 5 + 4, none⟩) (HL.out k hkl).lt).trans y4
          rw [c4] at z1
          exact Option.some.inj z1
        subst hxx
        have hcm := cost_mem (List.getElem_mem hkl)
        generalize r.l[k] = r2 at *
        obtain ⟨x1, x2, x3, rfl⟩ := hsl.form
        have HE1 := Lib.hid e1; have HE2 := Lib.hid e2; have HSL := Lib.hid hsl0; have HFT := Lib.hid hft0
        have hneg : decide ((k : Int) < 0) = false := decide_eq_false (by omega)
        clear e1 e2 hsl hft hsl0 hft0 y4 HR HB
        go_wp2_with fail
        go_roundw
        case rel =>
          refine ⟨1, r2, x1, x2, x3, by omega, by go_num, by simp only [World.size_setCell]; omega, Lib.hid (fun h => by omega), Lib.hid (fun _ => ⟨HE1.out, HE2.out, by omega, HSL.out, HFT.out⟩), Lib.hid ?_, Lib.hid ?_, Lib.hid ?_⟩
          · simp [World.setCell, Array.getElem?_modify, HX1.out]
          · rw [Below.heap_setCell _ _ _ _ (by dsimp only; omega), Below.heap_setCell _ _ _ _ (by dsimp only; omega), Below.heap_setCell _ _ _ _ (by dsimp only; omega), Below.heap_setCell _ _ _ _ (by dsimp only; omega), Below.heap_setCell _ _ _ _ (by dsimp only; omega)]
            exact HZ1.out
          · iterate 5 refine Below.setCell ?_ (by dsimp only; omega) _
            exact HB1W.out
        case measure => simp [intOf]
    · obtain ⟨e1, e2, hrc, hsl, hft⟩ := H1.out rfl
      have HE1 := Lib.hid e1; have HE2 := Lib.hid e2
      obtain ⟨p0, p1, p2, p3, p4, pf⟩ := five_kept (Below.refl _ _) HX.out
      have HSL := Lib.hid (hsl.kept HBW.out); have HFT := Lib.hid hft
      clear pf H0 H1 hsl hft HP HR HB hbd e1 e2
      go_wp2_with fail
      refine (copyVal_c r _ _ hrc HSL.out HFT.out).mono ?_
      rintro _ w2 ⟨a2, n2, k2, rfl, ho, hb2⟩
      have hs2 := hb2.size
      obtain ⟨q0, q1, q2, q3, q4, qf⟩ := five_kept hb2 HZ.out
      have qf0 := qf 0; have qf1 := qf 1; have qf2 := qf 2; have qf3 := qf 3; have qf4 := qf 4
      have HO := Lib.hid ho; have HB2 := Lib.hid hb2
      clear qf ho hb2
      go_wp2_with fail
      refine bodyPost_ret (v := .tuple #[.agg #[.int .i64 r.kind, .int .i64 r.n, .int .i64 r.x, .string r.s, .slice a2 n2 k2], .bool true]) (by simp [results, Try.results50, go_sem, q0, q1, q2, q3, q4]) rfl ?_
      rw [HE1.out, HE2.out]
      refine ⟨_, _, _, rfl, ?_, ?_⟩
      · refine OSl.mono (S := Rng wr.heap.size w2.heap.size) ?_ (fun b hb => ⟨by have := hb.1; omega, by have := hb.2; simpa [World.setCell] using this⟩)
        iterate 5 refine osl_sets ?_ (by dsimp only; omega) _
        exact HO.out
      · iterate 5 refine Below.setCell ?_ (by dsimp only; omega) _
        exact HBW.out.trans (HB2.out.mono (by omega))

set_option maxRecDepth 100000 in
set_option maxHeartbeats 4000000 in
theorem stepVal_impl (t : Tree) (m : Int) (e : Bool) (w : World) (u : Value) (hcost : t.cost ≤ 1048576) (hu : TSl w u t.l) (hfit : Fits t.kind t.n t.x t.s) :
    Calls Try.prog 37 #[.agg #[.int .i64 t.kind, .int .i64 t.n, .int .i64 t.x, .string t.s, u], .agg #[.int .i64 m, .bool e]] w (PairP w (stepR t m e) (stepB t m e)) := by
  obtain ⟨a, n, cap, rfl⟩ := hu.form
  obtain ⟨-, -, hC, hW⟩ := three_blocks w (.cells #[.int .i64 t.kind, .int .i64 t.n, .int .i64 t.x, .string t.s, .slice a n cap] 29) (.cells #[.int .i64 m, .bool e] 48) (.cells #[.int .i64 0, .int .i64 0, .int .i64 0, .string { data := #[] }, .slice none 0 0] 29)
  have hst := heap_alloc_new (((w.alloc (.cells #[.int .i64 t.kind, .int .i64 t.n, .int .i64 t.x, .string t.s, .slice a n cap] 29)).alloc (.cells #[.int .i64 m, .bool e] 48)).alloc (.cells #[.int .i64 0, .int .i64 0, .int .i64 0, .string { data := #[] }, .slice none 0 0] 29)) (.cells #[.int .i64 m, .bool e] 48)
  simp only [World.size_alloc] at hst
  have hW4 := hW.alloc (by simp only [World.size_alloc]; omega) (.cells #[.int .i64 m, .bool e] 48)
  have hC4 := (Below.heap_alloc _ (.cells #[.int .i64 m, .bool e] 48) (w.heap.size + 1 + 1) (by simp only [World.size_alloc]; omega)).trans hC
  have HC := Lib.hid (atPath_one t m e _ _ (w.heap.size + 1 + 1 + 1) hcost (hu.kept hW4) hfit hst)
  have HW := Lib.hid hW4; have HBC := Lib.hid hC4
  generalize stepR t m e = r at *
  generalize stepB t m e = B at *
  clear hu hC hW hst hW4 hC4
  go_enter Try.func37, Try.ntmps37
  go_wp2_with fail
  refine HC.out.mono ?_
  rintro _ w2 ⟨a2, n2, k2, rfl, ho, hb2⟩
  have hs2 := hb2.size
  simp only [World.size_alloc] at hs2
  obtain ⟨q0, q1, q2, q3, q4, qf⟩ := five_kept hb2 HBC.out
  have qf0 := qf 0; have qf1 := qf 1; have qf2 := qf 2; have qf3 := qf 3; have qf4 := qf 4
  have HO := Lib.hid ho; have HB2 := Lib.hid hb2
  clear qf ho hb2 HC
  go_wp2_with fail
  refine bodyPost_ret (v := .tuple #[.agg #[.int .i64 r.kind, .int .i64 r.n, .int .i64 r.x, .string r.s, .slice a2 n2 k2], .bool B]) (by simp [results, Try.results37, go_sem, q0, q1, q2, q3, q4]) rfl ?_
  refine ⟨_, _, _, rfl, ?_, ?_⟩
  · refine OSl.mono (S := Rng (w.heap.size + 4) w2.heap.size) ?_ (fun b hb => ⟨by have := hb.1; omega, by have := hb.2; simpa [World.setCell] using this⟩)
    iterate 5 refine osl_sets ?_ (by dsimp only; omega) _
    have h := HO.out
    simp only [World.size_alloc] at h
    exact h
  · iterate 5 refine Below.setCell ?_ (by dsimp only; omega) _
    exact HW.out.trans (HB2.out.mono (by simp only [World.size_alloc]; omega))
end Go.Proofs.Ytjkjfdhbbblffaa
