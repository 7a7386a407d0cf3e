/- Vals: texts of the proof (VCopy). -/
import Derived.Test.YtilmhemcpgiikaaGreatDoorSVals8
import Derived.Test.YtilmhemcpgiikaaGreatDoorSVals9
import Derived.Test.YtilmhemcpgiikaaGreatDoorSVals10
/- Copies of trees: the program's copyVal and the reference's l6Copy; what they make is theirs alone. -/
namespace Go.Proofs.YtilmhemcpgiikaaGreatDoor
open Go.Deep Go.ChangeShapes Go.WideShapes Go.ChangeAt Go.RowKit
open Go.ChangeMaps (open_string shut_string)

/-- What a copy is: the tree's parts, its elements owned, nothing turned below. -/
def CopyP (w : World) (t : Tree) : Ending → World → Prop := fun e w' => ∃ a n c, e = .returned (.agg #[.int .i64 t.kind, .int .i64 t.n, .int .i64 t.x, .string t.s, .slice a n c]) ∧ OSl w' 26 (.slice a n c) t.l (Rng w.heap.size w'.heap.size) ∧ Below w.heap.size w w'
def CopyC (f : FuncId) (t : Tree) : Prop := ∀ (w : World) (u : Value), t.cost ≤ 1048576 → TSl w u t.l → Fits t.kind t.n t.x t.s →
  Calls Tryz.prog f #[.agg #[.int .i64 t.kind, .int .i64 t.n, .int .i64 t.x, .string t.s, u]] w (CopyP w t)

theorem first_blocks (w : World) (o o' : Obj) : ((w.alloc o).alloc o').heap[w.heap.size]? = some o ∧ ((w.alloc o).alloc o').heap[w.heap.size + 1]? = some o' := by
  constructor
  · rw [Below.heap_alloc _ _ _ (by simp only [World.size_alloc]; omega)]
    exact heap_alloc_new w o
  · have := heap_alloc_new (w.alloc o) o'
    simpa only [World.size_alloc] using this
theorem osl_sets {w : World} {T : TypeId} {v : Value} {l : List Tree} {lo hi : Nat} {p : Addr} (h : OSl w T v l (Rng lo hi)) (hp : p.block < lo) (x : Value) : OSl (w.setCell p x) T v l (Rng lo hi) :=
  h.kept (fun b hb => Below.heap_setCell _ _ _ _ (by have := hb.1; omega))
theorem one5 (t : Tree) (a : Option Addr) (n c : Nat) : ∀ x ∈ cells5 t (.slice a n c), x.oneCell' = true := by
  intro x hx
  simp [cells5] at hx
  rcases hx with rfl | rfl | rfl | rfl | rfl <;> rfl
theorem take_snocT {l : List Tree} {j : Nat} (h : j < l.length) : l.take (j + 1) = l.take j ++ [l[j]] := List.take_succ_eq_append_getElem h

set_option maxRecDepth 100000 in
set_option maxHeartbeats 4000000 in
theorem copyVal_of (t : Tree) (ih : ∀ t' ∈ t.l, CopyC 74 t') : CopyC 74 t := by
  intro w u hcost hu hfit
  obtain ⟨i0, hi, hz, hs, hb⟩ := info_parts info_val
  have hc := Tree.cost_eq t
  have hcl := costL_eq t.l
  have hlen : t.l.length ≤ 1048576 := by omega
  have hcE : costE t.l ≤ 1048576 := by omega
  clear hc hcl hcost
  obtain ⟨a, cap, b, off, rfl, hcap, hmax, ha, hl⟩ := hu
  unfold maxLen at hmax
  have IH := Lib.hid ih; have HL := Lib.hid hl; have HA := Lib.hid ha; have HI := Lib.hid hi
  clear ih hl ha hi
  obtain ⟨hA, hB⟩ := first_blocks w (.cells #[.int .i64 t.kind, .int .i64 t.n, .int .i64 t.x, .string t.s, .slice a t.l.length cap] 26) (.cells #[.int .i64 0, .int .i64 0, .int .i64 0, .string { data := #[] }, .slice none 0 0] 26)
  have HBA := Lib.hid hA; have HBB := Lib.hid hB
  have HW := Lib.hid (vbelow2 w (.cells #[.int .i64 t.kind, .int .i64 t.n, .int .i64 t.x, .string t.s, .slice a t.l.length cap] 26) (.cells #[.int .i64 0, .int .i64 0, .int .i64 0, .string { data := #[] }, .slice none 0 0] 26))
  clear hA hB
  go_enter Tryz.func74, Tryz.ntmps74
  go_wp2_with fail
  generalize hW0 : ((w.alloc (.cells #[.int .i64 t.kind, .int .i64 t.n, .int .i64 t.x, .string t.s, .slice a t.l.length cap] 26)).alloc (.cells #[.int .i64 0, .int .i64 0, .int .i64 0, .string { data := #[] }, .slice none 0 0] 26)) = W0 at *
  have hs0 : W0.heap.size = w.heap.size + 2 := by rw [← hW0]; simp only [World.size_alloc]
  clear hW0
  go_loopw [3, 9] (fun v i wr => ∃ j : Nat, j ≤ t.l.length ∧ i = .int .i64 j ∧ Hid (AP wr W0.heap.size 26 v (t.l.take j)) ∧ Hid (Below W0.heap.size W0 wr)) (fun _ i _ => t.l.length - (intOf i).toNat)
  case atStart => exact ⟨0, by omega, rfl, Lib.hid (by simpa using AP.nil W0 _ _), Lib.hid (Below.refl _ _)⟩
  case round =>
    obtain ⟨j, hj, rfl, HP, HBW⟩ := hrel
    obtain ⟨a3, cap3, hv3⟩ := HP.out.form
    have htl : (t.l.take j).length = j := by rw [List.length_take]; omega
    rw [htl] at hv3
    subst hv3
    have hszr := HBW.out.size
    by_cases hjl : j < t.l.length
    · obtain rfl : a = some ⟨b, off, none⟩ := HA.out (by intro h; rw [h] at hjl; simp at hjl)
      have hTA := (HL.out j hjl).kept (HW.out.trans (HBW.out.mono (by omega)))
      obtain ⟨u, c0, c1, c2, c3, c4, hsl, hfit'⟩ := hTA.parts
      have hih := IH.out t.l[j] (List.getElem_mem hjl)
      have hcm := cost_mem (List.getElem_mem hjl)
      have hst := take_snocT hjl
      generalize t.l[j] = t' at *
      have HI2 := Lib.hid hih; have HST := Lib.hid hst; clear hih hst hTA
      obtain ⟨a2, n2, cap2, rfl⟩ := hsl.form
      have HSL := Lib.hid hsl; have HFT := Lib.hid hfit'; clear hsl hfit'
      go_wp2_with fail
      refine (HI2.out _ _ (by omega) (HSL.out.kept (vbelow1 _ _)) HFT.out).mono ?_
      rintro _ w1 ⟨a4, n4, k4, rfl, ho, hb1⟩
      obtain ⟨es, hes⟩ := HP.out
      have hbA := (vbelow1 wr (.cells #[.int .i64 t'.kind, .int .i64 t'.n, .int .i64 t'.x, .string t'.s, .slice a2 n2 cap2] 26))
      have hb01 := vnx hbA hb1
      have hsz1 := hb01.size
      have hown0 := owns_below hb01 hes.row
      rw [htl] at hown0
      have OWN := Lib.hid hown0; have HES := Lib.hid hes; have HO := Lib.hid ho; have HB01 := Lib.hid hb01
      clear hown0 hes ho hb01 hb1 hbA c0 c1 c2 c3 c4
      generalize hX : cells5 t' (.slice a4 n4 k4) = X
      have hXl : X.length = 1 * 5 := by rw [← hX]; rfl
      have hX1 : ∀ x ∈ X, x.oneCell' = true := by rw [← hX]; exact one5 _ _ _ _
      have hXn : ∀ (k : Nat) v, X[k]? = some v → (w1.alloc (.cells #[.int .i64 t'.kind, .int .i64 t'.n, .int .i64 t'.x, .string t'.s, .slice a4 n4 k4] 26)).cell? ((⟨w1.heap.size, 0, none⟩ : Addr).add k) = some v := by
        rw [← hX]
        exact World.news_of_block (heap_alloc_new _ _)
      have HX := Lib.hid hX; have HXN := Lib.hid hXn; have HX1 := Lib.hid hX1
      clear hX hXn hX1
      go_wp2_with (at_builtin; go_must (refine wpList_append_lies rfl (.tmp 13) (.tmp 16) 24 rfl W0.heap.size 26 i0 _ 5 64 Tryz.underlying24 HI.out hz hs hb rfl (by decide) _ _ _ rfl (OWN.out.alloc _) ⟨w1.heap.size, 0, none⟩ 1 1 X rfl hXl HXN.out HX1.out (by decide) (by unfold maxLen; omega) (by omega) (by simp only [World.size_alloc]; omega) _ rfl ?_); intro g cap5 w2 hown2 hg2 hf2 hlt2)
      have hb0 : Below wr.heap.size wr (w1.alloc (.cells #[.int .i64 t'.kind, .int .i64 t'.n, .int .i64 t'.x, .string t'.s, .slice a4 n4 k4] 26)) := HB01.out.alloc (by omega) _
      have hap := HES.out.snoc hb0 HFT.out (hi := w1.heap.size) ((HO.out.mono (fun b hb => ⟨by have := hb.1; simp only [World.size_alloc] at this; omega, hb.2⟩)).kept (fun b hb => Below.heap_alloc _ _ _ hb.2)) (by simp only [World.size_alloc]; omega) hszr (g := g) (cap := cap5) (w' := w2) (by rw [htl, HX.out]; exact hown2) hg2 hf2
      rw [htl, ← HST.out] at hap
      have hbw2 : Below W0.heap.size W0 w2 := ((HBW.out.trans (hb0.mono hszr))).grown hg2 (by simp only [World.size_alloc]; omega) (fun k hk => (OWN.out.lt k hk).1)
      have HAP := Lib.hid hap; have HBW2 := Lib.hid hbw2
      clear hap hbw2 hown2 hg2 hf2 hb0
      go_roundw
      case rel => exact ⟨j + 1, by omega, by go_num, HAP, HBW2⟩
      case measure => simp [intOf]; omega
    · obtain rfl : j = t.l.length := by omega
      have hosl := HP.out.osl
      rw [List.take_length] at hosl
      obtain ⟨p0, p1, p2, p3, p4, pf⟩ := five_kept HBW.out HBA.out
      obtain ⟨q0, q1, q2, q3, q4, qf⟩ := five_kept HBW.out HBB.out
      have pf4 := pf 4
      have qf0 := qf 0; have qf1 := qf 1; have qf2 := qf 2; have qf3 := qf 3; have qf4 := qf 4
      clear pf qf
      have HO := Lib.hid hosl; clear hosl
      go_wp2_with fail
      refine bodyPost_ret (v := .agg #[.int .i64 t.kind, .int .i64 t.n, .int .i64 t.x, .string t.s, .slice a3 t.l.length cap3]) (by simp [results, Tryz.results74, go_sem, q0, q1, q2, q3, q4]) rfl ?_
      unfold CopyP
      refine ⟨_, _, _, rfl, ?_, ?_⟩
      · refine OSl.mono (S := Rng W0.heap.size wr.heap.size) ?_ (fun b hb => ⟨by have := hb.1; omega, by have := hb.2; simpa [World.setCell] using this⟩)
        iterate 6 refine osl_sets ?_ (by dsimp only; omega) _
        exact HO.out
      · iterate 6 refine Below.setCell ?_ (by dsimp only; omega) _
        exact HW.out.trans (HBW.out.mono (by omega))
theorem copyVal_c (t : Tree) : CopyC 74 t := Tree.ind (p := CopyC 74) copyVal_of t

theorem field_L (k n x : Int) (s : ByteArray) (u : Value) (w : World) : (Instr.field 26 (.agg #[.int .i64 k, .int .i64 n, .int .i64 x, .string s, u]) 4).run Tryz.prog w = .ok u w := by kernel_rfl
/-- Copies of trees, by the program. -/
theorem copyVals_c (l : List Tree) (w : World) (u : Value) (hcost : costL l ≤ 1048576) (hu : TSl w u l) :
    Calls Tryz.prog 50 #[u] w fun e w' => ∃ a n c, e = .returned (.slice a n c) ∧ OSl w' 26 (.slice a n c) l (Rng w.heap.size w'.heap.size) ∧ Below w.heap.size w w' := by
  have hC := copyVal_c (.mk 0 0 0 { data := #[] } l) w u (by rw [Tree.cost_eq]; exact (Nat.zero_add _).symm ▸ hcost) hu ⟨by simp, by simp, by simp, by show 0 ≤ _; omega⟩
  have HC := Lib.hid hC
  obtain ⟨a, n, c, rfl⟩ := hu.form
  clear hC hu
  go_enter Tryz.func50, Tryz.ntmps50
  go_wp2_with fail
  refine HC.out.mono ?_
  rintro _ w1 ⟨a1, n1, c1, rfl, ho, hb⟩
  have HO := Lib.hid ho; clear ho
  have hfl := field_L 0 0 0 { data := #[] } (.slice a1 n1 c1) w1
  go_wp2_with fail
  go_ret
  exact ⟨_, _, _, rfl, HO.out, hb⟩

/-- A block of five cells, with its last one turned. -/
theorem five_set {w : World} {B : Nat} {a b c d e : Value} {T : TypeId} (h : w.heap[B]? = some (.cells #[a, b, c, d, e] T (0, 0))) (v : Value) : (w.setCell ⟨B, 4, none⟩ v).heap[B]? = some (.cells #[a, b, c, d, v] T (0, 0)) := by
  simp [World.setCell, Array.getElem?_modify, h]


theorem four_blocks (w : World) (o1 o2 o3 : Obj) (T : TypeId) :
    ((((w.alloc o1).alloc o2).alloc o3).alloc (.cells #[] T)).heap[w.heap.size]? = some o1 ∧ ((((w.alloc o1).alloc o2).alloc o3).alloc (.cells #[] T)).heap[w.heap.size + 1]? = some o2 ∧
    ((((w.alloc o1).alloc o2).alloc o3).alloc (.cells #[] T)).heap[w.heap.size + 1 + 1]? = some o3 ∧ AP ((((w.alloc o1).alloc o2).alloc o3).alloc (.cells #[] T)) (w.heap.size + 1 + 1 + 1) T (.slice (some ⟨w.heap.size + 1 + 1 + 1, 0, none⟩) 0 0) [] ∧
    ((((w.alloc o1).alloc o2).alloc o3).alloc (.cells #[] T)).heap.size = w.heap.size + 4 ∧ Below w.heap.size w ((((w.alloc o1).alloc o2).alloc o3).alloc (.cells #[] T)) := by
  have h1 := first_blocks w o1 o2
  have h3 := heap_alloc_new ((w.alloc o1).alloc o2) o3
  have h4 := AP.made (((w.alloc o1).alloc o2).alloc o3) T
  simp only [World.size_alloc] at h3 h4
  refine ⟨?_, ?_, ?_, h4, by simp only [World.size_alloc], ?_⟩
  · rw [Below.heap_alloc _ _ _ (by simp only [World.size_alloc]; omega), Below.heap_alloc _ _ _ (by simp only [World.size_alloc]; omega)]; exact h1.1
  · rw [Below.heap_alloc _ _ _ (by simp only [World.size_alloc]; omega), Below.heap_alloc _ _ _ (by simp only [World.size_alloc]; omega)]; exact h1.2
  · rw [Below.heap_alloc _ _ _ (by simp only [World.size_alloc]; omega)]; exact h3
  · exact (((vbelow2 w o1 o2)).alloc (by simp only [World.size_alloc]; omega) _).alloc (by simp only [World.size_alloc]; omega) _

set_option maxRecDepth 100000 in
set_option maxHeartbeats 4000000 in
theorem l6Copy_of (t : Tree) (ih : ∀ t' ∈ t.l, CopyC 34 t') : CopyC 34 t := by
  intro w u hcost hu hfit
  obtain ⟨i0, hi, hz, hs, hb⟩ := info_parts info_val
  have hc := Tree.cost_eq t
  have hcl := costL_eq t.l
  have hlen : t.l.length ≤ 1048576 := by omega
  have hcE : costE t.l ≤ 1048576 := by omega
  clear hc hcl hcost
  obtain ⟨a, cap, b, off, rfl, hcap, hmax, ha, hl⟩ := hu
  unfold maxLen at hmax
  have IH := Lib.hid ih; have HL := Lib.hid hl; have HA := Lib.hid ha; have HI := Lib.hid hi
  clear ih hl ha hi
  obtain ⟨hA, hB, hC, hP0, hs0, hw0⟩ := four_blocks w (.cells #[.int .i64 t.kind, .int .i64 t.n, .int .i64 t.x, .string t.s, .slice a t.l.length cap] 26) (.cells #[.int .i64 0, .int .i64 0, .int .i64 0, .string { data := #[] }, .slice none 0 0] 26) (.cells #[.int .i64 t.kind, .int .i64 t.n, .int .i64 t.x, .string t.s, .slice (some ⟨w.heap.size + 1 + 1 + 1, 0, none⟩) 0 0] 26) 26
  have HBA := Lib.hid hA; have HBB := Lib.hid hB; have HBC := Lib.hid hC; have HP0 := Lib.hid hP0; have HW0 := Lib.hid hw0; have HS0 := Lib.hid hs0
  clear hA hB hC hP0 hw0 hs0
  go_enter Tryz.func34, Tryz.ntmps34
  go_wp2_with fail
  generalize hW0 : ((((w.alloc (.cells #[.int .i64 t.kind, .int .i64 t.n, .int .i64 t.x, .string t.s, .slice a t.l.length cap] 26)).alloc (.cells #[.int .i64 0, .int .i64 0, .int .i64 0, .string { data := #[] }, .slice none 0 0] 26)).alloc (.cells #[.int .i64 t.kind, .int .i64 t.n, .int .i64 t.x, .string t.s, .slice (some ⟨w.heap.size + 1 + 1 + 1, 0, none⟩) 0 0] 26)).alloc (.cells #[] 26)) = W0 at *
  clear hW0
  go_loopw [4] (fun i wr => ∃ (j : Nat) (a3 : Option Addr) (cap3 : Nat), j ≤ t.l.length ∧ i = .int .i64 j ∧ w.heap.size + 4 ≤ wr.heap.size ∧ Hid (AP wr (w.heap.size + 1 + 1 + 1) 26 (.slice a3 j cap3) (t.l.take j)) ∧ Hid (Below w.heap.size w wr) ∧ Hid (wr.heap[w.heap.size]? = some (.cells #[.int .i64 t.kind, .int .i64 t.n, .int .i64 t.x, .string t.s, .slice a t.l.length cap] 26)) ∧ Hid (wr.heap[w.heap.size + 1]? = some (.cells #[.int .i64 0, .int .i64 0, .int .i64 0, .string { data := #[] }, .slice none 0 0] 26)) ∧ Hid (wr.heap[w.heap.size + 1 + 1]? = some (.cells #[.int .i64 t.kind, .int .i64 t.n, .int .i64 t.x, .string t.s, .slice a3 j cap3] 26))) (fun i _ => t.l.length - (intOf i).toNat)
  case atStart => exact ⟨0, _, _, by omega, rfl, by have := HS0.out; omega, HP0, HW0, HBA, HBB, HBC⟩
  case round =>
    obtain ⟨j, a3, cap3, hj, rfl, hszr, HP, HBW, HBA, HBB, HBC⟩ := hrel
    have htl : (t.l.take j).length = j := by rw [List.length_take]; omega
    obtain ⟨p0, p1, p2, p3, p4, pf⟩ := five_kept (Below.refl _ _) HBA.out
    clear p0 p1 p2 p3 pf
    by_cases hjl : j < t.l.length
    · obtain rfl : a = some ⟨b, off, none⟩ := HA.out (by intro h; rw [h] at hjl; simp at hjl)
      have hTA := (HL.out j hjl).kept HBW.out
      obtain ⟨u, c0, c1, c2, c3, c4, hsl, hfit'⟩ := hTA.parts
      have hih := IH.out t.l[j] (List.getElem_mem hjl)
      have hcm := cost_mem (List.getElem_mem hjl)
      have hst := take_snocT hjl
      generalize t.l[j] = t' at *
      have HI2 := Lib.hid hih; have HST := Lib.hid hst; clear hih hst hTA
      obtain ⟨a2, n2, cap2, rfl⟩ := hsl.form
      have HSL := Lib.hid hsl; have HFT := Lib.hid hfit'; clear hsl hfit'
      go_wp2_with fail
      refine (HI2.out _ _ (by omega) HSL.out HFT.out).mono ?_
      rintro _ w1 ⟨a4, n4, k4, rfl, ho, hb1⟩
      obtain ⟨es, hes⟩ := HP.out
      have hsz1 := hb1.size
      have hb01 : Below wr.heap.size wr (w1.alloc (.cells #[.int .i64 t'.kind, .int .i64 t'.n, .int .i64 t'.x, .string t'.s, .slice a4 n4 k4] 26)) := hb1.alloc hsz1 _
      have hown0 := owns_below hb01 hes.row
      rw [htl] at hown0
      have q4 := (five_kept hb01 HBC.out).2.2.2.2.1
      have HBK : Hid (∀ (o : Obj) (w3 : World), ((w1.alloc (.cells #[.int .i64 t'.kind, .int .i64 t'.n, .int .i64 t'.x, .string t'.s, .slice a4 n4 k4] 26)).alloc o).grownBy w3 (Value.slice a3 j cap3).ownBlock → w3.heap[w.heap.size]? = wr.heap[w.heap.size]? ∧ w3.heap[w.heap.size + 1]? = wr.heap[w.heap.size + 1]? ∧ w3.heap[w.heap.size + 1 + 1]? = wr.heap[w.heap.size + 1 + 1]?) := Lib.hid (fun o w3 hg => by
        have hne : ∀ i, i < w.heap.size + 1 + 1 + 1 → some i ≠ (Value.slice a3 j cap3).ownBlock := fun i hi e => by have := HP.out.block i e.symm; omega
        have hh : ∀ i, i < w.heap.size + 1 + 1 + 1 → w3.heap[i]? = wr.heap[i]? := fun i hi => by
          rw [hg.block i (by simp only [World.size_alloc]; omega) (hne i hi), Below.heap_alloc _ _ _ (by simp only [World.size_alloc]; omega), Below.heap_alloc _ _ _ (by omega), hb1.block i (by omega)]
        exact ⟨hh _ (by omega), hh _ (by omega), hh _ (by omega)⟩)
      have OWN := Lib.hid hown0; have HES := Lib.hid hes; have HO := Lib.hid ho; have HB01 := Lib.hid hb01
      clear hown0 hes ho hb01 hb1 c0 c1 c2 c3 c4
      generalize hX : cells5 t' (.slice a4 n4 k4) = X
      have hXl : X.length = 1 * 5 := by rw [← hX]; rfl
      have hX1 : ∀ x ∈ X, x.oneCell' = true := by rw [← hX]; exact one5 _ _ _ _
      have hXn : ∀ (k : Nat) v, X[k]? = some v → ((w1.alloc (.cells #[.int .i64 t'.kind, .int .i64 t'.n, .int .i64 t'.x, .string t'.s, .slice a4 n4 k4] 26)).alloc (.cells #[.int .i64 t'.kind, .int .i64 t'.n, .int .i64 t'.x, .string t'.s, .slice a4 n4 k4] 26)).cell? ((⟨w1.heap.size + 1, 0, none⟩ : Addr).add k) = some v := by
        rw [← hX]
        exact World.news_of_block (first_blocks w1 _ _).2
      have HX := Lib.hid hX; have HXN := Lib.hid hXn; have HX1 := Lib.hid hX1
      clear hX hXn hX1
      go_wp2_with (at_builtin; go_must (refine wpList_append_lies rfl (.tmp 23) (.tmp 25) 24 rfl (w.heap.size + 1 + 1 + 1) 26 i0 _ 5 64 Tryz.underlying24 HI.out hz hs hb rfl (by decide) _ _ _ rfl (OWN.out.alloc _) ⟨w1.heap.size + 1, 0, none⟩ 1 1 X rfl hXl HXN.out HX1.out (by decide) (by unfold maxLen; omega) (by omega) (by simp only [World.size_alloc]; omega) _ rfl ?_); intro g cap5 w2 hown2 hg2 hf2 hlt2; obtain ⟨z1, z2, z3⟩ := HBK.out _ _ hg2; rw [HBA.out] at z1; rw [HBB.out] at z2; rw [HBC.out] at z3; have y4 := (five_kept (Below.refl _ _) z3).2.2.2.2.1; have yf := (five_kept (Below.refl _ _) z3).2.2.2.2.2 4; have Z1 := Lib.hid z1; have Z2 := Lib.hid z2; have Z3 := Lib.hid z3; have HOWN2 := Lib.hid hown2; have HG2 := Lib.hid hg2; have HF2 := Lib.hid hf2; clear z1 z2 z3 hown2 hg2 hf2)
      have hb0 : Below wr.heap.size wr ((w1.alloc (.cells #[.int .i64 t'.kind, .int .i64 t'.n, .int .i64 t'.x, .string t'.s, .slice a4 n4 k4] 26)).alloc (.cells #[.int .i64 t'.kind, .int .i64 t'.n, .int .i64 t'.x, .string t'.s, .slice a4 n4 k4] 26)) := HB01.out.alloc (by simp only [World.size_alloc]; omega) _
      have hap := HES.out.snoc hb0 HFT.out (hi := w1.heap.size) (HO.out.kept (fun b hb => by rw [Below.heap_alloc _ _ _ (by simp only [World.size_alloc]; have := hb.2; omega), Below.heap_alloc _ _ _ hb.2])) (by simp only [World.size_alloc]; omega) (by omega) (g := g) (cap := cap5) (w' := w2) (by rw [htl, HX.out]; exact HOWN2.out) HG2.out (by
        rcases HF2.out with h | h
        · exact .inl h
        · right; rw [h])
      rw [htl, ← HST.out] at hap
      have hgs := HG2.out.size
      simp only [World.size_alloc] at hgs
      have hap2 : AP (w2.setCell ⟨w.heap.size + 1 + 1, 4, none⟩ (.slice (some ⟨g, 0, none⟩) (j + 1) cap5)) (w.heap.size + 1 + 1 + 1) 26 (.slice (some ⟨g, 0, none⟩) (j + 1) cap5) (t.l.take (j + 1)) :=
        hap.kept_lo (by simp) (fun b hb _ => Below.heap_setCell _ _ _ _ (by dsimp only; omega))
      have hbw2 : Below w.heap.size w (w2.setCell ⟨w.heap.size + 1 + 1, 4, none⟩ (.slice (some ⟨g, 0, none⟩) (j + 1) cap5)) := ((HBW.out.trans (hb0.mono (by omega))).grown HG2.out (by simp only [World.size_alloc]; omega) (fun k hk => by have := HP.out.block k hk; omega)).setCell (by dsimp only; omega) _
      have HAP := Lib.hid hap2; have HBW2 := Lib.hid hbw2
      have HZ1 := Lib.hid ((Below.heap_setCell w2 ⟨w.heap.size + 1 + 1, 4, none⟩ (.slice (some ⟨g, 0, none⟩) (j + 1) cap5) w.heap.size (by dsimp only; omega)).trans Z1.out)
      have HZ2 := Lib.hid ((Below.heap_setCell w2 ⟨w.heap.size + 1 + 1, 4, none⟩ (.slice (some ⟨g, 0, none⟩) (j + 1) cap5) (w.heap.size + 1) (by dsimp only; omega)).trans Z2.out)
      have HZ3 := Lib.hid (five_set Z3.out (.slice (some ⟨g, 0, none⟩) (j + 1) cap5))
      clear hap hap2 hbw2 hb0
      go_roundw
      case rel => exact ⟨j + 1, _, _, by omega, by go_num, by simp only [World.size_setCell]; omega, HAP, HBW2, HZ1, HZ2, HZ3⟩
      case measure => simp [intOf]; omega
    · obtain rfl : j = t.l.length := by omega
      have hosl := HP.out.osl
      rw [List.take_length] at hosl
      obtain ⟨r0, r1, r2, r3, r4, rf⟩ := five_kept (Below.refl _ _) HBC.out
      obtain ⟨q0, q1, q2, q3, q4, qf⟩ := five_kept (Below.refl _ _) HBB.out
      have qf0 := qf 0; have qf1 := qf 1; have qf2 := qf 2; have qf3 := qf 3; have qf4 := qf 4
      clear qf rf
      have HO := Lib.hid hosl; clear hosl
      go_wp2_with fail
      refine bodyPost_ret (v := .agg #[.int .i64 t.kind, .int .i64 t.n, .int .i64 t.x, .string t.s, .slice a3 t.l.length cap3]) (by simp [results, Tryz.results34, go_sem, q0, q1, q2, q3, q4]) rfl ?_
      unfold CopyP
      refine ⟨_, _, _, rfl, ?_, ?_⟩
      · refine OSl.mono (S := Rng (w.heap.size + 1 + 1 + 1) wr.heap.size) ?_ (fun b hb => ⟨by have := hb.1; omega, by have := hb.2; simpa [World.setCell] using this⟩)
        iterate 5 refine osl_sets ?_ (by dsimp only; omega) _
        exact HO.out
      · iterate 5 refine Below.setCell ?_ (by dsimp only; omega) _
        exact HBW.out
theorem l6Copy_c (t : Tree) : CopyC 34 t := Tree.ind (p := CopyC 34) l6Copy_of t

set_option maxRecDepth 100000 in
set_option maxHeartbeats 4000000 in
/-- Copies of trees, by the reference. -/
theorem l6All_c (l : List Tree) (w : World) (u : Value) (hcost : costL l ≤ 1048576) (hu : TSl w u l) :
    Calls Tryz.prog 51 #[u] w fun e w' => ∃ a n c, e = .returned (.slice a n c) ∧ OSl w' 26 (.slice a n c) l (Rng w.heap.size w'.heap.size) ∧ Below w.heap.size w w' := by
  obtain ⟨i0, hi, hz, hs, hb⟩ := info_parts info_val
  have hcl := costL_eq l
  have hlen : l.length ≤ 1048576 := by omega
  have hcE : costE l ≤ 1048576 := by omega
  clear hcl hcost
  obtain ⟨a, cap, b, off, rfl, hcap, hmax, ha, hl⟩ := hu
  unfold maxLen at hmax
  have HL := Lib.hid hl; have HA := Lib.hid ha; have HI := Lib.hid hi
  clear hl ha hi
  have HP0 := Lib.hid (AP.made w 26)
  have HW := Lib.hid (vbelow1 w (.cells #[] 26))
  go_enter Tryz.func51, Tryz.ntmps51
  go_wp2_with fail
  generalize hW0 : (w.alloc (.cells #[] 26)) = W0 at *
  have hs0 : W0.heap.size = w.heap.size + 1 := by rw [← hW0]; simp only [World.size_alloc]
  clear hW0
  go_loopw [3, 4] (fun v i wr => ∃ j : Nat, j ≤ l.length ∧ i = .int .i64 j ∧ w.heap.size < wr.heap.size ∧ Hid (AP wr w.heap.size 26 v (l.take j)) ∧ Hid (Below w.heap.size w wr)) (fun _ i _ => l.length - (intOf i).toNat)
  case atStart => exact ⟨0, by omega, rfl, by omega, HP0, HW⟩
  case round =>
    obtain ⟨j, hj, rfl, hszr, HP, HBW⟩ := hrel
    obtain ⟨a3, cap3, hv3⟩ := HP.out.form
    have htl : (l.take j).length = j := by rw [List.length_take]; omega
    rw [htl] at hv3
    subst hv3
    by_cases hjl : j < l.length
    · obtain rfl : a = some ⟨b, off, none⟩ := HA.out (by intro h; rw [h] at hjl; simp at hjl)
      have hTA := (HL.out j hjl).kept HBW.out
      obtain ⟨u, c0, c1, c2, c3, c4, hsl, hfit'⟩ := hTA.parts
      have hcm := cost_mem (List.getElem_mem hjl)
      have hst := take_snocT hjl
      generalize l[j] = t' at *
      have HST := Lib.hid hst; clear hst hTA
      obtain ⟨a2, n2, cap2, rfl⟩ := hsl.form
      have HSL := Lib.hid hsl; have HFT := Lib.hid hfit'; clear hsl hfit'
      go_wp2_with fail
      refine (l6Copy_c t' _ _ (by omega) HSL.out HFT.out).mono ?_
      rintro _ w1 ⟨a4, n4, k4, rfl, ho, hb1⟩
      obtain ⟨es, hes⟩ := HP.out
      have hsz1 := hb1.size
      have hb01 : Below wr.heap.size wr (w1.alloc (.cells #[.int .i64 t'.kind, .int .i64 t'.n, .int .i64 t'.x, .string t'.s, .slice a4 n4 k4] 26)) := hb1.alloc hsz1 _
      have hown0 := owns_below hb01 hes.row
      rw [htl] at hown0
      have OWN := Lib.hid hown0; have HES := Lib.hid hes; have HO := Lib.hid ho; have HB01 := Lib.hid hb01
      clear hown0 hes ho hb01 hb1 c0 c1 c2 c3 c4
      generalize hX : cells5 t' (.slice a4 n4 k4) = X
      have hXl : X.length = 1 * 5 := by rw [← hX]; rfl
      have hX1 : ∀ x ∈ X, x.oneCell' = true := by rw [← hX]; exact one5 _ _ _ _
      have hXn : ∀ (k : Nat) v, X[k]? = some v → ((w1.alloc (.cells #[.int .i64 t'.kind, .int .i64 t'.n, .int .i64 t'.x, .string t'.s, .slice a4 n4 k4] 26)).alloc (.cells #[.int .i64 t'.kind, .int .i64 t'.n, .int .i64 t'.x, .string t'.s, .slice a4 n4 k4] 26)).cell? ((⟨w1.heap.size + 1, 0, none⟩ : Addr).add k) = some v := by
        rw [← hX]
        exact World.news_of_block (first_blocks w1 _ _).2
      have HX := Lib.hid hX; have HXN := Lib.hid hXn; have HX1 := Lib.hid hX1
      clear hX hXn hX1
      go_wp2_with (at_builtin; go_must (refine wpList_append_lies rfl (.tmp 18) (.tmp 20) 24 rfl w.heap.size 26 i0 _ 5 64 Tryz.underlying24 HI.out hz hs hb rfl (by decide) _ _ _ rfl (OWN.out.alloc _) ⟨w1.heap.size + 1, 0, none⟩ 1 1 X rfl hXl HXN.out HX1.out (by decide) (by unfold maxLen; omega) (by omega) (by simp only [World.size_alloc]; omega) _ rfl ?_); intro g cap5 w2 hown2 hg2 hf2 hlt2)
      have hb0 : Below wr.heap.size wr ((w1.alloc (.cells #[.int .i64 t'.kind, .int .i64 t'.n, .int .i64 t'.x, .string t'.s, .slice a4 n4 k4] 26)).alloc (.cells #[.int .i64 t'.kind, .int .i64 t'.n, .int .i64 t'.x, .string t'.s, .slice a4 n4 k4] 26)) := HB01.out.alloc (by simp only [World.size_alloc]; omega) _
      have hap := HES.out.snoc hb0 HFT.out (hi := w1.heap.size) (HO.out.kept (fun b hb => by rw [Below.heap_alloc _ _ _ (by simp only [World.size_alloc]; have := hb.2; omega), Below.heap_alloc _ _ _ hb.2])) (by simp only [World.size_alloc]; omega) (by omega) (g := g) (cap := cap5) (w' := w2) (by rw [htl, HX.out]; exact hown2) hg2 (by
        rcases hf2 with h | h
        · exact .inl h
        · right; rw [h])
      rw [htl, ← HST.out] at hap
      have hgs := hg2.size
      simp only [World.size_alloc] at hgs
      have hbw2 : Below w.heap.size w w2 := ((HBW.out.trans (hb0.mono (by omega)))).grown hg2 (by simp only [World.size_alloc]; omega) (fun k hk => (OWN.out.lt k hk).1)
      have HAP := Lib.hid hap; have HBW2 := Lib.hid hbw2
      clear hap hbw2 hown2 hg2 hf2 hb0
      go_roundw
      case rel => exact ⟨j + 1, by omega, by go_num, by omega, HAP, HBW2⟩
      case measure => simp [intOf]; omega
    · obtain rfl : j = l.length := by omega
      have hosl := HP.out.osl
      rw [List.take_length] at hosl
      have HO := Lib.hid hosl; clear hosl
      go_wp2_with fail
      go_ret
      exact ⟨_, _, _, rfl, HO.out, HBW.out⟩

/- A list of values, as the reference makes it and as the program does. -/
set_option maxHeartbeats 1000000 in
theorem listVal_spec (l : List Tree) (w : World) (u : Value) (hcost : costL l ≤ 1048576) (hu : TSl w u l) :
    Calls Tryz.prog 28 #[u] w (CopyP w (.mk 9 0 0 { data := #[] } l)) := by
  have HC := Lib.hid (fun w1 hb => l6All_c l w1 u hcost (hu.kept (w' := w1) hb))
  have HB0 := Lib.hid (heap_alloc_new w (.cells #[.int .i64 0, .int .i64 0, .int .i64 0, .string { data := #[] }, .slice none 0 0] 26))
  have HW0 := Lib.hid (vbelow1 w (.cells #[.int .i64 0, .int .i64 0, .int .i64 0, .string { data := #[] }, .slice none 0 0] 26))
  obtain ⟨a, n, c, rfl⟩ := hu.form
  clear hu
  go_enter Tryz.func28, Tryz.ntmps28
  go_wp2_with fail
  refine (HC.out _ HW0.out).mono ?_
  rintro _ w1 ⟨a1, n1, c1, rfl, ho, hb⟩
  obtain ⟨q0, q1, q2, q3, q4, qf⟩ := five_kept hb HB0.out
  have qf0 := qf 0; have qf1 := qf 1; have qf2 := qf 2; have qf3 := qf 3; have qf4 := qf 4
  have HO := Lib.hid ho; have HB := Lib.hid hb
  clear qf ho hb
  go_wp2_with fail
  refine bodyPost_ret (v := .agg #[.int .i64 9, .int .i64 0, .int .i64 0, .string { data := #[] }, .slice a1 n1 c1]) (by simp [results, Tryz.results28, go_sem, q0, q1, q2, q3, q4]) rfl ?_
  unfold CopyP
  refine ⟨_, _, _, rfl, ?_, ?_⟩
  · refine OSl.mono (S := Rng (w.heap.size + 1) w1.heap.size) ?_ (fun b hb => ⟨by have := hb.1; omega, by have := hb.2; simpa [World.setCell] using this⟩)
    iterate 5 refine osl_sets ?_ (by dsimp only; omega) _
    have h := HO.out
    simp only [World.size_alloc] at h
    exact h
  · iterate 5 refine Below.setCell ?_ (by dsimp only; omega) _
    exact HW0.out.trans (HB.out.mono (by simp only [World.size_alloc]; omega))

set_option maxHeartbeats 1000000 in
theorem listVal_impl (l : List Tree) (w : World) (u : Value) (hcost : costL l ≤ 1048576) (hu : TSl w u l) :
    Calls Tryz.prog 27 #[u] w (CopyP w (.mk 9 0 0 { data := #[] } l)) := by
  have HC := Lib.hid (fun w1 hb => copyVals_c l w1 u hcost (hu.kept (w' := w1) hb))
  have HB0 := Lib.hid (heap_alloc_new w (.cells #[.int .i64 0, .int .i64 0, .int .i64 0, .string { data := #[] }, .slice none 0 0] 26))
  have HW0 := Lib.hid (vbelow1 w (.cells #[.int .i64 0, .int .i64 0, .int .i64 0, .string { data := #[] }, .slice none 0 0] 26))
  obtain ⟨a, n, c, rfl⟩ := hu.form
  clear hu
  go_enter Tryz.func27, Tryz.ntmps27
  go_wp2_with fail
  refine (HC.out _ HW0.out).mono ?_
  rintro _ w1 ⟨a1, n1, c1, rfl, ho, hb⟩
  obtain ⟨q0, q1, q2, q3, q4, qf⟩ := five_kept hb HB0.out
  have qf0 := qf 0; have qf1 := qf 1; have qf2 := qf 2; have qf3 := qf 3; have qf4 := qf 4
  have HO := Lib.hid ho; have HB := Lib.hid hb
  clear qf ho hb
  go_wp2_with fail
  refine bodyPost_ret (v := .agg #[.int .i64 9, .int .i64 0, .int .i64 0, .string { data := #[] }, .slice a1 n1 c1]) (by simp [results, Tryz.results27, go_sem, q0, q1, q2, q3, q4]) rfl ?_
  unfold CopyP
  refine ⟨_, _, _, rfl, ?_, ?_⟩
  · refine OSl.mono (S := Rng (w.heap.size + 1) w1.heap.size) ?_ (fun b hb => ⟨by have := hb.1; omega, by have := hb.2; simpa [World.setCell] using this⟩)
    iterate 5 refine osl_sets ?_ (by dsimp only; omega) _
    have h := HO.out
    simp only [World.size_alloc] at h
    exact h
  · iterate 5 refine Below.setCell ?_ (by dsimp only; omega) _
    exact HW0.out.trans (HB.out.mono (by simp only [World.size_alloc]; omega))
end Go.Proofs.YtilmhemcpgiikaaGreatDoor
