/- Vals: texts of the proof (VCopyA BLaw). -/
import Derived.Test.YtilmhemcpgiikaaGreatDoorSVals21
import Derived.Test.YtilmhemcpgiikaaGreatDoorSVals3
/- The reference's copy of a tree: its row is its own, and can grow. -/
namespace Go.Proofs.YtilmhemcpgiikaaGreatDoor
open Go.Deep Go.ChangeShapes Go.WideShapes Go.ChangeAt Go.RowKit
open Go.ChangeMaps (open_string shut_string)

def CopyPA (w : World) (t : Tree) : Ending → World → Prop := fun e w' => ∃ a n c, e = .returned (.agg #[.int .i64 t.kind, .int .i64 t.n, .int .i64 t.x, .string t.s, .slice a n c]) ∧ AP w' w.heap.size 26 (.slice a n c) t.l ∧ Below w.heap.size w w'
def CopyA (f : FuncId) (t : Tree) : Prop := ∀ (w : World) (u : Value), t.cost ≤ 1048576 → TSl w u t.l → Fits t.kind t.n t.x t.s →
  Calls Tryz.prog f #[.agg #[.int .i64 t.kind, .int .i64 t.n, .int .i64 t.x, .string t.s, u]] w (CopyPA w t)
set_option maxHeartbeats 4000000 in
theorem l6Copy_a (t : Tree) : CopyA 34 t := by
  have ih : ∀ t' ∈ t.l, CopyC 34 t' := fun t' _ => l6Copy_c t'
  intro w u hcost hu hfit
  obtain ⟨i0, hi, hz, hs, hb⟩ := info_parts info_val
  have hc := Tree.cost_eq t
  have hcl := costL_eq t.l
  have hlen : t.l.length ≤ 1048576 := by omega
  have hcE : costE t.l ≤ 1048576 := by omega
  clear hc hcl hcost
  obtain ⟨a, cap, b, off, rfl, hcap, hmax, ha, hl⟩ := hu
  unfold maxLen at hmax
  have IH := Lib.hid ih; have HL := Lib.hid hl; have HA := Lib.hid ha; have HI := Lib.hid hi
  clear ih hl ha hi
  obtain ⟨hA, hB, hC, hP0, hs0, hw0⟩ := four_blocks w (.cells #[.int .i64 t.kind, .int .i64 t.n, .int .i64 t.x, .string t.s, .slice a t.l.length cap] 26) (.cells #[.int .i64 0, .int .i64 0, .int .i64 0, .string { data := #[] }, .slice none 0 0] 26) (.cells #[.int .i64 t.kind, .int .i64 t.n, .int .i64 t.x, .string t.s, .slice (some ⟨w.heap.size + 1 + 1 + 1, 0, none⟩) 0 0] 26) 26
  have HBA := Lib.hid hA; have HBB := Lib.hid hB; have HBC := Lib.hid hC; have HP0 := Lib.hid hP0; have HW0 := Lib.hid hw0; have HS0 := Lib.hid hs0
  clear hA hB hC hP0 hw0 hs0
  go_enter Tryz.func34, Tryz.ntmps34
  go_wp2_with fail
  generalize hW0 : ((((w.alloc (.cells #[.int .i64 t.kind, .int .i64 t.n, .int .i64 t.x, .string t.s, .slice a t.l.length cap] 26)).alloc (.cells #[.int .i64 0, .int .i64 0, .int .i64 0, .string { data := #[] }, .slice none 0 0] 26)).alloc (.cells #[.int .i64 t.kind, .int .i64 t.n, .int .i64 t.x, .string t.s, .slice (some ⟨w.heap.size + 1 + 1 + 1, 0, none⟩) 0 0] 26)).alloc (.cells #[] 26)) = W0 at *
  clear hW0
  go_loopw [4] (fun i wr => ∃ (j : Nat) (a3 : Option Addr) (cap3 : Nat), j ≤ t.l.length ∧ i = .int .i64 j ∧ w.heap.size + 4 ≤ wr.heap.size ∧ Hid (AP wr (w.heap.size + 1 + 1 + 1) 26 (.slice a3 j cap3) (t.l.take j)) ∧ Hid (Below w.heap.size w wr) ∧ Hid (wr.heap[w.heap.size]? = some (.cells #[.int .i64 t.kind, .int .i64 t.n, .int .i64 t.x, .string t.s, .slice a t.l.length cap] 26)) ∧ Hid (wr.heap[w.heap.size + 1]? = some (.cells #[.int .i64 0, .int .i64 0, .int .i64 0, .string { data := #[] }, .slice none 0 0] 26)) ∧ Hid (wr.heap[w.heap.size + 1 + 1]? = some (.cells #[.int .i64 t.kind, .int .i64 t.n, .int .i64 t.x, .string t.s, .slice a3 j cap3] 26))) (fun i _ => t.l.length - (intOf i).toNat)
  case atStart => exact ⟨0, _, _, by omega, rfl, by have := HS0.out; omega, HP0, HW0, HBA, HBB, HBC⟩
  case round =>
    obtain ⟨j, a3, cap3, hj, rfl, hszr, HP, HBW, HBA, HBB, HBC⟩ := hrel
    have htl : (t.l.take j).length = j := by rw [List.length_take]; omega
    obtain ⟨p0, p1, p2, p3, p4, pf⟩ := five_kept (Below.refl _ _) HBA.out
    clear p0 p1 p2 p3 pf
    by_cases hjl : j < t.l.length
    · obtain rfl : a = some ⟨b, off, none⟩ := HA.out (by intro h; rw [h] at hjl; simp at hjl)
      have hTA := (HL.out j hjl).kept HBW.out
      obtain ⟨u, c0, c1, c2, c3, c4, hsl, hfit'⟩ := hTA.parts
      have hih := IH.out t.l[j] (List.getElem_mem hjl)
      have hcm := cost_mem (List.getElem_mem hjl)
      have hst := take_snocT hjl
      generalize t.l[j] = t' at *
      have HI2 := Lib.hid hih; have HST := Lib.hid hst; clear hih hst hTA
      obtain ⟨a2, n2, cap2, rfl⟩ := hsl.form
      have HSL := Lib.hid hsl; have HFT := Lib.hid hfit'; clear hsl hfit'
      go_wp2_with fail
      refine (HI2.out _ _ (by omega) HSL.out HFT.out).mono ?_
      rintro _ w1 ⟨a4, n4, k4, rfl, ho, hb1⟩
      obtain ⟨es, hes⟩ := HP.out
      have hsz1 := hb1.size
      have hb01 : Below wr.heap.size wr (w1.alloc (.cells #[.int .i64 t'.kind, .int .i64 t'.n, .int .i64 t'.x, .string t'.s, .slice a4 n4 k4] 26)) := hb1.alloc hsz1 _
      have hown0 := owns_below hb01 hes.row
      rw [htl] at hown0
      have q4 := (five_kept hb01 HBC.out).2.2.2.2.1
      have HBK : Hid (∀ (o : Obj) (w3 : World), ((w1.alloc (.cells #[.int .i64 t'.kind, .int .i64 t'.n, .int .i64 t'.x, .string t'.s, .slice a4 n4 k4] 26)).alloc o).grownBy w3 (Value.slice a3 j cap3).ownBlock → w3.heap[w.heap.size]? = wr.heap[w.heap.size]? ∧ w3.heap[w.heap.size + 1]? = wr.heap[w.heap.size + 1]? ∧ w3.heap[w.heap.size + 1 + 1]? = wr.heap[w.heap.size + 1 + 1]?) := Lib.hid (fun o w3 hg => by
        have hne : ∀ i, i < w.heap.size + 1 + 1 + 1 → some i ≠ (Value.slice a3 j cap3).ownBlock := fun i hi e => by have := HP.out.block i e.symm; omega
        have hh : ∀ i, i < w.heap.size + 1 + 1 + 1 → w3.heap[i]? = wr.heap[i]? := fun i hi => by
          rw [hg.block i (by simp only [World.size_alloc]; omega) (hne i hi), Below.heap_alloc _ _ _ (by simp only [World.size_alloc]; omega), Below.heap_alloc _ _ _ (by omega), hb1.block i (by omega)]
        exact ⟨hh _ (by omega), hh _ (by omega), hh _ (by omega)⟩)
      have OWN := Lib.hid hown0; have HES := Lib.hid hes; have HO := Lib.hid ho; have HB01 := Lib.hid hb01
      clear hown0 hes ho hb01 hb1 c0 c1 c2 c3 c4
      generalize hX : cells5 t' (.slice a4 n4 k4) = X
      have hXl : X.length = 1 * 5 := by rw [← hX]; rfl
      have hX1 : ∀ x ∈ X, x.oneCell' = true := by rw [← hX]; exact one5 _ _ _ _
      have hXn : ∀ (k : Nat) v, X[k]? = some v → ((w1.alloc (.cells #[.int .i64 t'.kind, .int .i64 t'.n, .int .i64 t'.x, .string t'.s, .slice a4 n4 k4] 26)).alloc (.cells #[.int .i64 t'.kind, .int .i64 t'.n, .int .i64 t'.x, .string t'.s, .slice a4 n4 k4] 26)).cell? ((⟨w1.heap.size + 1, 0, none⟩ : Addr).add k) = some v := by
        rw [← hX]
        exact World.news_of_block (first_blocks w1 _ _).2
      have HX := Lib.hid hX; have HXN := Lib.hid hXn; have HX1 := Lib.hid hX1
      clear hX hXn hX1
      go_wp2_with (at_builtin; go_must (refine wpList_append_lies rfl (.tmp 23) (.tmp 25) 24 rfl (w.heap.size + 1 + 1 + 1) 26 i0 _ 5 64 Tryz.underlying24 HI.out hz hs hb rfl (by decide) _ _ _ rfl (OWN.out.alloc _) ⟨w1.heap.size + 1, 0, none⟩ 1 1 X rfl hXl HXN.out HX1.out (by decide) (by unfold maxLen; omega) (by omega) (by simp only [World.size_alloc]; omega) _ rfl ?_); intro g cap5 w2 hown2 hg2 hf2 hlt2; obtain ⟨z1, z2, z3⟩ := HBK.out _ _ hg2; rw [HBA.out] at z1; rw [HBB.out] at z2; rw [HBC.out] at z3; have y4 := (five_kept (Below.refl _ _) z3).2.2.2.2.1; have yf := (five_kept (Below.refl _ _) z3).2.2.2.2.2 4; have Z1 := Lib.hid z1; have Z2 := Lib.hid z2; have Z3 := Lib.hid z3; have HOWN2 := Lib.hid hown2; have HG2 := Lib.hid hg2; have HF2 := Lib.hid hf2; clear z1 z2 z3 hown2 hg2 hf2)
      have hb0 : Below wr.heap.size wr ((w1.alloc (.cells #[.int .i64 t'.kind, .int .i64 t'.n, .int .i64 t'.x, .string t'.s, .slice a4 n4 k4] 26)).alloc (.cells #[.int .i64 t'.kind, .int .i64 t'.n, .int .i64 t'.x, .string t'.s, .slice a4 n4 k4] 26)) := HB01.out.alloc (by simp only [World.size_alloc]; omega) _
      have hap := HES.out.snoc hb0 HFT.out (hi := w1.heap.size) (HO.out.kept (fun b hb => by rw [Below.heap_alloc _ _ _ (by simp only [World.size_alloc]; have := hb.2; omega), Below.heap_alloc _ _ _ hb.2])) (by simp only [World.size_alloc]; omega) (by omega) (g := g) (cap := cap5) (w' := w2) (by rw [htl, HX.out]; exact HOWN2.out) HG2.out (by
        rcases HF2.out with h | h
        · exact .inl h
        · right; rw [h])
      rw [htl, ← HST.out] at hap
      have hgs := HG2.out.size
      simp only [World.size_alloc] at hgs
      have hap2 : AP (w2.setCell ⟨w.heap.size + 1 + 1, 4, none⟩ (.slice (some ⟨g, 0, none⟩) (j + 1) cap5)) (w.heap.size + 1 + 1 + 1) 26 (.slice (some ⟨g, 0, none⟩) (j + 1) cap5) (t.l.take (j + 1)) :=
        hap.kept_lo (by simp) (fun b hb _ => Below.heap_setCell _ _ _ _ (by dsimp only; omega))
      have hbw2 : Below w.heap.size w (w2.setCell ⟨w.heap.size + 1 + 1, 4, none⟩ (.slice (some ⟨g, 0, none⟩) (j + 1) cap5)) := ((HBW.out.trans (hb0.mono (by omega))).grown HG2.out (by simp only [World.size_alloc]; omega) (fun k hk => by have := HP.out.block k hk; omega)).setCell (by dsimp only; omega) _
      have HAP := Lib.hid hap2; have HBW2 := Lib.hid hbw2
      have HZ1 := Lib.hid ((Below.heap_setCell w2 ⟨w.heap.size + 1 + 1, 4, none⟩ (.slice (some ⟨g, 0, none⟩) (j + 1) cap5) w.heap.size (by dsimp only; omega)).trans Z1.out)
      have HZ2 := Lib.hid ((Below.heap_setCell w2 ⟨w.heap.size + 1 + 1, 4, none⟩ (.slice (some ⟨g, 0, none⟩) (j + 1) cap5) (w.heap.size + 1) (by dsimp only; omega)).trans Z2.out)
      have HZ3 := Lib.hid (five_set Z3.out (.slice (some ⟨g, 0, none⟩) (j + 1) cap5))
      clear hap hap2 hbw2 hb0
      go_roundw
      case rel => exact ⟨j + 1, _, _, by omega, by go_num, by simp only [World.size_setCell]; omega, HAP, HBW2, HZ1, HZ2, HZ3⟩
      case measure => simp [intOf]; omega
    · obtain rfl : j = t.l.length := by omega
      have hosl := HP.out
      rw [List.take_length] at hosl
      obtain ⟨r0, r1, r2, r3, r4, rf⟩ := five_kept (Below.refl _ _) HBC.out
      obtain ⟨q0, q1, q2, q3, q4, qf⟩ := five_kept (Below.refl _ _) HBB.out
      have qf0 := qf 0; have qf1 := qf 1; have qf2 := qf 2; have qf3 := qf 3; have qf4 := qf 4
      clear qf rf
      have HO := Lib.hid hosl; clear hosl
      go_wp2_with fail
      refine bodyPost_ret (v := .agg #[.int .i64 t.kind, .int .i64 t.n, .int .i64 t.x, .string t.s, .slice a3 t.l.length cap3]) (by simp [results, Tryz.results34, go_sem, q0, q1, q2, q3, q4]) rfl ?_
      unfold CopyPA
      refine ⟨_, _, _, rfl, ?_, ?_⟩
      · refine AP.mono (lo := w.heap.size + 1 + 1 + 1) ?_ (by omega)
        iterate 5 refine ap_set ?_ _ (by omega)
        exact HO.out
      · iterate 5 refine Below.setCell ?_ (by dsimp only; omega) _
        exact HBW.out
end Go.Proofs.YtilmhemcpgiikaaGreatDoor
/- What the laws on slices of integers share. -/
namespace Go.Proofs.YtilmhemcpgiikaaGreatDoor
open Go.Deep Go.ChangeShapes Go.WideShapes Go.ChangeAt Go.RowKit
open Go.ChangeMaps (open_string shut_string)


theorem own_kept {w w' : World} (hb : Below w.heap.size w w') {B : Nat} {T : TypeId} {v : Value} {n : Nat} {xs : List Value} (h : w.ownsRow B T 1 v n xs) : w'.ownsRow B T 1 v n xs := by
  refine ⟨h.1, ?_⟩
  rcases h.2 with h2 | ⟨g, cap, cur, hv, hg, hh, r⟩
  · exact .inl h2
  · exact .inr ⟨g, cap, cur, hv, hg, by rw [hb.block g (Array.getElem?_eq_some_iff.1 hh).1]; exact hh, r⟩
/-- Two owned rows, the second made later, lie apart. -/
theorem own_apart {w w' : World} {B B' : Nat} {T T' : TypeId} {v v' : Value} {n n' : Nat} {xs xs' : List Value} (h : w.ownsRow B T 1 v n xs) (h' : w'.ownsRow B' T' 1 v' n' xs') (hB : w.heap.size ≤ B') : v.ownBlock = none ∨ v.ownBlock ≠ v'.ownBlock := by
  cases hv : v.ownBlock with
  | none => exact .inl rfl
  | some k =>
    right
    intro e
    have h1 := (h.lt k hv).2
    have h2 := (h'.lt k e.symm).1
    omega
theorem apart_symm {v v' : Value} (h : v.ownBlock = none ∨ v.ownBlock ≠ v'.ownBlock) : v'.ownBlock = none ∨ v'.ownBlock ≠ v.ownBlock := by
  cases hv : v'.ownBlock with
  | none => exact .inl rfl
  | some k =>
    rcases h with h | h
    · right; rw [h]; simp
    · right; rw [hv] at h; exact fun e => h e.symm
theorem below_mark {W w w' : World} {B : Nat} {T : TypeId} {v : Value} {n : Nat} {xs : List Value} (t : Below W.heap.size W w) (ho : w.ownsRow B T 1 v n xs) (hB : W.heap.size ≤ B) (hg : w.grownBy w' v.ownBlock) : Below W.heap.size W w' :=
  t.grown hg t.size (fun k hk => Nat.le_trans hB (ho.lt k hk).1)

end Go.Proofs.YtilmhemcpgiikaaGreatDoor
