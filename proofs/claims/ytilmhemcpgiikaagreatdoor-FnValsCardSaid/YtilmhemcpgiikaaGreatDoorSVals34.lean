/- Vals: texts of the proof (CBent). -/
import Derived.Test.YtilmhemcpgiikaaGreatDoorSVals5
import Derived.Test.YtilmhemcpgiikaaGreatDoorSVals33
import Derived.Deep.RegionWith
/- l1Bent: bytes, mostly with one turned, cut, or with more behind: bytes of the call's own. -/
namespace Go.Proofs.YtilmhemcpgiikaaGreatDoor
open Go.Deep Go.ChangeShapes Go.WideShapes Go.ChangeAt Go.RowKit

theorem own_take {w : World} {B : Nat} {T : TypeId} {a : Option Addr} {n cap : Nat} {xs : List Value} (h : w.ownsRow B T 1 (.slice a n cap) n xs) {k : Nat} (hk : k ≤ n) : w.ownsRow B T 1 (.slice a k cap) k (xs.take k) := by
  obtain ⟨h1, h2⟩ := h
  refine ⟨by rw [List.length_take]; omega, ?_⟩
  rcases h2 with ⟨hv, h0⟩ | ⟨g, cap', cur, hv, hB, hg, hnc, hcm, hcs, htk⟩
  · injection hv with e1 e2 e3
    subst e1 e2 e3
    left
    obtain rfl : k = 0 := by omega
    exact ⟨rfl, rfl⟩
  · injection hv with e1 e2 e3
    subst e1 e3
    right
    refine ⟨g, cap, cur, rfl, hB, hg, by omega, hcm, hcs, ?_⟩
    rw [← htk, List.take_take]
    congr 1; omega
theorem own_set {w : World} {B : Nat} {T : TypeId} {g n cap : Nat} {k : IntKind} {zs : List Int} (h : w.ownsRow B T 1 (.slice (some ⟨g, 0, none⟩) n cap) n (zs.map (Value.int k))) {j : Nat} (hj : j < n) (x : Int) :
    (w.setCell ⟨g, j, none⟩ (.int k x)).ownsRow B T 1 (.slice (some ⟨g, 0, none⟩) n cap) n ((zs.set j x).map (Value.int k)) := by
  have hlen : zs.length = n := by have := h.1; simpa using this
  rcases own_row h with ⟨c, hv, -, -⟩ | ⟨g', cap', f, hv, hB, hrow, hnc, hcm⟩
  · cases hv
  injection hv with e1 e2 e3
  injection e1 with e1
  injection e1 with e1
  subst e1 e3
  have hr := hrow.set j (.int k x)
  have hf : ∀ i, i < n → f i = .int k (zs.getD i 0) := by
    intro i hi
    have h1 := h.cells (g := g) rfl i (.int k (zs.getD i 0)) (by rw [List.getElem?_map]; simp [List.getD, List.getElem?_eq_getElem (show i < zs.length by omega)])
    have h2 := hrow.cell (i := i) (by omega)
    rw [Addr.add_lit, Nat.zero_add] at h1
    rw [h1] at h2
    exact (Option.some.inj h2).symm
  have := row_own (k := k) (zs := zs.set j x) hr (by rw [List.length_set]; omega) hcm (fun i hi => by
    rw [List.length_set] at hi
    by_cases e : i = j
    · subst e
      rw [if_pos rfl]
      simp [List.getD, hi]
    · rw [if_neg e, hf i (by omega)]
      simp only [List.getD_eq_getElem?_getD]
      rw [List.getElem?_set_ne (fun h => e h.symm)]) hB
  rw [List.length_set, hlen] at this
  exact this
theorem size_bytesB (w : World) : (sizeOf (Tryz.prog.elem 22)).run Tryz.prog w = .ok 1 w := by kernel_rfl
set_option maxRecDepth 100000 in
theorem run_head (a : Option Addr) (len cap k : Nat) (h2 : k ≤ cap) (w : World) :
    (Instr.slice 22 (.slice a len cap) none (some (.int .i64 k)) none).run Tryz.prog w = .ok (.slice a k cap) w := by
  have h := run_slice_h (P := Tryz.prog) w 22 a len cap Tryz.underlying22 .i64 k (by omega) (by omega)
  rw [h, size_bytesB]
  unfold sliced
  cases a with
  | none => simp
  | some ad => obtain ⟨b, off, sp⟩ := ad; cases sp <;> simp [Addr.add]
theorem byte_wf (x : Int) : (Lit.int .u8 (IntKind.u8.wrap x)).wf = true := by
  simp [Lit.wf, IntKind.min, IntKind.max, IntKind.signed, IntKind.bits, IntKind.wrap]; omega
theorem set_wf {zs : List Int} (hz : ∀ x ∈ zs, (Lit.int .u8 x).wf = true) (j : Nat) (x : Int) (hx : (Lit.int .u8 x).wf = true) : ∀ y ∈ zs.set j x, (Lit.int .u8 y).wf = true := by
  intro y hy
  rcases List.mem_or_eq_of_mem_set hy with h | h
  · exact hz y h
  · rw [h]; exact hx

set_option maxRecDepth 100000 in
set_option maxHeartbeats 8000000 in
theorem l1Bent_c (P : Nat) (zs : List Int) (a : Option Addr) (cap : Nat) (w : World) (hC : Cur w P) (hr : Rd w .u8 a zs) (hz : ∀ x ∈ zs, (Lit.int .u8 x).wf = true) (hlen : zs.length ≤ 10000) :
    Calls Tryz.prog 60 #[.pointer (some ⟨P, 0, none⟩), .slice a zs.length cap] w fun e w' => ∃ v : Value, e = .returned v ∧ ∃ ys : List Int, ys.length ≤ zs.length + 1 ∧ (∀ x ∈ ys, (Lit.int .u8 x).wf = true) ∧ w'.ownsRow w.heap.size 5 1 v ys.length (ys.map (Value.int .u8)) ∧ Cur w' P ∧ w.grownBy w' (some P) := by
  obtain ⟨i0, hi, hz0, hsz, hb⟩ := info_parts (show (Tryz.prog.info? 5).map (fun i => (i.zero, i.size, i.bytes)) = some (some (.int .u8 0), 1, 1) by kernel_rfl)
  have HI := Lib.hid hi; clear hi
  have HC := Lib.hid hC; clear hC
  have HZ := Lib.hid hz; clear hz
  have hm := World.ownsRow_made (base := w.heap.size) (e := 5) (size := 1) w #[] 0 (Nat.le_refl _) (by simp [maxLen]) rfl
  go_enter Tryz.func60, Tryz.ntmps60
  go_wp2_with (at_builtin; go_must (refine wpList_append_rd _ rfl (.tmp 7) (.tmp 8) 22 rfl w.heap.size 5 i0 (.int .u8 0) 1 Tryz.underlying22 HI.out hz0 hsz hb rfl _ _ _ rfl hm .u8 _ _ _ zs rfl rfl (rd_alloc hr _) (by unfold maxLen; omega) (by omega) (by simp) ?_); intro v' w1 hown hg)
  have O1 := Lib.hid (show w1.ownsRow w.heap.size 5 1 v' zs.length (zs.map (Value.int .u8)) by simpa using hown)
  have b1 : Below w.heap.size w w1 := made_grown hg
  have C1 := Lib.hid (HC.out.below b1)
  have G1 := Lib.hid (gr_below (P := P) b1)
  clear hown hg b1 hm hr
  have HP := Lib.hid HC.out.lt
  obtain ⟨a1, cap1, rfl, -, -, lc, -⟩ := own_rd O1.out
  refine (l1Below_c P _ _ C1.out (by omega)).mono ?_
  rintro _ w2 ⟨k, rfl, k0, k1, -, -, C', G'⟩
  have O2 := Lib.hid (own_gr O1.out G' HP.out)
  have C2 := Lib.hid C'
  have G2 := Lib.hid (gr_trans G1.out G')
  clear C' G' O1 C1 G1
  replace k1 := k1 (by omega)
  have hk : k = 0 ∨ k = 1 ∨ k = 2 ∨ k = 3 ∨ (4 ≤ k ∧ k ≤ 6) := by omega
  clear k0 k1
  rcases hk with rfl | rfl | rfl | rfl | ⟨k0, k1⟩
  · by_cases hn : 0 < zs.length
    · rcases own_row O2.out with ⟨c, -, h0, -⟩ | ⟨g, cap', f, hv, hB, hrow, hnc, hcm⟩
      · omega
      injection hv with e1 e2 e3
      subst e1 e3
      have hgP : g ≠ P := by have := HP.out; omega
      have HGP := Lib.hid hgP; clear hgP hrow hcm
      go_wp2_with fail
      refine (l1Below_c P _ _ C2.out (by omega)).mono ?_
      rintro _ w3 ⟨j, rfl, j0, j1, -, -, C', G'⟩
      have O3 := Lib.hid (own_gr O2.out G' HP.out)
      have C3 := Lib.hid C'
      have G3 := Lib.hid (gr_trans G2.out G')
      clear C' G' O2 C2 G2
      replace j1 := j1 (by omega)
      go_wp2_with fail
      refine (l1Below_c P _ _ C3.out (by omega)).mono ?_
      rintro _ w4 ⟨x, rfl, x0, x1, -, -, C', G'⟩
      have O4 := Lib.hid (own_gr O3.out G' HP.out)
      have C4 := Lib.hid C'
      have G4 := Lib.hid (gr_trans G3.out G')
      clear C' G' O3 C3 G3
      replace x1 := x1 (by omega)
      obtain ⟨J, rfl⟩ : ∃ J : Nat, j = J := ⟨j.toNat, by omega⟩
      have hJ : J < zs.length := by omega
      have hc := O4.out.cells (g := g) rfl J (.int .u8 (zs.getD J 0)) (by rw [List.getElem?_map]; simp [List.getD, List.getElem?_eq_getElem hJ])
      rw [Addr.add_lit, Nat.zero_add] at hc
      have hfz : w4.frozen? ⟨g, J, none⟩ = false := by
        rcases own_row O4.out with ⟨c, hv, -, -⟩ | ⟨g', cap', f', hv, hB', hrow', -, -⟩
        · cases hv
        · injection hv with e1 e2 e3
          injection e1 with e1
          injection e1 with e1
          subst e1
          exact hrow'.frozen J
      generalize zs.getD J 0 = z at *
      have O5 := Lib.hid (own_set O4.out hJ x)
      have C5 := Lib.hid (C4.out.grown (gr_set (P := g) J (.int .u8 x)) (fun k hk => by cases hk; have := HP.out; omega))
      have G5 := Lib.hid (gr_new G4.out (gr_set (P := g) J (.int .u8 x)) (fun k hk => by cases hk; omega))
      clear O4 C4 G4
      go_wp2_with fail
      go_ret
      exact ⟨_, rfl, zs.set J x, by rw [List.length_set]; omega, set_wf HZ.out J x (by simp [Lit.wf, IntKind.min, IntKind.max, IntKind.signed, IntKind.bits]; omega), by rw [List.length_set]; exact O5.out, C5.out, G5.out⟩
    · go_wp2_with fail
      go_ret
      exact ⟨_, rfl, zs, by omega, HZ.out, O2.out, C2.out, G2.out⟩
  · go_wp2_with fail
    refine (l1Below_c P _ _ C2.out (by omega)).mono ?_
    rintro _ w3 ⟨j, rfl, j0, j1, -, -, C', G'⟩
    have O3 := Lib.hid (own_gr O2.out G' HP.out)
    have C3 := Lib.hid C'
    have G3 := Lib.hid (gr_trans G2.out G')
    clear C' G' O2 C2 G2
    replace j1 := j1 (by omega)
    obtain ⟨J, rfl⟩ : ∃ J : Nat, j = J := ⟨j.toNat, by omega⟩
    have hJ : J ≤ zs.length := by omega
    have hcut := fun w => run_head a1 zs.length cap1 J (by omega) w
    go_wp2_with fail
    go_ret
    have hl : (zs.take J).length = J := by rw [List.length_take]; omega
    exact ⟨_, rfl, zs.take J, by rw [hl]; omega, fun x hx => HZ.out x (List.mem_of_mem_take hx), by rw [hl, List.map_take]; exact own_take O3.out hJ, C3.out, G3.out⟩
  · go_wp2_with fail
    refine (l1Int_c P [0, 32, 93, 255] w2.heap.size 4 _ (C2.out.alloc _) (rd_laid w2 _ _) (Nat.ne_of_gt C2.out.lt) (by simp) (by simp) (by simp)).mono ?_
    rintro _ w3 ⟨x, rfl, hx, C', G'⟩
    have O3 := Lib.hid (own_gr (own_kept (below1 _ _) O2.out) G' HP.out)
    have C3 := Lib.hid C'
    have G3 := Lib.hid (gr_trans (gr_on G2.out (below1 _ _)) G')
    clear C' G' O2 C2 G2
    have hx2 : 0 ≤ x ∧ x ≤ 255 := by simp at hx; omega
    clear hx
    obtain ⟨x0, x1⟩ := hx2
    go_wp2_with (at_builtin; go_must (refine wpList_append_own _ rfl (.tmp 37) (.tmp 42) 22 rfl w.heap.size 5 i0 (.int .u8 0) 1 1 Tryz.underlying22 HI.out hz0 hsz hb rfl (by decide) _ _ _ rfl (by exact O3.out.alloc _) ⟨w3.heap.size, 0, none⟩ 1 1 [.int .u8 x] rfl rfl (by exact World.news_of_block (heap_alloc_new _ _)) (by simp; exact rfl) (by unfold maxLen; omega) (by omega) (by have := G3.out.size; simp; omega) ?_); intro v' w4 hown2 hg2 q1; clear q1)
    have hg3 : (w3.alloc (.cells #[.int .u8 x] 5)).grownBy w4 (Value.slice a1 zs.length cap1).ownBlock := hg2
    have H2 := Lib.hid hown2; clear hown2
    have H3 := Lib.hid hg3; clear hg3 hg2
    have hro : ∀ k, (Value.slice a1 zs.length cap1).ownBlock = some k → w.heap.size ≤ k := fun k hk => (O3.out.lt k hk).1
    have C4 := Lib.hid ((C3.out.alloc (.cells #[.int .u8 x] 5)).grown H3.out (fun k hk => Nat.lt_of_lt_of_le HP.out (hro k hk)))
    have G4 := Lib.hid (gr_new (gr_on G3.out (below1 _ _)) H3.out hro)
    clear hro
    go_wp2_with fail
    go_ret
    refine ⟨_, rfl, zs ++ [x], by simp, ?_, by rw [List.map_append, List.length_append]; exact H2.out, C4.out, G4.out⟩
    intro y hy
    rcases List.mem_append.1 hy with h | h
    · exact HZ.out y h
    · simp at h; subst h; simp [Lit.wf, IntKind.min, IntKind.max, IntKind.signed, IntKind.bits]; omega
  · by_cases hn : 0 < zs.length
    · rcases own_row O2.out with ⟨c, -, h0, -⟩ | ⟨g, cap', f, hv, hB, hrow, hnc, hcm⟩
      · omega
      injection hv with e1 e2 e3
      subst e1 e3
      have hgP : g ≠ P := by have := HP.out; omega
      have HGP := Lib.hid hgP; clear hgP hrow hcm
      go_wp2_with fail
      refine (l1Below_c P _ _ C2.out (by omega)).mono ?_
      rintro _ w3 ⟨j, rfl, j0, j1, -, -, C', G'⟩
      have O3 := Lib.hid (own_gr O2.out G' HP.out)
      have C3 := Lib.hid C'
      have G3 := Lib.hid (gr_trans G2.out G')
      clear C' G' O2 C2 G2
      replace j1 := j1 (by omega)
      obtain ⟨J, rfl⟩ : ∃ J : Nat, j = J := ⟨j.toNat, by omega⟩
      have hJ : J < zs.length := by omega
      have hcF : Hid (∀ wx : World, wx.ownsRow w.heap.size 5 1 (.slice (some ⟨g, 0, none⟩) zs.length cap1) zs.length (zs.map (Value.int .u8)) → wx.cell? ⟨g, J, none⟩ = some (.int .u8 (zs.getD J 0)) ∧ wx.frozen? ⟨g, J, none⟩ = false) := by
        intro wx ho
        refine ⟨?_, ?_⟩
        · have hc := ho.cells (g := g) rfl J (.int .u8 (zs.getD J 0)) (by rw [List.getElem?_map]; simp [List.getD, List.getElem?_eq_getElem hJ])
          rwa [Addr.add_lit, Nat.zero_add] at hc
        · rcases own_row ho with ⟨c, hv, -, -⟩ | ⟨g', cap', f', hv, hB', hrow', -, -⟩
          · cases hv
          · injection hv with e1 e2 e3
            injection e1 with e1
            injection e1 with e1
            subst e1
            exact hrow'.frozen J
      obtain ⟨hc3, hf3⟩ := hcF.out _ O3.out
      obtain ⟨z, hz1⟩ : ∃ z, z = zs.getD J 0 := ⟨_, rfl⟩
      rw [← hz1] at hc3 hcF
      clear hz1
      have hCB := Lib.hid (fun wx (h : Cur wx P) => l1Below_c P 8 wx h (by omega))
      go_wp2_with fail
      go_region_with
        (first
         | (go_at_call 35; refine (hCB.out _ (by exact C3.out)).mono ?_; rintro _ w4 ⟨x, rfl, x0, x1, q1, q2, C', G''⟩; have G' : w3.grownBy w4 (some P) := ⟨G''.os, G''.tape, G''.output, G''.size, G''.block⟩; have O4 := Lib.hid (own_gr O3.out G' HP.out); have C4 := Lib.hid C'; have G4 := Lib.hid (gr_trans G3.out G'); obtain ⟨hc4, hf4⟩ := hcF.out _ O4.out; replace x1 := x1 (by omega); clear C' G' G'' q1 q2))
      all_goals
        go_wp2_with fail
        go_ret
        exact ⟨_, rfl, zs.set J _, by rw [List.length_set]; omega, set_wf HZ.out J _ (byte_wf _), by rw [List.length_set]; exact own_set O4.out hJ _, C4.out.grown (gr_set (P := g) J _) (fun k hk => by cases hk; have := HP.out; omega), gr_new G4.out (gr_set (P := g) J _) (fun k hk => by cases hk; omega)⟩
    · go_wp2_with fail
      go_ret
      exact ⟨_, rfl, zs, by omega, HZ.out, O2.out, C2.out, G2.out⟩
  · have n0 : (k == 0) = false := by simp; omega
    have n1 : (k == 1) = false := by simp; omega
    have n2 : (k == 2) = false := by simp; omega
    have n3 : (k == 3) = false := by simp; omega
    go_wp2_with fail
    go_ret
    exact ⟨_, rfl, zs, by omega, HZ.out, O2.out, C2.out, G2.out⟩
end Go.Proofs.YtilmhemcpgiikaaGreatDoor
