/- Vals: texts of the proof (CCur). -/
import Derived.Test.YtilmhemcpgiikaaGreatDoorSVals3
import Derived.Deep.AppendLies
import Derived.Deep.RegionLaw
import Derived.Outline
/- The cursor of a draw: what each of its functions answers, and that nothing but the cursor turns. -/
namespace Go.Proofs.YtilmhemcpgiikaaGreatDoor
open Go.Deep Go.ChangeShapes Go.WideShapes Go.ChangeAt Go.RowKit

theorem and255 (n : Int) : bits .and .i64 n 255 = n % 256 := by
  have h : (BitVec.ofInt 64 255).toNat = 2 ^ 8 - 1 := by decide
  have key : (BitVec.ofInt 64 n &&& BitVec.ofInt 64 255).toNat = (n % ((2 ^ 64 : Nat) : Int)).toNat % 2 ^ 8 := by
    rw [BitVec.toNat_and, BitVec.toNat_ofInt, h, Nat.and_two_pow_sub_one_eq_mod]
  show IntKind.i64.wrap ((BitVec.ofInt 64 n &&& BitVec.ofInt 64 255).toNat : Nat) = n % 256
  rw [key, IntKind.wrap_i64]
  omega

theorem and30 (n : Int) : bits .and .i64 n 1073741823 = n % 1073741824 := by
  have h : (BitVec.ofInt 64 1073741823).toNat = 2 ^ 30 - 1 := by decide
  have key : (BitVec.ofInt 64 n &&& BitVec.ofInt 64 1073741823).toNat = (n % ((2 ^ 64 : Nat) : Int)).toNat % 2 ^ 30 := by
    rw [BitVec.toNat_and, BitVec.toNat_ofInt, h, Nat.and_two_pow_sub_one_eq_mod]
  show IntKind.i64.wrap ((BitVec.ofInt 64 n &&& BitVec.ofInt 64 1073741823).toNat : Nat) = n % 1073741824
  rw [key, IntKind.wrap_i64]
  omega
theorem and30_bd (n : Int) : 0 ≤ bits .and .i64 n 1073741823 ∧ bits .and .i64 n 1073741823 ≤ 1073741823 := by rw [and30]; omega
theorem and255_bd (n : Int) : 0 ≤ bits .and .i64 n 255 ∧ bits .and .i64 n 255 ≤ 255 := by rw [and255]; omega

/-- The cursor in block P: the code's bytes, a place, a number. -/
def Cur (w : World) (P : Nat) : Prop := ∃ (a : Option Addr) (zs : List Int) (cap i : Nat) (h : Int),
  i ≤ zs.length ∧ zs.length ≤ 1048576 ∧ zs.length ≤ cap ∧ (∀ n ∈ zs, (Lit.int .u8 n).wf = true) ∧ (-9223372036854775808 ≤ h ∧ h ≤ 9223372036854775807) ∧
  w.cell? ⟨P, 0, none⟩ = some (.slice a zs.length cap) ∧ w.cell? ⟨P, 1, none⟩ = some (.int .i64 i) ∧ w.cell? ⟨P, 2, none⟩ = some (.int .i64 h) ∧
  (∀ j, w.frozen? ⟨P, j, none⟩ = false) ∧ P < w.heap.size ∧
  (zs = [] ∨ ∃ b off, a = some ⟨b, off, none⟩ ∧ b < P ∧ ∀ j, j < zs.length → w.cell? ⟨b, off + j, none⟩ = some (.int .u8 (zs.getD j 0)))

section
variable {w w1 w2 : World} {P : Nat}
theorem gr_refl : w.grownBy w (some P) := ⟨rfl, rfl, rfl, Nat.le_refl _, fun _ _ _ => rfl⟩
theorem gr_trans (h : w.grownBy w1 (some P)) (g : w1.grownBy w2 (some P)) : w.grownBy w2 (some P) :=
  ⟨g.os.trans h.os, g.tape.trans h.tape, g.output.trans h.output, Nat.le_trans h.size g.size, fun k hk hne => (g.block k (Nat.lt_of_lt_of_le hk h.size) hne).trans (h.block k hk hne)⟩
/-- Beyond what was there, whatever row has grown. -/
theorem gr_new (h : w.grownBy w1 (some P)) {row : Option Nat} (g : w1.grownBy w2 row) (hr : ∀ k, row = some k → w.heap.size ≤ k) : w.grownBy w2 (some P) :=
  ⟨g.os.trans h.os, g.tape.trans h.tape, g.output.trans h.output, Nat.le_trans h.size g.size, fun k hk hne => (g.block k (Nat.lt_of_lt_of_le hk h.size) (fun e => by have := hr k e.symm; omega)).trans (h.block k hk hne)⟩
theorem gr_below (g : Below w.heap.size w w1) : w.grownBy w1 (some P) := ⟨g.os, g.tape, g.output, g.size, fun k hk _ => g.block k hk⟩
theorem gr_on (h : w.grownBy w1 (some P)) (g : Below w1.heap.size w1 w2) : w.grownBy w2 (some P) := gr_trans h (gr_below g)
theorem gr_set (j : Nat) (v : Value) : w.grownBy (w.setCell ⟨P, j, none⟩ v) (some P) :=
  ⟨rfl, rfl, rfl, by simp [World.setCell], fun k _ hne => Below.heap_setCell _ _ _ _ (fun e => hne (by rw [e]))⟩
theorem gr_drewN (h : w.grownBy w1 (some P)) (q : Nat) : w.grownBy (w1.drewN q) (some P) := ⟨h.os, h.tape, h.output, h.size, h.block⟩
theorem below_gr {W : World} (h : Below W.heap.size W w) (g : w.grownBy w1 (some P)) (hP : W.heap.size ≤ P) : Below W.heap.size W w1 :=
  h.grown g h.size (fun k hk => by cases hk; exact hP)
theorem own_gr {B : Nat} {T : TypeId} {v : Value} {n : Nat} {xs : List Value} (h : w.ownsRow B T 1 v n xs) (g : w.grownBy w1 (some P)) (hP : P < B) : w1.ownsRow B T 1 v n xs :=
  h.kept g (by
    cases hv : v.ownBlock with
    | none => exact .inl rfl
    | some k => right; intro e; have := (h.lt k hv).1; injection e with e; omega)
theorem cell_setO {a b : Addr} {u v : Value} (h : w.cell? b = some u) (hne : a ≠ b) : (w.setCell a v).cell? b = some u := by
  rw [World.cell?_setCell_other _ _ _ _ hne]; exact h
/-- The cursor stays where its own block and the code's are as they were. -/
theorem Cur.kept (h : Cur w P) (hs : w.heap.size ≤ w1.heap.size) (hb : ∀ k, k ≤ P → k < w.heap.size → w1.heap[k]? = w.heap[k]?) : Cur w1 P := by
  obtain ⟨a, zs, cap, i, n, hi, hlen, hcap, hz, hh, c0, c1, c2, fz, hP, hrd⟩ := h
  have hc : ∀ j, w1.cell? ⟨P, j, none⟩ = w.cell? ⟨P, j, none⟩ := fun j => World.cell?_of_block (hb P (Nat.le_refl _) hP)
  refine ⟨a, zs, cap, i, n, hi, hlen, hcap, hz, hh, (hc 0).trans c0, (hc 1).trans c1, (hc 2).trans c2, fun j => (World.frozen?_of_block (hb P (Nat.le_refl _) hP)).trans (fz j), Nat.lt_of_lt_of_le hP hs, ?_⟩
  rcases hrd with h0 | ⟨b, off, ha, hne, hcb⟩
  · exact .inl h0
  · exact .inr ⟨b, off, ha, hne, fun j hj => (World.cell?_of_block (hb b (Nat.le_of_lt hne) (Nat.lt_trans hne hP))).trans (hcb j hj)⟩
theorem Cur.below (h : Cur w P) (g : Below w.heap.size w w1) : Cur w1 P := h.kept g.size (fun k _ hk => g.block k hk)
/-- A row of a later time grows: the cursor and the code lie elsewhere. -/
theorem Cur.grown (h : Cur w P) {row : Option Nat} (g : w.grownBy w1 row) (hr : ∀ k, row = some k → P < k) : Cur w1 P := h.kept g.size (fun k hk hlt => g.block k hlt (fun e => by have := hr k e.symm; omega))
theorem Cur.alloc (h : Cur w P) (o : Obj) : Cur (w.alloc o) P := h.below (below1 w o)
theorem Cur.lt (h : Cur w P) : P < w.heap.size := by obtain ⟨a, zs, cap, i, n, hi, hlen, hcap, hz, hh, c0, c1, c2, fz, hP, hrd⟩ := h; exact hP
end

set_option maxRecDepth 100000 in
set_option maxHeartbeats 1000000 in
theorem l1New_c (zs : List Int) (a : Option Addr) (cap : Nat) (w : World) (hr : Rd w .u8 a zs) (hw : ∀ n ∈ zs, (Lit.int .u8 n).wf = true) (hlen : zs.length ≤ 1048576) (hcap : zs.length ≤ cap) :
    Calls Tryz.prog 32 #[.slice a zs.length cap] w fun e w' => ∃ P, e = .returned (.pointer (some ⟨P, 0, none⟩)) ∧ w.heap.size ≤ P ∧ Cur w' P ∧ Below w.heap.size w w' := by
  have HR := Lib.hid hr; clear hr
  have HW := Lib.hid hw; clear hw
  go_enter Tryz.func32, Tryz.ntmps32
  go_wp2_with fail
  go_loopw [3, 4] (fun h i wr => ∃ (j : Nat) (H : Int), j ≤ zs.length ∧ h = .int .i64 H ∧ i = .int .i64 j ∧ 0 ≤ H ∧ H ≤ 1073741823 ∧ wr = w) (fun _ i _ => zs.length - (intOf i).toNat)
  case atStart => exact ⟨0, _, by omega, rfl, rfl, by omega, by omega, rfl⟩
  case round =>
    obtain ⟨j, H, hj, rfl, rfl, h0, h1, rfl⟩ := hrel
    have fin : Hid (Cur (wr.alloc (.cells #[.slice a zs.length cap, .int .i64 0, .int .i64 H] 67)) wr.heap.size) := by
      refine ⟨a, zs, cap, 0, H, Nat.zero_le _, hlen, hcap, HW.out, ⟨by omega, by omega⟩, ?_, ?_, ?_, fun j => by rw [frozen?_alloc_cells]; simp [World.frozen?], by rw [World.size_alloc]; omega, ?_⟩
      · rw [World.cell?_alloc_at _ _ _ _ rfl]; rfl
      · rw [World.cell?_alloc_at _ _ _ _ rfl]; rfl
      · rw [World.cell?_alloc_at _ _ _ _ rfl]; rfl
      · rcases HR.out with hn | ⟨b, off, ha, hblt, hc⟩
        · exact .inl hn
        · exact .inr ⟨b, off, ha, hblt, fun j hj => ((below1 wr _).cell (p := ⟨b, off + j, none⟩) hblt).trans (hc j hj)⟩
    by_cases hjl : j < zs.length
    · by_cases h4 : j < 4000
      · clear fin
        rcases HR.out with hn | ⟨b, off, rfl, hblt, hc⟩
        · rw [hn] at hjl; simp at hjl
        have hc0 := hc j hjl
        clear hc
        generalize zs.getD j 0 = z at *
        go_wp2_with fail
        go_roundw
        case rel => exact ⟨j + 1, _, by omega, rfl, by go_num, (and30_bd _).1, (and30_bd _).2, trivial⟩
        case measure => simp [intOf]; omega
      · go_wp2_with fail
        go_ret
        exact ⟨_, rfl, Nat.le_refl _, fin.out, below1 _ _⟩
    · obtain rfl : j = zs.length := by omega
      go_wp2_with fail
      go_ret
      exact ⟨_, rfl, Nat.le_refl _, fin.out, below1 _ _⟩
theorem Cur.mk' {a : Option Addr} {zs : List Int} {cap i : Nat} {h : Int} (hi : i ≤ zs.length) (hlen : zs.length ≤ 1048576) (hcap : zs.length ≤ cap) (hz : ∀ n ∈ zs, (Lit.int .u8 n).wf = true) (hh : -9223372036854775808 ≤ h ∧ h ≤ 9223372036854775807)
    {w w' : World} {P : Nat} (hg : w.grownBy w' (some P)) (c0 : w'.cell? ⟨P, 0, none⟩ = some (.slice a zs.length cap)) (c1 : w'.cell? ⟨P, 1, none⟩ = some (.int .i64 i)) (c2 : w'.cell? ⟨P, 2, none⟩ = some (.int .i64 h))
    (fz : ∀ j, w'.frozen? ⟨P, j, none⟩ = false) (hP : P < w.heap.size)
    (hr : zs = [] ∨ ∃ b off, a = some ⟨b, off, none⟩ ∧ b < P ∧ ∀ j, j < zs.length → w.cell? ⟨b, off + j, none⟩ = some (.int .u8 (zs.getD j 0))) : Cur w' P := by
  refine ⟨a, zs, cap, i, h, hi, hlen, hcap, hz, hh, c0, c1, c2, fz, Nat.lt_of_lt_of_le hP hg.size, ?_⟩
  rcases hr with h0 | ⟨b, off, ha, hne, hcb⟩
  · exact .inl h0
  · exact .inr ⟨b, off, ha, hne, fun j hj => hg.cell (hcb j hj) (fun e => Nat.ne_of_lt hne (by injection e))⟩
set_option maxHeartbeats 2000000 in
theorem l1Byte_c (P : Nat) (w : World) (hC : Cur w P) :
    Calls Tryz.prog 57 #[.pointer (some ⟨P, 0, none⟩)] w fun e w' => ∃ x : Int, e = .returned (.int .i64 x) ∧ 0 ≤ x ∧ x ≤ 255 ∧ Cur w' P ∧ w.grownBy w' (some P) := by
  obtain ⟨a, zs, cap, i, h, hi, hlen, hcap, hz, hh, c0, c1, c2, fz, hP, hrd⟩ := hC
  have HZ := Lib.hid hz; clear hz
  have HR := Lib.hid hrd; clear hrd
  have HH := Lib.hid hh; clear hh
  have hb : ∀ n : Int, -9223372036854775808 ≤ wrap64 n ∧ wrap64 n ≤ 9223372036854775807 := fun n => by unfold wrap64; omega
  have HB := Lib.hid hb; clear hb
  have HP := Lib.hid hP; clear hP
  have HFZ := Lib.hid fz
  have HA := Lib.hid and255_bd
  by_cases hil : i < zs.length
  · rcases HR.out with hn | ⟨b, off, rfl, hlt, hc⟩
    · rw [hn] at hil; simp at hil
    have hc0 := hc i hil
    have hcs : ∀ v : Value, (w.setCell ⟨P, 2, none⟩ v).cell? ⟨b, off + i, none⟩ = some (.int .u8 (zs.getD i 0)) := fun v => cell_setO hc0 (fun e => Nat.ne_of_gt hlt (by injection e))
    clear hc hc0
    clear hlt
    go_enter Tryz.func57, Tryz.ntmps57
    go_wp2_with fail
    generalize hX : wrap64 (wrap64 (h * 6364136223846793005) + 1442695040888963407) = X
    have HX : Hid (-9223372036854775808 ≤ X ∧ X ≤ 9223372036854775807) := by rw [← hX]; exact HB.out _
    clear hX
    go_quiet (fail)
    go_wp2_with fail
    go_quiet (fail)
    go_wp2_with fail
    go_quiet (fail)
    go_wp2_with fail
    go_ret
    refine ⟨_, rfl, (HA.out _).1, (HA.out _).2, ?_, ?_⟩
    · refine Cur.mk' (i := i + 1) (h := X) (by omega) hlen hcap HZ.out HX.out (gr_trans (gr_drewN (gr_set 2 (.int .i64 X)) _) (gr_set 1 _)) ?_ ?_ ?_ (fun j => by rw [World.frozen?_setCell]; exact (World.frozen?_setCell ..).trans (HFZ.out j)) HP.out HR.out
      · exact cell_setO (cell_setO c0 (by simp)) (by simp)
      · exact World.cell?_setCell_same _ _ _ (cell_setO c1 (by simp))
      · exact cell_setO (World.cell?_setCell_same _ _ _ c2) (by simp)
    · exact gr_trans (gr_drewN (gr_set 2 (.int .i64 X)) _) (gr_set 1 _)
  · obtain rfl : i = zs.length := by omega
    go_enter Tryz.func57, Tryz.ntmps57
    go_wp2_with fail
    generalize hX : wrap64 (wrap64 (h * 6364136223846793005) + 1442695040888963407) = X
    have HX : Hid (-9223372036854775808 ≤ X ∧ X ≤ 9223372036854775807) := by rw [← hX]; exact HB.out _
    clear hX
    go_quiet (fail)
    go_wp2_with fail
    go_quiet (fail)
    go_wp2_with fail
    go_ret
    refine ⟨_, rfl, (HA.out _).1, (HA.out _).2, ?_, ?_⟩
    · refine Cur.mk' (i := zs.length) (h := X) (Nat.le_refl _) hlen hcap HZ.out HX.out (gr_drewN (gr_drewN (gr_set 2 (.int .i64 X)) _) _) ?_ ?_ ?_ (fun j => (World.frozen?_setCell ..).trans (HFZ.out j)) HP.out HR.out
      · exact cell_setO c0 (by simp)
      · exact cell_setO c1 (by simp)
      · exact World.cell?_setCell_same _ _ _ c2
    · exact gr_drewN (gr_drewN (gr_set 2 (.int .i64 X)) _) _
end Go.Proofs.YtilmhemcpgiikaaGreatDoor
