/- Orders: texts of the proof, joined. -/
import Derived.Test.YtilmhemcpgiikaaDoorCStr
import Derived.Deep.AppendLies
import Derived.Deep.RegionLaw
import Derived.Outline
import Derived.Test.YtilmhemcpgiikaaDoorCTwo
import Derived.Test.YtilmhemcpgiikaaDoorVOwn
import Derived.Test.YtilmhemcpgiikaaDoorVSz
import Derived.Test.YtilmhemcpgiikaaDoorVTo
import Derived.Test.YtilmhemcpgiikaaDoorVCount
import Derived.Test.YtilmhemcpgiikaaDoorAppend
import Derived.Lib.RuneBytes
import Derived.Lib.DecodeN
import Derived.Deep.DeepCutAuto
import Derived.Lib.TrimUEq
import Derived.Lib.ValidLaws
import Derived.Test.YtilmhemcpgiikaaDoorFrameX
import Derived.Test.YtilmhemcpgiikaaDoorShelf
/- The cursor of a draw: what each of its functions answers, and that nothing but the cursor turns. -/
namespace Go.Proofs.YtilmhemcpgiikaaDoor
open Go.Deep Go.ChangeShapes Go.WideShapes Go.ChangeAt Go.RowKit

theorem and255 (n : Int) : bits .and .i64 n 255 = n % 256 := by
  have h : (BitVec.ofInt 64 255).toNat = 2 ^ 8 - 1 := by decide
  have key : (BitVec.ofInt 64 n &&& BitVec.ofInt 64 255).toNat = (n % ((2 ^ 64 : Nat) : Int)).toNat % 2 ^ 8 := by
    rw [BitVec.toNat_and, BitVec.toNat_ofInt, h, Nat.and_two_pow_sub_one_eq_mod]
  show IntKind.i64.wrap ((BitVec.ofInt 64 n &&& BitVec.ofInt 64 255).toNat : Nat) = n % 256
  rw [key, IntKind.wrap_i64]
  omega

theorem and30 (n : Int) : bits .and .i64 n 1073741823 = n % 1073741824 := by
  have h : (BitVec.ofInt 64 1073741823).toNat = 2 ^ 30 - 1 := by decide
  have key : (BitVec.ofInt 64 n &&& BitVec.ofInt 64 1073741823).toNat = (n % ((2 ^ 64 : Nat) : Int)).toNat % 2 ^ 30 := by
    rw [BitVec.toNat_and, BitVec.toNat_ofInt, h, Nat.and_two_pow_sub_one_eq_mod]
  show IntKind.i64.wrap ((BitVec.ofInt 64 n &&& BitVec.ofInt 64 1073741823).toNat : Nat) = n % 1073741824
  rw [key, IntKind.wrap_i64]
  omega
theorem and30_bd (n : Int) : 0 ≤ bits .and .i64 n 1073741823 ∧ bits .and .i64 n 1073741823 ≤ 1073741823 := by rw [and30]; omega
theorem and255_bd (n : Int) : 0 ≤ bits .and .i64 n 255 ∧ bits .and .i64 n 255 ≤ 255 := by rw [and255]; omega

/-- The cursor in block P: the code's bytes, a place, a number. -/
def Cur (w : World) (P : Nat) : Prop := ∃ (a : Option Addr) (zs : List Int) (cap i : Nat) (h : Int),
  i ≤ zs.length ∧ zs.length ≤ 1048576 ∧ zs.length ≤ cap ∧ (∀ n ∈ zs, (Lit.int .u8 n).wf = true) ∧ (-9223372036854775808 ≤ h ∧ h ≤ 9223372036854775807) ∧
  w.cell? ⟨P, 0, none⟩ = some (.slice a zs.length cap) ∧ w.cell? ⟨P, 1, none⟩ = some (.int .i64 i) ∧ w.cell? ⟨P, 2, none⟩ = some (.int .i64 h) ∧
  (∀ j, w.frozen? ⟨P, j, none⟩ = false) ∧ P < w.heap.size ∧
  (zs = [] ∨ ∃ b off, a = some ⟨b, off, none⟩ ∧ b < P ∧ ∀ j, j < zs.length → w.cell? ⟨b, off + j, none⟩ = some (.int .u8 (zs.getD j 0)))

section
variable {w w1 w2 : World} {P : Nat}
theorem gr_refl : w.grownBy w (some P) := ⟨rfl, rfl, rfl, Nat.le_refl _, fun _ _ _ => rfl⟩
theorem gr_trans (h : w.grownBy w1 (some P)) (g : w1.grownBy w2 (some P)) : w.grownBy w2 (some P) :=
  ⟨g.os.trans h.os, g.tape.trans h.tape, g.output.trans h.output, Nat.le_trans h.size g.size, fun k hk hne => (g.block k (Nat.lt_of_lt_of_le hk h.size) hne).trans (h.block k hk hne)⟩
/-- Beyond what was there, whatever row has grown. -/
theorem gr_new (h : w.grownBy w1 (some P)) {row : Option Nat} (g : w1.grownBy w2 row) (hr : ∀ k, row = some k → w.heap.size ≤ k) : w.grownBy w2 (some P) :=
  ⟨g.os.trans h.os, g.tape.trans h.tape, g.output.trans h.output, Nat.le_trans h.size g.size, fun k hk hne => (g.block k (Nat.lt_of_lt_of_le hk h.size) (fun e => by have := hr k e.symm; omega)).trans (h.block k hk hne)⟩
theorem gr_below (g : Below w.heap.size w w1) : w.grownBy w1 (some P) := ⟨g.os, g.tape, g.output, g.size, fun k hk _ => g.block k hk⟩
theorem gr_on (h : w.grownBy w1 (some P)) (g : Below w1.heap.size w1 w2) : w.grownBy w2 (some P) := gr_trans h (gr_below g)
theorem gr_set (j : Nat) (v : Value) : w.grownBy (w.setCell ⟨P, j, none⟩ v) (some P) :=
  ⟨rfl, rfl, rfl, by simp [World.setCell], fun k _ hne => Below.heap_setCell _ _ _ _ (fun e => hne (by rw [e]))⟩
theorem gr_drewN (h : w.grownBy w1 (some P)) (q : Nat) : w.grownBy (w1.drewN q) (some P) := ⟨h.os, h.tape, h.output, h.size, h.block⟩
theorem below_gr {W : World} (h : Below W.heap.size W w) (g : w.grownBy w1 (some P)) (hP : W.heap.size ≤ P) : Below W.heap.size W w1 :=
  h.grown g h.size (fun k hk => by cases hk; exact hP)
theorem own_gr {B : Nat} {T : TypeId} {v : Value} {n : Nat} {xs : List Value} (h : w.ownsRow B T 1 v n xs) (g : w.grownBy w1 (some P)) (hP : P < B) : w1.ownsRow B T 1 v n xs :=
  h.kept g (by
    cases hv : v.ownBlock with
    | none => exact .inl rfl
    | some k => right; intro e; have := (h.lt k hv).1; injection e with e; omega)
theorem cell_setO {a b : Addr} {u v : Value} (h : w.cell? b = some u) (hne : a ≠ b) : (w.setCell a v).cell? b = some u := by
  rw [World.cell?_setCell_other _ _ _ _ hne]; exact h
/-- The cursor stays where its own block and the code's are as they were. -/
theorem Cur.kept (h : Cur w P) (hs : w.heap.size ≤ w1.heap.size) (hb : ∀ k, k ≤ P → k < w.heap.size → w1.heap[k]? = w.heap[k]?) : Cur w1 P := by
  obtain ⟨a, zs, cap, i, n, hi, hlen, hcap, hz, hh, c0, c1, c2, fz, hP, hrd⟩ := h
  have hc : ∀ j, w1.cell? ⟨P, j, none⟩ = w.cell? ⟨P, j, none⟩ := fun j => World.cell?_of_block (hb P (Nat.le_refl _) hP)
  refine ⟨a, zs, cap, i, n, hi, hlen, hcap, hz, hh, (hc 0).trans c0, (hc 1).trans c1, (hc 2).trans c2, fun j => (World.frozen?_of_block (hb P (Nat.le_refl _) hP)).trans (fz j), Nat.lt_of_lt_of_le hP hs, ?_⟩
  rcases hrd with h0 | ⟨b, off, ha, hne, hcb⟩
  · exact .inl h0
  · exact .inr ⟨b, off, ha, hne, fun j hj => (World.cell?_of_block (hb b (Nat.le_of_lt hne) (Nat.lt_trans hne hP))).trans (hcb j hj)⟩
theorem Cur.below (h : Cur w P) (g : Below w.heap.size w w1) : Cur w1 P := h.kept g.size (fun k _ hk => g.block k hk)
/-- A row of a later time grows: the cursor and the code lie elsewhere. -/
theorem Cur.grown (h : Cur w P) {row : Option Nat} (g : w.grownBy w1 row) (hr : ∀ k, row = some k → P < k) : Cur w1 P := h.kept g.size (fun k hk hlt => g.block k hlt (fun e => by have := hr k e.symm; omega))
theorem Cur.alloc (h : Cur w P) (o : Obj) : Cur (w.alloc o) P := h.below (below1 w o)
theorem Cur.lt (h : Cur w P) : P < w.heap.size := by obtain ⟨a, zs, cap, i, n, hi, hlen, hcap, hz, hh, c0, c1, c2, fz, hP, hrd⟩ := h; exact hP
end

set_option maxRecDepth 100000 in
set_option maxHeartbeats 1000000 in
theorem l1New_c (zs : List Int) (a : Option Addr) (cap : Nat) (w : World) (hr : Rd w .u8 a zs) (hw : ∀ n ∈ zs, (Lit.int .u8 n).wf = true) (hlen : zs.length ≤ 1048576) (hcap : zs.length ≤ cap) :
    Calls Tryd.prog 92 #[.slice a zs.length cap] w fun e w' => ∃ P, e = .returned (.pointer (some ⟨P, 0, none⟩)) ∧ w.heap.size ≤ P ∧ Cur w' P ∧ Below w.heap.size w w' := by
  have HR := Lib.hid hr; clear hr
  have HW := Lib.hid hw; clear hw
  go_enter Tryd.func92, Tryd.ntmps92
  go_wp2_with fail
  go_loopw [3, 4] (fun h i wr => ∃ (j : Nat) (H : Int), j ≤ zs.length ∧ h = .int .i64 H ∧ i = .int .i64 j ∧ 0 ≤ H ∧ H ≤ 1073741823 ∧ wr = w) (fun _ i _ => zs.length - (intOf i).toNat)
  case atStart => exact ⟨0, _, by omega, rfl, rfl, by omega, by omega, rfl⟩
  case round =>
    obtain ⟨j, H, hj, rfl, rfl, h0, h1, rfl⟩ := hrel
    have fin : Hid (Cur (wr.alloc (.cells #[.slice a zs.length cap, .int .i64 0, .int .i64 H] 134)) wr.heap.size) := by
      refine ⟨a, zs, cap, 0, H, Nat.zero_le _, hlen, hcap, HW.out, ⟨by omega, by omega⟩, ?_, ?_, ?_, fun j => by rw [frozen?_alloc_cells]; simp [World.frozen?], by rw [World.size_alloc]; omega, ?_⟩
      · rw [World.cell?_alloc_at _ _ _ _ rfl]; rfl
      · rw [World.cell?_alloc_at _ _ _ _ rfl]; rfl
      · rw [World.cell?_alloc_at _ _ _ _ rfl]; rfl
      · rcases HR.out with hn | ⟨b, off, ha, hblt, hc⟩
        · exact .inl hn
        · exact .inr ⟨b, off, ha, hblt, fun j hj => ((below1 wr _).cell (p := ⟨b, off + j, none⟩) hblt).trans (hc j hj)⟩
    by_cases hjl : j < zs.length
    · by_cases h4 : j < 4000
      · clear fin
        rcases HR.out with hn | ⟨b, off, rfl, hblt, hc⟩
        · rw [hn] at hjl; simp at hjl
        have hc0 := hc j hjl
        clear hc
        generalize zs.getD j 0 = z at *
        go_wp2_with fail
        go_roundw
        case rel => exact ⟨j + 1, _, by omega, rfl, by go_num, (and30_bd _).1, (and30_bd _).2, trivial⟩
        case measure => simp [intOf]; omega
      · go_wp2_with fail
        go_ret
        exact ⟨_, rfl, Nat.le_refl _, fin.out, below1 _ _⟩
    · obtain rfl : j = zs.length := by omega
      go_wp2_with fail
      go_ret
      exact ⟨_, rfl, Nat.le_refl _, fin.out, below1 _ _⟩
theorem Cur.mk' {a : Option Addr} {zs : List Int} {cap i : Nat} {h : Int} (hi : i ≤ zs.length) (hlen : zs.length ≤ 1048576) (hcap : zs.length ≤ cap) (hz : ∀ n ∈ zs, (Lit.int .u8 n).wf = true) (hh : -9223372036854775808 ≤ h ∧ h ≤ 9223372036854775807)
    {w w' : World} {P : Nat} (hg : w.grownBy w' (some P)) (c0 : w'.cell? ⟨P, 0, none⟩ = some (.slice a zs.length cap)) (c1 : w'.cell? ⟨P, 1, none⟩ = some (.int .i64 i)) (c2 : w'.cell? ⟨P, 2, none⟩ = some (.int .i64 h))
    (fz : ∀ j, w'.frozen? ⟨P, j, none⟩ = false) (hP : P < w.heap.size)
    (hr : zs = [] ∨ ∃ b off, a = some ⟨b, off, none⟩ ∧ b < P ∧ ∀ j, j < zs.length → w.cell? ⟨b, off + j, none⟩ = some (.int .u8 (zs.getD j 0))) : Cur w' P := by
  refine ⟨a, zs, cap, i, h, hi, hlen, hcap, hz, hh, c0, c1, c2, fz, Nat.lt_of_lt_of_le hP hg.size, ?_⟩
  rcases hr with h0 | ⟨b, off, ha, hne, hcb⟩
  · exact .inl h0
  · exact .inr ⟨b, off, ha, hne, fun j hj => hg.cell (hcb j hj) (fun e => Nat.ne_of_lt hne (by injection e))⟩
set_option maxHeartbeats 2000000 in
theorem l1Byte_c (P : Nat) (w : World) (hC : Cur w P) :
    Calls Tryd.prog 147 #[.pointer (some ⟨P, 0, none⟩)] w fun e w' => ∃ x : Int, e = .returned (.int .i64 x) ∧ 0 ≤ x ∧ x ≤ 255 ∧ Cur w' P ∧ w.grownBy w' (some P) := by
  obtain ⟨a, zs, cap, i, h, hi, hlen, hcap, hz, hh, c0, c1, c2, fz, hP, hrd⟩ := hC
  have HZ := Lib.hid hz; clear hz
  have HR := Lib.hid hrd; clear hrd
  have HH := Lib.hid hh; clear hh
  have hb : ∀ n : Int, -9223372036854775808 ≤ wrap64 n ∧ wrap64 n ≤ 9223372036854775807 := fun n => by unfold wrap64; omega
  have HB := Lib.hid hb; clear hb
  have HP := Lib.hid hP; clear hP
  have HFZ := Lib.hid fz
  have HA := Lib.hid and255_bd
  by_cases hil : i < zs.length
  · rcases HR.out with hn | ⟨b, off, rfl, hlt, hc⟩
    · rw [hn] at hil; simp at hil
    have hc0 := hc i hil
    have hcs : ∀ v : Value, (w.setCell ⟨P, 2, none⟩ v).cell? ⟨b, off + i, none⟩ = some (.int .u8 (zs.getD i 0)) := fun v => cell_setO hc0 (fun e => Nat.ne_of_gt hlt (by injection e))
    clear hc hc0
    clear hlt
    go_enter Tryd.func147, Tryd.ntmps147
    go_wp2_with fail
    generalize hX : wrap64 (wrap64 (h * 6364136223846793005) + 1442695040888963407) = X
    have HX : Hid (-9223372036854775808 ≤ X ∧ X ≤ 9223372036854775807) := by rw [← hX]; exact HB.out _
    clear hX
    go_quiet (fail)
    go_wp2_with fail
    go_quiet (fail)
    go_wp2_with fail
    go_quiet (fail)
    go_wp2_with fail
    go_ret
    refine ⟨_, rfl, (HA.out _).1, (HA.out _).2, ?_, ?_⟩
    · refine Cur.mk' (i := i + 1) (h := X) (by omega) hlen hcap HZ.out HX.out (gr_trans (gr_drewN (gr_set 2 (.int .i64 X)) _) (gr_set 1 _)) ?_ ?_ ?_ (fun j => by rw [World.frozen?_setCell]; exact (World.frozen?_setCell ..).trans (HFZ.out j)) HP.out HR.out
      · exact cell_setO (cell_setO c0 (by simp)) (by simp)
      · exact World.cell?_setCell_same _ _ _ (cell_setO c1 (by simp))
      · exact cell_setO (World.cell?_setCell_same _ _ _ c2) (by simp)
    · exact gr_trans (gr_drewN (gr_set 2 (.int .i64 X)) _) (gr_set 1 _)
  · obtain rfl : i = zs.length := by omega
    go_enter Tryd.func147, Tryd.ntmps147
    go_wp2_with fail
    generalize hX : wrap64 (wrap64 (h * 6364136223846793005) + 1442695040888963407) = X
    have HX : Hid (-9223372036854775808 ≤ X ∧ X ≤ 9223372036854775807) := by rw [← hX]; exact HB.out _
    clear hX
    go_quiet (fail)
    go_wp2_with fail
    go_quiet (fail)
    go_wp2_with fail
    go_ret
    refine ⟨_, rfl, (HA.out _).1, (HA.out _).2, ?_, ?_⟩
    · refine Cur.mk' (i := zs.length) (h := X) (Nat.le_refl _) hlen hcap HZ.out HX.out (gr_drewN (gr_drewN (gr_set 2 (.int .i64 X)) _) _) ?_ ?_ ?_ (fun j => (World.frozen?_setCell ..).trans (HFZ.out j)) HP.out HR.out
      · exact cell_setO c0 (by simp)
      · exact cell_setO c1 (by simp)
      · exact World.cell?_setCell_same _ _ _ c2
    · exact gr_drewN (gr_drewN (gr_set 2 (.int .i64 X)) _) _
end Go.Proofs.YtilmhemcpgiikaaDoor
/- The cursor of a draw, on: numbers below a bound, of a list, bytes. -/
namespace Go.Proofs.YtilmhemcpgiikaaDoor
open Go.Deep Go.ChangeShapes Go.WideShapes Go.ChangeAt Go.RowKit

set_option maxHeartbeats 2000000 in
theorem l1Below_c (P : Nat) (n : Int) (w : World) (hC : Cur w P) (hn : -9223372036854775808 ≤ n ∧ n ≤ 9223372036854775807) :
    Calls Tryd.prog 95 #[.pointer (some ⟨P, 0, none⟩), .int .i64 n] w fun e w' => ∃ x : Int, e = .returned (.int .i64 x) ∧ 0 ≤ x ∧ (0 < n → x < n) ∧ (n ≤ 0 → x = 0) ∧ x ≤ 16777215 ∧ Cur w' P ∧ w.grownBy w' (some P) := by
  have HC := Lib.hid hC; clear hC
  by_cases h0 : n ≤ 0
  · go_enter Tryd.func95, Tryd.ntmps95
    go_wp2_with fail
    go_ret
    exact ⟨0, rfl, by omega, by omega, by omega, by omega, HC.out, gr_refl⟩
  · have hne : n ≠ 0 := by omega
    have hm : ∀ m : Int, 0 ≤ m → 0 ≤ m % n ∧ m % n < n ∧ m % n ≤ m := fun m h => by
      exact ⟨Int.emod_nonneg _ hne, Int.emod_lt_of_pos _ (by omega), by
        have h1 := Int.emod_add_mul_ediv m n
        have h2 : 0 ≤ n * (m / n) := Int.mul_nonneg (by omega) (Int.ediv_nonneg h (by omega))
        omega⟩
    have HM := Lib.hid hm; clear hm
    by_cases h1 : n ≤ 256
    · go_enter Tryd.func95, Tryd.ntmps95
      go_wp2_with fail
      refine (l1Byte_c P _ HC.out).mono ?_
      rintro _ w1 ⟨x, rfl, x0, x1, C1, G1⟩
      have C2 := Lib.hid C1; clear C1
      have G2 := Lib.hid G1; clear G1
      go_wp2_with fail
      go_ret
      exact ⟨_, rfl, (HM.out x x0).1, fun _ => (HM.out x x0).2.1, fun h => by omega, by have := (HM.out x x0).2.2; omega, C2.out, G2.out⟩
    · go_enter Tryd.func95, Tryd.ntmps95
      go_wp2_with fail
      refine (l1Byte_c P _ HC.out).mono ?_
      rintro _ w1 ⟨x, rfl, x0, x1, C1', G1'⟩
      have C1 := Lib.hid C1'; clear C1'
      have G1 := Lib.hid G1'; clear G1'
      go_wp2_with fail
      refine (l1Byte_c P _ C1.out).mono ?_
      rintro _ w2 ⟨y, rfl, y0, y1, C2', G2'⟩
      have C2 := Lib.hid C2'; clear C2'
      have G2 := Lib.hid (gr_trans G1.out G2'); clear G2'
      go_wp2_with fail
      refine (l1Byte_c P _ C2.out).mono ?_
      rintro _ w3 ⟨z, rfl, z0, z1, C3', G3'⟩
      have C3 := Lib.hid C3'; clear C3'
      have G3 := Lib.hid (gr_trans G2.out G3'); clear G3'
      go_wp2_with fail
      go_ret
      have q0 : 0 ≤ x * 65536 + y * 256 + z := by omega
      exact ⟨_, rfl, (HM.out _ q0).1, fun _ => (HM.out _ q0).2.1, fun h => by omega, by have := (HM.out _ q0).2.2; omega, C3.out, G3.out⟩
set_option maxHeartbeats 2000000 in
theorem l1Int_c (P : Nat) (zs : List Int) (b : Nat) (cap : Nat) (w : World) (hC : Cur w P) (hr : ∀ j, j < zs.length → w.cell? ⟨b, j, none⟩ = some (.int .i64 (zs.getD j 0))) (hb : b ≠ P) (_hlt : b < w.heap.size) (hz : 0 < zs.length) (hz2 : zs.length ≤ 1000) :
    Calls Tryd.prog 103 #[.pointer (some ⟨P, 0, none⟩), .slice (some ⟨b, 0, none⟩) zs.length cap] w fun e w' => ∃ x : Int, e = .returned (.int .i64 x) ∧ x ∈ zs ∧ Cur w' P ∧ w.grownBy w' (some P) := by
  have HC := Lib.hid hC; clear hC
  have HR := Lib.hid hr; clear hr
  have HB := Lib.hid hb; clear hb
  go_enter Tryd.func103, Tryd.ntmps103
  go_wp2_with fail
  refine (l1Below_c P _ _ HC.out (by omega)).mono ?_
  rintro _ w1 ⟨x, rfl, x0, x1, -, -, C1', G1'⟩
  have C1 := Lib.hid C1'; clear C1'
  have G1 := Lib.hid G1'; clear G1'
  have hx : x < zs.length := x1 (by omega)
  clear x1
  obtain ⟨X, rfl⟩ : ∃ X : Nat, x = X := ⟨x.toNat, by omega⟩
  have hX : X < zs.length := by omega
  have hc := G1.out.cell (HR.out X hX) (fun e => HB.out (by injection e))
  have hmem : zs.getD X 0 ∈ zs := by rw [List.getD_eq_getElem?_getD, List.getElem?_eq_getElem hX]; exact List.getElem_mem hX
  have HMEM := Lib.hid hmem; clear hmem
  go_wp2_with fail
  go_ret
  exact ⟨_, rfl, by simp, C1.out, G1.out⟩
set_option maxHeartbeats 2000000 in
theorem l1Str_c (P : Nat) (zs : List ByteArray) (b : Nat) (cap : Nat) (w : World) (hC : Cur w P) (hr : ∀ j, j < zs.length → w.cell? ⟨b, j, none⟩ = some (.string (zs.getD j ⟨#[]⟩))) (hb : b ≠ P) (_hlt : b < w.heap.size) (hz : 0 < zs.length) (hz2 : zs.length ≤ 1000) :
    Calls Tryd.prog 151 #[.pointer (some ⟨P, 0, none⟩), .slice (some ⟨b, 0, none⟩) zs.length cap] w fun e w' => ∃ x : ByteArray, e = .returned (.string x) ∧ x ∈ zs ∧ Cur w' P ∧ w.grownBy w' (some P) := by
  have HC := Lib.hid hC; clear hC
  have HR := Lib.hid hr; clear hr
  have HB := Lib.hid hb; clear hb
  go_enter Tryd.func151, Tryd.ntmps151
  go_wp2_with fail
  refine (l1Below_c P _ _ HC.out (by omega)).mono ?_
  rintro _ w1 ⟨x, rfl, x0, x1, -, -, C1', G1'⟩
  have C1 := Lib.hid C1'; clear C1'
  have G1 := Lib.hid G1'; clear G1'
  have hx : x < zs.length := x1 (by omega)
  clear x1
  obtain ⟨X, rfl⟩ : ∃ X : Nat, x = X := ⟨x.toNat, by omega⟩
  have hX : X < zs.length := by omega
  have hc := G1.out.cell (HR.out X hX) (fun e => HB.out (by injection e))
  have hmem : zs.getD X ⟨#[]⟩ ∈ zs := by rw [List.getD_eq_getElem?_getD, List.getElem?_eq_getElem hX]; exact List.getElem_mem hX
  have HMEM := Lib.hid hmem; clear hmem
  go_wp2_with fail
  go_ret
  exact ⟨_, rfl, by simp, C1.out, G1.out⟩
set_option maxHeartbeats 2000000 in
theorem l1Once_c (P : Nat) (n : Int) (w : World) (hC : Cur w P) (hn : -9223372036854775808 ≤ n ∧ n ≤ 9223372036854775807) :
    Calls Tryd.prog 105 #[.pointer (some ⟨P, 0, none⟩), .int .i64 n] w fun e w' => ∃ x : Bool, e = .returned (.bool x) ∧ Cur w' P ∧ w.grownBy w' (some P) := by
  have HC := Lib.hid hC; clear hC
  have HN := Lib.hid hn; clear hn
  go_enter Tryd.func105, Tryd.ntmps105
  go_wp2_with fail
  refine (l1Below_c P _ _ HC.out HN.out).mono ?_
  rintro _ w1 ⟨x, rfl, x0, -, -, -, C1', G1'⟩
  have C1 := Lib.hid C1'; clear C1'
  have G1 := Lib.hid G1'; clear G1'
  go_wp2_with fail
  go_ret
  exact ⟨_, rfl, C1.out, G1.out⟩
/-- A list that was just laid. -/
theorem rd_laid (w : World) (zs : List Int) (T : TypeId) : ∀ j, j < zs.length → (w.alloc (.cells (zs.map (Value.int .i64)).toArray T)).cell? ⟨w.heap.size, j, none⟩ = some (.int .i64 (zs.getD j 0)) := by
  intro j hj
  rw [World.cell?_alloc_at _ _ _ _ rfl]
  simp [List.getD, List.getElem?_eq_getElem hj]
theorem rs_laid (w : World) (zs : List ByteArray) (T : TypeId) : ∀ j, j < zs.length → (w.alloc (.cells (zs.map Value.string).toArray T)).cell? ⟨w.heap.size, j, none⟩ = some (.string (zs.getD j ⟨#[]⟩)) := by
  intro j hj
  rw [World.cell?_alloc_at _ _ _ _ rfl]
  simp [List.getD, List.getElem?_eq_getElem hj]
/-- Is a number one of Go's? -/
def wf6 (n : Int) : Prop := -9223372036854775808 ≤ n ∧ n ≤ 9223372036854775807
theorem wf6_wrap (n : Int) : wf6 (wrap64 n) := by unfold wf6 wrap64; omega
set_option maxHeartbeats 2000000 in
theorem l1Odd_c (P : Nat) (w : World) (hC : Cur w P) :
    Calls Tryd.prog 174 #[.pointer (some ⟨P, 0, none⟩)] w fun e w' => ∃ x : Int, e = .returned (.int .i64 x) ∧ wf6 x ∧ Cur w' P ∧ w.grownBy w' (some P) := by
  have HC := Lib.hid hC; clear hC
  go_enter Tryd.func174, Tryd.ntmps174
  go_wp2_with fail
  refine (l1Int_c P [-1, 0, 1, 2, 255, 256, 65535, 2147483647, 2147483648, 4294967295, 4294967296, -2147483648, 9223372036854775807, -9223372036854775808] w.heap.size 14 _ (HC.out.alloc _) (rd_laid w _ _) (Nat.ne_of_gt HC.out.lt) (by simp) (by decide) (by decide)).mono ?_
  rintro _ w1 ⟨x, rfl, hx, C1', G1'⟩
  have C1 := Lib.hid C1'; clear C1'
  have G1 := Lib.hid (gr_trans (gr_below (below1 _ _)) G1'); clear G1'
  have hw : wf6 x := by unfold wf6; simp at hx; omega
  clear hx
  go_wp2_with fail
  go_ret
  exact ⟨_, rfl, hw, C1.out, G1.out⟩
set_option maxRecDepth 100000 in
set_option maxHeartbeats 4000000 in
theorem l1Num_c (P : Nat) (w : World) (hC : Cur w P) :
    Calls Tryd.prog 175 #[.pointer (some ⟨P, 0, none⟩)] w fun e w' => ∃ x : Int, e = .returned (.int .i64 x) ∧ (0 ≤ x ∧ x ≤ 1000000000000000) ∧ Cur w' P ∧ w.grownBy w' (some P) := by
  have HC := Lib.hid hC; clear hC
  go_enter Tryd.func175, Tryd.ntmps175
  go_wp2_with fail
  refine (l1Below_c P _ _ HC.out (by omega)).mono ?_
  rintro _ w1 ⟨k, rfl, k0, k1, -, -, C1', G1'⟩
  have C1 := Lib.hid C1'; clear C1'
  have G1 := Lib.hid G1'; clear G1'
  have k1 := k1 (by omega)
  have hk : k = 0 ∨ k = 1 ∨ k = 2 ∨ k = 3 ∨ k = 4 := by omega
  clear k0 k1
  rcases hk with rfl | rfl | rfl | rfl | rfl
  · go_wp2_with fail
    refine (l1Below_c P _ _ C1.out (by omega)).mono ?_
    rintro _ w2 ⟨x, rfl, x0, x1, -, -, C2', G2'⟩
    have C2 := Lib.hid C2'; clear C2'
    have G2 := Lib.hid (gr_trans G1.out G2'); clear G2'
    have x1 := x1 (by omega)
    go_wp2_with fail
    go_ret
    exact ⟨_, rfl, ⟨by omega, by omega⟩, C2.out, G2.out⟩
  · go_wp2_with fail
    refine (l1Int_c P [0, 1, 9, 10, 255, 256, 65535, 65536, 1000000000000000] w1.heap.size 9 _ (C1.out.alloc _) (rd_laid w1 _ _) (Nat.ne_of_gt C1.out.lt) (by simp) (by decide) (by decide)).mono ?_
    rintro _ w2 ⟨x, rfl, hx, C2', G2'⟩
    have C2 := Lib.hid C2'; clear C2'
    have G2 := Lib.hid (gr_trans G1.out (gr_trans (gr_below (below1 _ _)) G2')); clear G2'
    have hw : 0 ≤ x ∧ x ≤ 1000000000000000 := by simp at hx; omega
    clear hx
    go_wp2_with fail
    go_ret
    exact ⟨_, rfl, hw, C2.out, G2.out⟩
  · go_wp2_with fail
    refine (l1Below_c P _ _ C1.out (by omega)).mono ?_
    rintro _ w2 ⟨x, rfl, x0, x1, -, -, C2', G2'⟩
    have C2 := Lib.hid C2'; clear C2'
    have G2 := Lib.hid (gr_trans G1.out G2'); clear G2'
    have x1 := x1 (by omega)
    go_wp2_with fail
    refine (l1Below_c P _ _ C2.out (by omega)).mono ?_
    rintro _ w3 ⟨y, rfl, y0, y1, -, -, C3', G3'⟩
    have C3 := Lib.hid C3'; clear C3'
    have G3 := Lib.hid (gr_trans G2.out G3'); clear G3'
    have y1 := y1 (by omega)
    have h0 : 0 ≤ x * y := Int.mul_nonneg x0 y0
    have h1 : x * y ≤ 1000000 * 1000000 := Int.mul_le_mul (by omega) (by omega) y0 (by omega)
    have hz : wrap64 (x * y) = x * y := by
      generalize x * y = z at *
      unfold wrap64; omega
    have HZ := Lib.hid hz; clear hz
    go_wp2_with fail
    go_ret
    exact ⟨_, rfl, ⟨h0, by omega⟩, C3.out, G3.out⟩
  · go_wp2_with fail
    refine (l1Below_c P _ _ C1.out (by omega)).mono ?_
    rintro _ w2 ⟨x, rfl, x0, x1, -, -, C2', G2'⟩
    have C2 := Lib.hid C2'; clear C2'
    have G2 := Lib.hid (gr_trans G1.out G2'); clear G2'
    have x1 := x1 (by omega)
    have hp : (1 : Int) ≤ 2 ^ x.toNat ∧ (2 : Int) ^ x.toNat ≤ 562949953421312 := by
      have h1 : 2 ^ x.toNat ≤ 2 ^ 49 := Nat.pow_le_pow_right (by decide) (by omega)
      have h2 : 0 < 2 ^ x.toNat := Nat.pow_pos (by decide)
      have h3 : (2 : Int) ^ x.toNat = ((2 ^ x.toNat : Nat) : Int) := by simp
      rw [h3]
      omega
    have hz : wrap64 (2 ^ x.toNat) = 2 ^ x.toNat := by
      generalize (2 : Int) ^ x.toNat = z at *
      unfold wrap64; omega
    have HZ := Lib.hid hz; clear hz
    have HPP := Lib.hid hp; clear hp
    go_wp2_with fail
    go_ret
    exact ⟨_, rfl, by rw [HZ.out]; have := HPP.out; omega, C2.out, G2.out⟩
  · go_wp2_with fail
    refine (l1Below_c P _ _ C1.out (by omega)).mono ?_
    rintro _ w2 ⟨x, rfl, x0, x1, -, -, C2', G2'⟩
    have C2 := Lib.hid C2'; clear C2'
    have G2 := Lib.hid (gr_trans G1.out G2'); clear G2'
    have x1 := x1 (by omega)
    go_wp2_with fail
    go_ret
    exact ⟨_, rfl, ⟨by omega, by omega⟩, C2.out, G2.out⟩
set_option maxHeartbeats 2000000 in
theorem l1Signed_c (P : Nat) (w : World) (hC : Cur w P) :
    Calls Tryd.prog 146 #[.pointer (some ⟨P, 0, none⟩)] w fun e w' => ∃ x : Int, e = .returned (.int .i64 x) ∧ (-1000000000000000 ≤ x ∧ x ≤ 1000000000000000) ∧ Cur w' P ∧ w.grownBy w' (some P) := by
  have HC := Lib.hid hC; clear hC
  go_enter Tryd.func146, Tryd.ntmps146
  go_wp2_with fail
  refine (l1Once_c P _ _ HC.out (by omega)).mono ?_
  rintro _ w1 ⟨k, rfl, C1', G1'⟩
  have C1 := Lib.hid C1'; clear C1'
  have G1 := Lib.hid G1'; clear G1'
  cases k with
  | true =>
    go_wp2_with fail
    refine (l1Num_c P _ C1.out).mono ?_
    rintro _ w2 ⟨x, rfl, ⟨x0, x1⟩, C2', G2'⟩
    have C2 := Lib.hid C2'; clear C2'
    have G2 := Lib.hid (gr_trans G1.out G2'); clear G2'
    go_wp2_with fail
    go_ret
    exact ⟨_, rfl, ⟨by omega, by omega⟩, C2.out, G2.out⟩
  | false =>
    go_wp2_with fail
    refine (l1Num_c P _ C1.out).mono ?_
    rintro _ w2 ⟨x, rfl, ⟨x0, x1⟩, C2', G2'⟩
    have C2 := Lib.hid C2'; clear C2'
    have G2 := Lib.hid (gr_trans G1.out G2'); clear G2'
    go_wp2_with fail
    go_ret
    exact ⟨_, rfl, ⟨by omega, by omega⟩, C2.out, G2.out⟩
set_option maxHeartbeats 2000000 in
theorem l1Raw_c (P : Nat) (w : World) (hC : Cur w P) :
    Calls Tryd.prog 145 #[.pointer (some ⟨P, 0, none⟩)] w fun e w' => ∃ x : Int, e = .returned (.int .i64 x) ∧ wf6 x ∧ Cur w' P ∧ w.grownBy w' (some P) := by
  have HC := Lib.hid hC; clear hC
  go_enter Tryd.func145, Tryd.ntmps145
  go_wp2_with fail
  refine (l1Once_c P _ _ HC.out (by omega)).mono ?_
  rintro _ w1 ⟨k, rfl, C1', G1'⟩
  have C1 := Lib.hid C1'; clear C1'
  have G1 := Lib.hid G1'; clear G1'
  cases k with
  | true =>
    go_wp2_with fail
    refine (l1Odd_c P _ C1.out).mono ?_
    rintro _ w2 ⟨x, rfl, hx, C2', G2'⟩
    have HX := Lib.hid hx; clear hx
    have C2 := Lib.hid C2'; clear C2'
    have G2 := Lib.hid (gr_trans G1.out G2'); clear G2'
    go_wp2_with fail
    go_ret
    exact ⟨_, rfl, HX.out, C2.out, G2.out⟩
  | false =>
    go_wp2_with fail
    refine (l1Int_c P [-1, 1000000000000001, -1000000000000001] w1.heap.size 3 _ (C1.out.alloc _) (rd_laid w1 _ _) (Nat.ne_of_gt C1.out.lt) (by simp) (by decide) (by decide)).mono ?_
    rintro _ w2 ⟨x, rfl, hx, C2', G2'⟩
    have C2 := Lib.hid C2'; clear C2'
    have G2 := Lib.hid (gr_trans G1.out (gr_trans (gr_below (below1 _ _)) G2')); clear G2'
    have hw : wf6 x := by unfold wf6; simp at hx; omega
    clear hx
    go_wp2_with fail
    go_ret
    exact ⟨_, rfl, hw, C2.out, G2.out⟩
set_option maxHeartbeats 2000000 in
theorem l1One_c (P : Nat) (w : World) (hC : Cur w P) :
    Calls Tryd.prog 94 #[.pointer (some ⟨P, 0, none⟩)] w fun e w' => ∃ x : Int, e = .returned (.int .i64 x) ∧ wf6 x ∧ Cur w' P ∧ w.grownBy w' (some P) := by
  have HC := Lib.hid hC; clear hC
  go_enter Tryd.func94, Tryd.ntmps94
  go_wp2_with fail
  refine (l1Once_c P _ _ HC.out (by omega)).mono ?_
  rintro _ w1 ⟨k, rfl, C1', G1'⟩
  have C1 := Lib.hid C1'; clear C1'
  have G1 := Lib.hid G1'; clear G1'
  cases k with
  | true =>
    go_wp2_with fail
    refine (l1Raw_c P _ C1.out).mono ?_
    rintro _ w2 ⟨x, rfl, hx, C2', G2'⟩
    have HX := Lib.hid hx; clear hx
    have C2 := Lib.hid C2'; clear C2'
    have G2 := Lib.hid (gr_trans G1.out G2'); clear G2'
    go_wp2_with fail
    go_ret
    exact ⟨_, rfl, HX.out, C2.out, G2.out⟩
  | false =>
    go_wp2_with fail
    refine (l1Signed_c P _ C1.out).mono ?_
    rintro _ w2 ⟨x, rfl, hx, C2', G2'⟩
    have hw : wf6 x := by unfold wf6; omega
    clear hx
    have C2 := Lib.hid C2'; clear C2'
    have G2 := Lib.hid (gr_trans G1.out G2'); clear G2'
    go_wp2_with fail
    go_ret
    exact ⟨_, rfl, hw, C2.out, G2.out⟩
set_option maxHeartbeats 2000000 in
theorem l1Bytes_c (P : Nat) (n : Int) (w : World) (hC : Cur w P) (hn : 0 ≤ n ∧ n ≤ 1000) :
    Calls Tryd.prog 159 #[.pointer (some ⟨P, 0, none⟩), .int .i64 n] w fun e w' => ∃ v : Value, e = .returned v ∧ ∃ zs : List Int, (zs.length : Int) = n ∧ (∀ x ∈ zs, (Lit.int .u8 x).wf = true) ∧ w'.ownsRow w.heap.size 5 1 v zs.length (zs.map (Value.int .u8)) ∧ Cur w' P ∧ w.grownBy w' (some P) := by
  obtain ⟨i0, hi, hz, hsz, hb⟩ := info_parts (show (Tryd.prog.info? 5).map (fun i => (i.zero, i.size, i.bytes)) = some (some (.int .u8 0), 1, 1) by kernel_rfl)
  have HI := Lib.hid hi; clear hi
  have HC := Lib.hid hC; clear hC
  have HM := Lib.hid (World.ownsRow_made (base := w.heap.size) (e := 5) (size := 1) w #[] 0 (Nat.le_refl _) (by simp [maxLen]) rfl)
  obtain ⟨hn0, hn1⟩ := hn
  go_enter Tryd.func159, Tryd.ntmps159
  go_wp2_with fail
  go_loopw [5, 6] (fun v i wr => ∃ zs : List Int, zs.length ≤ n ∧ i = .int .i64 zs.length ∧ (∀ x ∈ zs, (Lit.int .u8 x).wf = true) ∧ wr.ownsRow w.heap.size 5 1 v zs.length (zs.map (Value.int .u8)) ∧ Cur wr P ∧ w.grownBy wr (some P)) (fun _ i _ => n.toNat - (intOf i).toNat)
  case atStart => exact ⟨[], by simpa using hn0, rfl, by simp, by simpa using HM.out, HC.out.alloc _, gr_below (below1 _ _)⟩
  case round =>
    obtain ⟨zs, hj, rfl, hwf, hown, hcur, hgr⟩ := hrel
    have OWN := Lib.hid hown; clear hown
    have CUR := Lib.hid hcur; clear hcur
    have GR := Lib.hid hgr; clear hgr
    have WF := Lib.hid hwf; clear hwf
    by_cases hjl : (zs.length : Int) < n
    · go_wp2_with fail
      refine (l1Byte_c P _ CUR.out).mono ?_
      rintro _ w1 ⟨x, rfl, x0, x1, C1', G1'⟩
      have O1 := Lib.hid (own_gr OWN.out G1' HC.out.lt)
      have C1 := Lib.hid C1'; clear C1'
      have G1 := Lib.hid (gr_trans GR.out G1'); clear G1' OWN CUR GR
      go_wp2_with (at_builtin; go_must (refine wpList_append_own _ rfl (.tmp 13) (.tmp 17) 39 rfl w.heap.size 5 i0 (.int .u8 0) 1 1 Tryd.underlying39 HI.out hz hsz hb rfl (by decide) _ _ _ rfl (by exact O1.out.alloc _) ⟨w1.heap.size, 0, none⟩ 1 1 [.int .u8 x] rfl rfl (by exact World.news_of_block (heap_alloc_new _ _)) (by simp; exact rfl) (by unfold maxLen; omega) (by omega) (by have := G1.out.size; simp; omega) ?_); intro v' w2 hown2 hg2 q1; clear q1)
      have hg3 : (w1.alloc (.cells #[.int .u8 x] 5)).grownBy w2 u5.ownBlock := hg2
      have H2 := Lib.hid hown2; clear hown2
      have H3 := Lib.hid hg3; clear hg3 hg2
      go_wp2_with fail
      go_roundw
      case rel =>
        have hro : ∀ k, u5.ownBlock = some k → w.heap.size ≤ k := fun k hk => (O1.out.lt k hk).1
        refine ⟨zs ++ [x], by simp <;> omega, by simp, ?_, ?_, (C1.out.alloc _).grown H3.out (fun k hk => Nat.lt_of_lt_of_le HC.out.lt (hro k hk)), gr_new (gr_on G1.out (below1 _ _)) H3.out hro⟩
        · intro y hy
          rcases List.mem_append.1 hy with h | h
          · exact WF.out y h
          · simp at h; subst h; simp [Lit.wf, IntKind.min, IntKind.max, IntKind.signed, IntKind.bits]; omega
        · rw [List.map_append, List.length_append]; exact H2.out
      case measure => simp [intOf]; omega
    · go_wp2_with fail
      go_ret
      exact ⟨_, rfl, zs, by omega, WF.out, OWN.out, CUR.out, GR.out⟩
end Go.Proofs.YtilmhemcpgiikaaDoor
/- Boxes of two cells of a draw's own, kept while the cursor turns. -/
namespace Go.Proofs.YtilmhemcpgiikaaDoor
open Go.Deep Go.ChangeShapes Go.WideShapes Go.ChangeAt Go.RowKit

section
variable {w w1 : World} {P R : Nat}
theorem box_gr {o : Obj} (h : w.heap[R]? = some o) (g : w.grownBy w1 (some P)) (hne : P ≠ R) : w1.heap[R]? = some o :=
  (g.block R (Array.getElem?_eq_some_iff.1 h).1 (fun e => hne (Option.some.inj e).symm)).trans h
theorem box_below {o : Obj} (h : w.heap[R]? = some o) (g : Below w.heap.size w w1) : w1.heap[R]? = some o :=
  (g.block R (Array.getElem?_eq_some_iff.1 h).1).trans h
theorem box_alloc {o : Obj} (h : w.heap[R]? = some o) (o' : Obj) : (w.alloc o').heap[R]? = some o := box_below h (below1 w o')
theorem box_other {o : Obj} (h : w.heap[R]? = some o) {Q j : Nat} (v : Value) (hne : R ≠ Q) : (w.setCell ⟨Q, j, none⟩ v).heap[R]? = some o :=
  (Below.heap_setCell _ _ _ _ hne).trans h
theorem box_set0 {a b : Value} {T : TypeId} (h : w.heap[R]? = some (.cells #[a, b] T (0, 0))) (v : Value) : (w.setCell ⟨R, 0, none⟩ v).heap[R]? = some (.cells #[v, b] T (0, 0)) := by
  simp [World.setCell, Array.getElem?_modify, h]
theorem box_set1 {a b : Value} {T : TypeId} (h : w.heap[R]? = some (.cells #[a, b] T (0, 0))) (v : Value) : (w.setCell ⟨R, 1, none⟩ v).heap[R]? = some (.cells #[a, v] T (0, 0)) := by
  simp [World.setCell, Array.getElem?_modify, h]
theorem box_two {a b : Value} {T : TypeId} (h : w.heap[R]? = some (.cells #[a, b] T (0, 0))) :
    w.cell? ⟨R, 0, none⟩ = some a ∧ w.cell? ⟨R, 1, none⟩ = some b ∧ w.frozen? ⟨R, 0, none⟩ = false ∧ w.frozen? ⟨R, 1, none⟩ = false := by
  obtain ⟨h0, h1, h2⟩ := two_num (Below.refl _ _) h
  exact ⟨h0, h1, h2 0, h2 1⟩
theorem box_lt {o : Obj} (h : w.heap[R]? = some o) : R < w.heap.size := (Array.getElem?_eq_some_iff.1 h).1
theorem Cur.set (h : Cur w P) {j : Nat} (v : Value) (hR : P < R) : Cur (w.setCell ⟨R, j, none⟩ v) P :=
  h.kept (by simp [World.setCell]) (fun k hk _ => Below.heap_setCell _ _ _ _ (by dsimp only; omega))
theorem gr_sets (h : w.grownBy w1 (some P)) {j : Nat} (v : Value) (hR : w.heap.size ≤ R) : w.grownBy (w1.setCell ⟨R, j, none⟩ v) (some P) :=
  ⟨h.os, h.tape, h.output, by simpa [World.setCell] using h.size, fun k hk hne => (Below.heap_setCell _ _ _ _ (by dsimp only; omega)).trans (h.block k hk hne)⟩
theorem gr_alloc (h : w.grownBy w1 (some P)) (o : Obj) : w.grownBy (w1.alloc o) (some P) := gr_on h (below1 _ _)
theorem below_alloc {W : World} (h : Below W.heap.size W w) (o : Obj) : Below W.heap.size W (w.alloc o) := h.alloc h.size o
theorem below_set {W : World} (h : Below W.heap.size W w) {j : Nat} (v : Value) (hR : W.heap.size ≤ R) : Below W.heap.size W (w.setCell ⟨R, j, none⟩ v) := h.setCell hR _
end
end Go.Proofs.YtilmhemcpgiikaaDoor
/- Trees gathered by append: a row of the call's own whose elements own their blocks. -/
namespace Go.Proofs.YtilmhemcpgiikaaDoor
open Go.Deep Go.ChangeShapes Go.WideShapes Go.ChangeAt Go.RowKit

/-- The five cells of a tree whose elements stand as u. -/
def cells5 (t : Tree) (u : Value) : List Value := [.int .i64 t.kind, .int .i64 t.n, .int .i64 t.x, .string t.s, u]
/-- A tree, its elements' value, and the blocks that these own. -/
structure Elem where
  t : Tree
  u : Value
  S : Nat → Prop
def Elem.cells (e : Elem) : List Value := cells5 e.t e.u

/-- Trees gathered so far: a row of the call's own, from block lo on. -/
def APe (w : World) (lo : Nat) (T : TypeId) (v : Value) (l : List Tree) (es : List Elem) : Prop :=
  es.map (·.t) = l ∧ w.ownsRow lo T 5 v es.length (es.flatMap Elem.cells) ∧
    (∀ e ∈ es, Fits e.t.kind e.t.n e.t.x e.t.s ∧ OSl w T e.u e.t.l e.S ∧ ∀ b, e.S b → lo ≤ b ∧ b < w.heap.size ∧ v.ownBlock ≠ some b) ∧
    es.Pairwise (fun p q => ∀ b, p.S b → q.S b → False)
def AP (w : World) (lo : Nat) (T : TypeId) (v : Value) (l : List Tree) : Prop := ∃ es : List Elem, APe w lo T v l es

theorem flat_len (es : List Elem) : (es.flatMap Elem.cells).length = es.length * 5 := by
  induction es with
  | nil => rfl
  | cons e es ih => simp only [List.flatMap_cons, List.length_append, ih, List.length_cons]; simp [Elem.cells, cells5]; omega

theorem AP.nil (w : World) (lo : Nat) (T : TypeId) : AP w lo T (.slice none 0 0) [] := ⟨[], rfl, World.ownsRow_nil _ _ _ _, by simp, by simp⟩
theorem AP.made (w : World) (T : TypeId) : AP (w.alloc (.cells #[] T)) w.heap.size T (.slice (some ⟨w.heap.size, 0, none⟩) 0 0) [] :=
  ⟨[], rfl, World.ownsRow_made (base := w.heap.size) w #[] 0 (Nat.le_refl _) (by simp [maxLen]) rfl, by simp, by simp⟩

theorem APe.row {w : World} {lo : Nat} {T : TypeId} {v : Value} {l : List Tree} {es : List Elem} (h : APe w lo T v l es) : w.ownsRow lo T 5 v l.length (es.flatMap Elem.cells) := by
  obtain ⟨rfl, ho, _, _⟩ := h
  simpa using ho
theorem owns_below {w w' : World} (hb : Below w.heap.size w w') {B k : Nat} {T : TypeId} {v : Value} {n : Nat} {xs : List Value} (h : w.ownsRow B T k v n xs) : w'.ownsRow B T k v n xs := by
  refine ⟨h.1, ?_⟩
  rcases h.2 with h2 | ⟨g, cap, cur, hv, hg, hh, r⟩
  · exact .inl h2
  · exact .inr ⟨g, cap, cur, hv, hg, by rw [hb.block g (Array.getElem?_eq_some_iff.1 hh).1]; exact hh, r⟩

theorem AP.kept {w w' : World} (hb : Below w.heap.size w w') {lo : Nat} {T : TypeId} {v : Value} {l : List Tree} (h : AP w lo T v l) : AP w' lo T v l := by
  obtain ⟨es, hl, ho, hE, hp⟩ := h
  refine ⟨es, hl, owns_below hb ho, fun e he => ?_, hp⟩
  obtain ⟨a, c, d⟩ := hE e he
  exact ⟨a, c.kept (fun b hS => hb.block b (d b hS).2.1), fun b hS => ⟨(d b hS).1, Nat.lt_of_lt_of_le (d b hS).2.1 hb.size, (d b hS).2.2⟩⟩

theorem AP.kept_lo {w w' : World} {lo : Nat} {T : TypeId} {v : Value} {l : List Tree} (h : AP w lo T v l) (hsz : w.heap.size ≤ w'.heap.size) (hb : ∀ b, lo ≤ b → b < w.heap.size → w'.heap[b]? = w.heap[b]?) : AP w' lo T v l := by
  obtain ⟨es, hl, ho, hE, hp⟩ := h
  refine ⟨es, hl, ⟨ho.1, ?_⟩, fun e he => ?_, hp⟩
  · rcases ho.2 with h2 | ⟨g, cap, cur, hv, hg, hh, r⟩
    · exact .inl h2
    · exact .inr ⟨g, cap, cur, hv, hg, by rw [hb g hg (Array.getElem?_eq_some_iff.1 hh).1]; exact hh, r⟩
  · obtain ⟨a, c, d⟩ := hE e he
    exact ⟨a, c.kept (fun b hS => hb b (d b hS).1 (d b hS).2.1), fun b hS => ⟨(d b hS).1, Nat.lt_of_lt_of_le (d b hS).2.1 hsz, (d b hS).2.2⟩⟩

theorem owns_mono {w : World} {lo lo' k : Nat} {T : TypeId} {v : Value} {n : Nat} {xs : List Value} (h : w.ownsRow lo T k v n xs) (hl : lo' ≤ lo) : w.ownsRow lo' T k v n xs := by
  refine ⟨h.1, ?_⟩
  rcases h.2 with h2 | ⟨g, cap, cur, hv, hg, r⟩
  · exact .inl h2
  · exact .inr ⟨g, cap, cur, hv, Nat.le_trans hl hg, r⟩
theorem AP.mono {w : World} {lo lo' : Nat} {T : TypeId} {v : Value} {l : List Tree} (h : AP w lo T v l) (hl : lo' ≤ lo) : AP w lo' T v l := by
  obtain ⟨es, hm, ho, hE, hp⟩ := h
  exact ⟨es, hm, owns_mono ho hl, fun e he => ⟨(hE e he).1, (hE e he).2.1, fun b hb => ⟨Nat.le_trans hl ((hE e he).2.2 b hb).1, ((hE e he).2.2 b hb).2⟩⟩, hp⟩

/-- One more: the element's blocks are new, the row grew. -/
theorem APe.snoc {w0 w w' : World} {lo : Nat} {T : TypeId} {v : Value} {l : List Tree} {es : List Elem} (h : APe w0 lo T v l es) (hb0 : Below w0.heap.size w0 w) {t : Tree} {u : Value} (fit : Fits t.kind t.n t.x t.s) {hi : Nat} (ho : OSl w T u t.l (Rng w0.heap.size hi)) (hhi : hi ≤ w.heap.size)
    (hlo : lo ≤ w0.heap.size) {g cap : Nat} (hn : w'.ownsRow lo T 5 (.slice (some ⟨g, 0, none⟩) (l.length + 1) cap) (l.length + 1) (es.flatMap Elem.cells ++ cells5 t u))
    (hg : w.grownBy w' v.ownBlock) (hfresh : v.ownBlock = some g ∨ g = w.heap.size) : AP w' lo T (.slice (some ⟨g, 0, none⟩) (l.length + 1) cap) (l ++ [t]) := by
  obtain ⟨hl, hrow0, hE0, hp⟩ := h
  have hel : es.length = l.length := by rw [← hl]; simp
  have hvlt : ∀ b, v.ownBlock = some b → b < w0.heap.size := fun b hb => (hrow0.lt b hb).2
  have hsz := hb0.size
  have hgs := hg.size
  have hgn : ∀ b, b < w.heap.size → v.ownBlock ≠ some b → (Value.slice (some ⟨g, 0, none⟩) (l.length + 1) cap).ownBlock ≠ some b := by
    intro b hb hne
    simp only [Value.ownBlock, ne_eq, Option.some.injEq]
    rcases hfresh with hf | hf
    · intro e; exact hne (by rw [hf, e])
    · omega
  refine ⟨es ++ [⟨t, u, Rng w0.heap.size hi⟩], by simp [hl], ?_, fun e he => ?_, ?_⟩
  · have e1 : (es ++ [⟨t, u, Rng w0.heap.size hi⟩] : List Elem).length = l.length + 1 := by simp [hel]
    rw [e1, List.flatMap_append]
    simpa [Elem.cells] using hn
  · rcases List.mem_append.1 he with he | he
    · obtain ⟨a, c, d⟩ := hE0 e he
      refine ⟨a, c.kept (fun b hS => ?_), fun b hS => ?_⟩
      · obtain ⟨d1, d2, d3⟩ := d b hS
        rw [hg.block b (by omega) (fun e => d3 e.symm), hb0.block b d2]
      · obtain ⟨d1, d2, d3⟩ := d b hS
        exact ⟨d1, by omega, hgn b (by omega) d3⟩
    · rw [List.mem_singleton] at he
      subst he
      have hne : ∀ b, Rng w0.heap.size hi b → v.ownBlock ≠ some b := fun b hb e => by have := hvlt b e; have := hb.1; omega
      refine ⟨fit, ho.kept (fun b hS => hg.block b (by have := hS.2; omega) (fun e => hne b hS e.symm)), fun b hS => ?_⟩
      have h1 := hS.1; have h2 := hS.2
      exact ⟨by omega, by omega, hgn b (by omega) (hne b hS)⟩
  · rw [List.pairwise_append]
    refine ⟨hp, by simp, fun p hp' q hq b hb hb' => ?_⟩
    rw [List.mem_singleton] at hq
    subst hq
    have := ((hE0 p hp').2.2 b hb).2.1
    have := hb'.1
    omega

theorem flat_get (es : List Elem) {j : Nat} (hj : j < es.length) (r : Nat) (hr : r < 5) : (es.flatMap Elem.cells)[j * 5 + r]? = (cells5 es[j].t es[j].u)[r]? := by
  induction es generalizing j with
  | nil => simp at hj
  | cons e es ih =>
    have hl : (Elem.cells e).length = 5 := rfl
    rw [List.flatMap_cons]
    cases j with
    | zero =>
      rw [List.getElem?_append_left (by rw [hl]; omega)]
      simp [Elem.cells]
    | succ j =>
      rw [List.getElem?_append_right (by rw [hl]; omega), hl, show (j + 1) * 5 + r - 5 = j * 5 + r by omega]
      simpa using ih (by simpa using hj)

/-- What was gathered is owned. -/
theorem AP.osl {w : World} {lo : Nat} {T : TypeId} {v : Value} {l : List Tree} (h : AP w lo T v l) : OSl w T v l (Rng lo w.heap.size) := by
  obtain ⟨es, rfl, ho, hE, hp⟩ := h
  rcases ho.2 with ⟨rfl, h0⟩ | ⟨g, cap, cur, rfl, hb, hg, hnc, hcm, hcs, htake⟩
  · have : es = [] := List.eq_nil_of_length_eq_zero h0
    subst this
    exact .nil _ _ _ (by simp [maxLen])
  · by_cases h0 : es.length = 0
    · have : es = [] := List.eq_nil_of_length_eq_zero h0
      subst this
      exact .nil _ _ _ hcm
    · have hlt : g < w.heap.size := (Array.getElem?_eq_some_iff.1 hg).1
      have hcell : ∀ j (hj : j < es.length) r, r < 5 → some (cur.getD (j * 5 + r) undef) = (cells5 es[j].t es[j].u)[r]? := by
        intro j hj r hr
        rw [← flat_get es hj r hr, ← htake, List.getElem?_take, if_pos (by omega), Array.getElem?_toList]
        have : j * 5 + r < cur.size := by omega
        simp [Array.getD, this]
      have hlen : (es.map (·.t)).length = es.length := by simp
      have key := OSl.row (w := w) (T := T) (g := g) (cap := cap) (f := fun i => cur.getD i undef) (l := es.map (·.t)) (us := fun j => (es[j]?.map (·.u)).getD undef) (Si := fun j => (es[j]?.map (·.S)).getD (fun _ => False)) (S := Rng lo w.heap.size)
        (by rw [hlen]; omega) ⟨cur, hg, by omega, fun i hi => by simp [Array.getD, show i < cur.size by omega]⟩ (by rw [hlen]; exact hnc) hcm ?_ ?_ ⟨hb, hlt⟩ ?_ ?_
      · rwa [hlen] at key
      · intro j hj
        have hj' : j < es.length := by rwa [hlen] at hj
        have hm := hE es[j] (List.getElem_mem hj')
        rw [List.getElem_map]
        refine ⟨⟨?_, ?_, ?_, ?_, ?_⟩, hm.1⟩
        · have := hcell j hj' 0 (by omega); simpa [cells5] using this
        · have := hcell j hj' 1 (by omega); simpa [cells5] using this
        · have := hcell j hj' 2 (by omega); simpa [cells5] using this
        · have := hcell j hj' 3 (by omega); simpa [cells5] using this
        · have := hcell j hj' 4 (by omega); simpa [cells5, List.getElem?_eq_getElem hj'] using this
      · intro j hj
        have hj' : j < es.length := by rwa [hlen] at hj
        have hm := hE es[j] (List.getElem_mem hj')
        simpa [List.getElem?_eq_getElem hj'] using hm.2.1
      · intro j b hj hb'
        have hj' : j < es.length := by rwa [hlen] at hj
        have hm := (hE es[j] (List.getElem_mem hj')).2.2 b (by simpa [List.getElem?_eq_getElem hj'] using hb')
        exact ⟨⟨hm.1, hm.2.1⟩, fun e => hm.2.2 (by simp [Value.ownBlock, e])⟩
      · intro i j b hi hj hne hbi hbj
        have hi' : i < es.length := by rwa [hlen] at hi
        have hj' : j < es.length := by rwa [hlen] at hj
        rw [List.getElem?_eq_getElem hi'] at hbi
        rw [List.getElem?_eq_getElem hj'] at hbj
        simp only [Option.map_some, Option.getD_some] at hbi hbj
        have hpw := List.pairwise_iff_getElem.1 hp
        rcases Nat.lt_or_gt_of_ne hne with hlt' | hlt'
        · exact hpw i j hi' hj' hlt' b hbi hbj
        · exact hpw j i hj' hi' hlt' b hbj hbi

theorem AP.block {w : World} {lo : Nat} {T : TypeId} {v : Value} {l : List Tree} (h : AP w lo T v l) : ∀ b, v.ownBlock = some b → lo ≤ b ∧ b < w.heap.size := by
  obtain ⟨es, hl, ho, _, _⟩ := h
  exact fun b hb => ho.lt b hb
theorem AP.form {w : World} {lo : Nat} {T : TypeId} {v : Value} {l : List Tree} (h : AP w lo T v l) : ∃ a cap, v = .slice a l.length cap := by
  obtain ⟨es, rfl, ho, _, _⟩ := h
  rcases ho.2 with ⟨rfl, h0⟩ | ⟨g, cap, cur, rfl, _⟩
  · exact ⟨none, 0, by simp [h0]⟩
  · exact ⟨some ⟨g, 0, none⟩, cap, by rw [List.length_map]⟩

section
variable {P : Program}
theorem wpList_append_lies {ops : Array Oper} {rest : List Oper} {o : Oper} {a : Act} {w : World} {Q : Exit → Act → World → Prop} (hgd : o.guard = none) (s x : Operand) (t : TypeId)
    (ho : o.op = .call { callee := .builtin .append, args := #[s, x], argTypes := #[t, t] })
    (base : Nat) (e : TypeId) (i : TypeInfo) (z : Value) (size bytes : Nat) (ht : P.underlying t = some (.slice e)) (hi : P.info? e = some i) (hz : i.zero = some z)
    (hsize : i.size = size) (hby : i.bytes = bytes) (hzs : z.cells.size = size) (hsz : 0 < size)
    (v : Value) (n : Nat) (xs : List Value) (hs : a.eval s = v) (hown : w.ownsRow base e size v n xs)
    (ad : Addr) (m c : Nat) (news : List Value) (hx : a.eval x = .slice (some ad) m c) (hl : news.length = m * size) (hnews : ∀ j u, news[j]? = some u → w.cell? (ad.add j) = some u) (h1 : ∀ u ∈ news, u.oneCell' = true)
    (hm : 0 < m) (h63 : n + m ≤ maxLen) (hbytes : (n + m) * bytes ≤ 140737488355328) (hbase : base ≤ w.heap.size) (H : Nat) (hH : w.heap.size = H)
    (h : ∀ g cap w', w'.ownsRow base e size (.slice (some ⟨g, 0, none⟩) (n + m) cap) (n + m) (xs ++ news) → w.grownBy w' v.ownBlock → (v.ownBlock = some g ∨ g = H) → g < w'.heap.size → wpList P ops Q rest (a.put o.dst (.slice (some ⟨g, 0, none⟩) (n + m) cap)) w') : wpList P ops Q (o :: rest) a w :=
  wpList_plain hgd fun _ hK => wp_append_lies w s x t ho base e i z size bytes ht hi hz hsize hby hzs hsz v n xs hs hown ad m c news hx hl hnews h1 hm h63 hbytes hbase H hH fun g cap w' h2 h3 h4 h5 => hK _ _ (h g cap w' h2 h3 h4 h5)
end
end Go.Proofs.YtilmhemcpgiikaaDoor
/- Copies of trees: the program's copyVal and the reference's l6Copy; what they make is theirs alone. -/
namespace Go.Proofs.YtilmhemcpgiikaaDoor
open Go.Deep Go.ChangeShapes Go.WideShapes Go.ChangeAt Go.RowKit
open Go.ChangeMaps (open_string shut_string)

/-- What a copy is: the tree's parts, its elements owned, nothing turned below. -/
def CopyP (w : World) (t : Tree) : Ending → World → Prop := fun e w' => ∃ a n c, e = .returned (.agg #[.int .i64 t.kind, .int .i64 t.n, .int .i64 t.x, .string t.s, .slice a n c]) ∧ OSl w' 29 (.slice a n c) t.l (Rng w.heap.size w'.heap.size) ∧ Below w.heap.size w w'
def CopyC (f : FuncId) (t : Tree) : Prop := ∀ (w : World) (u : Value), t.cost ≤ 1048576 → TSl w u t.l → Fits t.kind t.n t.x t.s →
  Calls Tryd.prog f #[.agg #[.int .i64 t.kind, .int .i64 t.n, .int .i64 t.x, .string t.s, u]] w (CopyP w t)

theorem first_blocks (w : World) (o o' : Obj) : ((w.alloc o).alloc o').heap[w.heap.size]? = some o ∧ ((w.alloc o).alloc o').heap[w.heap.size + 1]? = some o' := by
  constructor
  · rw [Below.heap_alloc _ _ _ (by simp only [World.size_alloc]; omega)]
    exact heap_alloc_new w o
  · have := heap_alloc_new (w.alloc o) o'
    simpa only [World.size_alloc] using this
theorem osl_sets {w : World} {T : TypeId} {v : Value} {l : List Tree} {lo hi : Nat} {p : Addr} (h : OSl w T v l (Rng lo hi)) (hp : p.block < lo) (x : Value) : OSl (w.setCell p x) T v l (Rng lo hi) :=
  h.kept (fun b hb => Below.heap_setCell _ _ _ _ (by have := hb.1; omega))
theorem one5 (t : Tree) (a : Option Addr) (n c : Nat) : ∀ x ∈ cells5 t (.slice a n c), x.oneCell' = true := by
  intro x hx
  simp [cells5] at hx
  rcases hx with rfl | rfl | rfl | rfl | rfl <;> rfl
theorem take_snocT {l : List Tree} {j : Nat} (h : j < l.length) : l.take (j + 1) = l.take j ++ [l[j]] := List.take_succ_eq_append_getElem h

set_option maxRecDepth 100000 in
set_option maxHeartbeats 4000000 in
theorem copyVal_of (t : Tree) (ih : ∀ t' ∈ t.l, CopyC 119 t') : CopyC 119 t := by
  intro w u hcost hu hfit
  obtain ⟨i0, hi, hz, hs, hb⟩ := info_parts info_val
  have hc := Tree.cost_eq t
  have hcl := costL_eq t.l
  have hlen : t.l.length ≤ 1048576 := by omega
  have hcE : costE t.l ≤ 1048576 := by omega
  clear hc hcl hcost
  obtain ⟨a, cap, b, off, rfl, hcap, hmax, ha, hl⟩ := hu
  unfold maxLen at hmax
  have IH := Lib.hid ih; have HL := Lib.hid hl; have HA := Lib.hid ha; have HI := Lib.hid hi
  clear ih hl ha hi
  obtain ⟨hA, hB⟩ := first_blocks w (.cells #[.int .i64 t.kind, .int .i64 t.n, .int .i64 t.x, .string t.s, .slice a t.l.length cap] 29) (.cells #[.int .i64 0, .int .i64 0, .int .i64 0, .string { data := #[] }, .slice none 0 0] 29)
  have HBA := Lib.hid hA; have HBB := Lib.hid hB
  have HW := Lib.hid (vbelow2 w (.cells #[.int .i64 t.kind, .int .i64 t.n, .int .i64 t.x, .string t.s, .slice a t.l.length cap] 29) (.cells #[.int .i64 0, .int .i64 0, .int .i64 0, .string { data := #[] }, .slice none 0 0] 29))
  clear hA hB
  go_enter Tryd.func119, Tryd.ntmps119
  go_wp2_with fail
  generalize hW0 : ((w.alloc (.cells #[.int .i64 t.kind, .int .i64 t.n, .int .i64 t.x, .string t.s, .slice a t.l.length cap] 29)).alloc (.cells #[.int .i64 0, .int .i64 0, .int .i64 0, .string { data := #[] }, .slice none 0 0] 29)) = W0 at *
  have hs0 : W0.heap.size = w.heap.size + 2 := by rw [← hW0]; simp only [World.size_alloc]
  clear hW0
  go_loopw [3, 9] (fun v i wr => ∃ j : Nat, j ≤ t.l.length ∧ i = .int .i64 j ∧ Hid (AP wr W0.heap.size 29 v (t.l.take j)) ∧ Hid (Below W0.heap.size W0 wr)) (fun _ i _ => t.l.length - (intOf i).toNat)
  case atStart => exact ⟨0, by omega, rfl, Lib.hid (by simpa using AP.nil W0 _ _), Lib.hid (Below.refl _ _)⟩
  case round =>
    obtain ⟨j, hj, rfl, HP, HBW⟩ := hrel
    obtain ⟨a3, cap3, hv3⟩ := HP.out.form
    have htl : (t.l.take j).length = j := by rw [List.length_take]; omega
    rw [htl] at hv3
    subst hv3
    have hszr := HBW.out.size
    by_cases hjl : j < t.l.length
    · obtain rfl : a = some ⟨b, off, none⟩ := HA.out (by intro h; rw [h] at hjl; simp at hjl)
      have hTA := (HL.out j hjl).kept (HW.out.trans (HBW.out.mono (by omega)))
      obtain ⟨u, c0, c1, c2, c3, c4, hsl, hfit'⟩ := hTA.parts
      have hih := IH.out t.l[j] (List.getElem_mem hjl)
      have hcm := cost_mem (List.getElem_mem hjl)
      have hst := take_snocT hjl
      generalize t.l[j] = t' at *
      have HI2 := Lib.hid hih; have HST := Lib.hid hst; clear hih hst hTA
      obtain ⟨a2, n2, cap2, rfl⟩ := hsl.form
      have HSL := Lib.hid hsl; have HFT := Lib.hid hfit'; clear hsl hfit'
      go_wp2_with fail
      refine (HI2.out _ _ (by omega) (HSL.out.kept (vbelow1 _ _)) HFT.out).mono ?_
      rintro _ w1 ⟨a4, n4, k4, rfl, ho, hb1⟩
      obtain ⟨es, hes⟩ := HP.out
      have hbA := (vbelow1 wr (.cells #[.int .i64 t'.kind, .int .i64 t'.n, .int .i64 t'.x, .string t'.s, .slice a2 n2 cap2] 29))
      have hb01 := vnx hbA hb1
      have hsz1 := hb01.size
      have hown0 := owns_below hb01 hes.row
      rw [htl] at hown0
      have OWN := Lib.hid hown0; have HES := Lib.hid hes; have HO := Lib.hid ho; have HB01 := Lib.hid hb01
      clear hown0 hes ho hb01 hb1 hbA c0 c1 c2 c3 c4
      generalize hX : cells5 t' (.slice a4 n4 k4) = X
      have hXl : X.length = 1 * 5 := by rw [← hX]; rfl
      have hX1 : ∀ x ∈ X, x.oneCell' = true := by rw [← hX]; exact one5 _ _ _ _
      have hXn : ∀ (k : Nat) v, X[k]? = some v → (w1.alloc (.cells #[.int .i64 t'.kind, .int .i64 t'.n, .int .i64 t'.x, .string t'.s, .slice a4 n4 k4] 29)).cell? ((⟨w1.heap.size, 0, none⟩ : Addr).add k) = some v := by
        rw [← hX]
        exact World.news_of_block (heap_alloc_new _ _)
      have HX := Lib.hid hX; have HXN := Lib.hid hXn; have HX1 := Lib.hid hX1
      clear hX hXn hX1
      go_wp2_with (at_builtin; go_must (refine wpList_append_lies rfl (.tmp 13) (.tmp 16) 27 rfl W0.heap.size 29 i0 _ 5 64 Tryd.underlying27 HI.out hz hs hb rfl (by decide) _ _ _ rfl (OWN.out.alloc _) ⟨w1.heap.size, 0, none⟩ 1 1 X rfl hXl HXN.out HX1.out (by decide) (by unfold maxLen; omega) (by omega) (by simp only [World.size_alloc]; omega) _ rfl ?_); intro g cap5 w2 hown2 hg2 hf2 hlt2)
      have hb0 : Below wr.heap.size wr (w1.alloc (.cells #[.int .i64 t'.kind, .int .i64 t'.n, .int .i64 t'.x, .string t'.s, .slice a4 n4 k4] 29)) := HB01.out.alloc (by omega) _
      have hap := HES.out.snoc hb0 HFT.out (hi := w1.heap.size) ((HO.out.mono (fun b hb => ⟨by have := hb.1; simp only [World.size_alloc] at this; omega, hb.2⟩)).kept (fun b hb => Below.heap_alloc _ _ _ hb.2)) (by simp only [World.size_alloc]; omega) hszr (g := g) (cap := cap5) (w' := w2) (by rw [htl, HX.out]; exact hown2) hg2 hf2
      rw [htl, ← HST.out] at hap
      have hbw2 : Below W0.heap.size W0 w2 := ((HBW.out.trans (hb0.mono hszr))).grown hg2 (by simp only [World.size_alloc]; omega) (fun k hk => (OWN.out.lt k hk).1)
      have HAP := Lib.hid hap; have HBW2 := Lib.hid hbw2
      clear hap hbw2 hown2 hg2 hf2 hb0
      go_roundw
      case rel => exact ⟨j + 1, by omega, by go_num, HAP, HBW2⟩
      case measure => simp [intOf]; omega
    · obtain rfl : j = t.l.length := by omega
      have hosl := HP.out.osl
      rw [List.take_length] at hosl
      obtain ⟨p0, p1, p2, p3, p4, pf⟩ := five_kept HBW.out HBA.out
      obtain ⟨q0, q1, q2, q3, q4, qf⟩ := five_kept HBW.out HBB.out
      have pf4 := pf 4
      have qf0 := qf 0; have qf1 := qf 1; have qf2 := qf 2; have qf3 := qf 3; have qf4 := qf 4
      clear pf qf
      have HO := Lib.hid hosl; clear hosl
      go_wp2_with fail
      refine bodyPost_ret (v := .agg #[.int .i64 t.kind, .int .i64 t.n, .int .i64 t.x, .string t.s, .slice a3 t.l.length cap3]) (by simp [results, Tryd.results119, go_sem, q0, q1, q2, q3, q4]) rfl ?_
      unfold CopyP
      refine ⟨_, _, _, rfl, ?_, ?_⟩
      · refine OSl.mono (S := Rng W0.heap.size wr.heap.size) ?_ (fun b hb => ⟨by have := hb.1; omega, by have := hb.2; simpa [World.setCell] using this⟩)
        iterate 6 refine osl_sets ?_ (by dsimp only; omega) _
        exact HO.out
      · iterate 6 refine Below.setCell ?_ (by dsimp only; omega) _
        exact HW.out.trans (HBW.out.mono (by omega))
theorem copyVal_c (t : Tree) : CopyC 119 t := Tree.ind (p := CopyC 119) copyVal_of t

theorem field_L (k n x : Int) (s : ByteArray) (u : Value) (w : World) : (Instr.field 29 (.agg #[.int .i64 k, .int .i64 n, .int .i64 x, .string s, u]) 4).run Tryd.prog w = .ok u w := by kernel_rfl
/-- Copies of trees, by the program. -/
theorem copyVals_c (l : List Tree) (w : World) (u : Value) (hcost : costL l ≤ 1048576) (hu : TSl w u l) :
    Calls Tryd.prog 121 #[u] w fun e w' => ∃ a n c, e = .returned (.slice a n c) ∧ OSl w' 29 (.slice a n c) l (Rng w.heap.size w'.heap.size) ∧ Below w.heap.size w w' := by
  have hC := copyVal_c (.mk 0 0 0 { data := #[] } l) w u (by rw [Tree.cost_eq]; exact (Nat.zero_add _).symm ▸ hcost) hu ⟨by simp, by simp, by simp, by show 0 ≤ _; omega⟩
  have HC := Lib.hid hC
  obtain ⟨a, n, c, rfl⟩ := hu.form
  clear hC hu
  go_enter Tryd.func121, Tryd.ntmps121
  go_wp2_with fail
  refine HC.out.mono ?_
  rintro _ w1 ⟨a1, n1, c1, rfl, ho, hb⟩
  have HO := Lib.hid ho; clear ho
  have hfl := field_L 0 0 0 { data := #[] } (.slice a1 n1 c1) w1
  go_wp2_with fail
  go_ret
  exact ⟨_, _, _, rfl, HO.out, hb⟩

/-- A block of five cells, with its last one turned. -/
theorem five_set {w : World} {B : Nat} {a b c d e : Value} {T : TypeId} (h : w.heap[B]? = some (.cells #[a, b, c, d, e] T (0, 0))) (v : Value) : (w.setCell ⟨B, 4, none⟩ v).heap[B]? = some (.cells #[a, b, c, d, v] T (0, 0)) := by
  simp [World.setCell, Array.getElem?_modify, h]


theorem four_blocks (w : World) (o1 o2 o3 : Obj) (T : TypeId) :
    ((((w.alloc o1).alloc o2).alloc o3).alloc (.cells #[] T)).heap[w.heap.size]? = some o1 ∧ ((((w.alloc o1).alloc o2).alloc o3).alloc (.cells #[] T)).heap[w.heap.size + 1]? = some o2 ∧
    ((((w.alloc o1).alloc o2).alloc o3).alloc (.cells #[] T)).heap[w.heap.size + 1 + 1]? = some o3 ∧ AP ((((w.alloc o1).alloc o2).alloc o3).alloc (.cells #[] T)) (w.heap.size + 1 + 1 + 1) T (.slice (some ⟨w.heap.size + 1 + 1 + 1, 0, none⟩) 0 0) [] ∧
    ((((w.alloc o1).alloc o2).alloc o3).alloc (.cells #[] T)).heap.size = w.heap.size + 4 ∧ Below w.heap.size w ((((w.alloc o1).alloc o2).alloc o3).alloc (.cells #[] T)) := by
  have h1 := first_blocks w o1 o2
  have h3 := heap_alloc_new ((w.alloc o1).alloc o2) o3
  have h4 := AP.made (((w.alloc o1).alloc o2).alloc o3) T
  simp only [World.size_alloc] at h3 h4
  refine ⟨?_, ?_, ?_, h4, by simp only [World.size_alloc], ?_⟩
  · rw [Below.heap_alloc _ _ _ (by simp only [World.size_alloc]; omega), Below.heap_alloc _ _ _ (by simp only [World.size_alloc]; omega)]; exact h1.1
  · rw [Below.heap_alloc _ _ _ (by simp only [World.size_alloc]; omega), Below.heap_alloc _ _ _ (by simp only [World.size_alloc]; omega)]; exact h1.2
  · rw [Below.heap_alloc _ _ _ (by simp only [World.size_alloc]; omega)]; exact h3
  · exact (((vbelow2 w o1 o2)).alloc (by simp only [World.size_alloc]; omega) _).alloc (by simp only [World.size_alloc]; omega) _

set_option maxRecDepth 100000 in
set_option maxHeartbeats 4000000 in
theorem l6Copy_of (t : Tree) (ih : ∀ t' ∈ t.l, CopyC 79 t') : CopyC 79 t := by
  intro w u hcost hu hfit
  obtain ⟨i0, hi, hz, hs, hb⟩ := info_parts info_val
  have hc := Tree.cost_eq t
  have hcl := costL_eq t.l
  have hlen : t.l.length ≤ 1048576 := by omega
  have hcE : costE t.l ≤ 1048576 := by omega
  clear hc hcl hcost
  obtain ⟨a, cap, b, off, rfl, hcap, hmax, ha, hl⟩ := hu
  unfold maxLen at hmax
  have IH := Lib.hid ih; have HL := Lib.hid hl; have HA := Lib.hid ha; have HI := Lib.hid hi
  clear ih hl ha hi
  obtain ⟨hA, hB, hC, hP0, hs0, hw0⟩ := four_blocks w (.cells #[.int .i64 t.kind, .int .i64 t.n, .int .i64 t.x, .string t.s, .slice a t.l.length cap] 29) (.cells #[.int .i64 0, .int .i64 0, .int .i64 0, .string { data := #[] }, .slice none 0 0] 29) (.cells #[.int .i64 t.kind, .int .i64 t.n, .int .i64 t.x, .string t.s, .slice (some ⟨w.heap.size + 1 + 1 + 1, 0, none⟩) 0 0] 29) 29
  have HBA := Lib.hid hA; have HBB := Lib.hid hB; have HBC := Lib.hid hC; have HP0 := Lib.hid hP0; have HW0 := Lib.hid hw0; have HS0 := Lib.hid hs0
  clear hA hB hC hP0 hw0 hs0
  go_enter Tryd.func79, Tryd.ntmps79
  go_wp2_with fail
  generalize hW0 : ((((w.alloc (.cells #[.int .i64 t.kind, .int .i64 t.n, .int .i64 t.x, .string t.s, .slice a t.l.length cap] 29)).alloc (.cells #[.int .i64 0, .int .i64 0, .int .i64 0, .string { data := #[] }, .slice none 0 0] 29)).alloc (.cells #[.int .i64 t.kind, .int .i64 t.n, .int .i64 t.x, .string t.s, .slice (some ⟨w.heap.size + 1 + 1 + 1, 0, none⟩) 0 0] 29)).alloc (.cells #[] 29)) = W0 at *
  clear hW0
  go_loopw [4] (fun i wr => ∃ (j : Nat) (a3 : Option Addr) (cap3 : Nat), j ≤ t.l.length ∧ i = .int .i64 j ∧ w.heap.size + 4 ≤ wr.heap.size ∧ Hid (AP wr (w.heap.size + 1 + 1 + 1) 29 (.slice a3 j cap3) (t.l.take j)) ∧ Hid (Below w.heap.size w wr) ∧ Hid (wr.heap[w.heap.size]? = some (.cells #[.int .i64 t.kind, .int .i64 t.n, .int .i64 t.x, .string t.s, .slice a t.l.length cap] 29)) ∧ Hid (wr.heap[w.heap.size + 1]? = some (.cells #[.int .i64 0, .int .i64 0, .int .i64 0, .string { data := #[] }, .slice none 0 0] 29)) ∧ Hid (wr.heap[w.heap.size + 1 + 1]? = some (.cells #[.int .i64 t.kind, .int .i64 t.n, .int .i64 t.x, .string t.s, .slice a3 j cap3] 29))) (fun i _ => t.l.length - (intOf i).toNat)
  case atStart => exact ⟨0, _, _, by omega, rfl, by have := HS0.out; omega, HP0, HW0, HBA, HBB, HBC⟩
  case round =>
    obtain ⟨j, a3, cap3, hj, rfl, hszr, HP, HBW, HBA, HBB, HBC⟩ := hrel
    have htl : (t.l.take j).length = j := by rw [List.length_take]; omega
    obtain ⟨p0, p1, p2, p3, p4, pf⟩ := five_kept (Below.refl _ _) HBA.out
    clear p0 p1 p2 p3 pf
    by_cases hjl : j < t.l.length
    · obtain rfl : a = some ⟨b, off, none⟩ := HA.out (by intro h; rw [h] at hjl; simp at hjl)
      have hTA := (HL.out j hjl).kept HBW.out
      obtain ⟨u, c0, c1, c2, c3, c4, hsl, hfit'⟩ := hTA.parts
      have hih := IH.out t.l[j] (List.getElem_mem hjl)
      have hcm := cost_mem (List.getElem_mem hjl)
      have hst := take_snocT hjl
      generalize t.l[j] = t' at *
      have HI2 := Lib.hid hih; have HST := Lib.hid hst; clear hih hst hTA
      obtain ⟨a2, n2, cap2, rfl⟩ := hsl.form
      have HSL := Lib.hid hsl; have HFT := Lib.hid hfit'; clear hsl hfit'
      go_wp2_with fail
      refine (HI2.out _ _ (by omega) HSL.out HFT.out).mono ?_
      rintro _ w1 ⟨a4, n4, k4, rfl, ho, hb1⟩
      obtain ⟨es, hes⟩ := HP.out
      have hsz1 := hb1.size
      have hb01 : Below wr.heap.size wr (w1.alloc (.cells #[.int .i64 t'.kind, .int .i64 t'.n, .int .i64 t'.x, .string t'.s, .slice a4 n4 k4] 29)) := hb1.alloc hsz1 _
      have hown0 := owns_below hb01 hes.row
      rw [htl] at hown0
      have q4 := (five_kept hb01 HBC.out).2.2.2.2.1
      have HBK : Hid (∀ (o : Obj) (w3 : World), ((w1.alloc (.cells #[.int .i64 t'.kind, .int .i64 t'.n, .int .i64 t'.x, .string t'.s, .slice a4 n4 k4] 29)).alloc o).grownBy w3 (Value.slice a3 j cap3).ownBlock → w3.heap[w.heap.size]? = wr.heap[w.heap.size]? ∧ w3.heap[w.heap.size + 1]? = wr.heap[w.heap.size + 1]? ∧ w3.heap[w.heap.size + 1 + 1]? = wr.heap[w.heap.size + 1 + 1]?) := Lib.hid (fun o w3 hg => by
        have hne : ∀ i, i < w.heap.size + 1 + 1 + 1 → some i ≠ (Value.slice a3 j cap3).ownBlock := fun i hi e => by have := HP.out.block i e.symm; omega
        have hh : ∀ i, i < w.heap.size + 1 + 1 + 1 → w3.heap[i]? = wr.heap[i]? := fun i hi => by
          rw [hg.block i (by simp only [World.size_alloc]; omega) (hne i hi), Below.heap_alloc _ _ _ (by simp only [World.size_alloc]; omega), Below.heap_alloc _ _ _ (by omega), hb1.block i (by omega)]
        exact ⟨hh _ (by omega), hh _ (by omega), hh _ (by omega)⟩)
      have OWN := Lib.hid hown0; have HES := Lib.hid hes; have HO := Lib.hid ho; have HB01 := Lib.hid hb01
      clear hown0 hes ho hb01 hb1 c0 c1 c2 c3 c4
      generalize hX : cells5 t' (.slice a4 n4 k4) = X
      have hXl : X.length = 1 * 5 := by rw [← hX]; rfl
      have hX1 : ∀ x ∈ X, x.oneCell' = true := by rw [← hX]; exact one5 _ _ _ _
      have hXn : ∀ (k : Nat) v, X[k]? = some v → ((w1.alloc (.cells #[.int .i64 t'.kind, .int .i64 t'.n, .int .i64 t'.x, .string t'.s, .slice a4 n4 k4] 29)).alloc (.cells #[.int .i64 t'.kind, .int .i64 t'.n, .int .i64 t'.x, .string t'.s, .slice a4 n4 k4] 29)).cell? ((⟨w1.heap.size + 1, 0, none⟩ : Addr).add k) = some v := by
        rw [← hX]
        exact World.news_of_block (first_blocks w1 _ _).2
      have HX := Lib.hid hX; have HXN := Lib.hid hXn; have HX1 := Lib.hid hX1
      clear hX hXn hX1
      go_wp2_with (at_builtin; go_must (refine wpList_append_lies rfl (.tmp 23) (.tmp 25) 27 rfl (w.heap.size + 1 + 1 + 1) 29 i0 _ 5 64 Tryd.underlying27 HI.out hz hs hb rfl (by decide) _ _ _ rfl (OWN.out.alloc _) ⟨w1.heap.size + 1, 0, none⟩ 1 1 X rfl hXl HXN.out HX1.out (by decide) (by unfold maxLen; omega) (by omega) (by simp only [World.size_alloc]; omega) _ rfl ?_); intro g cap5 w2 hown2 hg2 hf2 hlt2; obtain ⟨z1, z2, z3⟩ := HBK.out _ _ hg2; rw [HBA.out] at z1; rw [HBB.out] at z2; rw [HBC.out] at z3; have y4 := (five_kept (Below.refl _ _) z3).2.2.2.2.1; have yf := (five_kept (Below.refl _ _) z3).2.2.2.2.2 4; have Z1 := Lib.hid z1; have Z2 := Lib.hid z2; have Z3 := Lib.hid z3; have HOWN2 := Lib.hid hown2; have HG2 := Lib.hid hg2; have HF2 := Lib.hid hf2; clear z1 z2 z3 hown2 hg2 hf2)
      have hb0 : Below wr.heap.size wr ((w1.alloc (.cells #[.int .i64 t'.kind, .int .i64 t'.n, .int .i64 t'.x, .string t'.s, .slice a4 n4 k4] 29)).alloc (.cells #[.int .i64 t'.kind, .int .i64 t'.n, .int .i64 t'.x, .string t'.s, .slice a4 n4 k4] 29)) := HB01.out.alloc (by simp only [World.size_alloc]; omega) _
      have hap := HES.out.snoc hb0 HFT.out (hi := w1.heap.size) (HO.out.kept (fun b hb => by rw [Below.heap_alloc _ _ _ (by simp only [World.size_alloc]; have := hb.2; omega), Below.heap_alloc _ _ _ hb.2])) (by simp only [World.size_alloc]; omega) (by omega) (g := g) (cap := cap5) (w' := w2) (by rw [htl, HX.out]; exact HOWN2.out) HG2.out (by
        rcases HF2.out with h | h
        · exact .inl h
        · right; rw [h])
      rw [htl, ← HST.out] at hap
      have hgs := HG2.out.size
      simp only [World.size_alloc] at hgs
      have hap2 : AP (w2.setCell ⟨w.heap.size + 1 + 1, 4, none⟩ (.slice (some ⟨g, 0, none⟩) (j + 1) cap5)) (w.heap.size + 1 + 1 + 1) 29 (.slice (some ⟨g, 0, none⟩) (j + 1) cap5) (t.l.take (j + 1)) :=
        hap.kept_lo (by simp) (fun b hb _ => Below.heap_setCell _ _ _ _ (by dsimp only; omega))
      have hbw2 : Below w.heap.size w (w2.setCell ⟨w.heap.size + 1 + 1, 4, none⟩ (.slice (some ⟨g, 0, none⟩) (j + 1) cap5)) := ((HBW.out.trans (hb0.mono (by omega))).grown HG2.out (by simp only [World.size_alloc]; omega) (fun k hk => by have := HP.out.block k hk; omega)).setCell (by dsimp only; omega) _
      have HAP := Lib.hid hap2; have HBW2 := Lib.hid hbw2
      have HZ1 := Lib.hid ((Below.heap_setCell w2 ⟨w.heap.size + 1 + 1, 4, none⟩ (.slice (some ⟨g, 0, none⟩) (j + 1) cap5) w.heap.size (by dsimp only; omega)).trans Z1.out)
      have HZ2 := Lib.hid ((Below.heap_setCell w2 ⟨w.heap.size + 1 + 1, 4, none⟩ (.slice (some ⟨g, 0, none⟩) (j + 1) cap5) (w.heap.size + 1) (by dsimp only; omega)).trans Z2.out)
      have HZ3 := Lib.hid (five_set Z3.out (.slice (some ⟨g, 0, none⟩) (j + 1) cap5))
      clear hap hap2 hbw2 hb0
      go_roundw
      case rel => exact ⟨j + 1, _, _, by omega, by go_num, by simp only [World.size_setCell]; omega, HAP, HBW2, HZ1, HZ2, HZ3⟩
      case measure => simp [intOf]; omega
    · obtain rfl : j = t.l.length := by omega
      have hosl := HP.out.osl
      rw [List.take_length] at hosl
      obtain ⟨r0, r1, r2, r3, r4, rf⟩ := five_kept (Below.refl _ _) HBC.out
      obtain ⟨q0, q1, q2, q3, q4, qf⟩ := five_kept (Below.refl _ _) HBB.out
      have qf0 := qf 0; have qf1 := qf 1; have qf2 := qf 2; have qf3 := qf 3; have qf4 := qf 4
      clear qf rf
      have HO := Lib.hid hosl; clear hosl
      go_wp2_with fail
      refine bodyPost_ret (v := .agg #[.int .i64 t.kind, .int .i64 t.n, .int .i64 t.x, .string t.s, .slice a3 t.l.length cap3]) (by simp [results, Tryd.results79, go_sem, q0, q1, q2, q3, q4]) rfl ?_
      unfold CopyP
      refine ⟨_, _, _, rfl, ?_, ?_⟩
      · refine OSl.mono (S := Rng (w.heap.size + 1 + 1 + 1) wr.heap.size) ?_ (fun b hb => ⟨by have := hb.1; omega, by have := hb.2; simpa [World.setCell] using this⟩)
        iterate 5 refine osl_sets ?_ (by dsimp only; omega) _
        exact HO.out
      · iterate 5 refine Below.setCell ?_ (by dsimp only; omega) _
        exact HBW.out
theorem l6Copy_c (t : Tree) : CopyC 79 t := Tree.ind (p := CopyC 79) l6Copy_of t



end Go.Proofs.YtilmhemcpgiikaaDoor
/- RuneOk, and how wide a character is. -/
namespace Go.Proofs.YtilmhemcpgiikaaDoor
open Go.Deep Go.ChangeShapes Go.WideShapes Go.ChangeAt Go.RowKit
open Go.ChangeMaps (open_string shut_string)


/-- Is a number a character? -/
def runeOkB (n : Int) : Bool := inB n 0 1114111 && !inB n 55296 57343
theorem runeOkB_true {n : Int} : runeOkB n = true ↔ (0 ≤ n ∧ n ≤ 1114111) ∧ (n < 55296 ∨ 57343 < n) := by
  unfold runeOkB
  rw [Bool.and_eq_true, inB_true, Bool.not_eq_true', inB_false]
theorem runeOkB_false {n : Int} : runeOkB n = false ↔ n < 0 ∨ 1114111 < n ∨ (55296 ≤ n ∧ n ≤ 57343) := by
  rw [← Bool.not_eq_true, runeOkB_true]; omega
/-- The bytes of a character, none of what is none. -/
def encZ (n : Int) : List Int := if runeOkB n = true then Lib.encodeRuneZ n else []
def wideF (n : Int) : Int := if runeOkB n = true then (if n < 128 then 1 else if n < 2048 then 2 else if n < 65536 then 3 else 4) else 0
theorem encZ_len (n : Int) : ((encZ n).length : Int) = wideF n := by
  unfold encZ wideF
  by_cases h : runeOkB n = true
  · rw [if_pos h, if_pos h]
    have h' := runeOkB_true.1 h
    by_cases h1 : n < 128
    · rw [Lib.encodeRuneZ_one (by omega) (by omega), if_pos h1]; rfl
    by_cases h2 : n < 2048
    · rw [Lib.encodeRuneZ_two (by omega) (by omega), if_neg h1, if_pos h2]; rfl
    by_cases h3 : n < 65536
    · rw [Lib.encodeRuneZ_three (by omega), if_neg h1, if_neg h2, if_pos h3]; rfl
    · rw [Lib.encodeRuneZ_four (by omega) (by omega), if_neg h1, if_neg h2, if_neg h3]; rfl
  · rw [if_neg h, if_neg h]; rfl
theorem wideF_bd (n : Int) : 0 ≤ wideF n ∧ wideF n ≤ 4 := by unfold wideF; (repeat' split) <;> omega

theorem runeOk_spec (n : Int) (w : World) :
    Calls Tryd.prog 208 #[.int .i64 n] w fun e w' => e = .returned (.bool (runeOkB n)) ∧ w = w' := by
  unfold runeOkB
  cases h1 : inB n 0 1114111 with
  | false =>
    go_enter Tryd.func208, Tryd.ntmps208
    go_wp2_with (go_at_call 98; refine (l1In_c _ _ _ _).mono ?_; rintro e w' ⟨rfl, rfl⟩)
    go_ret; exact ⟨rfl, rfl⟩
  | true =>
    cases h2 : inB n 55296 57343
    all_goals
      go_enter Tryd.func208, Tryd.ntmps208
      go_wp2_with (go_at_call 98; refine (l1In_c _ _ _ _).mono ?_; rintro e w' ⟨rfl, rfl⟩)
      go_ret; exact ⟨rfl, rfl⟩


set_option maxHeartbeats 1000000 in
theorem wideOf_spec (n : Int) (w : World) :
    Calls Tryd.prog 202 #[.int .i64 n] w fun e w' => e = .returned (.int .i64 (wideF n)) ∧ w = w' := by
  unfold wideF
  cases h1 : runeOkB n with
  | false =>
    rw [if_neg (by simp)]
    go_enter Tryd.func202, Tryd.ntmps202
    go_wp2_with (go_at_call 208; refine (runeOk_spec _ _).mono ?_; rintro e w' ⟨rfl, rfl⟩)
    go_ret; exact ⟨rfl, rfl⟩
  | true =>
    rw [if_pos rfl]
    by_cases c1 : n < 128
    · rw [if_pos c1]
      go_enter Tryd.func202, Tryd.ntmps202
      go_wp2_with (go_at_call 208; refine (runeOk_spec _ _).mono ?_; rintro e w' ⟨rfl, rfl⟩)
      go_ret; exact ⟨rfl, rfl⟩
    rw [if_neg c1]
    by_cases c2 : n < 2048
    · rw [if_pos c2]
      go_enter Tryd.func202, Tryd.ntmps202
      go_wp2_with (go_at_call 208; refine (runeOk_spec _ _).mono ?_; rintro e w' ⟨rfl, rfl⟩)
      go_ret; exact ⟨rfl, rfl⟩
    rw [if_neg c2]
    by_cases c3 : n < 65536
    · rw [if_pos c3]
      go_enter Tryd.func202, Tryd.ntmps202
      go_wp2_with (go_at_call 208; refine (runeOk_spec _ _).mono ?_; rintro e w' ⟨rfl, rfl⟩)
      go_ret; exact ⟨rfl, rfl⟩
    rw [if_neg c3]
    go_enter Tryd.func202, Tryd.ntmps202
    go_wp2_with (go_at_call 208; refine (runeOk_spec _ _).mono ?_; rintro e w' ⟨rfl, rfl⟩)
    go_ret; exact ⟨rfl, rfl⟩

end Go.Proofs.YtilmhemcpgiikaaDoor
/- The plain law under GetRune: the reference's way and the decoder's give the same. -/
namespace Go.Proofs.YtilmhemcpgiikaaDoor

/-- How many bytes a lead byte announces; 0: none. -/
def leadW (x : Nat) : Nat := if x < 128 then 1 else if 192 ≤ x ∧ x ≤ 223 then 2 else if 224 ≤ x ∧ x ≤ 239 then 3 else if 240 ≤ x ∧ x ≤ 247 then 4 else 0
/-- What a lead byte holds. -/
def leadN (x : Nat) : Int := if x < 128 then x else if x ≤ 223 then x - 192 else if x ≤ 239 then x - 224 else x - 240
/-- What the first bytes hold. -/
def accB (b : Nat → Nat) : Nat → Int
  | 0 => leadN (b 0)
  | i + 1 => 64 * accB b i + b (i + 1) - 128
def contB (b : Nat → Nat) (w : Nat) : Prop := ∀ i, 1 ≤ i → i < w → 128 ≤ b i ∧ b i ≤ 191
def goodB (n : Nat) (b : Nat → Nat) : Prop := leadW (b 0) ≠ 0 ∧ leadW (b 0) ≤ n ∧ contB b (leadW (b 0)) ∧ wideF (accB b (leadW (b 0) - 1)) = leadW (b 0)
open Classical in
/-- The character at the head, its width, and whether there is one. -/
noncomputable def getF (n : Nat) (b : Nat → Nat) : Int × Int × Bool := if goodB n b then (accB b (leadW (b 0) - 1), leadW (b 0), true) else (0, 0, false)
theorem wideF_iff (n w : Int) (h : 1 ≤ w) : wideF n = w ↔ (0 ≤ n ∧ n ≤ 1114111 ∧ (n < 55296 ∨ 57343 < n)) ∧ ((n < 128 ∧ w = 1) ∨ (128 ≤ n ∧ n < 2048 ∧ w = 2) ∨ (2048 ≤ n ∧ n < 65536 ∧ w = 3) ∨ (65536 ≤ n ∧ w = 4)) := by
  unfold wideF
  by_cases hk : runeOkB n = true
  · have := runeOkB_true.1 hk
    rw [if_pos hk]
    repeat' split
    all_goals omega
  · have := runeOkB_false.1 (by simpa using hk)
    rw [if_neg hk]
    omega
/-- Both ways say the same. -/
theorem getF_eq (n : Nat) (b : Nat → Nat) (hn : 1 ≤ n) (hb : ∀ i, b i < 256) :
    getF n b = if Lib.decodeN n (b 0) (b 1) (b 2) (b 3) = (65533, 1) then (0, 0, false) else (((Lib.decodeN n (b 0) (b 1) (b 2) (b 3)).1 : Int), ((Lib.decodeN n (b 0) (b 1) (b 2) (b 3)).2 : Int), true) := by
  have h0 := hb 0; have h1 := hb 1; have h2 := hb 2; have h3 := hb 3
  have key : (goodB n b ∧ Lib.decodeN n (b 0) (b 1) (b 2) (b 3) ≠ (65533, 1) ∧ accB b (leadW (b 0) - 1) = (Lib.decodeN n (b 0) (b 1) (b 2) (b 3)).1 ∧ leadW (b 0) = (Lib.decodeN n (b 0) (b 1) (b 2) (b 3)).2) ∨ (¬ goodB n b ∧ Lib.decodeN n (b 0) (b 1) (b 2) (b 3) = (65533, 1)) := by
    by_cases c1 : b 0 < 128
    · left
      have hd : Lib.decodeN n (b 0) (b 1) (b 2) (b 3) = (b 0, 1) := by unfold Lib.decodeN; rw [if_pos c1]
      have hw : leadW (b 0) = 1 := by unfold leadW; rw [if_pos c1]
      have ha : accB b (1 - 1) = (b 0 : Int) := by show leadN (b 0) = _; unfold leadN; rw [if_pos c1]
      unfold goodB
      rw [hd, hw, ha]
      refine ⟨⟨by omega, hn, fun i a b => by omega, ?_⟩, by intro h; rw [Prod.mk.injEq] at h; omega, rfl, rfl⟩
      rw [wideF_iff _ _ (by omega)]; omega
    by_cases c2 : 192 ≤ b 0 ∧ b 0 ≤ 223
    · have hw : leadW (b 0) = 2 := by unfold leadW; rw [if_neg c1, if_pos c2]
      have ha : accB b (2 - 1) = 64 * ((b 0 : Int) - 192) + b 1 - 128 := by show 64 * leadN (b 0) + b 1 - 128 = _; unfold leadN; rw [if_neg c1, if_pos c2.2]
      have hc : contB b 2 ↔ 128 ≤ b 1 ∧ b 1 ≤ 191 := ⟨fun h => h 1 (by omega) (by omega), fun h i a c => by obtain rfl : i = 1 := (by omega); exact h⟩
      have hg : goodB n b ↔ 2 ≤ n ∧ (128 ≤ b 1 ∧ b 1 ≤ 191) ∧ 128 ≤ 64 * ((b 0 : Int) - 192) + b 1 - 128 := by
        unfold goodB; rw [hw, ha, hc, wideF_iff _ _ (by omega)]
        omega
      rw [hg, hw, ha]
      unfold Lib.decodeN
      rw [if_neg c1]
      repeat' split
      all_goals first
        | (left; refine ⟨by omega, by intro h; rw [Prod.mk.injEq] at h; omega, by simp only; omega, rfl⟩)
        | (right; refine ⟨by omega, rfl⟩)
        | (exfalso; omega)
    by_cases c3 : 224 ≤ b 0 ∧ b 0 ≤ 239
    · have hw : leadW (b 0) = 3 := by unfold leadW; rw [if_neg c1, if_neg c2, if_pos c3]
      have ha : accB b (3 - 1) = 64 * (64 * ((b 0 : Int) - 224) + b 1 - 128) + b 2 - 128 := by show 64 * (64 * leadN (b 0) + b 1 - 128) + b 2 - 128 = _; unfold leadN; rw [if_neg c1, if_neg (by omega), if_pos c3.2]
      have hc : contB b 3 ↔ (128 ≤ b 1 ∧ b 1 ≤ 191) ∧ (128 ≤ b 2 ∧ b 2 ≤ 191) := ⟨fun h => ⟨h 1 (by omega) (by omega), h 2 (by omega) (by omega)⟩, fun h i a c => by rcases (show i = 1 ∨ i = 2 by omega) with rfl | rfl; exact h.1; exact h.2⟩
      have hg : goodB n b ↔ 3 ≤ n ∧ ((128 ≤ b 1 ∧ b 1 ≤ 191) ∧ (128 ≤ b 2 ∧ b 2 ≤ 191)) ∧ 2048 ≤ 64 * (64 * ((b 0 : Int) - 224) + b 1 - 128) + b 2 - 128 ∧ (64 * (64 * ((b 0 : Int) - 224) + b 1 - 128) + b 2 - 128 < 55296 ∨ 57343 < 64 * (64 * ((b 0 : Int) - 224) + b 1 - 128) + b 2 - 128) := by
        unfold goodB; rw [hw, ha, hc, wideF_iff _ _ (by omega)]
        omega
      rw [hg, hw, ha]
      unfold Lib.decodeN
      rw [if_neg c1, if_neg (by omega)]
      repeat' split
      all_goals first
        | (left; refine ⟨by omega, by intro h; rw [Prod.mk.injEq] at h; omega, by simp only; omega, rfl⟩)
        | (right; refine ⟨by omega, rfl⟩)
        | (exfalso; omega)
    by_cases c4 : 240 ≤ b 0 ∧ b 0 ≤ 247
    · have hw : leadW (b 0) = 4 := by unfold leadW; rw [if_neg c1, if_neg c2, if_neg c3, if_pos c4]
      have ha : accB b (4 - 1) = 64 * (64 * (64 * ((b 0 : Int) - 240) + b 1 - 128) + b 2 - 128) + b 3 - 128 := by show 64 * (64 * (64 * leadN (b 0) + b 1 - 128) + b 2 - 128) + b 3 - 128 = _; unfold leadN; rw [if_neg c1, if_neg (by omega), if_neg (by omega)]
      have hc : contB b 4 ↔ (128 ≤ b 1 ∧ b 1 ≤ 191) ∧ (128 ≤ b 2 ∧ b 2 ≤ 191) ∧ (128 ≤ b 3 ∧ b 3 ≤ 191) := ⟨fun h => ⟨h 1 (by omega) (by omega), h 2 (by omega) (by omega), h 3 (by omega) (by omega)⟩, fun h i a c => by rcases (show i = 1 ∨ i = 2 ∨ i = 3 by omega) with rfl | rfl | rfl; exact h.1; exact h.2.1; exact h.2.2⟩
      have hg : goodB n b ↔ 4 ≤ n ∧ ((128 ≤ b 1 ∧ b 1 ≤ 191) ∧ (128 ≤ b 2 ∧ b 2 ≤ 191) ∧ (128 ≤ b 3 ∧ b 3 ≤ 191)) ∧ 65536 ≤ 64 * (64 * (64 * ((b 0 : Int) - 240) + b 1 - 128) + b 2 - 128) + b 3 - 128 ∧ 64 * (64 * (64 * ((b 0 : Int) - 240) + b 1 - 128) + b 2 - 128) + b 3 - 128 ≤ 1114111 := by
        unfold goodB; rw [hw, ha, hc, wideF_iff _ _ (by omega)]
        omega
      rw [hg, hw, ha]
      unfold Lib.decodeN
      rw [if_neg c1, if_neg (by omega), if_neg (by omega)]
      repeat' split
      all_goals first
        | (left; refine ⟨by omega, by intro h; rw [Prod.mk.injEq] at h; omega, by simp only; omega, rfl⟩)
        | (right; refine ⟨by omega, rfl⟩)
        | (exfalso; omega)
    · right
      have hw : leadW (b 0) = 0 := by unfold leadW; rw [if_neg c1, if_neg c2, if_neg c3, if_neg c4]
      refine ⟨fun h => h.1 hw, ?_⟩
      unfold Lib.decodeN
      rw [if_neg c1, if_neg (by omega), if_neg (by omega), if_neg (by omega)]
  unfold getF
  rcases key with ⟨a, c, d, e⟩ | ⟨a, c⟩
  · rw [if_pos a, if_neg c, d, e]
  · rw [if_neg a, if_pos c]
end Go.Proofs.YtilmhemcpgiikaaDoor
/- GetRune of the reference. -/
namespace Go.Proofs.YtilmhemcpgiikaaDoor
open Go.Deep Go.ChangeShapes Go.WideShapes Go.ChangeAt Go.RowKit
open Go.ChangeMaps (open_string shut_string)

theorem wrap_mid {n : Int} (h : -9223372036854775808 ≤ n) (h2 : n ≤ 9223372036854775807) : IntKind.i64.wrap n = n := by
  unfold IntKind.wrap; simp [IntKind.bits, IntKind.signed]; omega
/-- The bytes from a place on. -/
def bzf (zs : List Int) (p : Nat) : Nat → Nat := fun i => (zs.getD (p + i) 0).toNat
theorem byte_at {zs : List Int} (hz : ∀ n ∈ zs, (Lit.int .u8 n).wf = true) (i : Nat) : 0 ≤ zs.getD i 0 ∧ zs.getD i 0 ≤ 255 := by
  rw [List.getD_eq_getElem?_getD]
  cases h : zs[i]? with
  | none => simp
  | some x =>
    have := hz x (List.mem_of_getElem? h)
    have h2 : (0 : Int) ≤ x ∧ x ≤ 255 := by simpa [Lit.wf, IntKind.min, IntKind.max, IntKind.bits, IntKind.signed] using this
    simpa using h2
theorem bzf_eq {zs : List Int} (hz : ∀ n ∈ zs, (Lit.int .u8 n).wf = true) (p i : Nat) : ((bzf zs p i : Nat) : Int) = zs.getD (p + i) 0 := by
  have := byte_at hz (p + i); unfold bzf; omega
theorem bzf_lt {zs : List Int} (hz : ∀ n ∈ zs, (Lit.int .u8 n).wf = true) (p i : Nat) : bzf zs p i < 256 := by
  have := byte_at hz (p + i); unfold bzf; omega
/-- What GetRune answers. -/
noncomputable def getV (zs : List Int) (p : Int) : Int × Int × Bool :=
  if 0 ≤ p ∧ p < zs.length then (if (getF (zs.length - p.toNat) (bzf zs p.toNat)).2.2 = true then ((getF (zs.length - p.toNat) (bzf zs p.toNat)).1, p + (getF (zs.length - p.toNat) (bzf zs p.toNat)).2.1, true) else (0, 0, false)) else (0, 0, false)

theorem getV_no {zs : List Int} {p : Int} (h : ¬(0 ≤ p ∧ p < zs.length)) : getV zs p = (0, 0, false) := if_neg h
theorem getV_bad {zs : List Int} {p : Nat} (h : ¬ goodB (zs.length - p) (bzf zs p)) : getV zs p = (0, 0, false) := by
  unfold getV
  split
  · rw [show ((p : Int)).toNat = p by omega]
    unfold getF
    rw [if_neg h, if_neg (by simp)]
  · rfl
theorem getV_good {zs : List Int} {p : Nat} (hp : p < zs.length) (h : goodB (zs.length - p) (bzf zs p)) : getV zs p = (accB (bzf zs p) (leadW (bzf zs p 0) - 1), (p : Int) + (leadW (bzf zs p 0) : Nat), true) := by
  unfold getV
  rw [if_pos ⟨by omega, by omega⟩, show ((p : Int)).toNat = p by omega]
  unfold getF
  rw [if_pos h, if_pos rfl]
theorem leadN_bd {x : Nat} (h0 : leadW x ≠ 0) : 0 ≤ leadN x ∧ leadN x < 512 := by
  unfold leadW at h0
  unfold leadN
  (repeat' split at h0) <;> (repeat' split) <;> omega
theorem accB_bd (b : Nat → Nat) (h0 : leadW (b 0) ≠ 0) : ∀ j, j ≤ 3 → (∀ i, 1 ≤ i → i ≤ j → 128 ≤ b i ∧ b i ≤ 191) → 0 ≤ accB b j ∧ accB b j < 64 ^ j * 512
  | 0, _, _ => by simpa [accB] using leadN_bd h0
  | j + 1, h, hc => by
    have h1 := accB_bd b h0 j (by omega) (fun i a c => hc i a (by omega))
    have h2 := hc (j + 1) (by omega) (by omega)
    have e : (64 : Int) ^ (j + 1) = 64 ^ j * 64 := Int.pow_succ _ _
    simp only [accB, e]
    generalize (64 : Int) ^ j = T at *
    omega
theorem pow_small {j : Nat} (h : j ≤ 3) : (64 : Int) ^ j * 512 ≤ 134217728 := by
  have : (j = 0 ∨ j = 1) ∨ j = 2 ∨ j = 3 := by omega
  rcases this with (rfl | rfl) | rfl | rfl <;> decide

end Go.Proofs.YtilmhemcpgiikaaDoor
/- GetRune of the reference, at every place of every slice. -/
namespace Go.Proofs.YtilmhemcpgiikaaDoor
open Go.Deep Go.ChangeShapes Go.WideShapes Go.ChangeAt Go.RowKit
open Go.ChangeMaps (open_string shut_string)

end Go.Proofs.YtilmhemcpgiikaaDoor
/- The plain law under GetRune, over lists of bytes: what GetRune answers is what the decoder of a list's tail says. -/
namespace Go.Proofs.YtilmhemcpgiikaaDoor

theorem decodeN_four (n b0 b1 b2 b3 : Nat) : Lib.decodeN (min 4 n) b0 b1 b2 b3 = Lib.decodeN n b0 b1 b2 b3 := by
  have c1 : (1 < min 4 n) = (1 < n) := propext ⟨fun h => by omega, fun h => by omega⟩
  have c2 : (2 < min 4 n) = (2 < n) := propext ⟨fun h => by omega, fun h => by omega⟩
  have c3 : (3 < min 4 n) = (3 < n) := propext ⟨fun h => by omega, fun h => by omega⟩
  unfold Lib.decodeN
  simp only [c1, c2, c3]
theorem dec_le (l : List UInt8) (hne : l ≠ []) : (Lib.decodeL l).2 ≤ l.length := by
  have hl : 0 < l.length := List.length_pos_iff.2 hne
  rw [Lib.decodeL_N]
  unfold Lib.decodeN
  repeat' split
  all_goals (simp only; omega)
theorem decodeL_take (l : List UInt8) : Lib.decodeL (l.take 4) = Lib.decodeL l := by
  rw [Lib.decodeL_N, Lib.decodeL_N, List.length_take, decodeN_four]
  congr 2 <;> simp [List.getD_eq_getElem?_getD]
theorem bzf_bz (l : List UInt8) (p i : Nat) : bzf (bz l) p i = ((l.drop p).getD i 0).toNat := by
  unfold bzf
  by_cases h : p + i < l.length
  · rw [bz_getD h]
    simp [List.getD_eq_getElem?_getD, List.getElem?_drop, h]
  · have h1 : (bz l).length ≤ p + i := by rw [bz_length]; omega
    simp [List.getD_eq_getElem?_getD, List.getElem?_drop, List.getElem?_eq_none h1, List.getElem?_eq_none (show l.length ≤ p + i by omega)]
theorem getV_L (l : List UInt8) (p : Nat) (hp : p < l.length) :
    getV (bz l) p = if Lib.decodeL (l.drop p) = (65533, 1) then (0, 0, false) else (((Lib.decodeL (l.drop p)).1 : Int), (p : Int) + (Lib.decodeL (l.drop p)).2, true) := by
  have hN : Lib.decodeL (l.drop p) = Lib.decodeN ((bz l).length - p) (bzf (bz l) p 0) (bzf (bz l) p 1) (bzf (bz l) p 2) (bzf (bz l) p 3) := by
    rw [Lib.decodeL_N, List.length_drop, bz_length]
    simp only [bzf_bz]
  have hlt : ∀ i, bzf (bz l) p i < 256 := fun i => by rw [bzf_bz]; exact UInt8.toNat_lt _
  have hg := getF_eq ((bz l).length - p) (bzf (bz l) p) (by rw [bz_length]; omega) hlt
  rw [← hN] at hg
  unfold getV
  rw [if_pos ⟨by omega, by rw [bz_length]; omega⟩, show ((p : Int)).toNat = p by omega, hg]
  by_cases h : Lib.decodeL (l.drop p) = (65533, 1)
  · rw [if_pos h]; simp [h]
  · rw [if_neg h]; simp [h]
end Go.Proofs.YtilmhemcpgiikaaDoor
/- The plain law under TextOk and RunesOf: the characters of a list of bytes. -/
namespace Go.Proofs.YtilmhemcpgiikaaDoor
open Go.Deep Go.ChangeShapes Go.WideShapes Go.ChangeAt Go.RowKit

/-- The characters of bytes, as the decoder gives them. -/
def runesGo : Nat → List UInt8 → List Int
  | 0, _ => []
  | f + 1, l => if l = [] then [] else ((Lib.decodeL l).1 : Int) :: runesGo f (l.drop (Lib.decodeL l).2)
def runesD (l : List UInt8) : List Int := runesGo l.length l
theorem runesGo_nil : ∀ n, runesGo n [] = []
  | 0 => rfl
  | _ + 1 => by simp [runesGo]
theorem runesGo_fuel : ∀ (n m : Nat) (l : List UInt8), l.length ≤ n → l.length ≤ m → runesGo n l = runesGo m l
  | 0, m, l, hn, _ => by
    have : l = [] := List.eq_nil_of_length_eq_zero (by omega)
    subst this
    rw [runesGo_nil, runesGo_nil]
  | n + 1, 0, l, _, hm => by
    have : l = [] := List.eq_nil_of_length_eq_zero (by omega)
    subst this
    rw [runesGo_nil, runesGo_nil]
  | n + 1, m + 1, l, hn, hm => by
    unfold runesGo
    by_cases hne : l = []
    · simp [hne]
    · have hw := Lib.decodeL_width l
      have hl : 0 < l.length := List.length_pos_iff.2 hne
      rw [if_neg hne, if_neg hne, runesGo_fuel n m (l.drop (Lib.decodeL l).2) (by rw [List.length_drop]; omega) (by rw [List.length_drop]; omega)]
theorem runesD_step (l : List UInt8) (hne : l ≠ []) : runesD l = ((Lib.decodeL l).1 : Int) :: runesD (l.drop (Lib.decodeL l).2) := by
  have hl : 0 < l.length := List.length_pos_iff.2 hne
  have hw := Lib.decodeL_width l
  obtain ⟨n, hn⟩ : ∃ n, l.length = n + 1 := ⟨l.length - 1, by omega⟩
  unfold runesD
  rw [hn]
  show (if l = [] then [] else _) = _
  rw [if_neg hne, runesGo_fuel n (l.drop (Lib.decodeL l).2).length _ (by rw [List.length_drop]; omega) (Nat.le_refl _)]
/-- What TextOk says at a place, and where it goes on. -/
theorem valid_at (l : List UInt8) (p : Nat) (hp : p < l.length) :
    Lib.validD (l.drop p) = if (getV (bz l) p).2.2 = true then Lib.validD (l.drop (getV (bz l) p).2.1.toNat) else false := by
  have hne : l.drop p ≠ [] := by intro h; have := congrArg List.length h; simp at this; omega
  rw [Lib.validD_step _ hne, getV_L l p hp]
  by_cases h : Lib.decodeL (l.drop p) = (65533, 1)
  · rw [if_pos h, if_pos (by rw [h]; simp)]; simp
  · rw [if_neg h, if_neg (fun h' => h (Prod.ext h'.1 h'.2)), if_pos rfl, List.drop_drop]
    congr 2
theorem next_bd (l : List UInt8) (p : Nat) (hp : p < l.length) (hok : (getV (bz l) p).2.2 = true) : ∃ q : Nat, (getV (bz l) p).2.1 = q ∧ p < q ∧ q ≤ l.length ∧ runesD (l.drop p) = (getV (bz l) p).1 :: runesD (l.drop q) := by
  have hne : l.drop p ≠ [] := by intro h; have := congrArg List.length h; simp at this; omega
  have hw := Lib.decodeL_width (l.drop p)
  have hle := dec_le (l.drop p) hne
  rw [List.length_drop] at hle
  rw [getV_L l p hp] at hok ⊢
  by_cases h : Lib.decodeL (l.drop p) = (65533, 1)
  · rw [if_pos h] at hok; simp at hok
  · rw [if_neg h]
    refine ⟨p + (Lib.decodeL (l.drop p)).2, by simp, by omega, by omega, ?_⟩
    rw [runesD_step _ hne, List.drop_drop]
theorem runesGo_len : ∀ (n : Nat) (l : List UInt8), (runesGo n l).length ≤ n
  | 0, _ => by simp [runesGo]
  | n + 1, l => by
    unfold runesGo
    by_cases hne : l = []
    · simp [hne]
    · rw [if_neg hne]
      have := runesGo_len n (l.drop (Lib.decodeL l).2)
      simp; omega
theorem runesD_len (l : List UInt8) : (runesD l).length ≤ l.length := runesGo_len _ _

/-- []byte(s): a row of the bytes. -/
theorem conv_bytes {P : Program} (w : World) (src dst e : TypeId) (s : ByteArray) (hs : P.underlying src = some .string) (hd : P.underlying dst = some (.slice e)) (he : P.underlying e = some (.int .u8)) :
    ∃ c W1, (convert src dst (.string s)).run P w = .ok (.slice (some ⟨w.heap.size, 0, none⟩) s.size c) W1 ∧ Rd W1 .u8 (some ⟨w.heap.size, 0, none⟩) (bz s.data.toList) ∧ Below w.heap.size w W1 ∧ w.heap.size < W1.heap.size := by
  refine ⟨_, _, run_bytes_of_string w src dst e s hs hd he, ?_, ?_, ?_⟩
  · refine .inr ⟨w.heap.size, 0, rfl, ?_, fun j hj => ?_⟩
    · show w.drew.heap.size < (w.drew.alloc _).heap.size
      rw [World.size_alloc]; omega
    · have hj' : j < s.data.size := by rw [bz_length] at hj; simpa using hj
      have hd : w.heap.size = w.drew.heap.size := rfl
      have hn := heap_alloc_new w.drew (.cells (bytesRow s (grownCap w s.size 0 e)) e ((bytesRow s (grownCap w s.size 0 e)).size, (bytesRow s (grownCap w s.size 0 e)).size + 1))
      rw [hd, bz_getD (by simpa using hj')]
      simp only [World.cell?, hn]
      simp only [bytesRow, Nat.zero_add]
      rw [Array.getElem?_append_left (by simpa using hj'), Array.getElem?_map, Array.getElem?_eq_getElem hj']
      simp
  · have h1 : Below w.heap.size w w.drew := by
      have : Below w.heap.size w (w.drewN 1) := (Below.refl w.heap.size w).trans ⟨rfl, rfl, rfl, Nat.le_refl _, fun _ _ => rfl⟩
      simpa [World.drewN] using this
    exact h1.alloc (Nat.le_refl _) _
  · show w.drew.heap.size < (w.drew.alloc _).heap.size
    rw [World.size_alloc]; omega
section
variable {P : Program}
theorem wpList_append_liesR {ops : Array Oper} {rest : List Oper} {o : Oper} {a : Act} {w : World} {Q : Exit → Act → World → Prop} (hgd : o.guard = none) (s x : Operand) (t : TypeId)
    (ho : o.op = .call { callee := .builtin .append, args := #[s, x], argTypes := #[t, t] })
    (base : Nat) (e : TypeId) (i : TypeInfo) (z : Value) (size bytes : Nat) (ht : P.underlying t = some (.slice e)) (hi : P.info? e = some i) (hz : i.zero = some z)
    (hsize : i.size = size) (hby : i.bytes = bytes) (hzs : z.cells.size = size) (hsz : 0 < size)
    (v : Value) (n : Nat) (xs : List Value) (hs : a.eval s = v) (hown : w.ownsRow base e size v n xs)
    (ad : Addr) (m c : Nat) (news : List Value) (hx : a.eval x = .slice (some ad) m c) (hl : news.length = m * size) (hnews : ∀ j u, news[j]? = some u → w.cell? (ad.add j) = some u) (h1 : ∀ u ∈ news, u.oneCell' = true)
    (hm : 0 < m) (h63 : n + m ≤ maxLen) (hbytes : (n + m) * bytes ≤ 140737488355328) (hbase : base ≤ w.heap.size) (H : Nat) (hH : w.heap.size = H)
    (h : ∀ g cap w', w'.ownsRow base e size (.slice (some ⟨g, 0, none⟩) (n + m) cap) (n + m) (xs ++ news) → w.grownBy w' v.ownBlock → (v.ownBlock = some g ∨ g = H) → g < w'.heap.size → wpList P ops Q rest (a.put o.dst (.slice (some ⟨g, 0, none⟩) (n + m) cap)) w') : wpList P ops Q (o :: rest) a w :=
  wpList_plain hgd fun _ hK => wp_append_lies w s x t ho base e i z size bytes ht hi hz hsize hby hzs hsz v n xs hs hown ad m c news hx hl hnews h1 hm h63 hbytes hbase H hH fun g cap w' h2 h3 h4 h5 => hK _ _ (h g cap w' h2 h3 h4 h5)
end
theorem rd_grown {w w' : World} {row : Option Nat} (hg : w.grownBy w' row) {k : IntKind} {b : Nat} {zs : List Int} (h : Rd w k (some ⟨b, 0, none⟩) zs) (hb : row ≠ some b) : Rd w' k (some ⟨b, 0, none⟩) zs := by
  rcases h with h | ⟨b', off, ha, hlt, hc⟩
  · exact .inl h
  · injection ha with ha
    injection ha with e1 e2 e3
    subst e1 e2
    exact .inr ⟨b, 0, rfl, Nat.lt_of_lt_of_le hlt hg.size, fun j hj => hg.cell (hc j hj) (fun e => hb e.symm)⟩
end Go.Proofs.YtilmhemcpgiikaaDoor
/- TextOk: both say whether all bytes are encoded characters. -/
namespace Go.Proofs.YtilmhemcpgiikaaDoor
open Go.Deep Go.ChangeShapes Go.WideShapes Go.ChangeAt Go.RowKit
open Go.ChangeMaps (open_string shut_string)

theorem bz_byte (l : List UInt8) : ∀ n ∈ bz l, (Lit.int .u8 n).wf = true := by
  intro n hn
  unfold bz at hn
  obtain ⟨b, _, rfl⟩ := List.mem_map.1 hn
  have := UInt8.toNat_lt b
  simp [Lit.wf, IntKind.min, IntKind.max, IntKind.signed, IntKind.bits]
  omega

theorem textOk_impl (s : ByteArray) (w : World) (hlen : s.size ≤ 1048576) (hL : LaidU w) :
    Calls Tryd.prog 161 #[.string s] w fun e w' => e = .returned (.bool (Lib.validD s.data.toList)) ∧ Below w.heap.size w w' := by
  have HC := Lib.hid (Tryd.utf8_ValidString s w (by omega) hL)
  clear hL
  generalize Lib.validD s.data.toList = R at *
  go_enter Tryd.func161, Tryd.ntmps161
  go_wp2_with (go_at_call 181; go_fit HC.out; rintro e w' ⟨rfl, hb⟩)
  go_ret
  exact ⟨rfl, hb⟩
end Go.Proofs.YtilmhemcpgiikaaDoor
