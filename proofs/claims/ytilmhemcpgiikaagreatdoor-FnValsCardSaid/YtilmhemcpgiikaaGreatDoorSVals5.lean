/- Vals: texts of the proof (CCur2). -/
import Derived.Test.YtilmhemcpgiikaaGreatDoorSVals4
/- The cursor of a draw, on: numbers below a bound, of a list, bytes. -/
namespace Go.Proofs.YtilmhemcpgiikaaGreatDoor
open Go.Deep Go.ChangeShapes Go.WideShapes Go.ChangeAt Go.RowKit

set_option maxHeartbeats 2000000 in
theorem l1Below_c (P : Nat) (n : Int) (w : World) (hC : Cur w P) (hn : -9223372036854775808 ≤ n ∧ n ≤ 9223372036854775807) :
    Calls Tryz.prog 35 #[.pointer (some ⟨P, 0, none⟩), .int .i64 n] w fun e w' => ∃ x : Int, e = .returned (.int .i64 x) ∧ 0 ≤ x ∧ (0 < n → x < n) ∧ (n ≤ 0 → x = 0) ∧ x ≤ 16777215 ∧ Cur w' P ∧ w.grownBy w' (some P) := by
  have HC := Lib.hid hC; clear hC
  by_cases h0 : n ≤ 0
  · go_enter Tryz.func35, Tryz.ntmps35
    go_wp2_with fail
    go_ret
    exact ⟨0, rfl, by omega, by omega, by omega, by omega, HC.out, gr_refl⟩
  · have hne : n ≠ 0 := by omega
    have hm : ∀ m : Int, 0 ≤ m → 0 ≤ m % n ∧ m % n < n ∧ m % n ≤ m := fun m h => by
      exact ⟨Int.emod_nonneg _ hne, Int.emod_lt_of_pos _ (by omega), by
        have h1 := Int.emod_add_mul_ediv m n
        have h2 : 0 ≤ n * (m / n) := Int.mul_nonneg (by omega) (Int.ediv_nonneg h (by omega))
        omega⟩
    have HM := Lib.hid hm; clear hm
    by_cases h1 : n ≤ 256
    · go_enter Tryz.func35, Tryz.ntmps35
      go_wp2_with fail
      refine (l1Byte_c P _ HC.out).mono ?_
      rintro _ w1 ⟨x, rfl, x0, x1, C1, G1⟩
      have C2 := Lib.hid C1; clear C1
      have G2 := Lib.hid G1; clear G1
      go_wp2_with fail
      go_ret
      exact ⟨_, rfl, (HM.out x x0).1, fun _ => (HM.out x x0).2.1, fun h => by omega, by have := (HM.out x x0).2.2; omega, C2.out, G2.out⟩
    · go_enter Tryz.func35, Tryz.ntmps35
      go_wp2_with fail
      refine (l1Byte_c P _ HC.out).mono ?_
      rintro _ w1 ⟨x, rfl, x0, x1, C1', G1'⟩
      have C1 := Lib.hid C1'; clear C1'
      have G1 := Lib.hid G1'; clear G1'
      go_wp2_with fail
      refine (l1Byte_c P _ C1.out).mono ?_
      rintro _ w2 ⟨y, rfl, y0, y1, C2', G2'⟩
      have C2 := Lib.hid C2'; clear C2'
      have G2 := Lib.hid (gr_trans G1.out G2'); clear G2'
      go_wp2_with fail
      refine (l1Byte_c P _ C2.out).mono ?_
      rintro _ w3 ⟨z, rfl, z0, z1, C3', G3'⟩
      have C3 := Lib.hid C3'; clear C3'
      have G3 := Lib.hid (gr_trans G2.out G3'); clear G3'
      go_wp2_with fail
      go_ret
      have q0 : 0 ≤ x * 65536 + y * 256 + z := by omega
      exact ⟨_, rfl, (HM.out _ q0).1, fun _ => (HM.out _ q0).2.1, fun h => by omega, by have := (HM.out _ q0).2.2; omega, C3.out, G3.out⟩
set_option maxHeartbeats 2000000 in
theorem l1Int_c (P : Nat) (zs : List Int) (b : Nat) (cap : Nat) (w : World) (hC : Cur w P) (hr : ∀ j, j < zs.length → w.cell? ⟨b, j, none⟩ = some (.int .i64 (zs.getD j 0))) (hb : b ≠ P) (_hlt : b < w.heap.size) (hz : 0 < zs.length) (hz2 : zs.length ≤ 1000) :
    Calls Tryz.prog 55 #[.pointer (some ⟨P, 0, none⟩), .slice (some ⟨b, 0, none⟩) zs.length cap] w fun e w' => ∃ x : Int, e = .returned (.int .i64 x) ∧ x ∈ zs ∧ Cur w' P ∧ w.grownBy w' (some P) := by
  have HC := Lib.hid hC; clear hC
  have HR := Lib.hid hr; clear hr
  have HB := Lib.hid hb; clear hb
  go_enter Tryz.func55, Tryz.ntmps55
  go_wp2_with fail
  refine (l1Below_c P _ _ HC.out (by omega)).mono ?_
  rintro _ w1 ⟨x, rfl, x0, x1, -, -, C1', G1'⟩
  have C1 := Lib.hid C1'; clear C1'
  have G1 := Lib.hid G1'; clear G1'
  have hx : x < zs.length := x1 (by omega)
  clear x1
  obtain ⟨X, rfl⟩ : ∃ X : Nat, x = X := ⟨x.toNat, by omega⟩
  have hX : X < zs.length := by omega
  have hc := G1.out.cell (HR.out X hX) (fun e => HB.out (by injection e))
  have hmem : zs.getD X 0 ∈ zs := by rw [List.getD_eq_getElem?_getD, List.getElem?_eq_getElem hX]; exact List.getElem_mem hX
  have HMEM := Lib.hid hmem; clear hmem
  go_wp2_with fail
  go_ret
  exact ⟨_, rfl, by simp, C1.out, G1.out⟩
set_option maxHeartbeats 2000000 in
theorem l1Str_c (P : Nat) (zs : List ByteArray) (b : Nat) (cap : Nat) (w : World) (hC : Cur w P) (hr : ∀ j, j < zs.length → w.cell? ⟨b, j, none⟩ = some (.string (zs.getD j ⟨#[]⟩))) (hb : b ≠ P) (_hlt : b < w.heap.size) (hz : 0 < zs.length) (hz2 : zs.length ≤ 1000) :
    Calls Tryz.prog 56 #[.pointer (some ⟨P, 0, none⟩), .slice (some ⟨b, 0, none⟩) zs.length cap] w fun e w' => ∃ x : ByteArray, e = .returned (.string x) ∧ x ∈ zs ∧ Cur w' P ∧ w.grownBy w' (some P) := by
  have HC := Lib.hid hC; clear hC
  have HR := Lib.hid hr; clear hr
  have HB := Lib.hid hb; clear hb
  go_enter Tryz.func56, Tryz.ntmps56
  go_wp2_with fail
  refine (l1Below_c P _ _ HC.out (by omega)).mono ?_
  rintro _ w1 ⟨x, rfl, x0, x1, -, -, C1', G1'⟩
  have C1 := Lib.hid C1'; clear C1'
  have G1 := Lib.hid G1'; clear G1'
  have hx : x < zs.length := x1 (by omega)
  clear x1
  obtain ⟨X, rfl⟩ : ∃ X : Nat, x = X := ⟨x.toNat, by omega⟩
  have hX : X < zs.length := by omega
  have hc := G1.out.cell (HR.out X hX) (fun e => HB.out (by injection e))
  have hmem : zs.getD X ⟨#[]⟩ ∈ zs := by rw [List.getD_eq_getElem?_getD, List.getElem?_eq_getElem hX]; exact List.getElem_mem hX
  have HMEM := Lib.hid hmem; clear hmem
  go_wp2_with fail
  go_ret
  exact ⟨_, rfl, by simp, C1.out, G1.out⟩
set_option maxHeartbeats 2000000 in
theorem l1Once_c (P : Nat) (n : Int) (w : World) (hC : Cur w P) (hn : -9223372036854775808 ≤ n ∧ n ≤ 9223372036854775807) :
    Calls Tryz.prog 58 #[.pointer (some ⟨P, 0, none⟩), .int .i64 n] w fun e w' => ∃ x : Bool, e = .returned (.bool x) ∧ Cur w' P ∧ w.grownBy w' (some P) := by
  have HC := Lib.hid hC; clear hC
  have HN := Lib.hid hn; clear hn
  go_enter Tryz.func58, Tryz.ntmps58
  go_wp2_with fail
  refine (l1Below_c P _ _ HC.out HN.out).mono ?_
  rintro _ w1 ⟨x, rfl, x0, -, -, -, C1', G1'⟩
  have C1 := Lib.hid C1'; clear C1'
  have G1 := Lib.hid G1'; clear G1'
  go_wp2_with fail
  go_ret
  exact ⟨_, rfl, C1.out, G1.out⟩
/-- A list that was just laid. -/
theorem rd_laid (w : World) (zs : List Int) (T : TypeId) : ∀ j, j < zs.length → (w.alloc (.cells (zs.map (Value.int .i64)).toArray T)).cell? ⟨w.heap.size, j, none⟩ = some (.int .i64 (zs.getD j 0)) := by
  intro j hj
  rw [World.cell?_alloc_at _ _ _ _ rfl]
  simp [List.getD, List.getElem?_eq_getElem hj]
theorem rs_laid (w : World) (zs : List ByteArray) (T : TypeId) : ∀ j, j < zs.length → (w.alloc (.cells (zs.map Value.string).toArray T)).cell? ⟨w.heap.size, j, none⟩ = some (.string (zs.getD j ⟨#[]⟩)) := by
  intro j hj
  rw [World.cell?_alloc_at _ _ _ _ rfl]
  simp [List.getD, List.getElem?_eq_getElem hj]
/-- Is a number one of Go's? -/
def wf6 (n : Int) : Prop := -9223372036854775808 ≤ n ∧ n ≤ 9223372036854775807
theorem wf6_wrap (n : Int) : wf6 (wrap64 n) := by unfold wf6 wrap64; omega
set_option maxHeartbeats 2000000 in
theorem l1Odd_c (P : Nat) (w : World) (hC : Cur w P) :
    Calls Tryz.prog 77 #[.pointer (some ⟨P, 0, none⟩)] w fun e w' => ∃ x : Int, e = .returned (.int .i64 x) ∧ wf6 x ∧ Cur w' P ∧ w.grownBy w' (some P) := by
  have HC := Lib.hid hC; clear hC
  go_enter Tryz.func77, Tryz.ntmps77
  go_wp2_with fail
  refine (l1Int_c P [-1, 0, 1, 2, 255, 256, 65535, 2147483647, 2147483648, 4294967295, 4294967296, -2147483648, 9223372036854775807, -9223372036854775808] w.heap.size 14 _ (HC.out.alloc _) (rd_laid w _ _) (Nat.ne_of_gt HC.out.lt) (by simp) (by decide) (by decide)).mono ?_
  rintro _ w1 ⟨x, rfl, hx, C1', G1'⟩
  have C1 := Lib.hid C1'; clear C1'
  have G1 := Lib.hid (gr_trans (gr_below (below1 _ _)) G1'); clear G1'
  have hw : wf6 x := by unfold wf6; simp at hx; omega
  clear hx
  go_wp2_with fail
  go_ret
  exact ⟨_, rfl, hw, C1.out, G1.out⟩
set_option maxRecDepth 100000 in
set_option maxHeartbeats 4000000 in
theorem l1Num_c (P : Nat) (w : World) (hC : Cur w P) :
    Calls Tryz.prog 78 #[.pointer (some ⟨P, 0, none⟩)] w fun e w' => ∃ x : Int, e = .returned (.int .i64 x) ∧ (0 ≤ x ∧ x ≤ 1000000000000000) ∧ Cur w' P ∧ w.grownBy w' (some P) := by
  have HC := Lib.hid hC; clear hC
  go_enter Tryz.func78, Tryz.ntmps78
  go_wp2_with fail
  refine (l1Below_c P _ _ HC.out (by omega)).mono ?_
  rintro _ w1 ⟨k, rfl, k0, k1, -, -, C1', G1'⟩
  have C1 := Lib.hid C1'; clear C1'
  have G1 := Lib.hid G1'; clear G1'
  have k1 := k1 (by omega)
  have hk : k = 0 ∨ k = 1 ∨ k = 2 ∨ k = 3 ∨ k = 4 := by omega
  clear k0 k1
  rcases hk with rfl | rfl | rfl | rfl | rfl
  · go_wp2_with fail
    refine (l1Below_c P _ _ C1.out (by omega)).mono ?_
    rintro _ w2 ⟨x, rfl, x0, x1, -, -, C2', G2'⟩
    have C2 := Lib.hid C2'; clear C2'
    have G2 := Lib.hid (gr_trans G1.out G2'); clear G2'
    have x1 := x1 (by omega)
    go_wp2_with fail
    go_ret
    exact ⟨_, rfl, ⟨by omega, by omega⟩, C2.out, G2.out⟩
  · go_wp2_with fail
    refine (l1Int_c P [0, 1, 9, 10, 255, 256, 65535, 65536, 1000000000000000] w1.heap.size 9 _ (C1.out.alloc _) (rd_laid w1 _ _) (Nat.ne_of_gt C1.out.lt) (by simp) (by decide) (by decide)).mono ?_
    rintro _ w2 ⟨x, rfl, hx, C2', G2'⟩
    have C2 := Lib.hid C2'; clear C2'
    have G2 := Lib.hid (gr_trans G1.out (gr_trans (gr_below (below1 _ _)) G2')); clear G2'
    have hw : 0 ≤ x ∧ x ≤ 1000000000000000 := by simp at hx; omega
    clear hx
    go_wp2_with fail
    go_ret
    exact ⟨_, rfl, hw, C2.out, G2.out⟩
  · go_wp2_with fail
    refine (l1Below_c P _ _ C1.out (by omega)).mono ?_
    rintro _ w2 ⟨x, rfl, x0, x1, -, -, C2', G2'⟩
    have C2 := Lib.hid C2'; clear C2'
    have G2 := Lib.hid (gr_trans G1.out G2'); clear G2'
    have x1 := x1 (by omega)
    go_wp2_with fail
    refine (l1Below_c P _ _ C2.out (by omega)).mono ?_
    rintro _ w3 ⟨y, rfl, y0, y1, -, -, C3', G3'⟩
    have C3 := Lib.hid C3'; clear C3'
    have G3 := Lib.hid (gr_trans G2.out G3'); clear G3'
    have y1 := y1 (by omega)
    have h0 : 0 ≤ x * y := Int.mul_nonneg x0 y0
    have h1 : x * y ≤ 1000000 * 1000000 := Int.mul_le_mul (by omega) (by omega) y0 (by omega)
    have hz : wrap64 (x * y) = x * y := by
      generalize x * y = z at *
      unfold wrap64; omega
    have HZ := Lib.hid hz; clear hz
    go_wp2_with fail
    go_ret
    exact ⟨_, rfl, ⟨h0, by omega⟩, C3.out, G3.out⟩
  · go_wp2_with fail
    refine (l1Below_c P _ _ C1.out (by omega)).mono ?_
    rintro _ w2 ⟨x, rfl, x0, x1, -, -, C2', G2'⟩
    have C2 := Lib.hid C2'; clear C2'
    have G2 := Lib.hid (gr_trans G1.out G2'); clear G2'
    have x1 := x1 (by omega)
    have hp : (1 : Int) ≤ 2 ^ x.toNat ∧ (2 : Int) ^ x.toNat ≤ 562949953421312 := by
      have h1 : 2 ^ x.toNat ≤ 2 ^ 49 := Nat.pow_le_pow_right (by decide) (by omega)
      have h2 : 0 < 2 ^ x.toNat := Nat.pow_pos (by decide)
      have h3 : (2 : Int) ^ x.toNat = ((2 ^ x.toNat : Nat) : Int) := by simp
      rw [h3]
      omega
    have hz : wrap64 (2 ^ x.toNat) = 2 ^ x.toNat := by
      generalize (2 : Int) ^ x.toNat = z at *
      unfold wrap64; omega
    have HZ := Lib.hid hz; clear hz
    have HPP := Lib.hid hp; clear hp
    go_wp2_with fail
    go_ret
    exact ⟨_, rfl, by rw [HZ.out]; have := HPP.out; omega, C2.out, G2.out⟩
  · go_wp2_with fail
    refine (l1Below_c P _ _ C1.out (by omega)).mono ?_
    rintro _ w2 ⟨x, rfl, x0, x1, -, -, C2', G2'⟩
    have C2 := Lib.hid C2'; clear C2'
    have G2 := Lib.hid (gr_trans G1.out G2'); clear G2'
    have x1 := x1 (by omega)
    go_wp2_with fail
    go_ret
    exact ⟨_, rfl, ⟨by omega, by omega⟩, C2.out, G2.out⟩
set_option maxHeartbeats 2000000 in
theorem l1Signed_c (P : Nat) (w : World) (hC : Cur w P) :
    Calls Tryz.prog 59 #[.pointer (some ⟨P, 0, none⟩)] w fun e w' => ∃ x : Int, e = .returned (.int .i64 x) ∧ (-1000000000000000 ≤ x ∧ x ≤ 1000000000000000) ∧ Cur w' P ∧ w.grownBy w' (some P) := by
  have HC := Lib.hid hC; clear hC
  go_enter Tryz.func59, Tryz.ntmps59
  go_wp2_with fail
  refine (l1Once_c P _ _ HC.out (by omega)).mono ?_
  rintro _ w1 ⟨k, rfl, C1', G1'⟩
  have C1 := Lib.hid C1'; clear C1'
  have G1 := Lib.hid G1'; clear G1'
  cases k with
  | true =>
    go_wp2_with fail
    refine (l1Num_c P _ C1.out).mono ?_
    rintro _ w2 ⟨x, rfl, ⟨x0, x1⟩, C2', G2'⟩
    have C2 := Lib.hid C2'; clear C2'
    have G2 := Lib.hid (gr_trans G1.out G2'); clear G2'
    go_wp2_with fail
    go_ret
    exact ⟨_, rfl, ⟨by omega, by omega⟩, C2.out, G2.out⟩
  | false =>
    go_wp2_with fail
    refine (l1Num_c P _ C1.out).mono ?_
    rintro _ w2 ⟨x, rfl, ⟨x0, x1⟩, C2', G2'⟩
    have C2 := Lib.hid C2'; clear C2'
    have G2 := Lib.hid (gr_trans G1.out G2'); clear G2'
    go_wp2_with fail
    go_ret
    exact ⟨_, rfl, ⟨by omega, by omega⟩, C2.out, G2.out⟩
set_option maxHeartbeats 2000000 in
theorem l1Raw_c (P : Nat) (w : World) (hC : Cur w P) :
    Calls Tryz.prog 54 #[.pointer (some ⟨P, 0, none⟩)] w fun e w' => ∃ x : Int, e = .returned (.int .i64 x) ∧ wf6 x ∧ Cur w' P ∧ w.grownBy w' (some P) := by
  have HC := Lib.hid hC; clear hC
  go_enter Tryz.func54, Tryz.ntmps54
  go_wp2_with fail
  refine (l1Once_c P _ _ HC.out (by omega)).mono ?_
  rintro _ w1 ⟨k, rfl, C1', G1'⟩
  have C1 := Lib.hid C1'; clear C1'
  have G1 := Lib.hid G1'; clear G1'
  cases k with
  | true =>
    go_wp2_with fail
    refine (l1Odd_c P _ C1.out).mono ?_
    rintro _ w2 ⟨x, rfl, hx, C2', G2'⟩
    have HX := Lib.hid hx; clear hx
    have C2 := Lib.hid C2'; clear C2'
    have G2 := Lib.hid (gr_trans G1.out G2'); clear G2'
    go_wp2_with fail
    go_ret
    exact ⟨_, rfl, HX.out, C2.out, G2.out⟩
  | false =>
    go_wp2_with fail
    refine (l1Int_c P [-1, 1000000000000001, -1000000000000001] w1.heap.size 3 _ (C1.out.alloc _) (rd_laid w1 _ _) (Nat.ne_of_gt C1.out.lt) (by simp) (by decide) (by decide)).mono ?_
    rintro _ w2 ⟨x, rfl, hx, C2', G2'⟩
    have C2 := Lib.hid C2'; clear C2'
    have G2 := Lib.hid (gr_trans G1.out (gr_trans (gr_below (below1 _ _)) G2')); clear G2'
    have hw : wf6 x := by unfold wf6; simp at hx; omega
    clear hx
    go_wp2_with fail
    go_ret
    exact ⟨_, rfl, hw, C2.out, G2.out⟩
set_option maxHeartbeats 2000000 in
theorem l1One_c (P : Nat) (w : World) (hC : Cur w P) :
    Calls Tryz.prog 37 #[.pointer (some ⟨P, 0, none⟩)] w fun e w' => ∃ x : Int, e = .returned (.int .i64 x) ∧ wf6 x ∧ Cur w' P ∧ w.grownBy w' (some P) := by
  have HC := Lib.hid hC; clear hC
  go_enter Tryz.func37, Tryz.ntmps37
  go_wp2_with fail
  refine (l1Once_c P _ _ HC.out (by omega)).mono ?_
  rintro _ w1 ⟨k, rfl, C1', G1'⟩
  have C1 := Lib.hid C1'; clear C1'
  have G1 := Lib.hid G1'; clear G1'
  cases k with
  | true =>
    go_wp2_with fail
    refine (l1Raw_c P _ C1.out).mono ?_
    rintro _ w2 ⟨x, rfl, hx, C2', G2'⟩
    have HX := Lib.hid hx; clear hx
    have C2 := Lib.hid C2'; clear C2'
    have G2 := Lib.hid (gr_trans G1.out G2'); clear G2'
    go_wp2_with fail
    go_ret
    exact ⟨_, rfl, HX.out, C2.out, G2.out⟩
  | false =>
    go_wp2_with fail
    refine (l1Signed_c P _ C1.out).mono ?_
    rintro _ w2 ⟨x, rfl, hx, C2', G2'⟩
    have hw : wf6 x := by unfold wf6; omega
    clear hx
    have C2 := Lib.hid C2'; clear C2'
    have G2 := Lib.hid (gr_trans G1.out G2'); clear G2'
    go_wp2_with fail
    go_ret
    exact ⟨_, rfl, hw, C2.out, G2.out⟩
set_option maxHeartbeats 2000000 in
theorem l1Bytes_c (P : Nat) (n : Int) (w : World) (hC : Cur w P) (hn : 0 ≤ n ∧ n ≤ 1000) :
    Calls Tryz.prog 65 #[.pointer (some ⟨P, 0, none⟩), .int .i64 n] w fun e w' => ∃ v : Value, e = .returned v ∧ ∃ zs : List Int, (zs.length : Int) = n ∧ (∀ x ∈ zs, (Lit.int .u8 x).wf = true) ∧ w'.ownsRow w.heap.size 5 1 v zs.length (zs.map (Value.int .u8)) ∧ Cur w' P ∧ w.grownBy w' (some P) := by
  obtain ⟨i0, hi, hz, hsz, hb⟩ := info_parts (show (Tryz.prog.info? 5).map (fun i => (i.zero, i.size, i.bytes)) = some (some (.int .u8 0), 1, 1) by kernel_rfl)
  have HI := Lib.hid hi; clear hi
  have HC := Lib.hid hC; clear hC
  have HM := Lib.hid (World.ownsRow_made (base := w.heap.size) (e := 5) (size := 1) w #[] 0 (Nat.le_refl _) (by simp [maxLen]) rfl)
  obtain ⟨hn0, hn1⟩ := hn
  go_enter Tryz.func65, Tryz.ntmps65
  go_wp2_with fail
  go_loopw [5, 6] (fun v i wr => ∃ zs : List Int, zs.length ≤ n ∧ i = .int .i64 zs.length ∧ (∀ x ∈ zs, (Lit.int .u8 x).wf = true) ∧ wr.ownsRow w.heap.size 5 1 v zs.length (zs.map (Value.int .u8)) ∧ Cur wr P ∧ w.grownBy wr (some P)) (fun _ i _ => n.toNat - (intOf i).toNat)
  case atStart => exact ⟨[], by simpa using hn0, rfl, by simp, by simpa using HM.out, HC.out.alloc _, gr_below (below1 _ _)⟩
  case round =>
    obtain ⟨zs, hj, rfl, hwf, hown, hcur, hgr⟩ := hrel
    have OWN := Lib.hid hown; clear hown
    have CUR := Lib.hid hcur; clear hcur
    have GR := Lib.hid hgr; clear hgr
    have WF := Lib.hid hwf; clear hwf
    by_cases hjl : (zs.length : Int) < n
    · go_wp2_with fail
      refine (l1Byte_c P _ CUR.out).mono ?_
      rintro _ w1 ⟨x, rfl, x0, x1, C1', G1'⟩
      have O1 := Lib.hid (own_gr OWN.out G1' HC.out.lt)
      have C1 := Lib.hid C1'; clear C1'
      have G1 := Lib.hid (gr_trans GR.out G1'); clear G1' OWN CUR GR
      go_wp2_with (at_builtin; go_must (refine wpList_append_own _ rfl (.tmp 13) (.tmp 17) 22 rfl w.heap.size 5 i0 (.int .u8 0) 1 1 Tryz.underlying22 HI.out hz hsz hb rfl (by decide) _ _ _ rfl (by exact O1.out.alloc _) ⟨w1.heap.size, 0, none⟩ 1 1 [.int .u8 x] rfl rfl (by exact World.news_of_block (heap_alloc_new _ _)) (by simp; exact rfl) (by unfold maxLen; omega) (by omega) (by have := G1.out.size; simp; omega) ?_); intro v' w2 hown2 hg2 q1; clear q1)
      have hg3 : (w1.alloc (.cells #[.int .u8 x] 5)).grownBy w2 u5.ownBlock := hg2
      have H2 := Lib.hid hown2; clear hown2
      have H3 := Lib.hid hg3; clear hg3 hg2
      go_wp2_with fail
      go_roundw
      case rel =>
        have hro : ∀ k, u5.ownBlock = some k → w.heap.size ≤ k := fun k hk => (O1.out.lt k hk).1
        refine ⟨zs ++ [x], by simp <;> omega, by simp, ?_, ?_, (C1.out.alloc _).grown H3.out (fun k hk => Nat.lt_of_lt_of_le HC.out.lt (hro k hk)), gr_new (gr_on G1.out (below1 _ _)) H3.out hro⟩
        · intro y hy
          rcases List.mem_append.1 hy with h | h
          · exact WF.out y h
          · simp at h; subst h; simp [Lit.wf, IntKind.min, IntKind.max, IntKind.signed, IntKind.bits]; omega
        · rw [List.map_append, List.length_append]; exact H2.out
      case measure => simp [intOf]; omega
    · go_wp2_with fail
      go_ret
      exact ⟨_, rfl, zs, by omega, WF.out, OWN.out, CUR.out, GR.out⟩
end Go.Proofs.YtilmhemcpgiikaaGreatDoor
