/- FltDec: both give the same number. -/
import Derived.Test.YtcmdchhhdcdpnaaDoorCFltOk
import Derived.Test.YtcmdchhhdcdpnaaDoorCDecNew
import Derived.Test.YtcmdchhhdcdpnaaDoorCLess
import Derived.Deep.RegionHeld3
namespace Go.Proofs.YtcmdchhhdcdpnaaDoor
open Go.Deep Go.ChangeShapes Go.WideShapes Go.ChangeAt Go.RowKit
open Go.ChangeMaps (open_string shut_string)

/-- The decimal number of a floating-point number. -/
def fltDecF (m e : Int) : Int × Int :=
  if fltOkF m e = true then (if 0 ≤ e then (m * 2 ^ e.toNat, 0) else ((decNewF (m * 5 ^ (-e).toNat) e).1, (decNewF (m * 5 ^ (-e).toNat) e).2.1)) else (0, 0)
theorem pow_mono_int (b k K : Nat) (hb : 0 < b) (h : k ≤ K) : (b : Int) ^ k ≤ (b : Int) ^ K := by
  have := Int.ofNat_le.2 (Nat.pow_le_pow_right hb h)
  rw [Int.natCast_pow, Int.natCast_pow] at this
  exact this
theorem two_bd {k : Nat} (h : k ≤ 30) : (1 : Int) ≤ 2 ^ k ∧ (2 : Int) ^ k ≤ 1073741824 := by
  have a := pow_mono_int 2 0 k (by decide) (Nat.zero_le _)
  have b := pow_mono_int 2 k 30 (by decide) h
  have e : (2 : Int) ^ 30 = 1073741824 := by decide
  have c : ((2 : Nat) : Int) = 2 := rfl
  rw [c] at a b
  rw [e] at b
  exact ⟨by simpa using a, b⟩
theorem fltOkF_range {m e : Int} (h : fltOkF m e = true) : -65535 ≤ m ∧ m ≤ 65535 ∧ -16 ≤ e ∧ e ≤ 45 ∧ (0 ≤ e → -1000000000000000 ≤ m * 2 ^ e.toNat ∧ m * 2 ^ e.toNat ≤ 1000000000000000) := by
  unfold fltOkF at h
  by_cases h0 : m = 0
  · subst h0
    rw [if_pos rfl] at h
    have : e = 0 := by simpa using h
    subst this; decide
  · rw [if_neg h0] at h
    obtain ⟨_, a, b, c, d⟩ := of_decide_eq_true h
    refine ⟨a, b, c, by omega, fun he => ?_⟩
    rcases d with d | ⟨d, d1, d2⟩
    · obtain ⟨h1, h2⟩ := two_bd (k := e.toNat) (by omega)
      generalize (2 : Int) ^ e.toNat = P at *
      have k1 : m * P ≤ 65535 * P := Int.mul_le_mul_of_nonneg_right (by omega) (by omega)
      have k2 : -65535 * P ≤ m * P := Int.mul_le_mul_of_nonneg_right (by omega) (by omega)
      omega
    · by_cases h30 : e ≤ 30
      · obtain ⟨h1, h2⟩ := two_bd (k := e.toNat) (by omega)
        generalize (2 : Int) ^ e.toNat = P at *
        have k1 : m * P ≤ 65535 * P := Int.mul_le_mul_of_nonneg_right (by omega) (by omega)
        have k2 : -65535 * P ≤ m * P := Int.mul_le_mul_of_nonneg_right (by omega) (by omega)
        omega
      · have e1 : m * 2 ^ e.toNat = m * 2 ^ (e - 30).toNat * 1073741824 := by
          rw [show e.toNat = (e - 30).toNat + 30 by omega, Int.pow_add, ← Int.mul_assoc]
          rfl
        rw [e1]; omega
theorem five_bd {m e : Int} (h1 : -65535 ≤ m) (h2 : m ≤ 65535) (h3 : -16 ≤ e) (h4 : e < 0) : -100000000000000000 < m * 5 ^ (-e).toNat ∧ m * 5 ^ (-e).toNat < 100000000000000000 := by
  have a := pow_mono_int 5 0 (-e).toNat (by decide) (Nat.zero_le _)
  have b := pow_mono_int 5 (-e).toNat 16 (by decide) (by omega)
  have e5 : (5 : Int) ^ 16 = 152587890625 := by decide
  have c : ((5 : Nat) : Int) = 5 := rfl
  rw [c] at a b
  rw [e5] at b
  rw [Int.pow_zero] at a
  generalize (5 : Int) ^ (-e).toNat = P at *
  have k1 : m * P ≤ 65535 * P := Int.mul_le_mul_of_nonneg_right (by omega) (by omega)
  have k2 : -65535 * P ≤ m * P := Int.mul_le_mul_of_nonneg_right (by omega) (by omega)
  omega
theorem cell_alloc {w : World} {b i : Nat} {v : Value} (o : Obj) (h : w.cell? ⟨b, i, none⟩ = some v) : (w.alloc o).cell? ⟨b, i, none⟩ = some v :=
  ((below1 w o).cell (p := ⟨b, i, none⟩) (World.block_lt_of_cell? w _ h)).trans h
theorem cell_set2 {w : World} {b B i p q : Nat} {v x y : Value} (h : w.cell? ⟨b, i, none⟩ = some v) (hne : b ≠ B) : ((w.setCell ⟨B, p, none⟩ x).setCell ⟨B, q, none⟩ y).cell? ⟨b, i, none⟩ = some v :=
  (World.cell?_of_block (w := w) (a := ⟨b, i, none⟩) ((Below.heap_setCell _ _ _ _ hne).trans (Below.heap_setCell _ _ _ _ hne))).trans h
theorem frozen_alloc {w : World} {b i : Nat} (o : Obj) (h : b < w.heap.size) : (w.alloc o).frozen? ⟨b, i, none⟩ = w.frozen? ⟨b, i, none⟩ := (below1 w o).frozen (p := ⟨b, i, none⟩) h
theorem powF_five {k : Int} (h1 : 0 ≤ k) (h2 : k ≤ 17) : powF 5 k = 5 ^ k.toNat := by
  unfold powF; rw [if_pos ⟨.inr (.inl rfl), h1, h2⟩]

set_option maxRecDepth 100000 in
set_option maxHeartbeats 4000000 in
theorem fltDec_spec (m e : Int) (w : World) :
    Calls Tryd.prog 20 #[.agg #[.int .i64 m, .int .i64 e]] w fun en w' => en = .returned (.agg #[.int .i64 (fltDecF m e).1, .int .i64 (fltDecF m e).2]) ∧ Below w.heap.size w w' := by
  have H1 := Lib.hid (fun w => fltOk_spec m e w)
  cases hk : fltOkF m e with
  | false =>
    have hr : fltDecF m e = (0, 0) := by unfold fltDecF; rw [if_neg (by rw [hk]; simp)]
    rw [hr]
    rw [hk] at H1
    clear hr
    go_enter Tryd.func20, Tryd.ntmps20
    go_wp2_with fail
    refine (H1.out _).mono ?_
    rintro _ w1 ⟨rfl, b1⟩
    obtain ⟨c0, c1, _⟩ := two_num b1 (first_block w _ _)
    obtain ⟨r0, r1, rf⟩ := two_num b1 (second_block2 w _ _)
    have rf0 := rf 0; have rf1 := rf 1; clear rf
    have hsz := b1.size
    simp only [World.size_alloc] at hsz
    have BB := Lib.hid b1; clear b1
    go_wp2_with fail
    refine bodyPost_ret (v := .agg #[.int .i64 0, .int .i64 0]) (by simp [results, Tryd.results20, go_sem, r0, r1]) rfl ⟨rfl, ?_⟩
    iterate 2 refine Below.setCell ?_ (by dsimp only; omega) _
    exact nx (below2 _ _ _) BB.out
  | true =>
  obtain ⟨q1, q2, q3, q4, q5⟩ := fltOkF_range hk
  rw [hk] at H1
  by_cases h0 : 0 ≤ e
  · have hr : fltDecF m e = (m * 2 ^ e.toNat, 0) := by unfold fltDecF; rw [if_pos hk, if_pos h0]
    rw [hr]
    obtain ⟨K, rfl⟩ : ∃ K : Nat, e = (K : Int) := ⟨e.toNat, by omega⟩
    have q6 := q5 h0
    rw [Int.toNat_natCast] at q6 ⊢
    have hw1 : IntKind.i64.wrap (m * 2 ^ K) = m * 2 ^ K := IntWalk.i64_in _ (by omega)
    clear hr q5 q6 hk
    generalize hMM : m * 2 ^ K = MM at *
    go_enter Tryd.func20, Tryd.ntmps20
    go_wp2_with fail
    refine (H1.out _).mono ?_
    rintro _ w1 ⟨rfl, b1⟩
    obtain ⟨c0, c1, _⟩ := two_num b1 (first_block w _ _)
    obtain ⟨r0, r1, rf⟩ := two_num b1 (second_block2 w _ _)
    have rf0 := rf 0; have rf1 := rf 1; clear rf
    have hsz := b1.size
    simp only [World.size_alloc] at hsz
    have BB := Lib.hid b1; clear b1
    go_wp2_with fail
    refine bodyPost_ret (v := .agg #[.int .i64 MM, .int .i64 0]) (by simp [results, Tryd.results20, go_sem, r0, r1]) rfl ⟨rfl, ?_⟩
    iterate 2 refine Below.setCell ?_ (by dsimp only; omega) _
    exact nx (below2 _ _ _) BB.out
  · have hr : fltDecF m e = ((decNewF (m * 5 ^ (-e).toNat) e).1, (decNewF (m * 5 ^ (-e).toNat) e).2.1) := by unfold fltDecF; rw [if_pos hk, if_neg h0]
    rw [hr]
    obtain ⟨p1, p2⟩ := five_bd q1 q2 q3 (by omega)
    have c1 := fun w => pow_spec 5 (-e) w
    rw [powF_five (by omega) (by omega)] at c1
    have hw1 : IntKind.i64.wrap (m * 5 ^ (-e).toNat) = m * 5 ^ (-e).toNat := IntWalk.i64_in _ (by omega)
    have c2 := fun w => decNew_spec (m * 5 ^ (-e).toNat) e w (by omega) (by omega)
    generalize (5 : Int) ^ (-e).toNat = P at *
    generalize decNewF (m * P) e = z at *
    obtain ⟨A, B, C⟩ := z
    dsimp only at c2 ⊢
    have C1 := Lib.hid c1; have C2 := Lib.hid c2
    clear c1 c2 hr q5 hk p1 p2
    have hneg : decide (0 ≤ e) = false := decide_eq_false h0
    go_enter Tryd.func20, Tryd.ntmps20
    go_wp2_with fail
    refine (H1.out _).mono ?_
    rintro _ w1 ⟨rfl, b1⟩
    obtain ⟨c0, c1, _⟩ := two_num b1 (first_block w _ _)
    obtain ⟨r0, r1, rf⟩ := two_num b1 (second_block2 w _ _)
    have rf0 := rf 0; have rf1 := rf 1; clear rf
    have hsz := b1.size
    simp only [World.size_alloc] at hsz
    have BB := Lib.hid b1; clear b1
    go_wp2_with fail
    have hwn : IntKind.i64.wrap (-e) = -e := IntWalk.i64_in _ (by omega)
    go_region_held3 (fun w' => w'.cell? ⟨w.heap.size, 0, none⟩ = some (.int .i64 m) ∧ w'.cell? ⟨w.heap.size, 1, none⟩ = some (.int .i64 e)) (first | exact ⟨c0, c1⟩ | exact ⟨e0, e1⟩ | exact ⟨cell_alloc _ c0, cell_alloc _ c1⟩ | exact ⟨cell_alloc _ e0, cell_alloc _ e1⟩ | exact ⟨cell_set2 e0 (by omega), cell_set2 e1 (by omega)⟩)
      (first
       | (go_at_call 12; refine (C1.out _).mono ?_; rintro _ _ ⟨rfl, rfl⟩)
       | (go_at_call 29; refine (C2.out _).mono ?_; rintro _ w2 ⟨rfl, b2⟩; have e0 := (b2.cell (p := ⟨w.heap.size, 0, none⟩) (by simp; omega)).trans (by first | exact c0 | exact cell_alloc _ c0); have e1 := (b2.cell (p := ⟨w.heap.size, 1, none⟩) (by simp; omega)).trans (by first | exact c1 | exact cell_alloc _ c1); have s0 := (b2.cell (p := ⟨w.heap.size + 1, 0, none⟩) (by simp; omega)).trans (by first | exact r0 | exact cell_alloc _ r0); have s1 := (b2.cell (p := ⟨w.heap.size + 1, 1, none⟩) (by simp; omega)).trans (by first | exact r1 | exact cell_alloc _ r1); have sf0 := (b2.frozen (p := ⟨w.heap.size + 1, 0, none⟩) (by simp; omega)).trans (by first | exact rf0 | exact (frozen_alloc _ (by omega)).trans rf0); have sf1 := (b2.frozen (p := ⟨w.heap.size + 1, 1, none⟩) (by simp; omega)).trans (by first | exact rf1 | exact (frozen_alloc _ (by omega)).trans rf1); try obtain ⟨g0, g1, gf⟩ := two_num b2 (one_block w1 (.cells #[.int .i64 0, .int .i64 0] 28)); try (have gf0 := gf 0; have gf1 := gf 1; clear gf)))
    all_goals
      have t2 : Below w.heap.size w w2 := by
        first
        | exact nx ((nx (below2 _ _ _) BB.out).drew) b2
        | exact nx (((nx (below2 _ _ _) BB.out).alloc (by omega) _).drew) b2
        | exact nx (((nx (below2 _ _ _) BB.out).drew).alloc (by simp; omega) _) b2
        | exact nx (((nx (below2 _ _ _) BB.out).drew).drew) b2
      have hsz2 := t2.size
      have hsz4 : w1.heap.size ≤ w2.heap.size := by
        have := b2.size
        try simp at this
        omega
      have u0 := cell_alloc (.cells #[.int .i64 A, .int .i64 B] 28) s0
      have u1 := cell_alloc (.cells #[.int .i64 A, .int .i64 B] 28) s1
      have uf0 := (frozen_alloc (i := 0) (.cells #[.int .i64 A, .int .i64 B] 28) (show w.heap.size + 1 < w2.heap.size by omega)).trans sf0
      have uf1 := (frozen_alloc (i := 1) (.cells #[.int .i64 A, .int .i64 B] 28) (show w.heap.size + 1 < w2.heap.size by omega)).trans sf1
      go_wp2_with fail
      refine bodyPost_ret (v := .agg #[.int .i64 A, .int .i64 B]) (by simp [results, Tryd.results20, go_sem, *]) rfl ⟨rfl, ?_⟩
      repeat (first | refine Below.setCell ?_ (by dsimp only; omega) _ | refine Below.alloc ?_ (by omega) _)
      exact t2
set_option maxRecDepth 100000 in
set_option maxHeartbeats 4000000 in
theorem fltDec_impl (m e : Int) (w : World) (hL : LaidP w) :
    Calls Tryd.prog 21 #[.agg #[.int .i64 m, .int .i64 e]] w fun en w' => en = .returned (.agg #[.int .i64 (fltDecF m e).1, .int .i64 (fltDecF m e).2]) ∧ Below w.heap.size w w' := by
  have H1 := Lib.hid (fun w => fltOk_impl m e w)
  cases hk : fltOkF m e with
  | false =>
    have hr : fltDecF m e = (0, 0) := by unfold fltDecF; rw [if_neg (by rw [hk]; simp)]
    rw [hr]
    rw [hk] at H1
    clear hr hL
    go_enter Tryd.func21, Tryd.ntmps21
    go_wp2_with fail
    refine (H1.out _).mono ?_
    rintro _ w1 ⟨rfl, b1⟩
    obtain ⟨c0, c1, _⟩ := two_num b1 (first_block w _ _)
    obtain ⟨r0, r1, rf⟩ := two_num b1 (second_block2 w _ _)
    have rf0 := rf 0; have rf1 := rf 1; clear rf
    have hsz := b1.size
    simp only [World.size_alloc] at hsz
    have BB := Lib.hid b1; clear b1
    go_wp2_with fail
    refine bodyPost_ret (v := .agg #[.int .i64 0, .int .i64 0]) (by simp [results, Tryd.results21, go_sem, r0, r1]) rfl ⟨rfl, ?_⟩
    iterate 2 refine Below.setCell ?_ (by dsimp only; omega) _
    exact nx (below2 _ _ _) BB.out
  | true =>
  obtain ⟨q1, q2, q3, q4, q5⟩ := fltOkF_range hk
  rw [hk] at H1
  by_cases h0 : 0 ≤ e
  · have hr : fltDecF m e = (m * 2 ^ e.toNat, 0) := by unfold fltDecF; rw [if_pos hk, if_pos h0]
    rw [hr]
    obtain ⟨K, rfl⟩ : ∃ K : Nat, e = (K : Int) := ⟨e.toNat, by omega⟩
    have q6 := q5 h0
    rw [Int.toNat_natCast] at q6 ⊢
    have hw1 : IntKind.i64.wrap (m * 2 ^ K) = m * 2 ^ K := IntWalk.i64_in _ (by omega)
    clear hr q5 q6 hk hL
    generalize hMM : m * 2 ^ K = MM at *
    go_enter Tryd.func21, Tryd.ntmps21
    go_wp2_with fail
    refine (H1.out _).mono ?_
    rintro _ w1 ⟨rfl, b1⟩
    obtain ⟨c0, c1, _⟩ := two_num b1 (first_block w _ _)
    obtain ⟨r0, r1, rf⟩ := two_num b1 (second_block2 w _ _)
    have rf0 := rf 0; have rf1 := rf 1; clear rf
    have hsz := b1.size
    simp only [World.size_alloc] at hsz
    have BB := Lib.hid b1; clear b1
    go_wp2_with fail
    refine bodyPost_ret (v := .agg #[.int .i64 MM, .int .i64 0]) (by simp [results, Tryd.results21, go_sem, r0, r1]) rfl ⟨rfl, ?_⟩
    iterate 2 refine Below.setCell ?_ (by dsimp only; omega) _
    exact nx (below2 _ _ _) BB.out
  · have hr : fltDecF m e = ((decNewF (m * 5 ^ (-e).toNat) e).1, (decNewF (m * 5 ^ (-e).toNat) e).2.1) := by unfold fltDecF; rw [if_pos hk, if_neg h0]
    rw [hr]
    obtain ⟨p1, p2⟩ := five_bd q1 q2 q3 (by omega)
    have c1 := fun w => power_c 5 (-e) w (by omega) (by omega) (by omega)
    have hw1 : IntKind.i64.wrap (m * 5 ^ (-e).toNat) = m * 5 ^ (-e).toNat := IntWalk.i64_in _ (by omega)
    have c2 := fun w1 (hb : Below w.heap.size w w1) => decNew_impl (m * 5 ^ (-e).toNat) e w1 (hL.kept hb) (by omega) (by omega)
    clear hL
    generalize (5 : Int) ^ (-e).toNat = P at *
    generalize decNewF (m * P) e = z at *
    obtain ⟨A, B, C⟩ := z
    dsimp only at c2 ⊢
    have C1 := Lib.hid c1; have C2 := Lib.hid c2
    clear c1 c2 hr q5 hk p1 p2
    have hneg : decide (0 ≤ e) = false := decide_eq_false h0
    go_enter Tryd.func21, Tryd.ntmps21
    go_wp2_with fail
    refine (H1.out _).mono ?_
    rintro _ w1 ⟨rfl, b1⟩
    obtain ⟨c0, c1, _⟩ := two_num b1 (first_block w _ _)
    obtain ⟨r0, r1, rf⟩ := two_num b1 (second_block2 w _ _)
    have rf0 := rf 0; have rf1 := rf 1; clear rf
    have hsz := b1.size
    simp only [World.size_alloc] at hsz
    have BB := Lib.hid b1; clear b1
    go_wp2_with fail
    have hwn : IntKind.i64.wrap (-e) = -e := IntWalk.i64_in _ (by omega)
    go_region_held3 (fun w' => w'.cell? ⟨w.heap.size, 0, none⟩ = some (.int .i64 m) ∧ w'.cell? ⟨w.heap.size, 1, none⟩ = some (.int .i64 e)) (first | exact ⟨c0, c1⟩ | exact ⟨e0, e1⟩ | exact ⟨cell_alloc _ c0, cell_alloc _ c1⟩ | exact ⟨cell_alloc _ e0, cell_alloc _ e1⟩ | exact ⟨cell_set2 e0 (by omega), cell_set2 e1 (by omega)⟩)
      (first
       | (go_at_call 16; refine (C1.out _).mono ?_; rintro _ _ ⟨rfl, rfl⟩)
       | (go_at_call 30; refine (C2.out _ (by first | exact (nx (below2 _ _ _) BB.out).drew | exact ((nx (below2 _ _ _) BB.out).alloc (by omega) _).drew)).mono ?_; rintro _ w2 ⟨rfl, b2⟩; have e0 := (b2.cell (p := ⟨w.heap.size, 0, none⟩) (by simp; omega)).trans (by first | exact c0 | exact cell_alloc _ c0); have e1 := (b2.cell (p := ⟨w.heap.size, 1, none⟩) (by simp; omega)).trans (by first | exact c1 | exact cell_alloc _ c1); have s0 := (b2.cell (p := ⟨w.heap.size + 1, 0, none⟩) (by simp; omega)).trans (by first | exact r0 | exact cell_alloc _ r0); have s1 := (b2.cell (p := ⟨w.heap.size + 1, 1, none⟩) (by simp; omega)).trans (by first | exact r1 | exact cell_alloc _ r1); have sf0 := (b2.frozen (p := ⟨w.heap.size + 1, 0, none⟩) (by simp; omega)).trans (by first | exact rf0 | exact (frozen_alloc _ (by omega)).trans rf0); have sf1 := (b2.frozen (p := ⟨w.heap.size + 1, 1, none⟩) (by simp; omega)).trans (by first | exact rf1 | exact (frozen_alloc _ (by omega)).trans rf1); try obtain ⟨g0, g1, gf⟩ := two_num b2 (one_block w1 (.cells #[.int .i64 0, .int .i64 0] 28)); try (have gf0 := gf 0; have gf1 := gf 1; clear gf)))
    all_goals
      have t2 : Below w.heap.size w w2 := by
        first
        | exact nx ((nx (below2 _ _ _) BB.out).drew) b2
        | exact nx (((nx (below2 _ _ _) BB.out).alloc (by omega) _).drew) b2
        | exact nx (((nx (below2 _ _ _) BB.out).drew).alloc (by simp; omega) _) b2
        | exact nx (((nx (below2 _ _ _) BB.out).drew).drew) b2
      have hsz2 := t2.size
      have hsz4 : w1.heap.size ≤ w2.heap.size := by
        have := b2.size
        try simp at this
        omega
      have u0 := cell_alloc (.cells #[.int .i64 A, .int .i64 B] 28) s0
      have u1 := cell_alloc (.cells #[.int .i64 A, .int .i64 B] 28) s1
      have uf0 := (frozen_alloc (i := 0) (.cells #[.int .i64 A, .int .i64 B] 28) (show w.heap.size + 1 < w2.heap.size by omega)).trans sf0
      have uf1 := (frozen_alloc (i := 1) (.cells #[.int .i64 A, .int .i64 B] 28) (show w.heap.size + 1 < w2.heap.size by omega)).trans sf1
      go_wp2_with fail
      refine bodyPost_ret (v := .agg #[.int .i64 A, .int .i64 B]) (by simp [results, Tryd.results21, go_sem, *]) rfl ⟨rfl, ?_⟩
      repeat (first | refine Below.setCell ?_ (by dsimp only; omega) _ | refine Below.alloc ?_ (by omega) _)
      exact t2
end Go.Proofs.YtcmdchhhdcdpnaaDoor
