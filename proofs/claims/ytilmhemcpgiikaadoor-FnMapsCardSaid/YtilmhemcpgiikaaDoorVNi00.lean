/- The order of two values' numbers: the other side, case 00. -/
import Derived.Test.YtilmhemcpgiikaaDoorVPair
namespace Go.Proofs.YtilmhemcpgiikaaDoor
open Go.Deep Go.ChangeShapes Go.WideShapes Go.ChangeAt Go.RowKit
open Go.ChangeMaps (open_string shut_string)

set_option maxRecDepth 100000 in
set_option maxHeartbeats 8000000 in
theorem numI00 (k n x k' m y : Int) (s s' : ByteArray) (a a' : Option Addr) (l c l' c' : Nat) (w : World) (_hL : LaidP w) (_hn : -9223372036854775808 ≤ n ∧ n ≤ 9223372036854775807) (_hm : -9223372036854775808 ≤ m ∧ m ≤ 9223372036854775807) (h4 : k ≠ 4) (h6 : k ≠ 6) :
    Calls Tryd.prog 133 #[.agg #[.int .i64 k, .int .i64 n, .int .i64 x, .string s, .slice a l c], .agg #[.int .i64 k', .int .i64 m, .int .i64 y, .string s', .slice a' l' c']] w fun e w' => e = .returned (.int .i64 (numC k n x m y)) ∧ Below w.heap.size w w' := by
  have hf := numC_0 (n := n) (x := x) (m := m) (y := y) h4 h6
  rw [hf]; clear hf
  rw [← or2_plain]
  have e4 : (k == 4) = false := by simpa using h4
  have e6 : (k == 6) = false := by simpa using h6
  clear h4 h6
  have HC1 := Lib.hid (fun w1 => Tryd.cmp_Compare_int n m w1)
  have HC2 := Lib.hid (fun w1 => Tryd.cmp_Compare_int x y w1)
  generalize Lib.compareInt n m = R1 at *
  generalize Lib.compareInt x y = R2 at *
  clear _hL _hn _hm
  have HW := Lib.hid (vbelow2 w (.cells #[.int .i64 k, .int .i64 n, .int .i64 x, .string s, .slice a l c] 29) (.cells #[.int .i64 k', .int .i64 m, .int .i64 y, .string s', .slice a' l' c'] 29))
  have o0 : ((w.alloc (.cells #[.int .i64 k, .int .i64 n, .int .i64 x, .string s, .slice a l c] 29)).alloc (.cells #[.int .i64 k', .int .i64 m, .int .i64 y, .string s', .slice a' l' c'] 29)).heap[w.heap.size]? = some (.cells #[.int .i64 k, .int .i64 n, .int .i64 x, .string s, .slice a l c] 29) := (Below.heap_alloc _ _ _ (by simp only [World.size_alloc]; omega)).trans (heap_alloc_new w _)
  have o1 : ((w.alloc (.cells #[.int .i64 k, .int .i64 n, .int .i64 x, .string s, .slice a l c] 29)).alloc (.cells #[.int .i64 k', .int .i64 m, .int .i64 y, .string s', .slice a' l' c'] 29)).heap[w.heap.size + 1]? = some (.cells #[.int .i64 k', .int .i64 m, .int .i64 y, .string s', .slice a' l' c'] 29) := by simpa only [World.size_alloc] using heap_alloc_new (w.alloc (.cells #[.int .i64 k, .int .i64 n, .int .i64 x, .string s, .slice a l c] 29)) (.cells #[.int .i64 k', .int .i64 m, .int .i64 y, .string s', .slice a' l' c'] 29)
  have O0 := Lib.hid o0; have O1 := Lib.hid o1; clear o0 o1
  go_enter Tryd.func133, Tryd.ntmps133
  go_wp2_with fail
  have hs0 : w.heap.size + 1 < ((w.alloc (.cells #[.int .i64 k, .int .i64 n, .int .i64 x, .string s, .slice a l c] 29)).alloc (.cells #[.int .i64 k', .int .i64 m, .int .i64 y, .string s', .slice a' l' c'] 29)).heap.size := by simp only [World.size_alloc]; omega
  generalize hW0 : (w.alloc (.cells #[.int .i64 k, .int .i64 n, .int .i64 x, .string s, .slice a l c] 29)).alloc (.cells #[.int .i64 k', .int .i64 m, .int .i64 y, .string s', .slice a' l' c'] 29) = W at *
  clear hW0
  go_upto_region 1 with fail
  go_cut [5, 6] (fun s5 s6 wx => Pair W wx 56 n x m y s5 s6)
  case first =>
    obtain ⟨O0f_0, O0f_1, O0f_2, O0f_3, O0f_4⟩ := obj5 O0.out
    obtain ⟨O1f_0, O1f_1, O1f_2, O1f_3, O1f_4⟩ := obj5 O1.out
    have fs1 : w.heap.size < W.heap.size := by omega
    have fs2 : w.heap.size < W.heap.size + 1 := by omega
    have fs3 : w.heap.size ≤ W.heap.size := by omega
    have fs4 : w.heap.size + 1 < W.heap.size + 1 := by omega
    have fs5 : w.heap.size + 1 ≤ W.heap.size := by omega
    go_wp2_with fail
    go_region
    all_goals go_wp2_with fail
    all_goals go_meet
    all_goals
      case rel => first | exact pair_ab _ _ _ _ _ _ | exact pair_ba _ _ _ _ _ _
  obtain ⟨p1, q1, rfl, rfl, hp1, hq1, P1, Q1, HB1⟩ := hcut
  skip
  have B1 := Lib.hid (vnx HW.out HB1.out)
  replace hs0 : w.heap.size + 1 < wc.heap.size := by have := HB1.out.size; omega
  have O0 := Lib.hid (kept_obj HB1.out O0.out); have O1 := Lib.hid (kept_obj HB1.out O1.out)
  obtain ⟨O00_0, O00_1, O00_2, O00_3, O00_4⟩ := obj5 O0.out
  obtain ⟨O10_0, O10_1, O10_2, O10_3, O10_4⟩ := obj5 O1.out
  obtain ⟨P10_0, P10_1⟩ := obj2 P1.out
  obtain ⟨Q10_0, Q10_1⟩ := obj2 Q1.out
  go_wp2_with fail
  clear O00_0 O00_1 O00_2 O00_3 O00_4 O10_0 O10_1 O10_2 O10_3 O10_4 P10_0 P10_1 Q10_0 Q10_1
  go_upto_region 4 with fail
  go_cut [7, 8] (fun s5 s6 wx => Pair wc wx 42 n x m y s5 s6)
  case first =>
    obtain ⟨O0f_0, O0f_1, O0f_2, O0f_3, O0f_4⟩ := obj5 O0.out
    obtain ⟨O1f_0, O1f_1, O1f_2, O1f_3, O1f_4⟩ := obj5 O1.out
    have fs1 : w.heap.size < wc.heap.size := by omega
    have fs2 : w.heap.size < wc.heap.size + 1 := by omega
    have fs3 : w.heap.size ≤ wc.heap.size := by omega
    have fs4 : w.heap.size + 1 < wc.heap.size + 1 := by omega
    have fs5 : w.heap.size + 1 ≤ wc.heap.size := by omega
    go_wp2_with fail
    go_region
    all_goals go_wp2_with fail
    all_goals go_meet
    all_goals
      case rel => first | exact pair_ab _ _ _ _ _ _ | exact pair_ba _ _ _ _ _ _
  obtain ⟨p2, q2, rfl, rfl, hp2, hq2, P2, Q2, HB2⟩ := hcut
  generalize wc = wd at *
  have B2 := Lib.hid (vnx B1.out HB2.out)
  replace O0 := Lib.hid (kept_obj HB2.out O0.out)
  replace O1 := Lib.hid (kept_obj HB2.out O1.out)
  replace P1 := Lib.hid (kept_obj HB2.out P1.out)
  replace Q1 := Lib.hid (kept_obj HB2.out Q1.out)
  obtain ⟨O01_0, O01_1, O01_2, O01_3, O01_4⟩ := obj5 O0.out
  obtain ⟨O11_0, O11_1, O11_2, O11_3, O11_4⟩ := obj5 O1.out
  obtain ⟨P11_0, P11_1⟩ := obj2 P1.out
  obtain ⟨Q11_0, Q11_1⟩ := obj2 Q1.out
  obtain ⟨P21_0, P21_1⟩ := obj2 P2.out
  obtain ⟨Q21_0, Q21_1⟩ := obj2 Q2.out
  go_wp2_with fail
  have dd : Below wd.heap.size wd wd.drew := (Below.refl _ _).drew
  have dz : Below wd.heap.size wd wd := Below.refl _ _
  have HK : Hid (∀ w', Below wd.heap.size wd w' → (w'.cell? ⟨w.heap.size, 1, none⟩ = some (.int .i64 n) ∧ w'.cell? ⟨w.heap.size, 2, none⟩ = some (.int .i64 x)) ∧ (w'.cell? ⟨w.heap.size + 1, 1, none⟩ = some (.int .i64 m) ∧ w'.cell? ⟨w.heap.size + 1, 2, none⟩ = some (.int .i64 y))) := Lib.hid (fun w' h => ⟨⟨(obj5 (kept_obj h O0.out)).2.1, (obj5 (kept_obj h O0.out)).2.2.1⟩, ⟨(obj5 (kept_obj h O1.out)).2.1, (obj5 (kept_obj h O1.out)).2.2.1⟩⟩)
  go_region_held3 (fun w' => (w'.cell? ⟨w.heap.size, 1, none⟩ = some (.int .i64 n) ∧ w'.cell? ⟨w.heap.size, 2, none⟩ = some (.int .i64 x)) ∧ (w'.cell? ⟨w.heap.size + 1, 1, none⟩ = some (.int .i64 m) ∧ w'.cell? ⟨w.heap.size + 1, 2, none⟩ = some (.int .i64 y))) (first | with_reducible exact HK.out _ dd | with_reducible exact HK.out _ (dd.alloc dd.size _) | with_reducible exact HK.out _ (dz.alloc (Nat.le_refl _) _).drew | with_reducible exact HK.out _ (dz.alloc (Nat.le_refl _) _) | with_reducible exact HK.out _ (dd.alloc dd.size _).drew | with_reducible exact HK.out _ dd.drew)
    (first
     | (go_at_call 131; (with_reducible refine (HC1.out _).mono ?_); rintro _ _ ⟨rfl, rfl⟩)
     | (go_at_call 131; (with_reducible refine (HC2.out _).mono ?_); rintro _ _ ⟨rfl, rfl⟩)
     | (go_at_call 132; refine (or_c R1 R2 _ _ (by simp) (by first | with_reducible exact (new2 _ _ _ _).1 | with_reducible exact (new2d _ _ _ _).1 | with_reducible exact (new2e _ _ _ _).1) (by first | with_reducible exact (new2 _ _ _ _).2 | with_reducible exact (new2d _ _ _ _).2 | with_reducible exact (new2e _ _ _ _).2)).mono ?_; rintro _ _ ⟨rfl, rfl⟩))
  all_goals
    go_wp2_with fail
    go_ret
    exact ⟨rfl, vnx B2.out (by first | exact dd.alloc dd.size _ | exact (dz.alloc (Nat.le_refl _) _).drew | exact (dd.alloc dd.size _).drew)⟩
end Go.Proofs.YtilmhemcpgiikaaDoor
