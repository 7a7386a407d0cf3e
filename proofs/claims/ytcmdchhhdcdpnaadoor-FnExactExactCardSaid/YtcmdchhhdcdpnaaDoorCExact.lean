/- Exact: both alike. -/
import Derived.Test.YtcmdchhhdcdpnaaDoorCNearT
import Derived.Test.YtcmdchhhdcdpnaaDoorCNearI
import Derived.Test.YtcmdchhhdcdpnaaDoorCFltText
import Derived.Deep.RegionHeld3
import Derived.Deep.RegionWith
namespace Go.Proofs.YtcmdchhhdcdpnaaDoor
open Go.Deep Go.ChangeShapes Go.WideShapes Go.ChangeAt Go.RowKit
open Go.ChangeMaps (open_string shut_string)

/-- Whether the nearest floating-point number is the number itself. -/
def exactB (n x : Int) : Bool := (nearF n x).2.2 && (decide (fltDecF (nearF n x).1 (nearF n x).2.1 = (n, x)))


set_option maxHeartbeats 2000000 in
theorem exact_spec (n x : Int) (w : World) (g1 : -9223372036854775808 ≤ n) (g2 : n ≤ 9223372036854775807) :
    Calls Tryd.prog 9 #[.agg #[.int .i64 n, .int .i64 x]] w fun en w' => en = .returned (.bool (exactB n x)) ∧ Below w.heap.size w w' := by
  obtain ⟨⟨A, B, C⟩, hN⟩ : ∃ z : Int × Int × Bool, nearF n x = z := ⟨_, rfl⟩
  have h1 := fun w1 (_hb : Below w.heap.size w w1) => nearFlt_spec n x w1 g1 g2
  have h2 := fun w1 (_hb : Below w.heap.size w w1) => fltDec_spec A B w1
  have hr : exactB n x = (C && decide (fltDecF A B = (n, x))) := by unfold exactB; rw [hN]
  rw [hr]
  rw [hN] at h1
  simp only at h1
  obtain ⟨⟨D, E⟩, hD⟩ : ∃ z : Int × Int, fltDecF A B = z := ⟨_, rfl⟩
  rw [hD] at h2 ⊢
  simp only at h2
  obtain ⟨R, hR⟩ : ∃ R, R = (C && decide ((D, E) = (n, x))) := ⟨_, rfl⟩
  rw [← hR]
  have HR := Lib.hid hR
  clear hR
  have H1 := Lib.hid h1; have H2 := Lib.hid h2
  clear h1 h2 hN hr hD 
  go_enter Tryd.func9, Tryd.ntmps9
  go_wp2_with fail
  have b0 := below1 w (.cells #[.int .i64 n, .int .i64 x] 28)
  refine (H1.out _ b0).mono ?_
  rintro _ w1 ⟨rfl, b1⟩
  have d1 := nx b1 (below1 w1 (.cells #[.int .i64 A, .int .i64 B] 25))
  have HK : Hid (∀ w', Below (w1.alloc (.cells #[.int .i64 A, .int .i64 B] 25)).heap.size (w1.alloc (.cells #[.int .i64 A, .int .i64 B] 25)) w' → (w'.cell? ⟨w.heap.size, 0, none⟩ = some (.int .i64 n) ∧ w'.cell? ⟨w.heap.size, 1, none⟩ = some (.int .i64 x)) ∧ (w'.cell? ⟨w1.heap.size, 0, none⟩ = some (.int .i64 A) ∧ w'.cell? ⟨w1.heap.size, 1, none⟩ = some (.int .i64 B))) :=
    Lib.hid (fun w' h => ⟨box2 (nx d1 h), box2 h⟩)
  have d5 : Below (w1.alloc (.cells #[.int .i64 A, .int .i64 B] 25)).heap.size (w1.alloc (.cells #[.int .i64 A, .int .i64 B] 25)) (w1.alloc (.cells #[.int .i64 A, .int .i64 B] 25)).drew := (Below.refl _ _).drew
  cases C with
  | false =>
    obtain rfl : R = false := by rw [HR.out]; simp
    go_wp2_with fail
    go_region_with (fail)
    all_goals
      go_wp2_with fail
      go_ret
      exact ⟨rfl, nx b0 (nx d1 d5)⟩
  | true =>
   by_cases hd : D = n
   · subst hd
     by_cases he : E = x
     · subst he
       obtain rfl : R = true := by rw [HR.out]; simp
       go_wp2_with fail
       go_region_held3 (fun w' => (w'.cell? ⟨w.heap.size, 0, none⟩ = some (.int .i64 D) ∧ w'.cell? ⟨w.heap.size, 1, none⟩ = some (.int .i64 E)) ∧ (w'.cell? ⟨w1.heap.size, 0, none⟩ = some (.int .i64 A) ∧ w'.cell? ⟨w1.heap.size, 1, none⟩ = some (.int .i64 B))) (first | exact HK.out _ d6 | exact HK.out _ d5)
         (first | (go_at_call 20; refine (H2.out _ (nx b0 (nx d1 d5))).mono ?_; rintro _ w6 ⟨rfl, b6⟩; have d6 := nx d5 b6))
       all_goals
         go_wp2_with fail
         go_ret
         exact ⟨rfl, nx b0 (nx d1 d6)⟩
     · have he2 : (E == x) = false := by simpa using he
       obtain rfl : R = false := by rw [HR.out]; simp [he]
       go_wp2_with fail
       go_region_held3 (fun w' => (w'.cell? ⟨w.heap.size, 0, none⟩ = some (.int .i64 D) ∧ w'.cell? ⟨w.heap.size, 1, none⟩ = some (.int .i64 x)) ∧ (w'.cell? ⟨w1.heap.size, 0, none⟩ = some (.int .i64 A) ∧ w'.cell? ⟨w1.heap.size, 1, none⟩ = some (.int .i64 B))) (first | exact HK.out _ d6 | exact HK.out _ d5)
         (first | (go_at_call 20; refine (H2.out _ (nx b0 (nx d1 d5))).mono ?_; rintro _ w6 ⟨rfl, b6⟩; have d6 := nx d5 b6))
       all_goals
         go_wp2_with fail
         go_ret
         exact ⟨rfl, nx b0 (nx d1 d6)⟩
   · have hd2 : (D == n) = false := by simpa using hd
     obtain rfl : R = false := by rw [HR.out]; simp [hd]
     go_wp2_with fail
     go_region_held3 (fun w' => (w'.cell? ⟨w.heap.size, 0, none⟩ = some (.int .i64 n) ∧ w'.cell? ⟨w.heap.size, 1, none⟩ = some (.int .i64 x)) ∧ (w'.cell? ⟨w1.heap.size, 0, none⟩ = some (.int .i64 A) ∧ w'.cell? ⟨w1.heap.size, 1, none⟩ = some (.int .i64 B))) (first | exact HK.out _ d6 | exact HK.out _ d5)
       (first | (go_at_call 20; refine (H2.out _ (nx b0 (nx d1 d5))).mono ?_; rintro _ w6 ⟨rfl, b6⟩; have d6 := nx d5 b6))
     all_goals
       go_wp2_with fail
       go_ret
       exact ⟨rfl, nx b0 (nx d1 d6)⟩

set_option maxHeartbeats 2000000 in
theorem exact_impl (n x : Int) (w : World) (hL : LaidP w) (g1 : -9223372036854775808 ≤ n) (g2 : n ≤ 9223372036854775807) :
    Calls Tryd.prog 10 #[.agg #[.int .i64 n, .int .i64 x]] w fun en w' => en = .returned (.bool (exactB n x)) ∧ Below w.heap.size w w' := by
  obtain ⟨⟨A, B, C⟩, hN⟩ : ∃ z : Int × Int × Bool, nearF n x = z := ⟨_, rfl⟩
  have h1 := fun w1 (hb : Below w.heap.size w w1) => nearFlt_impl n x w1 (hL.kept hb) g1 g2
  have h2 := fun w1 (hb : Below w.heap.size w w1) => fltDec_impl A B w1 (hL.kept hb)
  have hr : exactB n x = (C && decide (fltDecF A B = (n, x))) := by unfold exactB; rw [hN]
  rw [hr]
  rw [hN] at h1
  simp only at h1
  obtain ⟨⟨D, E⟩, hD⟩ : ∃ z : Int × Int, fltDecF A B = z := ⟨_, rfl⟩
  rw [hD] at h2 ⊢
  simp only at h2
  obtain ⟨R, hR⟩ : ∃ R, R = (C && decide ((D, E) = (n, x))) := ⟨_, rfl⟩
  rw [← hR]
  have HR := Lib.hid hR
  clear hR
  have H1 := Lib.hid h1; have H2 := Lib.hid h2
  clear h1 h2 hN hr hD hL
  go_enter Tryd.func10, Tryd.ntmps10
  go_wp2_with fail
  have b0 := below1 w (.cells #[.int .i64 n, .int .i64 x] 28)
  refine (H1.out _ b0).mono ?_
  rintro _ w1 ⟨rfl, b1⟩
  have d1 := nx b1 (below1 w1 (.cells #[.int .i64 A, .int .i64 B] 25))
  have HK : Hid (∀ w', Below (w1.alloc (.cells #[.int .i64 A, .int .i64 B] 25)).heap.size (w1.alloc (.cells #[.int .i64 A, .int .i64 B] 25)) w' → (w'.cell? ⟨w.heap.size, 0, none⟩ = some (.int .i64 n) ∧ w'.cell? ⟨w.heap.size, 1, none⟩ = some (.int .i64 x)) ∧ (w'.cell? ⟨w1.heap.size, 0, none⟩ = some (.int .i64 A) ∧ w'.cell? ⟨w1.heap.size, 1, none⟩ = some (.int .i64 B))) :=
    Lib.hid (fun w' h => ⟨box2 (nx d1 h), box2 h⟩)
  have d5 : Below (w1.alloc (.cells #[.int .i64 A, .int .i64 B] 25)).heap.size (w1.alloc (.cells #[.int .i64 A, .int .i64 B] 25)) (w1.alloc (.cells #[.int .i64 A, .int .i64 B] 25)).drew := (Below.refl _ _).drew
  cases C with
  | false =>
    obtain rfl : R = false := by rw [HR.out]; simp
    go_wp2_with fail
    go_region_with (fail)
    all_goals
      go_wp2_with fail
      go_ret
      exact ⟨rfl, nx b0 (nx d1 d5)⟩
  | true =>
   by_cases hd : D = n
   · subst hd
     by_cases he : E = x
     · subst he
       obtain rfl : R = true := by rw [HR.out]; simp
       go_wp2_with fail
       go_region_held3 (fun w' => (w'.cell? ⟨w.heap.size, 0, none⟩ = some (.int .i64 D) ∧ w'.cell? ⟨w.heap.size, 1, none⟩ = some (.int .i64 E)) ∧ (w'.cell? ⟨w1.heap.size, 0, none⟩ = some (.int .i64 A) ∧ w'.cell? ⟨w1.heap.size, 1, none⟩ = some (.int .i64 B))) (first | exact HK.out _ d6 | exact HK.out _ d5)
         (first | (go_at_call 21; refine (H2.out _ (nx b0 (nx d1 d5))).mono ?_; rintro _ w6 ⟨rfl, b6⟩; have d6 := nx d5 b6))
       all_goals
         go_wp2_with fail
         go_ret
         exact ⟨rfl, nx b0 (nx d1 d6)⟩
     · have he2 : (E == x) = false := by simpa using he
       obtain rfl : R = false := by rw [HR.out]; simp [he]
       go_wp2_with fail
       go_region_held3 (fun w' => (w'.cell? ⟨w.heap.size, 0, none⟩ = some (.int .i64 D) ∧ w'.cell? ⟨w.heap.size, 1, none⟩ = some (.int .i64 x)) ∧ (w'.cell? ⟨w1.heap.size, 0, none⟩ = some (.int .i64 A) ∧ w'.cell? ⟨w1.heap.size, 1, none⟩ = some (.int .i64 B))) (first | exact HK.out _ d6 | exact HK.out _ d5)
         (first | (go_at_call 21; refine (H2.out _ (nx b0 (nx d1 d5))).mono ?_; rintro _ w6 ⟨rfl, b6⟩; have d6 := nx d5 b6))
       all_goals
         go_wp2_with fail
         go_ret
         exact ⟨rfl, nx b0 (nx d1 d6)⟩
   · have hd2 : (D == n) = false := by simpa using hd
     obtain rfl : R = false := by rw [HR.out]; simp [hd]
     go_wp2_with fail
     go_region_held3 (fun w' => (w'.cell? ⟨w.heap.size, 0, none⟩ = some (.int .i64 n) ∧ w'.cell? ⟨w.heap.size, 1, none⟩ = some (.int .i64 x)) ∧ (w'.cell? ⟨w1.heap.size, 0, none⟩ = some (.int .i64 A) ∧ w'.cell? ⟨w1.heap.size, 1, none⟩ = some (.int .i64 B))) (first | exact HK.out _ d6 | exact HK.out _ d5)
       (first | (go_at_call 21; refine (H2.out _ (nx b0 (nx d1 d5))).mono ?_; rintro _ w6 ⟨rfl, b6⟩; have d6 := nx d5 b6))
     all_goals
       go_wp2_with fail
       go_ret
       exact ⟨rfl, nx b0 (nx d1 d6)⟩
end Go.Proofs.YtcmdchhhdcdpnaaDoor
