/- LessFlt of both. -/
import Derived.Test.YtilmhemcpgiikaaDoorCFltDec
import Derived.Deep.RegionHeld3
import Derived.Deep.RegionWith
namespace Go.Proofs.YtilmhemcpgiikaaDoor
open Go.Deep Go.ChangeShapes Go.WideShapes Go.ChangeAt Go.RowKit
open Go.ChangeMaps (open_string shut_string)

/-- What DecNew gives is valid. -/
theorem decNewF_ok (n x : Int) : decOkB (decNewF n x).1 (decNewF n x).2.1 = true := by
  have z : decOkB 0 0 = true := decOkB_iff.2 (.inl ⟨rfl, by decide, by decide⟩)
  unfold decNewF
  split
  · split
    · exact z
    · split
      · split
        · assumption
        · exact z
      · split
        · rename_i h; exact decOkB_iff.2 (.inl ⟨rfl, h⟩)
        · exact z
  · exact z
theorem fltDecF_ok (m e : Int) : decOkB (fltDecF m e).1 (fltDecF m e).2 = true := by
  have z : decOkB 0 0 = true := decOkB_iff.2 (.inl ⟨rfl, by decide, by decide⟩)
  unfold fltDecF
  split
  · rename_i hk
    split
    · rename_i h; exact decOkB_iff.2 (.inl ⟨rfl, (fltOkF_range hk).2.2.2.2 h⟩)
    · exact decNewF_ok _ _
  · exact z
theorem fltDecF_bd (m e : Int) : -9223372036854775808 ≤ (fltDecF m e).1 ∧ (fltDecF m e).1 ≤ 9223372036854775807 := by
  have := decOk_range (fltDecF_ok m e); omega

def lessFltB (m e p q : Int) : Bool := fltOkF m e && (fltOkF p q && lessDecB (fltDecF m e).1 (fltDecF m e).2 (fltDecF p q).1 (fltDecF p q).2)


set_option maxHeartbeats 4000000 in
theorem lessFlt_spec (m e p q : Int) (w : World) :
    Calls Tryd.prog 47 #[.agg #[.int .i64 m, .int .i64 e], .agg #[.int .i64 p, .int .i64 q]] w fun en w' => en = .returned (.bool (lessFltB m e p q)) ∧ Below w.heap.size w w' := by
  have h1 := fun w1 => fltOk_spec m e w1
  have h2 := fun w1 => fltOk_spec p q w1
  have h3 := fun w1 (hb : Below w.heap.size w w1) => fltDec_spec m e w1
  have h4 := fun w1 (hb : Below w.heap.size w w1) => fltDec_spec p q w1
  have h5 := fun w1 (hb : Below w.heap.size w w1) => (lessDec_spec (fltDecF m e).1 (fltDecF m e).2 (fltDecF p q).1 (fltDecF p q).2 w1 (fltDecF_bd m e).1 (fltDecF_bd m e).2 (fltDecF_bd p q).1 (fltDecF_bd p q).2)
  have F := Lib.hid (first_block w (.cells #[.int .i64 m, .int .i64 e] 56) (.cells #[.int .i64 p, .int .i64 q] 56))
  have G := Lib.hid (second_block2 w (.cells #[.int .i64 m, .int .i64 e] 56) (.cells #[.int .i64 p, .int .i64 q] 56))
  have bb := below2 w (.cells #[.int .i64 m, .int .i64 e] 56) (.cells #[.int .i64 p, .int .i64 q] 56)
  obtain ⟨W0, hW0⟩ : ∃ W0, W0 = (w.alloc (.cells #[.int .i64 m, .int .i64 e] 56)).alloc (.cells #[.int .i64 p, .int .i64 q] 56) := ⟨_, rfl⟩
  have HK : Hid (∀ w1, Below W0.heap.size W0 w1 → (w1.cell? ⟨w.heap.size, 0, none⟩ = some (.int .i64 m) ∧ w1.cell? ⟨w.heap.size, 1, none⟩ = some (.int .i64 e)) ∧ (w1.cell? ⟨w.heap.size + 1, 0, none⟩ = some (.int .i64 p) ∧ w1.cell? ⟨w.heap.size + 1, 1, none⟩ = some (.int .i64 q))) :=
    Lib.hid (fun w1 hb => by
      subst hW0
      obtain ⟨c0, c1, _⟩ := two_num hb F.out
      obtain ⟨d0, d1, _⟩ := two_num hb G.out
      exact ⟨⟨c0, c1⟩, d0, d1⟩)
  rw [← hW0] at bb
  have d5 : Below W0.heap.size W0 W0.drew := (Below.refl _ _).drew
  have HW := Lib.hid hW0
  clear hW0 F G
  cases hk : fltOkF m e with
  | false =>
    have hr : lessFltB m e p q = false := by unfold lessFltB; rw [hk]; rfl
    rw [hr]
    rw [hk] at h1
    have H1 := Lib.hid h1
    clear hr h1 h2 h3 h4 h5
    go_enter Tryd.func47, Tryd.ntmps47
    go_wp2_with fail
    rw [← HW.out]
    have tok1 : True := trivial
    obtain ⟨⟨x0, x1⟩, y0, y1⟩ := HK.out _ (Below.refl _ _)
    go_region_with (go_at_call 49; have tk := tok1; refine (H1.out _).mono ?_; rintro _ w6 ⟨rfl, b6⟩; have d6 := nx d5 b6; clear tok1; have tok2 : True := trivial)
    all_goals
      go_wp2_with fail
      go_ret
      exact ⟨rfl, nx bb d6⟩
  | true =>
  cases hk2 : fltOkF p q with
  | false =>
    have hr : lessFltB m e p q = false := by unfold lessFltB; rw [hk2]; simp
    rw [hr]
    rw [hk] at h1
    rw [hk2] at h2
    have H1 := Lib.hid h1; have H2 := Lib.hid h2
    clear hr h1 h2 h3 h4 h5
    go_enter Tryd.func47, Tryd.ntmps47
    go_wp2_with fail
    rw [← HW.out]
    have tok1 : True := trivial
    obtain ⟨⟨x0, x1⟩, y0, y1⟩ := HK.out _ (Below.refl _ _)
    go_region_with (first
       | (go_at_call 49; have tk := tok1; refine (H1.out _).mono ?_; rintro _ w6 ⟨rfl, b6⟩; have d6 := nx d5 b6; clear tok1; have tok2 : True := trivial; obtain ⟨⟨x2, x3⟩, y2, y3⟩ := HK.out _ d6)
       | (go_at_call 49; have tk := tok2; refine (H2.out _).mono ?_; rintro _ w7 ⟨rfl, b7⟩; have d7 := nx d6 b7; clear tok2; have tok3 : True := trivial))
    all_goals
      go_wp2_with fail
      go_ret
      exact ⟨rfl, nx bb d7⟩
  | true =>
    have hr : lessFltB m e p q = lessDecB (fltDecF m e).1 (fltDecF m e).2 (fltDecF p q).1 (fltDecF p q).2 := by unfold lessFltB; rw [hk, hk2]; rfl
    rw [hr]
    rw [hk] at h1
    rw [hk2] at h2
    clear hr
    generalize lessDecB (fltDecF m e).1 (fltDecF m e).2 (fltDecF p q).1 (fltDecF p q).2 = R at *
    obtain ⟨z, hz⟩ : ∃ z, fltDecF m e = z := ⟨_, rfl⟩
    obtain ⟨y, hy⟩ : ∃ z, fltDecF p q = z := ⟨_, rfl⟩
    rw [hz] at h3 h5
    rw [hy] at h4 h5
    clear hz hy
    obtain ⟨A, B⟩ := z
    obtain ⟨C, D⟩ := y
    dsimp only at h3 h4 h5
    have H1 := Lib.hid h1; have H2 := Lib.hid h2; have H3 := Lib.hid h3; have H4 := Lib.hid h4; have H5 := Lib.hid h5
    clear h1 h2 h3 h4 h5
    go_enter Tryd.func47, Tryd.ntmps47
    go_wp2_with fail
    rw [← HW.out]
    have tok1 : True := trivial
    go_region_held3 (fun w' => (w'.cell? ⟨w.heap.size, 0, none⟩ = some (.int .i64 m) ∧ w'.cell? ⟨w.heap.size, 1, none⟩ = some (.int .i64 e)) ∧ (w'.cell? ⟨w.heap.size + 1, 0, none⟩ = some (.int .i64 p) ∧ w'.cell? ⟨w.heap.size + 1, 1, none⟩ = some (.int .i64 q))) (first | exact HK.out _ d10 | exact HK.out _ d9 | exact HK.out _ d8 | exact HK.out _ d7 | exact HK.out _ d6 | exact HK.out _ d5)
      (first
       | (go_at_call 49; have tk := tok1; refine (H1.out _).mono ?_; rintro _ w6 ⟨rfl, b6⟩; have d6 := nx d5 b6; clear tok1; have tok2 : True := trivial)
       | (go_at_call 49; have tk := tok2; refine (H2.out _).mono ?_; rintro _ w7 ⟨rfl, b7⟩; have d7 := nx d6 b7; clear tok2; have tok3 : True := trivial)
       | (go_at_call 45; have tk := tok3; refine (H3.out _ (nx bb d7)).mono ?_; rintro _ w8 ⟨rfl, b8⟩; have d8 := nx d7 b8; clear tok3; have tok4 : True := trivial)
       | (go_at_call 45; have tk := tok3; refine (H4.out _ (nx bb d7)).mono ?_; rintro _ w8 ⟨rfl, b8⟩; have d8 := nx d7 b8; clear tok3; have tok4 : True := trivial)
       | (go_at_call 45; have tk := tok4; refine (H4.out _ (nx bb d8)).mono ?_; rintro _ w9 ⟨rfl, b9⟩; have d9 := nx d8 b9; clear tok4)
       | (go_at_call 45; have tk := tok4; refine (H3.out _ (nx bb d8)).mono ?_; rintro _ w9 ⟨rfl, b9⟩; have d9 := nx d8 b9; clear tok4)
       | (go_at_call 38; refine (H5.out _ (nx bb d9)).mono ?_; rintro _ w10 ⟨rfl, b10⟩; have d10 := nx d9 b10))
    all_goals
      go_wp2_with fail
      go_ret
      exact ⟨rfl, nx bb d10⟩


set_option maxHeartbeats 4000000 in
theorem lessFlt_impl (m e p q : Int) (w : World) (hL : LaidP w) :
    Calls Tryd.prog 46 #[.agg #[.int .i64 m, .int .i64 e], .agg #[.int .i64 p, .int .i64 q]] w fun en w' => en = .returned (.bool (lessFltB m e p q)) ∧ Below w.heap.size w w' := by
  have h1 := fun w1 => fltOk_impl m e w1
  have h2 := fun w1 => fltOk_impl p q w1
  have h3 := fun w1 (hb : Below w.heap.size w w1) => fltDec_impl m e w1 (hL.kept hb)
  have h4 := fun w1 (hb : Below w.heap.size w w1) => fltDec_impl p q w1 (hL.kept hb)
  have h5 := fun w1 (hb : Below w.heap.size w w1) => (lessDec_impl (fltDecF m e).1 (fltDecF m e).2 (fltDecF p q).1 (fltDecF p q).2 w1 (hL.kept hb) (fltDecF_bd m e).1 (fltDecF_bd m e).2 (fltDecF_bd p q).1 (fltDecF_bd p q).2)
  clear hL
  have F := Lib.hid (first_block w (.cells #[.int .i64 m, .int .i64 e] 56) (.cells #[.int .i64 p, .int .i64 q] 56))
  have G := Lib.hid (second_block2 w (.cells #[.int .i64 m, .int .i64 e] 56) (.cells #[.int .i64 p, .int .i64 q] 56))
  have bb := below2 w (.cells #[.int .i64 m, .int .i64 e] 56) (.cells #[.int .i64 p, .int .i64 q] 56)
  obtain ⟨W0, hW0⟩ : ∃ W0, W0 = (w.alloc (.cells #[.int .i64 m, .int .i64 e] 56)).alloc (.cells #[.int .i64 p, .int .i64 q] 56) := ⟨_, rfl⟩
  have HK : Hid (∀ w1, Below W0.heap.size W0 w1 → (w1.cell? ⟨w.heap.size, 0, none⟩ = some (.int .i64 m) ∧ w1.cell? ⟨w.heap.size, 1, none⟩ = some (.int .i64 e)) ∧ (w1.cell? ⟨w.heap.size + 1, 0, none⟩ = some (.int .i64 p) ∧ w1.cell? ⟨w.heap.size + 1, 1, none⟩ = some (.int .i64 q))) :=
    Lib.hid (fun w1 hb => by
      subst hW0
      obtain ⟨c0, c1, _⟩ := two_num hb F.out
      obtain ⟨d0, d1, _⟩ := two_num hb G.out
      exact ⟨⟨c0, c1⟩, d0, d1⟩)
  rw [← hW0] at bb
  have d5 : Below W0.heap.size W0 W0.drew := (Below.refl _ _).drew
  have HW := Lib.hid hW0
  clear hW0 F G
  cases hk : fltOkF m e with
  | false =>
    have hr : lessFltB m e p q = false := by unfold lessFltB; rw [hk]; rfl
    rw [hr]
    rw [hk] at h1
    have H1 := Lib.hid h1
    clear hr h1 h2 h3 h4 h5
    go_enter Tryd.func46, Tryd.ntmps46
    go_wp2_with fail
    rw [← HW.out]
    have tok1 : True := trivial
    obtain ⟨⟨x0, x1⟩, y0, y1⟩ := HK.out _ (Below.refl _ _)
    go_region_with (go_at_call 48; have tk := tok1; refine (H1.out _).mono ?_; rintro _ w6 ⟨rfl, b6⟩; have d6 := nx d5 b6; clear tok1; have tok2 : True := trivial)
    all_goals
      go_wp2_with fail
      go_ret
      exact ⟨rfl, nx bb d6⟩
  | true =>
  cases hk2 : fltOkF p q with
  | false =>
    have hr : lessFltB m e p q = false := by unfold lessFltB; rw [hk2]; simp
    rw [hr]
    rw [hk] at h1
    rw [hk2] at h2
    have H1 := Lib.hid h1; have H2 := Lib.hid h2
    clear hr h1 h2 h3 h4 h5
    go_enter Tryd.func46, Tryd.ntmps46
    go_wp2_with fail
    rw [← HW.out]
    have tok1 : True := trivial
    obtain ⟨⟨x0, x1⟩, y0, y1⟩ := HK.out _ (Below.refl _ _)
    go_region_with (first
       | (go_at_call 48; have tk := tok1; refine (H1.out _).mono ?_; rintro _ w6 ⟨rfl, b6⟩; have d6 := nx d5 b6; clear tok1; have tok2 : True := trivial; obtain ⟨⟨x2, x3⟩, y2, y3⟩ := HK.out _ d6)
       | (go_at_call 48; have tk := tok2; refine (H2.out _).mono ?_; rintro _ w7 ⟨rfl, b7⟩; have d7 := nx d6 b7; clear tok2; have tok3 : True := trivial))
    all_goals
      go_wp2_with fail
      go_ret
      exact ⟨rfl, nx bb d7⟩
  | true =>
    have hr : lessFltB m e p q = lessDecB (fltDecF m e).1 (fltDecF m e).2 (fltDecF p q).1 (fltDecF p q).2 := by unfold lessFltB; rw [hk, hk2]; rfl
    rw [hr]
    rw [hk] at h1
    rw [hk2] at h2
    clear hr
    generalize lessDecB (fltDecF m e).1 (fltDecF m e).2 (fltDecF p q).1 (fltDecF p q).2 = R at *
    obtain ⟨z, hz⟩ : ∃ z, fltDecF m e = z := ⟨_, rfl⟩
    obtain ⟨y, hy⟩ : ∃ z, fltDecF p q = z := ⟨_, rfl⟩
    rw [hz] at h3 h5
    rw [hy] at h4 h5
    clear hz hy
    obtain ⟨A, B⟩ := z
    obtain ⟨C, D⟩ := y
    dsimp only at h3 h4 h5
    have H1 := Lib.hid h1; have H2 := Lib.hid h2; have H3 := Lib.hid h3; have H4 := Lib.hid h4; have H5 := Lib.hid h5
    clear h1 h2 h3 h4 h5
    go_enter Tryd.func46, Tryd.ntmps46
    go_wp2_with fail
    rw [← HW.out]
    have tok1 : True := trivial
    go_region_held3 (fun w' => (w'.cell? ⟨w.heap.size, 0, none⟩ = some (.int .i64 m) ∧ w'.cell? ⟨w.heap.size, 1, none⟩ = some (.int .i64 e)) ∧ (w'.cell? ⟨w.heap.size + 1, 0, none⟩ = some (.int .i64 p) ∧ w'.cell? ⟨w.heap.size + 1, 1, none⟩ = some (.int .i64 q))) (first | exact HK.out _ d10 | exact HK.out _ d9 | exact HK.out _ d8 | exact HK.out _ d7 | exact HK.out _ d6 | exact HK.out _ d5)
      (first
       | (go_at_call 48; have tk := tok1; refine (H1.out _).mono ?_; rintro _ w6 ⟨rfl, b6⟩; have d6 := nx d5 b6; clear tok1; have tok2 : True := trivial)
       | (go_at_call 48; have tk := tok2; refine (H2.out _).mono ?_; rintro _ w7 ⟨rfl, b7⟩; have d7 := nx d6 b7; clear tok2; have tok3 : True := trivial)
       | (go_at_call 40; have tk := tok3; refine (H3.out _ (nx bb d7)).mono ?_; rintro _ w8 ⟨rfl, b8⟩; have d8 := nx d7 b8; clear tok3; have tok4 : True := trivial)
       | (go_at_call 40; have tk := tok3; refine (H4.out _ (nx bb d7)).mono ?_; rintro _ w8 ⟨rfl, b8⟩; have d8 := nx d7 b8; clear tok3; have tok4 : True := trivial)
       | (go_at_call 40; have tk := tok4; refine (H4.out _ (nx bb d8)).mono ?_; rintro _ w9 ⟨rfl, b9⟩; have d9 := nx d8 b9; clear tok4)
       | (go_at_call 40; have tk := tok4; refine (H3.out _ (nx bb d8)).mono ?_; rintro _ w9 ⟨rfl, b9⟩; have d9 := nx d8 b9; clear tok4)
       | (go_at_call 37; refine (H5.out _ (nx bb d9)).mono ?_; rintro _ w10 ⟨rfl, b10⟩; have d10 := nx d9 b10))
    all_goals
      go_wp2_with fail
      go_ret
      exact ⟨rfl, nx bb d10⟩

end Go.Proofs.YtilmhemcpgiikaaDoor
