/- FltText and LessFlt: both alike. -/
import Derived.Test.YtilmhemcpgiikaaDoorCLessFlt
import Derived.Test.YtilmhemcpgiikaaDoorCText
import Derived.Deep.RegionHeld3
import Derived.Deep.RegionWith
namespace Go.Proofs.YtilmhemcpgiikaaDoor
open Go.Deep Go.ChangeShapes Go.WideShapes Go.ChangeAt Go.RowKit
open Go.ChangeMaps (open_string shut_string)

def fltTextS (m e : Int) : ByteArray := if fltOkF m e = true then decTextS (fltDecF m e).1 (fltDecF m e).2 else { data := #[] }


set_option maxHeartbeats 1000000 in
theorem fltText_spec (m e : Int) (w : World) :
    Calls Tryd.prog 51 #[.agg #[.int .i64 m, .int .i64 e]] w fun en w' => en = .returned (.string (fltTextS m e)) ∧ Below w.heap.size w w' := by
  have h1 := fun w1 => fltOk_spec m e w1
  have h2 := fun w1 (hb : Below w.heap.size w w1) => fltDec_spec m e w1
  have h3 := fun w1 (hb : Below w.heap.size w w1) => (decText_spec (fltDecF m e).1 (fltDecF m e).2 w1 (fltDecF_bd m e).1 (fltDecF_bd m e).2)
  cases hk : fltOkF m e with
  | false =>
    have hr : fltTextS m e = { data := #[] } := if_neg (by rw [hk]; simp)
    rw [hr]
    rw [hk] at h1
    have H1 := Lib.hid h1
    clear hr h1 h2 h3
    go_enter Tryd.func51, Tryd.ntmps51
    go_wp2_with fail
    refine (H1.out _).mono ?_
    rintro _ w1 ⟨rfl, b1⟩
    go_wp2_with fail
    go_ret
    exact ⟨rfl, nx (below1 _ _) b1⟩
  | true =>
    have hr : fltTextS m e = decTextS (fltDecF m e).1 (fltDecF m e).2 := if_pos hk
    rw [hr]
    rw [hk] at h1
    clear hr
    generalize decTextS (fltDecF m e).1 (fltDecF m e).2 = S at *
    generalize fltDecF m e = z at *
    obtain ⟨A, B⟩ := z
    dsimp only at h2 h3
    have H1 := Lib.hid h1; have H2 := Lib.hid h2; have H3 := Lib.hid h3
    clear h1 h2 h3
    go_enter Tryd.func51, Tryd.ntmps51
    go_wp2_with fail
    refine (H1.out _).mono ?_
    rintro _ w1 ⟨rfl, b1⟩
    obtain ⟨c0, c1⟩ := box2 b1
    have t1 := nx (below1 _ _) b1
    go_wp2_with fail
    refine (H2.out _ t1).mono ?_
    rintro _ w2 ⟨rfl, b2⟩
    go_wp2_with fail
    refine (H3.out _ (nx t1 b2)).mono ?_
    rintro _ w3 ⟨rfl, b3⟩
    go_wp2_with fail
    go_ret
    exact ⟨rfl, nx (nx t1 b2) b3⟩


set_option maxHeartbeats 1000000 in
theorem fltText_impl (m e : Int) (w : World) (hL : LaidP w) :
    Calls Tryd.prog 50 #[.agg #[.int .i64 m, .int .i64 e]] w fun en w' => en = .returned (.string (fltTextS m e)) ∧ Below w.heap.size w w' := by
  have h1 := fun w1 => fltOk_impl m e w1
  have h2 := fun w1 (hb : Below w.heap.size w w1) => fltDec_impl m e w1 (hL.kept hb)
  have h3 := fun w1 (hb : Below w.heap.size w w1) => (decText_impl (fltDecF m e).1 (fltDecF m e).2 w1 (hL.kept hb) (fltDecF_bd m e).1 (fltDecF_bd m e).2)
  cases hk : fltOkF m e with
  | false =>
    have hr : fltTextS m e = { data := #[] } := if_neg (by rw [hk]; simp)
    rw [hr]
    rw [hk] at h1
    have H1 := Lib.hid h1
    clear hr h1 h2 h3 hL
    go_enter Tryd.func50, Tryd.ntmps50
    go_wp2_with fail
    refine (H1.out _).mono ?_
    rintro _ w1 ⟨rfl, b1⟩
    go_wp2_with fail
    go_ret
    exact ⟨rfl, nx (below1 _ _) b1⟩
  | true =>
    have hr : fltTextS m e = decTextS (fltDecF m e).1 (fltDecF m e).2 := if_pos hk
    rw [hr]
    rw [hk] at h1
    clear hr hL
    generalize decTextS (fltDecF m e).1 (fltDecF m e).2 = S at *
    generalize fltDecF m e = z at *
    obtain ⟨A, B⟩ := z
    dsimp only at h2 h3
    have H1 := Lib.hid h1; have H2 := Lib.hid h2; have H3 := Lib.hid h3
    clear h1 h2 h3
    go_enter Tryd.func50, Tryd.ntmps50
    go_wp2_with fail
    refine (H1.out _).mono ?_
    rintro _ w1 ⟨rfl, b1⟩
    obtain ⟨c0, c1⟩ := box2 b1
    have t1 := nx (below1 _ _) b1
    go_wp2_with fail
    refine (H2.out _ t1).mono ?_
    rintro _ w2 ⟨rfl, b2⟩
    go_wp2_with fail
    refine (H3.out _ (nx t1 b2)).mono ?_
    rintro _ w3 ⟨rfl, b3⟩
    go_wp2_with fail
    go_ret
    exact ⟨rfl, nx (nx t1 b2) b3⟩


end Go.Proofs.YtilmhemcpgiikaaDoor
