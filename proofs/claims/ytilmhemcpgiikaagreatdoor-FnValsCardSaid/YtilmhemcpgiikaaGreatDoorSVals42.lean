/- Vals: texts of the proof (VOkI). -/
import Derived.Test.YtilmhemcpgiikaaGreatDoorSVals20
/- ValOk of the program: a value's own fields. -/
namespace Go.Proofs.YtilmhemcpgiikaaGreatDoor
open Go.Deep Go.ChangeShapes Go.WideShapes Go.ChangeAt Go.RowKit
open Go.ChangeMaps (open_string shut_string)

set_option maxRecDepth 100000 in
set_option maxHeartbeats 40000000 in
theorem ownImpl_c (t : Tree) (w : World) (u : Value) (hcost : t.cost ≤ 1048576) (hP : LaidP w) (hU : LaidU w) (hu : TSl w u t.l) (hfit : Fits t.kind t.n t.x t.s) :
    Calls Tryz.prog 42 #[.agg #[.int .i64 t.kind, .int .i64 t.n, .int .i64 t.x, .string t.s, u]] w fun e w' => e = .returned (.bool (ownB t)) ∧ Below w.heap.size w w' := by
  obtain ⟨a, cap, b, off, rfl, hcap, hmax, ha, hl⟩ := hu
  unfold maxLen at hmax
  have HSZ := Lib.hid (show t.s.size ≤ 1048576 by have := size_cost t; omega)
  have HFT := Lib.hid hfit; clear hfit ha hl
  have HLP := Lib.hid hP; have HLU := Lib.hid hU; clear hP hU
  have HB := Lib.hid (vbelow1 w (.cells #[.int .i64 t.kind, .int .i64 t.n, .int .i64 t.x, .string t.s, .slice a t.l.length cap] 26))
  by_cases hk1 : t.kind = 1
  · have hof := (own_1 hk1)
    have HOF := Lib.hid hof; clear hof
    cases h0 : t.s.toList.isEmpty with
    | false =>
      have HFF : Hid (_ = false) := Lib.hid (HOF.out.trans (by rw [h0]; first | done | simp)); clear HOF
      go_enter Tryz.func42, Tryz.ntmps42
      go_wp2_with (first | (go_at_call 52; refine (within_c _ _ _ _).mono ?_; rintro e w' ⟨rfl, rfl⟩) | (go_at_call 71; refine (fltOk_impl _ _ _).mono ?_; rintro _ wf ⟨rfl, bf⟩; have BF := Lib.hid (vnx (vbelow1 _ _) bf); clear bf) | (go_at_call 31; refine (decOk_impl _ _ _ (HLP.out.kept (vbelow1 _ _)) HFT.out.n.1 HFT.out.n.2).mono ?_; rintro _ wf ⟨rfl, bf⟩; have BF := Lib.hid (vnx (vbelow1 _ _) bf); clear bf) | (go_at_call 70; refine (textOk_impl _ _ HSZ.out (HLU.out.kept (vbelow1 _ _))).mono ?_; rintro _ wf ⟨rfl, bf⟩; have BF := Lib.hid (vnx (vbelow1 _ _) bf); clear bf))
      go_ret
      exact ⟨ret_bool (by rw [HFF.out]), by first | exact vbelow1 _ _ | exact BF.out⟩
    | true =>
      cases h1 : (t.x == 0) with
      | false =>
        have HFF : Hid (_ = false) := Lib.hid (HOF.out.trans (by rw [h0, h1]; first | done | simp)); clear HOF
        have e1 : (t.x != 0) = true := by simpa using h1
        go_enter Tryz.func42, Tryz.ntmps42
        go_wp2_with (first | (go_at_call 52; refine (within_c _ _ _ _).mono ?_; rintro e w' ⟨rfl, rfl⟩) | (go_at_call 71; refine (fltOk_impl _ _ _).mono ?_; rintro _ wf ⟨rfl, bf⟩; have BF := Lib.hid (vnx (vbelow1 _ _) bf); clear bf) | (go_at_call 31; refine (decOk_impl _ _ _ (HLP.out.kept (vbelow1 _ _)) HFT.out.n.1 HFT.out.n.2).mono ?_; rintro _ wf ⟨rfl, bf⟩; have BF := Lib.hid (vnx (vbelow1 _ _) bf); clear bf) | (go_at_call 70; refine (textOk_impl _ _ HSZ.out (HLU.out.kept (vbelow1 _ _))).mono ?_; rintro _ wf ⟨rfl, bf⟩; have BF := Lib.hid (vnx (vbelow1 _ _) bf); clear bf))
        go_ret
        exact ⟨ret_bool (by rw [HFF.out]), by first | exact vbelow1 _ _ | exact BF.out⟩
      | true =>
        have e1 : (t.x != 0) = false := by simpa using h1
        cases h2 : ((t.l.length : Int) == 0) with
        | false =>
          have HFF : Hid (_ = false) := Lib.hid (HOF.out.trans (by rw [h0, h1, h2]; first | done | simp)); clear HOF
          have e2 : (0 : Int) < (t.l.length : Int) := (by have q : ¬ ((t.l.length : Int) = 0) := (by simpa using h2); omega)
          go_enter Tryz.func42, Tryz.ntmps42
          go_wp2_with (first | (go_at_call 52; refine (within_c _ _ _ _).mono ?_; rintro e w' ⟨rfl, rfl⟩) | (go_at_call 71; refine (fltOk_impl _ _ _).mono ?_; rintro _ wf ⟨rfl, bf⟩; have BF := Lib.hid (vnx (vbelow1 _ _) bf); clear bf) | (go_at_call 31; refine (decOk_impl _ _ _ (HLP.out.kept (vbelow1 _ _)) HFT.out.n.1 HFT.out.n.2).mono ?_; rintro _ wf ⟨rfl, bf⟩; have BF := Lib.hid (vnx (vbelow1 _ _) bf); clear bf) | (go_at_call 70; refine (textOk_impl _ _ HSZ.out (HLU.out.kept (vbelow1 _ _))).mono ?_; rintro _ wf ⟨rfl, bf⟩; have BF := Lib.hid (vnx (vbelow1 _ _) bf); clear bf))
          go_ret
          exact ⟨ret_bool (by rw [HFF.out]), by first | exact vbelow1 _ _ | exact BF.out⟩
        | true =>
          have e2 : ¬ ((0 : Int) < (t.l.length : Int)) := (by have q : (t.l.length : Int) = 0 := (by simpa using h2); omega)
          cases h3 : (t.n == 0) with
          | false =>
            have HFF : Hid (_ = false) := Lib.hid (HOF.out.trans (by rw [h0, h1, h2, h3]; first | done | simp)); clear HOF
            go_enter Tryz.func42, Tryz.ntmps42
            go_wp2_with (first | (go_at_call 52; refine (within_c _ _ _ _).mono ?_; rintro e w' ⟨rfl, rfl⟩) | (go_at_call 71; refine (fltOk_impl _ _ _).mono ?_; rintro _ wf ⟨rfl, bf⟩; have BF := Lib.hid (vnx (vbelow1 _ _) bf); clear bf) | (go_at_call 31; refine (decOk_impl _ _ _ (HLP.out.kept (vbelow1 _ _)) HFT.out.n.1 HFT.out.n.2).mono ?_; rintro _ wf ⟨rfl, bf⟩; have BF := Lib.hid (vnx (vbelow1 _ _) bf); clear bf) | (go_at_call 70; refine (textOk_impl _ _ HSZ.out (HLU.out.kept (vbelow1 _ _))).mono ?_; rintro _ wf ⟨rfl, bf⟩; have BF := Lib.hid (vnx (vbelow1 _ _) bf); clear bf))
            go_ret
            exact ⟨ret_bool (by rw [HFF.out]), by first | exact vbelow1 _ _ | exact BF.out⟩
          | true =>
            have HFF : Hid (_ = true) := Lib.hid (HOF.out.trans (by rw [h0, h1, h2, h3]; first | done | simp)); clear HOF
            go_enter Tryz.func42, Tryz.ntmps42
            go_wp2_with (first | (go_at_call 52; refine (within_c _ _ _ _).mono ?_; rintro e w' ⟨rfl, rfl⟩) | (go_at_call 71; refine (fltOk_impl _ _ _).mono ?_; rintro _ wf ⟨rfl, bf⟩; have BF := Lib.hid (vnx (vbelow1 _ _) bf); clear bf) | (go_at_call 31; refine (decOk_impl _ _ _ (HLP.out.kept (vbelow1 _ _)) HFT.out.n.1 HFT.out.n.2).mono ?_; rintro _ wf ⟨rfl, bf⟩; have BF := Lib.hid (vnx (vbelow1 _ _) bf); clear bf) | (go_at_call 70; refine (textOk_impl _ _ HSZ.out (HLU.out.kept (vbelow1 _ _))).mono ?_; rintro _ wf ⟨rfl, bf⟩; have BF := Lib.hid (vnx (vbelow1 _ _) bf); clear bf))
            go_ret
            exact ⟨ret_bool (by rw [HFF.out]), by first | exact vbelow1 _ _ | exact BF.out⟩
  by_cases hk2 : t.kind = 2
  · have hof := (own_2 hk2)
    have HOF := Lib.hid hof; clear hof
    clear hk1
    cases h0 : t.s.toList.isEmpty with
    | false =>
      have HFF : Hid (_ = false) := Lib.hid (HOF.out.trans (by rw [h0]; first | done | simp)); clear HOF
      go_enter Tryz.func42, Tryz.ntmps42
      go_wp2_with (first | (go_at_call 52; refine (within_c _ _ _ _).mono ?_; rintro e w' ⟨rfl, rfl⟩) | (go_at_call 71; refine (fltOk_impl _ _ _).mono ?_; rintro _ wf ⟨rfl, bf⟩; have BF := Lib.hid (vnx (vbelow1 _ _) bf); clear bf) | (go_at_call 31; refine (decOk_impl _ _ _ (HLP.out.kept (vbelow1 _ _)) HFT.out.n.1 HFT.out.n.2).mono ?_; rintro _ wf ⟨rfl, bf⟩; have BF := Lib.hid (vnx (vbelow1 _ _) bf); clear bf) | (go_at_call 70; refine (textOk_impl _ _ HSZ.out (HLU.out.kept (vbelow1 _ _))).mono ?_; rintro _ wf ⟨rfl, bf⟩; have BF := Lib.hid (vnx (vbelow1 _ _) bf); clear bf))
      go_ret
      exact ⟨ret_bool (by rw [HFF.out]), by first | exact vbelow1 _ _ | exact BF.out⟩
    | true =>
      cases h1 : (t.x == 0) with
      | false =>
        have HFF : Hid (_ = false) := Lib.hid (HOF.out.trans (by rw [h0, h1]; first | done | simp)); clear HOF
        have e1 : (t.x != 0) = true := by simpa using h1
        go_enter Tryz.func42, Tryz.ntmps42
        go_wp2_with (first | (go_at_call 52; refine (within_c _ _ _ _).mono ?_; rintro e w' ⟨rfl, rfl⟩) | (go_at_call 71; refine (fltOk_impl _ _ _).mono ?_; rintro _ wf ⟨rfl, bf⟩; have BF := Lib.hid (vnx (vbelow1 _ _) bf); clear bf) | (go_at_call 31; refine (decOk_impl _ _ _ (HLP.out.kept (vbelow1 _ _)) HFT.out.n.1 HFT.out.n.2).mono ?_; rintro _ wf ⟨rfl, bf⟩; have BF := Lib.hid (vnx (vbelow1 _ _) bf); clear bf) | (go_at_call 70; refine (textOk_impl _ _ HSZ.out (HLU.out.kept (vbelow1 _ _))).mono ?_; rintro _ wf ⟨rfl, bf⟩; have BF := Lib.hid (vnx (vbelow1 _ _) bf); clear bf))
        go_ret
        exact ⟨ret_bool (by rw [HFF.out]), by first | exact vbelow1 _ _ | exact BF.out⟩
      | true =>
        have e1 : (t.x != 0) = false := by simpa using h1
        cases h2 : ((t.l.length : Int) == 0) with
        | false =>
          have HFF : Hid (_ = false) := Lib.hid (HOF.out.trans (by rw [h0, h1, h2]; first | done | simp)); clear HOF
          have e2 : (0 : Int) < (t.l.length : Int) := (by have q : ¬ ((t.l.length : Int) = 0) := (by simpa using h2); omega)
          go_enter Tryz.func42, Tryz.ntmps42
          go_wp2_with (first | (go_at_call 52; refine (within_c _ _ _ _).mono ?_; rintro e w' ⟨rfl, rfl⟩) | (go_at_call 71; refine (fltOk_impl _ _ _).mono ?_; rintro _ wf ⟨rfl, bf⟩; have BF := Lib.hid (vnx (vbelow1 _ _) bf); clear bf) | (go_at_call 31; refine (decOk_impl _ _ _ (HLP.out.kept (vbelow1 _ _)) HFT.out.n.1 HFT.out.n.2).mono ?_; rintro _ wf ⟨rfl, bf⟩; have BF := Lib.hid (vnx (vbelow1 _ _) bf); clear bf) | (go_at_call 70; refine (textOk_impl _ _ HSZ.out (HLU.out.kept (vbelow1 _ _))).mono ?_; rintro _ wf ⟨rfl, bf⟩; have BF := Lib.hid (vnx (vbelow1 _ _) bf); clear bf))
          go_ret
          exact ⟨ret_bool (by rw [HFF.out]), by first | exact vbelow1 _ _ | exact BF.out⟩
        | true =>
          have e2 : ¬ ((0 : Int) < (t.l.length : Int)) := (by have q : (t.l.length : Int) = 0 := (by simpa using h2); omega)
          cases h3 : inB t.n 0 1 with
          | false =>
            have HFF : Hid (_ = false) := Lib.hid (HOF.out.trans (by rw [h0, h1, h2, h3]; first | done | simp)); clear HOF
            have e0 : (t.n == 0) = false := by have := inB_false.1 h3; simp; omega
            have e1 : (t.n == 1) = false := by have := inB_false.1 h3; simp; omega
            go_enter Tryz.func42, Tryz.ntmps42
            go_wp2_with (first | (go_at_call 52; refine (within_c _ _ _ _).mono ?_; rintro e w' ⟨rfl, rfl⟩) | (go_at_call 71; refine (fltOk_impl _ _ _).mono ?_; rintro _ wf ⟨rfl, bf⟩; have BF := Lib.hid (vnx (vbelow1 _ _) bf); clear bf) | (go_at_call 31; refine (decOk_impl _ _ _ (HLP.out.kept (vbelow1 _ _)) HFT.out.n.1 HFT.out.n.2).mono ?_; rintro _ wf ⟨rfl, bf⟩; have BF := Lib.hid (vnx (vbelow1 _ _) bf); clear bf) | (go_at_call 70; refine (textOk_impl _ _ HSZ.out (HLU.out.kept (vbelow1 _ _))).mono ?_; rintro _ wf ⟨rfl, bf⟩; have BF := Lib.hid (vnx (vbelow1 _ _) bf); clear bf))
            go_ret
            exact ⟨ret_bool (by rw [HFF.out]), by first | exact vbelow1 _ _ | exact BF.out⟩
          | true =>
            have hnn : (t.n == 0) = true ∨ ((t.n == 0) = false ∧ (t.n == 1) = true) := by have := inB_true.1 h3; by_cases e : t.n = 0 <;> simp [e]; omega
            rcases hnn with e0 | ⟨e0, e1⟩
            all_goals
              have HFF : Hid (_ = true) := Lib.hid (HOF.out.trans (by rw [h0, h1, h2, h3]; first | done | simp)); clear HOF
              go_enter Tryz.func42, Tryz.ntmps42
              go_wp2_with (first | (go_at_call 52; refine (within_c _ _ _ _).mono ?_; rintro e w' ⟨rfl, rfl⟩) | (go_at_call 71; refine (fltOk_impl _ _ _).mono ?_; rintro _ wf ⟨rfl, bf⟩; have BF := Lib.hid (vnx (vbelow1 _ _) bf); clear bf) | (go_at_call 31; refine (decOk_impl _ _ _ (HLP.out.kept (vbelow1 _ _)) HFT.out.n.1 HFT.out.n.2).mono ?_; rintro _ wf ⟨rfl, bf⟩; have BF := Lib.hid (vnx (vbelow1 _ _) bf); clear bf) | (go_at_call 70; refine (textOk_impl _ _ HSZ.out (HLU.out.kept (vbelow1 _ _))).mono ?_; rintro _ wf ⟨rfl, bf⟩; have BF := Lib.hid (vnx (vbelow1 _ _) bf); clear bf))
              go_ret
              exact ⟨ret_bool (by rw [HFF.out]), by first | exact vbelow1 _ _ | exact BF.out⟩
  by_cases hk3 : t.kind = 3
  · have hof := (own_3 hk3)
    have HOF := Lib.hid hof; clear hof
    clear hk1 hk2
    cases h0 : t.s.toList.isEmpty with
    | false =>
      have HFF : Hid (_ = false) := Lib.hid (HOF.out.trans (by rw [h0]; first | done | simp)); clear HOF
      go_enter Tryz.func42, Tryz.ntmps42
      go_wp2_with (first | (go_at_call 52; refine (within_c _ _ _ _).mono ?_; rintro e w' ⟨rfl, rfl⟩) | (go_at_call 71; refine (fltOk_impl _ _ _).mono ?_; rintro _ wf ⟨rfl, bf⟩; have BF := Lib.hid (vnx (vbelow1 _ _) bf); clear bf) | (go_at_call 31; refine (decOk_impl _ _ _ (HLP.out.kept (vbelow1 _ _)) HFT.out.n.1 HFT.out.n.2).mono ?_; rintro _ wf ⟨rfl, bf⟩; have BF := Lib.hid (vnx (vbelow1 _ _) bf); clear bf) | (go_at_call 70; refine (textOk_impl _ _ HSZ.out (HLU.out.kept (vbelow1 _ _))).mono ?_; rintro _ wf ⟨rfl, bf⟩; have BF := Lib.hid (vnx (vbelow1 _ _) bf); clear bf))
      go_ret
      exact ⟨ret_bool (by rw [HFF.out]), by first | exact vbelow1 _ _ | exact BF.out⟩
    | true =>
      cases h1 : (t.x == 0) with
      | false =>
        have HFF : Hid (_ = false) := Lib.hid (HOF.out.trans (by rw [h0, h1]; first | done | simp)); clear HOF
        have e1 : (t.x != 0) = true := by simpa using h1
        go_enter Tryz.func42, Tryz.ntmps42
        go_wp2_with (first | (go_at_call 52; refine (within_c _ _ _ _).mono ?_; rintro e w' ⟨rfl, rfl⟩) | (go_at_call 71; refine (fltOk_impl _ _ _).mono ?_; rintro _ wf ⟨rfl, bf⟩; have BF := Lib.hid (vnx (vbelow1 _ _) bf); clear bf) | (go_at_call 31; refine (decOk_impl _ _ _ (HLP.out.kept (vbelow1 _ _)) HFT.out.n.1 HFT.out.n.2).mono ?_; rintro _ wf ⟨rfl, bf⟩; have BF := Lib.hid (vnx (vbelow1 _ _) bf); clear bf) | (go_at_call 70; refine (textOk_impl _ _ HSZ.out (HLU.out.kept (vbelow1 _ _))).mono ?_; rintro _ wf ⟨rfl, bf⟩; have BF := Lib.hid (vnx (vbelow1 _ _) bf); clear bf))
        go_ret
        exact ⟨ret_bool (by rw [HFF.out]), by first | exact vbelow1 _ _ | exact BF.out⟩
      | true =>
        have e1 : (t.x != 0) = false := by simpa using h1
        cases h2 : ((t.l.length : Int) == 0) with
        | false =>
          have HFF : Hid (_ = false) := Lib.hid (HOF.out.trans (by rw [h0, h1, h2]; first | done | simp)); clear HOF
          have e2 : (0 : Int) < (t.l.length : Int) := (by have q : ¬ ((t.l.length : Int) = 0) := (by simpa using h2); omega)
          go_enter Tryz.func42, Tryz.ntmps42
          go_wp2_with (first | (go_at_call 52; refine (within_c _ _ _ _).mono ?_; rintro e w' ⟨rfl, rfl⟩) | (go_at_call 71; refine (fltOk_impl _ _ _).mono ?_; rintro _ wf ⟨rfl, bf⟩; have BF := Lib.hid (vnx (vbelow1 _ _) bf); clear bf) | (go_at_call 31; refine (decOk_impl _ _ _ (HLP.out.kept (vbelow1 _ _)) HFT.out.n.1 HFT.out.n.2).mono ?_; rintro _ wf ⟨rfl, bf⟩; have BF := Lib.hid (vnx (vbelow1 _ _) bf); clear bf) | (go_at_call 70; refine (textOk_impl _ _ HSZ.out (HLU.out.kept (vbelow1 _ _))).mono ?_; rintro _ wf ⟨rfl, bf⟩; have BF := Lib.hid (vnx (vbelow1 _ _) bf); clear bf))
          go_ret
          exact ⟨ret_bool (by rw [HFF.out]), by first | exact vbelow1 _ _ | exact BF.out⟩
        | true =>
          have e2 : ¬ ((0 : Int) < (t.l.length : Int)) := (by have q : (t.l.length : Int) = 0 := (by simpa using h2); omega)
          cases h3 : inB t.n (-1000000000000000) 1000000000000000 with
          | false =>
            have HFF : Hid (_ = false) := Lib.hid (HOF.out.trans (by rw [h0, h1, h2, h3]; first | done | simp)); clear HOF
            go_enter Tryz.func42, Tryz.ntmps42
            go_wp2_with (first | (go_at_call 52; refine (within_c _ _ _ _).mono ?_; rintro e w' ⟨rfl, rfl⟩) | (go_at_call 71; refine (fltOk_impl _ _ _).mono ?_; rintro _ wf ⟨rfl, bf⟩; have BF := Lib.hid (vnx (vbelow1 _ _) bf); clear bf) | (go_at_call 31; refine (decOk_impl _ _ _ (HLP.out.kept (vbelow1 _ _)) HFT.out.n.1 HFT.out.n.2).mono ?_; rintro _ wf ⟨rfl, bf⟩; have BF := Lib.hid (vnx (vbelow1 _ _) bf); clear bf) | (go_at_call 70; refine (textOk_impl _ _ HSZ.out (HLU.out.kept (vbelow1 _ _))).mono ?_; rintro _ wf ⟨rfl, bf⟩; have BF := Lib.hid (vnx (vbelow1 _ _) bf); clear bf))
            go_ret
            exact ⟨ret_bool (by rw [HFF.out]), by first | exact vbelow1 _ _ | exact BF.out⟩
          | true =>
            have HFF : Hid (_ = true) := Lib.hid (HOF.out.trans (by rw [h0, h1, h2, h3]; first | done | simp)); clear HOF
            go_enter Tryz.func42, Tryz.ntmps42
            go_wp2_with (first | (go_at_call 52; refine (within_c _ _ _ _).mono ?_; rintro e w' ⟨rfl, rfl⟩) | (go_at_call 71; refine (fltOk_impl _ _ _).mono ?_; rintro _ wf ⟨rfl, bf⟩; have BF := Lib.hid (vnx (vbelow1 _ _) bf); clear bf) | (go_at_call 31; refine (decOk_impl _ _ _ (HLP.out.kept (vbelow1 _ _)) HFT.out.n.1 HFT.out.n.2).mono ?_; rintro _ wf ⟨rfl, bf⟩; have BF := Lib.hid (vnx (vbelow1 _ _) bf); clear bf) | (go_at_call 70; refine (textOk_impl _ _ HSZ.out (HLU.out.kept (vbelow1 _ _))).mono ?_; rintro _ wf ⟨rfl, bf⟩; have BF := Lib.hid (vnx (vbelow1 _ _) bf); clear bf))
            go_ret
            exact ⟨ret_bool (by rw [HFF.out]), by first | exact vbelow1 _ _ | exact BF.out⟩
  by_cases hk4 : t.kind = 4
  · have hof := (own_4 hk4)
    have HOF := Lib.hid hof; clear hof
    clear hk1 hk2 hk3
    cases h0 : t.s.toList.isEmpty with
    | false =>
      have HFF : Hid (_ = false) := Lib.hid (HOF.out.trans (by rw [h0]; first | done | simp)); clear HOF
      go_enter Tryz.func42, Tryz.ntmps42
      go_wp2_with (first | (go_at_call 52; refine (within_c _ _ _ _).mono ?_; rintro e w' ⟨rfl, rfl⟩) | (go_at_call 71; refine (fltOk_impl _ _ _).mono ?_; rintro _ wf ⟨rfl, bf⟩; have BF := Lib.hid (vnx (vbelow1 _ _) bf); clear bf) | (go_at_call 31; refine (decOk_impl _ _ _ (HLP.out.kept (vbelow1 _ _)) HFT.out.n.1 HFT.out.n.2).mono ?_; rintro _ wf ⟨rfl, bf⟩; have BF := Lib.hid (vnx (vbelow1 _ _) bf); clear bf) | (go_at_call 70; refine (textOk_impl _ _ HSZ.out (HLU.out.kept (vbelow1 _ _))).mono ?_; rintro _ wf ⟨rfl, bf⟩; have BF := Lib.hid (vnx (vbelow1 _ _) bf); clear bf))
      go_ret
      exact ⟨ret_bool (by rw [HFF.out]), by first | exact vbelow1 _ _ | exact BF.out⟩
    | true =>
      cases h1 : ((t.l.length : Int) == 0) with
      | false =>
        have HFF : Hid (_ = false) := Lib.hid (HOF.out.trans (by rw [h0, h1]; first | done | simp)); clear HOF
        have e1 : (0 : Int) < (t.l.length : Int) := (by have q : ¬ ((t.l.length : Int) = 0) := (by simpa using h1); omega)
        go_enter Tryz.func42, Tryz.ntmps42
        go_wp2_with (first | (go_at_call 52; refine (within_c _ _ _ _).mono ?_; rintro e w' ⟨rfl, rfl⟩) | (go_at_call 71; refine (fltOk_impl _ _ _).mono ?_; rintro _ wf ⟨rfl, bf⟩; have BF := Lib.hid (vnx (vbelow1 _ _) bf); clear bf) | (go_at_call 31; refine (decOk_impl _ _ _ (HLP.out.kept (vbelow1 _ _)) HFT.out.n.1 HFT.out.n.2).mono ?_; rintro _ wf ⟨rfl, bf⟩; have BF := Lib.hid (vnx (vbelow1 _ _) bf); clear bf) | (go_at_call 70; refine (textOk_impl _ _ HSZ.out (HLU.out.kept (vbelow1 _ _))).mono ?_; rintro _ wf ⟨rfl, bf⟩; have BF := Lib.hid (vnx (vbelow1 _ _) bf); clear bf))
        go_ret
        exact ⟨ret_bool (by rw [HFF.out]), by first | exact vbelow1 _ _ | exact BF.out⟩
      | true =>
        have e1 : ¬ ((0 : Int) < (t.l.length : Int)) := (by have q : (t.l.length : Int) = 0 := (by simpa using h1); omega)
        cases h2 : fltOkF t.n t.x with
        | false =>
          have HFF : Hid (_ = false) := Lib.hid (HOF.out.trans (by rw [h0, h1, h2]; first | done | simp)); clear HOF
          go_enter Tryz.func42, Tryz.ntmps42
          go_wp2_with (first | (go_at_call 52; refine (within_c _ _ _ _).mono ?_; rintro e w' ⟨rfl, rfl⟩) | (go_at_call 71; refine (fltOk_impl _ _ _).mono ?_; rintro _ wf ⟨rfl, bf⟩; have BF := Lib.hid (vnx (vbelow1 _ _) bf); clear bf) | (go_at_call 31; refine (decOk_impl _ _ _ (HLP.out.kept (vbelow1 _ _)) HFT.out.n.1 HFT.out.n.2).mono ?_; rintro _ wf ⟨rfl, bf⟩; have BF := Lib.hid (vnx (vbelow1 _ _) bf); clear bf) | (go_at_call 70; refine (textOk_impl _ _ HSZ.out (HLU.out.kept (vbelow1 _ _))).mono ?_; rintro _ wf ⟨rfl, bf⟩; have BF := Lib.hid (vnx (vbelow1 _ _) bf); clear bf))
          go_ret
          exact ⟨ret_bool (by rw [HFF.out]), by first | exact vbelow1 _ _ | exact BF.out⟩
        | true =>
          have HFF : Hid (_ = true) := Lib.hid (HOF.out.trans (by rw [h0, h1, h2]; first | done | simp)); clear HOF
          go_enter Tryz.func42, Tryz.ntmps42
          go_wp2_with (first | (go_at_call 52; refine (within_c _ _ _ _).mono ?_; rintro e w' ⟨rfl, rfl⟩) | (go_at_call 71; refine (fltOk_impl _ _ _).mono ?_; rintro _ wf ⟨rfl, bf⟩; have BF := Lib.hid (vnx (vbelow1 _ _) bf); clear bf) | (go_at_call 31; refine (decOk_impl _ _ _ (HLP.out.kept (vbelow1 _ _)) HFT.out.n.1 HFT.out.n.2).mono ?_; rintro _ wf ⟨rfl, bf⟩; have BF := Lib.hid (vnx (vbelow1 _ _) bf); clear bf) | (go_at_call 70; refine (textOk_impl _ _ HSZ.out (HLU.out.kept (vbelow1 _ _))).mono ?_; rintro _ wf ⟨rfl, bf⟩; have BF := Lib.hid (vnx (vbelow1 _ _) bf); clear bf))
          go_ret
          exact ⟨ret_bool (by rw [HFF.out]), by first | exact vbelow1 _ _ | exact BF.out⟩
  by_cases hk5 : t.kind = 5
  · have hof := (own_5 hk5)
    have HOF := Lib.hid hof; clear hof
    clear hk1 hk2 hk3 hk4
    cases h0 : t.s.toList.isEmpty with
    | false =>
      have HFF : Hid (_ = false) := Lib.hid (HOF.out.trans (by rw [h0]; first | done | simp)); clear HOF
      go_enter Tryz.func42, Tryz.ntmps42
      go_wp2_with (first | (go_at_call 52; refine (within_c _ _ _ _).mono ?_; rintro e w' ⟨rfl, rfl⟩) | (go_at_call 71; refine (fltOk_impl _ _ _).mono ?_; rintro _ wf ⟨rfl, bf⟩; have BF := Lib.hid (vnx (vbelow1 _ _) bf); clear bf) | (go_at_call 31; refine (decOk_impl _ _ _ (HLP.out.kept (vbelow1 _ _)) HFT.out.n.1 HFT.out.n.2).mono ?_; rintro _ wf ⟨rfl, bf⟩; have BF := Lib.hid (vnx (vbelow1 _ _) bf); clear bf) | (go_at_call 70; refine (textOk_impl _ _ HSZ.out (HLU.out.kept (vbelow1 _ _))).mono ?_; rintro _ wf ⟨rfl, bf⟩; have BF := Lib.hid (vnx (vbelow1 _ _) bf); clear bf))
      go_ret
      exact ⟨ret_bool (by rw [HFF.out]), by first | exact vbelow1 _ _ | exact BF.out⟩
    | true =>
      cases h1 : (t.x == 0) with
      | false =>
        have HFF : Hid (_ = false) := Lib.hid (HOF.out.trans (by rw [h0, h1]; first | done | simp)); clear HOF
        have e1 : (t.x != 0) = true := by simpa using h1
        go_enter Tryz.func42, Tryz.ntmps42
        go_wp2_with (first | (go_at_call 52; refine (within_c _ _ _ _).mono ?_; rintro e w' ⟨rfl, rfl⟩) | (go_at_call 71; refine (fltOk_impl _ _ _).mono ?_; rintro _ wf ⟨rfl, bf⟩; have BF := Lib.hid (vnx (vbelow1 _ _) bf); clear bf) | (go_at_call 31; refine (decOk_impl _ _ _ (HLP.out.kept (vbelow1 _ _)) HFT.out.n.1 HFT.out.n.2).mono ?_; rintro _ wf ⟨rfl, bf⟩; have BF := Lib.hid (vnx (vbelow1 _ _) bf); clear bf) | (go_at_call 70; refine (textOk_impl _ _ HSZ.out (HLU.out.kept (vbelow1 _ _))).mono ?_; rintro _ wf ⟨rfl, bf⟩; have BF := Lib.hid (vnx (vbelow1 _ _) bf); clear bf))
        go_ret
        exact ⟨ret_bool (by rw [HFF.out]), by first | exact vbelow1 _ _ | exact BF.out⟩
      | true =>
        have e1 : (t.x != 0) = false := by simpa using h1
        cases h2 : ((t.l.length : Int) == 0) with
        | false =>
          have HFF : Hid (_ = false) := Lib.hid (HOF.out.trans (by rw [h0, h1, h2]; first | done | simp)); clear HOF
          have e2 : (0 : Int) < (t.l.length : Int) := (by have q : ¬ ((t.l.length : Int) = 0) := (by simpa using h2); omega)
          go_enter Tryz.func42, Tryz.ntmps42
          go_wp2_with (first | (go_at_call 52; refine (within_c _ _ _ _).mono ?_; rintro e w' ⟨rfl, rfl⟩) | (go_at_call 71; refine (fltOk_impl _ _ _).mono ?_; rintro _ wf ⟨rfl, bf⟩; have BF := Lib.hid (vnx (vbelow1 _ _) bf); clear bf) | (go_at_call 31; refine (decOk_impl _ _ _ (HLP.out.kept (vbelow1 _ _)) HFT.out.n.1 HFT.out.n.2).mono ?_; rintro _ wf ⟨rfl, bf⟩; have BF := Lib.hid (vnx (vbelow1 _ _) bf); clear bf) | (go_at_call 70; refine (textOk_impl _ _ HSZ.out (HLU.out.kept (vbelow1 _ _))).mono ?_; rintro _ wf ⟨rfl, bf⟩; have BF := Lib.hid (vnx (vbelow1 _ _) bf); clear bf))
          go_ret
          exact ⟨ret_bool (by rw [HFF.out]), by first | exact vbelow1 _ _ | exact BF.out⟩
        | true =>
          have e2 : ¬ ((0 : Int) < (t.l.length : Int)) := (by have q : (t.l.length : Int) = 0 := (by simpa using h2); omega)
          cases h3 : inB t.n 0 2 with
          | false =>
            have HFF : Hid (_ = false) := Lib.hid (HOF.out.trans (by rw [h0, h1, h2, h3]; first | done | simp)); clear HOF
            go_enter Tryz.func42, Tryz.ntmps42
            go_wp2_with (first | (go_at_call 52; refine (within_c _ _ _ _).mono ?_; rintro e w' ⟨rfl, rfl⟩) | (go_at_call 71; refine (fltOk_impl _ _ _).mono ?_; rintro _ wf ⟨rfl, bf⟩; have BF := Lib.hid (vnx (vbelow1 _ _) bf); clear bf) | (go_at_call 31; refine (decOk_impl _ _ _ (HLP.out.kept (vbelow1 _ _)) HFT.out.n.1 HFT.out.n.2).mono ?_; rintro _ wf ⟨rfl, bf⟩; have BF := Lib.hid (vnx (vbelow1 _ _) bf); clear bf) | (go_at_call 70; refine (textOk_impl _ _ HSZ.out (HLU.out.kept (vbelow1 _ _))).mono ?_; rintro _ wf ⟨rfl, bf⟩; have BF := Lib.hid (vnx (vbelow1 _ _) bf); clear bf))
            go_ret
            exact ⟨ret_bool (by rw [HFF.out]), by first | exact vbelow1 _ _ | exact BF.out⟩
          | true =>
            have HFF : Hid (_ = true) := Lib.hid (HOF.out.trans (by rw [h0, h1, h2, h3]; first | done | simp)); clear HOF
            go_enter Tryz.func42, Tryz.ntmps42
            go_wp2_with (first | (go_at_call 52; refine (within_c _ _ _ _).mono ?_; rintro e w' ⟨rfl, rfl⟩) | (go_at_call 71; refine (fltOk_impl _ _ _).mono ?_; rintro _ wf ⟨rfl, bf⟩; have BF := Lib.hid (vnx (vbelow1 _ _) bf); clear bf) | (go_at_call 31; refine (decOk_impl _ _ _ (HLP.out.kept (vbelow1 _ _)) HFT.out.n.1 HFT.out.n.2).mono ?_; rintro _ wf ⟨rfl, bf⟩; have BF := Lib.hid (vnx (vbelow1 _ _) bf); clear bf) | (go_at_call 70; refine (textOk_impl _ _ HSZ.out (HLU.out.kept (vbelow1 _ _))).mono ?_; rintro _ wf ⟨rfl, bf⟩; have BF := Lib.hid (vnx (vbelow1 _ _) bf); clear bf))
            go_ret
            exact ⟨ret_bool (by rw [HFF.out]), by first | exact vbelow1 _ _ | exact BF.out⟩
  by_cases hk6 : t.kind = 6
  · have hof := (own_6 hk6)
    have HOF := Lib.hid hof; clear hof
    clear hk1 hk2 hk3 hk4 hk5
    cases h0 : t.s.toList.isEmpty with
    | false =>
      have HFF : Hid (_ = false) := Lib.hid (HOF.out.trans (by rw [h0]; first | done | simp)); clear HOF
      go_enter Tryz.func42, Tryz.ntmps42
      go_wp2_with (first | (go_at_call 52; refine (within_c _ _ _ _).mono ?_; rintro e w' ⟨rfl, rfl⟩) | (go_at_call 71; refine (fltOk_impl _ _ _).mono ?_; rintro _ wf ⟨rfl, bf⟩; have BF := Lib.hid (vnx (vbelow1 _ _) bf); clear bf) | (go_at_call 31; refine (decOk_impl _ _ _ (HLP.out.kept (vbelow1 _ _)) HFT.out.n.1 HFT.out.n.2).mono ?_; rintro _ wf ⟨rfl, bf⟩; have BF := Lib.hid (vnx (vbelow1 _ _) bf); clear bf) | (go_at_call 70; refine (textOk_impl _ _ HSZ.out (HLU.out.kept (vbelow1 _ _))).mono ?_; rintro _ wf ⟨rfl, bf⟩; have BF := Lib.hid (vnx (vbelow1 _ _) bf); clear bf))
      go_ret
      exact ⟨ret_bool (by rw [HFF.out]), by first | exact vbelow1 _ _ | exact BF.out⟩
    | true =>
      cases h1 : ((t.l.length : Int) == 0) with
      | false =>
        have HFF : Hid (_ = false) := Lib.hid (HOF.out.trans (by rw [h0, h1]; first | done | simp)); clear HOF
        have e1 : (0 : Int) < (t.l.length : Int) := (by have q : ¬ ((t.l.length : Int) = 0) := (by simpa using h1); omega)
        go_enter Tryz.func42, Tryz.ntmps42
        go_wp2_with (first | (go_at_call 52; refine (within_c _ _ _ _).mono ?_; rintro e w' ⟨rfl, rfl⟩) | (go_at_call 71; refine (fltOk_impl _ _ _).mono ?_; rintro _ wf ⟨rfl, bf⟩; have BF := Lib.hid (vnx (vbelow1 _ _) bf); clear bf) | (go_at_call 31; refine (decOk_impl _ _ _ (HLP.out.kept (vbelow1 _ _)) HFT.out.n.1 HFT.out.n.2).mono ?_; rintro _ wf ⟨rfl, bf⟩; have BF := Lib.hid (vnx (vbelow1 _ _) bf); clear bf) | (go_at_call 70; refine (textOk_impl _ _ HSZ.out (HLU.out.kept (vbelow1 _ _))).mono ?_; rintro _ wf ⟨rfl, bf⟩; have BF := Lib.hid (vnx (vbelow1 _ _) bf); clear bf))
        go_ret
        exact ⟨ret_bool (by rw [HFF.out]), by first | exact vbelow1 _ _ | exact BF.out⟩
      | true =>
        have e1 : ¬ ((0 : Int) < (t.l.length : Int)) := (by have q : (t.l.length : Int) = 0 := (by simpa using h1); omega)
        cases h2 : decide (t.x < 0) with
        | false =>
          have HFF : Hid (_ = false) := Lib.hid (HOF.out.trans (by rw [h0, h1, h2]; first | done | simp)); clear HOF
          go_enter Tryz.func42, Tryz.ntmps42
          go_wp2_with (first | (go_at_call 52; refine (within_c _ _ _ _).mono ?_; rintro e w' ⟨rfl, rfl⟩) | (go_at_call 71; refine (fltOk_impl _ _ _).mono ?_; rintro _ wf ⟨rfl, bf⟩; have BF := Lib.hid (vnx (vbelow1 _ _) bf); clear bf) | (go_at_call 31; refine (decOk_impl _ _ _ (HLP.out.kept (vbelow1 _ _)) HFT.out.n.1 HFT.out.n.2).mono ?_; rintro _ wf ⟨rfl, bf⟩; have BF := Lib.hid (vnx (vbelow1 _ _) bf); clear bf) | (go_at_call 70; refine (textOk_impl _ _ HSZ.out (HLU.out.kept (vbelow1 _ _))).mono ?_; rintro _ wf ⟨rfl, bf⟩; have BF := Lib.hid (vnx (vbelow1 _ _) bf); clear bf))
          go_ret
          exact ⟨ret_bool (by rw [HFF.out]), by first | exact vbelow1 _ _ | exact BF.out⟩
        | true =>
          cases h3 : decOkB t.n t.x with
          | false =>
            have HFF : Hid (_ = false) := Lib.hid (HOF.out.trans (by rw [h0, h1, h2, h3]; first | done | simp)); clear HOF
            go_enter Tryz.func42, Tryz.ntmps42
            go_wp2_with (first | (go_at_call 52; refine (within_c _ _ _ _).mono ?_; rintro e w' ⟨rfl, rfl⟩) | (go_at_call 71; refine (fltOk_impl _ _ _).mono ?_; rintro _ wf ⟨rfl, bf⟩; have BF := Lib.hid (vnx (vbelow1 _ _) bf); clear bf) | (go_at_call 31; refine (decOk_impl _ _ _ (HLP.out.kept (vbelow1 _ _)) HFT.out.n.1 HFT.out.n.2).mono ?_; rintro _ wf ⟨rfl, bf⟩; have BF := Lib.hid (vnx (vbelow1 _ _) bf); clear bf) | (go_at_call 70; refine (textOk_impl _ _ HSZ.out (HLU.out.kept (vbelow1 _ _))).mono ?_; rintro _ wf ⟨rfl, bf⟩; have BF := Lib.hid (vnx (vbelow1 _ _) bf); clear bf))
            go_ret
            exact ⟨ret_bool (by rw [HFF.out]), by first | exact vbelow1 _ _ | exact BF.out⟩
          | true =>
            have HFF : Hid (_ = true) := Lib.hid (HOF.out.trans (by rw [h0, h1, h2, h3]; first | done | simp)); clear HOF
            go_enter Tryz.func42, Tryz.ntmps42
            go_wp2_with (first | (go_at_call 52; refine (within_c _ _ _ _).mono ?_; rintro e w' ⟨rfl, rfl⟩) | (go_at_call 71; refine (fltOk_impl _ _ _).mono ?_; rintro _ wf ⟨rfl, bf⟩; have BF := Lib.hid (vnx (vbelow1 _ _) bf); clear bf) | (go_at_call 31; refine (decOk_impl _ _ _ (HLP.out.kept (vbelow1 _ _)) HFT.out.n.1 HFT.out.n.2).mono ?_; rintro _ wf ⟨rfl, bf⟩; have BF := Lib.hid (vnx (vbelow1 _ _) bf); clear bf) | (go_at_call 70; refine (textOk_impl _ _ HSZ.out (HLU.out.kept (vbelow1 _ _))).mono ?_; rintro _ wf ⟨rfl, bf⟩; have BF := Lib.hid (vnx (vbelow1 _ _) bf); clear bf))
            go_ret
            exact ⟨ret_bool (by rw [HFF.out]), by first | exact vbelow1 _ _ | exact BF.out⟩
  by_cases hk7 : t.kind = 7
  · have hof := (own_7 hk7)
    have HOF := Lib.hid hof; clear hof
    clear hk1 hk2 hk3 hk4 hk5 hk6
    cases h0 : (t.x == 0) with
    | false =>
      have HFF : Hid (_ = false) := Lib.hid (HOF.out.trans (by rw [h0]; first | done | simp)); clear HOF
      have e0 : (t.x != 0) = true := by simpa using h0
      go_enter Tryz.func42, Tryz.ntmps42
      go_wp2_with (first | (go_at_call 52; refine (within_c _ _ _ _).mono ?_; rintro e w' ⟨rfl, rfl⟩) | (go_at_call 71; refine (fltOk_impl _ _ _).mono ?_; rintro _ wf ⟨rfl, bf⟩; have BF := Lib.hid (vnx (vbelow1 _ _) bf); clear bf) | (go_at_call 31; refine (decOk_impl _ _ _ (HLP.out.kept (vbelow1 _ _)) HFT.out.n.1 HFT.out.n.2).mono ?_; rintro _ wf ⟨rfl, bf⟩; have BF := Lib.hid (vnx (vbelow1 _ _) bf); clear bf) | (go_at_call 70; refine (textOk_impl _ _ HSZ.out (HLU.out.kept (vbelow1 _ _))).mono ?_; rintro _ wf ⟨rfl, bf⟩; have BF := Lib.hid (vnx (vbelow1 _ _) bf); clear bf))
      go_ret
      exact ⟨ret_bool (by rw [HFF.out]), by first | exact vbelow1 _ _ | exact BF.out⟩
    | true =>
      have e0 : (t.x != 0) = false := by simpa using h0
      cases h1 : ((t.l.length : Int) == 0) with
      | false =>
        have HFF : Hid (_ = false) := Lib.hid (HOF.out.trans (by rw [h0, h1]; first | done | simp)); clear HOF
        have e1 : (0 : Int) < (t.l.length : Int) := (by have q : ¬ ((t.l.length : Int) = 0) := (by simpa using h1); omega)
        go_enter Tryz.func42, Tryz.ntmps42
        go_wp2_with (first | (go_at_call 52; refine (within_c _ _ _ _).mono ?_; rintro e w' ⟨rfl, rfl⟩) | (go_at_call 71; refine (fltOk_impl _ _ _).mono ?_; rintro _ wf ⟨rfl, bf⟩; have BF := Lib.hid (vnx (vbelow1 _ _) bf); clear bf) | (go_at_call 31; refine (decOk_impl _ _ _ (HLP.out.kept (vbelow1 _ _)) HFT.out.n.1 HFT.out.n.2).mono ?_; rintro _ wf ⟨rfl, bf⟩; have BF := Lib.hid (vnx (vbelow1 _ _) bf); clear bf) | (go_at_call 70; refine (textOk_impl _ _ HSZ.out (HLU.out.kept (vbelow1 _ _))).mono ?_; rintro _ wf ⟨rfl, bf⟩; have BF := Lib.hid (vnx (vbelow1 _ _) bf); clear bf))
        go_ret
        exact ⟨ret_bool (by rw [HFF.out]), by first | exact vbelow1 _ _ | exact BF.out⟩
      | true =>
        have e1 : ¬ ((0 : Int) < (t.l.length : Int)) := (by have q : (t.l.length : Int) = 0 := (by simpa using h1); omega)
        cases h2 : (t.n == 0) with
        | false =>
          have HFF : Hid (_ = false) := Lib.hid (HOF.out.trans (by rw [h0, h1, h2]; first | done | simp)); clear HOF
          go_enter Tryz.func42, Tryz.ntmps42
          go_wp2_with (first | (go_at_call 52; refine (within_c _ _ _ _).mono ?_; rintro e w' ⟨rfl, rfl⟩) | (go_at_call 71; refine (fltOk_impl _ _ _).mono ?_; rintro _ wf ⟨rfl, bf⟩; have BF := Lib.hid (vnx (vbelow1 _ _) bf); clear bf) | (go_at_call 31; refine (decOk_impl _ _ _ (HLP.out.kept (vbelow1 _ _)) HFT.out.n.1 HFT.out.n.2).mono ?_; rintro _ wf ⟨rfl, bf⟩; have BF := Lib.hid (vnx (vbelow1 _ _) bf); clear bf) | (go_at_call 70; refine (textOk_impl _ _ HSZ.out (HLU.out.kept (vbelow1 _ _))).mono ?_; rintro _ wf ⟨rfl, bf⟩; have BF := Lib.hid (vnx (vbelow1 _ _) bf); clear bf))
          go_ret
          exact ⟨ret_bool (by rw [HFF.out]), by first | exact vbelow1 _ _ | exact BF.out⟩
        | true =>
          cases h3 : Lib.validD t.s.data.toList with
          | false =>
            have HFF : Hid (_ = false) := Lib.hid (HOF.out.trans (by rw [h0, h1, h2, h3]; first | done | simp)); clear HOF
            go_enter Tryz.func42, Tryz.ntmps42
            go_wp2_with (first | (go_at_call 52; refine (within_c _ _ _ _).mono ?_; rintro e w' ⟨rfl, rfl⟩) | (go_at_call 71; refine (fltOk_impl _ _ _).mono ?_; rintro _ wf ⟨rfl, bf⟩; have BF := Lib.hid (vnx (vbelow1 _ _) bf); clear bf) | (go_at_call 31; refine (decOk_impl _ _ _ (HLP.out.kept (vbelow1 _ _)) HFT.out.n.1 HFT.out.n.2).mono ?_; rintro _ wf ⟨rfl, bf⟩; have BF := Lib.hid (vnx (vbelow1 _ _) bf); clear bf) | (go_at_call 70; refine (textOk_impl _ _ HSZ.out (HLU.out.kept (vbelow1 _ _))).mono ?_; rintro _ wf ⟨rfl, bf⟩; have BF := Lib.hid (vnx (vbelow1 _ _) bf); clear bf))
            go_ret
            exact ⟨ret_bool (by rw [HFF.out]), by first | exact vbelow1 _ _ | exact BF.out⟩
          | true =>
            have HFF : Hid (_ = true) := Lib.hid (HOF.out.trans (by rw [h0, h1, h2, h3]; first | done | simp)); clear HOF
            go_enter Tryz.func42, Tryz.ntmps42
            go_wp2_with (first | (go_at_call 52; refine (within_c _ _ _ _).mono ?_; rintro e w' ⟨rfl, rfl⟩) | (go_at_call 71; refine (fltOk_impl _ _ _).mono ?_; rintro _ wf ⟨rfl, bf⟩; have BF := Lib.hid (vnx (vbelow1 _ _) bf); clear bf) | (go_at_call 31; refine (decOk_impl _ _ _ (HLP.out.kept (vbelow1 _ _)) HFT.out.n.1 HFT.out.n.2).mono ?_; rintro _ wf ⟨rfl, bf⟩; have BF := Lib.hid (vnx (vbelow1 _ _) bf); clear bf) | (go_at_call 70; refine (textOk_impl _ _ HSZ.out (HLU.out.kept (vbelow1 _ _))).mono ?_; rintro _ wf ⟨rfl, bf⟩; have BF := Lib.hid (vnx (vbelow1 _ _) bf); clear bf))
            go_ret
            exact ⟨ret_bool (by rw [HFF.out]), by first | exact vbelow1 _ _ | exact BF.out⟩
  by_cases hk8 : t.kind = 8
  · have hof := (own_8 hk8)
    have HOF := Lib.hid hof; clear hof
    clear hk1 hk2 hk3 hk4 hk5 hk6 hk7
    cases h0 : (t.x == 0) with
    | false =>
      have HFF : Hid (_ = false) := Lib.hid (HOF.out.trans (by rw [h0]; first | done | simp)); clear HOF
      have e0 : (t.x != 0) = true := by simpa using h0
      go_enter Tryz.func42, Tryz.ntmps42
      go_wp2_with (first | (go_at_call 52; refine (within_c _ _ _ _).mono ?_; rintro e w' ⟨rfl, rfl⟩) | (go_at_call 71; refine (fltOk_impl _ _ _).mono ?_; rintro _ wf ⟨rfl, bf⟩; have BF := Lib.hid (vnx (vbelow1 _ _) bf); clear bf) | (go_at_call 31; refine (decOk_impl _ _ _ (HLP.out.kept (vbelow1 _ _)) HFT.out.n.1 HFT.out.n.2).mono ?_; rintro _ wf ⟨rfl, bf⟩; have BF := Lib.hid (vnx (vbelow1 _ _) bf); clear bf) | (go_at_call 70; refine (textOk_impl _ _ HSZ.out (HLU.out.kept (vbelow1 _ _))).mono ?_; rintro _ wf ⟨rfl, bf⟩; have BF := Lib.hid (vnx (vbelow1 _ _) bf); clear bf))
      go_ret
      exact ⟨ret_bool (by rw [HFF.out]), by first | exact vbelow1 _ _ | exact BF.out⟩
    | true =>
      have e0 : (t.x != 0) = false := by simpa using h0
      cases h1 : ((t.l.length : Int) == 0) with
      | false =>
        have HFF : Hid (_ = false) := Lib.hid (HOF.out.trans (by rw [h0, h1]; first | done | simp)); clear HOF
        have e1 : (0 : Int) < (t.l.length : Int) := (by have q : ¬ ((t.l.length : Int) = 0) := (by simpa using h1); omega)
        go_enter Tryz.func42, Tryz.ntmps42
        go_wp2_with (first | (go_at_call 52; refine (within_c _ _ _ _).mono ?_; rintro e w' ⟨rfl, rfl⟩) | (go_at_call 71; refine (fltOk_impl _ _ _).mono ?_; rintro _ wf ⟨rfl, bf⟩; have BF := Lib.hid (vnx (vbelow1 _ _) bf); clear bf) | (go_at_call 31; refine (decOk_impl _ _ _ (HLP.out.kept (vbelow1 _ _)) HFT.out.n.1 HFT.out.n.2).mono ?_; rintro _ wf ⟨rfl, bf⟩; have BF := Lib.hid (vnx (vbelow1 _ _) bf); clear bf) | (go_at_call 70; refine (textOk_impl _ _ HSZ.out (HLU.out.kept (vbelow1 _ _))).mono ?_; rintro _ wf ⟨rfl, bf⟩; have BF := Lib.hid (vnx (vbelow1 _ _) bf); clear bf))
        go_ret
        exact ⟨ret_bool (by rw [HFF.out]), by first | exact vbelow1 _ _ | exact BF.out⟩
      | true =>
        have e1 : ¬ ((0 : Int) < (t.l.length : Int)) := (by have q : (t.l.length : Int) = 0 := (by simpa using h1); omega)
        cases h2 : (t.n == 0) with
        | false =>
          have HFF : Hid (_ = false) := Lib.hid (HOF.out.trans (by rw [h0, h1, h2]; first | done | simp)); clear HOF
          go_enter Tryz.func42, Tryz.ntmps42
          go_wp2_with (first | (go_at_call 52; refine (within_c _ _ _ _).mono ?_; rintro e w' ⟨rfl, rfl⟩) | (go_at_call 71; refine (fltOk_impl _ _ _).mono ?_; rintro _ wf ⟨rfl, bf⟩; have BF := Lib.hid (vnx (vbelow1 _ _) bf); clear bf) | (go_at_call 31; refine (decOk_impl _ _ _ (HLP.out.kept (vbelow1 _ _)) HFT.out.n.1 HFT.out.n.2).mono ?_; rintro _ wf ⟨rfl, bf⟩; have BF := Lib.hid (vnx (vbelow1 _ _) bf); clear bf) | (go_at_call 70; refine (textOk_impl _ _ HSZ.out (HLU.out.kept (vbelow1 _ _))).mono ?_; rintro _ wf ⟨rfl, bf⟩; have BF := Lib.hid (vnx (vbelow1 _ _) bf); clear bf))
          go_ret
          exact ⟨ret_bool (by rw [HFF.out]), by first | exact vbelow1 _ _ | exact BF.out⟩
        | true =>
          have HFF : Hid (_ = true) := Lib.hid (HOF.out.trans (by rw [h0, h1, h2]; first | done | simp)); clear HOF
          go_enter Tryz.func42, Tryz.ntmps42
          go_wp2_with (first | (go_at_call 52; refine (within_c _ _ _ _).mono ?_; rintro e w' ⟨rfl, rfl⟩) | (go_at_call 71; refine (fltOk_impl _ _ _).mono ?_; rintro _ wf ⟨rfl, bf⟩; have BF := Lib.hid (vnx (vbelow1 _ _) bf); clear bf) | (go_at_call 31; refine (decOk_impl _ _ _ (HLP.out.kept (vbelow1 _ _)) HFT.out.n.1 HFT.out.n.2).mono ?_; rintro _ wf ⟨rfl, bf⟩; have BF := Lib.hid (vnx (vbelow1 _ _) bf); clear bf) | (go_at_call 70; refine (textOk_impl _ _ HSZ.out (HLU.out.kept (vbelow1 _ _))).mono ?_; rintro _ wf ⟨rfl, bf⟩; have BF := Lib.hid (vnx (vbelow1 _ _) bf); clear bf))
          go_ret
          exact ⟨ret_bool (by rw [HFF.out]), by first | exact vbelow1 _ _ | exact BF.out⟩
  by_cases hk9 : t.kind = 9
  · have hof := (own_9 hk9)
    have HOF := Lib.hid hof; clear hof
    clear hk1 hk2 hk3 hk4 hk5 hk6 hk7 hk8
    cases h0 : t.s.toList.isEmpty with
    | false =>
      have HFF : Hid (_ = false) := Lib.hid (HOF.out.trans (by rw [h0]; first | done | simp)); clear HOF
      go_enter Tryz.func42, Tryz.ntmps42
      go_wp2_with (first | (go_at_call 52; refine (within_c _ _ _ _).mono ?_; rintro e w' ⟨rfl, rfl⟩) | (go_at_call 71; refine (fltOk_impl _ _ _).mono ?_; rintro _ wf ⟨rfl, bf⟩; have BF := Lib.hid (vnx (vbelow1 _ _) bf); clear bf) | (go_at_call 31; refine (decOk_impl _ _ _ (HLP.out.kept (vbelow1 _ _)) HFT.out.n.1 HFT.out.n.2).mono ?_; rintro _ wf ⟨rfl, bf⟩; have BF := Lib.hid (vnx (vbelow1 _ _) bf); clear bf) | (go_at_call 70; refine (textOk_impl _ _ HSZ.out (HLU.out.kept (vbelow1 _ _))).mono ?_; rintro _ wf ⟨rfl, bf⟩; have BF := Lib.hid (vnx (vbelow1 _ _) bf); clear bf))
      go_ret
      exact ⟨ret_bool (by rw [HFF.out]), by first | exact vbelow1 _ _ | exact BF.out⟩
    | true =>
      cases h1 : (t.x == 0) with
      | false =>
        have HFF : Hid (_ = false) := Lib.hid (HOF.out.trans (by rw [h0, h1]; first | done | simp)); clear HOF
        have e1 : (t.x != 0) = true := by simpa using h1
        go_enter Tryz.func42, Tryz.ntmps42
        go_wp2_with (first | (go_at_call 52; refine (within_c _ _ _ _).mono ?_; rintro e w' ⟨rfl, rfl⟩) | (go_at_call 71; refine (fltOk_impl _ _ _).mono ?_; rintro _ wf ⟨rfl, bf⟩; have BF := Lib.hid (vnx (vbelow1 _ _) bf); clear bf) | (go_at_call 31; refine (decOk_impl _ _ _ (HLP.out.kept (vbelow1 _ _)) HFT.out.n.1 HFT.out.n.2).mono ?_; rintro _ wf ⟨rfl, bf⟩; have BF := Lib.hid (vnx (vbelow1 _ _) bf); clear bf) | (go_at_call 70; refine (textOk_impl _ _ HSZ.out (HLU.out.kept (vbelow1 _ _))).mono ?_; rintro _ wf ⟨rfl, bf⟩; have BF := Lib.hid (vnx (vbelow1 _ _) bf); clear bf))
        go_ret
        exact ⟨ret_bool (by rw [HFF.out]), by first | exact vbelow1 _ _ | exact BF.out⟩
      | true =>
        have e1 : (t.x != 0) = false := by simpa using h1
        cases h2 : (t.n == 0) with
        | false =>
          have HFF : Hid (_ = false) := Lib.hid (HOF.out.trans (by rw [h0, h1, h2]; first | done | simp)); clear HOF
          go_enter Tryz.func42, Tryz.ntmps42
          go_wp2_with (first | (go_at_call 52; refine (within_c _ _ _ _).mono ?_; rintro e w' ⟨rfl, rfl⟩) | (go_at_call 71; refine (fltOk_impl _ _ _).mono ?_; rintro _ wf ⟨rfl, bf⟩; have BF := Lib.hid (vnx (vbelow1 _ _) bf); clear bf) | (go_at_call 31; refine (decOk_impl _ _ _ (HLP.out.kept (vbelow1 _ _)) HFT.out.n.1 HFT.out.n.2).mono ?_; rintro _ wf ⟨rfl, bf⟩; have BF := Lib.hid (vnx (vbelow1 _ _) bf); clear bf) | (go_at_call 70; refine (textOk_impl _ _ HSZ.out (HLU.out.kept (vbelow1 _ _))).mono ?_; rintro _ wf ⟨rfl, bf⟩; have BF := Lib.hid (vnx (vbelow1 _ _) bf); clear bf))
          go_ret
          exact ⟨ret_bool (by rw [HFF.out]), by first | exact vbelow1 _ _ | exact BF.out⟩
        | true =>
          have HFF : Hid (_ = true) := Lib.hid (HOF.out.trans (by rw [h0, h1, h2]; first | done | simp)); clear HOF
          go_enter Tryz.func42, Tryz.ntmps42
          go_wp2_with (first | (go_at_call 52; refine (within_c _ _ _ _).mono ?_; rintro e w' ⟨rfl, rfl⟩) | (go_at_call 71; refine (fltOk_impl _ _ _).mono ?_; rintro _ wf ⟨rfl, bf⟩; have BF := Lib.hid (vnx (vbelow1 _ _) bf); clear bf) | (go_at_call 31; refine (decOk_impl _ _ _ (HLP.out.kept (vbelow1 _ _)) HFT.out.n.1 HFT.out.n.2).mono ?_; rintro _ wf ⟨rfl, bf⟩; have BF := Lib.hid (vnx (vbelow1 _ _) bf); clear bf) | (go_at_call 70; refine (textOk_impl _ _ HSZ.out (HLU.out.kept (vbelow1 _ _))).mono ?_; rintro _ wf ⟨rfl, bf⟩; have BF := Lib.hid (vnx (vbelow1 _ _) bf); clear bf))
          go_ret
          exact ⟨ret_bool (by rw [HFF.out]), by first | exact vbelow1 _ _ | exact BF.out⟩
  by_cases hk10 : t.kind = 10
  · have hof := (own_10 hk10)
    have HOF := Lib.hid hof; clear hof
    clear hk1 hk2 hk3 hk4 hk5 hk6 hk7 hk8 hk9
    cases h0 : t.s.toList.isEmpty with
    | false =>
      have HFF : Hid (_ = false) := Lib.hid (HOF.out.trans (by rw [h0]; first | done | simp)); clear HOF
      go_enter Tryz.func42, Tryz.ntmps42
      go_wp2_with (first | (go_at_call 52; refine (within_c _ _ _ _).mono ?_; rintro e w' ⟨rfl, rfl⟩) | (go_at_call 71; refine (fltOk_impl _ _ _).mono ?_; rintro _ wf ⟨rfl, bf⟩; have BF := Lib.hid (vnx (vbelow1 _ _) bf); clear bf) | (go_at_call 31; refine (decOk_impl _ _ _ (HLP.out.kept (vbelow1 _ _)) HFT.out.n.1 HFT.out.n.2).mono ?_; rintro _ wf ⟨rfl, bf⟩; have BF := Lib.hid (vnx (vbelow1 _ _) bf); clear bf) | (go_at_call 70; refine (textOk_impl _ _ HSZ.out (HLU.out.kept (vbelow1 _ _))).mono ?_; rintro _ wf ⟨rfl, bf⟩; have BF := Lib.hid (vnx (vbelow1 _ _) bf); clear bf))
      go_ret
      exact ⟨ret_bool (by rw [HFF.out]), by first | exact vbelow1 _ _ | exact BF.out⟩
    | true =>
      cases h1 : (t.x == 0) with
      | false =>
        have HFF : Hid (_ = false) := Lib.hid (HOF.out.trans (by rw [h0, h1]; first | done | simp)); clear HOF
        have e1 : (t.x != 0) = true := by simpa using h1
        go_enter Tryz.func42, Tryz.ntmps42
        go_wp2_with (first | (go_at_call 52; refine (within_c _ _ _ _).mono ?_; rintro e w' ⟨rfl, rfl⟩) | (go_at_call 71; refine (fltOk_impl _ _ _).mono ?_; rintro _ wf ⟨rfl, bf⟩; have BF := Lib.hid (vnx (vbelow1 _ _) bf); clear bf) | (go_at_call 31; refine (decOk_impl _ _ _ (HLP.out.kept (vbelow1 _ _)) HFT.out.n.1 HFT.out.n.2).mono ?_; rintro _ wf ⟨rfl, bf⟩; have BF := Lib.hid (vnx (vbelow1 _ _) bf); clear bf) | (go_at_call 70; refine (textOk_impl _ _ HSZ.out (HLU.out.kept (vbelow1 _ _))).mono ?_; rintro _ wf ⟨rfl, bf⟩; have BF := Lib.hid (vnx (vbelow1 _ _) bf); clear bf))
        go_ret
        exact ⟨ret_bool (by rw [HFF.out]), by first | exact vbelow1 _ _ | exact BF.out⟩
      | true =>
        have e1 : (t.x != 0) = false := by simpa using h1
        cases h2 : (t.n == 0) with
        | false =>
          have HFF : Hid (_ = false) := Lib.hid (HOF.out.trans (by rw [h0, h1, h2]; first | done | simp)); clear HOF
          go_enter Tryz.func42, Tryz.ntmps42
          go_wp2_with (first | (go_at_call 52; refine (within_c _ _ _ _).mono ?_; rintro e w' ⟨rfl, rfl⟩) | (go_at_call 71; refine (fltOk_impl _ _ _).mono ?_; rintro _ wf ⟨rfl, bf⟩; have BF := Lib.hid (vnx (vbelow1 _ _) bf); clear bf) | (go_at_call 31; refine (decOk_impl _ _ _ (HLP.out.kept (vbelow1 _ _)) HFT.out.n.1 HFT.out.n.2).mono ?_; rintro _ wf ⟨rfl, bf⟩; have BF := Lib.hid (vnx (vbelow1 _ _) bf); clear bf) | (go_at_call 70; refine (textOk_impl _ _ HSZ.out (HLU.out.kept (vbelow1 _ _))).mono ?_; rintro _ wf ⟨rfl, bf⟩; have BF := Lib.hid (vnx (vbelow1 _ _) bf); clear bf))
          go_ret
          exact ⟨ret_bool (by rw [HFF.out]), by first | exact vbelow1 _ _ | exact BF.out⟩
        | true =>
          cases h3 : ((t.l.length : Int) % 2 == 0) with
          | false =>
            have HFF : Hid (_ = false) := Lib.hid (HOF.out.trans (by rw [h0, h1, h2, h3]; first | done | simp)); clear HOF
            go_enter Tryz.func42, Tryz.ntmps42
            go_wp2_with (first | (go_at_call 52; refine (within_c _ _ _ _).mono ?_; rintro e w' ⟨rfl, rfl⟩) | (go_at_call 71; refine (fltOk_impl _ _ _).mono ?_; rintro _ wf ⟨rfl, bf⟩; have BF := Lib.hid (vnx (vbelow1 _ _) bf); clear bf) | (go_at_call 31; refine (decOk_impl _ _ _ (HLP.out.kept (vbelow1 _ _)) HFT.out.n.1 HFT.out.n.2).mono ?_; rintro _ wf ⟨rfl, bf⟩; have BF := Lib.hid (vnx (vbelow1 _ _) bf); clear bf) | (go_at_call 70; refine (textOk_impl _ _ HSZ.out (HLU.out.kept (vbelow1 _ _))).mono ?_; rintro _ wf ⟨rfl, bf⟩; have BF := Lib.hid (vnx (vbelow1 _ _) bf); clear bf))
            go_ret
            exact ⟨ret_bool (by rw [HFF.out]), by first | exact vbelow1 _ _ | exact BF.out⟩
          | true =>
            have HFF : Hid (_ = true) := Lib.hid (HOF.out.trans (by rw [h0, h1, h2, h3]; first | done | simp)); clear HOF
            go_enter Tryz.func42, Tryz.ntmps42
            go_wp2_with (first | (go_at_call 52; refine (within_c _ _ _ _).mono ?_; rintro e w' ⟨rfl, rfl⟩) | (go_at_call 71; refine (fltOk_impl _ _ _).mono ?_; rintro _ wf ⟨rfl, bf⟩; have BF := Lib.hid (vnx (vbelow1 _ _) bf); clear bf) | (go_at_call 31; refine (decOk_impl _ _ _ (HLP.out.kept (vbelow1 _ _)) HFT.out.n.1 HFT.out.n.2).mono ?_; rintro _ wf ⟨rfl, bf⟩; have BF := Lib.hid (vnx (vbelow1 _ _) bf); clear bf) | (go_at_call 70; refine (textOk_impl _ _ HSZ.out (HLU.out.kept (vbelow1 _ _))).mono ?_; rintro _ wf ⟨rfl, bf⟩; have BF := Lib.hid (vnx (vbelow1 _ _) bf); clear bf))
            go_ret
            exact ⟨ret_bool (by rw [HFF.out]), by first | exact vbelow1 _ _ | exact BF.out⟩
  by_cases hk11 : t.kind = 11
  · have hof := (own_11 hk11)
    have HOF := Lib.hid hof; clear hof
    clear hk1 hk2 hk3 hk4 hk5 hk6 hk7 hk8 hk9 hk10
    cases h0 : t.s.toList.isEmpty with
    | false =>
      have HFF : Hid (_ = false) := Lib.hid (HOF.out.trans (by rw [h0]; first | done | simp)); clear HOF
      go_enter Tryz.func42, Tryz.ntmps42
      go_wp2_with (first | (go_at_call 52; refine (within_c _ _ _ _).mono ?_; rintro e w' ⟨rfl, rfl⟩) | (go_at_call 71; refine (fltOk_impl _ _ _).mono ?_; rintro _ wf ⟨rfl, bf⟩; have BF := Lib.hid (vnx (vbelow1 _ _) bf); clear bf) | (go_at_call 31; refine (decOk_impl _ _ _ (HLP.out.kept (vbelow1 _ _)) HFT.out.n.1 HFT.out.n.2).mono ?_; rintro _ wf ⟨rfl, bf⟩; have BF := Lib.hid (vnx (vbelow1 _ _) bf); clear bf) | (go_at_call 70; refine (textOk_impl _ _ HSZ.out (HLU.out.kept (vbelow1 _ _))).mono ?_; rintro _ wf ⟨rfl, bf⟩; have BF := Lib.hid (vnx (vbelow1 _ _) bf); clear bf))
      go_ret
      exact ⟨ret_bool (by rw [HFF.out]), by first | exact vbelow1 _ _ | exact BF.out⟩
    | true =>
      cases h1 : (t.x == 0) with
      | false =>
        have HFF : Hid (_ = false) := Lib.hid (HOF.out.trans (by rw [h0, h1]; first | done | simp)); clear HOF
        have e1 : (t.x != 0) = true := by simpa using h1
        go_enter Tryz.func42, Tryz.ntmps42
        go_wp2_with (first | (go_at_call 52; refine (within_c _ _ _ _).mono ?_; rintro e w' ⟨rfl, rfl⟩) | (go_at_call 71; refine (fltOk_impl _ _ _).mono ?_; rintro _ wf ⟨rfl, bf⟩; have BF := Lib.hid (vnx (vbelow1 _ _) bf); clear bf) | (go_at_call 31; refine (decOk_impl _ _ _ (HLP.out.kept (vbelow1 _ _)) HFT.out.n.1 HFT.out.n.2).mono ?_; rintro _ wf ⟨rfl, bf⟩; have BF := Lib.hid (vnx (vbelow1 _ _) bf); clear bf) | (go_at_call 70; refine (textOk_impl _ _ HSZ.out (HLU.out.kept (vbelow1 _ _))).mono ?_; rintro _ wf ⟨rfl, bf⟩; have BF := Lib.hid (vnx (vbelow1 _ _) bf); clear bf))
        go_ret
        exact ⟨ret_bool (by rw [HFF.out]), by first | exact vbelow1 _ _ | exact BF.out⟩
      | true =>
        have e1 : (t.x != 0) = false := by simpa using h1
        cases h2 : inB t.n 0 1000000000000000 with
        | false =>
          have HFF : Hid (_ = false) := Lib.hid (HOF.out.trans (by rw [h0, h1, h2]; first | done | simp)); clear HOF
          go_enter Tryz.func42, Tryz.ntmps42
          go_wp2_with (first | (go_at_call 52; refine (within_c _ _ _ _).mono ?_; rintro e w' ⟨rfl, rfl⟩) | (go_at_call 71; refine (fltOk_impl _ _ _).mono ?_; rintro _ wf ⟨rfl, bf⟩; have BF := Lib.hid (vnx (vbelow1 _ _) bf); clear bf) | (go_at_call 31; refine (decOk_impl _ _ _ (HLP.out.kept (vbelow1 _ _)) HFT.out.n.1 HFT.out.n.2).mono ?_; rintro _ wf ⟨rfl, bf⟩; have BF := Lib.hid (vnx (vbelow1 _ _) bf); clear bf) | (go_at_call 70; refine (textOk_impl _ _ HSZ.out (HLU.out.kept (vbelow1 _ _))).mono ?_; rintro _ wf ⟨rfl, bf⟩; have BF := Lib.hid (vnx (vbelow1 _ _) bf); clear bf))
          go_ret
          exact ⟨ret_bool (by rw [HFF.out]), by first | exact vbelow1 _ _ | exact BF.out⟩
        | true =>
          cases h3 : ((t.l.length : Int) == 1) with
          | false =>
            have HFF : Hid (_ = false) := Lib.hid (HOF.out.trans (by rw [h0, h1, h2, h3]; first | done | simp)); clear HOF
            go_enter Tryz.func42, Tryz.ntmps42
            go_wp2_with (first | (go_at_call 52; refine (within_c _ _ _ _).mono ?_; rintro e w' ⟨rfl, rfl⟩) | (go_at_call 71; refine (fltOk_impl _ _ _).mono ?_; rintro _ wf ⟨rfl, bf⟩; have BF := Lib.hid (vnx (vbelow1 _ _) bf); clear bf) | (go_at_call 31; refine (decOk_impl _ _ _ (HLP.out.kept (vbelow1 _ _)) HFT.out.n.1 HFT.out.n.2).mono ?_; rintro _ wf ⟨rfl, bf⟩; have BF := Lib.hid (vnx (vbelow1 _ _) bf); clear bf) | (go_at_call 70; refine (textOk_impl _ _ HSZ.out (HLU.out.kept (vbelow1 _ _))).mono ?_; rintro _ wf ⟨rfl, bf⟩; have BF := Lib.hid (vnx (vbelow1 _ _) bf); clear bf))
            go_ret
            exact ⟨ret_bool (by rw [HFF.out]), by first | exact vbelow1 _ _ | exact BF.out⟩
          | true =>
            have HFF : Hid (_ = true) := Lib.hid (HOF.out.trans (by rw [h0, h1, h2, h3]; first | done | simp)); clear HOF
            go_enter Tryz.func42, Tryz.ntmps42
            go_wp2_with (first | (go_at_call 52; refine (within_c _ _ _ _).mono ?_; rintro e w' ⟨rfl, rfl⟩) | (go_at_call 71; refine (fltOk_impl _ _ _).mono ?_; rintro _ wf ⟨rfl, bf⟩; have BF := Lib.hid (vnx (vbelow1 _ _) bf); clear bf) | (go_at_call 31; refine (decOk_impl _ _ _ (HLP.out.kept (vbelow1 _ _)) HFT.out.n.1 HFT.out.n.2).mono ?_; rintro _ wf ⟨rfl, bf⟩; have BF := Lib.hid (vnx (vbelow1 _ _) bf); clear bf) | (go_at_call 70; refine (textOk_impl _ _ HSZ.out (HLU.out.kept (vbelow1 _ _))).mono ?_; rintro _ wf ⟨rfl, bf⟩; have BF := Lib.hid (vnx (vbelow1 _ _) bf); clear bf))
            go_ret
            exact ⟨ret_bool (by rw [HFF.out]), by first | exact vbelow1 _ _ | exact BF.out⟩
  have hof := (own_no (t := t) (by omega))
  have HFF := Lib.hid hof; clear hof
  go_enter Tryz.func42, Tryz.ntmps42
  go_wp2_with (first | (go_at_call 52; refine (within_c _ _ _ _).mono ?_; rintro e w' ⟨rfl, rfl⟩) | (go_at_call 71; refine (fltOk_impl _ _ _).mono ?_; rintro _ wf ⟨rfl, bf⟩; have BF := Lib.hid (vnx (vbelow1 _ _) bf); clear bf) | (go_at_call 31; refine (decOk_impl _ _ _ (HLP.out.kept (vbelow1 _ _)) HFT.out.n.1 HFT.out.n.2).mono ?_; rintro _ wf ⟨rfl, bf⟩; have BF := Lib.hid (vnx (vbelow1 _ _) bf); clear bf) | (go_at_call 70; refine (textOk_impl _ _ HSZ.out (HLU.out.kept (vbelow1 _ _))).mono ?_; rintro _ wf ⟨rfl, bf⟩; have BF := Lib.hid (vnx (vbelow1 _ _) bf); clear bf))
  all_goals (go_ret; exact ⟨ret_bool HFF.out.symm, by first | exact HB.out | exact vbelow1 _ _⟩)
end Go.Proofs.YtilmhemcpgiikaaGreatDoor
