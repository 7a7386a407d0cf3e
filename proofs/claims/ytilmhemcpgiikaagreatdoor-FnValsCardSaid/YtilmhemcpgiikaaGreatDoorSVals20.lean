/- Vals: texts of the proof (VOk). -/
import Derived.Test.YtilmhemcpgiikaaGreatDoorSVals10
import Derived.Test.YtilmhemcpgiikaaGreatDoorSVals7
import Derived.Test.YtilmhemcpgiikaaGreatDoorSVals9
import Derived.Test.YtilmhemcpgiikaaGreatDoorSVals12
import Derived.Test.YtilmhemcpgiikaaGreatDoorSVals15
import Derived.Test.YtilmhemcpgiikaaGreatDoorSVals16
import Derived.Test.YtilmhemcpgiikaaGreatDoorSVals19
/- ValOk: both judge trees alike. -/
namespace Go.Proofs.YtilmhemcpgiikaaGreatDoor
open Go.Deep Go.ChangeShapes Go.WideShapes Go.ChangeAt Go.RowKit
open Go.ChangeMaps (open_string shut_string)

/-- Are a value's own fields right for its kind? -/
def ownB (t : Tree) : Bool :=
  if t.kind = 1 then ((t.n == 0) && ((t.x == 0) && (t.s.toList.isEmpty && ((t.l.length : Int) == 0)))) else
  if t.kind = 2 then (inB t.n 0 1 && ((t.x == 0) && (t.s.toList.isEmpty && ((t.l.length : Int) == 0)))) else
  if t.kind = 3 then (inB t.n (-1000000000000000) 1000000000000000 && ((t.x == 0) && (t.s.toList.isEmpty && ((t.l.length : Int) == 0)))) else
  if t.kind = 4 then (fltOkF t.n t.x && (t.s.toList.isEmpty && ((t.l.length : Int) == 0))) else
  if t.kind = 5 then (inB t.n 0 2 && ((t.x == 0) && (t.s.toList.isEmpty && ((t.l.length : Int) == 0)))) else
  if t.kind = 6 then (decOkB t.n t.x && (decide (t.x < 0) && (t.s.toList.isEmpty && ((t.l.length : Int) == 0)))) else
  if t.kind = 7 then ((t.n == 0) && ((t.x == 0) && (Lib.validD t.s.data.toList && ((t.l.length : Int) == 0)))) else
  if t.kind = 8 then ((t.n == 0) && ((t.x == 0) && ((t.l.length : Int) == 0))) else
  if t.kind = 9 then ((t.n == 0) && ((t.x == 0) && t.s.toList.isEmpty)) else
  if t.kind = 10 then ((t.n == 0) && ((t.x == 0) && (t.s.toList.isEmpty && ((t.l.length : Int) % 2 == 0)))) else
  if t.kind = 11 then (inB t.n 0 1000000000000000 && ((t.x == 0) && (t.s.toList.isEmpty && ((t.l.length : Int) == 1)))) else
  false
theorem own_1 {t : Tree} (h : t.kind = 1) : ownB t = ((t.n == 0) && ((t.x == 0) && (t.s.toList.isEmpty && ((t.l.length : Int) == 0)))) := by
  unfold ownB
  rw [if_pos h]
theorem own_2 {t : Tree} (h : t.kind = 2) : ownB t = (inB t.n 0 1 && ((t.x == 0) && (t.s.toList.isEmpty && ((t.l.length : Int) == 0)))) := by
  unfold ownB
  rw [if_neg (by omega)]
  rw [if_pos h]
theorem own_3 {t : Tree} (h : t.kind = 3) : ownB t = (inB t.n (-1000000000000000) 1000000000000000 && ((t.x == 0) && (t.s.toList.isEmpty && ((t.l.length : Int) == 0)))) := by
  unfold ownB
  rw [if_neg (by omega)]
  rw [if_neg (by omega)]
  rw [if_pos h]
theorem own_4 {t : Tree} (h : t.kind = 4) : ownB t = (fltOkF t.n t.x && (t.s.toList.isEmpty && ((t.l.length : Int) == 0))) := by
  unfold ownB
  rw [if_neg (by omega)]
  rw [if_neg (by omega)]
  rw [if_neg (by omega)]
  rw [if_pos h]
theorem own_5 {t : Tree} (h : t.kind = 5) : ownB t = (inB t.n 0 2 && ((t.x == 0) && (t.s.toList.isEmpty && ((t.l.length : Int) == 0)))) := by
  unfold ownB
  rw [if_neg (by omega)]
  rw [if_neg (by omega)]
  rw [if_neg (by omega)]
  rw [if_neg (by omega)]
  rw [if_pos h]
theorem own_6 {t : Tree} (h : t.kind = 6) : ownB t = (decOkB t.n t.x && (decide (t.x < 0) && (t.s.toList.isEmpty && ((t.l.length : Int) == 0)))) := by
  unfold ownB
  rw [if_neg (by omega)]
  rw [if_neg (by omega)]
  rw [if_neg (by omega)]
  rw [if_neg (by omega)]
  rw [if_neg (by omega)]
  rw [if_pos h]
theorem own_7 {t : Tree} (h : t.kind = 7) : ownB t = ((t.n == 0) && ((t.x == 0) && (Lib.validD t.s.data.toList && ((t.l.length : Int) == 0)))) := by
  unfold ownB
  rw [if_neg (by omega)]
  rw [if_neg (by omega)]
  rw [if_neg (by omega)]
  rw [if_neg (by omega)]
  rw [if_neg (by omega)]
  rw [if_neg (by omega)]
  rw [if_pos h]
theorem own_8 {t : Tree} (h : t.kind = 8) : ownB t = ((t.n == 0) && ((t.x == 0) && ((t.l.length : Int) == 0))) := by
  unfold ownB
  rw [if_neg (by omega)]
  rw [if_neg (by omega)]
  rw [if_neg (by omega)]
  rw [if_neg (by omega)]
  rw [if_neg (by omega)]
  rw [if_neg (by omega)]
  rw [if_neg (by omega)]
  rw [if_pos h]
theorem own_9 {t : Tree} (h : t.kind = 9) : ownB t = ((t.n == 0) && ((t.x == 0) && t.s.toList.isEmpty)) := by
  unfold ownB
  rw [if_neg (by omega)]
  rw [if_neg (by omega)]
  rw [if_neg (by omega)]
  rw [if_neg (by omega)]
  rw [if_neg (by omega)]
  rw [if_neg (by omega)]
  rw [if_neg (by omega)]
  rw [if_neg (by omega)]
  rw [if_pos h]
theorem own_10 {t : Tree} (h : t.kind = 10) : ownB t = ((t.n == 0) && ((t.x == 0) && (t.s.toList.isEmpty && ((t.l.length : Int) % 2 == 0)))) := by
  unfold ownB
  rw [if_neg (by omega)]
  rw [if_neg (by omega)]
  rw [if_neg (by omega)]
  rw [if_neg (by omega)]
  rw [if_neg (by omega)]
  rw [if_neg (by omega)]
  rw [if_neg (by omega)]
  rw [if_neg (by omega)]
  rw [if_neg (by omega)]
  rw [if_pos h]
theorem own_11 {t : Tree} (h : t.kind = 11) : ownB t = (inB t.n 0 1000000000000000 && ((t.x == 0) && (t.s.toList.isEmpty && ((t.l.length : Int) == 1)))) := by
  unfold ownB
  rw [if_neg (by omega)]
  rw [if_neg (by omega)]
  rw [if_neg (by omega)]
  rw [if_neg (by omega)]
  rw [if_neg (by omega)]
  rw [if_neg (by omega)]
  rw [if_neg (by omega)]
  rw [if_neg (by omega)]
  rw [if_neg (by omega)]
  rw [if_neg (by omega)]
  rw [if_pos h]
theorem own_no {t : Tree} (h : t.kind < 1 ∨ 11 < t.kind) : ownB t = false := by
  unfold ownB
  rw [if_neg (by omega)]
  rw [if_neg (by omega)]
  rw [if_neg (by omega)]
  rw [if_neg (by omega)]
  rw [if_neg (by omega)]
  rw [if_neg (by omega)]
  rw [if_neg (by omega)]
  rw [if_neg (by omega)]
  rw [if_neg (by omega)]
  rw [if_neg (by omega)]
  rw [if_neg (by omega)]

mutual
/-- Is a tree right? -/
def Tree.ok : Tree → Bool | .mk k n x s l => okL l && ownB (.mk k n x s l)
def okL : List Tree → Bool | [] => true | t :: ts => t.ok && okL ts
end
theorem Tree.ok_eq (t : Tree) : t.ok = (okL t.l && ownB t) := by cases t; rw [Tree.ok]; rfl
theorem okL_true : ∀ {l : List Tree}, (∀ j (h : j < l.length), l[j].ok = true) → okL l = true
  | [], _ => by rw [okL]
  | t :: ts, h => by
    rw [okL, okL_true (l := ts) (fun j hj => h (j + 1) (by simpa using hj))]
    have := h 0 (by simp)
    simpa using this
theorem okL_at : ∀ {l : List Tree} {j : Nat} (h : j < l.length), l[j].ok = false → okL l = false
  | t :: ts, 0, _, h => by rw [okL]; have : t.ok = false := h; rw [this]; rfl
  | t :: ts, j + 1, hj, h => by rw [okL, okL_at (l := ts) (j := j) (by simpa using hj) h]; simp
theorem cost_elem {t : Tree} {j : Nat} (h : j < t.l.length) : t.l[j].cost ≤ t.cost := by
  have h1 := Tree.cost_eq t
  have h2 := costL_eq t.l
  have h3 : ∀ l : List Tree, ∀ t' ∈ l, t'.cost ≤ costE l := by
    intro l
    induction l with
    | nil => intro t' h; cases h
    | cons u ts ih =>
      intro t' h
      rw [costE]
      rcases List.mem_cons.1 h with rfl | h
      · omega
      · have := ih t' h; omega
  have := h3 t.l _ (List.getElem_mem h)
  omega
theorem size_cost (t : Tree) : t.s.size ≤ t.cost := by have := Tree.cost_eq t; omega

theorem leaf_c (k n x : Int) (s : ByteArray) (a : Option Addr) (m cap : Nat) (w : World) :
    Calls Tryz.prog 43 #[.agg #[.int .i64 k, .int .i64 n, .int .i64 x, .string s, .slice a m cap]] w fun e w' => e = .returned (.bool ((m : Int) == 0)) ∧ Below w.heap.size w w' := by
  go_enter Tryz.func43, Tryz.ntmps43
  go_wp2_with fail
  go_ret
  exact ⟨rfl, vbelow1 _ _⟩
def okSpecC (t : Tree) : Prop := ∀ (w : World) (u : Value), t.cost ≤ 1048576 → TSl w u t.l → Fits t.kind t.n t.x t.s →
  Calls Tryz.prog 14 #[.agg #[.int .i64 t.kind, .int .i64 t.n, .int .i64 t.x, .string t.s, u]] w fun e w' => e = .returned (.bool t.ok) ∧ Below w.heap.size w w'
set_option maxRecDepth 100000 in
set_option maxHeartbeats 40000000 in
theorem okSpec_of (t : Tree) (ih : ∀ t' ∈ t.l, okSpecC t') : okSpecC t := by
  intro w u hcost hu hfit
  obtain ⟨a, cap, b, off, rfl, hcap, hmax, ha, hl⟩ := hu
  unfold maxLen at hmax
  have HSZ := Lib.hid (show t.s.size ≤ 1048576 by have := size_cost t; omega)
  have HFT := Lib.hid hfit; clear hfit
  have IH := Lib.hid ih; clear ih
  have HL := Lib.hid hl; clear hl
  have HA := Lib.hid ha; clear ha
  have HC := Lib.hid (fun j (h : j < t.l.length) => Nat.le_trans (cost_elem h) hcost)
  have HOK := Lib.hid (Tree.ok_eq t)
  have K0 := Lib.hid (box5_new w (.int .i64 t.kind) (.int .i64 t.n) (.int .i64 t.x) (.string t.s) (.slice a t.l.length cap) 26)
  have t0 := vbelow1 w (.cells #[.int .i64 t.kind, .int .i64 t.n, .int .i64 t.x, .string t.s, .slice a t.l.length cap] 26)
  have T0 := Lib.hid t0; clear t0 hcost
  go_enter Tryz.func14, Tryz.ntmps14
  go_wp2_with fail
  generalize hW0 : w.alloc (.cells #[.int .i64 t.kind, .int .i64 t.n, .int .i64 t.x, .string t.s, .slice a t.l.length cap] 26) = W0 at *
  clear hW0
  go_loopw [3] (fun i wr => ∃ j : Nat, j ≤ t.l.length ∧ i = .int .i64 j ∧ Hid (∀ k (h : k < t.l.length), k < j → t.l[k].ok = true) ∧ Hid (Below W0.heap.size W0 wr)) (fun i _ => t.l.length - (intOf i).toNat)
  case atStart => exact ⟨0, by omega, rfl, Lib.hid (fun k h h2 => absurd h2 (Nat.not_lt_zero _)), Lib.hid (Below.refl _ _)⟩
  case round =>
    obtain ⟨j, hj, rfl, HK, HBW⟩ := hrel
    have KB := Lib.hid (box5_kept HBW.out K0.out)
    have HB := Lib.hid (vnx T0.out HBW.out)
    obtain ⟨k0, k1, k2, k3, k4⟩ := KB.out
    by_cases hjl : j < t.l.length
    · obtain rfl : a = some ⟨b, off, none⟩ := HA.out (by intro h; rw [h] at hjl; simp at hjl)
      obtain ⟨x, c0, c1, c2, c3, c4, hsl, hft⟩ := ((HL.out j hjl).kept HB.out).parts
      have hC := IH.out t.l[j] (List.getElem_mem hjl) wr x (HC.out j hjl) hsl hft
      have hF : t.l[j].ok = false → t.ok = false := fun h => by rw [HOK.out, okL_at hjl h]; rfl
      have hT : t.l[j].ok = true → ∀ k (h : k < t.l.length), k < j + 1 → t.l[k].ok = true := fun h k hk hk2 => by
        by_cases e : k = j
        · subst e; exact h
        · exact HK.out k hk (by omega)
      have HF := Lib.hid hF; have HT := Lib.hid hT; have HCC := Lib.hid hC
      clear hF hT hC hsl hft
      cases hb : t.l[j].ok with
      | false =>
        rw [hb] at HCC
        have HFF := Lib.hid (HF.out hb); clear HF HT hb
        generalize t.l[j] = r at *
        go_wp2_with fail
        refine HCC.out.mono ?_
        rintro _ w1 ⟨rfl, hb1⟩
        go_wp2_with fail
        go_ret
        exact ⟨ret_bool HFF.out.symm, vnx HB.out hb1⟩
      | true =>
        rw [hb] at HCC
        have HTT := Lib.hid (HT.out hb); clear HF HT hb
        go_wp2_with fail
        refine HCC.out.mono ?_
        rintro _ w1 ⟨rfl, hb1⟩
        go_wp2_with fail
        go_roundw
        case rel => exact ⟨j + 1, by omega, by go_num, HTT, Lib.hid (vnx HBW.out hb1)⟩
        case measure => simp [intOf]; omega
    · obtain rfl : j = t.l.length := by omega
      have hall : t.ok = ownB t := by rw [HOK.out, okL_true (fun k h => HK.out k h h)]; rfl
      have HALL := Lib.hid hall; clear hall HOK HK IH HL HA HC
      by_cases hk1 : t.kind = 1
      · have hof := HALL.out.trans (own_1 hk1)
        have HOF := Lib.hid hof; clear hof
        cases h0 : (t.n == 0) with
        | false =>
          have HFF : Hid (_ = false) := Lib.hid (HOF.out.trans (by rw [h0]; first | done | simp)); clear HOF
          go_wp2_with (first | (go_at_call 44; refine (l1In_c _ _ _ _).mono ?_; rintro e w' ⟨rfl, rfl⟩) | (go_at_call 45; refine (fltOk_spec _ _ _).mono ?_; rintro _ wf ⟨rfl, bf⟩; have BF := Lib.hid (vnx HB.out bf); obtain ⟨k0, k1, k2, k3, k4⟩ := box5_kept bf KB.out; clear bf) | (go_at_call 46; refine (decOk_spec _ _ _ HFT.out.n.1 HFT.out.n.2).mono ?_; rintro _ wf ⟨rfl, bf⟩; have BF := Lib.hid (vnx HB.out bf); obtain ⟨k0, k1, k2, k3, k4⟩ := box5_kept bf KB.out; clear bf) | (go_at_call 47; refine (textOk_spec _ _ HSZ.out).mono ?_; rintro _ wf ⟨rfl, bf⟩; have BF := Lib.hid (vnx HB.out bf); obtain ⟨k0, k1, k2, k3, k4⟩ := box5_kept bf KB.out; clear bf) | (go_at_call 43; refine (leaf_c _ _ _ _ _ _ _ _).mono ?_; rintro _ wl ⟨rfl, bl⟩))
          go_ret
          exact ⟨ret_bool (by rw [HFF.out]), by first | exact HB.out | exact vnx HB.out bl | exact vnx BF.out bl | exact BF.out⟩
        | true =>
          cases h1 : (t.x == 0) with
          | false =>
            have HFF : Hid (_ = false) := Lib.hid (HOF.out.trans (by rw [h0, h1]; first | done | simp)); clear HOF
            go_wp2_with (first | (go_at_call 44; refine (l1In_c _ _ _ _).mono ?_; rintro e w' ⟨rfl, rfl⟩) | (go_at_call 45; refine (fltOk_spec _ _ _).mono ?_; rintro _ wf ⟨rfl, bf⟩; have BF := Lib.hid (vnx HB.out bf); obtain ⟨k0, k1, k2, k3, k4⟩ := box5_kept bf KB.out; clear bf) | (go_at_call 46; refine (decOk_spec _ _ _ HFT.out.n.1 HFT.out.n.2).mono ?_; rintro _ wf ⟨rfl, bf⟩; have BF := Lib.hid (vnx HB.out bf); obtain ⟨k0, k1, k2, k3, k4⟩ := box5_kept bf KB.out; clear bf) | (go_at_call 47; refine (textOk_spec _ _ HSZ.out).mono ?_; rintro _ wf ⟨rfl, bf⟩; have BF := Lib.hid (vnx HB.out bf); obtain ⟨k0, k1, k2, k3, k4⟩ := box5_kept bf KB.out; clear bf) | (go_at_call 43; refine (leaf_c _ _ _ _ _ _ _ _).mono ?_; rintro _ wl ⟨rfl, bl⟩))
            go_ret
            exact ⟨ret_bool (by rw [HFF.out]), by first | exact HB.out | exact vnx HB.out bl | exact vnx BF.out bl | exact BF.out⟩
          | true =>
            cases h2 : t.s.toList.isEmpty with
            | false =>
              have HFF : Hid (_ = false) := Lib.hid (HOF.out.trans (by rw [h0, h1, h2]; first | done | simp)); clear HOF
              go_wp2_with (first | (go_at_call 44; refine (l1In_c _ _ _ _).mono ?_; rintro e w' ⟨rfl, rfl⟩) | (go_at_call 45; refine (fltOk_spec _ _ _).mono ?_; rintro _ wf ⟨rfl, bf⟩; have BF := Lib.hid (vnx HB.out bf); obtain ⟨k0, k1, k2, k3, k4⟩ := box5_kept bf KB.out; clear bf) | (go_at_call 46; refine (decOk_spec _ _ _ HFT.out.n.1 HFT.out.n.2).mono ?_; rintro _ wf ⟨rfl, bf⟩; have BF := Lib.hid (vnx HB.out bf); obtain ⟨k0, k1, k2, k3, k4⟩ := box5_kept bf KB.out; clear bf) | (go_at_call 47; refine (textOk_spec _ _ HSZ.out).mono ?_; rintro _ wf ⟨rfl, bf⟩; have BF := Lib.hid (vnx HB.out bf); obtain ⟨k0, k1, k2, k3, k4⟩ := box5_kept bf KB.out; clear bf) | (go_at_call 43; refine (leaf_c _ _ _ _ _ _ _ _).mono ?_; rintro _ wl ⟨rfl, bl⟩))
              go_ret
              exact ⟨ret_bool (by rw [HFF.out]), by first | exact HB.out | exact vnx HB.out bl | exact vnx BF.out bl | exact BF.out⟩
            | true =>
              cases h3 : ((t.l.length : Int) == 0) with
              | false =>
                have HFF : Hid (_ = false) := Lib.hid (HOF.out.trans (by rw [h0, h1, h2, h3]; first | done | simp)); clear HOF
                go_wp2_with (first | (go_at_call 44; refine (l1In_c _ _ _ _).mono ?_; rintro e w' ⟨rfl, rfl⟩) | (go_at_call 45; refine (fltOk_spec _ _ _).mono ?_; rintro _ wf ⟨rfl, bf⟩; have BF := Lib.hid (vnx HB.out bf); obtain ⟨k0, k1, k2, k3, k4⟩ := box5_kept bf KB.out; clear bf) | (go_at_call 46; refine (decOk_spec _ _ _ HFT.out.n.1 HFT.out.n.2).mono ?_; rintro _ wf ⟨rfl, bf⟩; have BF := Lib.hid (vnx HB.out bf); obtain ⟨k0, k1, k2, k3, k4⟩ := box5_kept bf KB.out; clear bf) | (go_at_call 47; refine (textOk_spec _ _ HSZ.out).mono ?_; rintro _ wf ⟨rfl, bf⟩; have BF := Lib.hid (vnx HB.out bf); obtain ⟨k0, k1, k2, k3, k4⟩ := box5_kept bf KB.out; clear bf) | (go_at_call 43; refine (leaf_c _ _ _ _ _ _ _ _).mono ?_; rintro _ wl ⟨rfl, bl⟩))
                go_ret
                exact ⟨ret_bool (by rw [HFF.out]), by first | exact HB.out | exact vnx HB.out bl | exact vnx BF.out bl | exact BF.out⟩
              | true =>
                have HFF : Hid (_ = true) := Lib.hid (HOF.out.trans (by rw [h0, h1, h2, h3]; first | done | simp)); clear HOF
                go_wp2_with (first | (go_at_call 44; refine (l1In_c _ _ _ _).mono ?_; rintro e w' ⟨rfl, rfl⟩) | (go_at_call 45; refine (fltOk_spec _ _ _).mono ?_; rintro _ wf ⟨rfl, bf⟩; have BF := Lib.hid (vnx HB.out bf); obtain ⟨k0, k1, k2, k3, k4⟩ := box5_kept bf KB.out; clear bf) | (go_at_call 46; refine (decOk_spec _ _ _ HFT.out.n.1 HFT.out.n.2).mono ?_; rintro _ wf ⟨rfl, bf⟩; have BF := Lib.hid (vnx HB.out bf); obtain ⟨k0, k1, k2, k3, k4⟩ := box5_kept bf KB.out; clear bf) | (go_at_call 47; refine (textOk_spec _ _ HSZ.out).mono ?_; rintro _ wf ⟨rfl, bf⟩; have BF := Lib.hid (vnx HB.out bf); obtain ⟨k0, k1, k2, k3, k4⟩ := box5_kept bf KB.out; clear bf) | (go_at_call 43; refine (leaf_c _ _ _ _ _ _ _ _).mono ?_; rintro _ wl ⟨rfl, bl⟩))
                go_ret
                exact ⟨ret_bool (by rw [HFF.out]), by first | exact HB.out | exact vnx HB.out bl | exact vnx BF.out bl | exact BF.out⟩
      by_cases hk2 : t.kind = 2
      · have hof := HALL.out.trans (own_2 hk2)
        have HOF := Lib.hid hof; clear hof
        clear hk1
        cases h0 : inB t.n 0 1 with
        | false =>
          have HFF : Hid (_ = false) := Lib.hid (HOF.out.trans (by rw [h0]; first | done | simp)); clear HOF
          go_wp2_with (first | (go_at_call 44; refine (l1In_c _ _ _ _).mono ?_; rintro e w' ⟨rfl, rfl⟩) | (go_at_call 45; refine (fltOk_spec _ _ _).mono ?_; rintro _ wf ⟨rfl, bf⟩; have BF := Lib.hid (vnx HB.out bf); obtain ⟨k0, k1, k2, k3, k4⟩ := box5_kept bf KB.out; clear bf) | (go_at_call 46; refine (decOk_spec _ _ _ HFT.out.n.1 HFT.out.n.2).mono ?_; rintro _ wf ⟨rfl, bf⟩; have BF := Lib.hid (vnx HB.out bf); obtain ⟨k0, k1, k2, k3, k4⟩ := box5_kept bf KB.out; clear bf) | (go_at_call 47; refine (textOk_spec _ _ HSZ.out).mono ?_; rintro _ wf ⟨rfl, bf⟩; have BF := Lib.hid (vnx HB.out bf); obtain ⟨k0, k1, k2, k3, k4⟩ := box5_kept bf KB.out; clear bf) | (go_at_call 43; refine (leaf_c _ _ _ _ _ _ _ _).mono ?_; rintro _ wl ⟨rfl, bl⟩))
          go_ret
          exact ⟨ret_bool (by rw [HFF.out]), by first | exact HB.out | exact vnx HB.out bl | exact vnx BF.out bl | exact BF.out⟩
        | true =>
          cases h1 : (t.x == 0) with
          | false =>
            have HFF : Hid (_ = false) := Lib.hid (HOF.out.trans (by rw [h0, h1]; first | done | simp)); clear HOF
            go_wp2_with (first | (go_at_call 44; refine (l1In_c _ _ _ _).mono ?_; rintro e w' ⟨rfl, rfl⟩) | (go_at_call 45; refine (fltOk_spec _ _ _).mono ?_; rintro _ wf ⟨rfl, bf⟩; have BF := Lib.hid (vnx HB.out bf); obtain ⟨k0, k1, k2, k3, k4⟩ := box5_kept bf KB.out; clear bf) | (go_at_call 46; refine (decOk_spec _ _ _ HFT.out.n.1 HFT.out.n.2).mono ?_; rintro _ wf ⟨rfl, bf⟩; have BF := Lib.hid (vnx HB.out bf); obtain ⟨k0, k1, k2, k3, k4⟩ := box5_kept bf KB.out; clear bf) | (go_at_call 47; refine (textOk_spec _ _ HSZ.out).mono ?_; rintro _ wf ⟨rfl, bf⟩; have BF := Lib.hid (vnx HB.out bf); obtain ⟨k0, k1, k2, k3, k4⟩ := box5_kept bf KB.out; clear bf) | (go_at_call 43; refine (leaf_c _ _ _ _ _ _ _ _).mono ?_; rintro _ wl ⟨rfl, bl⟩))
            go_ret
            exact ⟨ret_bool (by rw [HFF.out]), by first | exact HB.out | exact vnx HB.out bl | exact vnx BF.out bl | exact BF.out⟩
          | true =>
            cases h2 : t.s.toList.isEmpty with
            | false =>
              have HFF : Hid (_ = false) := Lib.hid (HOF.out.trans (by rw [h0, h1, h2]; first | done | simp)); clear HOF
              go_wp2_with (first | (go_at_call 44; refine (l1In_c _ _ _ _).mono ?_; rintro e w' ⟨rfl, rfl⟩) | (go_at_call 45; refine (fltOk_spec _ _ _).mono ?_; rintro _ wf ⟨rfl, bf⟩; have BF := Lib.hid (vnx HB.out bf); obtain ⟨k0, k1, k2, k3, k4⟩ := box5_kept bf KB.out; clear bf) | (go_at_call 46; refine (decOk_spec _ _ _ HFT.out.n.1 HFT.out.n.2).mono ?_; rintro _ wf ⟨rfl, bf⟩; have BF := Lib.hid (vnx HB.out bf); obtain ⟨k0, k1, k2, k3, k4⟩ := box5_kept bf KB.out; clear bf) | (go_at_call 47; refine (textOk_spec _ _ HSZ.out).mono ?_; rintro _ wf ⟨rfl, bf⟩; have BF := Lib.hid (vnx HB.out bf); obtain ⟨k0, k1, k2, k3, k4⟩ := box5_kept bf KB.out; clear bf) | (go_at_call 43; refine (leaf_c _ _ _ _ _ _ _ _).mono ?_; rintro _ wl ⟨rfl, bl⟩))
              go_ret
              exact ⟨ret_bool (by rw [HFF.out]), by first | exact HB.out | exact vnx HB.out bl | exact vnx BF.out bl | exact BF.out⟩
            | true =>
              cases h3 : ((t.l.length : Int) == 0) with
              | false =>
                have HFF : Hid (_ = false) := Lib.hid (HOF.out.trans (by rw [h0, h1, h2, h3]; first | done | simp)); clear HOF
                go_wp2_with (first | (go_at_call 44; refine (l1In_c _ _ _ _).mono ?_; rintro e w' ⟨rfl, rfl⟩) | (go_at_call 45; refine (fltOk_spec _ _ _).mono ?_; rintro _ wf ⟨rfl, bf⟩; have BF := Lib.hid (vnx HB.out bf); obtain ⟨k0, k1, k2, k3, k4⟩ := box5_kept bf KB.out; clear bf) | (go_at_call 46; refine (decOk_spec _ _ _ HFT.out.n.1 HFT.out.n.2).mono ?_; rintro _ wf ⟨rfl, bf⟩; have BF := Lib.hid (vnx HB.out bf); obtain ⟨k0, k1, k2, k3, k4⟩ := box5_kept bf KB.out; clear bf) | (go_at_call 47; refine (textOk_spec _ _ HSZ.out).mono ?_; rintro _ wf ⟨rfl, bf⟩; have BF := Lib.hid (vnx HB.out bf); obtain ⟨k0, k1, k2, k3, k4⟩ := box5_kept bf KB.out; clear bf) | (go_at_call 43; refine (leaf_c _ _ _ _ _ _ _ _).mono ?_; rintro _ wl ⟨rfl, bl⟩))
                go_ret
                exact ⟨ret_bool (by rw [HFF.out]), by first | exact HB.out | exact vnx HB.out bl | exact vnx BF.out bl | exact BF.out⟩
              | true =>
                have HFF : Hid (_ = true) := Lib.hid (HOF.out.trans (by rw [h0, h1, h2, h3]; first | done | simp)); clear HOF
                go_wp2_with (first | (go_at_call 44; refine (l1In_c _ _ _ _).mono ?_; rintro e w' ⟨rfl, rfl⟩) | (go_at_call 45; refine (fltOk_spec _ _ _).mono ?_; rintro _ wf ⟨rfl, bf⟩; have BF := Lib.hid (vnx HB.out bf); obtain ⟨k0, k1, k2, k3, k4⟩ := box5_kept bf KB.out; clear bf) | (go_at_call 46; refine (decOk_spec _ _ _ HFT.out.n.1 HFT.out.n.2).mono ?_; rintro _ wf ⟨rfl, bf⟩; have BF := Lib.hid (vnx HB.out bf); obtain ⟨k0, k1, k2, k3, k4⟩ := box5_kept bf KB.out; clear bf) | (go_at_call 47; refine (textOk_spec _ _ HSZ.out).mono ?_; rintro _ wf ⟨rfl, bf⟩; have BF := Lib.hid (vnx HB.out bf); obtain ⟨k0, k1, k2, k3, k4⟩ := box5_kept bf KB.out; clear bf) | (go_at_call 43; refine (leaf_c _ _ _ _ _ _ _ _).mono ?_; rintro _ wl ⟨rfl, bl⟩))
                go_ret
                exact ⟨ret_bool (by rw [HFF.out]), by first | exact HB.out | exact vnx HB.out bl | exact vnx BF.out bl | exact BF.out⟩
      by_cases hk3 : t.kind = 3
      · have hof := HALL.out.trans (own_3 hk3)
        have HOF := Lib.hid hof; clear hof
        clear hk1 hk2
        cases h0 : inB t.n (-1000000000000000) 1000000000000000 with
        | false =>
          have HFF : Hid (_ = false) := Lib.hid (HOF.out.trans (by rw [h0]; first | done | simp)); clear HOF
          go_wp2_with (first | (go_at_call 44; refine (l1In_c _ _ _ _).mono ?_; rintro e w' ⟨rfl, rfl⟩) | (go_at_call 45; refine (fltOk_spec _ _ _).mono ?_; rintro _ wf ⟨rfl, bf⟩; have BF := Lib.hid (vnx HB.out bf); obtain ⟨k0, k1, k2, k3, k4⟩ := box5_kept bf KB.out; clear bf) | (go_at_call 46; refine (decOk_spec _ _ _ HFT.out.n.1 HFT.out.n.2).mono ?_; rintro _ wf ⟨rfl, bf⟩; have BF := Lib.hid (vnx HB.out bf); obtain ⟨k0, k1, k2, k3, k4⟩ := box5_kept bf KB.out; clear bf) | (go_at_call 47; refine (textOk_spec _ _ HSZ.out).mono ?_; rintro _ wf ⟨rfl, bf⟩; have BF := Lib.hid (vnx HB.out bf); obtain ⟨k0, k1, k2, k3, k4⟩ := box5_kept bf KB.out; clear bf) | (go_at_call 43; refine (leaf_c _ _ _ _ _ _ _ _).mono ?_; rintro _ wl ⟨rfl, bl⟩))
          go_ret
          exact ⟨ret_bool (by rw [HFF.out]), by first | exact HB.out | exact vnx HB.out bl | exact vnx BF.out bl | exact BF.out⟩
        | true =>
          cases h1 : (t.x == 0) with
          | false =>
            have HFF : Hid (_ = false) := Lib.hid (HOF.out.trans (by rw [h0, h1]; first | done | simp)); clear HOF
            go_wp2_with (first | (go_at_call 44; refine (l1In_c _ _ _ _).mono ?_; rintro e w' ⟨rfl, rfl⟩) | (go_at_call 45; refine (fltOk_spec _ _ _).mono ?_; rintro _ wf ⟨rfl, bf⟩; have BF := Lib.hid (vnx HB.out bf); obtain ⟨k0, k1, k2, k3, k4⟩ := box5_kept bf KB.out; clear bf) | (go_at_call 46; refine (decOk_spec _ _ _ HFT.out.n.1 HFT.out.n.2).mono ?_; rintro _ wf ⟨rfl, bf⟩; have BF := Lib.hid (vnx HB.out bf); obtain ⟨k0, k1, k2, k3, k4⟩ := box5_kept bf KB.out; clear bf) | (go_at_call 47; refine (textOk_spec _ _ HSZ.out).mono ?_; rintro _ wf ⟨rfl, bf⟩; have BF := Lib.hid (vnx HB.out bf); obtain ⟨k0, k1, k2, k3, k4⟩ := box5_kept bf KB.out; clear bf) | (go_at_call 43; refine (leaf_c _ _ _ _ _ _ _ _).mono ?_; rintro _ wl ⟨rfl, bl⟩))
            go_ret
            exact ⟨ret_bool (by rw [HFF.out]), by first | exact HB.out | exact vnx HB.out bl | exact vnx BF.out bl | exact BF.out⟩
          | true =>
            cases h2 : t.s.toList.isEmpty with
            | false =>
              have HFF : Hid (_ = false) := Lib.hid (HOF.out.trans (by rw [h0, h1, h2]; first | done | simp)); clear HOF
              go_wp2_with (first | (go_at_call 44; refine (l1In_c _ _ _ _).mono ?_; rintro e w' ⟨rfl, rfl⟩) | (go_at_call 45; refine (fltOk_spec _ _ _).mono ?_; rintro _ wf ⟨rfl, bf⟩; have BF := Lib.hid (vnx HB.out bf); obtain ⟨k0, k1, k2, k3, k4⟩ := box5_kept bf KB.out; clear bf) | (go_at_call 46; refine (decOk_spec _ _ _ HFT.out.n.1 HFT.out.n.2).mono ?_; rintro _ wf ⟨rfl, bf⟩; have BF := Lib.hid (vnx HB.out bf); obtain ⟨k0, k1, k2, k3, k4⟩ := box5_kept bf KB.out; clear bf) | (go_at_call 47; refine (textOk_spec _ _ HSZ.out).mono ?_; rintro _ wf ⟨rfl, bf⟩; have BF := Lib.hid (vnx HB.out bf); obtain ⟨k0, k1, k2, k3, k4⟩ := box5_kept bf KB.out; clear bf) | (go_at_call 43; refine (leaf_c _ _ _ _ _ _ _ _).mono ?_; rintro _ wl ⟨rfl, bl⟩))
              go_ret
              exact ⟨ret_bool (by rw [HFF.out]), by first | exact HB.out | exact vnx HB.out bl | exact vnx BF.out bl | exact BF.out⟩
            | true =>
              cases h3 : ((t.l.length : Int) == 0) with
              | false =>
                have HFF : Hid (_ = false) := Lib.hid (HOF.out.trans (by rw [h0, h1, h2, h3]; first | done | simp)); clear HOF
                go_wp2_with (first | (go_at_call 44; refine (l1In_c _ _ _ _).mono ?_; rintro e w' ⟨rfl, rfl⟩) | (go_at_call 45; refine (fltOk_spec _ _ _).mono ?_; rintro _ wf ⟨rfl, bf⟩; have BF := Lib.hid (vnx HB.out bf); obtain ⟨k0, k1, k2, k3, k4⟩ := box5_kept bf KB.out; clear bf) | (go_at_call 46; refine (decOk_spec _ _ _ HFT.out.n.1 HFT.out.n.2).mono ?_; rintro _ wf ⟨rfl, bf⟩; have BF := Lib.hid (vnx HB.out bf); obtain ⟨k0, k1, k2, k3, k4⟩ := box5_kept bf KB.out; clear bf) | (go_at_call 47; refine (textOk_spec _ _ HSZ.out).mono ?_; rintro _ wf ⟨rfl, bf⟩; have BF := Lib.hid (vnx HB.out bf); obtain ⟨k0, k1, k2, k3, k4⟩ := box5_kept bf KB.out; clear bf) | (go_at_call 43; refine (leaf_c _ _ _ _ _ _ _ _).mono ?_; rintro _ wl ⟨rfl, bl⟩))
                go_ret
                exact ⟨ret_bool (by rw [HFF.out]), by first | exact HB.out | exact vnx HB.out bl | exact vnx BF.out bl | exact BF.out⟩
              | true =>
                have HFF : Hid (_ = true) := Lib.hid (HOF.out.trans (by rw [h0, h1, h2, h3]; first | done | simp)); clear HOF
                go_wp2_with (first | (go_at_call 44; refine (l1In_c _ _ _ _).mono ?_; rintro e w' ⟨rfl, rfl⟩) | (go_at_call 45; refine (fltOk_spec _ _ _).mono ?_; rintro _ wf ⟨rfl, bf⟩; have BF := Lib.hid (vnx HB.out bf); obtain ⟨k0, k1, k2, k3, k4⟩ := box5_kept bf KB.out; clear bf) | (go_at_call 46; refine (decOk_spec _ _ _ HFT.out.n.1 HFT.out.n.2).mono ?_; rintro _ wf ⟨rfl, bf⟩; have BF := Lib.hid (vnx HB.out bf); obtain ⟨k0, k1, k2, k3, k4⟩ := box5_kept bf KB.out; clear bf) | (go_at_call 47; refine (textOk_spec _ _ HSZ.out).mono ?_; rintro _ wf ⟨rfl, bf⟩; have BF := Lib.hid (vnx HB.out bf); obtain ⟨k0, k1, k2, k3, k4⟩ := box5_kept bf KB.out; clear bf) | (go_at_call 43; refine (leaf_c _ _ _ _ _ _ _ _).mono ?_; rintro _ wl ⟨rfl, bl⟩))
                go_ret
                exact ⟨ret_bool (by rw [HFF.out]), by first | exact HB.out | exact vnx HB.out bl | exact vnx BF.out bl | exact BF.out⟩
      by_cases hk4 : t.kind = 4
      · have hof := HALL.out.trans (own_4 hk4)
        have HOF := Lib.hid hof; clear hof
        clear hk1 hk2 hk3
        cases h0 : fltOkF t.n t.x with
        | false =>
          have HFF : Hid (_ = false) := Lib.hid (HOF.out.trans (by rw [h0]; first | done | simp)); clear HOF
          go_wp2_with (first | (go_at_call 44; refine (l1In_c _ _ _ _).mono ?_; rintro e w' ⟨rfl, rfl⟩) | (go_at_call 45; refine (fltOk_spec _ _ _).mono ?_; rintro _ wf ⟨rfl, bf⟩; have BF := Lib.hid (vnx HB.out bf); obtain ⟨k0, k1, k2, k3, k4⟩ := box5_kept bf KB.out; clear bf) | (go_at_call 46; refine (decOk_spec _ _ _ HFT.out.n.1 HFT.out.n.2).mono ?_; rintro _ wf ⟨rfl, bf⟩; have BF := Lib.hid (vnx HB.out bf); obtain ⟨k0, k1, k2, k3, k4⟩ := box5_kept bf KB.out; clear bf) | (go_at_call 47; refine (textOk_spec _ _ HSZ.out).mono ?_; rintro _ wf ⟨rfl, bf⟩; have BF := Lib.hid (vnx HB.out bf); obtain ⟨k0, k1, k2, k3, k4⟩ := box5_kept bf KB.out; clear bf) | (go_at_call 43; refine (leaf_c _ _ _ _ _ _ _ _).mono ?_; rintro _ wl ⟨rfl, bl⟩))
          go_ret
          exact ⟨ret_bool (by rw [HFF.out]), by first | exact HB.out | exact vnx HB.out bl | exact vnx BF.out bl | exact BF.out⟩
        | true =>
          cases h1 : t.s.toList.isEmpty with
          | false =>
            have HFF : Hid (_ = false) := Lib.hid (HOF.out.trans (by rw [h0, h1]; first | done | simp)); clear HOF
            go_wp2_with (first | (go_at_call 44; refine (l1In_c _ _ _ _).mono ?_; rintro e w' ⟨rfl, rfl⟩) | (go_at_call 45; refine (fltOk_spec _ _ _).mono ?_; rintro _ wf ⟨rfl, bf⟩; have BF := Lib.hid (vnx HB.out bf); obtain ⟨k0, k1, k2, k3, k4⟩ := box5_kept bf KB.out; clear bf) | (go_at_call 46; refine (decOk_spec _ _ _ HFT.out.n.1 HFT.out.n.2).mono ?_; rintro _ wf ⟨rfl, bf⟩; have BF := Lib.hid (vnx HB.out bf); obtain ⟨k0, k1, k2, k3, k4⟩ := box5_kept bf KB.out; clear bf) | (go_at_call 47; refine (textOk_spec _ _ HSZ.out).mono ?_; rintro _ wf ⟨rfl, bf⟩; have BF := Lib.hid (vnx HB.out bf); obtain ⟨k0, k1, k2, k3, k4⟩ := box5_kept bf KB.out; clear bf) | (go_at_call 43; refine (leaf_c _ _ _ _ _ _ _ _).mono ?_; rintro _ wl ⟨rfl, bl⟩))
            go_ret
            exact ⟨ret_bool (by rw [HFF.out]), by first | exact HB.out | exact vnx HB.out bl | exact vnx BF.out bl | exact BF.out⟩
          | true =>
            cases h2 : ((t.l.length : Int) == 0) with
            | false =>
              have HFF : Hid (_ = false) := Lib.hid (HOF.out.trans (by rw [h0, h1, h2]; first | done | simp)); clear HOF
              go_wp2_with (first | (go_at_call 44; refine (l1In_c _ _ _ _).mono ?_; rintro e w' ⟨rfl, rfl⟩) | (go_at_call 45; refine (fltOk_spec _ _ _).mono ?_; rintro _ wf ⟨rfl, bf⟩; have BF := Lib.hid (vnx HB.out bf); obtain ⟨k0, k1, k2, k3, k4⟩ := box5_kept bf KB.out; clear bf) | (go_at_call 46; refine (decOk_spec _ _ _ HFT.out.n.1 HFT.out.n.2).mono ?_; rintro _ wf ⟨rfl, bf⟩; have BF := Lib.hid (vnx HB.out bf); obtain ⟨k0, k1, k2, k3, k4⟩ := box5_kept bf KB.out; clear bf) | (go_at_call 47; refine (textOk_spec _ _ HSZ.out).mono ?_; rintro _ wf ⟨rfl, bf⟩; have BF := Lib.hid (vnx HB.out bf); obtain ⟨k0, k1, k2, k3, k4⟩ := box5_kept bf KB.out; clear bf) | (go_at_call 43; refine (leaf_c _ _ _ _ _ _ _ _).mono ?_; rintro _ wl ⟨rfl, bl⟩))
              go_ret
              exact ⟨ret_bool (by rw [HFF.out]), by first | exact HB.out | exact vnx HB.out bl | exact vnx BF.out bl | exact BF.out⟩
            | true =>
              have HFF : Hid (_ = true) := Lib.hid (HOF.out.trans (by rw [h0, h1, h2]; first | done | simp)); clear HOF
              go_wp2_with (first | (go_at_call 44; refine (l1In_c _ _ _ _).mono ?_; rintro e w' ⟨rfl, rfl⟩) | (go_at_call 45; refine (fltOk_spec _ _ _).mono ?_; rintro _ wf ⟨rfl, bf⟩; have BF := Lib.hid (vnx HB.out bf); obtain ⟨k0, k1, k2, k3, k4⟩ := box5_kept bf KB.out; clear bf) | (go_at_call 46; refine (decOk_spec _ _ _ HFT.out.n.1 HFT.out.n.2).mono ?_; rintro _ wf ⟨rfl, bf⟩; have BF := Lib.hid (vnx HB.out bf); obtain ⟨k0, k1, k2, k3, k4⟩ := box5_kept bf KB.out; clear bf) | (go_at_call 47; refine (textOk_spec _ _ HSZ.out).mono ?_; rintro _ wf ⟨rfl, bf⟩; have BF := Lib.hid (vnx HB.out bf); obtain ⟨k0, k1, k2, k3, k4⟩ := box5_kept bf KB.out; clear bf) | (go_at_call 43; refine (leaf_c _ _ _ _ _ _ _ _).mono ?_; rintro _ wl ⟨rfl, bl⟩))
              go_ret
              exact ⟨ret_bool (by rw [HFF.out]), by first | exact HB.out | exact vnx HB.out bl | exact vnx BF.out bl | exact BF.out⟩
      by_cases hk5 : t.kind = 5
      · have hof := HALL.out.trans (own_5 hk5)
        have HOF := Lib.hid hof; clear hof
        clear hk1 hk2 hk3 hk4
        cases h0 : inB t.n 0 2 with
        | false =>
          have HFF : Hid (_ = false) := Lib.hid (HOF.out.trans (by rw [h0]; first | done | simp)); clear HOF
          go_wp2_with (first | (go_at_call 44; refine (l1In_c _ _ _ _).mono ?_; rintro e w' ⟨rfl, rfl⟩) | (go_at_call 45; refine (fltOk_spec _ _ _).mono ?_; rintro _ wf ⟨rfl, bf⟩; have BF := Lib.hid (vnx HB.out bf); obtain ⟨k0, k1, k2, k3, k4⟩ := box5_kept bf KB.out; clear bf) | (go_at_call 46; refine (decOk_spec _ _ _ HFT.out.n.1 HFT.out.n.2).mono ?_; rintro _ wf ⟨rfl, bf⟩; have BF := Lib.hid (vnx HB.out bf); obtain ⟨k0, k1, k2, k3, k4⟩ := box5_kept bf KB.out; clear bf) | (go_at_call 47; refine (textOk_spec _ _ HSZ.out).mono ?_; rintro _ wf ⟨rfl, bf⟩; have BF := Lib.hid (vnx HB.out bf); obtain ⟨k0, k1, k2, k3, k4⟩ := box5_kept bf KB.out; clear bf) | (go_at_call 43; refine (leaf_c _ _ _ _ _ _ _ _).mono ?_; rintro _ wl ⟨rfl, bl⟩))
          go_ret
          exact ⟨ret_bool (by rw [HFF.out]), by first | exact HB.out | exact vnx HB.out bl | exact vnx BF.out bl | exact BF.out⟩
        | true =>
          cases h1 : (t.x == 0) with
          | false =>
            have HFF : Hid (_ = false) := Lib.hid (HOF.out.trans (by rw [h0, h1]; first | done | simp)); clear HOF
            go_wp2_with (first | (go_at_call 44; refine (l1In_c _ _ _ _).mono ?_; rintro e w' ⟨rfl, rfl⟩) | (go_at_call 45; refine (fltOk_spec _ _ _).mono ?_; rintro _ wf ⟨rfl, bf⟩; have BF := Lib.hid (vnx HB.out bf); obtain ⟨k0, k1, k2, k3, k4⟩ := box5_kept bf KB.out; clear bf) | (go_at_call 46; refine (decOk_spec _ _ _ HFT.out.n.1 HFT.out.n.2).mono ?_; rintro _ wf ⟨rfl, bf⟩; have BF := Lib.hid (vnx HB.out bf); obtain ⟨k0, k1, k2, k3, k4⟩ := box5_kept bf KB.out; clear bf) | (go_at_call 47; refine (textOk_spec _ _ HSZ.out).mono ?_; rintro _ wf ⟨rfl, bf⟩; have BF := Lib.hid (vnx HB.out bf); obtain ⟨k0, k1, k2, k3, k4⟩ := box5_kept bf KB.out; clear bf) | (go_at_call 43; refine (leaf_c _ _ _ _ _ _ _ _).mono ?_; rintro _ wl ⟨rfl, bl⟩))
            go_ret
            exact ⟨ret_bool (by rw [HFF.out]), by first | exact HB.out | exact vnx HB.out bl | exact vnx BF.out bl | exact BF.out⟩
          | true =>
            cases h2 : t.s.toList.isEmpty with
            | false =>
              have HFF : Hid (_ = false) := Lib.hid (HOF.out.trans (by rw [h0, h1, h2]; first | done | simp)); clear HOF
              go_wp2_with (first | (go_at_call 44; refine (l1In_c _ _ _ _).mono ?_; rintro e w' ⟨rfl, rfl⟩) | (go_at_call 45; refine (fltOk_spec _ _ _).mono ?_; rintro _ wf ⟨rfl, bf⟩; have BF := Lib.hid (vnx HB.out bf); obtain ⟨k0, k1, k2, k3, k4⟩ := box5_kept bf KB.out; clear bf) | (go_at_call 46; refine (decOk_spec _ _ _ HFT.out.n.1 HFT.out.n.2).mono ?_; rintro _ wf ⟨rfl, bf⟩; have BF := Lib.hid (vnx HB.out bf); obtain ⟨k0, k1, k2, k3, k4⟩ := box5_kept bf KB.out; clear bf) | (go_at_call 47; refine (textOk_spec _ _ HSZ.out).mono ?_; rintro _ wf ⟨rfl, bf⟩; have BF := Lib.hid (vnx HB.out bf); obtain ⟨k0, k1, k2, k3, k4⟩ := box5_kept bf KB.out; clear bf) | (go_at_call 43; refine (leaf_c _ _ _ _ _ _ _ _).mono ?_; rintro _ wl ⟨rfl, bl⟩))
              go_ret
              exact ⟨ret_bool (by rw [HFF.out]), by first | exact HB.out | exact vnx HB.out bl | exact vnx BF.out bl | exact BF.out⟩
            | true =>
              cases h3 : ((t.l.length : Int) == 0) with
              | false =>
                have HFF : Hid (_ = false) := Lib.hid (HOF.out.trans (by rw [h0, h1, h2, h3]; first | done | simp)); clear HOF
                go_wp2_with (first | (go_at_call 44; refine (l1In_c _ _ _ _).mono ?_; rintro e w' ⟨rfl, rfl⟩) | (go_at_call 45; refine (fltOk_spec _ _ _).mono ?_; rintro _ wf ⟨rfl, bf⟩; have BF := Lib.hid (vnx HB.out bf); obtain ⟨k0, k1, k2, k3, k4⟩ := box5_kept bf KB.out; clear bf) | (go_at_call 46; refine (decOk_spec _ _ _ HFT.out.n.1 HFT.out.n.2).mono ?_; rintro _ wf ⟨rfl, bf⟩; have BF := Lib.hid (vnx HB.out bf); obtain ⟨k0, k1, k2, k3, k4⟩ := box5_kept bf KB.out; clear bf) | (go_at_call 47; refine (textOk_spec _ _ HSZ.out).mono ?_; rintro _ wf ⟨rfl, bf⟩; have BF := Lib.hid (vnx HB.out bf); obtain ⟨k0, k1, k2, k3, k4⟩ := box5_kept bf KB.out; clear bf) | (go_at_call 43; refine (leaf_c _ _ _ _ _ _ _ _).mono ?_; rintro _ wl ⟨rfl, bl⟩))
                go_ret
                exact ⟨ret_bool (by rw [HFF.out]), by first | exact HB.out | exact vnx HB.out bl | exact vnx BF.out bl | exact BF.out⟩
              | true =>
                have HFF : Hid (_ = true) := Lib.hid (HOF.out.trans (by rw [h0, h1, h2, h3]; first | done | simp)); clear HOF
                go_wp2_with (first | (go_at_call 44; refine (l1In_c _ _ _ _).mono ?_; rintro e w' ⟨rfl, rfl⟩) | (go_at_call 45; refine (fltOk_spec _ _ _).mono ?_; rintro _ wf ⟨rfl, bf⟩; have BF := Lib.hid (vnx HB.out bf); obtain ⟨k0, k1, k2, k3, k4⟩ := box5_kept bf KB.out; clear bf) | (go_at_call 46; refine (decOk_spec _ _ _ HFT.out.n.1 HFT.out.n.2).mono ?_; rintro _ wf ⟨rfl, bf⟩; have BF := Lib.hid (vnx HB.out bf); obtain ⟨k0, k1, k2, k3, k4⟩ := box5_kept bf KB.out; clear bf) | (go_at_call 47; refine (textOk_spec _ _ HSZ.out).mono ?_; rintro _ wf ⟨rfl, bf⟩; have BF := Lib.hid (vnx HB.out bf); obtain ⟨k0, k1, k2, k3, k4⟩ := box5_kept bf KB.out; clear bf) | (go_at_call 43; refine (leaf_c _ _ _ _ _ _ _ _).mono ?_; rintro _ wl ⟨rfl, bl⟩))
                go_ret
                exact ⟨ret_bool (by rw [HFF.out]), by first | exact HB.out | exact vnx HB.out bl | exact vnx BF.out bl | exact BF.out⟩
      by_cases hk6 : t.kind = 6
      · have hof := HALL.out.trans (own_6 hk6)
        have HOF := Lib.hid hof; clear hof
        clear hk1 hk2 hk3 hk4 hk5
        cases h0 : decOkB t.n t.x with
        | false =>
          have HFF : Hid (_ = false) := Lib.hid (HOF.out.trans (by rw [h0]; first | done | simp)); clear HOF
          go_wp2_with (first | (go_at_call 44; refine (l1In_c _ _ _ _).mono ?_; rintro e w' ⟨rfl, rfl⟩) | (go_at_call 45; refine (fltOk_spec _ _ _).mono ?_; rintro _ wf ⟨rfl, bf⟩; have BF := Lib.hid (vnx HB.out bf); obtain ⟨k0, k1, k2, k3, k4⟩ := box5_kept bf KB.out; clear bf) | (go_at_call 46; refine (decOk_spec _ _ _ HFT.out.n.1 HFT.out.n.2).mono ?_; rintro _ wf ⟨rfl, bf⟩; have BF := Lib.hid (vnx HB.out bf); obtain ⟨k0, k1, k2, k3, k4⟩ := box5_kept bf KB.out; clear bf) | (go_at_call 47; refine (textOk_spec _ _ HSZ.out).mono ?_; rintro _ wf ⟨rfl, bf⟩; have BF := Lib.hid (vnx HB.out bf); obtain ⟨k0, k1, k2, k3, k4⟩ := box5_kept bf KB.out; clear bf) | (go_at_call 43; refine (leaf_c _ _ _ _ _ _ _ _).mono ?_; rintro _ wl ⟨rfl, bl⟩))
          go_ret
          exact ⟨ret_bool (by rw [HFF.out]), by first | exact HB.out | exact vnx HB.out bl | exact vnx BF.out bl | exact BF.out⟩
        | true =>
          cases h1 : decide (t.x < 0) with
          | false =>
            have HFF : Hid (_ = false) := Lib.hid (HOF.out.trans (by rw [h0, h1]; first | done | simp)); clear HOF
            go_wp2_with (first | (go_at_call 44; refine (l1In_c _ _ _ _).mono ?_; rintro e w' ⟨rfl, rfl⟩) | (go_at_call 45; refine (fltOk_spec _ _ _).mono ?_; rintro _ wf ⟨rfl, bf⟩; have BF := Lib.hid (vnx HB.out bf); obtain ⟨k0, k1, k2, k3, k4⟩ := box5_kept bf KB.out; clear bf) | (go_at_call 46; refine (decOk_spec _ _ _ HFT.out.n.1 HFT.out.n.2).mono ?_; rintro _ wf ⟨rfl, bf⟩; have BF := Lib.hid (vnx HB.out bf); obtain ⟨k0, k1, k2, k3, k4⟩ := box5_kept bf KB.out; clear bf) | (go_at_call 47; refine (textOk_spec _ _ HSZ.out).mono ?_; rintro _ wf ⟨rfl, bf⟩; have BF := Lib.hid (vnx HB.out bf); obtain ⟨k0, k1, k2, k3, k4⟩ := box5_kept bf KB.out; clear bf) | (go_at_call 43; refine (leaf_c _ _ _ _ _ _ _ _).mono ?_; rintro _ wl ⟨rfl, bl⟩))
            go_ret
            exact ⟨ret_bool (by rw [HFF.out]), by first | exact HB.out | exact vnx HB.out bl | exact vnx BF.out bl | exact BF.out⟩
          | true =>
            cases h2 : t.s.toList.isEmpty with
            | false =>
              have HFF : Hid (_ = false) := Lib.hid (HOF.out.trans (by rw [h0, h1, h2]; first | done | simp)); clear HOF
              go_wp2_with (first | (go_at_call 44; refine (l1In_c _ _ _ _).mono ?_; rintro e w' ⟨rfl, rfl⟩) | (go_at_call 45; refine (fltOk_spec _ _ _).mono ?_; rintro _ wf ⟨rfl, bf⟩; have BF := Lib.hid (vnx HB.out bf); obtain ⟨k0, k1, k2, k3, k4⟩ := box5_kept bf KB.out; clear bf) | (go_at_call 46; refine (decOk_spec _ _ _ HFT.out.n.1 HFT.out.n.2).mono ?_; rintro _ wf ⟨rfl, bf⟩; have BF := Lib.hid (vnx HB.out bf); obtain ⟨k0, k1, k2, k3, k4⟩ := box5_kept bf KB.out; clear bf) | (go_at_call 47; refine (textOk_spec _ _ HSZ.out).mono ?_; rintro _ wf ⟨rfl, bf⟩; have BF := Lib.hid (vnx HB.out bf); obtain ⟨k0, k1, k2, k3, k4⟩ := box5_kept bf KB.out; clear bf) | (go_at_call 43; refine (leaf_c _ _ _ _ _ _ _ _).mono ?_; rintro _ wl ⟨rfl, bl⟩))
              go_ret
              exact ⟨ret_bool (by rw [HFF.out]), by first | exact HB.out | exact vnx HB.out bl | exact vnx BF.out bl | exact BF.out⟩
            | true =>
              cases h3 : ((t.l.length : Int) == 0) with
              | false =>
                have HFF : Hid (_ = false) := Lib.hid (HOF.out.trans (by rw [h0, h1, h2, h3]; first | done | simp)); clear HOF
                go_wp2_with (first | (go_at_call 44; refine (l1In_c _ _ _ _).mono ?_; rintro e w' ⟨rfl, rfl⟩) | (go_at_call 45; refine (fltOk_spec _ _ _).mono ?_; rintro _ wf ⟨rfl, bf⟩; have BF := Lib.hid (vnx HB.out bf); obtain ⟨k0, k1, k2, k3, k4⟩ := box5_kept bf KB.out; clear bf) | (go_at_call 46; refine (decOk_spec _ _ _ HFT.out.n.1 HFT.out.n.2).mono ?_; rintro _ wf ⟨rfl, bf⟩; have BF := Lib.hid (vnx HB.out bf); obtain ⟨k0, k1, k2, k3, k4⟩ := box5_kept bf KB.out; clear bf) | (go_at_call 47; refine (textOk_spec _ _ HSZ.out).mono ?_; rintro _ wf ⟨rfl, bf⟩; have BF := Lib.hid (vnx HB.out bf); obtain ⟨k0, k1, k2, k3, k4⟩ := box5_kept bf KB.out; clear bf) | (go_at_call 43; refine (leaf_c _ _ _ _ _ _ _ _).mono ?_; rintro _ wl ⟨rfl, bl⟩))
                go_ret
                exact ⟨ret_bool (by rw [HFF.out]), by first | exact HB.out | exact vnx HB.out bl | exact vnx BF.out bl | exact BF.out⟩
              | true =>
                have HFF : Hid (_ = true) := Lib.hid (HOF.out.trans (by rw [h0, h1, h2, h3]; first | done | simp)); clear HOF
                go_wp2_with (first | (go_at_call 44; refine (l1In_c _ _ _ _).mono ?_; rintro e w' ⟨rfl, rfl⟩) | (go_at_call 45; refine (fltOk_spec _ _ _).mono ?_; rintro _ wf ⟨rfl, bf⟩; have BF := Lib.hid (vnx HB.out bf); obtain ⟨k0, k1, k2, k3, k4⟩ := box5_kept bf KB.out; clear bf) | (go_at_call 46; refine (decOk_spec _ _ _ HFT.out.n.1 HFT.out.n.2).mono ?_; rintro _ wf ⟨rfl, bf⟩; have BF := Lib.hid (vnx HB.out bf); obtain ⟨k0, k1, k2, k3, k4⟩ := box5_kept bf KB.out; clear bf) | (go_at_call 47; refine (textOk_spec _ _ HSZ.out).mono ?_; rintro _ wf ⟨rfl, bf⟩; have BF := Lib.hid (vnx HB.out bf); obtain ⟨k0, k1, k2, k3, k4⟩ := box5_kept bf KB.out; clear bf) | (go_at_call 43; refine (leaf_c _ _ _ _ _ _ _ _).mono ?_; rintro _ wl ⟨rfl, bl⟩))
                go_ret
                exact ⟨ret_bool (by rw [HFF.out]), by first | exact HB.out | exact vnx HB.out bl | exact vnx BF.out bl | exact BF.out⟩
      by_cases hk7 : t.kind = 7
      · have hof := HALL.out.trans (own_7 hk7)
        have HOF := Lib.hid hof; clear hof
        clear hk1 hk2 hk3 hk4 hk5 hk6
        cases h0 : (t.n == 0) with
        | false =>
          have HFF : Hid (_ = false) := Lib.hid (HOF.out.trans (by rw [h0]; first | done | simp)); clear HOF
          go_wp2_with (first | (go_at_call 44; refine (l1In_c _ _ _ _).mono ?_; rintro e w' ⟨rfl, rfl⟩) | (go_at_call 45; refine (fltOk_spec _ _ _).mono ?_; rintro _ wf ⟨rfl, bf⟩; have BF := Lib.hid (vnx HB.out bf); obtain ⟨k0, k1, k2, k3, k4⟩ := box5_kept bf KB.out; clear bf) | (go_at_call 46; refine (decOk_spec _ _ _ HFT.out.n.1 HFT.out.n.2).mono ?_; rintro _ wf ⟨rfl, bf⟩; have BF := Lib.hid (vnx HB.out bf); obtain ⟨k0, k1, k2, k3, k4⟩ := box5_kept bf KB.out; clear bf) | (go_at_call 47; refine (textOk_spec _ _ HSZ.out).mono ?_; rintro _ wf ⟨rfl, bf⟩; have BF := Lib.hid (vnx HB.out bf); obtain ⟨k0, k1, k2, k3, k4⟩ := box5_kept bf KB.out; clear bf) | (go_at_call 43; refine (leaf_c _ _ _ _ _ _ _ _).mono ?_; rintro _ wl ⟨rfl, bl⟩))
          go_ret
          exact ⟨ret_bool (by rw [HFF.out]), by first | exact HB.out | exact vnx HB.out bl | exact vnx BF.out bl | exact BF.out⟩
        | true =>
          cases h1 : (t.x == 0) with
          | false =>
            have HFF : Hid (_ = false) := Lib.hid (HOF.out.trans (by rw [h0, h1]; first | done | simp)); clear HOF
            go_wp2_with (first | (go_at_call 44; refine (l1In_c _ _ _ _).mono ?_; rintro e w' ⟨rfl, rfl⟩) | (go_at_call 45; refine (fltOk_spec _ _ _).mono ?_; rintro _ wf ⟨rfl, bf⟩; have BF := Lib.hid (vnx HB.out bf); obtain ⟨k0, k1, k2, k3, k4⟩ := box5_kept bf KB.out; clear bf) | (go_at_call 46; refine (decOk_spec _ _ _ HFT.out.n.1 HFT.out.n.2).mono ?_; rintro _ wf ⟨rfl, bf⟩; have BF := Lib.hid (vnx HB.out bf); obtain ⟨k0, k1, k2, k3, k4⟩ := box5_kept bf KB.out; clear bf) | (go_at_call 47; refine (textOk_spec _ _ HSZ.out).mono ?_; rintro _ wf ⟨rfl, bf⟩; have BF := Lib.hid (vnx HB.out bf); obtain ⟨k0, k1, k2, k3, k4⟩ := box5_kept bf KB.out; clear bf) | (go_at_call 43; refine (leaf_c _ _ _ _ _ _ _ _).mono ?_; rintro _ wl ⟨rfl, bl⟩))
            go_ret
            exact ⟨ret_bool (by rw [HFF.out]), by first | exact HB.out | exact vnx HB.out bl | exact vnx BF.out bl | exact BF.out⟩
          | true =>
            cases h2 : Lib.validD t.s.data.toList with
            | false =>
              have HFF : Hid (_ = false) := Lib.hid (HOF.out.trans (by rw [h0, h1, h2]; first | done | simp)); clear HOF
              go_wp2_with (first | (go_at_call 44; refine (l1In_c _ _ _ _).mono ?_; rintro e w' ⟨rfl, rfl⟩) | (go_at_call 45; refine (fltOk_spec _ _ _).mono ?_; rintro _ wf ⟨rfl, bf⟩; have BF := Lib.hid (vnx HB.out bf); obtain ⟨k0, k1, k2, k3, k4⟩ := box5_kept bf KB.out; clear bf) | (go_at_call 46; refine (decOk_spec _ _ _ HFT.out.n.1 HFT.out.n.2).mono ?_; rintro _ wf ⟨rfl, bf⟩; have BF := Lib.hid (vnx HB.out bf); obtain ⟨k0, k1, k2, k3, k4⟩ := box5_kept bf KB.out; clear bf) | (go_at_call 47; refine (textOk_spec _ _ HSZ.out).mono ?_; rintro _ wf ⟨rfl, bf⟩; have BF := Lib.hid (vnx HB.out bf); obtain ⟨k0, k1, k2, k3, k4⟩ := box5_kept bf KB.out; clear bf) | (go_at_call 43; refine (leaf_c _ _ _ _ _ _ _ _).mono ?_; rintro _ wl ⟨rfl, bl⟩))
              go_ret
              exact ⟨ret_bool (by rw [HFF.out]), by first | exact HB.out | exact vnx HB.out bl | exact vnx BF.out bl | exact BF.out⟩
            | true =>
              cases h3 : ((t.l.length : Int) == 0) with
              | false =>
                have HFF : Hid (_ = false) := Lib.hid (HOF.out.trans (by rw [h0, h1, h2, h3]; first | done | simp)); clear HOF
                go_wp2_with (first | (go_at_call 44; refine (l1In_c _ _ _ _).mono ?_; rintro e w' ⟨rfl, rfl⟩) | (go_at_call 45; refine (fltOk_spec _ _ _).mono ?_; rintro _ wf ⟨rfl, bf⟩; have BF := Lib.hid (vnx HB.out bf); obtain ⟨k0, k1, k2, k3, k4⟩ := box5_kept bf KB.out; clear bf) | (go_at_call 46; refine (decOk_spec _ _ _ HFT.out.n.1 HFT.out.n.2).mono ?_; rintro _ wf ⟨rfl, bf⟩; have BF := Lib.hid (vnx HB.out bf); obtain ⟨k0, k1, k2, k3, k4⟩ := box5_kept bf KB.out; clear bf) | (go_at_call 47; refine (textOk_spec _ _ HSZ.out).mono ?_; rintro _ wf ⟨rfl, bf⟩; have BF := Lib.hid (vnx HB.out bf); obtain ⟨k0, k1, k2, k3, k4⟩ := box5_kept bf KB.out; clear bf) | (go_at_call 43; refine (leaf_c _ _ _ _ _ _ _ _).mono ?_; rintro _ wl ⟨rfl, bl⟩))
                go_ret
                exact ⟨ret_bool (by rw [HFF.out]), by first | exact HB.out | exact vnx HB.out bl | exact vnx BF.out bl | exact BF.out⟩
              | true =>
                have HFF : Hid (_ = true) := Lib.hid (HOF.out.trans (by rw [h0, h1, h2, h3]; first | done | simp)); clear HOF
                go_wp2_with (first | (go_at_call 44; refine (l1In_c _ _ _ _).mono ?_; rintro e w' ⟨rfl, rfl⟩) | (go_at_call 45; refine (fltOk_spec _ _ _).mono ?_; rintro _ wf ⟨rfl, bf⟩; have BF := Lib.hid (vnx HB.out bf); obtain ⟨k0, k1, k2, k3, k4⟩ := box5_kept bf KB.out; clear bf) | (go_at_call 46; refine (decOk_spec _ _ _ HFT.out.n.1 HFT.out.n.2).mono ?_; rintro _ wf ⟨rfl, bf⟩; have BF := Lib.hid (vnx HB.out bf); obtain ⟨k0, k1, k2, k3, k4⟩ := box5_kept bf KB.out; clear bf) | (go_at_call 47; refine (textOk_spec _ _ HSZ.out).mono ?_; rintro _ wf ⟨rfl, bf⟩; have BF := Lib.hid (vnx HB.out bf); obtain ⟨k0, k1, k2, k3, k4⟩ := box5_kept bf KB.out; clear bf) | (go_at_call 43; refine (leaf_c _ _ _ _ _ _ _ _).mono ?_; rintro _ wl ⟨rfl, bl⟩))
                go_ret
                exact ⟨ret_bool (by rw [HFF.out]), by first | exact HB.out | exact vnx HB.out bl | exact vnx BF.out bl | exact BF.out⟩
      by_cases hk8 : t.kind = 8
      · have hof := HALL.out.trans (own_8 hk8)
        have HOF := Lib.hid hof; clear hof
        clear hk1 hk2 hk3 hk4 hk5 hk6 hk7
        cases h0 : (t.n == 0) with
        | false =>
          have HFF : Hid (_ = false) := Lib.hid (HOF.out.trans (by rw [h0]; first | done | simp)); clear HOF
          go_wp2_with (first | (go_at_call 44; refine (l1In_c _ _ _ _).mono ?_; rintro e w' ⟨rfl, rfl⟩) | (go_at_call 45; refine (fltOk_spec _ _ _).mono ?_; rintro _ wf ⟨rfl, bf⟩; have BF := Lib.hid (vnx HB.out bf); obtain ⟨k0, k1, k2, k3, k4⟩ := box5_kept bf KB.out; clear bf) | (go_at_call 46; refine (decOk_spec _ _ _ HFT.out.n.1 HFT.out.n.2).mono ?_; rintro _ wf ⟨rfl, bf⟩; have BF := Lib.hid (vnx HB.out bf); obtain ⟨k0, k1, k2, k3, k4⟩ := box5_kept bf KB.out; clear bf) | (go_at_call 47; refine (textOk_spec _ _ HSZ.out).mono ?_; rintro _ wf ⟨rfl, bf⟩; have BF := Lib.hid (vnx HB.out bf); obtain ⟨k0, k1, k2, k3, k4⟩ := box5_kept bf KB.out; clear bf) | (go_at_call 43; refine (leaf_c _ _ _ _ _ _ _ _).mono ?_; rintro _ wl ⟨rfl, bl⟩))
          go_ret
          exact ⟨ret_bool (by rw [HFF.out]), by first | exact HB.out | exact vnx HB.out bl | exact vnx BF.out bl | exact BF.out⟩
        | true =>
          cases h1 : (t.x == 0) with
          | false =>
            have HFF : Hid (_ = false) := Lib.hid (HOF.out.trans (by rw [h0, h1]; first | done | simp)); clear HOF
            go_wp2_with (first | (go_at_call 44; refine (l1In_c _ _ _ _).mono ?_; rintro e w' ⟨rfl, rfl⟩) | (go_at_call 45; refine (fltOk_spec _ _ _).mono ?_; rintro _ wf ⟨rfl, bf⟩; have BF := Lib.hid (vnx HB.out bf); obtain ⟨k0, k1, k2, k3, k4⟩ := box5_kept bf KB.out; clear bf) | (go_at_call 46; refine (decOk_spec _ _ _ HFT.out.n.1 HFT.out.n.2).mono ?_; rintro _ wf ⟨rfl, bf⟩; have BF := Lib.hid (vnx HB.out bf); obtain ⟨k0, k1, k2, k3, k4⟩ := box5_kept bf KB.out; clear bf) | (go_at_call 47; refine (textOk_spec _ _ HSZ.out).mono ?_; rintro _ wf ⟨rfl, bf⟩; have BF := Lib.hid (vnx HB.out bf); obtain ⟨k0, k1, k2, k3, k4⟩ := box5_kept bf KB.out; clear bf) | (go_at_call 43; refine (leaf_c _ _ _ _ _ _ _ _).mono ?_; rintro _ wl ⟨rfl, bl⟩))
            go_ret
            exact ⟨ret_bool (by rw [HFF.out]), by first | exact HB.out | exact vnx HB.out bl | exact vnx BF.out bl | exact BF.out⟩
          | true =>
            cases h2 : ((t.l.length : Int) == 0) with
            | false =>
              have HFF : Hid (_ = false) := Lib.hid (HOF.out.trans (by rw [h0, h1, h2]; first | done | simp)); clear HOF
              go_wp2_with (first | (go_at_call 44; refine (l1In_c _ _ _ _).mono ?_; rintro e w' ⟨rfl, rfl⟩) | (go_at_call 45; refine (fltOk_spec _ _ _).mono ?_; rintro _ wf ⟨rfl, bf⟩; have BF := Lib.hid (vnx HB.out bf); obtain ⟨k0, k1, k2, k3, k4⟩ := box5_kept bf KB.out; clear bf) | (go_at_call 46; refine (decOk_spec _ _ _ HFT.out.n.1 HFT.out.n.2).mono ?_; rintro _ wf ⟨rfl, bf⟩; have BF := Lib.hid (vnx HB.out bf); obtain ⟨k0, k1, k2, k3, k4⟩ := box5_kept bf KB.out; clear bf) | (go_at_call 47; refine (textOk_spec _ _ HSZ.out).mono ?_; rintro _ wf ⟨rfl, bf⟩; have BF := Lib.hid (vnx HB.out bf); obtain ⟨k0, k1, k2, k3, k4⟩ := box5_kept bf KB.out; clear bf) | (go_at_call 43; refine (leaf_c _ _ _ _ _ _ _ _).mono ?_; rintro _ wl ⟨rfl, bl⟩))
              go_ret
              exact ⟨ret_bool (by rw [HFF.out]), by first | exact HB.out | exact vnx HB.out bl | exact vnx BF.out bl | exact BF.out⟩
            | true =>
              have HFF : Hid (_ = true) := Lib.hid (HOF.out.trans (by rw [h0, h1, h2]; first | done | simp)); clear HOF
              go_wp2_with (first | (go_at_call 44; refine (l1In_c _ _ _ _).mono ?_; rintro e w' ⟨rfl, rfl⟩) | (go_at_call 45; refine (fltOk_spec _ _ _).mono ?_; rintro _ wf ⟨rfl, bf⟩; have BF := Lib.hid (vnx HB.out bf); obtain ⟨k0, k1, k2, k3, k4⟩ := box5_kept bf KB.out; clear bf) | (go_at_call 46; refine (decOk_spec _ _ _ HFT.out.n.1 HFT.out.n.2).mono ?_; rintro _ wf ⟨rfl, bf⟩; have BF := Lib.hid (vnx HB.out bf); obtain ⟨k0, k1, k2, k3, k4⟩ := box5_kept bf KB.out; clear bf) | (go_at_call 47; refine (textOk_spec _ _ HSZ.out).mono ?_; rintro _ wf ⟨rfl, bf⟩; have BF := Lib.hid (vnx HB.out bf); obtain ⟨k0, k1, k2, k3, k4⟩ := box5_kept bf KB.out; clear bf) | (go_at_call 43; refine (leaf_c _ _ _ _ _ _ _ _).mono ?_; rintro _ wl ⟨rfl, bl⟩))
              go_ret
              exact ⟨ret_bool (by rw [HFF.out]), by first | exact HB.out | exact vnx HB.out bl | exact vnx BF.out bl | exact BF.out⟩
      by_cases hk9 : t.kind = 9
      · have hof := HALL.out.trans (own_9 hk9)
        have HOF := Lib.hid hof; clear hof
        clear hk1 hk2 hk3 hk4 hk5 hk6 hk7 hk8
        cases h0 : (t.n == 0) with
        | false =>
          have HFF : Hid (_ = false) := Lib.hid (HOF.out.trans (by rw [h0]; first | done | simp)); clear HOF
          go_wp2_with (first | (go_at_call 44; refine (l1In_c _ _ _ _).mono ?_; rintro e w' ⟨rfl, rfl⟩) | (go_at_call 45; refine (fltOk_spec _ _ _).mono ?_; rintro _ wf ⟨rfl, bf⟩; have BF := Lib.hid (vnx HB.out bf); obtain ⟨k0, k1, k2, k3, k4⟩ := box5_kept bf KB.out; clear bf) | (go_at_call 46; refine (decOk_spec _ _ _ HFT.out.n.1 HFT.out.n.2).mono ?_; rintro _ wf ⟨rfl, bf⟩; have BF := Lib.hid (vnx HB.out bf); obtain ⟨k0, k1, k2, k3, k4⟩ := box5_kept bf KB.out; clear bf) | (go_at_call 47; refine (textOk_spec _ _ HSZ.out).mono ?_; rintro _ wf ⟨rfl, bf⟩; have BF := Lib.hid (vnx HB.out bf); obtain ⟨k0, k1, k2, k3, k4⟩ := box5_kept bf KB.out; clear bf) | (go_at_call 43; refine (leaf_c _ _ _ _ _ _ _ _).mono ?_; rintro _ wl ⟨rfl, bl⟩))
          go_ret
          exact ⟨ret_bool (by rw [HFF.out]), by first | exact HB.out | exact vnx HB.out bl | exact vnx BF.out bl | exact BF.out⟩
        | true =>
          cases h1 : (t.x == 0) with
          | false =>
            have HFF : Hid (_ = false) := Lib.hid (HOF.out.trans (by rw [h0, h1]; first | done | simp)); clear HOF
            go_wp2_with (first | (go_at_call 44; refine (l1In_c _ _ _ _).mono ?_; rintro e w' ⟨rfl, rfl⟩) | (go_at_call 45; refine (fltOk_spec _ _ _).mono ?_; rintro _ wf ⟨rfl, bf⟩; have BF := Lib.hid (vnx HB.out bf); obtain ⟨k0, k1, k2, k3, k4⟩ := box5_kept bf KB.out; clear bf) | (go_at_call 46; refine (decOk_spec _ _ _ HFT.out.n.1 HFT.out.n.2).mono ?_; rintro _ wf ⟨rfl, bf⟩; have BF := Lib.hid (vnx HB.out bf); obtain ⟨k0, k1, k2, k3, k4⟩ := box5_kept bf KB.out; clear bf) | (go_at_call 47; refine (textOk_spec _ _ HSZ.out).mono ?_; rintro _ wf ⟨rfl, bf⟩; have BF := Lib.hid (vnx HB.out bf); obtain ⟨k0, k1, k2, k3, k4⟩ := box5_kept bf KB.out; clear bf) | (go_at_call 43; refine (leaf_c _ _ _ _ _ _ _ _).mono ?_; rintro _ wl ⟨rfl, bl⟩))
            go_ret
            exact ⟨ret_bool (by rw [HFF.out]), by first | exact HB.out | exact vnx HB.out bl | exact vnx BF.out bl | exact BF.out⟩
          | true =>
            cases h2 : t.s.toList.isEmpty with
            | false =>
              have HFF : Hid (_ = false) := Lib.hid (HOF.out.trans (by rw [h0, h1, h2]; first | done | simp)); clear HOF
              go_wp2_with (first | (go_at_call 44; refine (l1In_c _ _ _ _).mono ?_; rintro e w' ⟨rfl, rfl⟩) | (go_at_call 45; refine (fltOk_spec _ _ _).mono ?_; rintro _ wf ⟨rfl, bf⟩; have BF := Lib.hid (vnx HB.out bf); obtain ⟨k0, k1, k2, k3, k4⟩ := box5_kept bf KB.out; clear bf) | (go_at_call 46; refine (decOk_spec _ _ _ HFT.out.n.1 HFT.out.n.2).mono ?_; rintro _ wf ⟨rfl, bf⟩; have BF := Lib.hid (vnx HB.out bf); obtain ⟨k0, k1, k2, k3, k4⟩ := box5_kept bf KB.out; clear bf) | (go_at_call 47; refine (textOk_spec _ _ HSZ.out).mono ?_; rintro _ wf ⟨rfl, bf⟩; have BF := Lib.hid (vnx HB.out bf); obtain ⟨k0, k1, k2, k3, k4⟩ := box5_kept bf KB.out; clear bf) | (go_at_call 43; refine (leaf_c _ _ _ _ _ _ _ _).mono ?_; rintro _ wl ⟨rfl, bl⟩))
              go_ret
              exact ⟨ret_bool (by rw [HFF.out]), by first | exact HB.out | exact vnx HB.out bl | exact vnx BF.out bl | exact BF.out⟩
            | true =>
              have HFF : Hid (_ = true) := Lib.hid (HOF.out.trans (by rw [h0, h1, h2]; first | done | simp)); clear HOF
              go_wp2_with (first | (go_at_call 44; refine (l1In_c _ _ _ _).mono ?_; rintro e w' ⟨rfl, rfl⟩) | (go_at_call 45; refine (fltOk_spec _ _ _).mono ?_; rintro _ wf ⟨rfl, bf⟩; have BF := Lib.hid (vnx HB.out bf); obtain ⟨k0, k1, k2, k3, k4⟩ := box5_kept bf KB.out; clear bf) | (go_at_call 46; refine (decOk_spec _ _ _ HFT.out.n.1 HFT.out.n.2).mono ?_; rintro _ wf ⟨rfl, bf⟩; have BF := Lib.hid (vnx HB.out bf); obtain ⟨k0, k1, k2, k3, k4⟩ := box5_kept bf KB.out; clear bf) | (go_at_call 47; refine (textOk_spec _ _ HSZ.out).mono ?_; rintro _ wf ⟨rfl, bf⟩; have BF := Lib.hid (vnx HB.out bf); obtain ⟨k0, k1, k2, k3, k4⟩ := box5_kept bf KB.out; clear bf) | (go_at_call 43; refine (leaf_c _ _ _ _ _ _ _ _).mono ?_; rintro _ wl ⟨rfl, bl⟩))
              go_ret
              exact ⟨ret_bool (by rw [HFF.out]), by first | exact HB.out | exact vnx HB.out bl | exact vnx BF.out bl | exact BF.out⟩
      by_cases hk10 : t.kind = 10
      · have hof := HALL.out.trans (own_10 hk10)
        have HOF := Lib.hid hof; clear hof
        clear hk1 hk2 hk3 hk4 hk5 hk6 hk7 hk8 hk9
        cases h0 : (t.n == 0) with
        | false =>
          have HFF : Hid (_ = false) := Lib.hid (HOF.out.trans (by rw [h0]; first | done | simp)); clear HOF
          go_wp2_with (first | (go_at_call 44; refine (l1In_c _ _ _ _).mono ?_; rintro e w' ⟨rfl, rfl⟩) | (go_at_call 45; refine (fltOk_spec _ _ _).mono ?_; rintro _ wf ⟨rfl, bf⟩; have BF := Lib.hid (vnx HB.out bf); obtain ⟨k0, k1, k2, k3, k4⟩ := box5_kept bf KB.out; clear bf) | (go_at_call 46; refine (decOk_spec _ _ _ HFT.out.n.1 HFT.out.n.2).mono ?_; rintro _ wf ⟨rfl, bf⟩; have BF := Lib.hid (vnx HB.out bf); obtain ⟨k0, k1, k2, k3, k4⟩ := box5_kept bf KB.out; clear bf) | (go_at_call 47; refine (textOk_spec _ _ HSZ.out).mono ?_; rintro _ wf ⟨rfl, bf⟩; have BF := Lib.hid (vnx HB.out bf); obtain ⟨k0, k1, k2, k3, k4⟩ := box5_kept bf KB.out; clear bf) | (go_at_call 43; refine (leaf_c _ _ _ _ _ _ _ _).mono ?_; rintro _ wl ⟨rfl, bl⟩))
          go_ret
          exact ⟨ret_bool (by rw [HFF.out]), by first | exact HB.out | exact vnx HB.out bl | exact vnx BF.out bl | exact BF.out⟩
        | true =>
          cases h1 : (t.x == 0) with
          | false =>
            have HFF : Hid (_ = false) := Lib.hid (HOF.out.trans (by rw [h0, h1]; first | done | simp)); clear HOF
            go_wp2_with (first | (go_at_call 44; refine (l1In_c _ _ _ _).mono ?_; rintro e w' ⟨rfl, rfl⟩) | (go_at_call 45; refine (fltOk_spec _ _ _).mono ?_; rintro _ wf ⟨rfl, bf⟩; have BF := Lib.hid (vnx HB.out bf); obtain ⟨k0, k1, k2, k3, k4⟩ := box5_kept bf KB.out; clear bf) | (go_at_call 46; refine (decOk_spec _ _ _ HFT.out.n.1 HFT.out.n.2).mono ?_; rintro _ wf ⟨rfl, bf⟩; have BF := Lib.hid (vnx HB.out bf); obtain ⟨k0, k1, k2, k3, k4⟩ := box5_kept bf KB.out; clear bf) | (go_at_call 47; refine (textOk_spec _ _ HSZ.out).mono ?_; rintro _ wf ⟨rfl, bf⟩; have BF := Lib.hid (vnx HB.out bf); obtain ⟨k0, k1, k2, k3, k4⟩ := box5_kept bf KB.out; clear bf) | (go_at_call 43; refine (leaf_c _ _ _ _ _ _ _ _).mono ?_; rintro _ wl ⟨rfl, bl⟩))
            go_ret
            exact ⟨ret_bool (by rw [HFF.out]), by first | exact HB.out | exact vnx HB.out bl | exact vnx BF.out bl | exact BF.out⟩
          | true =>
            cases h2 : t.s.toList.isEmpty with
            | false =>
              have HFF : Hid (_ = false) := Lib.hid (HOF.out.trans (by rw [h0, h1, h2]; first | done | simp)); clear HOF
              go_wp2_with (first | (go_at_call 44; refine (l1In_c _ _ _ _).mono ?_; rintro e w' ⟨rfl, rfl⟩) | (go_at_call 45; refine (fltOk_spec _ _ _).mono ?_; rintro _ wf ⟨rfl, bf⟩; have BF := Lib.hid (vnx HB.out bf); obtain ⟨k0, k1, k2, k3, k4⟩ := box5_kept bf KB.out; clear bf) | (go_at_call 46; refine (decOk_spec _ _ _ HFT.out.n.1 HFT.out.n.2).mono ?_; rintro _ wf ⟨rfl, bf⟩; have BF := Lib.hid (vnx HB.out bf); obtain ⟨k0, k1, k2, k3, k4⟩ := box5_kept bf KB.out; clear bf) | (go_at_call 47; refine (textOk_spec _ _ HSZ.out).mono ?_; rintro _ wf ⟨rfl, bf⟩; have BF := Lib.hid (vnx HB.out bf); obtain ⟨k0, k1, k2, k3, k4⟩ := box5_kept bf KB.out; clear bf) | (go_at_call 43; refine (leaf_c _ _ _ _ _ _ _ _).mono ?_; rintro _ wl ⟨rfl, bl⟩))
              go_ret
              exact ⟨ret_bool (by rw [HFF.out]), by first | exact HB.out | exact vnx HB.out bl | exact vnx BF.out bl | exact BF.out⟩
            | true =>
              cases h3 : ((t.l.length : Int) % 2 == 0) with
              | false =>
                have HFF : Hid (_ = false) := Lib.hid (HOF.out.trans (by rw [h0, h1, h2, h3]; first | done | simp)); clear HOF
                go_wp2_with (first | (go_at_call 44; refine (l1In_c _ _ _ _).mono ?_; rintro e w' ⟨rfl, rfl⟩) | (go_at_call 45; refine (fltOk_spec _ _ _).mono ?_; rintro _ wf ⟨rfl, bf⟩; have BF := Lib.hid (vnx HB.out bf); obtain ⟨k0, k1, k2, k3, k4⟩ := box5_kept bf KB.out; clear bf) | (go_at_call 46; refine (decOk_spec _ _ _ HFT.out.n.1 HFT.out.n.2).mono ?_; rintro _ wf ⟨rfl, bf⟩; have BF := Lib.hid (vnx HB.out bf); obtain ⟨k0, k1, k2, k3, k4⟩ := box5_kept bf KB.out; clear bf) | (go_at_call 47; refine (textOk_spec _ _ HSZ.out).mono ?_; rintro _ wf ⟨rfl, bf⟩; have BF := Lib.hid (vnx HB.out bf); obtain ⟨k0, k1, k2, k3, k4⟩ := box5_kept bf KB.out; clear bf) | (go_at_call 43; refine (leaf_c _ _ _ _ _ _ _ _).mono ?_; rintro _ wl ⟨rfl, bl⟩))
                go_ret
                exact ⟨ret_bool (by rw [HFF.out]), by first | exact HB.out | exact vnx HB.out bl | exact vnx BF.out bl | exact BF.out⟩
              | true =>
                have HFF : Hid (_ = true) := Lib.hid (HOF.out.trans (by rw [h0, h1, h2, h3]; first | done | simp)); clear HOF
                go_wp2_with (first | (go_at_call 44; refine (l1In_c _ _ _ _).mono ?_; rintro e w' ⟨rfl, rfl⟩) | (go_at_call 45; refine (fltOk_spec _ _ _).mono ?_; rintro _ wf ⟨rfl, bf⟩; have BF := Lib.hid (vnx HB.out bf); obtain ⟨k0, k1, k2, k3, k4⟩ := box5_kept bf KB.out; clear bf) | (go_at_call 46; refine (decOk_spec _ _ _ HFT.out.n.1 HFT.out.n.2).mono ?_; rintro _ wf ⟨rfl, bf⟩; have BF := Lib.hid (vnx HB.out bf); obtain ⟨k0, k1, k2, k3, k4⟩ := box5_kept bf KB.out; clear bf) | (go_at_call 47; refine (textOk_spec _ _ HSZ.out).mono ?_; rintro _ wf ⟨rfl, bf⟩; have BF := Lib.hid (vnx HB.out bf); obtain ⟨k0, k1, k2, k3, k4⟩ := box5_kept bf KB.out; clear bf) | (go_at_call 43; refine (leaf_c _ _ _ _ _ _ _ _).mono ?_; rintro _ wl ⟨rfl, bl⟩))
                go_ret
                exact ⟨ret_bool (by rw [HFF.out]), by first | exact HB.out | exact vnx HB.out bl | exact vnx BF.out bl | exact BF.out⟩
      by_cases hk11 : t.kind = 11
      · have hof := HALL.out.trans (own_11 hk11)
        have HOF := Lib.hid hof; clear hof
        clear hk1 hk2 hk3 hk4 hk5 hk6 hk7 hk8 hk9 hk10
        cases h0 : inB t.n 0 1000000000000000 with
        | false =>
          have HFF : Hid (_ = false) := Lib.hid (HOF.out.trans (by rw [h0]; first | done | simp)); clear HOF
          go_wp2_with (first | (go_at_call 44; refine (l1In_c _ _ _ _).mono ?_; rintro e w' ⟨rfl, rfl⟩) | (go_at_call 45; refine (fltOk_spec _ _ _).mono ?_; rintro _ wf ⟨rfl, bf⟩; have BF := Lib.hid (vnx HB.out bf); obtain ⟨k0, k1, k2, k3, k4⟩ := box5_kept bf KB.out; clear bf) | (go_at_call 46; refine (decOk_spec _ _ _ HFT.out.n.1 HFT.out.n.2).mono ?_; rintro _ wf ⟨rfl, bf⟩; have BF := Lib.hid (vnx HB.out bf); obtain ⟨k0, k1, k2, k3, k4⟩ := box5_kept bf KB.out; clear bf) | (go_at_call 47; refine (textOk_spec _ _ HSZ.out).mono ?_; rintro _ wf ⟨rfl, bf⟩; have BF := Lib.hid (vnx HB.out bf); obtain ⟨k0, k1, k2, k3, k4⟩ := box5_kept bf KB.out; clear bf) | (go_at_call 43; refine (leaf_c _ _ _ _ _ _ _ _).mono ?_; rintro _ wl ⟨rfl, bl⟩))
          go_ret
          exact ⟨ret_bool (by rw [HFF.out]), by first | exact HB.out | exact vnx HB.out bl | exact vnx BF.out bl | exact BF.out⟩
        | true =>
          cases h1 : (t.x == 0) with
          | false =>
            have HFF : Hid (_ = false) := Lib.hid (HOF.out.trans (by rw [h0, h1]; first | done | simp)); clear HOF
            go_wp2_with (first | (go_at_call 44; refine (l1In_c _ _ _ _).mono ?_; rintro e w' ⟨rfl, rfl⟩) | (go_at_call 45; refine (fltOk_spec _ _ _).mono ?_; rintro _ wf ⟨rfl, bf⟩; have BF := Lib.hid (vnx HB.out bf); obtain ⟨k0, k1, k2, k3, k4⟩ := box5_kept bf KB.out; clear bf) | (go_at_call 46; refine (decOk_spec _ _ _ HFT.out.n.1 HFT.out.n.2).mono ?_; rintro _ wf ⟨rfl, bf⟩; have BF := Lib.hid (vnx HB.out bf); obtain ⟨k0, k1, k2, k3, k4⟩ := box5_kept bf KB.out; clear bf) | (go_at_call 47; refine (textOk_spec _ _ HSZ.out).mono ?_; rintro _ wf ⟨rfl, bf⟩; have BF := Lib.hid (vnx HB.out bf); obtain ⟨k0, k1, k2, k3, k4⟩ := box5_kept bf KB.out; clear bf) | (go_at_call 43; refine (leaf_c _ _ _ _ _ _ _ _).mono ?_; rintro _ wl ⟨rfl, bl⟩))
            go_ret
            exact ⟨ret_bool (by rw [HFF.out]), by first | exact HB.out | exact vnx HB.out bl | exact vnx BF.out bl | exact BF.out⟩
          | true =>
            cases h2 : t.s.toList.isEmpty with
            | false =>
              have HFF : Hid (_ = false) := Lib.hid (HOF.out.trans (by rw [h0, h1, h2]; first | done | simp)); clear HOF
              go_wp2_with (first | (go_at_call 44; refine (l1In_c _ _ _ _).mono ?_; rintro e w' ⟨rfl, rfl⟩) | (go_at_call 45; refine (fltOk_spec _ _ _).mono ?_; rintro _ wf ⟨rfl, bf⟩; have BF := Lib.hid (vnx HB.out bf); obtain ⟨k0, k1, k2, k3, k4⟩ := box5_kept bf KB.out; clear bf) | (go_at_call 46; refine (decOk_spec _ _ _ HFT.out.n.1 HFT.out.n.2).mono ?_; rintro _ wf ⟨rfl, bf⟩; have BF := Lib.hid (vnx HB.out bf); obtain ⟨k0, k1, k2, k3, k4⟩ := box5_kept bf KB.out; clear bf) | (go_at_call 47; refine (textOk_spec _ _ HSZ.out).mono ?_; rintro _ wf ⟨rfl, bf⟩; have BF := Lib.hid (vnx HB.out bf); obtain ⟨k0, k1, k2, k3, k4⟩ := box5_kept bf KB.out; clear bf) | (go_at_call 43; refine (leaf_c _ _ _ _ _ _ _ _).mono ?_; rintro _ wl ⟨rfl, bl⟩))
              go_ret
              exact ⟨ret_bool (by rw [HFF.out]), by first | exact HB.out | exact vnx HB.out bl | exact vnx BF.out bl | exact BF.out⟩
            | true =>
              cases h3 : ((t.l.length : Int) == 1) with
              | false =>
                have HFF : Hid (_ = false) := Lib.hid (HOF.out.trans (by rw [h0, h1, h2, h3]; first | done | simp)); clear HOF
                go_wp2_with (first | (go_at_call 44; refine (l1In_c _ _ _ _).mono ?_; rintro e w' ⟨rfl, rfl⟩) | (go_at_call 45; refine (fltOk_spec _ _ _).mono ?_; rintro _ wf ⟨rfl, bf⟩; have BF := Lib.hid (vnx HB.out bf); obtain ⟨k0, k1, k2, k3, k4⟩ := box5_kept bf KB.out; clear bf) | (go_at_call 46; refine (decOk_spec _ _ _ HFT.out.n.1 HFT.out.n.2).mono ?_; rintro _ wf ⟨rfl, bf⟩; have BF := Lib.hid (vnx HB.out bf); obtain ⟨k0, k1, k2, k3, k4⟩ := box5_kept bf KB.out; clear bf) | (go_at_call 47; refine (textOk_spec _ _ HSZ.out).mono ?_; rintro _ wf ⟨rfl, bf⟩; have BF := Lib.hid (vnx HB.out bf); obtain ⟨k0, k1, k2, k3, k4⟩ := box5_kept bf KB.out; clear bf) | (go_at_call 43; refine (leaf_c _ _ _ _ _ _ _ _).mono ?_; rintro _ wl ⟨rfl, bl⟩))
                go_ret
                exact ⟨ret_bool (by rw [HFF.out]), by first | exact HB.out | exact vnx HB.out bl | exact vnx BF.out bl | exact BF.out⟩
              | true =>
                have HFF : Hid (_ = true) := Lib.hid (HOF.out.trans (by rw [h0, h1, h2, h3]; first | done | simp)); clear HOF
                go_wp2_with (first | (go_at_call 44; refine (l1In_c _ _ _ _).mono ?_; rintro e w' ⟨rfl, rfl⟩) | (go_at_call 45; refine (fltOk_spec _ _ _).mono ?_; rintro _ wf ⟨rfl, bf⟩; have BF := Lib.hid (vnx HB.out bf); obtain ⟨k0, k1, k2, k3, k4⟩ := box5_kept bf KB.out; clear bf) | (go_at_call 46; refine (decOk_spec _ _ _ HFT.out.n.1 HFT.out.n.2).mono ?_; rintro _ wf ⟨rfl, bf⟩; have BF := Lib.hid (vnx HB.out bf); obtain ⟨k0, k1, k2, k3, k4⟩ := box5_kept bf KB.out; clear bf) | (go_at_call 47; refine (textOk_spec _ _ HSZ.out).mono ?_; rintro _ wf ⟨rfl, bf⟩; have BF := Lib.hid (vnx HB.out bf); obtain ⟨k0, k1, k2, k3, k4⟩ := box5_kept bf KB.out; clear bf) | (go_at_call 43; refine (leaf_c _ _ _ _ _ _ _ _).mono ?_; rintro _ wl ⟨rfl, bl⟩))
                go_ret
                exact ⟨ret_bool (by rw [HFF.out]), by first | exact HB.out | exact vnx HB.out bl | exact vnx BF.out bl | exact BF.out⟩
      have hof := HALL.out.trans (own_no (t := t) (by omega))
      have HFF := Lib.hid hof; clear hof
      go_wp2_with (first | (go_at_call 44; refine (l1In_c _ _ _ _).mono ?_; rintro e w' ⟨rfl, rfl⟩) | (go_at_call 45; refine (fltOk_spec _ _ _).mono ?_; rintro _ wf ⟨rfl, bf⟩; have BF := Lib.hid (vnx HB.out bf); obtain ⟨k0, k1, k2, k3, k4⟩ := box5_kept bf KB.out; clear bf) | (go_at_call 46; refine (decOk_spec _ _ _ HFT.out.n.1 HFT.out.n.2).mono ?_; rintro _ wf ⟨rfl, bf⟩; have BF := Lib.hid (vnx HB.out bf); obtain ⟨k0, k1, k2, k3, k4⟩ := box5_kept bf KB.out; clear bf) | (go_at_call 47; refine (textOk_spec _ _ HSZ.out).mono ?_; rintro _ wf ⟨rfl, bf⟩; have BF := Lib.hid (vnx HB.out bf); obtain ⟨k0, k1, k2, k3, k4⟩ := box5_kept bf KB.out; clear bf) | (go_at_call 43; refine (leaf_c _ _ _ _ _ _ _ _).mono ?_; rintro _ wl ⟨rfl, bl⟩))
      all_goals (go_ret; exact ⟨ret_bool HFF.out.symm, by first | exact HB.out | exact vbelow1 _ _⟩)
theorem okSpec_c (t : Tree) : okSpecC t := Tree.ind (p := okSpecC) okSpec_of t
end Go.Proofs.YtilmhemcpgiikaaGreatDoor
