/- How much a tree holds, and the functions that take it off. -/
import Derived.Test.YtilmhemcpgiikaaDoorVal
namespace Go.Proofs.YtilmhemcpgiikaaDoor
open Go.ChangeShapes Go.WideShapes Go.ChangeAt Go.RowKit
open Go.ChangeMaps (open_string shut_string)


mutual
/-- What szVal takes off for a tree: the letters and the elements. -/
def Tree.cost : Tree → Nat | .mk _ _ _ s l => s.size + costL l
def costL : List Tree → Nat | [] => 0 | t :: ts => 1 + t.cost + costL ts
end
theorem Tree.cost_eq (t : Tree) : t.cost = t.s.size + costL t.l := by cases t; rw [Tree.cost]; rfl
/-- The cost of the elements, but for their number. -/
def costE : List Tree → Nat | [] => 0 | t :: ts => t.cost + costE ts
theorem costL_eq : ∀ l, costL l = l.length + costE l
  | [] => rfl
  | t :: ts => by rw [costL, costE, costL_eq ts, List.length_cons]; omega
theorem costE_snoc (t : Tree) : ∀ l, costE (l ++ [t]) = costE l + t.cost
  | [] => by simp [costE]
  | u :: ts => by simp only [List.cons_append, costE, costE_snoc t ts]; omega
theorem costE_take : ∀ (l : List Tree) (j : Nat), costE (l.take j) ≤ costE l
  | [], j => by simp [costE]
  | t :: ts, 0 => by simp [costE]
  | t :: ts, j + 1 => by simp only [List.take_succ_cons, costE]; have := costE_take ts j; omega
/-- What is left. -/
def subC (left : Int) (c : Nat) : Int := if (c : Int) ≤ left then left - c else -1
theorem subC_yes {left : Int} {c : Nat} (h : (c : Int) ≤ left) : subC left c = left - c := if_pos h
theorem subC_no {left : Int} {c : Nat} (h : left < (c : Int)) : subC left c = -1 := if_neg (by omega)

def SzC (t : Tree) : Prop := ∀ (w : World) (u : Value) (left : Int), 0 ≤ left → left ≤ 1048576 → TSl w u t.l → Fits t.kind t.n t.x t.s →
  Calls Tryd.prog 13 #[.agg #[.int .i64 t.kind, .int .i64 t.n, .int .i64 t.x, .string t.s, u], .int .i64 left] w fun e w' => e = .returned (.int .i64 (subC left t.cost)) ∧ Below w.heap.size w w'

set_option maxHeartbeats 1000000 in
theorem szValS_of (l : List Tree) (ih : ∀ t ∈ l, SzC t) (w : World) (u : Value) (left : Int) (h0 : 0 ≤ left) (h1 : left ≤ 1048576) (hu : TSl w u l) :
    Calls Tryd.prog 73 #[u, .int .i64 left] w fun e w' => e = .returned (.int .i64 (subC left (costL l))) ∧ Below w.heap.size w w' := by
  obtain ⟨a, cap, b, off, rfl, hcap, hmax, ha, hl⟩ := hu
  unfold maxLen at hmax
  have hcl := costL_eq l
  by_cases hlt : left - (l.length : Int) < 0
  · have hf : subC left (costL l) = -1 := subC_no (by omega)
    rw [hf]; clear hf hcl ih
    go_enter Tryd.func73, Tryd.ntmps73
    go_wp2_with fail
    go_ret
    exact ⟨rfl, Below.refl _ _⟩
  · have IH := Lib.hid ih; clear ih
    have HL := Lib.hid hl; clear hl
    have HA := Lib.hid ha; clear ha
    have HC := Lib.hid hcl; clear hcl
    go_enter Tryd.func73, Tryd.ntmps73
    go_wp2_with fail
    go_loopw [1, 5] (fun v i wr => ∃ (j : Nat) (r : Int), j ≤ l.length ∧ i = .int .i64 j ∧ v = .int .i64 r ∧ 0 ≤ r ∧ r ≤ 1048576 ∧ Hid (r = left - l.length - costE (l.take j)) ∧ Below w.heap.size w wr) (fun _ i _ => l.length - (intOf i).toNat)
    case atStart => exact ⟨0, left - l.length, by omega, rfl, rfl, by omega, by omega, Lib.hid (by simp [costE]), Below.refl _ _⟩
    case round =>
      obtain ⟨j, r, hj, rfl, rfl, hr0, hr1, HR, hbw⟩ := hrel
      by_cases hjl : j < l.length
      · obtain rfl : a = some ⟨b, off, none⟩ := HA.out (by intro h; rw [h] at hjl; simp at hjl)
        obtain ⟨u, c0, c1, c2, c3, c4, hsl, hfit⟩ := ((HL.out j hjl).kept hbw).parts
        have hih := IH.out l[j] (List.getElem_mem hjl)
        have hsnoc : costE (l.take (j + 1)) = costE (l.take j) + l[j].cost := by rw [List.take_succ_eq_append_getElem hjl, costE_snoc]
        have htk := costE_take l (j + 1)
        generalize l[j] = t at *
        have HI := Lib.hid hih; clear hih
        have HS := Lib.hid hsnoc; clear hsnoc
        by_cases hle : (t.cost : Int) ≤ r
        · have hs : subC r t.cost = r - t.cost := subC_yes hle
          have hs0 : 0 ≤ subC r t.cost := by omega
          have HSS := Lib.hid hs; clear hs hle htk
          go_wp2_with fail
          refine (HI.out _ _ _ (by omega) (by omega) hsl hfit).mono ?_
          rintro e w1 ⟨rfl, hb1⟩
          have hs1 : ¬ subC r t.cost < 0 := by omega
          go_wp2_with fail
          go_roundw
          case rel =>
            have q1 := HSS.out
            have q2 := HS.out
            have q3 := HR.out
            exact ⟨j + 1, _, by omega, by go_num, rfl, by omega, by omega, Lib.hid (by omega), hbw.trans (hb1.mono hbw.size)⟩
          case measure => simp [intOf]; omega
        · have hs : subC r t.cost = -1 := subC_no (by omega)
          have hf : subC left (costL l) = -1 := subC_no (by have := HC.out; have := HR.out; have := HS.out; omega)
          have HF := Lib.hid hf; clear hf hle htk
          have hs1 : subC r t.cost < 0 := by omega
          clear hs
          go_wp2_with fail
          refine (HI.out _ _ _ (by omega) (by omega) hsl hfit).mono ?_
          rintro e w1 ⟨rfl, hb1⟩
          go_wp2_with fail
          go_ret
          exact ⟨ret_int HF.out.symm, hbw.trans (hb1.mono hbw.size)⟩
      · obtain rfl : j = l.length := by omega
        have hf : subC left (costL l) = r := by
          have q1 := HC.out
          have q2 := HR.out
          rw [List.take_length] at q2
          rw [subC_yes (by omega)]; omega
        have HF := Lib.hid hf; clear hf
        go_wp2_with fail
        go_ret
        exact ⟨ret_int HF.out.symm, hbw⟩

set_option maxHeartbeats 1000000 in
theorem szVal_of (t : Tree) (ih : ∀ t' ∈ t.l, SzC t') : SzC t := by
  intro w u left h0 h1 hu hfit
  have hS := hfit.s
  have hc := Tree.cost_eq t
  by_cases hlt : left - (t.s.size : Int) < 0
  · have hf : subC left t.cost = -1 := subC_no (by omega)
    rw [hf]; clear hf hc ih
    go_enter Tryd.func13, Tryd.ntmps13
    go_wp2_with fail
    go_ret
    exact ⟨rfl, (Below.refl _ _).alloc (Nat.le_refl _) _⟩
  · by_cases hle : (costL t.l : Int) ≤ left - (t.s.size : Int)
    · have hs : subC (left - (t.s.size : Int)) (costL t.l) = left - (t.s.size : Int) - costL t.l := subC_yes hle
      have hs1 : ¬ subC (left - (t.s.size : Int)) (costL t.l) < 0 := by omega
      have hf : subC left t.cost = subC (left - (t.s.size : Int)) (costL t.l) := by rw [hs, subC_yes (by omega)]; omega
      rw [hf]; clear hf hs hc hle
      have IH := Lib.hid ih; clear ih
      go_enter Tryd.func13, Tryd.ntmps13
      go_wp2_with fail
      refine (szValS_of _ IH.out _ _ _ (by omega) (by omega) (hu.kept ((Below.refl _ _).alloc (Nat.le_refl _) _))).mono ?_
      rintro e w1 ⟨rfl, hb1⟩
      go_wp2_with fail
      go_ret
      exact ⟨rfl, ((Below.refl _ _).alloc (Nat.le_refl _) _).trans (hb1.mono (by simp))⟩
    · have hs : subC (left - (t.s.size : Int)) (costL t.l) = -1 := subC_no (by omega)
      have hs1 : subC (left - (t.s.size : Int)) (costL t.l) < 0 := by omega
      have hf : subC left t.cost = -1 := by rw [subC_no (by omega)]
      rw [hf]; clear hf hs hc hle
      have IH := Lib.hid ih; clear ih
      go_enter Tryd.func13, Tryd.ntmps13
      go_wp2_with fail
      refine (szValS_of _ IH.out _ _ _ (by omega) (by omega) (hu.kept ((Below.refl _ _).alloc (Nat.le_refl _) _))).mono ?_
      rintro e w1 ⟨rfl, hb1⟩
      go_wp2_with fail
      go_ret
      exact ⟨rfl, ((Below.refl _ _).alloc (Nat.le_refl _) _).trans (hb1.mono (by simp))⟩

theorem szVal_c (t : Tree) : SzC t := Tree.ind (p := SzC) szVal_of t

end Go.Proofs.YtilmhemcpgiikaaDoor
