/- Vals: texts of the proof (VCount). -/
import Derived.Test.YtilmhemcpgiikaaGreatDoorSVals8
/- CountOf and DeepOf, in the reference and in the program. -/
namespace Go.Proofs.YtilmhemcpgiikaaGreatDoor
open Go.ChangeShapes Go.WideShapes Go.ChangeAt Go.RowKit
open Go.ChangeMaps (open_string shut_string)


theorem szL_snoc (t : Tree) : ∀ l, szL (l ++ [t]) = szL l + t.sz
  | [] => by simp [szL]
  | u :: ts => by simp only [List.cons_append, szL, szL_snoc t ts]; omega
theorem szL_take : ∀ (l : List Tree) (j : Nat), szL (l.take j) ≤ szL l
  | [], j => by simp [szL]
  | t :: ts, 0 => by simp [szL]
  | t :: ts, j + 1 => by simp only [List.take_succ_cons, szL]; have := szL_take ts j; omega
theorem Tree.sz_eq (t : Tree) : t.sz = 1 + szL t.l := by cases t; rw [Tree.sz]; rfl
theorem len_le_szL : ∀ l : List Tree, l.length ≤ szL l
  | [] => by simp
  | t :: ts => by rw [szL, List.length_cons]; have := len_le_szL ts; have := Tree.sz_eq t; omega
mutual
/-- How deep a tree is. -/
def Tree.deep : Tree → Nat | .mk _ _ _ _ l => deepL l + 1
def deepL : List Tree → Nat | [] => 0 | t :: ts => max t.deep (deepL ts)
end
theorem Tree.deep_eq (t : Tree) : t.deep = deepL t.l + 1 := by cases t; rw [Tree.deep]; rfl
theorem deepL_snoc (t : Tree) : ∀ l, deepL (l ++ [t]) = max (deepL l) t.deep
  | [] => by simp [deepL]
  | u :: ts => by simp only [List.cons_append, deepL, deepL_snoc t ts]; omega
theorem Tree.deep_le (t : Tree) : t.deep ≤ t.sz := by
  refine Tree.ind (p := fun t => t.deep ≤ t.sz) (fun t ih => ?_) t
  rw [Tree.deep_eq, Tree.sz_eq]
  have : ∀ l : List Tree, (∀ t' ∈ l, t'.deep ≤ t'.sz) → deepL l ≤ szL l := by
    intro l
    induction l with
    | nil => intro _; simp [deepL]
    | cons u ts ih2 =>
      intro h
      rw [deepL, szL]
      have h1 := h u (by simp)
      have h2 := ih2 (fun t' ht' => h t' (by simp [ht']))
      omega
  have := this t.l ih
  omega
theorem sz_le_cost (t : Tree) : t.sz ≤ t.cost + 1 := by
  refine Tree.ind (p := fun t => t.sz ≤ t.cost + 1) (fun t ih => ?_) t
  rw [Tree.sz_eq, Tree.cost_eq, costL_eq]
  have : ∀ l : List Tree, (∀ t' ∈ l, t'.sz ≤ t'.cost + 1) → szL l ≤ l.length + costE l := by
    intro l
    induction l with
    | nil => intro _; simp [szL]
    | cons u ts ih2 =>
      intro h
      rw [szL, costE, List.length_cons]
      have h1 := h u (by simp)
      have h2 := ih2 (fun t' ht' => h t' (by simp [ht']))
      omega
  have := this t.l ih
  omega
/-- The fifth cell of a boxed Val. -/
theorem box_cell (w : World) (a b c d u : Value) (T : TypeId) : (w.alloc (.cells #[a, b, c, d, u] T)).cell? ⟨w.heap.size, 4, none⟩ = some u := by
  rw [World.cell?_alloc_at _ _ _ _ rfl]; rfl

def countSpecC (t : Tree) : Prop := ∀ (w : World) (u : Value), t.sz ≤ 2000000 → TSl w u t.l → Fits t.kind t.n t.x t.s →
  Calls Tryz.prog 20 #[.agg #[.int .i64 t.kind, .int .i64 t.n, .int .i64 t.x, .string t.s, u]] w fun e w' => e = .returned (.int .i64 (t.sz : Nat)) ∧ Below w.heap.size w w'

set_option maxHeartbeats 1000000 in
theorem countSpec_of (t : Tree) (ih : ∀ t' ∈ t.l, countSpecC t') : countSpecC t := by
  intro w u hsz hu hfit
  have hszl := Tree.sz_eq t
  have hlen := len_le_szL t.l
  obtain ⟨a, cap, b, off, rfl, hcap, hmax, ha, hl⟩ := hu
  unfold maxLen at hmax
  have IH := Lib.hid ih; clear ih
  have HL := Lib.hid hl; clear hl
  have HA := Lib.hid ha; clear ha
  have HSZ := Lib.hid hszl
  have hszl2 : szL t.l < t.sz := by omega
  clear hszl
  go_enter Tryz.func20, Tryz.ntmps20
  go_wp2_with fail
  go_loopw [3, 4] (fun c i wr => ∃ (j : Nat) (r : Nat), j ≤ t.l.length ∧ i = .int .i64 j ∧ c = .int .i64 r ∧ r ≤ 2000000 ∧ Hid (r = 1 + szL (t.l.take j)) ∧ Below (w.heap.size + 1) (w.alloc (.cells #[.int .i64 t.kind, .int .i64 t.n, .int .i64 t.x, .string t.s, .slice a t.l.length cap] 26)) wr) (fun _ i _ => t.l.length - (intOf i).toNat)
  case atStart => exact ⟨0, 1, by omega, rfl, rfl, by omega, Lib.hid (by simp [szL, deepL]), Below.refl _ _⟩
  case round =>
    obtain ⟨j, r, hj, rfl, rfl, hr, HR, hbw⟩ := hrel
    have hbox := (hbw.cell (p := ⟨w.heap.size, 4, none⟩) (by simp)).trans (box_cell _ _ _ _ _ _ _)
    have hsize := hbw.size
    simp only [World.size_alloc] at hsize
    by_cases hjl : j < t.l.length
    · obtain rfl : a = some ⟨b, off, none⟩ := HA.out (by intro h; rw [h] at hjl; simp at hjl)
      have hTA := (HL.out j hjl).kept (((Below.refl _ _).alloc (Nat.le_refl _) _).trans (hbw.mono (by simp)))
      obtain ⟨u, c0, c1, c2, c3, c4, hsl, hfit'⟩ := hTA.parts
      have hih := IH.out t.l[j] (List.getElem_mem hjl)
      have hsz1 := sz_mem (List.getElem_mem hjl)
      have hdp1 := Tree.deep_le t.l[j]
      have hst : szL (t.l.take (j + 1)) = szL (t.l.take j) + t.l[j].sz := by rw [List.take_succ_eq_append_getElem hjl, szL_snoc]
      have hdt : deepL (t.l.take (j + 1)) = max (deepL (t.l.take j)) t.l[j].deep := by rw [List.take_succ_eq_append_getElem hjl, deepL_snoc]
      have hstl := szL_take t.l (j + 1)
      generalize t.l[j] = t' at *
      have HI := Lib.hid hih; clear hih
      have HST := Lib.hid hst; clear hst
      have HDT := Lib.hid hdt; clear hdt
      go_wp2_with fail
      refine (HI.out _ _ (by omega) hsl hfit').mono ?_
      rintro e w1 ⟨rfl, hb1⟩
      have hm1 : (t'.sz : Int) ≤ 2000000 := by omega
      have hr1 : r + t'.sz ≤ 2000000 := by have := HST.out; have := HR.out; omega
      go_wp2_with fail
      go_roundw
      case rel =>
        have q2 := HST.out
        have q3 := HR.out
        exact ⟨j + 1, r + t'.sz, by omega, by go_num, by go_num, by omega, Lib.hid (by omega), hbw.trans (hb1.mono (by omega))⟩
      case measure => simp [intOf]; omega
    · obtain rfl : j = t.l.length := by omega
      have hf : t.sz = r := by
        have q1 := HSZ.out
        have q2 := HR.out
        have q3 := Tree.deep_eq t
        rw [List.take_length] at q2
        omega
      have HF := Lib.hid hf; clear hf
      go_wp2_with fail
      go_ret
      exact ⟨ret_int (by have := HF.out; omega), ((Below.refl _ _).alloc (Nat.le_refl _) _).trans (hbw.mono (by simp))⟩
theorem countSpec_c (t : Tree) : countSpecC t := Tree.ind (p := countSpecC) countSpec_of t

def countImplC (t : Tree) : Prop := ∀ (w : World) (u : Value), t.sz ≤ 2000000 → TSl w u t.l → Fits t.kind t.n t.x t.s →
  Calls Tryz.prog 19 #[.agg #[.int .i64 t.kind, .int .i64 t.n, .int .i64 t.x, .string t.s, u]] w fun e w' => e = .returned (.int .i64 (t.sz : Nat)) ∧ Below w.heap.size w w'

set_option maxHeartbeats 1000000 in
theorem countImpl_of (t : Tree) (ih : ∀ t' ∈ t.l, countImplC t') : countImplC t := by
  intro w u hsz hu hfit
  have hszl := Tree.sz_eq t
  have hlen := len_le_szL t.l
  obtain ⟨a, cap, b, off, rfl, hcap, hmax, ha, hl⟩ := hu
  unfold maxLen at hmax
  have IH := Lib.hid ih; clear ih
  have HL := Lib.hid hl; clear hl
  have HA := Lib.hid ha; clear ha
  have HSZ := Lib.hid hszl
  have hszl2 : szL t.l < t.sz := by omega
  clear hszl
  go_enter Tryz.func19, Tryz.ntmps19
  go_wp2_with fail
  go_loopw [3, 9] (fun c i wr => ∃ (j : Nat) (r : Nat), j ≤ t.l.length ∧ i = .int .i64 j ∧ c = .int .i64 r ∧ r ≤ 2000000 ∧ Hid (r = 1 + szL (t.l.take j)) ∧ Below (w.heap.size + 1) (w.alloc (.cells #[.int .i64 t.kind, .int .i64 t.n, .int .i64 t.x, .string t.s, .slice a t.l.length cap] 26)) wr) (fun _ i _ => t.l.length - (intOf i).toNat)
  case atStart => exact ⟨0, 1, by omega, rfl, rfl, by omega, Lib.hid (by simp [szL, deepL]), Below.refl _ _⟩
  case round =>
    obtain ⟨j, r, hj, rfl, rfl, hr, HR, hbw⟩ := hrel
    have hbox := (hbw.cell (p := ⟨w.heap.size, 4, none⟩) (by simp)).trans (box_cell _ _ _ _ _ _ _)
    have hsize := hbw.size
    simp only [World.size_alloc] at hsize
    by_cases hjl : j < t.l.length
    · obtain rfl : a = some ⟨b, off, none⟩ := HA.out (by intro h; rw [h] at hjl; simp at hjl)
      have hTA := (HL.out j hjl).kept (((Below.refl _ _).alloc (Nat.le_refl _) _).trans (hbw.mono (by simp)))
      obtain ⟨u, c0, c1, c2, c3, c4, hsl, hfit'⟩ := hTA.parts
      have hih := IH.out t.l[j] (List.getElem_mem hjl)
      have hsz1 := sz_mem (List.getElem_mem hjl)
      have hdp1 := Tree.deep_le t.l[j]
      have hst : szL (t.l.take (j + 1)) = szL (t.l.take j) + t.l[j].sz := by rw [List.take_succ_eq_append_getElem hjl, szL_snoc]
      have hdt : deepL (t.l.take (j + 1)) = max (deepL (t.l.take j)) t.l[j].deep := by rw [List.take_succ_eq_append_getElem hjl, deepL_snoc]
      have hstl := szL_take t.l (j + 1)
      generalize t.l[j] = t' at *
      have HI := Lib.hid hih; clear hih
      have HST := Lib.hid hst; clear hst
      have HDT := Lib.hid hdt; clear hdt
      obtain ⟨a2, n2, cap2, rfl⟩ := hsl.form
      go_wp2_with fail
      refine (HI.out _ _ (by omega) (hsl.kept ((Below.refl _ _).alloc (Nat.le_refl _) _)) hfit').mono ?_
      rintro e w1 ⟨rfl, hb1⟩
      have hm1 : (t'.sz : Int) ≤ 2000000 := by omega
      have hr1 : r + t'.sz ≤ 2000000 := by have := HST.out; have := HR.out; omega
      go_wp2_with fail
      go_roundw
      case rel =>
        have q2 := HST.out
        have q3 := HR.out
        exact ⟨j + 1, r + t'.sz, by omega, by go_num, by go_num, by omega, Lib.hid (by omega), (hbw.trans (((Below.refl _ _).alloc (by omega) _))).trans (hb1.mono (by simp; omega))⟩
      case measure => simp [intOf]; omega
    · obtain rfl : j = t.l.length := by omega
      have hf : t.sz = r := by
        have q1 := HSZ.out
        have q2 := HR.out
        have q3 := Tree.deep_eq t
        rw [List.take_length] at q2
        omega
      have HF := Lib.hid hf; clear hf
      go_wp2_with fail
      go_ret
      exact ⟨ret_int (by have := HF.out; omega), ((Below.refl _ _).alloc (Nat.le_refl _) _).trans (hbw.mono (by simp))⟩
theorem countImpl_c (t : Tree) : countImplC t := Tree.ind (p := countImplC) countImpl_of t

def deepSpecC (t : Tree) : Prop := ∀ (w : World) (u : Value), t.sz ≤ 2000000 → TSl w u t.l → Fits t.kind t.n t.x t.s →
  Calls Tryz.prog 18 #[.agg #[.int .i64 t.kind, .int .i64 t.n, .int .i64 t.x, .string t.s, u]] w fun e w' => e = .returned (.int .i64 (t.deep : Nat)) ∧ Below w.heap.size w w'

set_option maxHeartbeats 1000000 in
theorem deepSpec_of (t : Tree) (ih : ∀ t' ∈ t.l, deepSpecC t') : deepSpecC t := by
  intro w u hsz hu hfit
  have hszl := Tree.sz_eq t
  have hlen := len_le_szL t.l
  obtain ⟨a, cap, b, off, rfl, hcap, hmax, ha, hl⟩ := hu
  unfold maxLen at hmax
  have IH := Lib.hid ih; clear ih
  have HL := Lib.hid hl; clear hl
  have HA := Lib.hid ha; clear ha
  have HSZ := Lib.hid hszl
  have hszl2 : szL t.l < t.sz := by omega
  clear hszl
  go_enter Tryz.func18, Tryz.ntmps18
  go_wp2_with fail
  go_loopw [3, 4] (fun c i wr => ∃ (j : Nat) (r : Nat), j ≤ t.l.length ∧ i = .int .i64 j ∧ c = .int .i64 r ∧ r ≤ 2000000 ∧ Hid (r = deepL (t.l.take j)) ∧ Below (w.heap.size + 1) (w.alloc (.cells #[.int .i64 t.kind, .int .i64 t.n, .int .i64 t.x, .string t.s, .slice a t.l.length cap] 26)) wr) (fun _ i _ => t.l.length - (intOf i).toNat)
  case atStart => exact ⟨0, 0, by omega, rfl, rfl, by omega, Lib.hid (by simp [szL, deepL]), Below.refl _ _⟩
  case round =>
    obtain ⟨j, r, hj, rfl, rfl, hr, HR, hbw⟩ := hrel
    have hbox := (hbw.cell (p := ⟨w.heap.size, 4, none⟩) (by simp)).trans (box_cell _ _ _ _ _ _ _)
    have hsize := hbw.size
    simp only [World.size_alloc] at hsize
    by_cases hjl : j < t.l.length
    · obtain rfl : a = some ⟨b, off, none⟩ := HA.out (by intro h; rw [h] at hjl; simp at hjl)
      have hTA := (HL.out j hjl).kept (((Below.refl _ _).alloc (Nat.le_refl _) _).trans (hbw.mono (by simp)))
      obtain ⟨u, c0, c1, c2, c3, c4, hsl, hfit'⟩ := hTA.parts
      have hih := IH.out t.l[j] (List.getElem_mem hjl)
      have hsz1 := sz_mem (List.getElem_mem hjl)
      have hdp1 := Tree.deep_le t.l[j]
      have hst : szL (t.l.take (j + 1)) = szL (t.l.take j) + t.l[j].sz := by rw [List.take_succ_eq_append_getElem hjl, szL_snoc]
      have hdt : deepL (t.l.take (j + 1)) = max (deepL (t.l.take j)) t.l[j].deep := by rw [List.take_succ_eq_append_getElem hjl, deepL_snoc]
      have hstl := szL_take t.l (j + 1)
      generalize t.l[j] = t' at *
      have HI := Lib.hid hih; clear hih
      have HST := Lib.hid hst; clear hst
      have HDT := Lib.hid hdt; clear hdt
      go_wp2_with fail
      refine (HI.out _ _ (by omega) hsl hfit').mono ?_
      rintro e w1 ⟨rfl, hb1⟩
      have hbox1 := (hb1.cell (p := ⟨w.heap.size, 4, none⟩) (by show w.heap.size < _; omega)).trans hbox
      have hm1 : (t'.deep : Int) ≤ 2000000 := by omega
      by_cases hmx : r < t'.deep
      all_goals
        go_wp2_with fail
        go_roundw
        case rel =>
          have q2 := HDT.out
          have q3 := HR.out
          exact ⟨j + 1, _, by omega, by go_num, rfl, by omega, Lib.hid (by omega), hbw.trans (hb1.mono (by omega))⟩
        case measure => simp [intOf]; omega
    · obtain rfl : j = t.l.length := by omega
      have hf : (t.deep : Int) = r + 1 := by
        have q1 := HSZ.out
        have q2 := HR.out
        have q3 := Tree.deep_eq t
        rw [List.take_length] at q2
        omega
      have HF := Lib.hid hf; clear hf
      go_wp2_with fail
      go_ret
      exact ⟨ret_int (by have := HF.out; omega), ((Below.refl _ _).alloc (Nat.le_refl _) _).trans (hbw.mono (by simp))⟩
theorem deepSpec_c (t : Tree) : deepSpecC t := Tree.ind (p := deepSpecC) deepSpec_of t

def deepImplC (t : Tree) : Prop := ∀ (w : World) (u : Value), t.sz ≤ 2000000 → TSl w u t.l → Fits t.kind t.n t.x t.s →
  Calls Tryz.prog 17 #[.agg #[.int .i64 t.kind, .int .i64 t.n, .int .i64 t.x, .string t.s, u]] w fun e w' => e = .returned (.int .i64 (t.deep : Nat)) ∧ Below w.heap.size w w'

set_option maxHeartbeats 1000000 in
theorem deepImpl_of (t : Tree) (ih : ∀ t' ∈ t.l, deepImplC t') : deepImplC t := by
  intro w u hsz hu hfit
  have hszl := Tree.sz_eq t
  have hlen := len_le_szL t.l
  obtain ⟨a, cap, b, off, rfl, hcap, hmax, ha, hl⟩ := hu
  unfold maxLen at hmax
  have IH := Lib.hid ih; clear ih
  have HL := Lib.hid hl; clear hl
  have HA := Lib.hid ha; clear ha
  have HSZ := Lib.hid hszl
  have hszl2 : szL t.l < t.sz := by omega
  clear hszl
  go_enter Tryz.func17, Tryz.ntmps17
  go_wp2_with fail
  go_loopw [3, 9] (fun c i wr => ∃ (j : Nat) (r : Nat), j ≤ t.l.length ∧ i = .int .i64 j ∧ c = .int .i64 r ∧ r ≤ 2000000 ∧ Hid (r = deepL (t.l.take j)) ∧ Below (w.heap.size + 1) (w.alloc (.cells #[.int .i64 t.kind, .int .i64 t.n, .int .i64 t.x, .string t.s, .slice a t.l.length cap] 26)) wr) (fun _ i _ => t.l.length - (intOf i).toNat)
  case atStart => exact ⟨0, 0, by omega, rfl, rfl, by omega, Lib.hid (by simp [szL, deepL]), Below.refl _ _⟩
  case round =>
    obtain ⟨j, r, hj, rfl, rfl, hr, HR, hbw⟩ := hrel
    have hbox := (hbw.cell (p := ⟨w.heap.size, 4, none⟩) (by simp)).trans (box_cell _ _ _ _ _ _ _)
    have hsize := hbw.size
    simp only [World.size_alloc] at hsize
    by_cases hjl : j < t.l.length
    · obtain rfl : a = some ⟨b, off, none⟩ := HA.out (by intro h; rw [h] at hjl; simp at hjl)
      have hTA := (HL.out j hjl).kept (((Below.refl _ _).alloc (Nat.le_refl _) _).trans (hbw.mono (by simp)))
      obtain ⟨u, c0, c1, c2, c3, c4, hsl, hfit'⟩ := hTA.parts
      have hih := IH.out t.l[j] (List.getElem_mem hjl)
      have hsz1 := sz_mem (List.getElem_mem hjl)
      have hdp1 := Tree.deep_le t.l[j]
      have hst : szL (t.l.take (j + 1)) = szL (t.l.take j) + t.l[j].sz := by rw [List.take_succ_eq_append_getElem hjl, szL_snoc]
      have hdt : deepL (t.l.take (j + 1)) = max (deepL (t.l.take j)) t.l[j].deep := by rw [List.take_succ_eq_append_getElem hjl, deepL_snoc]
      have hstl := szL_take t.l (j + 1)
      generalize t.l[j] = t' at *
      have HI := Lib.hid hih; clear hih
      have HST := Lib.hid hst; clear hst
      have HDT := Lib.hid hdt; clear hdt
      obtain ⟨a2, n2, cap2, rfl⟩ := hsl.form
      go_wp2_with fail
      refine (HI.out _ _ (by omega) (hsl.kept ((Below.refl _ _).alloc (Nat.le_refl _) _)) hfit').mono ?_
      rintro e w1 ⟨rfl, hb1⟩
      have hm1 : (t'.deep : Int) ≤ 2000000 := by omega
      by_cases hmx : r < t'.deep
      all_goals
        go_wp2_with fail
        go_roundw
        case rel =>
          have q2 := HDT.out
          have q3 := HR.out
          exact ⟨j + 1, _, by omega, by go_num, rfl, by omega, Lib.hid (by omega), (hbw.trans (((Below.refl _ _).alloc (by omega) _))).trans (hb1.mono (by simp; omega))⟩
        case measure => simp [intOf]; omega
    · obtain rfl : j = t.l.length := by omega
      have hf : (t.deep : Int) = r + 1 := by
        have q1 := HSZ.out
        have q2 := HR.out
        have q3 := Tree.deep_eq t
        rw [List.take_length] at q2
        omega
      have HF := Lib.hid hf; clear hf
      go_wp2_with fail
      go_ret
      exact ⟨ret_int (by have := HF.out; omega), ((Below.refl _ _).alloc (Nat.le_refl _) _).trans (hbw.mono (by simp))⟩
theorem deepImpl_c (t : Tree) : deepImplC t := Tree.ind (p := deepImplC) deepImpl_of t

end Go.Proofs.YtilmhemcpgiikaaGreatDoor
