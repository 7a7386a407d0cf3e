/- LessPath of both. -/
import Derived.Test.YteihnonhfaidoaaStep
namespace Go.Proofs.Yteihnonhfaidoaa
open Go.Deep Go.ChangeShapes Go.WideShapes Go.ChangeAt Go.RowKit Go.Joins
open Go.ChangeMaps (open_string shut_string)

/-- Is one path less than another one? -/
def lessPathF : List (Int × Bool) → List (Int × Bool) → Bool
  | [], b => decide (0 < b.length)
  | _ :: _, [] => false
  | x :: a, y :: b => if x = y then lessPathF a b else (decide (x.1 < y.1) || (decide (x.1 = y.1) && x.2))
theorem lessPathF_eq {l m : List (Int × Bool)} {j : Nat} (h : j < l.length) (h' : j < m.length) (e : l[j] = m[j]) :
    lessPathF (l.drop j) (m.drop j) = lessPathF (l.drop (j + 1)) (m.drop (j + 1)) := by
  rw [List.drop_eq_getElem_cons h, List.drop_eq_getElem_cons h', lessPathF, if_pos e]
theorem lessPathF_ne {l m : List (Int × Bool)} {j : Nat} (h : j < l.length) (h' : j < m.length) (e : l[j] ≠ m[j]) :
    lessPathF (l.drop j) (m.drop j) = (decide (l[j].1 < m[j].1) || (decide (l[j].1 = m[j].1) && l[j].2)) := by
  rw [List.drop_eq_getElem_cons h, List.drop_eq_getElem_cons h', lessPathF, if_neg e]
theorem lessPathF_end {l m : List (Int × Bool)} {j : Nat} (hj : j ≤ l.length) (hj' : j ≤ m.length) (h : ¬ (j < l.length ∧ j < m.length)) :
    lessPathF (l.drop j) (m.drop j) = decide (l.length < m.length) := by
  by_cases hl : j < l.length
  · have hm : m.drop j = [] := List.drop_of_length_le (by omega)
    rw [hm, List.drop_eq_getElem_cons hl, lessPathF]
    symm; apply decide_eq_false; omega
  · have hm : l.drop j = [] := List.drop_of_length_le (by omega)
    rw [hm, lessPathF, List.length_drop]
    apply decide_eq_decide.2; omega

set_option maxRecDepth 100000 in
set_option maxHeartbeats 4000000 in
theorem lessPath_spec (l m : List (Int × Bool)) (w : World) (u u' : Value) (hu : StSl w u l) (hu' : StSl w u' m) :
    Calls Try.prog 17 #[u, u'] w fun e w' => e = .returned (.bool (lessPathF l m)) ∧ Below w.heap.size w w' := by
  obtain ⟨a, cap, b, off, rfl, hcap, hmax, ha, hl⟩ := hu
  obtain ⟨a', cap', b', off', rfl, hcap', hmax', ha', hl'⟩ := hu'
  unfold maxLen at hmax hmax'
  have HL := Lib.hid hl; clear hl
  have HA := Lib.hid ha; clear ha
  have HL' := Lib.hid hl'; clear hl'
  have HA' := Lib.hid ha'; clear ha'
  go_enter Try.func17, Try.ntmps17
  go_wp2_with fail
  go_loopw [5] (fun i wr => ∃ j : Nat, j ≤ l.length ∧ j ≤ m.length ∧ i = .int .i64 j ∧ Hid (lessPathF (l.drop j) (m.drop j) = lessPathF l m) ∧ Below w.heap.size w wr) (fun i _ => l.length - (intOf i).toNat)
  case atStart => exact ⟨0, by omega, by omega, rfl, Lib.hid rfl, Below.refl _ _⟩
  case round =>
    obtain ⟨j, hj, hj', rfl, HF, hbw⟩ := hrel
    by_cases hjl : j < l.length
    · by_cases hjm : j < m.length
      · obtain rfl : a = some ⟨b, off, none⟩ := HA.out (by intro h; rw [h] at hjl; simp at hjl)
        obtain rfl : a' = some ⟨b', off', none⟩ := HA'.out (by intro h; rw [h] at hjm; simp at hjm)
        clear HA HA'
        obtain ⟨c0, c1⟩ := HL.out j hjl
        obtain ⟨d0, d1⟩ := HL'.out j hjm
        replace c0 := (hbw.cell (p := ⟨b, off + j * 2, none⟩) (World.block_lt_of_cell? w _ c0)).trans c0
        replace c1 := (hbw.cell (p := ⟨b, off + j * 2 + 1, none⟩) (World.block_lt_of_cell? w _ c1)).trans c1
        replace d0 := (hbw.cell (p := ⟨b', off' + j * 2, none⟩) (World.block_lt_of_cell? w _ d0)).trans d0
        replace d1 := (hbw.cell (p := ⟨b', off' + j * 2 + 1, none⟩) (World.block_lt_of_cell? w _ d1)).trans d1
        have he := fun e => HF.out.symm.trans (lessPathF_eq hjl hjm e)
        have hn := fun e => HF.out.symm.trans (lessPathF_ne hjl hjm e)
        generalize l[j] = x at *
        generalize m[j] = y at *
        obtain ⟨p, q⟩ := x
        obtain ⟨r, s⟩ := y
        dsimp only at c0 c1 d0 d1 hn
        by_cases hxy : (p, q) = (r, s)
        · obtain ⟨rfl, rfl⟩ := Prod.mk.inj hxy
          have HE := Lib.hid (he rfl)
          clear he hn hxy
          go_wp2_with fail
          go_quiet (fail)
          go_wp2_with fail
          go_roundw
          case rel => exact ⟨j + 1, by omega, by omega, by go_num, Lib.hid HE.out.symm, ⟨hbw.os, hbw.tape, hbw.output, hbw.size, hbw.block⟩⟩
          case measure => simp [intOf]; omega
        · have HN := Lib.hid (hn hxy)
          clear he hn
          by_cases hpr : p = r
          · subst hpr
            have hqs : q ≠ s := fun h => hxy (by rw [h])
            have hlt : decide (p < p) = false := by simp
            have hlt2 : ¬ p < p := by omega
            clear hxy
            cases q <;> cases s
            · exact absurd rfl hqs
            · clear hqs
              go_wp2_with fail
              go_quiet (fail)
              go_wp2_with fail
              go_quiet (fail)
              go_wp2_with fail
              go_ret
              exact ⟨ret_bool (by rw [HN.out]; simp), ⟨hbw.os, hbw.tape, hbw.output, hbw.size, hbw.block⟩⟩
            · clear hqs
              go_wp2_with fail
              go_quiet (fail)
              go_wp2_with fail
              go_quiet (fail)
              go_wp2_with fail
              go_ret
              exact ⟨ret_bool (by rw [HN.out]; simp), ⟨hbw.os, hbw.tape, hbw.output, hbw.size, hbw.block⟩⟩
            · exact absurd rfl hqs
          · have hb1 : (p == r) = false := by simpa using hpr
            have hb2 : (p != r) = true := by simpa using hpr
            clear hxy
            by_cases hlt : p < r
            · have hd : decide (p < r) = true := decide_eq_true hlt
              go_wp2_with fail
              go_quiet (fail)
              go_wp2_with fail
              go_quiet (fail)
              go_wp2_with fail
              go_ret
              exact ⟨ret_bool (by rw [HN.out]; simp [hlt]), ⟨hbw.os, hbw.tape, hbw.output, hbw.size, hbw.block⟩⟩
            · have hd : decide (p < r) = false := decide_eq_false hlt
              go_wp2_with fail
              go_quiet (fail)
              go_wp2_with fail
              go_quiet (fail)
              go_wp2_with fail
              go_ret
              exact ⟨ret_bool (by rw [HN.out]; simp [hlt, hpr]), ⟨hbw.os, hbw.tape, hbw.output, hbw.size, hbw.block⟩⟩
      · obtain rfl : j = m.length := by omega
        have HEND := Lib.hid (HF.out.symm.trans (lessPathF_end hj hj' (by omega)))
        have hd : decide (l.length < m.length) = false := decide_eq_false (by omega)
        go_wp2_with fail
        go_ret
        exact ⟨ret_bool (by rw [HEND.out]; first | rfl | simp [hd]), hbw⟩
    · obtain rfl : j = l.length := by omega
      have HEND := Lib.hid (HF.out.symm.trans (lessPathF_end hj hj' (by omega)))
      go_wp2_with fail
      go_ret
      exact ⟨ret_bool (by rw [HEND.out]), hbw⟩

set_option maxRecDepth 100000 in
set_option maxHeartbeats 4000000 in
theorem lessPath_impl (l m : List (Int × Bool)) (w : World) (u u' : Value) (hu : StSl w u l) (hu' : StSl w u' m) :
    Calls Try.prog 19 #[u, u'] w fun e w' => e = .returned (.bool (lessPathF l m)) ∧ Below w.heap.size w w' := by
  obtain ⟨a, cap, b, off, rfl, hcap, hmax, ha, hl⟩ := hu
  obtain ⟨a', cap', b', off', rfl, hcap', hmax', ha', hl'⟩ := hu'
  unfold maxLen at hmax hmax'
  have HL := Lib.hid hl; clear hl
  have HA := Lib.hid ha; clear ha
  have HL' := Lib.hid hl'; clear hl'
  have HA' := Lib.hid ha'; clear ha'
  by_cases hml : m.length < l.length
  · have hm1 : True := trivial
    clear hm1
    go_enter Try.func19, Try.ntmps19
    go_wp2_with fail
    go_loopw [5, 11] (fun _ i wr => ∃ j : Nat, j ≤ l.length ∧ j ≤ m.length ∧ i = .int .i64 j ∧ Hid (lessPathF (l.drop j) (m.drop j) = lessPathF l m) ∧ Below w.heap.size w wr) (fun _ i _ => m.length - (intOf i).toNat)
    case atStart => exact ⟨0, by omega, by omega, rfl, Lib.hid rfl, Below.refl _ _⟩
    case round =>
      obtain ⟨j, hj, hj', rfl, HF, hbw⟩ := hrel
      by_cases hjb : j < m.length
      · have hjl : j < l.length := by omega
        have hjm : j < m.length := by omega
        obtain rfl : a = some ⟨b, off, none⟩ := HA.out (by intro h; rw [h] at hjl; simp at hjl)
        obtain rfl : a' = some ⟨b', off', none⟩ := HA'.out (by intro h; rw [h] at hjm; simp at hjm)
        clear HA HA'
        obtain ⟨c0, c1⟩ := HL.out j hjl
        obtain ⟨d0, d1⟩ := HL'.out j hjm
        replace c0 := (hbw.cell (p := ⟨b, off + j * 2, none⟩) (World.block_lt_of_cell? w _ c0)).trans c0
        replace c1 := (hbw.cell (p := ⟨b, off + j * 2 + 1, none⟩) (World.block_lt_of_cell? w _ c1)).trans c1
        replace d0 := (hbw.cell (p := ⟨b', off' + j * 2, none⟩) (World.block_lt_of_cell? w _ d0)).trans d0
        replace d1 := (hbw.cell (p := ⟨b', off' + j * 2 + 1, none⟩) (World.block_lt_of_cell? w _ d1)).trans d1
        have he := fun e => HF.out.symm.trans (lessPathF_eq hjl hjm e)
        have hn := fun e => HF.out.symm.trans (lessPathF_ne hjl hjm e)
        generalize l[j] = x at *
        generalize m[j] = y at *
        obtain ⟨p, q⟩ := x
        obtain ⟨r, s⟩ := y
        dsimp only at c0 c1 d0 d1 hn
        by_cases hxy : (p, q) = (r, s)
        · obtain ⟨rfl, rfl⟩ := Prod.mk.inj hxy
          have HE := Lib.hid (he rfl)
          clear he hn hxy
          go_wp2_with fail
          go_quiet (fail)
          go_wp2_with fail
          go_roundw
          case rel => exact ⟨j + 1, by omega, by omega, by go_num, Lib.hid HE.out.symm, ⟨hbw.os, hbw.tape, hbw.output, hbw.size, hbw.block⟩⟩
          case measure => simp [intOf]; omega
        · have HN := Lib.hid (hn hxy)
          clear he hn
          by_cases hpr : p = r
          · subst hpr
            have hqs : q ≠ s := fun h => hxy (by rw [h])
            have hlt : decide (p < p) = false := by simp
            have hlt2 : ¬ p < p := by omega
            clear hxy
            cases q <;> cases s
            · exact absurd rfl hqs
            · clear hqs
              go_wp2_with fail
              go_quiet (fail)
              go_wp2_with fail
              go_quiet (fail)
              go_wp2_with fail
              go_ret
              exact ⟨ret_bool (by rw [HN.out]; simp), ⟨hbw.os, hbw.tape, hbw.output, hbw.size, hbw.block⟩⟩
            · clear hqs
              go_wp2_with fail
              go_quiet (fail)
              go_wp2_with fail
              go_quiet (fail)
              go_wp2_with fail
              go_ret
              exact ⟨ret_bool (by rw [HN.out]; simp), ⟨hbw.os, hbw.tape, hbw.output, hbw.size, hbw.block⟩⟩
            · exact absurd rfl hqs
          · have hb1 : (p == r) = false := by simpa using hpr
            have hb2 : (p != r) = true := by simpa using hpr
            clear hxy
            by_cases hlt : p < r
            · have hd : decide (p < r) = true := decide_eq_true hlt
              go_wp2_with fail
              go_quiet (fail)
              go_wp2_with fail
              go_quiet (fail)
              go_wp2_with fail
              go_ret
              exact ⟨ret_bool (by rw [HN.out]; simp [hlt]), ⟨hbw.os, hbw.tape, hbw.output, hbw.size, hbw.block⟩⟩
            · have hd : decide (p < r) = false := decide_eq_false hlt
              go_wp2_with fail
              go_quiet (fail)
              go_wp2_with fail
              go_quiet (fail)
              go_wp2_with fail
              go_ret
              exact ⟨ret_bool (by rw [HN.out]; simp [hlt, hpr]), ⟨hbw.os, hbw.tape, hbw.output, hbw.size, hbw.block⟩⟩
      · obtain rfl : j = m.length := by omega
        have HEND := Lib.hid (HF.out.symm.trans (lessPathF_end hj hj' (by omega)))
        have hd : decide (l.length < m.length) = false := decide_eq_false (by omega)
        go_wp2_with fail
        go_ret
        exact ⟨ret_bool (by rw [HEND.out]; first | rfl | simp [hd]), hbw⟩
  · have hm1 : True := trivial
    clear hm1
    go_enter Try.func19, Try.ntmps19
    go_wp2_with fail
    go_loopw [5, 11] (fun _ i wr => ∃ j : Nat, j ≤ l.length ∧ j ≤ m.length ∧ i = .int .i64 j ∧ Hid (lessPathF (l.drop j) (m.drop j) = lessPathF l m) ∧ Below w.heap.size w wr) (fun _ i _ => l.length - (intOf i).toNat)
    case atStart => exact ⟨0, by omega, by omega, rfl, Lib.hid rfl, Below.refl _ _⟩
    case round =>
      obtain ⟨j, hj, hj', rfl, HF, hbw⟩ := hrel
      by_cases hjb : j < l.length
      · have hjl : j < l.length := by omega
        have hjm : j < m.length := by omega
        obtain rfl : a = some ⟨b, off, none⟩ := HA.out (by intro h; rw [h] at hjl; simp at hjl)
        obtain rfl : a' = some ⟨b', off', none⟩ := HA'.out (by intro h; rw [h] at hjm; simp at hjm)
        clear HA HA'
        obtain ⟨c0, c1⟩ := HL.out j hjl
        obtain ⟨d0, d1⟩ := HL'.out j hjm
        replace c0 := (hbw.cell (p := ⟨b, off + j * 2, none⟩) (World.block_lt_of_cell? w _ c0)).trans c0
        replace c1 := (hbw.cell (p := ⟨b, off + j * 2 + 1, none⟩) (World.block_lt_of_cell? w _ c1)).trans c1
        replace d0 := (hbw.cell (p := ⟨b', off' + j * 2, none⟩) (World.block_lt_of_cell? w _ d0)).trans d0
        replace d1 := (hbw.cell (p := ⟨b', off' + j * 2 + 1, none⟩) (World.block_lt_of_cell? w _ d1)).trans d1
        have he := fun e => HF.out.symm.trans (lessPathF_eq hjl hjm e)
        have hn := fun e => HF.out.symm.trans (lessPathF_ne hjl hjm e)
        generalize l[j] = x at *
        generalize m[j] = y at *
        obtain ⟨p, q⟩ := x
        obtain ⟨r, s⟩ := y
        dsimp only at c0 c1 d0 d1 hn
        by_cases hxy : (p, q) = (r, s)
        · obtain ⟨rfl, rfl⟩ := Prod.mk.inj hxy
          have HE := Lib.hid (he rfl)
          clear he hn hxy
          go_wp2_with fail
          go_quiet (fail)
          go_wp2_with fail
          go_roundw
          case rel => exact ⟨j + 1, by omega, by omega, by go_num, Lib.hid HE.out.symm, ⟨hbw.os, hbw.tape, hbw.output, hbw.size, hbw.block⟩⟩
          case measure => simp [intOf]; omega
        · have HN := Lib.hid (hn hxy)
          clear he hn
          by_cases hpr : p = r
          · subst hpr
            have hqs : q ≠ s := fun h => hxy (by rw [h])
            have hlt : decide (p < p) = false := by simp
            have hlt2 : ¬ p < p := by omega
            clear hxy
            cases q <;> cases s
            · exact absurd rfl hqs
            · clear hqs
              go_wp2_with fail
              go_quiet (fail)
              go_wp2_with fail
              go_quiet (fail)
              go_wp2_with fail
              go_ret
              exact ⟨ret_bool (by rw [HN.out]; simp), ⟨hbw.os, hbw.tape, hbw.output, hbw.size, hbw.block⟩⟩
            · clear hqs
              go_wp2_with fail
              go_quiet (fail)
              go_wp2_with fail
              go_quiet (fail)
              go_wp2_with fail
              go_ret
              exact ⟨ret_bool (by rw [HN.out]; simp), ⟨hbw.os, hbw.tape, hbw.output, hbw.size, hbw.block⟩⟩
            · exact absurd rfl hqs
          · have hb1 : (p == r) = false := by simpa using hpr
            have hb2 : (p != r) = true := by simpa using hpr
            clear hxy
            by_cases hlt : p < r
            · have hd : decide (p < r) = true := decide_eq_true hlt
              go_wp2_with fail
              go_quiet (fail)
              go_wp2_with fail
              go_quiet (fail)
              go_wp2_with fail
              go_ret
              exact ⟨ret_bool (by rw [HN.out]; simp [hlt]), ⟨hbw.os, hbw.tape, hbw.output, hbw.size, hbw.block⟩⟩
            · have hd : decide (p < r) = false := decide_eq_false hlt
              go_wp2_with fail
              go_quiet (fail)
              go_wp2_with fail
              go_quiet (fail)
              go_wp2_with fail
              go_ret
              exact ⟨ret_bool (by rw [HN.out]; simp [hlt, hpr]), ⟨hbw.os, hbw.tape, hbw.output, hbw.size, hbw.block⟩⟩
      · obtain rfl : j = l.length := by omega
        have HEND := Lib.hid (HF.out.symm.trans (lessPathF_end hj hj' (by omega)))
        go_wp2_with fail
        go_ret
        exact ⟨ret_bool (by rw [HEND.out]), hbw⟩
end Go.Proofs.Yteihnonhfaidoaa
