/- eqVal: a tree in memory equals the same tree in memory. -/
import Derived.Test.YtilmhemcpgiikaaDoorVal
import Derived.StillTailTactics
namespace Go.Proofs.YtilmhemcpgiikaaDoor
open Go.ChangeShapes Go.WideShapes Go.ChangeAt Go.RowKit
open Go.ChangeMaps (open_string shut_string)


theorem vbelow1 (w : World) (o : Obj) : Below w.heap.size w (w.alloc o) := (Below.refl _ _).alloc (Nat.le_refl _) o
theorem vbelow2 (w : World) (o o' : Obj) : Below w.heap.size w ((w.alloc o).alloc o') := (vbelow1 w o).alloc (by simp) o'
theorem vnx {w w1 w2 : World} (h : Below w.heap.size w w1) (k : Below w1.heap.size w1 w2) : Below w.heap.size w w2 := h.trans (k.mono h.size)
def EqC (t : Tree) : Prop := ∀ (w : World) (u u' : Value), TSl w u t.l → TSl w u' t.l →
  Calls Tryd.prog 17 #[.agg #[.int .i64 t.kind, .int .i64 t.n, .int .i64 t.x, .string t.s, u], .agg #[.int .i64 t.kind, .int .i64 t.n, .int .i64 t.x, .string t.s, u']] w fun e w' => e = .returned (.bool true) ∧ Below w.heap.size w w'

set_option maxRecDepth 100000 in
set_option maxHeartbeats 1000000 in
theorem eqValS_of (l : List Tree) (ih : ∀ t ∈ l, EqC t) (w : World) (u u' : Value) (hu : TSl w u l) (hu' : TSl w u' l) :
    Calls Tryd.prog 77 #[u, u'] w fun e w' => e = .returned (.bool true) ∧ Below w.heap.size w w' := by
  obtain ⟨a, cap, b, off, rfl, hcap, hmax, ha, hl⟩ := hu
  obtain ⟨a', cap', b', off', rfl, hcap', hmax', ha', hl'⟩ := hu'
  unfold maxLen at hmax
  have IH := Lib.hid ih; clear ih
  have HL := Lib.hid hl; clear hl
  have HA := Lib.hid ha; clear ha
  have HL' := Lib.hid hl'; clear hl'
  have HA' := Lib.hid ha'; clear ha'
  go_enter Tryd.func77, Tryd.ntmps77
  go_wp2_with fail
  go_loopw [5] (fun i wr => ∃ j : Nat, j ≤ l.length ∧ i = .int .i64 j ∧ Below w.heap.size w wr) (fun i _ => l.length - (intOf i).toNat)
  case atStart => exact ⟨0, by omega, rfl, Below.refl _ _⟩
  case round =>
    obtain ⟨j, hj, rfl, hbw⟩ := hrel
    by_cases hjl : j < l.length
    · obtain rfl : a = some ⟨b, off, none⟩ := HA.out (by intro h; rw [h] at hjl; simp at hjl)
      obtain rfl : a' = some ⟨b', off', none⟩ := HA'.out (by intro h; rw [h] at hjl; simp at hjl)
      obtain ⟨u, c0, c1, c2, c3, c4, hsl, _⟩ := ((HL.out j hjl).kept hbw).parts
      obtain ⟨u', d0, d1, d2, d3, d4, hsl', _⟩ := ((HL'.out j hjl).kept hbw).parts
      have hih := IH.out l[j] (List.getElem_mem hjl)
      generalize l[j] = t at *
      have HI := Lib.hid hih; clear hih
      go_wp2_with fail
      go_still_tail 8, (by kernel_rfl)
      change wpList _ _ _ _ _ wr.drew
      go_wp2_with fail
      refine (HI.out _ _ _ (hsl.kept (Below.refl _ _).drew) (hsl'.kept (Below.refl _ _).drew)).mono ?_
      rintro _ w1 ⟨rfl, hb1'⟩
      have hb1 : Below wr.heap.size wr w1 := ⟨hb1'.os, hb1'.tape, hb1'.output, hb1'.size, hb1'.block⟩
      clear hb1'
      go_wp2_with fail
      go_roundw
      case rel => exact ⟨j + 1, by omega, by go_num, hbw.trans (hb1.mono hbw.size)⟩
      case measure => simp [intOf]; omega
    · obtain rfl : j = l.length := by omega
      go_wp2_with fail
      go_ret
      exact ⟨rfl, hbw⟩

set_option maxRecDepth 100000 in
set_option maxHeartbeats 1000000 in
theorem eqVal_of (t : Tree) (ih : ∀ t' ∈ t.l, EqC t') : EqC t := by
  intro w u u' hu hu'
  obtain ⟨a, n, cap, rfl⟩ := hu.form
  obtain ⟨a', n', cap', rfl⟩ := hu'.form
  have IH := Lib.hid ih; clear ih
  go_enter Tryd.func17, Tryd.ntmps17
  go_wp2_with fail
  refine (eqValS_of _ IH.out _ _ _ (hu.kept (vbelow2 _ _ _)) (hu'.kept (vbelow2 _ _ _))).mono ?_
  rintro _ w1 ⟨rfl, hb1⟩
  go_wp2_with fail
  go_ret
  exact ⟨rfl, vnx (vbelow2 _ _ _) hb1⟩
theorem eqVal_c (t : Tree) : EqC t := Tree.ind (p := EqC) eqVal_of t
theorem eqValS_c (l : List Tree) (w : World) (u u' : Value) (hu : TSl w u l) (hu' : TSl w u' l) :
    Calls Tryd.prog 77 #[u, u'] w fun e w' => e = .returned (.bool true) ∧ Below w.heap.size w w' := eqValS_of l (fun t _ => eqVal_c t) w u u' hu hu'

end Go.Proofs.YtilmhemcpgiikaaDoor
