/- toVal and toValS: the copies are their own. -/
import Derived.Test.YtilmhemcpgiikaaDoorVOwn
import Derived.Test.YtilmhemcpgiikaaDoorVSz
namespace Go.Proofs.YtilmhemcpgiikaaDoor
open Go.Deep Go.ChangeShapes Go.WideShapes Go.ChangeAt Go.RowKit
open Go.ChangeMaps (open_string shut_string)


theorem info_val : (Tryd.prog.info? 29).map (fun i => (i.zero, i.size, i.bytes)) = some (some (.agg #[.int .i64 0, .int .i64 0, .int .i64 0, .string { data := #[] }, .slice none 0 0]), 5, 64) := by kernel_rfl
/-- make([]Val, n). -/
theorem make_vals (n : Nat) (hn : n ≤ 1048576) : ∃ f : Nat → Value, ∀ w : World, ∃ cells : Array Value, (Instr.makeSlice 27 (.int .i64 n) (.int .i64 n)).run Tryd.prog w = .ok (.slice (some ⟨w.heap.size, 0, none⟩) n n) (w.alloc (.cells cells 29)) ∧ (w.alloc (.cells cells 29)).rowIs w.heap.size 29 (n * 5) f := by
  obtain ⟨i, hi, hz, hs, hby⟩ := info_parts info_val
  refine ⟨fun k => (madeCells (Value.agg #[.int .i64 0, .int .i64 0, .int .i64 0, .string { data := #[] }, .slice none 0 0]).cells (n * 5)).getD k undef, fun w => ⟨madeCells (Value.agg #[.int .i64 0, .int .i64 0, .int .i64 0, .string { data := #[] }, .slice none 0 0]).cells (n * 5), ?_, ?_⟩⟩
  · have := run_make (P := Tryd.prog) w 27 29 i _ Tryd.underlying27 hi hz .i64 .i64 (n : Int) (n : Int) (by omega) (by omega) (by rw [hby]; omega) (by omega)
    rw [this, hs]
    simp only [Int.toNat_natCast]
  · have hsz := size_madeCells (Value.agg #[.int .i64 0, .int .i64 0, .int .i64 0, .string { data := #[] }, .slice none 0 0]).cells (n * 5)
    have := World.rowIs_alloc w (madeCells (Value.agg #[.int .i64 0, .int .i64 0, .int .i64 0, .string { data := #[] }, .slice none 0 0]).cells (n * 5)) 29 (fun k => (madeCells (Value.agg #[.int .i64 0, .int .i64 0, .int .i64 0, .string { data := #[] }, .slice none 0 0]).cells (n * 5)).getD k undef)
      (fun k hk => by simp [Array.getD, hk])
    rwa [hsz] at this

/-- Two blocks of five cells, made one behind the other. -/
theorem two_blocks (w : World) (o : Obj) (a b c d e a' b' c' d' e' : Value) (T T' : TypeId) :
    (((w.alloc o).alloc (.cells #[a, b, c, d, e] T)).alloc (.cells #[a', b', c', d', e'] T')).heap[w.heap.size + 1]? = some (.cells #[a, b, c, d, e] T (0, 0)) ∧
    (((w.alloc o).alloc (.cells #[a, b, c, d, e] T)).alloc (.cells #[a', b', c', d', e'] T')).heap[w.heap.size + 1 + 1]? = some (.cells #[a', b', c', d', e'] T' (0, 0)) := by
  constructor
  · rw [Below.heap_alloc _ _ _ (by simp only [World.size_alloc]; omega)]
    have := heap_alloc_new (w.alloc o) (.cells #[a, b, c, d, e] T)
    simpa only [World.size_alloc] using this
  · have := heap_alloc_new ((w.alloc o).alloc (.cells #[a, b, c, d, e] T)) (.cells #[a', b', c', d', e'] T')
    simpa only [World.size_alloc] using this
theorem five_kept {W w1 : World} (hb : Below W.heap.size W w1) {B : Nat} {a b c d e : Value} {T : TypeId} (h : W.heap[B]? = some (.cells #[a, b, c, d, e] T (0, 0))) :
    w1.cell? ⟨B, 0, none⟩ = some a ∧ w1.cell? ⟨B, 1, none⟩ = some b ∧ w1.cell? ⟨B, 2, none⟩ = some c ∧ w1.cell? ⟨B, 3, none⟩ = some d ∧ w1.cell? ⟨B, 4, none⟩ = some e ∧ ∀ o, w1.frozen? ⟨B, o, none⟩ = false := by
  have hlt : B < W.heap.size := (Array.getElem?_eq_some_iff.1 h).1
  have h1 : w1.heap[B]? = some (.cells #[a, b, c, d, e] T (0, 0)) := (hb.block B hlt).trans h
  refine ⟨?_, ?_, ?_, ?_, ?_, fun o => ?_⟩
  all_goals simp [World.cell?, World.frozen?, h1]

theorem osl_set {w : World} {T : TypeId} {v : Value} {l : List Tree} {lo hi : Nat} {p : Addr} (h : OSl w T v l (Rng lo hi)) (hp : p.block < lo) (x : Value) : OSl (w.setCell p x) T v l (Rng lo hi) :=
  h.kept (fun b hb => Below.heap_setCell _ _ _ _ (by have := hb.1; omega))

def ToC (t : Tree) : Prop := ∀ (w : World) (u : Value), t.cost ≤ 1048576 → TSl w u t.l → Fits t.kind t.n t.x t.s →
  Calls Tryd.prog 15 #[.agg #[.int .i64 t.kind, .int .i64 t.n, .int .i64 t.x, .string t.s, u]] w fun e w' => ∃ a n c, e = .returned (.agg #[.int .i64 t.kind, .int .i64 t.n, .int .i64 t.x, .string t.s, .slice a n c]) ∧ OSl w' 29 (.slice a n c) t.l (Rng w.heap.size w'.heap.size) ∧ Below w.heap.size w w'

theorem cost_mem {t : Tree} : ∀ {l : List Tree}, t ∈ l → t.cost ≤ costE l
  | [], h => by simp at h
  | u :: ts, h => by
    rw [costE]
    rcases List.mem_cons.1 h with rfl | h
    · omega
    · have := cost_mem h; omega

set_option maxHeartbeats 2000000 in
theorem toValS_of (l : List Tree) (ih : ∀ t ∈ l, ToC t) (w : World) (u : Value) (hcost : costL l ≤ 1048576) (hu : TSl w u l) :
    Calls Tryd.prog 75 #[u] w fun e w' => ∃ a n c, e = .returned (.slice a n c) ∧ OSl w' 29 (.slice a n c) l (Rng w.heap.size w'.heap.size) ∧ Below w.heap.size w w' := by
  obtain ⟨a, cap, b, off, rfl, hcap, hmax, ha, hl⟩ := hu
  have hcl := costL_eq l
  have hlen : l.length ≤ 1048576 := by omega
  have hcE : costE l ≤ 1048576 := by omega
  clear hcl hcost hmax hcap
  obtain ⟨f0, hmk0⟩ := make_vals l.length hlen
  obtain ⟨cells, hmk, hrow0⟩ := hmk0 w
  clear hmk0
  have HP0 := Lib.hid (part_zero hrow0); clear hrow0
  have IH := Lib.hid ih; clear ih
  have HL := Lib.hid hl; clear hl
  have HA := Lib.hid ha; clear ha
  go_enter Tryd.func75, Tryd.ntmps75
  go_wp2_with fail
  clear hmk
  go_loopw [4] (fun i wr => ∃ j : Nat, j ≤ l.length ∧ i = .int .i64 j ∧ Hid (Part w wr 29 l j) ∧ w.heap.size < wr.heap.size ∧ Below w.heap.size w wr) (fun i _ => l.length - (intOf i).toNat)
  case atStart => exact ⟨0, by omega, rfl, HP0, by simp, vbelow1 _ _⟩
  case round =>
    obtain ⟨j, hj, rfl, HP, hgt, hbw⟩ := hrel
    by_cases hjl : j < l.length
    · obtain rfl : a = some ⟨b, off, none⟩ := HA.out (by intro h; rw [h] at hjl; simp at hjl)
      obtain ⟨u, c0, c1, c2, c3, c4, hsl, hfit⟩ := ((HL.out j hjl).kept hbw).parts
      have hih := IH.out l[j] (List.getElem_mem hjl) wr u (by have := cost_mem (List.getElem_mem hjl); omega) hsl hfit
      have hstep := fun w1 a n c (hb : Below wr.heap.size wr w1) (ho : OSl w1 29 (.slice a n c) l[j].l (Rng wr.heap.size w1.heap.size)) => part_step HP.out hjl hgt hb hfit ho
      generalize l[j] = t at *
      have HI := Lib.hid hih; clear hih
      have HST := Lib.hid hstep; clear hstep
      go_wp2_with fail
      refine HI.out.mono ?_
      rintro _ w1 ⟨a2, n2, c2', rfl, ho, hb1⟩
      obtain ⟨hcf, hp⟩ := HST.out w1 a2 n2 c2' hb1 ho
      have HPN := Lib.hid hp; clear hp ho
      obtain ⟨⟨x0, y0⟩, z0⟩ := hcf 0 (by decide)
      obtain ⟨⟨x1, y1⟩, z1⟩ := hcf 1 (by decide)
      obtain ⟨⟨x2, y2⟩, z2⟩ := hcf 2 (by decide)
      obtain ⟨⟨x3, y3⟩, z3⟩ := hcf 3 (by decide)
      obtain ⟨⟨x4, y4⟩, z4⟩ := hcf 4 (by decide)
      rw [Nat.add_zero] at y0 z0
      clear hcf c0 c1 c2 c3 c4
      have hsz1 := hb1.size
      go_wp2_with fail
      go_roundw
      case rel =>
        refine ⟨j + 1, by omega, by go_num, HPN, by simp [World.setCell]; omega, ?_⟩
        exact ((((((hbw.trans (hb1.mono hbw.size))).setCell (Nat.le_refl _) _).setCell (Nat.le_refl _) _).setCell (Nat.le_refl _) _).setCell (Nat.le_refl _) _).setCell (Nat.le_refl _) _
      case measure => simp [intOf]; omega
    · obtain rfl : j = l.length := by omega
      have hdone := part_done HP.out hgt (by unfold maxLen; omega)
      have HD := Lib.hid hdone; clear hdone
      go_wp2_with fail
      go_ret
      exact ⟨_, _, _, rfl, HD.out, hbw⟩

set_option maxHeartbeats 2000000 in
theorem toVal_of (t : Tree) (ih : ∀ t' ∈ t.l, ToC t') : ToC t := by
  intro w u hcost hu hfit
  have hc := Tree.cost_eq t
  have hcl : costL t.l ≤ 1048576 := by omega
  clear hc hcost
  obtain ⟨a, n, cap, rfl⟩ := hu.form
  have IH := Lib.hid ih; clear ih
  have hW3 : Below w.heap.size w (((w.alloc (.cells #[.int .i64 t.kind, .int .i64 t.n, .int .i64 t.x, .string t.s, .slice a n cap] 24)).alloc (.cells #[.int .i64 0, .int .i64 0, .int .i64 0, .string { data := #[] }, .slice none 0 0] 29)).alloc (.cells #[.int .i64 t.kind, .int .i64 t.n, .int .i64 t.x, .string t.s, .slice none 0 0] 29)) :=
    (vbelow2 _ _ _).alloc (by simp only [World.size_alloc]; omega) _
  have hcall := toValS_of t.l IH.out _ _ hcl (hu.kept hW3)
  obtain ⟨hA, hB⟩ := two_blocks w (.cells #[.int .i64 t.kind, .int .i64 t.n, .int .i64 t.x, .string t.s, .slice a n cap] 24) (.int .i64 0) (.int .i64 0) (.int .i64 0) (.string { data := #[] }) (.slice none 0 0) (.int .i64 t.kind) (.int .i64 t.n) (.int .i64 t.x) (.string t.s) (.slice none 0 0) 29 29
  have HA := Lib.hid hA; have HB := Lib.hid hB; have HC := Lib.hid hcall; have HW := Lib.hid hW3
  clear hA hB hcall hW3
  go_enter Tryd.func15, Tryd.ntmps15
  go_wp2_with fail
  refine HC.out.mono ?_
  rintro _ w1 ⟨a2, n2, c2, rfl, ho, hb⟩
  have hsz := hb.size
  simp only [World.size_alloc] at hsz
  obtain ⟨p0, p1, p2, p3, p4, pf⟩ := five_kept hb HA.out
  obtain ⟨q0, q1, q2, q3, q4, qf⟩ := five_kept hb HB.out
  have pf0 := pf 0; have pf1 := pf 1; have pf2 := pf 2; have pf3 := pf 3; have pf4 := pf 4
  have qf4 := qf 4
  clear pf qf
  have HO := Lib.hid ho; have HBB := Lib.hid hb
  clear ho hb
  go_wp2_with fail
  refine bodyPost_ret (v := .agg #[.int .i64 t.kind, .int .i64 t.n, .int .i64 t.x, .string t.s, .slice a2 n2 c2]) (by simp [results, Tryd.results15, go_sem, p0, p1, p2, p3, p4]) rfl ⟨_, _, _, rfl, ?_, ?_⟩
  · refine OSl.mono (S := Rng (w.heap.size + 1 + 1 + 1) w1.heap.size) ?_ (fun b hb => ⟨by have := hb.1; omega, by have := hb.2; simpa [World.setCell] using this⟩)
    iterate 6 refine osl_set ?_ (by dsimp only; omega) _
    have := HO.out
    simpa only [World.size_alloc] using this
  · iterate 6 refine Below.setCell ?_ (by dsimp only; omega) _
    exact HW.out.trans (HBB.out.mono (by simp only [World.size_alloc]; omega))
theorem toVal_c (t : Tree) : ToC t := Tree.ind (p := ToC) toVal_of t

end Go.Proofs.YtilmhemcpgiikaaDoor
