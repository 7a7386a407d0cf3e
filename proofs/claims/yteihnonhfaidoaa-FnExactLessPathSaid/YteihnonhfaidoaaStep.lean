/- Slices of steps: what they read as; toStepS, eqStepS, szStepS; LessPath of both. -/
import Derived.Test.YteihnonhfaidoaaCConv
import Derived.Deep.OwnRows
import Derived.StillTailTactics
import Derived.ChangeSame
namespace Go.Proofs.Yteihnonhfaidoaa
open Go.Deep Go.ChangeShapes Go.WideShapes Go.ChangeAt Go.RowKit Go.Joins
open Go.ChangeMaps (open_string shut_string)

/-- A slice value whose elements hold these steps. -/
def StSl (w : World) (v : Value) (l : List (Int × Bool)) : Prop :=
  ∃ a cap b off, v = .slice a l.length cap ∧ l.length ≤ cap ∧ cap ≤ maxLen ∧ (l ≠ [] → a = some ⟨b, off, none⟩) ∧
    ∀ j (h : j < l.length), w.cell? ⟨b, off + j * 2, none⟩ = some (.int .i64 l[j].1) ∧ w.cell? ⟨b, off + j * 2 + 1, none⟩ = some (.bool l[j].2)
theorem StSl.kept {w w' : World} (hb : Below w.heap.size w w') {v : Value} {l : List (Int × Bool)} (h : StSl w v l) : StSl w' v l := by
  obtain ⟨a, cap, b', off', h1, h2, h3, h4, h5⟩ := h
  refine ⟨a, cap, b', off', h1, h2, h3, h4, fun j hj => ?_⟩
  obtain ⟨c0, c1⟩ := h5 j hj
  have hlt := World.block_lt_of_cell? w _ c0
  have kc := fun o v (h : w.cell? ⟨_, o, none⟩ = some v) => (World.cell?_of_block (w := w) (a := ⟨_, o, none⟩) (hb.block _ hlt)).trans h
  exact ⟨kc _ _ c0, kc _ _ c1⟩

section
variable {H : Type} {enc : TypeId × Value → H} {P : Program} {w : World}
theorem open_step_cells {tV : TypeId} {f0 f1 : Field} {spare : Nat → Bool} {held : Bool}
    (hs : P.underlying tV = some (.struct #[f0, f1])) (hone : oneCellFields P #[f0, f1] = true) (hC : P.cellsOf tV = 2)
    (h0 : P.underlying f0.type = some (.int .i64)) (h1 : P.underlying f1.type = some .bool)
    (fuel : Nat) (cs : List Value) (x : DataW H × List MemPlace) (h : DataW.trod enc P w 0 spare held fuel tV cs = some x) :
      ∃ (t : Int × Bool), cs = [.int .i64 t.1, .bool t.2] ∧ -9223372036854775808 ≤ t.1 ∧ t.1 ≤ 9223372036854775807 := by
  obtain ⟨xs, n, rfl, hx, hcs, hlen, hg⟩ := DataW.trod_struct hs h
  obtain ⟨o0, k0⟩ := hone_of hone 0 f0 rfl
  obtain ⟨o1, k1⟩ := hone_of hone 1 f1 rfl
  match cs, hcs.trans hC with
  | [v0, v1], _ =>
    match xs, hlen with
    | [y0, y1], _ =>
      have g0 : DataW.trod enc P w 0 spare held n f0.type [v0] = some y0 := by simpa [o0, k0] using hg 0 f0 rfl
      have g1 : DataW.trod enc P w 0 spare held n f1.type [v1] = some y1 := by simpa [o1, k1] using hg 1 f1 rfl
      obtain ⟨K, e0, _, w0⟩ := DataW.trod_int h0 g0
      obtain ⟨N, e1, _⟩ := DataW.trod_bool h1 g1
      simp only [List.cons.injEq, and_true] at e0 e1
      subst e0 e1
      exact ⟨(K, N), rfl, wf64 w0⟩
/-- A slice of steps that came in. -/
theorem open_steps {tV tL : TypeId} {f0 f1 : Field} {spare : Nat → Bool} {held : Bool} {v : Value} {d : DataW H} {p : List MemPlace} {a : Option Addr} {len cap : Nat}
    (hs : P.underlying tV = some (.struct #[f0, f1])) (hone : oneCellFields P #[f0, f1] = true) (hC : P.cellsOf tV = 2)
    (h0 : P.underlying f0.type = some (.int .i64)) (h1 : P.underlying f1.type = some .bool) (hL : P.underlying tL = some (.slice tV))
    (hv : v = .slice a len cap) (h : DataW.Trod enc P w 0 spare held tL v d p) : ∃ l, StSl w v l := by
  subst hv
  obtain ⟨fuel, hf⟩ := h
  rcases DataW.trod_slice hL hf with ⟨hc, _⟩ | ⟨a, len, cap, elems, rest, m, rfl, hc, _, _, hl, hm, hel, hat, _, _⟩
  · simp [Value.cells] at hc
    obtain ⟨rfl, rfl, rfl⟩ := hc
    exact ⟨[], none, 0, 0, 0, rfl, Nat.le_refl _, by simp [maxLen], fun h => absurd rfl h, fun j h => absurd h (Nat.not_lt_zero _)⟩
  · simp [Value.cells] at hc
    obtain ⟨rfl, rfl, rfl⟩ := hc
    have each : ∀ i, i < len → ∃ (t : Int × Bool), w.cells? 0 (a.add (i * 2)) 2 = some [.int .i64 t.1, .bool t.2] := by
      intro i hi
      have hi' := hat i hi
      rw [hC] at hi'
      have hsome : elems[i]? = some (elems[i]'(by omega)) := List.getElem?_eq_getElem (by omega)
      rw [hsome] at hi'
      cases hcc : w.cells? 0 (a.add (i * 2)) 2 with
      | none => rw [hcc] at hi'; simp at hi'
      | some cs' =>
        rw [hcc] at hi'
        obtain ⟨t, rfl, _⟩ := open_step_cells hs hone hC h0 h1 m cs' _ hi'
        exact ⟨t, rfl⟩
    by_cases hz : len = 0
    · subst hz
      exact ⟨[], some a, cap, 0, 0, rfl, hl, hm, fun h => absurd rfl h, fun j h => absurd h (Nat.not_lt_zero _)⟩
    · obtain ⟨T, hT⟩ := choose_lt (n := len) (p := fun i (t : Int × Bool) => w.cells? 0 (a.add (i * 2)) 2 = some [.int .i64 t.1, .bool t.2]) each
      obtain ⟨b, off, spot⟩ := a
      have hspot : spot = none := by
        have hc := hT 0 (by omega)
        have := (World.cells?_some hc).2.2 0 (by omega)
        exact World.cell?_spot (by simpa [Addr.add] using this)
      subst hspot
      have hadd : ∀ j, (⟨b, off, none⟩ : Addr).add j = ⟨b, off + j, none⟩ := fun j => by unfold Addr.add; split <;> simp_all
      refine ⟨(List.range len).map T, some ⟨b, off, none⟩, cap, b, off, by simp, by simpa using hl, hm, fun _ => rfl, fun j hj => ?_⟩
      have hj' : j < len := by simpa using hj
      have hcell := (World.cells?_some (hT j hj')).2.2
      rw [List.getElem_map, List.getElem_range]
      have ad : ∀ q, ((⟨b, off, none⟩ : Addr).add (j * 2)).add q = ⟨b, off + j * 2 + q, none⟩ := fun q => by rw [add_add, hadd, Nat.add_assoc]
      have k0 := hcell 0 (by omega)
      have k1 := hcell 1 (by omega)
      rw [ad] at k0 k1
      exact ⟨by simpa using k0, by simpa using k1⟩
end

theorem szStepS_c (a : Option Addr) (len cap : Nat) (left : Int) (w : World) (h1 : 0 ≤ left) (h2 : left ≤ 1048576) (h3 : len ≤ 9223372036854775807) :
    Calls Try.prog 16 #[.slice a len cap, .int .i64 left] w fun e w' => e = .returned (.int .i64 (if (len : Int) ≤ left then left - len else -1)) ∧ w = w' := by
  by_cases h : (len : Int) ≤ left
  · rw [if_pos h]
    have hd : decide (left - (len : Int) < 0) = false := decide_eq_false (by omega)
    go_enter Try.func16, Try.ntmps16
    go_wp2_with fail
    go_ret
    exact ⟨rfl, rfl⟩
  · rw [if_neg h]
    have hd : decide (left - (len : Int) < 0) = true := decide_eq_true (by omega)
    go_enter Try.func16, Try.ntmps16
    go_wp2_with fail
    go_ret
    exact ⟨rfl, rfl⟩

theorem eqStep_c (m : Int) (e : Bool) (w : World) :
    Calls Try.prog 48 #[.agg #[.int .i64 m, .bool e], .agg #[.int .i64 m, .bool e]] w fun en w' => en = .returned (.bool true) ∧ Below w.heap.size w w' := by
  have he : (e != e) = false := by simp
  go_enter Try.func48, Try.ntmps48
  go_wp2_with fail
  go_ret
  exact ⟨rfl, below2 _ _ _⟩

set_option maxHeartbeats 1000000 in
theorem eqStepS_c (l : List (Int × Bool)) (w : World) (u u' : Value) (hu : StSl w u l) (hu' : StSl w u' l) :
    Calls Try.prog 20 #[u, u'] w fun e w' => e = .returned (.bool true) ∧ Below w.heap.size w w' := by
  obtain ⟨a, cap, b, off, rfl, hcap, hmax, ha, hl⟩ := hu
  obtain ⟨a', cap', b', off', rfl, hcap', hmax', ha', hl'⟩ := hu'
  unfold maxLen at hmax
  have HL := Lib.hid hl; clear hl
  have HA := Lib.hid ha; clear ha
  have HL' := Lib.hid hl'; clear hl'
  have HA' := Lib.hid ha'; clear ha'
  go_enter Try.func20, Try.ntmps20
  go_wp2_with fail
  go_loopw [5] (fun i wr => ∃ j : Nat, j ≤ l.length ∧ i = .int .i64 j ∧ Below w.heap.size w wr) (fun i _ => l.length - (intOf i).toNat)
  case atStart => exact ⟨0, by omega, rfl, Below.refl _ _⟩
  case round =>
    obtain ⟨j, hj, rfl, hbw⟩ := hrel
    by_cases hjl : j < l.length
    · obtain rfl : a = some ⟨b, off, none⟩ := HA.out (by intro h; rw [h] at hjl; simp at hjl)
      obtain rfl : a' = some ⟨b', off', none⟩ := HA'.out (by intro h; rw [h] at hjl; simp at hjl)
      obtain ⟨c0, c1⟩ := HL.out j hjl
      obtain ⟨d0, d1⟩ := HL'.out j hjl
      replace c0 := (hbw.cell (p := ⟨b, off + j * 2, none⟩) (World.block_lt_of_cell? w _ c0)).trans c0
      replace c1 := (hbw.cell (p := ⟨b, off + j * 2 + 1, none⟩) (World.block_lt_of_cell? w _ c1)).trans c1
      replace d0 := (hbw.cell (p := ⟨b', off' + j * 2, none⟩) (World.block_lt_of_cell? w _ d0)).trans d0
      replace d1 := (hbw.cell (p := ⟨b', off' + j * 2 + 1, none⟩) (World.block_lt_of_cell? w _ d1)).trans d1
      generalize l[j] = t at *
      go_wp2_with fail
      go_still_tail 8, (by kernel_rfl)
      change wpList _ _ _ _ _ wr.drew
      go_wp2_with fail
      refine (eqStep_c _ _ _).mono ?_
      rintro _ w1 ⟨rfl, hb1'⟩
      have hb1 : Below wr.heap.size wr w1 := ⟨hb1'.os, hb1'.tape, hb1'.output, hb1'.size, hb1'.block⟩
      clear hb1'
      go_wp2_with fail
      go_roundw
      case rel => exact ⟨j + 1, by omega, by go_num, hbw.trans (hb1.mono hbw.size)⟩
      case measure => simp [intOf]; omega
    · obtain rfl : j = l.length := by omega
      go_wp2_with fail
      go_ret
      exact ⟨rfl, hbw⟩

theorem info_step : (Try.prog.info? 67).map (fun i => (i.zero, i.size, i.bytes)) = some (some (.agg #[.int .i64 0, .bool false]), 2, 16) := by kernel_rfl
/-- make([]Step, n). -/
theorem make_steps (n : Nat) (hn : n ≤ 1048576) : ∃ f : Nat → Value, ∀ w : World, ∃ cells : Array Value, (Instr.makeSlice 31 (.int .i64 n) (.int .i64 n)).run Try.prog w = .ok (.slice (some ⟨w.heap.size, 0, none⟩) n n) (w.alloc (.cells cells 67)) ∧ (w.alloc (.cells cells 67)).rowIs w.heap.size 67 (n * 2) f := by
  obtain ⟨i, hi, hz, hs, hby⟩ := info_parts info_step
  refine ⟨fun k => (madeCells (Value.agg #[.int .i64 0, .bool false]).cells (n * 2)).getD k undef, fun w => ⟨madeCells (Value.agg #[.int .i64 0, .bool false]).cells (n * 2), ?_, ?_⟩⟩
  · have := run_make (P := Try.prog) w 31 67 i _ Try.underlying31 hi hz .i64 .i64 (n : Int) (n : Int) (by omega) (by omega) (by rw [hby]; omega) (by omega)
    rw [this, hs]
    simp only [Int.toNat_natCast]
  · have hsz := size_madeCells (Value.agg #[.int .i64 0, .bool false]).cells (n * 2)
    have := World.rowIs_alloc w (madeCells (Value.agg #[.int .i64 0, .bool false]).cells (n * 2)) 67 (fun k => (madeCells (Value.agg #[.int .i64 0, .bool false]).cells (n * 2)).getD k undef)
      (fun k hk => by simp [Array.getD, hk])
    rwa [hsz] at this

/-- A row of steps, the first j of which are filled. -/
def SPart (w wr : World) (T : TypeId) (l : List (Int × Bool)) (j : Nat) : Prop :=
  ∃ f : Nat → Value, wr.rowIs w.heap.size T (l.length * 2) f ∧ ∀ i (h : i < l.length), i < j → f (i * 2) = .int .i64 l[i].1 ∧ f (i * 2 + 1) = .bool l[i].2
theorem spart_zero {w wr : World} {T : TypeId} {l : List (Int × Bool)} {f : Nat → Value} (h : wr.rowIs w.heap.size T (l.length * 2) f) : SPart w wr T l 0 :=
  ⟨f, h, fun _ _ h => absurd h (Nat.not_lt_zero _)⟩
theorem spart_step {w wr w1 : World} {T : TypeId} {l : List (Int × Bool)} {j : Nat} (hp : SPart w wr T l j) (hj : j < l.length) (hlt : w.heap.size < wr.heap.size) (hb : Below wr.heap.size wr w1) :
    (∀ r, r < 2 → (∃ x, w1.cell? ⟨w.heap.size, j * 2 + r, none⟩ = some x) ∧ w1.frozen? ⟨w.heap.size, j * 2 + r, none⟩ = false) ∧
    SPart w ((w1.setCell ⟨w.heap.size, j * 2, none⟩ (.int .i64 l[j].1)).setCell ⟨w.heap.size, j * 2 + 1, none⟩ (.bool l[j].2)) T l (j + 1) := by
  obtain ⟨f, hrow, hc⟩ := hp
  have hrow1 : w1.rowIs w.heap.size T (l.length * 2) f := hrow.of_block (hb.block _ hlt)
  refine ⟨fun r hr => ⟨⟨_, hrow1.cell (by omega)⟩, hrow1.frozen _⟩, _, (hrow1.set (j * 2) (.int .i64 l[j].1)).set (j * 2 + 1) (.bool l[j].2), fun i hi hij => ?_⟩
  by_cases e : i = j
  · subst e
    constructor
    · show (if _ then _ else _) = _
      simp
    · show (if _ then _ else _) = _
      simp
  · obtain ⟨e0, e1⟩ := hc i hi (by omega)
    constructor
    · simp only [show ¬ i * 2 = j * 2 + 1 by omega, show ¬ i * 2 = j * 2 by omega, if_false]; exact e0
    · simp only [show ¬ i * 2 + 1 = j * 2 + 1 by omega, show ¬ i * 2 + 1 = j * 2 by omega, if_false]; exact e1
theorem spart_done {w wr : World} {T : TypeId} {l : List (Int × Bool)} (hp : SPart w wr T l l.length) (hmax : l.length ≤ maxLen) :
    StSl wr (.slice (some ⟨w.heap.size, 0, none⟩) l.length l.length) l := by
  obtain ⟨f, hrow, hc⟩ := hp
  refine ⟨_, _, w.heap.size, 0, rfl, Nat.le_refl _, hmax, fun _ => rfl, fun j hj => ?_⟩
  obtain ⟨e0, e1⟩ := hc j hj hj
  rw [Nat.zero_add, hrow.cell (by omega), hrow.cell (by omega), e0, e1]
  exact ⟨rfl, rfl⟩

set_option maxHeartbeats 2000000 in
theorem toStepS_c (l : List (Int × Bool)) (w : World) (u : Value) (hu : StSl w u l) (hlen : l.length ≤ 1048576) :
    Calls Try.prog 18 #[u] w fun e w' => ∃ v, e = .returned v ∧ StSl w' v l ∧ Below w.heap.size w w' := by
  obtain ⟨a, cap, b, off, rfl, hcap, hmax, ha, hl⟩ := hu
  clear hmax hcap
  obtain ⟨f0, hmk0⟩ := make_steps l.length hlen
  obtain ⟨cells, hmk, hrow0⟩ := hmk0 w
  clear hmk0
  have HP0 := Lib.hid (spart_zero hrow0); clear hrow0
  have HL := Lib.hid hl; clear hl
  have HA := Lib.hid ha; clear ha
  go_enter Try.func18, Try.ntmps18
  go_wp2_with fail
  clear hmk
  go_loopw [4] (fun i wr => ∃ j : Nat, j ≤ l.length ∧ i = .int .i64 j ∧ Hid (SPart w wr 67 l j) ∧ w.heap.size < wr.heap.size ∧ Below w.heap.size w wr) (fun i _ => l.length - (intOf i).toNat)
  case atStart => exact ⟨0, by omega, rfl, HP0, by simp, below1 _ _⟩
  case round =>
    obtain ⟨j, hj, rfl, HP, hgt, hbw⟩ := hrel
    by_cases hjl : j < l.length
    · obtain rfl : a = some ⟨b, off, none⟩ := HA.out (by intro h; rw [h] at hjl; simp at hjl)
      clear HA
      obtain ⟨c0, c1⟩ := HL.out j hjl
      replace c0 := (hbw.cell (p := ⟨b, off + j * 2, none⟩) (World.block_lt_of_cell? w _ c0)).trans c0
      replace c1 := (hbw.cell (p := ⟨b, off + j * 2 + 1, none⟩) (World.block_lt_of_cell? w _ c1)).trans c1
      have HST := Lib.hid (fun w1 (hb : Below wr.heap.size wr w1) => spart_step HP.out hjl hgt hb)
      generalize l[j] = t at *
      go_wp2_with fail
      refine (toStep_c _ _ _).mono ?_
      rintro _ w1 ⟨rfl, hb1⟩
      obtain ⟨hcf, hp⟩ := HST.out w1 hb1
      have HPN := Lib.hid hp; clear hp
      obtain ⟨⟨x0, y0⟩, z0⟩ := hcf 0 (by decide)
      obtain ⟨⟨x1, y1⟩, z1⟩ := hcf 1 (by decide)
      rw [Nat.add_zero] at y0 z0
      clear hcf c0 c1
      have hsz1 := hb1.size
      go_wp2_with fail
      go_roundw
      case rel =>
        refine ⟨j + 1, by omega, by go_num, HPN, by simp [World.setCell]; omega, ?_⟩
        exact (((hbw.trans (hb1.mono hbw.size))).setCell (Nat.le_refl _) _).setCell (Nat.le_refl _) _
      case measure => simp [intOf]; omega
    · obtain rfl : j = l.length := by omega
      have hdone := spart_done HP.out (by unfold maxLen; omega)
      have HD := Lib.hid hdone; clear hdone
      go_wp2_with fail
      go_ret
      exact ⟨_, rfl, HD.out, hbw⟩
end Go.Proofs.Yteihnonhfaidoaa
