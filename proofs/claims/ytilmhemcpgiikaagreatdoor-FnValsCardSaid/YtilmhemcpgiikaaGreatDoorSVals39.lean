/- Vals: texts of the proof (VSame). -/
import Derived.Test.YtilmhemcpgiikaaGreatDoorSVals7
import Derived.Test.YtilmhemcpgiikaaGreatDoorSVals10
/- SameVal: both say whether two trees are equal. -/
namespace Go.Proofs.YtilmhemcpgiikaaGreatDoor
open Go.Deep Go.ChangeShapes Go.WideShapes Go.ChangeAt Go.RowKit
open Go.ChangeMaps (open_string shut_string)

open Classical in
/-- Are two trees equal? -/
noncomputable def sameB (t t' : Tree) : Bool := decide (t = t')
open Classical in
noncomputable def sameL (l l' : List Tree) : Bool := decide (l = l')
theorem sameB_true {t t' : Tree} : sameB t t' = true ↔ t = t' := by unfold sameB; simp only [decide_eq_true_eq]
theorem sameB_false {t t' : Tree} : sameB t t' = false ↔ t ≠ t' := by rw [← Bool.not_eq_true, sameB_true]
theorem sameL_true {t t' : List Tree} : sameL t t' = true ↔ t = t' := by unfold sameL; simp only [decide_eq_true_eq]
theorem sameL_false {t t' : List Tree} : sameL t t' = false ↔ t ≠ t' := by rw [← Bool.not_eq_true, sameL_true]
theorem tree_eq (t t' : Tree) : t = t' ↔ t.kind = t'.kind ∧ t.n = t'.n ∧ t.x = t'.x ∧ t.s = t'.s ∧ t.l = t'.l := by
  cases t; cases t'; simp
theorem same_kind {t t' : Tree} (h : t.kind ≠ t'.kind) : sameB t t' = false := sameB_false.2 (fun e => h (by rw [e]))
theorem same_n {t t' : Tree} (h : t.n ≠ t'.n) : sameB t t' = false := sameB_false.2 (fun e => h (by rw [e]))
theorem same_x {t t' : Tree} (h : t.x ≠ t'.x) : sameB t t' = false := sameB_false.2 (fun e => h (by rw [e]))
theorem same_s {t t' : Tree} (h : t.s ≠ t'.s) : sameB t t' = false := sameB_false.2 (fun e => h (by rw [e]))
theorem same_l {t t' : Tree} (h0 : t.kind = t'.kind) (h1 : t.n = t'.n) (h2 : t.x = t'.x) (h3 : t.s = t'.s) : sameB t t' = sameL t.l t'.l := by
  cases hb : sameL t.l t'.l with
  | true => exact sameB_true.2 ((tree_eq t t').2 ⟨h0, h1, h2, h3, sameL_true.1 hb⟩)
  | false => exact sameB_false.2 (fun e => sameL_false.1 hb (by rw [e]))
theorem sameL_len {l l' : List Tree} (h : l.length ≠ l'.length) : sameL l l' = false := sameL_false.2 (fun e => h (by rw [e]))
theorem take_snocS {l : List Tree} {j : Nat} (h : j < l.length) : l.take (j + 1) = l.take j ++ [l[j]] := List.take_succ_eq_append_getElem h
theorem sameL_at {l l' : List Tree} {j : Nat} (h : j < l.length) (h' : j < l'.length) (hb : sameB l[j] l'[j] = false) : sameL l l' = false :=
  sameL_false.2 (fun e => sameB_false.1 hb (by subst e; rfl))

def SameC (f : FuncId) (t : Tree) : Prop := ∀ (t' : Tree) (w : World) (u u' : Value), TSl w u t.l → TSl w u' t'.l → Fits t.kind t.n t.x t.s → Fits t'.kind t'.n t'.x t'.s →
  Calls Tryz.prog f #[.agg #[.int .i64 t.kind, .int .i64 t.n, .int .i64 t.x, .string t.s, u], .agg #[.int .i64 t'.kind, .int .i64 t'.n, .int .i64 t'.x, .string t'.s, u']] w fun e w' => e = .returned (.bool (sameB t t')) ∧ Below w.heap.size w w'

theorem toList_inj {s s' : ByteArray} (h : s.toList = s'.toList) : s = s' := by
  rw [Lib.toList_data, Lib.toList_data] at h
  apply ByteArray.ext
  exact Array.ext' h
theorem vbelow3 (w : World) (o o' : Obj) : Below w.heap.size w ((w.alloc o).alloc o') := vbelow2 w o o'
/-- Two boxes, one behind the other, and what they hold later. -/
theorem boxes2 {w w1 : World} {a b c d e a' b' c' d' e' : Value} {T T' : TypeId} (hb : Below ((w.alloc (.cells #[a, b, c, d, e] T)).alloc (.cells #[a', b', c', d', e'] T')).heap.size ((w.alloc (.cells #[a, b, c, d, e] T)).alloc (.cells #[a', b', c', d', e'] T')) w1) :
    w1.cell? ⟨w.heap.size, 4, none⟩ = some e ∧ w1.cell? ⟨w.heap.size + 1, 4, none⟩ = some e' := by
  have h1 : ((w.alloc (.cells #[a, b, c, d, e] T)).alloc (.cells #[a', b', c', d', e'] T')).heap[w.heap.size]? = some (.cells #[a, b, c, d, e] T) := by
    rw [Below.heap_alloc _ _ _ (by simp only [World.size_alloc]; omega)]
    exact heap_alloc_new w _
  have h2 : ((w.alloc (.cells #[a, b, c, d, e] T)).alloc (.cells #[a', b', c', d', e'] T')).heap[w.heap.size + 1]? = some (.cells #[a', b', c', d', e'] T') := by
    have := heap_alloc_new (w.alloc (.cells #[a, b, c, d, e] T)) (.cells #[a', b', c', d', e'] T')
    simpa only [World.size_alloc] using this
  have k1 := (hb.block w.heap.size (by simp only [World.size_alloc]; omega)).trans h1
  have k2 := (hb.block (w.heap.size + 1) (by simp only [World.size_alloc]; omega)).trans h2
  constructor <;> simp [World.cell?, k1, k2]


set_option maxRecDepth 100000 in
set_option maxHeartbeats 4000000 in
theorem eqFunc_of (l : List Tree) (ih : ∀ t ∈ l, SameC 15 t) (l' : List Tree) (w : World) (u u' : Value) (hu : TSl w u l) (hu' : TSl w u' l') :
    Calls Tryz.prog 48 #[u, u', .func (.func 15) #[] #[]] w fun e w' => e = .returned (.bool (sameL l l')) ∧ Below w.heap.size w w' := by
  obtain ⟨a, cap, b, off, rfl, hcap, hmax, ha, hl⟩ := hu
  obtain ⟨a', cap', b', off', rfl, hcap', hmax', ha', hl'⟩ := hu'
  unfold maxLen at hmax hmax'
  have IH := Lib.hid ih; clear ih
  have HL := Lib.hid hl; clear hl
  have HA := Lib.hid ha; clear ha
  have HL' := Lib.hid hl'; clear hl'
  have HA' := Lib.hid ha'; clear ha'
  cases e5 : ((l.length : Int) != (l'.length : Int)) with
  | true =>
    have HF := Lib.hid (sameL_len (l := l) (l' := l') (by simp at e5; omega))
    go_enter Tryz.func48, Tryz.ntmps48
    go_wp2_with fail
    go_ret
    exact ⟨ret_bool HF.out.symm, Below.refl _ _⟩
  | false =>
    have hll : l.length = l'.length := by simp at e5; omega
    have HLL := Lib.hid hll
    clear hll
    go_enter Tryz.func48, Tryz.ntmps48
    go_wp2_with fail
    go_loopw [17] (fun i wr => ∃ j : Nat, j ≤ l.length ∧ i = .int .i64 j ∧ Hid (l.take j = l'.take j) ∧ Hid (Below w.heap.size w wr)) (fun i _ => l.length - (intOf i).toNat)
    case atStart => exact ⟨0, by omega, rfl, Lib.hid (by simp), Lib.hid (Below.refl _ _)⟩
    case round =>
      obtain ⟨j, hj, rfl, HT, HBW⟩ := hrel
      have hszr := HBW.out.size
      by_cases hjl : j < l.length
      · have hjl' : j < l'.length := by have := HLL.out; omega
        obtain rfl : a = some ⟨b, off, none⟩ := HA.out (by intro h; rw [h] at hjl; simp at hjl)
        obtain rfl : a' = some ⟨b', off', none⟩ := HA'.out (by intro h; rw [h] at hjl'; simp at hjl')
        have hT := (HL.out j hjl).kept HBW.out
        have hT' := (HL'.out j hjl').kept HBW.out
        have hbl := hT.lt
        have hbl' := hT'.lt
        obtain ⟨x, c0, c1, c2, c3, c4, hsl, hft⟩ := hT.parts
        obtain ⟨x', d0, d1, d2, d3, d4, hsl', hft'⟩ := hT'.parts
        have hih := IH.out l[j] (List.getElem_mem hjl) l'[j]
        have hst := take_snocS hjl
        have hst' := take_snocS hjl'
        have hat := fun h => sameL_at hjl hjl' h
        generalize l[j] = r at *
        generalize l'[j] = r' at *
        obtain ⟨x1, x2, x3, rfl⟩ := hsl.form
        obtain ⟨y1, y2, y3, rfl⟩ := hsl'.form
        have hbb := vbelow2 wr (.cells #[.int .i64 r.kind, .int .i64 r.n, .int .i64 r.x, .string r.s, .slice x1 x2 x3] 26) (.cells #[.int .i64 r'.kind, .int .i64 r'.n, .int .i64 r'.x, .string r'.s, .slice y1 y2 y3] 26)
        have HC := Lib.hid (hih _ _ _ (hsl.kept hbb) (hsl'.kept hbb) hft hft')
        have HBB := Lib.hid hbb
        have HST := Lib.hid hst; have HST' := Lib.hid hst'; have HAT := Lib.hid hat
        clear hih hsl hsl' hft hft' hst hst' hat hbb hT hT'
        cases hb : sameB r r' with
        | true =>
          rw [hb] at HC
          have HRR := Lib.hid (sameB_true.1 hb)
          clear hb
          go_wp2_with fail
          refine HC.out.mono ?_
          rintro _ w1 ⟨rfl, hb1⟩
          go_wp2_with fail
          have hb2 := vnx HBB.out hb1
          go_roundw
          case rel => exact ⟨j + 1, by omega, by go_num, Lib.hid (by rw [HST.out, HST'.out, HT.out, HRR.out]), Lib.hid (HBW.out.trans (hb2.mono hszr))⟩
          case measure => simp [intOf]; omega
        | false =>
          rw [hb] at HC
          have HF := Lib.hid (HAT.out hb)
          clear hb
          go_wp2_with fail
          refine HC.out.mono ?_
          rintro _ w1 ⟨rfl, hb1⟩
          go_wp2_with fail
          have hb2 := vnx HBB.out hb1
          go_ret
          exact ⟨ret_bool HF.out.symm, HBW.out.trans (hb2.mono hszr)⟩
      · obtain rfl : j = l.length := by omega
        have hf : sameL l l' = true := by
          have h := HT.out
          rw [List.take_length] at h
          rw [HLL.out, List.take_length] at h
          exact sameL_true.2 h
        have HF := Lib.hid hf
        clear hf
        go_wp2_with fail
        go_ret
        exact ⟨ret_bool HF.out.symm, HBW.out⟩

set_option maxRecDepth 100000 in
set_option maxHeartbeats 4000000 in
theorem sameImpl_of (t : Tree) (ih : ∀ t' ∈ t.l, SameC 15 t') : SameC 15 t := by
  intro t' w u u' hu hu' hfit hfit'
  obtain ⟨a, n, cap, rfl⟩ := hu.form
  obtain ⟨a', n', cap', rfl⟩ := hu'.form
  have HW := Lib.hid (vbelow2 w (.cells #[.int .i64 t.kind, .int .i64 t.n, .int .i64 t.x, .string t.s, .slice a n cap] 26) (.cells #[.int .i64 t'.kind, .int .i64 t'.n, .int .i64 t'.x, .string t'.s, .slice a' n' cap'] 26))
  have HE := Lib.hid (eqFunc_of t.l ih t'.l _ _ _ (hu.kept HW.out) (hu'.kept HW.out))
  clear ih hu hu'
  cases e1 : (t.kind == t'.kind) with
  | false =>
    have HF := Lib.hid (same_kind (t := t) (t' := t') (by simpa using e1))
    go_enter Tryz.func15, Tryz.ntmps15
    go_wp2_with fail
    go_ret
    exact ⟨ret_bool HF.out.symm, HW.out⟩
  | true =>
    cases e2 : (t.n == t'.n) with
    | false =>
      have HF := Lib.hid (same_n (t := t) (t' := t') (by simpa using e2))
      go_enter Tryz.func15, Tryz.ntmps15
      go_wp2_with fail
      go_ret
      exact ⟨ret_bool HF.out.symm, HW.out⟩
    | true =>
      cases e3 : (t.x == t'.x) with
      | false =>
        have HF := Lib.hid (same_x (t := t) (t' := t') (by simpa using e3))
        go_enter Tryz.func15, Tryz.ntmps15
        go_wp2_with fail
        go_ret
        exact ⟨ret_bool HF.out.symm, HW.out⟩
      | true =>
        by_cases e4 : t.s.toList = t'.s.toList
        · have hsame := same_l (t := t) (t' := t') (by simpa using e1) (by simpa using e2) (by simpa using e3) (toList_inj e4)
          rw [← hsame] at HE
          clear hsame
          generalize sameB t t' = R at *
          go_enter Tryz.func15, Tryz.ntmps15
          go_wp2_with (go_at_call 48; refine HE.out.mono ?_; rintro _ w1 ⟨rfl, hb1⟩)
          go_ret
          exact ⟨rfl, vnx HW.out hb1⟩
        · have HF := Lib.hid (same_s (t := t) (t' := t') (fun e => e4 (by rw [e])))
          go_enter Tryz.func15, Tryz.ntmps15
          go_wp2_with fail
          go_ret
          exact ⟨ret_bool HF.out.symm, HW.out⟩
theorem sameImpl_c (t : Tree) : SameC 15 t := Tree.ind (p := SameC 15) sameImpl_of t
end Go.Proofs.YtilmhemcpgiikaaGreatDoor
