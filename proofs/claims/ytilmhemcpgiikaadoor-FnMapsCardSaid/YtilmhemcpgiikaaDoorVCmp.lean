/- The order of values: the reference's comparison. -/
import Derived.Test.YtilmhemcpgiikaaDoorVSame
import Derived.Test.YtilmhemcpgiikaaDoorVTo
import Derived.Test.YtilmhemcpgiikaaDoorVLeaf
import Derived.Test.YtilmhemcpgiikaaDoorCLessFlt
import Derived.Lib.Bytealg
import Derived.Lib.Small
namespace Go.Proofs.YtilmhemcpgiikaaDoor
open Go.Deep Go.ChangeShapes Go.WideShapes Go.ChangeAt Go.RowKit
open Go.ChangeMaps (open_string shut_string)

def num2 (a b : Bool) : Int := if a = true then -1 else if b = true then 1 else 0
def plainC (n x m y : Int) : Int := if n < m then -1 else if m < n then 1 else if x < y then -1 else if y < x then 1 else 0
/-- How the numbers of two values of a kind compare. -/
def numC (k n x m y : Int) : Int :=
  if k = 4 ∧ fltOkF n x = true ∧ fltOkF m y = true then num2 (lessFltB n x m y) (lessFltB m y n x)
  else if k = 6 ∧ decOkB n x = true ∧ decOkB m y = true then num2 (lessDecB n x m y) (lessDecB m y n x)
  else plainC n x m y
mutual
/-- Which of two trees is ahead. -/
def Tree.cmp : Tree → Tree → Int
  | .mk k n x s l, t' => if k < t'.kind then -1 else if t'.kind < k then 1 else if numC k n x t'.n t'.x ≠ 0 then numC k n x t'.n t'.x else if Lib.compareBytes s.data.toList t'.s.data.toList ≠ 0 then Lib.compareBytes s.data.toList t'.s.data.toList else cmpL l t'.l
def cmpL : List Tree → List Tree → Int
  | [], [] => 0
  | [], _ :: _ => -1
  | _ :: _, [] => 1
  | a :: r, b :: r' => if a.cmp b ≠ 0 then a.cmp b else cmpL r r'
end
theorem Tree.cmp_eq (t t' : Tree) : t.cmp t' = if t.kind < t'.kind then -1 else if t'.kind < t.kind then 1 else if numC t.kind t.n t.x t'.n t'.x ≠ 0 then numC t.kind t.n t.x t'.n t'.x else if Lib.compareBytes t.s.data.toList t'.s.data.toList ≠ 0 then Lib.compareBytes t.s.data.toList t'.s.data.toList else cmpL t.l t'.l := by
  cases t; rw [Tree.cmp]; rfl

set_option maxRecDepth 100000 in
set_option maxHeartbeats 4000000 in
theorem plain_c (k n x k' m y : Int) (s s' : ByteArray) (a a' : Option Addr) (l c l' c' : Nat) (w : World) :
    Calls Tryd.prog 162 #[.agg #[.int .i64 k, .int .i64 n, .int .i64 x, .string s, .slice a l c], .agg #[.int .i64 k', .int .i64 m, .int .i64 y, .string s', .slice a' l' c']] w fun e w' => e = .returned (.int .i64 (plainC n x m y)) ∧ Below w.heap.size w w' := by
  have h : n < m ∨ m < n ∨ (n = m ∧ x < y) ∨ (n = m ∧ y < x) ∨ (n = m ∧ x = y) := by omega
  rcases h with h | h | ⟨rfl, h⟩ | ⟨rfl, h⟩ | ⟨rfl, rfl⟩
  · have hf : plainC n x m y = -1 := by unfold plainC; rw [if_pos h]
    rw [hf]; clear hf
    go_enter Tryd.func162, Tryd.ntmps162
    go_wp2_with fail
    go_ret; exact ⟨rfl, vbelow2 _ _ _⟩
  · have hf : plainC n x m y = 1 := by unfold plainC; rw [if_neg (by omega), if_pos h]
    have hd : decide (n < m) = false := decide_eq_false (by omega)
    rw [hf]; clear hf
    go_enter Tryd.func162, Tryd.ntmps162
    go_wp2_with fail
    go_ret; exact ⟨rfl, vbelow2 _ _ _⟩
  · have hf : plainC n x n y = -1 := by unfold plainC; rw [if_neg (by omega), if_neg (by omega), if_pos h]
    rw [hf]; clear hf
    go_enter Tryd.func162, Tryd.ntmps162
    go_wp2_with fail
    go_ret; exact ⟨rfl, vbelow2 _ _ _⟩
  · have hf : plainC n x n y = 1 := by unfold plainC; rw [if_neg (by omega), if_neg (by omega), if_neg (by omega), if_pos h]
    have hd : decide (x < y) = false := decide_eq_false (by omega)
    rw [hf]; clear hf
    go_enter Tryd.func162, Tryd.ntmps162
    go_wp2_with fail
    go_ret; exact ⟨rfl, vbelow2 _ _ _⟩
  · have hf : plainC n x n x = 0 := by unfold plainC; rw [if_neg (by omega), if_neg (by omega), if_neg (by omega), if_neg (by omega)]
    rw [hf]; clear hf
    go_enter Tryd.func162, Tryd.ntmps162
    go_wp2_with fail
    go_ret; exact ⟨rfl, vbelow2 _ _ _⟩
/-- Six boxes, one behind the other, and what they hold later. -/
theorem six_objs {w w1 : World} {o0 o1 o2 o3 o4 o5 : Obj} (hb : Below ((((((w.alloc o0).alloc o1).alloc o2).alloc o3).alloc o4).alloc o5).heap.size ((((((w.alloc o0).alloc o1).alloc o2).alloc o3).alloc o4).alloc o5) w1) :
    w1.heap[w.heap.size]? = some o0 ∧ w1.heap[w.heap.size + 1]? = some o1 ∧ w1.heap[w.heap.size + 1 + 1]? = some o2 ∧ w1.heap[w.heap.size + 1 + 1 + 1]? = some o3 ∧ w1.heap[w.heap.size + 1 + 1 + 1 + 1]? = some o4 ∧ w1.heap[w.heap.size + 1 + 1 + 1 + 1 + 1]? = some o5 := by
  have h := fun i (hi : i < w.heap.size + 6) => hb.block i (by simp only [World.size_alloc]; omega)
  refine ⟨?_, ?_, ?_, ?_, ?_, ?_⟩
  · rw [h _ (by omega), Below.heap_alloc _ _ _ (by simp only [World.size_alloc]; omega), Below.heap_alloc _ _ _ (by simp only [World.size_alloc]; omega), Below.heap_alloc _ _ _ (by simp only [World.size_alloc]; omega), Below.heap_alloc _ _ _ (by simp only [World.size_alloc]; omega), Below.heap_alloc _ _ _ (by simp only [World.size_alloc]; omega)]
    exact heap_alloc_new w o0
  · rw [h _ (by omega), Below.heap_alloc _ _ _ (by simp only [World.size_alloc]; omega), Below.heap_alloc _ _ _ (by simp only [World.size_alloc]; omega), Below.heap_alloc _ _ _ (by simp only [World.size_alloc]; omega), Below.heap_alloc _ _ _ (by simp only [World.size_alloc]; omega)]
    simpa only [World.size_alloc] using heap_alloc_new (w.alloc o0) o1
  · rw [h _ (by omega), Below.heap_alloc _ _ _ (by simp only [World.size_alloc]; omega), Below.heap_alloc _ _ _ (by simp only [World.size_alloc]; omega), Below.heap_alloc _ _ _ (by simp only [World.size_alloc]; omega)]
    simpa only [World.size_alloc] using heap_alloc_new ((w.alloc o0).alloc o1) o2
  · rw [h _ (by omega), Below.heap_alloc _ _ _ (by simp only [World.size_alloc]; omega), Below.heap_alloc _ _ _ (by simp only [World.size_alloc]; omega)]
    simpa only [World.size_alloc] using heap_alloc_new (((w.alloc o0).alloc o1).alloc o2) o3
  · rw [h _ (by omega), Below.heap_alloc _ _ _ (by simp only [World.size_alloc]; omega)]
    simpa only [World.size_alloc] using heap_alloc_new ((((w.alloc o0).alloc o1).alloc o2).alloc o3) o4
  · rw [h _ (by omega)]
    simpa only [World.size_alloc] using heap_alloc_new (((((w.alloc o0).alloc o1).alloc o2).alloc o3).alloc o4) o5
theorem vbelow6 (w : World) (o0 o1 o2 o3 o4 o5 : Obj) : Below w.heap.size w ((((((w.alloc o0).alloc o1).alloc o2).alloc o3).alloc o4).alloc o5) :=
  vnx (vbelow2 w o0 o1) (vnx (vbelow2 _ o2 o3) (vbelow2 _ o4 o5))
theorem obj5 {w : World} {p : Nat} {a b c d e : Value} {T : TypeId} (h : w.heap[p]? = some (.cells #[a, b, c, d, e] T)) :
    w.cell? ⟨p, 0, none⟩ = some a ∧ w.cell? ⟨p, 1, none⟩ = some b ∧ w.cell? ⟨p, 2, none⟩ = some c ∧ w.cell? ⟨p, 3, none⟩ = some d ∧ w.cell? ⟨p, 4, none⟩ = some e := by
  refine ⟨?_, ?_, ?_, ?_, ?_⟩ <;> simp [World.cell?, h]
theorem obj2 {w : World} {p : Nat} {a b : Value} {T : TypeId} (h : w.heap[p]? = some (.cells #[a, b] T)) :
    w.cell? ⟨p, 0, none⟩ = some a ∧ w.cell? ⟨p, 1, none⟩ = some b := by
  refine ⟨?_, ?_⟩ <;> simp [World.cell?, h]
theorem num2_1 {a b : Bool} (h : a = true) : num2 a b = -1 := if_pos h
theorem num2_2 {a b : Bool} (h : a = false) (h' : b = true) : num2 a b = 1 := by subst h; subst h'; rfl
theorem num2_3 {a b : Bool} (h : a = false) (h' : b = false) : num2 a b = 0 := by subst h; subst h'; rfl
theorem numC_4 {n x m y : Int} (h : fltOkF n x = true) (h' : fltOkF m y = true) : numC 4 n x m y = num2 (lessFltB n x m y) (lessFltB m y n x) := if_pos ⟨rfl, h, h'⟩
theorem numC_4a {n x m y : Int} (h : fltOkF n x = false) : numC 4 n x m y = plainC n x m y := by
  unfold numC; rw [if_neg (by rw [h]; simp), if_neg (by simp)]
theorem numC_4b {n x m y : Int} (h : fltOkF m y = false) : numC 4 n x m y = plainC n x m y := by
  unfold numC; rw [if_neg (by rw [h]; simp), if_neg (by simp)]
theorem numC_6 {n x m y : Int} (h : decOkB n x = true) (h' : decOkB m y = true) : numC 6 n x m y = num2 (lessDecB n x m y) (lessDecB m y n x) := by
  unfold numC; rw [if_neg (by simp), if_pos ⟨rfl, h, h'⟩]
theorem numC_6a {n x m y : Int} (h : decOkB n x = false) : numC 6 n x m y = plainC n x m y := by
  unfold numC; rw [if_neg (by simp), if_neg (by rw [h]; simp)]
theorem numC_6b {n x m y : Int} (h : decOkB m y = false) : numC 6 n x m y = plainC n x m y := by
  unfold numC; rw [if_neg (by simp), if_neg (by rw [h]; simp)]
theorem numC_0 {k n x m y : Int} (h : k ≠ 4) (h' : k ≠ 6) : numC k n x m y = plainC n x m y := by
  unfold numC; rw [if_neg (fun e => h e.1), if_neg (fun e => h' e.1)]
theorem kept_obj {w w1 : World} {p : Nat} {o : Obj} (hb : Below w.heap.size w w1) (h : w.heap[p]? = some o) : w1.heap[p]? = some o :=
  (hb.block p (Array.getElem?_eq_some_iff.1 h).1).trans h
theorem cmp_three : ∀ a b : List UInt8, (Lib.compareBytes a b = -1 ∧ Op.bytesLess a b = true ∧ (a == b) = false) ∨ (Lib.compareBytes a b = 0 ∧ Op.bytesLess a b = false ∧ (a == b) = true) ∨ (Lib.compareBytes a b = 1 ∧ Op.bytesLess a b = false ∧ (a == b) = false)
  | [], [] => by simp [Lib.compareBytes, Op.bytesLess]
  | [], _ :: _ => by simp [Lib.compareBytes, Op.bytesLess]
  | _ :: _, [] => by simp [Lib.compareBytes, Op.bytesLess]
  | a :: x, b :: y => by
    have ih := cmp_three x y
    by_cases h1 : a < b
    · left
      have hne : a ≠ b := fun e => by subst e; exact absurd h1 (UInt8.lt_irrefl _)
      simp [Lib.compareBytes, Op.bytesLess, h1, hne]
    · by_cases h2 : b < a
      · right; right
        have hne : a ≠ b := fun e => by subst e; exact absurd h2 (UInt8.lt_irrefl _)
        simp [Lib.compareBytes, Op.bytesLess, h1, h2, hne]
      · have he : a = b := UInt8.le_antisymm (UInt8.not_lt.1 h2) (UInt8.not_lt.1 h1)
        subst he
        simpa [Lib.compareBytes, Op.bytesLess] using ih
theorem str_gtr (T : TypeId) (s s' : ByteArray) : binOp .gtr T (.string s) (.string s') = pure (.bool (!(Op.bytesLess s.toList s'.toList || s.toList == s'.toList))) := by simp [binOp, Op.stringOp]
theorem cmpL_step {l l' : List Tree} {j : Nat} (h : j < l.length) (h' : j < l'.length) : cmpL (l.drop j) (l'.drop j) = if l[j].cmp l'[j] ≠ 0 then l[j].cmp l'[j] else cmpL (l.drop (j + 1)) (l'.drop (j + 1)) := by
  rw [List.drop_eq_getElem_cons h, List.drop_eq_getElem_cons h', cmpL]
theorem cmpL_end {l l' : List Tree} {j : Nat} (h : j ≤ l.length) (h' : j ≤ l'.length) (hj : j = l.length ∨ j = l'.length) : cmpL (l.drop j) (l'.drop j) = if l.length < l'.length then -1 else if l'.length < l.length then 1 else 0 := by
  by_cases h1 : j < l.length
  · have e : j = l'.length := by omega
    rw [List.drop_eq_getElem_cons h1, List.drop_of_length_le (l := l') (by omega), cmpL, if_neg (by omega), if_pos (by omega)]
  · rw [List.drop_of_length_le (l := l) (by omega)]
    by_cases h2 : j < l'.length
    · rw [List.drop_eq_getElem_cons h2, cmpL, if_pos (by omega)]
    · rw [List.drop_of_length_le (l := l') (by omega), cmpL, if_neg (by omega), if_neg (by omega)]
theorem cmp_k1 {t t' : Tree} (h : t.kind < t'.kind) : t.cmp t' = -1 := by rw [Tree.cmp_eq, if_pos h]
theorem cmp_k2 {t t' : Tree} (h : t'.kind < t.kind) : t.cmp t' = 1 := by rw [Tree.cmp_eq, if_neg (by omega), if_pos h]
theorem cmp_n {t t' : Tree} (h : t.kind = t'.kind) (h1 : numC t.kind t.n t.x t'.n t'.x ≠ 0) : t.cmp t' = numC t.kind t.n t.x t'.n t'.x := by rw [Tree.cmp_eq, if_neg (by omega), if_neg (by omega), if_pos h1]
theorem cmp_s {t t' : Tree} (h : t.kind = t'.kind) (h1 : numC t.kind t.n t.x t'.n t'.x = 0) (h2 : Lib.compareBytes t.s.data.toList t'.s.data.toList ≠ 0) : t.cmp t' = Lib.compareBytes t.s.data.toList t'.s.data.toList := by rw [Tree.cmp_eq, if_neg (by omega), if_neg (by omega), if_neg (by omega), if_pos h2]
theorem cmp_l {t t' : Tree} (h : t.kind = t'.kind) (h1 : numC t.kind t.n t.x t'.n t'.x = 0) (h2 : Lib.compareBytes t.s.data.toList t'.s.data.toList = 0) : t.cmp t' = cmpL t.l t'.l := by rw [Tree.cmp_eq, if_neg (by omega), if_neg (by omega), if_neg (by omega), if_neg (by omega)]
/-- Two boxes, one behind the other. -/
theorem two_objs (w : World) (o0 o1 : Obj) : ((w.alloc o0).alloc o1).heap[w.heap.size]? = some o0 ∧ ((w.alloc o0).alloc o1).heap[w.heap.size + 1]? = some o1 :=
  ⟨(Below.heap_alloc _ _ _ (by simp only [World.size_alloc]; omega)).trans (heap_alloc_new w _), by simpa only [World.size_alloc] using heap_alloc_new (w.alloc o0) o1⟩
end Go.Proofs.YtilmhemcpgiikaaDoor
