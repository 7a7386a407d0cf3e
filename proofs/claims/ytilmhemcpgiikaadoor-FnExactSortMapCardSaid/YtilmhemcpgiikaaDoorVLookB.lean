/- What a name stands for in a map; whether a map is paired. -/
import Derived.Test.YtilmhemcpgiikaaDoorVCopy
import Derived.Test.YtilmhemcpgiikaaDoorCConv
import Derived.Test.YtilmhemcpgiikaaDoorVSame
namespace Go.Proofs.YtilmhemcpgiikaaDoor
open Go.Deep Go.ChangeShapes Go.WideShapes Go.ChangeAt Go.RowKit
open Go.ChangeMaps (open_string shut_string)
def zeroT : Tree := .mk 0 0 0 { data := #[] } []
/-- A tree and a Bool, the tree's elements owned. -/
def PairP (w : World) (r : Tree) (b : Bool) : Ending → World → Prop := fun e w' => ∃ a n c, e = .returned (.tuple #[.agg #[.int .i64 r.kind, .int .i64 r.n, .int .i64 r.x, .string r.s, .slice a n c], .bool b]) ∧ OSl w' 29 (.slice a n c) r.l (Rng w.heap.size w'.heap.size) ∧ Below w.heap.size w w'
theorem three_blocks (w : World) (o1 o2 o3 : Obj) :
    (((w.alloc o1).alloc o2).alloc o3).heap[w.heap.size]? = some o1 ∧ (((w.alloc o1).alloc o2).alloc o3).heap[w.heap.size + 1]? = some o2 ∧ (((w.alloc o1).alloc o2).alloc o3).heap[w.heap.size + 1 + 1]? = some o3 ∧ Below w.heap.size w (((w.alloc o1).alloc o2).alloc o3) := by
  have h1 := first_blocks w o1 o2
  have h3 := heap_alloc_new ((w.alloc o1).alloc o2) o3
  simp only [World.size_alloc] at h3
  refine ⟨?_, ?_, h3, (vbelow2 w o1 o2).alloc (by simp only [World.size_alloc]; omega) _⟩
  · rw [Below.heap_alloc _ _ _ (by simp only [World.size_alloc]; omega)]; exact h1.1
  · rw [Below.heap_alloc _ _ _ (by simp only [World.size_alloc]; omega)]; exact h1.2

/-- Is a value a map whose names all have values? -/
def pairedB (t : Tree) : Bool := t.kind == 10 && t.l.length % 2 == 0
theorem paired_kind {t : Tree} (h : (t.kind == 10) = false) : pairedB t = false := by unfold pairedB; rw [h]; rfl
theorem paired_len {t : Tree} (h : (t.kind == 10) = true) : pairedB t = (t.l.length % 2 == 0) := by unfold pairedB; rw [h]; rfl
open Classical in
/-- The value of the last equal name among the first j pairs. -/
noncomputable def lookAt (l : List Tree) (x : Tree) : Nat → Option Tree
  | 0 => none
  | j + 1 => if l[2 * j]? = some x then l[2 * j + 1]? else lookAt l x j
noncomputable def lookO (t t' : Tree) : Option Tree := if pairedB t = true then lookAt t.l t' (t.l.length / 2) else none
noncomputable def lookR (t t' : Tree) : Tree := (lookO t t').getD zeroT
noncomputable def lookB (t t' : Tree) : Bool := (lookO t t').isSome
theorem lookAt_hit {l : List Tree} {x : Tree} {j k : Nat} (hk : k = 2 * j) (h : l[k]? = some x) : lookAt l x (j + 1) = l[k + 1]? := by
  subst hk
  rw [lookAt, if_pos h]
theorem lookAt_miss {l : List Tree} {x : Tree} {j k : Nat} (hk : k = 2 * j) (h : l[k]? ≠ some x) : lookAt l x (j + 1) = lookAt l x j := by
  subst hk
  rw [lookAt, if_neg h]
theorem lookAt_mem (l : List Tree) (x : Tree) : ∀ j r, lookAt l x j = some r → r ∈ l
  | 0, r, h => by simp [lookAt] at h
  | j + 1, r, h => by
    unfold lookAt at h
    split at h
    · exact List.mem_of_getElem? h
    · exact lookAt_mem l x j r h
theorem lookR_cost (t t' : Tree) : (lookR t t').cost ≤ t.cost := by
  unfold lookR
  cases h : lookO t t' with
  | none => exact Nat.zero_le _
  | some r =>
    have hm : r ∈ t.l := by
      unfold lookO at h
      split at h
      · exact lookAt_mem _ _ _ _ h
      · simp at h
    have h1 := cost_mem hm
    have h2 := Tree.cost_eq t
    have h3 := costL_eq t.l
    simp only [Option.getD_some]
    omega
theorem len_mod {n : Nat} (hn : n ≤ 9223372036854775807) : (((n : Int).tmod 2) == 0) = (n % 2 == 0) := by
  have h : (n : Int).tmod 2 = ((n % 2 : Nat) : Int) := by rw [Int.tmod_eq_emod_of_nonneg (by omega)]; omega
  rw [h]
  by_cases e : n % 2 = 0
  · simp [e]
  · have : n % 2 = 1 := by omega
    simp [this]


set_option maxHeartbeats 2000000 in
theorem l7Map_c (t : Tree) (a : Option Addr) (cap : Nat) (w : World) (hlen : t.l.length ≤ 1048576) :
    Calls Tryd.prog 80 #[.agg #[.int .i64 t.kind, .int .i64 t.n, .int .i64 t.x, .string t.s, .slice a t.l.length cap]] w fun e w' => e = .returned (.bool (pairedB t)) ∧ Below w.heap.size w w' := by
  have HW := Lib.hid (vbelow1 w (.cells #[.int .i64 t.kind, .int .i64 t.n, .int .i64 t.x, .string t.s, .slice a t.l.length cap] 29))
  cases hk : (t.kind == 10) with
  | false =>
    have HF := Lib.hid (paired_kind hk)
    go_enter Tryd.func80, Tryd.ntmps80
    go_wp2_with fail
    go_ret
    exact ⟨ret_bool HF.out.symm, HW.out⟩
  | true =>
    have hp := paired_len hk
    rw [← len_mod (by omega)] at hp
    have HF := Lib.hid hp
    clear hp
    go_enter Tryd.func80, Tryd.ntmps80
    go_wp2_with fail
    go_ret
    exact ⟨ret_bool HF.out.symm, HW.out⟩


set_option maxHeartbeats 2000000 in
theorem isPaired_c (t : Tree) (a : Option Addr) (cap : Nat) (w : World) (hlen : t.l.length ≤ 1048576) :
    Calls Tryd.prog 118 #[.agg #[.int .i64 t.kind, .int .i64 t.n, .int .i64 t.x, .string t.s, .slice a t.l.length cap]] w fun e w' => e = .returned (.bool (pairedB t)) ∧ Below w.heap.size w w' := by
  have HW := Lib.hid (vbelow1 w (.cells #[.int .i64 t.kind, .int .i64 t.n, .int .i64 t.x, .string t.s, .slice a t.l.length cap] 29))
  cases hk : (t.kind == 10) with
  | false =>
    have HF := Lib.hid (paired_kind hk)
    go_enter Tryd.func118, Tryd.ntmps118
    go_wp2_with fail
    go_ret
    exact ⟨ret_bool HF.out.symm, HW.out⟩
  | true =>
    have hp := paired_len hk
    rw [← len_mod (by omega)] at hp
    have HF := Lib.hid hp
    clear hp
    go_enter Tryd.func118, Tryd.ntmps118
    go_wp2_with fail
    go_ret
    exact ⟨ret_bool HF.out.symm, HW.out⟩


end Go.Proofs.YtilmhemcpgiikaaDoor
