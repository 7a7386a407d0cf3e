/- Vals: texts of the proof (VTo). -/
import Derived.Test.YtilmhemcpgiikaaGreatDoorSVals7
import Derived.Test.YtilmhemcpgiikaaGreatDoorSVals8
/- toVal and toValS: the copies are their own. -/
namespace Go.Proofs.YtilmhemcpgiikaaGreatDoor
open Go.Deep Go.ChangeShapes Go.WideShapes Go.ChangeAt Go.RowKit
open Go.ChangeMaps (open_string shut_string)


theorem info_val : (Tryz.prog.info? 26).map (fun i => (i.zero, i.size, i.bytes)) = some (some (.agg #[.int .i64 0, .int .i64 0, .int .i64 0, .string { data := #[] }, .slice none 0 0]), 5, 64) := by kernel_rfl
/-- make([]Val, n). -/
theorem make_vals (n : Nat) (hn : n ≤ 1048576) : ∃ f : Nat → Value, ∀ w : World, ∃ cells : Array Value, (Instr.makeSlice 24 (.int .i64 n) (.int .i64 n)).run Tryz.prog w = .ok (.slice (some ⟨w.heap.size, 0, none⟩) n n) (w.alloc (.cells cells 26)) ∧ (w.alloc (.cells cells 26)).rowIs w.heap.size 26 (n * 5) f := by
  obtain ⟨i, hi, hz, hs, hby⟩ := info_parts info_val
  refine ⟨fun k => (madeCells (Value.agg #[.int .i64 0, .int .i64 0, .int .i64 0, .string { data := #[] }, .slice none 0 0]).cells (n * 5)).getD k undef, fun w => ⟨madeCells (Value.agg #[.int .i64 0, .int .i64 0, .int .i64 0, .string { data := #[] }, .slice none 0 0]).cells (n * 5), ?_, ?_⟩⟩
  · have := run_make (P := Tryz.prog) w 24 26 i _ Tryz.underlying24 hi hz .i64 .i64 (n : Int) (n : Int) (by omega) (by omega) (by rw [hby]; omega) (by omega)
    rw [this, hs]
    simp only [Int.toNat_natCast]
  · have hsz := size_madeCells (Value.agg #[.int .i64 0, .int .i64 0, .int .i64 0, .string { data := #[] }, .slice none 0 0]).cells (n * 5)
    have := World.rowIs_alloc w (madeCells (Value.agg #[.int .i64 0, .int .i64 0, .int .i64 0, .string { data := #[] }, .slice none 0 0]).cells (n * 5)) 26 (fun k => (madeCells (Value.agg #[.int .i64 0, .int .i64 0, .int .i64 0, .string { data := #[] }, .slice none 0 0]).cells (n * 5)).getD k undef)
      (fun k hk => by simp [Array.getD, hk])
    rwa [hsz] at this

/-- Two blocks of five cells, made one behind the other. -/
theorem two_blocks (w : World) (o : Obj) (a b c d e a' b' c' d' e' : Value) (T T' : TypeId) :
    (((w.alloc o).alloc (.cells #[a, b, c, d, e] T)).alloc (.cells #[a', b', c', d', e'] T')).heap[w.heap.size + 1]? = some (.cells #[a, b, c, d, e] T (0, 0)) ∧
    (((w.alloc o).alloc (.cells #[a, b, c, d, e] T)).alloc (.cells #[a', b', c', d', e'] T')).heap[w.heap.size + 1 + 1]? = some (.cells #[a', b', c', d', e'] T' (0, 0)) := by
  constructor
  · rw [Below.heap_alloc _ _ _ (by simp only [World.size_alloc]; omega)]
    have := heap_alloc_new (w.alloc o) (.cells #[a, b, c, d, e] T)
    simpa only [World.size_alloc] using this
  · have := heap_alloc_new ((w.alloc o).alloc (.cells #[a, b, c, d, e] T)) (.cells #[a', b', c', d', e'] T')
    simpa only [World.size_alloc] using this
theorem five_kept {W w1 : World} (hb : Below W.heap.size W w1) {B : Nat} {a b c d e : Value} {T : TypeId} (h : W.heap[B]? = some (.cells #[a, b, c, d, e] T (0, 0))) :
    w1.cell? ⟨B, 0, none⟩ = some a ∧ w1.cell? ⟨B, 1, none⟩ = some b ∧ w1.cell? ⟨B, 2, none⟩ = some c ∧ w1.cell? ⟨B, 3, none⟩ = some d ∧ w1.cell? ⟨B, 4, none⟩ = some e ∧ ∀ o, w1.frozen? ⟨B, o, none⟩ = false := by
  have hlt : B < W.heap.size := (Array.getElem?_eq_some_iff.1 h).1
  have h1 : w1.heap[B]? = some (.cells #[a, b, c, d, e] T (0, 0)) := (hb.block B hlt).trans h
  refine ⟨?_, ?_, ?_, ?_, ?_, fun o => ?_⟩
  all_goals simp [World.cell?, World.frozen?, h1]

theorem osl_set {w : World} {T : TypeId} {v : Value} {l : List Tree} {lo hi : Nat} {p : Addr} (h : OSl w T v l (Rng lo hi)) (hp : p.block < lo) (x : Value) : OSl (w.setCell p x) T v l (Rng lo hi) :=
  h.kept (fun b hb => Below.heap_setCell _ _ _ _ (by have := hb.1; omega))

theorem cost_mem {t : Tree} : ∀ {l : List Tree}, t ∈ l → t.cost ≤ costE l
  | [], h => by simp at h
  | u :: ts, h => by
    rw [costE]
    rcases List.mem_cons.1 h with rfl | h
    · omega
    · have := cost_mem h; omega

end Go.Proofs.YtilmhemcpgiikaaGreatDoor
