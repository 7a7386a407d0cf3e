/- The order of two values' numbers: the other side. -/
import Derived.Test.YtilmhemcpgiikaaDoorVOr
namespace Go.Proofs.YtilmhemcpgiikaaDoor
open Go.Deep Go.ChangeShapes Go.WideShapes Go.ChangeAt Go.RowKit
open Go.ChangeMaps (open_string shut_string)

/-- Two number boxes made in either order. -/
def Pair (W wx : World) (T : TypeId) (n x m y : Int) (s5 s6 : Value) : Prop := ∃ p q : Nat, s5 = .pointer (some ⟨p, 0, none⟩) ∧ s6 = .pointer (some ⟨q, 0, none⟩) ∧ p < wx.heap.size ∧ q < wx.heap.size ∧ Hid (wx.heap[p]? = some (.cells #[.int .i64 n, .int .i64 x] T)) ∧ Hid (wx.heap[q]? = some (.cells #[.int .i64 m, .int .i64 y] T)) ∧ Hid (Below W.heap.size W wx)
theorem pair_ab (W : World) (T : TypeId) (n x m y : Int) : Pair W ((W.alloc (.cells #[.int .i64 n, .int .i64 x] T)).alloc (.cells #[.int .i64 m, .int .i64 y] T)).drew T n x m y (.pointer (some ⟨W.heap.size, 0, none⟩)) (.pointer (some ⟨W.heap.size + 1, 0, none⟩)) := by
  refine ⟨_, _, rfl, rfl, ?_, ?_, Lib.hid ?_, Lib.hid ?_, Lib.hid (vbelow2 _ _ _).drew⟩
  · show _ < ((W.alloc _).alloc _).heap.size; simp only [World.size_alloc]; omega
  · show _ < ((W.alloc _).alloc _).heap.size; simp only [World.size_alloc]; omega
  · show ((W.alloc _).alloc _).heap[_]? = _
    rw [Below.heap_alloc _ _ _ (by simp only [World.size_alloc]; omega)]
    exact heap_alloc_new W _
  · show ((W.alloc _).alloc _).heap[_]? = _
    simpa only [World.size_alloc] using heap_alloc_new (W.alloc _) _
theorem pair_ba (W : World) (T : TypeId) (n x m y : Int) : Pair W ((W.alloc (.cells #[.int .i64 m, .int .i64 y] T)).alloc (.cells #[.int .i64 n, .int .i64 x] T)).drew T n x m y (.pointer (some ⟨W.heap.size + 1, 0, none⟩)) (.pointer (some ⟨W.heap.size, 0, none⟩)) := by
  refine ⟨_, _, rfl, rfl, ?_, ?_, Lib.hid ?_, Lib.hid ?_, Lib.hid (vbelow2 _ _ _).drew⟩
  · show _ < ((W.alloc _).alloc _).heap.size; simp only [World.size_alloc]; omega
  · show _ < ((W.alloc _).alloc _).heap.size; simp only [World.size_alloc]; omega
  · show ((W.alloc _).alloc _).heap[_]? = _
    simpa only [World.size_alloc] using heap_alloc_new (W.alloc _) _
  · show ((W.alloc _).alloc _).heap[_]? = _
    rw [Below.heap_alloc _ _ _ (by simp only [World.size_alloc]; omega)]
    exact heap_alloc_new W _
theorem or2_plain (n x m y : Int) : or2 (Lib.compareInt n m) (Lib.compareInt x y) = plainC n x m y := by
  unfold or2 Lib.compareInt plainC
  by_cases h1 : n < m
  · simp [h1]
  · by_cases h2 : m < n
    · simp [h1, h2]
    · simp [h1, h2]
theorem new2d (w : World) (a b : Value) (T : TypeId) : (w.alloc (.cells #[a, b] T)).drew.cell? ⟨w.heap.size, 0, none⟩ = some a ∧ (w.alloc (.cells #[a, b] T)).drew.cell? ⟨w.heap.size, 1, none⟩ = some b := obj2 (w := (w.alloc (.cells #[a, b] T)).drew) (heap_alloc_new w _)
theorem new2e (w : World) (a b : Value) (T : TypeId) : (w.drew.alloc (.cells #[a, b] T)).cell? ⟨w.heap.size, 0, none⟩ = some a ∧ (w.drew.alloc (.cells #[a, b] T)).cell? ⟨w.heap.size, 1, none⟩ = some b := obj2 (heap_alloc_new w.drew _)
theorem new2 (w : World) (a b : Value) (T : TypeId) : (w.alloc (.cells #[a, b] T)).cell? ⟨w.heap.size, 0, none⟩ = some a ∧ (w.alloc (.cells #[a, b] T)).cell? ⟨w.heap.size, 1, none⟩ = some b := obj2 (heap_alloc_new w _)

end Go.Proofs.YtilmhemcpgiikaaDoor
