/- The conversions of plain structs: toFlt, toDec. -/
import Derived.Test.YtcmdchhhdcdpnaaDoorOpen
namespace Go.Proofs.YtcmdchhhdcdpnaaDoor
open Go.ChangeShapes Go.WideShapes Go.ChangeAt Go.RowKit
open Go.ChangeMaps (open_string shut_string)

theorem below1 (w : World) (o : Obj) : Below w.heap.size w (w.alloc o) := (Below.refl _ _).alloc (Nat.le_refl _) o
theorem below2 (w : World) (o o' : Obj) : Below w.heap.size w ((w.alloc o).alloc o') := (below1 w o).alloc (by simp) o'
theorem below3 (w : World) (o o' o'' : Obj) : Below w.heap.size w (((w.alloc o).alloc o').alloc o'') := (below2 w o o').alloc (by simp only [World.size_alloc]; omega) o''
theorem below4 (w : World) (o o' o'' o''' : Obj) : Below w.heap.size w ((((w.alloc o).alloc o').alloc o'').alloc o''') := (below3 w o o' o'').alloc (by simp only [World.size_alloc]; omega) o'''
/-- Below, on from a world that lies below. -/
theorem nx {w w1 w2 : World} (h : Below w.heap.size w w1) (k : Below w1.heap.size w1 w2) : Below w.heap.size w w2 := h.trans (k.mono h.size)

/-- A boxed pair, read again later. -/
theorem box2 {w w1 : World} {a b : Value} {T : TypeId} (h : Below (w.alloc (.cells #[a, b] T)).heap.size (w.alloc (.cells #[a, b] T)) w1) :
    w1.cell? ⟨w.heap.size, 0, none⟩ = some a ∧ w1.cell? ⟨w.heap.size, 1, none⟩ = some b := by
  have e0 : (w.alloc (.cells #[a, b] T)).cell? ⟨w.heap.size, 0, none⟩ = some a := by rw [World.cell?_alloc_at _ _ _ _ rfl]; rfl
  have e1 : (w.alloc (.cells #[a, b] T)).cell? ⟨w.heap.size, 1, none⟩ = some b := by rw [World.cell?_alloc_at _ _ _ _ rfl]; rfl
  exact ⟨(h.cell (by simp)).trans e0, (h.cell (by simp)).trans e1⟩

theorem toDec_c (m e : Int) (w : World) :
    Calls Tryd.prog 6 #[.agg #[.int .i64 m, .int .i64 e]] w fun en w' => en = .returned (.agg #[.int .i64 m, .int .i64 e]) ∧ Below w.heap.size w w' := by
  go_enter Tryd.func6, Tryd.ntmps6
  go_wp2
  exact bodyPost_ret (v := .agg #[.int .i64 m, .int .i64 e]) (by simp [results, Tryd.results6, go_sem]) rfl ⟨rfl, below3 _ _ _ _⟩
end Go.Proofs.YtcmdchhhdcdpnaaDoor
