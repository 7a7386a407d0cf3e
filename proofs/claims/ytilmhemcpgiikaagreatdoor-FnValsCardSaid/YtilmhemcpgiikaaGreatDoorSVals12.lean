/- Vals: texts of the proof (VLeaf). -/
import Derived.Test.YtilmhemcpgiikaaGreatDoorSVals7
import Derived.Test.YtilmhemcpgiikaaGreatDoorSVals1
/- Values without elements. -/
namespace Go.Proofs.YtilmhemcpgiikaaGreatDoor
open Go.Deep Go.ChangeShapes Go.WideShapes Go.ChangeAt Go.RowKit
open Go.ChangeMaps (open_string shut_string)


theorem tsl_nil (w : World) : TSl w (.slice none 0 0) [] := ⟨none, 0, 0, 0, rfl, Nat.le_refl _, by simp [maxLen], fun h => absurd rfl h, fun j h => absurd h (Nat.not_lt_zero _)⟩
theorem spec_IntVal (n : Int) (w : World) : Calls Tryz.prog 24 #[.int .i64 n] w fun e w' => e = .returned (.agg #[.int .i64 3, .int .i64 n, .int .i64 0, .string { data := #[] }, .slice none 0 0]) ∧ Below w.heap.size w w' := by
  go_enter Tryz.func24, Tryz.ntmps24
  go_wp2_with fail
  exact bodyPost_ret (v := .agg #[.int .i64 3, .int .i64 n, .int .i64 0, .string { data := #[] }, .slice none 0 0]) (by simp [results, Tryz.results24, go_sem]) rfl ⟨rfl, (by first | exact vbelow1 _ _ | exact vbelow2 _ _ _ | exact below3 _ _ _ _ | exact below4 _ _ _ _ _)⟩

theorem spec_TextVal (s : ByteArray) (w : World) : Calls Tryz.prog 26 #[.string s] w fun e w' => e = .returned (.agg #[.int .i64 7, .int .i64 0, .int .i64 0, .string s, .slice none 0 0]) ∧ Below w.heap.size w w' := by
  go_enter Tryz.func26, Tryz.ntmps26
  go_wp2_with fail
  exact bodyPost_ret (v := .agg #[.int .i64 7, .int .i64 0, .int .i64 0, .string s, .slice none 0 0]) (by simp [results, Tryz.results26, go_sem]) rfl ⟨rfl, (by first | exact vbelow1 _ _ | exact vbelow2 _ _ _ | exact below3 _ _ _ _ | exact below4 _ _ _ _ _)⟩

theorem impl_IntVal (n : Int) (w : World) : Calls Tryz.prog 23 #[.int .i64 n] w fun e w' => e = .returned (.agg #[.int .i64 3, .int .i64 n, .int .i64 0, .string { data := #[] }, .slice none 0 0]) ∧ Below w.heap.size w w' := by
  go_enter Tryz.func23, Tryz.ntmps23
  go_wp2_with fail
  exact bodyPost_ret (v := .agg #[.int .i64 3, .int .i64 n, .int .i64 0, .string { data := #[] }, .slice none 0 0]) (by simp [results, Tryz.results23, go_sem]) rfl ⟨rfl, (by first | exact vbelow1 _ _ | exact vbelow2 _ _ _ | exact below3 _ _ _ _ | exact below4 _ _ _ _ _)⟩

theorem impl_TextVal (s : ByteArray) (w : World) : Calls Tryz.prog 25 #[.string s] w fun e w' => e = .returned (.agg #[.int .i64 7, .int .i64 0, .int .i64 0, .string s, .slice none 0 0]) ∧ Below w.heap.size w w' := by
  go_enter Tryz.func25, Tryz.ntmps25
  go_wp2_with fail
  exact bodyPost_ret (v := .agg #[.int .i64 7, .int .i64 0, .int .i64 0, .string s, .slice none 0 0]) (by simp [results, Tryz.results25, go_sem]) rfl ⟨rfl, (by first | exact vbelow1 _ _ | exact vbelow2 _ _ _ | exact below3 _ _ _ _ | exact below4 _ _ _ _ _)⟩

/-- Five cells of a block. -/
def Box5 (w : World) (B : Nat) (a b c d e : Value) : Prop :=
  w.cell? ⟨B, 0, none⟩ = some a ∧ w.cell? ⟨B, 1, none⟩ = some b ∧ w.cell? ⟨B, 2, none⟩ = some c ∧ w.cell? ⟨B, 3, none⟩ = some d ∧ w.cell? ⟨B, 4, none⟩ = some e
theorem box5_new (w : World) (a b c d e : Value) (T : TypeId) : Box5 (w.alloc (.cells #[a, b, c, d, e] T)) w.heap.size a b c d e := by
  refine ⟨?_, ?_, ?_, ?_, ?_⟩
  all_goals (rw [World.cell?_alloc_at _ _ _ _ rfl]; rfl)
theorem box5_kept {w w' : World} (hb : Below w.heap.size w w') {B : Nat} {a b c d e : Value} (h : Box5 w B a b c d e) : Box5 w' B a b c d e := by
  obtain ⟨h0, h1, h2, h3, h4⟩ := h
  have hlt := World.block_lt_of_cell? w _ h0
  have kc := fun o v (h : w.cell? ⟨B, o, none⟩ = some v) => (World.cell?_of_block (w := w) (a := ⟨B, o, none⟩) (hb.block _ hlt)).trans h
  exact ⟨kc _ _ h0, kc _ _ h1, kc _ _ h2, kc _ _ h3, kc _ _ h4⟩

end Go.Proofs.YtilmhemcpgiikaaGreatDoor
