/- Values without elements. -/
import Derived.Test.YtilmhemcpgiikaaDoorVEq
import Derived.Test.YtilmhemcpgiikaaDoorCConv
namespace Go.Proofs.YtilmhemcpgiikaaDoor
open Go.Deep Go.ChangeShapes Go.WideShapes Go.ChangeAt Go.RowKit
open Go.ChangeMaps (open_string shut_string)


theorem tsl_nil (w : World) : TSl w (.slice none 0 0) [] := ⟨none, 0, 0, 0, rfl, Nat.le_refl _, by simp [maxLen], fun h => absurd rfl h, fun j h => absurd h (Nat.not_lt_zero _)⟩
theorem eq_leaf (k n x : Int) (s : ByteArray) (w : World) :
    Calls Tryd.prog 17 #[.agg #[.int .i64 k, .int .i64 n, .int .i64 x, .string s, .slice none 0 0], .agg #[.int .i64 k, .int .i64 n, .int .i64 x, .string s, .slice none 0 0]] w fun e w' => e = .returned (.bool true) ∧ Below w.heap.size w w' :=
  eqVal_c (.mk k n x s []) w _ _ (tsl_nil w) (tsl_nil w)
set_option maxHeartbeats 1000000 in
theorem markS_nil (q : Int) (w : World) : Calls Tryd.prog 82 #[.slice none 0 0, .int .i64 q] w fun e w' => e = .returned (.int .i64 q) ∧ w = w' := by
  go_enter Tryd.func82, Tryd.ntmps82
  go_wp2_with fail
  go_loop [1, 5] (fun c i => c = .int .i64 q ∧ i = .int .i64 0) (fun _ _ => 0)
  case atStart => exact ⟨rfl, rfl⟩
  case round =>
    obtain ⟨rfl, rfl⟩ := hrel
    go_wp2_with fail
    go_ret
    exact ⟨rfl, rfl⟩
set_option maxHeartbeats 1000000 in
theorem heldS_nil (q : Int) (w : World) : Calls Tryd.prog 83 #[.slice none 0 0, .int .i64 q] w fun e w' => e = .returned (.int .i64 q) ∧ w = w' := by
  go_enter Tryd.func83, Tryd.ntmps83
  go_wp2_with fail
  go_loop [1, 5] (fun c i => c = .int .i64 q ∧ i = .int .i64 0) (fun _ _ => 0)
  case atStart => exact ⟨rfl, rfl⟩
  case round =>
    obtain ⟨rfl, rfl⟩ := hrel
    go_wp2_with fail
    go_ret
    exact ⟨rfl, rfl⟩
theorem mark_leaf (k n x : Int) (s : ByteArray) (q : Int) (w : World) : Calls Tryd.prog 22 #[.agg #[.int .i64 k, .int .i64 n, .int .i64 x, .string s, .slice none 0 0], .int .i64 q] w fun e w' => e = .returned (.int .i64 q) ∧ Below w.heap.size w w' := by
  go_enter Tryd.func22, Tryd.ntmps22
  go_wp2_with fail
  refine (markS_nil _ _).mono ?_
  rintro _ _ ⟨rfl, rfl⟩
  go_wp2_with fail
  go_ret
  exact ⟨rfl, vbelow1 _ _⟩
theorem held_leaf (k n x : Int) (s : ByteArray) (q : Int) (w : World) (hq : 0 ≤ q) : Calls Tryd.prog 23 #[.agg #[.int .i64 k, .int .i64 n, .int .i64 x, .string s, .slice none 0 0], .int .i64 q] w fun e w' => e = .returned (.int .i64 q) ∧ Below w.heap.size w w' := by
  go_enter Tryd.func23, Tryd.ntmps23
  go_wp2_with fail
  refine (heldS_nil _ _).mono ?_
  rintro _ _ ⟨rfl, rfl⟩
  go_wp2_with fail
  go_ret
  exact ⟨rfl, vbelow1 _ _⟩

theorem spec_IntVal (n : Int) (w : World) : Calls Tryd.prog 153 #[.int .i64 n] w fun e w' => e = .returned (.agg #[.int .i64 3, .int .i64 n, .int .i64 0, .string { data := #[] }, .slice none 0 0]) ∧ Below w.heap.size w w' := by
  go_enter Tryd.func153, Tryd.ntmps153
  go_wp2_with fail
  exact bodyPost_ret (v := .agg #[.int .i64 3, .int .i64 n, .int .i64 0, .string { data := #[] }, .slice none 0 0]) (by simp [results, Tryd.results153, go_sem]) rfl ⟨rfl, (by first | exact vbelow1 _ _ | exact vbelow2 _ _ _ | exact below3 _ _ _ _ | exact below4 _ _ _ _ _)⟩

theorem spec_TextVal (s : ByteArray) (w : World) : Calls Tryd.prog 154 #[.string s] w fun e w' => e = .returned (.agg #[.int .i64 7, .int .i64 0, .int .i64 0, .string s, .slice none 0 0]) ∧ Below w.heap.size w w' := by
  go_enter Tryd.func154, Tryd.ntmps154
  go_wp2_with fail
  exact bodyPost_ret (v := .agg #[.int .i64 7, .int .i64 0, .int .i64 0, .string s, .slice none 0 0]) (by simp [results, Tryd.results154, go_sem]) rfl ⟨rfl, (by first | exact vbelow1 _ _ | exact vbelow2 _ _ _ | exact below3 _ _ _ _ | exact below4 _ _ _ _ _)⟩



/-- Five cells of a block. -/
def Box5 (w : World) (B : Nat) (a b c d e : Value) : Prop :=
  w.cell? ⟨B, 0, none⟩ = some a ∧ w.cell? ⟨B, 1, none⟩ = some b ∧ w.cell? ⟨B, 2, none⟩ = some c ∧ w.cell? ⟨B, 3, none⟩ = some d ∧ w.cell? ⟨B, 4, none⟩ = some e
theorem box5_new (w : World) (a b c d e : Value) (T : TypeId) : Box5 (w.alloc (.cells #[a, b, c, d, e] T)) w.heap.size a b c d e := by
  refine ⟨?_, ?_, ?_, ?_, ?_⟩
  all_goals (rw [World.cell?_alloc_at _ _ _ _ rfl]; rfl)
theorem box5_kept {w w' : World} (hb : Below w.heap.size w w') {B : Nat} {a b c d e : Value} (h : Box5 w B a b c d e) : Box5 w' B a b c d e := by
  obtain ⟨h0, h1, h2, h3, h4⟩ := h
  have hlt := World.block_lt_of_cell? w _ h0
  have kc := fun o v (h : w.cell? ⟨B, o, none⟩ = some v) => (World.cell?_of_block (w := w) (a := ⟨B, o, none⟩) (hb.block _ hlt)).trans h
  exact ⟨kc _ _ h0, kc _ _ h1, kc _ _ h2, kc _ _ h3, kc _ _ h4⟩

end Go.Proofs.YtilmhemcpgiikaaDoor
