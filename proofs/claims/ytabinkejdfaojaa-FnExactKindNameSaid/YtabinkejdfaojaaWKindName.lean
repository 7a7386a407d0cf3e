/- KindName: both name the same kinds. -/
import Derived.Test.YtabinkejdfaojaaFrame
import Derived.WalkLawsBesides
import Derived.WalkSpells
import Derived.Deep.QuietTactic
import Derived.BigQuiet
import Derived.Lib.Hide
namespace Go.Proofs.Ytabinkejdfaojaa
open Go.ChangeShapes Go.WideShapes Go.ChangeAt Go.RowKit
open Go.ChangeMaps (open_string shut_string)


set_option maxHeartbeats 2000000 in
theorem kindName_law (n : Int) (w : World) (hn : (Lit.int .i64 n).wf = true) :
    Calls Try.prog 6 #[.int .i64 n] w fun e w' => e = .returned (.bool true) ∧ Below w.heap.size w w' := by
  by_cases h1 : 0 ≤ n
  · by_cases h2 : n ≤ 11
    · have h : n = 0 ∨ n = 1 ∨ n = 2 ∨ n = 3 ∨ n = 4 ∨ n = 5 ∨ n = 6 ∨ n = 7 ∨ n = 8 ∨ n = 9 ∨ n = 10 ∨ n = 11 := by omega
      clear h1 h2 hn
      rcases h with rfl | h
      · go_enter Try.func6, Try.ntmps6
        go_wp2
        go_ret
        exact ⟨rfl, (Below.refl _ _).alloc (Nat.le_refl _) _⟩
      · rcases h with rfl | rfl | rfl | rfl | rfl | rfl | rfl | rfl | rfl | rfl | rfl
        · have ix : ∀ w, (Instr.index 48 (Value.agg
            #[Value.string { data := #[110, 117, 108, 108] }, Value.string { data := #[98, 111, 111, 108] },
              Value.string { data := #[105, 110, 116] }, Value.string { data := #[102, 108, 116] },
              Value.string { data := #[111, 100, 100] }, Value.string { data := #[100, 101, 99] },
              Value.string { data := #[116, 101, 120, 116] }, Value.string { data := #[98, 121, 116, 101, 115] },
              Value.string { data := #[108, 105, 115, 116] }, Value.string { data := #[109, 97, 112] },
              Value.string { data := #[116, 97, 103] }])
            (Value.int IntKind.i64 0)).run Try.prog w = .ok (Value.string { data := #[110, 117, 108, 108] }) w := fun _ => by kernel_rfl
          go_enter Try.func6, Try.ntmps6
          go_wp2
          go_ret
          exact ⟨rfl, (Below.refl _ _).alloc (Nat.le_refl _) _⟩
        · have ix : ∀ w, (Instr.index 48 (Value.agg
            #[Value.string { data := #[110, 117, 108, 108] }, Value.string { data := #[98, 111, 111, 108] },
              Value.string { data := #[105, 110, 116] }, Value.string { data := #[102, 108, 116] },
              Value.string { data := #[111, 100, 100] }, Value.string { data := #[100, 101, 99] },
              Value.string { data := #[116, 101, 120, 116] }, Value.string { data := #[98, 121, 116, 101, 115] },
              Value.string { data := #[108, 105, 115, 116] }, Value.string { data := #[109, 97, 112] },
              Value.string { data := #[116, 97, 103] }])
            (Value.int IntKind.i64 1)).run Try.prog w = .ok (Value.string { data := #[98, 111, 111, 108] }) w := fun _ => by kernel_rfl
          go_enter Try.func6, Try.ntmps6
          go_wp2
          go_ret
          exact ⟨rfl, (Below.refl _ _).alloc (Nat.le_refl _) _⟩
        · have ix : ∀ w, (Instr.index 48 (Value.agg
            #[Value.string { data := #[110, 117, 108, 108] }, Value.string { data := #[98, 111, 111, 108] },
              Value.string { data := #[105, 110, 116] }, Value.string { data := #[102, 108, 116] },
              Value.string { data := #[111, 100, 100] }, Value.string { data := #[100, 101, 99] },
              Value.string { data := #[116, 101, 120, 116] }, Value.string { data := #[98, 121, 116, 101, 115] },
              Value.string { data := #[108, 105, 115, 116] }, Value.string { data := #[109, 97, 112] },
              Value.string { data := #[116, 97, 103] }])
            (Value.int IntKind.i64 2)).run Try.prog w = .ok (Value.string { data := #[105, 110, 116] }) w := fun _ => by kernel_rfl
          go_enter Try.func6, Try.ntmps6
          go_wp2
          go_ret
          exact ⟨rfl, (Below.refl _ _).alloc (Nat.le_refl _) _⟩
        · have ix : ∀ w, (Instr.index 48 (Value.agg
            #[Value.string { data := #[110, 117, 108, 108] }, Value.string { data := #[98, 111, 111, 108] },
              Value.string { data := #[105, 110, 116] }, Value.string { data := #[102, 108, 116] },
              Value.string { data := #[111, 100, 100] }, Value.string { data := #[100, 101, 99] },
              Value.string { data := #[116, 101, 120, 116] }, Value.string { data := #[98, 121, 116, 101, 115] },
              Value.string { data := #[108, 105, 115, 116] }, Value.string { data := #[109, 97, 112] },
              Value.string { data := #[116, 97, 103] }])
            (Value.int IntKind.i64 3)).run Try.prog w = .ok (Value.string { data := #[102, 108, 116] }) w := fun _ => by kernel_rfl
          go_enter Try.func6, Try.ntmps6
          go_wp2
          go_ret
          exact ⟨rfl, (Below.refl _ _).alloc (Nat.le_refl _) _⟩
        · have ix : ∀ w, (Instr.index 48 (Value.agg
            #[Value.string { data := #[110, 117, 108, 108] }, Value.string { data := #[98, 111, 111, 108] },
              Value.string { data := #[105, 110, 116] }, Value.string { data := #[102, 108, 116] },
              Value.string { data := #[111, 100, 100] }, Value.string { data := #[100, 101, 99] },
              Value.string { data := #[116, 101, 120, 116] }, Value.string { data := #[98, 121, 116, 101, 115] },
              Value.string { data := #[108, 105, 115, 116] }, Value.string { data := #[109, 97, 112] },
              Value.string { data := #[116, 97, 103] }])
            (Value.int IntKind.i64 4)).run Try.prog w = .ok (Value.string { data := #[111, 100, 100] }) w := fun _ => by kernel_rfl
          go_enter Try.func6, Try.ntmps6
          go_wp2
          go_ret
          exact ⟨rfl, (Below.refl _ _).alloc (Nat.le_refl _) _⟩
        · have ix : ∀ w, (Instr.index 48 (Value.agg
            #[Value.string { data := #[110, 117, 108, 108] }, Value.string { data := #[98, 111, 111, 108] },
              Value.string { data := #[105, 110, 116] }, Value.string { data := #[102, 108, 116] },
              Value.string { data := #[111, 100, 100] }, Value.string { data := #[100, 101, 99] },
              Value.string { data := #[116, 101, 120, 116] }, Value.string { data := #[98, 121, 116, 101, 115] },
              Value.string { data := #[108, 105, 115, 116] }, Value.string { data := #[109, 97, 112] },
              Value.string { data := #[116, 97, 103] }])
            (Value.int IntKind.i64 5)).run Try.prog w = .ok (Value.string { data := #[100, 101, 99] }) w := fun _ => by kernel_rfl
          go_enter Try.func6, Try.ntmps6
          go_wp2
          go_ret
          exact ⟨rfl, (Below.refl _ _).alloc (Nat.le_refl _) _⟩
        · have ix : ∀ w, (Instr.index 48 (Value.agg
            #[Value.string { data := #[110, 117, 108, 108] }, Value.string { data := #[98, 111, 111, 108] },
              Value.string { data := #[105, 110, 116] }, Value.string { data := #[102, 108, 116] },
              Value.string { data := #[111, 100, 100] }, Value.string { data := #[100, 101, 99] },
              Value.string { data := #[116, 101, 120, 116] }, Value.string { data := #[98, 121, 116, 101, 115] },
              Value.string { data := #[108, 105, 115, 116] }, Value.string { data := #[109, 97, 112] },
              Value.string { data := #[116, 97, 103] }])
            (Value.int IntKind.i64 6)).run Try.prog w = .ok (Value.string { data := #[116, 101, 120, 116] }) w := fun _ => by kernel_rfl
          go_enter Try.func6, Try.ntmps6
          go_wp2
          go_ret
          exact ⟨rfl, (Below.refl _ _).alloc (Nat.le_refl _) _⟩
        · have ix : ∀ w, (Instr.index 48 (Value.agg
            #[Value.string { data := #[110, 117, 108, 108] }, Value.string { data := #[98, 111, 111, 108] },
              Value.string { data := #[105, 110, 116] }, Value.string { data := #[102, 108, 116] },
              Value.string { data := #[111, 100, 100] }, Value.string { data := #[100, 101, 99] },
              Value.string { data := #[116, 101, 120, 116] }, Value.string { data := #[98, 121, 116, 101, 115] },
              Value.string { data := #[108, 105, 115, 116] }, Value.string { data := #[109, 97, 112] },
              Value.string { data := #[116, 97, 103] }])
            (Value.int IntKind.i64 7)).run Try.prog w = .ok (Value.string { data := #[98, 121, 116, 101, 115] }) w := fun _ => by kernel_rfl
          go_enter Try.func6, Try.ntmps6
          go_wp2
          go_ret
          exact ⟨rfl, (Below.refl _ _).alloc (Nat.le_refl _) _⟩
        · have ix : ∀ w, (Instr.index 48 (Value.agg
            #[Value.string { data := #[110, 117, 108, 108] }, Value.string { data := #[98, 111, 111, 108] },
              Value.string { data := #[105, 110, 116] }, Value.string { data := #[102, 108, 116] },
              Value.string { data := #[111, 100, 100] }, Value.string { data := #[100, 101, 99] },
              Value.string { data := #[116, 101, 120, 116] }, Value.string { data := #[98, 121, 116, 101, 115] },
              Value.string { data := #[108, 105, 115, 116] }, Value.string { data := #[109, 97, 112] },
              Value.string { data := #[116, 97, 103] }])
            (Value.int IntKind.i64 8)).run Try.prog w = .ok (Value.string { data := #[108, 105, 115, 116] }) w := fun _ => by kernel_rfl
          go_enter Try.func6, Try.ntmps6
          go_wp2
          go_ret
          exact ⟨rfl, (Below.refl _ _).alloc (Nat.le_refl _) _⟩
        · have ix : ∀ w, (Instr.index 48 (Value.agg
            #[Value.string { data := #[110, 117, 108, 108] }, Value.string { data := #[98, 111, 111, 108] },
              Value.string { data := #[105, 110, 116] }, Value.string { data := #[102, 108, 116] },
              Value.string { data := #[111, 100, 100] }, Value.string { data := #[100, 101, 99] },
              Value.string { data := #[116, 101, 120, 116] }, Value.string { data := #[98, 121, 116, 101, 115] },
              Value.string { data := #[108, 105, 115, 116] }, Value.string { data := #[109, 97, 112] },
              Value.string { data := #[116, 97, 103] }])
            (Value.int IntKind.i64 9)).run Try.prog w = .ok (Value.string { data := #[109, 97, 112] }) w := fun _ => by kernel_rfl
          go_enter Try.func6, Try.ntmps6
          go_wp2
          go_ret
          exact ⟨rfl, (Below.refl _ _).alloc (Nat.le_refl _) _⟩
        · have ix : ∀ w, (Instr.index 48 (Value.agg
            #[Value.string { data := #[110, 117, 108, 108] }, Value.string { data := #[98, 111, 111, 108] },
              Value.string { data := #[105, 110, 116] }, Value.string { data := #[102, 108, 116] },
              Value.string { data := #[111, 100, 100] }, Value.string { data := #[100, 101, 99] },
              Value.string { data := #[116, 101, 120, 116] }, Value.string { data := #[98, 121, 116, 101, 115] },
              Value.string { data := #[108, 105, 115, 116] }, Value.string { data := #[109, 97, 112] },
              Value.string { data := #[116, 97, 103] }])
            (Value.int IntKind.i64 10)).run Try.prog w = .ok (Value.string { data := #[116, 97, 103] }) w := fun _ => by kernel_rfl
          go_enter Try.func6, Try.ntmps6
          go_wp2
          go_ret
          exact ⟨rfl, (Below.refl _ _).alloc (Nat.le_refl _) _⟩
    · go_enter Try.func6, Try.ntmps6
      go_wp2
      go_ret
      exact ⟨rfl, (Below.refl _ _).alloc (Nat.le_refl _) _⟩
  · go_enter Try.func6, Try.ntmps6
    go_wp2
    go_ret
    exact ⟨rfl, (Below.refl _ _).alloc (Nat.le_refl _) _⟩

end Go.Proofs.Ytabinkejdfaojaa
