/- BitsOf: both count the bits. -/
import Derived.Test.YtcagcjkhjfbbpaaCBase
import Derived.Test.YtcagcjkhjfbbpaaShelf
namespace Go.Proofs.Ytcagcjkhjfbbpaa
open Go.ChangeShapes Go.WideShapes Go.ChangeAt Go.RowKit
open Go.ChangeMaps (open_string shut_string)


def bitsF (n : Int) : Int := if 0 ≤ n ∧ n ≤ 1000000000000000 then (Lib.bitLen n.toNat : Int) else 0
set_option maxHeartbeats 2000000 in
theorem bitsOf_spec (n : Int) (w : World) :
    Calls Try.prog 25 #[.int .i64 n] w fun e w' => e = .returned (.int .i64 (bitsF n)) ∧ w = w' := by
  cases hk : inB n 0 1000000000000000 with
  | false =>
    have hf : bitsF n = 0 := by unfold bitsF; rw [if_neg (by have := inB_false.1 hk; omega)]
    rw [hf]; clear hf
    go_enter Try.func25, Try.ntmps25
    go_wp2_with (go_at_call 47; refine (l1In_c _ _ _ _).mono ?_; rintro e w' ⟨rfl, rfl⟩)
    go_ret; exact ⟨rfl, rfl⟩
  | true =>
    obtain ⟨h1, h2⟩ := inB_true.1 hk
    obtain ⟨N, rfl⟩ : ∃ N : Nat, n = (N : Int) := ⟨n.toNat, by omega⟩
    have hf : bitsF N = (Lib.bitLen N : Int) := by unfold bitsF; rw [if_pos ⟨h1, h2⟩]; rfl
    rw [hf]; clear hf
    have hN : N ≤ 1000000000000000 := by omega
    go_enter Try.func25, Try.ntmps25
    go_wp2_with (go_at_call 47; refine (l1In_c _ _ _ _).mono ?_; rintro e w' ⟨rfl, rfl⟩)
    go_loop [3, 4] (fun c x => ∃ C X : Nat, X ≤ N ∧ C ≤ 1000 ∧ Hid (C + Lib.bitLen X = Lib.bitLen N) ∧ c = .int .i64 C ∧ x = .int .i64 X) (fun _ x => (intOf x).toNat)
    case atStart => exact ⟨0, N, Nat.le_refl _, by omega, Lib.hid (by omega), rfl, rfl⟩
    case round =>
      obtain ⟨C, X, hX, hC, H, rfl, rfl⟩ := hrel
      by_cases hlt : 0 < X
      · go_wp2
        go_round
        case rel =>
          have e1 := Lib.bitLen_half X (by omega) (by omega)
          have e2 : Lib.bitLen N ≤ 64 := Lib.bitLenAux_le 64 N 64 (by omega)
          have e3 := H.out
          exact ⟨C + 1, X / 2, by omega, by omega, Lib.hid (by omega), by go_num, by go_num⟩
        case measure => simp [intOf]; omega
      · obtain rfl : X = 0 := by omega
        go_wp2
        go_ret
        exact ⟨ret_int (by have := H.out; have e0 : Lib.bitLen 0 = 0 := by decide
                           omega), rfl⟩
set_option maxHeartbeats 2000000 in
theorem bitsOf_impl (n : Int) (w : World) :
    Calls Try.prog 24 #[.int .i64 n] w fun e w' => e = .returned (.int .i64 (bitsF n)) ∧ w = w' := by
  cases hk : inB n 0 1000000000000000 with
  | false =>
    have hf : bitsF n = 0 := by unfold bitsF; rw [if_neg (by have := inB_false.1 hk; omega)]
    rw [hf]; clear hf
    go_enter Try.func24, Try.ntmps24
    go_wp2_with (go_at_call 46; refine (within_c _ _ _ _).mono ?_; rintro e w' ⟨rfl, rfl⟩)
    go_ret; exact ⟨rfl, rfl⟩
  | true =>
    obtain ⟨h1, h2⟩ := inB_true.1 hk
    have hf : bitsF n = (Lib.bitLen n.toNat : Int) := by unfold bitsF; rw [if_pos ⟨h1, h2⟩]
    rw [hf]; clear hf
    go_enter Try.func24, Try.ntmps24
    go_wp2_with (first | (go_at_call 46; refine (within_c _ _ _ _).mono ?_; rintro e w' ⟨rfl, rfl⟩) | (go_at_call 49; refine (Try.bits_Len _ _ (by omega) (by omega)).mono ?_; rintro e w' ⟨rfl, rfl⟩))
    go_ret
    exact ⟨rfl, rfl⟩

end Go.Proofs.Ytcagcjkhjfbbpaa
