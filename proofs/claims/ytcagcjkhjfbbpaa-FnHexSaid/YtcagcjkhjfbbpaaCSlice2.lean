/- Slice: the contracts in one form. -/
import Derived.Test.YtcagcjkhjfbbpaaCSlice
namespace Go.Proofs.Ytcagcjkhjfbbpaa
open Go.Deep Go.ChangeShapes Go.WideShapes Go.ChangeAt Go.RowKit
open Go.ChangeMaps (open_string shut_string)


/-- The bytes at an offset. -/
def sliceF (zs : List Int) (p n : Int) : List Int := if existF zs.length p n = true then (zs.drop p.toNat).take n.toNat else []
theorem slice_impl_c (zs : List Int) (a : Option Addr) (cap : Nat) (p n : Int) (w : World) (hr : Rd w .u8 a zs) (hlen : zs.length ≤ 1048576) (hcap : zs.length ≤ cap) :
    Calls Try.prog 13 #[.slice a zs.length cap, .int .i64 p, .int .i64 n] w fun e w' => ∃ v, e = .returned (.tuple #[v, .bool (existF zs.length p n)]) ∧ w'.ownsRow w.heap.size 5 1 v (sliceF zs p n).length ((sliceF zs p n).map (Value.int .u8)) ∧ Below w.heap.size w w' := by
  unfold sliceF
  cases h : existF zs.length p n with
  | true =>
    have h' := of_decide_eq_true h
    obtain ⟨P, rfl⟩ : ∃ P : Nat, p = (P : Int) := ⟨p.toNat, by omega⟩
    obtain ⟨N, rfl⟩ : ∃ N : Nat, n = (N : Int) := ⟨n.toNat, by omega⟩
    have hl : ((zs.drop P).take N).length = N := by simp; omega
    rw [if_pos rfl, Int.toNat_natCast, Int.toNat_natCast, hl]
    exact slice_impl_yes zs a cap P N w hr hlen hcap (by omega)
  | false =>
    rw [if_neg (by simp)]
    refine (slice_impl_no a zs.length cap p n w (by omega) h).mono ?_
    rintro e w' ⟨rfl, rfl⟩
    exact ⟨_, rfl, World.ownsRow_nil _ _ _ _, Below.refl _ _⟩
theorem slice_spec_c (zs : List Int) (a : Option Addr) (cap : Nat) (p n : Int) (w : World) (hr : Rd w .u8 a zs) (hlen : zs.length ≤ 1048576) (hcap : zs.length ≤ cap) (hp : -9223372036854775808 ≤ p ∧ p ≤ 9223372036854775807) (hn : -9223372036854775808 ≤ n ∧ n ≤ 9223372036854775807) :
    Calls Try.prog 14 #[.slice a zs.length cap, .int .i64 p, .int .i64 n] w fun e w' => ∃ v, e = .returned (.tuple #[v, .bool (existF zs.length p n)]) ∧ w'.ownsRow w.heap.size 5 1 v (sliceF zs p n).length ((sliceF zs p n).map (Value.int .u8)) ∧ Below w.heap.size w w' := by
  unfold sliceF
  cases h : existF zs.length p n with
  | true =>
    have h' := of_decide_eq_true h
    obtain ⟨P, rfl⟩ : ∃ P : Nat, p = (P : Int) := ⟨p.toNat, by omega⟩
    obtain ⟨N, rfl⟩ : ∃ N : Nat, n = (N : Int) := ⟨n.toNat, by omega⟩
    have hl : ((zs.drop P).take N).length = N := by simp; omega
    rw [if_pos rfl, Int.toNat_natCast, Int.toNat_natCast, hl]
    exact slice_spec_yes zs a cap P N w hr hlen hcap (by omega)
  | false =>
    rw [if_neg (by simp)]
    refine (slice_spec_no a zs.length cap p n w (by omega) hp hn h).mono ?_
    rintro e w' ⟨g, rfl, ho, hb⟩
    exact ⟨_, rfl, by simpa using ho, hb⟩

end Go.Proofs.Ytcagcjkhjfbbpaa
