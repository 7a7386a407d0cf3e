/- NumText and Digits: the numeral of a number. -/
import Derived.Test.YtcmdchhhdcdpnaaDoorFrameX
import Derived.Test.YtcmdchhhdcdpnaaDoorCStr
import Derived.Test.YtcmdchhhdcdpnaaDoorCConv
import Derived.Test.YtcmdchhhdcdpnaaDoorMDec
import Derived.Test.YtcmdchhhdcdpnaaDoorShelf
import Derived.Lib.AppendIntMem
namespace Go.Proofs.YtcmdchhhdcdpnaaDoor
open Go.Deep Go.ChangeShapes Go.WideShapes Go.ChangeAt Go.RowKit
open Go.ChangeMaps (open_string shut_string)

/-- The numeral. -/
def numS (n : Int) : ByteArray := ⟨(Lib.itoa n).toArray⟩

set_option maxHeartbeats 1000000 in
theorem digits_spec (n : Int) (w : World) (h1 : -9223372036854775808 ≤ n) (h2 : n ≤ 9223372036854775807) :
    Calls Tryd.prog 23 #[.int .i64 n] w fun e w' => e = .returned (.int .i64 (dgs n)) ∧ w = w' := by
  have hb : dgs n ≤ 19 := nDigits_64 (by omega)
  have hw0 : IntKind.i64.wrap (n.tdiv 10) = n.tdiv 10 := by
    have := tdiv10_abs n
    exact IntWalk.i64_in _ (by omega)
  have ha : (n.tdiv 10).natAbs ≤ 922337203685477580 := by rw [tdiv10_abs]; omega
  have hst : (n.tdiv 10 = 0 ∧ dgs n = 1) ∨ (n.tdiv 10 ≠ 0 ∧ 1 + dgs (n.tdiv 10) = dgs n) := by
    by_cases h : n.tdiv 10 = 0
    · exact .inl ⟨h, dgs_one h⟩
    · exact .inr ⟨h, by have := dgs_step h; omega⟩
  have HST := Lib.hid hst
  have HB := Lib.hid hb
  have HA := Lib.hid ha
  clear hst hb ha
  go_enter Tryd.func23, Tryd.ntmps23
  go_wp2_with fail
  generalize n.tdiv 10 = x0 at *
  go_loop [3, 4] (fun k x => ∃ (K : Nat) (X : Int), k = .int .i64 K ∧ x = .int .i64 X ∧ K ≤ 19 ∧ X.natAbs ≤ 922337203685477580 ∧ ((X = 0 ∧ dgs n = K) ∨ (X ≠ 0 ∧ K + dgs X = dgs n))) (fun _ x => (intOf x).natAbs)
  case atStart => exact ⟨1, x0, rfl, rfl, by omega, HA.out, HST.out⟩
  case round =>
    obtain ⟨K, X, rfl, rfl, hK, hX, hd⟩ := hrel
    by_cases h0 : X = 0
    · subst h0
      have hk : dgs n = K := by rcases hd with h | h; exact h.2; exact absurd rfl h.1
      have HK := Lib.hid hk; clear hk hd HST
      go_wp2_with fail
      go_ret
      exact ⟨ret_int (by rw [HK.out]), rfl⟩
    · have hne : (X != 0) = true := by simpa using h0
      have hdk : K + dgs X = dgs n := by rcases hd with h | h; exact absurd h.1 h0; exact h.2
      have hab := tdiv10_abs X
      have hp := dgs_pos X
      have hw : IntKind.i64.wrap (X.tdiv 10) = X.tdiv 10 := IntWalk.i64_in _ (by omega)
      have hw2 : IntKind.i64.wrap ((K : Int) + 1) = ((K + 1 : Nat) : Int) := by rw [IntWalk.i64_in _ (by omega)]; omega
      have hnx : (X.tdiv 10).natAbs ≤ 922337203685477580 ∧ ((X.tdiv 10 = 0 ∧ dgs n = K + 1) ∨ (X.tdiv 10 ≠ 0 ∧ K + 1 + dgs (X.tdiv 10) = dgs n)) ∧ K + 1 ≤ 19 ∧ (X.tdiv 10).natAbs < X.natAbs := by
        have := HB.out
        refine ⟨by omega, ?_, ?_, by omega⟩
        · by_cases h : X.tdiv 10 = 0
          · exact .inl ⟨h, by have := dgs_one h; omega⟩
          · exact .inr ⟨h, by have := dgs_step h; omega⟩
        · by_cases h : X.tdiv 10 = 0
          · have := dgs_one h; omega
          · have := dgs_step h; have := dgs_pos (X.tdiv 10); omega
      have HN := Lib.hid hnx
      clear hnx hd hdk hab hp HST
      go_wp2_with fail
      generalize X.tdiv 10 = Y at *
      go_round
      case rel => exact ⟨K + 1, Y, by go_num, rfl, HN.out.2.2.1, HN.out.1, HN.out.2.1⟩
      case measure => have := HN.out.2.2.2; simpa [intOf] using this

set_option maxHeartbeats 1000000 in
theorem numText_impl (n : Int) (w : World) (hL : LaidP w) (h1 : -9223372036854775808 ≤ n) (h2 : n ≤ 9223372036854775807) :
    Calls Tryd.prog 32 #[.int .i64 n] w fun e w' => e = .returned (.string (numS n)) ∧ Below w.heap.size w w' := by
  have HC := Lib.hid (Tryd.strconv_Itoa n h1 h2 w hL)
  clear hL
  go_enter Tryd.func32, Tryd.ntmps32
  go_wp2_with fail
  refine HC.out.mono ?_
  rintro _ w1 ⟨rfl, k, os, rfl⟩
  go_wp2_with fail
  go_ret
  exact ⟨rfl, Lib.below_grow _ _ (Nat.le_refl _) _ _⟩


/-- What the reference has still to write. -/
def numPre (X : Int) (s : List UInt8) : List UInt8 := if X = 0 then s else Lib.decDigits X.natAbs ++ s
theorem numPre_zero (s : List UInt8) : numPre 0 s = s := if_pos rfl
theorem numPre_step {X : Int} (h : X ≠ 0) (s : List UInt8) : numPre (X.tdiv 10) (UInt8.ofNat (48 + X.natAbs % 10) :: s) = numPre X s := by
  unfold numPre
  rw [if_neg h]
  have ha := tdiv10_abs X
  by_cases h0 : X.tdiv 10 = 0
  · have h9 : X.natAbs < 10 := by rw [h0] at ha; simp at ha; omega
    rw [if_pos h0, decDigits_low h9, show X.natAbs % 10 = X.natAbs by omega]; rfl
  · rw [if_neg h0, ha, decDigits_step (u := X.natAbs) (by omega), List.append_assoc]; rfl
theorem tmod_pos_neg (X : Int) : (0 < X ∧ X.tmod 10 = ((X.natAbs % 10 : Nat) : Int)) ∨ (X ≤ 0 ∧ X.tmod 10 = -((X.natAbs % 10 : Nat) : Int)) := by
  by_cases h : 0 < X
  · refine .inl ⟨h, ?_⟩
    rw [Int.tmod_eq_emod_of_nonneg (by omega)]; omega
  · refine .inr ⟨by omega, ?_⟩
    have : X = -(-X) := by omega
    rw [this, Int.neg_tmod, Int.tmod_eq_emod_of_nonneg (by omega)]; omega

theorem conv_one (c : UInt8) (z : Int) (hz : z = (c.toNat : Int)) (w : World) :
    (convert 59 9 (.slice (some ⟨w.heap.size, 0, none⟩) 1 1)).run Tryd.prog (w.alloc (.cells #[.int .u8 z] 5)) = .ok (.string ⟨#[c]⟩) (w.alloc (.cells #[.int .u8 z] 5)) := by
  refine run_str (l := [c]) Tryd.underlying59 Tryd.underlying5 Tryd.underlying9 rfl (.inr ⟨_, 0, rfl, by simp, fun j hj => ?_⟩)
  obtain rfl : j = 0 := by simpa [bz] using hj
  rw [World.cell?_alloc_at _ _ _ _ rfl, hz]
  rfl
theorem str_cons (c : UInt8) (l : List UInt8) : (({ data := #[c] } : ByteArray) ++ { data := l.toArray }) = { data := (c :: l).toArray } := by
  apply ByteArray.ext; simp

theorem trim_minus (n : Int) : (Lib.trimPrefix (Lib.itoa n) [45]) = Lib.decDigits n.natAbs := by
  by_cases h : n < 0
  · rw [itoa_neg h]
    simp [Lib.trimPrefix, Lib.hasPrefix, List.isPrefixOf]
  · rw [itoa_pos (by omega)]
    obtain ⟨c, l, e, h1, h2⟩ := decDigits_head n.natAbs
    rw [e]
    have : (45 == c) = false := by
      rw [beq_eq_false_iff_ne]
      intro hc; subst hc; simp at h1
    simp [Lib.trimPrefix, Lib.hasPrefix, List.isPrefixOf, this]
theorem numS_size (n : Int) : (numS n).size = dgs n + if n < 0 then 1 else 0 := by
  rw [← itoa_length]; simp [numS, ByteArray.size]

set_option maxHeartbeats 1000000 in
theorem digits_impl (n : Int) (w : World) (hL : LaidP w) (h1 : -9223372036854775808 ≤ n) (h2 : n ≤ 9223372036854775807) :
    Calls Tryd.prog 26 #[.int .i64 n] w fun e w' => e = .returned (.int .i64 (dgs n)) ∧ Below w.heap.size w w' := by
  have HC := Lib.hid (numText_impl n w hL h1 h2)
  have hle : dgs n ≤ 19 := nDigits_64 (by omega)
  have hT := fun w => Tryd.strings_TrimPrefix (numS n) { data := #[45] } w
  have ht : (Lib.trimPrefix (numS n).data.toList ({ data := #[45] } : ByteArray).data.toList) = Lib.decDigits n.natAbs := trim_minus n
  rw [ht] at hT
  have hsz : ({ data := (Lib.decDigits n.natAbs).toArray } : ByteArray).size = dgs n := by
    simp [ByteArray.size, Lib.decDigits_length, dgs]
  generalize ({ data := (Lib.decDigits n.natAbs).toArray } : ByteArray) = S at *
  have HT := Lib.hid hT
  have HSZ := Lib.hid hsz
  clear hL hT ht
  go_enter Tryd.func26, Tryd.ntmps26
  go_wp2_with fail
  refine HC.out.mono ?_
  rintro _ w1 ⟨rfl, b1⟩
  go_wp2_with fail
  refine (HT.out _).mono ?_
  rintro _ w2 ⟨rfl, rfl⟩
  go_wp2_with fail
  go_ret
  exact ⟨rfl, b1⟩
end Go.Proofs.YtcmdchhhdcdpnaaDoor
