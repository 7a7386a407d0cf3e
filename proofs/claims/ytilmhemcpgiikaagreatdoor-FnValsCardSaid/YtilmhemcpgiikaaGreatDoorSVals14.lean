/- Vals: texts of the proof (MDec CNum). -/
import Derived.Lib.ItoaNum
import Derived.Test.YtilmhemcpgiikaaGreatDoorSVals13
import Derived.Test.YtilmhemcpgiikaaGreatDoorSVals3
import Derived.Test.YtilmhemcpgiikaaGreatDoorSVals1
import Derived.Test.YtilmhemcpgiikaaGreatDoorShelf
import Derived.Lib.AppendIntMem
/- Plain laws on decimal numerals. -/
namespace Go.Proofs.YtilmhemcpgiikaaGreatDoor

/-- The number of decimal digits. -/
def dgs (n : Int) : Nat := Lib.nDigits n.natAbs

theorem nDigits_le {u k : Nat} (hk : 1 ≤ k) : Lib.nDigits u ≤ k ↔ u < 10 ^ k := by
  constructor
  · intro h
    exact Nat.lt_of_lt_of_le (Lib.lt_pow_nDigits u) (Nat.pow_le_pow_right (by decide) h)
  · intro h
    induction k generalizing u with
    | zero => omega
    | succ k ih =>
      by_cases hu : u < 10
      · rw [Lib.nDigits_small hu]; omega
      · rw [Lib.nDigits_big hu]
        cases k with
        | zero => simp at h; omega
        | succ k => have := @ih (u / 10) (by omega) (by rw [Nat.pow_succ] at h; omega); omega

theorem dgs_le {n : Int} {k : Nat} (hk : 1 ≤ k) : dgs n ≤ k ↔ n.natAbs < 10 ^ k := nDigits_le hk
theorem dgs_pos (n : Int) : 1 ≤ dgs n := Lib.nDigits_pos _
theorem p15 : (10 : Nat) ^ 15 = 1000000000000000 := by decide
theorem p16 : (10 : Nat) ^ 16 = 10000000000000000 := by decide
theorem p17 : (10 : Nat) ^ 17 = 100000000000000000 := by decide
theorem dgs_17 {n : Int} : dgs n ≤ 17 ↔ -100000000000000000 < n ∧ n < 100000000000000000 := by
  rw [dgs_le (by decide), p17]; omega
theorem dgs_16 {n : Int} : dgs n ≤ 16 ↔ -10000000000000000 < n ∧ n < 10000000000000000 := by
  rw [dgs_le (by decide), p16]; omega
theorem nDigits_64 {u : Nat} (h : u ≤ 9223372036854775808) : Lib.nDigits u ≤ 19 := by
  have p19 : (10 : Nat) ^ 19 = 10000000000000000000 := by decide
  rw [nDigits_le (by decide), p19]; omega

theorem tdiv10_abs (n : Int) : (n.tdiv 10).natAbs = n.natAbs / 10 := by
  rw [Int.natAbs_tdiv]; rfl
theorem dgs_step {n : Int} (h : n.tdiv 10 ≠ 0) : dgs n = dgs (n.tdiv 10) + 1 := by
  unfold dgs
  rw [tdiv10_abs, Lib.nDigits_big]
  have := tdiv10_abs n; omega
theorem dgs_one {n : Int} (h : n.tdiv 10 = 0) : dgs n = 1 := by
  unfold dgs
  rw [Lib.nDigits_small]
  have := tdiv10_abs n; omega

/-- Every sign of a numeral is a digit. -/
theorem decDigits_dig (u : Nat) : ∀ c ∈ Lib.decDigits u, 48 ≤ c.toNat ∧ c.toNat ≤ 57 := by
  induction u using Nat.strongRecOn with
  | _ u ih =>
    intro c hc
    rw [Lib.decDigits] at hc
    by_cases h : u < 10
    · rw [dif_pos h] at hc
      simp at hc
      subst hc
      simp; omega
    · rw [dif_neg h] at hc
      rcases List.mem_append.1 hc with hc | hc
      · exact ih (u / 10) (by omega) c hc
      · simp at hc
        subst hc
        simp; omega
theorem decDigits_ne (u : Nat) : Lib.decDigits u ≠ [] := by
  intro h
  have := Lib.decDigits_length u
  rw [h] at this
  have := Lib.nDigits_pos u
  simp at *; omega
theorem decDigits_step {u : Nat} (h : ¬ u < 10) : Lib.decDigits u = Lib.decDigits (u / 10) ++ [UInt8.ofNat (48 + u % 10)] := by
  rw [Lib.decDigits, dif_neg h]
theorem decDigits_low {u : Nat} (h : u < 10) : Lib.decDigits u = [UInt8.ofNat (48 + u)] := by
  rw [Lib.decDigits, dif_pos h]

/-- The value of a list of digits. -/
def digVal (l : List UInt8) : Nat := l.foldl (fun n c => 10 * n + (c.toNat - 48)) 0
theorem digVal_snoc (l : List UInt8) (c : UInt8) : digVal (l ++ [c]) = 10 * digVal l + (c.toNat - 48) := by
  unfold digVal; rw [List.foldl_append]; rfl
theorem digVal_decDigits (u : Nat) : digVal (Lib.decDigits u) = u := by
  induction u using Nat.strongRecOn with
  | _ u ih =>
    by_cases h : u < 10
    · rw [decDigits_low h]; simp [digVal]; omega
    · rw [decDigits_step h, digVal_snoc, ih (u / 10) (by omega)]; simp; omega
theorem decDigits_inj {u v : Nat} (h : Lib.decDigits u = Lib.decDigits v) : u = v := by
  rw [← digVal_decDigits u, ← digVal_decDigits v, h]
theorem decDigits_head (u : Nat) : ∃ c l, Lib.decDigits u = c :: l ∧ 48 ≤ c.toNat ∧ c.toNat ≤ 57 := by
  cases hd : Lib.decDigits u with
  | nil => exact absurd hd (decDigits_ne u)
  | cons c l => exact ⟨c, l, rfl, decDigits_dig u c (by rw [hd]; simp)⟩
theorem itoa_neg {n : Int} (h : n < 0) : Lib.itoa n = 45 :: Lib.decDigits n.natAbs := if_pos h
theorem itoa_pos {n : Int} (h : 0 ≤ n) : Lib.itoa n = Lib.decDigits n.natAbs := by
  unfold Lib.itoa; rw [if_neg (by omega)]; congr 1; omega
theorem itoa_inj {m n : Int} (h : Lib.itoa m = Lib.itoa n) : m = n := by
  by_cases hm : m < 0
  · by_cases hn : n < 0
    · rw [itoa_neg hm, itoa_neg hn] at h
      have := decDigits_inj (List.cons.inj h).2; omega
    · exfalso
      obtain ⟨c, l, e, h1, h2⟩ := decDigits_head n.natAbs
      rw [itoa_neg hm, itoa_pos (by omega), e] at h
      have := (List.cons.inj h).1; subst this; simp at h1
  · by_cases hn : n < 0
    · exfalso
      obtain ⟨c, l, e, h1, h2⟩ := decDigits_head m.natAbs
      rw [itoa_neg hn, itoa_pos (n := m) (by omega), e] at h
      have := (List.cons.inj h).1; subst this; simp at h1
    · rw [itoa_pos (by omega), itoa_pos (by omega)] at h
      have := decDigits_inj h; omega
theorem itoa_length (n : Int) : (Lib.itoa n).length = dgs n + if n < 0 then 1 else 0 := by
  unfold dgs
  by_cases h : n < 0
  · rw [itoa_neg h, if_pos h, List.length_cons, Lib.decDigits_length]
  · rw [itoa_pos (by omega), if_neg h, Lib.decDigits_length, Nat.add_zero]

/-! Is a decimal number valid? -/
def decOkB (n x : Int) : Bool := if x = 0 then decide (-1000000000000000 ≤ n ∧ n ≤ 1000000000000000) else decide (-16 ≤ x ∧ x ≤ -1) && (decide (dgs n ≤ 17) && decide (n % 10 ≠ 0))
theorem decOkB_iff {n x : Int} : decOkB n x = true ↔ (x = 0 ∧ -1000000000000000 ≤ n ∧ n ≤ 1000000000000000) ∨ (-16 ≤ x ∧ x ≤ -1 ∧ -100000000000000000 < n ∧ n < 100000000000000000 ∧ n % 10 ≠ 0) := by
  unfold decOkB
  by_cases h : x = 0
  · rw [if_pos h]; simp; omega
  · rw [if_neg h, Bool.and_eq_true, Bool.and_eq_true, decide_eq_true_eq, decide_eq_true_eq, decide_eq_true_eq, dgs_17]; omega

/-- The tens go out of n into x, while x is below 0. -/
def stripD : Nat → Int → Int → Int × Int
  | 0, n, x => (n, x)
  | f + 1, n, x => if n % 10 = 0 then stripD f (n / 10) (x + 1) else (n, x)
theorem stripD_no {n : Int} (h : ¬ n % 10 = 0) (x : Int) : ∀ f, stripD f n x = (n, x)
  | 0 => rfl
  | _ + 1 => if_neg h
theorem stripD_yes {n : Int} (h : n % 10 = 0) (x : Int) (f : Nat) : stripD (f + 1) n x = stripD f (n / 10) (x + 1) := if_pos h

/-- DecNew. -/
def decNewF (n x : Int) : Int × Int × Bool :=
  if dgs n ≤ 17 ∧ -40 ≤ x ∧ x ≤ 40 then
    if n = 0 then (0, 0, true) else
    if x ≤ 0 then
      if decOkB (stripD (-x).toNat n x).1 (stripD (-x).toNat n x).2 = true then ((stripD (-x).toNat n x).1, (stripD (-x).toNat n x).2, true) else (0, 0, false)
    else if -1000000000000000 ≤ n * 10 ^ x.toNat ∧ n * 10 ^ x.toNat ≤ 1000000000000000 then (n * 10 ^ x.toNat, 0, true) else (0, 0, false)
  else (0, 0, false)

/-- The value, as a whole number of ten to the -16. -/
def decUp (n x : Int) : Int := n * 10 ^ (16 + x).toNat
/-- One valid number is less than another one. -/
def lessDecB (n x m y : Int) : Bool := decOkB n x && (decOkB m y && decide (decUp n x < decUp m y))
end Go.Proofs.YtilmhemcpgiikaaGreatDoor
/- NumText and Digits: the numeral of a number. -/
namespace Go.Proofs.YtilmhemcpgiikaaGreatDoor
open Go.Deep Go.ChangeShapes Go.WideShapes Go.ChangeAt Go.RowKit
open Go.ChangeMaps (open_string shut_string)

/-- The numeral. -/
def numS (n : Int) : ByteArray := ⟨(Lib.itoa n).toArray⟩

set_option maxHeartbeats 1000000 in
theorem digits_spec (n : Int) (w : World) (h1 : -9223372036854775808 ≤ n) (h2 : n ≤ 9223372036854775807) :
    Calls Tryz.prog 72 #[.int .i64 n] w fun e w' => e = .returned (.int .i64 (dgs n)) ∧ w = w' := by
  have hb : dgs n ≤ 19 := nDigits_64 (by omega)
  have hw0 : IntKind.i64.wrap (n.tdiv 10) = n.tdiv 10 := by
    have := tdiv10_abs n
    exact IntWalk.i64_in _ (by omega)
  have ha : (n.tdiv 10).natAbs ≤ 922337203685477580 := by rw [tdiv10_abs]; omega
  have hst : (n.tdiv 10 = 0 ∧ dgs n = 1) ∨ (n.tdiv 10 ≠ 0 ∧ 1 + dgs (n.tdiv 10) = dgs n) := by
    by_cases h : n.tdiv 10 = 0
    · exact .inl ⟨h, dgs_one h⟩
    · exact .inr ⟨h, by have := dgs_step h; omega⟩
  have HST := Lib.hid hst
  have HB := Lib.hid hb
  have HA := Lib.hid ha
  clear hst hb ha
  go_enter Tryz.func72, Tryz.ntmps72
  go_wp2_with fail
  generalize n.tdiv 10 = x0 at *
  go_loop [3, 4] (fun k x => ∃ (K : Nat) (X : Int), k = .int .i64 K ∧ x = .int .i64 X ∧ K ≤ 19 ∧ X.natAbs ≤ 922337203685477580 ∧ ((X = 0 ∧ dgs n = K) ∨ (X ≠ 0 ∧ K + dgs X = dgs n))) (fun _ x => (intOf x).natAbs)
  case atStart => exact ⟨1, x0, rfl, rfl, by omega, HA.out, HST.out⟩
  case round =>
    obtain ⟨K, X, rfl, rfl, hK, hX, hd⟩ := hrel
    by_cases h0 : X = 0
    · subst h0
      have hk : dgs n = K := by rcases hd with h | h; exact h.2; exact absurd rfl h.1
      have HK := Lib.hid hk; clear hk hd HST
      go_wp2_with fail
      go_ret
      exact ⟨ret_int (by rw [HK.out]), rfl⟩
    · have hne : (X != 0) = true := by simpa using h0
      have hdk : K + dgs X = dgs n := by rcases hd with h | h; exact absurd h.1 h0; exact h.2
      have hab := tdiv10_abs X
      have hp := dgs_pos X
      have hw : IntKind.i64.wrap (X.tdiv 10) = X.tdiv 10 := IntWalk.i64_in _ (by omega)
      have hw2 : IntKind.i64.wrap ((K : Int) + 1) = ((K + 1 : Nat) : Int) := by rw [IntWalk.i64_in _ (by omega)]; omega
      have hnx : (X.tdiv 10).natAbs ≤ 922337203685477580 ∧ ((X.tdiv 10 = 0 ∧ dgs n = K + 1) ∨ (X.tdiv 10 ≠ 0 ∧ K + 1 + dgs (X.tdiv 10) = dgs n)) ∧ K + 1 ≤ 19 ∧ (X.tdiv 10).natAbs < X.natAbs := by
        have := HB.out
        refine ⟨by omega, ?_, ?_, by omega⟩
        · by_cases h : X.tdiv 10 = 0
          · exact .inl ⟨h, by have := dgs_one h; omega⟩
          · exact .inr ⟨h, by have := dgs_step h; omega⟩
        · by_cases h : X.tdiv 10 = 0
          · have := dgs_one h; omega
          · have := dgs_step h; have := dgs_pos (X.tdiv 10); omega
      have HN := Lib.hid hnx
      clear hnx hd hdk hab hp HST
      go_wp2_with fail
      generalize X.tdiv 10 = Y at *
      go_round
      case rel => exact ⟨K + 1, Y, by go_num, rfl, HN.out.2.2.1, HN.out.1, HN.out.2.1⟩
      case measure => have := HN.out.2.2.2; simpa [intOf] using this

set_option maxHeartbeats 1000000 in
theorem numText_impl (n : Int) (w : World) (hL : LaidP w) (h1 : -9223372036854775808 ≤ n) (h2 : n ≤ 9223372036854775807) :
    Calls Tryz.prog 76 #[.int .i64 n] w fun e w' => e = .returned (.string (numS n)) ∧ Below w.heap.size w w' := by
  have HC := Lib.hid (Tryz.strconv_Itoa n h1 h2 w hL)
  clear hL
  go_enter Tryz.func76, Tryz.ntmps76
  go_wp2_with fail
  refine HC.out.mono ?_
  rintro _ w1 ⟨rfl, k, os, rfl⟩
  go_wp2_with fail
  go_ret
  exact ⟨rfl, Lib.below_grow _ _ (Nat.le_refl _) _ _⟩


/-- What the reference has still to write. -/
def numPre (X : Int) (s : List UInt8) : List UInt8 := if X = 0 then s else Lib.decDigits X.natAbs ++ s
theorem numPre_zero (s : List UInt8) : numPre 0 s = s := if_pos rfl
theorem numPre_step {X : Int} (h : X ≠ 0) (s : List UInt8) : numPre (X.tdiv 10) (UInt8.ofNat (48 + X.natAbs % 10) :: s) = numPre X s := by
  unfold numPre
  rw [if_neg h]
  have ha := tdiv10_abs X
  by_cases h0 : X.tdiv 10 = 0
  · have h9 : X.natAbs < 10 := by rw [h0] at ha; simp at ha; omega
    rw [if_pos h0, decDigits_low h9, show X.natAbs % 10 = X.natAbs by omega]; rfl
  · rw [if_neg h0, ha, decDigits_step (u := X.natAbs) (by omega), List.append_assoc]; rfl
theorem tmod_pos_neg (X : Int) : (0 < X ∧ X.tmod 10 = ((X.natAbs % 10 : Nat) : Int)) ∨ (X ≤ 0 ∧ X.tmod 10 = -((X.natAbs % 10 : Nat) : Int)) := by
  by_cases h : 0 < X
  · refine .inl ⟨h, ?_⟩
    rw [Int.tmod_eq_emod_of_nonneg (by omega)]; omega
  · refine .inr ⟨by omega, ?_⟩
    have : X = -(-X) := by omega
    rw [this, Int.neg_tmod, Int.tmod_eq_emod_of_nonneg (by omega)]; omega

theorem conv_one (c : UInt8) (z : Int) (hz : z = (c.toNat : Int)) (w : World) :
    (convert 22 9 (.slice (some ⟨w.heap.size, 0, none⟩) 1 1)).run Tryz.prog (w.alloc (.cells #[.int .u8 z] 5)) = .ok (.string ⟨#[c]⟩) (w.alloc (.cells #[.int .u8 z] 5)) := by
  refine run_str (l := [c]) Tryz.underlying22 Tryz.underlying5 Tryz.underlying9 rfl (.inr ⟨_, 0, rfl, by simp, fun j hj => ?_⟩)
  obtain rfl : j = 0 := by simpa [bz] using hj
  rw [World.cell?_alloc_at _ _ _ _ rfl, hz]
  rfl
theorem str_cons (c : UInt8) (l : List UInt8) : (({ data := #[c] } : ByteArray) ++ { data := l.toArray }) = { data := (c :: l).toArray } := by
  apply ByteArray.ext; simp

theorem trim_minus (n : Int) : (Lib.trimPrefix (Lib.itoa n) [45]) = Lib.decDigits n.natAbs := by
  by_cases h : n < 0
  · rw [itoa_neg h]
    simp [Lib.trimPrefix, Lib.hasPrefix, List.isPrefixOf]
  · rw [itoa_pos (by omega)]
    obtain ⟨c, l, e, h1, h2⟩ := decDigits_head n.natAbs
    rw [e]
    have : (45 == c) = false := by
      rw [beq_eq_false_iff_ne]
      intro hc; subst hc; simp at h1
    simp [Lib.trimPrefix, Lib.hasPrefix, List.isPrefixOf, this]
theorem numS_size (n : Int) : (numS n).size = dgs n + if n < 0 then 1 else 0 := by
  rw [← itoa_length]; simp [numS, ByteArray.size]

set_option maxHeartbeats 1000000 in
theorem digits_impl (n : Int) (w : World) (hL : LaidP w) (h1 : -9223372036854775808 ≤ n) (h2 : n ≤ 9223372036854775807) :
    Calls Tryz.prog 53 #[.int .i64 n] w fun e w' => e = .returned (.int .i64 (dgs n)) ∧ Below w.heap.size w w' := by
  have HC := Lib.hid (numText_impl n w hL h1 h2)
  have hle : dgs n ≤ 19 := nDigits_64 (by omega)
  have hT := fun w => Tryz.strings_TrimPrefix (numS n) { data := #[45] } w
  have ht : (Lib.trimPrefix (numS n).data.toList ({ data := #[45] } : ByteArray).data.toList) = Lib.decDigits n.natAbs := trim_minus n
  rw [ht] at hT
  have hsz : ({ data := (Lib.decDigits n.natAbs).toArray } : ByteArray).size = dgs n := by
    simp [ByteArray.size, Lib.decDigits_length, dgs]
  generalize ({ data := (Lib.decDigits n.natAbs).toArray } : ByteArray) = S at *
  have HT := Lib.hid hT
  have HSZ := Lib.hid hsz
  clear hL hT ht
  go_enter Tryz.func53, Tryz.ntmps53
  go_wp2_with fail
  refine HC.out.mono ?_
  rintro _ w1 ⟨rfl, b1⟩
  go_wp2_with fail
  refine (HT.out _).mono ?_
  rintro _ w2 ⟨rfl, rfl⟩
  go_wp2_with fail
  go_ret
  exact ⟨rfl, b1⟩
end Go.Proofs.YtilmhemcpgiikaaGreatDoor
