/- Plain laws on decimal numerals. -/
import Derived.Lib.ItoaNum
namespace Go.Proofs.YtcmdchhhdcdpnaaDoor

/-- The number of decimal digits. -/
def dgs (n : Int) : Nat := Lib.nDigits n.natAbs

theorem nDigits_le {u k : Nat} (hk : 1 ≤ k) : Lib.nDigits u ≤ k ↔ u < 10 ^ k := by
  constructor
  · intro h
    exact Nat.lt_of_lt_of_le (Lib.lt_pow_nDigits u) (Nat.pow_le_pow_right (by decide) h)
  · intro h
    induction k generalizing u with
    | zero => omega
    | succ k ih =>
      by_cases hu : u < 10
      · rw [Lib.nDigits_small hu]; omega
      · rw [Lib.nDigits_big hu]
        cases k with
        | zero => simp at h; omega
        | succ k => have := @ih (u / 10) (by omega) (by rw [Nat.pow_succ] at h; omega); omega

theorem dgs_le {n : Int} {k : Nat} (hk : 1 ≤ k) : dgs n ≤ k ↔ n.natAbs < 10 ^ k := nDigits_le hk
theorem dgs_pos (n : Int) : 1 ≤ dgs n := Lib.nDigits_pos _
theorem p15 : (10 : Nat) ^ 15 = 1000000000000000 := by decide
theorem p16 : (10 : Nat) ^ 16 = 10000000000000000 := by decide
theorem p17 : (10 : Nat) ^ 17 = 100000000000000000 := by decide
theorem dgs_17 {n : Int} : dgs n ≤ 17 ↔ -100000000000000000 < n ∧ n < 100000000000000000 := by
  rw [dgs_le (by decide), p17]; omega
theorem dgs_16 {n : Int} : dgs n ≤ 16 ↔ -10000000000000000 < n ∧ n < 10000000000000000 := by
  rw [dgs_le (by decide), p16]; omega
theorem nDigits_64 {u : Nat} (h : u ≤ 9223372036854775808) : Lib.nDigits u ≤ 19 := by
  have p19 : (10 : Nat) ^ 19 = 10000000000000000000 := by decide
  rw [nDigits_le (by decide), p19]; omega

theorem tdiv10_abs (n : Int) : (n.tdiv 10).natAbs = n.natAbs / 10 := by
  rw [Int.natAbs_tdiv]; rfl
theorem dgs_step {n : Int} (h : n.tdiv 10 ≠ 0) : dgs n = dgs (n.tdiv 10) + 1 := by
  unfold dgs
  rw [tdiv10_abs, Lib.nDigits_big]
  have := tdiv10_abs n; omega
theorem dgs_one {n : Int} (h : n.tdiv 10 = 0) : dgs n = 1 := by
  unfold dgs
  rw [Lib.nDigits_small]
  have := tdiv10_abs n; omega

/-- Every sign of a numeral is a digit. -/
theorem decDigits_dig (u : Nat) : ∀ c ∈ Lib.decDigits u, 48 ≤ c.toNat ∧ c.toNat ≤ 57 := by
  induction u using Nat.strongRecOn with
  | _ u ih =>
    intro c hc
    rw [Lib.decDigits] at hc
    by_cases h : u < 10
    · rw [dif_pos h] at hc
      simp at hc
      subst hc
      simp; omega
    · rw [dif_neg h] at hc
      rcases List.mem_append.1 hc with hc | hc
      · exact ih (u / 10) (by omega) c hc
      · simp at hc
        subst hc
        simp; omega
theorem decDigits_ne (u : Nat) : Lib.decDigits u ≠ [] := by
  intro h
  have := Lib.decDigits_length u
  rw [h] at this
  have := Lib.nDigits_pos u
  simp at *; omega
theorem decDigits_step {u : Nat} (h : ¬ u < 10) : Lib.decDigits u = Lib.decDigits (u / 10) ++ [UInt8.ofNat (48 + u % 10)] := by
  rw [Lib.decDigits, dif_neg h]
theorem decDigits_low {u : Nat} (h : u < 10) : Lib.decDigits u = [UInt8.ofNat (48 + u)] := by
  rw [Lib.decDigits, dif_pos h]

/-- The value of a list of digits. -/
def digVal (l : List UInt8) : Nat := l.foldl (fun n c => 10 * n + (c.toNat - 48)) 0
theorem digVal_snoc (l : List UInt8) (c : UInt8) : digVal (l ++ [c]) = 10 * digVal l + (c.toNat - 48) := by
  unfold digVal; rw [List.foldl_append]; rfl
theorem digVal_decDigits (u : Nat) : digVal (Lib.decDigits u) = u := by
  induction u using Nat.strongRecOn with
  | _ u ih =>
    by_cases h : u < 10
    · rw [decDigits_low h]; simp [digVal]; omega
    · rw [decDigits_step h, digVal_snoc, ih (u / 10) (by omega)]; simp; omega
theorem decDigits_inj {u v : Nat} (h : Lib.decDigits u = Lib.decDigits v) : u = v := by
  rw [← digVal_decDigits u, ← digVal_decDigits v, h]
theorem decDigits_head (u : Nat) : ∃ c l, Lib.decDigits u = c :: l ∧ 48 ≤ c.toNat ∧ c.toNat ≤ 57 := by
  cases hd : Lib.decDigits u with
  | nil => exact absurd hd (decDigits_ne u)
  | cons c l => exact ⟨c, l, rfl, decDigits_dig u c (by rw [hd]; simp)⟩
theorem itoa_neg {n : Int} (h : n < 0) : Lib.itoa n = 45 :: Lib.decDigits n.natAbs := if_pos h
theorem itoa_pos {n : Int} (h : 0 ≤ n) : Lib.itoa n = Lib.decDigits n.natAbs := by
  unfold Lib.itoa; rw [if_neg (by omega)]; congr 1; omega
theorem itoa_inj {m n : Int} (h : Lib.itoa m = Lib.itoa n) : m = n := by
  by_cases hm : m < 0
  · by_cases hn : n < 0
    · rw [itoa_neg hm, itoa_neg hn] at h
      have := decDigits_inj (List.cons.inj h).2; omega
    · exfalso
      obtain ⟨c, l, e, h1, h2⟩ := decDigits_head n.natAbs
      rw [itoa_neg hm, itoa_pos (by omega), e] at h
      have := (List.cons.inj h).1; subst this; simp at h1
  · by_cases hn : n < 0
    · exfalso
      obtain ⟨c, l, e, h1, h2⟩ := decDigits_head m.natAbs
      rw [itoa_neg hn, itoa_pos (n := m) (by omega), e] at h
      have := (List.cons.inj h).1; subst this; simp at h1
    · rw [itoa_pos (by omega), itoa_pos (by omega)] at h
      have := decDigits_inj h; omega
theorem itoa_length (n : Int) : (Lib.itoa n).length = dgs n + if n < 0 then 1 else 0 := by
  unfold dgs
  by_cases h : n < 0
  · rw [itoa_neg h, if_pos h, List.length_cons, Lib.decDigits_length]
  · rw [itoa_pos (by omega), if_neg h, Lib.decDigits_length, Nat.add_zero]

/-! Is a decimal number valid? -/
def decOkB (n x : Int) : Bool := if x = 0 then decide (-1000000000000000 ≤ n ∧ n ≤ 1000000000000000) else decide (-16 ≤ x ∧ x ≤ -1) && (decide (dgs n ≤ 17) && decide (n % 10 ≠ 0))
theorem decOkB_iff {n x : Int} : decOkB n x = true ↔ (x = 0 ∧ -1000000000000000 ≤ n ∧ n ≤ 1000000000000000) ∨ (-16 ≤ x ∧ x ≤ -1 ∧ -100000000000000000 < n ∧ n < 100000000000000000 ∧ n % 10 ≠ 0) := by
  unfold decOkB
  by_cases h : x = 0
  · rw [if_pos h]; simp; omega
  · rw [if_neg h, Bool.and_eq_true, Bool.and_eq_true, decide_eq_true_eq, decide_eq_true_eq, decide_eq_true_eq, dgs_17]; omega

/-- The tens go out of n into x, while x is below 0. -/
def stripD : Nat → Int → Int → Int × Int
  | 0, n, x => (n, x)
  | f + 1, n, x => if n % 10 = 0 then stripD f (n / 10) (x + 1) else (n, x)
theorem stripD_no {n : Int} (h : ¬ n % 10 = 0) (x : Int) : ∀ f, stripD f n x = (n, x)
  | 0 => rfl
  | _ + 1 => if_neg h
theorem stripD_yes {n : Int} (h : n % 10 = 0) (x : Int) (f : Nat) : stripD (f + 1) n x = stripD f (n / 10) (x + 1) := if_pos h

/-- DecNew. -/
def decNewF (n x : Int) : Int × Int × Bool :=
  if dgs n ≤ 17 ∧ -40 ≤ x ∧ x ≤ 40 then
    if n = 0 then (0, 0, true) else
    if x ≤ 0 then
      if decOkB (stripD (-x).toNat n x).1 (stripD (-x).toNat n x).2 = true then ((stripD (-x).toNat n x).1, (stripD (-x).toNat n x).2, true) else (0, 0, false)
    else if -1000000000000000 ≤ n * 10 ^ x.toNat ∧ n * 10 ^ x.toNat ≤ 1000000000000000 then (n * 10 ^ x.toNat, 0, true) else (0, 0, false)
  else (0, 0, false)

/-- The value, as a whole number of ten to the -16. -/
def decUp (n x : Int) : Int := n * 10 ^ (16 + x).toNat
/-- One valid number is less than another one. -/
def lessDecB (n x m y : Int) : Bool := decOkB n x && (decOkB m y && decide (decUp n x < decUp m y))
end Go.Proofs.YtcmdchhhdcdpnaaDoor
