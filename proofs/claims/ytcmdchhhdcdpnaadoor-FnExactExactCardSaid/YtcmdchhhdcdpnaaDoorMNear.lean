/- Plain laws on the nearest floating-point number. -/
import Derived.Test.YtcmdchhhdcdpnaaDoorCFltNew
import Derived.Test.YtcmdchhhdcdpnaaDoorMDec
namespace Go.Proofs.YtcmdchhhdcdpnaaDoor

/-- The whole part of n / (p * 2^e), and what is left. -/
def qE (n p : Nat) (e : Int) : Nat := n * 2 ^ (-e).toNat / (p * 2 ^ e.toNat)
def rE (n p : Nat) (e : Int) : Nat := n * 2 ^ (-e).toNat % (p * 2 ^ e.toNat)
/-- Rounded, ties to even. -/
def bump (q r d : Nat) : Nat := if d < 2 * r ∨ 2 * r = d ∧ q % 2 = 1 then q + 1 else q
/-- The least exponent at which the whole part fits. -/
def findE (n p : Nat) : Nat → Int → Int
  | 0, e => e
  | f + 1, e => if qE n p e ≤ 65535 then e else findE n p f (e + 1)
theorem findE_yes {n p : Nat} {e : Int} (h : qE n p e ≤ 65535) (f : Nat) : findE n p (f + 1) e = e := if_pos h
theorem findE_no {n p : Nat} {e : Int} (h : ¬ qE n p e ≤ 65535) (f : Nat) : findE n p (f + 1) e = findE n p f (e + 1) := if_neg h

theorem qE_succ (n p : Nat) (e : Int) : qE n p (e + 1) = qE n p e / 2 := by
  unfold qE
  by_cases h : 0 ≤ e
  · rw [show (-(e + 1)).toNat = 0 by omega, show (-e).toNat = 0 by omega, show (e + 1).toNat = e.toNat + 1 by omega, Nat.pow_succ, ← Nat.mul_assoc, Nat.div_div_eq_div_mul]
  · rw [show (-e).toNat = (-(e + 1)).toNat + 1 by omega, show (e + 1).toNat = 0 by omega, show e.toNat = 0 by omega, Nat.pow_succ, Nat.div_div_eq_div_mul, ← Nat.mul_assoc, Nat.mul_div_mul_right _ _ (by decide)]
theorem qE_mono (n p : Nat) (a : Int) : ∀ k : Nat, qE n p (a + k) ≤ qE n p a
  | 0 => by simp
  | k + 1 => by
    have := qE_mono n p a k
    rw [show a + ((k + 1 : Nat) : Int) = (a + k) + 1 by omega, qE_succ]
    omega
theorem findE_of {n p : Nat} {e : Int} (hq : qE n p e ≤ 65535) : ∀ (f : Nat) (a : Int), a ≤ e → e < a + f → (e = a ∨ 65535 < qE n p (e - 1)) → findE n p f a = e
  | 0, a, h1, h2, _ => by omega
  | f + 1, a, h1, h2, h3 => by
    by_cases h : e = a
    · subst h; exact findE_yes hq f
    · have h4 : 65535 < qE n p (e - 1) := h3.resolve_left h
      have := qE_mono n p a (e - 1 - a).toNat
      rw [show a + ((e - 1 - a).toNat : Int) = e - 1 by omega] at this
      rw [findE_no (by omega)]
      exact findE_of hq f (a + 1) (by omega) (by omega) (.inr h4)

def nearF (n x : Int) : Int × Int × Bool :=
  if decOkB n x = true then
    newF (if n < 0 then -(bump (qE n.natAbs (10 ^ (-x).toNat) (findE n.natAbs (10 ^ (-x).toNat) 70 (-16))) (rE n.natAbs (10 ^ (-x).toNat) (findE n.natAbs (10 ^ (-x).toNat) 70 (-16))) (10 ^ (-x).toNat * 2 ^ (findE n.natAbs (10 ^ (-x).toNat) 70 (-16)).toNat) : Int)
      else (bump (qE n.natAbs (10 ^ (-x).toNat) (findE n.natAbs (10 ^ (-x).toNat) 70 (-16))) (rE n.natAbs (10 ^ (-x).toNat) (findE n.natAbs (10 ^ (-x).toNat) 70 (-16))) (10 ^ (-x).toNat * 2 ^ (findE n.natAbs (10 ^ (-x).toNat) 70 (-16)).toNat) : Int))
      (findE n.natAbs (10 ^ (-x).toNat) 70 (-16))
  else (0, 0, false)
theorem nearF_of {n x : Int} {e : Int} {N P : Nat} (hok : decOkB n x = true) (hN : N = n.natAbs) (hP : P = 10 ^ (-x).toNat) (hq : qE N P e ≤ 65535) (h1 : -16 ≤ e) (h2 : e < 54) (h3 : e = -16 ∨ 65535 < qE N P (e - 1)) :
    nearF n x = newF (if n < 0 then -(bump (qE N P e) (rE N P e) (P * 2 ^ e.toNat) : Int) else (bump (qE N P e) (rE N P e) (P * 2 ^ e.toNat) : Int)) e := by
  unfold nearF
  rw [if_pos hok, ← hN, ← hP, findE_of hq 70 (-16) h1 (by omega) h3]

/-! In the parts that the reference reckons with. -/
theorem rest_big (n p : Nat) (k : Nat) (_hp : 0 < p) : n % (p * 2 ^ k) = (n / p % 2 ^ k) * p + n % p := by
  rw [Nat.mod_mul, Nat.mul_comm]; omega
theorem qE_big (n p k : Nat) : qE n p (k : Int) = n / p / 2 ^ k := by
  unfold qE; rw [show (-(k : Int)).toNat = 0 by omega, Int.toNat_natCast, Nat.pow_zero, Nat.mul_one, Nat.div_div_eq_div_mul]
theorem rE_big (n p k : Nat) (hp : 0 < p) : rE n p (k : Int) = (n / p % 2 ^ k) * p + n % p := by
  unfold rE; rw [show (-(k : Int)).toNat = 0 by omega, Int.toNat_natCast, Nat.pow_zero, Nat.mul_one, rest_big n p k hp]
theorem qE_low (n p s : Nat) : qE n p (-(s : Int)) = n * 2 ^ s / p := by
  unfold qE; rw [show (- -(s : Int)).toNat = s by omega, show (-(s : Int)).toNat = 0 by omega, Nat.pow_zero, Nat.mul_one]
theorem rE_low (n p s : Nat) : rE n p (-(s : Int)) = n * 2 ^ s % p := by
  unfold rE; rw [show (- -(s : Int)).toNat = s by omega, show (-(s : Int)).toNat = 0 by omega, Nat.pow_zero, Nat.mul_one]
theorem double_div (a p : Nat) (hp : 0 < p) : a * 2 / p = 2 * (a / p) + (if p ≤ 2 * (a % p) then 1 else 0) ∧ a * 2 % p = 2 * (a % p) - (if p ≤ 2 * (a % p) then p else 0) := by
  have h1 := Nat.div_add_mod a p
  have h2 := Nat.mod_lt a hp
  generalize a % p = r at *
  generalize a / p = q at *
  by_cases h : p ≤ 2 * r
  · rw [if_pos h, if_pos h]
    have e : a * 2 = p * (2 * q + 1) + (2 * r - p) := by rw [Nat.mul_add, Nat.mul_one, ← h1, ← Nat.mul_assoc, Nat.mul_comm p 2, Nat.mul_assoc]; omega
    constructor
    · rw [e, Nat.mul_add_div hp, Nat.div_eq_of_lt (by omega)]
    · rw [e, Nat.mul_add_mod, Nat.mod_eq_of_lt (by omega)]
  · rw [if_neg h, if_neg h]
    have e : a * 2 = p * (2 * q) + 2 * r := by rw [← h1, ← Nat.mul_assoc, Nat.mul_comm p 2, Nat.mul_assoc]; omega
    constructor
    · rw [e, Nat.mul_add_div hp, Nat.div_eq_of_lt (by omega)]
    · rw [e, Nat.mul_add_mod, Nat.mod_eq_of_lt (by omega), Nat.sub_zero]

theorem stripF_big : ∀ (f : Nat) (m e : Int), m ≠ 0 → 31 ≤ e → 32768 ≤ m.natAbs * 2 ^ (e - 31).toNat →
    (stripF f m e).1 ≠ 0 ∧ 31 ≤ (stripF f m e).2 ∧ 32768 ≤ (stripF f m e).1.natAbs * 2 ^ ((stripF f m e).2 - 31).toNat
  | 0, m, e, h0, h1, h2 => ⟨h0, h1, h2⟩
  | f + 1, m, e, h0, h1, h2 => by
    by_cases h : m % 2 = 0
    · rw [stripF_even h]
      refine stripF_big f (m / 2) (e + 1) (by omega) (by omega) ?_
      rw [show (e + 1 - 31).toNat = (e - 31).toNat + 1 by omega, Nat.pow_succ]
      have e2 : m.natAbs = (m / 2).natAbs * 2 := by omega
      rw [e2] at h2
      rw [Nat.mul_comm (2 ^ (e - 31).toNat) 2, ← Nat.mul_assoc]
      exact h2
    · rw [stripF_odd h]; exact ⟨h0, h1, h2⟩
theorem newF_big {m e : Int} (hm : 32768 ≤ m.natAbs) (he : 31 ≤ e) : newF m e = (0, 0, false) := by
  unfold newF
  split
  · rw [if_neg (by omega)]
    have hp : 1 ≤ 2 ^ (e - 31).toNat := Nat.one_le_two_pow
    obtain ⟨a, b, c⟩ := stripF_big 60 m e (by omega) he (Nat.le_trans hm (Nat.le_mul_of_pos_right _ hp))
    generalize stripF 60 m e = z at *
    obtain ⟨M, E⟩ := z
    simp only at a b c ⊢
    rw [if_neg]
    intro h
    unfold fltOkF at h
    rw [if_neg a] at h
    obtain ⟨_, _, _, _, h5⟩ := of_decide_eq_true h
    rcases h5 with h5 | ⟨_, h6, h7⟩
    · omega
    · rw [show (E - 30).toNat = (E - 31).toNat + 1 by omega, Int.pow_succ] at h6 h7
      have hc : (32768 : Int) ≤ (M.natAbs : Int) * 2 ^ (E - 31).toNat := by
        have c2 := Int.ofNat_le.2 c
        rw [Int.natCast_mul, Int.natCast_pow] at c2
        exact c2
      generalize (2 : Int) ^ (E - 31).toNat = P at *
      rw [← Int.mul_assoc] at h6 h7
      rcases Int.natAbs_eq M with hM | hM
      · rw [← hM] at hc; omega
      · have : (M.natAbs : Int) = -M := by omega
        rw [this, Int.neg_mul] at hc; omega
  · rfl
theorem newF_of {m e a b : Int} (hm : inB m (-1000000000000000) 1000000000000000 = true) (he : inB e (-100) 100 = true) (h0 : m ≠ 0) (hs : stripF 60 m e = (a, b)) :
    newF m e = if fltOkF a b = true then (a, b, true) else (0, 0, false) := by
  unfold newF; rw [if_pos ⟨hm, he⟩, if_neg h0, hs]
theorem newF_65536 (e : Int) (h1 : -16 ≤ e) (h2 : e ≤ 60) : newF 65536 e = newF 32768 (e + 1) ∧ newF (-65536) e = newF (-32768) (e + 1) := by
  have a1 : stripF 60 65536 e = (1, e + 16) := by simp [stripF]; omega
  have a2 : stripF 60 32768 (e + 1) = (1, e + 16) := by simp [stripF]; omega
  have a3 : stripF 60 (-65536) e = (-1, e + 16) := by simp [stripF]; omega
  have a4 : stripF 60 (-32768) (e + 1) = (-1, e + 16) := by simp [stripF]; omega
  have i1 : inB e (-100) 100 = true := inB_mk (by omega)
  have i2 : inB (e + 1) (-100) 100 = true := inB_mk (by omega)
  constructor
  · rw [newF_of (by decide) i1 (by decide) a1, newF_of (by decide) i2 (by decide) a2]
  · rw [newF_of (by decide) i1 (by decide) a3, newF_of (by decide) i2 (by decide) a4]
end Go.Proofs.YtcmdchhhdcdpnaaDoor
