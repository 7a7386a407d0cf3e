/- Plain laws of FnFlts: a valid number by halves is the nearest to itself; of two one is less. -/
import Derived.Test.YtilmhemcpgiikaaDoorCExact
import Derived.Test.YtilmhemcpgiikaaDoorMBack
namespace Go.Proofs.YtilmhemcpgiikaaDoor

theorem exact_q {N P A : Nat} {E e : Int} (hP : 0 < P) (hv : N * 2 ^ (-E).toNat = A * (P * 2 ^ E.toNat)) (he : e ≤ E) : qE N P e = A * 2 ^ (E - e).toNat ∧ rE N P e = 0 := by
  have key : N * 2 ^ (-e).toNat = A * 2 ^ (E - e).toNat * (P * 2 ^ e.toNat) := by
    rw [show (-e).toNat = (-E).toNat + ((-e).toNat - (-E).toNat) by omega, Nat.pow_add, ← Nat.mul_assoc, hv,
      show E.toNat = e.toNat + (E.toNat - e.toNat) by omega, show (E - e).toNat = (E.toNat - e.toNat) + ((-e).toNat - (-E).toNat) by omega, Nat.pow_add, Nat.pow_add]
    ac_rfl
  have hpos : 0 < P * 2 ^ e.toNat := Nat.mul_pos hP (Nat.two_pow_pos _)
  unfold qE rE
  rw [key]
  exact ⟨Nat.mul_div_cancel _ hpos, Nat.mul_mod_left _ _⟩
theorem least_e {N P : Nat} : ∀ (k : Nat) {E : Int}, E = -16 + (k : Int) → qE N P E ≤ 65535 → ∃ e : Int, -16 ≤ e ∧ e ≤ E ∧ qE N P e ≤ 65535 ∧ (e = -16 ∨ 65535 < qE N P (e - 1))
  | 0, E, hE, h => ⟨E, by omega, by omega, h, .inl (by omega)⟩
  | k + 1, E, hE, h => by
    by_cases h1 : qE N P (E - 1) ≤ 65535
    · obtain ⟨e, a, b, c⟩ := least_e k (E := E - 1) (by omega) h1
      exact ⟨e, a, by omega, c⟩
    · exact ⟨E, by omega, Int.le_refl _, h, .inr (by omega)⟩
theorem strip_pow {M : Int} (hM : ¬ M % 2 = 0) : ∀ (k f : Nat) (e : Int), k ≤ f → stripF f (M * 2 ^ k) e = (M, e + k)
  | 0, f, e, _ => by rw [Int.pow_zero, Int.mul_one, stripF_odd hM]; simp
  | k + 1, 0, e, h => absurd h (Nat.not_succ_le_zero _)
  | k + 1, f + 1, e, h => by
    have e1 : M * 2 ^ (k + 1) = 2 * (M * 2 ^ k) := by rw [Int.pow_succ]; ac_rfl
    rw [e1, stripF_even (Int.mul_emod_right 2 _), Int.mul_ediv_cancel_left _ (by decide), strip_pow hM k f (e + 1) (by omega)]
    rw [show e + 1 + (k : Int) = e + ((k + 1 : Nat) : Int) by omega]
theorem pow_le16 {k : Nat} (h : k ≤ 16) : (2 : Nat) ^ k ≤ 65536 := Nat.pow_le_pow_right (n := 2) (by decide) h
theorem bump_whole (q d : Nat) (hd : 0 < d) : bump q 0 d = q := by unfold bump; rw [if_neg (by omega)]

/-- The nearest of a number that is one by halves. -/
theorem nearF_exact {n x M E : Int} (hok : decOkB n x = true) (hf : fltOkF M E = true) (hM : M ≠ 0) (hs : n < 0 ↔ M < 0) (hv : n.natAbs * 2 ^ (-E).toNat = M.natAbs * (10 ^ (-x).toNat * 2 ^ E.toNat)) : nearF n x = (M, E, true) := by
  obtain ⟨a, b, c, d, -⟩ := fltOkF_range hf
  have hodd : ¬ M % 2 = 0 := by
    unfold fltOkF at hf
    rw [if_neg hM] at hf
    have := (of_decide_eq_true hf).1
    omega
  have hP : 0 < 10 ^ (-x).toNat := Nat.pow_pos (by decide)
  have hq := exact_q (e := E) hP hv (Int.le_refl _)
  have hqE : qE n.natAbs (10 ^ (-x).toNat) E = M.natAbs := by rw [hq.1, show (E - E).toNat = 0 by omega, Nat.pow_zero, Nat.mul_one]
  obtain ⟨e, e1, e2, e3, e4⟩ := least_e (N := n.natAbs) (P := 10 ^ (-x).toNat) (E + 16).toNat (E := E) (by omega) (by rw [hqE]; omega)
  obtain ⟨h1, h2⟩ := exact_q hP hv e2
  rw [nearF_of hok rfl rfl e3 e1 (by omega) e4, h2, bump_whole _ _ (Nat.mul_pos hP (Nat.two_pow_pos _)), h1]
  rw [h1] at e3
  obtain ⟨k, hk⟩ : ∃ k : Nat, k = (E - e).toNat := ⟨_, rfl⟩
  have hE : E = e + (k : Int) := by omega
  rw [← hk] at e3 ⊢
  have hMp : 1 ≤ M.natAbs := by omega
  have hk16 : k ≤ 16 := by
    refine Nat.le_of_not_lt fun h => ?_
    have h3 : (2 : Nat) ^ 17 ≤ 2 ^ k := Nat.pow_le_pow_right (by decide) (by omega)
    have h4 : 1 * 2 ^ k ≤ M.natAbs * 2 ^ k := Nat.mul_le_mul_right _ hMp
    have h5 : (2 : Nat) ^ 17 = 131072 := by decide
    omega
  have hval : (if n < 0 then -(((M.natAbs * 2 ^ k : Nat)) : Int) else ((M.natAbs * 2 ^ k : Nat) : Int)) = M * 2 ^ k := by
    rw [Int.natCast_mul, Int.natCast_pow]
    by_cases h : M < 0
    · rw [if_pos (hs.2 h), ← Int.neg_mul, show -((M.natAbs : Nat) : Int) = M by omega]; rfl
    · rw [if_neg (fun q => h (hs.1 q)), show ((M.natAbs : Nat) : Int) = M by omega]; rfl
  rw [hval]
  have hr : -65535 ≤ M * 2 ^ k ∧ M * 2 ^ k ≤ 65535 := by
    rw [← hval]
    split <;> omega
  unfold newF
  rw [if_pos ⟨inB_mk (by omega), inB_mk (by omega)⟩, if_neg (by intro h0; rcases Int.mul_eq_zero.1 h0 with h0 | h0
                                                                · exact hM h0
                                                                · exact absurd h0 (Int.ne_of_gt (Int.pow_pos (by decide)))), strip_pow hodd k 60 e (by omega)]
  rw [← hE, if_pos hf]

theorem odd_mul {a b : Int} (ha : a % 2 = 1) (hb : b % 2 = 1) : a * b % 2 = 1 := by
  rw [Int.mul_emod, ha, hb]; decide
theorem five_odd : ∀ k : Nat, (5 : Int) ^ k % 2 = 1
  | 0 => by decide
  | k + 1 => by rw [Int.pow_succ]; exact odd_mul (five_odd k) (by decide)
theorem two_pow_split (k : Nat) : (10 : Nat) ^ k = 5 ^ k * 2 ^ k := by rw [← Nat.mul_pow]

/-- A valid number by halves is valid with a point, and the nearest to itself. -/
theorem nearF_back {M E : Int} (hf : fltOkF M E = true) : nearF (fltDecF M E).1 (fltDecF M E).2 = (M, E, true) := by
  obtain ⟨a, b, c, d, g⟩ := fltOkF_range hf
  by_cases hM : M = 0
  · subst hM
    have hE : E = 0 := by
      unfold fltOkF at hf; rw [if_pos rfl] at hf; simpa using hf
    subst hE
    decide
  · by_cases hE : 0 ≤ E
    · have e1 : fltDecF M E = (M * 2 ^ E.toNat, 0) := by unfold fltDecF; rw [if_pos hf, if_pos hE]
      have hok := fltDecF_ok M E
      rw [e1] at hok ⊢
      refine nearF_exact hok hf hM ?_ ?_
      · have hp : (0 : Int) < 2 ^ E.toNat := Int.pow_pos (by decide)
        show M * 2 ^ E.toNat < 0 ↔ M < 0
        constructor
        · intro h
          refine Int.not_le.1 fun q => ?_
          have := Int.mul_nonneg q (Int.le_of_lt hp)
          omega
        · intro h; exact Int.mul_neg_of_neg_of_pos h hp
      · show (M * 2 ^ E.toNat).natAbs * 2 ^ (-E).toNat = _
        rw [Int.natAbs_mul, Int.natAbs_pow, show (-E).toNat = 0 by omega]
        simp
    · have hodd : M % 2 = 1 := by
        unfold fltOkF at hf
        rw [if_neg hM] at hf
        exact (of_decide_eq_true hf).1
      obtain ⟨f1, f2⟩ := five_bd a b c (by omega)
      have ho : (M * 5 ^ (-E).toNat) % 2 = 1 := odd_mul hodd (five_odd _)
      have ho10 : ¬ (M * 5 ^ (-E).toNat) % 10 = 0 := by omega
      have hdok : decOkB (M * 5 ^ (-E).toNat) E = true := decOkB_iff.2 (.inr ⟨by omega, by omega, f1, f2, ho10⟩)
      have e1 : fltDecF M E = (M * 5 ^ (-E).toNat, E) := by
        unfold fltDecF; rw [if_pos hf, if_neg hE, decNew_back hdok]
      rw [e1]
      refine nearF_exact hdok hf hM ?_ ?_
      · have hp : (0 : Int) < 5 ^ (-E).toNat := Int.pow_pos (by decide)
        show M * 5 ^ (-E).toNat < 0 ↔ M < 0
        constructor
        · intro h
          refine Int.not_le.1 fun q => ?_
          have := Int.mul_nonneg q (Int.le_of_lt hp)
          omega
        · intro h; exact Int.mul_neg_of_neg_of_pos h hp
      · show (M * 5 ^ (-E).toNat).natAbs * 2 ^ (-E).toNat = _
        rw [Int.natAbs_mul, Int.natAbs_pow, show E.toNat = 0 by omega, two_pow_split, Nat.pow_zero, Nat.mul_one]
        have : (5 : Int).natAbs = 5 := rfl
        rw [this]; ac_rfl
theorem exactB_back {M E : Int} (hf : fltOkF M E = true) : exactB (fltDecF M E).1 (fltDecF M E).2 = true := by
  unfold exactB; rw [nearF_back hf]; simp
theorem fltDecF_no {M E : Int} (hf : fltOkF M E = false) : fltDecF M E = (0, 0) := by unfold fltDecF; rw [if_neg (by rw [hf]; simp)]
theorem newF_ok {m e : Int} (h : (newF m e).2.2 = true) : fltOkF (newF m e).1 (newF m e).2.1 = true := by
  unfold newF at h ⊢
  split at h
  · rename_i h0
    rw [if_pos h0]
    split at h
    · rename_i h1; rw [if_pos h1]; rfl
    · rename_i h1
      rw [if_neg h1]
      split at h
      · rename_i h2; rw [if_pos h2]; exact h2
      · cases h
  · cases h
theorem newF_none {m e : Int} (h : (newF m e).2.2 = false) : (newF m e).1 = 0 ∧ (newF m e).2.1 = 0 := by
  unfold newF at h ⊢
  split at h
  · rename_i h0
    rw [if_pos h0]
    split at h
    · rename_i h1; rw [if_pos h1]; exact ⟨rfl, rfl⟩
    · rename_i h1
      rw [if_neg h1]
      split at h
      · cases h
      · rename_i h2; rw [if_neg h2]; exact ⟨rfl, rfl⟩
  · rename_i h0; rw [if_neg h0]; exact ⟨rfl, rfl⟩
theorem fltDecF_inj {m e p q : Int} (h : fltOkF m e = true) (h' : fltOkF p q = true) (he : fltDecF m e = fltDecF p q) : m = p ∧ e = q := by
  have h1 := nearF_back h
  have h2 := nearF_back h'
  rw [he, h2] at h1
  simp only [Prod.mk.injEq] at h1
  exact ⟨h1.1.symm, h1.2.1.symm⟩
/-- Of two valid numbers by halves that are not the same, just one is less. -/
theorem lessFlt_one {m e p q : Int} (h : fltOkF m e = true) (h' : fltOkF p q = true) : (lessFltB m e p q || lessFltB p q m e) = !(decide (m = p ∧ e = q)) := by
  unfold lessFltB
  rw [h, h']
  simp only [Bool.true_and]
  rw [less_one (fltDecF_ok m e) (fltDecF_ok p q)]
  congr 1
  apply decide_eq_decide.2
  constructor
  · intro ⟨a, b⟩; exact fltDecF_inj h h' (Prod.ext a b)
  · intro ⟨a, b⟩; subst a; subst b; exact ⟨rfl, rfl⟩
end Go.Proofs.YtilmhemcpgiikaaDoor
