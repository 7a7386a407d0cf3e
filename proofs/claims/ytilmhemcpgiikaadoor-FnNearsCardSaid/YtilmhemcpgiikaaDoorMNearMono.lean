/- Plain laws of FnNears: what is nearest is valid, keeps its sign, and of two numbers the lesser one's nearest is not more. -/
import Derived.Test.YtilmhemcpgiikaaDoorMFltBack
namespace Go.Proofs.YtilmhemcpgiikaaDoor

/-- The step of the numbers by halves at an exponent, as so many parts of ten to the -16. -/
def DE (e : Int) : Nat := 5 ^ 16 * 2 ^ (e + 16).toNat
theorem DE_pos (e : Int) : 0 < DE e := Nat.mul_pos (Nat.pow_pos (by decide)) (Nat.two_pow_pos _)
theorem DE_le {a b : Int} (h : a ≤ b) : DE a ≤ DE b := Nat.mul_le_mul_left _ (Nat.pow_le_pow_right (by decide) (by omega))
theorem DE_pred {e : Int} (h : -16 < e) : DE e = 2 * DE (e - 1) := by
  unfold DE
  have : (2 : Nat) ^ (e + 16).toNat = 2 ^ (e - 1 + 16).toNat * 2 := by rw [← Nat.pow_succ, show (e + 16).toNat = (e - 1 + 16).toNat + 1 by omega]
  rw [this]
  ac_rfl
theorem ten_16 : (10 : Nat) ^ 16 = 5 ^ 16 * 2 ^ 16 := by rw [← Nat.mul_pow]
theorem bump_scale (q r d c : Nat) (hc : 0 < c) : bump q (r * c) (d * c) = bump q r d := by
  unfold bump
  have h1 : d * c < 2 * (r * c) ↔ d < 2 * r := by rw [← Nat.mul_assoc]; exact Nat.mul_lt_mul_right hc
  have h2 : 2 * (r * c) = d * c ↔ 2 * r = d := by
    rw [← Nat.mul_assoc]
    exact ⟨fun h => Nat.eq_of_mul_eq_mul_right hc h, fun h => by rw [h]⟩
  simp only [h1, h2]
theorem bump_of_scale {a b u d c k : Nat} (hc : 0 < c) (hk : 0 < k) (h1 : a * c = u * k) (h2 : b * c = d * k) : a / b = u / d ∧ bump (a / b) (a % b) b = bump (u / d) (u % d) d := by
  have e1 : a / b = u / d := by rw [← Nat.mul_div_mul_right a b hc, h1, h2, Nat.mul_div_mul_right u d hk]
  refine ⟨e1, ?_⟩
  rw [e1, ← bump_scale _ (a % b) b c hc, ← bump_scale _ (u % d) d k hk, ← Nat.mul_mod_mul_right, ← Nat.mul_mod_mul_right, h1, h2]
theorem bump_mono {D u v : Nat} (h : u ≤ v) : bump (u / D) (u % D) D ≤ bump (v / D) (v % D) D := by
  have h1 : u / D ≤ v / D := Nat.div_le_div_right h
  have b1 : ∀ q r, q ≤ bump q r D ∧ bump q r D ≤ q + 1 := by intro q r; unfold bump; split <;> omega
  rcases Nat.lt_or_eq_of_le h1 with h2 | h2
  · have := (b1 (u / D) (u % D)).2
    have := (b1 (v / D) (v % D)).1
    omega
  · have e1 := Nat.div_add_mod u D
    have e2 := Nat.div_add_mod v D
    rw [← h2] at e2
    have h3 : u % D ≤ v % D := by omega
    rw [← h2]
    unfold bump
    split
    · rw [if_pos (by omega)]; exact Nat.le_refl _
    · split <;> omega
theorem up_abs {n x : Int} (h1 : -16 ≤ x) (h2 : x ≤ 0) : (decUp n x).natAbs * 10 ^ (-x).toNat = n.natAbs * 10 ^ 16 := by
  unfold decUp
  rw [Int.natAbs_mul, Int.natAbs_pow, Nat.mul_assoc]
  have : (10 : Int).natAbs = 10 := rfl
  rw [this, ← Nat.pow_add, show (16 + x).toNat + (-x).toNat = 16 by omega]
theorem q_up {n x e : Int} (h1 : -16 ≤ x) (h2 : x ≤ 0) (he : -16 ≤ e) :
    qE n.natAbs (10 ^ (-x).toNat) e = (decUp n x).natAbs / DE e ∧ bump (qE n.natAbs (10 ^ (-x).toNat) e) (rE n.natAbs (10 ^ (-x).toNat) e) (10 ^ (-x).toNat * 2 ^ e.toNat) = bump ((decUp n x).natAbs / DE e) ((decUp n x).natAbs % DE e) (DE e) := by
  have hP : 0 < 10 ^ (-x).toNat := Nat.pow_pos (by decide)
  have hu := up_abs (n := n) h1 h2
  generalize (10 : Nat) ^ (-x).toNat = P at *
  generalize (decUp n x).natAbs = U at *
  unfold qE rE
  refine bump_of_scale (c := 5 ^ 16 * 2 ^ (16 - (-e).toNat)) (k := P) (Nat.mul_pos (Nat.pow_pos (by decide)) (Nat.two_pow_pos _)) hP ?_ ?_
  · rw [hu, ten_16]
    have : (2 : Nat) ^ 16 = 2 ^ (-e).toNat * 2 ^ (16 - (-e).toNat) := by rw [← Nat.pow_add, show (-e).toNat + (16 - (-e).toNat) = 16 by omega]
    rw [this]; ac_rfl
  · unfold DE
    have : (2 : Nat) ^ (e + 16).toNat = 2 ^ e.toNat * 2 ^ (16 - (-e).toNat) := by rw [← Nat.pow_add, show e.toNat + (16 - (-e).toNat) = (e + 16).toNat by omega]
    rw [this]; ac_rfl
/-- The exponent that is taken. -/
def Takes (u : Nat) (e : Int) : Prop := -16 ≤ e ∧ e ≤ 41 ∧ u / DE e ≤ 65535 ∧ (e = -16 ∨ 65535 < u / DE (e - 1))
def rdN (u : Nat) (e : Int) : Nat := bump (u / DE e) (u % DE e) (DE e)
theorem near_form {n x : Int} (hok : decOkB n x = true) : ∃ e : Int, Takes (decUp n x).natAbs e ∧ nearF n x = newF (if n < 0 then -(rdN (decUp n x).natAbs e : Int) else (rdN (decUp n x).natAbs e : Int)) e := by
  obtain ⟨r1, r2, r3, r4⟩ := decOk_range hok
  have hP : 0 < 10 ^ (-x).toNat := Nat.pow_pos (by decide)
  have h41 : qE n.natAbs (10 ^ (-x).toNat) 41 ≤ 65535 := by
    unfold qE
    rw [show (-(41 : Int)).toNat = 0 from rfl, show (41 : Int).toNat = 41 from rfl, Nat.pow_zero, Nat.mul_one]
    have h2 : (2 : Nat) ^ 41 = 2199023255552 := by decide
    have : n.natAbs / (10 ^ (-x).toNat * 2 ^ 41) ≤ n.natAbs / (2 ^ 41) := Nat.div_le_div_left (Nat.le_mul_of_pos_left _ hP) (by decide)
    rw [h2] at this ⊢
    omega
  obtain ⟨e, e1, e2, e3, e4⟩ := least_e 57 (E := 41) (by omega) h41
  obtain ⟨q1, q2⟩ := q_up (n := n) r1 r2 e1
  refine ⟨e, ⟨e1, e2, by rw [← q1]; exact e3, ?_⟩, ?_⟩
  · rcases e4 with e4 | e4
    · exact .inl e4
    · by_cases h16 : e = -16
      · exact .inl h16
      · right; rw [← (q_up (n := n) r1 r2 (e := e - 1) (by omega)).1]; exact e4
  · rw [nearF_of hok rfl rfl e3 e1 (by omega) e4, q2]; rfl
theorem takes_le {u v : Nat} {a b : Int} (ha : Takes u a) (hb : Takes v b) (h : u ≤ v) : a ≤ b := by
  refine Int.not_lt.1 fun hlt => ?_
  obtain ⟨a1, a2, a3, a4⟩ := ha
  obtain ⟨b1, b2, b3, b4⟩ := hb
  have h1 : 65535 < u / DE (a - 1) := a4.resolve_left (by omega)
  have h2 : u / DE (a - 1) ≤ v / DE (a - 1) := Nat.div_le_div_right h
  have h3 : v / DE (a - 1) ≤ v / DE b := Nat.div_le_div_left (DE_le (by omega)) (DE_pos _)
  omega
/-- Rounding does not turn the order. -/
theorem rd_mono {u v : Nat} {a b : Int} (ha : Takes u a) (hb : Takes v b) (h : u ≤ v) : rdN u a * DE a ≤ rdN v b * DE b := by
  have hab := takes_le ha hb h
  by_cases he : a = b
  · subst he
    exact Nat.mul_le_mul_right _ (bump_mono h)
  · obtain ⟨a1, a2, a3, a4⟩ := ha
    obtain ⟨b1, b2, b3, b4⟩ := hb
    have h1 : 65535 < v / DE (b - 1) := b4.resolve_left (by omega)
    have h2 : rdN u a ≤ 65536 := by unfold rdN bump; split <;> omega
    have h3 : 65536 * DE (b - 1) ≤ v := by
      have := (Nat.le_div_iff_mul_le (DE_pos (b - 1))).1 (show 65536 ≤ v / DE (b - 1) by omega)
      exact this
    have h4 : 32768 ≤ v / DE b := by
      rw [Nat.le_div_iff_mul_le (DE_pos b), DE_pred (by omega)]
      omega
    have h5 : 32768 ≤ rdN v b := by unfold rdN bump; split <;> omega
    have h6 : DE a ≤ DE (b - 1) := DE_le (by omega)
    have h7 : rdN u a * DE a ≤ 65536 * DE (b - 1) := Nat.mul_le_mul h2 h6
    have h8 : 32768 * DE b ≤ rdN v b * DE b := Nat.mul_le_mul_right _ h5
    rw [DE_pred (e := b) (by omega)] at h8 ⊢
    omega
theorem strip_val : ∀ (f : Nat) (m e M E : Int), stripF f m e = (M, E) → e ≤ E ∧ m = M * 2 ^ (E - e).toNat
  | 0, m, e, M, E, h => by
    have h' : (m, e) = (M, E) := h
    cases h'
    exact ⟨Int.le_refl _, by rw [show (e - e).toNat = 0 by omega, Int.pow_zero, Int.mul_one]⟩
  | f + 1, m, e, M, E, h => by
    by_cases h0 : m % 2 = 0
    · rw [stripF_even h0] at h
      obtain ⟨h1, h2⟩ := strip_val f _ _ _ _ h
      refine ⟨by omega, ?_⟩
      rw [show (E - e).toNat = (E - (e + 1)).toNat + 1 by omega, Int.pow_succ, ← Int.mul_assoc, ← h2]
      omega
    · rw [stripF_odd h0] at h
      cases h
      exact ⟨Int.le_refl _, by rw [show (e - e).toNat = 0 by omega, Int.pow_zero, Int.mul_one]⟩
theorem newF_val {m e M E : Int} (he : -16 ≤ e) (h : newF m e = (M, E, true)) : M * 2 ^ (E + 16).toNat = m * 2 ^ (e + 16).toNat := by
  unfold newF at h
  split at h
  · split at h
    · rename_i h0
      simp only [Prod.mk.injEq, and_true] at h
      rw [← h.1, h0]; simp
    · split at h
      · simp only [Prod.mk.injEq, and_true] at h
        obtain ⟨h1, h2⟩ := strip_val 60 m e M E (Prod.ext h.1 h.2)
        rw [h2, Int.mul_assoc, ← Int.pow_add, show (E - e).toNat + (e + 16).toNat = (E + 16).toNat by omega]
      · cases h
  · cases h
theorem fltDec_val {M E : Int} (h : fltOkF M E = true) : decUp (fltDecF M E).1 (fltDecF M E).2 = M * 2 ^ (E + 16).toNat * 5 ^ 16 := by
  obtain ⟨a, b, c, d, g⟩ := fltOkF_range h
  have t16 : (10 : Int) ^ 16 = 2 ^ 16 * 5 ^ 16 := by decide
  by_cases hM : M = 0
  · subst hM
    have hE : E = 0 := by unfold fltOkF at h; rw [if_pos rfl] at h; simpa using h
    subst hE
    decide
  · by_cases hE : 0 ≤ E
    · have e1 : fltDecF M E = (M * 2 ^ E.toNat, 0) := by unfold fltDecF; rw [if_pos h, if_pos hE]
      rw [e1]
      unfold decUp
      show M * 2 ^ E.toNat * 10 ^ (16 + (0 : Int)).toNat = _
      rw [show (16 + (0 : Int)).toNat = 16 from rfl, t16, show (E + 16).toNat = E.toNat + 16 by omega, Int.pow_add]
      ac_rfl
    · have hodd : M % 2 = 1 := by
        unfold fltOkF at h
        rw [if_neg hM] at h
        exact (of_decide_eq_true h).1
      obtain ⟨f1, f2⟩ := five_bd a b c (by omega)
      have ho : (M * 5 ^ (-E).toNat) % 2 = 1 := odd_mul hodd (five_odd _)
      have hdok : decOkB (M * 5 ^ (-E).toNat) E = true := decOkB_iff.2 (.inr ⟨by omega, by omega, f1, f2, by omega⟩)
      have e1 : fltDecF M E = (M * 5 ^ (-E).toNat, E) := by
        unfold fltDecF; rw [if_pos h, if_neg hE, decNew_back hdok]
      rw [e1]
      unfold decUp
      show M * 5 ^ (-E).toNat * 10 ^ (16 + E).toNat = _
      have h10 : (10 : Int) ^ (16 + E).toNat = 2 ^ (16 + E).toNat * 5 ^ (16 + E).toNat := by rw [← Int.mul_pow]; rfl
      have h5 : (5 : Int) ^ 16 = 5 ^ (-E).toNat * 5 ^ (16 + E).toNat := by rw [← Int.pow_add, show (-E).toNat + (16 + E).toNat = 16 by omega]
      rw [h10, h5, show (E + 16).toNat = (16 + E).toNat by omega]
      ac_rfl
theorem up_neg {n x : Int} : decUp n x < 0 ↔ n < 0 := by
  unfold decUp
  have hp : (0 : Int) < 10 ^ (16 + x).toNat := Int.pow_pos (by decide)
  constructor
  · intro h
    refine Int.not_le.1 fun q => ?_
    have := Int.mul_nonneg q (Int.le_of_lt hp)
    omega
  · intro h; exact Int.mul_neg_of_neg_of_pos h hp
theorem near_val {n x M E : Int} (h : nearF n x = (M, E, true)) : ∃ e, Takes (decUp n x).natAbs e ∧ decUp (fltDecF M E).1 (fltDecF M E).2 = (if decUp n x < 0 then -((rdN (decUp n x).natAbs e * DE e : Nat) : Int) else ((rdN (decUp n x).natAbs e * DE e : Nat) : Int)) := by
  have hok : decOkB n x = true := by
    cases hk : decOkB n x with
    | true => rfl
    | false => rw [nearF_no hk] at h; cases h
  obtain ⟨e, he, hf⟩ := near_form hok
  refine ⟨e, he, ?_⟩
  rw [h] at hf
  have hfo : fltOkF M E = true := by
    have := newF_ok (m := if n < 0 then -(rdN (decUp n x).natAbs e : Int) else (rdN (decUp n x).natAbs e : Int)) (e := e) (by rw [← hf])
    rw [← hf] at this; exact this
  rw [fltDec_val hfo, newF_val he.1 hf.symm]
  have hD : ((DE e : Nat) : Int) = 2 ^ (e + 16).toNat * 5 ^ 16 := by
    unfold DE; rw [Int.natCast_mul, Int.natCast_pow, Int.natCast_pow, Int.mul_comm]; rfl
  rw [Int.natCast_mul, hD]
  by_cases hn : n < 0
  · rw [if_pos hn, if_pos (up_neg.2 hn), Int.mul_assoc, Int.neg_mul]
  · rw [if_neg hn, if_neg (fun q => hn (up_neg.1 q)), Int.mul_assoc]
/-- Of two numbers the lesser one's nearest is not more. -/
theorem near_mono {n x m y M E P Q : Int} (h1 : nearF n x = (M, E, true)) (h2 : nearF m y = (P, Q, true)) (h : decUp n x ≤ decUp m y) : decUp (fltDecF M E).1 (fltDecF M E).2 ≤ decUp (fltDecF P Q).1 (fltDecF P Q).2 := by
  obtain ⟨a, ha, e1⟩ := near_val h1
  obtain ⟨b, hb, e2⟩ := near_val h2
  rw [e1, e2]
  by_cases u1 : decUp n x < 0
  · rw [if_pos u1]
    by_cases u2 : decUp m y < 0
    · rw [if_pos u2]
      have := rd_mono hb ha (by omega)
      omega
    · rw [if_neg u2]; omega
  · rw [if_neg u1, if_neg (by omega)]
    have := rd_mono ha hb (by omega)
    omega
theorem near_less {n x m y M E P Q : Int} (h1 : nearF n x = (M, E, true)) (h2 : nearF m y = (P, Q, true)) (h : lessDecB n x m y = true) : lessFltB P Q M E = false := by
  unfold lessDecB at h
  simp only [Bool.and_eq_true] at h
  have hlt := of_decide_eq_true h.2.2
  have := near_mono h1 h2 (by omega)
  unfold lessFltB lessDecB
  rw [decide_eq_false (by omega)]
  simp
theorem near_none {n x : Int} (h : (nearF n x).2.2 = false) : (nearF n x).1 = 0 ∧ (nearF n x).2.1 = 0 := by
  cases hk : decOkB n x with
  | false => rw [nearF_no hk]; exact ⟨rfl, rfl⟩
  | true =>
    obtain ⟨e, -, hf⟩ := near_form hk
    rw [hf] at h ⊢
    exact newF_none h
theorem near_ok {n x : Int} (h : (nearF n x).2.2 = true) : fltOkF (nearF n x).1 (nearF n x).2.1 = true := by
  cases hk : decOkB n x with
  | false => rw [nearF_no hk] at h; cases h
  | true =>
    obtain ⟨e, -, hf⟩ := near_form hk
    rw [hf] at h ⊢
    exact newF_ok h
theorem near_sign {n x M E : Int} (h : nearF n x = (M, E, true)) : (0 < n → ¬ M < 0) ∧ (n < 0 → ¬ 0 < M) := by
  obtain ⟨e, -, he⟩ := near_val h
  have hfo := near_ok (n := n) (x := x) (by rw [h])
  rw [h] at hfo
  rw [fltDec_val hfo] at he
  have hp : (0 : Int) < 2 ^ (E + 16).toNat * 5 ^ 16 := Int.mul_pos (Int.pow_pos (by decide)) (Int.pow_pos (by decide))
  rw [Int.mul_assoc] at he
  obtain ⟨D, hD⟩ : ∃ D : Int, D = 2 ^ (E + 16).toNat * 5 ^ 16 := ⟨_, rfl⟩
  rw [← hD] at he hp
  obtain ⟨Z, hZ⟩ : ∃ Z : Nat, Z = rdN (decUp n x).natAbs e * DE e := ⟨_, rfl⟩
  rw [← hZ] at he
  constructor
  · intro hn hM
    have h1 := Int.mul_neg_of_neg_of_pos hM hp
    rw [if_neg (fun q => by have := up_neg.1 q; omega)] at he
    rw [he] at h1
    omega
  · intro hn hM
    have h1 := Int.mul_pos hM hp
    rw [if_pos (up_neg.2 hn)] at he
    rw [he] at h1
    omega
end Go.Proofs.YtilmhemcpgiikaaDoor
