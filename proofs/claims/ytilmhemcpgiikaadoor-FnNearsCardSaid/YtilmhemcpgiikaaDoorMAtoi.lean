/- Plain laws of Atoi and ParseNum. -/
import Derived.Test.YtilmhemcpgiikaaDoorCAtoi
import Derived.Test.YtilmhemcpgiikaaDoorCNum
namespace Go.Proofs.YtilmhemcpgiikaaDoor
open Go.ChangeShapes Go.WideShapes Go.ChangeAt Go.RowKit

/-- The value of digits, on from a number. -/
def fv (a : Nat) (l : List UInt8) : Nat := l.foldl (fun n c => 10 * n + (c.toNat - 48)) a
theorem fv_ge : ∀ (l : List UInt8) (a : Nat), a ≤ fv a l
  | [], a => Nat.le_refl _
  | c :: l, a => Nat.le_trans (by omega) (fv_ge l (10 * a + (c.toNat - 48)))
theorem parse_digits : ∀ (l : List UInt8) (a : Nat), (∀ c ∈ l, 48 ≤ c.toNat ∧ c.toNat ≤ 57) → fv a l < 1000000000000000000 → Lib.parseUint10 a l = .ok (fv a l)
  | [], a, _, _ => rfl
  | c :: l, a, hd, hb => by
    have h1 := hd c (List.mem_cons_self ..)
    have e : fv a (c :: l) = fv (10 * a + (c.toNat - 48)) l := rfl
    rw [e] at hb ⊢
    have h2 := fv_ge l (10 * a + (c.toNat - 48))
    have e2 : a * 10 + (c.toNat - 48) = 10 * a + (c.toNat - 48) := by omega
    rw [Lib.parseUint10, if_pos h1, if_neg (by omega), if_neg (by omega), e2]
    exact parse_digits l _ (fun x hx => hd x (List.mem_cons_of_mem _ hx)) hb
/-- Digits, with or without a sign: what Atoi says. -/
theorem atoi_digits (l : List UInt8) (hne : l ≠ []) (hd : ∀ c ∈ l, 48 ≤ c.toNat ∧ c.toNat ≤ 57) (hb : digVal l < 1000000000000000000) : atoiO l = some (digVal l : Int) := by
  obtain ⟨c, r, rfl⟩ := List.exists_cons_of_ne_nil hne
  have h1 := hd c (List.mem_cons_self ..)
  have hp : Lib.parseMag (c :: r) = .ok (digVal (c :: r)) := by
    unfold Lib.parseMag; rw [if_neg (by simp)]; exact parse_digits _ 0 hd hb
  have ha : Lib.atoiAll (c :: r) = .ok (digVal (c :: r) : Int) := by
    unfold Lib.atoiAll
    simp only
    rw [if_neg (by omega), hp]
    simp only
    rw [if_neg (by omega), if_neg (by omega), if_neg (by omega)]
  unfold atoiO; rw [ha]
theorem atoi_minus (l : List UInt8) (hne : l ≠ []) (hd : ∀ c ∈ l, 48 ≤ c.toNat ∧ c.toNat ≤ 57) (hb : digVal l < 1000000000000000000) : atoiO (45 :: l) = some (-(digVal l : Int)) := by
  have hp : Lib.parseMag l = .ok (digVal l) := by
    unfold Lib.parseMag; rw [if_neg hne]; exact parse_digits _ 0 hd hb
  have ha : Lib.atoiAll (45 :: l) = .ok (-(digVal l : Int)) := by
    unfold Lib.atoiAll
    simp only
    rw [if_pos (by decide), hp]
    simp only
    rw [if_neg (by simp), if_neg (by omega), if_pos (by decide)]
  unfold atoiO; rw [ha]
theorem atoi_itoa (n : Int) (h1 : -1000000000000000000 < n) (h2 : n < 1000000000000000000) : atoiO (Lib.itoa n) = some n := by
  unfold Lib.itoa
  split
  · rw [atoi_minus _ (decDigits_ne _) (decDigits_dig _) (by rw [digVal_decDigits]; omega), digVal_decDigits]
    congr 1; omega
  · rw [atoi_digits _ (decDigits_ne _) (decDigits_dig _) (by rw [digVal_decDigits]; omega), digVal_decDigits]
    congr 1; omega
/-- What ParseNum answers. -/
def pnF (s : ByteArray) : Int × Bool := match atoiO s.data.toList with
  | some v => if (-1000000000000000 ≤ v ∧ v ≤ 1000000000000000) ∧ numS v = s then (v, true) else (0, false)
  | none => (0, false)
theorem numS_list (n : Int) : (numS n).data.toList = Lib.itoa n := by unfold numS; simp
theorem pnF_num (n : Int) (h : -1000000000000000 ≤ n ∧ n ≤ 1000000000000000) : pnF (numS n) = (n, true) := by
  unfold pnF
  rw [numS_list, atoi_itoa n (by omega) (by omega)]
  simp only
  rw [if_pos ⟨h, trivial⟩]
theorem pnF_yes {s : ByteArray} (h : (pnF s).2 = true) : (-1000000000000000 ≤ (pnF s).1 ∧ (pnF s).1 ≤ 1000000000000000) ∧ numS (pnF s).1 = s := by
  unfold pnF at *
  cases ha : atoiO s.data.toList with
  | none => rw [ha] at h; cases h
  | some v =>
    rw [ha] at h
    simp only at h ⊢
    split at h
    · rename_i hc; rw [if_pos hc]; exact hc
    · cases h
theorem pnF_no {s : ByteArray} (h : (pnF s).2 = false) : (pnF s).1 = 0 := by
  unfold pnF at *
  cases ha : atoiO s.data.toList with
  | none => rfl
  | some v =>
    rw [ha] at h
    simp only at h ⊢
    split at h
    · cases h
    · rename_i hc; rw [if_neg hc]
/-- No number of the range is spelt so. -/
theorem pnF_none {s : ByteArray} (h : ∀ n : Int, -1000000000000000 ≤ n → n ≤ 1000000000000000 → numS n ≠ s) : pnF s = (0, false) := by
  cases hb : (pnF s).2 with
  | false => exact Prod.ext (pnF_no hb) hb
  | true => have := pnF_yes hb; exact absurd this.2 (h _ this.1.1 this.1.2)

/-- Does a text begin with a minus; and what follows the sign. -/
def sgnL (l : List UInt8) : Bool := match l with | c :: _ => c.toNat == 45 | [] => false
def dsL (l : List UInt8) : List UInt8 := if sgnL l = true then l.drop 1 else l
theorem itoa_parts (m : Int) : sgnL (Lib.itoa m) = decide (m < 0) ∧ dsL (Lib.itoa m) = Lib.decDigits m.natAbs := by
  by_cases h : m < 0
  · rw [itoa_neg h, decide_eq_true h]
    exact ⟨rfl, by unfold dsL; rw [if_pos (by rfl)]; rfl⟩
  · rw [itoa_pos (by omega), decide_eq_false h]
    have hs : sgnL (Lib.decDigits m.natAbs) = false := by
      obtain ⟨c, r, hc⟩ := List.exists_cons_of_ne_nil (decDigits_ne m.natAbs)
      have := decDigits_dig m.natAbs c (by rw [hc]; exact List.mem_cons_self ..)
      rw [hc]; unfold sgnL; simp; omega
    exact ⟨hs, by unfold dsL; rw [if_neg (by rw [hs]; decide)]⟩
/-- What a text is that spells a number of the range. -/
theorem num_parts {m : Int} {s : ByteArray} (h : numS m = s) (h1 : -1000000000000000 ≤ m) (h2 : m ≤ 1000000000000000) :
    sgnL s.data.toList = decide (m < 0) ∧ (∀ c ∈ dsL s.data.toList, 48 ≤ c.toNat ∧ c.toNat ≤ 57) ∧ digVal (dsL s.data.toList) = m.natAbs ∧ 1 ≤ (dsL s.data.toList).length ∧ (dsL s.data.toList).length ≤ 16 := by
  have e : s.data.toList = Lib.itoa m := by rw [← h, numS_list]
  have hp := itoa_parts m
  rw [e, hp.1, hp.2]
  refine ⟨rfl, decDigits_dig _, digVal_decDigits _, ?_, ?_⟩
  · have := decDigits_ne m.natAbs
    exact Nat.one_le_iff_ne_zero.2 (fun h => this (List.eq_nil_of_length_eq_zero h))
  · rw [Lib.decDigits_length, nDigits_le (by decide)]
    have : (10 : Nat) ^ 16 = 10000000000000000 := by decide
    omega
theorem digVal_lt : ∀ (j : Nat) (l : List UInt8), l.length = j → (∀ c ∈ l, 48 ≤ c.toNat ∧ c.toNat ≤ 57) → digVal l < 10 ^ j
  | 0, l, hl, _ => by
    obtain rfl := List.eq_nil_of_length_eq_zero hl
    decide
  | j + 1, l, hl, hd => by
    have hne : l ≠ [] := by intro e; rw [e] at hl; simp at hl
    have e := List.dropLast_concat_getLast hne
    have h1 := digVal_lt j l.dropLast (by rw [List.length_dropLast]; omega) (fun c hc => hd c (List.dropLast_subset _ hc))
    have h2 := hd (l.getLast hne) (List.getLast_mem hne)
    rw [← e, digVal_snoc, Nat.pow_succ]
    omega
end Go.Proofs.YtilmhemcpgiikaaDoor
