/- What ReadNumber answers, told of the bytes. -/
import Derived.Test.YtilmhemcpgiikaaDoorMAtoi
namespace Go.Proofs.YtilmhemcpgiikaaDoor
open Go.ChangeShapes Go.WideShapes Go.ChangeAt Go.RowKit

/-- Is a byte a digit? -/
def isDg (c : UInt8) : Bool := decide (48 ≤ c.toNat ∧ c.toNat ≤ 57)
/-- The digits at a place. -/
def dsAt (l : List UInt8) (p : Nat) : List UInt8 := (l.drop p).takeWhile isDg
/-- The byte at a place, 0 if there is none. -/
def byN (l : List UInt8) (q : Nat) : Nat := match l[q]? with | some c => c.toNat | none => 0
/-- Digits without the noughts ahead. -/
def sigL (l : List UInt8) : List UInt8 := Lib.trimLeftB l 48

theorem byN_lt {l : List UInt8} {q : Nat} (h : byN l q ≠ 0) : q < l.length := by
  unfold byN at h
  cases e : l[q]? with
  | none => rw [e] at h; exact absurd rfl h
  | some c => exact (List.getElem?_eq_some_iff.1 e).1
theorem byN_at {l : List UInt8} {q : Nat} (h : q < l.length) : byN l q = l[q].toNat := by
  unfold byN; rw [List.getElem?_eq_getElem h]
theorem byN_out {l : List UInt8} {q : Nat} (h : l.length ≤ q) : byN l q = 0 := by
  unfold byN; rw [List.getElem?_eq_none h]
theorem byN_256 (l : List UInt8) (q : Nat) : byN l q < 256 := by
  unfold byN
  split
  · exact UInt8.toNat_lt _
  · decide
theorem byN_drop (l : List UInt8) (p j : Nat) : byN (l.drop p) j = byN l (p + j) := by
  unfold byN; rw [List.getElem?_drop]
theorem tw_in : ∀ (m : List UInt8) (j : Nat), j < (m.takeWhile isDg).length → 48 ≤ byN m j ∧ byN m j ≤ 57
  | [], j, h => absurd h (Nat.not_lt_zero _)
  | c :: m, j, h => by
    by_cases hc : isDg c = true
    · rw [List.takeWhile_cons_of_pos hc] at h
      cases j with
      | zero => exact of_decide_eq_true hc
      | succ j =>
        have := tw_in m j (by rw [List.length_cons] at h; omega)
        exact this
    · rw [List.takeWhile_cons_of_neg hc] at h
      exact absurd h (Nat.not_lt_zero _)
theorem tw_end : ∀ (m : List UInt8), ¬ (48 ≤ byN m (m.takeWhile isDg).length ∧ byN m (m.takeWhile isDg).length ≤ 57)
  | [] => by intro h; have := h.1; revert this; decide
  | c :: m => by
    by_cases hc : isDg c = true
    · rw [List.takeWhile_cons_of_pos hc, List.length_cons]
      exact tw_end m
    · rw [List.takeWhile_cons_of_neg hc]
      exact fun h => hc (decide_eq_true h)
theorem dsAt_in {l : List UInt8} {p j : Nat} (h : j < (dsAt l p).length) : (48 ≤ byN l (p + j) ∧ byN l (p + j) ≤ 57) ∧ p + j < l.length := by
  have h1 := tw_in _ _ h
  rw [byN_drop] at h1
  exact ⟨h1, byN_lt (by omega)⟩
theorem dsAt_end (l : List UInt8) (p : Nat) : ¬ (48 ≤ byN l (p + (dsAt l p).length) ∧ byN l (p + (dsAt l p).length) ≤ 57) := by
  have h1 := tw_end (l.drop p)
  rw [byN_drop] at h1
  exact h1
theorem dsAt_le {l : List UInt8} {p : Nat} (hp : p ≤ l.length) : p + (dsAt l p).length ≤ l.length := by
  rcases Nat.eq_zero_or_pos (dsAt l p).length with h | h
  · omega
  · have := (dsAt_in (l := l) (p := p) (j := (dsAt l p).length - 1) (by omega)).2
    omega
theorem dsAt_dig (l : List UInt8) (p : Nat) : ∀ c ∈ dsAt l p, 48 ≤ c.toNat ∧ c.toNat ≤ 57 := fun c h =>
  of_decide_eq_true (List.all_eq_true.1 (List.all_takeWhile (p := isDg) (l := l.drop p)) c h)
theorem dsAt_take (l : List UInt8) (p : Nat) : (l.drop p).take (dsAt l p).length = dsAt l p :=
  (List.prefix_iff_eq_take.1 (List.takeWhile_prefix isDg)).symm
theorem dsAt_cut (l : List UInt8) (p n : Nat) (h : n ≤ (dsAt l p).length) : (l.drop p).take n = (dsAt l p).take n := by
  rw [← dsAt_take l p, List.take_take, Nat.min_eq_left h]
theorem dsAt_head {l : List UInt8} {p : Nat} (h : 0 < (dsAt l p).length) : byN (dsAt l p) 0 = byN l p := by
  have h1 := (dsAt_in h).2
  rw [Nat.add_zero] at h1
  rw [byN_at h, byN_at h1]
  have : (dsAt l p)[0] = l[p] := by
    have e : (dsAt l p)[0]? = (l.drop p)[0]? := by rw [← dsAt_take l p, List.getElem?_take_of_lt h]
    rw [List.getElem?_drop, Nat.add_zero, List.getElem?_eq_getElem h, List.getElem?_eq_getElem h1] at e
    exact Option.some.inj e
  rw [this]
theorem dsAt_nil {l : List UInt8} {p : Nat} : dsAt l p = [] ↔ (dsAt l p).length = 0 := List.length_eq_zero_iff.symm

/-- The last step: too many digits, or the number. -/
def rn4 (ng : Bool) (ds : List UInt8) (fr : Nat) (ex : List UInt8) (dn : Bool) (q : Nat) : Int × Int × Int × Int :=
  if 17 < (sigL ds).length ∨ 3 < ex.length then (0, 0, (q : Int), 2)
  else ((if ng then -(digVal ds : Int) else (digVal ds : Int)), (if dn then -(digVal ex : Int) else (digVal ex : Int)) - (fr : Int), (q : Int), 0)
/-- With the exponent. -/
def rn3 (l : List UInt8) (ng : Bool) (ds : List UInt8) (fr q : Nat) : Int × Int × Int × Int :=
  if byN l q = 101 ∨ byN l q = 69 then
    (if dsAt l (if byN l (q + 1) = 45 ∨ byN l (q + 1) = 43 then q + 2 else q + 1) = [] then (0, 0, (((if byN l (q + 1) = 45 ∨ byN l (q + 1) = 43 then q + 2 else q + 1 : Nat)) : Int), 1)
     else rn4 ng ds fr (dsAt l (if byN l (q + 1) = 45 ∨ byN l (q + 1) = 43 then q + 2 else q + 1)) (decide (byN l (q + 1) = 45)) ((if byN l (q + 1) = 45 ∨ byN l (q + 1) = 43 then q + 2 else q + 1) + (dsAt l (if byN l (q + 1) = 45 ∨ byN l (q + 1) = 43 then q + 2 else q + 1)).length))
  else rn4 ng ds fr [] false q
/-- With the fraction. -/
def rn2 (l : List UInt8) (ng : Bool) (wh : List UInt8) (q : Nat) : Int × Int × Int × Int :=
  if byN l q = 46 then
    (if dsAt l (q + 1) = [] then (0, 0, ((q + 1 : Nat) : Int), 1) else rn3 l ng (wh ++ dsAt l (q + 1)) (dsAt l (q + 1)).length (q + 1 + (dsAt l (q + 1)).length))
  else rn3 l ng wh 0 q
/-- The whole part. -/
def rn1 (l : List UInt8) (ng : Bool) (p : Nat) : Int × Int × Int × Int :=
  if dsAt l p = [] then (0, 0, (p : Int), 1)
  else if byN l p = 48 then rn2 l ng [48] (p + 1) else rn2 l ng (dsAt l p) (p + (dsAt l p).length)
/-- What ReadNumber answers. -/
def rnF (l : List UInt8) (p : Int) : Int × Int × Int × Int :=
  if p < 0 ∨ (l.length : Int) < p then (0, 0, p, 1)
  else if byN l p.toNat = 45 then rn1 l true (p.toNat + 1) else rn1 l false p.toNat

theorem sigL_nil : sigL [] = [] := rfl
theorem sigL_cons (c : UInt8) (l : List UInt8) : sigL (c :: l) = if c = 48 then sigL l else c :: l := by
  unfold sigL Lib.trimLeftB
  rw [List.dropWhile_cons]
  by_cases h : c = 48
  · subst h; rfl
  · rw [if_neg h, if_neg (by simpa using h)]
theorem sigL_snoc : ∀ (l : List UInt8) (c : UInt8), (sigL (l ++ [c])).length = if c ≠ 48 ∨ 0 < (sigL l).length then (sigL l).length + 1 else (sigL l).length
  | [], c => by
    rw [List.nil_append, sigL_cons, sigL_nil]
    by_cases h : c = 48
    · simp [h]
    · simp [h]
  | d :: l, c => by
    rw [List.cons_append, sigL_cons, sigL_cons]
    by_cases h : d = 48
    · rw [if_pos h, if_pos h]; exact sigL_snoc l c
    · rw [if_neg h, if_neg h]; simp
theorem sigL_le : ∀ (l : List UInt8), (sigL l).length ≤ l.length
  | [] => Nat.le_refl _
  | d :: l => by
    rw [sigL_cons]
    split
    · have := sigL_le l; rw [List.length_cons]; omega
    · exact Nat.le_refl _
theorem sigL_mono : ∀ (a b : List UInt8), (sigL a).length ≤ (sigL (a ++ b)).length
  | [], b => Nat.zero_le _
  | d :: a, b => by
    rw [List.cons_append, sigL_cons, sigL_cons]
    split
    · exact sigL_mono a b
    · simp
theorem sigL_val : ∀ (l : List UInt8), digVal (sigL l) = digVal l
  | [] => rfl
  | d :: l => by
    rw [sigL_cons]
    split
    · rename_i h
      rw [sigL_val l, h]; rfl
    · rfl
theorem sigL_dig {l : List UInt8} (h : ∀ c ∈ l, 48 ≤ c.toNat ∧ c.toNat ≤ 57) : ∀ c ∈ sigL l, 48 ≤ c.toNat ∧ c.toNat ≤ 57 := fun c hc =>
  h c ((List.dropWhile_suffix _).subset hc)
theorem sig_lt {l : List UInt8} (h : ∀ c ∈ l, 48 ≤ c.toNat ∧ c.toNat ≤ 57) {k : Nat} (hk : (sigL l).length ≤ k) : digVal l < 10 ^ k := by
  rw [← sigL_val]
  exact Nat.lt_of_lt_of_le (digVal_lt _ _ rfl (sigL_dig h)) (Nat.pow_le_pow_right (by decide) hk)
end Go.Proofs.YtilmhemcpgiikaaDoor
