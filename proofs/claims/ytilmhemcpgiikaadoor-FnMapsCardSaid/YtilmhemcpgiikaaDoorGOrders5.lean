/- Orders: texts of the proof, joined. -/
import Derived.Test.YtilmhemcpgiikaaDoorFrameX
import Derived.Test.YtilmhemcpgiikaaDoorCBase
import Derived.Test.YtilmhemcpgiikaaDoorShelf
import Derived.Shelf.Strconv.AtoiAll
import Derived.Shelf.Strconv.ErrVarAll
import Derived.Lib.AtoiErrMem
import Derived.Test.YtilmhemcpgiikaaDoorCNum
import Derived.Test.YtilmhemcpgiikaaDoorVLess
import Derived.Test.YtilmhemcpgiikaaDoorCTwo
import Derived.Deep.RegionHeld3
import Derived.Test.YtilmhemcpgiikaaDoorVTo
import Derived.Test.YtilmhemcpgiikaaDoorGOrders4
/- Atoi, at every string. -/
namespace Go.Proofs.YtilmhemcpgiikaaDoor
open Go.ChangeShapes Go.WideShapes Go.ChangeAt Go.RowKit

/-- The number that a text spells, if it spells one. -/
def atoiO (l : List UInt8) : Option Int := match Lib.atoiAll l with
  | .ok v => some v
  | _ => none
theorem atoi_c (s : ByteArray) (w : World) (hs : s.size ≤ 1048576) (hL : LaidE w) :
    Calls Tryd.prog 91 #[.string s] w fun e w' => ((∃ v, atoiO s.data.toList = some v ∧ e = .returned (.tuple #[.int .i64 v, .nilIface])) ∨ (∃ (x : Int) (T : TypeId) (p : Value), atoiO s.data.toList = none ∧ e = .returned (.tuple #[.int .i64 x, .iface T p]))) ∧ Below w.heap.size w w' := by
  obtain ⟨⟨t1, p1, h1⟩, ⟨t2, p2, h2⟩⟩ := hL
  unfold atoiO
  rcases h : Lib.atoiAll s.data.toList with v | _ | _
  · refine (Any.strconv_Atoi_ok Tryd.laysC172 s (by omega) v h w).mono ?_
    rintro _ w' ⟨rfl, hw⟩
    refine ⟨.inl ⟨v, rfl, rfl⟩, ?_⟩
    rcases hw with rfl | ⟨t, rfl⟩
    · exact Below.refl _ _
    · exact Lib.bytesWorld_below _ _ _
  · refine (Any.strconv_Atoi_syntax_var Tryd.laysC172 s (by omega) h t2 p2 w h2).mono ?_
    rintro _ w' ⟨N, rfl, -, -, hb⟩
    exact ⟨.inr ⟨_, _, _, rfl, rfl⟩, hb⟩
  · refine (Any.strconv_Atoi_range_var Tryd.laysC172 s (by omega) h t1 p1 w h1).mono ?_
    rintro _ w' ⟨N, rfl, -, -, hb⟩
    exact ⟨.inr ⟨_, _, _, rfl, rfl⟩, hb⟩
end Go.Proofs.YtilmhemcpgiikaaDoor
/- Plain laws of Atoi and ParseNum. -/
namespace Go.Proofs.YtilmhemcpgiikaaDoor
open Go.ChangeShapes Go.WideShapes Go.ChangeAt Go.RowKit

/-- The value of digits, on from a number. -/
def fv (a : Nat) (l : List UInt8) : Nat := l.foldl (fun n c => 10 * n + (c.toNat - 48)) a
theorem fv_ge : ∀ (l : List UInt8) (a : Nat), a ≤ fv a l
  | [], a => Nat.le_refl _
  | c :: l, a => Nat.le_trans (by omega) (fv_ge l (10 * a + (c.toNat - 48)))
theorem parse_digits : ∀ (l : List UInt8) (a : Nat), (∀ c ∈ l, 48 ≤ c.toNat ∧ c.toNat ≤ 57) → fv a l < 1000000000000000000 → Lib.parseUint10 a l = .ok (fv a l)
  | [], a, _, _ => rfl
  | c :: l, a, hd, hb => by
    have h1 := hd c (List.mem_cons_self ..)
    have e : fv a (c :: l) = fv (10 * a + (c.toNat - 48)) l := rfl
    rw [e] at hb ⊢
    have h2 := fv_ge l (10 * a + (c.toNat - 48))
    have e2 : a * 10 + (c.toNat - 48) = 10 * a + (c.toNat - 48) := by omega
    rw [Lib.parseUint10, if_pos h1, if_neg (by omega), if_neg (by omega), e2]
    exact parse_digits l _ (fun x hx => hd x (List.mem_cons_of_mem _ hx)) hb
/-- Digits, with or without a sign: what Atoi says. -/
theorem atoi_digits (l : List UInt8) (hne : l ≠ []) (hd : ∀ c ∈ l, 48 ≤ c.toNat ∧ c.toNat ≤ 57) (hb : digVal l < 1000000000000000000) : atoiO l = some (digVal l : Int) := by
  obtain ⟨c, r, rfl⟩ := List.exists_cons_of_ne_nil hne
  have h1 := hd c (List.mem_cons_self ..)
  have hp : Lib.parseMag (c :: r) = .ok (digVal (c :: r)) := by
    unfold Lib.parseMag; rw [if_neg (by simp)]; exact parse_digits _ 0 hd hb
  have ha : Lib.atoiAll (c :: r) = .ok (digVal (c :: r) : Int) := by
    unfold Lib.atoiAll
    simp only
    rw [if_neg (by omega), hp]
    simp only
    rw [if_neg (by omega), if_neg (by omega), if_neg (by omega)]
  unfold atoiO; rw [ha]
theorem atoi_minus (l : List UInt8) (hne : l ≠ []) (hd : ∀ c ∈ l, 48 ≤ c.toNat ∧ c.toNat ≤ 57) (hb : digVal l < 1000000000000000000) : atoiO (45 :: l) = some (-(digVal l : Int)) := by
  have hp : Lib.parseMag l = .ok (digVal l) := by
    unfold Lib.parseMag; rw [if_neg hne]; exact parse_digits _ 0 hd hb
  have ha : Lib.atoiAll (45 :: l) = .ok (-(digVal l : Int)) := by
    unfold Lib.atoiAll
    simp only
    rw [if_pos (by decide), hp]
    simp only
    rw [if_neg (by simp), if_neg (by omega), if_pos (by decide)]
  unfold atoiO; rw [ha]
theorem atoi_itoa (n : Int) (h1 : -1000000000000000000 < n) (h2 : n < 1000000000000000000) : atoiO (Lib.itoa n) = some n := by
  unfold Lib.itoa
  split
  · rw [atoi_minus _ (decDigits_ne _) (decDigits_dig _) (by rw [digVal_decDigits]; omega), digVal_decDigits]
    congr 1; omega
  · rw [atoi_digits _ (decDigits_ne _) (decDigits_dig _) (by rw [digVal_decDigits]; omega), digVal_decDigits]
    congr 1; omega
/-- What ParseNum answers. -/
def pnF (s : ByteArray) : Int × Bool := match atoiO s.data.toList with
  | some v => if (-1000000000000000 ≤ v ∧ v ≤ 1000000000000000) ∧ numS v = s then (v, true) else (0, false)
  | none => (0, false)
theorem numS_list (n : Int) : (numS n).data.toList = Lib.itoa n := by unfold numS; simp
theorem pnF_num (n : Int) (h : -1000000000000000 ≤ n ∧ n ≤ 1000000000000000) : pnF (numS n) = (n, true) := by
  unfold pnF
  rw [numS_list, atoi_itoa n (by omega) (by omega)]
  simp only
  rw [if_pos ⟨h, trivial⟩]
theorem pnF_yes {s : ByteArray} (h : (pnF s).2 = true) : (-1000000000000000 ≤ (pnF s).1 ∧ (pnF s).1 ≤ 1000000000000000) ∧ numS (pnF s).1 = s := by
  unfold pnF at *
  cases ha : atoiO s.data.toList with
  | none => rw [ha] at h; cases h
  | some v =>
    rw [ha] at h
    simp only at h ⊢
    split at h
    · rename_i hc; rw [if_pos hc]; exact hc
    · cases h
theorem pnF_no {s : ByteArray} (h : (pnF s).2 = false) : (pnF s).1 = 0 := by
  unfold pnF at *
  cases ha : atoiO s.data.toList with
  | none => rfl
  | some v =>
    rw [ha] at h
    simp only at h ⊢
    split at h
    · cases h
    · rename_i hc; rw [if_neg hc]
/-- No number of the range is spelt so. -/
theorem pnF_none {s : ByteArray} (h : ∀ n : Int, -1000000000000000 ≤ n → n ≤ 1000000000000000 → numS n ≠ s) : pnF s = (0, false) := by
  cases hb : (pnF s).2 with
  | false => exact Prod.ext (pnF_no hb) hb
  | true => have := pnF_yes hb; exact absurd this.2 (h _ this.1.1 this.1.2)

/-- Does a text begin with a minus; and what follows the sign. -/
def sgnL (l : List UInt8) : Bool := match l with | c :: _ => c.toNat == 45 | [] => false
def dsL (l : List UInt8) : List UInt8 := if sgnL l = true then l.drop 1 else l
theorem itoa_parts (m : Int) : sgnL (Lib.itoa m) = decide (m < 0) ∧ dsL (Lib.itoa m) = Lib.decDigits m.natAbs := by
  by_cases h : m < 0
  · rw [itoa_neg h, decide_eq_true h]
    exact ⟨rfl, by unfold dsL; rw [if_pos (by rfl)]; rfl⟩
  · rw [itoa_pos (by omega), decide_eq_false h]
    have hs : sgnL (Lib.decDigits m.natAbs) = false := by
      obtain ⟨c, r, hc⟩ := List.exists_cons_of_ne_nil (decDigits_ne m.natAbs)
      have := decDigits_dig m.natAbs c (by rw [hc]; exact List.mem_cons_self ..)
      rw [hc]; unfold sgnL; simp; omega
    exact ⟨hs, by unfold dsL; rw [if_neg (by rw [hs]; decide)]⟩
/-- What a text is that spells a number of the range. -/
theorem num_parts {m : Int} {s : ByteArray} (h : numS m = s) (h1 : -1000000000000000 ≤ m) (h2 : m ≤ 1000000000000000) :
    sgnL s.data.toList = decide (m < 0) ∧ (∀ c ∈ dsL s.data.toList, 48 ≤ c.toNat ∧ c.toNat ≤ 57) ∧ digVal (dsL s.data.toList) = m.natAbs ∧ 1 ≤ (dsL s.data.toList).length ∧ (dsL s.data.toList).length ≤ 16 := by
  have e : s.data.toList = Lib.itoa m := by rw [← h, numS_list]
  have hp := itoa_parts m
  rw [e, hp.1, hp.2]
  refine ⟨rfl, decDigits_dig _, digVal_decDigits _, ?_, ?_⟩
  · have := decDigits_ne m.natAbs
    exact Nat.one_le_iff_ne_zero.2 (fun h => this (List.eq_nil_of_length_eq_zero h))
  · rw [Lib.decDigits_length, nDigits_le (by decide)]
    have : (10 : Nat) ^ 16 = 10000000000000000 := by decide
    omega
theorem digVal_lt : ∀ (j : Nat) (l : List UInt8), l.length = j → (∀ c ∈ l, 48 ≤ c.toNat ∧ c.toNat ≤ 57) → digVal l < 10 ^ j
  | 0, l, hl, _ => by
    obtain rfl := List.eq_nil_of_length_eq_zero hl
    decide
  | j + 1, l, hl, hd => by
    have hne : l ≠ [] := by intro e; rw [e] at hl; simp at hl
    have e := List.dropLast_concat_getLast hne
    have h1 := digVal_lt j l.dropLast (by rw [List.length_dropLast]; omega) (fun c hc => hd c (List.dropLast_subset _ hc))
    have h2 := hd (l.getLast hne) (List.getLast_mem hne)
    rw [← e, digVal_snoc, Nat.pow_succ]
    omega
end Go.Proofs.YtilmhemcpgiikaaDoor
/- What ReadNumber answers, told of the bytes. -/
namespace Go.Proofs.YtilmhemcpgiikaaDoor
open Go.ChangeShapes Go.WideShapes Go.ChangeAt Go.RowKit

/-- Is a byte a digit? -/
def isDg (c : UInt8) : Bool := decide (48 ≤ c.toNat ∧ c.toNat ≤ 57)
/-- The digits at a place. -/
def dsAt (l : List UInt8) (p : Nat) : List UInt8 := (l.drop p).takeWhile isDg
/-- The byte at a place, 0 if there is none. -/
def byN (l : List UInt8) (q : Nat) : Nat := match l[q]? with | some c => c.toNat | none => 0
/-- Digits without the noughts ahead. -/
def sigL (l : List UInt8) : List UInt8 := Lib.trimLeftB l 48

theorem byN_lt {l : List UInt8} {q : Nat} (h : byN l q ≠ 0) : q < l.length := by
  unfold byN at h
  cases e : l[q]? with
  | none => rw [e] at h; exact absurd rfl h
  | some c => exact (List.getElem?_eq_some_iff.1 e).1
theorem byN_at {l : List UInt8} {q : Nat} (h : q < l.length) : byN l q = l[q].toNat := by
  unfold byN; rw [List.getElem?_eq_getElem h]
theorem byN_out {l : List UInt8} {q : Nat} (h : l.length ≤ q) : byN l q = 0 := by
  unfold byN; rw [List.getElem?_eq_none h]
theorem byN_256 (l : List UInt8) (q : Nat) : byN l q < 256 := by
  unfold byN
  split
  · exact UInt8.toNat_lt _
  · decide
theorem byN_drop (l : List UInt8) (p j : Nat) : byN (l.drop p) j = byN l (p + j) := by
  unfold byN; rw [List.getElem?_drop]
theorem tw_in : ∀ (m : List UInt8) (j : Nat), j < (m.takeWhile isDg).length → 48 ≤ byN m j ∧ byN m j ≤ 57
  | [], j, h => absurd h (Nat.not_lt_zero _)
  | c :: m, j, h => by
    by_cases hc : isDg c = true
    · rw [List.takeWhile_cons_of_pos hc] at h
      cases j with
      | zero => exact of_decide_eq_true hc
      | succ j =>
        have := tw_in m j (by rw [List.length_cons] at h; omega)
        exact this
    · rw [List.takeWhile_cons_of_neg hc] at h
      exact absurd h (Nat.not_lt_zero _)
theorem tw_end : ∀ (m : List UInt8), ¬ (48 ≤ byN m (m.takeWhile isDg).length ∧ byN m (m.takeWhile isDg).length ≤ 57)
  | [] => by intro h; have := h.1; revert this; decide
  | c :: m => by
    by_cases hc : isDg c = true
    · rw [List.takeWhile_cons_of_pos hc, List.length_cons]
      exact tw_end m
    · rw [List.takeWhile_cons_of_neg hc]
      exact fun h => hc (decide_eq_true h)
theorem dsAt_in {l : List UInt8} {p j : Nat} (h : j < (dsAt l p).length) : (48 ≤ byN l (p + j) ∧ byN l (p + j) ≤ 57) ∧ p + j < l.length := by
  have h1 := tw_in _ _ h
  rw [byN_drop] at h1
  exact ⟨h1, byN_lt (by omega)⟩
theorem dsAt_end (l : List UInt8) (p : Nat) : ¬ (48 ≤ byN l (p + (dsAt l p).length) ∧ byN l (p + (dsAt l p).length) ≤ 57) := by
  have h1 := tw_end (l.drop p)
  rw [byN_drop] at h1
  exact h1
theorem dsAt_le {l : List UInt8} {p : Nat} (hp : p ≤ l.length) : p + (dsAt l p).length ≤ l.length := by
  rcases Nat.eq_zero_or_pos (dsAt l p).length with h | h
  · omega
  · have := (dsAt_in (l := l) (p := p) (j := (dsAt l p).length - 1) (by omega)).2
    omega
theorem dsAt_dig (l : List UInt8) (p : Nat) : ∀ c ∈ dsAt l p, 48 ≤ c.toNat ∧ c.toNat ≤ 57 := fun c h =>
  of_decide_eq_true (List.all_eq_true.1 (List.all_takeWhile (p := isDg) (l := l.drop p)) c h)
theorem dsAt_take (l : List UInt8) (p : Nat) : (l.drop p).take (dsAt l p).length = dsAt l p :=
  (List.prefix_iff_eq_take.1 (List.takeWhile_prefix isDg)).symm
theorem dsAt_cut (l : List UInt8) (p n : Nat) (h : n ≤ (dsAt l p).length) : (l.drop p).take n = (dsAt l p).take n := by
  rw [← dsAt_take l p, List.take_take, Nat.min_eq_left h]
theorem dsAt_head {l : List UInt8} {p : Nat} (h : 0 < (dsAt l p).length) : byN (dsAt l p) 0 = byN l p := by
  have h1 := (dsAt_in h).2
  rw [Nat.add_zero] at h1
  rw [byN_at h, byN_at h1]
  have : (dsAt l p)[0] = l[p] := by
    have e : (dsAt l p)[0]? = (l.drop p)[0]? := by rw [← dsAt_take l p, List.getElem?_take_of_lt h]
    rw [List.getElem?_drop, Nat.add_zero, List.getElem?_eq_getElem h, List.getElem?_eq_getElem h1] at e
    exact Option.some.inj e
  rw [this]
theorem dsAt_nil {l : List UInt8} {p : Nat} : dsAt l p = [] ↔ (dsAt l p).length = 0 := List.length_eq_zero_iff.symm

/-- The last step: too many digits, or the number. -/
def rn4 (ng : Bool) (ds : List UInt8) (fr : Nat) (ex : List UInt8) (dn : Bool) (q : Nat) : Int × Int × Int × Int :=
  if 17 < (sigL ds).length ∨ 3 < ex.length then (0, 0, (q : Int), 2)
  else ((if ng then -(digVal ds : Int) else (digVal ds : Int)), (if dn then -(digVal ex : Int) else (digVal ex : Int)) - (fr : Int), (q : Int), 0)
/-- With the exponent. -/
def rn3 (l : List UInt8) (ng : Bool) (ds : List UInt8) (fr q : Nat) : Int × Int × Int × Int :=
  if byN l q = 101 ∨ byN l q = 69 then
    (if dsAt l (if byN l (q + 1) = 45 ∨ byN l (q + 1) = 43 then q + 2 else q + 1) = [] then (0, 0, (((if byN l (q + 1) = 45 ∨ byN l (q + 1) = 43 then q + 2 else q + 1 : Nat)) : Int), 1)
     else rn4 ng ds fr (dsAt l (if byN l (q + 1) = 45 ∨ byN l (q + 1) = 43 then q + 2 else q + 1)) (decide (byN l (q + 1) = 45)) ((if byN l (q + 1) = 45 ∨ byN l (q + 1) = 43 then q + 2 else q + 1) + (dsAt l (if byN l (q + 1) = 45 ∨ byN l (q + 1) = 43 then q + 2 else q + 1)).length))
  else rn4 ng ds fr [] false q
/-- With the fraction. -/
def rn2 (l : List UInt8) (ng : Bool) (wh : List UInt8) (q : Nat) : Int × Int × Int × Int :=
  if byN l q = 46 then
    (if dsAt l (q + 1) = [] then (0, 0, ((q + 1 : Nat) : Int), 1) else rn3 l ng (wh ++ dsAt l (q + 1)) (dsAt l (q + 1)).length (q + 1 + (dsAt l (q + 1)).length))
  else rn3 l ng wh 0 q
/-- The whole part. -/
def rn1 (l : List UInt8) (ng : Bool) (p : Nat) : Int × Int × Int × Int :=
  if dsAt l p = [] then (0, 0, (p : Int), 1)
  else if byN l p = 48 then rn2 l ng [48] (p + 1) else rn2 l ng (dsAt l p) (p + (dsAt l p).length)
/-- What ReadNumber answers. -/
def rnF (l : List UInt8) (p : Int) : Int × Int × Int × Int :=
  if p < 0 ∨ (l.length : Int) < p then (0, 0, p, 1)
  else if byN l p.toNat = 45 then rn1 l true (p.toNat + 1) else rn1 l false p.toNat

theorem sigL_nil : sigL [] = [] := rfl
theorem sigL_cons (c : UInt8) (l : List UInt8) : sigL (c :: l) = if c = 48 then sigL l else c :: l := by
  unfold sigL Lib.trimLeftB
  rw [List.dropWhile_cons]
  by_cases h : c = 48
  · subst h; rfl
  · rw [if_neg h, if_neg (by simpa using h)]
theorem sigL_snoc : ∀ (l : List UInt8) (c : UInt8), (sigL (l ++ [c])).length = if c ≠ 48 ∨ 0 < (sigL l).length then (sigL l).length + 1 else (sigL l).length
  | [], c => by
    rw [List.nil_append, sigL_cons, sigL_nil]
    by_cases h : c = 48
    · simp [h]
    · simp [h]
  | d :: l, c => by
    rw [List.cons_append, sigL_cons, sigL_cons]
    by_cases h : d = 48
    · rw [if_pos h, if_pos h]; exact sigL_snoc l c
    · rw [if_neg h, if_neg h]; simp
theorem sigL_le : ∀ (l : List UInt8), (sigL l).length ≤ l.length
  | [] => Nat.le_refl _
  | d :: l => by
    rw [sigL_cons]
    split
    · have := sigL_le l; rw [List.length_cons]; omega
    · exact Nat.le_refl _
theorem sigL_mono : ∀ (a b : List UInt8), (sigL a).length ≤ (sigL (a ++ b)).length
  | [], b => Nat.zero_le _
  | d :: a, b => by
    rw [List.cons_append, sigL_cons, sigL_cons]
    split
    · exact sigL_mono a b
    · simp
theorem sigL_val : ∀ (l : List UInt8), digVal (sigL l) = digVal l
  | [] => rfl
  | d :: l => by
    rw [sigL_cons]
    split
    · rename_i h
      rw [sigL_val l, h]; rfl
    · rfl
theorem sigL_dig {l : List UInt8} (h : ∀ c ∈ l, 48 ≤ c.toNat ∧ c.toNat ≤ 57) : ∀ c ∈ sigL l, 48 ≤ c.toNat ∧ c.toNat ≤ 57 := fun c hc =>
  h c ((List.dropWhile_suffix _).subset hc)
theorem sig_lt {l : List UInt8} (h : ∀ c ∈ l, 48 ≤ c.toNat ∧ c.toNat ≤ 57) {k : Nat} (hk : (sigL l).length ≤ k) : digVal l < 10 ^ k := by
  rw [← sigL_val]
  exact Nat.lt_of_lt_of_le (digVal_lt _ _ rfl (sigL_dig h)) (Nat.pow_le_pow_right (by decide) hk)
end Go.Proofs.YtilmhemcpgiikaaDoor
/- Plain laws of FnDecs and FnReads: a number's text is read back; what was read is read again alone; of two numbers one is less. -/
namespace Go.Proofs.YtilmhemcpgiikaaDoor
open Go.ChangeShapes Go.WideShapes Go.ChangeAt Go.RowKit

theorem tw_all : ∀ (W R : List UInt8), (∀ c ∈ W, 48 ≤ c.toNat ∧ c.toNat ≤ 57) → ¬ (48 ≤ byN R 0 ∧ byN R 0 ≤ 57) → (W ++ R).takeWhile isDg = W
  | [], R, _, hR => by
    cases R with
    | nil => rfl
    | cons c R => exact List.takeWhile_cons_of_neg (fun h => hR (of_decide_eq_true h))
  | c :: W, R, hW, hR => by
    have hc : isDg c = true := decide_eq_true (hW c (List.mem_cons_self ..))
    rw [List.cons_append, List.takeWhile_cons_of_pos hc, tw_all W R (fun d hd => hW d (List.mem_cons_of_mem _ hd)) hR]
theorem dsAt_app {A W R : List UInt8} {p : Nat} (hp : p = A.length) (hW : ∀ c ∈ W, 48 ≤ c.toNat ∧ c.toNat ≤ 57) (hR : ¬ (48 ≤ byN R 0 ∧ byN R 0 ≤ 57)) : dsAt (A ++ (W ++ R)) p = W := by
  unfold dsAt; rw [hp, List.drop_left]; exact tw_all W R hW hR
theorem byN_app {A R : List UInt8} {p : Nat} (hp : p = A.length) : byN (A ++ R) p = byN R 0 := by
  have := byN_drop (A ++ R) p 0
  rw [hp, List.drop_left, Nat.add_zero] at this
  rw [hp]; exact this.symm
theorem byN_cons (c : UInt8) (R : List UInt8) : byN (c :: R) 0 = c.toNat := rfl
theorem byN_nil (q : Nat) : byN [] q = 0 := rfl
theorem decDigits_lead (u : Nat) : Lib.decDigits u = [48] ∨ (u ≠ 0 ∧ byN (Lib.decDigits u) 0 ≠ 48) := by
  by_cases h0 : u = 0
  · left; rw [h0, decDigits_low (by decide)]; rfl
  · right
    refine ⟨h0, ?_⟩
    have : ∀ k u, u ≤ k → u ≠ 0 → byN (Lib.decDigits u) 0 ≠ 48 := by
      intro k
      induction k with
      | zero => intro u h1 h2; omega
      | succ k ih =>
        intro u h1 h2
        by_cases h : u < 10
        · rw [decDigits_low h, byN_cons, UInt8.toNat_ofNat']
          omega
        · rw [decDigits_step h]
          obtain ⟨c, r, hc, -⟩ := decDigits_head (u / 10)
          have := ih (u / 10) (by omega) (by omega)
          rw [hc] at this ⊢
          exact this
    exact this u u (Nat.le_refl _) h0

/-- A number's text: sign, whole part, fraction. -/
theorem rn_text (ng : Bool) (W F : List UInt8) (hW : ∀ c ∈ W, 48 ≤ c.toNat ∧ c.toNat ≤ 57) (hF : ∀ c ∈ F, 48 ≤ c.toNat ∧ c.toNat ≤ 57) (hne : W ≠ []) (hl : W = [48] ∨ byN W 0 ≠ 48) (hs : (sigL (W ++ F)).length ≤ 17) :
    rnF ((if ng = true then [45] else []) ++ (W ++ (if F = [] then [] else 46 :: F))) 0 = ((if ng = true then -(digVal (W ++ F) : Int) else (digVal (W ++ F) : Int)), -(F.length : Int), ((((if ng = true then [45] else []) ++ (W ++ (if F = [] then [] else 46 :: F))).length : Nat) : Int), 0) := by
  obtain ⟨R, hR⟩ : ∃ R, R = if F = [] then [] else (46 : UInt8) :: F := ⟨_, rfl⟩
  obtain ⟨A, hA⟩ : ∃ A : List UInt8, A = if ng = true then [45] else [] := ⟨_, rfl⟩
  rw [← hR, ← hA]
  have hR0 : ¬ (48 ≤ byN R 0 ∧ byN R 0 ≤ 57) := by
    rw [hR]; split
    · rw [byN_nil]; omega
    · rw [byN_cons]; intro h; have : (46 : UInt8).toNat = 46 := rfl; omega
  obtain ⟨c0, W', hWc⟩ := List.exists_cons_of_ne_nil hne
  have hc0 := hW c0 (by rw [hWc]; exact List.mem_cons_self ..)
  have hds := dsAt_app (A := A) (R := R) rfl hW hR0
  have hb0 : byN (A ++ (W ++ R)) A.length = c0.toNat := by rw [byN_app rfl, hWc]; rfl
  have h2 : rn2 (A ++ (W ++ R)) ng W (A.length + W.length) = ((if ng = true then -(digVal (W ++ F) : Int) else (digVal (W ++ F) : Int)), -(F.length : Int), (((A ++ (W ++ R)).length : Nat) : Int), 0) := by
    have e3 : ∀ ds fr, (sigL ds).length ≤ 17 → rn3 (A ++ (W ++ R)) ng ds fr (A ++ (W ++ R)).length = ((if ng = true then -(digVal ds : Int) else (digVal ds : Int)), -(fr : Int), (((A ++ (W ++ R)).length : Nat) : Int), 0) := by
      intro ds fr h17
      unfold rn3
      rw [byN_out (Nat.le_refl _), if_neg (by omega)]
      unfold rn4
      rw [if_neg (by rw [List.length_nil]; omega)]
      have : digVal [] = 0 := rfl
      rw [this]
      simp
    have hb1 : byN (A ++ (W ++ R)) (A.length + W.length) = byN R 0 := by
      rw [← List.append_assoc]; exact byN_app (by rw [List.length_append])
    unfold rn2
    by_cases hFe : F = []
    · have hRe : R = [] := by rw [hR, if_pos hFe]
      rw [hb1, hRe, byN_nil, if_neg (by decide)]
      have := e3 W 0 (by rw [hFe, List.append_nil] at hs; exact hs)
      rw [hRe] at this
      have hl2 : (A ++ (W ++ [])).length = A.length + W.length := by simp
      rw [hl2] at this
      rw [this, hFe, hl2]; simp
    · have hRe : R = 46 :: F := by rw [hR, if_neg hFe]
      have hds2 : dsAt (A ++ (W ++ R)) (A.length + W.length + 1) = F := by
        have e : A ++ (W ++ R) = (A ++ W ++ [46]) ++ (F ++ []) := by rw [hRe]; simp
        rw [e]
        exact dsAt_app (by simp; omega) hF (by rw [byN_nil]; omega)
      have hl2 : A.length + W.length + 1 + F.length = (A ++ (W ++ R)).length := by rw [hRe]; simp; omega
      rw [hb1, hds2, if_pos (by rw [hRe]; rfl), if_neg hFe, hl2]
      exact e3 (W ++ F) F.length hs
  have h1 : rn1 (A ++ (W ++ R)) ng A.length = ((if ng = true then -(digVal (W ++ F) : Int) else (digVal (W ++ F) : Int)), -(F.length : Int), (((A ++ (W ++ R)).length : Nat) : Int), 0) := by
    unfold rn1
    rw [hds, if_neg hne, hb0]
    rcases hl with h | h
    · rw [h] at hWc
      obtain ⟨rfl, -⟩ := List.cons.inj hWc
      rw [if_pos (by decide)]
      rw [h] at h2
      rw [h]; exact h2
    · rw [hWc, byN_cons] at h
      rw [if_neg h]; exact h2
  unfold rnF
  rw [if_neg (by omega), show (0 : Int).toNat = 0 from rfl]
  cases ng with
  | true =>
    have hA1 : A = [45] := by rw [hA]; rfl
    rw [if_pos (by rw [hA1]; rfl)]
    rw [hA1] at h1 ⊢
    exact h1
  | false =>
    have hA1 : A = [] := by rw [hA]; rfl
    rw [hA1] at hb0 h1 ⊢
    rw [List.length_nil] at hb0 h1
    rw [if_neg (by rw [hb0]; omega)]
    exact h1

theorem sigL_rep : ∀ (k : Nat) (l : List UInt8), sigL (List.replicate k 48 ++ l) = sigL l
  | 0, l => rfl
  | k + 1, l => by rw [List.replicate_succ, List.cons_append, sigL_cons, if_pos rfl, sigL_rep k l]
theorem padZ_sig (L : Nat) (s : List UInt8) : sigL (padZ L s) = sigL s := sigL_rep _ _
theorem padZ_dig {L : Nat} {s : List UInt8} (h : ∀ c ∈ s, 48 ≤ c.toNat ∧ c.toNat ≤ 57) : ∀ c ∈ padZ L s, 48 ≤ c.toNat ∧ c.toNat ≤ 57 := by
  intro c hc
  unfold padZ at hc
  rcases List.mem_append.1 hc with h1 | h1
  · rw [(List.mem_replicate.1 h1).2]; decide
  · exact h c h1
theorem sgn_abs (n : Int) : (if decide (n < 0) = true then -((n.natAbs : Nat) : Int) else ((n.natAbs : Nat) : Int)) = n := by
  by_cases h : n < 0
  · rw [if_pos (decide_eq_true h)]; omega
  · rw [if_neg (by simpa using h)]; omega
theorem sign_ite (n : Int) : (if decide (n < 0) = true then [45] else []) = if n < 0 then [(45 : UInt8)] else [] := by
  by_cases h : n < 0
  · rw [if_pos h, if_pos (decide_eq_true h)]
  · rw [if_neg h, if_neg (by simpa using h)]

/-- A valid number is read back of its text. -/
theorem rn_back {n x : Int} (h : decOkB n x = true) : rnF (decTextL n x) 0 = (n, x, (((decTextL n x).length : Nat) : Int), 0) := by
  have hdig := decDigits_dig n.natAbs
  have hval := digVal_decDigits n.natAbs
  have hne := decDigits_ne n.natAbs
  have hlead := decDigits_lead n.natAbs
  have hlen : (Lib.decDigits n.natAbs).length ≤ 17 := by
    rw [Lib.decDigits_length, nDigits_le (by decide), p17]
    rcases decOkB_iff.1 h with h | h
    · omega
    · omega
  by_cases hx : x = 0
  · subst hx
    rw [decTextL_int h]
    have e : Lib.itoa n = (if decide (n < 0) = true then [45] else []) ++ (Lib.decDigits n.natAbs ++ (if ([] : List UInt8) = [] then [] else 46 :: [])) := by
      rw [if_pos rfl, List.append_nil, sign_ite]
      by_cases hn : n < 0
      · rw [itoa_neg hn, if_pos hn]; rfl
      · rw [itoa_pos (by omega), if_neg hn]; rfl
    have := rn_text (decide (n < 0)) (Lib.decDigits n.natAbs) [] hdig (by intro c hc; cases hc) hne (hlead.imp id And.right) (by rw [List.append_nil]; have := sigL_le (Lib.decDigits n.natAbs); omega)
    rw [← e, List.append_nil, hval, sgn_abs] at this
    rw [this]; rfl
  · obtain ⟨k, hk⟩ : ∃ k : Nat, x = -(k : Int) := ⟨(-x).toNat, by rcases decOkB_iff.1 h with h | h <;> omega⟩
    have hk1 : 1 ≤ k := by rcases decOkB_iff.1 h with h | h <;> omega
    have hn0 : n.natAbs ≠ 0 := by rcases decOkB_iff.1 h with h | h <;> omega
    rw [decTextL_pt h hx hk]
    obtain ⟨S, hS⟩ : ∃ S, S = padZ (1 + k) (Lib.decDigits n.natAbs) := ⟨_, rfl⟩
    have hSd : ∀ c ∈ S, 48 ≤ c.toNat ∧ c.toNat ≤ 57 := by rw [hS]; exact padZ_dig hdig
    have hSl : S.length = max (1 + k) (Lib.decDigits n.natAbs).length := by rw [hS, padZ_length]
    have hSs : (sigL S).length ≤ 17 := by rw [hS, padZ_sig]; have := sigL_le (Lib.decDigits n.natAbs); omega
    have hSv : digVal S = n.natAbs := by rw [← sigL_val, hS, padZ_sig, sigL_val, hval]
    have hF : (S.drop (S.length - k)).length = k := by rw [List.length_drop]; omega
    have hFne : S.drop (S.length - k) ≠ [] := by intro e; rw [e] at hF; simp at hF; omega
    have hWl : (S.take (S.length - k)).length = S.length - k := by rw [List.length_take]; omega
    have hWne : S.take (S.length - k) ≠ [] := by intro e; rw [e] at hWl; simp at hWl; omega
    have hWlead : S.take (S.length - k) = [48] ∨ byN (S.take (S.length - k)) 0 ≠ 48 := by
      by_cases hc : 1 + k ≤ (Lib.decDigits n.natAbs).length
      · have hSe : S = Lib.decDigits n.natAbs := by rw [hS, padZ_done hc]
        rcases hlead with h1 | h1
        · rw [h1] at hc; simp at hc; omega
        · right
          have e : byN (S.take (S.length - k)) 0 = byN S 0 := by
            unfold byN; rw [List.getElem?_take_of_lt (by omega)]
          rw [e, hSe]; exact h1.2
      · left
        have e1 : S.length - k = 1 := by omega
        have hp : S = List.replicate (1 + k - (Lib.decDigits n.natAbs).length) 48 ++ Lib.decDigits n.natAbs := hS
        rw [e1, hp, show 1 + k - (Lib.decDigits n.natAbs).length = (k - (Lib.decDigits n.natAbs).length) + 1 by omega, List.replicate_succ]
        rfl
    have e : pointed n k S = (if decide (n < 0) = true then [45] else []) ++ (S.take (S.length - k) ++ (if S.drop (S.length - k) = [] then [] else 46 :: S.drop (S.length - k))) := by
      rw [if_neg hFne, sign_ite]; rfl
    have := rn_text (decide (n < 0)) (S.take (S.length - k)) (S.drop (S.length - k)) (fun c hc => hSd c (List.mem_of_mem_take hc)) (fun c hc => hSd c (List.mem_of_mem_drop hc)) hWne hWlead (by rw [List.take_append_drop]; exact hSs)
    rw [← e, List.take_append_drop, hSv, sgn_abs, hF, ← hk] at this
    rw [← hS]; exact this

/-- A valid number is made of itself. -/
theorem decNew_back {n x : Int} (h : decOkB n x = true) : decNewF n x = (n, x, true) := by
  unfold decNewF
  rcases decOkB_iff.1 h with ⟨rfl, h1, h2⟩ | ⟨h1, h2, h3, h4, h5⟩
  · rw [if_pos ⟨dgs_17.2 (by omega), by omega, by omega⟩]
    by_cases h0 : n = 0
    · subst h0; rfl
    · rw [if_neg h0, if_pos (by omega)]
      have e : stripD (-(0 : Int)).toNat n 0 = (n, 0) := rfl
      rw [e]
      exact if_pos h
  · rw [if_pos ⟨dgs_17.2 ⟨h3, h4⟩, by omega, by omega⟩, if_neg (by omega), if_pos (by omega), stripD_no h5]
    exact if_pos h
/-- What DecNew makes is valid. -/
theorem decNew_ok {n x : Int} (h : (decNewF n x).2.2 = true) : decOkB (decNewF n x).1 (decNewF n x).2.1 = true := by
  unfold decNewF at h ⊢
  split at h
  · rename_i h0
    rw [if_pos h0]
    split at h
    · rename_i h1
      rw [if_pos h1]; rfl
    · rename_i h1
      rw [if_neg h1]
      split at h
      · rename_i h2
        rw [if_pos h2]
        split at h
        · rename_i h3
          rw [if_pos h3]; exact h3
        · cases h
      · rename_i h2
        rw [if_neg h2]
        split at h
        · rename_i h3
          rw [if_pos h3]
          exact decOkB_iff.2 (.inl ⟨rfl, h3⟩)
        · cases h
  · cases h

/-- Of two valid numbers that are not the same, just one is less. -/
theorem decUp_inj {n x m y : Int} (h : decOkB n x = true) (h' : decOkB m y = true) (e : decUp n x = decUp m y) : n = m ∧ x = y := by
  have key : ∀ {n x m y : Int}, decOkB n x = true → decOkB m y = true → x ≤ y → decUp n x = decUp m y → n = m ∧ x = y := by
    intro n x m y h h' hxy e
    have h1 := decOkB_iff.1 h
    have h2 := decOkB_iff.1 h'
    unfold decUp at e
    obtain ⟨d, hd⟩ : ∃ d : Nat, y = x + d := ⟨(y - x).toNat, by omega⟩
    have hp : (10 : Int) ^ (16 + y).toNat = 10 ^ d * 10 ^ (16 + x).toNat := by
      rw [show (16 + y).toNat = d + (16 + x).toNat by omega, Int.pow_add]
    rw [hp, ← Int.mul_assoc] at e
    have hpos : (0 : Int) < 10 ^ (16 + x).toNat := Int.pow_pos (by decide)
    have e2 : n = m * 10 ^ d := Int.eq_of_mul_eq_mul_right (by omega) e
    cases d with
    | zero => exact ⟨by rw [e2]; simp, by omega⟩
    | succ d =>
      exfalso
      have : n % 10 = 0 := by rw [e2, Int.pow_succ, ← Int.mul_assoc]; exact Int.mul_emod_left _ _
      omega
  by_cases hxy : x ≤ y
  · exact key h h' hxy e
  · obtain ⟨a, b⟩ := key h' h (by omega) e.symm
    exact ⟨a.symm, b.symm⟩
theorem less_one {n x m y : Int} (h : decOkB n x = true) (h' : decOkB m y = true) : (lessDecB n x m y || lessDecB m y n x) = !(decide (n = m ∧ x = y)) := by
  unfold lessDecB
  rw [h, h']
  simp only [Bool.true_and]
  by_cases e : n = m ∧ x = y
  · obtain ⟨rfl, rfl⟩ := e
    simp
  · have hne : decUp n x ≠ decUp m y := fun q => e (decUp_inj h h' q)
    rw [decide_eq_false e]
    rcases Int.lt_or_gt_of_ne hne with q | q
    · rw [decide_eq_true q]; simp
    · rw [decide_eq_true (show decUp m y < decUp n x from q)]; simp
theorem less_both {n x m y : Int} : (lessDecB n x m y && lessDecB m y n x) = false := by
  unfold lessDecB
  cases decOkB n x <;> cases decOkB m y <;> simp
  intro q; omega

/-! What was read is read again, alone. -/
theorem tw_take : ∀ (k : Nat) (l : List UInt8), (l.take k).takeWhile isDg = (l.takeWhile isDg).take k
  | 0, l => by simp
  | k + 1, [] => by simp
  | k + 1, c :: l => by
    rw [List.take_succ_cons]
    by_cases h : isDg c = true
    · rw [List.takeWhile_cons_of_pos h, List.takeWhile_cons_of_pos h, List.take_succ_cons, tw_take k l]
    · rw [List.takeWhile_cons_of_neg h, List.takeWhile_cons_of_neg h, List.take_nil]
/-- The piece from i up to z. -/
def cutL (l : List UInt8) (i z : Nat) : List UInt8 := (l.drop i).take (z - i)
theorem dsAt_cutL (l : List UInt8) (i z j : Nat) : dsAt (cutL l i z) j = (dsAt l (i + j)).take (z - i - j) := by
  unfold dsAt cutL
  rw [List.drop_take, List.drop_drop, tw_take]
theorem byN_cutL (l : List UInt8) (i z j : Nat) : byN (cutL l i z) j = if j < z - i then byN l (i + j) else 0 := by
  unfold byN cutL
  by_cases h : j < z - i
  · rw [if_pos h, List.getElem?_take_of_lt h, List.getElem?_drop]
  · rw [if_neg h, List.getElem?_eq_none (by rw [List.length_take]; omega)]
theorem dsAt_cut_eq {l : List UInt8} {i z j : Nat} (h : i + j + (dsAt l (i + j)).length ≤ z) : dsAt (cutL l i z) j = dsAt l (i + j) := by
  rw [dsAt_cutL, List.take_of_length_le (by omega)]

theorem rn4_at {ng dn : Bool} {ds ex : List UInt8} {fr q : Nat} {n x z : Int} (h : rn4 ng ds fr ex dn q = (n, x, z, 0)) : z = q ∧ ∀ q', rn4 ng ds fr ex dn q' = (n, x, (q' : Int), 0) := by
  unfold rn4 at h ⊢
  split at h
  · simp at h
  · rename_i hc
    simp only [Prod.mk.injEq] at h
    obtain ⟨h1, h2, h3, -⟩ := h
    exact ⟨h3.symm, fun q' => by rw [if_neg hc, h1, h2]⟩
theorem rn3_at {l : List UInt8} {ng : Bool} {ds : List UInt8} {fr i j : Nat} {n x z : Int} (h : rn3 l ng ds fr (i + j) = (n, x, z, 0)) :
    ∃ Z : Nat, z = (Z : Int) ∧ i + j ≤ Z ∧ rn3 (cutL l i Z) ng ds fr j = (n, x, ((Z - i : Nat) : Int), 0) := by
  unfold rn3 at h
  split at h
  · rename_i h1
    obtain ⟨g, hg⟩ : ∃ g, g = if byN l (i + j + 1) = 45 ∨ byN l (i + j + 1) = 43 then 2 else 1 := ⟨_, rfl⟩
    have hq : (if byN l (i + j + 1) = 45 ∨ byN l (i + j + 1) = 43 then i + j + 2 else i + j + 1) = i + (j + g) := by rw [hg]; split <;> omega
    rw [hq] at h
    split at h
    · simp at h
    · rename_i h2
      obtain ⟨hz, h4⟩ := rn4_at h
      have hpos : 0 < (dsAt l (i + (j + g))).length := List.length_pos_iff.2 h2
      have hg1 : 1 ≤ g := by rw [hg]; split <;> omega
      refine ⟨i + (j + g) + (dsAt l (i + (j + g))).length, hz, by omega, ?_⟩
      obtain ⟨Z, hZ⟩ : ∃ Z, Z = i + (j + g) + (dsAt l (i + (j + g))).length := ⟨_, rfl⟩
      rw [← hZ]
      have b1 : byN (cutL l i Z) j = byN l (i + j) := by rw [byN_cutL, if_pos (by omega)]
      have b2 : byN (cutL l i Z) (j + 1) = byN l (i + j + 1) := by rw [byN_cutL, if_pos (by omega), Nat.add_assoc]
      have hq2 : (if byN l (i + j + 1) = 45 ∨ byN l (i + j + 1) = 43 then j + 2 else j + 1) = j + g := by rw [hg]; split <;> omega
      unfold rn3
      rw [b1, b2, if_pos h1, hq2, dsAt_cut_eq (by omega), if_neg h2, h4]
      congr 3
      omega
  · rename_i h1
    obtain ⟨hz, h4⟩ := rn4_at h
    refine ⟨i + j, hz, Nat.le_refl _, ?_⟩
    unfold rn3
    have b1 : byN (cutL l i (i + j)) j = 0 := by rw [byN_cutL, if_neg (by omega)]
    rw [b1, if_neg (by omega), h4]
    congr 3
    omega
theorem rn2_at {l : List UInt8} {ng : Bool} {wh : List UInt8} {i j : Nat} {n x z : Int} (h : rn2 l ng wh (i + j) = (n, x, z, 0)) :
    ∃ Z : Nat, z = (Z : Int) ∧ i + j ≤ Z ∧ rn2 (cutL l i Z) ng wh j = (n, x, ((Z - i : Nat) : Int), 0) := by
  unfold rn2 at h
  split at h
  · rename_i h1
    split at h
    · simp at h
    · rename_i h2
      have e : i + j + 1 + (dsAt l (i + j + 1)).length = i + (j + 1 + (dsAt l (i + j + 1)).length) := by omega
      rw [e] at h
      obtain ⟨Z, hz, hle, h3⟩ := rn3_at h
      refine ⟨Z, hz, by omega, ?_⟩
      unfold rn2
      have b1 : byN (cutL l i Z) j = byN l (i + j) := by rw [byN_cutL, if_pos (by omega)]
      have hpos : 0 < (dsAt l (i + j + 1)).length := List.length_pos_iff.2 h2
      have d1 : dsAt (cutL l i Z) (j + 1) = dsAt l (i + j + 1) := by
        have := dsAt_cut_eq (l := l) (i := i) (z := Z) (j := j + 1) (by rw [show i + (j + 1) = i + j + 1 by omega]; omega)
        rw [this, show i + (j + 1) = i + j + 1 by omega]
      rw [b1, if_pos h1, d1, if_neg h2]
      exact h3
  · rename_i h1
    obtain ⟨Z, hz, hle, h3⟩ := rn3_at h
    refine ⟨Z, hz, hle, ?_⟩
    unfold rn2
    have b1 : byN (cutL l i Z) j ≠ 46 := by
      rw [byN_cutL]; split
      · exact h1
      · decide
    rw [if_neg b1]; exact h3
theorem rn1_at {l : List UInt8} {ng : Bool} {i j : Nat} {n x z : Int} (h : rn1 l ng (i + j) = (n, x, z, 0)) :
    ∃ Z : Nat, z = (Z : Int) ∧ i + j < Z ∧ rn1 (cutL l i Z) ng j = (n, x, ((Z - i : Nat) : Int), 0) := by
  unfold rn1 at h
  split at h
  · simp at h
  · rename_i h1
    have hpos : 0 < (dsAt l (i + j)).length := List.length_pos_iff.2 h1
    split at h
    · rename_i h2
      rw [Nat.add_assoc] at h
      obtain ⟨Z, hz, hle, h3⟩ := rn2_at h
      refine ⟨Z, hz, by omega, ?_⟩
      unfold rn1
      have b1 : byN (cutL l i Z) j = byN l (i + j) := by rw [byN_cutL, if_pos (by omega)]
      have d1 : dsAt (cutL l i Z) j ≠ [] := by
        rw [dsAt_cutL]
        intro e
        have := congrArg List.length e
        rw [List.length_take, List.length_nil] at this
        omega
      rw [if_neg d1, b1, if_pos h2]
      exact h3
    · rename_i h2
      rw [Nat.add_assoc] at h
      obtain ⟨Z, hz, hle, h3⟩ := rn2_at h
      refine ⟨Z, hz, by omega, ?_⟩
      unfold rn1
      have b1 : byN (cutL l i Z) j = byN l (i + j) := by rw [byN_cutL, if_pos (by omega)]
      rw [dsAt_cut_eq (by omega), if_neg h1, b1, if_neg h2]
      exact h3
/-- A number that was read is read again, alone. -/
theorem rn_again {l : List UInt8} {p : Int} {n x z : Int} (h : rnF l p = (n, x, z, 0)) :
    ∃ i Z : Nat, p = (i : Int) ∧ z = (Z : Int) ∧ i ≤ Z ∧ rnF (cutL l i Z) 0 = (n, x, z - p, 0) := by
  unfold rnF at h
  split at h
  · simp at h
  · rename_i h0
    obtain ⟨i, rfl⟩ : ∃ i : Nat, p = (i : Int) := ⟨p.toNat, by omega⟩
    rw [show ((i : Int)).toNat = i from rfl] at h
    split at h
    · rename_i h1
      obtain ⟨Z, hz, hle, h3⟩ := rn1_at h
      refine ⟨i, Z, rfl, hz, by omega, ?_⟩
      unfold rnF
      have b1 : byN (cutL l i Z) 0 = byN l i := by rw [byN_cutL, if_pos (by omega), Nat.add_zero]
      rw [if_neg (by omega), show (0 : Int).toNat = 0 from rfl, b1, if_pos h1, Nat.zero_add, h3, hz]
      congr 3
      omega
    · rename_i h1
      obtain ⟨Z, hz, hle, h3⟩ := rn1_at (j := 0) h
      refine ⟨i, Z, rfl, hz, by omega, ?_⟩
      unfold rnF
      have b1 : byN (cutL l i Z) 0 = byN l i := by rw [byN_cutL, if_pos (by omega), Nat.add_zero]
      rw [if_neg (by omega), show (0 : Int).toNat = 0 from rfl, b1, if_neg h1, h3, hz]
      congr 3
      omega
theorem rn4_no {ng dn : Bool} {ds ex : List UInt8} {fr q : Nat} (h : (rn4 ng ds fr ex dn q).2.2.2 ≠ 0) : (rn4 ng ds fr ex dn q).1 = 0 ∧ (rn4 ng ds fr ex dn q).2.1 = 0 := by
  unfold rn4 at h ⊢
  split
  · exact ⟨rfl, rfl⟩
  · rename_i hc; rw [if_neg hc] at h; exact absurd rfl h
theorem rn3_no {l : List UInt8} {ng : Bool} {ds : List UInt8} {fr q : Nat} (h : (rn3 l ng ds fr q).2.2.2 ≠ 0) : (rn3 l ng ds fr q).1 = 0 ∧ (rn3 l ng ds fr q).2.1 = 0 := by
  unfold rn3 at h ⊢
  by_cases h1 : byN l q = 101 ∨ byN l q = 69
  · rw [if_pos h1] at h ⊢
    generalize (if byN l (q + 1) = 45 ∨ byN l (q + 1) = 43 then q + 2 else q + 1) = r at *
    by_cases h2 : dsAt l r = []
    · rw [if_pos h2]; exact ⟨rfl, rfl⟩
    · rw [if_neg h2] at h ⊢; exact rn4_no h
  · rw [if_neg h1] at h ⊢; exact rn4_no h
theorem rn2_no {l : List UInt8} {ng : Bool} {wh : List UInt8} {q : Nat} (h : (rn2 l ng wh q).2.2.2 ≠ 0) : (rn2 l ng wh q).1 = 0 ∧ (rn2 l ng wh q).2.1 = 0 := by
  unfold rn2 at h ⊢
  by_cases h1 : byN l q = 46
  · rw [if_pos h1] at h ⊢
    by_cases h2 : dsAt l (q + 1) = []
    · rw [if_pos h2]; exact ⟨rfl, rfl⟩
    · rw [if_neg h2] at h ⊢; exact rn3_no h
  · rw [if_neg h1] at h ⊢; exact rn3_no h
theorem rn1_no {l : List UInt8} {ng : Bool} {q : Nat} (h : (rn1 l ng q).2.2.2 ≠ 0) : (rn1 l ng q).1 = 0 ∧ (rn1 l ng q).2.1 = 0 := by
  unfold rn1 at h ⊢
  by_cases h1 : dsAt l q = []
  · rw [if_pos h1]; exact ⟨rfl, rfl⟩
  · rw [if_neg h1] at h ⊢
    by_cases h2 : byN l q = 48
    · rw [if_pos h2] at h ⊢; exact rn2_no h
    · rw [if_neg h2] at h ⊢; exact rn2_no h
theorem rn_no {l : List UInt8} {p : Int} (h : (rnF l p).2.2.2 ≠ 0) : (rnF l p).1 = 0 ∧ (rnF l p).2.1 = 0 := by
  unfold rnF at h ⊢
  by_cases h1 : p < 0 ∨ (l.length : Int) < p
  · rw [if_pos h1]; exact ⟨rfl, rfl⟩
  · rw [if_neg h1] at h ⊢
    by_cases h2 : byN l p.toNat = 45
    · rw [if_pos h2] at h ⊢; exact rn1_no h
    · rw [if_neg h2] at h ⊢; exact rn1_no h
end Go.Proofs.YtilmhemcpgiikaaDoor
/- Plain laws of FnFlts: a valid number by halves is the nearest to itself; of two one is less. -/
namespace Go.Proofs.YtilmhemcpgiikaaDoor

theorem exact_q {N P A : Nat} {E e : Int} (hP : 0 < P) (hv : N * 2 ^ (-E).toNat = A * (P * 2 ^ E.toNat)) (he : e ≤ E) : qE N P e = A * 2 ^ (E - e).toNat ∧ rE N P e = 0 := by
  have key : N * 2 ^ (-e).toNat = A * 2 ^ (E - e).toNat * (P * 2 ^ e.toNat) := by
    rw [show (-e).toNat = (-E).toNat + ((-e).toNat - (-E).toNat) by omega, Nat.pow_add, ← Nat.mul_assoc, hv,
      show E.toNat = e.toNat + (E.toNat - e.toNat) by omega, show (E - e).toNat = (E.toNat - e.toNat) + ((-e).toNat - (-E).toNat) by omega, Nat.pow_add, Nat.pow_add]
    ac_rfl
  have hpos : 0 < P * 2 ^ e.toNat := Nat.mul_pos hP (Nat.two_pow_pos _)
  unfold qE rE
  rw [key]
  exact ⟨Nat.mul_div_cancel _ hpos, Nat.mul_mod_left _ _⟩
theorem least_e {N P : Nat} : ∀ (k : Nat) {E : Int}, E = -16 + (k : Int) → qE N P E ≤ 65535 → ∃ e : Int, -16 ≤ e ∧ e ≤ E ∧ qE N P e ≤ 65535 ∧ (e = -16 ∨ 65535 < qE N P (e - 1))
  | 0, E, hE, h => ⟨E, by omega, by omega, h, .inl (by omega)⟩
  | k + 1, E, hE, h => by
    by_cases h1 : qE N P (E - 1) ≤ 65535
    · obtain ⟨e, a, b, c⟩ := least_e k (E := E - 1) (by omega) h1
      exact ⟨e, a, by omega, c⟩
    · exact ⟨E, by omega, Int.le_refl _, h, .inr (by omega)⟩
theorem strip_pow {M : Int} (hM : ¬ M % 2 = 0) : ∀ (k f : Nat) (e : Int), k ≤ f → stripF f (M * 2 ^ k) e = (M, e + k)
  | 0, f, e, _ => by rw [Int.pow_zero, Int.mul_one, stripF_odd hM]; simp
  | k + 1, 0, e, h => absurd h (Nat.not_succ_le_zero _)
  | k + 1, f + 1, e, h => by
    have e1 : M * 2 ^ (k + 1) = 2 * (M * 2 ^ k) := by rw [Int.pow_succ]; ac_rfl
    rw [e1, stripF_even (Int.mul_emod_right 2 _), Int.mul_ediv_cancel_left _ (by decide), strip_pow hM k f (e + 1) (by omega)]
    rw [show e + 1 + (k : Int) = e + ((k + 1 : Nat) : Int) by omega]
theorem pow_le16 {k : Nat} (h : k ≤ 16) : (2 : Nat) ^ k ≤ 65536 := Nat.pow_le_pow_right (n := 2) (by decide) h
theorem bump_whole (q d : Nat) (hd : 0 < d) : bump q 0 d = q := by unfold bump; rw [if_neg (by omega)]

/-- The nearest of a number that is one by halves. -/
theorem nearF_exact {n x M E : Int} (hok : decOkB n x = true) (hf : fltOkF M E = true) (hM : M ≠ 0) (hs : n < 0 ↔ M < 0) (hv : n.natAbs * 2 ^ (-E).toNat = M.natAbs * (10 ^ (-x).toNat * 2 ^ E.toNat)) : nearF n x = (M, E, true) := by
  obtain ⟨a, b, c, d, -⟩ := fltOkF_range hf
  have hodd : ¬ M % 2 = 0 := by
    unfold fltOkF at hf
    rw [if_neg hM] at hf
    have := (of_decide_eq_true hf).1
    omega
  have hP : 0 < 10 ^ (-x).toNat := Nat.pow_pos (by decide)
  have hq := exact_q (e := E) hP hv (Int.le_refl _)
  have hqE : qE n.natAbs (10 ^ (-x).toNat) E = M.natAbs := by rw [hq.1, show (E - E).toNat = 0 by omega, Nat.pow_zero, Nat.mul_one]
  obtain ⟨e, e1, e2, e3, e4⟩ := least_e (N := n.natAbs) (P := 10 ^ (-x).toNat) (E + 16).toNat (E := E) (by omega) (by rw [hqE]; omega)
  obtain ⟨h1, h2⟩ := exact_q hP hv e2
  rw [nearF_of hok rfl rfl e3 e1 (by omega) e4, h2, bump_whole _ _ (Nat.mul_pos hP (Nat.two_pow_pos _)), h1]
  rw [h1] at e3
  obtain ⟨k, hk⟩ : ∃ k : Nat, k = (E - e).toNat := ⟨_, rfl⟩
  have hE : E = e + (k : Int) := by omega
  rw [← hk] at e3 ⊢
  have hMp : 1 ≤ M.natAbs := by omega
  have hk16 : k ≤ 16 := by
    refine Nat.le_of_not_lt fun h => ?_
    have h3 : (2 : Nat) ^ 17 ≤ 2 ^ k := Nat.pow_le_pow_right (by decide) (by omega)
    have h4 : 1 * 2 ^ k ≤ M.natAbs * 2 ^ k := Nat.mul_le_mul_right _ hMp
    have h5 : (2 : Nat) ^ 17 = 131072 := by decide
    omega
  have hval : (if n < 0 then -(((M.natAbs * 2 ^ k : Nat)) : Int) else ((M.natAbs * 2 ^ k : Nat) : Int)) = M * 2 ^ k := by
    rw [Int.natCast_mul, Int.natCast_pow]
    by_cases h : M < 0
    · rw [if_pos (hs.2 h), ← Int.neg_mul, show -((M.natAbs : Nat) : Int) = M by omega]; rfl
    · rw [if_neg (fun q => h (hs.1 q)), show ((M.natAbs : Nat) : Int) = M by omega]; rfl
  rw [hval]
  have hr : -65535 ≤ M * 2 ^ k ∧ M * 2 ^ k ≤ 65535 := by
    rw [← hval]
    split <;> omega
  unfold newF
  rw [if_pos ⟨inB_mk (by omega), inB_mk (by omega)⟩, if_neg (by intro h0; rcases Int.mul_eq_zero.1 h0 with h0 | h0
                                                                · exact hM h0
                                                                · exact absurd h0 (Int.ne_of_gt (Int.pow_pos (by decide)))), strip_pow hodd k 60 e (by omega)]
  rw [← hE, if_pos hf]

theorem odd_mul {a b : Int} (ha : a % 2 = 1) (hb : b % 2 = 1) : a * b % 2 = 1 := by
  rw [Int.mul_emod, ha, hb]; decide
theorem five_odd : ∀ k : Nat, (5 : Int) ^ k % 2 = 1
  | 0 => by decide
  | k + 1 => by rw [Int.pow_succ]; exact odd_mul (five_odd k) (by decide)
theorem two_pow_split (k : Nat) : (10 : Nat) ^ k = 5 ^ k * 2 ^ k := by rw [← Nat.mul_pow]

/-- A valid number by halves is valid with a point, and the nearest to itself. -/
theorem nearF_back {M E : Int} (hf : fltOkF M E = true) : nearF (fltDecF M E).1 (fltDecF M E).2 = (M, E, true) := by
  obtain ⟨a, b, c, d, g⟩ := fltOkF_range hf
  by_cases hM : M = 0
  · subst hM
    have hE : E = 0 := by
      unfold fltOkF at hf; rw [if_pos rfl] at hf; simpa using hf
    subst hE
    decide
  · by_cases hE : 0 ≤ E
    · have e1 : fltDecF M E = (M * 2 ^ E.toNat, 0) := by unfold fltDecF; rw [if_pos hf, if_pos hE]
      have hok := fltDecF_ok M E
      rw [e1] at hok ⊢
      refine nearF_exact hok hf hM ?_ ?_
      · have hp : (0 : Int) < 2 ^ E.toNat := Int.pow_pos (by decide)
        show M * 2 ^ E.toNat < 0 ↔ M < 0
        constructor
        · intro h
          refine Int.not_le.1 fun q => ?_
          have := Int.mul_nonneg q (Int.le_of_lt hp)
          omega
        · intro h; exact Int.mul_neg_of_neg_of_pos h hp
      · show (M * 2 ^ E.toNat).natAbs * 2 ^ (-E).toNat = _
        rw [Int.natAbs_mul, Int.natAbs_pow, show (-E).toNat = 0 by omega]
        simp
    · have hodd : M % 2 = 1 := by
        unfold fltOkF at hf
        rw [if_neg hM] at hf
        exact (of_decide_eq_true hf).1
      obtain ⟨f1, f2⟩ := five_bd a b c (by omega)
      have ho : (M * 5 ^ (-E).toNat) % 2 = 1 := odd_mul hodd (five_odd _)
      have ho10 : ¬ (M * 5 ^ (-E).toNat) % 10 = 0 := by omega
      have hdok : decOkB (M * 5 ^ (-E).toNat) E = true := decOkB_iff.2 (.inr ⟨by omega, by omega, f1, f2, ho10⟩)
      have e1 : fltDecF M E = (M * 5 ^ (-E).toNat, E) := by
        unfold fltDecF; rw [if_pos hf, if_neg hE, decNew_back hdok]
      rw [e1]
      refine nearF_exact hdok hf hM ?_ ?_
      · have hp : (0 : Int) < 5 ^ (-E).toNat := Int.pow_pos (by decide)
        show M * 5 ^ (-E).toNat < 0 ↔ M < 0
        constructor
        · intro h
          refine Int.not_le.1 fun q => ?_
          have := Int.mul_nonneg q (Int.le_of_lt hp)
          omega
        · intro h; exact Int.mul_neg_of_neg_of_pos h hp
      · show (M * 5 ^ (-E).toNat).natAbs * 2 ^ (-E).toNat = _
        rw [Int.natAbs_mul, Int.natAbs_pow, show E.toNat = 0 by omega, two_pow_split, Nat.pow_zero, Nat.mul_one]
        have : (5 : Int).natAbs = 5 := rfl
        rw [this]; ac_rfl
theorem exactB_back {M E : Int} (hf : fltOkF M E = true) : exactB (fltDecF M E).1 (fltDecF M E).2 = true := by
  unfold exactB; rw [nearF_back hf]; simp
theorem fltDecF_no {M E : Int} (hf : fltOkF M E = false) : fltDecF M E = (0, 0) := by unfold fltDecF; rw [if_neg (by rw [hf]; simp)]
theorem newF_ok {m e : Int} (h : (newF m e).2.2 = true) : fltOkF (newF m e).1 (newF m e).2.1 = true := by
  unfold newF at h ⊢
  split at h
  · rename_i h0
    rw [if_pos h0]
    split at h
    · rename_i h1; rw [if_pos h1]; rfl
    · rename_i h1
      rw [if_neg h1]
      split at h
      · rename_i h2; rw [if_pos h2]; exact h2
      · cases h
  · cases h
theorem newF_none {m e : Int} (h : (newF m e).2.2 = false) : (newF m e).1 = 0 ∧ (newF m e).2.1 = 0 := by
  unfold newF at h ⊢
  split at h
  · rename_i h0
    rw [if_pos h0]
    split at h
    · rename_i h1; rw [if_pos h1]; exact ⟨rfl, rfl⟩
    · rename_i h1
      rw [if_neg h1]
      split at h
      · cases h
      · rename_i h2; rw [if_neg h2]; exact ⟨rfl, rfl⟩
  · rename_i h0; rw [if_neg h0]; exact ⟨rfl, rfl⟩
theorem fltDecF_inj {m e p q : Int} (h : fltOkF m e = true) (h' : fltOkF p q = true) (he : fltDecF m e = fltDecF p q) : m = p ∧ e = q := by
  have h1 := nearF_back h
  have h2 := nearF_back h'
  rw [he, h2] at h1
  simp only [Prod.mk.injEq] at h1
  exact ⟨h1.1.symm, h1.2.1.symm⟩
/-- Of two valid numbers by halves that are not the same, just one is less. -/
theorem lessFlt_one {m e p q : Int} (h : fltOkF m e = true) (h' : fltOkF p q = true) : (lessFltB m e p q || lessFltB p q m e) = !(decide (m = p ∧ e = q)) := by
  unfold lessFltB
  rw [h, h']
  simp only [Bool.true_and]
  rw [less_one (fltDecF_ok m e) (fltDecF_ok p q)]
  congr 1
  apply decide_eq_decide.2
  constructor
  · intro ⟨a, b⟩; exact fltDecF_inj h h' (Prod.ext a b)
  · intro ⟨a, b⟩; subst a; subst b; exact ⟨rfl, rfl⟩
end Go.Proofs.YtilmhemcpgiikaaDoor
/- Plain laws of FnOrders: the order of trees turns round with its sides; valid trees that are neither ahead are the same. -/
namespace Go.Proofs.YtilmhemcpgiikaaDoor
open Go.Deep Go.ChangeShapes Go.WideShapes Go.ChangeAt Go.RowKit

theorem plainC_neg (n x m y : Int) : plainC m y n x = -(plainC n x m y) := by
  unfold plainC
  (repeat' split) <;> first | rfl | omega
theorem num2_neg {a b : Bool} (h : (a && b) = false) : num2 b a = -(num2 a b) := by
  cases a <;> cases b <;> first | rfl | cases h
theorem lessFlt_both {m e p q : Int} : (lessFltB m e p q && lessFltB p q m e) = false := by
  have := less_both (n := (fltDecF m e).1) (x := (fltDecF m e).2) (m := (fltDecF p q).1) (y := (fltDecF p q).2)
  unfold lessFltB
  cases fltOkF m e <;> cases fltOkF p q <;> simp at this ⊢
  exact this
theorem numC_neg (k n x m y : Int) : numC k m y n x = -(numC k n x m y) := by
  unfold numC
  by_cases h4 : k = 4 ∧ fltOkF n x = true ∧ fltOkF m y = true
  · rw [if_pos h4, if_pos ⟨h4.1, h4.2.2, h4.2.1⟩]
    exact num2_neg lessFlt_both
  · rw [if_neg h4, if_neg (fun q => h4 ⟨q.1, q.2.2, q.2.1⟩)]
    by_cases h6 : k = 6 ∧ decOkB n x = true ∧ decOkB m y = true
    · rw [if_pos h6, if_pos ⟨h6.1, h6.2.2, h6.2.1⟩]
      exact num2_neg less_both
    · rw [if_neg h6, if_neg (fun q => h6 ⟨q.1, q.2.2, q.2.1⟩)]
      exact plainC_neg n x m y
theorem bytes_neg : ∀ a b : List UInt8, Lib.compareBytes b a = -(Lib.compareBytes a b)
  | [], [] => by simp [Lib.compareBytes]
  | [], _ :: _ => by simp [Lib.compareBytes]
  | _ :: _, [] => by simp [Lib.compareBytes]
  | a :: x, b :: y => by
    have ih := bytes_neg x y
    by_cases h1 : a < b
    · have h2 : ¬ b < a := fun h => UInt8.lt_irrefl _ (UInt8.lt_trans h1 h)
      simp [Lib.compareBytes, h1, h2]
    · by_cases h2 : b < a
      · simp [Lib.compareBytes, h1, h2]
      · simpa [Lib.compareBytes, h1, h2] using ih
theorem bytes_zero {a b : List UInt8} (h : Lib.compareBytes a b = 0) : a = b := by
  rcases cmp_three a b with ⟨h1, -⟩ | ⟨-, -, h3⟩ | ⟨h1, -⟩
  · rw [h] at h1; exact absurd h1 (by decide)
  · simpa using h3
  · rw [h] at h1; exact absurd h1 (by decide)
theorem ifz_neg {a b c d : Int} (h1 : b = -a) (h2 : d = -c) : (if b ≠ 0 then b else d) = -(if a ≠ 0 then a else c) := by
  subst h1; subst h2
  by_cases h : a = 0
  · subst h; simp
  · rw [if_pos (by omega), if_pos h]
theorem cmpL_neg : ∀ (l l' : List Tree), (∀ t ∈ l, ∀ t', Tree.cmp t' t = -(Tree.cmp t t')) → cmpL l' l = -(cmpL l l')
  | [], [], _ => by simp [cmpL]
  | [], _ :: _, _ => by simp [cmpL]
  | _ :: _, [], _ => by simp [cmpL]
  | a :: r, b :: r', h => by
    rw [cmpL, cmpL]
    exact ifz_neg (h a (List.mem_cons_self ..) b) (cmpL_neg r r' (fun t ht => h t (List.mem_cons_of_mem _ ht)))
theorem cmp_neg : ∀ t t' : Tree, t'.cmp t = -(t.cmp t') := by
  refine Tree.ind fun t ih t' => ?_
  rw [Tree.cmp_eq t t', Tree.cmp_eq t' t]
  rcases Int.lt_trichotomy t.kind t'.kind with h | h | h
  · have h1 : ¬ t'.kind < t.kind := by omega
    simp only [if_neg h1, if_pos h]; decide
  · have h1 : ¬ t'.kind < t.kind := by omega
    have h2 : ¬ t.kind < t'.kind := by omega
    simp only [if_neg h1, if_neg h2]
    refine ifz_neg ?_ (ifz_neg (bytes_neg _ _) (cmpL_neg _ _ (fun u hu u' => ih u hu u')))
    rw [← h]; exact numC_neg _ _ _ _ _
  · have h1 : ¬ t.kind < t'.kind := by omega
    simp only [if_neg h1, if_pos h]
theorem lessT_irr (t : Tree) : lessT t t = false := by
  have := cmp_neg t t
  unfold lessT
  exact decide_eq_false (by omega)
theorem lessT_both (t t' : Tree) : (lessT t t' && lessT t' t) = false := by
  have := cmp_neg t t'
  unfold lessT
  by_cases h : t.cmp t' < 0
  · rw [decide_eq_false (p := t'.cmp t < 0) (by omega)]; simp
  · rw [decide_eq_false h]; rfl
theorem num2_zero {a b : Bool} (h : num2 a b = 0) : (a || b) = false := by cases a <;> cases b <;> first | rfl | (exact absurd h (by decide))
theorem plainC_zero {n x m y : Int} (h : plainC n x m y = 0) : n = m ∧ x = y := by
  unfold plainC at h
  (repeat' split at h) <;> first | (exact absurd h (by decide)) | omega
theorem own_kind4 {t : Tree} (h : ownB t = true) (hk : t.kind = 4) : fltOkF t.n t.x = true := by
  rw [own_4 hk] at h
  simp only [Bool.and_eq_true] at h; exact h.1
theorem own_kind6 {t : Tree} (h : ownB t = true) (hk : t.kind = 6) : decOkB t.n t.x = true := by
  rw [own_6 hk] at h
  simp only [Bool.and_eq_true] at h; exact h.1
theorem numC_zero {t t' : Tree} (h : ownB t = true) (h' : ownB t' = true) (hk : t.kind = t'.kind) (hz : numC t.kind t.n t.x t'.n t'.x = 0) : t.n = t'.n ∧ t.x = t'.x := by
  by_cases h4 : t.kind = 4
  · have f1 := own_kind4 h h4
    have f2 := own_kind4 h' (by rw [← hk]; exact h4)
    rw [h4, numC_4 f1 f2] at hz
    have := lessFlt_one f1 f2
    rw [num2_zero hz] at this
    simpa using this
  · by_cases h6 : t.kind = 6
    · have f1 := own_kind6 h h6
      have f2 := own_kind6 h' (by rw [← hk]; exact h6)
      rw [h6, numC_6 f1 f2] at hz
      have := less_one f1 f2
      rw [num2_zero hz] at this
      simpa using this
    · rw [numC_0 h4 h6] at hz
      exact plainC_zero hz
theorem ifz_zero {a c : Int} (h : (if a ≠ 0 then a else c) = 0) : a = 0 ∧ c = 0 := by
  by_cases h0 : a = 0
  · rw [if_neg (by simpa using h0)] at h; exact ⟨h0, h⟩
  · rw [if_pos h0] at h; exact absurd h h0
theorem cmpL_zero : ∀ (l l' : List Tree), (∀ t ∈ l, ∀ t', t.ok = true → t'.ok = true → t.cmp t' = 0 → t = t') → okL l = true → okL l' = true → cmpL l l' = 0 → l = l'
  | [], [], _, _, _, _ => rfl
  | [], _ :: _, _, _, _, h => by rw [cmpL] at h; exact absurd h (by decide)
  | _ :: _, [], _, _, _, h => by rw [cmpL] at h; exact absurd h (by decide)
  | a :: r, b :: r', ih, ho, ho', h => by
    rw [cmpL] at h
    rw [okL] at ho ho'
    simp only [Bool.and_eq_true] at ho ho'
    obtain ⟨h1, h2⟩ := ifz_zero h
    rw [ih a (List.mem_cons_self ..) b ho.1 ho'.1 h1, cmpL_zero r r' (fun t ht => ih t (List.mem_cons_of_mem _ ht)) ho.2 ho'.2 h2]
/-- Valid trees of which neither is ahead are the same. -/
theorem cmp_zero : ∀ t t' : Tree, t.ok = true → t'.ok = true → t.cmp t' = 0 → t = t' := by
  refine Tree.ind fun t ih t' ho ho' h => ?_
  rw [Tree.cmp_eq] at h
  rw [Tree.ok_eq] at ho ho'
  simp only [Bool.and_eq_true] at ho ho'
  rcases Int.lt_trichotomy t.kind t'.kind with hk | hk | hk
  · rw [if_pos hk] at h; exact absurd h (by decide)
  · rw [if_neg (by omega), if_neg (by omega)] at h
    obtain ⟨h1, h2⟩ := ifz_zero h
    obtain ⟨h3, h4⟩ := ifz_zero h2
    obtain ⟨e1, e2⟩ := numC_zero ho.2 ho'.2 hk h1
    have e3 : t.s = t'.s := by
      have := bytes_zero h3
      apply ByteArray.ext
      exact Array.ext' this
    have e4 := cmpL_zero _ _ (fun u hu u' => ih u hu u') ho.1 ho'.1 h4
    rw [Tree.eta t, Tree.eta t', hk, e1, e2, e3, e4]
  · rw [if_neg (by omega), if_pos hk] at h; exact absurd h (by decide)
theorem cmp_self (t : Tree) : t.cmp t = 0 := by have := cmp_neg t t; omega
/-- Of two valid trees that are not the same, just one is ahead. -/
theorem lessT_one {t t' : Tree} (h : t.ok = true) (h' : t'.ok = true) : (lessT t t' || lessT t' t) = !sameB t t' := by
  have hn := cmp_neg t t'
  cases hs : sameB t t' with
  | true =>
    have := sameB_true.1 hs
    subst this
    rw [lessT_irr]; rfl
  | false =>
    have hne : t.cmp t' ≠ 0 := fun q => sameB_false.1 hs (cmp_zero t t' h h' q)
    unfold lessT
    by_cases hl : t.cmp t' < 0
    · rw [decide_eq_true hl]; rfl
    · rw [decide_eq_true (p := t'.cmp t < 0) (by omega)]; simp
end Go.Proofs.YtilmhemcpgiikaaDoor
/- ValOk of the program: a value's own fields. -/
namespace Go.Proofs.YtilmhemcpgiikaaDoor
open Go.Deep Go.ChangeShapes Go.WideShapes Go.ChangeAt Go.RowKit
open Go.ChangeMaps (open_string shut_string)

set_option maxRecDepth 100000 in
set_option maxHeartbeats 40000000 in
theorem ownImpl_c (t : Tree) (w : World) (u : Value) (hcost : t.cost ≤ 1048576) (hP : LaidP w) (hU : LaidU w) (hu : TSl w u t.l) (hfit : Fits t.kind t.n t.x t.s) :
    Calls Tryd.prog 128 #[.agg #[.int .i64 t.kind, .int .i64 t.n, .int .i64 t.x, .string t.s, u]] w fun e w' => e = .returned (.bool (ownB t)) ∧ Below w.heap.size w w' := by
  obtain ⟨a, cap, b, off, rfl, hcap, hmax, ha, hl⟩ := hu
  unfold maxLen at hmax
  have HSZ := Lib.hid (show t.s.size ≤ 1048576 by have := size_cost t; omega)
  have HFT := Lib.hid hfit; clear hfit ha hl
  have HLP := Lib.hid hP; have HLU := Lib.hid hU; clear hP hU
  have HB := Lib.hid (vbelow1 w (.cells #[.int .i64 t.kind, .int .i64 t.n, .int .i64 t.x, .string t.s, .slice a t.l.length cap] 29))
  by_cases hk1 : t.kind = 1
  · have hof := (own_1 hk1)
    have HOF := Lib.hid hof; clear hof
    cases h0 : t.s.toList.isEmpty with
    | false =>
      have HFF : Hid (_ = false) := Lib.hid (HOF.out.trans (by rw [h0]; first | done | simp)); clear HOF
      go_enter Tryd.func128, Tryd.ntmps128
      go_wp2_with (first | (go_at_call 86; refine (within_c _ _ _ _).mono ?_; rintro e w' ⟨rfl, rfl⟩) | (go_at_call 48; refine (fltOk_impl _ _ _).mono ?_; rintro _ wf ⟨rfl, bf⟩; have BF := Lib.hid (vnx (vbelow1 _ _) bf); clear bf) | (go_at_call 33; refine (decOk_impl _ _ _ (HLP.out.kept (vbelow1 _ _)) HFT.out.n.1 HFT.out.n.2).mono ?_; rintro _ wf ⟨rfl, bf⟩; have BF := Lib.hid (vnx (vbelow1 _ _) bf); clear bf) | (go_at_call 161; refine (textOk_impl _ _ HSZ.out (HLU.out.kept (vbelow1 _ _))).mono ?_; rintro _ wf ⟨rfl, bf⟩; have BF := Lib.hid (vnx (vbelow1 _ _) bf); clear bf))
      go_ret
      exact ⟨ret_bool (by rw [HFF.out]), by first | exact vbelow1 _ _ | exact BF.out⟩
    | true =>
      cases h1 : (t.x == 0) with
      | false =>
        have HFF : Hid (_ = false) := Lib.hid (HOF.out.trans (by rw [h0, h1]; first | done | simp)); clear HOF
        have e1 : (t.x != 0) = true := by simpa using h1
        go_enter Tryd.func128, Tryd.ntmps128
        go_wp2_with (first | (go_at_call 86; refine (within_c _ _ _ _).mono ?_; rintro e w' ⟨rfl, rfl⟩) | (go_at_call 48; refine (fltOk_impl _ _ _).mono ?_; rintro _ wf ⟨rfl, bf⟩; have BF := Lib.hid (vnx (vbelow1 _ _) bf); clear bf) | (go_at_call 33; refine (decOk_impl _ _ _ (HLP.out.kept (vbelow1 _ _)) HFT.out.n.1 HFT.out.n.2).mono ?_; rintro _ wf ⟨rfl, bf⟩; have BF := Lib.hid (vnx (vbelow1 _ _) bf); clear bf) | (go_at_call 161; refine (textOk_impl _ _ HSZ.out (HLU.out.kept (vbelow1 _ _))).mono ?_; rintro _ wf ⟨rfl, bf⟩; have BF := Lib.hid (vnx (vbelow1 _ _) bf); clear bf))
        go_ret
        exact ⟨ret_bool (by rw [HFF.out]), by first | exact vbelow1 _ _ | exact BF.out⟩
      | true =>
        have e1 : (t.x != 0) = false := by simpa using h1
        cases h2 : ((t.l.length : Int) == 0) with
        | false =>
          have HFF : Hid (_ = false) := Lib.hid (HOF.out.trans (by rw [h0, h1, h2]; first | done | simp)); clear HOF
          have e2 : (0 : Int) < (t.l.length : Int) := (by have q : ¬ ((t.l.length : Int) = 0) := (by simpa using h2); omega)
          go_enter Tryd.func128, Tryd.ntmps128
          go_wp2_with (first | (go_at_call 86; refine (within_c _ _ _ _).mono ?_; rintro e w' ⟨rfl, rfl⟩) | (go_at_call 48; refine (fltOk_impl _ _ _).mono ?_; rintro _ wf ⟨rfl, bf⟩; have BF := Lib.hid (vnx (vbelow1 _ _) bf); clear bf) | (go_at_call 33; refine (decOk_impl _ _ _ (HLP.out.kept (vbelow1 _ _)) HFT.out.n.1 HFT.out.n.2).mono ?_; rintro _ wf ⟨rfl, bf⟩; have BF := Lib.hid (vnx (vbelow1 _ _) bf); clear bf) | (go_at_call 161; refine (textOk_impl _ _ HSZ.out (HLU.out.kept (vbelow1 _ _))).mono ?_; rintro _ wf ⟨rfl, bf⟩; have BF := Lib.hid (vnx (vbelow1 _ _) bf); clear bf))
          go_ret
          exact ⟨ret_bool (by rw [HFF.out]), by first | exact vbelow1 _ _ | exact BF.out⟩
        | true =>
          have e2 : ¬ ((0 : Int) < (t.l.length : Int)) := (by have q : (t.l.length : Int) = 0 := (by simpa using h2); omega)
          cases h3 : (t.n == 0) with
          | false =>
            have HFF : Hid (_ = false) := Lib.hid (HOF.out.trans (by rw [h0, h1, h2, h3]; first | done | simp)); clear HOF
            go_enter Tryd.func128, Tryd.ntmps128
            go_wp2_with (first | (go_at_call 86; refine (within_c _ _ _ _).mono ?_; rintro e w' ⟨rfl, rfl⟩) | (go_at_call 48; refine (fltOk_impl _ _ _).mono ?_; rintro _ wf ⟨rfl, bf⟩; have BF := Lib.hid (vnx (vbelow1 _ _) bf); clear bf) | (go_at_call 33; refine (decOk_impl _ _ _ (HLP.out.kept (vbelow1 _ _)) HFT.out.n.1 HFT.out.n.2).mono ?_; rintro _ wf ⟨rfl, bf⟩; have BF := Lib.hid (vnx (vbelow1 _ _) bf); clear bf) | (go_at_call 161; refine (textOk_impl _ _ HSZ.out (HLU.out.kept (vbelow1 _ _))).mono ?_; rintro _ wf ⟨rfl, bf⟩; have BF := Lib.hid (vnx (vbelow1 _ _) bf); clear bf))
            go_ret
            exact ⟨ret_bool (by rw [HFF.out]), by first | exact vbelow1 _ _ | exact BF.out⟩
          | true =>
            have HFF : Hid (_ = true) := Lib.hid (HOF.out.trans (by rw [h0, h1, h2, h3]; first | done | simp)); clear HOF
            go_enter Tryd.func128, Tryd.ntmps128
            go_wp2_with (first | (go_at_call 86; refine (within_c _ _ _ _).mono ?_; rintro e w' ⟨rfl, rfl⟩) | (go_at_call 48; refine (fltOk_impl _ _ _).mono ?_; rintro _ wf ⟨rfl, bf⟩; have BF := Lib.hid (vnx (vbelow1 _ _) bf); clear bf) | (go_at_call 33; refine (decOk_impl _ _ _ (HLP.out.kept (vbelow1 _ _)) HFT.out.n.1 HFT.out.n.2).mono ?_; rintro _ wf ⟨rfl, bf⟩; have BF := Lib.hid (vnx (vbelow1 _ _) bf); clear bf) | (go_at_call 161; refine (textOk_impl _ _ HSZ.out (HLU.out.kept (vbelow1 _ _))).mono ?_; rintro _ wf ⟨rfl, bf⟩; have BF := Lib.hid (vnx (vbelow1 _ _) bf); clear bf))
            go_ret
            exact ⟨ret_bool (by rw [HFF.out]), by first | exact vbelow1 _ _ | exact BF.out⟩
  by_cases hk2 : t.kind = 2
  · have hof := (own_2 hk2)
    have HOF := Lib.hid hof; clear hof
    clear hk1
    cases h0 : t.s.toList.isEmpty with
    | false =>
      have HFF : Hid (_ = false) := Lib.hid (HOF.out.trans (by rw [h0]; first | done | simp)); clear HOF
      go_enter Tryd.func128, Tryd.ntmps128
      go_wp2_with (first | (go_at_call 86; refine (within_c _ _ _ _).mono ?_; rintro e w' ⟨rfl, rfl⟩) | (go_at_call 48; refine (fltOk_impl _ _ _).mono ?_; rintro _ wf ⟨rfl, bf⟩; have BF := Lib.hid (vnx (vbelow1 _ _) bf); clear bf) | (go_at_call 33; refine (decOk_impl _ _ _ (HLP.out.kept (vbelow1 _ _)) HFT.out.n.1 HFT.out.n.2).mono ?_; rintro _ wf ⟨rfl, bf⟩; have BF := Lib.hid (vnx (vbelow1 _ _) bf); clear bf) | (go_at_call 161; refine (textOk_impl _ _ HSZ.out (HLU.out.kept (vbelow1 _ _))).mono ?_; rintro _ wf ⟨rfl, bf⟩; have BF := Lib.hid (vnx (vbelow1 _ _) bf); clear bf))
      go_ret
      exact ⟨ret_bool (by rw [HFF.out]), by first | exact vbelow1 _ _ | exact BF.out⟩
    | true =>
      cases h1 : (t.x == 0) with
      | false =>
        have HFF : Hid (_ = false) := Lib.hid (HOF.out.trans (by rw [h0, h1]; first | done | simp)); clear HOF
        have e1 : (t.x != 0) = true := by simpa using h1
        go_enter Tryd.func128, Tryd.ntmps128
        go_wp2_with (first | (go_at_call 86; refine (within_c _ _ _ _).mono ?_; rintro e w' ⟨rfl, rfl⟩) | (go_at_call 48; refine (fltOk_impl _ _ _).mono ?_; rintro _ wf ⟨rfl, bf⟩; have BF := Lib.hid (vnx (vbelow1 _ _) bf); clear bf) | (go_at_call 33; refine (decOk_impl _ _ _ (HLP.out.kept (vbelow1 _ _)) HFT.out.n.1 HFT.out.n.2).mono ?_; rintro _ wf ⟨rfl, bf⟩; have BF := Lib.hid (vnx (vbelow1 _ _) bf); clear bf) | (go_at_call 161; refine (textOk_impl _ _ HSZ.out (HLU.out.kept (vbelow1 _ _))).mono ?_; rintro _ wf ⟨rfl, bf⟩; have BF := Lib.hid (vnx (vbelow1 _ _) bf); clear bf))
        go_ret
        exact ⟨ret_bool (by rw [HFF.out]), by first | exact vbelow1 _ _ | exact BF.out⟩
      | true =>
        have e1 : (t.x != 0) = false := by simpa using h1
        cases h2 : ((t.l.length : Int) == 0) with
        | false =>
          have HFF : Hid (_ = false) := Lib.hid (HOF.out.trans (by rw [h0, h1, h2]; first | done | simp)); clear HOF
          have e2 : (0 : Int) < (t.l.length : Int) := (by have q : ¬ ((t.l.length : Int) = 0) := (by simpa using h2); omega)
          go_enter Tryd.func128, Tryd.ntmps128
          go_wp2_with (first | (go_at_call 86; refine (within_c _ _ _ _).mono ?_; rintro e w' ⟨rfl, rfl⟩) | (go_at_call 48; refine (fltOk_impl _ _ _).mono ?_; rintro _ wf ⟨rfl, bf⟩; have BF := Lib.hid (vnx (vbelow1 _ _) bf); clear bf) | (go_at_call 33; refine (decOk_impl _ _ _ (HLP.out.kept (vbelow1 _ _)) HFT.out.n.1 HFT.out.n.2).mono ?_; rintro _ wf ⟨rfl, bf⟩; have BF := Lib.hid (vnx (vbelow1 _ _) bf); clear bf) | (go_at_call 161; refine (textOk_impl _ _ HSZ.out (HLU.out.kept (vbelow1 _ _))).mono ?_; rintro _ wf ⟨rfl, bf⟩; have BF := Lib.hid (vnx (vbelow1 _ _) bf); clear bf))
          go_ret
          exact ⟨ret_bool (by rw [HFF.out]), by first | exact vbelow1 _ _ | exact BF.out⟩
        | true =>
          have e2 : ¬ ((0 : Int) < (t.l.length : Int)) := (by have q : (t.l.length : Int) = 0 := (by simpa using h2); omega)
          cases h3 : inB t.n 0 1 with
          | false =>
            have HFF : Hid (_ = false) := Lib.hid (HOF.out.trans (by rw [h0, h1, h2, h3]; first | done | simp)); clear HOF
            have e0 : (t.n == 0) = false := by have := inB_false.1 h3; simp; omega
            have e1 : (t.n == 1) = false := by have := inB_false.1 h3; simp; omega
            go_enter Tryd.func128, Tryd.ntmps128
            go_wp2_with (first | (go_at_call 86; refine (within_c _ _ _ _).mono ?_; rintro e w' ⟨rfl, rfl⟩) | (go_at_call 48; refine (fltOk_impl _ _ _).mono ?_; rintro _ wf ⟨rfl, bf⟩; have BF := Lib.hid (vnx (vbelow1 _ _) bf); clear bf) | (go_at_call 33; refine (decOk_impl _ _ _ (HLP.out.kept (vbelow1 _ _)) HFT.out.n.1 HFT.out.n.2).mono ?_; rintro _ wf ⟨rfl, bf⟩; have BF := Lib.hid (vnx (vbelow1 _ _) bf); clear bf) | (go_at_call 161; refine (textOk_impl _ _ HSZ.out (HLU.out.kept (vbelow1 _ _))).mono ?_; rintro _ wf ⟨rfl, bf⟩; have BF := Lib.hid (vnx (vbelow1 _ _) bf); clear bf))
            go_ret
            exact ⟨ret_bool (by rw [HFF.out]), by first | exact vbelow1 _ _ | exact BF.out⟩
          | true =>
            have hnn : (t.n == 0) = true ∨ ((t.n == 0) = false ∧ (t.n == 1) = true) := by have := inB_true.1 h3; by_cases e : t.n = 0 <;> simp [e]; omega
            rcases hnn with e0 | ⟨e0, e1⟩
            all_goals
              have HFF : Hid (_ = true) := Lib.hid (HOF.out.trans (by rw [h0, h1, h2, h3]; first | done | simp)); clear HOF
              go_enter Tryd.func128, Tryd.ntmps128
              go_wp2_with (first | (go_at_call 86; refine (within_c _ _ _ _).mono ?_; rintro e w' ⟨rfl, rfl⟩) | (go_at_call 48; refine (fltOk_impl _ _ _).mono ?_; rintro _ wf ⟨rfl, bf⟩; have BF := Lib.hid (vnx (vbelow1 _ _) bf); clear bf) | (go_at_call 33; refine (decOk_impl _ _ _ (HLP.out.kept (vbelow1 _ _)) HFT.out.n.1 HFT.out.n.2).mono ?_; rintro _ wf ⟨rfl, bf⟩; have BF := Lib.hid (vnx (vbelow1 _ _) bf); clear bf) | (go_at_call 161; refine (textOk_impl _ _ HSZ.out (HLU.out.kept (vbelow1 _ _))).mono ?_; rintro _ wf ⟨rfl, bf⟩; have BF := Lib.hid (vnx (vbelow1 _ _) bf); clear bf))
              go_ret
              exact ⟨ret_bool (by rw [HFF.out]), by first | exact vbelow1 _ _ | exact BF.out⟩
  by_cases hk3 : t.kind = 3
  · have hof := (own_3 hk3)
    have HOF := Lib.hid hof; clear hof
    clear hk1 hk2
    cases h0 : t.s.toList.isEmpty with
    | false =>
      have HFF : Hid (_ = false) := Lib.hid (HOF.out.trans (by rw [h0]; first | done | simp)); clear HOF
      go_enter Tryd.func128, Tryd.ntmps128
      go_wp2_with (first | (go_at_call 86; refine (within_c _ _ _ _).mono ?_; rintro e w' ⟨rfl, rfl⟩) | (go_at_call 48; refine (fltOk_impl _ _ _).mono ?_; rintro _ wf ⟨rfl, bf⟩; have BF := Lib.hid (vnx (vbelow1 _ _) bf); clear bf) | (go_at_call 33; refine (decOk_impl _ _ _ (HLP.out.kept (vbelow1 _ _)) HFT.out.n.1 HFT.out.n.2).mono ?_; rintro _ wf ⟨rfl, bf⟩; have BF := Lib.hid (vnx (vbelow1 _ _) bf); clear bf) | (go_at_call 161; refine (textOk_impl _ _ HSZ.out (HLU.out.kept (vbelow1 _ _))).mono ?_; rintro _ wf ⟨rfl, bf⟩; have BF := Lib.hid (vnx (vbelow1 _ _) bf); clear bf))
      go_ret
      exact ⟨ret_bool (by rw [HFF.out]), by first | exact vbelow1 _ _ | exact BF.out⟩
    | true =>
      cases h1 : (t.x == 0) with
      | false =>
        have HFF : Hid (_ = false) := Lib.hid (HOF.out.trans (by rw [h0, h1]; first | done | simp)); clear HOF
        have e1 : (t.x != 0) = true := by simpa using h1
        go_enter Tryd.func128, Tryd.ntmps128
        go_wp2_with (first | (go_at_call 86; refine (within_c _ _ _ _).mono ?_; rintro e w' ⟨rfl, rfl⟩) | (go_at_call 48; refine (fltOk_impl _ _ _).mono ?_; rintro _ wf ⟨rfl, bf⟩; have BF := Lib.hid (vnx (vbelow1 _ _) bf); clear bf) | (go_at_call 33; refine (decOk_impl _ _ _ (HLP.out.kept (vbelow1 _ _)) HFT.out.n.1 HFT.out.n.2).mono ?_; rintro _ wf ⟨rfl, bf⟩; have BF := Lib.hid (vnx (vbelow1 _ _) bf); clear bf) | (go_at_call 161; refine (textOk_impl _ _ HSZ.out (HLU.out.kept (vbelow1 _ _))).mono ?_; rintro _ wf ⟨rfl, bf⟩; have BF := Lib.hid (vnx (vbelow1 _ _) bf); clear bf))
        go_ret
        exact ⟨ret_bool (by rw [HFF.out]), by first | exact vbelow1 _ _ | exact BF.out⟩
      | true =>
        have e1 : (t.x != 0) = false := by simpa using h1
        cases h2 : ((t.l.length : Int) == 0) with
        | false =>
          have HFF : Hid (_ = false) := Lib.hid (HOF.out.trans (by rw [h0, h1, h2]; first | done | simp)); clear HOF
          have e2 : (0 : Int) < (t.l.length : Int) := (by have q : ¬ ((t.l.length : Int) = 0) := (by simpa using h2); omega)
          go_enter Tryd.func128, Tryd.ntmps128
          go_wp2_with (first | (go_at_call 86; refine (within_c _ _ _ _).mono ?_; rintro e w' ⟨rfl, rfl⟩) | (go_at_call 48; refine (fltOk_impl _ _ _).mono ?_; rintro _ wf ⟨rfl, bf⟩; have BF := Lib.hid (vnx (vbelow1 _ _) bf); clear bf) | (go_at_call 33; refine (decOk_impl _ _ _ (HLP.out.kept (vbelow1 _ _)) HFT.out.n.1 HFT.out.n.2).mono ?_; rintro _ wf ⟨rfl, bf⟩; have BF := Lib.hid (vnx (vbelow1 _ _) bf); clear bf) | (go_at_call 161; refine (textOk_impl _ _ HSZ.out (HLU.out.kept (vbelow1 _ _))).mono ?_; rintro _ wf ⟨rfl, bf⟩; have BF := Lib.hid (vnx (vbelow1 _ _) bf); clear bf))
          go_ret
          exact ⟨ret_bool (by rw [HFF.out]), by first | exact vbelow1 _ _ | exact BF.out⟩
        | true =>
          have e2 : ¬ ((0 : Int) < (t.l.length : Int)) := (by have q : (t.l.length : Int) = 0 := (by simpa using h2); omega)
          cases h3 : inB t.n (-1000000000000000) 1000000000000000 with
          | false =>
            have HFF : Hid (_ = false) := Lib.hid (HOF.out.trans (by rw [h0, h1, h2, h3]; first | done | simp)); clear HOF
            go_enter Tryd.func128, Tryd.ntmps128
            go_wp2_with (first | (go_at_call 86; refine (within_c _ _ _ _).mono ?_; rintro e w' ⟨rfl, rfl⟩) | (go_at_call 48; refine (fltOk_impl _ _ _).mono ?_; rintro _ wf ⟨rfl, bf⟩; have BF := Lib.hid (vnx (vbelow1 _ _) bf); clear bf) | (go_at_call 33; refine (decOk_impl _ _ _ (HLP.out.kept (vbelow1 _ _)) HFT.out.n.1 HFT.out.n.2).mono ?_; rintro _ wf ⟨rfl, bf⟩; have BF := Lib.hid (vnx (vbelow1 _ _) bf); clear bf) | (go_at_call 161; refine (textOk_impl _ _ HSZ.out (HLU.out.kept (vbelow1 _ _))).mono ?_; rintro _ wf ⟨rfl, bf⟩; have BF := Lib.hid (vnx (vbelow1 _ _) bf); clear bf))
            go_ret
            exact ⟨ret_bool (by rw [HFF.out]), by first | exact vbelow1 _ _ | exact BF.out⟩
          | true =>
            have HFF : Hid (_ = true) := Lib.hid (HOF.out.trans (by rw [h0, h1, h2, h3]; first | done | simp)); clear HOF
            go_enter Tryd.func128, Tryd.ntmps128
            go_wp2_with (first | (go_at_call 86; refine (within_c _ _ _ _).mono ?_; rintro e w' ⟨rfl, rfl⟩) | (go_at_call 48; refine (fltOk_impl _ _ _).mono ?_; rintro _ wf ⟨rfl, bf⟩; have BF := Lib.hid (vnx (vbelow1 _ _) bf); clear bf) | (go_at_call 33; refine (decOk_impl _ _ _ (HLP.out.kept (vbelow1 _ _)) HFT.out.n.1 HFT.out.n.2).mono ?_; rintro _ wf ⟨rfl, bf⟩; have BF := Lib.hid (vnx (vbelow1 _ _) bf); clear bf) | (go_at_call 161; refine (textOk_impl _ _ HSZ.out (HLU.out.kept (vbelow1 _ _))).mono ?_; rintro _ wf ⟨rfl, bf⟩; have BF := Lib.hid (vnx (vbelow1 _ _) bf); clear bf))
            go_ret
            exact ⟨ret_bool (by rw [HFF.out]), by first | exact vbelow1 _ _ | exact BF.out⟩
  by_cases hk4 : t.kind = 4
  · have hof := (own_4 hk4)
    have HOF := Lib.hid hof; clear hof
    clear hk1 hk2 hk3
    cases h0 : t.s.toList.isEmpty with
    | false =>
      have HFF : Hid (_ = false) := Lib.hid (HOF.out.trans (by rw [h0]; first | done | simp)); clear HOF
      go_enter Tryd.func128, Tryd.ntmps128
      go_wp2_with (first | (go_at_call 86; refine (within_c _ _ _ _).mono ?_; rintro e w' ⟨rfl, rfl⟩) | (go_at_call 48; refine (fltOk_impl _ _ _).mono ?_; rintro _ wf ⟨rfl, bf⟩; have BF := Lib.hid (vnx (vbelow1 _ _) bf); clear bf) | (go_at_call 33; refine (decOk_impl _ _ _ (HLP.out.kept (vbelow1 _ _)) HFT.out.n.1 HFT.out.n.2).mono ?_; rintro _ wf ⟨rfl, bf⟩; have BF := Lib.hid (vnx (vbelow1 _ _) bf); clear bf) | (go_at_call 161; refine (textOk_impl _ _ HSZ.out (HLU.out.kept (vbelow1 _ _))).mono ?_; rintro _ wf ⟨rfl, bf⟩; have BF := Lib.hid (vnx (vbelow1 _ _) bf); clear bf))
      go_ret
      exact ⟨ret_bool (by rw [HFF.out]), by first | exact vbelow1 _ _ | exact BF.out⟩
    | true =>
      cases h1 : ((t.l.length : Int) == 0) with
      | false =>
        have HFF : Hid (_ = false) := Lib.hid (HOF.out.trans (by rw [h0, h1]; first | done | simp)); clear HOF
        have e1 : (0 : Int) < (t.l.length : Int) := (by have q : ¬ ((t.l.length : Int) = 0) := (by simpa using h1); omega)
        go_enter Tryd.func128, Tryd.ntmps128
        go_wp2_with (first | (go_at_call 86; refine (within_c _ _ _ _).mono ?_; rintro e w' ⟨rfl, rfl⟩) | (go_at_call 48; refine (fltOk_impl _ _ _).mono ?_; rintro _ wf ⟨rfl, bf⟩; have BF := Lib.hid (vnx (vbelow1 _ _) bf); clear bf) | (go_at_call 33; refine (decOk_impl _ _ _ (HLP.out.kept (vbelow1 _ _)) HFT.out.n.1 HFT.out.n.2).mono ?_; rintro _ wf ⟨rfl, bf⟩; have BF := Lib.hid (vnx (vbelow1 _ _) bf); clear bf) | (go_at_call 161; refine (textOk_impl _ _ HSZ.out (HLU.out.kept (vbelow1 _ _))).mono ?_; rintro _ wf ⟨rfl, bf⟩; have BF := Lib.hid (vnx (vbelow1 _ _) bf); clear bf))
        go_ret
        exact ⟨ret_bool (by rw [HFF.out]), by first | exact vbelow1 _ _ | exact BF.out⟩
      | true =>
        have e1 : ¬ ((0 : Int) < (t.l.length : Int)) := (by have q : (t.l.length : Int) = 0 := (by simpa using h1); omega)
        cases h2 : fltOkF t.n t.x with
        | false =>
          have HFF : Hid (_ = false) := Lib.hid (HOF.out.trans (by rw [h0, h1, h2]; first | done | simp)); clear HOF
          go_enter Tryd.func128, Tryd.ntmps128
          go_wp2_with (first | (go_at_call 86; refine (within_c _ _ _ _).mono ?_; rintro e w' ⟨rfl, rfl⟩) | (go_at_call 48; refine (fltOk_impl _ _ _).mono ?_; rintro _ wf ⟨rfl, bf⟩; have BF := Lib.hid (vnx (vbelow1 _ _) bf); clear bf) | (go_at_call 33; refine (decOk_impl _ _ _ (HLP.out.kept (vbelow1 _ _)) HFT.out.n.1 HFT.out.n.2).mono ?_; rintro _ wf ⟨rfl, bf⟩; have BF := Lib.hid (vnx (vbelow1 _ _) bf); clear bf) | (go_at_call 161; refine (textOk_impl _ _ HSZ.out (HLU.out.kept (vbelow1 _ _))).mono ?_; rintro _ wf ⟨rfl, bf⟩; have BF := Lib.hid (vnx (vbelow1 _ _) bf); clear bf))
          go_ret
          exact ⟨ret_bool (by rw [HFF.out]), by first | exact vbelow1 _ _ | exact BF.out⟩
        | true =>
          have HFF : Hid (_ = true) := Lib.hid (HOF.out.trans (by rw [h0, h1, h2]; first | done | simp)); clear HOF
          go_enter Tryd.func128, Tryd.ntmps128
          go_wp2_with (first | (go_at_call 86; refine (within_c _ _ _ _).mono ?_; rintro e w' ⟨rfl, rfl⟩) | (go_at_call 48; refine (fltOk_impl _ _ _).mono ?_; rintro _ wf ⟨rfl, bf⟩; have BF := Lib.hid (vnx (vbelow1 _ _) bf); clear bf) | (go_at_call 33; refine (decOk_impl _ _ _ (HLP.out.kept (vbelow1 _ _)) HFT.out.n.1 HFT.out.n.2).mono ?_; rintro _ wf ⟨rfl, bf⟩; have BF := Lib.hid (vnx (vbelow1 _ _) bf); clear bf) | (go_at_call 161; refine (textOk_impl _ _ HSZ.out (HLU.out.kept (vbelow1 _ _))).mono ?_; rintro _ wf ⟨rfl, bf⟩; have BF := Lib.hid (vnx (vbelow1 _ _) bf); clear bf))
          go_ret
          exact ⟨ret_bool (by rw [HFF.out]), by first | exact vbelow1 _ _ | exact BF.out⟩
  by_cases hk5 : t.kind = 5
  · have hof := (own_5 hk5)
    have HOF := Lib.hid hof; clear hof
    clear hk1 hk2 hk3 hk4
    cases h0 : t.s.toList.isEmpty with
    | false =>
      have HFF : Hid (_ = false) := Lib.hid (HOF.out.trans (by rw [h0]; first | done | simp)); clear HOF
      go_enter Tryd.func128, Tryd.ntmps128
      go_wp2_with (first | (go_at_call 86; refine (within_c _ _ _ _).mono ?_; rintro e w' ⟨rfl, rfl⟩) | (go_at_call 48; refine (fltOk_impl _ _ _).mono ?_; rintro _ wf ⟨rfl, bf⟩; have BF := Lib.hid (vnx (vbelow1 _ _) bf); clear bf) | (go_at_call 33; refine (decOk_impl _ _ _ (HLP.out.kept (vbelow1 _ _)) HFT.out.n.1 HFT.out.n.2).mono ?_; rintro _ wf ⟨rfl, bf⟩; have BF := Lib.hid (vnx (vbelow1 _ _) bf); clear bf) | (go_at_call 161; refine (textOk_impl _ _ HSZ.out (HLU.out.kept (vbelow1 _ _))).mono ?_; rintro _ wf ⟨rfl, bf⟩; have BF := Lib.hid (vnx (vbelow1 _ _) bf); clear bf))
      go_ret
      exact ⟨ret_bool (by rw [HFF.out]), by first | exact vbelow1 _ _ | exact BF.out⟩
    | true =>
      cases h1 : (t.x == 0) with
      | false =>
        have HFF : Hid (_ = false) := Lib.hid (HOF.out.trans (by rw [h0, h1]; first | done | simp)); clear HOF
        have e1 : (t.x != 0) = true := by simpa using h1
        go_enter Tryd.func128, Tryd.ntmps128
        go_wp2_with (first | (go_at_call 86; refine (within_c _ _ _ _).mono ?_; rintro e w' ⟨rfl, rfl⟩) | (go_at_call 48; refine (fltOk_impl _ _ _).mono ?_; rintro _ wf ⟨rfl, bf⟩; have BF := Lib.hid (vnx (vbelow1 _ _) bf); clear bf) | (go_at_call 33; refine (decOk_impl _ _ _ (HLP.out.kept (vbelow1 _ _)) HFT.out.n.1 HFT.out.n.2).mono ?_; rintro _ wf ⟨rfl, bf⟩; have BF := Lib.hid (vnx (vbelow1 _ _) bf); clear bf) | (go_at_call 161; refine (textOk_impl _ _ HSZ.out (HLU.out.kept (vbelow1 _ _))).mono ?_; rintro _ wf ⟨rfl, bf⟩; have BF := Lib.hid (vnx (vbelow1 _ _) bf); clear bf))
        go_ret
        exact ⟨ret_bool (by rw [HFF.out]), by first | exact vbelow1 _ _ | exact BF.out⟩
      | true =>
        have e1 : (t.x != 0) = false := by simpa using h1
        cases h2 : ((t.l.length : Int) == 0) with
        | false =>
          have HFF : Hid (_ = false) := Lib.hid (HOF.out.trans (by rw [h0, h1, h2]; first | done | simp)); clear HOF
          have e2 : (0 : Int) < (t.l.length : Int) := (by have q : ¬ ((t.l.length : Int) = 0) := (by simpa using h2); omega)
          go_enter Tryd.func128, Tryd.ntmps128
          go_wp2_with (first | (go_at_call 86; refine (within_c _ _ _ _).mono ?_; rintro e w' ⟨rfl, rfl⟩) | (go_at_call 48; refine (fltOk_impl _ _ _).mono ?_; rintro _ wf ⟨rfl, bf⟩; have BF := Lib.hid (vnx (vbelow1 _ _) bf); clear bf) | (go_at_call 33; refine (decOk_impl _ _ _ (HLP.out.kept (vbelow1 _ _)) HFT.out.n.1 HFT.out.n.2).mono ?_; rintro _ wf ⟨rfl, bf⟩; have BF := Lib.hid (vnx (vbelow1 _ _) bf); clear bf) | (go_at_call 161; refine (textOk_impl _ _ HSZ.out (HLU.out.kept (vbelow1 _ _))).mono ?_; rintro _ wf ⟨rfl, bf⟩; have BF := Lib.hid (vnx (vbelow1 _ _) bf); clear bf))
          go_ret
          exact ⟨ret_bool (by rw [HFF.out]), by first | exact vbelow1 _ _ | exact BF.out⟩
        | true =>
          have e2 : ¬ ((0 : Int) < (t.l.length : Int)) := (by have q : (t.l.length : Int) = 0 := (by simpa using h2); omega)
          cases h3 : inB t.n 0 2 with
          | false =>
            have HFF : Hid (_ = false) := Lib.hid (HOF.out.trans (by rw [h0, h1, h2, h3]; first | done | simp)); clear HOF
            go_enter Tryd.func128, Tryd.ntmps128
            go_wp2_with (first | (go_at_call 86; refine (within_c _ _ _ _).mono ?_; rintro e w' ⟨rfl, rfl⟩) | (go_at_call 48; refine (fltOk_impl _ _ _).mono ?_; rintro _ wf ⟨rfl, bf⟩; have BF := Lib.hid (vnx (vbelow1 _ _) bf); clear bf) | (go_at_call 33; refine (decOk_impl _ _ _ (HLP.out.kept (vbelow1 _ _)) HFT.out.n.1 HFT.out.n.2).mono ?_; rintro _ wf ⟨rfl, bf⟩; have BF := Lib.hid (vnx (vbelow1 _ _) bf); clear bf) | (go_at_call 161; refine (textOk_impl _ _ HSZ.out (HLU.out.kept (vbelow1 _ _))).mono ?_; rintro _ wf ⟨rfl, bf⟩; have BF := Lib.hid (vnx (vbelow1 _ _) bf); clear bf))
            go_ret
            exact ⟨ret_bool (by rw [HFF.out]), by first | exact vbelow1 _ _ | exact BF.out⟩
          | true =>
            have HFF : Hid (_ = true) := Lib.hid (HOF.out.trans (by rw [h0, h1, h2, h3]; first | done | simp)); clear HOF
            go_enter Tryd.func128, Tryd.ntmps128
            go_wp2_with (first | (go_at_call 86; refine (within_c _ _ _ _).mono ?_; rintro e w' ⟨rfl, rfl⟩) | (go_at_call 48; refine (fltOk_impl _ _ _).mono ?_; rintro _ wf ⟨rfl, bf⟩; have BF := Lib.hid (vnx (vbelow1 _ _) bf); clear bf) | (go_at_call 33; refine (decOk_impl _ _ _ (HLP.out.kept (vbelow1 _ _)) HFT.out.n.1 HFT.out.n.2).mono ?_; rintro _ wf ⟨rfl, bf⟩; have BF := Lib.hid (vnx (vbelow1 _ _) bf); clear bf) | (go_at_call 161; refine (textOk_impl _ _ HSZ.out (HLU.out.kept (vbelow1 _ _))).mono ?_; rintro _ wf ⟨rfl, bf⟩; have BF := Lib.hid (vnx (vbelow1 _ _) bf); clear bf))
            go_ret
            exact ⟨ret_bool (by rw [HFF.out]), by first | exact vbelow1 _ _ | exact BF.out⟩
  by_cases hk6 : t.kind = 6
  · have hof := (own_6 hk6)
    have HOF := Lib.hid hof; clear hof
    clear hk1 hk2 hk3 hk4 hk5
    cases h0 : t.s.toList.isEmpty with
    | false =>
      have HFF : Hid (_ = false) := Lib.hid (HOF.out.trans (by rw [h0]; first | done | simp)); clear HOF
      go_enter Tryd.func128, Tryd.ntmps128
      go_wp2_with (first | (go_at_call 86; refine (within_c _ _ _ _).mono ?_; rintro e w' ⟨rfl, rfl⟩) | (go_at_call 48; refine (fltOk_impl _ _ _).mono ?_; rintro _ wf ⟨rfl, bf⟩; have BF := Lib.hid (vnx (vbelow1 _ _) bf); clear bf) | (go_at_call 33; refine (decOk_impl _ _ _ (HLP.out.kept (vbelow1 _ _)) HFT.out.n.1 HFT.out.n.2).mono ?_; rintro _ wf ⟨rfl, bf⟩; have BF := Lib.hid (vnx (vbelow1 _ _) bf); clear bf) | (go_at_call 161; refine (textOk_impl _ _ HSZ.out (HLU.out.kept (vbelow1 _ _))).mono ?_; rintro _ wf ⟨rfl, bf⟩; have BF := Lib.hid (vnx (vbelow1 _ _) bf); clear bf))
      go_ret
      exact ⟨ret_bool (by rw [HFF.out]), by first | exact vbelow1 _ _ | exact BF.out⟩
    | true =>
      cases h1 : ((t.l.length : Int) == 0) with
      | false =>
        have HFF : Hid (_ = false) := Lib.hid (HOF.out.trans (by rw [h0, h1]; first | done | simp)); clear HOF
        have e1 : (0 : Int) < (t.l.length : Int) := (by have q : ¬ ((t.l.length : Int) = 0) := (by simpa using h1); omega)
        go_enter Tryd.func128, Tryd.ntmps128
        go_wp2_with (first | (go_at_call 86; refine (within_c _ _ _ _).mono ?_; rintro e w' ⟨rfl, rfl⟩) | (go_at_call 48; refine (fltOk_impl _ _ _).mono ?_; rintro _ wf ⟨rfl, bf⟩; have BF := Lib.hid (vnx (vbelow1 _ _) bf); clear bf) | (go_at_call 33; refine (decOk_impl _ _ _ (HLP.out.kept (vbelow1 _ _)) HFT.out.n.1 HFT.out.n.2).mono ?_; rintro _ wf ⟨rfl, bf⟩; have BF := Lib.hid (vnx (vbelow1 _ _) bf); clear bf) | (go_at_call 161; refine (textOk_impl _ _ HSZ.out (HLU.out.kept (vbelow1 _ _))).mono ?_; rintro _ wf ⟨rfl, bf⟩; have BF := Lib.hid (vnx (vbelow1 _ _) bf); clear bf))
        go_ret
        exact ⟨ret_bool (by rw [HFF.out]), by first | exact vbelow1 _ _ | exact BF.out⟩
      | true =>
        have e1 : ¬ ((0 : Int) < (t.l.length : Int)) := (by have q : (t.l.length : Int) = 0 := (by simpa using h1); omega)
        cases h2 : decide (t.x < 0) with
        | false =>
          have HFF : Hid (_ = false) := Lib.hid (HOF.out.trans (by rw [h0, h1, h2]; first | done | simp)); clear HOF
          go_enter Tryd.func128, Tryd.ntmps128
          go_wp2_with (first | (go_at_call 86; refine (within_c _ _ _ _).mono ?_; rintro e w' ⟨rfl, rfl⟩) | (go_at_call 48; refine (fltOk_impl _ _ _).mono ?_; rintro _ wf ⟨rfl, bf⟩; have BF := Lib.hid (vnx (vbelow1 _ _) bf); clear bf) | (go_at_call 33; refine (decOk_impl _ _ _ (HLP.out.kept (vbelow1 _ _)) HFT.out.n.1 HFT.out.n.2).mono ?_; rintro _ wf ⟨rfl, bf⟩; have BF := Lib.hid (vnx (vbelow1 _ _) bf); clear bf) | (go_at_call 161; refine (textOk_impl _ _ HSZ.out (HLU.out.kept (vbelow1 _ _))).mono ?_; rintro _ wf ⟨rfl, bf⟩; have BF := Lib.hid (vnx (vbelow1 _ _) bf); clear bf))
          go_ret
          exact ⟨ret_bool (by rw [HFF.out]), by first | exact vbelow1 _ _ | exact BF.out⟩
        | true =>
          cases h3 : decOkB t.n t.x with
          | false =>
            have HFF : Hid (_ = false) := Lib.hid (HOF.out.trans (by rw [h0, h1, h2, h3]; first | done | simp)); clear HOF
            go_enter Tryd.func128, Tryd.ntmps128
            go_wp2_with (first | (go_at_call 86; refine (within_c _ _ _ _).mono ?_; rintro e w' ⟨rfl, rfl⟩) | (go_at_call 48; refine (fltOk_impl _ _ _).mono ?_; rintro _ wf ⟨rfl, bf⟩; have BF := Lib.hid (vnx (vbelow1 _ _) bf); clear bf) | (go_at_call 33; refine (decOk_impl _ _ _ (HLP.out.kept (vbelow1 _ _)) HFT.out.n.1 HFT.out.n.2).mono ?_; rintro _ wf ⟨rfl, bf⟩; have BF := Lib.hid (vnx (vbelow1 _ _) bf); clear bf) | (go_at_call 161; refine (textOk_impl _ _ HSZ.out (HLU.out.kept (vbelow1 _ _))).mono ?_; rintro _ wf ⟨rfl, bf⟩; have BF := Lib.hid (vnx (vbelow1 _ _) bf); clear bf))
            go_ret
            exact ⟨ret_bool (by rw [HFF.out]), by first | exact vbelow1 _ _ | exact BF.out⟩
          | true =>
            have HFF : Hid (_ = true) := Lib.hid (HOF.out.trans (by rw [h0, h1, h2, h3]; first | done | simp)); clear HOF
            go_enter Tryd.func128, Tryd.ntmps128
            go_wp2_with (first | (go_at_call 86; refine (within_c _ _ _ _).mono ?_; rintro e w' ⟨rfl, rfl⟩) | (go_at_call 48; refine (fltOk_impl _ _ _).mono ?_; rintro _ wf ⟨rfl, bf⟩; have BF := Lib.hid (vnx (vbelow1 _ _) bf); clear bf) | (go_at_call 33; refine (decOk_impl _ _ _ (HLP.out.kept (vbelow1 _ _)) HFT.out.n.1 HFT.out.n.2).mono ?_; rintro _ wf ⟨rfl, bf⟩; have BF := Lib.hid (vnx (vbelow1 _ _) bf); clear bf) | (go_at_call 161; refine (textOk_impl _ _ HSZ.out (HLU.out.kept (vbelow1 _ _))).mono ?_; rintro _ wf ⟨rfl, bf⟩; have BF := Lib.hid (vnx (vbelow1 _ _) bf); clear bf))
            go_ret
            exact ⟨ret_bool (by rw [HFF.out]), by first | exact vbelow1 _ _ | exact BF.out⟩
  by_cases hk7 : t.kind = 7
  · have hof := (own_7 hk7)
    have HOF := Lib.hid hof; clear hof
    clear hk1 hk2 hk3 hk4 hk5 hk6
    cases h0 : (t.x == 0) with
    | false =>
      have HFF : Hid (_ = false) := Lib.hid (HOF.out.trans (by rw [h0]; first | done | simp)); clear HOF
      have e0 : (t.x != 0) = true := by simpa using h0
      go_enter Tryd.func128, Tryd.ntmps128
      go_wp2_with (first | (go_at_call 86; refine (within_c _ _ _ _).mono ?_; rintro e w' ⟨rfl, rfl⟩) | (go_at_call 48; refine (fltOk_impl _ _ _).mono ?_; rintro _ wf ⟨rfl, bf⟩; have BF := Lib.hid (vnx (vbelow1 _ _) bf); clear bf) | (go_at_call 33; refine (decOk_impl _ _ _ (HLP.out.kept (vbelow1 _ _)) HFT.out.n.1 HFT.out.n.2).mono ?_; rintro _ wf ⟨rfl, bf⟩; have BF := Lib.hid (vnx (vbelow1 _ _) bf); clear bf) | (go_at_call 161; refine (textOk_impl _ _ HSZ.out (HLU.out.kept (vbelow1 _ _))).mono ?_; rintro _ wf ⟨rfl, bf⟩; have BF := Lib.hid (vnx (vbelow1 _ _) bf); clear bf))
      go_ret
      exact ⟨ret_bool (by rw [HFF.out]), by first | exact vbelow1 _ _ | exact BF.out⟩
    | true =>
      have e0 : (t.x != 0) = false := by simpa using h0
      cases h1 : ((t.l.length : Int) == 0) with
      | false =>
        have HFF : Hid (_ = false) := Lib.hid (HOF.out.trans (by rw [h0, h1]; first | done | simp)); clear HOF
        have e1 : (0 : Int) < (t.l.length : Int) := (by have q : ¬ ((t.l.length : Int) = 0) := (by simpa using h1); omega)
        go_enter Tryd.func128, Tryd.ntmps128
        go_wp2_with (first | (go_at_call 86; refine (within_c _ _ _ _).mono ?_; rintro e w' ⟨rfl, rfl⟩) | (go_at_call 48; refine (fltOk_impl _ _ _).mono ?_; rintro _ wf ⟨rfl, bf⟩; have BF := Lib.hid (vnx (vbelow1 _ _) bf); clear bf) | (go_at_call 33; refine (decOk_impl _ _ _ (HLP.out.kept (vbelow1 _ _)) HFT.out.n.1 HFT.out.n.2).mono ?_; rintro _ wf ⟨rfl, bf⟩; have BF := Lib.hid (vnx (vbelow1 _ _) bf); clear bf) | (go_at_call 161; refine (textOk_impl _ _ HSZ.out (HLU.out.kept (vbelow1 _ _))).mono ?_; rintro _ wf ⟨rfl, bf⟩; have BF := Lib.hid (vnx (vbelow1 _ _) bf); clear bf))
        go_ret
        exact ⟨ret_bool (by rw [HFF.out]), by first | exact vbelow1 _ _ | exact BF.out⟩
      | true =>
        have e1 : ¬ ((0 : Int) < (t.l.length : Int)) := (by have q : (t.l.length : Int) = 0 := (by simpa using h1); omega)
        cases h2 : (t.n == 0) with
        | false =>
          have HFF : Hid (_ = false) := Lib.hid (HOF.out.trans (by rw [h0, h1, h2]; first | done | simp)); clear HOF
          go_enter Tryd.func128, Tryd.ntmps128
          go_wp2_with (first | (go_at_call 86; refine (within_c _ _ _ _).mono ?_; rintro e w' ⟨rfl, rfl⟩) | (go_at_call 48; refine (fltOk_impl _ _ _).mono ?_; rintro _ wf ⟨rfl, bf⟩; have BF := Lib.hid (vnx (vbelow1 _ _) bf); clear bf) | (go_at_call 33; refine (decOk_impl _ _ _ (HLP.out.kept (vbelow1 _ _)) HFT.out.n.1 HFT.out.n.2).mono ?_; rintro _ wf ⟨rfl, bf⟩; have BF := Lib.hid (vnx (vbelow1 _ _) bf); clear bf) | (go_at_call 161; refine (textOk_impl _ _ HSZ.out (HLU.out.kept (vbelow1 _ _))).mono ?_; rintro _ wf ⟨rfl, bf⟩; have BF := Lib.hid (vnx (vbelow1 _ _) bf); clear bf))
          go_ret
          exact ⟨ret_bool (by rw [HFF.out]), by first | exact vbelow1 _ _ | exact BF.out⟩
        | true =>
          cases h3 : Lib.validD t.s.data.toList with
          | false =>
            have HFF : Hid (_ = false) := Lib.hid (HOF.out.trans (by rw [h0, h1, h2, h3]; first | done | simp)); clear HOF
            go_enter Tryd.func128, Tryd.ntmps128
            go_wp2_with (first | (go_at_call 86; refine (within_c _ _ _ _).mono ?_; rintro e w' ⟨rfl, rfl⟩) | (go_at_call 48; refine (fltOk_impl _ _ _).mono ?_; rintro _ wf ⟨rfl, bf⟩; have BF := Lib.hid (vnx (vbelow1 _ _) bf); clear bf) | (go_at_call 33; refine (decOk_impl _ _ _ (HLP.out.kept (vbelow1 _ _)) HFT.out.n.1 HFT.out.n.2).mono ?_; rintro _ wf ⟨rfl, bf⟩; have BF := Lib.hid (vnx (vbelow1 _ _) bf); clear bf) | (go_at_call 161; refine (textOk_impl _ _ HSZ.out (HLU.out.kept (vbelow1 _ _))).mono ?_; rintro _ wf ⟨rfl, bf⟩; have BF := Lib.hid (vnx (vbelow1 _ _) bf); clear bf))
            go_ret
            exact ⟨ret_bool (by rw [HFF.out]), by first | exact vbelow1 _ _ | exact BF.out⟩
          | true =>
            have HFF : Hid (_ = true) := Lib.hid (HOF.out.trans (by rw [h0, h1, h2, h3]; first | done | simp)); clear HOF
            go_enter Tryd.func128, Tryd.ntmps128
            go_wp2_with (first | (go_at_call 86; refine (within_c _ _ _ _).mono ?_; rintro e w' ⟨rfl, rfl⟩) | (go_at_call 48; refine (fltOk_impl _ _ _).mono ?_; rintro _ wf ⟨rfl, bf⟩; have BF := Lib.hid (vnx (vbelow1 _ _) bf); clear bf) | (go_at_call 33; refine (decOk_impl _ _ _ (HLP.out.kept (vbelow1 _ _)) HFT.out.n.1 HFT.out.n.2).mono ?_; rintro _ wf ⟨rfl, bf⟩; have BF := Lib.hid (vnx (vbelow1 _ _) bf); clear bf) | (go_at_call 161; refine (textOk_impl _ _ HSZ.out (HLU.out.kept (vbelow1 _ _))).mono ?_; rintro _ wf ⟨rfl, bf⟩; have BF := Lib.hid (vnx (vbelow1 _ _) bf); clear bf))
            go_ret
            exact ⟨ret_bool (by rw [HFF.out]), by first | exact vbelow1 _ _ | exact BF.out⟩
  by_cases hk8 : t.kind = 8
  · have hof := (own_8 hk8)
    have HOF := Lib.hid hof; clear hof
    clear hk1 hk2 hk3 hk4 hk5 hk6 hk7
    cases h0 : (t.x == 0) with
    | false =>
      have HFF : Hid (_ = false) := Lib.hid (HOF.out.trans (by rw [h0]; first | done | simp)); clear HOF
      have e0 : (t.x != 0) = true := by simpa using h0
      go_enter Tryd.func128, Tryd.ntmps128
      go_wp2_with (first | (go_at_call 86; refine (within_c _ _ _ _).mono ?_; rintro e w' ⟨rfl, rfl⟩) | (go_at_call 48; refine (fltOk_impl _ _ _).mono ?_; rintro _ wf ⟨rfl, bf⟩; have BF := Lib.hid (vnx (vbelow1 _ _) bf); clear bf) | (go_at_call 33; refine (decOk_impl _ _ _ (HLP.out.kept (vbelow1 _ _)) HFT.out.n.1 HFT.out.n.2).mono ?_; rintro _ wf ⟨rfl, bf⟩; have BF := Lib.hid (vnx (vbelow1 _ _) bf); clear bf) | (go_at_call 161; refine (textOk_impl _ _ HSZ.out (HLU.out.kept (vbelow1 _ _))).mono ?_; rintro _ wf ⟨rfl, bf⟩; have BF := Lib.hid (vnx (vbelow1 _ _) bf); clear bf))
      go_ret
      exact ⟨ret_bool (by rw [HFF.out]), by first | exact vbelow1 _ _ | exact BF.out⟩
    | true =>
      have e0 : (t.x != 0) = false := by simpa using h0
      cases h1 : ((t.l.length : Int) == 0) with
      | false =>
        have HFF : Hid (_ = false) := Lib.hid (HOF.out.trans (by rw [h0, h1]; first | done | simp)); clear HOF
        have e1 : (0 : Int) < (t.l.length : Int) := (by have q : ¬ ((t.l.length : Int) = 0) := (by simpa using h1); omega)
        go_enter Tryd.func128, Tryd.ntmps128
        go_wp2_with (first | (go_at_call 86; refine (within_c _ _ _ _).mono ?_; rintro e w' ⟨rfl, rfl⟩) | (go_at_call 48; refine (fltOk_impl _ _ _).mono ?_; rintro _ wf ⟨rfl, bf⟩; have BF := Lib.hid (vnx (vbelow1 _ _) bf); clear bf) | (go_at_call 33; refine (decOk_impl _ _ _ (HLP.out.kept (vbelow1 _ _)) HFT.out.n.1 HFT.out.n.2).mono ?_; rintro _ wf ⟨rfl, bf⟩; have BF := Lib.hid (vnx (vbelow1 _ _) bf); clear bf) | (go_at_call 161; refine (textOk_impl _ _ HSZ.out (HLU.out.kept (vbelow1 _ _))).mono ?_; rintro _ wf ⟨rfl, bf⟩; have BF := Lib.hid (vnx (vbelow1 _ _) bf); clear bf))
        go_ret
        exact ⟨ret_bool (by rw [HFF.out]), by first | exact vbelow1 _ _ | exact BF.out⟩
      | true =>
        have e1 : ¬ ((0 : Int) < (t.l.length : Int)) := (by have q : (t.l.length : Int) = 0 := (by simpa using h1); omega)
        cases h2 : (t.n == 0) with
        | false =>
          have HFF : Hid (_ = false) := Lib.hid (HOF.out.trans (by rw [h0, h1, h2]; first | done | simp)); clear HOF
          go_enter Tryd.func128, Tryd.ntmps128
          go_wp2_with (first | (go_at_call 86; refine (within_c _ _ _ _).mono ?_; rintro e w' ⟨rfl, rfl⟩) | (go_at_call 48; refine (fltOk_impl _ _ _).mono ?_; rintro _ wf ⟨rfl, bf⟩; have BF := Lib.hid (vnx (vbelow1 _ _) bf); clear bf) | (go_at_call 33; refine (decOk_impl _ _ _ (HLP.out.kept (vbelow1 _ _)) HFT.out.n.1 HFT.out.n.2).mono ?_; rintro _ wf ⟨rfl, bf⟩; have BF := Lib.hid (vnx (vbelow1 _ _) bf); clear bf) | (go_at_call 161; refine (textOk_impl _ _ HSZ.out (HLU.out.kept (vbelow1 _ _))).mono ?_; rintro _ wf ⟨rfl, bf⟩; have BF := Lib.hid (vnx (vbelow1 _ _) bf); clear bf))
          go_ret
          exact ⟨ret_bool (by rw [HFF.out]), by first | exact vbelow1 _ _ | exact BF.out⟩
        | true =>
          have HFF : Hid (_ = true) := Lib.hid (HOF.out.trans (by rw [h0, h1, h2]; first | done | simp)); clear HOF
          go_enter Tryd.func128, Tryd.ntmps128
          go_wp2_with (first | (go_at_call 86; refine (within_c _ _ _ _).mono ?_; rintro e w' ⟨rfl, rfl⟩) | (go_at_call 48; refine (fltOk_impl _ _ _).mono ?_; rintro _ wf ⟨rfl, bf⟩; have BF := Lib.hid (vnx (vbelow1 _ _) bf); clear bf) | (go_at_call 33; refine (decOk_impl _ _ _ (HLP.out.kept (vbelow1 _ _)) HFT.out.n.1 HFT.out.n.2).mono ?_; rintro _ wf ⟨rfl, bf⟩; have BF := Lib.hid (vnx (vbelow1 _ _) bf); clear bf) | (go_at_call 161; refine (textOk_impl _ _ HSZ.out (HLU.out.kept (vbelow1 _ _))).mono ?_; rintro _ wf ⟨rfl, bf⟩; have BF := Lib.hid (vnx (vbelow1 _ _) bf); clear bf))
          go_ret
          exact ⟨ret_bool (by rw [HFF.out]), by first | exact vbelow1 _ _ | exact BF.out⟩
  by_cases hk9 : t.kind = 9
  · have hof := (own_9 hk9)
    have HOF := Lib.hid hof; clear hof
    clear hk1 hk2 hk3 hk4 hk5 hk6 hk7 hk8
    cases h0 : t.s.toList.isEmpty with
    | false =>
      have HFF : Hid (_ = false) := Lib.hid (HOF.out.trans (by rw [h0]; first | done | simp)); clear HOF
      go_enter Tryd.func128, Tryd.ntmps128
      go_wp2_with (first | (go_at_call 86; refine (within_c _ _ _ _).mono ?_; rintro e w' ⟨rfl, rfl⟩) | (go_at_call 48; refine (fltOk_impl _ _ _).mono ?_; rintro _ wf ⟨rfl, bf⟩; have BF := Lib.hid (vnx (vbelow1 _ _) bf); clear bf) | (go_at_call 33; refine (decOk_impl _ _ _ (HLP.out.kept (vbelow1 _ _)) HFT.out.n.1 HFT.out.n.2).mono ?_; rintro _ wf ⟨rfl, bf⟩; have BF := Lib.hid (vnx (vbelow1 _ _) bf); clear bf) | (go_at_call 161; refine (textOk_impl _ _ HSZ.out (HLU.out.kept (vbelow1 _ _))).mono ?_; rintro _ wf ⟨rfl, bf⟩; have BF := Lib.hid (vnx (vbelow1 _ _) bf); clear bf))
      go_ret
      exact ⟨ret_bool (by rw [HFF.out]), by first | exact vbelow1 _ _ | exact BF.out⟩
    | true =>
      cases h1 : (t.x == 0) with
      | false =>
        have HFF : Hid (_ = false) := Lib.hid (HOF.out.trans (by rw [h0, h1]; first | done | simp)); clear HOF
        have e1 : (t.x != 0) = true := by simpa using h1
        go_enter Tryd.func128, Tryd.ntmps128
        go_wp2_with (first | (go_at_call 86; refine (within_c _ _ _ _).mono ?_; rintro e w' ⟨rfl, rfl⟩) | (go_at_call 48; refine (fltOk_impl _ _ _).mono ?_; rintro _ wf ⟨rfl, bf⟩; have BF := Lib.hid (vnx (vbelow1 _ _) bf); clear bf) | (go_at_call 33; refine (decOk_impl _ _ _ (HLP.out.kept (vbelow1 _ _)) HFT.out.n.1 HFT.out.n.2).mono ?_; rintro _ wf ⟨rfl, bf⟩; have BF := Lib.hid (vnx (vbelow1 _ _) bf); clear bf) | (go_at_call 161; refine (textOk_impl _ _ HSZ.out (HLU.out.kept (vbelow1 _ _))).mono ?_; rintro _ wf ⟨rfl, bf⟩; have BF := Lib.hid (vnx (vbelow1 _ _) bf); clear bf))
        go_ret
        exact ⟨ret_bool (by rw [HFF.out]), by first | exact vbelow1 _ _ | exact BF.out⟩
      | true =>
        have e1 : (t.x != 0) = false := by simpa using h1
        cases h2 : (t.n == 0) with
        | false =>
          have HFF : Hid (_ = false) := Lib.hid (HOF.out.trans (by rw [h0, h1, h2]; first | done | simp)); clear HOF
          go_enter Tryd.func128, Tryd.ntmps128
          go_wp2_with (first | (go_at_call 86; refine (within_c _ _ _ _).mono ?_; rintro e w' ⟨rfl, rfl⟩) | (go_at_call 48; refine (fltOk_impl _ _ _).mono ?_; rintro _ wf ⟨rfl, bf⟩; have BF := Lib.hid (vnx (vbelow1 _ _) bf); clear bf) | (go_at_call 33; refine (decOk_impl _ _ _ (HLP.out.kept (vbelow1 _ _)) HFT.out.n.1 HFT.out.n.2).mono ?_; rintro _ wf ⟨rfl, bf⟩; have BF := Lib.hid (vnx (vbelow1 _ _) bf); clear bf) | (go_at_call 161; refine (textOk_impl _ _ HSZ.out (HLU.out.kept (vbelow1 _ _))).mono ?_; rintro _ wf ⟨rfl, bf⟩; have BF := Lib.hid (vnx (vbelow1 _ _) bf); clear bf))
          go_ret
          exact ⟨ret_bool (by rw [HFF.out]), by first | exact vbelow1 _ _ | exact BF.out⟩
        | true =>
          have HFF : Hid (_ = true) := Lib.hid (HOF.out.trans (by rw [h0, h1, h2]; first | done | simp)); clear HOF
          go_enter Tryd.func128, Tryd.ntmps128
          go_wp2_with (first | (go_at_call 86; refine (within_c _ _ _ _).mono ?_; rintro e w' ⟨rfl, rfl⟩) | (go_at_call 48; refine (fltOk_impl _ _ _).mono ?_; rintro _ wf ⟨rfl, bf⟩; have BF := Lib.hid (vnx (vbelow1 _ _) bf); clear bf) | (go_at_call 33; refine (decOk_impl _ _ _ (HLP.out.kept (vbelow1 _ _)) HFT.out.n.1 HFT.out.n.2).mono ?_; rintro _ wf ⟨rfl, bf⟩; have BF := Lib.hid (vnx (vbelow1 _ _) bf); clear bf) | (go_at_call 161; refine (textOk_impl _ _ HSZ.out (HLU.out.kept (vbelow1 _ _))).mono ?_; rintro _ wf ⟨rfl, bf⟩; have BF := Lib.hid (vnx (vbelow1 _ _) bf); clear bf))
          go_ret
          exact ⟨ret_bool (by rw [HFF.out]), by first | exact vbelow1 _ _ | exact BF.out⟩
  by_cases hk10 : t.kind = 10
  · have hof := (own_10 hk10)
    have HOF := Lib.hid hof; clear hof
    clear hk1 hk2 hk3 hk4 hk5 hk6 hk7 hk8 hk9
    cases h0 : t.s.toList.isEmpty with
    | false =>
      have HFF : Hid (_ = false) := Lib.hid (HOF.out.trans (by rw [h0]; first | done | simp)); clear HOF
      go_enter Tryd.func128, Tryd.ntmps128
      go_wp2_with (first | (go_at_call 86; refine (within_c _ _ _ _).mono ?_; rintro e w' ⟨rfl, rfl⟩) | (go_at_call 48; refine (fltOk_impl _ _ _).mono ?_; rintro _ wf ⟨rfl, bf⟩; have BF := Lib.hid (vnx (vbelow1 _ _) bf); clear bf) | (go_at_call 33; refine (decOk_impl _ _ _ (HLP.out.kept (vbelow1 _ _)) HFT.out.n.1 HFT.out.n.2).mono ?_; rintro _ wf ⟨rfl, bf⟩; have BF := Lib.hid (vnx (vbelow1 _ _) bf); clear bf) | (go_at_call 161; refine (textOk_impl _ _ HSZ.out (HLU.out.kept (vbelow1 _ _))).mono ?_; rintro _ wf ⟨rfl, bf⟩; have BF := Lib.hid (vnx (vbelow1 _ _) bf); clear bf))
      go_ret
      exact ⟨ret_bool (by rw [HFF.out]), by first | exact vbelow1 _ _ | exact BF.out⟩
    | true =>
      cases h1 : (t.x == 0) with
      | false =>
        have HFF : Hid (_ = false) := Lib.hid (HOF.out.trans (by rw [h0, h1]; first | done | simp)); clear HOF
        have e1 : (t.x != 0) = true := by simpa using h1
        go_enter Tryd.func128, Tryd.ntmps128
        go_wp2_with (first | (go_at_call 86; refine (within_c _ _ _ _).mono ?_; rintro e w' ⟨rfl, rfl⟩) | (go_at_call 48; refine (fltOk_impl _ _ _).mono ?_; rintro _ wf ⟨rfl, bf⟩; have BF := Lib.hid (vnx (vbelow1 _ _) bf); clear bf) | (go_at_call 33; refine (decOk_impl _ _ _ (HLP.out.kept (vbelow1 _ _)) HFT.out.n.1 HFT.out.n.2).mono ?_; rintro _ wf ⟨rfl, bf⟩; have BF := Lib.hid (vnx (vbelow1 _ _) bf); clear bf) | (go_at_call 161; refine (textOk_impl _ _ HSZ.out (HLU.out.kept (vbelow1 _ _))).mono ?_; rintro _ wf ⟨rfl, bf⟩; have BF := Lib.hid (vnx (vbelow1 _ _) bf); clear bf))
        go_ret
        exact ⟨ret_bool (by rw [HFF.out]), by first | exact vbelow1 _ _ | exact BF.out⟩
      | true =>
        have e1 : (t.x != 0) = false := by simpa using h1
        cases h2 : (t.n == 0) with
        | false =>
          have HFF : Hid (_ = false) := Lib.hid (HOF.out.trans (by rw [h0, h1, h2]; first | done | simp)); clear HOF
          go_enter Tryd.func128, Tryd.ntmps128
          go_wp2_with (first | (go_at_call 86; refine (within_c _ _ _ _).mono ?_; rintro e w' ⟨rfl, rfl⟩) | (go_at_call 48; refine (fltOk_impl _ _ _).mono ?_; rintro _ wf ⟨rfl, bf⟩; have BF := Lib.hid (vnx (vbelow1 _ _) bf); clear bf) | (go_at_call 33; refine (decOk_impl _ _ _ (HLP.out.kept (vbelow1 _ _)) HFT.out.n.1 HFT.out.n.2).mono ?_; rintro _ wf ⟨rfl, bf⟩; have BF := Lib.hid (vnx (vbelow1 _ _) bf); clear bf) | (go_at_call 161; refine (textOk_impl _ _ HSZ.out (HLU.out.kept (vbelow1 _ _))).mono ?_; rintro _ wf ⟨rfl, bf⟩; have BF := Lib.hid (vnx (vbelow1 _ _) bf); clear bf))
          go_ret
          exact ⟨ret_bool (by rw [HFF.out]), by first | exact vbelow1 _ _ | exact BF.out⟩
        | true =>
          cases h3 : ((t.l.length : Int) % 2 == 0) with
          | false =>
            have HFF : Hid (_ = false) := Lib.hid (HOF.out.trans (by rw [h0, h1, h2, h3]; first | done | simp)); clear HOF
            go_enter Tryd.func128, Tryd.ntmps128
            go_wp2_with (first | (go_at_call 86; refine (within_c _ _ _ _).mono ?_; rintro e w' ⟨rfl, rfl⟩) | (go_at_call 48; refine (fltOk_impl _ _ _).mono ?_; rintro _ wf ⟨rfl, bf⟩; have BF := Lib.hid (vnx (vbelow1 _ _) bf); clear bf) | (go_at_call 33; refine (decOk_impl _ _ _ (HLP.out.kept (vbelow1 _ _)) HFT.out.n.1 HFT.out.n.2).mono ?_; rintro _ wf ⟨rfl, bf⟩; have BF := Lib.hid (vnx (vbelow1 _ _) bf); clear bf) | (go_at_call 161; refine (textOk_impl _ _ HSZ.out (HLU.out.kept (vbelow1 _ _))).mono ?_; rintro _ wf ⟨rfl, bf⟩; have BF := Lib.hid (vnx (vbelow1 _ _) bf); clear bf))
            go_ret
            exact ⟨ret_bool (by rw [HFF.out]), by first | exact vbelow1 _ _ | exact BF.out⟩
          | true =>
            have HFF : Hid (_ = true) := Lib.hid (HOF.out.trans (by rw [h0, h1, h2, h3]; first | done | simp)); clear HOF
            go_enter Tryd.func128, Tryd.ntmps128
            go_wp2_with (first | (go_at_call 86; refine (within_c _ _ _ _).mono ?_; rintro e w' ⟨rfl, rfl⟩) | (go_at_call 48; refine (fltOk_impl _ _ _).mono ?_; rintro _ wf ⟨rfl, bf⟩; have BF := Lib.hid (vnx (vbelow1 _ _) bf); clear bf) | (go_at_call 33; refine (decOk_impl _ _ _ (HLP.out.kept (vbelow1 _ _)) HFT.out.n.1 HFT.out.n.2).mono ?_; rintro _ wf ⟨rfl, bf⟩; have BF := Lib.hid (vnx (vbelow1 _ _) bf); clear bf) | (go_at_call 161; refine (textOk_impl _ _ HSZ.out (HLU.out.kept (vbelow1 _ _))).mono ?_; rintro _ wf ⟨rfl, bf⟩; have BF := Lib.hid (vnx (vbelow1 _ _) bf); clear bf))
            go_ret
            exact ⟨ret_bool (by rw [HFF.out]), by first | exact vbelow1 _ _ | exact BF.out⟩
  by_cases hk11 : t.kind = 11
  · have hof := (own_11 hk11)
    have HOF := Lib.hid hof; clear hof
    clear hk1 hk2 hk3 hk4 hk5 hk6 hk7 hk8 hk9 hk10
    cases h0 : t.s.toList.isEmpty with
    | false =>
      have HFF : Hid (_ = false) := Lib.hid (HOF.out.trans (by rw [h0]; first | done | simp)); clear HOF
      go_enter Tryd.func128, Tryd.ntmps128
      go_wp2_with (first | (go_at_call 86; refine (within_c _ _ _ _).mono ?_; rintro e w' ⟨rfl, rfl⟩) | (go_at_call 48; refine (fltOk_impl _ _ _).mono ?_; rintro _ wf ⟨rfl, bf⟩; have BF := Lib.hid (vnx (vbelow1 _ _) bf); clear bf) | (go_at_call 33; refine (decOk_impl _ _ _ (HLP.out.kept (vbelow1 _ _)) HFT.out.n.1 HFT.out.n.2).mono ?_; rintro _ wf ⟨rfl, bf⟩; have BF := Lib.hid (vnx (vbelow1 _ _) bf); clear bf) | (go_at_call 161; refine (textOk_impl _ _ HSZ.out (HLU.out.kept (vbelow1 _ _))).mono ?_; rintro _ wf ⟨rfl, bf⟩; have BF := Lib.hid (vnx (vbelow1 _ _) bf); clear bf))
      go_ret
      exact ⟨ret_bool (by rw [HFF.out]), by first | exact vbelow1 _ _ | exact BF.out⟩
    | true =>
      cases h1 : (t.x == 0) with
      | false =>
        have HFF : Hid (_ = false) := Lib.hid (HOF.out.trans (by rw [h0, h1]; first | done | simp)); clear HOF
        have e1 : (t.x != 0) = true := by simpa using h1
        go_enter Tryd.func128, Tryd.ntmps128
        go_wp2_with (first | (go_at_call 86; refine (within_c _ _ _ _).mono ?_; rintro e w' ⟨rfl, rfl⟩) | (go_at_call 48; refine (fltOk_impl _ _ _).mono ?_; rintro _ wf ⟨rfl, bf⟩; have BF := Lib.hid (vnx (vbelow1 _ _) bf); clear bf) | (go_at_call 33; refine (decOk_impl _ _ _ (HLP.out.kept (vbelow1 _ _)) HFT.out.n.1 HFT.out.n.2).mono ?_; rintro _ wf ⟨rfl, bf⟩; have BF := Lib.hid (vnx (vbelow1 _ _) bf); clear bf) | (go_at_call 161; refine (textOk_impl _ _ HSZ.out (HLU.out.kept (vbelow1 _ _))).mono ?_; rintro _ wf ⟨rfl, bf⟩; have BF := Lib.hid (vnx (vbelow1 _ _) bf); clear bf))
        go_ret
        exact ⟨ret_bool (by rw [HFF.out]), by first | exact vbelow1 _ _ | exact BF.out⟩
      | true =>
        have e1 : (t.x != 0) = false := by simpa using h1
        cases h2 : inB t.n 0 1000000000000000 with
        | false =>
          have HFF : Hid (_ = false) := Lib.hid (HOF.out.trans (by rw [h0, h1, h2]; first | done | simp)); clear HOF
          go_enter Tryd.func128, Tryd.ntmps128
          go_wp2_with (first | (go_at_call 86; refine (within_c _ _ _ _).mono ?_; rintro e w' ⟨rfl, rfl⟩) | (go_at_call 48; refine (fltOk_impl _ _ _).mono ?_; rintro _ wf ⟨rfl, bf⟩; have BF := Lib.hid (vnx (vbelow1 _ _) bf); clear bf) | (go_at_call 33; refine (decOk_impl _ _ _ (HLP.out.kept (vbelow1 _ _)) HFT.out.n.1 HFT.out.n.2).mono ?_; rintro _ wf ⟨rfl, bf⟩; have BF := Lib.hid (vnx (vbelow1 _ _) bf); clear bf) | (go_at_call 161; refine (textOk_impl _ _ HSZ.out (HLU.out.kept (vbelow1 _ _))).mono ?_; rintro _ wf ⟨rfl, bf⟩; have BF := Lib.hid (vnx (vbelow1 _ _) bf); clear bf))
          go_ret
          exact ⟨ret_bool (by rw [HFF.out]), by first | exact vbelow1 _ _ | exact BF.out⟩
        | true =>
          cases h3 : ((t.l.length : Int) == 1) with
          | false =>
            have HFF : Hid (_ = false) := Lib.hid (HOF.out.trans (by rw [h0, h1, h2, h3]; first | done | simp)); clear HOF
            go_enter Tryd.func128, Tryd.ntmps128
            go_wp2_with (first | (go_at_call 86; refine (within_c _ _ _ _).mono ?_; rintro e w' ⟨rfl, rfl⟩) | (go_at_call 48; refine (fltOk_impl _ _ _).mono ?_; rintro _ wf ⟨rfl, bf⟩; have BF := Lib.hid (vnx (vbelow1 _ _) bf); clear bf) | (go_at_call 33; refine (decOk_impl _ _ _ (HLP.out.kept (vbelow1 _ _)) HFT.out.n.1 HFT.out.n.2).mono ?_; rintro _ wf ⟨rfl, bf⟩; have BF := Lib.hid (vnx (vbelow1 _ _) bf); clear bf) | (go_at_call 161; refine (textOk_impl _ _ HSZ.out (HLU.out.kept (vbelow1 _ _))).mono ?_; rintro _ wf ⟨rfl, bf⟩; have BF := Lib.hid (vnx (vbelow1 _ _) bf); clear bf))
            go_ret
            exact ⟨ret_bool (by rw [HFF.out]), by first | exact vbelow1 _ _ | exact BF.out⟩
          | true =>
            have HFF : Hid (_ = true) := Lib.hid (HOF.out.trans (by rw [h0, h1, h2, h3]; first | done | simp)); clear HOF
            go_enter Tryd.func128, Tryd.ntmps128
            go_wp2_with (first | (go_at_call 86; refine (within_c _ _ _ _).mono ?_; rintro e w' ⟨rfl, rfl⟩) | (go_at_call 48; refine (fltOk_impl _ _ _).mono ?_; rintro _ wf ⟨rfl, bf⟩; have BF := Lib.hid (vnx (vbelow1 _ _) bf); clear bf) | (go_at_call 33; refine (decOk_impl _ _ _ (HLP.out.kept (vbelow1 _ _)) HFT.out.n.1 HFT.out.n.2).mono ?_; rintro _ wf ⟨rfl, bf⟩; have BF := Lib.hid (vnx (vbelow1 _ _) bf); clear bf) | (go_at_call 161; refine (textOk_impl _ _ HSZ.out (HLU.out.kept (vbelow1 _ _))).mono ?_; rintro _ wf ⟨rfl, bf⟩; have BF := Lib.hid (vnx (vbelow1 _ _) bf); clear bf))
            go_ret
            exact ⟨ret_bool (by rw [HFF.out]), by first | exact vbelow1 _ _ | exact BF.out⟩
  have hof := (own_no (t := t) (by omega))
  have HFF := Lib.hid hof; clear hof
  go_enter Tryd.func128, Tryd.ntmps128
  go_wp2_with (first | (go_at_call 86; refine (within_c _ _ _ _).mono ?_; rintro e w' ⟨rfl, rfl⟩) | (go_at_call 48; refine (fltOk_impl _ _ _).mono ?_; rintro _ wf ⟨rfl, bf⟩; have BF := Lib.hid (vnx (vbelow1 _ _) bf); clear bf) | (go_at_call 33; refine (decOk_impl _ _ _ (HLP.out.kept (vbelow1 _ _)) HFT.out.n.1 HFT.out.n.2).mono ?_; rintro _ wf ⟨rfl, bf⟩; have BF := Lib.hid (vnx (vbelow1 _ _) bf); clear bf) | (go_at_call 161; refine (textOk_impl _ _ HSZ.out (HLU.out.kept (vbelow1 _ _))).mono ?_; rintro _ wf ⟨rfl, bf⟩; have BF := Lib.hid (vnx (vbelow1 _ _) bf); clear bf))
  all_goals (go_ret; exact ⟨ret_bool HFF.out.symm, by first | exact HB.out | exact vbelow1 _ _⟩)
end Go.Proofs.YtilmhemcpgiikaaDoor
/- every, over a tree, and ValOk of the program. -/
namespace Go.Proofs.YtilmhemcpgiikaaDoor
open Go.Deep Go.ChangeShapes Go.WideShapes Go.ChangeAt Go.RowKit
open Go.ChangeMaps (open_string shut_string)

/-- The function value that is handed on. -/
abbrev isV : Value := .func (.func 128) #[] #[]
def everyC (t : Tree) : Prop := ∀ (w : World) (u : Value), t.cost ≤ 1048576 → LaidP w → LaidU w → TSl w u t.l → Fits t.kind t.n t.x t.s →
  Calls Tryd.prog 127 #[.agg #[.int .i64 t.kind, .int .i64 t.n, .int .i64 t.x, .string t.s, u], isV] w fun e w' => e = .returned (.bool t.ok) ∧ Below w.heap.size w w'
theorem fn_kept {W w1 : World} (hb : Below W.heap.size W w1) {B : Nat} {v : Value} {T : TypeId} (h : W.heap[B]? = some (.cells #[v] T (0, 0))) : w1.cell? ⟨B, 0, none⟩ = some v := by
  have hlt : B < W.heap.size := (Array.getElem?_eq_some_iff.1 h).1
  have := (hb.block B hlt).trans h
  simp [World.cell?, this]

set_option maxRecDepth 100000 in
set_option maxHeartbeats 4000000 in
theorem every_clo (o : Tree) (uo : Value) (B : Nat) (w : World) (ih : everyC o) (hcost : o.cost ≤ 1048576) (hP : LaidP w) (hU : LaidU w) (ho : TSl w uo o.l) (hfo : Fits o.kind o.n o.x o.s)
    (hb : w.heap[B]? = some (.cells #[isV] 32 (0, 0))) :
    Calls Tryd.prog 160 #[.agg #[.int .i64 o.kind, .int .i64 o.n, .int .i64 o.x, .string o.s, uo], .pointer (some ⟨B, 0, none⟩)] w fun e w' => e = .returned (.bool (!o.ok)) ∧ Below w.heap.size w w' := by
  obtain ⟨a, n, cap, rfl⟩ := ho.form
  have hW := vbelow1 w (.cells #[.int .i64 o.kind, .int .i64 o.n, .int .i64 o.x, .string o.s, .slice a n cap] 29)
  have HC := Lib.hid (ih _ _ hcost (hP.kept hW) (hU.kept hW) (ho.kept hW) hfo)
  have q0 := fn_kept hW hb
  have HW := Lib.hid hW
  clear ho hb hW hP hU
  generalize o.ok = R at *
  go_enter Tryd.func160, Tryd.ntmps160
  go_wp2_with fail
  refine HC.out.mono ?_
  rintro _ w1 ⟨rfl, b1⟩
  go_wp2_with fail
  go_ret
  exact ⟨rfl, vnx HW.out b1⟩

set_option maxRecDepth 100000 in
set_option maxHeartbeats 4000000 in
theorem every_idx (l : List Tree) (ih : ∀ t ∈ l, everyC t) (u : Value) (B : Nat) (w : World) (hcost : ∀ j (h : j < l.length), l[j].cost ≤ 1048576) (hP : LaidP w) (hU : LaidU w) (hu : TSl w u l)
    (hb : w.heap[B]? = some (.cells #[isV] 32 (0, 0))) :
    Calls Tryd.prog 155 #[u, .func (.func 160) #[] #[.pointer (some ⟨B, 0, none⟩)]] w fun e w' => ∃ r : Int, e = .returned (.int .i64 r) ∧ decide (0 ≤ r) = !okL l ∧ Below w.heap.size w w' := by
  obtain ⟨a, cap, b, off, rfl, hcap, hmax, ha, hl⟩ := hu
  unfold maxLen at hmax
  have hlt : B < w.heap.size := (Array.getElem?_eq_some_iff.1 hb).1
  have HL := Lib.hid hl; have HA := Lib.hid ha
  have HCL := Lib.hid (fun (w1 : World) (hb1 : Below w.heap.size w w1) j (h : j < l.length) (uo : Value) (hs : TSl w1 uo l[j].l) (hf : Fits l[j].kind l[j].n l[j].x l[j].s) => every_clo l[j] uo B w1 (ih _ (List.getElem_mem h)) (hcost j h) (hP.kept hb1) (hU.kept hb1) hs hf ((hb1.block B hlt).trans hb))
  clear hl ha hb hP hU ih hcost
  go_enter Tryd.func155, Tryd.ntmps155
  go_wp2_with fail
  go_loopw [8] (fun i wr => ∃ j : Nat, j ≤ l.length ∧ i = .int .i64 j ∧ Hid (∀ k (h : k < l.length), k < j → l[k].ok = true) ∧ Hid (Below w.heap.size w wr)) (fun i _ => l.length - (intOf i).toNat)
  case atStart => exact ⟨0, by omega, rfl, Lib.hid (fun k h h2 => absurd h2 (Nat.not_lt_zero _)), Lib.hid (Below.refl _ _)⟩
  case round =>
    obtain ⟨j, hj, rfl, HN, HBW⟩ := hrel
    by_cases hjl : j < l.length
    · obtain rfl : a = some ⟨b, off, none⟩ := HA.out (by intro h; rw [h] at hjl; simp at hjl)
      obtain ⟨y, c0, c1, c2, c3, c4, hsl, hft⟩ := ((HL.out j hjl).kept HBW.out).parts
      have hC := HCL.out wr HBW.out j hjl y hsl hft
      have hszr := HBW.out.size
      have hT : l[j].ok = false → okL l = false := fun h => okL_at hjl h
      have hF : l[j].ok = true → ∀ k (h : k < l.length), k < j + 1 → l[k].ok = true := fun h k hk hk2 => by
        by_cases e : k = j
        · subst e; exact h
        · exact HN.out k hk (by omega)
      have HT := Lib.hid hT; have HF := Lib.hid hF
      clear hT hF
      cases hb : l[j].ok with
      | false =>
        rw [hb] at hC
        have HTT := Lib.hid (HT.out hb)
        have HC := Lib.hid hC
        clear HT HF hb hC hsl hft
        generalize l[j] = r at *
        go_wp2_with fail
        refine HC.out.mono ?_
        rintro _ w2 ⟨rfl, hb1⟩
        go_wp2_with fail
        go_ret
        exact ⟨_, rfl, by rw [HTT.out]; simp, HBW.out.trans (hb1.mono hszr)⟩
      | true =>
        rw [hb] at hC
        have HFF := Lib.hid (HF.out hb)
        have HC := Lib.hid hC
        clear HT HF hb hC hsl hft
        go_wp2_with fail
        refine HC.out.mono ?_
        rintro _ w2 ⟨rfl, hb1⟩
        go_wp2_with fail
        go_roundw
        case rel => exact ⟨j + 1, by omega, by go_num, HFF, Lib.hid (HBW.out.trans (hb1.mono hszr))⟩
        case measure => simp [intOf]; omega
    · obtain rfl : j = l.length := by omega
      have hm : okL l = true := okL_true (fun k h => HN.out k h h)
      have HM := Lib.hid hm
      clear hm
      go_wp2_with fail
      go_ret
      exact ⟨_, rfl, by rw [HM.out]; decide, HBW.out⟩

set_option maxHeartbeats 1000000 in
theorem every_con (l : List Tree) (ih : ∀ t ∈ l, everyC t) (u : Value) (B : Nat) (w : World) (hcost : ∀ j (h : j < l.length), l[j].cost ≤ 1048576) (hP : LaidP w) (hU : LaidU w) (hu : TSl w u l)
    (hb : w.heap[B]? = some (.cells #[isV] 32 (0, 0))) :
    Calls Tryd.prog 122 #[u, .func (.func 160) #[] #[.pointer (some ⟨B, 0, none⟩)]] w fun e w' => e = .returned (.bool (!okL l)) ∧ Below w.heap.size w w' := by
  have HC := Lib.hid (every_idx l ih u B w hcost hP hU hu hb)
  obtain ⟨a, n, cap, rfl⟩ := hu.form
  clear hu hb hP hU ih
  go_enter Tryd.func122, Tryd.ntmps122
  go_wp2_with fail
  refine HC.out.mono ?_
  rintro _ w1 ⟨r, rfl, hr, b1⟩
  have HR := Lib.hid hr; clear hr
  go_wp2_with fail
  go_ret
  exact ⟨ret_bool HR.out, b1⟩

set_option maxRecDepth 100000 in
set_option maxHeartbeats 4000000 in
theorem every_of (t : Tree) (ih : ∀ t' ∈ t.l, everyC t') : everyC t := by
  intro w u hcost hP hU hu hfit
  obtain ⟨a, n, cap, rfl⟩ := hu.form
  have HW := Lib.hid (vbelow2 w (.cells #[.int .i64 t.kind, .int .i64 t.n, .int .i64 t.x, .string t.s, .slice a n cap] 29) (.cells #[isV] 32))
  have K0 := Lib.hid (box5_kept (vbelow1 _ (.cells #[isV] 32)) (box5_new w (.int .i64 t.kind) (.int .i64 t.n) (.int .i64 t.x) (.string t.s) (.slice a n cap) 29))
  have B0 : Hid (((w.alloc (.cells #[.int .i64 t.kind, .int .i64 t.n, .int .i64 t.x, .string t.s, .slice a n cap] 29)).alloc (.cells #[isV] 32)).heap[w.heap.size + 1]? = some (.cells #[isV] 32 (0, 0))) := by
    have := heap_alloc_new (w.alloc (.cells #[.int .i64 t.kind, .int .i64 t.n, .int .i64 t.x, .string t.s, .slice a n cap] 29)) (.cells #[isV] 32)
    refine Lib.hid ?_
    simpa only [World.size_alloc] using this
  have HO := Lib.hid (ownImpl_c t _ _ hcost (hP.kept HW.out) (hU.kept HW.out) (hu.kept HW.out) hfit)
  have HCN := Lib.hid (fun w1 (hb : Below ((w.alloc (.cells #[.int .i64 t.kind, .int .i64 t.n, .int .i64 t.x, .string t.s, .slice a n cap] 29)).alloc (.cells #[isV] 32)).heap.size ((w.alloc (.cells #[.int .i64 t.kind, .int .i64 t.n, .int .i64 t.x, .string t.s, .slice a n cap] 29)).alloc (.cells #[isV] 32)) w1) => every_con t.l ih (.slice a n cap) (w.heap.size + 1) w1 (fun j h => Nat.le_trans (cost_elem h) hcost) (hP.kept (vnx HW.out hb)) (hU.kept (vnx HW.out hb)) (hu.kept (vnx HW.out hb)) ((hb.block _ (by simp only [World.size_alloc]; omega)).trans B0.out))
  have HOK := Lib.hid (Tree.ok_eq t)
  clear hu hP hU ih hfit hcost
  go_enter Tryd.func127, Tryd.ntmps127
  go_wp2_with fail
  refine HO.out.mono ?_
  rintro _ w1 ⟨rfl, b1⟩
  have HB1 := Lib.hid b1
  obtain ⟨k0, k1, k2, k3, k4⟩ := box5_kept b1 K0.out
  have HC1 := Lib.hid (HCN.out w1 b1)
  clear b1 HCN
  cases hb : ownB t with
  | false =>
    have hf : t.ok = false := by rw [HOK.out, hb]; simp
    have HF := Lib.hid hf; clear hf hb
    go_wp2_with fail
    go_ret
    exact ⟨ret_bool HF.out.symm, vnx HW.out HB1.out⟩
  | true =>
    have hf : t.ok = okL t.l := by rw [HOK.out, hb]; simp
    have HF := Lib.hid hf; clear hf hb
    go_wp2_with fail
    refine HC1.out.mono ?_
    rintro _ w2 ⟨rfl, b2⟩
    have HB2 := Lib.hid b2; clear b2
    go_wp2_with fail
    go_ret
    exact ⟨ret_bool (by first | rw [HF.out] | (rw [HF.out]; simp)), vnx (vnx HW.out HB1.out) HB2.out⟩
theorem every_c (t : Tree) : everyC t := Tree.ind (p := everyC) every_of t

set_option maxHeartbeats 1000000 in
theorem okImpl_c (t : Tree) (w : World) (u : Value) (hcost : t.cost ≤ 1048576) (hP : LaidP w) (hU : LaidU w) (hu : TSl w u t.l) (hfit : Fits t.kind t.n t.x t.s) :
    Calls Tryd.prog 71 #[.agg #[.int .i64 t.kind, .int .i64 t.n, .int .i64 t.x, .string t.s, u]] w fun e w' => e = .returned (.bool t.ok) ∧ Below w.heap.size w w' := by
  obtain ⟨a, n, cap, rfl⟩ := hu.form
  have HW := Lib.hid (vbelow1 w (.cells #[.int .i64 t.kind, .int .i64 t.n, .int .i64 t.x, .string t.s, .slice a n cap] 29))
  have HC := Lib.hid (every_c t _ _ hcost (hP.kept HW.out) (hU.kept HW.out) (hu.kept HW.out) hfit)
  clear hu hP hU
  go_enter Tryd.func71, Tryd.ntmps71
  go_wp2_with fail
  refine HC.out.mono ?_
  rintro _ w1 ⟨rfl, b1⟩
  go_wp2_with fail
  go_ret
  exact ⟨rfl, vnx HW.out b1⟩
end Go.Proofs.YtilmhemcpgiikaaDoor
/- Steps of a region that draws its order, by hand: an operation that its guard passes over, one that yields in every world that meets S, a load of a struct, a call. -/
namespace Go.Proofs.YtilmhemcpgiikaaDoor
open Go.Deep Go.ChangeShapes Go.WideShapes Go.ChangeAt Go.RowKit

section
variable {P : Program} {md : Region.Mode} {ops : Array Oper} {Q : Exit → Act → World → Prop} {S : World → Prop} {fuel : Nat} {listed : Array Bool} {a : Act} {w : World}
/-- Passed over: its slot holds nothing. -/
theorem held_skip (i d : Nat) (hs : Region.noSelect ops = true) (hf : Region.free md ops listed i = true) (hr : (Region.ready md ops listed).contains i = true)
    (hQ : ∀ c a w, Q (.panic c) (a.put (some d) undef) w → Q (.panic c) a w) (hd : (ops[i]?).map (·.dst) = some (some d))
    (hw : (ops[i]?).map (fun o => Region.wanted o (yielded ops a.tmps)) = some false) (hS : S w)
    (h : wpAnyH P md ops Q S fuel (listed.setIfInBounds i true) (a.put (some d) undef) w) : wpAnyH P md ops Q S (fuel + 1) listed a w := by
  cases ho : ops[i]? with
  | none => rw [ho] at hd; cases hd
  | some o =>
    rw [ho] at hd hw
    have e1 : o.dst = some d := Option.some.inj hd
    have e2 : Region.wanted o (yielded ops a.tmps) = false := Option.some.inj hw
    exact wpAnyH_take ho hs hf hr (by rw [e1]; exact hQ) (Or.inr ⟨e2, rfl⟩) hS (by rw [e1]; exact h)
/-- Carried out: its slot holds v. -/
theorem held_do (i d : Nat) (v : Value) (hs : Region.noSelect ops = true) (hf : Region.free md ops listed i = true) (hr : (Region.ready md ops listed).contains i = true)
    (hQ : ∀ c a w, Q (.panic c) (a.put (some d) v) w → Q (.panic c) a w) (hd : (ops[i]?).map (·.dst) = some (some d))
    (hw : (ops[i]?).map (fun o => Region.wanted o (yielded ops a.tmps)) = some true) (hS : S w)
    (hv : ∀ w, S w → (ops[i]?).map (fun o => (execOp a.eval o).run P w) = some (.ok (.value v) w))
    (h : wpAnyH P md ops Q S fuel (listed.setIfInBounds i true) (a.put (some d) v) w) : wpAnyH P md ops Q S (fuel + 1) listed a w := by
  cases ho : ops[i]? with
  | none => rw [ho] at hd; cases hd
  | some o =>
    rw [ho] at hd hw
    have e1 : o.dst = some d := Option.some.inj hd
    have e2 : Region.wanted o (yielded ops a.tmps) = true := Option.some.inj hw
    exact wpAnyH_take ho hs hf hr (by rw [e1]; exact hQ) (Or.inl ⟨e2, fun w h => Option.some.inj (by have := hv w h; rw [ho] at this; exact this)⟩) hS (by rw [e1]; exact h)
/-- A call that alone may come up: by its contract. -/
theorem held_call (i d F : Nat) (vals : Array Value) (hr : Region.ready md ops listed = [i]) (hd : (ops[i]?).map (·.dst) = some (some d))
    (hw : (ops[i]?).map (fun o => Region.wanted o (yielded ops a.tmps)) = some true) (hx : ∀ w, (ops[i]?).map (fun o => (execOp a.eval o).run P w) = some (.ok (.enter F vals) w))
    (h : Calls P F vals w fun e w' => ∃ v, e = .returned v ∧ S w' ∧ wpAnyH P md ops Q S fuel (listed.setIfInBounds i true) (a.put (some d) v) w') : wpAnyH P md ops Q S (fuel + 1) listed a w := by
  refine wpAnyH_all hr (by simp) fun j hj => ?_
  obtain rfl : j = i := by simpa using hj
  have hx := hx w
  cases ho : ops[j]? with
  | none => rw [ho] at hd; cases hd
  | some o =>
    rw [ho] at hd hw hx
    have e1 : o.dst = some d := Option.some.inj hd
    have e2 : Region.wanted o (yielded ops a.tmps) = true := Option.some.inj hw
    have e3 : (execOp a.eval o).run P w = .ok (.enter F vals) w := Option.some.inj hx
    unfold wpOp
    simp only [ho, e2, if_true]
    refine .inl ?_
    unfold Oper.wp
    rw [e3, Oper.upon_enter]
    refine h.mono ?_
    rintro _ w' ⟨v, rfl, hS, hk⟩
    rw [e1]
    exact ⟨hS, hk⟩
/-- A load by what the operation is. -/
theorem run_of {op : Op} {v : Value} {i : Nat} (hi : (ops[i]?).map (·.op) = some op) (h : ∀ o : Oper, o.op = op → (execOp a.eval o).run P w = .ok (.value v) w) :
    (ops[i]?).map (fun o => (execOp a.eval o).run P w) = some (.ok (.value v) w) := by
  cases ho : ops[i]? with
  | none => rw [ho] at hi; cases hi
  | some o => rw [ho] at hi; exact congrArg some (h o (Option.some.inj hi))
end
section
variable {ρ : Operand → Value} {w : World} {o : Oper} {t B : Nat}
theorem load_dec {x y : Value} (hp : ρ (.tmp t) = .pointer (some ⟨B, 0, none⟩)) (h : w.cell? ⟨B, 0, none⟩ = some x ∧ w.cell? ⟨B, 1, none⟩ = some y ∧ ∀ j, w.frozen? ⟨B, j, none⟩ = false) (ho : o.op = .load 42 (.tmp t)) :
    (execOp ρ o).run Tryd.prog w = .ok (.value (.agg #[x, y])) w := by
  obtain ⟨h0, h1, -⟩ := h
  unfold execOp
  rw [ho]
  simp [hp, go_sem, h0, h1]
theorem load_flt {x y : Value} (hp : ρ (.tmp t) = .pointer (some ⟨B, 0, none⟩)) (h : w.cell? ⟨B, 0, none⟩ = some x ∧ w.cell? ⟨B, 1, none⟩ = some y ∧ ∀ j, w.frozen? ⟨B, j, none⟩ = false) (ho : o.op = .load 56 (.tmp t)) :
    (execOp ρ o).run Tryd.prog w = .ok (.value (.agg #[x, y])) w := by
  obtain ⟨h0, h1, -⟩ := h
  unfold execOp
  rw [ho]
  simp [hp, go_sem, h0, h1]
end
end Go.Proofs.YtilmhemcpgiikaaDoor
/- A load of a value in a region that is walked by hand. -/
namespace Go.Proofs.YtilmhemcpgiikaaDoor
open Go.Deep Go.ChangeShapes Go.WideShapes Go.ChangeAt Go.RowKit

theorem load_val {ρ : Operand → Value} {w : World} {o : Oper} {t B : Nat} {a b c d e : Value} (hp : ρ (.tmp t) = .pointer (some ⟨B, 0, none⟩))
    (h : w.cell? ⟨B, 0, none⟩ = some a ∧ w.cell? ⟨B, 1, none⟩ = some b ∧ w.cell? ⟨B, 2, none⟩ = some c ∧ w.cell? ⟨B, 3, none⟩ = some d ∧ w.cell? ⟨B, 4, none⟩ = some e ∧ ∀ j, w.frozen? ⟨B, j, none⟩ = false) (ho : o.op = .load 29 (.tmp t)) :
    (execOp ρ o).run Tryd.prog w = .ok (.value (.agg #[a, b, c, d, e])) w := by
  obtain ⟨h0, h1, h2, h3, h4, -⟩ := h
  unfold execOp
  rw [ho]
  simp [hp, go_sem, h0, h1, h2, h3, h4]
end Go.Proofs.YtilmhemcpgiikaaDoor
