/- Plain laws of FnDecs and FnReads: a number's text is read back; what was read is read again alone; of two numbers one is less. -/
import Derived.Test.YtilmhemcpgiikaaDoorMRead
import Derived.Test.YtilmhemcpgiikaaDoorMText
namespace Go.Proofs.YtilmhemcpgiikaaDoor
open Go.ChangeShapes Go.WideShapes Go.ChangeAt Go.RowKit

theorem tw_all : ∀ (W R : List UInt8), (∀ c ∈ W, 48 ≤ c.toNat ∧ c.toNat ≤ 57) → ¬ (48 ≤ byN R 0 ∧ byN R 0 ≤ 57) → (W ++ R).takeWhile isDg = W
  | [], R, _, hR => by
    cases R with
    | nil => rfl
    | cons c R => exact List.takeWhile_cons_of_neg (fun h => hR (of_decide_eq_true h))
  | c :: W, R, hW, hR => by
    have hc : isDg c = true := decide_eq_true (hW c (List.mem_cons_self ..))
    rw [List.cons_append, List.takeWhile_cons_of_pos hc, tw_all W R (fun d hd => hW d (List.mem_cons_of_mem _ hd)) hR]
theorem dsAt_app {A W R : List UInt8} {p : Nat} (hp : p = A.length) (hW : ∀ c ∈ W, 48 ≤ c.toNat ∧ c.toNat ≤ 57) (hR : ¬ (48 ≤ byN R 0 ∧ byN R 0 ≤ 57)) : dsAt (A ++ (W ++ R)) p = W := by
  unfold dsAt; rw [hp, List.drop_left]; exact tw_all W R hW hR
theorem byN_app {A R : List UInt8} {p : Nat} (hp : p = A.length) : byN (A ++ R) p = byN R 0 := by
  have := byN_drop (A ++ R) p 0
  rw [hp, List.drop_left, Nat.add_zero] at this
  rw [hp]; exact this.symm
theorem byN_cons (c : UInt8) (R : List UInt8) : byN (c :: R) 0 = c.toNat := rfl
theorem byN_nil (q : Nat) : byN [] q = 0 := rfl
theorem decDigits_lead (u : Nat) : Lib.decDigits u = [48] ∨ (u ≠ 0 ∧ byN (Lib.decDigits u) 0 ≠ 48) := by
  by_cases h0 : u = 0
  · left; rw [h0, decDigits_low (by decide)]; rfl
  · right
    refine ⟨h0, ?_⟩
    have : ∀ k u, u ≤ k → u ≠ 0 → byN (Lib.decDigits u) 0 ≠ 48 := by
      intro k
      induction k with
      | zero => intro u h1 h2; omega
      | succ k ih =>
        intro u h1 h2
        by_cases h : u < 10
        · rw [decDigits_low h, byN_cons, UInt8.toNat_ofNat']
          omega
        · rw [decDigits_step h]
          obtain ⟨c, r, hc, -⟩ := decDigits_head (u / 10)
          have := ih (u / 10) (by omega) (by omega)
          rw [hc] at this ⊢
          exact this
    exact this u u (Nat.le_refl _) h0

/-- A number's text: sign, whole part, fraction. -/
theorem rn_text (ng : Bool) (W F : List UInt8) (hW : ∀ c ∈ W, 48 ≤ c.toNat ∧ c.toNat ≤ 57) (hF : ∀ c ∈ F, 48 ≤ c.toNat ∧ c.toNat ≤ 57) (hne : W ≠ []) (hl : W = [48] ∨ byN W 0 ≠ 48) (hs : (sigL (W ++ F)).length ≤ 17) :
    rnF ((if ng = true then [45] else []) ++ (W ++ (if F = [] then [] else 46 :: F))) 0 = ((if ng = true then -(digVal (W ++ F) : Int) else (digVal (W ++ F) : Int)), -(F.length : Int), ((((if ng = true then [45] else []) ++ (W ++ (if F = [] then [] else 46 :: F))).length : Nat) : Int), 0) := by
  obtain ⟨R, hR⟩ : ∃ R, R = if F = [] then [] else (46 : UInt8) :: F := ⟨_, rfl⟩
  obtain ⟨A, hA⟩ : ∃ A : List UInt8, A = if ng = true then [45] else [] := ⟨_, rfl⟩
  rw [← hR, ← hA]
  have hR0 : ¬ (48 ≤ byN R 0 ∧ byN R 0 ≤ 57) := by
    rw [hR]; split
    · rw [byN_nil]; omega
    · rw [byN_cons]; intro h; have : (46 : UInt8).toNat = 46 := rfl; omega
  obtain ⟨c0, W', hWc⟩ := List.exists_cons_of_ne_nil hne
  have hc0 := hW c0 (by rw [hWc]; exact List.mem_cons_self ..)
  have hds := dsAt_app (A := A) (R := R) rfl hW hR0
  have hb0 : byN (A ++ (W ++ R)) A.length = c0.toNat := by rw [byN_app rfl, hWc]; rfl
  have h2 : rn2 (A ++ (W ++ R)) ng W (A.length + W.length) = ((if ng = true then -(digVal (W ++ F) : Int) else (digVal (W ++ F) : Int)), -(F.length : Int), (((A ++ (W ++ R)).length : Nat) : Int), 0) := by
    have e3 : ∀ ds fr, (sigL ds).length ≤ 17 → rn3 (A ++ (W ++ R)) ng ds fr (A ++ (W ++ R)).length = ((if ng = true then -(digVal ds : Int) else (digVal ds : Int)), -(fr : Int), (((A ++ (W ++ R)).length : Nat) : Int), 0) := by
      intro ds fr h17
      unfold rn3
      rw [byN_out (Nat.le_refl _), if_neg (by omega)]
      unfold rn4
      rw [if_neg (by rw [List.length_nil]; omega)]
      have : digVal [] = 0 := rfl
      rw [this]
      simp
    have hb1 : byN (A ++ (W ++ R)) (A.length + W.length) = byN R 0 := by
      rw [← List.append_assoc]; exact byN_app (by rw [List.length_append])
    unfold rn2
    by_cases hFe : F = []
    · have hRe : R = [] := by rw [hR, if_pos hFe]
      rw [hb1, hRe, byN_nil, if_neg (by decide)]
      have := e3 W 0 (by rw [hFe, List.append_nil] at hs; exact hs)
      rw [hRe] at this
      have hl2 : (A ++ (W ++ [])).length = A.length + W.length := by simp
      rw [hl2] at this
      rw [this, hFe, hl2]; simp
    · have hRe : R = 46 :: F := by rw [hR, if_neg hFe]
      have hds2 : dsAt (A ++ (W ++ R)) (A.length + W.length + 1) = F := by
        have e : A ++ (W ++ R) = (A ++ W ++ [46]) ++ (F ++ []) := by rw [hRe]; simp
        rw [e]
        exact dsAt_app (by simp; omega) hF (by rw [byN_nil]; omega)
      have hl2 : A.length + W.length + 1 + F.length = (A ++ (W ++ R)).length := by rw [hRe]; simp; omega
      rw [hb1, hds2, if_pos (by rw [hRe]; rfl), if_neg hFe, hl2]
      exact e3 (W ++ F) F.length hs
  have h1 : rn1 (A ++ (W ++ R)) ng A.length = ((if ng = true then -(digVal (W ++ F) : Int) else (digVal (W ++ F) : Int)), -(F.length : Int), (((A ++ (W ++ R)).length : Nat) : Int), 0) := by
    unfold rn1
    rw [hds, if_neg hne, hb0]
    rcases hl with h | h
    · rw [h] at hWc
      obtain ⟨rfl, -⟩ := List.cons.inj hWc
      rw [if_pos (by decide)]
      rw [h] at h2
      rw [h]; exact h2
    · rw [hWc, byN_cons] at h
      rw [if_neg h]; exact h2
  unfold rnF
  rw [if_neg (by omega), show (0 : Int).toNat = 0 from rfl]
  cases ng with
  | true =>
    have hA1 : A = [45] := by rw [hA]; rfl
    rw [if_pos (by rw [hA1]; rfl)]
    rw [hA1] at h1 ⊢
    exact h1
  | false =>
    have hA1 : A = [] := by rw [hA]; rfl
    rw [hA1] at hb0 h1 ⊢
    rw [List.length_nil] at hb0 h1
    rw [if_neg (by rw [hb0]; omega)]
    exact h1

theorem sigL_rep : ∀ (k : Nat) (l : List UInt8), sigL (List.replicate k 48 ++ l) = sigL l
  | 0, l => rfl
  | k + 1, l => by rw [List.replicate_succ, List.cons_append, sigL_cons, if_pos rfl, sigL_rep k l]
theorem padZ_sig (L : Nat) (s : List UInt8) : sigL (padZ L s) = sigL s := sigL_rep _ _
theorem padZ_dig {L : Nat} {s : List UInt8} (h : ∀ c ∈ s, 48 ≤ c.toNat ∧ c.toNat ≤ 57) : ∀ c ∈ padZ L s, 48 ≤ c.toNat ∧ c.toNat ≤ 57 := by
  intro c hc
  unfold padZ at hc
  rcases List.mem_append.1 hc with h1 | h1
  · rw [(List.mem_replicate.1 h1).2]; decide
  · exact h c h1
theorem sgn_abs (n : Int) : (if decide (n < 0) = true then -((n.natAbs : Nat) : Int) else ((n.natAbs : Nat) : Int)) = n := by
  by_cases h : n < 0
  · rw [if_pos (decide_eq_true h)]; omega
  · rw [if_neg (by simpa using h)]; omega
theorem sign_ite (n : Int) : (if decide (n < 0) = true then [45] else []) = if n < 0 then [(45 : UInt8)] else [] := by
  by_cases h : n < 0
  · rw [if_pos h, if_pos (decide_eq_true h)]
  · rw [if_neg h, if_neg (by simpa using h)]

/-- A valid number is read back of its text. -/
theorem rn_back {n x : Int} (h : decOkB n x = true) : rnF (decTextL n x) 0 = (n, x, (((decTextL n x).length : Nat) : Int), 0) := by
  have hdig := decDigits_dig n.natAbs
  have hval := digVal_decDigits n.natAbs
  have hne := decDigits_ne n.natAbs
  have hlead := decDigits_lead n.natAbs
  have hlen : (Lib.decDigits n.natAbs).length ≤ 17 := by
    rw [Lib.decDigits_length, nDigits_le (by decide), p17]
    rcases decOkB_iff.1 h with h | h
    · omega
    · omega
  by_cases hx : x = 0
  · subst hx
    rw [decTextL_int h]
    have e : Lib.itoa n = (if decide (n < 0) = true then [45] else []) ++ (Lib.decDigits n.natAbs ++ (if ([] : List UInt8) = [] then [] else 46 :: [])) := by
      rw [if_pos rfl, List.append_nil, sign_ite]
      by_cases hn : n < 0
      · rw [itoa_neg hn, if_pos hn]; rfl
      · rw [itoa_pos (by omega), if_neg hn]; rfl
    have := rn_text (decide (n < 0)) (Lib.decDigits n.natAbs) [] hdig (by intro c hc; cases hc) hne (hlead.imp id And.right) (by rw [List.append_nil]; have := sigL_le (Lib.decDigits n.natAbs); omega)
    rw [← e, List.append_nil, hval, sgn_abs] at this
    rw [this]; rfl
  · obtain ⟨k, hk⟩ : ∃ k : Nat, x = -(k : Int) := ⟨(-x).toNat, by rcases decOkB_iff.1 h with h | h <;> omega⟩
    have hk1 : 1 ≤ k := by rcases decOkB_iff.1 h with h | h <;> omega
    have hn0 : n.natAbs ≠ 0 := by rcases decOkB_iff.1 h with h | h <;> omega
    rw [decTextL_pt h hx hk]
    obtain ⟨S, hS⟩ : ∃ S, S = padZ (1 + k) (Lib.decDigits n.natAbs) := ⟨_, rfl⟩
    have hSd : ∀ c ∈ S, 48 ≤ c.toNat ∧ c.toNat ≤ 57 := by rw [hS]; exact padZ_dig hdig
    have hSl : S.length = max (1 + k) (Lib.decDigits n.natAbs).length := by rw [hS, padZ_length]
    have hSs : (sigL S).length ≤ 17 := by rw [hS, padZ_sig]; have := sigL_le (Lib.decDigits n.natAbs); omega
    have hSv : digVal S = n.natAbs := by rw [← sigL_val, hS, padZ_sig, sigL_val, hval]
    have hF : (S.drop (S.length - k)).length = k := by rw [List.length_drop]; omega
    have hFne : S.drop (S.length - k) ≠ [] := by intro e; rw [e] at hF; simp at hF; omega
    have hWl : (S.take (S.length - k)).length = S.length - k := by rw [List.length_take]; omega
    have hWne : S.take (S.length - k) ≠ [] := by intro e; rw [e] at hWl; simp at hWl; omega
    have hWlead : S.take (S.length - k) = [48] ∨ byN (S.take (S.length - k)) 0 ≠ 48 := by
      by_cases hc : 1 + k ≤ (Lib.decDigits n.natAbs).length
      · have hSe : S = Lib.decDigits n.natAbs := by rw [hS, padZ_done hc]
        rcases hlead with h1 | h1
        · rw [h1] at hc; simp at hc; omega
        · right
          have e : byN (S.take (S.length - k)) 0 = byN S 0 := by
            unfold byN; rw [List.getElem?_take_of_lt (by omega)]
          rw [e, hSe]; exact h1.2
      · left
        have e1 : S.length - k = 1 := by omega
        have hp : S = List.replicate (1 + k - (Lib.decDigits n.natAbs).length) 48 ++ Lib.decDigits n.natAbs := hS
        rw [e1, hp, show 1 + k - (Lib.decDigits n.natAbs).length = (k - (Lib.decDigits n.natAbs).length) + 1 by omega, List.replicate_succ]
        rfl
    have e : pointed n k S = (if decide (n < 0) = true then [45] else []) ++ (S.take (S.length - k) ++ (if S.drop (S.length - k) = [] then [] else 46 :: S.drop (S.length - k))) := by
      rw [if_neg hFne, sign_ite]; rfl
    have := rn_text (decide (n < 0)) (S.take (S.length - k)) (S.drop (S.length - k)) (fun c hc => hSd c (List.mem_of_mem_take hc)) (fun c hc => hSd c (List.mem_of_mem_drop hc)) hWne hWlead (by rw [List.take_append_drop]; exact hSs)
    rw [← e, List.take_append_drop, hSv, sgn_abs, hF, ← hk] at this
    rw [← hS]; exact this

/-- A valid number is made of itself. -/
theorem decNew_back {n x : Int} (h : decOkB n x = true) : decNewF n x = (n, x, true) := by
  unfold decNewF
  rcases decOkB_iff.1 h with ⟨rfl, h1, h2⟩ | ⟨h1, h2, h3, h4, h5⟩
  · rw [if_pos ⟨dgs_17.2 (by omega), by omega, by omega⟩]
    by_cases h0 : n = 0
    · subst h0; rfl
    · rw [if_neg h0, if_pos (by omega)]
      have e : stripD (-(0 : Int)).toNat n 0 = (n, 0) := rfl
      rw [e]
      exact if_pos h
  · rw [if_pos ⟨dgs_17.2 ⟨h3, h4⟩, by omega, by omega⟩, if_neg (by omega), if_pos (by omega), stripD_no h5]
    exact if_pos h
/-- What DecNew makes is valid. -/
theorem decNew_ok {n x : Int} (h : (decNewF n x).2.2 = true) : decOkB (decNewF n x).1 (decNewF n x).2.1 = true := by
  unfold decNewF at h ⊢
  split at h
  · rename_i h0
    rw [if_pos h0]
    split at h
    · rename_i h1
      rw [if_pos h1]; rfl
    · rename_i h1
      rw [if_neg h1]
      split at h
      · rename_i h2
        rw [if_pos h2]
        split at h
        · rename_i h3
          rw [if_pos h3]; exact h3
        · cases h
      · rename_i h2
        rw [if_neg h2]
        split at h
        · rename_i h3
          rw [if_pos h3]
          exact decOkB_iff.2 (.inl ⟨rfl, h3⟩)
        · cases h
  · cases h

/-- Of two valid numbers that are not the same, just one is less. -/
theorem decUp_inj {n x m y : Int} (h : decOkB n x = true) (h' : decOkB m y = true) (e : decUp n x = decUp m y) : n = m ∧ x = y := by
  have key : ∀ {n x m y : Int}, decOkB n x = true → decOkB m y = true → x ≤ y → decUp n x = decUp m y → n = m ∧ x = y := by
    intro n x m y h h' hxy e
    have h1 := decOkB_iff.1 h
    have h2 := decOkB_iff.1 h'
    unfold decUp at e
    obtain ⟨d, hd⟩ : ∃ d : Nat, y = x + d := ⟨(y - x).toNat, by omega⟩
    have hp : (10 : Int) ^ (16 + y).toNat = 10 ^ d * 10 ^ (16 + x).toNat := by
      rw [show (16 + y).toNat = d + (16 + x).toNat by omega, Int.pow_add]
    rw [hp, ← Int.mul_assoc] at e
    have hpos : (0 : Int) < 10 ^ (16 + x).toNat := Int.pow_pos (by decide)
    have e2 : n = m * 10 ^ d := Int.eq_of_mul_eq_mul_right (by omega) e
    cases d with
    | zero => exact ⟨by rw [e2]; simp, by omega⟩
    | succ d =>
      exfalso
      have : n % 10 = 0 := by rw [e2, Int.pow_succ, ← Int.mul_assoc]; exact Int.mul_emod_left _ _
      omega
  by_cases hxy : x ≤ y
  · exact key h h' hxy e
  · obtain ⟨a, b⟩ := key h' h (by omega) e.symm
    exact ⟨a.symm, b.symm⟩
theorem less_one {n x m y : Int} (h : decOkB n x = true) (h' : decOkB m y = true) : (lessDecB n x m y || lessDecB m y n x) = !(decide (n = m ∧ x = y)) := by
  unfold lessDecB
  rw [h, h']
  simp only [Bool.true_and]
  by_cases e : n = m ∧ x = y
  · obtain ⟨rfl, rfl⟩ := e
    simp
  · have hne : decUp n x ≠ decUp m y := fun q => e (decUp_inj h h' q)
    rw [decide_eq_false e]
    rcases Int.lt_or_gt_of_ne hne with q | q
    · rw [decide_eq_true q]; simp
    · rw [decide_eq_true (show decUp m y < decUp n x from q)]; simp
theorem less_both {n x m y : Int} : (lessDecB n x m y && lessDecB m y n x) = false := by
  unfold lessDecB
  cases decOkB n x <;> cases decOkB m y <;> simp
  intro q; omega

/-! What was read is read again, alone. -/
theorem tw_take : ∀ (k : Nat) (l : List UInt8), (l.take k).takeWhile isDg = (l.takeWhile isDg).take k
  | 0, l => by simp
  | k + 1, [] => by simp
  | k + 1, c :: l => by
    rw [List.take_succ_cons]
    by_cases h : isDg c = true
    · rw [List.takeWhile_cons_of_pos h, List.takeWhile_cons_of_pos h, List.take_succ_cons, tw_take k l]
    · rw [List.takeWhile_cons_of_neg h, List.takeWhile_cons_of_neg h, List.take_nil]
/-- The piece from i up to z. -/
def cutL (l : List UInt8) (i z : Nat) : List UInt8 := (l.drop i).take (z - i)
theorem dsAt_cutL (l : List UInt8) (i z j : Nat) : dsAt (cutL l i z) j = (dsAt l (i + j)).take (z - i - j) := by
  unfold dsAt cutL
  rw [List.drop_take, List.drop_drop, tw_take]
theorem byN_cutL (l : List UInt8) (i z j : Nat) : byN (cutL l i z) j = if j < z - i then byN l (i + j) else 0 := by
  unfold byN cutL
  by_cases h : j < z - i
  · rw [if_pos h, List.getElem?_take_of_lt h, List.getElem?_drop]
  · rw [if_neg h, List.getElem?_eq_none (by rw [List.length_take]; omega)]
theorem dsAt_cut_eq {l : List UInt8} {i z j : Nat} (h : i + j + (dsAt l (i + j)).length ≤ z) : dsAt (cutL l i z) j = dsAt l (i + j) := by
  rw [dsAt_cutL, List.take_of_length_le (by omega)]

theorem rn4_at {ng dn : Bool} {ds ex : List UInt8} {fr q : Nat} {n x z : Int} (h : rn4 ng ds fr ex dn q = (n, x, z, 0)) : z = q ∧ ∀ q', rn4 ng ds fr ex dn q' = (n, x, (q' : Int), 0) := by
  unfold rn4 at h ⊢
  split at h
  · simp at h
  · rename_i hc
    simp only [Prod.mk.injEq] at h
    obtain ⟨h1, h2, h3, -⟩ := h
    exact ⟨h3.symm, fun q' => by rw [if_neg hc, h1, h2]⟩
theorem rn3_at {l : List UInt8} {ng : Bool} {ds : List UInt8} {fr i j : Nat} {n x z : Int} (h : rn3 l ng ds fr (i + j) = (n, x, z, 0)) :
    ∃ Z : Nat, z = (Z : Int) ∧ i + j ≤ Z ∧ rn3 (cutL l i Z) ng ds fr j = (n, x, ((Z - i : Nat) : Int), 0) := by
  unfold rn3 at h
  split at h
  · rename_i h1
    obtain ⟨g, hg⟩ : ∃ g, g = if byN l (i + j + 1) = 45 ∨ byN l (i + j + 1) = 43 then 2 else 1 := ⟨_, rfl⟩
    have hq : (if byN l (i + j + 1) = 45 ∨ byN l (i + j + 1) = 43 then i + j + 2 else i + j + 1) = i + (j + g) := by rw [hg]; split <;> omega
    rw [hq] at h
    split at h
    · simp at h
    · rename_i h2
      obtain ⟨hz, h4⟩ := rn4_at h
      have hpos : 0 < (dsAt l (i + (j + g))).length := List.length_pos_iff.2 h2
      have hg1 : 1 ≤ g := by rw [hg]; split <;> omega
      refine ⟨i + (j + g) + (dsAt l (i + (j + g))).length, hz, by omega, ?_⟩
      obtain ⟨Z, hZ⟩ : ∃ Z, Z = i + (j + g) + (dsAt l (i + (j + g))).length := ⟨_, rfl⟩
      rw [← hZ]
      have b1 : byN (cutL l i Z) j = byN l (i + j) := by rw [byN_cutL, if_pos (by omega)]
      have b2 : byN (cutL l i Z) (j + 1) = byN l (i + j + 1) := by rw [byN_cutL, if_pos (by omega), Nat.add_assoc]
      have hq2 : (if byN l (i + j + 1) = 45 ∨ byN l (i + j + 1) = 43 then j + 2 else j + 1) = j + g := by rw [hg]; split <;> omega
      unfold rn3
      rw [b1, b2, if_pos h1, hq2, dsAt_cut_eq (by omega), if_neg h2, h4]
      congr 3
      omega
  · rename_i h1
    obtain ⟨hz, h4⟩ := rn4_at h
    refine ⟨i + j, hz, Nat.le_refl _, ?_⟩
    unfold rn3
    have b1 : byN (cutL l i (i + j)) j = 0 := by rw [byN_cutL, if_neg (by omega)]
    rw [b1, if_neg (by omega), h4]
    congr 3
    omega
theorem rn2_at {l : List UInt8} {ng : Bool} {wh : List UInt8} {i j : Nat} {n x z : Int} (h : rn2 l ng wh (i + j) = (n, x, z, 0)) :
    ∃ Z : Nat, z = (Z : Int) ∧ i + j ≤ Z ∧ rn2 (cutL l i Z) ng wh j = (n, x, ((Z - i : Nat) : Int), 0) := by
  unfold rn2 at h
  split at h
  · rename_i h1
    split at h
    · simp at h
    · rename_i h2
      have e : i + j + 1 + (dsAt l (i + j + 1)).length = i + (j + 1 + (dsAt l (i + j + 1)).length) := by omega
      rw [e] at h
      obtain ⟨Z, hz, hle, h3⟩ := rn3_at h
      refine ⟨Z, hz, by omega, ?_⟩
      unfold rn2
      have b1 : byN (cutL l i Z) j = byN l (i + j) := by rw [byN_cutL, if_pos (by omega)]
      have hpos : 0 < (dsAt l (i + j + 1)).length := List.length_pos_iff.2 h2
      have d1 : dsAt (cutL l i Z) (j + 1) = dsAt l (i + j + 1) := by
        have := dsAt_cut_eq (l := l) (i := i) (z := Z) (j := j + 1) (by rw [show i + (j + 1) = i + j + 1 by omega]; omega)
        rw [this, show i + (j + 1) = i + j + 1 by omega]
      rw [b1, if_pos h1, d1, if_neg h2]
      exact h3
  · rename_i h1
    obtain ⟨Z, hz, hle, h3⟩ := rn3_at h
    refine ⟨Z, hz, hle, ?_⟩
    unfold rn2
    have b1 : byN (cutL l i Z) j ≠ 46 := by
      rw [byN_cutL]; split
      · exact h1
      · decide
    rw [if_neg b1]; exact h3
theorem rn1_at {l : List UInt8} {ng : Bool} {i j : Nat} {n x z : Int} (h : rn1 l ng (i + j) = (n, x, z, 0)) :
    ∃ Z : Nat, z = (Z : Int) ∧ i + j < Z ∧ rn1 (cutL l i Z) ng j = (n, x, ((Z - i : Nat) : Int), 0) := by
  unfold rn1 at h
  split at h
  · simp at h
  · rename_i h1
    have hpos : 0 < (dsAt l (i + j)).length := List.length_pos_iff.2 h1
    split at h
    · rename_i h2
      rw [Nat.add_assoc] at h
      obtain ⟨Z, hz, hle, h3⟩ := rn2_at h
      refine ⟨Z, hz, by omega, ?_⟩
      unfold rn1
      have b1 : byN (cutL l i Z) j = byN l (i + j) := by rw [byN_cutL, if_pos (by omega)]
      have d1 : dsAt (cutL l i Z) j ≠ [] := by
        rw [dsAt_cutL]
        intro e
        have := congrArg List.length e
        rw [List.length_take, List.length_nil] at this
        omega
      rw [if_neg d1, b1, if_pos h2]
      exact h3
    · rename_i h2
      rw [Nat.add_assoc] at h
      obtain ⟨Z, hz, hle, h3⟩ := rn2_at h
      refine ⟨Z, hz, by omega, ?_⟩
      unfold rn1
      have b1 : byN (cutL l i Z) j = byN l (i + j) := by rw [byN_cutL, if_pos (by omega)]
      rw [dsAt_cut_eq (by omega), if_neg h1, b1, if_neg h2]
      exact h3
/-- A number that was read is read again, alone. -/
theorem rn_again {l : List UInt8} {p : Int} {n x z : Int} (h : rnF l p = (n, x, z, 0)) :
    ∃ i Z : Nat, p = (i : Int) ∧ z = (Z : Int) ∧ i ≤ Z ∧ rnF (cutL l i Z) 0 = (n, x, z - p, 0) := by
  unfold rnF at h
  split at h
  · simp at h
  · rename_i h0
    obtain ⟨i, rfl⟩ : ∃ i : Nat, p = (i : Int) := ⟨p.toNat, by omega⟩
    rw [show ((i : Int)).toNat = i from rfl] at h
    split at h
    · rename_i h1
      obtain ⟨Z, hz, hle, h3⟩ := rn1_at h
      refine ⟨i, Z, rfl, hz, by omega, ?_⟩
      unfold rnF
      have b1 : byN (cutL l i Z) 0 = byN l i := by rw [byN_cutL, if_pos (by omega), Nat.add_zero]
      rw [if_neg (by omega), show (0 : Int).toNat = 0 from rfl, b1, if_pos h1, Nat.zero_add, h3, hz]
      congr 3
      omega
    · rename_i h1
      obtain ⟨Z, hz, hle, h3⟩ := rn1_at (j := 0) h
      refine ⟨i, Z, rfl, hz, by omega, ?_⟩
      unfold rnF
      have b1 : byN (cutL l i Z) 0 = byN l i := by rw [byN_cutL, if_pos (by omega), Nat.add_zero]
      rw [if_neg (by omega), show (0 : Int).toNat = 0 from rfl, b1, if_neg h1, h3, hz]
      congr 3
      omega
theorem rn4_no {ng dn : Bool} {ds ex : List UInt8} {fr q : Nat} (h : (rn4 ng ds fr ex dn q).2.2.2 ≠ 0) : (rn4 ng ds fr ex dn q).1 = 0 ∧ (rn4 ng ds fr ex dn q).2.1 = 0 := by
  unfold rn4 at h ⊢
  split
  · exact ⟨rfl, rfl⟩
  · rename_i hc; rw [if_neg hc] at h; exact absurd rfl h
theorem rn3_no {l : List UInt8} {ng : Bool} {ds : List UInt8} {fr q : Nat} (h : (rn3 l ng ds fr q).2.2.2 ≠ 0) : (rn3 l ng ds fr q).1 = 0 ∧ (rn3 l ng ds fr q).2.1 = 0 := by
  unfold rn3 at h ⊢
  by_cases h1 : byN l q = 101 ∨ byN l q = 69
  · rw [if_pos h1] at h ⊢
    generalize (if byN l (q + 1) = 45 ∨ byN l (q + 1) = 43 then q + 2 else q + 1) = r at *
    by_cases h2 : dsAt l r = []
    · rw [if_pos h2]; exact ⟨rfl, rfl⟩
    · rw [if_neg h2] at h ⊢; exact rn4_no h
  · rw [if_neg h1] at h ⊢; exact rn4_no h
theorem rn2_no {l : List UInt8} {ng : Bool} {wh : List UInt8} {q : Nat} (h : (rn2 l ng wh q).2.2.2 ≠ 0) : (rn2 l ng wh q).1 = 0 ∧ (rn2 l ng wh q).2.1 = 0 := by
  unfold rn2 at h ⊢
  by_cases h1 : byN l q = 46
  · rw [if_pos h1] at h ⊢
    by_cases h2 : dsAt l (q + 1) = []
    · rw [if_pos h2]; exact ⟨rfl, rfl⟩
    · rw [if_neg h2] at h ⊢; exact rn3_no h
  · rw [if_neg h1] at h ⊢; exact rn3_no h
theorem rn1_no {l : List UInt8} {ng : Bool} {q : Nat} (h : (rn1 l ng q).2.2.2 ≠ 0) : (rn1 l ng q).1 = 0 ∧ (rn1 l ng q).2.1 = 0 := by
  unfold rn1 at h ⊢
  by_cases h1 : dsAt l q = []
  · rw [if_pos h1]; exact ⟨rfl, rfl⟩
  · rw [if_neg h1] at h ⊢
    by_cases h2 : byN l q = 48
    · rw [if_pos h2] at h ⊢; exact rn2_no h
    · rw [if_neg h2] at h ⊢; exact rn2_no h
theorem rn_no {l : List UInt8} {p : Int} (h : (rnF l p).2.2.2 ≠ 0) : (rnF l p).1 = 0 ∧ (rnF l p).2.1 = 0 := by
  unfold rnF at h ⊢
  by_cases h1 : p < 0 ∨ (l.length : Int) < p
  · rw [if_pos h1]; exact ⟨rfl, rfl⟩
  · rw [if_neg h1] at h ⊢
    by_cases h2 : byN l p.toNat = 45
    · rw [if_pos h2] at h ⊢; exact rn1_no h
    · rw [if_neg h2] at h ⊢; exact rn1_no h
end Go.Proofs.YtilmhemcpgiikaaDoor
