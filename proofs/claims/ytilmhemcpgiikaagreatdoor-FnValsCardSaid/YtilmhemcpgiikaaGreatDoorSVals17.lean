/- Vals: texts of the proof (CRune MRune). -/
import Derived.Test.YtilmhemcpgiikaaGreatDoorSVals3
import Derived.Deep.AppendLies
import Derived.Lib.RuneBytes
import Derived.Lib.DecodeN
/- RuneOk, and how wide a character is. -/
namespace Go.Proofs.YtilmhemcpgiikaaGreatDoor
open Go.Deep Go.ChangeShapes Go.WideShapes Go.ChangeAt Go.RowKit
open Go.ChangeMaps (open_string shut_string)


/-- Is a number a character? -/
def runeOkB (n : Int) : Bool := inB n 0 1114111 && !inB n 55296 57343
theorem runeOkB_true {n : Int} : runeOkB n = true ↔ (0 ≤ n ∧ n ≤ 1114111) ∧ (n < 55296 ∨ 57343 < n) := by
  unfold runeOkB
  rw [Bool.and_eq_true, inB_true, Bool.not_eq_true', inB_false]
theorem runeOkB_false {n : Int} : runeOkB n = false ↔ n < 0 ∨ 1114111 < n ∨ (55296 ≤ n ∧ n ≤ 57343) := by
  rw [← Bool.not_eq_true, runeOkB_true]; omega
/-- The bytes of a character, none of what is none. -/
def encZ (n : Int) : List Int := if runeOkB n = true then Lib.encodeRuneZ n else []
def wideF (n : Int) : Int := if runeOkB n = true then (if n < 128 then 1 else if n < 2048 then 2 else if n < 65536 then 3 else 4) else 0
theorem encZ_len (n : Int) : ((encZ n).length : Int) = wideF n := by
  unfold encZ wideF
  by_cases h : runeOkB n = true
  · rw [if_pos h, if_pos h]
    have h' := runeOkB_true.1 h
    by_cases h1 : n < 128
    · rw [Lib.encodeRuneZ_one (by omega) (by omega), if_pos h1]; rfl
    by_cases h2 : n < 2048
    · rw [Lib.encodeRuneZ_two (by omega) (by omega), if_neg h1, if_pos h2]; rfl
    by_cases h3 : n < 65536
    · rw [Lib.encodeRuneZ_three (by omega), if_neg h1, if_neg h2, if_pos h3]; rfl
    · rw [Lib.encodeRuneZ_four (by omega) (by omega), if_neg h1, if_neg h2, if_neg h3]; rfl
  · rw [if_neg h, if_neg h]; rfl
theorem wideF_bd (n : Int) : 0 ≤ wideF n ∧ wideF n ≤ 4 := by unfold wideF; (repeat' split) <;> omega

theorem runeOk_spec (n : Int) (w : World) :
    Calls Tryz.prog 91 #[.int .i64 n] w fun e w' => e = .returned (.bool (runeOkB n)) ∧ w = w' := by
  unfold runeOkB
  cases h1 : inB n 0 1114111 with
  | false =>
    go_enter Tryz.func91, Tryz.ntmps91
    go_wp2_with (go_at_call 44; refine (l1In_c _ _ _ _).mono ?_; rintro e w' ⟨rfl, rfl⟩)
    go_ret; exact ⟨rfl, rfl⟩
  | true =>
    cases h2 : inB n 55296 57343
    all_goals
      go_enter Tryz.func91, Tryz.ntmps91
      go_wp2_with (go_at_call 44; refine (l1In_c _ _ _ _).mono ?_; rintro e w' ⟨rfl, rfl⟩)
      go_ret; exact ⟨rfl, rfl⟩


set_option maxHeartbeats 1000000 in
theorem wideOf_spec (n : Int) (w : World) :
    Calls Tryz.prog 85 #[.int .i64 n] w fun e w' => e = .returned (.int .i64 (wideF n)) ∧ w = w' := by
  unfold wideF
  cases h1 : runeOkB n with
  | false =>
    rw [if_neg (by simp)]
    go_enter Tryz.func85, Tryz.ntmps85
    go_wp2_with (go_at_call 91; refine (runeOk_spec _ _).mono ?_; rintro e w' ⟨rfl, rfl⟩)
    go_ret; exact ⟨rfl, rfl⟩
  | true =>
    rw [if_pos rfl]
    by_cases c1 : n < 128
    · rw [if_pos c1]
      go_enter Tryz.func85, Tryz.ntmps85
      go_wp2_with (go_at_call 91; refine (runeOk_spec _ _).mono ?_; rintro e w' ⟨rfl, rfl⟩)
      go_ret; exact ⟨rfl, rfl⟩
    rw [if_neg c1]
    by_cases c2 : n < 2048
    · rw [if_pos c2]
      go_enter Tryz.func85, Tryz.ntmps85
      go_wp2_with (go_at_call 91; refine (runeOk_spec _ _).mono ?_; rintro e w' ⟨rfl, rfl⟩)
      go_ret; exact ⟨rfl, rfl⟩
    rw [if_neg c2]
    by_cases c3 : n < 65536
    · rw [if_pos c3]
      go_enter Tryz.func85, Tryz.ntmps85
      go_wp2_with (go_at_call 91; refine (runeOk_spec _ _).mono ?_; rintro e w' ⟨rfl, rfl⟩)
      go_ret; exact ⟨rfl, rfl⟩
    rw [if_neg c3]
    go_enter Tryz.func85, Tryz.ntmps85
    go_wp2_with (go_at_call 91; refine (runeOk_spec _ _).mono ?_; rintro e w' ⟨rfl, rfl⟩)
    go_ret; exact ⟨rfl, rfl⟩

end Go.Proofs.YtilmhemcpgiikaaGreatDoor
/- The plain law under GetRune: the reference's way and the decoder's give the same. -/
namespace Go.Proofs.YtilmhemcpgiikaaGreatDoor

/-- How many bytes a lead byte announces; 0: none. -/
def leadW (x : Nat) : Nat := if x < 128 then 1 else if 192 ≤ x ∧ x ≤ 223 then 2 else if 224 ≤ x ∧ x ≤ 239 then 3 else if 240 ≤ x ∧ x ≤ 247 then 4 else 0
/-- What a lead byte holds. -/
def leadN (x : Nat) : Int := if x < 128 then x else if x ≤ 223 then x - 192 else if x ≤ 239 then x - 224 else x - 240
/-- What the first bytes hold. -/
def accB (b : Nat → Nat) : Nat → Int
  | 0 => leadN (b 0)
  | i + 1 => 64 * accB b i + b (i + 1) - 128
def contB (b : Nat → Nat) (w : Nat) : Prop := ∀ i, 1 ≤ i → i < w → 128 ≤ b i ∧ b i ≤ 191
def goodB (n : Nat) (b : Nat → Nat) : Prop := leadW (b 0) ≠ 0 ∧ leadW (b 0) ≤ n ∧ contB b (leadW (b 0)) ∧ wideF (accB b (leadW (b 0) - 1)) = leadW (b 0)
open Classical in
/-- The character at the head, its width, and whether there is one. -/
noncomputable def getF (n : Nat) (b : Nat → Nat) : Int × Int × Bool := if goodB n b then (accB b (leadW (b 0) - 1), leadW (b 0), true) else (0, 0, false)
theorem wideF_iff (n w : Int) (h : 1 ≤ w) : wideF n = w ↔ (0 ≤ n ∧ n ≤ 1114111 ∧ (n < 55296 ∨ 57343 < n)) ∧ ((n < 128 ∧ w = 1) ∨ (128 ≤ n ∧ n < 2048 ∧ w = 2) ∨ (2048 ≤ n ∧ n < 65536 ∧ w = 3) ∨ (65536 ≤ n ∧ w = 4)) := by
  unfold wideF
  by_cases hk : runeOkB n = true
  · have := runeOkB_true.1 hk
    rw [if_pos hk]
    repeat' split
    all_goals omega
  · have := runeOkB_false.1 (by simpa using hk)
    rw [if_neg hk]
    omega
/-- Both ways say the same. -/
theorem getF_eq (n : Nat) (b : Nat → Nat) (hn : 1 ≤ n) (hb : ∀ i, b i < 256) :
    getF n b = if Lib.decodeN n (b 0) (b 1) (b 2) (b 3) = (65533, 1) then (0, 0, false) else (((Lib.decodeN n (b 0) (b 1) (b 2) (b 3)).1 : Int), ((Lib.decodeN n (b 0) (b 1) (b 2) (b 3)).2 : Int), true) := by
  have h0 := hb 0; have h1 := hb 1; have h2 := hb 2; have h3 := hb 3
  have key : (goodB n b ∧ Lib.decodeN n (b 0) (b 1) (b 2) (b 3) ≠ (65533, 1) ∧ accB b (leadW (b 0) - 1) = (Lib.decodeN n (b 0) (b 1) (b 2) (b 3)).1 ∧ leadW (b 0) = (Lib.decodeN n (b 0) (b 1) (b 2) (b 3)).2) ∨ (¬ goodB n b ∧ Lib.decodeN n (b 0) (b 1) (b 2) (b 3) = (65533, 1)) := by
    by_cases c1 : b 0 < 128
    · left
      have hd : Lib.decodeN n (b 0) (b 1) (b 2) (b 3) = (b 0, 1) := by unfold Lib.decodeN; rw [if_pos c1]
      have hw : leadW (b 0) = 1 := by unfold leadW; rw [if_pos c1]
      have ha : accB b (1 - 1) = (b 0 : Int) := by show leadN (b 0) = _; unfold leadN; rw [if_pos c1]
      unfold goodB
      rw [hd, hw, ha]
      refine ⟨⟨by omega, hn, fun i a b => by omega, ?_⟩, by intro h; rw [Prod.mk.injEq] at h; omega, rfl, rfl⟩
      rw [wideF_iff _ _ (by omega)]; omega
    by_cases c2 : 192 ≤ b 0 ∧ b 0 ≤ 223
    · have hw : leadW (b 0) = 2 := by unfold leadW; rw [if_neg c1, if_pos c2]
      have ha : accB b (2 - 1) = 64 * ((b 0 : Int) - 192) + b 1 - 128 := by show 64 * leadN (b 0) + b 1 - 128 = _; unfold leadN; rw [if_neg c1, if_pos c2.2]
      have hc : contB b 2 ↔ 128 ≤ b 1 ∧ b 1 ≤ 191 := ⟨fun h => h 1 (by omega) (by omega), fun h i a c => by obtain rfl : i = 1 := (by omega); exact h⟩
      have hg : goodB n b ↔ 2 ≤ n ∧ (128 ≤ b 1 ∧ b 1 ≤ 191) ∧ 128 ≤ 64 * ((b 0 : Int) - 192) + b 1 - 128 := by
        unfold goodB; rw [hw, ha, hc, wideF_iff _ _ (by omega)]
        omega
      rw [hg, hw, ha]
      unfold Lib.decodeN
      rw [if_neg c1]
      repeat' split
      all_goals first
        | (left; refine ⟨by omega, by intro h; rw [Prod.mk.injEq] at h; omega, by simp only; omega, rfl⟩)
        | (right; refine ⟨by omega, rfl⟩)
        | (exfalso; omega)
    by_cases c3 : 224 ≤ b 0 ∧ b 0 ≤ 239
    · have hw : leadW (b 0) = 3 := by unfold leadW; rw [if_neg c1, if_neg c2, if_pos c3]
      have ha : accB b (3 - 1) = 64 * (64 * ((b 0 : Int) - 224) + b 1 - 128) + b 2 - 128 := by show 64 * (64 * leadN (b 0) + b 1 - 128) + b 2 - 128 = _; unfold leadN; rw [if_neg c1, if_neg (by omega), if_pos c3.2]
      have hc : contB b 3 ↔ (128 ≤ b 1 ∧ b 1 ≤ 191) ∧ (128 ≤ b 2 ∧ b 2 ≤ 191) := ⟨fun h => ⟨h 1 (by omega) (by omega), h 2 (by omega) (by omega)⟩, fun h i a c => by rcases (show i = 1 ∨ i = 2 by omega) with rfl | rfl; exact h.1; exact h.2⟩
      have hg : goodB n b ↔ 3 ≤ n ∧ ((128 ≤ b 1 ∧ b 1 ≤ 191) ∧ (128 ≤ b 2 ∧ b 2 ≤ 191)) ∧ 2048 ≤ 64 * (64 * ((b 0 : Int) - 224) + b 1 - 128) + b 2 - 128 ∧ (64 * (64 * ((b 0 : Int) - 224) + b 1 - 128) + b 2 - 128 < 55296 ∨ 57343 < 64 * (64 * ((b 0 : Int) - 224) + b 1 - 128) + b 2 - 128) := by
        unfold goodB; rw [hw, ha, hc, wideF_iff _ _ (by omega)]
        omega
      rw [hg, hw, ha]
      unfold Lib.decodeN
      rw [if_neg c1, if_neg (by omega)]
      repeat' split
      all_goals first
        | (left; refine ⟨by omega, by intro h; rw [Prod.mk.injEq] at h; omega, by simp only; omega, rfl⟩)
        | (right; refine ⟨by omega, rfl⟩)
        | (exfalso; omega)
    by_cases c4 : 240 ≤ b 0 ∧ b 0 ≤ 247
    · have hw : leadW (b 0) = 4 := by unfold leadW; rw [if_neg c1, if_neg c2, if_neg c3, if_pos c4]
      have ha : accB b (4 - 1) = 64 * (64 * (64 * ((b 0 : Int) - 240) + b 1 - 128) + b 2 - 128) + b 3 - 128 := by show 64 * (64 * (64 * leadN (b 0) + b 1 - 128) + b 2 - 128) + b 3 - 128 = _; unfold leadN; rw [if_neg c1, if_neg (by omega), if_neg (by omega)]
      have hc : contB b 4 ↔ (128 ≤ b 1 ∧ b 1 ≤ 191) ∧ (128 ≤ b 2 ∧ b 2 ≤ 191) ∧ (128 ≤ b 3 ∧ b 3 ≤ 191) := ⟨fun h => ⟨h 1 (by omega) (by omega), h 2 (by omega) (by omega), h 3 (by omega) (by omega)⟩, fun h i a c => by rcases (show i = 1 ∨ i = 2 ∨ i = 3 by omega) with rfl | rfl | rfl; exact h.1; exact h.2.1; exact h.2.2⟩
      have hg : goodB n b ↔ 4 ≤ n ∧ ((128 ≤ b 1 ∧ b 1 ≤ 191) ∧ (128 ≤ b 2 ∧ b 2 ≤ 191) ∧ (128 ≤ b 3 ∧ b 3 ≤ 191)) ∧ 65536 ≤ 64 * (64 * (64 * ((b 0 : Int) - 240) + b 1 - 128) + b 2 - 128) + b 3 - 128 ∧ 64 * (64 * (64 * ((b 0 : Int) - 240) + b 1 - 128) + b 2 - 128) + b 3 - 128 ≤ 1114111 := by
        unfold goodB; rw [hw, ha, hc, wideF_iff _ _ (by omega)]
        omega
      rw [hg, hw, ha]
      unfold Lib.decodeN
      rw [if_neg c1, if_neg (by omega), if_neg (by omega)]
      repeat' split
      all_goals first
        | (left; refine ⟨by omega, by intro h; rw [Prod.mk.injEq] at h; omega, by simp only; omega, rfl⟩)
        | (right; refine ⟨by omega, rfl⟩)
        | (exfalso; omega)
    · right
      have hw : leadW (b 0) = 0 := by unfold leadW; rw [if_neg c1, if_neg c2, if_neg c3, if_neg c4]
      refine ⟨fun h => h.1 hw, ?_⟩
      unfold Lib.decodeN
      rw [if_neg c1, if_neg (by omega), if_neg (by omega), if_neg (by omega)]
  unfold getF
  rcases key with ⟨a, c, d, e⟩ | ⟨a, c⟩
  · rw [if_pos a, if_neg c, d, e]
  · rw [if_neg a, if_pos c]
end Go.Proofs.YtilmhemcpgiikaaGreatDoor
