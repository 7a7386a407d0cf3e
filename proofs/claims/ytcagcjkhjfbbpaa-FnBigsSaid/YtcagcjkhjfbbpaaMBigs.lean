/- Plain laws of big-endian numbers: what is written is read again, and the other way round. -/
import Derived.Test.YtcagcjkhjfbbpaaCPutBigN
import Derived.Test.YtcagcjkhjfbbpaaCGetBig
namespace Go.Proofs.Ytcagcjkhjfbbpaa
open Go.Deep Go.ChangeShapes Go.WideShapes Go.ChangeAt Go.RowKit

theorem acc_step (n m z : Int) (h : n = 256 * m + z) (h1 : 0 ≤ z ∧ z ≤ 255) : n / 256 = m ∧ n % 256 = z := by omega
/-- What was read in so many bytes, written again in so many: the same bytes. -/
theorem be_get {zs : List Int} (hz : ∀ i, 0 ≤ zs.getD i 0 ∧ zs.getD i 0 ≤ 255) (p k : Nat) (hk : okW k = true) (hp : p + k ≤ zs.length) (hs : accB zs p k ≤ 1000000000000000) :
    okBig (accB zs p k) k = true ∧ beF (accB zs p k) k = (zs.drop p).take k := by
  have hk' := of_decide_eq_true hk
  have e : ∀ m : Nat, m ≤ k → (zs.drop p).take m = (List.range m).map fun i => zs.getD (p + i) 0 := by
    intro m hm
    apply List.ext_getElem
    · simp; omega
    · intro i h1 h2
      simp at h1 h2 ⊢
      rw [List.getElem?_eq_getElem (by omega)]; rfl
  rw [e k (Nat.le_refl _)]
  have b0 := hz p
  have b1 := hz (p + 1)
  have b2 := hz (p + 2)
  have b3 := hz (p + 3)
  have b4 := hz (p + 4)
  have b5 := hz (p + 5)
  have b6 := hz (p + 6)
  have b7 := hz (p + 7)
  have hr : ∀ (m : Nat) (g : Nat → Int), m = k → ((List.range k).map g) = ((List.range m).map g) := fun m g h => by rw [h]
  rcases hk' with h | h | h | h
  · obtain rfl : k = 1 := by omega
    simp only [accB, List.range, List.range.loop, List.map_cons, List.map_nil, Nat.add_zero, Int.cast_ofNat_Int] at *
    generalize zs.getD p 0 = x0 at *
    refine ⟨by simp [okBig, fitsF]; omega, ?_⟩
    simp [beF]; omega
  · obtain rfl : k = 2 := by omega
    simp only [accB, List.range, List.range.loop, List.map_cons, List.map_nil, Nat.add_zero, Int.cast_ofNat_Int] at *
    generalize zs.getD p 0 = x0 at *
    generalize zs.getD (p + 1) 0 = x1 at *
    refine ⟨by simp [okBig, fitsF]; omega, ?_⟩
    simp [beF]; omega
  · obtain rfl : k = 4 := by omega
    simp only [accB, List.range, List.range.loop, List.map_cons, List.map_nil, Nat.add_zero, Int.cast_ofNat_Int] at *
    generalize zs.getD p 0 = x0 at *
    generalize zs.getD (p + 1) 0 = x1 at *
    generalize zs.getD (p + 2) 0 = x2 at *
    generalize zs.getD (p + 3) 0 = x3 at *
    refine ⟨by simp [okBig, fitsF]; omega, ?_⟩
    simp [beF]; omega
  · obtain rfl : k = 8 := by omega
    simp only [accB, List.range, List.range.loop, List.map_cons, List.map_nil, Nat.add_zero, Int.cast_ofNat_Int] at *
    generalize zs.getD p 0 = x0 at *
    generalize zs.getD (p + 1) 0 = x1 at *
    generalize zs.getD (p + 2) 0 = x2 at *
    generalize zs.getD (p + 3) 0 = x3 at *
    generalize zs.getD (p + 4) 0 = x4 at *
    generalize zs.getD (p + 5) 0 = x5 at *
    generalize zs.getD (p + 6) 0 = x6 at *
    generalize zs.getD (p + 7) 0 = x7 at *
    refine ⟨by simp [okBig, fitsF]; omega, ?_⟩
    simp [beF]; omega
/-- What was written in so many bytes is read again. -/
theorem get_be (zs : List Int) (n w : Int) (hn : 0 ≤ n ∧ n ≤ 1000000000000000) (hw : w = 1 ∨ w = 2 ∨ w = 4 ∨ w = 8) (hwn : widthF n ≤ w) :
    okBig n w = true ∧ ((putF zs n w).length : Int) = zs.length + w ∧ gN (putF zs n w) zs.length w = n ∧ gB (putF zs n w) zs.length w = true := by
  have hok : okBig n w = true := by
    unfold widthF at hwn
    rcases hw with rfl | rfl | rfl | rfl <;> simp [okBig, fitsF] <;> (repeat' split at hwn) <;> omega
  have hput : putF zs n w = zs ++ beF n w := by unfold putF; rw [if_pos hok]
  have hlen : ((beF n w).length : Int) = w := by unfold beF; rcases hw with rfl | rfl | rfl | rfl <;> rfl
  have hg : okG (zs ++ beF n w) zs.length w = true := by
    unfold okG okW existG
    rw [Bool.and_eq_true]
    exact ⟨decide_eq_true hw, decide_eq_true (by rw [List.length_append]; omega)⟩
  obtain ⟨p', k', h1, h2, h3, h4, h5, h6⟩ := okG_true hg
  obtain rfl : p' = zs.length := by omega
  rw [hput]
  refine ⟨hok, by rw [List.length_append]; omega, ?_⟩
  rw [h5, h6]
  have hget : ∀ i, (zs ++ beF n w).getD (zs.length + i) 0 = (beF n w).getD i 0 := by
    intro i
    rw [List.getD_eq_getElem?_getD, List.getD_eq_getElem?_getD, List.getElem?_append_right (by omega)]; congr 2; omega
  have hacc : accB (zs ++ beF n w) zs.length k' = n := by
    unfold okBig fitsF at hok
    rcases hw with rfl | rfl | rfl | rfl
    · obtain rfl : k' = 1 := by omega
      simp only [accB, hget]
      simp [beF] at hok ⊢; omega
    · obtain rfl : k' = 2 := by omega
      simp only [accB, hget]
      simp [beF] at hok ⊢; omega
    · obtain rfl : k' = 4 := by omega
      simp only [accB, hget]
      simp [beF] at hok ⊢; omega
    · obtain rfl : k' = 8 := by omega
      simp only [accB, hget]
      simp [beF] at hok ⊢; omega
  unfold getN getOk
  rw [hacc, if_pos hn.2]
  exact ⟨rfl, decide_eq_true hn.2⟩
theorem put_none (zs : List Int) (n w : Int) (hn : n ≤ 1000000000000000) (h : n < 0 ∨ w < widthF n ∨ ¬(w = 1 ∨ w = 2 ∨ w = 4 ∨ w = 8)) : putF zs n w = zs := by
  have : okBig n w = false := by
    unfold okBig fitsF
    rw [Bool.and_eq_false_iff, decide_eq_false_iff_not, decide_eq_false_iff_not]
    by_cases hw : w = 1 ∨ w = 2 ∨ w = 4 ∨ w = 8
    · right
      unfold widthF at h
      rcases hw with rfl | rfl | rfl | rfl <;> simp <;> (repeat' split at h) <;> omega
    · exact .inl hw
  unfold putF; rw [if_neg (by rw [this]; decide)]
end Go.Proofs.Ytcagcjkhjfbbpaa
