/- Plain laws on the text of decimal numbers. -/
import Derived.Test.YtcmdchhhdcdpnaaDoorMDec
namespace Go.Proofs.YtcmdchhhdcdpnaaDoor

/-- With zeros ahead, up to a length. -/
def padZ (L : Nat) (s : List UInt8) : List UInt8 := List.replicate (L - s.length) 48 ++ s
theorem padZ_step {L : Nat} {s : List UInt8} (h : s.length < L) : padZ L (48 :: s) = padZ L s := by
  unfold padZ
  rw [List.length_cons, show L - s.length = (L - (s.length + 1)) + 1 by omega, List.replicate_succ', List.append_assoc]
  rfl
theorem padZ_done {L : Nat} {s : List UInt8} (h : L ≤ s.length) : padZ L s = s := by
  unfold padZ; rw [show L - s.length = 0 by omega]; rfl
theorem padZ_length (L : Nat) (s : List UInt8) : (padZ L s).length = max L s.length := by
  unfold padZ; rw [List.length_append, List.length_replicate]; omega
/-- The text of a number with a point. -/
def pointed (n : Int) (k : Nat) (s : List UInt8) : List UInt8 := (if n < 0 then [45] else []) ++ (s.take (s.length - k) ++ (46 :: s.drop (s.length - k)))
def decTextL (n x : Int) : List UInt8 :=
  if decOkB n x = true then
    if x = 0 then Lib.itoa n else pointed n (-x).toNat (padZ (1 + (-x).toNat) (Lib.decDigits n.natAbs))
  else []
theorem decTextL_no {n x : Int} (h : decOkB n x = false) : decTextL n x = [] := if_neg (by rw [h]; simp)
theorem decTextL_int {n : Int} (h : decOkB n 0 = true) : decTextL n 0 = Lib.itoa n := by unfold decTextL; rw [if_pos h, if_pos rfl]
theorem decTextL_pt {n x : Int} (h : decOkB n x = true) (hx : x ≠ 0) {k : Nat} (hk : x = -(k : Int)) : decTextL n x = pointed n k (padZ (1 + k) (Lib.decDigits n.natAbs)) := by
  unfold decTextL; rw [if_pos h, if_neg hx, show (-x).toNat = k by omega]
end Go.Proofs.YtcmdchhhdcdpnaaDoor
