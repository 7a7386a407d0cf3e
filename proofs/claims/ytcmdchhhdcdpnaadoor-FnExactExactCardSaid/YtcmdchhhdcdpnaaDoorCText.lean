/- DecText: both write the same text. -/
import Derived.Test.YtcmdchhhdcdpnaaDoorCDec
import Derived.Test.YtcmdchhhdcdpnaaDoorCTwo
import Derived.Test.YtcmdchhhdcdpnaaDoorMText
namespace Go.Proofs.YtcmdchhhdcdpnaaDoor
open Go.Deep Go.ChangeShapes Go.WideShapes Go.ChangeAt Go.RowKit
open Go.ChangeMaps (open_string shut_string)

theorem drewN_belowT {B : Nat} {w w' : World} (h : Below B w w') (k : Nat) : Below B w (w'.drewN k) := ⟨h.os, h.tape, h.output, h.size, h.block⟩
def strLen : Value → Nat
  | .string s => s.size
  | _ => 0
theorem strLen_mk (l : List UInt8) : strLen (.string ⟨l.toArray⟩) = l.length := by simp [strLen, ByteArray.size]
def decTextS (n x : Int) : ByteArray := ⟨(decTextL n x).toArray⟩

theorem pointed_str (sg l : List UInt8) (p k : Nat) (hp : l.length = p + k) :
    ({ data := sg.toArray } : ByteArray) ++ ({ data := l.toArray } : ByteArray).extract 0 p ++ { data := #[46] } ++ ({ data := l.toArray } : ByteArray).extract p (p + k) = { data := (sg ++ (l.take (l.length - k) ++ 46 :: l.drop (l.length - k))).toArray } := by
  apply ByteArray.ext
  rw [hp, Nat.add_sub_cancel]
  simp only [ByteArray.data_append, ByteArray.data_extract]
  apply Array.ext'
  simp [← hp]
  exact List.take_of_length_le (by simp)
theorem pointed_str0 (l : List UInt8) (p k : Nat) (hp : l.length = p + k) :
    ({ data := l.toArray } : ByteArray).extract 0 p ++ { data := #[46] } ++ ({ data := l.toArray } : ByteArray).extract p (p + k) = { data := ([] ++ (l.take (l.length - k) ++ 46 :: l.drop (l.length - k))).toArray } := by
  rw [← pointed_str [] l p k hp]
  apply ByteArray.ext
  simp
theorem pointed_neg {n : Int} (h : n < 0) (k : Nat) (l : List UInt8) : pointed n k l = [45] ++ (l.take (l.length - k) ++ 46 :: l.drop (l.length - k)) := by unfold pointed; rw [if_pos h]
theorem pointed_pos {n : Int} (h : ¬ n < 0) (k : Nat) (l : List UInt8) : pointed n k l = [] ++ (l.take (l.length - k) ++ 46 :: l.drop (l.length - k)) := by unfold pointed; rw [if_neg h]

theorem cut_minus (n : Int) : Lib.trimPrefix (Lib.itoa n) [45] = Lib.decDigits n.natAbs ∧ Lib.hasPrefix (Lib.itoa n) [45] = decide (n < 0) := by
  refine ⟨trim_minus n, ?_⟩
  by_cases h : n < 0
  · rw [itoa_neg h, decide_eq_true h]
    simp [Lib.hasPrefix, List.isPrefixOf]
  · rw [itoa_pos (by omega), decide_eq_false h]
    obtain ⟨c, l, e, h1, h2⟩ := decDigits_head n.natAbs
    rw [e]
    have : (45 == c) = false := by
      rw [beq_eq_false_iff_ne]
      intro hc; subst hc; simp at h1
    simp [Lib.hasPrefix, List.isPrefixOf, this]

end Go.Proofs.YtcmdchhhdcdpnaaDoor
