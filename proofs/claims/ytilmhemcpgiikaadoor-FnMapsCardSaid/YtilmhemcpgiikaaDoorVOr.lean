/- The order of two values' numbers: the other side. -/
import Derived.Test.YtilmhemcpgiikaaDoorVCmp
import Derived.Test.YtilmhemcpgiikaaDoorShelf
import Derived.RegionTactic
import Derived.BigRegion
import Derived.BigQuiet
import Derived.Deep.QuietTactic
import Derived.Deep.RegionWith
import Derived.Deep.RegionHeld3
import Derived.Deep.DeepCutAuto
namespace Go.Proofs.YtilmhemcpgiikaaDoor
open Go.Deep Go.ChangeShapes Go.WideShapes Go.ChangeAt Go.RowKit
open Go.ChangeMaps (open_string shut_string)

theorem bySide_c (a b : Bool) (w : World) :
    Calls Tryd.prog 164 #[.bool a, .bool b] w fun e w' => e = .returned (.int .i64 (num2 a b)) ∧ w' = w := by
  cases a with
  | true =>
    go_enter Tryd.func164, Tryd.ntmps164
    go_wp2_with fail
    go_ret; exact ⟨rfl, rfl⟩
  | false =>
    cases b with
    | true =>
      go_enter Tryd.func164, Tryd.ntmps164
      go_wp2_with fail
      go_ret; exact ⟨rfl, rfl⟩
    | false =>
      go_enter Tryd.func164, Tryd.ntmps164
      go_wp2_with fail
      go_ret; exact ⟨rfl, rfl⟩
def or2 (a b : Int) : Int := if a ≠ 0 then a else b
theorem or_c (a b : Int) (p : Nat) (w : World) (hp : p < w.heap.size) (h0 : w.cell? ⟨p, 0, none⟩ = some (.int .i64 a)) (h1 : w.cell? ⟨p, 1, none⟩ = some (.int .i64 b)) :
    Calls Tryd.prog 132 #[.slice (some ⟨p, 0, none⟩) 2 2] w fun e w' => e = .returned (.int .i64 (or2 a b)) ∧ w' = w := by
  have HR : Hid (or2 a b = if a ≠ 0 then a else b) := Lib.hid rfl
  generalize or2 a b = R at *
  go_enter Tryd.func132, Tryd.ntmps132
  go_wp2_with fail
  go_loop [8] (fun i => ∃ j : Nat, j ≤ 2 ∧ i = .int .i64 j ∧ Hid (1 ≤ j → a = 0) ∧ Hid (2 ≤ j → b = 0)) (fun i => 2 - (intOf i).toNat)
  case atStart => exact ⟨0, by omega, rfl, Lib.hid (by omega), Lib.hid (by omega)⟩
  case round =>
    obtain ⟨j, hj, rfl, HA, HB⟩ := hrel
    have hj3 : j = 0 ∨ j = 1 ∨ j = 2 := by omega
    rcases hj3 with rfl | rfl | rfl
    · by_cases ha : a = 0
      · subst ha
        go_wp2_with fail
        go_round
        case rel => exact ⟨1, by omega, by go_num, Lib.hid (by simp), Lib.hid (by simp)⟩
        case measure => simp [intOf]
      · have hb : (a != 0) = true := by simpa using ha
        have HF := Lib.hid (HR.out.trans (if_pos ha))
        clear ha
        go_wp2_with fail
        go_ret
        exact ⟨ret_int HF.out.symm, rfl⟩
    · have ha := HA.out (by omega)
      subst ha
      by_cases hb : b = 0
      · subst hb
        go_wp2_with fail
        go_round
        case rel => exact ⟨2, by omega, by go_num, Lib.hid (by simp), Lib.hid (by simp)⟩
        case measure => simp [intOf]
      · have hbb : (b != 0) = true := by simpa using hb
        have HF := Lib.hid (HR.out.trans (if_neg (by simp)))
        clear hb
        go_wp2_with fail
        go_ret
        exact ⟨ret_int HF.out.symm, rfl⟩
    · have ha := HA.out (by omega)
      have hb := HB.out (by omega)
      subst ha; subst hb
      have HF := Lib.hid (HR.out.trans (if_neg (by simp)))
      go_wp2_with fail
      go_ret
      exact ⟨ret_int HF.out.symm, rfl⟩
end Go.Proofs.YtilmhemcpgiikaaDoor
