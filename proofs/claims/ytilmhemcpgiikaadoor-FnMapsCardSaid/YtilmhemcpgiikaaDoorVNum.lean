/- The order of two values' numbers: the reference. -/
import Derived.Test.YtilmhemcpgiikaaDoorVCmp
namespace Go.Proofs.YtilmhemcpgiikaaDoor
open Go.Deep Go.ChangeShapes Go.WideShapes Go.ChangeAt Go.RowKit
open Go.ChangeMaps (open_string shut_string)

set_option maxRecDepth 100000 in
set_option maxHeartbeats 4000000 in
theorem num41 (n x k' m y : Int) (s s' : ByteArray) (a a' : Option Addr) (l c l' c' : Nat) (w : World) (k1 : fltOkF n x = true) (k2 : fltOkF m y = true) (k3 : lessFltB n x m y = true) :
    Calls Tryd.prog 130 #[.agg #[.int .i64 4, .int .i64 n, .int .i64 x, .string s, .slice a l c], .agg #[.int .i64 k', .int .i64 m, .int .i64 y, .string s', .slice a' l' c']] w fun e w' => e = .returned (.int .i64 (numC 4 n x m y)) ∧ Below w.heap.size w w' := by
  have hf := (numC_4 k1 k2).trans (num2_1 k3)
  rw [hf]; clear hf
  have HA := fun w1 => fltOk_spec n x w1
  rw [k1] at HA
  have HA := Lib.hid HA
  have HB := fun w1 => fltOk_spec m y w1
  rw [k2] at HB
  have HB := Lib.hid HB
  have HC := fun w1 => lessFlt_spec n x m y w1
  rw [k3] at HC
  have HC := Lib.hid HC
  clear k1 k2 k3
  have HW := Lib.hid (vbelow6 w (.cells #[.int .i64 4, .int .i64 n, .int .i64 x, .string s, .slice a l c] 29) (.cells #[.int .i64 k', .int .i64 m, .int .i64 y, .string s', .slice a' l' c'] 29) (.cells #[.int .i64 n, .int .i64 x] 56) (.cells #[.int .i64 m, .int .i64 y] 56) (.cells #[.int .i64 n, .int .i64 x] 42) (.cells #[.int .i64 m, .int .i64 y] 42))
  go_enter Tryd.func130, Tryd.ntmps130
  go_wp2_with fail
  refine (HA.out _).mono ?_
  rintro _ w1 ⟨rfl, b⟩
  have B1 := Lib.hid b
  clear b
  obtain ⟨q0, q1, q2, q3, q4, q5⟩ := six_objs B1.out
  obtain ⟨c100, c101, c102, c103, c104⟩ := obj5 q0
  obtain ⟨c110, c111, c112, c113, c114⟩ := obj5 q1
  obtain ⟨c120, c121⟩ := obj2 q2
  obtain ⟨c130, c131⟩ := obj2 q3
  obtain ⟨c140, c141⟩ := obj2 q4
  obtain ⟨c150, c151⟩ := obj2 q5
  clear q0 q1 q2 q3 q4 q5
  go_wp2_with fail
  refine (HB.out _).mono ?_
  rintro _ w2 ⟨rfl, b⟩
  have B2 := Lib.hid (vnx B1.out b)
  clear b
  obtain ⟨q0, q1, q2, q3, q4, q5⟩ := six_objs B2.out
  obtain ⟨c200, c201, c202, c203, c204⟩ := obj5 q0
  obtain ⟨c210, c211, c212, c213, c214⟩ := obj5 q1
  obtain ⟨c220, c221⟩ := obj2 q2
  obtain ⟨c230, c231⟩ := obj2 q3
  obtain ⟨c240, c241⟩ := obj2 q4
  obtain ⟨c250, c251⟩ := obj2 q5
  clear q0 q1 q2 q3 q4 q5
  go_wp2_with fail
  refine (HC.out _).mono ?_
  rintro _ w3 ⟨rfl, b⟩
  have B3 := Lib.hid (vnx B2.out b)
  clear b
  go_wp2_with fail
  go_ret
  exact ⟨rfl, vnx HW.out B3.out⟩
set_option maxRecDepth 100000 in
set_option maxHeartbeats 4000000 in
theorem num42 (n x k' m y : Int) (s s' : ByteArray) (a a' : Option Addr) (l c l' c' : Nat) (w : World) (k1 : fltOkF n x = true) (k2 : fltOkF m y = true) (k3 : lessFltB n x m y = false) (k4 : lessFltB m y n x = true) :
    Calls Tryd.prog 130 #[.agg #[.int .i64 4, .int .i64 n, .int .i64 x, .string s, .slice a l c], .agg #[.int .i64 k', .int .i64 m, .int .i64 y, .string s', .slice a' l' c']] w fun e w' => e = .returned (.int .i64 (numC 4 n x m y)) ∧ Below w.heap.size w w' := by
  have hf := (numC_4 k1 k2).trans (num2_2 k3 k4)
  rw [hf]; clear hf
  have HA := fun w1 => fltOk_spec n x w1
  rw [k1] at HA
  have HA := Lib.hid HA
  have HB := fun w1 => fltOk_spec m y w1
  rw [k2] at HB
  have HB := Lib.hid HB
  have HC := fun w1 => lessFlt_spec n x m y w1
  rw [k3] at HC
  have HC := Lib.hid HC
  have HD := fun w1 => lessFlt_spec m y n x w1
  rw [k4] at HD
  have HD := Lib.hid HD
  clear k1 k2 k3 k4
  have HW := Lib.hid (vbelow6 w (.cells #[.int .i64 4, .int .i64 n, .int .i64 x, .string s, .slice a l c] 29) (.cells #[.int .i64 k', .int .i64 m, .int .i64 y, .string s', .slice a' l' c'] 29) (.cells #[.int .i64 n, .int .i64 x] 56) (.cells #[.int .i64 m, .int .i64 y] 56) (.cells #[.int .i64 n, .int .i64 x] 42) (.cells #[.int .i64 m, .int .i64 y] 42))
  go_enter Tryd.func130, Tryd.ntmps130
  go_wp2_with fail
  refine (HA.out _).mono ?_
  rintro _ w1 ⟨rfl, b⟩
  have B1 := Lib.hid b
  clear b
  obtain ⟨q0, q1, q2, q3, q4, q5⟩ := six_objs B1.out
  obtain ⟨c100, c101, c102, c103, c104⟩ := obj5 q0
  obtain ⟨c110, c111, c112, c113, c114⟩ := obj5 q1
  obtain ⟨c120, c121⟩ := obj2 q2
  obtain ⟨c130, c131⟩ := obj2 q3
  obtain ⟨c140, c141⟩ := obj2 q4
  obtain ⟨c150, c151⟩ := obj2 q5
  clear q0 q1 q2 q3 q4 q5
  go_wp2_with fail
  refine (HB.out _).mono ?_
  rintro _ w2 ⟨rfl, b⟩
  have B2 := Lib.hid (vnx B1.out b)
  clear b
  obtain ⟨q0, q1, q2, q3, q4, q5⟩ := six_objs B2.out
  obtain ⟨c200, c201, c202, c203, c204⟩ := obj5 q0
  obtain ⟨c210, c211, c212, c213, c214⟩ := obj5 q1
  obtain ⟨c220, c221⟩ := obj2 q2
  obtain ⟨c230, c231⟩ := obj2 q3
  obtain ⟨c240, c241⟩ := obj2 q4
  obtain ⟨c250, c251⟩ := obj2 q5
  clear q0 q1 q2 q3 q4 q5
  go_wp2_with fail
  refine (HC.out _).mono ?_
  rintro _ w3 ⟨rfl, b⟩
  have B3 := Lib.hid (vnx B2.out b)
  clear b
  obtain ⟨q0, q1, q2, q3, q4, q5⟩ := six_objs B3.out
  obtain ⟨c300, c301, c302, c303, c304⟩ := obj5 q0
  obtain ⟨c310, c311, c312, c313, c314⟩ := obj5 q1
  obtain ⟨c320, c321⟩ := obj2 q2
  obtain ⟨c330, c331⟩ := obj2 q3
  obtain ⟨c340, c341⟩ := obj2 q4
  obtain ⟨c350, c351⟩ := obj2 q5
  clear q0 q1 q2 q3 q4 q5
  go_wp2_with fail
  refine (HD.out _).mono ?_
  rintro _ w4 ⟨rfl, b⟩
  have B4 := Lib.hid (vnx B3.out b)
  clear b
  go_wp2_with fail
  go_ret
  exact ⟨rfl, vnx HW.out B4.out⟩
set_option maxRecDepth 100000 in
set_option maxHeartbeats 4000000 in
theorem num43 (n x k' m y : Int) (s s' : ByteArray) (a a' : Option Addr) (l c l' c' : Nat) (w : World) (k1 : fltOkF n x = true) (k2 : fltOkF m y = true) (k3 : lessFltB n x m y = false) (k4 : lessFltB m y n x = false) :
    Calls Tryd.prog 130 #[.agg #[.int .i64 4, .int .i64 n, .int .i64 x, .string s, .slice a l c], .agg #[.int .i64 k', .int .i64 m, .int .i64 y, .string s', .slice a' l' c']] w fun e w' => e = .returned (.int .i64 (numC 4 n x m y)) ∧ Below w.heap.size w w' := by
  have hf := (numC_4 k1 k2).trans (num2_3 k3 k4)
  rw [hf]; clear hf
  have HA := fun w1 => fltOk_spec n x w1
  rw [k1] at HA
  have HA := Lib.hid HA
  have HB := fun w1 => fltOk_spec m y w1
  rw [k2] at HB
  have HB := Lib.hid HB
  have HC := fun w1 => lessFlt_spec n x m y w1
  rw [k3] at HC
  have HC := Lib.hid HC
  have HD := fun w1 => lessFlt_spec m y n x w1
  rw [k4] at HD
  have HD := Lib.hid HD
  clear k1 k2 k3 k4
  have HW := Lib.hid (vbelow6 w (.cells #[.int .i64 4, .int .i64 n, .int .i64 x, .string s, .slice a l c] 29) (.cells #[.int .i64 k', .int .i64 m, .int .i64 y, .string s', .slice a' l' c'] 29) (.cells #[.int .i64 n, .int .i64 x] 56) (.cells #[.int .i64 m, .int .i64 y] 56) (.cells #[.int .i64 n, .int .i64 x] 42) (.cells #[.int .i64 m, .int .i64 y] 42))
  go_enter Tryd.func130, Tryd.ntmps130
  go_wp2_with fail
  refine (HA.out _).mono ?_
  rintro _ w1 ⟨rfl, b⟩
  have B1 := Lib.hid b
  clear b
  obtain ⟨q0, q1, q2, q3, q4, q5⟩ := six_objs B1.out
  obtain ⟨c100, c101, c102, c103, c104⟩ := obj5 q0
  obtain ⟨c110, c111, c112, c113, c114⟩ := obj5 q1
  obtain ⟨c120, c121⟩ := obj2 q2
  obtain ⟨c130, c131⟩ := obj2 q3
  obtain ⟨c140, c141⟩ := obj2 q4
  obtain ⟨c150, c151⟩ := obj2 q5
  clear q0 q1 q2 q3 q4 q5
  go_wp2_with fail
  refine (HB.out _).mono ?_
  rintro _ w2 ⟨rfl, b⟩
  have B2 := Lib.hid (vnx B1.out b)
  clear b
  obtain ⟨q0, q1, q2, q3, q4, q5⟩ := six_objs B2.out
  obtain ⟨c200, c201, c202, c203, c204⟩ := obj5 q0
  obtain ⟨c210, c211, c212, c213, c214⟩ := obj5 q1
  obtain ⟨c220, c221⟩ := obj2 q2
  obtain ⟨c230, c231⟩ := obj2 q3
  obtain ⟨c240, c241⟩ := obj2 q4
  obtain ⟨c250, c251⟩ := obj2 q5
  clear q0 q1 q2 q3 q4 q5
  go_wp2_with fail
  refine (HC.out _).mono ?_
  rintro _ w3 ⟨rfl, b⟩
  have B3 := Lib.hid (vnx B2.out b)
  clear b
  obtain ⟨q0, q1, q2, q3, q4, q5⟩ := six_objs B3.out
  obtain ⟨c300, c301, c302, c303, c304⟩ := obj5 q0
  obtain ⟨c310, c311, c312, c313, c314⟩ := obj5 q1
  obtain ⟨c320, c321⟩ := obj2 q2
  obtain ⟨c330, c331⟩ := obj2 q3
  obtain ⟨c340, c341⟩ := obj2 q4
  obtain ⟨c350, c351⟩ := obj2 q5
  clear q0 q1 q2 q3 q4 q5
  go_wp2_with fail
  refine (HD.out _).mono ?_
  rintro _ w4 ⟨rfl, b⟩
  have B4 := Lib.hid (vnx B3.out b)
  clear b
  go_wp2_with fail
  go_ret
  exact ⟨rfl, vnx HW.out B4.out⟩
set_option maxRecDepth 100000 in
set_option maxHeartbeats 4000000 in
theorem num4a (n x k' m y : Int) (s s' : ByteArray) (a a' : Option Addr) (l c l' c' : Nat) (w : World) (k1 : fltOkF n x = false) :
    Calls Tryd.prog 130 #[.agg #[.int .i64 4, .int .i64 n, .int .i64 x, .string s, .slice a l c], .agg #[.int .i64 k', .int .i64 m, .int .i64 y, .string s', .slice a' l' c']] w fun e w' => e = .returned (.int .i64 (numC 4 n x m y)) ∧ Below w.heap.size w w' := by
  have hf := numC_4a (n := n) (x := x) (m := m) (y := y) k1
  rw [hf]; clear hf
  have HA := fun w1 => fltOk_spec n x w1
  rw [k1] at HA
  have HA := Lib.hid HA
  have HP := fun w1 => plain_c 4 n x k' m y s s' a a' l c l' c' w1
  have HP := Lib.hid HP
  clear k1
  generalize plainC n x m y = R at *
  have HW := Lib.hid (vbelow6 w (.cells #[.int .i64 4, .int .i64 n, .int .i64 x, .string s, .slice a l c] 29) (.cells #[.int .i64 k', .int .i64 m, .int .i64 y, .string s', .slice a' l' c'] 29) (.cells #[.int .i64 n, .int .i64 x] 56) (.cells #[.int .i64 m, .int .i64 y] 56) (.cells #[.int .i64 n, .int .i64 x] 42) (.cells #[.int .i64 m, .int .i64 y] 42))
  go_enter Tryd.func130, Tryd.ntmps130
  go_wp2_with fail
  refine (HA.out _).mono ?_
  rintro _ w1 ⟨rfl, b⟩
  have B1 := Lib.hid b
  clear b
  obtain ⟨q0, q1, q2, q3, q4, q5⟩ := six_objs B1.out
  obtain ⟨c100, c101, c102, c103, c104⟩ := obj5 q0
  obtain ⟨c110, c111, c112, c113, c114⟩ := obj5 q1
  obtain ⟨c120, c121⟩ := obj2 q2
  obtain ⟨c130, c131⟩ := obj2 q3
  obtain ⟨c140, c141⟩ := obj2 q4
  obtain ⟨c150, c151⟩ := obj2 q5
  clear q0 q1 q2 q3 q4 q5
  go_wp2_with fail
  refine (HP.out _).mono ?_
  rintro _ w2 ⟨rfl, b⟩
  have B2 := Lib.hid (vnx B1.out b)
  clear b
  go_wp2_with fail
  go_ret
  exact ⟨rfl, vnx HW.out B2.out⟩
set_option maxRecDepth 100000 in
set_option maxHeartbeats 4000000 in
theorem num4b (n x k' m y : Int) (s s' : ByteArray) (a a' : Option Addr) (l c l' c' : Nat) (w : World) (k1 : fltOkF n x = true) (k2 : fltOkF m y = false) :
    Calls Tryd.prog 130 #[.agg #[.int .i64 4, .int .i64 n, .int .i64 x, .string s, .slice a l c], .agg #[.int .i64 k', .int .i64 m, .int .i64 y, .string s', .slice a' l' c']] w fun e w' => e = .returned (.int .i64 (numC 4 n x m y)) ∧ Below w.heap.size w w' := by
  have hf := numC_4b (n := n) (x := x) (m := m) (y := y) k2
  rw [hf]; clear hf
  have HA := fun w1 => fltOk_spec n x w1
  rw [k1] at HA
  have HA := Lib.hid HA
  have HB := fun w1 => fltOk_spec m y w1
  rw [k2] at HB
  have HB := Lib.hid HB
  have HP := fun w1 => plain_c 4 n x k' m y s s' a a' l c l' c' w1
  have HP := Lib.hid HP
  clear k1 k2
  generalize plainC n x m y = R at *
  have HW := Lib.hid (vbelow6 w (.cells #[.int .i64 4, .int .i64 n, .int .i64 x, .string s, .slice a l c] 29) (.cells #[.int .i64 k', .int .i64 m, .int .i64 y, .string s', .slice a' l' c'] 29) (.cells #[.int .i64 n, .int .i64 x] 56) (.cells #[.int .i64 m, .int .i64 y] 56) (.cells #[.int .i64 n, .int .i64 x] 42) (.cells #[.int .i64 m, .int .i64 y] 42))
  go_enter Tryd.func130, Tryd.ntmps130
  go_wp2_with fail
  refine (HA.out _).mono ?_
  rintro _ w1 ⟨rfl, b⟩
  have B1 := Lib.hid b
  clear b
  obtain ⟨q0, q1, q2, q3, q4, q5⟩ := six_objs B1.out
  obtain ⟨c100, c101, c102, c103, c104⟩ := obj5 q0
  obtain ⟨c110, c111, c112, c113, c114⟩ := obj5 q1
  obtain ⟨c120, c121⟩ := obj2 q2
  obtain ⟨c130, c131⟩ := obj2 q3
  obtain ⟨c140, c141⟩ := obj2 q4
  obtain ⟨c150, c151⟩ := obj2 q5
  clear q0 q1 q2 q3 q4 q5
  go_wp2_with fail
  refine (HB.out _).mono ?_
  rintro _ w2 ⟨rfl, b⟩
  have B2 := Lib.hid (vnx B1.out b)
  clear b
  obtain ⟨q0, q1, q2, q3, q4, q5⟩ := six_objs B2.out
  obtain ⟨c200, c201, c202, c203, c204⟩ := obj5 q0
  obtain ⟨c210, c211, c212, c213, c214⟩ := obj5 q1
  obtain ⟨c220, c221⟩ := obj2 q2
  obtain ⟨c230, c231⟩ := obj2 q3
  obtain ⟨c240, c241⟩ := obj2 q4
  obtain ⟨c250, c251⟩ := obj2 q5
  clear q0 q1 q2 q3 q4 q5
  go_wp2_with fail
  refine (HP.out _).mono ?_
  rintro _ w3 ⟨rfl, b⟩
  have B3 := Lib.hid (vnx B2.out b)
  clear b
  go_wp2_with fail
  go_ret
  exact ⟨rfl, vnx HW.out B3.out⟩
set_option maxRecDepth 100000 in
set_option maxHeartbeats 4000000 in
theorem num61 (n x k' m y : Int) (s s' : ByteArray) (a a' : Option Addr) (l c l' c' : Nat) (w : World) (k1 : decOkB n x = true) (k2 : decOkB m y = true) (k3 : lessDecB n x m y = true) (hn : -9223372036854775808 ≤ n ∧ n ≤ 9223372036854775807) (hm : -9223372036854775808 ≤ m ∧ m ≤ 9223372036854775807) :
    Calls Tryd.prog 130 #[.agg #[.int .i64 6, .int .i64 n, .int .i64 x, .string s, .slice a l c], .agg #[.int .i64 k', .int .i64 m, .int .i64 y, .string s', .slice a' l' c']] w fun e w' => e = .returned (.int .i64 (numC 6 n x m y)) ∧ Below w.heap.size w w' := by
  have hf := (numC_6 k1 k2).trans (num2_1 k3)
  rw [hf]; clear hf
  have HA := fun w1 => decOk_spec n x w1 hn.1 hn.2
  rw [k1] at HA
  have HA := Lib.hid HA
  have HB := fun w1 => decOk_spec m y w1 hm.1 hm.2
  rw [k2] at HB
  have HB := Lib.hid HB
  have HC := fun w1 => lessDec_spec n x m y w1 hn.1 hn.2 hm.1 hm.2
  rw [k3] at HC
  have HC := Lib.hid HC
  clear k1 k2 k3 hn hm
  have HW := Lib.hid (vbelow6 w (.cells #[.int .i64 6, .int .i64 n, .int .i64 x, .string s, .slice a l c] 29) (.cells #[.int .i64 k', .int .i64 m, .int .i64 y, .string s', .slice a' l' c'] 29) (.cells #[.int .i64 n, .int .i64 x] 56) (.cells #[.int .i64 m, .int .i64 y] 56) (.cells #[.int .i64 n, .int .i64 x] 42) (.cells #[.int .i64 m, .int .i64 y] 42))
  go_enter Tryd.func130, Tryd.ntmps130
  go_wp2_with fail
  refine (HA.out _).mono ?_
  rintro _ w1 ⟨rfl, b⟩
  have B1 := Lib.hid b
  clear b
  obtain ⟨q0, q1, q2, q3, q4, q5⟩ := six_objs B1.out
  obtain ⟨c100, c101, c102, c103, c104⟩ := obj5 q0
  obtain ⟨c110, c111, c112, c113, c114⟩ := obj5 q1
  obtain ⟨c120, c121⟩ := obj2 q2
  obtain ⟨c130, c131⟩ := obj2 q3
  obtain ⟨c140, c141⟩ := obj2 q4
  obtain ⟨c150, c151⟩ := obj2 q5
  clear q0 q1 q2 q3 q4 q5
  go_wp2_with fail
  refine (HB.out _).mono ?_
  rintro _ w2 ⟨rfl, b⟩
  have B2 := Lib.hid (vnx B1.out b)
  clear b
  obtain ⟨q0, q1, q2, q3, q4, q5⟩ := six_objs B2.out
  obtain ⟨c200, c201, c202, c203, c204⟩ := obj5 q0
  obtain ⟨c210, c211, c212, c213, c214⟩ := obj5 q1
  obtain ⟨c220, c221⟩ := obj2 q2
  obtain ⟨c230, c231⟩ := obj2 q3
  obtain ⟨c240, c241⟩ := obj2 q4
  obtain ⟨c250, c251⟩ := obj2 q5
  clear q0 q1 q2 q3 q4 q5
  go_wp2_with fail
  refine (HC.out _).mono ?_
  rintro _ w3 ⟨rfl, b⟩
  have B3 := Lib.hid (vnx B2.out b)
  clear b
  go_wp2_with fail
  go_ret
  exact ⟨rfl, vnx HW.out B3.out⟩
set_option maxRecDepth 100000 in
set_option maxHeartbeats 4000000 in
theorem num62 (n x k' m y : Int) (s s' : ByteArray) (a a' : Option Addr) (l c l' c' : Nat) (w : World) (k1 : decOkB n x = true) (k2 : decOkB m y = true) (k3 : lessDecB n x m y = false) (k4 : lessDecB m y n x = true) (hn : -9223372036854775808 ≤ n ∧ n ≤ 9223372036854775807) (hm : -9223372036854775808 ≤ m ∧ m ≤ 9223372036854775807) :
    Calls Tryd.prog 130 #[.agg #[.int .i64 6, .int .i64 n, .int .i64 x, .string s, .slice a l c], .agg #[.int .i64 k', .int .i64 m, .int .i64 y, .string s', .slice a' l' c']] w fun e w' => e = .returned (.int .i64 (numC 6 n x m y)) ∧ Below w.heap.size w w' := by
  have hf := (numC_6 k1 k2).trans (num2_2 k3 k4)
  rw [hf]; clear hf
  have HA := fun w1 => decOk_spec n x w1 hn.1 hn.2
  rw [k1] at HA
  have HA := Lib.hid HA
  have HB := fun w1 => decOk_spec m y w1 hm.1 hm.2
  rw [k2] at HB
  have HB := Lib.hid HB
  have HC := fun w1 => lessDec_spec n x m y w1 hn.1 hn.2 hm.1 hm.2
  rw [k3] at HC
  have HC := Lib.hid HC
  have HD := fun w1 => lessDec_spec m y n x w1 hm.1 hm.2 hn.1 hn.2
  rw [k4] at HD
  have HD := Lib.hid HD
  clear k1 k2 k3 k4 hn hm
  have HW := Lib.hid (vbelow6 w (.cells #[.int .i64 6, .int .i64 n, .int .i64 x, .string s, .slice a l c] 29) (.cells #[.int .i64 k', .int .i64 m, .int .i64 y, .string s', .slice a' l' c'] 29) (.cells #[.int .i64 n, .int .i64 x] 56) (.cells #[.int .i64 m, .int .i64 y] 56) (.cells #[.int .i64 n, .int .i64 x] 42) (.cells #[.int .i64 m, .int .i64 y] 42))
  go_enter Tryd.func130, Tryd.ntmps130
  go_wp2_with fail
  refine (HA.out _).mono ?_
  rintro _ w1 ⟨rfl, b⟩
  have B1 := Lib.hid b
  clear b
  obtain ⟨q0, q1, q2, q3, q4, q5⟩ := six_objs B1.out
  obtain ⟨c100, c101, c102, c103, c104⟩ := obj5 q0
  obtain ⟨c110, c111, c112, c113, c114⟩ := obj5 q1
  obtain ⟨c120, c121⟩ := obj2 q2
  obtain ⟨c130, c131⟩ := obj2 q3
  obtain ⟨c140, c141⟩ := obj2 q4
  obtain ⟨c150, c151⟩ := obj2 q5
  clear q0 q1 q2 q3 q4 q5
  go_wp2_with fail
  refine (HB.out _).mono ?_
  rintro _ w2 ⟨rfl, b⟩
  have B2 := Lib.hid (vnx B1.out b)
  clear b
  obtain ⟨q0, q1, q2, q3, q4, q5⟩ := six_objs B2.out
  obtain ⟨c200, c201, c202, c203, c204⟩ := obj5 q0
  obtain ⟨c210, c211, c212, c213, c214⟩ := obj5 q1
  obtain ⟨c220, c221⟩ := obj2 q2
  obtain ⟨c230, c231⟩ := obj2 q3
  obtain ⟨c240, c241⟩ := obj2 q4
  obtain ⟨c250, c251⟩ := obj2 q5
  clear q0 q1 q2 q3 q4 q5
  go_wp2_with fail
  refine (HC.out _).mono ?_
  rintro _ w3 ⟨rfl, b⟩
  have B3 := Lib.hid (vnx B2.out b)
  clear b
  obtain ⟨q0, q1, q2, q3, q4, q5⟩ := six_objs B3.out
  obtain ⟨c300, c301, c302, c303, c304⟩ := obj5 q0
  obtain ⟨c310, c311, c312, c313, c314⟩ := obj5 q1
  obtain ⟨c320, c321⟩ := obj2 q2
  obtain ⟨c330, c331⟩ := obj2 q3
  obtain ⟨c340, c341⟩ := obj2 q4
  obtain ⟨c350, c351⟩ := obj2 q5
  clear q0 q1 q2 q3 q4 q5
  go_wp2_with fail
  refine (HD.out _).mono ?_
  rintro _ w4 ⟨rfl, b⟩
  have B4 := Lib.hid (vnx B3.out b)
  clear b
  go_wp2_with fail
  go_ret
  exact ⟨rfl, vnx HW.out B4.out⟩
set_option maxRecDepth 100000 in
set_option maxHeartbeats 4000000 in
theorem num63 (n x k' m y : Int) (s s' : ByteArray) (a a' : Option Addr) (l c l' c' : Nat) (w : World) (k1 : decOkB n x = true) (k2 : decOkB m y = true) (k3 : lessDecB n x m y = false) (k4 : lessDecB m y n x = false) (hn : -9223372036854775808 ≤ n ∧ n ≤ 9223372036854775807) (hm : -9223372036854775808 ≤ m ∧ m ≤ 9223372036854775807) :
    Calls Tryd.prog 130 #[.agg #[.int .i64 6, .int .i64 n, .int .i64 x, .string s, .slice a l c], .agg #[.int .i64 k', .int .i64 m, .int .i64 y, .string s', .slice a' l' c']] w fun e w' => e = .returned (.int .i64 (numC 6 n x m y)) ∧ Below w.heap.size w w' := by
  have hf := (numC_6 k1 k2).trans (num2_3 k3 k4)
  rw [hf]; clear hf
  have HA := fun w1 => decOk_spec n x w1 hn.1 hn.2
  rw [k1] at HA
  have HA := Lib.hid HA
  have HB := fun w1 => decOk_spec m y w1 hm.1 hm.2
  rw [k2] at HB
  have HB := Lib.hid HB
  have HC := fun w1 => lessDec_spec n x m y w1 hn.1 hn.2 hm.1 hm.2
  rw [k3] at HC
  have HC := Lib.hid HC
  have HD := fun w1 => lessDec_spec m y n x w1 hm.1 hm.2 hn.1 hn.2
  rw [k4] at HD
  have HD := Lib.hid HD
  clear k1 k2 k3 k4 hn hm
  have HW := Lib.hid (vbelow6 w (.cells #[.int .i64 6, .int .i64 n, .int .i64 x, .string s, .slice a l c] 29) (.cells #[.int .i64 k', .int .i64 m, .int .i64 y, .string s', .slice a' l' c'] 29) (.cells #[.int .i64 n, .int .i64 x] 56) (.cells #[.int .i64 m, .int .i64 y] 56) (.cells #[.int .i64 n, .int .i64 x] 42) (.cells #[.int .i64 m, .int .i64 y] 42))
  go_enter Tryd.func130, Tryd.ntmps130
  go_wp2_with fail
  refine (HA.out _).mono ?_
  rintro _ w1 ⟨rfl, b⟩
  have B1 := Lib.hid b
  clear b
  obtain ⟨q0, q1, q2, q3, q4, q5⟩ := six_objs B1.out
  obtain ⟨c100, c101, c102, c103, c104⟩ := obj5 q0
  obtain ⟨c110, c111, c112, c113, c114⟩ := obj5 q1
  obtain ⟨c120, c121⟩ := obj2 q2
  obtain ⟨c130, c131⟩ := obj2 q3
  obtain ⟨c140, c141⟩ := obj2 q4
  obtain ⟨c150, c151⟩ := obj2 q5
  clear q0 q1 q2 q3 q4 q5
  go_wp2_with fail
  refine (HB.out _).mono ?_
  rintro _ w2 ⟨rfl, b⟩
  have B2 := Lib.hid (vnx B1.out b)
  clear b
  obtain ⟨q0, q1, q2, q3, q4, q5⟩ := six_objs B2.out
  obtain ⟨c200, c201, c202, c203, c204⟩ := obj5 q0
  obtain ⟨c210, c211, c212, c213, c214⟩ := obj5 q1
  obtain ⟨c220, c221⟩ := obj2 q2
  obtain ⟨c230, c231⟩ := obj2 q3
  obtain ⟨c240, c241⟩ := obj2 q4
  obtain ⟨c250, c251⟩ := obj2 q5
  clear q0 q1 q2 q3 q4 q5
  go_wp2_with fail
  refine (HC.out _).mono ?_
  rintro _ w3 ⟨rfl, b⟩
  have B3 := Lib.hid (vnx B2.out b)
  clear b
  obtain ⟨q0, q1, q2, q3, q4, q5⟩ := six_objs B3.out
  obtain ⟨c300, c301, c302, c303, c304⟩ := obj5 q0
  obtain ⟨c310, c311, c312, c313, c314⟩ := obj5 q1
  obtain ⟨c320, c321⟩ := obj2 q2
  obtain ⟨c330, c331⟩ := obj2 q3
  obtain ⟨c340, c341⟩ := obj2 q4
  obtain ⟨c350, c351⟩ := obj2 q5
  clear q0 q1 q2 q3 q4 q5
  go_wp2_with fail
  refine (HD.out _).mono ?_
  rintro _ w4 ⟨rfl, b⟩
  have B4 := Lib.hid (vnx B3.out b)
  clear b
  go_wp2_with fail
  go_ret
  exact ⟨rfl, vnx HW.out B4.out⟩
set_option maxRecDepth 100000 in
set_option maxHeartbeats 4000000 in
theorem num6a (n x k' m y : Int) (s s' : ByteArray) (a a' : Option Addr) (l c l' c' : Nat) (w : World) (k1 : decOkB n x = false) (hn : -9223372036854775808 ≤ n ∧ n ≤ 9223372036854775807) (_hm : -9223372036854775808 ≤ m ∧ m ≤ 9223372036854775807) :
    Calls Tryd.prog 130 #[.agg #[.int .i64 6, .int .i64 n, .int .i64 x, .string s, .slice a l c], .agg #[.int .i64 k', .int .i64 m, .int .i64 y, .string s', .slice a' l' c']] w fun e w' => e = .returned (.int .i64 (numC 6 n x m y)) ∧ Below w.heap.size w w' := by
  have hf := numC_6a (n := n) (x := x) (m := m) (y := y) k1
  rw [hf]; clear hf
  have HA := fun w1 => decOk_spec n x w1 hn.1 hn.2
  rw [k1] at HA
  have HA := Lib.hid HA
  have HP := fun w1 => plain_c 6 n x k' m y s s' a a' l c l' c' w1
  have HP := Lib.hid HP
  clear k1 hn _hm
  generalize plainC n x m y = R at *
  have HW := Lib.hid (vbelow6 w (.cells #[.int .i64 6, .int .i64 n, .int .i64 x, .string s, .slice a l c] 29) (.cells #[.int .i64 k', .int .i64 m, .int .i64 y, .string s', .slice a' l' c'] 29) (.cells #[.int .i64 n, .int .i64 x] 56) (.cells #[.int .i64 m, .int .i64 y] 56) (.cells #[.int .i64 n, .int .i64 x] 42) (.cells #[.int .i64 m, .int .i64 y] 42))
  go_enter Tryd.func130, Tryd.ntmps130
  go_wp2_with fail
  refine (HA.out _).mono ?_
  rintro _ w1 ⟨rfl, b⟩
  have B1 := Lib.hid b
  clear b
  obtain ⟨q0, q1, q2, q3, q4, q5⟩ := six_objs B1.out
  obtain ⟨c100, c101, c102, c103, c104⟩ := obj5 q0
  obtain ⟨c110, c111, c112, c113, c114⟩ := obj5 q1
  obtain ⟨c120, c121⟩ := obj2 q2
  obtain ⟨c130, c131⟩ := obj2 q3
  obtain ⟨c140, c141⟩ := obj2 q4
  obtain ⟨c150, c151⟩ := obj2 q5
  clear q0 q1 q2 q3 q4 q5
  go_wp2_with fail
  refine (HP.out _).mono ?_
  rintro _ w2 ⟨rfl, b⟩
  have B2 := Lib.hid (vnx B1.out b)
  clear b
  go_wp2_with fail
  go_ret
  exact ⟨rfl, vnx HW.out B2.out⟩
set_option maxRecDepth 100000 in
set_option maxHeartbeats 4000000 in
theorem num6b (n x k' m y : Int) (s s' : ByteArray) (a a' : Option Addr) (l c l' c' : Nat) (w : World) (k1 : decOkB n x = true) (k2 : decOkB m y = false) (hn : -9223372036854775808 ≤ n ∧ n ≤ 9223372036854775807) (hm : -9223372036854775808 ≤ m ∧ m ≤ 9223372036854775807) :
    Calls Tryd.prog 130 #[.agg #[.int .i64 6, .int .i64 n, .int .i64 x, .string s, .slice a l c], .agg #[.int .i64 k', .int .i64 m, .int .i64 y, .string s', .slice a' l' c']] w fun e w' => e = .returned (.int .i64 (numC 6 n x m y)) ∧ Below w.heap.size w w' := by
  have hf := numC_6b (n := n) (x := x) (m := m) (y := y) k2
  rw [hf]; clear hf
  have HA := fun w1 => decOk_spec n x w1 hn.1 hn.2
  rw [k1] at HA
  have HA := Lib.hid HA
  have HB := fun w1 => decOk_spec m y w1 hm.1 hm.2
  rw [k2] at HB
  have HB := Lib.hid HB
  have HP := fun w1 => plain_c 6 n x k' m y s s' a a' l c l' c' w1
  have HP := Lib.hid HP
  clear k1 k2 hn hm
  generalize plainC n x m y = R at *
  have HW := Lib.hid (vbelow6 w (.cells #[.int .i64 6, .int .i64 n, .int .i64 x, .string s, .slice a l c] 29) (.cells #[.int .i64 k', .int .i64 m, .int .i64 y, .string s', .slice a' l' c'] 29) (.cells #[.int .i64 n, .int .i64 x] 56) (.cells #[.int .i64 m, .int .i64 y] 56) (.cells #[.int .i64 n, .int .i64 x] 42) (.cells #[.int .i64 m, .int .i64 y] 42))
  go_enter Tryd.func130, Tryd.ntmps130
  go_wp2_with fail
  refine (HA.out _).mono ?_
  rintro _ w1 ⟨rfl, b⟩
  have B1 := Lib.hid b
  clear b
  obtain ⟨q0, q1, q2, q3, q4, q5⟩ := six_objs B1.out
  obtain ⟨c100, c101, c102, c103, c104⟩ := obj5 q0
  obtain ⟨c110, c111, c112, c113, c114⟩ := obj5 q1
  obtain ⟨c120, c121⟩ := obj2 q2
  obtain ⟨c130, c131⟩ := obj2 q3
  obtain ⟨c140, c141⟩ := obj2 q4
  obtain ⟨c150, c151⟩ := obj2 q5
  clear q0 q1 q2 q3 q4 q5
  go_wp2_with fail
  refine (HB.out _).mono ?_
  rintro _ w2 ⟨rfl, b⟩
  have B2 := Lib.hid (vnx B1.out b)
  clear b
  obtain ⟨q0, q1, q2, q3, q4, q5⟩ := six_objs B2.out
  obtain ⟨c200, c201, c202, c203, c204⟩ := obj5 q0
  obtain ⟨c210, c211, c212, c213, c214⟩ := obj5 q1
  obtain ⟨c220, c221⟩ := obj2 q2
  obtain ⟨c230, c231⟩ := obj2 q3
  obtain ⟨c240, c241⟩ := obj2 q4
  obtain ⟨c250, c251⟩ := obj2 q5
  clear q0 q1 q2 q3 q4 q5
  go_wp2_with fail
  refine (HP.out _).mono ?_
  rintro _ w3 ⟨rfl, b⟩
  have B3 := Lib.hid (vnx B2.out b)
  clear b
  go_wp2_with fail
  go_ret
  exact ⟨rfl, vnx HW.out B3.out⟩
set_option maxRecDepth 100000 in
set_option maxHeartbeats 4000000 in
theorem num00 (k n x k' m y : Int) (s s' : ByteArray) (a a' : Option Addr) (l c l' c' : Nat) (w : World) (h4 : k ≠ 4) (h6 : k ≠ 6) :
    Calls Tryd.prog 130 #[.agg #[.int .i64 k, .int .i64 n, .int .i64 x, .string s, .slice a l c], .agg #[.int .i64 k', .int .i64 m, .int .i64 y, .string s', .slice a' l' c']] w fun e w' => e = .returned (.int .i64 (numC k n x m y)) ∧ Below w.heap.size w w' := by
  have hf := numC_0 (n := n) (x := x) (m := m) (y := y) h4 h6
  have e4 : (k == 4) = false := by simpa using h4
  have e6 : (k == 6) = false := by simpa using h6
  rw [hf]; clear hf
  have HP := fun w1 => plain_c k n x k' m y s s' a a' l c l' c' w1
  have HP := Lib.hid HP
  clear h4 h6
  generalize plainC n x m y = R at *
  have HW := Lib.hid (vbelow6 w (.cells #[.int .i64 k, .int .i64 n, .int .i64 x, .string s, .slice a l c] 29) (.cells #[.int .i64 k', .int .i64 m, .int .i64 y, .string s', .slice a' l' c'] 29) (.cells #[.int .i64 n, .int .i64 x] 56) (.cells #[.int .i64 m, .int .i64 y] 56) (.cells #[.int .i64 n, .int .i64 x] 42) (.cells #[.int .i64 m, .int .i64 y] 42))
  go_enter Tryd.func130, Tryd.ntmps130
  go_wp2_with fail
  refine (HP.out _).mono ?_
  rintro _ w1 ⟨rfl, b⟩
  have B1 := Lib.hid b
  clear b
  go_wp2_with fail
  go_ret
  exact ⟨rfl, vnx HW.out B1.out⟩
theorem num_c (k n x k' m y : Int) (s s' : ByteArray) (a a' : Option Addr) (l c l' c' : Nat) (w : World) (hn : -9223372036854775808 ≤ n ∧ n ≤ 9223372036854775807) (hm : -9223372036854775808 ≤ m ∧ m ≤ 9223372036854775807) :
    Calls Tryd.prog 130 #[.agg #[.int .i64 k, .int .i64 n, .int .i64 x, .string s, .slice a l c], .agg #[.int .i64 k', .int .i64 m, .int .i64 y, .string s', .slice a' l' c']] w fun e w' => e = .returned (.int .i64 (numC k n x m y)) ∧ Below w.heap.size w w' := by
  by_cases h4 : k = 4
  · subst h4
    cases k1 : fltOkF n x with
    | false => exact num4a n x k' m y s s' a a' l c l' c' w k1
    | true =>
      cases k2 : fltOkF m y with
      | false => exact num4b n x k' m y s s' a a' l c l' c' w k1 k2
      | true =>
        cases k3 : lessFltB n x m y with
        | true => exact num41 n x k' m y s s' a a' l c l' c' w k1 k2 k3
        | false =>
          cases k4 : lessFltB m y n x with
          | true => exact num42 n x k' m y s s' a a' l c l' c' w k1 k2 k3 k4
          | false => exact num43 n x k' m y s s' a a' l c l' c' w k1 k2 k3 k4
  · by_cases h6 : k = 6
    · subst h6
      cases k1 : decOkB n x with
      | false => exact num6a n x k' m y s s' a a' l c l' c' w k1 hn hm
      | true =>
        cases k2 : decOkB m y with
        | false => exact num6b n x k' m y s s' a a' l c l' c' w k1 k2 hn hm
        | true =>
          cases k3 : lessDecB n x m y with
          | true => exact num61 n x k' m y s s' a a' l c l' c' w k1 k2 k3 hn hm
          | false =>
            cases k4 : lessDecB m y n x with
            | true => exact num62 n x k' m y s s' a a' l c l' c' w k1 k2 k3 k4 hn hm
            | false => exact num63 n x k' m y s s' a a' l c l' c' w k1 k2 k3 k4 hn hm
    · exact num00 k n x k' m y s s' a a' l c l' c' w h4 h6
end Go.Proofs.YtilmhemcpgiikaaDoor
