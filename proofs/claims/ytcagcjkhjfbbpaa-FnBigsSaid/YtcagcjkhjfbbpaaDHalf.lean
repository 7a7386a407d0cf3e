/- The draws of numbers. -/
import Derived.Test.YtcagcjkhjfbbpaaCCur2
namespace Go.Proofs.Ytcagcjkhjfbbpaa
open Go.Deep Go.ChangeShapes Go.WideShapes Go.ChangeAt Go.RowKit

set_option maxRecDepth 100000 in
set_option maxHeartbeats 4000000 in
theorem drawHalf_c (zs : List Int) (a : Option Addr) (cap : Nat) (w : World) (hr : Rd w .u8 a zs) (hw : ∀ n ∈ zs, (Lit.int .u8 n).wf = true) (hlen : zs.length ≤ 1048576) (hcap : zs.length ≤ cap) :
    Calls Try.prog 17 #[.slice a zs.length cap] w fun e w' => (∃ n d : Int, e = .returned (.tuple #[.int .i64 n, .int .i64 d]) ∧ wf6 n ∧ (0 ≤ d ∧ d ≤ 1000)) ∧ Below w.heap.size w w' := by
  have HR := Lib.hid hr; clear hr
  have HW := Lib.hid hw; clear hw
  go_enter Try.func17, Try.ntmps17
  go_wp2_with fail
  refine (l1New_c zs a cap _ HR.out HW.out hlen hcap).mono ?_
  rintro _ w1 ⟨P, rfl, hP, C', B'⟩
  have HP := Lib.hid hP; clear hP
  have C1 := Lib.hid C'; clear C'
  have B1 := Lib.hid B'; clear B'
  go_wp2_with fail
  refine (l1Int_c P [1, 2, 3, 4, 10, 1000, 0] w1.heap.size 7 _ (C1.out.alloc _) (rd_laid w1 _ _) (Nat.ne_of_gt C1.out.lt) (by simp) (by simp) (by simp)).mono ?_
  rintro _ w2 ⟨D, rfl, hD', C', G'⟩
  have HD := Lib.hid hD'; clear hD'
  have C2 := Lib.hid C'; clear C'
  have B2 := Lib.hid (below_gr (B1.out.alloc B1.out.size _) G' HP.out)
  clear G'
  have hD : 0 ≤ D ∧ D ≤ 1000 := by have h := HD.out; simp at h; omega
  go_wp2_with fail
  refine (l1Once_c P 2 _ C2.out (by omega)).mono ?_
  rintro _ w3 ⟨t, rfl, C', G'⟩
  have C3 := Lib.hid C'; clear C'
  have B3 := Lib.hid (below_gr B2.out G' HP.out)
  clear G'
  have fin1 := Lib.hid hD
  cases t with
  | true =>
    by_cases hd0 : 0 < D
    · go_wp2_with fail
      refine (l1Below_c P 9 _ C3.out (by omega)).mono ?_
      rintro _ w4 ⟨x, rfl, x0, x1, -, -, C', G'⟩
      have C4 := Lib.hid C'; clear C'
      have B4 := Lib.hid (below_gr B3.out G' HP.out)
      clear G'
      replace x1 := x1 (by omega)
      have h0 : 0 ≤ D * x := Int.mul_nonneg (by omega) x0
      have h1 : D * x ≤ 1000 * 9 := Int.mul_le_mul (by omega) (by omega) x0 (by omega)
      obtain ⟨M, hM⟩ : ∃ M, M = D * x := ⟨_, rfl⟩
      rw [← hM] at h0 h1
      replace hM := hM.symm
      go_wp2_with fail
      go_ret2
      exact ⟨⟨_, _, rfl, by unfold wf6; omega, fin1.out⟩, B4.out⟩
    · go_wp2_with fail
      refine (l1One_c P _ C3.out).mono ?_
      rintro _ w4 ⟨n, rfl, hn', C', G'⟩
      have Hn := Lib.hid hn'; clear hn'
      have C4 := Lib.hid C'; clear C'
      have B4 := Lib.hid (below_gr B3.out G' HP.out)
      clear G'
      go_wp2_with fail
      go_ret2
      exact ⟨⟨_, _, rfl, Hn.out, fin1.out⟩, B4.out⟩
  | false =>
    go_wp2_with fail
    refine (l1One_c P _ C3.out).mono ?_
    rintro _ w4 ⟨n, rfl, hn', C', G'⟩
    have Hn := Lib.hid hn'; clear hn'
    have C4 := Lib.hid C'; clear C'
    have B4 := Lib.hid (below_gr B3.out G' HP.out)
    clear G'
    go_wp2_with fail
    go_ret2
    exact ⟨⟨_, _, rfl, Hn.out, fin1.out⟩, B4.out⟩
set_option maxRecDepth 100000 in
set_option maxHeartbeats 4000000 in
theorem drawPow_c (zs : List Int) (a : Option Addr) (cap : Nat) (w : World) (hr : Rd w .u8 a zs) (hw : ∀ n ∈ zs, (Lit.int .u8 n).wf = true) (hlen : zs.length ≤ 1048576) (hcap : zs.length ≤ cap) :
    Calls Try.prog 18 #[.slice a zs.length cap] w fun e w' => (∃ b k : Int, e = .returned (.tuple #[.int .i64 b, .int .i64 k])) ∧ Below w.heap.size w w' := by
  have HR := Lib.hid hr; clear hr
  have HW := Lib.hid hw; clear hw
  go_enter Try.func18, Try.ntmps18
  go_wp2_with fail
  refine (l1New_c zs a cap _ HR.out HW.out hlen hcap).mono ?_
  rintro _ w1 ⟨P, rfl, hP, C', B'⟩
  have HP := Lib.hid hP; clear hP
  have C1 := Lib.hid C'; clear C'
  have B1 := Lib.hid B'; clear B'
  go_wp2_with fail
  refine (l1Int_c P [2, 5, 10, 3, 0] w1.heap.size 5 _ (C1.out.alloc _) (rd_laid w1 _ _) (Nat.ne_of_gt C1.out.lt) (by simp) (by simp) (by simp)).mono ?_
  rintro _ w2 ⟨D, rfl, hD', C', G'⟩
  have HD := Lib.hid hD'; clear hD'
  have C2 := Lib.hid C'; clear C'
  have B2 := Lib.hid (below_gr (B1.out.alloc B1.out.size _) G' HP.out)
  clear G'
  go_wp2_with fail
  refine (l1Below_c P 20 _ C2.out (by omega)).mono ?_
  rintro _ w3 ⟨x, rfl, x0, x1, -, -, C', G'⟩
  have C3 := Lib.hid C'; clear C'
  have B3 := Lib.hid (below_gr B2.out G' HP.out)
  clear G'
  replace x1 := x1 (by omega)
  go_wp2_with fail
  go_ret2
  exact ⟨⟨_, _, rfl⟩, B3.out⟩
set_option maxRecDepth 100000 in
set_option maxHeartbeats 4000000 in
theorem drawBitsOf_c (zs : List Int) (a : Option Addr) (cap : Nat) (w : World) (hr : Rd w .u8 a zs) (hw : ∀ n ∈ zs, (Lit.int .u8 n).wf = true) (hlen : zs.length ≤ 1048576) (hcap : zs.length ≤ cap) :
    Calls Try.prog 19 #[.slice a zs.length cap] w fun e w' => (∃ n : Int, e = .returned (.int .i64 n) ∧ wf6 n) ∧ Below w.heap.size w w' := by
  have HR := Lib.hid hr; clear hr
  have HW := Lib.hid hw; clear hw
  go_enter Try.func19, Try.ntmps19
  go_wp2_with fail
  refine (l1New_c zs a cap _ HR.out HW.out hlen hcap).mono ?_
  rintro _ w1 ⟨P, rfl, hP, C', B'⟩
  have HP := Lib.hid hP; clear hP
  have C1 := Lib.hid C'; clear C'
  have B1 := Lib.hid B'; clear B'
  go_wp2_with fail
  refine (l1One_c P _ C1.out).mono ?_
  rintro _ w2 ⟨n, rfl, hn', C', G'⟩
  have Hn := Lib.hid hn'; clear hn'
  have C2 := Lib.hid C'; clear C'
  have B2 := Lib.hid (below_gr B1.out G' HP.out)
  clear G'
  go_wp2_with fail
  go_ret
  exact ⟨⟨_, rfl, Hn.out⟩, B2.out⟩
set_option maxRecDepth 100000 in
set_option maxHeartbeats 4000000 in
theorem drawWidthFor_c (zs : List Int) (a : Option Addr) (cap : Nat) (w : World) (hr : Rd w .u8 a zs) (hw : ∀ n ∈ zs, (Lit.int .u8 n).wf = true) (hlen : zs.length ≤ 1048576) (hcap : zs.length ≤ cap) :
    Calls Try.prog 31 #[.slice a zs.length cap] w fun e w' => (∃ n : Int, e = .returned (.int .i64 n) ∧ wf6 n) ∧ Below w.heap.size w w' := by
  have HR := Lib.hid hr; clear hr
  have HW := Lib.hid hw; clear hw
  go_enter Try.func31, Try.ntmps31
  go_wp2_with fail
  refine (l1New_c zs a cap _ HR.out HW.out hlen hcap).mono ?_
  rintro _ w1 ⟨P, rfl, hP, C', B'⟩
  have HP := Lib.hid hP; clear hP
  have C1 := Lib.hid C'; clear C'
  have B1 := Lib.hid B'; clear B'
  go_wp2_with fail
  refine (l1One_c P _ C1.out).mono ?_
  rintro _ w2 ⟨n, rfl, hn', C', G'⟩
  have Hn := Lib.hid hn'; clear hn'
  have C2 := Lib.hid C'; clear C'
  have B2 := Lib.hid (below_gr B1.out G' HP.out)
  clear G'
  go_wp2_with fail
  go_ret
  exact ⟨⟨_, rfl, Hn.out⟩, B2.out⟩
end Go.Proofs.Ytcagcjkhjfbbpaa
