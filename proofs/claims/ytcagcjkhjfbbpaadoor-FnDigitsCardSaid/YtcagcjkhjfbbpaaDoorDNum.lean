/- The draws of numerals. -/
import Derived.Test.YtcagcjkhjfbbpaaDoorCCur2
import Derived.Test.YtcagcjkhjfbbpaaDoorCNum
import Derived.Test.YtcagcjkhjfbbpaaDoorCConv
namespace Go.Proofs.YtcagcjkhjfbbpaaDoor
open Go.Deep Go.ChangeShapes Go.WideShapes Go.ChangeAt Go.RowKit

set_option maxRecDepth 100000 in
set_option maxHeartbeats 4000000 in
theorem drawNumText_c (zs : List Int) (a : Option Addr) (cap : Nat) (w : World) (hr : Rd w .u8 a zs) (hw : ∀ n ∈ zs, (Lit.int .u8 n).wf = true) (hlen : zs.length ≤ 1048576) (hcap : zs.length ≤ cap) :
    Calls Tryd.prog 27 #[.slice a zs.length cap] w fun e w' => (∃ n : Int, e = .returned (.int .i64 n) ∧ wf6 n) ∧ Below w.heap.size w w' := by
  have HR := Lib.hid hr; clear hr
  have HW := Lib.hid hw; clear hw
  go_enter Tryd.func27, Tryd.ntmps27
  go_wp2_with fail
  refine (l1New_c zs a cap _ HR.out HW.out hlen hcap).mono ?_
  rintro _ w1 ⟨P, rfl, hP, C', B'⟩
  have HP := Lib.hid hP; clear hP
  have C1 := Lib.hid C'; clear C'
  have B1 := Lib.hid B'; clear B'
  go_wp2_with fail
  refine (l1One_c P _ C1.out).mono ?_
  rintro _ w2 ⟨n, rfl, hn', C', G'⟩
  have Hn := Lib.hid hn'; clear hn'
  have C2 := Lib.hid C'; clear C'
  have B2 := Lib.hid (below_gr B1.out G' HP.out)
  clear G'
  go_wp2_with fail
  go_ret
  exact ⟨⟨_, rfl, Hn.out⟩, B2.out⟩
set_option maxRecDepth 100000 in
set_option maxHeartbeats 4000000 in
theorem drawDigits_c (zs : List Int) (a : Option Addr) (cap : Nat) (w : World) (hr : Rd w .u8 a zs) (hw : ∀ n ∈ zs, (Lit.int .u8 n).wf = true) (hlen : zs.length ≤ 1048576) (hcap : zs.length ≤ cap) :
    Calls Tryd.prog 32 #[.slice a zs.length cap] w fun e w' => (∃ n : Int, e = .returned (.int .i64 n) ∧ wf6 n) ∧ Below w.heap.size w w' := by
  have HR := Lib.hid hr; clear hr
  have HW := Lib.hid hw; clear hw
  go_enter Tryd.func32, Tryd.ntmps32
  go_wp2_with fail
  refine (l1New_c zs a cap _ HR.out HW.out hlen hcap).mono ?_
  rintro _ w1 ⟨P, rfl, hP, C', B'⟩
  have HP := Lib.hid hP; clear hP
  have C1 := Lib.hid C'; clear C'
  have B1 := Lib.hid B'; clear B'
  go_wp2_with fail
  refine (l1One_c P _ C1.out).mono ?_
  rintro _ w2 ⟨n, rfl, hn', C', G'⟩
  have Hn := Lib.hid hn'; clear hn'
  have C2 := Lib.hid C'; clear C'
  have B2 := Lib.hid (below_gr B1.out G' HP.out)
  clear G'
  go_wp2_with fail
  go_ret
  exact ⟨⟨_, rfl, Hn.out⟩, B2.out⟩
set_option maxRecDepth 100000 in
set_option maxHeartbeats 4000000 in
theorem drawParseNum_c (zs : List Int) (a : Option Addr) (cap : Nat) (w : World) (hr : Rd w .u8 a zs) (hw : ∀ n ∈ zs, (Lit.int .u8 n).wf = true) (hlen : zs.length ≤ 1048576) (hcap : zs.length ≤ cap) :
    Calls Tryd.prog 28 #[.slice a zs.length cap] w fun e w' => (∃ S : ByteArray, e = .returned (.string S) ∧ S.size ≤ 100) ∧ Below w.heap.size w w' := by
  have HR := Lib.hid hr; clear hr
  have HW := Lib.hid hw; clear hw
  go_enter Tryd.func28, Tryd.ntmps28
  go_wp2_with fail
  refine (l1New_c zs a cap _ HR.out HW.out hlen hcap).mono ?_
  rintro _ w1 ⟨P, rfl, hP, C', B'⟩
  have HP := Lib.hid hP; clear hP
  have C1 := Lib.hid C'; clear C'
  have B1 := Lib.hid B'; clear B'
  go_wp2_with fail
  refine (l1Once_c P 2 _ C1.out (by omega)).mono ?_
  rintro _ w2 ⟨t, rfl, C', G'⟩
  have C2 := Lib.hid C'; clear C'
  have B2 := Lib.hid (below_gr B1.out G' HP.out)
  clear G'
  cases t with
  | true =>
    go_wp2_with fail
    refine (l1Str_c P [⟨#[]⟩, ⟨#[48]⟩, ⟨#[45, 48]⟩, ⟨#[48, 48]⟩, ⟨#[45, 49]⟩, ⟨#[48, 49]⟩, ⟨#[55]⟩, ⟨#[49, 48, 48, 48, 48, 48, 48, 48, 48, 48, 48, 48, 48, 48, 48, 48]⟩, ⟨#[49, 48, 48, 48, 48, 48, 48, 48, 48, 48, 48, 48, 48, 48, 48, 49]⟩, ⟨#[45]⟩, ⟨#[49, 120]⟩, ⟨#[32, 49]⟩] w2.heap.size 12 _ (C2.out.alloc _) (rs_laid w2 _ _) (Nat.ne_of_gt C2.out.lt) (by simp) (by simp) (by simp)).mono ?_
    rintro _ w3 ⟨S, rfl, hS', C', G'⟩
    have HS := Lib.hid hS'; clear hS'
    have C3 := Lib.hid C'; clear C'
    have B3 := Lib.hid (below_gr (B2.out.alloc B2.out.size _) G' HP.out)
    clear G'
    have hl : S.size ≤ 100 := by have h := HS.out; simp at h; rcases h with rfl | rfl | rfl | rfl | rfl | rfl | rfl | rfl | rfl | rfl | rfl | rfl <;> decide
    go_wp2_with fail
    go_ret
    exact ⟨⟨_, rfl, hl⟩, B3.out⟩
  | false =>
    go_wp2_with fail
    refine (l1Signed_c P _ C2.out).mono ?_
    rintro _ w3 ⟨n, rfl, hn', C', G'⟩
    have Hn := Lib.hid hn'; clear hn'
    have C3 := Lib.hid C'; clear C'
    have B3 := Lib.hid (below_gr B2.out G' HP.out)
    clear G'
    go_wp2_with fail
    refine (numText_spec n _ (by have := Hn.out; omega) (by have := Hn.out; omega)).mono ?_
    rintro _ wp ⟨rfl, bp⟩
    have BP := Lib.hid (nx B3.out bp); clear bp
    have hl : (numS n).size ≤ 100 := by have h1 := itoa_length n; have h2 : dgs n ≤ 19 := nDigits_64 (by have := Hn.out; omega); show (Lib.itoa n).toArray.size ≤ 100; rw [List.size_toArray, h1]; split <;> omega
    generalize numS n = S at *
    have HL := Lib.hid hl; clear hl
    go_wp2_with fail
    go_ret
    exact ⟨⟨_, rfl, HL.out⟩, BP.out⟩
end Go.Proofs.YtcagcjkhjfbbpaaDoor
