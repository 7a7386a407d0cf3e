/- The draws of numerals with a point. -/
import Derived.Test.YtilmhemcpgiikaaDoorDDec
import Derived.Deep.RegionWith
import Derived.Deep.RegionHeld3
import Derived.Test.YtilmhemcpgiikaaDoorCText
namespace Go.Proofs.YtilmhemcpgiikaaDoor
open Go.Deep Go.ChangeShapes Go.WideShapes Go.ChangeAt Go.RowKit

theorem decText_size {n x : Int} (h1 : -9223372036854775808 ≤ n) (h2 : n ≤ 9223372036854775807) : (decTextS n x).size ≤ 100 := by
  have hd : (Lib.decDigits n.natAbs).length ≤ 19 := by rw [Lib.decDigits_length]; exact nDigits_64 (by omega)
  show (decTextL n x).toArray.size ≤ 100
  rw [List.size_toArray]
  cases hk : decOkB n x with
  | false => rw [decTextL_no hk]; simp
  | true =>
    by_cases h0 : x = 0
    · subst h0
      rw [decTextL_int hk, itoa_length n]
      have : dgs n ≤ 19 := nDigits_64 (by omega)
      split <;> omega
    · have hx := decOkB_iff.1 hk
      rw [decTextL_pt (k := (-x).toNat) hk h0 (by omega)]
      unfold pointed
      have hp := padZ_length (1 + (-x).toNat) (Lib.decDigits n.natAbs)
      have hle : ((padZ (1 + (-x).toNat) (Lib.decDigits n.natAbs)).take ((padZ (1 + (-x).toNat) (Lib.decDigits n.natAbs)).length - (-x).toNat)).length ≤ 19 := by rw [List.length_take, hp]; omega
      rw [List.length_append, List.length_append, List.length_cons, List.length_drop]
      have : (if n < 0 then [(45 : UInt8)] else []).length ≤ 1 := by split <;> simp
      omega
set_option maxRecDepth 100000 in
set_option maxHeartbeats 4000000 in
theorem l4Text_c (P : Nat) (w : World) (hC : Cur w P) :
    Calls Tryd.prog 102 #[.pointer (some ⟨P, 0, none⟩)] w fun e w' => ∃ S : ByteArray, e = .returned (.string S) ∧ S.size ≤ 200 ∧ Cur w' P ∧ w.grownBy w' (some P) := by
  have HC := Lib.hid hC; clear hC
  have HP := Lib.hid HC.out.lt
  go_enter Tryd.func102, Tryd.ntmps102
  go_wp2_with fail
  refine (l1Once_c P 2 _ (by exact HC.out) (by omega)).mono ?_
  rintro _ w1 ⟨t, rfl, C', G'⟩
  have C1 := Lib.hid C'; clear C'
  have G1 := Lib.hid (gr_trans (gr_refl (w := w) (P := P)) G')
  clear G'
  cases t with
  | true =>
    go_wp2_with fail
    refine (l1Str_c P [⟨#[48]⟩, ⟨#[45, 48]⟩, ⟨#[49, 46, 53, 48]⟩, ⟨#[49, 101, 51]⟩, ⟨#[45, 50, 69, 45, 50]⟩, ⟨#[48, 46, 48, 48, 49]⟩, ⟨#[49, 50, 51, 52, 53, 54, 55, 56, 57, 48, 49, 50, 51, 52, 53, 54, 55]⟩, ⟨#[49, 50, 51, 52, 53, 54, 55, 56, 57, 48, 49, 50, 51, 52, 53, 54, 55, 56]⟩, ⟨#[48, 46, 48, 48, 48, 48, 48, 48, 48, 48, 48, 48, 48, 48, 48, 48, 48, 48, 49]⟩, ⟨#[49, 101, 43, 52, 48]⟩, ⟨#[49, 101, 49, 48, 48, 48]⟩, ⟨#[48, 49]⟩, ⟨#[49, 46]⟩, ⟨#[46, 53]⟩, ⟨#[45]⟩, ⟨#[]⟩, ⟨#[49, 101]⟩, ⟨#[49, 46, 53, 101, 43, 120]⟩, ⟨#[48, 48, 48]⟩, ⟨#[43, 49]⟩, ⟨#[49, 101, 45, 49, 54]⟩] w1.heap.size 21 _ (by exact (Cur.alloc C1.out _)) (rs_laid w1 _ _) (Nat.ne_of_gt (Cur.lt C1.out)) (by simp) (by simp) (by simp)).mono ?_
    rintro _ w2 ⟨S, rfl, hS', C', G'⟩
    have HS := Lib.hid hS'; clear hS'
    have C2 := Lib.hid C'; clear C'
    have G2 := Lib.hid (gr_trans (gr_alloc G1.out _) G')
    clear G'
    have hl : S.size ≤ 200 := by have h := HS.out; simp at h; rcases h with rfl | rfl | rfl | rfl | rfl | rfl | rfl | rfl | rfl | rfl | rfl | rfl | rfl | rfl | rfl | rfl | rfl | rfl | rfl | rfl | rfl <;> decide
    go_wp2_with fail
    go_ret
    exact ⟨_, rfl, hl, C2.out, G2.out⟩
  | false =>
    go_wp2_with fail
    refine (l4Draw_c P _ (by exact C1.out)).mono ?_
    rintro _ w2 ⟨n, x, rfl, hn', C', G'⟩
    have Hn := Lib.hid hn'; clear hn'
    have C2 := Lib.hid C'; clear C'
    have G2 := Lib.hid (gr_trans G1.out G')
    clear G'
    have hnx := dec_rng Hn.out
    go_wp2_with fail
    refine (decText_spec n x _ (by omega) (by omega)).mono ?_
    rintro _ w3 ⟨rfl, b'⟩
    have C3 := Lib.hid (Cur.below C2.out b')
    have G3 := Lib.hid (gr_on G2.out b')
    clear b'
    have hl : (decTextS n x).size ≤ 100 := decText_size (by omega) (by omega)
    generalize decTextS n x = S at *
    have HL := Lib.hid hl; clear hl hnx
    go_wp2_with fail
    refine (l1Once_c P 4 _ (by exact C3.out) (by omega)).mono ?_
    rintro _ w4 ⟨q, rfl, C', G'⟩
    have C4 := Lib.hid C'; clear C'
    have G4 := Lib.hid (gr_trans G3.out G')
    clear G'
    cases q with
    | true =>
      go_wp2_with fail
      refine (l1Str_c P [⟨#[48]⟩, ⟨#[101, 50]⟩, ⟨#[69, 45, 49]⟩, ⟨#[32]⟩, ⟨#[120]⟩] w4.heap.size 5 _ (by exact (Cur.alloc C4.out _)) (rs_laid w4 _ _) (Nat.ne_of_gt (Cur.lt C4.out)) (by simp) (by simp) (by simp)).mono ?_
      rintro _ w5 ⟨U, rfl, hU', C', G'⟩
      have HU := Lib.hid hU'; clear hU'
      have C5 := Lib.hid C'; clear C'
      have G5 := Lib.hid (gr_trans (gr_alloc G4.out _) G')
      clear G'
      have hu : U.size ≤ 100 := by have h := HU.out; simp at h; rcases h with rfl | rfl | rfl | rfl | rfl <;> decide
      have HU2 := Lib.hid hu; clear hu
      have hs1 := HL.out; have hs2 := HU2.out
      go_wp2_with fail
      go_ret
      exact ⟨_, rfl, by have h1 := HL.out; have h2 := HU2.out; rw [ByteArray.size_append]; omega, C5.out, G5.out⟩
    | false =>
      go_wp2_with fail
      go_ret
      exact ⟨_, rfl, by have h1 := HL.out; omega, C4.out, G4.out⟩
set_option maxRecDepth 100000 in
set_option maxHeartbeats 4000000 in
theorem drawReadNumber_c (zs : List Int) (a : Option Addr) (cap : Nat) (w : World) (hr : Rd w .u8 a zs) (hw : ∀ n ∈ zs, (Lit.int .u8 n).wf = true) (hlen : zs.length ≤ 1048576) (hcap : zs.length ≤ cap) :
    Calls Tryd.prog 35 #[.slice a zs.length cap] w fun e w' => (∃ (S : ByteArray) (p : Int), e = .returned (.tuple #[.string S, .int .i64 p]) ∧ S.size ≤ 200 ∧ -1 ≤ p ∧ p ≤ 99) ∧ Below w.heap.size w w' := by
  have HR := Lib.hid hr; clear hr
  have HW := Lib.hid hw; clear hw
  go_enter Tryd.func35, Tryd.ntmps35
  go_wp2_with fail
  refine (l1New_c zs a cap _ HR.out HW.out hlen hcap).mono ?_
  rintro _ w1 ⟨P, rfl, hP, C', b'⟩
  have HP := Lib.hid hP; clear hP
  have C1 := Lib.hid C'; clear C'
  have G1 := Lib.hid (nx (Below.refl w.heap.size w) b'); clear b'
  go_wp2_with fail
  refine (l4Text_c P _ (by exact C1.out)).mono ?_
  rintro _ w2 ⟨S, rfl, hS', C', G'⟩
  have HS := Lib.hid hS'; clear hS'
  have C2 := Lib.hid C'; clear C'
  have G2 := Lib.hid (below_gr G1.out G' (by have h := HP.out; omega)); clear G'
  go_wp2_with fail
  refine (l1Int_c P [0, 0, 0, 0, 1, -1, 99] w2.heap.size 7 _ (by exact (Cur.alloc C2.out _)) (rd_laid w2 _ _) (Nat.ne_of_gt (Cur.lt C2.out)) (by simp) (by simp) (by simp)).mono ?_
  rintro _ w3 ⟨p, rfl, hp', C', G'⟩
  have Hp := Lib.hid hp'; clear hp'
  have C3 := Lib.hid C'; clear C'
  have G3 := Lib.hid (below_gr (below_alloc G2.out _) G' (by have h := HP.out; omega)); clear G'
  have hp : -1 ≤ p ∧ p ≤ 99 := by have h := Hp.out; simp at h; omega
  go_wp2_with fail
  go_ret2
  exact ⟨⟨_, _, rfl, HS.out, hp⟩, G3.out⟩
set_option maxRecDepth 100000 in
set_option maxHeartbeats 4000000 in
theorem drawDecNew_c (zs : List Int) (a : Option Addr) (cap : Nat) (w : World) (hr : Rd w .u8 a zs) (hw : ∀ n ∈ zs, (Lit.int .u8 n).wf = true) (hlen : zs.length ≤ 1048576) (hcap : zs.length ≤ cap) :
    Calls Tryd.prog 28 #[.slice a zs.length cap] w fun e w' => (∃ n x : Int, e = .returned (.tuple #[.int .i64 n, .int .i64 x]) ∧ wf6 n ∧ wf6 x) ∧ Below w.heap.size w w' := by
  have HR := Lib.hid hr; clear hr
  have HW := Lib.hid hw; clear hw
  go_enter Tryd.func28, Tryd.ntmps28
  go_wp2_with fail
  refine (l1New_c zs a cap _ HR.out HW.out hlen hcap).mono ?_
  rintro _ w1 ⟨P, rfl, hP, C', b'⟩
  have HP := Lib.hid hP; clear hP
  have C1 := Lib.hid C'; clear C'
  have G1 := Lib.hid (nx (Below.refl w.heap.size w) b'); clear b'
  go_wp2_with fail
  refine (l1One_c P _ (by exact C1.out)).mono ?_
  rintro _ w2 ⟨n, rfl, hn', C', G'⟩
  have Hn := Lib.hid hn'; clear hn'
  have C2 := Lib.hid C'; clear C'
  have G2 := Lib.hid (below_gr G1.out G' (by have h := HP.out; omega)); clear G'
  go_wp2_with fail
  refine (l1Below_c P 50 _ (by exact C2.out) (by omega)).mono ?_
  rintro _ w3 ⟨x, rfl, x0, x1, -, -, C', G'⟩
  have C3 := Lib.hid C'; clear C'
  have G3 := Lib.hid (below_gr G2.out G' (by have h := HP.out; omega)); clear G'
  replace x1 := x1 (by omega)
  go_wp2_with fail
  go_ret2
  exact ⟨⟨_, _, rfl, Hn.out, by unfold wf6; omega⟩, G3.out⟩
set_option maxRecDepth 100000 in
set_option maxHeartbeats 4000000 in
theorem drawDecText_c (zs : List Int) (a : Option Addr) (cap : Nat) (w : World) (hr : Rd w .u8 a zs) (hw : ∀ n ∈ zs, (Lit.int .u8 n).wf = true) (hlen : zs.length ≤ 1048576) (hcap : zs.length ≤ cap) :
    Calls Tryd.prog 27 #[.slice a zs.length cap] w fun e w' => (∃ n x : Int, e = .returned (.agg #[.int .i64 n, .int .i64 x]) ∧ wf6 n ∧ wf6 x) ∧ Below w.heap.size w w' := by
  have HR := Lib.hid hr; clear hr
  have HW := Lib.hid hw; clear hw
  go_enter Tryd.func27, Tryd.ntmps27
  go_wp2_with fail
  refine (l1New_c zs a cap _ (by exact rd_kept (below_alloc (Below.refl w.heap.size w) _) HR.out) HW.out hlen hcap).mono ?_
  rintro _ w1 ⟨P, rfl, hP, C', b'⟩
  simp only [World.size_alloc] at hP
  have HP := Lib.hid hP; clear hP
  have C1 := Lib.hid C'; clear C'
  have XR1 : Hid (w1.heap[w.heap.size]? = some (.cells #[.int .i64 0, .int .i64 0] 42 (0, 0))) := Lib.hid (box_below (by first | exact (heap_alloc_new _ _) | (have h := (heap_alloc_new _ _); simp only [World.size_alloc] at h; exact h)) b')
  have LER : Hid (w.heap.size ≤ w.heap.size ∧ P ≠ w.heap.size) := Lib.hid (by have h := HP.out; omega)
  have G1 := Lib.hid (nx (below_alloc (Below.refl w.heap.size w) _) b'); clear b'
  go_wp2_with fail
  refine (l4Any_c P _ (by exact C1.out)).mono ?_
  rintro _ w2 ⟨n, x, rfl, hn', C', G'⟩
  have Hn := Lib.hid hn'; clear hn'
  have C2 := Lib.hid C'; clear C'
  have XR2 : Hid (w2.heap[w.heap.size]? = some (.cells #[.int .i64 0, .int .i64 0] 42 (0, 0))) := Lib.hid (box_gr XR1.out G' LER.out.2)
  have G2 := Lib.hid (below_gr G1.out G' (by have h := HP.out; omega)); clear G'
  have Rl := box_lt XR2.out
  obtain ⟨R0, R1, Rf0, Rf1⟩ := box_two XR2.out
  go_wp2_with fail
  refine bodyPost_ret (v := .agg #[.int .i64 n, .int .i64 x]) (by simp [results, Tryd.results27, go_sem, R0, R1]) rfl ⟨⟨n, x, rfl, Hn.out⟩, ?_⟩
  repeat (first | exact G2.out | refine below_set ?_ _ (by first | exact Nat.le_refl _ | (have hR := LER.out; omega)) | refine below_alloc ?_ _ | refine Below.drew ?_)
set_option maxRecDepth 100000 in
set_option maxHeartbeats 4000000 in
theorem drawLessDec_c (zs : List Int) (a : Option Addr) (cap : Nat) (w : World) (hr : Rd w .u8 a zs) (hw : ∀ n ∈ zs, (Lit.int .u8 n).wf = true) (hlen : zs.length ≤ 1048576) (hcap : zs.length ≤ cap) :
    Calls Tryd.prog 36 #[.slice a zs.length cap] w fun e w' => (∃ n x m y : Int, e = .returned (.tuple #[.agg #[.int .i64 n, .int .i64 x], .agg #[.int .i64 m, .int .i64 y]]) ∧ (wf6 n ∧ wf6 x) ∧ (wf6 m ∧ wf6 y)) ∧ Below w.heap.size w w' := by
  have HR := Lib.hid hr; clear hr
  have HW := Lib.hid hw; clear hw
  go_enter Tryd.func36, Tryd.ntmps36
  go_wp2_with fail
  refine (l1New_c zs a cap _ (by exact rd_kept (below_alloc (below_alloc (Below.refl w.heap.size w) _) _) HR.out) HW.out hlen hcap).mono ?_
  rintro _ w1 ⟨P, rfl, hP, C', b'⟩
  simp only [World.size_alloc] at hP
  have HP := Lib.hid hP; clear hP
  have C1 := Lib.hid C'; clear C'
  have XR1 : Hid (w1.heap[w.heap.size]? = some (.cells #[.int .i64 0, .int .i64 0] 42 (0, 0))) := Lib.hid (box_below (by first | exact (box_alloc (heap_alloc_new _ _) _) | (have h := (box_alloc (heap_alloc_new _ _) _); simp only [World.size_alloc] at h; exact h)) b')
  have LER : Hid (w.heap.size ≤ w.heap.size ∧ P ≠ w.heap.size) := Lib.hid (by have h := HP.out; omega)
  have XQ1 : Hid (w1.heap[(w.heap.size + 1)]? = some (.cells #[.int .i64 0, .int .i64 0] 42 (0, 0))) := Lib.hid (box_below (by first | exact (second_block2 _ _ _) | (have h := (second_block2 _ _ _); simp only [World.size_alloc] at h; exact h)) b')
  have LEQ : Hid (w.heap.size ≤ (w.heap.size + 1) ∧ P ≠ (w.heap.size + 1)) := Lib.hid (by have h := HP.out; omega)
  have G1 := Lib.hid (nx (below_alloc (below_alloc (Below.refl w.heap.size w) _) _) b'); clear b'
  go_wp2_with fail
  refine (l4Draw_c P _ (by exact C1.out)).mono ?_
  rintro _ w2 ⟨n, x, rfl, hn', C', G'⟩
  have Hn := Lib.hid hn'; clear hn'
  have C2 := Lib.hid C'; clear C'
  have XR2 : Hid (w2.heap[w.heap.size]? = some (.cells #[.int .i64 0, .int .i64 0] 42 (0, 0))) := Lib.hid (box_gr XR1.out G' LER.out.2)
  have XQ2 : Hid (w2.heap[(w.heap.size + 1)]? = some (.cells #[.int .i64 0, .int .i64 0] 42 (0, 0))) := Lib.hid (box_gr XQ1.out G' LEQ.out.2)
  have G2 := Lib.hid (below_gr G1.out G' (by have h := HP.out; omega)); clear G'
  have bdx : wf6 n ∧ wf6 x := by have := dec_rng Hn.out; unfold wf6; omega
  have BDX := Lib.hid bdx; clear bdx
  have LED : Hid (w.heap.size ≤ w2.heap.size ∧ P ≠ w2.heap.size) := Lib.hid ⟨G2.out.size, Nat.ne_of_lt C2.out.lt⟩
  go_wp2_with fail
  refine (l1Once_c P 3 _ (by exact (Cur.alloc C2.out _)) (by omega)).mono ?_
  rintro _ w3 ⟨t, rfl, C', G'⟩
  have C3 := Lib.hid C'; clear C'
  have XR3 : Hid (w3.heap[w.heap.size]? = some (.cells #[.int .i64 0, .int .i64 0] 42 (0, 0))) := Lib.hid (box_gr (box_alloc XR2.out _) G' LER.out.2)
  have XQ3 : Hid (w3.heap[(w.heap.size + 1)]? = some (.cells #[.int .i64 0, .int .i64 0] 42 (0, 0))) := Lib.hid (box_gr (box_alloc XQ2.out _) G' LEQ.out.2)
  have XD3 : Hid (w3.heap[w2.heap.size]? = some (.cells #[.int .i64 n, .int .i64 x] 42 (0, 0))) := Lib.hid (box_gr (heap_alloc_new _ _) G' LED.out.2)
  have G3 := Lib.hid (below_gr (below_alloc G2.out _) G' (by have h := HP.out; omega)); clear G'
  cases t with
  | true =>
    have Rl := box_lt XR3.out
    obtain ⟨R0, R1, Rf0, Rf1⟩ := box_two XR3.out
    have Ql := box_lt XQ3.out
    obtain ⟨Q0, Q1, Qf0, Qf1⟩ := box_two XQ3.out
    have Dl := box_lt XD3.out
    obtain ⟨D0, D1, Df0, Df1⟩ := box_two XD3.out
    have hRD : w.heap.size < w2.heap.size := box_lt XR2.out
    have hQD : w.heap.size + 1 < w2.heap.size := box_lt XQ2.out
    go_wp2_with fail
    go_region
    all_goals
      go_wp2_with fail
      refine bodyPost_ret (v := .tuple #[.agg #[.int .i64 n, .int .i64 x], .agg #[.int .i64 n, .int .i64 x]]) (by simp [results, Tryd.results36, go_sem, R0, R1, Q0, Q1]) rfl ⟨⟨n, x, n, x, rfl, BDX.out, BDX.out⟩, ?_⟩
      repeat (first | exact G3.out | refine below_set ?_ _ (by first | exact Nat.le_refl _ | (have hR := LER.out; have hQ := LEQ.out; have hD := LED.out; omega)) | refine below_alloc ?_ _ | refine Below.drew ?_)
  | false =>
    have Rl := box_lt XR3.out
    obtain ⟨R0, R1, Rf0, Rf1⟩ := box_two XR3.out
    have Ql := box_lt XQ3.out
    obtain ⟨Q0, Q1, Qf0, Qf1⟩ := box_two XQ3.out
    have Dl := box_lt XD3.out
    obtain ⟨D0, D1, Df0, Df1⟩ := box_two XD3.out
    have hRD : w.heap.size < w2.heap.size := box_lt XR2.out
    have hQD : w.heap.size + 1 < w2.heap.size := box_lt XQ2.out
    have hCB := Lib.hid (fun wx (h : Cur wx P) => l4Any_c P wx h)
    go_wp2_with fail
    go_region_with
      (first
       | (go_at_call 93; refine (hCB.out _ (by exact C3.out)).mono ?_; rintro _ w4 ⟨m, y, rfl, hm', C', G''⟩; have G' : w3.grownBy w4 (some P) := ⟨G''.os, G''.tape, G''.output, G''.size, G''.block⟩; clear G''; have Hm := Lib.hid hm'; clear hm'; have C4 := Lib.hid C'; clear C'; have XR4 : Hid (w4.heap[w.heap.size]? = some (.cells #[.int .i64 0, .int .i64 0] 42 (0, 0))) := Lib.hid (box_gr XR3.out G' LER.out.2); have XQ4 : Hid (w4.heap[(w.heap.size + 1)]? = some (.cells #[.int .i64 0, .int .i64 0] 42 (0, 0))) := Lib.hid (box_gr XQ3.out G' LEQ.out.2); have XD4 : Hid (w4.heap[w2.heap.size]? = some (.cells #[.int .i64 n, .int .i64 x] 42 (0, 0))) := Lib.hid (box_gr XD3.out G' LED.out.2); have G4 := Lib.hid (below_gr G3.out G' (by have h := HP.out; omega)); clear G'; obtain ⟨R0', R1', Rf0', Rf1'⟩ := box_two XR4.out; have Rl' := box_lt XR4.out; obtain ⟨Q0', Q1', Qf0', Qf1'⟩ := box_two XQ4.out; have Ql' := box_lt XQ4.out; obtain ⟨D0', D1', Df0', Df1'⟩ := box_two XD4.out; have Dl' := box_lt XD4.out))
    all_goals
      go_wp2_with fail
      refine bodyPost_ret (v := .tuple #[.agg #[.int .i64 n, .int .i64 x], .agg #[.int .i64 m, .int .i64 y]]) (by simp [results, Tryd.results36, go_sem, R0', R1', Q0', Q1']) rfl ⟨⟨n, x, m, y, rfl, BDX.out, Hm.out⟩, ?_⟩
      repeat (first | exact G4.out | refine below_set ?_ _ (by first | exact Nat.le_refl _ | (have hR := LER.out; have hQ := LEQ.out; have hD := LED.out; omega)) | refine below_alloc ?_ _ | refine Below.drew ?_)
end Go.Proofs.YtilmhemcpgiikaaDoor
