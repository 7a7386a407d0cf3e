/- FnHalves: what is rounded is at most a half away, and even where it is just that. -/
import Derived.Test.YtcagcjkhjfbbpaaDHalf
import Derived.Test.YtcagcjkhjfbbpaaDSame
import Derived.Test.YtcagcjkhjfbbpaaMHalf
import Derived.Test.YtcagcjkhjfbbpaaCPow
namespace Go.Proofs.Ytcagcjkhjfbbpaa
open Go.Deep Go.ChangeShapes Go.WideShapes Go.ChangeAt Go.RowKit
open Go.ChangeMaps (open_string shut_string)

theorem halfF_zero (n d : Int) (h : ¬(0 ≤ n ∧ n ≤ 1000000000000000 ∧ 1 ≤ d ∧ d ≤ 1000000000000000)) : halfF n d = 0 := by unfold halfF; rw [if_neg h]

theorem pow_small (k : Nat) (h : k ≤ 50) : wrap64 (2 ^ k) = 2 ^ k := by
  have hp : (1 : Int) ≤ 2 ^ k ∧ (2 : Int) ^ k ≤ 1125899906842624 := by
    have h1 : 2 ^ k ≤ 2 ^ 50 := Nat.pow_le_pow_right (by decide) h
    have h2 : 0 < 2 ^ k := Nat.pow_pos (by decide)
    have h3 : (2 : Int) ^ k = ((2 ^ k : Nat) : Int) := by simp
    rw [h3]; omega
  generalize (2 : Int) ^ k = z at *
  unfold wrap64; omega

set_option maxRecDepth 100000 in
set_option maxHeartbeats 8000000 in
theorem fnHalves_law (a : Option Addr) (cap : Nat) (zs : List Int) (w : World) (hr : Rd w .u8 a zs) (hw : ∀ n ∈ zs, (Lit.int .u8 n).wf = true) (hcap : zs.length ≤ cap) (_hm : cap ≤ maxLen) :
    Calls Try.prog 4 #[.slice a zs.length cap] w fun e w' => e = .returned (.bool true) ∧ Below w.heap.size w w' := by
  have HR := Lib.hid hr; clear hr
  have HW := Lib.hid hw; clear hw
  have Hlen := Lib.hid (show zs.length ≤ 9223372036854775807 by unfold maxLen at _hm; omega)
  cases hbig : decide ((1048576 : Int) < (zs.length : Int)) with
  | true =>
    have HB := Lib.hid hbig; clear hbig
    go_enter Try.func4, Try.ntmps4
    go_wp2_with fail
    refine (big_c _ _ _ _).mono ?_
    rintro _ _ ⟨rfl, rfl⟩
    rw [HB.out]
    go_wp2_with fail
    go_ret
    exact ⟨rfl, Below.refl _ _⟩
  | false =>
    have hlen : zs.length ≤ 1048576 := by have := of_decide_eq_false hbig; omega
    have HB := Lib.hid hbig; clear hbig
    go_enter Try.func4, Try.ntmps4
    go_wp2_with fail
    refine (big_c _ _ _ _).mono ?_
    rintro _ _ ⟨rfl, rfl⟩
    rw [HB.out]
    go_wp2_with fail
    refine (drawHalf_c zs a cap _ HR.out HW.out hlen hcap).mono ?_
    rintro _ w1 ⟨⟨n, d, rfl, nw, dw⟩, b1⟩
    have T1 := Lib.hid b1; clear b1
    have NW := Lib.hid nw; clear nw
    have DW := Lib.hid dw; clear dw
    go_wp2_with fail
    refine (drawPow_c zs a cap _ (rd_kept T1.out HR.out) HW.out hlen hcap).mono ?_
    rintro _ w2 ⟨⟨b, k, rfl⟩, b2⟩
    have T2 := Lib.hid (nx T1.out b2); clear b2
    go_wp2_with fail
    refine (drawBitsOf_c zs a cap _ (rd_kept T2.out HR.out) HW.out hlen hcap).mono ?_
    rintro _ w3 ⟨⟨m, rfl, mw⟩, b3⟩
    have T3 := Lib.hid (nx T2.out b3); clear b3
    have MW := Lib.hid mw; clear mw
    go_wp2_with fail
    refine (half_impl n d _).mono ?_
    rintro _ _ ⟨rfl, q1, rfl⟩
    have T4 := Lib.hid (below_drewN T3.out q1)
    have HF := Lib.hid (halfF_law n d)
    have HF0 := Lib.hid (halfF_zero n d)
    obtain ⟨q, hq⟩ : ∃ q, q = halfF n d := ⟨_, rfl⟩
    rw [← hq]
    have HQ := Lib.hid hq; clear hq
    go_wp2_with fail
    refine (half_spec n d _).mono ?_
    rintro _ _ ⟨rfl, q2, rfl⟩
    have T5 := Lib.hid (show Below w.heap.size w (w3.drewN (q1 + q2)) by have := below_drewN T4.out q2; rwa [drewN_two] at this)
    rw [← HQ.out]
    go_wp2_with fail
    refine (pow_impl b k _).mono ?_
    rintro _ _ ⟨rfl, rfl⟩
    go_wp2_with fail
    refine (pow_spec b k _).mono ?_
    rintro _ _ ⟨rfl, rfl⟩
    generalize powF b k = pw at *
    go_wp2_with fail
    refine (bitsOf_impl m _).mono ?_
    rintro _ _ ⟨rfl, rfl⟩
    have HBF := Lib.hid (bitsF_law m)
    obtain ⟨bt, hbt⟩ : ∃ q, q = bitsF m := ⟨_, rfl⟩
    rw [← hbt]
    have HBT := Lib.hid hbt; clear hbt
    go_wp2_with fail
    refine (bitsOf_spec m _).mono ?_
    rintro _ _ ⟨rfl, rfl⟩
    rw [← HBT.out]
    go_wp2_with fail
    refine (pow_impl 10 3 _).mono ?_
    rintro _ _ ⟨rfl, rfl⟩
    rw [show powF 10 3 = 1000 by decide]
    go_wp2_with fail
    refine (pow_impl 2 3 _).mono ?_
    rintro _ _ ⟨rfl, rfl⟩
    rw [show powF 2 3 = 8 by decide]
    go_wp2_with fail
    refine (pow_impl 5 3 _).mono ?_
    rintro _ _ ⟨rfl, rfl⟩
    rw [show powF 5 3 = 125 by decide]
    cases hin : decide (0 ≤ n ∧ n ≤ 1000000000000000 ∧ 1 ≤ d ∧ d ≤ 1000000000000000) with
    | false =>
      have hno := of_decide_eq_false hin
      obtain rfl : q = 0 := HQ.out.trans (HF0.out hno)
      clear hin
      by_cases c1 : n < 0
      · go_wp2_with fail
        go_ret
        exact ⟨rfl, T5.out⟩
      by_cases c2 : 1000000000000000 < n
      · go_wp2_with fail
        go_ret
        exact ⟨rfl, T5.out⟩
      by_cases c3 : d < 1
      · go_wp2_with fail
        go_ret
        exact ⟨rfl, T5.out⟩
      · have c4 : 1000000000000000 < d := by omega
        go_wp2_with fail
        go_ret
        exact ⟨rfl, T5.out⟩
    | true =>
      have hyes := of_decide_eq_true hin
      clear hin
      obtain ⟨n0, n1, d0, d1⟩ := hyes
      have hlaw := HF.out ⟨n0, n1⟩ ⟨d0, d1⟩
      rw [← HQ.out] at hlaw
      clear HF HF0
      obtain ⟨M, hM⟩ : ∃ M, q * d = M := ⟨_, rfl⟩
      rw [hM] at hlaw
      obtain ⟨l0, l1, l2, l3, l4, l5⟩ := hlaw
      have hd := DW.out
      have L5 := Lib.hid l5; clear l5
      have hq2 : q * 1 ≤ q * d := Int.mul_le_mul_of_nonneg_left (by omega) l0
      rw [hM] at hq2
      obtain ⟨R, hR⟩ : ∃ R, 2 * (n - M) = R := ⟨_, rfl⟩
      rw [hR] at l3 l4 L5
      have hRb : -2000000000000000 ≤ R ∧ R ≤ 2000000000000000 := by omega
      have e1 : R ≤ d := l3
      have e2 : -R ≤ d := l4
      have e3 : q % 2 = 0 ∨ (R ≠ d ∧ -R ≠ d) := by
        have := L5.out
        by_cases hp : q % 2 = 0
        · exact .inl hp
        · exact .inr ⟨fun h => hp (this (.inl h)), fun h => hp (this (.inr h))⟩
      clear L5
      by_cases c1 : m < 1
      · rcases e3 with e3 | ⟨e3, e4⟩
        all_goals
          go_wp2_with fail
          all_goals (go_ret; exact ⟨rfl, T5.out⟩)
      by_cases c2 : 1000000000000000 < m
      · rcases e3 with e3 | ⟨e3, e4⟩
        all_goals
          go_wp2_with fail
          all_goals (go_ret; exact ⟨rfl, T5.out⟩)
      obtain ⟨k', k1, k2, k3, k4, k5⟩ := HBF.out ⟨by omega, by omega⟩
      obtain rfl : bt = k' := HBT.out.trans k3
      have hs1 := pow_small k' k2
      have hs2 := pow_small (k' - 1) (by omega)
      have ht : ((k' : Int) - 1).toNat = k' - 1 := by clear hR hRb hM; omega
      have e5 : (R ≠ d ∧ -R ≠ d) ∨ (q % 2 = 0 ∧ R = d) ∨ (q % 2 = 0 ∧ R ≠ d ∧ -R = d) := by
        by_cases f1 : R = d
        · rcases e3 with e3 | ⟨e3, _⟩
          · exact .inr (.inl ⟨e3, f1⟩)
          · exact absurd f1 e3
        · by_cases f2 : -R = d
          · rcases e3 with e3 | ⟨_, e3⟩
            · exact .inr (.inr ⟨e3, f1, f2⟩)
            · exact absurd f2 e3
          · exact .inl ⟨f1, f2⟩
      clear e3
      rcases e5 with ⟨f1, f2⟩ | ⟨f1, f2⟩ | ⟨f1, f2, f3⟩
      all_goals
        go_wp2_with fail
        refine (bitsOf_impl m _).mono ?_
        rintro _ _ ⟨rfl, rfl⟩
        rw [k3]
        go_wp2_with fail
        refine (bitsOf_impl m _).mono ?_
        rintro _ _ ⟨rfl, rfl⟩
        rw [k3]
        go_wp2_with fail
        go_ret
        exact ⟨rfl, T5.out⟩
namespace fnHalves
theorem walk : LawWalk 4 Try.f4 := by
  intro H enc W base args ds p hval0 hA0
  have hval : ∀ (j : Nat) t v, Try.f4.params[j]? = some t → args[j]? = some v → Value.okWide Try.prog W .any base t v := hval0
  have hA : DataW.TrodAll enc Try.prog W 0 (fun _ => true) true Try.f4.params.toList args.toList ds p := hA0
  clear hval0 hA0
  rw [Try.params4] at hA hval
  obtain ⟨v0, vs0, d0, ds0, p0, q0, hargs, rfl, rfl, h0, r0⟩ := trodAll_cons hA
  obtain ⟨rfl, rfl, rfl⟩ := trodAll_nil r0
  obtain rfl : args = #[v0] := by cases args; simp_all
  obtain ⟨a0, len0, cap0, rfl⟩ := okWide_slice Try.underlying22 (hval 0 22 v0 rfl rfl)
  obtain ⟨z0, rfl, w0, x0, y0, m0⟩ := open_ints_rd Try.underlying22 Try.underlying5 (by kernel_rfl) h0
  exact fnHalves_law a0 cap0 z0 W w0 x0 y0 m0
set_option maxRecDepth 100000 in
theorem lifted (os : Os) (started : os.Started) (H : Type) (enc : TypeId × Value → H) :
    ReturnsInHanded {} Try.checked os 4 .any (Rows.fnHalvesSpec.pre6 enc Try.prog Try.f4 [] false) (Rows.fnHalvesSpec.post enc Try.prog Try.f4 false true false false) :=
  law_lifted 4 Try.f4 Rows.fnHalvesSpec os started H enc (by kernel_rfl) Try.func4 rfl rfl (by kernel_rfl)
    (fun ds h => by match ds, h with | [_], _ => rfl)
    (ChangeSpec.witness6 (enc := enc) (C := Try.checked) false ⟨#[], #[.slice none 0 0], []⟩ 8 (by kernel_rfl) (by kernel_rfl) (by kernel_rfl) (by kernel_rfl)) walk
theorem proved : Rows.FnHalvesSaid :=
  OpenClaim.holds_of_wide 4 Try.f4 rfl rfl rfl rfl rfl rfl rfl ⟨rfl, rfl, rfl, rfl, rfl⟩ rfl rfl rfl rfl rfl (by kernel_rfl) Try.func4 (by kernel_rfl)
    (of_decide_eq_true (by kernel_rfl)) (by unfold Func.isWrapper; first | (rw [if_pos (by decide +kernel)]; kernel_rfl) | (rw [if_neg (by decide +kernel)]; exact ⟨rfl, rfl⟩))
    (fun os started H enc _ => lifted os started H enc)
#print axioms proved
end fnHalves
end Go.Proofs.Ytcagcjkhjfbbpaa
