/- FnExactPutBig: both append the same bytes, and they are their own. -/
import Derived.Test.YteihnonhfaidoaaCPutBigN
import Derived.Test.YteihnonhfaidoaaBLaw
namespace Go.Proofs.Yteihnonhfaidoaa
open Go.Deep Go.ChangeShapes Go.WideShapes Go.ChangeAt Go.RowKit
open Go.ChangeMaps (open_string shut_string)


set_option maxHeartbeats 4000000 in
theorem putBig_law (a0 : Option Addr) (cap0 : Nat) (zs : List Int) (n k : Int) (w : World) (hr0 : Rd w .u8 a0 zs) (_hw0 : ∀ n ∈ zs, (Lit.int .u8 n).wf = true) (hcap0 : zs.length ≤ cap0) (_hm0 : cap0 ≤ maxLen) (hn : (Lit.int .i64 n).wf = true) (_hk : (Lit.int .i64 k).wf = true) :
    Calls Try.prog 5 #[.slice a0 zs.length cap0, .int .i64 n, .int .i64 k] w fun e w' => e = .returned (.bool true) ∧ Below w.heap.size w w' := by
  by_cases hbig : 1048576 < zs.length
  · have hd : decide ((1048576 : Int) < (zs.length : Int)) = true := decide_eq_true (by omega)
    have hmx : zs.length ≤ 9223372036854775807 := by unfold maxLen at _hm0; omega
    clear hr0 _hw0
    go_enter Try.func5, Try.ntmps5
    go_wp2_with fail
    go_ret
    exact ⟨rfl, Below.refl _ _⟩
  have hd : decide ((1048576 : Int) < (zs.length : Int)) = false := decide_eq_false (by omega)
  have hlen : zs.length ≤ 1048576 := by omega
  clear _hw0 hbig
  obtain ⟨L, hLd⟩ : ∃ L, L = putF zs n k := ⟨_, rfl⟩
  have hL : L.length ≤ 1048584 := by rw [hLd]; have := putF_len zs n k; omega
  have hn9 := (wf64 hn).2
  have CS : Hid (∀ (a : Option Addr) (c : Nat) (w : World), Rd w .u8 a zs → zs.length ≤ c → Calls Try.prog 21 #[.slice a zs.length c, .int .i64 n, .int .i64 k] w fun e w' => ∃ v, e = .returned v ∧ w'.ownsRow w.heap.size 5 1 v L.length (L.map (Value.int .u8)) ∧ Below w.heap.size w w') := Lib.hid (by intro a c w h _; rw [hLd]; exact putBig_spec_c n k zs a c w h hlen hn9)
  have CI : Hid (∀ (a : Option Addr) (c : Nat) (w : World), Rd w .u8 a zs → zs.length ≤ c → Calls Try.prog 22 #[.slice a zs.length c, .int .i64 n, .int .i64 k] w fun e w' => ∃ v, e = .returned v ∧ w'.ownsRow w.heap.size 5 1 v L.length (L.map (Value.int .u8)) ∧ Below w.heap.size w w') := Lib.hid (by intro a c w h _; rw [hLd]; exact putBig_impl_c n k zs a c w h hlen hn9)
  clear hLd hn9 hn
  have HR := Lib.hid hr0; clear hr0
  go_enter Try.func5, Try.ntmps5
  go_wp2_with fail
  refine (toByteS_c _ _ _ _ HR.out hlen).mono ?_
  rintro _ w1 ⟨v1, rfl, o1, b1⟩
  obtain ⟨a1, cap1, rfl, -, r1, c1, -⟩ := own_rd o1
  have R1 := Lib.hid r1; clear r1 o1
  go_wp2_with fail
  refine (CS.out a1 cap1 _ R1.out c1).mono ?_
  rintro _ w2 ⟨vw, rfl, ow, b2⟩
  have OW := Lib.hid ow; clear ow
  have t2 := nx b1 b2
  go_wp2_with fail
  refine (toByteS_c _ _ _ _ (rd_kept t2 HR.out) hlen).mono ?_
  rintro _ w3 ⟨vx, rfl, ox, b3⟩
  have t3 := nx t2 b3
  have OW3 := Lib.hid (own_kept b3 OW.out)
  obtain ⟨ax, capx, hvx, -, rx, cx, -⟩ := own_rd ox
  have OX := Lib.hid ox; clear ox
  have AWX := Lib.hid (own_apart OW.out OX.out (Nat.le_refl _)); clear OW
  subst hvx
  have RX := Lib.hid rx; clear rx
  go_wp2_with fail
  refine (CI.out ax capx _ RX.out cx).mono ?_
  rintro _ w4 ⟨vg, rfl, og, b4⟩
  have t4 := nx t3 b4
  have OW4 := Lib.hid (own_kept b4 OW3.out)
  have OX4 := Lib.hid (own_kept b4 OX.out)
  have RX4 := Lib.hid (rd_kept b4 RX.out)
  obtain ⟨ag, capg, hvg, -, rg, cg, -⟩ := own_rd og
  obtain ⟨aw, capw, hvw, -, rw', cw, -⟩ := own_rd OW4.out
  have OG := Lib.hid og; clear og
  have AWG := Lib.hid (own_apart OW3.out OG.out (Nat.le_refl _))
  have AXG := Lib.hid (own_apart OX.out OG.out (Nat.le_refl _)); clear OX OW3 RX
  subst hvg hvw
  have RG := Lib.hid rg; clear rg
  have RW := Lib.hid rw'; clear rw'
  go_wp2_with fail
  refine (eqByteS_c _ _ _ _ _ _ _ RG.out RW.out (by omega) (by omega)).mono ?_
  rintro _ _ ⟨rfl, q1, rfl⟩
  go_wp2_with fail
  refine (toByteS_c _ _ _ _ (by exact rd_kept t4 HR.out) hlen).mono ?_
  rintro _ w5 ⟨vy, rfl, oy, b5'⟩
  have b5 : Below w4.heap.size w4 w5 := ⟨b5'.os, b5'.tape, b5'.output, b5'.size, b5'.block⟩
  clear b5'
  have t5 := nx t4 b5
  have OW5 := Lib.hid (own_kept b5 OW4.out)
  have OX5 := Lib.hid (own_kept b5 OX4.out)
  have OG5 := Lib.hid (own_kept b5 OG.out)
  have RX5 := Lib.hid (rd_kept b5 RX4.out)
  obtain ⟨ay, capy, rfl, -, ry, cy, -⟩ := own_rd oy
  have RY := Lib.hid ry; clear ry oy OW4 OX4 OG RX4 RG RW
  go_wp2_with fail
  refine (eqByteS_c _ _ _ _ _ _ _ RX5.out RY.out (by omega) (by omega)).mono ?_
  rintro _ _ ⟨rfl, q2, rfl⟩
  go_wp2_with fail
  refine (markByteS_c _ _ _ _ 1 _ (by exact OX5.out) (by omega) (by omega)).mono ?_
  rintro _ w6 ⟨rfl, ox6, g6'⟩
  have g6 : w5.grownBy w6 (Value.slice ax zs.length capx).ownBlock := ⟨g6'.os, g6'.tape, g6'.output, g6'.size, g6'.block⟩
  have t6 := below_mark t5 OX5.out t2.size g6
  have OW6 := Lib.hid (OW5.out.kept g6 AWX.out)
  have OG6 := Lib.hid (OG5.out.kept g6 (apart_symm AXG.out))
  clear g6' ox6 OW5 OX5 OG5 RX5 RY
  obtain ⟨aw6, capw6, hvw6, -, rw6, -, -⟩ := own_rd OW6.out
  obtain ⟨ag6, capg6, hvg6, -, rg6, -, -⟩ := own_rd OG6.out
  simp only [Value.slice.injEq, true_and] at hvw6 hvg6
  obtain ⟨rfl, rfl⟩ := hvw6
  obtain ⟨rfl, rfl⟩ := hvg6
  have RG := Lib.hid rg6; clear rg6
  have RW := Lib.hid rw6; clear rw6
  go_wp2_with fail
  refine (eqByteS_c _ _ _ _ _ _ _ RG.out RW.out (by omega) (by omega)).mono ?_
  rintro _ _ ⟨rfl, q3, rfl⟩
  go_wp2_with fail
  refine (markByteS_c _ _ _ _ 1 _ (by exact OG6.out) (by omega) (by omega)).mono ?_
  rintro _ w7 ⟨rfl, og7, g7'⟩
  have g7 : w6.grownBy w7 (Value.slice ag (L).length capg).ownBlock := ⟨g7'.os, g7'.tape, g7'.output, g7'.size, g7'.block⟩
  have t7 := below_mark t6 OG6.out t3.size g7
  have OW7 := Lib.hid (OW6.out.kept g7 AWG.out)
  have OG7 := Lib.hid og7
  clear g7' og7 OW6 OG6 RG RW
  go_wp2_with fail
  refine (heldByteS_c _ _ _ 1 _ OG7.out (by omega) (by omega)).mono ?_
  rintro _ _ ⟨rfl, rfl⟩
  go_wp2_with fail
  refine (toByteS_c _ _ _ _ (rd_kept t7 HR.out) hlen).mono ?_
  rintro _ w8 ⟨vz, rfl, oz, b8⟩
  have t8 := nx t7 b8
  have OW8 := Lib.hid (own_kept b8 OW7.out)
  have OG8 := Lib.hid (own_kept b8 OG7.out)
  obtain ⟨az, capz, rfl, -, rz, cz, -⟩ := own_rd oz
  have RZ := Lib.hid rz; clear rz oz OW7 OG7
  go_wp2_with fail
  refine (CI.out az capz _ RZ.out cz).mono ?_
  rintro _ w9 ⟨vh, rfl, oh, b9⟩
  have t9 := nx t8 b9
  have OW9 := Lib.hid (own_kept b9 OW8.out)
  have OG9 := Lib.hid (own_kept b9 OG8.out)
  obtain ⟨ah, caph, rfl, -, rh, -, -⟩ := own_rd oh
  obtain ⟨aw9, capw9, hvw9, -, rw9, -, -⟩ := own_rd OW9.out
  simp only [Value.slice.injEq, true_and] at hvw9
  obtain ⟨rfl, rfl⟩ := hvw9
  have RH := Lib.hid rh; clear rh oh
  have RW := Lib.hid rw9; clear rw9 OW8 OG8
  go_wp2_with fail
  refine (eqByteS_c _ _ _ _ _ _ _ RH.out RW.out (by omega) (by omega)).mono ?_
  rintro _ _ ⟨rfl, q4, rfl⟩
  go_wp2_with fail
  refine (heldByteS_c _ _ _ 1 _ (by exact OG9.out) (by omega) (by omega)).mono ?_
  rintro _ _ ⟨rfl, rfl⟩
  go_wp2_with fail
  go_ret
  exact ⟨rfl, below_drewN t9 _⟩
namespace fnExactPutBig
theorem walk : LawWalk 5 Try.f5 := by
  intro H enc W base args ds p hval0 hA0
  have hval : ∀ (j : Nat) t v, Try.f5.params[j]? = some t → args[j]? = some v → Value.okWide Try.prog W .any base t v := hval0
  have hA : DataW.TrodAll enc Try.prog W 0 (fun _ => true) true Try.f5.params.toList args.toList ds p := hA0
  clear hval0 hA0
  rw [Try.params5] at hA hval
  obtain ⟨v0, vs0, d0, ds0, p0, q0, hargs, rfl, rfl, h0, r0⟩ := trodAll_cons hA
  obtain ⟨v1, vs1, d1, ds1, p1, q1, rfl, rfl, rfl, h1, r1⟩ := trodAll_cons r0
  obtain ⟨v2, vs2, d2, ds2, p2, q2, rfl, rfl, rfl, h2, r2⟩ := trodAll_cons r1
  obtain ⟨rfl, rfl, rfl⟩ := trodAll_nil r2
  obtain rfl : args = #[v0, v1, v2] := by cases args; simp_all
  obtain ⟨a0, len0, cap0, rfl⟩ := okWide_slice Try.underlying22 (hval 0 22 v0 rfl rfl)
  obtain ⟨z0, rfl, w0, x0, y0, m0⟩ := open_ints_rd Try.underlying22 Try.underlying5 (by kernel_rfl) h0
  obtain ⟨a1, rfl, rfl, rfl, w1⟩ := open_int Try.underlying3 (hval 1 3 v1 rfl rfl) h1
  obtain ⟨a2, rfl, rfl, rfl, w2⟩ := open_int Try.underlying3 (hval 2 3 v2 rfl rfl) h2
  exact putBig_law a0 cap0 z0 a1 a2 W w0 x0 y0 m0 w1 w2
set_option maxRecDepth 100000 in
theorem lifted (os : Os) (started : os.Started) (H : Type) (enc : TypeId × Value → H) :
    ReturnsInHanded {} Try.checked os 5 .any (Rows.fnExactPutBigSpec.pre6 enc Try.prog Try.f5 [] false) (Rows.fnExactPutBigSpec.post enc Try.prog Try.f5 false true false false) :=
  law_lifted 5 Try.f5 Rows.fnExactPutBigSpec os started H enc (by kernel_rfl) Try.func5 rfl rfl (by kernel_rfl)
    (fun ds h => by match ds, h with | [_, _, _], _ => rfl)
    (ChangeSpec.witness6 (enc := enc) (C := Try.checked) false ⟨#[], #[.slice none 0 0, .int .i64 0, .int .i64 0], []⟩ 8 (by kernel_rfl) (by kernel_rfl) (by kernel_rfl) (by kernel_rfl)) walk
theorem proved : Rows.FnExactPutBigSaid :=
  OpenClaim.holds_of_wide 5 Try.f5 rfl rfl rfl rfl rfl rfl rfl ⟨rfl, rfl, rfl, rfl, rfl⟩ rfl rfl rfl rfl rfl (by kernel_rfl) Try.func5 (by kernel_rfl)
    (of_decide_eq_true (by kernel_rfl)) (by unfold Func.isWrapper; first | (rw [if_pos (by decide +kernel)]; kernel_rfl) | (rw [if_neg (by decide +kernel)]; exact ⟨rfl, rfl⟩))
    (fun os started H enc _ => lifted os started H enc)
#print axioms proved
end fnExactPutBig

end Go.Proofs.Yteihnonhfaidoaa
