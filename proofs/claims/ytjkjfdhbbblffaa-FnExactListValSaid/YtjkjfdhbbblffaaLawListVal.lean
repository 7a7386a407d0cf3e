/- FnExactListVal: both make the same list, in memory of its own. -/
import Derived.Test.YtjkjfdhbbblffaaVMarkV
import Derived.Test.YtjkjfdhbbblffaaVCopy
import Derived.Test.YtjkjfdhbbblffaaVTo
import Derived.Test.YtjkjfdhbbblffaaVLeaf
import Derived.Deep.RegionHeld3
namespace Go.Proofs.Ytjkjfdhbbblffaa
open Go.Deep Go.ChangeShapes Go.WideShapes Go.ChangeAt Go.RowKit
open Go.ChangeMaps (open_string shut_string)

theorem szL_le_costL (l : List Tree) : szL l ≤ costL l := by
  have h := sz_le_cost (.mk 0 0 0 { data := #[] } l)
  rw [Tree.sz_eq, Tree.cost_eq] at h
  simp only [Tree.l_mk, Tree.s_mk] at h
  have : ({ data := #[] } : ByteArray).size = 0 := rfl
  omega

set_option maxRecDepth 100000 in
set_option maxHeartbeats 8000000 in
theorem listVal_law (l : List Tree) (u : Value) (w : World) (hu : TSl w u l) :
    Calls Try.prog 7 #[u] w fun e w' => e = .returned (.bool true) ∧ Below w.heap.size w w' := by
  obtain ⟨a, n, cap, rfl⟩ := hu.form
  have HU := Lib.hid hu; clear hu
  have HZ := Lib.hid (szValS_of l (fun t _ => szVal_c t) w _ 1048576 (by omega) (by omega) HU.out)
  by_cases hbig : 1048576 < (costL l : Int)
  · have hs : subC 1048576 (costL l) = -1 := subC_no (by omega)
    have hs1 : subC 1048576 (costL l) < 0 := by omega
    clear hs hbig
    go_enter Try.func7, Try.ntmps7
    go_wp2_with fail
    refine HZ.out.mono ?_
    rintro _ w1 ⟨rfl, b1⟩
    go_wp2_with fail
    go_ret
    exact ⟨rfl, b1⟩
  have hcost : costL l ≤ 1048576 := by omega
  have hs : subC 1048576 (costL l) = 1048576 - costL l := subC_yes (by omega)
  have hs1 : 0 ≤ subC 1048576 (costL l) := by omega
  have hs2 : ¬ subC 1048576 (costL l) < 0 := by omega
  have hszl := szL_le_costL l
  have HT := Lib.hid (fun w1 (hb : Below w.heap.size w w1) => toValS_of l (fun t _ => toVal_c t) w1 _ hcost (HU.out.kept hb))
  have HCS := Lib.hid (fun w1 v (h : TSl w1 v l) => listVal_spec l w1 v hcost h)
  have HCI := Lib.hid (fun w1 v (h : TSl w1 v l) => listVal_impl l w1 v hcost h)
  have HE := Lib.hid (eqVal_c (.mk 9 0 0 { data := #[] } l))
  have HES := Lib.hid (eqValS_c l)
  clear hs hbig
  go_enter Try.func7, Try.ntmps7
  go_wp2_with fail
  refine HZ.out.mono ?_
  rintro _ w1 ⟨rfl, b1⟩
  go_wp2_with fail
  refine (HT.out _ b1).mono ?_
  rintro _ w2 ⟨a2, n2, c2, rfl, o2, b2⟩
  have t2 := vnx b1 b2
  have T2 := Lib.hid o2.tsl; clear o2
  go_wp2_with fail
  refine (HCS.out _ _ T2.out).mono ?_
  rintro _ w3 ⟨aw, nw, cw, rfl, ow, b3⟩
  have e3 := vbelow1 w3 (.cells #[.int .i64 9, .int .i64 0, .int .i64 0, .string { data := #[] }, .slice aw nw cw] 29)
  have t3 := vnx t2 b3
  have t3' := vnx t3 e3
  have OW3 := Lib.hid ow; clear ow
  have KW := Lib.hid (box5_new w3 (.int .i64 9) (.int .i64 0) (.int .i64 0) (.string { data := #[] }) (.slice aw nw cw) 29)
  have s2 := t2.size; have s3 := b3.size
  go_wp2_with fail
  refine (HT.out _ t3').mono ?_
  rintro _ w4 ⟨ax, nx', cx, rfl, ox, b4⟩
  have f4 := vnx e3 b4
  have t4 := vnx t3' b4
  have OX4 := Lib.hid ox; clear ox
  have OW4 := Lib.hid (OW3.out.kept_bl (Nat.le_refl _) f4)
  have KW4 := Lib.hid (box5_kept b4 KW.out)
  have s4 := b4.size
  simp only [World.size_alloc] at s4
  go_wp2_with fail
  refine (HCI.out _ _ OX4.out.tsl).mono ?_
  rintro _ w5 ⟨ag, ng, cg, rfl, og, b5⟩
  have e5 := vbelow1 w5 (.cells #[.int .i64 9, .int .i64 0, .int .i64 0, .string { data := #[] }, .slice ag ng cg] 29)
  have f5 := vnx b5 e5
  have t5 := vnx t4 f5
  have OG5 := Lib.hid og; clear og
  have OW5 := Lib.hid (OW4.out.kept_bl (by omega) f5)
  have OX5 := Lib.hid (OX4.out.kept_bl (Nat.le_refl _) f5)
  have OG5' := Lib.hid (OG5.out.kept_bl (Nat.le_refl _) e5)
  have KW5 := Lib.hid (box5_kept f5 KW4.out)
  have KG5 := Lib.hid (box5_new w5 (.int .i64 9) (.int .i64 0) (.int .i64 0) (.string { data := #[] }) (.slice ag ng cg) 29)
  have s5 := b5.size
  clear KW KW4 OW3 OW4 OX4 OG5
  obtain ⟨k0, k1, k2, k3, k4⟩ := KW5.out
  obtain ⟨m0, m1, m2, m3, m4⟩ := KG5.out
  go_wp2_with fail
  refine (HE.out _ _ _ OG5'.out.tsl OW5.out.tsl).mono ?_
  rintro _ w6 ⟨rfl, b6⟩
  have t6 := vnx t5 b6
  have s6 := b6.size
  simp only [World.size_alloc] at s6
  have OW6 := Lib.hid (OW5.out.kept_bl (by simp only [World.size_alloc]; omega) b6)
  have OX6 := Lib.hid (OX5.out.kept_bl (by simp only [World.size_alloc]; omega) b6)
  have OG6 := Lib.hid (OG5'.out.kept_bl (by simp only [World.size_alloc]; omega) b6)
  have KW6 := Lib.hid (box5_kept b6 KW5.out)
  have KG6 := Lib.hid (box5_kept b6 KG5.out)
  clear k0 k1 k2 k3 k4 m0 m1 m2 m3 m4 KW5 KG5 OW5 OX5 OG5'
  go_wp2_with fail
  refine (HT.out _ t6).mono ?_
  rintro _ w7 ⟨a7, n7, c7, rfl, o7, b7⟩
  have t7 := vnx t6 b7
  have T7 := Lib.hid o7.tsl; clear o7
  have T7x := Lib.hid (OX6.out.kept_bl (by omega) b7).tsl
  have s7 := b7.size
  go_wp2_with fail
  refine (HES.out _ _ _ T7x.out T7.out).mono ?_
  rintro _ w8 ⟨rfl, b8⟩
  have f8 := vnx b7 b8
  have t8 := vnx t7 b8
  have s8 := b8.size
  have OW8 := Lib.hid (OW6.out.kept_bl (by omega) f8)
  have OX8 := Lib.hid (OX6.out.kept_bl (by omega) f8)
  have OG8 := Lib.hid (OG6.out.kept_bl (by omega) f8)
  have KW8 := Lib.hid (box5_kept f8 KW6.out)
  have KG8 := Lib.hid (box5_kept f8 KG6.out)
  clear KW6 KG6 OW6 OX6 OG6 T7 T7x
  go_wp2_with fail
  refine (markValS_c l _ _ _ 1 (by omega) (by omega) (fun b hb => by have h1 := hb.1; have h2 := hb.2; (try simp only [World.size_alloc] at h1); (try simp only [World.size_alloc] at h2); omega) OX8.out).mono ?_
  rintro _ w9 ⟨rfl, o9, f9⟩
  have s9 := f9.size
  have t9 := Fr.below t8 f9 (fun b hb => by have h1 := hb.1; have h2 := hb.2; (try simp only [World.size_alloc] at h1); (try simp only [World.size_alloc] at h2); omega) t8.size
  have OW9 := Lib.hid (OW8.out.kept_fr (by omega) f9 (fun b hb => by have h1 := hb.1; have h2 := hb.2; (try simp only [World.size_alloc] at h1); (try simp only [World.size_alloc] at h2); omega))
  have OG9 := Lib.hid (OG8.out.kept_fr (by omega) f9 (fun b hb => by have h1 := hb.1; have h2 := hb.2; (try simp only [World.size_alloc] at h1); (try simp only [World.size_alloc] at h2); omega))
  have KW9 := Lib.hid (box5_fr KW8.out f9 (fun hb => by have h1 := hb.1; have h2 := hb.2; (try simp only [World.size_alloc] at h1); (try simp only [World.size_alloc] at h2); omega))
  have KG9 := Lib.hid (box5_fr KG8.out f9 (fun hb => by have h1 := hb.1; have h2 := hb.2; (try simp only [World.size_alloc] at h1); (try simp only [World.size_alloc] at h2); omega))
  have hneg : decide (((1 + 4 * szL l : Nat) : Int) < 0) = false := decide_eq_false (by omega)
  clear KW8 KG8 OW8 OX8 OG8 o9 f9
  obtain ⟨k0, k1, k2, k3, k4⟩ := KW9.out
  obtain ⟨m0, m1, m2, m3, m4⟩ := KG9.out
  go_wp2_with fail
  refine (HE.out _ _ _ OG9.out.tsl OW9.out.tsl).mono ?_
  rintro _ w10 ⟨rfl, b10⟩
  have t10 := vnx t9 b10
  have s10 := b10.size
  have OW10 := Lib.hid (OW9.out.kept_bl (by omega) b10)
  have OG10 := Lib.hid (OG9.out.kept_bl (by omega) b10)
  have KW10 := Lib.hid (box5_kept b10 KW9.out)
  have KG10 := Lib.hid (box5_kept b10 KG9.out)
  clear k0 k1 k2 k3 k4 m0 m1 m2 m3 m4 KW9 KG9 OW9 OG9
  obtain ⟨m0, m1, m2, m3, m4⟩ := KG10.out
  have HM := Lib.hid (markVal_c (.mk 9 0 0 { data := #[] } l) w10 ag ng cg _ 1 (by omega) (by simp only [Tree.l_mk]; omega) (fun b hb => by have h1 := hb.1; have h2 := hb.2; (try simp only [World.size_alloc] at h1); (try simp only [World.size_alloc] at h2); omega) OG10.out)
  go_wp2_with fail
  refine HM.out.mono ?_
  rintro _ w11 ⟨rfl, o11, f11⟩
  have s11 := f11.size
  have t11 := Fr.below t10 f11 (fun b hb => by have h1 := hb.1; have h2 := hb.2; (try simp only [World.size_alloc] at h1); (try simp only [World.size_alloc] at h2); omega) t10.size
  have OW11 := Lib.hid (OW10.out.kept_fr (by omega) f11 (fun b hb => by have h1 := hb.1; have h2 := hb.2; (try simp only [World.size_alloc] at h1); (try simp only [World.size_alloc] at h2); omega))
  have OG11 := Lib.hid o11
  have KW11 := Lib.hid (box5_fr KW10.out f11 (fun hb => by have h1 := hb.1; have h2 := hb.2; (try simp only [World.size_alloc] at h1); (try simp only [World.size_alloc] at h2); omega))
  have KG11 := Lib.hid (box5_fr KG10.out f11 (fun hb => by have h1 := hb.1; have h2 := hb.2; (try simp only [World.size_alloc] at h1); (try simp only [World.size_alloc] at h2); omega))
  clear m0 m1 m2 m3 m4 KW10 KG10 OW10 OG10 HM o11 f11
  obtain ⟨m0, m1, m2, m3, m4⟩ := KG11.out
  have HH := Lib.hid (fun w12 h => heldVal_c (.mk 9 0 0 { data := #[] } l) w12 ag ng cg 1 (by omega) (by simp only [Tree.l_mk]; omega) h)
  simp only [Tree.l_mk] at HH
  go_wp2_with fail
  refine (HH.out _ OG11.out.tsl).mono ?_
  rintro _ w12 ⟨rfl, b12⟩
  have t12 := vnx t11 b12
  have s12 := b12.size
  have OW12 := Lib.hid (OW11.out.kept_bl (by omega) b12)
  have OG12 := Lib.hid (OG11.out.kept_bl (by omega) b12)
  have KW12 := Lib.hid (box5_kept b12 KW11.out)
  have KG12 := Lib.hid (box5_kept b12 KG11.out)
  clear m0 m1 m2 m3 m4 KW11 KG11 OW11 OG11
  have hnn : (((1 + 4 * szL l : Nat) : Int) != ((1 + 4 * szL l : Nat) : Int)) = false := by simp
  go_wp2_with fail
  refine (HT.out _ t12).mono ?_
  rintro _ w13 ⟨a13, n13, c13, rfl, o13, b13⟩
  have t13 := vnx t12 b13
  have s13 := b13.size
  have T13 := Lib.hid o13.tsl; clear o13
  go_wp2_with fail
  refine (HCI.out _ _ T13.out).mono ?_
  rintro _ w14 ⟨ah, nh, ch, rfl, oh, b14⟩
  have e14 := vbelow1 w14 (.cells #[.int .i64 9, .int .i64 0, .int .i64 0, .string { data := #[] }, .slice ah nh ch] 29)
  have f14 := vnx b13 (vnx b14 e14)
  have t14 := vnx t13 (vnx b14 e14)
  have s14 := b14.size
  have OH := Lib.hid (oh.tsl.kept e14); clear oh
  have OW14 := Lib.hid (OW12.out.kept_bl (by omega) f14)
  have OG14 := Lib.hid (OG12.out.kept_bl (by omega) f14)
  have KW14 := Lib.hid (box5_kept f14 KW12.out)
  have KG14 := Lib.hid (box5_kept f14 KG12.out)
  have KH14 := Lib.hid (box5_new w14 (.int .i64 9) (.int .i64 0) (.int .i64 0) (.string { data := #[] }) (.slice ah nh ch) 29)
  clear KW12 KG12 OW12 OG12 T13
  obtain ⟨k0, k1, k2, k3, k4⟩ := KW14.out
  obtain ⟨m0, m1, m2, m3, m4⟩ := KH14.out
  go_wp2_with fail
  refine (HE.out _ _ _ OH.out OW14.out.tsl).mono ?_
  rintro _ w15 ⟨rfl, b15⟩
  have t15 := vnx t14 b15
  have OG15 := Lib.hid (OG14.out.tsl.kept b15)
  have KG15 := Lib.hid (box5_kept b15 KG14.out)
  clear k0 k1 k2 k3 k4 m0 m1 m2 m3 m4 KW14 KG14 KH14 OW14 OG14 OH
  obtain ⟨m0, m1, m2, m3, m4⟩ := KG15.out
  go_wp2_with fail
  refine (HH.out _ OG15.out).mono ?_
  rintro _ w16 ⟨rfl, b16⟩
  go_wp2_with fail
  go_ret
  exact ⟨rfl, vnx t15 b16⟩
namespace fnExactListVal
theorem walk : LawWalk 7 Try.f7 := by
  intro H enc W base args ds p hval0 hA0
  have hval : ∀ (j : Nat) t v, Try.f7.params[j]? = some t → args[j]? = some v → Value.okWide Try.prog W .any base t v := hval0
  have hA : DataW.TrodAll enc Try.prog W 0 (fun _ => true) true Try.f7.params.toList args.toList ds p := hA0
  clear hval0 hA0
  rw [Try.params7] at hA hval
  obtain ⟨v0, vs0, d0, ds0, p0, q0, hargs, rfl, rfl, h0, r0⟩ := trodAll_cons hA
  obtain ⟨rfl, rfl, rfl⟩ := trodAll_nil r0
  obtain rfl : args = #[v0] := by cases args; simp_all
  obtain ⟨a0, len0, cap0, rfl⟩ := okWide_slice Try.underlying22 (hval 0 22 v0 rfl rfl)
  obtain ⟨t0, w0⟩ := open_vals Try.underlying24 (by kernel_rfl) (by kernel_rfl) Try.underlying3 Try.underlying3 Try.underlying3 Try.underlying9 Try.underlying22 Try.underlying22 rfl h0
  exact listVal_law t0 _ W w0
set_option maxRecDepth 100000 in
theorem lifted (os : Os) (started : os.Started) (H : Type) (enc : TypeId × Value → H) :
    ReturnsInHanded {} Try.checked os 7 .any (Rows.fnExactListValSpec.pre6 enc Try.prog Try.f7 [] false) (Rows.fnExactListValSpec.post enc Try.prog Try.f7 false true false false) :=
  law_lifted 7 Try.f7 Rows.fnExactListValSpec os started H enc (by kernel_rfl) Try.func7 rfl rfl (by kernel_rfl)
    (fun ds h => by match ds, h with | [_], _ => rfl)
    (ChangeSpec.witness6 (enc := enc) (C := Try.checked) false ⟨#[], #[.slice none 0 0], []⟩ 8 (by kernel_rfl) (by kernel_rfl) (by kernel_rfl) (by kernel_rfl)) walk
theorem proved : Rows.FnExactListValSaid :=
  OpenClaim.holds_of_wide 7 Try.f7 rfl rfl rfl rfl rfl rfl rfl ⟨rfl, rfl, rfl, rfl, rfl⟩ rfl rfl rfl rfl rfl (by kernel_rfl) Try.func7 (by kernel_rfl)
    (of_decide_eq_true (by kernel_rfl)) (by unfold Func.isWrapper; first | (rw [if_pos (by decide +kernel)]; kernel_rfl) | (rw [if_neg (by decide +kernel)]; exact ⟨rfl, rfl⟩))
    (fun os started H enc _ => lifted os started H enc)
#print axioms proved
end fnExactListVal
end Go.Proofs.Ytjkjfdhbbblffaa
