/- FnExactNamesOf: both make the same, in memory of its own. -/
import Derived.Test.YtjkjfdhbbblffaaVNames
import Derived.Test.YtjkjfdhbbblffaaVMarkV
import Derived.Test.YtjkjfdhbbblffaaVCopy
import Derived.Test.YtjkjfdhbbblffaaVTo
import Derived.Test.YtjkjfdhbbblffaaVLeaf
import Derived.Deep.RegionHeld3
namespace Go.Proofs.Ytjkjfdhbbblffaa
open Go.Deep Go.ChangeShapes Go.WideShapes Go.ChangeAt Go.RowKit
open Go.ChangeMaps (open_string shut_string)

set_option maxRecDepth 100000 in
set_option maxHeartbeats 16000000 in
theorem namesOf_law (t : Tree) (u : Value) (w : World) (hu : TSl w u t.l) (hfit : Fits t.kind t.n t.x t.s) :
    Calls Try.prog 8 #[.agg #[.int .i64 t.kind, .int .i64 t.n, .int .i64 t.x, .string t.s, u]] w fun e w' => e = .returned (.bool true) ∧ Below w.heap.size w w' := by
  obtain ⟨a, n, cap, rfl⟩ := hu.form
  have HU := Lib.hid hu; clear hu
  have t0 := vbelow1 w (.cells #[.int .i64 t.kind, .int .i64 t.n, .int .i64 t.x, .string t.s, (.slice a n cap)] 24)
  have K0 := Lib.hid (box5_new w (.int .i64 t.kind) (.int .i64 t.n) (.int .i64 t.x) (.string t.s) (.slice a n cap) 24)
  have HZ := Lib.hid (fun w1 (hb : Below w.heap.size w w1) left h0 h1 => szVal_c t w1 _ left h0 h1 (HU.out.kept hb) hfit)
  by_cases hbig : 1048576 < (t.cost : Int)
  · have hs : subC 1048576 t.cost = -1 := subC_no (by omega)
    have hs1 : subC 1048576 t.cost < 0 := by omega
    clear hs hbig
    obtain ⟨k0, k1, k2, k3, k4⟩ := K0.out
    go_enter Try.func8, Try.ntmps8
    go_wp2_with fail
    refine (HZ.out _ t0 _ (by omega) (by omega)).mono ?_
    rintro _ w1 ⟨rfl, b1⟩
    go_wp2_with fail
    go_ret
    exact ⟨rfl, vnx t0 b1⟩
  have hcost : t.cost ≤ 1048576 := by omega
  have hs : subC 1048576 t.cost = 1048576 - t.cost := subC_yes (by omega)
  have hs1 : 0 ≤ subC 1048576 t.cost := by omega
  have hs2 : ¬ subC 1048576 t.cost < 0 := by omega
  have HT := Lib.hid (fun w1 (hb : Below w.heap.size w w1) => toVal_c t w1 _ hcost (HU.out.kept hb) hfit)
  have HCS := Lib.hid (fun w1 v (_hb : Below w.heap.size w w1) h => namesOf_spec t w1 v hcost h hfit)
  have HCI := Lib.hid (fun w1 v (_hb : Below w.heap.size w w1) h => namesOf_impl t w1 v hcost h hfit)
  have HE := Lib.hid (eqVal_c t)
  have hszt : szL t.l ≤ 1048576 := by have h1 := sz_le_cost t; have h2 := Tree.sz_eq t; omega
  have hszr : szL (namesF t) ≤ 1048576 := by have h1 := names_cost t; have h2 := Tree.cost_eq t; have h3 := szL_le_costL (namesF t); omega
  clear hs hbig
  generalize namesF t = L at *
  have HES := Lib.hid (eqValS_c L)
  obtain ⟨k0, k1, k2, k3, k4⟩ := K0.out
  go_enter Try.func8, Try.ntmps8
  go_wp2_with fail
  refine (HZ.out _ t0 _ (by omega) (by omega)).mono ?_
  rintro _ w1 ⟨rfl, b1⟩
  have t1 := vnx t0 b1
  have KA1 := Lib.hid (box5_kept b1 K0.out); clear K0
  clear k0 k1 k2 k3 k4
  have s1 := b1.size
  (try simp only [World.size_alloc] at s1)
  obtain ⟨k0, k1, k2, k3, k4⟩ := KA1.out
  go_wp2_with fail
  refine (HT.out _ t1).mono ?_
  rintro _ w2 ⟨a2, n2, c2, rfl, o2, b2⟩
  have t2 := vnx t1 b2
  have S2 := Lib.hid o2.tsl; clear o2
  clear k0 k1 k2 k3 k4
  have KA2 := Lib.hid (box5_kept b2 KA1.out)
  clear KA1
  have s3 := b2.size
  (try simp only [World.size_alloc] at s3)
  go_wp2_with fail
  refine (HCS.out _ _ t2 S2.out).mono ?_
  rintro _ w3 ⟨aw, nw, cw, rfl, ow, b3⟩
  have f3 := b3
  have t3 := vnx t2 f3
  clear S2
  have KA4 := Lib.hid (box5_kept f3 KA2.out)
  clear KA2
  have s5 := b3.size
  (try simp only [World.size_alloc] at s5)
  have OW3 := Lib.hid ow; clear ow
  obtain ⟨k0, k1, k2, k3, k4⟩ := KA4.out
  go_wp2_with fail
  refine (HT.out _ t3).mono ?_
  rintro _ w4 ⟨ax, nx', cx, rfl, ox, b4⟩
  have e4 := vbelow1 w4 (.cells #[.int .i64 t.kind, .int .i64 t.n, .int .i64 t.x, .string t.s, .slice ax nx' cx] 29)
  have f4 := vnx b4 e4
  have t4 := vnx t3 f4
  clear k0 k1 k2 k3 k4
  have KA6 := Lib.hid (box5_kept f4 KA4.out)
  clear KA4
  have OW7 := Lib.hid (OW3.out.kept_bl (by (try simp only [World.size_alloc]); omega) f4)
  clear OW3
  have s8 := b4.size
  (try simp only [World.size_alloc] at s8)
  have OX4 := Lib.hid (ox.kept_bl (Nat.le_refl _) e4); clear ox
  have KX4 := Lib.hid (box5_new w4 (.int .i64 t.kind) (.int .i64 t.n) (.int .i64 t.x) (.string t.s) (.slice ax nx' cx) 29)
  obtain ⟨k0, k1, k2, k3, k4⟩ := KX4.out
  go_wp2_with fail
  refine (HCI.out _ _ t4 OX4.out.tsl).mono ?_
  rintro _ w5 ⟨ag, ng, cg, rfl, og, b5⟩
  clear k0 k1 k2 k3 k4
  have f5 := b5
  have t5 := vnx t4 f5
  have KA9 := Lib.hid (box5_kept f5 KA6.out)
  clear KA6
  have OW10 := Lib.hid (OW7.out.kept_bl (by (try simp only [World.size_alloc]); omega) f5)
  clear OW7
  have OX11 := Lib.hid (OX4.out.kept_bl (by (try simp only [World.size_alloc]); omega) f5)
  clear OX4
  have KX12 := Lib.hid (box5_kept f5 KX4.out)
  clear KX4
  have s13 := b5.size
  (try simp only [World.size_alloc] at s13)
  have OG5 := Lib.hid og; clear og
  go_wp2_with fail
  refine (HES.out _ _ _ OG5.out.tsl OW10.out.tsl).mono ?_
  rintro _ w6 ⟨rfl, b6⟩
  have t6 := vnx t5 b6
  have KA14 := Lib.hid (box5_kept b6 KA9.out)
  clear KA9
  have OW15 := Lib.hid (OW10.out.kept_bl (by (try simp only [World.size_alloc]); omega) b6)
  clear OW10
  have OX16 := Lib.hid (OX11.out.kept_bl (by (try simp only [World.size_alloc]); omega) b6)
  clear OX11
  have KX17 := Lib.hid (box5_kept b6 KX12.out)
  clear KX12
  have OG18 := Lib.hid (OG5.out.kept_bl (by (try simp only [World.size_alloc]); omega) b6)
  clear OG5
  have s19 := b6.size
  (try simp only [World.size_alloc] at s19)
  have HA6 : Hid (∀ w7, Below w6.heap.size w6 w7 → (w7.cell? ⟨w.heap.size, 0, none⟩ = some (.int .i64 t.kind) ∧ w7.cell? ⟨w.heap.size, 1, none⟩ = some (.int .i64 t.n) ∧ w7.cell? ⟨w.heap.size, 2, none⟩ = some (.int .i64 t.x) ∧ w7.cell? ⟨w.heap.size, 3, none⟩ = some (.string t.s) ∧ w7.cell? ⟨w.heap.size, 4, none⟩ = some ((.slice a n cap))) ∧ (w7.cell? ⟨w4.heap.size, 0, none⟩ = some (.int .i64 t.kind) ∧ w7.cell? ⟨w4.heap.size, 1, none⟩ = some (.int .i64 t.n) ∧ w7.cell? ⟨w4.heap.size, 2, none⟩ = some (.int .i64 t.x) ∧ w7.cell? ⟨w4.heap.size, 3, none⟩ = some (.string t.s) ∧ w7.cell? ⟨w4.heap.size, 4, none⟩ = some (.slice ax nx' cx))) := Lib.hid (fun w7 hb => ⟨box5_kept hb KA14.out, box5_kept hb KX17.out⟩)
  obtain ⟨k0, k1, k2, k3, k4⟩ := KA14.out
  obtain ⟨l0, l1, l2, l3, l4⟩ := KX17.out
  have x0 : Below w6.heap.size w6 w6.drew := (Below.refl _ _).drew
  go_wp2_with fail
  go_region_held3 (fun w7 => (w7.cell? ⟨w.heap.size, 0, none⟩ = some (.int .i64 t.kind) ∧ w7.cell? ⟨w.heap.size, 1, none⟩ = some (.int .i64 t.n) ∧ w7.cell? ⟨w.heap.size, 2, none⟩ = some (.int .i64 t.x) ∧ w7.cell? ⟨w.heap.size, 3, none⟩ = some (.string t.s) ∧ w7.cell? ⟨w.heap.size, 4, none⟩ = some ((.slice a n cap))) ∧ (w7.cell? ⟨w4.heap.size, 0, none⟩ = some (.int .i64 t.kind) ∧ w7.cell? ⟨w4.heap.size, 1, none⟩ = some (.int .i64 t.n) ∧ w7.cell? ⟨w4.heap.size, 2, none⟩ = some (.int .i64 t.x) ∧ w7.cell? ⟨w4.heap.size, 3, none⟩ = some (.string t.s) ∧ w7.cell? ⟨w4.heap.size, 4, none⟩ = some (.slice ax nx' cx))) (first | exact HA6.out _ x2 | exact HA6.out _ x1 | exact HA6.out _ x0)
    (first
     | (go_at_call 13; with_reducible refine (HT.out _ (vnx t6 x0)).mono ?_; rintro _ w7 ⟨a7, n7, c7, rfl, o7, b7⟩; have x1 := vnx x0 b7; have S7 := Lib.hid o7.tsl; have S47 := Lib.hid (OX16.out.kept_bl (by (try simp only [World.size_alloc]); omega) x1).tsl; clear o7)
     | (go_at_call 15; refine (HE.out _ _ _ S47.out S7.out).mono ?_; rintro _ w8 ⟨rfl, b8⟩; have x2 := vnx x1 b8))
  all_goals
    have t8 := vnx t6 x2
    clear k0 k1 k2 k3 k4
    clear l0 l1 l2 l3 l4
    clear HA6 S7 S47
    have KA20 := Lib.hid (box5_kept x2 KA14.out)
    clear KA14
    have OW21 := Lib.hid (OW15.out.kept_bl (by (try simp only [World.size_alloc]); omega) x2)
    clear OW15
    have OX22 := Lib.hid (OX16.out.kept_bl (by (try simp only [World.size_alloc]); omega) x2)
    clear OX16
    have KX23 := Lib.hid (box5_kept x2 KX17.out)
    clear KX17
    have OG24 := Lib.hid (OG18.out.kept_bl (by (try simp only [World.size_alloc]); omega) x2)
    clear OG18
    have s25 := x2.size
    (try simp only [World.size_alloc] at s25)
    obtain ⟨l0, l1, l2, l3, l4⟩ := KX23.out
    go_wp2_with fail
    refine (markVal_c t _ _ _ _ _ 1 (by omega) (by omega) (fun b hb => by have h2 := hb.2; (try simp only [World.size_alloc] at h2); omega) OX22.out).mono ?_
    rintro _ w9 ⟨rfl, o9, f9⟩
    clear o9
    clear l0 l1 l2 l3 l4
    have t9 := Fr.below t8 f9 (fun b hb => by have h1 := hb.1; (try simp only [World.size_alloc] at h1); omega) t8.size
    clear OX22
    have KA26 := Lib.hid (box5_fr KA20.out f9 (fun hb => by have h1 := hb.1; have h2 := hb.2; (try simp only [World.size_alloc] at h1); (try simp only [World.size_alloc] at h2); (try simp only [World.size_alloc]); omega))
    clear KA20
    have OW27 := Lib.hid (OW21.out.kept_fr (by (try simp only [World.size_alloc]); omega) f9 (fun b hb => by have h1 := hb.1; have h2 := hb.2; (try simp only [World.size_alloc] at h1); (try simp only [World.size_alloc] at h2); (try simp only [World.size_alloc]); omega))
    clear OW21
    have KX28 := Lib.hid (box5_fr KX23.out f9 (fun hb => by have h1 := hb.1; have h2 := hb.2; (try simp only [World.size_alloc] at h1); (try simp only [World.size_alloc] at h2); (try simp only [World.size_alloc]); omega))
    clear KX23
    have OG29 := Lib.hid (OG24.out.kept_fr (by (try simp only [World.size_alloc]); omega) f9 (fun b hb => by have h1 := hb.1; have h2 := hb.2; (try simp only [World.size_alloc] at h1); (try simp only [World.size_alloc] at h2); (try simp only [World.size_alloc]); omega))
    clear OG24
    have s30 := f9.size
    (try simp only [World.size_alloc] at s30)
    have hneg : decide (((1 + 4 * szL t.l : Nat) : Int) < 0) = false := decide_eq_false (by omega)
    go_wp2_with fail
    refine (HES.out _ _ _ OG29.out.tsl OW27.out.tsl).mono ?_
    rintro _ w10 ⟨rfl, b10⟩
    have t10 := vnx t9 b10
    have KA31 := Lib.hid (box5_kept b10 KA26.out)
    clear KA26
    have OW32 := Lib.hid (OW27.out.kept_bl (by (try simp only [World.size_alloc]); omega) b10)
    clear OW27
    have KX33 := Lib.hid (box5_kept b10 KX28.out)
    clear KX28
    have OG34 := Lib.hid (OG29.out.kept_bl (by (try simp only [World.size_alloc]); omega) b10)
    clear OG29
    have s35 := b10.size
    (try simp only [World.size_alloc] at s35)
    go_wp2_with fail
    refine (markValS_c L _ _ _ 1 (by omega) (by omega) (fun b hb => by have h2 := hb.2; (try simp only [World.size_alloc] at h2); omega) OG34.out).mono ?_
    rintro _ w11 ⟨rfl, o11, f11⟩
    have t11 := Fr.below t10 f11 (fun b hb => by have h1 := hb.1; (try simp only [World.size_alloc] at h1); omega) t10.size
    clear OG34
    have KA36 := Lib.hid (box5_fr KA31.out f11 (fun hb => by have h1 := hb.1; have h2 := hb.2; (try simp only [World.size_alloc] at h1); (try simp only [World.size_alloc] at h2); (try simp only [World.size_alloc]); omega))
    clear KA31
    have OW37 := Lib.hid (OW32.out.kept_fr (by (try simp only [World.size_alloc]); omega) f11 (fun b hb => by have h1 := hb.1; have h2 := hb.2; (try simp only [World.size_alloc] at h1); (try simp only [World.size_alloc] at h2); (try simp only [World.size_alloc]); omega))
    clear OW32
    have KX38 := Lib.hid (box5_fr KX33.out f11 (fun hb => by have h1 := hb.1; have h2 := hb.2; (try simp only [World.size_alloc] at h1); (try simp only [World.size_alloc] at h2); (try simp only [World.size_alloc]); omega))
    clear KX33
    have s39 := f11.size
    (try simp only [World.size_alloc] at s39)
    have OG11 := Lib.hid o11; clear o11
    go_wp2_with fail
    refine (heldValS_c L _ _ 1 (by omega) (by omega) OG11.out.tsl).mono ?_
    rintro _ w12 ⟨rfl, b12⟩
    have t12 := vnx t11 b12
    have KA40 := Lib.hid (box5_kept b12 KA36.out)
    clear KA36
    have OW41 := Lib.hid (OW37.out.kept_bl (by (try simp only [World.size_alloc]); omega) b12)
    clear OW37
    have KX42 := Lib.hid (box5_kept b12 KX38.out)
    clear KX38
    have OG43 := Lib.hid (OG11.out.kept_bl (by (try simp only [World.size_alloc]); omega) b12)
    clear OG11
    have s44 := b12.size
    (try simp only [World.size_alloc] at s44)
    have hnn : (((1 + 4 * szL L : Nat) : Int) != ((1 + 4 * szL L : Nat) : Int)) = false := by simp
    have hneg2 : decide (((1 + 4 * szL L : Nat) : Int) < 0) = false := decide_eq_false (by omega)
    obtain ⟨k0, k1, k2, k3, k4⟩ := KA40.out
    go_wp2_with fail
    refine (HT.out _ t12).mono ?_
    rintro _ w13 ⟨a13, n13, c13, rfl, o13, b13⟩
    have t13 := vnx t12 b13
    have S13 := Lib.hid o13.tsl; clear o13
    clear k0 k1 k2 k3 k4
    have KA45 := Lib.hid (box5_kept b13 KA40.out)
    clear KA40
    have OW46 := Lib.hid (OW41.out.kept_bl (by (try simp only [World.size_alloc]); omega) b13)
    clear OW41
    have KX47 := Lib.hid (box5_kept b13 KX42.out)
    clear KX42
    have OG48 := Lib.hid (OG43.out.kept_bl (by (try simp only [World.size_alloc]); omega) b13)
    clear OG43
    have s49 := b13.size
    (try simp only [World.size_alloc] at s49)
    go_wp2_with fail
    refine (HCI.out _ _ t13 S13.out).mono ?_
    rintro _ w14 ⟨ah, nh, ch, rfl, oh, b14⟩
    clear S13
    have f14 := b14
    have t14 := vnx t13 f14
    have KA50 := Lib.hid (box5_kept f14 KA45.out)
    clear KA45
    have OW51 := Lib.hid (OW46.out.kept_bl (by (try simp only [World.size_alloc]); omega) f14)
    clear OW46
    have KX52 := Lib.hid (box5_kept f14 KX47.out)
    clear KX47
    have OG53 := Lib.hid (OG48.out.kept_bl (by (try simp only [World.size_alloc]); omega) f14)
    clear OG48
    have s54 := b14.size
    (try simp only [World.size_alloc] at s54)
    have OH14 := Lib.hid oh.tsl; clear oh
    go_wp2_with fail
    refine (HES.out _ _ _ OH14.out OW51.out.tsl).mono ?_
    rintro _ w15 ⟨rfl, b15⟩
    have t15 := vnx t14 b15
    have KA55 := Lib.hid (box5_kept b15 KA50.out)
    clear KA50
    have OW56 := Lib.hid (OW51.out.kept_bl (by (try simp only [World.size_alloc]); omega) b15)
    clear OW51
    have KX57 := Lib.hid (box5_kept b15 KX52.out)
    clear KX52
    have OG58 := Lib.hid (OG53.out.kept_bl (by (try simp only [World.size_alloc]); omega) b15)
    clear OG53
    have OH59 := Lib.hid (OH14.out.kept b15)
    clear OH14
    have s60 := b15.size
    (try simp only [World.size_alloc] at s60)
    go_wp2_with fail
    refine (heldValS_c L _ _ 1 (by omega) (by omega) OG58.out.tsl).mono ?_
    rintro _ w16 ⟨rfl, b16⟩
    have t16 := vnx t15 b16
    have KA61 := Lib.hid (box5_kept b16 KA55.out)
    clear KA55
    have OW62 := Lib.hid (OW56.out.kept_bl (by (try simp only [World.size_alloc]); omega) b16)
    clear OW56
    have KX63 := Lib.hid (box5_kept b16 KX57.out)
    clear KX57
    have OG64 := Lib.hid (OG58.out.kept_bl (by (try simp only [World.size_alloc]); omega) b16)
    clear OG58
    have OH65 := Lib.hid (OH59.out.kept b16)
    clear OH59
    have s66 := b16.size
    (try simp only [World.size_alloc] at s66)
    go_wp2_with fail
    go_ret
    exact ⟨rfl, t16⟩
namespace fnExactNamesOf
theorem walk : LawWalk 8 Try.f8 := by
  intro H enc W base args ds p hval0 hA0
  have hval : ∀ (j : Nat) t v, Try.f8.params[j]? = some t → args[j]? = some v → Value.okWide Try.prog W .any base t v := hval0
  have hA : DataW.TrodAll enc Try.prog W 0 (fun _ => true) true Try.f8.params.toList args.toList ds p := hA0
  clear hval0 hA0
  rw [Try.params8] at hA hval
  obtain ⟨v0, vs0, d0, ds0, p0, q0, hargs, rfl, rfl, h0, r0⟩ := trodAll_cons hA
  obtain ⟨rfl, rfl, rfl⟩ := trodAll_nil r0
  obtain rfl : args = #[v0] := by cases args; simp_all
  obtain ⟨t0, u0, rfl, w0, x0⟩ := open_val Try.underlying24 (by kernel_rfl) (by kernel_rfl) Try.underlying3 Try.underlying3 Try.underlying3 Try.underlying9 Try.underlying22 (hval 0 24 v0 rfl rfl) h0
  exact namesOf_law t0 u0 W w0 x0
set_option maxRecDepth 100000 in
theorem lifted (os : Os) (started : os.Started) (H : Type) (enc : TypeId × Value → H) :
    ReturnsInHanded {} Try.checked os 8 .any (Rows.fnExactNamesOfSpec.pre6 enc Try.prog Try.f8 [] false) (Rows.fnExactNamesOfSpec.post enc Try.prog Try.f8 false true false false) :=
  law_lifted 8 Try.f8 Rows.fnExactNamesOfSpec os started H enc (by kernel_rfl) Try.func8 rfl rfl (by kernel_rfl)
    (fun ds h => by match ds, h with | [_], _ => rfl)
    (ChangeSpec.witness6 (enc := enc) (C := Try.checked) false ⟨#[], #[.agg #[.int .i64 0, .int .i64 0, .int .i64 0, .string ByteArray.empty, .slice none 0 0]], []⟩ 8 (by kernel_rfl) (by kernel_rfl) (by kernel_rfl) (by kernel_rfl)) walk
theorem proved : Rows.FnExactNamesOfSaid :=
  OpenClaim.holds_of_wide 8 Try.f8 rfl rfl rfl rfl rfl rfl rfl ⟨rfl, rfl, rfl, rfl, rfl⟩ rfl rfl rfl rfl rfl (by kernel_rfl) Try.func8 (by kernel_rfl)
    (of_decide_eq_true (by kernel_rfl)) (by unfold Func.isWrapper; first | (rw [if_pos (by decide +kernel)]; kernel_rfl) | (rw [if_neg (by decide +kernel)]; exact ⟨rfl, rfl⟩))
    (fun os started H enc _ => lifted os started H enc)
#print axioms proved
end fnExactNamesOf
end Go.Proofs.Ytjkjfdhbbblffaa
