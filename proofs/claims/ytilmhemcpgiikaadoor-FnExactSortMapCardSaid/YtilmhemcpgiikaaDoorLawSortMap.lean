/- FnExactSortMap: both make the same map, its pairs sorted, in memory of its own. -/
import Derived.Test.YtilmhemcpgiikaaDoorVSort
import Derived.Test.YtilmhemcpgiikaaDoorVSortI
import Derived.Test.YtilmhemcpgiikaaDoorVMarkV
import Derived.Test.YtilmhemcpgiikaaDoorVTo
import Derived.Test.YtilmhemcpgiikaaDoorVLeaf
import Derived.Deep.RegionHeld3
namespace Go.Proofs.YtilmhemcpgiikaaDoor
open Go.Deep Go.ChangeShapes Go.WideShapes Go.ChangeAt Go.RowKit
open Go.ChangeMaps (open_string shut_string)

set_option maxRecDepth 100000 in
set_option maxHeartbeats 16000000 in
theorem sortMap_law (t : Tree) (u : Value) (w : World) (hLL : LaidP w) (hu : TSl w u t.l) (hfit : Fits t.kind t.n t.x t.s) :
    Calls Tryd.prog 5 #[.agg #[.int .i64 t.kind, .int .i64 t.n, .int .i64 t.x, .string t.s, u]] w fun e w' => e = .returned (.bool true) ∧ Below w.heap.size w w' := by
  have LA := Lib.hid hLL; clear hLL
  obtain ⟨a, n, cap, rfl⟩ := hu.form
  have HU := Lib.hid hu; clear hu
  have t0 := vbelow1 w (.cells #[.int .i64 t.kind, .int .i64 t.n, .int .i64 t.x, .string t.s, (.slice a n cap)] 24)
  have K0 := Lib.hid (box5_new w (.int .i64 t.kind) (.int .i64 t.n) (.int .i64 t.x) (.string t.s) (.slice a n cap) 24)
  have HZ := Lib.hid (fun w1 (hb : Below w.heap.size w w1) left h0 h1 => szVal_c t w1 _ left h0 h1 (HU.out.kept hb) hfit)
  by_cases hbig : 1048576 < (t.cost : Int)
  · have hs : subC 1048576 t.cost = -1 := subC_no (by omega)
    have hs1 : subC 1048576 t.cost < 0 := by omega
    clear hs hbig
    obtain ⟨k0, k1, k2, k3, k4⟩ := K0.out
    go_enter Tryd.func5, Tryd.ntmps5
    go_wp2_with fail
    refine (HZ.out _ t0 _ (by omega) (by omega)).mono ?_
    rintro _ w1 ⟨rfl, b1⟩
    go_wp2_with fail
    go_ret
    exact ⟨rfl, vnx t0 b1⟩
  have hcost : t.cost ≤ 1048576 := by omega
  have hs : subC 1048576 t.cost = 1048576 - t.cost := subC_yes (by omega)
  have HZE := Lib.hid hs
  have hs3 : ¬ (1048576 - (t.cost : Int)) < 0 := by omega
  have HCS := Lib.hid (fun w1 v (hb : Below w.heap.size w w1) h => sortMap_spec t w1 v hcost h hfit)
  have HCI := Lib.hid (fun w1 v (hb : Below w.heap.size w w1) h => sortMap_impl t w1 v (LA.out.kept hb) hcost h hfit)
  have hszr : szL (sortT t).l ≤ 1048576 := by have h1 := sortT_cost t; have h2 := sz_le_cost (sortT t); have h3 := Tree.sz_eq (sortT t); omega
  clear hs hbig
  generalize sortT t = r at *
  have HT := Lib.hid (fun w1 (hb : Below w.heap.size w w1) => toVal_c t w1 _ hcost (HU.out.kept hb) hfit)
  have HE := Lib.hid (eqVal_c t)
  have HER := Lib.hid (eqVal_c r)
  have hszt : szL t.l ≤ 1048576 := by have h1 := sz_le_cost t; have h2 := Tree.sz_eq t; omega
  obtain ⟨k0, k1, k2, k3, k4⟩ := K0.out
  go_enter Tryd.func5, Tryd.ntmps5
  go_wp2_with fail
  refine (HZ.out _ t0 _ (by omega) (by omega)).mono ?_
  rintro _ w1 ⟨rfl, b1⟩
  have t1 := vnx t0 b1
  have KA1 := Lib.hid (box5_kept b1 K0.out); clear K0 k0 k1 k2 k3 k4
  rw [HZE.out]
  have s1 := b1.size
  (try simp only [World.size_alloc] at s1)
  obtain ⟨k0, k1, k2, k3, k4⟩ := KA1.out
  go_wp2_with fail
  refine (HT.out _ t1).mono ?_
  rintro _ w2 ⟨a2, n2, c2, rfl, o2, b2⟩
  clear k0 k1 k2 k3 k4
  have t2 := vnx t1 b2
  have KA2 := Lib.hid (box5_kept b2 KA1.out)
  clear KA1
  have s3 := b2.size
  (try simp only [World.size_alloc] at s3)
  have TS2 := Lib.hid o2.tsl; clear o2
  go_wp2_with fail
  refine (HCS.out _ _ t2 TS2.out).mono ?_
  rintro _ w3 ⟨a3, n3, c3, rfl, o3, b3⟩
  have e3 := vbelow1 w3 (.cells #[.int .i64 r.kind, .int .i64 r.n, .int .i64 r.x, .string r.s, .slice a3 n3 c3] 29)
  have f3 := vnx b3 e3
  have t3 := vnx t2 f3
  have KA4 := Lib.hid (box5_kept f3 KA2.out)
  clear KA2
  have s5 := b3.size
  (try simp only [World.size_alloc] at s5)
  have OW3 := Lib.hid (o3.kept_bl (Nat.le_refl _) e3); clear o3
  have KW3 := Lib.hid (box5_new w3 (.int .i64 r.kind) (.int .i64 r.n) (.int .i64 r.x) (.string r.s) (.slice a3 n3 c3) 29)
  clear TS2
  obtain ⟨k0, k1, k2, k3, k4⟩ := KA4.out
  go_wp2_with fail
  refine (HT.out _ t3).mono ?_
  rintro _ w4 ⟨ax, nx', cx, rfl, ox, b4⟩
  have e4 := vbelow1 w4 (.cells #[.int .i64 t.kind, .int .i64 t.n, .int .i64 t.x, .string t.s, .slice ax nx' cx] 29)
  have f4 := vnx b4 e4
  have t4 := vnx t3 f4
  clear k0 k1 k2 k3 k4
  have KA6 := Lib.hid (box5_kept f4 KA4.out)
  clear KA4
  have OW7 := Lib.hid (OW3.out.kept_bl (by (try simp only [World.size_alloc]); omega) f4)
  clear OW3
  have KW8 := Lib.hid (box5_kept f4 KW3.out)
  clear KW3
  have s9 := b4.size
  (try simp only [World.size_alloc] at s9)
  have OX4 := Lib.hid (ox.kept_bl (Nat.le_refl _) e4); clear ox
  have KX4 := Lib.hid (box5_new w4 (.int .i64 t.kind) (.int .i64 t.n) (.int .i64 t.x) (.string t.s) (.slice ax nx' cx) 29)
  obtain ⟨k0, k1, k2, k3, k4⟩ := KX4.out
  go_wp2_with fail
  refine (HCI.out _ _ t4 OX4.out.tsl).mono ?_
  rintro _ w5 ⟨a5, n5, c5, rfl, o5, b5⟩
  have e5 := vbelow1 w5 (.cells #[.int .i64 r.kind, .int .i64 r.n, .int .i64 r.x, .string r.s, .slice a5 n5 c5] 29)
  have f5 := vnx b5 e5
  have t5 := vnx t4 f5
  have KA10 := Lib.hid (box5_kept f5 KA6.out)
  clear KA6
  have OW11 := Lib.hid (OW7.out.kept_bl (by (try simp only [World.size_alloc]); omega) f5)
  clear OW7
  have KW12 := Lib.hid (box5_kept f5 KW8.out)
  clear KW8
  have OX13 := Lib.hid (OX4.out.kept_bl (by (try simp only [World.size_alloc]); omega) f5)
  clear OX4
  have KX14 := Lib.hid (box5_kept f5 KX4.out)
  clear KX4
  have s15 := b5.size
  (try simp only [World.size_alloc] at s15)
  have OG5 := Lib.hid (o5.kept_bl (Nat.le_refl _) e5); clear o5
  have KG5 := Lib.hid (box5_new w5 (.int .i64 r.kind) (.int .i64 r.n) (.int .i64 r.x) (.string r.s) (.slice a5 n5 c5) 29)
  clear k0 k1 k2 k3 k4
  obtain ⟨k0, k1, k2, k3, k4⟩ := KG5.out
  obtain ⟨m0, m1, m2, m3, m4⟩ := KW12.out
  go_wp2_with fail
  refine (HER.out _ _ _ OG5.out.tsl OW11.out.tsl).mono ?_
  rintro _ w7 ⟨rfl, b7⟩
  clear k0 k1 k2 k3 k4
  clear m0 m1 m2 m3 m4
  have t7 := vnx t5 b7
  have KA16 := Lib.hid (box5_kept b7 KA10.out)
  clear KA10
  have OW17 := Lib.hid (OW11.out.kept_bl (by (try simp only [World.size_alloc]); omega) b7)
  clear OW11
  have KW18 := Lib.hid (box5_kept b7 KW12.out)
  clear KW12
  have OX19 := Lib.hid (OX13.out.kept_bl (by (try simp only [World.size_alloc]); omega) b7)
  clear OX13
  have KX20 := Lib.hid (box5_kept b7 KX14.out)
  clear KX14
  have OG21 := Lib.hid (OG5.out.kept_bl (by (try simp only [World.size_alloc]); omega) b7)
  clear OG5
  have KG22 := Lib.hid (box5_kept b7 KG5.out)
  clear KG5
  have s23 := b7.size
  (try simp only [World.size_alloc] at s23)
  have HA1 : Hid (∀ w8, Below w7.heap.size w7 w8 → (w8.cell? ⟨w.heap.size, 0, none⟩ = some (.int .i64 t.kind) ∧ w8.cell? ⟨w.heap.size, 1, none⟩ = some (.int .i64 t.n) ∧ w8.cell? ⟨w.heap.size, 2, none⟩ = some (.int .i64 t.x) ∧ w8.cell? ⟨w.heap.size, 3, none⟩ = some (.string t.s) ∧ w8.cell? ⟨w.heap.size, 4, none⟩ = some ((.slice a n cap))) ∧ (w8.cell? ⟨w4.heap.size, 0, none⟩ = some (.int .i64 t.kind) ∧ w8.cell? ⟨w4.heap.size, 1, none⟩ = some (.int .i64 t.n) ∧ w8.cell? ⟨w4.heap.size, 2, none⟩ = some (.int .i64 t.x) ∧ w8.cell? ⟨w4.heap.size, 3, none⟩ = some (.string t.s) ∧ w8.cell? ⟨w4.heap.size, 4, none⟩ = some (.slice ax nx' cx))) := Lib.hid (fun w8 hb => ⟨box5_kept hb KA16.out, box5_kept hb KX20.out⟩)
  obtain ⟨k0, k1, k2, k3, k4⟩ := KA16.out
  obtain ⟨l0, l1, l2, l3, l4⟩ := KX20.out
  have x0 : Below w7.heap.size w7 w7.drew := (Below.refl _ _).drew
  go_wp2_with fail
  go_region_held3 (fun w8 => (w8.cell? ⟨w.heap.size, 0, none⟩ = some (.int .i64 t.kind) ∧ w8.cell? ⟨w.heap.size, 1, none⟩ = some (.int .i64 t.n) ∧ w8.cell? ⟨w.heap.size, 2, none⟩ = some (.int .i64 t.x) ∧ w8.cell? ⟨w.heap.size, 3, none⟩ = some (.string t.s) ∧ w8.cell? ⟨w.heap.size, 4, none⟩ = some ((.slice a n cap))) ∧ (w8.cell? ⟨w4.heap.size, 0, none⟩ = some (.int .i64 t.kind) ∧ w8.cell? ⟨w4.heap.size, 1, none⟩ = some (.int .i64 t.n) ∧ w8.cell? ⟨w4.heap.size, 2, none⟩ = some (.int .i64 t.x) ∧ w8.cell? ⟨w4.heap.size, 3, none⟩ = some (.string t.s) ∧ w8.cell? ⟨w4.heap.size, 4, none⟩ = some (.slice ax nx' cx))) (first | exact HA1.out _ x2 | exact HA1.out _ x1 | exact HA1.out _ x0)
    (first
     | (go_at_call 15; (with_reducible refine (HT.out _ (vnx t7 x0)).mono ?_); rintro _ w8 ⟨a8, n8, c8, rfl, o8, b8⟩; have x1 := vnx x0 b8; have S8 := Lib.hid o8.tsl; have S48 := Lib.hid (OX19.out.kept_bl (by (try simp only [World.size_alloc]); omega) x1).tsl; clear o8)
     | (go_at_call 17; refine (HE.out _ _ _ S48.out S8.out).mono ?_; rintro _ w9_1 ⟨rfl, b9⟩; have x2 := vnx x1 b9))
  all_goals
    have T1 := vnx t7 x2
    clear k0 k1 k2 k3 k4
    clear l0 l1 l2 l3 l4
    clear HA1 S8 S48
    have KA24 := Lib.hid (box5_kept x2 KA16.out)
    clear KA16
    have OW25 := Lib.hid (OW17.out.kept_bl (by (try simp only [World.size_alloc]); omega) x2)
    clear OW17
    have KW26 := Lib.hid (box5_kept x2 KW18.out)
    clear KW18
    have OX27 := Lib.hid (OX19.out.kept_bl (by (try simp only [World.size_alloc]); omega) x2)
    clear OX19
    have KX28 := Lib.hid (box5_kept x2 KX20.out)
    clear KX20
    have OG29 := Lib.hid (OG21.out.kept_bl (by (try simp only [World.size_alloc]); omega) x2)
    clear OG21
    have KG30 := Lib.hid (box5_kept x2 KG22.out)
    clear KG22
    have s31 := x2.size
    (try simp only [World.size_alloc] at s31)
    clear x0 x1 x2 b8 b9
    obtain ⟨l0, l1, l2, l3, l4⟩ := KX28.out
    go_wp2_with fail
    refine (markVal_c t _ _ _ _ _ 1 (by omega) (by omega) (fun b hb => by have h2 := hb.2; (try simp only [World.size_alloc] at h2); (try simp only [World.size_alloc]); omega) OX27.out).mono ?_
    rintro _ w10 ⟨rfl, ow10, f10⟩
    clear l0 l1 l2 l3 l4
    have t10 := Fr.below T1 f10 (fun b hb => by have h1 := hb.1; (try simp only [World.size_alloc] at h1); omega) T1.size
    clear OX27
    have KA32 := Lib.hid (box5_fr KA24.out f10 (fun hb => by have h1 := hb.1; have h2 := hb.2; (try simp only [World.size_alloc] at h1); (try simp only [World.size_alloc] at h2); omega))
    clear KA24
    have OW33 := Lib.hid (OW25.out.kept_fr (by (try simp only [World.size_alloc]); omega) f10 (fun b hb => by have h1 := hb.1; have h2 := hb.2; (try simp only [World.size_alloc] at h1); (try simp only [World.size_alloc] at h2); (try simp only [World.size_alloc]); omega))
    clear OW25
    have KW34 := Lib.hid (box5_fr KW26.out f10 (fun hb => by have h1 := hb.1; have h2 := hb.2; (try simp only [World.size_alloc] at h1); (try simp only [World.size_alloc] at h2); omega))
    clear KW26
    have KX35 := Lib.hid (box5_fr KX28.out f10 (fun hb => by have h1 := hb.1; have h2 := hb.2; (try simp only [World.size_alloc] at h1); (try simp only [World.size_alloc] at h2); omega))
    clear KX28
    have OG36 := Lib.hid (OG29.out.kept_fr (by (try simp only [World.size_alloc]); omega) f10 (fun b hb => by have h1 := hb.1; have h2 := hb.2; (try simp only [World.size_alloc] at h1); (try simp only [World.size_alloc] at h2); (try simp only [World.size_alloc]); omega))
    clear OG29
    have KG37 := Lib.hid (box5_fr KG30.out f10 (fun hb => by have h1 := hb.1; have h2 := hb.2; (try simp only [World.size_alloc] at h1); (try simp only [World.size_alloc] at h2); omega))
    clear KG30
    have s38 := f10.size
    (try simp only [World.size_alloc] at s38)
    clear ow10
    have hneg : decide (((1 + 4 * szL t.l : Nat) : Int) < 0) = false := decide_eq_false (by omega)
    obtain ⟨k0, k1, k2, k3, k4⟩ := KG37.out
    obtain ⟨m0, m1, m2, m3, m4⟩ := KW34.out
    go_wp2_with fail
    refine (HER.out _ _ _ OG36.out.tsl OW33.out.tsl).mono ?_
    rintro _ w12 ⟨rfl, b12⟩
    clear k0 k1 k2 k3 k4
    clear m0 m1 m2 m3 m4
    have t12 := vnx t10 b12
    have KA39 := Lib.hid (box5_kept b12 KA32.out)
    clear KA32
    have OW40 := Lib.hid (OW33.out.kept_bl (by (try simp only [World.size_alloc]); omega) b12)
    clear OW33
    have KW41 := Lib.hid (box5_kept b12 KW34.out)
    clear KW34
    have KX42 := Lib.hid (box5_kept b12 KX35.out)
    clear KX35
    have OG43 := Lib.hid (OG36.out.kept_bl (by (try simp only [World.size_alloc]); omega) b12)
    clear OG36
    have KG44 := Lib.hid (box5_kept b12 KG37.out)
    clear KG37
    have s45 := b12.size
    (try simp only [World.size_alloc] at s45)
    obtain ⟨l0, l1, l2, l3, l4⟩ := KG44.out
    go_wp2_with fail
    refine (markVal_c r _ _ _ _ _ 1 (by omega) (by omega) (fun b hb => by have h2 := hb.2; (try simp only [World.size_alloc] at h2); (try simp only [World.size_alloc]); omega) OG43.out).mono ?_
    rintro _ w13 ⟨rfl, ow13, f13⟩
    clear l0 l1 l2 l3 l4
    have t13 := Fr.below t12 f13 (fun b hb => by have h1 := hb.1; (try simp only [World.size_alloc] at h1); omega) t12.size
    clear OG43
    have KA46 := Lib.hid (box5_fr KA39.out f13 (fun hb => by have h1 := hb.1; have h2 := hb.2; (try simp only [World.size_alloc] at h1); (try simp only [World.size_alloc] at h2); omega))
    clear KA39
    have OW47 := Lib.hid (OW40.out.kept_fr (by (try simp only [World.size_alloc]); omega) f13 (fun b hb => by have h1 := hb.1; have h2 := hb.2; (try simp only [World.size_alloc] at h1); (try simp only [World.size_alloc] at h2); (try simp only [World.size_alloc]); omega))
    clear OW40
    have KW48 := Lib.hid (box5_fr KW41.out f13 (fun hb => by have h1 := hb.1; have h2 := hb.2; (try simp only [World.size_alloc] at h1); (try simp only [World.size_alloc] at h2); omega))
    clear KW41
    have KX49 := Lib.hid (box5_fr KX42.out f13 (fun hb => by have h1 := hb.1; have h2 := hb.2; (try simp only [World.size_alloc] at h1); (try simp only [World.size_alloc] at h2); omega))
    clear KX42
    have KG50 := Lib.hid (box5_fr KG44.out f13 (fun hb => by have h1 := hb.1; have h2 := hb.2; (try simp only [World.size_alloc] at h1); (try simp only [World.size_alloc] at h2); omega))
    clear KG44
    have s51 := f13.size
    (try simp only [World.size_alloc] at s51)
    have OMw13 := Lib.hid ow13; clear ow13
    obtain ⟨l0, l1, l2, l3, l4⟩ := KG50.out
    go_wp2_with fail
    refine (heldVal_c r _ _ _ _ 1 (by omega) (by omega) OMw13.out.tsl).mono ?_
    rintro _ w14 ⟨rfl, b14⟩
    have t14 := vnx t13 b14
    clear l0 l1 l2 l3 l4
    have KA52 := Lib.hid (box5_kept b14 KA46.out)
    clear KA46
    have OW53 := Lib.hid (OW47.out.kept_bl (by (try simp only [World.size_alloc]); omega) b14)
    clear OW47
    have KW54 := Lib.hid (box5_kept b14 KW48.out)
    clear KW48
    have KX55 := Lib.hid (box5_kept b14 KX49.out)
    clear KX49
    have KG56 := Lib.hid (box5_kept b14 KG50.out)
    clear KG50
    have OG57 := Lib.hid (OMw13.out.kept_bl (by (try simp only [World.size_alloc]); omega) b14)
    clear OMw13
    have s58 := b14.size
    (try simp only [World.size_alloc] at s58)
    have hnn : (((1 + 4 * szL r.l : Nat) : Int) != ((1 + 4 * szL r.l : Nat) : Int)) = false := by simp
    have hneg2 : decide (((1 + 4 * szL r.l : Nat) : Int) < 0) = false := decide_eq_false (by omega)
    obtain ⟨k0, k1, k2, k3, k4⟩ := KA52.out
    go_wp2_with fail
    refine (HT.out _ t14).mono ?_
    rintro _ w15 ⟨a15, n15, c15, rfl, o15, b15⟩
    clear k0 k1 k2 k3 k4
    have t15 := vnx t14 b15
    have KA59 := Lib.hid (box5_kept b15 KA52.out)
    clear KA52
    have OW60 := Lib.hid (OW53.out.kept_bl (by (try simp only [World.size_alloc]); omega) b15)
    clear OW53
    have KW61 := Lib.hid (box5_kept b15 KW54.out)
    clear KW54
    have KX62 := Lib.hid (box5_kept b15 KX55.out)
    clear KX55
    have KG63 := Lib.hid (box5_kept b15 KG56.out)
    clear KG56
    have OG64 := Lib.hid (OG57.out.kept_bl (by (try simp only [World.size_alloc]); omega) b15)
    clear OG57
    have s65 := b15.size
    (try simp only [World.size_alloc] at s65)
    have TS15 := Lib.hid o15.tsl; clear o15
    go_wp2_with fail
    refine (HCI.out _ _ t15 TS15.out).mono ?_
    rintro _ w16 ⟨a16, n16, c16, rfl, o16, b16⟩
    have e16 := vbelow1 w16 (.cells #[.int .i64 r.kind, .int .i64 r.n, .int .i64 r.x, .string r.s, .slice a16 n16 c16] 29)
    have f16 := vnx b16 e16
    have t16 := vnx t15 f16
    have KA66 := Lib.hid (box5_kept f16 KA59.out)
    clear KA59
    have OW67 := Lib.hid (OW60.out.kept_bl (by (try simp only [World.size_alloc]); omega) f16)
    clear OW60
    have KW68 := Lib.hid (box5_kept f16 KW61.out)
    clear KW61
    have KX69 := Lib.hid (box5_kept f16 KX62.out)
    clear KX62
    have KG70 := Lib.hid (box5_kept f16 KG63.out)
    clear KG63
    have OG71 := Lib.hid (OG64.out.kept_bl (by (try simp only [World.size_alloc]); omega) f16)
    clear OG64
    have s72 := b16.size
    (try simp only [World.size_alloc] at s72)
    have OH16 := Lib.hid (o16.kept_bl (Nat.le_refl _) e16); clear o16
    have KH16 := Lib.hid (box5_new w16 (.int .i64 r.kind) (.int .i64 r.n) (.int .i64 r.x) (.string r.s) (.slice a16 n16 c16) 29)
    clear TS15
    obtain ⟨k0, k1, k2, k3, k4⟩ := KH16.out
    obtain ⟨m0, m1, m2, m3, m4⟩ := KW68.out
    go_wp2_with fail
    refine (HER.out _ _ _ OH16.out.tsl OW67.out.tsl).mono ?_
    rintro _ w17 ⟨rfl, b17⟩
    clear k0 k1 k2 k3 k4
    clear m0 m1 m2 m3 m4
    have t17 := vnx t16 b17
    have KA73 := Lib.hid (box5_kept b17 KA66.out)
    clear KA66
    have OW74 := Lib.hid (OW67.out.kept_bl (by (try simp only [World.size_alloc]); omega) b17)
    clear OW67
    have KW75 := Lib.hid (box5_kept b17 KW68.out)
    clear KW68
    have KX76 := Lib.hid (box5_kept b17 KX69.out)
    clear KX69
    have KG77 := Lib.hid (box5_kept b17 KG70.out)
    clear KG70
    have OG78 := Lib.hid (OG71.out.kept_bl (by (try simp only [World.size_alloc]); omega) b17)
    clear OG71
    have OH79 := Lib.hid (OH16.out.kept_bl (by (try simp only [World.size_alloc]); omega) b17)
    clear OH16
    have KH80 := Lib.hid (box5_kept b17 KH16.out)
    clear KH16
    have s81 := b17.size
    (try simp only [World.size_alloc] at s81)
    obtain ⟨l0, l1, l2, l3, l4⟩ := KG77.out
    go_wp2_with fail
    refine (heldVal_c r _ _ _ _ 1 (by omega) (by omega) OG78.out.tsl).mono ?_
    rintro _ w18 ⟨rfl, b18⟩
    have t18 := vnx t17 b18
    clear l0 l1 l2 l3 l4
    have KA82 := Lib.hid (box5_kept b18 KA73.out)
    clear KA73
    have OW83 := Lib.hid (OW74.out.kept_bl (by (try simp only [World.size_alloc]); omega) b18)
    clear OW74
    have KW84 := Lib.hid (box5_kept b18 KW75.out)
    clear KW75
    have KX85 := Lib.hid (box5_kept b18 KX76.out)
    clear KX76
    have KG86 := Lib.hid (box5_kept b18 KG77.out)
    clear KG77
    have OG87 := Lib.hid (OG78.out.kept_bl (by (try simp only [World.size_alloc]); omega) b18)
    clear OG78
    have OH88 := Lib.hid (OH79.out.kept_bl (by (try simp only [World.size_alloc]); omega) b18)
    clear OH79
    have KH89 := Lib.hid (box5_kept b18 KH80.out)
    clear KH80
    have s90 := b18.size
    (try simp only [World.size_alloc] at s90)
    go_wp2_with fail
    go_ret
    exact ⟨rfl, t18⟩
namespace fnExactSortMap
set_option maxRecDepth 100000 in
theorem walk : LawWalkX (fun W => LaidP W) 5 Tryd.f5 := by
  intro H enc W base args ds p hval0 hA0 hL
  have hval : ∀ (j : Nat) t v, Tryd.f5.params[j]? = some t → args[j]? = some v → Value.okWide Tryd.prog W .any base t v := hval0
  have hA : DataW.TrodAll enc Tryd.prog W 0 (fun _ => true) true Tryd.f5.params.toList args.toList ds p := hA0
  clear hval0 hA0
  rw [Tryd.params5] at hA hval
  obtain ⟨v0, vs0, d0, ds0, p0, q0, hargs, rfl, rfl, h0, r0⟩ := trodAll_cons hA
  obtain ⟨rfl, rfl, rfl⟩ := trodAll_nil r0
  obtain rfl : args = #[v0] := by cases args; simp_all
  obtain ⟨t0, u0, rfl, w0, x0⟩ := open_val Tryd.underlying24 (by kernel_rfl) (by kernel_rfl) Tryd.underlying3 Tryd.underlying3 Tryd.underlying3 Tryd.underlying9 Tryd.underlying22 (hval 0 24 v0 rfl rfl) h0
  exact sortMap_law t0 u0 W hL w0 x0
theorem laid_met (os : Os) : laidMet Tryd.prog Rows.fnExactSortMapRow.laid ((laidWorld os).forCall (fun _ _ => 0) ⟨#[], #[.agg #[.int .i64 0, .int .i64 0, .int .i64 0, .string ByteArray.empty, .slice none 0 0]], []⟩).memory :=
  laidMet_of_run' 8 (by kernel_rfl) (by kernel_rfl)
theorem reads (os : Os) {H : Type} (enc : TypeId × Value → H) : ∃ places, DataW.whole enc Tryd.prog ((laidWorld os).forCall (fun _ _ => 0) ⟨#[], #[.agg #[.int .i64 0, .int .i64 0, .int .i64 0, .string ByteArray.empty, .slice none 0 0]], []⟩).memory Tryd.f5.params.toList Rows.fnExactSortMapSpec.vars false (#[Value.agg #[.int .i64 0, .int .i64 0, .int .i64 0, .string ByteArray.empty, .slice none 0 0]] : Array Value).toList 8 = some ([.agg [.lit (.int .i64 0), .lit (.int .i64 0), .lit (.int .i64 0), .lit (.string []), .nil]], [], places) :=
  ⟨[], by kernel_rfl⟩
set_option maxRecDepth 100000 in
theorem lifted (os : Os) (started : os.Started) (H : Type) (enc : TypeId × Value → H) (F : Stop.Interp) :
    ReturnsInHanded {} Tryd.checked os 5 .any ((OpenSpec.ofChange Rows.fnExactSortMapSpec).preRow enc Tryd.prog Tryd.f5 Rows.fnExactSortMapRow.domain false Rows.fnExactSortMapRow.laid) (((OpenSpec.ofChange Rows.fnExactSortMapSpec).at F).post enc Tryd.prog Tryd.f5 false true false false) := by
  obtain ⟨places, hx⟩ := reads os enc
  refine returnsInHanded_of_row (C := Tryd.checked) (s := OpenSpec.ofChange Rows.fnExactSortMapSpec) own started (by kernel_rfl) Tryd.func5
    (witness_row_at (enc := enc) (C := Tryd.checked) false (laidWorld os) #[.agg #[.int .i64 0, .int .i64 0, .int .i64 0, .string ByteArray.empty, .slice none 0 0]] rfl (by kernel_rfl) (by kernel_rfl) (by kernel_rfl)
      (OpenSpec.preRow_of_cond 8 hx (by kernel_rfl) (fun k hk => by cases hk) (by kernel_rfl) (laid_met os))) ?_
  intro W base args ds gs before hval hW _ _ _ hL _ _
  exact law_contractX (fun W => LaidP W) 5 Tryd.f5 Rows.fnExactSortMapSpec H enc rfl rfl (by kernel_rfl) (fun ds h => by match ds, h with | [_], _ => rfl) walk W base args ds gs before hval hW (laidP_of hL (by simp [Rows.fnExactSortMapRow]))
theorem said : Rows.FnExactSortMapSaid :=
  OpenClaim.holds_of_cond 5 Tryd.f5 rfl rfl rfl rfl rfl rfl rfl ⟨rfl, rfl, rfl, rfl, rfl⟩ rfl rfl rfl rfl rfl (by kernel_rfl) Tryd.func5 (by kernel_rfl)
    (of_decide_eq_true (by kernel_rfl)) (by unfold Func.isWrapper; first | (rw [if_pos (by decide +kernel)]; kernel_rfl) | (rw [if_neg (by decide +kernel)]; exact ⟨rfl, rfl⟩))
    (fun os started H enc _ F => by rw [OpenClaim.pre_eq_preRow]; exact lifted os started H enc F)
theorem plain (f : FuncId) (fn : Func) (hf : Tryd.pinned.checked.prog.funcNamed "loop.example/g00502/laws.FnExactSortMap" = some f) (hfn : Tryd.pinned.checked.prog.funcs[f]? = some fn) :
    true = Tryd.pinned.checked.prog.looks [] ∧ ∀ (j : Nat) t, fn.params[j]? = some t → Tryd.pinned.checked.prog.wantsStandIn t = false := by
  obtain rfl : f = 5 := Option.some.inj ((show Tryd.prog.funcNamed "loop.example/g00502/laws.FnExactSortMap" = some 5 by kernel_rfl).symm.trans hf) |>.symm
  obtain rfl : fn = Tryd.f5 := (Option.some.inj (Tryd.func5.symm.trans hfn)).symm
  refine ⟨by kernel_rfl, fun j t ht => ?_⟩
  have hall : Tryd.f5.params.toList.all (fun t => !Tryd.pinned.checked.prog.wantsStandIn t) = true := by kernel_rfl
  have hm := List.all_eq_true.1 hall t (by simpa using Array.mem_of_getElem? ht)
  simpa using hm
theorem proved : Rows.FnExactSortMapCardSaid :=
  Claim7.holds_tied_plain_at .later [] _ _ _ _ said (fun _ h => by cases h) (by kernel_rfl) (fun _ h => by cases h) fnExactSortMap_row_tie rfl ⟨rfl, rfl⟩ (by kernel_rfl) rfl plain (by kernel_rfl)
#print axioms proved
end fnExactSortMap
end Go.Proofs.YtilmhemcpgiikaaDoor
