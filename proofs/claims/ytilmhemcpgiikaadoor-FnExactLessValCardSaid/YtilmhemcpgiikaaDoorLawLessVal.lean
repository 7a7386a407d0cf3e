/- FnExactLessVal: both say the same of the order of every two trees. -/
import Derived.Test.YtilmhemcpgiikaaDoorVLess
import Derived.Test.YtilmhemcpgiikaaDoorVTo
import Derived.Test.YtilmhemcpgiikaaDoorVLeaf
import Derived.Deep.RegionHeld3
namespace Go.Proofs.YtilmhemcpgiikaaDoor
open Go.Deep Go.ChangeShapes Go.WideShapes Go.ChangeAt Go.RowKit
open Go.ChangeMaps (open_string shut_string)

set_option maxRecDepth 100000 in
set_option maxHeartbeats 8000000 in
theorem lessVal_law (t : Tree) (u : Value) (t' : Tree) (u' : Value) (w : World) (hL : LaidP w) (hu : TSl w u t.l) (hfit : Fits t.kind t.n t.x t.s) (hu' : TSl w u' t'.l) (hfit' : Fits t'.kind t'.n t'.x t'.s) :
    Calls Tryd.prog 3 #[.agg #[.int .i64 t.kind, .int .i64 t.n, .int .i64 t.x, .string t.s, u], .agg #[.int .i64 t'.kind, .int .i64 t'.n, .int .i64 t'.x, .string t'.s, u']] w fun e w' => e = .returned (.bool true) ∧ Below w.heap.size w w' := by
  obtain ⟨a, n, cap, rfl⟩ := hu.form
  obtain ⟨a', n', cap', rfl⟩ := hu'.form
  have HU := Lib.hid hu; have HU' := Lib.hid hu'; have LA := Lib.hid hL; clear hu hu' hL
  have t0 := vbelow2 w (.cells #[.int .i64 t.kind, .int .i64 t.n, .int .i64 t.x, .string t.s, (.slice a n cap)] 24) (.cells #[.int .i64 t'.kind, .int .i64 t'.n, .int .i64 t'.x, .string t'.s, (.slice a' n' cap')] 24)
  have K0 : Hid (Box5 ((w.alloc (.cells #[.int .i64 t.kind, .int .i64 t.n, .int .i64 t.x, .string t.s, (.slice a n cap)] 24)).alloc (.cells #[.int .i64 t'.kind, .int .i64 t'.n, .int .i64 t'.x, .string t'.s, (.slice a' n' cap')] 24)) w.heap.size (.int .i64 t.kind) (.int .i64 t.n) (.int .i64 t.x) (.string t.s) (.slice a n cap) ∧ Box5 ((w.alloc (.cells #[.int .i64 t.kind, .int .i64 t.n, .int .i64 t.x, .string t.s, (.slice a n cap)] 24)).alloc (.cells #[.int .i64 t'.kind, .int .i64 t'.n, .int .i64 t'.x, .string t'.s, (.slice a' n' cap')] 24)) (w.heap.size + 1) (.int .i64 t'.kind) (.int .i64 t'.n) (.int .i64 t'.x) (.string t'.s) (.slice a' n' cap')) :=
    Lib.hid ⟨box5_kept (vbelow1 _ _) (box5_new w _ _ _ _ _ _), by have := box5_new (w.alloc (.cells #[.int .i64 t.kind, .int .i64 t.n, .int .i64 t.x, .string t.s, (.slice a n cap)] 24)) (.int .i64 t'.kind) (.int .i64 t'.n) (.int .i64 t'.x) (.string t'.s) (.slice a' n' cap') 24; simpa only [World.size_alloc] using this⟩
  have HZ := Lib.hid (fun w1 (hb : Below w.heap.size w w1) left h0 h1 => szVal_c t w1 _ left h0 h1 (HU.out.kept hb) hfit)
  have HZ' := Lib.hid (fun w1 (hb : Below w.heap.size w w1) left h0 h1 => szVal_c t' w1 _ left h0 h1 (HU'.out.kept hb) hfit')
  by_cases hbig : 1048576 < (t.cost : Int)
  · have hs : subC 1048576 t.cost = -1 := subC_no (by omega)
    have hs1 : subC 1048576 t.cost < 0 := by omega
    clear hs hbig
    obtain ⟨⟨k0, k1, k2, k3, k4⟩, -⟩ := K0.out
    go_enter Tryd.func3, Tryd.ntmps3
    go_wp2_with fail
    refine (HZ.out _ t0 _ (by omega) (by omega)).mono ?_
    rintro _ w1 ⟨rfl, b1⟩
    go_wp2_with fail
    go_ret
    exact ⟨rfl, vnx t0 b1⟩
  have hcost : t.cost ≤ 1048576 := by omega
  have hs : subC 1048576 t.cost = 1048576 - t.cost := subC_yes (by omega)
  by_cases hbig' : 1048576 - (t.cost : Int) < (t'.cost : Int)
  · have hs' : subC (1048576 - (t.cost : Int)) t'.cost = -1 := subC_no (by omega)
    have hs1' : subC (1048576 - (t.cost : Int)) t'.cost < 0 := by omega
    have hs2 : ¬ (1048576 - (t.cost : Int)) < 0 := by omega
    have HS := Lib.hid hs
    clear hs hs' hbig hbig'
    obtain ⟨⟨k0, k1, k2, k3, k4⟩, -⟩ := K0.out
    go_enter Tryd.func3, Tryd.ntmps3
    go_wp2_with fail
    refine (HZ.out _ t0 _ (by omega) (by omega)).mono ?_
    rintro _ w1 ⟨rfl, b1⟩
    rw [HS.out]
    have K1 := K0.out.2
    obtain ⟨m0, m1, m2, m3, m4⟩ := box5_kept b1 K1
    clear K1 k0 k1 k2 k3 k4
    go_wp2_with fail
    refine (HZ'.out _ (vnx t0 b1) _ (by omega) (by omega)).mono ?_
    rintro _ w2 ⟨rfl, b2⟩
    go_wp2_with fail
    go_ret
    exact ⟨rfl, vnx (vnx t0 b1) b2⟩
  have hcost' : t'.cost ≤ 1048576 := by omega
  have hs' : subC (1048576 - (t.cost : Int)) t'.cost = 1048576 - t.cost - t'.cost := subC_yes (by omega)
  have hs1' : 0 ≤ subC (1048576 - (t.cost : Int)) t'.cost := by omega
  have hs2 : ¬ (1048576 - (t.cost : Int)) < 0 := by omega
  have hs3 : ¬ subC (1048576 - (t.cost : Int)) t'.cost < 0 := by omega
  have HT := Lib.hid (fun w1 (hb : Below w.heap.size w w1) => toVal_c t w1 _ hcost (HU.out.kept hb) hfit)
  have HT' := Lib.hid (fun w1 (hb : Below w.heap.size w w1) => toVal_c t' w1 _ hcost' (HU'.out.kept hb) hfit')
  have HCS := Lib.hid (fun w1 v v' (_hb : Below w.heap.size w w1) h h' => lessSpec_c t t' w1 v v' h h' hfit hfit')
  have HCI := Lib.hid (fun w1 v v' (_hb : Below w.heap.size w w1) h h' => lessImpl_c t t' w1 v v' (LA.out.kept _hb) h h' hfit hfit')
  have HE := Lib.hid (eqVal_c t)
  have HE' := Lib.hid (eqVal_c t')
  have HS := Lib.hid hs
  obtain ⟨Z, hZ⟩ : ∃ Z, Z = subC (1048576 - (t.cost : Int)) t'.cost := ⟨_, rfl⟩
  rw [← hZ] at hs1' hs3
  have HZE := Lib.hid hZ
  clear hZ hs hs' hbig hbig' HU HU' LA
  obtain ⟨R, hR⟩ : ∃ R, lessT t t' = R := ⟨_, rfl⟩
  rw [hR] at HCS HCI
  clear hR
  obtain ⟨⟨k0, k1, k2, k3, k4⟩, -⟩ := K0.out
  go_enter Tryd.func3, Tryd.ntmps3
  go_wp2_with fail
  refine (HZ.out _ t0 _ (by omega) (by omega)).mono ?_
  rintro _ w1 ⟨rfl, b1⟩
  rw [HS.out]
  have t1 := vnx t0 b1
  have K1 := Lib.hid (And.intro (box5_kept b1 K0.out.1) (box5_kept b1 K0.out.2)); clear K0 k0 k1 k2 k3 k4
  obtain ⟨-, ⟨m0, m1, m2, m3, m4⟩⟩ := K1.out
  go_wp2_with fail
  refine (HZ'.out _ t1 _ (by omega) (by omega)).mono ?_
  rintro _ w2 ⟨rfl, b2⟩
  rw [← HZE.out]
  have t2 := vnx t1 b2
  have K2 := Lib.hid (And.intro (box5_kept b2 K1.out.1) (box5_kept b2 K1.out.2)); clear K1 m0 m1 m2 m3 m4
  have HK2 : Hid (∀ w3, Below w2.heap.size w2 w3 → (w3.cell? ⟨w.heap.size, 0, none⟩ = some (.int .i64 t.kind) ∧ w3.cell? ⟨w.heap.size, 1, none⟩ = some (.int .i64 t.n) ∧ w3.cell? ⟨w.heap.size, 2, none⟩ = some (.int .i64 t.x) ∧ w3.cell? ⟨w.heap.size, 3, none⟩ = some (.string t.s) ∧ w3.cell? ⟨w.heap.size, 4, none⟩ = some ((.slice a n cap))) ∧ (w3.cell? ⟨w.heap.size + 1, 0, none⟩ = some (.int .i64 t'.kind) ∧ w3.cell? ⟨w.heap.size + 1, 1, none⟩ = some (.int .i64 t'.n) ∧ w3.cell? ⟨w.heap.size + 1, 2, none⟩ = some (.int .i64 t'.x) ∧ w3.cell? ⟨w.heap.size + 1, 3, none⟩ = some (.string t'.s) ∧ w3.cell? ⟨w.heap.size + 1, 4, none⟩ = some ((.slice a' n' cap')))) := Lib.hid (fun w3 hb => ⟨box5_kept hb K2.out.1, box5_kept hb K2.out.2⟩)
  have d0 : Below w2.heap.size w2 w2.drew := (Below.refl _ _).drew
  obtain ⟨⟨k0, k1, k2, k3, k4⟩, ⟨m0, m1, m2, m3, m4⟩⟩ := K2.out
  go_wp2_with fail
  go_region_held3 (fun w3 => (w3.cell? ⟨w.heap.size, 0, none⟩ = some (.int .i64 t.kind) ∧ w3.cell? ⟨w.heap.size, 1, none⟩ = some (.int .i64 t.n) ∧ w3.cell? ⟨w.heap.size, 2, none⟩ = some (.int .i64 t.x) ∧ w3.cell? ⟨w.heap.size, 3, none⟩ = some (.string t.s) ∧ w3.cell? ⟨w.heap.size, 4, none⟩ = some ((.slice a n cap))) ∧ (w3.cell? ⟨w.heap.size + 1, 0, none⟩ = some (.int .i64 t'.kind) ∧ w3.cell? ⟨w.heap.size + 1, 1, none⟩ = some (.int .i64 t'.n) ∧ w3.cell? ⟨w.heap.size + 1, 2, none⟩ = some (.int .i64 t'.x) ∧ w3.cell? ⟨w.heap.size + 1, 3, none⟩ = some (.string t'.s) ∧ w3.cell? ⟨w.heap.size + 1, 4, none⟩ = some ((.slice a' n' cap')))) (first | exact HK2.out _ dG | exact HK2.out _ dF | exact HK2.out _ dA1 | exact HK2.out _ dB2 | exact HK2.out _ d0)
    (first
     | (go_at_call 15; with_reducible refine (HT.out _ (vnx t2 dB2)).mono ?_; rintro _ wA ⟨aA, nA, cA, rfl, oA, bA⟩; have dF := vnx dB2 bA; have SA := Lib.hid oA.tsl; have SB := Lib.hid (SB2.out.kept bA); clear oA)
     | (go_at_call 15; with_reducible refine (HT'.out _ (vnx t2 dA1)).mono ?_; rintro _ wB ⟨aB, nB, cB, rfl, oB, bB⟩; have dF := vnx dA1 bB; have SB := Lib.hid oB.tsl; have SA := Lib.hid (SA1.out.kept bB); clear oB)
     | (go_at_call 15; with_reducible refine (HT.out _ (vnx t2 d0)).mono ?_; rintro _ wA ⟨aA, nA, cA, rfl, oA, bA⟩; have dA1 := vnx d0 bA; have SA1 := Lib.hid oA.tsl; clear oA)
     | (go_at_call 15; with_reducible refine (HT'.out _ (vnx t2 d0)).mono ?_; rintro _ wB ⟨aB, nB, cB, rfl, oB, bB⟩; have dB2 := vnx d0 bB; have SB2 := Lib.hid oB.tsl; clear oB)
     | (go_at_call 14; with_reducible refine (HCS.out _ _ _ (vnx t2 dF) SA.out SB.out).mono ?_; rintro _ w3 ⟨rfl, b3⟩; have dG := vnx dF b3))
  all_goals
    have t3 := vnx t2 dG
    have HKG := Lib.hid (HK2.out _ dG)
    clear SA SB
    try clear dA1 SA1
    try clear dB2 SB2
    clear k0 k1 k2 k3 k4 m0 m1 m2 m3 m4 HK2
    obtain ⟨⟨k0, k1, k2, k3, k4⟩, -⟩ := HKG.out
    go_wp2_with fail
    refine (HT.out _ t3).mono ?_
    rintro _ w4 ⟨a4, n4, c4, rfl, o4, b4⟩
    have e4 := vbelow1 w4 (.cells #[.int .i64 t.kind, .int .i64 t.n, .int .i64 t.x, .string t.s, .slice a4 n4 c4] 29)
    have f4 := vnx b4 e4
    have t4 := vnx t3 f4
    have S4 := Lib.hid (o4.tsl.kept e4)
    have L4 := Lib.hid (box5_new w4 (.int .i64 t.kind) (.int .i64 t.n) (.int .i64 t.x) (.string t.s) (.slice a4 n4 c4) 29)
    obtain ⟨m0, m1, m2, m3, m4⟩ := box5_kept f4 HKG.out.2
    clear k0 k1 k2 k3 k4 o4
    go_wp2_with fail
    refine (HT'.out _ t4).mono ?_
    rintro _ w5 ⟨a5, n5, c5, rfl, o5, b5⟩
    have e5 := vbelow1 w5 (.cells #[.int .i64 t'.kind, .int .i64 t'.n, .int .i64 t'.x, .string t'.s, .slice a5 n5 c5] 29)
    have f5 := vnx b5 e5
    have t5 := vnx t4 f5
    have S5 := Lib.hid (o5.tsl.kept e5)
    have S45 := Lib.hid (S4.out.kept f5)
    have L5 := Lib.hid (box5_new w5 (.int .i64 t'.kind) (.int .i64 t'.n) (.int .i64 t'.x) (.string t'.s) (.slice a5 n5 c5) 29)
    have L45 := Lib.hid (box5_kept f5 L4.out)
    have HKG5 := Lib.hid (And.intro (box5_kept (vnx f4 f5) HKG.out.1) (box5_kept (vnx f4 f5) HKG.out.2))
    clear m0 m1 m2 m3 m4 o5 HKG
    obtain ⟨l0, l1, l2, l3, l4⟩ := L45.out
    obtain ⟨q0, q1, q2, q3, q4⟩ := L5.out
    go_wp2_with fail
    refine (HCI.out _ _ _ t5 S45.out S5.out).mono ?_
    rintro _ w6 ⟨rfl, b6⟩
    have t6 := vnx t5 b6
    have S46 := Lib.hid (S45.out.kept b6)
    have S56 := Lib.hid (S5.out.kept b6)
    have HA6 : Hid (∀ w7, Below w6.heap.size w6 w7 → (w7.cell? ⟨w.heap.size, 0, none⟩ = some (.int .i64 t.kind) ∧ w7.cell? ⟨w.heap.size, 1, none⟩ = some (.int .i64 t.n) ∧ w7.cell? ⟨w.heap.size, 2, none⟩ = some (.int .i64 t.x) ∧ w7.cell? ⟨w.heap.size, 3, none⟩ = some (.string t.s) ∧ w7.cell? ⟨w.heap.size, 4, none⟩ = some ((.slice a n cap))) ∧ (w7.cell? ⟨w4.heap.size, 0, none⟩ = some (.int .i64 t.kind) ∧ w7.cell? ⟨w4.heap.size, 1, none⟩ = some (.int .i64 t.n) ∧ w7.cell? ⟨w4.heap.size, 2, none⟩ = some (.int .i64 t.x) ∧ w7.cell? ⟨w4.heap.size, 3, none⟩ = some (.string t.s) ∧ w7.cell? ⟨w4.heap.size, 4, none⟩ = some (.slice a4 n4 c4))) := Lib.hid (fun w7 hb => ⟨box5_kept (vnx b6 hb) HKG5.out.1, box5_kept (vnx b6 hb) L45.out⟩)
    have HB6 : Hid (∀ w7, Below w6.heap.size w6 w7 → (w7.cell? ⟨w.heap.size + 1, 0, none⟩ = some (.int .i64 t'.kind) ∧ w7.cell? ⟨w.heap.size + 1, 1, none⟩ = some (.int .i64 t'.n) ∧ w7.cell? ⟨w.heap.size + 1, 2, none⟩ = some (.int .i64 t'.x) ∧ w7.cell? ⟨w.heap.size + 1, 3, none⟩ = some (.string t'.s) ∧ w7.cell? ⟨w.heap.size + 1, 4, none⟩ = some ((.slice a' n' cap'))) ∧ (w7.cell? ⟨w5.heap.size, 0, none⟩ = some (.int .i64 t'.kind) ∧ w7.cell? ⟨w5.heap.size, 1, none⟩ = some (.int .i64 t'.n) ∧ w7.cell? ⟨w5.heap.size, 2, none⟩ = some (.int .i64 t'.x) ∧ w7.cell? ⟨w5.heap.size, 3, none⟩ = some (.string t'.s) ∧ w7.cell? ⟨w5.heap.size, 4, none⟩ = some (.slice a5 n5 c5))) := Lib.hid (fun w7 hb => ⟨box5_kept (vnx b6 hb) HKG5.out.2, box5_kept (vnx b6 hb) L5.out⟩)
    clear l0 l1 l2 l3 l4 q0 q1 q2 q3 q4 L4 L5 L45 HKG5
    obtain ⟨⟨k0, k1, k2, k3, k4⟩, ⟨l0, l1, l2, l3, l4⟩⟩ := HA6.out w6 (Below.refl _ _)
    have x0 : Below w6.heap.size w6 w6.drew := (Below.refl _ _).drew
    go_wp2_with fail
    go_region_held3 (fun w7 => (w7.cell? ⟨w.heap.size, 0, none⟩ = some (.int .i64 t.kind) ∧ w7.cell? ⟨w.heap.size, 1, none⟩ = some (.int .i64 t.n) ∧ w7.cell? ⟨w.heap.size, 2, none⟩ = some (.int .i64 t.x) ∧ w7.cell? ⟨w.heap.size, 3, none⟩ = some (.string t.s) ∧ w7.cell? ⟨w.heap.size, 4, none⟩ = some ((.slice a n cap))) ∧ (w7.cell? ⟨w4.heap.size, 0, none⟩ = some (.int .i64 t.kind) ∧ w7.cell? ⟨w4.heap.size, 1, none⟩ = some (.int .i64 t.n) ∧ w7.cell? ⟨w4.heap.size, 2, none⟩ = some (.int .i64 t.x) ∧ w7.cell? ⟨w4.heap.size, 3, none⟩ = some (.string t.s) ∧ w7.cell? ⟨w4.heap.size, 4, none⟩ = some (.slice a4 n4 c4))) (first | exact HA6.out _ x2 | exact HA6.out _ x1 | exact HA6.out _ x0)
      (first
       | (go_at_call 15; with_reducible refine (HT.out _ (vnx t6 x0)).mono ?_; rintro _ w7 ⟨a7, n7, c7, rfl, o7, b7⟩; have x1 := vnx x0 b7; have S7 := Lib.hid o7.tsl; have S47 := Lib.hid (S46.out.kept x1); clear o7)
       | (go_at_call 17; refine (HE.out _ _ _ S47.out S7.out).mono ?_; rintro _ w8 ⟨rfl, b8⟩; have x2 := vnx x1 b8))
    all_goals
      have t8 := vnx t6 x2
      have y0 : Below w8.heap.size w8 w8.drew := (Below.refl _ _).drew
      have HB8 : Hid (∀ w9, Below w8.heap.size w8 w9 → (w9.cell? ⟨w.heap.size + 1, 0, none⟩ = some (.int .i64 t'.kind) ∧ w9.cell? ⟨w.heap.size + 1, 1, none⟩ = some (.int .i64 t'.n) ∧ w9.cell? ⟨w.heap.size + 1, 2, none⟩ = some (.int .i64 t'.x) ∧ w9.cell? ⟨w.heap.size + 1, 3, none⟩ = some (.string t'.s) ∧ w9.cell? ⟨w.heap.size + 1, 4, none⟩ = some ((.slice a' n' cap'))) ∧ (w9.cell? ⟨w5.heap.size, 0, none⟩ = some (.int .i64 t'.kind) ∧ w9.cell? ⟨w5.heap.size, 1, none⟩ = some (.int .i64 t'.n) ∧ w9.cell? ⟨w5.heap.size, 2, none⟩ = some (.int .i64 t'.x) ∧ w9.cell? ⟨w5.heap.size, 3, none⟩ = some (.string t'.s) ∧ w9.cell? ⟨w5.heap.size, 4, none⟩ = some (.slice a5 n5 c5))) := Lib.hid (fun w9 hb => HB6.out _ (vnx x2 hb))
      have S58 := Lib.hid (S56.out.kept x2)
      clear k0 k1 k2 k3 k4 l0 l1 l2 l3 l4 HA6 HB6 S7 S47
      obtain ⟨⟨k0, k1, k2, k3, k4⟩, ⟨l0, l1, l2, l3, l4⟩⟩ := HB8.out w8 (Below.refl _ _)
      go_wp2_with fail
      go_region_held3 (fun w9 => (w9.cell? ⟨w.heap.size + 1, 0, none⟩ = some (.int .i64 t'.kind) ∧ w9.cell? ⟨w.heap.size + 1, 1, none⟩ = some (.int .i64 t'.n) ∧ w9.cell? ⟨w.heap.size + 1, 2, none⟩ = some (.int .i64 t'.x) ∧ w9.cell? ⟨w.heap.size + 1, 3, none⟩ = some (.string t'.s) ∧ w9.cell? ⟨w.heap.size + 1, 4, none⟩ = some ((.slice a' n' cap'))) ∧ (w9.cell? ⟨w5.heap.size, 0, none⟩ = some (.int .i64 t'.kind) ∧ w9.cell? ⟨w5.heap.size, 1, none⟩ = some (.int .i64 t'.n) ∧ w9.cell? ⟨w5.heap.size, 2, none⟩ = some (.int .i64 t'.x) ∧ w9.cell? ⟨w5.heap.size, 3, none⟩ = some (.string t'.s) ∧ w9.cell? ⟨w5.heap.size, 4, none⟩ = some (.slice a5 n5 c5))) (first | exact HB8.out _ y2 | exact HB8.out _ y1 | exact HB8.out _ y0)
        (first
         | (go_at_call 15; with_reducible refine (HT'.out _ (vnx t8 y0)).mono ?_; rintro _ w9 ⟨a9, n9, c9, rfl, o9, b9⟩; have y1 := vnx y0 b9; have S9 := Lib.hid o9.tsl; have S59 := Lib.hid (S58.out.kept y1); clear o9)
         | (go_at_call 17; refine (HE'.out _ _ _ S59.out S9.out).mono ?_; rintro _ w10 ⟨rfl, b10⟩; have y2 := vnx y1 b10))
      all_goals go_wp2_with fail
      all_goals go_ret
      all_goals exact ⟨rfl, vnx t8 y2⟩
namespace fnExactLessVal
set_option maxRecDepth 100000 in
theorem walk : LawWalkX (fun W => LaidP W) 3 Tryd.f3 := by
  intro H enc W base args ds p hval0 hA0 hL
  have hval : ∀ (j : Nat) t v, Tryd.f3.params[j]? = some t → args[j]? = some v → Value.okWide Tryd.prog W .any base t v := hval0
  have hA : DataW.TrodAll enc Tryd.prog W 0 (fun _ => true) true Tryd.f3.params.toList args.toList ds p := hA0
  clear hval0 hA0
  rw [Tryd.params3] at hA hval
  obtain ⟨v0, vs0, d0, ds0, p0, q0, hargs, rfl, rfl, h0, r0⟩ := trodAll_cons hA
  obtain ⟨v1, vs1, d1, ds1, p1, q1, rfl, rfl, rfl, h1, r1⟩ := trodAll_cons r0
  obtain ⟨rfl, rfl, rfl⟩ := trodAll_nil r1
  obtain rfl : args = #[v0, v1] := by cases args; simp_all
  obtain ⟨t0, u0, rfl, w0, x0⟩ := open_val Tryd.underlying24 (by kernel_rfl) (by kernel_rfl) Tryd.underlying3 Tryd.underlying3 Tryd.underlying3 Tryd.underlying9 Tryd.underlying22 (hval 0 24 v0 rfl rfl) h0
  obtain ⟨t1, u1, rfl, w1, x1⟩ := open_val Tryd.underlying24 (by kernel_rfl) (by kernel_rfl) Tryd.underlying3 Tryd.underlying3 Tryd.underlying3 Tryd.underlying9 Tryd.underlying22 (hval 1 24 v1 rfl rfl) h1
  exact lessVal_law t0 u0 t1 u1 W hL w0 x0 w1 x1
theorem laid_met (os : Os) : laidMet Tryd.prog Rows.fnExactLessValRow.laid ((laidWorld os).forCall (fun _ _ => 0) ⟨#[], #[.agg #[.int .i64 0, .int .i64 0, .int .i64 0, .string ByteArray.empty, .slice none 0 0], .agg #[.int .i64 0, .int .i64 0, .int .i64 0, .string ByteArray.empty, .slice none 0 0]], []⟩).memory :=
  laidMet_of_run' 8 (by kernel_rfl) (by kernel_rfl)
theorem reads (os : Os) {H : Type} (enc : TypeId × Value → H) : ∃ places, DataW.whole enc Tryd.prog ((laidWorld os).forCall (fun _ _ => 0) ⟨#[], #[.agg #[.int .i64 0, .int .i64 0, .int .i64 0, .string ByteArray.empty, .slice none 0 0], .agg #[.int .i64 0, .int .i64 0, .int .i64 0, .string ByteArray.empty, .slice none 0 0]], []⟩).memory Tryd.f3.params.toList Rows.fnExactLessValSpec.vars false (#[Value.agg #[.int .i64 0, .int .i64 0, .int .i64 0, .string ByteArray.empty, .slice none 0 0], Value.agg #[.int .i64 0, .int .i64 0, .int .i64 0, .string ByteArray.empty, .slice none 0 0]] : Array Value).toList 8 = some ([.agg [.lit (.int .i64 0), .lit (.int .i64 0), .lit (.int .i64 0), .lit (.string []), .nil], .agg [.lit (.int .i64 0), .lit (.int .i64 0), .lit (.int .i64 0), .lit (.string []), .nil]], [], places) :=
  ⟨[], by kernel_rfl⟩
set_option maxRecDepth 100000 in
theorem lifted (os : Os) (started : os.Started) (H : Type) (enc : TypeId × Value → H) (F : Stop.Interp) :
    ReturnsInHanded {} Tryd.checked os 3 .any ((OpenSpec.ofChange Rows.fnExactLessValSpec).preRow enc Tryd.prog Tryd.f3 Rows.fnExactLessValRow.domain false Rows.fnExactLessValRow.laid) (((OpenSpec.ofChange Rows.fnExactLessValSpec).at F).post enc Tryd.prog Tryd.f3 false true false false) := by
  obtain ⟨places, hx⟩ := reads os enc
  refine returnsInHanded_of_row (C := Tryd.checked) (s := OpenSpec.ofChange Rows.fnExactLessValSpec) own started (by kernel_rfl) Tryd.func3
    (witness_row_at (enc := enc) (C := Tryd.checked) false (laidWorld os) #[.agg #[.int .i64 0, .int .i64 0, .int .i64 0, .string ByteArray.empty, .slice none 0 0], .agg #[.int .i64 0, .int .i64 0, .int .i64 0, .string ByteArray.empty, .slice none 0 0]] rfl (by kernel_rfl) (by kernel_rfl) (by kernel_rfl)
      (OpenSpec.preRow_of_cond 8 hx (by kernel_rfl) (fun k hk => by cases hk) (by kernel_rfl) (laid_met os))) ?_
  intro W base args ds gs before hval hW _ _ _ hL _ _
  exact law_contractX (fun W => LaidP W) 3 Tryd.f3 Rows.fnExactLessValSpec H enc rfl rfl (by kernel_rfl) (fun ds h => by match ds, h with | [_, _], _ => rfl) walk W base args ds gs before hval hW (laidP_of hL (by simp [Rows.fnExactLessValRow]))
theorem said : Rows.FnExactLessValSaid :=
  OpenClaim.holds_of_cond 3 Tryd.f3 rfl rfl rfl rfl rfl rfl rfl ⟨rfl, rfl, rfl, rfl, rfl⟩ rfl rfl rfl rfl rfl (by kernel_rfl) Tryd.func3 (by kernel_rfl)
    (of_decide_eq_true (by kernel_rfl)) (by unfold Func.isWrapper; first | (rw [if_pos (by decide +kernel)]; kernel_rfl) | (rw [if_neg (by decide +kernel)]; exact ⟨rfl, rfl⟩))
    (fun os started H enc _ F => by rw [OpenClaim.pre_eq_preRow]; exact lifted os started H enc F)
theorem plain (f : FuncId) (fn : Func) (hf : Tryd.pinned.checked.prog.funcNamed "loop.example/g00502/laws.FnExactLessVal" = some f) (hfn : Tryd.pinned.checked.prog.funcs[f]? = some fn) :
    true = Tryd.pinned.checked.prog.looks [] ∧ ∀ (j : Nat) t, fn.params[j]? = some t → Tryd.pinned.checked.prog.wantsStandIn t = false := by
  obtain rfl : f = 3 := Option.some.inj ((show Tryd.prog.funcNamed "loop.example/g00502/laws.FnExactLessVal" = some 3 by kernel_rfl).symm.trans hf) |>.symm
  obtain rfl : fn = Tryd.f3 := (Option.some.inj (Tryd.func3.symm.trans hfn)).symm
  refine ⟨by kernel_rfl, fun j t ht => ?_⟩
  have hall : Tryd.f3.params.toList.all (fun t => !Tryd.pinned.checked.prog.wantsStandIn t) = true := by kernel_rfl
  have hm := List.all_eq_true.1 hall t (by simpa using Array.mem_of_getElem? ht)
  simpa using hm
theorem proved : Rows.FnExactLessValCardSaid :=
  Claim7.holds_tied_plain_at .later [] _ _ _ _ said (fun _ h => by cases h) (by kernel_rfl) (fun _ h => by cases h) fnExactLessVal_row_tie rfl ⟨rfl, rfl⟩ (by kernel_rfl) rfl plain (by kernel_rfl)
#print axioms proved
end fnExactLessVal
end Go.Proofs.YtilmhemcpgiikaaDoor
