/- FnExactLookup: both answer the same, in memory of its own. -/
import Derived.Test.YtjkjfdhbbblffaaVLook
import Derived.Test.YtjkjfdhbbblffaaVMarkV
import Derived.Test.YtjkjfdhbbblffaaVTo
import Derived.Test.YtjkjfdhbbblffaaVLeaf
import Derived.Deep.RegionHeld3
import Derived.Deep.DeepCutAuto
namespace Go.Proofs.Ytjkjfdhbbblffaa
open Go.Deep Go.ChangeShapes Go.WideShapes Go.ChangeAt Go.RowKit
open Go.ChangeMaps (open_string shut_string)

/-- A box of two, kept. -/
def Box2 (w : World) (B : Nat) (a b : Value) : Prop := w.cell? ⟨B, 0, none⟩ = some a ∧ w.cell? ⟨B, 1, none⟩ = some b
theorem two_kept {w w' : World} (hb : Below w.heap.size w w') {B : Nat} {a b : Value} (h : Box2 w B a b) : Box2 w' B a b := by
  have hlt := World.block_lt_of_cell? w _ h.1
  exact ⟨(hb.cell (p := ⟨B, 0, none⟩) hlt).trans h.1, (hb.cell (p := ⟨B, 1, none⟩) hlt).trans h.2⟩
theorem two_fr {w w' : World} {S : Nat → Prop} {B : Nat} {a b : Value} (h : Box2 w B a b) (hf : Fr S w w') (hB : ¬ S B) : Box2 w' B a b := by
  have hlt := World.block_lt_of_cell? w _ h.1
  have hk := hf.block B hlt hB
  exact ⟨(World.cell?_of_block (a := ⟨B, 0, none⟩) hk).trans h.1, (World.cell?_of_block (a := ⟨B, 1, none⟩) hk).trans h.2⟩
theorem two_new (w : World) (a b : Value) (T : TypeId) : Box2 (w.alloc (.cells #[a, b] T)) w.heap.size a b := by
  constructor
  · rw [World.cell?_alloc_at _ _ _ _ rfl]; rfl
  · rw [World.cell?_alloc_at _ _ _ _ rfl]; rfl
theorem five_box {w : World} {B : Nat} {a b c d e : Value} {T : TypeId} (h : w.heap[B]? = some (.cells #[a, b, c, d, e] T (0, 0))) (a' b' c' d' e' : Value) :
    Box5 (((((w.setCell ⟨B, 0, none⟩ a').setCell ⟨B, 1, none⟩ b').setCell ⟨B, 2, none⟩ c').setCell ⟨B, 3, none⟩ d').setCell ⟨B, 4, none⟩ e') B a' b' c' d' e' := by
  have h5 : (((((w.setCell ⟨B, 0, none⟩ a').setCell ⟨B, 1, none⟩ b').setCell ⟨B, 2, none⟩ c').setCell ⟨B, 3, none⟩ d').setCell ⟨B, 4, none⟩ e').heap[B]? = some (.cells #[a', b', c', d', e'] T (0, 0)) := by
    simp [World.setCell, Array.getElem?_modify, h]
  refine ⟨?_, ?_, ?_, ?_, ?_⟩ <;> simp [World.cell?, h5]
/-- What a region with a result's box leaves behind. -/
def Left (w wx : World) (r : Tree) (b : Bool) (s6 s7 : Value) : Prop := ∃ (B : Nat) (a3 : Option Addr) (n3 c3 lo hi : Nat), s6 = .pointer (some ⟨B, 0, none⟩) ∧ s7 = .bool b ∧ w.heap.size ≤ lo ∧ hi ≤ wx.heap.size ∧ (B < lo ∨ hi ≤ B) ∧ w.heap.size ≤ B ∧ B < wx.heap.size ∧ Hid (Box5 wx B (.int .i64 r.kind) (.int .i64 r.n) (.int .i64 r.x) (.string r.s) (.slice a3 n3 c3)) ∧ Hid (OSl wx 29 (.slice a3 n3 c3) r.l (Rng lo hi)) ∧ Hid (Below w.heap.size w wx)
theorem heap_alloc_drew (w : World) (o : Obj) : (w.alloc o).drew.heap[w.heap.size]? = some o := heap_alloc_new w o
theorem lt_alloc_drew (w : World) (o : Obj) : w.heap.size < (w.alloc o).drew.heap.size := by show _ < (w.alloc o).heap.size; rw [World.size_alloc]; exact Nat.lt_succ_self _
theorem left_last {w wp wc : World} {r : Tree} {b : Bool} {a3 : Option Addr} {n3 c3 : Nat} (hp : w.heap.size ≤ wp.heap.size) (hb : Below w.heap.size w wc) (ho : OSl wc 29 (.slice a3 n3 c3) r.l (Rng wp.heap.size wc.heap.size)) :
    Left w (wc.alloc (.cells #[.int .i64 r.kind, .int .i64 r.n, .int .i64 r.x, .string r.s, .slice a3 n3 c3] 29)) r b (.pointer (some ⟨wc.heap.size, 0, none⟩)) (.bool b) :=
  ⟨_, _, _, _, _, _, rfl, rfl, hp, by rw [World.size_alloc]; omega, .inr (Nat.le_refl _), hb.size, by rw [World.size_alloc]; omega, Lib.hid (box5_new _ _ _ _ _ _ _), Lib.hid (ho.kept_bl (Nat.le_refl _) (vbelow1 _ _)), Lib.hid (vnx hb (vbelow1 _ _))⟩
theorem left_early {w wp wc : World} {r : Tree} {b : Bool} {a3 : Option Addr} {n3 c3 B : Nat} {x0 x1 x2 x3 x4 : Value} {T : TypeId} (hp : w.heap.size ≤ wp.heap.size) (hb : Below w.heap.size w wc) (ho : OSl wc 29 (.slice a3 n3 c3) r.l (Rng wp.heap.size wc.heap.size))
    (hB : wc.heap[B]? = some (.cells #[x0, x1, x2, x3, x4] T (0, 0))) (h1 : w.heap.size ≤ B) (h2 : B < wp.heap.size) :
    Left w (((((wc.setCell ⟨B, 0, none⟩ (.int .i64 r.kind)).setCell ⟨B, 1, none⟩ (.int .i64 r.n)).setCell ⟨B, 2, none⟩ (.int .i64 r.x)).setCell ⟨B, 3, none⟩ (.string r.s)).setCell ⟨B, 4, none⟩ (.slice a3 n3 c3)) r b (.pointer (some ⟨B, 0, none⟩)) (.bool b) := by
  have hlt : B < wc.heap.size := (Array.getElem?_eq_some_iff.1 hB).1
  refine ⟨B, a3, n3, c3, wp.heap.size, wc.heap.size, rfl, rfl, hp, by simp [World.setCell], .inl h2, h1, by simpa [World.setCell] using hlt, Lib.hid (five_box hB _ _ _ _ _), Lib.hid ?_, Lib.hid ?_⟩
  · iterate 5 refine osl_sets ?_ (by dsimp only; omega) _
    exact ho
  · iterate 5 refine Below.setCell ?_ (by dsimp only; omega) _
    exact hb

set_option maxRecDepth 100000 in
set_option maxHeartbeats 16000000 in
theorem lookup_law (t : Tree) (u : Value) (t' : Tree) (u' : Value) (w : World) (hu : TSl w u t.l) (hfit : Fits t.kind t.n t.x t.s) (hu' : TSl w u' t'.l) (hfit' : Fits t'.kind t'.n t'.x t'.s) :
    Calls Try.prog 9 #[.agg #[.int .i64 t.kind, .int .i64 t.n, .int .i64 t.x, .string t.s, u], .agg #[.int .i64 t'.kind, .int .i64 t'.n, .int .i64 t'.x, .string t'.s, u']] w fun e w' => e = .returned (.bool true) ∧ Below w.heap.size w w' := by
  obtain ⟨a, n, cap, rfl⟩ := hu.form
  obtain ⟨a', n', cap', rfl⟩ := hu'.form
  have HU := Lib.hid hu; have HU' := Lib.hid hu'; clear hu hu'
  have t0 := vbelow2 w (.cells #[.int .i64 t.kind, .int .i64 t.n, .int .i64 t.x, .string t.s, (.slice a n cap)] 24) (.cells #[.int .i64 t'.kind, .int .i64 t'.n, .int .i64 t'.x, .string t'.s, (.slice a' n' cap')] 24)
  have K0 : Hid (Box5 ((w.alloc (.cells #[.int .i64 t.kind, .int .i64 t.n, .int .i64 t.x, .string t.s, (.slice a n cap)] 24)).alloc (.cells #[.int .i64 t'.kind, .int .i64 t'.n, .int .i64 t'.x, .string t'.s, (.slice a' n' cap')] 24)) w.heap.size (.int .i64 t.kind) (.int .i64 t.n) (.int .i64 t.x) (.string t.s) (.slice a n cap) ∧ Box5 ((w.alloc (.cells #[.int .i64 t.kind, .int .i64 t.n, .int .i64 t.x, .string t.s, (.slice a n cap)] 24)).alloc (.cells #[.int .i64 t'.kind, .int .i64 t'.n, .int .i64 t'.x, .string t'.s, (.slice a' n' cap')] 24)) (w.heap.size + 1) (.int .i64 t'.kind) (.int .i64 t'.n) (.int .i64 t'.x) (.string t'.s) (.slice a' n' cap')) := Lib.hid ⟨box5_kept (vbelow1 _ _) (box5_new w _ _ _ _ _ _), by have := box5_new (w.alloc (.cells #[.int .i64 t.kind, .int .i64 t.n, .int .i64 t.x, .string t.s, (.slice a n cap)] 24)) (.int .i64 t'.kind) (.int .i64 t'.n) (.int .i64 t'.x) (.string t'.s) (.slice a' n' cap') 24; simpa only [World.size_alloc] using this⟩
  have HZ := Lib.hid (fun w1 (hb : Below w.heap.size w w1) left h0 h1 => szVal_c t w1 _ left h0 h1 (HU.out.kept hb) hfit)
  have HZ' := Lib.hid (fun w1 (hb : Below w.heap.size w w1) left h0 h1 => szVal_c t' w1 _ left h0 h1 (HU'.out.kept hb) hfit')
  by_cases hbig : 1048576 < (t.cost : Int)
  · have hs : subC 1048576 t.cost = -1 := subC_no (by omega)
    have hs1 : subC 1048576 t.cost < 0 := by omega
    clear hs hbig
    obtain ⟨⟨k0, k1, k2, k3, k4⟩, -⟩ := K0.out
    go_enter Try.func9, Try.ntmps9
    go_wp2_with fail
    refine (HZ.out _ t0 _ (by omega) (by omega)).mono ?_
    rintro _ w1 ⟨rfl, b1⟩
    go_wp2_with fail
    go_ret
    exact ⟨rfl, vnx t0 b1⟩
  have hcost : t.cost ≤ 1048576 := by omega
  have hs : subC 1048576 t.cost = 1048576 - t.cost := subC_yes (by omega)
  by_cases hbig' : 1048576 - (t.cost : Int) < (t'.cost : Int)
  · have hs' : subC (1048576 - (t.cost : Int)) t'.cost = -1 := subC_no (by omega)
    have hs1' : subC (1048576 - (t.cost : Int)) t'.cost < 0 := by omega
    have hs2 : ¬ (1048576 - (t.cost : Int)) < 0 := by omega
    have HS := Lib.hid hs
    clear hs hs' hbig hbig'
    obtain ⟨⟨k0, k1, k2, k3, k4⟩, -⟩ := K0.out
    go_enter Try.func9, Try.ntmps9
    go_wp2_with fail
    refine (HZ.out _ t0 _ (by omega) (by omega)).mono ?_
    rintro _ w1 ⟨rfl, b1⟩
    rw [HS.out]
    have K1 := K0.out.2
    obtain ⟨m0, m1, m2, m3, m4⟩ := box5_kept b1 K1
    clear K1 k0 k1 k2 k3 k4
    go_wp2_with fail
    refine (HZ'.out _ (vnx t0 b1) _ (by omega) (by omega)).mono ?_
    rintro _ w2 ⟨rfl, b2⟩
    go_wp2_with fail
    go_ret
    exact ⟨rfl, vnx (vnx t0 b1) b2⟩
  have hcost' : t'.cost ≤ 1048576 := by omega
  have hs2 : ¬ (1048576 - (t.cost : Int)) < 0 := by omega
  obtain ⟨Z, hZ⟩ : ∃ Z, Z = subC (1048576 - (t.cost : Int)) t'.cost := ⟨_, rfl⟩
  have hs3 : ¬ Z < 0 := by rw [hZ, subC_yes (by omega)]; omega
  have HZE := Lib.hid hZ
  have HS := Lib.hid hs
  have HT' := Lib.hid (fun w1 (hb : Below w.heap.size w w1) => toVal_c t' w1 _ hcost' (HU'.out.kept hb) hfit')
  have HE' := Lib.hid (eqVal_c t')
  have HCS := Lib.hid (fun w1 v v' h h' => look_spec t t' w1 v v' hcost h h' hfit hfit')
  have HCI := Lib.hid (fun w1 v v' h h' => look_impl t t' w1 v v' hcost h h' hfit hfit')
  have hszt' : szL t'.l ≤ 1048576 - szL t.l := by have h1 := sz_le_cost t; have h2 := Tree.sz_eq t; have h3 := sz_le_cost t'; have h4 := Tree.sz_eq t'; omega
  have hszr : szL (lookR t t').l ≤ 1048576 := by have h1 := lookR_cost t t'; have h2 := sz_le_cost (lookR t t'); have h3 := Tree.sz_eq (lookR t t'); omega
  clear hs hbig hbig' hZ
  generalize lookR t t' = r at *
  generalize lookB t t' = bb at *
  have HT := Lib.hid (fun w1 (hb : Below w.heap.size w w1) => toVal_c t w1 _ hcost (HU.out.kept hb) hfit)
  have HE := Lib.hid (eqVal_c t)
  have HER := Lib.hid (eqVal_c r)
  have hszt : szL t.l ≤ 1048576 := by have h1 := sz_le_cost t; have h2 := Tree.sz_eq t; omega
  have hbne : (bb != bb) = false := by simp
  obtain ⟨⟨k0, k1, k2, k3, k4⟩, -⟩ := K0.out
  go_enter Try.func9, Try.ntmps9
  go_wp2_with fail
  refine (HZ.out _ t0 _ (by omega) (by omega)).mono ?_
  rintro _ w1 ⟨rfl, b1⟩
  have t1 := vnx t0 b1
  have KA1 := Lib.hid (box5_kept b1 K0.out.1); have KB1 := Lib.hid (box5_kept b1 K0.out.2); clear K0 k0 k1 k2 k3 k4
  have s1 := b1.size
  (try simp only [World.size_alloc] at s1)
  rw [HS.out]
  obtain ⟨m0, m1, m2, m3, m4⟩ := KB1.out
  go_wp2_with fail
  refine (HZ'.out _ t1 _ (by omega) (by omega)).mono ?_
  rintro _ w2 ⟨rfl, b2⟩
  rw [← HZE.out]
  have t2 := vnx t1 b2
  clear m0 m1 m2 m3 m4
  have KA2 := Lib.hid (box5_kept b2 KA1.out)
  clear KA1
  have KB3 := Lib.hid (box5_kept b2 KB1.out)
  clear KB1
  have s4 := b2.size
  (try simp only [World.size_alloc] at s4)
  have HK : Hid (∀ w3, Below w2.heap.size w2 w3 → (w3.cell? ⟨w.heap.size, 0, none⟩ = some (.int .i64 t.kind) ∧ w3.cell? ⟨w.heap.size, 1, none⟩ = some (.int .i64 t.n) ∧ w3.cell? ⟨w.heap.size, 2, none⟩ = some (.int .i64 t.x) ∧ w3.cell? ⟨w.heap.size, 3, none⟩ = some (.string t.s) ∧ w3.cell? ⟨w.heap.size, 4, none⟩ = some ((.slice a n cap))) ∧ (w3.cell? ⟨w.heap.size + 1, 0, none⟩ = some (.int .i64 t'.kind) ∧ w3.cell? ⟨w.heap.size + 1, 1, none⟩ = some (.int .i64 t'.n) ∧ w3.cell? ⟨w.heap.size + 1, 2, none⟩ = some (.int .i64 t'.x) ∧ w3.cell? ⟨w.heap.size + 1, 3, none⟩ = some (.string t'.s) ∧ w3.cell? ⟨w.heap.size + 1, 4, none⟩ = some ((.slice a' n' cap')))) := Lib.hid (fun w3 hb => ⟨box5_kept hb KA2.out, box5_kept hb KB3.out⟩)
  go_upto_region 8 with fail
  go_cut [6, 7] (fun s6 s7 wx => Left w2 wx r bb s6 s7)
  case first =>
    obtain ⟨k0, k1, k2, k3, k4⟩ := KA2.out
    obtain ⟨m0, m1, m2, m3, m4⟩ := KB3.out
    have dd : Below w2.heap.size w2 w2.drew := (Below.refl _ _).drew
    have dz : Below w2.heap.size w2 w2 := Below.refl _ _
    go_wp2_with fail
    go_region_held3 (fun w3 => (w3.cell? ⟨w.heap.size, 0, none⟩ = some (.int .i64 t.kind) ∧ w3.cell? ⟨w.heap.size, 1, none⟩ = some (.int .i64 t.n) ∧ w3.cell? ⟨w.heap.size, 2, none⟩ = some (.int .i64 t.x) ∧ w3.cell? ⟨w.heap.size, 3, none⟩ = some (.string t.s) ∧ w3.cell? ⟨w.heap.size, 4, none⟩ = some ((.slice a n cap))) ∧ (w3.cell? ⟨w.heap.size + 1, 0, none⟩ = some (.int .i64 t'.kind) ∧ w3.cell? ⟨w.heap.size + 1, 1, none⟩ = some (.int .i64 t'.n) ∧ w3.cell? ⟨w.heap.size + 1, 2, none⟩ = some (.int .i64 t'.x) ∧ w3.cell? ⟨w.heap.size + 1, 3, none⟩ = some (.string t'.s) ∧ w3.cell? ⟨w.heap.size + 1, 4, none⟩ = some ((.slice a' n' cap')))) (first | with_reducible exact HK.out _ dd | with_reducible exact HK.out _ (dd.alloc dd.size _) | with_reducible exact HK.out _ (dz.alloc (Nat.le_refl _) _).drew | with_reducible exact HK.out _ (dz.alloc (Nat.le_refl _) _) | with_reducible exact HK.out _ (dd.alloc dd.size _).drew | with_reducible exact HK.out _ dd.drew | with_reducible exact HK.out _ (by (repeat (refine Below.setCell ?_ (by first | (dsimp only; omega) | (simp only [World.size_alloc]; omega)) _)); exact dd))
      (first
       | (go_at_call 13; (with_reducible refine (HT.out _ (vnx t2 (by first | with_reducible exact dd | with_reducible exact dd.alloc dd.size _ | with_reducible exact (dz.alloc (Nat.le_refl _) _).drew | with_reducible exact (dd.alloc dd.size _).drew | with_reducible exact dd.drew))).mono ?_); rintro _ wA ⟨aA, nA, cA, rfl, oA, bA⟩; (try (first | (have SB := Lib.hid (SB.out.kept bA) ) | (have SB := Lib.hid (SB.out.kept (vnx (vbelow1 _ _) bA))))); (try (have HB := Lib.hid ((bA.block _ (by have := (Array.getElem?_eq_some_iff.1 HB.out).1; omega)).trans HB.out))); (try (have HB := Lib.hid ((bA.block _ (by show _ < (World.alloc _ _).heap.size; rw [World.size_alloc]; exact Nat.lt_succ_self _)).trans (heap_alloc_new _ _)); have hBge : w2.heap.size ≤ _ := dd.size)); (try (have HB := Lib.hid ((bA.block _ (lt_alloc_drew _ _)).trans (heap_alloc_drew _ _)); have hBge : w2.heap.size ≤ w2.heap.size := Nat.le_refl _)); (try (have hB' := HB.out; simp only [World.size_alloc, World.size_drew] at hB'; have HB := Lib.hid hB')); have dd := vnx (by first | with_reducible exact dd | with_reducible exact dd.alloc dd.size _ | with_reducible exact (dz.alloc (Nat.le_refl _) _).drew | with_reducible exact (dd.alloc dd.size _).drew | with_reducible exact dd.drew) bA; have SA := Lib.hid oA.tsl; clear oA)
       | (go_at_call 13; (with_reducible refine (HT'.out _ (vnx t2 (by first | with_reducible exact dd | with_reducible exact dd.alloc dd.size _ | with_reducible exact (dz.alloc (Nat.le_refl _) _).drew | with_reducible exact (dd.alloc dd.size _).drew | with_reducible exact dd.drew))).mono ?_); rintro _ wB ⟨aB, nB, cB, rfl, oB, bB⟩; (try (first | (have SA := Lib.hid (SA.out.kept bB) ) | (have SA := Lib.hid (SA.out.kept (vnx (vbelow1 _ _) bB))))); (try (have HB := Lib.hid ((bB.block _ (by have := (Array.getElem?_eq_some_iff.1 HB.out).1; omega)).trans HB.out))); (try (have HB := Lib.hid ((bB.block _ (by show _ < (World.alloc _ _).heap.size; rw [World.size_alloc]; exact Nat.lt_succ_self _)).trans (heap_alloc_new _ _)); have hBge : w2.heap.size ≤ _ := dd.size)); (try (have HB := Lib.hid ((bB.block _ (lt_alloc_drew _ _)).trans (heap_alloc_drew _ _)); have hBge : w2.heap.size ≤ w2.heap.size := Nat.le_refl _)); (try (have hB' := HB.out; simp only [World.size_alloc, World.size_drew] at hB'; have HB := Lib.hid hB')); have dd := vnx (by first | with_reducible exact dd | with_reducible exact dd.alloc dd.size _ | with_reducible exact (dz.alloc (Nat.le_refl _) _).drew | with_reducible exact (dd.alloc dd.size _).drew | with_reducible exact dd.drew) bB; have SB := Lib.hid oB.tsl; clear oB)
       | (go_at_call 33; (with_reducible refine (HCS.out _ _ _ (by first | with_reducible exact SA.out | with_reducible exact SA.out.kept (vbelow1 _ _)) (by first | with_reducible exact SB.out | with_reducible exact SB.out.kept (vbelow1 _ _))).mono ?_); rintro _ wC ⟨aC, nC, cC, rfl, oC, bC⟩; have HOC := Lib.hid oC; clear oC; have hpre := dd.size; (try (have hBlt := (Array.getElem?_eq_some_iff.1 HB.out).1)); (try (have HB := Lib.hid ((bC.block _ (by have := (Array.getElem?_eq_some_iff.1 HB.out).1; omega)).trans HB.out))); (try (have HB := Lib.hid ((bC.block _ (by show _ < (World.alloc _ _).heap.size; rw [World.size_alloc]; exact Nat.lt_succ_self _)).trans (heap_alloc_new _ _)); have hBge : w2.heap.size ≤ _ := dd.size)); (try (have HB := Lib.hid ((bC.block _ (lt_alloc_drew _ _)).trans (heap_alloc_drew _ _)); have hBge : w2.heap.size ≤ w2.heap.size := Nat.le_refl _)); (try (have hB' := HB.out; simp only [World.size_alloc, World.size_drew] at hB'; have HB := Lib.hid hB')); have dd := vnx (by first | with_reducible exact dd | with_reducible exact dd.alloc dd.size _ | with_reducible exact (dz.alloc (Nat.le_refl _) _).drew | with_reducible exact (dd.alloc dd.size _).drew | with_reducible exact dd.drew) bC; (try (have HG := five_kept (Below.refl _ _) HB.out; obtain ⟨g0, g1, g2, g3, g4, gf⟩ := HG; have gf0 := gf 0; have gf1 := gf 1; have gf2 := gf 2; have gf3 := gf 3; have gf4 := gf 4; clear gf)))
      )
    all_goals go_wp2_with fail
    all_goals go_meet
    all_goals
      case rel =>
        first
        | (with_reducible refine left_last ?_ dd HOC.out); first | exact hpre | (simp only [World.size_alloc]; omega)
        | (with_reducible refine left_early ?_ dd HOC.out HB.out ?_ ?_); (first | exact hpre | (simp only [World.size_alloc]; omega)); (first | exact hBge | omega | (simp only [World.size_alloc]; omega)); (first | exact hBlt | (simp only [World.size_alloc]; omega))
  case rest =>
    obtain ⟨BW, aW, nW, cW, loW, hiW, rfl, rfl, hl1W, hl2W, hl3W, hl4W, hl5W, KRW, ORW, HBW⟩ := hcut
    clear HK
    (try simp only [World.size_alloc] at hl1W hl4W)
    have tW := vnx t2 HBW.out
    have KA5 := Lib.hid (box5_kept HBW.out KA2.out)
    clear KA2
    have KB6 := Lib.hid (box5_kept HBW.out KB3.out)
    clear KB3
    have s7 := HBW.out.size
    (try simp only [World.size_alloc] at s7)
    obtain ⟨k0, k1, k2, k3, k4⟩ := KA5.out
    go_wp2_with fail
    refine (HT.out _ tW).mono ?_
    rintro _ w4 ⟨ax, nx', cx, rfl, ox, b4⟩
    have e4 := vbelow1 w4 (.cells #[.int .i64 t.kind, .int .i64 t.n, .int .i64 t.x, .string t.s, .slice ax nx' cx] 29)
    have f4 := vnx b4 e4
    have t4 := vnx tW f4
    clear k0 k1 k2 k3 k4
    have KA8 := Lib.hid (box5_kept f4 KA5.out)
    clear KA5
    have KB9 := Lib.hid (box5_kept f4 KB6.out)
    clear KB6
    have KW10 := Lib.hid (box5_kept f4 KRW.out)
    clear KRW
    have OW11 := Lib.hid (ORW.out.kept_bl (by (try simp only [World.size_alloc]); omega) f4)
    clear ORW
    have s12 := b4.size
    (try simp only [World.size_alloc] at s12)
    have OX4 := Lib.hid (ox.kept_bl (Nat.le_refl _) e4); clear ox
    have KX4 := Lib.hid (box5_new w4 (.int .i64 t.kind) (.int .i64 t.n) (.int .i64 t.x) (.string t.s) (.slice ax nx' cx) 29)
    obtain ⟨m0, m1, m2, m3, m4⟩ := KB9.out
    go_wp2_with fail
    refine (HT'.out _ t4).mono ?_
    rintro _ w5 ⟨ay, ny, cy, rfl, oy, b5⟩
    have e5 := vbelow1 w5 (.cells #[.int .i64 t'.kind, .int .i64 t'.n, .int .i64 t'.x, .string t'.s, .slice ay ny cy] 29)
    have f5 := vnx b5 e5
    have t5 := vnx t4 f5
    clear m0 m1 m2 m3 m4
    have KA13 := Lib.hid (box5_kept f5 KA8.out)
    clear KA8
    have KB14 := Lib.hid (box5_kept f5 KB9.out)
    clear KB9
    have KW15 := Lib.hid (box5_kept f5 KW10.out)
    clear KW10
    have OW16 := Lib.hid (OW11.out.kept_bl (by (try simp only [World.size_alloc]); omega) f5)
    clear OW11
    have OX17 := Lib.hid (OX4.out.kept_bl (by (try simp only [World.size_alloc]); omega) f5)
    clear OX4
    have KX18 := Lib.hid (box5_kept f5 KX4.out)
    clear KX4
    have s19 := b5.size
    (try simp only [World.size_alloc] at s19)
    have OY5 := Lib.hid (oy.kept_bl (Nat.le_refl _) e5); clear oy
    have KY5 := Lib.hid (box5_new w5 (.int .i64 t'.kind) (.int .i64 t'.n) (.int .i64 t'.x) (.string t'.s) (.slice ay ny cy) 29)
    obtain ⟨k0, k1, k2, k3, k4⟩ := KX18.out
    obtain ⟨m0, m1, m2, m3, m4⟩ := KY5.out
    go_wp2_with fail
    refine (HCI.out _ _ _ OX17.out.tsl OY5.out.tsl).mono ?_
    rintro _ w6 ⟨ag, ng, cg, rfl, og, b6⟩
    clear k0 k1 k2 k3 k4
    clear m0 m1 m2 m3 m4
    have e6 := vbelow1 w6 (.cells #[.int .i64 r.kind, .int .i64 r.n, .int .i64 r.x, .string r.s, .slice ag ng cg] 29)
    have f6 := vnx b6 e6
    have t6 := vnx t5 f6
    have KA20 := Lib.hid (box5_kept f6 KA13.out)
    clear KA13
    have KB21 := Lib.hid (box5_kept f6 KB14.out)
    clear KB14
    have KW22 := Lib.hid (box5_kept f6 KW15.out)
    clear KW15
    have OW23 := Lib.hid (OW16.out.kept_bl (by (try simp only [World.size_alloc]); omega) f6)
    clear OW16
    have OX24 := Lib.hid (OX17.out.kept_bl (by (try simp only [World.size_alloc]); omega) f6)
    clear OX17
    have KX25 := Lib.hid (box5_kept f6 KX18.out)
    clear KX18
    have OY26 := Lib.hid (OY5.out.kept_bl (by (try simp only [World.size_alloc]); omega) f6)
    clear OY5
    have KY27 := Lib.hid (box5_kept f6 KY5.out)
    clear KY5
    have s28 := b6.size
    (try simp only [World.size_alloc] at s28)
    have OG6 := Lib.hid (og.kept_bl (Nat.le_refl _) e6); clear og
    have KG6 := Lib.hid (box5_new w6 (.int .i64 r.kind) (.int .i64 r.n) (.int .i64 r.x) (.string r.s) (.slice ag ng cg) 29)
    obtain ⟨k0, k1, k2, k3, k4⟩ := KG6.out
    obtain ⟨m0, m1, m2, m3, m4⟩ := KW22.out
    go_wp2_with fail
    refine (HER.out _ _ _ OG6.out.tsl OW23.out.tsl).mono ?_
    rintro _ w7 ⟨rfl, b7⟩
    clear k0 k1 k2 k3 k4
    clear m0 m1 m2 m3 m4
    have t7 := vnx t6 b7
    have KA29 := Lib.hid (box5_kept b7 KA20.out)
    clear KA20
    have KB30 := Lib.hid (box5_kept b7 KB21.out)
    clear KB21
    have KW31 := Lib.hid (box5_kept b7 KW22.out)
    clear KW22
    have OW32 := Lib.hid (OW23.out.kept_bl (by (try simp only [World.size_alloc]); omega) b7)
    clear OW23
    have OX33 := Lib.hid (OX24.out.kept_bl (by (try simp only [World.size_alloc]); omega) b7)
    clear OX24
    have KX34 := Lib.hid (box5_kept b7 KX25.out)
    clear KX25
    have OY35 := Lib.hid (OY26.out.kept_bl (by (try simp only [World.size_alloc]); omega) b7)
    clear OY26
    have KY36 := Lib.hid (box5_kept b7 KY27.out)
    clear KY27
    have OG37 := Lib.hid (OG6.out.kept_bl (by (try simp only [World.size_alloc]); omega) b7)
    clear OG6
    have KG38 := Lib.hid (box5_kept b7 KG6.out)
    clear KG6
    have s39 := b7.size
    (try simp only [World.size_alloc] at s39)
    have HA1 : Hid (∀ w8, Below w7.heap.size w7 w8 → (w8.cell? ⟨w.heap.size, 0, none⟩ = some (.int .i64 t.kind) ∧ w8.cell? ⟨w.heap.size, 1, none⟩ = some (.int .i64 t.n) ∧ w8.cell? ⟨w.heap.size, 2, none⟩ = some (.int .i64 t.x) ∧ w8.cell? ⟨w.heap.size, 3, none⟩ = some (.string t.s) ∧ w8.cell? ⟨w.heap.size, 4, none⟩ = some ((.slice a n cap))) ∧ (w8.cell? ⟨w4.heap.size, 0, none⟩ = some (.int .i64 t.kind) ∧ w8.cell? ⟨w4.heap.size, 1, none⟩ = some (.int .i64 t.n) ∧ w8.cell? ⟨w4.heap.size, 2, none⟩ = some (.int .i64 t.x) ∧ w8.cell? ⟨w4.heap.size, 3, none⟩ = some (.string t.s) ∧ w8.cell? ⟨w4.heap.size, 4, none⟩ = some (.slice ax nx' cx))) := Lib.hid (fun w8 hb => ⟨box5_kept hb KA29.out, box5_kept hb KX34.out⟩)
    obtain ⟨k0, k1, k2, k3, k4⟩ := KA29.out
    obtain ⟨l0, l1, l2, l3, l4⟩ := KX34.out
    have x0 : Below w7.heap.size w7 w7.drew := (Below.refl _ _).drew
    go_wp2_with fail
    go_region_held3 (fun w8 => (w8.cell? ⟨w.heap.size, 0, none⟩ = some (.int .i64 t.kind) ∧ w8.cell? ⟨w.heap.size, 1, none⟩ = some (.int .i64 t.n) ∧ w8.cell? ⟨w.heap.size, 2, none⟩ = some (.int .i64 t.x) ∧ w8.cell? ⟨w.heap.size, 3, none⟩ = some (.string t.s) ∧ w8.cell? ⟨w.heap.size, 4, none⟩ = some ((.slice a n cap))) ∧ (w8.cell? ⟨w4.heap.size, 0, none⟩ = some (.int .i64 t.kind) ∧ w8.cell? ⟨w4.heap.size, 1, none⟩ = some (.int .i64 t.n) ∧ w8.cell? ⟨w4.heap.size, 2, none⟩ = some (.int .i64 t.x) ∧ w8.cell? ⟨w4.heap.size, 3, none⟩ = some (.string t.s) ∧ w8.cell? ⟨w4.heap.size, 4, none⟩ = some (.slice ax nx' cx))) (first | exact HA1.out _ x2 | exact HA1.out _ x1 | exact HA1.out _ x0)
      (first
       | (go_at_call 13; (with_reducible refine (HT.out _ (vnx t7 x0)).mono ?_); rintro _ w8 ⟨a8, n8, c8, rfl, o8, b8⟩; have x1 := vnx x0 b8; have S8 := Lib.hid o8.tsl; have S48 := Lib.hid (OX33.out.kept_bl (by (try simp only [World.size_alloc]); omega) x1).tsl; clear o8)
       | (go_at_call 15; refine (HE.out _ _ _ S48.out S8.out).mono ?_; rintro _ w9_1 ⟨rfl, b9⟩; have x2 := vnx x1 b9))
    all_goals
      have T1 := vnx t7 x2
      clear k0 k1 k2 k3 k4
      clear l0 l1 l2 l3 l4
      clear HA1 S8 S48
      have KA40 := Lib.hid (box5_kept x2 KA29.out)
      clear KA29
      have KB41 := Lib.hid (box5_kept x2 KB30.out)
      clear KB30
      have KW42 := Lib.hid (box5_kept x2 KW31.out)
      clear KW31
      have OW43 := Lib.hid (OW32.out.kept_bl (by (try simp only [World.size_alloc]); omega) x2)
      clear OW32
      have OX44 := Lib.hid (OX33.out.kept_bl (by (try simp only [World.size_alloc]); omega) x2)
      clear OX33
      have KX45 := Lib.hid (box5_kept x2 KX34.out)
      clear KX34
      have OY46 := Lib.hid (OY35.out.kept_bl (by (try simp only [World.size_alloc]); omega) x2)
      clear OY35
      have KY47 := Lib.hid (box5_kept x2 KY36.out)
      clear KY36
      have OG48 := Lib.hid (OG37.out.kept_bl (by (try simp only [World.size_alloc]); omega) x2)
      clear OG37
      have KG49 := Lib.hid (box5_kept x2 KG38.out)
      clear KG38
      have s50 := x2.size
      (try simp only [World.size_alloc] at s50)
      clear x0 x1 x2 b8 b9
      have HA2 : Hid (∀ w8, Below w9_1.heap.size w9_1 w8 → (w8.cell? ⟨w.heap.size + 1, 0, none⟩ = some (.int .i64 t'.kind) ∧ w8.cell? ⟨w.heap.size + 1, 1, none⟩ = some (.int .i64 t'.n) ∧ w8.cell? ⟨w.heap.size + 1, 2, none⟩ = some (.int .i64 t'.x) ∧ w8.cell? ⟨w.heap.size + 1, 3, none⟩ = some (.string t'.s) ∧ w8.cell? ⟨w.heap.size + 1, 4, none⟩ = some ((.slice a' n' cap'))) ∧ (w8.cell? ⟨w5.heap.size, 0, none⟩ = some (.int .i64 t'.kind) ∧ w8.cell? ⟨w5.heap.size, 1, none⟩ = some (.int .i64 t'.n) ∧ w8.cell? ⟨w5.heap.size, 2, none⟩ = some (.int .i64 t'.x) ∧ w8.cell? ⟨w5.heap.size, 3, none⟩ = some (.string t'.s) ∧ w8.cell? ⟨w5.heap.size, 4, none⟩ = some (.slice ay ny cy))) := Lib.hid (fun w8 hb => ⟨box5_kept hb KB41.out, box5_kept hb KY47.out⟩)
      obtain ⟨k0, k1, k2, k3, k4⟩ := KB41.out
      obtain ⟨l0, l1, l2, l3, l4⟩ := KY47.out
      have x0 : Below w9_1.heap.size w9_1 w9_1.drew := (Below.refl _ _).drew
      go_wp2_with fail
      go_region_held3 (fun w8 => (w8.cell? ⟨w.heap.size + 1, 0, none⟩ = some (.int .i64 t'.kind) ∧ w8.cell? ⟨w.heap.size + 1, 1, none⟩ = some (.int .i64 t'.n) ∧ w8.cell? ⟨w.heap.size + 1, 2, none⟩ = some (.int .i64 t'.x) ∧ w8.cell? ⟨w.heap.size + 1, 3, none⟩ = some (.string t'.s) ∧ w8.cell? ⟨w.heap.size + 1, 4, none⟩ = some ((.slice a' n' cap'))) ∧ (w8.cell? ⟨w5.heap.size, 0, none⟩ = some (.int .i64 t'.kind) ∧ w8.cell? ⟨w5.heap.size, 1, none⟩ = some (.int .i64 t'.n) ∧ w8.cell? ⟨w5.heap.size, 2, none⟩ = some (.int .i64 t'.x) ∧ w8.cell? ⟨w5.heap.size, 3, none⟩ = some (.string t'.s) ∧ w8.cell? ⟨w5.heap.size, 4, none⟩ = some (.slice ay ny cy))) (first | exact HA2.out _ x2 | exact HA2.out _ x1 | exact HA2.out _ x0)
        (first
         | (go_at_call 13; (with_reducible refine (HT'.out _ (vnx T1 x0)).mono ?_); rintro _ w8 ⟨a8, n8, c8, rfl, o8, b8⟩; have x1 := vnx x0 b8; have S8 := Lib.hid o8.tsl; have S48 := Lib.hid (OY46.out.kept_bl (by (try simp only [World.size_alloc]); omega) x1).tsl; clear o8)
         | (go_at_call 15; refine (HE'.out _ _ _ S48.out S8.out).mono ?_; rintro _ w9_2 ⟨rfl, b9⟩; have x2 := vnx x1 b9))
      all_goals
        have T2 := vnx T1 x2
        clear k0 k1 k2 k3 k4
        clear l0 l1 l2 l3 l4
        clear HA2 S8 S48
        have KA51 := Lib.hid (box5_kept x2 KA40.out)
        clear KA40
        have KB52 := Lib.hid (box5_kept x2 KB41.out)
        clear KB41
        have KW53 := Lib.hid (box5_kept x2 KW42.out)
        clear KW42
        have OW54 := Lib.hid (OW43.out.kept_bl (by (try simp only [World.size_alloc]); omega) x2)
        clear OW43
        have OX55 := Lib.hid (OX44.out.kept_bl (by (try simp only [World.size_alloc]); omega) x2)
        clear OX44
        have KX56 := Lib.hid (box5_kept x2 KX45.out)
        clear KX45
        have OY57 := Lib.hid (OY46.out.kept_bl (by (try simp only [World.size_alloc]); omega) x2)
        clear OY46
        have KY58 := Lib.hid (box5_kept x2 KY47.out)
        clear KY47
        have OG59 := Lib.hid (OG48.out.kept_bl (by (try simp only [World.size_alloc]); omega) x2)
        clear OG48
        have KG60 := Lib.hid (box5_kept x2 KG49.out)
        clear KG49
        have s61 := x2.size
        (try simp only [World.size_alloc] at s61)
        clear x0 x1 x2 b8 b9
        obtain ⟨l0, l1, l2, l3, l4⟩ := KX56.out
        go_wp2_with fail
        refine (markVal_c t _ _ _ _ _ 1 (by omega) (by omega) (fun b hb => by have h2 := hb.2; (try simp only [World.size_alloc] at h2); (try simp only [World.size_alloc]); omega) OX55.out).mono ?_
        rintro _ w10 ⟨rfl, ow10, f10⟩
        clear l0 l1 l2 l3 l4
        have t10 := Fr.below T2 f10 (fun b hb => by have h1 := hb.1; (try simp only [World.size_alloc] at h1); omega) T2.size
        clear OX55
        have KA62 := Lib.hid (box5_fr KA51.out f10 (fun hb => by have h1 := hb.1; have h2 := hb.2; (try simp only [World.size_alloc] at h1); (try simp only [World.size_alloc] at h2); omega))
        clear KA51
        have KB63 := Lib.hid (box5_fr KB52.out f10 (fun hb => by have h1 := hb.1; have h2 := hb.2; (try simp only [World.size_alloc] at h1); (try simp only [World.size_alloc] at h2); omega))
        clear KB52
        have KW64 := Lib.hid (box5_fr KW53.out f10 (fun hb => by have h1 := hb.1; have h2 := hb.2; (try simp only [World.size_alloc] at h1); (try simp only [World.size_alloc] at h2); omega))
        clear KW53
        have OW65 := Lib.hid (OW54.out.kept_fr (by (try simp only [World.size_alloc]); omega) f10 (fun b hb => by have h1 := hb.1; have h2 := hb.2; (try simp only [World.size_alloc] at h1); (try simp only [World.size_alloc] at h2); (try simp only [World.size_alloc]); omega))
        clear OW54
        have KX66 := Lib.hid (box5_fr KX56.out f10 (fun hb => by have h1 := hb.1; have h2 := hb.2; (try simp only [World.size_alloc] at h1); (try simp only [World.size_alloc] at h2); omega))
        clear KX56
        have OY67 := Lib.hid (OY57.out.kept_fr (by (try simp only [World.size_alloc]); omega) f10 (fun b hb => by have h1 := hb.1; have h2 := hb.2; (try simp only [World.size_alloc] at h1); (try simp only [World.size_alloc] at h2); (try simp only [World.size_alloc]); omega))
        clear OY57
        have KY68 := Lib.hid (box5_fr KY58.out f10 (fun hb => by have h1 := hb.1; have h2 := hb.2; (try simp only [World.size_alloc] at h1); (try simp only [World.size_alloc] at h2); omega))
        clear KY58
        have OG69 := Lib.hid (OG59.out.kept_fr (by (try simp only [World.size_alloc]); omega) f10 (fun b hb => by have h1 := hb.1; have h2 := hb.2; (try simp only [World.size_alloc] at h1); (try simp only [World.size_alloc] at h2); (try simp only [World.size_alloc]); omega))
        clear OG59
        have KG70 := Lib.hid (box5_fr KG60.out f10 (fun hb => by have h1 := hb.1; have h2 := hb.2; (try simp only [World.size_alloc] at h1); (try simp only [World.size_alloc] at h2); omega))
        clear KG60
        have s71 := f10.size
        (try simp only [World.size_alloc] at s71)
        clear ow10
        obtain ⟨l0, l1, l2, l3, l4⟩ := KY68.out
        go_wp2_with fail
        refine (markVal_c t' _ _ _ _ _ (1 + 4 * szL t.l) (by omega) (by omega) (fun b hb => by have h2 := hb.2; (try simp only [World.size_alloc] at h2); (try simp only [World.size_alloc]); omega) OY67.out).mono ?_
        rintro _ w11 ⟨rfl, ow11, f11⟩
        clear l0 l1 l2 l3 l4
        have t11 := Fr.below t10 f11 (fun b hb => by have h1 := hb.1; (try simp only [World.size_alloc] at h1); omega) t10.size
        clear OY67
        have KA72 := Lib.hid (box5_fr KA62.out f11 (fun hb => by have h1 := hb.1; have h2 := hb.2; (try simp only [World.size_alloc] at h1); (try simp only [World.size_alloc] at h2); omega))
        clear KA62
        have KB73 := Lib.hid (box5_fr KB63.out f11 (fun hb => by have h1 := hb.1; have h2 := hb.2; (try simp only [World.size_alloc] at h1); (try simp only [World.size_alloc] at h2); omega))
        clear KB63
        have KW74 := Lib.hid (box5_fr KW64.out f11 (fun hb => by have h1 := hb.1; have h2 := hb.2; (try simp only [World.size_alloc] at h1); (try simp only [World.size_alloc] at h2); omega))
        clear KW64
        have OW75 := Lib.hid (OW65.out.kept_fr (by (try simp only [World.size_alloc]); omega) f11 (fun b hb => by have h1 := hb.1; have h2 := hb.2; (try simp only [World.size_alloc] at h1); (try simp only [World.size_alloc] at h2); (try simp only [World.size_alloc]); omega))
        clear OW65
        have KX76 := Lib.hid (box5_fr KX66.out f11 (fun hb => by have h1 := hb.1; have h2 := hb.2; (try simp only [World.size_alloc] at h1); (try simp only [World.size_alloc] at h2); omega))
        clear KX66
        have KY77 := Lib.hid (box5_fr KY68.out f11 (fun hb => by have h1 := hb.1; have h2 := hb.2; (try simp only [World.size_alloc] at h1); (try simp only [World.size_alloc] at h2); omega))
        clear KY68
        have OG78 := Lib.hid (OG69.out.kept_fr (by (try simp only [World.size_alloc]); omega) f11 (fun b hb => by have h1 := hb.1; have h2 := hb.2; (try simp only [World.size_alloc] at h1); (try simp only [World.size_alloc] at h2); (try simp only [World.size_alloc]); omega))
        clear OG69
        have KG79 := Lib.hid (box5_fr KG70.out f11 (fun hb => by have h1 := hb.1; have h2 := hb.2; (try simp only [World.size_alloc] at h1); (try simp only [World.size_alloc] at h2); omega))
        clear KG70
        have s80 := f11.size
        (try simp only [World.size_alloc] at s80)
        clear ow11
        have hneg : decide (((1 + 4 * szL t.l + 4 * szL t'.l : Nat) : Int) < 0) = false := decide_eq_false (by omega)
        obtain ⟨k0, k1, k2, k3, k4⟩ := KG79.out
        obtain ⟨m0, m1, m2, m3, m4⟩ := KW74.out
        go_wp2_with fail
        refine (HER.out _ _ _ OG78.out.tsl OW75.out.tsl).mono ?_
        rintro _ w12 ⟨rfl, b12⟩
        clear k0 k1 k2 k3 k4
        clear m0 m1 m2 m3 m4
        have t12 := vnx t11 b12
        have KA81 := Lib.hid (box5_kept b12 KA72.out)
        clear KA72
        have KB82 := Lib.hid (box5_kept b12 KB73.out)
        clear KB73
        have KW83 := Lib.hid (box5_kept b12 KW74.out)
        clear KW74
        have OW84 := Lib.hid (OW75.out.kept_bl (by (try simp only [World.size_alloc]); omega) b12)
        clear OW75
        have KX85 := Lib.hid (box5_kept b12 KX76.out)
        clear KX76
        have KY86 := Lib.hid (box5_kept b12 KY77.out)
        clear KY77
        have OG87 := Lib.hid (OG78.out.kept_bl (by (try simp only [World.size_alloc]); omega) b12)
        clear OG78
        have KG88 := Lib.hid (box5_kept b12 KG79.out)
        clear KG79
        have s89 := b12.size
        (try simp only [World.size_alloc] at s89)
        obtain ⟨l0, l1, l2, l3, l4⟩ := KG88.out
        go_wp2_with fail
        refine (markVal_c r _ _ _ _ _ 1 (by omega) (by omega) (fun b hb => by have h2 := hb.2; (try simp only [World.size_alloc] at h2); (try simp only [World.size_alloc]); omega) OG87.out).mono ?_
        rintro _ w13 ⟨rfl, ow13, f13⟩
        clear l0 l1 l2 l3 l4
        have t13 := Fr.below t12 f13 (fun b hb => by have h1 := hb.1; (try simp only [World.size_alloc] at h1); omega) t12.size
        clear OG87
        have KA90 := Lib.hid (box5_fr KA81.out f13 (fun hb => by have h1 := hb.1; have h2 := hb.2; (try simp only [World.size_alloc] at h1); (try simp only [World.size_alloc] at h2); omega))
        clear KA81
        have KB91 := Lib.hid (box5_fr KB82.out f13 (fun hb => by have h1 := hb.1; have h2 := hb.2; (try simp only [World.size_alloc] at h1); (try simp only [World.size_alloc] at h2); omega))
        clear KB82
        have KW92 := Lib.hid (box5_fr KW83.out f13 (fun hb => by have h1 := hb.1; have h2 := hb.2; (try simp only [World.size_alloc] at h1); (try simp only [World.size_alloc] at h2); omega))
        clear KW83
        have OW93 := Lib.hid (OW84.out.kept_fr (by (try simp only [World.size_alloc]); omega) f13 (fun b hb => by have h1 := hb.1; have h2 := hb.2; (try simp only [World.size_alloc] at h1); (try simp only [World.size_alloc] at h2); (try simp only [World.size_alloc]); omega))
        clear OW84
        have KX94 := Lib.hid (box5_fr KX85.out f13 (fun hb => by have h1 := hb.1; have h2 := hb.2; (try simp only [World.size_alloc] at h1); (try simp only [World.size_alloc] at h2); omega))
        clear KX85
        have KY95 := Lib.hid (box5_fr KY86.out f13 (fun hb => by have h1 := hb.1; have h2 := hb.2; (try simp only [World.size_alloc] at h1); (try simp only [World.size_alloc] at h2); omega))
        clear KY86
        have KG96 := Lib.hid (box5_fr KG88.out f13 (fun hb => by have h1 := hb.1; have h2 := hb.2; (try simp only [World.size_alloc] at h1); (try simp only [World.size_alloc] at h2); omega))
        clear KG88
        have s97 := f13.size
        (try simp only [World.size_alloc] at s97)
        have OMw13 := Lib.hid ow13; clear ow13
        obtain ⟨l0, l1, l2, l3, l4⟩ := KG96.out
        go_wp2_with fail
        refine (heldVal_c r _ _ _ _ 1 (by omega) (by omega) OMw13.out.tsl).mono ?_
        rintro _ w14 ⟨rfl, b14⟩
        have t14 := vnx t13 b14
        clear l0 l1 l2 l3 l4
        have KA98 := Lib.hid (box5_kept b14 KA90.out)
        clear KA90
        have KB99 := Lib.hid (box5_kept b14 KB91.out)
        clear KB91
        have KW100 := Lib.hid (box5_kept b14 KW92.out)
        clear KW92
        have OW101 := Lib.hid (OW93.out.kept_bl (by (try simp only [World.size_alloc]); omega) b14)
        clear OW93
        have KX102 := Lib.hid (box5_kept b14 KX94.out)
        clear KX94
        have KY103 := Lib.hid (box5_kept b14 KY95.out)
        clear KY95
        have KG104 := Lib.hid (box5_kept b14 KG96.out)
        clear KG96
        have OG105 := Lib.hid (OMw13.out.kept_bl (by (try simp only [World.size_alloc]); omega) b14)
        clear OMw13
        have s106 := b14.size
        (try simp only [World.size_alloc] at s106)
        have hnn : (((1 + 4 * szL r.l : Nat) : Int) != ((1 + 4 * szL r.l : Nat) : Int)) = false := by simp
        have hneg2 : decide (((1 + 4 * szL r.l : Nat) : Int) < 0) = false := decide_eq_false (by omega)
        have HK : Hid (∀ w3, Below w14.heap.size w14 w3 → (w3.cell? ⟨w.heap.size, 0, none⟩ = some (.int .i64 t.kind) ∧ w3.cell? ⟨w.heap.size, 1, none⟩ = some (.int .i64 t.n) ∧ w3.cell? ⟨w.heap.size, 2, none⟩ = some (.int .i64 t.x) ∧ w3.cell? ⟨w.heap.size, 3, none⟩ = some (.string t.s) ∧ w3.cell? ⟨w.heap.size, 4, none⟩ = some ((.slice a n cap))) ∧ (w3.cell? ⟨w.heap.size + 1, 0, none⟩ = some (.int .i64 t'.kind) ∧ w3.cell? ⟨w.heap.size + 1, 1, none⟩ = some (.int .i64 t'.n) ∧ w3.cell? ⟨w.heap.size + 1, 2, none⟩ = some (.int .i64 t'.x) ∧ w3.cell? ⟨w.heap.size + 1, 3, none⟩ = some (.string t'.s) ∧ w3.cell? ⟨w.heap.size + 1, 4, none⟩ = some ((.slice a' n' cap')))) := Lib.hid (fun w3 hb => ⟨box5_kept hb KA98.out, box5_kept hb KB99.out⟩)
        go_upto_region 31 with fail
        go_cut [15, 16] (fun s6 s7 wx => Left w14 wx r bb s6 s7)
        case first =>
          obtain ⟨k0, k1, k2, k3, k4⟩ := KA98.out
          obtain ⟨m0, m1, m2, m3, m4⟩ := KB99.out
          have dd : Below w14.heap.size w14 w14.drew := (Below.refl _ _).drew
          have dz : Below w14.heap.size w14 w14 := Below.refl _ _
          go_wp2_with fail
          go_region_held3 (fun w3 => (w3.cell? ⟨w.heap.size, 0, none⟩ = some (.int .i64 t.kind) ∧ w3.cell? ⟨w.heap.size, 1, none⟩ = some (.int .i64 t.n) ∧ w3.cell? ⟨w.heap.size, 2, none⟩ = some (.int .i64 t.x) ∧ w3.cell? ⟨w.heap.size, 3, none⟩ = some (.string t.s) ∧ w3.cell? ⟨w.heap.size, 4, none⟩ = some ((.slice a n cap))) ∧ (w3.cell? ⟨w.heap.size + 1, 0, none⟩ = some (.int .i64 t'.kind) ∧ w3.cell? ⟨w.heap.size + 1, 1, none⟩ = some (.int .i64 t'.n) ∧ w3.cell? ⟨w.heap.size + 1, 2, none⟩ = some (.int .i64 t'.x) ∧ w3.cell? ⟨w.heap.size + 1, 3, none⟩ = some (.string t'.s) ∧ w3.cell? ⟨w.heap.size + 1, 4, none⟩ = some ((.slice a' n' cap')))) (first | with_reducible exact HK.out _ dd | with_reducible exact HK.out _ (dd.alloc dd.size _) | with_reducible exact HK.out _ (dz.alloc (Nat.le_refl _) _).drew | with_reducible exact HK.out _ (dz.alloc (Nat.le_refl _) _) | with_reducible exact HK.out _ (dd.alloc dd.size _).drew | with_reducible exact HK.out _ dd.drew | with_reducible exact HK.out _ (by (repeat (refine Below.setCell ?_ (by first | (dsimp only; omega) | (simp only [World.size_alloc]; omega)) _)); exact dd))
            (first
             | (go_at_call 13; (with_reducible refine (HT.out _ (vnx t14 (by first | with_reducible exact dd | with_reducible exact dd.alloc dd.size _ | with_reducible exact (dz.alloc (Nat.le_refl _) _).drew | with_reducible exact (dd.alloc dd.size _).drew | with_reducible exact dd.drew))).mono ?_); rintro _ wA ⟨aA, nA, cA, rfl, oA, bA⟩; (try (first | (have SB := Lib.hid (SB.out.kept bA) ) | (have SB := Lib.hid (SB.out.kept (vnx (vbelow1 _ _) bA))))); (try (have HB := Lib.hid ((bA.block _ (by have := (Array.getElem?_eq_some_iff.1 HB.out).1; omega)).trans HB.out))); (try (have HB := Lib.hid ((bA.block _ (by show _ < (World.alloc _ _).heap.size; rw [World.size_alloc]; exact Nat.lt_succ_self _)).trans (heap_alloc_new _ _)); have hBge : w14.heap.size ≤ _ := dd.size)); (try (have HB := Lib.hid ((bA.block _ (lt_alloc_drew _ _)).trans (heap_alloc_drew _ _)); have hBge : w14.heap.size ≤ w14.heap.size := Nat.le_refl _)); (try (have hB' := HB.out; simp only [World.size_alloc, World.size_drew] at hB'; have HB := Lib.hid hB')); have dd := vnx (by first | with_reducible exact dd | with_reducible exact dd.alloc dd.size _ | with_reducible exact (dz.alloc (Nat.le_refl _) _).drew | with_reducible exact (dd.alloc dd.size _).drew | with_reducible exact dd.drew) bA; have SA := Lib.hid oA.tsl; clear oA)
             | (go_at_call 13; (with_reducible refine (HT'.out _ (vnx t14 (by first | with_reducible exact dd | with_reducible exact dd.alloc dd.size _ | with_reducible exact (dz.alloc (Nat.le_refl _) _).drew | with_reducible exact (dd.alloc dd.size _).drew | with_reducible exact dd.drew))).mono ?_); rintro _ wB ⟨aB, nB, cB, rfl, oB, bB⟩; (try (first | (have SA := Lib.hid (SA.out.kept bB) ) | (have SA := Lib.hid (SA.out.kept (vnx (vbelow1 _ _) bB))))); (try (have HB := Lib.hid ((bB.block _ (by have := (Array.getElem?_eq_some_iff.1 HB.out).1; omega)).trans HB.out))); (try (have HB := Lib.hid ((bB.block _ (by show _ < (World.alloc _ _).heap.size; rw [World.size_alloc]; exact Nat.lt_succ_self _)).trans (heap_alloc_new _ _)); have hBge : w14.heap.size ≤ _ := dd.size)); (try (have HB := Lib.hid ((bB.block _ (lt_alloc_drew _ _)).trans (heap_alloc_drew _ _)); have hBge : w14.heap.size ≤ w14.heap.size := Nat.le_refl _)); (try (have hB' := HB.out; simp only [World.size_alloc, World.size_drew] at hB'; have HB := Lib.hid hB')); have dd := vnx (by first | with_reducible exact dd | with_reducible exact dd.alloc dd.size _ | with_reducible exact (dz.alloc (Nat.le_refl _) _).drew | with_reducible exact (dd.alloc dd.size _).drew | with_reducible exact dd.drew) bB; have SB := Lib.hid oB.tsl; clear oB)
             | (go_at_call 34; (with_reducible refine (HCI.out _ _ _ (by first | with_reducible exact SA.out | with_reducible exact SA.out.kept (vbelow1 _ _)) (by first | with_reducible exact SB.out | with_reducible exact SB.out.kept (vbelow1 _ _))).mono ?_); rintro _ wC ⟨aC, nC, cC, rfl, oC, bC⟩; have HOC := Lib.hid oC; clear oC; have hpre := dd.size; (try (have hBlt := (Array.getElem?_eq_some_iff.1 HB.out).1)); (try (have HB := Lib.hid ((bC.block _ (by have := (Array.getElem?_eq_some_iff.1 HB.out).1; omega)).trans HB.out))); (try (have HB := Lib.hid ((bC.block _ (by show _ < (World.alloc _ _).heap.size; rw [World.size_alloc]; exact Nat.lt_succ_self _)).trans (heap_alloc_new _ _)); have hBge : w14.heap.size ≤ _ := dd.size)); (try (have HB := Lib.hid ((bC.block _ (lt_alloc_drew _ _)).trans (heap_alloc_drew _ _)); have hBge : w14.heap.size ≤ w14.heap.size := Nat.le_refl _)); (try (have hB' := HB.out; simp only [World.size_alloc, World.size_drew] at hB'; have HB := Lib.hid hB')); have dd := vnx (by first | with_reducible exact dd | with_reducible exact dd.alloc dd.size _ | with_reducible exact (dz.alloc (Nat.le_refl _) _).drew | with_reducible exact (dd.alloc dd.size _).drew | with_reducible exact dd.drew) bC; (try (have HG := five_kept (Below.refl _ _) HB.out; obtain ⟨g0, g1, g2, g3, g4, gf⟩ := HG; have gf0 := gf 0; have gf1 := gf 1; have gf2 := gf 2; have gf3 := gf 3; have gf4 := gf 4; clear gf)))
            )
          all_goals go_wp2_with fail
          all_goals go_meet
          all_goals
            case rel =>
              first
              | (with_reducible refine left_last ?_ dd HOC.out); first | exact hpre | (simp only [World.size_alloc]; omega)
              | (with_reducible refine left_early ?_ dd HOC.out HB.out ?_ ?_); (first | exact hpre | (simp only [World.size_alloc]; omega)); (first | exact hBge | omega | (simp only [World.size_alloc]; omega)); (first | exact hBlt | (simp only [World.size_alloc]; omega))
        case rest =>
          obtain ⟨BH, aH, nH, cH, loH, hiH, rfl, rfl, hl1H, hl2H, hl3H, hl4H, hl5H, KRH, ORH, HBH⟩ := hcut
          clear HK
          (try simp only [World.size_alloc] at hl1H hl4H)
          have tH := vnx t14 HBH.out
          have KA107 := Lib.hid (box5_kept HBH.out KA98.out)
          clear KA98
          have KB108 := Lib.hid (box5_kept HBH.out KB99.out)
          clear KB99
          have KW109 := Lib.hid (box5_kept HBH.out KW100.out)
          clear KW100
          have OW110 := Lib.hid (OW101.out.kept_bl (by (try simp only [World.size_alloc]); omega) HBH.out)
          clear OW101
          have KX111 := Lib.hid (box5_kept HBH.out KX102.out)
          clear KX102
          have KY112 := Lib.hid (box5_kept HBH.out KY103.out)
          clear KY103
          have KG113 := Lib.hid (box5_kept HBH.out KG104.out)
          clear KG104
          have OG114 := Lib.hid (OG105.out.kept_bl (by (try simp only [World.size_alloc]); omega) HBH.out)
          clear OG105
          have s115 := HBH.out.size
          (try simp only [World.size_alloc] at s115)
          obtain ⟨k0, k1, k2, k3, k4⟩ := KRH.out
          obtain ⟨m0, m1, m2, m3, m4⟩ := KW109.out
          go_wp2_with fail
          refine (HER.out _ _ _ ORH.out.tsl OW110.out.tsl).mono ?_
          rintro _ w15 ⟨rfl, b15⟩
          clear k0 k1 k2 k3 k4
          clear m0 m1 m2 m3 m4
          have t15 := vnx tH b15
          have KA116 := Lib.hid (box5_kept b15 KA107.out)
          clear KA107
          have KB117 := Lib.hid (box5_kept b15 KB108.out)
          clear KB108
          have KW118 := Lib.hid (box5_kept b15 KW109.out)
          clear KW109
          have OW119 := Lib.hid (OW110.out.kept_bl (by (try simp only [World.size_alloc]); omega) b15)
          clear OW110
          have KX120 := Lib.hid (box5_kept b15 KX111.out)
          clear KX111
          have KY121 := Lib.hid (box5_kept b15 KY112.out)
          clear KY112
          have KG122 := Lib.hid (box5_kept b15 KG113.out)
          clear KG113
          have OG123 := Lib.hid (OG114.out.kept_bl (by (try simp only [World.size_alloc]); omega) b15)
          clear OG114
          have KH124 := Lib.hid (box5_kept b15 KRH.out)
          clear KRH
          have OH125 := Lib.hid (ORH.out.kept_bl (by (try simp only [World.size_alloc]); omega) b15)
          clear ORH
          have s126 := b15.size
          (try simp only [World.size_alloc] at s126)
          obtain ⟨l0, l1, l2, l3, l4⟩ := KG122.out
          go_wp2_with fail
          refine (heldVal_c r _ _ _ _ 1 (by omega) (by omega) OG123.out.tsl).mono ?_
          rintro _ w16 ⟨rfl, b16⟩
          have t16 := vnx t15 b16
          clear l0 l1 l2 l3 l4
          have KA127 := Lib.hid (box5_kept b16 KA116.out)
          clear KA116
          have KB128 := Lib.hid (box5_kept b16 KB117.out)
          clear KB117
          have KW129 := Lib.hid (box5_kept b16 KW118.out)
          clear KW118
          have OW130 := Lib.hid (OW119.out.kept_bl (by (try simp only [World.size_alloc]); omega) b16)
          clear OW119
          have KX131 := Lib.hid (box5_kept b16 KX120.out)
          clear KX120
          have KY132 := Lib.hid (box5_kept b16 KY121.out)
          clear KY121
          have KG133 := Lib.hid (box5_kept b16 KG122.out)
          clear KG122
          have OG134 := Lib.hid (OG123.out.kept_bl (by (try simp only [World.size_alloc]); omega) b16)
          clear OG123
          have KH135 := Lib.hid (box5_kept b16 KH124.out)
          clear KH124
          have OH136 := Lib.hid (OH125.out.kept_bl (by (try simp only [World.size_alloc]); omega) b16)
          clear OH125
          have s137 := b16.size
          (try simp only [World.size_alloc] at s137)
          go_wp2_with fail
          go_ret
          exact ⟨rfl, t16⟩
namespace fnExactLookup
theorem walk : LawWalk 9 Try.f9 := by
  intro H enc W base args ds p hval0 hA0
  have hval : ∀ (j : Nat) t v, Try.f9.params[j]? = some t → args[j]? = some v → Value.okWide Try.prog W .any base t v := hval0
  have hA : DataW.TrodAll enc Try.prog W 0 (fun _ => true) true Try.f9.params.toList args.toList ds p := hA0
  clear hval0 hA0
  rw [Try.params9] at hA hval
  obtain ⟨v0, vs0, d0, ds0, p0, q0, hargs, rfl, rfl, h0, r0⟩ := trodAll_cons hA
  obtain ⟨v1, vs1, d1, ds1, p1, q1, rfl, rfl, rfl, h1, r1⟩ := trodAll_cons r0
  obtain ⟨rfl, rfl, rfl⟩ := trodAll_nil r1
  obtain rfl : args = #[v0, v1] := by cases args; simp_all
  obtain ⟨t0, u0, rfl, w0, x0⟩ := open_val Try.underlying24 (by kernel_rfl) (by kernel_rfl) Try.underlying3 Try.underlying3 Try.underlying3 Try.underlying9 Try.underlying22 (hval 0 24 v0 rfl rfl) h0
  obtain ⟨t1, u1, rfl, w1, x1⟩ := open_val Try.underlying24 (by kernel_rfl) (by kernel_rfl) Try.underlying3 Try.underlying3 Try.underlying3 Try.underlying9 Try.underlying22 (hval 1 24 v1 rfl rfl) h1
  exact lookup_law t0 u0 t1 u1 W w0 x0 w1 x1
set_option maxRecDepth 100000 in
theorem lifted (os : Os) (started : os.Started) (H : Type) (enc : TypeId × Value → H) :
    ReturnsInHanded {} Try.checked os 9 .any (Rows.fnExactLookupSpec.pre6 enc Try.prog Try.f9 [] false) (Rows.fnExactLookupSpec.post enc Try.prog Try.f9 false true false false) :=
  law_lifted 9 Try.f9 Rows.fnExactLookupSpec os started H enc (by kernel_rfl) Try.func9 rfl rfl (by kernel_rfl)
    (fun ds h => by match ds, h with | [_, _], _ => rfl)
    (ChangeSpec.witness6 (enc := enc) (C := Try.checked) false ⟨#[], #[.agg #[.int .i64 0, .int .i64 0, .int .i64 0, .string ByteArray.empty, .slice none 0 0], .agg #[.int .i64 0, .int .i64 0, .int .i64 0, .string ByteArray.empty, .slice none 0 0]], []⟩ 8 (by kernel_rfl) (by kernel_rfl) (by kernel_rfl) (by kernel_rfl)) walk
theorem proved : Rows.FnExactLookupSaid :=
  OpenClaim.holds_of_wide 9 Try.f9 rfl rfl rfl rfl rfl rfl rfl ⟨rfl, rfl, rfl, rfl, rfl⟩ rfl rfl rfl rfl rfl (by kernel_rfl) Try.func9 (by kernel_rfl)
    (of_decide_eq_true (by kernel_rfl)) (by unfold Func.isWrapper; first | (rw [if_pos (by decide +kernel)]; kernel_rfl) | (rw [if_neg (by decide +kernel)]; exact ⟨rfl, rfl⟩))
    (fun os started H enc _ => lifted os started H enc)
#print axioms proved
end fnExactLookup
end Go.Proofs.Ytjkjfdhbbblffaa
