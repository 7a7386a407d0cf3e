/- FnExactStepVal: both answer the same, in memory of its own. -/
import Derived.Test.YtjkjfdhbbblffaaVStep2
import Derived.Test.YtjkjfdhbbblffaaVMarkV
import Derived.Test.YtjkjfdhbbblffaaVTo
import Derived.Test.YtjkjfdhbbblffaaVLeaf
import Derived.Deep.RegionHeld3
import Derived.Deep.DeepCutAuto
namespace Go.Proofs.Ytjkjfdhbbblffaa
open Go.Deep Go.ChangeShapes Go.WideShapes Go.ChangeAt Go.RowKit
open Go.ChangeMaps (open_string shut_string)

/-- A box of two, kept. -/
def Box2 (w : World) (B : Nat) (a b : Value) : Prop := w.cell? ⟨B, 0, none⟩ = some a ∧ w.cell? ⟨B, 1, none⟩ = some b
theorem two_kept {w w' : World} (hb : Below w.heap.size w w') {B : Nat} {a b : Value} (h : Box2 w B a b) : Box2 w' B a b := by
  have hlt := World.block_lt_of_cell? w _ h.1
  exact ⟨(hb.cell (p := ⟨B, 0, none⟩) hlt).trans h.1, (hb.cell (p := ⟨B, 1, none⟩) hlt).trans h.2⟩
theorem two_fr {w w' : World} {S : Nat → Prop} {B : Nat} {a b : Value} (h : Box2 w B a b) (hf : Fr S w w') (hB : ¬ S B) : Box2 w' B a b := by
  have hlt := World.block_lt_of_cell? w _ h.1
  have hk := hf.block B hlt hB
  exact ⟨(World.cell?_of_block (a := ⟨B, 0, none⟩) hk).trans h.1, (World.cell?_of_block (a := ⟨B, 1, none⟩) hk).trans h.2⟩
theorem two_new (w : World) (a b : Value) (T : TypeId) : Box2 (w.alloc (.cells #[a, b] T)) w.heap.size a b := by
  constructor
  · rw [World.cell?_alloc_at _ _ _ _ rfl]; rfl
  · rw [World.cell?_alloc_at _ _ _ _ rfl]; rfl
theorem five_box {w : World} {B : Nat} {a b c d e : Value} {T : TypeId} (h : w.heap[B]? = some (.cells #[a, b, c, d, e] T (0, 0))) (a' b' c' d' e' : Value) :
    Box5 (((((w.setCell ⟨B, 0, none⟩ a').setCell ⟨B, 1, none⟩ b').setCell ⟨B, 2, none⟩ c').setCell ⟨B, 3, none⟩ d').setCell ⟨B, 4, none⟩ e') B a' b' c' d' e' := by
  have h5 : (((((w.setCell ⟨B, 0, none⟩ a').setCell ⟨B, 1, none⟩ b').setCell ⟨B, 2, none⟩ c').setCell ⟨B, 3, none⟩ d').setCell ⟨B, 4, none⟩ e').heap[B]? = some (.cells #[a', b', c', d', e'] T (0, 0)) := by
    simp [World.setCell, Array.getElem?_modify, h]
  refine ⟨?_, ?_, ?_, ?_, ?_⟩ <;> simp [World.cell?, h5]
/-- What a region with a result's box leaves behind. -/
def Left (w wx : World) (r : Tree) (b : Bool) (s6 s7 : Value) : Prop := ∃ (B : Nat) (a3 : Option Addr) (n3 c3 lo hi : Nat), s6 = .pointer (some ⟨B, 0, none⟩) ∧ s7 = .bool b ∧ w.heap.size ≤ lo ∧ hi ≤ wx.heap.size ∧ (B < lo ∨ hi ≤ B) ∧ w.heap.size ≤ B ∧ B < wx.heap.size ∧ Hid (Box5 wx B (.int .i64 r.kind) (.int .i64 r.n) (.int .i64 r.x) (.string r.s) (.slice a3 n3 c3)) ∧ Hid (OSl wx 29 (.slice a3 n3 c3) r.l (Rng lo hi)) ∧ Hid (Below w.heap.size w wx)
theorem heap_alloc_drew (w : World) (o : Obj) : (w.alloc o).drew.heap[w.heap.size]? = some o := heap_alloc_new w o
theorem lt_alloc_drew (w : World) (o : Obj) : w.heap.size < (w.alloc o).drew.heap.size := by show _ < (w.alloc o).heap.size; rw [World.size_alloc]; exact Nat.lt_succ_self _
theorem left_last {w wp wc : World} {r : Tree} {b : Bool} {a3 : Option Addr} {n3 c3 : Nat} (hp : w.heap.size ≤ wp.heap.size) (hb : Below w.heap.size w wc) (ho : OSl wc 29 (.slice a3 n3 c3) r.l (Rng wp.heap.size wc.heap.size)) :
    Left w (wc.alloc (.cells #[.int .i64 r.kind, .int .i64 r.n, .int .i64 r.x, .string r.s, .slice a3 n3 c3] 29)) r b (.pointer (some ⟨wc.heap.size, 0, none⟩)) (.bool b) :=
  ⟨_, _, _, _, _, _, rfl, rfl, hp, by rw [World.size_alloc]; omega, .inr (Nat.le_refl _), hb.size, by rw [World.size_alloc]; omega, Lib.hid (box5_new _ _ _ _ _ _ _), Lib.hid (ho.kept_bl (Nat.le_refl _) (vbelow1 _ _)), Lib.hid (vnx hb (vbelow1 _ _))⟩
theorem left_early {w wp wc : World} {r : Tree} {b : Bool} {a3 : Option Addr} {n3 c3 B : Nat} {x0 x1 x2 x3 x4 : Value} {T : TypeId} (hp : w.heap.size ≤ wp.heap.size) (hb : Below w.heap.size w wc) (ho : OSl wc 29 (.slice a3 n3 c3) r.l (Rng wp.heap.size wc.heap.size))
    (hB : wc.heap[B]? = some (.cells #[x0, x1, x2, x3, x4] T (0, 0))) (h1 : w.heap.size ≤ B) (h2 : B < wp.heap.size) :
    Left w (((((wc.setCell ⟨B, 0, none⟩ (.int .i64 r.kind)).setCell ⟨B, 1, none⟩ (.int .i64 r.n)).setCell ⟨B, 2, none⟩ (.int .i64 r.x)).setCell ⟨B, 3, none⟩ (.string r.s)).setCell ⟨B, 4, none⟩ (.slice a3 n3 c3)) r b (.pointer (some ⟨B, 0, none⟩)) (.bool b) := by
  have hlt : B < wc.heap.size := (Array.getElem?_eq_some_iff.1 hB).1
  refine ⟨B, a3, n3, c3, wp.heap.size, wc.heap.size, rfl, rfl, hp, by simp [World.setCell], .inl h2, h1, by simpa [World.setCell] using hlt, Lib.hid (five_box hB _ _ _ _ _), Lib.hid ?_, Lib.hid ?_⟩
  · iterate 5 refine osl_sets ?_ (by dsimp only; omega) _
    exact ho
  · iterate 5 refine Below.setCell ?_ (by dsimp only; omega) _
    exact hb

set_option maxRecDepth 100000 in
set_option maxHeartbeats 16000000 in
theorem stepVal_law (t : Tree) (u : Value) (m : Int) (e : Bool) (w : World) (hu : TSl w u t.l) (hfit : Fits t.kind t.n t.x t.s) (hm : (Lit.int .i64 m).wf = true) :
    Calls Try.prog 10 #[.agg #[.int .i64 t.kind, .int .i64 t.n, .int .i64 t.x, .string t.s, u], .agg #[.int .i64 m, .bool e]] w fun e w' => e = .returned (.bool true) ∧ Below w.heap.size w w' := by
  obtain ⟨a, n, cap, rfl⟩ := hu.form
  have HU := Lib.hid hu; clear hu
  have t0 := vbelow2 w (.cells #[.int .i64 t.kind, .int .i64 t.n, .int .i64 t.x, .string t.s, (.slice a n cap)] 24) (.cells #[.int .i64 m, .bool e] 46)
  have K0 : Hid (Box5 ((w.alloc (.cells #[.int .i64 t.kind, .int .i64 t.n, .int .i64 t.x, .string t.s, (.slice a n cap)] 24)).alloc (.cells #[.int .i64 m, .bool e] 46)) w.heap.size (.int .i64 t.kind) (.int .i64 t.n) (.int .i64 t.x) (.string t.s) (.slice a n cap) ∧ Box2 ((w.alloc (.cells #[.int .i64 t.kind, .int .i64 t.n, .int .i64 t.x, .string t.s, (.slice a n cap)] 24)).alloc (.cells #[.int .i64 m, .bool e] 46)) (w.heap.size + 1) (.int .i64 m) (.bool e)) := Lib.hid ⟨box5_kept (vbelow1 _ _) (box5_new w _ _ _ _ _ _), by have := two_new (w.alloc (.cells #[.int .i64 t.kind, .int .i64 t.n, .int .i64 t.x, .string t.s, (.slice a n cap)] 24)) (.int .i64 m) (.bool e) 46; simpa only [World.size_alloc] using this⟩
  have HZ := Lib.hid (fun w1 (hb : Below w.heap.size w w1) left h0 h1 => szVal_c t w1 _ left h0 h1 (HU.out.kept hb) hfit)
  by_cases hbig : 1048576 < (t.cost : Int)
  · have hs : subC 1048576 t.cost = -1 := subC_no (by omega)
    have hs1 : subC 1048576 t.cost < 0 := by omega
    clear hs hbig
    obtain ⟨⟨k0, k1, k2, k3, k4⟩, -⟩ := K0.out
    go_enter Try.func10, Try.ntmps10
    go_wp2_with fail
    refine (HZ.out _ t0 _ (by omega) (by omega)).mono ?_
    rintro _ w1 ⟨rfl, b1⟩
    go_wp2_with fail
    go_ret
    exact ⟨rfl, vnx t0 b1⟩
  have hcost : t.cost ≤ 1048576 := by omega
  have hs : subC 1048576 t.cost = 1048576 - t.cost := subC_yes (by omega)
  have HZE := Lib.hid hs
  have hs3 : ¬ (1048576 - (t.cost : Int)) < 0 := by omega
  have HT' := Lib.hid (fun w1 => toStep_c m e w1)
  have HCS := Lib.hid (fun w1 v h => stepVal_spec t m e w1 v hcost h hfit (wf64 hm))
  have HCI := Lib.hid (fun w1 v h => stepVal_impl t m e w1 v hcost h hfit)
  have hszr : szL (stepR t m e).l ≤ 1048576 := by have h1 := stepR_cost t m e; have h2 := sz_le_cost (stepR t m e); have h3 := Tree.sz_eq (stepR t m e); omega
  clear hs hbig
  generalize stepR t m e = r at *
  generalize stepB t m e = bb at *
  have HT := Lib.hid (fun w1 (hb : Below w.heap.size w w1) => toVal_c t w1 _ hcost (HU.out.kept hb) hfit)
  have HE := Lib.hid (eqVal_c t)
  have HER := Lib.hid (eqVal_c r)
  have hszt : szL t.l ≤ 1048576 := by have h1 := sz_le_cost t; have h2 := Tree.sz_eq t; omega
  have hbne : (bb != bb) = false := by simp
  obtain ⟨⟨k0, k1, k2, k3, k4⟩, -⟩ := K0.out
  go_enter Try.func10, Try.ntmps10
  go_wp2_with fail
  refine (HZ.out _ t0 _ (by omega) (by omega)).mono ?_
  rintro _ w1 ⟨rfl, b1⟩
  have t1 := vnx t0 b1
  have KA1 := Lib.hid (box5_kept b1 K0.out.1); have KB1 := Lib.hid (two_kept b1 K0.out.2); clear K0 k0 k1 k2 k3 k4
  have s1 := b1.size
  (try simp only [World.size_alloc] at s1)
  rw [HZE.out]
  have HK : Hid (∀ w3, Below w1.heap.size w1 w3 → (w3.cell? ⟨w.heap.size, 0, none⟩ = some (.int .i64 t.kind) ∧ w3.cell? ⟨w.heap.size, 1, none⟩ = some (.int .i64 t.n) ∧ w3.cell? ⟨w.heap.size, 2, none⟩ = some (.int .i64 t.x) ∧ w3.cell? ⟨w.heap.size, 3, none⟩ = some (.string t.s) ∧ w3.cell? ⟨w.heap.size, 4, none⟩ = some ((.slice a n cap))) ∧ (w3.cell? ⟨w.heap.size + 1, 0, none⟩ = some (.int .i64 m) ∧ w3.cell? ⟨w.heap.size + 1, 1, none⟩ = some (.bool e))) := Lib.hid (fun w3 hb => ⟨box5_kept hb KA1.out, two_kept hb KB1.out⟩)
  go_upto_region 5 with fail
  go_cut [6, 7] (fun s6 s7 wx => Left w1 wx r bb s6 s7)
  case first =>
    obtain ⟨k0, k1, k2, k3, k4⟩ := KA1.out
    obtain ⟨m0, m1⟩ := KB1.out
    have dd : Below w1.heap.size w1 w1.drew := (Below.refl _ _).drew
    have dz : Below w1.heap.size w1 w1 := Below.refl _ _
    go_wp2_with fail
    go_region_held3 (fun w3 => (w3.cell? ⟨w.heap.size, 0, none⟩ = some (.int .i64 t.kind) ∧ w3.cell? ⟨w.heap.size, 1, none⟩ = some (.int .i64 t.n) ∧ w3.cell? ⟨w.heap.size, 2, none⟩ = some (.int .i64 t.x) ∧ w3.cell? ⟨w.heap.size, 3, none⟩ = some (.string t.s) ∧ w3.cell? ⟨w.heap.size, 4, none⟩ = some ((.slice a n cap))) ∧ (w3.cell? ⟨w.heap.size + 1, 0, none⟩ = some (.int .i64 m) ∧ w3.cell? ⟨w.heap.size + 1, 1, none⟩ = some (.bool e))) (first | with_reducible exact HK.out _ dd | with_reducible exact HK.out _ (dd.alloc dd.size _) | with_reducible exact HK.out _ (dz.alloc (Nat.le_refl _) _).drew | with_reducible exact HK.out _ (dz.alloc (Nat.le_refl _) _) | with_reducible exact HK.out _ (dd.alloc dd.size _).drew | with_reducible exact HK.out _ dd.drew | with_reducible exact HK.out _ (by (repeat (refine Below.setCell ?_ (by first | (dsimp only; omega) | (simp only [World.size_alloc]; omega)) _)); exact dd))
      (first
       | (go_at_call 13; (with_reducible refine (HT.out _ (vnx t1 (by first | with_reducible exact dd | with_reducible exact dd.alloc dd.size _ | with_reducible exact (dz.alloc (Nat.le_refl _) _).drew | with_reducible exact (dd.alloc dd.size _).drew | with_reducible exact dd.drew))).mono ?_); rintro _ wA ⟨aA, nA, cA, rfl, oA, bA⟩; (try (first | (have SB := Lib.hid (SB.out.kept bA) ) | (have SB := Lib.hid (SB.out.kept (vnx (vbelow1 _ _) bA))))); (try (have HB := Lib.hid ((bA.block _ (by have := (Array.getElem?_eq_some_iff.1 HB.out).1; omega)).trans HB.out))); (try (have HB := Lib.hid ((bA.block _ (by show _ < (World.alloc _ _).heap.size; rw [World.size_alloc]; exact Nat.lt_succ_self _)).trans (heap_alloc_new _ _)); have hBge : w1.heap.size ≤ _ := dd.size)); (try (have HB := Lib.hid ((bA.block _ (lt_alloc_drew _ _)).trans (heap_alloc_drew _ _)); have hBge : w1.heap.size ≤ w1.heap.size := Nat.le_refl _)); (try (have hB' := HB.out; simp only [World.size_alloc, World.size_drew] at hB'; have HB := Lib.hid hB')); have dd := vnx (by first | with_reducible exact dd | with_reducible exact dd.alloc dd.size _ | with_reducible exact (dz.alloc (Nat.le_refl _) _).drew | with_reducible exact (dd.alloc dd.size _).drew | with_reducible exact dd.drew) bA; have SA := Lib.hid oA.tsl; clear oA)
       | (go_at_call 36; (with_reducible refine (HT'.out _).mono ?_); rintro _ wB ⟨rfl, bB⟩; (try (first | (have SA := Lib.hid (SA.out.kept bB) ) | (have SA := Lib.hid (SA.out.kept (vnx (vbelow1 _ _) bB))))); (try (have HB := Lib.hid ((bB.block _ (by have := (Array.getElem?_eq_some_iff.1 HB.out).1; omega)).trans HB.out))); (try (have HB := Lib.hid ((bB.block _ (by show _ < (World.alloc _ _).heap.size; rw [World.size_alloc]; exact Nat.lt_succ_self _)).trans (heap_alloc_new _ _)); have hBge : w1.heap.size ≤ _ := dd.size)); (try (have HB := Lib.hid ((bB.block _ (lt_alloc_drew _ _)).trans (heap_alloc_drew _ _)); have hBge : w1.heap.size ≤ w1.heap.size := Nat.le_refl _)); (try (have hB' := HB.out; simp only [World.size_alloc, World.size_drew] at hB'; have HB := Lib.hid hB')); have dd := vnx (by first | with_reducible exact dd | with_reducible exact dd.alloc dd.size _ | with_reducible exact (dz.alloc (Nat.le_refl _) _).drew | with_reducible exact (dd.alloc dd.size _).drew | with_reducible exact dd.drew) bB)
       | (go_at_call 35; (with_reducible refine (HCS.out _ _ (by first | with_reducible exact SA.out | with_reducible exact SA.out.kept (vbelow1 _ _))).mono ?_); rintro _ wC ⟨aC, nC, cC, rfl, oC, bC⟩; have HOC := Lib.hid oC; clear oC; have hpre := dd.size; (try (have hBlt := (Array.getElem?_eq_some_iff.1 HB.out).1)); (try (have HB := Lib.hid ((bC.block _ (by have := (Array.getElem?_eq_some_iff.1 HB.out).1; omega)).trans HB.out))); (try (have HB := Lib.hid ((bC.block _ (by show _ < (World.alloc _ _).heap.size; rw [World.size_alloc]; exact Nat.lt_succ_self _)).trans (heap_alloc_new _ _)); have hBge : w1.heap.size ≤ _ := dd.size)); (try (have HB := Lib.hid ((bC.block _ (lt_alloc_drew _ _)).trans (heap_alloc_drew _ _)); have hBge : w1.heap.size ≤ w1.heap.size := Nat.le_refl _)); (try (have hB' := HB.out; simp only [World.size_alloc, World.size_drew] at hB'; have HB := Lib.hid hB')); have dd := vnx (by first | with_reducible exact dd | with_reducible exact dd.alloc dd.size _ | with_reducible exact (dz.alloc (Nat.le_refl _) _).drew | with_reducible exact (dd.alloc dd.size _).drew | with_reducible exact dd.drew) bC; (try (have HG := five_kept (Below.refl _ _) HB.out; obtain ⟨g0, g1, g2, g3, g4, gf⟩ := HG; have gf0 := gf 0; have gf1 := gf 1; have gf2 := gf 2; have gf3 := gf 3; have gf4 := gf 4; clear gf)))
      )
    all_goals go_wp2_with fail
    all_goals go_meet
    all_goals
      case rel =>
        first
        | (with_reducible refine left_last ?_ dd HOC.out); first | exact hpre | (simp only [World.size_alloc]; omega)
        | (with_reducible refine left_early ?_ dd HOC.out HB.out ?_ ?_); (first | exact hpre | (simp only [World.size_alloc]; omega)); (first | exact hBge | omega | (simp only [World.size_alloc]; omega)); (first | exact hBlt | (simp only [World.size_alloc]; omega))
  case rest =>
    obtain ⟨BW, aW, nW, cW, loW, hiW, rfl, rfl, hl1W, hl2W, hl3W, hl4W, hl5W, KRW, ORW, HBW⟩ := hcut
    clear HK
    (try simp only [World.size_alloc] at hl1W hl4W)
    have tW := vnx t1 HBW.out
    have KA2 := Lib.hid (box5_kept HBW.out KA1.out)
    clear KA1
    have KB3 := Lib.hid (two_kept HBW.out KB1.out)
    clear KB1
    have s4 := HBW.out.size
    (try simp only [World.size_alloc] at s4)
    obtain ⟨k0, k1, k2, k3, k4⟩ := KA2.out
    go_wp2_with fail
    refine (HT.out _ tW).mono ?_
    rintro _ w4 ⟨ax, nx', cx, rfl, ox, b4⟩
    have e4 := vbelow1 w4 (.cells #[.int .i64 t.kind, .int .i64 t.n, .int .i64 t.x, .string t.s, .slice ax nx' cx] 29)
    have f4 := vnx b4 e4
    have t4 := vnx tW f4
    clear k0 k1 k2 k3 k4
    have KA5 := Lib.hid (box5_kept f4 KA2.out)
    clear KA2
    have KB6 := Lib.hid (two_kept f4 KB3.out)
    clear KB3
    have KW7 := Lib.hid (box5_kept f4 KRW.out)
    clear KRW
    have OW8 := Lib.hid (ORW.out.kept_bl (by (try simp only [World.size_alloc]); omega) f4)
    clear ORW
    have s9 := b4.size
    (try simp only [World.size_alloc] at s9)
    have OX4 := Lib.hid (ox.kept_bl (Nat.le_refl _) e4); clear ox
    have KX4 := Lib.hid (box5_new w4 (.int .i64 t.kind) (.int .i64 t.n) (.int .i64 t.x) (.string t.s) (.slice ax nx' cx) 29)
    have HK : Hid (∀ w3, Below (w4.alloc (.cells #[.int .i64 t.kind, .int .i64 t.n, .int .i64 t.x, .string t.s, .slice ax nx' cx] 29)).heap.size (w4.alloc (.cells #[.int .i64 t.kind, .int .i64 t.n, .int .i64 t.x, .string t.s, .slice ax nx' cx] 29)) w3 → (w3.cell? ⟨w.heap.size + 1, 0, none⟩ = some (.int .i64 m) ∧ w3.cell? ⟨w.heap.size + 1, 1, none⟩ = some (.bool e)) ∧ (w3.cell? ⟨w4.heap.size, 0, none⟩ = some (.int .i64 t.kind) ∧ w3.cell? ⟨w4.heap.size, 1, none⟩ = some (.int .i64 t.n) ∧ w3.cell? ⟨w4.heap.size, 2, none⟩ = some (.int .i64 t.x) ∧ w3.cell? ⟨w4.heap.size, 3, none⟩ = some (.string t.s) ∧ w3.cell? ⟨w4.heap.size, 4, none⟩ = some (.slice ax nx' cx))) := Lib.hid (fun w3 hb => ⟨two_kept hb KB6.out, box5_kept hb KX4.out⟩)
    go_upto_region 7 with fail
    go_cut [9, 10] (fun s6 s7 wx => Left (w4.alloc (.cells #[.int .i64 t.kind, .int .i64 t.n, .int .i64 t.x, .string t.s, .slice ax nx' cx] 29)) wx r bb s6 s7)
    case first =>
      obtain ⟨m0, m1⟩ := KB6.out
      obtain ⟨l0, l1, l2, l3, l4⟩ := KX4.out
      have dd : Below (w4.alloc (.cells #[.int .i64 t.kind, .int .i64 t.n, .int .i64 t.x, .string t.s, .slice ax nx' cx] 29)).heap.size (w4.alloc (.cells #[.int .i64 t.kind, .int .i64 t.n, .int .i64 t.x, .string t.s, .slice ax nx' cx] 29)) (w4.alloc (.cells #[.int .i64 t.kind, .int .i64 t.n, .int .i64 t.x, .string t.s, .slice ax nx' cx] 29)).drew := (Below.refl _ _).drew
      have dz : Below (w4.alloc (.cells #[.int .i64 t.kind, .int .i64 t.n, .int .i64 t.x, .string t.s, .slice ax nx' cx] 29)).heap.size (w4.alloc (.cells #[.int .i64 t.kind, .int .i64 t.n, .int .i64 t.x, .string t.s, .slice ax nx' cx] 29)) (w4.alloc (.cells #[.int .i64 t.kind, .int .i64 t.n, .int .i64 t.x, .string t.s, .slice ax nx' cx] 29)) := Below.refl _ _
      go_wp2_with fail
      have SA := Lib.hid OX4.out.tsl
      go_region_held3 (fun w3 => (w3.cell? ⟨w.heap.size + 1, 0, none⟩ = some (.int .i64 m) ∧ w3.cell? ⟨w.heap.size + 1, 1, none⟩ = some (.bool e)) ∧ (w3.cell? ⟨w4.heap.size, 0, none⟩ = some (.int .i64 t.kind) ∧ w3.cell? ⟨w4.heap.size, 1, none⟩ = some (.int .i64 t.n) ∧ w3.cell? ⟨w4.heap.size, 2, none⟩ = some (.int .i64 t.x) ∧ w3.cell? ⟨w4.heap.size, 3, none⟩ = some (.string t.s) ∧ w3.cell? ⟨w4.heap.size, 4, none⟩ = some (.slice ax nx' cx))) (first | with_reducible exact HK.out _ dd | with_reducible exact HK.out _ (dd.alloc dd.size _) | with_reducible exact HK.out _ (dz.alloc (Nat.le_refl _) _).drew | with_reducible exact HK.out _ (dz.alloc (Nat.le_refl _) _) | with_reducible exact HK.out _ (dd.alloc dd.size _).drew | with_reducible exact HK.out _ dd.drew | with_reducible exact HK.out _ (by (repeat (refine Below.setCell ?_ (by first | (dsimp only; omega) | (simp only [World.size_alloc]; omega)) _)); exact dd))
        (first
         | (go_at_call 36; (with_reducible refine (HT'.out _).mono ?_); rintro _ wB ⟨rfl, bB⟩; skip; (try (have HB := Lib.hid ((bB.block _ (by have := (Array.getElem?_eq_some_iff.1 HB.out).1; omega)).trans HB.out))); (try (have HB := Lib.hid ((bB.block _ (by show _ < (World.alloc _ _).heap.size; rw [World.size_alloc]; exact Nat.lt_succ_self _)).trans (heap_alloc_new _ _)); have hBge : (w4.alloc (.cells #[.int .i64 t.kind, .int .i64 t.n, .int .i64 t.x, .string t.s, .slice ax nx' cx] 29)).heap.size ≤ _ := dd.size)); (try (have HB := Lib.hid ((bB.block _ (lt_alloc_drew _ _)).trans (heap_alloc_drew _ _)); have hBge : (w4.alloc (.cells #[.int .i64 t.kind, .int .i64 t.n, .int .i64 t.x, .string t.s, .slice ax nx' cx] 29)).heap.size ≤ (w4.alloc (.cells #[.int .i64 t.kind, .int .i64 t.n, .int .i64 t.x, .string t.s, .slice ax nx' cx] 29)).heap.size := Nat.le_refl _)); (try (have hB' := HB.out; simp only [World.size_alloc, World.size_drew] at hB'; have HB := Lib.hid hB')); have dd := vnx (by first | with_reducible exact dd | with_reducible exact dd.alloc dd.size _ | with_reducible exact (dz.alloc (Nat.le_refl _) _).drew | with_reducible exact (dd.alloc dd.size _).drew | with_reducible exact dd.drew) bB)
         | (go_at_call 37; (with_reducible refine (HCI.out _ _ (SA.out.kept (by first | with_reducible exact dd | with_reducible exact dd.alloc dd.size _ | with_reducible exact (dz.alloc (Nat.le_refl _) _).drew | with_reducible exact (dd.alloc dd.size _).drew | with_reducible exact dd.drew))).mono ?_); rintro _ wC ⟨aC, nC, cC, rfl, oC, bC⟩; have HOC := Lib.hid oC; clear oC; have hpre := dd.size; (try (have hBlt := (Array.getElem?_eq_some_iff.1 HB.out).1)); (try (have HB := Lib.hid ((bC.block _ (by have := (Array.getElem?_eq_some_iff.1 HB.out).1; omega)).trans HB.out))); (try (have HB := Lib.hid ((bC.block _ (by show _ < (World.alloc _ _).heap.size; rw [World.size_alloc]; exact Nat.lt_succ_self _)).trans (heap_alloc_new _ _)); have hBge : (w4.alloc (.cells #[.int .i64 t.kind, .int .i64 t.n, .int .i64 t.x, .string t.s, .slice ax nx' cx] 29)).heap.size ≤ _ := dd.size)); (try (have HB := Lib.hid ((bC.block _ (lt_alloc_drew _ _)).trans (heap_alloc_drew _ _)); have hBge : (w4.alloc (.cells #[.int .i64 t.kind, .int .i64 t.n, .int .i64 t.x, .string t.s, .slice ax nx' cx] 29)).heap.size ≤ (w4.alloc (.cells #[.int .i64 t.kind, .int .i64 t.n, .int .i64 t.x, .string t.s, .slice ax nx' cx] 29)).heap.size := Nat.le_refl _)); (try (have hB' := HB.out; simp only [World.size_alloc, World.size_drew] at hB'; have HB := Lib.hid hB')); have dd := vnx (by first | with_reducible exact dd | with_reducible exact dd.alloc dd.size _ | with_reducible exact (dz.alloc (Nat.le_refl _) _).drew | with_reducible exact (dd.alloc dd.size _).drew | with_reducible exact dd.drew) bC; (try (have HG := five_kept (Below.refl _ _) HB.out; obtain ⟨g0, g1, g2, g3, g4, gf⟩ := HG; have gf0 := gf 0; have gf1 := gf 1; have gf2 := gf 2; have gf3 := gf 3; have gf4 := gf 4; clear gf)))
        )
      all_goals go_wp2_with fail
      all_goals go_meet
      all_goals
        case rel =>
          first
          | (with_reducible refine left_last ?_ dd HOC.out); first | exact hpre | (simp only [World.size_alloc]; omega)
          | (with_reducible refine left_early ?_ dd HOC.out HB.out ?_ ?_); (first | exact hpre | (simp only [World.size_alloc]; omega)); (first | exact hBge | omega | (simp only [World.size_alloc]; omega)); (first | exact hBlt | (simp only [World.size_alloc]; omega))
    case rest =>
      obtain ⟨BG, aG, nG, cG, loG, hiG, rfl, rfl, hl1G, hl2G, hl3G, hl4G, hl5G, KRG, ORG, HBG⟩ := hcut
      clear HK
      (try simp only [World.size_alloc] at hl1G hl4G)
      have tG := vnx t4 HBG.out
      have KA10 := Lib.hid (box5_kept HBG.out KA5.out)
      clear KA5
      have KB11 := Lib.hid (two_kept HBG.out KB6.out)
      clear KB6
      have KW12 := Lib.hid (box5_kept HBG.out KW7.out)
      clear KW7
      have OW13 := Lib.hid (OW8.out.kept_bl (by (try simp only [World.size_alloc]); omega) HBG.out)
      clear OW8
      have OX14 := Lib.hid (OX4.out.kept_bl (by (try simp only [World.size_alloc]); omega) HBG.out)
      clear OX4
      have KX15 := Lib.hid (box5_kept HBG.out KX4.out)
      clear KX4
      have s16 := HBG.out.size
      (try simp only [World.size_alloc] at s16)
      obtain ⟨k0, k1, k2, k3, k4⟩ := KRG.out
      obtain ⟨m0, m1, m2, m3, m4⟩ := KW12.out
      go_wp2_with fail
      refine (HER.out _ _ _ ORG.out.tsl OW13.out.tsl).mono ?_
      rintro _ w7 ⟨rfl, b7⟩
      clear k0 k1 k2 k3 k4
      clear m0 m1 m2 m3 m4
      have t7 := vnx tG b7
      have KA17 := Lib.hid (box5_kept b7 KA10.out)
      clear KA10
      have KB18 := Lib.hid (two_kept b7 KB11.out)
      clear KB11
      have KW19 := Lib.hid (box5_kept b7 KW12.out)
      clear KW12
      have OW20 := Lib.hid (OW13.out.kept_bl (by (try simp only [World.size_alloc]); omega) b7)
      clear OW13
      have OX21 := Lib.hid (OX14.out.kept_bl (by (try simp only [World.size_alloc]); omega) b7)
      clear OX14
      have KX22 := Lib.hid (box5_kept b7 KX15.out)
      clear KX15
      have KG23 := Lib.hid (box5_kept b7 KRG.out)
      clear KRG
      have OG24 := Lib.hid (ORG.out.kept_bl (by (try simp only [World.size_alloc]); omega) b7)
      clear ORG
      have s25 := b7.size
      (try simp only [World.size_alloc] at s25)
      have HA1 : Hid (∀ w8, Below w7.heap.size w7 w8 → (w8.cell? ⟨w.heap.size, 0, none⟩ = some (.int .i64 t.kind) ∧ w8.cell? ⟨w.heap.size, 1, none⟩ = some (.int .i64 t.n) ∧ w8.cell? ⟨w.heap.size, 2, none⟩ = some (.int .i64 t.x) ∧ w8.cell? ⟨w.heap.size, 3, none⟩ = some (.string t.s) ∧ w8.cell? ⟨w.heap.size, 4, none⟩ = some ((.slice a n cap))) ∧ (w8.cell? ⟨w4.heap.size, 0, none⟩ = some (.int .i64 t.kind) ∧ w8.cell? ⟨w4.heap.size, 1, none⟩ = some (.int .i64 t.n) ∧ w8.cell? ⟨w4.heap.size, 2, none⟩ = some (.int .i64 t.x) ∧ w8.cell? ⟨w4.heap.size, 3, none⟩ = some (.string t.s) ∧ w8.cell? ⟨w4.heap.size, 4, none⟩ = some (.slice ax nx' cx))) := Lib.hid (fun w8 hb => ⟨box5_kept hb KA17.out, box5_kept hb KX22.out⟩)
      obtain ⟨k0, k1, k2, k3, k4⟩ := KA17.out
      obtain ⟨l0, l1, l2, l3, l4⟩ := KX22.out
      have x0 : Below w7.heap.size w7 w7.drew := (Below.refl _ _).drew
      go_wp2_with fail
      go_region_held3 (fun w8 => (w8.cell? ⟨w.heap.size, 0, none⟩ = some (.int .i64 t.kind) ∧ w8.cell? ⟨w.heap.size, 1, none⟩ = some (.int .i64 t.n) ∧ w8.cell? ⟨w.heap.size, 2, none⟩ = some (.int .i64 t.x) ∧ w8.cell? ⟨w.heap.size, 3, none⟩ = some (.string t.s) ∧ w8.cell? ⟨w.heap.size, 4, none⟩ = some ((.slice a n cap))) ∧ (w8.cell? ⟨w4.heap.size, 0, none⟩ = some (.int .i64 t.kind) ∧ w8.cell? ⟨w4.heap.size, 1, none⟩ = some (.int .i64 t.n) ∧ w8.cell? ⟨w4.heap.size, 2, none⟩ = some (.int .i64 t.x) ∧ w8.cell? ⟨w4.heap.size, 3, none⟩ = some (.string t.s) ∧ w8.cell? ⟨w4.heap.size, 4, none⟩ = some (.slice ax nx' cx))) (first | exact HA1.out _ x2 | exact HA1.out _ x1 | exact HA1.out _ x0)
        (first
         | (go_at_call 13; (with_reducible refine (HT.out _ (vnx t7 x0)).mono ?_); rintro _ w8 ⟨a8, n8, c8, rfl, o8, b8⟩; have x1 := vnx x0 b8; have S8 := Lib.hid o8.tsl; have S48 := Lib.hid (OX21.out.kept_bl (by (try simp only [World.size_alloc]); omega) x1).tsl; clear o8)
         | (go_at_call 15; refine (HE.out _ _ _ S48.out S8.out).mono ?_; rintro _ w9_1 ⟨rfl, b9⟩; have x2 := vnx x1 b9))
      all_goals
        have T1 := vnx t7 x2
        clear k0 k1 k2 k3 k4
        clear l0 l1 l2 l3 l4
        clear HA1 S8 S48
        have KA26 := Lib.hid (box5_kept x2 KA17.out)
        clear KA17
        have KB27 := Lib.hid (two_kept x2 KB18.out)
        clear KB18
        have KW28 := Lib.hid (box5_kept x2 KW19.out)
        clear KW19
        have OW29 := Lib.hid (OW20.out.kept_bl (by (try simp only [World.size_alloc]); omega) x2)
        clear OW20
        have OX30 := Lib.hid (OX21.out.kept_bl (by (try simp only [World.size_alloc]); omega) x2)
        clear OX21
        have KX31 := Lib.hid (box5_kept x2 KX22.out)
        clear KX22
        have KG32 := Lib.hid (box5_kept x2 KG23.out)
        clear KG23
        have OG33 := Lib.hid (OG24.out.kept_bl (by (try simp only [World.size_alloc]); omega) x2)
        clear OG24
        have s34 := x2.size
        (try simp only [World.size_alloc] at s34)
        clear x0 x1 x2 b8 b9
        obtain ⟨l0, l1, l2, l3, l4⟩ := KX31.out
        go_wp2_with fail
        refine (markVal_c t _ _ _ _ _ 1 (by omega) (by omega) (fun b hb => by have h2 := hb.2; (try simp only [World.size_alloc] at h2); (try simp only [World.size_alloc]); omega) OX30.out).mono ?_
        rintro _ w10 ⟨rfl, ow10, f10⟩
        clear l0 l1 l2 l3 l4
        have t10 := Fr.below T1 f10 (fun b hb => by have h1 := hb.1; (try simp only [World.size_alloc] at h1); omega) T1.size
        clear OX30
        have KA35 := Lib.hid (box5_fr KA26.out f10 (fun hb => by have h1 := hb.1; have h2 := hb.2; (try simp only [World.size_alloc] at h1); (try simp only [World.size_alloc] at h2); omega))
        clear KA26
        have KB36 := Lib.hid (two_fr KB27.out f10 (fun hb => by have h1 := hb.1; have h2 := hb.2; (try simp only [World.size_alloc] at h1); (try simp only [World.size_alloc] at h2); omega))
        clear KB27
        have KW37 := Lib.hid (box5_fr KW28.out f10 (fun hb => by have h1 := hb.1; have h2 := hb.2; (try simp only [World.size_alloc] at h1); (try simp only [World.size_alloc] at h2); omega))
        clear KW28
        have OW38 := Lib.hid (OW29.out.kept_fr (by (try simp only [World.size_alloc]); omega) f10 (fun b hb => by have h1 := hb.1; have h2 := hb.2; (try simp only [World.size_alloc] at h1); (try simp only [World.size_alloc] at h2); (try simp only [World.size_alloc]); omega))
        clear OW29
        have KX39 := Lib.hid (box5_fr KX31.out f10 (fun hb => by have h1 := hb.1; have h2 := hb.2; (try simp only [World.size_alloc] at h1); (try simp only [World.size_alloc] at h2); omega))
        clear KX31
        have KG40 := Lib.hid (box5_fr KG32.out f10 (fun hb => by have h1 := hb.1; have h2 := hb.2; (try simp only [World.size_alloc] at h1); (try simp only [World.size_alloc] at h2); omega))
        clear KG32
        have OG41 := Lib.hid (OG33.out.kept_fr (by (try simp only [World.size_alloc]); omega) f10 (fun b hb => by have h1 := hb.1; have h2 := hb.2; (try simp only [World.size_alloc] at h1); (try simp only [World.size_alloc] at h2); (try simp only [World.size_alloc]); omega))
        clear OG33
        have s42 := f10.size
        (try simp only [World.size_alloc] at s42)
        clear ow10
        have hneg : decide (((1 + 4 * szL t.l : Nat) : Int) < 0) = false := decide_eq_false (by omega)
        obtain ⟨k0, k1, k2, k3, k4⟩ := KG40.out
        obtain ⟨m0, m1, m2, m3, m4⟩ := KW37.out
        go_wp2_with fail
        refine (HER.out _ _ _ OG41.out.tsl OW38.out.tsl).mono ?_
        rintro _ w12 ⟨rfl, b12⟩
        clear k0 k1 k2 k3 k4
        clear m0 m1 m2 m3 m4
        have t12 := vnx t10 b12
        have KA43 := Lib.hid (box5_kept b12 KA35.out)
        clear KA35
        have KB44 := Lib.hid (two_kept b12 KB36.out)
        clear KB36
        have KW45 := Lib.hid (box5_kept b12 KW37.out)
        clear KW37
        have OW46 := Lib.hid (OW38.out.kept_bl (by (try simp only [World.size_alloc]); omega) b12)
        clear OW38
        have KX47 := Lib.hid (box5_kept b12 KX39.out)
        clear KX39
        have KG48 := Lib.hid (box5_kept b12 KG40.out)
        clear KG40
        have OG49 := Lib.hid (OG41.out.kept_bl (by (try simp only [World.size_alloc]); omega) b12)
        clear OG41
        have s50 := b12.size
        (try simp only [World.size_alloc] at s50)
        obtain ⟨l0, l1, l2, l3, l4⟩ := KG48.out
        go_wp2_with fail
        refine (markVal_c r _ _ _ _ _ 1 (by omega) (by omega) (fun b hb => by have h2 := hb.2; (try simp only [World.size_alloc] at h2); (try simp only [World.size_alloc]); omega) OG49.out).mono ?_
        rintro _ w13 ⟨rfl, ow13, f13⟩
        clear l0 l1 l2 l3 l4
        have t13 := Fr.below t12 f13 (fun b hb => by have h1 := hb.1; (try simp only [World.size_alloc] at h1); omega) t12.size
        clear OG49
        have KA51 := Lib.hid (box5_fr KA43.out f13 (fun hb => by have h1 := hb.1; have h2 := hb.2; (try simp only [World.size_alloc] at h1); (try simp only [World.size_alloc] at h2); omega))
        clear KA43
        have KB52 := Lib.hid (two_fr KB44.out f13 (fun hb => by have h1 := hb.1; have h2 := hb.2; (try simp only [World.size_alloc] at h1); (try simp only [World.size_alloc] at h2); omega))
        clear KB44
        have KW53 := Lib.hid (box5_fr KW45.out f13 (fun hb => by have h1 := hb.1; have h2 := hb.2; (try simp only [World.size_alloc] at h1); (try simp only [World.size_alloc] at h2); omega))
        clear KW45
        have OW54 := Lib.hid (OW46.out.kept_fr (by (try simp only [World.size_alloc]); omega) f13 (fun b hb => by have h1 := hb.1; have h2 := hb.2; (try simp only [World.size_alloc] at h1); (try simp only [World.size_alloc] at h2); (try simp only [World.size_alloc]); omega))
        clear OW46
        have KX55 := Lib.hid (box5_fr KX47.out f13 (fun hb => by have h1 := hb.1; have h2 := hb.2; (try simp only [World.size_alloc] at h1); (try simp only [World.size_alloc] at h2); omega))
        clear KX47
        have KG56 := Lib.hid (box5_fr KG48.out f13 (fun hb => by have h1 := hb.1; have h2 := hb.2; (try simp only [World.size_alloc] at h1); (try simp only [World.size_alloc] at h2); omega))
        clear KG48
        have s57 := f13.size
        (try simp only [World.size_alloc] at s57)
        have OMw13 := Lib.hid ow13; clear ow13
        obtain ⟨l0, l1, l2, l3, l4⟩ := KG56.out
        go_wp2_with fail
        refine (heldVal_c r _ _ _ _ 1 (by omega) (by omega) OMw13.out.tsl).mono ?_
        rintro _ w14 ⟨rfl, b14⟩
        have t14 := vnx t13 b14
        clear l0 l1 l2 l3 l4
        have KA58 := Lib.hid (box5_kept b14 KA51.out)
        clear KA51
        have KB59 := Lib.hid (two_kept b14 KB52.out)
        clear KB52
        have KW60 := Lib.hid (box5_kept b14 KW53.out)
        clear KW53
        have OW61 := Lib.hid (OW54.out.kept_bl (by (try simp only [World.size_alloc]); omega) b14)
        clear OW54
        have KX62 := Lib.hid (box5_kept b14 KX55.out)
        clear KX55
        have KG63 := Lib.hid (box5_kept b14 KG56.out)
        clear KG56
        have OG64 := Lib.hid (OMw13.out.kept_bl (by (try simp only [World.size_alloc]); omega) b14)
        clear OMw13
        have s65 := b14.size
        (try simp only [World.size_alloc] at s65)
        have hnn : (((1 + 4 * szL r.l : Nat) : Int) != ((1 + 4 * szL r.l : Nat) : Int)) = false := by simp
        have hneg2 : decide (((1 + 4 * szL r.l : Nat) : Int) < 0) = false := decide_eq_false (by omega)
        have HK : Hid (∀ w3, Below w14.heap.size w14 w3 → (w3.cell? ⟨w.heap.size, 0, none⟩ = some (.int .i64 t.kind) ∧ w3.cell? ⟨w.heap.size, 1, none⟩ = some (.int .i64 t.n) ∧ w3.cell? ⟨w.heap.size, 2, none⟩ = some (.int .i64 t.x) ∧ w3.cell? ⟨w.heap.size, 3, none⟩ = some (.string t.s) ∧ w3.cell? ⟨w.heap.size, 4, none⟩ = some ((.slice a n cap))) ∧ (w3.cell? ⟨w.heap.size + 1, 0, none⟩ = some (.int .i64 m) ∧ w3.cell? ⟨w.heap.size + 1, 1, none⟩ = some (.bool e))) := Lib.hid (fun w3 hb => ⟨box5_kept hb KA58.out, two_kept hb KB59.out⟩)
        go_upto_region 24 with fail
        go_cut [14, 15] (fun s6 s7 wx => Left w14 wx r bb s6 s7)
        case first =>
          obtain ⟨k0, k1, k2, k3, k4⟩ := KA58.out
          obtain ⟨m0, m1⟩ := KB59.out
          have dd : Below w14.heap.size w14 w14.drew := (Below.refl _ _).drew
          have dz : Below w14.heap.size w14 w14 := Below.refl _ _
          go_wp2_with fail
          go_region_held3 (fun w3 => (w3.cell? ⟨w.heap.size, 0, none⟩ = some (.int .i64 t.kind) ∧ w3.cell? ⟨w.heap.size, 1, none⟩ = some (.int .i64 t.n) ∧ w3.cell? ⟨w.heap.size, 2, none⟩ = some (.int .i64 t.x) ∧ w3.cell? ⟨w.heap.size, 3, none⟩ = some (.string t.s) ∧ w3.cell? ⟨w.heap.size, 4, none⟩ = some ((.slice a n cap))) ∧ (w3.cell? ⟨w.heap.size + 1, 0, none⟩ = some (.int .i64 m) ∧ w3.cell? ⟨w.heap.size + 1, 1, none⟩ = some (.bool e))) (first | with_reducible exact HK.out _ dd | with_reducible exact HK.out _ (dd.alloc dd.size _) | with_reducible exact HK.out _ (dz.alloc (Nat.le_refl _) _).drew | with_reducible exact HK.out _ (dz.alloc (Nat.le_refl _) _) | with_reducible exact HK.out _ (dd.alloc dd.size _).drew | with_reducible exact HK.out _ dd.drew | with_reducible exact HK.out _ (by (repeat (refine Below.setCell ?_ (by first | (dsimp only; omega) | (simp only [World.size_alloc]; omega)) _)); exact dd))
            (first
             | (go_at_call 13; (with_reducible refine (HT.out _ (vnx t14 (by first | with_reducible exact dd | with_reducible exact dd.alloc dd.size _ | with_reducible exact (dz.alloc (Nat.le_refl _) _).drew | with_reducible exact (dd.alloc dd.size _).drew | with_reducible exact dd.drew))).mono ?_); rintro _ wA ⟨aA, nA, cA, rfl, oA, bA⟩; (try (first | (have SB := Lib.hid (SB.out.kept bA) ) | (have SB := Lib.hid (SB.out.kept (vnx (vbelow1 _ _) bA))))); (try (have HB := Lib.hid ((bA.block _ (by have := (Array.getElem?_eq_some_iff.1 HB.out).1; omega)).trans HB.out))); (try (have HB := Lib.hid ((bA.block _ (by show _ < (World.alloc _ _).heap.size; rw [World.size_alloc]; exact Nat.lt_succ_self _)).trans (heap_alloc_new _ _)); have hBge : w14.heap.size ≤ _ := dd.size)); (try (have HB := Lib.hid ((bA.block _ (lt_alloc_drew _ _)).trans (heap_alloc_drew _ _)); have hBge : w14.heap.size ≤ w14.heap.size := Nat.le_refl _)); (try (have hB' := HB.out; simp only [World.size_alloc, World.size_drew] at hB'; have HB := Lib.hid hB')); have dd := vnx (by first | with_reducible exact dd | with_reducible exact dd.alloc dd.size _ | with_reducible exact (dz.alloc (Nat.le_refl _) _).drew | with_reducible exact (dd.alloc dd.size _).drew | with_reducible exact dd.drew) bA; have SA := Lib.hid oA.tsl; clear oA)
             | (go_at_call 36; (with_reducible refine (HT'.out _).mono ?_); rintro _ wB ⟨rfl, bB⟩; (try (first | (have SA := Lib.hid (SA.out.kept bB) ) | (have SA := Lib.hid (SA.out.kept (vnx (vbelow1 _ _) bB))))); (try (have HB := Lib.hid ((bB.block _ (by have := (Array.getElem?_eq_some_iff.1 HB.out).1; omega)).trans HB.out))); (try (have HB := Lib.hid ((bB.block _ (by show _ < (World.alloc _ _).heap.size; rw [World.size_alloc]; exact Nat.lt_succ_self _)).trans (heap_alloc_new _ _)); have hBge : w14.heap.size ≤ _ := dd.size)); (try (have HB := Lib.hid ((bB.block _ (lt_alloc_drew _ _)).trans (heap_alloc_drew _ _)); have hBge : w14.heap.size ≤ w14.heap.size := Nat.le_refl _)); (try (have hB' := HB.out; simp only [World.size_alloc, World.size_drew] at hB'; have HB := Lib.hid hB')); have dd := vnx (by first | with_reducible exact dd | with_reducible exact dd.alloc dd.size _ | with_reducible exact (dz.alloc (Nat.le_refl _) _).drew | with_reducible exact (dd.alloc dd.size _).drew | with_reducible exact dd.drew) bB)
             | (go_at_call 37; (with_reducible refine (HCI.out _ _ (by first | with_reducible exact SA.out | with_reducible exact SA.out.kept (vbelow1 _ _))).mono ?_); rintro _ wC ⟨aC, nC, cC, rfl, oC, bC⟩; have HOC := Lib.hid oC; clear oC; have hpre := dd.size; (try (have hBlt := (Array.getElem?_eq_some_iff.1 HB.out).1)); (try (have HB := Lib.hid ((bC.block _ (by have := (Array.getElem?_eq_some_iff.1 HB.out).1; omega)).trans HB.out))); (try (have HB := Lib.hid ((bC.block _ (by show _ < (World.alloc _ _).heap.size; rw [World.size_alloc]; exact Nat.lt_succ_self _)).trans (heap_alloc_new _ _)); have hBge : w14.heap.size ≤ _ := dd.size)); (try (have HB := Lib.hid ((bC.block _ (lt_alloc_drew _ _)).trans (heap_alloc_drew _ _)); have hBge : w14.heap.size ≤ w14.heap.size := Nat.le_refl _)); (try (have hB' := HB.out; simp only [World.size_alloc, World.size_drew] at hB'; have HB := Lib.hid hB')); have dd := vnx (by first | with_reducible exact dd | with_reducible exact dd.alloc dd.size _ | with_reducible exact (dz.alloc (Nat.le_refl _) _).drew | with_reducible exact (dd.alloc dd.size _).drew | with_reducible exact dd.drew) bC; (try (have HG := five_kept (Below.refl _ _) HB.out; obtain ⟨g0, g1, g2, g3, g4, gf⟩ := HG; have gf0 := gf 0; have gf1 := gf 1; have gf2 := gf 2; have gf3 := gf 3; have gf4 := gf 4; clear gf)))
            )
          all_goals go_wp2_with fail
          all_goals go_meet
          all_goals
            case rel =>
              first
              | (with_reducible refine left_last ?_ dd HOC.out); first | exact hpre | (simp only [World.size_alloc]; omega)
              | (with_reducible refine left_early ?_ dd HOC.out HB.out ?_ ?_); (first | exact hpre | (simp only [World.size_alloc]; omega)); (first | exact hBge | omega | (simp only [World.size_alloc]; omega)); (first | exact hBlt | (simp only [World.size_alloc]; omega))
        case rest =>
          obtain ⟨BH, aH, nH, cH, loH, hiH, rfl, rfl, hl1H, hl2H, hl3H, hl4H, hl5H, KRH, ORH, HBH⟩ := hcut
          clear HK
          (try simp only [World.size_alloc] at hl1H hl4H)
          have tH := vnx t14 HBH.out
          have KA66 := Lib.hid (box5_kept HBH.out KA58.out)
          clear KA58
          have KB67 := Lib.hid (two_kept HBH.out KB59.out)
          clear KB59
          have KW68 := Lib.hid (box5_kept HBH.out KW60.out)
          clear KW60
          have OW69 := Lib.hid (OW61.out.kept_bl (by (try simp only [World.size_alloc]); omega) HBH.out)
          clear OW61
          have KX70 := Lib.hid (box5_kept HBH.out KX62.out)
          clear KX62
          have KG71 := Lib.hid (box5_kept HBH.out KG63.out)
          clear KG63
          have OG72 := Lib.hid (OG64.out.kept_bl (by (try simp only [World.size_alloc]); omega) HBH.out)
          clear OG64
          have s73 := HBH.out.size
          (try simp only [World.size_alloc] at s73)
          obtain ⟨k0, k1, k2, k3, k4⟩ := KRH.out
          obtain ⟨m0, m1, m2, m3, m4⟩ := KW68.out
          go_wp2_with fail
          refine (HER.out _ _ _ ORH.out.tsl OW69.out.tsl).mono ?_
          rintro _ w15 ⟨rfl, b15⟩
          clear k0 k1 k2 k3 k4
          clear m0 m1 m2 m3 m4
          have t15 := vnx tH b15
          have KA74 := Lib.hid (box5_kept b15 KA66.out)
          clear KA66
          have KB75 := Lib.hid (two_kept b15 KB67.out)
          clear KB67
          have KW76 := Lib.hid (box5_kept b15 KW68.out)
          clear KW68
          have OW77 := Lib.hid (OW69.out.kept_bl (by (try simp only [World.size_alloc]); omega) b15)
          clear OW69
          have KX78 := Lib.hid (box5_kept b15 KX70.out)
          clear KX70
          have KG79 := Lib.hid (box5_kept b15 KG71.out)
          clear KG71
          have OG80 := Lib.hid (OG72.out.kept_bl (by (try simp only [World.size_alloc]); omega) b15)
          clear OG72
          have KH81 := Lib.hid (box5_kept b15 KRH.out)
          clear KRH
          have OH82 := Lib.hid (ORH.out.kept_bl (by (try simp only [World.size_alloc]); omega) b15)
          clear ORH
          have s83 := b15.size
          (try simp only [World.size_alloc] at s83)
          obtain ⟨l0, l1, l2, l3, l4⟩ := KG79.out
          go_wp2_with fail
          refine (heldVal_c r _ _ _ _ 1 (by omega) (by omega) OG80.out.tsl).mono ?_
          rintro _ w16 ⟨rfl, b16⟩
          have t16 := vnx t15 b16
          clear l0 l1 l2 l3 l4
          have KA84 := Lib.hid (box5_kept b16 KA74.out)
          clear KA74
          have KB85 := Lib.hid (two_kept b16 KB75.out)
          clear KB75
          have KW86 := Lib.hid (box5_kept b16 KW76.out)
          clear KW76
          have OW87 := Lib.hid (OW77.out.kept_bl (by (try simp only [World.size_alloc]); omega) b16)
          clear OW77
          have KX88 := Lib.hid (box5_kept b16 KX78.out)
          clear KX78
          have KG89 := Lib.hid (box5_kept b16 KG79.out)
          clear KG79
          have OG90 := Lib.hid (OG80.out.kept_bl (by (try simp only [World.size_alloc]); omega) b16)
          clear OG80
          have KH91 := Lib.hid (box5_kept b16 KH81.out)
          clear KH81
          have OH92 := Lib.hid (OH82.out.kept_bl (by (try simp only [World.size_alloc]); omega) b16)
          clear OH82
          have s93 := b16.size
          (try simp only [World.size_alloc] at s93)
          go_wp2_with fail
          go_ret
          exact ⟨rfl, t16⟩
namespace fnExactStepVal
theorem walk : LawWalk 10 Try.f10 := by
  intro H enc W base args ds p hval0 hA0
  have hval : ∀ (j : Nat) t v, Try.f10.params[j]? = some t → args[j]? = some v → Value.okWide Try.prog W .any base t v := hval0
  have hA : DataW.TrodAll enc Try.prog W 0 (fun _ => true) true Try.f10.params.toList args.toList ds p := hA0
  clear hval0 hA0
  rw [Try.params10] at hA hval
  obtain ⟨v0, vs0, d0, ds0, p0, q0, hargs, rfl, rfl, h0, r0⟩ := trodAll_cons hA
  obtain ⟨v1, vs1, d1, ds1, p1, q1, rfl, rfl, rfl, h1, r1⟩ := trodAll_cons r0
  obtain ⟨rfl, rfl, rfl⟩ := trodAll_nil r1
  obtain rfl : args = #[v0, v1] := by cases args; simp_all
  obtain ⟨t0, u0, rfl, w0, x0⟩ := open_val Try.underlying24 (by kernel_rfl) (by kernel_rfl) Try.underlying3 Try.underlying3 Try.underlying3 Try.underlying9 Try.underlying22 (hval 0 24 v0 rfl rfl) h0
  obtain ⟨a1, b1, rfl, w1⟩ := open_intbool Try.underlying46 Try.underlying3 Try.underlying4 (by kernel_rfl) (by kernel_rfl) (hval 1 46 v1 rfl rfl) h1
  exact stepVal_law t0 u0 a1 b1 W w0 x0 w1
set_option maxRecDepth 100000 in
theorem lifted (os : Os) (started : os.Started) (H : Type) (enc : TypeId × Value → H) :
    ReturnsInHanded {} Try.checked os 10 .any (Rows.fnExactStepValSpec.pre6 enc Try.prog Try.f10 [] false) (Rows.fnExactStepValSpec.post enc Try.prog Try.f10 false true false false) :=
  law_lifted 10 Try.f10 Rows.fnExactStepValSpec os started H enc (by kernel_rfl) Try.func10 rfl rfl (by kernel_rfl)
    (fun ds h => by match ds, h with | [_, _], _ => rfl)
    (ChangeSpec.witness6 (enc := enc) (C := Try.checked) false ⟨#[], #[.agg #[.int .i64 0, .int .i64 0, .int .i64 0, .string ByteArray.empty, .slice none 0 0], .agg #[.int .i64 0, .bool false]], []⟩ 8 (by kernel_rfl) (by kernel_rfl) (by kernel_rfl) (by kernel_rfl)) walk
theorem proved : Rows.FnExactStepValSaid :=
  OpenClaim.holds_of_wide 10 Try.f10 rfl rfl rfl rfl rfl rfl rfl ⟨rfl, rfl, rfl, rfl, rfl⟩ rfl rfl rfl rfl rfl (by kernel_rfl) Try.func10 (by kernel_rfl)
    (of_decide_eq_true (by kernel_rfl)) (by unfold Func.isWrapper; first | (rw [if_pos (by decide +kernel)]; kernel_rfl) | (rw [if_neg (by decide +kernel)]; exact ⟨rfl, rfl⟩))
    (fun os started H enc _ => lifted os started H enc)
#print axioms proved
end fnExactStepVal
end Go.Proofs.Ytjkjfdhbbblffaa
