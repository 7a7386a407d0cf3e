/- Marks of one tree by value; what stays while other trees are marked. -/
import Derived.Test.YtilmhemcpgiikaaDoorVMark
import Derived.Test.YtilmhemcpgiikaaDoorVLeaf
import Derived.Test.YtilmhemcpgiikaaDoorVCount
namespace Go.Proofs.YtilmhemcpgiikaaDoor
open Go.Deep Go.ChangeShapes Go.WideShapes Go.ChangeAt Go.RowKit
open Go.ChangeMaps (open_string shut_string)

theorem OSl.kept_fr {w w' : World} {T : TypeId} {v : Value} {l : List Tree} {lo hi : Nat} {S : Nat → Prop} (h : OSl w T v l (Rng lo hi)) (hhi : hi ≤ w.heap.size) (hf : Fr S w w') (hd : ∀ b, S b → b < lo ∨ hi ≤ b) : OSl w' T v l (Rng lo hi) :=
  h.kept (fun b hb => hf.block b (by have := hb.2; omega) (fun hs => by have := hd b hs; have := hb.1; have := hb.2; omega))
theorem OSl.kept_bl {w w' : World} {T : TypeId} {v : Value} {l : List Tree} {lo hi : Nat} (h : OSl w T v l (Rng lo hi)) (hhi : hi ≤ w.heap.size) (hb : Below w.heap.size w w') : OSl w' T v l (Rng lo hi) :=
  h.kept (fun b hs => hb.block b (by have := hs.2; omega))
theorem box5_fr {w w' : World} {S : Nat → Prop} {B : Nat} {a b c d e : Value} (h : Box5 w B a b c d e) (hf : Fr S w w') (hB : ¬ S B) : Box5 w' B a b c d e := by
  obtain ⟨h0, h1, h2, h3, h4⟩ := h
  have hlt := World.block_lt_of_cell? w _ h0
  have hk := hf.block B hlt hB
  exact ⟨(World.cell?_of_block (a := ⟨B, 0, none⟩) hk).trans h0, (World.cell?_of_block (a := ⟨B, 1, none⟩) hk).trans h1, (World.cell?_of_block (a := ⟨B, 2, none⟩) hk).trans h2, (World.cell?_of_block (a := ⟨B, 3, none⟩) hk).trans h3, (World.cell?_of_block (a := ⟨B, 4, none⟩) hk).trans h4⟩
theorem TSl.kept_fr {w w' : World} {W : World} {u : Value} {l : List Tree} {S : Nat → Prop} (_h : TSl W u l) (hb : Below W.heap.size W w) (hf : Fr S w w') (hS : ∀ b, S b → W.heap.size ≤ b) : Below W.heap.size W w' :=
  Fr.below hb hf hS hb.size

theorem szL_le_costL (l : List Tree) : szL l ≤ costL l := by
  have h := sz_le_cost (.mk 0 0 0 { data := #[] } l)
  rw [Tree.sz_eq, Tree.cost_eq] at h
  simp only [Tree.l_mk, Tree.s_mk] at h
  have : ({ data := #[] } : ByteArray).size = 0 := rfl
  omega

set_option maxHeartbeats 1000000 in
theorem markVal_c (t : Tree) (w : World) (a : Option Addr) (n c : Nat) (S : Nat → Prop) (k : Nat) (hk1 : 1 ≤ k) (hk : k + 4 * szL t.l ≤ 8388600) (hlt : ∀ b, S b → b < w.heap.size) (ho : OSl w 29 (.slice a n c) t.l S) :
    Calls Tryd.prog 22 #[.agg #[.int .i64 t.kind, .int .i64 t.n, .int .i64 t.x, .string t.s, .slice a n c], .int .i64 k] w fun e w' => e = .returned (.int .i64 ((k + 4 * szL t.l : Nat) : Int)) ∧ OSl w' 29 (.slice a n c) (markL t.l k) S ∧ Fr S w w' := by
  have hb := vbelow1 w (.cells #[.int .i64 t.kind, .int .i64 t.n, .int .i64 t.x, .string t.s, .slice a n c] 29)
  have HC := Lib.hid (markValS_c t.l _ _ S k hk1 hk (fun b hb' => by rw [World.size_alloc]; have := hlt b hb'; omega) (ho.kept (fun b hb' => hb.block b (hlt b hb'))))
  have HB := Lib.hid hb
  clear ho hlt hb
  go_enter Tryd.func22, Tryd.ntmps22
  go_wp2_with fail
  refine HC.out.mono ?_
  rintro _ w1 ⟨rfl, ho1, hf1⟩
  have HO := Lib.hid ho1; have HF := Lib.hid hf1
  clear ho1 hf1
  go_wp2_with fail
  go_ret
  exact ⟨rfl, HO.out, (Fr.of_below HB.out).trans HF.out⟩
set_option maxHeartbeats 1000000 in
theorem heldVal_c (t : Tree) (w : World) (a : Option Addr) (n c : Nat) (k : Nat) (hk1 : 1 ≤ k) (hk : k + 4 * szL t.l ≤ 8388600) (ho : TSl w (.slice a n c) (markL t.l k)) :
    Calls Tryd.prog 23 #[.agg #[.int .i64 t.kind, .int .i64 t.n, .int .i64 t.x, .string t.s, .slice a n c], .int .i64 k] w fun e w' => e = .returned (.int .i64 ((k + 4 * szL t.l : Nat) : Int)) ∧ Below w.heap.size w w' := by
  have hb := vbelow1 w (.cells #[.int .i64 t.kind, .int .i64 t.n, .int .i64 t.x, .string t.s, .slice a n c] 29)
  have HC := Lib.hid (heldValS_c t.l _ _ k hk1 hk (ho.kept hb))
  have HB := Lib.hid hb
  have hneg : decide (((k + 4 * szL t.l : Nat) : Int) < 0) = false := decide_eq_false (by omega)
  clear ho hb
  go_enter Tryd.func23, Tryd.ntmps23
  go_wp2_with fail
  refine HC.out.mono ?_
  rintro _ w1 ⟨rfl, hb1⟩
  go_wp2_with fail
  go_ret
  exact ⟨rfl, vnx HB.out hb1⟩
end Go.Proofs.YtilmhemcpgiikaaDoor
