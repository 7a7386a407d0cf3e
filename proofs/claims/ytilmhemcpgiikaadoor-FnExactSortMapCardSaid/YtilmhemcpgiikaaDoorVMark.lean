/- Marks: every field of a tree that a call owns is overwritten, and found again. -/
import Derived.Test.YtilmhemcpgiikaaDoorVOwn
import Derived.Test.YtilmhemcpgiikaaDoorVSz
import Derived.Test.YtilmhemcpgiikaaDoorCStr
import Derived.Deep.RegionHeld3
namespace Go.Proofs.YtilmhemcpgiikaaDoor
open Go.Deep Go.ChangeShapes Go.WideShapes Go.ChangeAt Go.RowKit
open Go.ChangeMaps (open_string shut_string)

/-- The digits of a mark. -/
def mtGo : Nat → Nat → List UInt8 → List UInt8
  | 0, _, acc => acc
  | f + 1, k, acc => if k = 0 then acc else mtGo f (k / 10) (UInt8.ofNat (48 + k % 10) :: acc)
def mt (k : Nat) : ByteArray := ⟨(109 :: mtGo k k []).toArray⟩
theorem mtGo_zero : ∀ f acc, mtGo f 0 acc = acc
  | 0, _ => rfl
  | _ + 1, _ => by simp [mtGo]
theorem mtGo_len : ∀ f k acc, (mtGo f k acc).length ≤ acc.length + f
  | 0, _, _ => by simp [mtGo]
  | f + 1, k, acc => by
    unfold mtGo
    split
    · omega
    · have := mtGo_len f (k / 10) (UInt8.ofNat (48 + k % 10) :: acc)
      rw [List.length_cons] at this; omega
theorem mtGo_succ {k : Nat} (h : k ≠ 0) (f : Nat) (acc : List UInt8) : mtGo (f + 1) k acc = mtGo f (k / 10) (UInt8.ofNat (48 + k % 10) :: acc) := by
  rw [mtGo, if_neg h]
theorem mt_size (k : Nat) : (mt k).size ≤ k + 1 := by
  have := mtGo_len k k []
  simp [mt, ByteArray.size] at *; omega

theorem conv_oneM (c : UInt8) (z : Int) (hz : z = (c.toNat : Int)) (w : World) :
    (convert 39 9 (.slice (some ⟨w.heap.size, 0, none⟩) 1 1)).run Tryd.prog (w.alloc (.cells #[.int .u8 z] 5)) = .ok (.string ⟨#[c]⟩) (w.alloc (.cells #[.int .u8 z] 5)) := by
  refine run_str (l := [c]) Tryd.underlying39 Tryd.underlying5 Tryd.underlying9 rfl (.inr ⟨_, 0, rfl, by simp, fun j hj => ?_⟩)
  obtain rfl : j = 0 := by simpa [bz] using hj
  rw [World.cell?_alloc_at _ _ _ _ rfl, hz]
  rfl
theorem str_consM (c : UInt8) (l : List UInt8) : (({ data := #[c] } : ByteArray) ++ { data := l.toArray }) = { data := (c :: l).toArray } := by
  apply ByteArray.ext; simp

set_option maxRecDepth 100000 in
set_option maxHeartbeats 1000000 in
theorem markText_c (k : Nat) (w : World) (h1 : 1 ≤ k) (h2 : k ≤ 8388608) :
    Calls Tryd.prog 136 #[.int .i64 k] w fun e w' => e = .returned (.string (mt k)) ∧ Below w.heap.size w w' := by
  have hd0 : decide ((k : Int) ≤ 0) = false := decide_eq_false (by omega)
  go_enter Tryd.func136, Tryd.ntmps136
  go_wp2_with fail
  clear hd0
  go_loopw [0, 3] (fun x s wr => ∃ (l : List UInt8) (X f : Nat), s = .string ⟨l.toArray⟩ ∧ x = .int .i64 X ∧ X ≤ f ∧ l.length + f ≤ k ∧ Hid (mtGo f X l = mtGo k k []) ∧ Below w.heap.size w wr) (fun x _ _ => (intOf x).toNat)
  case atStart => exact ⟨[], k, k, rfl, rfl, Nat.le_refl _, by simp, Lib.hid rfl, Below.refl _ _⟩
  case round =>
    obtain ⟨l, X, f, rfl, rfl, hXf, hlf, hd, hbw⟩ := hrel
    by_cases h0 : X = 0
    · subst h0
      have hm : ({ data := #[109] } : ByteArray) ++ { data := l.toArray } = mt k := by
        rw [str_consM, mt, ← hd.out, mtGo_zero]
      have HM := Lib.hid hm; clear hm hd
      go_wp2_with fail
      go_ret
      exact ⟨ret_str HM.out, hbw⟩
    · have hpos : decide ((0 : Int) < (X : Int)) = true := decide_eq_true (by omega)
      obtain ⟨f', rfl⟩ : ∃ f', f = f' + 1 := ⟨f - 1, by omega⟩
      have hst := hd.out
      rw [mtGo_succ h0] at hst
      have hm : (X : Int).tmod 10 = ((X % 10 : Nat) : Int) := by rw [Int.tmod_eq_emod_of_nonneg (by omega)]; omega
      have hq : (X : Int).tdiv 10 = ((X / 10 : Nat) : Int) := by rw [Int.tdiv_eq_ediv_of_nonneg (by omega)]; omega
      have hdg : X % 10 < 10 := Nat.mod_lt _ (by decide)
      have hql : X / 10 < X := by omega
      obtain ⟨Y, hY⟩ : ∃ Y, Y = X / 10 := ⟨_, rfl⟩
      obtain ⟨d, hdd⟩ : ∃ d, d = X % 10 := ⟨_, rfl⟩
      rw [← hY] at hst hq hql
      rw [← hdd] at hst hm hdg
      have hw : IntKind.i64.wrap (Y : Int) = Y := IntWalk.i64_in _ (by omega)
      have hc8 : (48 : Int) + (d : Int) = ((UInt8.ofNat (48 + d)).toNat : Int) := by simp; omega
      have hcv := conv_oneM (UInt8.ofNat (48 + d)) _ hc8 wr
      have HST := Lib.hid hst; clear hst hd hY hdd hc8
      generalize UInt8.ofNat (48 + d) = c at *
      go_wp2_with fail
      rw [str_consM]
      go_roundw
      case rel => exact ⟨_, Y, f', rfl, rfl, by omega, by simp; omega, HST, hbw.alloc hbw.size _⟩
      case measure => simp [intOf]; omega

mutual
def Tree.mark : Tree → Nat → Tree | .mk _ _ _ _ l, k => .mk k ((k : Int) + 1) ((k : Int) + 1 + 1) (mt (k + 3)) (markL l (k + 4))
/-- Trees, every field overwritten by its mark. -/
def markL : List Tree → Nat → List Tree | [], _ => [] | t :: ts, k => t.mark k :: markL ts (k + 4 * t.sz)
end
theorem Tree.mark_eq (t : Tree) (k : Nat) : t.mark k = .mk k ((k : Int) + 1) ((k : Int) + 1 + 1) (mt (k + 3)) (markL t.l (k + 4)) := by cases t; rw [Tree.mark]; rfl
theorem szL_app : ∀ (l : List Tree) (t : Tree), szL (l ++ [t]) = szL l + t.sz
  | [], t => by simp [szL]
  | u :: l, t => by simp only [List.cons_append, szL, szL_app l t]; omega
theorem sz_eq (t : Tree) : t.sz = 1 + szL t.l := by cases t; rw [Tree.sz]; rfl
theorem markL_len : ∀ (l : List Tree) (k : Nat), (markL l k).length = l.length
  | [], _ => by simp [markL]
  | t :: l, k => by simp [markL, markL_len l]
theorem markL_snoc : ∀ (l : List Tree) (t : Tree) (k : Nat), markL (l ++ [t]) k = markL l k ++ [t.mark (k + 4 * szL l)]
  | [], t, k => by simp [markL, szL]
  | u :: l, t, k => by
    simp only [List.cons_append, markL, szL, markL_snoc l t]
    congr 4; omega
theorem szL_take_succ {l : List Tree} {j : Nat} (h : j < l.length) : szL (l.take (j + 1)) = szL (l.take j) + l[j].sz := by
  rw [List.take_succ_eq_append_getElem h, szL_app]
theorem szL_take_le : ∀ (l : List Tree) (j : Nat), szL (l.take j) ≤ szL l
  | [], _ => by simp
  | t :: l, 0 => by simp [szL]
  | t :: l, j + 1 => by
    have := szL_take_le l j
    simp only [List.take_succ_cons, szL]; omega

/-- Nothing turned but in blocks of S. -/
structure Fr (S : Nat → Prop) (w w' : World) : Prop where
  os : w'.os = w.os
  tape : w'.tape = w.tape
  output : w'.output = w.output
  size : w.heap.size ≤ w'.heap.size
  block : ∀ b, b < w.heap.size → ¬ S b → w'.heap[b]? = w.heap[b]?
theorem Fr.refl (S : Nat → Prop) (w : World) : Fr S w w := ⟨rfl, rfl, rfl, Nat.le_refl _, fun _ _ _ => rfl⟩
theorem Fr.trans {S : Nat → Prop} {a b c : World} (h : Fr S a b) (k : Fr S b c) : Fr S a c :=
  ⟨k.os.trans h.os, k.tape.trans h.tape, k.output.trans h.output, Nat.le_trans h.size k.size, fun i hi hn => (k.block i (Nat.lt_of_lt_of_le hi h.size) hn).trans (h.block i hi hn)⟩
theorem Fr.mono {S S' : Nat → Prop} {w w' : World} (h : Fr S w w') (hS : ∀ b, S b → S' b) : Fr S' w w' := ⟨h.os, h.tape, h.output, h.size, fun b hb hn => h.block b hb (fun hs => hn (hS b hs))⟩
theorem Fr.of_below {S : Nat → Prop} {w w' : World} (h : Below w.heap.size w w') : Fr S w w' := ⟨h.os, h.tape, h.output, h.size, fun b hb _ => h.block b hb⟩
theorem Fr.setCell {S : Nat → Prop} {a w : World} (h : Fr S a w) {p : Addr} (hp : S p.block) (u : Value) : Fr S a (w.setCell p u) :=
  ⟨h.os, h.tape, h.output, by simpa [World.setCell] using h.size, fun b hb hn => (Below.heap_setCell _ _ _ _ (fun e => hn (by rw [e]; exact hp))).trans (h.block b hb hn)⟩
theorem Fr.below {S : Nat → Prop} {B : Nat} {a w w' : World} (h : Below B a w) (hf : Fr S w w') (hS : ∀ b, S b → B ≤ b) (hB : B ≤ w.heap.size) : Below B a w' :=
  h.trans ⟨hf.os, hf.tape, hf.output, hf.size, fun b hb => hf.block b (by omega) (fun hs => by have := hS b hs; omega)⟩

/-- One element of an owned row: its cells, its blocks, and how it may be turned. -/
theorem OSl.at {w : World} {T : TypeId} {v : Value} {l : List Tree} {S : Nat → Prop} (h : OSl w T v l S) (hlt : ∀ b, S b → b < w.heap.size) {j : Nat} (hj : j < l.length) :
    ∃ g cap u Sj, v = .slice (some ⟨g, 0, none⟩) l.length cap ∧ l.length ≤ cap ∧ cap ≤ maxLen ∧ S g ∧ (∀ b, Sj b → S b ∧ b ≠ g) ∧
      w.cell? ⟨g, j * 5, none⟩ = some (.int .i64 l[j].kind) ∧ w.cell? ⟨g, j * 5 + 1, none⟩ = some (.int .i64 l[j].n) ∧ w.cell? ⟨g, j * 5 + 2, none⟩ = some (.int .i64 l[j].x) ∧ w.cell? ⟨g, j * 5 + 3, none⟩ = some (.string l[j].s) ∧ w.cell? ⟨g, j * 5 + 4, none⟩ = some u ∧
      (∀ o, w.frozen? ⟨g, o, none⟩ = false) ∧ OSl w T u l[j].l Sj ∧ Fits l[j].kind l[j].n l[j].x l[j].s ∧
      (∀ (w' : World) (k n x : Int) (s : ByteArray) (l' : List Tree), Fits k n x s → w'.heap[g]? = ((((w.setCell ⟨g, j * 5, none⟩ (.int .i64 k)).setCell ⟨g, j * 5 + 1, none⟩ (.int .i64 n)).setCell ⟨g, j * 5 + 2, none⟩ (.int .i64 x)).setCell ⟨g, j * 5 + 3, none⟩ (.string s)).heap[g]? →
        (∀ b, b < w.heap.size → ¬ Sj b → b ≠ g → w'.heap[b]? = w.heap[b]?) → OSl w' T u l' Sj → OSl w' T v (l.set j (.mk k n x s l')) S) := by
  cases h with
  | nil => simp at hj
  | @row g cap f l us Si S h0 hrow hcap hmax hc hsub hS hSi hd =>
    obtain ⟨⟨e0, e1, e2, e3, e4⟩, fit⟩ := hc j hj
    have k0 := hrow.cell (i := j * 5) (by omega)
    have k1 := hrow.cell (i := j * 5 + 1) (by omega)
    have k2 := hrow.cell (i := j * 5 + 2) (by omega)
    have k3 := hrow.cell (i := j * 5 + 3) (by omega)
    have k4 := hrow.cell (i := j * 5 + 4) (by omega)
    rw [e0] at k0; rw [e1] at k1; rw [e2] at k2; rw [e3] at k3; rw [e4] at k4
    refine ⟨g, cap, us j, Si j, rfl, hcap, hmax, hS, fun b hb => hSi j b hj hb, k0, k1, k2, k3, k4, fun o => hrow.frozen o, hsub j hj, fit, ?_⟩
    intro w' k n x s l' hfit hg hframe ho
    have hrow2 := (((hrow.set (j * 5) (.int .i64 k)).set (j * 5 + 1) (.int .i64 n)).set (j * 5 + 2) (.int .i64 x)).set (j * 5 + 3) (.string s)
    have hrow3 := hrow2.of_block hg
    have key := OSl.row (w := w') (T := T) (g := g) (cap := cap) (l := l.set j (.mk k n x s l')) (us := us) (Si := Si) (S := S) (by simpa using h0) hrow3 (by simpa using hcap) hmax ?_ ?_ hS (fun i b hi hb => hSi i b (by simpa using hi) hb) (fun a i b ha hi hne => hd a i b (by simpa using ha) (by simpa using hi) hne)
    · simpa using key
    · intro i hi
      have hi' : i < l.length := by simpa using hi
      by_cases e : i = j
      · subst e
        rw [List.getElem_set_self]
        refine ⟨⟨?_, ?_, ?_, ?_, ?_⟩, hfit⟩
        · show (if _ then _ else _) = _
          simp
        · show (if _ then _ else _) = _
          simp
        · show (if _ then _ else _) = _
          simp
        · show (if _ then _ else _) = _
          simp
        · simp; exact e4
      · obtain ⟨⟨g0, g1, g2, g3, g4⟩, fit'⟩ := hc i hi'
        rw [List.getElem_set_ne (by omega)]
        refine ⟨⟨?_, ?_, ?_, ?_, ?_⟩, fit'⟩
        · simp only [show ¬ i * 5 = j * 5 + 3 by omega, show ¬ i * 5 = j * 5 + 2 by omega, show ¬ i * 5 = j * 5 + 1 by omega, show ¬ i * 5 = j * 5 by omega, if_false]; exact g0
        · simp only [show ¬ i * 5 + 1 = j * 5 + 3 by omega, show ¬ i * 5 + 1 = j * 5 + 2 by omega, show ¬ i * 5 + 1 = j * 5 + 1 by omega, show ¬ i * 5 + 1 = j * 5 by omega, if_false]; exact g1
        · simp only [show ¬ i * 5 + 2 = j * 5 + 3 by omega, show ¬ i * 5 + 2 = j * 5 + 2 by omega, show ¬ i * 5 + 2 = j * 5 + 1 by omega, show ¬ i * 5 + 2 = j * 5 by omega, if_false]; exact g2
        · simp only [show ¬ i * 5 + 3 = j * 5 + 3 by omega, show ¬ i * 5 + 3 = j * 5 + 2 by omega, show ¬ i * 5 + 3 = j * 5 + 1 by omega, show ¬ i * 5 + 3 = j * 5 by omega, if_false]; exact g3
        · simp only [show ¬ i * 5 + 4 = j * 5 + 3 by omega, show ¬ i * 5 + 4 = j * 5 + 2 by omega, show ¬ i * 5 + 4 = j * 5 + 1 by omega, show ¬ i * 5 + 4 = j * 5 by omega, if_false]; exact g4
    · intro i hi
      have hi' : i < l.length := by simpa using hi
      by_cases e : i = j
      · subst e
        rw [List.getElem_set_self]
        exact ho
      · rw [List.getElem_set_ne (by omega)]
        exact (hsub i hi').kept (fun b hb => hframe b (hlt b (hSi i b hi' hb).1) (fun hb' => hd i j b hi' hj e hb hb') (hSi i b hi' hb).2)

theorem cell_three {w : World} {g j : Nat} {a b c : Value} (r : Nat) (hr : 3 ≤ r) :
    (((w.setCell ⟨g, j * 5, none⟩ a).setCell ⟨g, j * 5 + 1, none⟩ b).setCell ⟨g, j * 5 + 2, none⟩ c).cell? ⟨g, j * 5 + r, none⟩ = w.cell? ⟨g, j * 5 + r, none⟩ := by
  exact (World.cell?_setCell_other _ ⟨g, j * 5 + 2, none⟩ ⟨g, j * 5 + r, none⟩ _ (by simp <;> omega)).trans ((World.cell?_setCell_other _ ⟨g, j * 5 + 1, none⟩ ⟨g, j * 5 + r, none⟩ _ (by simp <;> omega)).trans (World.cell?_setCell_other _ ⟨g, j * 5, none⟩ ⟨g, j * 5 + r, none⟩ _ (by simp <;> omega)))
def MarkC (l : List Tree) : Prop := ∀ (w : World) (v : Value) (S : Nat → Prop) (k : Nat), 1 ≤ k → k + 4 * szL l ≤ 8388600 → (∀ b, S b → b < w.heap.size) → OSl w 29 v l S →
  Calls Tryd.prog 82 #[v, .int .i64 k] w fun e w' => e = .returned (.int .i64 ((k + 4 * szL l : Nat) : Int)) ∧ OSl w' 29 v (markL l k) S ∧ Fr S w w'

theorem setCell_congr {w w' : World} (p : Addr) (v : Value) (h : w'.heap[p.block]? = w.heap[p.block]?) : (w'.setCell p v).heap[p.block]? = (w.setCell p v).heap[p.block]? := by
  simp only [World.setCell, Array.getElem?_modify, h]
theorem mark_set {l : List Tree} {j : Nat} (h : j < l.length) (k : Nat) : (markL (l.take j) k ++ l.drop j).set j (l[j].mark (k + 4 * szL (l.take j))) = markL (l.take (j + 1)) k ++ l.drop (j + 1) := by
  rw [List.take_succ_eq_append_getElem h, markL_snoc, List.set_append_right _ _ (by rw [markL_len, List.length_take]; omega), markL_len, List.length_take, Nat.min_eq_left (by omega), Nat.sub_self, List.append_assoc, List.drop_eq_getElem_cons h]
  rfl

set_option maxRecDepth 100000 in
set_option maxHeartbeats 4000000 in
theorem markValS_of (l : List Tree) (ih : ∀ t ∈ l, MarkC t.l) : MarkC l := by
  intro w v S k hk1 hk hlt ho
  obtain ⟨a, cap, b0, off0, rfl, hcap0, hmax0, -⟩ := ho.tsl
  have hll : ∀ j, j ≤ l.length → szL (l.take j) ≤ szL l := fun j _ => szL_take_le l j
  have hlen : l.length ≤ 8388600 := by
    have : ∀ l : List Tree, l.length ≤ szL l := by
      intro l
      induction l with
      | nil => simp
      | cons t l ih => have := sz_eq t; simp only [szL, List.length_cons]; omega
    have := this l
    omega
  have IH := Lib.hid ih
  have HLT := Lib.hid hlt
  have HO := Lib.hid ho
  have HLL := Lib.hid hll
  clear ih hlt ho hll hcap0 hmax0
  go_enter Tryd.func82, Tryd.ntmps82
  go_wp2_with fail
  go_loopw [1, 5] (fun c i wr => ∃ (j K : Nat), j ≤ l.length ∧ K = k + 4 * szL (l.take j) ∧ c = .int .i64 K ∧ i = .int .i64 j ∧ Hid (OSl wr 29 (.slice a l.length cap) (markL (l.take j) k ++ l.drop j) S) ∧ Hid (Fr S w wr)) (fun _ i _ => l.length - (intOf i).toNat)
  case atStart => exact ⟨0, k, by omega, by simp [szL], rfl, rfl, Lib.hid (by simpa [markL] using HO.out), Lib.hid (Fr.refl _ _)⟩
  case round =>
    obtain ⟨j, K, hj, hK, rfl, rfl, HP, HF⟩ := hrel
    by_cases hjl : j < l.length
    · have hlt' : ∀ b, S b → b < wr.heap.size := fun b hb => Nat.lt_of_lt_of_le (HLT.out b hb) HF.out.size
      have hlen1 : (markL (l.take j) k ++ l.drop j).length = l.length := by simp [markL_len]; omega
      have hjx : j < (markL (l.take j) k ++ l.drop j).length := by omega
      have hget : (markL (l.take j) k ++ l.drop j)[j] = l[j] := by
        rw [List.getElem_append_right (by simp [markL_len]; omega)]
        simp [markL_len, Nat.min_eq_left (Nat.le_of_lt hjl)]
      obtain ⟨g, cap', u, Sj, hv, hcap, hmax, hSg, hSj, c0, c1, c2, c3, c4, hfz, hsub, hfit, hupd⟩ := HP.out.at hlt' hjx
      rw [hget] at c0 c1 c2 c3 hsub hfit
      rw [hlen1] at hv hcap
      have hset := mark_set hjl k
      have hKb : K + 4 * l[j].sz ≤ 8388600 := by
        have h1 := HLL.out (j + 1) (by omega)
        rw [szL_take_succ hjl] at h1
        omega
      have hsz := sz_eq l[j]
      have hmk := Tree.mark_eq l[j] K
      rw [← hK] at hset
      have hnxt : K + 4 * l[j].sz = k + 4 * szL (l.take (j + 1)) := by rw [szL_take_succ hjl]; omega
      have hih := IH.out l[j] (List.getElem_mem hjl)
      rw [hmk] at hset
      have HSET := Lib.hid hset; have HUPD := Lib.hid hupd; have HIH := Lib.hid hih; have HSUB := Lib.hid hsub; have HSJ := Lib.hid hSj; have HNX := Lib.hid hnxt; have HLT2 := Lib.hid hlt'
      clear hset hupd hih hsub hmk hget hjx hSj hnxt hlt' HP
      generalize l[j] = t at *
      injection hv with hv1 hv2 hv3
      subst hv1 hv3
      have hk1 : 1 ≤ K := by omega
      have HKK := Lib.hid hK; clear hK hk
      have hgl : g < wr.heap.size := World.block_lt_of_cell? wr _ c0
      have hf0 := hfz (j * 5); have hf1 := hfz (j * 5 + 1); have hf2 := hfz (j * 5 + 2); have hf3 := hfz (j * 5 + 3)
      have HFZ := Lib.hid hfz; clear hfz
      go_wp2_with fail
      have e3 : (K : Int) + 1 + 1 + 1 = ((K + 3 : Nat) : Int) := by omega
      rw [e3]
      refine (markText_c (K + 3) _ (by omega) (by omega)).mono ?_
      rintro _ w1 ⟨rfl, hb1⟩
      have hg1 := hb1.block g (by simpa [World.setCell] using hgl)
      have hsz1 := hb1.size
      have x3 := (World.cell?_of_block (a := ⟨g, j * 5 + 3, none⟩) hg1).trans ((cell_three 3 (by omega)).trans c3)
      have x4 := (World.cell?_of_block (a := ⟨g, j * 5 + 4, none⟩) hg1).trans ((cell_three 4 (by omega)).trans c4)
      have z3 : w1.frozen? ⟨g, j * 5 + 3, none⟩ = false := (World.frozen?_of_block (a := ⟨g, j * 5 + 3, none⟩) hg1).trans (by simpa using hf3)
      have HB1 := Lib.hid hb1; have HG1 := Lib.hid hg1
      clear hb1 hg1 c0 c1 c2 c3 c4 hf0 hf1 hf2 hf3
      obtain ⟨M, hM⟩ : ∃ M, M = mt (K + 3) := ⟨_, rfl⟩
      rw [← hM]
      have HM := Lib.hid hM; clear hM
      obtain ⟨u1, u2, u3, rfl⟩ : ∃ a n c, u = .slice a n c := HSUB.out.tsl.form
      go_wp2_with fail
      have e4 : (K : Int) + 3 + 1 = ((K + 4 : Nat) : Int) := by omega
      rw [e4]
      have hsz3 : wr.heap.size ≤ w1.heap.size := by simpa [World.setCell] using hsz1
      have hfr : ∀ b, b < wr.heap.size → b ≠ g → (w1.setCell ⟨g, j * 5 + 3, none⟩ (.string M)).heap[b]? = wr.heap[b]? := by
        intro b hb hne
        rw [Below.heap_setCell _ _ _ _ hne, HB1.out.block b (by simpa [World.setCell] using hb), Below.heap_setCell _ _ _ _ hne, Below.heap_setCell _ _ _ _ hne, Below.heap_setCell _ _ _ _ hne]
      refine (HIH.out _ _ Sj (K + 4) (by omega) (by omega) (fun b hb => ?_) (HSUB.out.kept (fun b hb => hfr b (HLT2.out b (HSJ.out b hb).1) (HSJ.out b hb).2))).mono ?_
      · have := HLT2.out b (HSJ.out b hb).1
        simp only [World.size_setCell]; omega
      rintro _ w2 ⟨rfl, ho2, hf2⟩
      have hng : ¬ Sj g := fun h => (HSJ.out g h).2 rfl
      have hres := HUPD.out w2 K ((K : Int) + 1) ((K : Int) + 1 + 1) M (markL t.l (K + 4)) ⟨by omega, by omega, by omega, by have := mt_size (K + 3); rw [HM.out]; omega⟩
        ((hf2.block g (by simp only [World.size_setCell]; omega) hng).trans (setCell_congr ⟨g, j * 5 + 3, none⟩ _ HG1.out))
        (fun b hb hn hne => (hf2.block b (by simp only [World.size_setCell]; omega) hn).trans (hfr b hb hne)) ho2
      rw [HM.out, HSET.out] at hres
      have hfs : Fr S w w2 := HF.out.trans ((((((Fr.refl S wr).setCell hSg _).setCell hSg _).setCell hSg _).trans (Fr.of_below HB1.out)).setCell hSg _ |>.trans (hf2.mono (fun b hb => (HSJ.out b hb).1)))
      have HR := Lib.hid hres; have HFS := Lib.hid hfs
      clear hres hfs ho2 hf2 hfr
      go_wp2_with fail
      go_roundw
      case rel => exact ⟨j + 1, _, by omega, rfl, by have := HNX.out; congr 1; omega, by go_num, HR, HFS⟩
      case measure => simp [intOf]; omega
    · obtain rfl : j = l.length := by omega
      have hfin := HP.out
      rw [List.take_length, List.drop_length, List.append_nil] at hfin
      rw [List.take_length] at hK
      have HFIN := Lib.hid hfin; have HKK := Lib.hid hK; clear hfin hK HP
      go_wp2_with fail
      go_ret
      exact ⟨ret_int (by have := HKK.out; omega), HFIN.out, HF.out⟩

theorem markC_all (t : Tree) : MarkC t.l := Tree.ind (p := fun t => MarkC t.l) (fun t ih => markValS_of t.l ih) t
theorem markValS_c (l : List Tree) : MarkC l := markValS_of l (fun t _ => markC_all t)

theorem markL_get : ∀ (l : List Tree) (k : Nat) {j : Nat} (h : j < l.length) (h' : j < (markL l k).length), (markL l k)[j] = l[j].mark (k + 4 * szL (l.take j))
  | t :: l, k, 0, _, _ => by simp [markL, szL]
  | t :: l, k, j + 1, h, h' => by
    have hj : j < l.length := by simpa using h
    have := markL_get l (k + 4 * t.sz) hj (by rw [markL_len]; exact hj)
    simp only [markL, List.getElem_cons_succ, List.take_succ_cons, szL] at this ⊢
    rw [this]; congr 1; omega

def HeldC (l : List Tree) : Prop := ∀ (w : World) (v : Value) (k : Nat), 1 ≤ k → k + 4 * szL l ≤ 8388600 → TSl w v (markL l k) →
  Calls Tryd.prog 83 #[v, .int .i64 k] w fun e w' => e = .returned (.int .i64 ((k + 4 * szL l : Nat) : Int)) ∧ Below w.heap.size w w'

set_option maxRecDepth 100000 in
set_option maxHeartbeats 4000000 in
theorem heldValS_of (l : List Tree) (ih : ∀ t ∈ l, HeldC t.l) : HeldC l := by
  intro w v k hk1 hk hv
  obtain ⟨a, cap, b, off, rfl, hcap, hmax, ha, hl⟩ := hv
  rw [markL_len]
  rw [markL_len] at hcap
  have hlen : l.length ≤ 8388600 := by
    have : ∀ l : List Tree, l.length ≤ szL l := by
      intro l
      induction l with
      | nil => simp
      | cons t l ih => have := sz_eq t; simp only [szL, List.length_cons]; omega
    have := this l
    omega
  have ha' : l ≠ [] → a = some ⟨b, off, none⟩ := fun h => ha (fun e => h (by have := congrArg List.length e; rw [markL_len] at this; exact List.eq_nil_of_length_eq_zero this))
  have hl' : ∀ j (h : j < l.length), TAt w b (off + j * 5) (l[j].mark (k + 4 * szL (l.take j))) := fun j h => by
    have := hl j (by rw [markL_len]; exact h)
    rwa [markL_get l k h] at this
  have hll : ∀ j, j ≤ l.length → szL (l.take j) ≤ szL l := fun j _ => szL_take_le l j
  have IH := Lib.hid ih; have HL := Lib.hid hl'; have HA := Lib.hid ha'; have HLL := Lib.hid hll
  clear ih hl hl' ha ha' hll hcap hmax
  go_enter Tryd.func83, Tryd.ntmps83
  go_wp2_with fail
  go_loopw [1, 5] (fun c i wr => ∃ (j K : Nat), j ≤ l.length ∧ K = k + 4 * szL (l.take j) ∧ c = .int .i64 K ∧ i = .int .i64 j ∧ Hid (Below w.heap.size w wr)) (fun _ i _ => l.length - (intOf i).toNat)
  case atStart => exact ⟨0, k, by omega, by simp [szL], rfl, rfl, Lib.hid (Below.refl _ _)⟩
  case round =>
    obtain ⟨j, K, hj, hK, rfl, rfl, HF⟩ := hrel
    by_cases hjl : j < l.length
    · obtain rfl : a = some ⟨b, off, none⟩ := HA.out (by intro h; rw [h] at hjl; simp at hjl)
      have hat := HL.out j hjl
      rw [← hK, Tree.mark_eq] at hat
      obtain ⟨u, c0, c1, c2, c3, c4, hsl, hfit⟩ := (hat.kept HF.out).parts
      simp only [Tree.kind_mk, Tree.n_mk, Tree.x_mk, Tree.s_mk, Tree.l_mk] at c0 c1 c2 c3 hsl
      have hKb : K + 4 * l[j].sz ≤ 8388600 := by
        have h1 := HLL.out (j + 1) (by omega)
        rw [szL_take_succ hjl] at h1
        omega
      have hsz := sz_eq l[j]
      have hnxt : K + 4 * l[j].sz = k + 4 * szL (l.take (j + 1)) := by rw [szL_take_succ hjl]; omega
      have hih := IH.out l[j] (List.getElem_mem hjl)
      have HIH := Lib.hid hih; have HNX := Lib.hid hnxt; have HSL := Lib.hid hsl
      clear hih hnxt hsl hat hfit
      generalize l[j] = t at *
      have hk1 : 1 ≤ K := by omega
      have HKK := Lib.hid hK; clear hK hk
      have n1 : ((K : Int) != (K : Int)) = false := by simp
      have n2 : ((K : Int) + 1 != (K : Int) + 1) = false := by simp
      have n3 : ((K : Int) + 1 + 1 != (K : Int) + 1 + 1) = false := by simp
      have hmt := fun w1 => markText_c (K + 3) w1 (by omega) (by omega)
      obtain ⟨M, hM⟩ : ∃ M, M = mt (K + 3) := ⟨_, rfl⟩
      rw [← hM] at c3 hmt
      rw [show ((K + 3 : Nat) : Int) = (K : Int) + 1 + 1 + 1 by omega] at hmt
      have HMT := Lib.hid hmt; clear hM hmt
      have hbl : b < wr.heap.size := World.block_lt_of_cell? wr _ c0
      have HK3 : Hid (∀ w1, Below wr.heap.size wr w1 → w1.cell? ⟨b, off + j * 5 + 3, none⟩ = some (.string M)) := Lib.hid (fun w1 hb => (hb.cell (p := ⟨b, off + j * 5 + 3, none⟩) hbl).trans c3)
      have d5 : Below wr.heap.size wr wr.drew := (Below.refl _ _).drew
      go_wp2_with fail
      go_region_held3 (fun w' => w'.cell? ⟨b, off + j * 5 + 3, none⟩ = some (.string M)) (first | exact HK3.out _ d6 | exact HK3.out _ d5)
        (first
         | (go_at_call 136; refine (HMT.out _).mono ?_; rintro _ w6 ⟨rfl, b6⟩; have d6 := d5.trans (b6.mono d5.size)))
      all_goals
        have y4 := (d6.cell (p := ⟨b, off + j * 5 + 4, none⟩) hbl).trans c4
        have HD6 := Lib.hid d6
        have HIH2 := Lib.hid (HIH.out _ _ (K + 4) (by omega) (by omega) (HSL.out.kept d6))
        rw [show ((K + 4 : Nat) : Int) = (K : Int) + 1 + 1 + 1 + 1 by omega] at HIH2
        clear d6 d5 c0 c1 c2 c3 c4 HMT HK3
        obtain ⟨u1, u2, u3, rfl⟩ : ∃ a n c, u = .slice a n c := HSL.out.form
        go_wp2_with fail
        refine HIH2.out.mono ?_
        rintro _ w7 ⟨rfl, b7⟩
        have HB7 := Lib.hid (HF.out.trans (HD6.out.trans (b7.mono HD6.out.size) |>.mono HF.out.size))
        clear b7
        have hneg : decide (((K + 4 + 4 * szL t.l : Nat) : Int) < 0) = false := decide_eq_false (by omega)
        go_wp2_with fail
        go_roundw
        case rel => exact ⟨j + 1, _, by omega, rfl, by have := HNX.out; congr 1; omega, by go_num, HB7⟩
        case measure => simp [intOf]; omega
    · obtain rfl : j = l.length := by omega
      rw [List.take_length] at hK
      have HKK := Lib.hid hK; clear hK
      go_wp2_with fail
      go_ret
      exact ⟨ret_int (by have := HKK.out; omega), HF.out⟩

theorem heldC_all (t : Tree) : HeldC t.l := Tree.ind (p := fun t => HeldC t.l) (fun t ih => heldValS_of t.l ih) t
theorem heldValS_c (l : List Tree) : HeldC l := heldValS_of l (fun t _ => heldC_all t)
end Go.Proofs.YtilmhemcpgiikaaDoor
