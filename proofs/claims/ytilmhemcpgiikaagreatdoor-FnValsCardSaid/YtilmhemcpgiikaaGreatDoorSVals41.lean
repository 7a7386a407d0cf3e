/- Vals: texts of the proof (KVals). -/
import Derived.Test.YtilmhemcpgiikaaGreatDoorSVals28
import Derived.Test.YtilmhemcpgiikaaGreatDoorSVals40
import Derived.Test.YtilmhemcpgiikaaGreatDoorSVals10
import Derived.Test.YtilmhemcpgiikaaGreatDoorSVals15
import Derived.Deep.AppendLies
/- What a kind is called; a number's value by the program; plain laws of FnVals. -/
namespace Go.Proofs.YtilmhemcpgiikaaGreatDoor
open Go.Deep Go.ChangeShapes Go.WideShapes Go.ChangeAt Go.RowKit
open Go.ChangeMaps (open_string shut_string)

/-- What a kind is called. -/
def nameF (n : Int) : ByteArray := ([{ data := #[] }, { data := #[110, 117, 108, 108] }, { data := #[98, 111, 111, 108] }, { data := #[105, 110, 116] }, { data := #[102, 108, 116] }, { data := #[111, 100, 100] }, { data := #[100, 101, 99] }, { data := #[116, 101, 120, 116] }, { data := #[98, 121, 116, 101, 115] }, { data := #[108, 105, 115, 116] }, { data := #[109, 97, 112] }, { data := #[116, 97, 103] }] : List ByteArray).getD n.toNat { data := #[] }
set_option maxHeartbeats 4000000 in
theorem kindImpl_c (n : Int) (w : World) (h1 : -1 ≤ n) (h2 : n ≤ 12) : Calls Tryz.prog 21 #[.int .i64 n] w fun e w' => e = .returned (.string (nameF n)) ∧ Below w.heap.size w w' := by
  have h : n = -1 ∨ n = 0 ∨ n = 1 ∨ n = 2 ∨ n = 3 ∨ n = 4 ∨ n = 5 ∨ n = 6 ∨ n = 7 ∨ n = 8 ∨ n = 9 ∨ n = 10 ∨ n = 11 ∨ n = 12 := by omega
  clear h1 h2
  rcases h with rfl | rfl | rfl | rfl | rfl | rfl | rfl | rfl | rfl | rfl | rfl | rfl | rfl | rfl
  · go_enter Tryz.func21, Tryz.ntmps21
    go_wp2
    go_ret
    exact ⟨rfl, Below.refl _ _⟩
  · go_enter Tryz.func21, Tryz.ntmps21
    go_wp2
    go_ret
    exact ⟨rfl, Below.refl _ _⟩
  · have ix : ∀ w, (Instr.index 62 (.agg #[.string { data := #[110, 117, 108, 108] }, .string { data := #[98, 111, 111, 108] }, .string { data := #[105, 110, 116] }, .string { data := #[102, 108, 116] }, .string { data := #[111, 100, 100] }, .string { data := #[100, 101, 99] }, .string { data := #[116, 101, 120, 116] }, .string { data := #[98, 121, 116, 101, 115] }, .string { data := #[108, 105, 115, 116] }, .string { data := #[109, 97, 112] }, .string { data := #[116, 97, 103] }]) (.int .i64 0)).run Tryz.prog w = .ok (.string { data := #[110, 117, 108, 108] }) w := fun _ => by kernel_rfl
    go_enter Tryz.func21, Tryz.ntmps21
    go_wp2
    go_ret
    exact ⟨rfl, Below.refl _ _⟩
  · have ix : ∀ w, (Instr.index 62 (.agg #[.string { data := #[110, 117, 108, 108] }, .string { data := #[98, 111, 111, 108] }, .string { data := #[105, 110, 116] }, .string { data := #[102, 108, 116] }, .string { data := #[111, 100, 100] }, .string { data := #[100, 101, 99] }, .string { data := #[116, 101, 120, 116] }, .string { data := #[98, 121, 116, 101, 115] }, .string { data := #[108, 105, 115, 116] }, .string { data := #[109, 97, 112] }, .string { data := #[116, 97, 103] }]) (.int .i64 1)).run Tryz.prog w = .ok (.string { data := #[98, 111, 111, 108] }) w := fun _ => by kernel_rfl
    go_enter Tryz.func21, Tryz.ntmps21
    go_wp2
    go_ret
    exact ⟨rfl, Below.refl _ _⟩
  · have ix : ∀ w, (Instr.index 62 (.agg #[.string { data := #[110, 117, 108, 108] }, .string { data := #[98, 111, 111, 108] }, .string { data := #[105, 110, 116] }, .string { data := #[102, 108, 116] }, .string { data := #[111, 100, 100] }, .string { data := #[100, 101, 99] }, .string { data := #[116, 101, 120, 116] }, .string { data := #[98, 121, 116, 101, 115] }, .string { data := #[108, 105, 115, 116] }, .string { data := #[109, 97, 112] }, .string { data := #[116, 97, 103] }]) (.int .i64 2)).run Tryz.prog w = .ok (.string { data := #[105, 110, 116] }) w := fun _ => by kernel_rfl
    go_enter Tryz.func21, Tryz.ntmps21
    go_wp2
    go_ret
    exact ⟨rfl, Below.refl _ _⟩
  · have ix : ∀ w, (Instr.index 62 (.agg #[.string { data := #[110, 117, 108, 108] }, .string { data := #[98, 111, 111, 108] }, .string { data := #[105, 110, 116] }, .string { data := #[102, 108, 116] }, .string { data := #[111, 100, 100] }, .string { data := #[100, 101, 99] }, .string { data := #[116, 101, 120, 116] }, .string { data := #[98, 121, 116, 101, 115] }, .string { data := #[108, 105, 115, 116] }, .string { data := #[109, 97, 112] }, .string { data := #[116, 97, 103] }]) (.int .i64 3)).run Tryz.prog w = .ok (.string { data := #[102, 108, 116] }) w := fun _ => by kernel_rfl
    go_enter Tryz.func21, Tryz.ntmps21
    go_wp2
    go_ret
    exact ⟨rfl, Below.refl _ _⟩
  · have ix : ∀ w, (Instr.index 62 (.agg #[.string { data := #[110, 117, 108, 108] }, .string { data := #[98, 111, 111, 108] }, .string { data := #[105, 110, 116] }, .string { data := #[102, 108, 116] }, .string { data := #[111, 100, 100] }, .string { data := #[100, 101, 99] }, .string { data := #[116, 101, 120, 116] }, .string { data := #[98, 121, 116, 101, 115] }, .string { data := #[108, 105, 115, 116] }, .string { data := #[109, 97, 112] }, .string { data := #[116, 97, 103] }]) (.int .i64 4)).run Tryz.prog w = .ok (.string { data := #[111, 100, 100] }) w := fun _ => by kernel_rfl
    go_enter Tryz.func21, Tryz.ntmps21
    go_wp2
    go_ret
    exact ⟨rfl, Below.refl _ _⟩
  · have ix : ∀ w, (Instr.index 62 (.agg #[.string { data := #[110, 117, 108, 108] }, .string { data := #[98, 111, 111, 108] }, .string { data := #[105, 110, 116] }, .string { data := #[102, 108, 116] }, .string { data := #[111, 100, 100] }, .string { data := #[100, 101, 99] }, .string { data := #[116, 101, 120, 116] }, .string { data := #[98, 121, 116, 101, 115] }, .string { data := #[108, 105, 115, 116] }, .string { data := #[109, 97, 112] }, .string { data := #[116, 97, 103] }]) (.int .i64 5)).run Tryz.prog w = .ok (.string { data := #[100, 101, 99] }) w := fun _ => by kernel_rfl
    go_enter Tryz.func21, Tryz.ntmps21
    go_wp2
    go_ret
    exact ⟨rfl, Below.refl _ _⟩
  · have ix : ∀ w, (Instr.index 62 (.agg #[.string { data := #[110, 117, 108, 108] }, .string { data := #[98, 111, 111, 108] }, .string { data := #[105, 110, 116] }, .string { data := #[102, 108, 116] }, .string { data := #[111, 100, 100] }, .string { data := #[100, 101, 99] }, .string { data := #[116, 101, 120, 116] }, .string { data := #[98, 121, 116, 101, 115] }, .string { data := #[108, 105, 115, 116] }, .string { data := #[109, 97, 112] }, .string { data := #[116, 97, 103] }]) (.int .i64 6)).run Tryz.prog w = .ok (.string { data := #[116, 101, 120, 116] }) w := fun _ => by kernel_rfl
    go_enter Tryz.func21, Tryz.ntmps21
    go_wp2
    go_ret
    exact ⟨rfl, Below.refl _ _⟩
  · have ix : ∀ w, (Instr.index 62 (.agg #[.string { data := #[110, 117, 108, 108] }, .string { data := #[98, 111, 111, 108] }, .string { data := #[105, 110, 116] }, .string { data := #[102, 108, 116] }, .string { data := #[111, 100, 100] }, .string { data := #[100, 101, 99] }, .string { data := #[116, 101, 120, 116] }, .string { data := #[98, 121, 116, 101, 115] }, .string { data := #[108, 105, 115, 116] }, .string { data := #[109, 97, 112] }, .string { data := #[116, 97, 103] }]) (.int .i64 7)).run Tryz.prog w = .ok (.string { data := #[98, 121, 116, 101, 115] }) w := fun _ => by kernel_rfl
    go_enter Tryz.func21, Tryz.ntmps21
    go_wp2
    go_ret
    exact ⟨rfl, Below.refl _ _⟩
  · have ix : ∀ w, (Instr.index 62 (.agg #[.string { data := #[110, 117, 108, 108] }, .string { data := #[98, 111, 111, 108] }, .string { data := #[105, 110, 116] }, .string { data := #[102, 108, 116] }, .string { data := #[111, 100, 100] }, .string { data := #[100, 101, 99] }, .string { data := #[116, 101, 120, 116] }, .string { data := #[98, 121, 116, 101, 115] }, .string { data := #[108, 105, 115, 116] }, .string { data := #[109, 97, 112] }, .string { data := #[116, 97, 103] }]) (.int .i64 8)).run Tryz.prog w = .ok (.string { data := #[108, 105, 115, 116] }) w := fun _ => by kernel_rfl
    go_enter Tryz.func21, Tryz.ntmps21
    go_wp2
    go_ret
    exact ⟨rfl, Below.refl _ _⟩
  · have ix : ∀ w, (Instr.index 62 (.agg #[.string { data := #[110, 117, 108, 108] }, .string { data := #[98, 111, 111, 108] }, .string { data := #[105, 110, 116] }, .string { data := #[102, 108, 116] }, .string { data := #[111, 100, 100] }, .string { data := #[100, 101, 99] }, .string { data := #[116, 101, 120, 116] }, .string { data := #[98, 121, 116, 101, 115] }, .string { data := #[108, 105, 115, 116] }, .string { data := #[109, 97, 112] }, .string { data := #[116, 97, 103] }]) (.int .i64 9)).run Tryz.prog w = .ok (.string { data := #[109, 97, 112] }) w := fun _ => by kernel_rfl
    go_enter Tryz.func21, Tryz.ntmps21
    go_wp2
    go_ret
    exact ⟨rfl, Below.refl _ _⟩
  · have ix : ∀ w, (Instr.index 62 (.agg #[.string { data := #[110, 117, 108, 108] }, .string { data := #[98, 111, 111, 108] }, .string { data := #[105, 110, 116] }, .string { data := #[102, 108, 116] }, .string { data := #[111, 100, 100] }, .string { data := #[100, 101, 99] }, .string { data := #[116, 101, 120, 116] }, .string { data := #[98, 121, 116, 101, 115] }, .string { data := #[108, 105, 115, 116] }, .string { data := #[109, 97, 112] }, .string { data := #[116, 97, 103] }]) (.int .i64 10)).run Tryz.prog w = .ok (.string { data := #[116, 97, 103] }) w := fun _ => by kernel_rfl
    go_enter Tryz.func21, Tryz.ntmps21
    go_wp2
    go_ret
    exact ⟨rfl, Below.refl _ _⟩
  · go_enter Tryz.func21, Tryz.ntmps21
    go_wp2
    go_ret
    exact ⟨rfl, Below.refl _ _⟩
set_option maxHeartbeats 4000000 in
theorem kindSpec_c (n : Int) (w : World) (h1 : -1 ≤ n) (h2 : n ≤ 12) : Calls Tryz.prog 22 #[.int .i64 n] w fun e w' => e = .returned (.string (nameF n)) ∧ Below w.heap.size w w' := by
  have h : n = -1 ∨ n = 0 ∨ n = 1 ∨ n = 2 ∨ n = 3 ∨ n = 4 ∨ n = 5 ∨ n = 6 ∨ n = 7 ∨ n = 8 ∨ n = 9 ∨ n = 10 ∨ n = 11 ∨ n = 12 := by omega
  clear h1 h2
  rcases h with rfl | rfl | rfl | rfl | rfl | rfl | rfl | rfl | rfl | rfl | rfl | rfl | rfl | rfl
  all_goals
    go_enter Tryz.func22, Tryz.ntmps22
    go_wp2
    go_ret
    exact ⟨rfl, vbelow1 _ _⟩
theorem numVal_i (n x : Int) (w : World) : Calls Tryz.prog 29 #[.agg #[.int .i64 n, .int .i64 x]] w fun en w' => en = .returned (.agg #[.int .i64 (numT n x).kind, .int .i64 (numT n x).n, .int .i64 (numT n x).x, .string (numT n x).s, .slice none 0 0]) ∧ Below w.heap.size w w' := by
  by_cases hx : x = 0
  · subst hx
    go_enter Tryz.func29, Tryz.ntmps29
    go_wp2_with fail
    refine (impl_IntVal n _).mono ?_
    rintro _ w1 ⟨rfl, b1⟩
    have b2 := nx (below2 w _ _) b1
    obtain ⟨r0, r1, r2, r3, r4, rf⟩ := five_kept b1 (second_block2 w _ _)
    have rf0 := rf 0; have rf1 := rf 1; have rf2 := rf 2; have rf3 := rf 3; have rf4 := rf 4; clear rf
    have hsz := b1.size
    simp only [World.size_alloc] at hsz
    have BB := Lib.hid b2; clear b1 b2
    go_wp2_with fail
    refine bodyPost_ret (v := .agg #[.int .i64 3, .int .i64 n, .int .i64 0, .string { data := #[] }, .slice none 0 0]) (by simp [results, Tryz.results29, go_sem, r0, r1, r2, r3, r4]) rfl ⟨by simp [numT], ?_⟩
    iterate 5 refine Below.setCell ?_ (by dsimp only; omega) _
    exact BB.out
  · have hb : (x == 0) = false := by simpa using hx
    go_enter Tryz.func29, Tryz.ntmps29
    go_wp2_with fail
    exact bodyPost_ret (v := .agg #[.int .i64 6, .int .i64 n, .int .i64 x, .string { data := #[] }, .slice none 0 0]) (by simp [results, Tryz.results29, go_sem]) rfl ⟨by simp [numT, hx], (by first | exact vbelow1 _ _ | exact vbelow2 _ _ _ | exact below3 _ _ _ _ | exact below4 _ _ _ _ _)⟩
theorem numT_okB (n x : Int) : (numT n x).ok = decOkB n x := by
  cases h : decOkB n x with
  | true => exact numT_ok h
  | false =>
    unfold numT
    split
    · rename_i hx
      have hn : n < -1000000000000000 ∨ 1000000000000000 < n := by
        cases hb : inB n (-1000000000000000) 1000000000000000 with
        | false => exact inB_false.1 hb
        | true =>
          have := inB_true.1 hb
          have h2 := (decOkB_iff (n := n) (x := x)).2 (.inl ⟨hx, this⟩)
          rw [h] at h2; cases h2
      rw [Tree.ok]
      simp [ownB, inB_no hn]
    · rw [Tree.ok]
      simp [ownB, h]
theorem wf_fits {k n x : Int} {s : ByteArray} (hk : wf6 k) (hn : wf6 n) (hx : wf6 x) (hs : s.size ≤ 9223372036854775807) : Fits (Tree.mk k n x s []).kind (Tree.mk k n x s []).n (Tree.mk k n x s []).x (Tree.mk k n x s []).s := ⟨hk, hn, hx, hs⟩
theorem wf_sm {k : Int} (h : 0 ≤ k ∧ k ≤ 20) : wf6 k := by unfold wf6; omega
theorem numT_fits {n x : Int} (hn : wf6 n) (hx : wf6 x) : Fits (numT n x).kind (numT n x).n (numT n x).x (numT n x).s ∧ (numT n x).l = [] ∧ (numT n x).cost ≤ 0 := by
  unfold numT
  split
  · exact ⟨wf_fits (wf_sm (by decide)) hn (wf_sm (by decide)) (by decide), rfl, by rw [Tree.cost_eq]; show (0 : Nat) + costL [] ≤ 0; simp [costL]⟩
  · exact ⟨wf_fits (wf_sm (by decide)) hn hx (by decide), rfl, by rw [Tree.cost_eq]; show (0 : Nat) + costL [] ≤ 0; simp [costL]⟩
/-- The list of a tree, twice. -/
def twoT (t : Tree) : Tree := .mk 9 0 0 { data := #[] } [t, t]
theorem two_deep (t : Tree) : (twoT t).deep = t.deep + 1 := by
  rw [Tree.deep_eq]
  show deepL [t, t] + 1 = _
  simp [deepL]
theorem two_sz (t : Tree) : (twoT t).sz = 2 * t.sz + 1 := by
  rw [Tree.sz_eq]
  show 1 + szL [t, t] = _
  simp [szL]; omega
theorem two_ok {t : Tree} (h : t.ok = true) : (twoT t).ok = true := ok_list (by rw [okL, okL, okL, h]; rfl)
theorem two_ne (t : Tree) : twoT t ≠ t := fun e => by
  have h := two_deep t
  rw [e] at h
  omega
theorem two_cost (t : Tree) : (twoT t).cost = 2 * t.cost + 2 := by
  rw [Tree.cost_eq]
  show (0 : Nat) + costL [t, t] = _
  simp [costL]; omega
theorem two_fits (t : Tree) : Fits (twoT t).kind (twoT t).n (twoT t).x (twoT t).s := ⟨by show _ ≤ (9 : Int) ∧ (9 : Int) ≤ _; decide, by show _ ≤ (0 : Int) ∧ (0 : Int) ≤ _; decide, by show _ ≤ (0 : Int) ∧ (0 : Int) ≤ _; decide, by show (0 : Nat) ≤ _; decide⟩
/-- Two equal values in a row. -/
theorem two_row {w : World} {t : Tree} {a : Option Addr} {n c : Nat} (hs : TSl w (.slice a n c) t.l) (fit : Fits t.kind t.n t.x t.s) :
    TSl (w.alloc (.cells #[.int .i64 t.kind, .int .i64 t.n, .int .i64 t.x, .string t.s, .slice a n c, .int .i64 t.kind, .int .i64 t.n, .int .i64 t.x, .string t.s, .slice a n c] 26)) (.slice (some ⟨w.heap.size, 0, none⟩) 2 2) [t, t] := by
  have hb := vbelow1 w (.cells #[.int .i64 t.kind, .int .i64 t.n, .int .i64 t.x, .string t.s, .slice a n c, .int .i64 t.kind, .int .i64 t.n, .int .i64 t.x, .string t.s, .slice a n c] 26)
  have hh := heap_alloc_new w (.cells #[.int .i64 t.kind, .int .i64 t.n, .int .i64 t.x, .string t.s, .slice a n c, .int .i64 t.kind, .int .i64 t.n, .int .i64 t.x, .string t.s, .slice a n c] 26)
  refine ⟨_, 2, w.heap.size, 0, rfl, Nat.le_refl _, by simp [maxLen], fun _ => rfl, fun j hj => ?_⟩
  have hj2 : j < 2 := hj
  have had : ∀ q, (⟨w.heap.size, 0, none⟩ : Addr).add q = ⟨w.heap.size, q, none⟩ := fun q => by unfold Addr.add; split <;> simp_all
  have hc := fun q v (h : _ = some v) => (had q) ▸ World.news_of_block hh q v h
  match j, hj2 with
  | 0, _ => exact tat_of (hc 0 _ rfl) (hc 1 _ rfl) (hc 2 _ rfl) (hc 3 _ rfl) (u := .slice a n c) (hc 4 _ rfl) (hs.kept hb) fit
  | 1, _ => exact tat_of (hc 5 _ rfl) (hc 6 _ rfl) (hc 7 _ rfl) (hc 8 _ rfl) (u := .slice a n c) (hc 9 _ rfl) (hs.kept hb) fit
theorem sameLaw_eq (t : Tree) (w : World) (u u' : Value) (hu : TSl w u t.l) (hu' : TSl w u' t.l) (hf : Fits t.kind t.n t.x t.s) :
    Calls Tryz.prog 16 #[.agg #[.int .i64 t.kind, .int .i64 t.n, .int .i64 t.x, .string t.s, u], .agg #[.int .i64 t.kind, .int .i64 t.n, .int .i64 t.x, .string t.s, u']] w fun e w' => e = .returned (.bool true) ∧ Below w.heap.size w w' := by
  have q := sameLaw_c t t w u u' hu hu' hf hf
  rw [sameB_true.2 rfl] at q
  exact q
end Go.Proofs.YtilmhemcpgiikaaGreatDoor
