/- Slices of bytes and of ints: copies, comparisons, marks. -/
import Derived.Test.YteihnonhfaidoaaDoorCConv
import Derived.Deep.OwnRows
import Derived.Deep.Onto
namespace Go.Proofs.YteihnonhfaidoaaDoor
open Go.Deep Go.ChangeShapes Go.WideShapes Go.ChangeAt Go.RowKit
open Go.ChangeMaps (open_string shut_string)


/-- Built numbers read as numbers. -/
theorem own_rd {w : World} {B : Nat} {T : TypeId} {k : IntKind} {v : Value} {n : Nat} {zs : List Int} (h : w.ownsRow B T 1 v n (zs.map (Value.int k))) :
    ∃ a cap, v = .slice a zs.length cap ∧ n = zs.length ∧ Rd w k a zs ∧ zs.length ≤ cap ∧ cap ≤ maxLen := by
  have hn : n = zs.length := by have := h.1; simp at this; omega
  subst hn
  rcases h.2 with ⟨rfl, h0⟩ | ⟨g, cap, cur, rfl, hb, hg, hnc, hcm, hcs, htake⟩
  · have : zs = [] := List.eq_nil_of_length_eq_zero h0
    subst this
    exact ⟨none, 0, rfl, rfl, .inl rfl, Nat.le_refl _, by simp [maxLen]⟩
  · refine ⟨_, cap, rfl, rfl, .inr ⟨g, 0, rfl, (Array.getElem?_eq_some_iff.1 hg).1, fun j hj => ?_⟩, hnc, hcm⟩
    have := h.cells (g := g) rfl j (.int k (zs.getD j 0)) (by rw [List.getElem?_map]; simp [List.getD, List.getElem?_eq_getElem hj])
    simpa [Addr.add_lit] using this

/-- A row of the call's own, filled, is owned. -/
theorem row_own {w : World} {lo g n : Nat} {T : TypeId} {k : IntKind} {zs : List Int} {f : Nat → Value} (h : w.rowIs g T n f) (hm : zs.length ≤ n) (hmax : n ≤ maxLen)
    (hf : ∀ i, i < zs.length → f i = .int k (zs.getD i 0)) (hlo : lo ≤ g) : w.ownsRow lo T 1 (.slice (some ⟨g, 0, none⟩) zs.length n) zs.length (zs.map (Value.int k)) := by
  obtain ⟨c, hg, hs, hc⟩ := h
  refine ⟨by simp, .inr ⟨g, n, c, rfl, hlo, hg, hm, hmax, by omega, ?_⟩⟩
  apply List.ext_getElem?
  intro i
  rw [List.getElem?_take, List.getElem?_map]
  by_cases hi : i < zs.length
  · rw [if_pos (by omega), Array.getElem?_toList, hc i (by omega), hf i hi]
    simp [List.getD, List.getElem?_eq_getElem hi]
  · rw [if_neg (by omega), List.getElem?_eq_none (by omega)]; rfl

/-- What is owned is nothing, or a row. -/
theorem own_row {w : World} {B : Nat} {T : TypeId} {v : Value} {n : Nat} {xs : List Value} (h : w.ownsRow B T 1 v n xs) :
    (∃ cap : Nat, v = .slice none 0 0 ∧ n = 0 ∧ cap = 0) ∨ ∃ g cap f, v = .slice (some ⟨g, 0, none⟩) n cap ∧ B ≤ g ∧ w.rowIs g T cap f ∧ n ≤ cap ∧ cap ≤ maxLen := by
  rcases h.2 with ⟨rfl, h0⟩ | ⟨g, cap, cur, rfl, hb, hg, hnc, hcm, hcs, htake⟩
  · exact .inl ⟨0, rfl, h0, rfl⟩
  · exact .inr ⟨g, cap, fun i => cur.getD i undef, rfl, hb, ⟨cur, hg, by omega, fun i hi => by simp [Array.getD, hi, show i < cur.size by omega]⟩, hnc, hcm⟩

theorem grown_set {w wr : World} {g : Nat} (h : w.grownBy wr (some g)) (j : Nat) (v : Value) : w.grownBy (wr.setCell ⟨g, j, none⟩ v) (some g) :=
  ⟨h.os, h.tape, h.output, by simpa [World.setCell] using h.size, fun k hk hne => (Below.heap_setCell _ _ _ _ (fun e => hne (by rw [e]))).trans (h.block k hk hne)⟩

theorem take_snoc {zs : List Int} {j : Nat} (h : j < zs.length) : zs.take (j + 1) = zs.take j ++ [zs.getD j 0] := by
  rw [List.take_succ_eq_append_getElem h]
  simp [List.getD, List.getElem?_eq_getElem h]

theorem drewN_two (w : World) (a b : Nat) : (w.drewN a).drewN b = w.drewN (a + b) := World.drewN_drewN _ _ _

/-- The marks. -/
def marksB (k n : Nat) : List Int := (List.range n).map fun i => (((k + i : Nat) : Int) % 256)
theorem marksB_get {k n j : Nat} (h : j < n) : (marksB k n).getD j 0 = ((k + j : Nat) : Int) % 256 := by
  simp [marksB, List.getD, h]
def marksI (k n : Nat) : List Int := (List.range n).map fun i => ((k + i : Nat) : Int)
theorem marksI_get {k n j : Nat} (h : j < n) : (marksI k n).getD j 0 = ((k + j : Nat) : Int) := by
  simp [marksI, List.getD, h]

theorem info_u8 : (Tryd.prog.info? 5).map (fun i => (i.zero, i.size, i.bytes)) = some (some (.int .u8 0), 1, 1) := by kernel_rfl
set_option maxHeartbeats 1000000 in
theorem toByteS_c (zs : List Int) (a : Option Addr) (cap : Nat) (w : World) (hr : Rd w .u8 a zs) (hlen : zs.length ≤ 1048576) :
    Calls Tryd.prog 9 #[.slice a zs.length cap] w fun e w' => ∃ v, e = .returned v ∧ w'.ownsRow w.heap.size 5 1 v zs.length (zs.map (Value.int .u8)) ∧ Below w.heap.size w w' := by
  have hmk := run_make_row' (P := Tryd.prog) 23 5 (.int .u8 0) 1 Tryd.underlying23 info_u8 rfl .i64 .i64 zs.length (by omega) (by omega)
  have HR := Lib.hid hr; clear hr
  go_enter Tryd.func9, Tryd.ntmps9
  go_wp2_with fail
  clear hmk
  go_loopw [4] (fun i wr => ∃ j : Nat, j ≤ zs.length ∧ i = .int .i64 j ∧ wr.rowIs w.heap.size 5 zs.length (fun i => .int .u8 (if i < j then zs.getD i 0 else 0)) ∧ Below w.heap.size w wr) (fun i _ => zs.length - (intOf i).toNat)
  case atStart => exact ⟨0, by omega, rfl, (World.rowIs_made _ _ _ _).congr (fun i _ => by simp), below1 _ _⟩
  case round =>
    obtain ⟨j, hj, rfl, hrow, hbw⟩ := hrel
    by_cases hjl : j < zs.length
    · rcases HR.out with h0 | ⟨b, off, rfl, hblt, hc⟩
      · rw [h0] at hjl; simp at hjl
      have hc0 := (hbw.cell (p := ⟨b, off + j, none⟩) hblt).trans (hc j hjl)
      have hd0 := hrow.cell hjl
      have hf0 := hrow.frozen j
      have hset := hrow.set j (.int .u8 (zs.getD j 0))
      have HROW := Lib.hid hrow; clear hrow
      have HSET := Lib.hid hset; clear hset
      clear hc
      generalize hz : zs.getD j 0 = z at *
      have HZ := Lib.hid hz; clear hz
      go_wp2_with fail
      go_roundw
      case rel =>
        refine ⟨j + 1, by omega, by go_num, HSET.out.congr (fun i hi => ?_), hbw.setCell (Nat.le_refl _) _⟩
        by_cases e : i = j
        · subst e; rw [if_pos rfl, if_pos (by omega), HZ.out]
        · rw [if_neg e]; by_cases e2 : i < j
          · rw [if_pos e2, if_pos (by omega)]
          · rw [if_neg e2, if_neg (by omega)]
      case measure => simp [intOf]; omega
    · obtain rfl : j = zs.length := by omega
      have hown := row_own (k := .u8) (zs := zs) hrow (Nat.le_refl _) (by unfold maxLen; omega) (fun i hi => by rw [if_pos hi]) (Nat.le_refl _)
      clear hrow
      have HOWN := Lib.hid hown; clear hown
      go_wp2_with fail
      go_ret
      exact ⟨_, rfl, HOWN.out, hbw⟩
set_option maxHeartbeats 1000000 in
theorem eqByteS_c (xs ys : List Int) (a b : Option Addr) (ca cb : Nat) (w : World) (ha : Rd w .u8 a xs) (hb : Rd w .u8 b ys) (hlen : xs.length ≤ 1099511627776) (hlen2 : ys.length ≤ 1099511627776) :
    Calls Tryd.prog 11 #[.slice a xs.length ca, .slice b ys.length cb] w fun e w' => e = .returned (.bool (decide (xs = ys))) ∧ ∃ q, w' = w.drewN q := by
  by_cases hne : xs.length = ys.length
  · have hx : ((xs.length : Int) != (ys.length : Int)) = false := by simp [hne]
    have HA := Lib.hid ha; clear ha
    have HB := Lib.hid hb; clear hb
    have HNE := Lib.hid hne; clear hne
    go_enter Tryd.func11, Tryd.ntmps11
    go_wp2_with fail
    go_loopw [5] (fun i wr => ∃ j q : Nat, j ≤ xs.length ∧ i = .int .i64 j ∧ wr = w.drewN q ∧ Hid (xs.take j = ys.take j)) (fun i _ => xs.length - (intOf i).toNat)
    case atStart => exact ⟨0, 0, by omega, rfl, rfl, Lib.hid (by simp)⟩
    case round =>
      obtain ⟨j, q, hj, rfl, rfl, HT⟩ := hrel
      by_cases hjl : j < xs.length
      · have hjl2 : j < ys.length := by have := HNE.out; omega
        rcases HA.out with h0 | ⟨ba, oa, rfl, hba, hca⟩
        · rw [h0] at hjl; simp at hjl
        rcases HB.out with h0 | ⟨bb, ob, rfl, hbb, hcb⟩
        · rw [h0] at hjl2; simp at hjl2
        have ka := hca j hjl
        have kb := hcb j hjl2
        clear hca hcb
        have tx : xs.take (j + 1) = xs.take j ++ [xs.getD j 0] := take_snoc hjl
        have ty : ys.take (j + 1) = ys.take j ++ [ys.getD j 0] := take_snoc hjl2
        have TX := Lib.hid tx; clear tx
        have TY := Lib.hid ty; clear ty
        generalize xs.getD j 0 = x at *
        generalize ys.getD j 0 = y at *
        cases hxy : (x != y) with
        | false =>
          have hx2 : x = y := by simpa using hxy
          have HX := Lib.hid hx2; clear hx2
          go_wp2_with fail
          go_quiet (fail)
          go_wp2_with fail
          go_roundw
          case rel => exact ⟨j + 1, _, by omega, by go_num, rfl, Lib.hid (by rw [TX.out, TY.out, HT.out, HX.out])⟩
          case measure => simp [intOf]; omega
        | true =>
          have hx2 : xs ≠ ys := by
            intro h
            have h1 := TX.out
            have h2 := TY.out
            rw [h] at h1
            rw [h1] at h2
            have := List.append_inj_right' h2 rfl
            simp at this hxy
            exact hxy this
          have HX := Lib.hid hx2; clear hx2
          go_wp2_with fail
          go_quiet (fail)
          go_wp2_with fail
          go_ret
          exact ⟨ret_bool (by rw [decide_eq_false HX.out]), _, drewN_two _ _ _⟩
      · obtain rfl : j = xs.length := by omega
        have hx2 : xs = ys := by
          have h1 := HT.out
          have h2 := HNE.out
          rw [List.take_length] at h1
          rw [h2, List.take_length] at h1
          exact h1
        have HX := Lib.hid hx2; clear hx2
        go_wp2_with fail
        go_ret
        exact ⟨ret_bool (by rw [decide_eq_true HX.out]), _, rfl⟩
  · have hx : ((xs.length : Int) != (ys.length : Int)) = true := by simp; omega
    have hf : decide (xs = ys) = false := decide_eq_false (fun h => hne (by rw [h]))
    rw [hf]; clear hf hne
    go_enter Tryd.func11, Tryd.ntmps11
    go_wp2_with fail
    go_ret
    exact ⟨rfl, 0, rfl⟩

set_option maxHeartbeats 1000000 in
theorem eqIntS_c (xs ys : List Int) (a b : Option Addr) (ca cb : Nat) (w : World) (ha : Rd w .i64 a xs) (hb : Rd w .i64 b ys) (hlen : xs.length ≤ 1099511627776) (hlen2 : ys.length ≤ 1099511627776) :
    Calls Tryd.prog 14 #[.slice a xs.length ca, .slice b ys.length cb] w fun e w' => e = .returned (.bool (decide (xs = ys))) ∧ ∃ q, w' = w.drewN q := by
  by_cases hne : xs.length = ys.length
  · have hx : ((xs.length : Int) != (ys.length : Int)) = false := by simp [hne]
    have HA := Lib.hid ha; clear ha
    have HB := Lib.hid hb; clear hb
    have HNE := Lib.hid hne; clear hne
    go_enter Tryd.func14, Tryd.ntmps14
    go_wp2_with fail
    go_loopw [5] (fun i wr => ∃ j q : Nat, j ≤ xs.length ∧ i = .int .i64 j ∧ wr = w.drewN q ∧ Hid (xs.take j = ys.take j)) (fun i _ => xs.length - (intOf i).toNat)
    case atStart => exact ⟨0, 0, by omega, rfl, rfl, Lib.hid (by simp)⟩
    case round =>
      obtain ⟨j, q, hj, rfl, rfl, HT⟩ := hrel
      by_cases hjl : j < xs.length
      · have hjl2 : j < ys.length := by have := HNE.out; omega
        rcases HA.out with h0 | ⟨ba, oa, rfl, hba, hca⟩
        · rw [h0] at hjl; simp at hjl
        rcases HB.out with h0 | ⟨bb, ob, rfl, hbb, hcb⟩
        · rw [h0] at hjl2; simp at hjl2
        have ka := hca j hjl
        have kb := hcb j hjl2
        clear hca hcb
        have tx : xs.take (j + 1) = xs.take j ++ [xs.getD j 0] := take_snoc hjl
        have ty : ys.take (j + 1) = ys.take j ++ [ys.getD j 0] := take_snoc hjl2
        have TX := Lib.hid tx; clear tx
        have TY := Lib.hid ty; clear ty
        generalize xs.getD j 0 = x at *
        generalize ys.getD j 0 = y at *
        cases hxy : (x != y) with
        | false =>
          have hx2 : x = y := by simpa using hxy
          have HX := Lib.hid hx2; clear hx2
          go_wp2_with fail
          go_quiet (fail)
          go_wp2_with fail
          go_roundw
          case rel => exact ⟨j + 1, _, by omega, by go_num, rfl, Lib.hid (by rw [TX.out, TY.out, HT.out, HX.out])⟩
          case measure => simp [intOf]; omega
        | true =>
          have hx2 : xs ≠ ys := by
            intro h
            have h1 := TX.out
            have h2 := TY.out
            rw [h] at h1
            rw [h1] at h2
            have := List.append_inj_right' h2 rfl
            simp at this hxy
            exact hxy this
          have HX := Lib.hid hx2; clear hx2
          go_wp2_with fail
          go_quiet (fail)
          go_wp2_with fail
          go_ret
          exact ⟨ret_bool (by rw [decide_eq_false HX.out]), _, drewN_two _ _ _⟩
      · obtain rfl : j = xs.length := by omega
        have hx2 : xs = ys := by
          have h1 := HT.out
          have h2 := HNE.out
          rw [List.take_length] at h1
          rw [h2, List.take_length] at h1
          exact h1
        have HX := Lib.hid hx2; clear hx2
        go_wp2_with fail
        go_ret
        exact ⟨ret_bool (by rw [decide_eq_true HX.out]), _, rfl⟩
  · have hx : ((xs.length : Int) != (ys.length : Int)) = true := by simp; omega
    have hf : decide (xs = ys) = false := decide_eq_false (fun h => hne (by rw [h]))
    rw [hf]; clear hf hne
    go_enter Tryd.func14, Tryd.ntmps14
    go_wp2_with fail
    go_ret
    exact ⟨rfl, 0, rfl⟩
set_option maxHeartbeats 1000000 in
theorem markIntS_c (zs : List Int) (v : Value) (B n k : Nat) (w : World) (hown : w.ownsRow B 3 1 v n (zs.map (Value.int .i64))) (hlen : n ≤ 4194304) (hk : k ≤ 4194304) :
    Calls Tryd.prog 15 #[v, .int .i64 k] w fun e w' => e = .returned (.int .i64 ((k + n : Nat) : Int)) ∧ w'.ownsRow B 3 1 v n ((marksI k n).map (Value.int .i64)) ∧ w.grownBy w' v.ownBlock := by
  rcases own_row hown with ⟨cap, rfl, rfl, hz⟩ | ⟨g, cap, f, rfl, hBg, hrow, hnc, hcm⟩
  · have hnil : marksI k 0 = [] := rfl
    have HO : Hid (w.ownsRow B 3 1 (.slice none 0 0) 0 ((marksI k 0).map (Value.int .i64))) := Lib.hid (by rw [hnil]; exact World.ownsRow_nil _ _ _ _)
    clear hown hz hnil
    go_enter Tryd.func15, Tryd.ntmps15
    go_wp2_with fail
    go_loopw [1, 5] (fun c i wr => c = .int .i64 k ∧ i = .int .i64 0 ∧ wr = w) (fun _ _ _ => 0)
    case atStart => exact ⟨rfl, rfl, rfl⟩
    case round =>
      obtain ⟨rfl, rfl, rfl⟩ := hrel
      go_wp2_with fail
      go_ret
      exact ⟨rfl, HO.out, ⟨rfl, rfl, rfl, Nat.le_refl _, fun _ _ _ => rfl⟩⟩
  · clear hown
    have HN := Lib.hid hnc
    go_enter Tryd.func15, Tryd.ntmps15
    go_wp2_with fail
    go_loopw [1, 5] (fun c i wr => ∃ j : Nat, j ≤ n ∧ c = .int .i64 ((k + j : Nat) : Int) ∧ i = .int .i64 j ∧ (∃ F, wr.rowIs g 3 cap F ∧ ∀ i, i < j → F i = .int .i64 ((marksI k n).getD i 0)) ∧ w.grownBy wr (some g)) (fun _ i _ => n - (intOf i).toNat)
    case atStart => exact ⟨0, by omega, rfl, rfl, ⟨f, hrow, fun i hi => absurd hi (Nat.not_lt_zero _)⟩, ⟨rfl, rfl, rfl, Nat.le_refl _, fun _ _ _ => rfl⟩⟩
    case round =>
      obtain ⟨j, hj, rfl, rfl, ⟨F, hrw, hF⟩, hgr⟩ := hrel
      by_cases hjl : j < n
      · have hd0 := hrw.cell (i := j) (by omega)
        have hf0 := hrw.frozen j
        have hset := hrw.set j (.int .i64 ((k + j : Nat) : Int))
        have HSET := Lib.hid hset; clear hset
        have HF := Lib.hid hF; clear hF hrw
        go_wp2_with fail
        go_roundw
        case rel =>
          refine ⟨j + 1, by omega, by go_num, by go_num, ⟨_, HSET.out, fun i hi => ?_⟩, grown_set hgr _ _⟩
          by_cases e : i = j
          · subst e; rw [if_pos rfl, marksI_get hjl]
          · rw [if_neg e]; exact HF.out i (by omega)
        case measure => simp [intOf]; omega
      · obtain rfl : j = n := by omega
        have ho : wr.ownsRow B 3 1 (.slice (some ⟨g, 0, none⟩) j cap) j ((marksI k j).map (Value.int .i64)) := by
          have hl : (marksI k j).length = j := by simp [marksI]
          have := row_own (k := .i64) (zs := marksI k j) hrw (by rw [hl]; exact hnc) hcm (fun i hi => hF i (by omega)) hBg
          rwa [hl] at this
        have HO := Lib.hid ho; clear ho hF hrw
        go_wp2_with fail
        go_ret
        exact ⟨ret_int (by omega), HO.out, hgr⟩
set_option maxHeartbeats 1000000 in
theorem heldIntS_c (v : Value) (B n k : Nat) (w : World) (hown : w.ownsRow B 3 1 v n ((marksI k n).map (Value.int .i64))) (hlen : n ≤ 4194304) (hk : k ≤ 4194304) :
    Calls Tryd.prog 16 #[v, .int .i64 k] w fun e w' => e = .returned (.int .i64 ((k + n : Nat) : Int)) ∧ w = w' := by
  obtain ⟨a, cap, rfl, hn, hrd, hnc, hcm⟩ := own_rd hown
  clear hown
  have hl : (marksI k n).length = n := by simp [marksI]
  rw [hl]
  have HR := Lib.hid hrd; clear hrd hn hnc
  have HL := Lib.hid hl; clear hl
  go_enter Tryd.func16, Tryd.ntmps16
  go_wp2_with fail
  go_loop [1, 5] (fun c i => ∃ j : Nat, j ≤ n ∧ c = .int .i64 ((k + j : Nat) : Int) ∧ i = .int .i64 j) (fun _ i => n - (intOf i).toNat)
  case atStart => exact ⟨0, by omega, rfl, rfl⟩
  case round =>
    obtain ⟨j, hj, rfl, rfl⟩ := hrel
    by_cases hjl : j < n
    · rcases HR.out with h0 | ⟨b, off, rfl, hblt, hc⟩
      · exact absurd (congrArg List.length h0) (by rw [HL.out]; simp; omega)
      have hc0 := hc j (by rw [HL.out]; exact hjl)
      rw [marksI_get hjl] at hc0
      clear hc
      go_wp2_with fail
      go_round
      case rel => exact ⟨j + 1, by omega, by go_num, by go_num⟩
      case measure => simp [intOf]; omega
    · obtain rfl : j = n := by omega
      go_wp2_with fail
      go_ret
      exact ⟨ret_int (by omega), rfl⟩

end Go.Proofs.YteihnonhfaidoaaDoor
