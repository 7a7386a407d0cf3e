/- Lookup of both: the value of the last equal name, copied. -/
import Derived.Test.YtjkjfdhbbblffaaVStep2
import Derived.Test.YtjkjfdhbbblffaaVSame
namespace Go.Proofs.Ytjkjfdhbbblffaa
open Go.Deep Go.ChangeShapes Go.WideShapes Go.ChangeAt Go.RowKit
open Go.ChangeMaps (open_string shut_string)

/-- Is a value a map whose names all have values? -/
def pairedB (t : Tree) : Bool := t.kind == 10 && t.l.length % 2 == 0
theorem paired_kind {t : Tree} (h : (t.kind == 10) = false) : pairedB t = false := by unfold pairedB; rw [h]; rfl
theorem paired_len {t : Tree} (h : (t.kind == 10) = true) : pairedB t = (t.l.length % 2 == 0) := by unfold pairedB; rw [h]; rfl
open Classical in
/-- The value of the last equal name among the first j pairs. -/
noncomputable def lookAt (l : List Tree) (x : Tree) : Nat → Option Tree
  | 0 => none
  | j + 1 => if l[2 * j]? = some x then l[2 * j + 1]? else lookAt l x j
noncomputable def lookO (t t' : Tree) : Option Tree := if pairedB t = true then lookAt t.l t' (t.l.length / 2) else none
noncomputable def lookR (t t' : Tree) : Tree := (lookO t t').getD zeroT
noncomputable def lookB (t t' : Tree) : Bool := (lookO t t').isSome
theorem lookAt_hit {l : List Tree} {x : Tree} {j k : Nat} (hk : k = 2 * j) (h : l[k]? = some x) : lookAt l x (j + 1) = l[k + 1]? := by
  subst hk
  rw [lookAt, if_pos h]
theorem lookAt_miss {l : List Tree} {x : Tree} {j k : Nat} (hk : k = 2 * j) (h : l[k]? ≠ some x) : lookAt l x (j + 1) = lookAt l x j := by
  subst hk
  rw [lookAt, if_neg h]
theorem lookAt_mem (l : List Tree) (x : Tree) : ∀ j r, lookAt l x j = some r → r ∈ l
  | 0, r, h => by simp [lookAt] at h
  | j + 1, r, h => by
    unfold lookAt at h
    split at h
    · exact List.mem_of_getElem? h
    · exact lookAt_mem l x j r h
theorem lookR_cost (t t' : Tree) : (lookR t t').cost ≤ t.cost := by
  unfold lookR
  cases h : lookO t t' with
  | none => exact Nat.zero_le _
  | some r =>
    have hm : r ∈ t.l := by
      unfold lookO at h
      split at h
      · exact lookAt_mem _ _ _ _ h
      · simp at h
    have h1 := cost_mem hm
    have h2 := Tree.cost_eq t
    have h3 := costL_eq t.l
    simp only [Option.getD_some]
    omega
theorem len_mod {n : Nat} (hn : n ≤ 9223372036854775807) : (((n : Int).tmod 2) == 0) = (n % 2 == 0) := by
  have h : (n : Int).tmod 2 = ((n % 2 : Nat) : Int) := by rw [Int.tmod_eq_emod_of_nonneg (by omega)]; omega
  rw [h]
  by_cases e : n % 2 = 0
  · simp [e]
  · have : n % 2 = 1 := by omega
    simp [this]


set_option maxHeartbeats 2000000 in
theorem l7Map_c (t : Tree) (a : Option Addr) (cap : Nat) (w : World) (hlen : t.l.length ≤ 1048576) :
    Calls Try.prog 46 #[.agg #[.int .i64 t.kind, .int .i64 t.n, .int .i64 t.x, .string t.s, .slice a t.l.length cap]] w fun e w' => e = .returned (.bool (pairedB t)) ∧ Below w.heap.size w w' := by
  have HW := Lib.hid (vbelow1 w (.cells #[.int .i64 t.kind, .int .i64 t.n, .int .i64 t.x, .string t.s, .slice a t.l.length cap] 29))
  cases hk : (t.kind == 10) with
  | false =>
    have HF := Lib.hid (paired_kind hk)
    go_enter Try.func46, Try.ntmps46
    go_wp2_with fail
    go_ret
    exact ⟨ret_bool HF.out.symm, HW.out⟩
  | true =>
    have hp := paired_len hk
    rw [← len_mod (by omega)] at hp
    have HF := Lib.hid hp
    clear hp
    go_enter Try.func46, Try.ntmps46
    go_wp2_with fail
    go_ret
    exact ⟨ret_bool HF.out.symm, HW.out⟩


set_option maxHeartbeats 2000000 in
theorem isPaired_c (t : Tree) (a : Option Addr) (cap : Nat) (w : World) (hlen : t.l.length ≤ 1048576) :
    Calls Try.prog 47 #[.agg #[.int .i64 t.kind, .int .i64 t.n, .int .i64 t.x, .string t.s, .slice a t.l.length cap]] w fun e w' => e = .returned (.bool (pairedB t)) ∧ Below w.heap.size w w' := by
  have HW := Lib.hid (vbelow1 w (.cells #[.int .i64 t.kind, .int .i64 t.n, .int .i64 t.x, .string t.s, .slice a t.l.length cap] 29))
  cases hk : (t.kind == 10) with
  | false =>
    have HF := Lib.hid (paired_kind hk)
    go_enter Try.func47, Try.ntmps47
    go_wp2_with fail
    go_ret
    exact ⟨ret_bool HF.out.symm, HW.out⟩
  | true =>
    have hp := paired_len hk
    rw [← len_mod (by omega)] at hp
    have HF := Lib.hid hp
    clear hp
    go_enter Try.func47, Try.ntmps47
    go_wp2_with fail
    go_ret
    exact ⟨ret_bool HF.out.symm, HW.out⟩


set_option maxRecDepth 100000 in
set_option maxHeartbeats 8000000 in
theorem look_spec (t t' : Tree) (w : World) (u u' : Value) (hcost : t.cost ≤ 1048576) (hu : TSl w u t.l) (hu' : TSl w u' t'.l) (hfit : Fits t.kind t.n t.x t.s) (hfit' : Fits t'.kind t'.n t'.x t'.s) :
    Calls Try.prog 33 #[.agg #[.int .i64 t.kind, .int .i64 t.n, .int .i64 t.x, .string t.s, u], .agg #[.int .i64 t'.kind, .int .i64 t'.n, .int .i64 t'.x, .string t'.s, u']] w (PairP w (lookR t t') (lookB t t')) := by
  have hc := Tree.cost_eq t
  have hcl := costL_eq t.l
  have hlen : t.l.length ≤ 1048576 := by omega
  have hcE : costE t.l ≤ 1048576 := by omega
  clear hc hcl hcost
  obtain ⟨a, cap, b, off, rfl, hcap, hmax, ha, hl⟩ := hu
  obtain ⟨a', n', cap', rfl⟩ := hu'.form
  unfold maxLen at hmax
  have HL := Lib.hid hl; have HA := Lib.hid ha; have HU' := Lib.hid hu'; have HF' := Lib.hid hfit'
  clear hl ha hu' hfit'
  obtain ⟨hA, hB, hC, hW⟩ := three_blocks w (.cells #[.int .i64 t.kind, .int .i64 t.n, .int .i64 t.x, .string t.s, .slice a t.l.length cap] 29) (.cells #[.int .i64 t'.kind, .int .i64 t'.n, .int .i64 t'.x, .string t'.s, .slice a' n' cap'] 29) (.cells #[.int .i64 0, .int .i64 0, .int .i64 0, .string { data := #[] }, .slice none 0 0] 29)
  have HBA := Lib.hid hA; have HBB := Lib.hid hB; have HBC := Lib.hid hC; have HW := Lib.hid hW
  have HP := Lib.hid (fun w1 => l7Map_c t a cap w1 hlen)
  clear hA hB hC hW
  have hwl : IntKind.i64.wrap ((t.l.length : Int) - 2) = (t.l.length : Int) - 2 := IntWalk.i64_in _ (by omega)
  cases hpb : pairedB t with
  | false =>
    have hn : lookO t t' = none := by unfold lookO; rw [if_neg (by rw [hpb]; simp)]
    have HN1 : Hid (lookR t t' = zeroT) := Lib.hid (by unfold lookR; rw [hn]; rfl)
    have HN2 : Hid (lookB t t' = false) := Lib.hid (by unfold lookB; rw [hn]; rfl)
    rw [hpb] at HP
    clear hn hpb

    go_enter Try.func33, Try.ntmps33
    go_wp2_with fail
    generalize hW0 : (((w.alloc (.cells #[.int .i64 t.kind, .int .i64 t.n, .int .i64 t.x, .string t.s, .slice a t.l.length cap] 29)).alloc (.cells #[.int .i64 t'.kind, .int .i64 t'.n, .int .i64 t'.x, .string t'.s, .slice a' n' cap'] 29)).alloc (.cells #[.int .i64 0, .int .i64 0, .int .i64 0, .string { data := #[] }, .slice none 0 0] 29)) = W0 at *
    have hs0 : W0.heap.size = w.heap.size + 3 := by rw [← hW0]; simp only [World.size_alloc]
    clear hW0
    go_loopw [6] (fun i wr => i = .int .i64 ((t.l.length : Int) - 2) ∧ wr = W0) (fun _ _ => 0)
    case atStart => exact ⟨rfl, rfl⟩
    case round =>
      obtain ⟨rfl, rfl⟩ := hrel
      obtain ⟨p0, p1, p2, p3, p4, pf⟩ := five_kept (Below.refl _ _) HBA.out
      obtain ⟨q0, q1, q2, q3, q4, qf⟩ := five_kept (Below.refl _ _) HBC.out
      have qf0 := qf 0; have qf1 := qf 1; have qf2 := qf 2; have qf3 := qf 3; have qf4 := qf 4
      clear pf qf
      go_wp2_with fail
      all_goals first
      | (refine (HP.out _).mono ?_
         rintro _ w1 ⟨rfl, b1⟩
         clear q0 q1 q2 q3 q4 qf0 qf1 qf2 qf3 qf4 p0 p1 p2 p3 p4
         obtain ⟨q0, q1, q2, q3, q4, qf⟩ := five_kept b1 HBC.out
         have qf0 := qf 0; have qf1 := qf 1; have qf2 := qf 2; have qf3 := qf 3; have qf4 := qf 4
         have HB1 := Lib.hid (HW.out.trans (b1.mono (by omega)))
         clear qf b1
         go_wp2_with fail
         refine bodyPost_ret (v := .tuple #[.agg #[.int .i64 0, .int .i64 0, .int .i64 0, .string { data := #[] }, .slice none 0 0], .bool false]) (by simp [results, Try.results33, go_sem, q0, q1, q2, q3, q4]) rfl ?_
         rw [HN1.out, HN2.out]
         refine ⟨_, _, _, rfl, .nil _ _ _ (by simp [maxLen]), ?_⟩
         iterate 5 refine Below.setCell ?_ (by dsimp only; omega) _
         exact HB1.out)
      | (refine bodyPost_ret (v := .tuple #[.agg #[.int .i64 0, .int .i64 0, .int .i64 0, .string { data := #[] }, .slice none 0 0], .bool false]) (by simp [results, Try.results33, go_sem, q0, q1, q2, q3, q4]) rfl ?_
         rw [HN1.out, HN2.out]
         refine ⟨_, _, _, rfl, .nil _ _ _ (by simp [maxLen]), ?_⟩
         iterate 5 refine Below.setCell ?_ (by dsimp only; omega) _
         exact HW.out)

  | true =>
    have hkl : t.l.length % 2 = 0 := by
      unfold pairedB at hpb
      simp at hpb
      exact hpb.2
    obtain ⟨N, hN⟩ : ∃ N, t.l.length = 2 * N := ⟨t.l.length / 2, by omega⟩
    have ho : lookO t t' = lookAt t.l t' N := by unfold lookO; rw [if_pos hpb, hN]; congr 1; omega
    have HO := Lib.hid ho
    rw [hpb] at HP
    have HNN := Lib.hid hN
    have hNl : N ≤ 1048576 := by omega
    clear hkl ho hpb hN
    go_enter Try.func33, Try.ntmps33
    go_wp2_with fail

    generalize hW0 : (((w.alloc (.cells #[.int .i64 t.kind, .int .i64 t.n, .int .i64 t.x, .string t.s, .slice a t.l.length cap] 29)).alloc (.cells #[.int .i64 t'.kind, .int .i64 t'.n, .int .i64 t'.x, .string t'.s, .slice a' n' cap'] 29)).alloc (.cells #[.int .i64 0, .int .i64 0, .int .i64 0, .string { data := #[] }, .slice none 0 0] 29)) = W0 at *
    have hs0 : W0.heap.size = w.heap.size + 3 := by rw [← hW0]; simp only [World.size_alloc]
    clear hW0
    have HSTART : Hid (Below W0.heap.size W0 W0) := Lib.hid (Below.refl _ _)

    go_loopw [6] (fun i wr => ∃ (j I : Nat), j ≤ N ∧ I = 2 * j ∧ i = .int .i64 ((I : Int) - 2) ∧ Hid (lookAt t.l t' N = lookAt t.l t' j) ∧ Hid (Below W0.heap.size W0 wr)) (fun i _ => (intOf i + 2).toNat)
    case atStart => exact ⟨N, 2 * N, by omega, rfl, by have := HNN.out; congr 1; omega, Lib.hid rfl, HSTART⟩
    case round =>
      obtain ⟨j, I, hj, hI, rfl, HK, HBW⟩ := hrel
      have hszr := HBW.out.size
      have HXA := Lib.hid ((HBW.out.block w.heap.size (by omega)).trans HBA.out)
      cases j with
      | zero =>
        have hI0 : (I : Int) - 2 = -2 := by omega
        rw [hI0]
        clear hI0 hI
        have HN1 : Hid (lookR t t' = zeroT) := Lib.hid (by unfold lookR; rw [HO.out, HK.out]; rfl)
        have HN2 : Hid (lookB t t' = false) := Lib.hid (by unfold lookB; rw [HO.out, HK.out]; rfl)
        obtain ⟨q0, q1, q2, q3, q4, qf⟩ := five_kept HBW.out HBC.out
        have qf0 := qf 0; have qf1 := qf 1; have qf2 := qf 2; have qf3 := qf 3; have qf4 := qf 4
        clear qf
        go_wp2_with fail
        refine bodyPost_ret (v := .tuple #[.agg #[.int .i64 0, .int .i64 0, .int .i64 0, .string { data := #[] }, .slice none 0 0], .bool false]) (by simp [results, Try.results33, go_sem, q0, q1, q2, q3, q4]) rfl ?_
        rw [HN1.out, HN2.out]
        refine ⟨_, _, _, rfl, .nil _ _ _ (by simp [maxLen]), ?_⟩
        iterate 5 refine Below.setCell ?_ (by dsimp only; omega) _
        exact HW.out.trans (HBW.out.mono (by omega))
      | succ j =>
        obtain ⟨k, hk⟩ : ∃ k, k = 2 * j := ⟨_, rfl⟩
        have hIk : (I : Int) - 2 = (k : Int) := by omega
        rw [hIk]
        have hkl : k < t.l.length := by have := HNN.out; omega
        have hkl1 : k + 1 < t.l.length := by have := HNN.out; omega
        have HIT := Lib.hid (fun h => lookAt_hit (l := t.l) (x := t') hk h)
        have MISS := Lib.hid (fun h => lookAt_miss (l := t.l) (x := t') hk h)
        obtain rfl : a = some ⟨b, off, none⟩ := HA.out (by intro h; rw [h] at hkl; simp at hkl)
        have HKE := Lib.hid hk
        have hII : (I : Int) = (k : Int) + 2 := by omega
        clear hIk hk hI
        obtain ⟨p0, p1, p2, p3, p4, pf⟩ := five_kept (Below.refl _ _) HXA.out
        clear pf
        go_wp2_with fail
        refine (HP.out _).mono ?_
        rintro _ w2 ⟨rfl, b2⟩
        have hbw2 : Below W0.heap.size W0 w2 := HBW.out.trans (b2.mono hszr)
        clear p0 p1 p2 p3 p4 b2
        have hszw : W0.heap.size ≤ w2.heap.size := hbw2.size
        have hb0 : Below w.heap.size w w2 := HW.out.trans (hbw2.mono (by omega))
        have HB0 := Lib.hid hb0; have HBW2 := Lib.hid hbw2
        obtain ⟨p0, p1, p2, p3, p4, pf⟩ := five_kept hbw2 HBA.out
        obtain ⟨m0, m1, m2, m3, m4, mf⟩ := five_kept hbw2 HBB.out
        obtain ⟨x, c0, c1, c2, c3, c4, hsl, hft⟩ := ((HL.out k hkl).kept hb0).parts
        have hC := sameSpec_c t.l[k] t' w2.drew x (.slice a' n' cap') (hsl.kept (Below.refl _ _).drew) (HU'.out.kept ((hb0).trans ((Below.refl _ _).drew))) hft HF'.out
        have hwk1 : IntKind.i64.wrap ((k : Int) + 1) = ((k + 1 : Nat) : Int) := by rw [IntWalk.i64_in _ (by omega)]; omega
        have hwk2 : IntKind.i64.wrap ((k : Int) - 2) = (k : Int) - 2 := IntWalk.i64_in _ (by omega)
        have hcm := cost_mem (List.getElem_mem hkl1)
        clear pf mf p0 p1 p2 p3 hb0 hbw2
        cases hb : sameB t.l[k] t' with
        | true =>
          rw [hb] at hC
          have e0 : lookO t t' = some t.l[k + 1] := by rw [HO.out, HK.out, HIT.out (by rw [List.getElem?_eq_getElem hkl, sameB_true.1 hb]), List.getElem?_eq_getElem hkl1]
          have HN1 : Hid (lookR t t' = t.l[k + 1]) := Lib.hid (by unfold lookR; rw [e0]; rfl)
          have HN2 : Hid (lookB t t' = true) := Lib.hid (by unfold lookB; rw [e0]; rfl)
          have HLK := HL.out (k + 1) hkl1
          generalize t.l[k] = r0 at *
          generalize t.l[k + 1] = r at *
          have HC := Lib.hid hC; have HLKK := Lib.hid HLK
          clear hb hC HLK hsl hft e0 HIT MISS HK HO
          go_wp2_with fail
          go_still_tail 6, (by kernel_rfl)
          change wpList _ _ _ _ _ w2.drew
          go_wp2_with fail
          refine HC.out.mono ?_
          rintro _ w3 ⟨rfl, hb3'⟩
          have hb3 : Below w2.heap.size w2 w3 := ⟨hb3'.os, hb3'.tape, hb3'.output, hb3'.size, hb3'.block⟩
          have hbw3 := HBW2.out.trans (hb3.mono hszw)
          have hb03 := HW.out.trans (hbw3.mono (by omega))
          have HB03 := Lib.hid hb03; have HBW3 := Lib.hid hbw3
          obtain ⟨y, d0, d1, d2, d3, d4, hsl1, hft1⟩ := (HLKK.out.kept hb03).parts
          obtain ⟨y1, y2, y3, rfl⟩ := hsl1.form
          obtain ⟨p0', p1', p2', p3', p4', pf'⟩ := five_kept hbw3 HBA.out
          have HSL1 := Lib.hid hsl1; have HFT1 := Lib.hid hft1
          have eoff : off + (k + 1) * 5 = off + (k * 5 + 5) := by omega
          clear hb3' hb3 hbw3 hb03 p4 m0 m1 m2 m3 m4 c0 c1 c2 c3 c4 pf' p0' p1' p2' p3' hsl1 hft1 eoff
          go_wp2_with fail
          refine (l6Copy_c r _ _ (by omega) HSL1.out HFT1.out).mono ?_
          rintro _ w4 ⟨a2, n2, k2, rfl, ho4, hb4⟩
          have hs4 := hb4.size
          obtain ⟨q0, q1, q2, q3, q4, qf⟩ := five_kept (HBW3.out.trans (hb4.mono HBW3.out.size)) HBC.out
          have qf0 := qf 0; have qf1 := qf 1; have qf2 := qf 2; have qf3 := qf 3; have qf4 := qf 4
          have HO4 := Lib.hid ho4; have HB4 := Lib.hid hb4
          have hsw3 := HBW3.out.size
          clear qf ho4 hb4 d0 d1 d2 d3 d4
          go_wp2_with fail
          refine bodyPost_ret (v := .tuple #[.agg #[.int .i64 r.kind, .int .i64 r.n, .int .i64 r.x, .string r.s, .slice a2 n2 k2], .bool true]) (by simp [results, Try.results33, go_sem, q0, q1, q2, q3, q4]) rfl ?_
          rw [HN1.out, HN2.out]
          refine ⟨_, _, _, rfl, ?_, ?_⟩
          · refine OSl.mono (S := Rng w3.heap.size w4.heap.size) ?_ (fun b hb => ⟨by have := hb.1; omega, by have := hb.2; simpa [World.setCell] using this⟩)
            iterate 5 refine osl_sets ?_ (by dsimp only; omega) _
            exact HO4.out
          · iterate 5 refine Below.setCell ?_ (by dsimp only; omega) _
            exact HB03.out.trans (HB4.out.mono (by have := HB03.out.size; omega))
        | false =>
          rw [hb] at hC
          have HKN : Hid (lookAt t.l t' N = lookAt t.l t' j) := Lib.hid (by rw [HK.out, MISS.out (by rw [List.getElem?_eq_getElem hkl]; intro e; exact sameB_false.1 hb (Option.some.inj e))])
          generalize t.l[k] = r0 at *
          have HC := Lib.hid hC
          clear hb hC hsl hft HIT MISS HK
          go_wp2_with fail
          go_still_tail 6, (by kernel_rfl)
          change wpList _ _ _ _ _ w2.drew
          go_wp2_with fail
          refine HC.out.mono ?_
          rintro _ w3 ⟨rfl, hb3'⟩
          have hb3 : Below w2.heap.size w2 w3 := ⟨hb3'.os, hb3'.tape, hb3'.output, hb3'.size, hb3'.block⟩
          have hbw3 := HBW2.out.trans (hb3.mono hszw)
          have HBW3 := Lib.hid hbw3
          clear hb3' hb3 hbw3 p4 m0 m1 m2 m3 m4 c0 c1 c2 c3 c4
          go_wp2_with fail
          go_roundw
          case rel => exact ⟨j, k, by omega, HKE.out, rfl, HKN, HBW3⟩
          case measure => simp [intOf]; omega


set_option maxRecDepth 100000 in
set_option maxHeartbeats 8000000 in
theorem look_impl (t t' : Tree) (w : World) (u u' : Value) (hcost : t.cost ≤ 1048576) (hu : TSl w u t.l) (hu' : TSl w u' t'.l) (hfit : Fits t.kind t.n t.x t.s) (hfit' : Fits t'.kind t'.n t'.x t'.s) :
    Calls Try.prog 34 #[.agg #[.int .i64 t.kind, .int .i64 t.n, .int .i64 t.x, .string t.s, u], .agg #[.int .i64 t'.kind, .int .i64 t'.n, .int .i64 t'.x, .string t'.s, u']] w (PairP w (lookR t t') (lookB t t')) := by
  have hc := Tree.cost_eq t
  have hcl := costL_eq t.l
  have hlen : t.l.length ≤ 1048576 := by omega
  have hcE : costE t.l ≤ 1048576 := by omega
  clear hc hcl hcost
  obtain ⟨a, cap, b, off, rfl, hcap, hmax, ha, hl⟩ := hu
  obtain ⟨a', n', cap', rfl⟩ := hu'.form
  unfold maxLen at hmax
  have HL := Lib.hid hl; have HA := Lib.hid ha; have HU' := Lib.hid hu'; have HF' := Lib.hid hfit'
  clear hl ha hu' hfit'
  obtain ⟨hA, hB, hC, hW⟩ := three_blocks w (.cells #[.int .i64 t.kind, .int .i64 t.n, .int .i64 t.x, .string t.s, .slice a t.l.length cap] 29) (.cells #[.int .i64 t'.kind, .int .i64 t'.n, .int .i64 t'.x, .string t'.s, .slice a' n' cap'] 29) (.cells #[.int .i64 0, .int .i64 0, .int .i64 0, .string { data := #[] }, .slice none 0 0] 29)
  have HBA := Lib.hid hA; have HBB := Lib.hid hB; have HBC := Lib.hid hC; have HW := Lib.hid hW
  have HP := Lib.hid (fun w1 => isPaired_c t a cap w1 hlen)
  clear hA hB hC hW
  have hwl : IntKind.i64.wrap ((t.l.length : Int) - 2) = (t.l.length : Int) - 2 := IntWalk.i64_in _ (by omega)
  cases hpb : pairedB t with
  | false =>
    have hn : lookO t t' = none := by unfold lookO; rw [if_neg (by rw [hpb]; simp)]
    have HN1 : Hid (lookR t t' = zeroT) := Lib.hid (by unfold lookR; rw [hn]; rfl)
    have HN2 : Hid (lookB t t' = false) := Lib.hid (by unfold lookB; rw [hn]; rfl)
    rw [hpb] at HP
    clear hn hpb

    go_enter Try.func34, Try.ntmps34
    go_wp2_with fail
    refine (HP.out _).mono ?_
    rintro _ w1 ⟨rfl, b1⟩
    obtain ⟨q0, q1, q2, q3, q4, qf⟩ := five_kept b1 HBC.out
    have qf0 := qf 0; have qf1 := qf 1; have qf2 := qf 2; have qf3 := qf 3; have qf4 := qf 4
    have HB1 := Lib.hid (HW.out.trans (b1.mono (by simp only [World.size_alloc]; omega)))
    clear qf b1
    go_wp2_with fail
    refine bodyPost_ret (v := .tuple #[.agg #[.int .i64 0, .int .i64 0, .int .i64 0, .string { data := #[] }, .slice none 0 0], .bool false]) (by simp [results, Try.results34, go_sem, q0, q1, q2, q3, q4]) rfl ?_
    rw [HN1.out, HN2.out]
    refine ⟨_, _, _, rfl, .nil _ _ _ (by simp [maxLen]), ?_⟩
    iterate 5 refine Below.setCell ?_ (by dsimp only; omega) _
    exact HB1.out

  | true =>
    have hkl : t.l.length % 2 = 0 := by
      unfold pairedB at hpb
      simp at hpb
      exact hpb.2
    obtain ⟨N, hN⟩ : ∃ N, t.l.length = 2 * N := ⟨t.l.length / 2, by omega⟩
    have ho : lookO t t' = lookAt t.l t' N := by unfold lookO; rw [if_pos hpb, hN]; congr 1; omega
    have HO := Lib.hid ho
    rw [hpb] at HP
    have HNN := Lib.hid hN
    have hNl : N ≤ 1048576 := by omega
    clear hkl ho hpb hN
    go_enter Try.func34, Try.ntmps34
    go_wp2_with fail

    refine (HP.out _).mono ?_
    rintro _ w1 ⟨rfl, b1⟩
    have HSTART := Lib.hid b1
    obtain ⟨p0, p1, p2, p3, p4, pf⟩ := five_kept b1 HBA.out
    clear b1 pf p0 p1 p2 p3
    generalize hW0 : (((w.alloc (.cells #[.int .i64 t.kind, .int .i64 t.n, .int .i64 t.x, .string t.s, .slice a t.l.length cap] 29)).alloc (.cells #[.int .i64 t'.kind, .int .i64 t'.n, .int .i64 t'.x, .string t'.s, .slice a' n' cap'] 29)).alloc (.cells #[.int .i64 0, .int .i64 0, .int .i64 0, .string { data := #[] }, .slice none 0 0] 29)) = W0 at *
    have hs0 : W0.heap.size = w.heap.size + 3 := by rw [← hW0]; simp only [World.size_alloc]
    clear hW0
    go_wp2_with fail
    clear p4

    go_loopw [6] (fun i wr => ∃ (j I : Nat), j ≤ N ∧ I = 2 * j ∧ i = .int .i64 ((I : Int) - 2) ∧ Hid (lookAt t.l t' N = lookAt t.l t' j) ∧ Hid (Below W0.heap.size W0 wr)) (fun i _ => (intOf i + 2).toNat)
    case atStart => exact ⟨N, 2 * N, by omega, rfl, by have := HNN.out; congr 1; omega, Lib.hid rfl, HSTART⟩
    case round =>
      obtain ⟨j, I, hj, hI, rfl, HK, HBW⟩ := hrel
      have hszr := HBW.out.size
      have HXA := Lib.hid ((HBW.out.block w.heap.size (by omega)).trans HBA.out)
      cases j with
      | zero =>
        have hI0 : (I : Int) - 2 = -2 := by omega
        rw [hI0]
        clear hI0 hI
        have HN1 : Hid (lookR t t' = zeroT) := Lib.hid (by unfold lookR; rw [HO.out, HK.out]; rfl)
        have HN2 : Hid (lookB t t' = false) := Lib.hid (by unfold lookB; rw [HO.out, HK.out]; rfl)
        obtain ⟨q0, q1, q2, q3, q4, qf⟩ := five_kept HBW.out HBC.out
        have qf0 := qf 0; have qf1 := qf 1; have qf2 := qf 2; have qf3 := qf 3; have qf4 := qf 4
        clear qf
        go_wp2_with fail
        refine bodyPost_ret (v := .tuple #[.agg #[.int .i64 0, .int .i64 0, .int .i64 0, .string { data := #[] }, .slice none 0 0], .bool false]) (by simp [results, Try.results34, go_sem, q0, q1, q2, q3, q4]) rfl ?_
        rw [HN1.out, HN2.out]
        refine ⟨_, _, _, rfl, .nil _ _ _ (by simp [maxLen]), ?_⟩
        iterate 5 refine Below.setCell ?_ (by dsimp only; omega) _
        exact HW.out.trans (HBW.out.mono (by omega))
      | succ j =>
        obtain ⟨k, hk⟩ : ∃ k, k = 2 * j := ⟨_, rfl⟩
        have hIk : (I : Int) - 2 = (k : Int) := by omega
        rw [hIk]
        have hkl : k < t.l.length := by have := HNN.out; omega
        have hkl1 : k + 1 < t.l.length := by have := HNN.out; omega
        have HIT := Lib.hid (fun h => lookAt_hit (l := t.l) (x := t') hk h)
        have MISS := Lib.hid (fun h => lookAt_miss (l := t.l) (x := t') hk h)
        obtain rfl : a = some ⟨b, off, none⟩ := HA.out (by intro h; rw [h] at hkl; simp at hkl)
        have HKE := Lib.hid hk
        have hII : (I : Int) = (k : Int) + 2 := by omega
        clear hIk hk hI
        obtain ⟨w2, hw2⟩ : ∃ w2, w2 = wr := ⟨_, rfl⟩
        subst hw2
        have hbw2 := HBW.out
        have hszw : W0.heap.size ≤ w2.heap.size := hbw2.size
        have hb0 : Below w.heap.size w w2 := HW.out.trans (hbw2.mono (by omega))
        have HB0 := Lib.hid hb0; have HBW2 := Lib.hid hbw2
        obtain ⟨p0, p1, p2, p3, p4, pf⟩ := five_kept hbw2 HBA.out
        obtain ⟨m0, m1, m2, m3, m4, mf⟩ := five_kept hbw2 HBB.out
        obtain ⟨x, c0, c1, c2, c3, c4, hsl, hft⟩ := ((HL.out k hkl).kept hb0).parts
        have hC := sameImpl_c t.l[k] t' w2.drew x (.slice a' n' cap') (hsl.kept (Below.refl _ _).drew) (HU'.out.kept ((hb0).trans ((Below.refl _ _).drew))) hft HF'.out
        have hwk1 : IntKind.i64.wrap ((k : Int) + 1) = ((k + 1 : Nat) : Int) := by rw [IntWalk.i64_in _ (by omega)]; omega
        have hwk2 : IntKind.i64.wrap ((k : Int) - 2) = (k : Int) - 2 := IntWalk.i64_in _ (by omega)
        have hcm := cost_mem (List.getElem_mem hkl1)
        clear pf mf p0 p1 p2 p3 hb0 hbw2
        cases hb : sameB t.l[k] t' with
        | true =>
          rw [hb] at hC
          have e0 : lookO t t' = some t.l[k + 1] := by rw [HO.out, HK.out, HIT.out (by rw [List.getElem?_eq_getElem hkl, sameB_true.1 hb]), List.getElem?_eq_getElem hkl1]
          have HN1 : Hid (lookR t t' = t.l[k + 1]) := Lib.hid (by unfold lookR; rw [e0]; rfl)
          have HN2 : Hid (lookB t t' = true) := Lib.hid (by unfold lookB; rw [e0]; rfl)
          have HLK := HL.out (k + 1) hkl1
          generalize t.l[k] = r0 at *
          generalize t.l[k + 1] = r at *
          have HC := Lib.hid hC; have HLKK := Lib.hid HLK
          clear hb hC HLK hsl hft e0 HIT MISS HK HO
          go_wp2_with fail
          go_still_tail 6, (by kernel_rfl)
          change wpList _ _ _ _ _ w2.drew
          go_wp2_with fail
          refine HC.out.mono ?_
          rintro _ w3 ⟨rfl, hb3'⟩
          have hb3 : Below w2.heap.size w2 w3 := ⟨hb3'.os, hb3'.tape, hb3'.output, hb3'.size, hb3'.block⟩
          have hbw3 := HBW2.out.trans (hb3.mono hszw)
          have hb03 := HW.out.trans (hbw3.mono (by omega))
          have HB03 := Lib.hid hb03; have HBW3 := Lib.hid hbw3
          obtain ⟨y, d0, d1, d2, d3, d4, hsl1, hft1⟩ := (HLKK.out.kept hb03).parts
          obtain ⟨y1, y2, y3, rfl⟩ := hsl1.form
          obtain ⟨p0', p1', p2', p3', p4', pf'⟩ := five_kept hbw3 HBA.out
          have HSL1 := Lib.hid hsl1; have HFT1 := Lib.hid hft1
          have eoff : off + (k + 1) * 5 = off + (k * 5 + 5) := by omega
          clear hb3' hb3 hbw3 hb03 p4 m0 m1 m2 m3 m4 c0 c1 c2 c3 c4 pf' p0' p1' p2' p3' hsl1 hft1 eoff
          go_wp2_with fail
          refine (copyVal_c r _ _ (by omega) HSL1.out HFT1.out).mono ?_
          rintro _ w4 ⟨a2, n2, k2, rfl, ho4, hb4⟩
          have hs4 := hb4.size
          obtain ⟨q0, q1, q2, q3, q4, qf⟩ := five_kept (HBW3.out.trans (hb4.mono HBW3.out.size)) HBC.out
          have qf0 := qf 0; have qf1 := qf 1; have qf2 := qf 2; have qf3 := qf 3; have qf4 := qf 4
          have HO4 := Lib.hid ho4; have HB4 := Lib.hid hb4
          have hsw3 := HBW3.out.size
          clear qf ho4 hb4 d0 d1 d2 d3 d4
          go_wp2_with fail
          refine bodyPost_ret (v := .tuple #[.agg #[.int .i64 r.kind, .int .i64 r.n, .int .i64 r.x, .string r.s, .slice a2 n2 k2], .bool true]) (by simp [results, Try.results34, go_sem, q0, q1, q2, q3, q4]) rfl ?_
          rw [HN1.out, HN2.out]
          refine ⟨_, _, _, rfl, ?_, ?_⟩
          · refine OSl.mono (S := Rng w3.heap.size w4.heap.size) ?_ (fun b hb => ⟨by have := hb.1; omega, by have := hb.2; simpa [World.setCell] using this⟩)
            iterate 5 refine osl_sets ?_ (by dsimp only; omega) _
            exact HO4.out
          · iterate 5 refine Below.setCell ?_ (by dsimp only; omega) _
            exact HB03.out.trans (HB4.out.mono (by have := HB03.out.size; omega))
        | false =>
          rw [hb] at hC
          have HKN : Hid (lookAt t.l t' N = lookAt t.l t' j) := Lib.hid (by rw [HK.out, MISS.out (by rw [List.getElem?_eq_getElem hkl]; intro e; exact sameB_false.1 hb (Option.some.inj e))])
          generalize t.l[k] = r0 at *
          have HC := Lib.hid hC
          clear hb hC hsl hft HIT MISS HK
          go_wp2_with fail
          go_still_tail 6, (by kernel_rfl)
          change wpList _ _ _ _ _ w2.drew
          go_wp2_with fail
          refine HC.out.mono ?_
          rintro _ w3 ⟨rfl, hb3'⟩
          have hb3 : Below w2.heap.size w2 w3 := ⟨hb3'.os, hb3'.tape, hb3'.output, hb3'.size, hb3'.block⟩
          have hbw3 := HBW2.out.trans (hb3.mono hszw)
          have HBW3 := Lib.hid hbw3
          clear hb3' hb3 hbw3 p4 m0 m1 m2 m3 m4 c0 c1 c2 c3 c4
          go_wp2_with fail
          go_roundw
          case rel => exact ⟨j, k, by omega, HKE.out, rfl, HKN, HBW3⟩
          case measure => simp [intOf]; omega

end Go.Proofs.Ytjkjfdhbbblffaa
