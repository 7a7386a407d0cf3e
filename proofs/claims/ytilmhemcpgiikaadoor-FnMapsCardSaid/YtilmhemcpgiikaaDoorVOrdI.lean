/- The order of values: the other side's comparison. -/
import Derived.Test.YtilmhemcpgiikaaDoorVNumI
namespace Go.Proofs.YtilmhemcpgiikaaDoor
open Go.Deep Go.ChangeShapes Go.WideShapes Go.ChangeAt Go.RowKit
open Go.ChangeMaps (open_string shut_string)

def OrdI (t : Tree) : Prop := ∀ (t' : Tree) (w : World) (u u' : Value), LaidP w → TSl w u t.l → TSl w u' t'.l → Fits t.kind t.n t.x t.s → Fits t'.kind t'.n t'.x t'.s →
  Calls Tryd.prog 76 #[.agg #[.int .i64 t.kind, .int .i64 t.n, .int .i64 t.x, .string t.s, u], .agg #[.int .i64 t'.kind, .int .i64 t'.n, .int .i64 t'.x, .string t'.s, u']] w fun e w' => e = .returned (.int .i64 (t.cmp t')) ∧ Below w.heap.size w w'
theorem cmp_k {t t' : Tree} (h : t.kind ≠ t'.kind) : t.cmp t' = Lib.compareInt t.kind t'.kind := by
  unfold Lib.compareInt
  rw [Tree.cmp_eq]
  by_cases h1 : t.kind < t'.kind
  · rw [if_pos h1, if_pos h1]
  · rw [if_neg h1, if_neg h1, if_pos (by omega), if_pos (by omega)]
theorem cmp_o {t t' : Tree} (h : t.kind = t'.kind) : t.cmp t' = if or2 (numC t.kind t.n t.x t'.n t'.x) (Lib.compareBytes t.s.data.toList t'.s.data.toList) ≠ 0 then or2 (numC t.kind t.n t.x t'.n t'.x) (Lib.compareBytes t.s.data.toList t'.s.data.toList) else cmpL t.l t'.l := by
  rw [Tree.cmp_eq, if_neg (by omega), if_neg (by omega)]
  unfold or2
  generalize numC t.kind t.n t.x t'.n t'.x = C
  by_cases h1 : C = 0
  · subst h1; simp only [ne_eq, not_true_eq_false, if_false]
  · simp only [ne_eq, h1, not_false_eq_true, if_true]
set_option maxRecDepth 100000 in
set_option maxHeartbeats 4000000 in
theorem cmpFunc_of (l : List Tree) (ih : ∀ t ∈ l, OrdI t) (l' : List Tree) (w : World) (u u' : Value) (hLP : LaidP w) (hu : TSl w u l) (hu' : TSl w u' l') :
    Calls Tryd.prog 135 #[u, u', .func (.func 76) #[] #[]] w fun e w' => e = .returned (.int .i64 (cmpL l l')) ∧ Below w.heap.size w w' := by
  obtain ⟨a, cap, b, off, rfl, hcap, hmax, ha, hl⟩ := hu
  obtain ⟨a', cap', b', off', rfl, hcap', hmax', ha', hl'⟩ := hu'
  unfold maxLen at hmax hmax'
  have IH := Lib.hid ih; clear ih
  have HL := Lib.hid hl; clear hl
  have HA := Lib.hid ha; clear ha
  have HL' := Lib.hid hl'; clear hl'
  have HA' := Lib.hid ha'; clear ha'
  have HP := Lib.hid hLP; clear hLP
  go_enter Tryd.func135, Tryd.ntmps135
  go_wp2_with fail
  go_loopw [13] (fun i wr => ∃ j : Nat, j ≤ l.length ∧ j ≤ l'.length ∧ i = .int .i64 j ∧ Hid (cmpL l l' = cmpL (l.drop j) (l'.drop j)) ∧ Hid (Below w.heap.size w wr)) (fun i _ => l.length - (intOf i).toNat)
  case atStart => exact ⟨0, by omega, by omega, rfl, Lib.hid (by simp), Lib.hid (Below.refl _ _)⟩
  case round =>
    obtain ⟨j, hj, hj', rfl, HT, HBW⟩ := hrel
    have hszr := HBW.out.size
    by_cases hjl : j < l.length
    · obtain rfl : a = some ⟨b, off, none⟩ := HA.out (by intro h; rw [h] at hjl; simp at hjl)
      have hT := (HL.out j hjl).kept HBW.out
      have hbl := hT.lt
      obtain ⟨x, c0, c1, c2, c3, c4, hsl, hft⟩ := hT.parts
      by_cases hjl' : j < l'.length
      · obtain rfl : a' = some ⟨b', off', none⟩ := HA'.out (by intro h; rw [h] at hjl'; simp at hjl')
        have hT' := (HL'.out j hjl').kept HBW.out
        have hbl' := hT'.lt
        obtain ⟨x', d0, d1, d2, d3, d4, hsl', hft'⟩ := hT'.parts
        have hih := IH.out l[j] (List.getElem_mem hjl) l'[j]
        have hst := cmpL_step hjl hjl'
        generalize l[j] = r at *
        generalize l'[j] = r' at *
        obtain ⟨x1, x2, x3, rfl⟩ := hsl.form
        obtain ⟨y1, y2, y3, rfl⟩ := hsl'.form
        have hbb := vbelow2 wr (.cells #[.int .i64 r.kind, .int .i64 r.n, .int .i64 r.x, .string r.s, .slice x1 x2 x3] 29) (.cells #[.int .i64 r'.kind, .int .i64 r'.n, .int .i64 r'.x, .string r'.s, .slice y1 y2 y3] 29)
        have HC := Lib.hid (hih _ _ _ (HP.out.kept (HBW.out.trans (hbb.mono hszr))) (hsl.kept hbb) (hsl'.kept hbb) hft hft')
        have HBB := Lib.hid hbb
        clear hih hsl hsl' hft hft' hbb hT hT'
        generalize r.cmp r' = D at *
        have HST := Lib.hid hst; clear hst
        by_cases hD : D = 0
        · subst hD
          have HN' := Lib.hid (HT.out.trans (HST.out.trans (if_neg (by simp))))
          clear HST
          go_wp2_with fail
          refine HC.out.mono ?_
          rintro _ w1 ⟨rfl, hb1⟩
          go_wp2_with fail
          have hb2 := vnx HBB.out hb1
          go_roundw
          case rel => exact ⟨j + 1, by omega, by omega, by go_num, HN', Lib.hid (HBW.out.trans (hb2.mono hszr))⟩
          case measure => simp [intOf]; omega
        · have HF2 := Lib.hid (HT.out.trans (HST.out.trans (if_pos hD)))
          have hDn : (D != 0) = true := by simpa using hD
          clear HST hD
          go_wp2_with fail
          refine HC.out.mono ?_
          rintro _ w1 ⟨rfl, hb1⟩
          go_wp2_with fail
          have hb2 := vnx HBB.out hb1
          go_ret
          exact ⟨ret_int HF2.out.symm, HBW.out.trans (hb2.mono hszr)⟩
      · have HF2 := Lib.hid (HT.out.trans ((cmpL_end hj hj' (by omega)).trans ((if_neg (by omega)).trans (if_pos (by omega)))))
        clear hT
        generalize l[j] = r at *
        obtain ⟨x1, x2, x3, rfl⟩ := hsl.form
        have e3 : decide ((l'.length : Int) ≤ j) = true := decide_eq_true (by omega)
        clear hsl hft
        go_wp2_with fail
        go_ret
        exact ⟨ret_int HF2.out.symm, HBW.out.trans ((vbelow1 _ _).mono hszr)⟩
    · have hE := cmpL_end hj hj' (by omega)
      have e1 : decide ((j : Int) < l.length) = false := decide_eq_false (by omega)
      by_cases hll : l.length < l'.length
      · have HF2 := Lib.hid (HT.out.trans (hE.trans (if_pos hll)))
        clear hE
        go_wp2_with fail
        go_ret
        exact ⟨ret_int HF2.out.symm, HBW.out⟩
      · have HF2 := Lib.hid (HT.out.trans (hE.trans ((if_neg hll).trans (if_neg (by omega)))))
        have e2 : decide ((l.length : Int) < l'.length) = false := decide_eq_false (by omega)
        clear hE
        go_wp2_with fail
        go_ret
        exact ⟨ret_int HF2.out.symm, HBW.out⟩
set_option maxRecDepth 100000 in
set_option maxHeartbeats 4000000 in
theorem ordImpl_of (t : Tree) (ih : ∀ t' ∈ t.l, OrdI t') : OrdI t := by
  intro t' w u u' hLP hu hu' hfit hfit'
  obtain ⟨a, n, cap, rfl⟩ := hu.form
  obtain ⟨a', n', cap', rfl⟩ := hu'.form
  have HW := Lib.hid (vbelow2 w (.cells #[.int .i64 t.kind, .int .i64 t.n, .int .i64 t.x, .string t.s, .slice a n cap] 29) (.cells #[.int .i64 t'.kind, .int .i64 t'.n, .int .i64 t'.x, .string t'.s, .slice a' n' cap'] 29))
  have HO := Lib.hid (two_objs w (.cells #[.int .i64 t.kind, .int .i64 t.n, .int .i64 t.x, .string t.s, .slice a n cap] 29) (.cells #[.int .i64 t'.kind, .int .i64 t'.n, .int .i64 t'.x, .string t'.s, .slice a' n' cap'] 29))
  have hs0 : w.heap.size + 1 < ((w.alloc (.cells #[.int .i64 t.kind, .int .i64 t.n, .int .i64 t.x, .string t.s, .slice a n cap] 29)).alloc (.cells #[.int .i64 t'.kind, .int .i64 t'.n, .int .i64 t'.x, .string t'.s, .slice a' n' cap'] 29)).heap.size := by simp only [World.size_alloc]; omega
  have HN := Lib.hid (fun w1 (hb : Below w.heap.size w w1) => numI_c t.kind t.n t.x t'.kind t'.n t'.x t.s t'.s a a' n cap n' cap' w1 (hLP.kept hb) hfit.n hfit'.n)
  have HE := Lib.hid (fun w1 (hb : Below w.heap.size w w1) => cmpFunc_of t.l ih t'.l w1 _ _ (hLP.kept hb) (hu.kept hb) (hu'.kept hb))
  have HSC := Lib.hid (fun w1 => Tryd.strings_Compare t.s t'.s w1)
  have HKC := Lib.hid (fun w1 => Tryd.cmp_Compare_int t.kind t'.kind w1)
  clear ih hu hu' hLP hfit hfit'
  cases e1 : (t.kind != t'.kind) with
  | true =>
    have HF := Lib.hid (cmp_k (t := t) (t' := t') (by simpa using e1))
    go_enter Tryd.func76, Tryd.ntmps76
    go_wp2_with fail
    refine (HKC.out _).mono ?_
    rintro _ _ ⟨rfl, rfl⟩
    go_wp2_with fail
    go_ret
    exact ⟨ret_int HF.out.symm, HW.out⟩
  | false =>
    have hk : t.kind = t'.kind := by simpa using e1
    have HF := cmp_o (t := t) (t' := t') hk
    clear hk
    generalize numC t.kind t.n t.x t'.n t'.x = C at *
    generalize Lib.compareBytes t.s.data.toList t'.s.data.toList = CB at *
    have HOR := Lib.hid (fun p w1 => or_c C CB p w1)
    generalize or2 C CB = D at *
    generalize cmpL t.l t'.l = Z at *
    by_cases hD : D = 0
    · subst hD
      have HF := Lib.hid (HF.trans (if_neg (by simp)))
      go_enter Tryd.func76, Tryd.ntmps76
      go_wp2_with fail
      generalize hW0 : (w.alloc (.cells #[.int .i64 t.kind, .int .i64 t.n, .int .i64 t.x, .string t.s, .slice a n cap] 29)).alloc (.cells #[.int .i64 t'.kind, .int .i64 t'.n, .int .i64 t'.x, .string t'.s, .slice a' n' cap'] 29) = W at *
      clear hW0
      obtain ⟨p0, p1, p2, p3, p4⟩ := obj5 HO.out.1
      obtain ⟨q0, q1, q2, q3, q4⟩ := obj5 HO.out.2
      have dd : Below W.heap.size W W.drew := (Below.refl _ _).drew
      have dz : Below W.heap.size W W := Below.refl _ _
      have HK : Hid (∀ w', Below W.heap.size W w' → (w'.cell? ⟨w.heap.size, 0, none⟩ = some (.int .i64 t.kind) ∧ w'.cell? ⟨w.heap.size, 1, none⟩ = some (.int .i64 t.n) ∧ w'.cell? ⟨w.heap.size, 2, none⟩ = some (.int .i64 t.x) ∧ w'.cell? ⟨w.heap.size, 3, none⟩ = some (.string t.s) ∧ w'.cell? ⟨w.heap.size, 4, none⟩ = some (.slice a n cap)) ∧ (w'.cell? ⟨w.heap.size + 1, 0, none⟩ = some (.int .i64 t'.kind) ∧ w'.cell? ⟨w.heap.size + 1, 1, none⟩ = some (.int .i64 t'.n) ∧ w'.cell? ⟨w.heap.size + 1, 2, none⟩ = some (.int .i64 t'.x) ∧ w'.cell? ⟨w.heap.size + 1, 3, none⟩ = some (.string t'.s) ∧ w'.cell? ⟨w.heap.size + 1, 4, none⟩ = some (.slice a' n' cap'))) := Lib.hid (fun w' h => ⟨obj5 (kept_obj h HO.out.1), obj5 (kept_obj h HO.out.2)⟩)
      go_region_held3 (fun w' => (w'.cell? ⟨w.heap.size, 0, none⟩ = some (.int .i64 t.kind) ∧ w'.cell? ⟨w.heap.size, 1, none⟩ = some (.int .i64 t.n) ∧ w'.cell? ⟨w.heap.size, 2, none⟩ = some (.int .i64 t.x) ∧ w'.cell? ⟨w.heap.size, 3, none⟩ = some (.string t.s) ∧ w'.cell? ⟨w.heap.size, 4, none⟩ = some (.slice a n cap)) ∧ (w'.cell? ⟨w.heap.size + 1, 0, none⟩ = some (.int .i64 t'.kind) ∧ w'.cell? ⟨w.heap.size + 1, 1, none⟩ = some (.int .i64 t'.n) ∧ w'.cell? ⟨w.heap.size + 1, 2, none⟩ = some (.int .i64 t'.x) ∧ w'.cell? ⟨w.heap.size + 1, 3, none⟩ = some (.string t'.s) ∧ w'.cell? ⟨w.heap.size + 1, 4, none⟩ = some (.slice a' n' cap'))) (first | with_reducible exact HK.out _ dd | with_reducible exact HK.out _ (dd.alloc dd.size _) | with_reducible exact HK.out _ (dz.alloc (Nat.le_refl _) _).drew | with_reducible exact HK.out _ (dz.alloc (Nat.le_refl _) _) | with_reducible exact HK.out _ (dd.alloc dd.size _).drew | with_reducible exact HK.out _ dd.drew)
        (first
         | (go_at_call 133; refine (HN.out _ (vnx HW.out dd)).mono ?_; rintro _ w1 ⟨rfl, b1⟩; have dd := vnx dd b1; clear b1)
         | (go_at_call 134; refine (HSC.out _).mono ?_; rintro _ _ ⟨rfl, rfl⟩)
         | (go_at_call 132; refine (HOR.out _ _ (by simp) (by first | with_reducible exact (new2 _ _ _ _).1 | with_reducible exact (new2d _ _ _ _).1 | with_reducible exact (new2e _ _ _ _).1) (by first | with_reducible exact (new2 _ _ _ _).2 | with_reducible exact (new2d _ _ _ _).2 | with_reducible exact (new2e _ _ _ _).2)).mono ?_; rintro _ _ ⟨rfl, rfl⟩))
      all_goals
        have z0 := Nat.lt_of_lt_of_le hs0 dd.size
        have z1 : w.heap.size < _ := Nat.lt_of_le_of_lt (Nat.le_succ _) z0
        obtain ⟨⟨r0, r1, r2, r3, r4⟩, ⟨v0, v1, v2, v3, v4⟩⟩ := HK.out _ dd
        go_wp2_with fail
        refine (HE.out _ (by first | exact vnx HW.out (dd.alloc dd.size _) | exact vnx HW.out ((dd.alloc dd.size _).drew))).mono ?_
        rintro _ w9 ⟨rfl, b9⟩
        go_wp2_with fail
        go_ret
        exact ⟨ret_int HF.out.symm, by first | exact vnx (vnx HW.out (dd.alloc dd.size _)) b9 | exact vnx (vnx HW.out ((dd.alloc dd.size _).drew)) b9⟩
    · have HF := Lib.hid (HF.trans (if_pos hD))
      have hDn : (D != 0) = true := by simpa using hD
      clear hD
      go_enter Tryd.func76, Tryd.ntmps76
      go_wp2_with fail
      generalize hW0 : (w.alloc (.cells #[.int .i64 t.kind, .int .i64 t.n, .int .i64 t.x, .string t.s, .slice a n cap] 29)).alloc (.cells #[.int .i64 t'.kind, .int .i64 t'.n, .int .i64 t'.x, .string t'.s, .slice a' n' cap'] 29) = W at *
      clear hW0
      obtain ⟨p0, p1, p2, p3, p4⟩ := obj5 HO.out.1
      obtain ⟨q0, q1, q2, q3, q4⟩ := obj5 HO.out.2
      have dd : Below W.heap.size W W.drew := (Below.refl _ _).drew
      have dz : Below W.heap.size W W := Below.refl _ _
      have HK : Hid (∀ w', Below W.heap.size W w' → (w'.cell? ⟨w.heap.size, 0, none⟩ = some (.int .i64 t.kind) ∧ w'.cell? ⟨w.heap.size, 1, none⟩ = some (.int .i64 t.n) ∧ w'.cell? ⟨w.heap.size, 2, none⟩ = some (.int .i64 t.x) ∧ w'.cell? ⟨w.heap.size, 3, none⟩ = some (.string t.s) ∧ w'.cell? ⟨w.heap.size, 4, none⟩ = some (.slice a n cap)) ∧ (w'.cell? ⟨w.heap.size + 1, 0, none⟩ = some (.int .i64 t'.kind) ∧ w'.cell? ⟨w.heap.size + 1, 1, none⟩ = some (.int .i64 t'.n) ∧ w'.cell? ⟨w.heap.size + 1, 2, none⟩ = some (.int .i64 t'.x) ∧ w'.cell? ⟨w.heap.size + 1, 3, none⟩ = some (.string t'.s) ∧ w'.cell? ⟨w.heap.size + 1, 4, none⟩ = some (.slice a' n' cap'))) := Lib.hid (fun w' h => ⟨obj5 (kept_obj h HO.out.1), obj5 (kept_obj h HO.out.2)⟩)
      go_region_held3 (fun w' => (w'.cell? ⟨w.heap.size, 0, none⟩ = some (.int .i64 t.kind) ∧ w'.cell? ⟨w.heap.size, 1, none⟩ = some (.int .i64 t.n) ∧ w'.cell? ⟨w.heap.size, 2, none⟩ = some (.int .i64 t.x) ∧ w'.cell? ⟨w.heap.size, 3, none⟩ = some (.string t.s) ∧ w'.cell? ⟨w.heap.size, 4, none⟩ = some (.slice a n cap)) ∧ (w'.cell? ⟨w.heap.size + 1, 0, none⟩ = some (.int .i64 t'.kind) ∧ w'.cell? ⟨w.heap.size + 1, 1, none⟩ = some (.int .i64 t'.n) ∧ w'.cell? ⟨w.heap.size + 1, 2, none⟩ = some (.int .i64 t'.x) ∧ w'.cell? ⟨w.heap.size + 1, 3, none⟩ = some (.string t'.s) ∧ w'.cell? ⟨w.heap.size + 1, 4, none⟩ = some (.slice a' n' cap'))) (first | with_reducible exact HK.out _ dd | with_reducible exact HK.out _ (dd.alloc dd.size _) | with_reducible exact HK.out _ (dz.alloc (Nat.le_refl _) _).drew | with_reducible exact HK.out _ (dz.alloc (Nat.le_refl _) _) | with_reducible exact HK.out _ (dd.alloc dd.size _).drew | with_reducible exact HK.out _ dd.drew)
        (first
         | (go_at_call 133; refine (HN.out _ (vnx HW.out dd)).mono ?_; rintro _ w1 ⟨rfl, b1⟩; have dd := vnx dd b1; clear b1)
         | (go_at_call 134; refine (HSC.out _).mono ?_; rintro _ _ ⟨rfl, rfl⟩)
         | (go_at_call 132; refine (HOR.out _ _ (by simp) (by first | with_reducible exact (new2 _ _ _ _).1 | with_reducible exact (new2d _ _ _ _).1 | with_reducible exact (new2e _ _ _ _).1) (by first | with_reducible exact (new2 _ _ _ _).2 | with_reducible exact (new2d _ _ _ _).2 | with_reducible exact (new2e _ _ _ _).2)).mono ?_; rintro _ _ ⟨rfl, rfl⟩))
      all_goals
        go_wp2_with fail
        go_ret
        exact ⟨ret_int HF.out.symm, by first | exact vnx HW.out (dd.alloc dd.size _) | exact vnx HW.out ((dd.alloc dd.size _).drew)⟩
theorem ordImpl_c (t : Tree) : OrdI t := Tree.ind (p := OrdI) ordImpl_of t
end Go.Proofs.YtilmhemcpgiikaaDoor
