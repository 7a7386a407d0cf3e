/- The order of values: the reference's comparison. -/
import Derived.Test.YtilmhemcpgiikaaDoorVNum
namespace Go.Proofs.YtilmhemcpgiikaaDoor
open Go.Deep Go.ChangeShapes Go.WideShapes Go.ChangeAt Go.RowKit
open Go.ChangeMaps (open_string shut_string)

def OrdS (t : Tree) : Prop := ∀ (t' : Tree) (w : World) (u u' : Value), TSl w u t.l → TSl w u' t'.l → Fits t.kind t.n t.x t.s → Fits t'.kind t'.n t'.x t'.s →
  Calls Tryd.prog 74 #[.agg #[.int .i64 t.kind, .int .i64 t.n, .int .i64 t.x, .string t.s, u], .agg #[.int .i64 t'.kind, .int .i64 t'.n, .int .i64 t'.x, .string t'.s, u']] w fun e w' => e = .returned (.int .i64 (t.cmp t')) ∧ Below w.heap.size w w'
set_option maxRecDepth 100000 in
set_option maxHeartbeats 8000000 in
theorem ordSpec_of (t : Tree) (ih : ∀ t' ∈ t.l, OrdS t') : OrdS t := by
  intro t' w u u' hu hu' hfit hfit'
  obtain ⟨a, cap, b, off, rfl, hcap, hmax, ha, hl⟩ := hu
  obtain ⟨a', cap', b', off', rfl, hcap', hmax', ha', hl'⟩ := hu'
  unfold maxLen at hmax hmax'
  have IH := Lib.hid ih; clear ih
  have HL := Lib.hid hl; clear hl
  have HA := Lib.hid ha; clear ha
  have HL' := Lib.hid hl'; clear hl'
  have HA' := Lib.hid ha'; clear ha'
  have HW := Lib.hid (vbelow2 w (.cells #[.int .i64 t.kind, .int .i64 t.n, .int .i64 t.x, .string t.s, .slice a t.l.length cap] 29) (.cells #[.int .i64 t'.kind, .int .i64 t'.n, .int .i64 t'.x, .string t'.s, .slice a' t'.l.length cap'] 29))
  have HO := Lib.hid (two_objs w (.cells #[.int .i64 t.kind, .int .i64 t.n, .int .i64 t.x, .string t.s, .slice a t.l.length cap] 29) (.cells #[.int .i64 t'.kind, .int .i64 t'.n, .int .i64 t'.x, .string t'.s, .slice a' t'.l.length cap'] 29))
  have HN := Lib.hid (fun w1 => num_c t.kind t.n t.x t'.kind t'.n t'.x t.s t'.s a a' t.l.length cap t'.l.length cap' w1 hfit.n hfit'.n)
  clear hfit hfit'
  by_cases k1 : t.kind < t'.kind
  · have HF := Lib.hid (cmp_k1 k1)
    go_enter Tryd.func74, Tryd.ntmps74
    go_wp2_with fail
    go_ret
    exact ⟨ret_int HF.out.symm, HW.out⟩
  by_cases k2 : t'.kind < t.kind
  · have HF := Lib.hid (cmp_k2 k2)
    have hd : decide (t.kind < t'.kind) = false := decide_eq_false k1
    go_enter Tryd.func74, Tryd.ntmps74
    go_wp2_with fail
    go_ret
    exact ⟨ret_int HF.out.symm, HW.out⟩
  have hd1 : decide (t.kind < t'.kind) = false := decide_eq_false k1
  have hd2 : decide (t'.kind < t.kind) = false := decide_eq_false k2
  have hk : t.kind = t'.kind := by omega
  have c1 := cmp_n (t := t) (t' := t') hk
  have c2 := cmp_s (t := t) (t' := t') hk
  have c3 := cmp_l (t := t) (t' := t') hk
  generalize numC t.kind t.n t.x t'.n t'.x = C at *
  clear hk k1 k2
  by_cases hc : C = 0
  · subst hc
    have C2 := Lib.hid (c2 rfl); have C3 := Lib.hid (c3 rfl); clear c1 c2 c3
    have h3 := cmp_three t.s.toList t'.s.toList
    rw [Lib.toList_data, Lib.toList_data] at h3
    generalize hcb : Lib.compareBytes t.s.data.toList t'.s.data.toList = CB at *
    have hg : binOp .gtr 9 (.string t.s) (.string t'.s) = pure (.bool (!(Op.bytesLess t.s.toList t'.s.toList || t.s.toList == t'.s.toList))) := str_gtr _ _ _
    rw [Lib.toList_data, Lib.toList_data] at hg
    have hls : binOp .lss 9 (.string t.s) (.string t'.s) = pure (.bool (Op.bytesLess t.s.data.toList t'.s.data.toList)) := by rw [binOp_string_lss, Lib.toList_data, Lib.toList_data]
    clear hcb
    generalize Op.bytesLess t.s.data.toList t'.s.data.toList = L at *
    generalize (t.s.data.toList == t'.s.data.toList) = E at *
    rcases h3 with ⟨rfl, rfl, rfl⟩ | ⟨rfl, rfl, rfl⟩ | ⟨rfl, rfl, rfl⟩
    · have HF := Lib.hid (C2.out (by omega))
      go_enter Tryd.func74, Tryd.ntmps74
      go_wp2_with fail
      refine (HN.out _).mono ?_
      rintro _ w1 ⟨rfl, b1⟩
      obtain ⟨p0, p1, p2, p3, p4⟩ := obj5 (kept_obj b1 HO.out.1)
      obtain ⟨q0, q1, q2, q3, q4⟩ := obj5 (kept_obj b1 HO.out.2)
      have B1 := Lib.hid b1; clear b1
      go_wp2_with fail
      go_ret
      exact ⟨ret_int HF.out.symm, vnx HW.out B1.out⟩
    · have HF := Lib.hid (C3.out rfl)
      clear C2 C3
      go_enter Tryd.func74, Tryd.ntmps74
      go_wp2_with fail
      refine (HN.out _).mono ?_
      rintro _ w1 ⟨rfl, b1⟩
      have HBX := Lib.hid (fun wr (h : Below w1.heap.size w1 wr) => And.intro (obj5 (kept_obj h (kept_obj b1 HO.out.1))) (obj5 (kept_obj h (kept_obj b1 HO.out.2))))
      obtain ⟨⟨p0, p1, p2, p3, p4⟩, ⟨q0, q1, q2, q3, q4⟩⟩ := HBX.out _ (Below.refl _ _)
      have B1 := Lib.hid (vnx HW.out b1); clear b1
      go_wp2_with fail
      clear p0 p1 p2 p3 p4 q0 q1 q2 q3 q4
      go_loopw [6] (fun i wr => ∃ j : Nat, j ≤ t.l.length ∧ j ≤ t'.l.length ∧ i = .int .i64 j ∧ Hid (cmpL t.l t'.l = cmpL (t.l.drop j) (t'.l.drop j)) ∧ Hid (Below w1.heap.size w1 wr)) (fun i _ => t.l.length - (intOf i).toNat)
      case atStart => exact ⟨0, by omega, by omega, rfl, Lib.hid (by simp), Lib.hid (Below.refl _ _)⟩
      case round =>
        obtain ⟨j, hj, hj', rfl, HT, HBW⟩ := hrel
        obtain ⟨⟨-, -, -, -, p4⟩, ⟨-, -, -, -, q4⟩⟩ := HBX.out _ HBW.out
        have hszr := HBW.out.size
        have hbw0 : Below w.heap.size w wr := vnx B1.out HBW.out
        by_cases hjl : j < t.l.length
        · by_cases hjl' : j < t'.l.length
          · obtain rfl : a = some ⟨b, off, none⟩ := HA.out (by intro h; rw [h] at hjl; simp at hjl)
            obtain rfl : a' = some ⟨b', off', none⟩ := HA'.out (by intro h; rw [h] at hjl'; simp at hjl')
            obtain ⟨x, c0, c1, c2, c3, c4, hsl, hft⟩ := ((HL.out j hjl).kept hbw0).parts
            obtain ⟨x', d0, d1, d2, d3, d4, hsl', hft'⟩ := ((HL'.out j hjl').kept hbw0).parts
            have hih := IH.out t.l[j] (List.getElem_mem hjl) t'.l[j]
            have hst := cmpL_step hjl hjl'
            generalize t.l[j] = r at *
            generalize t'.l[j] = r' at *
            have HC := Lib.hid (hih wr.drew x x' (hsl.kept (Below.refl _ _).drew) (hsl'.kept (Below.refl _ _).drew) hft hft')
            clear hih hsl hsl' hft hft'
            generalize r.cmp r' = D at *
            have HST := Lib.hid hst; clear hst
            by_cases hD : D = 0
            · subst hD
              have HN' := Lib.hid (HT.out.trans (HST.out.trans (if_neg (by simp))))
              clear HST
              go_wp2_with fail
              go_still_tail 10, (by kernel_rfl)
              change wpList _ _ _ _ _ wr.drew
              go_wp2_with fail
              refine HC.out.mono ?_
              rintro _ w2 ⟨rfl, hb1'⟩
              have hb1 : Below wr.heap.size wr w2 := ⟨hb1'.os, hb1'.tape, hb1'.output, hb1'.size, hb1'.block⟩
              clear hb1'
              go_wp2_with fail
              go_roundw
              case rel => exact ⟨j + 1, by omega, by omega, by go_num, HN', Lib.hid (HBW.out.trans (hb1.mono hszr))⟩
              case measure => simp [intOf]; omega
            · have HF2 := Lib.hid (HF.out.trans (HT.out.trans (HST.out.trans (if_pos hD))))
              have hDn : (D != 0) = true := by simpa using hD
              clear HST hD
              go_wp2_with fail
              go_still_tail 10, (by kernel_rfl)
              change wpList _ _ _ _ _ wr.drew
              go_wp2_with fail
              refine HC.out.mono ?_
              rintro _ w2 ⟨rfl, hb1'⟩
              have hb1 : Below wr.heap.size wr w2 := ⟨hb1'.os, hb1'.tape, hb1'.output, hb1'.size, hb1'.block⟩
              clear hb1'
              go_wp2_with fail
              go_ret
              exact ⟨ret_int HF2.out.symm, hbw0.trans (hb1.mono hbw0.size)⟩
          · have HF2 := Lib.hid (HF.out.trans (HT.out.trans ((cmpL_end hj hj' (by omega)).trans ((if_neg (by omega)).trans (if_pos (by omega))))))
            have e1 : decide ((j : Int) < t'.l.length) = false := decide_eq_false (by omega)
            have e2 : decide ((t.l.length : Int) < t'.l.length) = false := decide_eq_false (by omega)
            go_wp2_with fail
            go_ret
            exact ⟨ret_int HF2.out.symm, hbw0⟩
        · have e1 : decide ((j : Int) < t.l.length) = false := decide_eq_false (by omega)
          have hE := cmpL_end hj hj' (by omega)
          by_cases hll : t.l.length < t'.l.length
          · have HF2 := Lib.hid (HF.out.trans (HT.out.trans (hE.trans (if_pos hll))))
            clear hE
            go_wp2_with fail
            go_ret
            exact ⟨ret_int HF2.out.symm, hbw0⟩
          · have HF2 := Lib.hid (HF.out.trans (HT.out.trans (hE.trans ((if_neg hll).trans (if_neg (by omega))))))
            have e2 : decide ((t.l.length : Int) < t'.l.length) = false := decide_eq_false (by omega)
            have e3 : decide ((t'.l.length : Int) < t.l.length) = false := decide_eq_false (by omega)
            clear hE
            go_wp2_with fail
            go_ret
            exact ⟨ret_int HF2.out.symm, hbw0⟩
    · have HF := Lib.hid (C2.out (by omega))
      go_enter Tryd.func74, Tryd.ntmps74
      go_wp2_with fail
      refine (HN.out _).mono ?_
      rintro _ w1 ⟨rfl, b1⟩
      obtain ⟨p0, p1, p2, p3, p4⟩ := obj5 (kept_obj b1 HO.out.1)
      obtain ⟨q0, q1, q2, q3, q4⟩ := obj5 (kept_obj b1 HO.out.2)
      have B1 := Lib.hid b1; clear b1
      go_wp2_with fail
      go_ret
      exact ⟨ret_int HF.out.symm, vnx HW.out B1.out⟩
  · have hcn : (C != 0) = true := by simpa using hc
    have HF := Lib.hid (c1 hc)
    clear c1 c2 c3 hc
    go_enter Tryd.func74, Tryd.ntmps74
    go_wp2_with fail
    refine (HN.out _).mono ?_
    rintro _ w1 ⟨rfl, b1⟩
    have B1 := Lib.hid b1; clear b1
    go_wp2_with fail
    go_ret
    exact ⟨ret_int HF.out.symm, vnx HW.out B1.out⟩
theorem ordSpec_c (t : Tree) : OrdS t := Tree.ind (p := OrdS) ordSpec_of t
end Go.Proofs.YtilmhemcpgiikaaDoor
