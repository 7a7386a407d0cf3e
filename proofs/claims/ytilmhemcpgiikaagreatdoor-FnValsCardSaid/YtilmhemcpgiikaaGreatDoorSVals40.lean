/- Vals: texts of the proof (VSameL). -/
import Derived.Test.YtilmhemcpgiikaaGreatDoorSVals39
/- The laws' own comparison of trees. -/
namespace Go.Proofs.YtilmhemcpgiikaaGreatDoor
open Go.Deep Go.ChangeShapes Go.WideShapes Go.ChangeAt Go.RowKit
open Go.ChangeMaps (open_string shut_string)

set_option maxRecDepth 100000 in
set_option maxHeartbeats 4000000 in
theorem sameLaw_of (t : Tree) (ih : ∀ t' ∈ t.l, SameC 16 t') : SameC 16 t := by
  intro t' w u u' hu hu' hfit hfit'
  obtain ⟨a, cap, b, off, rfl, hcap, hmax, ha, hl⟩ := hu
  obtain ⟨a', cap', b', off', rfl, hcap', hmax', ha', hl'⟩ := hu'
  unfold maxLen at hmax hmax'
  have IH := Lib.hid ih; clear ih
  have HL := Lib.hid hl; clear hl
  have HA := Lib.hid ha; clear ha
  have HL' := Lib.hid hl'; clear hl'
  have HA' := Lib.hid ha'; clear ha'
  have HW := Lib.hid (vbelow2 w (.cells #[.int .i64 t.kind, .int .i64 t.n, .int .i64 t.x, .string t.s, .slice a t.l.length cap] 26) (.cells #[.int .i64 t'.kind, .int .i64 t'.n, .int .i64 t'.x, .string t'.s, .slice a' t'.l.length cap'] 26))
  cases e1 : (t.kind != t'.kind) with
  | true =>
    have HF := Lib.hid (same_kind (t := t) (t' := t') (by simpa using e1))
    go_enter Tryz.func16, Tryz.ntmps16
    go_wp2_with fail
    go_ret
    exact ⟨ret_bool HF.out.symm, HW.out⟩
  | false =>
    cases e2 : (t.n != t'.n) with
    | true =>
      have HF := Lib.hid (same_n (t := t) (t' := t') (by simpa using e2))
      go_enter Tryz.func16, Tryz.ntmps16
      go_wp2_with fail
      go_ret
      exact ⟨ret_bool HF.out.symm, HW.out⟩
    | false =>
      cases e3 : (t.x != t'.x) with
      | true =>
        have HF := Lib.hid (same_x (t := t) (t' := t') (by simpa using e3))
        go_enter Tryz.func16, Tryz.ntmps16
        go_wp2_with fail
        go_ret
        exact ⟨ret_bool HF.out.symm, HW.out⟩
      | false =>
        by_cases e4 : t.s.toList = t'.s.toList
        · have hsame := same_l (t := t) (t' := t') (by simpa using e1) (by simpa using e2) (by simpa using e3) (toList_inj e4)
          cases e5 : ((t.l.length : Int) != (t'.l.length : Int)) with
          | true =>
            have HF := Lib.hid (hsame.trans (sameL_len (by simp at e5; omega)))
            clear hsame
            go_enter Tryz.func16, Tryz.ntmps16
            go_wp2_with fail
            go_ret
            exact ⟨ret_bool HF.out.symm, HW.out⟩
          | false =>
            have hll : t.l.length = t'.l.length := by simp at e5; omega
            have HS := Lib.hid hsame
            have HLL := Lib.hid hll
            clear hsame hll
            go_enter Tryz.func16, Tryz.ntmps16
            go_wp2_with fail
            generalize hW0 : ((w.alloc (.cells #[.int .i64 t.kind, .int .i64 t.n, .int .i64 t.x, .string t.s, .slice a t.l.length cap] 26)).alloc (.cells #[.int .i64 t'.kind, .int .i64 t'.n, .int .i64 t'.x, .string t'.s, .slice a' t'.l.length cap'] 26)) = W0 at *
            have hbx := fun w1 (h : Below W0.heap.size W0 w1) => boxes2 (w := w) (w1 := w1) (by rw [hW0]; exact h)
            have HBX := Lib.hid hbx
            have hs0 : W0.heap.size = w.heap.size + 2 := by rw [← hW0]; simp only [World.size_alloc]
            clear hbx hW0
            go_loopw [5] (fun i wr => ∃ j : Nat, j ≤ t.l.length ∧ i = .int .i64 j ∧ Hid (t.l.take j = t'.l.take j) ∧ Hid (Below W0.heap.size W0 wr)) (fun i _ => t.l.length - (intOf i).toNat)
            case atStart => exact ⟨0, by omega, rfl, Lib.hid (by simp), Lib.hid (Below.refl _ _)⟩
            case round =>
              obtain ⟨j, hj, rfl, HT, HBW⟩ := hrel
              obtain ⟨p4, q4⟩ := HBX.out _ HBW.out
              have hszr := HBW.out.size
              have hbw0 : Below w.heap.size w wr := HW.out.trans (HBW.out.mono (by omega))
              by_cases hjl : j < t.l.length
              · have hjl' : j < t'.l.length := by have := HLL.out; omega
                obtain rfl : a = some ⟨b, off, none⟩ := HA.out (by intro h; rw [h] at hjl; simp at hjl)
                obtain rfl : a' = some ⟨b', off', none⟩ := HA'.out (by intro h; rw [h] at hjl'; simp at hjl')
                obtain ⟨x, c0, c1, c2, c3, c4, hsl, hft⟩ := ((HL.out j hjl).kept hbw0).parts
                obtain ⟨x', d0, d1, d2, d3, d4, hsl', hft'⟩ := ((HL'.out j hjl').kept hbw0).parts
                have hih := IH.out t.l[j] (List.getElem_mem hjl) t'.l[j]
                have hst := take_snocS hjl
                have hst' := take_snocS hjl'
                have hat := fun h => sameL_at hjl hjl' h
                generalize t.l[j] = r at *
                generalize t'.l[j] = r' at *
                have HC := Lib.hid (hih wr.drew x x' (hsl.kept (Below.refl _ _).drew) (hsl'.kept (Below.refl _ _).drew) hft hft')
                have HST := Lib.hid hst; have HST' := Lib.hid hst'; have HAT := Lib.hid hat
                clear hih hsl hsl' hft hft' hst hst' hat
                cases hb : sameB r r' with
                | true =>
                  rw [hb] at HC
                  have HRR := Lib.hid (sameB_true.1 hb)
                  clear hb
                  go_wp2_with fail
                  go_still_tail 10, (by kernel_rfl)
                  change wpList _ _ _ _ _ wr.drew
                  go_wp2_with fail
                  refine HC.out.mono ?_
                  rintro _ w1 ⟨rfl, hb1'⟩
                  have hb1 : Below wr.heap.size wr w1 := ⟨hb1'.os, hb1'.tape, hb1'.output, hb1'.size, hb1'.block⟩
                  clear hb1'
                  go_wp2_with fail
                  go_roundw
                  case rel => exact ⟨j + 1, by omega, by go_num, Lib.hid (by rw [HST.out, HST'.out, HT.out, HRR.out]), Lib.hid (HBW.out.trans (hb1.mono hszr))⟩
                  case measure => simp [intOf]; omega
                | false =>
                  rw [hb] at HC
                  have HF := Lib.hid (HS.out.trans (HAT.out hb))
                  clear hb
                  go_wp2_with fail
                  go_still_tail 10, (by kernel_rfl)
                  change wpList _ _ _ _ _ wr.drew
                  go_wp2_with fail
                  refine HC.out.mono ?_
                  rintro _ w1 ⟨rfl, hb1'⟩
                  have hb1 : Below wr.heap.size wr w1 := ⟨hb1'.os, hb1'.tape, hb1'.output, hb1'.size, hb1'.block⟩
                  clear hb1'
                  go_wp2_with fail
                  go_ret
                  exact ⟨ret_bool HF.out.symm, hbw0.trans (hb1.mono hbw0.size)⟩
              · obtain rfl : j = t.l.length := by omega
                have hf : sameL t.l t'.l = true := by
                  have h := HT.out
                  rw [List.take_length] at h
                  rw [HLL.out, List.take_length] at h
                  exact sameL_true.2 h
                have HF := Lib.hid (HS.out.trans hf)
                clear hf
                go_wp2_with fail
                go_ret
                exact ⟨ret_bool HF.out.symm, hbw0⟩
        · have HF := Lib.hid (same_s (t := t) (t' := t') (fun e => e4 (by rw [e])))
          go_enter Tryz.func16, Tryz.ntmps16
          go_wp2_with fail
          go_ret
          exact ⟨ret_bool HF.out.symm, HW.out⟩
theorem sameLaw_c (t : Tree) : SameC 16 t := Tree.ind (p := SameC 16) sameLaw_of t
end Go.Proofs.YtilmhemcpgiikaaGreatDoor
