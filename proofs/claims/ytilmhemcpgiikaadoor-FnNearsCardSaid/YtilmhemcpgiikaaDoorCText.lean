/- DecText: both write the same text. -/
import Derived.Test.YtilmhemcpgiikaaDoorCDec
import Derived.Test.YtilmhemcpgiikaaDoorCTwo
import Derived.Test.YtilmhemcpgiikaaDoorMText
namespace Go.Proofs.YtilmhemcpgiikaaDoor
open Go.Deep Go.ChangeShapes Go.WideShapes Go.ChangeAt Go.RowKit
open Go.ChangeMaps (open_string shut_string)

theorem drewN_belowT {B : Nat} {w w' : World} (h : Below B w w') (k : Nat) : Below B w (w'.drewN k) := ⟨h.os, h.tape, h.output, h.size, h.block⟩
def strLen : Value → Nat
  | .string s => s.size
  | _ => 0
theorem strLen_mk (l : List UInt8) : strLen (.string ⟨l.toArray⟩) = l.length := by simp [strLen, ByteArray.size]
def decTextS (n x : Int) : ByteArray := ⟨(decTextL n x).toArray⟩

theorem pointed_str (sg l : List UInt8) (p k : Nat) (hp : l.length = p + k) :
    ({ data := sg.toArray } : ByteArray) ++ ({ data := l.toArray } : ByteArray).extract 0 p ++ { data := #[46] } ++ ({ data := l.toArray } : ByteArray).extract p (p + k) = { data := (sg ++ (l.take (l.length - k) ++ 46 :: l.drop (l.length - k))).toArray } := by
  apply ByteArray.ext
  rw [hp, Nat.add_sub_cancel]
  simp only [ByteArray.data_append, ByteArray.data_extract]
  apply Array.ext'
  simp [← hp]
  exact List.take_of_length_le (by simp)
theorem pointed_str0 (l : List UInt8) (p k : Nat) (hp : l.length = p + k) :
    ({ data := l.toArray } : ByteArray).extract 0 p ++ { data := #[46] } ++ ({ data := l.toArray } : ByteArray).extract p (p + k) = { data := ([] ++ (l.take (l.length - k) ++ 46 :: l.drop (l.length - k))).toArray } := by
  rw [← pointed_str [] l p k hp]
  apply ByteArray.ext
  simp
theorem pointed_neg {n : Int} (h : n < 0) (k : Nat) (l : List UInt8) : pointed n k l = [45] ++ (l.take (l.length - k) ++ 46 :: l.drop (l.length - k)) := by unfold pointed; rw [if_pos h]
theorem pointed_pos {n : Int} (h : ¬ n < 0) (k : Nat) (l : List UInt8) : pointed n k l = [] ++ (l.take (l.length - k) ++ 46 :: l.drop (l.length - k)) := by unfold pointed; rw [if_neg h]

set_option maxRecDepth 100000 in
set_option maxHeartbeats 2000000 in
theorem decText_spec (n x : Int) (w : World) (h1 : -9223372036854775808 ≤ n) (h2 : n ≤ 9223372036854775807) :
    Calls Tryd.prog 32 #[.agg #[.int .i64 n, .int .i64 x]] w fun e w' => e = .returned (.string (decTextS n x)) ∧ Below w.heap.size w w' := by
  have H1 := Lib.hid (fun w => decOk_spec n x w h1 h2)
  have H2 := Lib.hid (fun w => numText_spec n w h1 h2)
  cases hk : decOkB n x with
  | false =>
    have hs : decTextS n x = { data := #[] } := by unfold decTextS; rw [decTextL_no hk]
    rw [hs]
    rw [hk] at H1
    clear hs H2
    go_enter Tryd.func32, Tryd.ntmps32
    go_wp2_with fail
    refine (H1.out _).mono ?_
    rintro _ w1 ⟨rfl, b1⟩
    go_wp2_with fail
    go_ret
    exact ⟨rfl, nx (below1 _ _) b1⟩
  | true =>
  by_cases h0 : x = 0
  · subst h0
    have hs : decTextS n 0 = numS n := by unfold decTextS; rw [decTextL_int hk]; rfl
    rw [hs]
    rw [hk] at H1
    clear hs
    generalize numS n = S at *
    go_enter Tryd.func32, Tryd.ntmps32
    go_wp2_with fail
    refine (H1.out _).mono ?_
    rintro _ w1 ⟨rfl, b1⟩
    obtain ⟨c0, c1, _⟩ := two_num b1 (one_block w _)
    go_wp2_with fail
    refine (H2.out _).mono ?_
    rintro _ w2 ⟨rfl, b2⟩
    go_wp2_with fail
    go_ret
    exact ⟨rfl, nx (nx (below1 _ _) b1) b2⟩
  · have hrg : -16 ≤ x ∧ x ≤ -1 := by
      rcases decOkB_iff.1 hk with ⟨h, _⟩ | ⟨a, b, _⟩
      · exact absurd h h0
      · exact ⟨a, b⟩
    have hd17 : dgs n ≤ 17 := by
      rcases decOkB_iff.1 hk with ⟨h, _⟩ | ⟨_, _, a, b, _⟩
      · exact absurd h h0
      · exact dgs_17.2 ⟨a, b⟩
    obtain ⟨k, rfl⟩ : ∃ k : Nat, x = -(k : Int) := ⟨(-x).toNat, by omega⟩
    have hk1 : 1 ≤ k := by omega
    have hk16 : k ≤ 16 := by omega
    have hs : decTextS n (-(k : Int)) = ⟨(pointed n k (padZ (1 + k) (Lib.decDigits n.natAbs))).toArray⟩ := by unfold decTextS; rw [decTextL_pt hk h0 rfl]
    have hx0 : (-(k : Int) == 0) = false := by simp; omega
    have hx1 : ¬ k = 0 := by omega
    rw [hs]
    rw [hk] at H1
    have hdl : (Lib.decDigits n.natAbs).length ≤ 17 := by rw [Lib.decDigits_length]; exact hd17
    have HS := Lib.hid hs
    clear hs hrg hd17 h0 HS hk
    by_cases hn : n < 0
    · have hsz : (numS n).size = (Lib.decDigits n.natAbs).length + 1 := by rw [numS_size, if_pos hn, Lib.decDigits_length]; rfl
      have hex : (numS n).extract 1 ((Lib.decDigits n.natAbs).length + 1) = ⟨(Lib.decDigits n.natAbs).toArray⟩ := by
        apply ByteArray.ext
        rw [ByteArray.data_extract]
        unfold numS
        rw [itoa_neg hn]
        simp
      generalize numS n = S at *
      generalize Lib.decDigits n.natAbs = D at *
      have HSZ := Lib.hid hsz
      go_enter Tryd.func32, Tryd.ntmps32
      go_wp2_with fail
      refine (H1.out _).mono ?_
      rintro _ w1 ⟨rfl, b1⟩
      obtain ⟨c0, c1, _⟩ := two_num b1 (one_block w _)
      go_wp2_with fail
      refine (H2.out _).mono ?_
      rintro _ w2 ⟨rfl, b2⟩
      clear c0 c1
      obtain ⟨c0, c1, _⟩ := two_num (nx b1 b2) (one_block w _)
      have t2 := nx b1 b2
      go_wp2_with fail
      clear hex hsz
      go_loop [3] (fun s => ∃ l : List UInt8, s = .string ⟨l.toArray⟩ ∧ padZ (1 + k) l = padZ (1 + k) D ∧ l.length ≤ 17) (fun s => 40 - strLen s)
      case atStart => exact ⟨D, rfl, rfl, hdl⟩
      case round =>
        obtain ⟨l, rfl, hpad, hl⟩ := hrel
        have hch : ({ data := #[48] } : ByteArray).size = 1 := rfl
        by_cases hlt : l.length < 1 + k
        · have hpn := (padZ_step hlt).trans hpad
          have hm := strLen_mk l
          have hm2 := strLen_mk (48 :: l)
          have HPN := Lib.hid hpn; have HM := Lib.hid hm; have HM2 := Lib.hid hm2
          have hd1 : (l.length : Int) < 1 + (k : Int) := by omega
          clear hpad hpn hm hm2
          go_wp2_with fail
          rw [str_cons]
          go_round
          case rel => exact ⟨48 :: l, rfl, HPN.out, by simp; omega⟩
          case measure =>
            show 40 - strLen (.string ⟨(48 :: l).toArray⟩) < 40 - strLen (.string ⟨l.toArray⟩)
            rw [HM.out, HM2.out, List.length_cons]; omega
        · have hl2 : padZ (1 + k) D = l := by rw [← hpad]; exact padZ_done (by omega)
          rw [hl2]
          obtain ⟨p, hp⟩ : ∃ p, l.length = p + k := ⟨l.length - k, by omega⟩
          have hp1 : 1 ≤ p := by omega
          have hge : ¬ (l.length : Int) < 1 + (k : Int) := by omega
          have hsum : (p : Int) + (k : Int) + -(k : Int) = p := by omega
          have HL2 := Lib.hid hl2
          clear hpad hl2
          go_wp2_with fail
          go_quiet (fail)
          go_wp2_with fail
          go_ret
          refine ⟨ret_str ?_, drewN_belowT (nx (below1 _ _) t2) _⟩
          rw [HL2.out, pointed_neg hn]
          exact pointed_str [45] l p k hp
    · have hsz : (numS n) = ⟨(Lib.decDigits n.natAbs).toArray⟩ := by unfold numS; rw [itoa_pos (by omega)]
      rw [hsz] at H2
      clear hsz
      generalize Lib.decDigits n.natAbs = D at *
      go_enter Tryd.func32, Tryd.ntmps32
      go_wp2_with fail
      refine (H1.out _).mono ?_
      rintro _ w1 ⟨rfl, b1⟩
      obtain ⟨c0, c1, _⟩ := two_num b1 (one_block w _)
      go_wp2_with fail
      refine (H2.out _).mono ?_
      rintro _ w2 ⟨rfl, b2⟩
      clear c0 c1
      obtain ⟨c0, c1, _⟩ := two_num (nx b1 b2) (one_block w _)
      have t2 := nx b1 b2
      go_wp2_with fail
      go_loop [3] (fun s => ∃ l : List UInt8, s = .string ⟨l.toArray⟩ ∧ padZ (1 + k) l = padZ (1 + k) D ∧ l.length ≤ 17) (fun s => 40 - strLen s)
      case atStart => exact ⟨D, rfl, rfl, hdl⟩
      case round =>
        obtain ⟨l, rfl, hpad, hl⟩ := hrel
        have hch : ({ data := #[48] } : ByteArray).size = 1 := rfl
        by_cases hlt : l.length < 1 + k
        · have hpn := (padZ_step hlt).trans hpad
          have hm := strLen_mk l
          have hm2 := strLen_mk (48 :: l)
          have HPN := Lib.hid hpn; have HM := Lib.hid hm; have HM2 := Lib.hid hm2
          have hd1 : (l.length : Int) < 1 + (k : Int) := by omega
          clear hpad hpn hm hm2
          go_wp2_with fail
          rw [str_cons]
          go_round
          case rel => exact ⟨48 :: l, rfl, HPN.out, by simp; omega⟩
          case measure =>
            show 40 - strLen (.string ⟨(48 :: l).toArray⟩) < 40 - strLen (.string ⟨l.toArray⟩)
            rw [HM.out, HM2.out, List.length_cons]; omega
        · have hl2 : padZ (1 + k) D = l := by rw [← hpad]; exact padZ_done (by omega)
          rw [hl2]
          obtain ⟨p, hp⟩ : ∃ p, l.length = p + k := ⟨l.length - k, by omega⟩
          have hp1 : 1 ≤ p := by omega
          have hge : ¬ (l.length : Int) < 1 + (k : Int) := by omega
          have hsum : (p : Int) + (k : Int) + -(k : Int) = p := by omega
          have HL2 := Lib.hid hl2
          clear hpad hl2
          go_wp2_with fail
          go_quiet (fail)
          go_wp2_with fail
          go_ret
          refine ⟨ret_str ?_, drewN_belowT (nx (below1 _ _) t2) _⟩
          rw [HL2.out, pointed_pos (by omega)]
          exact pointed_str [] l p k hp

theorem cut_minus (n : Int) : Lib.trimPrefix (Lib.itoa n) [45] = Lib.decDigits n.natAbs ∧ Lib.hasPrefix (Lib.itoa n) [45] = decide (n < 0) := by
  refine ⟨trim_minus n, ?_⟩
  by_cases h : n < 0
  · rw [itoa_neg h, decide_eq_true h]
    simp [Lib.hasPrefix, List.isPrefixOf]
  · rw [itoa_pos (by omega), decide_eq_false h]
    obtain ⟨c, l, e, h1, h2⟩ := decDigits_head n.natAbs
    rw [e]
    have : (45 == c) = false := by
      rw [beq_eq_false_iff_ne]
      intro hc; subst hc; simp at h1
    simp [Lib.hasPrefix, List.isPrefixOf, this]

set_option maxRecDepth 100000 in
set_option maxHeartbeats 4000000 in
theorem decText_impl (n x : Int) (w : World) (hL : LaidP w) (h1 : -9223372036854775808 ≤ n) (h2 : n ≤ 9223372036854775807) :
    Calls Tryd.prog 31 #[.agg #[.int .i64 n, .int .i64 x]] w fun e w' => e = .returned (.string (decTextS n x)) ∧ Below w.heap.size w w' := by
  have H1 := Lib.hid (fun w1 (hb : Below w.heap.size w w1) => decOk_impl n x w1 (hL.kept hb) h1 h2)
  have H2 := Lib.hid (fun w1 (hb : Below w.heap.size w w1) => numText_impl n w1 (hL.kept hb) h1 h2)
  clear hL
  cases hk : decOkB n x with
  | false =>
    have hs : decTextS n x = { data := #[] } := by unfold decTextS; rw [decTextL_no hk]
    rw [hs]
    rw [hk] at H1
    clear hs
    generalize numS n = S at *
    go_enter Tryd.func31, Tryd.ntmps31
    go_wp2_with fail
    refine (H2.out _ (below1 _ _)).mono ?_
    rintro _ w1 ⟨rfl, b1⟩
    obtain ⟨c0, c1, _⟩ := two_num b1 (one_block w _)
    go_wp2_with fail
    refine (H1.out _ (nx (below1 _ _) b1)).mono ?_
    rintro _ w2 ⟨rfl, b2⟩
    go_wp2_with fail
    go_ret
    exact ⟨rfl, nx (nx (below1 _ _) b1) b2⟩
  | true =>
  by_cases h0 : x = 0
  · subst h0
    have hs : decTextS n 0 = numS n := by unfold decTextS; rw [decTextL_int hk]; rfl
    rw [hs]
    rw [hk] at H1
    clear hs
    generalize numS n = S at *
    go_enter Tryd.func31, Tryd.ntmps31
    go_wp2_with fail
    refine (H2.out _ (below1 _ _)).mono ?_
    rintro _ w1 ⟨rfl, b1⟩
    obtain ⟨c0, c1, _⟩ := two_num b1 (one_block w _)
    go_wp2_with fail
    refine (H1.out _ (nx (below1 _ _) b1)).mono ?_
    rintro _ w2 ⟨rfl, b2⟩
    clear c0 c1
    obtain ⟨c0, c1, _⟩ := two_num (nx b1 b2) (one_block w _)
    go_wp2_with fail
    go_ret
    exact ⟨rfl, nx (nx (below1 _ _) b1) b2⟩
  · have hrg : -16 ≤ x ∧ x ≤ -1 := by
      rcases decOkB_iff.1 hk with ⟨h, _⟩ | ⟨a, b, _⟩
      · exact absurd h h0
      · exact ⟨a, b⟩
    have hd17 : dgs n ≤ 17 := by
      rcases decOkB_iff.1 hk with ⟨h, _⟩ | ⟨_, _, a, b, _⟩
      · exact absurd h h0
      · exact dgs_17.2 ⟨a, b⟩
    obtain ⟨k, rfl⟩ : ∃ k : Nat, x = -(k : Int) := ⟨(-x).toNat, by omega⟩
    have hk1 : 1 ≤ k := by omega
    have hk16 : k ≤ 16 := by omega
    have hs : decTextS n (-(k : Int)) = ⟨(pointed n k (padZ (1 + k) (Lib.decDigits n.natAbs))).toArray⟩ := by unfold decTextS; rw [decTextL_pt hk h0 rfl]
    have hx0 : (-(k : Int) == 0) = false := by simp; omega
    have hx1 : ¬ k = 0 := by omega
    rw [hs]
    rw [hk] at H1
    have hdl : (Lib.decDigits n.natAbs).length ≤ 17 := by rw [Lib.decDigits_length]; exact hd17
    have hcp : ∀ w, Calls Tryd.prog 100 #[.string (numS n), .string { data := #[45] }] w fun e w' => e = .returned (.tuple #[.string ⟨(Lib.decDigits n.natAbs).toArray⟩, .bool (decide (n < 0))]) ∧ w' = w := by
      intro w
      have := Tryd.strings_CutPrefix (numS n) { data := #[45] } w
      have e1 : Lib.trimPrefix (numS n).data.toList ({ data := #[45] } : ByteArray).data.toList = Lib.decDigits n.natAbs := (cut_minus n).1
      have e2 : Lib.hasPrefix (numS n).data.toList ({ data := #[45] } : ByteArray).data.toList = decide (n < 0) := (cut_minus n).2
      rw [e1, e2] at this
      exact this
    have HC := Lib.hid hcp
    clear hs hrg hd17 h0 hk hcp
    generalize numS n = S at *
    generalize Lib.decDigits n.natAbs = D at *
    go_enter Tryd.func31, Tryd.ntmps31
    go_wp2_with fail
    refine (H2.out _ (below1 _ _)).mono ?_
    rintro _ w1 ⟨rfl, b1⟩
    obtain ⟨c0, c1, _⟩ := two_num b1 (one_block w _)
    go_wp2_with fail
    refine (H1.out _ (nx (below1 _ _) b1)).mono ?_
    rintro _ w2 ⟨rfl, b2⟩
    clear c0 c1
    obtain ⟨c0, c1, _⟩ := two_num (nx b1 b2) (one_block w _)
    have t2 := nx b1 b2
    go_wp2_with fail
    refine (HC.out _).mono ?_
    rintro _ _ ⟨rfl, rfl⟩
    go_wp2_with fail
    go_loop [4] (fun s => ∃ l : List UInt8, s = .string ⟨l.toArray⟩ ∧ padZ (1 + k) l = padZ (1 + k) D ∧ l.length ≤ 17) (fun s => 40 - strLen s)
    case atStart => exact ⟨D, rfl, rfl, hdl⟩
    case round =>
      obtain ⟨l, rfl, hpad, hl⟩ := hrel
      have hch : ({ data := #[48] } : ByteArray).size = 1 := rfl
      by_cases hlt : l.length < 1 + k
      · have hpn := (padZ_step hlt).trans hpad
        have hm := strLen_mk l
        have hm2 := strLen_mk (48 :: l)
        have HPN := Lib.hid hpn; have HM := Lib.hid hm; have HM2 := Lib.hid hm2
        have hd1 : (l.length : Int) ≤ (k : Int) := by omega
        have hd2 : l.length ≤ k := by omega
        clear hpad hpn hm hm2
        go_wp2_with fail
        rw [str_cons]
        go_round
        case rel => exact ⟨48 :: l, rfl, HPN.out, by simp; omega⟩
        case measure =>
          show 40 - strLen (.string ⟨(48 :: l).toArray⟩) < 40 - strLen (.string ⟨l.toArray⟩)
          rw [HM.out, HM2.out, List.length_cons]; omega
      · have hl2 : padZ (1 + k) D = l := by rw [← hpad]; exact padZ_done (by omega)
        obtain ⟨p, hp⟩ : ∃ p, l.length = p + k := ⟨l.length - k, by omega⟩
        have hp1 : 1 ≤ p := by omega
        have hge : ¬ (l.length : Int) ≤ (k : Int) := by omega
        have hge2 : ¬ p = 0 := by omega
        have hsum : (p : Int) + (k : Int) + -(k : Int) = p := by omega
        have HL2 := Lib.hid hl2
        clear hpad hl2
        by_cases hn : n < 0
        · have hdn : decide (n < 0) = true := decide_eq_true hn
          go_wp2_with fail
          go_quiet (fail)
          go_wp2_with fail
          go_ret
          refine ⟨ret_str ?_, drewN_belowT (nx (below1 _ _) t2) _⟩
          rw [HL2.out, pointed_neg hn, ← pointed_str [45] l p k hp]
          apply ByteArray.ext
          simp
        · have hdn : decide (n < 0) = false := decide_eq_false hn
          go_wp2_with fail
          go_quiet (fail)
          go_wp2_with fail
          go_ret
          refine ⟨ret_str ?_, drewN_belowT (nx (below1 _ _) t2) _⟩
          rw [HL2.out, pointed_pos (by omega)]
          exact pointed_str0 l p k hp
end Go.Proofs.YtilmhemcpgiikaaDoor
