/- GetRune of the program. -/
import Derived.Test.YtcagcjkhjfbbpaaDoorCGetRune2
import Derived.Test.YtcagcjkhjfbbpaaDoorMGet
import Derived.Test.YtcagcjkhjfbbpaaDoorFrameU
import Derived.Test.YtcagcjkhjfbbpaaDoorShelf
namespace Go.Proofs.YtcagcjkhjfbbpaaDoor
open Go.Deep Go.ChangeShapes Go.WideShapes Go.ChangeAt Go.RowKit
open Go.ChangeMaps (open_string shut_string)

theorem size_bytes (w : World) : (sizeOf (Tryd.prog.elem 22)).run Tryd.prog w = .ok 1 w := by kernel_rfl

/-- What runeAt answers at a text's beginning. -/
def headF (l : List UInt8) : Int × Int := if Lib.decodeL l = (65533, 1) then (0, 0) else ((Lib.decodeL l).1, (Lib.decodeL l).2)

set_option maxRecDepth 100000 in
set_option maxHeartbeats 2000000 in
theorem runeAt_c (l : List UInt8) (w : World) (hne : l ≠ []) (hlen : l.length ≤ 1048576) (hL : Laid w) :
    Calls Tryd.prog 47 #[.string ⟨l.toArray⟩, .int .i64 0] w fun e w' => e = .returned (.tuple #[.int .i64 (headF l).1, .int .i64 (headF l).2]) ∧ Below w.heap.size w w' := by
  have hl : 0 < l.length := List.length_pos_iff.2 hne
  have hsz : (⟨l.toArray⟩ : ByteArray).size = l.length := by simp [ByteArray.size]
  have hgo : Lib.decodeGo ⟨l.toArray⟩ = Lib.decodeL l := by unfold Lib.decodeGo; rw [if_neg (by omega)]; rfl
  have hex : (⟨l.toArray⟩ : ByteArray).extract 0 l.length = ⟨l.toArray⟩ := by rw [← hsz]; simp
  have hC := Tryd.utf8_DecodeRuneInString ⟨l.toArray⟩ w hL
  rw [hgo] at hC
  have hr := Lib.decodeL_rune l
  have hw := Lib.decodeL_width l
  have hle := dec_le l hne
  have hin : inB 0 0 ((l.length : Int) - 1) = true := inB_true.2 (by omega)
  have hwl : IntKind.i64.wrap ((l.length : Int) - 1) = (l.length : Int) - 1 := wrap_mid (by omega) (by omega)
  obtain ⟨R, hR⟩ : ∃ R, R = (Lib.decodeL l).1 := ⟨_, rfl⟩
  obtain ⟨K, hK⟩ : ∃ K, K = (Lib.decodeL l).2 := ⟨_, rfl⟩
  rw [← hR, ← hK] at hC
  rw [← hR] at hr
  rw [← hK] at hw hle
  have hF : headF l = if R = 65533 ∧ K = 1 then (0, 0) else ((R : Int), (K : Int)) := by
    unfold headF
    rw [hR, hK]
    by_cases h : Lib.decodeL l = (65533, 1)
    · rw [if_pos h, if_pos (by rw [h]; simp)]
    · rw [if_neg h, if_neg (fun h' => h (Prod.ext h'.1 h'.2))]
  clear hR hK hgo
  have hwr : IntKind.i64.wrap (R : Int) = R := wrap_mid (by omega) (by omega)
  have hwk : IntKind.i64.wrap (0 + (K : Int)) = K := (wrap_mid (by omega) (by omega)).trans (by omega)
  have hwk2 : IntKind.i64.wrap (K : Int) = K := wrap_mid (by omega) (by omega)
  have HF := Lib.hid hF; clear hF
  have HC := Lib.hid hC; clear hC
  have HL := Lib.hid hL; clear hL
  generalize (⟨l.toArray⟩ : ByteArray) = s at *
  by_cases c1 : R = 65533
  · have d1 : ((R : Int) == 65533) = true := by simp; omega
    by_cases c2 : K = 1
    · have d2 : decide ((K : Int) ≤ 1) = true := decide_eq_true (by omega)
      have hA := HF.out
      rw [if_pos ⟨c1, c2⟩] at hA
      have HA := Lib.hid hA; clear hA HF c1 c2
      go_enter Tryd.func47, Tryd.ntmps47
      go_wp2_with (first | (go_at_call 46; refine (within_c _ _ _ _).mono ?_; rintro e w' ⟨rfl, rfl⟩) | (go_at_call 58; (try rw [hex]); refine HC.out.mono ?_; rintro e w' ⟨rfl, hb⟩))
      refine bodyPost_ret (v := .tuple #[.int .i64 0, .int .i64 0]) (by simp [results, Tryd.results47, go_sem]) rfl ⟨by rw [HA.out], hb⟩
    · have d2 : decide ((K : Int) ≤ 1) = false := decide_eq_false (by omega)
      have hA := HF.out
      rw [if_neg (fun h => c2 h.2)] at hA
      have HA := Lib.hid hA; clear hA HF c1 c2
      go_enter Tryd.func47, Tryd.ntmps47
      go_wp2_with (first | (go_at_call 46; refine (within_c _ _ _ _).mono ?_; rintro e w' ⟨rfl, rfl⟩) | (go_at_call 58; (try rw [hex]); refine HC.out.mono ?_; rintro e w' ⟨rfl, hb⟩))
      refine bodyPost_ret (v := .tuple #[.int .i64 R, .int .i64 K]) (by simp [results, Tryd.results47, go_sem]) rfl ⟨by rw [HA.out], hb⟩
  · have d1 : ((R : Int) == 65533) = false := by simp; omega
    have hA := HF.out
    rw [if_neg (fun h => c1 h.1)] at hA
    have HA := Lib.hid hA; clear hA HF c1
    go_enter Tryd.func47, Tryd.ntmps47
    go_wp2_with (first | (go_at_call 46; refine (within_c _ _ _ _).mono ?_; rintro e w' ⟨rfl, rfl⟩) | (go_at_call 58; (try rw [hex]); refine HC.out.mono ?_; rintro e w' ⟨rfl, hb⟩))
    refine bodyPost_ret (v := .tuple #[.int .i64 R, .int .i64 K]) (by simp [results, Tryd.results47, go_sem]) rfl ⟨by rw [HA.out], hb⟩

theorem getV_head (l : List UInt8) (p : Nat) (hp : p < l.length) :
    getV (bz l) p = if (headF ((l.drop p).take 4)).2 = 0 then (0, 0, false) else ((headF ((l.drop p).take 4)).1, (p : Int) + (headF ((l.drop p).take 4)).2, true) := by
  rw [getV_L l p hp]
  unfold headF
  rw [decodeL_take]
  have hw := Lib.decodeL_width (l.drop p)
  by_cases h : Lib.decodeL (l.drop p) = (65533, 1)
  · rw [if_pos h, if_pos h, if_pos rfl]
  · rw [if_neg h, if_neg h, if_neg (by simp only; omega)]

set_option maxRecDepth 100000 in
set_option maxHeartbeats 2000000 in
theorem getRune_impl (l : List UInt8) (a : Option Addr) (cap : Nat) (p : Int) (w : World) (hr : Rd w .u8 a (bz l)) (hlen : l.length ≤ 1048576) (hcap : l.length ≤ cap) (hL : Laid w) (hpi : -9223372036854775808 ≤ p ∧ p ≤ 9223372036854775807) :
    Calls Tryd.prog 10 #[.slice a l.length cap, .int .i64 p] w fun e w' => e = .returned (.tuple #[.int .i64 (getV (bz l) p).1, .int .i64 (getV (bz l) p).2.1, .bool (getV (bz l) p).2.2]) ∧ Below w.heap.size w w' := by
  have hwl : IntKind.i64.wrap ((l.length : Int) - 1) = (l.length : Int) - 1 := wrap_mid (by omega) (by omega)
  cases hin : inB p 0 ((l.length : Int) - 1) with
  | false =>
    have hn : getV (bz l) p = (0, 0, false) := getV_no (by rw [bz_length]; have := inB_false.1 hin; omega)
    have HN := Lib.hid hn; clear hn hr
    go_enter Tryd.func10, Tryd.ntmps10
    go_wp2_with (first | (go_at_call 46; refine (within_c _ _ _ _).mono ?_; rintro e w' ⟨rfl, rfl⟩))
    refine bodyPost_ret (v := .tuple #[.int .i64 0, .int .i64 0, .bool false]) (by simp [results, Tryd.results10, go_sem]) rfl ⟨by rw [HN.out], Below.refl _ _⟩
  | true =>
    obtain ⟨h0, h1⟩ := inB_true.1 hin
    obtain ⟨q, rfl⟩ : ∃ q : Nat, p = q := ⟨p.toNat, by omega⟩
    have hq : q < l.length := by omega
    obtain ⟨n, hn⟩ : ∃ n : Nat, n = min 4 (l.length - q) := ⟨_, rfl⟩
    have htk : (l.drop q).take n = (l.drop q).take 4 := by
      rw [hn]
      by_cases h4 : 4 ≤ l.length - q
      · rw [Nat.min_eq_left h4]
      · rw [Nat.min_eq_right (by omega), List.take_of_length_le (by simp), List.take_of_length_le (by simp; omega)]
    have hnl : ((l.drop q).take n).length = n := by simp; omega
    have hcut := fun w => run_cut (P := Tryd.prog) 22 Tryd.underlying22 size_bytes a l.length cap q n (by omega) w
    have hrd := rd_cut hr cap q n (by rw [bz_length]; omega) (by rw [bz_length]; exact hcap)
    have hbz : ((bz l).drop q).take n = bz ((l.drop q).take n) := by simp [bz, List.map_drop, List.map_take]
    rw [hbz] at hrd
    have hG := getV_head l q hq
    rw [← htk] at hG
    have hmin : min (l.length : Int) ((q : Int) + 4) = (q : Int) + (n : Int) := by omega
    have hw4 : IntKind.i64.wrap ((q : Int) + 4) = (q : Int) + 4 := wrap_mid (by omega) (by omega)
    have hstr := run_str (P := Tryd.prog) Tryd.underlying22 Tryd.underlying5 Tryd.underlying9 (c := cap - q) (n := n) (l := (l.drop q).take n) hnl.symm (w := w) (a := cutA a cap q) hrd
    have hC := runeAt_c ((l.drop q).take n) w (by intro h; rw [h] at hnl; simp at hnl; omega) (by omega) hL
    have hhb : 0 ≤ (headF ((l.drop q).take n)).2 ∧ (headF ((l.drop q).take n)).2 ≤ 4 := by
      unfold headF
      have := dec_le ((l.drop q).take n) (by intro h; rw [h] at hnl; simp at hnl; omega)
      split
      · simp
      · simp only; omega
    have hqn : q + n ≤ l.length := by omega
    have hqc : (cap = q) = False := by simp; omega
    have HC := Lib.hid hC; have HG := Lib.hid hG; clear hn hC hG htk hnl hrd hbz hr hL
    generalize (headF ((l.drop q).take n)) = hd at *
    obtain ⟨H1, H2⟩ := hd
    simp only at hhb
    generalize (⟨((l.drop q).take n).toArray⟩ : ByteArray) = s at *
    generalize cutA a cap q = a' at *
    have hwe : IntKind.i64.wrap ((q : Int) + H2) = (q : Int) + H2 := wrap_mid (by omega) (by omega)
    by_cases c : H2 = 0
    · have hA := HG.out
      rw [if_pos c] at hA
      have HA := Lib.hid hA; clear hA HG
      subst c
      go_enter Tryd.func10, Tryd.ntmps10
      go_wp2_with (first | (go_at_call 46; refine (within_c _ _ _ _).mono ?_; rintro e w' ⟨rfl, rfl⟩) | (go_at_call 47; refine HC.out.mono ?_; rintro e w' ⟨rfl, hb⟩))
      refine bodyPost_ret (v := .tuple #[.int .i64 0, .int .i64 0, .bool false]) (by simp [results, Tryd.results10, go_sem]) rfl ⟨by rw [HA.out], hb⟩
    · have hA := HG.out
      rw [if_neg c] at hA
      have HA := Lib.hid hA; clear hA HG
      have d : (H2 == 0) = false := by simp; exact c
      clear c
      go_enter Tryd.func10, Tryd.ntmps10
      go_wp2_with (first | (go_at_call 46; refine (within_c _ _ _ _).mono ?_; rintro e w' ⟨rfl, rfl⟩) | (go_at_call 47; refine HC.out.mono ?_; rintro e w' ⟨rfl, hb⟩))
      refine bodyPost_ret (v := .tuple #[.int .i64 H1, .int .i64 ((q : Int) + H2), .bool true]) (by simp [results, Tryd.results10, go_sem]) rfl ⟨by rw [HA.out], hb⟩
end Go.Proofs.YtcagcjkhjfbbpaaDoor
