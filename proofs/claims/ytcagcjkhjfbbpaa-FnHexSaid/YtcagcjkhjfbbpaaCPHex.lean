/- ParseHex: both read the same bytes. -/
import Derived.Test.YtcagcjkhjfbbpaaCHex
import Derived.Test.YtcagcjkhjfbbpaaShelf
namespace Go.Proofs.Ytcagcjkhjfbbpaa
open Go.Deep Go.ChangeShapes Go.WideShapes Go.ChangeAt Go.RowKit
open Go.ChangeMaps (open_string shut_string)


theorem quiet_eq {P : Program} {f : FuncId} {args : Array Value} {w : World} {n : Nat} {v : Value}
    (h : Calls P f args (w.drewN n) fun e w' => e = .returned v ∧ w.drewN n = w') : Calls P f args (w.drewN n) fun e w'' => e = .returned v ∧ ∃ m, w'' = w.drewN m :=
  h.mono fun _ _ ⟨he, hm⟩ => ⟨he, n, hm.symm⟩
/-- The number of a hexadecimal digit, -1 if it is none. -/
def hexV (n : Int) : Int := if 48 ≤ n ∧ n ≤ 57 then n - 48 else if 97 ≤ n ∧ n ≤ 102 then n - 87 else -1
theorem hexV_bd (n : Int) : -1 ≤ hexV n ∧ hexV n ≤ 15 := by unfold hexV; split <;> (try split) <;> omega
def parseX : List UInt8 → Option (List UInt8)
  | [] => some []
  | [_] => none
  | a :: b :: l => if hexV a.toNat < 0 ∨ hexV b.toNat < 0 then none else (parseX l).map (UInt8.ofNat (16 * hexV a.toNat + hexV b.toNat).toNat :: ·)
def parseS (s : ByteArray) : ByteArray := match parseX s.data.toList with | some l => ⟨l.toArray⟩ | none => ⟨#[]⟩
def parseB (s : ByteArray) : Bool := (parseX s.data.toList).isSome
theorem drop_two {l : List UInt8} {i : Nat} (h : i + 1 < l.length) : l.drop i = l[i] :: l[i + 1] :: l.drop (i + 2) := by
  rw [List.drop_eq_getElem_cons (by omega), List.drop_eq_getElem_cons (by omega)]
theorem parse_odd : ∀ l : List UInt8, l.length % 2 = 1 → parseX l = none
  | [], h => by simp at h
  | [_], _ => rfl
  | a :: b :: l, h => by
    rw [parseX, parse_odd l (by simp at h; omega)]
    split <;> rfl
theorem l3Hex_c (b : Int) (w : World) (h0 : 0 ≤ b) (h1 : b < 256) :
    Calls Try.prog 41 #[.int .u8 b] w fun e w' => e = .returned (.int .i64 (hexV b)) ∧ w = w' := by
  cases c1 : inB b 48 57 with
  | true =>
    have q := inB_true.1 c1
    have hf : hexV b = b - 48 := by unfold hexV; rw [if_pos q]
    rw [hf]; clear hf
    go_enter Try.func41, Try.ntmps41
    go_wp2_with (go_at_call 47; refine (l1In_c _ _ _ _).mono ?_; rintro e w' ⟨rfl, rfl⟩)
    go_ret; exact ⟨rfl, rfl⟩
  | false =>
    have q := inB_false.1 c1
    cases c2 : inB b 97 102 with
    | true =>
      have q2 := inB_true.1 c2
      have hf : hexV b = b - 97 + 10 := by unfold hexV; rw [if_neg (by omega), if_pos q2]; omega
      rw [hf]; clear hf q
      obtain ⟨q3, q4⟩ := q2
      go_enter Try.func41, Try.ntmps41
      go_wp2_with (go_at_call 47; refine (l1In_c _ _ _ _).mono ?_; rintro e w' ⟨rfl, rfl⟩)
      go_ret; exact ⟨rfl, rfl⟩
    | false =>
      have q2 := inB_false.1 c2
      have hf : hexV b = -1 := by unfold hexV; rw [if_neg (by omega), if_neg (by omega)]
      rw [hf]; clear hf q q2
      go_enter Try.func41, Try.ntmps41
      go_wp2_with (go_at_call 47; refine (l1In_c _ _ _ _).mono ?_; rintro e w' ⟨rfl, rfl⟩)
      go_ret; exact ⟨rfl, rfl⟩
theorem indexByte_hex : ∀ k : Fin 256, Lib.indexByte [48, 49, 50, 51, 52, 53, 54, 55, 56, 57, 97, 98, 99, 100, 101, 102] (UInt8.ofNat k.val) = hexV (k.val : Int) := by decide +kernel
theorem hexIdx_c (b : Int) (w : World) (h0 : 0 ≤ b) (h1 : b < 256) :
    Calls Try.prog 40 #[.string { data := #[48, 49, 50, 51, 52, 53, 54, 55, 56, 57, 97, 98, 99, 100, 101, 102] }, .int .u8 b] w fun e w' => e = .returned (.int .i64 (hexV b)) ∧ w = w' := by
  refine (Try.strings_IndexByte _ _ _).mono ?_
  rintro e w' ⟨rfl, rfl⟩
  refine ⟨ret_int ?_, rfl⟩
  have := indexByte_hex ⟨b.toNat, by omega⟩
  simp only [Int.toNat_of_nonneg h0] at this
  rw [← this]


theorem ret_two {a b : ByteArray} {c d : Bool} (h1 : b = a) (h2 : d = c) : Ending.returned (.tuple #[.string a, .bool c]) = .returned (.tuple #[.string b, .bool d]) := by rw [h1, h2]

set_option maxHeartbeats 2000000 in
set_option maxRecDepth 100000 in
theorem parseHex_spec (s : ByteArray) (w : World) (hs : s.size ≤ 1048576) :
    Calls Try.prog 11 #[.string s] w fun e w' => e = .returned (.tuple #[.string (parseS s), .bool (parseB s)]) ∧ Below w.heap.size w w' := by
  obtain ⟨i0, hi, hz, hsz, hb⟩ := info_parts info_byte
  have HI := Lib.hid hi; clear hi
  have hsize : s.data.toList.length = s.size := by rw [Array.length_toList]; rfl
  have HSZ := Lib.hid hsize; clear hsize
  have HM := Lib.hid (World.ownsRow_made (base := w.heap.size) (e := 5) (size := 1) w #[] 0 (Nat.le_refl _) (by simp [maxLen]) rfl)
  go_enter Try.func11, Try.ntmps11
  go_wp2_with fail
  go_loopw [4, 5] (fun v i wr => ∃ (j : Nat) (acc : List UInt8), j ≤ s.size ∧ j % 2 = 0 ∧ acc.length ≤ j ∧ i = .int .i64 j ∧ wr.ownsRow w.heap.size 5 1 v acc.length (acc.map fun b => Value.int .u8 b.toNat) ∧ Below w.heap.size w wr ∧ Hid (parseX s.data.toList = (parseX (s.data.toList.drop j)).map (acc ++ ·))) (fun _ i _ => s.size - (intOf i).toNat)
  case atStart => exact ⟨0, [], by omega, by omega, by simp, rfl, by simpa using HM.out, below1 _ _, Lib.hid (by simp)⟩
  case round =>
    obtain ⟨j, acc, hj, hj2, hacc, rfl, hown, hbw, HP⟩ := hrel
    have OWN := Lib.hid hown; clear hown
    by_cases hjl : j + 1 < s.size
    · have hjl0 : j < s.size := by omega
      have hb1 := index_str s j hjl0
      have hb2 := index_str s (j + 1) hjl
      have hx1 := UInt8.toNat_lt (s.data.toList[j]'(by rw [HSZ.out]; exact hjl0))
      have hx2 := UInt8.toNat_lt (s.data.toList[j + 1]'(by rw [HSZ.out]; exact hjl))
      have hdr : s.data.toList.drop j = (s.data.toList[j]'(by rw [HSZ.out]; exact hjl0)) :: (s.data.toList[j + 1]'(by rw [HSZ.out]; exact hjl)) :: s.data.toList.drop (j + 2) := drop_two (by rw [HSZ.out]; exact hjl)
      have HD := Lib.hid hdr; clear hdr
      generalize (s.data.toList[j]'(by rw [HSZ.out]; exact hjl0)) = x at *
      generalize (s.data.toList[j + 1]'(by rw [HSZ.out]; exact hjl)) = y at *
      have vx := hexV_bd (x.toNat : Int)
      have vy := hexV_bd (y.toNat : Int)
      obtain ⟨vx1, vx2⟩ := vx
      obtain ⟨vy1, vy2⟩ := vy
      have hix : (x.toNat : Int) < 256 := by omega
      have hiy : (y.toNat : Int) < 256 := by omega
      have ej : ((j + 1 : Nat) : Int) = (j : Int) + 1 := by omega
      rw [ej] at hb2
      clear ej
      by_cases hv : hexV (x.toNat : Int) < 0 ∨ hexV (y.toNat : Int) < 0
      · have hp : parseX s.data.toList = none := by rw [HP.out, HD.out, parseX, if_pos hv]; rfl
        have hps : parseS s = ⟨#[]⟩ := by unfold parseS; rw [hp]
        have hpb : parseB s = false := by unfold parseB; rw [hp]; rfl
        have HPS := Lib.hid hps; clear hps
        have HPB := Lib.hid hpb; clear hpb hp
        by_cases hvx : hexV (x.toNat : Int) < 0
        · have hd1 : decide (hexV (x.toNat : Int) < 0) = true := decide_eq_true hvx
          clear hv
          go_wp2_with (first | (go_at_call 41; refine (l3Hex_c _ _ (by omega) (by omega)).mono ?_; rintro e w' ⟨rfl, rfl⟩))
          go_ret2
          exact ⟨ret_two HPS.out HPB.out, hbw⟩
        · have hd1 : decide (hexV (x.toNat : Int) < 0) = false := decide_eq_false hvx
          have hd2 : decide (hexV (y.toNat : Int) < 0) = true := decide_eq_true (by omega)
          clear hv hvx
          go_wp2_with (first | (go_at_call 41; refine (l3Hex_c _ _ (by omega) (by omega)).mono ?_; rintro e w' ⟨rfl, rfl⟩))
          go_ret2
          exact ⟨ret_two HPS.out HPB.out, hbw⟩
      · have hd1 : decide (hexV (x.toNat : Int) < 0) = false := decide_eq_false (by omega)
        have hd2 : decide (hexV (y.toNat : Int) < 0) = false := decide_eq_false (by omega)
        have hp : parseX s.data.toList = (parseX (s.data.toList.drop (j + 2))).map ((acc ++ [UInt8.ofNat (16 * hexV x.toNat + hexV y.toNat).toNat]) ++ ·) := by
          rw [HP.out, HD.out, parseX, if_neg hv, Option.map_map]
          congr 1
          funext l
          simp
        have HP2 := Lib.hid hp; clear hp HP
        have e1 : 0 ≤ hexV (x.toNat : Int) := by omega
        have e2 : 0 ≤ hexV (y.toNat : Int) := by omega
        have hval : (16 * hexV (x.toNat : Int) + hexV (y.toNat : Int)) = (((UInt8.ofNat (16 * hexV x.toNat + hexV y.toNat).toNat).toNat : Nat) : Int) := by
          rw [UInt8.toNat_ofNat']; omega
        have HV := Lib.hid hval; clear hval
        have HVN := Lib.hid hv; clear hv
        go_wp2_with (first | (go_at_call 41; refine (l3Hex_c _ _ (by omega) (by omega)).mono ?_; rintro e w' ⟨rfl, rfl⟩) | (at_builtin; go_must (refine wpList_append_own _ rfl (.tmp 31) (.tmp 37) 22 rfl w.heap.size 5 i0 (.int .u8 0) 1 1 Try.underlying22 HI.out hz hsz hb rfl (by decide) _ _ _ rfl (OWN.out.alloc _) ⟨wr.heap.size, 0, none⟩ 1 1 [.int .u8 (16 * hexV (x.toNat : Int) + hexV (y.toNat : Int))] rfl rfl (cell_one_new _ _ _) (by simp; rfl) (by unfold maxLen; omega) (by omega) (by simp only [World.size_alloc]; have := hbw.size; omega) ?_); intro v1 w2 hown2 hg2 q1; clear q1))
        go_roundw
        case rel =>
          refine ⟨j + 2, acc ++ [UInt8.ofNat (16 * hexV x.toNat + hexV y.toNat).toNat], by omega, by omega, by simp; omega, by go_num, ?_, (hbw.alloc hbw.size _).grown hg2 (by simp only [World.size_alloc]; have := hbw.size; omega) (fun k hk => (OWN.out.lt k hk).1), HP2⟩
          rw [List.map_append, List.length_append]
          simp only [List.map_cons, List.map_nil, List.length_cons, List.length_nil, Nat.zero_add]
          rw [← HV.out]
          exact hown2
        case measure => simp [intOf]; omega
    · by_cases hodd : s.size % 2 = 1
      · have hp : parseX s.data.toList = none := parse_odd _ (by rw [HSZ.out]; exact hodd)
        have hps : parseS s = ⟨#[]⟩ := by unfold parseS; rw [hp]
        have hpb : parseB s = false := by unfold parseB; rw [hp]; rfl
        have HPS := Lib.hid hps; clear hps
        have HPB := Lib.hid hpb; clear hpb hp
        have hd1 : ((s.size : Int) % 2 != 0) = true := by simp; omega
        clear hodd
        go_wp2_with fail
        go_ret2
        exact ⟨ret_two HPS.out HPB.out, hbw⟩
      · have hjs : j = s.size := by omega
        have hd1 : ((s.size : Int) % 2 != 0) = false := by simp; omega
        have hp : parseX s.data.toList = some acc := by
          rw [HP.out, List.drop_of_length_le (by rw [HSZ.out]; omega)]
          simp [parseX]
        have hps : parseS s = ⟨acc.toArray⟩ := by unfold parseS; rw [hp]
        have hpb : parseB s = true := by unfold parseB; rw [hp]; rfl
        have HPS := Lib.hid hps; clear hps
        have HPB := Lib.hid hpb; clear hpb hp hodd HP hjs
        have hO := OWN.out
        have hzz := bz_map acc
        rw [← hzz] at hO
        obtain ⟨a1, cap1, rfl, hn1, r1, c1, -⟩ := own_rd hO
        have hst := run_str (P := Try.prog) Try.underlying22 Try.underlying5 Try.underlying9 (c := cap1) (bz_length _) r1
        generalize bz acc = zz at *
        clear hO hzz hn1 OWN
        generalize (⟨acc.toArray⟩ : ByteArray) = res at *
        go_wp2_with fail
        go_ret2
        exact ⟨ret_two HPS.out HPB.out, hbw⟩

set_option maxHeartbeats 2000000 in
set_option maxRecDepth 100000 in
theorem parseHex_impl_even (s : ByteArray) (w : World) (hs : s.size ≤ 1048576) (hev : s.size % 2 = 0) :
    Calls Try.prog 9 #[.string s] w fun e w' => e = .returned (.tuple #[.string (parseS s), .bool (parseB s)]) ∧ Below w.heap.size w w' := by
  obtain ⟨i0, hi, hz, hsz, hb⟩ := info_parts info_byte
  have HI := Lib.hid hi; clear hi
  have hsize : s.data.toList.length = s.size := by rw [Array.length_toList]; rfl
  have HSZ := Lib.hid hsize; clear hsize
  obtain ⟨cells, hmk, hsz0⟩ := make0 (P := Try.prog) 22 5 (.int .u8 0) 1 Try.underlying22 info_byte rfl (s.size / 2) ((s.size : Int) / 2) (by omega) (by omega) (by omega)
  have HM := Lib.hid (World.ownsRow_made (base := w.heap.size) (e := 5) (size := 1) w cells (s.size / 2) (Nat.le_refl _) (by unfold maxLen; omega) (by omega))
  clear hsz0
  have hd0 : ((s.size : Int) % 2 == 1) = false := by rw [beq_eq_false_iff_ne]; omega
  have HEV := Lib.hid hev; clear hev
  go_enter Try.func9, Try.ntmps9
  go_wp2_with fail
  go_loopw [4, 5] (fun v i wr => ∃ (j : Nat) (acc : List UInt8), j ≤ s.size ∧ j % 2 = 0 ∧ acc.length ≤ j ∧ i = .int .i64 j ∧ wr.ownsRow w.heap.size 5 1 v acc.length (acc.map fun b => Value.int .u8 b.toNat) ∧ Below w.heap.size w wr ∧ Hid (parseX s.data.toList = (parseX (s.data.toList.drop j)).map (acc ++ ·))) (fun _ i _ => s.size - (intOf i).toNat)
  case atStart => exact ⟨0, [], by omega, by omega, by simp, rfl, by simpa using HM.out, below1 _ _, Lib.hid (by simp)⟩
  case round =>
    obtain ⟨j, acc, hj, hj2, hacc, rfl, hown, hbw, HP⟩ := hrel
    have OWN := Lib.hid hown; clear hown
    by_cases hjl : j < s.size
    · have hjl0 : j < s.size := hjl
      have hjl : j + 1 < s.size := by have := HEV.out; omega
      have hb1 := index_str s j hjl0
      have hb2 := index_str s (j + 1) hjl
      have hx1 := UInt8.toNat_lt (s.data.toList[j]'(by rw [HSZ.out]; exact hjl0))
      have hx2 := UInt8.toNat_lt (s.data.toList[j + 1]'(by rw [HSZ.out]; exact hjl))
      have hdr : s.data.toList.drop j = (s.data.toList[j]'(by rw [HSZ.out]; exact hjl0)) :: (s.data.toList[j + 1]'(by rw [HSZ.out]; exact hjl)) :: s.data.toList.drop (j + 2) := drop_two (by rw [HSZ.out]; exact hjl)
      have HD := Lib.hid hdr; clear hdr
      generalize (s.data.toList[j]'(by rw [HSZ.out]; exact hjl0)) = x at *
      generalize (s.data.toList[j + 1]'(by rw [HSZ.out]; exact hjl)) = y at *
      have vx := hexV_bd (x.toNat : Int)
      have vy := hexV_bd (y.toNat : Int)
      obtain ⟨vx1, vx2⟩ := vx
      obtain ⟨vy1, vy2⟩ := vy
      have hix : (x.toNat : Int) < 256 := by omega
      have hiy : (y.toNat : Int) < 256 := by omega
      have ej : ((j + 1 : Nat) : Int) = (j : Int) + 1 := by omega
      rw [ej] at hb2
      clear ej
      by_cases hv : hexV (x.toNat : Int) < 0 ∨ hexV (y.toNat : Int) < 0
      · have hp : parseX s.data.toList = none := by rw [HP.out, HD.out, parseX, if_pos hv]; rfl
        have hps : parseS s = ⟨#[]⟩ := by unfold parseS; rw [hp]
        have hpb : parseB s = false := by unfold parseB; rw [hp]; rfl
        have HPS := Lib.hid hps; clear hps
        have HPB := Lib.hid hpb; clear hpb hp
        by_cases hvx : hexV (x.toNat : Int) < 0
        · have hd1 : decide (hexV (x.toNat : Int) < 0) = true := decide_eq_true hvx
          clear hv
          have ew : IntKind.i64.wrap ((j : Int) + 1) = (j : Int) + 1 := IntWalk.i64_in _ (by omega)
          go_wp2_with fail
          go_quiet ((go_at_call 40; exact quiet_eq (hexIdx_c _ _ (by omega) (by omega))))
          clear ew
          go_wp2_with fail
          go_ret2
          exact ⟨ret_two HPS.out HPB.out, below_drewN hbw _⟩
        · have hd1 : decide (hexV (x.toNat : Int) < 0) = false := decide_eq_false hvx
          have hd2 : decide (hexV (y.toNat : Int) < 0) = true := decide_eq_true (by omega)
          clear hv hvx
          have ew : IntKind.i64.wrap ((j : Int) + 1) = (j : Int) + 1 := IntWalk.i64_in _ (by omega)
          go_wp2_with fail
          go_quiet ((go_at_call 40; exact quiet_eq (hexIdx_c _ _ (by omega) (by omega))))
          clear ew
          go_wp2_with fail
          go_ret2
          exact ⟨ret_two HPS.out HPB.out, below_drewN hbw _⟩
      · have hd1 : decide (hexV (x.toNat : Int) < 0) = false := decide_eq_false (by omega)
        have hd2 : decide (hexV (y.toNat : Int) < 0) = false := decide_eq_false (by omega)
        have hp : parseX s.data.toList = (parseX (s.data.toList.drop (j + 2))).map ((acc ++ [UInt8.ofNat (16 * hexV x.toNat + hexV y.toNat).toNat]) ++ ·) := by
          rw [HP.out, HD.out, parseX, if_neg hv, Option.map_map]
          congr 1
          funext l
          simp
        have HP2 := Lib.hid hp; clear hp HP
        have e1 : 0 ≤ hexV (x.toNat : Int) := by omega
        have e2 : 0 ≤ hexV (y.toNat : Int) := by omega
        have hval : (16 * hexV (x.toNat : Int) + hexV (y.toNat : Int)) = (((UInt8.ofNat (16 * hexV x.toNat + hexV y.toNat).toNat).toNat : Nat) : Int) := by
          rw [UInt8.toNat_ofNat']; omega
        have HV := Lib.hid hval; clear hval
        have HVN := Lib.hid hv; clear hv
        have ew : IntKind.i64.wrap ((j : Int) + 1) = (j : Int) + 1 := IntWalk.i64_in _ (by omega)
        go_wp2_with fail
        go_quiet ((go_at_call 40; exact quiet_eq (hexIdx_c _ _ (by omega) (by omega))))
        clear ew
        go_wp2_with ((at_builtin; go_must (refine wpList_append_own _ rfl (.tmp 37) (.tmp 43) 22 rfl w.heap.size 5 i0 (.int .u8 0) 1 1 Try.underlying22 HI.out hz hsz hb rfl (by decide) _ _ _ rfl (by exact OWN.out.alloc _) ⟨wr.heap.size, 0, none⟩ 1 1 [.int .u8 (16 * hexV (x.toNat : Int) + hexV (y.toNat : Int))] rfl rfl (by exact cell_one_new _ _ _) (by simp; rfl) (by unfold maxLen; omega) (by omega) (by show _ ≤ (wr.alloc _).heap.size; simp only [World.size_alloc]; have := hbw.size; omega) ?_); intro v1 w2 hown2 hg2 q1; clear q1))
        go_roundw
        case rel =>
          refine ⟨j + 2, acc ++ [UInt8.ofNat (16 * hexV x.toNat + hexV y.toNat).toNat], by omega, by omega, by simp; omega, by go_num, ?_, ((below_drewN hbw _).alloc hbw.size _).grown hg2 (by show _ ≤ (wr.alloc _).heap.size; simp only [World.size_alloc]; have := hbw.size; omega) (fun k hk => (OWN.out.lt k hk).1), HP2⟩
          rw [List.map_append, List.length_append]
          simp only [List.map_cons, List.map_nil, List.length_cons, List.length_nil, Nat.zero_add]
          rw [← HV.out]
          exact hown2
        case measure => simp [intOf]; omega
    · by_cases hodd : s.size % 2 = 1
      · exact absurd HEV.out (by omega)
      · have hev := HEV.out
        have hjs : j = s.size := by omega
        have hp : parseX s.data.toList = some acc := by
          rw [HP.out, List.drop_of_length_le (by rw [HSZ.out]; omega)]
          simp [parseX]
        have hps : parseS s = ⟨acc.toArray⟩ := by unfold parseS; rw [hp]
        have hpb : parseB s = true := by unfold parseB; rw [hp]; rfl
        have HPS := Lib.hid hps; clear hps
        have HPB := Lib.hid hpb; clear hpb hp hodd HP hjs hev
        have hO := OWN.out
        have hzz := bz_map acc
        rw [← hzz] at hO
        obtain ⟨a1, cap1, rfl, hn1, r1, c1, -⟩ := own_rd hO
        have hst := run_str (P := Try.prog) Try.underlying22 Try.underlying5 Try.underlying9 (c := cap1) (bz_length _) r1
        generalize bz acc = zz at *
        clear hO hzz hn1 OWN
        generalize (⟨acc.toArray⟩ : ByteArray) = res at *
        go_wp2_with fail
        go_ret2
        exact ⟨ret_two HPS.out HPB.out, hbw⟩

theorem parseHex_impl (s : ByteArray) (w : World) (hs : s.size ≤ 1048576) :
    Calls Try.prog 9 #[.string s] w fun e w' => e = .returned (.tuple #[.string (parseS s), .bool (parseB s)]) ∧ Below w.heap.size w w' := by
  by_cases hodd : s.size % 2 = 1
  · have hp : parseX s.data.toList = none := parse_odd _ (by rw [Array.length_toList]; exact hodd)
    have hps : parseS s = ⟨#[]⟩ := by unfold parseS; rw [hp]
    have hpb : parseB s = false := by unfold parseB; rw [hp]; rfl
    rw [hps, hpb]
    clear hps hpb hp
    have hd0 : ((s.size : Int) % 2 == 1) = true := by rw [beq_iff_eq]; omega
    clear hodd
    go_enter Try.func9, Try.ntmps9
    go_wp2_with fail
    go_ret2
    exact ⟨rfl, Below.refl _ _⟩
  · exact parseHex_impl_even s w hs (by omega)
end Go.Proofs.Ytcagcjkhjfbbpaa
