/- ReadNumber: the contracts of its helpers, on both sides. -/
import Derived.Test.YtilmhemcpgiikaaDoorMRead
import Derived.Test.YtilmhemcpgiikaaDoorCStr
namespace Go.Proofs.YtilmhemcpgiikaaDoor
open Go.Deep Go.ChangeShapes Go.WideShapes Go.ChangeAt Go.RowKit
open Go.ChangeMaps (open_string shut_string)

theorem str_len (s : ByteArray) : s.data.toList.length = s.size := by rw [Array.length_toList]; rfl
theorem byN_ix (s : ByteArray) (q : Nat) (h : q < s.size) : ∀ w, (Instr.index 9 (.string s) (.int .i64 q)).run Tryd.prog w = .ok (.int .u8 (byN s.data.toList q : Int)) w := by
  intro w
  have h' : (q : Int) < (s.size : Int) := by omega
  rw [byN_at (by rw [str_len]; exact h)]
  go_simp
  rfl

set_option maxHeartbeats 1000000 in
theorem l4Digits_c (s : ByteArray) (p : Nat) (w : World) (hs : s.size ≤ 1048576) (hp : p ≤ s.size) :
    Calls Tryd.prog 84 #[.string s, .int .i64 (p : Int)] w fun e w' => e = .returned (.int .i64 ((p + (dsAt s.data.toList p).length : Nat) : Int)) ∧ w = w' := by
  have hlen := str_len s
  have hle := dsAt_le (l := s.data.toList) (p := p) (by omega)
  have HIN := Lib.hid (fun j h => dsAt_in (l := s.data.toList) (p := p) (j := j) h)
  have HEND := Lib.hid (dsAt_end s.data.toList p)
  have HIX := Lib.hid (byN_ix s)
  have H256 := Lib.hid (byN_256 s.data.toList)
  generalize s.data.toList = l at *
  generalize (dsAt l p).length = n at *
  rw [hlen] at hle
  clear hlen
  go_enter Tryd.func84, Tryd.ntmps84
  go_wp2_with fail
  go_loop [1] (fun a => ∃ j Q : Nat, a = .int .i64 (Q : Int) ∧ Hid (Q = p + j) ∧ Q ≤ p + n) (fun a => s.size - (intOf a).toNat)
  case atStart => exact ⟨0, p, rfl, Lib.hid rfl, by omega⟩
  case round =>
    obtain ⟨j, Q, rfl, HQ, hQ⟩ := hrel
    by_cases hjn : Q < p + n
    · have h0 := HIN.out j (by have := HQ.out; omega)
      rw [← HQ.out] at h0
      obtain ⟨⟨h1, h2⟩, h3⟩ := h0
      have hlt : (Q : Int) < (s.size : Int) := by omega
      have hix := HIX.out Q (by omega)
      have hcb := H256.out Q
      obtain ⟨C, hC⟩ : ∃ C : Int, C = (byN l Q : Int) := ⟨_, rfl⟩
      rw [← hC] at hix
      have hC1 : 48 ≤ C ∧ C ≤ 57 ∧ C < 256 := by omega
      clear hC h1 h2 h3 hcb
      obtain ⟨c1, c2, c3⟩ := hC1
      have hin : inB C 48 57 = true := inB_mk ⟨c1, c2⟩
      go_wp2_with (go_at_call 98; refine (l1In_c _ _ _ _).mono ?_; rintro e w' ⟨rfl, rfl⟩)
      go_round
      case rel => exact ⟨j + 1, Q + 1, by go_num, Lib.hid (by have := HQ.out; omega), by omega⟩
      case measure => simp [intOf]; omega
    · have hQn : Q = p + n := by omega
      have hend := HEND.out
      rw [← hQn] at hend
      have HR := Lib.hid hQn
      clear hQn
      by_cases hlt : Q < s.size
      · have hlt' : (Q : Int) < (s.size : Int) := by omega
        have hix := HIX.out Q hlt
        have hcb := H256.out Q
        obtain ⟨C, hC⟩ : ∃ C : Int, C = (byN l Q : Int) := ⟨_, rfl⟩
        rw [← hC] at hix
        have hin : inB C 48 57 = false := inB_no (by omega)
        have hC1 : 0 ≤ C ∧ C < 256 := by omega
        clear hC hcb hend
        obtain ⟨c1, c3⟩ := hC1
        go_wp2_with (go_at_call 98; refine (l1In_c _ _ _ _).mono ?_; rintro e w' ⟨rfl, rfl⟩)
        go_ret
        exact ⟨ret_int (by have := HR.out; omega), rfl⟩
      · have hlt' : decide ((Q : Int) < (s.size : Int)) = false := decide_eq_false (by omega)
        clear hend
        go_wp2_with (go_at_call 98; refine (l1In_c _ _ _ _).mono ?_; rintro e w' ⟨rfl, rfl⟩)
        go_ret
        exact ⟨ret_int (by have := HR.out; omega), rfl⟩

set_option maxHeartbeats 1000000 in
theorem byteAt_c (s : ByteArray) (q : Nat) (w : World) (hs : s.size ≤ 1048576) (hq : q ≤ 2097152) :
    Calls Tryd.prog 87 #[.string s, .int .i64 (q : Int)] w fun e w' => e = .returned (.int .u8 (byN s.data.toList q : Int)) ∧ w = w' := by
  have hlen := str_len s
  have hw : IntKind.i64.wrap ((s.size : Int) - 1) = (s.size : Int) - 1 := IntWalk.i64_in _ (by omega)
  by_cases h : q < s.size
  · have hix := byN_ix s q h
    have hin : inB (q : Int) 0 ((s.size : Int) - 1) = true := inB_mk (by omega)
    generalize (byN s.data.toList q : Int) = C at *
    clear hlen
    go_enter Tryd.func87, Tryd.ntmps87
    go_wp2_with (go_at_call 86; refine (within_c _ _ _ _).mono ?_; rintro e w' ⟨rfl, rfl⟩)
    go_ret
    exact ⟨rfl, rfl⟩
  · have hin : inB (q : Int) 0 ((s.size : Int) - 1) = false := inB_no (by omega)
    rw [byN_out (by omega)]
    clear hlen
    go_enter Tryd.func87, Tryd.ntmps87
    go_wp2_with (go_at_call 86; refine (within_c _ _ _ _).mono ?_; rintro e w' ⟨rfl, rfl⟩)
    go_ret
    exact ⟨rfl, rfl⟩

set_option maxHeartbeats 1000000 in
theorem isDigit_c (s : ByteArray) (q : Nat) (w : World) (hs : s.size ≤ 1048576) (hq : q ≤ 2097152) :
    Calls Tryd.prog 137 #[.string s, .int .i64 (q : Int)] w fun e w' => e = .returned (.bool (inB (byN s.data.toList q : Int) 48 57)) ∧ w = w' := by
  have hlen := str_len s
  have hw : IntKind.i64.wrap ((s.size : Int) - 1) = (s.size : Int) - 1 := IntWalk.i64_in _ (by omega)
  by_cases h : q < s.size
  · have hix := byN_ix s q h
    have hin : inB (q : Int) 0 ((s.size : Int) - 1) = true := inB_mk (by omega)
    have hcb := byN_256 s.data.toList q
    obtain ⟨C, hC⟩ : ∃ C : Int, C = (byN s.data.toList q : Int) := ⟨_, rfl⟩
    rw [← hC] at hix ⊢
    have hC1 : 0 ≤ C ∧ C < 256 := by omega
    clear hC hcb hlen
    obtain ⟨c1, c3⟩ := hC1
    by_cases h1 : 48 ≤ C
    · by_cases h2 : C ≤ 57
      · rw [inB_mk (n := C) ⟨h1, h2⟩]
        have d1 : decide (48 ≤ C) = true := decide_eq_true h1
        have d2 : decide (C ≤ 57) = true := decide_eq_true h2
        go_enter Tryd.func137, Tryd.ntmps137
        go_wp2_with (go_at_call 86; refine (within_c _ _ _ _).mono ?_; rintro e w' ⟨rfl, rfl⟩)
        go_ret
        exact ⟨rfl, rfl⟩
      · rw [inB_no (n := C) (by omega)]
        have d1 : decide (48 ≤ C) = true := decide_eq_true h1
        have d2 : decide (C ≤ 57) = false := decide_eq_false h2
        go_enter Tryd.func137, Tryd.ntmps137
        go_wp2_with (go_at_call 86; refine (within_c _ _ _ _).mono ?_; rintro e w' ⟨rfl, rfl⟩)
        go_ret
        exact ⟨rfl, rfl⟩
    · rw [inB_no (n := C) (by omega)]
      have d1 : decide (48 ≤ C) = false := decide_eq_false h1
      go_enter Tryd.func137, Tryd.ntmps137
      go_wp2_with (go_at_call 86; refine (within_c _ _ _ _).mono ?_; rintro e w' ⟨rfl, rfl⟩)
      go_ret
      exact ⟨rfl, rfl⟩
  · have hin : inB (q : Int) 0 ((s.size : Int) - 1) = false := inB_no (by omega)
    rw [byN_out (by omega)]
    have h0 : inB ((0 : Nat) : Int) 48 57 = false := inB_no (by omega)
    rw [h0]
    clear hlen h0
    go_enter Tryd.func137, Tryd.ntmps137
    go_wp2_with (go_at_call 86; refine (within_c _ _ _ _).mono ?_; rintro e w' ⟨rfl, rfl⟩)
    go_ret
    exact ⟨rfl, rfl⟩

/-- The piece of a string from p on, n bytes. -/
theorem ext_list (s : ByteArray) (p n : Nat) : (s.extract p (p + n)).data.toList = (s.data.toList.drop p).take n := by
  rw [ByteArray.data_extract, Array.toList_extract, List.extract_eq_take_drop, Nat.add_sub_cancel_left]
theorem ext_ds (s : ByteArray) (p : Nat) : (s.extract p (p + (dsAt s.data.toList p).length)).data.toList = dsAt s.data.toList p := by
  rw [ext_list, dsAt_take]

set_option maxHeartbeats 1000000 in
theorem digitsFrom_c (s : ByteArray) (p : Nat) (w : World) (hs : s.size ≤ 1048576) (hp : p ≤ s.size) :
    Calls Tryd.prog 88 #[.string s, .int .i64 (p : Int)] w fun e w' => e = .returned (.string (s.extract p (p + (dsAt s.data.toList p).length))) ∧ w = w' := by
  have hlen := str_len s
  have hle := dsAt_le (l := s.data.toList) (p := p) (by omega)
  have HIN := Lib.hid (fun j h => dsAt_in (l := s.data.toList) (p := p) (j := j) h)
  have HEND := Lib.hid (dsAt_end s.data.toList p)
  have HD := Lib.hid (fun q w => isDigit_c s q w hs)
  generalize s.data.toList = l at *
  generalize (dsAt l p).length = n at *
  rw [hlen] at hle
  clear hlen
  go_enter Tryd.func88, Tryd.ntmps88
  go_wp2_with fail
  go_loop [5] (fun a => ∃ j Q : Nat, a = .int .i64 (Q : Int) ∧ Hid (Q = p + j) ∧ Q ≤ p + n) (fun a => s.size + 1 - (intOf a).toNat)
  case atStart => exact ⟨0, p, rfl, Lib.hid rfl, by omega⟩
  case round =>
    obtain ⟨j, Q, rfl, HQ, hQ⟩ := hrel
    have hc := HD.out Q w (by omega)
    by_cases hjn : Q < p + n
    · have h0 := HIN.out j (by have := HQ.out; omega)
      rw [← HQ.out] at h0
      rw [inB_mk (n := (byN l Q : Int)) (by omega)] at hc
      have HC := Lib.hid hc
      clear h0 hc
      go_wp2_with (go_at_call 137; refine HC.out.mono ?_; rintro e w' ⟨rfl, rfl⟩)
      go_round
      case rel => exact ⟨j + 1, Q + 1, by go_num, Lib.hid (by have := HQ.out; omega), by omega⟩
      case measure => simp [intOf]; omega
    · have hQn : Q = p + n := by omega
      have hend := HEND.out
      rw [← hQn] at hend
      rw [inB_no (n := (byN l Q : Int)) (by omega)] at hc
      have HC := Lib.hid hc
      clear hend hc
      have hpQ : (p : Int) ≤ Q := by omega
      have hQs : (Q : Int) ≤ s.size := by omega
      have HQN := Lib.hid hQn; clear hQn
      go_wp2_with (go_at_call 137; refine HC.out.mono ?_; rintro e w' ⟨rfl, rfl⟩)
      go_ret
      exact ⟨by simp [HQN.out], rfl⟩

set_option maxHeartbeats 2000000 in
theorem l4Value_c (t : ByteArray) (m : Nat) (w : World) (hm : m ≤ 17) (hs : t.size ≤ 2097152) (hd : ∀ c ∈ t.data.toList, 48 ≤ c.toNat ∧ c.toNat ≤ 57) :
    Calls Tryd.prog 85 #[.string t, .int .i64 (m : Int)] w fun e w' => e = .returned (if (sigL t.data.toList).length ≤ m then .tuple #[.int .i64 (digVal t.data.toList : Int), .bool true] else .tuple #[.int .i64 0, .bool false]) ∧ w = w' := by
  have hlen := str_len t
  have HIX := Lib.hid (byN_ix t)
  obtain ⟨l, hl⟩ : ∃ l, l = t.data.toList := ⟨_, rfl⟩
  rw [← hl] at hlen hd HIX ⊢
  clear hl
  have HDG := Lib.hid hd
  have HSN := Lib.hid (fun j (h : j < l.length) => sigL_snoc (l.take j) l[j])
  have HVN := Lib.hid (fun j (h : j < l.length) => digVal_snoc (l.take j) l[j])
  have HTK := Lib.hid (fun j (h : j < l.length) => List.take_succ_eq_append_getElem h)
  have HLT := Lib.hid (fun j (h : (sigL (l.take j)).length ≤ m) => sig_lt (l := l.take j) (fun c hc => hd c (List.mem_of_mem_take hc)) h)
  have HMO := Lib.hid (fun j => sigL_mono (l.take j) (l.drop j))
  have HPW : Hid ((10 : Nat) ^ m ≤ 100000000000000000) := Lib.hid (by
    have : (10 : Nat) ^ m ≤ 10 ^ 17 := Nat.pow_le_pow_right (by decide) hm
    have h3 : (10 : Nat) ^ 17 = 100000000000000000 := by decide
    omega)
  clear hd
  obtain ⟨R, hR⟩ : ∃ R : Value, R = if (sigL l).length ≤ m then .tuple #[.int .i64 (digVal l : Int), .bool true] else .tuple #[.int .i64 0, .bool false] := ⟨_, rfl⟩
  rw [← hR]
  have HR := Lib.hid hR
  clear hR
  go_enter Tryd.func85, Tryd.ntmps85
  go_wp2_with fail
  go_loop [6, 7, 8] (fun a k i => ∃ (j K : Nat) (D : Int), a = .int .i64 D ∧ k = .int .i64 (K : Int) ∧ i = .int .i64 (j : Int) ∧ j ≤ l.length ∧ K ≤ m ∧ Hid (D = (digVal (l.take j) : Nat)) ∧ Hid (K = (sigL (l.take j)).length)) (fun _ _ i => l.length - (intOf i).toNat)
  case atStart => exact ⟨0, 0, 0, rfl, rfl, rfl, by omega, by omega, Lib.hid rfl, Lib.hid rfl⟩
  case round =>
    obtain ⟨j, K, D, rfl, rfl, rfl, hj, hK, HD, HK⟩ := hrel
    have hDb : 0 ≤ D ∧ D < 100000000000000000 := by
      have h1 := HLT.out j (by rw [← HK.out]; exact hK)
      have h2 := HPW.out
      have h4 := HD.out
      omega
    obtain ⟨hD0, hD1⟩ := hDb
    by_cases hjl : j < l.length
    · have hjs : (j : Int) < (t.size : Int) := by omega
      have hix := HIX.out j (by omega)
      rw [byN_at hjl] at hix
      have hsn := HSN.out j hjl
      have hvn := HVN.out j hjl
      have htk := HTK.out j hjl
      rw [← htk] at hsn hvn
      have hdg := HDG.out l[j] (List.getElem_mem hjl)
      have hne : (l[j] ≠ 48) ↔ ¬ (l[j].toNat : Int) = 48 := by
        constructor
        · intro h e; exact h (UInt8.toNat_inj.1 (by have : (48 : UInt8).toNat = 48 := rfl; omega))
        · intro h e; rw [e] at h; exact h rfl
      clear htk
      rw [← HK.out] at hsn
      have hcb := UInt8.toNat_lt l[j]
      obtain ⟨C, hC⟩ : ∃ C : Int, C = (l[j].toNat : Int) := ⟨_, rfl⟩
      rw [← hC] at hix hne
      have hC1 : 48 ≤ C ∧ C ≤ 57 := by omega
      have hv2 : (digVal (l.take (j + 1)) : Int) = 10 * D + (C - 48) := by have := HD.out; omega
      have hs2 : (¬ C = 48 ∨ 0 < K) → (sigL (l.take (j + 1))).length = K + 1 := fun h => by rw [hsn, if_pos (by rw [hne]; exact h)]
      have hs3 : C = 48 → K = 0 → (sigL (l.take (j + 1))).length = K := fun h1 h2 => by rw [hsn, if_neg (by rw [hne]; omega)]
      have HV2 := Lib.hid hv2; have HS2 := Lib.hid hs2; have HS3 := Lib.hid hs3
      have HMJ := Lib.hid (HMO.out (j + 1))
      clear hv2 hs2 hs3 hsn hvn hdg hne hcb hC
      obtain ⟨c1, c2⟩ := hC1
      by_cases hz : C = 48
      · by_cases hk0 : K = 0
        · subst hz; subst hk0
          have hDD : (10 * D + (48 - 48)) = 10 * D := by omega
          go_wp2_with fail
          go_round
          case rel => exact ⟨j + 1, 0, 10 * D, by go_num, rfl, by go_num, by omega, by omega, Lib.hid (by have := HV2.out; omega), Lib.hid (HS3.out rfl rfl).symm⟩
          case measure => simp [intOf]; omega
        · subst hz
          have hk1 : (0 : Int) < (K : Int) := by omega
          have hs4 := HS2.out (.inr (by omega))
          by_cases hkm : K + 1 ≤ m
          · have hkm' : decide ((m : Int) < (K : Int) + 1) = false := decide_eq_false (by omega)
            have HS4 := Lib.hid hs4; clear hs4
            go_wp2_with fail
            go_round
            case rel => exact ⟨j + 1, K + 1, 10 * D, by go_num, by go_num, by go_num, by omega, by omega, Lib.hid (by have := HV2.out; omega), Lib.hid HS4.out.symm⟩
            case measure => simp [intOf]; omega
          · have hkm' : decide ((m : Int) < (K : Int) + 1) = true := decide_eq_true (by omega)
            have hr : R = .tuple #[.int .i64 0, .bool false] := by rw [HR.out, if_neg (by have := HMJ.out; rw [List.take_append_drop] at this; omega)]
            have HRR := Lib.hid hr
            clear hr hs4
            go_wp2_with fail
            go_ret2
            exact ⟨by first | (rw [HRR.out]; done) | (rw [HRR.out]; rfl), rfl⟩
      · have hzb : (C != 48) = true := by simpa using hz
        have hs4 := HS2.out (.inl hz)
        by_cases hkm : K + 1 ≤ m
        · have hkm' : decide ((m : Int) < (K : Int) + 1) = false := decide_eq_false (by omega)
          have HS4 := Lib.hid hs4; clear hs4
          go_wp2_with fail
          go_round
          case rel => exact ⟨j + 1, K + 1, 10 * D + (C - 48), by go_num, by go_num, by go_num, by omega, by omega, Lib.hid (by have := HV2.out; omega), Lib.hid HS4.out.symm⟩
          case measure => simp [intOf]; omega
        · have hkm' : decide ((m : Int) < (K : Int) + 1) = true := decide_eq_true (by omega)
          have hr : R = .tuple #[.int .i64 0, .bool false] := by rw [HR.out, if_neg (by have := HMJ.out; rw [List.take_append_drop] at this; omega)]
          have HRR := Lib.hid hr
          clear hr hs4
          go_wp2_with fail
          go_ret2
          exact ⟨by first | (rw [HRR.out]; done) | (rw [HRR.out]; rfl), rfl⟩
    · have hjs : decide ((j : Int) < (t.size : Int)) = false := decide_eq_false (by omega)
      have hje : j = l.length := by omega
      have hr : R = .tuple #[.int .i64 D, .bool true] := by
        have h1 := HD.out; have h2 := HK.out
        rw [hje, List.take_length] at h1 h2
        rw [HR.out, if_pos (by omega), h1]
      have HRR := Lib.hid hr
      clear hr hje
      go_wp2_with fail
      go_ret2
      exact ⟨by first | (rw [HRR.out]; done) | (rw [HRR.out]; rfl), rfl⟩

set_option maxHeartbeats 1000000 in
/-- Atoi of digits, or of nothing. -/
theorem atoiD_c (s : ByteArray) (w : World) (hs : s.size ≤ 17) (hd : ∀ c ∈ s.data.toList, 48 ≤ c.toNat ∧ c.toNat ≤ 57) (hL : LaidE w) :
    Calls Tryd.prog 91 #[.string s] w fun e w' => (∃ v2, e = .returned (.tuple #[.int .i64 (digVal s.data.toList : Int), v2])) ∧ Below w.heap.size w w' := by
  by_cases hz : s.data.toList = []
  · obtain ⟨⟨t1, p1, h1⟩, ⟨t2, p2, h2⟩⟩ := hL
    rcases h : Lib.atoiAll s.data.toList with v | _ | _
    · rw [hz] at h; cases h
    · refine (Any.strconv_Atoi_syntax_var Tryd.laysC172 s (by omega) h t2 p2 w h2).mono ?_
      rintro _ w' ⟨N, rfl, -, -, hb⟩
      exact ⟨⟨_, by rw [hz]; rfl⟩, hb⟩
    · rw [hz] at h; cases h
  · have hb : digVal s.data.toList < 1000000000000000000 := by
      have h1 := digVal_lt _ s.data.toList rfl hd
      have h2 : (10 : Nat) ^ s.data.toList.length ≤ 10 ^ 17 := Nat.pow_le_pow_right (by decide) (by rw [str_len]; exact hs)
      have h3 : (10 : Nat) ^ 17 = 100000000000000000 := by decide
      omega
    have ha := atoi_digits _ hz hd hb
    refine (atoi_c s w (by omega) hL).mono ?_
    rintro _ w' ⟨⟨v, hv, rfl⟩ | ⟨x, T, p, hv, rfl⟩, hb⟩
    · rw [ha] at hv
      cases hv
      exact ⟨⟨_, rfl⟩, hb⟩
    · rw [ha] at hv; cases hv
end Go.Proofs.YtilmhemcpgiikaaDoor
