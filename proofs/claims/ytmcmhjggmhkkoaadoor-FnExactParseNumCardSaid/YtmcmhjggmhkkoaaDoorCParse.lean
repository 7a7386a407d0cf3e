/- ParseNum: both read the same numbers. -/
import Derived.Test.YtmcmhjggmhkkoaaDoorMAtoi
namespace Go.Proofs.YtmcmhjggmhkkoaaDoor
open Go.Deep Go.ChangeShapes Go.WideShapes Go.ChangeAt Go.RowKit
open Go.ChangeMaps (open_string shut_string)

theorem ret_pn {a b : Int} {c d : Bool} (h : (a, c) = (b, d)) : Ending.returned (.tuple #[.int .i64 a, .bool c]) = .returned (.tuple #[.int .i64 b, .bool d]) := by
  rw [Prod.mk.injEq] at h; rw [h.1, h.2]
theorem str_ne {t s : ByteArray} (h : ¬ t = s) : (t.toList == s.toList) = false := by
  rw [ByteArray.toList_eq, ByteArray.toList_eq]
  simp only [beq_eq_false_iff_ne, ne_eq]
  intro e
  exact h (bytes_inj e)
set_option maxRecDepth 100000 in
set_option maxHeartbeats 4000000 in
theorem parseNum_impl (s : ByteArray) (w : World) (hs : s.size ≤ 1048576) (hE : LaidE w) (hP : LaidP w) :
    Calls Tryd.prog 43 #[.string s] w fun e w' => e = .returned (.tuple #[.int .i64 (pnF s).1, .bool (pnF s).2]) ∧ Below w.heap.size w w' := by
  have HA := Lib.hid (atoi_c s w hs hE)
  have HPP := Lib.hid hP; clear hP hE
  have HF : Hid (pnF s = match atoiO s.data.toList with | some v => if (-1000000000000000 ≤ v ∧ v ≤ 1000000000000000) ∧ numS v = s then (v, true) else (0, false) | none => (0, false)) := rfl
  obtain ⟨R, hR⟩ : ∃ R, R = pnF s := ⟨_, rfl⟩
  rw [← hR] at HF ⊢
  clear hR
  obtain ⟨R1, R2⟩ := R
  go_enter Tryd.func43, Tryd.ntmps43
  go_wp2_with fail
  refine HA.out.mono ?_
  rintro _ w1 ⟨⟨v, hv, rfl⟩ | ⟨x, T, p, hv, rfl⟩, b1⟩
  · have HV := Lib.hid hv; clear hv HA
    have B1 := Lib.hid b1; clear b1
    have HF2 := HF.out
    rw [HV.out] at HF2
    dsimp only at HF2
    have HF3 := Lib.hid HF2; clear HF2 HF
    cases hin : inB v (-1000000000000000) 1000000000000000 with
    | false =>
      have hq := HF3.out
      rw [if_neg (by have := inB_false.1 hin; omega)] at hq
      have HQ := Lib.hid hq; clear hq
      go_wp2_with (go_at_call 49; refine (within_c _ _ _ _).mono ?_; rintro e w' ⟨rfl, rfl⟩)
      go_ret2
      exact ⟨ret_pn HQ.out.symm, B1.out⟩
    | true =>
      obtain ⟨v0, v1⟩ := inB_true.1 hin
      go_wp2_with (go_at_call 49; refine (within_c _ _ _ _).mono ?_; rintro e w' ⟨rfl, rfl⟩)
      refine (numText_impl v _ (HPP.out.kept B1.out) (by omega) (by omega)).mono ?_
      rintro _ w2 ⟨rfl, b2⟩
      have B2 := Lib.hid (nx B1.out b2); clear b2
      have hq := HF3.out
      clear hin
      by_cases he : numS v = s
      · rw [if_pos ⟨⟨v0, v1⟩, he⟩] at hq
        have HQ := Lib.hid hq; clear hq HF3
        rw [he]
        clear he
        go_wp2_with fail
        go_ret2
        exact ⟨ret_pn HQ.out.symm, B2.out⟩
      · rw [if_neg (fun h => he h.2)] at hq
        have HQ := Lib.hid hq; clear hq HF3
        have hne := str_ne he
        clear he
        generalize numS v = t at *
        go_wp2_with fail
        go_ret2
        exact ⟨ret_pn HQ.out.symm, B2.out⟩
  · have HV := Lib.hid hv; clear hv HA
    have B1 := Lib.hid b1; clear b1
    have HF2 := HF.out
    rw [HV.out] at HF2
    dsimp only at HF2
    have HF3 := Lib.hid HF2; clear HF2 HF
    go_wp2_with fail
    go_ret2
    exact ⟨ret_pn HF3.out.symm, B1.out⟩
theorem index_strN (s : ByteArray) (j : Nat) (h : j < s.size) : ∀ w, (Instr.index 9 (.string s) (.int .i64 j)).run Tryd.prog w = .ok (.int .u8 ((s.data.toList[j]'(by rw [Array.length_toList]; exact h)).toNat : Int)) w := by
  intro w
  have h' : (j : Int) < (s.size : Int) := by omega
  go_simp
  rfl
/-- Where the digits begin. -/
def offL (l : List UInt8) : Nat := if sgnL l = true then 1 else 0
theorem dsL_drop (l : List UInt8) : dsL l = l.drop (offL l) := by
  unfold dsL offL; split <;> simp
theorem offL_le (l : List UInt8) : offL l ≤ l.length := by
  unfold offL; split
  · rename_i h
    cases l with
    | nil => cases h
    | cons a r => simp
  · omega
theorem dig_take {l : List UInt8} {j : Nat} (h : j < l.length) : digVal (l.take (j + 1)) = 10 * digVal (l.take j) + (l[j].toNat - 48) := by
  rw [List.take_succ_eq_append_getElem h, digVal_snoc]
set_option maxRecDepth 100000 in
set_option maxHeartbeats 8000000 in
/-- The reference's loop on. -/
theorem parseNum_spec (s : ByteArray) (w : World) (hs : s.size ≤ 1048576) :
    Calls Tryd.prog 42 #[.string s] w fun e w' => e = .returned (.tuple #[.int .i64 (pnF s).1, .bool (pnF s).2]) ∧ Below w.heap.size w w' := by
  have NONE0 := Lib.hid (@pnF_none s)
  have YES0 : Hid (∀ n : Int, -1000000000000000 ≤ n ∧ n ≤ 1000000000000000 → numS n = s → pnF s = (n, true)) := fun n h e => by rw [← e]; exact pnF_num n h
  obtain ⟨R, hR⟩ : ∃ R, R = pnF s := ⟨_, rfl⟩
  rw [← hR] at NONE0 YES0 ⊢
  clear hR
  obtain ⟨R1, R2⟩ := R
  have NONE : Hid ((∀ n : Int, -1000000000000000 ≤ n → n ≤ 1000000000000000 → numS n ≠ s) → (0, false) = (R1, R2)) := fun h => (NONE0.out h).symm
  have YES : Hid (∀ n : Int, -1000000000000000 ≤ n ∧ n ≤ 1000000000000000 → numS n = s → (n, true) = (R1, R2)) := fun n h e => (YES0.out n h e).symm
  clear NONE0 YES0
  dsimp only
  have hsize : s.data.toList.length = s.size := by rw [Array.length_toList]; rfl
  obtain ⟨l, hl⟩ : ∃ l, l = s.data.toList := ⟨_, rfl⟩
  rw [← hl] at hsize
  have hoff := offL_le l
  obtain ⟨o, ho⟩ : ∃ o, o = offL l := ⟨_, rfl⟩
  obtain ⟨ds, hds⟩ : ∃ d, d = dsL l := ⟨_, rfl⟩
  have hdl : ds.length + o = s.size := by rw [hds, dsL_drop, List.length_drop, ← ho]; omega
  have hget : ∀ j (h : j < ds.length), ∀ w, (Instr.index 9 (.string s) (.int .i64 ((o + j : Nat) : Int))).run Tryd.prog w = .ok (.int .u8 (ds[j].toNat : Int)) w := by
    intro j h w1
    have h1 := index_strN s (o + j) (by omega) w1
    rw [h1]
    have e : (s.data.toList[o + j]'(by rw [← hl]; omega)) = ds[j] := by
      have : ds[j]? = s.data.toList[o + j]? := by rw [hds, dsL_drop, List.getElem?_drop, ← ho, hl]
      rw [List.getElem?_eq_getElem h, List.getElem?_eq_getElem (by rw [← hl]; omega)] at this
      exact (Option.some.inj this).symm
    rw [e]
  have HGET : Hid (∀ (K j : Nat) (h : j < ds.length), K = o + j → ∀ w, (Instr.index 9 (.string s) (.int .i64 (K : Int))).run Tryd.prog w = .ok (.int .u8 (ds[j].toNat : Int)) w) := fun K j h e w1 => by rw [e]; exact hget j h w1
  clear hget
  have NP : Hid (∀ m : Int, -1000000000000000 ≤ m → m ≤ 1000000000000000 → numS m = s → sgnL l = decide (m < 0) ∧ (∀ c ∈ ds, 48 ≤ c.toNat ∧ c.toNat ≤ 57) ∧ digVal ds = m.natAbs ∧ 1 ≤ ds.length ∧ ds.length ≤ 16) := by
    intro m h1 h2 h3
    have := num_parts h3 h1 h2
    rw [← hl, ← hds] at this
    exact this
  have OFF : Hid (o = if sgnL l = true then 1 else 0) := by rw [ho]; rfl
  have HO : Hid (0 < s.size → ∀ w, (Instr.index 9 (.string s) (.int .i64 0)).run Tryd.prog w = .ok (.int .u8 ((l.getD 0 0).toNat : Int)) w) := by
    intro h w1
    have h1 := index_strN s 0 h w1
    rw [show ((0 : Nat) : Int) = 0 from rfl] at h1
    rw [h1]
    have e2 : s.data.toList.getD 0 0 = (s.data.toList[0]'(by rw [← hl]; omega)) := by rw [List.getD_eq_getElem?_getD, List.getElem?_eq_getElem (by rw [← hl]; omega)]; rfl
    rw [hl, e2]
  have HS0 : Hid (sgnL l = true → (l.getD 0 0).toNat = 45 ∧ 0 < s.size) := by
    intro h
    cases l with
    | nil => cases h
    | cons a r => exact ⟨by simpa [sgnL] using h, by rw [← hsize]; simp⟩
  have HS1 : Hid (sgnL l = false → (l.getD 0 0).toNat ≠ 45 ∨ s.size = 0) := by
    intro h
    cases l with
    | nil => right; rw [← hsize]; rfl
    | cons a r => left; simpa [sgnL] using h
  clear hl ho hds hoff hsize
  generalize hsg : sgnL l = sg at *
  clear hsg
  generalize (l.getD 0 0).toNat = c0 at *
  cases hlen : inB (ds.length : Int) 1 16 with
  | false =>
    have hno := Lib.hid <| NONE.out (fun m h1 h2 h3 => by have := (NP.out m h1 h2 h3).2.2.2; have h4 := inB_false.1 hlen; omega)
    clear NONE YES NP HGET
    cases sg with
    | true =>
      obtain ⟨q1, q2⟩ := HS0.out rfl
      have q3 := HO.out q2
      have ho1 : o = 1 := by rw [OFF.out]; rfl
      have hw1 : (s.size : Int) - 1 = (ds.length : Int) := by omega
      subst q1
      clear HS0 HS1 HO
      go_enter Tryd.func42, Tryd.ntmps42
      go_wp2_with (go_at_call 48; refine (l1In_c _ _ _ _).mono ?_; rintro e w' ⟨rfl, rfl⟩)
      go_ret2
      exact ⟨ret_pn hno.out, Below.refl _ _⟩
    | false =>
      have ho1 : o = 0 := by rw [OFF.out]; rfl
      have hw1 : (s.size : Int) = (ds.length : Int) := by omega
      by_cases hz : 0 < s.size
      · have q3 := HO.out hz
        have q1 : (c0 : Int) ≠ 45 := by have := HS1.out rfl; omega
        clear HS0 HS1 HO
        go_enter Tryd.func42, Tryd.ntmps42
        go_wp2_with (go_at_call 48; refine (l1In_c _ _ _ _).mono ?_; rintro e w' ⟨rfl, rfl⟩)
        go_ret2
        exact ⟨ret_pn hno.out, Below.refl _ _⟩
      · clear HS0 HS1 HO
        go_enter Tryd.func42, Tryd.ntmps42
        go_wp2_with (go_at_call 48; refine (l1In_c _ _ _ _).mono ?_; rintro e w' ⟨rfl, rfl⟩)
        go_ret2
        exact ⟨ret_pn hno.out, Below.refl _ _⟩
  | true =>
    obtain ⟨hl1, hl2⟩ := inB_true.1 hlen
    cases sg with
    | true =>
      obtain ⟨q1, q2⟩ := HS0.out rfl
      have q3 := HO.out q2
      have ho1 : o = 1 := by rw [OFF.out]; rfl
      have hw1 : (s.size : Int) - 1 = (ds.length : Int) := by omega
      subst q1
      have HW1 := Lib.hid hw1
      have HOO := Lib.hid ho1
      clear HS0 HS1 HO OFF ho1
      go_enter Tryd.func42, Tryd.ntmps42
      go_wp2_with (go_at_call 48; refine (l1In_c _ _ _ _).mono ?_; rintro e w' ⟨rfl, rfl⟩)
      clear hlen hw1
      go_loopw [5, 6] (fun n k wr => ∃ (j K : Nat) (D : Int), j ≤ ds.length ∧ n = .int .i64 D ∧ k = .int .i64 K ∧ Hid (D = (digVal (ds.take j) : Nat)) ∧ Hid (K = j + 1) ∧ Hid (∀ c ∈ ds.take j, 48 ≤ c.toNat ∧ c.toNat ≤ 57) ∧ wr = w) (fun _ k _ => s.size - (intOf k).toNat)
      case atStart => exact ⟨0, 1, 0, by omega, rfl, rfl, Lib.hid rfl, Lib.hid (by omega), Lib.hid (by simp), rfl⟩
      case round =>
        obtain ⟨j, K, D, hj, rfl, rfl, HD, HK, HDG, rfl⟩ := hrel
        have hDb : 0 ≤ D ∧ D < 10000000000000000 := by
          have h1 := digVal_lt j (ds.take j) (by rw [List.length_take]; omega) HDG.out
          have h2 : (10 : Nat) ^ j ≤ 10 ^ 16 := Nat.pow_le_pow_right (by decide) (by omega)
          have h3 : (10 : Nat) ^ 16 = 10000000000000000 := by decide
          have h4 := HD.out
          omega
        obtain ⟨hD0, hD1⟩ := hDb
        by_cases hjl : j < ds.length
        · have hix := HGET.out K j hjl (by have := HOO.out; have := HK.out; omega)
          have hKs : (K : Int) < (s.size : Int) := by have := HK.out; have := HOO.out; omega
          have hst := dig_take hjl
          have hmem : ds[j] ∈ ds := List.getElem_mem hjl
          have hdg : ∀ c ∈ ds.take (j + 1), c ∈ ds.take j ∨ c = ds[j] := fun c hc => by
            rw [List.take_succ_eq_append_getElem hjl, List.mem_append] at hc
            simpa using hc
          have HST := Lib.hid hst; clear hst
          have HMEM := Lib.hid hmem; clear hmem
          have HDM := Lib.hid hdg; clear hdg
          have hcb := UInt8.toNat_lt ds[j]
          generalize hcc : ds[j] = cc at *
          clear hcc
          obtain ⟨C, hC⟩ : ∃ C : Int, C = (cc.toNat : Int) := ⟨_, rfl⟩
          rw [← hC] at hix
          have HCC := Lib.hid hC
          have hC0 : 0 ≤ C ∧ C < 256 := by omega
          obtain ⟨hC1, hC2⟩ := hC0
          clear hC hcb
          cases hin : inB C 48 57 with
          | false =>
            have hno := Lib.hid <| NONE.out (fun m h1 h2 h3 => by have h5 := (NP.out m h1 h2 h3).2.1 cc HMEM.out; have h4 := inB_false.1 hin; have h6 := HCC.out; omega)
            go_wp2_with (go_at_call 48; refine (l1In_c _ _ _ _).mono ?_; rintro e w' ⟨rfl, rfl⟩)
            go_ret2
            exact ⟨ret_pn hno.out, Below.refl _ _⟩
          | true =>
            obtain ⟨h48, h57⟩ := inB_true.1 hin
            have hD2 : 10 * D + (C - 48) = (digVal (ds.take (j + 1)) : Nat) := by have h1 := HST.out; have h2 := HD.out; have h3 := HCC.out; omega
            have HD2 := Lib.hid hD2; clear hD2
            have hD3 := Lib.hid (fun c (hc : c ∈ ds.take (j + 1)) => show 48 ≤ c.toNat ∧ c.toNat ≤ 57 by
              rcases HDM.out c hc with h | h
              · exact HDG.out c h
              · rw [h]; have := HCC.out; have := inB_true.1 hin; omega)
            go_wp2_with (go_at_call 48; refine (l1In_c _ _ _ _).mono ?_; rintro e w' ⟨rfl, rfl⟩)
            go_roundw
            case rel => exact ⟨j + 1, K + 1, 10 * D + (C - 48), by omega, by go_num, by go_num, HD2, Lib.hid (by have := HK.out; omega), hD3, trivial⟩
            case measure => simp [intOf]; omega
        · obtain rfl : j = ds.length := by omega
          have htk : ds.take ds.length = ds := List.take_length
          have hD4 := HD.out
          rw [htk] at hD4
          have HDD := Lib.hid hD4; clear hD4 htk
          have NP2 : Hid (∀ m : Int, -1000000000000000 ≤ m → m ≤ 1000000000000000 → numS m = s → m = -D) := fun m h1 h2 h3 => by
            obtain ⟨p1, p2, p3, -⟩ := NP.out m h1 h2 h3
            have := HDD.out
            have := of_decide_eq_true p1.symm; omega
          clear NP HGET
          have hKs : ¬ ((K : Int) < (s.size : Int)) := by have := HK.out; have := HOO.out; omega
          cases hin : inB (-D) (-1000000000000000) 1000000000000000 with
          | false =>
            have hno := Lib.hid <| NONE.out (fun m h1 h2 h3 => by have h5 := NP2.out m h1 h2 h3; have h4 := inB_false.1 hin; omega)
            go_wp2_with (go_at_call 48; refine (l1In_c _ _ _ _).mono ?_; rintro e w' ⟨rfl, rfl⟩)
            go_ret2
            exact ⟨ret_pn hno.out, Below.refl _ _⟩
          | true =>
            have hinn := Lib.hid (inB_true.1 hin)
            have HNT := Lib.hid (numText_spec (-D) wr (by have := hinn.out; omega) (by have := hinn.out; omega))
            by_cases he : numS (-D) = s
            · have hyes := Lib.hid (YES.out _ hinn.out he)
              rw [he] at HNT
              clear he NP2
              go_wp2_with (go_at_call 48; refine (l1In_c _ _ _ _).mono ?_; rintro e w' ⟨rfl, rfl⟩)
              refine HNT.out.mono ?_
              rintro _ w2 ⟨rfl, b2⟩
              have B2 := Lib.hid b2; clear b2
              go_wp2_with fail
              go_ret2
              exact ⟨ret_pn hyes.out, B2.out⟩
            · have hno := Lib.hid <| NONE.out (fun m h1 h2 h3 => by have h5 := NP2.out m h1 h2 h3; rw [h5] at h3; exact he h3)
              have hne := str_ne he
              clear he NP2
              generalize numS (-D) = tt at *
              go_wp2_with (go_at_call 48; refine (l1In_c _ _ _ _).mono ?_; rintro e w' ⟨rfl, rfl⟩)
              refine HNT.out.mono ?_
              rintro _ w2 ⟨rfl, b2⟩
              have B2 := Lib.hid b2; clear b2
              go_wp2_with fail
              go_ret2
              exact ⟨ret_pn hno.out, B2.out⟩
    | false =>
      have ho1 : o = 0 := by rw [OFF.out]; rfl
      have hz : 0 < s.size := by omega
      have hw1 : (s.size : Int) = (ds.length : Int) := by omega
      have q3 := HO.out hz
      have q1 : (c0 : Int) ≠ 45 := by have := HS1.out rfl; omega
      have HW1 := Lib.hid hw1
      have HOO := Lib.hid ho1
      clear HS0 HS1 HO OFF ho1
      go_enter Tryd.func42, Tryd.ntmps42
      go_wp2_with (go_at_call 48; refine (l1In_c _ _ _ _).mono ?_; rintro e w' ⟨rfl, rfl⟩)
      clear hlen hw1
      go_loopw [5, 6] (fun n k wr => ∃ (j K : Nat) (D : Int), j ≤ ds.length ∧ n = .int .i64 D ∧ k = .int .i64 K ∧ Hid (D = (digVal (ds.take j) : Nat)) ∧ Hid (K = j + 0) ∧ Hid (∀ c ∈ ds.take j, 48 ≤ c.toNat ∧ c.toNat ≤ 57) ∧ wr = w) (fun _ k _ => s.size - (intOf k).toNat)
      case atStart => exact ⟨0, 0, 0, by omega, rfl, rfl, Lib.hid rfl, Lib.hid (by omega), Lib.hid (by simp), rfl⟩
      case round =>
        obtain ⟨j, K, D, hj, rfl, rfl, HD, HK, HDG, rfl⟩ := hrel
        have hDb : 0 ≤ D ∧ D < 10000000000000000 := by
          have h1 := digVal_lt j (ds.take j) (by rw [List.length_take]; omega) HDG.out
          have h2 : (10 : Nat) ^ j ≤ 10 ^ 16 := Nat.pow_le_pow_right (by decide) (by omega)
          have h3 : (10 : Nat) ^ 16 = 10000000000000000 := by decide
          have h4 := HD.out
          omega
        obtain ⟨hD0, hD1⟩ := hDb
        by_cases hjl : j < ds.length
        · have hix := HGET.out K j hjl (by have := HOO.out; have := HK.out; omega)
          have hKs : (K : Int) < (s.size : Int) := by have := HK.out; have := HOO.out; omega
          have hst := dig_take hjl
          have hmem : ds[j] ∈ ds := List.getElem_mem hjl
          have hdg : ∀ c ∈ ds.take (j + 1), c ∈ ds.take j ∨ c = ds[j] := fun c hc => by
            rw [List.take_succ_eq_append_getElem hjl, List.mem_append] at hc
            simpa using hc
          have HST := Lib.hid hst; clear hst
          have HMEM := Lib.hid hmem; clear hmem
          have HDM := Lib.hid hdg; clear hdg
          have hcb := UInt8.toNat_lt ds[j]
          generalize hcc : ds[j] = cc at *
          clear hcc
          obtain ⟨C, hC⟩ : ∃ C : Int, C = (cc.toNat : Int) := ⟨_, rfl⟩
          rw [← hC] at hix
          have HCC := Lib.hid hC
          have hC0 : 0 ≤ C ∧ C < 256 := by omega
          obtain ⟨hC1, hC2⟩ := hC0
          clear hC hcb
          cases hin : inB C 48 57 with
          | false =>
            have hno := Lib.hid <| NONE.out (fun m h1 h2 h3 => by have h5 := (NP.out m h1 h2 h3).2.1 cc HMEM.out; have h4 := inB_false.1 hin; have h6 := HCC.out; omega)
            go_wp2_with (go_at_call 48; refine (l1In_c _ _ _ _).mono ?_; rintro e w' ⟨rfl, rfl⟩)
            go_ret2
            exact ⟨ret_pn hno.out, Below.refl _ _⟩
          | true =>
            obtain ⟨h48, h57⟩ := inB_true.1 hin
            have hD2 : 10 * D + (C - 48) = (digVal (ds.take (j + 1)) : Nat) := by have h1 := HST.out; have h2 := HD.out; have h3 := HCC.out; omega
            have HD2 := Lib.hid hD2; clear hD2
            have hD3 := Lib.hid (fun c (hc : c ∈ ds.take (j + 1)) => show 48 ≤ c.toNat ∧ c.toNat ≤ 57 by
              rcases HDM.out c hc with h | h
              · exact HDG.out c h
              · rw [h]; have := HCC.out; have := inB_true.1 hin; omega)
            go_wp2_with (go_at_call 48; refine (l1In_c _ _ _ _).mono ?_; rintro e w' ⟨rfl, rfl⟩)
            go_roundw
            case rel => exact ⟨j + 1, K + 1, 10 * D + (C - 48), by omega, by go_num, by go_num, HD2, Lib.hid (by have := HK.out; omega), hD3, trivial⟩
            case measure => simp [intOf]; omega
        · obtain rfl : j = ds.length := by omega
          have htk : ds.take ds.length = ds := List.take_length
          have hD4 := HD.out
          rw [htk] at hD4
          have HDD := Lib.hid hD4; clear hD4 htk
          have NP2 : Hid (∀ m : Int, -1000000000000000 ≤ m → m ≤ 1000000000000000 → numS m = s → m = D) := fun m h1 h2 h3 => by
            obtain ⟨p1, p2, p3, -⟩ := NP.out m h1 h2 h3
            have := HDD.out
            have := of_decide_eq_false p1.symm; omega
          clear NP HGET
          have hKs : ¬ ((K : Int) < (s.size : Int)) := by have := HK.out; have := HOO.out; omega
          cases hin : inB (D) (-1000000000000000) 1000000000000000 with
          | false =>
            have hno := Lib.hid <| NONE.out (fun m h1 h2 h3 => by have h5 := NP2.out m h1 h2 h3; have h4 := inB_false.1 hin; omega)
            go_wp2_with (go_at_call 48; refine (l1In_c _ _ _ _).mono ?_; rintro e w' ⟨rfl, rfl⟩)
            go_ret2
            exact ⟨ret_pn hno.out, Below.refl _ _⟩
          | true =>
            have hinn := Lib.hid (inB_true.1 hin)
            have HNT := Lib.hid (numText_spec (D) wr (by have := hinn.out; omega) (by have := hinn.out; omega))
            by_cases he : numS (D) = s
            · have hyes := Lib.hid (YES.out _ hinn.out he)
              rw [he] at HNT
              clear he NP2
              go_wp2_with (go_at_call 48; refine (l1In_c _ _ _ _).mono ?_; rintro e w' ⟨rfl, rfl⟩)
              refine HNT.out.mono ?_
              rintro _ w2 ⟨rfl, b2⟩
              have B2 := Lib.hid b2; clear b2
              go_wp2_with fail
              go_ret2
              exact ⟨ret_pn hyes.out, B2.out⟩
            · have hno := Lib.hid <| NONE.out (fun m h1 h2 h3 => by have h5 := NP2.out m h1 h2 h3; rw [h5] at h3; exact he h3)
              have hne := str_ne he
              clear he NP2
              generalize numS (D) = tt at *
              go_wp2_with (go_at_call 48; refine (l1In_c _ _ _ _).mono ?_; rintro e w' ⟨rfl, rfl⟩)
              refine HNT.out.mono ?_
              rintro _ w2 ⟨rfl, b2⟩
              have B2 := Lib.hid b2; clear b2
              go_wp2_with fail
              go_ret2
              exact ⟨ret_pn hno.out, B2.out⟩
end Go.Proofs.YtmcmhjggmhkkoaaDoor
