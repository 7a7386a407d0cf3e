/- ReadNumber of the reference: the walk. -/
import Derived.Test.YtilmhemcpgiikaaDoorCReadH
import Derived.Deep.DeepCutAuto
namespace Go.Proofs.YtilmhemcpgiikaaDoor
open Go.Deep Go.ChangeShapes Go.WideShapes Go.ChangeAt Go.RowKit
open Go.ChangeMaps (open_string shut_string)

/-- What ReadNumber returns. -/
def rnV (R : Int × Int × Int × Int) : Value := .tuple #[.int .i64 R.1, .int .i64 R.2.1, .int .i64 R.2.2.1, .int .i64 R.2.2.2]
theorem rnV_of {R : Int × Int × Int × Int} {a b c d : Int} (h : R = (a, b, c, d)) : .returned (.tuple #[.int .i64 a, .int .i64 b, .int .i64 c, .int .i64 d]) = Ending.returned (rnV R) := by rw [h]; rfl
theorem nought_cut {l : List UInt8} {q : Nat} (h : byN l q = 48) : (l.drop q).take 1 = [48] := by
  have hq : q < l.length := byN_lt (by omega)
  rw [byN_at hq] at h
  rw [List.drop_eq_getElem_cons hq, List.take_succ_cons, List.take_zero]
  have : l[q] = 48 := UInt8.toNat_inj.1 h
  rw [this]
theorem app_list (a b : ByteArray) : (a ++ b).data.toList = a.data.toList ++ b.data.toList := by
  rw [ByteArray.data_append, Array.toList_append]
theorem digs_app {a b : List UInt8} (ha : ∀ c ∈ a, 48 ≤ c.toNat ∧ c.toNat ≤ 57) (hb : ∀ c ∈ b, 48 ≤ c.toNat ∧ c.toNat ≤ 57) : ∀ c ∈ a ++ b, 48 ≤ c.toNat ∧ c.toNat ≤ 57 := by
  intro c hc
  rcases List.mem_append.1 hc with h | h
  · exact ha c h
  · exact hb c h
theorem size_list (a : ByteArray) : a.size = a.data.toList.length := by rw [Array.length_toList]; rfl

set_option maxRecDepth 100000 in
set_option maxHeartbeats 8000000 in
theorem readNumber_spec (s : ByteArray) (p : Int) (w : World) (hs : s.size ≤ 1048576) :
    Calls Tryd.prog 24 #[.string s, .int .i64 p] w fun e w' => e = .returned (rnV (rnF s.data.toList p)) ∧ w = w' := by
  have HLEN : Hid (s.data.toList.length = s.size) := Lib.hid (str_len s)
  have HIX := Lib.hid (byN_ix s)
  have H256 := Lib.hid (byN_256 s.data.toList)
  have HD := Lib.hid (fun q w (hq : q ≤ s.size) => l4Digits_c s q w hs hq)
  have HLE : Hid (∀ q, q ≤ s.size → q + (dsAt s.data.toList q).length ≤ s.size) := Lib.hid (fun q hq => by have := dsAt_le (l := s.data.toList) (p := q) (by rw [str_len]; exact hq); rw [str_len] at this; exact this)
  have HEX := Lib.hid (ext_list s)
  have HDS := Lib.hid (ext_ds s)
  have HDG := Lib.hid (dsAt_dig s.data.toList)
  obtain ⟨l, hl⟩ : ∃ l, l = s.data.toList := ⟨_, rfl⟩
  rw [← hl] at HLEN HIX H256 HD HLE HEX HDS HDG ⊢
  clear hl
  obtain ⟨R, hR⟩ : ∃ R, R = rnF l p := ⟨_, rfl⟩
  rw [← hR]
  by_cases hp : p < 0 ∨ (l.length : Int) < p
  · have e : R = (0, 0, p, 1) := by rw [hR]; exact if_pos hp
    have E := Lib.hid e
    clear hR e
    by_cases h0 : p < 0
    · clear hp
      go_enter Tryd.func24, Tryd.ntmps24
      go_wp2_with fail
      refine bodyPost_ret (v := rnV R) (by simp [rnV, E.out, results, Tryd.results24, go_sem]) rfl ⟨rfl, rfl⟩
    · have h1 : (s.size : Int) < p := by have := HLEN.out; omega
      clear hp
      go_enter Tryd.func24, Tryd.ntmps24
      go_wp2_with fail
      refine bodyPost_ret (v := rnV R) (by simp [rnV, E.out, results, Tryd.results24, go_sem]) rfl ⟨rfl, rfl⟩
  · obtain ⟨P, rfl⟩ : ∃ P : Nat, p = (P : Int) := ⟨p.toNat, by omega⟩
    have hP : P ≤ s.size := by have := HLEN.out; omega
    have HR0 : Hid (R = if byN l P = 45 then rn1 l true (P + 1) else rn1 l false P) := Lib.hid (by rw [hR]; exact if_neg hp)
    have hr0 : decide ((s.size : Int) < (P : Int)) = false := decide_eq_false (by omega)
    clear hR hp
    obtain ⟨wc, hwc⟩ : ∃ x, x = w := ⟨_, rfl⟩
    rw [← hwc]
    clear hwc
    go_enter Tryd.func24, Tryd.ntmps24
    obtain ⟨b1, hb1⟩ : ∃ b : Bool, b = decide (byN l P = 45) := ⟨_, rfl⟩
    have Hb1 := Lib.hid hb1; clear hb1
    go_upto_region 4 with fail
    go_cut [38] (fun sv wx => sv = .bool b1 ∧ wx = wc)
    case first => as_aux_lemma =>
      have hval := Hb1.out
      have hlen := HLEN.out
      by_cases hq : P < s.size
      · have hix := HIX.out P hq
        have hlt : (P : Int) < (s.size : Int) := by omega
        have hcb := H256.out P
        obtain ⟨C, hC⟩ : ∃ C : Int, C = (byN l P : Int) := ⟨_, rfl⟩
        rw [← hC] at hix
        by_cases hv0 : C = 45
        · have E := Lib.hid (show b1 = true by rw [hval]; exact decide_eq_true (by omega))
          subst hv0
          clear hC hcb hval
          go_wp2_with fail
          go_meet
          case rel => exact ⟨by rw [E.out], rfl⟩
        · have hb0 : (C == 45) = false := by simpa using hv0
          have E := Lib.hid (show b1 = false by rw [hval]; exact decide_eq_false (by omega))
          clear hC hcb hval
          go_wp2_with fail
          go_meet
          case rel => exact ⟨by rw [E.out], rfl⟩
      · have hnl : decide ((P : Int) < (s.size : Int)) = false := decide_eq_false (by omega)
        have E := Lib.hid (show b1 = false by rw [hval, byN_out (by omega)]; decide)
        clear hval
        go_wp2_with fail
        go_meet
        case rel => exact ⟨by rw [E.out], rfl⟩
    case rest =>
      obtain ⟨rfl, rfl⟩ := hcut
      go_upto_if 38 with fail
      go_cut [1, 8] (fun s1 s8 wx => ∃ (Q : Nat) (ng : Bool) (sg : Int), s1 = .int .i64 (Q : Int) ∧ s8 = .int .i64 sg ∧ wx = wc ∧ Q ≤ s.size ∧ (sg = 1 ∨ sg = -1) ∧ Hid (R = rn1 l ng Q ∧ sg = if ng = true then -1 else 1))
      case first => as_aux_lemma =>
        have hb := Hb1.out
        have hr := HR0.out
        cases b1 with
        | true =>
          have hv := of_decide_eq_true hb.symm
          have hlt := byN_lt (l := l) (q := P) (by omega)
          rw [if_pos hv] at hr
          have hq1 : P + 1 ≤ s.size := by have := HLEN.out; omega
          have HH := Lib.hid (⟨hr, rfl⟩ : R = rn1 l true (P + 1) ∧ (-1 : Int) = if true = true then -1 else 1)
          clear hv hlt hr hb
          go_wp2_with fail
          go_meet
          case rel => exact ⟨P + 1, true, -1, by go_num, rfl, rfl, hq1, .inr rfl, HH⟩
        | false =>
          have hv := of_decide_eq_false hb.symm
          rw [if_neg hv] at hr
          have HH := Lib.hid (⟨hr, rfl⟩ : R = rn1 l false P ∧ (1 : Int) = if false = true then -1 else 1)
          clear hv hr hb
          go_wp2_with fail
          go_meet
          case rel => exact ⟨P, false, 1, rfl, rfl, rfl, hP, .inl rfl, HH⟩
      case rest =>
        obtain ⟨Q, ng, sg, rfl, rfl, rfl, hQ, hsg, HR1⟩ := hcut
        clear HR0 Hb1 hr0
        have hc := HD.out Q wc hQ
        have hle := HLE.out Q hQ
        obtain ⟨n, hn⟩ : ∃ n, n = (dsAt l Q).length := ⟨_, rfl⟩
        rw [← hn] at hc hle
        obtain ⟨Z, hZ⟩ : ∃ Z : Nat, Z = Q + n := ⟨_, rfl⟩
        rw [← hZ] at hc
        have HC := Lib.hid hc; clear hc
        by_cases hn0 : n = 0
        · have E : Hid (R = (0, 0, (Z : Int), 1)) := Lib.hid (by rw [HR1.out.1, hZ, hn0]; exact if_pos (dsAt_nil.2 (by rw [← hn]; exact hn0)))
          have hzq : Z = Q := by omega
          clear hn hn0 hZ hle
          subst hzq
          go_wp2_with fail
          refine HC.out.mono ?_
          rintro _ _ ⟨rfl, rfl⟩
          go_wp2_with fail
          refine bodyPost_ret (v := rnV R) (by simp [rnV, E.out, results, Tryd.results24, go_sem]) rfl ⟨rfl, rfl⟩
        · have hne : ((Z : Int) == (Q : Int)) = false := by simp; omega
          have hne2 : dsAt l Q ≠ [] := fun e => hn0 (by rw [hn, e]; rfl)
          have hr1 : R = if byN l Q = 48 then rn2 l ng [48] (Q + 1) else rn2 l ng (dsAt l Q) (Q + n) := by rw [HR1.out.1, hn]; exact if_neg hne2
          have HR2 := Lib.hid hr1
          have HSG := Lib.hid HR1.out.2
          have hqlt : Q < s.size := by omega
          have HN := Lib.hid (⟨hn, hZ⟩ : n = (dsAt l Q).length ∧ Z = Q + n)
          have hZ2 : Q < Z ∧ Z ≤ s.size := by omega
          clear hr1 hne2 hn hle HR1 hZ hn0
          go_wp2_with fail
          refine HC.out.mono ?_
          rintro _ _ ⟨rfl, rfl⟩
          clear HC
          have hix := HIX.out Q hqlt
          have hqlt' : (Q : Int) < (s.size : Int) := by omega
          obtain ⟨C, hC⟩ : ∃ C : Int, C = (byN l Q : Int) := ⟨_, rfl⟩
          rw [← hC] at hix
          have HCC := Lib.hid hC; clear hC
          go_upto_if 52 with fail
          go_cut [1] (fun s1 wx => ∃ (Y : Nat), s1 = .int .i64 (Y : Int) ∧ wx = wc ∧ Q < Y ∧ Y ≤ s.size ∧ Hid (∃ wh, (s.extract Q Y).data.toList = wh ∧ (∀ c ∈ wh, 48 ≤ c.toNat ∧ c.toNat ≤ 57) ∧ R = rn2 l ng wh Y))
          case first => as_aux_lemma =>
            by_cases h48 : C = 48
            · have HH : Hid (∃ wh, (s.extract Q (Q + 1)).data.toList = wh ∧ (∀ c ∈ wh, 48 ≤ c.toNat ∧ c.toNat ≤ 57) ∧ R = rn2 l ng wh (Q + 1)) := by
                have h8 : byN l Q = 48 := by have := HCC.out; omega
                refine Lib.hid ⟨[48], ?_, ?_, ?_⟩
                · rw [HEX.out Q 1, nought_cut h8]
                · intro c hc; rw [List.mem_singleton.1 hc]; decide
                · rw [HR2.out, if_pos h8]
              subst h48
              go_wp2_with fail
              go_meet
              case rel => exact ⟨Q + 1, by go_num, rfl, by omega, by omega, HH⟩
            · have HH : Hid (∃ wh, (s.extract Q Z).data.toList = wh ∧ (∀ c ∈ wh, 48 ≤ c.toNat ∧ c.toNat ≤ 57) ∧ R = rn2 l ng wh Z) := by
                have h8 : ¬ byN l Q = 48 := by have := HCC.out; omega
                refine Lib.hid ⟨dsAt l Q, ?_, HDG.out Q, ?_⟩
                · rw [HN.out.2, HN.out.1]; exact HDS.out Q
                · rw [HR2.out, if_neg h8, HN.out.2]
              have hb8 : (C == 48) = false := by simpa using h48
              go_wp2_with fail
              go_meet
              case rel => exact ⟨Z, rfl, rfl, by omega, by omega, HH⟩
          case rest =>
            obtain ⟨Y, rfl, rfl, hQY, hY, HR3⟩ := hcut
            clear hix HCC HR2 HN hne hZ2
            have hqy : (Q : Int) ≤ (Y : Int) := by omega
            have hys : (Y : Int) ≤ (s.size : Int) := by omega
            obtain ⟨b2, hb2⟩ : ∃ b : Bool, b = decide (byN l Y = 46) := ⟨_, rfl⟩
            have Hb2 := Lib.hid hb2; clear hb2
            go_upto_region 15 with fail
            go_cut [68] (fun sv wx => sv = .bool b2 ∧ wx = wc)
            case first => as_aux_lemma =>
              have hval := Hb2.out
              have hlen := HLEN.out
              by_cases hq : Y < s.size
              · have hix := HIX.out Y hq
                have hlt : (Y : Int) < (s.size : Int) := by omega
                have hcb := H256.out Y
                obtain ⟨C, hC⟩ : ∃ C : Int, C = (byN l Y : Int) := ⟨_, rfl⟩
                rw [← hC] at hix
                by_cases hv0 : C = 46
                · have E := Lib.hid (show b2 = true by rw [hval]; exact decide_eq_true (by omega))
                  subst hv0
                  clear hC hcb hval
                  go_wp2_with fail
                  go_meet
                  case rel => exact ⟨by rw [E.out], rfl⟩
                · have hb0 : (C == 46) = false := by simpa using hv0
                  have E := Lib.hid (show b2 = false by rw [hval]; exact decide_eq_false (by omega))
                  clear hC hcb hval
                  go_wp2_with fail
                  go_meet
                  case rel => exact ⟨by rw [E.out], rfl⟩
              · have hnl : decide ((Y : Int) < (s.size : Int)) = false := decide_eq_false (by omega)
                have E := Lib.hid (show b2 = false by rw [hval, byN_out (by omega)]; decide)
                clear hval
                go_wp2_with fail
                go_meet
                case rel => exact ⟨by rw [E.out], rfl⟩
            case rest =>
              obtain ⟨rfl, rfl⟩ := hcut
              obtain ⟨D, hD⟩ : ∃ D, D = s.extract Q Y := ⟨_, rfl⟩
              rw [← hD] at HR3
              rw [← hD]
              have hDs : D.size ≤ 1048576 := by rw [hD, ByteArray.size_extract]; omega
              clear hD
              go_upto_if 68 with fail
              go_cut [1, 10, 11, 12] (fun s1 s10 s11 s12 wx => ∃ (Y2 fr : Nat) (D2 : ByteArray), s1 = .int .i64 (Y2 : Int) ∧ s10 = .string D2 ∧ s11 = .int .i64 (fr : Int) ∧ wx = wc ∧ Y2 ≤ s.size ∧ fr ≤ s.size ∧ D2.size ≤ 2097152 ∧ Hid ((∀ c ∈ D2.data.toList, 48 ≤ c.toNat ∧ c.toNat ≤ 57) ∧ R = rn3 l ng D2.data.toList fr Y2))
              case first => as_aux_lemma =>
                have hb := Hb2.out
                obtain ⟨wh, hw1, hw2, hw3⟩ := HR3.out
                cases b2 with
                | true =>
                  have hv := of_decide_eq_true hb.symm
                  have hlt := byN_lt (l := l) (q := Y) (by omega)
                  have hq1 : Y + 1 ≤ s.size := by have := HLEN.out; omega
                  have hc := HD.out (Y + 1) wc hq1
                  have hle := HLE.out (Y + 1) hq1
                  obtain ⟨n, hn⟩ : ∃ n, n = (dsAt l (Y + 1)).length := ⟨_, rfl⟩
                  rw [← hn] at hc hle
                  obtain ⟨Z, hZ⟩ : ∃ Z : Nat, Z = Y + 1 + n := ⟨_, rfl⟩
                  rw [← hZ] at hc
                  rw [show (((Y + 1 : Nat)) : Int) = (Y : Int) + 1 by omega] at hc
                  have HC := Lib.hid hc; clear hc
                  by_cases hn0 : n = 0
                  · have E : Hid (R = (0, 0, (Z : Int), 1)) := Lib.hid (by
                      rw [hw3]; unfold rn2
                      rw [if_pos hv, if_pos (dsAt_nil.2 (by rw [← hn]; exact hn0)), hZ, hn0])
                    have hzq : (Z : Int) = (Y : Int) + 1 := by omega
                    have HZQ := Lib.hid hzq
                    clear hn hn0 hle hw3 hw1 hw2 hb hv hlt hZ
                    go_wp2_with fail
                    refine HC.out.mono ?_
                    rintro _ _ ⟨rfl, rfl⟩
                    go_wp2_with fail
                    refine bodyPost_ret (v := rnV R) (by simp [rnV, E.out, HZQ.out, results, Tryd.results24, go_sem]) rfl ⟨rfl, rfl⟩
                  · have hne2 : dsAt l (Y + 1) ≠ [] := fun e => hn0 (by rw [hn, e]; rfl)
                    have hne : ((Z : Int) == (Y : Int) + 1) = false := by simp; omega
                    have hzy : (Y : Int) + 1 ≤ (Z : Int) := by omega
                    have hzs : (Z : Int) ≤ (s.size : Int) := by omega
                    have hpt : (Z : Int) - (Y : Int) - 1 = (n : Int) := by omega
                    have hdl : (s.extract (Y + 1) Z).data.toList = dsAt l (Y + 1) := by rw [hZ, hn]; exact HDS.out (Y + 1)
                    have HH : Hid ((∀ c ∈ (D ++ s.extract (Y + 1) Z).data.toList, 48 ≤ c.toNat ∧ c.toNat ≤ 57) ∧ R = rn3 l ng (D ++ s.extract (Y + 1) Z).data.toList n Z) := Lib.hid (by
                      rw [app_list, hdl, hw1]
                      refine ⟨digs_app hw2 (HDG.out _), ?_⟩
                      rw [hw3]; unfold rn2
                      rw [if_pos hv, if_neg hne2, hZ, hn])
                    have hsz : (D ++ s.extract (Y + 1) Z).size ≤ 2097152 := by rw [ByteArray.size_append, ByteArray.size_extract]; omega
                    have hns : n ≤ s.size := by omega
                    have HPT := Lib.hid hpt
                    have hty : ((Y : Int) + 1).toNat = Y + 1 := by omega
                    clear hn hn0 hle hw3 hw1 hw2 hb hv hlt hne2 hdl hZ hpt
                    go_wp2_with fail
                    refine HC.out.mono ?_
                    rintro _ _ ⟨rfl, rfl⟩
                    go_wp2_with fail
                    go_meet
                    case rel => exact ⟨Z, n, _, rfl, by simp [hty], by rw [HPT.out], rfl, by omega, hns, hsz, HH⟩
                | false =>
                  have hv := of_decide_eq_false hb.symm
                  have HH : Hid ((∀ c ∈ D.data.toList, 48 ≤ c.toNat ∧ c.toNat ≤ 57) ∧ R = rn3 l ng D.data.toList 0 Y) := Lib.hid (by
                    rw [hw1]
                    refine ⟨hw2, ?_⟩
                    rw [hw3]; unfold rn2
                    rw [if_neg hv])
                  clear hb hv hw1 hw2 hw3
                  go_wp2_with fail
                  go_meet
                  case rel => exact ⟨Y, 0, D, rfl, rfl, rfl, rfl, hY, by omega, by omega, HH⟩
              case rest =>
                obtain ⟨Y2, fr, D2, rfl, rfl, rfl, rfl, hY2, hfr, hD2, HR4⟩ := hcut
                clear HR3 Hb2 hDs D hqy hys hQY hY
                obtain ⟨b3, hb3⟩ : ∃ b : Bool, b = decide (byN l Y2 = 101 ∨ byN l Y2 = 69) := ⟨_, rfl⟩
                have Hb3 := Lib.hid hb3; clear hb3
                go_upto_region 24 with fail
                go_cut [105] (fun sv wx => sv = .bool b3 ∧ wx = wc)
                case first => as_aux_lemma =>
                  have hval := Hb3.out
                  have hlen := HLEN.out
                  by_cases hq : Y2 < s.size
                  · have hix := HIX.out Y2 hq
                    have hlt : (Y2 : Int) < (s.size : Int) := by omega
                    have hcb := H256.out Y2
                    obtain ⟨C, hC⟩ : ∃ C : Int, C = (byN l Y2 : Int) := ⟨_, rfl⟩
                    rw [← hC] at hix
                    by_cases hv0 : C = 101
                    · have E := Lib.hid (show b3 = true by rw [hval]; exact decide_eq_true (by omega))
                      subst hv0
                      clear hC hcb hval
                      go_wp2_with fail
                      go_meet
                      case rel => exact ⟨by rw [E.out], rfl⟩
                    · have hb0 : (C == 101) = false := by simpa using hv0
                      by_cases hv1 : C = 69
                      · have E := Lib.hid (show b3 = true by rw [hval]; exact decide_eq_true (by omega))
                        subst hv1
                        clear hC hcb hval
                        go_wp2_with fail
                        go_meet
                        case rel => exact ⟨by rw [E.out], rfl⟩
                      · have hb1 : (C == 69) = false := by simpa using hv1
                        have E := Lib.hid (show b3 = false by rw [hval]; exact decide_eq_false (by omega))
                        clear hC hcb hval
                        go_wp2_with fail
                        go_meet
                        case rel => exact ⟨by rw [E.out], rfl⟩
                  · have hnl : decide ((Y2 : Int) < (s.size : Int)) = false := decide_eq_false (by omega)
                    have E := Lib.hid (show b3 = false by rw [hval, byN_out (by omega)]; decide)
                    clear hval
                    go_wp2_with fail
                    go_meet
                    case rel => exact ⟨by rw [E.out], rfl⟩
                case rest =>
                  obtain ⟨rfl, rfl⟩ := hcut
                  go_upto_if 105 with fail
                  go_cut [1, 13, 14, 15, 16, 17] (fun s1 s13 s14 s15 s16 s17 wx => ∃ (q : Nat) (X : Int) (ft : Bool), s1 = .int .i64 (q : Int) ∧ s13 = .int .i64 X ∧ s14 = .bool ft ∧ wx = wc ∧ -1000 ≤ X ∧ X ≤ 1000 ∧ Hid (R = if 17 < (sigL D2.data.toList).length ∨ ft = false then (0, 0, (q : Int), 2) else ((if ng = true then -(digVal D2.data.toList : Int) else (digVal D2.data.toList : Int)), X - (fr : Int), (q : Int), 0)))
                  case first => as_aux_lemma =>
                    have hb := Hb3.out
                    have hr := HR4.out.2
                    unfold rn3 at hr
                    cases b3 with
                    | true =>
                      have hv := of_decide_eq_true hb.symm
                      have hlt := byN_lt (l := l) (q := Y2) (by omega)
                      have hq1 : Y2 + 1 ≤ s.size := by have := HLEN.out; omega
                      rw [if_pos hv] at hr
                      obtain ⟨J, hJ⟩ : ∃ J : Nat, J = Y2 + 1 := ⟨_, rfl⟩
                      have hJi : (Y2 : Int) + 1 = (J : Int) := by omega
                      rw [show Y2 + 2 = J + 1 by omega, ← hJ] at hr
                      have HRJ := Lib.hid hr
                      have hJs : J ≤ s.size := by omega
                      have HJI := Lib.hid hJi
                      clear hr hb hv hlt hJ hq1 hJi
                      go_upto_region 26 with fail
                      rw [HJI.out]
                      clear HJI
                      obtain ⟨dn, hdn⟩ : ∃ b : Bool, b = decide (byN l J = 45) := ⟨_, rfl⟩
                      have Hdn := Lib.hid hdn; clear hdn
                      go_cut [16] (fun sv wx => sv = .bool dn ∧ wx = wc)
                      case first => as_aux_lemma =>
                          have hval := Hdn.out
                          have hlen := HLEN.out
                          by_cases hq : J < s.size
                          · have hix := HIX.out J hq
                            have hlt : (J : Int) < (s.size : Int) := by omega
                            have hcb := H256.out J
                            obtain ⟨C, hC⟩ : ∃ C : Int, C = (byN l J : Int) := ⟨_, rfl⟩
                            rw [← hC] at hix
                            by_cases hv0 : C = 45
                            · have E := Lib.hid (show dn = true by rw [hval]; exact decide_eq_true (by omega))
                              subst hv0
                              clear hC hcb hval
                              go_wp2_with fail
                              go_meet
                              case rel => exact ⟨by rw [E.out], rfl⟩
                            · have hb0 : (C == 45) = false := by simpa using hv0
                              have E := Lib.hid (show dn = false by rw [hval]; exact decide_eq_false (by omega))
                              clear hC hcb hval
                              go_wp2_with fail
                              go_meet
                              case rel => exact ⟨by rw [E.out], rfl⟩
                          · have hnl : decide ((J : Int) < (s.size : Int)) = false := decide_eq_false (by omega)
                            have E := Lib.hid (show dn = false by rw [hval, byN_out (by omega)]; decide)
                            clear hval
                            go_wp2_with fail
                            go_meet
                            case rel => exact ⟨by rw [E.out], rfl⟩
                      case rest =>
                        obtain ⟨rfl, rfl⟩ := hcut
                        obtain ⟨b4, hb4⟩ : ∃ b : Bool, b = decide (byN l J = 45 ∨ byN l J = 43) := ⟨_, rfl⟩
                        have Hb4 := Lib.hid hb4; clear hb4
                        go_upto_region 27 with fail
                        go_cut [133] (fun sv wx => sv = .bool b4 ∧ wx = wc)
                        case first => as_aux_lemma =>
                          have hval := Hb4.out
                          have hlen := HLEN.out
                          by_cases hq : J < s.size
                          · have hix := HIX.out J hq
                            have hlt : (J : Int) < (s.size : Int) := by omega
                            have hcb := H256.out J
                            obtain ⟨C, hC⟩ : ∃ C : Int, C = (byN l J : Int) := ⟨_, rfl⟩
                            rw [← hC] at hix
                            by_cases hv0 : C = 45
                            · have E := Lib.hid (show b4 = true by rw [hval]; exact decide_eq_true (by omega))
                              subst hv0
                              clear hC hcb hval
                              go_wp2_with fail
                              go_meet
                              case rel => exact ⟨by rw [E.out], rfl⟩
                            · have hb0 : (C == 45) = false := by simpa using hv0
                              by_cases hv1 : C = 43
                              · have E := Lib.hid (show b4 = true by rw [hval]; exact decide_eq_true (by omega))
                                subst hv1
                                clear hC hcb hval
                                go_wp2_with fail
                                go_meet
                                case rel => exact ⟨by rw [E.out], rfl⟩
                              · have hb1 : (C == 43) = false := by simpa using hv1
                                have E := Lib.hid (show b4 = false by rw [hval]; exact decide_eq_false (by omega))
                                clear hC hcb hval
                                go_wp2_with fail
                                go_meet
                                case rel => exact ⟨by rw [E.out], rfl⟩
                          · have hnl : decide ((J : Int) < (s.size : Int)) = false := decide_eq_false (by omega)
                            have E := Lib.hid (show b4 = false by rw [hval, byN_out (by omega)]; decide)
                            clear hval
                            go_wp2_with fail
                            go_meet
                            case rel => exact ⟨by rw [E.out], rfl⟩
                        case rest =>
                          obtain ⟨rfl, rfl⟩ := hcut
                          go_upto_if 133 with fail
                          go_cut [15] (fun sv wx => ∃ K : Nat, sv = .int .i64 (K : Int) ∧ wx = wc ∧ K ≤ s.size ∧ Hid (R = if dsAt l K = [] then (0, 0, (K : Int), 1) else rn4 ng D2.data.toList fr (dsAt l K) dn (K + (dsAt l K).length)))
                          case first => as_aux_lemma =>
                            have hb := Hb4.out
                            have hr := HRJ.out
                            rw [← Hdn.out] at hr
                            cases b4 with
                            | true =>
                              have hv := of_decide_eq_true hb.symm
                              have hlt := byN_lt (l := l) (q := J) (by omega)
                              have hq1 : J + 1 ≤ s.size := by have := HLEN.out; omega
                              rw [if_pos hv] at hr
                              have HH := Lib.hid hr
                              clear hr hb hv hlt
                              go_wp2_with fail
                              go_meet
                              case rel => exact ⟨J + 1, by go_num, rfl, hq1, HH⟩
                            | false =>
                              have hv := of_decide_eq_false hb.symm
                              rw [if_neg hv] at hr
                              have HH := Lib.hid hr
                              clear hr hb hv
                              go_wp2_with fail
                              go_meet
                              case rel => exact ⟨J, rfl, rfl, hJs, HH⟩
                          case rest =>
                            obtain ⟨K, rfl, rfl, hK, HRK⟩ := hcut
                            have hc := HD.out K wc hK
                            have hle := HLE.out K hK
                            obtain ⟨n, hn⟩ : ∃ n, n = (dsAt l K).length := ⟨_, rfl⟩
                            have hr := HRK.out
                            rw [← hn] at hc hle hr
                            obtain ⟨Z, hZ⟩ : ∃ Z : Nat, Z = K + n := ⟨_, rfl⟩
                            rw [← hZ] at hc hr
                            have HC := Lib.hid hc; clear hc HRK HRJ Hb4 Hdn
                            by_cases hn0 : n = 0
                            · have E : Hid (R = (0, 0, (Z : Int), 1)) := Lib.hid (by
                                rw [if_pos (dsAt_nil.2 (by rw [← hn]; exact hn0))] at hr
                                exact hr.trans (by rw [hZ, hn0]; first | done | rfl))
                              have hzq : Z = K := by omega
                              clear hn hn0 hle hr hZ
                              subst hzq
                              go_wp2_with fail
                              refine HC.out.mono ?_
                              rintro _ _ ⟨rfl, rfl⟩
                              go_wp2_with fail
                              refine bodyPost_ret (v := rnV R) (by simp [rnV, E.out, results, Tryd.results24, go_sem]) rfl ⟨rfl, rfl⟩
                            · have hne2 : dsAt l K ≠ [] := fun e => hn0 (by rw [hn, e]; rfl)
                              rw [if_neg hne2] at hr
                              unfold rn4 at hr
                              rw [← hn] at hr
                              have hne : ((Z : Int) == (K : Int)) = false := by simp; omega
                              have hzy : (K : Int) ≤ (Z : Int) := by omega
                              have hzs : (Z : Int) ≤ (s.size : Int) := by omega
                              have hzk : (Z : Int) - (K : Int) = (n : Int) := by omega
                              by_cases h3 : n ≤ 3
                              · have hdl : (s.extract K Z).data.toList = dsAt l K := by rw [hZ, hn]; exact HDS.out K
                                have hdg : ∀ c ∈ (s.extract K Z).data.toList, 48 ≤ c.toNat ∧ c.toNat ≤ 57 := by rw [hdl]; exact HDG.out K
                                have hcv := fun w => l4Value_c (s.extract K Z) 3 w (by omega) (by rw [ByteArray.size_extract]; omega) hdg
                                have hsl := sigL_le (dsAt l K)
                                rw [hdl, if_pos (by omega)] at hcv
                                have hv3 := sig_lt (HDG.out K) (k := 3) (by omega)
                                obtain ⟨V, hV⟩ : ∃ V : Int, V = (digVal (dsAt l K) : Int) := ⟨_, rfl⟩
                                rw [← hV] at hcv hr
                                have hV3 : 0 ≤ V ∧ V < 1000 := by rw [hV]; omega
                                have HCV := Lib.hid hcv
                                have hr2 : ∀ X : Int, (X = if dn = true then -V else V) → R = if 17 < (sigL D2.data.toList).length ∨ true = false then (0, 0, (Z : Int), 2) else ((if ng = true then -(digVal D2.data.toList : Int) else (digVal D2.data.toList : Int)), X - (fr : Int), (Z : Int), 0) := by
                                  intro X hX
                                  rw [hr, hX]
                                  by_cases h17 : 17 < (sigL D2.data.toList).length
                                  · rw [if_pos (.inl h17), if_pos (.inl h17)]
                                  · rw [if_neg (show ¬ (17 < (sigL D2.data.toList).length ∨ 3 < n) by omega), if_neg (show ¬ (17 < (sigL D2.data.toList).length ∨ true = false) by simpa using h17)]
                                have HRX := Lib.hid hr2
                                have h3' : (n : Int) ≤ 3 := by omega
                                obtain ⟨Nn, hNn⟩ : ∃ x : Int, x = (n : Int) := ⟨_, rfl⟩
                                rw [← hNn] at h3' hzk
                                obtain ⟨v0, v1⟩ := hV3
                                clear hn hn0 hle hr hZ hdl hdg hcv hsl hv3 hV hne2 hr2 h3 hNn
                                cases dn with
                                | true =>
                                  go_wp2_with fail
                                  refine HC.out.mono ?_
                                  rintro _ _ ⟨rfl, rfl⟩
                                  go_wp2_with fail
                                  refine (HCV.out _).mono ?_
                                  rintro _ _ ⟨rfl, rfl⟩
                                  go_wp2_with fail
                                  go_meet
                                  case rel => exact ⟨Z, -V, true, rfl, by go_num, rfl, rfl, by omega, by omega, Lib.hid (HRX.out _ rfl)⟩
                                | false =>
                                  go_wp2_with fail
                                  refine HC.out.mono ?_
                                  rintro _ _ ⟨rfl, rfl⟩
                                  go_wp2_with fail
                                  refine (HCV.out _).mono ?_
                                  rintro _ _ ⟨rfl, rfl⟩
                                  go_wp2_with fail
                                  go_meet
                                  case rel => exact ⟨Z, V, true, rfl, rfl, rfl, rfl, by omega, by omega, Lib.hid (HRX.out _ rfl)⟩
                              · have HRX : Hid (R = (0, 0, (Z : Int), 2)) := Lib.hid (by rw [hr, if_pos (.inr (by omega))])
                                have h3' : decide ((n : Int) ≤ 3) = false := decide_eq_false (by omega)
                                obtain ⟨Nn, hNn⟩ : ∃ x : Int, x = (n : Int) := ⟨_, rfl⟩
                                rw [← hNn] at h3' hzk
                                clear hn hn0 hle hr hZ hne2 h3 hNn
                                cases dn with
                                | true =>
                                  go_wp2_with fail
                                  refine HC.out.mono ?_
                                  rintro _ _ ⟨rfl, rfl⟩
                                  go_wp2_with fail
                                  go_meet
                                  case rel => exact ⟨Z, 0, false, rfl, by go_num, rfl, rfl, by omega, by omega, Lib.hid (by rw [HRX.out, if_pos (.inr rfl)])⟩
                                | false =>
                                  go_wp2_with fail
                                  refine HC.out.mono ?_
                                  rintro _ _ ⟨rfl, rfl⟩
                                  go_wp2_with fail
                                  go_meet
                                  case rel => exact ⟨Z, 0, false, rfl, rfl, rfl, rfl, by omega, by omega, Lib.hid (by rw [HRX.out, if_pos (.inr rfl)])⟩
                    | false =>
                      have hv := of_decide_eq_false hb.symm
                      rw [if_neg hv] at hr
                      unfold rn4 at hr
                      have e0 : digVal [] = 0 := rfl
                      rw [e0] at hr
                      have HRX : Hid (R = if 17 < (sigL D2.data.toList).length ∨ true = false then (0, 0, (Y2 : Int), 2) else ((if ng = true then -(digVal D2.data.toList : Int) else (digVal D2.data.toList : Int)), 0 - (fr : Int), (Y2 : Int), 0)) := Lib.hid (by
                        rw [hr]
                        by_cases h17 : 17 < (sigL D2.data.toList).length
                        · rw [if_pos (.inl h17), if_pos (.inl h17)]
                        · rw [if_neg (show ¬ (17 < (sigL D2.data.toList).length ∨ 3 < ([] : List UInt8).length) by simpa using h17), if_neg (show ¬ (17 < (sigL D2.data.toList).length ∨ true = false) by simpa using h17)]
                          simp)
                      clear hr hb hv e0
                      go_wp2_with fail
                      go_meet
                      case rel => exact ⟨Y2, 0, true, rfl, rfl, rfl, rfl, by omega, by omega, HRX⟩
                  case rest =>
                    obtain ⟨q, X, ft, rfl, rfl, rfl, rfl, hX0, hX1, HR5⟩ := hcut
                    have hcv := l4Value_c D2 17 wc (by omega) hD2 HR4.out.1
                    have hr := HR5.out
                    by_cases h17 : (sigL D2.data.toList).length ≤ 17
                    · rw [if_pos h17] at hcv
                      have hv17 := sig_lt HR4.out.1 h17
                      have h10 : (10 : Nat) ^ 17 = 100000000000000000 := by decide
                      obtain ⟨V, hV⟩ : ∃ V : Int, V = (digVal D2.data.toList : Int) := ⟨_, rfl⟩
                      rw [← hV] at hcv hr
                      have hVb : 0 ≤ V ∧ V < 100000000000000000 := by rw [hV]; omega
                      have HC := Lib.hid hcv
                      obtain ⟨v0, v1⟩ := hVb
                      cases ft with
                      | true =>
                        rw [if_neg (by simpa using h17)] at hr
                        have hs2 : sg * V = if ng = true then -V else V := by
                          rw [HSG.out]; cases ng <;> simp
                        rw [← hs2] at hr
                        have HRX := Lib.hid hr
                        clear hcv hv17 h10 hV hr hs2 h17 HR5 HR4
                        rcases hsg with rfl | rfl
                        · have e1 : (1 : Int) * V = V := Int.one_mul V
                          go_wp2_with fail
                          refine HC.out.mono ?_
                          rintro _ _ ⟨rfl, rfl⟩
                          go_wp2_with fail
                          refine bodyPost_ret (v := rnV R) (by simp [rnV, HRX.out, e1, results, Tryd.results24, go_sem]) rfl ⟨rfl, rfl⟩
                        · have e1 : (-1 : Int) * V = -V := by omega
                          go_wp2_with fail
                          refine HC.out.mono ?_
                          rintro _ _ ⟨rfl, rfl⟩
                          go_wp2_with fail
                          refine bodyPost_ret (v := rnV R) (by simp [rnV, HRX.out, e1, results, Tryd.results24, go_sem]) rfl ⟨rfl, rfl⟩
                      | false =>
                        rw [if_pos (.inr rfl)] at hr
                        have HRX := Lib.hid hr
                        clear hcv hv17 h10 hV hr h17 HR5 HR4
                        go_wp2_with fail
                        refine HC.out.mono ?_
                        rintro _ _ ⟨rfl, rfl⟩
                        go_wp2_with fail
                        refine bodyPost_ret (v := rnV R) (by simp [rnV, HRX.out, results, Tryd.results24, go_sem]) rfl ⟨rfl, rfl⟩
                    · rw [if_neg h17] at hcv
                      rw [if_pos (.inl (by omega))] at hr
                      have HRX := Lib.hid hr
                      have HC := Lib.hid hcv
                      clear hcv hr h17 HR5 HR4
                      go_wp2_with fail
                      refine HC.out.mono ?_
                      rintro _ _ ⟨rfl, rfl⟩
                      go_wp2_with fail
                      refine bodyPost_ret (v := rnV R) (by simp [rnV, HRX.out, results, Tryd.results24, go_sem]) rfl ⟨rfl, rfl⟩
end Go.Proofs.YtilmhemcpgiikaaDoor
