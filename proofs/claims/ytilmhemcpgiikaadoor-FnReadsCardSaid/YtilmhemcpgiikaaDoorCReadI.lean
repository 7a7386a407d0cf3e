/- ReadNumber of the program: the walk. -/
import Derived.Test.YtilmhemcpgiikaaDoorCReadS
import Derived.Test.YtilmhemcpgiikaaDoorShelf
namespace Go.Proofs.YtilmhemcpgiikaaDoor
open Go.Deep Go.ChangeShapes Go.WideShapes Go.ChangeAt Go.RowKit
open Go.ChangeMaps (open_string shut_string)

theorem pre_nought : ∀ (l : List UInt8), Lib.hasPrefix l [48] = decide (byN l 0 = 48)
  | [] => by simp [Lib.hasPrefix, byN]
  | c :: l => by
    have : (48 == c) = decide (c.toNat = 48) := by
      by_cases h : c.toNat = 48
      · have : c = 48 := UInt8.toNat_inj.1 h
        subst this; rfl
      · have hc : ¬ 48 = c := fun e => h (by rw [← e]; rfl)
        simp [h, hc]
    simp [Lib.hasPrefix, show byN (c :: l) 0 = c.toNat from rfl, List.isPrefixOf, this]
theorem str_some {t : ByteArray} (h : 0 < t.size) : (t.toList == ({ data := #[] } : ByteArray).toList) = false := by
  rw [ByteArray.toList_eq, ByteArray.toList_eq]
  simp only [beq_eq_false_iff_ne, ne_eq]
  intro e
  have h3 : t.data.toList.length = t.size := Array.length_toList
  rw [e] at h3
  simp at h3
  omega
theorem str_some2 {t : ByteArray} (h : 0 < t.size) : t.toList.isEmpty = false := by
  rw [ByteArray.toList_eq]
  cases e : t.data.toList with
  | nil =>
    have h3 : t.data.toList.length = t.size := Array.length_toList
    rw [e] at h3; simp at h3; omega
  | cons a b => rfl
theorem str_none {t : ByteArray} (h : t.size = 0) : t = { data := #[] } := by
  apply ByteArray.ext
  exact Array.eq_empty_of_size_eq_zero h
theorem beq_of {C v : Int} {n m : Nat} (hC : C = (n : Int)) (hv : v = (m : Int)) : (C == v) = decide (n = m) := by
  subst hC; subst hv
  by_cases h : n = m
  · subst h; simp
  · have : ¬ ((n : Int) = (m : Int)) := by omega
    simp [h, this]

set_option maxRecDepth 100000 in
set_option maxHeartbeats 8000000 in
theorem readNumber_impl (s : ByteArray) (p : Int) (w : World) (hs : s.size ≤ 1048576) (hL : LaidE w) :
    Calls Tryd.prog 25 #[.string s, .int .i64 p] w fun e w' => e = .returned (rnV (rnF s.data.toList p)) ∧ Below w.heap.size w w' := by
  have HLA := Lib.hid hL; clear hL
  have HLEN : Hid (s.data.toList.length = s.size) := Lib.hid (str_len s)
  have H256 := Lib.hid (byN_256 s.data.toList)
  have HB := Lib.hid (fun q w (hq : q ≤ 2097152) => byteAt_c s q w hs hq)
  have HD := Lib.hid (fun q w (hq : q ≤ s.size) => digitsFrom_c s q w hs hq)
  have HLE : Hid (∀ q, q ≤ s.size → q + (dsAt s.data.toList q).length ≤ s.size) := Lib.hid (fun q hq => by have := dsAt_le (l := s.data.toList) (p := q) (by rw [str_len]; exact hq); rw [str_len] at this; exact this)
  have HDS := Lib.hid (ext_ds s)
  have HDG := Lib.hid (dsAt_dig s.data.toList)
  obtain ⟨l, hl⟩ : ∃ l, l = s.data.toList := ⟨_, rfl⟩
  rw [← hl] at HLEN H256 HB HD HLE HDS HDG ⊢
  clear hl
  obtain ⟨R, hR⟩ : ∃ R, R = rnF l p := ⟨_, rfl⟩
  rw [← hR]
  cases hin : inB p 0 (s.size : Int) with
  | false =>
    have E : Hid (R = (0, 0, p, 1)) := Lib.hid (by rw [hR]; exact if_pos (by have := inB_false.1 hin; have := HLEN.out; omega))
    clear hR
    go_enter Tryd.func25, Tryd.ntmps25
    go_wp2_with (go_at_call 86; refine (within_c _ _ _ _).mono ?_; rintro e w' ⟨rfl, rfl⟩)
    refine bodyPost_ret (v := rnV R) (by simp [rnV, E.out, results, Tryd.results25, go_sem]) rfl ⟨rfl, Below.refl _ _⟩
  | true =>
    obtain ⟨hp0, hp1⟩ := inB_true.1 hin
    obtain ⟨P, rfl⟩ : ∃ P : Nat, p = (P : Int) := ⟨p.toNat, by omega⟩
    have hP : P ≤ s.size := by omega
    have hr0 : R = if byN l P = 45 then rn1 l true (P + 1) else rn1 l false P := by rw [hR]; exact if_neg (by have := HLEN.out; omega)
    obtain ⟨wc, hwc⟩ : ∃ x, x = w := ⟨_, rfl⟩
    have HLC : Hid (LaidE wc) := Lib.hid (by rw [hwc]; exact HLA.out)
    rw [← hwc]
    clear hwc HLA
    obtain ⟨b1, hb1⟩ : ∃ b : Bool, b = decide (byN l P = 45) := ⟨_, rfl⟩
    have hc := HB.out P wc (by omega)
    obtain ⟨C, hC⟩ : ∃ C : Int, C = (byN l P : Int) := ⟨_, rfl⟩
    rw [← hC] at hc
    have hbe : (C == 45) = b1 := by rw [hb1]; exact beq_of hC (by rfl)
    have HR0 : Hid (R = rn1 l b1 (if b1 = true then P + 1 else P) ∧ (b1 = true → P + 1 ≤ s.size)) := by
      refine Lib.hid ?_
      rw [hr0, hb1]
      by_cases h : byN l P = 45
      · rw [if_pos h, decide_eq_true h, if_pos rfl]
        refine ⟨rfl, fun _ => ?_⟩
        have := byN_lt (l := l) (q := P) (by omega)
        have := HLEN.out
        omega
      · rw [if_neg h, decide_eq_false h]
        exact ⟨rfl, fun q => by cases q⟩
    have HC := Lib.hid hc
    clear hR hr0 hb1 hc hC hp0 hp1
    go_enter Tryd.func25, Tryd.ntmps25
    go_wp2_with (go_at_call 86; refine (within_c _ _ _ _).mono ?_; rintro e w' ⟨rfl, rfl⟩)
    refine HC.out.mono ?_
    rintro _ _ ⟨rfl, rfl⟩
    clear hin HC
    go_upto_if 30 with fail
    go_cut [1] (fun s1 wx => ∃ Q : Nat, s1 = .int .i64 (Q : Int) ∧ wx = wc ∧ Q ≤ s.size ∧ Hid (R = rn1 l b1 Q))
    case first => as_aux_lemma =>
      have hr := HR0.out
      cases b1 with
      | true =>
        have HH := Lib.hid (show R = rn1 l true (P + 1) from hr.1)
        have hq1 := hr.2 rfl
        clear hr
        go_wp2_with fail
        go_meet
        case rel => exact ⟨P + 1, by go_num, rfl, hq1, HH⟩
      | false =>
        have HH := Lib.hid (show R = rn1 l false P from hr.1)
        clear hr
        go_wp2_with fail
        go_meet
        case rel => exact ⟨P, rfl, rfl, hP, HH⟩
    case rest =>
      obtain ⟨Q, rfl, rfl, hQ, HR1⟩ := hcut
      clear HR0 hbe
      have hc := HD.out Q wc hQ
      have hle := HLE.out Q hQ
      have hdl := HDS.out Q
      obtain ⟨W, hW⟩ : ∃ W, W = s.extract Q (Q + (dsAt l Q).length) := ⟨_, rfl⟩
      rw [← hW] at hc hdl
      have hwsz : W.size = (dsAt l Q).length := by rw [← hdl, size_list]
      have hc2 := (Tryd.strings_HasPrefix W ⟨#[48]⟩ wc).mono (R' := fun e w' => e = .returned (.bool (Lib.hasPrefix W.data.toList (⟨#[48]⟩ : ByteArray).data.toList)) ∧ wc = w') (fun _ _ h => ⟨h.1, h.2.symm⟩)
      have hpre : Lib.hasPrefix W.data.toList (⟨#[48]⟩ : ByteArray).data.toList = decide (byN W.data.toList 0 = 48) := pre_nought _
      obtain ⟨b2, hb2⟩ : ∃ b : Bool, b = decide (byN W.data.toList 0 = 48) := ⟨_, rfl⟩
      rw [hpre, ← hb2] at hc2
      have HC := Lib.hid hc
      have HC2 := Lib.hid hc2
      have HW : Hid (W.data.toList = dsAt l Q ∧ b2 = decide (byN W.data.toList 0 = 48) ∧ W.size = (dsAt l Q).length ∧ Q + (dsAt l Q).length ≤ s.size) := Lib.hid ⟨hdl, hb2, hwsz, hle⟩
      clear hc hc2 hdl hb2 hpre hW hwsz hle
      go_wp2_with fail
      refine HC.out.mono ?_
      rintro _ _ ⟨rfl, rfl⟩
      go_wp2_with fail
      refine HC2.out.mono ?_
      rintro _ _ ⟨rfl, rfl⟩
      clear HC HC2
      go_upto_if 37 with fail
      go_cut [9] (fun s9 wx => ∃ W2 : ByteArray, s9 = .string W2 ∧ wx = wc ∧ W2.size ≤ s.size ∧ Hid ((dsAt l Q = [] ∧ W2.size = 0) ∨ (dsAt l Q ≠ [] ∧ 0 < W2.size ∧ Q + W2.size ≤ s.size ∧ (∀ c ∈ W2.data.toList, 48 ≤ c.toNat ∧ c.toNat ≤ 57) ∧ R = rn2 l b1 W2.data.toList (Q + W2.size))))
      case first => as_aux_lemma =>
        obtain ⟨h1, h2, h3, h4⟩ := HW.out
        have hr := HR1.out
        unfold rn1 at hr
        cases b2 with
        | true =>
          have hv := of_decide_eq_true h2.symm
          rw [h1] at hv
          have hne : dsAt l Q ≠ [] := fun e => by rw [e] at hv; revert hv; decide
          have hpos : 0 < (dsAt l Q).length := List.length_pos_iff.2 hne
          rw [dsAt_head hpos] at hv
          rw [if_neg hne, if_pos hv] at hr
          have HH : Hid ((dsAt l Q = [] ∧ (⟨#[48]⟩ : ByteArray).size = 0) ∨ (dsAt l Q ≠ [] ∧ 0 < (⟨#[48]⟩ : ByteArray).size ∧ Q + (⟨#[48]⟩ : ByteArray).size ≤ s.size ∧ (∀ c ∈ (⟨#[48]⟩ : ByteArray).data.toList, 48 ≤ c.toNat ∧ c.toNat ≤ 57) ∧ R = rn2 l b1 (⟨#[48]⟩ : ByteArray).data.toList (Q + (⟨#[48]⟩ : ByteArray).size))) := by
            refine Lib.hid (.inr ⟨hne, by decide, ?_, by intro c hc; rw [List.mem_singleton.1 hc]; decide, hr⟩)
            have : (⟨#[48]⟩ : ByteArray).size = 1 := rfl
            omega
          have hs1 : (⟨#[48]⟩ : ByteArray).size ≤ s.size := by
            have : (⟨#[48]⟩ : ByteArray).size = 1 := rfl
            omega
          clear hr hv hne hpos h1 h2 h3 h4
          go_wp2_with fail
          go_meet
          case rel => exact ⟨_, rfl, rfl, hs1, HH⟩
        | false =>
          have hv := of_decide_eq_false h2.symm
          have HH : Hid ((dsAt l Q = [] ∧ W.size = 0) ∨ (dsAt l Q ≠ [] ∧ 0 < W.size ∧ Q + W.size ≤ s.size ∧ (∀ c ∈ W.data.toList, 48 ≤ c.toNat ∧ c.toNat ≤ 57) ∧ R = rn2 l b1 W.data.toList (Q + W.size))) := by
            refine Lib.hid ?_
            by_cases he : dsAt l Q = []
            · exact .inl ⟨he, by rw [h3, he]; rfl⟩
            · have hpos : 0 < (dsAt l Q).length := List.length_pos_iff.2 he
              rw [h1, dsAt_head hpos] at hv
              rw [if_neg he, if_neg hv] at hr
              exact .inr ⟨he, by omega, by omega, by rw [h1]; exact HDG.out Q, by rw [h1, h3]; exact hr⟩
          have hs1 : W.size ≤ s.size := by omega
          clear hr hv h1 h2 h3 h4
          go_wp2_with fail
          go_meet
          case rel => exact ⟨W, rfl, rfl, hs1, HH⟩
      case rest =>
        obtain ⟨W2, rfl, rfl, hW2, HR2⟩ := hcut
        clear HW W
        by_cases hz : W2.size = 0
        · have E : Hid (R = (0, 0, (Q : Int), 1)) := Lib.hid (by
            rcases HR2.out with ⟨h, -⟩ | ⟨-, h, -⟩
            · rw [HR1.out]; exact if_pos h
            · omega)
          have hw := str_none hz
          subst hw
          clear hz HR2
          go_wp2_with fail
          refine bodyPost_ret (v := rnV R) (by simp [rnV, E.out, results, Tryd.results25, go_sem]) rfl ⟨rfl, Below.refl _ _⟩
        · have HR3 : Hid ((∀ c ∈ W2.data.toList, 48 ≤ c.toNat ∧ c.toNat ≤ 57) ∧ R = rn2 l b1 W2.data.toList (Q + W2.size)) := Lib.hid (by
            rcases HR2.out with ⟨-, h⟩ | ⟨-, -, -, h4, h5⟩
            · omega
            · exact ⟨h4, h5⟩)
          have hY : Q + W2.size ≤ s.size := by
            rcases HR2.out with ⟨-, h⟩ | ⟨-, -, h3, -⟩
            · omega
            · exact h3
          have hne1 := str_some (t := W2) (by omega)
          have hne2 := str_some2 (t := W2) (by omega)
          obtain ⟨Y, hYe⟩ : ∃ Y, Y = Q + W2.size := ⟨_, rfl⟩
          rw [← hYe] at HR3 hY
          have hYi : (Q : Int) + (W2.size : Int) = (Y : Int) := by omega
          have hwy : IntKind.i64.wrap (Y : Int) = (Y : Int) := IntWalk.i64_in _ (by omega)
          have hc := HB.out Y wc (by omega)
          obtain ⟨C, hC⟩ : ∃ C : Int, C = (byN l Y : Int) := ⟨_, rfl⟩
          rw [← hC] at hc
          obtain ⟨b3, hb3⟩ : ∃ b : Bool, b = decide (byN l Y = 46) := ⟨_, rfl⟩
          have hbe : (C == 46) = b3 := by rw [hb3]; exact beq_of hC (by rfl)
          have HC := Lib.hid hc
          have Hb3 := Lib.hid hb3
          clear hc hC hb3 HR2 HR1 hYe hz
          go_wp2_with fail
          refine HC.out.mono ?_
          rintro _ _ ⟨rfl, rfl⟩
          clear HC hne1 hne2
          go_upto_if 48 with fail
          clear hYi
          go_cut [1, 10] (fun s1 s10 wx => ∃ (Y2 : Nat) (F : ByteArray), s1 = .int .i64 (Y2 : Int) ∧ s10 = .string F ∧ wx = wc ∧ Y2 ≤ s.size ∧ F.size ≤ s.size ∧ Hid ((∀ c ∈ W2.data.toList ++ F.data.toList, 48 ≤ c.toNat ∧ c.toNat ≤ 57) ∧ R = rn3 l b1 (W2.data.toList ++ F.data.toList) F.size Y2))
          case first => as_aux_lemma =>
            obtain ⟨h1, hr⟩ := HR3.out
            have hb := Hb3.out
            unfold rn2 at hr
            cases b3 with
            | true =>
              have hv := of_decide_eq_true hb.symm
              have hlt := byN_lt (l := l) (q := Y) (by omega)
              have hq1 : Y + 1 ≤ s.size := by have := HLEN.out; omega
              have hc := HD.out (Y + 1) wc hq1
              have hle := HLE.out (Y + 1) hq1
              have hdl := HDS.out (Y + 1)
              rw [if_pos hv] at hr
              obtain ⟨F, hF⟩ : ∃ F, F = s.extract (Y + 1) (Y + 1 + (dsAt l (Y + 1)).length) := ⟨_, rfl⟩
              rw [← hF] at hc hdl
              have hfsz : F.size = (dsAt l (Y + 1)).length := by rw [← hdl, size_list]
              rw [← hdl, ← size_list] at hr
              rw [← hfsz] at hle
              have hdg := HDG.out (Y + 1)
              rw [← hdl] at hdg
              rw [show (((Y + 1 : Nat)) : Int) = (Y : Int) + 1 by omega] at hc
              have HC := Lib.hid hc
              clear hc hF hfsz hdl hlt hv hb
              by_cases hz : F.size = 0
              · have hl0 : F.data.toList = [] := List.length_eq_zero_iff.1 (by rw [← size_list]; exact hz)
                rw [if_pos hl0] at hr
                have E := Lib.hid (show R = (0, 0, (Y : Int) + 1, 1) by rw [hr]; rfl)
                have hw := str_none hz
                subst hw
                clear hr hl0 hz hle hdg
                go_wp2_with fail
                refine HC.out.mono ?_
                rintro _ _ ⟨rfl, rfl⟩
                go_wp2_with fail
                refine bodyPost_ret (v := rnV R) (by simp [rnV, E.out, results, Tryd.results25, go_sem]) rfl ⟨rfl, Below.refl _ _⟩
              · have hl0 : F.data.toList ≠ [] := fun e => hz (by rw [size_list, e]; rfl)
                rw [if_neg hl0] at hr
                have HH := Lib.hid (⟨digs_app h1 hdg, hr⟩ : (∀ c ∈ W2.data.toList ++ F.data.toList, 48 ≤ c.toNat ∧ c.toNat ≤ 57) ∧ R = rn3 l b1 (W2.data.toList ++ F.data.toList) F.size (Y + 1 + F.size))
                have hne1 := str_some (t := F) (by omega)
                have hne2 := str_some2 (t := F) (by omega)
                have hq2 : Y + 1 + F.size ≤ s.size := hle
                have hfs : F.size ≤ s.size := by omega
                have hwa : IntKind.i64.wrap (1 + (F.size : Int)) = 1 + (F.size : Int) := IntWalk.i64_in _ (by omega)
                have hwb : IntKind.i64.wrap ((Y : Int) + (1 + (F.size : Int))) = (Y : Int) + (1 + (F.size : Int)) := IntWalk.i64_in _ (by omega)
                clear hr hl0 hz hle hdg h1
                go_wp2_with fail
                refine HC.out.mono ?_
                rintro _ _ ⟨rfl, rfl⟩
                go_wp2_with fail
                go_meet
                case rel => exact ⟨Y + 1 + F.size, F, by go_num, rfl, rfl, hq2, hfs, HH⟩
            | false =>
              have hv := of_decide_eq_false hb.symm
              rw [if_neg hv] at hr
              have HH : Hid ((∀ c ∈ W2.data.toList ++ (⟨#[]⟩ : ByteArray).data.toList, 48 ≤ c.toNat ∧ c.toNat ≤ 57) ∧ R = rn3 l b1 (W2.data.toList ++ (⟨#[]⟩ : ByteArray).data.toList) (⟨#[]⟩ : ByteArray).size Y) := Lib.hid (by
                have e : W2.data.toList ++ (⟨#[]⟩ : ByteArray).data.toList = W2.data.toList := List.append_nil _
                rw [e]; exact ⟨h1, hr⟩)
              clear hr hv hb h1
              go_wp2_with fail
              go_meet
              case rel => exact ⟨Y, _, rfl, rfl, rfl, hY, Nat.zero_le _, HH⟩
          case rest =>
            obtain ⟨Y2, F, rfl, rfl, rfl, hY2, hF, HR4⟩ := hcut
            clear HR3 Hb3 hbe
            have hc := HB.out Y2 wc (by omega)
            obtain ⟨C, hC⟩ : ∃ C : Int, C = (byN l Y2 : Int) := ⟨_, rfl⟩
            rw [← hC] at hc
            obtain ⟨b4, hb4⟩ : ∃ b : Bool, b = decide (byN l Y2 = 101 ∨ byN l Y2 = 69) := ⟨_, rfl⟩
            have HC := Lib.hid hc
            have HCC := Lib.hid hC
            have Hb4 := Lib.hid hb4
            clear hc hC hb4
            go_wp2_with fail
            refine HC.out.mono ?_
            rintro _ _ ⟨rfl, rfl⟩
            clear HC
            go_upto_region 20 with fail
            go_cut [69] (fun sv wx => sv = .bool b4 ∧ wx = wc)
            case first => as_aux_lemma =>
              have hval := Hb4.out
              have hC := HCC.out
              by_cases hv0 : C = 101
              · have E := Lib.hid (show b4 = true by rw [hval]; exact decide_eq_true (by omega))
                subst hv0
                clear hC hval
                go_wp2_with fail
                go_meet
                case rel => exact ⟨by rw [E.out], rfl⟩
              · have hb0 : (C == 101) = false := by simpa using hv0
                by_cases hv1 : C = 69
                · have E := Lib.hid (show b4 = true by rw [hval]; exact decide_eq_true (by omega))
                  subst hv1
                  clear hC hval
                  go_wp2_with fail
                  go_meet
                  case rel => exact ⟨by rw [E.out], rfl⟩
                · have hb1' : (C == 69) = false := by simpa using hv1
                  have E := Lib.hid (show b4 = false by rw [hval]; exact decide_eq_false (by omega))
                  clear hC hval
                  go_wp2_with fail
                  go_meet
                  case rel => exact ⟨by rw [E.out], rfl⟩
            case rest =>
              obtain ⟨rfl, rfl⟩ := hcut
              clear HCC
              go_upto_if 69 with fail
              go_cut [1, 11, 12, 14] (fun s1 s11 s12 s14 wx => ∃ (q : Nat) (X : ByteArray) (dn : Bool), s1 = .int .i64 (q : Int) ∧ s11 = .string X ∧ s12 = .bool dn ∧ wx = wc ∧ q ≤ s.size ∧ X.size ≤ s.size ∧ Hid ((∀ c ∈ X.data.toList, 48 ≤ c.toNat ∧ c.toNat ≤ 57) ∧ R = rn4 b1 (W2.data.toList ++ F.data.toList) F.size X.data.toList dn q))
              case first => as_aux_lemma =>
                obtain ⟨-, hr⟩ := HR4.out
                have hb := Hb4.out
                unfold rn3 at hr
                cases b4 with
                | true =>
                  have hv := of_decide_eq_true hb.symm
                  have hlt := byN_lt (l := l) (q := Y2) (by omega)
                  have hq1 : Y2 + 1 ≤ s.size := by have := HLEN.out; omega
                  rw [if_pos hv] at hr
                  obtain ⟨J, hJ⟩ : ∃ J : Nat, J = Y2 + 1 := ⟨_, rfl⟩
                  have hJi : (Y2 : Int) + 1 = (J : Int) := by omega
                  rw [show Y2 + 2 = J + 1 by omega, ← hJ] at hr
                  have HRJ := Lib.hid hr
                  have hJs : J ≤ s.size := by omega
                  have hwj : IntKind.i64.wrap (J : Int) = (J : Int) := IntWalk.i64_in _ (by omega)
                  have hc := HB.out J wc (by omega)
                  obtain ⟨C, hC⟩ : ∃ C : Int, C = (byN l J : Int) := ⟨_, rfl⟩
                  rw [← hC] at hc
                  obtain ⟨b5, hb5⟩ : ∃ b : Bool, b = decide (byN l J = 45 ∨ byN l J = 43) := ⟨_, rfl⟩
                  have HC := Lib.hid hc
                  have HCC := Lib.hid hC
                  have Hb5 := Lib.hid hb5
                  clear hr hb hv hlt hJ hq1 hc hC hb5
                  go_wp2_with fail
                  refine HC.out.mono ?_
                  rintro _ _ ⟨rfl, rfl⟩
                  clear HC
                  go_upto_region 23 with fail
                  go_cut [80] (fun sv wx => sv = .bool b5 ∧ wx = wc)
                  case first => as_aux_lemma =>
                    have hval := Hb5.out
                    have hC := HCC.out
                    by_cases hv0 : C = 43
                    · have E := Lib.hid (show b5 = true by rw [hval]; exact decide_eq_true (by omega))
                      subst hv0
                      clear hC hval
                      go_wp2_with fail
                      go_meet
                      case rel => exact ⟨by rw [E.out], rfl⟩
                    · have hb0 : (C == 43) = false := by simpa using hv0
                      by_cases hv1 : C = 45
                      · have E := Lib.hid (show b5 = true by rw [hval]; exact decide_eq_true (by omega))
                        subst hv1
                        clear hC hval
                        go_wp2_with fail
                        go_meet
                        case rel => exact ⟨by rw [E.out], rfl⟩
                      · have hb1' : (C == 45) = false := by simpa using hv1
                        have E := Lib.hid (show b5 = false by rw [hval]; exact decide_eq_false (by omega))
                        clear hC hval
                        go_wp2_with fail
                        go_meet
                        case rel => exact ⟨by rw [E.out], rfl⟩
                  case rest =>
                    obtain ⟨rfl, rfl⟩ := hcut
                    obtain ⟨dn, hdn⟩ : ∃ b : Bool, b = decide (byN l J = 45) := ⟨_, rfl⟩
                    have Hdn := Lib.hid hdn; clear hdn
                    have hbd : (C == 45) = dn := by rw [Hdn.out]; exact beq_of HCC.out (by rfl)
                    go_upto_if 80 with fail
                    go_cut [1, 12] (fun s1 s12 wx => ∃ K : Nat, s1 = .int .i64 (K : Int) ∧ s12 = .bool dn ∧ wx = wc ∧ K ≤ s.size ∧ Hid (R = if dsAt l K = [] then (0, 0, (K : Int), 1) else rn4 b1 (W2.data.toList ++ F.data.toList) F.size (dsAt l K) dn (K + (dsAt l K).length)))
                    case first => as_aux_lemma =>
                      have hb := Hb5.out
                      have hr := HRJ.out
                      rw [← Hdn.out] at hr
                      cases b5 with
                      | true =>
                        have hv := of_decide_eq_true hb.symm
                        have hlt := byN_lt (l := l) (q := J) (by omega)
                        have hq1 : J + 1 ≤ s.size := by have := HLEN.out; omega
                        rw [if_pos hv] at hr
                        have HH := Lib.hid hr
                        clear hr hb hv hlt
                        go_wp2_with fail
                        go_meet
                        case rel => exact ⟨J + 1, by go_num, rfl, rfl, hq1, HH⟩
                      | false =>
                        have hv := of_decide_eq_false hb.symm
                        rw [if_neg hv] at hr
                        have HH := Lib.hid hr
                        have E := Lib.hid (show dn = false by rw [Hdn.out]; exact decide_eq_false (by omega))
                        clear hr hb hv
                        go_wp2_with fail
                        go_meet
                        case rel => exact ⟨J, rfl, by rw [E.out], rfl, hJs, HH⟩
                    case rest =>
                      obtain ⟨K, rfl, rfl, rfl, hK, HRK⟩ := hcut
                      clear hbd HCC HRJ Hb5 Hdn hJi hwj
                      have hc := HD.out K wc hK
                      have hle := HLE.out K hK
                      have hdl := HDS.out K
                      have hr := HRK.out
                      obtain ⟨X, hX⟩ : ∃ X, X = s.extract K (K + (dsAt l K).length) := ⟨_, rfl⟩
                      rw [← hX] at hc hdl
                      have hxsz : X.size = (dsAt l K).length := by rw [← hdl, size_list]
                      rw [← hdl, ← size_list] at hr
                      rw [← hxsz] at hle
                      have hdg := HDG.out K
                      rw [← hdl] at hdg
                      have HC := Lib.hid hc
                      clear hc hX hxsz hdl HRK
                      by_cases hz : X.size = 0
                      · have hl0 : X.data.toList = [] := List.length_eq_zero_iff.1 (by rw [← size_list]; exact hz)
                        rw [if_pos hl0] at hr
                        have E := Lib.hid hr
                        have hw := str_none hz
                        subst hw
                        clear hr hl0 hz hle hdg
                        go_wp2_with fail
                        refine HC.out.mono ?_
                        rintro _ _ ⟨rfl, rfl⟩
                        go_wp2_with fail
                        refine bodyPost_ret (v := rnV R) (by simp [rnV, E.out, results, Tryd.results25, go_sem]) rfl ⟨rfl, Below.refl _ _⟩
                      · have hl0 : X.data.toList ≠ [] := fun e => hz (by rw [size_list, e]; rfl)
                        rw [if_neg hl0] at hr
                        have HH := Lib.hid (⟨hdg, hr⟩ : (∀ c ∈ X.data.toList, 48 ≤ c.toNat ∧ c.toNat ≤ 57) ∧ R = rn4 b1 (W2.data.toList ++ F.data.toList) F.size X.data.toList dn (K + X.size))
                        have hne1 := str_some (t := X) (by omega)
                        have hne2 := str_some2 (t := X) (by omega)
                        have hxs : X.size ≤ s.size := by omega
                        clear hr hl0 hz hdg
                        go_wp2_with fail
                        refine HC.out.mono ?_
                        rintro _ _ ⟨rfl, rfl⟩
                        go_wp2_with fail
                        go_meet
                        case rel => exact ⟨K + X.size, X, dn, by go_num, rfl, rfl, rfl, hle, hxs, HH⟩
                | false =>
                  have hv := of_decide_eq_false hb.symm
                  rw [if_neg hv] at hr
                  have HH : Hid ((∀ c ∈ (⟨#[]⟩ : ByteArray).data.toList, 48 ≤ c.toNat ∧ c.toNat ≤ 57) ∧ R = rn4 b1 (W2.data.toList ++ F.data.toList) F.size (⟨#[]⟩ : ByteArray).data.toList false Y2) := Lib.hid ⟨(fun c hc => by cases hc), hr⟩
                  clear hr hv hb
                  go_wp2_with fail
                  go_meet
                  case rel => exact ⟨Y2, _, false, rfl, rfl, rfl, rfl, hY2, Nat.zero_le _, HH⟩
              case rest =>
                obtain ⟨q, X, dn, rfl, rfl, rfl, rfl, hq, hX, HR5⟩ := hcut
                clear Hb4
                obtain ⟨hxd, hr⟩ := HR5.out
                obtain ⟨hwf, -⟩ := HR4.out
                have hc := (Tryd.strings_TrimLeft_one (W2 ++ F) 48 (by decide) wc).mono (R' := fun e w' => e = .returned (.string ⟨(Lib.trimLeftB (W2 ++ F).data.toList 48).toArray⟩) ∧ wc = w') (fun _ _ h => ⟨h.1, h.2.symm⟩)
                have hgl : (⟨(Lib.trimLeftB (W2 ++ F).data.toList 48).toArray⟩ : ByteArray).data.toList = sigL (W2.data.toList ++ F.data.toList) := by rw [app_list]; rfl
                obtain ⟨G, hG⟩ : ∃ G : ByteArray, G = ⟨(Lib.trimLeftB (W2 ++ F).data.toList 48).toArray⟩ := ⟨_, rfl⟩
                rw [← hG] at hc hgl
                have hgsz : G.size = (sigL (W2.data.toList ++ F.data.toList)).length := by rw [← hgl, size_list]
                have hgd : ∀ c ∈ G.data.toList, 48 ≤ c.toNat ∧ c.toNat ≤ 57 := by rw [hgl]; exact sigL_dig hwf
                have hgv : digVal G.data.toList = digVal (W2.data.toList ++ F.data.toList) := by rw [hgl]; exact sigL_val _
                unfold rn4 at hr
                rw [← hgsz, ← hgv, ← size_list] at hr
                have HC := Lib.hid hc
                have HAG := Lib.hid (fun w (h : G.size ≤ 17) (hl : LaidE w) => atoiD_c G w h hgd hl)
                have HAX := Lib.hid (fun w (h : X.size ≤ 17) (hl : LaidE w) => atoiD_c X w h hxd hl)
                have hgb : G.size ≤ 17 → digVal G.data.toList < 100000000000000000 := fun h => by
                  have h1 := digVal_lt _ G.data.toList rfl hgd
                  have h2 : (10 : Nat) ^ G.data.toList.length ≤ 10 ^ 17 := Nat.pow_le_pow_right (by decide) (by rw [← size_list]; exact h)
                  have h3 : (10 : Nat) ^ 17 = 100000000000000000 := by decide
                  omega
                have hxb : X.size ≤ 3 → digVal X.data.toList < 1000 := fun h => by
                  have h1 := digVal_lt _ X.data.toList rfl hxd
                  have h2 : (10 : Nat) ^ X.data.toList.length ≤ 10 ^ 3 := Nat.pow_le_pow_right (by decide) (by rw [← size_list]; exact h)
                  have h3 : (10 : Nat) ^ 3 = 1000 := by decide
                  omega
                have hgs : G.size ≤ 2097152 := by
                  rw [hgsz]
                  have h1 := sigL_le (W2.data.toList ++ F.data.toList)
                  rw [List.length_append, ← size_list, ← size_list] at h1
                  omega
                clear hc hgl hG hgsz hgd hgv hwf hxd HR5 HR4 HB HD HDS HDG HLE
                obtain ⟨DG, hDG⟩ : ∃ z : Int, z = (digVal G.data.toList : Int) := ⟨_, rfl⟩
                obtain ⟨DX, hDX⟩ : ∃ z : Int, z = (digVal X.data.toList : Int) := ⟨_, rfl⟩
                rw [← hDG, ← hDX] at hr
                rw [← hDG] at HAG
                rw [← hDX] at HAX
                by_cases h17 : G.size ≤ 17
                · by_cases h3 : X.size ≤ 3
                  · rw [if_neg (by omega)] at hr
                    have HRX := Lib.hid hr
                    have hgb2 : 0 ≤ DG ∧ DG < 100000000000000000 := by have := hgb h17; omega
                    have hxb2 : 0 ≤ DX ∧ DX < 1000 := by have := hxb h3; omega
                    obtain ⟨g0, g1⟩ := hgb2
                    obtain ⟨x0, x1⟩ := hxb2
                    have d17 : decide ((17 : Int) < (G.size : Int)) = false := decide_eq_false (by omega)
                    have d3 : decide ((3 : Int) < (X.size : Int)) = false := decide_eq_false (by omega)
                    have hfi : (F.size : Int) ≤ 1048576 := by omega
                    have hf0 : (0 : Int) ≤ (F.size : Int) := by omega
                    have h317 : X.size ≤ 17 := by omega
                    clear hr hgb hxb hDG hDX
                    go_wp2_with fail
                    refine HC.out.mono ?_
                    rintro _ _ ⟨rfl, rfl⟩
                    go_wp2_with fail
                    refine (HAG.out _ h17 HLC.out).mono ?_
                    rintro _ wa ⟨⟨va, rfl⟩, ba⟩
                    have BA := Lib.hid ba; clear ba
                    go_wp2_with fail
                    refine (HAX.out _ h317 (HLC.out.kept BA.out)).mono ?_
                    rintro _ wb ⟨⟨vb, rfl⟩, bb⟩
                    have BB := Lib.hid (nx BA.out bb); clear bb
                    clear d17 d3 h17 h3 h317
                    cases b1 with
                    | true =>
                      cases dn with
                      | true =>
                        go_wp2_with fail
                        refine bodyPost_ret (v := rnV R) (by simp [rnV, HRX.out, results, Tryd.results25, go_sem]) rfl ⟨rfl, BB.out⟩
                      | false =>
                        go_wp2_with fail
                        refine bodyPost_ret (v := rnV R) (by simp [rnV, HRX.out, results, Tryd.results25, go_sem]) rfl ⟨rfl, BB.out⟩
                    | false =>
                      cases dn with
                      | true =>
                        go_wp2_with fail
                        refine bodyPost_ret (v := rnV R) (by simp [rnV, HRX.out, results, Tryd.results25, go_sem]) rfl ⟨rfl, BB.out⟩
                      | false =>
                        go_wp2_with fail
                        refine bodyPost_ret (v := rnV R) (by simp [rnV, HRX.out, results, Tryd.results25, go_sem]) rfl ⟨rfl, BB.out⟩
                  · rw [if_pos (.inr (by omega))] at hr
                    have HRX := Lib.hid hr
                    have d17 : decide ((17 : Int) < (G.size : Int)) = false := decide_eq_false (by omega)
                    have d3 : decide ((3 : Int) < (X.size : Int)) = true := decide_eq_true (by omega)
                    clear hr hgb hxb hDG hDX
                    go_wp2_with fail
                    refine HC.out.mono ?_
                    rintro _ _ ⟨rfl, rfl⟩
                    go_wp2_with fail
                    refine bodyPost_ret (v := rnV R) (by simp [rnV, HRX.out, results, Tryd.results25, go_sem]) rfl ⟨rfl, Below.refl _ _⟩
                · rw [if_pos (.inl (by omega))] at hr
                  have HRX := Lib.hid hr
                  have d17 : decide ((17 : Int) < (G.size : Int)) = true := decide_eq_true (by omega)
                  clear hr hgb hxb hDG hDX
                  go_wp2_with fail
                  refine HC.out.mono ?_
                  rintro _ _ ⟨rfl, rfl⟩
                  go_wp2_with fail
                  refine bodyPost_ret (v := rnV R) (by simp [rnV, HRX.out, results, Tryd.results25, go_sem]) rfl ⟨rfl, Below.refl _ _⟩
end Go.Proofs.YtilmhemcpgiikaaDoor
