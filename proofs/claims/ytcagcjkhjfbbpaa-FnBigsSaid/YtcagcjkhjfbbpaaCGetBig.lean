/- GetBig: both read alike. -/
import Derived.Test.YtcagcjkhjfbbpaaCBytes
import Derived.Test.YtcagcjkhjfbbpaaAppend
namespace Go.Proofs.Ytcagcjkhjfbbpaa
open Go.Deep Go.ChangeShapes Go.WideShapes Go.ChangeAt Go.RowKit
open Go.ChangeMaps (open_string shut_string)

theorem wrap_mid {n : Int} (h : -9223372036854775808 ≤ n) (h2 : n ≤ 9223372036854775807) : IntKind.i64.wrap n = n := by
  unfold IntKind.wrap; simp [IntKind.bits, IntKind.signed]; omega

def existG (len at_ n : Int) : Bool := decide (0 ≤ n ∧ n ≤ len ∧ 0 ≤ at_ ∧ at_ ≤ len - n)
set_option maxHeartbeats 1000000 in
theorem existG_c (a : Option Addr) (cap L : Nat) (p n : Int) (w : World) (hL : L ≤ 1099511627776) :
    Calls Try.prog 43 #[.slice a L cap, .int .i64 p, .int .i64 n] w fun e w' => e = .returned (.bool (existG L p n)) ∧ w = w' := by
  cases h1 : inB n 0 L with
  | false =>
    have hf : existG L p n = false := decide_eq_false (by have := inB_false.1 h1; omega)
    rw [hf]; clear hf
    go_enter Try.func43, Try.ntmps43
    go_wp2_with (go_at_call 46; refine (within_c _ _ _ _).mono ?_; rintro e w' ⟨rfl, rfl⟩)
    go_ret; exact ⟨rfl, rfl⟩
  | true =>
    obtain ⟨q1, q2⟩ := inB_true.1 h1
    have hf : existG L p n = inB p 0 ((L : Int) - n) := by unfold existG inB; apply decide_eq_decide.2; omega
    rw [hf]; clear hf
    go_enter Try.func43, Try.ntmps43
    go_wp2_with (go_at_call 46; refine (within_c _ _ _ _).mono ?_; rintro e w' ⟨rfl, rfl⟩)
    go_ret; exact ⟨rfl, rfl⟩

def okW (k : Int) : Bool := decide (k = 1 ∨ k = 2 ∨ k = 4 ∨ k = 8)
theorem okW_true {k : Int} (h : okW k = true) : k = 1 ∨ k = 2 ∨ k = 4 ∨ k = 8 := of_decide_eq_true h

theorem width_impl (k : Int) (w : World) : Calls Try.prog 50 #[.int .i64 k] w fun e w' => e = .returned (.bool (okW k)) ∧ w = w' := by
  by_cases h1 : k = 1 ∨ k = 2 ∨ k = 4 ∨ k = 8
  · rw [show okW k = true from decide_eq_true h1]
    rcases h1 with rfl | rfl | rfl | rfl
    all_goals
      go_enter Try.func50, Try.ntmps50
      go_wp2_with fail
      go_ret
      exact ⟨rfl, rfl⟩
  · rw [show okW k = false from decide_eq_false h1]
    have d1 : (k == 1) = false := by simp; omega
    have d2 : (k == 2) = false := by simp; omega
    have d3 : (k == 4) = false := by simp; omega
    have d4 : (k == 8) = false := by simp; omega
    clear h1
    go_enter Try.func50, Try.ntmps50
    go_wp2_with fail
    go_ret
    exact ⟨rfl, rfl⟩

theorem width_spec (k : Int) (w : World) : Calls Try.prog 53 #[.int .i64 k] w fun e w' => e = .returned (.bool (okW k)) ∧ w = w' := by
  by_cases h1 : k = 1 ∨ k = 2 ∨ k = 4 ∨ k = 8
  · rw [show okW k = true from decide_eq_true h1]
    rcases h1 with rfl | rfl | rfl | rfl
    all_goals
      go_enter Try.func53, Try.ntmps53
      go_wp2_with fail
      go_ret
      exact ⟨rfl, rfl⟩
  · rw [show okW k = false from decide_eq_false h1]
    have d1 : (k == 1) = false := by simp; omega
    have d2 : (k == 2) = false := by simp; omega
    have d3 : (k == 4) = false := by simp; omega
    have d4 : (k == 8) = false := by simp; omega
    clear h1
    go_enter Try.func53, Try.ntmps53
    go_wp2_with fail
    go_ret
    exact ⟨rfl, rfl⟩

/-- The number that the first i bytes behind p make. -/
def accB (zs : List Int) (p : Nat) : Nat → Int
  | 0 => 0
  | i + 1 => 256 * accB zs p i + zs.getD (p + i) 0
theorem byte_at {zs : List Int} (hz : ∀ n ∈ zs, (Lit.int .u8 n).wf = true) (i : Nat) : 0 ≤ zs.getD i 0 ∧ zs.getD i 0 ≤ 255 := by
  rw [List.getD_eq_getElem?_getD]
  cases h : zs[i]? with
  | none => simp
  | some x =>
    have := hz x (List.mem_of_getElem? h)
    have h2 : (0 : Int) ≤ x ∧ x ≤ 255 := by simpa [Lit.wf, IntKind.min, IntKind.max, IntKind.bits, IntKind.signed] using this
    simpa using h2
theorem accB_range {zs : List Int} (hz : ∀ n ∈ zs, (Lit.int .u8 n).wf = true) (p : Nat) : ∀ i, 0 ≤ accB zs p i ∧ accB zs p i < 256 ^ i
  | 0 => by simp [accB]
  | i + 1 => by
    have := accB_range hz p i
    have := byte_at hz (p + i)
    simp only [accB, Int.pow_succ]
    omega
theorem accB_mono {zs : List Int} (hz : ∀ n ∈ zs, (Lit.int .u8 n).wf = true) (p i : Nat) : ∀ k, accB zs p i ≤ accB zs p (i + k)
  | 0 => Int.le_refl _
  | k + 1 => by
    have := accB_mono hz p i k
    have := accB_range hz p (i + k)
    have := byte_at hz (p + (i + k))
    show accB zs p i ≤ 256 * accB zs p (i + k) + zs.getD (p + (i + k)) 0
    omega
/-- What GetBig answers. -/
def getN (zs : List Int) (p : Nat) (k : Nat) : Int := if accB zs p k ≤ 1000000000000000 then accB zs p k else 0
def getOk (zs : List Int) (p : Nat) (k : Nat) : Bool := decide (accB zs p k ≤ 1000000000000000)

set_option maxHeartbeats 2000000 in
theorem getBig_spec_yes (zs : List Int) (a : Option Addr) (cap : Nat) (p k : Nat) (w : World) (hr : Rd w .u8 a zs) (hz : ∀ n ∈ zs, (Lit.int .u8 n).wf = true) (hlen : zs.length ≤ 1048576) (hk : okW k = true) (hp : p + k ≤ zs.length) :
    Calls Try.prog 30 #[.slice a zs.length cap, .int .i64 p, .int .i64 k] w fun e w' => e = .returned (.tuple #[.int .i64 (getN zs p k), .bool (getOk zs p k)]) ∧ w = w' := by
  have hk' := okW_true hk
  have hk8 : k ≤ 8 := by omega
  clear hk'
  obtain rfl | ⟨b, off, rfl, hbk, hread⟩ := hr
  · exfalso; have := okW_true hk; simp at hp; omega
  have HR := Lib.hid hread; have HZ := Lib.hid hz; clear hread hz
  have d1 : decide ((p : Int) < 0) = false := decide_eq_false (by omega)
  have d2 : decide ((zs.length : Int) - (k : Int) < (p : Int)) = false := decide_eq_false (by omega)
  go_enter Try.func30, Try.ntmps30
  go_wp2_with (go_at_call 53; refine (width_spec _ _).mono ?_; rintro e w' ⟨rfl, rfl⟩)
  go_loop [8, 9] (fun n i => ∃ j : Nat, j ≤ k ∧ i = .int .i64 j ∧ n = .int .i64 (accB zs p j)) (fun _ i => (k - intOf i).toNat)
  case atStart => exact ⟨0, by omega, rfl, rfl⟩
  case round =>
    obtain ⟨j, hj, rfl, rfl⟩ := hrel
    have hrg := accB_range HZ.out p j
    by_cases hbig : 1000000000000000 < accB zs p j
    · have hfin : getN zs p k = 0 ∧ getOk zs p k = false := by
        have := accB_mono HZ.out p j (k - j)
        rw [show j + (k - j) = k by omega] at this
        exact ⟨if_neg (by omega), decide_eq_false (by omega)⟩
      have HF := Lib.hid hfin; clear hfin
      generalize accB zs p j = acc at *
      have HG := Lib.hid hrg; clear hrg
      have e1 : decide (1000000000000000 < acc) = true := decide_eq_true hbig
      clear hbig
      by_cases hjk : j < k
      · have e2 : decide ((j : Int) < (k : Int)) = true := decide_eq_true (by omega)
        go_wp2_with fail
        go_ret2
        exact ⟨by rw [HF.out.1, HF.out.2]; rfl, rfl⟩
      · have e2 : decide ((j : Int) < (k : Int)) = false := decide_eq_false (by omega)
        go_wp2_with fail
        go_ret2
        exact ⟨by rw [HF.out.1, HF.out.2]; rfl, rfl⟩
    · by_cases hjk : j < k
      · have e2 : decide ((j : Int) < (k : Int)) = true := decide_eq_true (by omega)
        obtain ⟨q, hq⟩ : ∃ q : Nat, q = p + j := ⟨_, rfl⟩
        have hwq : IntKind.i64.wrap ((p : Int) + (j : Int)) = (q : Int) := by rw [hq]; exact wrap_mid (by omega) (by omega)
        have hcell := HR.out q (by omega)
        have hbyte := byte_at HZ.out q
        have hnext : accB zs p (j + 1) = 256 * accB zs p j + zs.getD q 0 := by rw [hq]; rfl
        have HN := Lib.hid hnext; clear hnext
        have hql : q < zs.length := by omega
        generalize accB zs p j = acc at *
        generalize zs.getD q 0 = x at *
        have e1 : decide (1000000000000000 < acc) = false := decide_eq_false hbig
        have hw1 : IntKind.i64.wrap (256 * acc) = 256 * acc := wrap_mid (by omega) (by omega)
        have hw2 : IntKind.i64.wrap (256 * acc + x) = 256 * acc + x := wrap_mid (by omega) (by omega)
        have hw3 : IntKind.i64.wrap x = x := wrap_mid (by omega) (by omega)
        have hw4 : IntKind.i64.wrap ((j : Int) + 1) = (j : Int) + 1 := wrap_mid (by omega) (by omega)
        have HQ := Lib.hid hq; clear hq
        clear hrg hbig
        go_wp2_with fail
        go_roundw
        case rel => exact ⟨j + 1, by omega, by simp, by rw [HN.out]⟩
        case measure => simp [intOf]; omega
      · have hjk' : j = k := by omega
        subst hjk'
        have hfin : getN zs p j = accB zs p j ∧ getOk zs p j = true := ⟨if_pos (by omega), decide_eq_true (by omega)⟩
        have HF := Lib.hid hfin; clear hfin
        generalize accB zs p j = acc at *
        have e1 : decide (1000000000000000 < acc) = false := decide_eq_false hbig
        clear hrg hbig
        go_wp2_with fail
        go_ret2
        exact ⟨by rw [HF.out.1, HF.out.2]; rfl, rfl⟩

theorem wrapU (n : Int) : IntKind.u64.wrap n = n % 18446744073709551616 := by
  unfold IntKind.wrap; simp [IntKind.bits, IntKind.signed]
theorem u64_or {acc x : Int} (h0 : 0 ≤ acc) (h1 : acc < 72057594037927936) (h2 : 0 ≤ x) (h3 : x ≤ 255) : bits .or .u64 (IntKind.u64.wrap (acc * 256)) x = 256 * acc + x := by
  obtain ⟨m, rfl⟩ := Int.eq_ofNat_of_zero_le h0
  obtain ⟨y, rfl⟩ := Int.eq_ofNat_of_zero_le h2
  have e1 : IntKind.u64.wrap ((m : Int) * 256) = ((m * 256 : Nat) : Int) := by rw [wrapU]; omega
  rw [e1]
  have k1 : (BitVec.ofInt 64 ((m * 256 : Nat) : Int)).toNat = m <<< 8 := by rw [BitVec.toNat_ofInt, Nat.shiftLeft_eq]; omega
  have k2 : (BitVec.ofInt 64 ((y : Nat) : Int)).toNat = y := by rw [BitVec.toNat_ofInt]; omega
  have key : (BitVec.ofInt 64 ((m * 256 : Nat) : Int) ||| BitVec.ofInt 64 (y : Int)).toNat = m * 256 + y := by
    rw [BitVec.toNat_or, k1, k2, ← Nat.shiftLeft_add_eq_or_of_lt (by omega : y < 2 ^ 8), Nat.shiftLeft_eq]
  show IntKind.u64.wrap ((BitVec.ofInt 64 ((m * 256 : Nat) : Int) ||| BitVec.ofInt 64 (y : Int)).toNat : Nat) = _
  rw [key, wrapU]
  omega
theorem size_bytesG (w : World) : (sizeOf (Try.prog.elem 22)).run Try.prog w = .ok 1 w := by kernel_rfl
set_option maxHeartbeats 2000000 in
theorem getBig_impl_yes (zs : List Int) (a : Option Addr) (cap : Nat) (p k : Nat) (w : World) (hr : Rd w .u8 a zs) (hz : ∀ n ∈ zs, (Lit.int .u8 n).wf = true) (hlen : zs.length ≤ 1048576) (hcap : zs.length ≤ cap) (hk : okW k = true) (hp : p + k ≤ zs.length) :
    Calls Try.prog 29 #[.slice a zs.length cap, .int .i64 p, .int .i64 k] w fun e w' => e = .returned (.tuple #[.int .i64 (getN zs p k), .bool (getOk zs p k)]) ∧ w = w' := by
  have hk' := okW_true hk
  have hk8 : k ≤ 8 := by omega
  have hk0 : 0 < k := by omega
  clear hk'
  have hex : existG zs.length p k = true := decide_eq_true (by omega)
  have hcut := fun w => run_cut (P := Try.prog) 22 Try.underlying22 size_bytesG a zs.length cap p k (by omega) w
  have hrd := rd_cut hr cap p k hp hcap
  have hl : ((zs.drop p).take k).length = k := by simp; omega
  have hget : ∀ j, j < k → ((zs.drop p).take k).getD j 0 = zs.getD (p + j) 0 := fun j hj => by simp [List.getD_eq_getElem?_getD, List.getElem?_take, hj]
  generalize (zs.drop p).take k = ys at *
  generalize cutA a cap p = a' at *
  clear hr
  obtain rfl | ⟨b, off, rfl, hbk, hread⟩ := hrd
  · exfalso; simp at hl; omega
  have HR := Lib.hid hread; have HZ := Lib.hid hz; have HG := Lib.hid hget; have HL := Lib.hid hl; clear hread hz hget hl
  have hwp : IntKind.i64.wrap ((p : Int) + (k : Int)) = (p : Int) + (k : Int) := wrap_mid (by omega) (by omega)
  go_enter Try.func29, Try.ntmps29
  go_wp2_with (first | (go_at_call 50; refine (width_impl _ _).mono ?_; rintro e w' ⟨rfl, rfl⟩) | (go_at_call 43; refine (existG_c _ _ _ _ _ _ (by omega)).mono ?_; rintro e w' ⟨rfl, rfl⟩))
  go_loop [8, 10, 28] (fun n _ i => ∃ j : Nat, j ≤ k ∧ i = .int .i64 j ∧ n = .int .u64 (accB zs p j)) (fun _ _ i => (k - intOf i).toNat)
  case atStart => exact ⟨0, by omega, rfl, rfl⟩
  case round =>
    obtain ⟨j, hj, rfl, rfl⟩ := hrel
    have hrg := accB_range HZ.out p j
    by_cases hjk : j < k
    · have e2 : decide ((j : Int) < (k : Int)) = true := decide_eq_true (by omega)
      have hcell := HR.out j (by have := HL.out; omega)
      rw [HG.out j hjk] at hcell
      have hbyte := byte_at HZ.out (p + j)
      have hnext : accB zs p (j + 1) = 256 * accB zs p j + zs.getD (p + j) 0 := rfl
      have HN := Lib.hid hnext; clear hnext
      have hsm : accB zs p j < 72057594037927936 := by
        have h1 := accB_mono HZ.out p j (7 - j)
        have h2 := (accB_range HZ.out p 7).2
        rw [show j + (7 - j) = 7 by omega] at h1
        have h3 : (256 : Int) ^ 7 = 72057594037927936 := by decide
        rw [h3] at h2
        omega
      generalize accB zs p j = acc at *
      generalize zs.getD (p + j) 0 = x at *
      have hw4 : IntKind.i64.wrap ((j : Int) + 1) = (j : Int) + 1 := wrap_mid (by omega) (by omega)
      have hor := u64_or hrg.1 hsm hbyte.1 hbyte.2
      have hw5 : IntKind.u64.wrap x = x := by rw [wrapU]; omega
      have HA := Lib.hid hrg; have HS := Lib.hid hsm; clear hrg hsm
      go_wp2_with fail
      go_roundw
      case rel => exact ⟨j + 1, by omega, by simp, by rw [HN.out]⟩
      case measure => simp [intOf]; omega
    · have hjk' : j = k := by omega
      subst hjk'
      have hfin : getN zs p j = (if accB zs p j ≤ 1000000000000000 then accB zs p j else 0) ∧ getOk zs p j = decide (accB zs p j ≤ 1000000000000000) := ⟨rfl, rfl⟩
      have HF := Lib.hid hfin; clear hfin
      generalize accB zs p j = acc at *
      have e2 : decide ((j : Int) < (j : Int)) = false := decide_eq_false (by omega)
      have hge := hrg.1
      clear hrg
      by_cases hbig : 1000000000000000 < acc
      · have e1 : decide (1000000000000000 < acc) = true := decide_eq_true hbig
        have hf2 : (getN zs p j = 0 ∧ getOk zs p j = false) := ⟨HF.out.1.trans (if_neg (by omega)), HF.out.2.trans (decide_eq_false (by omega))⟩
        have HF2 := Lib.hid hf2; clear hf2
        clear hbig
        go_wp2_with fail
        go_ret2
        exact ⟨by rw [HF2.out.1, HF2.out.2]; rfl, rfl⟩
      · have e1 : decide (1000000000000000 < acc) = false := decide_eq_false hbig
        have hf2 : (getN zs p j = acc ∧ getOk zs p j = true) := ⟨HF.out.1.trans (if_pos (by omega)), HF.out.2.trans (decide_eq_true (by omega))⟩
        have HF2 := Lib.hid hf2; clear hf2
        have hw6 : IntKind.i64.wrap acc = acc := wrap_mid (by omega) (by omega)
        clear hbig
        go_wp2_with fail
        go_ret2
        exact ⟨by rw [HF2.out.1, HF2.out.2]; rfl, rfl⟩

/-- What GetBig answers, at any place and width. -/
def okG (zs : List Int) (p k : Int) : Bool := okW k && existG zs.length p k
def gN (zs : List Int) (p k : Int) : Int := if okG zs p k = true then getN zs p.toNat k.toNat else 0
def gB (zs : List Int) (p k : Int) : Bool := if okG zs p k = true then getOk zs p.toNat k.toNat else false
theorem okG_true {zs : List Int} {p k : Int} (h : okG zs p k = true) : ∃ p' k' : Nat, p = p' ∧ k = k' ∧ okW k' = true ∧ p' + k' ≤ zs.length ∧ gN zs p k = getN zs p' k' ∧ gB zs p k = getOk zs p' k' := by
  have h0 := h
  unfold okG at h
  rw [Bool.and_eq_true] at h
  obtain ⟨h1, h2⟩ := h
  have h3 := of_decide_eq_true h2
  obtain ⟨k', rfl⟩ := Int.eq_ofNat_of_zero_le h3.1
  obtain ⟨p', rfl⟩ := Int.eq_ofNat_of_zero_le h3.2.2.1
  refine ⟨p', k', rfl, rfl, h1, by omega, ?_, ?_⟩
  · unfold gN; rw [if_pos h0]; rfl
  · unfold gB; rw [if_pos h0]; rfl
set_option maxHeartbeats 2000000 in
theorem getBig_spec_c (zs : List Int) (a : Option Addr) (cap : Nat) (p k : Int) (w : World) (hr : Rd w .u8 a zs) (hz : ∀ n ∈ zs, (Lit.int .u8 n).wf = true) (hlen : zs.length ≤ 1048576) :
    Calls Try.prog 30 #[.slice a zs.length cap, .int .i64 p, .int .i64 k] w fun e w' => e = .returned (.tuple #[.int .i64 (gN zs p k), .bool (gB zs p k)]) ∧ w = w' := by
  cases hok : okG zs p k with
  | true =>
    obtain ⟨p', k', rfl, rfl, h1, h2, h3, h4⟩ := okG_true hok
    rw [h3, h4]
    exact getBig_spec_yes zs a cap p' k' w hr hz hlen h1 h2
  | false =>
    have e1 : gN zs p k = 0 := if_neg (by rw [hok]; decide)
    have e2 : gB zs p k = false := if_neg (by rw [hok]; decide)
    rw [e1, e2]; clear e1 e2 hr hz
    cases hw : okW k with
    | false =>
      clear hok
      go_enter Try.func30, Try.ntmps30
      go_wp2_with (go_at_call 53; refine (width_spec _ _).mono ?_; rintro e w' ⟨rfl, rfl⟩)
      go_ret2
      exact ⟨rfl, rfl⟩
    | true =>
      have hk := okW_true hw
      have hx : existG zs.length p k = false := by unfold okG at hok; rw [hw] at hok; simpa using hok
      have hx' := of_decide_eq_false hx
      clear hok hx
      by_cases hp : p < 0
      · have d1 : decide (p < 0) = true := decide_eq_true hp
        clear hx' hp hk
        go_enter Try.func30, Try.ntmps30
        go_wp2_with (go_at_call 53; refine (width_spec _ _).mono ?_; rintro e w' ⟨rfl, rfl⟩)
        go_ret2
        exact ⟨rfl, rfl⟩
      · have d1 : decide (p < 0) = false := decide_eq_false hp
        have d2 : decide ((zs.length : Int) - k < p) = true := decide_eq_true (by omega)
        have hw1 : IntKind.i64.wrap ((zs.length : Int) - k) = (zs.length : Int) - k := wrap_mid (by omega) (by omega)
        clear hx' hp hk
        go_enter Try.func30, Try.ntmps30
        go_wp2_with (go_at_call 53; refine (width_spec _ _).mono ?_; rintro e w' ⟨rfl, rfl⟩)
        go_ret2
        exact ⟨rfl, rfl⟩
set_option maxHeartbeats 2000000 in
theorem getBig_impl_c (zs : List Int) (a : Option Addr) (cap : Nat) (p k : Int) (w : World) (hr : Rd w .u8 a zs) (hz : ∀ n ∈ zs, (Lit.int .u8 n).wf = true) (hlen : zs.length ≤ 1048576) (hcap : zs.length ≤ cap) :
    Calls Try.prog 29 #[.slice a zs.length cap, .int .i64 p, .int .i64 k] w fun e w' => e = .returned (.tuple #[.int .i64 (gN zs p k), .bool (gB zs p k)]) ∧ w = w' := by
  cases hok : okG zs p k with
  | true =>
    obtain ⟨p', k', rfl, rfl, h1, h2, h3, h4⟩ := okG_true hok
    rw [h3, h4]
    exact getBig_impl_yes zs a cap p' k' w hr hz hlen hcap h1 h2
  | false =>
    have e1 : gN zs p k = 0 := if_neg (by rw [hok]; decide)
    have e2 : gB zs p k = false := if_neg (by rw [hok]; decide)
    rw [e1, e2]; clear e1 e2 hr hz
    cases hw : okW k with
    | false =>
      clear hok
      go_enter Try.func29, Try.ntmps29
      go_wp2_with (first | (go_at_call 50; refine (width_impl _ _).mono ?_; rintro e w' ⟨rfl, rfl⟩) | (go_at_call 43; refine (existG_c _ _ _ _ _ _ (by omega)).mono ?_; rintro e w' ⟨rfl, rfl⟩))
      go_ret2
      exact ⟨rfl, rfl⟩
    | true =>
      have hx : existG zs.length p k = false := by unfold okG at hok; rw [hw] at hok; simpa using hok
      clear hok
      go_enter Try.func29, Try.ntmps29
      go_wp2_with (first | (go_at_call 50; refine (width_impl _ _).mono ?_; rintro e w' ⟨rfl, rfl⟩) | (go_at_call 43; refine (existG_c _ _ _ _ _ _ (by omega)).mono ?_; rintro e w' ⟨rfl, rfl⟩))
      go_ret2
      exact ⟨rfl, rfl⟩

end Go.Proofs.Ytcagcjkhjfbbpaa
