/- Slice: both cut alike. -/
import Derived.Test.YtcagcjkhjfbbpaaAppend
namespace Go.Proofs.Ytcagcjkhjfbbpaa
open Go.Deep Go.ChangeShapes Go.WideShapes Go.ChangeAt Go.RowKit
open Go.ChangeMaps (open_string shut_string)


/-- Do n bytes exist at an offset? -/
def existF (len at_ n : Int) : Bool := decide (0 ≤ n ∧ n ≤ len ∧ 0 ≤ at_ ∧ at_ ≤ len - n)
set_option maxHeartbeats 1000000 in
theorem exist_c (a : Option Addr) (cap L : Nat) (p n : Int) (w : World) (hL : L ≤ 1099511627776) :
    Calls Try.prog 43 #[.slice a L cap, .int .i64 p, .int .i64 n] w fun e w' => e = .returned (.bool (existF L p n)) ∧ w = w' := by
  cases h1 : inB n 0 L with
  | false =>
    have hf : existF L p n = false := decide_eq_false (by have := inB_false.1 h1; omega)
    rw [hf]; clear hf
    go_enter Try.func43, Try.ntmps43
    go_wp2_with (go_at_call 46; refine (within_c _ _ _ _).mono ?_; rintro e w' ⟨rfl, rfl⟩)
    go_ret; exact ⟨rfl, rfl⟩
  | true =>
    obtain ⟨q1, q2⟩ := inB_true.1 h1
    have hf : existF L p n = inB p 0 ((L : Int) - n) := by unfold existF inB; apply decide_eq_decide.2; omega
    rw [hf]; clear hf
    go_enter Try.func43, Try.ntmps43
    go_wp2_with (go_at_call 46; refine (within_c _ _ _ _).mono ?_; rintro e w' ⟨rfl, rfl⟩)
    go_ret; exact ⟨rfl, rfl⟩
theorem info_byte : (Try.prog.info? 5).map (fun i => (i.zero, i.size, i.bytes)) = some (some (.int .u8 0), 1, 1) := by kernel_rfl

theorem size_bytes (w : World) : (sizeOf (Try.prog.elem 22)).run Try.prog w = .ok 1 w := by kernel_rfl
set_option maxHeartbeats 1000000 in
theorem slice_impl_yes (zs : List Int) (a : Option Addr) (cap : Nat) (p n : Nat) (w : World) (hr : Rd w .u8 a zs) (hlen : zs.length ≤ 1048576) (hcap : zs.length ≤ cap) (hpn : p + n ≤ zs.length) :
    Calls Try.prog 13 #[.slice a zs.length cap, .int .i64 p, .int .i64 n] w fun e w' => ∃ v, e = .returned (.tuple #[v, .bool true]) ∧ w'.ownsRow w.heap.size 5 1 v n (((zs.drop p).take n).map (Value.int .u8)) ∧ Below w.heap.size w w' := by
  have hex : existF zs.length p n = true := decide_eq_true (by omega)
  obtain ⟨i0, hi, hz, hs, hb⟩ := info_parts info_byte
  have hcut := fun w => run_cut (P := Try.prog) 22 Try.underlying22 size_bytes a zs.length cap p n (by omega) w
  have hrd := rd_cut hr cap p n hpn hcap
  have hl : ((zs.drop p).take n).length = n := by simp; omega
  generalize (zs.drop p).take n = ys at *
  generalize cutA a cap p = a' at *
  have hm := World.ownsRow_made (base := w.heap.size) (e := 5) (size := 1) w #[] 0 (Nat.le_refl _) (by simp [maxLen]) rfl
  have HL := Lib.hid hl; clear hl
  have HI := Lib.hid hi; clear hi
  clear hr
  go_enter Try.func13, Try.ntmps13
  go_wp2_with (first | (go_at_call 43; refine (exist_c _ _ _ _ _ _ (by omega)).mono ?_; rintro e w' ⟨rfl, rfl⟩) | (at_builtin; go_must (refine wpList_append_rd _ rfl (.tmp 13) (.tmp 19) 22 rfl w.heap.size 5 i0 (.int .u8 0) 1 Try.underlying22 HI.out hz hs hb rfl _ _ _ rfl hm .u8 _ _ _ ys rfl HL.out.symm (rd_alloc hrd _) (by unfold maxLen; omega) (by omega) (by simp) ?_); intro v' w1 hown hg))
  go_ret2
  exact ⟨_, rfl, by simpa using hown, made_grown hg⟩
theorem slice_impl_no (a : Option Addr) (L cap : Nat) (p n : Int) (w : World) (hL : L ≤ 1099511627776) (h : existF L p n = false) :
    Calls Try.prog 13 #[.slice a L cap, .int .i64 p, .int .i64 n] w fun e w' => e = .returned (.tuple #[.slice none 0 0, .bool false]) ∧ w = w' := by
  go_enter Try.func13, Try.ntmps13
  go_wp2_with (go_at_call 43; refine (exist_c _ _ _ _ _ _ (by omega)).mono ?_; rintro e w' ⟨rfl, rfl⟩)
  go_ret2
  exact ⟨rfl, rfl⟩
set_option maxHeartbeats 1000000 in
theorem slice_spec_yes (zs : List Int) (a : Option Addr) (cap : Nat) (p n : Nat) (w : World) (hr : Rd w .u8 a zs) (hlen : zs.length ≤ 1048576) (hcap : zs.length ≤ cap) (hpn : p + n ≤ zs.length) :
    Calls Try.prog 14 #[.slice a zs.length cap, .int .i64 p, .int .i64 n] w fun e w' => ∃ v, e = .returned (.tuple #[v, .bool true]) ∧ w'.ownsRow w.heap.size 5 1 v n (((zs.drop p).take n).map (Value.int .u8)) ∧ Below w.heap.size w w' := by
  obtain ⟨i0, hi, hz, hs, hb⟩ := info_parts info_byte
  have hcut := fun w => run_cut (P := Try.prog) 22 Try.underlying22 size_bytes a zs.length cap p n (by omega) w
  have hrd := rd_cut hr cap p n hpn hcap
  have hl : ((zs.drop p).take n).length = n := by simp; omega
  generalize (zs.drop p).take n = ys at *
  generalize cutA a cap p = a' at *
  have hm := World.ownsRow_made (base := w.heap.size) (e := 5) (size := 1) w #[] 0 (Nat.le_refl _) (by simp [maxLen]) rfl
  have HL := Lib.hid hl; clear hl
  have HI := Lib.hid hi; clear hi
  clear hr
  have d1 : decide ((p : Int) < 0) = false := decide_eq_false (by omega)
  have d2 : decide ((n : Int) < 0) = false := decide_eq_false (by omega)
  have d3 : decide ((zs.length : Int) < (p : Int)) = false := decide_eq_false (by omega)
  have d3' : decide (zs.length < p) = false := decide_eq_false (by omega)
  have d4 : decide ((zs.length : Int) - (p : Int) < (n : Int)) = false := decide_eq_false (by omega)
  go_enter Try.func14, Try.ntmps14
  go_wp2_with (at_builtin; go_must (refine wpList_append_rd _ rfl (.tmp 29) (.tmp 35) 22 rfl w.heap.size 5 i0 (.int .u8 0) 1 Try.underlying22 HI.out hz hs hb rfl _ _ _ rfl hm .u8 _ _ _ ys rfl HL.out.symm (rd_alloc hrd _) (by unfold maxLen; omega) (by omega) (by simp) ?_); intro v' w1 hown hg)
  go_ret2
  exact ⟨_, rfl, by simpa using hown, made_grown hg⟩
set_option maxHeartbeats 1000000 in
theorem slice_spec_no (a : Option Addr) (L cap : Nat) (p n : Int) (w : World) (hL : L ≤ 1099511627776) (hp : -9223372036854775808 ≤ p ∧ p ≤ 9223372036854775807) (hn : -9223372036854775808 ≤ n ∧ n ≤ 9223372036854775807) (h : existF L p n = false) :
    Calls Try.prog 14 #[.slice a L cap, .int .i64 p, .int .i64 n] w fun e w' => ∃ g, e = .returned (.tuple #[.slice (some ⟨g, 0, none⟩) 0 0, .bool false]) ∧ w'.ownsRow w.heap.size 5 1 (.slice (some ⟨g, 0, none⟩) 0 0) 0 [] ∧ Below w.heap.size w w' := by
  have h' := of_decide_eq_false h
  obtain ⟨p1, p2⟩ := hp
  obtain ⟨n1, n2⟩ := hn
  clear h
  have HO := Lib.hid (World.ownsRow_made (base := w.heap.size) (e := 5) (size := 1) w #[] 0 (Nat.le_refl _) (by simp [maxLen]) rfl)
  by_cases d1 : p < 0
  · clear h'
    go_enter Try.func14, Try.ntmps14
    go_wp2_with fail
    go_ret2
    exact ⟨_, rfl, HO.out, below1 _ _⟩
  by_cases d2 : n < 0
  · clear h'
    have d1' : decide (p < 0) = false := decide_eq_false d1
    go_enter Try.func14, Try.ntmps14
    go_wp2_with fail
    go_ret2
    exact ⟨_, rfl, HO.out, below1 _ _⟩
  have d1' : decide (p < 0) = false := decide_eq_false d1
  have d2' : decide (n < 0) = false := decide_eq_false d2
  by_cases d3 : (L : Int) < p
  · clear h'
    have d3' : decide ((L : Int) < p) = true := decide_eq_true d3
    go_enter Try.func14, Try.ntmps14
    go_wp2_with fail
    go_ret2
    exact ⟨_, rfl, HO.out, below1 _ _⟩
  · have d3' : decide ((L : Int) < p) = false := decide_eq_false d3
    have d4 : decide ((L : Int) - p < n) = true := decide_eq_true (by omega)
    clear h'
    go_enter Try.func14, Try.ntmps14
    go_wp2_with fail
    go_ret2
    exact ⟨_, rfl, HO.out, below1 _ _⟩

end Go.Proofs.Ytcagcjkhjfbbpaa
