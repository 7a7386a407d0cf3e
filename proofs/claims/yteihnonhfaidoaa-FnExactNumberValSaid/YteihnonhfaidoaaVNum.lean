/- NumberVal. -/
import Derived.Test.YteihnonhfaidoaaVLeaf
namespace Go.Proofs.Yteihnonhfaidoaa
open Go.Deep Go.ChangeShapes Go.WideShapes Go.ChangeAt Go.RowKit
open Go.ChangeMaps (open_string shut_string)


theorem five_num {W w1 : World} (hb : Below W.heap.size W w1) {B : Nat} {a b c d e : Value} {T : TypeId} (h : W.heap[B]? = some (.cells #[a, b, c, d, e] T (0, 0))) :
    w1.cell? ⟨B, 0, none⟩ = some a ∧ w1.cell? ⟨B, 1, none⟩ = some b ∧ w1.cell? ⟨B, 2, none⟩ = some c ∧ w1.cell? ⟨B, 3, none⟩ = some d ∧ w1.cell? ⟨B, 4, none⟩ = some e ∧ ∀ o, w1.frozen? ⟨B, o, none⟩ = false := by
  have hlt : B < W.heap.size := (Array.getElem?_eq_some_iff.1 h).1
  have h1 : w1.heap[B]? = some (.cells #[a, b, c, d, e] T (0, 0)) := (hb.block B hlt).trans h
  refine ⟨?_, ?_, ?_, ?_, ?_, fun o => ?_⟩
  all_goals simp [World.cell?, World.frozen?, h1]
theorem second_block (w : World) (o o' : Obj) : ((w.alloc o).alloc o').heap[w.heap.size + 1]? = some o' := by
  have := heap_alloc_new (w.alloc o) o'
  simpa only [World.size_alloc] using this

def numK (x : Int) : Int := if x = 0 then 3 else 6

set_option maxHeartbeats 1000000 in
theorem spec_NumberVal (n x : Int) (w : World) : Calls Try.prog 41 #[.agg #[.int .i64 n, .int .i64 x]] w fun e w' => e = .returned (.agg #[.int .i64 (numK x), .int .i64 n, .int .i64 x, .string { data := #[] }, .slice none 0 0]) ∧ Below w.heap.size w w' := by
  by_cases h : x = 0
  · subst h
    have hk : numK 0 = 3 := rfl
    rw [hk]; clear hk
    have HB := Lib.hid (second_block w (.cells #[.int .i64 n, .int .i64 0] 61) (.cells #[.int .i64 0, .int .i64 0, .int .i64 0, .string { data := #[] }, .slice none 0 0] 49))
    have HW := Lib.hid (vbelow2 w (.cells #[.int .i64 n, .int .i64 0] 61) (.cells #[.int .i64 0, .int .i64 0, .int .i64 0, .string { data := #[] }, .slice none 0 0] 49))
    go_enter Try.func41, Try.ntmps41
    go_wp2_with fail
    refine (spec_IntVal _ _).mono ?_
    rintro _ w1 ⟨rfl, b1⟩
    have hsz := b1.size
    simp only [World.size_alloc] at hsz
    obtain ⟨p0, p1, p2, p3, p4, pf⟩ := five_num b1 HB.out
    have pf0 := pf 0; have pf1 := pf 1; have pf2 := pf 2; have pf3 := pf 3; have pf4 := pf 4
    clear pf
    have HBB := Lib.hid b1; clear b1
    go_wp2_with fail
    refine bodyPost_ret (v := .agg #[.int .i64 3, .int .i64 n, .int .i64 0, .string { data := #[] }, .slice none 0 0]) (by simp [results, Try.results41, go_sem, p0, p1, p2, p3, p4]) rfl ⟨rfl, ?_⟩
    iterate 5 refine Below.setCell ?_ (by dsimp only; omega) _
    exact HW.out.trans (HBB.out.mono (by simp only [World.size_alloc]; omega))
  · have hx : (x == 0) = false := by simpa using h
    have hk : numK x = 6 := by unfold numK; rw [if_neg h]
    rw [hk]; clear hk h
    go_enter Try.func41, Try.ntmps41
    go_wp2_with fail
    exact bodyPost_ret (v := .agg #[.int .i64 6, .int .i64 n, .int .i64 x, .string { data := #[] }, .slice none 0 0]) (by simp [results, Try.results41, go_sem]) rfl ⟨rfl, (by first | exact vbelow1 _ _ | exact vbelow2 _ _ _ | exact below3 _ _ _ _ | exact below4 _ _ _ _ _)⟩

set_option maxHeartbeats 1000000 in
theorem impl_NumberVal (n x : Int) (w : World) : Calls Try.prog 43 #[.agg #[.int .i64 n, .int .i64 x]] w fun e w' => e = .returned (.agg #[.int .i64 (numK x), .int .i64 n, .int .i64 x, .string { data := #[] }, .slice none 0 0]) ∧ Below w.heap.size w w' := by
  by_cases h : x = 0
  · subst h
    have hk : numK 0 = 3 := rfl
    rw [hk]; clear hk
    have HB := Lib.hid (second_block w (.cells #[.int .i64 n, .int .i64 0] 61) (.cells #[.int .i64 0, .int .i64 0, .int .i64 0, .string { data := #[] }, .slice none 0 0] 49))
    have HW := Lib.hid (vbelow2 w (.cells #[.int .i64 n, .int .i64 0] 61) (.cells #[.int .i64 0, .int .i64 0, .int .i64 0, .string { data := #[] }, .slice none 0 0] 49))
    go_enter Try.func43, Try.ntmps43
    go_wp2_with fail
    refine (impl_IntVal _ _).mono ?_
    rintro _ w1 ⟨rfl, b1⟩
    have hsz := b1.size
    simp only [World.size_alloc] at hsz
    obtain ⟨p0, p1, p2, p3, p4, pf⟩ := five_num b1 HB.out
    have pf0 := pf 0; have pf1 := pf 1; have pf2 := pf 2; have pf3 := pf 3; have pf4 := pf 4
    clear pf
    have HBB := Lib.hid b1; clear b1
    go_wp2_with fail
    refine bodyPost_ret (v := .agg #[.int .i64 3, .int .i64 n, .int .i64 0, .string { data := #[] }, .slice none 0 0]) (by simp [results, Try.results43, go_sem, p0, p1, p2, p3, p4]) rfl ⟨rfl, ?_⟩
    iterate 5 refine Below.setCell ?_ (by dsimp only; omega) _
    exact HW.out.trans (HBB.out.mono (by simp only [World.size_alloc]; omega))
  · have hx : (x == 0) = false := by simpa using h
    have hk : numK x = 6 := by unfold numK; rw [if_neg h]
    rw [hk]; clear hk h
    go_enter Try.func43, Try.ntmps43
    go_wp2_with fail
    exact bodyPost_ret (v := .agg #[.int .i64 6, .int .i64 n, .int .i64 x, .string { data := #[] }, .slice none 0 0]) (by simp [results, Try.results43, go_sem]) rfl ⟨rfl, (by first | exact vbelow1 _ _ | exact vbelow2 _ _ _ | exact below3 _ _ _ _ | exact below4 _ _ _ _ _)⟩

end Go.Proofs.Yteihnonhfaidoaa
