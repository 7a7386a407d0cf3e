/- The names of a map: the values at the even places. -/
import Derived.Test.YtilmhemcpgiikaaDoorVCopy
namespace Go.Proofs.YtilmhemcpgiikaaDoor
open Go.Deep Go.ChangeShapes Go.WideShapes Go.ChangeAt Go.RowKit
open Go.ChangeMaps (open_string shut_string)

/-- What stands at the even places. -/
def evens : List Tree → List Tree
  | [] => []
  | [a] => [a]
  | a :: _ :: l => a :: evens l
def namesF (t : Tree) : List Tree := if t.kind = 10 then evens t.l else []
theorem evens_len : ∀ l : List Tree, (evens l).length = (l.length + 1) / 2
  | [] => by simp [evens]
  | [a] => by simp [evens]
  | a :: b :: l => by
    have := evens_len l
    simp only [evens, List.length_cons, this]; omega
theorem evens_get : ∀ (l : List Tree) (j : Nat) (h : j < (evens l).length) (h' : 2 * j < l.length), (evens l)[j] = l[2 * j]
  | [], j, h, _ => by simp [evens] at h
  | [a], j, h, h' => by
    have : j = 0 := by simp at h'; omega
    subst this; rfl
  | a :: b :: l, 0, _, _ => rfl
  | a :: b :: l, j + 1, h, h' => by
    have h1 : j < (evens l).length := by simp only [evens, List.length_cons] at h; omega
    have h2 : 2 * j < l.length := by simp only [List.length_cons] at h'; omega
    have := evens_get l j h1 h2
    simp only [evens, List.getElem_cons_succ, this]
    show l[2 * j] = (a :: b :: l)[2 * j + 1 + 1]
    rfl
theorem evens_cost : ∀ l : List Tree, costL (evens l) ≤ costL l
  | [] => Nat.le_refl _
  | [a] => Nat.le_refl _
  | a :: b :: l => by
    have := evens_cost l
    simp only [evens, costL]; omega
theorem names_cost (t : Tree) : costL (namesF t) ≤ costL t.l := by
  unfold namesF
  split
  · exact evens_cost _
  · exact Nat.zero_le _

/-- Trees gathered by append, their elements shared. -/
def SPe (w : World) (lo : Nat) (T : TypeId) (v : Value) (l : List Tree) (es : List Elem) : Prop :=
  es.map (·.t) = l ∧ w.ownsRow lo T 5 v es.length (es.flatMap Elem.cells) ∧ ∀ e ∈ es, Fits e.t.kind e.t.n e.t.x e.t.s ∧ TSl w e.u e.t.l
def SP (w : World) (lo : Nat) (T : TypeId) (v : Value) (l : List Tree) : Prop := ∃ es : List Elem, SPe w lo T v l es
theorem SPe.row {w : World} {lo : Nat} {T : TypeId} {v : Value} {l : List Tree} {es : List Elem} (h : SPe w lo T v l es) : w.ownsRow lo T 5 v l.length (es.flatMap Elem.cells) := by
  obtain ⟨rfl, ho, _⟩ := h
  simpa using ho
theorem SP.made (w : World) (T : TypeId) : SP (w.alloc (.cells #[] T)) w.heap.size T (.slice (some ⟨w.heap.size, 0, none⟩) 0 0) [] :=
  ⟨[], rfl, World.ownsRow_made (base := w.heap.size) w #[] 0 (Nat.le_refl _) (by simp [maxLen]) rfl, by simp⟩
/-- One more: what lay below the first block stays, and the elements lie there. -/
theorem SPe.snoc {W w' : World} {lo : Nat} {T : TypeId} {l : List Tree} {es : List Elem} (h : es.map (·.t) = l) (hE : ∀ e ∈ es, Fits e.t.kind e.t.n e.t.x e.t.s ∧ TSl W e.u e.t.l) {t : Tree} {u : Value} (fit : Fits t.kind t.n t.x t.s) (ht : TSl W u t.l)
    {g cap : Nat} (hn : w'.ownsRow lo T 5 (.slice (some ⟨g, 0, none⟩) (l.length + 1) cap) (l.length + 1) (es.flatMap Elem.cells ++ cells5 t u)) :
    ∃ es' : List Elem, es'.map (·.t) = l ++ [t] ∧ w'.ownsRow lo T 5 (.slice (some ⟨g, 0, none⟩) (l.length + 1) cap) es'.length (es'.flatMap Elem.cells) ∧ ∀ e ∈ es', Fits e.t.kind e.t.n e.t.x e.t.s ∧ TSl W e.u e.t.l := by
  refine ⟨es ++ [⟨t, u, fun _ => False⟩], by simp [h], ?_, fun e he => ?_⟩
  · have hel : es.length = l.length := by rw [← h]; simp
    have e1 : (es ++ [⟨t, u, fun _ => False⟩] : List Elem).length = l.length + 1 := by simp [hel]
    rw [e1, List.flatMap_append]
    simpa [Elem.cells] using hn
  · rcases List.mem_append.1 he with he | he
    · exact hE e he
    · rw [List.mem_singleton] at he
      subst he
      exact ⟨fit, ht⟩
theorem SP.tsl {w : World} {lo : Nat} {T : TypeId} {v : Value} {l : List Tree} {es : List Elem} (h : es.map (·.t) = l) (ho : w.ownsRow lo T 5 v es.length (es.flatMap Elem.cells)) (hE : ∀ e ∈ es, Fits e.t.kind e.t.n e.t.x e.t.s ∧ TSl w e.u e.t.l) : TSl w v l := by
  subst h
  have hlen : (es.map (·.t)).length = es.length := by simp
  rcases ho.2 with ⟨rfl, h0⟩ | ⟨g, cap, cur, rfl, hb, hg, hnc, hcm, hcs, htake⟩
  · have : es = [] := List.eq_nil_of_length_eq_zero h0
    subst this
    exact ⟨none, 0, 0, 0, rfl, Nat.le_refl _, by simp [maxLen], fun h => absurd rfl h, fun j hj => absurd hj (Nat.not_lt_zero _)⟩
  · refine ⟨some ⟨g, 0, none⟩, cap, g, 0, by rw [hlen], by rw [hlen]; exact hnc, hcm, fun _ => rfl, fun j hj => ?_⟩
    have hj' : j < es.length := by rwa [hlen] at hj
    have hm := hE es[j] (List.getElem_mem hj')
    have hcell : ∀ r, r < 5 → w.cell? ⟨g, 0 + j * 5 + r, none⟩ = (cells5 es[j].t es[j].u)[r]? := by
      intro r hr
      rw [← flat_get es hj' r hr, ← htake, List.getElem?_take, if_pos (by omega), Array.getElem?_toList, Nat.zero_add]
      simp [World.cell?, hg]
    rw [List.getElem_map]
    have k0 := hcell 0 (by omega)
    have k1 := hcell 1 (by omega)
    have k2 := hcell 2 (by omega)
    have k3 := hcell 3 (by omega)
    have k4 := hcell 4 (by omega)
    exact tat_of k0 k1 k2 k3 k4 hm.2 hm.1

theorem SPe_kept {w w' : World} (hb : Below w.heap.size w w') {es : List Elem} (hE : ∀ e ∈ es, Fits e.t.kind e.t.n e.t.x e.t.s ∧ TSl w e.u e.t.l) : ∀ e ∈ es, Fits e.t.kind e.t.n e.t.x e.t.s ∧ TSl w' e.u e.t.l :=
  fun e he => ⟨(hE e he).1, (hE e he).2.kept hb⟩

set_option maxRecDepth 100000 in
set_option maxHeartbeats 4000000 in
theorem names_impl (t : Tree) (w : World) (u : Value) (hcost : t.cost ≤ 1048576) (hu : TSl w u t.l) (hfit : Fits t.kind t.n t.x t.s) :
    Calls Tryd.prog 78 #[.agg #[.int .i64 t.kind, .int .i64 t.n, .int .i64 t.x, .string t.s, u]] w fun e w' => ∃ v, e = .returned v ∧ TSl w' v (namesF t) ∧ Below w.heap.size w w' := by
  obtain ⟨i0, hi, hz, hs, hb⟩ := info_parts info_val
  have hc := Tree.cost_eq t
  have hcl := costL_eq t.l
  have hlen : t.l.length ≤ 1048576 := by omega
  have hsl0 := hu
  obtain ⟨a, cap, b, off, rfl, hcap, hmax, ha, hl⟩ := hu
  unfold maxLen at hmax
  have HL := Lib.hid hl; have HA := Lib.hid ha; have HI := Lib.hid hi
  have hB := first_blocks w (.cells #[.int .i64 t.kind, .int .i64 t.n, .int .i64 t.x, .string t.s, .slice a t.l.length cap] 29) (.cells #[] 29)
  have hsp := World.ownsRow_made (base := w.heap.size + 1) (e := 29) (size := 5) (w.alloc (.cells #[.int .i64 t.kind, .int .i64 t.n, .int .i64 t.x, .string t.s, .slice a t.l.length cap] 29)) #[] 0 (by simp) (by simp [maxLen]) rfl
  simp only [World.size_alloc] at hsp
  have HB := Lib.hid hB.1; have HSP := Lib.hid hsp
  have HW := Lib.hid (vbelow2 w (.cells #[.int .i64 t.kind, .int .i64 t.n, .int .i64 t.x, .string t.s, .slice a t.l.length cap] 29) (.cells #[] 29))
  clear hl ha hi hB hsp hsl0 hc hcl hcost
  cases hk : (t.kind != 10) with
  | true =>
    have hn : namesF t = [] := by unfold namesF; rw [if_neg (by simpa using hk)]
    have HN := Lib.hid hn; clear hn
    go_enter Tryd.func78, Tryd.ntmps78
    go_wp2_with fail
    go_ret
    refine ⟨_, rfl, ?_, HW.out⟩
    rw [HN.out]
    exact SP.tsl (es := []) rfl HSP.out (by simp)
  | false =>
    have hn : namesF t = evens t.l := by unfold namesF; rw [if_pos (by simpa using hk)]
    have HN := Lib.hid hn; clear hn
    have hel := evens_len t.l
    have HG := Lib.hid (evens_get t.l)
    go_enter Tryd.func78, Tryd.ntmps78
    go_wp2_with fail
    generalize hW0 : ((w.alloc (.cells #[.int .i64 t.kind, .int .i64 t.n, .int .i64 t.x, .string t.s, .slice a t.l.length cap] 29)).alloc (.cells #[] 29)) = W0 at *
    have hs0 : W0.heap.size = w.heap.size + 2 := by rw [← hW0]; simp only [World.size_alloc]
    clear hW0
    go_loopw [3, 4] (fun v i wr => ∃ (j I : Nat) (a3 : Option Addr) (cap3 : Nat) (es : List Elem), j ≤ (evens t.l).length ∧ I = 2 * j ∧ i = .int .i64 I ∧ v = .slice a3 j cap3 ∧ w.heap.size + 2 ≤ wr.heap.size ∧ Hid (es.map (·.t) = (evens t.l).take j) ∧ Hid (wr.ownsRow (w.heap.size + 1) 29 5 v j (es.flatMap Elem.cells)) ∧ Hid (∀ e ∈ es, Fits e.t.kind e.t.n e.t.x e.t.s ∧ TSl w e.u e.t.l) ∧ Hid (Below (w.heap.size + 1) W0 wr)) (fun _ i _ => t.l.length + 2 - (intOf i).toNat)
    case atStart => exact ⟨0, 0, _, _, [], by omega, rfl, rfl, rfl, by omega, Lib.hid (by simp), Lib.hid (by simpa using HSP.out), Lib.hid (by simp), Lib.hid (Below.refl _ _)⟩
    case round =>
      obtain ⟨j, I, a3, cap3, es, hj, hI, rfl, rfl, hszr, HM, HOW, HE, HBW⟩ := hrel
      have hbox : wr.heap[w.heap.size]? = _ := (HBW.out.block w.heap.size (by omega)).trans HB.out
      have p4 : wr.cell? ⟨w.heap.size, 4, none⟩ = some (.slice a t.l.length cap) := by simp [World.cell?, hbox]
      have p0 : wr.cell? ⟨w.heap.size, 0, none⟩ = some (.int .i64 t.kind) := by simp [World.cell?, hbox]
      have hbw0 : Below w.heap.size w wr := HW.out.trans (HBW.out.mono (by omega))
      have HBX := Lib.hid hbox; clear hbox
      by_cases hjl : I < t.l.length
      · have hje : j < (evens t.l).length := by omega
        obtain rfl : a = some ⟨b, off, none⟩ := HA.out (by intro h; rw [h] at hjl; simp at hjl)
        have hTA := HL.out I hjl
        have hTA2 := hTA.kept hbw0
        obtain ⟨x0, _, _, _, _, y4, hsl, hfit'⟩ := hTA.parts
        obtain ⟨x, c0, c1, c2, c3, c4, hsl2, hfit2⟩ := hTA2.parts
        have hxx : x = x0 := by
          have e1 := (hbw0.cell (p := ⟨b, off + I * 5 + 4, none⟩) hTA.lt).trans y4
          rw [c4] at e1
          exact Option.some.inj e1
        subst hxx
        have hg : (evens t.l)[j] = t.l[I] := by subst hI; exact HG.out j hje hjl
        have hst := take_snocT hje
        rw [hg] at hst
        generalize t.l[I] = t' at *
        have HST := Lib.hid hst; have HSL := Lib.hid hsl; have HFT := Lib.hid hfit'
        clear hg hst hTA hTA2 hsl hfit' hsl2 hfit2 y4
        obtain ⟨a2, n2, cap2, rfl⟩ := HSL.out.form
        generalize hX : cells5 t' (.slice a2 n2 cap2) = X
        have hXl : X.length = 1 * 5 := by rw [← hX]; rfl
        have hX1 : ∀ x ∈ X, x.oneCell' = true := by rw [← hX]; exact one5 _ _ _ _
        have hXn : ∀ (k : Nat) v, X[k]? = some v → (wr.alloc (.cells #[.int .i64 t'.kind, .int .i64 t'.n, .int .i64 t'.x, .string t'.s, .slice a2 n2 cap2] 29)).cell? ((⟨wr.heap.size, 0, none⟩ : Addr).add k) = some v := by
          rw [← hX]
          exact World.news_of_block (heap_alloc_new _ _)
        have HX := Lib.hid hX; have HXN := Lib.hid hXn; have HX1 := Lib.hid hX1
        clear hX hXn hX1
        have HII := Lib.hid hI
        have hje2 : j ≤ 1048576 := by omega
        have hIl : I ≤ 1048576 := by omega
        clear hI
        go_wp2_with (at_builtin; go_must (refine wpList_append_lies rfl (.tmp 17) (.tmp 23) 27 rfl (w.heap.size + 1) 29 i0 _ 5 64 Tryd.underlying27 HI.out hz hs hb rfl (by decide) _ _ _ rfl (HOW.out.alloc _) ⟨wr.heap.size, 0, none⟩ 1 1 X rfl hXl HXN.out HX1.out (by decide) (by unfold maxLen; omega) (by omega) (by simp only [World.size_alloc]; omega) _ rfl ?_); intro g cap5 w2 hown2 hg2 hf2 hlt2)
        obtain ⟨es2, hm2, ho2, hE2⟩ := SPe.snoc HM.out HE.out HFT.out HSL.out (w' := w2) (g := g) (cap := cap5) (by rw [List.length_take, Nat.min_eq_left (by omega), HX.out]; exact hown2)
        rw [List.length_take, Nat.min_eq_left (by omega)] at ho2
        rw [← HST.out] at hm2
        have hel2 : es2.length = j + 1 := by have := congrArg List.length hm2; simp at this; omega
        rw [hel2] at ho2
        have hgs := hg2.size
        simp only [World.size_alloc] at hgs
        have hbw2 : Below (w.heap.size + 1) W0 w2 := (HBW.out.alloc (by omega) _).grown hg2 (by simp only [World.size_alloc]; omega) (fun k hk => (HOW.out.lt k hk).1)
        have HM2 := Lib.hid hm2; have HO2 := Lib.hid ho2; have HE2 := Lib.hid hE2; have HB2 := Lib.hid hbw2
        clear hm2 ho2 hE2 hbw2 hown2 hg2 hf2 hel2
        go_roundw
        case rel => exact ⟨j + 1, I + 2, _, _, es2, by omega, by have := HII.out; omega, by go_num, rfl, by omega, HM2, HO2, HE2, HB2⟩
        case measure => simp [intOf]; omega
      · have hje : j = (evens t.l).length := by omega
        have htsl : TSl wr (.slice a3 j cap3) (evens t.l) := by
          have hm := HM.out
          rw [hje, List.take_length] at hm
          have hel2 : es.length = j := by have := congrArg List.length hm; simp at this; omega
          exact SP.tsl hm (by rw [hel2]; exact HOW.out) (SPe_kept hbw0 HE.out)
        have HT := Lib.hid htsl
        clear htsl
        go_wp2_with fail
        go_ret
        exact ⟨_, rfl, by rw [HN.out]; exact HT.out, hbw0⟩

def NamesP (w : World) (l : List Tree) : Ending → World → Prop := fun e w' => ∃ a n c, e = .returned (.slice a n c) ∧ OSl w' 29 (.slice a n c) l (Rng w.heap.size w'.heap.size) ∧ Below w.heap.size w w'

set_option maxHeartbeats 1000000 in
theorem namesOf_impl (t : Tree) (w : World) (u : Value) (hcost : t.cost ≤ 1048576) (hu : TSl w u t.l) (hfit : Fits t.kind t.n t.x t.s) :
    Calls Tryd.prog 65 #[.agg #[.int .i64 t.kind, .int .i64 t.n, .int .i64 t.x, .string t.s, u]] w (NamesP w (namesF t)) := by
  have hcn := names_cost t
  have hce := Tree.cost_eq t
  obtain ⟨a, n, cap, rfl⟩ := hu.form
  have HW := Lib.hid (vbelow1 w (.cells #[.int .i64 t.kind, .int .i64 t.n, .int .i64 t.x, .string t.s, .slice a n cap] 29))
  have HN := Lib.hid (names_impl t _ _ hcost (hu.kept HW.out) hfit)
  have HC := Lib.hid (fun w1 v (h : TSl w1 v (namesF t)) => copyVals_c (namesF t) w1 v (by omega) h)
  clear hu hcn hce
  go_enter Tryd.func65, Tryd.ntmps65
  go_wp2_with fail
  refine HN.out.mono ?_
  rintro _ w1 ⟨v, rfl, hv, b1⟩
  have HV := Lib.hid hv; clear hv
  obtain ⟨a1, n1, c1, rfl⟩ := HV.out.form
  go_wp2_with fail
  refine (HC.out _ _ HV.out).mono ?_
  rintro _ w2 ⟨a2, n2, c2, rfl, ho, b2⟩
  have HO := Lib.hid ho; clear ho
  have s1 := b1.size
  simp only [World.size_alloc] at s1
  go_wp2_with fail
  go_ret
  exact ⟨_, _, _, rfl, HO.out.mono (fun b hb => ⟨by have := hb.1; omega, hb.2⟩), vnx (vnx HW.out b1) b2⟩

set_option maxRecDepth 100000 in
set_option maxHeartbeats 4000000 in
theorem namesOf_spec (t : Tree) (w : World) (u : Value) (hcost : t.cost ≤ 1048576) (hu : TSl w u t.l) (hfit : Fits t.kind t.n t.x t.s) :
    Calls Tryd.prog 66 #[.agg #[.int .i64 t.kind, .int .i64 t.n, .int .i64 t.x, .string t.s, u]] w (NamesP w (namesF t)) := by
  obtain ⟨i0, hi, hz, hs, hb⟩ := info_parts info_val
  have hc := Tree.cost_eq t
  have hcl := costL_eq t.l
  have hlen : t.l.length ≤ 1048576 := by omega
  have hcE : costE t.l ≤ 1048576 := by omega
  obtain ⟨a, cap, b, off, rfl, hcap, hmax, ha, hl⟩ := hu
  unfold maxLen at hmax
  have HL := Lib.hid hl; have HA := Lib.hid ha; have HI := Lib.hid hi
  have hB := first_blocks w (.cells #[.int .i64 t.kind, .int .i64 t.n, .int .i64 t.x, .string t.s, .slice a t.l.length cap] 29) (.cells #[] 29)
  have hap := AP.made (w.alloc (.cells #[.int .i64 t.kind, .int .i64 t.n, .int .i64 t.x, .string t.s, .slice a t.l.length cap] 29)) 29
  simp only [World.size_alloc] at hap
  have HB := Lib.hid hB.1; have HAP := Lib.hid hap
  have HW := Lib.hid (vbelow2 w (.cells #[.int .i64 t.kind, .int .i64 t.n, .int .i64 t.x, .string t.s, .slice a t.l.length cap] 29) (.cells #[] 29))
  clear hl ha hi hB hap hc hcl hcost
  have hel := evens_len t.l
  have HG := Lib.hid (evens_get t.l)
  cases hk : (t.kind == 10) with
  | false =>
    have hn : namesF t = [] := by unfold namesF; rw [if_neg (by simpa using hk)]
    have HN := Lib.hid hn; clear hn
    by_cases hz0 : 0 < t.l.length
    · go_enter Tryd.func66, Tryd.ntmps66
      go_wp2_with fail
      generalize hW0 : ((w.alloc (.cells #[.int .i64 t.kind, .int .i64 t.n, .int .i64 t.x, .string t.s, .slice a t.l.length cap] 29)).alloc (.cells #[] 29)) = W0 at *
      have hs0 : W0.heap.size = w.heap.size + 2 := by rw [← hW0]; simp only [World.size_alloc]
      clear hW0
      go_loopw [3, 4] (fun v i wr => v = .slice (some ⟨w.heap.size + 1, 0, none⟩) 0 0 ∧ i = .int .i64 0 ∧ wr = W0) (fun _ _ _ => 0)
      case atStart => exact ⟨rfl, rfl, rfl⟩
      case round =>
        obtain ⟨rfl, rfl, rfl⟩ := hrel
        have p4 : wr.cell? ⟨w.heap.size, 4, none⟩ = some (.slice a t.l.length cap) := by simp [World.cell?, HB.out]
        have p0 : wr.cell? ⟨w.heap.size, 0, none⟩ = some (.int .i64 t.kind) := by simp [World.cell?, HB.out]
        go_wp2_with fail
        all_goals
          go_ret
          unfold NamesP
          refine ⟨_, _, _, rfl, ?_, HW.out⟩
          rw [HN.out]
          exact HAP.out.osl.mono (fun b hb => ⟨by have := hb.1; omega, hb.2⟩)
    · have hd : decide ((0 : Int) < (t.l.length : Int)) = false := decide_eq_false (by omega)
      clear hz0
      go_enter Tryd.func66, Tryd.ntmps66
      go_wp2_with fail
      generalize hW0 : ((w.alloc (.cells #[.int .i64 t.kind, .int .i64 t.n, .int .i64 t.x, .string t.s, .slice a t.l.length cap] 29)).alloc (.cells #[] 29)) = W0 at *
      have hs0 : W0.heap.size = w.heap.size + 2 := by rw [← hW0]; simp only [World.size_alloc]
      clear hW0
      go_loopw [3, 4] (fun v i wr => v = .slice (some ⟨w.heap.size + 1, 0, none⟩) 0 0 ∧ i = .int .i64 0 ∧ wr = W0) (fun _ _ _ => 0)
      case atStart => exact ⟨rfl, rfl, rfl⟩
      case round =>
        obtain ⟨rfl, rfl, rfl⟩ := hrel
        have p4 : wr.cell? ⟨w.heap.size, 4, none⟩ = some (.slice a t.l.length cap) := by simp [World.cell?, HB.out]
        have p0 : wr.cell? ⟨w.heap.size, 0, none⟩ = some (.int .i64 t.kind) := by simp [World.cell?, HB.out]
        go_wp2_with fail
        all_goals
          go_ret
          unfold NamesP
          refine ⟨_, _, _, rfl, ?_, HW.out⟩
          rw [HN.out]
          exact HAP.out.osl.mono (fun b hb => ⟨by have := hb.1; omega, hb.2⟩)
  | true =>
    have hn : namesF t = evens t.l := by unfold namesF; rw [if_pos (by simpa using hk)]
    have HN := Lib.hid hn; clear hn
    go_enter Tryd.func66, Tryd.ntmps66
    go_wp2_with fail
    generalize hW0 : ((w.alloc (.cells #[.int .i64 t.kind, .int .i64 t.n, .int .i64 t.x, .string t.s, .slice a t.l.length cap] 29)).alloc (.cells #[] 29)) = W0 at *
    have hs0 : W0.heap.size = w.heap.size + 2 := by rw [← hW0]; simp only [World.size_alloc]
    clear hW0
    go_loopw [3, 4] (fun v i wr => ∃ (j I : Nat) (a3 : Option Addr) (cap3 : Nat), j ≤ (evens t.l).length ∧ I = 2 * j ∧ i = .int .i64 I ∧ v = .slice a3 j cap3 ∧ w.heap.size + 2 ≤ wr.heap.size ∧ Hid (AP wr (w.heap.size + 1) 29 v ((evens t.l).take j)) ∧ Hid (Below (w.heap.size + 1) W0 wr)) (fun _ i _ => t.l.length + 2 - (intOf i).toNat)
    case atStart => exact ⟨0, 0, _, _, by omega, rfl, rfl, rfl, by omega, HAP, Lib.hid (Below.refl _ _)⟩
    case round =>
      obtain ⟨j, I, a3, cap3, hj, hI, rfl, rfl, hszr, HP, HBW⟩ := hrel
      have htl : ((evens t.l).take j).length = j := by rw [List.length_take]; omega
      have hbox : wr.heap[w.heap.size]? = _ := (HBW.out.block w.heap.size (by omega)).trans HB.out
      have p4 : wr.cell? ⟨w.heap.size, 4, none⟩ = some (.slice a t.l.length cap) := by simp [World.cell?, hbox]
      have p0 : wr.cell? ⟨w.heap.size, 0, none⟩ = some (.int .i64 t.kind) := by simp [World.cell?, hbox]
      have hbw0 : Below w.heap.size w wr := HW.out.trans (HBW.out.mono (by omega))
      have HBX := Lib.hid hbox; clear hbox
      by_cases hjl : I < t.l.length
      · have hje : j < (evens t.l).length := by omega
        obtain rfl : a = some ⟨b, off, none⟩ := HA.out (by intro h; rw [h] at hjl; simp at hjl)
        obtain ⟨x, c0, c1, c2, c3, c4, hsl, hfit'⟩ := ((HL.out I hjl).kept hbw0).parts
        have hg : (evens t.l)[j] = t.l[I] := by subst hI; exact HG.out j hje hjl
        have hst := take_snocT hje
        rw [hg] at hst
        have hcm := cost_mem (List.getElem_mem hjl)
        generalize t.l[I] = t' at *
        have HST := Lib.hid hst; clear hst hg
        obtain ⟨a2, n2, cap2, rfl⟩ := hsl.form
        have HSL := Lib.hid hsl; have HFT := Lib.hid hfit'; clear hsl hfit'
        have HII := Lib.hid hI
        have hje2 : j ≤ 1048576 := by omega
        have hIl : I ≤ 1048576 := by omega
        clear hI
        go_wp2_with fail
        refine (l6Copy_c t' _ _ (by omega) HSL.out HFT.out).mono ?_
        rintro _ w1 ⟨a4, n4, k4, rfl, ho, hb1⟩
        obtain ⟨es, hes⟩ := HP.out
        have hsz1 := hb1.size
        have hb01 : Below wr.heap.size wr (w1.alloc (.cells #[.int .i64 t'.kind, .int .i64 t'.n, .int .i64 t'.x, .string t'.s, .slice a4 n4 k4] 29)) := hb1.alloc hsz1 _
        have hown0 := owns_below hb01 hes.row
        rw [htl] at hown0
        have OWN := Lib.hid hown0; have HES := Lib.hid hes; have HO := Lib.hid ho; have HB01 := Lib.hid hb01
        clear hown0 hes ho hb01 hb1 c0 c1 c2 c3 c4
        generalize hX : cells5 t' (.slice a4 n4 k4) = X
        have hXl : X.length = 1 * 5 := by rw [← hX]; rfl
        have hX1 : ∀ x ∈ X, x.oneCell' = true := by rw [← hX]; exact one5 _ _ _ _
        have hXn : ∀ (k : Nat) v, X[k]? = some v → ((w1.alloc (.cells #[.int .i64 t'.kind, .int .i64 t'.n, .int .i64 t'.x, .string t'.s, .slice a4 n4 k4] 29)).alloc (.cells #[.int .i64 t'.kind, .int .i64 t'.n, .int .i64 t'.x, .string t'.s, .slice a4 n4 k4] 29)).cell? ((⟨w1.heap.size + 1, 0, none⟩ : Addr).add k) = some v := by
          rw [← hX]
          exact World.news_of_block (first_blocks w1 _ _).2
        have HX := Lib.hid hX; have HXN := Lib.hid hXn; have HX1 := Lib.hid hX1
        clear hX hXn hX1
        go_wp2_with (at_builtin; go_must (refine wpList_append_lies rfl (.tmp 25) (.tmp 27) 27 rfl (w.heap.size + 1) 29 i0 _ 5 64 Tryd.underlying27 HI.out hz hs hb rfl (by decide) _ _ _ rfl (OWN.out.alloc _) ⟨w1.heap.size + 1, 0, none⟩ 1 1 X rfl hXl HXN.out HX1.out (by decide) (by unfold maxLen; omega) (by omega) (by simp only [World.size_alloc]; omega) _ rfl ?_); intro g cap5 w2 hown2 hg2 hf2 hlt2)
        have hb0 : Below wr.heap.size wr ((w1.alloc (.cells #[.int .i64 t'.kind, .int .i64 t'.n, .int .i64 t'.x, .string t'.s, .slice a4 n4 k4] 29)).alloc (.cells #[.int .i64 t'.kind, .int .i64 t'.n, .int .i64 t'.x, .string t'.s, .slice a4 n4 k4] 29)) := HB01.out.alloc (by simp only [World.size_alloc]; omega) _
        have hap := HES.out.snoc hb0 HFT.out (hi := w1.heap.size) (HO.out.kept (fun b hb => by rw [Below.heap_alloc _ _ _ (by simp only [World.size_alloc]; have := hb.2; omega), Below.heap_alloc _ _ _ hb.2])) (by simp only [World.size_alloc]; omega) (by omega) (g := g) (cap := cap5) (w' := w2) (by rw [htl, HX.out]; exact hown2) hg2 (by
          rcases hf2 with h | h
          · exact .inl h
          · right; rw [h])
        rw [htl, ← HST.out] at hap
        have hgs := hg2.size
        simp only [World.size_alloc] at hgs
        have hbw2 : Below (w.heap.size + 1) W0 w2 := ((HBW.out.trans (hb0.mono (by omega)))).grown hg2 (by simp only [World.size_alloc]; omega) (fun k hk => (OWN.out.lt k hk).1)
        have HAP2 := Lib.hid hap; have HBW2 := Lib.hid hbw2
        clear hap hbw2 hown2 hg2 hf2 hb0
        go_roundw
        case rel => exact ⟨j + 1, I + 2, _, _, by omega, by have := HII.out; omega, by go_num, rfl, by omega, HAP2, HBW2⟩
        case measure => simp [intOf]; omega
      · have hje : j = (evens t.l).length := by omega
        have hosl := HP.out.osl
        rw [show (evens t.l).take j = namesF t by rw [hje, List.take_length, HN.out]] at hosl
        have HO := Lib.hid hosl; clear hosl hje hel
        go_wp2_with fail
        go_ret
        unfold NamesP
        exact ⟨_, _, _, rfl, HO.out.mono (fun b hb => ⟨by have := hb.1; omega, hb.2⟩), hbw0⟩
end Go.Proofs.YtilmhemcpgiikaaDoor
