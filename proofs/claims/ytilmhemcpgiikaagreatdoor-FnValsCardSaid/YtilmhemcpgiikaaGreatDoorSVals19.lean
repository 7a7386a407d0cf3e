/- Vals: texts of the proof (CGetRune2 MGet MRunes CTextOk). -/
import Derived.Test.YtilmhemcpgiikaaGreatDoorSVals18
import Derived.Test.YtilmhemcpgiikaaGreatDoorSVals3
import Derived.Lib.TrimUEq
import Derived.Lib.ValidLaws
import Derived.Deep.AppendLies
import Derived.Test.YtilmhemcpgiikaaGreatDoorSVals13
import Derived.Test.YtilmhemcpgiikaaGreatDoorShelf
/- GetRune of the reference, at every place of every slice. -/
namespace Go.Proofs.YtilmhemcpgiikaaGreatDoor
open Go.Deep Go.ChangeShapes Go.WideShapes Go.ChangeAt Go.RowKit
open Go.ChangeMaps (open_string shut_string)

set_option maxRecDepth 100000 in
set_option maxHeartbeats 2000000 in
theorem getRune_spec_0 (zs : List Int) (b off : Nat) (cap : Nat) (p : Nat) (w : World) (hread : ∀ j, j < zs.length → w.cell? ⟨b, off + j, none⟩ = some (.int .u8 (zs.getD j 0))) (hz : ∀ n ∈ zs, (Lit.int .u8 n).wf = true) (hlen : zs.length ≤ 1048576) (hp : p < zs.length) (hcl : leadW (bzf zs p 0) = 0) :
    Calls Tryz.prog 73 #[.slice (some ⟨b, off, none⟩) zs.length cap, .int .i64 p] w fun e w' => e = .returned (.tuple #[.int .i64 (getV zs p).1, .int .i64 (getV zs p).2.1, .bool (getV zs p).2.2]) ∧ w = w' := by
  have HR := Lib.hid hread; have HZ := Lib.hid hz; clear hread hz
  have d1 : decide ((p : Int) < 0) = false := decide_eq_false (by omega)
  have d2 : decide ((zs.length : Int) ≤ (p : Int)) = false := decide_eq_false (by omega)
  have hcell := HR.out p hp
  have HF : Hid (getV zs p = (0, 0, false)) := Lib.hid (getV_bad (fun h => h.1 hcl))
  obtain ⟨X, hX⟩ : ∃ X : Nat, X = bzf zs p 0 := ⟨_, rfl⟩
  have hx0 := bzf_eq HZ.out p 0
  rw [← hX, Nat.add_zero] at hx0
  rw [← hx0] at hcell
  rw [← hX] at hcl
  have hxl : X < 256 := by rw [hX]; exact bzf_lt HZ.out p 0
  have hwx : IntKind.i64.wrap (X : Int) = X := wrap_mid (by omega) (by omega)
  clear hX hx0
  have hq : 128 ≤ X ∧ ¬ (192 ≤ X ∧ X ≤ 223) ∧ ¬ (224 ≤ X ∧ X ≤ 239) ∧ ¬ (240 ≤ X ∧ X ≤ 247) := by
    unfold leadW at hcl
    (repeat' split at hcl) <;> omega
  have e1 : decide ((X : Int) < 128) = false := decide_eq_false (by omega)
  have e2 : inB (X : Int) 192 223 = false := inB_false.2 (by omega)
  have e3 : inB (X : Int) 224 239 = false := inB_false.2 (by omega)
  have e4 : inB (X : Int) 240 247 = false := inB_false.2 (by omega)
  clear hcl hq
  go_enter Tryz.func73, Tryz.ntmps73
  go_wp2_with (first | (go_at_call 44; refine (l1In_c _ _ _ _).mono ?_; rintro e w' ⟨rfl, rfl⟩) | (go_at_call 85; refine (wideOf_spec _ _).mono ?_; rintro e w' ⟨rfl, rfl⟩))
  refine bodyPost_ret (v := .tuple #[.int .i64 0, .int .i64 0, .bool false]) (by simp [results, Tryz.results73, go_sem]) rfl ⟨by rw [HF.out], rfl⟩

theorem getRune_spec_no (L : Nat) (a : Option Addr) (cap : Nat) (p : Int) (w : World) (h : ¬ (0 ≤ p ∧ p < L)) :
    Calls Tryz.prog 73 #[.slice a L cap, .int .i64 p] w fun e w' => e = .returned (.tuple #[.int .i64 0, .int .i64 0, .bool false]) ∧ w = w' := by
  by_cases c : p < 0
  · go_enter Tryz.func73, Tryz.ntmps73
    go_wp2_with fail
    refine bodyPost_ret (v := .tuple #[.int .i64 0, .int .i64 0, .bool false]) (by simp [results, Tryz.results73, go_sem]) rfl ⟨rfl, rfl⟩
  · have d1 : decide (p < 0) = false := decide_eq_false c
    have d2 : decide ((L : Int) ≤ p) = true := decide_eq_true (by omega)
    clear h
    go_enter Tryz.func73, Tryz.ntmps73
    go_wp2_with fail
    refine bodyPost_ret (v := .tuple #[.int .i64 0, .int .i64 0, .bool false]) (by simp [results, Tryz.results73, go_sem]) rfl ⟨rfl, rfl⟩

theorem getRune_spec (zs : List Int) (a : Option Addr) (cap : Nat) (p : Int) (w : World) (hr : Rd w .u8 a zs) (hz : ∀ n ∈ zs, (Lit.int .u8 n).wf = true) (hlen : zs.length ≤ 1048576) :
    Calls Tryz.prog 73 #[.slice a zs.length cap, .int .i64 p] w fun e w' => e = .returned (.tuple #[.int .i64 (getV zs p).1, .int .i64 (getV zs p).2.1, .bool (getV zs p).2.2]) ∧ w = w' := by
  by_cases h : 0 ≤ p ∧ p < zs.length
  · obtain ⟨q, rfl⟩ : ∃ q : Nat, p = q := ⟨p.toNat, by omega⟩
    have hq : q < zs.length := by omega
    rcases hr with rfl | ⟨b, off, rfl, -, hc⟩
    · simp at hq
    by_cases c1 : bzf zs q 0 < 128
    · exact getRune_spec_1 zs b off cap q w hc hz hlen hq c1
    by_cases c2 : 192 ≤ bzf zs q 0 ∧ bzf zs q 0 ≤ 223
    · exact getRune_spec_2 zs b off cap q w hc hz hlen hq c2
    by_cases c3 : 224 ≤ bzf zs q 0 ∧ bzf zs q 0 ≤ 239
    · exact getRune_spec_3 zs b off cap q w hc hz hlen hq c3
    by_cases c4 : 240 ≤ bzf zs q 0 ∧ bzf zs q 0 ≤ 247
    · exact getRune_spec_4 zs b off cap q w hc hz hlen hq c4
    · exact getRune_spec_0 zs b off cap q w hc hz hlen hq (by unfold leadW; rw [if_neg c1, if_neg c2, if_neg c3, if_neg c4])
  · rw [getV_no h]
    exact getRune_spec_no _ _ _ _ _ h
end Go.Proofs.YtilmhemcpgiikaaGreatDoor
/- The plain law under GetRune, over lists of bytes: what GetRune answers is what the decoder of a list's tail says. -/
namespace Go.Proofs.YtilmhemcpgiikaaGreatDoor

theorem decodeN_four (n b0 b1 b2 b3 : Nat) : Lib.decodeN (min 4 n) b0 b1 b2 b3 = Lib.decodeN n b0 b1 b2 b3 := by
  have c1 : (1 < min 4 n) = (1 < n) := propext ⟨fun h => by omega, fun h => by omega⟩
  have c2 : (2 < min 4 n) = (2 < n) := propext ⟨fun h => by omega, fun h => by omega⟩
  have c3 : (3 < min 4 n) = (3 < n) := propext ⟨fun h => by omega, fun h => by omega⟩
  unfold Lib.decodeN
  simp only [c1, c2, c3]
theorem dec_le (l : List UInt8) (hne : l ≠ []) : (Lib.decodeL l).2 ≤ l.length := by
  have hl : 0 < l.length := List.length_pos_iff.2 hne
  rw [Lib.decodeL_N]
  unfold Lib.decodeN
  repeat' split
  all_goals (simp only; omega)
theorem decodeL_take (l : List UInt8) : Lib.decodeL (l.take 4) = Lib.decodeL l := by
  rw [Lib.decodeL_N, Lib.decodeL_N, List.length_take, decodeN_four]
  congr 2 <;> simp [List.getD_eq_getElem?_getD]
theorem bzf_bz (l : List UInt8) (p i : Nat) : bzf (bz l) p i = ((l.drop p).getD i 0).toNat := by
  unfold bzf
  by_cases h : p + i < l.length
  · rw [bz_getD h]
    simp [List.getD_eq_getElem?_getD, List.getElem?_drop, h]
  · have h1 : (bz l).length ≤ p + i := by rw [bz_length]; omega
    simp [List.getD_eq_getElem?_getD, List.getElem?_drop, List.getElem?_eq_none h1, List.getElem?_eq_none (show l.length ≤ p + i by omega)]
theorem getV_L (l : List UInt8) (p : Nat) (hp : p < l.length) :
    getV (bz l) p = if Lib.decodeL (l.drop p) = (65533, 1) then (0, 0, false) else (((Lib.decodeL (l.drop p)).1 : Int), (p : Int) + (Lib.decodeL (l.drop p)).2, true) := by
  have hN : Lib.decodeL (l.drop p) = Lib.decodeN ((bz l).length - p) (bzf (bz l) p 0) (bzf (bz l) p 1) (bzf (bz l) p 2) (bzf (bz l) p 3) := by
    rw [Lib.decodeL_N, List.length_drop, bz_length]
    simp only [bzf_bz]
  have hlt : ∀ i, bzf (bz l) p i < 256 := fun i => by rw [bzf_bz]; exact UInt8.toNat_lt _
  have hg := getF_eq ((bz l).length - p) (bzf (bz l) p) (by rw [bz_length]; omega) hlt
  rw [← hN] at hg
  unfold getV
  rw [if_pos ⟨by omega, by rw [bz_length]; omega⟩, show ((p : Int)).toNat = p by omega, hg]
  by_cases h : Lib.decodeL (l.drop p) = (65533, 1)
  · rw [if_pos h]; simp [h]
  · rw [if_neg h]; simp [h]
end Go.Proofs.YtilmhemcpgiikaaGreatDoor
/- The plain law under TextOk and RunesOf: the characters of a list of bytes. -/
namespace Go.Proofs.YtilmhemcpgiikaaGreatDoor
open Go.Deep Go.ChangeShapes Go.WideShapes Go.ChangeAt Go.RowKit

/-- The characters of bytes, as the decoder gives them. -/
def runesGo : Nat → List UInt8 → List Int
  | 0, _ => []
  | f + 1, l => if l = [] then [] else ((Lib.decodeL l).1 : Int) :: runesGo f (l.drop (Lib.decodeL l).2)
def runesD (l : List UInt8) : List Int := runesGo l.length l
theorem runesGo_nil : ∀ n, runesGo n [] = []
  | 0 => rfl
  | _ + 1 => by simp [runesGo]
theorem runesGo_fuel : ∀ (n m : Nat) (l : List UInt8), l.length ≤ n → l.length ≤ m → runesGo n l = runesGo m l
  | 0, m, l, hn, _ => by
    have : l = [] := List.eq_nil_of_length_eq_zero (by omega)
    subst this
    rw [runesGo_nil, runesGo_nil]
  | n + 1, 0, l, _, hm => by
    have : l = [] := List.eq_nil_of_length_eq_zero (by omega)
    subst this
    rw [runesGo_nil, runesGo_nil]
  | n + 1, m + 1, l, hn, hm => by
    unfold runesGo
    by_cases hne : l = []
    · simp [hne]
    · have hw := Lib.decodeL_width l
      have hl : 0 < l.length := List.length_pos_iff.2 hne
      rw [if_neg hne, if_neg hne, runesGo_fuel n m (l.drop (Lib.decodeL l).2) (by rw [List.length_drop]; omega) (by rw [List.length_drop]; omega)]
theorem runesD_step (l : List UInt8) (hne : l ≠ []) : runesD l = ((Lib.decodeL l).1 : Int) :: runesD (l.drop (Lib.decodeL l).2) := by
  have hl : 0 < l.length := List.length_pos_iff.2 hne
  have hw := Lib.decodeL_width l
  obtain ⟨n, hn⟩ : ∃ n, l.length = n + 1 := ⟨l.length - 1, by omega⟩
  unfold runesD
  rw [hn]
  show (if l = [] then [] else _) = _
  rw [if_neg hne, runesGo_fuel n (l.drop (Lib.decodeL l).2).length _ (by rw [List.length_drop]; omega) (Nat.le_refl _)]
/-- What TextOk says at a place, and where it goes on. -/
theorem valid_at (l : List UInt8) (p : Nat) (hp : p < l.length) :
    Lib.validD (l.drop p) = if (getV (bz l) p).2.2 = true then Lib.validD (l.drop (getV (bz l) p).2.1.toNat) else false := by
  have hne : l.drop p ≠ [] := by intro h; have := congrArg List.length h; simp at this; omega
  rw [Lib.validD_step _ hne, getV_L l p hp]
  by_cases h : Lib.decodeL (l.drop p) = (65533, 1)
  · rw [if_pos h, if_pos (by rw [h]; simp)]; simp
  · rw [if_neg h, if_neg (fun h' => h (Prod.ext h'.1 h'.2)), if_pos rfl, List.drop_drop]
    congr 2
theorem next_bd (l : List UInt8) (p : Nat) (hp : p < l.length) (hok : (getV (bz l) p).2.2 = true) : ∃ q : Nat, (getV (bz l) p).2.1 = q ∧ p < q ∧ q ≤ l.length ∧ runesD (l.drop p) = (getV (bz l) p).1 :: runesD (l.drop q) := by
  have hne : l.drop p ≠ [] := by intro h; have := congrArg List.length h; simp at this; omega
  have hw := Lib.decodeL_width (l.drop p)
  have hle := dec_le (l.drop p) hne
  rw [List.length_drop] at hle
  rw [getV_L l p hp] at hok ⊢
  by_cases h : Lib.decodeL (l.drop p) = (65533, 1)
  · rw [if_pos h] at hok; simp at hok
  · rw [if_neg h]
    refine ⟨p + (Lib.decodeL (l.drop p)).2, by simp, by omega, by omega, ?_⟩
    rw [runesD_step _ hne, List.drop_drop]
theorem runesGo_len : ∀ (n : Nat) (l : List UInt8), (runesGo n l).length ≤ n
  | 0, _ => by simp [runesGo]
  | n + 1, l => by
    unfold runesGo
    by_cases hne : l = []
    · simp [hne]
    · rw [if_neg hne]
      have := runesGo_len n (l.drop (Lib.decodeL l).2)
      simp; omega
theorem runesD_len (l : List UInt8) : (runesD l).length ≤ l.length := runesGo_len _ _

/-- []byte(s): a row of the bytes. -/
theorem conv_bytes {P : Program} (w : World) (src dst e : TypeId) (s : ByteArray) (hs : P.underlying src = some .string) (hd : P.underlying dst = some (.slice e)) (he : P.underlying e = some (.int .u8)) :
    ∃ c W1, (convert src dst (.string s)).run P w = .ok (.slice (some ⟨w.heap.size, 0, none⟩) s.size c) W1 ∧ Rd W1 .u8 (some ⟨w.heap.size, 0, none⟩) (bz s.data.toList) ∧ Below w.heap.size w W1 ∧ w.heap.size < W1.heap.size := by
  refine ⟨_, _, run_bytes_of_string w src dst e s hs hd he, ?_, ?_, ?_⟩
  · refine .inr ⟨w.heap.size, 0, rfl, ?_, fun j hj => ?_⟩
    · show w.drew.heap.size < (w.drew.alloc _).heap.size
      rw [World.size_alloc]; omega
    · have hj' : j < s.data.size := by rw [bz_length] at hj; simpa using hj
      have hd : w.heap.size = w.drew.heap.size := rfl
      have hn := heap_alloc_new w.drew (.cells (bytesRow s (grownCap w s.size 0 e)) e ((bytesRow s (grownCap w s.size 0 e)).size, (bytesRow s (grownCap w s.size 0 e)).size + 1))
      rw [hd, bz_getD (by simpa using hj')]
      simp only [World.cell?, hn]
      simp only [bytesRow, Nat.zero_add]
      rw [Array.getElem?_append_left (by simpa using hj'), Array.getElem?_map, Array.getElem?_eq_getElem hj']
      simp
  · have h1 : Below w.heap.size w w.drew := by
      have : Below w.heap.size w (w.drewN 1) := (Below.refl w.heap.size w).trans ⟨rfl, rfl, rfl, Nat.le_refl _, fun _ _ => rfl⟩
      simpa [World.drewN] using this
    exact h1.alloc (Nat.le_refl _) _
  · show w.drew.heap.size < (w.drew.alloc _).heap.size
    rw [World.size_alloc]; omega
section
variable {P : Program}
theorem wpList_append_liesR {ops : Array Oper} {rest : List Oper} {o : Oper} {a : Act} {w : World} {Q : Exit → Act → World → Prop} (hgd : o.guard = none) (s x : Operand) (t : TypeId)
    (ho : o.op = .call { callee := .builtin .append, args := #[s, x], argTypes := #[t, t] })
    (base : Nat) (e : TypeId) (i : TypeInfo) (z : Value) (size bytes : Nat) (ht : P.underlying t = some (.slice e)) (hi : P.info? e = some i) (hz : i.zero = some z)
    (hsize : i.size = size) (hby : i.bytes = bytes) (hzs : z.cells.size = size) (hsz : 0 < size)
    (v : Value) (n : Nat) (xs : List Value) (hs : a.eval s = v) (hown : w.ownsRow base e size v n xs)
    (ad : Addr) (m c : Nat) (news : List Value) (hx : a.eval x = .slice (some ad) m c) (hl : news.length = m * size) (hnews : ∀ j u, news[j]? = some u → w.cell? (ad.add j) = some u) (h1 : ∀ u ∈ news, u.oneCell' = true)
    (hm : 0 < m) (h63 : n + m ≤ maxLen) (hbytes : (n + m) * bytes ≤ 140737488355328) (hbase : base ≤ w.heap.size) (H : Nat) (hH : w.heap.size = H)
    (h : ∀ g cap w', w'.ownsRow base e size (.slice (some ⟨g, 0, none⟩) (n + m) cap) (n + m) (xs ++ news) → w.grownBy w' v.ownBlock → (v.ownBlock = some g ∨ g = H) → g < w'.heap.size → wpList P ops Q rest (a.put o.dst (.slice (some ⟨g, 0, none⟩) (n + m) cap)) w') : wpList P ops Q (o :: rest) a w :=
  wpList_plain hgd fun _ hK => wp_append_lies w s x t ho base e i z size bytes ht hi hz hsize hby hzs hsz v n xs hs hown ad m c news hx hl hnews h1 hm h63 hbytes hbase H hH fun g cap w' h2 h3 h4 h5 => hK _ _ (h g cap w' h2 h3 h4 h5)
end
theorem rd_grown {w w' : World} {row : Option Nat} (hg : w.grownBy w' row) {k : IntKind} {b : Nat} {zs : List Int} (h : Rd w k (some ⟨b, 0, none⟩) zs) (hb : row ≠ some b) : Rd w' k (some ⟨b, 0, none⟩) zs := by
  rcases h with h | ⟨b', off, ha, hlt, hc⟩
  · exact .inl h
  · injection ha with ha
    injection ha with e1 e2 e3
    subst e1 e2
    exact .inr ⟨b, 0, rfl, Nat.lt_of_lt_of_le hlt hg.size, fun j hj => hg.cell (hc j hj) (fun e => hb e.symm)⟩
end Go.Proofs.YtilmhemcpgiikaaGreatDoor
/- TextOk: both say whether all bytes are encoded characters. -/
namespace Go.Proofs.YtilmhemcpgiikaaGreatDoor
open Go.Deep Go.ChangeShapes Go.WideShapes Go.ChangeAt Go.RowKit
open Go.ChangeMaps (open_string shut_string)

theorem bz_byte (l : List UInt8) : ∀ n ∈ bz l, (Lit.int .u8 n).wf = true := by
  intro n hn
  unfold bz at hn
  obtain ⟨b, _, rfl⟩ := List.mem_map.1 hn
  have := UInt8.toNat_lt b
  simp [Lit.wf, IntKind.min, IntKind.max, IntKind.signed, IntKind.bits]
  omega

set_option maxRecDepth 100000 in
set_option maxHeartbeats 2000000 in
theorem textOk_spec (s : ByteArray) (w : World) (hlen : s.size ≤ 1048576) :
    Calls Tryz.prog 47 #[.string s] w fun e w' => e = .returned (.bool (Lib.validD s.data.toList)) ∧ Below w.heap.size w w' := by
  obtain ⟨c, W1, hcv, hrd, hb1, -⟩ := conv_bytes (P := Tryz.prog) w 9 22 5 s Tryz.underlying9 Tryz.underlying22 Tryz.underlying5
  obtain ⟨l, hl⟩ : ∃ l, l = s.data.toList := ⟨_, rfl⟩
  obtain ⟨L, hL⟩ : ∃ L, L = s.size := ⟨_, rfl⟩
  have hLl : L = l.length := by rw [hL, hl]; simp
  rw [← hL] at hcv hlen
  rw [← hl] at hrd ⊢
  have HS := Lib.hid (fun p => by
    have := getRune_spec (bz l) (some ⟨w.heap.size, 0, none⟩) c p W1 hrd (bz_byte l) (by rw [bz_length]; omega)
    rwa [bz_length, ← hLl] at this)
  have HB := Lib.hid hb1
  have HL := Lib.hid hLl
  clear hrd hl hL hb1 hLl
  go_enter Tryz.func47, Tryz.ntmps47
  go_wp2_with fail
  clear hcv
  go_loop [4, 5, 6, 7] (fun a _ _ _ => ∃ j : Nat, j ≤ L ∧ a = .int .i64 j ∧ Hid (Lib.validD l = Lib.validD (l.drop j))) (fun a _ _ _ => L - (intOf a).toNat)
  case atStart => exact ⟨0, by omega, rfl, Lib.hid (by simp)⟩
  case round =>
    obtain ⟨j, hj, rfl, HV⟩ := hrel
    by_cases hjl : j < L
    · have hsj := HS.out j
      have hva := valid_at l j (by have := HL.out; omega)
      have hnx := next_bd l j (by have := HL.out; omega)
      obtain ⟨R, hR⟩ : ∃ R, getV (bz l) j = R := ⟨_, rfl⟩
      rw [hR] at hsj hva hnx
      clear hR
      obtain ⟨R1, R2, R3⟩ := R
      simp only at hsj hva hnx
      cases R3 with
      | false =>
        have hf : Lib.validD l = false := by rw [HV.out, hva]; simp
        have HF := Lib.hid hf; have HSJ := Lib.hid hsj; clear hf hva hnx HV hsj
        go_wp2_with (go_at_call 73; refine HSJ.out.mono ?_; rintro e w' ⟨rfl, rfl⟩)
        go_ret
        exact ⟨ret_bool HF.out.symm, HB.out⟩
      | true =>
        obtain ⟨q, rfl, hq1, hq2, -⟩ := hnx rfl
        have hf : Lib.validD l = Lib.validD (l.drop q) := by rw [HV.out, hva]; simp
        have hq3 : q ≤ L := by have := HL.out; omega
        have HF := Lib.hid hf; have HSJ := Lib.hid hsj; clear hf hva hnx HV hsj hq2
        go_wp2_with (go_at_call 73; refine HSJ.out.mono ?_; rintro e w' ⟨rfl, rfl⟩)
        go_round
        case rel => exact ⟨q, by omega, rfl, HF⟩
        case measure => simp [intOf]; omega
    · obtain rfl : j = L := by omega
      have hf : Lib.validD l = true := by
        have h := HV.out
        rw [List.drop_of_length_le (by have := HL.out; omega), Lib.validD_nil] at h
        exact h
      have HF := Lib.hid hf; clear hf
      go_wp2_with fail
      go_ret
      exact ⟨ret_bool HF.out.symm, HB.out⟩

theorem textOk_impl (s : ByteArray) (w : World) (hlen : s.size ≤ 1048576) (hL : LaidU w) :
    Calls Tryz.prog 70 #[.string s] w fun e w' => e = .returned (.bool (Lib.validD s.data.toList)) ∧ Below w.heap.size w w' := by
  have HC := Lib.hid (Tryz.utf8_ValidString s w (by omega) hL)
  clear hL
  generalize Lib.validD s.data.toList = R at *
  go_enter Tryz.func70, Tryz.ntmps70
  go_wp2_with (go_at_call 84; go_fit HC.out; rintro e w' ⟨rfl, hb⟩)
  go_ret
  exact ⟨rfl, hb⟩
end Go.Proofs.YtilmhemcpgiikaaGreatDoor
