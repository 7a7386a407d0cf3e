/- The plain law under TextOk and RunesOf: the characters of a list of bytes. -/
import Derived.Test.YtjkjfdhbbblffaaDoorMGet
import Derived.Deep.AppendLies
namespace Go.Proofs.YtjkjfdhbbblffaaDoor
open Go.Deep Go.ChangeShapes Go.WideShapes Go.ChangeAt Go.RowKit

/-- The characters of bytes, as the decoder gives them. -/
def runesGo : Nat → List UInt8 → List Int
  | 0, _ => []
  | f + 1, l => if l = [] then [] else ((Lib.decodeL l).1 : Int) :: runesGo f (l.drop (Lib.decodeL l).2)
def runesD (l : List UInt8) : List Int := runesGo l.length l
theorem runesGo_nil : ∀ n, runesGo n [] = []
  | 0 => rfl
  | _ + 1 => by simp [runesGo]
theorem runesGo_fuel : ∀ (n m : Nat) (l : List UInt8), l.length ≤ n → l.length ≤ m → runesGo n l = runesGo m l
  | 0, m, l, hn, _ => by
    have : l = [] := List.eq_nil_of_length_eq_zero (by omega)
    subst this
    rw [runesGo_nil, runesGo_nil]
  | n + 1, 0, l, _, hm => by
    have : l = [] := List.eq_nil_of_length_eq_zero (by omega)
    subst this
    rw [runesGo_nil, runesGo_nil]
  | n + 1, m + 1, l, hn, hm => by
    unfold runesGo
    by_cases hne : l = []
    · simp [hne]
    · have hw := Lib.decodeL_width l
      have hl : 0 < l.length := List.length_pos_iff.2 hne
      rw [if_neg hne, if_neg hne, runesGo_fuel n m (l.drop (Lib.decodeL l).2) (by rw [List.length_drop]; omega) (by rw [List.length_drop]; omega)]
theorem runesD_step (l : List UInt8) (hne : l ≠ []) : runesD l = ((Lib.decodeL l).1 : Int) :: runesD (l.drop (Lib.decodeL l).2) := by
  have hl : 0 < l.length := List.length_pos_iff.2 hne
  have hw := Lib.decodeL_width l
  obtain ⟨n, hn⟩ : ∃ n, l.length = n + 1 := ⟨l.length - 1, by omega⟩
  unfold runesD
  rw [hn]
  show (if l = [] then [] else _) = _
  rw [if_neg hne, runesGo_fuel n (l.drop (Lib.decodeL l).2).length _ (by rw [List.length_drop]; omega) (Nat.le_refl _)]
/-- What TextOk says at a place, and where it goes on. -/
theorem valid_at (l : List UInt8) (p : Nat) (hp : p < l.length) :
    Lib.validD (l.drop p) = if (getV (bz l) p).2.2 = true then Lib.validD (l.drop (getV (bz l) p).2.1.toNat) else false := by
  have hne : l.drop p ≠ [] := by intro h; have := congrArg List.length h; simp at this; omega
  rw [Lib.validD_step _ hne, getV_L l p hp]
  by_cases h : Lib.decodeL (l.drop p) = (65533, 1)
  · rw [if_pos h, if_pos (by rw [h]; simp)]; simp
  · rw [if_neg h, if_neg (fun h' => h (Prod.ext h'.1 h'.2)), if_pos rfl, List.drop_drop]
    congr 2
theorem next_bd (l : List UInt8) (p : Nat) (hp : p < l.length) (hok : (getV (bz l) p).2.2 = true) : ∃ q : Nat, (getV (bz l) p).2.1 = q ∧ p < q ∧ q ≤ l.length ∧ runesD (l.drop p) = (getV (bz l) p).1 :: runesD (l.drop q) := by
  have hne : l.drop p ≠ [] := by intro h; have := congrArg List.length h; simp at this; omega
  have hw := Lib.decodeL_width (l.drop p)
  have hle := dec_le (l.drop p) hne
  rw [List.length_drop] at hle
  rw [getV_L l p hp] at hok ⊢
  by_cases h : Lib.decodeL (l.drop p) = (65533, 1)
  · rw [if_pos h] at hok; simp at hok
  · rw [if_neg h]
    refine ⟨p + (Lib.decodeL (l.drop p)).2, by simp, by omega, by omega, ?_⟩
    rw [runesD_step _ hne, List.drop_drop]
theorem runesGo_len : ∀ (n : Nat) (l : List UInt8), (runesGo n l).length ≤ n
  | 0, _ => by simp [runesGo]
  | n + 1, l => by
    unfold runesGo
    by_cases hne : l = []
    · simp [hne]
    · rw [if_neg hne]
      have := runesGo_len n (l.drop (Lib.decodeL l).2)
      simp; omega
theorem runesD_len (l : List UInt8) : (runesD l).length ≤ l.length := runesGo_len _ _

/-- []byte(s): a row of the bytes. -/
theorem conv_bytes {P : Program} (w : World) (src dst e : TypeId) (s : ByteArray) (hs : P.underlying src = some .string) (hd : P.underlying dst = some (.slice e)) (he : P.underlying e = some (.int .u8)) :
    ∃ c W1, (convert src dst (.string s)).run P w = .ok (.slice (some ⟨w.heap.size, 0, none⟩) s.size c) W1 ∧ Rd W1 .u8 (some ⟨w.heap.size, 0, none⟩) (bz s.data.toList) ∧ Below w.heap.size w W1 ∧ w.heap.size < W1.heap.size := by
  refine ⟨_, _, run_bytes_of_string w src dst e s hs hd he, ?_, ?_, ?_⟩
  · refine .inr ⟨w.heap.size, 0, rfl, ?_, fun j hj => ?_⟩
    · show w.drew.heap.size < (w.drew.alloc _).heap.size
      rw [World.size_alloc]; omega
    · have hj' : j < s.data.size := by rw [bz_length] at hj; simpa using hj
      have hd : w.heap.size = w.drew.heap.size := rfl
      have hn := heap_alloc_new w.drew (.cells (bytesRow s (grownCap w s.size 0 e)) e ((bytesRow s (grownCap w s.size 0 e)).size, (bytesRow s (grownCap w s.size 0 e)).size + 1))
      rw [hd, bz_getD (by simpa using hj')]
      simp only [World.cell?, hn]
      simp only [bytesRow, Nat.zero_add]
      rw [Array.getElem?_append_left (by simpa using hj'), Array.getElem?_map, Array.getElem?_eq_getElem hj']
      simp
  · have h1 : Below w.heap.size w w.drew := by
      have := below_drewN (Below.refl w.heap.size w) 1
      simpa [World.drewN] using this
    exact h1.alloc (Nat.le_refl _) _
  · show w.drew.heap.size < (w.drew.alloc _).heap.size
    rw [World.size_alloc]; omega
section
variable {P : Program}
theorem wpList_append_lies {ops : Array Oper} {rest : List Oper} {o : Oper} {a : Act} {w : World} {Q : Exit → Act → World → Prop} (hgd : o.guard = none) (s x : Operand) (t : TypeId)
    (ho : o.op = .call { callee := .builtin .append, args := #[s, x], argTypes := #[t, t] })
    (base : Nat) (e : TypeId) (i : TypeInfo) (z : Value) (size bytes : Nat) (ht : P.underlying t = some (.slice e)) (hi : P.info? e = some i) (hz : i.zero = some z)
    (hsize : i.size = size) (hby : i.bytes = bytes) (hzs : z.cells.size = size) (hsz : 0 < size)
    (v : Value) (n : Nat) (xs : List Value) (hs : a.eval s = v) (hown : w.ownsRow base e size v n xs)
    (ad : Addr) (m c : Nat) (news : List Value) (hx : a.eval x = .slice (some ad) m c) (hl : news.length = m * size) (hnews : ∀ j u, news[j]? = some u → w.cell? (ad.add j) = some u) (h1 : ∀ u ∈ news, u.oneCell' = true)
    (hm : 0 < m) (h63 : n + m ≤ maxLen) (hbytes : (n + m) * bytes ≤ 140737488355328) (hbase : base ≤ w.heap.size) (H : Nat) (hH : w.heap.size = H)
    (h : ∀ g cap w', w'.ownsRow base e size (.slice (some ⟨g, 0, none⟩) (n + m) cap) (n + m) (xs ++ news) → w.grownBy w' v.ownBlock → (v.ownBlock = some g ∨ g = H) → g < w'.heap.size → wpList P ops Q rest (a.put o.dst (.slice (some ⟨g, 0, none⟩) (n + m) cap)) w') : wpList P ops Q (o :: rest) a w :=
  wpList_plain hgd fun _ hK => wp_append_lies w s x t ho base e i z size bytes ht hi hz hsize hby hzs hsz v n xs hs hown ad m c news hx hl hnews h1 hm h63 hbytes hbase H hH fun g cap w' h2 h3 h4 h5 => hK _ _ (h g cap w' h2 h3 h4 h5)
end
theorem rd_grown {w w' : World} {row : Option Nat} (hg : w.grownBy w' row) {k : IntKind} {b : Nat} {zs : List Int} (h : Rd w k (some ⟨b, 0, none⟩) zs) (hb : row ≠ some b) : Rd w' k (some ⟨b, 0, none⟩) zs := by
  rcases h with h | ⟨b', off, ha, hlt, hc⟩
  · exact .inl h
  · injection ha with ha
    injection ha with e1 e2 e3
    subst e1 e2
    exact .inr ⟨b, 0, rfl, Nat.lt_of_lt_of_le hlt hg.size, fun j hj => hg.cell (hc j hj) (fun e => hb e.symm)⟩
end Go.Proofs.YtjkjfdhbbblffaaDoor
