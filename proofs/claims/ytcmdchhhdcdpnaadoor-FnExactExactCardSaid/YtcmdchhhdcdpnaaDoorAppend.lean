/- Appending a readable slice of integers, nil or not, onto a row of the call's own. -/
import Derived.Test.YtcmdchhhdcdpnaaDoorCBytes
import Derived.Deep.AppendSrc
namespace Go.Proofs.YtcmdchhhdcdpnaaDoor
open Go.Deep Go.ChangeShapes Go.WideShapes Go.ChangeAt Go.RowKit

section
variable {P : Program} (w : World)
theorem grown_refl (row : Option Nat) : w.grownBy w row := ⟨rfl, rfl, rfl, Nat.le_refl _, fun _ _ _ => rfl⟩

theorem run_append_rd (base : Nat) (t ty e : TypeId) (i : TypeInfo) (z : Value) (bytes : Nat) (ht : P.underlying t = some (.slice e)) (hi : P.info? e = some i) (hz : i.zero = some z)
    (hsize : i.size = 1) (hby : i.bytes = bytes) (hzs : z.cells.size = 1) (v : Value) (n : Nat) (xs : List Value) (hown : w.ownsRow base e 1 v n xs)
    (k : IntKind) (a : Option Addr) (c : Nat) (zs : List Int) (hr : Rd w k a zs)
    (h63 : n + zs.length ≤ maxLen) (hbytes : (n + zs.length) * bytes ≤ 140737488355328) (hbase : base ≤ w.heap.size) :
    ∃ v' w', (Builtin.append_ #[t, t] ty #[v, .slice a zs.length c]).run P w = .ok v' w' ∧ w'.ownsRow base e 1 v' (n + zs.length) (xs ++ zs.map (Value.int k)) ∧ w.grownBy w' v.ownBlock := by
  cases a with
  | some ad =>
    have hnews : ∀ j u, (zs.map (Value.int k))[j]? = some u → w.cell? (ad.add j) = some u := by
      intro j u hu
      rcases hr with rfl | ⟨b, off, hb, _, hc⟩
      · simp at hu
      · rw [Option.some.injEq] at hb
        subst hb
        rw [List.getElem?_map] at hu
        by_cases hj : j < zs.length
        · rw [List.getElem?_eq_getElem hj] at hu
          simp at hu
          have hadd : (⟨b, off, none⟩ : Addr).add j = ⟨b, off + j, none⟩ := by unfold Addr.add; split <;> simp_all
          rw [hadd, hc j hj, ← hu]
          simp [List.getD, List.getElem?_eq_getElem hj]
        · rw [List.getElem?_eq_none (by omega)] at hu; simp at hu
    obtain ⟨v', w', h1, h2, h3, _⟩ := run_append_own (P := P) w base t ty e i z 1 bytes ht hi hz hsize hby hzs (by decide) v n xs hown ad zs.length c (zs.map (Value.int k)) (by simp) hnews
      (fun u hu => by obtain ⟨_, _, rfl⟩ := List.mem_map.1 hu; rfl) h63 hbytes hbase
    exact ⟨v', w', h1, h2, h3⟩
  | none =>
    have hz0 : zs = [] := by
      rcases hr with h | ⟨b, off, hb, _⟩
      · exact h
      · cases hb
    subst hz0
    refine ⟨v, w, ?_, by simpa using hown, grown_refl w _⟩
    rcases hown.2 with ⟨rfl, rfl⟩ | ⟨g, cap, cur, rfl, hbg, hg, hnc, hcm, hcs, htake⟩
    · simp [Builtin.append_, run_underlying ht, sizeOf, typeInfo, hi, Builtin.lenOf, Builtin.firstCells]
    · have := run_append_room_src (P := P) w t t ty e i ht hi g 0 n cap (.slice none 0 c) 0 [] (Src.ofNil w ht c) (by omega) (by simp) (by simp)
      simpa [World.setCells] using this

theorem wpList_append_rd {ops : Array Oper} {rest : List Oper} {o : Oper} {a : Act} {Q : Exit → Act → World → Prop} (hgd : o.guard = none) (s x : Operand) (t : TypeId)
    (ho : o.op = .call { callee := .builtin .append, args := #[s, x], argTypes := #[t, t] })
    (base : Nat) (e : TypeId) (i : TypeInfo) (z : Value) (bytes : Nat) (ht : P.underlying t = some (.slice e)) (hi : P.info? e = some i) (hz : i.zero = some z)
    (hsize : i.size = 1) (hby : i.bytes = bytes) (hzs : z.cells.size = 1) (v : Value) (n : Nat) (xs : List Value) (hs : a.eval s = v) (hown : w.ownsRow base e 1 v n xs)
    (k : IntKind) (ad : Option Addr) (m c : Nat) (zs : List Int) (hx : a.eval x = .slice ad m c) (hm : m = zs.length) (hr : Rd w k ad zs)
    (h63 : n + m ≤ maxLen) (hbytes : (n + m) * bytes ≤ 140737488355328) (hbase : base ≤ w.heap.size)
    (h : ∀ v' w', w'.ownsRow base e 1 v' (n + m) (xs ++ zs.map (Value.int k)) → w.grownBy w' v.ownBlock → wpList P ops Q rest (a.put o.dst v') w') : wpList P ops Q (o :: rest) a w := by
  subst hm
  refine wpList_plain hgd fun K hK => ?_
  obtain ⟨v', w', hr, h2, h3⟩ := run_append_rd (P := P) w base t o.type e i z bytes ht hi hz hsize hby hzs v n xs hown k ad c zs hr h63 hbytes hbase
  unfold Oper.wp execOp
  simp only [ho, resolve, invoke, builtin, Sem.run_bind, Sem.run_pure, Result.andThen_ok, List.map_toArray, List.map_cons, List.map_nil, hs, hx, hr]
  exact hK _ _ (h v' w' h2 h3)
end

theorem rd_kept {w w' : World} (hb : Below w.heap.size w w') {k : IntKind} {a : Option Addr} {zs : List Int} (h : Rd w k a zs) : Rd w' k a zs := by
  rcases h with h | ⟨b, off, ha, hlt, hc⟩
  · exact .inl h
  · exact .inr ⟨b, off, ha, Nat.lt_of_lt_of_le hlt hb.size, fun j hj => (World.cell?_of_block (w := w) (a := ⟨b, off + j, none⟩) (hb.block _ hlt)).trans (hc j hj)⟩
theorem rd_alloc {w : World} {k : IntKind} {a : Option Addr} {zs : List Int} (h : Rd w k a zs) (o : Obj) : Rd (w.alloc o) k a zs := rd_kept (below1 _ _) h

theorem made_grown {w w1 : World} {o : Obj} {n c : Nat} (h : (w.alloc o).grownBy w1 (Value.slice (some ⟨w.heap.size, 0, none⟩) n c).ownBlock) : Below w.heap.size w w1 :=
  (below1 w o).grown h (by simp) (fun k hk => by simp [Value.ownBlock] at hk; omega)

/-- Where a part of a slice begins. -/
def cutA (a : Option Addr) (cap p : Nat) : Option Addr := if cap = p then a else a.map (·.add p)
theorem run_cut {P : Program} (t : TypeId) (h : P.underlying t = some (.slice (P.elem t))) (hs : ∀ w, (sizeOf (P.elem t)).run P w = .ok 1 w) (a : Option Addr) (len cap p n : Nat) (h2 : p + n ≤ cap) (w : World) :
    (Instr.slice t (.slice a len cap) (some (.int .i64 p)) (some (.int .i64 ((p : Int) + (n : Int)))) none).run P w = .ok (.slice (cutA a cap p) n (cap - p)) w := by
  rw [run_slice_lh w t a len cap h .i64 .i64 p (p + n) (by omega) (by omega) (by omega), hs]
  have e1 : (p : Int).toNat = p := by omega
  have e2 : ((p : Int) + (n : Int)).toNat = p + n := by omega
  have e3 : p + n - p = n := by omega
  simp [sliced, cutA, e2, e3]
theorem rd_cut {w : World} {k : IntKind} {a : Option Addr} {zs : List Int} (hr : Rd w k a zs) (cap p n : Nat) (h : p + n ≤ zs.length) (hcap : zs.length ≤ cap) : Rd w k (cutA a cap p) ((zs.drop p).take n) := by
  unfold cutA
  rcases hr with rfl | ⟨b, off, rfl, hb, hc⟩
  · exact .inl (by simp)
  · by_cases e : cap = p
    · have : n = 0 := by omega
      subst this
      exact .inl (by simp)
    · rw [if_neg e]
      have hadd : (⟨b, off, none⟩ : Addr).add p = ⟨b, off + p, none⟩ := by unfold Addr.add; split <;> simp_all
      refine .inr ⟨b, off + p, by rw [Option.map_some, hadd], hb, fun j hj => ?_⟩
      have hj' : j < n := by simp at hj; omega
      have := hc (p + j) (by omega)
      rw [Nat.add_assoc, this]
      simp only [List.getD_eq_getElem?_getD, List.getElem?_take, List.getElem?_drop, if_pos hj']
end Go.Proofs.YtcmdchhhdcdpnaaDoor
