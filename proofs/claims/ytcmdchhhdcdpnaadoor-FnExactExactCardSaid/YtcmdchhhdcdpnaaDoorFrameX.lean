/- A frame for laws whose row lists tables and sentinels of the library's: they are as the text lays them. -/
import Derived.Test.YtcmdchhhdcdpnaaDoorFrame
import Derived.Test.YtcmdchhhdcdpnaaDoorCards
import Derived.Test.YtcmdchhhdcdpnaaDoorTie
import Derived.Deep.DeepHandedRow
import Derived.Lib.LaidTab
import Derived.Lib.LaidU8
import Derived.Lib.LaidU8T
import Derived.Lib.ItoaNum
import Derived.Stop.LaidErr
import Derived.WalkLawsBesides
namespace Go.Proofs.YtcmdchhhdcdpnaaDoor
open Go.ChangeShapes Go.WideShapes Go.ChangeAt Go.RowKit
open Go.ChangeMaps (open_string shut_string)

theorem g_pow : Tryd.prog.globalNamed "internal/strconv.uint64pow10" = some 2 := by kernel_rfl
theorem g_powT : (Tryd.prog.globals[2]?).map (·.type) = some 63 := by kernel_rfl

/-- What the walks are told of the world: the table of powers is as the text lays it. -/
def LaidP (W : World) : Prop := Lib.TabIs Tryd.prog W "internal/strconv.uint64pow10" .u64 Lib.pow10Tab

theorem laidP_of {laid : List (String × DataW Unit)} {W : World} (h : laidMet Tryd.prog laid W) (hm : ("internal/strconv.uint64pow10", Rows.laid_internal_strconv_uint64pow10) ∈ laid) : LaidP W := by
  obtain ⟨g, t, cs, fuel, p, h1, h2, h3, h4⟩ := Lib.laidMet.reads h hm
  obtain rfl := Option.some.inj (g_pow.symm.trans h1)
  obtain rfl := Option.some.inj (g_powT.symm.trans h2)
  unfold LaidP Lib.TabIs
  have e : Rows.laid_internal_strconv_uint64pow10 = Lib.tabData (H := Unit) .u64 Lib.pow10Tab := by kernel_rfl
  rw [e] at h4
  rw [h3, ← Lib.cells_of_tab Tryd.underlying63 Tryd.underlying37 (by kernel_rfl) (by kernel_rfl) h4]

theorem LaidP.kept {w w' : World} (h : LaidP w) (hb : Below w.heap.size w w') : LaidP w' := by
  unfold LaidP Lib.TabIs at *
  have hlt : 2 < w.heap.size := by
    have := (Lib.TabIs.cell (P := Tryd.prog) h g_pow 0 (by simp [Lib.pow10Tab]))
    exact World.block_lt_of_cell? w _ this
  exact var?_below hb g_pow hlt h

theorem laid_mem {P : Program} {W : World} : ∀ {L : List (String × DataW Unit)} {x : String × DataW Unit}, laidMet P L W → x ∈ L → laidMet P [x] W
  | [], _, _, hm => by cases hm
  | y :: r, x, h, hm => by
    rcases List.mem_cons.1 hm with rfl | hm
    · obtain ⟨ps, hv, hnd, hrows⟩ := h
      obtain ⟨n, d⟩ := x
      obtain ⟨g, t, cs, fuel, p, q, h1, h2, h3, h4, hq, rfl⟩ := hv
      refine ⟨_, ⟨g, t, cs, fuel, p, [], h1, h2, h3, h4, rfl, rfl⟩, ?_, fun b off hm => hrows b off ?_⟩
      · rw [List.append_nil]; exact List.Nodup.sublist (List.sublist_append_left _ _) hnd
      · rw [List.append_nil] at hm; exact List.mem_append_left _ hm
    · exact laid_mem h.tail hm

/-- What a law's call is, in every world of a kind. -/
def LawWalkX (L : World → Prop) (f : FuncId) (fn : Func) : Prop :=
  ∀ (H : Type) (enc : TypeId × Value → H) (W : World) (base : Nat) (args : Array Value) (ds : List (DataW H)) (p : List MemPlace),
    (∀ (j : Nat) t v, fn.params[j]? = some t → args[j]? = some v → Value.okWide Tryd.prog W .any base t v) →
    DataW.TrodAll enc Tryd.prog W 0 (fun _ => true) true fn.params.toList args.toList ds p → L W →
    Calls Tryd.prog f args W fun e W' => e = .returned (.bool true) ∧ Below W.heap.size W W'

set_option maxRecDepth 100000 in
/-- The row's step, out of the walk. -/
theorem law_contractX (L : World → Prop) (f : FuncId) (fn : Func) (s : ChangeSpec) (H : Type) (enc : TypeId × Value → H)
    (hvars : s.vars = []) (hres : fn.resultTypes.toList = [4])
    (hr : fn.params.toList.all (fun t => Tryd.prog.readableRec t && decide (t < Tryd.prog.types.size)) = true)
    (hspec : ∀ ds : List (DataW H), ds.length = fn.params.toList.length → s.fn H ds = { results := [.lit (.bool true)], args := ds })
    (walk : LawWalkX L f fn) (W : World) (base : Nat) (args : Array Value) (ds gs : List (DataW H)) (before : List MemPlace)
    (hval : ∀ (j : Nat) t v, fn.params[j]? = some t → args[j]? = some v → Value.okWide Tryd.prog W .any base t v)
    (hW : DataW.Whole enc Tryd.prog fn.params.toList s.vars false W args.toList ds gs before) (hL : L W) :
    Calls Tryd.prog f args W fun e W' => ∃ v, e = .returned v ∧ s.post enc Tryd.prog fn false true false false W args v W' := by
  have hW' := hW
  obtain ⟨p, q, hA, hV, rfl, hfz, hnd⟩ := hW
  rw [hvars] at hV
  obtain ⟨rfl, rfl⟩ := trodVars_none hV
  have hlen := trodAll_length _ _ _ _ hA
  have hs := hspec (ds ++ []) (by simpa using hlen)
  refine (walk H enc W base args ds p hval hA hL).mono fun e W' ⟨he, bel⟩ => ?_
  subst he
  refine ⟨_, rfl, ds, [], _, [], p, [], hW', ?_, ?_, ?_, bel.frame _, fun h => by cases h⟩
  · rw [hs]
    show DataW.TrodAll _ _ _ _ _ _ fn.resultTypes.toList _ _ _
    rw [hres]
    have hsz : fn.resultTypes.size = 1 := by simpa using congrArg List.length hres
    rw [hsz]
    exact trodAll_mk1 (shut_bool Tryd.underlying4 _)
  · rw [hs, List.append_nil]
    exact trodAll_below laidOut bel _ _ _ _ hr hA
  · rw [hs, hvars]
    rfl

/-- A block of cells, filled anew. -/
def refill (cs : Array Value) (o : Obj) : Obj := match o with
  | .cells _ t frozen => .cells cs t frozen
  | o => o
noncomputable def low : Nat := (World.holding Tryd.prog default ⟨#[], #[], []⟩).heap.size
/-- A world for the witness: the settled one, the tables and sentinels holding what their initialisers lay. -/
noncomputable def laidWorld (os : Os) : World :=
  let w0 := World.holding Tryd.prog os ⟨#[], #[], []⟩
  { w0 with heap := (((w0.heap.modify 3 (refill #[.int .u8 0, .int .u8 1, .int .u8 28, .int .u8 2, .int .u8 29, .int .u8 14, .int .u8 24, .int .u8 3, .int .u8 30, .int .u8 22, .int .u8 20, .int .u8 15, .int .u8 25, .int .u8 17, .int .u8 4, .int .u8 8, .int .u8 31, .int .u8 27, .int .u8 13, .int .u8 23, .int .u8 21, .int .u8 19, .int .u8 16, .int .u8 7, .int .u8 26, .int .u8 12, .int .u8 18, .int .u8 6, .int .u8 11, .int .u8 5, .int .u8 10, .int .u8 9])).modify 4 (refill #[.int .u8 0, .int .u8 1, .int .u8 56, .int .u8 2, .int .u8 57, .int .u8 49, .int .u8 28, .int .u8 3, .int .u8 61, .int .u8 58, .int .u8 42, .int .u8 50, .int .u8 38, .int .u8 29, .int .u8 17, .int .u8 4, .int .u8 62, .int .u8 47, .int .u8 59, .int .u8 36, .int .u8 45, .int .u8 43, .int .u8 51, .int .u8 22, .int .u8 53, .int .u8 39, .int .u8 33, .int .u8 30, .int .u8 24, .int .u8 18, .int .u8 12, .int .u8 5, .int .u8 63, .int .u8 55, .int .u8 48, .int .u8 27, .int .u8 60, .int .u8 41, .int .u8 37, .int .u8 16, .int .u8 46, .int .u8 35, .int .u8 44, .int .u8 21, .int .u8 52, .int .u8 32, .int .u8 23, .int .u8 11, .int .u8 54, .int .u8 26, .int .u8 40, .int .u8 15, .int .u8 34, .int .u8 20, .int .u8 31, .int .u8 10, .int .u8 25, .int .u8 14, .int .u8 19, .int .u8 9, .int .u8 13, .int .u8 8, .int .u8 7, .int .u8 6])).modify 2 (refill #[.int .u64 1, .int .u64 10, .int .u64 100, .int .u64 1000, .int .u64 10000, .int .u64 100000, .int .u64 1000000, .int .u64 10000000, .int .u64 100000000, .int .u64 1000000000, .int .u64 10000000000, .int .u64 100000000000, .int .u64 1000000000000, .int .u64 10000000000000, .int .u64 100000000000000, .int .u64 1000000000000000, .int .u64 10000000000000000, .int .u64 100000000000000000, .int .u64 1000000000000000000, .int .u64 10000000000000000000])) }
end Go.Proofs.YtcmdchhhdcdpnaaDoor
