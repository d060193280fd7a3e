/- Executions as plain data; how they lie in memory, told once: from what a walk of the elder ground speaks of to plain data, and back. -/
import Derived.Shelf.Small.Bits
import Derived.Shelf.Small.Wraps
import Derived.Shelf.Strconv.Itoa0
import Derived.Shelf.Sort.Plain
import Derived.Shelf.Slices.Equal
import Derived.Ground.Names2Prog
import Derived.Shelf.Slices.SearchI
import Derived.Shelf.Slices.In.SortNone
import Derived.Shelf.Slices.Empties2
import Derived.Test.YtnghoibkjphfmaaGreatProg
import Derived.Sort.WalkA
import Derived.RangeFuncBox
import Derived.RangeFuncLeaves
import Derived.Shelf.Abstract
import Derived.WalkKit
import Derived.OwnWalkIn
import Derived.TacticsInMore
import Derived.RegionIn
import Derived.LoopNIn
import Derived.LoopIn
import Derived.Maps.AppendAt
import Derived.Maps.OwnIn
import Derived.Sort.MapsRangeIn
import Derived.Sort.OwnSortedInts
import Derived.Shelf.SlSortCmp.WholeK
import Derived.Shelf.SlGeneric
import Derived.Ground.SlsfProg
import Derived.RangeFuncNested
import Derived.Shelf.SlSortCmp.NoneTotal
import Derived.Maps.OwnOps
import Derived.Maps.OwnSet
import Derived.Maps.Views
import Derived.Sort.Walk7
import Derived.Test.YtnghoibkjphfmaaGreatPd3
import Derived.Test.YtnghoibkjphfmaaGreatPd4
import Derived.Test.YtnghoibkjphfmaaGreatPd5
import Derived.Test.YtnghoibkjphfmaaGreatPd6
set_option maxRecDepth 100000
namespace Go.Proofs.YtnghoibkjphfmaaGreat
open Go.RowKit
/-- an event's cells -/
def evTV (e : Ev) : List TV := [.c (.int .i64 e.hart), .c (.int .i64 e.kind), .c (.int .u32 e.addr), .c (.int .u32 e.val), .c (.int .u32 e.rval), .c (.bool e.aq), .c (.bool e.rl), .c (.int .i64 e.pred), .c (.int .i64 e.succ), .c (.bool e.rsv), ints e.addrs, ints e.datas, ints e.ctrls]
def evOV (e : Ev) : OV := .ag ((evTV e).map .d)
def evsTV (l : List Ev) : TV := .sl 13 (l.map evTV)
def intRow (r : Sl × List Int) : List TV := [ints r.2]
def rowsTV (l : List (Sl × List Int)) : TV := .sl 1 (l.map intRow)
def exOV (x : Ex) : OV := .ag [.d (evsTV x.evs), .d (ints x.from_), .d (rowsTV x.order)]
/-- numbers of 32 bits in a slice -/
def cellU (n : Int) : List TV := [.c (.int .u32 n)]
def words (l : List Int) : TV := .sl 1 (l.map cellU)
/-- all memory that there is -/
def allM (w : World) : Mem := fun b o => w.cell? ⟨b, o, none⟩
def allG (w : World) : Gh := ⟨allM w, fun _ _ => none⟩
theorem WRel.all (w : World) (N : Nat) : WRel ⟨w, fun _ => False, allG w, N⟩ (allG w) Store.nil w where
  mem _ _ _ h := h
  own k τ r hk := by cases hk
  inj k k' τ τ' β β' r r' hk := by cases hk
  keep _ _ _ := rfl
  size := Nat.le_refl _
  tape := rfl
  os := rfl
  output := rfl
  g0 := .refl _
  new _ _ _ h := Or.inl h
  bound := ⟨0, fun _ _ _ _ => rfl⟩
  low _ _ _ _ := rfl
theorem rep_c2 {M : Mem} {v : Value} (h : v.oneCell' = true) : Rep M (.c v) v := by rw [Rep]; exact ⟨rfl, h⟩
/-! ### from the elder ground -/
theorem IntsIn.rep {q : IntKind} {B : Nat} {w : World} {s : Sl} {l : List Int} (h : IntsIn q B w s l) (hc : s.n ≤ s.c) : Rep (allM w) (.sl 1 (l.map fun n => [TV.c (.int q n)])) (.slice s.a s.n s.c) := by
  obtain ⟨h1, h2, h3⟩ := h
  rw [Rep]
  refine ⟨s.a, s.c, by simp [h1], by simpa [h1] using hc, ?_⟩
  rcases h3 with rfl | ⟨b, off, h4, h5, h6⟩
  · exact Or.inl rfl
  · refine Or.inr ⟨b, off, h4, RepR.of_get fun i r hi => ?_⟩
    rw [List.getElem?_map] at hi
    obtain ⟨n, hn, rfl⟩ := Option.map_eq_some_iff.1 hi
    obtain ⟨hlt, rfl⟩ := List.getElem?_eq_some_iff.1 hn
    refine ⟨rfl, RepC.of_get fun o t ht => ?_⟩
    cases o with
    | succ o => simp at ht
    | zero =>
      simp at ht
      subst ht
      have := h6 i hlt
      rw [List.getD_eq_getElem?_getD, List.getElem?_eq_getElem hlt] at this
      exact ⟨_, by simpa [allM] using this, rep_c2 rfl⟩
end Go.Proofs.YtnghoibkjphfmaaGreat
/- An execution that came in, opened into plain data. -/
namespace Go.Proofs.YtnghoibkjphfmaaGreat
open Go.RowKit Go.ChangeShapes Go.WideShapes Go.Deep
def bound60 : Nat := 1152921504606846976
/-- an event's numbers fit, its lists are no longer than memory bears -/
def Ev.ok (e : Ev) : Prop := e.wf ∧ e.addrs.length ≤ 1152921504606846976 ∧ e.datas.length ≤ 1152921504606846976 ∧ e.ctrls.length ≤ 1152921504606846976 ∧ e.av.n = e.addrs.length ∧ e.dv.n = e.datas.length ∧ e.cv.n = e.ctrls.length
def Ex.ok (x : Ex) : Prop := x.evs.length ≤ 1152921504606846976 ∧ (∀ e ∈ x.evs, e.ok) ∧ x.from_.length ≤ 1152921504606846976 ∧ x.order.length ≤ 1152921504606846976 ∧ ∀ r ∈ x.order, r.2.length ≤ 1152921504606846976
section
variable {H : Type} {enc : TypeId × Value → H} {W : World} {sp : Nat → Bool} {held : Bool}
theorem ints_rep {k : IntKind} {t e : TypeId} {fuel : Nat} {cs : List Value} {x : DataW H × List MemPlace} (ht : Tryz.prog.underlying t = some (.slice e)) (he : Tryz.prog.underlying e = some (.int k)) (hc : Tryz.prog.cellsOf e = 1) (hby : 1 ≤ Tryz.prog.bytesOf e)
    (h : DataW.trod enc Tryz.prog W 0 sp held fuel t cs = some x) (hw : ∀ n ∈ x.1.weights Tryz.prog t, n ≤ reachBytes) :
    ∃ (v : Value) (l : List Int), cs = [v] ∧ Rep (allM W) (.sl 1 (l.map fun n => [TV.c (.int k n)])) v ∧ l.length ≤ 1152921504606846976 ∧ (∀ z ∈ l, (Lit.int k z).wf = true) := by
  obtain ⟨s, l, e1, e2, e3⟩ := ints_in ht he hc hby h hw
  refine ⟨_, l, e1, e2.rep ?_, e2.2.1, e3⟩
  rcases open_ints ht he hc h with ⟨rfl, rfl⟩ | ⟨a, len, cap, zs, rfl, hb, hl, _⟩
  · simp only [List.cons.injEq, Value.slice.injEq, and_true] at e1; omega
  · simp only [List.cons.injEq, Value.slice.injEq, and_true] at e1; omega
end
/-- A statement's call, from what was shown in plain data. -/
theorem FnR.calls {f : FuncId} {args : List OV} {b : Bool} (h : Pure Tryz.prog f args (.bool b)) {w : World} {vs : List Value} (hv : RepOL (allG w) args vs) :
    Calls Tryz.prog f vs.toArray w fun e w' => e = .returned (.bool b) ∧ Below w.heap.size w w' :=
  (h.2 (allG w) w vs 0 hv (WRel.all w 0)).mono fun e w' ⟨x, G', r, σ', h1, h2, h3, h4, h5⟩ => by
    subst h2
    rw [rep_c h4] at h1
    exact ⟨h1, ⟨h5.os, h5.tape, h5.output, h5.size, fun k hk => h5.keep k hk (fun e => e)⟩⟩
end Go.Proofs.YtnghoibkjphfmaaGreat
/- slices.AppendSeq, Collect, SortedFunc at pairs; 'pairs', in plain data. -/
set_option maxRecDepth 100000
set_option linter.unusedVariables false
set_option linter.unusedSimpArgs false
namespace Go.Proofs.YtnghoibkjphfmaaGreat
open Go.RowKit
def pairO' (p : Int × Int) : List OV := [.int .i64 p.1, .int .i64 p.2]
/-- what an iterator of pairs gives -/
def pairYs (l : List (Int × Int)) : List (List OV) := l.map fun p => [.ag (pairO' p)]
theorem pairYs_get (l : List (Int × Int)) {i : Nat} (h : i < l.length) : (pairYs l).getD i [] = [.ag (pairO' (l.getD i default))] := by
  unfold pairYs
  rw [List.getD_eq_getElem?_getD, List.getElem?_map, List.getD_eq_getElem?_getD, List.getElem?_eq_getElem h]
  rfl
theorem take_get' {α : Type} (l : List α) (d : α) (k : Nat) (h : k < l.length) : l.take (k + 1) = l.take k ++ [l.getD k d] := by
  rw [List.take_succ_eq_append_getElem h, List.getD_eq_getElem?_getD, List.getElem?_eq_getElem h]; rfl
theorem LeafR.pairs' (l : List (Int × Int)) : LeafR (l.map pairO') := LeafR.map l fun a y hy => by
  simp only [pairO', List.mem_cons, List.not_mem_nil, or_false] at hy
  rcases hy with rfl | rfl <;> rfl
set_option maxHeartbeats 4000000 in
theorem appendSeq_p {y : OV} {f : FuncId} {fi ca : List OV} (hf : IsFn y f fi ca) (l : List (Int × Int)) (hl : l.length ≤ 1073741824) (hs : SeqW E.P f fi ca (pairYs l)) :
    Own E.P 104 [.d (.c (.slice none 0 0)), y] 2 (l.map pairO') := by
  have k2 : KeyOf 2 1002 := ⟨trivial⟩
  have k11 : KeyOf 11 1011 := ⟨trivial⟩
  have k9 : KeyOf 5 1005 := ⟨trivial⟩
  refine fn_of_awp Tryz.func104 (by decide) rfl Tryz.ntmps104 (Nat.le_of_ble_eq_true rfl) rfl ?_
  refine awp_own0 (d := 0) 1011 2 rfl fun τ => ?_
  refine awp_seq ?_
  (refine ao_region ?_ (fun _ => ?_); exact rfl)
  (apply S_boxK; assumption; exact rfl; exact rfl; exact rfl)
  refine q51 ?_; refine ao_nil ?_; refine then_n ?_
  iterate 2 refine awp_seq ?_
  (refine ao_region ?_ (fun _ => ?_); exact rfl)
  refine q11 ?_; refine ao_nil ?_; refine then_n ?_; refine awp_block ?_
  rotate_left
  rename_i v0 _
  refine awp_range (X := Nat × Stamp) rfl hf hs (fun p => [(1002, ((v0, 0), ⟨1, [[.os 1011 p.2 2 p.1]]⟩)), (1011, (p.2, ⟨2, (l.take p.1).map pairO'⟩))]) (fun i p => p.1 = i ∧ i ≤ l.length) (0, τ) ⟨rfl, Nat.zero_le _⟩ l.length .normal rfl (by simp [pairYs]) (fun _ => by simp [pairYs]) (fun h => (h rfl).elim)
    (tmL [(2, .lo 1002 (v0, 0) 1 0 0)]) (by repeat' (first | exact le_nil _ | exact sle_nil _ | refine le_cons rfl ?_ | refine sle_cons rfl ?_)) rfl (by decide) (fun i hi => by rw [pairYs_get _ hi]; rfl) (by repeat' (first | exact le_nil _ | exact sle_nil _ | refine le_cons rfl ?_ | refine sle_cons rfl ?_)) (fun p => by simp) (fun p => by simp) ?_ ?_
  · rintro i ⟨j, τ'⟩ hi ⟨rfl, hj⟩
    dsimp only at hi hj ⊢
    rw [pairYs_get _ hi]
    have hlen : (l.take j).length = j := by simp; omega
    (refine ao_region ?_ (fun _ => ?_); exact rfl)
    (apply S_allocK; assumption; exact rfl)
    refine q15 ?_; refine ao_nil ?_
    rotate_left
    refine ⟨rfl, ?_⟩
    have hleaf := LeafR.pairs'
    refine awp_block ?_
    (refine ao_region ?_ (fun _ => ?_); exact rfl)
    refine q16 ?_; refine q14 ?_
    (apply S_buildSlice; exact rfl; exact rfl; exact rfl; decide; decide; decide; exact rfl; exact rfl)
    refine q39 ?_; refine q15 ?_; refine ao_nil ?_; refine blk_n ?_
    rotate_left
    rename_i v
    refine ⟨by cases (j + 1 == l.length) <;> rfl, (j + 1, (v, 3)), ⟨rfl, by omega⟩, sle_cons' rfl ?_ (sle_cons' rfl ?_ (sle_nil _))⟩
    · refine congrArg (fun n => [[OV.os 1011 (v, 3) 2 n]]) ?_
      show (List.map pairO' (List.take j l)).length + 1 = j + 1
      rw [List.length_map, hlen]
    · rw [take_get' l default j hi, List.map_append]; rfl
  · rintro ⟨j, τ'⟩ ⟨rfl, hj⟩
    dsimp only
    refine blk_n ?_; refine then_n ?_; refine awp_seq ?_
    (refine ao_region ?_ (fun _ => ?_); exact rfl)
    refine q16 ?_
    (apply S_ren; exact rfl; exact rfl)
    refine ao_nil ?_; refine then_n ?_; refine awp_ret ?_
    rotate_left
    refine own_done (d := 4) rfl rfl ?_ ?_
    · rw [List.take_length]
    · simp
end Go.Proofs.YtnghoibkjphfmaaGreat
/-
  DERIVED: THE SHELF's CONTRACTS AT THIS DUMP, IN PLAIN WORDS (tools/lay-plain.mjs out of 'TryzShelf.lean', which tools/lay-shelf.mjs wrote): THE SAME DECLARATIONS UNDER THE SAME NAMES: 'import', 'namespace', 'open', 'def', 'theorem' AND NOTHING ELSE: no command of the shelf's: FOR A HAND-IN. Each laying: the table of numbers ('.._ren') and one theorem, a field a fact of the dump's own or the kernel's comparison; each contract: ONE APPLICATION.
-/
namespace Go.Proofs
open Go.Shelf
def Tryz.lays128_ren : Go.Shelf.Ren := ⟨fun | 128 => 115 | n => n, fun | 51 => 39 | 3 => 3 | 4 => 4 | 46 => 107 | 5 => 5 | 9 => 9 | n => n, fun | n => n⟩
theorem Tryz.lays128 : Go.Proofs.Lays.n128 Tryz.prog Tryz.lays128_ren := {
  mixed := by kernel_rfl
  f128 := Tryz.func115.trans (congrArg some (by kernel_rfl))
  t3 := Tryz.underlying3
  a3 := Tryz.isAgg3
  z3 := Tryz.sizeOf3
  v3 := Tryz.zeroValue3
  t4 := Tryz.underlying4
  a4 := Tryz.isAgg4
  z4 := Tryz.sizeOf4
  v4 := Tryz.zeroValue4
  t5 := Tryz.underlying5
  a5 := Tryz.isAgg5
  z5 := Tryz.sizeOf5
  v5 := Tryz.zeroValue5
  t9 := Tryz.underlying9
  a9 := Tryz.isAgg9
  z9 := Tryz.sizeOf9
  v9 := Tryz.zeroValue9
  t46 := Tryz.underlying107
  a46 := Tryz.isAgg107
  z46 := Tryz.sizeOf107
  v46 := Tryz.zeroValue107
  t51 := Tryz.underlying39
  a51 := Tryz.isAgg39
  z51 := Tryz.sizeOf39
  v51 := Tryz.zeroValue39 }
/-- bits.Len32: "Len32 returns the minimum number of bits required to represent x; the result is 0 for x == 0.": IT RETURNS 'Lib.bitLen x'; the world is as it was. ('h0', 'h1': x is a uint32.) (LAID: no walk: one application.) -/
theorem Tryz.bits_Len32 (x : Int) (w : World) (h0 : 0 ≤ x) (h1 : x ≤ 4294967295) :
    Calls Tryz.prog 115 #[.int .u32 x] w fun e w' => e = .returned (.int .i64 (Lib.bitLen x.toNat)) ∧ w' = w := Any.bits_Len32 Tryz.lays128 x w h0 h1
def Tryz.lays125_ren : Go.Shelf.Ren := ⟨fun | 125 => 101 | 128 => 115 | 129 => 116 | n => n, fun | 46 => 107 | 3 => 3 | 51 => 39 | 53 => 122 | 4 => 4 | 5 => 5 | 9 => 9 | n => n, fun | n => n⟩
theorem Tryz.lays125 : Go.Proofs.Lays.n125 Tryz.prog Tryz.lays125_ren := {
  mixed := by kernel_rfl
  f125 := Tryz.func101.trans (congrArg some (by kernel_rfl))
  f128 := Tryz.func115.trans (congrArg some (by kernel_rfl))
  f129 := Tryz.func116.trans (congrArg some (by kernel_rfl))
  t3 := Tryz.underlying3
  a3 := Tryz.isAgg3
  z3 := Tryz.sizeOf3
  v3 := Tryz.zeroValue3
  t4 := Tryz.underlying4
  a4 := Tryz.isAgg4
  z4 := Tryz.sizeOf4
  v4 := Tryz.zeroValue4
  t5 := Tryz.underlying5
  a5 := Tryz.isAgg5
  z5 := Tryz.sizeOf5
  v5 := Tryz.zeroValue5
  t9 := Tryz.underlying9
  a9 := Tryz.isAgg9
  z9 := Tryz.sizeOf9
  v9 := Tryz.zeroValue9
  t46 := Tryz.underlying107
  a46 := Tryz.isAgg107
  z46 := Tryz.sizeOf107
  v46 := Tryz.zeroValue107
  t51 := Tryz.underlying39
  a51 := Tryz.isAgg39
  z51 := Tryz.sizeOf39
  v51 := Tryz.zeroValue39
  t53 := Tryz.underlying122
  a53 := Tryz.isAgg122
  z53 := Tryz.sizeOf122
  v53 := Tryz.zeroValue122 }
/-- bits.Len: "Len returns the minimum number of bits required to represent x; the result is 0 for x == 0.": IT RETURNS 'Lib.bitLen x'; the world is as it was. (A uint has 64 bits in the model.) ITS CALLEE bits.Len64 IS MET BY ITS OWN CONTRACT OFF THE SHELF (lay that first). (LAID: no walk: one application.) -/
theorem Tryz.bits_Len (x : Int) (w : World) (h0 : 0 ≤ x) (h1 : x ≤ 18446744073709551615) :
    Calls Tryz.prog 101 #[.int .u64 x] w fun e w' => e = .returned (.int .i64 (Lib.bitLen x.toNat)) ∧ w' = w := Any.bits_Len Tryz.lays125 x w h0 h1
def Tryz.lays215_ren : Go.Shelf.Ren := ⟨fun | 215 => 143 | n => n, fun | 3 => 3 | 4 => 4 | n => n, fun | n => n⟩
theorem Tryz.lays215 : Go.Proofs.Lays.n215 Tryz.prog Tryz.lays215_ren := {
  mixed := by kernel_rfl
  f215 := Tryz.func143.trans (congrArg some (by kernel_rfl))
  t3 := Tryz.underlying3
  a3 := Tryz.isAgg3
  z3 := Tryz.sizeOf3
  v3 := Tryz.zeroValue3
  t4 := Tryz.underlying4
  a4 := Tryz.isAgg4
  z4 := Tryz.sizeOf4
  v4 := Tryz.zeroValue4 }
open Go.RowKit in
/-- cmp.isNaN at int: 'x != x': false. (LAID: no walk: one application.) -/
theorem Tryz.cmp_isNaN_int (x : Int) (w : World) :
    Calls Tryz.prog 143 #[.int .i64 x] w fun e w' => e = .returned (.bool false) ∧ w' = w := Any.cmp_isNaN_int Tryz.lays215 x w
def Tryz.lays129_ren : Go.Shelf.Ren := ⟨fun | 129 => 116 | n => n, fun | 53 => 122 | 3 => 3 | 4 => 4 | 46 => 107 | 5 => 5 | 9 => 9 | n => n, fun | n => n⟩
theorem Tryz.lays129 : Go.Proofs.Lays.n129 Tryz.prog Tryz.lays129_ren := {
  mixed := by kernel_rfl
  f129 := Tryz.func116.trans (congrArg some (by kernel_rfl))
  t3 := Tryz.underlying3
  a3 := Tryz.isAgg3
  z3 := Tryz.sizeOf3
  v3 := Tryz.zeroValue3
  t4 := Tryz.underlying4
  a4 := Tryz.isAgg4
  z4 := Tryz.sizeOf4
  v4 := Tryz.zeroValue4
  t5 := Tryz.underlying5
  a5 := Tryz.isAgg5
  z5 := Tryz.sizeOf5
  v5 := Tryz.zeroValue5
  t9 := Tryz.underlying9
  a9 := Tryz.isAgg9
  z9 := Tryz.sizeOf9
  v9 := Tryz.zeroValue9
  t46 := Tryz.underlying107
  a46 := Tryz.isAgg107
  z46 := Tryz.sizeOf107
  v46 := Tryz.zeroValue107
  t53 := Tryz.underlying122
  a53 := Tryz.isAgg122
  z53 := Tryz.sizeOf122
  v53 := Tryz.zeroValue122 }
/-- bits.Len64: "Len64 returns the minimum number of bits required to represent x; the result is 0 for x == 0.": IT RETURNS 'Lib.bitLen x'; the world is as it was. ('h0', 'h1': x is a uint64.) (LAID: no walk: one application.) -/
theorem Tryz.bits_Len64 (x : Int) (w : World) (h0 : 0 ≤ x) (h1 : x ≤ 18446744073709551615) :
    Calls Tryz.prog 116 #[.int .u64 x] w fun e w' => e = .returned (.int .i64 (Lib.bitLen x.toNat)) ∧ w' = w := Any.bits_Len64 Tryz.lays129 x w h0 h1
def Tryz.lays189_ren : Go.Shelf.Ren := ⟨fun | 189 => 94 | 125 => 101 | 257 => 103 | 128 => 115 | 129 => 116 | 294 => 117 | 295 => 118 | 296 => 119 | 297 => 120 | 298 => 121 | 299 => 122 | 216 => 123 | 300 => 124 | 301 => 125 | 328 => 140 | 329 => 135 | 330 => 136 | 331 => 141 | 332 => 142 | 215 => 143 | 343 => 148 | n => n, fun | 28 => 23 | 3 => 3 | 46 => 107 | 0 => 0 | 51 => 39 | 53 => 122 | 4 => 4 | 183 => 114 | 182 => 113 | 131 => 49 | 5 => 5 | 9 => 9 | 218 => 133 | 222 => 137 | 228 => 143 | 229 => 144 | n => n, fun | n => n⟩
theorem Tryz.lays189 : Go.Proofs.Lays.n189 Tryz.prog Tryz.lays189_ren := {
  mixed := by kernel_rfl
  f125 := Tryz.func101.trans (congrArg some (by kernel_rfl))
  f128 := Tryz.func115.trans (congrArg some (by kernel_rfl))
  f129 := Tryz.func116.trans (congrArg some (by kernel_rfl))
  f189 := Tryz.func94.trans (congrArg some (by kernel_rfl))
  f215 := Tryz.func143.trans (congrArg some (by kernel_rfl))
  f216 := Tryz.func123.trans (congrArg some (by kernel_rfl))
  f257 := Tryz.func103.trans (congrArg some (by kernel_rfl))
  f294 := Tryz.func117.trans (congrArg some (by kernel_rfl))
  f295 := Tryz.func118.trans (congrArg some (by kernel_rfl))
  f296 := Tryz.func119.trans (congrArg some (by kernel_rfl))
  f297 := Tryz.func120.trans (congrArg some (by kernel_rfl))
  f298 := Tryz.func121.trans (congrArg some (by kernel_rfl))
  f299 := Tryz.func122.trans (congrArg some (by kernel_rfl))
  f300 := Tryz.func124.trans (congrArg some (by kernel_rfl))
  f301 := Tryz.func125.trans (congrArg some (by kernel_rfl))
  f328 := Tryz.func140.trans (congrArg some (by kernel_rfl))
  f329 := Tryz.func135.trans (congrArg some (by kernel_rfl))
  f330 := Tryz.func136.trans (congrArg some (by kernel_rfl))
  f331 := Tryz.func141.trans (congrArg some (by kernel_rfl))
  f332 := Tryz.func142.trans (congrArg some (by kernel_rfl))
  f343 := Tryz.func148.trans (congrArg some (by kernel_rfl))
  t0 := Tryz.underlying0
  a0 := Tryz.isAgg0
  z0 := Tryz.sizeOf0
  v0 := Tryz.zeroValue0
  t3 := Tryz.underlying3
  a3 := Tryz.isAgg3
  z3 := Tryz.sizeOf3
  v3 := Tryz.zeroValue3
  t4 := Tryz.underlying4
  a4 := Tryz.isAgg4
  z4 := Tryz.sizeOf4
  v4 := Tryz.zeroValue4
  t5 := Tryz.underlying5
  a5 := Tryz.isAgg5
  z5 := Tryz.sizeOf5
  v5 := Tryz.zeroValue5
  t9 := Tryz.underlying9
  a9 := Tryz.isAgg9
  z9 := Tryz.sizeOf9
  v9 := Tryz.zeroValue9
  t28 := Tryz.underlying23
  a28 := Tryz.isAgg23
  z28 := Tryz.sizeOf23
  v28 := Tryz.zeroValue23
  t46 := Tryz.underlying107
  a46 := Tryz.isAgg107
  z46 := Tryz.sizeOf107
  v46 := Tryz.zeroValue107
  t51 := Tryz.underlying39
  a51 := Tryz.isAgg39
  z51 := Tryz.sizeOf39
  v51 := Tryz.zeroValue39
  t53 := Tryz.underlying122
  a53 := Tryz.isAgg122
  z53 := Tryz.sizeOf122
  v53 := Tryz.zeroValue122
  t131 := Tryz.underlying49
  a131 := Tryz.isAgg49
  z131 := Tryz.sizeOf49
  v131 := Tryz.zeroValue49
  t182 := Tryz.underlying113
  a182 := Tryz.isAgg113
  z182 := Tryz.sizeOf113
  v182 := Tryz.zeroValue113
  t183 := Tryz.underlying114
  a183 := Tryz.isAgg114
  z183 := Tryz.sizeOf114
  v183 := Tryz.zeroValue114
  t218 := Tryz.underlying133
  a218 := Tryz.isAgg133
  z218 := Tryz.sizeOf133
  v218 := Tryz.zeroValue133
  t222 := Tryz.underlying137
  a222 := Tryz.isAgg137
  z222 := Tryz.sizeOf137
  v222 := Tryz.zeroValue137
  t228 := Tryz.underlying143
  a228 := Tryz.isAgg143
  z228 := Tryz.sizeOf143
  v228 := Tryz.zeroValue143
  t229 := Tryz.underlying144
  a229 := Tryz.isAgg144
  z229 := Tryz.sizeOf144
  v229 := Tryz.zeroValue144 }
open Go.Sort Go.RowKit in
theorem Tryz.slices_Sort_int (blk off cap : Nat) (zs : List Int) (w : World) (hH : Holds (Value.int .i64) w blk off zs.toArray) (hblk : blk < w.heap.size) (hsz : zs.length < 4611686018427387904) :
    Calls Tryz.prog 94 #[.slice (some ⟨blk, off, none⟩) zs.length cap] w fun e w' =>
      e = .returned (.tuple #[]) ∧ ∃ n os, w' = grow (putRow (Value.int .i64) (Sort.ahead w n) blk off (zs.mergeSort fun x y => decide (x ≤ y)).toArray) os := Any.slices_Sort_int Tryz.lays189 blk off cap zs w hH hblk hsz
def Tryz.lays111_ren : Go.Shelf.Ren := ⟨fun | 111 => 83 | n => n, fun | 28 => 23 | 3 => 3 | 4 => 4 | 0 => 0 | n => n, fun | n => n⟩
theorem Tryz.lays111 : Go.Proofs.Lays.n111 Tryz.prog Tryz.lays111_ren := {
  mixed := by kernel_rfl
  f111 := Tryz.func83.trans (congrArg some (by kernel_rfl))
  t0 := Tryz.underlying0
  a0 := Tryz.isAgg0
  z0 := Tryz.sizeOf0
  v0 := Tryz.zeroValue0
  t3 := Tryz.underlying3
  a3 := Tryz.isAgg3
  z3 := Tryz.sizeOf3
  v3 := Tryz.zeroValue3
  t4 := Tryz.underlying4
  a4 := Tryz.isAgg4
  z4 := Tryz.sizeOf4
  v4 := Tryz.zeroValue4
  t28 := Tryz.underlying23
  a28 := Tryz.isAgg23
  z28 := Tryz.sizeOf23
  v28 := Tryz.zeroValue23 }
open Go.RowKit Go.Lib in
/-- slices.Equal at []int: "Equal reports whether two slices are equal: the same length and all elements equal. If the lengths are different, Equal returns false. Otherwise, the elements are compared in increasing index order, and the comparison stops at the first unequal pair. Empty and nil slices are considered equal.": IT RETURNS WHETHER THE TWO LISTS OF ELEMENTS ARE ONE; the world is as it was but for the count of draws (the test 's1[i] != s2[i]' has two reads, whose order the model draws, once a round). 'xs', 'ys': what the cells behind the two addresses hold (the spare capacity too, if you have it); 'xs.take n', 'ys.take m': the elements. THE TWO SLICES MAY OVERLAP. (LAID: no walk: one application.) -/
theorem Tryz.slices_Equal_int (b1 o1 n c b2 o2 m d : Nat) (xs ys : List Int) (w : World) (hx : n ≤ xs.length) (hy : m ≤ ys.length) (hbig : n ≤ 9223372036854775807) (hbig2 : m ≤ 9223372036854775807) (hc1 : ∀ j, j < xs.length → w.cell? ⟨b1, o1 + j, none⟩ = some (.int .i64 (xs.getD j 0))) (hc2 : ∀ j, j < ys.length → w.cell? ⟨b2, o2 + j, none⟩ = some (.int .i64 (ys.getD j 0))) :
    Calls Tryz.prog 83 #[.slice (some ⟨b1, o1, none⟩) n c, .slice (some ⟨b2, o2, none⟩) m d] w fun e w' => e = .returned (.bool (xs.take n == ys.take m)) ∧ ∃ q, w' = w.drewN q := Any.slices_Equal_int Tryz.lays111 b1 o1 n c b2 o2 m d xs ys w hx hy hbig hbig2 hc1 hc2
open Go.RowKit Go.Lib in
/-- The same where the first is of length 0 (a nil one too): no cell is asked for. (LAID: no walk: one application.) -/
theorem Tryz.slices_Equal_int_empty (a1 a2 : Option Addr) (c m d : Nat) (w : World) (hbig2 : m ≤ 9223372036854775807) :
    Calls Tryz.prog 83 #[.slice a1 0 c, .slice a2 m d] w fun e w' => e = .returned (.bool (decide (m = 0))) ∧ w' = w := Any.slices_Equal_int_empty Tryz.lays111 a1 a2 c m d w hbig2
def Tryz.laysNm237_ren : Go.Shelf.Ren := ⟨fun | 37 => 143 | n => n, fun | 3 => 3 | 4 => 4 | n => n, fun | n => n⟩
theorem Tryz.laysNm237 : Go.Proofs.Lays2.n37 Tryz.prog Tryz.laysNm237_ren := {
  mixed := by kernel_rfl
  f37 := Tryz.func143.trans (congrArg some (by kernel_rfl))
  t3 := Tryz.underlying3
  a3 := Tryz.isAgg3
  z3 := Tryz.sizeOf3
  v3 := Tryz.zeroValue3
  t4 := Tryz.underlying4
  a4 := Tryz.isAgg4
  z4 := Tryz.sizeOf4
  v4 := Tryz.zeroValue4 }
open Go.RowKit Go.Lib in
/-- cmp.isNaN[int]: 'x != x': false. (LAID: no walk: one application.) -/
theorem Tryz.cmp_isNaN_int2 (x : Int) (w : World) :
    Calls Tryz.prog 143 #[.int .i64 x] w fun e w' => e = .returned (.bool false) ∧ w' = w := Any.cmp_isNaN_int2 Tryz.laysNm237 x w
def Tryz.laysNm231_ren : Go.Shelf.Ren := ⟨fun | 31 => 123 | 37 => 143 | n => n, fun | 3 => 3 | 4 => 4 | n => n, fun | n => n⟩
theorem Tryz.laysNm231 : Go.Proofs.Lays2.n31 Tryz.prog Tryz.laysNm231_ren := {
  mixed := by kernel_rfl
  f31 := Tryz.func123.trans (congrArg some (by kernel_rfl))
  f37 := Tryz.func143.trans (congrArg some (by kernel_rfl))
  t3 := Tryz.underlying3
  a3 := Tryz.isAgg3
  z3 := Tryz.sizeOf3
  v3 := Tryz.zeroValue3
  t4 := Tryz.underlying4
  a4 := Tryz.isAgg4
  z4 := Tryz.sizeOf4
  v4 := Tryz.zeroValue4 }
open Go.RowKit Go.Lib in
/-- cmp.Less[int]: "Less reports whether x is less than y.": 'x < y'; the world is as it was. (LAID: no walk: one application.) -/
theorem Tryz.cmp_Less_int2 (x y : Int) (w : World) :
    Calls Tryz.prog 123 #[.int .i64 x, .int .i64 y] w fun e w' => e = .returned (.bool (decide (x < y))) ∧ w' = w := Any.cmp_Less_int2 Tryz.laysNm231 x y w
open Go.RowKit Go.Sort in
/-- .. and plain. (LAID: no walk: one application.) -/
theorem Tryz.slices_Sort_int_none (p : Option Addr) (cap : Nat) (w : World) :
    Calls Tryz.prog 94 #[.slice p 0 cap] w fun e w' => e = .returned (.tuple #[]) ∧ w' = w := Any.slices_Sort_int_none Tryz.lays189 p cap w
open Go.RowKit Go.Lib in
theorem Tryz.slices_Equal_int_lens (a1 a2 : Option Addr) (n c m d : Nat) (w : World) (hnm : n ≠ m) :
    Calls Tryz.prog 83 #[.slice a1 n c, .slice a2 m d] w fun e w' => e = .returned (.bool false) ∧ w' = w := Any.slices_Equal_int_lens Tryz.lays111 a1 a2 n c m d w hnm
end Go.Proofs
/- The library's sort at uint32: short slices (insertion). What the call does to the row that it is handed: it sorts it; beside that only draws. -/
namespace Go.Proofs.YtnghoibkjphfmaaGreat
open Go.RowKit Go.Sort
/-- how long a slice may be that is sorted here -/
def sortMax : Nat := 12
abbrev encU : Int → Value := Value.int .u32
theorem isNaN_u (x : Int) (w : World) : Calls Tryz.prog 139 #[.int .u32 x] w fun e w' => e = .returned (.bool false) ∧ w' = w := by
  go_enter Tryz.func139, Tryz.ntmps139
  go_wp2
  go_ret
  exact ⟨by simp, rfl⟩
theorem less_u (x y : Int) (w : World) : Calls Tryz.prog 112 #[.int .u32 x, .int .u32 y] w fun e w' => e = .returned (.bool (ltInt x y)) ∧ w' = w := by
  go_enter Tryz.func112, Tryz.ntmps112
  go_wp2_with (go_at_call 139; refine (isNaN_u _ _).mono ?_; rintro e w' ⟨rfl, rfl⟩)
  go_ret
  exact ⟨rfl, rfl⟩
theorem insertion_u (blk off cap a b : Nat) (d : Array Int) (w : World) (hH : Holds encU w blk off d) (hab : a ≤ b) (hb : b ≤ d.size) (hsz : d.size < 4611686018427387904) :
    Calls Tryz.prog 106 #[.slice (some ⟨blk, off, none⟩) d.size cap, .int .i64 a, .int .i64 b] w fun e w' =>
      e = .returned (.tuple #[]) ∧ ∃ n, w' = putRow encU (Sort.ahead w n) blk off (Sort.insertionSort ltInt d a b) := by
  go_enter Tryz.func106, Tryz.ntmps106
  go_wp2
  go_loopw [6] (fun vi wr => ∃ (i n : Nat) (dk : Array Int), vi = .int .i64 i ∧ a < i ∧ i ≤ b + 1 ∧ dk.size = d.size ∧ wr = putRow encU (Sort.ahead w n) blk off dk ∧
      insOuter ltInt a b i dk = insOuter ltInt a b (a + 1) d) (fun vi _ => b + 1 - (RowKit.intOf vi).toNat)
  case atStart => exact ⟨a + 1, 0, d, by go_num, by omega, by omega, rfl, (putRow_self _ _ _ _ _ hH).symm, rfl⟩
  case round =>
    obtain ⟨i, n, dk, rfl, hai, hib, hsk, hwr, hO⟩ := hrel
    have HO := Lib.hid hO
    clear hO
    by_cases hlt : i < b
    · go_wp2
      go_loopw [7] (fun vj w2 => ∃ (j m : Nat) (dj : Array Int), vj = .int .i64 j ∧ a ≤ j ∧ j ≤ i ∧ dj.size = d.size ∧ w2 = putRow encU (Sort.ahead w m) blk off dj ∧
          insInner ltInt a j dj = insInner ltInt a i dk) (fun vj _ => (RowKit.intOf vj).toNat)
      case atStart => exact ⟨i, n, dk, rfl, by omega, Nat.le_refl _, hsk, rfl, rfl⟩
      case round =>
        obtain ⟨j, m, dj, rfl, haj, hji, hsj, hw2, hI⟩ := hrel
        obtain ⟨G, hG⟩ : ∃ G : Nat → Int, ∀ t, G t = dj[t]! := ⟨fun t => dj[t]!, fun _ => rfl⟩
        have hcw : ∀ t, t < d.size → wr.cell? ⟨blk, off + t, none⟩ = some (.int .u32 (G t)) := fun t ht => by
          rw [hw2, hG]; exact cell?_putRow _ _ _ _ d dj (holds_ahead _ _ _ _ _ _ hH) hsj t (by omega)
        have hfw : ∀ t, t < d.size → wr.frozen? ⟨blk, off + t, none⟩ = false := fun t ht => by
          rw [hw2, frozen?_putRow]; exact ((holds_ahead _ _ m _ _ _ hH) t ht).2
        have HW := Lib.hid hw2
        have HG := Lib.hid hG
        have HI := Lib.hid hI
        clear hw2 hG hI
        have OUT : Hid ((j ≤ a ∨ ltInt (G j) (G (j - 1)) = false) → ∀ q, wr.drewN q = putRow encU (Sort.ahead w (m + q)) blk off dj ∧ insOuter ltInt a b (i + 1) dj = insOuter ltInt a b (a + 1) d) := Lib.hid (fun hs q =>
          ⟨by rw [HW.out]; exact putRow_drewN _ _ _ _ _ _ _, by rw [← HO.out, insOuter_go _ _ _ _ _ hlt, ← HI.out, insInner_stop _ _ _ _ (by rw [← HG.out, ← HG.out]; exact hs)]⟩)
        by_cases hja : a < j
        · cases hl : ltInt (G j) (G (j - 1)) with
          | true =>
            have HL := Lib.hid hl
            have LT := Lib.hid (fun w => less_u (G j) (G (j - 1)) w)
            clear hl
            go_wp2
            go_quiet ((go_at_call 112; have t := LT.out; rw [HL.out] at t; refine Calls.quiet_of_same (t _)))
            go_wp2
            go_region
            all_goals go_wp2
            go_roundw
            case rel =>
              refine ⟨j - 1, m + (nq + 1), swp dj j (j - 1), by congr 1; omega, by omega, by omega, by rw [size_swp]; exact hsj, ?_, ?_⟩
              · rw [HW.out, HG.out, HG.out]
                exact swap_worldA _ w m (nq + 1) blk off dj j (j - 1) (by omega) (by omega)
              · rw [← HI.out, insInner_go ltInt a j dj hja (by rw [← HG.out, ← HG.out]; exact HL.out)]
            case measure => simp [RowKit.intOf]; omega
          | false =>
            have HL := Lib.hid hl
            have LT := Lib.hid (fun w => less_u (G j) (G (j - 1)) w)
            clear hl
            go_wp2
            go_quiet ((go_at_call 112; have t := LT.out; rw [HL.out] at t; refine Calls.quiet_of_same (t _)))
            go_wp2
            go_roundw
            case rel => exact ⟨i + 1, m + nq, dj, by go_num, by omega, by omega, hsj, (OUT.out (Or.inr HL.out) nq).1, (OUT.out (Or.inr HL.out) nq).2⟩
            case measure => simp [RowKit.intOf]; omega
        · have hja2 : decide (a < j) = false := by simpa using hja
          go_wp2
          go_quiet (fail)
          go_wp2
          go_roundw
          case rel => exact ⟨i + 1, m + nq, dj, by go_num, by omega, by omega, hsj, (OUT.out (Or.inl (by omega)) nq).1, (OUT.out (Or.inl (by omega)) nq).2⟩
          case measure => simp [RowKit.intOf]; omega
    · go_wp2
      go_end0
      exact ⟨rfl, n, by unfold Sort.insertionSort; rw [← HO.out, insOuter_stop _ _ _ _ _ hlt]⟩
end Go.Proofs.YtnghoibkjphfmaaGreat
/- Iterators and what is collected from them: maps.Keys (uint32 keys), slices.Values (ints); slices.AppendSeq, Collect, Sorted, against whatever iterator value. -/
namespace Go.Proofs.YtnghoibkjphfmaaGreat
open Go.RowKit Go.Shelf Go.Maps Go.Sort
/-! ### rows of one-cell numbers -/
theorem holds_of_blockE (enc : Int → Value) {w : World} {g : Nat} {cur : Array Value} {e : TypeId} {ss : List Int} (hb : w.heap[g]? = some (.cells cur e (0, 0))) (ht : cur.toList.take ss.length = ss.map enc) : Holds enc w g 0 ss.toArray := by
  intro j hj
  have hj' : j < ss.length := by simpa using hj
  refine ⟨?_, by simp [World.frozen?, hb]⟩
  have h1 : (cur.toList.take ss.length)[j]? = (ss.map enc)[j]? := by rw [ht]
  rw [List.getElem?_take_of_lt hj'] at h1
  simp only [World.cell?, hb, Nat.zero_add]
  simp only [Option.isSome_none, Bool.false_eq_true, if_false]
  rw [← Array.getElem?_toList, h1]
  simp [hj']
theorem heap_sortedE (enc : Int → Value) {w : World} {g n : Nat} {os : Array Obj} {cur : Array Value} {e : TypeId} {fr : Nat × Nat} (d : Array Int) (hb : w.heap[g]? = some (.cells cur e fr)) :
    (grow (putRow enc (Sort.ahead w n) g 0 d) os).heap[g]? = some (.cells (putCells enc 0 d cur) e fr) := by
  have hg : g < w.heap.size := (Array.getElem?_eq_some_iff.1 hb).1
  rw [heap_grow_old _ _ (by simpa using hg)]
  simp [putRow, mapBlock, Sort.ahead, Array.getElem?_modify, hb, onCells]
theorem grownBy_sortedE (enc : Int → Value) {w : World} {g n : Nat} {os : Array Obj} (d : Array Int) : w.grownBy (grow (putRow enc (Sort.ahead w n) g 0 d) os) (some g) := by
  refine ⟨rfl, rfl, rfl, by simp, fun k hk hne => ?_⟩
  rw [heap_grow_old _ _ (by simpa using hk)]
  have : g ≠ k := fun e => hne (by rw [e])
  simp [putRow, mapBlock, Sort.ahead, Array.getElem?_modify, this]
theorem take_putCellsE (enc : Int → Value) (cur : Array Value) (ts : List Int) (h : ts.length ≤ cur.size) : (putCells enc 0 ts.toArray cur).toList.take ts.length = ts.map enc := by
  apply List.ext_getElem?
  intro j
  by_cases hj : j < ts.length
  · rw [List.getElem?_take_of_lt hj, Array.getElem?_toList]
    simp [putCells, hj, show j < cur.size by omega]
  · rw [List.getElem?_take_eq_none (by omega), List.getElem?_eq_none (by simp; omega)]
theorem ownsRow_sortedE (enc : Int → Value) {w : World} {base g cap n : Nat} {e : TypeId} {os : Array Obj} {cur : Array Value} {ss ts : List Int} (hl : ts.length = ss.length) (hbase : base ≤ g) (hb : w.heap[g]? = some (.cells cur e (0, 0)))
    (h1 : ss.length ≤ cap) (h2 : cap ≤ maxLen) (h3 : cur.size = cap * 1) :
    (grow (putRow enc (Sort.ahead w n) g 0 ts.toArray) os).ownsRow base e 1 (.slice (some ⟨g, 0, none⟩) ss.length cap) ss.length (ts.map enc) :=
  ⟨by simp [hl], .inr ⟨g, cap, _, rfl, hbase, heap_sortedE enc _ hb, h1, h2, by simp [putCells, h3], by rw [Nat.mul_one, ← hl]; exact take_putCellsE enc cur ts (by omega)⟩⟩
/-! ### maps.Keys, at uint32 -/
def KeysAre {H : Type} (D0 : DataW H) (ss : List Int) : Prop := ss.Nodup ∧ ∀ x, x ∈ ss ↔ has D0 (.int .u32 x) = true
def CollectedU {H : Type} (D0 : DataW H) (left : Lit → Bool) (ss : List Int) : Prop := ss.Nodup ∧ ∀ x, x ∈ ss ↔ (has D0 (.int .u32 x) = true ∧ left (.int .u32 x) = false)
theorem CollectedU.start {H : Type} (D0 : DataW H) : CollectedU D0 (has D0) [] := ⟨List.nodup_nil, fun x => by cases has D0 (.int .u32 x) <;> simp⟩
theorem CollectedU.step {H : Type} {D0 : DataW H} {left : Lit → Bool} {ss : List Int} (h : CollectedU D0 left ss) {x : Int} {y : DataW H} (hlk : left (.int .u32 x) = true) (hat : ∀ zd, D0.atKey (.int .u32 x) zd = y) :
    CollectedU D0 (fun z => left z && !z.sameKey (.int .u32 x)) (ss ++ [x]) := by
  have hhas : has D0 (.int .u32 x) = true := has_true_of_atKey hat
  have hnew : x ∉ ss := fun hx => by have := ((h.2 x).1 hx).2; rw [hlk] at this; cases this
  refine ⟨List.nodup_append.2 ⟨h.1, by simp, fun a ha b hb => by simp at hb; subst hb; exact fun e => hnew (e ▸ ha)⟩, fun y => ?_⟩
  by_cases hy : y = x
  · subst hy; simp [hhas, Lit.sameKey]
  · simp [h.2 y, hy, Lit.sameKey]
theorem CollectedU.done {H : Type} {D0 : DataW H} {left : Lit → Bool} {ss : List Int} (h : CollectedU D0 left ss) (hl : ∀ kl, left kl = false) : KeysAre D0 ss := ⟨h.1, fun x => by rw [h.2 x, hl]; simp⟩
theorem lawU : Keyed Tryz.prog 39 := int_keyed Tryz.underlying39
set_option maxRecDepth 100000 in
set_option maxHeartbeats 1000000 in
theorem keys1_u {H : Type} (F : Fence) (hF : ∀ f, F.fn f) (n : Nat) (hro : F.round = none) (hn : 1 ≤ n) (l Bm b nn : Nat) (D0 : DataW H) (J Jx : List Int → World → Prop)
    (hY : ∀ pre x W, J pre W → pre.length < Maps.size D0 → YieldAt F (n - 1) Tryz.prog l #[.int .u32 x] W fun e W' =>
      (e = .returned (.bool true) ∧ J (pre ++ [x]) W' ∧ KeepsWalks W W') ∨ (e = .returned (.bool false) ∧ Jx (pre ++ [x]) W'))
    (W : World) (hJ : AbidesFrom W.heap.size J) (hm : W.cell? ⟨Bm, 0, none⟩ = some (.map (some b))) (hown : W.ownsMap Tryz.prog 39 (plainElem Tryz.prog 3) b nn D0) (h0 : J [] W) :
    CallsIn F n Tryz.prog 92 #[.func (.yield l) #[] #[], .pointer (some ⟨Bm, 0, none⟩)] W fun e W' => (∃ v, e = .returned v) ∧
      ((∃ ss : List Int, KeysAre D0 ss ∧ J ss W') ∨ (∃ pre : List Int, True ∧ Jx pre W')) := by
  refine callsIn_of_wp Tryz.func92 rfl (hF _) ?_ hro
  simp only [Tryz.ntmps92, List.size_toArray, List.length_cons, List.length_nil, Nat.reduceAdd, Nat.reduceSub, Array.replicate_succ, Array.replicate_zero, List.push_toArray, List.append_toArray, List.nil_append, List.cons_append]
  gi_wp2_with (first
    | (gi_at_range; refine wpListIn_range_own _ rfl _ 85 rfl 39 3 lawU Tryz.underlying85 _ b nn _ rfl hown ?_; intro w0 hrg0 hg0 hs0)
    | gi_in)
  go_frame
  gi_loopw [3] (fun _ wr => ∃ (left : Lit → Bool) (cnt : Nat) (ss : List Int), wr.ranges Tryz.prog 39 (plainElem Tryz.prog 3) b W.heap.size nn D0 left cnt ∧ ss.length + cnt ≤ Maps.size D0 ∧ CollectedU D0 left ss ∧ J ss wr)
    (fun _ wr => wr.rangeLeft b W.heap.size)
  case atStart =>
    exact ⟨_, _, [], hrg0, by simp, CollectedU.start D0, hJ [] W w0 none h0 hg0 (fun r e => by cases e)⟩
  case round =>
    obtain ⟨left, cnt, ss, hrg, hcs, hC, hJs⟩ := hrel
    gi_wp2_with (first
      | (gi_at_next; refine wpListIn_next_ranges_ii _ rfl _ rfl 39 3 .u32 .i64 lawU Tryz.underlying39 Tryz.underlying3 b W.heap.size nn _ _ _ rfl hrg ?_ ?_)
      | gi_in)
    · intro hc0 hl0
      gi_wp2
      go_end0
      exact ⟨⟨_, rfl⟩, .inl ⟨ss, hC.done hl0, hJs⟩⟩
    · intro x c w2 cnt2 hwx hwc hlk hat hrg2 hlt hg2 hs2 hen
      have hJ2 : J ss w2 := hJ ss wr w2 (some W.heap.size) hJs hg2 (fun r e => by cases e; exact ⟨Nat.le_refl _, hrg.iter_walk⟩)
      obtain ⟨fn, tmps, assign, body, hy, hR⟩ := hY ss x w2 hJ2 (by omega)
      clear hs2
      gi_wp2
      refine hR.mono ?_
      rintro e W3 (⟨rfl, hJ3, hk3⟩ | ⟨rfl, hJx3⟩)
      · gi_wp2
        have hrg3 := hrg2.of_walks hk3
        go_roundw
        case rel => exact ⟨_, cnt2, ss ++ [x], hrg3, by simp; omega, hC.step hlk hat, hJ3⟩
        case measure => rw [hrg3.left_eq, hrg.left_eq]; exact hlt
      · gi_wp2
        refine bodyPost_ret (results_none rfl _ _ _) rfl ?_
        exact ⟨⟨_, rfl⟩, .inr ⟨_, trivial, hJx3⟩⟩
set_option maxHeartbeats 1000000 in
theorem keys_u (F : Fence) (hF : ∀ f, F.fn f) (n : Nat) (hro : F.round = none) (mb : Option Nat) (w : World) :
    CallsIn F n Tryz.prog 80 #[.map mb] w fun e w' => e = .returned (.func (.func 92) #[] #[.pointer (some ⟨w.heap.size, 0, none⟩)]) ∧ w' = w.alloc (.cells #[.map mb] 85) := by
  refine callsIn_of_wp Tryz.func80 rfl (hF _) ?_ hro
  simp only [Tryz.ntmps80, List.size_toArray, List.length_cons, List.length_nil, Nat.reduceAdd, Nat.reduceSub, Array.replicate_succ, Array.replicate_zero, List.push_toArray, List.append_toArray, List.nil_append, List.cons_append]
  gi_wp2
  go_ret
  exact ⟨rfl, rfl⟩
theorem keys_stops {H : Type} (F : Fence) (hF : ∀ f, F.fn f) (n : Nat) (hro : F.round = none) (hn : 1 ≤ n) (Bm b nn : Nat) (D0 : DataW H) (w : World) (hBm : Bm < w.heap.size)
    (hm : w.cell? ⟨Bm, 0, none⟩ = some (.map (some b))) (hown : w.ownsMap Tryz.prog 39 (plainElem Tryz.prog 3) b nn D0) :
    SeqStopsK F n Tryz.prog 92 #[.pointer (some ⟨Bm, 0, none⟩)] (fun x : Int => #[.int .u32 x]) KeepsWalks (KeysAre D0) (fun _ => True) (Maps.size D0) w := fun l J Jx W hW hJ hJx hY h0 => by
  have hown' : W.ownsMap Tryz.prog 39 (plainElem Tryz.prog 3) b nn D0 := by
    have hbl := hown.lt
    obtain ⟨es, clock, hb, Ft, hs, hD⟩ := hown
    exact ⟨es, clock, (hW.block b hbl).trans hb, Ft, hs, hD⟩
  exact keys1_u F hF n hro hn l Bm b nn D0 J Jx hY W hJ ((hW.cell (p := ⟨Bm, 0, none⟩) hBm).trans hm) hown' h0
/-! ### slices.Values, at int -/
/-- the slice value holds the ints zs, in a block below n₀; or it is empty -/
def RowOf (n₀ : Nat) (W : World) (sv : Value) (zs : List Int) : Prop :=
  ((∃ a c, sv = .slice a 0 c) ∧ zs = []) ∨ ∃ b off cap, sv = .slice (some ⟨b, off, none⟩) zs.length cap ∧ b < n₀ ∧ ∀ j, j < zs.length → W.cell? ⟨b, off + j, none⟩ = some (.int .i64 (zs.getD j 0))
theorem RowOf.below {n₀ : Nat} {A B : World} (h : Below n₀ A B) {sv : Value} {zs : List Int} : RowOf n₀ A sv zs → RowOf n₀ B sv zs
  | .inl e => .inl e
  | .inr ⟨b, off, cap, e, hb, hc⟩ => .inr ⟨b, off, cap, e, hb, fun j hj => (h.cell (p := ⟨b, off + j, none⟩) hb).trans (hc j hj)⟩
theorem take_succ_getD (zs : List Int) {k : Nat} (hk : k < zs.length) : zs.take (k + 1) = zs.take k ++ [zs.getD k 0] := by
  rw [List.take_succ_eq_append_getElem hk]; simp [List.getD, List.getElem?_eq_getElem hk]
set_option maxRecDepth 100000 in
set_option maxHeartbeats 2000000 in
theorem values1_i (F : Fence) (hF : ∀ f, F.fn f) (n : Nat) (hro : F.round = none) (hn : 1 ≤ n) (l Bs n₀ b off cap : Nat) (zs : List Int) (hreach : zs.length * 8 ≤ 140737488351232) (hb : b < n₀) (J Jx : List Int → World → Prop)
    (hY : ∀ pre x W, J pre W → pre.length < zs.length → YieldAt F (n - 1) Tryz.prog l #[.int .i64 x] W fun e W' =>
      (e = .returned (.bool true) ∧ J (pre ++ [x]) W' ∧ Below n₀ W W') ∨ (e = .returned (.bool false) ∧ Jx (pre ++ [x]) W'))
    (W : World) (hBs : W.cell? ⟨Bs, 0, none⟩ = some (.slice (some ⟨b, off, none⟩) zs.length cap)) (hc : ∀ j, j < zs.length → W.cell? ⟨b, off + j, none⟩ = some (.int .i64 (zs.getD j 0))) (h0 : J [] W) :
    CallsIn F n Tryz.prog 95 #[.func (.yield l) #[] #[], .pointer (some ⟨Bs, 0, none⟩)] W fun e W' => (∃ v, e = .returned v) ∧
      ((∃ ys, ys = zs ∧ J ys W') ∨ (∃ pre : List Int, True ∧ Jx pre W')) := by
  refine callsIn_of_wp Tryz.func95 rfl (hF _) ?_ hro
  simp only [Tryz.ntmps95, List.size_toArray, List.length_cons, List.length_nil, Nat.reduceAdd, Nat.reduceSub, Array.replicate_succ, Array.replicate_zero, List.push_toArray, List.append_toArray, List.nil_append, List.cons_append]
  obtain ⟨len, hlen⟩ : ∃ len, zs.length = len := ⟨_, rfl⟩
  rw [hlen] at hBs hc hY hreach
  gi_wp2
  gi_loopw [7] (fun i wr => ∃ k : Nat, k ≤ len ∧ i = .int .i64 k ∧ J (zs.take k) wr ∧ Below n₀ W wr)
    (fun i _ => len - (intOf i).toNat)
  case atStart => exact ⟨0, Nat.zero_le _, rfl, h0, Below.refl _ _⟩
  case round =>
    obtain ⟨k, hk, rfl, hJs, hnx⟩ := hrel
    have hcx : k < len → wr.cell? ⟨b, off + k, none⟩ = some (.int .i64 (zs.getD k 0)) := fun h => (hnx.cell (p := ⟨b, off + k, none⟩) hb).trans (hc k h)
    by_cases hlt : k < len
    · obtain ⟨z, hz⟩ : ∃ z, zs.getD k 0 = z := ⟨_, rfl⟩
      obtain ⟨fn, tmps, assign, body, hy, hR⟩ := hY _ z wr hJs (by rw [List.length_take]; omega)
      have hcx' := hcx hlt
      rw [hz] at hcx'
      have HT : Hid (zs.take (k + 1) = zs.take k ++ [z]) := Lib.hid (by rw [← hz]; exact take_succ_getD zs (by omega))
      clear hcx hz
      gi_wp2
      refine hR.mono ?_
      rintro e W3 (⟨rfl, hJ3, hk3⟩ | ⟨rfl, hJx3⟩)
      · gi_wp2
        go_roundw
        case rel => exact ⟨k + 1, by omega, by simp, by rw [HT.out]; exact hJ3, hnx.trans hk3⟩
        case measure => simp [intOf]; omega
      · gi_wp2
        refine bodyPost_ret (results_none rfl _ _ _) rfl ?_
        exact ⟨⟨_, rfl⟩, .inr ⟨_, trivial, hJx3⟩⟩
    · obtain rfl : k = len := by omega
      gi_wp2
      go_end0
      exact ⟨⟨_, rfl⟩, .inl ⟨_, rfl, by have := hJs; rwa [List.take_of_length_le (by omega)] at this⟩⟩
set_option maxHeartbeats 1000000 in
theorem values1_none (F : Fence) (hF : ∀ f, F.fn f) (n : Nat) (hro : F.round = none) (l Bs : Nat) (a : Option Addr) (c : Nat) (J : List Int → World → Prop) (W : World) (hBs : W.cell? ⟨Bs, 0, none⟩ = some (.slice a 0 c)) (h0 : J [] W) :
    CallsIn F n Tryz.prog 95 #[.func (.yield l) #[] #[], .pointer (some ⟨Bs, 0, none⟩)] W fun e W' => (∃ v, e = .returned v) ∧ J [] W' := by
  refine callsIn_of_wp Tryz.func95 rfl (hF _) ?_ hro
  simp only [Tryz.ntmps95, List.size_toArray, List.length_cons, List.length_nil, Nat.reduceAdd, Nat.reduceSub, Array.replicate_succ, Array.replicate_zero, List.push_toArray, List.append_toArray, List.nil_append, List.cons_append]
  gi_wp2
  gi_loopw [7] (fun i wr => i = .int .i64 0 ∧ J [] wr) (fun _ _ => 0)
  case atStart => exact ⟨rfl, h0⟩
  case round =>
    obtain ⟨rfl, hJs⟩ := hrel
    gi_wp2
    go_end0
    exact ⟨⟨_, rfl⟩, hJs⟩
set_option maxHeartbeats 1000000 in
theorem values_i (F : Fence) (hF : ∀ f, F.fn f) (n : Nat) (hro : F.round = none) (a : Option Addr) (len cap : Nat) (w : World) :
    CallsIn F n Tryz.prog 85 #[.slice a len cap] w fun e w' => e = .returned (.func (.func 95) #[] #[.pointer (some ⟨w.heap.size, 0, none⟩)]) ∧ w' = w.alloc (.cells #[.slice a len cap] 23) := by
  refine callsIn_of_wp Tryz.func85 rfl (hF _) ?_ hro
  simp only [Tryz.ntmps85, List.size_toArray, List.length_cons, List.length_nil, Nat.reduceAdd, Nat.reduceSub, Array.replicate_succ, Array.replicate_zero, List.push_toArray, List.append_toArray, List.nil_append, List.cons_append]
  gi_wp2
  go_ret
  exact ⟨rfl, rfl⟩
theorem values_stops (F : Fence) (hF : ∀ f, F.fn f) (n : Nat) (hro : F.round = none) (hn : 1 ≤ n) (Bs n₀ : Nat) (sv : Value) (zs : List Int) (hreach : zs.length * 8 ≤ 140737488351232) (w : World) (hBs : Bs < w.heap.size) (hn₀ : n₀ ≤ w.heap.size)
    (hc : w.cell? ⟨Bs, 0, none⟩ = some sv) (hI : RowOf n₀ w sv zs) :
    SeqStopsK F n Tryz.prog 95 #[.pointer (some ⟨Bs, 0, none⟩)] (fun x : Int => #[Value.int .i64 x]) (Below n₀) (fun ys => ys = zs) (fun _ => True) zs.length w := fun l J Jx W hW _ _ hY h0 => by
  have hc' := (hW.cell (p := ⟨Bs, 0, none⟩) hBs).trans hc
  rcases hI.below (hW.mono hn₀) with ⟨⟨a, c, rfl⟩, rfl⟩ | ⟨b, off, cap, rfl, hb, hcs⟩
  · exact (values1_none F hF n hro l Bs a c J W hc' h0).mono fun e W' ⟨he, hj⟩ => ⟨he, .inl ⟨_, rfl, hj⟩⟩
  · exact values1_i F hF n hro hn l Bs n₀ b off cap zs hreach hb J Jx hY W hc' hcs h0
end Go.Proofs.YtnghoibkjphfmaaGreat
/- slices.AppendSeq(nil, ..), Collect, Sorted, against whatever iterator value; at uint32 and at int. -/
namespace Go.Proofs.YtnghoibkjphfmaaGreat
open Go.RowKit Go.Shelf Go.Maps Go.Sort
/-! ### at uint32 -/
theorem info_u : (Tryz.prog.info? 39).map (fun i => (i.zero, i.size, i.bytes)) = some (some (.int .u32 0), 1, 4) := by kernel_rfl
set_option maxRecDepth 100000 in
set_option maxHeartbeats 2000000 in
theorem append_u (F : Fence) (hF : ∀ f, F.fn f) (n : Nat) (hro : F.round = none) (hn : 2 ≤ n) (g : Nat) (lb : Array Value) (eg : ∀ args w, (callFunc g args).run Tryz.prog w = .ok (.enter g args) w)
    (Kp : World → World → Prop) (S Sp : List Int → Prop) (N : Nat) (hN : N ≤ maxLen) (hNb : N * 4 ≤ 140737488355328) (w : World)
    (hKt : ∀ {A B C : World}, Kp A B → Kp B C → Kp A C) (hKb : ∀ (W : World) (l : Nat) (o o' : Obj), w.heap.size ≤ l → W.heap[l]? = some o → o.isCells = false → o.isWalk = false → Kp W (W.putObj l o'))
    (hKo : ∀ W W', KeepsOthers W W' → Below w.heap.size W W' → Kp W W')
    (hseq : SeqStopsK F (n - 1) Tryz.prog g lb (fun x : Int => #[Value.int .u32 x]) Kp S Sp N w) :
    CallsIn F n Tryz.prog 99 #[.slice none 0 0, .func (.func g) #[] lb] w fun e w' => ∃ (v : Value) (ss : List Int), e = .returned v ∧ S ss ∧ ss.length ≤ N ∧ w'.ownsRow w.heap.size 39 1 v ss.length (ss.map (Value.int .u32)) ∧ (v = .slice none 0 0 ↔ ss = []) ∧ Below w.heap.size w w' := by
  have h1 : 1 ≤ n := by omega
  obtain ⟨i0, hi, hz0, hz1, hz2⟩ := info_parts info_u
  refine callsIn_of_wp_marks Tryz.func99 rfl (hF _) ?_ hro
  simp only [Tryz.ntmps99, List.size_toArray, List.length_cons, List.length_nil, Nat.reduceAdd, Nat.reduceSub, Array.replicate_succ, Array.replicate_zero, List.push_toArray, List.append_toArray, List.nil_append, List.cons_append]
  gi_wp2
  have bO := Boxed.new w 65 (.slice none 0 0)
  have hB0 : Below w.heap.size w (w.alloc (.cells #[.slice none 0 0] 65)) := (Below.refl _ w).alloc (Nat.le_refl _) _
  refine wpIn_rangeFunc_ownG hro h1 (gf := g) (lb := lb) rfl (hF _) eg (N := N) hseq hKt (fun W l o o' hl h1 h2 h3 => hKb W l o o' (by simp at hl; omega) h1 h2 h3) hB0 (fun _ => rfl)
    (fun pre W => ((∃ v, Boxed W w.heap.size 65 v ∧ W.ownsRow w.heap.size 39 1 v pre.length (pre.map (Value.int .u32)) ∧ (v = .slice none 0 0 ↔ pre = [])) ∧ Below w.heap.size w W) ∧ pre.length ≤ N)
    (fun _ _ _ => False)
    (OwnFrom.and (OwnFrom.and (Own.from (holdsRow_own w.heap.size w.heap.size 65 39 1 (fun pre : List Int => pre.length) (fun pre => pre.map (Value.int .u32)) (fun pre v => v = .slice none 0 0 ↔ pre = [])) _) (ownFrom_below (Nat.le_refl _) (by simp))) (fun _ _ _ _ hs _ _ => hs))
    (fun _ _ _ _ _ hs _ _ => hs)
    ⟨⟨⟨_, bO, World.ownsRow_nil _ _ _ _, by simp⟩, hB0⟩, by simp⟩
    (fun x => { tmps := #[.slice none 0 0, .func (.func g) #[] lb, .pointer (some ⟨w.heap.size, 0, none⟩), undef, .slice none 0 0, .int .u32 x, .func (.func g) #[] lb, .int .u32 x, undef, undef, undef, undef, undef], defers := [] }) ?assign ?body ?done ?stop
  case assign =>
    intro l x W K hK
    gi_wp2_with (rw [Oper.semAt_eq _ _ _ (fun c h => by cases h)]; go_simp; try go_bits)
    exact hK
  case body =>
    rintro l pre x W ⟨⟨⟨v, hv, hrow, hnil⟩, hB⟩, _⟩ hlt
    have hc := hv.cell
    gi_wp2_with (first | (gi_at_builtin; refine wpListIn_append_own _ rfl _ _ 65 rfl w.heap.size 39 i0 (.int .u32 0) 1 4 Tryz.underlying65 hi hz0 hz1 hz2 rfl (by decide) _ _ _ rfl (hrow.alloc _) ⟨W.heap.size, 0, none⟩ 1 1 [.int .u32 x] rfl rfl (cell_one_new _ _ _) (by simp [Value.oneCell']) (by omega) (by omega) (by have := hB.size; simp; omega) ?_; intro v' w1 hown' hgrow _; obtain ⟨g', cap', rfl⟩ := ownsRow_succ hown'; obtain ⟨hv1, hv2, hr2, hk2, hb2⟩ := hv.appended (by decide) hrow hB.size (Nat.le_refl _) hown' hgrow; have hc1 := hv1.cell; have hf1 := hv1.frozen; go_frame) | (rw [Oper.semAt_eq _ _ _ (fun c h => by cases h)]; go_simp; try go_bits))
    exact ⟨hk2.from _, hKo _ _ hk2 hb2, ⟨⟨_, hv2, by simpa using hr2, by simp⟩, hB.trans hb2⟩, by simp; omega⟩
  case done =>
    rintro D ys W hD hS ⟨⟨⟨v, hv, hrow, hnil⟩, hB⟩, hlen⟩ hK
    have hc := hv.cell
    gi_wp2
    refine ⟨by simp, .inl ⟨_, _, rfl, run_takeDeferred hK, ?_⟩⟩
    exact ⟨_, results_tmp rfl _ _ _, v, ys, rfl, hS, hlen, ownsRow_putObj hrow _ hK rfl, hnil, hB.trans (belowK_b (w := w) (Nat.le_refl _) W D _ _ (by simp at hD; omega) hK rfl rfl)⟩
  case stop =>
    rintro D c pre W _ _ h _
    exact h.elim
set_option maxHeartbeats 1000000 in
theorem collect_u (F : Fence) (hF : ∀ f, F.fn f) (n : Nat) (hro : F.round = none) (hn : 3 ≤ n) (g : Nat) (lb : Array Value) (eg : ∀ args w, (callFunc g args).run Tryz.prog w = .ok (.enter g args) w)
    (Kp : World → World → Prop) (S Sp : List Int → Prop) (N : Nat) (hN : N ≤ maxLen) (hNb : N * 4 ≤ 140737488355328) (w : World)
    (hKt : ∀ {A B C : World}, Kp A B → Kp B C → Kp A C) (hKb : ∀ (W : World) (l : Nat) (o o' : Obj), w.heap.size ≤ l → W.heap[l]? = some o → o.isCells = false → o.isWalk = false → Kp W (W.putObj l o'))
    (hKo : ∀ W W', KeepsOthers W W' → Below w.heap.size W W' → Kp W W')
    (hseq : SeqStopsK F (n - 1 - 1) Tryz.prog g lb (fun x : Int => #[Value.int .u32 x]) Kp S Sp N w) :
    CallsIn F n Tryz.prog 90 #[.func (.func g) #[] lb] w fun e w' => ∃ (v : Value) (ss : List Int), e = .returned v ∧ S ss ∧ ss.length ≤ N ∧ w'.ownsRow w.heap.size 39 1 v ss.length (ss.map (Value.int .u32)) ∧ (v = .slice none 0 0 ↔ ss = []) ∧ Below w.heap.size w w' := by
  have h1 : 1 ≤ n := by omega
  refine callsIn_of_wp Tryz.func90 rfl (hF _) ?_ hro
  simp only [Tryz.ntmps90, List.size_toArray, List.length_cons, List.length_nil, Nat.reduceAdd, Nat.reduceSub, Array.replicate_succ, Array.replicate_zero, List.push_toArray, List.append_toArray, List.nil_append, List.cons_append]
  gi_wp2_with (gi_at_call 99; refine (append_u F hF (n - 1) hro (by omega) g lb eg Kp S Sp N hN hNb _ hKt hKb hKo hseq).mono ?_; rintro e w' ⟨v, ss, rfl, hS, hlen, hrow, hnil, hb⟩)
  go_ret
  exact ⟨v, ss, rfl, hS, hlen, hrow, hnil, hb⟩
def Sorts_u (F : Fence) (m : Nat) : Prop :=
  (∀ (blk off cap : Nat) (ss : List Int) (W : World), Holds (Value.int .u32) W blk off ss.toArray → blk < W.heap.size → ss.length < 4611686018427387904 →
    CallsIn F m Tryz.prog 91 #[.slice (some ⟨blk, off, none⟩) ss.length cap] W fun e w' => e = .returned (.tuple #[]) ∧ ∃ k os, w' = grow (putRow (Value.int .u32) (Sort.ahead W k) blk off (ss.mergeSort fun x y => decide (x ≤ y)).toArray) os) ∧
  (∀ (p : Option Addr) (cap : Nat) (W : World), CallsIn F m Tryz.prog 91 #[.slice p 0 cap] W fun e w' => e = .returned (.tuple #[]) ∧ w' = W)
set_option maxRecDepth 100000 in
set_option maxHeartbeats 2000000 in
theorem sorted_u (F : Fence) (hF : ∀ f, F.fn f) (n : Nat) (hro : F.round = none) (hn : 4 ≤ n) (hsort : Sorts_u F (n - 1)) (g : Nat) (lb : Array Value) (eg : ∀ args w, (callFunc g args).run Tryz.prog w = .ok (.enter g args) w)
    (Kp : World → World → Prop) (S Sp : List Int → Prop) (N : Nat) (hN : N ≤ maxLen) (hNb : N * 4 ≤ 140737488355328) (w : World)
    (hKt : ∀ {A B C : World}, Kp A B → Kp B C → Kp A C) (hKb : ∀ (W : World) (l : Nat) (o o' : Obj), w.heap.size ≤ l → W.heap[l]? = some o → o.isCells = false → o.isWalk = false → Kp W (W.putObj l o'))
    (hKo : ∀ W W', KeepsOthers W W' → Below w.heap.size W W' → Kp W W')
    (hseq : SeqStopsK F (n - 1 - 1 - 1) Tryz.prog g lb (fun x : Int => #[Value.int .u32 x]) Kp S Sp N w) :
    CallsIn F n Tryz.prog 79 #[.func (.func g) #[] lb] w fun e w' => ∃ (v : Value) (ss : List Int), e = .returned v ∧ S ss ∧ ss.length ≤ N ∧
      w'.ownsRow w.heap.size 39 1 v ss.length ((ss.mergeSort (fun x y => decide (x ≤ y))).map (Value.int .u32)) ∧ (v = .slice none 0 0 ↔ ss = []) ∧ Below w.heap.size w w' := by
  have h1 : 1 ≤ n := by omega
  have hN2 : N < 4611686018427387904 := by omega
  refine callsIn_of_wp Tryz.func79 rfl (hF _) ?_ hro
  simp only [Tryz.ntmps79, List.size_toArray, List.length_cons, List.length_nil, Nat.reduceAdd, Nat.reduceSub, Array.replicate_succ, Array.replicate_zero, List.push_toArray, List.append_toArray, List.nil_append, List.cons_append]
  gi_wp2_with (gi_at_call 90; refine (collect_u F hF (n - 1) hro (by omega) g lb eg Kp S Sp N hN hNb _ hKt hKb hKo hseq).mono ?_; rintro e W ⟨v, ss, rfl, hS, hlen, hrow, hnil, hb⟩)
  rcases hrow.2 with ⟨rfl, hz⟩ | ⟨gb, cap, cur, rfl, hbase, hgb, r1, r2, r3, r4⟩
  · have hss : ss = [] := List.eq_nil_of_length_eq_zero hz
    subst hss
    gi_wp2_with (gi_at_call 91; refine (hsort.2 none 0 W).mono ?_; rintro e w' ⟨rfl, rfl⟩)
    go_ret
    exact ⟨.slice none 0 0, [], rfl, hS, by simp, by simpa using hrow, by simp, hb⟩
  · have hH : Holds (Value.int .u32) W gb 0 ss.toArray := holds_of_blockE _ hgb (by simpa using r4)
    have hgl : gb < W.heap.size := (Array.getElem?_eq_some_iff.1 hgb).1
    have cS := hsort.1 gb 0 cap ss W hH hgl (by omega)
    gi_wp2_with (gi_at_call 91; refine cS.mono ?_; rintro e w' ⟨rfl, nn, os, rfl⟩)
    go_ret
    exact ⟨_, ss, rfl, hS, hlen, ownsRow_sortedE _ (by simp) hbase hgb r1 r2 r3, hnil, hb.grown (grownBy_sortedE _ _) hb.size (fun j hj => by cases hj; exact hbase)⟩
/-! ### at int -/
theorem info_i : (Tryz.prog.info? 3).map (fun i => (i.zero, i.size, i.bytes)) = some (some (.int .i64 0), 1, 8) := by kernel_rfl
set_option maxRecDepth 100000 in
set_option maxHeartbeats 2000000 in
theorem append_i (F : Fence) (hF : ∀ f, F.fn f) (n : Nat) (hro : F.round = none) (hn : 2 ≤ n) (g : Nat) (lb : Array Value) (eg : ∀ args w, (callFunc g args).run Tryz.prog w = .ok (.enter g args) w)
    (Kp : World → World → Prop) (S Sp : List Int → Prop) (N : Nat) (hN : N ≤ maxLen) (hNb : N * 8 ≤ 140737488355328) (w : World)
    (hKt : ∀ {A B C : World}, Kp A B → Kp B C → Kp A C) (hKb : ∀ (W : World) (l : Nat) (o o' : Obj), w.heap.size ≤ l → W.heap[l]? = some o → o.isCells = false → o.isWalk = false → Kp W (W.putObj l o'))
    (hKo : ∀ W W', KeepsOthers W W' → Below w.heap.size W W' → Kp W W')
    (hseq : SeqStopsK F (n - 1) Tryz.prog g lb (fun x : Int => #[Value.int .i64 x]) Kp S Sp N w) :
    CallsIn F n Tryz.prog 102 #[.slice none 0 0, .func (.func g) #[] lb] w fun e w' => ∃ (v : Value) (ss : List Int), e = .returned v ∧ S ss ∧ ss.length ≤ N ∧ w'.ownsRow w.heap.size 3 1 v ss.length (ss.map (Value.int .i64)) ∧ (v = .slice none 0 0 ↔ ss = []) ∧ Below w.heap.size w w' := by
  have h1 : 1 ≤ n := by omega
  obtain ⟨i0, hi, hz0, hz1, hz2⟩ := info_parts info_i
  refine callsIn_of_wp_marks Tryz.func102 rfl (hF _) ?_ hro
  simp only [Tryz.ntmps102, List.size_toArray, List.length_cons, List.length_nil, Nat.reduceAdd, Nat.reduceSub, Array.replicate_succ, Array.replicate_zero, List.push_toArray, List.append_toArray, List.nil_append, List.cons_append]
  gi_wp2
  have bO := Boxed.new w 23 (.slice none 0 0)
  have hB0 : Below w.heap.size w (w.alloc (.cells #[.slice none 0 0] 23)) := (Below.refl _ w).alloc (Nat.le_refl _) _
  refine wpIn_rangeFunc_ownG hro h1 (gf := g) (lb := lb) rfl (hF _) eg (N := N) hseq hKt (fun W l o o' hl h1 h2 h3 => hKb W l o o' (by simp at hl; omega) h1 h2 h3) hB0 (fun _ => rfl)
    (fun pre W => ((∃ v, Boxed W w.heap.size 23 v ∧ W.ownsRow w.heap.size 3 1 v pre.length (pre.map (Value.int .i64)) ∧ (v = .slice none 0 0 ↔ pre = [])) ∧ Below w.heap.size w W) ∧ pre.length ≤ N)
    (fun _ _ _ => False)
    (OwnFrom.and (OwnFrom.and (Own.from (holdsRow_own w.heap.size w.heap.size 23 3 1 (fun pre : List Int => pre.length) (fun pre => pre.map (Value.int .i64)) (fun pre v => v = .slice none 0 0 ↔ pre = [])) _) (ownFrom_below (Nat.le_refl _) (by simp))) (fun _ _ _ _ hs _ _ => hs))
    (fun _ _ _ _ _ hs _ _ => hs)
    ⟨⟨⟨_, bO, World.ownsRow_nil _ _ _ _, by simp⟩, hB0⟩, by simp⟩
    (fun x => { tmps := #[.slice none 0 0, .func (.func g) #[] lb, .pointer (some ⟨w.heap.size, 0, none⟩), undef, .slice none 0 0, .int .i64 x, .func (.func g) #[] lb, .int .i64 x, undef, undef, undef, undef, undef], defers := [] }) ?assign ?body ?done ?stop
  case assign =>
    intro l x W K hK
    gi_wp2_with (rw [Oper.semAt_eq _ _ _ (fun c h => by cases h)]; go_simp; try go_bits)
    exact hK
  case body =>
    rintro l pre x W ⟨⟨⟨v, hv, hrow, hnil⟩, hB⟩, _⟩ hlt
    have hc := hv.cell
    gi_wp2_with (first | (gi_at_builtin; refine wpListIn_append_own _ rfl _ _ 23 rfl w.heap.size 3 i0 (.int .i64 0) 1 8 Tryz.underlying23 hi hz0 hz1 hz2 rfl (by decide) _ _ _ rfl (hrow.alloc _) ⟨W.heap.size, 0, none⟩ 1 1 [.int .i64 x] rfl rfl (cell_one_new _ _ _) (by simp [Value.oneCell']) (by omega) (by omega) (by have := hB.size; simp; omega) ?_; intro v' w1 hown' hgrow _; obtain ⟨g', cap', rfl⟩ := ownsRow_succ hown'; obtain ⟨hv1, hv2, hr2, hk2, hb2⟩ := hv.appended (by decide) hrow hB.size (Nat.le_refl _) hown' hgrow; have hc1 := hv1.cell; have hf1 := hv1.frozen; go_frame) | (rw [Oper.semAt_eq _ _ _ (fun c h => by cases h)]; go_simp; try go_bits))
    exact ⟨hk2.from _, hKo _ _ hk2 hb2, ⟨⟨_, hv2, by simpa using hr2, by simp⟩, hB.trans hb2⟩, by simp; omega⟩
  case done =>
    rintro D ys W hD hS ⟨⟨⟨v, hv, hrow, hnil⟩, hB⟩, hlen⟩ hK
    have hc := hv.cell
    gi_wp2
    refine ⟨by simp, .inl ⟨_, _, rfl, run_takeDeferred hK, ?_⟩⟩
    exact ⟨_, results_tmp rfl _ _ _, v, ys, rfl, hS, hlen, ownsRow_putObj hrow _ hK rfl, hnil, hB.trans (belowK_b (w := w) (Nat.le_refl _) W D _ _ (by simp at hD; omega) hK rfl rfl)⟩
  case stop =>
    rintro D c pre W _ _ h _
    exact h.elim
set_option maxHeartbeats 1000000 in
theorem collect_i (F : Fence) (hF : ∀ f, F.fn f) (n : Nat) (hro : F.round = none) (hn : 3 ≤ n) (g : Nat) (lb : Array Value) (eg : ∀ args w, (callFunc g args).run Tryz.prog w = .ok (.enter g args) w)
    (Kp : World → World → Prop) (S Sp : List Int → Prop) (N : Nat) (hN : N ≤ maxLen) (hNb : N * 8 ≤ 140737488355328) (w : World)
    (hKt : ∀ {A B C : World}, Kp A B → Kp B C → Kp A C) (hKb : ∀ (W : World) (l : Nat) (o o' : Obj), w.heap.size ≤ l → W.heap[l]? = some o → o.isCells = false → o.isWalk = false → Kp W (W.putObj l o'))
    (hKo : ∀ W W', KeepsOthers W W' → Below w.heap.size W W' → Kp W W')
    (hseq : SeqStopsK F (n - 1 - 1) Tryz.prog g lb (fun x : Int => #[Value.int .i64 x]) Kp S Sp N w) :
    CallsIn F n Tryz.prog 93 #[.func (.func g) #[] lb] w fun e w' => ∃ (v : Value) (ss : List Int), e = .returned v ∧ S ss ∧ ss.length ≤ N ∧ w'.ownsRow w.heap.size 3 1 v ss.length (ss.map (Value.int .i64)) ∧ (v = .slice none 0 0 ↔ ss = []) ∧ Below w.heap.size w w' := by
  have h1 : 1 ≤ n := by omega
  refine callsIn_of_wp Tryz.func93 rfl (hF _) ?_ hro
  simp only [Tryz.ntmps93, List.size_toArray, List.length_cons, List.length_nil, Nat.reduceAdd, Nat.reduceSub, Array.replicate_succ, Array.replicate_zero, List.push_toArray, List.append_toArray, List.nil_append, List.cons_append]
  gi_wp2_with (gi_at_call 102; refine (append_i F hF (n - 1) hro (by omega) g lb eg Kp S Sp N hN hNb _ hKt hKb hKo hseq).mono ?_; rintro e w' ⟨v, ss, rfl, hS, hlen, hrow, hnil, hb⟩)
  go_ret
  exact ⟨v, ss, rfl, hS, hlen, hrow, hnil, hb⟩
def Sorts_i (F : Fence) (m : Nat) : Prop :=
  (∀ (blk off cap : Nat) (ss : List Int) (W : World), Holds (Value.int .i64) W blk off ss.toArray → blk < W.heap.size → ss.length < 4611686018427387904 →
    CallsIn F m Tryz.prog 94 #[.slice (some ⟨blk, off, none⟩) ss.length cap] W fun e w' => e = .returned (.tuple #[]) ∧ ∃ k os, w' = grow (putRow (Value.int .i64) (Sort.ahead W k) blk off (ss.mergeSort fun x y => decide (x ≤ y)).toArray) os) ∧
  (∀ (p : Option Addr) (cap : Nat) (W : World), CallsIn F m Tryz.prog 94 #[.slice p 0 cap] W fun e w' => e = .returned (.tuple #[]) ∧ w' = W)
set_option maxRecDepth 100000 in
set_option maxHeartbeats 2000000 in
theorem sorted_i (F : Fence) (hF : ∀ f, F.fn f) (n : Nat) (hro : F.round = none) (hn : 4 ≤ n) (hsort : Sorts_i F (n - 1)) (g : Nat) (lb : Array Value) (eg : ∀ args w, (callFunc g args).run Tryz.prog w = .ok (.enter g args) w)
    (Kp : World → World → Prop) (S Sp : List Int → Prop) (N : Nat) (hN : N ≤ maxLen) (hNb : N * 8 ≤ 140737488355328) (w : World)
    (hKt : ∀ {A B C : World}, Kp A B → Kp B C → Kp A C) (hKb : ∀ (W : World) (l : Nat) (o o' : Obj), w.heap.size ≤ l → W.heap[l]? = some o → o.isCells = false → o.isWalk = false → Kp W (W.putObj l o'))
    (hKo : ∀ W W', KeepsOthers W W' → Below w.heap.size W W' → Kp W W')
    (hseq : SeqStopsK F (n - 1 - 1 - 1) Tryz.prog g lb (fun x : Int => #[Value.int .i64 x]) Kp S Sp N w) :
    CallsIn F n Tryz.prog 84 #[.func (.func g) #[] lb] w fun e w' => ∃ (v : Value) (ss : List Int), e = .returned v ∧ S ss ∧ ss.length ≤ N ∧
      w'.ownsRow w.heap.size 3 1 v ss.length ((ss.mergeSort (fun x y => decide (x ≤ y))).map (Value.int .i64)) ∧ (v = .slice none 0 0 ↔ ss = []) ∧ Below w.heap.size w w' := by
  have h1 : 1 ≤ n := by omega
  have hN2 : N < 4611686018427387904 := by omega
  refine callsIn_of_wp Tryz.func84 rfl (hF _) ?_ hro
  simp only [Tryz.ntmps84, List.size_toArray, List.length_cons, List.length_nil, Nat.reduceAdd, Nat.reduceSub, Array.replicate_succ, Array.replicate_zero, List.push_toArray, List.append_toArray, List.nil_append, List.cons_append]
  gi_wp2_with (gi_at_call 93; refine (collect_i F hF (n - 1) hro (by omega) g lb eg Kp S Sp N hN hNb _ hKt hKb hKo hseq).mono ?_; rintro e W ⟨v, ss, rfl, hS, hlen, hrow, hnil, hb⟩)
  rcases hrow.2 with ⟨rfl, hz⟩ | ⟨gb, cap, cur, rfl, hbase, hgb, r1, r2, r3, r4⟩
  · have hss : ss = [] := List.eq_nil_of_length_eq_zero hz
    subst hss
    gi_wp2_with (gi_at_call 94; refine (hsort.2 none 0 W).mono ?_; rintro e w' ⟨rfl, rfl⟩)
    go_ret
    exact ⟨.slice none 0 0, [], rfl, hS, by simp, by simpa using hrow, by simp, hb⟩
  · have hH : Holds (Value.int .i64) W gb 0 ss.toArray := holds_of_blockE _ hgb (by simpa using r4)
    have hgl : gb < W.heap.size := (Array.getElem?_eq_some_iff.1 hgb).1
    have cS := hsort.1 gb 0 cap ss W hH hgl (by omega)
    gi_wp2_with (gi_at_call 94; refine cS.mono ?_; rintro e w' ⟨rfl, nn, os, rfl⟩)
    go_ret
    exact ⟨_, ss, rfl, hS, hlen, ownsRow_sortedE _ (by simp) hbase hgb r1 r2 r3, hnil, hb.grown (grownBy_sortedE _ _) hb.size (fun j hj => by cases hj; exact hbase)⟩
theorem sorts_i (m : Nat) : Sorts_i Fence.wide m :=
  ⟨fun blk off cap ss W hH hblk hsz => callsIn_wide.2 (Tryz.slices_Sort_int blk off cap ss W hH hblk hsz), fun p cap W => callsIn_wide.2 (Tryz.slices_Sort_int_none p cap W)⟩
end Go.Proofs.YtnghoibkjphfmaaGreat
/-
  DERIVED: THE SHELF's CONTRACTS AT THIS DUMP, IN PLAIN WORDS (tools/lay-plain.mjs out of 'TryzShelf2.lean', which tools/lay-shelf.mjs wrote): THE SAME DECLARATIONS UNDER THE SAME NAMES: 'import', 'namespace', 'open', 'def', 'theorem' AND NOTHING ELSE: no command of the shelf's: FOR A HAND-IN. Each laying: the table of numbers ('.._ren') and one theorem, a field a fact of the dump's own or the kernel's comparison; each contract: ONE APPLICATION.
-/
namespace Go.Proofs
open Go.Shelf
def Tryz.sortPairs_ren : Go.Shelf.Ren := ⟨fun | 6 => 97 | 15 => 101 | 14 => 105 | 28 => 115 | 29 => 116 | 20 => 126 | 21 => 127 | 22 => 128 | 23 => 129 | 24 => 130 | 25 => 131 | 26 => 132 | 27 => 133 | 46 => 144 | 47 => 135 | 48 => 136 | 49 => 145 | 50 => 146 | 57 => 149 | n => n, fun | 22 => 29 | 24 => 37 | 25 => 96 | 3 => 3 | 39 => 107 | 0 => 0 | 53 => 39 | 55 => 122 | 4 => 4 | 46 => 114 | 45 => 113 | 50 => 49 | 5 => 5 | 9 => 9 | 66 => 133 | 70 => 137 | 76 => 143 | 77 => 144 | n => n, fun | n => n⟩
theorem Tryz.sortPairs : Go.Proofs.SlLaysF0.n6 Tryz.prog Tryz.sortPairs_ren := {
  mixed := by kernel_rfl
  f6 := ⟨Tryz.f97.name, by decide, Tryz.func97.trans (congrArg some (by kernel_rfl))⟩
  f14 := ⟨Tryz.f105.name, by decide, Tryz.func105.trans (congrArg some (by kernel_rfl))⟩
  f15 := Tryz.func101.trans (congrArg some (by kernel_rfl))
  f20 := ⟨Tryz.f126.name, by decide, Tryz.func126.trans (congrArg some (by kernel_rfl))⟩
  f21 := ⟨Tryz.f127.name, by decide, Tryz.func127.trans (congrArg some (by kernel_rfl))⟩
  f22 := ⟨Tryz.f128.name, by decide, Tryz.func128.trans (congrArg some (by kernel_rfl))⟩
  f23 := ⟨Tryz.f129.name, by decide, Tryz.func129.trans (congrArg some (by kernel_rfl))⟩
  f24 := ⟨Tryz.f130.name, by decide, Tryz.func130.trans (congrArg some (by kernel_rfl))⟩
  f25 := ⟨Tryz.f131.name, by decide, Tryz.func131.trans (congrArg some (by kernel_rfl))⟩
  f26 := ⟨Tryz.f132.name, by decide, Tryz.func132.trans (congrArg some (by kernel_rfl))⟩
  f27 := ⟨Tryz.f133.name, by decide, Tryz.func133.trans (congrArg some (by kernel_rfl))⟩
  f28 := Tryz.func115.trans (congrArg some (by kernel_rfl))
  f29 := Tryz.func116.trans (congrArg some (by kernel_rfl))
  f46 := ⟨Tryz.f144.name, by decide, Tryz.func144.trans (congrArg some (by kernel_rfl))⟩
  f47 := Tryz.func135.trans (congrArg some (by kernel_rfl))
  f48 := Tryz.func136.trans (congrArg some (by kernel_rfl))
  f49 := ⟨Tryz.f145.name, by decide, Tryz.func145.trans (congrArg some (by kernel_rfl))⟩
  f50 := ⟨Tryz.f146.name, by decide, Tryz.func146.trans (congrArg some (by kernel_rfl))⟩
  f57 := ⟨Tryz.f149.name, by decide, Tryz.func149.trans (congrArg some (by kernel_rfl))⟩
  t0 := Tryz.underlying0
  a0 := Tryz.isAgg0
  z0 := Tryz.sizeOf0
  v0 := Tryz.zeroValue0
  t3 := Tryz.underlying3
  a3 := Tryz.isAgg3
  z3 := Tryz.sizeOf3
  v3 := Tryz.zeroValue3
  t4 := Tryz.underlying4
  a4 := Tryz.isAgg4
  z4 := Tryz.sizeOf4
  v4 := Tryz.zeroValue4
  t5 := Tryz.underlying5
  a5 := Tryz.isAgg5
  z5 := Tryz.sizeOf5
  v5 := Tryz.zeroValue5
  t9 := Tryz.underlying9
  a9 := Tryz.isAgg9
  z9 := Tryz.sizeOf9
  v9 := Tryz.zeroValue9
  t22 := Tryz.underlying29
  a22 := Tryz.isAgg29
  z22 := Tryz.sizeOf29
  v22 := Tryz.zeroValue29
  t25 := Tryz.underlying96
  a25 := Tryz.isAgg96
  z25 := Tryz.sizeOf96
  v25 := Tryz.zeroValue96
  t39 := Tryz.underlying107
  a39 := Tryz.isAgg107
  z39 := Tryz.sizeOf107
  v39 := Tryz.zeroValue107
  t45 := Tryz.underlying113
  a45 := Tryz.isAgg113
  z45 := Tryz.sizeOf113
  v45 := Tryz.zeroValue113
  t46 := Tryz.underlying114
  a46 := Tryz.isAgg114
  z46 := Tryz.sizeOf114
  v46 := Tryz.zeroValue114
  t50 := Tryz.underlying49
  a50 := Tryz.isAgg49
  z50 := Tryz.sizeOf49
  v50 := Tryz.zeroValue49
  t53 := Tryz.underlying39
  a53 := Tryz.isAgg39
  z53 := Tryz.sizeOf39
  v53 := Tryz.zeroValue39
  t55 := Tryz.underlying122
  a55 := Tryz.isAgg122
  z55 := Tryz.sizeOf122
  v55 := Tryz.zeroValue122
  t66 := Tryz.underlying133
  a66 := Tryz.isAgg133
  z66 := Tryz.sizeOf133
  v66 := Tryz.zeroValue133
  t70 := Tryz.underlying137
  a70 := Tryz.isAgg137
  z70 := Tryz.sizeOf137
  v70 := Tryz.zeroValue137
  t76 := Tryz.underlying143
  a76 := Tryz.isAgg143
  z76 := Tryz.sizeOf143
  v76 := Tryz.zeroValue143
  t77 := Tryz.underlying144
  a77 := Tryz.isAgg144
  z77 := Tryz.sizeOf144
  v77 := Tryz.zeroValue144 }
end Go.Proofs
/- Pairs of places: how they are compared; slices.AppendSeq, Collect, SortedFunc at pairs, against whatever iterator value; 'pairs'. -/
namespace Go.Proofs.YtnghoibkjphfmaaGreat
open Go.RowKit Go.Shelf Go.Maps Go.Sort
/-- two places -/
abbrev P2 := Fin 65536 × Fin 65536
def encP (x : P2) : List Value := [.int .i64 (x.1.val : Int), .int .i64 (x.2.val : Int)]
def aggP (x : P2) : Value := .agg #[.int .i64 (x.1.val : Int), .int .i64 (x.2.val : Int)]
def cmpP (x y : P2) : Int := if x.1.val = y.1.val then (x.2.val : Int) - (y.2.val : Int) else (x.1.val : Int) - (y.1.val : Int)
def ltP (x y : P2) : Bool := decide (x.1.val < y.1.val ∨ (x.1.val = y.1.val ∧ x.2.val < y.2.val))
theorem ltOf_cmpP (x y : P2) : ltOf cmpP x y = ltP x y := by
  unfold ltOf ltP cmpP
  by_cases h : x.1.val = y.1.val
  · rw [if_pos h]
    refine decide_eq_decide.2 ?_
    omega
  · rw [if_neg h]
    refine decide_eq_decide.2 ?_
    omega
theorem swoP : SWO (ltOf cmpP) where
  irrefl x := by rw [ltOf_cmpP]; simp [ltP]
  trans x y z h1 h2 := by rw [ltOf_cmpP] at *; simp only [ltP, decide_eq_true_eq] at *; omega
  ntrans x y z h1 h2 := by rw [ltOf_cmpP] at *; simp only [ltP, decide_eq_false_iff_not] at *; omega
set_option maxHeartbeats 1000000 in
theorem cmpP_c (x y : P2) (W : World) : Calls Tryz.prog 87 #[aggP x, aggP y] W fun e w' => e = .returned (.int .i64 (cmpP x y)) ∧ ∃ q os', w' = grow (W.drewN q) os' := by
  obtain ⟨⟨a, ha⟩, ⟨b, hb⟩⟩ := x
  obtain ⟨⟨c, hc⟩, ⟨d, hd⟩⟩ := y
  unfold aggP cmpP
  dsimp only
  by_cases h : a = c
  · rw [if_pos h]
    subst h
    have h1 : ((a : Int) != (a : Int)) = false := by simp
    go_enter Tryz.func87, Tryz.ntmps87
    go_wp2
    go_ret
    exact ⟨rfl, 0, _, by rw [alloc_eq_grow, alloc_eq_grow, grow_grow]; rfl⟩
  · rw [if_neg h]
    have h1 : ((a : Int) != (c : Int)) = true := by simp; omega
    have h2 : (a != c) = true := by simpa using h
    clear h
    go_enter Tryz.func87, Tryz.ntmps87
    go_wp2
    go_ret
    exact ⟨rfl, 0, _, by rw [alloc_eq_grow, alloc_eq_grow, grow_grow]; rfl⟩
theorem cmpLaysP (blk off size : Nat) (w : World) : CmpLays Tryz.prog 87 #[] encP 2 cmpP blk off size w :=
  fun _ _ _ _ x y => cmpP_c x y _
theorem sortPairs_c (blk off cap : Nat) (d : Array P2) (w : World) (hH : HoldsK encP 2 w blk off d) (hblk : blk < w.heap.size) (hsz : d.size < 4611686018427387904) :
    Calls Tryz.prog 97 #[.slice (some ⟨blk, off, none⟩) d.size cap, .func (.func 87) #[] #[]] w fun e w' => e = .returned (.tuple #[]) ∧ ∃ d' n os, PermIn 0 d.size d d' ∧ SortedIn ltP 0 d.size d' ∧ w' = sortWorldK encP 2 w blk off n d' os := by
  have h := AnyQ.slices_SortFunc Tryz.sortPairs 2 Tryz.isAgg37 Tryz.sizeOf37 encP (fun _ => rfl) (fun x v hv => by simp [encP] at hv; rcases hv with rfl | rfl <;> rfl) cmpP swoP 87 #[] blk off cap d w (enters_of Tryz.func87 (by kernel_rfl) rfl) (cmpLaysP blk off d.size w) hH hblk hsz
  refine Calls.mono h ?_
  rintro e w' ⟨he, d', n, os, hp, hs, hw⟩
  exact ⟨he, d', n, os, hp, fun i j h1 h2 h3 => by rw [← ltOf_cmpP]; exact hs i j h1 h2 h3, hw⟩
theorem sortPairs_none (p : Option Addr) (cap : Nat) (fv : Value) (w : World) :
    Calls Tryz.prog 97 #[.slice p 0 cap, fv] w fun e w' => e = .returned (.tuple #[]) ∧ w' = w := AnyF.slices_SortFunc_none Tryz.sortPairs p cap fv w
end Go.Proofs.YtnghoibkjphfmaaGreat
/- slices.AppendSeq(nil, ..), Collect, SortedFunc at pairs, against whatever iterator value; 'pairs'. -/
namespace Go.Proofs.YtnghoibkjphfmaaGreat
open Go.RowKit Go.Shelf Go.Maps Go.Sort
def flatP (l : List P2) : List Value := l.flatMap encP
theorem flatP_length (l : List P2) : (flatP l).length = l.length * 2 := by
  unfold flatP
  induction l with
  | nil => rfl
  | cons x r ih => simp [encP, ih]; omega
end Go.Proofs.YtnghoibkjphfmaaGreat
/- slices.SortedFunc at pairs; 'pairs'. -/
namespace Go.Proofs.YtnghoibkjphfmaaGreat
open Go.RowKit Go.Shelf Go.Maps Go.Sort
theorem flatP_get : ∀ (l : List P2) (t : Nat), t < l.length * 2 → (flatP l)[t]? = some ((encP (l.getD (t / 2) default))[t % 2]!)
  | [], t, h => by simp at h
  | x :: r, 0, _ => by simp [flatP, encP]
  | x :: r, 1, _ => by simp [flatP, encP]
  | x :: r, t + 2, h => by
    have ih := flatP_get r t (by simp at h; omega)
    have e1 : (t + 2) / 2 = t / 2 + 1 := by omega
    have e2 : (t + 2) % 2 = t % 2 := by omega
    rw [e1, e2, List.getD_cons_succ, ← ih]
    simp [flatP, encP]
theorem flatK_toList (l : List P2) : (flatK encP 2 l.toArray).toList = flatP l := by
  apply List.ext_getElem?
  intro t
  by_cases h : t < l.length * 2
  · rw [flatP_get l t h]
    have h2 : t / 2 < l.length := by omega
    simp [flatK, h, List.getD, h2]
  · rw [List.getElem?_eq_none (by simp; omega), List.getElem?_eq_none (by rw [flatP_length]; omega)]
theorem holds_of_blockV {w : World} {g : Nat} {cur : Array Value} {e : TypeId} {F : Array Value} (hb : w.heap[g]? = some (.cells cur e (0, 0))) (ht : cur.toList.take F.size = F.toList) : Holds id w g 0 F := by
  intro j hj
  refine ⟨?_, by simp [World.frozen?, hb]⟩
  have h1 : (cur.toList.take F.size)[j]? = F.toList[j]? := by rw [ht]
  rw [List.getElem?_take_of_lt hj] at h1
  simp only [World.cell?, hb, Nat.zero_add]
  simp only [Option.isSome_none, Bool.false_eq_true, if_false]
  rw [← Array.getElem?_toList, h1]
  simp [hj]
theorem heap_sortedV {w : World} {g n : Nat} {os : Array Obj} {cur : Array Value} {e : TypeId} {fr : Nat × Nat} (F : Array Value) (hb : w.heap[g]? = some (.cells cur e fr)) :
    (grow (putRow id (Sort.ahead w n) g 0 F) os).heap[g]? = some (.cells (putCells id 0 F cur) e fr) := by
  have hg : g < w.heap.size := (Array.getElem?_eq_some_iff.1 hb).1
  rw [heap_grow_old _ _ (by simpa using hg)]
  simp [putRow, mapBlock, Sort.ahead, Array.getElem?_modify, hb, onCells]
theorem grownBy_sortedV {w : World} {g n : Nat} {os : Array Obj} (F : Array Value) : w.grownBy (grow (putRow id (Sort.ahead w n) g 0 F) os) (some g) := by
  refine ⟨rfl, rfl, rfl, by simp, fun k hk hne => ?_⟩
  rw [heap_grow_old _ _ (by simpa using hk)]
  have : g ≠ k := fun e => hne (by rw [e])
  simp [putRow, mapBlock, Sort.ahead, Array.getElem?_modify, this]
theorem take_putCellsV (cur F : Array Value) (h : F.size ≤ cur.size) : (putCells id 0 F cur).toList.take F.size = F.toList := by
  apply List.ext_getElem?
  intro j
  by_cases hj : j < F.size
  · rw [List.getElem?_take_of_lt hj, Array.getElem?_toList]
    simp [putCells, hj, show j < cur.size by omega]
  · rw [List.getElem?_take_eq_none (by omega), List.getElem?_eq_none (by simp; omega)]
/-- pairs by rising places -/
def sortP (l : List P2) : List P2 := l.mergeSort (fun x y => !ltP y x)
theorem sortP_unique (d d' : Array P2) (hp : PermIn 0 d.size d d') (hs : SortedIn ltP 0 d.size d') : d'.toList = sortP d.toList := by
  have e : ltOf cmpP = ltP := by funext x y; exact ltOf_cmpP x y
  have sw : SWO ltP := by rw [← e]; exact swoP
  exact sorted_unique_holds sw (fun x y h1 h2 => by
    simp only [ltP, decide_eq_false_iff_not] at h1 h2
    have a : x.1 = y.1 := Fin.ext (by omega)
    have b : x.2 = y.2 := Fin.ext (by omega)
    exact Prod.ext a b) d d' hp hs
/-- Below block B, the slice s holds these pairs. -/
def PairsIn (B : Nat) (w : World) (s : Sl) (l : List P2) : Prop :=
  s.n = l.length ∧ l.length ≤ 1152921504606846976 ∧
  (l = [] ∨ ∃ b off, s.a = some ⟨b, off, none⟩ ∧ b < B ∧ ∀ k, k < l.length → w.cell? ⟨b, off + k * 2, none⟩ = some (.int .i64 ((l.getD k default).1.val : Int)) ∧ w.cell? ⟨b, off + k * 2 + 1, none⟩ = some (.int .i64 ((l.getD k default).2.val : Int)))
theorem PairsIn.below {B : Nat} {w w' : World} {s : Sl} {l : List P2} (h : PairsIn B w s l) (hb : Below B w w') : PairsIn B w' s l := by
  obtain ⟨h1, h2, h3⟩ := h
  refine ⟨h1, h2, ?_⟩
  rcases h3 with h3 | ⟨b, off, h4, h5, h6⟩
  · exact Or.inl h3
  · exact Or.inr ⟨b, off, h4, h5, fun k hk => by rw [hb.cell (by exact h5), hb.cell (by exact h5)]; exact h6 k hk⟩
theorem PairsIn.mono {B B' : Nat} {w : World} {s : Sl} {l : List P2} (h : PairsIn B w s l) (hB : B ≤ B') : PairsIn B' w s l := by
  obtain ⟨h1, h2, h3⟩ := h
  refine ⟨h1, h2, ?_⟩
  rcases h3 with h3 | ⟨b, off, h4, h5, h6⟩
  · exact Or.inl h3
  · exact Or.inr ⟨b, off, h4, by omega, h6⟩
end Go.Proofs.YtnghoibkjphfmaaGreat
/- slices.SortFunc at pairs of one's own; slices.Collect, SortedFunc; 'pairs', in plain data. -/
set_option maxRecDepth 100000
set_option linter.unusedVariables false
set_option linter.unusedSimpArgs false
namespace Go.Proofs.YtnghoibkjphfmaaGreat
open Go.RowKit Go.Shelf Go.Maps Go.Sort
/-- places below 65536 -/
def smallP (l : List (Int × Int)) : Prop := ∀ p ∈ l, 0 ≤ p.1 ∧ p.1 < 65536 ∧ 0 ≤ p.2 ∧ p.2 < 65536
def toI (x : P2) : Int × Int := ((x.1.val : Int), (x.2.val : Int))
theorem small_P2 : ∀ {l : List (Int × Int)}, smallP l → ∃ d : List P2, l = d.map toI
  | [], _ => ⟨[], rfl⟩
  | (a, b) :: l, h => by
    obtain ⟨d, hd⟩ := small_P2 (l := l) fun p hp => h p (by simp [hp])
    obtain ⟨h1, h2, h3, h4⟩ := h (a, b) (by simp)
    dsimp only at h1 h2 h3 h4
    refine ⟨(⟨a.toNat, by omega⟩, ⟨b.toNat, by omega⟩) :: d, ?_⟩
    rw [List.map_cons, ← hd]
    refine congrArg (· :: l) ?_
    unfold toI
    dsimp only
    rw [Int.toNat_of_nonneg h1, Int.toNat_of_nonneg h3]
/-- by rising places -/
def ltZ (x y : Int × Int) : Bool := decide (x.1 < y.1 ∨ (x.1 = y.1 ∧ x.2 < y.2))
def sortZ (l : List (Int × Int)) : List (Int × Int) := l.mergeSort (fun x y => !ltZ y x)
theorem sortP_toI (d : List P2) : (sortP d).map toI = sortZ (d.map toI) := by
  unfold sortP sortZ
  refine List.map_mergeSort fun a _ b _ => ?_
  unfold ltP ltZ toI
  congr 1
  refine decide_eq_decide.2 ?_
  dsimp only
  omega
theorem pair_rep {G : Gh} {p : Int × Int} {o : Nat} {y : OV} {v : Value} (hy : (pairO' p)[o]? = some y) (hv : RepO G y v) : v = (if o = 0 then Value.int .i64 p.1 else .int .i64 p.2) := by
  match o, hy with
  | 0, hy => simp [pairO'] at hy; subst hy; rw [RepO, Rep] at hv; exact hv.1
  | 1, hy => simp [pairO'] at hy; subst hy; rw [RepO, Rep] at hv; exact hv.1
theorem rowAt_flat {G : Gh} {cs : Array Value} {d : List P2} (h : RowAt G cs ⟨2, (d.map toI).map pairO'⟩) (hl : d.length * 2 ≤ cs.size) : cs.toList.take (d.length * 2) = flatP d := by
  apply List.ext_getElem?
  intro t
  by_cases ht : t < d.length * 2
  · have hi : t / 2 < d.length := by omega
    rw [flatP_get d t ht, List.getElem?_take_of_lt ht, Array.getElem?_toList]
    obtain ⟨_, h2⟩ := h (t / 2) (pairO' (toI (d.getD (t / 2) default))) (by simp [List.getD, hi])
    have hm : t % 2 = 0 ∨ t % 2 = 1 := by omega
    rcases hm with hm | hm
    · obtain ⟨v, h3, h4⟩ := h2 0 _ rfl
      have h5 := pair_rep (p := toI (d.getD (t / 2) default)) (o := 0) rfl h4
      dsimp only at h3
      rw [show t / 2 * 2 + 0 = t by omega] at h3
      rw [h3, h5, hm]; rfl
    · obtain ⟨v, h3, h4⟩ := h2 1 _ rfl
      have h5 := pair_rep (p := toI (d.getD (t / 2) default)) (o := 1) rfl h4
      dsimp only at h3
      rw [show t / 2 * 2 + 1 = t by omega] at h3
      rw [h3, h5, hm]; rfl
  · rw [List.getElem?_take_eq_none (by omega), List.getElem?_eq_none (by rw [flatP_length]; omega)]
theorem flat_rowAt {G : Gh} {cs : Array Value} {d : List P2} (h : cs.toList.take (d.length * 2) = flatP d) : RowAt G cs ⟨2, (d.map toI).map pairO'⟩ := fun i row hi => by
  have hlt : i < d.length := by
    rcases Nat.lt_or_ge i d.length with hh | hh
    · exact hh
    · rw [List.getElem?_eq_none (by simpa using hh)] at hi; cases hi
  have hrow : row = pairO' (toI (d.getD i default)) := by
    simp [List.getD, hlt] at hi ⊢; exact hi.symm
  subst hrow
  refine ⟨rfl, fun o y hy => ?_⟩
  have get : ∀ t, t < d.length * 2 → cs[t]? = some ((encP (d.getD (t / 2) default))[t % 2]!) := fun t ht => by
    rw [← flatP_get d t ht, ← h, List.getElem?_take_of_lt ht, Array.getElem?_toList]
  have e0 := get (i * 2) (by omega)
  have e1 := get (i * 2 + 1) (by omega)
  rw [show i * 2 / 2 = i by omega, show i * 2 % 2 = 0 by omega] at e0
  rw [show (i * 2 + 1) / 2 = i by omega, show (i * 2 + 1) % 2 = 1 by omega] at e1
  match o, hy with
  | 0, hy => simp [pairO'] at hy; subst hy; exact ⟨_, e0, by rw [RepO, Rep]; exact ⟨rfl, rfl⟩⟩
  | 1, hy => simp [pairO'] at hy; subst hy; exact ⟨_, e1, by rw [RepO, Rep]; exact ⟨rfl, rfl⟩⟩
theorem sortZ_length (l : List (Int × Int)) : (sortZ l).length = l.length := List.length_mergeSort _
theorem sortFunc_w (k : Nat) (τ : Stamp) (l : List (Int × Int)) (hs : smallP l) (hl : l.length ≤ 1073741824) :
    FnW E.P 97 [.os k τ 2 l.length, .fn 87 [] []] (stL [(k, (τ, ⟨2, l.map pairO'⟩))]) (IsW (.tu []) (stL [(k, (τ, ⟨2, (sortZ l).map pairO'⟩))])) := by
  refine ⟨⟨_, Tryz.func97, by decide, rfl⟩, fun G w vs N hv hw => ?_⟩
  obtain ⟨d, rfl⟩ := small_P2 hs
  rw [RepOL] at hv
  obtain ⟨x1, us, rfl, h1, hv⟩ := hv
  rw [RepOL] at hv
  obtain ⟨x2, us, rfl, h2, hv⟩ := hv
  rw [RepOL] at hv
  subst hv
  rw [RepO] at h2
  obtain ⟨f1, f2, rfl, hf1, hf2⟩ := h2
  rw [RepOL] at hf1 hf2
  have hf1 : f1 = #[] := Array.toList_eq_nil_iff.1 hf1
  have hf2 : f2 = #[] := Array.toList_eq_nil_iff.1 hf2
  subst hf1 hf2
  have hk : stL [(k, (τ, (⟨2, (d.map toI).map pairO'⟩ : Row)))] k = some (τ, ⟨2, (d.map toI).map pairO'⟩) := by simp [stL]
  have htu : RepO G (.tu []) (.tuple #[]) := by rw [RepO]; exact ⟨#[], rfl, by rw [RepOL]⟩
  rw [RepO] at h1
  rcases h1 with ⟨β, c, hμ, rfl, hc1, hc2, hc3⟩ | ⟨hμ, rfl, hn⟩
  · obtain ⟨cs, hb, hsz, hrl, hrow⟩ := hw.blk hk hμ
    have hlen : (d.map toI).length = d.length := by simp
    rw [hlen] at hc1 ⊢
    simp only [List.length_map] at hrl
    have hflat := rowAt_flat hrow (by rw [hsz]; exact hrl)
    have hF : (flatK encP 2 d.toArray).size = d.length * 2 := by simp
    have hH : HoldsK encP 2 w β.b 0 d.toArray := holds_of_blockV hb (by rw [hF, flatK_toList]; exact hflat)
    have hlt : β.b < w.heap.size := (Array.getElem?_eq_some_iff.1 hb).1
    have cS := sortPairs_c β.b 0 c d.toArray w hH hlt (by simp; simp at hl; omega)
    rw [List.size_toArray] at cS
    refine cS.mono ?_
    rintro e w' ⟨rfl, d', nn, os, hp, hso, rfl⟩
    have hd : d'.size = d.length := by have := hp.1; simpa using this
    have hsort : d'.toList = sortP d := sortP_unique d.toArray d' (by simpa using hp) (by simpa using hso)
    have hF2 : (flatK encP 2 d').size = d.length * 2 := by simp [hd]
    have hg := grownBy_sortedV (w := w) (g := β.b) (n := nn) (os := os) (flatK encP 2 d')
    have hb' := heap_sortedV (n := nn) (os := os) (flatK encP 2 d') hb
    have hsd : (sortP d).length = d.length := by rw [← hsort]; simp [hd]
    have hpl : (putCells id 0 (flatK encP 2 d') cs).size = cs.size := by simp [putCells]
    refine ⟨_, G, .tu [], _, rfl, ⟨rfl, ?le⟩, .refl _, htu, hw.put (r' := ⟨2, (sortZ (d.map toI)).map pairO'⟩) hk hμ hg.size hg.tape hg.os hg.output (fun b hb1 hne => hg.block b hb1 (fun e => hne (Option.some.inj e))) ⟨_, hb', by rw [hpl, hsz], by rw [← sortP_toI]; simp [hsd]; omega, ?_⟩⟩
    case le =>
      intro t y hy
      unfold stL at hy
      cases hbq : Nat.beq t k with
      | true => rw [hbq] at hy; cases hy; rw [Nat.eq_of_beq_eq_true hbq]; exact Store.put_self _ _ _
      | false => rw [hbq] at hy; cases hy
    · rw [← sortP_toI]
      refine flat_rowAt ?_
      rw [hsd, ← hF2, take_putCellsV cs _ (by rw [hF2, hsz]; exact hrl), ← hsort, ← flatK_toList]
  · have hd : d = [] := by
      have : d.length = 0 := by simpa using hn
      exact List.eq_nil_of_length_eq_zero this
    subst hd
    refine (sortPairs_none none 0 (.func (.func 87) #[] #[]) w).mono ?_
    rintro e w' ⟨rfl, rfl⟩
    refine ⟨_, G, .tu [], _, rfl, ⟨rfl, ?_⟩, .refl _, htu, hw⟩
    have : sortZ (([] : List P2).map toI) = [] := by simp [sortZ]
    rw [this]
    exact fun t y h => h
set_option maxHeartbeats 4000000 in
theorem collect_s {y : OV} {f : FuncId} {fi ca : List OV} (hf : IsFn y f fi ca) (l : List (Int × Int)) (hl : l.length ≤ 1073741824) (hs : SeqW E.P f fi ca (pairYs l)) :
    Own E.P 96 [y] 2 (l.map pairO') := by
  refine fn_of_awp Tryz.func96 (by decide) rfl Tryz.ntmps96 (Nat.le_of_ble_eq_true rfl) rfl ?_
  refine awp_seq ?_
  (refine ao_region ?_ (fun _ => ?_); exact rfl)
  refine q51 ?_; refine ao_nil ?_; refine then_n ?_; refine awp_seq ?_
  (refine ao_region ?_ (fun _ => ?_); exact rfl)
  refine q11 ?_
  ((apply S_own; exact rfl; exact .fn _ _ _; exact rfl; exact appendSeq_p hf l hl hs))
  (apply S_ren; exact rfl; exact rfl)
  refine ao_nil ?_; refine then_n ?_; refine awp_ret ?_
  rotate_left
  exact own_done (d := 2) rfl rfl rfl rfl
theorem sortFunc_w' (k : Nat) (τ : Stamp) (l : List (Int × Int)) (hs : smallP l) (hl : l.length ≤ 1073741824) :
    FnW E.P 97 [.os k τ 2 (l.map pairO').length, .fn 87 [] []] (stL [(k, (τ, ⟨2, l.map pairO'⟩))]) (IsW (.tu []) (stL [(k, (τ, ⟨2, (sortZ l).map pairO'⟩))])) := by
  rw [List.length_map]; exact sortFunc_w k τ l hs hl
set_option maxHeartbeats 4000000 in
theorem sortedFunc_s {y : OV} {f : FuncId} {fi ca : List OV} (hf : IsFn y f fi ca) (l : List (Int × Int)) (hsm : smallP l) (hl : l.length ≤ 1073741824) (hs : SeqW E.P f fi ca (pairYs l)) :
    Own E.P 86 [y, .fn 87 [] []] 2 ((sortZ l).map pairO') := by
  refine fn_of_awp Tryz.func86 (by decide) rfl Tryz.ntmps86 (Nat.le_of_ble_eq_true rfl) rfl ?_
  refine awp_seq ?_
  (refine ao_region ?_ (fun _ => ?_); exact rfl)
  refine q51 ?_; refine ao_nil ?_; refine then_n ?_; refine awp_seq ?_
  (refine ao_region ?_ (fun _ => ?_); exact rfl)
  refine q11 ?_
  ((first
      | (apply S_own; exact rfl; exact .fn _ _ _; exact rfl; exact collect_s hf l hl hs)
      | (apply S_callw; exact rfl; exact .fn _ _ _; exact rfl; exact sortFunc_w' _ _ l hsm hl; exact (by repeat' (first | exact le_nil _ | exact sle_nil _ | refine le_cons rfl ?_ | refine sle_cons rfl ?_)); exact rfl; simp)))
  (apply S_ren; exact rfl; exact rfl)
  refine ao_nil ?_; refine then_n ?_; refine awp_seq ?_
  (refine ao_region ?_ (fun _ => ?_); exact rfl)
  iterate 2 refine q11 ?_
  ((first
      | (apply S_own; exact rfl; exact .fn _ _ _; exact rfl; exact collect_s hf l hl hs)
      | (apply S_callw; exact rfl; exact .fn _ _ _; exact rfl; exact sortFunc_w' _ _ l hsm hl; exact (by repeat' (first | exact le_nil _ | exact sle_nil _ | refine le_cons rfl ?_ | refine sle_cons rfl ?_)); exact rfl; simp)))
  refine ao_nil ?_; refine then_n ?_; refine awp_seq ?_
  (refine ao_region ?_ (fun _ => ?_); exact rfl)
  refine q11 ?_
  (apply S_ren; exact rfl; exact rfl)
  refine ao_nil ?_; refine then_n ?_; refine awp_ret ?_
  rotate_left
  refine own_done (d := 4) rfl rfl rfl ?_
  simp [sortZ_length]
set_option maxHeartbeats 4000000 in
theorem pairs_s {y : OV} {f : FuncId} {fi ca : List OV} (hf : IsFn y f fi ca) (l : List (Int × Int)) (hsm : smallP l) (hl : l.length ≤ 1073741824) (hs : SeqW E.P f fi ca (pairYs l)) :
    Own E.P 50 [y] 2 ((sortZ l).map pairO') := by
  refine fn_of_awp Tryz.func50 (by decide) rfl Tryz.ntmps50 (Nat.le_of_ble_eq_true rfl) rfl ?_
  refine awp_seq ?_
  (refine ao_region ?_ (fun _ => ?_); exact rfl)
  refine q51 ?_; refine ao_nil ?_; refine then_n ?_; refine awp_seq ?_
  (refine ao_region ?_ (fun _ => ?_); exact rfl)
  refine q11 ?_
  ((apply S_own; exact rfl; exact .fn _ _ _; exact rfl; exact sortedFunc_s hf l hsm hl hs))
  (apply S_ren; exact rfl; exact rfl)
  refine ao_nil ?_; refine then_n ?_; refine awp_ret ?_
  rotate_left
  exact own_done (d := 2) rfl rfl rfl rfl
end Go.Proofs.YtnghoibkjphfmaaGreat
/- The addresses that events have, rising. -/
namespace Go.Proofs.YtnghoibkjphfmaaGreat
open Go.RowKit Go.Maps Go.Sort
/-- a number into a rising list, once -/
def addIn (a : Int) : List Int → List Int
  | [] => [a]
  | x :: r => if x < a then x :: addIn a r else if x = a then x :: r else a :: x :: r
def addrsTo (es : List Ev) : List Int := es.foldl (fun l e => if e.kind = 4 then l else addIn e.addr l) []
theorem mem_addIn (a x : Int) : ∀ l, x ∈ addIn a l ↔ x = a ∨ x ∈ l
  | [] => by simp [addIn]
  | y :: r => by
    unfold addIn
    split
    · simp only [List.mem_cons, mem_addIn a x r]; exact or_left_comm
    · split
      · rename_i h1 h2; subst h2; simp
      · simp
theorem addIn_rising (a : Int) : ∀ l : List Int, l.Pairwise (· < ·) → (addIn a l).Pairwise (· < ·)
  | [], _ => by simp [addIn]
  | y :: r, h => by
    rw [List.pairwise_cons] at h
    unfold addIn
    split
    · rename_i h1
      rw [List.pairwise_cons]
      exact ⟨fun z hz => by rcases (mem_addIn a z r).1 hz with rfl | hz; exact h1; exact h.1 z hz, addIn_rising a r h.2⟩
    · split
      · exact List.pairwise_cons.2 h
      · rename_i h1 h2
        rw [List.pairwise_cons]
        exact ⟨fun z hz => by rcases List.mem_cons.1 hz with rfl | hz; omega; have := h.1 z hz; omega, List.pairwise_cons.2 h⟩
theorem addrsTo_snoc (es : List Ev) (e : Ev) : addrsTo (es ++ [e]) = if e.kind = 4 then addrsTo es else addIn e.addr (addrsTo es) := by
  simp [addrsTo, List.foldl_append]
theorem addrsTo_rising (es : List Ev) : (addrsTo es).Pairwise (· < ·) := by
  suffices h : ∀ (es : List Ev) (l : List Int), l.Pairwise (· < ·) → (es.foldl (fun l e => if e.kind = 4 then l else addIn e.addr l) l).Pairwise (· < ·) from h es [] (by simp)
  intro es
  induction es with
  | nil => intro l h; exact h
  | cons e r ih =>
    intro l h
    rw [List.foldl_cons]
    refine ih _ ?_
    split
    · exact h
    · exact addIn_rising _ _ h
theorem length_addIn (a : Int) : ∀ l : List Int, (addIn a l).length ≤ l.length + 1
  | [] => by simp [addIn]
  | y :: r => by
    unfold addIn
    split
    · simp; exact length_addIn a r
    · split <;> simp
theorem addrsTo_len (es : List Ev) : (addrsTo es).length ≤ es.length := by
  suffices h : ∀ (es : List Ev) (l : List Int), (es.foldl (fun l e => if e.kind = 4 then l else addIn e.addr l) l).length ≤ l.length + es.length from by simpa [addrsTo] using h es []
  intro es
  induction es with
  | nil => intro l; simp
  | cons e r ih =>
    intro l
    rw [List.foldl_cons]
    refine Nat.le_trans (ih _) ?_
    split
    · simp
    · have := length_addIn e.addr l
      simp; omega
/-- what is sorted and has the same members, each once, is the list -/
theorem sorted_same {ss l : List Int} (hn : ss.Nodup) (hl : l.Pairwise (· < ·)) (hm : ∀ x, x ∈ ss ↔ x ∈ l) : ss.mergeSort (fun x y => decide (x ≤ y)) = l := by
  have hp : ss.Perm l := (List.perm_ext_iff_of_nodup hn (hl.imp (fun h => by omega))).2 hm
  refine List.Perm.eq_of_pairwise (le := fun a b : Int => a ≤ b) (fun a b _ _ h1 h2 => by omega) ?_ (hl.imp (fun h => by omega)) ((List.mergeSort_perm ss _).trans hp)
  refine (List.pairwise_mergeSort (le := fun x y : Int => decide (x ≤ y)) (fun a b c h1 h2 => by simp at *; omega) (fun a b => by simp; omega) ss).imp ?_
  intro a b h; simpa using h
/-- the map holds the addresses -/
def Has (D : DataW Unit) (l : List Int) : Prop := ∀ x, has D (.int .u32 x) = true ↔ x ∈ l
theorem Has.put {D : DataW Unit} {l : List Int} (h : Has D l) (hm : IsMap D) (a : Int) (d : DataW Unit) : Has (D.put (.int .u32 a) d) (addIn a l) := by
  intro x
  rw [mem_addIn]
  by_cases hx : x = a
  · subst hx
    simp [has_put_same hm (show WideAt.IsKeyLit (Lit.int .u32 x) from trivial)]
  · rw [has_put_other (by simpa using hx), h x]
    simp [hx]
theorem zeroI (w : World) : (zeroValue 3).run Tryz.prog w = .ok (.int .i64 0) w := by kernel_rfl
theorem enters_keys : ∀ args w, (callFunc 92 args).run Tryz.prog w = .ok (.enter 92 args) w := enters_of Tryz.func92 (by kernel_rfl) rfl
/-- slices.Sorted(maps.Keys(m)), of a map of the call's own -/
theorem sortedKeys_c (hs : ∀ m, Sorts_u Fence.wide m) (b nn : Nat) (D : DataW Unit) (l : List Int) (w : World) (hown : w.ownsMap Tryz.prog 39 (plainElem Tryz.prog 3) b nn D) (hD : Has D l) (hr : l.Pairwise (· < ·)) (hn : nn ≤ 4294967296) (Bm : Nat) (hBm : Bm < w.heap.size) (hm : w.cell? ⟨Bm, 0, none⟩ = some (.map (some b))) :
    Calls Tryz.prog 79 #[.func (.func 92) #[] #[.pointer (some ⟨Bm, 0, none⟩)]] w fun e w' => ∃ v, e = .returned v ∧ w'.ownsRow w.heap.size 39 1 v l.length (l.map (Value.int .u32)) ∧ (v = .slice none 0 0 ↔ l = []) ∧ Below w.heap.size w w' := by
  refine callsIn_wide.1 ((sorted_u Fence.wide (fun _ => trivial) 5 rfl (by omega) (hs _) _ _ enters_keys KeepsWalks _ _ (Maps.size D) ?_ ?_ w walksK_t walksK_b (fun _ _ h _ => h.walks) (keys_stops Fence.wide (fun _ => trivial) _ rfl (by omega) Bm b nn D w hBm hm hown)).mono ?_)
  · have := hown.size_le
    unfold maxLen; omega
  · have := hown.size_le
    omega
  · rintro e w' ⟨v, ss, rfl, ⟨hnd, hk⟩, _, hrow, hnil, hb⟩
    have e1 := sorted_same hnd hr (fun x => by rw [hk x]; exact hD x)
    have e2 : ss.length = l.length := by rw [← e1, List.length_mergeSort]
    rw [e1, e2] at hrow
    refine ⟨v, rfl, hrow, ?_, hb⟩
    rw [hnil]
    constructor
    · intro h; subst h; exact List.length_eq_zero_iff.1 e2.symm
    · intro h; subst h; exact List.length_eq_zero_iff.1 e2
theorem u32_wf {a : Int} (h1 : 0 ≤ a) (h2 : a < 4294967296) : (Lit.int .u32 a).wf = true := by
  simp only [Lit.wf, Bool.and_eq_true, decide_eq_true_eq]
  have e1 : IntKind.u32.min = 0 := by decide
  have e2 : IntKind.u32.max = 4294967295 := by decide
  omega
theorem row_ints (q : IntKind) {w : World} {base : Nat} {e : TypeId} {v : Value} {l : List Int} (hl : l.length ≤ 1152921504606846976) (h : w.ownsRow base e 1 v l.length (l.map (Value.int q))) :
    ∃ s : Sl, v = .slice s.a s.n s.c ∧ IntsIn q w.heap.size w s l := by
  rcases h.2 with ⟨rfl, hz⟩ | ⟨gb, cap, cur, rfl, hbase, hgb, r1, r2, r3, r4⟩
  · have : l = [] := List.eq_nil_of_length_eq_zero hz
    subst this
    exact ⟨⟨none, 0, 0⟩, rfl, rfl, by simp, Or.inl rfl⟩
  · have hH : Holds (Value.int q) w gb 0 l.toArray := holds_of_blockE _ hgb (by simpa using r4)
    refine ⟨⟨some ⟨gb, 0, none⟩, l.length, cap⟩, rfl, rfl, hl, Or.inr ⟨gb, 0, rfl, (Array.getElem?_eq_some_iff.1 hgb).1, fun k hk => ?_⟩⟩
    have := (hH k (by simpa using hk)).1
    rw [this]
    simp [List.getD, hk]
theorem ownsMap_below {b nn n₀ : Nat} {D : DataW Unit} {w w' : World} (h : w.ownsMap Tryz.prog 39 (plainElem Tryz.prog 3) b nn D) (hb : Below n₀ w w') (hlt : b < n₀) : w'.ownsMap Tryz.prog 39 (plainElem Tryz.prog 3) b nn D := by
  obtain ⟨es, clock, hb', Ft, hs, hD⟩ := h
  exact ⟨es, clock, (hb.block b hlt).trans hb', Ft, hs, hD⟩
set_option maxRecDepth 100000 in
set_option maxHeartbeats 2000000 in
theorem addresses_c (hs : ∀ m, Sorts_u Fence.wide m) (x : Ex) (w : World) (hx : EvsIn w.heap.size w x.es x.evs) (hlen : x.evs.length ≤ 64) :
    Calls Tryz.prog 46 #[x.agg] w fun o w' => ∃ s : Sl, o = .returned (.slice s.a s.n s.c) ∧ IntsIn .u32 w'.heap.size w' s (addrsTo x.evs) ∧ Below w.heap.size w w' := by
  obtain ⟨⟨ea, en, ec⟩, ⟨fa, fn, fc⟩, ⟨oa, on, oc⟩, evs, from_, order⟩ := x
  obtain ⟨e1, esm, hev, ecl⟩ := hx
  dsimp only at e1 esm hev ecl hlen
  subst e1
  unfold Ex.agg
  dsimp only
  have hmm := @run_makeMap Tryz.prog
  have KS := Lib.hid (fun mb w => callsIn_wide.1 (keys_u Fence.wide (fun _ => trivial) 0 rfl mb w))
  go_enter Tryz.func46, Tryz.ntmps46
  go_upto_region 1 with (fail)
  refine alloc_opaque (X := fun W => Code.wp _ _ _ _ W) ?_
  intro wc hb hsz hcs
  have c0 : wc.cell? ⟨w.heap.size, 0, none⟩ = some (.slice ea evs.length ec) := hcs 0 _ rfl
  clear hcs
  have HEV := Lib.hid hev
  have HCL := Lib.hid ecl
  clear hev ecl
  go_wp2
  go_loopw [10] (fun i wr => ∃ (k nn : Nat) (D : DataW Unit), k ≤ evs.length ∧ i = .int .i64 k ∧ nn ≤ k ∧ wr.ownsMap Tryz.prog 39 (plainElem Tryz.prog 3) wc.heap.size nn D ∧ Has D (addrsTo (evs.take k)) ∧ Below wc.heap.size wc wr) (fun i _ => evs.length - (intOf i).toNat)
  case atStart => exact ⟨0, 0, .map [], by omega, rfl, by omega, World.ownsMap_made _ _ _ _, fun y => by simp [addrsTo, Maps.has], (Below.refl _ _).alloc (Nat.le_refl _) _⟩
  case round =>
    obtain ⟨k, nn, D, hk, rfl, hnn, hown, hD, hbr⟩ := hrel
    have c0r : wr.cell? ⟨w.heap.size, 0, none⟩ = some (.slice ea evs.length ec) := (hbr.cell (p := ⟨w.heap.size, 0, none⟩) hsz).trans c0
    have HD := Lib.hid hD
    clear hD hmm
    by_cases hlt : k < evs.length
    · obtain ⟨b, off, rfl, hbB, hcl⟩ := HCL.out.resolve_left (by intro h; rw [h] at hlt; simp at hlt)
      obtain ⟨E, hE⟩ : ∃ E, evs.getD k default = E := ⟨_, rfl⟩
      have hmem : E ∈ evs := by rw [← hE, List.getD_eq_getElem?_getD, List.getElem?_eq_getElem hlt]; exact List.getElem_mem hlt
      have hwf := (HEV.out E hmem).2.2.2
      have hcE := ((hcl k hlt).below hb hbB).below hbr (show b < wc.heap.size by omega)
      rw [hE] at hcE
      unfold EvCells at hcE
      obtain ⟨q0, q1, q2, q3, q4, q5, q6, q7, q8, q9, q10, q11, q12⟩ := hcE
      have HT : Hid (addrsTo (evs.take (k + 1)) = if E.kind = 4 then addrsTo (evs.take k) else addIn E.addr (addrsTo (evs.take k))) := Lib.hid (by
        rw [← addrsTo_snoc, List.take_succ_eq_append_getElem hlt, ← hE]; simp [List.getD, hlt])
      have hkey : keyOf Tryz.prog 39 (.int .u32 E.addr) = some (.int .u32 E.addr) := keyOf_int_mk Tryz.underlying39 (u32_wf hwf.2.2.1.1 hwf.2.2.1.2)
      clear hE hmem hwf hcl
      go_upto_region 5 with (fail)
      refine alloc_opaque (X := fun W => Code.wp _ _ _ _ W) ?_
      intro w1 hb1 hs1 hcs1
      have t0 : (w1).cell? ⟨wr.heap.size, 0, none⟩ = some (Value.int IntKind.i64 E.hart) := hcs1 0 _ rfl
      have t1 : (w1).cell? ⟨wr.heap.size, 1, none⟩ = some (Value.int IntKind.i64 E.kind) := hcs1 1 _ rfl
      have t2 : (w1).cell? ⟨wr.heap.size, 2, none⟩ = some (Value.int IntKind.u32 E.addr) := hcs1 2 _ rfl
      have t3 : (w1).cell? ⟨wr.heap.size, 3, none⟩ = some (Value.int IntKind.u32 E.val) := hcs1 3 _ rfl
      have t4 : (w1).cell? ⟨wr.heap.size, 4, none⟩ = some (Value.int IntKind.u32 E.rval) := hcs1 4 _ rfl
      have t5 : (w1).cell? ⟨wr.heap.size, 5, none⟩ = some (Value.bool E.aq) := hcs1 5 _ rfl
      have t6 : (w1).cell? ⟨wr.heap.size, 6, none⟩ = some (Value.bool E.rl) := hcs1 6 _ rfl
      have t7 : (w1).cell? ⟨wr.heap.size, 7, none⟩ = some (Value.int IntKind.i64 E.pred) := hcs1 7 _ rfl
      have t8 : (w1).cell? ⟨wr.heap.size, 8, none⟩ = some (Value.int IntKind.i64 E.succ) := hcs1 8 _ rfl
      have t9 : (w1).cell? ⟨wr.heap.size, 9, none⟩ = some (Value.bool E.rsv) := hcs1 9 _ rfl
      have t10 : (w1).cell? ⟨wr.heap.size, 10, none⟩ = some (Value.slice E.av.a E.av.n E.av.c) := hcs1 10 _ rfl
      have t11 : (w1).cell? ⟨wr.heap.size, 11, none⟩ = some (Value.slice E.dv.a E.dv.n E.dv.c) := hcs1 11 _ rfl
      have t12 : (w1).cell? ⟨wr.heap.size, 12, none⟩ = some (Value.slice E.cv.a E.cv.n E.cv.c) := hcs1 12 _ rfl
      clear hcs1 q0 q1 q2 q3 q4 q5 q6 q7 q8 q9 q10 q11 q12
      have hz1 := hbr.size
      have own1 : w1.ownsMap Tryz.prog 39 (plainElem Tryz.prog 3) wc.heap.size nn D := ownsMap_below hown hb1 hown.lt
      have hb2 : Below wc.heap.size wc w1 := hbr.trans (hb1.mono hz1)
      have OW := Lib.hid hown
      clear hown
      by_cases hf : (E.kind != 4) = true
      · have hne : E.kind ≠ 4 := by simpa using hf
        go_wp2_with (first
          | (at_lookup; refine wpList_lookup_own_int _ rfl _ _ 85 rfl 39 3 .i64 lawU Tryz.underlying85 Tryz.underlying3 (zeroI _) wc.heap.size nn _ rfl own1 _ _ rfl hkey ?_; intro c hat hwc)
          | (at_mapUpdate; refine wpList_mapUpdate_own _ rfl _ _ _ 85 rfl 39 3 lawU Tryz.underlying85 _ wc.heap.size nn _ rfl own1 (by unfold maxLen; omega) _ _ _ rfl rfl hkey _ [] (plainElem_int Tryz.underlying3 (wrap64_wf _)) ?_; intro w2 hown2 hgrow2)
          | go_in)
        go_roundw
        case rel => exact ⟨k + 1, nn + 1, _, by omega, by go_num, by omega, hown2, by rw [HT.out, if_neg hne]; exact HD.out.put own1.isMap _ _, hb2.grown hgrow2 hb2.size (fun j hj => by cases hj; exact Nat.le_refl _)⟩
        case measure => simp [intOf]; omega
      · have hf2 : (E.kind != 4) = false := by simpa using hf
        have he4 : E.kind = 4 := by simpa using hf2
        clear hf
        go_wp2
        go_roundw
        case rel => exact ⟨k + 1, nn, D, by omega, by go_num, by omega, own1, by rw [HT.out, if_pos he4]; exact HD.out, hb2⟩
        case measure => simp [intOf]; omega
    · have hk2 : k = evs.length := by omega
      have HL : Hid (addrsTo (evs.take k) = addrsTo evs) := Lib.hid (by rw [hk2, List.take_length])
      have hnotlt : ¬ k < evs.length := hlt
      have own1 : (wr.alloc (.cells #[.map (some wc.heap.size)] 85)).ownsMap Tryz.prog 39 (plainElem Tryz.prog 3) wc.heap.size nn D := hown.alloc _
      have ctr : Hid (Calls Tryz.prog 79 #[.func (.func 92) #[] #[.pointer (some ⟨wr.heap.size, 0, none⟩)]] (wr.alloc (.cells #[.map (some wc.heap.size)] 85)) fun e w' =>
          ∃ v, e = .returned v ∧ w'.ownsRow (wr.alloc (.cells #[.map (some wc.heap.size)] 85)).heap.size 39 1 v (addrsTo evs).length ((addrsTo evs).map (Value.int .u32)) ∧ (v = .slice none 0 0 ↔ addrsTo evs = []) ∧ Below (wr.alloc (.cells #[.map (some wc.heap.size)] 85)).heap.size (wr.alloc (.cells #[.map (some wc.heap.size)] 85)) w') := Lib.hid (sortedKeys_c hs wc.heap.size nn D (addrsTo evs) _ own1 (by rw [← HL.out]; exact HD.out) (addrsTo_rising evs) (by omega) wr.heap.size (by simp) (by simp))
      clear own1 hs
      go_wp2_with (first
        | (go_at_call 80; refine (KS.out _ _).mono ?_; rintro e w' ⟨rfl, rfl⟩)
        | (go_at_call 79; refine ctr.out.mono ?_; rintro e w5 ⟨v, rfl, hrow, hnil, hb5⟩))
      go_ret
      obtain ⟨s, hv, hi⟩ := row_ints .u32 (by have := addrsTo_len evs; omega) hrow
      refine ⟨s, by rw [hv]; rfl, hi, ?_⟩
      have hb6 : Below wr.heap.size wr w5 := ((Below.refl wr.heap.size wr).alloc (Nat.le_refl _) _).trans (hb5.mono (by simp))
      exact hb.trans ((hbr.trans (hb6.mono hbr.size)).mono (by omega))
end Go.Proofs.YtnghoibkjphfmaaGreat
/- The library's sort at uint32, a part of its walks: turned from the worked walks at int. -/
namespace Go.Proofs.YtnghoibkjphfmaaGreat
open Go.Sort Go.RowKit
theorem xorshift_Next_u (rb ro X : Nat) (hX : X < 18446744073709551616) (w : World) (hc : w.cell? ⟨rb, ro, none⟩ = some (.int .u64 X)) (hf : w.frozen? ⟨rb, ro, none⟩ = false) :
    Calls Tryz.prog 136 #[.pointer (some ⟨rb, ro, none⟩)] w fun e w' => e = .returned (.int .u64 (xorNextN X : Nat)) ∧ w' = (w.setCell ⟨rb, ro, none⟩ (.int .u64 (xorNextN X : Nat))).drewN 3 := by
  obtain ⟨A, hA⟩ : ∃ A : Nat, A = X ^^^ (X * 8192 % 18446744073709551616) := ⟨_, rfl⟩
  obtain ⟨B, hB⟩ : ∃ B : Nat, B = A ^^^ (A / 128) := ⟨_, rfl⟩
  obtain ⟨C, hC⟩ : ∃ C : Nat, C = B ^^^ (B * 131072 % 18446744073709551616) := ⟨_, rfl⟩
  have lA : A < 18446744073709551616 := by rw [hA]; exact Nat.xor_lt_two_pow (n := 64) (by omega) (by omega)
  have lB : B < 18446744073709551616 := by rw [hB]; exact Nat.xor_lt_two_pow (n := 64) (by omega) (by omega)
  have e1 : bits .xor .u64 (X : Int) (IntKind.u64.wrap ((X : Int) * 8192)) = (A : Int) := by
    rw [IntKind.wrap_u64, show ((X : Int) * 8192 % 18446744073709551616) = ((X * 8192 % 18446744073709551616 : Nat) : Int) by omega, bits_xor_u64_nat _ _ hX (by omega), hA]
  have e2 : bits .xor .u64 (A : Int) ((A : Int) / 128) = (B : Int) := by
    rw [show ((A : Int) / 128) = ((A / 128 : Nat) : Int) by omega, bits_xor_u64_nat _ _ lA (by omega), hB]
  have e3 : bits .xor .u64 (B : Int) (IntKind.u64.wrap ((B : Int) * 131072)) = (C : Int) := by
    rw [IntKind.wrap_u64, show ((B : Int) * 131072 % 18446744073709551616) = ((B * 131072 % 18446744073709551616 : Nat) : Int) by omega, bits_xor_u64_nat _ _ lB (by omega), hC]
  have hv : xorNextN X = C := by unfold xorNextN; simp only []; rw [← hA, ← hB, ← hC]
  rw [hv]
  clear hA hB hC hv
  have hss : ∀ v v', (w.setCell ⟨rb, ro, none⟩ v).setCell ⟨rb, ro, none⟩ v' = w.setCell ⟨rb, ro, none⟩ v' := setCell_setCell w rb ro
  go_enter Tryz.func136, Tryz.ntmps136
  go_wp2
  go_region
  all_goals go_wp2
  all_goals go_region
  all_goals go_wp2
  all_goals go_region
  all_goals go_wp2
  go_ret
  exact ⟨rfl, rfl⟩
theorem nextPowerOfTwo_u (n : Nat) (hn : n < 4611686018427387904) (w : World) :
    Calls Tryz.prog 135 #[.int .i64 n] w fun e w' => e = .returned (.int .u64 ((1 <<< bitsLen n : Nat) : Int)) ∧ w' = w := by
  have hLen : ∀ w, Calls Tryz.prog 101 #[.int .u64 (n : Int)] w fun e w' => e = .returned (.int .i64 (bitsLen n : Nat)) ∧ w' = w := fun w => by
    have h := Tryz.bits_Len (n : Int) w (by omega) (by omega)
    rwa [Int.toNat_natCast, bitLen_eq _ (by omega)] at h
  have hk : bitsLen n ≤ 62 := (bitsLen_le_iff n 62).2 (by omega)
  have hp := wrap_two_pow (bitsLen n) hk
  go_enter Tryz.func135, Tryz.ntmps135
  go_wp2_with (first | (go_at_call 101; refine (hLen _).mono ?_; rintro e w' ⟨rfl, rfl⟩))
  go_ret
  exact ⟨rfl, rfl⟩
set_option maxHeartbeats 1000000 in
set_option maxRecDepth 100000 in
theorem breakPatterns_u_go (blk off cap a L : Nat) (d : Array Int) (w : World) (hH : Holds encU w blk off d) (hblk : blk < w.heap.size) (hb : a + L ≤ d.size) (hsz : d.size < 4611686018427387904) (h8 : 8 ≤ L) :
    Calls Tryz.prog 108 #[.slice (some ⟨blk, off, none⟩) d.size cap, .int .i64 a, .int .i64 ((a + L : Nat) : Int)] w fun e w' =>
      e = .returned (.tuple #[]) ∧ ∃ n os, w' = grow (putRow encU (Sort.ahead w n) blk off (breakPatterns d a (a + L))) os := by
  rw [breakPatterns_eq d a L h8]
  obtain ⟨M, hM⟩ : ∃ M : Nat, M = 1 <<< bitsLen L := ⟨_, rfl⟩
  have hM1 : 1 ≤ M := by rw [hM, Nat.one_shiftLeft]; exact Nat.two_pow_pos _
  have hM2 : M ≤ 2 * L := by rw [hM, Nat.one_shiftLeft]; exact two_pow_bitsLen_le (by omega)
  have hNP : ∀ w, Calls Tryz.prog 135 #[.int .i64 (L : Int)] w fun e w' => e = .returned (.int .u64 (M : Int)) ∧ w' = w := by rw [hM]; exact fun w => nextPowerOfTwo_u L (by omega) w
  rw [← hM]
  clear hM
  have HH : Hid (Holds encU w blk off d) := hH
  have HST : Hid (w.alloc (Obj.cells #[.int .u64 (L : Int)] 133) = grow (putRow encU (Sort.ahead w 0) blk off d) #[Obj.cells #[.int .u64 ((UInt64.ofNat L).toNat : Int)] 133]) := by
    show _ = _
    rw [show Sort.ahead w 0 = w from rfl, putRow_self _ _ _ _ _ hH, alloc_eq_grow, show (UInt64.ofNat L).toNat = L from by simp; omega]
  clear hH
  go_enter Tryz.func108, Tryz.ntmps108
  go_wp2_with (first | (go_at_call 135; rw [show ((a : Int) + (L : Int) - (a : Int)) = (L : Int) by omega]; refine (hNP _).mono ?_; rintro e w' ⟨rfl, rfl⟩))
  go_loopw [9] (fun vi wr => ∃ (t n : Nat) (r : UInt64) (dk : Array Int), vi = .int .i64 ((a + L / 4 * 2 - 1 + t : Nat) : Int) ∧ t ≤ 3 ∧ dk.size = d.size ∧
      wr = grow (putRow encU (Sort.ahead w n) blk off dk) #[Obj.cells #[.int .u64 (r.toNat : Int)] 133] ∧
      bpRest a L M (a + L / 4 * 2 - 1) (3 - t) t (r, dk) = bpRest a L M (a + L / 4 * 2 - 1) 3 0 (UInt64.ofNat L, d)) (fun vi _ => a + L / 4 * 2 + 3 - (intOf vi).toNat)
  case atStart => exact ⟨0, 0, UInt64.ofNat L, d, by congr 1; omega, by omega, rfl, HST.out, rfl⟩
  case round =>
    obtain ⟨t, n, r, dk, rfl, ht, hsk, hw, hR⟩ := hrel
    obtain ⟨R, hRr⟩ : ∃ R : Nat, R = r.toNat := ⟨_, rfl⟩
    have lR : R < 18446744073709551616 := by rw [hRr]; exact r.toNat_lt
    obtain ⟨R', hR'⟩ : ∃ R' : Nat, R' = xorNextN R := ⟨_, rfl⟩
    have lR' : R' < 18446744073709551616 := by rw [hR']; exact xorNextN_lt R lR
    obtain ⟨O, hO⟩ : ∃ O : Nat, O = R' &&& (M - 1) := ⟨_, rfl⟩
    have lO : O ≤ M - 1 := by rw [hO]; exact Nat.and_le_right
    have eAnd : bits .and .u64 (R' : Int) ((M : Int) - 1) = (O : Int) := by
      rw [show ((M : Int) - 1) = ((M - 1 : Nat) : Int) by omega, bits_and_u64_nat _ _ lR' (by omega), hO]
    obtain ⟨G, hG⟩ : ∃ G : Nat → Int, ∀ x, G x = dk[x]! := ⟨fun x => dk[x]!, fun _ => rfl⟩
    have hz : (putRow encU (Sort.ahead w n) blk off dk).heap.size = w.heap.size := by simp
    have hcw : ∀ x, x < d.size → wr.cell? ⟨blk, off + x, none⟩ = some (.int .u32 (G x)) := fun x hx => by
      rw [hw, cell?_grow _ _ _ (by rw [hz]; exact hblk), hG]; exact cell?_putRow _ _ _ _ d dk (holds_ahead _ _ _ _ _ _ HH.out) hsk x (by omega)
    have hfw : ∀ x, x < d.size → wr.frozen? ⟨blk, off + x, none⟩ = false := fun x hx => by
      rw [hw, frozen?_grow _ _ _ (by rw [hz]; exact hblk), frozen?_putRow]; exact ((holds_ahead _ _ n _ _ _ HH.out) x hx).2
    have hcB : wr.cell? ⟨w.heap.size, 0, none⟩ = some (.int .u64 (R : Int)) := by rw [hw, hRr, ← hz]; exact grow_one_cell _ _ _
    have hfB : wr.frozen? ⟨w.heap.size, 0, none⟩ = false := by rw [hw, ← hz]; exact grow_one_frozen _ _ _
    have hNext : Calls Tryz.prog 136 #[.pointer (some ⟨w.heap.size, 0, none⟩)] wr fun e w' => e = .returned (.int .u64 (R' : Int)) ∧ w' = (wr.setCell ⟨w.heap.size, 0, none⟩ (.int .u64 (R' : Int))).drewN 3 := by
      rw [hR']; exact xorshift_Next_u _ _ R lR wr hcB hfB
    have HW : Hid (wr = grow (putRow encU (Sort.ahead w n) blk off dk) #[Obj.cells #[.int .u64 (r.toNat : Int)] 133]) := hw
    have HG : Hid (∀ x, G x = dk[x]!) := hG
    have HR : Hid (bpRest a L M (a + L / 4 * 2 - 1) (3 - t) t (r, dk) = bpRest a L M (a + L / 4 * 2 - 1) 3 0 (UInt64.ofNat L, d)) := hR
    have HN : Hid (R' = (xorNext r).toNat ∧ O = (xorNext r).toNat &&& (M - 1)) := by
      have e : R' = (xorNext r).toNat := by rw [hR', hRr, xorNext_toNat]
      exact ⟨e, by rw [hO, e]⟩
    clear hw hG hR hRr hR' hO
    go_wp2_with (first | (go_at_call 136; refine hNext.mono ?_; rintro e w' ⟨rfl, rfl⟩))
    ·
      have hLO : L ≤ O := by omega
      by_cases hEq : a + L / 4 * 2 - 1 + t = a + (O - L)
      all_goals
        go_region
        all_goals go_wp2
        go_roundw
        case rel =>
          refine ⟨t + 1, n + 4, xorNext r, swp dk (a + L / 4 * 2 - 1 + t) (a + (O - L)), by first | rfl | (congr 1 <;> omega), by omega, by rw [size_swp]; exact hsk, ?_, ?_⟩
          · (try rw [hEq])
            rw [HW.out, HN.out.1]
            simp only [HG.out]
            exact step_world encU w n 4 blk off dk _ _ hblk (by omega) (by omega) _ _ _
          · rw [← HR.out, bp_step a L M _ t r dk (O - L) (by omega) (by rw [← HN.out.2, if_pos (by omega)])]
        case measure => simp [intOf]; omega
    · have hLO : ¬ L ≤ O := by omega
      by_cases hEq : a + L / 4 * 2 - 1 + t = a + O
      all_goals
        go_region
        all_goals go_wp2
        go_roundw
        case rel =>
          refine ⟨t + 1, n + 4, xorNext r, swp dk (a + L / 4 * 2 - 1 + t) (a + O), by first | rfl | (congr 1 <;> omega), by omega, by rw [size_swp]; exact hsk, ?_, ?_⟩
          · (try rw [hEq])
            rw [HW.out, HN.out.1]
            simp only [HG.out]
            exact step_world encU w n 4 blk off dk _ _ hblk (by omega) (by omega) _ _ _
          · rw [← HR.out, bp_step a L M _ t r dk O (by omega) (by rw [← HN.out.2, if_neg (by omega)])]
        case measure => simp [intOf]; omega
    ·
      obtain rfl : t = 3 := by omega
      go_end0
      exact ⟨rfl, n, _, by rw [← HR.out, HW.out]; rfl⟩
theorem breakPatterns_u (blk off cap a b : Nat) (d : Array Int) (w : World) (hH : Holds encU w blk off d) (hblk : blk < w.heap.size) (hab : a ≤ b) (hb : b ≤ d.size) (hsz : d.size < 4611686018427387904) :
    Calls Tryz.prog 108 #[.slice (some ⟨blk, off, none⟩) d.size cap, .int .i64 a, .int .i64 b] w fun e w' =>
      e = .returned (.tuple #[]) ∧ ∃ n os, w' = grow (putRow encU (Sort.ahead w n) blk off (breakPatterns d a b)) os := by
  obtain ⟨L, rfl⟩ : ∃ L, b = a + L := ⟨b - a, by omega⟩
  by_cases h8 : 8 ≤ L
  · exact breakPatterns_u_go blk off cap a L d w hH hblk hb hsz h8
  · have hv : breakPatterns d a (a + L) = d := by unfold breakPatterns; simp only [Nat.add_sub_cancel_left]; rw [if_neg h8]
    rw [hv]
    have HST : Hid (w = grow (putRow encU (Sort.ahead w 0) blk off d) #[]) := by
      show _ = _
      rw [grow_empty, show Sort.ahead w 0 = w from rfl, putRow_self _ _ _ _ _ hH]
    clear hH
    go_enter Tryz.func108, Tryz.ntmps108
    go_wp2
    go_end0
    exact ⟨rfl, 0, #[], HST.out⟩
end Go.Proofs.YtnghoibkjphfmaaGreat
