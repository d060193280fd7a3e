/- Parts. -/
import Derived.Maps.OwnOps
import Derived.Maps.OwnSet
import Derived.Maps.Views
import Derived.Test.YtnkocjkkefnelaaGreatPg3
import Derived.Test.YtnkocjkkefnelaaGreatPg4
import Derived.Test.YtnkocjkkefnelaaGreatPg5
import Derived.Test.YtnkocjkkefnelaaGreatPg6
import Derived.Test.YtnkocjkkefnelaaGreatPg8
import Derived.Test.YtnkocjkkefnelaaGreatPg9
import Derived.Test.YtnkocjkkefnelaaGreatPg11
import Derived.Test.YtnkocjkkefnelaaGreatPg13
import Derived.Test.YtnkocjkkefnelaaGreatPg14
set_option linter.unusedVariables false
set_option linter.unusedSimpArgs false
set_option maxHeartbeats 4000000
set_option maxRecDepth 100000
namespace Go.Proofs.YtnkocjkkefnelaaGreat
open Go.RowKit
def evTV (e : Ev) : List TV := [.c (.int .i64 e.hart), .c (.int .i64 e.kind), .c (.int .u32 e.addr), .c (.int .u32 e.val), .c (.int .u32 e.rval), .c (.bool e.aq), .c (.bool e.rl), .c (.int .i64 e.pred), .c (.int .i64 e.succ), .c (.bool e.rsv), ints e.addrs, ints e.datas, ints e.ctrls]
def evOV (e : Ev) : OV := .ag ((evTV e).map .d)
def evsTV (l : List Ev) : TV := .sl 13 (l.map evTV)
def intRow (r : Sl × List Int) : List TV := [ints r.2]
def rowsTV (l : List (Sl × List Int)) : TV := .sl 1 (l.map intRow)
def exOV (x : Ex) : OV := .ag [.d (evsTV x.evs), .d (ints x.from_), .d (rowsTV x.order)]
def cellU (n : Int) : List TV := [.c (.int .u32 n)]
def words (l : List Int) : TV := .sl 1 (l.map cellU)
def allM (w : World) : Mem := fun b o => w.cell? ⟨b, o, none⟩
def allG (w : World) : Gh := ⟨allM w, fun _ _ => none⟩
theorem WRel.all (w : World) (N : Nat) : WRel ⟨w, fun _ => False, allG w, N⟩ (allG w) Store.nil w where
 mem _ _ _ h := h
 own k τ r hk := by cases hk
 inj k k' τ τ' β β' r r' hk := by cases hk
 keep _ _ _ := rfl
 size := Nat.le_refl _
 tape := rfl
 os := rfl
 output := rfl
 g0 := .refl _
 new _ _ _ h := Or.inl h
 bound := ⟨0, fun _ _ _ _ => rfl⟩
 low _ _ _ _ := rfl
theorem yK {M : Mem} {v : Value} (h : v.oneCell' = true) : Rep M (.c v) v := by rw [Rep]; exact ⟨rfl, h⟩
theorem IntsIn.rep {q : IntKind} {B : Nat} {w : World} {s : Sl} {l : List Int} (h : IntsIn q B w s l) (hc : s.n ≤ s.c) : Rep (allM w) (.sl 1 (l.map fun n => [TV.c (.int q n)])) (.slice s.a s.n s.c) := by
 obtain ⟨h1, h2, h3⟩ := h
 rw [Rep]
 refine ⟨s.a, s.c, by simp [h1], by simpa [h1] using hc, ?_⟩
 rcases h3 with rfl | ⟨b, off, h4, h5, h6⟩
 ·exact Or.inl rfl
 ·refine Or.inr ⟨b, off, h4, RepR.of_get fun i r hi => ?_⟩
  rw [List.getElem?_map] at hi
  obtain ⟨n, hn, rfl⟩ := Option.map_eq_some_iff.1 hi
  obtain ⟨hlt, rfl⟩ := List.getElem?_eq_some_iff.1 hn
  refine ⟨rfl, RepC.of_get fun o t ht => ?_⟩
  cases o with
  | succ o => simp at ht
  | zero =>
   simp at ht
   subst ht
   have := h6 i hlt
   rw [List.getD_eq_getElem?_getD, List.getElem?_eq_getElem hlt] at this
   exact ⟨_, by simpa [allM] using this, yK rfl⟩
open Go.RowKit Go.ChangeShapes Go.WideShapes Go.Deep
def bound60 : Nat := 1152921504606846976
def Ev.ok (e : Ev) : Prop := e.wf ∧ e.addrs.length ≤ 1152921504606846976 ∧ e.datas.length ≤ 1152921504606846976 ∧ e.ctrls.length ≤ 1152921504606846976 ∧ e.av.n = e.addrs.length ∧ e.dv.n = e.datas.length ∧ e.cv.n = e.ctrls.length
def Ex.ok (x : Ex) : Prop := x.evs.length ≤ 1152921504606846976 ∧ (∀ e ∈ x.evs, e.ok) ∧ x.from_.length ≤ 1152921504606846976 ∧ x.order.length ≤ 1152921504606846976 ∧ ∀ r ∈ x.order, r.2.length ≤ 1152921504606846976
section
variable {H : Type} {enc : TypeId × Value → H} {W : World} {sp : Nat → Bool} {held : Bool}
theorem bK {k : IntKind} {t e : TypeId} {fuel : Nat} {cs : List Value} {x : DataW H × List MemPlace} (ht : Tryz.prog.underlying t = some (.slice e)) (he : Tryz.prog.underlying e = some (.int k)) (hc : Tryz.prog.cellsOf e = 1) (hby : 1 ≤ Tryz.prog.bytesOf e)
  (h : DataW.trod enc Tryz.prog W 0 sp held fuel t cs = some x) (hw : ∀ n ∈ x.1.weights Tryz.prog t, n ≤ reachBytes) :
  ∃ (v : Value) (l : List Int), cs = [v] ∧ Rep (allM W) (.sl 1 (l.map fun n => [TV.c (.int k n)])) v ∧ l.length ≤ 1152921504606846976 ∧ (∀ z ∈ l, (Lit.int k z).wf = true) := by
 obtain ⟨s, l, e1, e2, e3⟩ := ints_in ht he hc hby h hw
 refine ⟨_, l, e1, e2.rep ?_, e2.2.1, e3⟩
 rcases open_ints ht he hc h with ⟨rfl, rfl⟩ | ⟨a, len, cap, zs, rfl, hb, hl, _⟩
 ·simp only [List.cons.injEq, Value.slice.injEq, and_true] at e1; omega
 ·simp only [List.cons.injEq, Value.slice.injEq, and_true] at e1; omega
theorem evt_rep {fuel : Nat} {cs : List Value} {x : DataW H × List MemPlace} (hlen : cs.length = 13) (h : DataW.trod enc Tryz.prog W 0 sp held fuel 40 cs = some x) (hw : ∀ n ∈ x.1.weights Tryz.prog 40, n ≤ reachBytes) :
  ∃ e : Ev, (∀ (j : Nat) (t : TV), (evTV e)[j]? = some t → ∃ v, cs[j]? = some v ∧ Rep (allM W) t v) ∧ e.ok := by
 obtain ⟨xs, n, _, rfl, _, hxl, hf⟩ := DataW.trod_struct Tryz.underlying40 h
 obtain ⟨c0, c1, c2, c3, c4, c5, c6, c7, c8, c9, c10, c11, c12, rfl⟩ := list13 hlen
 have hxl : xs.length = 13 := hxl
 have wx : ∀ (i : Nat) (y : DataW H × List MemPlace), xs[i]? = some y → (xs.map (·.1))[i]? = some y.1 := fun i y hy => by simp [hy]
 obtain ⟨x0, g0⟩ := yA hxl 0 (by decide)
 have t0 := hf 0 ⟨"Hart", 3, 0, false, "", "", 0⟩ rfl
 rw [g0] at t0
 rw [xL, zS (i := 0) rfl] at t0
 obtain ⟨x1, g1⟩ := yA hxl 1 (by decide)
 have t1 := hf 1 ⟨"Kind", 37, 1, false, "", "", 8⟩ rfl
 rw [g1] at t1
 rw [cells_kind, zS (i := 1) rfl] at t1
 obtain ⟨x2, g2⟩ := yA hxl 2 (by decide)
 have t2 := hf 2 ⟨"Addr", 38, 2, false, "", "", 16⟩ rfl
 rw [g2] at t2
 rw [fS, zS (i := 2) rfl] at t2
 obtain ⟨x3, g3⟩ := yA hxl 3 (by decide)
 have t3 := hf 3 ⟨"Value", 38, 3, false, "", "", 20⟩ rfl
 rw [g3] at t3
 rw [fS, zS (i := 3) rfl] at t3
 obtain ⟨x4, g4⟩ := yA hxl 4 (by decide)
 have t4 := hf 4 ⟨"ReadValue", 38, 4, false, "", "", 24⟩ rfl
 rw [g4] at t4
 rw [fS, zS (i := 4) rfl] at t4
 obtain ⟨x5, g5⟩ := yA hxl 5 (by decide)
 have t5 := hf 5 ⟨"Aq", 4, 5, false, "", "", 28⟩ rfl
 rw [g5] at t5
 rw [dH, zS (i := 5) rfl] at t5
 obtain ⟨x6, g6⟩ := yA hxl 6 (by decide)
 have t6 := hf 6 ⟨"Rl", 4, 6, false, "", "", 29⟩ rfl
 rw [g6] at t6
 rw [dH, zS (i := 6) rfl] at t6
 obtain ⟨x7, g7⟩ := yA hxl 7 (by decide)
 have t7 := hf 7 ⟨"Pred", 3, 7, false, "", "", 32⟩ rfl
 rw [g7] at t7
 rw [xL, zS (i := 7) rfl] at t7
 obtain ⟨x8, g8⟩ := yA hxl 8 (by decide)
 have t8 := hf 8 ⟨"Succ", 3, 8, false, "", "", 40⟩ rfl
 rw [g8] at t8
 rw [xL, zS (i := 8) rfl] at t8
 obtain ⟨x9, g9⟩ := yA hxl 9 (by decide)
 have t9 := hf 9 ⟨"Reserved", 4, 9, false, "", "", 48⟩ rfl
 rw [g9] at t9
 rw [dH, zS (i := 9) rfl] at t9
 obtain ⟨x10, g10⟩ := yA hxl 10 (by decide)
 have t10 := hf 10 ⟨"Addrs", 23, 10, false, "", "", 56⟩ rfl
 rw [g10] at t10
 rw [aK, zS (i := 10) rfl] at t10
 obtain ⟨x11, g11⟩ := yA hxl 11 (by decide)
 have t11 := hf 11 ⟨"Datas", 23, 11, false, "", "", 80⟩ rfl
 rw [g11] at t11
 rw [aK, zS (i := 11) rfl] at t11
 obtain ⟨x12, g12⟩ := yA hxl 12 (by decide)
 have t12 := hf 12 ⟨"Ctrls", 23, 12, false, "", "", 104⟩ rfl
 rw [g12] at t12
 rw [aK, zS (i := 12) rfl] at t12
 obtain ⟨z0, e0, _, w0⟩ := DataW.trod_int Tryz.underlying3 t0
 obtain ⟨z1, e1, _, w1⟩ := DataW.trod_int Tryz.underlying37 t1
 obtain ⟨z2, e2, _, w2⟩ := DataW.trod_int Tryz.underlying38 t2
 obtain ⟨z3, e3, _, w3⟩ := DataW.trod_int Tryz.underlying38 t3
 obtain ⟨z4, e4, _, w4⟩ := DataW.trod_int Tryz.underlying38 t4
 obtain ⟨z5, e5, _⟩ := DataW.trod_bool Tryz.underlying4 t5
 obtain ⟨z6, e6, _⟩ := DataW.trod_bool Tryz.underlying4 t6
 obtain ⟨z7, e7, _, w7⟩ := DataW.trod_int Tryz.underlying3 t7
 obtain ⟨z8, e8, _, w8⟩ := DataW.trod_int Tryz.underlying3 t8
 obtain ⟨z9, e9, _⟩ := DataW.trod_bool Tryz.underlying4 t9
 obtain ⟨v10, l10, e10, i10, n10⟩ := bK Tryz.underlying23 Tryz.underlying3 xL aA t10 (zR Tryz.underlying40 hw (i := 10) rfl (wx _ _ g10))
 obtain ⟨v11, l11, e11, i11, n11⟩ := bK Tryz.underlying23 Tryz.underlying3 xL aA t11 (zR Tryz.underlying40 hw (i := 11) rfl (wx _ _ g11))
 obtain ⟨v12, l12, e12, i12, n12⟩ := bK Tryz.underlying23 Tryz.underlying3 xL aA t12 (zR Tryz.underlying40 hw (i := 12) rfl (wx _ _ g12))
 simp only [List.cons.injEq, and_true] at e0 e1 e2 e3 e4 e5 e6 e7 e8 e9 e10 e11 e12
 refine ⟨⟨z0, z1, z2, z3, z4, z5, z6, z7, z8, z9, ⟨none, l10.length, 0⟩, ⟨none, l11.length, 0⟩, ⟨none, l12.length, 0⟩, l10, l11, l12⟩, ?_, ⟨mH w0, mH w1, pT w2, pT w3, pT w4, mH w7, mH w8⟩, n10.1, n11.1, n12.1, rfl, rfl, rfl⟩
 rw [e0, e1, e2, e3, e4, e5, e6, e7, e8, e9, e10, e11, e12]
 intro j t ht
 match j, ht with
 | 0, ht => cases ht; exact ⟨_, rfl, yK rfl⟩
 | 1, ht => cases ht; exact ⟨_, rfl, yK rfl⟩
 | 2, ht => cases ht; exact ⟨_, rfl, yK rfl⟩
 | 3, ht => cases ht; exact ⟨_, rfl, yK rfl⟩
 | 4, ht => cases ht; exact ⟨_, rfl, yK rfl⟩
 | 5, ht => cases ht; exact ⟨_, rfl, yK rfl⟩
 | 6, ht => cases ht; exact ⟨_, rfl, yK rfl⟩
 | 7, ht => cases ht; exact ⟨_, rfl, yK rfl⟩
 | 8, ht => cases ht; exact ⟨_, rfl, yK rfl⟩
 | 9, ht => cases ht; exact ⟨_, rfl, yK rfl⟩
 | 10, ht => cases ht; exact ⟨_, rfl, i10⟩
 | 11, ht => cases ht; exact ⟨_, rfl, i11⟩
 | 12, ht => cases ht; exact ⟨_, rfl, i12⟩
 | n + 13, ht => cases ht
theorem evts_rep {fuel : Nat} {cs : List Value} {x : DataW H × List MemPlace} (h : DataW.trod enc Tryz.prog W 0 sp held fuel 22 cs = some x) (hw : ∀ n ∈ x.1.weights Tryz.prog 22, n ≤ reachBytes) :
  ∃ (v : Value) (l : List Ev), cs = [v] ∧ Rep (allM W) (evsTV l) v ∧ l.length ≤ 1152921504606846976 ∧ ∀ e ∈ l, e.ok := by
 rcases open_slice Tryz.underlying22 h with ⟨rfl, rfl⟩ | ⟨a, len, cap, m, n, D, Pl, rfl, hb, hl, hm, hmm, rfl, hx⟩
 ·exact ⟨_, [], rfl, by unfold evsTV; rw [Rep]; exact ⟨none, 0, rfl, Nat.le_refl _, Or.inl rfl⟩, by simp, by simp⟩
 ·have hle : len ≤ m := by rw [hmm]; split <;> omega
  obtain ⟨hwt, hwe⟩ := mJ Tryz.underlying22 hw
  rw [cells_ev] at hx
  obtain ⟨E, hE⟩ := choose_lt (α := Ev) (n := len) (p := fun i e => e.ok ∧ ∀ (j : Nat) (t : TV), (evTV e)[j]? = some t → ∃ v, W.cell? (a.add (i * 13 + j)) = some v ∧ Rep (allM W) t v) (fun i hi => by
   obtain ⟨cs', h1, h2⟩ := hx i (by omega)
   obtain ⟨_, h3, h4⟩ := World.cells?_some h1
   obtain ⟨e, he, hok⟩ := evt_rep h3 h2 (hwe _ (by simp only [List.mem_map, List.mem_range]; exact ⟨i, hi, rfl⟩))
   refine ⟨e, hok, fun j t hj => ?_⟩
   have hj13 : j < 13 := (List.getElem?_eq_some_iff.1 hj).1
   obtain ⟨v, h5, h6⟩ := he j t hj
   have := h4 j hj13
   rw [add_add, h5] at this
   exact ⟨v, this, h6⟩)
  have hL : ((List.range len).map E).length = len := by simp
  refine ⟨_, (List.range len).map E, rfl, ?_, ?_, ?_⟩
  ·unfold evsTV
   rw [Rep]
   refine ⟨some a, cap, by simp, by simpa using hl, ?_⟩
   by_cases h0 : len = 0
   ·left; subst h0; simp
   ·right
    obtain ⟨_, g0⟩ := hE 0 (by omega)
    obtain ⟨v0, g0, _⟩ := g0 0 _ rfl
    obtain ⟨hs, _⟩ := yQ g0
    have ea := mT (a := a) hs
    refine ⟨a.block, a.off, by rw [← ea], RepR.of_get fun i r hi => ?_⟩
    rw [List.getElem?_map] at hi
    obtain ⟨e, he, rfl⟩ := Option.map_eq_some_iff.1 hi
    obtain ⟨hlt, rfl⟩ := List.getElem?_eq_some_iff.1 he
    rw [hL] at hlt
    simp only [List.getElem_map, List.getElem_range]
    refine ⟨rfl, RepC.of_get fun o t ht => ?_⟩
    obtain ⟨v, g1, g2⟩ := (hE i hlt).2 o t ht
    rw [ea, add_plain] at g1
    exact ⟨v, by rw [Nat.add_assoc]; exact g1, g2⟩
  ·rw [hL]
   simp only [List.length_map, List.length_range] at hwt
   have h2 : len ≤ (len + (m - len)) * Tryz.prog.bytesOf 40 := by
    refine Nat.le_trans ?_ (Nat.le_mul_of_pos_right _ (by have := bytes_ev; omega)); omega
   unfold reachBytes at hwt
   omega
  ·intro e he
   obtain ⟨i, hi, rfl⟩ := List.mem_map.1 he
   exact (hE i (List.mem_range.1 hi)).1
theorem rows_rep {fuel : Nat} {cs : List Value} {x : DataW H × List MemPlace} (h : DataW.trod enc Tryz.prog W 0 sp held fuel 24 cs = some x) (hw : ∀ n ∈ x.1.weights Tryz.prog 24, n ≤ reachBytes) :
  ∃ (v : Value) (l : List (Sl × List Int)), cs = [v] ∧ Rep (allM W) (rowsTV l) v ∧ l.length ≤ 1152921504606846976 ∧ ∀ r ∈ l, r.2.length ≤ 1152921504606846976 := by
 rcases open_slice1 Tryz.underlying24 aK h with ⟨rfl, rfl⟩ | ⟨a, len, cap, m, n, V, D, Pl, rfl, hb, hl, hm, hmm, rfl, hx⟩
 ·exact ⟨_, [], rfl, by unfold rowsTV; rw [Rep]; exact ⟨none, 0, rfl, Nat.le_refl _, Or.inl rfl⟩, by simp, by simp⟩
 ·have hle : len ≤ m := by rw [hmm]; split <;> omega
  obtain ⟨hwt, hwe⟩ := mJ Tryz.underlying24 hw
  obtain ⟨E, hE⟩ := choose_lt (α := Sl × List Int) (n := len) (p := fun i r => r.2.length ≤ 1152921504606846976 ∧ ∃ v, W.cell? (a.add i) = some v ∧ Rep (allM W) (ints r.2) v) (fun i hi => by
   obtain ⟨h1, h2⟩ := hx i (by omega)
   obtain ⟨v, l, e1, e2, e3, _⟩ := bK Tryz.underlying23 Tryz.underlying3 xL aA h2 (hwe _ (by simp only [List.mem_map, List.mem_range]; exact ⟨i, hi, rfl⟩))
   simp only [List.cons.injEq, and_true] at e1
   rw [e1] at h1
   exact ⟨(⟨none, l.length, 0⟩, l), e3, v, h1, e2⟩)
  have hL : ((List.range len).map E).length = len := by simp
  refine ⟨_, (List.range len).map E, rfl, ?_, ?_, ?_⟩
  ·unfold rowsTV
   rw [Rep]
   refine ⟨some a, cap, by simp, by simpa using hl, ?_⟩
   by_cases h0 : len = 0
   ·left; subst h0; simp
   ·right
    obtain ⟨_, v0, g0, _⟩ := hE 0 (by omega)
    obtain ⟨hs, _⟩ := yQ g0
    have ea := mT (a := a) hs
    refine ⟨a.block, a.off, by rw [← ea], RepR.of_get fun i r hi => ?_⟩
    rw [List.getElem?_map] at hi
    obtain ⟨e, he, rfl⟩ := Option.map_eq_some_iff.1 hi
    obtain ⟨hlt, rfl⟩ := List.getElem?_eq_some_iff.1 he
    rw [hL] at hlt
    simp only [List.getElem_map, List.getElem_range]
    refine ⟨rfl, RepC.of_get fun o t ht => ?_⟩
    cases o with
    | succ o => simp [intRow] at ht
    | zero =>
     simp [intRow] at ht
     subst ht
     obtain ⟨v, g1, g2⟩ := (hE i hlt).2
     rw [ea, add_plain] at g1
     exact ⟨v, by simpa [allM] using g1, g2⟩
  ·rw [hL]
   simp only [List.length_map, List.length_range] at hwt
   have h2 : len ≤ (len + (m - len)) * Tryz.prog.bytesOf 23 := by
    refine Nat.le_trans ?_ (Nat.le_mul_of_pos_right _ (by have := bytes_ints; omega)); omega
   unfold reachBytes at hwt
   omega
  ·intro e he
   obtain ⟨i, hi, rfl⟩ := List.mem_map.1 he
   exact (hE i (List.mem_range.1 hi)).1
set_option maxRecDepth 100000 in
theorem exec_rep {r : Reach} {b0 : Nat} {v : Value} {d : DataW H} {p : List MemPlace} (hv : Value.okWide Tryz.prog W r b0 26 v) (h : DataW.Trod enc Tryz.prog W 0 sp held 26 v d p) (hw : ∀ n ∈ d.weights Tryz.prog 26, n ≤ reachBytes) :
  ∃ x : Ex, RepO (allG W) (exOV x) v ∧ x.ok := by
 obtain ⟨v0, v1, v2, y0, y1, y2, n, rfl, rfl, rfl, h0, h1, h2⟩ := Go.Joins.open_agg3 Tryz.underlying26 (by kernel_rfl) (by kernel_rfl) hv h
 obtain ⟨s0, l0, e0, i0, n0, m0⟩ := evts_rep h0 (zR Tryz.underlying26 hw (i := 0) rfl rfl)
 obtain ⟨s1, l1, e1, i1, n1, _⟩ := bK Tryz.underlying23 Tryz.underlying3 xL aA h1 (zR Tryz.underlying26 hw (i := 1) rfl rfl)
 obtain ⟨s2, l2, e2, i2, n2, m2⟩ := rows_rep h2 (zR Tryz.underlying26 hw (i := 2) rfl rfl)
 simp only [List.cons.injEq, and_true] at e0 e1 e2
 refine ⟨⟨default, default, default, l0, l1, l2⟩, ?_, n0, m0, n1, n2, m2⟩
 unfold exOV
 rw [RepO]
 refine ⟨_, rfl, ?_⟩
 rw [e0, e1, e2, RepOL]
 refine ⟨_, _, rfl, by rw [RepO]; exact i0, ?_⟩
 rw [RepOL]
 refine ⟨_, _, rfl, by rw [RepO]; exact i1, ?_⟩
 rw [RepOL]
 exact ⟨_, _, rfl, by rw [RepO]; exact i2, by rw [RepOL]⟩
end
theorem FnR.calls {f : FuncId} {args : List OV} {b : Bool} (h : Pure Tryz.prog f args (.bool b)) {w : World} {vs : List Value} (hv : RepOL (allG w) args vs) :
  Calls Tryz.prog f vs.toArray w fun e w' => e = .returned (.bool b) ∧ Below w.heap.size w w' :=
 (h.2 (allG w) w vs 0 hv (WRel.all w 0)).mono fun e w' ⟨x, G', r, σ', h1, h2, h3, h4, h5⟩ => by
  subst h2
  rw [vO h4] at h1
  exact ⟨h1, ⟨h5.os, h5.tape, h5.output, h5.size, fun k hk => h5.keep k hk (fun e => e)⟩⟩
set_option maxRecDepth 100000
def pairO' (p : Int × Int) : List OV := [.int .i64 p.1, .int .i64 p.2]
def pairYs (l : List (Int × Int)) : List (List OV) := l.map fun p => [.ag (pairO' p)]
theorem dA (l : List (Int × Int)) {i : Nat} (h : i < l.length) : (pairYs l).getD i [] = [.ag (pairO' (l.getD i default))] := by
 unfold pairYs
 rw [List.getD_eq_getElem?_getD, List.getElem?_map, List.getD_eq_getElem?_getD, List.getElem?_eq_getElem h]
 rfl
theorem vZ {α : Type} (l : List α) (d : α) (k : Nat) (h : k < l.length) : l.take (k + 1) = l.take k ++ [l.getD k d] := by
 rw [List.take_succ_eq_append_getElem h, List.getD_eq_getElem?_getD, List.getElem?_eq_getElem h]; rfl
theorem LeafR.pairs' (l : List (Int × Int)) : LeafR (l.map pairO') := LeafR.map l fun a y hy => by
 simp only [pairO', List.mem_cons, List.not_mem_nil, or_false] at hy
 rcases hy with rfl | rfl <;> rfl
set_option maxHeartbeats 4000000 in
theorem appendSeq_p {y : OV} {f : FuncId} {fi ca : List OV} (hf : IsFn y f fi ca) (l : List (Int × Int)) (hl : l.length ≤ 1073741824) (hs : SeqW E.P f fi ca (pairYs l)) :
  Own E.P 111 [.d (.c (.slice none 0 0)), y] 2 (l.map pairO') := by
 have k2 : KeyOf 2 1002 := ⟨trivial⟩
 have k11 : KeyOf 11 1011 := ⟨trivial⟩
 have k9 : KeyOf 5 1005 := ⟨trivial⟩
 refine fnA Tryz.func111 Tryz.ntmps111 ?_
 refine awp_own0 (d := 0) 1011 2 rfl fun τ => ?_
 refine run ?_; refine aoR fun _ => ?_
 refine run ?_; refine aoR fun _ => ?_
 refine run ?_; rotate_left
 rename_i v0 _
 refine fT (X := Nat × Stamp) rfl hf hs (fun p => [(1002, ((v0, 0), ⟨1, [[.os 1011 p.2 2 p.1]]⟩)), (1011, (p.2, ⟨2, (l.take p.1).map pairO'⟩))]) (fun i p => p.1 = i ∧ i ≤ l.length) (0, τ) ⟨rfl, Nat.zero_le _⟩ l.length .normal rfl (by simp [pairYs]) (fun _ => by simp [pairYs]) (fun h => (h rfl).elim)
  (tmL [(2, .lo 1002 (v0, 0) 1 0 0)]) leP rfl (by decide) (fun i hi => by rw [dA _ hi]; rfl) leP (fun p => by simp) (fun p => by simp) ?_ ?_
 ·rintro i ⟨j, τ'⟩ hi ⟨rfl, hj⟩
  dsimp only at hi hj ⊢
  rw [dA _ hi]
  have hlen : (l.take j).length = j := by simp; omega
  refine aoR fun _ => ?_; refine run ?_
  rotate_left
  refine ⟨rfl, ?_⟩
  have hleaf := LeafR.pairs'
  refine run ?_; refine aoR fun _ => ?_
  refine run ?_; rotate_left
  rename_i v
  refine ⟨by cases (j + 1 == l.length) <;> rfl, (j + 1, (v, 3)), ⟨rfl, by omega⟩, uV rfl ?_ (uV rfl ?_ (vJ _))⟩
  ·refine congrArg (fun n => [[OV.os 1011 (v, 3) 2 n]]) ?_
   show (List.map pairO' (List.take j l)).length + 1 = j + 1
   rw [List.length_map, hlen]
  ·rw [vZ l default j hi, List.map_append]; rfl
 ·rintro ⟨j, τ'⟩ ⟨rfl, hj⟩
  dsimp only
  refine run ?_; refine aoR fun _ => ?_
  refine run ?_; rotate_left
  refine wO (d := 4) rfl rfl ?_ ?_
  ·rw [List.take_length]
  ·simp
set_option maxRecDepth 100000
open Go.RowKit Go.Shelf Go.Maps Go.Sort
def smallP (l : List (Int × Int)) : Prop := ∀ p ∈ l, 0 ≤ p.1 ∧ p.1 < 65536 ∧ 0 ≤ p.2 ∧ p.2 < 65536
def toI (x : P2) : Int × Int := ((x.1.val : Int), (x.2.val : Int))
theorem nP : ∀ {l : List (Int × Int)}, smallP l → ∃ d : List P2, l = d.map toI
 | [], _ => ⟨[], rfl⟩
 | (a, b) :: l, h => by
  obtain ⟨d, hd⟩ := nP (l := l) fun p hp => h p (by simp [hp])
  obtain ⟨h1, h2, h3, h4⟩ := h (a, b) (by simp)
  dsimp only at h1 h2 h3 h4
  refine ⟨(⟨a.toNat, by omega⟩, ⟨b.toNat, by omega⟩) :: d, ?_⟩
  rw [List.map_cons, ← hd]
  refine congrArg (· :: l) ?_
  unfold toI
  dsimp only
  rw [Int.toNat_of_nonneg h1, Int.toNat_of_nonneg h3]
def ltZ (x y : Int × Int) : Bool := decide (x.1 < y.1 ∨ (x.1 = y.1 ∧ x.2 < y.2))
def sortZ (l : List (Int × Int)) : List (Int × Int) := l.mergeSort (fun x y => !ltZ y x)
theorem fA (d : List P2) : (sortP d).map toI = sortZ (d.map toI) := by
 unfold sortP sortZ
 refine List.map_mergeSort fun a _ b _ => ?_
 unfold ltP ltZ toI
 congr 1
 refine decide_eq_decide.2 ?_
 dsimp only
 omega
theorem nZ {G : Gh} {p : Int × Int} {o : Nat} {y : OV} {v : Value} (hy : (pairO' p)[o]? = some y) (hv : RepO G y v) : v = (if o = 0 then Value.int .i64 p.1 else .int .i64 p.2) := by
 match o, hy with
 | 0, hy => simp [pairO'] at hy; subst hy; rw [RepO, Rep] at hv; exact hv.1
 | 1, hy => simp [pairO'] at hy; subst hy; rw [RepO, Rep] at hv; exact hv.1
theorem rowAt_flat {G : Gh} {cs : Array Value} {d : List P2} (h : RowAt G cs ⟨2, (d.map toI).map pairO'⟩) (hl : d.length * 2 ≤ cs.size) : cs.toList.take (d.length * 2) = flatP d := by
 apply List.ext_getElem?
 intro t
 by_cases ht : t < d.length * 2
 ·have hi : t / 2 < d.length := by omega
  rw [zY d t ht, List.getElem?_take_of_lt ht, Array.getElem?_toList]
  obtain ⟨_, h2⟩ := h (t / 2) (pairO' (toI (d.getD (t / 2) default))) (by simp [List.getD, hi])
  have hm : t % 2 = 0 ∨ t % 2 = 1 := by omega
  rcases hm with hm | hm
  ·obtain ⟨v, h3, h4⟩ := h2 0 _ rfl
   have h5 := nZ (p := toI (d.getD (t / 2) default)) (o := 0) rfl h4
   dsimp only at h3
   rw [show t / 2 * 2 + 0 = t by omega] at h3
   rw [h3, h5, hm]; rfl
  ·obtain ⟨v, h3, h4⟩ := h2 1 _ rfl
   have h5 := nZ (p := toI (d.getD (t / 2) default)) (o := 1) rfl h4
   dsimp only at h3
   rw [show t / 2 * 2 + 1 = t by omega] at h3
   rw [h3, h5, hm]; rfl
 ·rw [List.getElem?_take_eq_none (by omega), List.getElem?_eq_none (by rw [eL]; omega)]
theorem flat_rowAt {G : Gh} {cs : Array Value} {d : List P2} (h : cs.toList.take (d.length * 2) = flatP d) : RowAt G cs ⟨2, (d.map toI).map pairO'⟩ := fun i row hi => by
 have hlt : i < d.length := by
  rcases Nat.lt_or_ge i d.length with hh | hh
  ·exact hh
  ·rw [List.getElem?_eq_none (by simpa using hh)] at hi; cases hi
 have hrow : row = pairO' (toI (d.getD i default)) := by
  simp [List.getD, hlt] at hi ⊢; exact hi.symm
 subst hrow
 refine ⟨rfl, fun o y hy => ?_⟩
 have get : ∀ t, t < d.length * 2 → cs[t]? = some ((encP (d.getD (t / 2) default))[t % 2]!) := fun t ht => by
  rw [← zY d t ht, ← h, List.getElem?_take_of_lt ht, Array.getElem?_toList]
 have e0 := get (i * 2) (by omega)
 have e1 := get (i * 2 + 1) (by omega)
 rw [show i * 2 / 2 = i by omega, show i * 2 % 2 = 0 by omega] at e0
 rw [show (i * 2 + 1) / 2 = i by omega, show (i * 2 + 1) % 2 = 1 by omega] at e1
 match o, hy with
 | 0, hy => simp [pairO'] at hy; subst hy; exact ⟨_, e0, by rw [RepO, Rep]; exact ⟨rfl, rfl⟩⟩
 | 1, hy => simp [pairO'] at hy; subst hy; exact ⟨_, e1, by rw [RepO, Rep]; exact ⟨rfl, rfl⟩⟩
theorem yM (l : List (Int × Int)) : (sortZ l).length = l.length := List.length_mergeSort _
theorem sortFunc_w (k : Nat) (τ : Stamp) (l : List (Int × Int)) (hs : smallP l) (hl : l.length ≤ 1073741824) :
  FnW E.P 95 [.os k τ 2 l.length, .fn 106 [] []] (stL [(k, (τ, ⟨2, l.map pairO'⟩))]) (IsW (.tu []) (stL [(k, (τ, ⟨2, (sortZ l).map pairO'⟩))])) := by
 refine ⟨⟨_, Tryz.func95, by decide, rfl⟩, fun G w vs N hv hw => ?_⟩
 obtain ⟨d, rfl⟩ := nP hs
 rw [RepOL] at hv
 obtain ⟨x1, us, rfl, h1, hv⟩ := hv
 rw [RepOL] at hv
 obtain ⟨x2, us, rfl, h2, hv⟩ := hv
 rw [RepOL] at hv
 subst hv
 rw [RepO] at h2
 obtain ⟨f1, f2, rfl, hf1, hf2⟩ := h2
 rw [RepOL] at hf1 hf2
 have hf1 : f1 = #[] := Array.toList_eq_nil_iff.1 hf1
 have hf2 : f2 = #[] := Array.toList_eq_nil_iff.1 hf2
 subst hf1 hf2
 have hk : stL [(k, (τ, (⟨2, (d.map toI).map pairO'⟩ : Row)))] k = some (τ, ⟨2, (d.map toI).map pairO'⟩) := by simp [stL]
 have htu : RepO G (.tu []) (.tuple #[]) := by rw [RepO]; exact ⟨#[], rfl, by rw [RepOL]⟩
 rw [RepO] at h1
 rcases h1 with ⟨β, c, hμ, rfl, hc1, hc2, hc3⟩ | ⟨hμ, rfl, hn⟩
 ·obtain ⟨cs, hb, hsz, hrl, hrow⟩ := hw.blk hk hμ
  have hlen : (d.map toI).length = d.length := by simp
  rw [hlen] at hc1 ⊢
  simp only [List.length_map] at hrl
  have hflat := rowAt_flat hrow (by rw [hsz]; exact hrl)
  have hF : (flatK encP 2 d.toArray).size = d.length * 2 := by simp
  have hH : HoldsK encP 2 w β.b 0 d.toArray := aU hb (by rw [hF, yP]; exact hflat)
  have hlt : β.b < w.heap.size := (Array.getElem?_eq_some_iff.1 hb).1
  have cS := sortPairs_c β.b 0 c d.toArray w hH hlt (by simp; simp at hl; omega)
  rw [List.size_toArray] at cS
  refine cS.mono ?_
  rintro e w' ⟨rfl, d', nn, os, hp, hso, rfl⟩
  have hd : d'.size = d.length := by have := hp.1; simpa using this
  have hsort : d'.toList = sortP d := dV d.toArray d' (by simpa using hp) (by simpa using hso)
  have hF2 : (flatK encP 2 d').size = d.length * 2 := by simp [hd]
  have hg := aV (w := w) (g := β.b) (n := nn) (os := os) (flatK encP 2 d')
  have hb' := eG (n := nn) (os := os) (flatK encP 2 d') hb
  have hsd : (sortP d).length = d.length := by rw [← hsort]; simp [hd]
  have hpl : (putCells id 0 (flatK encP 2 d') cs).size = cs.size := by simp [putCells]
  refine ⟨_, G, .tu [], _, rfl, ⟨rfl, ?le⟩, .refl _, htu, hw.put (r' := ⟨2, (sortZ (d.map toI)).map pairO'⟩) hk hμ hg.size hg.tape hg.os hg.output (fun b hb1 hne => hg.block b hb1 (fun e => hne (Option.some.inj e))) ⟨_, hb', by rw [hpl, hsz], by rw [← fA]; simp [hsd]; omega, ?_⟩⟩
  case le =>
   intro t y hy
   unfold stL at hy
   cases hbq : Nat.beq t k with
   | true => rw [hbq] at hy; cases hy; rw [Nat.eq_of_beq_eq_true hbq]; exact Store.put_self _ _ _
   | false => rw [hbq] at hy; cases hy
  ·rw [← fA]
   refine flat_rowAt ?_
   rw [hsd, ← hF2, aX cs _ (by rw [hF2, hsz]; exact hrl), ← hsort, ← yP]
 ·have hd : d = [] := by
   have : d.length = 0 := by simpa using hn
   exact List.eq_nil_of_length_eq_zero this
  subst hd
  refine (aZ none 0 (.func (.func 106) #[] #[]) w).mono ?_
  rintro e w' ⟨rfl, rfl⟩
  refine ⟨_, G, .tu [], _, rfl, ⟨rfl, ?_⟩, .refl _, htu, hw⟩
  have : sortZ (([] : List P2).map toI) = [] := by simp [sortZ]
  rw [this]
  exact fun t y h => h
theorem gE {l : List (Int × Int)} (h : smallP l) : smallP (sortZ l) := fun p hp => h p ((List.mergeSort_perm l _).mem_iff.1 hp)
set_option maxHeartbeats 4000000 in
theorem collect_s {y : OV} {f : FuncId} {fi ca : List OV} (hf : IsFn y f fi ca) (l : List (Int × Int)) (hl : l.length ≤ 1073741824) (hs : SeqW E.P f fi ca (pairYs l)) :
  Own E.P 94 [y] 2 (l.map pairO') := by
 refine fnA Tryz.func94 Tryz.ntmps94 ?_
 refine run ?_; refine aoR fun _ => ?_
 refine run ?_; refine aoR fun _ => ?_
 refine run ?_
 apply eX; exact rfl; exact .fn _ _ _; exact rfl; exact appendSeq_p hf l hl hs
 refine run ?_; rotate_left
 exact wO (d := 2) rfl rfl rfl rfl
theorem sortFunc_w' (k : Nat) (τ : Stamp) (l : List (Int × Int)) (hs : smallP l) (hl : l.length ≤ 1073741824) :
  FnW E.P 95 [.os k τ 2 (l.map pairO').length, .fn 106 [] []] (stL [(k, (τ, ⟨2, l.map pairO'⟩))]) (IsW (.tu []) (stL [(k, (τ, ⟨2, (sortZ l).map pairO'⟩))])) := by
 rw [List.length_map]; exact sortFunc_w k τ l hs hl
set_option maxHeartbeats 4000000 in
theorem sortedFunc_s {y : OV} {f : FuncId} {fi ca : List OV} (hf : IsFn y f fi ca) (l : List (Int × Int)) (hsm : smallP l) (hl : l.length ≤ 1073741824) (hs : SeqW E.P f fi ca (pairYs l)) :
  Own E.P 66 [y, .fn 106 [] []] 2 ((sortZ l).map pairO') := by
 refine fnA Tryz.func66 Tryz.ntmps66 ?_
 refine run ?_; refine aoR fun _ => ?_
 refine run ?_; refine aoR fun _ => ?_
 refine run ?_
 apply eX; exact rfl; exact .fn _ _ _; exact rfl; exact collect_s hf l hl hs
 refine run ?_; refine aoR fun _ => ?_
 refine run ?_
 apply mY; exact rfl; exact .fn _ _ _; exact rfl; exact sortFunc_w' _ _ l hsm hl; exact leP; exact rfl; simp
 refine run ?_; refine aoR fun _ => ?_
 refine run ?_; rotate_left
 refine wO (d := 4) rfl rfl rfl ?_
 simp [yM]
set_option maxHeartbeats 4000000 in
theorem hZ {y : OV} {f : FuncId} {fi ca : List OV} (hf : IsFn y f fi ca) (l : List (Int × Int)) (hsm : smallP l) (hl : l.length ≤ 1073741824) (hs : SeqW E.P f fi ca (pairYs l)) :
  Own E.P 82 [y] 2 ((sortZ l).map pairO') := by
 refine fnA Tryz.func82 Tryz.ntmps82 ?_
 refine run ?_; refine aoR fun _ => ?_
 refine run ?_; refine aoR fun _ => ?_
 refine run ?_
 apply eX; exact rfl; exact .fn _ _ _; exact rfl; exact sortedFunc_s hf l hsm hl hs
 refine run ?_; rotate_left
 exact wO (d := 2) rfl rfl rfl rfl
open Go.RowKit Go.Maps Go.Sort
def addIn (a : Int) : List Int → List Int
 | [] => [a]
 | x :: r => if x < a then x :: addIn a r else if x = a then x :: r else a :: x :: r
def addrsTo (es : List Ev) : List Int := es.foldl (fun l e => if e.kind = 4 then l else addIn e.addr l) []
theorem cG (a x : Int) : ∀ l, x ∈ addIn a l ↔ x = a ∨ x ∈ l
 | [] => by simp [addIn]
 | y :: r => by
  unfold addIn
  split
  ·simp only [List.mem_cons, cG a x r]; exact or_left_comm
  ·split
   ·rename_i h1 h2; subst h2; simp
   ·simp
theorem eW (a : Int) : ∀ l : List Int, l.Pairwise (· < ·) → (addIn a l).Pairwise (· < ·)
 | [], _ => by simp [addIn]
 | y :: r, h => by
  rw [List.pairwise_cons] at h
  unfold addIn
  split
  ·rename_i h1
   rw [List.pairwise_cons]
   exact ⟨fun z hz => by rcases (cG a z r).1 hz with rfl | hz; exact h1; exact h.1 z hz, eW a r h.2⟩
  ·split
   ·exact List.pairwise_cons.2 h
   ·rename_i h1 h2
    rw [List.pairwise_cons]
    exact ⟨fun z hz => by rcases List.mem_cons.1 hz with rfl | hz; omega; have := h.1 z hz; omega, List.pairwise_cons.2 h⟩
theorem eV (es : List Ev) (e : Ev) : addrsTo (es ++ [e]) = if e.kind = 4 then addrsTo es else addIn e.addr (addrsTo es) := by
 simp [addrsTo, List.foldl_append]
theorem bQ (es : List Ev) : (addrsTo es).Pairwise (· < ·) := by
 suffices h : ∀ (es : List Ev) (l : List Int), l.Pairwise (· < ·) → (es.foldl (fun l e => if e.kind = 4 then l else addIn e.addr l) l).Pairwise (· < ·) from h es [] (by simp)
 intro es
 induction es with
 | nil => intro l h; exact h
 | cons e r ih =>
  intro l h
  rw [List.foldl_cons]
  refine ih _ ?_
  split
  ·exact h
  ·exact eW _ _ h
theorem eB (a : Int) : ∀ l : List Int, (addIn a l).length ≤ l.length + 1
 | [] => by simp [addIn]
 | y :: r => by
  unfold addIn
  split
  ·simp; exact eB a r
  ·split <;> simp
theorem xO (es : List Ev) : (addrsTo es).length ≤ es.length := by
 suffices h : ∀ (es : List Ev) (l : List Int), (es.foldl (fun l e => if e.kind = 4 then l else addIn e.addr l) l).length ≤ l.length + es.length from by simpa [addrsTo] using h es []
 intro es
 induction es with
 | nil => intro l; simp
 | cons e r ih =>
  intro l
  rw [List.foldl_cons]
  refine Nat.le_trans (ih _) ?_
  split
  ·simp
  ·have := eB e.addr l
   simp; omega
theorem sorted_same {ss l : List Int} (hn : ss.Nodup) (hl : l.Pairwise (· < ·)) (hm : ∀ x, x ∈ ss ↔ x ∈ l) : ss.mergeSort (fun x y => decide (x ≤ y)) = l := by
 have hp : ss.Perm l := (List.perm_ext_iff_of_nodup hn (hl.imp (fun h => by omega))).2 hm
 refine List.Perm.eq_of_pairwise (le := fun a b : Int => a ≤ b) (fun a b _ _ h1 h2 => by omega) ?_ (hl.imp (fun h => by omega)) ((List.mergeSort_perm ss _).trans hp)
 refine (List.pairwise_mergeSort (le := fun x y : Int => decide (x ≤ y)) (fun a b c h1 h2 => by simp at *; omega) (fun a b => by simp; omega) ss).imp ?_
 intro a b h; simpa using h
def Has (D : DataW Unit) (l : List Int) : Prop := ∀ x, has D (.int .u32 x) = true ↔ x ∈ l
theorem Has.put {D : DataW Unit} {l : List Int} (h : Has D l) (hm : IsMap D) (a : Int) (d : DataW Unit) : Has (D.put (.int .u32 a) d) (addIn a l) := by
 intro x
 rw [cG]
 by_cases hx : x = a
 ·subst hx
  simp [has_put_same hm (show WideAt.IsKeyLit (Lit.int .u32 x) from trivial)]
 ·rw [has_put_other (by simpa using hx), h x]
  simp [hx]
theorem tL (w : World) : (zeroValue 3).run Tryz.prog w = .ok (.int .i64 0) w := by kernel_rfl
theorem enters_keys : ∀ args w, (callFunc 104 args).run Tryz.prog w = .ok (.enter 104 args) w := enters_of Tryz.func104 (by kernel_rfl) rfl
theorem sortedKeys_c (hs : ∀ m, Sorts_u Fence.wide m) (b nn : Nat) (D : DataW Unit) (l : List Int) (w : World) (hown : w.ownsMap Tryz.prog 38 (plainElem Tryz.prog 3) b nn D) (hD : Has D l) (hr : l.Pairwise (· < ·)) (hn : nn ≤ 4294967296) (Bm : Nat) (hBm : Bm < w.heap.size) (hm : w.cell? ⟨Bm, 0, none⟩ = some (.map (some b))) :
  Calls Tryz.prog 74 #[.func (.func 104) #[] #[.pointer (some ⟨Bm, 0, none⟩)]] w fun e w' => ∃ v, e = .returned v ∧ w'.ownsRow w.heap.size 38 1 v l.length (l.map (Value.int .u32)) ∧ (v = .slice none 0 0 ↔ l = []) ∧ Below w.heap.size w w' := by
 refine callsIn_wide.1 ((sorted_u Fence.wide (fun _ => trivial) 5 rfl (by omega) (hs _) _ _ enters_keys KeepsWalks _ _ (Maps.size D) ?_ ?_ w walksK_t walksK_b (fun _ _ h _ => h.walks) (keys_stops Fence.wide (fun _ => trivial) _ rfl (by omega) Bm b nn D w hBm hm hown)).mono ?_)
 ·have := hown.size_le
  unfold maxLen; omega
 ·have := hown.size_le
  omega
 ·rintro e w' ⟨v, ss, rfl, ⟨hnd, hk⟩, _, hrow, hnil, hb⟩
  have e1 := sorted_same hnd hr (fun x => by rw [hk x]; exact hD x)
  have e2 : ss.length = l.length := by rw [← e1, List.length_mergeSort]
  rw [e1, e2] at hrow
  refine ⟨v, rfl, hrow, ?_, hb⟩
  rw [hnil]
  constructor
  ·intro h; subst h; exact List.length_eq_zero_iff.1 e2.symm
  ·intro h; subst h; exact List.length_eq_zero_iff.1 e2
theorem u32_wf {a : Int} (h1 : 0 ≤ a) (h2 : a < 4294967296) : (Lit.int .u32 a).wf = true := by
 simp only [Lit.wf, Bool.and_eq_true, decide_eq_true_eq]
 have e1 : IntKind.u32.min = 0 := by decide
 have e2 : IntKind.u32.max = 4294967295 := by decide
 omega
theorem iR (q : IntKind) {w : World} {base : Nat} {e : TypeId} {v : Value} {l : List Int} (hl : l.length ≤ 1152921504606846976) (h : w.ownsRow base e 1 v l.length (l.map (Value.int q))) :
  ∃ s : Sl, v = .slice s.a s.n s.c ∧ IntsIn q w.heap.size w s l := by
 rcases h.2 with ⟨rfl, hz⟩ | ⟨gb, cap, cur, rfl, hbase, hgb, r1, r2, r3, r4⟩
 ·have : l = [] := List.eq_nil_of_length_eq_zero hz
  subst this
  exact ⟨⟨none, 0, 0⟩, rfl, rfl, by simp, Or.inl rfl⟩
 ·have hH : Holds (Value.int q) w gb 0 l.toArray := xF _ hgb (by simpa using r4)
  refine ⟨⟨some ⟨gb, 0, none⟩, l.length, cap⟩, rfl, rfl, hl, Or.inr ⟨gb, 0, rfl, (Array.getElem?_eq_some_iff.1 hgb).1, fun k hk => ?_⟩⟩
  have := (hH k (by simpa using hk)).1
  rw [this]
  simp [List.getD, hk]
theorem ownsMap_below {b nn n₀ : Nat} {D : DataW Unit} {w w' : World} (h : w.ownsMap Tryz.prog 38 (plainElem Tryz.prog 3) b nn D) (hb : Below n₀ w w') (hlt : b < n₀) : w'.ownsMap Tryz.prog 38 (plainElem Tryz.prog 3) b nn D := by
 obtain ⟨es, clock, hb', Ft, hs, hD⟩ := h
 exact ⟨es, clock, (hb.block b hlt).trans hb', Ft, hs, hD⟩
set_option maxRecDepth 100000 in
set_option maxHeartbeats 2000000 in
theorem addresses_c (hs : ∀ m, Sorts_u Fence.wide m) (x : Ex) (w : World) (hx : EvsIn w.heap.size w x.es x.evs) (hlen : x.evs.length ≤ 64) :
  Calls Tryz.prog 51 #[x.agg] w fun o w' => ∃ s : Sl, o = .returned (.slice s.a s.n s.c) ∧ IntsIn .u32 w'.heap.size w' s (addrsTo x.evs) ∧ Below w.heap.size w w' := by
 obtain ⟨⟨ea, en, ec⟩, ⟨fa, fn, fc⟩, ⟨oa, on, oc⟩, evs, from_, order⟩ := x
 obtain ⟨e1, esm, hev, ecl⟩ := hx
 dsimp only at e1 esm hev ecl hlen
 subst e1
 unfold Ex.agg
 dsimp only
 have hmm := @run_makeMap Tryz.prog
 have KS := Lib.hid (fun mb w => callsIn_wide.1 (keys_u Fence.wide (fun _ => trivial) 0 rfl mb w))
 go_enter Tryz.func51, Tryz.ntmps51
 go_upto_region 1 with (fail)
 refine wK (X := fun W => Code.wp _ _ _ _ W) ?_
 intro wc hb hsz hcs
 have c0 : wc.cell? ⟨w.heap.size, 0, none⟩ = some (.slice ea evs.length ec) := hcs 0 _ rfl
 clear hcs
 have HEV := Lib.hid hev
 have HCL := Lib.hid ecl
 clear hev ecl
 go_wp2
 go_loopw [10] (fun i wr => ∃ (k nn : Nat) (D : DataW Unit), k ≤ evs.length ∧ i = .int .i64 k ∧ nn ≤ k ∧ wr.ownsMap Tryz.prog 38 (plainElem Tryz.prog 3) wc.heap.size nn D ∧ Has D (addrsTo (evs.take k)) ∧ Below wc.heap.size wc wr) (fun i _ => evs.length - (intOf i).toNat)
 case atStart => exact ⟨0, 0, .map [], by omega, rfl, by omega, World.ownsMap_made _ _ _ _, fun y => by simp [addrsTo, Maps.has], (Below.refl _ _).alloc (Nat.le_refl _) _⟩
 case round =>
  obtain ⟨k, nn, D, hk, rfl, hnn, hown, hD, hbr⟩ := hrel
  have c0r : wr.cell? ⟨w.heap.size, 0, none⟩ = some (.slice ea evs.length ec) := (hbr.cell (p := ⟨w.heap.size, 0, none⟩) hsz).trans c0
  have HD := Lib.hid hD
  clear hD hmm
  by_cases hlt : k < evs.length
  ·obtain ⟨b, off, rfl, hbB, hcl⟩ := HCL.out.resolve_left (by intro h; rw [h] at hlt; simp at hlt)
   obtain ⟨E, hE⟩ : ∃ E, evs.getD k default = E := ⟨_, rfl⟩
   have hmem : E ∈ evs := by rw [← hE, List.getD_eq_getElem?_getD, List.getElem?_eq_getElem hlt]; exact List.getElem_mem hlt
   have hwf := (HEV.out E hmem).2.2.2
   have hcE := ((hcl k hlt).below hb hbB).below hbr (show b < wc.heap.size by omega)
   rw [hE] at hcE
   unfold EvCells at hcE
   obtain ⟨q0, q1, q2, q3, q4, q5, q6, q7, q8, q9, q10, q11, q12⟩ := hcE
   have HT : Hid (addrsTo (evs.take (k + 1)) = if E.kind = 4 then addrsTo (evs.take k) else addIn E.addr (addrsTo (evs.take k))) := Lib.hid (by
    rw [← eV, List.take_succ_eq_append_getElem hlt, ← hE]; simp [List.getD, hlt])
   have hkey : keyOf Tryz.prog 38 (.int .u32 E.addr) = some (.int .u32 E.addr) := keyOf_int_mk Tryz.underlying38 (u32_wf hwf.2.2.1.1 hwf.2.2.1.2)
   clear hE hmem hwf hcl
   go_upto_region 5 with (fail)
   refine wK (X := fun W => Code.wp _ _ _ _ W) ?_
   intro w1 hb1 hs1 hcs1
   have t0 : (w1).cell? ⟨wr.heap.size, 0, none⟩ = some (Value.int IntKind.i64 E.hart) := hcs1 0 _ rfl
   have t1 : (w1).cell? ⟨wr.heap.size, 1, none⟩ = some (Value.int IntKind.i64 E.kind) := hcs1 1 _ rfl
   have t2 : (w1).cell? ⟨wr.heap.size, 2, none⟩ = some (Value.int IntKind.u32 E.addr) := hcs1 2 _ rfl
   have t3 : (w1).cell? ⟨wr.heap.size, 3, none⟩ = some (Value.int IntKind.u32 E.val) := hcs1 3 _ rfl
   have t4 : (w1).cell? ⟨wr.heap.size, 4, none⟩ = some (Value.int IntKind.u32 E.rval) := hcs1 4 _ rfl
   have t5 : (w1).cell? ⟨wr.heap.size, 5, none⟩ = some (Value.bool E.aq) := hcs1 5 _ rfl
   have t6 : (w1).cell? ⟨wr.heap.size, 6, none⟩ = some (Value.bool E.rl) := hcs1 6 _ rfl
   have t7 : (w1).cell? ⟨wr.heap.size, 7, none⟩ = some (Value.int IntKind.i64 E.pred) := hcs1 7 _ rfl
   have t8 : (w1).cell? ⟨wr.heap.size, 8, none⟩ = some (Value.int IntKind.i64 E.succ) := hcs1 8 _ rfl
   have t9 : (w1).cell? ⟨wr.heap.size, 9, none⟩ = some (Value.bool E.rsv) := hcs1 9 _ rfl
   have t10 : (w1).cell? ⟨wr.heap.size, 10, none⟩ = some (Value.slice E.av.a E.av.n E.av.c) := hcs1 10 _ rfl
   have t11 : (w1).cell? ⟨wr.heap.size, 11, none⟩ = some (Value.slice E.dv.a E.dv.n E.dv.c) := hcs1 11 _ rfl
   have t12 : (w1).cell? ⟨wr.heap.size, 12, none⟩ = some (Value.slice E.cv.a E.cv.n E.cv.c) := hcs1 12 _ rfl
   clear hcs1 q0 q1 q2 q3 q4 q5 q6 q7 q8 q9 q10 q11 q12
   have hz1 := hbr.size
   have own1 : w1.ownsMap Tryz.prog 38 (plainElem Tryz.prog 3) wc.heap.size nn D := ownsMap_below hown hb1 hown.lt
   have hb2 : Below wc.heap.size wc w1 := hbr.trans (hb1.mono hz1)
   have OW := Lib.hid hown
   clear hown
   by_cases hf : (E.kind != 4) = true
   ·have hne : E.kind ≠ 4 := by simpa using hf
    go_wp2_with (first
     | (at_lookup; refine wpList_lookup_own_int _ rfl _ _ 103 rfl 38 3 .i64 tK Tryz.underlying103 Tryz.underlying3 (tL _) wc.heap.size nn _ rfl own1 _ _ rfl hkey ?_; intro c hat hwc)
     | (at_mapUpdate; refine wpList_mapUpdate_own _ rfl _ _ _ 103 rfl 38 3 tK Tryz.underlying103 _ wc.heap.size nn _ rfl own1 (by unfold maxLen; omega) _ _ _ rfl rfl hkey _ [] (plainElem_int Tryz.underlying3 (wrap64_wf _)) ?_; intro w2 hown2 hgrow2)
     | go_in)
    go_roundw
    case rel => exact ⟨k + 1, nn + 1, _, by omega, by go_num, by omega, hown2, by rw [HT.out, if_neg hne]; exact HD.out.put own1.isMap _ _, hb2.grown hgrow2 hb2.size (fun j hj => by cases hj; exact Nat.le_refl _)⟩
    case measure => simp [intOf]; omega
   ·have hf2 : (E.kind != 4) = false := by simpa using hf
    have he4 : E.kind = 4 := by simpa using hf2
    clear hf
    go_wp2
    go_roundw
    case rel => exact ⟨k + 1, nn, D, by omega, by go_num, by omega, own1, by rw [HT.out, if_pos he4]; exact HD.out, hb2⟩
    case measure => simp [intOf]; omega
  ·have hk2 : k = evs.length := by omega
   have HL : Hid (addrsTo (evs.take k) = addrsTo evs) := Lib.hid (by rw [hk2, List.take_length])
   have hnotlt : ¬ k < evs.length := hlt
   have own1 : (wr.alloc (.cells #[.map (some wc.heap.size)] 103)).ownsMap Tryz.prog 38 (plainElem Tryz.prog 3) wc.heap.size nn D := hown.alloc _
   have ctr : Hid (Calls Tryz.prog 74 #[.func (.func 104) #[] #[.pointer (some ⟨wr.heap.size, 0, none⟩)]] (wr.alloc (.cells #[.map (some wc.heap.size)] 103)) fun e w' =>
     ∃ v, e = .returned v ∧ w'.ownsRow (wr.alloc (.cells #[.map (some wc.heap.size)] 103)).heap.size 38 1 v (addrsTo evs).length ((addrsTo evs).map (Value.int .u32)) ∧ (v = .slice none 0 0 ↔ addrsTo evs = []) ∧ Below (wr.alloc (.cells #[.map (some wc.heap.size)] 103)).heap.size (wr.alloc (.cells #[.map (some wc.heap.size)] 103)) w') := Lib.hid (sortedKeys_c hs wc.heap.size nn D (addrsTo evs) _ own1 (by rw [← HL.out]; exact HD.out) (bQ evs) (by omega) wr.heap.size (by simp) (by simp))
   clear own1 hs
   go_wp2_with (first
    | (go_at_call 75; refine (KS.out _ _).mono ?_; rintro e w' ⟨rfl, rfl⟩)
    | (go_at_call 74; refine ctr.out.mono ?_; rintro e w5 ⟨v, rfl, hrow, hnil, hb5⟩))
   go_ret
   obtain ⟨s, hv, hi⟩ := iR .u32 (by have := xO evs; omega) hrow
   refine ⟨s, by rw [hv]; rfl, hi, ?_⟩
   have hb6 : Below wr.heap.size wr w5 := ((Below.refl wr.heap.size wr).alloc (Nat.le_refl _) _).trans (hb5.mono (by simp))
   exact hb.trans ((hbr.trans (hb6.mono hbr.size)).mono (by omega))
end Go.Proofs.YtnkocjkkefnelaaGreat
