/- Executions as plain data; how they lie in memory, told once: from what a walk of the elder ground speaks of to plain data, and back. -/
import Derived.Test.YtnghoibkjphfmaaGreatPe3
import Derived.Test.YtnghoibkjphfmaaGreatPe4
import Derived.Test.YtnghoibkjphfmaaGreatPe6
import Derived.Test.YtnghoibkjphfmaaGreatPe7
set_option maxRecDepth 100000
namespace Go.Proofs.YtnghoibkjphfmaaGreat
open Go.RowKit
/-- an event's cells -/
def evTV (e : Ev) : List TV := [.c (.int .i64 e.hart), .c (.int .i64 e.kind), .c (.int .u32 e.addr), .c (.int .u32 e.val), .c (.int .u32 e.rval), .c (.bool e.aq), .c (.bool e.rl), .c (.int .i64 e.pred), .c (.int .i64 e.succ), .c (.bool e.rsv), ints e.addrs, ints e.datas, ints e.ctrls]
def evOV (e : Ev) : OV := .ag ((evTV e).map .d)
def evsTV (l : List Ev) : TV := .sl 13 (l.map evTV)
def intRow (r : Sl × List Int) : List TV := [ints r.2]
def rowsTV (l : List (Sl × List Int)) : TV := .sl 1 (l.map intRow)
def exOV (x : Ex) : OV := .ag [.d (evsTV x.evs), .d (ints x.from_), .d (rowsTV x.order)]
/-- numbers of 32 bits in a slice -/
def cellU (n : Int) : List TV := [.c (.int .u32 n)]
def words (l : List Int) : TV := .sl 1 (l.map cellU)
/-- all memory that there is -/
def allM (w : World) : Mem := fun b o => w.cell? ⟨b, o, none⟩
def allG (w : World) : Gh := ⟨allM w, fun _ _ => none⟩
theorem WRel.all (w : World) (N : Nat) : WRel ⟨w, fun _ => False, allG w, N⟩ (allG w) Store.nil w where
  mem _ _ _ h := h
  own k τ r hk := by cases hk
  inj k k' τ τ' β β' r r' hk := by cases hk
  keep _ _ _ := rfl
  size := Nat.le_refl _
  tape := rfl
  os := rfl
  output := rfl
  g0 := .refl _
  new _ _ _ h := Or.inl h
  bound := ⟨0, fun _ _ _ _ => rfl⟩
  low _ _ _ _ := rfl
theorem rep_c2 {M : Mem} {v : Value} (h : v.oneCell' = true) : Rep M (.c v) v := by rw [Rep]; exact ⟨rfl, h⟩
/-! ### from the elder ground -/
theorem IntsIn.rep {q : IntKind} {B : Nat} {w : World} {s : Sl} {l : List Int} (h : IntsIn q B w s l) (hc : s.n ≤ s.c) : Rep (allM w) (.sl 1 (l.map fun n => [TV.c (.int q n)])) (.slice s.a s.n s.c) := by
  obtain ⟨h1, h2, h3⟩ := h
  rw [Rep]
  refine ⟨s.a, s.c, by simp [h1], by simpa [h1] using hc, ?_⟩
  rcases h3 with rfl | ⟨b, off, h4, h5, h6⟩
  · exact Or.inl rfl
  · refine Or.inr ⟨b, off, h4, RepR.of_get fun i r hi => ?_⟩
    rw [List.getElem?_map] at hi
    obtain ⟨n, hn, rfl⟩ := Option.map_eq_some_iff.1 hi
    obtain ⟨hlt, rfl⟩ := List.getElem?_eq_some_iff.1 hn
    refine ⟨rfl, RepC.of_get fun o t ht => ?_⟩
    cases o with
    | succ o => simp at ht
    | zero =>
      simp at ht
      subst ht
      have := h6 i hlt
      rw [List.getD_eq_getElem?_getD, List.getElem?_eq_getElem hlt] at this
      exact ⟨_, by simpa [allM] using this, rep_c2 rfl⟩
end Go.Proofs.YtnghoibkjphfmaaGreat
/- An execution that came in, opened into plain data. -/
namespace Go.Proofs.YtnghoibkjphfmaaGreat
open Go.RowKit Go.ChangeShapes Go.WideShapes Go.Deep
def bound60 : Nat := 1152921504606846976
/-- an event's numbers fit, its lists are no longer than memory bears -/
def Ev.ok (e : Ev) : Prop := e.wf ∧ e.addrs.length ≤ 1152921504606846976 ∧ e.datas.length ≤ 1152921504606846976 ∧ e.ctrls.length ≤ 1152921504606846976 ∧ e.av.n = e.addrs.length ∧ e.dv.n = e.datas.length ∧ e.cv.n = e.ctrls.length
def Ex.ok (x : Ex) : Prop := x.evs.length ≤ 1152921504606846976 ∧ (∀ e ∈ x.evs, e.ok) ∧ x.from_.length ≤ 1152921504606846976 ∧ x.order.length ≤ 1152921504606846976 ∧ ∀ r ∈ x.order, r.2.length ≤ 1152921504606846976
section
variable {H : Type} {enc : TypeId × Value → H} {W : World} {sp : Nat → Bool} {held : Bool}
theorem ints_rep {k : IntKind} {t e : TypeId} {fuel : Nat} {cs : List Value} {x : DataW H × List MemPlace} (ht : Tryz.prog.underlying t = some (.slice e)) (he : Tryz.prog.underlying e = some (.int k)) (hc : Tryz.prog.cellsOf e = 1) (hby : 1 ≤ Tryz.prog.bytesOf e)
    (h : DataW.trod enc Tryz.prog W 0 sp held fuel t cs = some x) (hw : ∀ n ∈ x.1.weights Tryz.prog t, n ≤ reachBytes) :
    ∃ (v : Value) (l : List Int), cs = [v] ∧ Rep (allM W) (.sl 1 (l.map fun n => [TV.c (.int k n)])) v ∧ l.length ≤ 1152921504606846976 ∧ (∀ z ∈ l, (Lit.int k z).wf = true) := by
  obtain ⟨s, l, e1, e2, e3⟩ := ints_in ht he hc hby h hw
  refine ⟨_, l, e1, e2.rep ?_, e2.2.1, e3⟩
  rcases open_ints ht he hc h with ⟨rfl, rfl⟩ | ⟨a, len, cap, zs, rfl, hb, hl, _⟩
  · simp only [List.cons.injEq, Value.slice.injEq, and_true] at e1; omega
  · simp only [List.cons.injEq, Value.slice.injEq, and_true] at e1; omega
theorem evt_rep {fuel : Nat} {cs : List Value} {x : DataW H × List MemPlace} (hlen : cs.length = 13) (h : DataW.trod enc Tryz.prog W 0 sp held fuel 41 cs = some x) (hw : ∀ n ∈ x.1.weights Tryz.prog 41, n ≤ reachBytes) :
    ∃ e : Ev, (∀ (j : Nat) (t : TV), (evTV e)[j]? = some t → ∃ v, cs[j]? = some v ∧ Rep (allM W) t v) ∧ e.ok := by
  obtain ⟨xs, n, _, rfl, _, hxl, hf⟩ := DataW.trod_struct Tryz.underlying41 h
  obtain ⟨c0, c1, c2, c3, c4, c5, c6, c7, c8, c9, c10, c11, c12, rfl⟩ := list13 hlen
  have hxl : xs.length = 13 := hxl
  have wx : ∀ (i : Nat) (y : DataW H × List MemPlace), xs[i]? = some y → (xs.map (·.1))[i]? = some y.1 := fun i y hy => by simp [hy]
  obtain ⟨x0, g0⟩ := xs_get hxl 0 (by decide)
  have t0 := hf 0 ⟨"Hart", 3, 0, false, "", "", 0⟩ rfl
  rw [g0] at t0
  rw [cells_int, take1 (i := 0) rfl] at t0
  obtain ⟨x1, g1⟩ := xs_get hxl 1 (by decide)
  have t1 := hf 1 ⟨"Kind", 38, 1, false, "", "", 8⟩ rfl
  rw [g1] at t1
  rw [cells_kind, take1 (i := 1) rfl] at t1
  obtain ⟨x2, g2⟩ := xs_get hxl 2 (by decide)
  have t2 := hf 2 ⟨"Addr", 39, 2, false, "", "", 16⟩ rfl
  rw [g2] at t2
  rw [cells_u32, take1 (i := 2) rfl] at t2
  obtain ⟨x3, g3⟩ := xs_get hxl 3 (by decide)
  have t3 := hf 3 ⟨"Value", 39, 3, false, "", "", 20⟩ rfl
  rw [g3] at t3
  rw [cells_u32, take1 (i := 3) rfl] at t3
  obtain ⟨x4, g4⟩ := xs_get hxl 4 (by decide)
  have t4 := hf 4 ⟨"ReadValue", 39, 4, false, "", "", 24⟩ rfl
  rw [g4] at t4
  rw [cells_u32, take1 (i := 4) rfl] at t4
  obtain ⟨x5, g5⟩ := xs_get hxl 5 (by decide)
  have t5 := hf 5 ⟨"Aq", 4, 5, false, "", "", 28⟩ rfl
  rw [g5] at t5
  rw [cells_bool, take1 (i := 5) rfl] at t5
  obtain ⟨x6, g6⟩ := xs_get hxl 6 (by decide)
  have t6 := hf 6 ⟨"Rl", 4, 6, false, "", "", 29⟩ rfl
  rw [g6] at t6
  rw [cells_bool, take1 (i := 6) rfl] at t6
  obtain ⟨x7, g7⟩ := xs_get hxl 7 (by decide)
  have t7 := hf 7 ⟨"Pred", 3, 7, false, "", "", 32⟩ rfl
  rw [g7] at t7
  rw [cells_int, take1 (i := 7) rfl] at t7
  obtain ⟨x8, g8⟩ := xs_get hxl 8 (by decide)
  have t8 := hf 8 ⟨"Succ", 3, 8, false, "", "", 40⟩ rfl
  rw [g8] at t8
  rw [cells_int, take1 (i := 8) rfl] at t8
  obtain ⟨x9, g9⟩ := xs_get hxl 9 (by decide)
  have t9 := hf 9 ⟨"Reserved", 4, 9, false, "", "", 48⟩ rfl
  rw [g9] at t9
  rw [cells_bool, take1 (i := 9) rfl] at t9
  obtain ⟨x10, g10⟩ := xs_get hxl 10 (by decide)
  have t10 := hf 10 ⟨"Addrs", 23, 10, false, "", "", 56⟩ rfl
  rw [g10] at t10
  rw [cells_ints, take1 (i := 10) rfl] at t10
  obtain ⟨x11, g11⟩ := xs_get hxl 11 (by decide)
  have t11 := hf 11 ⟨"Datas", 23, 11, false, "", "", 80⟩ rfl
  rw [g11] at t11
  rw [cells_ints, take1 (i := 11) rfl] at t11
  obtain ⟨x12, g12⟩ := xs_get hxl 12 (by decide)
  have t12 := hf 12 ⟨"Ctrls", 23, 12, false, "", "", 104⟩ rfl
  rw [g12] at t12
  rw [cells_ints, take1 (i := 12) rfl] at t12
  obtain ⟨z0, e0, _, w0⟩ := DataW.trod_int Tryz.underlying3 t0
  obtain ⟨z1, e1, _, w1⟩ := DataW.trod_int Tryz.underlying38 t1
  obtain ⟨z2, e2, _, w2⟩ := DataW.trod_int Tryz.underlying39 t2
  obtain ⟨z3, e3, _, w3⟩ := DataW.trod_int Tryz.underlying39 t3
  obtain ⟨z4, e4, _, w4⟩ := DataW.trod_int Tryz.underlying39 t4
  obtain ⟨z5, e5, _⟩ := DataW.trod_bool Tryz.underlying4 t5
  obtain ⟨z6, e6, _⟩ := DataW.trod_bool Tryz.underlying4 t6
  obtain ⟨z7, e7, _, w7⟩ := DataW.trod_int Tryz.underlying3 t7
  obtain ⟨z8, e8, _, w8⟩ := DataW.trod_int Tryz.underlying3 t8
  obtain ⟨z9, e9, _⟩ := DataW.trod_bool Tryz.underlying4 t9
  obtain ⟨v10, l10, e10, i10, n10⟩ := ints_rep Tryz.underlying23 Tryz.underlying3 cells_int bytes_int t10 (w_struct Tryz.underlying41 hw (i := 10) rfl (wx _ _ g10))
  obtain ⟨v11, l11, e11, i11, n11⟩ := ints_rep Tryz.underlying23 Tryz.underlying3 cells_int bytes_int t11 (w_struct Tryz.underlying41 hw (i := 11) rfl (wx _ _ g11))
  obtain ⟨v12, l12, e12, i12, n12⟩ := ints_rep Tryz.underlying23 Tryz.underlying3 cells_int bytes_int t12 (w_struct Tryz.underlying41 hw (i := 12) rfl (wx _ _ g12))
  simp only [List.cons.injEq, and_true] at e0 e1 e2 e3 e4 e5 e6 e7 e8 e9 e10 e11 e12
  refine ⟨⟨z0, z1, z2, z3, z4, z5, z6, z7, z8, z9, ⟨none, l10.length, 0⟩, ⟨none, l11.length, 0⟩, ⟨none, l12.length, 0⟩, l10, l11, l12⟩, ?_, ⟨wf_i64 w0, wf_i64 w1, wf_u32 w2, wf_u32 w3, wf_u32 w4, wf_i64 w7, wf_i64 w8⟩, n10.1, n11.1, n12.1, rfl, rfl, rfl⟩
  rw [e0, e1, e2, e3, e4, e5, e6, e7, e8, e9, e10, e11, e12]
  intro j t ht
  match j, ht with
  | 0, ht => cases ht; exact ⟨_, rfl, rep_c2 rfl⟩
  | 1, ht => cases ht; exact ⟨_, rfl, rep_c2 rfl⟩
  | 2, ht => cases ht; exact ⟨_, rfl, rep_c2 rfl⟩
  | 3, ht => cases ht; exact ⟨_, rfl, rep_c2 rfl⟩
  | 4, ht => cases ht; exact ⟨_, rfl, rep_c2 rfl⟩
  | 5, ht => cases ht; exact ⟨_, rfl, rep_c2 rfl⟩
  | 6, ht => cases ht; exact ⟨_, rfl, rep_c2 rfl⟩
  | 7, ht => cases ht; exact ⟨_, rfl, rep_c2 rfl⟩
  | 8, ht => cases ht; exact ⟨_, rfl, rep_c2 rfl⟩
  | 9, ht => cases ht; exact ⟨_, rfl, rep_c2 rfl⟩
  | 10, ht => cases ht; exact ⟨_, rfl, i10⟩
  | 11, ht => cases ht; exact ⟨_, rfl, i11⟩
  | 12, ht => cases ht; exact ⟨_, rfl, i12⟩
  | n + 13, ht => cases ht
theorem evts_rep {fuel : Nat} {cs : List Value} {x : DataW H × List MemPlace} (h : DataW.trod enc Tryz.prog W 0 sp held fuel 22 cs = some x) (hw : ∀ n ∈ x.1.weights Tryz.prog 22, n ≤ reachBytes) :
    ∃ (v : Value) (l : List Ev), cs = [v] ∧ Rep (allM W) (evsTV l) v ∧ l.length ≤ 1152921504606846976 ∧ ∀ e ∈ l, e.ok := by
  rcases open_slice Tryz.underlying22 h with ⟨rfl, rfl⟩ | ⟨a, len, cap, m, n, D, Pl, rfl, hb, hl, hm, hmm, rfl, hx⟩
  · exact ⟨_, [], rfl, by unfold evsTV; rw [Rep]; exact ⟨none, 0, rfl, Nat.le_refl _, Or.inl rfl⟩, by simp, by simp⟩
  · have hle : len ≤ m := by rw [hmm]; split <;> omega
    obtain ⟨hwt, hwe⟩ := w_slice Tryz.underlying22 hw
    rw [cells_ev] at hx
    obtain ⟨E, hE⟩ := choose_lt (α := Ev) (n := len) (p := fun i e => e.ok ∧ ∀ (j : Nat) (t : TV), (evTV e)[j]? = some t → ∃ v, W.cell? (a.add (i * 13 + j)) = some v ∧ Rep (allM W) t v) (fun i hi => by
      obtain ⟨cs', h1, h2⟩ := hx i (by omega)
      obtain ⟨_, h3, h4⟩ := World.cells?_some h1
      obtain ⟨e, he, hok⟩ := evt_rep h3 h2 (hwe _ (by simp only [List.mem_map, List.mem_range]; exact ⟨i, hi, rfl⟩))
      refine ⟨e, hok, fun j t hj => ?_⟩
      have hj13 : j < 13 := (List.getElem?_eq_some_iff.1 hj).1
      obtain ⟨v, h5, h6⟩ := he j t hj
      have := h4 j hj13
      rw [add_add, h5] at this
      exact ⟨v, this, h6⟩)
    have hL : ((List.range len).map E).length = len := by simp
    refine ⟨_, (List.range len).map E, rfl, ?_, ?_, ?_⟩
    · unfold evsTV
      rw [Rep]
      refine ⟨some a, cap, by simp, by simpa using hl, ?_⟩
      by_cases h0 : len = 0
      · left; subst h0; simp
      · right
        obtain ⟨_, g0⟩ := hE 0 (by omega)
        obtain ⟨v0, g0, _⟩ := g0 0 _ rfl
        obtain ⟨hs, _⟩ := cell_lt g0
        have ea := addr_eq (a := a) hs
        refine ⟨a.block, a.off, by rw [← ea], RepR.of_get fun i r hi => ?_⟩
        rw [List.getElem?_map] at hi
        obtain ⟨e, he, rfl⟩ := Option.map_eq_some_iff.1 hi
        obtain ⟨hlt, rfl⟩ := List.getElem?_eq_some_iff.1 he
        rw [hL] at hlt
        simp only [List.getElem_map, List.getElem_range]
        refine ⟨rfl, RepC.of_get fun o t ht => ?_⟩
        obtain ⟨v, g1, g2⟩ := (hE i hlt).2 o t ht
        rw [ea, add_plain] at g1
        exact ⟨v, by rw [Nat.add_assoc]; exact g1, g2⟩
    · rw [hL]
      simp only [List.length_map, List.length_range] at hwt
      have h2 : len ≤ (len + (m - len)) * Tryz.prog.bytesOf 41 := by
        refine Nat.le_trans ?_ (Nat.le_mul_of_pos_right _ (by have := bytes_ev; omega)); omega
      unfold reachBytes at hwt
      omega
    · intro e he
      obtain ⟨i, hi, rfl⟩ := List.mem_map.1 he
      exact (hE i (List.mem_range.1 hi)).1
theorem rows_rep {fuel : Nat} {cs : List Value} {x : DataW H × List MemPlace} (h : DataW.trod enc Tryz.prog W 0 sp held fuel 24 cs = some x) (hw : ∀ n ∈ x.1.weights Tryz.prog 24, n ≤ reachBytes) :
    ∃ (v : Value) (l : List (Sl × List Int)), cs = [v] ∧ Rep (allM W) (rowsTV l) v ∧ l.length ≤ 1152921504606846976 ∧ ∀ r ∈ l, r.2.length ≤ 1152921504606846976 := by
  rcases open_slice1 Tryz.underlying24 cells_ints h with ⟨rfl, rfl⟩ | ⟨a, len, cap, m, n, V, D, Pl, rfl, hb, hl, hm, hmm, rfl, hx⟩
  · exact ⟨_, [], rfl, by unfold rowsTV; rw [Rep]; exact ⟨none, 0, rfl, Nat.le_refl _, Or.inl rfl⟩, by simp, by simp⟩
  · have hle : len ≤ m := by rw [hmm]; split <;> omega
    obtain ⟨hwt, hwe⟩ := w_slice Tryz.underlying24 hw
    obtain ⟨E, hE⟩ := choose_lt (α := Sl × List Int) (n := len) (p := fun i r => r.2.length ≤ 1152921504606846976 ∧ ∃ v, W.cell? (a.add i) = some v ∧ Rep (allM W) (ints r.2) v) (fun i hi => by
      obtain ⟨h1, h2⟩ := hx i (by omega)
      obtain ⟨v, l, e1, e2, e3, _⟩ := ints_rep Tryz.underlying23 Tryz.underlying3 cells_int bytes_int h2 (hwe _ (by simp only [List.mem_map, List.mem_range]; exact ⟨i, hi, rfl⟩))
      simp only [List.cons.injEq, and_true] at e1
      rw [e1] at h1
      exact ⟨(⟨none, l.length, 0⟩, l), e3, v, h1, e2⟩)
    have hL : ((List.range len).map E).length = len := by simp
    refine ⟨_, (List.range len).map E, rfl, ?_, ?_, ?_⟩
    · unfold rowsTV
      rw [Rep]
      refine ⟨some a, cap, by simp, by simpa using hl, ?_⟩
      by_cases h0 : len = 0
      · left; subst h0; simp
      · right
        obtain ⟨_, v0, g0, _⟩ := hE 0 (by omega)
        obtain ⟨hs, _⟩ := cell_lt g0
        have ea := addr_eq (a := a) hs
        refine ⟨a.block, a.off, by rw [← ea], RepR.of_get fun i r hi => ?_⟩
        rw [List.getElem?_map] at hi
        obtain ⟨e, he, rfl⟩ := Option.map_eq_some_iff.1 hi
        obtain ⟨hlt, rfl⟩ := List.getElem?_eq_some_iff.1 he
        rw [hL] at hlt
        simp only [List.getElem_map, List.getElem_range]
        refine ⟨rfl, RepC.of_get fun o t ht => ?_⟩
        cases o with
        | succ o => simp [intRow] at ht
        | zero =>
          simp [intRow] at ht
          subst ht
          obtain ⟨v, g1, g2⟩ := (hE i hlt).2
          rw [ea, add_plain] at g1
          exact ⟨v, by simpa [allM] using g1, g2⟩
    · rw [hL]
      simp only [List.length_map, List.length_range] at hwt
      have h2 : len ≤ (len + (m - len)) * Tryz.prog.bytesOf 23 := by
        refine Nat.le_trans ?_ (Nat.le_mul_of_pos_right _ (by have := bytes_ints; omega)); omega
      unfold reachBytes at hwt
      omega
    · intro e he
      obtain ⟨i, hi, rfl⟩ := List.mem_map.1 he
      exact (hE i (List.mem_range.1 hi)).1
set_option maxRecDepth 100000 in
theorem exec_rep {r : Reach} {b0 : Nat} {v : Value} {d : DataW H} {p : List MemPlace} (hv : Value.okWide Tryz.prog W r b0 26 v) (h : DataW.Trod enc Tryz.prog W 0 sp held 26 v d p) (hw : ∀ n ∈ d.weights Tryz.prog 26, n ≤ reachBytes) :
    ∃ x : Ex, RepO (allG W) (exOV x) v ∧ x.ok := by
  obtain ⟨v0, v1, v2, y0, y1, y2, n, rfl, rfl, rfl, h0, h1, h2⟩ := Go.Joins.open_agg3 Tryz.underlying26 (by kernel_rfl) (by kernel_rfl) hv h
  obtain ⟨s0, l0, e0, i0, n0, m0⟩ := evts_rep h0 (w_struct Tryz.underlying26 hw (i := 0) rfl rfl)
  obtain ⟨s1, l1, e1, i1, n1, _⟩ := ints_rep Tryz.underlying23 Tryz.underlying3 cells_int bytes_int h1 (w_struct Tryz.underlying26 hw (i := 1) rfl rfl)
  obtain ⟨s2, l2, e2, i2, n2, m2⟩ := rows_rep h2 (w_struct Tryz.underlying26 hw (i := 2) rfl rfl)
  simp only [List.cons.injEq, and_true] at e0 e1 e2
  refine ⟨⟨default, default, default, l0, l1, l2⟩, ?_, n0, m0, n1, n2, m2⟩
  unfold exOV
  rw [RepO]
  refine ⟨_, rfl, ?_⟩
  rw [e0, e1, e2, RepOL]
  refine ⟨_, _, rfl, by rw [RepO]; exact i0, ?_⟩
  rw [RepOL]
  refine ⟨_, _, rfl, by rw [RepO]; exact i1, ?_⟩
  rw [RepOL]
  exact ⟨_, _, rfl, by rw [RepO]; exact i2, by rw [RepOL]⟩
end
/-- A statement's call, from what was shown in plain data. -/
theorem FnR.calls {f : FuncId} {args : List OV} {b : Bool} (h : Pure Tryz.prog f args (.bool b)) {w : World} {vs : List Value} (hv : RepOL (allG w) args vs) :
    Calls Tryz.prog f vs.toArray w fun e w' => e = .returned (.bool b) ∧ Below w.heap.size w w' :=
  (h.2 (allG w) w vs 0 hv (WRel.all w 0)).mono fun e w' ⟨x, G', r, σ', h1, h2, h3, h4, h5⟩ => by
    subst h2
    rw [rep_c h4] at h1
    exact ⟨h1, ⟨h5.os, h5.tape, h5.output, h5.size, fun k hk => h5.keep k hk (fun e => e)⟩⟩
end Go.Proofs.YtnghoibkjphfmaaGreat
/- An execution with a fence of all things behind each event of a hart (OrderWithin): it may be. Plain. -/
namespace Go.Proofs.YtnghoibkjphfmaaGreat
def atN (k i : Nat) : Nat := i + (i - k)
def orgN (k j : Nat) : Nat := if j < k then j else k + (j - k) / 2
def isFn (k j : Nat) : Bool := decide (k ≤ j) && decide ((j - k) % 2 = 1)
def atZ (k : Nat) (d : Int) : Int := ((atN k d.toNat : Nat) : Int)
def mvL (k : Nat) (l : List Int) : List Int := l.map (atZ k)
def mvE (k : Nat) (e : Ev) : Ev := { e with addrs := mvL k e.addrs, datas := mvL k e.datas, ctrls := mvL k e.ctrls }
def fnE (h : Int) : Ev := ⟨h, 4, 0, 0, 0, false, false, 3, 3, false, ⟨none, 0, 0⟩, ⟨none, 0, 0⟩, ⟨none, 0, 0⟩, [], [], []⟩
/-- the event at place j, where the first i ones have their numbers turned -/
def fwE (x : Ex) (k i j : Nat) : Ev := if isFn k j = true then fnE (x.evs.getD (orgN k j) default).hart else if orgN k j < i then mvE k (x.evs.getD (orgN k j) default) else x.evs.getD (orgN k j) default
def fwF (x : Ex) (k i j : Nat) : Int := if isFn k j = true then -1 else if orgN k j < i ∧ 0 ≤ x.from_.getD (orgN k j) 0 then atZ k (x.from_.getD (orgN k j) 0) else -1
def fwN (x : Ex) (k : Nat) : Nat := atN k x.evs.length
def fwd (x : Ex) (k : Nat) : Ex := ⟨default, default, default, (List.range (fwN x k)).map (fwE x k x.evs.length), (List.range (fwN x k)).map (fwF x k x.evs.length), x.order.map fun r => (default, mvL k r.2)⟩
/-! ### places -/
theorem orgN_at (k i : Nat) : orgN k (atN k i) = i := by unfold orgN atN; split <;> omega
theorem isFn_at (k i : Nat) : isFn k (atN k i) = false := by
  unfold isFn atN
  rw [Bool.and_eq_false_iff]
  simp only [decide_eq_false_iff_not]
  omega
theorem at_org {k j : Nat} (h : isFn k j = false) : atN k (orgN k j) = j := by
  unfold isFn at h
  rw [Bool.and_eq_false_iff] at h
  simp only [decide_eq_false_iff_not] at h
  unfold atN orgN
  split <;> omega
theorem at_orgF {k j : Nat} (h : isFn k j = true) : j = atN k (orgN k j) + 1 ∧ k ≤ orgN k j := by
  unfold isFn at h
  simp only [Bool.and_eq_true, decide_eq_true_eq] at h
  unfold atN orgN
  rw [if_neg (by omega)]
  omega
theorem atN_lt {k a b : Nat} (h : a < b) : atN k a < atN k b := by unfold atN; omega
theorem atN_inj {k a b : Nat} (h : atN k a = atN k b) : a = b := by unfold atN at h; omega
theorem org_lt {k n j : Nat} (h : j < atN k n) : orgN k j < n := by unfold atN at h; unfold orgN; split <;> omega
theorem atZ_nat (k a : Nat) : atZ k (a : Int) = ((atN k a : Nat) : Int) := by unfold atZ; rw [Int.toNat_natCast]
theorem atZ_lt {k : Nat} {a b : Int} (h1 : 0 ≤ a) (h : a < b) : atZ k a < atZ k b := by
  unfold atZ
  have := @atN_lt k a.toNat b.toNat (by omega)
  omega
theorem getD_map_range {α : Type} {f : Nat → α} {n j : Nat} {d : α} (h : j < n) : ((List.range n).map f).getD j d = f j := by
  rw [List.getD_eq_getElem?_getD, List.getElem?_map, List.getElem?_range h]; rfl
theorem getD_mvL {k : Nat} {l : List Int} {i : Nat} (h : i < l.length) : (mvL k l).getD i 0 = atZ k (l.getD i 0) := by
  unfold mvL
  rw [List.getD_eq_getElem?_getD, List.getElem?_map, List.getD_eq_getElem?_getD, List.getElem?_eq_getElem h]; rfl
theorem fw_at {x : Ex} {k i : Nat} (h : i < x.evs.length) : (fwd x k).evs.getD (atN k i) default = mvE k (x.evs.getD i default) := by
  show ((List.range (fwN x k)).map (fwE x k x.evs.length)).getD (atN k i) default = _
  rw [getD_map_range (show atN k i < fwN x k from atN_lt h)]
  unfold fwE
  rw [if_neg (by rw [isFn_at]; decide), orgN_at, if_pos h]
theorem fw_fn {x : Ex} {k j : Nat} (hj : j < fwN x k) (h : isFn k j = true) : (fwd x k).evs.getD j default = fnE (x.evs.getD (orgN k j) default).hart := by
  show ((List.range (fwN x k)).map (fwE x k x.evs.length)).getD j default = _
  rw [getD_map_range hj]
  unfold fwE
  rw [if_pos h]
theorem fw_len (x : Ex) (k : Nat) : (fwd x k).evs.length = fwN x k := by simp [fwd]
/-! ### what is known of an execution that may be -/
theorem evOk_facts {es : List Ev} {ad : List Int} {n : Nat} (h : evOk es ad n = true) : (es.getD n default).bareB = true ∧ (es.getD n default).addr % 4 = 0 ∧ hangsB es n (es.getD n default).addrs = true ∧ hangsB es n (es.getD n default).datas = true ∧ hangsB es n (es.getD n default).ctrls = true ∧
    (n < ad.length → (es.getD n default).kind = 5 ∧ (es.getD n default).addr = ad.getD n 0) ∧ (ad.length ≤ n → (es.getD n default).kind ≠ 5 ∧ 0 ≤ (es.getD n default).hart ∧ (es.getD n default).hart < 4 ∧ (n = ad.length ∨ (es.getD (n - 1) default).hart ≤ (es.getD n default).hart)) := by
  unfold evOk evPre at h
  simp only [Bool.and_eq_true, beq_iff_eq] at h
  obtain ⟨⟨⟨⟨⟨h1, h2⟩, h3⟩, h4⟩, h5⟩, h6⟩ := h
  refine ⟨h1, h2, h3, h4, h5, fun hlt => ?_, fun hge => ?_⟩
  · rw [if_pos hlt] at h6
    simpa using h6
  · rw [if_neg (by omega)] at h6
    simp only [Bool.and_eq_true, bne_iff_ne, ne_eq, decide_eq_true_eq, Bool.or_eq_true, beq_iff_eq] at h6
    exact ⟨h6.1.1.1, h6.1.1.2, h6.1.2, h6.2.imp (fun e => by omega) id⟩
theorem begin_hart {e : Ev} (h : e.bareB = true) (h5 : e.kind = 5) : e.hart = -1 := by
  unfold Ev.bareB at h
  rw [if_pos h5] at h
  simp only [Bool.and_eq_true, beq_iff_eq] at h
  exact h.1.1.1.1
theorem mem_addrsTo {a : Int} (es : List Ev) : a ∈ addrsTo es ↔ ∃ i, i < es.length ∧ (es.getD i default).kind ≠ 4 ∧ (es.getD i default).addr = a := by
  have main : ∀ m, m ≤ es.length → (a ∈ addrsTo (es.take m) ↔ ∃ i, i < m ∧ (es.getD i default).kind ≠ 4 ∧ (es.getD i default).addr = a) := by
    intro m
    induction m with
    | zero => intro _; simp [addrsTo]
    | succ m ih =>
      intro hm
      have hg : es.take (m + 1) = es.take m ++ [es.getD m default] := by
        rw [List.take_succ_eq_append_getElem (by omega), List.getD_eq_getElem?_getD, List.getElem?_eq_getElem (by omega)]; rfl
      rw [hg, addrsTo_snoc]
      have ih := ih (by omega)
      constructor
      · intro h
        by_cases h4 : (es.getD m default).kind = 4
        · rw [if_pos h4] at h
          obtain ⟨i, h1, h2⟩ := ih.1 h
          exact ⟨i, by omega, h2⟩
        · rw [if_neg h4, mem_addIn] at h
          rcases h with h | h
          · exact ⟨m, by omega, h4, h.symm⟩
          · obtain ⟨i, h1, h2⟩ := ih.1 h
            exact ⟨i, by omega, h2⟩
      · rintro ⟨i, h1, h2, h3⟩
        by_cases e : i = m
        · subst e
          rw [if_neg h2, mem_addIn]
          exact Or.inl h3.symm
        · have := ih.2 ⟨i, by omega, h2, h3⟩
          split
          · exact this
          · rw [mem_addIn]; exact Or.inr this
  have := main es.length (Nat.le_refl _)
  rwa [List.take_length] at this
theorem rising_ext : ∀ {l l' : List Int}, l.Pairwise (· < ·) → l'.Pairwise (· < ·) → (∀ a, a ∈ l ↔ a ∈ l') → l = l'
  | [], [], _, _, _ => rfl
  | [], b :: r, _, _, h => by have := (h b).2 (by simp); simp at this
  | a :: r, [], _, _, h => by have := (h a).1 (by simp); simp at this
  | a :: r, b :: s, h1, h2, h => by
    rw [List.pairwise_cons] at h1 h2
    have e : a = b := by
      rcases List.mem_cons.1 ((h a).1 (by simp)) with e | e
      · exact e
      · rcases List.mem_cons.1 ((h b).2 (by simp)) with e' | e'
        · exact e'.symm
        · have := h1.1 b e'
          have := h2.1 a e
          omega
    subst e
    congr 1
    refine rising_ext h1.2 h2.2 fun c => ⟨fun hc => ?_, fun hc => ?_⟩
    · rcases List.mem_cons.1 ((h c).1 (List.mem_cons_of_mem _ hc)) with e | e
      · have := h1.1 c hc; omega
      · exact e
    · rcases List.mem_cons.1 ((h c).2 (List.mem_cons_of_mem _ hc)) with e | e
      · have := h2.1 c hc; omega
      · exact e
structure Wh (x : Ex) (k : Nat) : Prop where
  check : checkI x = 0
  k : (addrsTo x.evs).length = k
  nof : ∀ i, i < x.evs.length → (x.evs.getD i default).kind ≠ 4
  len : x.evs.length ≤ 12
section
variable {x : Ex} {k : Nat}
theorem Wh.at_ (h : Wh x k) {i : Nat} (hi : i < x.evs.length) : evOk x.evs (addrsTo x.evs) i = true := by
  have := (check_zero h.check).2.1
  unfold evsTo at this
  exact List.all_eq_true.1 this i (List.mem_range.2 hi)
theorem Wh.kle (h : Wh x k) : k ≤ x.evs.length := by rw [← h.k]; exact addrsTo_len _
theorem Wh.hart (h : Wh x k) {i : Nat} (hi : i < x.evs.length) : (0 ≤ (x.evs.getD i default).hart ↔ k ≤ i) := by
  obtain ⟨f1, _, _, _, _, f6, f7⟩ := evOk_facts (h.at_ hi)
  rw [h.k] at f6 f7
  constructor
  · intro hh
    rcases Nat.lt_or_ge i k with hlt | hge
    · have := begin_hart f1 (f6 hlt).1; omega
    · exact hge
  · intro hge; exact (f7 hge).2.1
theorem Wh.N (h : Wh x k) : fwN x k ≤ 24 := by have := h.len; have := h.kle; unfold fwN atN; omega
theorem fw_addrs (h : Wh x k) : addrsTo (fwd x k).evs = addrsTo x.evs := by
  refine rising_ext (addrsTo_rising _) (addrsTo_rising _) fun a => ?_
  rw [mem_addrsTo, mem_addrsTo, fw_len]
  constructor
  · rintro ⟨j, hj, h4, ha⟩
    cases hf : isFn k j with
    | true => rw [fw_fn hj hf] at h4; exact (h4 rfl).elim
    | false =>
      have ho := org_lt (k := k) (n := x.evs.length) hj
      rw [← at_org hf, fw_at ho] at h4 ha
      exact ⟨_, ho, h4, ha⟩
  · rintro ⟨i, hi, h4, ha⟩
    refine ⟨atN k i, atN_lt hi, ?_, ?_⟩ <;> rw [fw_at hi]
    · exact h4
    · exact ha
theorem hangs_at (h : Wh x k) {o : Nat} (ho : o < x.evs.length) {l : List Int} (hl : hangsB x.evs o l = true) : hangsB (fwd x k).evs (atN k o) (mvL k l) = true := by
  unfold hangsB hangsTo at hl ⊢
  rw [List.all_eq_true] at hl ⊢
  intro i hi
  have hi' : i < l.length := by simpa [mvL] using hi
  have h1 := hl i (List.mem_range.2 hi')
  unfold depOk at h1 ⊢
  simp only [Bool.and_eq_true, Bool.not_eq_true', decide_eq_false_iff_not, Bool.and_eq_false_iff, bne_eq_false_iff_eq] at h1 ⊢
  obtain ⟨⟨⟨⟨a1, a2⟩, a3⟩, a4⟩, a5⟩ := h1
  rw [getD_mvL hi']
  have hd : ((l.getD i 0).toNat : Int) = l.getD i 0 := Int.toNat_of_nonneg (by omega)
  have e0 : atZ k (l.getD i 0) = ((atN k (l.getD i 0).toNat : Nat) : Int) := rfl
  have hlt := @atN_lt k (l.getD i 0).toNat o (by omega)
  have e1 : (fwd x k).evs.getD (atZ k (l.getD i 0)).toNat default = mvE k (x.evs.getD (l.getD i 0).toNat default) := by
    rw [e0, Int.toNat_natCast, fw_at (by omega)]
  rw [e1, fw_at ho]
  refine ⟨⟨⟨⟨by omega, by omega⟩, ?_⟩, a4⟩, a5⟩
  rcases a3 with a3 | a3
  · exact Or.inl a3
  · by_cases h0 : 0 < i
    · right
      rw [getD_mvL (by omega)]
      have h2 := hl (i - 1) (List.mem_range.2 (by omega))
      unfold depOk at h2
      simp only [Bool.and_eq_true, Bool.not_eq_true', decide_eq_false_iff_not] at h2
      have := @atZ_lt k (l.getD (i - 1) 0) (l.getD i 0) (by omega) (by omega)
      omega
    · exact Or.inl h0
theorem mv_facts (e : Ev) : (mvE k e).bareB = e.bareB ∧ (mvE k e).stB = e.stB ∧ (mvE k e).ldB = e.ldB := ⟨rfl, rfl, rfl⟩
theorem fw_evs (h : Wh x k) : evsTo (fwd x k).evs (addrsTo (fwd x k).evs) (fwd x k).evs.length = true := by
  unfold evsTo
  rw [List.all_eq_true]
  intro j hj
  rw [List.mem_range, fw_len] at hj
  have ho := org_lt (k := k) (n := x.evs.length) hj
  obtain ⟨f1, f2, f3, f4, f5, f6, f7⟩ := evOk_facts (h.at_ ho)
  rw [fw_addrs h]
  unfold evOk evPre
  rw [h.k] at f6 f7 ⊢
  cases hf : isFn k j with
  | true =>
    obtain ⟨g1, g2⟩ := at_orgF hf
    obtain ⟨q1, q2, q3, q4⟩ := f7 g2
    have hp : (fwd x k).evs.getD (j - 1) default = mvE k (x.evs.getD (orgN k j) default) := by
      rw [show j - 1 = atN k (orgN k j) by omega, fw_at ho]
    have hkj : ¬ j < k := by have : atN k (orgN k j) ≥ orgN k j := by unfold atN; omega
                             omega
    rw [fw_fn hj hf, if_neg hkj, hp]
    have e1 : (fnE (x.evs.getD (orgN k j) default).hart).bareB = true := by unfold Ev.bareB fnE; simp
    rw [e1]
    show (true && _ && hangsB _ _ [] && hangsB _ _ [] && hangsB _ _ [] && _) = true
    rw [hangs_nil]
    simp only [Bool.true_and, Bool.and_true, Bool.and_eq_true, Bool.or_eq_true, beq_iff_eq, bne_iff_ne, ne_eq, decide_eq_true_eq]
    exact ⟨(by decide : (0 : Int) % 4 = 0), ⟨⟨(by decide : ¬ (4 : Int) = 5), q2⟩, q3⟩, Or.inr (Int.le_refl _)⟩
  | false =>
    have ej := at_org hf
    rw [← ej, fw_at ho]
    show ((mvE k _).bareB && _ && hangsB _ _ (mvL k _) && hangsB _ _ (mvL k _) && hangsB _ _ (mvL k _) && _) = true
    rw [(mv_facts _).1, f1, hangs_at h ho f3, hangs_at h ho f4, hangs_at h ho f5]
    simp only [Bool.true_and, Bool.and_true, Bool.and_eq_true]
    refine ⟨by show ((x.evs.getD (orgN k j) default).addr % 4 == 0) = true; simpa using f2, ?_⟩
    by_cases hlt : orgN k j < k
    · have e : atN k (orgN k j) = orgN k j := by unfold atN; omega
      rw [if_pos (by omega), e]
      obtain ⟨q1, q2⟩ := f6 hlt
      simp only [Bool.and_eq_true, beq_iff_eq]
      exact ⟨q1, q2⟩
    · obtain ⟨q1, q2, q3, q4⟩ := f7 (by omega)
      have hge : orgN k j ≤ atN k (orgN k j) := by unfold atN; omega
      rw [if_neg (by omega)]
      simp only [Bool.and_eq_true, Bool.or_eq_true, beq_iff_eq, bne_iff_ne, ne_eq, decide_eq_true_eq]
      refine ⟨⟨⟨q1, q2⟩, q3⟩, ?_⟩
      rcases q4 with q4 | q4
      · left; rw [q4]; unfold atN; omega
      · by_cases e : orgN k j = k
        · left; rw [e]; unfold atN; omega
        · right
          have hpf : isFn k (atN k (orgN k j) - 1) = true := by
            unfold isFn atN
            simp only [Bool.and_eq_true, decide_eq_true_eq]
            omega
          have hpo : orgN k (atN k (orgN k j) - 1) = orgN k j - 1 := by
            generalize orgN k j = o at *
            unfold orgN atN
            rw [if_neg (by omega)]; omega
          rw [fw_fn (by have := @atN_lt k _ _ ho; unfold fwN; omega) hpf, hpo]
          exact q4
theorem fw_from (h : Wh x k) : fromB (fwd x k).evs (fwd x k).from_ = true := by
  have h3 := (check_zero h.check).2.2.1
  have hl := from_len h3
  unfold fromB
  simp only [Bool.and_eq_true, decide_eq_true_eq]
  refine ⟨by simp [fwd], ?_⟩
  unfold fromTo
  rw [List.all_eq_true]
  intro j hj
  have hj' : j < fwN x k := by simpa [fwd] using hj
  have ho := org_lt (k := k) (n := x.evs.length) hj'
  have hfo := from_at h3 (k := orgN k j) (by omega)
  have hfw : (fwd x k).from_.getD j 0 = fwF x k x.evs.length j := getD_map_range hj'
  unfold fromOk at hfo ⊢
  rw [hfw]
  unfold fwF
  cases hf : isFn k j with
  | true =>
    rw [fw_fn hj' hf, if_pos rfl]; rfl
  | false =>
    have ej := at_org hf
    have hev : (fwd x k).evs.getD j default = mvE k (x.evs.getD (orgN k j) default) := by
      have := fw_at (k := k) ho
      rwa [ej] at this
    rw [hev, (mv_facts _).2.2, if_neg (by decide)]
    simp only [Bool.or_eq_true, Bool.and_eq_true, Bool.not_eq_true', beq_iff_eq, beq_eq_false_iff_ne, decide_eq_false_iff_not] at hfo ⊢
    rcases hfo with ⟨a1, a2⟩ | ⟨⟨⟨⟨a1, a2⟩, a3⟩, a4⟩, a5⟩
    · left
      refine ⟨a1, ?_⟩
      rw [if_neg (by omega)]
    · right
      rw [if_pos ⟨ho, by omega⟩]
      have e0 : atZ k (x.from_.getD (orgN k j) 0) = ((atN k (x.from_.getD (orgN k j) 0).toNat : Nat) : Int) := rfl
      have hlt := @atN_lt k (x.from_.getD (orgN k j) 0).toNat x.evs.length (by omega)
      refine ⟨⟨⟨⟨a1, fun e => ?_⟩, by omega⟩, by rw [fw_len]; unfold fwN; omega⟩, ?_⟩
      · have e2 : atN k (x.from_.getD (orgN k j) 0).toNat = atN k (orgN k j) := by rw [ej]; omega
        have := atN_inj e2
        omega
      · unfold srcOk at a5 ⊢
        rw [e0, Int.toNat_natCast, fw_at (by omega)]
        exact a5
theorem want_mem {es : List Ev} {a z : Int} : z ∈ wantTo es a es.length ↔ ∃ i : Nat, i < es.length ∧ (es.getD i default).stB = true ∧ (es.getD i default).addr = a ∧ z = (i : Int) := by
  unfold wantTo
  rw [List.mem_map]
  constructor
  · rintro ⟨i, hi, rfl⟩
    rw [List.mem_filter, List.mem_range] at hi
    simp only [Bool.and_eq_true, beq_iff_eq] at hi
    exact ⟨i, hi.1, hi.2.1, hi.2.2, rfl⟩
  · rintro ⟨i, h1, h2, h3, rfl⟩
    refine ⟨i, ?_, rfl⟩
    rw [List.mem_filter, List.mem_range]
    simp only [Bool.and_eq_true, beq_iff_eq]
    exact ⟨h1, h2, h3⟩
theorem want_rising (es : List Ev) (a : Int) (m : Nat) : (wantTo es a m).Pairwise (· < ·) := by
  unfold wantTo
  rw [List.pairwise_map]
  refine List.Pairwise.imp ?_ (List.Pairwise.filter _ List.pairwise_lt_range)
  intro a b h
  simp only [Int.ofNat_eq_natCast]; omega
theorem mvL_rising {l : List Int} (h : l.Pairwise (· < ·)) (h0 : ∀ z ∈ l, 0 ≤ z) : (mvL k l).Pairwise (· < ·) := by
  unfold mvL
  rw [List.pairwise_map]
  exact h.imp_of_mem fun ha _ hlt => atZ_lt (h0 _ ha) hlt
theorem fw_want (h : Wh x k) (a : Int) : wantTo (fwd x k).evs a (fwd x k).evs.length = mvL k (wantTo x.evs a x.evs.length) := by
  refine rising_ext (want_rising _ _ _) (mvL_rising (want_rising _ _ _) fun z hz => ?_) fun z => ?_
  · obtain ⟨i, _, _, _, rfl⟩ := want_mem.1 hz; omega
  · rw [want_mem, fw_len]
    unfold mvL
    rw [List.mem_map]
    constructor
    · rintro ⟨j, hj, h1, h2, rfl⟩
      cases hf : isFn k j with
      | true => rw [fw_fn hj hf] at h1; cases h1
      | false =>
        have ho := org_lt (k := k) (n := x.evs.length) hj
        have ej := at_org hf
        rw [← ej, fw_at ho] at h1 h2
        exact ⟨((orgN k j : Nat) : Int), want_mem.2 ⟨orgN k j, ho, h1, h2, rfl⟩, by rw [atZ_nat, ej]⟩
    · rintro ⟨z, hz, rfl⟩
      obtain ⟨i, hi, h1, h2, rfl⟩ := want_mem.1 hz
      refine ⟨atN k i, atN_lt hi, ?_, ?_, atZ_nat k i⟩ <;> rw [fw_at hi]
      · exact h1
      · exact h2
theorem sortI_mvL {l w : List Int} (h : sortI l = w) (hw : w.Pairwise (· < ·)) (h0 : ∀ z ∈ w, 0 ≤ z) : sortI (mvL k l) = mvL k w := by
  have hp : l.Perm w := by rw [← h]; exact (List.mergeSort_perm l _).symm
  have h1 : (mvL k l).Perm (mvL k w) := hp.map _
  have h2 : (sortI (mvL k l)).Pairwise fun a b => decide (a ≤ b) = true := List.pairwise_mergeSort (fun a b c h1 h2 => by simp only [decide_eq_true_eq] at *; omega) (fun a b => by simp only [Bool.or_eq_true, decide_eq_true_eq]; omega) _
  have h3 : (mvL k w).Pairwise fun a b => decide (a ≤ b) = true := (mvL_rising hw h0).imp fun h => decide_eq_true (by omega)
  exact ((List.mergeSort_perm (mvL k l) _).trans h1).eq_of_pairwise (fun a b _ _ h3 h4 => by simp only [decide_eq_true_eq] at *; omega) h2 h3
theorem fw_order (h : Wh x k) : orderB (fwd x k).evs (addrsTo (fwd x k).evs) (fwd x k).order = true := by
  have h4 := (check_zero h.check).2.2.2
  unfold orderB at h4 ⊢
  simp only [Bool.and_eq_true, decide_eq_true_eq] at h4 ⊢
  refine ⟨by rw [fw_addrs h]; simpa [fwd] using h4.1, ?_⟩
  have h5 := h4.2
  unfold rowsTo at h5 ⊢
  rw [List.all_eq_true] at h5 ⊢
  intro i hi
  have hi' : i < x.order.length := by simpa [fwd] using hi
  have h6 := h5 i (List.mem_range.2 hi')
  rw [fw_addrs h]
  have er : ((fwd x k).order.getD i default).2 = mvL k (x.order.getD i default).2 := by
    show ((x.order.map fun r => ((default : Sl), mvL k r.2)).getD i default).2 = _
    rw [List.getD_eq_getElem?_getD, List.getElem?_map, List.getD_eq_getElem?_getD, List.getElem?_eq_getElem hi']; rfl
  rw [er]
  unfold rowOk at h6 ⊢
  simp only [Bool.and_eq_true, Bool.not_eq_true', beq_eq_false_iff_ne, bne_eq_false_iff_eq, beq_iff_eq] at h6 ⊢
  obtain ⟨⟨g1, g2⟩, g3⟩ := h6
  refine ⟨⟨by simpa [mvL] using g1, ?_⟩, ?_⟩
  · rw [getD_mvL (by omega), g2, atZ_nat]
    have : i < k := by rw [← h.k]; omega
    unfold atN; omega
  · rw [fw_want h]
    exact sortI_mvL g3 (want_rising _ _ _) fun z hz => by obtain ⟨i, _, _, _, rfl⟩ := want_mem.1 hz; omega
theorem fw_check (h : Wh x k) : checkI (fwd x k) = 0 := check_of (by rw [fw_len]; have := h.N; omega) (fw_evs h) (fw_from h) (fw_order h)
end
end Go.Proofs.YtnghoibkjphfmaaGreat
/- A cut behind a loop; own rows that nobody writes any more become plain data. -/
set_option linter.unusedVariables false
namespace Go.Proofs.YtnghoibkjphfmaaGreat
open Go.RowKit
section
variable {P : Program} {n : Nat} {Q Qx : Exit → Tm → Store → Prop} {tm : Tm} {σ : Store}
theorem mid {X : Type} {T : X → Tm} {S : X → Store} {I : X → Prop} (y : X) (hI : I y) (ht : (T y).le tm) (hs : (S y).le σ) : ∃ y, I y ∧ (T y).le tm ∧ (S y).le σ := ⟨y, hI, ht, hs⟩
/-- what a value is behind the freezing of key k -/
inductive Froz (k : Nat) (τ : Stamp) (s : Nat) (rows : List (List TV)) : OV → OV → Prop where
  | same (y : OV) : Froz k τ s rows y y
  | os : Froz k τ s rows (.os k τ s rows.length) (.d (.sl s rows))
  | vw (l m : Nat) (h : l + m ≤ rows.length) : Froz k τ s rows (.vw k τ s l m) (.d (.sl s ((rows.drop l).take m)))
  | lo (i o : Nat) (row : List TV) (h : rows[i]? = some row) : Froz k τ s rows (.lo k τ s i o) (.d (.pt row o))
  | nil (q : Nat) : Froz k τ s rows (.d (.c (.slice none 0 0))) (.d (.sl q []))
theorem Froz.rep {G G' : Gh} {k s : Nat} {τ : Stamp} {rows : List (List TV)} (hle : G.le G')
    (hk : (G.μ k τ = some none ∧ rows = []) ∨ ∃ β, G.μ k τ = some (some β) ∧ ∀ i row, rows[i]? = some row → row.length = s ∧ RepC G'.M row β.b (i * s)) {y y' : OV} (h : Froz k τ s rows y y') {x : Value} (hr : RepO G y x) : RepO G' y' x := by
  cases h with
  | same => exact hr.mono hle
  | nil q =>
    have e := rep_c hr
    subst e
    rw [RepO, Rep]
    exact ⟨none, 0, rfl, Nat.le_refl _, Or.inl rfl⟩
  | os =>
    simp only [RepO] at hr ⊢
    rw [Rep]
    rcases hr with ⟨β, c, g1, g2, g3, _, _⟩ | ⟨g1, g2, g3⟩
    · refine ⟨_, c, g2, g3, ?_⟩
      rcases hk with ⟨k1, _⟩ | ⟨β', k1, k2⟩
      · rw [k1] at g1; cases g1
      · rw [k1] at g1; cases g1
        exact Or.inr ⟨_, 0, rfl, RepR.of_get fun i r hi => by rw [Nat.zero_add]; exact k2 i r hi⟩
    · have : rows = [] := List.eq_nil_of_length_eq_zero g3
      subst this
      exact ⟨none, 0, g2, Nat.le_refl _, Or.inl rfl⟩
  | vw l m hlm =>
    simp only [RepO] at hr ⊢
    rw [Rep]
    obtain ⟨a, c, g1, g2, g3⟩ := hr
    have hl : ((rows.drop l).take m).length = m := by simp; omega
    refine ⟨a, c, by rw [hl]; exact g1, by rw [hl]; exact g2, ?_⟩
    rcases g3 with g3 | ⟨β, g3, g4⟩
    · subst g3; exact Or.inl (by simp)
    · rcases hk with ⟨k1, k2⟩ | ⟨β', k1, k2⟩
      · subst k2; exact Or.inl (by simp)
      · rw [k1] at g3; cases g3
        refine Or.inr ⟨_, l * s, g4, RepR.of_get fun i r hi => ?_⟩
        rw [List.getElem?_take] at hi
        split at hi
        · rw [List.getElem?_drop] at hi
          have := k2 _ _ hi
          rw [Nat.add_mul] at this
          exact this
        · cases hi
  | lo i o row hrow =>
    simp only [RepO] at hr ⊢
    rw [Rep]
    obtain ⟨β, g1, g2⟩ := hr
    rcases hk with ⟨k1, k2⟩ | ⟨β', k1, k2⟩
    · rw [k1] at g1; cases g1
    · rw [k1] at g1; cases g1
      exact ⟨_, _, g2, (k2 i row hrow).2⟩
/-- a frame, a store behind the freezing -/
def FrozT (k : Nat) (τ : Stamp) (s : Nat) (rows : List (List TV)) (tm tm' : Tm) : Prop := ∀ t y', tm' t = some y' → ∃ y, tm t = some y ∧ Froz k τ s rows y y'
def FrozR (k : Nat) (τ : Stamp) (s : Nat) (rows : List (List TV)) (r r' : Row) : Prop := r'.s = r.s ∧ r'.rows.length = r.rows.length ∧ ∀ (i : Nat) (row' : List OV), r'.rows[i]? = some row' → ∃ row : List OV, r.rows[i]? = some row ∧ row.length = row'.length ∧ ∀ (o : Nat) (y' : OV), row'[o]? = some y' → ∃ y : OV, row[o]? = some y ∧ Froz k τ s rows y y'
def FrozS (k : Nat) (τ : Stamp) (s : Nat) (rows : List (List TV)) (σ σ' : Store) : Prop := ∀ j τ' r', σ' j = some (τ', r') → j ≠ k ∧ ∃ r, σ j = some (τ', r) ∧ FrozR k τ s rows r r'
theorem WRel.froz {Γ : Ctx} {G : Gh} {σ σ' : Store} {w : World} {k s : Nat} {τ : Stamp} {rows : List (List TV)} (hw : WRel Γ G (σ.del k) w) (hσ : FrozS k τ s rows σ σ')
    (hr : ∀ y y' x, Froz k τ s rows y y' → RepO G y x → RepO G y' x) : WRel Γ G σ' w where
  mem := hw.mem
  own j τ' r' hj := by
    obtain ⟨hne, r, h1, h2, h3, h4⟩ := hσ j τ' r' hj
    have h1' : σ.del k j = some (τ', r) := by rw [Store.del_ne _ hne]; exact h1
    rcases hw.own j τ' r h1' with ⟨g1, g2⟩ | ⟨β, g1, ⟨cs, c1, c2, c3, c4⟩, g3, g4⟩
    · exact Or.inl ⟨g1, List.eq_nil_of_length_eq_zero (by rw [h3, g2]; rfl)⟩
    · refine Or.inr ⟨β, g1, ⟨cs, c1, c2, by rw [h2, h3]; exact c3, fun i row' hi => ?_⟩, g3, g4⟩
      obtain ⟨row, e1, e2, e3⟩ := h4 i row' hi
      obtain ⟨d1, d2⟩ := c4 i row e1
      refine ⟨by rw [h2, ← d1, e2], fun o y' ho => ?_⟩
      obtain ⟨y, e4, e5⟩ := e3 o y' ho
      obtain ⟨v, e6, e7⟩ := d2 o y e4
      exact ⟨v, by rw [h2]; exact e6, hr _ _ _ e5 e7⟩
  inj j j' τ1 τ2 β β' r r' hj hj' hμ hμ' e := by
    obtain ⟨n1, r1, h1, _⟩ := hσ j τ1 r hj
    obtain ⟨n2, r2, h2, _⟩ := hσ j' τ2 r' hj'
    exact hw.inj j j' τ1 τ2 β β' r1 r2 (by rw [Store.del_ne _ n1]; exact h1) (by rw [Store.del_ne _ n2]; exact h2) hμ hμ' e
  keep := hw.keep
  size := hw.size
  tape := hw.tape
  os := hw.os
  output := hw.output
  g0 := hw.g0
  new := hw.new
  bound := hw.bound
  low := hw.low
theorem SRel.freeze {C : Cx} {G : Gh} {tm' : Tm} {σ' : Store} {a : Act} {w : World} {k s : Nat} {τ : Stamp} {rows : List (List TV)} (hs : SRel n C G tm σ a w) (hk : σ k = some (τ, ⟨s, rows.map fun r => r.map .d⟩)) (ht : FrozT k τ s rows tm tm') (hσ : FrozS k τ s rows σ σ') :
    ∃ G', G.le G' ∧ G'.μ = G.μ ∧ SRel n C G' tm' σ' a w := by
  have fin : ∀ G', G.le G' → WRel C.Γ G' (σ.del k) w → ((G'.μ k τ = some none ∧ rows = []) ∨ ∃ β, G'.μ k τ = some (some β) ∧ ∀ i row, rows[i]? = some row → row.length = s ∧ RepC G'.M row β.b (i * s)) → SRel n C G' tm' σ' a w := fun G' hle hw hc => by
    have hr : ∀ y y' x, Froz k τ s rows y y' → RepO G' y x → RepO G' y' x := fun y y' x hf hx => hf.rep (Gh.le.refl G') hc hx
    refine ⟨hs.size, hs.defers, fun t y' hy => ?_, hw.froz hσ hr, hs.fix, hs.marks, fun i Y hi => ?_⟩
    · obtain ⟨y, h1, h2⟩ := ht t y' hy
      rcases hs.tm t y h1 with ⟨i, Y, rfl⟩ | ⟨x, h3, h4⟩
      · cases h2; exact Or.inl ⟨i, Y, rfl⟩
      · exact Or.inr ⟨x, h3, hr _ _ _ h2 (h4.mono hle)⟩
    · obtain ⟨y, h1, h2⟩ := ht GS _ hi
      cases h2
      exact ⟨(hs.gh i Y h1).1, (hs.gh i Y h1).2.1.trans hle, (hs.gh i Y h1).2.2⟩
  rcases hs.w.own k τ _ hk with ⟨h1, h2⟩ | ⟨β, h1, h2, h3, h4⟩
  · exact ⟨G, Gh.le.refl G, rfl, fin G (Gh.le.refl G) (hs.w.del k) (Or.inl ⟨h1, List.map_eq_nil_iff.1 h2⟩)⟩
  · obtain ⟨M', g1, g2, g3⟩ := hs.w.freeze hk h1
    refine ⟨⟨M', G.μ⟩, ⟨g1, fun _ _ _ e => e⟩, rfl, fin _ ⟨g1, fun _ _ _ e => e⟩ g2 (Or.inr ⟨β, h1, fun i row hi => ?_⟩)⟩
    obtain ⟨e1, e2⟩ := g3 i (row.map .d) (by simp [hi])
    refine ⟨by simpa using e1, RepC.of_get fun o t ho => ?_⟩
    obtain ⟨v, e3, e4⟩ := e2 o (.d t) (by simp [ho])
    rw [RepO] at e4
    exact ⟨v, e3, e4⟩
theorem awp_freeze {c : Code} (k : Nat) (τ : Stamp) (s : Nat) (rows : List (List TV)) (tm' : Tm) (σ' : Store) (hk : σ k = some (τ, ⟨s, rows.map fun r => r.map .d⟩)) (ht : FrozT k τ s rows tm tm') (hσ : FrozS k τ s rows σ σ') (h : awp P n c Q tm' σ') : awp P n c Q tm σ := fun C ro G a w hro hs => by
  obtain ⟨G', _, _, hs'⟩ := hs.freeze hk ht hσ
  exact h C ro G' a w hro hs'
theorem fz_nil {k s : Nat} {τ : Stamp} {rows : List (List TV)} : FrozT k τ s rows tm (tmL []) := fun t y h => by cases h
theorem fz_cons {k s d : Nat} {τ : Stamp} {rows : List (List TV)} {y y' : OV} {l : List (Nat × OV)} (h : tm d = some y) (hf : Froz k τ s rows y y') (hl : FrozT k τ s rows tm (tmL l)) : FrozT k τ s rows tm (tmL ((d, y') :: l)) := fun t z hz => by
  unfold tmL at hz
  cases hb : Nat.beq t d with
  | true => rw [hb] at hz; cases hz; rw [Nat.eq_of_beq_eq_true hb]; exact ⟨y, h, hf⟩
  | false => rw [hb] at hz; exact hl t z hz
theorem FrozR.same {k s : Nat} {τ : Stamp} {rows : List (List TV)} (r : Row) : FrozR k τ s rows r r := ⟨rfl, rfl, fun i row h => ⟨row, h, rfl, fun o y ho => ⟨y, ho, .same y⟩⟩⟩
theorem fs_nil {k s : Nat} {τ : Stamp} {rows : List (List TV)} : FrozS k τ s rows σ (stL []) := fun j τ' r h => by cases h
theorem fs_cons {k s d : Nat} {τ τ' : Stamp} {rows : List (List TV)} {r r' : Row} {l : List (Nat × (Stamp × Row))} (hne : d ≠ k) (h : σ d = some (τ', r)) (hf : FrozR k τ s rows r r') (hl : FrozS k τ s rows σ (stL l)) : FrozS k τ s rows σ (stL ((d, (τ', r')) :: l)) := fun j τ2 r2 hz => by
  unfold stL at hz
  cases hb : Nat.beq j d with
  | true => rw [hb] at hz; cases hz; rw [Nat.eq_of_beq_eq_true hb]; exact ⟨hne, r, h, hf⟩
  | false => rw [hb] at hz; exact hl j τ2 r2 hz
/-- rows of plain cells -/
theorem froz_os {k s m : Nat} {τ : Stamp} {rows : List (List TV)} (h : m = rows.length) : Froz k τ s rows (.os k τ s m) (.d (.sl s rows)) := by subst h; exact .os
end
section
variable {E : Env} {v j : Nat} {ops : Array Oper} {K : Tm → Store → Prop} {KD : List Foot → Tm → Store → Prop} {acc : List Foot} {rest : List Oper} {tm : Tm} {σ : Store} {ty : TypeId} {pos : String} {af : Array Edge} {gd : Option (Nat × Bool)} {dst : Option Tmp}
theorem do_cons_app {o : Oper} {l1 l2 : List Oper} (h : DO E.P v ops KD j (o :: List.append l1 l2) tm σ acc) : DO E.P v ops KD j (List.append (o :: l1) l2) tm σ acc := h
theorem do_nil_app {l2 : List Oper} (h : DO E.P v ops KD j l2 tm σ acc) : DO E.P v ops KD j (List.append [] l2) tm σ acc := h
/-- a mark: this tmp's rows are frozen where it is moved -/
structure Frozen (t : Nat) : Prop where
  ok : True
theorem Y_mvfz {t k s m : Nat} {τ : Stamp} {rows : List (List TV)} (hm : Frozen t) (hx : tm t = some (.os k τ s m)) (hk : σ k = some (τ, ⟨s, rows.map fun r => r.map .d⟩)) (hl : m = rows.length) :
    YL E.P v j ⟨dst, .move (.tmp t), ty, pos, af, gd⟩ tm σ [k] (.d (.sl s rows)) [(k, none)] := fun σ' hσ Γ G ρ w hv hfr hρ hw => by
  have hk' : σ' k = some (τ, ⟨s, rows.map fun r => r.map .d⟩) := by rw [hσ k (by simp)]; exact hk
  have hr := hρ (.tmp t) (by simp [Op.operands]) _ hx
  have h2 : (execOp ρ ⟨dst, .move (.tmp t), ty, pos, af, gd⟩).run E.P w = .ok (.value (ρ (.tmp t))) w := by simp [execOp]
  rw [h2]
  rcases hw.own k τ _ hk' with ⟨h1, h3⟩ | ⟨β, h1, _⟩
  · exact ⟨G, Gh.le.refl G, fun _ _ _ _ _ => rfl, (froz_os hl).rep (Gh.le.refl G) (Or.inl ⟨h1, List.map_eq_nil_iff.1 h3⟩) hr, hw.del k⟩
  · obtain ⟨M', g1, g2, g3⟩ := hw.freeze hk' h1
    have hle : G.le ⟨M', G.μ⟩ := ⟨g1, fun _ _ _ e => e⟩
    refine ⟨⟨M', G.μ⟩, hle, fun _ _ _ _ _ => rfl, (froz_os hl).rep hle (Or.inr ⟨β, h1, fun i row hi => ?_⟩) hr, g2⟩
    obtain ⟨e1, e2⟩ := g3 i (row.map .d) (by simp [hi])
    refine ⟨by simpa using e1, RepC.of_get fun o t ho => ?_⟩
    obtain ⟨v, e3, e4⟩ := e2 o (.d t) (by simp [ho])
    rw [RepO] at e4
    exact ⟨v, e3, e4⟩
/-- rows that are plain, told as plain -/
structure FzR (a : List (List OV)) (b : List (List TV)) : Prop where
  eq : a = b.map fun r => r.map .d
structure FzC (a : List OV) (b : List TV) : Prop where
  eq : a = b.map .d
theorem FzC.nil : FzC [] [] := ⟨rfl⟩
theorem FzC.cons {t : TV} {a : List OV} {b : List TV} (h : FzC a b) : FzC (.d t :: a) (t :: b) := ⟨by rw [h.eq]; rfl⟩
theorem FzC.map (b : List TV) : FzC (b.map .d) b := ⟨rfl⟩
theorem FzR.nil : FzR [] [] := ⟨rfl⟩
theorem FzR.cons {r : List OV} {t : List TV} {a : List (List OV)} {b : List (List TV)} (h1 : FzC r t) (h : FzR a b) : FzR (r :: a) (t :: b) := ⟨by rw [h1.eq, h.eq]; rfl⟩
theorem FzR.app {a a' : List (List OV)} {b b' : List (List TV)} (h : FzR a b) (h' : FzR a' b') : FzR (a ++ a') (b ++ b') := ⟨by rw [h.eq, h'.eq, List.map_append]⟩
theorem FzR.d (b : List (List TV)) : FzR (b.map fun r => r.map .d) b := ⟨rfl⟩
theorem FzR.take {a : List (List OV)} {b : List (List TV)} (n : Nat) (h : FzR a b) : FzR (a.take n) (b.take n) := ⟨by rw [h.eq, List.map_take]⟩
theorem FzR.drop {a : List (List OV)} {b : List (List TV)} (n : Nat) (h : FzR a b) : FzR (a.drop n) (b.drop n) := ⟨by rw [h.eq, List.map_drop]⟩
theorem FzR.of {α : Type} {f : α → List OV} {g : α → List TV} (h : ∀ a, f a = (g a).map .d) (l : List α) : FzR (l.map f) (l.map g) := ⟨by rw [List.map_map]; exact List.map_congr_left fun a _ => h a⟩
theorem FzR.ints (l : List Int) : FzR (l.map (cellO .i64)) (l.map cell) := FzR.of (f := cellO .i64) (g := cell) (fun _ => rfl) l
theorem S_mvfz {t k s m : Nat} {τ : Stamp} {a : List (List OV)} {rows : List (List TV)} (hm : Frozen t) (hx : tm t = some (.os k τ s m)) (hk : σ k = some (τ, ⟨s, a⟩)) (hr : FzR a rows) (hl : m = a.length)
    (hcont : AO E.P v ops K (j + 1) rest (tm.putO dst (.d (.sl s rows))) (σ.apply [(k, none)])) : AO E.P v ops K j (⟨dst, .move (.tmp t), ty, pos, af, none⟩ :: rest) tm σ := ao_step (Y_mvfz hm hx (by rw [hk, hr.eq]) (by rw [hl, hr.eq, List.length_map])) hcont
end
end Go.Proofs.YtnghoibkjphfmaaGreat
/- Calls that are handed rows of the caller's own, and may write them: closures over variables. -/
set_option linter.unusedVariables false
namespace Go.Proofs.YtnghoibkjphfmaaGreat
open Go.RowKit
/-- What a call answers that is handed the rows σ0, and what these are then. -/
def FnW (P : Program) (f : FuncId) (args : List OV) (σ0 : Store) (R : OV → Store → Prop) : Prop :=
  Enters P f ∧ ∀ (G : Gh) (w : World) (vs : List Value) (N : Nat), RepOL G args vs → WRel ⟨w, Blks G σ0, G, N⟩ G σ0 w →
    Calls P f vs.toArray w (fun e w' => ∃ x G' r σ', e = .returned x ∧ R r σ' ∧ G.le G' ∧ RepO G' r x ∧ WRel ⟨w, Blks G σ0, G, N⟩ G' σ' w')
theorem FnW.toR {P : Program} {f : FuncId} {args : List OV} {R : OV → Store → Prop} (h : FnW P f args Store.nil R) : FnR P f args R :=
  ⟨h.1, fun G w vs N h1 h2 => by
    have := h.2 G w vs N h1
    rw [blks_nil] at this
    exact this h2⟩
/-- what the caller has behind the call: its other rows as they were, the rows handed over as they are then -/
def Behind (σ σ0 σ1 σ' : Store) : Prop := ∀ k τ r, σ' k = some (τ, r) → (σ0 k = none ∧ σ k = some (τ, r)) ∨ (σ1 k = some (τ, r) ∧ ∃ r0, σ0 k = some (τ, r0))
theorem WRel.backW {Γ : Ctx} {G G' : Gh} {σ σ0 σ1 σ' : Store} {w w' : World} {N : Nat} (h : WRel Γ G σ w) (hle : σ0.le σ) (h' : WRel ⟨w, Blks G σ0, G, N⟩ G' σ1 w') (hN : Γ.N ≤ N) (hb : Behind σ σ0 σ1 σ') : WRel Γ G' σ' w' := by
  have own' : ∀ k τ r β, σ k = some (τ, r) → G'.μ k τ = some (some β) → G.μ k τ = some (some β) := fun k τ r β hk hμ => by
    rcases h.own k τ r hk with ⟨h1, h2⟩ | ⟨β0, h1, h2⟩
    · have := h'.g0.2 _ _ _ h1; rw [hμ] at this; cases this
    · have := h'.g0.2 _ _ _ h1; rw [hμ] at this; cases this; exact h1
  have old : ∀ k τ r, σ' k = some (τ, r) → ∃ r0, σ k = some (τ, r0) := fun k τ r hk => by
    rcases hb k τ r hk with ⟨_, h1⟩ | ⟨_, r0, h1⟩
    · exact ⟨r, h1⟩
    · exact ⟨r0, hle _ _ h1⟩
  have blk : ∀ b, Blks G σ0 b → Γ.w0.heap.size ≤ b ∨ Γ.S b := fun b ⟨k, τ, r, β, h1, h2, h3⟩ => by
    rcases h.own k τ r (hle _ _ h1) with ⟨g1, _⟩ | ⟨β0, g1, _, _, g2⟩
    · rw [h2] at g1; cases g1
    · rw [h2] at g1; cases g1; rw [← h3]; exact g2
  refine ⟨h'.mem, ?_, ?_, ?_, Nat.le_trans h.size h'.size, h'.tape.trans h.tape, h'.os.trans h.os, h'.output.trans h.output, h.g0.trans h'.g0, ?_, h'.bound, fun k v i hv => (h'.low k v i (Nat.lt_of_lt_of_le hv hN)).trans (h.low k v i hv)⟩
  · intro k τ r hk
    rcases hb k τ r hk with ⟨h0, h1⟩ | ⟨h1, r0, h0⟩
    · rcases h.own k τ r h1 with ⟨g1, g2⟩ | ⟨β, g1, g2, g3, g4⟩
      · exact Or.inl ⟨h'.g0.2 _ _ _ g1, g2⟩
      · have hn : ¬ Blks G σ0 β.b := fun ⟨k', τ', r', β', e1, e2, e3⟩ => by
          have := h.inj k' k τ' τ β' β r' r (hle _ _ e1) h1 e2 g1 e3
          subst this
          rw [h0] at e1; cases e1
        refine Or.inr ⟨β, h'.g0.2 _ _ _ g1, (g2.of_heap (h'.keep β.b g2.lt hn)).mono h'.g0, fun o => ?_, g4⟩
        cases hm : G'.M β.b o with
        | none => rfl
        | some x =>
          rcases h'.new _ _ _ hm with e | e | e
          · have := g3 o; rw [show G.M β.b o = some x from e] at this; cases this
          · have := g2.lt; exact (Nat.not_lt.2 e this).elim
          · exact (hn e).elim
    · rcases h'.own k τ r h1 with g | ⟨β, g1, g2, g3, _⟩
      · exact Or.inl g
      · have e1 := own' k τ r0 β (hle _ _ h0) g1
        exact Or.inr ⟨β, g1, g2, g3, blk _ ⟨k, τ, r0, β, h0, e1, rfl⟩⟩
  · intro k k' τ τ' β β' r r' hk hk' hμ hμ' e
    obtain ⟨r0, h1⟩ := old k τ r hk
    obtain ⟨r0', h1'⟩ := old k' τ' r' hk'
    exact h.inj k k' τ τ' β β' r0 r0' h1 h1' (own' _ _ _ _ h1 hμ) (own' _ _ _ _ h1' hμ') e
  · intro b hb' hS
    refine (h'.keep b (Nat.lt_of_lt_of_le hb' h.size) fun hB => ?_).trans (h.keep b hb' hS)
    rcases blk b hB with e | e
    · exact Nat.not_lt.2 e hb'
    · exact hS e
  · intro b o x hm
    rcases h'.new b o x hm with e | e | e
    · exact h.new b o x e
    · exact Or.inr (Or.inl (Nat.le_trans h.size e))
    · exact Or.inr (blk b e)
section
variable {P : Program} {v j : Nat} {tm : Tm} {σ : Store} {dst : Option Tmp} {ty : TypeId} {pos : String} {af : Array Edge} {gd : Option (Nat × Bool)} {K : OV → Store → Prop}
theorem call_coreW {x : Operand} {xs : List Operand} {tys : Array TypeId} {y : OV} {f : FuncId} {fi ca ys : List OV} {σ0 : Store} {R : OV → Store → Prop} (hx : ev tm x = some y) (hf : IsFn y f fi ca) (ha : evs tm xs = some ys) (hc : FnW P f (fi ++ ys ++ ca) σ0 R)
    {Γ : Ctx} {G : Gh} {ρ : Operand → Value} {w : World} (hρ : ∀ z ∈ (Op.call { callee := .value x, args := xs.toArray, argTypes := tys }).operands, ∀ y, ev tm z = some y → RepO G y (ρ z)) (hw : WRel Γ G σ w) (hle : σ0.le σ) :
    ∃ f' args, (execOp ρ ⟨dst, .call { callee := .value x, args := xs.toArray, argTypes := tys }, ty, pos, af, gd⟩).run P w = .ok (.enter f' args) w ∧
      Calls P f' args w (fun e w' => ∃ x G' r σ', e = .returned x ∧ R r σ' ∧ G.le G' ∧ RepO G' r x ∧ WRel ⟨w, Blks G σ0, G, v + 1⟩ G' σ' w') := by
  obtain ⟨vs, us, h1, h2, h3⟩ := hf.rep (hρ x (by simp [Op.operands, Call.operands]) y hx)
  have h4 := evs_rep ha fun z hz => hρ z (by simp [Op.operands, Call.operands, hz])
  refine ⟨f, _, run_call h1 hc.1, ?_⟩
  have h5 := hc.2 G w (vs.toList ++ xs.map ρ ++ us.toList) (v + 1) ((h2.append h4).append h3) (hw.startW hle (v + 1))
  have e : (vs.toList ++ xs.map ρ ++ us.toList).toArray = vs ++ (xs.map ρ).toArray ++ us := by simp
  rw [e] at h5
  exact h5
/-- the caller's store behind the call: the first list's keys are the second's -/
def outD (l1 : List (Nat × (Stamp × Row))) : Diff := l1.map fun e => (e.1, some e.2)
def keysOf (l : List (Nat × (Stamp × Row))) : List (Nat × Stamp) := l.map fun e => (e.1, e.2.1)
theorem stL_get : ∀ {l : List (Nat × (Stamp × Row))} {k : Nat} {x : Stamp × Row}, stL l k = some x → k ∈ l.map (·.1)
  | [], k, x, h => by cases h
  | (d, y) :: l, k, x, h => by
    unfold stL at h
    cases hb : Nat.beq k d with
    | true => rw [Nat.eq_of_beq_eq_true hb]; simp
    | false => rw [hb] at h; simp [stL_get (show stL l k = some x from h)]
theorem stL_none : ∀ {l : List (Nat × (Stamp × Row))} {k : Nat}, k ∉ l.map (·.1) → stL l k = none
  | [], k, h => rfl
  | (d, y) :: l, k, h => by
    unfold stL
    simp only [List.map_cons, List.mem_cons, not_or] at h
    rw [beq_ne h.1]
    exact stL_none h.2
theorem stL_cons (d : Nat) (y : Stamp × Row) (l : List (Nat × (Stamp × Row))) (k : Nat) : stL ((d, y) :: l) k = bif Nat.beq k d then some y else stL l k := rfl
theorem applyD_out : ∀ (l : List (Nat × (Stamp × Row))) (σ : Store) (k : Nat), (l.map (·.1)).Nodup → (σ.apply (outD l)) k = match stL l k with | some x => some x | none => σ k
  | [], σ, k, _ => rfl
  | (d, y) :: l, σ, k, hn => by
    simp only [List.map_cons, List.nodup_cons] at hn
    have ih := applyD_out l (σ.put d y) k hn.2
    show (Store.apply (σ.put d y) (outD l)) k = _
    rw [ih, stL_cons]
    cases hb : Nat.beq k d with
    | true =>
      have e := Nat.eq_of_beq_eq_true hb
      subst e
      rw [stL_none hn.1]
      exact Store.put_self σ k y
    | false =>
      have h1 : σ.put d y k = σ k := by simp [Store.put, hb]
      rw [h1]; rfl
theorem keys_stamp : ∀ {l0 l1 : List (Nat × (Stamp × Row))}, keysOf l0 = keysOf l1 → ∀ {k : Nat} {x : Stamp × Row}, stL l1 k = some x → ∃ r0, stL l0 k = some (x.1, r0)
  | [], [], _, k, x, h => by cases h
  | [], _ :: _, e, _, _, _ => by cases e
  | _ :: _, [], e, _, _, _ => by cases e
  | (d0, y0) :: l0, (d1, y1) :: l1, e, k, x, h => by
    simp only [keysOf, List.map_cons, List.cons.injEq, Prod.mk.injEq] at e
    obtain ⟨⟨rfl, e2⟩, e3⟩ := e
    unfold stL at h ⊢
    cases hb : Nat.beq k d0 with
    | true =>
      rw [hb] at h
      cases h
      exact ⟨y0.2, by rw [← e2]; rfl⟩
    | false =>
      rw [hb] at h
      exact keys_stamp e3 h
theorem keys_none {l0 l1 : List (Nat × (Stamp × Row))} (e : keysOf l0 = keysOf l1) {k : Nat} (h : stL l1 k = none) : stL l0 k = none := by
  cases hh : stL l0 k with
  | none => rfl
  | some x =>
    obtain ⟨r0, h1⟩ := keys_stamp e.symm hh
    rw [h] at h1; cases h1
/-- the contract's answer, and the rows as they are then -/
def IsW (r : OV) (σ1 : Store) : OV → Store → Prop := fun r' σ' => r' = r ∧ σ1.le σ'
theorem Y_callw {x : Operand} {xs : List Operand} {tys : Array TypeId} {y : OV} {f : FuncId} {fi ca ys : List OV} {r : OV} {l0 l1 : List (Nat × (Stamp × Row))} (hx : ev tm x = some y) (hf : IsFn y f fi ca) (ha : evs tm xs = some ys) (hc : FnW P f (fi ++ ys ++ ca) (stL l0) (IsW r (stL l1)))
    (hle : (stL l0).le σ) (hk : keysOf l0 = keysOf l1) (hn : (l1.map (·.1)).Nodup) :
    YL P v j ⟨dst, .call { callee := .value x, args := xs.toArray, argTypes := tys }, ty, pos, af, gd⟩ tm σ (l0.map (·.1)) r (outD l1) := fun σ' hσ Γ G ρ w hv _ hρ hw => by
  have hle' : (stL l0).le σ' := fun k x hx => by rw [hσ k (stL_get hx)]; exact hle k x hx
  obtain ⟨f', args, h1, h2⟩ := call_coreW (v := v) hx hf ha hc hρ hw hle'
  rw [h1]
  refine h2.mono fun e w' ⟨x, G', r', σ2, h3, ⟨h4, h4'⟩, h5, h6, h7⟩ => ⟨x, h3, G', h5, fun k v' i hv' _ => h7.low k v' i (Nat.lt_succ_of_le hv'), by rw [← h4]; exact h6, hw.backW hle' h7 (Nat.le_succ_of_le hv) fun k τ r hkr => ?_⟩
  rw [applyD_out l1 σ' k hn] at hkr
  cases h8 : stL l1 k with
  | some x =>
    rw [h8] at hkr
    cases hkr
    exact Or.inr ⟨h4' _ _ h8, keys_stamp hk h8⟩
  | none =>
    rw [h8] at hkr
    exact Or.inl ⟨keys_none hk h8, hkr⟩
end
/-- functions that are handed rows -/
theorem fnw_core {P : Program} {f : FuncId} {fn : Func} {c : Code} {n : Nat} {args : List OV} {σ0 : Store} {Q : Exit → Tm → Store → Prop} {R : OV → Store → Prop} (hf : P.funcs[f]? = some fn) (hname : (fn.name == "runtime.NumGoroutine") = false) (hb : fn.body = some c) (hn : fn.ntmps = n) (hl : args.length ≤ n)
    (hq : ∀ e G tm σ C a w, SRel n C G tm σ a w → Q e tm σ → (e = .normal ∨ e = .ret) ∧ ∃ x r, (results fn a.tmps).run P w = .ok x w ∧ RepO G r x ∧ R r σ)
    (h : awp P n c Q (Tm.ini args) σ0) : FnW P f args σ0 R :=
  ⟨⟨fn, hf, hname, by rw [hb]; rfl⟩, fun G w vs N hv hw => body_calls hf hb hn hl h hv rfl hw rfl hq⟩
/-- no result -/
def Done0 (R : OV → Store → Prop) : Exit → Tm → Store → Prop
  | .normal, _, σ => R (.tu []) σ
  | .ret, _, σ => R (.tu []) σ
  | _, _, _ => False
section
variable {E : Env} {v j : Nat} {ops : Array Oper} {K : Tm → Store → Prop} {KD : List Foot → Tm → Store → Prop} {acc : List Foot} {rest : List Oper} {tm : Tm} {σ : Store} {ty : TypeId} {pos : String} {af : Array Edge} {gd : Option (Nat × Bool)} {dst : Option Tmp}
theorem S_callw {x : Operand} {xs : List Operand} {tys : Array TypeId} {y : OV} {f : FuncId} {fi ca ys : List OV} {r : OV} {l0 l1 : List (Nat × (Stamp × Row))} (hx : ev tm x = some y) (hf : IsFn y f fi ca) (ha : evs tm xs = some ys) (hc : FnW E.P f (fi ++ ys ++ ca) (stL l0) (IsW r (stL l1)))
    (hle : (stL l0).le σ) (hk : keysOf l0 = keysOf l1) (hn : (l1.map (·.1)).Nodup)
    (hcont : AO E.P v ops K (j + 1) rest (tm.putO dst r) (σ.apply (outD l1))) : AO E.P v ops K j (⟨dst, .call { callee := .value x, args := xs.toArray, argTypes := tys }, ty, pos, af, none⟩ :: rest) tm σ := ao_step (Y_callw hx hf ha hc hle hk hn) hcont
end
/-! ### calls that hand over rows of their own, too -/
/-- what was handed over is gone, what is handed back is there -/
def dels (l0 : List (Nat × (Stamp × Row))) : Diff := l0.map fun e => (e.1, none)
theorem applyD_del : ∀ (l : List (Nat × (Stamp × Row))) (σ : Store) (k : Nat), (σ.apply (dels l)) k = match stL l k with | some _ => none | none => σ k
  | [], σ, k => rfl
  | (d, y) :: l, σ, k => by
    show (Store.apply (σ.del d) (dels l)) k = _
    rw [applyD_del l (σ.del d) k, stL_cons]
    cases hb : Nat.beq k d with
    | true =>
      have e := Nat.eq_of_beq_eq_true hb
      subst e
      rw [Store.del_self]
      cases stL l k <;> rfl
    | false =>
      have h1 : σ.del d k = σ k := by simp [Store.del, hb]
      rw [h1]; rfl
/-- a contract's answer: for some x, this value, these rows -/
def IsX {X : Type} (I : X → Prop) (r0 : X → OV) (l1 : X → List (Nat × (Stamp × Row))) : OV → Store → Prop := fun r σ' => ∃ x, I x ∧ r = r0 x ∧ (stL (l1 x)).le σ'
section
variable {P : Program} {v j : Nat} {tm : Tm} {σ : Store} {dst : Option Tmp} {ty : TypeId} {pos : String} {af : Array Edge} {gd : Option (Nat × Bool)} {K : OV → Store → Prop}
end
section
variable {E : Env} {v j : Nat} {ops : Array Oper} {K : Tm → Store → Prop} {KD : List Foot → Tm → Store → Prop} {acc : List Foot} {rest : List Oper} {tm : Tm} {σ : Store} {ty : TypeId} {pos : String} {af : Array Edge} {gd : Option (Nat × Bool)} {dst : Option Tmp}
end
section
variable {E : Env} {v j : Nat} {ops : Array Oper} {K : Tm → Store → Prop} {KD : List Foot → Tm → Store → Prop} {acc : List Foot} {rest : List Oper} {tm : Tm} {σ : Store} {ty : TypeId} {pos : String} {af : Array Edge} {gd : Option (Nat × Bool)} {dst : Option Tmp}
/-- a variable that closures write: its row lies at a key of its own -/
structure KeyOf (d k : Nat) : Prop where
  ok : True
theorem Y_allocK {d k : Nat} {T : TypeId} {te : TE} (hm : KeyOf d k) (hT : E.tab T = some te) : YL E.P v j ⟨some d, .alloc T, ty, pos, af, gd⟩ tm σ [] (.lo k (v, j) te.size 0 0) [(k, some ((v, j), ⟨te.size, [consts te.zero]⟩))] :=
  fun σ _ Γ G ρ w hv hf _ hw => by
  obtain ⟨z, hz, hzc⟩ := run_zeroValue' (E.ok T te hT) w
  obtain ⟨_, i, z', _, _, _, _, _, hlen, hone⟩ := E.ok T te hT
  have hr : (execOp ρ ⟨some d, .alloc T, ty, pos, af, gd⟩).run E.P w = .ok (.value (.pointer (some ⟨w.heap.size, 0, none⟩))) (w.alloc (.cells z.cells T)) := by
    simp only [execOp, Instr.alloc, Sem.run_bind, hz, Result.andThen_ok, newVar, newRow, run_newObj, Sem.run_pure]; rfl
  rw [hr]
  have hsz : z.cells.size = te.size := by rw [← Array.length_toList, hzc, hlen]
  refine Leaves.alloc hw hv hf z.cells T (by simp [hsz]) (RowAt.one (by rw [hzc]; exact consts_rep hone) (by simp [consts, hlen])) ?_
  rw [RepO]
  exact ⟨_, Gh.name_self _ _ _ _, by simp⟩
theorem Y_boxK {d k : Nat} {T : TypeId} {x : Operand} {y : OV} {n : Nat} (hm : KeyOf d k) (hx : ev tm x = some y) (hw' : y.wide = true) (hn : y.cells.length = n) : YL E.P v j ⟨some d, .box T x, ty, pos, af, gd⟩ tm σ [] (.lo k (v, j) n 0 0) [(k, some ((v, j), ⟨n, [y.cells]⟩))] :=
  fun σ _ Γ G ρ w hv hf hρ hw => by
  obtain ⟨h1, h2⟩ := (hρ x (by simp [Op.operands]) _ hx).cells hw'
  have hr : (execOp ρ ⟨some d, .box T x, ty, pos, af, gd⟩).run E.P w = .ok (.value (.pointer (some ⟨w.heap.size, 0, none⟩))) (w.alloc (.cells (ρ x).cells T)) := by
    simp only [execOp, Instr.box, Sem.run_bind, Result.andThen_ok, newVar, newRow, run_newObj, Sem.run_pure]; rfl
  rw [hr]
  refine Leaves.alloc hw hv hf _ T (by have := h1.length; simp at this; simp; omega) (RowAt.one h1 hn) ?_
  rw [RepO]
  exact ⟨_, Gh.name_self _ _ _ _, by simp⟩
theorem S_allocK {d k : Nat} {T : TypeId} {te : TE} (hm : KeyOf d k) (hT : E.tab T = some te) (hcont : AO E.P v ops K (j + 1) rest (tm.putO (some d) (.lo k (v, j) te.size 0 0)) (σ.apply [(k, some ((v, j), ⟨te.size, [consts te.zero]⟩))])) : AO E.P v ops K j (⟨some d, .alloc T, ty, pos, af, none⟩ :: rest) tm σ := ao_step (Y_allocK hm hT) hcont
theorem S_boxK {d k : Nat} {T : TypeId} {x : Operand} {y : OV} {n : Nat} (hm : KeyOf d k) (hx : ev tm x = some y) (hw' : y.wide = true) (hn : y.cells.length = n) (hcont : AO E.P v ops K (j + 1) rest (tm.putO (some d) (.lo k (v, j) n 0 0)) (σ.apply [(k, some ((v, j), ⟨n, [y.cells]⟩))])) : AO E.P v ops K j (⟨some d, .box T x, ty, pos, af, none⟩ :: rest) tm σ := ao_step (Y_boxK hm hx hw' hn) hcont
end
end Go.Proofs.YtnghoibkjphfmaaGreat
/- The end of a function: results in slots, in cells. -/
set_option linter.unusedVariables false
namespace Go.Proofs.YtnghoibkjphfmaaGreat
open Go.RowKit
theorem ld_lo {E : Env} {Γ : Ctx} {G : Gh} {σ : Store} {w : World} (hw : WRel Γ G σ w) {T : TypeId} {te : TE} {k : Nat} {τ : Stamp} {s : Nat} {rows : List (List OV)} {row : List OV} {x : Value} (hT : E.tab T = some te) (hx : RepO G (.lo k τ s 0 0) x)
    (hs : σ k = some (τ, ⟨s, rows⟩)) (hr : rows[0]? = some row) (ha : te.k.isAgg = true) (hl : te.size = row.length) : ∃ v, (do loadVar T (← asAddr x) : Sem Value).run E.P w = .ok v w ∧ RepO G (.ag row) v := by
  rw [RepO] at hx
  obtain ⟨β, hμ, h1⟩ := hx
  obtain ⟨cs, h2, h3, h4, h5⟩ := hw.blk hs hμ
  have hget : ∀ j, j < te.size → ∃ v, w.cell? ⟨β.b, 0 * s + 0 + j, none⟩ = some v ∧ ∃ t, row[0 + j]? = some t ∧ RepO G t v := fun j hj => by
    obtain ⟨v, h6, h7⟩ := (h5 0 row hr).2 (0 + j) _ (List.getElem?_eq_getElem (l := row) (i := 0 + j) (by omega))
    exact ⟨v, by simpa [World.cell?, h2, Nat.add_assoc] using h6, _, List.getElem?_eq_getElem (by omega), h7⟩
  have hv : ∀ j, j < te.size → w.cell? ((⟨β.b, 0 * s + 0, none⟩ : Addr).add j) = some ((w.cell? ⟨β.b, 0 * s + 0 + j, none⟩).getD undef) := fun j hj => by
    obtain ⟨v, h3, _⟩ := hget j hj
    rw [add_spot, h3]; rfl
  have hr' := run_loadCells (P := E.P) w ⟨β.b, 0 * s + 0, none⟩ te.size (fun j => (w.cell? ⟨β.b, 0 * s + 0 + j, none⟩).getD undef) hv
  refine ⟨.agg ((List.range te.size).map (fun j => (w.cell? ⟨β.b, 0 * s + 0 + j, none⟩).getD undef)).toArray, by simp only [h1, asAddr, loadVar, Sem.run_bind, Sem.run_pure, run_isAgg (E.ok T te hT), ha, Result.andThen_ok, if_true, run_sizeOf' (E.ok T te hT), hr'], ?_⟩
  rw [RepO]
  refine ⟨_, rfl, RepOL.of_get (by simp; omega) fun i t v h3 h4 => ?_⟩
  have hi : i < te.size := by
    rcases Nat.lt_or_ge i te.size with h | h
    · exact h
    · rw [List.getElem?_eq_none (by simp; omega)] at h4; cases h4
  obtain ⟨u, h5, t', h6, h7⟩ := hget i hi
  have h5' : w.cell? ⟨β.b, i, none⟩ = some u := by simpa using h5
  have e1 : v = u := by simpa [hi, h5'] using h4.symm
  rw [Nat.zero_add, h3] at h6
  cases h6
  rw [e1]; exact h7
/-- what a function's result holds -/
def ResAt (E : Env) (tm : Tm) (σ : Store) : ResultVar → OV → Prop
  | .tmp t, r => tm t = some r
  | .cell t T, r => ∃ te k τ row rest, E.tab T = some te ∧ te.k.isAgg = true ∧ te.size = row.length ∧ tm t = some (.lo k τ te.size 0 0) ∧ σ k = some (τ, ⟨te.size, row :: rest⟩) ∧ r = .ag row
def ResAll (E : Env) (tm : Tm) (σ : Store) : List ResultVar → List OV → Prop
  | [], rs => rs = []
  | v :: vs, rs => ∃ r rs', rs = r :: rs' ∧ ResAt E tm σ v r ∧ ResAll E tm σ vs rs'
def packO : List OV → OV
  | [r] => r
  | rs => .tu rs
def DoneN (E : Env) (vs : List ResultVar) (R : OV → Store → Prop) : Exit → Tm → Store → Prop
  | .normal, tm, σ => ∃ rs, ResAll E tm σ vs rs ∧ R (packO rs) σ
  | .ret, tm, σ => ∃ rs, ResAll E tm σ vs rs ∧ R (packO rs) σ
  | _, _, _ => False
def resOne (tmps : Array Value) : ResultVar → Sem Value
  | .tmp t => pure (tmps.getD t undef)
  | .cell a t => do loadVar t (← asAddr (tmps.getD a undef))
theorem res_one {E : Env} {n : Nat} {C : Cx} {G : Gh} {tm : Tm} {σ : Store} {a : Act} {w : World} (hs : SRel n C G tm σ a w) {v : ResultVar} {r : OV} (h : ResAt E tm σ v r) : ∃ x, (resOne a.tmps v).run E.P w = .ok x w ∧ RepO G r x := by
  cases v with
  | tmp t =>
    exact ⟨_, by simp only [resOne, Sem.run_pure], hs.tm.val h⟩
  | cell t T =>
    obtain ⟨te, k, τ, row, rest, h1, h2, h3, h4, h5, rfl⟩ := h
    have h7 := hs.tm.val h4
    simp only [resOne]
    exact ld_lo hs.w h1 h7 h5 rfl h2 h3
theorem res_all {E : Env} {n : Nat} {C : Cx} {G : Gh} {tm : Tm} {σ : Store} {a : Act} {w : World} (hs : SRel n C G tm σ a w) : ∀ {vs : List ResultVar} {rs : List OV}, ResAll E tm σ vs rs → ∃ xs, (vs.mapM (resOne a.tmps)).run E.P w = .ok xs w ∧ RepOL G rs xs
  | [], rs, h => by
    rw [ResAll] at h; subst h
    exact ⟨[], by simp, by rw [RepOL]⟩
  | v :: vs, rs, h => by
    rw [ResAll] at h
    obtain ⟨r, rs', rfl, h1, h2⟩ := h
    obtain ⟨x, h3, h4⟩ := res_one hs h1
    obtain ⟨xs, h5, h6⟩ := res_all hs h2
    exact ⟨x :: xs, by simp [List.mapM_cons, h3, h5], by rw [RepOL]; exact ⟨x, xs, rfl, h4, h6⟩⟩
def resVal (xs : List Value) : Value := if h : xs.toArray.size = 1 then xs.toArray[0] else .tuple xs.toArray
theorem results_eq (fn : Func) (tmps : Array Value) : results fn tmps = (fn.results.mapM (resOne tmps)) >>= fun vs => pure (if h : vs.size = 1 then vs[0] else .tuple vs) := by
  unfold results
  refine congrArg (· >>= _) (congrArg (fun f => Array.mapM f fn.results) (funext fun x => ?_))
  cases x <;> rfl
theorem results_run {P : Program} {w w' : World} {fn : Func} {vs : List ResultVar} {xs : List Value} (hr : fn.results = vs.toArray) (tmps : Array Value) (h : (vs.mapM (resOne tmps)).run P w = .ok xs w') : (results fn tmps).run P w = .ok (resVal xs) w' := by
  have e : (fn.results.mapM (resOne tmps)).run P w = .ok xs.toArray w' := by
    rw [hr, List.mapM_toArray]
    simp [h]
  rw [results_eq]
  simp only [Sem.run_bind, e, Result.andThen_ok, Sem.run_pure]
  rfl
theorem fn_of_awpN {E : Env} {f : FuncId} {fn : Func} {c : Code} {n : Nat} {vs : List ResultVar} {args : List OV} {σ0 : Store} {R : OV → Store → Prop} (hf : E.P.funcs[f]? = some fn) (hname : (fn.name == "runtime.NumGoroutine") = false) (hb : fn.body = some c) (hn : fn.ntmps = n) (hl : args.length ≤ n) (hr : fn.results = vs.toArray)
    (h : awp E.P n c (DoneN E vs R) (Tm.ini args) σ0) : FnW E.P f args σ0 R := by
  refine fnw_core hf hname hb hn hl (fun e G tm σ Γ a w hs hd => ?_) h
  have key : (∃ rs, ResAll E tm σ vs rs ∧ R (packO rs) σ) → ∃ x r, (results fn a.tmps).run E.P w = .ok x w ∧ RepO G r x ∧ R r σ := fun ⟨rs, h1, h2⟩ => by
    obtain ⟨xs, h3, h4⟩ := res_all hs h1
    refine ⟨resVal xs, packO rs, results_run hr _ h3, ?_, h2⟩
    · cases rs with
      | nil => rw [RepOL] at h4; subst h4; simp only [packO]; rw [RepO]; exact ⟨#[], rfl, by rw [RepOL]⟩
      | cons r rs =>
        rw [RepOL] at h4
        obtain ⟨x, xs', rfl, h5, h6⟩ := h4
        cases rs with
        | nil => rw [RepOL] at h6; subst h6; exact h5
        | cons r' rs =>
          have h7 := h6
          rw [RepOL] at h6
          obtain ⟨x', xs2, rfl, _, _⟩ := h6
          simp only [packO]
          rw [RepO]
          exact ⟨(x :: x' :: xs2).toArray, by simp [resVal], by rw [RepOL]; exact ⟨_, _, rfl, h5, h7⟩⟩
  cases e <;> first | exact hd.elim | exact ⟨by simp, key hd⟩
end Go.Proofs.YtnghoibkjphfmaaGreat
/- Steps whose new rows lie at a key that a mark names, or are frozen at once (printed by program). -/
set_option linter.unusedVariables false
namespace Go.Proofs.YtnghoibkjphfmaaGreat
open Go.RowKit
theorem get_set_ne {α β : Type} {f : α → β} {l : List α} {i j : Nat} {r : β} (h : i < l.length) (hne : j ≠ i) (d : α) : ((l.map f).set j r)[i]? = some (f (l.getD i d)) := by
  rw [List.getElem?_set_ne hne]; exact get_map h d
theorem YL.dst {P : Program} {v j : Nat} {d d' : Option Tmp} {op : Op} {ty : TypeId} {pos : String} {af : Array Edge} {gd : Option (Nat × Bool)} {tm : Tm} {σ : Store} {ks : List Nat} {r : OV} {δ : Diff} (h : YL P v j ⟨d, op, ty, pos, af, gd⟩ tm σ ks r δ) : YL P v j ⟨d', op, ty, pos, af, gd⟩ tm σ ks r δ := h
theorem Leaves.frz {Γ : Ctx} {G : Gh} {v j : Nat} {σ : Store} {x : Value} {w : World} {k s n : Nat} {a : List (List OV)} {rows : List (List TV)} (hr : FzR a rows) (hn : n = a.length)
    (h : Leaves Γ G v j (.os k (v, j) s n) (σ.put k ((v, j), ⟨s, a⟩)) x w) : Leaves Γ G v j (.d (.sl s rows)) (σ.del k) x w := by
  obtain ⟨G', h1, h2, h3, h4⟩ := h
  have hk : (σ.put k ((v, j), ⟨s, a⟩)) k = some ((v, j), ⟨s, rows.map fun r => r.map .d⟩) := by rw [Store.put_self, hr.eq]
  have hl : n = rows.length := by rw [hn, hr.eq, List.length_map]
  have hdel : ∀ {G w}, WRel Γ G ((σ.put k ((v, j), ⟨s, a⟩)).del k) w → WRel Γ G (σ.del k) w := fun h => h.forget fun i y hi => by
    by_cases e : i = k
    · subst e; rw [Store.del_self] at hi; cases hi
    · rw [Store.del_ne _ e] at hi ⊢; rw [Store.put_ne _ _ e]; exact hi
  rcases h4.own k _ _ hk with ⟨g1, g3⟩ | ⟨β, g1, _⟩
  · exact ⟨G', h1, h2, (froz_os hl).rep (Gh.le.refl G') (Or.inl ⟨g1, List.map_eq_nil_iff.1 g3⟩) h3, hdel (h4.del k)⟩
  · obtain ⟨M', m1, m2, m3⟩ := h4.freeze hk g1
    have hle : G'.le ⟨M', G'.μ⟩ := ⟨m1, fun _ _ _ e => e⟩
    refine ⟨⟨M', G'.μ⟩, h1.trans hle, h2, (froz_os hl).rep hle (Or.inr ⟨β, g1, fun i row hi => ?_⟩) h3, hdel m2⟩
    obtain ⟨e1, e2⟩ := m3 i (row.map .d) (by simp [hi])
    refine ⟨by simpa using e1, RepC.of_get fun o t ho => ?_⟩
    obtain ⟨u, e3, e4⟩ := e2 o (.d t) (by simp [ho])
    rw [RepO] at e4
    exact ⟨u, e3, e4⟩
theorem YL.frz {P : Program} {v j : Nat} {o : Oper} {tm : Tm} {σ : Store} {ks : List Nat} {k s n : Nat} {a : List (List OV)} {rows : List (List TV)} (hr : FzR a rows) (hn : n = a.length)
    (h : YL P v j o tm σ ks (.os k (v, j) s n) [(k, some ((v, j), ⟨s, a⟩))]) : YL P v j o tm σ ks (.d (.sl s rows)) [(k, none)] := fun σ' hσ Γ G ρ w h1 h2 h3 h4 => by
  have := h σ' hσ Γ G ρ w h1 h2 h3 h4
  generalize (execOp ρ o).run P w = z at *
  cases z with
  | ok nx w =>
    cases nx <;> simp only [NextOk] at this ⊢
    case value x => exact Leaves.frz hr hn this
    case skip => exact Leaves.frz hr hn this
    case enter f args => exact this.mono fun e w' ⟨x, g1, g2⟩ => ⟨x, g1, Leaves.frz hr hn g2⟩
  | halt x w => simp only [NextOk] at this
section
variable {E : Env} {v j : Nat} {ops : Array Oper} {K : Tm → Store → Prop} {KD : List Foot → Tm → Store → Prop} {acc : List Foot} {rest : List Oper} {tm : Tm} {σ : Store} {ty : TypeId} {pos : String} {af : Array Edge}
theorem S_buildSliceF {d : Nat} {rowsF : List (List TV)} {T : TypeId} {n : Nat} {parts : List (Nat × Operand)} {te ee : TE} {e : TypeId} {ys : List (Nat × OV)} {cs : List OV} (hmF : Frozen d) (hT : E.tab T = some te) (hk : te.k = .slice e) (hE : E.tab e = some ee) (hpos : 0 < ee.size) (hn : n * ee.size ≤ 16777216) (hn' : n ≤ maxLen) (hp : evParts tm parts = some ys) (hc : fillO (fun i => some (i * ee.size, ee.size)) ((List.replicate n (consts ee.zero)).flatten) ys = some cs) (hrF : FzR (chop ee.size n cs) rowsF) (hnF : n = (chop ee.size n cs).length) (hcont : AO E.P v ops K (j + 1) rest (tm.putO (some d) (.d (.sl ee.size rowsF))) (σ.apply [(d, none)])) : AO E.P v ops K j (⟨some d, .buildSlice T n parts.toArray, ty, pos, af, none⟩ :: rest) tm σ := ao_step (YL.frz hrF hnF (Y_buildSlice hT hk hE hpos hn hn' hp hc)) hcont
theorem S_appendK {d kk : Nat} {T e : TypeId} {te ee : TE} {x z : Operand} {s k : Nat} {y1 y2 : OV} {ks1 ks2 : List Nat} {rows1 rows2 : List (List OV)} (hmk : KeyOf d kk) (hT : E.tab T = some te) (hk : te.k = .slice e) (hE : E.tab e = some ee) (hs : ee.size = s) (hpos : 0 < s) (hx : ev tm x = some y1) (hz : ev tm z = some y2) (h1 : Dst σ s kk y1 ks1 k rows1) (h2 : Src σ s y2 ks2 rows2) (hlf : ∀ r ∈ rows2, ∀ y ∈ r, y.leaf = true) (hb : (rows1.length + rows2.length) * ee.bytes ≤ 140737488355328) (hm : rows1.length + rows2.length ≤ maxLen) (hcont : AO E.P v ops K (j + 1) rest (tm.putO (some d) (.os k (v, j) s (rows1.length + rows2.length))) (σ.apply [(k, some ((v, j), ⟨s, rows1 ++ rows2⟩))])) : AO E.P v ops K j (⟨some d, .call { callee := .builtin .append, args := #[x, z], argTypes := #[T, T] }, ty, pos, af, none⟩ :: rest) tm σ := ao_step (YL.dst (Y_append (d := kk) hT hk hE hs hpos hx hz h1 h2 hlf hb hm)) hcont
theorem D_appendK {d kk : Nat} {T e : TypeId} {te ee : TE} {x z : Operand} {s k : Nat} {y1 y2 : OV} {ks1 ks2 : List Nat} {rows1 rows2 : List (List OV)} (hmk : KeyOf d kk) (hT : E.tab T = some te) (hk : te.k = .slice e) (hE : E.tab e = some ee) (hs : ee.size = s) (hpos : 0 < s) (hx : ev tm x = some y1) (hz : ev tm z = some y2) (h1 : Dst σ s kk y1 ks1 k rows1) (h2 : Src σ s y2 ks2 rows2) (hlf : ∀ r ∈ rows2, ∀ y ∈ r, y.leaf = true) (hb : (rows1.length + rows2.length) * ee.bytes ≤ 140737488355328) (hm : rows1.length + rows2.length ≤ maxLen) (hcont : DO E.P v ops KD (j + 1) rest (tm.putO (some d) (.os k (v, j) s (rows1.length + rows2.length))) (σ.apply [(k, some ((v, j), ⟨s, rows1 ++ rows2⟩))]) (Foot.mk (ks1 ++ ks2) (wkeys [(k, some ((v, j), ⟨s, rows1 ++ rows2⟩))]) :: acc)) : DO E.P v ops KD j (⟨some d, .call { callee := .builtin .append, args := #[x, z], argTypes := #[T, T] }, ty, pos, af, none⟩ :: rest) tm σ acc := do_step (YL.dst (Y_append (d := kk) hT hk hE hs hpos hx hz h1 h2 hlf hb hm)) hcont
theorem S_ownF {d : Nat} {rowsF : List (List TV)} {x : Operand} {xs : List Operand} {tys : Array TypeId} {y : OV} {f : FuncId} {fi ca ys : List OV} {s : Nat} {rows : List (List OV)} (hmF : Frozen d) (hx : ev tm x = some y) (hf : IsFn y f fi ca) (ha : evs tm xs = some ys) (hc : Own E.P f (fi ++ ys ++ ca) s rows) (hrF : FzR (rows) rowsF) (hnF : rows.length = (rows).length) (hcont : AO E.P v ops K (j + 1) rest (tm.putO (some d) (.d (.sl s rowsF))) (σ.apply [(d, none)])) : AO E.P v ops K j (⟨some d, .call { callee := .value x, args := xs.toArray, argTypes := tys }, ty, pos, af, none⟩ :: rest) tm σ := ao_step (YL.frz hrF hnF (Y_own hx hf ha hc)) hcont
theorem D_ownF {d : Nat} {rowsF : List (List TV)} {x : Operand} {xs : List Operand} {tys : Array TypeId} {y : OV} {f : FuncId} {fi ca ys : List OV} {s : Nat} {rows : List (List OV)} (hmF : Frozen d) (hx : ev tm x = some y) (hf : IsFn y f fi ca) (ha : evs tm xs = some ys) (hc : Own E.P f (fi ++ ys ++ ca) s rows) (hrF : FzR (rows) rowsF) (hnF : rows.length = (rows).length) (hcont : DO E.P v ops KD (j + 1) rest (tm.putO (some d) (.d (.sl s rowsF))) (σ.apply [(d, none)]) (Foot.mk [] (wkeys [(d, none)]) :: acc)) : DO E.P v ops KD j (⟨some d, .call { callee := .value x, args := xs.toArray, argTypes := tys }, ty, pos, af, none⟩ :: rest) tm σ acc := do_step (YL.frz hrF hnF (Y_own hx hf ha hc)) hcont
structure Keep (d : Nat) : Prop where
  ok : True
end
structure FzT (y : OV) (t : TV) : Prop where
  eq : y.toTV = some t
structure FzTs (ys : List OV) (ts : List TV) : Prop where
  eq : OV.toTVs ys = some ts
theorem FzT.d (t : TV) : FzT (.d t) t := ⟨by rw [OV.toTV]⟩
theorem FzTs.nil : FzTs [] [] := ⟨by rw [OV.toTVs]⟩
theorem FzTs.cons {y : OV} {ys : List OV} {t : TV} {ts : List TV} (h : FzT y t) (h' : FzTs ys ts) : FzTs (y :: ys) (t :: ts) := ⟨by rw [OV.toTVs, h.eq, h'.eq]⟩
theorem FzT.fn {f : FuncId} {fi ca : List OV} {a b : List TV} (h : FzTs fi a) (h' : FzTs ca b) : FzT (.fn f fi ca) (.fn f a b) := ⟨by rw [OV.toTV, h.eq, h'.eq]⟩
theorem FzTs.map (ts : List TV) : FzTs (ts.map .d) ts := ⟨by
  induction ts with
  | nil => rw [List.map_nil, OV.toTVs]
  | cons t ts ih => rw [List.map_cons, OV.toTVs, ih, OV.toTV]⟩
theorem Leaves.frzB {Γ : Ctx} {G : Gh} {v j : Nat} {σ : Store} {x : Value} {w : World} {k n : Nat} {cs : List OV} {row : List TV} (hc : FzTs cs row)
    (h : Leaves Γ G v j (.lo k (v, j) n 0 0) (σ.put k ((v, j), ⟨n, [cs]⟩)) x w) : Leaves Γ G v j (.d (.pt row 0)) (σ.del k) x w := by
  obtain ⟨G', h1, h2, h3, h4⟩ := h
  have hk : (σ.put k ((v, j), ⟨n, [cs]⟩)) k = some ((v, j), ⟨n, [cs]⟩) := Store.put_self _ _ _
  have hdel : ∀ {G w}, WRel Γ G ((σ.put k ((v, j), ⟨n, [cs]⟩)).del k) w → WRel Γ G (σ.del k) w := fun h => h.forget fun i y hi => by
    by_cases e : i = k
    · subst e; rw [Store.del_self] at hi; cases hi
    · rw [Store.del_ne _ e] at hi ⊢; rw [Store.put_ne _ _ e]; exact hi
  rw [RepO] at h3
  obtain ⟨β, g1, g2⟩ := h3
  obtain ⟨M', m1, m2, m3⟩ := h4.freeze hk g1
  have hle : G'.le ⟨M', G'.μ⟩ := ⟨m1, fun _ _ _ e => e⟩
  refine ⟨⟨M', G'.μ⟩, h1.trans hle, h2, ?_, hdel m2⟩
  rw [RepO, Rep]
  refine ⟨_, _, g2, RepC.of_get fun o t ho => ?_⟩
  obtain ⟨y, e1, e2⟩ := OV.toTVs_get hc.eq ho
  obtain ⟨u, e3, e4⟩ := (m3 0 cs rfl).2 o y e1
  exact ⟨u, e3, OV.toTV_rep y t u e2 e4⟩
theorem YL.frzB {P : Program} {v j : Nat} {o : Oper} {tm : Tm} {σ : Store} {ks : List Nat} {k n : Nat} {cs : List OV} {row : List TV} (hc : FzTs cs row)
    (h : YL P v j o tm σ ks (.lo k (v, j) n 0 0) [(k, some ((v, j), ⟨n, [cs]⟩))]) : YL P v j o tm σ ks (.d (.pt row 0)) [(k, none)] := fun σ' hσ Γ G ρ w h1 h2 h3 h4 => by
  have := h σ' hσ Γ G ρ w h1 h2 h3 h4
  generalize (execOp ρ o).run P w = z at *
  cases z with
  | ok nx w =>
    cases nx <;> simp only [NextOk] at this ⊢
    case value x => exact Leaves.frzB hc this
    case skip => exact Leaves.frzB hc this
    case enter f args => exact this.mono fun e w' ⟨x, g1, g2⟩ => ⟨x, g1, Leaves.frzB hc g2⟩
  | halt x w => simp only [NextOk] at this
theorem SRel.freezeB {n : Nat} {C : Cx} {G : Gh} {tm tm' : Tm} {σ σ' : Store} {a : Act} {w : World} {k s : Nat} {τ : Stamp} {cs : List OV} {row : List TV} (hs : SRel n C G tm σ a w) (hk : σ k = some (τ, ⟨s, [cs]⟩)) (hc : FzTs cs row) (ht : FrozT k τ s [row] tm tm') (hσ : FrozS k τ s [row] σ σ') :
    ∃ G', G.le G' ∧ G'.μ = G.μ ∧ SRel n C G' tm' σ' a w := by
  rcases hs.w.own k τ _ hk with ⟨h1, h2⟩ | ⟨β, h1, h2, h3, h4⟩
  · cases h2
  obtain ⟨M', g1, g2, g3⟩ := hs.w.freeze hk h1
  have hle : G.le ⟨M', G.μ⟩ := ⟨g1, fun _ _ _ e => e⟩
  have hcc : (G.μ k τ = some none ∧ [row] = []) ∨ ∃ β, G.μ k τ = some (some β) ∧ ∀ i row', [row][i]? = some row' → row'.length = s ∧ RepC M' row' β.b (i * s) := by
    refine Or.inr ⟨β, h1, fun i row' hi => ?_⟩
    cases i with
    | succ i => simp at hi
    | zero =>
      simp at hi
      subst hi
      obtain ⟨e1, e2⟩ := g3 0 cs rfl
      refine ⟨by rw [OV.toTVs_length hc.eq]; exact e1, RepC.of_get fun o t ho => ?_⟩
      obtain ⟨y, e3, e4⟩ := OV.toTVs_get hc.eq ho
      obtain ⟨u, e5, e6⟩ := e2 o y e3
      exact ⟨u, e5, OV.toTV_rep y t u e4 e6⟩
  have hr : ∀ y y' x, Froz k τ s [row] y y' → RepO ⟨M', G.μ⟩ y x → RepO ⟨M', G.μ⟩ y' x := fun y y' x hf hx => hf.rep (Gh.le.refl _) hcc hx
  refine ⟨⟨M', G.μ⟩, hle, rfl, hs.size, hs.defers, fun t y' hy => ?_, g2.froz hσ hr, hs.fix, hs.marks, fun i Y hi => ?_⟩
  · obtain ⟨y, e1, e2⟩ := ht t y' hy
    rcases hs.tm t y e1 with ⟨i, Y, rfl⟩ | ⟨x, e3, e4⟩
    · cases e2; exact Or.inl ⟨i, Y, rfl⟩
    · exact Or.inr ⟨x, e3, hr _ _ _ e2 (e4.mono hle)⟩
  · obtain ⟨y, e1, e2⟩ := ht GS _ hi
    cases e2
    exact ⟨(hs.gh i Y e1).1, (hs.gh i Y e1).2.1.trans hle, (hs.gh i Y e1).2.2⟩
theorem OpT.frzB {P : Program} {v j : Nat} {o : Oper} {tm : Tm} {σ : Store} {K1 K : Tm → Store → Prop} (h : OpT P v j o tm σ K1) (hk : ∀ tm1 σ1, K1 tm1 σ1 → ∃ k τ s cs row tm2 σ2, σ1 k = some (τ, ⟨s, [cs]⟩) ∧ FzTs cs row ∧ FrozT k τ s [row] tm1 tm2 ∧ FrozS k τ s [row] σ1 σ2 ∧ K tm2 σ2) : OpT P v j o tm σ K := fun n C G a w ro next Q hd hro hN hfr hs hn =>
  h n C G a w ro next Q hd hro hN hfr hs fun C' G' tm1 σ1 a' w' h0 h1 h2 h3 h4 => by
    obtain ⟨k, τ, s, cs, row, tm2, σ2, e1, e2, e3, e4, e5⟩ := hk _ _ h4
    obtain ⟨G2, g1, g2, g3⟩ := h3.freezeB e1 e2 e3 e4
    exact hn C' G2 tm2 σ2 a' w' h0 (h1.trans g1) (fun k v' i a b => by rw [g2]; exact h2 k v' i a b) g3 e5
theorem setAt_all {row ys : List OV} (h : ys.length = row.length) : setAt row 0 ys = ys := by simp [setAt, h]
theorem run_equalF {P : Program} {T : TypeId} {a b c} (h : P.underlying T = some (.func a b c)) (f : Fn) (vs us : Array Value) (w : World) : (Op.equal T (.func f vs us) .nilFunc).run P w = .ok false w := by
  show Sem.run P (Op.equalIn (9999 + 1) T _ _) w = _
  unfold Op.equalIn
  simp only [Sem.run_bind, run_underlying h, Result.andThen_ok, Sem.run_pure]
theorem run_equalN {P : Program} {T : TypeId} {a b c} (h : P.underlying T = some (.func a b c)) (w : World) : (Op.equal T .nilFunc .nilFunc).run P w = .ok true w := by
  show Sem.run P (Op.equalIn (9999 + 1) T _ _) w = _
  unfold Op.equalIn
  simp only [Sem.run_bind, run_underlying h, Result.andThen_ok, Sem.run_pure]
section
variable {E : Env} {v j : Nat} {tm : Tm} {σ : Store} {ty : TypeId} {pos : String} {af : Array Edge} {gd : Option (Nat × Bool)} {dst : Option Tmp}
theorem Y_neqF {T T' : TypeId} {x y : Operand} {p : OV} {f : FuncId} {fi ca : List OV} {te : TE} {a b c} (hT : E.tab T = some te) (hk : te.k = .sc (.func a b c)) (hx : ev tm x = some p) (hp : IsFn p f fi ca) (hy : ev tm y = some (.d (.c .nilFunc))) :
    YL E.P v j ⟨dst, .binOp .neq T x y T', ty, pos, af, gd⟩ tm σ [] (.bool true) [] := Y_bin' hx hy (fun M u w' w hu hv => by
  have h := (E.ok T te hT).1
  rw [hk] at h
  obtain ⟨vs, us, rfl⟩ : ∃ vs us, u = .func (.func f) vs us := by
    cases hp with
    | fn => rw [RepO] at hu; obtain ⟨vs, us, h, _⟩ := hu; exact ⟨_, _, h⟩
    | d => rw [RepO, Rep] at hu; obtain ⟨vs, us, h, _⟩ := hu; exact ⟨_, _, h⟩
  rw [rep_c hv]
  exact ⟨eqGuard_run w (by simp) (by simp), by
    show Sem.run E.P (do pure (Value.bool (!(← Op.equal T (.func (.func f) vs us) .nilFunc)))) w = _
    simp [run_equalF h.1]⟩) rfl
theorem Y_neqN {T T' : TypeId} {x y : Operand} {te : TE} {a b c} (hT : E.tab T = some te) (hk : te.k = .sc (.func a b c)) (hx : ev tm x = some (.d (.c .nilFunc))) (hy : ev tm y = some (.d (.c .nilFunc))) :
    YL E.P v j ⟨dst, .binOp .neq T x y T', ty, pos, af, gd⟩ tm σ [] (.bool false) [] := Y_bin' hx hy (fun M u w' w hu hv => by
  have h := (E.ok T te hT).1
  rw [hk] at h
  rw [rep_c hu, rep_c hv]
  exact ⟨eqGuard_run w (by simp) (by simp), by
    show Sem.run E.P (do pure (Value.bool (!(← Op.equal T .nilFunc .nilFunc)))) w = _
    simp [run_equalN h.1]⟩) rfl
theorem M_makeFunc {f : FuncId} {fi ca : List Operand} {fs cs : List OV} (h1 : EvsM tm fi fs) (h2 : EvsM tm ca cs) : YL E.P v j ⟨dst, .makeFunc (.func f) fi.toArray ca.toArray, ty, pos, af, gd⟩ tm σ [] (.fn f fs cs) [] := (Y_makeFunc h1.st h2.st).strip
inductive EvPM (tm : Tm) : List (Nat × Operand) → List (Nat × OV) → Prop where
  | nil : EvPM tm [] []
  | cons {i : Nat} {x : Operand} {y : OV} {ps : List (Nat × Operand)} {ys : List (Nat × OV)} (h : EvM tm x y) (hs : EvPM tm ps ys) : EvPM tm ((i, x) :: ps) ((i, y) :: ys)
theorem EvPM.st {ps : List (Nat × Operand)} {ys : List (Nat × OV)} (h : EvPM tm ps ys) : evParts (Go.Proofs.YtnghoibkjphfmaaGreat.strip tm) ps = some ys := by
  induction h with
  | nil => rfl
  | cons h _ ih => simp only [evParts, h.st, ih]
theorem M_build {T : TypeId} {parts : List (Nat × Operand)} {te : TE} {fs : List (Nat × TypeId)} {ys : List (Nat × OV)} {cs : List OV} (hT : E.tab T = some te) (hk : te.k = .st fs) (hfs : (fs.all fun f => (E.tab f.2).isSome) = true) (hp : EvPM tm parts ys) (hc : fillO (fun i => (fs[i]?).map fun f : Nat × TypeId => (f.1, sizeT E f.2)) (consts te.zero) ys = some cs) : YL E.P v j ⟨dst, .build T parts.toArray, ty, pos, af, gd⟩ tm σ [] (.ag cs) [] := (Y_build hT hk hfs hp.st hc).strip
theorem cellN {t T : Nat} {te : TE} {k : Nat} {τ : Stamp} {row : List OV} {rest : List (List OV)} {R : OV → Store → Prop} (hT : E.tab T = some te) (ha : te.k.isAgg = true) (hs : te.size = row.length) (ht : tm t = some (.lo k τ te.size 0 0)) (hk : σ k = some (τ, ⟨te.size, row :: rest⟩)) (hR : R (.ag row) σ) : DoneN E [.cell t T] R .ret tm σ :=
  ⟨_, ⟨_, _, rfl, ⟨_, _, _, _, _, hT, ha, hs, ht, hk, rfl⟩, rfl⟩, hR⟩
theorem tmpN2 {t u : Nat} {r s : OV} {R : OV → Store → Prop} (ht : tm t = some r) (hu : tm u = some s) (hR : R (.tu [r, s]) σ) : DoneN E [.tmp t, .tmp u] R .ret tm σ :=
  ⟨_, ⟨_, _, rfl, ht, _, _, rfl, hu, rfl⟩, hR⟩
/-- a struct's nil slices, told as lists of nothing -/
def nfix : OV → OV
  | .d (.c (.slice none 0 0)) => .d (.sl 1 [])
  | y => y
theorem nfix_rep {G : Gh} {y : OV} {x : Value} (h : RepO G y x) : RepO G (nfix y) x := by
  unfold nfix
  split
  · have e := rep_c h
    subst e
    rw [RepO, Rep]
    exact ⟨none, 0, rfl, Nat.le_refl _, Or.inl rfl⟩
  · exact h
theorem nfix_repL {G : Gh} : ∀ {ys : List OV} {xs : List Value}, RepOL G ys xs → RepOL G (ys.map nfix) xs
  | [], xs, h => by rw [List.map_nil]; exact h
  | y :: ys, xs, h => by
    rw [RepOL] at h
    obtain ⟨x, us, rfl, h1, h2⟩ := h
    rw [List.map_cons, RepOL]
    exact ⟨x, us, rfl, nfix_rep h1, nfix_repL h2⟩
theorem YL.weakR {P : Program} {v j : Nat} {o : Oper} {tm : Tm} {σ : Store} {ks : List Nat} {r r' : OV} {δ : Diff} (h : YL P v j o tm σ ks r δ) (hw : ∀ G x, RepO G r x → RepO G r' x) : YL P v j o tm σ ks r' δ := fun σ' hσ Γ G ρ w h1 h2 h3 h4 => by
  have := h σ' hσ Γ G ρ w h1 h2 h3 h4
  have lv : ∀ x w, Leaves Γ G v j r (σ'.apply δ) x w → Leaves Γ G v j r' (σ'.apply δ) x w := fun x w ⟨G', g1, g2, g3, g4⟩ => ⟨G', g1, g2, hw _ _ g3, g4⟩
  generalize (execOp ρ o).run P w = z at *
  cases z with
  | ok nx w =>
    cases nx <;> simp only [NextOk] at this ⊢
    case value x => exact lv _ _ this
    case skip => exact lv _ _ this
    case enter f args => exact this.mono fun e w' ⟨x, g1, g2⟩ => ⟨x, g1, lv _ _ g2⟩
  | halt x w => simp only [NextOk] at this
structure NilS (d : Nat) : Prop where
  ok : True
theorem nfix_ag {G : Gh} {cs : List OV} {x : Value} (h : RepO G (.ag cs) x) : RepO G (.ag (cs.map nfix)) x := by
  rw [RepO] at h ⊢
  obtain ⟨us, h1, h2⟩ := h
  exact ⟨us, h1, nfix_repL h2⟩
theorem Y_nilF {d s : Nat} {e : TypeId} {te ee : TE} (hm : Frozen d) (hT : E.tab ty = some te) (hk : te.k = .slice e) (hE : E.tab e = some ee) (hs : ee.size = s) : YL E.P v j ⟨some d, .assign (.const (.slice none 0 0)), ty, pos, af, gd⟩ tm σ [] (.d (.sl s [])) [] := fun σ _ Γ G ρ w hv hfr hρ hw => by
  have hr := hρ (.const (.slice none 0 0)) (by simp [Op.operands]) (.d (.c (.slice none 0 0))) (by rfl)
  have h1 := rep_c hr
  have h2 : (execOp ρ ⟨some d, .assign (.const (.slice none 0 0)), ty, pos, af, gd⟩).run E.P w = .ok (.value (.slice none 0 0)) w := by simp [execOp, h1]
  rw [h2]
  exact Leaves.still (by rw [RepO, Rep]; exact ⟨none, 0, rfl, Nat.le_refl _, Or.inl rfl⟩) hw
end
section
variable {E : Env} {v j : Nat} {ops : Array Oper} {K : Tm → Store → Prop} {KD : List Foot → Tm → Store → Prop} {acc : List Foot} {rest : List Oper} {tm : Tm} {σ : Store} {ty : TypeId} {pos : String} {af : Array Edge}
theorem S_boxF {d : Nat} {T : TypeId} {x : Operand} {y : OV} {n : Nat} {row : List TV} (hmF : Frozen d) (hx : ev tm x = some y) (hw' : y.wide = true) (hn : y.cells.length = n) (hr : FzTs y.cells row) (hcont : AO E.P v ops K (j + 1) rest (tm.putO (some d) (.d (.pt row 0))) (σ.apply [(d, none)])) : AO E.P v ops K j (⟨some d, .box T x, ty, pos, af, none⟩ :: rest) tm σ := ao_step (YL.frzB hr (Y_box hx hw' hn)) hcont
theorem S_storeF {d : Nat} {T : TypeId} {z : Operand} {te : TE} {τ : Stamp} {s : Nat} {row0 : List OV} {y : OV} {row : List TV} (hmF : Frozen d) (hT : E.tab T = some te) (hx : tm d = some (.lo d τ s 0 0)) (hz : ev tm z = some y) (hw' : y.wide = true) (hn : y.cells.length = te.size) (hs : σ d = some (τ, ⟨s, [row0]⟩)) (hl : row0.length = te.size) (hr : FzTs y.cells row) (hcont : AO E.P v ops K (j + 1) rest (tm.put d (.d (.pt row 0))) (σ.apply [(d, none)])) : AO E.P v ops K j (⟨none, .store T (.tmp d) z, ty, pos, af, none⟩ :: rest) tm σ :=
  ao_t (OpT.frzB ((Y_store (x := .tmp d) (i := 0) (row := row0) hT (show ev tm (.tmp d) = _ from hx) hz hw' hn hs rfl (by omega)).ok (K := fun r' σ' => r' = OV.un ∧ σ' = σ.apply [(d, some (τ, ⟨s, [row0].set 0 (setAt row0 0 y.cells)⟩))]) ⟨rfl, rfl⟩) fun tm1 σ1 ⟨r, h1, h2, h3⟩ => by
    subst h1 h2 h3
    refine ⟨d, τ, s, _, row, _, _, Store.put_self _ _ _, ?_, ?_, ?_, hcont⟩
    · rw [setAt_all (by omega)]; exact hr
    · intro t y' hy
      by_cases e : t = d
      · subst e
        rw [Tm.put_self] at hy
        cases hy
        exact ⟨_, hx, .lo 0 0 row rfl⟩
      · rw [Tm.put_ne _ _ e] at hy
        exact ⟨y', hy, .same _⟩
    · intro i τ' r' hi
      by_cases e : i = d
      · subst e
        have : (σ.del i) i = some (τ', r') := hi
        rw [Store.del_self] at this; cases this
      · have h9 : (σ.del d) i = some (τ', r') := hi
        rw [Store.del_ne _ e] at h9
        exact ⟨e, r', (Store.put_ne _ _ e).trans h9, FrozR.same _⟩)
theorem S_buildN {d : Nat} {T : TypeId} {parts : List (Nat × Operand)} {te : TE} {fs : List (Nat × TypeId)} {ys : List (Nat × OV)} {cs cs' : List OV} (hmN : NilS d) (hT : E.tab T = some te) (hk : te.k = .st fs) (hfs : (fs.all fun f => (E.tab f.2).isSome) = true) (hp : evParts tm parts = some ys) (hc : fillO (fun i => (fs[i]?).map fun f : Nat × TypeId => (f.1, sizeT E f.2)) (consts te.zero) ys = some cs) (hn : cs.map nfix = cs') (hcont : AO E.P v ops K (j + 1) rest (tm.putO (some d) (.ag cs')) (σ.apply [])) : AO E.P v ops K j (⟨some d, .build T parts.toArray, ty, pos, af, none⟩ :: rest) tm σ := ao_step (YL.weakR (Y_build (d := some d) hT hk hfs hp hc) (fun _ _ h => by subst hn; exact nfix_ag h)) hcont
theorem D_buildN {d : Nat} {T : TypeId} {parts : List (Nat × Operand)} {te : TE} {fs : List (Nat × TypeId)} {ys : List (Nat × OV)} {cs cs' : List OV} (hmN : NilS d) (hT : E.tab T = some te) (hk : te.k = .st fs) (hfs : (fs.all fun f => (E.tab f.2).isSome) = true) (hp : evParts tm parts = some ys) (hc : fillO (fun i => (fs[i]?).map fun f : Nat × TypeId => (f.1, sizeT E f.2)) (consts te.zero) ys = some cs) (hn : cs.map nfix = cs') (hcont : DO E.P v ops KD (j + 1) rest (tm.putO (some d) (.ag cs')) (σ.apply []) (Foot.mk [] (wkeys []) :: acc)) : DO E.P v ops KD j (⟨some d, .build T parts.toArray, ty, pos, af, none⟩ :: rest) tm σ acc := do_step (YL.weakR (Y_build (d := some d) hT hk hfs hp hc) (fun _ _ h => by subst hn; exact nfix_ag h)) hcont
theorem S_neqF {T T' : TypeId} {x y : Operand} {p : OV} {f : FuncId} {fi ca : List OV} {te : TE} {a b c} {dst : Option Tmp} (hT : E.tab T = some te) (hk : te.k = .sc (.func a b c)) (hx : ev tm x = some p) (hp : IsFn p f fi ca) (hy : ev tm y = some (.d (.c .nilFunc))) (hcont : AO E.P v ops K (j + 1) rest (tm.putO dst (.bool true)) (σ.apply [])) : AO E.P v ops K j (⟨dst, .binOp .neq T x y T', ty, pos, af, none⟩ :: rest) tm σ := ao_step (Y_neqF hT hk hx hp hy) hcont
theorem S_neqN {T T' : TypeId} {x y : Operand} {te : TE} {a b c} {dst : Option Tmp} (hT : E.tab T = some te) (hk : te.k = .sc (.func a b c)) (hx : ev tm x = some (.d (.c .nilFunc))) (hy : ev tm y = some (.d (.c .nilFunc))) (hcont : AO E.P v ops K (j + 1) rest (tm.putO dst (.bool false)) (σ.apply [])) : AO E.P v ops K j (⟨dst, .binOp .neq T x y T', ty, pos, af, none⟩ :: rest) tm σ := ao_step (Y_neqN hT hk hx hy) hcont
theorem S_nilF {d s : Nat} {e : TypeId} {te ee : TE} (hm : Frozen d) (hT : E.tab ty = some te) (hk : te.k = .slice e) (hE : E.tab e = some ee) (hs : ee.size = s) (hcont : AO E.P v ops K (j + 1) rest (tm.putO (some d) (.d (.sl s []))) (σ.apply [])) : AO E.P v ops K j (⟨some d, .assign (.const (.slice none 0 0)), ty, pos, af, none⟩ :: rest) tm σ := ao_step (Y_nilF hm hT hk hE hs) hcont
end
end Go.Proofs.YtnghoibkjphfmaaGreat
/- The same for the steps of XFk. -/
set_option linter.unusedVariables false
namespace Go.Proofs.YtnghoibkjphfmaaGreat
open Go.RowKit
section
variable {E : Env} {v j : Nat} {ops : Array Oper} {K : Tm → Store → Prop} {KD : List Foot → Tm → Store → Prop} {acc : List Foot} {rest : List Oper} {tm : Tm} {σ : Store} {ty : TypeId} {pos : String} {af : Array Edge} {gd : Option (Nat × Bool)} {dst : Option Tmp}
theorem q34 {d : Nat} {T : TypeId} {x : Operand} {y : OV} {n : Nat} {row : List TV} (hcont : AO E.P v ops K (j + 1) rest (tm.putO (some d) (.d (.pt row 0))) (σ.apply [(d, none)])) (hmF : Frozen d := by assumption) (hx : ev tm x = some y := by exact rfl) (hw' : y.wide = true := by exact rfl) (hn : y.cells.length = n := by exact rfl) (hr : FzTs y.cells row := by (repeat (first | exact FzTs.nil | exact FzTs.map _ | apply FzTs.cons | exact FzT.d _ | apply FzT.fn | assumption))) : AO E.P v ops K j (⟨some d, .box T x, ty, pos, af, none⟩ :: rest) tm σ := S_boxF hmF hx hw' hn hr hcont
theorem q39 {d kk : Nat} {T e : TypeId} {te ee : TE} {x z : Operand} {s k : Nat} {y1 y2 : OV} {ks1 ks2 : List Nat} {rows1 rows2 : List (List OV)} (hcont : AO E.P v ops K (j + 1) rest (tm.putO (some d) (.os k (v, j) s (rows1.length + rows2.length))) (σ.apply [(k, some ((v, j), ⟨s, rows1 ++ rows2⟩))])) (hmk : KeyOf d kk := by assumption) (hT : E.tab T = some te := by exact rfl) (hk : te.k = .slice e := by exact rfl) (hE : E.tab e = some ee := by exact rfl) (hs : ee.size = s := by exact rfl) (hpos : 0 < s := by decide) (hx : ev tm x = some y1 := by exact rfl) (hz : ev tm z = some y2 := by exact rfl) (h1 : Dst σ s kk y1 ks1 k rows1 := by (first | exact .os _ _ _ _ rfl (by first | rfl | (first | omega | (simp only [List.length_append, List.length_map, List.length_take, List.length_drop, List.length_cons, List.length_nil, List.length_replicate, chop_length] <;> omega))) | exact .nil)) (h2 : Src σ s y2 ks2 rows2 := by (first | exact .os _ _ _ _ rfl (by first | rfl | (first | omega | (simp only [List.length_append, List.length_map, List.length_take, List.length_drop, List.length_cons, List.length_nil, List.length_replicate, chop_length] <;> omega))) | exact .vw _ _ _ _ _ rfl (by (first | omega | (simp only [List.length_append, List.length_map, List.length_take, List.length_drop, List.length_cons, List.length_nil, List.length_replicate, chop_length] <;> omega))) | exact .nil | exact .sl _)) (hlf : ∀ r ∈ rows2, ∀ y ∈ r, y.leaf = true := by (repeat (first | exact LeafR.nil | exact LeafR.cells _ _ | exact LeafR.d _ | (apply LeafR.one; exact rfl) | exact hleaf _ | refine LeafR.take _ ?_ | refine LeafR.drop _ ?_ | refine LeafR.app ?_ ?_ | (apply LeafR.lit; exact rfl) | assumption))) (hb : (rows1.length + rows2.length) * ee.bytes ≤ 140737488355328 := by (show _ * (Nat.succ _) ≤ _; (first | omega | (simp only [List.length_append, List.length_map, List.length_take, List.length_drop, List.length_cons, List.length_nil, List.length_replicate, chop_length] <;> omega)))) (hm : rows1.length + rows2.length ≤ maxLen := by (unfold maxLen; (first | omega | (simp only [List.length_append, List.length_map, List.length_take, List.length_drop, List.length_cons, List.length_nil, List.length_replicate, chop_length] <;> omega)))) : AO E.P v ops K j (⟨some d, .call { callee := .builtin .append, args := #[x, z], argTypes := #[T, T] }, ty, pos, af, none⟩ :: rest) tm σ := S_appendK hmk hT hk hE hs hpos hx hz h1 h2 hlf hb hm hcont
theorem q41 {t k s m : Nat} {τ : Stamp} {a : List (List OV)} {rows : List (List TV)} (hcont : AO E.P v ops K (j + 1) rest (tm.putO dst (.d (.sl s rows))) (σ.apply [(k, none)])) (hm : Frozen t := by assumption) (hx : tm t = some (.os k τ s m) := by exact rfl) (hk : σ k = some (τ, ⟨s, a⟩) := by exact rfl) (hr : FzR a rows := by (repeat (first | exact FzR.nil | exact FzR.ints _ | exact FzR.d _ | exact hfz _ | exact FzC.map _ | exact FzC.nil | apply FzR.take | apply FzR.drop | apply FzR.app | apply FzR.cons | apply FzC.cons | assumption))) (hl : m = a.length := by (first | rfl | (first | omega | (simp only [List.length_append, List.length_map, List.length_take, List.length_drop, List.length_cons, List.length_nil, List.length_replicate, chop_length] <;> omega)))) : AO E.P v ops K j (⟨dst, .move (.tmp t), ty, pos, af, none⟩ :: rest) tm σ := S_mvfz hm hx hk hr hl hcont
theorem q43 {d : Nat} {T : TypeId} {z : Operand} {te : TE} {τ : Stamp} {s : Nat} {row0 : List OV} {y : OV} {row : List TV} (hcont : AO E.P v ops K (j + 1) rest (tm.put d (.d (.pt row 0))) (σ.apply [(d, none)])) (hmF : Frozen d := by assumption) (hT : E.tab T = some te := by exact rfl) (hx : tm d = some (.lo d τ s 0 0) := by exact rfl) (hz : ev tm z = some y := by exact rfl) (hw' : y.wide = true := by exact rfl) (hn : y.cells.length = te.size := by exact rfl) (hs : σ d = some (τ, ⟨s, [row0]⟩) := by exact rfl) (hl : row0.length = te.size := by exact rfl) (hr : FzTs y.cells row := by (repeat (first | exact FzTs.nil | exact FzTs.map _ | apply FzTs.cons | exact FzT.d _ | apply FzT.fn | assumption))) : AO E.P v ops K j (⟨none, .store T (.tmp d) z, ty, pos, af, none⟩ :: rest) tm σ := S_storeF hmF hT hx hz hw' hn hs hl hr hcont
theorem q55 {d s : Nat} {e : TypeId} {te ee : TE} (hcont : AO E.P v ops K (j + 1) rest (tm.putO (some d) (.d (.sl s []))) (σ.apply [])) (hm : Frozen d := by assumption) (hT : E.tab ty = some te := by exact rfl) (hk : te.k = .slice e := by exact rfl) (hE : E.tab e = some ee := by exact rfl) (hs : ee.size = s := by exact rfl) : AO E.P v ops K j (⟨some d, .assign (.const (.slice none 0 0)), ty, pos, af, none⟩ :: rest) tm σ := S_nilF hm hT hk hE hs hcont
end
end Go.Proofs.YtnghoibkjphfmaaGreat
