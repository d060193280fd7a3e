/- An execution that came in, opened into plain data. -/
import Derived.Test.YtgeaaegkcbjhlaaFrameX
import Derived.Test.YtgeaaegkcbjhlaaDa
namespace Go.Proofs.Ytgeaaegkcbjhlaa
open Go.RowKit Go.ChangeShapes Go.WideShapes Go.Deep

def bound60 : Nat := 1152921504606846976
/-- an event's numbers fit, its lists are no longer than memory bears -/
def Ev.ok (e : Ev) : Prop := e.wf ∧ e.addrs.length ≤ 1152921504606846976 ∧ e.datas.length ≤ 1152921504606846976 ∧ e.ctrls.length ≤ 1152921504606846976 ∧ e.av.n = e.addrs.length ∧ e.dv.n = e.datas.length ∧ e.cv.n = e.ctrls.length
def Ex.ok (x : Ex) : Prop := x.evs.length ≤ 1152921504606846976 ∧ (∀ e ∈ x.evs, e.ok) ∧ x.from_.length ≤ 1152921504606846976 ∧ x.order.length ≤ 1152921504606846976 ∧ ∀ r ∈ x.order, r.2.length ≤ 1152921504606846976

section
variable {H : Type} {enc : TypeId × Value → H} {W : World} {sp : Nat → Bool} {held : Bool}
theorem ints_rep {k : IntKind} {t e : TypeId} {fuel : Nat} {cs : List Value} {x : DataW H × List MemPlace} (ht : Try.prog.underlying t = some (.slice e)) (he : Try.prog.underlying e = some (.int k)) (hc : Try.prog.cellsOf e = 1) (hby : 1 ≤ Try.prog.bytesOf e)
    (h : DataW.trod enc Try.prog W 0 sp held fuel t cs = some x) (hw : ∀ n ∈ x.1.weights Try.prog t, n ≤ reachBytes) :
    ∃ (v : Value) (l : List Int), cs = [v] ∧ Rep (allM W) (.sl 1 (l.map fun n => [TV.c (.int k n)])) v ∧ l.length ≤ 1152921504606846976 ∧ (∀ z ∈ l, (Lit.int k z).wf = true) := by
  obtain ⟨s, l, e1, e2, e3⟩ := ints_in ht he hc hby h hw
  refine ⟨_, l, e1, e2.rep ?_, e2.2.1, e3⟩
  rcases open_ints ht he hc h with ⟨rfl, rfl⟩ | ⟨a, len, cap, zs, rfl, hb, hl, _⟩
  · simp only [List.cons.injEq, Value.slice.injEq, and_true] at e1; omega
  · simp only [List.cons.injEq, Value.slice.injEq, and_true] at e1; omega


theorem evt_rep {fuel : Nat} {cs : List Value} {x : DataW H × List MemPlace} (hlen : cs.length = 13) (h : DataW.trod enc Try.prog W 0 sp held fuel 44 cs = some x) (hw : ∀ n ∈ x.1.weights Try.prog 44, n ≤ reachBytes) :
    ∃ e : Ev, (∀ (j : Nat) (t : TV), (evTV e)[j]? = some t → ∃ v, cs[j]? = some v ∧ Rep (allM W) t v) ∧ e.ok := by
  obtain ⟨xs, n, _, rfl, _, hxl, hf⟩ := DataW.trod_struct Try.underlying44 h
  obtain ⟨c0, c1, c2, c3, c4, c5, c6, c7, c8, c9, c10, c11, c12, rfl⟩ := list13 hlen
  have hxl : xs.length = 13 := hxl
  have wx : ∀ (i : Nat) (y : DataW H × List MemPlace), xs[i]? = some y → (xs.map (·.1))[i]? = some y.1 := fun i y hy => by simp [hy]
  obtain ⟨x0, g0⟩ := xs_get hxl 0 (by decide)
  have t0 := hf 0 ⟨"Hart", 3, 0, false, "", "", 0⟩ rfl
  rw [g0] at t0
  rw [cells_int, take1 (i := 0) rfl] at t0
  obtain ⟨x1, g1⟩ := xs_get hxl 1 (by decide)
  have t1 := hf 1 ⟨"Kind", 41, 1, false, "", "", 8⟩ rfl
  rw [g1] at t1
  rw [cells_kind, take1 (i := 1) rfl] at t1
  obtain ⟨x2, g2⟩ := xs_get hxl 2 (by decide)
  have t2 := hf 2 ⟨"Addr", 42, 2, false, "", "", 16⟩ rfl
  rw [g2] at t2
  rw [cells_u32, take1 (i := 2) rfl] at t2
  obtain ⟨x3, g3⟩ := xs_get hxl 3 (by decide)
  have t3 := hf 3 ⟨"Value", 42, 3, false, "", "", 20⟩ rfl
  rw [g3] at t3
  rw [cells_u32, take1 (i := 3) rfl] at t3
  obtain ⟨x4, g4⟩ := xs_get hxl 4 (by decide)
  have t4 := hf 4 ⟨"ReadValue", 42, 4, false, "", "", 24⟩ rfl
  rw [g4] at t4
  rw [cells_u32, take1 (i := 4) rfl] at t4
  obtain ⟨x5, g5⟩ := xs_get hxl 5 (by decide)
  have t5 := hf 5 ⟨"Aq", 4, 5, false, "", "", 28⟩ rfl
  rw [g5] at t5
  rw [cells_bool, take1 (i := 5) rfl] at t5
  obtain ⟨x6, g6⟩ := xs_get hxl 6 (by decide)
  have t6 := hf 6 ⟨"Rl", 4, 6, false, "", "", 29⟩ rfl
  rw [g6] at t6
  rw [cells_bool, take1 (i := 6) rfl] at t6
  obtain ⟨x7, g7⟩ := xs_get hxl 7 (by decide)
  have t7 := hf 7 ⟨"Pred", 3, 7, false, "", "", 32⟩ rfl
  rw [g7] at t7
  rw [cells_int, take1 (i := 7) rfl] at t7
  obtain ⟨x8, g8⟩ := xs_get hxl 8 (by decide)
  have t8 := hf 8 ⟨"Succ", 3, 8, false, "", "", 40⟩ rfl
  rw [g8] at t8
  rw [cells_int, take1 (i := 8) rfl] at t8
  obtain ⟨x9, g9⟩ := xs_get hxl 9 (by decide)
  have t9 := hf 9 ⟨"Reserved", 4, 9, false, "", "", 48⟩ rfl
  rw [g9] at t9
  rw [cells_bool, take1 (i := 9) rfl] at t9
  obtain ⟨x10, g10⟩ := xs_get hxl 10 (by decide)
  have t10 := hf 10 ⟨"Addrs", 23, 10, false, "", "", 56⟩ rfl
  rw [g10] at t10
  rw [cells_ints, take1 (i := 10) rfl] at t10
  obtain ⟨x11, g11⟩ := xs_get hxl 11 (by decide)
  have t11 := hf 11 ⟨"Datas", 23, 11, false, "", "", 80⟩ rfl
  rw [g11] at t11
  rw [cells_ints, take1 (i := 11) rfl] at t11
  obtain ⟨x12, g12⟩ := xs_get hxl 12 (by decide)
  have t12 := hf 12 ⟨"Ctrls", 23, 12, false, "", "", 104⟩ rfl
  rw [g12] at t12
  rw [cells_ints, take1 (i := 12) rfl] at t12
  obtain ⟨z0, e0, _, w0⟩ := DataW.trod_int Try.underlying3 t0
  obtain ⟨z1, e1, _, w1⟩ := DataW.trod_int Try.underlying41 t1
  obtain ⟨z2, e2, _, w2⟩ := DataW.trod_int Try.underlying42 t2
  obtain ⟨z3, e3, _, w3⟩ := DataW.trod_int Try.underlying42 t3
  obtain ⟨z4, e4, _, w4⟩ := DataW.trod_int Try.underlying42 t4
  obtain ⟨z5, e5, _⟩ := DataW.trod_bool Try.underlying4 t5
  obtain ⟨z6, e6, _⟩ := DataW.trod_bool Try.underlying4 t6
  obtain ⟨z7, e7, _, w7⟩ := DataW.trod_int Try.underlying3 t7
  obtain ⟨z8, e8, _, w8⟩ := DataW.trod_int Try.underlying3 t8
  obtain ⟨z9, e9, _⟩ := DataW.trod_bool Try.underlying4 t9
  obtain ⟨v10, l10, e10, i10, n10⟩ := ints_rep Try.underlying23 Try.underlying3 cells_int bytes_int t10 (w_struct Try.underlying44 hw (i := 10) rfl (wx _ _ g10))
  obtain ⟨v11, l11, e11, i11, n11⟩ := ints_rep Try.underlying23 Try.underlying3 cells_int bytes_int t11 (w_struct Try.underlying44 hw (i := 11) rfl (wx _ _ g11))
  obtain ⟨v12, l12, e12, i12, n12⟩ := ints_rep Try.underlying23 Try.underlying3 cells_int bytes_int t12 (w_struct Try.underlying44 hw (i := 12) rfl (wx _ _ g12))
  simp only [List.cons.injEq, and_true] at e0 e1 e2 e3 e4 e5 e6 e7 e8 e9 e10 e11 e12
  refine ⟨⟨z0, z1, z2, z3, z4, z5, z6, z7, z8, z9, ⟨none, l10.length, 0⟩, ⟨none, l11.length, 0⟩, ⟨none, l12.length, 0⟩, l10, l11, l12⟩, ?_, ⟨wf_i64 w0, wf_i64 w1, wf_u32 w2, wf_u32 w3, wf_u32 w4, wf_i64 w7, wf_i64 w8⟩, n10.1, n11.1, n12.1, rfl, rfl, rfl⟩
  rw [e0, e1, e2, e3, e4, e5, e6, e7, e8, e9, e10, e11, e12]
  intro j t ht
  match j, ht with
  | 0, ht => cases ht; exact ⟨_, rfl, rep_c2 rfl⟩
  | 1, ht => cases ht; exact ⟨_, rfl, rep_c2 rfl⟩
  | 2, ht => cases ht; exact ⟨_, rfl, rep_c2 rfl⟩
  | 3, ht => cases ht; exact ⟨_, rfl, rep_c2 rfl⟩
  | 4, ht => cases ht; exact ⟨_, rfl, rep_c2 rfl⟩
  | 5, ht => cases ht; exact ⟨_, rfl, rep_c2 rfl⟩
  | 6, ht => cases ht; exact ⟨_, rfl, rep_c2 rfl⟩
  | 7, ht => cases ht; exact ⟨_, rfl, rep_c2 rfl⟩
  | 8, ht => cases ht; exact ⟨_, rfl, rep_c2 rfl⟩
  | 9, ht => cases ht; exact ⟨_, rfl, rep_c2 rfl⟩
  | 10, ht => cases ht; exact ⟨_, rfl, i10⟩
  | 11, ht => cases ht; exact ⟨_, rfl, i11⟩
  | 12, ht => cases ht; exact ⟨_, rfl, i12⟩
  | n + 13, ht => cases ht

theorem evts_rep {fuel : Nat} {cs : List Value} {x : DataW H × List MemPlace} (h : DataW.trod enc Try.prog W 0 sp held fuel 22 cs = some x) (hw : ∀ n ∈ x.1.weights Try.prog 22, n ≤ reachBytes) :
    ∃ (v : Value) (l : List Ev), cs = [v] ∧ Rep (allM W) (evsTV l) v ∧ l.length ≤ 1152921504606846976 ∧ ∀ e ∈ l, e.ok := by
  rcases open_slice Try.underlying22 h with ⟨rfl, rfl⟩ | ⟨a, len, cap, m, n, D, Pl, rfl, hb, hl, hm, hmm, rfl, hx⟩
  · exact ⟨_, [], rfl, by unfold evsTV; rw [Rep]; exact ⟨none, 0, rfl, Nat.le_refl _, Or.inl rfl⟩, by simp, by simp⟩
  · have hle : len ≤ m := by rw [hmm]; split <;> omega
    obtain ⟨hwt, hwe⟩ := w_slice Try.underlying22 hw
    rw [cells_ev] at hx
    obtain ⟨E, hE⟩ := choose_lt (α := Ev) (n := len) (p := fun i e => e.ok ∧ ∀ (j : Nat) (t : TV), (evTV e)[j]? = some t → ∃ v, W.cell? (a.add (i * 13 + j)) = some v ∧ Rep (allM W) t v) (fun i hi => by
      obtain ⟨cs', h1, h2⟩ := hx i (by omega)
      obtain ⟨_, h3, h4⟩ := World.cells?_some h1
      obtain ⟨e, he, hok⟩ := evt_rep h3 h2 (hwe _ (by simp only [List.mem_map, List.mem_range]; exact ⟨i, hi, rfl⟩))
      refine ⟨e, hok, fun j t hj => ?_⟩
      have hj13 : j < 13 := (List.getElem?_eq_some_iff.1 hj).1
      obtain ⟨v, h5, h6⟩ := he j t hj
      have := h4 j hj13
      rw [add_add, h5] at this
      exact ⟨v, this, h6⟩)
    have hL : ((List.range len).map E).length = len := by simp
    refine ⟨_, (List.range len).map E, rfl, ?_, ?_, ?_⟩
    · unfold evsTV
      rw [Rep]
      refine ⟨some a, cap, by simp, by simpa using hl, ?_⟩
      by_cases h0 : len = 0
      · left; subst h0; simp
      · right
        obtain ⟨_, g0⟩ := hE 0 (by omega)
        obtain ⟨v0, g0, _⟩ := g0 0 _ rfl
        obtain ⟨hs, _⟩ := cell_lt g0
        have ea := addr_eq (a := a) hs
        refine ⟨a.block, a.off, by rw [← ea], RepR.of_get fun i r hi => ?_⟩
        rw [List.getElem?_map] at hi
        obtain ⟨e, he, rfl⟩ := Option.map_eq_some_iff.1 hi
        obtain ⟨hlt, rfl⟩ := List.getElem?_eq_some_iff.1 he
        rw [hL] at hlt
        simp only [List.getElem_map, List.getElem_range]
        refine ⟨rfl, RepC.of_get fun o t ht => ?_⟩
        obtain ⟨v, g1, g2⟩ := (hE i hlt).2 o t ht
        rw [ea, add_plain] at g1
        exact ⟨v, by rw [Nat.add_assoc]; exact g1, g2⟩
    · rw [hL]
      simp only [List.length_map, List.length_range] at hwt
      have h2 : len ≤ (len + (m - len)) * Try.prog.bytesOf 44 := by
        refine Nat.le_trans ?_ (Nat.le_mul_of_pos_right _ (by have := bytes_ev; omega)); omega
      unfold reachBytes at hwt
      omega
    · intro e he
      obtain ⟨i, hi, rfl⟩ := List.mem_map.1 he
      exact (hE i (List.mem_range.1 hi)).1

theorem rows_rep {fuel : Nat} {cs : List Value} {x : DataW H × List MemPlace} (h : DataW.trod enc Try.prog W 0 sp held fuel 24 cs = some x) (hw : ∀ n ∈ x.1.weights Try.prog 24, n ≤ reachBytes) :
    ∃ (v : Value) (l : List (Sl × List Int)), cs = [v] ∧ Rep (allM W) (rowsTV l) v ∧ l.length ≤ 1152921504606846976 ∧ ∀ r ∈ l, r.2.length ≤ 1152921504606846976 := by
  rcases open_slice1 Try.underlying24 cells_ints h with ⟨rfl, rfl⟩ | ⟨a, len, cap, m, n, V, D, Pl, rfl, hb, hl, hm, hmm, rfl, hx⟩
  · exact ⟨_, [], rfl, by unfold rowsTV; rw [Rep]; exact ⟨none, 0, rfl, Nat.le_refl _, Or.inl rfl⟩, by simp, by simp⟩
  · have hle : len ≤ m := by rw [hmm]; split <;> omega
    obtain ⟨hwt, hwe⟩ := w_slice Try.underlying24 hw
    obtain ⟨E, hE⟩ := choose_lt (α := Sl × List Int) (n := len) (p := fun i r => r.2.length ≤ 1152921504606846976 ∧ ∃ v, W.cell? (a.add i) = some v ∧ Rep (allM W) (ints r.2) v) (fun i hi => by
      obtain ⟨h1, h2⟩ := hx i (by omega)
      obtain ⟨v, l, e1, e2, e3, _⟩ := ints_rep Try.underlying23 Try.underlying3 cells_int bytes_int h2 (hwe _ (by simp only [List.mem_map, List.mem_range]; exact ⟨i, hi, rfl⟩))
      simp only [List.cons.injEq, and_true] at e1
      rw [e1] at h1
      exact ⟨(⟨none, l.length, 0⟩, l), e3, v, h1, e2⟩)
    have hL : ((List.range len).map E).length = len := by simp
    refine ⟨_, (List.range len).map E, rfl, ?_, ?_, ?_⟩
    · unfold rowsTV
      rw [Rep]
      refine ⟨some a, cap, by simp, by simpa using hl, ?_⟩
      by_cases h0 : len = 0
      · left; subst h0; simp
      · right
        obtain ⟨_, v0, g0, _⟩ := hE 0 (by omega)
        obtain ⟨hs, _⟩ := cell_lt g0
        have ea := addr_eq (a := a) hs
        refine ⟨a.block, a.off, by rw [← ea], RepR.of_get fun i r hi => ?_⟩
        rw [List.getElem?_map] at hi
        obtain ⟨e, he, rfl⟩ := Option.map_eq_some_iff.1 hi
        obtain ⟨hlt, rfl⟩ := List.getElem?_eq_some_iff.1 he
        rw [hL] at hlt
        simp only [List.getElem_map, List.getElem_range]
        refine ⟨rfl, RepC.of_get fun o t ht => ?_⟩
        cases o with
        | succ o => simp [intRow] at ht
        | zero =>
          simp [intRow] at ht
          subst ht
          obtain ⟨v, g1, g2⟩ := (hE i hlt).2
          rw [ea, add_plain] at g1
          exact ⟨v, by simpa [allM] using g1, g2⟩
    · rw [hL]
      simp only [List.length_map, List.length_range] at hwt
      have h2 : len ≤ (len + (m - len)) * Try.prog.bytesOf 23 := by
        refine Nat.le_trans ?_ (Nat.le_mul_of_pos_right _ (by have := bytes_ints; omega)); omega
      unfold reachBytes at hwt
      omega
    · intro e he
      obtain ⟨i, hi, rfl⟩ := List.mem_map.1 he
      exact (hE i (List.mem_range.1 hi)).1

set_option maxRecDepth 100000 in
theorem exec_rep {r : Reach} {b0 : Nat} {v : Value} {d : DataW H} {p : List MemPlace} (hv : Value.okWide Try.prog W r b0 26 v) (h : DataW.Trod enc Try.prog W 0 sp held 26 v d p) (hw : ∀ n ∈ d.weights Try.prog 26, n ≤ reachBytes) :
    ∃ x : Ex, RepO (allG W) (exOV x) v ∧ x.ok := by
  obtain ⟨v0, v1, v2, y0, y1, y2, n, rfl, rfl, rfl, h0, h1, h2⟩ := Go.Joins.open_agg3 Try.underlying26 (by kernel_rfl) (by kernel_rfl) hv h
  obtain ⟨s0, l0, e0, i0, n0, m0⟩ := evts_rep h0 (w_struct Try.underlying26 hw (i := 0) rfl rfl)
  obtain ⟨s1, l1, e1, i1, n1, _⟩ := ints_rep Try.underlying23 Try.underlying3 cells_int bytes_int h1 (w_struct Try.underlying26 hw (i := 1) rfl rfl)
  obtain ⟨s2, l2, e2, i2, n2, m2⟩ := rows_rep h2 (w_struct Try.underlying26 hw (i := 2) rfl rfl)
  simp only [List.cons.injEq, and_true] at e0 e1 e2
  refine ⟨⟨default, default, default, l0, l1, l2⟩, ?_, n0, m0, n1, n2, m2⟩
  unfold exOV
  rw [RepO]
  refine ⟨_, rfl, ?_⟩
  rw [e0, e1, e2, RepOL]
  refine ⟨_, _, rfl, by rw [RepO]; exact i0, ?_⟩
  rw [RepOL]
  refine ⟨_, _, rfl, by rw [RepO]; exact i1, ?_⟩
  rw [RepOL]
  exact ⟨_, _, rfl, by rw [RepO]; exact i2, by rw [RepOL]⟩
end
/-- A statement's call, from what was shown in plain data. -/
theorem FnR.calls {f : FuncId} {args : List OV} {b : Bool} (h : Pure Try.prog f args (.bool b)) {w : World} {vs : List Value} (hv : RepOL (allG w) args vs) :
    Calls Try.prog f vs.toArray w fun e w' => e = .returned (.bool b) ∧ Below w.heap.size w w' :=
  (h.2 (allG w) w vs 0 hv (WRel.all w 0)).mono fun e w' ⟨x, G', r, σ', h1, h2, h3, h4, h5⟩ => by
    subst h2
    rw [rep_c h4] at h1
    exact ⟨h1, ⟨h5.os, h5.tape, h5.output, h5.size, fun k hk => h5.keep k hk (fun e => e)⟩⟩
end Go.Proofs.Ytgeaaegkcbjhlaa
