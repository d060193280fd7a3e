/- An execution that came in, opened. -/
import Derived.Test.YtgeaaegkcbjhlaaFrame
namespace Go.Proofs.Ytgeaaegkcbjhlaa
open Go.RowKit Go.ChangeShapes Go.WideShapes Go.Deep

theorem list13 {α : Type} {l : List α} (h : l.length = 13) : ∃ c0 c1 c2 c3 c4 c5 c6 c7 c8 c9 c10 c11 c12, l = [c0, c1, c2, c3, c4, c5, c6, c7, c8, c9, c10, c11, c12] := by
  match l, h with
  | [c0, c1, c2, c3, c4, c5, c6, c7, c8, c9, c10, c11, c12], _ => exact ⟨c0, c1, c2, c3, c4, c5, c6, c7, c8, c9, c10, c11, c12, rfl⟩
theorem cells_int : Try.prog.cellsOf 3 = 1 := by kernel_rfl
theorem cells_kind : Try.prog.cellsOf 41 = 1 := by kernel_rfl
theorem cells_u32 : Try.prog.cellsOf 42 = 1 := by kernel_rfl
theorem cells_bool : Try.prog.cellsOf 4 = 1 := by kernel_rfl
theorem cells_ints : Try.prog.cellsOf 23 = 1 := by kernel_rfl
theorem cells_ev : Try.prog.cellsOf 44 = 13 := by kernel_rfl
theorem bytes_int : 1 ≤ Try.prog.bytesOf 3 := of_decide_eq_true (by kernel_rfl)
theorem bytes_ev : 1 ≤ Try.prog.bytesOf 44 := of_decide_eq_true (by kernel_rfl)
theorem bytes_ints : 1 ≤ Try.prog.bytesOf 23 := of_decide_eq_true (by kernel_rfl)
theorem wf_i64 {n : Int} (h : (Lit.int .i64 n).wf = true) : -9223372036854775808 ≤ n ∧ n ≤ 9223372036854775807 := by
  simp only [Lit.wf, Bool.and_eq_true, decide_eq_true_eq] at h
  have e1 : IntKind.i64.min = -9223372036854775808 := by decide
  have e2 : IntKind.i64.max = 9223372036854775807 := by decide
  omega
theorem wf_u32 {n : Int} (h : (Lit.int .u32 n).wf = true) : 0 ≤ n ∧ n < 4294967296 := by
  simp only [Lit.wf, Bool.and_eq_true, decide_eq_true_eq] at h
  have e1 : IntKind.u32.min = 0 := by decide
  have e2 : IntKind.u32.max = 4294967295 := by decide
  omega
theorem take1 {α : Type} {l : List α} {i : Nat} {x : α} (h : l[i]? = some x) : (l.drop i).take 1 = [x] := by
  obtain ⟨hi, rfl⟩ := List.getElem?_eq_some_iff.1 h
  rw [List.drop_eq_getElem_cons hi]; rfl
theorem xs_get {α : Type} {l : List α} {n : Nat} (h : l.length = n) (i : Nat) (hi : i < n) : ∃ x, l[i]? = some x := ⟨l[i], List.getElem?_eq_getElem (by omega)⟩

section
variable {H : Type} {enc : TypeId × Value → H} {W : World} {sp : Nat → Bool} {held : Bool}

theorem ev_in {fuel : Nat} {cs : List Value} {x : DataW H × List MemPlace} (hlen : cs.length = 13) (h : DataW.trod enc Try.prog W 0 sp held fuel 44 cs = some x) (hw : ∀ n ∈ x.1.weights Try.prog 44, n ≤ reachBytes) :
    ∃ e : Ev, cs = e.cells ∧ e.okIn W.heap.size W := by
  obtain ⟨xs, n, _, rfl, _, hxl, hf⟩ := DataW.trod_struct Try.underlying44 h
  obtain ⟨c0, c1, c2, c3, c4, c5, c6, c7, c8, c9, c10, c11, c12, rfl⟩ := list13 hlen
  have hxl : xs.length = 13 := hxl
  have wx : ∀ (i : Nat) (y : DataW H × List MemPlace), xs[i]? = some y → (xs.map (·.1))[i]? = some y.1 := fun i y hy => by simp [hy]
  obtain ⟨x0, g0⟩ := xs_get hxl 0 (by decide)
  have t0 := hf 0 ⟨"Hart", 3, 0, false, "", "", 0⟩ rfl
  rw [g0] at t0
  rw [cells_int, take1 (i := 0) rfl] at t0
  obtain ⟨x1, g1⟩ := xs_get hxl 1 (by decide)
  have t1 := hf 1 ⟨"Kind", 41, 1, false, "", "", 8⟩ rfl
  rw [g1] at t1
  rw [cells_kind, take1 (i := 1) rfl] at t1
  obtain ⟨x2, g2⟩ := xs_get hxl 2 (by decide)
  have t2 := hf 2 ⟨"Addr", 42, 2, false, "", "", 16⟩ rfl
  rw [g2] at t2
  rw [cells_u32, take1 (i := 2) rfl] at t2
  obtain ⟨x3, g3⟩ := xs_get hxl 3 (by decide)
  have t3 := hf 3 ⟨"Value", 42, 3, false, "", "", 20⟩ rfl
  rw [g3] at t3
  rw [cells_u32, take1 (i := 3) rfl] at t3
  obtain ⟨x4, g4⟩ := xs_get hxl 4 (by decide)
  have t4 := hf 4 ⟨"ReadValue", 42, 4, false, "", "", 24⟩ rfl
  rw [g4] at t4
  rw [cells_u32, take1 (i := 4) rfl] at t4
  obtain ⟨x5, g5⟩ := xs_get hxl 5 (by decide)
  have t5 := hf 5 ⟨"Aq", 4, 5, false, "", "", 28⟩ rfl
  rw [g5] at t5
  rw [cells_bool, take1 (i := 5) rfl] at t5
  obtain ⟨x6, g6⟩ := xs_get hxl 6 (by decide)
  have t6 := hf 6 ⟨"Rl", 4, 6, false, "", "", 29⟩ rfl
  rw [g6] at t6
  rw [cells_bool, take1 (i := 6) rfl] at t6
  obtain ⟨x7, g7⟩ := xs_get hxl 7 (by decide)
  have t7 := hf 7 ⟨"Pred", 3, 7, false, "", "", 32⟩ rfl
  rw [g7] at t7
  rw [cells_int, take1 (i := 7) rfl] at t7
  obtain ⟨x8, g8⟩ := xs_get hxl 8 (by decide)
  have t8 := hf 8 ⟨"Succ", 3, 8, false, "", "", 40⟩ rfl
  rw [g8] at t8
  rw [cells_int, take1 (i := 8) rfl] at t8
  obtain ⟨x9, g9⟩ := xs_get hxl 9 (by decide)
  have t9 := hf 9 ⟨"Reserved", 4, 9, false, "", "", 48⟩ rfl
  rw [g9] at t9
  rw [cells_bool, take1 (i := 9) rfl] at t9
  obtain ⟨x10, g10⟩ := xs_get hxl 10 (by decide)
  have t10 := hf 10 ⟨"Addrs", 23, 10, false, "", "", 56⟩ rfl
  rw [g10] at t10
  rw [cells_ints, take1 (i := 10) rfl] at t10
  obtain ⟨x11, g11⟩ := xs_get hxl 11 (by decide)
  have t11 := hf 11 ⟨"Datas", 23, 11, false, "", "", 80⟩ rfl
  rw [g11] at t11
  rw [cells_ints, take1 (i := 11) rfl] at t11
  obtain ⟨x12, g12⟩ := xs_get hxl 12 (by decide)
  have t12 := hf 12 ⟨"Ctrls", 23, 12, false, "", "", 104⟩ rfl
  rw [g12] at t12
  rw [cells_ints, take1 (i := 12) rfl] at t12
  obtain ⟨z0, e0, _, w0⟩ := DataW.trod_int Try.underlying3 t0
  obtain ⟨z1, e1, _, w1⟩ := DataW.trod_int Try.underlying41 t1
  obtain ⟨z2, e2, _, w2⟩ := DataW.trod_int Try.underlying42 t2
  obtain ⟨z3, e3, _, w3⟩ := DataW.trod_int Try.underlying42 t3
  obtain ⟨z4, e4, _, w4⟩ := DataW.trod_int Try.underlying42 t4
  obtain ⟨z5, e5, _⟩ := DataW.trod_bool Try.underlying4 t5
  obtain ⟨z6, e6, _⟩ := DataW.trod_bool Try.underlying4 t6
  obtain ⟨z7, e7, _, w7⟩ := DataW.trod_int Try.underlying3 t7
  obtain ⟨z8, e8, _, w8⟩ := DataW.trod_int Try.underlying3 t8
  obtain ⟨z9, e9, _⟩ := DataW.trod_bool Try.underlying4 t9
  obtain ⟨s10, l10, e10, i10, _⟩ := ints_in Try.underlying23 Try.underlying3 cells_int bytes_int t10 (w_struct Try.underlying44 hw (i := 10) rfl (wx _ _ g10))
  obtain ⟨s11, l11, e11, i11, _⟩ := ints_in Try.underlying23 Try.underlying3 cells_int bytes_int t11 (w_struct Try.underlying44 hw (i := 11) rfl (wx _ _ g11))
  obtain ⟨s12, l12, e12, i12, _⟩ := ints_in Try.underlying23 Try.underlying3 cells_int bytes_int t12 (w_struct Try.underlying44 hw (i := 12) rfl (wx _ _ g12))
  simp only [List.cons.injEq, and_true] at e0 e1 e2 e3 e4 e5 e6 e7 e8 e9 e10 e11 e12
  refine ⟨⟨z0, z1, z2, z3, z4, z5, z6, z7, z8, z9, s10, s11, s12, l10, l11, l12⟩, ?_, i10, i11, i12, wf_i64 w0, wf_i64 w1, wf_u32 w2, wf_u32 w3, wf_u32 w4, wf_i64 w7, wf_i64 w8⟩
  unfold Ev.cells
  rw [e0, e1, e2, e3, e4, e5, e6, e7, e8, e9, e10, e11, e12]

theorem evs_in {fuel : Nat} {cs : List Value} {x : DataW H × List MemPlace} (h : DataW.trod enc Try.prog W 0 sp held fuel 22 cs = some x) (hw : ∀ n ∈ x.1.weights Try.prog 22, n ≤ reachBytes) :
    ∃ (s : Sl) (l : List Ev), cs = [.slice s.a s.n s.c] ∧ EvsIn W.heap.size W s l := by
  rcases open_slice Try.underlying22 h with ⟨rfl, rfl⟩ | ⟨a, len, cap, m, n, D, Pl, rfl, hb, hl, hm, hmm, rfl, hx⟩
  · exact ⟨⟨none, 0, 0⟩, [], rfl, rfl, by simp, by simp, Or.inl rfl⟩
  · have hle : len ≤ m := by rw [hmm]; split <;> omega
    obtain ⟨hwt, hwe⟩ := w_slice Try.underlying22 hw
    rw [cells_ev] at hx
    obtain ⟨E, hE⟩ := choose_lt (α := Ev) (n := len) (p := fun i e => e.okIn W.heap.size W ∧ ∀ j v, e.cells[j]? = some v → W.cell? (a.add (i * 13 + j)) = some v) (fun i hi => by
      obtain ⟨cs', h1, h2⟩ := hx i (by omega)
      obtain ⟨_, h3, h4⟩ := World.cells?_some h1
      obtain ⟨e, rfl, he⟩ := ev_in h3 h2 (hwe _ (by simp only [List.mem_map, List.mem_range]; exact ⟨i, hi, rfl⟩))
      refine ⟨e, he, fun j v hj => ?_⟩
      have hj13 : j < 13 := by have := (List.getElem?_eq_some_iff.1 hj).1; rw [h3] at this; exact this
      have := h4 j hj13
      rw [add_add, hj] at this
      exact this)
    have hL : ((List.range len).map E).length = len := by simp
    refine ⟨⟨some a, len, cap⟩, (List.range len).map E, rfl, hL.symm, ?_, ?_, ?_⟩
    · rw [hL]
      simp only [List.length_map, List.length_range] at hwt
      have h2 : len ≤ (len + (m - len)) * Try.prog.bytesOf 44 := by
        refine Nat.le_trans ?_ (Nat.le_mul_of_pos_right _ (by have := bytes_ev; omega)); omega
      unfold reachBytes at hwt
      omega
    · intro e he
      obtain ⟨i, hi, rfl⟩ := List.mem_map.1 he
      exact (hE i (List.mem_range.1 hi)).1
    · by_cases h0 : len = 0
      · left; rw [h0]; rfl
      · right
        obtain ⟨_, g0⟩ := hE 0 (by omega)
        obtain ⟨hs, hlt⟩ := cell_lt (g0 0 _ rfl)
        have ea := addr_eq (a := a) hs
        refine ⟨a.block, a.off, by rw [← ea], hlt, fun i hi => ?_⟩
        rw [hL] at hi
        obtain ⟨_, gi⟩ := hE i hi
        have e : ((List.range len).map E).getD i default = E i := by simp [List.getD, hi]
        rw [e]
        rw [ea] at gi
        simp only [add_plain] at gi
        unfold EvCells
        simp only [Nat.add_assoc]
        exact ⟨gi 0 _ rfl, gi 1 _ rfl, gi 2 _ rfl, gi 3 _ rfl, gi 4 _ rfl, gi 5 _ rfl, gi 6 _ rfl, gi 7 _ rfl, gi 8 _ rfl, gi 9 _ rfl, gi 10 _ rfl, gi 11 _ rfl, gi 12 _ rfl⟩

theorem rows_in {fuel : Nat} {cs : List Value} {x : DataW H × List MemPlace} (h : DataW.trod enc Try.prog W 0 sp held fuel 24 cs = some x) (hw : ∀ n ∈ x.1.weights Try.prog 24, n ≤ reachBytes) :
    ∃ (s : Sl) (l : List (Sl × List Int)), cs = [.slice s.a s.n s.c] ∧ RowsIn W.heap.size W s l := by
  rcases open_slice1 Try.underlying24 cells_ints h with ⟨rfl, rfl⟩ | ⟨a, len, cap, m, n, V, D, Pl, rfl, hb, hl, hm, hmm, rfl, hx⟩
  · exact ⟨⟨none, 0, 0⟩, [], rfl, rfl, by simp, by simp, Or.inl rfl⟩
  · have hle : len ≤ m := by rw [hmm]; split <;> omega
    obtain ⟨hwt, hwe⟩ := w_slice Try.underlying24 hw
    obtain ⟨E, hE⟩ := choose_lt (α := Sl × List Int) (n := len) (p := fun i r => IntsIn .i64 W.heap.size W r.1 r.2 ∧ W.cell? (a.add i) = some r.1.v) (fun i hi => by
      obtain ⟨h1, h2⟩ := hx i (by omega)
      obtain ⟨s, l, e1, e2, _⟩ := ints_in Try.underlying23 Try.underlying3 cells_int bytes_int h2 (hwe _ (by simp only [List.mem_map, List.mem_range]; exact ⟨i, hi, rfl⟩))
      simp only [List.cons.injEq, and_true] at e1
      rw [e1] at h1
      exact ⟨(s, l), e2, h1⟩)
    have hL : ((List.range len).map E).length = len := by simp
    refine ⟨⟨some a, len, cap⟩, (List.range len).map E, rfl, hL.symm, ?_, ?_, ?_⟩
    · rw [hL]
      simp only [List.length_map, List.length_range] at hwt
      have h2 : len ≤ (len + (m - len)) * Try.prog.bytesOf 23 := by
        refine Nat.le_trans ?_ (Nat.le_mul_of_pos_right _ (by have := bytes_ints; omega)); omega
      unfold reachBytes at hwt
      omega
    · intro e he
      obtain ⟨i, hi, rfl⟩ := List.mem_map.1 he
      exact (hE i (List.mem_range.1 hi)).1
    · by_cases h0 : len = 0
      · left; rw [h0]; rfl
      · right
        obtain ⟨_, g0⟩ := hE 0 (by omega)
        obtain ⟨hs, hlt⟩ := cell_lt g0
        have ea := addr_eq (a := a) hs
        refine ⟨a.block, a.off, by rw [← ea], hlt, fun i hi => ?_⟩
        rw [hL] at hi
        obtain ⟨_, gi⟩ := hE i hi
        have e : ((List.range len).map E).getD i default = E i := by simp [List.getD, hi]
        rw [e]
        rw [ea, add_plain] at gi
        exact gi

set_option maxRecDepth 100000 in
theorem exec_in {r : Reach} {b0 : Nat} {v : Value} {d : DataW H} {p : List MemPlace} (hv : Value.okWide Try.prog W r b0 26 v) (h : DataW.Trod enc Try.prog W 0 sp held 26 v d p) (hw : ∀ n ∈ d.weights Try.prog 26, n ≤ reachBytes) :
    ∃ x : Ex, v = x.agg ∧ x.inW W.heap.size W := by
  obtain ⟨v0, v1, v2, y0, y1, y2, n, rfl, rfl, rfl, h0, h1, h2⟩ := Go.Joins.open_agg3 Try.underlying26 (by kernel_rfl) (by kernel_rfl) hv h
  obtain ⟨s0, l0, e0, i0⟩ := evs_in h0 (w_struct Try.underlying26 hw (i := 0) rfl rfl)
  obtain ⟨s1, l1, e1, i1, _⟩ := ints_in Try.underlying23 Try.underlying3 cells_int bytes_int h1 (w_struct Try.underlying26 hw (i := 1) rfl rfl)
  obtain ⟨s2, l2, e2, i2⟩ := rows_in h2 (w_struct Try.underlying26 hw (i := 2) rfl rfl)
  simp only [List.cons.injEq, and_true] at e0 e1 e2
  refine ⟨⟨s0, s1, s2, l0, l1, l2⟩, ?_, i0, i1, i2⟩
  unfold Ex.agg
  rw [e0, e1, e2]
end
end Go.Proofs.Ytgeaaegkcbjhlaa
