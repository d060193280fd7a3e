/- From plain data back to the elder ground: an execution told in plain data lies in memory as the elder walks want it. -/
import Derived.Maps.OwnRows
import Derived.Test.YtgeaaegkcbjhlaaGreatPc3
import Derived.Test.YtgeaaegkcbjhlaaGreatPc5
import Derived.Test.YtgeaaegkcbjhlaaGreatPc6
import Derived.Test.YtgeaaegkcbjhlaaGreatPc7
import Derived.Test.YtgeaaegkcbjhlaaGreatPc8
set_option maxRecDepth 100000
set_option linter.unusedVariables false
namespace Go.Proofs.YtgeaaegkcbjhlaaGreat
open Go.RowKit Go.ChangeShapes Go.WideShapes Go.Deep
section
variable {M : Mem} {w : World} (hm : ∀ b o v, M b o = some v → w.cell? ⟨b, o, none⟩ = some v)
include hm
theorem ints_back {q : IntKind} {l : List Int} {v : Value} (h : Rep M (.sl 1 (l.map fun n => [TV.c (.int q n)])) v) (hl : l.length ≤ 1152921504606846976) : ∃ s : Sl, v = .slice s.a s.n s.c ∧ IntsIn q w.heap.size w s l := by
  rw [Rep] at h
  obtain ⟨a, c, h1, h2, h3⟩ := h
  rw [List.length_map] at h1
  refine ⟨⟨a, l.length, c⟩, h1, rfl, hl, ?_⟩
  rcases h3 with h3 | ⟨b, off, h4, h5⟩
  · exact Or.inl (List.map_eq_nil_iff.1 h3)
  · have get : ∀ k, k < l.length → w.cell? ⟨b, off + k, none⟩ = some (.int q (l.getD k 0)) := fun k hk => by
      obtain ⟨_, g2⟩ := h5.get (get_map (f := fun n => [TV.c (.int q n)]) hk 0)
      obtain ⟨u, g3, g4⟩ := g2.get (o := 0) rfl
      rw [Rep] at g4
      rw [g4.1, Nat.mul_one, Nat.add_zero] at g3
      exact hm _ _ _ g3
    by_cases hz : l = []
    · exact Or.inl hz
    · exact Or.inr ⟨b, off, h4, (cell_lt (get 0 (List.length_pos_iff.2 hz))).2, get⟩
/-- the same event, with slices -/
def Ev.like (e e' : Ev) : Prop := ∃ a d c : Sl, e' = { e with av := a, dv := d, cv := c } ∧ a.n = e.addrs.length ∧ d.n = e.datas.length ∧ c.n = e.ctrls.length
theorem ev_back {e : Ev} (hok : e.ok) {b o : Nat} (h : RepC M (evTV e) b o) : ∃ e', e.like e' ∧ EvCells w b o e' ∧ e'.okIn w.heap.size w := by
  have cl : ∀ i v, (evTV e)[i]? = some (.c v) → w.cell? ⟨b, o + i, none⟩ = some v := fun i v hi => by
    obtain ⟨u, g3, g4⟩ := h.get hi
    rw [Rep] at g4
    rw [g4.1] at g3
    exact hm _ _ _ g3
  have cs : ∀ i l, (evTV e)[i]? = some (ints l) → l.length ≤ 1152921504606846976 → ∃ s : Sl, w.cell? ⟨b, o + i, none⟩ = some (.slice s.a s.n s.c) ∧ IntsIn .i64 w.heap.size w s l := fun i l hi hl => by
    obtain ⟨u, g3, g4⟩ := h.get hi
    obtain ⟨s, rfl, hs⟩ := ints_back hm (q := .i64) g4 hl
    exact ⟨s, hm _ _ _ g3, hs⟩
  obtain ⟨w1, n1, n2, n3, _⟩ := hok
  obtain ⟨sa, a1, a2⟩ := cs 10 e.addrs rfl n1
  obtain ⟨sd, d1, d2⟩ := cs 11 e.datas rfl n2
  obtain ⟨sc, c1, c2⟩ := cs 12 e.ctrls rfl n3
  refine ⟨{ e with av := sa, dv := sd, cv := sc }, ⟨sa, sd, sc, rfl, a2.1, d2.1, c2.1⟩, ?_, a2, d2, c2, w1⟩
  exact ⟨cl 0 _ rfl, cl 1 _ rfl, cl 2 _ rfl, cl 3 _ rfl, cl 4 _ rfl, cl 5 _ rfl, cl 6 _ rfl, cl 7 _ rfl, cl 8 _ rfl, cl 9 _ rfl, a1, d1, c1⟩
theorem evs_back {es : List Ev} {v : Value} (h : Rep M (evsTV es) v) (hl : es.length ≤ 1152921504606846976) (hok : ∀ e ∈ es, e.ok) :
    ∃ (s : Sl) (es' : List Ev), v = .slice s.a s.n s.c ∧ EvsIn w.heap.size w s es' ∧ es'.length = es.length ∧ ∀ i, i < es.length → (es.getD i default).like (es'.getD i default) := by
  unfold evsTV at h
  rw [Rep] at h
  obtain ⟨a, c, h1, h2, h3⟩ := h
  rw [List.length_map] at h1
  rcases h3 with h3 | ⟨b, off, h4, h5⟩
  · have : es = [] := List.map_eq_nil_iff.1 h3
    subst this
    exact ⟨⟨a, 0, c⟩, [], h1, ⟨rfl, by simp, by simp, Or.inl rfl⟩, rfl, fun i hi => by simp at hi⟩
  · obtain ⟨E, hE⟩ := choose_lt (α := Ev) (n := es.length) (p := fun i e' => (es.getD i default).like e' ∧ EvCells w b (off + i * 13) e' ∧ e'.okIn w.heap.size w) (fun i hi => by
      obtain ⟨_, g2⟩ := h5.get (get_map (f := evTV) hi default)
      refine ev_back hm (hok _ ?_) g2
      rw [List.getD_eq_getElem?_getD, List.getElem?_eq_getElem hi]
      exact List.getElem_mem hi)
    have hL : ((List.range es.length).map E).length = es.length := by simp
    have hg : ∀ i, i < es.length → ((List.range es.length).map E).getD i default = E i := fun i hi => by
      rw [List.getD_eq_getElem?_getD, List.getElem?_eq_getElem (by omega)]
      simp
    refine ⟨⟨a, es.length, c⟩, (List.range es.length).map E, h1, ⟨hL.symm, by omega, fun e he => ?_, ?_⟩, hL, fun i hi => by rw [hg i hi]; exact (hE i hi).1⟩
    · obtain ⟨i, hi, rfl⟩ := List.mem_map.1 he
      exact (hE i (List.mem_range.1 hi)).2.2
    · by_cases hz : es.length = 0
      · left; rw [hz]; rfl
      · right
        have c0 := (hE 0 (by omega)).2.1.1
        exact ⟨b, off, h4, (cell_lt c0).2, fun k hk => by rw [hg k (by omega)]; exact (hE k (by omega)).2.1⟩
theorem rows_back {l : List (Sl × List Int)} {v : Value} (h : Rep M (rowsTV l) v) (hl : l.length ≤ 1152921504606846976) (hok : ∀ r ∈ l, r.2.length ≤ 1152921504606846976) :
    ∃ (s : Sl) (l' : List (Sl × List Int)), v = .slice s.a s.n s.c ∧ RowsIn w.heap.size w s l' ∧ l'.length = l.length ∧ ∀ i, i < l.length → (l'.getD i default).2 = (l.getD i default).2 := by
  unfold rowsTV at h
  rw [Rep] at h
  obtain ⟨a, c, h1, h2, h3⟩ := h
  rw [List.length_map] at h1
  rcases h3 with h3 | ⟨b, off, h4, h5⟩
  · have : l = [] := List.map_eq_nil_iff.1 h3
    subst this
    exact ⟨⟨a, 0, c⟩, [], h1, ⟨rfl, by simp, by simp, Or.inl rfl⟩, rfl, fun i hi => by simp at hi⟩
  · obtain ⟨E, hE⟩ := choose_lt (α := Sl × List Int) (n := l.length) (p := fun i r => r.2 = (l.getD i default).2 ∧ w.cell? ⟨b, off + i, none⟩ = some r.1.v ∧ IntsIn .i64 w.heap.size w r.1 r.2) (fun i hi => by
      obtain ⟨_, g2⟩ := h5.get (get_map (f := intRow) hi default)
      obtain ⟨u, g3, g4⟩ := g2.get (o := 0) rfl
      obtain ⟨s, rfl, hs⟩ := ints_back hm (q := .i64) g4 (by
        apply hok
        rw [List.getD_eq_getElem?_getD, List.getElem?_eq_getElem hi]
        exact List.getElem_mem hi)
      rw [Nat.mul_one, Nat.add_zero] at g3
      exact ⟨(s, (l.getD i default).2), rfl, hm _ _ _ g3, hs⟩)
    have hL : ((List.range l.length).map E).length = l.length := by simp
    have hg : ∀ i, i < l.length → ((List.range l.length).map E).getD i default = E i := fun i hi => by
      rw [List.getD_eq_getElem?_getD, List.getElem?_eq_getElem (by omega)]
      simp
    refine ⟨⟨a, l.length, c⟩, (List.range l.length).map E, h1, ⟨hL.symm, by omega, fun r hr => ?_, ?_⟩, hL, fun i hi => by rw [hg i hi]; exact (hE i hi).1⟩
    · obtain ⟨i, hi, rfl⟩ := List.mem_map.1 hr
      exact (hE i (List.mem_range.1 hi)).2.2
    · by_cases hz : l.length = 0
      · left; rw [hz]; rfl
      · right
        have c0 := (hE 0 (by omega)).2.1
        exact ⟨b, off, h4, (cell_lt c0).2, fun k hk => by rw [hg k (by omega)]; exact (hE k (by omega)).2.1⟩
end
/-! ### Check does not look at where slices lie -/
def Sl.core (s : Sl) : Sl := ⟨none, s.n, 0⟩
def Ev.core (e : Ev) : Ev := { e with av := e.av.core, dv := e.dv.core, cv := e.cv.core }
theorem getD_core (es : List Ev) (i : Nat) : (es.map Ev.core).getD i default = (es.getD i default).core := by
  rw [List.getD_eq_getElem?_getD, List.getD_eq_getElem?_getD, List.getElem?_map]
  cases es[i]? <;> rfl
def Ex.core (x : Ex) : Ex := ⟨default, default, default, x.evs.map Ev.core, x.from_, x.order.map fun r => (default, r.2)⟩
theorem addrs_core (es : List Ev) : addrsTo (es.map Ev.core) = addrsTo es := by
  unfold addrsTo
  rw [List.foldl_map]
  rfl
theorem hangs_core (es : List Ev) (n : Nat) (l : List Int) : hangsB (es.map Ev.core) n l = hangsB es n l := by
  unfold hangsB hangsTo
  congr 1
  funext i
  unfold depOk
  simp only [getD_core]
  rfl
theorem evOk_core (es : List Ev) (ad : List Int) : evOk (es.map Ev.core) ad = evOk es ad := by
  funext n
  unfold evOk evPre
  simp only [getD_core, hangs_core]
  rfl
theorem evsTo_core (es : List Ev) (ad : List Int) (k : Nat) : evsTo (es.map Ev.core) ad k = evsTo es ad k := by
  unfold evsTo
  rw [evOk_core]
theorem fromOk_core (es : List Ev) (fs : List Int) : fromOk (es.map Ev.core) fs = fromOk es fs := by
  funext n
  unfold fromOk srcOk
  simp only [getD_core, List.length_map]
  rfl
theorem fromB_core (es : List Ev) (fs : List Int) : fromB (es.map Ev.core) fs = fromB es fs := by
  unfold fromB fromTo
  rw [fromOk_core, List.length_map]
theorem want_core (es : List Ev) (a : Int) (k : Nat) : wantTo (es.map Ev.core) a k = wantTo es a k := by
  unfold wantTo
  simp only [getD_core]
  rfl
theorem order_core (es : List Ev) (ad : List Int) (rows : List (Sl × List Int)) : orderB (es.map Ev.core) ad (rows.map fun r => (default, r.2)) = orderB es ad rows := by
  unfold orderB rowsTo
  rw [List.length_map]
  congr 2
  funext i
  unfold rowOk
  rw [want_core, List.length_map]
  have : ((rows.map fun r => ((default : Sl), r.2)).getD i default).2 = (rows.getD i default).2 := by
    rw [List.getD_eq_getElem?_getD, List.getD_eq_getElem?_getD, List.getElem?_map]
    cases rows[i]? <;> rfl
  rw [this]
theorem check_core (x : Ex) : checkI x.core = checkI x := by
  unfold checkI Ex.core
  dsimp only
  rw [addrs_core, List.length_map, evsTo_core, fromB_core, order_core]
theorem like_core {e e' : Ev} (h : e.like e') (hc : e.av.n = e.addrs.length ∧ e.dv.n = e.datas.length ∧ e.cv.n = e.ctrls.length) : e'.core = e.core := by
  obtain ⟨a, d, c, rfl, h1, h2, h3⟩ := h
  unfold Ev.core Sl.core
  dsimp only
  rw [h1, h2, h3, hc.1, hc.2.1, hc.2.2]
theorem list_ext_getD {α : Type} (d : α) {l l' : List α} (hl : l.length = l'.length) (h : ∀ i, i < l.length → l.getD i d = l'.getD i d) : l = l' := by
  apply List.ext_getElem hl
  intro i h1 h2
  have := h i h1
  rw [List.getD_eq_getElem?_getD, List.getD_eq_getElem?_getD, List.getElem?_eq_getElem h1, List.getElem?_eq_getElem h2] at this
  exact this
theorem Ev.ok.bare {e : Ev} (h : e.ok) : e.bareB = e.rbareB := by
  obtain ⟨_, _, _, _, h1, h2, h3⟩ := h
  unfold Ev.bareB Ev.rbareB Ev.stB Ev.ldB
  rw [h1, h2, h3]
  obtain ⟨hart, kind, addr, val, rval, aq, rl, pred, succ, rsv, av, dv, cv, l1, l2, l3⟩ := e
  dsimp only
  generalize l1.length = a
  generalize l2.length = d
  generalize l3.length = c
  rw [Bool.eq_iff_iff]
  by_cases k5 : kind = 5
  · subst k5; cases aq <;> cases rl <;> cases rsv <;> simp <;> omega
  by_cases k4 : kind = 4
  · subst k4; cases aq <;> cases rl <;> cases rsv <;> simp <;> omega
  by_cases k3 : kind = 3
  · subst k3; cases aq <;> cases rl <;> cases rsv <;> simp <;> omega
  by_cases k2 : kind = 2
  · subst k2; cases aq <;> cases rl <;> cases rsv <;> simp <;> omega
  by_cases k1 : kind = 1
  · subst k1; cases aq <;> cases rl <;> cases rsv <;> simp <;> omega
  rw [if_neg k5, if_neg k1, if_neg k2, if_neg k3, if_neg k4]
  have : kind < 1 ∨ 5 < kind := by omega
  rcases this with h | h <;> simp [h]
theorem ex_back {M : Mem} {w : World} (hm : ∀ b o v, M b o = some v → w.cell? ⟨b, o, none⟩ = some v) {G : Gh} (hG : G.M = M) {x : Ex} {v : Value} (h : RepO G (exOV x) v) (hx : x.ok) :
    ∃ x' : Ex, v = x'.agg ∧ x'.inW w.heap.size w ∧ x'.core = x.core := by
  obtain ⟨h1, h2, h3, h4, h5⟩ := hx
  unfold exOV at h
  rw [RepO] at h
  obtain ⟨vs, hv, h⟩ := h
  rw [RepOL] at h
  obtain ⟨v0, us, e0, r0, h⟩ := h
  rw [RepOL] at h
  obtain ⟨v1, us1, e1, r1, h⟩ := h
  rw [RepOL] at h
  obtain ⟨v2, us2, e2, r2, h⟩ := h
  rw [RepOL] at h
  rw [RepO, hG] at r0 r1 r2
  obtain ⟨s0, es', rfl, g1, g2, g3⟩ := evs_back hm r0 h1 h2
  obtain ⟨s1, rfl, g4⟩ := ints_back hm (q := .i64) r1 h3
  obtain ⟨s2, l', rfl, g5, g6, g7⟩ := rows_back hm r2 h4 h5
  refine ⟨⟨s0, s1, s2, es', x.from_, l'⟩, ?_, ⟨g1, g4, g5⟩, ?_⟩
  · rw [hv]; unfold Ex.agg
    congr 1
    apply Array.ext'
    rw [e0, e1, e2, h]
  · unfold Ex.core
    dsimp only
    congr 1
    · apply list_ext_getD default (by simpa using g2)
      intro i hi
      rw [List.length_map] at hi
      rw [getD_core, getD_core]
      refine like_core (g3 i (by omega)) ?_
      have := h2 (x.evs.getD i default) (by
        rw [List.getD_eq_getElem?_getD, List.getElem?_eq_getElem (by omega)]
        exact List.getElem_mem _)
      exact this.2.2.2.2
    · apply list_ext_getD default (by simpa using g6)
      intro i hi
      rw [List.length_map] at hi
      have e : ∀ rows : List (Sl × List Int), (rows.map fun r => ((default : Sl), r.2)).getD i default = (default, (rows.getD i default).2) := fun rows => by
        rw [List.getD_eq_getElem?_getD, List.getD_eq_getElem?_getD, List.getElem?_map]
        cases rows[i]? <;> rfl
      rw [e, e, g7 i (by omega)]
/-- A function's contract in plain data, from the elder ground: a number, or a truth value. -/
theorem pure_of {P : Program} {f : FuncId} {args : List OV} {l : Value} (hE : Enters P f) (hl : l.oneCell' = true)
    (h : ∀ (G : Gh) (w : World) (vs : List Value), RepOL G args vs → (∀ b o v, G.M b o = some v → w.cell? ⟨b, o, none⟩ = some v) → Calls P f vs.toArray w fun e w' => e = .returned l ∧ Below w.heap.size w w') : Pure P f args (.d (.c l)) :=
  ⟨hE, fun G w vs N hr hw => (h G w vs hr hw.mem).mono fun e w' ⟨h1, h2⟩ => ⟨l, G, .d (.c l), Store.nil, h1, rfl, Gh.le.refl G, by rw [RepO]; exact rep_c2 hl, hw.below h2⟩⟩
/-- events.Check, in plain data -/
theorem check_p (x : Ex) (hx : x.ok) (hrows : ∀ r ∈ x.order, r.2.length ≤ 65536) : Pure E.P 13 [exOV x] (.int .i64 (checkI x)) := by
  refine pure_of ⟨_, Tryz.func13, by decide, rfl⟩ rfl fun G w vs hr hm => ?_
  rw [RepOL] at hr
  obtain ⟨v, us, rfl, r0, hr⟩ := hr
  rw [RepOL] at hr
  subst hr
  obtain ⟨x', rfl, h1, h2⟩ := ex_back hm rfl r0 hx
  have := check_c x' w h1 (fun r hr => ?_)
  · rw [← check_core x', h2, check_core] at this
    exact this
  · have e : (default, r.2) ∈ x'.core.order := List.mem_map.2 ⟨r, hr, rfl⟩
    rw [h2] at e
    obtain ⟨r', hr', e'⟩ := List.mem_map.1 e
    have := hrows r' hr'
    rw [Prod.mk.injEq] at e'
    rw [← e'.2]; exact this
end Go.Proofs.YtgeaaegkcbjhlaaGreat
/- Executions and pairs as rows of plain data; an iterator's next value. -/
set_option linter.unusedVariables false
set_option linter.unusedSimpArgs false
namespace Go.Proofs.YtgeaaegkcbjhlaaGreat
open Go.RowKit
def pairTV (p : Int × Int) : List TV := [.c (.int .i64 p.1), .c (.int .i64 p.2)]
def pairsTV (l : List (Int × Int)) : TV := .sl 2 (l.map pairTV)
def exRow (x : Ex) : List TV := [evsTV x.evs, ints x.from_, rowsTV x.order]
theorem next_pair {l pre r : List (Int × Int)} {p : Int × Int} (h : l = pre ++ [p] ++ r) : pre.length < l.length ∧ (pairYs l).getD pre.length [] = [.ag (pairO' p)] := by
  have hlt : pre.length < l.length := by rw [h]; simp
  refine ⟨hlt, ?_⟩
  rw [pairYs_get l hlt, h]
  simp [List.getD]
/-- a small execution, as check takes it -/
def Ex.fit (x : Ex) : Prop := x.ok ∧ ∀ r ∈ x.order, r.2.length ≤ 65536
theorem seq_next {P : Program} {Y : YJ} {k m : Nat} {τ : Stamp} {st : Bool} {J : Nat → Rows → Prop} {L : List (Int × Int)} (h1 : st = false → m = L.length)
    (hy : ∀ i l0, i < m → J i l0 → YieldW P Y k τ i (i + 1) ((pairYs L).getD i []) l0 (J (i + 1)) (!(st && i + 1 == m))) {pre r : List (Int × Int)} {p : Int × Int} {l : Rows} (hL : L = pre ++ [p] ++ r) (hst : st = true → pre.length < m) (hJ : J pre.length l) :
    pre.length < m ∧ YieldW P Y k τ pre.length (pre.length + 1) [.ag (pairO' p)] l (J (pre.length + 1)) (!(st && pre.length + 1 == m)) := by
  obtain ⟨e1, e2⟩ := next_pair hL
  have hlm : pre.length < m := by
    cases st with
    | true => exact hst rfl
    | false => rw [h1 rfl]; exact e1
  have := hy _ l hlm hJ
  rw [e2] at this
  exact ⟨hlm, this⟩
theorem seq_go {st : Bool} {m i : Nat} (h1 : i < m) (h2 : (!(st && i + 1 == m)) = true) (h3 : st = true) : i + 1 < m := by
  subst h3
  simp at h2; omega
theorem seq_stop {st : Bool} {m i : Nat} (h : (!(st && i + 1 == m)) = false) : i + 1 = m := by
  simp at h; exact h.2
theorem pair_fz (l : List (Int × Int)) : FzR (l.map pairO') (l.map pairTV) := by
  induction l with
  | nil => exact FzR.nil
  | cons p l ih => exact FzR.cons (FzC.cons (FzC.cons FzC.nil)) ih
theorem fs_abs {k s : Nat} {τ : Stamp} {rows : List (List TV)} {l : Rows} (hbig : ∀ e ∈ l, 1000 ≤ e.1) (hk : k < 1000) {σ : Store} (h : ∀ j, j ≠ k → σ j = stL l j) : FrozS k τ s rows σ (stL l) := fun j τ' r' hj => by
  have hne : j ≠ k := fun e => by
    subst e
    obtain ⟨e, he, h2⟩ := List.mem_map.1 (stL_get hj)
    have := hbig e he
    omega
  exact ⟨hne, r', by rw [h j hne]; exact hj, rfl, rfl, fun i row' hi => ⟨row', hi, rfl, fun o y' ho => ⟨y', ho, .same _⟩⟩⟩
theorem le_app {l : Rows} (hbig : ∀ e ∈ l, 1000 ≤ e.1) {σ : Store} {δ : Diff} (hd : (δ.all fun e => Nat.blt e.1 1000) = true) (h : (stL l).le σ) : (stL l).le (σ.apply δ) := fun k x hx => by
  rw [apply_out (fun hk => ?_)]
  · exact h k x hx
  · obtain ⟨e, he, h2⟩ := List.mem_map.1 (stL_get hx)
    have h3 := hbig e he
    have : ∀ δ : Diff, k ∈ wkeys δ → ∃ y, (k, y) ∈ δ := fun δ => by
      induction δ with
      | nil => intro h; cases h
      | cons a δ ih =>
        obtain ⟨a, y⟩ := a
        intro h
        simp only [wkeys, List.mem_cons] at h
        rcases h with rfl | h
        · exact ⟨y, by simp⟩
        · obtain ⟨y', h'⟩ := ih h; exact ⟨y', by simp [h']⟩
    obtain ⟨y, hy⟩ := this δ hk
    have := List.all_eq_true.1 hd _ hy
    simp at this
    omega
end Go.Proofs.YtgeaaegkcbjhlaaGreat
/- Pairs held against each other, in plain data. -/
set_option maxRecDepth 100000
set_option linter.unusedVariables false
set_option linter.unusedSimpArgs false
namespace Go.Proofs.YtgeaaegkcbjhlaaGreat
open Go.RowKit
theorem eqPair_run (a b c d : Int) (w : World) : (Op.equalIn 10000 41 (.agg #[.int .i64 a, .int .i64 b]) (.agg #[.int .i64 c, .int .i64 d])).run Tryz.prog w = .ok (a == c && b == d) w := by
  rw [run_equalIn_agg w 9999 41 _ _ (by kernel_rfl) (by kernel_rfl)]
  obtain ⟨f, g, h, hf, hg, tf, tg, of, og⟩ : ∃ f g : Field, (Program.fieldsOf Tryz.prog 41).toList = [f, g] ∧ f.name ≠ "_" ∧ g.name ≠ "_" ∧ f.type = 3 ∧ g.type = 3 ∧ f.offset = 0 ∧ g.offset = 1 := ⟨_, _, rfl, by decide, by decide, rfl, rfl, rfl, rfl⟩
  rw [h]
  unfold Op.eqFields Op.eqFields Op.eqFields
  rw [if_pos hf, if_pos hg, tf, tg, of, og]
  have ha : (isAgg 3).run Tryz.prog w = .ok false w := Tryz.isAgg3 w
  have hp1 : ∀ (x y : Int), (part 3 #[.int .i64 x, .int .i64 y] 0).run Tryz.prog w = .ok (.int .i64 x) w := fun x y => by
    simp [part, ha]
  have hp2 : ∀ (x y : Int), (part 3 #[.int .i64 x, .int .i64 y] 1).run Tryz.prog w = .ok (.int .i64 y) w := fun x y => by
    simp [part, ha]
  have hi : ∀ x y : Int, (Op.equalIn 9999 3 (.int .i64 x) (.int .i64 y)).run Tryz.prog w = .ok (x == y) w := fun x y => run_equalIn_int w 9998 3 .i64 .i64 x y Tryz.underlying3
  simp only [Sem.run_bind, hp1, hp2, hi, Result.andThen_ok]
  cases hx : (a == c) with
  | false => simp
  | true => 
    simp only [Bool.not_true, Bool.false_eq_true, if_false, Sem.run_bind, hp1, hp2, hi, Result.andThen_ok, Bool.true_and]
    cases hy : (b == d) <;> simp
section
variable {v j : Nat} {ops : Array Oper} {K : Tm → Store → Prop} {KD : List Foot → Tm → Store → Prop} {acc : List Foot} {rest : List Oper} {tm : Tm} {σ : Store} {dst : Option Tmp} {ty : TypeId} {pos : String} {af : Array Edge} {gd : Option (Nat × Bool)}
theorem pair_val {G : Gh} {p : Int × Int} {u : Value} (h : RepO G (.ag (pairO' p)) u) : u = .agg #[.int .i64 p.1, .int .i64 p.2] := by
  rw [RepO] at h
  obtain ⟨cs, rfl, h⟩ := h
  unfold pairO' at h
  rw [RepOL] at h
  obtain ⟨a, l, e1, h1, h⟩ := h
  rw [RepOL] at h
  obtain ⟨b, l2, rfl, h2, h⟩ := h
  rw [RepOL] at h
  subst h
  have := rep_c h1
  have := rep_c h2
  subst a b
  rw [show cs = cs.toList.toArray by simp, e1]
theorem Y_neqP {x y : Operand} {T' : TypeId} {p q : Int × Int} (hx : ev tm x = some (.ag (pairO' p))) (hy : ev tm y = some (.ag (pairO' q))) :
    YL E.P v j ⟨dst, .binOp .neq 41 x y T', ty, pos, af, gd⟩ tm σ [] (.bool (!(p.1 == q.1 && p.2 == q.2))) [] := Y_bin' hx hy (fun M u w' w hu hv => by
  rw [pair_val hu, pair_val hv]
  exact ⟨run_eqGuard_agg w _ _ _ _ _ _ (by kernel_rfl), by
    rw [run_neq_struct, show E.P = Tryz.prog from rfl, eqPair_run]; rfl⟩) rfl
theorem D_neqP {x y : Operand} {T' : TypeId} (p q : Int × Int) (hx : ev tm x = some (.ag (pairO' p))) (hy : ev tm y = some (.ag (pairO' q))) (hcont : DO E.P v ops KD (j + 1) rest (tm.putO dst (.bool (!(p.1 == q.1 && p.2 == q.2)))) (σ.apply []) (Foot.mk [] (wkeys []) :: acc)) : DO E.P v ops KD j (⟨dst, .binOp .neq 41 x y T', ty, pos, af, none⟩ :: rest) tm σ acc := do_step (Y_neqP hx hy) hcont
end
end Go.Proofs.YtgeaaegkcbjhlaaGreat
/- What an execution that may be is. Plain. -/
namespace Go.Proofs.YtgeaaegkcbjhlaaGreat
theorem check_zero {x : Ex} (h : checkI x = 0) : x.evs.length ≤ 64 ∧ evsTo x.evs (addrsTo x.evs) x.evs.length = true ∧ fromB x.evs x.from_ = true ∧ orderB x.evs (addrsTo x.evs) x.order = true := by
  unfold checkI at h
  by_cases h1 : 64 < x.evs.length
  · rw [if_pos h1] at h; omega
  rw [if_neg h1] at h
  cases h2 : evsTo x.evs (addrsTo x.evs) x.evs.length with
  | false => rw [h2] at h; simp at h
  | true =>
  cases h3 : fromB x.evs x.from_ with
  | false => rw [h2, h3] at h; simp at h
  | true =>
  cases h4 : orderB x.evs (addrsTo x.evs) x.order with
  | false => rw [h2, h3, h4] at h; simp at h
  | true => exact ⟨by omega, rfl, rfl, rfl⟩
theorem from_len {es : List Ev} {fs : List Int} (h : fromB es fs = true) : fs.length = es.length := by
  unfold fromB at h
  simp only [Bool.and_eq_true, decide_eq_true_eq] at h
  exact h.1
theorem from_at {es : List Ev} {fs : List Int} (h : fromB es fs = true) {k : Nat} (hk : k < fs.length) : fromOk es fs k = true := by
  unfold fromB fromTo at h
  simp only [Bool.and_eq_true, List.all_eq_true, List.mem_range] at h
  exact h.2 k hk
theorem from_lt {es : List Ev} {fs : List Int} (h : fromB es fs = true) (k : Nat) : fs.getD k 0 < (es.length : Int) + 1 := by
  by_cases hk : k < fs.length
  · have := from_at h hk
    unfold fromOk at this
    simp only [Bool.or_eq_true, Bool.and_eq_true, Bool.not_eq_true', beq_iff_eq, decide_eq_false_iff_not] at this
    omega
  · rw [List.getD_eq_getElem?_getD, List.getElem?_eq_none (by omega)]
    simp only [Option.getD_none]
    omega
end Go.Proofs.YtgeaaegkcbjhlaaGreat
/- Relations as lists of pairs: all pairs of places, one behind the other, of which it is so; program order. Plain. -/
set_option linter.unusedVariables false
namespace Go.Proofs.YtgeaaegkcbjhlaaGreat
theorem nonneg_nat {a : Int} (h : 0 ≤ a) : ∃ n : Nat, a = n := ⟨a.toNat, (Int.toNat_of_nonneg h).symm⟩
def refPairs (n : Nat) (f : Nat → Nat → Bool) : List (Int × Int) := (List.range n).flatMap fun a => ((List.range n).filter (f a)).map fun (b : Nat) => (((a : Nat) : Int), ((b : Nat) : Int))
theorem mem_refPairs {n : Nat} {f : Nat → Nat → Bool} {p : Int × Int} : p ∈ refPairs n f ↔ ∃ a b : Nat, a < n ∧ b < n ∧ f a b = true ∧ p = ((a : Int), (b : Int)) := by
  unfold refPairs
  constructor
  · intro h
    obtain ⟨a, h1, h2⟩ := List.mem_flatMap.1 h
    obtain ⟨b, h3, rfl⟩ := List.mem_map.1 h2
    obtain ⟨h4, h5⟩ := List.mem_filter.1 h3
    exact ⟨a, b, List.mem_range.1 h1, List.mem_range.1 h4, h5, rfl⟩
  · rintro ⟨a, b, h1, h2, h3, rfl⟩
    exact List.mem_flatMap.2 ⟨a, List.mem_range.2 h1, List.mem_map.2 ⟨b, List.mem_filter.2 ⟨List.mem_range.2 h2, h3⟩, rfl⟩⟩
theorem ltZ_iff {x y : Int × Int} : ltZ x y = true ↔ x.1 < y.1 ∨ (x.1 = y.1 ∧ x.2 < y.2) := by simp [ltZ]
theorem refPairs_lt (n : Nat) (f : Nat → Nat → Bool) : (refPairs n f).Pairwise fun x y => ltZ x y = true := by
  unfold refPairs
  rw [List.pairwise_flatMap]
  refine ⟨fun a _ => ?_, ?_⟩
  · refine List.Pairwise.map _ (R := (· < ·)) (fun b c h => ?_) (List.Pairwise.filter _ List.pairwise_lt_range)
    rw [ltZ_iff]; right; exact ⟨rfl, by dsimp only; omega⟩
  · refine List.Pairwise.imp (fun {a b} h => ?_) List.pairwise_lt_range
    intro x hx y hy
    obtain ⟨c, _, rfl⟩ := List.mem_map.1 hx
    obtain ⟨d, _, rfl⟩ := List.mem_map.1 hy
    rw [ltZ_iff]; left; dsimp only; omega
theorem sortZ_eq {L : List (Int × Int)} {n : Nat} {f : Nat → Nat → Bool} (hnd : L.Nodup) (hm : ∀ p, p ∈ L ↔ p ∈ refPairs n f) : sortZ L = refPairs n f := by
  have hlt := refPairs_lt n f
  have hnd2 : (refPairs n f).Nodup := hlt.imp fun {x y} h e => by subst e; rw [ltZ_iff] at h; omega
  refine List.Perm.eq_of_pairwise (le := fun x y => (!ltZ y x) = true) (fun x y _ _ h1 h2 => ?_) (List.pairwise_mergeSort (fun a b c h1 h2 => ?_) (fun a b => ?_) L) (hlt.imp fun {x y} h => ?_) ((List.mergeSort_perm L _).trans ((List.perm_ext_iff_of_nodup hnd hnd2).2 hm))
  · simp only [Bool.not_eq_true', Bool.eq_false_iff, ne_eq, ltZ_iff] at h1 h2
    exact Prod.ext (by omega) (by omega)
  · simp only [Bool.not_eq_true', Bool.eq_false_iff, ne_eq, ltZ_iff] at *
    omega
  · simp only [Bool.or_eq_true, Bool.not_eq_true', Bool.eq_false_iff, ne_eq, ltZ_iff]
    omega
  · simp only [Bool.not_eq_true', Bool.eq_false_iff, ne_eq, ltZ_iff] at *
    omega
/-! ### program order -/
def isPo (x : Ex) (a b : Nat) : Bool := decide (a < b) && decide (0 ≤ (x.evs.getD a default).hart) && decide ((x.evs.getD a default).hart = (x.evs.getD b default).hart)
def poRow (x : Ex) (a b : Nat) : List (Int × Int) := ((List.range b).filter (isPo x a)).map fun (b : Nat) => (((a : Nat) : Int), ((b : Nat) : Int))
def poTo (x : Ex) (a : Nat) : List (Int × Int) := (List.range a).flatMap fun a => poRow x a x.evs.length
def poAt (x : Ex) (a b : Nat) : List (Int × Int) := poTo x a ++ poRow x a b
def poZ (x : Ex) : List (Int × Int) := poTo x x.evs.length
theorem poZ_ref (x : Ex) : poZ x = refPairs x.evs.length (isPo x) := rfl
theorem po_sorted (x : Ex) : sortZ (poZ x) = refPairs x.evs.length (isPo x) := by
  have hlt := refPairs_lt x.evs.length (isPo x)
  exact sortZ_eq (by rw [poZ_ref]; exact hlt.imp fun {x y} h e => by subst e; rw [ltZ_iff] at h; omega) fun p => by rw [poZ_ref]
theorem poTo_succ (x : Ex) (a : Nat) : poTo x (a + 1) = poTo x a ++ poRow x a x.evs.length := by
  simp [poTo, List.range_succ, List.flatMap_append]
theorem poAt_zero (x : Ex) (a : Nat) : poAt x a (a + 1) = poTo x a := by
  unfold poAt poRow
  rw [List.filter_eq_nil_iff.2, List.map_nil, List.append_nil]
  intro b hb
  have := List.mem_range.1 hb
  unfold isPo
  rw [show decide (a < b) = false by simp; omega]
  simp
theorem poRow_yes {x : Ex} {a b : Nat} (h : isPo x a b = true) : poRow x a (b + 1) = poRow x a b ++ [((a : Int), (b : Int))] := by
  unfold poRow
  rw [List.range_succ, List.filter_append, List.filter_cons, if_pos h, List.filter_nil, List.map_append]; rfl
theorem poRow_no {x : Ex} {a b : Nat} (h : ¬ isPo x a b = true) : poRow x a (b + 1) = poRow x a b := by
  unfold poRow
  rw [List.range_succ, List.filter_append, List.filter_cons, if_neg h, List.filter_nil, List.append_nil]
theorem poAt_yes {x : Ex} {a b : Nat} (h : isPo x a b = true) : poAt x a (b + 1) = poAt x a b ++ [((a : Int), (b : Int))] := by
  unfold poAt; rw [poRow_yes h, List.append_assoc]
theorem poAt_no {x : Ex} {a b : Nat} (h : ¬ isPo x a b = true) : poAt x a (b + 1) = poAt x a b := by
  unfold poAt; rw [poRow_no h]
theorem poAt_end (x : Ex) (a : Nat) : poAt x a x.evs.length = poTo x (a + 1) := by rw [poTo_succ]; rfl
theorem poRow_pre (x : Ex) (a : Nat) : ∀ {b c : Nat}, b ≤ c → ∃ r, poRow x a c = poRow x a b ++ r := fun {b c} h => by
  induction c with
  | zero => have : b = 0 := by omega
            subst this; exact ⟨[], by simp⟩
  | succ c ih =>
    by_cases e : b = c + 1
    · subst e; exact ⟨[], by simp⟩
    · obtain ⟨r, hr⟩ := ih (by omega)
      by_cases hc : isPo x a c = true
      · exact ⟨_, by rw [poRow_yes hc, hr, List.append_assoc]⟩
      · exact ⟨r, by rw [poRow_no hc, hr]⟩
theorem poTo_pre (x : Ex) : ∀ {a c : Nat}, a ≤ c → ∃ r, poTo x c = poTo x a ++ r := fun {a c} h => by
  induction c with
  | zero => have : a = 0 := by omega
            subst this; exact ⟨[], by simp⟩
  | succ c ih =>
    by_cases e : a = c + 1
    · subst e; exact ⟨[], by simp⟩
    · obtain ⟨r, hr⟩ := ih (by omega)
      exact ⟨_, by rw [poTo_succ, hr, List.append_assoc]⟩
theorem poAt_in {x : Ex} {a b : Nat} (ha : a < x.evs.length) (hb : b < x.evs.length) (h : isPo x a b = true) : ∃ q, poZ x = poAt x a b ++ [((a : Int), (b : Int))] ++ q := by
  obtain ⟨q1, h1⟩ := poTo_pre x (show a + 1 ≤ x.evs.length from ha)
  obtain ⟨q2, h2⟩ := poRow_pre x a (show b + 1 ≤ x.evs.length from hb)
  rw [← poAt_yes h]
  unfold poZ poAt
  rw [h1, poTo_succ, h2]
  exact ⟨q2 ++ q1, by simp only [List.append_assoc]⟩
theorem poZ_small {x : Ex} (h : x.evs.length ≤ 65536) : smallP (poZ x) := fun p hp => by
  rw [poZ_ref] at hp
  obtain ⟨a, b, h1, h2, _, rfl⟩ := mem_refPairs.1 hp
  dsimp only
  omega
theorem poTo_len (x : Ex) : ∀ a, (poTo x a).length ≤ a * x.evs.length
  | 0 => by simp [poTo]
  | a + 1 => by
    rw [poTo_succ, List.length_append, Nat.succ_mul]
    have h1 := poTo_len x a
    have h2 : (poRow x a x.evs.length).length ≤ x.evs.length := by
      unfold poRow
      rw [List.length_map]
      exact Nat.le_trans (List.length_filter_le _ _) (by simp)
    omega
end Go.Proofs.YtgeaaegkcbjhlaaGreat
/- Lists held against each other; program order, of the reference; in plain data. -/
set_option maxRecDepth 100000
set_option linter.unusedVariables false
set_option linter.unusedSimpArgs false
namespace Go.Proofs.YtgeaaegkcbjhlaaGreat
open Go.RowKit
/-- two lists, one by one -/
def eqTo {α : Type} [Inhabited α] (f : α → α → Bool) (a b : List α) (k : Nat) : Bool := (List.range k).all fun i => f (a.getD i default) (b.getD i default)
theorem eqTo_succ {α : Type} [Inhabited α] (f : α → α → Bool) (a b : List α) (k : Nat) : eqTo f a b (k + 1) = (eqTo f a b k && f (a.getD k default) (b.getD k default)) := by
  unfold eqTo; rw [List.range_succ, List.all_append]; simp
theorem eqTo_false {α : Type} [Inhabited α] {f : α → α → Bool} {a b : List α} {k : Nat} (n : Nat) (hk : k < n) (h : f (a.getD k default) (b.getD k default) = false) : eqTo f a b n = false := by
  unfold eqTo
  rw [List.all_eq_false]
  exact ⟨k, by simpa using hk, by rw [h]; decide⟩
def eqL {α : Type} [Inhabited α] (f : α → α → Bool) (a b : List α) : Bool := decide (a.length = b.length) && eqTo f a b a.length
theorem eqL_len {α : Type} [Inhabited α] {f : α → α → Bool} {a b : List α} (h : ¬ a.length = b.length) : eqL f a b = false := by unfold eqL; simp [h]
theorem eqL_false {α : Type} [Inhabited α] {f : α → α → Bool} {a b : List α} {k : Nat} (hk : k < a.length) (h : f (a.getD k default) (b.getD k default) = false) : eqL f a b = false := by unfold eqL; rw [eqTo_false _ hk h]; simp
theorem eqL_true {α : Type} [Inhabited α] {f : α → α → Bool} {a b : List α} (h : a.length = b.length) (h2 : eqTo f a b a.length = true) : eqL f a b = true := by unfold eqL; rw [h2]; simp [h]
def intB (a b : Int) : Bool := decide (a = b)
def eqI (a b : List Int) : Bool := eqL intB a b
theorem eqL_refl {α : Type} [Inhabited α] (f : α → α → Bool) (hf : ∀ a, f a a = true) (a : List α) : eqL f a a = true := eqL_true rfl (by unfold eqTo; simp [hf])
def pairB (a b : Int × Int) : Bool := a.1 == b.1 && a.2 == b.2
def eqP (a b : List (Int × Int)) : Bool := eqL pairB a b
theorem eqP_refl (a : List (Int × Int)) : eqP a a = true := eqL_refl _ (fun p => by simp [pairB]) a
set_option maxHeartbeats 1000000 in
theorem rsamePairs_p (a b : List (Int × Int)) (ha : a.length ≤ 1152921504606846976) (hb : b.length ≤ 1152921504606846976) : Pure E.P 11 [.d (pairsTV a), .d (pairsTV b)] (.bool (eqP a b)) := by
  refine fn_of_awp Tryz.func11 (by decide) rfl Tryz.ntmps11 (Nat.le_of_ble_eq_true rfl) rfl ?_
  refine awp_seq ?_
  (refine ao_region ?_ (fun _ => ?_); exact rfl)
  refine q12 ?_; refine ao_nil ?_; refine then_n ?_
  iterate 2 refine awp_seq ?_
  (refine ao_region ?_ (fun _ => ?_); exact rfl)
  refine q11 ?_; refine q13 ?_; refine q11 ?_; refine q13 ?_; refine q44 ?_; refine ao_nil ?_; refine then_n ?_
  (apply awp_cond; exact rfl)
  (refine im_nt (fun _ => ?_); (try (exfalso; omega)))
  refine awp_seq ?_
  (refine ao_region ?_ (fun _ => ?_); exact rfl)
  refine q12 ?_; refine ao_nil ?_; refine then_n ?_; refine awp_ret ?_; refine then_r ?_
  rotate_left
  (refine im_nf (fun _ => ?_); (try (exfalso; omega)))
  refine awp_skip ?_; refine then_n ?_
  iterate 2 refine awp_seq ?_
  (refine ao_region ?_ (fun _ => ?_); exact rfl)
  refine q12 ?_; refine ao_nil ?_; refine then_n ?_; refine awp_block ?_
  rotate_left
  · exact done_b rfl (eqL_len (by omega)).symm
  refine awp_loop (X := Nat) (fun k => tmL [(0, .d (pairsTV a)), (1, .d (pairsTV b)), (5, .int .i64 k)]) (fun _ => stL []) (fun k => k ≤ a.length ∧ eqTo pairB a b k = true) (fun k => a.length - k) 0 ⟨Nat.zero_le _, rfl⟩ (by repeat' (first | exact le_nil _ | exact sle_nil _ | refine le_cons rfl ?_ | refine sle_cons rfl ?_)) (by repeat' (first | exact le_nil _ | exact sle_nil _ | refine le_cons rfl ?_ | refine sle_cons rfl ?_)) ?_
  rintro k ⟨hk, ht⟩
  iterate 2 refine awp_seq ?_
  (refine ao_region ?_ (fun _ => ?_); exact rfl)
  iterate 2 refine q11 ?_
  refine q13 ?_; refine q37 ?_; refine ao_nil ?_; refine then_n ?_
  (apply awp_cond; exact rfl)
  (refine im_dt (fun _ => ?_); (try (exfalso; omega)))
  refine awp_skip ?_; refine then_n ?_; refine awp_seq ?_; refine awp_block ?_; refine awp_seq ?_
  (refine do_region (E := E) ?_ (fun _ => ?_); exact rfl)
  iterate 2 refine q38 ?_
  refine q30 ?_
  (apply D_load_ptA; exact rfl; exact rfl; exact rfl; exact Nat.le_of_ble_eq_true rfl)
  iterate 2 refine q38 ?_
  refine q30 ?_
  (apply D_load_ptA; exact rfl; exact rfl; exact rfl; exact Nat.le_of_ble_eq_true rfl)
  (((apply D_neqP (a.getD (k : Int).toNat default) (b.getD (k : Int).toNat default)); exact rfl; exact rfl))
  (refine do_nil ?_ ?_; (first | ((try dsimp only [wkeys]); decide +kernel) | exact rfl))
  refine then_n ?_
  (apply awp_cond; exact rfl)
  refine im_bt ?_
  (refine im_af (fun hc_ => ?_); (try simp only [Bool.not_eq_true', Bool.not_eq_false', Bool.or_eq_true, Bool.and_eq_true, Bool.or_eq_false_iff, Bool.and_eq_false_iff, decide_eq_true_eq, decide_eq_false_iff_not, Decidable.not_not, Int.not_lt, Int.not_le, Bool.not_true, Bool.not_false, Bool.true_and, Bool.and_true, Bool.false_or, Bool.or_false, Bool.true_or, Bool.false_and, bne_eq_false_iff_eq, bne_iff_ne, beq_iff_eq, beq_eq_false_iff_ne, decide_eq_decide] at hc_))
  refine awp_seq ?_
  (refine ao_region ?_ (fun _ => ?_); exact rfl)
  refine q12 ?_; refine ao_nil ?_; refine then_n ?_; refine awp_ret ?_; refine blk_r ?_
  iterate 2 refine then_r ?_
  refine blk_r ?_; refine then_r ?_
  rotate_left
  refine im_bf ?_; refine im_at ?_
  iterate 2 (refine im_vt (fun _ => ?_))
  refine awp_skip ?_; refine blk_n ?_; refine then_n ?_
  (refine ao_region ?_ (fun _ => ?_); exact rfl)
  refine q11 ?_; refine q36 ?_; refine q12 ?_; refine ao_nil ?_; refine then_n ?_
  rotate_left
  (refine im_df (fun _ => ?_); (try (exfalso; omega)))
  refine awp_exit ?_
  iterate 2 refine then_x ?_
  refine blk_x ?_; refine then_n ?_; refine awp_seq ?_
  (refine ao_region ?_ (fun _ => ?_); exact rfl)
  refine q12 ?_; refine ao_nil ?_; refine then_n ?_; refine awp_ret ?_
  rotate_left
  · have hne : pairB (a.getD k default) (b.getD k default) = false := by
      simp only [Int.toNat_natCast] at *
      unfold pairB
      grind
    exact done_b rfl (eqL_false (k := k) (by omega) hne).symm
  · refine round' (k + 1) ⟨by omega, ?_⟩ (by omega) (by repeat' (first | exact le_nil _ | exact sle_nil _ | refine le_cons rfl ?_ | refine sle_cons rfl ?_)) (by repeat' (first | exact le_nil _ | exact sle_nil _ | refine le_cons rfl ?_ | refine sle_cons rfl ?_))
    rw [eqTo_succ, ht, Bool.true_and]
    simp only [Int.toNat_natCast] at *
    unfold pairB
    grind
  · exact done_b rfl (eqL_true (by omega) (by rw [← show k = a.length by omega]; exact ht)).symm
theorem rpo_p (x : Ex) (hx : x.evs.length ≤ 65536) (a b : Nat) (ha : a < x.evs.length) (hb : b < x.evs.length) : Pure E.P 26 [exOV x, .int .i64 a, .int .i64 b] (.bool (isPo x a b)) := by
  refine fn_of_awp Tryz.func26 (by decide) rfl Tryz.ntmps26 (Nat.le_of_ble_eq_true rfl) rfl ?_
  refine awp_seq ?_
  (refine ao_region ?_ (fun _ => ?_); exact rfl)
  refine q40 ?_; refine q12 ?_; refine ao_nil ?_; refine then_n ?_; refine awp_seq ?_
  (refine do_region (E := E) ?_ (fun _ => ?_); exact rfl)
  iterate 2 refine q38 ?_
  (apply D_lss; exact rfl; exact rfl)
  refine q38 ?_
  (apply dspec_t; exact rfl; exact rfl)
  (refine im_any fun hc_ => ?_; try have hc1_ := (band hc_).1)
  refine q2
  (apply dspec_t; exact rfl; exact rfl)
  (refine im_any fun hc_ => ?_; try have hc1_ := (band hc_).1)
  refine q3
  (apply dspec_t; exact rfl; exact rfl)
  (refine im_any fun hc_ => ?_; try have hc1_ := (band hc_).1)
  refine q1
  (apply dspec_t; exact rfl; exact rfl)
  (refine im_any fun hc_ => ?_; try have hc1_ := (band hc_).1)
  ((have hp_ := hc_; (try simp only [Bool.not_eq_true', Bool.not_eq_false', Bool.or_eq_true, Bool.and_eq_true, Bool.or_eq_false_iff, Bool.and_eq_false_iff, decide_eq_true_eq, decide_eq_false_iff_not, Decidable.not_not, Int.not_lt, Int.not_le, Bool.not_true, Bool.not_false, Bool.true_and, Bool.and_true, Bool.false_or, Bool.or_false, Bool.true_or, Bool.false_and, bne_eq_false_iff_eq, bne_iff_ne, beq_iff_eq, beq_eq_false_iff_ne, decide_eq_decide] at hp_)))
  refine q5
  (apply dspec_t; exact rfl; exact rfl)
  (refine im_any fun hc_ => ?_; try have hc1_ := (band hc_).1)
  refine q8
  (apply dspec_t; exact rfl; exact rfl)
  (refine im_any fun hc_ => ?_; try have hc1_ := (band hc_).1)
  refine q6
  (apply dspec_t; exact rfl; exact rfl)
  (refine im_any fun hc_ => ?_; try have hc1_ := (band hc_).1)
  refine q21; refine q9 ?_; refine q38 ?_
  (apply dspec_t; exact rfl; exact rfl)
  (refine im_any fun hc_ => ?_; try have hc1_ := (band hc_).1)
  refine q2
  (apply dspec_t; exact rfl; exact rfl)
  (refine im_any fun hc_ => ?_; try have hc1_ := (band hc_).1)
  refine q3
  (apply dspec_t; exact rfl; exact rfl)
  (refine im_any fun hc_ => ?_; try have hc1_ := (band hc_).1)
  refine q1
  (apply dspec_t; exact rfl; exact rfl)
  (refine im_any fun hc_ => ?_; try have hc1_ := (band hc_).1)
  ((have hp_ := hc_; (try simp only [Bool.not_eq_true', Bool.not_eq_false', Bool.or_eq_true, Bool.and_eq_true, Bool.or_eq_false_iff, Bool.and_eq_false_iff, decide_eq_true_eq, decide_eq_false_iff_not, Decidable.not_not, Int.not_lt, Int.not_le, Bool.not_true, Bool.not_false, Bool.true_and, Bool.and_true, Bool.false_or, Bool.or_false, Bool.true_or, Bool.false_and, bne_eq_false_iff_eq, bne_iff_ne, beq_iff_eq, beq_eq_false_iff_ne, decide_eq_decide] at hp_)))
  refine q5
  (apply dspec_t; exact rfl; exact rfl)
  (refine im_any fun hc_ => ?_; try have hc1_ := (band hc_).1)
  refine q8
  (apply dspec_t; exact rfl; exact rfl)
  (refine im_any fun hc_ => ?_; try have hc1_ := (band hc_).1)
  refine q6
  (apply dspec_t; exact rfl; exact rfl)
  (refine im_any fun hc_ => ?_; try have hc1_ := (band hc_).1)
  refine q2
  (apply dspec_t; exact rfl; exact rfl)
  (refine im_any fun hc_ => ?_; try have hc1_ := (band hc_).1)
  refine q3
  (apply dspec_t; exact rfl; exact rfl)
  (refine im_any fun hc_ => ?_; try have hc1_ := (band hc_).1)
  refine q1
  (apply dspec_t; exact rfl; exact rfl)
  (refine im_any fun hc_ => ?_; try have hc1_ := (band hc_).1)
  ((have hp_ := hc_; (try simp only [Bool.not_eq_true', Bool.not_eq_false', Bool.or_eq_true, Bool.and_eq_true, Bool.or_eq_false_iff, Bool.and_eq_false_iff, decide_eq_true_eq, decide_eq_false_iff_not, Decidable.not_not, Int.not_lt, Int.not_le, Bool.not_true, Bool.not_false, Bool.true_and, Bool.and_true, Bool.false_or, Bool.or_false, Bool.true_or, Bool.false_and, bne_eq_false_iff_eq, bne_iff_ne, beq_iff_eq, beq_eq_false_iff_ne, decide_eq_decide] at hp_)))
  refine q5
  (apply dspec_t; exact rfl; exact rfl)
  (refine im_any fun hc_ => ?_; try have hc1_ := (band hc_).1)
  refine q8
  (apply dspec_t; exact rfl; exact rfl)
  (refine im_any fun hc_ => ?_; try have hc1_ := (band hc_).1)
  refine q6
  (apply dspec_t; exact rfl; exact rfl)
  (refine im_any fun hc_ => ?_; try have hc1_ := (band hc_).1)
  refine q7; refine q9 ?_
  (apply D_assign; exact rfl)
  (refine do_nil ?_ ?_; (first | ((try dsimp only [wkeys]); decide +kernel) | exact rfl))
  refine then_n ?_; refine awp_ret ?_
  rotate_left
  refine done_b rfl ?_
  rw [Bool.eq_iff_iff]
  unfold isPo
  simp only [Bool.and_eq_true, decide_eq_true_eq, Int.toNat_natCast, Int.ofNat_lt]
end Go.Proofs.YtgeaaegkcbjhlaaGreat
/- The pairs of a relation, row by row. Plain. -/
namespace Go.Proofs.YtgeaaegkcbjhlaaGreat
/-- the pairs of a relation, up to a place -/
def prRow (f : Nat → Nat → Bool) (a b : Nat) : List (Int × Int) := ((List.range b).filter (f a)).map fun (b : Nat) => (((a : Nat) : Int), ((b : Nat) : Int))
def prTo (n : Nat) (f : Nat → Nat → Bool) (a : Nat) : List (Int × Int) := (List.range a).flatMap fun a => prRow f a n
theorem prTo_succ (n : Nat) (f : Nat → Nat → Bool) (a : Nat) : prTo n f (a + 1) = prTo n f a ++ prRow f a n := by simp [prTo, List.range_succ, List.flatMap_append]
theorem prRow_yes {f : Nat → Nat → Bool} {a b : Nat} (h : f a b = true) : prRow f a (b + 1) = prRow f a b ++ [((a : Int), (b : Int))] := by
  unfold prRow
  rw [List.range_succ, List.filter_append, List.filter_cons, if_pos h, List.filter_nil, List.map_append]; rfl
theorem prRow_no {f : Nat → Nat → Bool} {a b : Nat} (h : ¬ f a b = true) : prRow f a (b + 1) = prRow f a b := by
  unfold prRow
  rw [List.range_succ, List.filter_append, List.filter_cons, if_neg h, List.filter_nil, List.append_nil]
theorem prRow_len (f : Nat → Nat → Bool) (a b : Nat) : (prRow f a b).length ≤ b := by
  unfold prRow
  rw [List.length_map]
  exact Nat.le_trans (List.length_filter_le _ _) (by simp)
theorem prTo_len (n : Nat) (f : Nat → Nat → Bool) : ∀ a, (prTo n f a).length ≤ a * n
  | 0 => by simp [prTo]
  | a + 1 => by
    rw [prTo_succ, List.length_append, Nat.succ_mul]
    have h1 := prTo_len n f a
    have h2 := prRow_len f a n
    omega
end Go.Proofs.YtgeaaegkcbjhlaaGreat
/- Which store each load reads from: Rf. -/
namespace Go.Proofs.YtgeaaegkcbjhlaaGreat
open Go.RowKit Go.Shelf Go.Maps Go.Sort
/-- a pair of two places -/
def mkP (a b : Nat) : P2 := (⟨a % 65536, by omega⟩, ⟨b % 65536, by omega⟩)
theorem mkP_1 {a : Nat} (b : Nat) (h : a < 65536) : (mkP a b).1.val = a := Nat.mod_eq_of_lt h
theorem mkP_2 (a : Nat) {b : Nat} (h : b < 65536) : (mkP a b).2.val = b := Nat.mod_eq_of_lt h
def rfTo (zs : List Int) (k : Nat) : List P2 := (List.range k).filterMap (fun b => if 0 ≤ zs.getD b 0 then some (mkP (zs.getD b 0).toNat b) else none)
def rfL (zs : List Int) : List P2 := rfTo zs zs.length
theorem rfTo_succ (zs : List Int) (k : Nat) : rfTo zs (k + 1) = if 0 ≤ zs.getD k 0 then rfTo zs k ++ [mkP (zs.getD k 0).toNat k] else rfTo zs k := by
  unfold rfTo
  rw [List.range_succ, List.filterMap_append]
  by_cases h : 0 ≤ zs.getD k 0
  · rw [if_pos h]
    simp only [List.filterMap_cons, List.filterMap_nil, if_pos h]
  · rw [if_neg h]
    simp only [List.filterMap_cons, List.filterMap_nil, if_neg h, List.append_nil]
theorem rfTo_len (zs : List Int) (k : Nat) : (rfTo zs k).length ≤ k := by
  unfold rfTo
  refine Nat.le_trans (List.length_filterMap_le _ _) (by simp)
set_option maxRecDepth 100000 in
set_option maxHeartbeats 2000000 in
theorem rf1_in (F : Fence) (hF : ∀ f, F.fn f) (n : Nat) (hro : F.round = none) (hn : 1 ≤ n) (l Bx n₀ b off cap : Nat) (zs : List Int) (h64 : zs.length ≤ 65536) (hz : ∀ k, zs.getD k 0 < 65536) (hb : b < n₀) (J Jx : List P2 → World → Prop)
    (hY : ∀ pre x W, J pre W → pre.length < zs.length → YieldAt F (n - 1) Tryz.prog l #[.agg #[.int .i64 (x.1.val : Int), .int .i64 (x.2.val : Int)]] W fun e W' =>
      (e = .returned (.bool true) ∧ J (pre ++ [x]) W' ∧ Below n₀ W W') ∨ (e = .returned (.bool false) ∧ Jx (pre ++ [x]) W'))
    (W : World) (hBx : W.cell? ⟨Bx, 1, none⟩ = some (.slice (some ⟨b, off, none⟩) zs.length cap)) (hc : ∀ j, j < zs.length → W.cell? ⟨b, off + j, none⟩ = some (.int .i64 (zs.getD j 0))) (h0 : J [] W) :
    CallsIn F n Tryz.prog 17 #[.func (.yield l) #[] #[], .pointer (some ⟨Bx, 0, none⟩)] W fun e W' => (∃ v, e = .returned v) ∧
      ((∃ ys, ys = rfL zs ∧ J ys W') ∨ (∃ pre : List P2, True ∧ Jx pre W')) := by
  refine callsIn_of_wp Tryz.func17 rfl (hF _) ?_ hro
  simp only [Tryz.ntmps17, List.size_toArray, List.length_cons, List.length_nil, Nat.reduceAdd, Nat.reduceSub, Array.replicate_succ, Array.replicate_zero, List.push_toArray, List.append_toArray, List.nil_append, List.cons_append]
  obtain ⟨len, hlen⟩ : ∃ len, zs.length = len := ⟨_, rfl⟩
  have HLEN := Lib.hid hlen
  rw [hlen] at hBx hc hY h64
  clear hlen
  gi_wp2
  gi_loopw [8] (fun i wr => ∃ k : Nat, k ≤ len ∧ i = .int .i64 k ∧ J (rfTo zs k) wr ∧ Below n₀ W wr)
    (fun i _ => len - (intOf i).toNat)
  case atStart => exact ⟨0, Nat.zero_le _, rfl, h0, Below.refl _ _⟩
  case round =>
    obtain ⟨k, hk, rfl, hJs, hnx⟩ := hrel
    have hcx : k < len → wr.cell? ⟨b, off + k, none⟩ = some (.int .i64 (zs.getD k 0)) := fun h => (hnx.cell (p := ⟨b, off + k, none⟩) hb).trans (hc k h)
    by_cases hlt : k < len
    · have hcx' := hcx hlt
      have HT := Lib.hid (rfTo_succ zs k)
      have hzk := hz k
      obtain ⟨z, hzz⟩ : ∃ z, zs.getD k 0 = z := ⟨_, rfl⟩
      rw [hzz] at hcx' HT hzk
      clear hcx hzz
      by_cases h0z : 0 ≤ z
      · obtain ⟨fz, rfl⟩ : ∃ fz : Nat, z = fz := ⟨z.toNat, by omega⟩
        have e1 := mkP_1 k (show fz < 65536 by omega)
        have e2 := mkP_2 fz (show k < 65536 by omega)
        obtain ⟨fn, tmps, assign, body, hy, hR⟩ := hY _ (mkP fz k) wr hJs (by have := rfTo_len zs k; omega)
        rw [e1, e2] at hy
        clear hJs e1 e2
        gi_wp2
        refine hR.mono ?_
        rintro e W3 (⟨rfl, hJ3, hk3⟩ | ⟨rfl, hJx3⟩)
        · gi_wp2
          go_roundw
          case rel => exact ⟨k + 1, by omega, by simp, by rw [HT.out, if_pos h0z]; exact hJ3, hnx.trans hk3⟩
          case measure => simp [intOf]; omega
        · gi_wp2
          refine bodyPost_ret (results_none rfl _ _ _) rfl ?_
          exact ⟨⟨_, rfl⟩, .inr ⟨_, trivial, hJx3⟩⟩
      · gi_wp2
        go_roundw
        case rel => exact ⟨k + 1, by omega, by simp, by rw [HT.out, if_neg h0z]; exact hJs, hnx⟩
        case measure => simp [intOf]; omega
    · have hkl : k = len := by omega
      have e : rfTo zs k = rfL zs := by unfold rfL; rw [HLEN.out, hkl]
      gi_wp2
      go_end0
      exact ⟨⟨_, rfl⟩, .inl ⟨_, e, hJs⟩⟩
set_option maxHeartbeats 1000000 in
theorem rf1_none (F : Fence) (hF : ∀ f, F.fn f) (n : Nat) (hro : F.round = none) (l Bx : Nat) (a : Option Addr) (c : Nat) (J : List P2 → World → Prop) (W : World) (hBs : W.cell? ⟨Bx, 1, none⟩ = some (.slice a 0 c)) (h0 : J [] W) :
    CallsIn F n Tryz.prog 17 #[.func (.yield l) #[] #[], .pointer (some ⟨Bx, 0, none⟩)] W fun e W' => (∃ v, e = .returned v) ∧ J [] W' := by
  refine callsIn_of_wp Tryz.func17 rfl (hF _) ?_ hro
  simp only [Tryz.ntmps17, List.size_toArray, List.length_cons, List.length_nil, Nat.reduceAdd, Nat.reduceSub, Array.replicate_succ, Array.replicate_zero, List.push_toArray, List.append_toArray, List.nil_append, List.cons_append]
  gi_wp2
  gi_loopw [8] (fun i wr => i = .int .i64 0 ∧ J [] wr) (fun _ _ => 0)
  case atStart => exact ⟨rfl, h0⟩
  case round =>
    obtain ⟨rfl, hJs⟩ := hrel
    gi_wp2
    go_end0
    exact ⟨⟨_, rfl⟩, hJs⟩
theorem rf_stops (F : Fence) (hF : ∀ f, F.fn f) (n : Nat) (hro : F.round = none) (hn : 1 ≤ n) (Bx n₀ : Nat) (s : Sl) (zs : List Int) (h64 : zs.length ≤ 65536) (hz : ∀ k, zs.getD k 0 < 65536) (w : World) (hBx : Bx < w.heap.size) (hn₀ : n₀ ≤ w.heap.size)
    (hc : w.cell? ⟨Bx, 1, none⟩ = some (.slice s.a s.n s.c)) (hI : IntsIn .i64 n₀ w s zs) :
    SeqStopsK F n Tryz.prog 17 #[.pointer (some ⟨Bx, 0, none⟩)] (fun x : P2 => #[.agg #[.int .i64 (x.1.val : Int), .int .i64 (x.2.val : Int)]]) (Below n₀) (fun ys => ys = rfL zs) (fun _ => True) zs.length w := fun l J Jx W hW _ _ hY h0 => by
  have hc' := (hW.cell (p := ⟨Bx, 1, none⟩) hBx).trans hc
  obtain ⟨h1, h2, h3⟩ := hI.below (hW.mono hn₀)
  rw [h1] at hc'
  rcases h3 with rfl | ⟨b, off, h4, hb, hcs⟩
  · exact (rf1_none F hF n hro l Bx s.a s.c J W hc' h0).mono fun e W' ⟨he, hj⟩ => ⟨he, .inl ⟨_, rfl, hj⟩⟩
  · rw [h4] at hc'
    exact rf1_in F hF n hro hn l Bx n₀ b off s.c zs h64 hz hb J Jx hY W hc' hcs h0
theorem enters_rf : ∀ args w, (callFunc 17 args).run Tryz.prog w = .ok (.enter 17 args) w := enters_of Tryz.func17 (by kernel_rfl) rfl
theorem rfPairs_c (Bx : Nat) (s : Sl) (zs : List Int) (h64 : zs.length ≤ 65536) (hz : ∀ k, zs.getD k 0 < 65536) (w : World) (hBx : Bx < w.heap.size) (hc : w.cell? ⟨Bx, 1, none⟩ = some (.slice s.a s.n s.c)) (hI : IntsIn .i64 w.heap.size w s zs) :
    Calls Tryz.prog 15 #[.func (.func 17) #[] #[.pointer (some ⟨Bx, 0, none⟩)]] w fun e w' => ∃ s' : Sl, e = .returned (.slice s'.a s'.n s'.c) ∧ PairsIn w'.heap.size w' s' (sortP (rfL zs)) ∧ Below w.heap.size w w' := by
  refine (pairs_c 17 _ enters_rf (Below w.heap.size) _ _ zs.length (by omega) w belowK_t (belowK_b (Nat.le_refl _)) (fun _ _ _ h => h) 1 (rf_stops Fence.wide (fun _ => trivial) 2 rfl (by omega) Bx w.heap.size s zs h64 hz w hBx (Nat.le_refl _) hc hI)).mono ?_
  rintro e w' ⟨s', ss, rfl, rfl, _, hi, hb⟩
  exact ⟨s', rfl, hi, hb⟩
end Go.Proofs.YtgeaaegkcbjhlaaGreat
/- Rf: what it answers. -/
namespace Go.Proofs.YtgeaaegkcbjhlaaGreat
open Go.RowKit Go.Shelf Go.Maps Go.Sort
def rfAns (x : Ex) : List P2 := if checkI x = 0 then sortP (rfL x.from_) else []
set_option maxRecDepth 100000 in
set_option maxHeartbeats 2000000 in
theorem rf_c (x : Ex) (w : World) (hx : x.inW w.heap.size w) (hrows : ∀ r ∈ x.order, r.2.length ≤ 65536) :
    Calls Tryz.prog 7 #[x.agg] w fun o w' => ∃ s : Sl, o = .returned (.slice s.a s.n s.c) ∧ PairsIn w'.heap.size w' s (rfAns x) ∧ Below w.heap.size w w' := by
  have CC : Hid (∀ W, Below w.heap.size w W → Calls Tryz.prog 13 #[.agg #[.slice x.es.a x.es.n x.es.c, .slice x.fs.a x.fs.n x.fs.c, .slice x.os.a x.os.n x.os.c]] W fun o w' => o = .returned (.int .i64 (checkI x)) ∧ Below W.heap.size W w') := Lib.hid (fun W hb => check_c x W (Ex.inW.later hx hb) hrows)
  have HF := Lib.hid hx.2.1
  unfold Ex.agg
  clear hx hrows
  by_cases h0 : checkI x = 0
  · have hr : rfAns x = sortP (rfL x.from_) := by unfold rfAns; rw [if_pos h0]
    obtain ⟨h64, _, hfb, _⟩ := check_zero h0
    have hl := from_len hfb
    have FB := Lib.hid hfb
    rw [hr]
    clear hr hfb
    rw [h0] at CC
    have h1 : ((0 : Int) != 0) = false := rfl
    go_enter Tryz.func7, Tryz.ntmps7
    go_upto_region 1 with (fail)
    refine alloc_opaque (X := fun W => Code.wp _ _ _ _ W) ?_
    intro wc hb hsz hcs
    have c0 : wc.cell? ⟨w.heap.size, 0, none⟩ = some (.slice x.es.a x.es.n x.es.c) := hcs 0 _ rfl
    have c1 : wc.cell? ⟨w.heap.size, 1, none⟩ = some (.slice x.fs.a x.fs.n x.fs.c) := hcs 1 _ rfl
    have c2 : wc.cell? ⟨w.heap.size, 2, none⟩ = some (.slice x.os.a x.os.n x.os.c) := hcs 2 _ rfl
    clear hcs
    go_wp2_with fail
    refine (CC.out wc hb).mono ?_; rintro o w1 ⟨rfl, hb1⟩
    have hbw : Below w.heap.size w w1 := hb.trans (hb1.mono (by omega))
    have ctr := Lib.hid (rfPairs_c w.heap.size x.fs x.from_ (by omega) (fun k => by have := from_lt FB.out k; omega) w1 (by have := hb1.size; omega) ((hb1.cell (p := ⟨w.heap.size, 1, none⟩) hsz).trans c1) ((HF.out.below hbw).mono hbw.size))
    go_wp2_with fail
    refine ctr.out.mono ?_; rintro o w2 ⟨s', rfl, hi, hb2⟩
    go_wp2
    go_ret
    exact ⟨s', rfl, hi, hbw.trans (hb2.mono hbw.size)⟩
  · have hr : rfAns x = [] := by unfold rfAns; rw [if_neg h0]
    rw [hr]
    obtain ⟨c, hc⟩ : ∃ c, checkI x = c := ⟨_, rfl⟩
    rw [hc] at CC h0
    have h1 : (c != 0) = true := by simpa using h0
    clear hr hc h0
    go_enter Tryz.func7, Tryz.ntmps7
    go_upto_region 1 with (fail)
    refine alloc_opaque (X := fun W => Code.wp _ _ _ _ W) ?_
    intro wc hb hsz hcs
    have c0 : wc.cell? ⟨w.heap.size, 0, none⟩ = some (.slice x.es.a x.es.n x.es.c) := hcs 0 _ rfl
    have c1 : wc.cell? ⟨w.heap.size, 1, none⟩ = some (.slice x.fs.a x.fs.n x.fs.c) := hcs 1 _ rfl
    have c2 : wc.cell? ⟨w.heap.size, 2, none⟩ = some (.slice x.os.a x.os.n x.os.c) := hcs 2 _ rfl
    clear hcs
    go_wp2_with fail
    refine (CC.out wc hb).mono ?_; rintro o w1 ⟨rfl, hb1⟩
    have hbw : Below w.heap.size w w1 := hb.trans (hb1.mono (by omega))
    go_wp2
    go_ret
    exact ⟨⟨none, 0, 0⟩, rfl, ⟨rfl, by simp, Or.inl rfl⟩, hbw⟩
end Go.Proofs.YtgeaaegkcbjhlaaGreat
/- The iterators of layer 6: Rf$1, Co$1, Fr$1, and Rf, Co, Fr, in plain data. -/
set_option maxRecDepth 100000
set_option linter.unusedVariables false
set_option linter.unusedSimpArgs false
namespace Go.Proofs.YtgeaaegkcbjhlaaGreat
open Go.RowKit
/-- the pairs of what is read, up to place k -/
def rfZ (zs : List Int) (k : Nat) : List (Int × Int) := (List.range k).filterMap fun b => if 0 ≤ zs.getD b 0 then some (zs.getD b 0, (b : Int)) else none
theorem rfZ_yes {zs : List Int} {k : Nat} (h : 0 ≤ zs.getD k 0) : rfZ zs (k + 1) = rfZ zs k ++ [(zs.getD k 0, (k : Int))] := by
  unfold rfZ
  rw [List.range_succ, List.filterMap_append]
  simp only [List.filterMap_cons, List.filterMap_nil, if_pos h]
theorem rfZ_no {zs : List Int} {k : Nat} (h : ¬ 0 ≤ zs.getD k 0) : rfZ zs (k + 1) = rfZ zs k := by
  unfold rfZ
  rw [List.range_succ, List.filterMap_append]
  simp only [List.filterMap_cons, List.filterMap_nil, if_neg h, List.append_nil]
theorem rfZ_pre (zs : List Int) : ∀ {a b : Nat}, a ≤ b → ∃ r, rfZ zs b = rfZ zs a ++ r := fun {a b} h => by
  induction b with
  | zero => have : a = 0 := by omega
            subst this; exact ⟨[], by simp⟩
  | succ b ih =>
    by_cases e : a = b + 1
    · subst e; exact ⟨[], by simp⟩
    · obtain ⟨r, hr⟩ := ih (by omega)
      by_cases hz : 0 ≤ zs.getD b 0
      · exact ⟨r ++ [(zs.getD b 0, (b : Int))], by rw [rfZ_yes hz, hr, List.append_assoc]⟩
      · exact ⟨r, by rw [rfZ_no hz, hr]⟩
set_option maxHeartbeats 4000000 in
theorem rf1_s (x : Ex) (hx : x.from_.length ≤ 65536) : SeqW E.P 17 [] [.d (.pt (exRow x) 0)] (pairYs (rfZ x.from_ x.from_.length)) := by
  intro Y k τ J m st hm h1 h2 hnd hbig hy l0 hl0
  have hlen : (pairYs (rfZ x.from_ x.from_.length)).length = (rfZ x.from_ x.from_.length).length := by simp [pairYs]
  rw [hlen] at hm h1
  refine fny_of_awp Tryz.func17 (by decide) rfl Tryz.ntmps17 (Nat.le_of_ble_eq_true rfl) rfl ?_
  refine awp_seq ?_
  (refine ao_region ?_ (fun _ => ?_); exact rfl)
  refine q32 ?_; refine q23 ?_; refine q13 ?_; refine q11 ?_; refine ao_nil ?_; refine then_n ?_; refine awp_block ?_
  rotate_left
  refine awp_loop (X := Nat × Rows) (fun p => tmL [(0, .yl k τ), (6, .d (ints x.from_)), (7, .int .i64 x.from_.length), (8, .int .i64 p.1), (GS, .gh (rfZ x.from_ p.1).length Y)]) (fun p => stL p.2)
    (fun p => p.1 ≤ x.from_.length ∧ J (rfZ x.from_ p.1).length p.2 ∧ (st = true → (rfZ x.from_ p.1).length < m)) (fun p => x.from_.length - p.1) (0, l0) ⟨Nat.zero_le _, hl0, h2⟩ (by repeat' (first | exact le_nil _ | exact sle_nil _ | refine le_cons rfl ?_ | refine sle_cons rfl ?_)) (fun _ _ h => h) ?_
  rintro ⟨b, l⟩ ⟨hb, hJ, hst⟩
  dsimp only at hb hJ hst ⊢
  have hnext : b < x.from_.length → 0 ≤ x.from_.getD b 0 → (rfZ x.from_ b).length < m ∧ YieldW E.P Y k τ (rfZ x.from_ b).length ((rfZ x.from_ b).length + 1) [.ag (pairO' (x.from_.getD b 0, (b : Int)))] l (J ((rfZ x.from_ b).length + 1)) (!(st && (rfZ x.from_ b).length + 1 == m)) := fun hlt hz => by
    obtain ⟨r, hr⟩ := rfZ_pre x.from_ (show b + 1 ≤ x.from_.length from hlt)
    rw [rfZ_yes hz] at hr
    obtain ⟨e1, e2⟩ := next_pair hr
    have hlm : (rfZ x.from_ b).length < m := by
      cases st with
      | true => exact hst rfl
      | false => rw [h1 rfl]; exact e1
    have := hy _ l hlm hJ
    rw [e2] at this
    exact ⟨hlm, this⟩
  have hgo : ∀ {i : Nat}, i < m → (!(st && i + 1 == m)) = true → st = true → i + 1 < m := fun {i} h1 h2 h3 => by
    subst h3
    simp at h2; omega
  have hsto : ∀ {i : Nat}, (!(st && i + 1 == m)) = false → i + 1 = m := fun {i} h => by
    simp at h; exact h.2
  by_cases hlt : b < x.from_.length
  rotate_left
  · have hbe : b = x.from_.length := by omega
    subst hbe
    have hme : (rfZ x.from_ x.from_.length).length = m := by
      cases st with
      | true => have := hst rfl; omega
      | false => exact (h1 rfl).symm
    rw [hme] at hJ ⊢
    refine awp_seq ?_
    (refine ao_region ?_ (fun _ => ?_); exact rfl)
    refine q37 ?_; refine ao_nil ?_; refine then_n ?_; refine awp_seq ?_
    (apply awp_cond; exact rfl)
    (refine im_dt (fun _ => ?_); (try (exfalso; omega)))
    (refine im_df (fun _ => ?_); (try (exfalso; omega)))
    refine awp_exit ?_
    iterate 2 refine then_x ?_
    refine blk_x ?_
    rotate_left
    exact ⟨Or.inl rfl, rfl, l, hJ, fun _ _ h => h⟩
  by_cases hz : 0 ≤ x.from_.getD b 0
  · obtain ⟨hlm, hY⟩ := hnext hlt hz
    have hz' : 0 ≤ x.from_.getD (b : Int).toNat 0 := by rw [Int.toNat_natCast]; exact hz
    rcases Bool.eq_false_or_eq_true (!(st && (rfZ x.from_ b).length + 1 == m)) with hans | hans
    · rw [hans] at hY
      refine awp_seq ?_
      (refine ao_region ?_ (fun _ => ?_); exact rfl)
      refine q37 ?_; refine ao_nil ?_; refine then_n ?_; refine awp_seq ?_
      (apply awp_cond; exact rfl)
      (refine im_dt (fun _ => ?_); (try (exfalso; omega)))
      refine awp_skip ?_; refine then_n ?_; refine awp_seq ?_; refine awp_block ?_; refine awp_seq ?_
      (refine ao_region ?_ (fun _ => ?_); exact rfl)
      refine q11 ?_; refine q17 ?_; refine q23 ?_
      iterate 2 refine q12 ?_
      refine ao_nil ?_; refine then_n ?_; refine awp_seq ?_
      (refine ao_region ?_ (fun _ => ?_); exact rfl)
      refine q11 ?_
      (apply S_geq; exact rfl; exact rfl)
      refine q11 ?_
      (apply guard_t; exact rfl; exact rfl)
      (refine im_dt (fun _ => ?_); (try (exfalso; omega)))
      refine q11 ?_
      (apply guard_t; exact rfl; exact rfl)
      refine im_tt ?_; refine q11 ?_
      (apply guard_t; exact rfl; exact rfl)
      refine im_tt ?_; refine q11 ?_
      (apply guard_t; exact rfl; exact rfl)
      refine im_tt ?_; refine q54 ?_
      (apply guard_t; exact rfl; exact rfl)
      refine im_tt ?_
      ((apply S_yield; exact rfl; exact rfl; exact rfl; exact hY; exact (fun _ _ h => h); exact hnd _; (intro l1 hl1)))
      (apply guard_t; exact rfl; exact rfl)
      refine im_tt ?_
      (apply S_not; exact rfl)
      refine q4 ?_; refine ao_nil ?_; refine then_n ?_
      (apply awp_cond; exact rfl)
      refine im_at ?_; refine im_tt ?_; refine im_bt ?_
      exact im_tf
      (refine im_af (fun hc_ => ?_); (try simp only [Bool.not_eq_true', Bool.not_eq_false', Bool.or_eq_true, Bool.and_eq_true, Bool.or_eq_false_iff, Bool.and_eq_false_iff, decide_eq_true_eq, decide_eq_false_iff_not, Decidable.not_not, Int.not_lt, Int.not_le, Bool.not_true, Bool.not_false, Bool.true_and, Bool.and_true, Bool.false_or, Bool.or_false, Bool.true_or, Bool.false_and, bne_eq_false_iff_eq, bne_iff_ne, beq_iff_eq, beq_eq_false_iff_ne, decide_eq_decide] at hc_))
      refine awp_skip ?_; refine blk_n ?_; refine then_n ?_
      (refine ao_region ?_ (fun _ => ?_); exact rfl)
      refine q36 ?_; refine q11 ?_; refine ao_nil ?_; refine then_n ?_
      rotate_left
      iterate 5 exact im_tf
      iterate 2 (refine im_df (fun _ => ?_); (try (exfalso; omega)))
      refine round' (b + 1, l1) ⟨by dsimp only; omega, ?_, ?_⟩ (by dsimp only; omega) ?_ (out_le (hnd _ _ hl1))
      · dsimp only; rw [rfZ_yes hz, List.length_append]; exact hl1
      · dsimp only; rw [rfZ_yes hz, List.length_append]; exact hgo hlm hans
      · dsimp only
        rw [rfZ_yes hz, List.length_append]
        exact (by repeat' (first | exact le_nil _ | exact sle_nil _ | refine le_cons rfl ?_ | refine sle_cons rfl ?_))
    · rw [hans] at hY
      rw [hsto hans] at hY
      refine awp_seq ?_
      (refine ao_region ?_ (fun _ => ?_); exact rfl)
      refine q37 ?_; refine ao_nil ?_; refine then_n ?_; refine awp_seq ?_
      (apply awp_cond; exact rfl)
      (refine im_dt (fun _ => ?_); (try (exfalso; omega)))
      refine awp_skip ?_; refine then_n ?_; refine awp_seq ?_; refine awp_block ?_; refine awp_seq ?_
      (refine ao_region ?_ (fun _ => ?_); exact rfl)
      refine q11 ?_; refine q17 ?_; refine q23 ?_
      iterate 2 refine q12 ?_
      refine ao_nil ?_; refine then_n ?_; refine awp_seq ?_
      (refine ao_region ?_ (fun _ => ?_); exact rfl)
      refine q11 ?_
      (apply S_geq; exact rfl; exact rfl)
      refine q11 ?_
      (apply guard_t; exact rfl; exact rfl)
      (refine im_dt (fun _ => ?_); (try (exfalso; omega)))
      refine q11 ?_
      (apply guard_t; exact rfl; exact rfl)
      refine im_tt ?_; refine q11 ?_
      (apply guard_t; exact rfl; exact rfl)
      refine im_tt ?_; refine q11 ?_
      (apply guard_t; exact rfl; exact rfl)
      refine im_tt ?_; refine q54 ?_
      (apply guard_t; exact rfl; exact rfl)
      refine im_tt ?_
      ((apply S_yield; exact rfl; exact rfl; exact rfl; exact hY; exact (fun _ _ h => h); exact hnd _; (intro l1 hl1)))
      (apply guard_t; exact rfl; exact rfl)
      refine im_tt ?_
      (apply S_not; exact rfl)
      refine q0 ?_; refine ao_nil ?_; refine then_n ?_
      (apply awp_cond; exact rfl)
      (refine im_ot (fun hc_ => ?_); (try simp only [Bool.not_eq_true', Bool.not_eq_false', Bool.or_eq_true, Bool.and_eq_true, Bool.or_eq_false_iff, Bool.and_eq_false_iff, decide_eq_true_eq, decide_eq_false_iff_not, Decidable.not_not, Int.not_lt, Int.not_le, Bool.not_true, Bool.not_false, Bool.true_and, Bool.and_true, Bool.false_or, Bool.or_false, Bool.true_or, Bool.false_and, bne_eq_false_iff_eq, bne_iff_ne, beq_iff_eq, beq_eq_false_iff_ne, decide_eq_decide] at hc_))
      refine awp_ret ?_; refine blk_r ?_
      iterate 2 refine then_r ?_
      refine blk_r ?_
      rotate_left
      refine im_of ?_
      iterate 6 exact im_tf
      iterate 2 (refine im_df (fun _ => ?_); (try (exfalso; omega)))
      exact ⟨Or.inr rfl, rfl, l1, hl1, out_le (hnd _ _ hl1)⟩
  · have hz' : ¬ 0 ≤ x.from_.getD (b : Int).toNat 0 := by rw [Int.toNat_natCast]; exact hz
    refine awp_seq ?_
    (refine ao_region ?_ (fun _ => ?_); exact rfl)
    refine q37 ?_; refine ao_nil ?_; refine then_n ?_; refine awp_seq ?_
    (apply awp_cond; exact rfl)
    (refine im_dt (fun _ => ?_); (try (exfalso; omega)))
    refine awp_skip ?_; refine then_n ?_; refine awp_seq ?_; refine awp_block ?_; refine awp_seq ?_
    (refine ao_region ?_ (fun _ => ?_); exact rfl)
    refine q11 ?_; refine q17 ?_; refine q23 ?_
    iterate 2 refine q12 ?_
    refine ao_nil ?_; refine then_n ?_; refine awp_seq ?_
    (refine ao_region ?_ (fun _ => ?_); exact rfl)
    refine q11 ?_
    (apply S_geq; exact rfl; exact rfl)
    refine q11 ?_
    (apply guard_t; exact rfl; exact rfl)
    (refine im_dt (fun _ => ?_); (try (exfalso; omega)))
    (refine im_df (fun _ => ?_); (try (exfalso; omega)))
    (apply guard_t; exact rfl; exact rfl)
    exact im_ft
    refine im_ff ?_
    (apply guard_t; exact rfl; exact rfl)
    exact im_ft
    refine im_ff ?_
    (apply guard_t; exact rfl; exact rfl)
    exact im_ft
    refine im_ff ?_
    (apply guard_t; exact rfl; exact rfl)
    exact im_ft
    refine im_ff ?_
    (apply guard_t; exact rfl; exact rfl)
    exact im_ft
    refine im_ff ?_
    (apply S_pick_v; exact rfl)
    (apply pick_f; exact rfl)
    refine ao_nil ?_; refine then_n ?_
    (apply awp_cond; exact rfl)
    exact im_ft
    refine im_ff ?_; refine awp_skip ?_; refine blk_n ?_; refine then_n ?_
    (refine ao_region ?_ (fun _ => ?_); exact rfl)
    refine q36 ?_; refine q11 ?_; refine ao_nil ?_; refine then_n ?_
    rotate_left
    (refine im_df (fun _ => ?_); (try (exfalso; omega)))
    refine round' (b + 1, l) ⟨by dsimp only; omega, ?_, ?_⟩ (by dsimp only; omega) ?_ (fun _ _ h => h)
    · dsimp only; rw [rfZ_no hz]; exact hJ
    · dsimp only; rw [rfZ_no hz]; exact hst
    · dsimp only
      rw [rfZ_no hz]
      exact (by repeat' (first | exact le_nil _ | exact sle_nil _ | refine le_cons rfl ?_ | refine sle_cons rfl ?_))
def rfF (x : Ex) : List (Int × Int) := if checkI x = 0 then sortZ (rfZ x.from_ x.from_.length) else []
theorem rfZ_len (zs : List Int) (k : Nat) : (rfZ zs k).length ≤ k := by
  unfold rfZ
  refine Nat.le_trans (List.length_filterMap_le _ _) (by simp)
theorem rfZ_small {zs : List Int} {k : Nat} (hz : ∀ i, zs.getD i 0 < 65536) (hk : k ≤ 65536) : smallP (rfZ zs k) := fun p hp => by
  unfold rfZ at hp
  obtain ⟨b, hb, h⟩ := List.mem_filterMap.1 hp
  have hb := List.mem_range.1 hb
  split at h
  · rename_i h0
    cases h
    have := hz b
    dsimp only
    omega
  · cases h
set_option maxHeartbeats 4000000 in
theorem rf_s (x : Ex) (hx : x.fit) : Own E.P 7 [exOV x] 2 ((rfF x).map pairO') := by
  unfold rfF
  refine fn_of_awp Tryz.func7 (by decide) rfl Tryz.ntmps7 (Nat.le_of_ble_eq_true rfl) rfl ?_
  refine awp_seq ?_
  (refine ao_region ?_ (fun _ => ?_); exact rfl)
  refine q40 ?_; refine q51 ?_; refine ao_nil ?_
  rotate_left
  refine then_n ?_
  rename_i v0
  refine awp_freeze 1 (v0, 0) 3 [exRow x] (tmL [(1, .d (.pt (exRow x) 0))]) (stL []) rfl (fz_cons rfl (.lo 0 0 _ rfl) fz_nil) (by repeat' (first | exact fz_nil | exact fs_nil | (refine fz_cons rfl (froz_os ?_) ?_; (first | rfl | (simp; done))) | refine fz_cons rfl (.same _) ?_ | refine fs_cons (by decide) rfl (.same _) ?_)) ?_
  by_cases hc : checkI x = 0
  · rw [if_pos hc]
    obtain ⟨h1, h2, h3, h4⟩ := check_zero hc
    have hfl := from_len h3
    have hsm : smallP (rfZ x.from_ x.from_.length) := rfZ_small (fun i => by have := from_lt h3 i; omega) (by omega)
    have hln := rfZ_len x.from_ x.from_.length
    iterate 2 refine awp_seq ?_
    (refine ao_region ?_ (fun _ => ?_); exact rfl)
    refine q33 ?_
    ((first | (apply S_call; exact rfl; exact .fn _ _ _; exact rfl; exact check_p _ hx.1 hx.2) | (apply S_own; exact rfl; exact .fn _ _ _; exact rfl; exact pairs_s (.fn _ _ _) _ hsm (by omega) (rf1_s x (by omega)))))
    refine q44 ?_; refine ao_nil ?_; refine then_n ?_
    (apply awp_cond; exact rfl)
    (refine im_nt (fun _ => ?_); (try (exfalso; omega)))
    (refine im_nf (fun _ => ?_); (try (exfalso; omega)))
    refine awp_skip ?_; refine then_n ?_; refine awp_seq ?_
    (refine ao_region ?_ (fun _ => ?_); exact rfl)
    (apply S_makeFunc; exact rfl; exact rfl)
    ((first | (apply S_call; exact rfl; exact .fn _ _ _; exact rfl; exact check_p _ hx.1 hx.2) | (apply S_own; exact rfl; exact .fn _ _ _; exact rfl; exact pairs_s (.fn _ _ _) _ hsm (by omega) (rf1_s x (by omega)))))
    (apply S_ren; exact rfl; exact rfl)
    refine ao_nil ?_; refine then_n ?_; refine awp_ret ?_
    rotate_left
    exact own_done (d := 2) rfl rfl rfl rfl
  · rw [if_neg hc]
    iterate 2 refine awp_seq ?_
    (refine ao_region ?_ (fun _ => ?_); exact rfl)
    refine q33 ?_
    ((first | (apply S_call; exact rfl; exact .fn _ _ _; exact rfl; exact check_p _ hx.1 hx.2)))
    refine q44 ?_; refine ao_nil ?_; refine then_n ?_
    (apply awp_cond; exact rfl)
    (refine im_nt (fun _ => ?_); (try (exfalso; omega)))
    refine awp_seq ?_
    (refine ao_region ?_ (fun _ => ?_); exact rfl)
    refine q51 ?_; refine ao_nil ?_; refine then_n ?_; refine awp_ret ?_; refine then_r ?_
    rotate_left
    (refine im_nf (fun _ => ?_); (try (exfalso; omega)))
    exact own_done (d := 2) rfl rfl rfl rfl
end Go.Proofs.YtgeaaegkcbjhlaaGreat
/- Co$1, Co, in plain data. -/
set_option maxRecDepth 100000
set_option linter.unusedVariables false
set_option linter.unusedSimpArgs false
namespace Go.Proofs.YtgeaaegkcbjhlaaGreat
open Go.RowKit
/-- one row's pairs, the first i of its places done -/
def coIn (l : List Int) (i : Nat) : List (Int × Int) := (List.range i).flatMap fun i => (l.drop (i + 1)).map fun b => (l.getD i 0, b)
def coTo (o : List (Sl × List Int)) (r : Nat) : List (Int × Int) := (o.take r).flatMap fun l => coIn l.2 l.2.length
def coAt (o : List (Sl × List Int)) (r : Nat) (l : List Int) (i j : Nat) : List (Int × Int) := coTo o r ++ coIn l i ++ ((l.drop (i + 1)).take j).map fun b => (l.getD i 0, b)
def coZ (o : List (Sl × List Int)) : List (Int × Int) := coTo o o.length
theorem coAt_zero (o : List (Sl × List Int)) (r : Nat) (l : List Int) : coAt o r l 0 0 = coTo o r := by simp [coAt, coIn]
theorem coIn_succ (l : List Int) (i : Nat) : coIn l (i + 1) = coIn l i ++ (l.drop (i + 1)).map fun b => (l.getD i 0, b) := by
  simp [coIn, List.range_succ, List.flatMap_append]
theorem coAt_end (o : List (Sl × List Int)) (r : Nat) (l : List Int) (i j : Nat) (h : l.length ≤ i + 1 + j) : coAt o r l i j = coAt o r l (i + 1) 0 := by
  unfold coAt
  rw [coIn_succ, List.take_of_length_le (by simp; omega), List.take_zero, List.map_nil, List.append_nil, List.append_assoc]
theorem coTo_succ (o : List (Sl × List Int)) (r : Nat) (h : r < o.length) : coTo o (r + 1) = coTo o r ++ coIn (o.getD r default).2 (o.getD r default).2.length := by
  unfold coTo
  rw [take_get' o default r h, List.flatMap_append]
  simp
theorem coAt_next (o : List (Sl × List Int)) (r : Nat) (h : r < o.length) : coAt o r (o.getD r default).2 (o.getD r default).2.length 0 = coTo o (r + 1) := by
  rw [coTo_succ o r h]
  simp [coAt]
theorem coAt_step (o : List (Sl × List Int)) (r : Nat) (l : List Int) (i j : Nat) (h : i + 1 + j < l.length) : coAt o r l i (j + 1) = coAt o r l i j ++ [(l.getD i 0, l.getD (i + 1 + j) 0)] := by
  unfold coAt
  rw [take_get' (l.drop (i + 1)) 0 j (by simp; omega), List.map_append, List.append_assoc _ _ [_], List.append_assoc, List.append_assoc]
  simp [List.getD]
theorem coTo_pre (o : List (Sl × List Int)) : ∀ {a b : Nat}, a ≤ b → b ≤ o.length → ∃ r, coTo o b = coTo o a ++ r := fun {a b} h hb => by
  induction b with
  | zero => have : a = 0 := by omega
            subst this; exact ⟨[], by simp⟩
  | succ b ih =>
    by_cases e : a = b + 1
    · subst e; exact ⟨[], by simp⟩
    · obtain ⟨r, hr⟩ := ih (by omega) (by omega)
      exact ⟨_, by rw [coTo_succ o b (by omega), hr, List.append_assoc]⟩
theorem coIn_pre (l : List Int) : ∀ {a b : Nat}, a ≤ b → ∃ r, coIn l b = coIn l a ++ r := fun {a b} h => by
  induction b with
  | zero => have : a = 0 := by omega
            subst this; exact ⟨[], by simp⟩
  | succ b ih =>
    by_cases e : a = b + 1
    · subst e; exact ⟨[], by simp⟩
    · obtain ⟨r, hr⟩ := ih (by omega)
      exact ⟨_, by rw [coIn_succ, hr, List.append_assoc]⟩
/-- what comes next is one of them -/
theorem coAt_in (o : List (Sl × List Int)) (r i j : Nat) (h : r < o.length) (hj : i + 1 + j < (o.getD r default).2.length) :
    ∃ q, coZ o = coAt o r (o.getD r default).2 i j ++ [((o.getD r default).2.getD i 0, (o.getD r default).2.getD (i + 1 + j) 0)] ++ q := by
  generalize hl : (o.getD r default).2 = l at hj ⊢
  obtain ⟨q1, h1⟩ := coTo_pre o (show r + 1 ≤ o.length by omega) (Nat.le_refl _)
  obtain ⟨q2, h2⟩ := coIn_pre l (show i + 1 ≤ l.length by omega)
  unfold coZ
  rw [h1, coTo_succ o r h, hl, h2, coIn_succ, ← coAt_step o r l i j hj]
  unfold coAt
  have : (l.drop (i + 1)).map (fun b => (l.getD i 0, b)) = ((l.drop (i + 1)).take (j + 1)).map (fun b => (l.getD i 0, b)) ++ ((l.drop (i + 1)).drop (j + 1)).map (fun b => (l.getD i 0, b)) := by
    rw [← List.map_append, List.take_append_drop]
  rw [this]
  exact ⟨_, by simp only [List.append_assoc]; rfl⟩
set_option maxHeartbeats 4000000 in
theorem co1_s (x : Ex) (hx : x.fit) : SeqW E.P 18 [] [.d (.pt (exRow x) 0)] (pairYs (coZ x.order)) := by
  intro Y k τ J m st hm h1 h2 hnd hbig hy l0 hl0
  have hlen : (pairYs (coZ x.order)).length = (coZ x.order).length := by simp [pairYs]
  rw [hlen] at hm h1
  refine fny_of_awp Tryz.func18 (by decide) rfl Tryz.ntmps18 (Nat.le_of_ble_eq_true rfl) rfl ?_
  refine awp_scope ?_; refine awp_seq ?_; refine awp_label ?_; refine then_n ?_; refine awp_seq ?_
  (refine ao_region ?_ (fun _ => ?_); exact rfl)
  refine q32 ?_; refine q23 ?_; refine q13 ?_; refine q11 ?_; refine ao_nil ?_; refine then_n ?_; refine awp_block ?_
  rotate_left
  have hT0 : m = (coTo x.order 0).length → True := fun _ => trivial
  refine awp_loop (X := Nat × Rows) (fun p => tmL [(0, .yl k τ), (10, .d (rowsTV x.order)), (11, .int .i64 x.order.length), (12, .int .i64 p.1), (GS, .gh (coTo x.order p.1).length Y)]) (fun p => stL p.2)
    (fun p => p.1 ≤ x.order.length ∧ J (coTo x.order p.1).length p.2 ∧ (st = true → (coTo x.order p.1).length < m)) (fun p => x.order.length - p.1) (0, l0) ⟨Nat.zero_le _, hl0, h2⟩ (by repeat' (first | exact le_nil _ | exact sle_nil _ | refine le_cons rfl ?_ | refine sle_cons rfl ?_)) (fun _ _ h => h) ?_
  rintro ⟨r, l⟩ ⟨hr, hJ, hst⟩
  dsimp only at hr hJ hst ⊢
  by_cases hlt : r < x.order.length
  rotate_left
  · have hbe : r = x.order.length := by omega
    subst hbe
    have hme : (coTo x.order x.order.length).length = m := by
      cases st with
      | true => have h9 := hst rfl; have h8 : (coZ x.order).length = (coTo x.order x.order.length).length := rfl; omega
      | false => exact (h1 rfl).symm
    rw [hme] at hJ ⊢
    refine awp_seq ?_
    (refine ao_region ?_ (fun _ => ?_); exact rfl)
    refine q37 ?_; refine ao_nil ?_; refine then_n ?_; refine awp_seq ?_
    (apply awp_cond; exact rfl)
    (refine im_dt (fun _ => ?_); (try (exfalso; omega)))
    (refine im_df (fun _ => ?_); (try (exfalso; omega)))
    refine awp_exit ?_
    iterate 2 refine then_x ?_
    refine blk_x ?_; refine ng_n ?_
    rotate_left
    exact ⟨Or.inl rfl, rfl, l, hJ, fun _ _ h => h⟩
  refine awp_seq ?_
  (refine ao_region ?_ (fun _ => ?_); exact rfl)
  refine q37 ?_; refine ao_nil ?_; refine then_n ?_; refine awp_seq ?_
  (apply awp_cond; exact rfl)
  (refine im_dt (fun _ => ?_); (try (exfalso; omega)))
  refine awp_skip ?_; refine then_n ?_; refine awp_seq ?_; refine awp_block ?_; refine awp_seq ?_
  (refine ao_region ?_ (fun _ => ?_); exact rfl)
  refine q17 ?_; refine q23 ?_; refine q12 ?_; refine ao_nil ?_; refine then_n ?_; refine awp_seq ?_
  (refine ao_region ?_ (fun _ => ?_); exact rfl)
  refine q11 ?_; refine q13 ?_; refine q11 ?_; refine ao_nil ?_; refine then_n ?_; refine awp_block ?_
  rotate_left
  (refine im_df (fun _ => ?_); (try (exfalso; omega)))
  have hol : x.order.length ≤ 1152921504606846976 := hx.1.2.2.2.1
  generalize hL : (x.order.getD r default).2 = L
  have hin := coAt_in x.order r
  rw [hL] at hin
  have hnx := coAt_next x.order r hlt
  rw [hL] at hnx
  have hLl : L.length ≤ 65536 := by
    rw [← hL, List.getD_eq_getElem?_getD, List.getElem?_eq_getElem hlt]
    exact hx.2 _ (List.getElem_mem hlt)
  refine awp_loop (X := Nat × Rows) (fun p => tmL [(0, .yl k τ), (10, .d (rowsTV x.order)), (11, .int .i64 x.order.length), (12, .int .i64 r), (4, .d (ints L)), (16, .d (ints L)), (17, .int .i64 L.length), (18, .int .i64 p.1), (GS, .gh (coAt x.order r L p.1 0).length Y)]) (fun p => stL p.2)
    (fun p => p.1 ≤ L.length ∧ J (coAt x.order r L p.1 0).length p.2 ∧ (st = true → (coAt x.order r L p.1 0).length < m)) (fun p => L.length - p.1) (0, l) ⟨Nat.zero_le _, by dsimp only; rw [coAt_zero]; exact hJ, by dsimp only; rw [coAt_zero]; exact hst⟩ ?_ (fun _ _ h => h) ?_
  · dsimp only
    rw [coAt_zero, ← hL]
    exact (by repeat' (first | exact le_nil _ | exact sle_nil _ | refine le_cons rfl ?_ | refine sle_cons rfl ?_))
  clear hJ hst l
  rintro ⟨i, l⟩ ⟨hi, hJ, hst⟩
  dsimp only at hi hJ hst ⊢
  by_cases hlt2 : i < L.length
  rotate_left
  · have hbe : i = L.length := by omega
    subst hbe
    rw [hnx] at hJ hst ⊢
    refine awp_seq ?_
    (refine ao_region ?_ (fun _ => ?_); exact rfl)
    refine q37 ?_; refine ao_nil ?_; refine then_n ?_; refine awp_seq ?_
    (apply awp_cond; exact rfl)
    (refine im_dt (fun _ => ?_); (try (exfalso; omega)))
    (refine im_df (fun _ => ?_); (try (exfalso; omega)))
    refine awp_exit ?_
    iterate 2 refine then_x ?_
    refine blk_x ?_; refine blk_n ?_; refine then_n ?_
    (refine ao_region ?_ (fun _ => ?_); exact rfl)
    refine q36 ?_; refine q11 ?_; refine ao_nil ?_; refine then_n ?_
    rotate_left
    exact ⟨(r + 1, l), ⟨show r + 1 ≤ _ by omega, hJ, hst⟩, show x.order.length - (r + 1) < x.order.length - r by omega, (by repeat' (first | exact le_nil _ | exact sle_nil _ | refine le_cons rfl ?_ | refine sle_cons rfl ?_)), fun _ _ h => h⟩
  refine awp_seq ?_
  (refine ao_region ?_ (fun _ => ?_); exact rfl)
  refine q37 ?_; refine ao_nil ?_; refine then_n ?_; refine awp_seq ?_
  (apply awp_cond; exact rfl)
  (refine im_dt (fun _ => ?_); (try (exfalso; omega)))
  refine awp_skip ?_; refine then_n ?_; refine awp_seq ?_; refine awp_block ?_; refine awp_seq ?_
  (refine ao_region ?_ (fun _ => ?_); exact rfl)
  refine q11 ?_; refine q17 ?_; refine q23 ?_
  iterate 2 refine q12 ?_
  refine ao_nil ?_; refine then_n ?_; refine awp_seq ?_
  (refine ao_region ?_ (fun _ => ?_); exact rfl)
  iterate 2 refine q11 ?_
  refine q36 ?_
  (((apply S_slice_sl (l := i + 1) (h := L.length)); exact rfl; exact rfl; exact rfl; exact rfl; exact rfl; exact ⟨_, _, rfl, by omega, by omega⟩; exact (by show L.length = _; simp); omega; (simp)))
  refine q13 ?_; refine q11 ?_; refine ao_nil ?_; refine then_n ?_; refine awp_block ?_
  rotate_left
  (refine im_df (fun _ => ?_); (try (exfalso; omega)))
  have hsl : ((L.map cell).drop (i + 1)).take (L.length - (i + 1)) = (L.drop (i + 1)).map cell := by
    rw [List.take_of_length_le (by simp), List.map_drop]
  have hdl : (L.drop (i + 1)).length = L.length - (i + 1) := by simp
  have hdg : ∀ j, (L.drop (i + 1)).getD j 0 = L.getD (i + 1 + j) 0 := fun j => by simp [List.getD]
  refine awp_loop (X := Nat × Rows) (fun p => tmL [(0, .yl k τ), (10, .d (rowsTV x.order)), (11, .int .i64 x.order.length), (12, .int .i64 r), (4, .d (ints L)), (16, .d (ints L)), (17, .int .i64 L.length), (18, .int .i64 i), (6, .int .i64 (L.getD i 0)), (26, .d (ints (L.drop (i + 1)))), (27, .int .i64 (L.drop (i + 1)).length), (28, .int .i64 p.1), (GS, .gh (coAt x.order r L i p.1).length Y)]) (fun p => stL p.2)
    (fun p => p.1 ≤ (L.drop (i + 1)).length ∧ J (coAt x.order r L i p.1).length p.2 ∧ (st = true → (coAt x.order r L i p.1).length < m)) (fun p => (L.drop (i + 1)).length - p.1) (0, l) ⟨Nat.zero_le _, hJ, hst⟩ ?_ (fun _ _ h => h) ?_
  · rw [hsl]
    refine le_cons rfl (le_cons rfl (le_cons rfl (le_cons rfl (le_cons rfl (le_cons rfl (le_cons rfl (le_cons rfl (le_cons rfl (le_cons rfl (le_cons ?_ (by repeat' (first | exact le_nil _ | exact sle_nil _ | refine le_cons rfl ?_ | refine sle_cons rfl ?_))))))))))))
    rw [List.length_map]; rfl
  clear hJ hst l
  rintro ⟨j, l⟩ ⟨hj, hJ, hst⟩
  dsimp only at hj hJ hst ⊢
  by_cases hlt3 : j < (L.drop (i + 1)).length
  rotate_left
  · have hend := coAt_end x.order r L i j (by omega)
    rw [hend] at hJ hst ⊢
    refine awp_seq ?_
    (refine ao_region ?_ (fun _ => ?_); exact rfl)
    refine q37 ?_; refine ao_nil ?_; refine then_n ?_; refine awp_seq ?_
    (apply awp_cond; exact rfl)
    (refine im_dt (fun _ => ?_); (try (exfalso; omega)))
    (refine im_df (fun _ => ?_); (try (exfalso; omega)))
    refine awp_exit ?_
    iterate 2 refine then_x ?_
    refine blk_x ?_; refine blk_n ?_; refine then_n ?_
    (refine ao_region ?_ (fun _ => ?_); exact rfl)
    refine q36 ?_; refine q11 ?_; refine ao_nil ?_; refine then_n ?_
    rotate_left
    exact ⟨(i + 1, l), ⟨show i + 1 ≤ _ by omega, hJ, hst⟩, show L.length - (i + 1) < L.length - i by omega, (by repeat' (first | exact le_nil _ | exact sle_nil _ | refine le_cons rfl ?_ | refine sle_cons rfl ?_)), fun _ _ h => h⟩
  have hstep := coAt_step x.order r L i j (by omega)
  obtain ⟨q, hq⟩ := hin i j hlt (by omega)
  obtain ⟨hlm, hY⟩ := seq_next h1 hy hq hst hJ
  rw [← hdg j] at hY
  have hlen1 : (coAt x.order r L i (j + 1)).length = (coAt x.order r L i j).length + 1 := by rw [hstep]; simp
  rcases Bool.eq_false_or_eq_true (!(st && (coAt x.order r L i j).length + 1 == m)) with hans | hans
  · rw [hans] at hY
    refine awp_seq ?_
    (refine ao_region ?_ (fun _ => ?_); exact rfl)
    refine q37 ?_; refine ao_nil ?_; refine then_n ?_; refine awp_seq ?_
    (apply awp_cond; exact rfl)
    (refine im_dt (fun _ => ?_); (try (exfalso; omega)))
    refine awp_skip ?_; refine then_n ?_; refine awp_seq ?_; refine awp_block ?_; refine awp_seq ?_
    (refine ao_region ?_ (fun _ => ?_); exact rfl)
    refine q17 ?_; refine q23 ?_; refine q12 ?_; refine ao_nil ?_; refine then_n ?_; refine awp_seq ?_
    (refine ao_region ?_ (fun _ => ?_); exact rfl)
    iterate 3 refine q11 ?_
    refine q54 ?_
    ((apply S_yield; exact rfl; exact rfl; exact rfl; exact hY; exact (fun _ _ h => h); exact hnd _; (intro l1 hl1)))
    (apply S_not; exact rfl)
    refine ao_nil ?_; refine then_n ?_
    (apply awp_cond; exact rfl)
    refine im_bt ?_
    exact im_tf
    refine im_bf ?_; refine im_tt ?_; refine awp_skip ?_; refine blk_n ?_; refine then_n ?_
    (refine ao_region ?_ (fun _ => ?_); exact rfl)
    refine q36 ?_; refine q11 ?_; refine ao_nil ?_; refine then_n ?_
    rotate_left
    (refine im_df (fun _ => ?_); (try (exfalso; omega)))
    refine ⟨(j + 1, l1), ⟨show j + 1 ≤ _ by omega, ?_, ?_⟩, show (L.drop (i + 1)).length - (j + 1) < (L.drop (i + 1)).length - j by omega, ?_, out_le (hnd _ _ hl1)⟩
    · dsimp only; rw [hlen1]; exact hl1
    · dsimp only; rw [hlen1]; exact seq_go hlm hans
    · dsimp only; rw [hlen1]; exact (by repeat' (first | exact le_nil _ | exact sle_nil _ | refine le_cons rfl ?_ | refine sle_cons rfl ?_))
  · rw [hans] at hY
    rw [seq_stop hans] at hY
    refine awp_seq ?_
    (refine ao_region ?_ (fun _ => ?_); exact rfl)
    refine q37 ?_; refine ao_nil ?_; refine then_n ?_; refine awp_seq ?_
    (apply awp_cond; exact rfl)
    (refine im_dt (fun _ => ?_); (try (exfalso; omega)))
    refine awp_skip ?_; refine then_n ?_; refine awp_seq ?_; refine awp_block ?_; refine awp_seq ?_
    (refine ao_region ?_ (fun _ => ?_); exact rfl)
    refine q17 ?_; refine q23 ?_; refine q12 ?_; refine ao_nil ?_; refine then_n ?_; refine awp_seq ?_
    (refine ao_region ?_ (fun _ => ?_); exact rfl)
    iterate 3 refine q11 ?_
    refine q54 ?_
    ((apply S_yield; exact rfl; exact rfl; exact rfl; exact hY; exact (fun _ _ h => h); exact hnd _; (intro l1 hl1)))
    (apply S_not; exact rfl)
    refine ao_nil ?_; refine then_n ?_
    (apply awp_cond; exact rfl)
    refine im_bt ?_; refine im_ff ?_; refine awp_exit ?_
    (refine blk_y ?_ ?_; exact rfl)
    iterate 2 refine then_x ?_
    iterate 2 (refine blk_y ?_ ?_; exact rfl)
    iterate 2 refine then_x ?_
    iterate 2 (refine blk_y ?_ ?_; exact rfl)
    iterate 2 refine then_x ?_
    refine blk_x ?_; refine ng_n ?_
    rotate_left
    refine im_bf ?_
    exact im_ft
    (refine im_df (fun _ => ?_); (try (exfalso; omega)))
    exact ⟨Or.inl rfl, rfl, l1, hl1, out_le (hnd _ _ hl1)⟩
theorem order_row {es : List Ev} {ad : List Int} {o : List (Sl × List Int)} (h : orderB es ad o = true) : o.length = ad.length ∧ ∀ r, r < o.length → sortI (o.getD r default).2 = wantTo es (ad.getD r 0) es.length ∧ (o.getD r default).2.getD 0 0 = (r : Int) ∧ (o.getD r default).2 ≠ [] := by
  unfold orderB rowsTo at h
  simp only [Bool.and_eq_true, decide_eq_true_eq, List.all_eq_true, List.mem_range] at h
  refine ⟨h.1, fun r hr => ?_⟩
  have := h.2 r hr
  unfold rowOk at this
  simp only [Bool.and_eq_true, Bool.not_eq_true', beq_eq_false_iff_ne, bne_eq_false_iff_eq, beq_iff_eq] at this
  exact ⟨this.2, this.1.2, fun e => this.1.1 (by rw [e]; rfl)⟩
theorem order_mem {es : List Ev} {ad : List Int} {o : List (Sl × List Int)} (h : orderB es ad o = true) {r : Nat} (hr : r < o.length) {a : Int} : a ∈ (o.getD r default).2 ↔ a ∈ wantTo es (ad.getD r 0) es.length := by
  rw [← ((order_row h).2 r hr).1]
  exact (List.mergeSort_perm _ _).mem_iff.symm
theorem want_lt {es : List Ev} {a b : Int} {k : Nat} (h : b ∈ wantTo es a k) : 0 ≤ b ∧ b < k := by
  unfold wantTo at h
  obtain ⟨n, h1, rfl⟩ := List.mem_map.1 h
  have := List.mem_range.1 (List.mem_filter.1 h1).1
  exact ⟨Int.natCast_nonneg n, Int.ofNat_lt.2 this⟩
theorem want_len (es : List Ev) (a : Int) (k : Nat) : (wantTo es a k).length ≤ k := by
  unfold wantTo
  rw [List.length_map]
  exact Nat.le_trans (List.length_filter_le _ _) (by simp)
theorem order_len {es : List Ev} {ad : List Int} {o : List (Sl × List Int)} (h : orderB es ad o = true) {r : Nat} (hr : r < o.length) : (o.getD r default).2.length ≤ es.length := by
  rw [← List.length_mergeSort (o.getD r default).2 (le := fun x y => decide (x ≤ y))]
  have := ((order_row h).2 r hr).1
  unfold sortI at this
  rw [this]
  exact want_len _ _ _
theorem coIn_len (l : List Int) : ∀ i, (coIn l i).length ≤ i * l.length
  | 0 => by simp [coIn]
  | i + 1 => by
    rw [coIn_succ, List.length_append, Nat.succ_mul]
    have := coIn_len l i
    simp only [List.length_map, List.length_drop]
    omega
theorem coTo_len (o : List (Sl × List Int)) (n : Nat) (h : ∀ r, r < o.length → (o.getD r default).2.length ≤ n) : ∀ r, r ≤ o.length → (coTo o r).length ≤ r * (n * n)
  | 0, _ => by simp [coTo]
  | r + 1, hr => by
    rw [coTo_succ o r (by omega), List.length_append, Nat.succ_mul]
    have h1 := coTo_len o n h r (by omega)
    have h2 := coIn_len (o.getD r default).2 (o.getD r default).2.length
    have h3 := h r (by omega)
    have h4 : (o.getD r default).2.length * (o.getD r default).2.length ≤ n * n := Nat.mul_le_mul h3 h3
    omega
theorem coIn_mem {l : List Int} {i : Nat} {p : Int × Int} (h : p ∈ coIn l i) (hi : i ≤ l.length) : p.1 ∈ l ∧ p.2 ∈ l := by
  unfold coIn at h
  obtain ⟨j, h1, h2⟩ := List.mem_flatMap.1 h
  obtain ⟨b, h3, rfl⟩ := List.mem_map.1 h2
  have hj := List.mem_range.1 h1
  refine ⟨?_, List.mem_of_mem_drop h3⟩
  dsimp only
  rw [List.getD_eq_getElem?_getD, List.getElem?_eq_getElem (by omega)]
  exact List.getElem_mem _
theorem coTo_mem {o : List (Sl × List Int)} {r : Nat} {p : Int × Int} (h : p ∈ coTo o r) : ∃ k, k < o.length ∧ p ∈ coIn (o.getD k default).2 (o.getD k default).2.length := by
  unfold coTo at h
  obtain ⟨l, h1, h2⟩ := List.mem_flatMap.1 h
  obtain ⟨k, hk, e⟩ := List.getElem_of_mem (List.mem_of_mem_take h1)
  refine ⟨k, hk, ?_⟩
  rw [List.getD_eq_getElem?_getD, List.getElem?_eq_getElem hk, Option.getD_some, e]
  exact h2
theorem coZ_small {es : List Ev} {ad : List Int} {o : List (Sl × List Int)} (h : orderB es ad o = true) (h64 : es.length ≤ 65536) : smallP (coZ o) := fun p hp => by
  obtain ⟨k, hk, h2⟩ := coTo_mem hp
  obtain ⟨e1, e2⟩ := coIn_mem h2 (Nat.le_refl _)
  have a1 := want_lt ((order_mem h hk).1 e1)
  have a2 := want_lt ((order_mem h hk).1 e2)
  omega
def coF (x : Ex) : List (Int × Int) := if checkI x = 0 then sortZ (coZ x.order) else []
theorem coZ_len {x : Ex} (hc : checkI x = 0) : (coZ x.order).length ≤ 262144 := by
  obtain ⟨h1, h2, h3, h4⟩ := check_zero hc
  have h5 := (order_row h4).1
  have h6 := addrsTo_len x.evs
  have h7 := coTo_len x.order 64 (fun r hr => Nat.le_trans (order_len h4 hr) h1) x.order.length (Nat.le_refl _)
  unfold coZ
  omega
set_option maxHeartbeats 4000000 in
theorem co_s (x : Ex) (hx : x.fit) : Own E.P 8 [exOV x] 2 ((coF x).map pairO') := by
  unfold coF
  refine fn_of_awp Tryz.func8 (by decide) rfl Tryz.ntmps8 (Nat.le_of_ble_eq_true rfl) rfl ?_
  refine awp_seq ?_
  (refine ao_region ?_ (fun _ => ?_); exact rfl)
  refine q40 ?_; refine q51 ?_; refine ao_nil ?_
  rotate_left
  refine then_n ?_
  rename_i v0
  refine awp_freeze 1 (v0, 0) 3 [exRow x] (tmL [(1, .d (.pt (exRow x) 0))]) (stL []) rfl (fz_cons rfl (.lo 0 0 _ rfl) fz_nil) (by repeat' (first | exact fz_nil | exact fs_nil | (refine fz_cons rfl (froz_os ?_) ?_; (first | rfl | (simp; done))) | refine fz_cons rfl (.same _) ?_ | refine fs_cons (by decide) rfl (.same _) ?_)) ?_
  by_cases hc : checkI x = 0
  · rw [if_pos hc]
    have hln := coZ_len hc
    obtain ⟨h1, h2, h3, h4⟩ := check_zero hc
    have hsm : smallP (coZ x.order) := coZ_small h4 (by omega)
    iterate 2 refine awp_seq ?_
    (refine ao_region ?_ (fun _ => ?_); exact rfl)
    refine q33 ?_
    ((first | (apply S_call; exact rfl; exact .fn _ _ _; exact rfl; exact check_p _ hx.1 hx.2) | (apply S_own; exact rfl; exact .fn _ _ _; exact rfl; exact pairs_s (.fn _ _ _) _ hsm (by omega) (co1_s x hx))))
    refine q44 ?_; refine ao_nil ?_; refine then_n ?_
    (apply awp_cond; exact rfl)
    (refine im_nt (fun _ => ?_); (try (exfalso; omega)))
    (refine im_nf (fun _ => ?_); (try (exfalso; omega)))
    refine awp_skip ?_; refine then_n ?_; refine awp_seq ?_
    (refine ao_region ?_ (fun _ => ?_); exact rfl)
    (apply S_makeFunc; exact rfl; exact rfl)
    ((first | (apply S_call; exact rfl; exact .fn _ _ _; exact rfl; exact check_p _ hx.1 hx.2) | (apply S_own; exact rfl; exact .fn _ _ _; exact rfl; exact pairs_s (.fn _ _ _) _ hsm (by omega) (co1_s x hx))))
    (apply S_ren; exact rfl; exact rfl)
    refine ao_nil ?_; refine then_n ?_; refine awp_ret ?_
    rotate_left
    exact own_done (d := 2) rfl rfl rfl rfl
  · rw [if_neg hc]
    iterate 2 refine awp_seq ?_
    (refine ao_region ?_ (fun _ => ?_); exact rfl)
    refine q33 ?_
    ((first | (apply S_call; exact rfl; exact .fn _ _ _; exact rfl; exact check_p _ hx.1 hx.2)))
    refine q44 ?_; refine ao_nil ?_; refine then_n ?_
    (apply awp_cond; exact rfl)
    (refine im_nt (fun _ => ?_); (try (exfalso; omega)))
    refine awp_seq ?_
    (refine ao_region ?_ (fun _ => ?_); exact rfl)
    refine q51 ?_; refine ao_nil ?_; refine then_n ?_; refine awp_ret ?_; refine then_r ?_
    rotate_left
    (refine im_nf (fun _ => ?_); (try (exfalso; omega)))
    exact own_done (d := 2) rfl rfl rfl rfl
/-! ### coherence order, as it is: between stores of one address, in one of two ways; transitive (plain) -/
theorem mem_coIn (l : List Int) (a b : Int) : (a, b) ∈ coIn l l.length ↔ ∃ i j, i < j ∧ j < l.length ∧ l.getD i 0 = a ∧ l.getD j 0 = b := by
  unfold coIn
  constructor
  · intro h
    obtain ⟨i, h1, h2⟩ := List.mem_flatMap.1 h
    obtain ⟨c, h3, h4⟩ := List.mem_map.1 h2
    cases h4
    obtain ⟨k, hk, e⟩ := List.getElem_of_mem h3
    simp at hk
    refine ⟨i, i + 1 + k, by omega, by omega, rfl, ?_⟩
    rw [← e, List.getElem_drop, List.getD_eq_getElem?_getD, List.getElem?_eq_getElem (by omega)]; rfl
  · rintro ⟨i, j, h1, h2, rfl, rfl⟩
    refine List.mem_flatMap.2 ⟨i, List.mem_range.2 (by omega), List.mem_map.2 ⟨l.getD j 0, ?_, rfl⟩⟩
    rw [List.getD_eq_getElem?_getD, List.getElem?_eq_getElem h2]
    refine List.mem_of_getElem (i := j - (i + 1)) (h := by simp; omega) ?_
    rw [List.getElem_drop, Option.getD_some]
    congr 1; omega
theorem mem_coZ (o : List (Sl × List Int)) (p : Int × Int) : p ∈ coZ o ↔ ∃ r, r < o.length ∧ p ∈ coIn (o.getD r default).2 (o.getD r default).2.length := by
  constructor
  · exact coTo_mem
  · rintro ⟨r, hr, hp⟩
    unfold coZ coTo
    refine List.mem_flatMap.2 ⟨o.getD r default, ?_, hp⟩
    rw [List.take_length, List.getD_eq_getElem?_getD, List.getElem?_eq_getElem hr]
    exact List.getElem_mem _
theorem mem_wantZ (es : List Ev) (a : Int) (k n : Nat) : (n : Int) ∈ wantTo es a k ↔ n < k ∧ (es.getD n default).stB = true ∧ (es.getD n default).addr = a := by
  unfold wantTo
  constructor
  · intro h
    obtain ⟨m, h1, h2⟩ := List.mem_map.1 h
    have : m = n := Int.ofNat.inj h2
    subst this
    obtain ⟨h3, h4⟩ := List.mem_filter.1 h1
    simp only [Bool.and_eq_true, beq_iff_eq] at h4
    exact ⟨List.mem_range.1 h3, h4⟩
  · rintro ⟨h1, h2, h3⟩
    exact List.mem_map.2 ⟨n, List.mem_filter.2 ⟨List.mem_range.2 h1, by simp only [Bool.and_eq_true, beq_iff_eq]; exact ⟨h2, h3⟩⟩, rfl⟩
theorem want_nodupZ (es : List Ev) (a : Int) (k : Nat) : (wantTo es a k).Nodup := by
  unfold wantTo
  exact List.Pairwise.map _ (fun x y h e => h (Int.ofNat.inj e)) (List.Pairwise.filter _ List.nodup_range)
theorem row_nodup {es : List Ev} {ad : List Int} {o : List (Sl × List Int)} (h : orderB es ad o = true) {r : Nat} (hr : r < o.length) : (o.getD r default).2.Nodup := by
  have h1 := ((order_row h).2 r hr).1
  have h2 := want_nodupZ es (ad.getD r 0) es.length
  rw [← h1] at h2
  exact (List.mergeSort_perm _ _).nodup_iff.1 h2
theorem nodup_at {l : List Int} (h : l.Nodup) {i j : Nat} (hi : i < l.length) (hj : j < l.length) (e : l.getD i 0 = l.getD j 0) : i = j := by
  rw [List.getD_eq_getElem?_getD, List.getD_eq_getElem?_getD, List.getElem?_eq_getElem hi, List.getElem?_eq_getElem hj] at e
  have e' : l[i] = l[j] := e
  rcases Nat.lt_trichotomy i j with hij | hij | hij
  · exact (List.pairwise_iff_getElem.1 h i j hi hj hij e').elim
  · exact hij
  · exact (List.pairwise_iff_getElem.1 h j i hj hi hij e'.symm).elim
theorem mem_at {l : List Int} {a : Int} (h : a ∈ l) : ∃ i, i < l.length ∧ l.getD i 0 = a := by
  obtain ⟨i, hi, e⟩ := List.getElem_of_mem h
  exact ⟨i, hi, by rw [List.getD_eq_getElem?_getD, List.getElem?_eq_getElem hi]; exact e⟩
theorem at_mem {l : List Int} {i : Nat} (h : i < l.length) : l.getD i 0 ∈ l := by
  rw [List.getD_eq_getElem?_getD, List.getElem?_eq_getElem h]
  exact List.getElem_mem _
theorem mem_addrs' (a : Int) : ∀ (es : List Ev) (l : List Int), a ∈ es.foldl (fun l e => if e.kind = 4 then l else addIn e.addr l) l ↔ a ∈ l ∨ ∃ e ∈ es, e.kind ≠ 4 ∧ e.addr = a
  | [], l => by simp
  | e :: es, l => by
    rw [List.foldl_cons, mem_addrs' a es]
    by_cases h : e.kind = 4
    · rw [if_pos h]
      constructor
      · rintro (h1 | ⟨f, h1, h2⟩)
        · exact Or.inl h1
        · exact Or.inr ⟨f, by simp [h1], h2⟩
      · rintro (h1 | ⟨f, h1, h2, h3⟩)
        · exact Or.inl h1
        · rcases List.mem_cons.1 h1 with rfl | h1
          · exact (h2 h).elim
          · exact Or.inr ⟨f, h1, h2, h3⟩
    · rw [if_neg h, mem_addIn]
      constructor
      · rintro ((rfl | h1) | ⟨f, h1, h2⟩)
        · exact Or.inr ⟨e, by simp, h, rfl⟩
        · exact Or.inl h1
        · exact Or.inr ⟨f, by simp [h1], h2⟩
      · rintro (h1 | ⟨f, h1, h2, h3⟩)
        · exact Or.inl (Or.inr h1)
        · rcases List.mem_cons.1 h1 with rfl | h1
          · exact Or.inl (Or.inl h3.symm)
          · exact Or.inr ⟨f, h1, h2, h3⟩
theorem mem_addrs (es : List Ev) (a : Int) : a ∈ addrsTo es ↔ ∃ e ∈ es, e.kind ≠ 4 ∧ e.addr = a := by
  unfold addrsTo
  rw [mem_addrs']
  simp
/-- stores of one address -/
def both (es : List Ev) (a b : Nat) : Prop := (es.getD a default).stB = true ∧ (es.getD b default).stB = true ∧ (es.getD a default).addr = (es.getD b default).addr
section
variable {es : List Ev} {o : List (Sl × List Int)} (h : orderB es (addrsTo es) o = true)
include h
omit h in
theorem co_rowOf {a b : Int} (hp : (a, b) ∈ coZ o) : ∃ r i j, r < o.length ∧ i < j ∧ j < (o.getD r default).2.length ∧ (o.getD r default).2.getD i 0 = a ∧ (o.getD r default).2.getD j 0 = b := by
  obtain ⟨r, hr, h1⟩ := (mem_coZ o _).1 hp
  obtain ⟨i, j, h2, h3, h4, h5⟩ := (mem_coIn _ a b).1 h1
  exact ⟨r, i, j, hr, h2, h3, h4, h5⟩
theorem row_at {r i : Nat} (hr : r < o.length) (hi : i < (o.getD r default).2.length) {a : Nat} (e : (o.getD r default).2.getD i 0 = a) : a < es.length ∧ (es.getD a default).stB = true ∧ (es.getD a default).addr = (addrsTo es).getD r 0 := by
  have h1 := (order_mem h hr).1 (at_mem hi)
  rw [e] at h1
  exact (mem_wantZ _ _ _ _).1 h1
theorem row_same {r r' : Nat} (hr : r < o.length) (hr' : r' < o.length) (e : (addrsTo es).getD r 0 = (addrsTo es).getD r' 0) : r = r' := by
  have hl := (order_row h).1
  have hn : (addrsTo es).Nodup := (addrsTo_rising es).imp fun h => Int.ne_of_lt h
  exact nodup_at hn (by omega) (by omega) e
theorem co_is {a b : Nat} (hp : ((a : Int), (b : Int)) ∈ coZ o) : a < es.length ∧ b < es.length ∧ a ≠ b ∧ both es a b := by
  obtain ⟨r, i, j, hr, h2, h3, h4, h5⟩ := co_rowOf hp
  obtain ⟨a1, a2, a3⟩ := row_at h hr (by omega) h4
  obtain ⟨b1, b2, b3⟩ := row_at h hr h3 h5
  refine ⟨a1, b1, fun e => ?_, a2, b2, a3.trans b3.symm⟩
  subst e
  have := nodup_at (row_nodup h hr) (by omega) h3 (h4.trans h5.symm)
  omega
theorem co_or {a b : Nat} (ha : a < es.length) (hb : b < es.length) (hne : a ≠ b) (hab : both es a b) : ((a : Int), (b : Int)) ∈ coZ o ∨ ((b : Int), (a : Int)) ∈ coZ o := by
  obtain ⟨h1, h2, h3⟩ := hab
  have hm : (es.getD a default).addr ∈ addrsTo es := (mem_addrs _ _).2 ⟨es.getD a default, by
    rw [List.getD_eq_getElem?_getD, List.getElem?_eq_getElem ha]; exact List.getElem_mem _, fun e => by
    unfold Ev.stB at h1; rw [e] at h1; simp at h1, rfl⟩
  obtain ⟨r, hr, er⟩ := mem_at hm
  have hl := (order_row h).1
  have hro : r < o.length := by omega
  obtain ⟨i, hi, ei⟩ := mem_at ((order_mem h hro).2 ((mem_wantZ es _ es.length a).2 ⟨ha, h1, er.symm⟩))
  obtain ⟨j, hj, ej⟩ := mem_at ((order_mem h hro).2 ((mem_wantZ es _ es.length b).2 ⟨hb, h2, by rw [← h3, er]⟩))
  rcases Nat.lt_trichotomy i j with hij | hij | hij
  · exact Or.inl ((mem_coZ o _).2 ⟨r, hro, (mem_coIn _ _ _).2 ⟨i, j, hij, hj, ei, ej⟩⟩)
  · subst hij
    rw [ei] at ej
    exact (hne (by omega)).elim
  · exact Or.inr ((mem_coZ o _).2 ⟨r, hro, (mem_coIn _ _ _).2 ⟨j, i, hij, hi, ej, ei⟩⟩)
end
theorem mem_rfZ {zs : List Int} {k : Nat} {a b : Int} : (a, b) ∈ rfZ zs k ↔ ∃ n : Nat, n < k ∧ 0 ≤ zs.getD n 0 ∧ a = zs.getD n 0 ∧ b = n := by
  unfold rfZ
  constructor
  · intro h
    obtain ⟨n, h1, h2⟩ := List.mem_filterMap.1 h
    split at h2
    · rename_i h0
      cases h2
      exact ⟨n, List.mem_range.1 h1, h0, rfl, rfl⟩
    · cases h2
  · rintro ⟨n, h1, h0, rfl, rfl⟩
    exact List.mem_filterMap.2 ⟨n, List.mem_range.2 h1, by rw [if_pos h0]⟩
end Go.Proofs.YtgeaaegkcbjhlaaGreat
/- Whether some arrow leads out of the places: Acyclic's first test. -/
namespace Go.Proofs.YtgeaaegkcbjhlaaGreat
open Go.RowKit Go.Shelf Go.Maps Go.Sort
set_option maxHeartbeats 1000000 in
theorem out_c (n : Int) (p : Int × Int) (Bn : Nat) (w : World) (hB : Bn < w.heap.size) (hn : w.cell? ⟨Bn, 0, none⟩ = some (.int .i64 n)) :
    Calls Tryz.prog 36 #[.agg #[.int .i64 p.1, .int .i64 p.2], .pointer (some ⟨Bn, 0, none⟩)] w fun e w' => e = .returned (.bool (outB n p)) ∧ Below w.heap.size w w' := by
  obtain ⟨a, b⟩ := p
  unfold outB
  dsimp only
  obtain ⟨res, hres⟩ : ∃ z : Bool, (decide (a < 0) || decide (n ≤ a) || decide (b < 0) || decide (n ≤ b)) = z := ⟨_, rfl⟩
  rw [hres]
  have RES := Lib.hid hres
  clear hres
  have hb0 : Below w.heap.size w (w.alloc (.cells #[.int .i64 a, .int .i64 b] 41)) := (Below.refl _ _).alloc (Nat.le_refl _) _
  cases h1 : decide (a < 0) with
  | true =>
    have F : Hid (true = res) := Lib.hid (by rw [← RES.out, h1]; rfl)
    go_enter Tryz.func36, Tryz.ntmps36
    go_wp2
    go_ret
    exact ⟨ret_bool F.out, hb0⟩
  | false =>
  cases h2 : decide (n ≤ a) with
  | true =>
    have F : Hid (true = res) := Lib.hid (by rw [← RES.out, h1, h2]; rfl)
    go_enter Tryz.func36, Tryz.ntmps36
    go_wp2
    go_ret
    exact ⟨ret_bool F.out, hb0⟩
  | false =>
  cases h3 : decide (b < 0) with
  | true =>
    have F : Hid (true = res) := Lib.hid (by rw [← RES.out, h1, h2, h3]; rfl)
    go_enter Tryz.func36, Tryz.ntmps36
    go_wp2
    go_ret
    exact ⟨ret_bool F.out, hb0⟩
  | false =>
  cases h4 : decide (n ≤ b) with
  | true =>
    have F : Hid (true = res) := Lib.hid (by rw [← RES.out, h1, h2, h3, h4]; rfl)
    go_enter Tryz.func36, Tryz.ntmps36
    go_wp2
    go_ret
    exact ⟨ret_bool F.out, hb0⟩
  | false =>
    have F : Hid (false = res) := Lib.hid (by rw [← RES.out, h1, h2, h3, h4]; rfl)
    go_enter Tryz.func36, Tryz.ntmps36
    go_wp2
    go_ret
    exact ⟨ret_bool F.out, hb0⟩
theorem any_take_succ (n : Int) (l : List (Int × Int)) {k : Nat} (hk : k < l.length) : (l.take (k + 1)).any (outB n) = ((l.take k).any (outB n) || outB n (l.getD k (0, 0))) := by
  rw [List.take_succ_eq_append_getElem hk, List.any_append, List.getD_eq_getElem?_getD, List.getElem?_eq_getElem hk]
  simp only [List.any_cons, List.any_nil, Bool.or_false, Option.getD_some]
set_option maxRecDepth 100000 in
set_option maxHeartbeats 1000000 in
theorem index_c (n : Int) (Bn : Nat) (s : Sl) (l : List (Int × Int)) (w : World) (hB : Bn < w.heap.size) (hn : w.cell? ⟨Bn, 0, none⟩ = some (.int .i64 n)) (hl : PairsZ w.heap.size w s l) :
    Calls Tryz.prog 51 #[.slice s.a s.n s.c, .func (.func 36) #[] #[.pointer (some ⟨Bn, 0, none⟩)]] w fun e w' => ∃ r : Int, e = .returned (.int .i64 r) ∧ decide (0 ≤ r) = l.any (outB n) ∧ Below w.heap.size w w' := by
  obtain ⟨a, sn, c⟩ := s
  obtain ⟨h1, h2, h3⟩ := hl
  dsimp only at h1 h3
  subst h1
  have H3 := Lib.hid h3
  have OC := Lib.hid (fun p w hB hn => out_c n p Bn w hB hn)
  clear h3
  go_enter Tryz.func51, Tryz.ntmps51
  go_wp2
  go_loopw [8] (fun i wr => ∃ k : Nat, k ≤ l.length ∧ i = .int .i64 k ∧ (l.take k).any (outB n) = false ∧ Below w.heap.size w wr) (fun i _ => l.length - (intOf i).toNat)
  case atStart => exact ⟨0, by omega, rfl, rfl, Below.refl _ _⟩
  case round =>
    obtain ⟨k, hk, rfl, hto, hbr⟩ := hrel
    have HTO := Lib.hid hto
    clear hto
    by_cases hlt : k < l.length
    · obtain ⟨b, off, rfl, hbB, hcl⟩ := H3.out.resolve_left (by intro h; rw [h] at hlt; simp at hlt)
      obtain ⟨p, hp⟩ : ∃ p, l.getD k (0, 0) = p := ⟨_, rfl⟩
      have cc := hcl k hlt
      rw [hp] at cc
      have c0 : wr.cell? ⟨b, off + k * 2, none⟩ = some (.int .i64 p.1) := by rw [hbr.cell (p := ⟨b, off + k * 2, none⟩) hbB]; exact cc.1
      have c1 : wr.cell? ⟨b, off + k * 2 + 1, none⟩ = some (.int .i64 p.2) := by rw [hbr.cell (p := ⟨b, off + k * 2 + 1, none⟩) hbB]; exact cc.2
      have HA : Hid ((l.take (k + 1)).any (outB n) = outB n p) := Lib.hid (by rw [any_take_succ n l hlt, HTO.out, hp]; rfl)
      have ctr := Lib.hid (OC.out p wr (by have := hbr.size; omega) ((hbr.cell (p := ⟨Bn, 0, none⟩) hB).trans hn))
      clear hcl cc
      obtain ⟨ob, hob⟩ : ∃ bool_ : Bool, (outB n p) = bool_ := ⟨_, rfl⟩
      have OB := Lib.hid hob
      rw [hob] at ctr
      clear hob hp
      cases ob with
      | true =>
        go_wp2_with (go_at_call 36; refine ctr.out.mono ?_; rintro o w2 ⟨rfl, hb2⟩)
        go_ret
        refine ⟨k, rfl, ?_, hbr.trans (hb2.mono hbr.size)⟩
        have e1 : l.any (outB n) = true := by
          have e2 : (l.take (k + 1)).any (outB n) = true := by rw [HA.out, OB.out]
          rw [List.any_eq_true] at e2 ⊢
          obtain ⟨x, hx, hy⟩ := e2
          exact ⟨x, List.mem_of_mem_take hx, hy⟩
        rw [e1]; simp
      | false =>
        go_wp2_with (go_at_call 36; refine ctr.out.mono ?_; rintro o w2 ⟨rfl, hb2⟩)
        go_roundw
        case rel => first | exact ⟨k + 1, by omega, by go_num, by rw [HA.out, OB.out], hbr.trans (hb2.mono hbr.size)⟩ | ((repeat apply Exists.intro); exact ⟨⟨k + 1, by omega, by go_num, by rw [HA.out, OB.out], hbr.trans (hb2.mono hbr.size)⟩, rfl⟩)
        case measure => simp [intOf]; omega
    · have hke : k = l.length := by omega
      have e1 : l.any (outB n) = false := by have := HTO.out; rwa [hke, List.take_length] at this
      go_wp2
      go_ret
      exact ⟨-1, rfl, by rw [e1]; rfl, hbr⟩
theorem contains_c (n : Int) (Bn : Nat) (s : Sl) (l : List (Int × Int)) (w : World) (hB : Bn < w.heap.size) (hn : w.cell? ⟨Bn, 0, none⟩ = some (.int .i64 n)) (hl : PairsZ w.heap.size w s l) :
    Calls Tryz.prog 35 #[.slice s.a s.n s.c, .func (.func 36) #[] #[.pointer (some ⟨Bn, 0, none⟩)]] w fun e w' => e = .returned (.bool (l.any (outB n))) ∧ Below w.heap.size w w' := by
  have ctr := Lib.hid (index_c n Bn s l w hB hn hl)
  obtain ⟨res, hres⟩ : ∃ z : Bool, l.any (outB n) = z := ⟨_, rfl⟩
  rw [hres] at ctr ⊢
  clear hres hl
  go_enter Tryz.func35, Tryz.ntmps35
  go_wp2_with fail
  refine ctr.out.mono ?_; rintro o w2 ⟨r, rfl, hr, hb2⟩
  cases hd : decide (0 ≤ r) with
  | true =>
    go_wp2
    go_ret
    exact ⟨by rw [← hr, hd]; rfl, hb2⟩
  | false =>
    go_wp2
    go_ret
    exact ⟨by rw [← hr, hd]; rfl, hb2⟩
end Go.Proofs.YtgeaaegkcbjhlaaGreat
/- Acyclic's own search: what it computes, as a function. -/
namespace Go.Proofs.YtgeaaegkcbjhlaaGreat
open Go.RowKit Go.Maps
abbrev St := Nat → Nat
def upd (st : St) (a v : Nat) : St := fun i => if i = a then v else st i
def dfsL (f : St → Nat → Bool × St) : St → List Nat → Bool × St
  | st, [] => (true, st)
  | st, b :: r => if (f st b).1 = true then dfsL f (f st b).2 r else (false, (f st b).2)
def dfs (nx : Nat → List Nat) : Nat → St → Nat → Bool × St
  | 0, st, _ => (false, st)
  | n + 1, st, a =>
    if 0 < st a then (st a == 2, st) else
      if (dfsL (dfs nx n) (upd st a 1) (nx a)).1 = true then (true, upd (dfsL (dfs nx n) (upd st a 1) (nx a)).2 a 2) else (false, (dfsL (dfs nx n) (upd st a 1) (nx a)).2)
/-- how many places are untouched -/
def whites : Nat → St → Nat
  | 0, _ => 0
  | n + 1, st => whites n st + (if st n = 0 then 1 else 0)
theorem whites_upd_le (a v : Nat) (st : St) (hv : v ≠ 0) : ∀ n, whites n (upd st a v) ≤ whites n st
  | 0 => Nat.le_refl _
  | n + 1 => by
    have := whites_upd_le a v st hv n
    unfold whites upd
    unfold upd at this
    by_cases h : n = a
    · rw [if_pos h, if_neg hv]; omega
    · rw [if_neg h]; omega
theorem whites_upd_lt (a v : Nat) (st : St) (hv : v ≠ 0) (h0 : st a = 0) : ∀ n, a < n → whites n (upd st a v) + 1 ≤ whites n st
  | 0, h => by omega
  | n + 1, h => by
    unfold whites
    by_cases hn : n = a
    · have := whites_upd_le a v st hv n
      have e1 : upd st a v n = v := by unfold upd; rw [if_pos hn]
      rw [e1, if_neg hv, hn, h0]
      rw [hn] at this
      simp
      omega
    · have := whites_upd_lt a v st hv h0 n (by omega)
      have e1 : upd st a v n = st n := by unfold upd; rw [if_neg hn]
      rw [e1]; omega
/-- the states' map reads so -/
def Reads (D : DataW Unit) (st : St) : Prop := ∀ i : Nat, i < 64 → D.atKey (.int .i64 (i : Int)) (.lit (.int .i64 0)) = .lit (.int .i64 (st i : Int))
theorem Reads.upd {D : DataW Unit} {st : St} (h : Reads D st) (hm : IsMap D) (a v : Nat) : Reads (D.put (.int .i64 (a : Int)) (.lit (.int .i64 (v : Int)))) (upd st a v) := by
  intro i hi
  unfold Go.Proofs.YtgeaaegkcbjhlaaGreat.upd
  by_cases he : i = a
  · subst he
    rw [if_pos rfl]
    exact atKey_put_same hm (show WideAt.IsKeyLit (Lit.int .i64 (i : Int)) from trivial) _ _
  · rw [if_neg he, atKey_put_other (by intro e; injection e with _ e2; omega)]
    exact h i hi
theorem lawI : Keyed Tryz.prog 3 := int_keyed Tryz.underlying3
theorem keyI {i : Nat} (h : i < 64) : keyOf Tryz.prog 3 (.int .i64 (i : Int)) = some (.int .i64 (i : Int)) := keyOf_int_mk Tryz.underlying3 (by
  simp only [Lit.wf, Bool.and_eq_true, decide_eq_true_eq]
  have e1 : IntKind.i64.min = -9223372036854775808 := by decide
  have e2 : IntKind.i64.max = 9223372036854775807 := by decide
  omega)
theorem wfI {v : Nat} (h : v ≤ 2) : (Lit.int .i64 (v : Int)).wf = true := by
  simp only [Lit.wf, Bool.and_eq_true, decide_eq_true_eq]
  have e1 : IntKind.i64.min = -9223372036854775808 := by decide
  have e2 : IntKind.i64.max = 9223372036854775807 := by decide
  omega
/-- a look-up by its own run -/
theorem wpList_lookup_run {P : Program} (w : World) {ops : Array Oper} {rest : List Oper} {o : Oper} {a : Act} {Q : Exit → Act → World → Prop}
    (hg : o.guard = none) (m x : Operand) (t : TypeId) (hop : o.op = Op.lookup t m x false) (mv key v : Value) (hm : a.eval m = mv) (hx : a.eval x = key) (hrun : (Instr.lookup t mv key false).run P w = .ok v w)
    (hK : wpList P ops Q rest (a.put o.dst v) w) : wpList P ops Q (o :: rest) a w := by
  refine wpList_plain hg fun K' hK' => ?_
  unfold Oper.wp
  simp [execOp, hop, hm, hx, hrun, Result.andThen]
  exact hK' _ _ hK
/-- what the search leans on, and does not turn -/
structure Ground (nx : Nat → List Nat) (w0 : World) (Bs Bt Bc ms mt : Nat) : Prop where
  h8 : w0.cell? ⟨Bs, 0, none⟩ = some (.map (some ms))
  h5 : w0.cell? ⟨Bt, 0, none⟩ = some (.map (some mt))
  h9 : w0.cell? ⟨Bc, 0, none⟩ = some (.func (.func 37) #[] #[.pointer (some ⟨Bs, 0, none⟩), .pointer (some ⟨Bt, 0, none⟩), .pointer (some ⟨Bc, 0, none⟩)])
  ns : Bs ≠ ms
  nt : Bt ≠ ms
  nc : Bc ≠ ms
  nm : mt ≠ ms
  lm : mt < w0.heap.size
  rng : ∀ a : Nat, a < 64 → ∀ b ∈ nx a, b < 64
  len : ∀ a : Nat, (nx a).length ≤ 1152921504606846976
  adj : ∀ a : Nat, a < 64 → ∃ s : Sl, (∀ w' : World, w'.heap[mt]? = w0.heap[mt]? → (Instr.lookup 55 (.map (some mt)) (.int .i64 (a : Int)) false).run Tryz.prog w' = .ok (.slice s.a s.n s.c) w') ∧ s.n = (nx a).length ∧
    (nx a = [] ∨ ∃ b off, s.a = some ⟨b, off, none⟩ ∧ b ≠ ms ∧ ∀ k, k < (nx a).length → w0.cell? ⟨b, off + k, none⟩ = some (.int .i64 ((nx a).getD k 0 : Int)))
/-- how the search's world stands nx the one it began in -/
def At (w0 : World) (ms : Nat) (M : Nat) (st : St) (w : World) : Prop :=
  w0.grownBy w (some ms) ∧ (∀ i, st i ≤ 2) ∧ ∃ (nn : Nat) (D : DataW Unit), w.ownsMap Tryz.prog 3 (plainElem Tryz.prog 3) ms nn D ∧ Reads D st ∧ nn + 2 * whites 64 st ≤ M
theorem dfsL_drop (F : St → Nat → Bool × St) (st : St) (l : List Nat) {k : Nat} (hk : k < l.length) : dfsL F st (l.drop k) = if (F st (l.getD k 0)).1 = true then dfsL F (F st (l.getD k 0)).2 (l.drop (k + 1)) else (false, (F st (l.getD k 0)).2) := by
  rw [List.drop_eq_getElem_cons hk, List.getD_eq_getElem?_getD, List.getElem?_eq_getElem hk]
  rfl
theorem look8 {w : World} {ms nn : Nat} {D : DataW Unit} {st : St} (hown : w.ownsMap Tryz.prog 3 (plainElem Tryz.prog 3) ms nn D) (hR : Reads D st) {a : Nat} (ha : a < 64) :
    (Instr.lookup 56 (.map (some ms)) (.int .i64 (a : Int)) false).run Tryz.prog w = .ok (.int .i64 (st a : Int)) w := by
  obtain ⟨c, hrun, hat, _⟩ := hown.lookup_int lawI Tryz.underlying56 Tryz.underlying3 (zeroI _) (keyI ha)
  rw [hR a ha] at hat
  simp only [DataW.lit.injEq, Lit.int.injEq, true_and] at hat
  rw [hat]; exact hrun
set_option maxRecDepth 100000 in
set_option maxHeartbeats 2000000 in
theorem dfs_c (nx : Nat → List Nat) (w0 : World) (Bs Bt Bc ms mt : Nat) (G : Ground nx w0 Bs Bt Bc ms mt) : ∀ (f : Nat) (st : St) (a : Nat) (w : World) (M : Nat), a < 64 → whites 64 st < f → At w0 ms M st w → M ≤ 1000 →
    Calls Tryz.prog 37 #[.int .i64 (a : Int), .pointer (some ⟨Bs, 0, none⟩), .pointer (some ⟨Bt, 0, none⟩), .pointer (some ⟨Bc, 0, none⟩)] w fun e w' => e = .returned (.bool (dfs nx f st a).1) ∧ At w0 ms M (dfs nx f st a).2 w' ∧ whites 64 (dfs nx f st a).2 ≤ whites 64 st := by
  intro f
  induction f with
  | zero => intro st a w M _ h; exact absurd h (Nat.not_lt_zero _)
  | succ f ih =>
    intro st a w M ha hw hAt hM
    have AT := Lib.hid hAt
    obtain ⟨hg, h2, nn, D, hown, hR, hMw⟩ := hAt
    have hrun8 := look8 hown hR ha
    have c8 := hg.cell G.h8 (by intro e; injection e with e; exact G.ns e)
    have GR := Lib.hid G
    by_cases h0 : 0 < st a
    · have hd : dfs nx (f + 1) st a = (st a == 2, st) := by unfold dfs; rw [if_pos h0]
      rw [hd]
      obtain ⟨v, hv⟩ : ∃ v, st a = v := ⟨_, rfl⟩
      rw [hv] at hrun8 h0 ⊢
      have h0z : (0 : Int) < (v : Int) := by omega
      have e1 : ((v : Int) == 2) = (v == 2) := by
        by_cases h : v = 2
        · subst h; rfl
        · rw [beq_eq_false_iff_ne.2 h, beq_eq_false_iff_ne.2 (by omega)]
      have E1 := Lib.hid e1
      clear e1 hv hd ih hown hR hg G
      go_enter Tryz.func37, Tryz.ntmps37
      go_wp2_with (first | (at_lookup; refine wpList_lookup_run _ rfl _ _ 56 rfl _ _ _ rfl rfl hrun8 ?_) | go_in)
      go_ret
      exact ⟨by first | (rw [← E1.out]; rfl) | (rw [← E1.out]), AT.out, Nat.le_refl _⟩
    · have h00 : st a = 0 := by omega
      rw [h00] at hrun8
      have hwu := whites_upd_lt a 1 st (by omega) h00 64 ha
      have hM1 : 1 ≤ M := by omega
      obtain ⟨l, hl⟩ : ∃ l, nx a = l := ⟨_, rfl⟩
      obtain ⟨⟨va, vn, vc⟩, hlk, hvn, hrow⟩ := G.adj a ha
      dsimp only at hlk hvn hrow
      rw [hl] at hvn hrow
      subst hvn
      have hlen := G.len a
      have hrng := G.rng a ha
      rw [hl] at hlen hrng
      have DF : Hid (dfs nx (f + 1) st a = if (dfsL (dfs nx f) (upd st a 1) l).1 = true then (true, upd (dfsL (dfs nx f) (upd st a 1) l).2 a 2) else (false, (dfsL (dfs nx f) (upd st a 1) l).2)) := Lib.hid (by rw [← hl]; show (if 0 < st a then _ else _) = _; rw [if_neg h0])
      have HLK := Lib.hid hlk
      have HROW := Lib.hid hrow
      have HRNG := Lib.hid hrng
      have IH := Lib.hid ih
      have HW := Lib.hid hw
      have HR := Lib.hid hR
      have h00z : ¬ ((0 : Int) < ((0 : Nat) : Int)) := by omega
      clear ih hw hl hlk hrow hrng hR h0 h00 G
      go_enter Tryz.func37, Tryz.ntmps37
      go_upto_region 4 with (first
        | (at_lookup; refine wpList_lookup_run _ rfl _ _ 56 rfl _ _ _ rfl rfl hrun8 ?_)
        | (at_mapUpdate; refine wpList_mapUpdate_own _ rfl _ _ _ 56 rfl 3 3 lawI Tryz.underlying56 _ ms nn _ rfl hown (by unfold maxLen; omega) _ _ _ rfl rfl (keyI ha) _ [] (plainElem_int Tryz.underlying3 (wfI (v := 1) (by omega))) ?_; intro w1 hown1 hgrow1)
        | go_in)
      have hg1 := hg.trans hgrow1
      have d5 := hg1.cell GR.out.h5 (by intro e; injection e with e; exact GR.out.nt e)
      have hrun5 := HLK.out w1 (hg1.block mt GR.out.lm (by intro e; injection e with e; exact GR.out.nm e))
      have AT1 : Hid (At w0 ms (M - 1) (upd st a 1) w1) := Lib.hid ⟨hg1, fun i => by unfold upd; split; omega; exact h2 i, nn + 1, _, hown1, HR.out.upd hown.isMap a 1, by omega⟩
      have HW1 : Hid (whites 64 (upd st a 1) < f) := Lib.hid (by have := HW.out; omega)
      obtain ⟨st1, hst1⟩ : ∃ s, upd st a 1 = s := ⟨_, rfl⟩
      rw [hst1] at DF AT1 HW1 hwu
      clear hst1 hown1 hgrow1 hown hrun8 hg hMw h2 HR
      go_wp2_with (first | (at_lookup; refine wpList_lookup_run _ rfl _ _ 55 rfl _ _ _ rfl rfl hrun5 ?_) | go_in)
      go_loopw [22] (fun i wr => ∃ (k : Nat) (stk : St), k ≤ l.length ∧ i = .int .i64 k ∧ At w0 ms (M - 1) stk wr ∧ whites 64 stk ≤ whites 64 st1 ∧ dfsL (dfs nx f) stk (l.drop k) = dfsL (dfs nx f) st1 l) (fun i _ => l.length - (intOf i).toNat)
      case atStart => exact ⟨0, st1, by omega, rfl, AT1.out, Nat.le_refl _, rfl⟩
      case round =>
        obtain ⟨k, stk, hk, rfl, hAtk, hwk, hL⟩ := hrel
        have hgk := hAtk.1
        have c9 := hgk.cell GR.out.h9 (by intro e; injection e with e; exact GR.out.nc e)
        have c8k := hgk.cell GR.out.h8 (by intro e; injection e with e; exact GR.out.ns e)
        have ATK := Lib.hid hAtk
        have HL := Lib.hid hL
        clear hL hAtk d5 hrun5
        by_cases hlt : k < l.length
        · obtain ⟨b, off, rfl, hbm, hcl⟩ := HROW.out.resolve_left (by intro h; rw [h] at hlt; simp at hlt)
          obtain ⟨y, hy⟩ : ∃ y, l.getD k 0 = y := ⟨_, rfl⟩
          have cy : wr.cell? ⟨b, off + k, none⟩ = some (.int .i64 (y : Int)) := by rw [← hy]; exact hgk.cell (hcl k hlt) (by intro e; injection e with e; exact hbm e)
          have hy64 : y < 64 := HRNG.out y (by rw [← hy, List.getD_eq_getElem?_getD, List.getElem?_eq_getElem hlt]; exact List.getElem_mem hlt)
          have HD : Hid (dfsL (dfs nx f) stk (l.drop k) = if (dfs nx f stk y).1 = true then dfsL (dfs nx f) (dfs nx f stk y).2 (l.drop (k + 1)) else (false, (dfs nx f stk y).2)) := Lib.hid (by rw [dfsL_drop _ _ _ hlt, hy])
          have ctr := Lib.hid (IH.out stk y wr (M - 1) hy64 (by have := HW1.out; omega) ATK.out (by omega))
          obtain ⟨⟨r, stn⟩, hr⟩ : ∃ r, dfs nx f stk y = r := ⟨_, rfl⟩
          rw [hr] at ctr HD
          clear hr hy hcl
          cases r with
          | true =>
            go_wp2_with (go_at_call 37; refine ctr.out.mono ?_; rintro o w2 ⟨rfl, hAt2, hw2⟩)
            go_roundw
            case rel => first | exact ⟨k + 1, stn, by omega, by go_num, hAt2, Nat.le_trans hw2 hwk, by rw [← HL.out, HD.out]; rfl⟩ | ((repeat apply Exists.intro); exact ⟨⟨k + 1, stn, by omega, by go_num, hAt2, Nat.le_trans hw2 hwk, by rw [← HL.out, HD.out]; rfl⟩, rfl⟩)
            case measure => simp [intOf]; omega
          | false =>
            have FD : Hid (dfs nx (f + 1) st a = (false, stn)) := Lib.hid (by rw [DF.out, ← HL.out, HD.out]; rfl)
            go_wp2_with (go_at_call 37; refine ctr.out.mono ?_; rintro o w2 ⟨rfl, hAt2, hw2⟩)
            go_ret
            obtain ⟨x1, x2, nn2, D2, x3, x4, x5⟩ := hAt2
            refine ⟨by rw [FD.out]; rfl, by rw [FD.out]; exact ⟨x1, x2, nn2, D2, x3, x4, by dsimp only at x5 ⊢; omega⟩, by rw [FD.out]; dsimp only at hw2 ⊢; omega⟩
        · have hke : k = l.length := by omega
          have HE : Hid (dfsL (dfs nx f) st1 l = (true, stk)) := Lib.hid (by rw [← HL.out, hke, List.drop_length]; rfl)
          have FD : Hid (dfs nx (f + 1) st a = (true, upd stk a 2)) := Lib.hid (by rw [DF.out, HE.out]; rfl)
          obtain ⟨_, x2, nn2, D2, x3, x4, x5⟩ := ATK.out
          have hnl : ¬ ((k : Int) < (l.length : Int)) := by omega
          go_wp2_with (first
            | (at_mapUpdate; refine wpList_mapUpdate_own _ rfl _ _ _ 56 rfl 3 3 lawI Tryz.underlying56 _ ms nn2 _ rfl x3 (by unfold maxLen; omega) _ _ _ rfl rfl (keyI ha) _ [] (plainElem_int Tryz.underlying3 (wfI (v := 2) (by omega))) ?_; intro w3 hown3 hgrow3)
            | go_in)
          go_ret
          have hwz := whites_upd_le a 2 stk (by omega) 64
          refine ⟨by rw [FD.out]; rfl, by rw [FD.out]; exact ⟨hgk.trans hgrow3, fun i => by show upd stk a 2 i ≤ 2; unfold upd; split; omega; exact x2 i, nn2 + 1, _, hown3, x4.upd x3.isMap a 2, by show nn2 + 1 + 2 * whites 64 (upd stk a 2) ≤ M; omega⟩, by rw [FD.out]; show whites 64 (upd stk a 2) ≤ _; omega⟩
end Go.Proofs.YtgeaaegkcbjhlaaGreat
/- A map of rows of ints: what a look-up gives, in every world in which the map's block lies as it lay; the rows told by a plain function. -/
namespace Go.Proofs.YtgeaaegkcbjhlaaGreat
open Go.RowKit Go.Maps
open Go.WideElems (Fit rd rg pl rd_key)
theorem pair_unique {α β : Type} (f : α → β) : ∀ (l : List α), (l.map f).Pairwise (fun p q => p ≠ q) → ∀ x ∈ l, ∀ y ∈ l, f x = f y → x = y
  | [], _, x, hx, _, _, _ => by simp at hx
  | z :: r, h, x, hx, y, hy, e => by
    rw [List.map_cons, List.pairwise_cons] at h
    rcases List.mem_cons.1 hx with rfl | hx2
    · rcases List.mem_cons.1 hy with rfl | hy
      · rfl
      · exact absurd e (h.1 _ (List.mem_map_of_mem hy))
    · rcases List.mem_cons.1 hy with hy | hy
      · subst hy; exact absurd e.symm (h.1 _ (List.mem_map_of_mem hx2))
      · exact pair_unique f r h.2 x hx2 y hy e
theorem look_same {H : Type} {P : Program} {t k E : TypeId} {w w' : World} {b : Nat} {es : Array MapEntry} {clock : Nat} {R : Value → Option (DataW H × List MemPlace)} {key z v : Value} {kl : Lit} (K : Keyed P k) (ht : P.underlying t = some (.map k E))
    (hz : ∀ w, (zeroValue E).run P w = .ok z w) (hb : w.heap[b]? = some (.map es clock)) (hb' : w'.heap[b]? = some (.map es clock)) (F : Fit P k R es clock) (hkey : keyOf P k key = some kl)
    (hrun : (Instr.lookup t (.map (some b)) key false).run P w = .ok v w) : (Instr.lookup t (.map (some b)) key false).run P w' = .ok v w' := by
  rcases Maps.fit_look false K ht (hz w) hb F hkey with ⟨h1, h2, _⟩ | ⟨e0, y0, hm0, hk0, h1, hR0, hat0, _⟩
  · rcases Maps.fit_look false K ht (hz w') hb' F hkey with ⟨g1, _, _⟩ | ⟨e1, y1, hm1, hk1, g1, _⟩
    · rw [hrun] at h1
      simp only [Bool.false_eq_true, if_false] at h1 g1
      injection h1 with h1 _
      rw [g1, h1]
    · exact absurd hk1 (h2 e1 hm1)
  · rcases Maps.fit_look false K ht (hz w') hb' F hkey with ⟨_, g2, _⟩ | ⟨e1, y1, hm1, hk1, g1, hR1, hat1, _⟩
    · exact absurd hk0 (g2 e0 hm0)
    · have ap := fit_apart K F
      have hpair : (es.toList.map fun x => (rg P k R x).1).Pairwise (fun p q => p ≠ q) := by
        rw [List.pairwise_map] at ap ⊢
        exact ap
      have he : e0 = e1 := by
        refine pair_unique _ _ hpair e0 hm0 e1 hm1 ?_
        obtain ⟨u0, hu0⟩ := F.reads e0 hm0
        obtain ⟨u1, hu1⟩ := F.reads e1 hm1
        have k0 := rd_key hu0
        have k1 := rd_key hu1
        rw [hk0, hkey] at k0
        rw [hk1, hkey] at k1
        show (rg P k R e0).1 = (rg P k R e1).1
        unfold rg
        rw [hu0, hu1]
        injection k0 with k0
        injection k1 with k1
        show u0.1 = u1.1
        rw [← k0, ← k1]
      rw [hrun] at h1
      simp only [Bool.false_eq_true, if_false] at h1 g1
      injection h1 with h1 _
      rw [g1, h1, he]
end Go.Proofs.YtgeaaegkcbjhlaaGreat
