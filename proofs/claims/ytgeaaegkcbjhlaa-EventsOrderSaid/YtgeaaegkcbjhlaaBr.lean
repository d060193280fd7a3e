/- From plain data back to the elder ground: an execution told in plain data lies in memory as the elder walks want it. -/
import Derived.Test.YtgeaaegkcbjhlaaFr
import Derived.Test.YtgeaaegkcbjhlaaCheck
import Derived.Test.YtgeaaegkcbjhlaaRs
set_option maxRecDepth 100000
set_option linter.unusedVariables false
namespace Go.Proofs.Ytgeaaegkcbjhlaa
open Go.RowKit Go.ChangeShapes Go.WideShapes Go.Deep

section
variable {M : Mem} {w : World} (hm : ∀ b o v, M b o = some v → w.cell? ⟨b, o, none⟩ = some v)
include hm
theorem ints_back {q : IntKind} {l : List Int} {v : Value} (h : Rep M (.sl 1 (l.map fun n => [TV.c (.int q n)])) v) (hl : l.length ≤ 1152921504606846976) : ∃ s : Sl, v = .slice s.a s.n s.c ∧ IntsIn q w.heap.size w s l := by
  rw [Rep] at h
  obtain ⟨a, c, h1, h2, h3⟩ := h
  rw [List.length_map] at h1
  refine ⟨⟨a, l.length, c⟩, h1, rfl, hl, ?_⟩
  rcases h3 with h3 | ⟨b, off, h4, h5⟩
  · exact Or.inl (List.map_eq_nil_iff.1 h3)
  · have get : ∀ k, k < l.length → w.cell? ⟨b, off + k, none⟩ = some (.int q (l.getD k 0)) := fun k hk => by
      obtain ⟨_, g2⟩ := h5.get (get_map (f := fun n => [TV.c (.int q n)]) hk 0)
      obtain ⟨u, g3, g4⟩ := g2.get (o := 0) rfl
      rw [Rep] at g4
      rw [g4.1, Nat.mul_one, Nat.add_zero] at g3
      exact hm _ _ _ g3
    by_cases hz : l = []
    · exact Or.inl hz
    · exact Or.inr ⟨b, off, h4, (cell_lt (get 0 (List.length_pos_iff.2 hz))).2, get⟩

/-- the same event, with slices -/
def Ev.like (e e' : Ev) : Prop := ∃ a d c : Sl, e' = { e with av := a, dv := d, cv := c } ∧ a.n = e.addrs.length ∧ d.n = e.datas.length ∧ c.n = e.ctrls.length
theorem ev_back {e : Ev} (hok : e.ok) {b o : Nat} (h : RepC M (evTV e) b o) : ∃ e', e.like e' ∧ EvCells w b o e' ∧ e'.okIn w.heap.size w := by
  have cl : ∀ i v, (evTV e)[i]? = some (.c v) → w.cell? ⟨b, o + i, none⟩ = some v := fun i v hi => by
    obtain ⟨u, g3, g4⟩ := h.get hi
    rw [Rep] at g4
    rw [g4.1] at g3
    exact hm _ _ _ g3
  have cs : ∀ i l, (evTV e)[i]? = some (ints l) → l.length ≤ 1152921504606846976 → ∃ s : Sl, w.cell? ⟨b, o + i, none⟩ = some (.slice s.a s.n s.c) ∧ IntsIn .i64 w.heap.size w s l := fun i l hi hl => by
    obtain ⟨u, g3, g4⟩ := h.get hi
    obtain ⟨s, rfl, hs⟩ := ints_back hm (q := .i64) g4 hl
    exact ⟨s, hm _ _ _ g3, hs⟩
  obtain ⟨w1, n1, n2, n3, _⟩ := hok
  obtain ⟨sa, a1, a2⟩ := cs 10 e.addrs rfl n1
  obtain ⟨sd, d1, d2⟩ := cs 11 e.datas rfl n2
  obtain ⟨sc, c1, c2⟩ := cs 12 e.ctrls rfl n3
  refine ⟨{ e with av := sa, dv := sd, cv := sc }, ⟨sa, sd, sc, rfl, a2.1, d2.1, c2.1⟩, ?_, a2, d2, c2, w1⟩
  exact ⟨cl 0 _ rfl, cl 1 _ rfl, cl 2 _ rfl, cl 3 _ rfl, cl 4 _ rfl, cl 5 _ rfl, cl 6 _ rfl, cl 7 _ rfl, cl 8 _ rfl, cl 9 _ rfl, a1, d1, c1⟩
theorem evs_back {es : List Ev} {v : Value} (h : Rep M (evsTV es) v) (hl : es.length ≤ 1152921504606846976) (hok : ∀ e ∈ es, e.ok) :
    ∃ (s : Sl) (es' : List Ev), v = .slice s.a s.n s.c ∧ EvsIn w.heap.size w s es' ∧ es'.length = es.length ∧ ∀ i, i < es.length → (es.getD i default).like (es'.getD i default) := by
  unfold evsTV at h
  rw [Rep] at h
  obtain ⟨a, c, h1, h2, h3⟩ := h
  rw [List.length_map] at h1
  rcases h3 with h3 | ⟨b, off, h4, h5⟩
  · have : es = [] := List.map_eq_nil_iff.1 h3
    subst this
    exact ⟨⟨a, 0, c⟩, [], h1, ⟨rfl, by simp, by simp, Or.inl rfl⟩, rfl, fun i hi => by simp at hi⟩
  · obtain ⟨E, hE⟩ := choose_lt (α := Ev) (n := es.length) (p := fun i e' => (es.getD i default).like e' ∧ EvCells w b (off + i * 13) e' ∧ e'.okIn w.heap.size w) (fun i hi => by
      obtain ⟨_, g2⟩ := h5.get (get_map (f := evTV) hi default)
      refine ev_back hm (hok _ ?_) g2
      rw [List.getD_eq_getElem?_getD, List.getElem?_eq_getElem hi]
      exact List.getElem_mem hi)
    have hL : ((List.range es.length).map E).length = es.length := by simp
    have hg : ∀ i, i < es.length → ((List.range es.length).map E).getD i default = E i := fun i hi => by
      rw [List.getD_eq_getElem?_getD, List.getElem?_eq_getElem (by omega)]
      simp
    refine ⟨⟨a, es.length, c⟩, (List.range es.length).map E, h1, ⟨hL.symm, by omega, fun e he => ?_, ?_⟩, hL, fun i hi => by rw [hg i hi]; exact (hE i hi).1⟩
    · obtain ⟨i, hi, rfl⟩ := List.mem_map.1 he
      exact (hE i (List.mem_range.1 hi)).2.2
    · by_cases hz : es.length = 0
      · left; rw [hz]; rfl
      · right
        have c0 := (hE 0 (by omega)).2.1.1
        exact ⟨b, off, h4, (cell_lt c0).2, fun k hk => by rw [hg k (by omega)]; exact (hE k (by omega)).2.1⟩
theorem rows_back {l : List (Sl × List Int)} {v : Value} (h : Rep M (rowsTV l) v) (hl : l.length ≤ 1152921504606846976) (hok : ∀ r ∈ l, r.2.length ≤ 1152921504606846976) :
    ∃ (s : Sl) (l' : List (Sl × List Int)), v = .slice s.a s.n s.c ∧ RowsIn w.heap.size w s l' ∧ l'.length = l.length ∧ ∀ i, i < l.length → (l'.getD i default).2 = (l.getD i default).2 := by
  unfold rowsTV at h
  rw [Rep] at h
  obtain ⟨a, c, h1, h2, h3⟩ := h
  rw [List.length_map] at h1
  rcases h3 with h3 | ⟨b, off, h4, h5⟩
  · have : l = [] := List.map_eq_nil_iff.1 h3
    subst this
    exact ⟨⟨a, 0, c⟩, [], h1, ⟨rfl, by simp, by simp, Or.inl rfl⟩, rfl, fun i hi => by simp at hi⟩
  · obtain ⟨E, hE⟩ := choose_lt (α := Sl × List Int) (n := l.length) (p := fun i r => r.2 = (l.getD i default).2 ∧ w.cell? ⟨b, off + i, none⟩ = some r.1.v ∧ IntsIn .i64 w.heap.size w r.1 r.2) (fun i hi => by
      obtain ⟨_, g2⟩ := h5.get (get_map (f := intRow) hi default)
      obtain ⟨u, g3, g4⟩ := g2.get (o := 0) rfl
      obtain ⟨s, rfl, hs⟩ := ints_back hm (q := .i64) g4 (by
        apply hok
        rw [List.getD_eq_getElem?_getD, List.getElem?_eq_getElem hi]
        exact List.getElem_mem hi)
      rw [Nat.mul_one, Nat.add_zero] at g3
      exact ⟨(s, (l.getD i default).2), rfl, hm _ _ _ g3, hs⟩)
    have hL : ((List.range l.length).map E).length = l.length := by simp
    have hg : ∀ i, i < l.length → ((List.range l.length).map E).getD i default = E i := fun i hi => by
      rw [List.getD_eq_getElem?_getD, List.getElem?_eq_getElem (by omega)]
      simp
    refine ⟨⟨a, l.length, c⟩, (List.range l.length).map E, h1, ⟨hL.symm, by omega, fun r hr => ?_, ?_⟩, hL, fun i hi => by rw [hg i hi]; exact (hE i hi).1⟩
    · obtain ⟨i, hi, rfl⟩ := List.mem_map.1 hr
      exact (hE i (List.mem_range.1 hi)).2.2
    · by_cases hz : l.length = 0
      · left; rw [hz]; rfl
      · right
        have c0 := (hE 0 (by omega)).2.1
        exact ⟨b, off, h4, (cell_lt c0).2, fun k hk => by rw [hg k (by omega)]; exact (hE k (by omega)).2.1⟩
end

/-! ### Check does not look at where slices lie -/
def Sl.core (s : Sl) : Sl := ⟨none, s.n, 0⟩
def Ev.core (e : Ev) : Ev := { e with av := e.av.core, dv := e.dv.core, cv := e.cv.core }
theorem getD_core (es : List Ev) (i : Nat) : (es.map Ev.core).getD i default = (es.getD i default).core := by
  rw [List.getD_eq_getElem?_getD, List.getD_eq_getElem?_getD, List.getElem?_map]
  cases es[i]? <;> rfl
def Ex.core (x : Ex) : Ex := ⟨default, default, default, x.evs.map Ev.core, x.from_, x.order.map fun r => (default, r.2)⟩
theorem addrs_core (es : List Ev) : addrsTo (es.map Ev.core) = addrsTo es := by
  unfold addrsTo
  rw [List.foldl_map]
  rfl
theorem hangs_core (es : List Ev) (n : Nat) (l : List Int) : hangsB (es.map Ev.core) n l = hangsB es n l := by
  unfold hangsB hangsTo
  congr 1
  funext i
  unfold depOk
  simp only [getD_core]
  rfl
theorem evOk_core (es : List Ev) (ad : List Int) : evOk (es.map Ev.core) ad = evOk es ad := by
  funext n
  unfold evOk evPre
  simp only [getD_core, hangs_core]
  rfl
theorem evsTo_core (es : List Ev) (ad : List Int) (k : Nat) : evsTo (es.map Ev.core) ad k = evsTo es ad k := by
  unfold evsTo
  rw [evOk_core]
theorem fromOk_core (es : List Ev) (fs : List Int) : fromOk (es.map Ev.core) fs = fromOk es fs := by
  funext n
  unfold fromOk srcOk
  simp only [getD_core, List.length_map]
  rfl
theorem fromB_core (es : List Ev) (fs : List Int) : fromB (es.map Ev.core) fs = fromB es fs := by
  unfold fromB fromTo
  rw [fromOk_core, List.length_map]
theorem want_core (es : List Ev) (a : Int) (k : Nat) : wantTo (es.map Ev.core) a k = wantTo es a k := by
  unfold wantTo
  simp only [getD_core]
  rfl
theorem order_core (es : List Ev) (ad : List Int) (rows : List (Sl × List Int)) : orderB (es.map Ev.core) ad (rows.map fun r => (default, r.2)) = orderB es ad rows := by
  unfold orderB rowsTo
  rw [List.length_map]
  congr 2
  funext i
  unfold rowOk
  rw [want_core, List.length_map]
  have : ((rows.map fun r => ((default : Sl), r.2)).getD i default).2 = (rows.getD i default).2 := by
    rw [List.getD_eq_getElem?_getD, List.getD_eq_getElem?_getD, List.getElem?_map]
    cases rows[i]? <;> rfl
  rw [this]
theorem check_core (x : Ex) : checkI x.core = checkI x := by
  unfold checkI Ex.core
  dsimp only
  rw [addrs_core, List.length_map, evsTo_core, fromB_core, order_core]
theorem like_core {e e' : Ev} (h : e.like e') (hc : e.av.n = e.addrs.length ∧ e.dv.n = e.datas.length ∧ e.cv.n = e.ctrls.length) : e'.core = e.core := by
  obtain ⟨a, d, c, rfl, h1, h2, h3⟩ := h
  unfold Ev.core Sl.core
  dsimp only
  rw [h1, h2, h3, hc.1, hc.2.1, hc.2.2]
theorem list_ext_getD {α : Type} (d : α) {l l' : List α} (hl : l.length = l'.length) (h : ∀ i, i < l.length → l.getD i d = l'.getD i d) : l = l' := by
  apply List.ext_getElem hl
  intro i h1 h2
  have := h i h1
  rw [List.getD_eq_getElem?_getD, List.getD_eq_getElem?_getD, List.getElem?_eq_getElem h1, List.getElem?_eq_getElem h2] at this
  exact this
theorem Ev.ok.bare {e : Ev} (h : e.ok) : e.bareB = e.rbareB := by
  obtain ⟨_, _, _, _, h1, h2, h3⟩ := h
  unfold Ev.bareB Ev.rbareB Ev.stB Ev.ldB
  rw [h1, h2, h3]
  obtain ⟨hart, kind, addr, val, rval, aq, rl, pred, succ, rsv, av, dv, cv, l1, l2, l3⟩ := e
  dsimp only
  generalize l1.length = a
  generalize l2.length = d
  generalize l3.length = c
  rw [Bool.eq_iff_iff]
  by_cases k5 : kind = 5
  · subst k5; cases aq <;> cases rl <;> cases rsv <;> simp <;> omega
  by_cases k4 : kind = 4
  · subst k4; cases aq <;> cases rl <;> cases rsv <;> simp <;> omega
  by_cases k3 : kind = 3
  · subst k3; cases aq <;> cases rl <;> cases rsv <;> simp <;> omega
  by_cases k2 : kind = 2
  · subst k2; cases aq <;> cases rl <;> cases rsv <;> simp <;> omega
  by_cases k1 : kind = 1
  · subst k1; cases aq <;> cases rl <;> cases rsv <;> simp <;> omega
  rw [if_neg k5, if_neg k1, if_neg k2, if_neg k3, if_neg k4]
  have : kind < 1 ∨ 5 < kind := by omega
  rcases this with h | h <;> simp [h]
theorem ex_back {M : Mem} {w : World} (hm : ∀ b o v, M b o = some v → w.cell? ⟨b, o, none⟩ = some v) {G : Gh} (hG : G.M = M) {x : Ex} {v : Value} (h : RepO G (exOV x) v) (hx : x.ok) :
    ∃ x' : Ex, v = x'.agg ∧ x'.inW w.heap.size w ∧ x'.core = x.core := by
  obtain ⟨h1, h2, h3, h4, h5⟩ := hx
  unfold exOV at h
  rw [RepO] at h
  obtain ⟨vs, hv, h⟩ := h
  rw [RepOL] at h
  obtain ⟨v0, us, e0, r0, h⟩ := h
  rw [RepOL] at h
  obtain ⟨v1, us1, e1, r1, h⟩ := h
  rw [RepOL] at h
  obtain ⟨v2, us2, e2, r2, h⟩ := h
  rw [RepOL] at h
  rw [RepO, hG] at r0 r1 r2
  obtain ⟨s0, es', rfl, g1, g2, g3⟩ := evs_back hm r0 h1 h2
  obtain ⟨s1, rfl, g4⟩ := ints_back hm (q := .i64) r1 h3
  obtain ⟨s2, l', rfl, g5, g6, g7⟩ := rows_back hm r2 h4 h5
  refine ⟨⟨s0, s1, s2, es', x.from_, l'⟩, ?_, ⟨g1, g4, g5⟩, ?_⟩
  · rw [hv]; unfold Ex.agg
    congr 1
    apply Array.ext'
    rw [e0, e1, e2, h]
  · unfold Ex.core
    dsimp only
    congr 1
    · apply list_ext_getD default (by simpa using g2)
      intro i hi
      rw [List.length_map] at hi
      rw [getD_core, getD_core]
      refine like_core (g3 i (by omega)) ?_
      have := h2 (x.evs.getD i default) (by
        rw [List.getD_eq_getElem?_getD, List.getElem?_eq_getElem (by omega)]
        exact List.getElem_mem _)
      exact this.2.2.2.2
    · apply list_ext_getD default (by simpa using g6)
      intro i hi
      rw [List.length_map] at hi
      have e : ∀ rows : List (Sl × List Int), (rows.map fun r => ((default : Sl), r.2)).getD i default = (default, (rows.getD i default).2) := fun rows => by
        rw [List.getD_eq_getElem?_getD, List.getD_eq_getElem?_getD, List.getElem?_map]
        cases rows[i]? <;> rfl
      rw [e, e, g7 i (by omega)]
/-- A function's contract in plain data, from the elder ground: a number, or a truth value. -/
theorem pure_of {P : Program} {f : FuncId} {args : List OV} {l : Value} (hE : Enters P f) (hl : l.oneCell' = true)
    (h : ∀ (G : Gh) (w : World) (vs : List Value), RepOL G args vs → (∀ b o v, G.M b o = some v → w.cell? ⟨b, o, none⟩ = some v) → Calls P f vs.toArray w fun e w' => e = .returned l ∧ Below w.heap.size w w') : Pure P f args (.d (.c l)) :=
  ⟨hE, fun G w vs N hr hw => (h G w vs hr hw.mem).mono fun e w' ⟨h1, h2⟩ => ⟨l, G, .d (.c l), Store.nil, h1, rfl, Gh.le.refl G, by rw [RepO]; exact rep_c2 hl, hw.below h2⟩⟩
/-- events.Check, in plain data -/
theorem check_p (x : Ex) (hx : x.ok) (hrows : ∀ r ∈ x.order, r.2.length ≤ 65536) : Pure E.P 11 [exOV x] (.int .i64 (checkI x)) := by
  refine pure_of ⟨_, Try.func11, by decide, rfl⟩ rfl fun G w vs hr hm => ?_
  rw [RepOL] at hr
  obtain ⟨v, us, rfl, r0, hr⟩ := hr
  rw [RepOL] at hr
  subst hr
  obtain ⟨x', rfl, h1, h2⟩ := ex_back hm rfl r0 hx
  have := check_c x' w h1 (fun r hr => ?_)
  · rw [← check_core x', h2, check_core] at this
    exact this
  · have e : (default, r.2) ∈ x'.core.order := List.mem_map.2 ⟨r, hr, rfl⟩
    rw [h2] at e
    obtain ⟨r', hr', e'⟩ := List.mem_map.1 e
    have := hrows r' hr'
    rw [Prod.mk.injEq] at e'
    rw [← e'.2]; exact this
end Go.Proofs.Ytgeaaegkcbjhlaa
