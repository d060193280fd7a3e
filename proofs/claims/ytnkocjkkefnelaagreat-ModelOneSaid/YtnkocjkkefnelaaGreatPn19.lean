/- Parts. -/
import Derived.Test.YtnkocjkkefnelaaGreatPn6
import Derived.Test.YtnkocjkkefnelaaGreatPn8
import Derived.Test.YtnkocjkkefnelaaGreatPn9
import Derived.Test.YtnkocjkkefnelaaGreatPn12
import Derived.Test.YtnkocjkkefnelaaGreatPn13
import Derived.Test.YtnkocjkkefnelaaGreatPn18
set_option linter.unusedVariables false
set_option linter.unusedSimpArgs false
set_option maxHeartbeats 4000000
set_option maxRecDepth 100000
namespace Go.Proofs.YtnkocjkkefnelaaGreat
open Go.RowKit Go.ChangeShapes Go.WideShapes Go.Deep
section
variable {M : Mem} {w : World} (hm : ∀ b o v, M b o = some v → w.cell? ⟨b, o, none⟩ = some v)
include hm
theorem fF {q : IntKind} {l : List Int} {v : Value} (h : Rep M (.sl 1 (l.map fun n => [TV.c (.int q n)])) v) (hl : l.length ≤ 1152921504606846976) : ∃ s : Sl, v = .slice s.a s.n s.c ∧ IntsIn q w.heap.size w s l := by
 rw [Rep] at h
 obtain ⟨a, c, h1, h2, h3⟩ := h
 rw [List.length_map] at h1
 refine ⟨⟨a, l.length, c⟩, h1, rfl, hl, ?_⟩
 rcases h3 with h3 | ⟨b, off, h4, h5⟩
 ·exact Or.inl (List.map_eq_nil_iff.1 h3)
 ·have get : ∀ k, k < l.length → w.cell? ⟨b, off + k, none⟩ = some (.int q (l.getD k 0)) := fun k hk => by
   obtain ⟨_, g2⟩ := h5.get (uY (f := fun n => [TV.c (.int q n)]) hk 0)
   obtain ⟨u, g3, g4⟩ := g2.get (o := 0) rfl
   rw [Rep] at g4
   rw [g4.1, Nat.mul_one, Nat.add_zero] at g3
   exact hm _ _ _ g3
  by_cases hz : l = []
  ·exact Or.inl hz
  ·exact Or.inr ⟨b, off, h4, (cE (get 0 (List.length_pos_iff.2 hz))).2, get⟩
def Ev.like (e e' : Ev) : Prop := ∃ a d c : Sl, e' = { e with av := a, dv := d, cv := c } ∧ a.n = e.addrs.length ∧ d.n = e.datas.length ∧ c.n = e.ctrls.length
theorem ev_back {e : Ev} (hok : e.ok) {b o : Nat} (h : RepC M (evTV e) b o) : ∃ e', e.like e' ∧ EvCells w b o e' ∧ e'.okIn w.heap.size w := by
 have cl : ∀ i v, (evTV e)[i]? = some (.c v) → w.cell? ⟨b, o + i, none⟩ = some v := fun i v hi => by
  obtain ⟨u, g3, g4⟩ := h.get hi
  rw [Rep] at g4
  rw [g4.1] at g3
  exact hm _ _ _ g3
 have cs : ∀ i l, (evTV e)[i]? = some (ints l) → l.length ≤ 1152921504606846976 → ∃ s : Sl, w.cell? ⟨b, o + i, none⟩ = some (.slice s.a s.n s.c) ∧ IntsIn .i64 w.heap.size w s l := fun i l hi hl => by
  obtain ⟨u, g3, g4⟩ := h.get hi
  obtain ⟨s, rfl, hs⟩ := fF hm (q := .i64) g4 hl
  exact ⟨s, hm _ _ _ g3, hs⟩
 obtain ⟨w1, n1, n2, n3, _⟩ := hok
 obtain ⟨sa, a1, a2⟩ := cs 10 e.addrs rfl n1
 obtain ⟨sd, d1, d2⟩ := cs 11 e.datas rfl n2
 obtain ⟨sc, c1, c2⟩ := cs 12 e.ctrls rfl n3
 refine ⟨{ e with av := sa, dv := sd, cv := sc }, ⟨sa, sd, sc, rfl, a2.1, d2.1, c2.1⟩, ?_, a2, d2, c2, w1⟩
 exact ⟨cl 0 _ rfl, cl 1 _ rfl, cl 2 _ rfl, cl 3 _ rfl, cl 4 _ rfl, cl 5 _ rfl, cl 6 _ rfl, cl 7 _ rfl, cl 8 _ rfl, cl 9 _ rfl, a1, d1, c1⟩
theorem evs_back {es : List Ev} {v : Value} (h : Rep M (evsTV es) v) (hl : es.length ≤ 1152921504606846976) (hok : ∀ e ∈ es, e.ok) :
  ∃ (s : Sl) (es' : List Ev), v = .slice s.a s.n s.c ∧ EvsIn w.heap.size w s es' ∧ es'.length = es.length ∧ ∀ i, i < es.length → (es.getD i default).like (es'.getD i default) := by
 unfold evsTV at h
 rw [Rep] at h
 obtain ⟨a, c, h1, h2, h3⟩ := h
 rw [List.length_map] at h1
 rcases h3 with h3 | ⟨b, off, h4, h5⟩
 ·have : es = [] := List.map_eq_nil_iff.1 h3
  subst this
  exact ⟨⟨a, 0, c⟩, [], h1, ⟨rfl, by simp, by simp, Or.inl rfl⟩, rfl, fun i hi => by simp at hi⟩
 ·obtain ⟨E, hE⟩ := choose_lt (α := Ev) (n := es.length) (p := fun i e' => (es.getD i default).like e' ∧ EvCells w b (off + i * 13) e' ∧ e'.okIn w.heap.size w) (fun i hi => by
   obtain ⟨_, g2⟩ := h5.get (uY (f := evTV) hi default)
   refine ev_back hm (hok _ ?_) g2
   rw [List.getD_eq_getElem?_getD, List.getElem?_eq_getElem hi]
   exact List.getElem_mem hi)
  have hL : ((List.range es.length).map E).length = es.length := by simp
  have hg : ∀ i, i < es.length → ((List.range es.length).map E).getD i default = E i := fun i hi => by
   rw [List.getD_eq_getElem?_getD, List.getElem?_eq_getElem (by omega)]
   simp
  refine ⟨⟨a, es.length, c⟩, (List.range es.length).map E, h1, ⟨hL.symm, by omega, fun e he => ?_, ?_⟩, hL, fun i hi => by rw [hg i hi]; exact (hE i hi).1⟩
  ·obtain ⟨i, hi, rfl⟩ := List.mem_map.1 he
   exact (hE i (List.mem_range.1 hi)).2.2
  ·by_cases hz : es.length = 0
   ·left; rw [hz]; rfl
   ·right
    have c0 := (hE 0 (by omega)).2.1.1
    exact ⟨b, off, h4, (cE c0).2, fun k hk => by rw [hg k (by omega)]; exact (hE k (by omega)).2.1⟩
theorem rows_back {l : List (Sl × List Int)} {v : Value} (h : Rep M (rowsTV l) v) (hl : l.length ≤ 1152921504606846976) (hok : ∀ r ∈ l, r.2.length ≤ 1152921504606846976) :
  ∃ (s : Sl) (l' : List (Sl × List Int)), v = .slice s.a s.n s.c ∧ RowsIn w.heap.size w s l' ∧ l'.length = l.length ∧ ∀ i, i < l.length → (l'.getD i default).2 = (l.getD i default).2 := by
 unfold rowsTV at h
 rw [Rep] at h
 obtain ⟨a, c, h1, h2, h3⟩ := h
 rw [List.length_map] at h1
 rcases h3 with h3 | ⟨b, off, h4, h5⟩
 ·have : l = [] := List.map_eq_nil_iff.1 h3
  subst this
  exact ⟨⟨a, 0, c⟩, [], h1, ⟨rfl, by simp, by simp, Or.inl rfl⟩, rfl, fun i hi => by simp at hi⟩
 ·obtain ⟨E, hE⟩ := choose_lt (α := Sl × List Int) (n := l.length) (p := fun i r => r.2 = (l.getD i default).2 ∧ w.cell? ⟨b, off + i, none⟩ = some r.1.v ∧ IntsIn .i64 w.heap.size w r.1 r.2) (fun i hi => by
   obtain ⟨_, g2⟩ := h5.get (uY (f := intRow) hi default)
   obtain ⟨u, g3, g4⟩ := g2.get (o := 0) rfl
   obtain ⟨s, rfl, hs⟩ := fF hm (q := .i64) g4 (by
    apply hok
    rw [List.getD_eq_getElem?_getD, List.getElem?_eq_getElem hi]
    exact List.getElem_mem hi)
   rw [Nat.mul_one, Nat.add_zero] at g3
   exact ⟨(s, (l.getD i default).2), rfl, hm _ _ _ g3, hs⟩)
  have hL : ((List.range l.length).map E).length = l.length := by simp
  have hg : ∀ i, i < l.length → ((List.range l.length).map E).getD i default = E i := fun i hi => by
   rw [List.getD_eq_getElem?_getD, List.getElem?_eq_getElem (by omega)]
   simp
  refine ⟨⟨a, l.length, c⟩, (List.range l.length).map E, h1, ⟨hL.symm, by omega, fun r hr => ?_, ?_⟩, hL, fun i hi => by rw [hg i hi]; exact (hE i hi).1⟩
  ·obtain ⟨i, hi, rfl⟩ := List.mem_map.1 hr
   exact (hE i (List.mem_range.1 hi)).2.2
  ·by_cases hz : l.length = 0
   ·left; rw [hz]; rfl
   ·right
    have c0 := (hE 0 (by omega)).2.1
    exact ⟨b, off, h4, (cE c0).2, fun k hk => by rw [hg k (by omega)]; exact (hE k (by omega)).2.1⟩
end
def Sl.core (s : Sl) : Sl := ⟨none, s.n, 0⟩
def Ev.core (e : Ev) : Ev := { e with av := e.av.core, dv := e.dv.core, cv := e.cv.core }
theorem yO (es : List Ev) (i : Nat) : (es.map Ev.core).getD i default = (es.getD i default).core := by
 rw [List.getD_eq_getElem?_getD, List.getD_eq_getElem?_getD, List.getElem?_map]
 cases es[i]? <;> rfl
def Ex.core (x : Ex) : Ex := ⟨default, default, default, x.evs.map Ev.core, x.from_, x.order.map fun r => (default, r.2)⟩
theorem addrs_core (es : List Ev) : addrsTo (es.map Ev.core) = addrsTo es := by
 unfold addrsTo
 rw [List.foldl_map]
 rfl
theorem hangs_core (es : List Ev) (n : Nat) (l : List Int) : hangsB (es.map Ev.core) n l = hangsB es n l := by
 unfold hangsB hangsTo
 congr 1
 funext i
 unfold depOk
 simp only [yO]
 rfl
theorem evOk_core (es : List Ev) (ad : List Int) : evOk (es.map Ev.core) ad = evOk es ad := by
 funext n
 unfold evOk evPre
 simp only [yO, hangs_core]
 rfl
theorem evsTo_core (es : List Ev) (ad : List Int) (k : Nat) : evsTo (es.map Ev.core) ad k = evsTo es ad k := by
 unfold evsTo
 rw [evOk_core]
theorem fromOk_core (es : List Ev) (fs : List Int) : fromOk (es.map Ev.core) fs = fromOk es fs := by
 funext n
 unfold fromOk srcOk
 simp only [yO, List.length_map]
 rfl
theorem fromB_core (es : List Ev) (fs : List Int) : fromB (es.map Ev.core) fs = fromB es fs := by
 unfold fromB fromTo
 rw [fromOk_core, List.length_map]
theorem want_core (es : List Ev) (a : Int) (k : Nat) : wantTo (es.map Ev.core) a k = wantTo es a k := by
 unfold wantTo
 simp only [yO]
 rfl
theorem order_core (es : List Ev) (ad : List Int) (rows : List (Sl × List Int)) : orderB (es.map Ev.core) ad (rows.map fun r => (default, r.2)) = orderB es ad rows := by
 unfold orderB rowsTo
 rw [List.length_map]
 congr 2
 funext i
 unfold rowOk
 rw [want_core, List.length_map]
 have : ((rows.map fun r => ((default : Sl), r.2)).getD i default).2 = (rows.getD i default).2 := by
  rw [List.getD_eq_getElem?_getD, List.getD_eq_getElem?_getD, List.getElem?_map]
  cases rows[i]? <;> rfl
 rw [this]
theorem iX (x : Ex) : checkI x.core = checkI x := by
 unfold checkI Ex.core
 dsimp only
 rw [addrs_core, List.length_map, evsTo_core, fromB_core, order_core]
theorem like_core {e e' : Ev} (h : e.like e') (hc : e.av.n = e.addrs.length ∧ e.dv.n = e.datas.length ∧ e.cv.n = e.ctrls.length) : e'.core = e.core := by
 obtain ⟨a, d, c, rfl, h1, h2, h3⟩ := h
 unfold Ev.core Sl.core
 dsimp only
 rw [h1, h2, h3, hc.1, hc.2.1, hc.2.2]
theorem cN {α : Type} (d : α) {l l' : List α} (hl : l.length = l'.length) (h : ∀ i, i < l.length → l.getD i d = l'.getD i d) : l = l' := by
 apply List.ext_getElem hl
 intro i h1 h2
 have := h i h1
 rw [List.getD_eq_getElem?_getD, List.getD_eq_getElem?_getD, List.getElem?_eq_getElem h1, List.getElem?_eq_getElem h2] at this
 exact this
theorem Ev.ok.bare {e : Ev} (h : e.ok) : e.bareB = e.rbareB := by
 obtain ⟨_, _, _, _, h1, h2, h3⟩ := h
 unfold Ev.bareB Ev.rbareB Ev.stB Ev.ldB
 rw [h1, h2, h3]
 obtain ⟨hart, kind, addr, val, rval, aq, rl, pred, succ, rsv, av, dv, cv, l1, l2, l3⟩ := e
 dsimp only
 generalize l1.length = a
 generalize l2.length = d
 generalize l3.length = c
 rw [Bool.eq_iff_iff]
 by_cases k5 : kind = 5
 ·subst k5; cases aq <;> cases rl <;> cases rsv <;> simp <;> omega
 by_cases k4 : kind = 4
 ·subst k4; cases aq <;> cases rl <;> cases rsv <;> simp <;> omega
 by_cases k3 : kind = 3
 ·subst k3; cases aq <;> cases rl <;> cases rsv <;> simp <;> omega
 by_cases k2 : kind = 2
 ·subst k2; cases aq <;> cases rl <;> cases rsv <;> simp <;> omega
 by_cases k1 : kind = 1
 ·subst k1; cases aq <;> cases rl <;> cases rsv <;> simp <;> omega
 rw [if_neg k5, if_neg k1, if_neg k2, if_neg k3, if_neg k4]
 have : kind < 1 ∨ 5 < kind := by omega
 rcases this with h | h <;> simp [h]
theorem ex_back {M : Mem} {w : World} (hm : ∀ b o v, M b o = some v → w.cell? ⟨b, o, none⟩ = some v) {G : Gh} (hG : G.M = M) {x : Ex} {v : Value} (h : RepO G (exOV x) v) (hx : x.ok) :
  ∃ x' : Ex, v = x'.agg ∧ x'.inW w.heap.size w ∧ x'.core = x.core := by
 obtain ⟨h1, h2, h3, h4, h5⟩ := hx
 unfold exOV at h
 rw [RepO] at h
 obtain ⟨vs, hv, h⟩ := h
 rw [RepOL] at h
 obtain ⟨v0, us, e0, r0, h⟩ := h
 rw [RepOL] at h
 obtain ⟨v1, us1, e1, r1, h⟩ := h
 rw [RepOL] at h
 obtain ⟨v2, us2, e2, r2, h⟩ := h
 rw [RepOL] at h
 rw [RepO, hG] at r0 r1 r2
 obtain ⟨s0, es', rfl, g1, g2, g3⟩ := evs_back hm r0 h1 h2
 obtain ⟨s1, rfl, g4⟩ := fF hm (q := .i64) r1 h3
 obtain ⟨s2, l', rfl, g5, g6, g7⟩ := rows_back hm r2 h4 h5
 refine ⟨⟨s0, s1, s2, es', x.from_, l'⟩, ?_, ⟨g1, g4, g5⟩, ?_⟩
 ·rw [hv]; unfold Ex.agg
  congr 1
  apply Array.ext'
  rw [e0, e1, e2, h]
 ·unfold Ex.core
  dsimp only
  congr 1
  ·apply cN default (by simpa using g2)
   intro i hi
   rw [List.length_map] at hi
   rw [yO, yO]
   refine like_core (g3 i (by omega)) ?_
   have := h2 (x.evs.getD i default) (by
    rw [List.getD_eq_getElem?_getD, List.getElem?_eq_getElem (by omega)]
    exact List.getElem_mem _)
   exact this.2.2.2.2
  ·apply cN default (by simpa using g6)
   intro i hi
   rw [List.length_map] at hi
   have e : ∀ rows : List (Sl × List Int), (rows.map fun r => ((default : Sl), r.2)).getD i default = (default, (rows.getD i default).2) := fun rows => by
    rw [List.getD_eq_getElem?_getD, List.getD_eq_getElem?_getD, List.getElem?_map]
    cases rows[i]? <;> rfl
   rw [e, e, g7 i (by omega)]
theorem pQ {P : Program} {f : FuncId} {args : List OV} {l : Value} (hE : Enters P f) (hl : l.oneCell' = true)
  (h : ∀ (G : Gh) (w : World) (vs : List Value), RepOL G args vs → (∀ b o v, G.M b o = some v → w.cell? ⟨b, o, none⟩ = some v) → Calls P f vs.toArray w fun e w' => e = .returned l ∧ Below w.heap.size w w') : Pure P f args (.d (.c l)) :=
 ⟨hE, fun G w vs N hr hw => (h G w vs hr hw.mem).mono fun e w' ⟨h1, h2⟩ => ⟨l, G, .d (.c l), Store.nil, h1, rfl, Gh.le.refl G, by rw [RepO]; exact iB hl, hw.below h2⟩⟩
theorem yI (x : Ex) (hx : x.ok) (hrows : ∀ r ∈ x.order, r.2.length ≤ 65536) : Pure E.P 35 [exOV x] (.int .i64 (checkI x)) := by
 refine pQ ⟨_, Tryz.func35, by decide, rfl⟩ rfl fun G w vs hr hm => ?_
 rw [RepOL] at hr
 obtain ⟨v, us, rfl, r0, hr⟩ := hr
 rw [RepOL] at hr
 subst hr
 obtain ⟨x', rfl, h1, h2⟩ := ex_back hm rfl r0 hx
 have := check_c x' w h1 (fun r hr => ?_)
 ·rw [← iX x', h2, iX] at this
  exact this
 ·have e : (default, r.2) ∈ x'.core.order := List.mem_map.2 ⟨r, hr, rfl⟩
  rw [h2] at e
  obtain ⟨r', hr', e'⟩ := List.mem_map.1 e
  have := hrows r' hr'
  rw [Prod.mk.injEq] at e'
  rw [← e'.2]; exact this
def pairTV (p : Int × Int) : List TV := [.c (.int .i64 p.1), .c (.int .i64 p.2)]
def pairsTV (l : List (Int × Int)) : TV := .sl 2 (l.map pairTV)
def exRow (x : Ex) : List TV := [evsTV x.evs, ints x.from_, rowsTV x.order]
theorem kD {l pre r : List (Int × Int)} {p : Int × Int} (h : l = pre ++ [p] ++ r) : pre.length < l.length ∧ (pairYs l).getD pre.length [] = [.ag (pairO' p)] := by
 have hlt : pre.length < l.length := by rw [h]; simp
 refine ⟨hlt, ?_⟩
 rw [cT l hlt, h]
 simp [List.getD]
def Ex.fit (x : Ex) : Prop := x.ok ∧ ∀ r ∈ x.order, r.2.length ≤ 65536
theorem gY {P : Program} {Y : YJ} {k m : Nat} {τ : Stamp} {st : Bool} {J : Nat → Rows → Prop} {L : List (Int × Int)} (h1 : st = false → m = L.length)
  (hy : ∀ i l0, i < m → J i l0 → YieldW P Y k τ i (i + 1) ((pairYs L).getD i []) l0 (J (i + 1)) (!(st && i + 1 == m))) {pre r : List (Int × Int)} {p : Int × Int} {l : Rows} (hL : L = pre ++ [p] ++ r) (hst : st = true → pre.length < m) (hJ : J pre.length l) :
  pre.length < m ∧ YieldW P Y k τ pre.length (pre.length + 1) [.ag (pairO' p)] l (J (pre.length + 1)) (!(st && pre.length + 1 == m)) := by
 obtain ⟨e1, e2⟩ := kD hL
 have hlm : pre.length < m := by
  cases st with
  | true => exact hst rfl
  | false => rw [h1 rfl]; exact e1
 have := hy _ l hlm hJ
 rw [e2] at this
 exact ⟨hlm, this⟩
theorem lG {st : Bool} {m i : Nat} (h1 : i < m) (h2 : (!(st && i + 1 == m)) = true) (h3 : st = true) : i + 1 < m := by
 subst h3
 simp at h2; omega
theorem dO {st : Bool} {m i : Nat} (h : (!(st && i + 1 == m)) = false) : i + 1 = m := by
 simp at h; exact h.2
theorem xW (l : List (Int × Int)) : FzR (l.map pairO') (l.map pairTV) := by
 induction l with
 | nil => exact FzR.nil
 | cons p l ih => exact FzR.cons (FzC.cons (FzC.cons FzC.nil)) ih
theorem qV {k s : Nat} {τ : Stamp} {rows : List (List TV)} {l : Rows} (hbig : ∀ e ∈ l, 1000 ≤ e.1) (hk : k < 1000) {σ : Store} (h : ∀ j, j ≠ k → σ j = stL l j) : FrozS k τ s rows σ (stL l) := fun j τ' r' hj => by
 have hne : j ≠ k := fun e => by
  subst e
  obtain ⟨e, he, h2⟩ := List.mem_map.1 (gI hj)
  have := hbig e he
  omega
 exact ⟨hne, r', by rw [h j hne]; exact hj, rfl, rfl, fun i row' hi => ⟨row', hi, rfl, fun o y' ho => ⟨y', ho, .same _⟩⟩⟩
theorem le_app {l : Rows} (hbig : ∀ e ∈ l, 1000 ≤ e.1) {σ : Store} {δ : Diff} (hd : (δ.all fun e => Nat.blt e.1 1000) = true) (h : (stL l).le σ) : (stL l).le (σ.apply δ) := fun k x hx => by
 rw [vX (fun hk => ?_)]
 ·exact h k x hx
 ·obtain ⟨e, he, h2⟩ := List.mem_map.1 (gI hx)
  have h3 := hbig e he
  have : ∀ δ : Diff, k ∈ wkeys δ → ∃ y, (k, y) ∈ δ := fun δ => by
   induction δ with
   | nil => intro h; cases h
   | cons a δ ih =>
    obtain ⟨a, y⟩ := a
    intro h
    simp only [wkeys, List.mem_cons] at h
    rcases h with rfl | h
    ·exact ⟨y, by simp⟩
    ·obtain ⟨y', h'⟩ := ih h; exact ⟨y', by simp [h']⟩
  obtain ⟨y, hy⟩ := this δ hk
  have := List.all_eq_true.1 hd _ hy
  simp at this
  omega
set_option maxRecDepth 100000
section
variable {v j : Nat} {ops : Array Oper} {K : Tm → Store → Prop} {KD : List Foot → Tm → Store → Prop} {acc : List Foot} {rest : List Oper} {tm : Tm} {σ : Store} {dst : Option Tmp} {ty : TypeId} {pos : String} {af : Array Edge} {gd : Option (Nat × Bool)}
end
theorem uV {x : Ex} (h : checkI x = 0) : x.evs.length ≤ 64 ∧ evsTo x.evs (addrsTo x.evs) x.evs.length = true ∧ fromB x.evs x.from_ = true ∧ orderB x.evs (addrsTo x.evs) x.order = true := by
 unfold checkI at h
 by_cases h1 : 64 < x.evs.length
 ·rw [if_pos h1] at h; omega
 rw [if_neg h1] at h
 cases h2 : evsTo x.evs (addrsTo x.evs) x.evs.length with
 | false => rw [h2] at h; simp at h
 | true =>
 cases h3 : fromB x.evs x.from_ with
 | false => rw [h2, h3] at h; simp at h
 | true =>
 cases h4 : orderB x.evs (addrsTo x.evs) x.order with
 | false => rw [h2, h3, h4] at h; simp at h
 | true => exact ⟨by omega, rfl, rfl, rfl⟩
theorem xO {es : List Ev} {fs : List Int} (h : fromB es fs = true) : fs.length = es.length := by
 unfold fromB at h
 simp only [Bool.and_eq_true, decide_eq_true_eq] at h
 exact h.1
theorem gM {es : List Ev} {fs : List Int} (h : fromB es fs = true) {k : Nat} (hk : k < fs.length) : fromOk es fs k = true := by
 unfold fromB fromTo at h
 simp only [Bool.and_eq_true, List.all_eq_true, List.mem_range] at h
 exact h.2 k hk
theorem pX {es : List Ev} {fs : List Int} (h : fromB es fs = true) (k : Nat) : fs.getD k 0 < (es.length : Int) + 1 := by
 by_cases hk : k < fs.length
 ·have := gM h hk
  unfold fromOk at this
  simp only [Bool.or_eq_true, Bool.and_eq_true, Bool.not_eq_true', beq_iff_eq, decide_eq_false_iff_not] at this
  omega
 ·rw [List.getD_eq_getElem?_getD, List.getElem?_eq_none (by omega)]
  simp only [Option.getD_none]
  omega
theorem yR {a : Int} (h : 0 ≤ a) : ∃ n : Nat, a = n := ⟨a.toNat, (Int.toNat_of_nonneg h).symm⟩
def refPairs (n : Nat) (f : Nat → Nat → Bool) : List (Int × Int) := (List.range n).flatMap fun a => ((List.range n).filter (f a)).map fun (b : Nat) => (((a : Nat) : Int), ((b : Nat) : Int))
theorem uP {n : Nat} {f : Nat → Nat → Bool} {p : Int × Int} : p ∈ refPairs n f ↔ ∃ a b : Nat, a < n ∧ b < n ∧ f a b = true ∧ p = ((a : Int), (b : Int)) := by
 unfold refPairs
 constructor
 ·intro h
  obtain ⟨a, h1, h2⟩ := List.mem_flatMap.1 h
  obtain ⟨b, h3, rfl⟩ := List.mem_map.1 h2
  obtain ⟨h4, h5⟩ := List.mem_filter.1 h3
  exact ⟨a, b, List.mem_range.1 h1, List.mem_range.1 h4, h5, rfl⟩
 ·rintro ⟨a, b, h1, h2, h3, rfl⟩
  exact List.mem_flatMap.2 ⟨a, List.mem_range.2 h1, List.mem_map.2 ⟨b, List.mem_filter.2 ⟨List.mem_range.2 h2, h3⟩, rfl⟩⟩
theorem yG {x y : Int × Int} : ltZ x y = true ↔ x.1 < y.1 ∨ (x.1 = y.1 ∧ x.2 < y.2) := by simp [ltZ]
theorem aW (n : Nat) (f : Nat → Nat → Bool) : (refPairs n f).Pairwise fun x y => ltZ x y = true := by
 unfold refPairs
 rw [List.pairwise_flatMap]
 refine ⟨fun a _ => ?_, ?_⟩
 ·refine List.Pairwise.map _ (R := (· < ·)) (fun b c h => ?_) (List.Pairwise.filter _ List.pairwise_lt_range)
  rw [yG]; right; exact ⟨rfl, by dsimp only; omega⟩
 ·refine List.Pairwise.imp (fun {a b} h => ?_) List.pairwise_lt_range
  intro x hx y hy
  obtain ⟨c, _, rfl⟩ := List.mem_map.1 hx
  obtain ⟨d, _, rfl⟩ := List.mem_map.1 hy
  rw [yG]; left; dsimp only; omega
theorem aS {L : List (Int × Int)} {n : Nat} {f : Nat → Nat → Bool} (hnd : L.Nodup) (hm : ∀ p, p ∈ L ↔ p ∈ refPairs n f) : sortZ L = refPairs n f := by
 have hlt := aW n f
 have hnd2 : (refPairs n f).Nodup := hlt.imp fun {x y} h e => by subst e; rw [yG] at h; omega
 refine List.Perm.eq_of_pairwise (le := fun x y => (!ltZ y x) = true) (fun x y _ _ h1 h2 => ?_) (List.pairwise_mergeSort (fun a b c h1 h2 => ?_) (fun a b => ?_) L) (hlt.imp fun {x y} h => ?_) ((List.mergeSort_perm L _).trans ((List.perm_ext_iff_of_nodup hnd hnd2).2 hm))
 ·simp only [Bool.not_eq_true', Bool.eq_false_iff, ne_eq, yG] at h1 h2
  exact Prod.ext (by omega) (by omega)
 ·simp only [Bool.not_eq_true', Bool.eq_false_iff, ne_eq, yG] at *
  omega
 ·simp only [Bool.or_eq_true, Bool.not_eq_true', Bool.eq_false_iff, ne_eq, yG]
  omega
 ·simp only [Bool.not_eq_true', Bool.eq_false_iff, ne_eq, yG] at *
  omega
def isPo (x : Ex) (a b : Nat) : Bool := decide (a < b) && decide (0 ≤ (x.evs.getD a default).hart) && decide ((x.evs.getD a default).hart = (x.evs.getD b default).hart)
def poRow (x : Ex) (a b : Nat) : List (Int × Int) := ((List.range b).filter (isPo x a)).map fun (b : Nat) => (((a : Nat) : Int), ((b : Nat) : Int))
def poTo (x : Ex) (a : Nat) : List (Int × Int) := (List.range a).flatMap fun a => poRow x a x.evs.length
def poAt (x : Ex) (a b : Nat) : List (Int × Int) := poTo x a ++ poRow x a b
def poZ (x : Ex) : List (Int × Int) := poTo x x.evs.length
theorem gJ (x : Ex) : poZ x = refPairs x.evs.length (isPo x) := rfl
theorem po_sorted (x : Ex) : sortZ (poZ x) = refPairs x.evs.length (isPo x) := by
 have hlt := aW x.evs.length (isPo x)
 exact aS (by rw [gJ]; exact hlt.imp fun {x y} h e => by subst e; rw [yG] at h; omega) fun p => by rw [gJ]
theorem bV (x : Ex) (a : Nat) : poTo x (a + 1) = poTo x a ++ poRow x a x.evs.length := by
 simp [poTo, List.range_succ, List.flatMap_append]
theorem jX (x : Ex) (a : Nat) : poAt x a (a + 1) = poTo x a := by
 unfold poAt poRow
 rw [List.filter_eq_nil_iff.2, List.map_nil, List.append_nil]
 intro b hb
 have := List.mem_range.1 hb
 unfold isPo
 rw [show decide (a < b) = false by simp; omega]
 simp
theorem jW {x : Ex} {a b : Nat} (h : isPo x a b = true) : poRow x a (b + 1) = poRow x a b ++ [((a : Int), (b : Int))] := by
 unfold poRow
 rw [List.range_succ, List.filter_append, List.filter_cons, if_pos h, List.filter_nil, List.map_append]; rfl
theorem mS {x : Ex} {a b : Nat} (h : ¬ isPo x a b = true) : poRow x a (b + 1) = poRow x a b := by
 unfold poRow
 rw [List.range_succ, List.filter_append, List.filter_cons, if_neg h, List.filter_nil, List.append_nil]
theorem mT {x : Ex} {a b : Nat} (h : isPo x a b = true) : poAt x a (b + 1) = poAt x a b ++ [((a : Int), (b : Int))] := by
 unfold poAt; rw [jW h, List.append_assoc]
theorem poAt_no {x : Ex} {a b : Nat} (h : ¬ isPo x a b = true) : poAt x a (b + 1) = poAt x a b := by
 unfold poAt; rw [mS h]
theorem poAt_end (x : Ex) (a : Nat) : poAt x a x.evs.length = poTo x (a + 1) := by rw [bV]; rfl
theorem poRow_pre (x : Ex) (a : Nat) : ∀ {b c : Nat}, b ≤ c → ∃ r, poRow x a c = poRow x a b ++ r := fun {b c} h => by
  induction c with
  | zero => have : b = 0 := by omega
            subst this; exact ⟨[], by simp⟩
  | succ c ih =>
    by_cases e : b = c + 1
    · subst e; exact ⟨[], by simp⟩
    · obtain ⟨r, hr⟩ := ih (by omega)
      by_cases hc : isPo x a c = true
      · exact ⟨_, by rw [jW hc, hr, List.append_assoc]⟩
      · exact ⟨r, by rw [mS hc, hr]⟩
theorem poTo_pre (x : Ex) : ∀ {a c : Nat}, a ≤ c → ∃ r, poTo x c = poTo x a ++ r := fun {a c} h => by
  induction c with
  | zero => have : a = 0 := by omega
            subst this; exact ⟨[], by simp⟩
  | succ c ih =>
    by_cases e : a = c + 1
    · subst e; exact ⟨[], by simp⟩
    · obtain ⟨r, hr⟩ := ih (by omega)
      exact ⟨_, by rw [bV, hr, List.append_assoc]⟩
theorem poAt_in {x : Ex} {a b : Nat} (ha : a < x.evs.length) (hb : b < x.evs.length) (h : isPo x a b = true) : ∃ q, poZ x = poAt x a b ++ [((a : Int), (b : Int))] ++ q := by
 obtain ⟨q1, h1⟩ := poTo_pre x (show a + 1 ≤ x.evs.length from ha)
 obtain ⟨q2, h2⟩ := poRow_pre x a (show b + 1 ≤ x.evs.length from hb)
 rw [← mT h]
 unfold poZ poAt
 rw [h1, bV, h2]
 exact ⟨q2 ++ q1, by simp only [List.append_assoc]⟩
theorem poZ_small {x : Ex} (h : x.evs.length ≤ 65536) : smallP (poZ x) := fun p hp => by
 rw [gJ] at hp
 obtain ⟨a, b, h1, h2, _, rfl⟩ := uP.1 hp
 dsimp only
 omega
theorem iC (x : Ex) : ∀ a, (poTo x a).length ≤ a * x.evs.length
 | 0 => by simp [poTo]
 | a + 1 => by
  rw [bV, List.length_append, Nat.succ_mul]
  have h1 := iC x a
  have h2 : (poRow x a x.evs.length).length ≤ x.evs.length := by
   unfold poRow
   rw [List.length_map]
   exact Nat.le_trans (List.length_filter_le _ _) (by simp)
  omega
set_option maxHeartbeats 4000000
set_option maxRecDepth 100000
def eqTo {α : Type} [Inhabited α] (f : α → α → Bool) (a b : List α) (k : Nat) : Bool := (List.range k).all fun i => f (a.getD i default) (b.getD i default)
def eqL {α : Type} [Inhabited α] (f : α → α → Bool) (a b : List α) : Bool := decide (a.length = b.length) && eqTo f a b a.length
def intB (a b : Int) : Bool := decide (a = b)
def eqI (a b : List Int) : Bool := eqL intB a b
def pairB (a b : Int × Int) : Bool := a.1 == b.1 && a.2 == b.2
def eqP (a b : List (Int × Int)) : Bool := eqL pairB a b
def prRow (f : Nat → Nat → Bool) (a b : Nat) : List (Int × Int) := ((List.range b).filter (f a)).map fun (b : Nat) => (((a : Nat) : Int), ((b : Nat) : Int))
def prTo (n : Nat) (f : Nat → Nat → Bool) (a : Nat) : List (Int × Int) := (List.range a).flatMap fun a => prRow f a n
theorem prTo_succ (n : Nat) (f : Nat → Nat → Bool) (a : Nat) : prTo n f (a + 1) = prTo n f a ++ prRow f a n := by simp [prTo, List.range_succ, List.flatMap_append]
theorem prRow_len (f : Nat → Nat → Bool) (a b : Nat) : (prRow f a b).length ≤ b := by
 unfold prRow
 rw [List.length_map]
 exact Nat.le_trans (List.length_filter_le _ _) (by simp)
theorem wW (n : Nat) (f : Nat → Nat → Bool) : ∀ a, (prTo n f a).length ≤ a * n
 | 0 => by simp [prTo]
 | a + 1 => by
  rw [prTo_succ, List.length_append, Nat.succ_mul]
  have h1 := wW n f a
  have h2 := prRow_len f a n
  omega
open Go.RowKit Go.Shelf Go.Maps Go.Sort
def mkP (a b : Nat) : P2 := (⟨a % 65536, by omega⟩, ⟨b % 65536, by omega⟩)
def rfTo (zs : List Int) (k : Nat) : List P2 := (List.range k).filterMap (fun b => if 0 ≤ zs.getD b 0 then some (mkP (zs.getD b 0).toNat b) else none)
def rfL (zs : List Int) : List P2 := rfTo zs zs.length
open Go.RowKit Go.Shelf Go.Maps Go.Sort
def rfAns (x : Ex) : List P2 := if checkI x = 0 then sortP (rfL x.from_) else []
set_option maxRecDepth 100000
def rfZ (zs : List Int) (k : Nat) : List (Int × Int) := (List.range k).filterMap fun b => if 0 ≤ zs.getD b 0 then some (zs.getD b 0, (b : Int)) else none
theorem bU {zs : List Int} {k : Nat} (h : 0 ≤ zs.getD k 0) : rfZ zs (k + 1) = rfZ zs k ++ [(zs.getD k 0, (k : Int))] := by
 unfold rfZ
 rw [List.range_succ, List.filterMap_append]
 simp only [List.filterMap_cons, List.filterMap_nil, if_pos h]
theorem iA {zs : List Int} {k : Nat} (h : ¬ 0 ≤ zs.getD k 0) : rfZ zs (k + 1) = rfZ zs k := by
 unfold rfZ
 rw [List.range_succ, List.filterMap_append]
 simp only [List.filterMap_cons, List.filterMap_nil, if_neg h, List.append_nil]
theorem rfZ_pre (zs : List Int) : ∀ {a b : Nat}, a ≤ b → ∃ r, rfZ zs b = rfZ zs a ++ r := fun {a b} h => by
  induction b with
  | zero => have : a = 0 := by omega
            subst this; exact ⟨[], by simp⟩
  | succ b ih =>
    by_cases e : a = b + 1
    · subst e; exact ⟨[], by simp⟩
    · obtain ⟨r, hr⟩ := ih (by omega)
      by_cases hz : 0 ≤ zs.getD b 0
      · exact ⟨r ++ [(zs.getD b 0, (b : Int))], by rw [bU hz, hr, List.append_assoc]⟩
      · exact ⟨r, by rw [iA hz, hr]⟩
set_option maxHeartbeats 4000000 in
theorem rf1_s (x : Ex) (hx : x.from_.length ≤ 65536) : SeqW E.P 83 [] [.d (.pt (exRow x) 0)] (pairYs (rfZ x.from_ x.from_.length)) := by
 intro Y k τ J m st hm h1 h2 hnd hbig hy l0 hl0
 have hlen : (pairYs (rfZ x.from_ x.from_.length)).length = (rfZ x.from_ x.from_.length).length := by simp [pairYs]
 rw [hlen] at hm h1
 refine xT Tryz.func83 (by decide) rfl Tryz.ntmps83 (Nat.le_of_ble_eq_true rfl) rfl ?_
 refine uB (aoR fun _ => ?_)
 refine q32 ?_; refine q23 ?_; refine q13 ?_; refine q11 (uD (uC (uW ?_))); rotate_left
 refine vJ (X := Nat × Rows) (fun p => tmL [(0, .yl k τ), (6, .d (ints x.from_)), (7, .int .i64 x.from_.length), (8, .int .i64 p.1), (GS, .gh (rfZ x.from_ p.1).length Y)]) (fun p => stL p.2)
  (fun p => p.1 ≤ x.from_.length ∧ J (rfZ x.from_ p.1).length p.2 ∧ (st = true → (rfZ x.from_ p.1).length < m)) (fun p => x.from_.length - p.1) (0, l0) ⟨Nat.zero_le _, hl0, h2⟩ leP (fun _ _ h => h) ?_
 rintro ⟨b, l⟩ ⟨hb, hJ, hst⟩
 dsimp only at hb hJ hst ⊢
 have hnext : b < x.from_.length → 0 ≤ x.from_.getD b 0 → (rfZ x.from_ b).length < m ∧ YieldW E.P Y k τ (rfZ x.from_ b).length ((rfZ x.from_ b).length + 1) [.ag (pairO' (x.from_.getD b 0, (b : Int)))] l (J ((rfZ x.from_ b).length + 1)) (!(st && (rfZ x.from_ b).length + 1 == m)) := fun hlt hz => by
  obtain ⟨r, hr⟩ := rfZ_pre x.from_ (show b + 1 ≤ x.from_.length from hlt)
  rw [bU hz] at hr
  obtain ⟨e1, e2⟩ := kD hr
  have hlm : (rfZ x.from_ b).length < m := by
   cases st with
   | true => exact hst rfl
   | false => rw [h1 rfl]; exact e1
  have := hy _ l hlm hJ
  rw [e2] at this
  exact ⟨hlm, this⟩
 have hgo : ∀ {i : Nat}, i < m → (!(st && i + 1 == m)) = true → st = true → i + 1 < m := fun {i} h1 h2 h3 => by
  subst h3
  simp at h2; omega
 have hsto : ∀ {i : Nat}, (!(st && i + 1 == m)) = false → i + 1 = m := fun {i} h => by
  simp at h; exact h.2
 by_cases hlt : b < x.from_.length
 rotate_left
 ·have hbe : b = x.from_.length := by omega
  subst hbe
  have hme : (rfZ x.from_ x.from_.length).length = m := by
   cases st with
   | true => have := hst rfl; omega
   | false => exact (h1 rfl).symm
  rw [hme] at hJ ⊢
  refine uB (aoR fun _ => ?_)
  refine q37 (uD (uC (uB ?_))); refine cnd ?_ ?_
  refine uN fun _ => ?_; try omega
  refine uR fun _ => ?_; try omega
  refine vU ?_
  iterate 2 refine wF ?_
  refine xR ?_; rotate_left
  exact ⟨Or.inl rfl, rfl, l, hJ, fun _ _ h => h⟩
 by_cases hz : 0 ≤ x.from_.getD b 0
 ·obtain ⟨hlm, hY⟩ := hnext hlt hz
  have hz' : 0 ≤ x.from_.getD (b : Int).toNat 0 := by rw [Int.toNat_natCast]; exact hz
  rcases Bool.eq_false_or_eq_true (!(st && (rfZ x.from_ b).length + 1 == m)) with hans | hans
  ·rw [hans] at hY
   refine uB (aoR fun _ => ?_)
   refine q37 (uD (uC (uB ?_))); refine cnd ?_ ?_
   refine uN fun _ => ?_; try omega
   refine uX (uC (uB (uW (uB (aoR fun _ => ?_)))))
   refine q11 ?_; refine q17 ?_; refine q23 ?_
   iterate 2 refine q12 ?_
   refine uD (uC (uB (aoR fun _ => ?_)))
   refine q11 ?_
   apply oC; exact rfl; exact rfl
   refine q11 ?_
   apply uE; exact rfl; exact rfl
   refine uN fun _ => ?_; try omega
   refine q11 ?_
   apply uE; exact rfl; exact rfl
   refine uI ?_; refine q11 ?_
   apply uE; exact rfl; exact rfl
   refine uI ?_; refine q11 ?_
   apply uE; exact rfl; exact rfl
   refine uI ?_; refine q54 ?_
   apply uE; exact rfl; exact rfl
   refine uI ?_
   apply zK; exact rfl; exact rfl; exact rfl; exact hY; exact (fun _ _ h => h); exact hnd _; (intro l1 hl1)
   apply uE; exact rfl; exact rfl
   refine uI ?_
   apply bI; exact rfl
   refine q4 (uD (uC ?_)); refine cnd ?_ ?_; refine yU ?_; refine uI ?_; refine aM ?_
   exact vV
   refine xZ (fun hc_ => ?_); (try simp only [nrm] at hc_)
   refine uX ?_; refine xH ?_; refine uC (aoR fun _ => ?_)
   refine q36 ?_; refine q11 (uD (uC ?_)); rotate_left
   iterate 5 exact vV
   iterate 2 refine uR fun _ => ?_; try omega
   refine vQ (b + 1, l1) ⟨by dsimp only; omega, ?_, ?_⟩ (by dsimp only; omega) ?_ (zQ (hnd _ _ hl1))
   ·dsimp only; rw [bU hz, List.length_append]; exact hl1
   ·dsimp only; rw [bU hz, List.length_append]; exact hgo hlm hans
   ·dsimp only
    rw [bU hz, List.length_append]
    exact leP
  ·rw [hans] at hY
   rw [hsto hans] at hY
   refine uB (aoR fun _ => ?_)
   refine q37 (uD (uC (uB ?_))); refine cnd ?_ ?_
   refine uN fun _ => ?_; try omega
   refine uX (uC (uB (uW (uB (aoR fun _ => ?_)))))
   refine q11 ?_; refine q17 ?_; refine q23 ?_
   iterate 2 refine q12 ?_
   refine uD (uC (uB (aoR fun _ => ?_)))
   refine q11 ?_
   apply oC; exact rfl; exact rfl
   refine q11 ?_
   apply uE; exact rfl; exact rfl
   refine uN fun _ => ?_; try omega
   refine q11 ?_
   apply uE; exact rfl; exact rfl
   refine uI ?_; refine q11 ?_
   apply uE; exact rfl; exact rfl
   refine uI ?_; refine q11 ?_
   apply uE; exact rfl; exact rfl
   refine uI ?_; refine q54 ?_
   apply uE; exact rfl; exact rfl
   refine uI ?_
   apply zK; exact rfl; exact rfl; exact rfl; exact hY; exact (fun _ _ h => h); exact hnd _; (intro l1 hl1)
   apply uE; exact rfl; exact rfl
   refine uI ?_
   apply bI; exact rfl
   refine q0 (uD (uC ?_)); refine cnd ?_ ?_
   refine yS (fun hc_ => ?_); (try simp only [nrm] at hc_)
   refine wE ?_; refine eQ ?_
   iterate 2 refine zN ?_
   refine eQ ?_; rotate_left
   refine yT ?_
   iterate 6 exact vV
   iterate 2 refine uR fun _ => ?_; try omega
   exact ⟨Or.inr rfl, rfl, l1, hl1, zQ (hnd _ _ hl1)⟩
 ·have hz' : ¬ 0 ≤ x.from_.getD (b : Int).toNat 0 := by rw [Int.toNat_natCast]; exact hz
  refine uB (aoR fun _ => ?_)
  refine q37 (uD (uC (uB ?_))); refine cnd ?_ ?_
  refine uN fun _ => ?_; try omega
  refine uX (uC (uB (uW (uB (aoR fun _ => ?_)))))
  refine q11 ?_; refine q17 ?_; refine q23 ?_
  iterate 2 refine q12 ?_
  refine uD (uC (uB (aoR fun _ => ?_)))
  refine q11 ?_
  apply oC; exact rfl; exact rfl
  refine q11 ?_
  apply uE; exact rfl; exact rfl
  refine uN fun _ => ?_; try omega
  refine uR fun _ => ?_; try omega
  apply uE; exact rfl; exact rfl
  exact uG
  refine uF ?_
  apply uE; exact rfl; exact rfl
  exact uG
  refine uF ?_
  apply uE; exact rfl; exact rfl
  exact uG
  refine uF ?_
  apply uE; exact rfl; exact rfl
  exact uG
  refine uF ?_
  apply uE; exact rfl; exact rfl
  exact uG
  refine uF ?_
  apply xP; exact rfl
  apply aA; exact rfl
  refine uD (uC ?_); refine cnd ?_ ?_
  exact uG
  refine uF ?_; refine uX ?_; refine xH ?_; refine uC (aoR fun _ => ?_)
  refine q36 ?_; refine q11 (uD (uC ?_)); rotate_left
  refine uR fun _ => ?_; try omega
  refine vQ (b + 1, l) ⟨by dsimp only; omega, ?_, ?_⟩ (by dsimp only; omega) ?_ (fun _ _ h => h)
  ·dsimp only; rw [iA hz]; exact hJ
  ·dsimp only; rw [iA hz]; exact hst
  ·dsimp only
   rw [iA hz]
   exact leP
def rfF (x : Ex) : List (Int × Int) := if checkI x = 0 then sortZ (rfZ x.from_ x.from_.length) else []
theorem lI (zs : List Int) (k : Nat) : (rfZ zs k).length ≤ k := by
 unfold rfZ
 refine Nat.le_trans (List.length_filterMap_le _ _) (by simp)
theorem jV {zs : List Int} {k : Nat} (hz : ∀ i, zs.getD i 0 < 65536) (hk : k ≤ 65536) : smallP (rfZ zs k) := fun p hp => by
 unfold rfZ at hp
 obtain ⟨b, hb, h⟩ := List.mem_filterMap.1 hp
 have hb := List.mem_range.1 hb
 split at h
 ·rename_i h0
  cases h
  have := hz b
  dsimp only
  omega
 ·cases h
set_option maxHeartbeats 4000000 in
theorem rf_s (x : Ex) (hx : x.fit) : Own E.P 55 [exOV x] 2 ((rfF x).map pairO') := by
 unfold rfF
 refine fnA Tryz.func55 Tryz.ntmps55 ?_
 refine uB (aoR fun _ => ?_)
 refine q40 ?_; refine q51 (uD ?_); rotate_left
 refine uC ?_
 rename_i v0
 refine wC 1 (v0, 0) 3 [exRow x] (tmL [(1, .d (.pt (exRow x) 0))]) (stL []) rfl (vD rfl (.lo 0 0 _ rfl) wU) (by repeat' (first | exact wU | exact xN | (refine vD rfl (vN ?_) ?_; (first | rfl | (simp; done))) | refine vD rfl (.same _) ?_ | refine vR (by decide) rfl (.same _) ?_)) ?_
 by_cases hc : checkI x = 0
 ·rw [if_pos hc]
  obtain ⟨h1, h2, h3, h4⟩ := uV hc
  have hfl := xO h3
  have hsm : smallP (rfZ x.from_ x.from_.length) := jV (fun i => by have := pX h3 i; omega) (by omega)
  have hln := lI x.from_ x.from_.length
  iterate 2 refine uB ?_
  refine aoR fun _ => ?_; refine q33 ?_
  apply uO; exact rfl; exact .fn _ _ _; exact rfl; exact yI _ hx.1 hx.2
  refine q44 (uD (uC ?_)); refine cnd ?_ ?_
  refine xG (fun _ => ?_); (try omega)
  refine xA (fun _ => ?_); (try omega)
  refine uX (uC (uB (aoR fun _ => ?_)))
  apply wY; exact rfl; exact rfl
  apply gH; exact rfl; exact .fn _ _ _; exact rfl; exact gK (.fn _ _ _) _ hsm (by omega) (rf1_s x (by omega))
  apply kT; exact rfl; exact rfl
  refine uD (uC ?_); refine wE ?_; rotate_left
  exact wR (d := 2) rfl rfl rfl rfl
 ·rw [if_neg hc]
  iterate 2 refine uB ?_
  refine aoR fun _ => ?_; refine q33 ?_
  apply uO; exact rfl; exact .fn _ _ _; exact rfl; exact yI _ hx.1 hx.2
  refine q44 (uD (uC ?_)); refine cnd ?_ ?_
  refine xG (fun _ => ?_); (try omega)
  refine uB (aoR fun _ => ?_)
  refine q51 (uD (uC ?_)); refine wE ?_; refine zN ?_; rotate_left
  refine xA (fun _ => ?_); (try omega)
  exact wR (d := 2) rfl rfl rfl rfl
end Go.Proofs.YtnkocjkkefnelaaGreat
