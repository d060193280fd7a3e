/- Parts. -/
import Derived.Test.YtnkocjkkefnelaaGreatPg4
import Derived.Test.YtnkocjkkefnelaaGreatPg6
import Derived.Test.YtnkocjkkefnelaaGreatPg15
import Derived.Test.YtnkocjkkefnelaaGreatPg21
set_option linter.unusedVariables false
set_option linter.unusedSimpArgs false
set_option maxHeartbeats 4000000
set_option maxRecDepth 100000
namespace Go.Proofs.YtnkocjkkefnelaaGreat
open Go.RowKit Go.ChangeShapes Go.WideShapes Go.Deep
section
variable {M : Mem} {w : World} (hm : ∀ b o v, M b o = some v → w.cell? ⟨b, o, none⟩ = some v)
include hm
theorem fI {q : IntKind} {l : List Int} {v : Value} (h : Rep M (.sl 1 (l.map fun n => [TV.c (.int q n)])) v) (hl : l.length ≤ 1152921504606846976) : ∃ s : Sl, v = .slice s.a s.n s.c ∧ IntsIn q w.heap.size w s l := by
 rw [Rep] at h
 obtain ⟨a, c, h1, h2, h3⟩ := h
 rw [List.length_map] at h1
 refine ⟨⟨a, l.length, c⟩, h1, rfl, hl, ?_⟩
 rcases h3 with h3 | ⟨b, off, h4, h5⟩
 ·exact Or.inl (List.map_eq_nil_iff.1 h3)
 ·have get : ∀ k, k < l.length → w.cell? ⟨b, off + k, none⟩ = some (.int q (l.getD k 0)) := fun k hk => by
   obtain ⟨_, g2⟩ := h5.get (vK (f := fun n => [TV.c (.int q n)]) hk 0)
   obtain ⟨u, g3, g4⟩ := g2.get (o := 0) rfl
   rw [Rep] at g4
   rw [g4.1, Nat.mul_one, Nat.add_zero] at g3
   exact hm _ _ _ g3
  by_cases hz : l = []
  ·exact Or.inl hz
  ·exact Or.inr ⟨b, off, h4, (yQ (get 0 (List.length_pos_iff.2 hz))).2, get⟩
def Ev.like (e e' : Ev) : Prop := ∃ a d c : Sl, e' = { e with av := a, dv := d, cv := c } ∧ a.n = e.addrs.length ∧ d.n = e.datas.length ∧ c.n = e.ctrls.length
theorem ev_back {e : Ev} (hok : e.ok) {b o : Nat} (h : RepC M (evTV e) b o) : ∃ e', e.like e' ∧ EvCells w b o e' ∧ e'.okIn w.heap.size w := by
 have cl : ∀ i v, (evTV e)[i]? = some (.c v) → w.cell? ⟨b, o + i, none⟩ = some v := fun i v hi => by
  obtain ⟨u, g3, g4⟩ := h.get hi
  rw [Rep] at g4
  rw [g4.1] at g3
  exact hm _ _ _ g3
 have cs : ∀ i l, (evTV e)[i]? = some (ints l) → l.length ≤ 1152921504606846976 → ∃ s : Sl, w.cell? ⟨b, o + i, none⟩ = some (.slice s.a s.n s.c) ∧ IntsIn .i64 w.heap.size w s l := fun i l hi hl => by
  obtain ⟨u, g3, g4⟩ := h.get hi
  obtain ⟨s, rfl, hs⟩ := fI hm (q := .i64) g4 hl
  exact ⟨s, hm _ _ _ g3, hs⟩
 obtain ⟨w1, n1, n2, n3, _⟩ := hok
 obtain ⟨sa, a1, a2⟩ := cs 10 e.addrs rfl n1
 obtain ⟨sd, d1, d2⟩ := cs 11 e.datas rfl n2
 obtain ⟨sc, c1, c2⟩ := cs 12 e.ctrls rfl n3
 refine ⟨{ e with av := sa, dv := sd, cv := sc }, ⟨sa, sd, sc, rfl, a2.1, d2.1, c2.1⟩, ?_, a2, d2, c2, w1⟩
 exact ⟨cl 0 _ rfl, cl 1 _ rfl, cl 2 _ rfl, cl 3 _ rfl, cl 4 _ rfl, cl 5 _ rfl, cl 6 _ rfl, cl 7 _ rfl, cl 8 _ rfl, cl 9 _ rfl, a1, d1, c1⟩
theorem evs_back {es : List Ev} {v : Value} (h : Rep M (evsTV es) v) (hl : es.length ≤ 1152921504606846976) (hok : ∀ e ∈ es, e.ok) :
  ∃ (s : Sl) (es' : List Ev), v = .slice s.a s.n s.c ∧ EvsIn w.heap.size w s es' ∧ es'.length = es.length ∧ ∀ i, i < es.length → (es.getD i default).like (es'.getD i default) := by
 unfold evsTV at h
 rw [Rep] at h
 obtain ⟨a, c, h1, h2, h3⟩ := h
 rw [List.length_map] at h1
 rcases h3 with h3 | ⟨b, off, h4, h5⟩
 ·have : es = [] := List.map_eq_nil_iff.1 h3
  subst this
  exact ⟨⟨a, 0, c⟩, [], h1, ⟨rfl, by simp, by simp, Or.inl rfl⟩, rfl, fun i hi => by simp at hi⟩
 ·obtain ⟨E, hE⟩ := choose_lt (α := Ev) (n := es.length) (p := fun i e' => (es.getD i default).like e' ∧ EvCells w b (off + i * 13) e' ∧ e'.okIn w.heap.size w) (fun i hi => by
   obtain ⟨_, g2⟩ := h5.get (vK (f := evTV) hi default)
   refine ev_back hm (hok _ ?_) g2
   rw [List.getD_eq_getElem?_getD, List.getElem?_eq_getElem hi]
   exact List.getElem_mem hi)
  have hL : ((List.range es.length).map E).length = es.length := by simp
  have hg : ∀ i, i < es.length → ((List.range es.length).map E).getD i default = E i := fun i hi => by
   rw [List.getD_eq_getElem?_getD, List.getElem?_eq_getElem (by omega)]
   simp
  refine ⟨⟨a, es.length, c⟩, (List.range es.length).map E, h1, ⟨hL.symm, by omega, fun e he => ?_, ?_⟩, hL, fun i hi => by rw [hg i hi]; exact (hE i hi).1⟩
  ·obtain ⟨i, hi, rfl⟩ := List.mem_map.1 he
   exact (hE i (List.mem_range.1 hi)).2.2
  ·by_cases hz : es.length = 0
   ·left; rw [hz]; rfl
   ·right
    have c0 := (hE 0 (by omega)).2.1.1
    exact ⟨b, off, h4, (yQ c0).2, fun k hk => by rw [hg k (by omega)]; exact (hE k (by omega)).2.1⟩
theorem rows_back {l : List (Sl × List Int)} {v : Value} (h : Rep M (rowsTV l) v) (hl : l.length ≤ 1152921504606846976) (hok : ∀ r ∈ l, r.2.length ≤ 1152921504606846976) :
  ∃ (s : Sl) (l' : List (Sl × List Int)), v = .slice s.a s.n s.c ∧ RowsIn w.heap.size w s l' ∧ l'.length = l.length ∧ ∀ i, i < l.length → (l'.getD i default).2 = (l.getD i default).2 := by
 unfold rowsTV at h
 rw [Rep] at h
 obtain ⟨a, c, h1, h2, h3⟩ := h
 rw [List.length_map] at h1
 rcases h3 with h3 | ⟨b, off, h4, h5⟩
 ·have : l = [] := List.map_eq_nil_iff.1 h3
  subst this
  exact ⟨⟨a, 0, c⟩, [], h1, ⟨rfl, by simp, by simp, Or.inl rfl⟩, rfl, fun i hi => by simp at hi⟩
 ·obtain ⟨E, hE⟩ := choose_lt (α := Sl × List Int) (n := l.length) (p := fun i r => r.2 = (l.getD i default).2 ∧ w.cell? ⟨b, off + i, none⟩ = some r.1.v ∧ IntsIn .i64 w.heap.size w r.1 r.2) (fun i hi => by
   obtain ⟨_, g2⟩ := h5.get (vK (f := intRow) hi default)
   obtain ⟨u, g3, g4⟩ := g2.get (o := 0) rfl
   obtain ⟨s, rfl, hs⟩ := fI hm (q := .i64) g4 (by
    apply hok
    rw [List.getD_eq_getElem?_getD, List.getElem?_eq_getElem hi]
    exact List.getElem_mem hi)
   rw [Nat.mul_one, Nat.add_zero] at g3
   exact ⟨(s, (l.getD i default).2), rfl, hm _ _ _ g3, hs⟩)
  have hL : ((List.range l.length).map E).length = l.length := by simp
  have hg : ∀ i, i < l.length → ((List.range l.length).map E).getD i default = E i := fun i hi => by
   rw [List.getD_eq_getElem?_getD, List.getElem?_eq_getElem (by omega)]
   simp
  refine ⟨⟨a, l.length, c⟩, (List.range l.length).map E, h1, ⟨hL.symm, by omega, fun r hr => ?_, ?_⟩, hL, fun i hi => by rw [hg i hi]; exact (hE i hi).1⟩
  ·obtain ⟨i, hi, rfl⟩ := List.mem_map.1 hr
   exact (hE i (List.mem_range.1 hi)).2.2
  ·by_cases hz : l.length = 0
   ·left; rw [hz]; rfl
   ·right
    have c0 := (hE 0 (by omega)).2.1
    exact ⟨b, off, h4, (yQ c0).2, fun k hk => by rw [hg k (by omega)]; exact (hE k (by omega)).2.1⟩
end
def Sl.core (s : Sl) : Sl := ⟨none, s.n, 0⟩
def Ev.core (e : Ev) : Ev := { e with av := e.av.core, dv := e.dv.core, cv := e.cv.core }
theorem yV (es : List Ev) (i : Nat) : (es.map Ev.core).getD i default = (es.getD i default).core := by
 rw [List.getD_eq_getElem?_getD, List.getD_eq_getElem?_getD, List.getElem?_map]
 cases es[i]? <;> rfl
def Ex.core (x : Ex) : Ex := ⟨default, default, default, x.evs.map Ev.core, x.from_, x.order.map fun r => (default, r.2)⟩
theorem addrs_core (es : List Ev) : addrsTo (es.map Ev.core) = addrsTo es := by
 unfold addrsTo
 rw [List.foldl_map]
 rfl
theorem hangs_core (es : List Ev) (n : Nat) (l : List Int) : hangsB (es.map Ev.core) n l = hangsB es n l := by
 unfold hangsB hangsTo
 congr 1
 funext i
 unfold depOk
 simp only [yV]
 rfl
theorem evOk_core (es : List Ev) (ad : List Int) : evOk (es.map Ev.core) ad = evOk es ad := by
 funext n
 unfold evOk evPre
 simp only [yV, hangs_core]
 rfl
theorem evsTo_core (es : List Ev) (ad : List Int) (k : Nat) : evsTo (es.map Ev.core) ad k = evsTo es ad k := by
 unfold evsTo
 rw [evOk_core]
theorem fromOk_core (es : List Ev) (fs : List Int) : fromOk (es.map Ev.core) fs = fromOk es fs := by
 funext n
 unfold fromOk srcOk
 simp only [yV, List.length_map]
 rfl
theorem fromB_core (es : List Ev) (fs : List Int) : fromB (es.map Ev.core) fs = fromB es fs := by
 unfold fromB fromTo
 rw [fromOk_core, List.length_map]
theorem want_core (es : List Ev) (a : Int) (k : Nat) : wantTo (es.map Ev.core) a k = wantTo es a k := by
 unfold wantTo
 simp only [yV]
 rfl
theorem order_core (es : List Ev) (ad : List Int) (rows : List (Sl × List Int)) : orderB (es.map Ev.core) ad (rows.map fun r => (default, r.2)) = orderB es ad rows := by
 unfold orderB rowsTo
 rw [List.length_map]
 congr 2
 funext i
 unfold rowOk
 rw [want_core, List.length_map]
 have : ((rows.map fun r => ((default : Sl), r.2)).getD i default).2 = (rows.getD i default).2 := by
  rw [List.getD_eq_getElem?_getD, List.getD_eq_getElem?_getD, List.getElem?_map]
  cases rows[i]? <;> rfl
 rw [this]
theorem jR (x : Ex) : checkI x.core = checkI x := by
 unfold checkI Ex.core
 dsimp only
 rw [addrs_core, List.length_map, evsTo_core, fromB_core, order_core]
theorem like_core {e e' : Ev} (h : e.like e') (hc : e.av.n = e.addrs.length ∧ e.dv.n = e.datas.length ∧ e.cv.n = e.ctrls.length) : e'.core = e.core := by
 obtain ⟨a, d, c, rfl, h1, h2, h3⟩ := h
 unfold Ev.core Sl.core
 dsimp only
 rw [h1, h2, h3, hc.1, hc.2.1, hc.2.2]
theorem cU {α : Type} (d : α) {l l' : List α} (hl : l.length = l'.length) (h : ∀ i, i < l.length → l.getD i d = l'.getD i d) : l = l' := by
 apply List.ext_getElem hl
 intro i h1 h2
 have := h i h1
 rw [List.getD_eq_getElem?_getD, List.getD_eq_getElem?_getD, List.getElem?_eq_getElem h1, List.getElem?_eq_getElem h2] at this
 exact this
theorem Ev.ok.bare {e : Ev} (h : e.ok) : e.bareB = e.rbareB := by
 obtain ⟨_, _, _, _, h1, h2, h3⟩ := h
 unfold Ev.bareB Ev.rbareB Ev.stB Ev.ldB
 rw [h1, h2, h3]
 obtain ⟨hart, kind, addr, val, rval, aq, rl, pred, succ, rsv, av, dv, cv, l1, l2, l3⟩ := e
 dsimp only
 generalize l1.length = a
 generalize l2.length = d
 generalize l3.length = c
 rw [Bool.eq_iff_iff]
 by_cases k5 : kind = 5
 ·subst k5; cases aq <;> cases rl <;> cases rsv <;> simp <;> omega
 by_cases k4 : kind = 4
 ·subst k4; cases aq <;> cases rl <;> cases rsv <;> simp <;> omega
 by_cases k3 : kind = 3
 ·subst k3; cases aq <;> cases rl <;> cases rsv <;> simp <;> omega
 by_cases k2 : kind = 2
 ·subst k2; cases aq <;> cases rl <;> cases rsv <;> simp <;> omega
 by_cases k1 : kind = 1
 ·subst k1; cases aq <;> cases rl <;> cases rsv <;> simp <;> omega
 rw [if_neg k5, if_neg k1, if_neg k2, if_neg k3, if_neg k4]
 have : kind < 1 ∨ 5 < kind := by omega
 rcases this with h | h <;> simp [h]
theorem ex_back {M : Mem} {w : World} (hm : ∀ b o v, M b o = some v → w.cell? ⟨b, o, none⟩ = some v) {G : Gh} (hG : G.M = M) {x : Ex} {v : Value} (h : RepO G (exOV x) v) (hx : x.ok) :
  ∃ x' : Ex, v = x'.agg ∧ x'.inW w.heap.size w ∧ x'.core = x.core := by
 obtain ⟨h1, h2, h3, h4, h5⟩ := hx
 unfold exOV at h
 rw [RepO] at h
 obtain ⟨vs, hv, h⟩ := h
 rw [RepOL] at h
 obtain ⟨v0, us, e0, r0, h⟩ := h
 rw [RepOL] at h
 obtain ⟨v1, us1, e1, r1, h⟩ := h
 rw [RepOL] at h
 obtain ⟨v2, us2, e2, r2, h⟩ := h
 rw [RepOL] at h
 rw [RepO, hG] at r0 r1 r2
 obtain ⟨s0, es', rfl, g1, g2, g3⟩ := evs_back hm r0 h1 h2
 obtain ⟨s1, rfl, g4⟩ := fI hm (q := .i64) r1 h3
 obtain ⟨s2, l', rfl, g5, g6, g7⟩ := rows_back hm r2 h4 h5
 refine ⟨⟨s0, s1, s2, es', x.from_, l'⟩, ?_, ⟨g1, g4, g5⟩, ?_⟩
 ·rw [hv]; unfold Ex.agg
  congr 1
  apply Array.ext'
  rw [e0, e1, e2, h]
 ·unfold Ex.core
  dsimp only
  congr 1
  ·apply cU default (by simpa using g2)
   intro i hi
   rw [List.length_map] at hi
   rw [yV, yV]
   refine like_core (g3 i (by omega)) ?_
   have := h2 (x.evs.getD i default) (by
    rw [List.getD_eq_getElem?_getD, List.getElem?_eq_getElem (by omega)]
    exact List.getElem_mem _)
   exact this.2.2.2.2
  ·apply cU default (by simpa using g6)
   intro i hi
   rw [List.length_map] at hi
   have e : ∀ rows : List (Sl × List Int), (rows.map fun r => ((default : Sl), r.2)).getD i default = (default, (rows.getD i default).2) := fun rows => by
    rw [List.getD_eq_getElem?_getD, List.getD_eq_getElem?_getD, List.getElem?_map]
    cases rows[i]? <;> rfl
   rw [e, e, g7 i (by omega)]
theorem qV {P : Program} {f : FuncId} {args : List OV} {l : Value} (hE : Enters P f) (hl : l.oneCell' = true)
  (h : ∀ (G : Gh) (w : World) (vs : List Value), RepOL G args vs → (∀ b o v, G.M b o = some v → w.cell? ⟨b, o, none⟩ = some v) → Calls P f vs.toArray w fun e w' => e = .returned l ∧ Below w.heap.size w w') : Pure P f args (.d (.c l)) :=
 ⟨hE, fun G w vs N hr hw => (h G w vs hr hw.mem).mono fun e w' ⟨h1, h2⟩ => ⟨l, G, .d (.c l), Store.nil, h1, rfl, Gh.le.refl G, by rw [RepO]; exact yK hl, hw.below h2⟩⟩
theorem yH (x : Ex) (hx : x.ok) (hrows : ∀ r ∈ x.order, r.2.length ≤ 65536) : Pure E.P 35 [exOV x] (.int .i64 (checkI x)) := by
 refine qV ⟨_, Tryz.func35, by decide, rfl⟩ rfl fun G w vs hr hm => ?_
 rw [RepOL] at hr
 obtain ⟨v, us, rfl, r0, hr⟩ := hr
 rw [RepOL] at hr
 subst hr
 obtain ⟨x', rfl, h1, h2⟩ := ex_back hm rfl r0 hx
 have := check_c x' w h1 (fun r hr => ?_)
 ·rw [← jR x', h2, jR] at this
  exact this
 ·have e : (default, r.2) ∈ x'.core.order := List.mem_map.2 ⟨r, hr, rfl⟩
  rw [h2] at e
  obtain ⟨r', hr', e'⟩ := List.mem_map.1 e
  have := hrows r' hr'
  rw [Prod.mk.injEq] at e'
  rw [← e'.2]; exact this
def pairTV (p : Int × Int) : List TV := [.c (.int .i64 p.1), .c (.int .i64 p.2)]
def pairsTV (l : List (Int × Int)) : TV := .sl 2 (l.map pairTV)
def exRow (x : Ex) : List TV := [evsTV x.evs, ints x.from_, rowsTV x.order]
theorem lI {l pre r : List (Int × Int)} {p : Int × Int} (h : l = pre ++ [p] ++ r) : pre.length < l.length ∧ (pairYs l).getD pre.length [] = [.ag (pairO' p)] := by
 have hlt : pre.length < l.length := by rw [h]; simp
 refine ⟨hlt, ?_⟩
 rw [dA l hlt, h]
 simp [List.getD]
def Ex.fit (x : Ex) : Prop := x.ok ∧ ∀ r ∈ x.order, r.2.length ≤ 65536
theorem iO {P : Program} {Y : YJ} {k m : Nat} {τ : Stamp} {st : Bool} {J : Nat → Rows → Prop} {L : List (Int × Int)} (h1 : st = false → m = L.length)
  (hy : ∀ i l0, i < m → J i l0 → YieldW P Y k τ i (i + 1) ((pairYs L).getD i []) l0 (J (i + 1)) (!(st && i + 1 == m))) {pre r : List (Int × Int)} {p : Int × Int} {l : Rows} (hL : L = pre ++ [p] ++ r) (hst : st = true → pre.length < m) (hJ : J pre.length l) :
  pre.length < m ∧ YieldW P Y k τ pre.length (pre.length + 1) [.ag (pairO' p)] l (J (pre.length + 1)) (!(st && pre.length + 1 == m)) := by
 obtain ⟨e1, e2⟩ := lI hL
 have hlm : pre.length < m := by
  cases st with
  | true => exact hst rfl
  | false => rw [h1 rfl]; exact e1
 have := hy _ l hlm hJ
 rw [e2] at this
 exact ⟨hlm, this⟩
theorem mM {st : Bool} {m i : Nat} (h1 : i < m) (h2 : (!(st && i + 1 == m)) = true) (h3 : st = true) : i + 1 < m := by
 subst h3
 simp at h2; omega
theorem dW {st : Bool} {m i : Nat} (h : (!(st && i + 1 == m)) = false) : i + 1 = m := by
 simp at h; exact h.2
theorem xT (l : List (Int × Int)) : FzR (l.map pairO') (l.map pairTV) := by
 induction l with
 | nil => exact FzR.nil
 | cons p l ih => exact FzR.cons (FzC.cons (FzC.cons FzC.nil)) ih
theorem sA {k s : Nat} {τ : Stamp} {rows : List (List TV)} {l : Rows} (hbig : ∀ e ∈ l, 1000 ≤ e.1) (hk : k < 1000) {σ : Store} (h : ∀ j, j ≠ k → σ j = stL l j) : FrozS k τ s rows σ (stL l) := fun j τ' r' hj => by
 have hne : j ≠ k := fun e => by
  subst e
  obtain ⟨e, he, h2⟩ := List.mem_map.1 (gY hj)
  have := hbig e he
  omega
 exact ⟨hne, r', by rw [h j hne]; exact hj, rfl, rfl, fun i row' hi => ⟨row', hi, rfl, fun o y' ho => ⟨y', ho, .same _⟩⟩⟩
theorem le_app {l : Rows} (hbig : ∀ e ∈ l, 1000 ≤ e.1) {σ : Store} {δ : Diff} (hd : (δ.all fun e => Nat.blt e.1 1000) = true) (h : (stL l).le σ) : (stL l).le (σ.apply δ) := fun k x hx => by
 rw [wC (fun hk => ?_)]
 ·exact h k x hx
 ·obtain ⟨e, he, h2⟩ := List.mem_map.1 (gY hx)
  have h3 := hbig e he
  have : ∀ δ : Diff, k ∈ wkeys δ → ∃ y, (k, y) ∈ δ := fun δ => by
   induction δ with
   | nil => intro h; cases h
   | cons a δ ih =>
    obtain ⟨a, y⟩ := a
    intro h
    simp only [wkeys, List.mem_cons] at h
    rcases h with rfl | h
    ·exact ⟨y, by simp⟩
    ·obtain ⟨y', h'⟩ := ih h; exact ⟨y', by simp [h']⟩
  obtain ⟨y, hy⟩ := this δ hk
  have := List.all_eq_true.1 hd _ hy
  simp at this
  omega
set_option maxRecDepth 100000
section
variable {v j : Nat} {ops : Array Oper} {K : Tm → Store → Prop} {KD : List Foot → Tm → Store → Prop} {acc : List Foot} {rest : List Oper} {tm : Tm} {σ : Store} {dst : Option Tmp} {ty : TypeId} {pos : String} {af : Array Edge} {gd : Option (Nat × Bool)}
end
theorem vN {x : Ex} (h : checkI x = 0) : x.evs.length ≤ 64 ∧ evsTo x.evs (addrsTo x.evs) x.evs.length = true ∧ fromB x.evs x.from_ = true ∧ orderB x.evs (addrsTo x.evs) x.order = true := by
 unfold checkI at h
 by_cases h1 : 64 < x.evs.length
 ·rw [if_pos h1] at h; omega
 rw [if_neg h1] at h
 cases h2 : evsTo x.evs (addrsTo x.evs) x.evs.length with
 | false => rw [h2] at h; simp at h
 | true =>
 cases h3 : fromB x.evs x.from_ with
 | false => rw [h2, h3] at h; simp at h
 | true =>
 cases h4 : orderB x.evs (addrsTo x.evs) x.order with
 | false => rw [h2, h3, h4] at h; simp at h
 | true => exact ⟨by omega, rfl, rfl, rfl⟩
theorem yI {es : List Ev} {fs : List Int} (h : fromB es fs = true) : fs.length = es.length := by
 unfold fromB at h
 simp only [Bool.and_eq_true, decide_eq_true_eq] at h
 exact h.1
theorem rD {es : List Ev} {fs : List Int} (h : fromB es fs = true) {k : Nat} (hk : k < fs.length) : fromOk es fs k = true := by
 unfold fromB fromTo at h
 simp only [Bool.and_eq_true, List.all_eq_true, List.mem_range] at h
 exact h.2 k hk
theorem rC {es : List Ev} {fs : List Int} (h : fromB es fs = true) (k : Nat) : fs.getD k 0 < (es.length : Int) + 1 := by
 by_cases hk : k < fs.length
 ·have := rD h hk
  unfold fromOk at this
  simp only [Bool.or_eq_true, Bool.and_eq_true, Bool.not_eq_true', beq_iff_eq, decide_eq_false_iff_not] at this
  omega
 ·rw [List.getD_eq_getElem?_getD, List.getElem?_eq_none (by omega)]
  simp only [Option.getD_none]
  omega
theorem yB {a : Int} (h : 0 ≤ a) : ∃ n : Nat, a = n := ⟨a.toNat, (Int.toNat_of_nonneg h).symm⟩
def refPairs (n : Nat) (f : Nat → Nat → Bool) : List (Int × Int) := (List.range n).flatMap fun a => ((List.range n).filter (f a)).map fun (b : Nat) => (((a : Nat) : Int), ((b : Nat) : Int))
theorem vG {n : Nat} {f : Nat → Nat → Bool} {p : Int × Int} : p ∈ refPairs n f ↔ ∃ a b : Nat, a < n ∧ b < n ∧ f a b = true ∧ p = ((a : Int), (b : Int)) := by
 unfold refPairs
 constructor
 ·intro h
  obtain ⟨a, h1, h2⟩ := List.mem_flatMap.1 h
  obtain ⟨b, h3, rfl⟩ := List.mem_map.1 h2
  obtain ⟨h4, h5⟩ := List.mem_filter.1 h3
  exact ⟨a, b, List.mem_range.1 h1, List.mem_range.1 h4, h5, rfl⟩
 ·rintro ⟨a, b, h1, h2, h3, rfl⟩
  exact List.mem_flatMap.2 ⟨a, List.mem_range.2 h1, List.mem_map.2 ⟨b, List.mem_filter.2 ⟨List.mem_range.2 h2, h3⟩, rfl⟩⟩
theorem yO {x y : Int × Int} : ltZ x y = true ↔ x.1 < y.1 ∨ (x.1 = y.1 ∧ x.2 < y.2) := by simp [ltZ]
theorem bF (n : Nat) (f : Nat → Nat → Bool) : (refPairs n f).Pairwise fun x y => ltZ x y = true := by
 unfold refPairs
 rw [List.pairwise_flatMap]
 refine ⟨fun a _ => ?_, ?_⟩
 ·refine List.Pairwise.map _ (R := (· < ·)) (fun b c h => ?_) (List.Pairwise.filter _ List.pairwise_lt_range)
  rw [yO]; right; exact ⟨rfl, by dsimp only; omega⟩
 ·refine List.Pairwise.imp (fun {a b} h => ?_) List.pairwise_lt_range
  intro x hx y hy
  obtain ⟨c, _, rfl⟩ := List.mem_map.1 hx
  obtain ⟨d, _, rfl⟩ := List.mem_map.1 hy
  rw [yO]; left; dsimp only; omega
theorem aY {L : List (Int × Int)} {n : Nat} {f : Nat → Nat → Bool} (hnd : L.Nodup) (hm : ∀ p, p ∈ L ↔ p ∈ refPairs n f) : sortZ L = refPairs n f := by
 have hlt := bF n f
 have hnd2 : (refPairs n f).Nodup := hlt.imp fun {x y} h e => by subst e; rw [yO] at h; omega
 refine List.Perm.eq_of_pairwise (le := fun x y => (!ltZ y x) = true) (fun x y _ _ h1 h2 => ?_) (List.pairwise_mergeSort (fun a b c h1 h2 => ?_) (fun a b => ?_) L) (hlt.imp fun {x y} h => ?_) ((List.mergeSort_perm L _).trans ((List.perm_ext_iff_of_nodup hnd hnd2).2 hm))
 ·simp only [Bool.not_eq_true', Bool.eq_false_iff, ne_eq, yO] at h1 h2
  exact Prod.ext (by omega) (by omega)
 ·simp only [Bool.not_eq_true', Bool.eq_false_iff, ne_eq, yO] at *
  omega
 ·simp only [Bool.or_eq_true, Bool.not_eq_true', Bool.eq_false_iff, ne_eq, yO]
  omega
 ·simp only [Bool.not_eq_true', Bool.eq_false_iff, ne_eq, yO] at *
  omega
def isPo (x : Ex) (a b : Nat) : Bool := decide (a < b) && decide (0 ≤ (x.evs.getD a default).hart) && decide ((x.evs.getD a default).hart = (x.evs.getD b default).hart)
def poRow (x : Ex) (a b : Nat) : List (Int × Int) := ((List.range b).filter (isPo x a)).map fun (b : Nat) => (((a : Nat) : Int), ((b : Nat) : Int))
def poTo (x : Ex) (a : Nat) : List (Int × Int) := (List.range a).flatMap fun a => poRow x a x.evs.length
def poAt (x : Ex) (a b : Nat) : List (Int × Int) := poTo x a ++ poRow x a b
def poZ (x : Ex) : List (Int × Int) := poTo x x.evs.length
theorem gZ (x : Ex) : poZ x = refPairs x.evs.length (isPo x) := rfl
theorem po_sorted (x : Ex) : sortZ (poZ x) = refPairs x.evs.length (isPo x) := by
 have hlt := bF x.evs.length (isPo x)
 exact aY (by rw [gZ]; exact hlt.imp fun {x y} h e => by subst e; rw [yO] at h; omega) fun p => by rw [gZ]
theorem cD (x : Ex) (a : Nat) : poTo x (a + 1) = poTo x a ++ poRow x a x.evs.length := by
 simp [poTo, List.range_succ, List.flatMap_append]
theorem lC (x : Ex) (a : Nat) : poAt x a (a + 1) = poTo x a := by
 unfold poAt poRow
 rw [List.filter_eq_nil_iff.2, List.map_nil, List.append_nil]
 intro b hb
 have := List.mem_range.1 hb
 unfold isPo
 rw [show decide (a < b) = false by simp; omega]
 simp
theorem kZ {x : Ex} {a b : Nat} (h : isPo x a b = true) : poRow x a (b + 1) = poRow x a b ++ [((a : Int), (b : Int))] := by
 unfold poRow
 rw [List.range_succ, List.filter_append, List.filter_cons, if_pos h, List.filter_nil, List.map_append]; rfl
theorem nU {x : Ex} {a b : Nat} (h : ¬ isPo x a b = true) : poRow x a (b + 1) = poRow x a b := by
 unfold poRow
 rw [List.range_succ, List.filter_append, List.filter_cons, if_neg h, List.filter_nil, List.append_nil]
theorem nV {x : Ex} {a b : Nat} (h : isPo x a b = true) : poAt x a (b + 1) = poAt x a b ++ [((a : Int), (b : Int))] := by
 unfold poAt; rw [kZ h, List.append_assoc]
theorem poAt_no {x : Ex} {a b : Nat} (h : ¬ isPo x a b = true) : poAt x a (b + 1) = poAt x a b := by
 unfold poAt; rw [nU h]
theorem poAt_end (x : Ex) (a : Nat) : poAt x a x.evs.length = poTo x (a + 1) := by rw [cD]; rfl
theorem poRow_pre (x : Ex) (a : Nat) : ∀ {b c : Nat}, b ≤ c → ∃ r, poRow x a c = poRow x a b ++ r := fun {b c} h => by
  induction c with
  | zero => have : b = 0 := by omega
            subst this; exact ⟨[], by simp⟩
  | succ c ih =>
    by_cases e : b = c + 1
    · subst e; exact ⟨[], by simp⟩
    · obtain ⟨r, hr⟩ := ih (by omega)
      by_cases hc : isPo x a c = true
      · exact ⟨_, by rw [kZ hc, hr, List.append_assoc]⟩
      · exact ⟨r, by rw [nU hc, hr]⟩
theorem poTo_pre (x : Ex) : ∀ {a c : Nat}, a ≤ c → ∃ r, poTo x c = poTo x a ++ r := fun {a c} h => by
  induction c with
  | zero => have : a = 0 := by omega
            subst this; exact ⟨[], by simp⟩
  | succ c ih =>
    by_cases e : a = c + 1
    · subst e; exact ⟨[], by simp⟩
    · obtain ⟨r, hr⟩ := ih (by omega)
      exact ⟨_, by rw [cD, hr, List.append_assoc]⟩
theorem poAt_in {x : Ex} {a b : Nat} (ha : a < x.evs.length) (hb : b < x.evs.length) (h : isPo x a b = true) : ∃ q, poZ x = poAt x a b ++ [((a : Int), (b : Int))] ++ q := by
 obtain ⟨q1, h1⟩ := poTo_pre x (show a + 1 ≤ x.evs.length from ha)
 obtain ⟨q2, h2⟩ := poRow_pre x a (show b + 1 ≤ x.evs.length from hb)
 rw [← nV h]
 unfold poZ poAt
 rw [h1, cD, h2]
 exact ⟨q2 ++ q1, by simp only [List.append_assoc]⟩
theorem poZ_small {x : Ex} (h : x.evs.length ≤ 65536) : smallP (poZ x) := fun p hp => by
 rw [gZ] at hp
 obtain ⟨a, b, h1, h2, _, rfl⟩ := vG.1 hp
 dsimp only
 omega
theorem iV (x : Ex) : ∀ a, (poTo x a).length ≤ a * x.evs.length
 | 0 => by simp [poTo]
 | a + 1 => by
  rw [cD, List.length_append, Nat.succ_mul]
  have h1 := iV x a
  have h2 : (poRow x a x.evs.length).length ≤ x.evs.length := by
   unfold poRow
   rw [List.length_map]
   exact Nat.le_trans (List.length_filter_le _ _) (by simp)
  omega
set_option maxRecDepth 100000
def eqTo {α : Type} [Inhabited α] (f : α → α → Bool) (a b : List α) (k : Nat) : Bool := (List.range k).all fun i => f (a.getD i default) (b.getD i default)
theorem eqTo_succ {α : Type} [Inhabited α] (f : α → α → Bool) (a b : List α) (k : Nat) : eqTo f a b (k + 1) = (eqTo f a b k && f (a.getD k default) (b.getD k default)) := by
 unfold eqTo; rw [List.range_succ, List.all_append]; simp
theorem eqTo_false {α : Type} [Inhabited α] {f : α → α → Bool} {a b : List α} {k : Nat} (n : Nat) (hk : k < n) (h : f (a.getD k default) (b.getD k default) = false) : eqTo f a b n = false := by
 unfold eqTo
 rw [List.all_eq_false]
 exact ⟨k, by simpa using hk, by rw [h]; decide⟩
def eqL {α : Type} [Inhabited α] (f : α → α → Bool) (a b : List α) : Bool := decide (a.length = b.length) && eqTo f a b a.length
theorem eqL_len {α : Type} [Inhabited α] {f : α → α → Bool} {a b : List α} (h : ¬ a.length = b.length) : eqL f a b = false := by unfold eqL; simp [h]
theorem eqL_false {α : Type} [Inhabited α] {f : α → α → Bool} {a b : List α} {k : Nat} (hk : k < a.length) (h : f (a.getD k default) (b.getD k default) = false) : eqL f a b = false := by unfold eqL; rw [eqTo_false _ hk h]; simp
theorem oU {α : Type} [Inhabited α] {f : α → α → Bool} {a b : List α} (h : a.length = b.length) (h2 : eqTo f a b a.length = true) : eqL f a b = true := by unfold eqL; rw [h2]; simp [h]
def intB (a b : Int) : Bool := decide (a = b)
def eqI (a b : List Int) : Bool := eqL intB a b
theorem eqI_refl (a : List Int) : eqI a a = true := oU rfl (by unfold eqTo; simp [intB])
def pairB (a b : Int × Int) : Bool := a.1 == b.1 && a.2 == b.2
def eqP (a b : List (Int × Int)) : Bool := eqL pairB a b
theorem rpo_p (x : Ex) (hx : x.evs.length ≤ 65536) (a b : Nat) (ha : a < x.evs.length) (hb : b < x.evs.length) : Pure E.P 44 [exOV x, .int .i64 a, .int .i64 b] (.bool (isPo x a b)) := by
 refine fnA Tryz.func44 Tryz.ntmps44 ?_
 refine run ?_; refine aoR fun _ => ?_
 refine run ?_
 refine uX (E := E) ?_ (fun _ => ?_); exact rfl
 refine run ?_; rotate_left
 refine uU rfl ?_
 rw [Bool.eq_iff_iff]
 unfold isPo
 simp only [Bool.and_eq_true, decide_eq_true_eq, Int.toNat_natCast, Int.ofNat_lt]
def accB (e : Ev) : Bool := decide (0 ≤ e.hart) && !decide (e.kind = 4)
def pairOf (x : Ex) (a b : Nat) : Bool := accB (x.evs.getD a default) && accB (x.evs.getD b default) && decide (a < b) && decide ((x.evs.getD a default).hart = (x.evs.getD b default).hart)
def oneB (e f : Ev) : Bool := decide (e.addr = f.addr)
def someB (a b : Nat) (f : Nat → Bool) : Bool := (List.range b).any fun n => decide (a < n) && f n
def inB (s : Int) (e : Ev) : Bool := (decide (s = 1) || decide (s = 3)) && e.stB || (decide (s = 2) || decide (s = 3)) && e.ldB
def strongB (e : Ev) : Bool := (e.aq || e.rl) && (decide (e.kind = 3) || e.rsv)
def hasB (l : List Int) (a : Nat) : Bool := decide (0 ≤ atI l a)
def pairTo (es : List Ev) (f : Ev) : Nat → Int
 | 0 => -1
 | k + 1 =>
  if (es.getD k default).hart = f.hart then
   if (es.getD k default).rsv = true then (if (es.getD k default).kind = 2 then -1 else if (es.getD k default).addr = f.addr then (k : Int) else -1)
   else pairTo es f k
  else -1
def pairedI (x : Ex) (b : Nat) : Int := if (x.evs.getD b default).kind = 2 ∧ (x.evs.getD b default).rsv = true then pairTo x.evs (x.evs.getD b default) b else -1
def rule2 (x : Ex) (a b : Nat) : Bool := (x.evs.getD a default).ldB && (x.evs.getD b default).ldB && oneB (x.evs.getD a default) (x.evs.getD b default) && !decide (x.from_.getD a 0 = x.from_.getD b 0) && !someB a b (fun n => (x.evs.getD n default).stB && decide ((x.evs.getD n default).addr = (x.evs.getD a default).addr))
def rule3 (x : Ex) (a b : Nat) : Bool := (decide ((x.evs.getD a default).kind = 3) || decide ((x.evs.getD a default).kind = 2) && (x.evs.getD a default).rsv) && decide (x.from_.getD b 0 = (a : Int))
def hit4 (x : Ex) (a b n : Nat) : Bool := decide ((x.evs.getD n default).kind = 4) && inB (x.evs.getD n default).pred (x.evs.getD a default) && inB (x.evs.getD n default).succ (x.evs.getD b default)
def hit12 (x : Ex) (a b n : Nat) : Bool := (x.evs.getD n default).stB && decide (x.from_.getD b 0 = (n : Int)) && (hasB (x.evs.getD n default).addrs a || hasB (x.evs.getD n default).datas a)
def hit13 (x : Ex) (a n : Nat) : Bool := hasB (x.evs.getD n default).addrs a
def ruleR (x : Ex) (r : Int) (a b : Nat) : Bool :=
 if r = 1 then (x.evs.getD b default).stB && oneB (x.evs.getD a default) (x.evs.getD b default)
 else if r = 2 then rule2 x a b
 else if r = 3 then rule3 x a b
 else if r = 4 then someB a b (hit4 x a b)
 else if r = 5 then (x.evs.getD a default).aq
 else if r = 6 then (x.evs.getD b default).rl
 else if r = 7 then strongB (x.evs.getD a default) && strongB (x.evs.getD b default)
 else if r = 8 then decide (pairedI x b = (a : Int))
 else if r = 9 then hasB (x.evs.getD b default).addrs a
 else if r = 10 then hasB (x.evs.getD b default).datas a
 else if r = 11 then (x.evs.getD b default).stB && hasB (x.evs.getD b default).ctrls a
 else if r = 12 then (x.evs.getD b default).ldB && someB a b (hit12 x a b)
 else if r = 13 then (x.evs.getD b default).stB && someB a b (hit13 x a)
 else false
def ruleB (x : Ex) (r : Int) (a b : Nat) : Bool := pairOf x a b && ruleR x r a b
def rs13 : List Int := [1, 2, 3, 4, 5, 6, 7, 8, 9, 10, 11, 12, 13]
def heldL (x : Ex) (a b : Nat) : List Int := rs13.filter fun r => ruleR x r a b
def isPpo (x : Ex) (a b : Nat) : Bool := rs13.any fun r => ruleB x r a b
theorem pairOf_po {x : Ex} {a b : Nat} (h : pairOf x a b = true) : isPo x a b = true := by
 unfold pairOf accB at h
 unfold isPo
 simp only [Bool.and_eq_true, decide_eq_true_eq] at h ⊢
 exact ⟨⟨h.1.2, h.1.1.1.1⟩, h.2⟩
theorem pairOf_eq (x : Ex) (a b : Nat) : pairOf x a b = (isPo x a b && !decide ((x.evs.getD a default).kind = 4) && !decide ((x.evs.getD b default).kind = 4)) := by
 rw [Bool.eq_iff_iff]
 unfold pairOf accB isPo
 simp only [Bool.and_eq_true, decide_eq_true_eq]
 constructor
 ·rintro ⟨⟨⟨⟨h1, h2⟩, h3, h4⟩, h5⟩, h6⟩; exact ⟨⟨⟨⟨h5, h1⟩, h6⟩, h2⟩, h4⟩
 ·rintro ⟨⟨⟨⟨h5, h1⟩, h6⟩, h2⟩, h4⟩; exact ⟨⟨⟨⟨h1, h2⟩, by rw [← h6]; exact h1, h4⟩, h5⟩, h6⟩
theorem oL (x : Ex) (a b : Nat) : isPpo x a b = (pairOf x a b && decide (0 < (heldL x a b).length)) := by
 unfold isPpo heldL ruleB
 cases pairOf x a b with
 | false => simp
 | true =>
  simp only [Bool.true_and]
  rw [Bool.eq_iff_iff, List.any_eq_true, decide_eq_true_eq]
  constructor
  ·rintro ⟨r, h1, h2⟩
   exact List.length_pos_iff.2 (List.ne_nil_of_mem (List.mem_filter.2 ⟨h1, h2⟩))
  ·intro h
   obtain ⟨r, hr⟩ := List.exists_mem_of_length_pos h
   exact ⟨r, (List.mem_filter.1 hr).1, (List.mem_filter.1 hr).2⟩
theorem eM {α β : Type} {f g : α → List β} : ∀ {l : List α}, (∀ a ∈ l, f a = g a) → l.flatMap f = l.flatMap g
 | [], _ => rfl
 | a :: l, h => by rw [List.flatMap_cons, List.flatMap_cons, h a (by simp), eM fun b hb => h b (by simp [hb])]
theorem filter_refPairs (n : Nat) (f g : Nat → Nat → Bool) (h : Int × Int → Bool) (hh : ∀ a b : Nat, a < n → b < n → f a b = true → h ((a : Int), (b : Int)) = g a b) (hg : ∀ a b, g a b = true → f a b = true) : (refPairs n f).filter h = refPairs n g := by
 unfold refPairs
 rw [List.filter_flatMap]
 refine eM fun a ha => ?_
 rw [List.filter_map]
 refine congrArg _ ?_
 rw [List.filter_filter]
 refine List.filter_congr fun b hb => ?_
 have ha := List.mem_range.1 ha
 have hb := List.mem_range.1 hb
 cases hf : f a b with
 | false =>
  cases hq : g a b with
  | false => simp
  | true => rw [hg a b hq] at hf; cases hf
 | true => simp [hh a b ha hb hf]
theorem ppo_list (x : Ex) : (refPairs x.evs.length (isPo x)).filter (fun p => pairOf x p.1.toNat p.2.toNat && decide (0 < (heldL x p.1.toNat p.2.toNat).length)) = refPairs x.evs.length (isPpo x) :=
 filter_refPairs _ _ _ _ (fun a b _ _ _ => by rw [oL]; simp only [Int.toNat_natCast]) fun a b h => by
  rw [oL] at h
  simp only [Bool.and_eq_true] at h
  exact pairOf_po h.1
theorem aC {a b : Nat} {f : Nat → Bool} (h : b ≤ a + 1) : someB a b f = false := by
 unfold someB
 rw [List.any_eq_false]
 intro n hn
 have := List.mem_range.1 hn
 rw [show decide (a < n) = false by simp; omega]; simp
theorem cY {a b : Nat} {f : Nat → Bool} (h : a < b) : someB a (b + 1) f = (someB a b f || f b) := by
 unfold someB
 rw [List.range_succ, List.any_append]
 simp [h]
theorem kR {a b n : Nat} {f : Nat → Bool} (h1 : a < n) (h2 : n < b) (h : f n = true) : someB a b f = true := by
 unfold someB
 exact List.any_eq_true.2 ⟨n, List.mem_range.2 h2, by simp [h1, h]⟩
theorem bB {a b : Nat} {f g : Nat → Bool} (h : ∀ n, a < n → n < b → f n = g n) : someB a b f = someB a b g := by
 unfold someB
 rw [Bool.eq_iff_iff]
 simp only [List.any_eq_true, List.mem_range, Bool.and_eq_true, decide_eq_true_eq]
 exact ⟨fun ⟨n, h1, h2, h3⟩ => ⟨n, h1, h2, by rw [← h n h2 h1]; exact h3⟩, fun ⟨n, h1, h2, h3⟩ => ⟨n, h1, h2, by rw [h n h2 h1]; exact h3⟩⟩
def pairTP (es : List Ev) (f : Ev) : Nat → Int × Bool
 | 0 => (0, false)
 | k + 1 =>
  if (es.getD k default).hart = f.hart then
   if (es.getD k default).rsv = true then ((k : Int), decide ((es.getD k default).kind = 1) && decide ((es.getD k default).addr = f.addr))
   else pairTP es f k
  else (0, false)
def pairedZ (x : Ex) (b : Nat) : Int × Bool := if (x.evs.getD b default).kind = 2 ∧ (x.evs.getD b default).rsv = true then pairTP x.evs (x.evs.getD b default) b else (0, false)
theorem lF {es : List Ev} {f : Ev} (h : ∀ i, (es.getD i default).rsv = true → (es.getD i default).kind = 1 ∨ (es.getD i default).kind = 2) : ∀ k, (pairTP es f k).2 = decide (0 ≤ pairTo es f k) ∧ ((pairTP es f k).2 = true → (pairTP es f k).1 = pairTo es f k)
 | 0 => by simp [pairTP, pairTo]
 | k + 1 => by
  have ih := lF (f := f) h k
  have hq := h k
  unfold pairTP pairTo
  generalize es.getD k default = g at hq ⊢
  by_cases h1 : g.hart = f.hart
  ·rw [if_pos h1, if_pos h1]
   by_cases h2 : g.rsv = true
   ·rw [if_pos h2, if_pos h2]
    rcases hq h2 with h3 | h3
    ·rw [h3]
     by_cases h4 : g.addr = f.addr
     ·rw [if_neg (by decide), if_pos h4]; simp [h4]
     ·rw [if_neg (by decide), if_neg h4]; simp [h4]
    ·rw [h3]; simp
   ·rw [if_neg h2, if_neg h2]; exact ih
  ·rw [if_neg h1, if_neg h1]; simp
theorem iW {x : Ex} (h : ∀ i, (x.evs.getD i default).rsv = true → (x.evs.getD i default).kind = 1 ∨ (x.evs.getD i default).kind = 2) (b : Nat) : (pairedZ x b).2 = decide (0 ≤ pairedI x b) ∧ ((pairedZ x b).2 = true → (pairedZ x b).1 = pairedI x b) := by
 unfold pairedZ pairedI
 by_cases h1 : (x.evs.getD b default).kind = 2 ∧ (x.evs.getD b default).rsv = true
 ·rw [if_pos h1, if_pos h1]; exact lF h b
 ·rw [if_neg h1, if_neg h1]; simp
theorem pairedZ_rule {x : Ex} (h : ∀ i, (x.evs.getD i default).rsv = true → (x.evs.getD i default).kind = 1 ∨ (x.evs.getD i default).kind = 2) (a b : Nat) : ((pairedZ x b).2 && decide ((pairedZ x b).1 = (a : Int))) = decide (pairedI x b = (a : Int)) := by
 obtain ⟨h1, h2⟩ := iW h b
 cases h3 : (pairedZ x b).2 with
 | true => rw [h2 h3]; simp
 | false =>
  rw [h3] at h1
  have : ¬ 0 ≤ pairedI x b := by simpa using h1.symm
  simp only [Bool.false_and]
  exact (decide_eq_false (by omega)).symm
theorem held_eq (x : Ex) (a b : Nat) : ((List.range 14).filter fun (r : Nat) => decide (1 ≤ r) && ruleR x (r : Int) a b).map (fun (r : Nat) => (r : Int)) = heldL x a b := by
 have e : (List.range 14).map (fun (r : Nat) => (r : Int)) = 0 :: rs13 := by decide
 have h := List.filter_map (f := fun (r : Nat) => (r : Int)) (p := fun z : Int => decide (1 ≤ z) && ruleR x z a b) (l := List.range 14)
 rw [e] at h
 unfold heldL
 have h2 : ((List.range 14).filter ((fun z : Int => decide (1 ≤ z) && ruleR x z a b) ∘ fun (r : Nat) => (r : Int))) = (List.range 14).filter fun (r : Nat) => decide (1 ≤ r) && ruleR x (r : Int) a b := by
  refine List.filter_congr fun r _ => ?_
  show (decide ((1 : Int) ≤ (r : Int)) && ruleR x r a b) = _
  congr 1
  exact decide_eq_decide.2 (by omega)
 rw [h2] at h
 rw [← h, List.filter_cons, if_neg (by simp)]
 refine List.filter_congr fun r hr => ?_
 have : (1 : Int) ≤ r := by
  unfold rs13 at hr
  simp only [List.mem_cons, List.not_mem_nil, or_false] at hr
  omega
 simp [this]
end Go.Proofs.YtnkocjkkefnelaaGreat
