/- Parts. -/
import Derived.RecoverIn
import Derived.RangeFuncLeaves
import Derived.RangeFuncNested
import Derived.OrdersIn
import Derived.LoopNIn
import Derived.Test.YtjogffchdejabaaGreatDoorPp19
set_option linter.unusedVariables false
set_option linter.unusedSimpArgs false
set_option maxHeartbeats 4000000
namespace Go.Proofs.YtjogffchdejabaaGreatDoor
namespace Ev
open Go
section
variable {P : Program} {w0 w : World} {π : Pl} {s : St} {ρ : Operand → AV} {ρ' : Operand → Value}
theorem kM {h : T AObj} (hr : Rel w0 π h w) {i o m : Nat} {L : Loc} {wr : Bool} {cs l : List AV} (hL : π i = some L) (hi : h.get i = some (.cells wr cs)) (hl : takeO m (dropL o cs) = some l) :
  l = (cs.drop o).take m ∧ m ≤ cs.length - o ∧ ∃ vs, RepL π l vs ∧ vs.length = m ∧ ∀ j u, vs[j]? = some u → w.cell? ⟨L.b, L.o + o + j, none⟩ = some u := by
 obtain ⟨h1, h2⟩ := yY hl
 rw [bG] at h1 h2
 rw [List.length_drop] at h2
 obtain ⟨o', g1, rcs, T, fz, rfl, g2, g3, g4, g5⟩ := hr.obj i _ L hi hL
 refine ⟨h1, h2, (rcs.toList.drop (L.o + o)).take m, ?_, ?_, fun j u hj => ?_⟩
 ·by_cases hm : m = 0
  ·subst hm; rw [h1]; simp; exact RepL.nil
  ·refine RepL.of_get (by rw [h1]; simp; omega) fun j t v e1 e2 => ?_
   rw [h1, List.getElem?_take] at e1
   rw [List.getElem?_take] at e2
   split at e1
   ·rename_i hj
    rw [if_pos hj, List.getElem?_drop] at e2
    rw [List.getElem?_drop] at e1
    obtain ⟨u, e3, e4⟩ := g5 _ _ e1
    rw [show L.o + (o + j) = L.o + o + j by omega] at e3
    have e2' : rcs[L.o + o + j]? = some v := by simpa using e2
    rw [e3] at e2'
    cases e2'; exact e4
   ·cases e1
 ·by_cases hm : m = 0
  ·subst hm; simp
  ·simp; omega
 ·rw [List.getElem?_take] at hj
  split at hj
  ·rw [List.getElem?_drop] at hj
   have hj' : rcs[L.o + o + j]? = some u := by simpa using hj
   simpa [World.cell?, g1] using hj'
  ·cases hj
theorem one_of {l : List AV} {vs : List Value} (h : RepL π l vs) (hl : ∀ x ∈ l, x.leaf = true) : ∀ u ∈ vs, u.oneCell' = true := fun u hu => by
 obtain ⟨i, hi⟩ := List.mem_iff_getElem?.1 hu
 have hlt : i < l.length := by rw [← h.length]; exact (List.getElem?_eq_some_iff.1 hi).1
 obtain ⟨v, g1, g2⟩ := h.get (List.getElem?_eq_getElem hlt)
 rw [hi] at g1; cases g1
 exact g2.oneCell (hl _ (List.getElem_mem hlt))
theorem srcS_ok (hr : Rel w0 π s.h w) {β : Type} {sz t1 : Nat} {x : AV} {x' : Value} {d : TypeDesc} {f : List AV → Nat → Option β} {r : β} (hu : P.underlying t1 = some d) (hx : Rep π x x') (hl : srcS s sz x d f = some r) :
  ∃ new k news, f new k = some r ∧ Src P sz t1 x' k news w ∧ RepL π new news := by
 unfold srcS at hl
 split at hl
 ·split at hl
  ·rw [Rep] at hx
   subst hx
   exact ⟨[], 0, [], hl, Src.ofNil w hu 0, RepL.nil⟩
  ·rename_i i o z n c
   obtain ⟨h1, h2⟩ := uM hl
   have h1 := beq_eq h1
   subst h1
   obtain ⟨wr, cs, h3, h4⟩ := wW (show cellsOf s.h i _ = _ from h2)
   obtain ⟨l, h5, h6⟩ := uB h4
   obtain ⟨h7, h8⟩ := uM h6
   rw [Rep] at hx
   obtain ⟨L, m, a, hL, rfl, g1, _, g2, _⟩ := hx
   obtain ⟨e1, e2, vs, e3, e4, e5⟩ := kM hr hL h3 h5
   refine ⟨l, n, vs, h8, Src.ofSlice w hu ⟨L.b, a, none⟩ n m vs e4 (fun j u hj => ?_) (one_of e3 (wG h7)), e3⟩
   rw [yU]
   have : a = L.o + o := by
    rcases g2 with g2 | g2
    ·have : n = 0 := by omega
     subst this
     have hv : vs = [] := List.eq_nil_of_length_eq_zero (by rw [e4]; exact Nat.zero_mul _)
     subst hv; simp at hj
    ·exact g2
   rw [this]; exact e5 j u hj
  ·cases hl
 ·split at hl
  ·obtain ⟨h1, h2⟩ := uM hl
   have h1 := beq_eq h1
   subst h1
   rw [Rep] at hx
   obtain ⟨b, rfl, hb⟩ := hx
   refine ⟨_, _, byteCells b, h2, ?_, ?_⟩
   ·have := Src.ofString w hu b
    have e : b.size = len b.data.toList := by rw [wJ, Array.length_toList]; rfl
    rw [e, hb] at this
    exact this
   ·rw [yR, byteCells, hb]
    exact RepL.map fun x _ => by rw [Rep]
  ·cases hl
 ·cases hl
theorem iC {t t1 e : TypeId} {inf : TypeInfo} (ht : P.underlying t = some (.slice e)) (hi : P.info? e = some inf) {b off n m k : Nat} {x' : Value} {news : List Value} (hs : Src P inf.size t1 x' k news w) (hroom : n + k ≤ m) {cur : Array Value} {T : TypeId} (hg : w.heap[b]? = some (.cells cur T (0, 0)))
  (hfit : off + n * inf.size + news.length ≤ cur.size) (ty : TypeId) : (Builtin.append_ #[t, t1] ty #[.slice (some ⟨b, off, none⟩) n m, x']).run P w =
   .ok (.slice (some ⟨b, off, none⟩) (n + k) m) (w.setRow b (cur.toList.take (off + n * inf.size) ++ news ++ cur.toList.drop (off + n * inf.size + news.length)).toArray) := by
 have hst := run_storeCells_at P b (off + n * inf.size) T news 0 cur w hg (by simpa using hfit) hs.one
 simp only [Nat.add_zero] at hst
 rcases hs.kind with ⟨e', hk⟩ | hk <;> simp [Builtin.append_, run_underlying ht, run_underlying hk, sizeOf, typeInfo, hi, hs.len, hroom, hs.cells, Addr.add_lit, hst]
theorem iD {t t1 e : TypeId} {inf : TypeInfo} (ht : P.underlying t = some (.slice e)) (hi : P.info? e = some inf) {base : Option Addr} {n m : Nat} {x' : Value} {news : List Value} (hs : Src P inf.size t1 x' 0 news w) (hroom : n ≤ m) (ty : TypeId) :
  (Builtin.append_ #[t, t1] ty #[.slice base n m, x']).run P w = .ok (.slice base n m) w := by
 have hn : news = [] := List.eq_nil_of_length_eq_zero (by rw [hs.newsLen, Nat.zero_mul])
 subst hn
 cases base <;> rcases hs.kind with ⟨e', hk⟩ | hk <;> simp [Builtin.append_, run_underlying ht, run_underlying hk, sizeOf, typeInfo, hi, hs.len, hroom, hs.cells, storeCells]
theorem pF {cs : List AV} {vs : List Value} (h : RepL π cs vs) {z : Value} {e : TypeId} {q b : Nat} : ObjAt π ⟨b, 0, (vs.toArray ++ Builtin.zeroCells z.cells q).size⟩ (.cells (vs.toArray ++ Builtin.zeroCells z.cells q) e (0, 0)) (.cells true cs) :=
 ⟨_, e, (0, 0), rfl, rfl, fun _ => rfl, by have := h.length; simp; omega, fun i x hx => by
  obtain ⟨v, h1, h2⟩ := h.get hx
  refine ⟨v, ?_, h2⟩
  have hlt : i < vs.length := (List.getElem?_eq_some_iff.1 h1).1
  rw [Nat.zero_add, Array.getElem?_append_left (by simpa using hlt)]
  simpa using h1⟩
theorem appendS_ok (hf : Fresh π s) (hr : Rel w0 π s.h w) {t t1 e : TypeId} {inf : TypeInfo} {zv : Value} (ht : P.underlying t = some (.slice e)) (hi : P.info? e = some inf) (hz : inf.zero = some zv) (hzc : zv.cells.size = inf.size) (hb : inf.bytes ≤ 100000)
  {base : AV} {a' : Value} (ha : Rep π base a') {k : Nat} {x' : Value} {news : List Value} {new : List AV} (hs : Src P inf.size t1 x' k news w) (hn : RepL π new news) (hk : k ≤ 100000) {r : AV × St} (hl : appendS s inf.size base new k = some r) :
  ∃ v' π' w', (∀ ty, (Builtin.append_ #[t, t1] ty #[a', x']).run P w = .ok v' w') ∧ Rep π' r.1 v' ∧ Nx w0 π s π' r.2 w' := by
 have hfc := zV hf
 have hnl := hn.length
 have hnk := hs.newsLen
 -- a new row
 have grow : ∀ (ad : Option Addr) (n m : Nat) (olds : List Value) (old : List AV) (h' : T AObj), n ≤ 100000 → n ≤ m → m < n + k → a' = .slice ad n m → (Builtin.firstCells inf.size n (.slice ad n m)).run P w.drew = .ok olds.toArray w.drew → RepL π old olds → olds.length = n * inf.size →
   Rel w0 π h' w → (∀ j, π j = none → h'.get j = s.h.get j) → r = (.sl s.c 0 inf.size (n + k) none, ⟨h'.put s.c (.cells true (app old new)), Nat.succ s.c⟩) →
   ∃ v' π' w', (∀ ty, (Builtin.append_ #[t, t1] ty #[a', x']).run P w = .ok v' w') ∧ Rep π' r.1 v' ∧ Nx w0 π s π' r.2 w' := fun ad n m olds old h' hn1 hnm hlt hae hfirst hold hol hr' hh hre => by
  subst hae hre
  have hgr := fun ty => run_append_grow_src (P := P) w t t1 ty e inf zv ht hi hz ad n m olds hfirst x' k news hs hlt (by omega) (growslice_fits hlt (by
   have : (n + k) * inf.bytes ≤ 200000 * 100000 := Nat.mul_le_mul (by omega) hb
   omega))
  have hcap := grownCap_ge w (n + k) m e
  generalize grownCap w (n + k) m e = cap at hgr hcap
  have hrep := hold.append hn
  have hat := pF (π := π) hrep (z := zv) (e := e) (q := cap - (n + k)) (b := w.heap.size)
  rw [← xX old new] at hat
  have hsz : ((olds ++ news).toArray ++ Builtin.zeroCells zv.cells (cap - (n + k))).size = cap * inf.size := by
   simp only [Array.size_append, List.size_toArray, List.length_append, size_zeroCells, hzc, hol, hnk, ← Nat.add_mul]
   congr 1; omega
  have hrel : Rel w0 (π.upd s.c ⟨w.heap.size, 0, _⟩) (h'.put s.c (.cells true (app old new))) (w.drew.alloc (.cells ((olds ++ news).toArray ++ Builtin.zeroCells zv.cells (cap - (n + k))) e)) :=
   (hr'.world (w.drawn + 1)).new (dr := w.drawn + 1) hfc hat
  exact ⟨_, π.upd s.c ⟨w.heap.size, 0, _⟩, _, hgr, jJ (Pl.upd_self _ _ _) hcap (fun c' hc => by cases hc) (by rw [hsz]; exact Nat.le_refl _), Nx.new hf hh hrel⟩
 unfold appendS at hl
 split at hl
 ·-- nothing yet
  rw [Rep] at ha
  rcases xU hl with ⟨h1, h2⟩ | ⟨h1, h2⟩
  ·cases h2
   have h1 := beq_eq h1
   subst h1 ha
   exact ⟨_, π, w, fun ty => iD ht hi hs (Nat.le_refl _) ty, by rw [Rep], Nx.refl hf hr⟩
  ·cases h2
   have hk0 : k ≠ 0 := fun e => by rw [e] at h1; cases h1
   refine grow none 0 0 [] [] s.h (by omega) (Nat.le_refl _) (by omega) ha (run_firstCells_none w.drew inf.size 0 0 0) RepL.nil (by simp) hr (fun _ _ => rfl) ?_
   rw [Nat.zero_add]; rfl
 ·rename_i i o z n c
  obtain ⟨h1, h2⟩ := uM hl
  obtain ⟨h3, h4⟩ := band h1
  have h3 := beq_eq h3
  have h4 := vQ h4
  subst h3
  have ha0 := ha
  rw [Rep] at ha0
  obtain ⟨L, m, a, hL, rfl, g1, g2, g3, g4⟩ := ha0
  rcases xU h2 with ⟨h5, h6⟩ | ⟨h5, h6⟩
  ·cases h6
   have h5 := beq_eq h5
   subst h5
   exact ⟨_, π, w, fun ty => iD ht hi hs g1 ty, ha, Nx.refl hf hr⟩
  have hk0 : k ≠ 0 := fun e => by rw [e] at h5; cases h5
  have first : ∀ {wr : Bool} {cs old : List AV}, s.h.get i = some (.cells wr cs) → takeO (Nat.mul n inf.size) (dropL o cs) = some old → ∃ olds, (Builtin.firstCells inf.size n (.slice (some ⟨L.b, a, none⟩) n m)).run P w.drew = .ok olds.toArray w.drew ∧ RepL π old olds ∧ olds.length = n * inf.size := fun h7 h8 => by
   obtain ⟨e1, e2, vs, e3, e4, e5⟩ := kM hr hL h7 h8
   refine ⟨vs, run_firstCells_some w.drew inf.size n ⟨L.b, a, none⟩ n m vs e4 (fun j u hj => ?_), e3, e4⟩
   rw [yU]
   have hn0 : a = L.o + o := by
    rcases g3 with g3 | g3
    ·have : n = 0 := by omega
     subst this
     have hv : vs = [] := List.eq_nil_of_length_eq_zero (by rw [e4]; exact Nat.zero_mul _)
     subst hv; simp at hj
    ·exact g3
   rw [hn0]; exact e5 j u hj
  split at h6
  ·-- how much room there is, is known
   rename_i c
   have hm := g2 c rfl
   subst hm
   rcases xU h6 with ⟨h7, h8⟩ | ⟨h7, h8⟩
   ·obtain ⟨cs, h9, h10⟩ := aT h8
    obtain ⟨h11, h12⟩ := uM h10
    cases h12
    rw [wJ] at h11
    have h11 : o + (n + k) * inf.size ≤ cs.length := vQ h11
    have h7 : n + k ≤ m := vQ h7
    have ha' : a = L.o + o := by rcases g3 with g3 | g3 <;> omega
    subst ha'
    obtain ⟨ob, e1, hat⟩ := hr.obj i _ L h9 hL
    have hat0 := hat
    obtain ⟨rcs, T, fz, rfl, e2, e3, e4, e5⟩ := hat0
    have := e3 rfl
    subst this
    have hadd : (n + k) * inf.size = n * inf.size + k * inf.size := Nat.add_mul _ _ _
    obtain ⟨k1, k2⟩ := hat.over (o := o + n * inf.size) hn (by omega)
    rw [← Nat.add_assoc] at k1 k2
    refine ⟨_, π, _, fun ty => iC ht hi hs h7 e1 k1 ty, ?_, Nx.upd hf hr h9 hL (hr.upd h9 rfl hL (setRow_heap w L.b rcs _ T _ e1) (fun b hb => setRow_other w L.b b _ hb) (by simp [World.setRow]) rfl rfl rfl k2)⟩
    rw [Rep]
    exact ⟨L, m, _, hL, rfl, h7, fun c' hc => by cases hc; rfl, Or.inr rfl, g4⟩
   ·have h7' : m < n + k := by
     rcases Nat.lt_or_ge m (n + k) with hh | hh
     ·exact hh
     ·rw [show Nat.ble (Nat.add n k) m = true from Nat.ble_eq_true_of_le hh] at h7; cases h7
    obtain ⟨wr, cs, h9, h10⟩ := wW (show cellsOf s.h i _ = _ from h8)
    obtain ⟨old, h11, h12⟩ := uB h10
    cases h12
    obtain ⟨olds, f1, f2, f3⟩ := first h9 h11
    exact grow _ n m olds old s.h h4 g1 h7' rfl f1 f2 f3 hr (fun _ _ => rfl) rfl
  ·-- it is not
   obtain ⟨cs, h9, h10⟩ := aT h6
   obtain ⟨old, h11, h12⟩ := uB h10
   cases h12
   obtain ⟨olds, f1, f2, f3⟩ := first h9 h11
   have hdel : ∀ j, π j = none → (s.h.del i).get j = s.h.get j := fun j hj => T.del_ne _ (fun e => by rw [e, hL] at hj; cases hj)
   by_cases hroom : n + k ≤ m
   ·-- in place
    have ha' : a = L.o + o := by rcases g3 with g3 | g3 <;> omega
    subst ha'
    obtain ⟨ob, e1, hat⟩ := hr.obj i _ L h9 hL
    have hat0 := hat
    obtain ⟨rcs, T, fz, rfl, e2, e3, e4, e5⟩ := hat0
    have := e3 rfl
    subst this
    have hadd : (n + k) * inf.size = n * inf.size + k * inf.size := Nat.add_mul _ _ _
    have hmul : (n + k) * inf.size ≤ m * inf.size := Nat.mul_le_mul_right _ hroom
    obtain ⟨c1, c2, vs, c3, c4, c5⟩ := kM hr hL h9 h11
    have k1 : L.o + o + n * inf.size + news.length ≤ rcs.size := by omega
    have holdl : old.length = n * inf.size := by rw [← c3.length, c4]; rfl
    let rcs' := (rcs.toList.take (L.o + o + n * inf.size) ++ news ++ rcs.toList.drop (L.o + o + n * inf.size + news.length)).toArray
    have hsz : rcs'.size = rcs.size := by simp only [rcs', List.size_toArray, List.length_append, List.length_take, List.length_drop, Array.length_toList]; omega
    have hat2 : ObjAt π ⟨L.b, L.o + o, L.N⟩ (.cells rcs' T (0, 0)) (.cells true (app old new)) := by
     refine ⟨rcs', T, (0, 0), rfl, hsz.trans e2, fun _ => rfl, by rw [xX, List.length_append]; simp only; omega, fun j x hx => ?_⟩
     rw [xX] at hx
     simp only [rcs', List.getElem?_toArray, List.append_assoc]
     by_cases c : j < n * inf.size
     ·rw [List.getElem?_append_left (by omega)] at hx
      obtain ⟨v, q1, q2⟩ := c3.get hx
      refine ⟨v, ?_, q2⟩
      have q3 := c5 j v q1
      simp only [World.cell?, e1] at q3
      rw [List.getElem?_append_left (by simp; omega), List.getElem?_take, if_pos (by omega)]
      simpa using q3
     ·rw [List.getElem?_append_right (by omega)] at hx
      obtain ⟨v, q1, q2⟩ := hn.get hx
      refine ⟨v, ?_, q2⟩
      have hlt : j - old.length < news.length := (List.getElem?_eq_some_iff.1 q1).1
      have e6 : (rcs.toList.take (L.o + o + n * inf.size)).length = L.o + o + n * inf.size := by simp; omega
      rw [List.getElem?_append_right (by rw [e6]; omega), e6, List.getElem?_append_left (by omega)]
      rw [show L.o + o + j - (L.o + o + n * inf.size) = j - old.length by omega]; exact q1
    have hrel : Rel w0 (π.upd s.c ⟨L.b, L.o + o, L.N⟩) ((s.h.del i).put s.c (.cells true (app old new))) (w.setRow L.b rcs') :=
     (hr.del i).name (L := ⟨L.b, L.o + o, L.N⟩) hfc (setRow_heap w L.b rcs _ T _ e1) (fun b _ hb => setRow_other w L.b b _ hb) (by simp [World.setRow]) rfl rfl rfl hat2 (hr.own i _ L h9 hL rfl) fun j q M hj hM eb => by
      rw [Ev.T.get_del] at hj
      split at hj
      ·cases hj
      ·rename_i hji
       exact hji (hr.inj i j _ q L M h9 hj hL hM rfl eb.symm).symm
    refine ⟨_, π.upd s.c ⟨L.b, L.o + o, L.N⟩, _, fun ty => iC ht hi hs hroom e1 k1 ty, ?_, Nx.new hf hdel hrel⟩
    rw [Rep]
    exact ⟨_, m, _, Pl.upd_self _ _ _, rfl, hroom, fun c' hc => (by cases hc), Or.inr rfl, by simpa using g4⟩
   ·exact grow _ n m olds old (s.h.del i) h4 g1 (by omega) rfl f1 f2 f3 (hr.del i) hdel rfl
 ·cases hl
end
end Ev
namespace Ev
open Go
section
variable {P : Program} {w0 w : World} {π : Pl} {s : St} {ρ : Operand → AV} {ρ' : Operand → Value}
theorem dT {z : List AV} {zv : Value} {sz : Nat} (h : RepL π z zv.cells.toList) (hs : zv.cells.size = sz) (hpos : 1 ≤ sz) (k : Nat) : RepL π (rep k z) (Builtin.zeroCells zv.cells k).toList := by
 have hf := dJ (z := zv) rfl (by simpa using hs) hpos k
 have e : (Builtin.zeroCells zv.cells k).toList = (List.replicate k zv.cells.toList).flatten := by
  rw [← hf, Builtin.zeroCells, hs]
 rw [e]
 exact mW h k
theorem append_zeros {t t1 e : TypeId} {inf : TypeInfo} {zv : Value} {q : IntKind} (ht : P.underlying t = some (.slice e)) (h1 : P.underlying t1 = some (.int q)) (hi : P.info? e = some inf) (hz : inf.zero = some zv) (hb : inf.bytes ≤ 100000) {k : Nat} {kk : IntKind} (hk : k ≤ 100000) (h0 : 0 < k) (hpos : 1 ≤ inf.size) (ty : TypeId) :
  (Builtin.append_ #[t, t1] ty #[.slice none 0 0, .int kk (k : Int)]).run P w =
   .ok (.slice (some ⟨w.heap.size, 0, none⟩) k (grownCap w k 0 e)) (w.drew.alloc (.cells ((Builtin.zeroCells zv.cells k) ++ Builtin.zeroCells zv.cells (grownCap w k 0 e - k)) e)) := by
 have hw : IntKind.i64.wrap (k : Int) = (k : Int) := by rw [IntKind.wrap_i64]; omega
 have hbm : k * inf.bytes ≤ 100000 * 100000 := Nat.mul_le_mul hk hb
 have hbI : ¬ (281474976710656 < (k : Int) * (inf.bytes : Int)) := by rw [← Int.natCast_mul]; omega
 have hnz : ¬ (k * inf.size = 0) := fun e => by rcases Nat.mul_eq_zero.1 e with e | e <;> omega
 have h63 : ¬ ((9223372036854775807 : Int) < (k : Int)) := by omega
 have hcap : ¬ (281474976710656 < Builtin.nextslicecap k 0 * inf.bytes) := by
  have := growslice_fits (bytes := inf.bytes) (old := 0) h0 (by omega)
  omega
 have hk0 : k ≠ 0 := by omega
 have hkn : ¬ ((k : Int) < 0) := by omega
 simp [Builtin.append_, run_underlying ht, run_underlying h1, sizeOf, typeInfo, zeroValue, hi, hz, asInt, asIntOf, hw, hbI, hk0, hkn, h63, hcap, hnz, Question.forced, newRow, grownCap, Builtin.firstCells]
theorem hAppend_ok (hρ : ∀ x, Rep π (ρ x) (ρ' x)) (hf : Fresh π s) (hr : Rel w0 π s.h w) {tys : Array TypeId} {args : Array Operand} {r : AV × St} (hl : hAppend P ρ s tys args.toList = some r) : HOk P w0 π s ρ' w (.call ⟨.builtin .append, args, tys⟩) r.1 r.2 := by
 obtain ⟨tys⟩ := tys
 obtain ⟨args⟩ := args
 unfold hAppend at hl
 split at hl
 ·rename_i t t1 hty
  simp only at hty
  subst hty
  split at hl
  ·rename_i a x ha
   simp only at ha
   subst ha
   obtain ⟨e, h1, h2⟩ := zN hl
   obtain ⟨inf, h3, h4⟩ := vU h2
   obtain ⟨h5, h6⟩ := uM h4
   obtain ⟨h7, h8⟩ := band h5
   have h8 : 1 ≤ inf.size := vQ h8
   have hb : inf.bytes ≤ 100000 := by
    have := vQ h7
    simpa [bytesT, h3] using this
   obtain ⟨z, h9, h10⟩ := uB h6
   obtain ⟨d, h11, h12⟩ := uB h10
   obtain ⟨inf', zv, g1, g2, g3, g4, g5, g6, _⟩ := yI (π := π) h9
   rw [h3] at g1; cases g1
   have fin : (∃ v' π' w', (∀ ty, (Builtin.append_ #[t, t1] ty #[ρ' a, ρ' x]).run P w = .ok v' w') ∧ Rep π' r.1 v' ∧ Nx w0 π s π' r.2 w') → HOk P w0 π s ρ' w (.call ⟨.builtin .append, ⟨[a, x]⟩, ⟨[t, t1]⟩⟩) r.1 r.2 := fun ⟨v', π', w', e1, e2, e3⟩ =>
    ⟨v', π', w', .value v', fun _ T _ _ _ => by simp only [execOp, resolve, List.map_toArray, List.map_cons, List.map_nil, Sem.run_bind, Sem.run_pure, Result.andThen_ok, invoke, builtin, e1 T], Or.inl rfl, e2, e3⟩
   refine fin ?_
   rcases xU h12 with ⟨h13, h14⟩ | ⟨h13, h14⟩
   ·cases d <;> first | (cases h13; done) | skip
    rename_i q
    obtain ⟨kk, k, e1, e2⟩ := yH h14
    obtain ⟨e3, e4⟩ := uM e2
    have e3 := vQ e3
    have hx := hρ x
    rw [e1] at hx
    have hx : ρ' x = .int kk (k : Int) := vD hx
    have ha := hρ a
    unfold growS at e4
    split at e4
    ·rename_i ea
     rw [ea, Rep] at ha
     rcases xU e4 with ⟨e5, e6⟩ | ⟨e5, e6⟩
     ·cases e6
      have e5 := beq_eq e5
      subst e5
      refine ⟨.slice none 0 0, π, w, fun ty => ?_, by rw [Rep], Nx.refl hf hr⟩
      rw [ha, hx]
      have hw : IntKind.i64.wrap 0 = 0 := by rw [IntKind.wrap_i64]; omega
      simp [Builtin.append_, run_underlying h1, run_underlying h11, sizeOf, typeInfo, h3, asInt, asIntOf, hw]
     ·cases e6
      have hk0 : 0 < k := by
       rcases Nat.eq_zero_or_pos k with hh | hh
       ·rw [hh] at e5; cases e5
       ·exact hh
      have hz := dT g3 g5 h8 k
      have hgr := fun ty => append_zeros (w := w) (kk := kk) h1 h11 h3 g2 hb e3 hk0 h8 ty
      have hcap := grownCap_ge w k 0 e
      generalize grownCap w k 0 e = cap at hgr hcap
      have hat := pF (π := π) hz (z := zv) (e := e) (q := cap - k) (b := w.heap.size)
      simp only [Array.toArray_toList] at hat
      have hrel : Rel w0 (π.upd s.c ⟨w.heap.size, 0, _⟩) (s.h.put s.c (.cells true (rep k z))) (w.drew.alloc (.cells (Builtin.zeroCells zv.cells k ++ Builtin.zeroCells zv.cells (cap - k)) e)) :=
       (hr.world (w.drawn + 1)).new (dr := w.drawn + 1) (zV hf) hat
      have hsz : (Builtin.zeroCells zv.cells k ++ Builtin.zeroCells zv.cells (cap - k)).size = cap * inf.size := by
       simp only [Array.size_append, size_zeroCells, g5, ← Nat.add_mul]
       congr 1; omega
      exact ⟨_, π.upd s.c ⟨w.heap.size, 0, _⟩, _, fun ty => (by rw [ha, hx]; exact hgr ty), jJ (Pl.upd_self _ _ _) hcap (fun c' hc => by cases hc) (by rw [hsz]; exact Nat.le_refl _), Nx.new hf (fun _ _ => rfl) hrel⟩
    ·cases e4
   ·obtain ⟨new, k, news, e1, e2, e3⟩ := srcS_ok hr h11 (hρ x) h14
    obtain ⟨e4, e5⟩ := uM e1
    exact appendS_ok hf hr h1 h3 g2 g5 hb (hρ a) e2 e3 (vQ e4) e5
  ·cases hl
 ·cases hl
theorem hClear_ok (hρ : ∀ x, Rep π (ρ x) (ρ' x)) (hf : Fresh π s) (hr : Rel w0 π s.h w) {tys : Array TypeId} {args : Array Operand} {r : AV × St} (hl : hClear P ρ s tys args.toList = some r) : HOk P w0 π s ρ' w (.call ⟨.builtin .clear, args, tys⟩) r.1 r.2 := by
 obtain ⟨tys⟩ := tys
 obtain ⟨args⟩ := args
 unfold hClear at hl
 split at hl
 ·rename_i t hty
  simp only at hty
  subst hty
  split at hl
  ·rename_i a ha
   simp only at ha
   subst ha
   obtain ⟨e, h1, h2⟩ := zN hl
   have hx := hρ a
   have fin : ∀ {w' : World}, (∀ ty, (Builtin.clear_ #[t] ty #[ρ' a]).run P w = .ok (.tuple #[]) w') → r.1 = .tup [] → Nx w0 π s π r.2 w' → HOk P w0 π s ρ' w (.call ⟨.builtin .clear, ⟨[a]⟩, ⟨[t]⟩⟩) r.1 r.2 := fun {w'} e1 e2 e3 => by
    rw [e2]
    exact ⟨undef, π, w', .value undef, fun _ T _ _ _ => by simp only [execOp, resolve, List.map_toArray, List.map_cons, List.map_nil, Sem.run_bind, Sem.run_pure, Result.andThen_ok, invoke, builtin, e1 T]; rfl, Or.inl rfl, yK π, e3⟩
   split at h2
   ·rename_i ea
    cases h2
    rw [ea, Rep] at hx
    exact fin (fun ty => by rw [hx]; simp [Builtin.clear_, run_underlying h1]) rfl (Nx.refl hf hr)
   ·rename_i i o z n c ea
    rw [ea, Rep] at hx
    obtain ⟨L, m, ad, hL, hx, g1, g2, g3, g4⟩ := hx
    rcases xU h2 with ⟨h3, h4⟩ | ⟨h3, h4⟩
    ·cases h4
     have h3 := beq_eq h3
     subst h3
     exact fin (fun ty => by rw [hx]; simp [Builtin.clear_, run_underlying h1]) rfl (Nx.refl hf hr)
    ·obtain ⟨inf, h5, h6⟩ := vU h4
     obtain ⟨zs, h7, h8⟩ := uB h6
     obtain ⟨cs, h9, h10⟩ := aT h8
     obtain ⟨h11, h12⟩ := uM h10
     cases h12
     obtain ⟨h13, h14⟩ := band h11
     obtain ⟨h15, h16⟩ := band h13
     have h15 := beq_eq h15
     subst h15
     have h16 : 1 ≤ inf.size := vQ h16
     rw [wJ] at h14
     have h14 : o + n * inf.size ≤ cs.length := vQ h14
     have hn0 : n ≠ 0 := fun e => by rw [e] at h3; cases h3
     have had : ad = L.o + o := by rcases g3 with g3 | g3 <;> omega
     subst had
     obtain ⟨inf', zv, f1, f2, f3, f4, f5, f6, _⟩ := yI (π := π) h7
     rw [h5] at f1; cases f1
     have hz := dT f3 f5 h16 n
     obtain ⟨ob, e1, hat⟩ := hr.obj i _ L h9 hL
     have hat0 := hat
     obtain ⟨rcs, Ty, fz, rfl, e2, e3, e4, e5⟩ := hat0
     have := e3 rfl
     subst this
     have hzl : (rep n zs).length = n * inf.size := by rw [← hz.length, Array.length_toList, size_zeroCells, f5]
     obtain ⟨k1, k2⟩ := hat.over (o := o) hz (by omega)
     have hone : ∀ u ∈ (Builtin.zeroCells zv.cells n).toList, u.oneCell' = true := fun u hu => by
      have hff := dJ (z := zv) rfl (by simpa using f5) h16 n
      have e : (Builtin.zeroCells zv.cells n).toList = (List.replicate n zv.cells.toList).flatten := by rw [← hff, Builtin.zeroCells, f5]
      rw [e] at hu
      obtain ⟨l, hl, hu⟩ := List.mem_flatten.1 hu
      rw [(List.mem_replicate.1 hl).2] at hu
      exact f4 u hu
     have hst := run_storeCells_at P L.b (L.o + o) Ty (Builtin.zeroCells zv.cells n).toList 0 rcs w e1 (by simpa using k1) hone
     simp only [Nat.add_zero] at hst
     refine fin (fun ty => ?_) rfl (Nx.upd hf hr h9 hL (hr.upd h9 rfl hL (setRow_heap w L.b rcs _ Ty _ e1) (fun b hb => setRow_other w L.b b _ hb) (by simp [World.setRow]) rfl rfl rfl k2))
     rw [hx]
     obtain ⟨n', rfl⟩ : ∃ n', n = n' + 1 := ⟨n - 1, by omega⟩
     simp only [Builtin.clear_, List.getElem?_toArray, List.getElem?_cons_zero, Sem.run_bind, run_underlying h1, Result.andThen_ok, bA h5 f2, hst, Sem.run_pure]
   ·cases h2
  ·cases hl
 ·cases hl
end
end Ev
namespace Ev
open Go
inductive RepD (π : Pl) : AV × List AV → Deferred → Prop where
 | mark (d : Nat) (D : Loc) (h : π d = some D) : RepD π (.bad, [.int .i64 (.ofNat d)]) { target := .collected D.b, args := #[] }
 | fn (g : FuncId) (fi ca args : List AV) (vs us as : Array Value) (h1 : RepL π fi vs.toList) (h2 : RepL π ca us.toList) (h3 : RepL π args as.toList) : RepD π (.fn g fi ca, args) { target := .fn (.func g) us, args := vs ++ as }
inductive RepDs (π : Pl) : List (AV × List AV) → List Deferred → Prop where
 | nil : RepDs π [] []
 | cons {x : AV × List AV} {d : Deferred} {xs : List (AV × List AV)} {ds : List Deferred} (h : RepD π x d) (h' : RepDs π xs ds) : RepDs π (x :: xs) (d :: ds)
theorem RepD.mono {π π' : Pl} (h : π.le π') {x : AV × List AV} {d : Deferred} (hr : RepD π x d) : RepD π' x d := by
 cases hr with
 | mark d D h1 => exact .mark d D (h _ _ h1)
 | fn g fi ca args vs us as h1 h2 h3 => exact .fn g fi ca args vs us as (h1.mono h) (h2.mono h) (h3.mono h)
theorem RepDs.mono {π π' : Pl} (h : π.le π') {xs : List (AV × List AV)} {ds : List Deferred} (hr : RepDs π xs ds) : RepDs π' xs ds := by
 induction hr with
 | nil => exact .nil
 | cons h1 _ ih => exact .cons (h1.mono h) ih
structure FrR (π : Pl) (tm : T AV) (fx : Fx) (a : Act) : Prop where
 size : a.tmps.size = fx.n
 tm : TmRel π tm a.tmps
 df : RepDs π fx.df a.defers
theorem FrR.mono {π π' : Pl} (h : π.le π') {tm : T AV} {fx : Fx} {a : Act} (hr : FrR π tm fx a) : FrR π' tm fx a := ⟨hr.size, hr.tm.mono h, hr.df.mono h⟩
theorem FrR.put {π : Pl} {tm : T AV} {fx : Fx} {a : Act} (hr : FrR π tm fx a) {dst : Option Tmp} (hd : dstOk fx.n dst = true) {x : AV} {v : Value} (hx : Rep π x v) : FrR π (putD tm dst x) fx (a.put dst v) := by
 cases dst with
 | none => exact hr
 | some d =>
  have hd : d < fx.n := xW hd
  exact ⟨by show (a.tmps.setIfInBounds d v).size = _; rw [Array.size_setIfInBounds]; exact hr.size, hr.tm.put (by rw [hr.size]; exact hd) hx, hr.df⟩
theorem FrR.ev {π : Pl} {tm : T AV} {fx : Fx} {a : Act} (hr : FrR π tm fx a) (x : Operand) : Rep π (evO tm x) (a.eval x) := by
 cases x with
 | tmp t =>
  show Rep π (od (tm.get t) .bad) (a.tmps.getD t undef)
  cases h : tm.get t with
  | none => show Rep π .bad _; rw [Rep]; trivial
  | some y =>
   obtain ⟨v, h1, h2⟩ := hr.tm t y h
   show Rep π y _
   rw [Array.getD_eq_getD_getElem?, h1]; exact h2
 | const v => exact nC π v
 | global g => show Rep π .bad _; rw [Rep]; trivial
 | func f => show Rep π (.fn f [] []) _; rw [Rep]; exact ⟨#[], #[], rfl, RepL.nil, RepL.nil⟩
def wideR (ro : Option Nat) : Fence := { Fence.wide with round := ro }
def RoR (π : Pl) (ro : Option Nat) (ro' : Option Nat) : Prop := match ro with
 | none => ro' = none
 | some l => ∃ L, π l = some L ∧ ro' = some L.b
theorem RoR.mono {π π' : Pl} (h : π.le π') {ro ro' : Option Nat} (hr : RoR π ro ro') : RoR π' ro ro' := by
 cases ro with
 | none => exact hr
 | some l => obtain ⟨L, h1, h2⟩ := hr; exact ⟨L, h _ _ h1, h2⟩
def ExR (π : Pl) : Ex → Exit → Prop
 | .nrm, e => e = .normal
 | .ret, e => e = .ret
 | .exit i, e => e = .exit i
 | .pan v, e => ∃ v', e = .panic [{ v := v', recovered := false }] ∧ Rep π v v'
def CrR (π : Pl) : CR → Ending → Prop
 | .ret v, e => ∃ v', e = .returned v' ∧ Rep π v v'
 | .pan v, e => ∃ v', e = .panicked [{ v := v', recovered := false }] ∧ Rep π v v'
def PanR (π : Pl) (p : Option AV) (u : FrameMode) : Prop := match p with
 | none => u = .returning
 | some v => ∃ v', u = .panicking [{ v := v', recovered := false }] ∧ Rep π v v'
def Enters (P : Program) (f : FuncId) : Prop := ∃ fn, P.funcs[f]? = some fn ∧ (fn.name == "runtime.NumGoroutine") = false ∧ fn.body.isNone = false
def Ends (w0 : World) (π : Pl) (s : St) (e' : Exit) (a' : Act) (w' : World) : XR → Prop
 | .mk e tm' fx' s' => ∃ π', Nx w0 π s π' s' w' ∧ FrR π' tm' fx' a' ∧ ExR π' e e'
def SoundL (P : Program) (b : Code) (tm : T AV) (fx : Fx) (s : St) (r : XR) : Prop := ∃ m, ∀ (Q : Exit → Act → World → Prop) w0 π a w ro', FrR π tm fx a → RoR π fx.ro ro' → Fresh π s → Rel w0 π s.h w →
 (∀ e' a' w', Ends w0 π s e' a' w' r → Q e' a' w') → Code.roundsIn (wideR ro') 0 P b Q m a w
def SoundC (P : Program) (c : Code) (tm : T AV) (fx : Fx) (s : St) : XR → Prop
 | .mk e tm' fx' s' => ∀ w0 π a w ro', FrR π tm fx a → RoR π fx.ro ro' → Fresh π s → Rel w0 π s.h w →
   c.wpIn (wideR ro') 0 P (fun e' a' w' => ∃ π', Nx w0 π s π' s' w' ∧ FrR π' tm' fx' a' ∧ ExR π' e e') a w
def SoundF (P : Program) (f : FuncId) (args : List AV) (s : St) : KR → Prop
 | .mk r s' => Enters P f ∧ ∀ w0 π (args' : Array Value) w, RepL π args args'.toList → Fresh π s → Rel w0 π s.h w → Calls P f args' w (fun e w' => ∃ π', Nx w0 π s π' s' w' ∧ CrR π' r e)
def SoundD (P : Program) (f : FuncId) (args : List AV) (p : Option AV) (s : St) (r : Option AV × St) : Prop :=
 Enters P f ∧ ∀ w0 π (args' : Array Value) w u, RepL π args args'.toList → PanR π p u → Fresh π s → Rel w0 π s.h w → CallsDIn Fence.wide 0 P f args' u w (fun e u' w' => (∃ x, e = .returned x) ∧ ∃ π', Nx w0 π s π' r.2 w' ∧ PanR π' r.1 (settle u'))
def FxOk (fx : Fx) : OR → Prop
 | .go _ fx' _ => fx'.n = fx.n ∧ fx'.ro = fx.ro
 | .pan _ _ fx' _ => fx'.n = fx.n ∧ fx'.ro = fx.ro
def FxX (fx : Fx) : XR → Prop
 | .mk _ _ fx' _ => fx'.n = fx.n ∧ fx'.ro = fx.ro
structure IHOk (P : Program) (ih : IH) : Prop where
 fx : ∀ c tm fx s r, ih.code c tm fx s = some r → FxX fx r
 code : ∀ c tm fx s r, ih.code c tm fx s = some r → SoundC P c tm fx s r
 loop : ∀ b tm fx s r, ih.code (.loop b) tm fx s = some r → SoundL P b tm fx s r
 call : ∀ f args s r, ih.call f args s = some r → SoundF P f args s r
 dcall : ∀ f args p s r, ih.dcall f args p s = some r → SoundD P f args p s r
def KrR (w0 : World) (π : Pl) (s : St) (e : Ending) (w' : World) : KR → Prop
 | .mk r s' => ∃ π', Nx w0 π s π' s' w' ∧ CrR π' r e
def CallV (P : Program) (f : FuncId) (args : Array Value) (w : World) (R : Ending → World → Prop) : Prop :=
 (∃ v w', (callFunc f args).run P w = .ok (.value v) w' ∧ R (.returned v) w') ∨ (Enters P f ∧ Calls P f args w R)
def OraOk (P : Program) (O : Ora) : Prop := ∀ f args s r, O f args s = some r → ∀ w0 π (args' : Array Value) w, RepL π args args'.toList → Fresh π s → Rel w0 π s.h w →
 CallV P f args' w (fun e w' => ∃ π', Nx w0 π s π' r.2 w' ∧ ∃ v', e = .returned v' ∧ Rep π' r.1 v')
theorem cY {P : Program} {f : FuncId} (he : Enters P f) (args : Array Value) (w : World) : (callFunc f args).run P w = .ok (.enter f args) w := by
 obtain ⟨fn, h1, h2, h3⟩ := he
 simp only [callFunc, Sem.run_bind, run_program, Result.andThen_ok, h1, h2, h3, Bool.false_eq_true, if_false, Sem.run_pure]
section
variable {P : Program} {ih : IH} {w0 w : World} {π : Pl} {s : St}
theorem zP {β : Type} {h : T AObj} {l : Nat} {f : LoopState → Option Code → Nat → T AV → Array Tmp → Code → Code → Nat → Option β} {r : β} (hh : loopOf h l f = some r) : ∃ st pend n tm ps asg body d, h.get l = some (.loop st pend n tm ps asg body d) ∧ f st pend n tm ps asg body d = some r := by
 obtain ⟨o, h1, h2⟩ := uB hh
 cases o <;> first | (cases h2; done) | exact ⟨_, _, _, _, _, _, _, _, h1, h2⟩
theorem oI {n : Nat} : ∀ {ps : List Tmp} {args : List AV} {tm tm' : T AV} {a : Array Value} {vs : List Value}, setPs ps args tm = some tm' → (∀ p ∈ ps, p < n) → a.size = n → TmRel π tm a → RepL π args vs →
  args.length = ps.length ∧ TmRel π tm' ((ps.zip vs).foldl (fun t (p, v) => t.setIfInBounds p v) a) ∧ ((ps.zip vs).foldl (fun t (p, v) => t.setIfInBounds p v) a).size = n
 | [], [], tm, tm', a, vs, h, _, hs, ht, hv => by
  cases h
  rw [RepL] at hv; subst hv
  exact ⟨rfl, ht, hs⟩
 | [], _ :: _, _, _, _, _, h, _, _, _, _ => by cases h
 | _ :: _, [], _, _, _, _, h, _, _, _, _ => by cases h
 | p :: ps, x :: args, tm, tm', a, vs, h, hp, hs, ht, hv => by
  rw [RepL] at hv
  obtain ⟨v, us, rfl, h1, h2⟩ := hv
  obtain ⟨e1, e2, e3⟩ := oI (tm := tm.put p x) (a := a.setIfInBounds p v) (show setPs ps args (tm.put p x) = some tm' from h) (fun q hq => hp q (by simp [hq])) (by rw [Array.size_setIfInBounds]; exact hs) (ht.put (by rw [hs]; exact hp p (by simp)) h1) h2
  exact ⟨by simp [e1], by simpa using e2, by simpa using e3⟩
theorem Rel.setLoop {h : T AObj} (hr : Rel w0 π h w) {l : Nat} {L : Loc} {o : AObj} {r r' : Loop} {o' : AObj} (hl : h.get l = some o) (ho : o.rw = true) (hL : π l = some L) (hb : w.heap[L.b]? = some (.loop r)) (hat : ObjAt π L (.loop r') o') : Rel w0 π (h.put l o') (w.putObj L.b (.loop r')) :=
 hr.upd hl ho hL (World.putObj_heap_same (Array.getElem?_eq_some_iff.1 hb).1) (fun b hne => World.putObj_heap_other hne) World.putObj_size rfl rfl rfl hat
theorem roundS_ok (hih : IHOk P ih) {l : Nat} {args : List AV} {r : KR} (hl : roundS ih l args s = some r) {L : Loc} (hL : π l = some L) {vs : Array Value} (hv : RepL π args vs.toList) (hf : Fresh π s) (hr : Rel w0 π s.h w) :
  ∃ fn tmps asg body, (Instr.yield L.b vs).run P w = .ok (.round L.b fn tmps asg body) w ∧ RoundIn Fence.wide 0 P L.b fn tmps asg body w (fun e w' => KrR w0 π s e w' r) := by
 obtain ⟨st, pend, n, tm, ps, asg, body, d, h1, h2⟩ := zP hl
 obtain ⟨h3, h4⟩ := uM h2
 obtain ⟨tm1, h5, h6⟩ := uB h4
 obtain ⟨x, h7, h8⟩ := uB h6
 obtain ⟨ob, g1, fn, tmps, D, rfl, g2, g3, g4⟩ := hr.obj l _ L h1 hL
 have hps : ∀ p ∈ ps.toList, p < n := fun p hp => xW (wG h3 p hp)
 obtain ⟨e1, e2, e3⟩ := oI h5 hps g2 g3 hv
 have hsz : vs.size = ps.size := by have := hv.eqs; have := e1; simp at this; omega
 have hy := run_yield (P := P) (args := vs) g1 hsz
 have hfold : (ps.zip vs).foldl (fun tmps (t, a) => tmps.setIfInBounds t a) tmps = (ps.toList.zip vs.toList).foldl (fun t (p, v) => t.setIfInBounds p v) tmps := by
  rw [← Array.foldl_toList, Array.toList_zip]
 refine ⟨fn, _, asg, body, hy, ?_⟩
 dsimp only
 rw [hfold]
 refine roundIn_of_wpIn trivial ?_
 split at h8
 ·rename_i tm2 fx2 s2
  have q3 := hih.code _ _ _ _ _ h7
  obtain ⟨q1, q2⟩ := hih.fx _ _ _ _ _ h7
  refine wpIn_mono (q3 w0 π { tmps := (ps.toList.zip vs.toList).foldl (fun t (p, v) => t.setIfInBounds p v) tmps, defers := [] } w (some L.b) ⟨e3, e2, .nil⟩ ⟨L, hL, rfl⟩ hf hr) fun e a1 w1 ⟨π1, k1, k2, k3⟩ => ?_
  have k3 : e = .normal := k3
  subst k3
  obtain ⟨st2, pend2, n2, tm02, ps2, asg2, body2, d2, f1, f2⟩ := zP h8
  obtain ⟨f3, f4⟩ := uM f2
  obtain ⟨y, f5, f6⟩ := uB f4
  obtain ⟨ob2, m1, fn2, tmps2, D2, rfl, m2, m3, m4⟩ := k1.rel.obj l _ L f1 (k1.le _ _ hL)
  have hst : st2 = .ready := by cases st2 <;> first | rfl | (cases f3; done)
  subst hst
  refine ⟨_, run_beginRound m1 rfl, ?_⟩
  have hr2 := Rel.setLoop k1.rel f1 rfl (k1.le _ _ hL) (r' := { state := .busy, pending := pend2, fn := fn2, tmps := tmps2, params := ps2, assign := asg2, body := body2, defers := D2.b }) (o' := .loop .busy pend2 n2 tm02 ps2 asg2 body2 d2) m1 ⟨fn2, tmps2, D2, rfl, m2, m3, m4⟩
  have n2' := Nx.upd k1.fresh k1.rel f1 (k1.le _ _ hL) hr2
  split at f6
  rename_i e3 tm3 fx3 s3
  have q6 := hih.code _ _ _ _ _ f5
  refine wpIn_mono (q6 w0 π1 a1 _ (some L.b) k2 (by rw [q2]; exact ⟨L, k1.le _ _ hL, rfl⟩) n2'.fresh n2'.rel) fun e4 a4 w4 ⟨π4, p1, p2, p3⟩ => ?_
  have nx4 := (k1.trans n2').trans p1
  obtain ⟨st5, pend5, n5, tm5, ps5, asg5, body5, d5, f7, f8⟩ := zP f6
  have hL4 := nx4.le _ _ hL
  obtain ⟨ob5, m5, fn5, tmps5, D5, rfl, m6, m7, m8⟩ := p1.rel.obj l _ L f7 hL4
  have last : ∀ (j : Option Code) (st6 : LoopState), st6 = (if j.isNone then .ready else .done) → Nx w0 π s π4 ⟨s3.h.put l (.loop st6 j n5 tm5 ps5 asg5 body5 d5), s3.c⟩ (w4.putObj L.b (.loop { state := if j.isNone then .ready else .done, pending := j, fn := fn5, tmps := tmps5, params := ps5, assign := asg5, body := body5, defers := D5.b })) := fun j st6 e6 => by
   subst e6
   have hr5 := Rel.setLoop p1.rel f7 rfl hL4 (r' := { state := if j.isNone then .ready else .done, pending := j, fn := fn5, tmps := tmps5, params := ps5, assign := asg5, body := body5, defers := D5.b }) (o' := .loop (if j.isNone then .ready else .done) j n5 tm5 ps5 asg5 body5 d5) m5 ⟨fn5, tmps5, D5, rfl, m6, m7, m8⟩
   exact nx4.trans (Nx.upd p1.fresh p1.rel f7 hL4 hr5)
  cases e3 with
  | nrm =>
   have p3 : e4 = .normal := p3
   subst p3
   cases f8
   exact ⟨_, _, run_endRound none m5, π4, last none .ready rfl, _, rfl, by rw [Rep]; rfl⟩
  | ret =>
   have p3 : e4 = .ret := p3
   subst p3
   cases f8
   exact ⟨_, _, run_endRound (some .ret) m5, π4, last (some .ret) .done rfl, _, rfl, by rw [Rep]; rfl⟩
  | exit i =>
   have p3 : e4 = .exit i := p3
   subst p3
   cases f8
   exact ⟨_, _, run_endRound (some (.exit i)) m5, π4, last (some (.exit i)) .done rfl, _, rfl, by rw [Rep]; rfl⟩
  | pan v => cases f8
 ·cases h8
theorem kZ {all : List Oper} {ops : Array Oper} (hall : ops.toList = all) {tm : T AV} {fx : Fx} {a : Act} (hfr : FrR π tm fx a) {o : Oper} {b : Bool} (hw : wantedS all tm o.guard = some b) : Region.wanted o (yielded ops a.tmps) = b := by
 unfold Region.wanted
 unfold wantedS at hw
 cases hg : o.guard with
 | none => rw [hg] at hw; cases hw; rfl
 | some g =>
  rw [hg] at hw
  obtain ⟨q, h1, h2⟩ := uB hw
  obtain ⟨d, h3, h4⟩ := uB h2
  obtain ⟨v, h5, h6⟩ := uB h4
  rw [yE, ← hall] at h1
  have h1' : ops[g.1]? = some q := by simpa using h1
  obtain ⟨v', h7, h8⟩ := hfr.tm d v h5
  show (yielded ops a.tmps g.1 == some g.2) = b
  unfold yielded
  rw [h1']
  simp only [Option.bind_some, h3, h7]
  split at h6
  ·rename_i c
   cases h6
   rw [zO h8]
   simp
  ·cases h6
   rw [Rep] at h8
   obtain ⟨vs, rfl, h8⟩ := h8
   rw [RepL] at h8
   simp
  ·cases h6
def StepOk (P : Program) (ro' : Option Nat) (o : Oper) (a : Act) (w : World) (G : Act → World → Prop) (B : Exit → Act → World → Prop) : Prop := ∀ (next : Act → World → Prop) (Q : Exit → Act → World → Prop), (∀ a w, G a w → next a w) → (∀ e a w, B e a w → Q e a w) → o.wpIn (wideR ro') 0 P a w next Q
def Res (w0 : World) (π : Pl) (s : St) (tm : T AV) (fx : Fx) (s' : St) (a : Act) (w : World) : Prop := ∃ π', Nx w0 π s π' s' w ∧ FrR π' tm fx a
def Pan (w0 : World) (π : Pl) (s : St) (v : AV) (tm : T AV) (fx : Fx) (s' : St) (e : Exit) (a : Act) (w : World) : Prop := ∃ π', Nx w0 π s π' s' w ∧ FrR π' tm fx a ∧ ExR π' (.pan v) e
theorem aA {o : Oper} {a : Act} {ro' : Option Nat} {v' : Value} {w' : World} {G : Act → World → Prop} {B : Exit → Act → World → Prop} (hd : ∀ c, o.op ≠ .defer c) (hrun : (execOp a.eval o).run P w = .ok (.value v') w') (h : G (a.put o.dst v') w') : StepOk P ro' o a w G B := fun next Q hg hb => by
 unfold Oper.wpIn
 refine ⟨fun _ _ => trivial, ?_⟩
 rw [show (wideR ro').round = ro' from rfl, Oper.semAt_eq ro' a.eval o hd, hrun]
 exact hg _ _ h
theorem step_skip {o : Oper} {a : Act} {ro' : Option Nat} {w' : World} {G : Act → World → Prop} {B : Exit → Act → World → Prop} (hd : ∀ c, o.op ≠ .defer c) (hrun : (execOp a.eval o).run P w = .ok .skip w') (h : G (a.put o.dst undef) w') : StepOk P ro' o a w G B := fun next Q hg hb => by
 unfold Oper.wpIn
 refine ⟨fun _ _ => trivial, ?_⟩
 rw [show (wideR ro').round = ro' from rfl, Oper.semAt_eq ro' a.eval o hd, hrun]
 exact hg _ _ h
section
variable {tm : T AV} {fx : Fx} {a : Act} {ro' : Option Nat}
def OpOk (P : Program) (w0 : World) (π : Pl) (s : St) (ro' : Option Nat) (o : Oper) (a : Act) (w : World) : OR → Prop
 | .go tm' fx' s' => StepOk P ro' o a w (Res w0 π s tm' fx' s') (fun _ _ _ => False)
 | .pan v tm' fx' s' => StepOk P ro' o a w (fun _ _ => False) (Pan w0 π s v tm' fx' s')
noncomputable def litR (dst : Option Tmp) (tm : T AV) (fx : Fx) (s : St) : SR → OR
 | .val v => .go (putD tm dst v) fx s
 | .new o f => .go (putD tm dst (f s.c)) fx ⟨s.h.put s.c o, Nat.succ s.c⟩
theorem lok_step {dst : Option Tmp} {op : Op} {ty : TypeId} {pos : String} {af : Array Edge} {gd : Option (Nat × Bool)} (hf : Fresh π s) (hr : Rel w0 π s.h w) (hfr : FrR π tm fx a) (hdst : dstOk fx.n dst = true) (hd : ∀ c, op ≠ .defer c) {r : SR} (hl : LOk P π a.eval w op r) : OpOk P w0 π s ro' ⟨dst, op, ty, pos, af, gd⟩ a w (litR dst tm fx s r) := by
 cases r with
 | val v =>
  obtain ⟨v', h1, h2⟩ := hl
  exact aA hd (h1 _ _ _ _ _) ⟨π, Nx.refl hf hr, hfr.put hdst h2⟩
 | new ob f =>
  obtain ⟨v', ob', dr, N, h1, h2, h3⟩ := hl
  have hc := zV hf
  refine aA hd (h1 _ _ _ _ _) ⟨π.upd s.c ⟨w.heap.size, 0, N⟩, Nx.new hf (fun _ _ => rfl) (hr.new hc h2), ?_⟩
  exact (hfr.mono (Pl.le_upd _ hc)).put hdst (h3 _ _ (Pl.le_upd _ hc) (Pl.upd_self _ _ _))
theorem qN {dst : Option Tmp} {x : Option SR} {r : OR} (h : goL dst tm fx s x = some r) : ∃ q, x = some q ∧ r = litR dst tm fx s q := by
 obtain ⟨q, h1, h2⟩ := uB h
 cases q with
 | val v => cases h2; exact ⟨_, h1, rfl⟩
 | new ob f => cases h2; exact ⟨_, h1, rfl⟩
theorem jV {dst : Option Tmp} {op : Op} {ty : TypeId} {pos : String} {af : Array Edge} {gd : Option (Nat × Bool)} (hf : Fresh π s) (hr : Rel w0 π s.h w) (hfr : FrR π tm fx a) (hdst : dstOk fx.n dst = true) (hd : ∀ c, op ≠ .defer c) {r : OR} (h : goL dst tm fx s (light P (evO tm) s.h op) = some r) : OpOk P w0 π s ro' ⟨dst, op, ty, pos, af, gd⟩ a w r := by
 obtain ⟨q, h1, rfl⟩ := qN h
 exact lok_step hf hr hfr hdst hd (pA hfr.ev hr h1)
theorem yF {dst : Option Tmp} {op : Op} {ty : TypeId} {pos : String} {af : Array Edge} {gd : Option (Nat × Bool)} (hfr : FrR π tm fx a) (hdst : dstOk fx.n dst = true) (hd : ∀ c, op ≠ .defer c) {x : Option (AV × St)} {r : OR} (h : goH dst tm fx x = some r) (hh : ∀ p, x = some p → HOk P w0 π s a.eval w op p.1 p.2) : OpOk P w0 π s ro' ⟨dst, op, ty, pos, af, gd⟩ a w r := by
 obtain ⟨p, h1, h2⟩ := uB h
 cases h2
 obtain ⟨v', π', w', nx, e1, e2, e3, e4⟩ := hh p h1
 have hfr' := (hfr.mono e4.le).put hdst e3
 rcases e2 with rfl | ⟨rfl, rfl⟩
 ·exact aA hd (e1 _ _ _ _ _) ⟨π', e4, hfr'⟩
 ·exact step_skip hd (e1 _ _ _ _ _) ⟨π', e4, hfr'⟩
theorem oY (hfr : FrR π tm fx a) (xs : List Operand) : RepL π (mapL (evO tm) xs) (xs.map a.eval) := by
 rw [yR]
 exact RepL.map fun x _ => hfr.ev x
end
end
end Ev
namespace Ev
open Go
section
variable {P : Program} {O : Ora} {ih : IH} {w0 w : World} {π : Pl} {s : St} {tm : T AV} {fx : Fx} {a : Act} {ro' : Option Nat}
def Good (w0 : World) (π : Pl) (s : St) (next : Act → World → Prop) (Q : Exit → Act → World → Prop) : OR → Prop
 | .go tm' fx' s' => ∀ a w, Res w0 π s tm' fx' s' a w → next a w
 | .pan v tm' fx' s' => ∀ e a w, Pan w0 π s v tm' fx' s' e a w → Q e a w
theorem call_step {dst : Option Tmp} {c : Call} {f : Operand} {ty : TypeId} {pos : String} {af : Array Edge} {gd : Option (Nat × Bool)} (hih : IHOk P ih) (hO : OraOk P O) (hf : Fresh π s) (hr : Rel w0 π s.h w) (hfr : FrR π tm fx a) (hdst : dstOk fx.n dst = true) (hc : c.callee = .value f) {r : OR}
  (h : goC dst tm fx (callV O ih (evO tm f) (mapL (evO tm) c.args.toList) s) = some r) : OpOk P w0 π s ro' ⟨dst, .call c, ty, pos, af, gd⟩ a w r := by
 obtain ⟨q, h1, h2⟩ := uB h
 obtain ⟨callee, args, tys⟩ := c
 simp only at hc h1
 subst hc
 have hx := hfr.ev f
 have hargs := oY hfr args.toList
 have hd : ∀ c', Op.call ⟨.value f, args, tys⟩ ≠ .defer c' := fun c' e => by cases e
 have ends : ∀ (next : Act → World → Prop) (Q : Exit → Act → World → Prop), Good w0 π s next Q r → ∀ (e : Ending) (w' : World), KrR w0 π s e w' q → (match e with
    | .returned v => next (a.put dst v) w'
    | .panicked chain => Q (.panic chain) a w'
    | .outgrown => LetsOut Q) := fun next Q hn e w' hq => by
  cases q with
  | mk cr s' =>
   obtain ⟨π', g1, g2⟩ := hq
   cases cr with
   | ret v =>
    cases h2
    obtain ⟨v', rfl, g3⟩ := g2
    exact hn _ _ ⟨π', g1, (hfr.mono g1.le).put hdst g3⟩
   | pan v =>
    cases h2
    obtain ⟨v', rfl, g3⟩ := g2
    exact hn _ _ _ ⟨π', g1, hfr.mono g1.le, v', rfl, g3⟩
 have pack : (∀ (next : Act → World → Prop) (Q : Exit → Act → World → Prop), Good w0 π s next Q r → Oper.wpIn (wideR ro') 0 P ⟨dst, .call ⟨.value f, args, tys⟩, ty, pos, af, gd⟩ a w next Q) → OpOk P w0 π s ro' ⟨dst, .call ⟨.value f, args, tys⟩, ty, pos, af, gd⟩ a w r := fun hh => by
  cases r with
  | go tm' fx' s' => exact fun next Q hg hb => hh next Q hg
  | pan v tm' fx' s' => exact fun next Q hg hb => hh next Q hb
 refine pack fun next Q hn => ?_
 unfold Oper.wpIn
 refine ⟨fun _ _ => trivial, ?_⟩
 rw [show (wideR ro').round = ro' from rfl, Oper.semAt_eq ro' a.eval _ hd]
 unfold callV at h1
 split at h1
 ·rename_i g fi ca ef
  rw [ef, Rep] at hx
  obtain ⟨vs, us, hx, hv, hu⟩ := hx
  have hall : RepL π (app fi (app (mapL (evO tm) args.toList) ca)) (vs ++ args.map a.eval ++ us).toList := by
   rw [xX, xX]
   simp only [Array.toList_append, Array.toList_map, List.append_assoc]
   exact hv.append (hargs.append hu)
  have hrun : ∀ (x : Result Next), (callFunc g (vs ++ args.map a.eval ++ us)).run P w = x → (execOp a.eval ⟨dst, .call ⟨.value f, args, tys⟩, ty, pos, af, gd⟩).run P w = x := fun x e => by
   simp only [execOp, resolve, hx, Deferred.ofValue, Sem.run_bind, Sem.run_pure, Result.andThen_ok, invoke]
   exact e
  cases ho : O g (app fi (app (mapL (evO tm) args.toList) ca)) s with
  | some p =>
   rw [ho] at h1
   cases h1
   rcases hO g _ s p ho w0 π _ w hall hf hr with ⟨v, w', e1, e2⟩ | ⟨e1, e2⟩
   ·rw [hrun _ e1]
    exact ends next Q hn (.returned v) w' e2
   ·rw [hrun _ (cY e1 _ _)]
    refine ⟨fun e => (by cases e), ?_⟩
    exact (show CallsIn (wideR ro') (0 - 1) P g _ w _ from callsIn_wide.2 (e2.mono fun e w' hq => (by cases e <;> exact ends next Q hn _ w' hq)))
  | none =>
   rw [ho] at h1
   have hs := hih.call _ _ _ _ h1
   cases q with
   | mk cr s' =>
    obtain ⟨e1, e2⟩ := hs
    rw [hrun _ (cY e1 _ _)]
    refine ⟨fun e => (by cases e), ?_⟩
    exact (show CallsIn (wideR ro') (0 - 1) P g _ w _ from callsIn_wide.2 ((e2 w0 π _ w hall hf hr).mono fun e w' hq => (by cases e <;> exact ends next Q hn _ w' hq)))
 ·rename_i l ef
  rw [ef, Rep] at hx
  obtain ⟨L, hL, hx⟩ := hx
  obtain ⟨fn, tmps, asg, body, g1, g2⟩ := roundS_ok hih h1 hL (vs := args.map a.eval) (by rw [Array.toList_map]; exact hargs) hf hr
  have hrun : (execOp a.eval ⟨dst, .call ⟨.value f, args, tys⟩, ty, pos, af, gd⟩).run P w = .ok (.round L.b fn tmps asg body) w := by
   simp only [execOp, resolve, hx, Deferred.ofValue, Sem.run_bind, Sem.run_pure, Result.andThen_ok, invoke]
   simpa using g1
  rw [hrun]
  refine ⟨fun e => (by cases e), ?_⟩
  exact (show RoundIn (wideR ro') (0 - 1) P L.b fn tmps asg body w _ from g2.mono fun e w' hq => (by cases e <;> exact ends next Q hn _ w' hq))
 ·cases h1
theorem defer_step {dst : Option Tmp} {c : Call} {ty : TypeId} {pos : String} {af : Array Edge} {gd : Option (Nat × Bool)} (hf : Fresh π s) (hr : Rel w0 π s.h w) (hfr : FrR π tm fx a) (hro : RoR π fx.ro ro') (hdst : dstOk fx.n dst = true) {r : OR} (h : cDefer dst tm fx s c = some r) : OpOk P w0 π s ro' ⟨dst, .defer c, ty, pos, af, gd⟩ a w r := by
 obtain ⟨callee, args, tys⟩ := c
 unfold cDefer at h
 split at h
 ·rename_i f hc
  simp only at hc h
  subst hc
  split at h
  ·rename_i hn
   split at h
   ·rename_i g fi ca ef
    cases h
    have hx := hfr.ev f
    rw [ef, Rep] at hx
    obtain ⟨vs, us, hx, hv, hu⟩ := hx
    have hargs := oY hfr args.toList
    refine fun next Q hg hb => ?_
    unfold Oper.wpIn
    refine ⟨fun _ _ => trivial, ?_⟩
    have hro : ro' = none := by rw [hn] at hro; exact hro
    subst hro
    rw [show (wideR none).round = none from rfl, Oper.semAt_none]
    have hrun : (execOp a.eval ⟨dst, .defer ⟨.value f, args, tys⟩, ty, pos, af, gd⟩).run P w = .ok (.defer { target := .fn (.func g) us, args := vs ++ args.map a.eval }) w := by
     simp only [execOp, resolve, hx, Deferred.ofValue, Sem.run_bind, Sem.run_pure, Result.andThen_ok]
    rw [hrun]
    refine hg _ _ ⟨π, Nx.refl hf hr, ?_⟩
    have hfr2 : FrR π tm ⟨fx.n, (.fn g fi ca, mapL (evO tm) args.toList) :: fx.df, none⟩ { a with defers := { target := .fn (.func g) us, args := vs ++ args.map a.eval } :: a.defers } :=
     ⟨hfr.size, hfr.tm, .cons (.fn g fi ca _ vs us _ hv hu (by rw [Array.toList_map]; exact hargs)) hfr.df⟩
    exact hfr2.put hdst (yK π)
   ·cases h
  ·cases h
 ·cases h
theorem lR {v : Value} (w : World) {t : TypeId} {u : Value} (h : v = .iface t u) : (Instr.panic v).run P w = .halt (.panic v) w := by
 subst h; rfl
theorem jN {o : Oper} {x : Operand} (hf : Fresh π s) (hr : Rel w0 π s.h w) (hfr : FrR π tm fx a) (hd : ∀ c, o.op ≠ .defer c) (hrun : ∀ v t u, a.eval x = v → v = .iface t u → (execOp a.eval o).run P w = .halt (.panic v) w) {r : OR} (h : cPanic tm fx s x = some r) : OpOk P w0 π s ro' o a w r := by
 have hx := hfr.ev x
 unfold cPanic at h
 split at h
 ·rename_i t v ef
  cases h
  have hx0 := hx
  rw [ef, Rep] at hx
  obtain ⟨u, hx, hv⟩ := hx
  refine fun next Q hg hb => ?_
  unfold Oper.wpIn
  refine ⟨fun _ _ => trivial, ?_⟩
  rw [show (wideR ro').round = ro' from rfl, Oper.semAt_eq ro' a.eval o hd, hrun _ t u rfl hx]
  refine hb _ _ _ ⟨π, Nx.refl hf hr, hfr, _, rfl, ?_⟩
  rw [ef] at hx0; exact hx0
 ·cases h
theorem opK_ok {dst : Option Tmp} {op : Op} {ty : TypeId} {pos : String} {af : Array Edge} {gd : Option (Nat × Bool)} (hih : IHOk P ih) (hO : OraOk P O) (hf : Fresh π s) (hr : Rel w0 π s.h w) (hfr : FrR π tm fx a) (hro : RoR π fx.ro ro') (hdst : dstOk fx.n dst = true) {r : OR} (h : opK P O ih dst tm fx s op = some r) :
  OpOk P w0 π s ro' ⟨dst, op, ty, pos, af, gd⟩ a w r := by
 have lt : (∀ c, op ≠ .defer c) → goL dst tm fx s (light P (evO tm) s.h op) = some r → OpOk P w0 π s ro' ⟨dst, op, ty, pos, af, gd⟩ a w r := fun h1 h2 => jV hf hr hfr hdst h1 h2
 cases op
 case move x => exact lt (fun c e => by cases e) h
 case assign x => exact lt (fun c e => by cases e) h
 case pick => exact lt (fun c e => by cases e) h
 case alloc => exact lt (fun c e => by cases e) h
 case box => exact lt (fun c e => by cases e) h
 case build => exact lt (fun c e => by cases e) h
 case buildSlice => exact lt (fun c e => by cases e) h
 case load => exact lt (fun c e => by cases e) h
 case nilCheck => exact lt (fun c e => by cases e) h
 case binOp => exact lt (fun c e => by cases e) h
 case unOp => exact lt (fun c e => by cases e) h
 case convert => exact lt (fun c e => by cases e) h
 case makeInterface => exact lt (fun c e => by cases e) h
 case makeFunc => exact lt (fun c e => by cases e) h
 case makeMap => exact lt (fun c e => by cases e) h
 case makeSlice => exact lt (fun c e => by cases e) h
 case slice => exact lt (fun c e => by cases e) h
 case fieldAddr => exact lt (fun c e => by cases e) h
 case field => exact lt (fun c e => by cases e) h
 case indexAddr => exact lt (fun c e => by cases e) h
 case index => exact lt (fun c e => by cases e) h
 case lookup => exact lt (fun c e => by cases e) h
 case typeAssert => exact lt (fun c e => by cases e) h
 case extract => exact lt (fun c e => by cases e) h
 case store => exact yF hfr hdst (fun c e => by cases e) h fun p hp => hStore_ok hfr.ev hf hr hp
 case insert => exact yF hfr hdst (fun c e => by cases e) h fun p hp => (jZ hfr.ev hf hr hp).2
 case mapUpdate => exact yF hfr hdst (fun c e => by cases e) h fun p hp => (jZ hfr.ev hf hr hp).1
 case mapEntry => exact yF hfr hdst (fun c e => by cases e) h fun p hp => hEntry_ok hfr.ev hf hr hp
 case entryStore => exact yF hfr hdst (fun c e => by cases e) h fun p hp => hEntryStore_ok hfr.ev hf hr hp
 case defer c => exact defer_step hf hr hfr hro hdst h
 case panic x => exact jN hf hr hfr (fun c e => by cases e) (fun v t u e1 e2 => by simp only [execOp, e1, Sem.run_bind, lR w e2, Result.andThen_halt]) h
 case call c =>
  obtain ⟨callee, args, tys⟩ := c
  have h : cCall P O ih dst tm fx s ⟨callee, args, tys⟩ = some r := h
  unfold cCall at h
  cases callee with
  | value f => exact call_step hih hO hf hr hfr hdst rfl h
  | invoke x m => cases h
  | builtin b =>
   simp only at h
   have hb : ∀ {b}, goL dst tm fx s (lBuiltin P (evO tm) s.h b tys args.toList) = some r → OpOk P w0 π s ro' ⟨dst, .call ⟨.builtin b, args, tys⟩, ty, pos, af, gd⟩ a w r := fun {b} h2 => jV hf hr hfr hdst (fun c e => by cases e) h2
   unfold cBuiltin at h
   split at h
   ·exact yF hfr hdst (fun c e => by cases e) h fun p hp => hAppend_ok hfr.ev hf hr hp
   ·exact yF hfr hdst (fun c e => by cases e) h fun p hp => hClear_ok hfr.ev hf hr hp
   ·cases h
   ·split at h
    ·rename_i x hx
     obtain ⟨args⟩ := args
     simp only at hx
     subst hx
     exact jN hf hr hfr (fun c e => by cases e) (fun v t u e1 e2 => by
      simp only [execOp, resolve, List.map_toArray, List.map_cons, List.map_nil, Sem.run_bind, Sem.run_pure, Result.andThen_ok, invoke, builtin, e1]
      have : (#[v] : Array Value).getD 0 .nilIface = v := rfl
      rw [this, lR w e2]
      rfl) h
    ·cases h
   ·exact hb h
 all_goals cases h
theorem qJ {all : List Oper} {ops : Array Oper} (hall : ops.toList = all) {i : Nat} {o : Oper} (hi : ops[i]? = some o) (hih : IHOk P ih) (hO : OraOk P O) (hf : Fresh π s) (hr : Rel w0 π s.h w) (hfr : FrR π tm fx a) (hro : RoR π fx.ro ro') {r : OR} (h : opS P O ih all o tm fx s = some r) (K : Act → World → Prop) (Q : Exit → Act → World → Prop) (hg : Good w0 π s K Q r) :
  wpOpIn (wideR ro') 0 P ops Q i K a w := by
 obtain ⟨h1, h2⟩ := uM h
 obtain ⟨b, h3, h4⟩ := uB h2
 have hw := kZ hall hfr h3
 unfold wpOpIn
 rw [hi]
 rcases xU h4 with ⟨rfl, h5⟩ | ⟨rfl, h5⟩
 ·obtain ⟨dst, op, ty, pos, af, gd⟩ := o
  have hk := opK_ok (ty := ty) (pos := pos) (af := af) (gd := gd) hih hO hf hr hfr hro h1 h5
  simp only [hw, if_true]
  cases r with
  | go tm' fx' s' => exact hk K Q hg fun _ _ _ h => h.elim
  | pan v tm' fx' s' => exact hk K Q (fun _ _ h => h.elim) hg
 ·cases h5
  simp only [hw, Bool.false_eq_true, if_false]
  exact ⟨fun _ _ => trivial, hg _ _ ⟨π, Nx.refl hf hr, hfr.put h1 (yK π)⟩⟩
theorem tO {dst : Option Tmp} {x : Option SR} {r : OR} (h : goL dst tm fx s x = some r) : FxOk fx r := by
 obtain ⟨q, _, rfl⟩ := qN h
 cases q <;> exact ⟨rfl, rfl⟩
theorem eI {dst : Option Tmp} {x : Option (AV × St)} {r : OR} (h : goH dst tm fx x = some r) : FxOk fx r := by
 obtain ⟨q, _, h2⟩ := uB h
 cases h2; exact ⟨rfl, rfl⟩
theorem goC_fx {dst : Option Tmp} {x : Option KR} {r : OR} (h : goC dst tm fx x = some r) : FxOk fx r := by
 obtain ⟨q, _, h2⟩ := uB h
 obtain ⟨cr, s'⟩ := q
 cases cr <;> (cases h2; exact ⟨rfl, rfl⟩)
theorem mK {x : Operand} {r : OR} (h : cPanic tm fx s x = some r) : FxOk fx r := by
 unfold cPanic at h
 split at h
 ·cases h; exact ⟨rfl, rfl⟩
 ·cases h
theorem opK_fx {dst : Option Tmp} {op : Op} {r : OR} (h : opK P O ih dst tm fx s op = some r) : FxOk fx r := by
 cases op
 case move => cases h; exact ⟨rfl, rfl⟩
 case assign => cases h; exact ⟨rfl, rfl⟩
 case defer c =>
  have h : cDefer dst tm fx s c = some r := h
  unfold cDefer at h
  split at h
  ·split at h
   ·rename_i hn
    split at h
    ·cases h; exact ⟨rfl, hn.symm⟩
    ·cases h
   ·cases h
  ·cases h
 case panic => exact mK h
 case call c =>
  have h : cCall P O ih dst tm fx s c = some r := h
  unfold cCall at h
  split at h
  ·unfold cBuiltin at h
   split at h
   ·exact eI h
   ·exact eI h
   ·cases h
   ·split at h
    ·exact mK h
    ·cases h
   ·exact tO h
  ·exact goC_fx h
  ·cases h
 case store => exact eI h
 case insert => exact eI h
 case mapUpdate => exact eI h
 case mapEntry => exact eI h
 case entryStore => exact eI h
 all_goals first | (cases h; done) | exact tO h
theorem nB {all : List Oper} {o : Oper} {r : OR} (h : opS P O ih all o tm fx s = some r) : FxOk fx r := by
 obtain ⟨h1, h2⟩ := uM h
 obtain ⟨b, h3, h4⟩ := uB h2
 rcases xU h4 with ⟨rfl, h5⟩ | ⟨rfl, h5⟩
 ·exact opK_fx h5
 ·cases h5; exact ⟨rfl, rfl⟩
theorem rS {all : List Oper} : ∀ {l : List Oper} {tm : T AV} {fx : Fx} {s : St} {r : XR}, opsS P O ih all l tm fx s = some r → FxX fx r
 | [], tm, fx, s, r, h => by cases h; exact ⟨rfl, rfl⟩
 | o :: l, tm, fx, s, r, h => by
  obtain ⟨q, h1, h2⟩ := uB (show ob (opS P O ih all o tm fx s) (fun r => @OR.rec (fun _ => Option XR) (opsS P O ih all l) (fun v tm fx s => some (.mk (.pan v) tm fx s)) r) = some r from h)
  have hq := nB h1
  cases q with
  | go tm1 fx1 s1 =>
   have := rS (l := l) h2
   cases r with
   | mk e tm' fx' s' => exact ⟨this.1.trans hq.1, this.2.trans hq.2⟩
  | pan v tm1 fx1 s1 => cases h2; exact hq
theorem Ends.of {w0 : World} {π π1 : Pl} {s s1 : St} {w1 : World} (h : Nx w0 π s π1 s1 w1) {e' : Exit} {a' : Act} {w' : World} : ∀ {x : XR}, Ends w0 π1 s1 e' a' w' x → Ends w0 π s e' a' w' x
 | .mk e tm' fx' s', ⟨π', h1, h2⟩ => ⟨π', h.trans h1, h2⟩
theorem rR {all : List Oper} {ops : Array Oper} (hall : ops.toList = all) (hih : IHOk P ih) (hO : OraOk P O) {Q : Exit → Act → World → Prop} : ∀ (l : List Oper) (j : Nat) (tm : T AV) (fx : Fx) (s : St) (π : Pl) (a : Act) (w : World) (x : XR), l = all.drop j → opsS P O ih all l tm fx s = some x → Fresh π s → Rel w0 π s.h w → FrR π tm fx a → RoR π fx.ro ro' →
  (∀ e' a' w', Ends w0 π s e' a' w' x → Q e' a' w') → wpOpsIn (wideR ro') 0 P ops Q (List.range' j l.length) a w
 | [], j, tm, fx, s, π, a, w, x, hl, h, hf, hr, hfr, hro, hQ => by
  cases h
  exact hQ _ _ _ ⟨π, Nx.refl hf hr, hfr, rfl⟩
 | o :: l, j, tm, fx, s, π, a, w, x, hl, h, hf, hr, hfr, hro, hQ => by
  obtain ⟨r, h1, h2⟩ := uB (show ob (opS P O ih all o tm fx s) (fun r => @OR.rec (fun _ => Option XR) (opsS P O ih all l) (fun v tm fx s => some (.mk (.pan v) tm fx s)) r) = some x from h)
  have hj : all[j]? = some o := by
   have : (all.drop j)[0]? = some o := by rw [← hl]; rfl
   rwa [List.getElem?_drop, Nat.add_zero] at this
  have hi : ops[j]? = some o := by rw [← hall] at hj; simpa using hj
  have hl' : l = all.drop (j + 1) := by
   have : (all.drop j).drop 1 = l := by rw [← hl]; rfl
   rw [← this, List.drop_drop]
  have hfx := nB h1
  rw [List.length_cons, List.range'_succ, wpOpsIn_cons]
  refine qJ hall hi hih hO hf hr hfr hro h1 _ _ ?_
  cases r with
  | go tm1 fx1 s1 =>
   intro a1 w1 ⟨π1, k1, k2⟩
   exact rR hall hih hO l (j + 1) tm1 fx1 s1 π1 a1 w1 x hl' h2 k1.fresh k1.rel k2 (by rw [hfx.2]; exact hro.mono k1.le) fun e' a' w' he => hQ e' a' w' (Ends.of k1 he)
  | pan v tm1 fx1 s1 =>
   cases h2
   intro e a1 w1 ⟨π1, k1, k2, k3⟩
   exact hQ _ _ _ ⟨π1, k1, k2, k3⟩
end
end Ev
namespace Ev
open Go
theorem fI {i : Nat} : ∀ {l : List Nat}, memL i l = true ↔ i ∈ l
 | [] => ⟨fun h => (by cases h), fun h => (by cases h)⟩
 | a :: l => by
  show @Bool.rec (fun _ => Bool) (memL i l) true (Nat.beq a i) = true ↔ _
  cases h : Nat.beq a i with
  | true => exact ⟨fun _ => by rw [beq_eq h]; exact List.mem_cons_self, fun _ => rfl⟩
  | false =>
   have hne : a ≠ i := Nat.ne_of_beq_eq_false h
   show memL i l = true ↔ _
   rw [fI, List.mem_cons]
   exact ⟨.inr, fun hh => hh.resolve_left (Ne.symm hne)⟩
theorem memL_not {i : Nat} {l : List Nat} (h : (!memL i l) = true) : i ∉ l := fun hh => by
 rw [fI.2 hh] at h; cases h
theorem fW (m i : Nat) : bit m i = m.testBit i := by
 show Nat.beq ((m >>> i) &&& 1) 1 = (1 &&& (m >>> i) != 0)
 rw [Nat.and_comm 1, Nat.and_one_is_mod]
 rcases Nat.mod_two_eq_zero_or_one (m >>> i) with h | h <;> rw [h] <;> rfl
theorem kP (i : Nat) : bit 0 i = false := by rw [fW]; exact Nat.zero_testBit i
theorem sM {a b i : Nat} (h : bit (Nat.lor a b) i = true) : bit a i = true ∨ bit b i = true := by
 rw [fW] at *
 rw [fW]
 have h : (a ||| b).testBit i = true := h
 rw [Nat.testBit_or] at h
 simpa using h
theorem bit_pow {e i : Nat} (h : bit (Nat.pow 2 e) i = true) : i = e := by
 rw [fW] at h
 have h : (2 ^ e).testBit i = true := h
 rw [Nat.testBit_two_pow] at h
 exact (of_decide_eq_true h).symm
noncomputable def edgesM (acc : List Nat) (l : List Edge) : Nat := @List.rec Edge (fun _ => Nat) 0 (fun e _ m => bc (bindsA e) (Nat.lor m (Nat.lor (Nat.pow 2 e.on) (od (nth acc e.on) 0))) m) l
theorem kI {acc : List Nat} : ∀ {l : List Edge} {k : Nat}, bit (edgesM acc l) k = true → ∃ e ∈ l, bindsA e = true ∧ (k = e.on ∨ ∃ m, acc[e.on]? = some m ∧ bit m k = true)
 | [], k, h => by
  have h : bit 0 k = true := h
  rw [kP] at h; cases h
 | e :: l, k, h => by
  have h : bit (bc (bindsA e) (Nat.lor (edgesM acc l) (Nat.lor (Nat.pow 2 e.on) (od (nth acc e.on) 0))) (edgesM acc l)) k = true := h
  have tail : bit (edgesM acc l) k = true → ∃ e' ∈ e :: l, bindsA e' = true ∧ (k = e'.on ∨ ∃ m, acc[e'.on]? = some m ∧ bit m k = true) := fun hh => by
   obtain ⟨e', h1, h2⟩ := kI hh
   exact ⟨e', List.mem_cons_of_mem _ h1, h2⟩
  cases hb : bindsA e with
  | false => rw [hb, bc_f] at h; exact tail h
  | true =>
   rw [hb, bc_t] at h
   rcases sM h with h | h
   ·exact tail h
   ·refine ⟨e, List.mem_cons_self, hb, ?_⟩
    rcases sM h with h | h
    ·exact .inl (bit_pow h)
    ·rw [yE] at h
     cases hm : acc[e.on]? with
     | none =>
      rw [hm] at h
      have h : bit 0 k = true := h
      rw [kP] at h; cases h
     | some m => rw [hm] at h; exact .inr ⟨m, rfl, h⟩
def Edges (o : Oper) (X : Nat → Prop) : Prop := ∀ e ∈ o.after.toList, bindsA e = true → X e.on
def Closed (all : List Oper) (X : Nat → Prop) : Prop := ∀ j o, all[j]? = some o → X j → Edges o X
def GoodM (all : List Oper) (X : Nat → Prop) (i m : Nat) : Prop := ∀ o, all[i]? = some o → Edges o X → ∀ k, bit m k = true → X k
theorem iB {all : List Oper} {X : Nat → Prop} (hX : Closed all X) : ∀ (l pre : List Oper) (acc : List Nat), all = pre ++ l → acc.length = pre.length → (∀ i m, acc[i]? = some m → GoodM all X i m) → ∀ i m, (behind l acc)[i]? = some m → GoodM all X i m
 | [], pre, acc, ha, hl, hg, i, m, h => hg i m h
 | o :: l, pre, acc, ha, hl, hg, i, m, h => by
  have h : (behind l (app acc [edgesM acc o.after.toList]))[i]? = some m := h
  refine iB hX l (pre ++ [o]) (app acc [edgesM acc o.after.toList]) (by rw [ha]; simp) (by rw [xX]; simp [hl]) (fun i m hi => ?_) i m h
  rw [xX, List.getElem?_append] at hi
  split at hi
  ·exact hg i m hi
  ·rename_i hge
   intro o' ho' he k hk
   have hz : i - acc.length = 0 := by
    rcases Nat.eq_zero_or_pos (i - acc.length) with hz | hz
    ·exact hz
    ·rw [List.getElem?_eq_none (show 1 ≤ _ from hz)] at hi; cases hi
   rw [hz] at hi
   cases hi
   have hie : i = pre.length := by omega
   have hoo : o' = o := by
    rw [ha, hie, List.getElem?_append_right (Nat.le_refl _)] at ho'
    simpa using ho'.symm
   subst hoo
   obtain ⟨e, h1, h2, h3⟩ := kI hk
   have hxe := he e h1 h2
   rcases h3 with rfl | ⟨m', h4, h5⟩
   ·exact hxe
   ·have hlt : e.on < all.length := by
     have := (List.getElem?_eq_some_iff.1 h4).1
     rw [ha, List.length_append]; omega
    exact hg e.on m' h4 _ (List.getElem?_eq_getElem hlt) (hX _ _ (List.getElem?_eq_getElem hlt) hxe) k h5
noncomputable def bsAt (all : List Oper) (i : Nat) : Nat := od (nth (bsOf all) i) 0
theorem nT {all : List Oper} {X : Nat → Prop} (hX : Closed all X) {i k : Nat} {o : Oper} (ho : all[i]? = some o) (he : Edges o X) (hk : bit (bsAt all i) k = true) : X k := by
 unfold bsAt at hk
 rw [yE] at hk
 cases hm : (bsOf all)[i]? with
 | none =>
  rw [hm] at hk
  have hk : bit 0 k = true := hk
  rw [kP] at hk; cases hk
 | some m =>
  rw [hm] at hk
  exact iB hX all [] [] rfl rfl (fun i m h => (by cases h)) i m hm o ho he k hk
theorem jQ {all : List Oper} {bs : List Nat} {i : Nat} {l bef : List Nat} {lh : Option Nat} (h : okL all bs (i :: l) bef lh = true) : ∃ o, all[i]? = some o ∧ i ∉ bef ∧ Edges o (· ∈ bef) ∧ (∀ g, lh = some g → bit (od (nth bs i) 0) g = true) ∧
  okL all bs l (bef ++ [i]) (if isHeavy o.op then some i else lh) = true := by
 have h : @Option.rec Oper (fun _ => Bool) false (fun o => !memL i bef && (allL (fun e => !bindsA e || memL e.on bef) o.after.toList && ((@Option.rec Nat (fun _ => Bool) true (fun h => bit (od (nth bs i) 0) h) lh) &&
   okL all bs l (app bef [i]) (@Bool.rec (fun _ => Option Nat) lh (some i) (isHeavy o.op))))) (nth all i) = true := h
 rw [yE all i] at h
 cases ho : all[i]? with
 | none => rw [ho] at h; cases h
 | some o =>
  rw [ho] at h
  obtain ⟨h1, h2⟩ := band h
  obtain ⟨h3, h4⟩ := band h2
  obtain ⟨h7, h8⟩ := band h4
  refine ⟨o, rfl, memL_not h1, fun e he hb => ?_, fun g hg => ?_, ?_⟩
  ·have := wG h3 e he
   rw [hb] at this
   exact fI.1 (by simpa using this)
  ·subst hg; exact h7
  ·rw [xX] at h8
   cases hh : isHeavy o.op <;> rw [hh] at h8 <;> exact h8
theorem mH {bef : List Nat} : ∀ {l : List Oper} {j : Nat}, coverL bef l j = true → ∀ i o, l[i]? = some o → j + i ∈ bef
 | [], j, h, i, o, hi => by cases hi
 | q :: l, j, h, i, o, hi => by
  obtain ⟨h1, h2⟩ := band (show (memL j bef && coverL bef l (Nat.succ j)) = true from h)
  cases i with
  | zero => exact fI.1 h1
  | succ i =>
   have := mH h2 i o (by simpa using hi)
   rwa [show j + (i + 1) = Nat.succ j + i by omega]
theorem gK {all : List Oper} {bs : List Nat} : ∀ {l bef : List Nat} {lh : Option Nat}, okL all bs l bef lh = true → ∀ i o, all[i]? = some o → i ∈ bef ++ l
 | [], bef, lh, h, i, o, hi => by
  have := mH (show coverL bef all 0 = true from h) i o hi
  simpa using this
 | q :: l, bef, lh, h, i, o, hi => by
  obtain ⟨o', _, _, _, _, h2⟩ := jQ h
  have := gK h2 i o hi
  simpa using this
theorem gJ {all : List Oper} {bef0 : List Nat} : ∀ {l bef : List Nat} {g : Nat}, okL all (bsOf all) l bef (some g) = true → g ∉ bef0 → (∀ i ∈ bef0, i ∈ bef) → ∀ i ∈ l, ∃ h, bit (bsAt all i) h = true ∧ h ∉ bef0
 | [], bef, g, h, _, _, i, hi => by cases hi
 | q :: l, bef, g, h, hg, hs, i, hi => by
  obtain ⟨o', _, h1, _, h2, h3⟩ := jQ h
  rcases List.mem_cons.1 hi with rfl | hi
  ·exact ⟨g, h2 g rfl, hg⟩
  ·have hs' : ∀ i ∈ bef0, i ∈ bef ++ [q] := fun i hi => List.mem_append_left _ (hs i hi)
   split at h3
   ·exact gJ h3 (fun hh => h1 (hs q hh)) hs' i hi
   ·exact gJ h3 hg hs' i hi
def Gen (all : List Oper) (bef : List Nat) : Prop := ∀ X : Nat → Prop, (∀ i ∈ bef, ∀ o, all[i]? = some o → Edges o X → X i) → ∀ i ∈ bef, X i
theorem Gen.snoc {all : List Oper} {bef : List Nat} (h : Gen all bef) {i : Nat} {o : Oper} (ho : all[i]? = some o) (he : Edges o (· ∈ bef)) : Gen all (bef ++ [i]) := fun X hX => by
 have hb := h X fun i hi => hX i (List.mem_append_left _ hi)
 intro j hj
 rcases List.mem_append.1 hj with hj | hj
 ·exact hb j hj
 ·have : j = i := by simpa using hj
  subst this
  exact hX j (by simp) o ho fun e he' hb' => hb _ (he e he' hb')
theorem pP : ∀ {l : List Tmp} {tm : T AV} {t : Nat} {y : AV}, (delsT l tm).get t = some y → t ∉ l ∧ tm.get t = some y
 | [], tm, t, y, h => ⟨fun h => (by cases h), h⟩
 | d :: l, tm, t, y, h => by
  have h : ((delsT l tm).del d).get t = some y := h
  rw [T.get_del] at h
  split at h
  ·cases h
  ·rename_i hne
   obtain ⟨h1, h2⟩ := pP h
   exact ⟨fun hh => (List.mem_cons.1 hh).elim hne h1, h2⟩
theorem oX {all : List Oper} {m : Nat} : ∀ {bef : List Nat} {j : Nat} {o : Oper} {d : Tmp}, j ∈ bef → bit m j = false → all[j]? = some o → o.dst = some d → d ∈ maskL all m bef
 | [], j, o, d, h, _, _, _ => by cases h
 | q :: bef, j, o, d, h, hb, ho, hd => by
  show d ∈ @Bool.rec (fun _ => List Tmp) (@Option.rec Oper (fun _ => List Tmp) (maskL all m bef) (fun o => @Option.rec Tmp (fun _ => List Tmp) (maskL all m bef) (fun d => d :: maskL all m bef) o.dst) (nth all q)) (maskL all m bef) (bit m q)
  rcases List.mem_cons.1 h with rfl | h
  ·rw [hb, yE, ho]
   show d ∈ @Option.rec Tmp (fun _ => List Tmp) (maskL all m bef) (fun d => d :: maskL all m bef) o.dst
   rw [hd]
   exact List.mem_cons_self
  ·have ih := oX h hb ho hd
   cases bit m q with
   | true => exact ih
   | false =>
    cases nth all q with
    | none => exact ih
    | some o' =>
     obtain ⟨dst, op, ty, pos, af, gd⟩ := o'
     cases dst with
     | none => exact ih
     | some d' => exact List.mem_cons_of_mem _ ih
theorem nP {a b : AV} (h : eqX a b = true) : a = b := by
 unfold eqX at h
 split at h
 all_goals first
  | (cases h; done)
  | rfl
  | (simp only [Bool.and_eq_true, decide_eq_true_eq, beq_iff_eq] at h; simp_all; done)
  | (simp only [Bool.and_eq_true, decide_eq_true_eq, Nat.beq_eq] at h; simp_all; done)
theorem fR : ∀ {l m : List AV}, eqXs l m = true → l = m
 | [], [], _ => rfl
 | [], _ :: _, h => by cases h
 | _ :: _, [], h => by cases h
 | a :: l, b :: m, h => by
  obtain ⟨h1, h2⟩ := band (show (eqX a b && eqXs l m) = true from h)
  rw [nP h1, fR h2]
theorem nO {a b : AV} (h : eqY a b = true) : a = b := by
 unfold eqY at h
 split at h
 ·split at h
  ·rw [fR h]
  ·cases h
 ·split at h
  ·rw [fR h]
  ·cases h
 ·exact nP h
theorem kE : ∀ {l m : List AV}, eqYs l m = true → l = m
 | [], [], _ => rfl
 | [], _ :: _, h => by cases h
 | _ :: _, [], h => by cases h
 | a :: l, b :: m, h => by
  obtain ⟨h1, h2⟩ := band (show (eqY a b && eqYs l m) = true from h)
  rw [nO h1, kE h2]
theorem qO {a b : AV} (h : eqW a b = true) : a = b := by
 unfold eqW at h
 split at h
 ·split at h
  ·obtain ⟨h1, h2⟩ := band h
   rw [beq_eq h1, nO h2]
  ·cases h
 ·split at h
  ·obtain ⟨h1, h2⟩ := band h
   obtain ⟨h3, h4⟩ := band h2
   rw [beq_eq h1, kE h3, kE h4]
  ·cases h
 ·exact nO h
theorem fS : ∀ {l m : List AV}, eqWs l m = true → l = m
 | [], [], _ => rfl
 | [], _ :: _, h => by cases h
 | _ :: _, [], h => by cases h
 | a :: l, b :: m, h => by
  obtain ⟨h1, h2⟩ := band (show (eqW a b && eqWs l m) = true from h)
  rw [qO h1, fS h2]
theorem tT {a b : AV} (h : eqV a b = true) : a = b := by
 unfold eqV at h
 split at h
 ·split at h
  ·rw [fS h]
  ·cases h
 ·split at h
  ·rw [fS h]
  ·cases h
 ·exact qO h
theorem eqO_eq {o p : AObj} (h : eqO o p = true) : o = p := by
 unfold eqO at h
 split at h
 ·split at h
  ·obtain ⟨h1, h2⟩ := band h
   rw [fS h2, beq_iff_eq.1 h1]
  ·cases h
 ·split at h
  ·rw [beq_eq h]
  ·cases h
 ·cases h
theorem pD : ∀ {l : List (Nat × Nat)} {j c : Nat}, idOf l j = some c → (j, c) ∈ l
 | [], j, c, h => by cases h
 | p :: l, j, c, h => by
  have h : @Bool.rec (fun _ => Option Nat) (idOf l j) (some p.2) (Nat.beq p.1 j) = some c := h
  cases hb : Nat.beq p.1 j with
  | true =>
   rw [hb] at h
   cases h
   rw [← beq_eq hb]; exact List.mem_cons_self
  | false =>
   rw [hb] at h
   exact List.mem_cons_of_mem _ (pD h)
end Ev
namespace Ev
open Go
theorem mL (e : Edge) : Region.binds .any e = bindsA e := by
 obtain ⟨on, g⟩ := e
 cases g <;> rfl
theorem wpOpIn_frame {F : Fence} {n : Nat} {P : Program} {ops : Array Oper} {Q : Exit → Act → World → Prop} {i : Nat} {o : Oper} (hi : ops[i]? = some o) {K : Act → World → Prop} {a : Act} {w : World} (h : wpOpIn F n P ops Q i K a w) :
  wpOpIn F n P ops Q i (fun a' w' => K a' w' ∧ ∃ v, a'.tmps = (a.put o.dst v).tmps) a w := by
 unfold wpOpIn at *
 simp only [hi] at *
 split
 ·rename_i hw
  simp only [hw, if_true] at h
  unfold Oper.wpIn at *
  refine ⟨h.1, ?_⟩
  have h := h.2
  generalize (o.semAt F.round a.eval).run P w = r at *
  cases r with
  | ok x w' =>
   cases x <;> simp only [Oper.uponIn] at h ⊢
   case value => exact ⟨h, _, rfl⟩
   case skip => exact ⟨h, _, rfl⟩
   case defer d => exact ⟨h, undef, by cases o.dst <;> rfl⟩
   case enter f args =>
    refine ⟨h.1, CallsIn.mono h.2 fun e w'' he => ?_⟩
    cases e with
    | returned u => exact ⟨he, u, rfl⟩
    | panicked c => exact he
    | outgrown => exact he
   case row row args => exact ⟨h.1, RowsIn.mono h.2 fun u w'' he => ⟨he, u, rfl⟩⟩
   case round l f tmps assign body =>
    refine ⟨h.1, RoundIn.mono h.2 fun e w'' he => ?_⟩
    cases e with
    | returned u => exact ⟨he, u, rfl⟩
    | panicked c => exact he
    | outgrown => exact he
  | halt x w' => cases x <;> simp only [Oper.uponIn] at h ⊢ <;> exact h
 ·rename_i hw
  simp only [hw] at h
  exact ⟨h.1, h.2, undef, rfl⟩
theorem gZ {a : Act} {dst : Option Tmp} {v : Value} {t : Nat} (h : dst ≠ some t) : (a.put dst v).tmps[t]? = a.tmps[t]? := by
 cases dst with
 | none => rfl
 | some d =>
  show (a.tmps.setIfInBounds d v)[t]? = _
  exact Array.getElem?_setIfInBounds_ne fun e => h (by rw [e])
theorem put_tmps_self {a : Act} {v : Value} {t : Nat} (h : t < a.tmps.size) : (a.put (some t) v).tmps[t]? = some v := by
 show (a.tmps.setIfInBounds t v)[t]? = _
 simp [h]
theorem dV {a : Act} {dst : Option Tmp} {v : Value} : (a.put dst v).tmps.size = a.tmps.size := by
 cases dst with
 | none => rfl
 | some d => show (a.tmps.setIfInBounds d v).size = _; rw [Array.size_setIfInBounds]
theorem put_defers' {a : Act} {dst : Option Tmp} {v : Value} : (a.put dst v).defers = a.defers := by cases dst <;> rfl
theorem Rel.ext {w0 w : World} {π : Pl} {h h' : T AObj} (hr : Rel w0 π h w) (he : ∀ i L, π i = some L → h'.get i = h.get i) : Rel w0 π h' w :=
 ⟨fun i o L hi hL => hr.obj i o L ((he i L hL).symm.trans hi) hL, fun i o L hi hL => hr.own i o L ((he i L hL).symm.trans hi) hL, fun i j o p L M hi hj hL hM => hr.inj i j o p L M ((he i L hL).symm.trans hi) ((he j M hM).symm.trans hj) hL hM, hr.keep, hr.size, hr.tape, hr.os, hr.output⟩
theorem iT {X : Array Bool} {j : Nat} (h : X.getD j true = false) : j < X.size ∧ X.getD j false = false := by
 rw [Array.getD_eq_getD_getElem?] at *
 cases hx : X[j]? with
 | none => rw [hx] at h; cases h
 | some b => rw [hx] at h; exact ⟨(Array.getElem?_eq_some_iff.1 hx).1, by simpa using h⟩
theorem rZ {X : Array Bool} {j : Nat} (hj : j < X.size) (h : X.getD j false ≠ true) : X.getD j true = false := by
 rw [Array.getD_eq_getD_getElem?] at *
 rw [Array.getElem?_eq_getElem hj] at *
 simpa using h
theorem zL {X : Array Bool} {j : Nat} {d : Bool} (hj : j < X.size) : (X.setIfInBounds j true).getD j d = true := by
 rw [Array.getD_eq_getD_getElem?]; simp [hj]
theorem iS {X : Array Bool} {j : Nat} (h : X.getD j false = true) : X.getD j true = true := by
 rw [Array.getD_eq_getD_getElem?] at *
 cases hx : X[j]? with
 | none => rw [hx] at h; cases h
 | some b => rw [hx] at h; exact h
structure Inv (w0 : World) (π0 : Pl) (s0 : St) (all : List Oper) (ro' : Option Nat) (bef : List Nat) (lh : Option Nat) (gl : List (Nat × Nat)) (tm : T AV) (fx : Fx) (s : St) (X : Array Bool) (a : Act) (w : World) (π : Pl) : Prop where
 nx : Nx w0 π0 s0 π s w
 size : a.tmps.size = fx.n
 df : RepDs π fx.df a.defers
 ro : RoR π fx.ro ro'
 tmx : ∀ t y, tm.get t = some y → (∀ j o, j ∈ bef → all[j]? = some o → X.getD j true = false → o.dst ≠ some t) → ∃ v, a.tmps[t]? = some v ∧ Rep π y v
 xs : X.size = all.length
 cl : Closed all (fun j => X.getD j false = true)
 sub : ∀ j, X.getD j false = true → j ∈ bef
 hv : ∀ j o, j ∈ bef → all[j]? = some o → isHeavy o.op = true → X.getD j false = true
 lhx : ∀ h, lh = some h → X.getD h false = true
 glx : ∀ p ∈ gl, s0.c ≤ p.2 ∧ p.2 < s.c ∧ (X.getD p.1 true = false → π p.2 = none)
 gi : ∀ p ∈ gl, ∀ q ∈ gl, p.2 = q.2 → p.1 = q.1
section
variable {P : Program} {O : Ora} {ih : IH} {w0 : World} {π0 : Pl} {s0 : St} {all : List Oper} {ops : Array Oper} {ro' : Option Nat} {bef : List Nat} {lh : Option Nat} {gl : List (Nat × Nat)} {tm : T AV} {fx : Fx} {s : St} {X : Array Bool} {a : Act} {w : World} {π : Pl} {Q : Exit → Act → World → Prop}
theorem zX (hall : ops.toList = all) {j : Nat} : j ∈ Region.ready .any ops X ↔ X.getD j true = false ∧ ∃ o, all[j]? = some o ∧ Edges o (fun k => X.getD k false = true) := by
 rw [mem_ready]
 have hg : ∀ o, ops[j]? = some o ↔ all[j]? = some o := fun o => by rw [← hall, Array.getElem?_toList]
 constructor
 ·rintro ⟨h1, o, h2, h3⟩
  exact ⟨h1, o, (hg o).1 h2, fun e he hb => h3 e (by simpa using he) (by rw [mL]; exact hb)⟩
 ·rintro ⟨h1, o, h2, h3⟩
  exact ⟨h1, o, (hg o).2 h2, fun e he hb => h3 e (by simpa using he) (by rw [mL] at hb; exact hb)⟩
theorem Inv.seen (hI : Inv w0 π0 s0 all ro' bef lh gl tm fx s X a w π) {i : Nat} {o : Oper} (ho : all[i]? = some o) (he : Edges o (fun k => X.getD k false = true)) : FrR π (delsT (maskL all (bsAt all i) bef) tm) fx a := by
 refine ⟨hI.size, fun t y ht => ?_, hI.df⟩
 obtain ⟨h1, h2⟩ := pP ht
 refine hI.tmx t y h2 fun j q hb hj hx hd => ?_
 cases hbit : bit (bsAt all i) j with
 | true =>
  have := nT hI.cl ho he hbit
  rw [iS this] at hx; cases hx
 | false => exact h1 (oX hb hbit hj hd)
theorem Inv.done (hI : Inv w0 π0 s0 all ro' bef lh gl tm fx s X a w π) {j : Nat} {o : Oper} (ho : all[j]? = some o) (hx : X.getD j true = false) (he : Edges o (fun k => X.getD k false = true)) (hb : j ∈ bef) (hd : dstOk fx.n o.dst = true)
  {π' : Pl} {w' : World} {v' : Value} (hle : π.le π') (hnx : Nx w0 π0 s0 π' s w') (hgl : ∀ p ∈ gl, X.getD p.1 true = false → p.1 ≠ j → π' p.2 = none) (hv : ∀ d y, o.dst = some d → tm.get d = some y → Rep π' y v') :
  Inv w0 π0 s0 all ro' bef lh gl tm fx s (X.setIfInBounds j true) (a.put o.dst v') w' π' := by
 have hjs := (iT hx).1
 have back : ∀ k, (X.setIfInBounds j true).getD k true = false → X.getD k true = false ∧ k ≠ j := fun k hk => by
  by_cases e : j = k
  ·subst e; rw [zL hjs] at hk; cases hk
  ·rw [getD_set_ne true e] at hk; exact ⟨hk, Ne.symm e⟩
 have fwd : ∀ k, (X.setIfInBounds j true).getD k false = true → X.getD k false = true ∨ k = j := fun k hk => by
  by_cases e : j = k
  ·exact .inr e.symm
  ·rw [getD_set_ne false e] at hk; exact .inl hk
 refine ⟨hnx, dV.trans hI.size, by rw [put_defers']; exact hI.df.mono hle, hI.ro.mono hle, fun t y ht hno => ?_, by rw [Array.size_setIfInBounds]; exact hI.xs, ?_, ?_, fun k q hk hq hh => getD_set_true (hI.hv k q hk hq hh), fun h hh => getD_set_true (hI.lhx h hh), ?_, hI.gi⟩
 ·by_cases hdt : o.dst = some t
  ·refine ⟨v', ?_, hv t y hdt ht⟩
   rw [hdt] at hd ⊢
   exact put_tmps_self (by rw [hI.size]; exact xW hd)
  ·obtain ⟨v, h1, h2⟩ := hI.tmx t y ht fun k q hkb hk hxk hdk => by
    by_cases e : j = k
    ·subst e; rw [ho] at hk; cases hk; exact hdt hdk
    ·exact hno k q hkb hk (by rw [getD_set_ne true e]; exact hxk) hdk
   exact ⟨v, by rw [gZ hdt]; exact h1, h2.mono hle⟩
 ·intro k q hk hxk e he' hb'
  rcases fwd k hxk with hxk | rfl
  ·exact getD_set_true (hI.cl k q hk hxk e he' hb')
  ·rw [ho] at hk; cases hk
   exact getD_set_true (he e he' hb')
 ·intro k hk
  rcases fwd k hk with hk | rfl
  ·exact hI.sub k hk
  ·exact hb
 ·intro p hp
  obtain ⟨h1, h2, _⟩ := hI.glx p hp
  exact ⟨h1, h2, fun h => let ⟨h4, h5⟩ := back _ h; hgl p hp h4 h5⟩
theorem Inv.take (hall : ops.toList = all) (hI : Inv w0 π0 s0 all ro' bef lh gl tm fx s X a w π) {j : Nat} {o : Oper} (ho : all[j]? = some o) (hx : X.getD j true = false) (he : Edges o (fun k => X.getD k false = true)) (hb : j ∈ bef) (hl : isHeavy o.op = false)
  (hs : still P all gl tm s.h fx.n (j, o, maskL all (bsAt all j) bef) = true) {K : Act → World → Prop} (hK : ∀ a' w' π', Inv w0 π0 s0 all ro' bef lh gl tm fx s (X.setIfInBounds j true) a' w' π' → K a' w') : wpOpIn (wideR ro') 0 P ops Q j K a w := by
 have hfr := hI.seen ho he
 have hi : ops[j]? = some o := by rw [← Array.getElem?_toList, hall]; exact ho
 obtain ⟨hd, hs⟩ := band hs
 have hd : dstOk fx.n o.dst = true := hd
 have hold : ∀ v v', holds tm o.dst v = true → Rep π v v' → ∀ d y, o.dst = some d → tm.get d = some y → Rep π y v' := fun v v' h1 h2 d y h3 h4 => by
  unfold holds at h1
  rw [h3] at h1
  have h1 : @Option.rec AV (fun _ => Bool) true (fun x => eqV v x) (tm.get d) = true := h1
  rw [h4] at h1
  rw [← tT h1]; exact h2
 unfold wpOpIn
 rw [hi]
 cases hw : wantedS all (delsT (maskL all (bsAt all j) bef) tm) o.guard with
 | none => simp only [hw] at hs; cases hs
 | some b =>
  simp only [hw] at hs
  have hwr := kZ hall hfr hw
  cases b with
  | false =>
   have hs : holds tm o.dst (.tup []) = true := hs
   simp only [hwr, Bool.false_eq_true, if_false]
   exact ⟨fun _ _ => trivial, hK _ _ π (hI.done ho hx he hb hd (.refl π) hI.nx (fun p hp h _ => (hI.glx p hp).2.2 h) (hold _ _ hs (yK π)))⟩
  | true =>
   simp only [hwr, if_true]
   cases hr : light P (evO (delsT (maskL all (bsAt all j) bef) tm)) s.h o.op with
   | none => simp only [hr] at hs; cases hs
   | some r =>
    simp only [hr] at hs
    have hlo := pA hfr.ev hI.nx.rel hr
    have hnd : ∀ c, o.op ≠ .defer c := fun c e => by rw [e] at hl; cases hl
    cases r with
    | val v =>
     have hs : holds tm o.dst v = true := hs
     obtain ⟨v', h1, h2⟩ := hlo
     have hst : StepOk P ro' o a w (fun a w => K a w) (fun _ _ _ => False) := aA hnd (by obtain ⟨dst, op, ty, pos, af, gd⟩ := o; exact h1 _ _ _ _ _)
      (hK _ _ π (hI.done ho hx he hb hd (.refl π) hI.nx (fun p hp h _ => (hI.glx p hp).2.2 h) (hold _ _ hs h2)))
     exact hst K Q (fun _ _ h => h) fun _ _ _ h => h.elim
    | new ob f =>
     obtain ⟨v', ob', dr, N, h1, h2, h3⟩ := hlo
     cases hc : idOf gl j with
     | none => simp only [hc] at hs; cases hs
     | some c =>
      simp only [hc] at hs
      cases hg : s.h.get c with
      | none => simp only [hg] at hs; cases hs
      | some o' =>
       simp only [hg] at hs
       obtain ⟨h4, h5⟩ := band (show (eqO ob o' && holds tm o.dst (f c)) = true from hs)
       have h4 := eqO_eq h4
       subst h4
       have hm := pD hc
       obtain ⟨g1, g2, g3⟩ := hI.glx _ hm
       have hcn : π c = none := g3 hx
       have hrel := hI.nx.rel.new (dr := dr) hcn h2
       have hrel' : Rel w0 (π.upd c ⟨w.heap.size, 0, N⟩) s.h { w with heap := w.heap.push ob', drawn := dr } := hrel.ext fun i L _ => by
        by_cases e : i = c
        ·subst e; rw [T.put_self]; exact hg
        ·rw [T.put_ne _ _ e]
       have hnx : Nx w0 π0 s0 (π.upd c ⟨w.heap.size, 0, N⟩) s { w with heap := w.heap.push ob', drawn := dr } := by
        refine ⟨hI.nx.le.trans (Pl.le_upd _ hcn), fun i hi hn => ?_, hI.nx.c, fun i hi => ?_, hrel'⟩
        ·obtain ⟨q1, q2⟩ := hI.nx.old i hi hn
         exact ⟨(Pl.upd_ne _ _ (by have : s0.c ≤ c := g1; omega)).trans q1, q2⟩
        ·obtain ⟨q1, q2⟩ := hI.nx.fresh i hi
         exact ⟨q1, (Pl.upd_ne _ _ (by have : c < s.c := g2; omega)).trans q2⟩
       have hst : StepOk P ro' o a w (fun a w => K a w) (fun _ _ _ => False) := aA hnd (by obtain ⟨dst, op, ty, pos, af, gd⟩ := o; exact h1 _ _ _ _ _)
        (hK _ _ _ (hI.done ho hx he hb hd (Pl.le_upd _ hcn) hnx (fun p hp h hne => by
         have : p.2 ≠ c := fun e => hne (hI.gi p hp _ hm e)
         exact (Pl.upd_ne _ _ this).trans ((hI.glx p hp).2.2 h)) fun d y q1 q2 => by
          have hrep := h3 _ c (Pl.le_upd _ hcn) (Pl.upd_self _ _ _)
          unfold holds at h5
          rw [q1] at h5
          have h5 : @Option.rec AV (fun _ => Bool) true (fun x => eqV (f c) x) (tm.get d) = true := h5
          rw [q2] at h5
          rw [← tT h5]; exact hrep))
       exact hst K Q (fun _ _ h => h) fun _ _ _ h => h.elim
end
end Ev
end Go.Proofs.YtjogffchdejabaaGreatDoor
