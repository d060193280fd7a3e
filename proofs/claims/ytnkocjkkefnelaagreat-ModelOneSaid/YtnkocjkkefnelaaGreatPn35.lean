/- Parts. -/
import Derived.Test.YtnkocjkkefnelaaGreatPn6
import Derived.Test.YtnkocjkkefnelaaGreatPn7
import Derived.Test.YtnkocjkkefnelaaGreatPn8
import Derived.Test.YtnkocjkkefnelaaGreatPn18
import Derived.Test.YtnkocjkkefnelaaGreatPn19
import Derived.Test.YtnkocjkkefnelaaGreatPn22
import Derived.Test.YtnkocjkkefnelaaGreatPn33
import Derived.Test.YtnkocjkkefnelaaGreatPn34
set_option linter.unusedVariables false
set_option linter.unusedSimpArgs false
set_option maxHeartbeats 4000000
namespace Go.Proofs.YtnkocjkkefnelaaGreat
def rowD (es : List Ev) (ad : List Int) (i : Nat) (l : List Int) : Bool := !(l.length == 0) && !(l.getD 0 0 != (i : Int)) && l.isPerm (wantTo es (ad.getD i 0) es.length)
def checkD (x : Ex) : Bool := decide (x.evs.length ≤ 64) && evsTo x.evs (addrsTo x.evs) x.evs.length && fromB x.evs x.from_ && decide (x.order.length = (addrsTo x.evs).length) && (List.range x.order.length).all fun i => rowD x.evs (addrsTo x.evs) i (x.order.getD i default).2
theorem sortI_perm {l m : List Int} (h : l.Perm m) (hm : m.Pairwise (· < ·)) : sortI l = m := by
 refine ((List.mergeSort_perm l _).trans h).eq_of_pairwise (le := fun a b : Int => a ≤ b) (fun a b _ _ h1 h2 => by omega) ?_ (hm.imp fun h => by omega)
 exact (List.pairwise_mergeSort (le := fun x y : Int => decide (x ≤ y)) (fun a b c h1 h2 => by simp at *; omega) (fun a b => by simp; omega) l).imp fun h => by simpa using h
theorem checkD_ok {x : Ex} (h : checkD x = true) : checkI x = 0 := by
 unfold checkD at h
 simp only [Bool.and_eq_true, decide_eq_true_eq] at h
 obtain ⟨⟨⟨⟨h1, h2⟩, h3⟩, h4⟩, h5⟩ := h
 have ho : orderB x.evs (addrsTo x.evs) x.order = true := by
  unfold orderB rowsTo
  rw [decide_eq_true h4, Bool.true_and, List.all_eq_true]
  intro i hi
  have := List.all_eq_true.1 h5 i hi
  unfold rowD at this
  unfold rowOk
  simp only [Bool.and_eq_true] at this ⊢
  refine ⟨this.1, ?_⟩
  rw [sortI_perm (List.isPerm_iff.1 this.2) (want_pairwise _ _ _)]
  simp
 unfold checkI
 rw [if_neg (by omega), if_neg (by rw [h2]; decide), if_neg (by rw [h3]; decide), if_neg (by rw [ho]; decide)]
instance evOkDec (e : Ev) : Decidable e.ok := by unfold Ev.ok Ev.wf; infer_instance
def exD (x : Ex) : Bool := checkD x && x.evs.all (fun e => decide e.ok) && decide (x.from_.length ≤ 65536) && decide (x.order.length ≤ 65536) && x.order.all fun r => decide (r.2.length ≤ 65536)
theorem onOk_zero : OnOk on0 where
 check := checkD_ok (by decide +kernel)
 ad := by decide
 len4 := by decide
 fl := rfl
 ol := rfl
 ok e he := by
  simp only [on0, List.mem_cons, List.not_mem_nil, or_false] at he
  rcases he with rfl | rfl | rfl | rfl <;> exact oQ (by decide) (by decide) (by decide) (by decide) (by decide)
 hart := by decide
 acc i hi := by
  have h4 : i < 4 := hi
  have : i = 0 ∨ i = 1 ∨ i = 2 ∨ i = 3 := by omega
  rcases this with rfl | rfl | rfl | rfl <;> exact ⟨rfl, by decide, fun h => absurd h (by decide)⟩
 beg w hw := by
  have : w = 0 ∨ w = 1 ∨ w = 2 ∨ w = 3 := by omega
  rcases this with rfl | rfl | rfl | rfl <;> rfl
 rise w hw := by
  have : w = 0 ∨ w = 1 ∨ w = 2 ∨ w = 3 := by omega
  rcases this with rfl | rfl | rfl | rfl <;> exact List.pairwise_singleton _ _
 src i hi hl := by
  have h4 : i < 4 := hi
  have : i = 0 ∨ i = 1 ∨ i = 2 ∨ i = 3 := by omega
  rcases this with rfl | rfl | rfl | rfl <;> exact absurd hl (by decide)
 last i hi hl := by
  have h4 : i < 4 := hi
  have : i = 0 ∨ i = 1 ∨ i = 2 ∨ i = 3 := by omega
  rcases this with rfl | rfl | rfl | rfl <;> exact absurd hl (by decide)
 old := Or.inl rfl
theorem lL (c : OnA) : onW c < 4 := by unfold onW; omega
theorem qP {s : OnS} (h : OnOk s) (c : OnA) : 0 < (onRow c s).length ∧ (onRow c s).getD 0 0 = (onW c : Int) ∧ (∀ z, z ∈ onRow c s ↔ ∃ b : Nat, z = (b : Int) ∧ b < s.es.length ∧ (s.es.getD b default).stB = true ∧ (s.es.getD b default).addr = 4 * (onW c : Int)) ∧ (∀ z ∈ onRow c s, z ≤ (onLast c s : Int)) ∧ (onLast c s : Int) ∈ onRow c s ∧ (onRow c s).Pairwise (· < ·) := by
 have hw := lL c
 have hc := (uV h.check).2.2.2
 have hlt : onW c < s.ex.order.length := by show _ < (s.os.map _).length; rw [List.length_map, h.ol]; exact hw
 obtain ⟨h1, h2, h3⟩ := (wM hc).2 (onW c) hlt
 rw [cX] at h1 h2 h3
 have had : (addrsTo s.ex.evs).getD (onW c) 0 = 4 * (onW c : Int) := by
  rw [show addrsTo s.ex.evs = [0, 4, 8, 12] from h.ad]
  generalize onW c = w at hw
  have : w = 0 ∨ w = 1 ∨ w = 2 ∨ w = 3 := by omega
  rcases this with rfl | rfl | rfl | rfl <;> rfl
 have hmem : ∀ z, z ∈ onRow c s ↔ ∃ b : Nat, z = (b : Int) ∧ b < s.es.length ∧ (s.es.getD b default).stB = true ∧ (s.es.getD b default).addr = 4 * (onW c : Int) := fun z => by
  have := wT hc hlt (a := z)
  rw [cX] at this
  show z ∈ s.os.getD (onW c) [] ↔ _
  rw [this, had, mem_want]
  constructor
  ·rintro ⟨i, g1, g2, g3, g4⟩; exact ⟨i, g2, g1, g3, g4⟩
  ·rintro ⟨i, g2, g1, g3, g4⟩; exact ⟨i, g1, g2, g3, g4⟩
 have hr : (onRow c s).Pairwise (· < ·) := h.rise (onW c) hw
 have hpos : 0 < (onRow c s).length := List.length_pos_iff.2 h3
 have hl : (onRow c s).getD ((onRow c s).length - 1) 0 ∈ onRow c s := by
  rw [List.getD_eq_getElem?_getD, List.getElem?_eq_getElem (by omega)]; exact List.getElem_mem _
 obtain ⟨b, eb, hb, _⟩ := (hmem _).1 hl
 have eL : (onLast c s : Int) = (onRow c s).getD ((onRow c s).length - 1) 0 := by unfold onLast; omega
 refine ⟨hpos, h2, hmem, fun z hz => ?_, by rw [eL]; exact hl, hr⟩
 rw [eL]
 obtain ⟨i, hi, rfl⟩ := List.getElem_of_mem hz
 rw [List.getD_eq_getElem?_getD, List.getElem?_eq_getElem (by omega)]
 by_cases e : i = (onRow c s).length - 1
 ·subst e; exact Int.le_refl _
 ·exact Int.le_of_lt (List.pairwise_iff_getElem.1 hr i ((onRow c s).length - 1) hi (by omega) (by omega))
theorem onEv_st (c : OnA) (s : OnS) : (onEv c s).stB = c.st ∧ (onEv c s).ldB = !c.st ∧ (onEv c s).addr = 4 * (onW c : Int) ∧ (onEv c s).hart = 0 ∧ (onEv c s).rsv = false ∧ (onEv c s).kind ≠ 3 ∧ (onEv c s).kind ≠ 4 ∧ (onEv c s).kind ≠ 5 := by
 unfold onEv
 cases c.st
 ·exact ⟨rfl, rfl, rfl, rfl, rfl, show (1 : Int) ≠ 3 by decide, show (1 : Int) ≠ 4 by decide, show (1 : Int) ≠ 5 by decide⟩
 ·exact ⟨rfl, rfl, rfl, rfl, rfl, show (2 : Int) ≠ 3 by decide, show (2 : Int) ≠ 4 by decide, show (2 : Int) ≠ 5 by decide⟩
theorem onOk_step {s : OnS} (h : OnOk s) {c : OnA} (hc : c.ok) (hl : s.es.length < 64) : OnOk (onStep c s) := by
 obtain ⟨r1, r2, r3, r4, r5, r6⟩ := qP h c
 obtain ⟨e1, e2, e3, e4, e5, e6, e7, e8⟩ := onEv_st c s
 have hw := lL c
 obtain ⟨b, eb, hb1, hb2, hb3⟩ := (r3 _).1 r5
 have eb' : onLast c s = b := by omega
 have hval := h.ok _ (cB hb1)
 have hn : Next s.ex (onEv c s) (onFrom c s) := by
  refine ⟨hl, e8, ?_, by rw [e3]; omega, ?_, ⟨by rw [e4]; exact Int.le_refl 0, by rw [e4]; decide⟩, Or.inr (by rw [e4]; exact h.hart), fun _ => ?_, ?_⟩
  ·unfold onEv Ev.bareB evo; cases c.st <;> simp
  ·unfold onEv
   cases c.st <;> exact ⟨rfl, rfl, rfl⟩
  ·show _ ∈ addrsTo s.es
   rw [h.ad, e3]
   generalize onW c = w at hw
   have : w = 0 ∨ w = 1 ∨ w = 2 ∨ w = 3 := by omega
   rcases this with rfl | rfl | rfl | rfl <;> decide
  ·cases hs : c.st with
   | true => left; rw [e2, hs]; exact ⟨rfl, by unfold onFrom; rw [if_pos hs]⟩
   | false =>
    right
    have hf : onFrom c s = (onLast c s : Int) := by unfold onFrom; rw [if_neg (by rw [hs]; decide)]
    have hv : (onEv c s).rval = (s.es.getD (onLast c s) default).val := by unfold onEv; rw [if_neg (by rw [hs]; decide)]; rfl
    rw [e2, hs, hf, e3, hv]
    refine ⟨rfl, by omega, by show (onLast c s : Int) < (s.es.length : Int); omega, ?_⟩
    rw [Int.toNat_natCast]
    show (s.es.getD (onLast c s) default).stB = true ∧ (s.es.getD (onLast c s) default).addr = _ ∧ _
    rw [eb']
    exact ⟨hb2, hb3, rfl⟩
 have had : ∀ k, k < 4 → (addrsTo s.ex.evs).getD k 0 = 4 * (k : Int) := fun k hk => by
  rw [show addrsTo s.ex.evs = [0, 4, 8, 12] from h.ad]
  have : k = 0 ∨ k = 1 ∨ k = 2 ∨ k = 3 := by omega
  rcases this with rfl | rfl | rfl | rfl <;> rfl
 have hos : ∀ k, k < 4 → (onStep c s).os.getD k [] = if c.st = true ∧ k = onW c then s.os.getD k [] ++ [(s.es.length : Int)] else s.os.getD k [] := fun k hk => by
  show (if c.st = true then s.os.set (onW c) (onRow c s ++ [(s.es.length : Int)]) else s.os).getD k [] = _
  cases hs : c.st with
  | false => simp
  | true =>
   simp only [if_true, true_and]
   by_cases e : k = onW c
   ·subst e
    rw [if_pos rfl, List.getD_eq_getElem?_getD, List.getElem?_set_self (by rw [h.ol]; exact hw)]; rfl
   ·rw [if_neg e, List.getD_eq_getElem?_getD, List.getElem?_set_ne (Ne.symm e), ← List.getD_eq_getElem?_getD]
 have hck := check_snoc (y := (onStep c s).ex) h.check hn rfl rfl
  (by show ((if c.st = true then s.os.set (onW c) (onRow c s ++ [(s.es.length : Int)]) else s.os).map _).length = (s.os.map _).length; rw [List.length_map, List.length_map]; split <;> simp)
  (fun k hk => by
   have hk4 : k < 4 := by
    have : k < (s.os.map fun r => ((default : Sl), r)).length := hk
    rw [List.length_map, h.ol] at this; exact this
   rw [cX, cX, hos k hk4, e1, e3, had k hk4]
   cases hs : c.st with
   | false => simp
   | true =>
    simp only [true_and, Bool.true_and, beq_iff_eq]
    by_cases e : k = onW c
    ·rw [if_pos e, if_pos (by omega)]; rfl
    ·rw [if_neg e, if_neg (by omega)])
 have hlen : (onStep c s).es.length = s.es.length + 1 := by show (s.es ++ [onEv c s]).length = _; simp
 have lo : ∀ i, i < s.es.length → (onStep c s).es.getD i default = s.es.getD i default := fun i hi => vL hi
 have hi_ : (onStep c s).es.getD s.es.length default = onEv c s := wZ rfl
 have flo : ∀ i, i < s.es.length → (onStep c s).fs.getD i 0 = s.fs.getD i 0 := fun i hi => vL (by rw [h.fl]; exact hi)
 have fhi : (onStep c s).fs.getD s.es.length 0 = onFrom c s := wZ h.fl.symm
 have h4 := h.len4
 refine ⟨hck.1, hck.2.trans h.ad, by rw [hlen]; omega, ?_, ?_, ?_, ?_, ?_, ?_, ?_, ?_, ?_, ?_⟩
 ·show (s.fs ++ [onFrom c s]).length = (s.es ++ [onEv c s]).length
  simp [h.fl]
 ·show (if c.st = true then s.os.set (onW c) (onRow c s ++ [(s.es.length : Int)]) else s.os).length = 4
  split
  ·rw [List.length_set]; exact h.ol
  ·exact h.ol
 ·intro e he
  rcases List.mem_append.1 (show e ∈ s.es ++ [onEv c s] from he) with he | he
  ·exact h.ok e he
  ·have : e = onEv c s := by simpa using he
   subst this
   unfold onEv
   have hv2 := hval.1.2.2.2.1
   rw [eb']
   split
   ·exact oQ (by decide) (by decide) (by omega) hc.2 (by decide)
   ·exact oQ (by decide) (by decide) (by omega) (by decide) (by omega)
 ·rw [hlen, Nat.add_sub_cancel, hi_, e4]; exact Int.le_refl 0
 ·intro i hi
  rw [hlen] at hi
  rcases Nat.lt_or_ge i s.es.length with hh | hh
  ·rw [lo i hh]; exact h.acc i hh
  ·have : i = s.es.length := by omega
   subst this
   rw [hi_]
   exact ⟨e5, e6, fun _ => ⟨e4, e7⟩⟩
 ·intro w hw'
  rw [lo w (by omega)]; exact h.beg w hw'
 ·intro w hw'
  rw [hos w hw']
  split
  ·rename_i g
   obtain ⟨_, rfl⟩ := g
   refine List.pairwise_append.2 ⟨r6, List.pairwise_singleton _ _, fun a ha b' hb' => ?_⟩
   have : b' = (s.es.length : Int) := by simpa using hb'
   subst this
   obtain ⟨n, rfl, g1, _⟩ := (r3 a).1 ha
   omega
  ·exact h.rise w hw'
 ·intro i hi hld
  rw [hlen] at hi
  rcases Nat.lt_or_ge i s.es.length with hh | hh
  ·rw [lo i hh] at hld; rw [flo i hh]; exact h.src i hh hld
  ·have : i = s.es.length := by omega
   subst this
   rw [hi_, e2] at hld
   rw [fhi]
   unfold onFrom
   rw [if_neg (by intro h; rw [h] at hld; cases hld)]
   omega
 ·intro i hi hld b' hb' hst hadr hlt
  rw [hlen] at hi hb'
  rcases Nat.lt_or_ge b' s.es.length with hh | hh
  ·rcases Nat.lt_or_ge i s.es.length with hj | hj
   ·rw [lo i hj] at hld hadr; rw [lo b' hh] at hst hadr; rw [flo i hj] at hlt
    exact h.last i hj hld b' hh hst hadr hlt
   ·exfalso
    have : i = s.es.length := by omega
    subst this
    rw [hi_] at hld hadr
    rw [e2] at hld
    rw [fhi] at hlt
    rw [lo b' hh] at hst hadr
    have := r4 b' ((r3 _).2 ⟨b', rfl, hh, hst, by rw [hadr, e3]⟩)
    unfold onFrom at hlt
    rw [if_neg (by intro h; rw [h] at hld; cases hld)] at hlt
    omega
  ·have hb2' : b' = s.es.length := by omega
   rcases Nat.lt_or_ge i s.es.length with hj | hj
   ·omega
   ·exfalso
    have : i = s.es.length := by omega
    subst this hb2'
    rw [hi_, e2] at hld
    rw [hi_, e1] at hst
    rw [hst] at hld; cases hld
 ·have ho' : (onStep c s).old = if 1 < (onRow c s).length then (s.es.length : Int) else s.old := rfl
  by_cases h1 : 1 < (onRow c s).length
  ·rw [if_pos h1] at ho'
   have m1 : (onRow c s).getD 1 0 ∈ onRow c s := by
    rw [List.getD_eq_getElem?_getD, List.getElem?_eq_getElem h1]; exact List.getElem_mem _
   obtain ⟨b1, g0, g1, g2, g3⟩ := (r3 _).1 m1
   have hgt : (onW c : Int) < (b1 : Int) := by
    rw [← g0, ← r2]
    have := List.pairwise_iff_getElem.1 r6 0 1 (by omega) h1 (by omega)
    rw [List.getD_eq_getElem?_getD, List.getD_eq_getElem?_getD, List.getElem?_eq_getElem h1, List.getElem?_eq_getElem (by omega)]
    exact this
   have hb4 : 4 ≤ b1 := by
    rcases Nat.lt_or_ge b1 4 with hh | hh
    ·exfalso
     rw [h.beg b1 hh] at g3
     have g3' : 4 * (b1 : Int) = 4 * (onW c : Int) := g3
     omega
    ·exact hh
   exact Or.inr ⟨s.es.length, b1, ho', hb4, g1, by rw [hlen]; omega, by rw [lo b1 g1]; exact g2, by rw [lo b1 g1, hi_, g3, e3]⟩
  ·rw [if_neg h1] at ho'
   rcases h.old with ho | ⟨m, b1, g0, g1, g2, g3, g4, g5⟩
   ·exact Or.inl (ho'.trans ho)
   ·exact Or.inr ⟨m, b1, ho'.trans g0, g1, g2, by rw [hlen]; omega, by rw [lo b1 (by omega)]; exact g4, by rw [lo b1 (by omega), lo m g3]; exact g5⟩
theorem dQ (l : List OnA) : ∀ i, (onTo l i).es.length = i + 4
 | 0 => rfl
 | i + 1 => by
  show ((onTo l i).es ++ [_]).length = _
  rw [List.length_append, dQ l i]; simp
theorem lN {l : List OnA} (hl : ∀ c ∈ l, c.ok) (h12 : l.length ≤ 12) : ∀ i, i ≤ l.length → OnOk (onTo l i)
 | 0, _ => onOk_zero
 | i + 1, h => by
  have := dQ l i
  refine onOk_step (lN hl h12 i (by omega)) (hl _ ?_) (by omega)
  rw [List.getD_eq_getElem?_getD, List.getElem?_eq_getElem (by omega)]; exact List.getElem_mem _
def onE (s : OnS) (m : Nat) : Ev := { s.es.getD m default with rval := 0 }
def onB (s : OnS) (m : Nat) : Nat := ((s.es.getD m default).addr / 4).toNat
def onY (s : OnS) (m : Nat) : Ex := ⟨default, default, default, s.es.set m (onE s m), s.fs.set m (onB s m : Int), s.os.map fun r => (default, r)⟩
section
variable {s : OnS} {m : Nat}
theorem pE (hm : m < s.es.length) (i : Nat) : (s.es.set m (onE s m)).getD i default = { s.es.getD i default with rval := if i = m then 0 else (s.es.getD i default).rval } := by
 by_cases e : i = m
 ·subst e
  rw [List.getD_eq_getElem?_getD, List.getElem?_set_self hm, if_pos rfl]; rfl
 ·rw [List.getD_eq_getElem?_getD, List.getElem?_set_ne (Ne.symm e), ← List.getD_eq_getElem?_getD, if_neg e]
theorem qI (hm : m < s.fs.length) (i : Nat) : (s.fs.set m (onB s m : Int)).getD i 0 = if i = m then (onB s m : Int) else s.fs.getD i 0 := by
 by_cases e : i = m
 ·subst e
  rw [List.getD_eq_getElem?_getD, List.getElem?_set_self hm, if_pos rfl]; rfl
 ·rw [List.getD_eq_getElem?_getD, List.getElem?_set_ne (Ne.symm e), ← List.getD_eq_getElem?_getD, if_neg e]
theorem pJ (e : Ev) (v : Int) : ({ e with rval := v } : Ev).stB = e.stB := rfl
theorem qR (e : Ev) (v : Int) : ({ e with rval := v } : Ev).ldB = e.ldB := rfl
theorem lK (h : OnOk s) (h4 : 4 ≤ m) (hm : m < s.es.length) : onB s m < 4 ∧ (s.es.getD m default).addr = 4 * (onB s m : Int) := by
 have := (fC s.es _).2 ⟨_, cB hm, ((h.acc m hm).2.2 h4).2, rfl⟩
 rw [h.ad] at this
 unfold onB
 simp only [List.mem_cons, List.not_mem_nil, or_false] at this
 omega
theorem pF (hm : m < s.es.length) : addrsTo (s.es.set m (onE s m)) = addrsTo s.es := by
 have key : ∀ (l : List Ev) (k : Nat) (e : Ev) (acc : List Int), k < l.length → e.kind = (l.getD k default).kind → e.addr = (l.getD k default).addr → (l.set k e).foldl (fun l e => if e.kind = 4 then l else addIn e.addr l) acc = l.foldl (fun l e => if e.kind = 4 then l else addIn e.addr l) acc := by
  intro l
  induction l with
  | nil => intro k e acc hk; simp at hk
  | cons a l ih =>
   intro k e acc hk e1 e2
   cases k with
   | zero =>
    have e1' : e.kind = a.kind := e1
    have e2' : e.addr = a.addr := e2
    simp only [List.set_cons_zero, List.foldl_cons, e1', e2']
   | succ k =>
    simp only [List.set_cons_succ, List.foldl_cons]
    exact ih k e _ (by simpa using hk) e1 e2
 exact key s.es m (onE s m) [] hm rfl rfl
variable (h : OnOk s) (h4 : 4 ≤ m) (hm : m < s.es.length) (hk : (s.es.getD m default).kind = 1)
include h h4 hm hk
theorem y_check : checkI (onY s m) = 0 := by
 obtain ⟨h1, h2, h3, h5⟩ := uV h.check
 obtain ⟨w1, w2⟩ := lK h h4 hm
 have hfl : m < s.fs.length := by rw [h.fl]; exact hm
 have e1 : (onY s m).evs = s.es.set m (onE s m) := rfl
 have e2 : (onY s m).from_ = s.fs.set m (onB s m : Int) := rfl
 have e3 : (onY s m).order = s.ex.order := rfl
 have hbare : ∀ i, (s.es.getD i default).bareB = true → ({ s.es.getD i default with rval := if i = m then 0 else (s.es.getD i default).rval } : Ev).bareB = true := fun i hb => by
  by_cases e : i = m
  ·subst e
   rw [if_pos rfl]
   unfold Ev.bareB at hb ⊢
   dsimp only
   rw [hk] at hb ⊢
   exact hb
  ·rw [if_neg e]; exact hb
 have c2 : evsTo (onY s m).evs (addrsTo (onY s m).evs) (onY s m).evs.length = true := by
  rw [e1, pF hm, List.length_set]
  have h2' : evsTo s.es (addrsTo s.es) s.es.length = true := h2
  unfold evsTo at *
  rw [List.all_eq_true] at *
  intro n hn
  have := h2' n hn
  unfold evOk evPre hangsB hangsTo depOk at *
  simp only [pE hm, qR, pJ, Bool.and_eq_true] at *
  exact ⟨⟨⟨⟨⟨hbare n this.1.1.1.1.1, this.1.1.1.1.2⟩, this.1.1.1.2⟩, this.1.1.2⟩, this.1.2⟩, this.2⟩
 have c3 : fromB (onY s m).evs (onY s m).from_ = true := by
  rw [e1, e2]
  have h3' : fromB s.es s.fs = true := h3
  have hat := fun k (hk : k < s.fs.length) => gM h3' hk
  unfold fromB fromTo
  rw [List.length_set, List.length_set, h.fl]
  simp only [decide_true, Bool.true_and]
  rw [List.all_eq_true]
  intro k hk'
  have hkl := List.mem_range.1 hk'
  have := hat k (by rw [h.fl]; exact hkl)
  unfold fromOk srcOk at *
  simp only [pE hm, qI hfl, qR, pJ, List.length_set] at *
  by_cases e : k = m
  ·subst e
   rw [if_pos rfl, if_pos rfl]
   have hld : (s.es.getD k default).ldB = true := by unfold Ev.ldB; rw [hk]; rfl
   rw [hld, Int.toNat_natCast, h.beg _ w1, w2]
   simp only [onBeg, evo, Ev.stB]
   have h64 := h.len4
   simp
   omega
  ·rw [if_neg e, if_neg e]; exact this
 have c4 : orderB (onY s m).evs (addrsTo (onY s m).evs) (onY s m).order = true := by
  rw [e1, e3, pF hm]
  have h5' : orderB s.es (addrsTo s.es) s.ex.order = true := h5
  revert h5'
  unfold orderB rowsTo rowOk wantTo
  simp only [pE hm, pJ, List.length_set]
  exact id
 unfold checkI
 rw [if_neg (by rw [e1, List.length_set]; have : s.ex.evs.length ≤ 64 := h1; exact Nat.not_lt.2 this), if_neg (by rw [c2]; decide), if_neg (by rw [c3]; decide), if_neg (by rw [c4]; decide)]
theorem y_rel (hl : s.es.length ≤ 16) : (onY s m).rel := by
 obtain ⟨⟨⟨r1, r2, r3, r4, r5⟩, r6⟩, _⟩ := nA h hl
 refine ⟨⟨⟨by show (s.es.set m _).length ≤ _; rw [List.length_set]; exact r1, fun e he => ?_, by show (s.fs.set m _).length ≤ _; rw [List.length_set]; exact r3, r4, r5⟩, r6⟩, y_check h h4 hm hk⟩
 rcases List.mem_or_eq_of_mem_set (show e ∈ s.es.set m (onE s m) from he) with he | rfl
 ·exact h.ok e he
 ·have := h.ok _ (cB hm)
  obtain ⟨⟨q1, q2, q3, q4, q5, q6, q7⟩, q8⟩ := this
  exact ⟨⟨q1, q2, q3, q4, by unfold onE; dsimp only; omega, q6, q7⟩, q8⟩
theorem y_not (hl : s.es.length ≤ 16) {b : Nat} (hb4 : 4 ≤ b) (hb : b < m) (hst : (s.es.getD b default).stB = true) (had : (s.es.getD b default).addr = (s.es.getD m default).addr) : allowB (onY s m) = false := by
 cases ha : allowB (onY s m) with
 | false => rfl
 | true =>
  exfalso
  unfold allowB judB at ha
  dsimp only at ha
  simp only [Bool.and_eq_true, Bool.not_eq_true'] at ha
  have hlen : (onY s m).evs.length = s.es.length := List.length_set
  obtain ⟨t, ht⟩ := (zY (by rw [hlen]; omega) (eY _)).1 ha.1.1
  obtain ⟨w1, w2⟩ := lK h h4 hm
  have hfl : m < s.fs.length := by rw [h.fl]; exact hm
  have hbl : b < s.es.length := by omega
  have g : ∀ i, (onY s m).evs.getD i default = { s.es.getD i default with rval := if i = m then 0 else (s.es.getD i default).rval } := pE hm
  have hld : (s.es.getD m default).ldB = true := by unfold Ev.ldB; rw [hk]; rfl
  obtain ⟨m1, m2⟩ := (h.acc m hm).2.2 h4
  obtain ⟨b1, b2⟩ := (h.acc b hbl).2.2 hb4
  have a1 : Arr (rcohL (onY s m)) b m := by
   refine ⟨((b : Int), (m : Int)), ?_, rfl, rfl⟩
   unfold rcohL
   refine List.mem_append.2 (Or.inr (List.mem_filter.2 ⟨uP.2 ⟨b, m, by rw [hlen]; exact hbl, by rw [hlen]; exact hm, ?_, rfl⟩, ?_⟩))
   ·unfold isPo
    rw [g, g]
    dsimp only
    rw [b1, m1]
    simp [hb]
   ·unfold cohG
    simp only [Int.toNat_natCast, g, Bool.and_eq_true, Bool.not_eq_true', decide_eq_false_iff_not, decide_eq_true_eq]
    exact ⟨⟨b2, m2⟩, had⟩
  have a2 : Arr (rcohL (onY s m)) m b := by
   refine ⟨((m : Int), (b : Int)), ?_, rfl, rfl⟩
   unfold rcohL cohL
   refine List.mem_append.2 (Or.inl (List.mem_append.2 (Or.inr (uP.2 ⟨m, b, by rw [hlen]; exact hm, by rw [hlen]; exact hbl, ?_, rfl⟩))))
   have hf : (onY s m).from_.getD m 0 = (onB s m : Int) := by
    show (s.fs.set m (onB s m : Int)).getD m 0 = _
    rw [qI hfl, if_pos rfl]
   unfold isFrB isCoB
   rw [hf, Int.toNat_natCast]
   simp only [g, pJ, qR]
   rw [hld, hst, h.beg _ w1, had, w2]
   have hc := (uV h.check).2.2.2
   have hlt : onB s m < s.ex.order.length := by show _ < (s.os.map _).length; rw [List.length_map, h.ol]; exact w1
   obtain ⟨h1, h2, h3⟩ := (wM hc).2 (onB s m) hlt
   have hpos : 0 < (s.ex.order.getD (onB s m) default).2.length := List.length_pos_iff.2 h3
   have hbm : (b : Int) ∈ (s.ex.order.getD (onB s m) default).2 := by
    rw [wT hc hlt, yM]
    refine ⟨hbl, hst, ?_⟩
    rw [show addrsTo s.ex.evs = [0, 4, 8, 12] from h.ad]
    show (s.es.getD b default).addr = _
    rw [had, w2]
    generalize onB s m = w at w1
    have : w = 0 ∨ w = 1 ∨ w = 2 ∨ w = 3 := by omega
    rcases this with rfl | rfl | rfl | rfl <;> rfl
   obtain ⟨j, hj, ej⟩ := List.getElem_of_mem hbm
   have p1 := yL hc hlt hpos (a := onB s m) h2
   have ej' : (s.ex.order.getD (onB s m) default).2.getD j 0 = (b : Int) := by rw [List.getD_eq_getElem?_getD, List.getElem?_eq_getElem hj, ej]; rfl
   have p2 := yL hc hlt hj (a := b) ej'
   have hj0 : j ≠ 0 := fun e => by subst e; rw [h2] at ej'; omega
   have p1' : placeFrom (onY s m).order (onB s m : Int) = 0 := p1
   have p2' : placeFrom (onY s m).order (b : Int) = j := p2
   rw [p1', p2']
   have hmb : (m == b) = false := by rw [beq_eq_false_iff_ne]; omega
   rw [hmb]
   have hj' : 0 < j := by omega
   simp [onBeg, evo, Ev.stB, hj']
  have := ht _ _ a1
  have := ht _ _ a2
  omega
end
set_option maxHeartbeats 4000000
set_option maxRecDepth 100000
def Ev.lens (e : Ev) : Nat := e.addrs.length + e.datas.length + e.ctrls.length
def sumE (es : List Ev) (k : Nat) : Nat := ((es.take k).map Ev.lens).sum
def sumR (rows : List (Sl × List Int)) (k : Nat) : Nat := ((rows.take k).map fun r => r.2.length).sum
def wideB8 (x : Ex) : Bool := decide (20 < x.evs.length) || decide (200 < x.from_.length) || decide (200 < x.order.length) || decide (400 < x.from_.length + sumR x.order x.order.length) || decide (400 < x.from_.length + sumR x.order x.order.length + sumE x.evs x.evs.length)
theorem Ex.ok.ev {x : Ex} (h : x.ok) (i : Nat) : (x.evs.getD i default).addrs.length ≤ 1152921504606846976 ∧ (x.evs.getD i default).datas.length ≤ 1152921504606846976 ∧ (x.evs.getD i default).ctrls.length ≤ 1152921504606846976 := by
 rcases Nat.lt_or_ge i x.evs.length with hh | hh
 ·rw [List.getD_eq_getElem?_getD, List.getElem?_eq_getElem hh]
  have := h.2.1 _ (List.getElem_mem hh)
  exact ⟨this.2.1, this.2.2.1, this.2.2.2.1⟩
 ·rw [List.getD_eq_getElem?_getD, List.getElem?_eq_none hh]
  decide
theorem Ex.ok.row {x : Ex} (h : x.ok) (i : Nat) : (x.order.getD i default).2.length ≤ 1152921504606846976 := by
 rcases Nat.lt_or_ge i x.order.length with hh | hh
 ·rw [List.getD_eq_getElem?_getD, List.getElem?_eq_getElem hh]
  exact h.2.2.2.2 _ (List.getElem_mem hh)
 ·rw [List.getD_eq_getElem?_getD, List.getElem?_eq_none hh]
  decide
set_option maxHeartbeats 4000000
set_option maxRecDepth 100000
def ev8 (hart kind val rval : Int) : Ev := ⟨hart, kind, 0, val, rval, false, false, 0, 0, false, ⟨none, 0, 0⟩, ⟨none, 0, 0⟩, ⟨none, 0, 0⟩, [], [], []⟩
def kx8 : Ex := ⟨default, default, default, [ev8 (-1) 5 0 0, ev8 0 2 1 0, ev8 0 1 0 0], [-1, -1, 0], [(default, [0, 1])]⟩
def ky8 : Ex := ⟨default, default, default, [ev8 (-1) 5 0 0, ev8 0 2 1 0, ev8 0 1 0 1], [-1, -1, 1], [(default, [0, 1])]⟩
theorem mN {l : List Int} (h : l.Pairwise fun a b => decide (a ≤ b) = true) : sortI l = l := by
 unfold sortI
 exact List.mergeSort_of_pairwise h
theorem kx8_ok : kx8.fit := by
 refine ⟨⟨by decide, fun e he => ?_, by decide, by decide, by decide⟩, by decide⟩
 simp only [kx8, List.mem_cons, List.not_mem_nil, or_false] at he
 rcases he with rfl | rfl | rfl <;> (unfold Ev.ok Ev.wf ev8; decide)
theorem ky8_ok : ky8.fit := by
 refine ⟨⟨by decide, fun e he => ?_, by decide, by decide, by decide⟩, by decide⟩
 simp only [ky8, List.mem_cons, List.not_mem_nil, or_false] at he
 rcases he with rfl | rfl | rfl <;> (unfold Ev.ok Ev.wf ev8; decide)
theorem kx8_check : checkI kx8 = 0 := by
 have h1 : addrsTo kx8.evs = [0] := by decide
 have h2 : evsTo kx8.evs [0] kx8.evs.length = true := by decide
 have h3 : fromB kx8.evs kx8.from_ = true := by decide
 have h4 : orderB kx8.evs [0] kx8.order = true := by
  unfold orderB rowsTo
  rw [show List.range kx8.order.length = [0] from rfl]
  simp only [List.all_cons, List.all_nil, Bool.and_true]
  have : sortI [0, 1] = [0, 1] := mN (by decide)
  unfold rowOk
  rw [show (kx8.order.getD 0 default).2 = [0, 1] from rfl, this]
  decide
 unfold checkI
 rw [h1, h2, h3, h4]
 rfl
theorem ky8_check : checkI ky8 = 0 := by
 have h1 : addrsTo ky8.evs = [0] := by decide
 have h2 : evsTo ky8.evs [0] ky8.evs.length = true := by decide
 have h3 : fromB ky8.evs ky8.from_ = true := by decide
 have h4 : orderB ky8.evs [0] ky8.order = true := by
  unfold orderB rowsTo
  rw [show List.range ky8.order.length = [0] from rfl]
  simp only [List.all_cons, List.all_nil, Bool.and_true]
  have : sortI [0, 1] = [0, 1] := mN (by decide)
  unfold rowOk
  rw [show (ky8.order.getD 0 default).2 = [0, 1] from rfl, this]
  decide
 unfold checkI
 rw [h1, h2, h3, h4]
 rfl
theorem kx8_not : allowT kx8 = (false, 0) := by
 unfold allowT
 rw [kx8_check, if_pos rfl, show allowB kx8 = false by decide +kernel]
theorem ky8_is : allowT ky8 = (true, 0) := by
 unfold allowT
 rw [ky8_check, if_pos rfl, show allowB ky8 = true by decide +kernel]
set_option maxHeartbeats 4000000 in
theorem known8_p : Pure E.P 14 [] (.bool true) := by
 have hX := cM kx8 kx8_ok (by decide)
 have hY := cM ky8 ky8_ok (by decide)
 rw [kx8_not] at hX
 rw [ky8_is] at hY
 have n7 : NilS 7 := ⟨trivial⟩
 have n8 : NilS 8 := ⟨trivial⟩
 have n9 : NilS 9 := ⟨trivial⟩
 have n20 : NilS 20 := ⟨trivial⟩
 have n21 : NilS 21 := ⟨trivial⟩
 have n22 : NilS 22 := ⟨trivial⟩
 have f10 : Frozen 10 := ⟨trivial⟩
 have f11 : Frozen 11 := ⟨trivial⟩
 have f12 : Frozen 12 := ⟨trivial⟩
 have f13 : Frozen 13 := ⟨trivial⟩
 have f23 : Frozen 23 := ⟨trivial⟩
 have f24 : Frozen 24 := ⟨trivial⟩
 have f25 : Frozen 25 := ⟨trivial⟩
 have f26 : Frozen 26 := ⟨trivial⟩
 refine fnA Tryz.func14 Tryz.ntmps14 ?_
 refine run ?_; refine aoR fun _ => ?_
 refine run ?_; refine aoR fun _ => ?_
 refine run ?_; refine aoR fun _ => ?_
 refine run ?_
 apply uO; exact rfl; exact .fn _ _ _; exact rfl; (exact hX)
 refine run ?_; refine aoR fun _ => ?_
 refine run ?_; refine aoR fun _ => ?_
 refine run ?_
 apply uO; exact rfl; exact .fn _ _ _; exact rfl; (exact hY)
 refine run ?_; refine aoR fun _ => ?_
 refine run ?_; rotate_left
 exact vI rfl rfl
set_option maxHeartbeats 4000000
set_option maxRecDepth 100000
theorem nG {x : Ex} (hc : checkI x = 0) : judT x = (judB x, 0) ∧ allowT x = (allowB x, 0) ∧ arrT x = (gloL x, 0) := by
 unfold judT allowT arrT
 rw [if_pos hc, if_pos hc, if_pos hc]
 exact ⟨rfl, rfl, rfl⟩
theorem vZ {P : Program} {n : Nat} {c d : Code} {Q : Exit → Tm → Store → Prop} {tm : Tm} {σ : Store} {X : Type} (T : X → Tm) (S : X → Store) (h1 : awp P n c (fun e tm' σ' => e = .normal ∧ ∃ y, (T y).le tm' ∧ (S y).le σ') tm σ) (h2 : ∀ y, awp P n d Q (T y) (S y)) : awp P n (.seq c d) Q tm σ :=
 uB (nU h1 fun e tm' σ' ⟨he, y, ht, hs⟩ => by subst he; exact uC (rB _ _ ht hs (h2 y)))
theorem aQ {X : Type} {T : X → Tm} {S : X → Store} {tm : Tm} {σ : Store} (y : X) (ht : (T y).le tm) (hs : (S y).le σ) : Exit.normal = .normal ∧ ∃ y, (T y).le tm ∧ (S y).le σ := ⟨rfl, y, ht, hs⟩
end Go.Proofs.YtnkocjkkefnelaaGreat
