/- Parts. -/
import Derived.Test.YtnkocjkkefnelaaGreatPs4
import Derived.Test.YtnkocjkkefnelaaGreatPs6
import Derived.Test.YtnkocjkkefnelaaGreatPs34
import Derived.Test.YtnkocjkkefnelaaGreatPs35
import Derived.Test.YtnkocjkkefnelaaGreatPs36
set_option linter.unusedVariables false
set_option linter.unusedSimpArgs false
set_option maxHeartbeats 4000000
namespace Go.Proofs.YtnkocjkkefnelaaGreat
theorem eX {n : Nat} {l : List (Int × Int)} (hn : n ≤ 64) (hok : l.any (outB n) = false) : circleB n l = false ↔ Evn.Up (Arr l) := by
 constructor
 ·intro h
  have ha : acyB n l = true := by rw [eO hn hok, h]; rfl
  obtain ⟨t, ht⟩ := mX hok ha
  refine ⟨fun a => n - t a, fun a b hab => ?_⟩
  have h1 := (eL hok hab).1
  have h2 := (ht a h1).2 b hab
  have h3 := (ht a h1).1
  show n - t a < n - t b
  omega
 ·rintro ⟨t, ht⟩
  have way : ∀ a b, Way l a b → t a < t b := fun a b h => by
   induction h with
   | one h => exact ht _ _ h
   | more _ h ih => exact Nat.lt_trans ih (ht _ _ h)
  cases h : acyB n l with
  | true => rw [eO hn hok] at h; simpa using h
  | false =>
   obtain ⟨c, hc⟩ := gK hn hok (List.range n) (fun _ => 0) (by intro b hb; have := List.mem_range.1 hb; omega) (by simp) (by simp) h
   exact absurd (way c c hc) (Nat.lt_irrefl _)
section
variable {x : Ex}
theorem Ex.rel.ev (h : x.rel) {n : Nat} (hn : n < x.evs.length) : evOk x.evs (addrsTo x.evs) n = true := by
 have h2 := (vI h.check).2.1
 unfold evsTo at h2
 exact List.all_eq_true.1 h2 n (List.mem_range.2 hn)
theorem Ex.rel.kinds (h : x.rel) {n : Nat} (hn : n < x.evs.length) : let e := x.evs.getD n default
  ((e.kind = 5 ∧ n < (addrsTo x.evs).length ∧ e.addr = (addrsTo x.evs).getD n 0 ∧ e.hart = -1) ∨ (¬ e.kind = 5 ∧ (addrsTo x.evs).length ≤ n ∧ 0 ≤ e.hart ∧ (n = (addrsTo x.evs).length ∨ (x.evs.getD (n - 1) default).hart ≤ e.hart))) ∧ (e.kind = 1 ∨ e.kind = 2 ∨ e.kind = 3 ∨ e.kind = 4 ∨ e.kind = 5) := by
 have h1 := h.ev hn
 intro e
 unfold evOk at h1
 simp only [Bool.and_eq_true] at h1
 obtain ⟨hp, h2⟩ := h1
 unfold evPre at hp
 simp only [Bool.and_eq_true] at hp
 have hb : e.bareB = true := hp.1.1.1.1
 constructor
 ·split at h2
  ·rename_i hlt
   simp only [Bool.and_eq_true, beq_iff_eq] at h2
   refine Or.inl ⟨h2.1, hlt, h2.2, ?_⟩
   unfold Ev.bareB at hb
   rw [if_pos h2.1] at hb
   simp only [Bool.and_eq_true, beq_iff_eq] at hb
   exact hb.1.1.1.1
  ·rename_i hge
   simp only [Bool.and_eq_true, bne_iff_ne, ne_eq, decide_eq_true_eq, Bool.or_eq_true, beq_iff_eq] at h2
   exact Or.inr ⟨h2.1.1.1, by omega, h2.1.1.2, h2.2.imp (fun h => by omega) fun h => h⟩
 ·unfold Ev.bareB at hb
  by_cases k5 : e.kind = 5
  ·exact Or.inr (Or.inr (Or.inr (Or.inr k5)))
  rw [if_neg k5] at hb
  by_cases k1 : e.kind = 1
  ·exact Or.inl k1
  rw [if_neg k1] at hb
  by_cases k2 : e.kind = 2
  ·exact Or.inr (Or.inl k2)
  rw [if_neg k2] at hb
  by_cases k3 : e.kind = 3
  ·exact Or.inr (Or.inr (Or.inl k3))
  rw [if_neg k3] at hb
  by_cases k4 : e.kind = 4
  ·exact Or.inr (Or.inr (Or.inr (Or.inl k4)))
  rw [if_neg k4] at hb
  cases hb
theorem zK {e : Ev} : e.stB = true ↔ e.kind = 2 ∨ e.kind = 3 ∨ e.kind = 5 := by
 unfold Ev.stB
 simp only [Bool.or_eq_true, beq_iff_eq, or_assoc]
theorem jY {e : Ev} : e.ldB = true ↔ e.kind = 1 ∨ e.kind = 3 := by
 unfold Ev.ldB
 simp only [Bool.or_eq_true, beq_iff_eq]
theorem Ex.rel.rise (h : x.rel) {a : Nat} : ∀ {b : Nat}, a ≤ b → b < x.evs.length → (addrsTo x.evs).length ≤ a → (x.evs.getD a default).hart ≤ (x.evs.getD b default).hart := fun {b} hab hb ha => by
  induction b with
  | zero => have : a = 0 := by omega
            subst this; exact Int.le_refl _
  | succ b ih =>
    by_cases e : a = b + 1
    · subst e; exact Int.le_refl _
    · have h1 := ih (by omega) (by omega)
      have h2 := (h.kinds hb).1
      rcases h2 with ⟨_, h2, _⟩ | ⟨_, _, _, h2⟩
      · omega
      · rcases h2 with h2 | h2
        · omega
        · rw [Nat.add_sub_cancel] at h2
          exact Int.le_trans h1 h2
def evn (x : Ex) : Evn where
 n := x.evs.length
 st a := (x.evs.getD a default).stB = true
 ld a := (x.evs.getD a default).ldB = true
 nf a := ¬ (x.evs.getD a default).kind = 4
 bg a := (x.evs.getD a default).kind = 5
 addr a := (x.evs.getD a default).addr
 hart a := (x.evs.getD a default).hart
 src a := (x.from_.getD a 0).toNat
 co a b := a < x.evs.length ∧ b < x.evs.length ∧ isCoB x a b = true
 ppo a b := a < x.evs.length ∧ b < x.evs.length ∧ isPpo x a b = true
theorem pO {a b : Nat} (hp : pairOf x a b = true) {r : Int} (hr : r ∈ rs13) (h : ruleR x r a b = true) : isPpo x a b = true := by
 unfold isPpo
 exact List.any_eq_true.2 ⟨r, hr, by unfold ruleB; rw [hp, h]; rfl⟩
theorem mD {a b : Nat} (h1 : a < b) (h2 : 0 ≤ (x.evs.getD a default).hart) (h3 : (x.evs.getD a default).hart = (x.evs.getD b default).hart) (h4 : ¬ (x.evs.getD a default).kind = 4) (h5 : ¬ (x.evs.getD b default).kind = 4) : pairOf x a b = true := by
 unfold pairOf accB
 rw [decide_eq_true h1, decide_eq_true h2, decide_eq_true h3, decide_eq_false h4, decide_eq_false h5, decide_eq_true (by omega)]
 rfl
theorem kE (h : x.rel) : (evn x).Ok where
 src b hb hl := by
  obtain ⟨u1, u2⟩ := fM (vI h.check).2.2.1 hb.1
  obtain ⟨g1, g2, g3, g4⟩ := u2 hl
  have g0 := u1.1 hl
  refine ⟨⟨show (x.from_.getD b 0).toNat < x.evs.length by omega, fun hk => ?_⟩, g3, g4, fun e => ?_⟩
  ·rcases zK.1 g3 with e | e | e <;> (rw [show (x.evs.getD (x.from_.getD b 0).toNat default).kind = 4 from hk] at e; cases e)
  ·have e : (x.from_.getD b 0).toNat = b := e
   omega
 co a b hab := by
  obtain ⟨_, _, h1⟩ := hab
  unfold isCoB at h1
  simp only [Bool.and_eq_true, decide_eq_true_eq] at h1
  exact ⟨h1.1.1.1, h1.1.1.2, h1.1.2, fun e => by subst e; omega⟩
 tot a b ha hb sa sb hd hne := by
  rcases uAS (vI h.check).2.2.2 ha.1 hb.1 hne ⟨sa, sb, hd⟩ with h1 | h1
  ·exact Or.inl ⟨ha.1, hb.1, by rw [← bD h.check ha.1 hb.1]; exact decide_eq_true h1⟩
  ·exact Or.inr ⟨hb.1, ha.1, by rw [← bD h.check hb.1 ha.1]; exact decide_eq_true h1⟩
 trans a b c hab hbc := by
  obtain ⟨a1, a2, h1⟩ := hab
  obtain ⟨b1, b2, h2⟩ := hbc
  refine ⟨a1, b2, ?_⟩
  unfold isCoB at h1 h2 ⊢
  simp only [Bool.and_eq_true, decide_eq_true_eq] at h1 h2 ⊢
  exact ⟨⟨⟨h1.1.1.1, h2.1.1.2⟩, h1.1.2.trans h2.1.2⟩, by omega⟩
 ppo a b hab := by
  obtain ⟨a1, a2, h1⟩ := hab
  unfold isPpo at h1
  obtain ⟨r, _, h1⟩ := List.any_eq_true.1 h1
  unfold ruleB at h1
  simp only [Bool.and_eq_true] at h1
  have h2 := h1.1
  unfold pairOf accB at h2
  simp only [Bool.and_eq_true, decide_eq_true_eq, Bool.not_eq_true', decide_eq_false_iff_not] at h2
  exact ⟨⟨h2.1.2, h2.1.1.1.1, h2.2⟩, ⟨a1, h2.1.1.1.2⟩, ⟨a2, h2.1.1.2.2⟩⟩
 r1 a b ha hb hp hd sb := by
  refine ⟨ha.1, hb.1, pO (r := 1) (mD hp.1 hp.2.1 hp.2.2 ha.2 hb.2) (by decide) ?_⟩
  unfold ruleR oneB
  rw [if_pos rfl, show (x.evs.getD b default).stB = true from sb]
  exact decide_eq_true hd
 r2 a b ha hb hp hd la lb hs := by
  by_cases hm : someB a b (fun n => (x.evs.getD n default).stB && decide ((x.evs.getD n default).addr = (x.evs.getD a default).addr)) = true
  ·right
   unfold someB at hm
   obtain ⟨m, hm1, hm2⟩ := List.any_eq_true.1 hm
   simp only [Bool.and_eq_true, decide_eq_true_eq] at hm2
   have hmb := List.mem_range.1 hm1
   have hmn : m < x.evs.length := Nat.lt_trans hmb hb.1
   have hk : (addrsTo x.evs).length ≤ a := by
    rcases (h.kinds ha.1).1 with ⟨h1, h2, h3, h4⟩ | ⟨_, h2, _⟩
    ·have h0 : 0 ≤ (x.evs.getD a default).hart := hp.2.1
     omega
    ·exact h2
   have r1 := h.rise (a := a) (b := m) (by omega) hmn hk
   have r2 := h.rise (a := m) (b := b) (by omega) hb.1 (by omega)
   have h0 : 0 ≤ (x.evs.getD a default).hart := hp.2.1
   have h3 : (x.evs.getD a default).hart = (x.evs.getD b default).hart := hp.2.2
   refine ⟨m, ⟨hmn, fun hk4 => ?_⟩, hm2.2.1, hm2.2.2, ⟨hm2.1, h0, show (x.evs.getD a default).hart = (x.evs.getD m default).hart by omega⟩, ⟨hmb, show 0 ≤ (x.evs.getD m default).hart by omega, show (x.evs.getD m default).hart = (x.evs.getD b default).hart by omega⟩⟩
   rcases zK.1 hm2.2.1 with e | e | e <;> (rw [show (x.evs.getD m default).kind = 4 from hk4] at e; cases e)
  ·left
   refine ⟨ha.1, hb.1, pO (r := 2) (mD hp.1 hp.2.1 hp.2.2 ha.2 hb.2) (by decide) ?_⟩
   unfold ruleR
   rw [if_neg (by decide), if_pos rfl]
   unfold rule2 oneB
   have hf : ¬ x.from_.getD a 0 = x.from_.getD b 0 := fun e => hs (by show (x.from_.getD a 0).toNat = (x.from_.getD b 0).toNat; rw [e])
   rw [show (x.evs.getD a default).ldB = true from la, show (x.evs.getD b default).ldB = true from lb, decide_eq_true (show (x.evs.getD a default).addr = (x.evs.getD b default).addr from hd), decide_eq_false hf, Bool.eq_false_iff.2 hm]
   rfl
 kind a ha := by
  have hk := (h.kinds ha.1).2
  have h4 : ¬ (x.evs.getD a default).kind = 4 := ha.2
  rcases hk with e | e | e | e | e
  ·exact Or.inr (jY.2 (Or.inl e))
  ·exact Or.inl (zK.2 (Or.inl e))
  ·exact Or.inl (zK.2 (Or.inr (Or.inl e)))
  ·exact (h4 e).elim
  ·exact Or.inl (zK.2 (Or.inr (Or.inr e)))
 beg b hb hbg := by
  have hk5 : (x.evs.getD b default).kind = 5 := hbg
  rcases (h.kinds hb.1).1 with ⟨h1, h2, h3, h4⟩ | ⟨h1, _⟩
  rotate_left
  ·exact (h1 hbg).elim
  refine ⟨show (x.evs.getD b default).hart < 0 by omega, fun hl => ?_, zK.2 (Or.inr (Or.inr hk5)), fun a hab => ?_⟩
  ·rcases jY.1 hl with e | e <;> (rw [hk5] at e; cases e)
  ·obtain ⟨ha, hb', hco⟩ := hab
   rw [← bD h.check ha hb'] at hco
   have ho := (vI h.check).2.2.2
   obtain ⟨r, i, j, hr, hij, hj, ei, ej⟩ := cL (of_decide_eq_true hco)
   have hrow := aV ho hr hj ej
   have hlen : x.order.length = (addrsTo x.evs).length := by
    unfold orderB at ho
    simp only [Bool.and_eq_true, decide_eq_true_eq] at ho
    exact ho.1
   have e1 : r = b := fD ho hr (by omega) (hrow.2.2.symm.trans h3)
   subst e1
   have h0 : (x.order.getD r default).2.getD 0 0 = (r : Int) := by
    unfold orderB rowsTo at ho
    simp only [Bool.and_eq_true] at ho
    have := List.all_eq_true.1 ho.2 r (List.mem_range.2 hr)
    unfold rowOk at this
    simp only [Bool.and_eq_true, Bool.not_eq_true', bne_eq_false_iff_eq] at this
    exact this.1.2
   have := fF (zC ho hr) hj (show 0 < _ by omega) (ej.trans h0.symm)
   omega
 hart b hb hbg := by
  rcases (h.kinds hb.1).1 with ⟨h1, _⟩ | ⟨_, _, h3, _⟩
  ·exact (hbg h1).elim
  ·exact h3
theorem fZ {n : Nat} {f : Nat → Nat → Bool} {a b : Nat} : Arr (refPairs n f) a b ↔ a < n ∧ b < n ∧ f a b = true := by
 unfold Arr
 constructor
 ·rintro ⟨q, hq, h1, h2⟩
  obtain ⟨c, d, h3, h4, h5, rfl⟩ := vE.1 hq
  dsimp only at h1 h2
  have e1 : c = a := by omega
  have e2 : d = b := by omega
  subst e1 e2
  exact ⟨h3, h4, h5⟩
 ·rintro ⟨h1, h2, h3⟩
  exact ⟨_, vE.2 ⟨a, b, h1, h2, h3, rfl⟩, rfl, rfl⟩
theorem oJ {r s : Nat → Nat → Prop} (h : ∀ a b, r a b ↔ s a b) : Evn.Up r ↔ Evn.Up s :=
 ⟨fun ⟨t, ht⟩ => ⟨t, fun a b hs => ht a b ((h a b).2 hs)⟩, fun ⟨t, ht⟩ => ⟨t, fun a b hs => ht a b ((h a b).1 hs)⟩⟩
theorem lN {e : Ev} (h : e.stB = true) : ¬ e.kind = 4 := fun hk => by
 rcases zK.1 h with e1 | e1 | e1 <;> (rw [hk] at e1; cases e1)
theorem rU {e : Ev} (h : e.ldB = true) : ¬ e.kind = 4 := fun hk => by
 rcases jY.1 h with e1 | e1 <;> (rw [hk] at e1; cases e1)
theorem mP {a b : Nat} (h : isCoB x a b = true) : (x.evs.getD a default).stB = true ∧ (x.evs.getD b default).stB = true := by
 unfold isCoB at h
 simp only [Bool.and_eq_true] at h
 exact h.1.1
theorem nQ (h : x.rel) {a b : Nat} (ha : a < x.evs.length) (hb : b < x.evs.length) : isFrB x a b = true ↔ (evn x).fr a b := by
 unfold isFrB Evn.fr
 simp only [Bool.and_eq_true, Bool.not_eq_true', beq_eq_false_iff_ne]
 constructor
 ·rintro ⟨⟨h1, h2⟩, h3⟩
  refine ⟨h1, h2, ?_, hb, h3⟩
  have := (h.src a ha h2)
  show (x.from_.getD a 0).toNat < x.evs.length
  omega
 ·rintro ⟨h1, h2, h3⟩
  exact ⟨⟨h1, h2⟩, h3.2.2⟩
theorem nM (h : x.rel) {a b : Nat} (hb : b < x.evs.length) : isRf x a b = true ↔ (evn x).rf a b := by
 unfold isRf Evn.rf
 simp only [Bool.and_eq_true, decide_eq_true_eq]
 constructor
 ·rintro ⟨h1, h2⟩
  refine ⟨h1, ?_⟩
  show (x.from_.getD b 0).toNat = a
  omega
 ·rintro ⟨h1, h2⟩
  have h2 : (x.from_.getD b 0).toNat = a := h2
  have := (h.src b hb h1).1
  exact ⟨h1, by omega⟩
theorem glo_iff (h : x.rel) (a b : Nat) : Arr (gloL x) a b ↔ (evn x).glo a b := by
 unfold gloL
 rw [fZ]
 constructor
 ·rintro ⟨ha, hb, hg⟩
  unfold globB glob at hg
  simp only [Bool.or_eq_true, Bool.and_eq_true, Bool.not_eq_true', decide_eq_false_iff_not] at hg
  rcases hg with ((hg | hg) | hg) | ⟨hg, hh⟩
  ·have := (kE h).ppo a b ⟨ha, hb, hg⟩
   exact ⟨this.2.1, this.2.2, Or.inl ⟨ha, hb, hg⟩⟩
  ·exact ⟨⟨ha, lN (mP hg).1⟩, ⟨hb, lN (mP hg).2⟩, Or.inr (Or.inl ⟨ha, hb, hg⟩)⟩
  ·have hf := (nQ h ha hb).1 hg
   exact ⟨⟨ha, rU hf.2.1⟩, ⟨hb, lN (mP hf.2.2.2.2).2⟩, Or.inr (Or.inr (Or.inl hf))⟩
  ·have hr := (nM h hb).1 hg
   have hib : (evn x).is b := ⟨hb, rU hr.1⟩
   have hs := (kE h).src b hib hr.1
   rw [hr.2] at hs
   exact ⟨hs.1, hib, Or.inr (Or.inr (Or.inr ⟨hr, hh⟩))⟩
 ·rintro ⟨ha, hb, hg⟩
  refine ⟨ha.1, hb.1, ?_⟩
  unfold globB glob
  simp only [Bool.or_eq_true, Bool.and_eq_true, Bool.not_eq_true', decide_eq_false_iff_not]
  rcases hg with hg | hg | hg | ⟨hg, hh⟩
  ·exact Or.inl (Or.inl (Or.inl hg.2.2))
  ·exact Or.inl (Or.inl (Or.inr hg.2.2))
  ·exact Or.inl (Or.inr ((nQ h ha.1 hb.1).2 hg))
  ·exact Or.inr ⟨(nM h hb.1).2 hg, hh⟩
theorem coh_iff (h : x.rel) (a b : Nat) : Arr (rcohL x) a b ↔ (evn x).coh a b := by
 have split : Arr (rcohL x) a b ↔ Arr (refPairs x.evs.length (isRf x)) a b ∨ Arr (refPairs x.evs.length (isCoB x)) a b ∨ Arr (refPairs x.evs.length (isFrB x)) a b ∨ (Arr (refPairs x.evs.length (isPo x)) a b ∧ cohG x ((a : Int), (b : Int)) = true) := by
  unfold Arr rcohL cohL
  simp only [List.mem_append, List.mem_filter]
  constructor
  ·rintro ⟨q, ((hq | hq) | hq) | ⟨hq, hc⟩, h1, h2⟩
   ·exact Or.inl ⟨q, hq, h1, h2⟩
   ·exact Or.inr (Or.inl ⟨q, hq, h1, h2⟩)
   ·exact Or.inr (Or.inr (Or.inl ⟨q, hq, h1, h2⟩))
   ·refine Or.inr (Or.inr (Or.inr ⟨⟨q, hq, h1, h2⟩, ?_⟩))
    rw [← h1, ← h2]; exact hc
  ·rintro (⟨q, hq, h1, h2⟩ | ⟨q, hq, h1, h2⟩ | ⟨q, hq, h1, h2⟩ | ⟨⟨q, hq, h1, h2⟩, hc⟩)
   ·exact ⟨q, Or.inl (Or.inl (Or.inl hq)), h1, h2⟩
   ·exact ⟨q, Or.inl (Or.inl (Or.inr hq)), h1, h2⟩
   ·exact ⟨q, Or.inl (Or.inr hq), h1, h2⟩
   ·refine ⟨q, Or.inr ⟨hq, ?_⟩, h1, h2⟩
    rw [← h1, ← h2] at hc; exact hc
 rw [split, fZ, fZ, fZ, fZ]
 unfold cohG
 simp only [Int.toNat_natCast, Bool.and_eq_true, Bool.not_eq_true', decide_eq_false_iff_not, decide_eq_true_eq]
 constructor
 ·rintro (⟨ha, hb, hg⟩ | ⟨ha, hb, hg⟩ | ⟨ha, hb, hg⟩ | ⟨⟨ha, hb, hg⟩, ⟨g1, g2⟩, g3⟩)
  ·have hr := (nM h hb).1 hg
   have hib : (evn x).is b := ⟨hb, rU hr.1⟩
   have hs := (kE h).src b hib hr.1
   rw [hr.2] at hs
   exact ⟨hs.1, hib, Or.inl hr⟩
  ·exact ⟨⟨ha, lN (mP hg).1⟩, ⟨hb, lN (mP hg).2⟩, Or.inr (Or.inl ⟨ha, hb, hg⟩)⟩
  ·have hf := (nQ h ha hb).1 hg
   exact ⟨⟨ha, rU hf.2.1⟩, ⟨hb, lN (mP hf.2.2.2.2).2⟩, Or.inr (Or.inr (Or.inl hf))⟩
  ·unfold isPo at hg
   simp only [Bool.and_eq_true, decide_eq_true_eq] at hg
   exact ⟨⟨ha, g1⟩, ⟨hb, g2⟩, Or.inr (Or.inr (Or.inr ⟨⟨hg.1.1, hg.1.2, hg.2⟩, g3⟩))⟩
 ·rintro ⟨ha, hb, hg⟩
  rcases hg with hg | hg | hg | ⟨hg, hd⟩
  ·exact Or.inl ⟨ha.1, hb.1, (nM h hb.1).2 hg⟩
  ·exact Or.inr (Or.inl ⟨ha.1, hb.1, hg.2.2⟩)
  ·exact Or.inr (Or.inr (Or.inl ⟨ha.1, hb.1, (nQ h ha.1 hb.1).2 hg⟩))
  ·refine Or.inr (Or.inr (Or.inr ⟨⟨ha.1, hb.1, ?_⟩, ⟨ha.2, hb.2⟩, hd⟩))
   unfold isPo
   rw [decide_eq_true hg.1, decide_eq_true (show 0 ≤ (x.evs.getD a default).hart from hg.2.1), decide_eq_true (show (x.evs.getD a default).hart = (x.evs.getD b default).hart from hg.2.2)]
   rfl
def allE (x : Ex) : List Nat := (List.range x.evs.length).filter fun a => !decide ((x.evs.getD a default).kind = 4)
def begE (x : Ex) : List Nat := (List.range x.evs.length).filter fun a => decide ((x.evs.getD a default).kind = 5)
theorem axioms_law (h : x.rel) {R : List Nat → Bool} (hR : ∀ o, o.Nodup → (∀ a, a ∈ o ↔ (evn x).is a) → (R o = true ↔ (evn x).right o)) :
  tryB R (allE x) ((allE x).length - (begE x).length) (begE x) = (!circleB x.evs.length (rcohL x) && !circleB x.evs.length (gloL x)) := by
 have hall : ∀ a, a ∈ allE x ↔ (evn x).is a := fun a => by
  unfold allE Evn.is evn
  simp only [List.mem_filter, List.mem_range, Bool.not_eq_true', decide_eq_false_iff_not]
 have hbeg : ∀ a, a ∈ begE x ↔ (evn x).is a ∧ (evn x).bg a := fun a => by
  unfold begE Evn.is evn
  simp only [List.mem_filter, List.mem_range, decide_eq_true_eq]
  exact ⟨fun ⟨h1, h2⟩ => ⟨⟨h1, by rw [h2]; decide⟩, h2⟩, fun ⟨⟨h1, _⟩, h2⟩ => ⟨h1, h2⟩⟩
 rw [Bool.eq_iff_iff, Evn.main (kE h) hbeg hall (List.nodup_range.filter _) (List.nodup_range.filter _) hR, Bool.and_eq_true, Bool.not_eq_true', Bool.not_eq_true', eX h.len (lX x), eX h.len (pR x)]
 rw [oJ (coh_iff h), oJ (glo_iff h)]
end
set_option maxHeartbeats 4000000
set_option maxRecDepth 100000
def canB (x : Ex) (l : List Int) (n k : Nat) : Bool := !decide (l.getD k 0 = (n : Int)) && (x.evs.getD (l.getD k 0).toNat default).stB && decide ((x.evs.getD (l.getD k 0).toNat default).addr = (x.evs.getD n default).addr) && (decide ((k : Int) < atI l n) || isPo x (l.getD k 0).toNat n)
def seesTo (x : Ex) (l : List Int) (n : Nat) : Nat → Int
 | 0 => -1
 | k + 1 => if canB x l n k = true then l.getD k 0 else seesTo x l n k
def InEv (x : Ex) (l : List Int) : Prop := ∀ k, k < l.length → 0 ≤ l.getD k 0 ∧ l.getD k 0 < x.evs.length
set_option maxHeartbeats 4000000 in
theorem sees_p (x : Ex) (hx : x.evs.length ≤ 65536) (l : List Int) (hl : l.length ≤ 65536) (hi : InEv x l) (n : Nat) (hn : n < x.evs.length) : Pure E.P 73 [exOV x, .d (ints l), .int .i64 n] (.int .i64 (seesTo x l n l.length)) := by
 have f3 : Frozen 3 := ⟨trivial⟩
 have hat := lH l n (by omega)
 refine fnA Tryz.func73 Tryz.ntmps73 ?_
 refine run ?_; refine aoR fun _ => ?_
 refine run ?_; refine aoR fun _ => ?_
 refine run ?_
 apply uP; exact rfl; exact .fn _ _ _; exact rfl; (exact hat)
 refine run ?_; refine aoR fun _ => ?_
 refine run ?_; rotate_left
 refine uT (X := Nat) (fun k => tmL [(1, .d (ints l)), (2, .int .i64 n), (3, .d (.pt (exRow x) 0)), (7, .int .i64 (atI l n)), (8, .int .i64 (seesTo x l n k)), (9, .int .i64 k)]) (fun _ => stL []) (fun k => k ≤ l.length) (fun k => l.length - k) 0 (Nat.zero_le _) leP leP ?_
 intro k hk
 by_cases hlt : k < l.length
 ·have hb := hi k hlt
  have hpo : Pure E.P 44 [exOV x, .int .i64 (l.getD k 0), .int .i64 n] (.bool (isPo x (l.getD k 0).toNat n)) := by
   have h := uAO x hx (l.getD k 0).toNat n (by omega) hn
   rw [Int.toNat_of_nonneg hb.1] at h
   exact h
  have hb1 : 0 ≤ l.getD (k : Int).toNat 0 ∧ l.getD (k : Int).toNat 0 < x.evs.length := hb
  refine run ?_; refine aoR fun _ => ?_
  refine run ?_; refine cnd ?_ ?_
  refine uF fun _ => ?_; try omega
  refine run ?_; refine aoR fun _ => ?_
  refine run ?_
  refine uO (E := E) ?_ (fun _ => ?_); exact rfl
  refine run ?_
  apply dpT; exact rfl
  intro hc_
  have hp_ := hc_; try simp only [nrm] at hp_
  apply vD; (exact EvM.plain rfl rfl); exact .fn _ _ _; exact vY; (exact wO _)
  refine run ?_
  apply pW; exact rfl; exact rfl
  intro hc_
  have hp_ := hc_; try simp only [nrm] at hp_
  apply vD; (exact EvM.plain rfl rfl); exact .fn _ _ _; exact vY; (exact hpo)
  refine run ?_; refine cnd ?_ ?_
  iterate 3 refine wX ?_
  refine wR (fun _ => ?_); (try omega)
  refine wQ (fun _ => ?_)
  refine uF fun _ => ?_; try omega
  refine xJ (fun hc_ => ?_); (try simp only [nrm] at hc_)
  refine aoR fun _ => ?_; refine run ?_
  refine aoR fun _ => ?_; refine run ?_
  rotate_left
  refine wK (fun hc_ => ?_); (try simp only [nrm] at hc_)
  refine run ?_; refine aoR fun _ => ?_
  refine run ?_; rotate_left
  refine uI fun _ => ?_; try omega
  ·rename_i n0 n1 n2 _ _
   have hy : canB x l n k = true := by
    unfold canB
    rw [decide_eq_false (show ¬ l.getD k 0 = (n : Int) from n0), show (x.evs.getD (l.getD k 0).toNat default).stB = true from n1, decide_eq_true (show (x.evs.getD (l.getD k 0).toNat default).addr = (x.evs.getD n default).addr from n2)]
    simpa using hc_
   refine uV (k + 1) (by omega) (by omega) (by repeat' (first | exact vW _ | exact vP _ | refine uL rfl ?_ | refine vH rfl ?_ | (refine vF rfl ?_ ?_; ((rw [seesTo, if_pos hy]; rfl))) | (refine uR rfl ?_ ?_; ((rw [seesTo, if_pos hy]; rfl))) | (refine uS rfl ?_ ?_; ((rw [seesTo, if_pos hy]; rfl))))) leP
  ·have hy : ¬ canB x l n k = true := by
    unfold canB
    simp only [Bool.and_eq_true, Bool.or_eq_true, Bool.not_eq_true', decide_eq_true_eq, decide_eq_false_iff_not]
    rintro ⟨⟨⟨g1, g2⟩, g3⟩, g4⟩
    rcases hc_ with ((h | h) | h) | ⟨h, h'⟩
    ·exact g1 h
    ·have h : (x.evs.getD (l.getD k 0).toNat default).stB = false := h
     rw [h] at g2; exact absurd g2 (by decide)
    ·exact h g3
    ·rcases g4 with g4 | g4
     ·omega
     ·rw [h'] at g4; exact absurd g4 (by decide)
   refine uV (k + 1) (by omega) (by omega) (by repeat' (first | exact vW _ | exact vP _ | refine uL rfl ?_ | refine vH rfl ?_ | (refine vF rfl ?_ ?_; ((rw [seesTo, if_neg hy]))) | (refine uR rfl ?_ ?_; ((rw [seesTo, if_neg hy]))) | (refine uS rfl ?_ ?_; ((rw [seesTo, if_neg hy]))))) leP
 ·have e : k = l.length := by omega
  subst e
  refine run ?_; refine aoR fun _ => ?_
  refine run ?_; refine cnd ?_ ?_
  refine uF fun _ => ?_; try omega
  refine uI fun _ => ?_; try omega
  refine run ?_; refine aoR fun _ => ?_
  refine run ?_; rotate_left
  exact wG rfl rfl
def aheadB (x : Ex) (l : List Int) (i k : Nat) : Bool := isPpo x (l.getD k 0).toNat (l.getD i 0).toNat || isCoB x (l.getD k 0).toNat (l.getD i 0).toNat
def seeB (x : Ex) (l : List Int) (i : Nat) : Bool := (x.evs.getD (l.getD i 0).toNat default).ldB && !decide (seesTo x l (l.getD i 0).toNat l.length = x.from_.getD (l.getD i 0).toNat 0)
def rightAt (x : Ex) (l : List Int) (i : Nat) : Bool := ((List.range l.length).all fun k => decide (k ≤ i) || !aheadB x l i k) && !seeB x l i
def rightB (x : Ex) (l : List Int) : Bool := (List.range l.length).all fun i => rightAt x l i
theorem lV {x : Ex} {l : List Int} {i : Nat} (hi : i < l.length) (h : rightAt x l i = false) : rightB x l = false := by
 refine Bool.eq_false_iff.2 fun h' => ?_
 have := List.all_eq_true.1 h' i (List.mem_range.2 hi)
 rw [h] at this; cases this
set_option maxHeartbeats 4000000 in
theorem right_p (x : Ex) (h : x.rel) (hk : x.rok) (l : List Int) (hl : l.length ≤ 65536) (hi : InEv x l) : Pure E.P 50 [exOV x, .d (ints l)] (.bool (rightB x l)) := by
 have f2 : Frozen 2 := ⟨trivial⟩
 have hx : x.evs.length ≤ 65536 := by have := h.len; omega
 have hlf := h.from_
 refine fnA Tryz.func50 Tryz.ntmps50 ?_
 refine run ?_; refine aoR fun _ => ?_
 refine run ?_; refine aoR fun _ => ?_
 refine run ?_; rotate_left
 refine uT (X := Nat) (fun i => tmL [(1, .d (ints l)), (2, .d (.pt (exRow x) 0)), (5, .int .i64 i)]) (fun _ => stL []) (fun i => i ≤ l.length ∧ ∀ j, j < i → rightAt x l j = true) (fun i => l.length - i) 0 ⟨Nat.zero_le _, fun j hj => by omega⟩ leP leP ?_
 rintro i ⟨hi1, hall⟩
 by_cases hlt : i < l.length
 rotate_left
 ·refine run ?_
  refine aoR fun _ => ?_; refine run ?_
  refine cnd ?_ ?_
  refine uF fun _ => ?_; try omega
  refine uI fun _ => ?_; try omega
  refine run ?_; refine aoR fun _ => ?_
  refine run ?_; rotate_left
  refine uU rfl ?_
  unfold rightB
  refine (List.all_eq_true.2 fun j hj => hall j ?_).symm
  have := List.mem_range.1 hj
  omega
 have hb := hi i hlt
 have hb1 : 0 ≤ l.getD (i : Int).toNat 0 ∧ l.getD (i : Int).toNat 0 < x.evs.length := hb
 refine run ?_; refine aoR fun _ => ?_
 refine run ?_; refine cnd ?_ ?_
 refine uF fun _ => ?_; try omega
 refine run ?_; refine aoR fun _ => ?_
 refine run ?_; rotate_left
 refine uI fun _ => ?_; try omega
 refine uT (X := Nat) (fun k => tmL [(1, .d (ints l)), (2, .d (.pt (exRow x) 0)), (5, .int .i64 i), (6, .int .i64 k)]) (fun _ => stL []) (fun k => k ≤ l.length ∧ i < k ∧ ∀ j, i < j → j < k → aheadB x l i j = false) (fun k => l.length - k) (i + 1) ⟨by omega, by omega, fun j h1 h2 => by omega⟩ (by repeat' (first | exact vW _ | exact vP _ | refine uL rfl ?_ | refine vH rfl ?_ | (refine vF rfl ?_ ?_; (omega)) | (refine uR rfl ?_ ?_; (omega)) | (refine uS rfl ?_ ?_; (omega)))) leP ?_
 rintro k ⟨hk1, hik, hbad⟩
 by_cases hlt2 : k < l.length
 ·have hc := hi k hlt2
  have hc1 : 0 ≤ l.getD (k : Int).toNat 0 ∧ l.getD (k : Int).toNat 0 < x.evs.length := hc
  have u1 : Pure E.P 47 [exOV x, .int .i64 (l.getD k 0), .int .i64 (l.getD i 0)] (.bool (isPpo x (l.getD k 0).toNat (l.getD i 0).toNat)) := by
   have h := rppo_p x hk (l.getD k 0).toNat (l.getD i 0).toNat (by omega) (by omega)
   rw [Int.toNat_of_nonneg hb.1, Int.toNat_of_nonneg hc.1] at h
   exact h
  have u2 : Pure E.P 42 [exOV x, .int .i64 (l.getD k 0), .int .i64 (l.getD i 0)] (.bool (isCoB x (l.getD k 0).toNat (l.getD i 0).toNat)) := by
   have h := fE x hx h.ord h.rows (l.getD k 0).toNat (l.getD i 0).toNat (by omega) (by omega)
   rw [Int.toNat_of_nonneg hb.1, Int.toNat_of_nonneg hc.1] at h
   exact h
  refine run ?_; refine aoR fun _ => ?_
  refine run ?_; refine cnd ?_ ?_
  refine uF fun _ => ?_; try omega
  refine run ?_
  refine uO (E := E) ?_ (fun _ => ?_); exact rfl
  refine run ?_
  apply xD; exact rfl; exact .fn _ _ _; exact rfl; (exact u1)
  refine run ?_
  apply dpF; exact rfl
  intro hc_
  have hp_ := hc_; try simp only [nrm] at hp_
  apply vD; (exact EvM.plain rfl rfl); exact .fn _ _ _; exact vY; (exact u2)
  refine run ?_; refine cnd ?_ ?_
  refine xJ (fun hc_ => ?_); (try simp only [nrm] at hc_)
  refine run ?_; refine aoR fun _ => ?_
  refine run ?_; rotate_left
  refine xP ?_
  iterate 2 (refine cI (fun _ => ?_))
  refine run ?_; refine aoR fun _ => ?_
  refine run ?_; rotate_left
  refine uI fun _ => ?_; try omega
  ·refine uU rfl ?_
   refine (lV hlt ?_).symm
   unfold rightAt
   have : ((List.range l.length).all fun k => decide (k ≤ i) || !aheadB x l i k) = false := by
    refine Bool.eq_false_iff.2 fun h' => ?_
    have h1 := List.all_eq_true.1 h' k (List.mem_range.2 hlt2)
    rw [decide_eq_false (by omega), show aheadB x l i k = true by unfold aheadB; simpa using hc_] at h1
    cases h1
   rw [this]; rfl
  ·have g1 : isPpo x (l.getD k 0).toNat (l.getD i 0).toNat = false := by assumption
   have g2 : isCoB x (l.getD k 0).toNat (l.getD i 0).toNat = false := by assumption
   refine uV (k + 1) ⟨by omega, by omega, fun j h1 h2 => ?_⟩ (by omega) leP leP
   rcases Nat.lt_or_ge j k with e | e
   ·exact hbad j h1 e
   ·have e : j = k := by omega
    rw [e]
    unfold aheadB
    rw [g1, g2]; rfl
 ·have e : k = l.length := by omega
  subst e
  have hs := sees_p x hx l hl hi (l.getD i 0).toNat (by omega)
  rw [Int.toNat_of_nonneg hb.1] at hs
  have hrow : ((List.range l.length).all fun k => decide (k ≤ i) || !aheadB x l i k) = true := by
   refine List.all_eq_true.2 fun j hj => ?_
   have := List.mem_range.1 hj
   by_cases e : j ≤ i
   ·rw [decide_eq_true e]; rfl
   ·rw [hbad j (by omega) this]; simp
  refine run ?_; refine aoR fun _ => ?_
  refine run ?_; refine cnd ?_ ?_
  refine uF fun _ => ?_; try omega
  refine uI fun _ => ?_; try omega
  refine run ?_
  refine uO (E := E) ?_ (fun _ => ?_); exact rfl
  refine run ?_
  apply xD; exact rfl; exact .fn _ _ _; exact rfl; (exact yP _)
  refine run ?_
  apply dpT; exact rfl
  intro hc_
  have hp_ := hc_; try simp only [nrm] at hp_
  apply vD; (exact EvM.plain rfl rfl); exact .fn _ _ _; exact vY; (exact hs)
  refine run ?_; refine cnd ?_ ?_; refine wX ?_
  refine wQ (fun _ => ?_)
  refine wR (fun _ => ?_); (try omega)
  refine run ?_; refine aoR fun _ => ?_
  refine run ?_; rotate_left
  refine wK (fun hc_ => ?_); (try simp only [nrm] at hc_)
  refine run ?_; refine aoR fun _ => ?_
  refine run ?_; rotate_left
  ·rename_i n0 n1 _
   refine uU rfl ?_; refine (lV hlt ?_).symm
   unfold rightAt seeB
   rw [show (x.evs.getD (l.getD i 0).toNat default).ldB = true from n0, decide_eq_false (show ¬ seesTo x l (l.getD i 0).toNat l.length = x.from_.getD (l.getD i 0).toNat 0 from n1)]
   simp
  ·have g0 := hc_
   refine uV (i + 1) ⟨by omega, fun j hj => ?_⟩ (by omega) leP leP
   rcases Nat.lt_or_ge j i with e | e
   ·exact hall j e
   ·have e : j = i := by omega
    rw [e]
    unfold rightAt seeB
    rw [hrow]
    rcases g0 with g | g
    ·rw [show (x.evs.getD (l.getD i 0).toNat default).ldB = false from g]; rfl
    ·rw [decide_eq_true (show seesTo x l (l.getD i 0).toNat l.length = x.from_.getD (l.getD i 0).toNat 0 from g)]; simp
set_option maxHeartbeats 4000000
set_option maxRecDepth 100000
def nums (o : List Nat) : List Int := o.map fun a : Nat => (a : Int)
theorem xI (o : List Nat) : (nums o).length = o.length := List.length_map ..
theorem xO (o : List Nat) (i : Nat) : (nums o).getD i 0 = ((o.getD i 0 : Nat) : Int) := by
 unfold nums
 rw [List.getD_eq_getElem?_getD, List.getD_eq_getElem?_getD, List.getElem?_map]
 cases o[i]? <;> rfl
theorem nums_in {x : Ex} {o : List Nat} (h : ∀ a ∈ o, a < x.evs.length) : InEv x (nums o) := fun k hk => by
 rw [xI] at hk
 rw [xO]
 have := h _ (xB hk)
 omega
theorem iW (o : List Nat) (a : Nat) : ∀ k : Nat, (0 ≤ atFrom (a : Int) (nums o) k ↔ a ∈ o) ∧ (a ∈ o → atFrom (a : Int) (nums o) k = ((k + ixN o a : Nat) : Int)) := by
 induction o with
 | nil => intro k; exact ⟨by simp [nums, atFrom], by simp⟩
 | cons b o ih =>
  intro k
  have e : nums (b :: o) = (b : Int) :: nums o := rfl
  rw [e, atFrom]
  by_cases hb : b = a
  ·subst hb
   rw [if_pos rfl]
   refine ⟨⟨fun _ => List.mem_cons_self .., fun _ => by omega⟩, fun _ => ?_⟩
   simp [ixN]
  ·rw [if_neg (by omega)]
   obtain ⟨h1, h2⟩ := ih (k + 1)
   refine ⟨⟨fun h => List.mem_cons_of_mem _ (h1.1 h), fun h => ?_⟩, fun h => ?_⟩
   ·rcases List.mem_cons.1 h with h | h
    ·exact (hb h.symm).elim
    ·exact h1.2 h
   ·rcases List.mem_cons.1 h with h | h
    ·exact (hb h.symm).elim
    ·rw [h2 h]
     simp only [ixN, if_neg hb]
     omega
set_option maxHeartbeats 8000000 in
theorem rsome_p (x : Ex) (h : x.rel) (hk : x.rok) (all : List Nat) (hal : all.length ≤ 64) (hai : ∀ a ∈ all, a < x.evs.length) : ∀ (d : Nat) (o : List Nat), o.length + d = all.length → (∀ a ∈ o, a < x.evs.length) →
  Pure E.P 34 [exOV x, .d (ints (nums o)), .d (ints (nums all))] (.bool (tryB (fun o => rightB x (nums o)) all d o)) := by
 intro d
 induction d with
 | zero =>
  intro o ho hoi
  have f3 : Frozen 3 := ⟨trivial⟩
  have ho1 := xI o
  have ho2 := xI all
  have hr := right_p x h hk (nums o) (by omega) (nums_in hoi)
  refine fnA Tryz.func34 Tryz.ntmps34 ?_
  refine run ?_; refine aoR fun _ => ?_
  refine run ?_; refine aoR fun _ => ?_
  refine run ?_; refine cnd ?_ ?_
  refine uF fun _ => ?_; try omega
  refine run ?_; refine aoR fun _ => ?_
  refine run ?_
  apply uP; exact rfl; exact .fn _ _ _; exact rfl; (exact hr)
  refine run ?_; rotate_left
  refine uI fun _ => ?_; try omega
  exact uU rfl rfl
 | succ d ih =>
  intro o ho hoi
  have f3 : Frozen 3 := ⟨trivial⟩
  have f38 : Frozen 38 := ⟨trivial⟩
  have ho1 := xI o
  have ho2 := xI all
  refine fnA Tryz.func34 Tryz.ntmps34 ?_
  refine run ?_; refine aoR fun _ => ?_
  refine run ?_; refine aoR fun _ => ?_
  refine run ?_; refine cnd ?_ ?_
  refine uF fun _ => ?_; try omega
  refine uI fun _ => ?_; try omega
  refine run ?_; refine aoR fun _ => ?_
  refine run ?_; rotate_left
  refine uT (X := Nat) (fun i => tmL [(1, .d (ints (nums o))), (2, .d (ints (nums all))), (3, .d (.pt (exRow x) 0)), (7, .int .i64 i)]) (fun _ => stL []) (fun i => i ≤ all.length ∧ ∀ j, j < i → (!o.contains (all.getD j 0) && tryB (fun o => rightB x (nums o)) all d (o ++ [all.getD j 0])) = false) (fun i => all.length - i) 0 ⟨Nat.zero_le _, fun j hj => by omega⟩ leP leP ?_
  rintro i ⟨hi, hno⟩
  by_cases hlt : i < all.length
  ·have hai' := hai _ (xB hlt)
   have hix : (nums all).getD i 0 = ((all.getD i 0 : Nat) : Int) := xO all i
   have hat := lH (nums o) ((nums all).getD i 0) (by omega)
   have hrec : Pure E.P 34 [exOV x, .d (.sl 1 ((nums o).map cell ++ [cell ((nums all).getD i 0)])), .d (ints (nums all))] (.bool (tryB (fun o => rightB x (nums o)) all d (o ++ [all.getD i 0]))) := by
    have h1 := ih (o ++ [all.getD i 0]) (by rw [List.length_append, List.length_singleton]; omega) (fun a ha => by
     rcases List.mem_append.1 ha with ha | ha
     ·exact hoi a ha
     ·rw [List.mem_singleton.1 ha]; exact hai')
    rw [hix]
    have e : ints (nums (o ++ [all.getD i 0])) = .sl 1 ((nums o).map cell ++ [cell ((all.getD i 0 : Nat) : Int)]) := by
     unfold ints nums
     rw [List.map_append, List.map_append]; rfl
    rw [e] at h1
    exact h1
   have hcon : atI (nums o) ((nums all).getD i 0) < 0 ↔ o.contains (all.getD i 0) = false := by
    rw [hix]
    have := (iW o (all.getD i 0) 0).1
    unfold atI
    rw [Bool.eq_false_iff, ne_eq, List.contains_iff_mem, ← this]
    omega
   refine uK ?_; refine aoR fun _ => ?_
   refine uK ?_; refine cnd ?_ ?_
   refine uF fun _ => ?_; try omega
   refine uK ?_
   refine uO (E := E) ?_ (fun _ => ?_); exact rfl
   refine uK ?_
   apply xD; exact rfl; exact .fn _ _ _; exact rfl; (exact hat)
   refine uK ?_
   apply uA; exact rfl; exact rfl
   refine uF fun _ => ?_; try omega
   refine uK ?_
   apply uA; exact rfl; exact rfl
   refine uJ ?_; refine uK ?_
   apply uA; exact rfl; exact rfl
   refine uJ ?_; refine uK ?_
   apply uA; exact rfl; exact rfl
   refine uJ ?_; refine uK ?_
   apply uA; exact rfl; exact rfl
   refine uJ ?_; refine uK ?_
   apply uA; exact rfl; exact rfl
   refine uJ ?_; refine uK ?_
   apply uA; exact rfl; exact rfl
   refine uJ ?_; refine uK ?_
   apply uA; exact rfl; exact rfl
   refine uJ ?_; refine uK ?_
   apply uA; exact rfl; exact rfl
   refine uJ ?_; refine uK ?_
   apply uA; exact rfl; exact rfl
   refine uJ ?_; refine uK ?_
   apply uA; exact rfl; exact rfl
   refine uJ ?_
   apply xD; exact rfl; exact .fn _ _ _; exact rfl; (exact hrec)
   refine uK ?_; refine cnd ?_ ?_; refine wX ?_; refine uJ ?_
   refine wQ (fun _ => ?_)
   refine uK ?_; refine aoR fun _ => ?_
   refine uK ?_; rotate_left
   refine wK (fun hc_ => ?_); (try simp only [nrm] at hc_)
   refine uK ?_; refine aoR fun _ => ?_
   refine uK ?_; rotate_left
   iterate 10 exact wH
   refine uI fun _ => ?_; try omega
   apply uA; exact rfl; exact rfl
   exact uH
   refine uG ?_
   apply uA; exact rfl; exact rfl
   exact uH
   refine uG ?_
   apply uA; exact rfl; exact rfl
   exact uH
   refine uG ?_
   apply uA; exact rfl; exact rfl
   exact uH
   refine uG ?_
   apply uA; exact rfl; exact rfl
   exact uH
   refine uG ?_
   apply uA; exact rfl; exact rfl
   exact uH
   refine uG ?_
   apply uA; exact rfl; exact rfl
   exact uH
   refine uG ?_
   apply uA; exact rfl; exact rfl
   exact uH
   refine uG ?_
   apply uA; exact rfl; exact rfl
   exact uH
   refine uG ?_
   apply uA; exact rfl; exact rfl
   exact uH
   refine uG ?_; refine uK ?_; refine cnd ?_ ?_
   exact uH
   refine uG ?_; refine uK ?_; refine aoR fun _ => ?_
   refine uK ?_; rotate_left
   refine uI fun _ => ?_; try omega
   ·rename_i n1 n2 _
    refine uU rfl ?_
    unfold tryB
    refine (List.any_eq_true.2 ⟨all.getD i 0, xB hlt, ?_⟩).symm
    rw [hcon.1 n1, n2]; rfl
   ·have g1 : tryB (fun o => rightB x (nums o)) all d (o ++ [all.getD i 0]) = false := hc_.resolve_left (by decide)
    refine uV (i + 1) ⟨by omega, fun j hj => ?_⟩ (by omega) leP leP
    rcases Nat.lt_or_ge j i with e | e
    ·exact hno j e
    ·rw [show j = i by omega, g1]; simp
   ·rename_i n1 _
    refine uV (i + 1) ⟨by omega, fun j hj => ?_⟩ (by omega) leP leP
    rcases Nat.lt_or_ge j i with e | e
    ·exact hno j e
    ·rw [show j = i by omega]
     have g1 : o.contains (all.getD i 0) = true := by
      cases g : o.contains (all.getD i 0) with
      | true => rfl
      | false => exact (n1 (hcon.2 g)).elim
     rw [g1]; rfl
  ·have e : i = all.length := by omega
   subst e
   refine run ?_; refine aoR fun _ => ?_
   refine run ?_; refine cnd ?_ ?_
   refine uF fun _ => ?_; try omega
   refine uI fun _ => ?_; try omega
   refine run ?_; refine aoR fun _ => ?_
   refine run ?_; rotate_left
   refine uU rfl ?_
   unfold tryB
   symm
   rw [List.any_eq_false]
   intro a ha
   obtain ⟨j, hj, rfl⟩ := List.getElem_of_mem ha
   have := hno j hj
   rw [List.getD_eq_getElem?_getD, List.getElem?_eq_getElem hj] at this
   simpa using this
def allT (x : Ex) (k : Nat) : List Nat := (List.range k).filter fun a => !decide ((x.evs.getD a default).kind = 4)
def begT (x : Ex) (k : Nat) : List Nat := (List.range k).filter fun a => decide ((x.evs.getD a default).kind = 5)
theorem mM (p : Nat → Bool) (k : Nat) : (List.range (k + 1)).filter p = (List.range k).filter p ++ if p k = true then [k] else [] := by
 rw [List.range_succ, List.filter_append]
 by_cases h : p k = true
 ·rw [if_pos h]; simp [h]
 ·rw [if_neg h]; simp [h]
theorem kD (p : Nat → Bool) (k : Nat) : ((List.range k).filter p).length ≤ k := Nat.le_trans (List.length_filter_le ..) (by simp)
def byAxB (x : Ex) : Bool := ratB x && tryB (fun o => rightB x (nums o)) (allE x) ((allE x).length - (begE x).length) (begE x)
theorem begE_le (x : Ex) : (begE x).length ≤ (allE x).length := by
 unfold begE allE
 refine List.Sublist.length_le ?_
 have : ((List.range x.evs.length).filter fun a => decide ((x.evs.getD a default).kind = 5)) = ((List.range x.evs.length).filter fun a => !decide ((x.evs.getD a default).kind = 4)).filter fun a => decide ((x.evs.getD a default).kind = 5) := by
  rw [List.filter_filter]
  congr 1
  funext a
  by_cases h : (x.evs.getD a default).kind = 5
  ·rw [h]; rfl
  ·rw [decide_eq_false h]; rfl
 rw [this]
 exact List.filter_sublist
set_option maxHeartbeats 4000000 in
theorem byAxioms_p (x : Ex) (h : x.rel) (hk : x.rok) : Pure E.P 16 [exOV x] (.bool (byAxB x)) := by
 have f1 : Frozen 1 := ⟨trivial⟩
 have hl := h.len
 refine fnA Tryz.func16 Tryz.ntmps16 ?_
 refine run ?_; refine aoR fun _ => ?_
 refine run ?_; refine aoR fun _ => ?_
 refine run ?_; refine aoR fun _ => ?_
 refine run ?_; rotate_left
 rename_i v1 v3 _
 refine uT (X := Nat × Stamp × Stamp × List Int × List Int) (fun p => tmL [(1, .d (.pt (exRow x) 0)), (3, .os 3 p.2.1 1 p.2.2.2.1.length), (4, .os 4 p.2.2.1 1 p.2.2.2.2.length), (5, .int .i64 p.1)]) (fun p => stL [(3, (p.2.1, ⟨1, p.2.2.2.1.map (cellO .i64)⟩)), (4, (p.2.2.1, ⟨1, p.2.2.2.2.map (cellO .i64)⟩))])
  (fun p => p.1 ≤ x.evs.length ∧ p.2.2.2.1 = nums (begT x p.1) ∧ p.2.2.2.2 = nums (allT x p.1)) (fun p => x.evs.length - p.1) (0, (v3, 0), (v3, 1), [], []) ⟨Nat.zero_le _, rfl, rfl⟩ leP leP ?_
 rintro ⟨i, τ3, τ4, l3, l4⟩ ⟨hi, h3, h4⟩
 dsimp only at hi h3 h4 ⊢
 have h3l : l3.length ≤ 64 := by rw [h3, xI]; exact Nat.le_trans (kD _ _) (by omega)
 have h4l : l4.length ≤ 64 := by rw [h4, xI]; exact Nat.le_trans (kD _ _) (by omega)
 by_cases hlt : i < x.evs.length
 ·have gb : ∀ p : Nat → Bool, p i = true → nums ((List.range (i + 1)).filter p) = nums ((List.range i).filter p) ++ [(i : Int)] := fun p hp => by
   rw [mM, if_pos hp]; unfold nums; rw [List.map_append]; rfl
  have gn : ∀ p : Nat → Bool, ¬ p i = true → nums ((List.range (i + 1)).filter p) = nums ((List.range i).filter p) := fun p hp => by
   rw [mM, if_neg hp, List.append_nil]
  refine run ?_; refine aoR fun _ => ?_
  refine run ?_; refine cnd ?_ ?_
  refine uF fun _ => ?_; try omega
  refine run ?_; refine aoR fun _ => ?_
  refine run ?_; refine cnd ?_ ?_
  refine wR (fun _ => ?_); (try omega)
  refine aoR fun _ => ?_; refine run ?_
  refine aoR fun _ => ?_; refine run ?_
  refine cnd ?_ ?_
  refine uF fun _ => ?_; try omega
  refine aoR fun _ => ?_; refine run ?_
  refine aoR fun _ => ?_; refine run ?_
  rotate_left
  refine uI fun _ => ?_; try omega
  refine run ?_; refine aoR fun _ => ?_
  refine run ?_; rotate_left
  refine wS (fun _ => ?_); (try omega)
  refine run ?_; refine aoR fun _ => ?_
  refine run ?_; refine cnd ?_ ?_
  refine uF fun _ => ?_; try omega
  refine uI fun _ => ?_; try omega
  refine run ?_; refine aoR fun _ => ?_
  refine run ?_; rotate_left
  refine uI fun _ => ?_; try omega
  ·rename_i k4 w6 _ k5 w8 _
   have k4 : ¬ (x.evs.getD i default).kind = 4 := k4
   have k5 : (x.evs.getD i default).kind = 5 := k5
   exact uV (i + 1, (w8, 4), (w6, 4), l3 ++ [(i : Int)], l4 ++ [(i : Int)]) ⟨by dsimp only; omega, by dsimp only; rw [h3]; exact (gb _ (decide_eq_true k5)).symm, by dsimp only; rw [h4]; exact (gb _ (by rw [decide_eq_false k4]; rfl)).symm⟩ (by dsimp only; omega) (by repeat' (first | exact vW _ | exact vP _ | refine uL rfl ?_ | refine vH rfl ?_ | (refine vF rfl ?_ ?_; (simp <;> rfl)) | (refine uR rfl ?_ ?_; (simp <;> rfl)) | (refine uS rfl ?_ ?_; (simp <;> rfl)))) (by repeat' (first | exact vW _ | exact vP _ | refine uL rfl ?_ | refine vH rfl ?_ | (refine vF rfl ?_ ?_; (simp <;> rfl)) | (refine uR rfl ?_ ?_; (simp <;> rfl)) | (refine uS rfl ?_ ?_; (simp <;> rfl))))
  ·rename_i k4 w6 _ k5 _
   have k4 : ¬ (x.evs.getD i default).kind = 4 := k4
   have k5 : ¬ (x.evs.getD i default).kind = 5 := k5
   exact uV (i + 1, τ3, (w6, 4), l3, l4 ++ [(i : Int)]) ⟨by dsimp only; omega, by dsimp only; rw [h3]; exact (gn _ (by rw [decide_eq_false k5]; decide)).symm, by dsimp only; rw [h4]; exact (gb _ (by rw [decide_eq_false k4]; rfl)).symm⟩ (by dsimp only; omega) (by repeat' (first | exact vW _ | exact vP _ | refine uL rfl ?_ | refine vH rfl ?_ | (refine vF rfl ?_ ?_; (simp <;> rfl)) | (refine uR rfl ?_ ?_; (simp <;> rfl)) | (refine uS rfl ?_ ?_; (simp <;> rfl)))) (by repeat' (first | exact vW _ | exact vP _ | refine uL rfl ?_ | refine vH rfl ?_ | (refine vF rfl ?_ ?_; (simp <;> rfl)) | (refine uR rfl ?_ ?_; (simp <;> rfl)) | (refine uS rfl ?_ ?_; (simp <;> rfl))))
  ·rename_i k4 _ k5 _
   have k4 : (x.evs.getD i default).kind = 4 := k4
   have k5 : ¬ (x.evs.getD i default).kind = 5 := k5
   exact uV (i + 1, τ3, τ4, l3, l4) ⟨by dsimp only; omega, by dsimp only; rw [h3]; exact (gn _ (by rw [decide_eq_false k5]; decide)).symm, by dsimp only; rw [h4]; exact (gn _ (by rw [decide_eq_true k4]; decide)).symm⟩ (by dsimp only; omega) leP leP
 ·have e : i = x.evs.length := by omega
  subst e
  have f3 : Frozen 3 := ⟨trivial⟩
  have f4 : Frozen 4 := ⟨trivial⟩
  have hA := ratomic_p x h
  have e3 : l3 = nums (begE x) := h3
  have e4 : l4 = nums (allE x) := h4
  have hS := rsome_p x h hk (allE x) (by have := kD (fun a => !decide ((x.evs.getD a default).kind = 4)) x.evs.length; unfold allE; omega) (fun a ha => List.mem_range.1 (List.mem_filter.1 ha).1) ((allE x).length - (begE x).length) (begE x) (by have := begE_le x; omega) (fun a ha => List.mem_range.1 (List.mem_filter.1 ha).1)
  rw [← e3, ← e4] at hS
  refine uK ?_; refine aoR fun _ => ?_
  refine uK ?_; refine cnd ?_ ?_
  refine uF fun _ => ?_; try omega
  refine uI fun _ => ?_; try omega
  refine uK ?_; refine aoR fun _ => ?_
  refine uK ?_
  apply uP; exact rfl; exact .fn _ _ _; exact rfl; (exact hA)
  refine uK ?_
  apply uD; exact rfl; exact rfl
  refine wQ (fun _ => ?_)
  refine uK ?_
  apply uD; exact rfl; exact rfl
  refine uJ ?_; refine uK ?_
  apply uD; exact rfl; exact rfl
  refine uJ ?_; refine uK ?_
  apply uD; exact rfl; exact rfl
  refine uJ ?_
  apply uP; exact rfl; exact .fn _ _ _; exact rfl; (exact hS)
  refine uK ?_; rotate_left
  iterate 3 exact wH
  refine cI (fun _ => ?_)
  apply uD; exact rfl; exact rfl
  exact uH
  refine uG ?_
  apply uD; exact rfl; exact rfl
  exact uH
  refine uG ?_
  apply uD; exact rfl; exact rfl
  exact uH
  refine uG ?_; refine uK ?_; rotate_left
  ·rename_i g
   refine uU rfl ?_
   unfold byAxB
   rw [g]
  ·rename_i g
   refine uU rfl ?_
   unfold byAxB
   rw [g]; rfl
end Go.Proofs.YtnkocjkkefnelaaGreat
