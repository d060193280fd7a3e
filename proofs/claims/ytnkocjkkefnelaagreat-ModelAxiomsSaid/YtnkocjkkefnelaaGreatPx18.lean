/- Parts. -/
import Derived.Test.YtnkocjkkefnelaaGreatPx3
import Derived.Test.YtnkocjkkefnelaaGreatPx14
import Derived.Test.YtnkocjkkefnelaaGreatPx15
import Derived.Test.YtnkocjkkefnelaaGreatPx16
import Derived.Test.YtnkocjkkefnelaaGreatPx17
set_option linter.unusedVariables false
set_option linter.unusedSimpArgs false
set_option maxRecDepth 100000
namespace Go.Proofs.YtnkocjkkefnelaaGreat
open Go.RowKit
theorem fit8 {x : Ex} (hx : x.ok) (hw : wideB8 x = false) : x.fit ∧ x.evs.length ≤ 20 := ⟨⟨hx, fun r hr => Nat.le_trans (wide8_row hw r hr) (by decide)⟩, by
 unfold wideB8 at hw
 simp only [Bool.or_eq_false_iff, decide_eq_false_iff_not] at hw
 omega⟩
theorem judge_ok {x : Ex} (hc : checkI x = 0) : judT x = (judB x, 0) ∧ allowT x = (allowB x, 0) ∧ arrT x = (gloL x, 0) := by
 unfold judT allowT arrT
 rw [if_pos hc, if_pos hc, if_pos hc]
 exact ⟨rfl, rfl, rfl⟩
set_option maxRecDepth 100000
def movB (e : Ev) : Bool := decide (e.kind < 4)
def movN (x : Ex) (k : Nat) : Nat := ((x.evs.take k).filter movB).length
theorem movN_le (x : Ex) (k : Nat) : movN x k ≤ x.evs.length := Nat.le_trans (List.length_filter_le _ _) (by simp; omega)
theorem kO {x : Ex} {i : Nat} (h : i < x.evs.length) : movN x (i + 1) = movN x i + bif movB (x.evs.getD i default) then 1 else 0 := by
 unfold movN
 rw [wO x.evs default i h, List.filter_append, List.length_append]
 cases hm : movB (x.evs.getD i default) <;> simp only [List.filter_cons, hm, List.filter_nil] <;> rfl
theorem movN_yes {x : Ex} {i : Nat} (h : i < x.evs.length) (hk : (x.evs.getD i default).kind < 4) : movN x (i + 1) = movN x i + 1 := by
 rw [kO h, show movB (x.evs.getD i default) = true from decide_eq_true hk]; rfl
theorem movN_no {x : Ex} {i : Nat} (h : i < x.evs.length) (hk : ¬ (x.evs.getD i default).kind < 4) : movN x (i + 1) = movN x i := by
 rw [kO h, show movB (x.evs.getD i default) = false from decide_eq_false hk]; rfl
theorem rmoving_p (x : Ex) (hx : x.evs.length ≤ 4096) : Pure E.P 13 [exOV x] (.int .i64 (movN x x.evs.length)) := by
 refine fnA Tryz.func13 Tryz.ntmps13 ?_
 have f1 : Frozen 1 := ⟨trivial⟩
 refine uB (aoR fun _ => ?_)
 refine q34 ?_; refine q12 (uC (uA (uB (aoR fun _ => ?_))))
 refine q12 (uC (uA ?_))
 iterate 2 refine uB ?_
 refine aoR fun _ => ?_; refine q12 (uC (uA (uG ?_)))
 rotate_left
 refine uZ (X := Nat) (fun i => tmL [(1, .d (.pt (exRow x) 0)), (3, .int .i64 (movN x i)), (4, .int .i64 i)]) (fun _ => stL [])
  (fun i => i ≤ x.evs.length) (fun i => x.evs.length - i) 0 (Nat.zero_le _) leP leP ?_
 intro i hi
 try dsimp only at hi ⊢
 have hle := movN_le x i
 by_cases hlt : i < x.evs.length
 ·iterate 2 refine uB ?_
  refine aoR fun _ => ?_; refine q11 ?_; refine q32 ?_; refine q23 ?_; refine q13 ?_; refine q37 (uC (uA ?_))
  refine cnd ?_ ?_
  refine uK fun _ => ?_; try (exfalso; omega)
  refine uF (uA (uB (uG (uB (aoR fun _ => ?_)))))
  refine q32 ?_; refine q23 ?_; refine q11 ?_; refine q17 ?_; refine q32 ?_; refine q23 ?_; refine q37 (uC (uA ?_)); refine cnd ?_ ?_
  refine uK fun _ => ?_; try (exfalso; omega)
  refine aoR fun _ => ?_
  refine q11 ?_; refine q36 ?_; refine q12 (uC ?_); refine vJ ?_; refine uA (aoR fun _ => ?_)
  refine q11 ?_; refine q36 ?_; refine q12 (uC (uA ?_)); rotate_left
  refine uL fun _ => ?_; try (exfalso; omega)
  refine uF ?_; refine vJ ?_; refine uA (aoR fun _ => ?_)
  refine q11 ?_; refine q36 ?_; refine q12 (uC (uA ?_)); rotate_left
  refine uL fun _ => ?_; try (exfalso; omega)
  ·rename_i hk _ _
   have hy : movN x (i + 1) = movN x i + 1 := movN_yes hlt (by simpa using hk)
   exact vI (i + 1) (by omega) (by omega) (by repeat' (first | exact vY _ | exact vS _ | refine uP rfl ?_ | refine vN rfl ?_ | (refine vD rfl ?_ ?_; (first | rfl | (rw [hy]; done) | (rw [hy]; rfl) | (rw [hy]; omega) | (simp [hy]; done))) | (refine vA rfl ?_ ?_; (first | rfl | (rw [hy]; done) | (rw [hy]; rfl) | (rw [hy]; omega) | (simp [hy]; done))) | (refine vG rfl ?_ ?_; (first | rfl | (rw [hy]; done) | (rw [hy]; rfl) | (rw [hy]; omega) | (simp [hy]; done))))) leP
  ·rename_i hk _
   have hy : movN x (i + 1) = movN x i := movN_no hlt (by simpa using hk)
   rw [← hy]
   exact vI (i + 1) (by omega) (by omega) leP leP
 ·have he : i = x.evs.length := by omega
  subst he
  iterate 2 refine uB ?_
  refine aoR fun _ => ?_; refine q11 ?_; refine q32 ?_; refine q23 ?_; refine q13 ?_; refine q37 (uC (uA ?_))
  refine cnd ?_ ?_
  refine uK fun _ => ?_; try (exfalso; omega)
  refine uL fun _ => ?_; try (exfalso; omega)
  refine uS ?_
  iterate 2 refine vE ?_
  refine vT ?_; refine uA (uB (aoR fun _ => ?_))
  refine q11 ?_; refine q12 (uC (uA ?_)); refine uH ?_; rotate_left
  exact fJ rfl rfl
def ixN : List Nat → Nat → Nat
 | [], _ => 0
 | a :: l, n => if a = n then 0 else ixN l n + 1
theorem yQ : ∀ {l : List Nat} {n : Nat}, n ∈ l → ixN l n < l.length ∧ l.getD (ixN l n) 0 = n
 | [], n, h => by cases h
 | a :: l, n, h => by
  unfold ixN
  by_cases e : a = n
  ·rw [if_pos e]; simp [e]
  ·rw [if_neg e]
   obtain ⟨h1, h2⟩ := yQ ((List.mem_cons.1 h).resolve_left fun h => e h.symm)
   exact ⟨by simpa using h1, by simpa using h2⟩
theorem xA {l : List Nat} {i : Nat} (h : i < l.length) : l.getD i 0 ∈ l := by
 rw [List.getD_eq_getElem?_getD, List.getElem?_eq_getElem h]; exact List.getElem_mem h
theorem aH : ∀ {l : List Nat} {i : Nat}, l.Nodup → i < l.length → ixN l (l.getD i 0) = i
 | [], i, _, h => by simp at h
 | a :: l, 0, _, _ => by simp [ixN]
 | a :: l, i + 1, hn, h => by
  have h2 : i < l.length := by simpa using h
  have h3 : l.getD i 0 ∈ l := xA h2
  have h4 : a ≠ l.getD i 0 := fun e => (List.nodup_cons.1 hn).1 (e ▸ h3)
  show ixN (a :: l) (l.getD i 0) = i + 1
  unfold ixN
  rw [if_neg h4, aH (List.nodup_cons.1 hn).2 h2]
theorem lW {l : List Nat} {a b : Nat} (ha : a ∈ l) (hb : b ∈ l) (h : ixN l a = ixN l b) : a = b := by
 have h1 := (yQ ha).2
 have h2 := (yQ hb).2
 rw [← h1, ← h2, h]
theorem aG : ∀ {l m : List Nat}, l.Nodup → (∀ a ∈ l, a ∈ m) → l.length ≤ m.length
 | [], m, _, _ => Nat.zero_le _
 | a :: l, m, hn, hs => by
  have ha : a ∈ m := hs a (by simp)
  have := aG (l := l) (m := m.erase a) (List.nodup_cons.1 hn).2 fun b hb => by
   have hne : b ≠ a := fun e => (List.nodup_cons.1 hn).1 (e ▸ hb)
   exact (List.mem_erase_of_ne hne).2 (hs b (by simp [hb]))
  rw [List.length_erase_of_mem ha] at this
  have := List.length_pos_of_mem ha
  simp only [List.length_cons]; omega
theorem nodup_all {l m : List Nat} (hn : l.Nodup) (hs : ∀ a ∈ l, a ∈ m) (hl : m.length ≤ l.length) : ∀ a ∈ m, a ∈ l := by
 intro a ha
 apply Classical.byContradiction
 intro hna
 have h := aG (l := a :: l) (m := m) (List.nodup_cons.2 ⟨hna, hn⟩) fun b hb => by
  rcases List.mem_cons.1 hb with rfl | hb
  ·exact ha
  ·exact hs b hb
 simp only [List.length_cons] at h; omega
structure Evn where
 n : Nat
 st : Nat → Prop
 ld : Nat → Prop
 nf : Nat → Prop
 bg : Nat → Prop
 addr : Nat → Int
 hart : Nat → Int
 src : Nat → Nat
 co : Nat → Nat → Prop
 ppo : Nat → Nat → Prop
namespace Evn
variable (E : Evn)
def po (a b : Nat) : Prop := a < b ∧ 0 ≤ E.hart a ∧ E.hart a = E.hart b
def is (a : Nat) : Prop := a < E.n ∧ E.nf a
def fr (a b : Nat) : Prop := a ≠ b ∧ E.ld a ∧ E.co (E.src a) b
def rf (a b : Nat) : Prop := E.ld b ∧ E.src b = a
def coh (a b : Nat) : Prop := E.is a ∧ E.is b ∧ (E.rf a b ∨ E.co a b ∨ E.fr a b ∨ (E.po a b ∧ E.addr a = E.addr b))
def glo (a b : Nat) : Prop := E.is a ∧ E.is b ∧ (E.ppo a b ∨ E.co a b ∨ E.fr a b ∨ (E.rf a b ∧ E.hart a ≠ E.hart b))
structure Ok : Prop where
 src : ∀ b, E.is b → E.ld b → E.is (E.src b) ∧ E.st (E.src b) ∧ E.addr (E.src b) = E.addr b ∧ E.src b ≠ b
 co : ∀ a b, E.co a b → E.st a ∧ E.st b ∧ E.addr a = E.addr b ∧ a ≠ b
 tot : ∀ a b, E.is a → E.is b → E.st a → E.st b → E.addr a = E.addr b → a ≠ b → E.co a b ∨ E.co b a
 trans : ∀ a b c, E.co a b → E.co b c → E.co a c
 ppo : ∀ a b, E.ppo a b → E.po a b ∧ E.is a ∧ E.is b
 r1 : ∀ a b, E.is a → E.is b → E.po a b → E.addr a = E.addr b → E.st b → E.ppo a b
 r2 : ∀ a b, E.is a → E.is b → E.po a b → E.addr a = E.addr b → E.ld a → E.ld b → E.src a ≠ E.src b → E.ppo a b ∨ ∃ m, E.is m ∧ E.st m ∧ E.addr m = E.addr a ∧ E.po a m ∧ E.po m b
 kind : ∀ a, E.is a → E.st a ∨ E.ld a
 beg : ∀ b, E.is b → E.bg b → E.hart b < 0 ∧ ¬ E.ld b ∧ E.st b ∧ ∀ a, ¬ E.co a b
 hart : ∀ b, E.is b → ¬ E.bg b → 0 ≤ E.hart b
def cand (o : List Nat) (n m : Nat) : Prop := m ≠ n ∧ E.st m ∧ E.addr m = E.addr n ∧ (ixN o m < ixN o n ∨ E.po m n)
def sees (o : List Nat) (n f : Nat) : Prop := f ∈ o ∧ E.cand o n f ∧ ∀ m ∈ o, E.cand o n m → ixN o m ≤ ixN o f
structure right (o : List Nat) : Prop where
 fwd : ∀ a ∈ o, ∀ b ∈ o, (E.ppo a b ∨ E.co a b) → ixN o a < ixN o b
 see : ∀ a ∈ o, E.ld a → E.sees o a (E.src a)
def Up (r : Nat → Nat → Prop) : Prop := ∃ t : Nat → Nat, ∀ a b, r a b → t a < t b
variable {E}
theorem nC {a b c : Nat} (h : E.po a b) (h' : E.po b c) : E.po a c := ⟨Nat.lt_trans h.1 h'.1, h.2.1, h.2.2.trans h'.2.2⟩
theorem right_of (hE : E.Ok) (hc : Up E.coh) {o : List Nat} (ho : ∀ a, a ∈ o ↔ E.is a) (hg : ∀ a ∈ o, ∀ b ∈ o, E.glo a b → ixN o a < ixN o b) : E.right o := by
 obtain ⟨t, ht⟩ := hc
 refine ⟨fun a ha b hb h => hg a ha b hb ⟨(ho a).1 ha, (ho b).1 hb, h.elim Or.inl fun h => Or.inr (Or.inl h)⟩, fun n hn hl => ?_⟩
 have in' := (ho n).1 hn
 obtain ⟨sf, s1, s2, s3⟩ := hE.src n in' hl
 have hf := (ho _).2 sf
 have hrf : E.rf (E.src n) n := ⟨hl, rfl⟩
 refine ⟨hf, ⟨s3, s1, s2, ?_⟩, fun m hm hcm => ?_⟩
 ·by_cases hh : E.hart (E.src n) = E.hart n
  ·have h0 : 0 ≤ E.hart n := hE.hart n in' fun hb => (hE.beg n in' hb).2.1 hl
   rcases Nat.lt_or_ge (E.src n) n with h1 | h1
   ·exact Or.inr ⟨h1, by rw [hh]; exact h0, hh⟩
   ·exfalso
    have e1 := ht _ _ ⟨in', sf, Or.inr (Or.inr (Or.inr ⟨⟨by omega, h0, hh.symm⟩, s2.symm⟩))⟩
    have e2 := ht _ _ ⟨sf, in', Or.inl hrf⟩
    omega
  ·exact Or.inl (hg _ hf _ hn ⟨sf, in', Or.inr (Or.inr (Or.inr ⟨hrf, hh⟩))⟩)
 ·obtain ⟨c1, c2, c3, c4⟩ := hcm
  have im := (ho m).1 hm
  by_cases hmf : m = E.src n
  ·rw [hmf]; exact Nat.le_refl _
  rcases hE.tot m (E.src n) im sf c2 s1 (c3.trans s2.symm) hmf with h | h
  ·exact Nat.le_of_lt (hg _ hm _ hf ⟨im, sf, Or.inr (Or.inl h)⟩)
  ·exfalso
   have hfr : E.fr n m := ⟨Ne.symm c1, hl, h⟩
   have e1 := hg _ hn _ hm ⟨in', im, Or.inr (Or.inr (Or.inl hfr))⟩
   rcases c4 with c4 | c4
   ·omega
   ·have e2 := ht _ _ ⟨im, in', Or.inr (Or.inr (Or.inr ⟨c4, c3⟩))⟩
    have e3 := ht _ _ ⟨in', im, Or.inr (Or.inr (Or.inl hfr))⟩
    omega
theorem qN (hE : E.Ok) {o : List Nat} (ho : ∀ a, a ∈ o ↔ E.is a) (hr : E.right o) {n m : Nat} (hn : E.is n) (hm : E.is m) (h : E.fr n m) : ixN o n < ixN o m := by
 obtain ⟨h1, h2, h3⟩ := h
 obtain ⟨sf, s1, s2, s3⟩ := hE.src n hn h2
 obtain ⟨_, _, hs⟩ := hr.see n ((ho n).2 hn) h2
 obtain ⟨q1, q2, q3, q4⟩ := hE.co _ _ h3
 have e1 := hr.fwd _ ((ho _).2 sf) _ ((ho m).2 hm) (Or.inr h3)
 rcases Nat.lt_trichotomy (ixN o n) (ixN o m) with h | h | h
 ·exact h
 ·exact absurd (lW ((ho n).2 hn) ((ho m).2 hm) h) h1
 ·have := hs m ((ho m).2 hm) ⟨Ne.symm h1, q2, q3.symm.trans s2, Or.inl h⟩
  omega
theorem glo_fwd (hE : E.Ok) {o : List Nat} (ho : ∀ a, a ∈ o ↔ E.is a) (hr : E.right o) {a b : Nat} (h : E.glo a b) : ixN o a < ixN o b := by
 obtain ⟨ia, ib, h | h | h | ⟨h, hh⟩⟩ := h
 ·exact hr.fwd _ ((ho a).2 ia) _ ((ho b).2 ib) (Or.inl h)
 ·exact hr.fwd _ ((ho a).2 ia) _ ((ho b).2 ib) (Or.inr h)
 ·exact qN hE ho hr ia ib h
 ·obtain ⟨h1, rfl⟩ := h
  obtain ⟨_, ⟨_, _, _, h2⟩, _⟩ := hr.see b ((ho b).2 ib) h1
  exact h2.resolve_right fun hp => hh hp.2.2
open Classical in
noncomputable def key (E : Evn) (o : List Nat) (a : Nat) : Nat := if E.st a then 2 * ixN o a else 2 * ixN o (E.src a) + 1
theorem aR {o : List Nat} {a : Nat} (h : E.st a) : E.key o a = 2 * ixN o a := if_pos h
theorem bU {o : List Nat} {a : Nat} (h : ¬ E.st a) : E.key o a = 2 * ixN o (E.src a) + 1 := if_neg h
theorem coh_key (hE : E.Ok) {o : List Nat} (ho : ∀ a, a ∈ o ↔ E.is a) (hr : E.right o) {a b : Nat} (h : E.coh a b) : E.key o a < E.key o b ∨ (E.key o a ≤ E.key o b ∧ a < b) := by
 obtain ⟨ia, ib, h | h | h | ⟨h, hd⟩⟩ := h
 ·-- what is read
  obtain ⟨h1, rfl⟩ := h
  obtain ⟨sf, s1, s2, s3⟩ := hE.src b ib h1
  rw [aR s1]
  by_cases hs : E.st b
  ·rw [aR hs]
   left
   obtain ⟨_, ⟨_, _, _, h2⟩, _⟩ := hr.see b ((ho b).2 ib) h1
   have : ixN o (E.src b) < ixN o b := by
    rcases h2 with h2 | h2
    ·exact h2
    ·exact hr.fwd _ ((ho _).2 sf) _ ((ho b).2 ib) (Or.inl (hE.r1 _ _ sf ib h2 s2 hs))
   omega
  ·rw [bU hs]; left; omega
 ·obtain ⟨q1, q2, _, _⟩ := hE.co _ _ h
  rw [aR q1, aR q2]
  have := hr.fwd _ ((ho a).2 ia) _ ((ho b).2 ib) (Or.inr h)
  left; omega
 ·obtain ⟨q1, q2, q3, _⟩ := hE.co _ _ h.2.2
  rw [aR q2]
  by_cases hs : E.st a
  ·rw [aR hs]
   have := qN hE ho hr ia ib h
   left; omega
  ·rw [bU hs]
   obtain ⟨sf, _⟩ := hE.src a ia h.2.1
   have := hr.fwd _ ((ho _).2 sf) _ ((ho b).2 ib) (Or.inr h.2.2)
   left; omega
 ·-- a store b behind a, of one hart
  have stb : ∀ a b, E.is a → E.is b → E.po a b → E.addr a = E.addr b → E.st b → E.key o a < E.key o b := fun a b ia ib h hd hs => by
   have hab := hr.fwd _ ((ho a).2 ia) _ ((ho b).2 ib) (Or.inl (hE.r1 a b ia ib h hd hs))
   rw [aR hs]
   by_cases ha : E.st a
   ·rw [aR ha]; omega
   ·rw [bU ha]
    have hl := (hE.kind a ia).resolve_left ha
    obtain ⟨sf, s1, s2, s3⟩ := hE.src a ia hl
    obtain ⟨_, ⟨_, _, _, h2⟩, _⟩ := hr.see a ((ho a).2 ia) hl
    have : ixN o (E.src a) < ixN o b := by
     rcases h2 with h2 | h2
     ·omega
     ·exact hr.fwd _ ((ho _).2 sf) _ ((ho b).2 ib) (Or.inl (hE.r1 _ _ sf ib (nC h2 h) (s2.trans hd) hs))
    omega
  -- a store a ahead of a load b
  have sta : ∀ a b, E.is a → E.is b → E.po a b → E.addr a = E.addr b → E.st a → ¬ E.st b → E.key o a < E.key o b := fun a b ia ib h hd hs hb => by
   rw [aR hs, bU hb]
   have hl := (hE.kind b ib).resolve_left hb
   obtain ⟨_, _, h2⟩ := hr.see b ((ho b).2 ib) hl
   have := h2 a ((ho a).2 ia) ⟨Nat.ne_of_lt h.1, hs, hd, Or.inr h⟩
   omega
  by_cases hb : E.st b
  ·exact Or.inl (stb a b ia ib h hd hb)
  by_cases ha : E.st a
  ·exact Or.inl (sta a b ia ib h hd ha hb)
  have la := (hE.kind a ia).resolve_left ha
  have lb := (hE.kind b ib).resolve_left hb
  right
  refine ⟨?_, h.1⟩
  rw [bU ha, bU hb]
  by_cases hs : E.src a = E.src b
  ·rw [hs]; exact Nat.le_refl _
  rcases hE.r2 a b ia ib h hd la lb hs with hp | ⟨m, im, m1, m2, m3, m4⟩
  ·obtain ⟨sf, s1, s2, s3⟩ := hE.src a ia la
   obtain ⟨_, ⟨_, _, _, h2⟩, _⟩ := hr.see a ((ho a).2 ia) la
   obtain ⟨_, _, h3⟩ := hr.see b ((ho b).2 ib) lb
   have hab := hr.fwd _ ((ho a).2 ia) _ ((ho b).2 ib) (Or.inl hp)
   have hne : E.src a ≠ b := fun e => hb (e ▸ s1)
   have := h3 _ ((ho _).2 sf) ⟨hne, s1, s2.trans hd, h2.imp (fun h => Nat.lt_trans h hab) fun h2 => nC h2 h⟩
   omega
  ·have e1 := stb a m ia im m3 m2.symm m1
   have e2 := sta m b im ib m4 (m2.trans hd) m1 hb
   rw [bU ha] at e1
   rw [bU hb] at e2
   omega
theorem coh_up (hE : E.Ok) {o : List Nat} (ho : ∀ a, a ∈ o ↔ E.is a) (hr : E.right o) : Up E.coh := by
 refine ⟨fun a => E.key o a * (E.n + 1) + a, fun a b h => ?_⟩
 have ha : a < E.n := h.1.1
 rcases coh_key hE ho hr h with h1 | ⟨h1, h2⟩
 ·have : (E.key o a + 1) * (E.n + 1) ≤ E.key o b * (E.n + 1) := Nat.mul_le_mul_right _ h1
  rw [Nat.succ_mul] at this
  show E.key o a * (E.n + 1) + a < E.key o b * (E.n + 1) + b
  omega
 ·have : E.key o a * (E.n + 1) ≤ E.key o b * (E.n + 1) := Nat.mul_le_mul_right _ h1
  show E.key o a * (E.n + 1) + a < E.key o b * (E.n + 1) + b
  omega
theorem glo_up (hE : E.Ok) {o : List Nat} (ho : ∀ a, a ∈ o ↔ E.is a) (hr : E.right o) : Up E.glo := ⟨ixN o, fun _ _ h => glo_fwd hE ho hr h⟩
theorem no_beg (hE : E.Ok) {a b : Nat} (h : E.glo a b) : ¬ E.bg b := fun hb => by
 obtain ⟨ia, ib, h⟩ := h
 obtain ⟨h1, h2, _, h4⟩ := hE.beg b ib hb
 rcases h with h | h | h | h
 ·obtain ⟨hp, _, _⟩ := hE.ppo _ _ h
  have := hp.2.1
  have := hp.2.2
  omega
 ·exact h4 a h
 ·exact h4 _ h.2.2
 ·exact h2 h.1.1
theorem sorted_fwd (hE : E.Ok) {t : Nat → Nat} (ht : ∀ a b, E.glo a b → t a < t b) {bs rs : List Nat} (hb : ∀ a, a ∈ bs ↔ E.is a ∧ E.bg a) (hr : ∀ a, a ∈ rs ↔ E.is a ∧ ¬ E.bg a) (hnb : bs.Nodup) (hnr : rs.Nodup) (hs : rs.Pairwise fun a b => t a ≤ t b) :
  (bs ++ rs).Nodup ∧ (∀ a, a ∈ bs ++ rs ↔ E.is a) ∧ ∀ a ∈ bs ++ rs, ∀ b ∈ bs ++ rs, E.glo a b → ixN (bs ++ rs) a < ixN (bs ++ rs) b := by
 have hnd : (bs ++ rs).Nodup := List.nodup_append.2 ⟨hnb, hnr, fun a ha b hb' e => ((hr b).1 hb').2 (e ▸ ((hb a).1 ha).2)⟩
 refine ⟨hnd, fun a => ?_, fun a ha b hb' h => ?_⟩
 ·rw [List.mem_append, hb, hr]
  constructor
  ·rintro (h | h) <;> exact h.1
  ·intro h
   rcases Classical.em (E.bg a) with e | e
   ·exact Or.inl ⟨h, e⟩
   ·exact Or.inr ⟨h, e⟩
 ·have htab := ht a b h
  have hbn := no_beg hE h
  have hbr : b ∈ rs := (hr b).2 ⟨h.2.1, hbn⟩
  apply Classical.byContradiction
  intro hlt
  obtain ⟨a1, a2⟩ := yQ ha
  obtain ⟨b1, b2⟩ := yQ hb'
  have hne : ixN (bs ++ rs) a ≠ ixN (bs ++ rs) b := fun e => by
   have := lW ha hb' e
   subst this; omega
  have hba : ixN (bs ++ rs) b < ixN (bs ++ rs) a := by omega
  have hbs : bs.length ≤ ixN (bs ++ rs) b := by
   apply Classical.byContradiction
   intro hl
   have hl : ixN (bs ++ rs) b < bs.length := by omega
   have e : (bs ++ rs).getD (ixN (bs ++ rs) b) 0 = bs.getD (ixN (bs ++ rs) b) 0 := by
    rw [List.getD_eq_getElem?_getD, List.getElem?_append_left hl, ← List.getD_eq_getElem?_getD]
   rw [e] at b2
   exact hbn (((hb b).1 (b2 ▸ xA hl)).2)
  have key : ∀ i, bs.length ≤ i → i < (bs ++ rs).length → (bs ++ rs).getD i 0 = rs.getD (i - bs.length) 0 ∧ i - bs.length < rs.length := fun i h1 h2 => by
   rw [List.length_append] at h2
   exact ⟨by rw [List.getD_eq_getElem?_getD, List.getElem?_append_right h1, ← List.getD_eq_getElem?_getD], by omega⟩
  obtain ⟨ka, la⟩ := key _ (Nat.le_trans hbs (Nat.le_of_lt hba)) a1
  obtain ⟨kb, lb⟩ := key _ hbs b1
  have hp := List.pairwise_iff_getElem.1 hs _ _ lb la (by omega)
  rw [ka, List.getD_eq_getElem?_getD, List.getElem?_eq_getElem la] at a2
  rw [kb, List.getD_eq_getElem?_getD, List.getElem?_eq_getElem lb] at b2
  simp only [Option.getD_some] at a2 b2
  rw [a2, b2] at hp
  omega
end Evn
def tryB (R : List Nat → Bool) (all : List Nat) : Nat → List Nat → Bool
 | 0, o => R o
 | k + 1, o => all.any fun a => !o.contains a && tryB R all k (o ++ [a])
theorem gZ (R : List Nat → Bool) (all : List Nat) : ∀ (k : Nat) (o : List Nat), tryB R all k o = true ↔ ∃ r, r.length = k ∧ (∀ a ∈ r, a ∈ all ∧ a ∉ o) ∧ r.Nodup ∧ R (o ++ r) = true
 | 0, o => by
  unfold tryB
  constructor
  ·intro h; exact ⟨[], rfl, by simp, by simp, by simpa using h⟩
  ·rintro ⟨r, h1, _, _, h2⟩
   have := List.eq_nil_of_length_eq_zero h1
   subst this
   simpa using h2
 | k + 1, o => by
  unfold tryB
  rw [List.any_eq_true]
  constructor
  ·rintro ⟨a, ha, h⟩
   simp only [Bool.and_eq_true, Bool.not_eq_true', List.contains_eq_mem, decide_eq_false_iff_not] at h
   obtain ⟨r, h1, h2, h3, h4⟩ := (gZ R all k (o ++ [a])).1 h.2
   refine ⟨a :: r, by simp [h1], fun b hb => ?_, List.nodup_cons.2 ⟨fun hm => (h2 a hm).2 (by simp), h3⟩, by simpa using h4⟩
   rcases List.mem_cons.1 hb with rfl | hb
   ·exact ⟨ha, h.1⟩
   ·exact ⟨(h2 b hb).1, fun hm => (h2 b hb).2 (by simp [hm])⟩
  ·rintro ⟨r, h1, h2, h3, h4⟩
   match r, h1 with
   | a :: r, h1 =>
    refine ⟨a, (h2 a (by simp)).1, ?_⟩
    simp only [Bool.and_eq_true, Bool.not_eq_true', List.contains_eq_mem, decide_eq_false_iff_not]
    refine ⟨(h2 a (by simp)).2, (gZ R all k (o ++ [a])).2 ⟨r, by simpa using h1, fun b hb => ⟨(h2 b (by simp [hb])).1, fun hm => ?_⟩, (List.nodup_cons.1 h3).2, by simpa using h4⟩⟩
    rcases List.mem_append.1 hm with hm | hm
    ·exact (h2 b (by simp [hb])).2 hm
    ·simp only [List.mem_singleton] at hm
     subst hm
     exact (List.nodup_cons.1 h3).1 hb
theorem Evn.main {E : Evn} (hE : E.Ok) {R : List Nat → Bool} {bs all : List Nat} (hb : ∀ a, a ∈ bs ↔ E.is a ∧ E.bg a) (ha : ∀ a, a ∈ all ↔ E.is a) (hnb : bs.Nodup) (hna : all.Nodup)
  (hR : ∀ o, o.Nodup → (∀ a, a ∈ o ↔ E.is a) → (R o = true ↔ E.right o)) : tryB R all (all.length - bs.length) bs = true ↔ Up E.coh ∧ Up E.glo := by
 rw [gZ]
 constructor
 ·rintro ⟨r, h1, h2, h3, h4⟩
  have hnd : (bs ++ r).Nodup := List.nodup_append.2 ⟨hnb, h3, fun a h b h' e => (h2 b h').2 (e ▸ h)⟩
  have hle := aG hnb (m := all) fun a h => (ha a).2 ((hb a).1 h).1
  have hsub : ∀ a ∈ bs ++ r, a ∈ all := fun a h => by
   rcases List.mem_append.1 h with h | h
   ·exact (ha a).2 ((hb a).1 h).1
   ·exact (h2 a h).1
  have hall := nodup_all hnd hsub (by rw [List.length_append, h1]; omega)
  have ho : ∀ a, a ∈ bs ++ r ↔ E.is a := fun a => ⟨fun h => (ha a).1 (hsub a h), fun h => hall a ((ha a).2 h)⟩
  have hr := (hR _ hnd ho).1 h4
  exact ⟨coh_up hE ho hr, glo_up hE ho hr⟩
 ·rintro ⟨hc, t, ht⟩
  have hmem : ∀ a, a ∈ (all.filter fun a => !bs.contains a).mergeSort (fun a b => decide (t a ≤ t b)) ↔ E.is a ∧ ¬ E.bg a := fun a => by
   rw [(List.mergeSort_perm _ _).mem_iff, List.mem_filter, ha]
   simp only [Bool.not_eq_true', List.contains_eq_mem, decide_eq_false_iff_not, hb]
   exact ⟨fun h => ⟨h.1, fun h' => h.2 ⟨h.1, h'⟩⟩, fun h => ⟨h.1, fun h' => h.2 h'.2⟩⟩
  have hsort : ((all.filter fun a => !bs.contains a).mergeSort (fun a b => decide (t a ≤ t b))).Pairwise fun a b => t a ≤ t b :=
   (List.pairwise_mergeSort (le := fun a b => decide (t a ≤ t b)) (fun a b c h1 h2 => by simp at *; omega) (fun a b => by simp; omega) _).imp (by simp)
  have hnr : ((all.filter fun a => !bs.contains a).mergeSort (fun a b => decide (t a ≤ t b))).Nodup := (List.mergeSort_perm _ _).nodup_iff.2 (hna.filter _)
  have hlen : (all.filter fun a => !bs.contains a).length + bs.length = all.length := by
   have h1 : (all.filter fun a => bs.contains a).length = bs.length := by
    refine Nat.le_antisymm (aG (hna.filter _) fun a h => ?_) (aG hnb fun a h => ?_)
    ·simpa using (List.mem_filter.1 h).2
    ·exact List.mem_filter.2 ⟨(ha a).2 ((hb a).1 h).1, by simpa using h⟩
   have h2 := List.length_eq_countP_add_countP (fun a => bs.contains a) (l := all)
   rw [List.countP_eq_length_filter, List.countP_eq_length_filter] at h2
   have h3 : (List.filter (fun a => decide ¬ (bs.contains a = true)) all) = all.filter fun a => !bs.contains a := List.filter_congr fun a _ => by cases bs.contains a <;> simp
   rw [h3] at h2
   omega
  obtain ⟨q1, q2, q3⟩ := sorted_fwd hE ht hb hmem hnb hnr hsort
  refine ⟨_, ?_, fun a h => ?_, hnr, (hR _ q1 q2).2 (right_of hE hc q2 q3)⟩
  ·rw [List.length_mergeSort]; omega
  ·have := (hmem a).1 h
   exact ⟨(ha a).2 this.1, fun h' => this.2 ((hb a).1 h').2⟩
theorem dP {n : Nat} {l : List (Int × Int)} (hn : n ≤ 64) (hok : l.any (outB n) = false) : circleB n l = false ↔ Evn.Up (Arr l) := by
 constructor
 ·intro h
  have ha : acyB n l = true := by rw [dK hn hok, h]; rfl
  obtain ⟨t, ht⟩ := lH hok ha
  refine ⟨fun a => n - t a, fun a b hab => ?_⟩
  have h1 := (dI hok hab).1
  have h2 := (ht a h1).2 b hab
  have h3 := (ht a h1).1
  show n - t a < n - t b
  omega
 ·rintro ⟨t, ht⟩
  have way : ∀ a b, Way l a b → t a < t b := fun a b h => by
   induction h with
   | one h => exact ht _ _ h
   | more _ h ih => exact Nat.lt_trans ih (ht _ _ h)
  cases h : acyB n l with
  | true => rw [dK hn hok] at h; simpa using h
  | false =>
   obtain ⟨c, hc⟩ := fC hn hok (List.range n) (fun _ => 0) (by intro b hb; have := List.mem_range.1 hb; omega) (by simp) (by simp) h
   exact absurd (way c c hc) (Nat.lt_irrefl _)
section
variable {x : Ex}
theorem Ex.rel.ev (h : x.rel) {n : Nat} (hn : n < x.evs.length) : evOk x.evs (addrsTo x.evs) n = true := by
 have h2 := (vO h.check).2.1
 unfold evsTo at h2
 exact List.all_eq_true.1 h2 n (List.mem_range.2 hn)
theorem Ex.rel.kinds (h : x.rel) {n : Nat} (hn : n < x.evs.length) : let e := x.evs.getD n default
  ((e.kind = 5 ∧ n < (addrsTo x.evs).length ∧ e.addr = (addrsTo x.evs).getD n 0 ∧ e.hart = -1) ∨ (¬ e.kind = 5 ∧ (addrsTo x.evs).length ≤ n ∧ 0 ≤ e.hart ∧ (n = (addrsTo x.evs).length ∨ (x.evs.getD (n - 1) default).hart ≤ e.hart))) ∧ (e.kind = 1 ∨ e.kind = 2 ∨ e.kind = 3 ∨ e.kind = 4 ∨ e.kind = 5) := by
 have h1 := h.ev hn
 intro e
 unfold evOk at h1
 simp only [Bool.and_eq_true] at h1
 obtain ⟨hp, h2⟩ := h1
 unfold evPre at hp
 simp only [Bool.and_eq_true] at hp
 have hb : e.bareB = true := hp.1.1.1.1
 constructor
 ·split at h2
  ·rename_i hlt
   simp only [Bool.and_eq_true, beq_iff_eq] at h2
   refine Or.inl ⟨h2.1, hlt, h2.2, ?_⟩
   unfold Ev.bareB at hb
   rw [if_pos h2.1] at hb
   simp only [Bool.and_eq_true, beq_iff_eq] at hb
   exact hb.1.1.1.1
  ·rename_i hge
   simp only [Bool.and_eq_true, bne_iff_ne, ne_eq, decide_eq_true_eq, Bool.or_eq_true, beq_iff_eq] at h2
   exact Or.inr ⟨h2.1.1.1, by omega, h2.1.1.2, h2.2.imp (fun h => by omega) fun h => h⟩
 ·unfold Ev.bareB at hb
  by_cases k5 : e.kind = 5
  ·exact Or.inr (Or.inr (Or.inr (Or.inr k5)))
  rw [if_neg k5] at hb
  by_cases k1 : e.kind = 1
  ·exact Or.inl k1
  rw [if_neg k1] at hb
  by_cases k2 : e.kind = 2
  ·exact Or.inr (Or.inl k2)
  rw [if_neg k2] at hb
  by_cases k3 : e.kind = 3
  ·exact Or.inr (Or.inr (Or.inl k3))
  rw [if_neg k3] at hb
  by_cases k4 : e.kind = 4
  ·exact Or.inr (Or.inr (Or.inr (Or.inl k4)))
  rw [if_neg k4] at hb
  cases hb
theorem zK {e : Ev} : e.stB = true ↔ e.kind = 2 ∨ e.kind = 3 ∨ e.kind = 5 := by
 unfold Ev.stB
 simp only [Bool.or_eq_true, beq_iff_eq, or_assoc]
theorem iQ {e : Ev} : e.ldB = true ↔ e.kind = 1 ∨ e.kind = 3 := by
 unfold Ev.ldB
 simp only [Bool.or_eq_true, beq_iff_eq]
theorem Ex.rel.rise (h : x.rel) {a : Nat} : ∀ {b : Nat}, a ≤ b → b < x.evs.length → (addrsTo x.evs).length ≤ a → (x.evs.getD a default).hart ≤ (x.evs.getD b default).hart := fun {b} hab hb ha => by
  induction b with
  | zero => have : a = 0 := by omega
            subst this; exact Int.le_refl _
  | succ b ih =>
    by_cases e : a = b + 1
    · subst e; exact Int.le_refl _
    · have h1 := ih (by omega) (by omega)
      have h2 := (h.kinds hb).1
      rcases h2 with ⟨_, h2, _⟩ | ⟨_, _, _, h2⟩
      · omega
      · rcases h2 with h2 | h2
        · omega
        · rw [Nat.add_sub_cancel] at h2
          exact Int.le_trans h1 h2
def evn (x : Ex) : Evn where
 n := x.evs.length
 st a := (x.evs.getD a default).stB = true
 ld a := (x.evs.getD a default).ldB = true
 nf a := ¬ (x.evs.getD a default).kind = 4
 bg a := (x.evs.getD a default).kind = 5
 addr a := (x.evs.getD a default).addr
 hart a := (x.evs.getD a default).hart
 src a := (x.from_.getD a 0).toNat
 co a b := a < x.evs.length ∧ b < x.evs.length ∧ isCoB x a b = true
 ppo a b := a < x.evs.length ∧ b < x.evs.length ∧ isPpo x a b = true
theorem nS {a b : Nat} (hp : pairOf x a b = true) {r : Int} (hr : r ∈ rs13) (h : ruleR x r a b = true) : isPpo x a b = true := by
 unfold isPpo
 exact List.any_eq_true.2 ⟨r, hr, by unfold ruleB; rw [hp, h]; rfl⟩
theorem kK {a b : Nat} (h1 : a < b) (h2 : 0 ≤ (x.evs.getD a default).hart) (h3 : (x.evs.getD a default).hart = (x.evs.getD b default).hart) (h4 : ¬ (x.evs.getD a default).kind = 4) (h5 : ¬ (x.evs.getD b default).kind = 4) : pairOf x a b = true := by
 unfold pairOf accB
 rw [decide_eq_true h1, decide_eq_true h2, decide_eq_true h3, decide_eq_false h4, decide_eq_false h5, decide_eq_true (by omega)]
 rfl
theorem iW (h : x.rel) : (evn x).Ok where
 src b hb hl := by
  obtain ⟨u1, u2⟩ := eG (vO h.check).2.2.1 hb.1
  obtain ⟨g1, g2, g3, g4⟩ := u2 hl
  have g0 := u1.1 hl
  refine ⟨⟨show (x.from_.getD b 0).toNat < x.evs.length by omega, fun hk => ?_⟩, g3, g4, fun e => ?_⟩
  ·rcases zK.1 g3 with e | e | e <;> (rw [show (x.evs.getD (x.from_.getD b 0).toNat default).kind = 4 from hk] at e; cases e)
  ·have e : (x.from_.getD b 0).toNat = b := e
   omega
 co a b hab := by
  obtain ⟨_, _, h1⟩ := hab
  unfold isCoB at h1
  simp only [Bool.and_eq_true, decide_eq_true_eq] at h1
  exact ⟨h1.1.1.1, h1.1.1.2, h1.1.2, fun e => by subst e; omega⟩
 tot a b ha hb sa sb hd hne := by
  rcases rO (vO h.check).2.2.2 ha.1 hb.1 hne ⟨sa, sb, hd⟩ with h1 | h1
  ·exact Or.inl ⟨ha.1, hb.1, by rw [← aU h.check ha.1 hb.1]; exact decide_eq_true h1⟩
  ·exact Or.inr ⟨hb.1, ha.1, by rw [← aU h.check hb.1 ha.1]; exact decide_eq_true h1⟩
 trans a b c hab hbc := by
  obtain ⟨a1, a2, h1⟩ := hab
  obtain ⟨b1, b2, h2⟩ := hbc
  refine ⟨a1, b2, ?_⟩
  unfold isCoB at h1 h2 ⊢
  simp only [Bool.and_eq_true, decide_eq_true_eq] at h1 h2 ⊢
  exact ⟨⟨⟨h1.1.1.1, h2.1.1.2⟩, h1.1.2.trans h2.1.2⟩, by omega⟩
 ppo a b hab := by
  obtain ⟨a1, a2, h1⟩ := hab
  unfold isPpo at h1
  obtain ⟨r, _, h1⟩ := List.any_eq_true.1 h1
  unfold ruleB at h1
  simp only [Bool.and_eq_true] at h1
  have h2 := h1.1
  unfold pairOf accB at h2
  simp only [Bool.and_eq_true, decide_eq_true_eq, Bool.not_eq_true', decide_eq_false_iff_not] at h2
  exact ⟨⟨h2.1.2, h2.1.1.1.1, h2.2⟩, ⟨a1, h2.1.1.1.2⟩, ⟨a2, h2.1.1.2.2⟩⟩
 r1 a b ha hb hp hd sb := by
  refine ⟨ha.1, hb.1, nS (r := 1) (kK hp.1 hp.2.1 hp.2.2 ha.2 hb.2) (by decide) ?_⟩
  unfold ruleR oneB
  rw [if_pos rfl, show (x.evs.getD b default).stB = true from sb]
  exact decide_eq_true hd
 r2 a b ha hb hp hd la lb hs := by
  by_cases hm : someB a b (fun n => (x.evs.getD n default).stB && decide ((x.evs.getD n default).addr = (x.evs.getD a default).addr)) = true
  ·right
   unfold someB at hm
   obtain ⟨m, hm1, hm2⟩ := List.any_eq_true.1 hm
   simp only [Bool.and_eq_true, decide_eq_true_eq] at hm2
   have hmb := List.mem_range.1 hm1
   have hmn : m < x.evs.length := Nat.lt_trans hmb hb.1
   have hk : (addrsTo x.evs).length ≤ a := by
    rcases (h.kinds ha.1).1 with ⟨h1, h2, h3, h4⟩ | ⟨_, h2, _⟩
    ·have h0 : 0 ≤ (x.evs.getD a default).hart := hp.2.1
     omega
    ·exact h2
   have r1 := h.rise (a := a) (b := m) (by omega) hmn hk
   have r2 := h.rise (a := m) (b := b) (by omega) hb.1 (by omega)
   have h0 : 0 ≤ (x.evs.getD a default).hart := hp.2.1
   have h3 : (x.evs.getD a default).hart = (x.evs.getD b default).hart := hp.2.2
   refine ⟨m, ⟨hmn, fun hk4 => ?_⟩, hm2.2.1, hm2.2.2, ⟨hm2.1, h0, show (x.evs.getD a default).hart = (x.evs.getD m default).hart by omega⟩, ⟨hmb, show 0 ≤ (x.evs.getD m default).hart by omega, show (x.evs.getD m default).hart = (x.evs.getD b default).hart by omega⟩⟩
   rcases zK.1 hm2.2.1 with e | e | e <;> (rw [show (x.evs.getD m default).kind = 4 from hk4] at e; cases e)
  ·left
   refine ⟨ha.1, hb.1, nS (r := 2) (kK hp.1 hp.2.1 hp.2.2 ha.2 hb.2) (by decide) ?_⟩
   unfold ruleR
   rw [if_neg (by decide), if_pos rfl]
   unfold rule2 oneB
   have hf : ¬ x.from_.getD a 0 = x.from_.getD b 0 := fun e => hs (by show (x.from_.getD a 0).toNat = (x.from_.getD b 0).toNat; rw [e])
   rw [show (x.evs.getD a default).ldB = true from la, show (x.evs.getD b default).ldB = true from lb, decide_eq_true (show (x.evs.getD a default).addr = (x.evs.getD b default).addr from hd), decide_eq_false hf, Bool.eq_false_iff.2 hm]
   rfl
 kind a ha := by
  have hk := (h.kinds ha.1).2
  have h4 : ¬ (x.evs.getD a default).kind = 4 := ha.2
  rcases hk with e | e | e | e | e
  ·exact Or.inr (iQ.2 (Or.inl e))
  ·exact Or.inl (zK.2 (Or.inl e))
  ·exact Or.inl (zK.2 (Or.inr (Or.inl e)))
  ·exact (h4 e).elim
  ·exact Or.inl (zK.2 (Or.inr (Or.inr e)))
 beg b hb hbg := by
  have hk5 : (x.evs.getD b default).kind = 5 := hbg
  rcases (h.kinds hb.1).1 with ⟨h1, h2, h3, h4⟩ | ⟨h1, _⟩
  rotate_left
  ·exact (h1 hbg).elim
  refine ⟨show (x.evs.getD b default).hart < 0 by omega, fun hl => ?_, zK.2 (Or.inr (Or.inr hk5)), fun a hab => ?_⟩
  ·rcases iQ.1 hl with e | e <;> (rw [hk5] at e; cases e)
  ·obtain ⟨ha, hb', hco⟩ := hab
   rw [← aU h.check ha hb'] at hco
   have ho := (vO h.check).2.2.2
   obtain ⟨r, i, j, hr, hij, hj, ei, ej⟩ := bY (of_decide_eq_true hco)
   have hrow := aO ho hr hj ej
   have hlen : x.order.length = (addrsTo x.evs).length := by
    unfold orderB at ho
    simp only [Bool.and_eq_true, decide_eq_true_eq] at ho
    exact ho.1
   have e1 : r = b := dU ho hr (by omega) (hrow.2.2.symm.trans h3)
   subst e1
   have h0 : (x.order.getD r default).2.getD 0 0 = (r : Int) := by
    unfold orderB rowsTo at ho
    simp only [Bool.and_eq_true] at ho
    have := List.all_eq_true.1 ho.2 r (List.mem_range.2 hr)
    unfold rowOk at this
    simp only [Bool.and_eq_true, Bool.not_eq_true', bne_eq_false_iff_eq] at this
    exact this.1.2
   have := dW (zD ho hr) hj (show 0 < _ by omega) (ej.trans h0.symm)
   omega
 hart b hb hbg := by
  rcases (h.kinds hb.1).1 with ⟨h1, _⟩ | ⟨_, _, h3, _⟩
  ·exact (hbg h1).elim
  ·exact h3
theorem eT {n : Nat} {f : Nat → Nat → Bool} {a b : Nat} : Arr (refPairs n f) a b ↔ a < n ∧ b < n ∧ f a b = true := by
 unfold Arr
 constructor
 ·rintro ⟨q, hq, h1, h2⟩
  obtain ⟨c, d, h3, h4, h5, rfl⟩ := vH.1 hq
  dsimp only at h1 h2
  have e1 : c = a := by omega
  have e2 : d = b := by omega
  subst e1 e2
  exact ⟨h3, h4, h5⟩
 ·rintro ⟨h1, h2, h3⟩
  exact ⟨_, vH.2 ⟨a, b, h1, h2, h3, rfl⟩, rfl, rfl⟩
theorem mQ {r s : Nat → Nat → Prop} (h : ∀ a b, r a b ↔ s a b) : Evn.Up r ↔ Evn.Up s :=
 ⟨fun ⟨t, ht⟩ => ⟨t, fun a b hs => ht a b ((h a b).2 hs)⟩, fun ⟨t, ht⟩ => ⟨t, fun a b hs => ht a b ((h a b).1 hs)⟩⟩
theorem jW {e : Ev} (h : e.stB = true) : ¬ e.kind = 4 := fun hk => by
 rcases zK.1 h with e1 | e1 | e1 <;> (rw [hk] at e1; cases e1)
theorem pT {e : Ev} (h : e.ldB = true) : ¬ e.kind = 4 := fun hk => by
 rcases iQ.1 h with e1 | e1 <;> (rw [hk] at e1; cases e1)
theorem kX {a b : Nat} (h : isCoB x a b = true) : (x.evs.getD a default).stB = true ∧ (x.evs.getD b default).stB = true := by
 unfold isCoB at h
 simp only [Bool.and_eq_true] at h
 exact h.1.1
theorem mB (h : x.rel) {a b : Nat} (ha : a < x.evs.length) (hb : b < x.evs.length) : isFrB x a b = true ↔ (evn x).fr a b := by
 unfold isFrB Evn.fr
 simp only [Bool.and_eq_true, Bool.not_eq_true', beq_eq_false_iff_ne]
 constructor
 ·rintro ⟨⟨h1, h2⟩, h3⟩
  refine ⟨h1, h2, ?_, hb, h3⟩
  have := (h.src a ha h2)
  show (x.from_.getD a 0).toNat < x.evs.length
  omega
 ·rintro ⟨h1, h2, h3⟩
  exact ⟨⟨h1, h2⟩, h3.2.2⟩
theorem lS (h : x.rel) {a b : Nat} (hb : b < x.evs.length) : isRf x a b = true ↔ (evn x).rf a b := by
 unfold isRf Evn.rf
 simp only [Bool.and_eq_true, decide_eq_true_eq]
 constructor
 ·rintro ⟨h1, h2⟩
  refine ⟨h1, ?_⟩
  show (x.from_.getD b 0).toNat = a
  omega
 ·rintro ⟨h1, h2⟩
  have h2 : (x.from_.getD b 0).toNat = a := h2
  have := (h.src b hb h1).1
  exact ⟨h1, by omega⟩
theorem glo_iff (h : x.rel) (a b : Nat) : Arr (gloL x) a b ↔ (evn x).glo a b := by
 unfold gloL
 rw [eT]
 constructor
 ·rintro ⟨ha, hb, hg⟩
  unfold globB glob at hg
  simp only [Bool.or_eq_true, Bool.and_eq_true, Bool.not_eq_true', decide_eq_false_iff_not] at hg
  rcases hg with ((hg | hg) | hg) | ⟨hg, hh⟩
  ·have := (iW h).ppo a b ⟨ha, hb, hg⟩
   exact ⟨this.2.1, this.2.2, Or.inl ⟨ha, hb, hg⟩⟩
  ·exact ⟨⟨ha, jW (kX hg).1⟩, ⟨hb, jW (kX hg).2⟩, Or.inr (Or.inl ⟨ha, hb, hg⟩)⟩
  ·have hf := (mB h ha hb).1 hg
   exact ⟨⟨ha, pT hf.2.1⟩, ⟨hb, jW (kX hf.2.2.2.2).2⟩, Or.inr (Or.inr (Or.inl hf))⟩
  ·have hr := (lS h hb).1 hg
   have hib : (evn x).is b := ⟨hb, pT hr.1⟩
   have hs := (iW h).src b hib hr.1
   rw [hr.2] at hs
   exact ⟨hs.1, hib, Or.inr (Or.inr (Or.inr ⟨hr, hh⟩))⟩
 ·rintro ⟨ha, hb, hg⟩
  refine ⟨ha.1, hb.1, ?_⟩
  unfold globB glob
  simp only [Bool.or_eq_true, Bool.and_eq_true, Bool.not_eq_true', decide_eq_false_iff_not]
  rcases hg with hg | hg | hg | ⟨hg, hh⟩
  ·exact Or.inl (Or.inl (Or.inl hg.2.2))
  ·exact Or.inl (Or.inl (Or.inr hg.2.2))
  ·exact Or.inl (Or.inr ((mB h ha.1 hb.1).2 hg))
  ·exact Or.inr ⟨(lS h hb.1).2 hg, hh⟩
theorem coh_iff (h : x.rel) (a b : Nat) : Arr (rcohL x) a b ↔ (evn x).coh a b := by
 have split : Arr (rcohL x) a b ↔ Arr (refPairs x.evs.length (isRf x)) a b ∨ Arr (refPairs x.evs.length (isCoB x)) a b ∨ Arr (refPairs x.evs.length (isFrB x)) a b ∨ (Arr (refPairs x.evs.length (isPo x)) a b ∧ cohG x ((a : Int), (b : Int)) = true) := by
  unfold Arr rcohL cohL
  simp only [List.mem_append, List.mem_filter]
  constructor
  ·rintro ⟨q, ((hq | hq) | hq) | ⟨hq, hc⟩, h1, h2⟩
   ·exact Or.inl ⟨q, hq, h1, h2⟩
   ·exact Or.inr (Or.inl ⟨q, hq, h1, h2⟩)
   ·exact Or.inr (Or.inr (Or.inl ⟨q, hq, h1, h2⟩))
   ·refine Or.inr (Or.inr (Or.inr ⟨⟨q, hq, h1, h2⟩, ?_⟩))
    rw [← h1, ← h2]; exact hc
  ·rintro (⟨q, hq, h1, h2⟩ | ⟨q, hq, h1, h2⟩ | ⟨q, hq, h1, h2⟩ | ⟨⟨q, hq, h1, h2⟩, hc⟩)
   ·exact ⟨q, Or.inl (Or.inl (Or.inl hq)), h1, h2⟩
   ·exact ⟨q, Or.inl (Or.inl (Or.inr hq)), h1, h2⟩
   ·exact ⟨q, Or.inl (Or.inr hq), h1, h2⟩
   ·refine ⟨q, Or.inr ⟨hq, ?_⟩, h1, h2⟩
    rw [← h1, ← h2] at hc; exact hc
 rw [split, eT, eT, eT, eT]
 unfold cohG
 simp only [Int.toNat_natCast, Bool.and_eq_true, Bool.not_eq_true', decide_eq_false_iff_not, decide_eq_true_eq]
 constructor
 ·rintro (⟨ha, hb, hg⟩ | ⟨ha, hb, hg⟩ | ⟨ha, hb, hg⟩ | ⟨⟨ha, hb, hg⟩, ⟨g1, g2⟩, g3⟩)
  ·have hr := (lS h hb).1 hg
   have hib : (evn x).is b := ⟨hb, pT hr.1⟩
   have hs := (iW h).src b hib hr.1
   rw [hr.2] at hs
   exact ⟨hs.1, hib, Or.inl hr⟩
  ·exact ⟨⟨ha, jW (kX hg).1⟩, ⟨hb, jW (kX hg).2⟩, Or.inr (Or.inl ⟨ha, hb, hg⟩)⟩
  ·have hf := (mB h ha hb).1 hg
   exact ⟨⟨ha, pT hf.2.1⟩, ⟨hb, jW (kX hf.2.2.2.2).2⟩, Or.inr (Or.inr (Or.inl hf))⟩
  ·unfold isPo at hg
   simp only [Bool.and_eq_true, decide_eq_true_eq] at hg
   exact ⟨⟨ha, g1⟩, ⟨hb, g2⟩, Or.inr (Or.inr (Or.inr ⟨⟨hg.1.1, hg.1.2, hg.2⟩, g3⟩))⟩
 ·rintro ⟨ha, hb, hg⟩
  rcases hg with hg | hg | hg | ⟨hg, hd⟩
  ·exact Or.inl ⟨ha.1, hb.1, (lS h hb.1).2 hg⟩
  ·exact Or.inr (Or.inl ⟨ha.1, hb.1, hg.2.2⟩)
  ·exact Or.inr (Or.inr (Or.inl ⟨ha.1, hb.1, (mB h ha.1 hb.1).2 hg⟩))
  ·refine Or.inr (Or.inr (Or.inr ⟨⟨ha.1, hb.1, ?_⟩, ⟨ha.2, hb.2⟩, hd⟩))
   unfold isPo
   rw [decide_eq_true hg.1, decide_eq_true (show 0 ≤ (x.evs.getD a default).hart from hg.2.1), decide_eq_true (show (x.evs.getD a default).hart = (x.evs.getD b default).hart from hg.2.2)]
   rfl
def allE (x : Ex) : List Nat := (List.range x.evs.length).filter fun a => !decide ((x.evs.getD a default).kind = 4)
def begE (x : Ex) : List Nat := (List.range x.evs.length).filter fun a => decide ((x.evs.getD a default).kind = 5)
theorem axioms_law (h : x.rel) {R : List Nat → Bool} (hR : ∀ o, o.Nodup → (∀ a, a ∈ o ↔ (evn x).is a) → (R o = true ↔ (evn x).right o)) :
  tryB R (allE x) ((allE x).length - (begE x).length) (begE x) = (!circleB x.evs.length (rcohL x) && !circleB x.evs.length (gloL x)) := by
 have hall : ∀ a, a ∈ allE x ↔ (evn x).is a := fun a => by
  unfold allE Evn.is evn
  simp only [List.mem_filter, List.mem_range, Bool.not_eq_true', decide_eq_false_iff_not]
 have hbeg : ∀ a, a ∈ begE x ↔ (evn x).is a ∧ (evn x).bg a := fun a => by
  unfold begE Evn.is evn
  simp only [List.mem_filter, List.mem_range, decide_eq_true_eq]
  exact ⟨fun ⟨h1, h2⟩ => ⟨⟨h1, by rw [h2]; decide⟩, h2⟩, fun ⟨⟨h1, _⟩, h2⟩ => ⟨h1, h2⟩⟩
 rw [Bool.eq_iff_iff, Evn.main (iW h) hbeg hall (List.nodup_range.filter _) (List.nodup_range.filter _) hR, Bool.and_eq_true, Bool.not_eq_true', Bool.not_eq_true', dP h.len (kE x), dP h.len (nV x)]
 rw [mQ (coh_iff h), mQ (glo_iff h)]
end
set_option maxRecDepth 100000
def canB (x : Ex) (l : List Int) (n k : Nat) : Bool := !decide (l.getD k 0 = (n : Int)) && (x.evs.getD (l.getD k 0).toNat default).stB && decide ((x.evs.getD (l.getD k 0).toNat default).addr = (x.evs.getD n default).addr) && (decide ((k : Int) < atI l n) || isPo x (l.getD k 0).toNat n)
def seesTo (x : Ex) (l : List Int) (n : Nat) : Nat → Int
 | 0 => -1
 | k + 1 => if canB x l n k = true then l.getD k 0 else seesTo x l n k
def InEv (x : Ex) (l : List Int) : Prop := ∀ k, k < l.length → 0 ≤ l.getD k 0 ∧ l.getD k 0 < x.evs.length
set_option maxHeartbeats 4000000 in
theorem sees_p (x : Ex) (hx : x.evs.length ≤ 65536) (l : List Int) (hl : l.length ≤ 65536) (hi : InEv x l) (n : Nat) (hn : n < x.evs.length) : Pure E.P 73 [exOV x, .d (ints l), .int .i64 n] (.int .i64 (seesTo x l n l.length)) := by
 have f3 : Frozen 3 := ⟨trivial⟩
 have hat := jP l n (by omega)
 refine fnA Tryz.func73 Tryz.ntmps73 ?_
 refine uB (aoR fun _ => ?_)
 refine q34 ?_; refine q12 (uC (uA (uB (aoR fun _ => ?_))))
 iterate 2 refine q11 ?_
 apply uQ; exact rfl; exact .fn _ _ _; exact rfl; (exact hat)
 iterate 2 refine q12 ?_
 refine uC (uA ?_)
 iterate 2 refine uB ?_
 refine aoR fun _ => ?_; refine q12 (uC (uA (uG ?_)))
 rotate_left
 refine uZ (X := Nat) (fun k => tmL [(1, .d (ints l)), (2, .int .i64 n), (3, .d (.pt (exRow x) 0)), (7, .int .i64 (atI l n)), (8, .int .i64 (seesTo x l n k)), (9, .int .i64 k)]) (fun _ => stL []) (fun k => k ≤ l.length) (fun k => l.length - k) 0 (Nat.zero_le _) leP leP ?_
 intro k hk
 by_cases hlt : k < l.length
 ·have hb := hi k hlt
  have hpo : Pure E.P 44 [exOV x, .int .i64 (l.getD k 0), .int .i64 n] (.bool (isPo x (l.getD k 0).toNat n)) := by
   have h := rL x hx (l.getD k 0).toNat n (by omega) hn
   rw [Int.toNat_of_nonneg hb.1] at h
   exact h
  have hb1 : 0 ≤ l.getD (k : Int).toNat 0 ∧ l.getD (k : Int).toNat 0 < x.evs.length := hb
  iterate 2 refine uB ?_
  refine aoR fun _ => ?_
  iterate 2 refine q11 ?_
  refine q13 ?_; refine q37 (uC (uA ?_)); refine cnd ?_ ?_
  refine uK fun _ => ?_; try (exfalso; omega)
  refine uF (uA (uB (uG (uB (aoR fun _ => ?_)))))
  iterate 2 refine q11 ?_
  refine q17 ?_; refine q23 ?_; refine q12 (uC (uA (uB ?_)))
  refine vB (E := E) ?_ (fun _ => ?_); exact rfl
  iterate 2 refine q38 ?_
  apply oR; exact rfl; exact rfl
  refine q38 ?_
  apply dpT; exact rfl
  intro hc_; refine q8
  apply dpT; exact rfl
  intro hc_; refine q6
  apply dpT; exact rfl
  intro hc_; refine q1
  apply dpT; exact rfl
  intro hc_
  have hp_ := hc_; try simp only [nrm] at hp_
  refine q5
  apply dpT; exact rfl
  intro hc_; refine q47
  apply dpT; exact rfl
  intro hc_
  have hp_ := hc_; try simp only [nrm] at hp_
  apply vK; (exact EvM.plain rfl rfl); exact .fn _ _ _; exact wD; (exact wP _)
  refine q9 ?_; refine q38 ?_
  apply dpT; exact rfl
  intro hc_; refine q8
  apply dpT; exact rfl
  intro hc_; refine q6
  apply dpT; exact rfl
  intro hc_; refine q1
  apply dpT; exact rfl
  intro hc_
  have hp_ := hc_; try simp only [nrm] at hp_
  refine q5
  apply dpT; exact rfl
  intro hc_; refine q8
  apply dpT; exact rfl
  intro hc_; refine q6
  apply dpT; exact rfl
  intro hc_; refine q8
  apply dpT; exact rfl
  intro hc_; refine q6
  apply dpT; exact rfl
  intro hc_; refine q1
  apply dpT; exact rfl
  intro hc_
  have hp_ := hc_; try simp only [nrm] at hp_
  refine q5
  apply dpT; exact rfl
  intro hc_; refine q8
  apply dpT; exact rfl
  intro hc_; refine q6
  apply dpT; exact rfl
  intro hc_; refine q7; refine q9 ?_; refine q38 ?_
  apply dpT; exact rfl
  intro hc_; refine q1
  apply dpT; exact rfl
  intro hc_; refine q1
  apply dpT; exact rfl
  intro hc_; refine q22
  apply dpT; exact rfl
  intro hc_; refine q1
  apply xI; exact rfl; exact rfl
  intro hc_; refine q47
  apply xI; exact rfl; exact rfl
  intro hc_; refine q1
  apply xI; exact rfl; exact rfl
  intro hc_; refine q1
  apply xI; exact rfl; exact rfl
  intro hc_
  have hp_ := hc_; try simp only [nrm] at hp_
  apply vK; (exact EvM.plain rfl rfl); exact .fn _ _ _; exact wD; (exact hpo)
  apply dpT; exact rfl
  intro hc_; refine q24; refine q9 ?_
  refine vX ?_ ?_; (first | ((try dsimp only [wkeys]); decide +kernel) | exact rfl)
  refine uA ?_; refine cnd ?_ ?_
  iterate 3 refine xH ?_
  refine wR (fun _ => ?_); (try (exfalso; omega))
  refine xB (fun _ => ?_)
  refine uK fun _ => ?_; try (exfalso; omega)
  refine wZ (fun hc_ => ?_); (try simp only [nrm] at hc_)
  refine aoR fun _ => ?_
  refine q11 ?_; refine q12 (uC ?_); refine vJ ?_; refine uA (aoR fun _ => ?_)
  refine q11 ?_; refine q36 ?_; refine q12 (uC (uA ?_)); rotate_left
  refine wS (fun hc_ => ?_); (try simp only [nrm] at hc_)
  refine uF ?_; refine vJ ?_; refine uA (aoR fun _ => ?_)
  refine q11 ?_; refine q36 ?_; refine q12 (uC (uA ?_)); rotate_left
  refine uL fun _ => ?_; try (exfalso; omega)
  ·rename_i n0 n1 n2 _ _
   have hy : canB x l n k = true := by
    unfold canB
    rw [decide_eq_false (show ¬ l.getD k 0 = (n : Int) from n0), show (x.evs.getD (l.getD k 0).toNat default).stB = true from n1, decide_eq_true (show (x.evs.getD (l.getD k 0).toNat default).addr = (x.evs.getD n default).addr from n2)]
    simpa using hc_
   refine vI (k + 1) (by omega) (by omega) (by repeat' (first | exact vY _ | exact vS _ | refine uP rfl ?_ | refine vN rfl ?_ | (refine vD rfl ?_ ?_; ((rw [seesTo, if_pos hy]; rfl))) | (refine vA rfl ?_ ?_; ((rw [seesTo, if_pos hy]; rfl))) | (refine vG rfl ?_ ?_; ((rw [seesTo, if_pos hy]; rfl))))) leP
  ·have hy : ¬ canB x l n k = true := by
    unfold canB
    simp only [Bool.and_eq_true, Bool.or_eq_true, Bool.not_eq_true', decide_eq_true_eq, decide_eq_false_iff_not]
    rintro ⟨⟨⟨g1, g2⟩, g3⟩, g4⟩
    rcases hc_ with ((h | h) | h) | ⟨h, h'⟩
    ·exact g1 h
    ·have h : (x.evs.getD (l.getD k 0).toNat default).stB = false := h
     rw [h] at g2; exact absurd g2 (by decide)
    ·exact h g3
    ·rcases g4 with g4 | g4
     ·omega
     ·rw [h'] at g4; exact absurd g4 (by decide)
   refine vI (k + 1) (by omega) (by omega) (by repeat' (first | exact vY _ | exact vS _ | refine uP rfl ?_ | refine vN rfl ?_ | (refine vD rfl ?_ ?_; ((rw [seesTo, if_neg hy]))) | (refine vA rfl ?_ ?_; ((rw [seesTo, if_neg hy]))) | (refine vG rfl ?_ ?_; ((rw [seesTo, if_neg hy]))))) leP
 ·have e : k = l.length := by omega
  subst e
  iterate 2 refine uB ?_
  refine aoR fun _ => ?_
  iterate 2 refine q11 ?_
  refine q13 ?_; refine q37 (uC (uA ?_)); refine cnd ?_ ?_
  refine uK fun _ => ?_; try (exfalso; omega)
  refine uL fun _ => ?_; try (exfalso; omega)
  refine uS ?_
  iterate 2 refine vE ?_
  refine vT ?_; refine uA (uB (aoR fun _ => ?_))
  refine q11 ?_; refine q12 (uC (uA ?_)); refine uH ?_; rotate_left
  exact wK rfl rfl
def aheadB (x : Ex) (l : List Int) (i k : Nat) : Bool := isPpo x (l.getD k 0).toNat (l.getD i 0).toNat || isCoB x (l.getD k 0).toNat (l.getD i 0).toNat
def seeB (x : Ex) (l : List Int) (i : Nat) : Bool := (x.evs.getD (l.getD i 0).toNat default).ldB && !decide (seesTo x l (l.getD i 0).toNat l.length = x.from_.getD (l.getD i 0).toNat 0)
def rightAt (x : Ex) (l : List Int) (i : Nat) : Bool := ((List.range l.length).all fun k => decide (k ≤ i) || !aheadB x l i k) && !seeB x l i
def rightB (x : Ex) (l : List Int) : Bool := (List.range l.length).all fun i => rightAt x l i
theorem kC {x : Ex} {l : List Int} {i : Nat} (hi : i < l.length) (h : rightAt x l i = false) : rightB x l = false := by
 refine Bool.eq_false_iff.2 fun h' => ?_
 have := List.all_eq_true.1 h' i (List.mem_range.2 hi)
 rw [h] at this; cases this
set_option maxHeartbeats 4000000 in
theorem right_p (x : Ex) (h : x.rel) (hk : x.rok) (l : List Int) (hl : l.length ≤ 65536) (hi : InEv x l) : Pure E.P 50 [exOV x, .d (ints l)] (.bool (rightB x l)) := by
 have f2 : Frozen 2 := ⟨trivial⟩
 have hx : x.evs.length ≤ 65536 := by have := h.len; omega
 have hlf := h.from_
 refine fnA Tryz.func50 Tryz.ntmps50 ?_
 refine uB (aoR fun _ => ?_)
 refine q34 ?_; refine q12 (uC (uA ?_))
 iterate 2 refine uB ?_
 refine aoR fun _ => ?_; refine q12 (uC (uA (uG ?_)))
 rotate_left
 refine uZ (X := Nat) (fun i => tmL [(1, .d (ints l)), (2, .d (.pt (exRow x) 0)), (5, .int .i64 i)]) (fun _ => stL []) (fun i => i ≤ l.length ∧ ∀ j, j < i → rightAt x l j = true) (fun i => l.length - i) 0 ⟨Nat.zero_le _, fun j hj => by omega⟩ leP leP ?_
 rintro i ⟨hi1, hall⟩
 by_cases hlt : i < l.length
 rotate_left
 ·iterate 2 refine uB ?_
  refine aoR fun _ => ?_
  iterate 2 refine q11 ?_
  refine q13 ?_; refine q37 (uC (uA ?_)); refine cnd ?_ ?_
  refine uK fun _ => ?_; try (exfalso; omega)
  refine uL fun _ => ?_; try (exfalso; omega)
  refine uS ?_
  iterate 2 refine vE ?_
  refine vT ?_; refine uA (uB (aoR fun _ => ?_))
  refine q12 (uC (uA ?_)); refine uH ?_; rotate_left
  refine uX rfl ?_
  unfold rightB
  refine (List.all_eq_true.2 fun j hj => hall j ?_).symm
  have := List.mem_range.1 hj
  omega
 have hb := hi i hlt
 have hb1 : 0 ≤ l.getD (i : Int).toNat 0 ∧ l.getD (i : Int).toNat 0 < x.evs.length := hb
 iterate 2 refine uB ?_
 refine aoR fun _ => ?_
 iterate 2 refine q11 ?_
 refine q13 ?_; refine q37 (uC (uA ?_)); refine cnd ?_ ?_
 refine uK fun _ => ?_; try (exfalso; omega)
 refine uF (uA (uB (uG ?_)))
 iterate 2 refine uB ?_
 refine aoR fun _ => ?_; refine q11 ?_; refine q36 ?_; refine q12 (uC (uA (uG ?_)))
 rotate_left
 refine uL fun _ => ?_; try (exfalso; omega)
 refine uZ (X := Nat) (fun k => tmL [(1, .d (ints l)), (2, .d (.pt (exRow x) 0)), (5, .int .i64 i), (6, .int .i64 k)]) (fun _ => stL []) (fun k => k ≤ l.length ∧ i < k ∧ ∀ j, i < j → j < k → aheadB x l i j = false) (fun k => l.length - k) (i + 1) ⟨by omega, by omega, fun j h1 h2 => by omega⟩ (by repeat' (first | exact vY _ | exact vS _ | refine uP rfl ?_ | refine vN rfl ?_ | (refine vD rfl ?_ ?_; (omega)) | (refine vA rfl ?_ ?_; (omega)) | (refine vG rfl ?_ ?_; (omega)))) leP ?_
 rintro k ⟨hk1, hik, hbad⟩
 by_cases hlt2 : k < l.length
 ·have hc := hi k hlt2
  have hc1 : 0 ≤ l.getD (k : Int).toNat 0 ∧ l.getD (k : Int).toNat 0 < x.evs.length := hc
  have u1 : Pure E.P 47 [exOV x, .int .i64 (l.getD k 0), .int .i64 (l.getD i 0)] (.bool (isPpo x (l.getD k 0).toNat (l.getD i 0).toNat)) := by
   have h := rppo_p x hk (l.getD k 0).toNat (l.getD i 0).toNat (by omega) (by omega)
   rw [Int.toNat_of_nonneg hb.1, Int.toNat_of_nonneg hc.1] at h
   exact h
  have u2 : Pure E.P 42 [exOV x, .int .i64 (l.getD k 0), .int .i64 (l.getD i 0)] (.bool (isCoB x (l.getD k 0).toNat (l.getD i 0).toNat)) := by
   have h := dV x hx h.ord h.rows (l.getD k 0).toNat (l.getD i 0).toNat (by omega) (by omega)
   rw [Int.toNat_of_nonneg hb.1, Int.toNat_of_nonneg hc.1] at h
   exact h
  iterate 2 refine uB ?_
  refine aoR fun _ => ?_
  iterate 2 refine q11 ?_
  refine q13 ?_; refine q37 (uC (uA ?_)); refine cnd ?_ ?_
  refine uK fun _ => ?_; try (exfalso; omega)
  refine uF (uA (uB (uG (uB ?_))))
  refine vB (E := E) ?_ (fun _ => ?_); exact rfl
  apply wC; exact rfl; exact rfl; exact rfl; exact Nat.le_of_ble_eq_true rfl
  iterate 2 refine q38 ?_
  refine q30 ?_; refine q50 ?_
  iterate 2 refine q38 ?_
  refine q30 ?_; refine q50 ?_
  apply xG; exact rfl; exact .fn _ _ _; exact rfl; (exact u1)
  refine q38 ?_
  apply dpF; exact rfl
  intro hc_; refine q47
  apply dpF; exact rfl
  intro hc_; refine q1
  apply dpF; exact rfl
  intro hc_; refine q1
  apply dpF; exact rfl
  intro hc_
  have hp_ := hc_; try simp only [nrm] at hp_
  refine q5
  apply dpF; exact rfl
  intro hc_; refine q6
  apply dpF; exact rfl
  intro hc_; refine q1
  apply dpF; exact rfl
  intro hc_; refine q1
  apply dpF; exact rfl
  intro hc_
  have hp_ := hc_; try simp only [nrm] at hp_
  refine q5
  apply dpF; exact rfl
  intro hc_; refine q6
  apply dpF; exact rfl
  intro hc_
  have hp_ := hc_; try simp only [nrm] at hp_
  apply vK; (exact EvM.plain rfl rfl); exact .fn _ _ _; exact wD; (exact u2)
  refine q25 ?_
  refine vX ?_ ?_; (first | ((try dsimp only [wkeys]); decide +kernel) | exact rfl)
  refine uA ?_; refine cnd ?_ ?_
  refine wZ (fun hc_ => ?_); (try simp only [nrm] at hc_)
  refine uB (aoR fun _ => ?_)
  refine q12 (uC (uA ?_)); refine uH ?_; refine vL ?_
  iterate 2 refine uO ?_
  refine vL ?_; refine uO ?_; refine vL ?_
  iterate 2 refine uO ?_
  refine vL ?_; refine uO ?_; rotate_left
  refine xC ?_
  iterate 2 (refine iT (fun _ => ?_))
  refine uF ?_; refine vJ ?_; refine uA (aoR fun _ => ?_)
  refine q11 ?_; refine q36 ?_; refine q12 (uC (uA ?_)); rotate_left
  refine uL fun _ => ?_; try (exfalso; omega)
  ·refine uX rfl ?_
   refine (kC hlt ?_).symm
   unfold rightAt
   have : ((List.range l.length).all fun k => decide (k ≤ i) || !aheadB x l i k) = false := by
    refine Bool.eq_false_iff.2 fun h' => ?_
    have h1 := List.all_eq_true.1 h' k (List.mem_range.2 hlt2)
    rw [decide_eq_false (by omega), show aheadB x l i k = true by unfold aheadB; simpa using hc_] at h1
    cases h1
   rw [this]; rfl
  ·have g1 : isPpo x (l.getD k 0).toNat (l.getD i 0).toNat = false := by assumption
   have g2 : isCoB x (l.getD k 0).toNat (l.getD i 0).toNat = false := by assumption
   refine vI (k + 1) ⟨by omega, by omega, fun j h1 h2 => ?_⟩ (by omega) leP leP
   rcases Nat.lt_or_ge j k with e | e
   ·exact hbad j h1 e
   ·have e : j = k := by omega
    rw [e]
    unfold aheadB
    rw [g1, g2]; rfl
 ·have e : k = l.length := by omega
  subst e
  have hs := sees_p x hx l hl hi (l.getD i 0).toNat (by omega)
  rw [Int.toNat_of_nonneg hb.1] at hs
  have hrow : ((List.range l.length).all fun k => decide (k ≤ i) || !aheadB x l i k) = true := by
   refine List.all_eq_true.2 fun j hj => ?_
   have := List.mem_range.1 hj
   by_cases e : j ≤ i
   ·rw [decide_eq_true e]; rfl
   ·rw [hbad j (by omega) this]; simp
  iterate 2 refine uB ?_
  refine aoR fun _ => ?_
  iterate 2 refine q11 ?_
  refine q13 ?_; refine q37 (uC (uA ?_)); refine cnd ?_ ?_
  refine uK fun _ => ?_; try (exfalso; omega)
  refine uL fun _ => ?_; try (exfalso; omega)
  refine uS ?_
  iterate 2 refine vE ?_
  refine vT ?_; refine uA (uB ?_)
  refine vB (E := E) ?_ (fun _ => ?_); exact rfl
  refine q52 ?_; refine q50 ?_
  iterate 2 refine q38 ?_
  refine q30 ?_; refine q50 ?_; refine q30 ?_
  apply wC; exact rfl; exact rfl; exact rfl; exact Nat.le_of_ble_eq_true rfl
  apply xG; exact rfl; exact .fn _ _ _; exact rfl; (exact yR _)
  refine q38 ?_
  apply dpT; exact rfl
  intro hc_; refine q47
  apply dpT; exact rfl
  intro hc_; refine q1
  apply dpT; exact rfl
  intro hc_; refine q1
  apply dpT; exact rfl
  intro hc_; refine q1
  apply dpT; exact rfl
  intro hc_
  have hp_ := hc_; try simp only [nrm] at hp_
  refine q5
  apply dpT; exact rfl
  intro hc_; refine q6
  apply dpT; exact rfl
  intro hc_
  have hp_ := hc_; try simp only [nrm] at hp_
  apply vK; (exact EvM.plain rfl rfl); exact .fn _ _ _; exact wD; (exact hs)
  apply dpT; exact rfl
  intro hc_; refine q8
  apply dpT; exact rfl
  intro hc_; refine q6
  apply dpT; exact rfl
  intro hc_; refine q1
  apply dpT; exact rfl
  intro hc_; refine q1
  apply dpT; exact rfl
  intro hc_
  have hp_ := hc_; try simp only [nrm] at hp_
  refine q5
  apply dpT; exact rfl
  intro hc_; refine q6
  apply dpT; exact rfl
  intro hc_
  have hp_ := hc_; try simp only [nrm] at hp_
  refine q5
  apply dpT; exact rfl
  intro hc_; refine q6
  apply dpT; exact rfl
  intro hc_; refine q26; refine q9 ?_
  refine vX ?_ ?_; (first | ((try dsimp only [wkeys]); decide +kernel) | exact rfl)
  refine uA ?_; refine cnd ?_ ?_; refine xH ?_
  refine xB (fun _ => ?_)
  refine wR (fun _ => ?_); (try (exfalso; omega))
  refine uB (aoR fun _ => ?_)
  refine q12 (uC (uA ?_)); refine uH ?_; refine vL ?_
  iterate 2 refine uO ?_
  refine vL ?_; refine uO ?_; rotate_left
  refine wS (fun hc_ => ?_); (try simp only [nrm] at hc_)
  refine uF ?_; refine vJ ?_; refine uA (aoR fun _ => ?_)
  refine q11 ?_; refine q36 ?_; refine q12 (uC (uA ?_)); rotate_left
  ·rename_i n0 n1 _
   refine uX rfl ?_; refine (kC hlt ?_).symm
   unfold rightAt seeB
   rw [show (x.evs.getD (l.getD i 0).toNat default).ldB = true from n0, decide_eq_false (show ¬ seesTo x l (l.getD i 0).toNat l.length = x.from_.getD (l.getD i 0).toNat 0 from n1)]
   simp
  ·have g0 := hc_
   refine vI (i + 1) ⟨by omega, fun j hj => ?_⟩ (by omega) leP leP
   rcases Nat.lt_or_ge j i with e | e
   ·exact hall j e
   ·have e : j = i := by omega
    rw [e]
    unfold rightAt seeB
    rw [hrow]
    rcases g0 with g | g
    ·rw [show (x.evs.getD (l.getD i 0).toNat default).ldB = false from g]; rfl
    ·rw [decide_eq_true (show seesTo x l (l.getD i 0).toNat l.length = x.from_.getD (l.getD i 0).toNat 0 from g)]; simp
set_option maxRecDepth 100000
def nums (o : List Nat) : List Int := o.map fun a : Nat => (a : Int)
theorem xO (o : List Nat) : (nums o).length = o.length := List.length_map ..
theorem xQ (o : List Nat) (i : Nat) : (nums o).getD i 0 = ((o.getD i 0 : Nat) : Int) := by
 unfold nums
 rw [List.getD_eq_getElem?_getD, List.getD_eq_getElem?_getD, List.getElem?_map]
 cases o[i]? <;> rfl
theorem nums_in {x : Ex} {o : List Nat} (h : ∀ a ∈ o, a < x.evs.length) : InEv x (nums o) := fun k hk => by
 rw [xO] at hk
 rw [xQ]
 have := h _ (xA hk)
 omega
theorem gL (o : List Nat) (a : Nat) : ∀ k : Nat, (0 ≤ atFrom (a : Int) (nums o) k ↔ a ∈ o) ∧ (a ∈ o → atFrom (a : Int) (nums o) k = ((k + ixN o a : Nat) : Int)) := by
 induction o with
 | nil => intro k; exact ⟨by simp [nums, atFrom], by simp⟩
 | cons b o ih =>
  intro k
  have e : nums (b :: o) = (b : Int) :: nums o := rfl
  rw [e, atFrom]
  by_cases hb : b = a
  ·subst hb
   rw [if_pos rfl]
   refine ⟨⟨fun _ => List.mem_cons_self .., fun _ => by omega⟩, fun _ => ?_⟩
   simp [ixN]
  ·rw [if_neg (by omega)]
   obtain ⟨h1, h2⟩ := ih (k + 1)
   refine ⟨⟨fun h => List.mem_cons_of_mem _ (h1.1 h), fun h => ?_⟩, fun h => ?_⟩
   ·rcases List.mem_cons.1 h with h | h
    ·exact (hb h.symm).elim
    ·exact h1.2 h
   ·rcases List.mem_cons.1 h with h | h
    ·exact (hb h.symm).elim
    ·rw [h2 h]
     simp only [ixN, if_neg hb]
     omega
set_option maxHeartbeats 8000000 in
theorem rsome_p (x : Ex) (h : x.rel) (hk : x.rok) (all : List Nat) (hal : all.length ≤ 64) (hai : ∀ a ∈ all, a < x.evs.length) : ∀ (d : Nat) (o : List Nat), o.length + d = all.length → (∀ a ∈ o, a < x.evs.length) →
  Pure E.P 34 [exOV x, .d (ints (nums o)), .d (ints (nums all))] (.bool (tryB (fun o => rightB x (nums o)) all d o)) := by
 intro d
 induction d with
 | zero =>
  intro o ho hoi
  have f3 : Frozen 3 := ⟨trivial⟩
  have ho1 := xO o
  have ho2 := xO all
  have hr := right_p x h hk (nums o) (by omega) (nums_in hoi)
  refine fnA Tryz.func34 Tryz.ntmps34 ?_
  refine uB (aoR fun _ => ?_)
  refine q34 ?_; refine q12 (uC (uA ?_))
  iterate 2 refine uB ?_
  refine aoR fun _ => ?_; refine q11 ?_; refine q13 ?_; refine q11 ?_; refine q13 ?_; refine q46 (uC (uA ?_))
  refine cnd ?_ ?_
  refine uK fun _ => ?_; try (exfalso; omega)
  refine uB (aoR fun _ => ?_)
  refine q33 ?_; refine q11 ?_
  apply uQ; exact rfl; exact .fn _ _ _; exact rfl; (exact hr)
  refine q12 (uC (uA ?_)); refine uH ?_; refine uO ?_; rotate_left
  refine uL fun _ => ?_; try (exfalso; omega)
  exact uX rfl rfl
 | succ d ih =>
  intro o ho hoi
  have f3 : Frozen 3 := ⟨trivial⟩
  have f38 : Frozen 38 := ⟨trivial⟩
  have ho1 := xO o
  have ho2 := xO all
  refine fnA Tryz.func34 Tryz.ntmps34 ?_
  refine uB (aoR fun _ => ?_)
  refine q34 ?_; refine q12 (uC (uA ?_))
  iterate 2 refine uB ?_
  refine aoR fun _ => ?_; refine q11 ?_; refine q13 ?_; refine q11 ?_; refine q13 ?_; refine q46 (uC (uA ?_))
  refine cnd ?_ ?_
  refine uK fun _ => ?_; try (exfalso; omega)
  refine uL fun _ => ?_; try (exfalso; omega)
  refine uF (uA ?_)
  iterate 2 refine uB ?_
  refine aoR fun _ => ?_; refine q12 (uC (uA (uG ?_)))
  rotate_left
  refine uZ (X := Nat) (fun i => tmL [(1, .d (ints (nums o))), (2, .d (ints (nums all))), (3, .d (.pt (exRow x) 0)), (7, .int .i64 i)]) (fun _ => stL []) (fun i => i ≤ all.length ∧ ∀ j, j < i → (!o.contains (all.getD j 0) && tryB (fun o => rightB x (nums o)) all d (o ++ [all.getD j 0])) = false) (fun i => all.length - i) 0 ⟨Nat.zero_le _, fun j hj => by omega⟩ leP leP ?_
  rintro i ⟨hi, hno⟩
  by_cases hlt : i < all.length
  ·have hai' := hai _ (xA hlt)
   have hix : (nums all).getD i 0 = ((all.getD i 0 : Nat) : Int) := xQ all i
   have hat := jP (nums o) ((nums all).getD i 0) (by omega)
   have hrec : Pure E.P 34 [exOV x, .d (.sl 1 ((nums o).map cell ++ [cell ((nums all).getD i 0)])), .d (ints (nums all))] (.bool (tryB (fun o => rightB x (nums o)) all d (o ++ [all.getD i 0]))) := by
    have h1 := ih (o ++ [all.getD i 0]) (by rw [List.length_append, List.length_singleton]; omega) (fun a ha => by
     rcases List.mem_append.1 ha with ha | ha
     ·exact hoi a ha
     ·rw [List.mem_singleton.1 ha]; exact hai')
    rw [hix]
    have e : ints (nums (o ++ [all.getD i 0])) = .sl 1 ((nums o).map cell ++ [cell ((all.getD i 0 : Nat) : Int)]) := by
     unfold ints nums
     rw [List.map_append, List.map_append]; rfl
    rw [e] at h1
    exact h1
   have hcon : atI (nums o) ((nums all).getD i 0) < 0 ↔ o.contains (all.getD i 0) = false := by
    rw [hix]
    have := (gL o (all.getD i 0) 0).1
    unfold atI
    rw [Bool.eq_false_iff, ne_eq, List.contains_iff_mem, ← this]
    omega
   iterate 2 refine uB ?_
   refine aoR fun _ => ?_
   iterate 2 refine q11 ?_
   refine q13 ?_; refine q37 (uC (uA ?_)); refine cnd ?_ ?_
   refine uK fun _ => ?_; try (exfalso; omega)
   refine uF (uA (uB (uG (uB ?_))))
   refine vB (E := E) ?_ (fun _ => ?_); exact rfl
   iterate 3 refine q38 ?_
   refine q30 ?_; refine q50 ?_
   apply xG; exact rfl; exact .fn _ _ _; exact rfl; (exact hat)
   apply oS; exact rfl; exact rfl
   refine q38 ?_
   apply uD; exact rfl; exact rfl
   refine uK fun _ => ?_; try (exfalso; omega)
   apply wC; exact rfl; exact rfl; exact rfl; exact Nat.le_of_ble_eq_true rfl
   apply uD; exact rfl; exact rfl
   refine uM ?_; refine q38 ?_
   apply uD; exact rfl; exact rfl
   refine uM ?_; refine q29 ?_
   apply uD; exact rfl; exact rfl
   refine uM ?_; refine q38 ?_
   apply uD; exact rfl; exact rfl
   refine uM ?_; refine q38 ?_
   apply uD; exact rfl; exact rfl
   refine uM ?_; refine q30 ?_
   apply uD; exact rfl; exact rfl
   refine uM ?_; refine q50 ?_
   apply uD; exact rfl; exact rfl
   refine uM ?_
   apply D_buildSlice; exact rfl; exact rfl; exact rfl; decide; decide; decide; exact rfl; exact rfl
   apply uD; exact rfl; exact rfl
   refine uM ?_
   (apply D_appendF; assumption; exact rfl; exact rfl; exact rfl; exact rfl; decide; exact rfl; exact rfl; (first | exact .os _ _ _ _ rfl (by first | rfl | (first | omega | (simp only [List.length_append, List.length_map, List.length_take, List.length_drop, List.length_cons, List.length_nil, List.length_replicate, uV] <;> omega))) | exact .nil); (first | exact .os _ _ _ _ rfl (by first | rfl | (first | omega | (simp only [List.length_append, List.length_map, List.length_take, List.length_drop, List.length_cons, List.length_nil, List.length_replicate, uV] <;> omega))) | exact .vw _ _ _ _ _ rfl (by (first | omega | (simp only [List.length_append, List.length_map, List.length_take, List.length_drop, List.length_cons, List.length_nil, List.length_replicate, uV] <;> omega))) | exact .nil | exact .sl _); (repeat (first | exact LeafR.nil | exact LeafR.cells _ _ | exact LeafR.d _ | (apply LeafR.one; exact rfl) | exact hleaf _ | refine LeafR.take _ ?_ | refine LeafR.drop _ ?_ | refine LeafR.app ?_ ?_ | (apply LeafR.lit; exact rfl) | assumption)); (show _ * (Nat.succ _) ≤ _; (first | omega | (simp only [List.length_append, List.length_map, List.length_take, List.length_drop, List.length_cons, List.length_nil, List.length_replicate, uV] <;> omega))); (unfold maxLen; (first | omega | (simp only [List.length_append, List.length_map, List.length_take, List.length_drop, List.length_cons, List.length_nil, List.length_replicate, uV] <;> omega))); (repeat (first | exact FzR.nil | exact FzR.ints _ | exact FzR.d _ | exact hfz _ | exact FzC.map _ | exact FzC.nil | apply FzR.take | apply FzR.drop | apply FzR.app | apply FzR.cons | apply FzC.cons | assumption)); (first | rfl | (first | omega | (simp only [List.length_append, List.length_map, List.length_take, List.length_drop, List.length_cons, List.length_nil, List.length_replicate, uV] <;> omega))))
   apply uD; exact rfl; exact rfl
   refine uM ?_; refine q38 ?_
   apply uD; exact rfl; exact rfl
   refine uM ?_
   apply xG; exact rfl; exact .fn _ _ _; exact rfl; (exact hrec)
   refine q9 ?_
   refine vX ?_ ?_; (first | ((try dsimp only [wkeys]); decide +kernel) | exact rfl)
   refine uA ?_; refine cnd ?_ ?_; refine xH ?_; refine uM ?_
   refine xB (fun _ => ?_)
   refine uB (aoR fun _ => ?_)
   refine q12 (uC (uA ?_)); refine uH ?_; refine vL ?_
   iterate 2 refine uO ?_
   refine vL ?_; refine uO ?_; rotate_left
   refine wS (fun hc_ => ?_); (try simp only [nrm] at hc_)
   refine uF ?_; refine vJ ?_; refine uA (aoR fun _ => ?_)
   refine q11 ?_; refine q36 ?_; refine q12 (uC (uA ?_)); rotate_left
   iterate 10 exact wA
   refine uL fun _ => ?_; try (exfalso; omega)
   apply uD; exact rfl; exact rfl
   exact uN
   refine uJ ?_
   apply uD; exact rfl; exact rfl
   exact uN
   refine uJ ?_
   apply uD; exact rfl; exact rfl
   exact uN
   refine uJ ?_
   apply uD; exact rfl; exact rfl
   exact uN
   refine uJ ?_
   apply uD; exact rfl; exact rfl
   exact uN
   refine uJ ?_
   apply uD; exact rfl; exact rfl
   exact uN
   refine uJ ?_
   apply uD; exact rfl; exact rfl
   exact uN
   refine uJ ?_
   apply uD; exact rfl; exact rfl
   exact uN
   refine uJ ?_
   apply uD; exact rfl; exact rfl
   exact uN
   refine uJ ?_
   apply uD; exact rfl; exact rfl
   exact uN
   refine uJ ?_
   apply aL; exact rfl
   apply xL; exact rfl
   refine vX ?_ ?_; (first | ((try dsimp only [wkeys]); decide +kernel) | exact rfl)
   refine uA ?_; refine cnd ?_ ?_
   exact uN
   refine uJ ?_; refine uF ?_; refine vJ ?_; refine uA (aoR fun _ => ?_)
   refine q11 ?_; refine q36 ?_; refine q12 (uC (uA ?_)); rotate_left
   refine uL fun _ => ?_; try (exfalso; omega)
   ·rename_i n1 n2 _
    refine uX rfl ?_
    unfold tryB
    refine (List.any_eq_true.2 ⟨all.getD i 0, xA hlt, ?_⟩).symm
    rw [hcon.1 n1, n2]; rfl
   ·have g1 : tryB (fun o => rightB x (nums o)) all d (o ++ [all.getD i 0]) = false := hc_.resolve_left (by decide)
    refine vI (i + 1) ⟨by omega, fun j hj => ?_⟩ (by omega) leP leP
    rcases Nat.lt_or_ge j i with e | e
    ·exact hno j e
    ·rw [show j = i by omega, g1]; simp
   ·rename_i n1 _
    refine vI (i + 1) ⟨by omega, fun j hj => ?_⟩ (by omega) leP leP
    rcases Nat.lt_or_ge j i with e | e
    ·exact hno j e
    ·rw [show j = i by omega]
     have g1 : o.contains (all.getD i 0) = true := by
      cases g : o.contains (all.getD i 0) with
      | true => rfl
      | false => exact (n1 (hcon.2 g)).elim
     rw [g1]; rfl
  ·have e : i = all.length := by omega
   subst e
   iterate 2 refine uB ?_
   refine aoR fun _ => ?_
   iterate 2 refine q11 ?_
   refine q13 ?_; refine q37 (uC (uA ?_)); refine cnd ?_ ?_
   refine uK fun _ => ?_; try (exfalso; omega)
   refine uL fun _ => ?_; try (exfalso; omega)
   refine uS ?_
   iterate 2 refine vE ?_
   refine vT ?_; refine uA (uB (aoR fun _ => ?_))
   refine q12 (uC (uA ?_)); refine uH ?_; rotate_left
   refine uX rfl ?_
   unfold tryB
   symm
   rw [List.any_eq_false]
   intro a ha
   obtain ⟨j, hj, rfl⟩ := List.getElem_of_mem ha
   have := hno j hj
   rw [List.getD_eq_getElem?_getD, List.getElem?_eq_getElem hj] at this
   simpa using this
def allT (x : Ex) (k : Nat) : List Nat := (List.range k).filter fun a => !decide ((x.evs.getD a default).kind = 4)
def begT (x : Ex) (k : Nat) : List Nat := (List.range k).filter fun a => decide ((x.evs.getD a default).kind = 5)
theorem kU (p : Nat → Bool) (k : Nat) : (List.range (k + 1)).filter p = (List.range k).filter p ++ if p k = true then [k] else [] := by
 rw [List.range_succ, List.filter_append]
 by_cases h : p k = true
 ·rw [if_pos h]; simp [h]
 ·rw [if_neg h]; simp [h]
theorem iV (p : Nat → Bool) (k : Nat) : ((List.range k).filter p).length ≤ k := Nat.le_trans (List.length_filter_le ..) (by simp)
def byAxB (x : Ex) : Bool := ratB x && tryB (fun o => rightB x (nums o)) (allE x) ((allE x).length - (begE x).length) (begE x)
theorem begE_le (x : Ex) : (begE x).length ≤ (allE x).length := by
 unfold begE allE
 refine List.Sublist.length_le ?_
 have : ((List.range x.evs.length).filter fun a => decide ((x.evs.getD a default).kind = 5)) = ((List.range x.evs.length).filter fun a => !decide ((x.evs.getD a default).kind = 4)).filter fun a => decide ((x.evs.getD a default).kind = 5) := by
  rw [List.filter_filter]
  congr 1
  funext a
  by_cases h : (x.evs.getD a default).kind = 5
  ·rw [h]; rfl
  ·rw [decide_eq_false h]; rfl
 rw [this]
 exact List.filter_sublist
set_option maxHeartbeats 4000000 in
theorem byAxioms_p (x : Ex) (h : x.rel) (hk : x.rok) : Pure E.P 16 [exOV x] (.bool (byAxB x)) := by
 have f1 : Frozen 1 := ⟨trivial⟩
 have hl := h.len
 refine fnA Tryz.func16 Tryz.ntmps16 ?_
 refine uB (aoR fun _ => ?_)
 refine q34 ?_; refine q12 (uC (uA (uB (aoR fun _ => ?_))))
 iterate 2 refine q51 ?_
 refine uC (uA ?_)
 iterate 2 refine uB ?_
 refine aoR fun _ => ?_; refine q12 (uC (uA (uG ?_)))
 rotate_left
 rename_i v1 v3 _
 refine uZ (X := Nat × Stamp × Stamp × List Int × List Int) (fun p => tmL [(1, .d (.pt (exRow x) 0)), (3, .os 3 p.2.1 1 p.2.2.2.1.length), (4, .os 4 p.2.2.1 1 p.2.2.2.2.length), (5, .int .i64 p.1)]) (fun p => stL [(3, (p.2.1, ⟨1, p.2.2.2.1.map (cellO .i64)⟩)), (4, (p.2.2.1, ⟨1, p.2.2.2.2.map (cellO .i64)⟩))])
  (fun p => p.1 ≤ x.evs.length ∧ p.2.2.2.1 = nums (begT x p.1) ∧ p.2.2.2.2 = nums (allT x p.1)) (fun p => x.evs.length - p.1) (0, (v3, 0), (v3, 1), [], []) ⟨Nat.zero_le _, rfl, rfl⟩ leP leP ?_
 rintro ⟨i, τ3, τ4, l3, l4⟩ ⟨hi, h3, h4⟩
 dsimp only at hi h3 h4 ⊢
 have h3l : l3.length ≤ 64 := by rw [h3, xO]; exact Nat.le_trans (iV _ _) (by omega)
 have h4l : l4.length ≤ 64 := by rw [h4, xO]; exact Nat.le_trans (iV _ _) (by omega)
 by_cases hlt : i < x.evs.length
 ·have gb : ∀ p : Nat → Bool, p i = true → nums ((List.range (i + 1)).filter p) = nums ((List.range i).filter p) ++ [(i : Int)] := fun p hp => by
   rw [kU, if_pos hp]; unfold nums; rw [List.map_append]; rfl
  have gn : ∀ p : Nat → Bool, ¬ p i = true → nums ((List.range (i + 1)).filter p) = nums ((List.range i).filter p) := fun p hp => by
   rw [kU, if_neg hp, List.append_nil]
  iterate 2 refine uB ?_
  refine aoR fun _ => ?_; refine q11 ?_; refine q32 ?_; refine q23 ?_; refine q13 ?_; refine q37 (uC (uA ?_))
  refine cnd ?_ ?_
  refine uK fun _ => ?_; try (exfalso; omega)
  refine uF (uA (uB (uG ?_)))
  iterate 2 refine uB ?_
  refine aoR fun _ => ?_; refine q32 ?_; refine q23 ?_; refine q11 ?_; refine q17 ?_; refine q32 ?_; refine q23 ?_; refine q44 (uC (uA ?_))
  refine cnd ?_ ?_
  refine wR (fun _ => ?_); (try (exfalso; omega))
  refine aoR fun _ => ?_
  iterate 2 refine q11 ?_
  apply wV; exact rfl; exact rfl; exact rfl; decide; decide; decide; exact rfl; exact rfl
  refine q19 ?_
  apply xU; exact rfl; exact rfl
  refine uC (uA (uB (aoR fun _ => ?_)))
  refine q32 ?_; refine q23 ?_; refine q11 ?_; refine q17 ?_; refine q32 ?_; refine q23 ?_; refine q46 (uC (uA ?_)); refine cnd ?_ ?_
  refine uK fun _ => ?_; try (exfalso; omega)
  refine aoR fun _ => ?_
  iterate 2 refine q11 ?_
  apply wV; exact rfl; exact rfl; exact rfl; decide; decide; decide; exact rfl; exact rfl
  refine q19 ?_
  apply xU; exact rfl; exact rfl
  refine uC ?_; refine vJ ?_; refine uA (aoR fun _ => ?_)
  refine q11 ?_; refine q36 ?_; refine q12 (uC (uA ?_)); rotate_left
  refine uL fun _ => ?_; try (exfalso; omega)
  refine uF ?_; refine vJ ?_; refine uA (aoR fun _ => ?_)
  refine q11 ?_; refine q36 ?_; refine q12 (uC (uA ?_)); rotate_left
  refine wN (fun _ => ?_); (try (exfalso; omega))
  refine uF (uA (uB (aoR fun _ => ?_)))
  refine q32 ?_; refine q23 ?_; refine q11 ?_; refine q17 ?_; refine q32 ?_; refine q23 ?_; refine q46 (uC (uA ?_)); refine cnd ?_ ?_
  refine uK fun _ => ?_; try (exfalso; omega)
  refine uL fun _ => ?_; try (exfalso; omega)
  refine uF ?_; refine vJ ?_; refine uA (aoR fun _ => ?_)
  refine q11 ?_; refine q36 ?_; refine q12 (uC (uA ?_)); rotate_left
  refine uL fun _ => ?_; try (exfalso; omega)
  ·rename_i k4 w6 _ k5 w8 _
   have k4 : ¬ (x.evs.getD i default).kind = 4 := k4
   have k5 : (x.evs.getD i default).kind = 5 := k5
   exact vI (i + 1, (w8, 4), (w6, 4), l3 ++ [(i : Int)], l4 ++ [(i : Int)]) ⟨by dsimp only; omega, by dsimp only; rw [h3]; exact (gb _ (decide_eq_true k5)).symm, by dsimp only; rw [h4]; exact (gb _ (by rw [decide_eq_false k4]; rfl)).symm⟩ (by dsimp only; omega) (by repeat' (first | exact vY _ | exact vS _ | refine uP rfl ?_ | refine vN rfl ?_ | (refine vD rfl ?_ ?_; (simp <;> rfl)) | (refine vA rfl ?_ ?_; (simp <;> rfl)) | (refine vG rfl ?_ ?_; (simp <;> rfl)))) (by repeat' (first | exact vY _ | exact vS _ | refine uP rfl ?_ | refine vN rfl ?_ | (refine vD rfl ?_ ?_; (simp <;> rfl)) | (refine vA rfl ?_ ?_; (simp <;> rfl)) | (refine vG rfl ?_ ?_; (simp <;> rfl))))
  ·rename_i k4 w6 _ k5 _
   have k4 : ¬ (x.evs.getD i default).kind = 4 := k4
   have k5 : ¬ (x.evs.getD i default).kind = 5 := k5
   exact vI (i + 1, τ3, (w6, 4), l3, l4 ++ [(i : Int)]) ⟨by dsimp only; omega, by dsimp only; rw [h3]; exact (gn _ (by rw [decide_eq_false k5]; decide)).symm, by dsimp only; rw [h4]; exact (gb _ (by rw [decide_eq_false k4]; rfl)).symm⟩ (by dsimp only; omega) (by repeat' (first | exact vY _ | exact vS _ | refine uP rfl ?_ | refine vN rfl ?_ | (refine vD rfl ?_ ?_; (simp <;> rfl)) | (refine vA rfl ?_ ?_; (simp <;> rfl)) | (refine vG rfl ?_ ?_; (simp <;> rfl)))) (by repeat' (first | exact vY _ | exact vS _ | refine uP rfl ?_ | refine vN rfl ?_ | (refine vD rfl ?_ ?_; (simp <;> rfl)) | (refine vA rfl ?_ ?_; (simp <;> rfl)) | (refine vG rfl ?_ ?_; (simp <;> rfl))))
  ·rename_i k4 _ k5 _
   have k4 : (x.evs.getD i default).kind = 4 := k4
   have k5 : ¬ (x.evs.getD i default).kind = 5 := k5
   exact vI (i + 1, τ3, τ4, l3, l4) ⟨by dsimp only; omega, by dsimp only; rw [h3]; exact (gn _ (by rw [decide_eq_false k5]; decide)).symm, by dsimp only; rw [h4]; exact (gn _ (by rw [decide_eq_true k4]; decide)).symm⟩ (by dsimp only; omega) leP leP
 ·have e : i = x.evs.length := by omega
  subst e
  have f3 : Frozen 3 := ⟨trivial⟩
  have f4 : Frozen 4 := ⟨trivial⟩
  have hA := ratomic_p x h
  have e3 : l3 = nums (begE x) := h3
  have e4 : l4 = nums (allE x) := h4
  have hS := rsome_p x h hk (allE x) (by have := iV (fun a => !decide ((x.evs.getD a default).kind = 4)) x.evs.length; unfold allE; omega) (fun a ha => List.mem_range.1 (List.mem_filter.1 ha).1) ((allE x).length - (begE x).length) (begE x) (by have := begE_le x; omega) (fun a ha => List.mem_range.1 (List.mem_filter.1 ha).1)
  rw [← e3, ← e4] at hS
  iterate 2 refine uB ?_
  refine aoR fun _ => ?_; refine q11 ?_; refine q32 ?_; refine q23 ?_; refine q13 ?_; refine q37 (uC (uA ?_))
  refine cnd ?_ ?_
  refine uK fun _ => ?_; try (exfalso; omega)
  refine uL fun _ => ?_; try (exfalso; omega)
  refine uS ?_
  iterate 2 refine vE ?_
  refine vT ?_; refine uA (uB (aoR fun _ => ?_))
  refine q33 ?_
  apply uQ; exact rfl; exact .fn _ _ _; exact rfl; (exact hA)
  refine q11 ?_
  apply uI; exact rfl; exact rfl
  refine xB (fun _ => ?_)
  refine q33 ?_
  apply uI; exact rfl; exact rfl
  refine uM ?_; refine q41 ?_
  apply uI; exact rfl; exact rfl
  refine uM ?_; refine q41 ?_
  apply uI; exact rfl; exact rfl
  refine uM ?_
  apply uQ; exact rfl; exact .fn _ _ _; exact rfl; (exact hS)
  refine q4 ?_; refine q12 (uC (uA ?_)); refine uH ?_; rotate_left
  iterate 3 exact wA
  refine iT (fun _ => ?_)
  apply uI; exact rfl; exact rfl
  exact uN
  refine uJ ?_
  apply uI; exact rfl; exact rfl
  exact uN
  refine uJ ?_
  apply uI; exact rfl; exact rfl
  exact uN
  refine uJ ?_
  apply wI; exact rfl
  apply xL; exact rfl
  refine q12 (uC (uA ?_)); refine uH ?_; rotate_left
  ·rename_i g
   refine uX rfl ?_
   unfold byAxB
   rw [g]
  ·rename_i g
   refine uX rfl ?_
   unfold byAxB
   rw [g]; rfl
theorem atI_nums {o : List Nat} {a : Nat} (h : a ∈ o) : atI (nums o) (a : Int) = ((ixN o a : Nat) : Int) := by
 unfold atI
 rw [(gL o a 0).2 h, Nat.zero_add]
theorem isPo_iff {x : Ex} {a b : Nat} : isPo x a b = true ↔ (evn x).po a b := by
 unfold isPo Evn.po
 simp only [Bool.and_eq_true, decide_eq_true_eq]
 exact ⟨fun ⟨⟨h1, h2⟩, h3⟩ => ⟨h1, h2, h3⟩, fun ⟨h1, h2, h3⟩ => ⟨⟨h1, h2⟩, h3⟩⟩
theorem eQ {x : Ex} {o : List Nat} (hn : o.Nodup) {a : Nat} (ha : a ∈ o) {j : Nat} (hj : j < o.length) : canB x (nums o) a j = true ↔ (evn x).cand o a (o.getD j 0) := by
 unfold canB Evn.cand
 rw [xQ, Int.toNat_natCast, atI_nums ha, aH hn hj]
 simp only [Bool.and_eq_true, Bool.or_eq_true, Bool.not_eq_true', decide_eq_true_eq, decide_eq_false_iff_not, isPo_iff]
 constructor
 ·rintro ⟨⟨⟨h1, h2⟩, h3⟩, h4⟩
  exact ⟨fun e => h1 (by rw [e]), h2, h3, h4.imp (fun h => by omega) id⟩
 ·rintro ⟨h1, h2, h3, h4⟩
  exact ⟨⟨⟨fun e => h1 (by omega), h2⟩, h3⟩, h4.imp (fun h => by omega) id⟩
theorem gB (x : Ex) (l : List Int) (n : Nat) : ∀ k, (seesTo x l n k = -1 ∧ ∀ j, j < k → canB x l n j = false) ∨ ∃ j, j < k ∧ canB x l n j = true ∧ seesTo x l n k = l.getD j 0 ∧ ∀ i, j < i → i < k → canB x l n i = false := fun k => by
 induction k with
 | zero => exact Or.inl ⟨rfl, fun j hj => by omega⟩
 | succ k ih =>
  by_cases h : canB x l n k = true
  ·refine Or.inr ⟨k, by omega, h, by rw [seesTo, if_pos h], fun i h1 h2 => by omega⟩
  ·have h' : canB x l n k = false := by simpa using h
   have e : seesTo x l n (k + 1) = seesTo x l n k := by rw [seesTo, if_neg h]
   rcases ih with ⟨h1, h2⟩ | ⟨j, h1, h2, h3, h4⟩
   ·refine Or.inl ⟨e.trans h1, fun j hj => ?_⟩
    rcases Nat.lt_or_ge j k with g | g
    ·exact h2 j g
    ·rw [show j = k by omega]; exact h'
   ·refine Or.inr ⟨j, by omega, h2, e.trans h3, fun i g1 g2 => ?_⟩
    rcases Nat.lt_or_ge i k with g | g
    ·exact h4 i g1 g
    ·rw [show i = k by omega]; exact h'
theorem mZ {x : Ex} {o : List Nat} (hn : o.Nodup) {a : Nat} (ha : a ∈ o) {f : Int} (hf : 0 ≤ f) : seesTo x (nums o) a (nums o).length = f ↔ (evn x).sees o a f.toNat := by
 rw [xO]
 constructor
 ·intro h
  rcases gB x (nums o) a o.length with ⟨h1, _⟩ | ⟨j, h1, h2, h3, h4⟩
  ·omega
  ·have e : f.toNat = o.getD j 0 := by rw [← h, h3, xQ, Int.toNat_natCast]
   rw [e]
   refine ⟨xA h1, (eQ hn ha h1).1 h2, fun m hm hc => ?_⟩
   rw [aH hn h1]
   obtain ⟨g1, g2⟩ := yQ hm
   rcases Nat.lt_or_ge j (ixN o m) with g | g
   ·have := h4 _ g g1
    rw [(eQ hn ha g1).2 (by rw [g2]; exact hc)] at this
    cases this
   ·exact g
 ·rintro ⟨h1, h2, h3⟩
  obtain ⟨g1, g2⟩ := yQ h1
  have hc : canB x (nums o) a (ixN o f.toNat) = true := (eQ hn ha g1).2 (by rw [g2]; exact h2)
  rcases gB x (nums o) a o.length with ⟨_, k2⟩ | ⟨j, k1, k2, k3, k4⟩
  ·rw [k2 _ g1] at hc; cases hc
  ·have := h3 _ (xA k1) ((eQ hn ha k1).1 k2)
   rw [aH hn k1] at this
   have e : j = ixN o f.toNat := by
    rcases Nat.lt_or_ge j (ixN o f.toNat) with g | g
    ·rw [k4 _ g g1] at hc; cases hc
    ·omega
   rw [k3, xQ, e, g2]
   omega
theorem lF {x : Ex} {o : List Nat} (hi : ∀ a ∈ o, a < x.evs.length) {i k : Nat} (h1 : i < o.length) (h2 : k < o.length) : aheadB x (nums o) i k = true ↔ (evn x).ppo (o.getD k 0) (o.getD i 0) ∨ (evn x).co (o.getD k 0) (o.getD i 0) := by
 unfold aheadB
 rw [xQ, xQ, Int.toNat_natCast, Int.toNat_natCast, Bool.or_eq_true]
 have a1 := hi _ (xA h1)
 have a2 := hi _ (xA h2)
 exact ⟨fun h => h.imp (fun h => ⟨a2, a1, h⟩) fun h => ⟨a2, a1, h⟩, fun h => h.imp (fun h => h.2.2) fun h => h.2.2⟩
theorem right_iff {x : Ex} (h : x.rel) {o : List Nat} (hn : o.Nodup) (ho : ∀ a, a ∈ o ↔ (evn x).is a) : rightB x (nums o) = true ↔ (evn x).right o := by
 have hE := iW h
 have hi : ∀ a ∈ o, a < x.evs.length := fun a ha => ((ho a).1 ha).1
 unfold rightB
 rw [List.all_eq_true, xO]
 constructor
 ·intro hr
  have hrow : ∀ i, i < o.length → (∀ k, i < k → k < o.length → aheadB x (nums o) i k = false) ∧ seeB x (nums o) i = false := fun i hl => by
   have := hr i (List.mem_range.2 hl)
   unfold rightAt at this
   simp only [Bool.and_eq_true, Bool.not_eq_true', xO] at this
   refine ⟨fun k h1 h2 => ?_, this.2⟩
   have h3 := List.all_eq_true.1 this.1 k (List.mem_range.2 h2)
   rw [decide_eq_false (by omega), Bool.false_or, Bool.not_eq_true'] at h3
   exact h3
  refine ⟨fun a ha b hb hab => ?_, fun a ha hl => ?_⟩
  ·obtain ⟨a1, a2⟩ := yQ ha
   obtain ⟨b1, b2⟩ := yQ hb
   have hne : a ≠ b := by
    rcases hab with g | g
    ·have := (hE.ppo a b g).1.1
     omega
    ·exact (hE.co a b g).2.2.2
   rcases Nat.lt_or_ge (ixN o a) (ixN o b) with g | g
   ·exact g
   ·have g' : ixN o b < ixN o a := by
     rcases Nat.lt_or_ge (ixN o b) (ixN o a) with g1 | g1
     ·exact g1
     ·exact (hne (lW ha hb (by omega))).elim
    have := (hrow _ b1).1 _ g' a1
    rw [(lF hi b1 a1).2 (by rw [a2, b2]; exact hab)] at this
    cases this
  ·obtain ⟨a1, a2⟩ := yQ ha
   have hs := (hrow _ a1).2
   unfold seeB at hs
   rw [xQ, a2, Int.toNat_natCast, show (x.evs.getD a default).ldB = true from hl, Bool.true_and, Bool.not_eq_false', decide_eq_true_eq] at hs
   have h0 := (h.src a (hi a ha) hl).1
   exact (mZ hn ha (by omega)).1 hs
 ·intro hr i hl
  have hl := List.mem_range.1 hl
  have ha := xA hl
  unfold rightAt
  rw [Bool.and_eq_true]
  constructor
  ·rw [List.all_eq_true, xO]
   intro k hk
   have hk := List.mem_range.1 hk
   by_cases e : k ≤ i
   ·rw [decide_eq_true e]; rfl
   ·rw [decide_eq_false e, Bool.false_or, Bool.not_eq_true']
    cases g : aheadB x (nums o) i k with
    | false => rfl
    | true =>
     have := hr.fwd _ (xA hk) _ ha ((lF hi hl hk).1 g)
     rw [aH hn hk, aH hn hl] at this
     omega
  ·unfold seeB
   rw [xQ, Int.toNat_natCast]
   by_cases hld : (x.evs.getD (o.getD i 0) default).ldB = true
   ·have h0 := (h.src _ (hi _ ha) hld).1
    rw [decide_eq_true ((mZ hn ha (by omega)).2 (hr.see _ ha hld))]
    simp
   ·rw [Bool.eq_false_iff.2 hld]; rfl
theorem byAx_eq {x : Ex} (h : x.rel) : byAxB x = ((!circleB x.evs.length (rcohL x) && !circleB x.evs.length (gloL x)) && ratB x) := by
 unfold byAxB
 rw [axioms_law h fun o hn ho => right_iff h hn ho, Bool.and_comm]
set_option maxRecDepth 100000
set_option maxHeartbeats 4000000 in
theorem lawAxioms_p (x : Ex) (hx : x.ok) : Pure E.P 3 [exOV x] (.bool true) := by
 have hwd := wide8_p x hx
 have hkn := known8_p
 have f1 : Frozen 1 := ⟨trivial⟩
 refine fnA Tryz.func3 Tryz.ntmps3 ?_
 cases hw : wideB8 x with
 | true =>
  rw [hw] at hwd
  refine uB (aoR fun _ => ?_)
  refine q34 ?_; refine q12 (uC (uA ?_))
  iterate 2 refine uB ?_
  refine aoR fun _ => ?_; refine q33 ?_
  apply uQ; exact rfl; exact .fn _ _ _; exact rfl; (exact hwd)
  refine q11 ?_
  apply vP; exact rfl; exact rfl
  exact wA
  refine uM ?_
  apply vP; exact rfl; exact rfl
  exact wA
  refine uM ?_
  apply vP; exact rfl; exact rfl
  exact wA
  refine uM ?_
  apply wI; exact rfl
  apply iI; exact rfl
  refine q11 ?_
  apply vP; exact rfl; exact rfl
  exact wA
  refine uM ?_
  apply vP; exact rfl; exact rfl
  exact wA
  refine uM ?_
  apply vP; exact rfl; exact rfl
  exact wA
  refine uM ?_
  apply wI; exact rfl
  apply iI; exact rfl
  refine uC (uA ?_)
  refine cnd ?_ ?_; refine uM ?_; refine uB (aoR fun _ => ?_)
  apply uQ; exact rfl; exact .fn _ _ _; exact rfl; (exact hkn)
  refine q12 (uC (uA ?_)); refine uH ?_; refine uO ?_; rotate_left
  exact wA
  all_goals first | exact uX rfl rfl | (exfalso; simp_all; done)
 | false =>
  rw [hw] at hwd
  obtain ⟨hfit, hl⟩ := fit8 hx hw
  have hA := fW x hfit (by omega)
  have hC := rcheck_p x hx (fun e he => (hx.2.1 e he).bare)
  have hM := rmoving_p x (by omega)
  by_cases hc : checkI x = 0
  ·obtain ⟨_, e2, _⟩ := judge_ok hc
   rw [e2] at hA
   rw [hc] at hC
   have hr : x.rel := ⟨hfit, hc⟩
   have hB := byAxioms_p x hr (fA hx hc)
   have eB : byAxB x = allowB x := byAx_eq hr
   rw [eB] at hB
   generalize allowB x = a at hA hB
   refine uB (aoR fun _ => ?_)
   refine q34 ?_; refine q12 (uC (uA ?_))
   iterate 2 refine uB ?_
   refine aoR fun _ => ?_; refine q33 ?_
   apply uQ; exact rfl; exact .fn _ _ _; exact rfl; (exact hwd)
   refine q11 ?_
   apply vP; exact rfl; exact rfl
   refine uJ ?_; refine q33 ?_
   apply vP; exact rfl; exact rfl
   refine uJ ?_
   apply uQ; exact rfl; exact .fn _ _ _; exact rfl; (exact hC)
   apply vP; exact rfl; exact rfl
   refine uJ ?_; refine q44 ?_; refine q0 ?_; refine q11 ?_
   apply vP; exact rfl; exact rfl
   refine xC ?_; refine uJ ?_
   refine wN (fun _ => ?_); (try (exfalso; omega))
   refine q33 ?_
   apply vP; exact rfl; exact rfl
   refine uJ ?_
   apply uQ; exact rfl; exact .fn _ _ _; exact rfl; (exact hM)
   apply vP; exact rfl; exact rfl
   refine uJ ?_
   apply oO; exact rfl; exact rfl
   refine q0 (uC (uA ?_)); refine cnd ?_ ?_
   refine wZ (fun hc_ => ?_); (try simp only [nrm] at hc_)
   refine uB (aoR fun _ => ?_)
   apply uQ; exact rfl; exact .fn _ _ _; exact rfl; (exact hkn)
   refine q12 (uC (uA ?_)); refine uH ?_; refine uO ?_; rotate_left
   refine xC ?_; refine uJ ?_
   refine uL fun _ => ?_; try (exfalso; omega)
   refine uF (uA (uB (aoR fun _ => ?_)))
   refine q33 ?_
   apply uQ; exact rfl; exact .fn _ _ _; exact rfl; (exact hA)
   refine q11 ?_
   iterate 2 (apply xK; exact rfl; exact rfl)
   iterate 2 refine q12 ?_
   refine uC (uA (uB (aoR fun _ => ?_)))
   refine q11 ?_; refine q46 ?_; refine q11 ?_
   apply uI; exact rfl; exact rfl
   refine uK fun _ => ?_; try (exfalso; omega)
   refine q11 ?_
   apply uI; exact rfl; exact rfl
   refine uM ?_; refine q33 ?_
   apply uI; exact rfl; exact rfl
   refine uM ?_
   apply uQ; exact rfl; exact .fn _ _ _; exact rfl; (exact hB)
   apply uI; exact rfl; exact rfl
   refine uM ?_
   apply S_eqlB; exact rfl; exact rfl; exact rfl; exact rfl
   refine q4 ?_; refine q11 ?_
   apply uI; exact rfl; exact rfl
   refine xH ?_; refine uM ?_
   refine xB (fun _ => ?_)
   apply uQ; exact rfl; exact .fn _ _ _; exact rfl; (exact hkn)
   refine q0 ?_; refine q12 (uC (uA ?_)); refine uH ?_; rotate_left
   refine wS (fun hc_ => ?_); (try simp only [nrm] at hc_)
   apply wI; exact rfl
   apply xL; exact rfl
   refine q12 (uC (uA ?_)); refine uH ?_; rotate_left
   iterate 3 exact wA
   refine uL fun _ => ?_; try (exfalso; omega)
   iterate 2 exact uN
   refine wZ (fun hc_ => ?_); (try simp only [nrm] at hc_)
   apply vP; exact rfl; exact rfl
   exact wA
   refine uM ?_
   apply vP; exact rfl; exact rfl
   exact wA
   refine uM ?_
   apply wI; exact rfl
   apply iI; exact rfl
   refine uC (uA ?_)
   refine cnd ?_ ?_; refine uM ?_; refine uB (aoR fun _ => ?_)
   apply uQ; exact rfl; exact .fn _ _ _; exact rfl; (exact hkn)
   refine q12 (uC (uA ?_)); refine uH ?_; refine uO ?_; rotate_left
   exact wA
   iterate 3 exact uN
   all_goals first | exact uX rfl rfl | (exfalso; rcases hc_ with h | h; cases h; exact h rfl) | (exfalso; rcases hc_ with h | h; cases h; exact h trivial)
  ·refine uB (aoR fun _ => ?_)
   refine q34 ?_; refine q12 (uC (uA ?_))
   iterate 2 refine uB ?_
   refine aoR fun _ => ?_; refine q33 ?_
   apply uQ; exact rfl; exact .fn _ _ _; exact rfl; (exact hwd)
   refine q11 ?_
   apply vP; exact rfl; exact rfl
   refine uJ ?_; refine q33 ?_
   apply vP; exact rfl; exact rfl
   refine uJ ?_
   apply uQ; exact rfl; exact .fn _ _ _; exact rfl; (exact hC)
   apply vP; exact rfl; exact rfl
   refine uJ ?_; refine q44 ?_; refine q0 ?_; refine q11 ?_
   apply vP; exact rfl; exact rfl
   refine xC ?_; refine uJ ?_
   refine wN (fun _ => ?_); (try (exfalso; omega))
   refine wZ (fun hc_ => ?_); (try simp only [nrm] at hc_)
   apply vP; exact rfl; exact rfl
   exact wA
   refine uM ?_
   apply vP; exact rfl; exact rfl
   exact wA
   refine uM ?_
   apply wI; exact rfl
   apply iI; exact rfl
   refine uC (uA ?_)
   refine cnd ?_ ?_; refine uM ?_; refine uB (aoR fun _ => ?_)
   apply uQ; exact rfl; exact .fn _ _ _; exact rfl; (exact hkn)
   refine q12 (uC (uA ?_)); refine uH ?_; refine uO ?_; rotate_left
   exact wA
   iterate 3 exact uN
   all_goals first | exact uX rfl rfl | (exfalso; rcases hc_ with h | h; cases h; exact h rfl) | (exfalso; rcases hc_ with h | h; cases h; exact h trivial)
end Go.Proofs.YtnkocjkkefnelaaGreat
