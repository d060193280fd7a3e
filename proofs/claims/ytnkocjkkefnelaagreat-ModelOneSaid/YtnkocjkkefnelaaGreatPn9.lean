/- Parts. -/
import Derived.Test.YtnkocjkkefnelaaGreatPn1
import Derived.Test.YtnkocjkkefnelaaGreatPn6
import Derived.Test.YtnkocjkkefnelaaGreatPn8
set_option linter.unusedVariables false
set_option linter.unusedSimpArgs false
set_option maxHeartbeats 4000000
namespace Go.Proofs.YtnkocjkkefnelaaGreat
def ixN : List Nat → Nat → Nat
 | [], _ => 0
 | a :: l, n => if a = n then 0 else ixN l n + 1
theorem dV : ∀ {l : List Nat} {n : Nat}, n ∈ l → ixN l n < l.length ∧ l.getD (ixN l n) 0 = n
 | [], n, h => by cases h
 | a :: l, n, h => by
  unfold ixN
  by_cases e : a = n
  ·rw [if_pos e]; simp [e]
  ·rw [if_neg e]
   obtain ⟨h1, h2⟩ := dV ((List.mem_cons.1 h).resolve_left fun h => e h.symm)
   exact ⟨by simpa using h1, by simpa using h2⟩
theorem getD_memN {l : List Nat} {i : Nat} (h : i < l.length) : l.getD i 0 ∈ l := by
 rw [List.getD_eq_getElem?_getD, List.getElem?_eq_getElem h]; exact List.getElem_mem h
theorem pV {l : List Nat} {a b : Nat} (ha : a ∈ l) (hb : b ∈ l) (h : ixN l a = ixN l b) : a = b := by
 have h1 := (dV ha).2
 have h2 := (dV hb).2
 rw [← h1, ← h2, h]
theorem zT : ∀ {l m : List Nat}, l.Nodup → (∀ a ∈ l, a ∈ m) → l.length ≤ m.length
 | [], m, _, _ => Nat.zero_le _
 | a :: l, m, hn, hs => by
  have ha : a ∈ m := hs a (by simp)
  have := zT (l := l) (m := m.erase a) (List.nodup_cons.1 hn).2 fun b hb => by
   have hne : b ≠ a := fun e => (List.nodup_cons.1 hn).1 (e ▸ hb)
   exact (List.mem_erase_of_ne hne).2 (hs b (by simp [hb]))
  rw [List.length_erase_of_mem ha] at this
  have := List.length_pos_of_mem ha
  simp only [List.length_cons]; omega
theorem nodup_all {l m : List Nat} (hn : l.Nodup) (hs : ∀ a ∈ l, a ∈ m) (hl : m.length ≤ l.length) : ∀ a ∈ m, a ∈ l := by
 intro a ha
 apply Classical.byContradiction
 intro hna
 have h := zT (l := a :: l) (m := m) (List.nodup_cons.2 ⟨hna, hn⟩) fun b hb => by
  rcases List.mem_cons.1 hb with rfl | hb
  ·exact ha
  ·exact hs b hb
 simp only [List.length_cons] at h; omega
structure Evn where
 n : Nat
 st : Nat → Prop
 ld : Nat → Prop
 nf : Nat → Prop
 bg : Nat → Prop
 addr : Nat → Int
 hart : Nat → Int
 src : Nat → Nat
 co : Nat → Nat → Prop
 ppo : Nat → Nat → Prop
namespace Evn
variable (E : Evn)
def po (a b : Nat) : Prop := a < b ∧ 0 ≤ E.hart a ∧ E.hart a = E.hart b
def is (a : Nat) : Prop := a < E.n ∧ E.nf a
def fr (a b : Nat) : Prop := a ≠ b ∧ E.ld a ∧ E.co (E.src a) b
def rf (a b : Nat) : Prop := E.ld b ∧ E.src b = a
def coh (a b : Nat) : Prop := E.is a ∧ E.is b ∧ (E.rf a b ∨ E.co a b ∨ E.fr a b ∨ (E.po a b ∧ E.addr a = E.addr b))
def glo (a b : Nat) : Prop := E.is a ∧ E.is b ∧ (E.ppo a b ∨ E.co a b ∨ E.fr a b ∨ (E.rf a b ∧ E.hart a ≠ E.hart b))
structure Ok : Prop where
 src : ∀ b, E.is b → E.ld b → E.is (E.src b) ∧ E.st (E.src b) ∧ E.addr (E.src b) = E.addr b ∧ E.src b ≠ b
 co : ∀ a b, E.co a b → E.st a ∧ E.st b ∧ E.addr a = E.addr b ∧ a ≠ b
 tot : ∀ a b, E.is a → E.is b → E.st a → E.st b → E.addr a = E.addr b → a ≠ b → E.co a b ∨ E.co b a
 trans : ∀ a b c, E.co a b → E.co b c → E.co a c
 ppo : ∀ a b, E.ppo a b → E.po a b ∧ E.is a ∧ E.is b
 r1 : ∀ a b, E.is a → E.is b → E.po a b → E.addr a = E.addr b → E.st b → E.ppo a b
 r2 : ∀ a b, E.is a → E.is b → E.po a b → E.addr a = E.addr b → E.ld a → E.ld b → E.src a ≠ E.src b → E.ppo a b ∨ ∃ m, E.is m ∧ E.st m ∧ E.addr m = E.addr a ∧ E.po a m ∧ E.po m b
 kind : ∀ a, E.is a → E.st a ∨ E.ld a
 beg : ∀ b, E.is b → E.bg b → E.hart b < 0 ∧ ¬ E.ld b ∧ E.st b ∧ ∀ a, ¬ E.co a b
 hart : ∀ b, E.is b → ¬ E.bg b → 0 ≤ E.hart b
def cand (o : List Nat) (n m : Nat) : Prop := m ≠ n ∧ E.st m ∧ E.addr m = E.addr n ∧ (ixN o m < ixN o n ∨ E.po m n)
def sees (o : List Nat) (n f : Nat) : Prop := f ∈ o ∧ E.cand o n f ∧ ∀ m ∈ o, E.cand o n m → ixN o m ≤ ixN o f
structure right (o : List Nat) : Prop where
 fwd : ∀ a ∈ o, ∀ b ∈ o, (E.ppo a b ∨ E.co a b) → ixN o a < ixN o b
 see : ∀ a ∈ o, E.ld a → E.sees o a (E.src a)
def Up (r : Nat → Nat → Prop) : Prop := ∃ t : Nat → Nat, ∀ a b, r a b → t a < t b
variable {E}
theorem mR {a b c : Nat} (h : E.po a b) (h' : E.po b c) : E.po a c := ⟨Nat.lt_trans h.1 h'.1, h.2.1, h.2.2.trans h'.2.2⟩
theorem right_of (hE : E.Ok) (hc : Up E.coh) {o : List Nat} (ho : ∀ a, a ∈ o ↔ E.is a) (hg : ∀ a ∈ o, ∀ b ∈ o, E.glo a b → ixN o a < ixN o b) : E.right o := by
 obtain ⟨t, ht⟩ := hc
 refine ⟨fun a ha b hb h => hg a ha b hb ⟨(ho a).1 ha, (ho b).1 hb, h.elim Or.inl fun h => Or.inr (Or.inl h)⟩, fun n hn hl => ?_⟩
 have in' := (ho n).1 hn
 obtain ⟨sf, s1, s2, s3⟩ := hE.src n in' hl
 have hf := (ho _).2 sf
 have hrf : E.rf (E.src n) n := ⟨hl, rfl⟩
 refine ⟨hf, ⟨s3, s1, s2, ?_⟩, fun m hm hcm => ?_⟩
 ·by_cases hh : E.hart (E.src n) = E.hart n
  ·have h0 : 0 ≤ E.hart n := hE.hart n in' fun hb => (hE.beg n in' hb).2.1 hl
   rcases Nat.lt_or_ge (E.src n) n with h1 | h1
   ·exact Or.inr ⟨h1, by rw [hh]; exact h0, hh⟩
   ·exfalso
    have e1 := ht _ _ ⟨in', sf, Or.inr (Or.inr (Or.inr ⟨⟨by omega, h0, hh.symm⟩, s2.symm⟩))⟩
    have e2 := ht _ _ ⟨sf, in', Or.inl hrf⟩
    omega
  ·exact Or.inl (hg _ hf _ hn ⟨sf, in', Or.inr (Or.inr (Or.inr ⟨hrf, hh⟩))⟩)
 ·obtain ⟨c1, c2, c3, c4⟩ := hcm
  have im := (ho m).1 hm
  by_cases hmf : m = E.src n
  ·rw [hmf]; exact Nat.le_refl _
  rcases hE.tot m (E.src n) im sf c2 s1 (c3.trans s2.symm) hmf with h | h
  ·exact Nat.le_of_lt (hg _ hm _ hf ⟨im, sf, Or.inr (Or.inl h)⟩)
  ·exfalso
   have hfr : E.fr n m := ⟨Ne.symm c1, hl, h⟩
   have e1 := hg _ hn _ hm ⟨in', im, Or.inr (Or.inr (Or.inl hfr))⟩
   rcases c4 with c4 | c4
   ·omega
   ·have e2 := ht _ _ ⟨im, in', Or.inr (Or.inr (Or.inr ⟨c4, c3⟩))⟩
    have e3 := ht _ _ ⟨in', im, Or.inr (Or.inr (Or.inl hfr))⟩
    omega
theorem qW (hE : E.Ok) {o : List Nat} (ho : ∀ a, a ∈ o ↔ E.is a) (hr : E.right o) {n m : Nat} (hn : E.is n) (hm : E.is m) (h : E.fr n m) : ixN o n < ixN o m := by
 obtain ⟨h1, h2, h3⟩ := h
 obtain ⟨sf, s1, s2, s3⟩ := hE.src n hn h2
 obtain ⟨_, _, hs⟩ := hr.see n ((ho n).2 hn) h2
 obtain ⟨q1, q2, q3, q4⟩ := hE.co _ _ h3
 have e1 := hr.fwd _ ((ho _).2 sf) _ ((ho m).2 hm) (Or.inr h3)
 rcases Nat.lt_trichotomy (ixN o n) (ixN o m) with h | h | h
 ·exact h
 ·exact absurd (pV ((ho n).2 hn) ((ho m).2 hm) h) h1
 ·have := hs m ((ho m).2 hm) ⟨Ne.symm h1, q2, q3.symm.trans s2, Or.inl h⟩
  omega
theorem glo_fwd (hE : E.Ok) {o : List Nat} (ho : ∀ a, a ∈ o ↔ E.is a) (hr : E.right o) {a b : Nat} (h : E.glo a b) : ixN o a < ixN o b := by
 obtain ⟨ia, ib, h | h | h | ⟨h, hh⟩⟩ := h
 ·exact hr.fwd _ ((ho a).2 ia) _ ((ho b).2 ib) (Or.inl h)
 ·exact hr.fwd _ ((ho a).2 ia) _ ((ho b).2 ib) (Or.inr h)
 ·exact qW hE ho hr ia ib h
 ·obtain ⟨h1, rfl⟩ := h
  obtain ⟨_, ⟨_, _, _, h2⟩, _⟩ := hr.see b ((ho b).2 ib) h1
  exact h2.resolve_right fun hp => hh hp.2.2
open Classical in
noncomputable def key (E : Evn) (o : List Nat) (a : Nat) : Nat := if E.st a then 2 * ixN o a else 2 * ixN o (E.src a) + 1
theorem aC {o : List Nat} {a : Nat} (h : E.st a) : E.key o a = 2 * ixN o a := if_pos h
theorem bC {o : List Nat} {a : Nat} (h : ¬ E.st a) : E.key o a = 2 * ixN o (E.src a) + 1 := if_neg h
theorem coh_key (hE : E.Ok) {o : List Nat} (ho : ∀ a, a ∈ o ↔ E.is a) (hr : E.right o) {a b : Nat} (h : E.coh a b) : E.key o a < E.key o b ∨ (E.key o a ≤ E.key o b ∧ a < b) := by
 obtain ⟨ia, ib, h | h | h | ⟨h, hd⟩⟩ := h
 ·-- what is read
  obtain ⟨h1, rfl⟩ := h
  obtain ⟨sf, s1, s2, s3⟩ := hE.src b ib h1
  rw [aC s1]
  by_cases hs : E.st b
  ·rw [aC hs]
   left
   obtain ⟨_, ⟨_, _, _, h2⟩, _⟩ := hr.see b ((ho b).2 ib) h1
   have : ixN o (E.src b) < ixN o b := by
    rcases h2 with h2 | h2
    ·exact h2
    ·exact hr.fwd _ ((ho _).2 sf) _ ((ho b).2 ib) (Or.inl (hE.r1 _ _ sf ib h2 s2 hs))
   omega
  ·rw [bC hs]; left; omega
 ·obtain ⟨q1, q2, _, _⟩ := hE.co _ _ h
  rw [aC q1, aC q2]
  have := hr.fwd _ ((ho a).2 ia) _ ((ho b).2 ib) (Or.inr h)
  left; omega
 ·obtain ⟨q1, q2, q3, _⟩ := hE.co _ _ h.2.2
  rw [aC q2]
  by_cases hs : E.st a
  ·rw [aC hs]
   have := qW hE ho hr ia ib h
   left; omega
  ·rw [bC hs]
   obtain ⟨sf, _⟩ := hE.src a ia h.2.1
   have := hr.fwd _ ((ho _).2 sf) _ ((ho b).2 ib) (Or.inr h.2.2)
   left; omega
 ·-- a store b behind a, of one hart
  have stb : ∀ a b, E.is a → E.is b → E.po a b → E.addr a = E.addr b → E.st b → E.key o a < E.key o b := fun a b ia ib h hd hs => by
   have hab := hr.fwd _ ((ho a).2 ia) _ ((ho b).2 ib) (Or.inl (hE.r1 a b ia ib h hd hs))
   rw [aC hs]
   by_cases ha : E.st a
   ·rw [aC ha]; omega
   ·rw [bC ha]
    have hl := (hE.kind a ia).resolve_left ha
    obtain ⟨sf, s1, s2, s3⟩ := hE.src a ia hl
    obtain ⟨_, ⟨_, _, _, h2⟩, _⟩ := hr.see a ((ho a).2 ia) hl
    have : ixN o (E.src a) < ixN o b := by
     rcases h2 with h2 | h2
     ·omega
     ·exact hr.fwd _ ((ho _).2 sf) _ ((ho b).2 ib) (Or.inl (hE.r1 _ _ sf ib (mR h2 h) (s2.trans hd) hs))
    omega
  -- a store a ahead of a load b
  have sta : ∀ a b, E.is a → E.is b → E.po a b → E.addr a = E.addr b → E.st a → ¬ E.st b → E.key o a < E.key o b := fun a b ia ib h hd hs hb => by
   rw [aC hs, bC hb]
   have hl := (hE.kind b ib).resolve_left hb
   obtain ⟨_, _, h2⟩ := hr.see b ((ho b).2 ib) hl
   have := h2 a ((ho a).2 ia) ⟨Nat.ne_of_lt h.1, hs, hd, Or.inr h⟩
   omega
  by_cases hb : E.st b
  ·exact Or.inl (stb a b ia ib h hd hb)
  by_cases ha : E.st a
  ·exact Or.inl (sta a b ia ib h hd ha hb)
  have la := (hE.kind a ia).resolve_left ha
  have lb := (hE.kind b ib).resolve_left hb
  right
  refine ⟨?_, h.1⟩
  rw [bC ha, bC hb]
  by_cases hs : E.src a = E.src b
  ·rw [hs]; exact Nat.le_refl _
  rcases hE.r2 a b ia ib h hd la lb hs with hp | ⟨m, im, m1, m2, m3, m4⟩
  ·obtain ⟨sf, s1, s2, s3⟩ := hE.src a ia la
   obtain ⟨_, ⟨_, _, _, h2⟩, _⟩ := hr.see a ((ho a).2 ia) la
   obtain ⟨_, _, h3⟩ := hr.see b ((ho b).2 ib) lb
   have hab := hr.fwd _ ((ho a).2 ia) _ ((ho b).2 ib) (Or.inl hp)
   have hne : E.src a ≠ b := fun e => hb (e ▸ s1)
   have := h3 _ ((ho _).2 sf) ⟨hne, s1, s2.trans hd, h2.imp (fun h => Nat.lt_trans h hab) fun h2 => mR h2 h⟩
   omega
  ·have e1 := stb a m ia im m3 m2.symm m1
   have e2 := sta m b im ib m4 (m2.trans hd) m1 hb
   rw [bC ha] at e1
   rw [bC hb] at e2
   omega
theorem coh_up (hE : E.Ok) {o : List Nat} (ho : ∀ a, a ∈ o ↔ E.is a) (hr : E.right o) : Up E.coh := by
 refine ⟨fun a => E.key o a * (E.n + 1) + a, fun a b h => ?_⟩
 have ha : a < E.n := h.1.1
 rcases coh_key hE ho hr h with h1 | ⟨h1, h2⟩
 ·have : (E.key o a + 1) * (E.n + 1) ≤ E.key o b * (E.n + 1) := Nat.mul_le_mul_right _ h1
  rw [Nat.succ_mul] at this
  show E.key o a * (E.n + 1) + a < E.key o b * (E.n + 1) + b
  omega
 ·have : E.key o a * (E.n + 1) ≤ E.key o b * (E.n + 1) := Nat.mul_le_mul_right _ h1
  show E.key o a * (E.n + 1) + a < E.key o b * (E.n + 1) + b
  omega
theorem glo_up (hE : E.Ok) {o : List Nat} (ho : ∀ a, a ∈ o ↔ E.is a) (hr : E.right o) : Up E.glo := ⟨ixN o, fun _ _ h => glo_fwd hE ho hr h⟩
theorem no_beg (hE : E.Ok) {a b : Nat} (h : E.glo a b) : ¬ E.bg b := fun hb => by
 obtain ⟨ia, ib, h⟩ := h
 obtain ⟨h1, h2, _, h4⟩ := hE.beg b ib hb
 rcases h with h | h | h | h
 ·obtain ⟨hp, _, _⟩ := hE.ppo _ _ h
  have := hp.2.1
  have := hp.2.2
  omega
 ·exact h4 a h
 ·exact h4 _ h.2.2
 ·exact h2 h.1.1
theorem sorted_fwd (hE : E.Ok) {t : Nat → Nat} (ht : ∀ a b, E.glo a b → t a < t b) {bs rs : List Nat} (hb : ∀ a, a ∈ bs ↔ E.is a ∧ E.bg a) (hr : ∀ a, a ∈ rs ↔ E.is a ∧ ¬ E.bg a) (hnb : bs.Nodup) (hnr : rs.Nodup) (hs : rs.Pairwise fun a b => t a ≤ t b) :
  (bs ++ rs).Nodup ∧ (∀ a, a ∈ bs ++ rs ↔ E.is a) ∧ ∀ a ∈ bs ++ rs, ∀ b ∈ bs ++ rs, E.glo a b → ixN (bs ++ rs) a < ixN (bs ++ rs) b := by
 have hnd : (bs ++ rs).Nodup := List.nodup_append.2 ⟨hnb, hnr, fun a ha b hb' e => ((hr b).1 hb').2 (e ▸ ((hb a).1 ha).2)⟩
 refine ⟨hnd, fun a => ?_, fun a ha b hb' h => ?_⟩
 ·rw [List.mem_append, hb, hr]
  constructor
  ·rintro (h | h) <;> exact h.1
  ·intro h
   rcases Classical.em (E.bg a) with e | e
   ·exact Or.inl ⟨h, e⟩
   ·exact Or.inr ⟨h, e⟩
 ·have htab := ht a b h
  have hbn := no_beg hE h
  have hbr : b ∈ rs := (hr b).2 ⟨h.2.1, hbn⟩
  apply Classical.byContradiction
  intro hlt
  obtain ⟨a1, a2⟩ := dV ha
  obtain ⟨b1, b2⟩ := dV hb'
  have hne : ixN (bs ++ rs) a ≠ ixN (bs ++ rs) b := fun e => by
   have := pV ha hb' e
   subst this; omega
  have hba : ixN (bs ++ rs) b < ixN (bs ++ rs) a := by omega
  have hbs : bs.length ≤ ixN (bs ++ rs) b := by
   apply Classical.byContradiction
   intro hl
   have hl : ixN (bs ++ rs) b < bs.length := by omega
   have e : (bs ++ rs).getD (ixN (bs ++ rs) b) 0 = bs.getD (ixN (bs ++ rs) b) 0 := by
    rw [List.getD_eq_getElem?_getD, List.getElem?_append_left hl, ← List.getD_eq_getElem?_getD]
   rw [e] at b2
   exact hbn (((hb b).1 (b2 ▸ getD_memN hl)).2)
  have key : ∀ i, bs.length ≤ i → i < (bs ++ rs).length → (bs ++ rs).getD i 0 = rs.getD (i - bs.length) 0 ∧ i - bs.length < rs.length := fun i h1 h2 => by
   rw [List.length_append] at h2
   exact ⟨by rw [List.getD_eq_getElem?_getD, List.getElem?_append_right h1, ← List.getD_eq_getElem?_getD], by omega⟩
  obtain ⟨ka, la⟩ := key _ (Nat.le_trans hbs (Nat.le_of_lt hba)) a1
  obtain ⟨kb, lb⟩ := key _ hbs b1
  have hp := List.pairwise_iff_getElem.1 hs _ _ lb la (by omega)
  rw [ka, List.getD_eq_getElem?_getD, List.getElem?_eq_getElem la] at a2
  rw [kb, List.getD_eq_getElem?_getD, List.getElem?_eq_getElem lb] at b2
  simp only [Option.getD_some] at a2 b2
  rw [a2, b2] at hp
  omega
end Evn
def tryB (R : List Nat → Bool) (all : List Nat) : Nat → List Nat → Bool
 | 0, o => R o
 | k + 1, o => all.any fun a => !o.contains a && tryB R all k (o ++ [a])
theorem gT (R : List Nat → Bool) (all : List Nat) : ∀ (k : Nat) (o : List Nat), tryB R all k o = true ↔ ∃ r, r.length = k ∧ (∀ a ∈ r, a ∈ all ∧ a ∉ o) ∧ r.Nodup ∧ R (o ++ r) = true
 | 0, o => by
  unfold tryB
  constructor
  ·intro h; exact ⟨[], rfl, by simp, by simp, by simpa using h⟩
  ·rintro ⟨r, h1, _, _, h2⟩
   have := List.eq_nil_of_length_eq_zero h1
   subst this
   simpa using h2
 | k + 1, o => by
  unfold tryB
  rw [List.any_eq_true]
  constructor
  ·rintro ⟨a, ha, h⟩
   simp only [Bool.and_eq_true, Bool.not_eq_true', List.contains_eq_mem, decide_eq_false_iff_not] at h
   obtain ⟨r, h1, h2, h3, h4⟩ := (gT R all k (o ++ [a])).1 h.2
   refine ⟨a :: r, by simp [h1], fun b hb => ?_, List.nodup_cons.2 ⟨fun hm => (h2 a hm).2 (by simp), h3⟩, by simpa using h4⟩
   rcases List.mem_cons.1 hb with rfl | hb
   ·exact ⟨ha, h.1⟩
   ·exact ⟨(h2 b hb).1, fun hm => (h2 b hb).2 (by simp [hm])⟩
  ·rintro ⟨r, h1, h2, h3, h4⟩
   match r, h1 with
   | a :: r, h1 =>
    refine ⟨a, (h2 a (by simp)).1, ?_⟩
    simp only [Bool.and_eq_true, Bool.not_eq_true', List.contains_eq_mem, decide_eq_false_iff_not]
    refine ⟨(h2 a (by simp)).2, (gT R all k (o ++ [a])).2 ⟨r, by simpa using h1, fun b hb => ⟨(h2 b (by simp [hb])).1, fun hm => ?_⟩, (List.nodup_cons.1 h3).2, by simpa using h4⟩⟩
    rcases List.mem_append.1 hm with hm | hm
    ·exact (h2 b (by simp [hb])).2 hm
    ·simp only [List.mem_singleton] at hm
     subst hm
     exact (List.nodup_cons.1 h3).1 hb
theorem Evn.main {E : Evn} (hE : E.Ok) {R : List Nat → Bool} {bs all : List Nat} (hb : ∀ a, a ∈ bs ↔ E.is a ∧ E.bg a) (ha : ∀ a, a ∈ all ↔ E.is a) (hnb : bs.Nodup) (hna : all.Nodup)
  (hR : ∀ o, o.Nodup → (∀ a, a ∈ o ↔ E.is a) → (R o = true ↔ E.right o)) : tryB R all (all.length - bs.length) bs = true ↔ Up E.coh ∧ Up E.glo := by
 rw [gT]
 constructor
 ·rintro ⟨r, h1, h2, h3, h4⟩
  have hnd : (bs ++ r).Nodup := List.nodup_append.2 ⟨hnb, h3, fun a h b h' e => (h2 b h').2 (e ▸ h)⟩
  have hle := zT hnb (m := all) fun a h => (ha a).2 ((hb a).1 h).1
  have hsub : ∀ a ∈ bs ++ r, a ∈ all := fun a h => by
   rcases List.mem_append.1 h with h | h
   ·exact (ha a).2 ((hb a).1 h).1
   ·exact (h2 a h).1
  have hall := nodup_all hnd hsub (by rw [List.length_append, h1]; omega)
  have ho : ∀ a, a ∈ bs ++ r ↔ E.is a := fun a => ⟨fun h => (ha a).1 (hsub a h), fun h => hall a ((ha a).2 h)⟩
  have hr := (hR _ hnd ho).1 h4
  exact ⟨coh_up hE ho hr, glo_up hE ho hr⟩
 ·rintro ⟨hc, t, ht⟩
  have hmem : ∀ a, a ∈ (all.filter fun a => !bs.contains a).mergeSort (fun a b => decide (t a ≤ t b)) ↔ E.is a ∧ ¬ E.bg a := fun a => by
   rw [(List.mergeSort_perm _ _).mem_iff, List.mem_filter, ha]
   simp only [Bool.not_eq_true', List.contains_eq_mem, decide_eq_false_iff_not, hb]
   exact ⟨fun h => ⟨h.1, fun h' => h.2 ⟨h.1, h'⟩⟩, fun h => ⟨h.1, fun h' => h.2 h'.2⟩⟩
  have hsort : ((all.filter fun a => !bs.contains a).mergeSort (fun a b => decide (t a ≤ t b))).Pairwise fun a b => t a ≤ t b :=
   (List.pairwise_mergeSort (le := fun a b => decide (t a ≤ t b)) (fun a b c h1 h2 => by simp at *; omega) (fun a b => by simp; omega) _).imp (by simp)
  have hnr : ((all.filter fun a => !bs.contains a).mergeSort (fun a b => decide (t a ≤ t b))).Nodup := (List.mergeSort_perm _ _).nodup_iff.2 (hna.filter _)
  have hlen : (all.filter fun a => !bs.contains a).length + bs.length = all.length := by
   have h1 : (all.filter fun a => bs.contains a).length = bs.length := by
    refine Nat.le_antisymm (zT (hna.filter _) fun a h => ?_) (zT hnb fun a h => ?_)
    ·simpa using (List.mem_filter.1 h).2
    ·exact List.mem_filter.2 ⟨(ha a).2 ((hb a).1 h).1, by simpa using h⟩
   have h2 := List.length_eq_countP_add_countP (fun a => bs.contains a) (l := all)
   rw [List.countP_eq_length_filter, List.countP_eq_length_filter] at h2
   have h3 : (List.filter (fun a => decide ¬ (bs.contains a = true)) all) = all.filter fun a => !bs.contains a := List.filter_congr fun a _ => by cases bs.contains a <;> simp
   rw [h3] at h2
   omega
  obtain ⟨q1, q2, q3⟩ := sorted_fwd hE ht hb hmem hnb hnr hsort
  refine ⟨_, ?_, fun a h => ?_, hnr, (hR _ q1 q2).2 (right_of hE hc q2 q3)⟩
  ·rw [List.length_mergeSort]; omega
  ·have := (hmem a).1 h
   exact ⟨(ha a).2 this.1, fun h' => this.2 ((hb a).1 h').2⟩
set_option maxHeartbeats 4000000
set_option maxRecDepth 100000
def atFrom (n : Int) : List Int → Nat → Int
 | [], _ => -1
 | a :: l, k => if a = n then k else atFrom n l (k + 1)
def atI (l : List Int) (n : Int) : Int := atFrom n l 0
theorem bF (l : List Int) (n : Int) (k : Nat) (h : k < l.length) : atFrom n (l.drop k) k = if l.getD k 0 = n then (k : Int) else atFrom n (l.drop (k + 1)) (k + 1) := by
 rw [List.drop_eq_getElem_cons h, atFrom, List.getD_eq_getElem?_getD, List.getElem?_eq_getElem h]; rfl
theorem rstores_p (e : Ev) : Pure E.P 32 [evOV e] (.bool e.stB) := by
 refine fnA Tryz.func32 Tryz.ntmps32 ?_
 refine run ?_; refine aoR fun _ => ?_
 refine run ?_; refine aoR fun _ => ?_
 refine run ?_; rotate_left
 all_goals (refine vI rfl ?_; rw [Bool.eq_iff_iff]; simp_all [Ev.stB])
theorem rloads_p (e : Ev) : Pure E.P 31 [evOV e] (.bool e.ldB) := by
 refine fnA Tryz.func31 Tryz.ntmps31 ?_
 refine run ?_; refine aoR fun _ => ?_
 refine run ?_; refine aoR fun _ => ?_
 refine run ?_; rotate_left
 all_goals (refine vI rfl ?_; rw [Bool.eq_iff_iff]; simp_all [Ev.ldB])
def Ev.rbareB (e : Ev) : Bool :=
 if e.kind < 1 ∨ 5 < e.kind ∨ e.pred < 0 ∨ 3 < e.pred ∨ e.succ < 0 ∨ 3 < e.succ then false
 else if e.kind ≠ 4 ∧ (e.pred ≠ 0 ∨ e.succ ≠ 0) ∨ (e.kind = 4 ∨ e.kind = 5) ∧ (e.aq = true ∨ e.rl = true) ∨ e.kind ≠ 1 ∧ e.kind ≠ 2 ∧ e.rsv = true then false
 else if e.stB = false ∧ e.val ≠ 0 ∨ e.ldB = false ∧ e.rval ≠ 0 ∨ e.kind = 4 ∧ e.addr ≠ 0 then false
 else (decide (e.kind = 2) || decide (e.kind = 3) || decide ((e.datas.length : Int) = 0)) && (decide (e.kind < 4) || decide ((e.addrs.length : Int) = 0)) && (decide (e.kind < 5) || decide ((e.ctrls.length : Int) = 0) && decide (e.hart = -1))
set_option maxHeartbeats 4000000 in
theorem rbare_p (e : Ev) : Pure E.P 29 [evOV e] (.bool e.rbareB) := by
 refine fnA Tryz.func29 Tryz.ntmps29 ?_
 refine run ?_; refine aoR fun _ => ?_
 refine run ?_; refine aoR fun _ => ?_
 refine run ?_; refine aoR fun _ => ?_
 refine run ?_; refine cnd ?_ ?_
 refine yS (fun hc_ => ?_); (try simp only [nrm] at hc_)
 refine run ?_; refine aoR fun _ => ?_
 refine run ?_; rotate_left
 iterate 5 refine yT ?_
 iterate 6 refine uR fun _ => ?_; try omega
 refine run ?_; refine aoR fun _ => ?_
 refine run ?_; refine cnd ?_ ?_
 refine yS (fun hc_ => ?_); (try simp only [nrm] at hc_)
 refine run ?_; refine aoR fun _ => ?_
 refine run ?_; rotate_left
 iterate 2 refine yT ?_
 iterate 3 (refine xZ (fun hc_ => ?_); (try simp only [nrm] at hc_))
 refine run ?_; refine aoR fun _ => ?_
 refine run ?_
 apply uO; exact rfl; exact .fn _ _ _; exact rfl; (exact rstores_p _)
 refine run ?_
 apply spF; exact rfl
 intro hc_
 have hp_ := hc_; try simp only [nrm] at hp_
 apply wA; exact .plain rfl rfl; exact .fn _ _ _; exact xJ; (exact rloads_p _)
 refine run ?_; refine cnd ?_ ?_
 refine yS (fun hc_ => ?_); (try simp only [nrm] at hc_)
 refine run ?_; refine aoR fun _ => ?_
 refine run ?_; rotate_left
 iterate 2 refine yT ?_
 iterate 3 (refine xZ (fun hc_ => ?_); (try simp only [nrm] at hc_))
 refine run ?_; refine aoR fun _ => ?_
 refine run ?_; rotate_left
 all_goals refine vI rfl ?_
 all_goals unfold Ev.rbareB
 all_goals first | grind | rw [if_neg (by grind), if_neg (by grind), if_neg (by grind)]
end Go.Proofs.YtnkocjkkefnelaaGreat
