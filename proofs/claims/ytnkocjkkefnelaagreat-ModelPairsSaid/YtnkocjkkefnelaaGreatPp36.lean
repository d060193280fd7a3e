/- Parts. -/
import Derived.Test.YtnkocjkkefnelaaGreatPp4
import Derived.Test.YtnkocjkkefnelaaGreatPp6
import Derived.Test.YtnkocjkkefnelaaGreatPp7
import Derived.Test.YtnkocjkkefnelaaGreatPp17
import Derived.Test.YtnkocjkkefnelaaGreatPp24
import Derived.Test.YtnkocjkkefnelaaGreatPp33
import Derived.Test.YtnkocjkkefnelaaGreatPp34
import Derived.Test.YtnkocjkkefnelaaGreatPp35
set_option linter.unusedVariables false
set_option linter.unusedSimpArgs false
set_option maxHeartbeats 4000000
set_option maxHeartbeats 4000000
set_option maxRecDepth 100000
namespace Go.Proofs.YtnkocjkkefnelaaGreat
open Go.RowKit
def ev8 (hart kind val rval : Int) : Ev := ⟨hart, kind, 0, val, rval, false, false, 0, 0, false, ⟨none, 0, 0⟩, ⟨none, 0, 0⟩, ⟨none, 0, 0⟩, [], [], []⟩
def kx8 : Ex := ⟨default, default, default, [ev8 (-1) 5 0 0, ev8 0 2 1 0, ev8 0 1 0 0], [-1, -1, 0], [(default, [0, 1])]⟩
def ky8 : Ex := ⟨default, default, default, [ev8 (-1) 5 0 0, ev8 0 2 1 0, ev8 0 1 0 1], [-1, -1, 1], [(default, [0, 1])]⟩
theorem oQ {l : List Int} (h : l.Pairwise fun a b => decide (a ≤ b) = true) : sortI l = l := by
 unfold sortI
 exact List.mergeSort_of_pairwise h
theorem kx8_ok : kx8.fit := by
 refine ⟨⟨by decide, fun e he => ?_, by decide, by decide, by decide⟩, by decide⟩
 simp only [kx8, List.mem_cons, List.not_mem_nil, or_false] at he
 rcases he with rfl | rfl | rfl <;> (unfold Ev.ok Ev.wf ev8; decide)
theorem ky8_ok : ky8.fit := by
 refine ⟨⟨by decide, fun e he => ?_, by decide, by decide, by decide⟩, by decide⟩
 simp only [ky8, List.mem_cons, List.not_mem_nil, or_false] at he
 rcases he with rfl | rfl | rfl <;> (unfold Ev.ok Ev.wf ev8; decide)
theorem kx8_check : checkI kx8 = 0 := by
 have h1 : addrsTo kx8.evs = [0] := by decide
 have h2 : evsTo kx8.evs [0] kx8.evs.length = true := by decide
 have h3 : fromB kx8.evs kx8.from_ = true := by decide
 have h4 : orderB kx8.evs [0] kx8.order = true := by
  unfold orderB rowsTo
  rw [show List.range kx8.order.length = [0] from rfl]
  simp only [List.all_cons, List.all_nil, Bool.and_true]
  have : sortI [0, 1] = [0, 1] := oQ (by decide)
  unfold rowOk
  rw [show (kx8.order.getD 0 default).2 = [0, 1] from rfl, this]
  decide
 unfold checkI
 rw [h1, h2, h3, h4]
 rfl
theorem ky8_check : checkI ky8 = 0 := by
 have h1 : addrsTo ky8.evs = [0] := by decide
 have h2 : evsTo ky8.evs [0] ky8.evs.length = true := by decide
 have h3 : fromB ky8.evs ky8.from_ = true := by decide
 have h4 : orderB ky8.evs [0] ky8.order = true := by
  unfold orderB rowsTo
  rw [show List.range ky8.order.length = [0] from rfl]
  simp only [List.all_cons, List.all_nil, Bool.and_true]
  have : sortI [0, 1] = [0, 1] := oQ (by decide)
  unfold rowOk
  rw [show (ky8.order.getD 0 default).2 = [0, 1] from rfl, this]
  decide
 unfold checkI
 rw [h1, h2, h3, h4]
 rfl
theorem kx8_not : allowT kx8 = (false, 0) := by
 unfold allowT
 rw [kx8_check, if_pos rfl, show allowB kx8 = false by decide +kernel]
theorem ky8_is : allowT ky8 = (true, 0) := by
 unfold allowT
 rw [ky8_check, if_pos rfl, show allowB ky8 = true by decide +kernel]
set_option maxHeartbeats 4000000 in
theorem known8_p : Pure E.P 14 [] (.bool true) := by
 have hX := iK kx8 kx8_ok (by decide)
 have hY := iK ky8 ky8_ok (by decide)
 rw [kx8_not] at hX
 rw [ky8_is] at hY
 have n7 : NilS 7 := ⟨trivial⟩
 have n8 : NilS 8 := ⟨trivial⟩
 have n9 : NilS 9 := ⟨trivial⟩
 have n20 : NilS 20 := ⟨trivial⟩
 have n21 : NilS 21 := ⟨trivial⟩
 have n22 : NilS 22 := ⟨trivial⟩
 have f10 : Frozen 10 := ⟨trivial⟩
 have f11 : Frozen 11 := ⟨trivial⟩
 have f12 : Frozen 12 := ⟨trivial⟩
 have f13 : Frozen 13 := ⟨trivial⟩
 have f23 : Frozen 23 := ⟨trivial⟩
 have f24 : Frozen 24 := ⟨trivial⟩
 have f25 : Frozen 25 := ⟨trivial⟩
 have f26 : Frozen 26 := ⟨trivial⟩
 refine fnA Tryz.func14 Tryz.ntmps14 ?_
 refine run ?_; refine aoR fun _ => ?_
 refine run ?_; refine aoR fun _ => ?_
 refine run ?_; refine aoR fun _ => ?_
 refine run ?_
 apply uO; exact rfl; exact .fn _ _ _; exact rfl; (exact hX)
 refine run ?_; refine aoR fun _ => ?_
 refine run ?_; refine aoR fun _ => ?_
 refine run ?_
 apply uO; exact rfl; exact .fn _ _ _; exact rfl; (exact hY)
 refine run ?_; refine aoR fun _ => ?_
 refine run ?_; rotate_left
 exact uV rfl rfl
set_option maxHeartbeats 4000000
set_option maxRecDepth 100000
theorem judge_ok {x : Ex} (hc : checkI x = 0) : judT x = (judB x, 0) ∧ allowT x = (allowB x, 0) ∧ arrT x = (gloL x, 0) := by
 unfold judT allowT arrT
 rw [if_pos hc, if_pos hc, if_pos hc]
 exact ⟨rfl, rfl, rfl⟩
set_option maxHeartbeats 4000000
set_option maxRecDepth 100000
def movB (e : Ev) : Bool := decide (e.kind < 4)
def movN (x : Ex) (k : Nat) : Nat := ((x.evs.take k).filter movB).length
theorem movN_le (x : Ex) (k : Nat) : movN x k ≤ x.evs.length := Nat.le_trans (List.length_filter_le _ _) (by simp; omega)
theorem mK {x : Ex} {i : Nat} (h : i < x.evs.length) : movN x (i + 1) = movN x i + bif movB (x.evs.getD i default) then 1 else 0 := by
 unfold movN
 rw [wI x.evs default i h, List.filter_append, List.length_append]
 cases hm : movB (x.evs.getD i default) <;> simp only [List.filter_cons, hm, List.filter_nil] <;> rfl
theorem movN_yes {x : Ex} {i : Nat} (h : i < x.evs.length) (hk : (x.evs.getD i default).kind < 4) : movN x (i + 1) = movN x i + 1 := by
 rw [mK h, show movB (x.evs.getD i default) = true from decide_eq_true hk]; rfl
theorem movN_no {x : Ex} {i : Nat} (h : i < x.evs.length) (hk : ¬ (x.evs.getD i default).kind < 4) : movN x (i + 1) = movN x i := by
 rw [mK h, show movB (x.evs.getD i default) = false from decide_eq_false hk]; rfl
theorem rmoving_p (x : Ex) (hx : x.evs.length ≤ 4096) : Pure E.P 13 [exOV x] (.int .i64 (movN x x.evs.length)) := by
 refine fnA Tryz.func13 Tryz.ntmps13 ?_
 have f1 : Frozen 1 := ⟨trivial⟩
 refine run ?_; refine aoR fun _ => ?_
 refine run ?_; refine aoR fun _ => ?_
 refine run ?_; refine aoR fun _ => ?_
 refine run ?_; rotate_left
 refine uS (X := Nat) (fun i => tmL [(1, .d (.pt (exRow x) 0)), (3, .int .i64 (movN x i)), (4, .int .i64 i)]) (fun _ => stL [])
  (fun i => i ≤ x.evs.length) (fun i => x.evs.length - i) 0 (Nat.zero_le _) leP leP ?_
 intro i hi
 try dsimp only at hi ⊢
 have hle := movN_le x i
 by_cases hlt : i < x.evs.length
 ·refine run ?_
  refine aoR fun _ => ?_; refine run ?_
  refine cnd ?_ ?_
  refine uE fun _ => ?_; try (exfalso; omega)
  refine run ?_; refine aoR fun _ => ?_
  refine run ?_; refine cnd ?_ ?_
  refine uE fun _ => ?_; try (exfalso; omega)
  refine aoR fun _ => ?_; refine run ?_
  refine aoR fun _ => ?_; refine run ?_
  rotate_left
  refine uG fun _ => ?_; try (exfalso; omega)
  refine run ?_; refine aoR fun _ => ?_
  refine run ?_; rotate_left
  refine uG fun _ => ?_; try (exfalso; omega)
  ·rename_i hk _ _
   have hy : movN x (i + 1) = movN x i + 1 := movN_yes hlt (by simpa using hk)
   exact uY (i + 1) (by omega) (by omega) (by repeat' (first | exact vH _ | exact uX _ | refine uH rfl ?_ | refine uR rfl ?_ | (refine uK rfl ?_ ?_; (first | rfl | (rw [hy]; done) | (rw [hy]; rfl) | (rw [hy]; omega) | (simp [hy]; done))) | (refine uI rfl ?_ ?_; (first | rfl | (rw [hy]; done) | (rw [hy]; rfl) | (rw [hy]; omega) | (simp [hy]; done))) | (refine uM rfl ?_ ?_; (first | rfl | (rw [hy]; done) | (rw [hy]; rfl) | (rw [hy]; omega) | (simp [hy]; done))))) leP
  ·rename_i hk _
   have hy : movN x (i + 1) = movN x i := movN_no hlt (by simpa using hk)
   rw [← hy]
   exact uY (i + 1) (by omega) (by omega) leP leP
 ·have he : i = x.evs.length := by omega
  subst he
  refine run ?_; refine aoR fun _ => ?_
  refine run ?_; refine cnd ?_ ?_
  refine uE fun _ => ?_; try (exfalso; omega)
  refine uG fun _ => ?_; try (exfalso; omega)
  refine run ?_; refine aoR fun _ => ?_
  refine run ?_; rotate_left
  exact bF rfl rfl
def ixN : List Nat → Nat → Nat
 | [], _ => 0
 | a :: l, n => if a = n then 0 else ixN l n + 1
theorem yO : ∀ {l : List Nat} {n : Nat}, n ∈ l → ixN l n < l.length ∧ l.getD (ixN l n) 0 = n
 | [], n, h => by cases h
 | a :: l, n, h => by
  unfold ixN
  by_cases e : a = n
  ·rw [if_pos e]; simp [e]
  ·rw [if_neg e]
   obtain ⟨h1, h2⟩ := yO ((List.mem_cons.1 h).resolve_left fun h => e h.symm)
   exact ⟨by simpa using h1, by simpa using h2⟩
theorem wX {l : List Nat} {i : Nat} (h : i < l.length) : l.getD i 0 ∈ l := by
 rw [List.getD_eq_getElem?_getD, List.getElem?_eq_getElem h]; exact List.getElem_mem h
theorem aP : ∀ {l : List Nat} {i : Nat}, l.Nodup → i < l.length → ixN l (l.getD i 0) = i
 | [], i, _, h => by simp at h
 | a :: l, 0, _, _ => by simp [ixN]
 | a :: l, i + 1, hn, h => by
  have h2 : i < l.length := by simpa using h
  have h3 : l.getD i 0 ∈ l := wX h2
  have h4 : a ≠ l.getD i 0 := fun e => (List.nodup_cons.1 hn).1 (e ▸ h3)
  show ixN (a :: l) (l.getD i 0) = i + 1
  unfold ixN
  rw [if_neg h4, aP (List.nodup_cons.1 hn).2 h2]
theorem nQ {l : List Nat} {a b : Nat} (ha : a ∈ l) (hb : b ∈ l) (h : ixN l a = ixN l b) : a = b := by
 have h1 := (yO ha).2
 have h2 := (yO hb).2
 rw [← h1, ← h2, h]
theorem aN : ∀ {l m : List Nat}, l.Nodup → (∀ a ∈ l, a ∈ m) → l.length ≤ m.length
 | [], m, _, _ => Nat.zero_le _
 | a :: l, m, hn, hs => by
  have ha : a ∈ m := hs a (by simp)
  have := aN (l := l) (m := m.erase a) (List.nodup_cons.1 hn).2 fun b hb => by
   have hne : b ≠ a := fun e => (List.nodup_cons.1 hn).1 (e ▸ hb)
   exact (List.mem_erase_of_ne hne).2 (hs b (by simp [hb]))
  rw [List.length_erase_of_mem ha] at this
  have := List.length_pos_of_mem ha
  simp only [List.length_cons]; omega
theorem nodup_all {l m : List Nat} (hn : l.Nodup) (hs : ∀ a ∈ l, a ∈ m) (hl : m.length ≤ l.length) : ∀ a ∈ m, a ∈ l := by
 intro a ha
 apply Classical.byContradiction
 intro hna
 have h := aN (l := a :: l) (m := m) (List.nodup_cons.2 ⟨hna, hn⟩) fun b hb => by
  rcases List.mem_cons.1 hb with rfl | hb
  ·exact ha
  ·exact hs b hb
 simp only [List.length_cons] at h; omega
structure Evn where
 n : Nat
 st : Nat → Prop
 ld : Nat → Prop
 nf : Nat → Prop
 bg : Nat → Prop
 addr : Nat → Int
 hart : Nat → Int
 src : Nat → Nat
 co : Nat → Nat → Prop
 ppo : Nat → Nat → Prop
namespace Evn
variable (E : Evn)
def po (a b : Nat) : Prop := a < b ∧ 0 ≤ E.hart a ∧ E.hart a = E.hart b
def is (a : Nat) : Prop := a < E.n ∧ E.nf a
def fr (a b : Nat) : Prop := a ≠ b ∧ E.ld a ∧ E.co (E.src a) b
def rf (a b : Nat) : Prop := E.ld b ∧ E.src b = a
def coh (a b : Nat) : Prop := E.is a ∧ E.is b ∧ (E.rf a b ∨ E.co a b ∨ E.fr a b ∨ (E.po a b ∧ E.addr a = E.addr b))
def glo (a b : Nat) : Prop := E.is a ∧ E.is b ∧ (E.ppo a b ∨ E.co a b ∨ E.fr a b ∨ (E.rf a b ∧ E.hart a ≠ E.hart b))
structure Ok : Prop where
 src : ∀ b, E.is b → E.ld b → E.is (E.src b) ∧ E.st (E.src b) ∧ E.addr (E.src b) = E.addr b ∧ E.src b ≠ b
 co : ∀ a b, E.co a b → E.st a ∧ E.st b ∧ E.addr a = E.addr b ∧ a ≠ b
 tot : ∀ a b, E.is a → E.is b → E.st a → E.st b → E.addr a = E.addr b → a ≠ b → E.co a b ∨ E.co b a
 trans : ∀ a b c, E.co a b → E.co b c → E.co a c
 ppo : ∀ a b, E.ppo a b → E.po a b ∧ E.is a ∧ E.is b
 r1 : ∀ a b, E.is a → E.is b → E.po a b → E.addr a = E.addr b → E.st b → E.ppo a b
 r2 : ∀ a b, E.is a → E.is b → E.po a b → E.addr a = E.addr b → E.ld a → E.ld b → E.src a ≠ E.src b → E.ppo a b ∨ ∃ m, E.is m ∧ E.st m ∧ E.addr m = E.addr a ∧ E.po a m ∧ E.po m b
 kind : ∀ a, E.is a → E.st a ∨ E.ld a
 beg : ∀ b, E.is b → E.bg b → E.hart b < 0 ∧ ¬ E.ld b ∧ E.st b ∧ ∀ a, ¬ E.co a b
 hart : ∀ b, E.is b → ¬ E.bg b → 0 ≤ E.hart b
def cand (o : List Nat) (n m : Nat) : Prop := m ≠ n ∧ E.st m ∧ E.addr m = E.addr n ∧ (ixN o m < ixN o n ∨ E.po m n)
def sees (o : List Nat) (n f : Nat) : Prop := f ∈ o ∧ E.cand o n f ∧ ∀ m ∈ o, E.cand o n m → ixN o m ≤ ixN o f
structure right (o : List Nat) : Prop where
 fwd : ∀ a ∈ o, ∀ b ∈ o, (E.ppo a b ∨ E.co a b) → ixN o a < ixN o b
 see : ∀ a ∈ o, E.ld a → E.sees o a (E.src a)
def Up (r : Nat → Nat → Prop) : Prop := ∃ t : Nat → Nat, ∀ a b, r a b → t a < t b
variable {E}
theorem oX {a b c : Nat} (h : E.po a b) (h' : E.po b c) : E.po a c := ⟨Nat.lt_trans h.1 h'.1, h.2.1, h.2.2.trans h'.2.2⟩
theorem right_of (hE : E.Ok) (hc : Up E.coh) {o : List Nat} (ho : ∀ a, a ∈ o ↔ E.is a) (hg : ∀ a ∈ o, ∀ b ∈ o, E.glo a b → ixN o a < ixN o b) : E.right o := by
 obtain ⟨t, ht⟩ := hc
 refine ⟨fun a ha b hb h => hg a ha b hb ⟨(ho a).1 ha, (ho b).1 hb, h.elim Or.inl fun h => Or.inr (Or.inl h)⟩, fun n hn hl => ?_⟩
 have in' := (ho n).1 hn
 obtain ⟨sf, s1, s2, s3⟩ := hE.src n in' hl
 have hf := (ho _).2 sf
 have hrf : E.rf (E.src n) n := ⟨hl, rfl⟩
 refine ⟨hf, ⟨s3, s1, s2, ?_⟩, fun m hm hcm => ?_⟩
 ·by_cases hh : E.hart (E.src n) = E.hart n
  ·have h0 : 0 ≤ E.hart n := hE.hart n in' fun hb => (hE.beg n in' hb).2.1 hl
   rcases Nat.lt_or_ge (E.src n) n with h1 | h1
   ·exact Or.inr ⟨h1, by rw [hh]; exact h0, hh⟩
   ·exfalso
    have e1 := ht _ _ ⟨in', sf, Or.inr (Or.inr (Or.inr ⟨⟨by omega, h0, hh.symm⟩, s2.symm⟩))⟩
    have e2 := ht _ _ ⟨sf, in', Or.inl hrf⟩
    omega
  ·exact Or.inl (hg _ hf _ hn ⟨sf, in', Or.inr (Or.inr (Or.inr ⟨hrf, hh⟩))⟩)
 ·obtain ⟨c1, c2, c3, c4⟩ := hcm
  have im := (ho m).1 hm
  by_cases hmf : m = E.src n
  ·rw [hmf]; exact Nat.le_refl _
  rcases hE.tot m (E.src n) im sf c2 s1 (c3.trans s2.symm) hmf with h | h
  ·exact Nat.le_of_lt (hg _ hm _ hf ⟨im, sf, Or.inr (Or.inl h)⟩)
  ·exfalso
   have hfr : E.fr n m := ⟨Ne.symm c1, hl, h⟩
   have e1 := hg _ hn _ hm ⟨in', im, Or.inr (Or.inr (Or.inl hfr))⟩
   rcases c4 with c4 | c4
   ·omega
   ·have e2 := ht _ _ ⟨im, in', Or.inr (Or.inr (Or.inr ⟨c4, c3⟩))⟩
    have e3 := ht _ _ ⟨in', im, Or.inr (Or.inr (Or.inl hfr))⟩
    omega
theorem sY (hE : E.Ok) {o : List Nat} (ho : ∀ a, a ∈ o ↔ E.is a) (hr : E.right o) {n m : Nat} (hn : E.is n) (hm : E.is m) (h : E.fr n m) : ixN o n < ixN o m := by
 obtain ⟨h1, h2, h3⟩ := h
 obtain ⟨sf, s1, s2, s3⟩ := hE.src n hn h2
 obtain ⟨_, _, hs⟩ := hr.see n ((ho n).2 hn) h2
 obtain ⟨q1, q2, q3, q4⟩ := hE.co _ _ h3
 have e1 := hr.fwd _ ((ho _).2 sf) _ ((ho m).2 hm) (Or.inr h3)
 rcases Nat.lt_trichotomy (ixN o n) (ixN o m) with h | h | h
 ·exact h
 ·exact absurd (nQ ((ho n).2 hn) ((ho m).2 hm) h) h1
 ·have := hs m ((ho m).2 hm) ⟨Ne.symm h1, q2, q3.symm.trans s2, Or.inl h⟩
  omega
theorem glo_fwd (hE : E.Ok) {o : List Nat} (ho : ∀ a, a ∈ o ↔ E.is a) (hr : E.right o) {a b : Nat} (h : E.glo a b) : ixN o a < ixN o b := by
 obtain ⟨ia, ib, h | h | h | ⟨h, hh⟩⟩ := h
 ·exact hr.fwd _ ((ho a).2 ia) _ ((ho b).2 ib) (Or.inl h)
 ·exact hr.fwd _ ((ho a).2 ia) _ ((ho b).2 ib) (Or.inr h)
 ·exact sY hE ho hr ia ib h
 ·obtain ⟨h1, rfl⟩ := h
  obtain ⟨_, ⟨_, _, _, h2⟩, _⟩ := hr.see b ((ho b).2 ib) h1
  exact h2.resolve_right fun hp => hh hp.2.2
open Classical in
noncomputable def key (E : Evn) (o : List Nat) (a : Nat) : Nat := if E.st a then 2 * ixN o a else 2 * ixN o (E.src a) + 1
theorem bC {o : List Nat} {a : Nat} (h : E.st a) : E.key o a = 2 * ixN o a := if_pos h
theorem cF {o : List Nat} {a : Nat} (h : ¬ E.st a) : E.key o a = 2 * ixN o (E.src a) + 1 := if_neg h
theorem coh_key (hE : E.Ok) {o : List Nat} (ho : ∀ a, a ∈ o ↔ E.is a) (hr : E.right o) {a b : Nat} (h : E.coh a b) : E.key o a < E.key o b ∨ (E.key o a ≤ E.key o b ∧ a < b) := by
 obtain ⟨ia, ib, h | h | h | ⟨h, hd⟩⟩ := h
 ·-- what is read
  obtain ⟨h1, rfl⟩ := h
  obtain ⟨sf, s1, s2, s3⟩ := hE.src b ib h1
  rw [bC s1]
  by_cases hs : E.st b
  ·rw [bC hs]
   left
   obtain ⟨_, ⟨_, _, _, h2⟩, _⟩ := hr.see b ((ho b).2 ib) h1
   have : ixN o (E.src b) < ixN o b := by
    rcases h2 with h2 | h2
    ·exact h2
    ·exact hr.fwd _ ((ho _).2 sf) _ ((ho b).2 ib) (Or.inl (hE.r1 _ _ sf ib h2 s2 hs))
   omega
  ·rw [cF hs]; left; omega
 ·obtain ⟨q1, q2, _, _⟩ := hE.co _ _ h
  rw [bC q1, bC q2]
  have := hr.fwd _ ((ho a).2 ia) _ ((ho b).2 ib) (Or.inr h)
  left; omega
 ·obtain ⟨q1, q2, q3, _⟩ := hE.co _ _ h.2.2
  rw [bC q2]
  by_cases hs : E.st a
  ·rw [bC hs]
   have := sY hE ho hr ia ib h
   left; omega
  ·rw [cF hs]
   obtain ⟨sf, _⟩ := hE.src a ia h.2.1
   have := hr.fwd _ ((ho _).2 sf) _ ((ho b).2 ib) (Or.inr h.2.2)
   left; omega
 ·-- a store b behind a, of one hart
  have stb : ∀ a b, E.is a → E.is b → E.po a b → E.addr a = E.addr b → E.st b → E.key o a < E.key o b := fun a b ia ib h hd hs => by
   have hab := hr.fwd _ ((ho a).2 ia) _ ((ho b).2 ib) (Or.inl (hE.r1 a b ia ib h hd hs))
   rw [bC hs]
   by_cases ha : E.st a
   ·rw [bC ha]; omega
   ·rw [cF ha]
    have hl := (hE.kind a ia).resolve_left ha
    obtain ⟨sf, s1, s2, s3⟩ := hE.src a ia hl
    obtain ⟨_, ⟨_, _, _, h2⟩, _⟩ := hr.see a ((ho a).2 ia) hl
    have : ixN o (E.src a) < ixN o b := by
     rcases h2 with h2 | h2
     ·omega
     ·exact hr.fwd _ ((ho _).2 sf) _ ((ho b).2 ib) (Or.inl (hE.r1 _ _ sf ib (oX h2 h) (s2.trans hd) hs))
    omega
  -- a store a ahead of a load b
  have sta : ∀ a b, E.is a → E.is b → E.po a b → E.addr a = E.addr b → E.st a → ¬ E.st b → E.key o a < E.key o b := fun a b ia ib h hd hs hb => by
   rw [bC hs, cF hb]
   have hl := (hE.kind b ib).resolve_left hb
   obtain ⟨_, _, h2⟩ := hr.see b ((ho b).2 ib) hl
   have := h2 a ((ho a).2 ia) ⟨Nat.ne_of_lt h.1, hs, hd, Or.inr h⟩
   omega
  by_cases hb : E.st b
  ·exact Or.inl (stb a b ia ib h hd hb)
  by_cases ha : E.st a
  ·exact Or.inl (sta a b ia ib h hd ha hb)
  have la := (hE.kind a ia).resolve_left ha
  have lb := (hE.kind b ib).resolve_left hb
  right
  refine ⟨?_, h.1⟩
  rw [cF ha, cF hb]
  by_cases hs : E.src a = E.src b
  ·rw [hs]; exact Nat.le_refl _
  rcases hE.r2 a b ia ib h hd la lb hs with hp | ⟨m, im, m1, m2, m3, m4⟩
  ·obtain ⟨sf, s1, s2, s3⟩ := hE.src a ia la
   obtain ⟨_, ⟨_, _, _, h2⟩, _⟩ := hr.see a ((ho a).2 ia) la
   obtain ⟨_, _, h3⟩ := hr.see b ((ho b).2 ib) lb
   have hab := hr.fwd _ ((ho a).2 ia) _ ((ho b).2 ib) (Or.inl hp)
   have hne : E.src a ≠ b := fun e => hb (e ▸ s1)
   have := h3 _ ((ho _).2 sf) ⟨hne, s1, s2.trans hd, h2.imp (fun h => Nat.lt_trans h hab) fun h2 => oX h2 h⟩
   omega
  ·have e1 := stb a m ia im m3 m2.symm m1
   have e2 := sta m b im ib m4 (m2.trans hd) m1 hb
   rw [cF ha] at e1
   rw [cF hb] at e2
   omega
theorem coh_up (hE : E.Ok) {o : List Nat} (ho : ∀ a, a ∈ o ↔ E.is a) (hr : E.right o) : Up E.coh := by
 refine ⟨fun a => E.key o a * (E.n + 1) + a, fun a b h => ?_⟩
 have ha : a < E.n := h.1.1
 rcases coh_key hE ho hr h with h1 | ⟨h1, h2⟩
 ·have : (E.key o a + 1) * (E.n + 1) ≤ E.key o b * (E.n + 1) := Nat.mul_le_mul_right _ h1
  rw [Nat.succ_mul] at this
  show E.key o a * (E.n + 1) + a < E.key o b * (E.n + 1) + b
  omega
 ·have : E.key o a * (E.n + 1) ≤ E.key o b * (E.n + 1) := Nat.mul_le_mul_right _ h1
  show E.key o a * (E.n + 1) + a < E.key o b * (E.n + 1) + b
  omega
theorem glo_up (hE : E.Ok) {o : List Nat} (ho : ∀ a, a ∈ o ↔ E.is a) (hr : E.right o) : Up E.glo := ⟨ixN o, fun _ _ h => glo_fwd hE ho hr h⟩
theorem no_beg (hE : E.Ok) {a b : Nat} (h : E.glo a b) : ¬ E.bg b := fun hb => by
 obtain ⟨ia, ib, h⟩ := h
 obtain ⟨h1, h2, _, h4⟩ := hE.beg b ib hb
 rcases h with h | h | h | h
 ·obtain ⟨hp, _, _⟩ := hE.ppo _ _ h
  have := hp.2.1
  have := hp.2.2
  omega
 ·exact h4 a h
 ·exact h4 _ h.2.2
 ·exact h2 h.1.1
theorem sorted_fwd (hE : E.Ok) {t : Nat → Nat} (ht : ∀ a b, E.glo a b → t a < t b) {bs rs : List Nat} (hb : ∀ a, a ∈ bs ↔ E.is a ∧ E.bg a) (hr : ∀ a, a ∈ rs ↔ E.is a ∧ ¬ E.bg a) (hnb : bs.Nodup) (hnr : rs.Nodup) (hs : rs.Pairwise fun a b => t a ≤ t b) :
  (bs ++ rs).Nodup ∧ (∀ a, a ∈ bs ++ rs ↔ E.is a) ∧ ∀ a ∈ bs ++ rs, ∀ b ∈ bs ++ rs, E.glo a b → ixN (bs ++ rs) a < ixN (bs ++ rs) b := by
 have hnd : (bs ++ rs).Nodup := List.nodup_append.2 ⟨hnb, hnr, fun a ha b hb' e => ((hr b).1 hb').2 (e ▸ ((hb a).1 ha).2)⟩
 refine ⟨hnd, fun a => ?_, fun a ha b hb' h => ?_⟩
 ·rw [List.mem_append, hb, hr]
  constructor
  ·rintro (h | h) <;> exact h.1
  ·intro h
   rcases Classical.em (E.bg a) with e | e
   ·exact Or.inl ⟨h, e⟩
   ·exact Or.inr ⟨h, e⟩
 ·have htab := ht a b h
  have hbn := no_beg hE h
  have hbr : b ∈ rs := (hr b).2 ⟨h.2.1, hbn⟩
  apply Classical.byContradiction
  intro hlt
  obtain ⟨a1, a2⟩ := yO ha
  obtain ⟨b1, b2⟩ := yO hb'
  have hne : ixN (bs ++ rs) a ≠ ixN (bs ++ rs) b := fun e => by
   have := nQ ha hb' e
   subst this; omega
  have hba : ixN (bs ++ rs) b < ixN (bs ++ rs) a := by omega
  have hbs : bs.length ≤ ixN (bs ++ rs) b := by
   apply Classical.byContradiction
   intro hl
   have hl : ixN (bs ++ rs) b < bs.length := by omega
   have e : (bs ++ rs).getD (ixN (bs ++ rs) b) 0 = bs.getD (ixN (bs ++ rs) b) 0 := by
    rw [List.getD_eq_getElem?_getD, List.getElem?_append_left hl, ← List.getD_eq_getElem?_getD]
   rw [e] at b2
   exact hbn (((hb b).1 (b2 ▸ wX hl)).2)
  have key : ∀ i, bs.length ≤ i → i < (bs ++ rs).length → (bs ++ rs).getD i 0 = rs.getD (i - bs.length) 0 ∧ i - bs.length < rs.length := fun i h1 h2 => by
   rw [List.length_append] at h2
   exact ⟨by rw [List.getD_eq_getElem?_getD, List.getElem?_append_right h1, ← List.getD_eq_getElem?_getD], by omega⟩
  obtain ⟨ka, la⟩ := key _ (Nat.le_trans hbs (Nat.le_of_lt hba)) a1
  obtain ⟨kb, lb⟩ := key _ hbs b1
  have hp := List.pairwise_iff_getElem.1 hs _ _ lb la (by omega)
  rw [ka, List.getD_eq_getElem?_getD, List.getElem?_eq_getElem la] at a2
  rw [kb, List.getD_eq_getElem?_getD, List.getElem?_eq_getElem lb] at b2
  simp only [Option.getD_some] at a2 b2
  rw [a2, b2] at hp
  omega
end Evn
def tryB (R : List Nat → Bool) (all : List Nat) : Nat → List Nat → Bool
 | 0, o => R o
 | k + 1, o => all.any fun a => !o.contains a && tryB R all k (o ++ [a])
theorem jN (R : List Nat → Bool) (all : List Nat) : ∀ (k : Nat) (o : List Nat), tryB R all k o = true ↔ ∃ r, r.length = k ∧ (∀ a ∈ r, a ∈ all ∧ a ∉ o) ∧ r.Nodup ∧ R (o ++ r) = true
 | 0, o => by
  unfold tryB
  constructor
  ·intro h; exact ⟨[], rfl, by simp, by simp, by simpa using h⟩
  ·rintro ⟨r, h1, _, _, h2⟩
   have := List.eq_nil_of_length_eq_zero h1
   subst this
   simpa using h2
 | k + 1, o => by
  unfold tryB
  rw [List.any_eq_true]
  constructor
  ·rintro ⟨a, ha, h⟩
   simp only [Bool.and_eq_true, Bool.not_eq_true', List.contains_eq_mem, decide_eq_false_iff_not] at h
   obtain ⟨r, h1, h2, h3, h4⟩ := (jN R all k (o ++ [a])).1 h.2
   refine ⟨a :: r, by simp [h1], fun b hb => ?_, List.nodup_cons.2 ⟨fun hm => (h2 a hm).2 (by simp), h3⟩, by simpa using h4⟩
   rcases List.mem_cons.1 hb with rfl | hb
   ·exact ⟨ha, h.1⟩
   ·exact ⟨(h2 b hb).1, fun hm => (h2 b hb).2 (by simp [hm])⟩
  ·rintro ⟨r, h1, h2, h3, h4⟩
   match r, h1 with
   | a :: r, h1 =>
    refine ⟨a, (h2 a (by simp)).1, ?_⟩
    simp only [Bool.and_eq_true, Bool.not_eq_true', List.contains_eq_mem, decide_eq_false_iff_not]
    refine ⟨(h2 a (by simp)).2, (jN R all k (o ++ [a])).2 ⟨r, by simpa using h1, fun b hb => ⟨(h2 b (by simp [hb])).1, fun hm => ?_⟩, (List.nodup_cons.1 h3).2, by simpa using h4⟩⟩
    rcases List.mem_append.1 hm with hm | hm
    ·exact (h2 b (by simp [hb])).2 hm
    ·simp only [List.mem_singleton] at hm
     subst hm
     exact (List.nodup_cons.1 h3).1 hb
theorem Evn.main {E : Evn} (hE : E.Ok) {R : List Nat → Bool} {bs all : List Nat} (hb : ∀ a, a ∈ bs ↔ E.is a ∧ E.bg a) (ha : ∀ a, a ∈ all ↔ E.is a) (hnb : bs.Nodup) (hna : all.Nodup)
  (hR : ∀ o, o.Nodup → (∀ a, a ∈ o ↔ E.is a) → (R o = true ↔ E.right o)) : tryB R all (all.length - bs.length) bs = true ↔ Up E.coh ∧ Up E.glo := by
 rw [jN]
 constructor
 ·rintro ⟨r, h1, h2, h3, h4⟩
  have hnd : (bs ++ r).Nodup := List.nodup_append.2 ⟨hnb, h3, fun a h b h' e => (h2 b h').2 (e ▸ h)⟩
  have hle := aN hnb (m := all) fun a h => (ha a).2 ((hb a).1 h).1
  have hsub : ∀ a ∈ bs ++ r, a ∈ all := fun a h => by
   rcases List.mem_append.1 h with h | h
   ·exact (ha a).2 ((hb a).1 h).1
   ·exact (h2 a h).1
  have hall := nodup_all hnd hsub (by rw [List.length_append, h1]; omega)
  have ho : ∀ a, a ∈ bs ++ r ↔ E.is a := fun a => ⟨fun h => (ha a).1 (hsub a h), fun h => hall a ((ha a).2 h)⟩
  have hr := (hR _ hnd ho).1 h4
  exact ⟨coh_up hE ho hr, glo_up hE ho hr⟩
 ·rintro ⟨hc, t, ht⟩
  have hmem : ∀ a, a ∈ (all.filter fun a => !bs.contains a).mergeSort (fun a b => decide (t a ≤ t b)) ↔ E.is a ∧ ¬ E.bg a := fun a => by
   rw [(List.mergeSort_perm _ _).mem_iff, List.mem_filter, ha]
   simp only [Bool.not_eq_true', List.contains_eq_mem, decide_eq_false_iff_not, hb]
   exact ⟨fun h => ⟨h.1, fun h' => h.2 ⟨h.1, h'⟩⟩, fun h => ⟨h.1, fun h' => h.2 h'.2⟩⟩
  have hsort : ((all.filter fun a => !bs.contains a).mergeSort (fun a b => decide (t a ≤ t b))).Pairwise fun a b => t a ≤ t b :=
   (List.pairwise_mergeSort (le := fun a b => decide (t a ≤ t b)) (fun a b c h1 h2 => by simp at *; omega) (fun a b => by simp; omega) _).imp (by simp)
  have hnr : ((all.filter fun a => !bs.contains a).mergeSort (fun a b => decide (t a ≤ t b))).Nodup := (List.mergeSort_perm _ _).nodup_iff.2 (hna.filter _)
  have hlen : (all.filter fun a => !bs.contains a).length + bs.length = all.length := by
   have h1 : (all.filter fun a => bs.contains a).length = bs.length := by
    refine Nat.le_antisymm (aN (hna.filter _) fun a h => ?_) (aN hnb fun a h => ?_)
    ·simpa using (List.mem_filter.1 h).2
    ·exact List.mem_filter.2 ⟨(ha a).2 ((hb a).1 h).1, by simpa using h⟩
   have h2 := List.length_eq_countP_add_countP (fun a => bs.contains a) (l := all)
   rw [List.countP_eq_length_filter, List.countP_eq_length_filter] at h2
   have h3 : (List.filter (fun a => decide ¬ (bs.contains a = true)) all) = all.filter fun a => !bs.contains a := List.filter_congr fun a _ => by cases bs.contains a <;> simp
   rw [h3] at h2
   omega
  obtain ⟨q1, q2, q3⟩ := sorted_fwd hE ht hb hmem hnb hnr hsort
  refine ⟨_, ?_, fun a h => ?_, hnr, (hR _ q1 q2).2 (right_of hE hc q2 q3)⟩
  ·rw [List.length_mergeSort]; omega
  ·have := (hmem a).1 h
   exact ⟨(ha a).2 this.1, fun h' => this.2 ((hb a).1 h').2⟩
theorem eX {n : Nat} {l : List (Int × Int)} (hn : n ≤ 64) (hok : l.any (outB n) = false) : circleB n l = false ↔ Evn.Up (Arr l) := by
 constructor
 ·intro h
  have ha : acyB n l = true := by rw [eM hn hok, h]; rfl
  obtain ⟨t, ht⟩ := nB hok ha
  refine ⟨fun a => n - t a, fun a b hab => ?_⟩
  have h1 := (eH hok hab).1
  have h2 := (ht a h1).2 b hab
  have h3 := (ht a h1).1
  show n - t a < n - t b
  omega
 ·rintro ⟨t, ht⟩
  have way : ∀ a b, Way l a b → t a < t b := fun a b h => by
   induction h with
   | one h => exact ht _ _ h
   | more _ h ih => exact Nat.lt_trans ih (ht _ _ h)
  cases h : acyB n l with
  | true => rw [eM hn hok] at h; simpa using h
  | false =>
   obtain ⟨c, hc⟩ := gL hn hok (List.range n) (fun _ => 0) (by intro b hb; have := List.mem_range.1 hb; omega) (by simp) (by simp) h
   exact absurd (way c c hc) (Nat.lt_irrefl _)
section
variable {x : Ex}
theorem Ex.rel.ev (h : x.rel) {n : Nat} (hn : n < x.evs.length) : evOk x.evs (addrsTo x.evs) n = true := by
 have h2 := (vK h.check).2.1
 unfold evsTo at h2
 exact List.all_eq_true.1 h2 n (List.mem_range.2 hn)
theorem Ex.rel.kinds (h : x.rel) {n : Nat} (hn : n < x.evs.length) : let e := x.evs.getD n default
  ((e.kind = 5 ∧ n < (addrsTo x.evs).length ∧ e.addr = (addrsTo x.evs).getD n 0 ∧ e.hart = -1) ∨ (¬ e.kind = 5 ∧ (addrsTo x.evs).length ≤ n ∧ 0 ≤ e.hart ∧ (n = (addrsTo x.evs).length ∨ (x.evs.getD (n - 1) default).hart ≤ e.hart))) ∧ (e.kind = 1 ∨ e.kind = 2 ∨ e.kind = 3 ∨ e.kind = 4 ∨ e.kind = 5) := by
 have h1 := h.ev hn
 intro e
 unfold evOk at h1
 simp only [Bool.and_eq_true] at h1
 obtain ⟨hp, h2⟩ := h1
 unfold evPre at hp
 simp only [Bool.and_eq_true] at hp
 have hb : e.bareB = true := hp.1.1.1.1
 constructor
 ·split at h2
  ·rename_i hlt
   simp only [Bool.and_eq_true, beq_iff_eq] at h2
   refine Or.inl ⟨h2.1, hlt, h2.2, ?_⟩
   unfold Ev.bareB at hb
   rw [if_pos h2.1] at hb
   simp only [Bool.and_eq_true, beq_iff_eq] at hb
   exact hb.1.1.1.1
  ·rename_i hge
   simp only [Bool.and_eq_true, bne_iff_ne, ne_eq, decide_eq_true_eq, Bool.or_eq_true, beq_iff_eq] at h2
   exact Or.inr ⟨h2.1.1.1, by omega, h2.1.1.2, h2.2.imp (fun h => by omega) fun h => h⟩
 ·unfold Ev.bareB at hb
  by_cases k5 : e.kind = 5
  ·exact Or.inr (Or.inr (Or.inr (Or.inr k5)))
  rw [if_neg k5] at hb
  by_cases k1 : e.kind = 1
  ·exact Or.inl k1
  rw [if_neg k1] at hb
  by_cases k2 : e.kind = 2
  ·exact Or.inr (Or.inl k2)
  rw [if_neg k2] at hb
  by_cases k3 : e.kind = 3
  ·exact Or.inr (Or.inr (Or.inl k3))
  rw [if_neg k3] at hb
  by_cases k4 : e.kind = 4
  ·exact Or.inr (Or.inr (Or.inr (Or.inl k4)))
  rw [if_neg k4] at hb
  cases hb
theorem zH {e : Ev} : e.stB = true ↔ e.kind = 2 ∨ e.kind = 3 ∨ e.kind = 5 := by
 unfold Ev.stB
 simp only [Bool.or_eq_true, beq_iff_eq, or_assoc]
theorem kE {e : Ev} : e.ldB = true ↔ e.kind = 1 ∨ e.kind = 3 := by
 unfold Ev.ldB
 simp only [Bool.or_eq_true, beq_iff_eq]
theorem Ex.rel.rise (h : x.rel) {a : Nat} : ∀ {b : Nat}, a ≤ b → b < x.evs.length → (addrsTo x.evs).length ≤ a → (x.evs.getD a default).hart ≤ (x.evs.getD b default).hart := fun {b} hab hb ha => by
  induction b with
  | zero => have : a = 0 := by omega
            subst this; exact Int.le_refl _
  | succ b ih =>
    by_cases e : a = b + 1
    · subst e; exact Int.le_refl _
    · have h1 := ih (by omega) (by omega)
      have h2 := (h.kinds hb).1
      rcases h2 with ⟨_, h2, _⟩ | ⟨_, _, _, h2⟩
      · omega
      · rcases h2 with h2 | h2
        · omega
        · rw [Nat.add_sub_cancel] at h2
          exact Int.le_trans h1 h2
def evn (x : Ex) : Evn where
 n := x.evs.length
 st a := (x.evs.getD a default).stB = true
 ld a := (x.evs.getD a default).ldB = true
 nf a := ¬ (x.evs.getD a default).kind = 4
 bg a := (x.evs.getD a default).kind = 5
 addr a := (x.evs.getD a default).addr
 hart a := (x.evs.getD a default).hart
 src a := (x.from_.getD a 0).toNat
 co a b := a < x.evs.length ∧ b < x.evs.length ∧ isCoB x a b = true
 ppo a b := a < x.evs.length ∧ b < x.evs.length ∧ isPpo x a b = true
theorem pO {a b : Nat} (hp : pairOf x a b = true) {r : Int} (hr : r ∈ rs13) (h : ruleR x r a b = true) : isPpo x a b = true := by
 unfold isPpo
 exact List.any_eq_true.2 ⟨r, hr, by unfold ruleB; rw [hp, h]; rfl⟩
theorem mG {a b : Nat} (h1 : a < b) (h2 : 0 ≤ (x.evs.getD a default).hart) (h3 : (x.evs.getD a default).hart = (x.evs.getD b default).hart) (h4 : ¬ (x.evs.getD a default).kind = 4) (h5 : ¬ (x.evs.getD b default).kind = 4) : pairOf x a b = true := by
 unfold pairOf accB
 rw [decide_eq_true h1, decide_eq_true h2, decide_eq_true h3, decide_eq_false h4, decide_eq_false h5, decide_eq_true (by omega)]
 rfl
theorem kK (h : x.rel) : (evn x).Ok where
 src b hb hl := by
  obtain ⟨u1, u2⟩ := fM (vK h.check).2.2.1 hb.1
  obtain ⟨g1, g2, g3, g4⟩ := u2 hl
  have g0 := u1.1 hl
  refine ⟨⟨show (x.from_.getD b 0).toNat < x.evs.length by omega, fun hk => ?_⟩, g3, g4, fun e => ?_⟩
  ·rcases zH.1 g3 with e | e | e <;> (rw [show (x.evs.getD (x.from_.getD b 0).toNat default).kind = 4 from hk] at e; cases e)
  ·have e : (x.from_.getD b 0).toNat = b := e
   omega
 co a b hab := by
  obtain ⟨_, _, h1⟩ := hab
  unfold isCoB at h1
  simp only [Bool.and_eq_true, decide_eq_true_eq] at h1
  exact ⟨h1.1.1.1, h1.1.1.2, h1.1.2, fun e => by subst e; omega⟩
 tot a b ha hb sa sb hd hne := by
  rcases uAK (vK h.check).2.2.2 ha.1 hb.1 hne ⟨sa, sb, hd⟩ with h1 | h1
  ·exact Or.inl ⟨ha.1, hb.1, by rw [← bG h.check ha.1 hb.1]; exact decide_eq_true h1⟩
  ·exact Or.inr ⟨hb.1, ha.1, by rw [← bG h.check hb.1 ha.1]; exact decide_eq_true h1⟩
 trans a b c hab hbc := by
  obtain ⟨a1, a2, h1⟩ := hab
  obtain ⟨b1, b2, h2⟩ := hbc
  refine ⟨a1, b2, ?_⟩
  unfold isCoB at h1 h2 ⊢
  simp only [Bool.and_eq_true, decide_eq_true_eq] at h1 h2 ⊢
  exact ⟨⟨⟨h1.1.1.1, h2.1.1.2⟩, h1.1.2.trans h2.1.2⟩, by omega⟩
 ppo a b hab := by
  obtain ⟨a1, a2, h1⟩ := hab
  unfold isPpo at h1
  obtain ⟨r, _, h1⟩ := List.any_eq_true.1 h1
  unfold ruleB at h1
  simp only [Bool.and_eq_true] at h1
  have h2 := h1.1
  unfold pairOf accB at h2
  simp only [Bool.and_eq_true, decide_eq_true_eq, Bool.not_eq_true', decide_eq_false_iff_not] at h2
  exact ⟨⟨h2.1.2, h2.1.1.1.1, h2.2⟩, ⟨a1, h2.1.1.1.2⟩, ⟨a2, h2.1.1.2.2⟩⟩
 r1 a b ha hb hp hd sb := by
  refine ⟨ha.1, hb.1, pO (r := 1) (mG hp.1 hp.2.1 hp.2.2 ha.2 hb.2) (by decide) ?_⟩
  unfold ruleR oneB
  rw [if_pos rfl, show (x.evs.getD b default).stB = true from sb]
  exact decide_eq_true hd
 r2 a b ha hb hp hd la lb hs := by
  by_cases hm : someB a b (fun n => (x.evs.getD n default).stB && decide ((x.evs.getD n default).addr = (x.evs.getD a default).addr)) = true
  ·right
   unfold someB at hm
   obtain ⟨m, hm1, hm2⟩ := List.any_eq_true.1 hm
   simp only [Bool.and_eq_true, decide_eq_true_eq] at hm2
   have hmb := List.mem_range.1 hm1
   have hmn : m < x.evs.length := Nat.lt_trans hmb hb.1
   have hk : (addrsTo x.evs).length ≤ a := by
    rcases (h.kinds ha.1).1 with ⟨h1, h2, h3, h4⟩ | ⟨_, h2, _⟩
    ·have h0 : 0 ≤ (x.evs.getD a default).hart := hp.2.1
     omega
    ·exact h2
   have r1 := h.rise (a := a) (b := m) (by omega) hmn hk
   have r2 := h.rise (a := m) (b := b) (by omega) hb.1 (by omega)
   have h0 : 0 ≤ (x.evs.getD a default).hart := hp.2.1
   have h3 : (x.evs.getD a default).hart = (x.evs.getD b default).hart := hp.2.2
   refine ⟨m, ⟨hmn, fun hk4 => ?_⟩, hm2.2.1, hm2.2.2, ⟨hm2.1, h0, show (x.evs.getD a default).hart = (x.evs.getD m default).hart by omega⟩, ⟨hmb, show 0 ≤ (x.evs.getD m default).hart by omega, show (x.evs.getD m default).hart = (x.evs.getD b default).hart by omega⟩⟩
   rcases zH.1 hm2.2.1 with e | e | e <;> (rw [show (x.evs.getD m default).kind = 4 from hk4] at e; cases e)
  ·left
   refine ⟨ha.1, hb.1, pO (r := 2) (mG hp.1 hp.2.1 hp.2.2 ha.2 hb.2) (by decide) ?_⟩
   unfold ruleR
   rw [if_neg (by decide), if_pos rfl]
   unfold rule2 oneB
   have hf : ¬ x.from_.getD a 0 = x.from_.getD b 0 := fun e => hs (by show (x.from_.getD a 0).toNat = (x.from_.getD b 0).toNat; rw [e])
   rw [show (x.evs.getD a default).ldB = true from la, show (x.evs.getD b default).ldB = true from lb, decide_eq_true (show (x.evs.getD a default).addr = (x.evs.getD b default).addr from hd), decide_eq_false hf, Bool.eq_false_iff.2 hm]
   rfl
 kind a ha := by
  have hk := (h.kinds ha.1).2
  have h4 : ¬ (x.evs.getD a default).kind = 4 := ha.2
  rcases hk with e | e | e | e | e
  ·exact Or.inr (kE.2 (Or.inl e))
  ·exact Or.inl (zH.2 (Or.inl e))
  ·exact Or.inl (zH.2 (Or.inr (Or.inl e)))
  ·exact (h4 e).elim
  ·exact Or.inl (zH.2 (Or.inr (Or.inr e)))
 beg b hb hbg := by
  have hk5 : (x.evs.getD b default).kind = 5 := hbg
  rcases (h.kinds hb.1).1 with ⟨h1, h2, h3, h4⟩ | ⟨h1, _⟩
  rotate_left
  ·exact (h1 hbg).elim
  refine ⟨show (x.evs.getD b default).hart < 0 by omega, fun hl => ?_, zH.2 (Or.inr (Or.inr hk5)), fun a hab => ?_⟩
  ·rcases kE.1 hl with e | e <;> (rw [hk5] at e; cases e)
  ·obtain ⟨ha, hb', hco⟩ := hab
   rw [← bG h.check ha hb'] at hco
   have ho := (vK h.check).2.2.2
   obtain ⟨r, i, j, hr, hij, hj, ei, ej⟩ := cJ (of_decide_eq_true hco)
   have hrow := aX ho hr hj ej
   have hlen : x.order.length = (addrsTo x.evs).length := by
    unfold orderB at ho
    simp only [Bool.and_eq_true, decide_eq_true_eq] at ho
    exact ho.1
   have e1 : r = b := fC ho hr (by omega) (hrow.2.2.symm.trans h3)
   subst e1
   have h0 : (x.order.getD r default).2.getD 0 0 = (r : Int) := by
    unfold orderB rowsTo at ho
    simp only [Bool.and_eq_true] at ho
    have := List.all_eq_true.1 ho.2 r (List.mem_range.2 hr)
    unfold rowOk at this
    simp only [Bool.and_eq_true, Bool.not_eq_true', bne_eq_false_iff_eq] at this
    exact this.1.2
   have := fF (zA ho hr) hj (show 0 < _ by omega) (ej.trans h0.symm)
   omega
 hart b hb hbg := by
  rcases (h.kinds hb.1).1 with ⟨h1, _⟩ | ⟨_, _, h3, _⟩
  ·exact (hbg h1).elim
  ·exact h3
theorem fY {n : Nat} {f : Nat → Nat → Bool} {a b : Nat} : Arr (refPairs n f) a b ↔ a < n ∧ b < n ∧ f a b = true := by
 unfold Arr
 constructor
 ·rintro ⟨q, hq, h1, h2⟩
  obtain ⟨c, d, h3, h4, h5, rfl⟩ := vG.1 hq
  dsimp only at h1 h2
  have e1 : c = a := by omega
  have e2 : d = b := by omega
  subst e1 e2
  exact ⟨h3, h4, h5⟩
 ·rintro ⟨h1, h2, h3⟩
  exact ⟨_, vG.2 ⟨a, b, h1, h2, h3, rfl⟩, rfl, rfl⟩
theorem oJ {r s : Nat → Nat → Prop} (h : ∀ a b, r a b ↔ s a b) : Evn.Up r ↔ Evn.Up s :=
 ⟨fun ⟨t, ht⟩ => ⟨t, fun a b hs => ht a b ((h a b).2 hs)⟩, fun ⟨t, ht⟩ => ⟨t, fun a b hs => ht a b ((h a b).1 hs)⟩⟩
theorem lS {e : Ev} (h : e.stB = true) : ¬ e.kind = 4 := fun hk => by
 rcases zH.1 h with e1 | e1 | e1 <;> (rw [hk] at e1; cases e1)
theorem rR {e : Ev} (h : e.ldB = true) : ¬ e.kind = 4 := fun hk => by
 rcases kE.1 h with e1 | e1 <;> (rw [hk] at e1; cases e1)
theorem mT {a b : Nat} (h : isCoB x a b = true) : (x.evs.getD a default).stB = true ∧ (x.evs.getD b default).stB = true := by
 unfold isCoB at h
 simp only [Bool.and_eq_true] at h
 exact h.1.1
theorem nR (h : x.rel) {a b : Nat} (ha : a < x.evs.length) (hb : b < x.evs.length) : isFrB x a b = true ↔ (evn x).fr a b := by
 unfold isFrB Evn.fr
 simp only [Bool.and_eq_true, Bool.not_eq_true', beq_eq_false_iff_ne]
 constructor
 ·rintro ⟨⟨h1, h2⟩, h3⟩
  refine ⟨h1, h2, ?_, hb, h3⟩
  have := (h.src a ha h2)
  show (x.from_.getD a 0).toNat < x.evs.length
  omega
 ·rintro ⟨h1, h2, h3⟩
  exact ⟨⟨h1, h2⟩, h3.2.2⟩
theorem nL (h : x.rel) {a b : Nat} (hb : b < x.evs.length) : isRf x a b = true ↔ (evn x).rf a b := by
 unfold isRf Evn.rf
 simp only [Bool.and_eq_true, decide_eq_true_eq]
 constructor
 ·rintro ⟨h1, h2⟩
  refine ⟨h1, ?_⟩
  show (x.from_.getD b 0).toNat = a
  omega
 ·rintro ⟨h1, h2⟩
  have h2 : (x.from_.getD b 0).toNat = a := h2
  have := (h.src b hb h1).1
  exact ⟨h1, by omega⟩
theorem glo_iff (h : x.rel) (a b : Nat) : Arr (gloL x) a b ↔ (evn x).glo a b := by
 unfold gloL
 rw [fY]
 constructor
 ·rintro ⟨ha, hb, hg⟩
  unfold globB glob at hg
  simp only [Bool.or_eq_true, Bool.and_eq_true, Bool.not_eq_true', decide_eq_false_iff_not] at hg
  rcases hg with ((hg | hg) | hg) | ⟨hg, hh⟩
  ·have := (kK h).ppo a b ⟨ha, hb, hg⟩
   exact ⟨this.2.1, this.2.2, Or.inl ⟨ha, hb, hg⟩⟩
  ·exact ⟨⟨ha, lS (mT hg).1⟩, ⟨hb, lS (mT hg).2⟩, Or.inr (Or.inl ⟨ha, hb, hg⟩)⟩
  ·have hf := (nR h ha hb).1 hg
   exact ⟨⟨ha, rR hf.2.1⟩, ⟨hb, lS (mT hf.2.2.2.2).2⟩, Or.inr (Or.inr (Or.inl hf))⟩
  ·have hr := (nL h hb).1 hg
   have hib : (evn x).is b := ⟨hb, rR hr.1⟩
   have hs := (kK h).src b hib hr.1
   rw [hr.2] at hs
   exact ⟨hs.1, hib, Or.inr (Or.inr (Or.inr ⟨hr, hh⟩))⟩
 ·rintro ⟨ha, hb, hg⟩
  refine ⟨ha.1, hb.1, ?_⟩
  unfold globB glob
  simp only [Bool.or_eq_true, Bool.and_eq_true, Bool.not_eq_true', decide_eq_false_iff_not]
  rcases hg with hg | hg | hg | ⟨hg, hh⟩
  ·exact Or.inl (Or.inl (Or.inl hg.2.2))
  ·exact Or.inl (Or.inl (Or.inr hg.2.2))
  ·exact Or.inl (Or.inr ((nR h ha.1 hb.1).2 hg))
  ·exact Or.inr ⟨(nL h hb.1).2 hg, hh⟩
theorem coh_iff (h : x.rel) (a b : Nat) : Arr (rcohL x) a b ↔ (evn x).coh a b := by
 have split : Arr (rcohL x) a b ↔ Arr (refPairs x.evs.length (isRf x)) a b ∨ Arr (refPairs x.evs.length (isCoB x)) a b ∨ Arr (refPairs x.evs.length (isFrB x)) a b ∨ (Arr (refPairs x.evs.length (isPo x)) a b ∧ cohG x ((a : Int), (b : Int)) = true) := by
  unfold Arr rcohL cohL
  simp only [List.mem_append, List.mem_filter]
  constructor
  ·rintro ⟨q, ((hq | hq) | hq) | ⟨hq, hc⟩, h1, h2⟩
   ·exact Or.inl ⟨q, hq, h1, h2⟩
   ·exact Or.inr (Or.inl ⟨q, hq, h1, h2⟩)
   ·exact Or.inr (Or.inr (Or.inl ⟨q, hq, h1, h2⟩))
   ·refine Or.inr (Or.inr (Or.inr ⟨⟨q, hq, h1, h2⟩, ?_⟩))
    rw [← h1, ← h2]; exact hc
  ·rintro (⟨q, hq, h1, h2⟩ | ⟨q, hq, h1, h2⟩ | ⟨q, hq, h1, h2⟩ | ⟨⟨q, hq, h1, h2⟩, hc⟩)
   ·exact ⟨q, Or.inl (Or.inl (Or.inl hq)), h1, h2⟩
   ·exact ⟨q, Or.inl (Or.inl (Or.inr hq)), h1, h2⟩
   ·exact ⟨q, Or.inl (Or.inr hq), h1, h2⟩
   ·refine ⟨q, Or.inr ⟨hq, ?_⟩, h1, h2⟩
    rw [← h1, ← h2] at hc; exact hc
 rw [split, fY, fY, fY, fY]
 unfold cohG
 simp only [Int.toNat_natCast, Bool.and_eq_true, Bool.not_eq_true', decide_eq_false_iff_not, decide_eq_true_eq]
 constructor
 ·rintro (⟨ha, hb, hg⟩ | ⟨ha, hb, hg⟩ | ⟨ha, hb, hg⟩ | ⟨⟨ha, hb, hg⟩, ⟨g1, g2⟩, g3⟩)
  ·have hr := (nL h hb).1 hg
   have hib : (evn x).is b := ⟨hb, rR hr.1⟩
   have hs := (kK h).src b hib hr.1
   rw [hr.2] at hs
   exact ⟨hs.1, hib, Or.inl hr⟩
  ·exact ⟨⟨ha, lS (mT hg).1⟩, ⟨hb, lS (mT hg).2⟩, Or.inr (Or.inl ⟨ha, hb, hg⟩)⟩
  ·have hf := (nR h ha hb).1 hg
   exact ⟨⟨ha, rR hf.2.1⟩, ⟨hb, lS (mT hf.2.2.2.2).2⟩, Or.inr (Or.inr (Or.inl hf))⟩
  ·unfold isPo at hg
   simp only [Bool.and_eq_true, decide_eq_true_eq] at hg
   exact ⟨⟨ha, g1⟩, ⟨hb, g2⟩, Or.inr (Or.inr (Or.inr ⟨⟨hg.1.1, hg.1.2, hg.2⟩, g3⟩))⟩
 ·rintro ⟨ha, hb, hg⟩
  rcases hg with hg | hg | hg | ⟨hg, hd⟩
  ·exact Or.inl ⟨ha.1, hb.1, (nL h hb.1).2 hg⟩
  ·exact Or.inr (Or.inl ⟨ha.1, hb.1, hg.2.2⟩)
  ·exact Or.inr (Or.inr (Or.inl ⟨ha.1, hb.1, (nR h ha.1 hb.1).2 hg⟩))
  ·refine Or.inr (Or.inr (Or.inr ⟨⟨ha.1, hb.1, ?_⟩, ⟨ha.2, hb.2⟩, hd⟩))
   unfold isPo
   rw [decide_eq_true hg.1, decide_eq_true (show 0 ≤ (x.evs.getD a default).hart from hg.2.1), decide_eq_true (show (x.evs.getD a default).hart = (x.evs.getD b default).hart from hg.2.2)]
   rfl
def allE (x : Ex) : List Nat := (List.range x.evs.length).filter fun a => !decide ((x.evs.getD a default).kind = 4)
def begE (x : Ex) : List Nat := (List.range x.evs.length).filter fun a => decide ((x.evs.getD a default).kind = 5)
theorem axioms_law (h : x.rel) {R : List Nat → Bool} (hR : ∀ o, o.Nodup → (∀ a, a ∈ o ↔ (evn x).is a) → (R o = true ↔ (evn x).right o)) :
  tryB R (allE x) ((allE x).length - (begE x).length) (begE x) = (!circleB x.evs.length (rcohL x) && !circleB x.evs.length (gloL x)) := by
 have hall : ∀ a, a ∈ allE x ↔ (evn x).is a := fun a => by
  unfold allE Evn.is evn
  simp only [List.mem_filter, List.mem_range, Bool.not_eq_true', decide_eq_false_iff_not]
 have hbeg : ∀ a, a ∈ begE x ↔ (evn x).is a ∧ (evn x).bg a := fun a => by
  unfold begE Evn.is evn
  simp only [List.mem_filter, List.mem_range, decide_eq_true_eq]
  exact ⟨fun ⟨h1, h2⟩ => ⟨⟨h1, by rw [h2]; decide⟩, h2⟩, fun ⟨⟨h1, _⟩, h2⟩ => ⟨h1, h2⟩⟩
 rw [Bool.eq_iff_iff, Evn.main (kK h) hbeg hall (List.nodup_range.filter _) (List.nodup_range.filter _) hR, Bool.and_eq_true, Bool.not_eq_true', Bool.not_eq_true', eX h.len (gK x), eX h.len (pR x)]
 rw [oJ (coh_iff h), oJ (glo_iff h)]
end
end Go.Proofs.YtnkocjkkefnelaaGreat
