/- Parts. -/
import Derived.Deep.OwnRows
import Derived.DeepKeys4
import Derived.WideKeyArgs2
import Derived.Test.YtnkocjkkefnelaaGreatPn1
import Derived.Test.YtnkocjkkefnelaaGreatPn6
import Derived.Test.YtnkocjkkefnelaaGreatPn7
import Derived.Test.YtnkocjkkefnelaaGreatPn8
import Derived.Test.YtnkocjkkefnelaaGreatPn9
import Derived.Test.YtnkocjkkefnelaaGreatPn12
import Derived.Test.YtnkocjkkefnelaaGreatPn19
import Derived.Test.YtnkocjkkefnelaaGreatPn21
import Derived.Test.YtnkocjkkefnelaaGreatPn22
import Derived.Test.YtnkocjkkefnelaaGreatPn27
set_option linter.unusedVariables false
set_option linter.unusedSimpArgs false
set_option maxHeartbeats 4000000
set_option maxHeartbeats 4000000
set_option maxRecDepth 100000
namespace Go.Proofs.YtnkocjkkefnelaaGreat
open Go.RowKit
def ledTo (l : List (Int × Int)) (g : Gone) (p k : Nat) : Bool := ledB (l.take k) g p
def goneTo (l : List (Int × Int)) (n k : Nat) : Bool := (List.range k).all (fun p => roundsTo l n n p)
def gv (g : Gone) : Nat → Value := fun i => .bool (g i)
def Arr (l : List (Int × Int)) (a b : Nat) : Prop := ∃ q ∈ l, q.1 = (a : Int) ∧ q.2 = (b : Int)
inductive Way (l : List (Int × Int)) : Nat → Nat → Prop where
 | one {a b : Nat} (h : Arr l a b) : Way l a b
 | more {a b c : Nat} (h : Way l a b) (h2 : Arr l b c) : Way l a c
theorem dR {l : List (Int × Int)} {n : Nat} (hok : l.any (outB n) = false) {a b : Nat} : b ∈ nxF l a ↔ Arr l a b := by
 unfold nxF nxTo Arr
 rw [List.take_length]
 simp only [List.mem_map, List.mem_filter, beq_iff_eq]
 constructor
 ·rintro ⟨z, ⟨q, ⟨hq, h1⟩, rfl⟩, rfl⟩
  refine ⟨q, hq, h1, ?_⟩
  rw [List.any_eq_false] at hok
  have := hok q hq
  unfold outB at this
  simp only [Bool.or_eq_true, decide_eq_true_eq, not_or] at this
  omega
 ·rintro ⟨q, hq, h1, h2⟩
  exact ⟨q.2, ⟨q, ⟨hq, h1⟩, rfl⟩, by rw [h2]; simp⟩
theorem dB {l : List (Int × Int)} {n : Nat} (hok : l.any (outB n) = false) {a b : Nat} (h : Arr l a b) : a < n ∧ b < n := by
 obtain ⟨q, hq, h1, h2⟩ := h
 rw [List.any_eq_false] at hok
 have := hok q hq
 unfold outB at this
 simp only [Bool.or_eq_true, decide_eq_true_eq, not_or] at this
 omega
def Keeps (st st' : St) : Prop := (∀ i, st' i = 1 ↔ st i = 1) ∧ (∀ i, st i = 2 → st' i = 2) ∧ (∀ i, st' i ≤ 2)
def Ranked (nx : Nat → List Nat) (st : St) (t : Nat → Nat) (c : Nat) : Prop := ∀ a, st a = 2 → t a < c ∧ ∀ b ∈ nx a, st b = 2 ∧ t b < t a
def twos : Nat → St → Nat
 | 0, _ => 0
 | n + 1, st => twos n st + (if st n = 2 then 1 else 0)
theorem pH (st : St) : ∀ n, twos n st ≤ n
 | 0 => Nat.le_refl _
 | n + 1 => by have := pH st n; unfold twos; split <;> omega
theorem mI {st : St} {a : Nat} (h : st a ≠ 2) : ∀ n, a < n → twos n (upd st a 2) = twos n st + 1
 | 0, ha => by omega
 | n + 1, ha => by
  unfold twos
  by_cases hn : n = a
  ·subst hn
   have e1 : upd st n 2 n = 2 := by unfold upd; rw [if_pos rfl]
   have e2 : ∀ m, m ≤ n → twos m (upd st n 2) = twos m st := by
    intro m
    induction m with
    | zero => intro _; rfl
    | succ m ih =>
     intro hm
     have e3 : upd st n 2 m = st m := by unfold upd; rw [if_neg (by omega)]
     unfold twos
     rw [ih (by omega), e3]
   rw [e1, if_pos rfl, if_neg h, e2 n (Nat.le_refl _)]
  ·have := mI h n (by omega)
   have e3 : upd st a 2 n = st n := by unfold upd; rw [if_neg hn]
   rw [this, e3]; omega
def GoodD (nx : Nat → List Nat) (n : Nat) (f : St → Nat → Bool × St) : Prop := ∀ st a, a < n → (∀ i, st i ≤ 2) → (f st a).1 = true →
 Keeps st (f st a).2 ∧ (f st a).2 a = 2 ∧ ∀ t, Ranked nx st t (twos n st) → ∃ t', Ranked nx (f st a).2 t' (twos n (f st a).2)
theorem fH {nx : Nat → List Nat} {n : Nat} {f : St → Nat → Bool × St} (hf : GoodD nx n f) : ∀ (l : List Nat) (st : St), (∀ b ∈ l, b < n) → (∀ i, st i ≤ 2) → (dfsL f st l).1 = true →
  Keeps st (dfsL f st l).2 ∧ (∀ b ∈ l, (dfsL f st l).2 b = 2) ∧ ∀ t, Ranked nx st t (twos n st) → ∃ t', Ranked nx (dfsL f st l).2 t' (twos n (dfsL f st l).2)
 | [], st, _, h2, _ => ⟨⟨fun _ => Iff.rfl, fun _ h => h, h2⟩, by simp, fun t ht => ⟨t, ht⟩⟩
 | b :: r, st, hb, h2, h => by
  unfold dfsL at h ⊢
  by_cases hc : (f st b).1 = true
  ·rw [if_pos hc] at h ⊢
   obtain ⟨⟨k1, k2, k3⟩, k4, k5⟩ := hf st b (hb b (by simp)) h2 hc
   obtain ⟨⟨g1, g2, g3⟩, g4, g5⟩ := fH hf r (f st b).2 (fun c hcr => hb c (by simp [hcr])) k3 h
   refine ⟨⟨fun i => (g1 i).trans (k1 i), fun i hi => g2 i (k2 i hi), g3⟩, ?_, ?_⟩
   ·intro c hcm
    rcases List.mem_cons.1 hcm with rfl | hcm
    ·exact g2 _ k4
    ·exact g4 c hcm
   ·intro t ht
    obtain ⟨t1, ht1⟩ := k5 t ht
    exact g5 t1 ht1
  ·rw [if_neg hc] at h; exact absurd h (by simp)
theorem eG {nx : Nat → List Nat} {n : Nat} (hn : ∀ a, ∀ b ∈ nx a, b < n) : ∀ f, GoodD nx n (dfs nx f)
 | 0, st, a, _, _, h => by simp [dfs] at h
 | f + 1, st, a, ha, h2, h => by
  unfold dfs at h ⊢
  by_cases hp : 0 < st a
  ·rw [if_pos hp] at h ⊢
   have e : st a = 2 := by simpa using h
   exact ⟨⟨fun _ => Iff.rfl, fun _ h => h, h2⟩, e, fun t ht => ⟨t, ht⟩⟩
  ·rw [if_neg hp] at h ⊢
   by_cases hc : (dfsL (dfs nx f) (upd st a 1) (nx a)).1 = true
   ·rw [if_pos hc] at h ⊢
    have hu2 : ∀ i, upd st a 1 i ≤ 2 := by intro i; unfold upd; split; omega; exact h2 i
    obtain ⟨⟨g1, g2, g3⟩, g4, g5⟩ := fH (eG hn f) (nx a) (upd st a 1) (hn a) hu2 hc
    generalize (dfsL (dfs nx f) (upd st a 1) (nx a)).2 = s at *
    have sa : s a = 1 := (g1 a).2 (by unfold upd; rw [if_pos rfl])
    have ha0 : st a = 0 := by omega
    refine ⟨⟨?_, ?_, ?_⟩, by dsimp only; unfold upd; rw [if_pos rfl], ?_⟩
    ·intro i
     dsimp only
     by_cases hi : i = a
     ·subst hi; unfold upd; rw [if_pos rfl]; omega
     ·have e1 : upd s a 2 i = s i := by unfold upd; rw [if_neg hi]
      have e2 : upd st a 1 i = st i := by unfold upd; rw [if_neg hi]
      rw [e1, g1 i, e2]
    ·intro i hi
     dsimp only
     by_cases hia : i = a
     ·subst hia; unfold upd; rw [if_pos rfl]
     ·have e1 : upd s a 2 i = s i := by unfold upd; rw [if_neg hia]
      rw [e1]; exact g2 i (by unfold upd; rw [if_neg hia]; exact hi)
    ·intro i; dsimp only; unfold upd; split; omega; exact g3 i
    ·intro t ht
     have hru : Ranked nx (upd st a 1) t (twos n (upd st a 1)) := by
      have e : ∀ i, upd st a 1 i = 2 ↔ st i = 2 := by
       intro i; unfold upd; by_cases hi : i = a
       ·rw [if_pos hi, hi]; omega
       ·rw [if_neg hi]
      have e4 : ∀ m, twos m (upd st a 1) = twos m st := by
       intro m
       induction m with
       | zero => rfl
       | succ m ih => unfold twos; rw [ih]; simp only [e]
      intro c hc
      rw [e4]
      obtain ⟨r1, r2⟩ := ht c ((e c).1 hc)
      exact ⟨r1, fun b hb => ⟨(e b).2 (r2 b hb).1, (r2 b hb).2⟩⟩
     obtain ⟨t', ht'⟩ := g5 t hru
     refine ⟨fun i => if i = a then twos n s else t' i, ?_⟩
     dsimp only
     rw [mI (by omega) n ha]
     intro c hc
     dsimp only
     by_cases hca : c = a
     ·subst hca
      rw [if_pos rfl]
      refine ⟨by omega, fun b hb => ?_⟩
      have hb2 := g4 b hb
      have hbc : b ≠ c := by intro e; subst e; omega
      refine ⟨by unfold upd; rw [if_neg hbc]; exact hb2, ?_⟩
      rw [if_neg hbc]
      exact (ht' b hb2).1
     ·rw [if_neg hca]
      have e1 : upd s a 2 c = s c := by unfold upd; rw [if_neg hca]
      rw [e1] at hc
      obtain ⟨r1, r2⟩ := ht' c hc
      refine ⟨by omega, fun b hb => ?_⟩
      have hb2 := (r2 b hb).1
      have hbc : b ≠ a := by intro e; subst e; omega
      refine ⟨by unfold upd; rw [if_neg hbc]; exact hb2, ?_⟩
      rw [if_neg hbc]
      exact (r2 b hb).2
   ·rw [if_neg hc] at h; exact absurd h (by simp)
theorem kR {n : Nat} {l : List (Int × Int)} (hok : l.any (outB n) = false) (h : acyB n l = true) : ∃ t : Nat → Nat, ∀ a, a < n → t a < n ∧ ∀ b, Arr l a b → t b < t a := by
 unfold acyB at h
 have hn : ∀ a, ∀ b ∈ nxF l a, b < n := fun a b hb => (dB hok ((dR hok).1 hb)).2
 obtain ⟨_, g4, g5⟩ := fH (eG hn 65) (List.range n) (fun _ => 0) (by simp) (by simp) h
 obtain ⟨t, ht⟩ := g5 (fun _ => 0) (by intro c hc; simp at hc)
 refine ⟨t, fun a ha => ?_⟩
 obtain ⟨r1, r2⟩ := ht a (g4 a (by simpa using ha))
 have := pH (dfsL (dfs (nxF l) 65) (fun _ => 0) (List.range n)).2 n
 exact ⟨by omega, fun b hb => (r2 b ((dR hok).2 hb)).2⟩
theorem takeP_gone {l : List (Int × Int)} {g : Gone} {p : Nat} (h : ledB l g p = false) : takeP l g p p = true := by
 unfold takeP updB
 rw [h]
 simp
theorem ledB_mono {l : List (Int × Int)} {g g' : Gone} {p : Nat} (hg : ∀ i, g i = true → g' i = true) (h : ledB l g p = false) : ledB l g' p = false := by
 unfold ledB at *
 rw [List.any_eq_false] at *
 intro q hq hh
 refine h q hq ?_
 simp only [Bool.and_eq_true, Bool.not_eq_true'] at *
 refine ⟨hh.1, ?_⟩
 cases hgq : g q.1.toNat with
 | false => rfl
 | true => rw [hg _ hgq] at hh; simp at hh
theorem passTo_gone {l : List (Int × Int)} {g : Gone} {k p : Nat} (hp : p < k) (h : ledB l g p = false) : passTo l g k p = true := by
 induction k with
 | zero => omega
 | succ k ih =>
  rw [aY]
  by_cases hk : p = k
  ·subst hk
   exact takeP_gone (ledB_mono (fun i hi => passTo_mono _ _ _ _ hi) h)
  ·exact gU _ _ _ _ (ih (by omega))
theorem rank_no_circle {n : Nat} {l : List (Int × Int)} (hok : l.any (outB n) = false) {t : Nat → Nat} (ht : ∀ a, a < n → t a < n ∧ ∀ b, Arr l a b → t b < t a) : circleB n l = false := by
 have key : ∀ r p, p < n → n ≤ t p + r → roundsTo l n r p = true := by
  intro r
  induction r with
  | zero => intro p hp h; have := (ht p hp).1; omega
  | succ r ih =>
   intro p hp h
   unfold roundsTo
   refine passTo_gone hp ?_
   unfold ledB
   rw [List.any_eq_false]
   intro q hq hh
   simp only [Bool.and_eq_true, beq_iff_eq, Bool.not_eq_true'] at hh
   have hin := hok
   rw [List.any_eq_false] at hin
   have := hin q hq
   unfold outB at this
   simp only [Bool.or_eq_true, decide_eq_true_eq, not_or] at this
   have hA : Arr l q.1.toNat p := ⟨q, hq, by omega, hh.1⟩
   have hl := dB hok hA
   have := (ht _ hl.1).2 p hA
   have := ih q.1.toNat hl.1 (by omega)
   rw [this] at hh; simp at hh
 unfold circleB
 rw [List.any_eq_false]
 intro p hp
 rw [key n p (by simpa using hp) (by omega)]
 simp
def BadD (l : List (Int × Int)) (f : St → Nat → Bool × St) (m : Nat) : Prop := ∀ st a, a < 64 → (∀ i, st i ≤ 2) → whites 64 st < m → (∀ u, st u = 1 → Way l u a) → (f st a).1 = false → ∃ c, Way l c c
theorem dL {st st' : St} (h : ∀ i, st' i = 0 → st i = 0) : ∀ n, whites n st' ≤ whites n st
 | 0 => Nat.le_refl _
 | n + 1 => by
  have := dL h n
  unfold whites
  by_cases h2 : st' n = 0
  ·rw [if_pos h2, if_pos (h n h2)]; omega
  ·rw [if_neg h2]; omega
theorem Keeps.white {st st' : St} (h : Keeps st st') (h2 : ∀ i, st i ≤ 2) : ∀ i, st' i = 0 → st i = 0 := by
 intro i hi
 have h1 := h.1 i
 have h3 := h.2.1 i
 have := h2 i
 by_cases e0 : st i = 0
 ·exact e0
 ·by_cases e1 : st i = 1
  ·have := h1.2 e1; omega
  ·have := h3 (by omega); omega
theorem nO {l : List (Int × Int)} {nx : Nat → List Nat} {f : St → Nat → Bool × St} {m : Nat} (hg : GoodD nx 64 f) (hf : BadD l f m) (a : Nat) : ∀ (r : List Nat) (st : St), (∀ b ∈ r, b < 64 ∧ Arr l a b) → (∀ i, st i ≤ 2) → whites 64 st < m → (∀ u, st u = 1 → u = a ∨ Way l u a) → (dfsL f st r).1 = false → ∃ c, Way l c c
 | [], st, _, _, _, _, h => by simp [dfsL] at h
 | b :: r, st, hb, h2, hw, hu, h => by
  unfold dfsL at h
  have hba := hb b (by simp)
  by_cases hc : (f st b).1 = true
  ·rw [if_pos hc] at h
   obtain ⟨k, _, _⟩ := hg st b hba.1 h2 hc
   refine nO hg hf a r (f st b).2 (fun c hcr => hb c (by simp [hcr])) k.2.2 ?_ (fun u hu1 => hu u ((k.1 u).1 hu1)) h
   exact Nat.lt_of_le_of_lt (dL (k.white h2) 64) hw
  ·refine hf st b hba.1 h2 hw ?_ (by simpa using hc)
   intro u hu1
   rcases hu u hu1 with rfl | hw1
   ·exact Way.one hba.2
   ·exact Way.more hw1 hba.2
theorem pZ {n : Nat} {l : List (Int × Int)} (hn : n ≤ 64) (hok : l.any (outB n) = false) : ∀ f, BadD l (dfs (nxF l) f) f
 | 0, st, a, _, _, hw, _, _ => by omega
 | f + 1, st, a, ha, h2, hw, hu, h => by
  unfold dfs at h
  by_cases hp : 0 < st a
  ·rw [if_pos hp] at h
   have e : st a ≠ 2 := by simpa using h
   have := h2 a
   exact ⟨a, hu a (by omega)⟩
  ·rw [if_neg hp] at h
   have h64 : ∀ a, ∀ b ∈ nxF l a, b < 64 := fun a b hb => by have := (dB hok ((dR hok).1 hb)).2; omega
   by_cases hc : (dfsL (dfs (nxF l) f) (upd st a 1) (nxF l a)).1 = true
   ·rw [if_pos hc] at h; simp at h
   ·refine nO (eG h64 f) (pZ hn hok f) a (nxF l a) (upd st a 1) (fun b hb => ⟨h64 a b hb, (dR hok).1 hb⟩) ?_ ?_ ?_ (by simpa using hc)
    ·intro i; unfold upd; split; omega; exact h2 i
    ·have := zL a 1 st (by omega) (by omega) 64 ha; omega
    ·intro u hu1
     unfold upd at hu1
     by_cases hua : u = a
     ·exact Or.inl hua
     ·rw [if_neg hua] at hu1; exact Or.inr (hu u hu1)
theorem eZ {n : Nat} {l : List (Int × Int)} (hn : n ≤ 64) (hok : l.any (outB n) = false) : ∀ (r : List Nat) (st : St), (∀ b ∈ r, b < 64) → (∀ i, st i ≤ 2) → (∀ u, st u ≠ 1) → (dfsL (dfs (nxF l) 65) st r).1 = false → ∃ c, Way l c c
 | [], st, _, _, _, h => by simp [dfsL] at h
 | b :: r, st, hb, h2, hu, h => by
  have h64 : ∀ a, ∀ b ∈ nxF l a, b < 64 := fun a b hb => by have := (dB hok ((dR hok).1 hb)).2; omega
  unfold dfsL at h
  by_cases hc : (dfs (nxF l) 65 st b).1 = true
  ·rw [if_pos hc] at h
   obtain ⟨k, _, _⟩ := eG h64 65 st b (hb b (by simp)) h2 hc
   exact eZ hn hok r _ (fun c hcr => hb c (by simp [hcr])) k.2.2 (fun u e => hu u ((k.1 u).1 e)) h
  ·have := bT st 64
   exact pZ hn hok 65 st b (hb b (by simp)) h2 (by omega) (fun u e => absurd e (hu u)) (by simpa using hc)
theorem way_circle {n : Nat} {l : List (Int × Int)} (hok : l.any (outB n) = false) {c : Nat} (h : Way l c c) : circleB n l = true := by
 have keep1 : ∀ (g : Gone) (p : Nat), (∀ x, Way l c x → g x = false) → ∀ x, Way l c x → takeP l g p x = false := by
  intro g p hg x hx
  unfold takeP
  split
  ·exact hg x hx
  ·rename_i hl
   unfold updB
   by_cases hxp : x = p
   ·exfalso
    refine hl ?_
    subst hxp
    have hy : ∃ y, Arr l y x ∧ Way l c y := by
     cases hx with
     | one hA => exact ⟨c, hA, h⟩
     | more hw hA => exact ⟨_, hA, hw⟩
    obtain ⟨y, ⟨q, hq, h1, h2⟩, hy⟩ := hy
    unfold ledB
    rw [List.any_eq_true]
    refine ⟨q, hq, ?_⟩
    have e : q.1.toNat = y := by omega
    rw [e, hg y hy]
    simp [h2]
   ·rw [if_neg hxp]; exact hg x hx
 have keep2 : ∀ (k : Nat) (g : Gone), (∀ x, Way l c x → g x = false) → ∀ x, Way l c x → passTo l g k x = false := by
  intro k
  induction k with
  | zero => intro g hg; exact hg
  | succ k ih => intro g hg; rw [aY]; exact keep1 _ _ (ih g hg)
 have keep3 : ∀ r, ∀ x, Way l c x → roundsTo l n r x = false := by
  intro r
  induction r with
  | zero => intro x _; rfl
  | succ r ih => unfold roundsTo; exact keep2 _ _ ih
 unfold circleB
 rw [List.any_eq_true]
 have hlt : c < n := by
  cases h with
  | one hA => exact (dB hok hA).1
  | more _ hA => exact (dB hok hA).2
 exact ⟨c, by simpa using hlt, by rw [keep3 n c h]; rfl⟩
theorem dC {n : Nat} {l : List (Int × Int)} (hn : n ≤ 64) (hok : l.any (outB n) = false) : acyB n l = !circleB n l := by
 cases h : acyB n l with
 | true =>
  obtain ⟨t, ht⟩ := kR hok h
  rw [rank_no_circle hok ht]; rfl
 | false =>
  obtain ⟨c, hc⟩ := eZ hn hok (List.range n) (fun _ => 0) (by intro b hb; have := List.mem_range.1 hb; omega) (by simp) (by simp) h
  rw [way_circle hok hc]; rfl
open Go.RowKit Go.ChangeShapes Go.WideShapes Go.Deep
theorem ledB_congr {l l' : List (Int × Int)} (h : ∀ p, p ∈ l ↔ p ∈ l') (g : Gone) (p : Nat) : ledB l g p = ledB l' g p := by
 unfold ledB
 rw [Bool.eq_iff_iff, List.any_eq_true, List.any_eq_true]
 exact ⟨fun ⟨q, h1, h2⟩ => ⟨q, (h q).1 h1, h2⟩, fun ⟨q, h1, h2⟩ => ⟨q, (h q).2 h1, h2⟩⟩
theorem circleB_congr {l l' : List (Int × Int)} (h : ∀ p, p ∈ l ↔ p ∈ l') (n : Nat) : circleB n l = circleB n l' := by
 have e1 : takeP l = takeP l' := by
  funext g p
  unfold takeP
  rw [ledB_congr h]
 have e2 : ∀ g k, passTo l g k = passTo l' g k := fun g k => by unfold passTo; rw [e1]
 have e3 : ∀ r, roundsTo l n r = roundsTo l' n r := fun r => by
  induction r with
  | zero => rfl
  | succ r ih => unfold roundsTo; rw [ih, e2]
 unfold circleB
 rw [e3]
set_option maxHeartbeats 4000000
set_option maxRecDepth 100000
def glob (x : Ex) (r1 r2 r3 r4 : Nat → Nat → Bool) (a b : Nat) : Bool := r1 a b || r2 a b || r3 a b || (r4 a b && !decide ((x.evs.getD a default).hart = (x.evs.getD b default).hart))
def globB (x : Ex) : Nat → Nat → Bool := glob x (isPpo x) (isCoB x) (isFrB x) (isRf x)
def gloL (x : Ex) : List (Int × Int) := refPairs x.evs.length (globB x)
theorem nJ (x : Ex) : (gloL x).any (outB x.evs.length) = false := by
 rw [List.any_eq_false]
 intro p hp
 obtain ⟨a, b, h1, h2, _, rfl⟩ := uP.1 hp
 unfold outB
 simp only [Bool.or_eq_true, decide_eq_true_eq]
 omega
theorem gloL_len {x : Ex} (h : x.rel) : (gloL x).length ≤ 4096 := Nat.le_trans (wW x.evs.length (globB x) x.evs.length) (Nat.mul_le_mul h.len h.len)
set_option maxRecDepth 100000
section
variable {E : Env} {V J : Nat} {ty : TypeId} {pos : String} {af : Array Edge} {gd : Option (Nat × Bool)} {tm : Tm} {σ : Store}
end
structure RenOf (d : Nat) : Prop where
 on : True
variable {E : Env} {v j : Nat} {ops : Array Oper} {K : Tm → Store → Prop} {KD : List Foot → Tm → Store → Prop} {acc : List Foot} {rest : List Oper} {tm : Tm} {σ : Store} {ty : TypeId} {pos : String} {af : Array Edge} {gd : Option (Nat × Bool)}
end Go.Proofs.YtnkocjkkefnelaaGreat
set_option maxHeartbeats 4000000
set_option maxRecDepth 100000
namespace Go.Proofs.YtnkocjkkefnelaaGreat
open Go.RowKit
def cohG (x : Ex) (p : Int × Int) : Bool := !decide ((x.evs.getD p.1.toNat default).kind = 4) && !decide ((x.evs.getD p.2.toNat default).kind = 4) && decide ((x.evs.getD p.1.toNat default).addr = (x.evs.getD p.2.toNat default).addr)
def cohL (x : Ex) : List (Int × Int) := refPairs x.evs.length (isRf x) ++ refPairs x.evs.length (isCoB x) ++ refPairs x.evs.length (isFrB x)
def rcohL (x : Ex) : List (Int × Int) := cohL x ++ (refPairs x.evs.length (isPo x)).filter (cohG x)
theorem yF {n : Nat} {f : Nat → Nat → Bool} {p : Int × Int} (h : p ∈ refPairs n f) : outB n p = false := by
 obtain ⟨a, b, h1, h2, _, rfl⟩ := uP.1 h
 unfold outB
 simp only [Bool.or_eq_false_iff, decide_eq_false_iff_not]
 omega
theorem eY (x : Ex) : (rcohL x).any (outB x.evs.length) = false := by
 rw [List.any_eq_false]
 intro p hp
 have : outB x.evs.length p = false := by
  unfold rcohL cohL at hp
  simp only [List.mem_append] at hp
  rcases hp with ((h | h) | h) | h
  ·exact yF h
  ·exact yF h
  ·exact yF h
  ·exact yF (List.mem_filter.1 h).1
 rw [this]; decide
namespace Ren
end Ren
theorem zY {n : Nat} {l : List (Int × Int)} (hn : n ≤ 64) (hok : l.any (outB n) = false) : circleB n l = false ↔ Evn.Up (Arr l) := by
 constructor
 ·intro h
  have ha : acyB n l = true := by rw [dC hn hok, h]; rfl
  obtain ⟨t, ht⟩ := kR hok ha
  refine ⟨fun a => n - t a, fun a b hab => ?_⟩
  have h1 := (dB hok hab).1
  have h2 := (ht a h1).2 b hab
  have h3 := (ht a h1).1
  show n - t a < n - t b
  omega
 ·rintro ⟨t, ht⟩
  have way : ∀ a b, Way l a b → t a < t b := fun a b h => by
   induction h with
   | one h => exact ht _ _ h
   | more _ h ih => exact Nat.lt_trans ih (ht _ _ h)
  cases h : acyB n l with
  | true => rw [dC hn hok] at h; simpa using h
  | false =>
   obtain ⟨c, hc⟩ := eZ hn hok (List.range n) (fun _ => 0) (by intro b hb; have := List.mem_range.1 hb; omega) (by simp) (by simp) h
   exact absurd (way c c hc) (Nat.lt_irrefl _)
section
variable {x : Ex}
theorem Ex.rel.ev (h : x.rel) {n : Nat} (hn : n < x.evs.length) : evOk x.evs (addrsTo x.evs) n = true := by
 have h2 := (uV h.check).2.1
 unfold evsTo at h2
 exact List.all_eq_true.1 h2 n (List.mem_range.2 hn)
theorem Ex.rel.kinds (h : x.rel) {n : Nat} (hn : n < x.evs.length) : let e := x.evs.getD n default
  ((e.kind = 5 ∧ n < (addrsTo x.evs).length ∧ e.addr = (addrsTo x.evs).getD n 0 ∧ e.hart = -1) ∨ (¬ e.kind = 5 ∧ (addrsTo x.evs).length ≤ n ∧ 0 ≤ e.hart ∧ (n = (addrsTo x.evs).length ∨ (x.evs.getD (n - 1) default).hart ≤ e.hart))) ∧ (e.kind = 1 ∨ e.kind = 2 ∨ e.kind = 3 ∨ e.kind = 4 ∨ e.kind = 5) := by
 have h1 := h.ev hn
 intro e
 unfold evOk at h1
 simp only [Bool.and_eq_true] at h1
 obtain ⟨hp, h2⟩ := h1
 unfold evPre at hp
 simp only [Bool.and_eq_true] at hp
 have hb : e.bareB = true := hp.1.1.1.1
 constructor
 ·split at h2
  ·rename_i hlt
   simp only [Bool.and_eq_true, beq_iff_eq] at h2
   refine Or.inl ⟨h2.1, hlt, h2.2, ?_⟩
   unfold Ev.bareB at hb
   rw [if_pos h2.1] at hb
   simp only [Bool.and_eq_true, beq_iff_eq] at hb
   exact hb.1.1.1.1
  ·rename_i hge
   simp only [Bool.and_eq_true, bne_iff_ne, ne_eq, decide_eq_true_eq, Bool.or_eq_true, beq_iff_eq] at h2
   exact Or.inr ⟨h2.1.1.1, by omega, h2.1.1.2, h2.2.imp (fun h => by omega) fun h => h⟩
 ·unfold Ev.bareB at hb
  by_cases k5 : e.kind = 5
  ·exact Or.inr (Or.inr (Or.inr (Or.inr k5)))
  rw [if_neg k5] at hb
  by_cases k1 : e.kind = 1
  ·exact Or.inl k1
  rw [if_neg k1] at hb
  by_cases k2 : e.kind = 2
  ·exact Or.inr (Or.inl k2)
  rw [if_neg k2] at hb
  by_cases k3 : e.kind = 3
  ·exact Or.inr (Or.inr (Or.inl k3))
  rw [if_neg k3] at hb
  by_cases k4 : e.kind = 4
  ·exact Or.inr (Or.inr (Or.inr (Or.inl k4)))
  rw [if_neg k4] at hb
  cases hb
theorem Ex.rel.rise (h : x.rel) {a : Nat} : ∀ {b : Nat}, a ≤ b → b < x.evs.length → (addrsTo x.evs).length ≤ a → (x.evs.getD a default).hart ≤ (x.evs.getD b default).hart := fun {b} hab hb ha => by
  induction b with
  | zero => have : a = 0 := by omega
            subst this; exact Int.le_refl _
  | succ b ih =>
    by_cases e : a = b + 1
    · subst e; exact Int.le_refl _
    · have h1 := ih (by omega) (by omega)
      have h2 := (h.kinds hb).1
      rcases h2 with ⟨_, h2, _⟩ | ⟨_, _, _, h2⟩
      · omega
      · rcases h2 with h2 | h2
        · omega
        · rw [Nat.add_sub_cancel] at h2
          exact Int.le_trans h1 h2
def evn (x : Ex) : Evn where
 n := x.evs.length
 st a := (x.evs.getD a default).stB = true
 ld a := (x.evs.getD a default).ldB = true
 nf a := ¬ (x.evs.getD a default).kind = 4
 bg a := (x.evs.getD a default).kind = 5
 addr a := (x.evs.getD a default).addr
 hart a := (x.evs.getD a default).hart
 src a := (x.from_.getD a 0).toNat
 co a b := a < x.evs.length ∧ b < x.evs.length ∧ isCoB x a b = true
 ppo a b := a < x.evs.length ∧ b < x.evs.length ∧ isPpo x a b = true
theorem arr_mem {n : Nat} {f : Nat → Nat → Bool} {a b : Nat} : Arr (refPairs n f) a b ↔ a < n ∧ b < n ∧ f a b = true := by
 unfold Arr
 constructor
 ·rintro ⟨q, hq, h1, h2⟩
  obtain ⟨c, d, h3, h4, h5, rfl⟩ := uP.1 hq
  dsimp only at h1 h2
  have e1 : c = a := by omega
  have e2 : d = b := by omega
  subst e1 e2
  exact ⟨h3, h4, h5⟩
 ·rintro ⟨h1, h2, h3⟩
  exact ⟨_, uP.2 ⟨a, b, h1, h2, h3, rfl⟩, rfl, rfl⟩
def allE (x : Ex) : List Nat := (List.range x.evs.length).filter fun a => !decide ((x.evs.getD a default).kind = 4)
def begE (x : Ex) : List Nat := (List.range x.evs.length).filter fun a => decide ((x.evs.getD a default).kind = 5)
end
open Go.RowKit Go.Shelf Go.Maps Go.Sort
open Go.WideMaps (KeyLaw)
theorem pairLaid : laidOutB Tryz.prog = true := by kernel_rfl
theorem pR : (73 : TypeId) < Tryz.prog.types.size := of_decide_eq_true (by kernel_rfl)
theorem lJ : KeyLaw Tryz.prog 73 := deep_law_laid pairLaid (m := 2) (by omega) pR (by kernel_rfl) (by kernel_rfl)
theorem bW : Keyed Tryz.prog 73 := Keyed.of_law lJ
def kpL (p : Int × Int) : Lit := .string (keyBytes [.int .i64 p.1, .int .i64 p.2])
theorem bX : Tryz.prog.cellsOf 73 = 2 := by kernel_rfl
theorem kE : Tryz.prog.cellsOf 3 = 1 := by kernel_rfl
theorem mZ : Tryz.prog.keyType 73 = true := by kernel_rfl
theorem qQ {m : Nat} {u : Value} {ls : List Lit} (h : Tryz.prog.keyLits (m + 1) 3 [u] = some ls) : ∃ a, u = .int .i64 a := by
 cases u <;> simp [Program.keyLits, Tryz.underlying3] at h
 exact ⟨_, by rw [h.1.1]⟩
theorem qN : ∃ m, Tryz.prog.types.size = m + 1 := by
 obtain ⟨k, hk⟩ := Nat.exists_eq_add_of_lt pR
 exact ⟨_, hk⟩
theorem pU {a b : Int} (ha : (Lit.int .i64 a).wf = true) (hb : (Lit.int .i64 b).wf = true) : keyOf Tryz.prog 73 (.agg #[.int .i64 a, .int .i64 b]) = some (kpL (a, b)) := by
 obtain ⟨m, hm⟩ := qN
 have hf : (Value.agg #[.int .i64 a, .int .i64 b]).formed Tryz.prog 73 = true := by simp [Value.formed, Tryz.underlying73, bX]
 have hl : Tryz.prog.keyLits (Tryz.prog.types.size + 1) 73 [.int .i64 a, .int .i64 b] = some [.int .i64 a, .int .i64 b] := by
  rw [hm]
  simp [Program.keyLits, Tryz.underlying73, Tryz.underlying3, bX, kE, ha, hb]
 simp only [keyOf, Tryz.underlying73, mZ, hf, Value.cells, Bool.and_self, if_true]
 rw [hl]
 rfl
theorem keyPair_inv {v : Value} {kl : Lit} (h : keyOf Tryz.prog 73 v = some kl) : ∃ p : Int × Int, v = .agg #[.int .i64 p.1, .int .i64 p.2] := by
 obtain ⟨m, hm⟩ := qN
 simp only [keyOf, Tryz.underlying73, mZ, Bool.true_and] at h
 split at h
 case isFalse => cases h
 rename_i hf
 obtain ⟨xs, rfl, hx⟩ : ∃ xs : Array Value, v = .agg xs ∧ xs.size = 2 := by
  cases v <;> simp [Value.formed, Tryz.underlying73, bX] at hf
  exact ⟨_, rfl, hf⟩
 obtain ⟨u, z, rfl⟩ : ∃ u z, xs = #[u, z] := by
  refine ⟨xs[0], xs[1], ?_⟩
  apply Array.ext
  ·simpa using hx
  ·intro i h1 h2
   match i, h2 with
   | 0, _ => rfl
   | 1, _ => rfl
 rw [hm] at h
 obtain ⟨ls, hls, _⟩ := Option.map_eq_some_iff.1 h
 simp only [Value.cells] at hls
 unfold Program.keyLits at hls
 simp only [Tryz.underlying73, bX] at hls
 split at hls
 case isFalse => cases hls
 obtain ⟨ls2, hls2, _⟩ := Option.map_eq_some_iff.1 hls
 simp [kE, Option.bind_eq_some_iff] at hls2
 obtain ⟨l1, h1, l2, ⟨l3, h2, _⟩, _⟩ := hls2
 obtain ⟨a, rfl⟩ := qQ h1
 obtain ⟨b, rfl⟩ := qQ h2
 exact ⟨(a, b), rfl⟩
theorem wfP (n : Fin 65536) : (Lit.int .i64 (n.val : Int)).wf = true := by
 have := n.isLt
 simp only [Lit.wf, IntKind.min, IntKind.max, IntKind.signed, IntKind.bits, Bool.and_eq_true, decide_eq_true_eq, if_true]
 omega
def kp (x : P2) : Lit := kpL ((x.1.val : Int), (x.2.val : Int))
theorem oO (x : P2) : keyOf Tryz.prog 73 (.agg #[.int .i64 (x.1.val : Int), .int .i64 (x.2.val : Int)]) = some (kp x) := pU (wfP _) (wfP _)
theorem rE {p : Int × Int} {x : P2} (h : Value.agg #[.int .i64 p.1, .int .i64 p.2] = .agg #[.int .i64 (x.1.val : Int), .int .i64 (x.2.val : Int)]) : p = ((x.1.val : Int), (x.2.val : Int)) := by
 simp at h
 exact Prod.ext h.1 h.2
theorem oN {x y : P2} (h : kp x = kp y) : x = y := by
 have := rE (p := ((x.1.val : Int), (x.2.val : Int))) (bW.inj (oO x) (h ▸ oO y))
 simp only [Prod.mk.injEq] at this
 exact Prod.ext (Fin.ext (by omega)) (Fin.ext (by omega))
def KeysP (D0 : DataW Unit) (ss : List P2) : Prop := ss.Nodup ∧ (∀ x ∈ ss, has D0 (kp x) = true) ∧ ∀ kl, has D0 kl = true → ∃ x ∈ ss, kl = kp x
def CollP (D0 : DataW Unit) (left : Lit → Bool) (ss : List P2) : Prop := ss.Nodup ∧ (∀ x ∈ ss, has D0 (kp x) = true ∧ left (kp x) = false) ∧ ∀ kl, has D0 kl = true → left kl = false → ∃ x ∈ ss, kl = kp x
theorem CollP.start (D0 : DataW Unit) : CollP D0 (has D0) [] := ⟨List.nodup_nil, fun x h => (by cases h), fun kl h1 h2 => (by rw [h1] at h2; cases h2)⟩
theorem pN {x y : P2} : (kp x).sameKey (kp y) = decide (x = y) := by
 unfold Lit.sameKey
 by_cases h : x = y
 ·subst h; simp [kp, kpL]
 ·have h2 : kp x ≠ kp y := fun e => h (oN e)
  rw [decide_eq_false h]
  unfold kp kpL at h2 ⊢
  simpa using h2
theorem CollP.step {D0 : DataW Unit} {left : Lit → Bool} {ss : List P2} (h : CollP D0 left ss) (hsm : ∀ kl, has D0 kl = true → ∃ x, kl = kp x) {x : P2} (hlk : left (kp x) = true) (hx : has D0 (kp x) = true) : CollP D0 (fun z => left z && !z.sameKey (kp x)) (ss ++ [x]) := by
 obtain ⟨h1, h2, h3⟩ := h
 have hnew : x ∉ ss := fun hm => by have := (h2 x hm).2; rw [hlk] at this; cases this
 refine ⟨List.nodup_append.2 ⟨h1, by simp, fun a ha b hb => by simp at hb; subst hb; exact fun e => hnew (e ▸ ha)⟩, fun y hy => ?_, fun kl hk hl => ?_⟩
 ·rcases List.mem_append.1 hy with hy | hy
  ·exact ⟨(h2 y hy).1, by simp [(h2 y hy).2]⟩
  ·have : y = x := by simpa using hy
   subst this
   refine ⟨hx, ?_⟩
   show (left (kp y) && !(kp y).sameKey (kp y)) = false
   rw [pN]; simp
 ·obtain ⟨y, rfl⟩ := hsm kl hk
  replace hl : (left (kp y) && !(kp y).sameKey (kp x)) = false := hl
  rw [pN] at hl
  by_cases e : y = x
  ·exact ⟨y, by simp [e], rfl⟩
  ·simp [e] at hl
   obtain ⟨z, hz, ez⟩ := h3 _ hk hl
   exact ⟨z, by simp [hz], ez⟩
theorem CollP.done {D0 : DataW Unit} {left : Lit → Bool} {ss : List P2} (h : CollP D0 left ss) (hl : ∀ kl, left kl = false) : KeysP D0 ss := ⟨h.1, fun x hx => (h.2.1 x hx).1, fun kl hk => h.2.2 kl hk (hl kl)⟩
set_option maxRecDepth 100000 in
set_option maxHeartbeats 1000000 in
theorem keys1_p (F : Fence) (hF : ∀ f, F.fn f) (n : Nat) (hro : F.round = none) (hn : 1 ≤ n) (l Bm of b nn : Nat) (D0 : DataW Unit) (hsm : ∀ kl, has D0 kl = true → ∃ x, kl = kp x) (J Jx : List P2 → World → Prop)
  (hY : ∀ pre (x : P2) W, J pre W → pre.length < Maps.size D0 → YieldAt F (n - 1) Tryz.prog l #[.agg #[.int .i64 (x.1.val : Int), .int .i64 (x.2.val : Int)]] W fun e W' =>
   (e = .returned (.bool true) ∧ J (pre ++ [x]) W' ∧ KeepsWalks W W') ∨ (e = .returned (.bool false) ∧ Jx (pre ++ [x]) W'))
  (W : World) (hJ : AbidesFrom W.heap.size J) (hm : W.cell? ⟨Bm, of, none⟩ = some (.map (some b))) (hown : W.ownsMap Tryz.prog 73 (plainElem Tryz.prog 3) b nn D0) (h0 : J [] W) :
  CallsIn F n Tryz.prog 96 #[.func (.yield l) #[] #[], .pointer (some ⟨Bm, of, none⟩)] W fun e W' => (∃ v, e = .returned v) ∧
   ((∃ ss : List P2, KeysP D0 ss ∧ J ss W') ∨ (∃ pre : List P2, True ∧ Jx pre W')) := by
 refine callsIn_of_wp Tryz.func96 rfl (hF _) ?_ hro
 simp only [Tryz.ntmps96, List.size_toArray, List.length_cons, List.length_nil, Nat.reduceAdd, Nat.reduceSub, Array.replicate_succ, Array.replicate_zero, List.push_toArray, List.append_toArray, List.nil_append, List.cons_append]
 gi_wp2_with (first
  | (gi_at_range; refine wpListIn_range_own _ rfl _ 92 rfl 73 3 bW Tryz.underlying92 _ b nn _ rfl hown ?_; intro w0 hrg0 hg0 hs0)
  | gi_in)
 go_frame
 gi_loopw [3] (fun _ wr => ∃ (left : Lit → Bool) (cnt : Nat) (ss : List P2), wr.ranges Tryz.prog 73 (plainElem Tryz.prog 3) b W.heap.size nn D0 left cnt ∧ ss.length + cnt ≤ Maps.size D0 ∧ CollP D0 left ss ∧ J ss wr)
  (fun _ wr => wr.rangeLeft b W.heap.size)
 case atStart =>
  exact ⟨_, _, [], hrg0, by simp, CollP.start D0, hJ [] W w0 none h0 hg0 (fun r e => by cases e)⟩
 case round =>
  obtain ⟨left, cnt, ss, hrg, hcs, hC, hJs⟩ := hrel
  gi_wp2_with (first
   | (gi_at_next; refine wpListIn_next_ranges _ rfl _ rfl 73 bW _ (fun p : Int × Int => Value.agg #[.int .i64 p.1, .int .i64 p.2]) (fun c : Int => Value.int .i64 c) (fun _ _ h => keyPair_inv h) (fun v y h => by obtain ⟨a, ha, _⟩ := plainElem_int_inv Tryz.underlying3 h; exact ⟨a, ha⟩) b W.heap.size nn _ _ _ rfl hrg ?_ ?_)
   | gi_in)
  ·intro hc0 hl0
   gi_wp2
   go_end0
   exact ⟨⟨_, rfl⟩, .inl ⟨ss, hC.done hl0, hJs⟩⟩
  ·intro xa xb c kl y1 y2 w2 cnt2 hkey hlk hRv hat hrg2 hlt hg2 hs2 hen
   have hhas : has D0 kl = true := has_true_of_atKey hat
   obtain ⟨x, rfl⟩ := hsm kl hhas
   have ex := rE (p := (xa, xb)) (bW.inj hkey (oO x))
   simp only [Prod.mk.injEq] at ex
   obtain ⟨rfl, rfl⟩ := ex
   have hJ2 : J ss w2 := hJ ss wr w2 (some W.heap.size) hJs hg2 (fun r e => by cases e; exact ⟨Nat.le_refl _, hrg.iter_walk⟩)
   have hJ2' := hJ ss w2 (w2.alloc (.cells #[.int .i64 (x.1.val : Int), .int .i64 (x.2.val : Int)] 73)) none hJ2 (World.grownBy_alloc _ _ none) (fun r e => by cases e)
   obtain ⟨fn, tmps, assign, body, hy, hR⟩ := hY ss x _ hJ2' (by omega)
   clear hs2
   gi_wp2
   refine hR.mono ?_
   rintro e W3 (⟨rfl, hJ3, hk3⟩ | ⟨rfl, hJx3⟩)
   ·gi_wp2
    have hrg3 := (hrg2.alloc _).of_walks hk3
    go_roundw
    case rel => exact ⟨_, cnt2, ss ++ [x], hrg3, by simp; omega, hC.step hsm hlk hhas, hJ3⟩
    case measure => rw [hrg3.left_eq, hrg.left_eq]; exact hlt
   ·gi_wp2
    refine bodyPost_ret (results_none rfl _ _ _) rfl ?_
    exact ⟨⟨_, rfl⟩, .inr ⟨_, trivial, hJx3⟩⟩
theorem keysP_stops (F : Fence) (hF : ∀ f, F.fn f) (n : Nat) (hro : F.round = none) (hn : 1 ≤ n) (Bm of b nn : Nat) (D0 : DataW Unit) (hsm : ∀ kl, has D0 kl = true → ∃ x, kl = kp x) (w : World) (hBm : Bm < w.heap.size)
  (hm : w.cell? ⟨Bm, of, none⟩ = some (.map (some b))) (hown : w.ownsMap Tryz.prog 73 (plainElem Tryz.prog 3) b nn D0) :
  SeqStopsK F n Tryz.prog 96 #[.pointer (some ⟨Bm, of, none⟩)] (fun x : P2 => #[.agg #[.int .i64 (x.1.val : Int), .int .i64 (x.2.val : Int)]]) KeepsWalks (KeysP D0) (fun _ => True) (Maps.size D0) w := fun l J Jx W hW hJ hJx hY h0 => by
 have hown' : W.ownsMap Tryz.prog 73 (plainElem Tryz.prog 3) b nn D0 := by
  have hbl := hown.lt
  obtain ⟨es, clock, hb, Ft, hs, hD⟩ := hown
  exact ⟨es, clock, (hW.block b hbl).trans hb, Ft, hs, hD⟩
 exact keys1_p F hF n hro hn l Bm of b nn D0 hsm J Jx hY W hJ ((hW.cell (p := ⟨Bm, of, none⟩) hBm).trans hm) hown' h0
set_option maxHeartbeats 1000000 in
theorem cmpA_c (x y : P2) (W : World) : Calls Tryz.prog 68 #[aggP x, aggP y] W fun e w' => e = .returned (.int .i64 (cmpP x y)) ∧ ∃ q os', w' = grow (W.drewN q) os' := by
 obtain ⟨⟨a, ha⟩, ⟨b, hb⟩⟩ := x
 obtain ⟨⟨c, hc⟩, ⟨d, hd⟩⟩ := y
 unfold aggP cmpP
 dsimp only
 by_cases h : a = c
 ·rw [if_pos h]
  subst h
  have h1 : ((a : Int) != (a : Int)) = false := by simp
  go_enter Tryz.func68, Tryz.ntmps68
  go_wp2
  go_ret
  exact ⟨rfl, 0, _, by rw [alloc_eq_grow, alloc_eq_grow, grow_grow]; rfl⟩
 ·rw [if_neg h]
  have h1 : ((a : Int) != (c : Int)) = true := by simp; omega
  have h2 : (a != c) = true := by simpa using h
  clear h
  go_enter Tryz.func68, Tryz.ntmps68
  go_wp2
  go_ret
  exact ⟨rfl, 0, _, by rw [alloc_eq_grow, alloc_eq_grow, grow_grow]; rfl⟩
theorem cmpLaysA (blk off size : Nat) (w : World) : CmpLays Tryz.prog 68 #[] encP 2 cmpP blk off size w :=
 fun _ _ _ _ x y => cmpA_c x y _
theorem sortPairsA_c (blk off cap : Nat) (d : Array P2) (w : World) (hH : HoldsK encP 2 w blk off d) (hblk : blk < w.heap.size) (hsz : d.size < 4611686018427387904) :
  Calls Tryz.prog 95 #[.slice (some ⟨blk, off, none⟩) d.size cap, .func (.func 68) #[] #[]] w fun e w' => e = .returned (.tuple #[]) ∧ ∃ d' n os, PermIn 0 d.size d d' ∧ SortedIn ltP 0 d.size d' ∧ w' = sortWorldK encP 2 w blk off n d' os := by
 have h := AnyQ.slices_SortFunc Tryz.sortPairs 2 Tryz.isAgg73 Tryz.sizeOf73 encP (fun _ => rfl) (fun x v hv => by simp [encP] at hv; rcases hv with rfl | rfl <;> rfl) cmpP swoP 68 #[] blk off cap d w (enters_of Tryz.func68 (by kernel_rfl) rfl) (cmpLaysA blk off d.size w) hH hblk hsz
 refine Calls.mono h ?_
 rintro e w' ⟨he, d', n, os, hp, hs, hw⟩
 exact ⟨he, d', n, os, hp, fun i j h1 h2 h3 => by rw [← yN]; exact hs i j h1 h2 h3, hw⟩
set_option maxRecDepth 100000 in
set_option maxHeartbeats 2000000 in
theorem sortedFuncA_p (n : Nat) (hn : 4 ≤ n) (g : Nat) (lb : Array Value) (eg : ∀ args w, (callFunc g args).run Tryz.prog w = .ok (.enter g args) w)
  (Kp : World → World → Prop) (S Sp : List P2 → Prop) (N : Nat) (hN : N ≤ 4294967296) (w : World)
  (hKt : ∀ {A B C : World}, Kp A B → Kp B C → Kp A C) (hKb : ∀ (W : World) (l : Nat) (o o' : Obj), w.heap.size ≤ l → W.heap[l]? = some o → o.isCells = false → o.isWalk = false → Kp W (W.putObj l o'))
  (hKo : ∀ W W', KeepsOthers W W' → Below w.heap.size W W' → Kp W W')
  (hseq : SeqStopsK Fence.wide (n - 1 - 1 - 1) Tryz.prog g lb (fun x : P2 => #[.agg #[.int .i64 (x.1.val : Int), .int .i64 (x.2.val : Int)]]) Kp S Sp N w) :
  CallsIn Fence.wide n Tryz.prog 66 #[.func (.func g) #[] lb, .func (.func 68) #[] #[]] w fun e w' => ∃ (v : Value) (ss : List P2), e = .returned v ∧ S ss ∧ ss.length ≤ N ∧
   w'.ownsRow w.heap.size 73 2 v (sortP ss).length (flatP (sortP ss)) ∧ Below w.heap.size w w' := by
 have h1 : 1 ≤ n := by omega
 have hF : ∀ f, Fence.wide.fn f := fun _ => trivial
 have hro : Fence.wide.round = none := rfl
 refine callsIn_of_wp Tryz.func66 rfl (hF _) ?_ hro
 simp only [Tryz.ntmps66, List.size_toArray, List.length_cons, List.length_nil, Nat.reduceAdd, Nat.reduceSub, Array.replicate_succ, Array.replicate_zero, List.push_toArray, List.append_toArray, List.nil_append, List.cons_append]
 gi_wp2_with (gi_at_call 94; refine (collect_p Fence.wide (fun _ => trivial) (n - 1) rfl (by omega) g lb eg Kp S Sp N hN _ hKt hKb hKo hseq).mono ?_; rintro e W ⟨v, ss, rfl, hS, hlen, hrow, hnil, hb⟩)
 rcases hrow.2 with ⟨rfl, hz⟩ | ⟨gb, cap, cur, rfl, hbase, hgb, r1, r2, r3, r4⟩
 ·have hss : ss = [] := List.eq_nil_of_length_eq_zero hz
  subst hss
  have cS := (callsIn_wide (n := n - 1)).2 (aT none 0 (.func (.func 68) #[] #[]) W)
  gi_wp2_with (gi_at_call 95; refine cS.mono ?_; rintro e w' ⟨rfl, rfl⟩)
  go_ret
  have e0 : sortP [] = [] := by simp [sortP]
  exact ⟨_, [], rfl, hS, by simp, by rw [e0]; exact World.ownsRow_nil _ _ _ _, hb⟩
 ·have hF : (flatK encP 2 ss.toArray).size = ss.length * 2 := by simp
  have hH : HoldsK encP 2 W gb 0 ss.toArray := aN hgb (by rw [hF, yH]; exact r4)
  have hgl : gb < W.heap.size := (Array.getElem?_eq_some_iff.1 hgb).1
  have cS := (callsIn_wide (n := n - 1)).2 (sortPairsA_c gb 0 cap ss.toArray W hH hgl (by simp; omega))
  rw [List.size_toArray] at cS
  gi_wp2_with (gi_at_call 95; refine cS.mono ?_; rintro e w' ⟨rfl, d', nn, os, hp, hs, rfl⟩)
  go_ret
  have hd : d'.size = ss.length := by have := hp.1; simpa using this
  have hsort : d'.toList = sortP ss := dN ss.toArray d' (by simpa using hp) (by simpa using hs)
  have hF2 : (flatK encP 2 d').size = ss.length * 2 := by simp [hd]
  have hrow2 := ownsRow_sortedV (n := nn) (os := os) hF2 hbase hgb r1 r2 r3
  have e3 : (flatK encP 2 d').toList = flatP (sortP ss) := by rw [← hsort, ← yH]
  have e4 : ss.length = (sortP ss).length := by rw [← hsort]; simp [hd]
  rw [e3] at hrow2
  have hrow3 : (sortWorldK encP 2 W gb 0 nn d' os).ownsRow w.heap.size 73 2 (.slice (some ⟨gb, 0, none⟩) ss.length cap) (sortP ss).length (flatP (sortP ss)) := by rw [← e4]; exact hrow2
  exact ⟨_, ss, rfl, hS, hlen, hrow3, hb.grown (aO _) hb.size (fun j hj => by cases hj; exact hbase)⟩
end Go.Proofs.YtnkocjkkefnelaaGreat
