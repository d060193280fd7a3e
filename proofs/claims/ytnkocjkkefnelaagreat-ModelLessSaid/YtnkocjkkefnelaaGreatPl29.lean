/- Parts. -/
import Derived.Deep.OwnRows
import Derived.Test.YtnkocjkkefnelaaGreatPl4
import Derived.Test.YtnkocjkkefnelaaGreatPl5
import Derived.Test.YtnkocjkkefnelaaGreatPl6
import Derived.Test.YtnkocjkkefnelaaGreatPl7
import Derived.Test.YtnkocjkkefnelaaGreatPl10
import Derived.Test.YtnkocjkkefnelaaGreatPl20
import Derived.Test.YtnkocjkkefnelaaGreatPl22
import Derived.Test.YtnkocjkkefnelaaGreatPl23
import Derived.Test.YtnkocjkkefnelaaGreatPl28
set_option linter.unusedVariables false
set_option linter.unusedSimpArgs false
set_option maxHeartbeats 4000000
set_option maxHeartbeats 4000000
set_option maxRecDepth 100000
namespace Go.Proofs.YtnkocjkkefnelaaGreat
open Go.RowKit
def ledTo (l : List (Int × Int)) (g : Gone) (p k : Nat) : Bool := ledB (l.take k) g p
def goneTo (l : List (Int × Int)) (n k : Nat) : Bool := (List.range k).all (fun p => roundsTo l n n p)
def gv (g : Gone) : Nat → Value := fun i => .bool (g i)
def Arr (l : List (Int × Int)) (a b : Nat) : Prop := ∃ q ∈ l, q.1 = (a : Int) ∧ q.2 = (b : Int)
inductive Way (l : List (Int × Int)) : Nat → Nat → Prop where
 | one {a b : Nat} (h : Arr l a b) : Way l a b
 | more {a b c : Nat} (h : Way l a b) (h2 : Arr l b c) : Way l a c
theorem fA {l : List (Int × Int)} {n : Nat} (hok : l.any (outB n) = false) {a b : Nat} : b ∈ nxF l a ↔ Arr l a b := by
 unfold nxF nxTo Arr
 rw [List.take_length]
 simp only [List.mem_map, List.mem_filter, beq_iff_eq]
 constructor
 ·rintro ⟨z, ⟨q, ⟨hq, h1⟩, rfl⟩, rfl⟩
  refine ⟨q, hq, h1, ?_⟩
  rw [List.any_eq_false] at hok
  have := hok q hq
  unfold outB at this
  simp only [Bool.or_eq_true, decide_eq_true_eq, not_or] at this
  omega
 ·rintro ⟨q, hq, h1, h2⟩
  exact ⟨q.2, ⟨q, ⟨hq, h1⟩, rfl⟩, by rw [h2]; simp⟩
theorem eE {l : List (Int × Int)} {n : Nat} (hok : l.any (outB n) = false) {a b : Nat} (h : Arr l a b) : a < n ∧ b < n := by
 obtain ⟨q, hq, h1, h2⟩ := h
 rw [List.any_eq_false] at hok
 have := hok q hq
 unfold outB at this
 simp only [Bool.or_eq_true, decide_eq_true_eq, not_or] at this
 omega
def Keeps (st st' : St) : Prop := (∀ i, st' i = 1 ↔ st i = 1) ∧ (∀ i, st i = 2 → st' i = 2) ∧ (∀ i, st' i ≤ 2)
def Ranked (nx : Nat → List Nat) (st : St) (t : Nat → Nat) (c : Nat) : Prop := ∀ a, st a = 2 → t a < c ∧ ∀ b ∈ nx a, st b = 2 ∧ t b < t a
def twos : Nat → St → Nat
 | 0, _ => 0
 | n + 1, st => twos n st + (if st n = 2 then 1 else 0)
theorem sE (st : St) : ∀ n, twos n st ≤ n
 | 0 => Nat.le_refl _
 | n + 1 => by have := sE st n; unfold twos; split <;> omega
theorem oS {st : St} {a : Nat} (h : st a ≠ 2) : ∀ n, a < n → twos n (upd st a 2) = twos n st + 1
 | 0, ha => by omega
 | n + 1, ha => by
  unfold twos
  by_cases hn : n = a
  ·subst hn
   have e1 : upd st n 2 n = 2 := by unfold upd; rw [if_pos rfl]
   have e2 : ∀ m, m ≤ n → twos m (upd st n 2) = twos m st := by
    intro m
    induction m with
    | zero => intro _; rfl
    | succ m ih =>
     intro hm
     have e3 : upd st n 2 m = st m := by unfold upd; rw [if_neg (by omega)]
     unfold twos
     rw [ih (by omega), e3]
   rw [e1, if_pos rfl, if_neg h, e2 n (Nat.le_refl _)]
  ·have := oS h n (by omega)
   have e3 : upd st a 2 n = st n := by unfold upd; rw [if_neg hn]
   rw [this, e3]; omega
def GoodD (nx : Nat → List Nat) (n : Nat) (f : St → Nat → Bool × St) : Prop := ∀ st a, a < n → (∀ i, st i ≤ 2) → (f st a).1 = true →
 Keeps st (f st a).2 ∧ (f st a).2 a = 2 ∧ ∀ t, Ranked nx st t (twos n st) → ∃ t', Ranked nx (f st a).2 t' (twos n (f st a).2)
theorem gJ {nx : Nat → List Nat} {n : Nat} {f : St → Nat → Bool × St} (hf : GoodD nx n f) : ∀ (l : List Nat) (st : St), (∀ b ∈ l, b < n) → (∀ i, st i ≤ 2) → (dfsL f st l).1 = true →
  Keeps st (dfsL f st l).2 ∧ (∀ b ∈ l, (dfsL f st l).2 b = 2) ∧ ∀ t, Ranked nx st t (twos n st) → ∃ t', Ranked nx (dfsL f st l).2 t' (twos n (dfsL f st l).2)
 | [], st, _, h2, _ => ⟨⟨fun _ => Iff.rfl, fun _ h => h, h2⟩, by simp, fun t ht => ⟨t, ht⟩⟩
 | b :: r, st, hb, h2, h => by
  unfold dfsL at h ⊢
  by_cases hc : (f st b).1 = true
  ·rw [if_pos hc] at h ⊢
   obtain ⟨⟨k1, k2, k3⟩, k4, k5⟩ := hf st b (hb b (by simp)) h2 hc
   obtain ⟨⟨g1, g2, g3⟩, g4, g5⟩ := gJ hf r (f st b).2 (fun c hcr => hb c (by simp [hcr])) k3 h
   refine ⟨⟨fun i => (g1 i).trans (k1 i), fun i hi => g2 i (k2 i hi), g3⟩, ?_, ?_⟩
   ·intro c hcm
    rcases List.mem_cons.1 hcm with rfl | hcm
    ·exact g2 _ k4
    ·exact g4 c hcm
   ·intro t ht
    obtain ⟨t1, ht1⟩ := k5 t ht
    exact g5 t1 ht1
  ·rw [if_neg hc] at h; exact absurd h (by simp)
theorem fK {nx : Nat → List Nat} {n : Nat} (hn : ∀ a, ∀ b ∈ nx a, b < n) : ∀ f, GoodD nx n (dfs nx f)
 | 0, st, a, _, _, h => by simp [dfs] at h
 | f + 1, st, a, ha, h2, h => by
  unfold dfs at h ⊢
  by_cases hp : 0 < st a
  ·rw [if_pos hp] at h ⊢
   have e : st a = 2 := by simpa using h
   exact ⟨⟨fun _ => Iff.rfl, fun _ h => h, h2⟩, e, fun t ht => ⟨t, ht⟩⟩
  ·rw [if_neg hp] at h ⊢
   by_cases hc : (dfsL (dfs nx f) (upd st a 1) (nx a)).1 = true
   ·rw [if_pos hc] at h ⊢
    have hu2 : ∀ i, upd st a 1 i ≤ 2 := by intro i; unfold upd; split; omega; exact h2 i
    obtain ⟨⟨g1, g2, g3⟩, g4, g5⟩ := gJ (fK hn f) (nx a) (upd st a 1) (hn a) hu2 hc
    generalize (dfsL (dfs nx f) (upd st a 1) (nx a)).2 = s at *
    have sa : s a = 1 := (g1 a).2 (by unfold upd; rw [if_pos rfl])
    have ha0 : st a = 0 := by omega
    refine ⟨⟨?_, ?_, ?_⟩, by dsimp only; unfold upd; rw [if_pos rfl], ?_⟩
    ·intro i
     dsimp only
     by_cases hi : i = a
     ·subst hi; unfold upd; rw [if_pos rfl]; omega
     ·have e1 : upd s a 2 i = s i := by unfold upd; rw [if_neg hi]
      have e2 : upd st a 1 i = st i := by unfold upd; rw [if_neg hi]
      rw [e1, g1 i, e2]
    ·intro i hi
     dsimp only
     by_cases hia : i = a
     ·subst hia; unfold upd; rw [if_pos rfl]
     ·have e1 : upd s a 2 i = s i := by unfold upd; rw [if_neg hia]
      rw [e1]; exact g2 i (by unfold upd; rw [if_neg hia]; exact hi)
    ·intro i; dsimp only; unfold upd; split; omega; exact g3 i
    ·intro t ht
     have hru : Ranked nx (upd st a 1) t (twos n (upd st a 1)) := by
      have e : ∀ i, upd st a 1 i = 2 ↔ st i = 2 := by
       intro i; unfold upd; by_cases hi : i = a
       ·rw [if_pos hi, hi]; omega
       ·rw [if_neg hi]
      have e4 : ∀ m, twos m (upd st a 1) = twos m st := by
       intro m
       induction m with
       | zero => rfl
       | succ m ih => unfold twos; rw [ih]; simp only [e]
      intro c hc
      rw [e4]
      obtain ⟨r1, r2⟩ := ht c ((e c).1 hc)
      exact ⟨r1, fun b hb => ⟨(e b).2 (r2 b hb).1, (r2 b hb).2⟩⟩
     obtain ⟨t', ht'⟩ := g5 t hru
     refine ⟨fun i => if i = a then twos n s else t' i, ?_⟩
     dsimp only
     rw [oS (by omega) n ha]
     intro c hc
     dsimp only
     by_cases hca : c = a
     ·subst hca
      rw [if_pos rfl]
      refine ⟨by omega, fun b hb => ?_⟩
      have hb2 := g4 b hb
      have hbc : b ≠ c := by intro e; subst e; omega
      refine ⟨by unfold upd; rw [if_neg hbc]; exact hb2, ?_⟩
      rw [if_neg hbc]
      exact (ht' b hb2).1
     ·rw [if_neg hca]
      have e1 : upd s a 2 c = s c := by unfold upd; rw [if_neg hca]
      rw [e1] at hc
      obtain ⟨r1, r2⟩ := ht' c hc
      refine ⟨by omega, fun b hb => ?_⟩
      have hb2 := (r2 b hb).1
      have hbc : b ≠ a := by intro e; subst e; omega
      refine ⟨by unfold upd; rw [if_neg hbc]; exact hb2, ?_⟩
      rw [if_neg hbc]
      exact (r2 b hb).2
   ·rw [if_neg hc] at h; exact absurd h (by simp)
theorem mZ {n : Nat} {l : List (Int × Int)} (hok : l.any (outB n) = false) (h : acyB n l = true) : ∃ t : Nat → Nat, ∀ a, a < n → t a < n ∧ ∀ b, Arr l a b → t b < t a := by
 unfold acyB at h
 have hn : ∀ a, ∀ b ∈ nxF l a, b < n := fun a b hb => (eE hok ((fA hok).1 hb)).2
 obtain ⟨_, g4, g5⟩ := gJ (fK hn 65) (List.range n) (fun _ => 0) (by simp) (by simp) h
 obtain ⟨t, ht⟩ := g5 (fun _ => 0) (by intro c hc; simp at hc)
 refine ⟨t, fun a ha => ?_⟩
 obtain ⟨r1, r2⟩ := ht a (g4 a (by simpa using ha))
 have := sE (dfsL (dfs (nxF l) 65) (fun _ => 0) (List.range n)).2 n
 exact ⟨by omega, fun b hb => (r2 b ((fA hok).2 hb)).2⟩
theorem takeP_gone {l : List (Int × Int)} {g : Gone} {p : Nat} (h : ledB l g p = false) : takeP l g p p = true := by
 unfold takeP updB
 rw [h]
 simp
theorem ledB_mono {l : List (Int × Int)} {g g' : Gone} {p : Nat} (hg : ∀ i, g i = true → g' i = true) (h : ledB l g p = false) : ledB l g' p = false := by
 unfold ledB at *
 rw [List.any_eq_false] at *
 intro q hq hh
 refine h q hq ?_
 simp only [Bool.and_eq_true, Bool.not_eq_true'] at *
 refine ⟨hh.1, ?_⟩
 cases hgq : g q.1.toNat with
 | false => rfl
 | true => rw [hg _ hgq] at hh; simp at hh
theorem passTo_gone {l : List (Int × Int)} {g : Gone} {k p : Nat} (hp : p < k) (h : ledB l g p = false) : passTo l g k p = true := by
 induction k with
 | zero => omega
 | succ k ih =>
  rw [bU]
  by_cases hk : p = k
  ·subst hk
   exact takeP_gone (ledB_mono (fun i hi => passTo_mono _ _ _ _ hi) h)
  ·exact jH _ _ _ _ (ih (by omega))
theorem rank_no_circle {n : Nat} {l : List (Int × Int)} (hok : l.any (outB n) = false) {t : Nat → Nat} (ht : ∀ a, a < n → t a < n ∧ ∀ b, Arr l a b → t b < t a) : circleB n l = false := by
 have key : ∀ r p, p < n → n ≤ t p + r → roundsTo l n r p = true := by
  intro r
  induction r with
  | zero => intro p hp h; have := (ht p hp).1; omega
  | succ r ih =>
   intro p hp h
   unfold roundsTo
   refine passTo_gone hp ?_
   unfold ledB
   rw [List.any_eq_false]
   intro q hq hh
   simp only [Bool.and_eq_true, beq_iff_eq, Bool.not_eq_true'] at hh
   have hin := hok
   rw [List.any_eq_false] at hin
   have := hin q hq
   unfold outB at this
   simp only [Bool.or_eq_true, decide_eq_true_eq, not_or] at this
   have hA : Arr l q.1.toNat p := ⟨q, hq, by omega, hh.1⟩
   have hl := eE hok hA
   have := (ht _ hl.1).2 p hA
   have := ih q.1.toNat hl.1 (by omega)
   rw [this] at hh; simp at hh
 unfold circleB
 rw [List.any_eq_false]
 intro p hp
 rw [key n p (by simpa using hp) (by omega)]
 simp
def BadD (l : List (Int × Int)) (f : St → Nat → Bool × St) (m : Nat) : Prop := ∀ st a, a < 64 → (∀ i, st i ≤ 2) → whites 64 st < m → (∀ u, st u = 1 → Way l u a) → (f st a).1 = false → ∃ c, Way l c c
theorem eT {st st' : St} (h : ∀ i, st' i = 0 → st i = 0) : ∀ n, whites n st' ≤ whites n st
 | 0 => Nat.le_refl _
 | n + 1 => by
  have := eT h n
  unfold whites
  by_cases h2 : st' n = 0
  ·rw [if_pos h2, if_pos (h n h2)]; omega
  ·rw [if_neg h2]; omega
theorem Keeps.white {st st' : St} (h : Keeps st st') (h2 : ∀ i, st i ≤ 2) : ∀ i, st' i = 0 → st i = 0 := by
 intro i hi
 have h1 := h.1 i
 have h3 := h.2.1 i
 have := h2 i
 by_cases e0 : st i = 0
 ·exact e0
 ·by_cases e1 : st i = 1
  ·have := h1.2 e1; omega
  ·have := h3 (by omega); omega
theorem qC {l : List (Int × Int)} {nx : Nat → List Nat} {f : St → Nat → Bool × St} {m : Nat} (hg : GoodD nx 64 f) (hf : BadD l f m) (a : Nat) : ∀ (r : List Nat) (st : St), (∀ b ∈ r, b < 64 ∧ Arr l a b) → (∀ i, st i ≤ 2) → whites 64 st < m → (∀ u, st u = 1 → u = a ∨ Way l u a) → (dfsL f st r).1 = false → ∃ c, Way l c c
 | [], st, _, _, _, _, h => by simp [dfsL] at h
 | b :: r, st, hb, h2, hw, hu, h => by
  unfold dfsL at h
  have hba := hb b (by simp)
  by_cases hc : (f st b).1 = true
  ·rw [if_pos hc] at h
   obtain ⟨k, _, _⟩ := hg st b hba.1 h2 hc
   refine qC hg hf a r (f st b).2 (fun c hcr => hb c (by simp [hcr])) k.2.2 ?_ (fun u hu1 => hu u ((k.1 u).1 hu1)) h
   exact Nat.lt_of_le_of_lt (eT (k.white h2) 64) hw
  ·refine hf st b hba.1 h2 hw ?_ (by simpa using hc)
   intro u hu1
   rcases hu u hu1 with rfl | hw1
   ·exact Way.one hba.2
   ·exact Way.more hw1 hba.2
theorem tD {n : Nat} {l : List (Int × Int)} (hn : n ≤ 64) (hok : l.any (outB n) = false) : ∀ f, BadD l (dfs (nxF l) f) f
 | 0, st, a, _, _, hw, _, _ => by omega
 | f + 1, st, a, ha, h2, hw, hu, h => by
  unfold dfs at h
  by_cases hp : 0 < st a
  ·rw [if_pos hp] at h
   have e : st a ≠ 2 := by simpa using h
   have := h2 a
   exact ⟨a, hu a (by omega)⟩
  ·rw [if_neg hp] at h
   have h64 : ∀ a, ∀ b ∈ nxF l a, b < 64 := fun a b hb => by have := (eE hok ((fA hok).1 hb)).2; omega
   by_cases hc : (dfsL (dfs (nxF l) f) (upd st a 1) (nxF l a)).1 = true
   ·rw [if_pos hc] at h; simp at h
   ·refine qC (fK h64 f) (tD hn hok f) a (nxF l a) (upd st a 1) (fun b hb => ⟨h64 a b hb, (fA hok).1 hb⟩) ?_ ?_ ?_ (by simpa using hc)
    ·intro i; unfold upd; split; omega; exact h2 i
    ·have := zP a 1 st (by omega) (by omega) 64 ha; omega
    ·intro u hu1
     unfold upd at hu1
     by_cases hua : u = a
     ·exact Or.inl hua
     ·rw [if_neg hua] at hu1; exact Or.inr (hu u hu1)
theorem fZ {n : Nat} {l : List (Int × Int)} (hn : n ≤ 64) (hok : l.any (outB n) = false) : ∀ (r : List Nat) (st : St), (∀ b ∈ r, b < 64) → (∀ i, st i ≤ 2) → (∀ u, st u ≠ 1) → (dfsL (dfs (nxF l) 65) st r).1 = false → ∃ c, Way l c c
 | [], st, _, _, _, h => by simp [dfsL] at h
 | b :: r, st, hb, h2, hu, h => by
  have h64 : ∀ a, ∀ b ∈ nxF l a, b < 64 := fun a b hb => by have := (eE hok ((fA hok).1 hb)).2; omega
  unfold dfsL at h
  by_cases hc : (dfs (nxF l) 65 st b).1 = true
  ·rw [if_pos hc] at h
   obtain ⟨k, _, _⟩ := fK h64 65 st b (hb b (by simp)) h2 hc
   exact fZ hn hok r _ (fun c hcr => hb c (by simp [hcr])) k.2.2 (fun u e => hu u ((k.1 u).1 e)) h
  ·have := cO st 64
   exact tD hn hok 65 st b (hb b (by simp)) h2 (by omega) (fun u e => absurd e (hu u)) (by simpa using hc)
theorem way_circle {n : Nat} {l : List (Int × Int)} (hok : l.any (outB n) = false) {c : Nat} (h : Way l c c) : circleB n l = true := by
 have keep1 : ∀ (g : Gone) (p : Nat), (∀ x, Way l c x → g x = false) → ∀ x, Way l c x → takeP l g p x = false := by
  intro g p hg x hx
  unfold takeP
  split
  ·exact hg x hx
  ·rename_i hl
   unfold updB
   by_cases hxp : x = p
   ·exfalso
    refine hl ?_
    subst hxp
    have hy : ∃ y, Arr l y x ∧ Way l c y := by
     cases hx with
     | one hA => exact ⟨c, hA, h⟩
     | more hw hA => exact ⟨_, hA, hw⟩
    obtain ⟨y, ⟨q, hq, h1, h2⟩, hy⟩ := hy
    unfold ledB
    rw [List.any_eq_true]
    refine ⟨q, hq, ?_⟩
    have e : q.1.toNat = y := by omega
    rw [e, hg y hy]
    simp [h2]
   ·rw [if_neg hxp]; exact hg x hx
 have keep2 : ∀ (k : Nat) (g : Gone), (∀ x, Way l c x → g x = false) → ∀ x, Way l c x → passTo l g k x = false := by
  intro k
  induction k with
  | zero => intro g hg; exact hg
  | succ k ih => intro g hg; rw [bU]; exact keep1 _ _ (ih g hg)
 have keep3 : ∀ r, ∀ x, Way l c x → roundsTo l n r x = false := by
  intro r
  induction r with
  | zero => intro x _; rfl
  | succ r ih => unfold roundsTo; exact keep2 _ _ ih
 unfold circleB
 rw [List.any_eq_true]
 have hlt : c < n := by
  cases h with
  | one hA => exact (eE hok hA).1
  | more _ hA => exact (eE hok hA).2
 exact ⟨c, by simpa using hlt, by rw [keep3 n c h]; rfl⟩
theorem eG {n : Nat} {l : List (Int × Int)} (hn : n ≤ 64) (hok : l.any (outB n) = false) : acyB n l = !circleB n l := by
 cases h : acyB n l with
 | true =>
  obtain ⟨t, ht⟩ := mZ hok h
  rw [rank_no_circle hok ht]; rfl
 | false =>
  obtain ⟨c, hc⟩ := fZ hn hok (List.range n) (fun _ => 0) (by intro b hb; have := List.mem_range.1 hb; omega) (by simp) (by simp) h
  rw [way_circle hok hc]; rfl
open Go.RowKit Go.ChangeShapes Go.WideShapes Go.Deep
theorem ledB_congr {l l' : List (Int × Int)} (h : ∀ p, p ∈ l ↔ p ∈ l') (g : Gone) (p : Nat) : ledB l g p = ledB l' g p := by
 unfold ledB
 rw [Bool.eq_iff_iff, List.any_eq_true, List.any_eq_true]
 exact ⟨fun ⟨q, h1, h2⟩ => ⟨q, (h q).1 h1, h2⟩, fun ⟨q, h1, h2⟩ => ⟨q, (h q).2 h1, h2⟩⟩
theorem circleB_congr {l l' : List (Int × Int)} (h : ∀ p, p ∈ l ↔ p ∈ l') (n : Nat) : circleB n l = circleB n l' := by
 have e1 : takeP l = takeP l' := by
  funext g p
  unfold takeP
  rw [ledB_congr h]
 have e2 : ∀ g k, passTo l g k = passTo l' g k := fun g k => by unfold passTo; rw [e1]
 have e3 : ∀ r, roundsTo l n r = roundsTo l' n r := fun r => by
  induction r with
  | zero => rfl
  | succ r ih => unfold roundsTo; rw [ih, e2]
 unfold circleB
 rw [e3]
set_option maxHeartbeats 4000000
set_option maxRecDepth 100000
def glob (x : Ex) (r1 r2 r3 r4 : Nat → Nat → Bool) (a b : Nat) : Bool := r1 a b || r2 a b || r3 a b || (r4 a b && !decide ((x.evs.getD a default).hart = (x.evs.getD b default).hart))
def globB (x : Ex) : Nat → Nat → Bool := glob x (isPpo x) (isCoB x) (isFrB x) (isRf x)
def gloL (x : Ex) : List (Int × Int) := refPairs x.evs.length (globB x)
theorem kC (x : Ex) : (gloL x).any (outB x.evs.length) = false := by
 rw [List.any_eq_false]
 intro p hp
 obtain ⟨a, b, h1, h2, _, rfl⟩ := uX.1 hp
 unfold outB
 simp only [Bool.or_eq_true, decide_eq_true_eq]
 omega
theorem gloL_len {x : Ex} (h : x.rel) : (gloL x).length ≤ 4096 := Nat.le_trans (wP x.evs.length (globB x) x.evs.length) (Nat.mul_le_mul h.len h.len)
set_option maxRecDepth 100000
section
variable {E : Env} {V J : Nat} {ty : TypeId} {pos : String} {af : Array Edge} {gd : Option (Nat × Bool)} {tm : Tm} {σ : Store}
theorem Y_appendR {d : Nat} {T e : TypeId} {te ee : TE} {x z : Operand} {s k n : Nat} {τ : Stamp} {y2 : OV} {ks2 : List Nat} {rows1 rows2 : List (List OV)} (hT : E.tab T = some te) (hk : te.k = .slice e) (hE : E.tab e = some ee) (hs : ee.size = s) (hpos : 0 < s)
  (hx : ev tm x = some (.os k τ s n)) (hz : ev tm z = some y2) (hs1 : σ k = some (τ, ⟨s, rows1⟩)) (hn : n = rows1.length) (h2 : Src σ s y2 ks2 rows2) (hlf : ∀ r ∈ rows2, ∀ y ∈ r, y.leaf = true)
  (hb : (rows1.length + rows2.length) * ee.bytes ≤ 140737488355328) (hm : rows1.length + rows2.length ≤ maxLen) :
  YL E.P V J ⟨some d, .call { callee := .builtin .append, args := #[x, z], argTypes := #[T, T] }, ty, pos, af, gd⟩ tm σ (k :: ks2) (.os d (V, J) s (rows1.length + rows2.length)) [(k, none), (d, some ((V, J), ⟨s, rows1 ++ rows2⟩))] :=
 fun σ' hσ Γ G ρ w hv hf hρ hw => by
 have hs1 : σ' k = some (τ, ⟨s, rows1⟩) := by rw [hσ k (by simp)]; exact hs1
 have hwd : WRel Γ G (σ'.del k) w := hw.forget (Store.del_le σ' k)
 have h2 := h2.move (σ' := σ') fun k hk => hσ k (by simp [hk])
 have r1 := hρ x (by simp [Op.operands, Call.operands]) _ hx
 obtain ⟨a, c, e2, hlc, hsrc⟩ := h2.lies hw (hρ z (by simp [Op.operands, Call.operands]) _ hz) hlf
 obtain ⟨_, i, zv, hi, i1, i2, hzv, hzc, hlen, hone⟩ := E.ok e ee hE
 have ht := (E.ok T te hT).1
 rw [hk] at ht
 simp only [TK.fits] at ht
 have hzs : zv.cells.size = s := by rw [← Array.length_toList, hzc, hlen, hs]
 have his : i.size = s := by omega
 have hmI : ((rows1.length + rows2.length : Nat) : Int) ≤ 9223372036854775807 := by unfold maxLen at hm; omega
 show NextOk E.P Γ G V J _ ((σ'.del k).put d ((V, J), ⟨s, rows1 ++ rows2⟩)) _
 -- the first slice's block, where it has one
 have nilCase : ρ x = .slice none 0 0 → rows1 = [] → NextOk E.P Γ G V J (.os d (V, J) s (rows1.length + rows2.length)) ((σ'.del k).put d ((V, J), ⟨s, rows1 ++ rows2⟩))
   ((execOp ρ ⟨some d, .call { callee := .builtin .append, args := #[x, z], argTypes := #[T, T] }, ty, pos, af, gd⟩).run E.P w) := fun e1 hr1 => by
  subst hr1
  simp only [List.nil_append, List.length_nil, Nat.zero_add] at hb hm hmI ⊢
  rcases hsrc with ⟨rfl, rfl⟩ | ⟨ad, rfl, vs, v1, v2, v3, v4⟩
  ·rw [vP (u := .slice none 0 0) (w' := w) (by rw [e1, e2]; exact wV ht hi none 0 0 c (Nat.le_refl _))]
   exact ⟨_, Gh.name_le G _ (hf d), vT G d V J _, by rw [RepO]; exact Or.inr ⟨Gh.name_self _ _ _ _, rfl, rfl⟩, hwd.phantom d hv (hf d) s⟩
  ·by_cases h0 : rows2.length = 0
   ·have : rows2 = [] := List.eq_nil_of_length_eq_zero h0
    subst this
    have hvs : vs = [] := List.eq_nil_of_length_eq_zero (by simpa using v1)
    subst hvs
    have hr : (Builtin.append_ #[T, T] ty #[ρ x, ρ z]).run E.P w = .ok (.slice none 0 0) w := by
     rw [e1, e2]
     simp [Builtin.append_, run_underlying ht, sizeOf, typeInfo, hi, Builtin.lenOf, Builtin.firstCells, loadCells, loadCellsFrom]
    rw [vP hr]
    exact ⟨_, Gh.name_le G _ (hf d), vT G d V J _, by rw [RepO]; exact Or.inr ⟨Gh.name_self _ _ _ _, rfl, rfl⟩, hwd.phantom d hv (hf d) s⟩
   ·have hr := run_append_nil (P := E.P) w T ty e i zv ht hi hzv ad rows2.length c vs (by rw [his]; exact v1) v2 (by omega) hmI (by rw [i2]; omega)
    rw [vP (by rw [e1, e2]; exact hr)]
    have hge := grownCap_ge w rows2.length 0 e
    refine Leaves.made hwd hv hf ?_ rfl hge (grownCap_le_maxLen w rows2.length 0 e hm) (by simp only [Array.size_append, List.size_toArray, size_zeroCells, hzs, v1, ← Nat.add_mul]; congr 1; omega)
    intro i' row hi'
    obtain ⟨q1, q2⟩ := v4 i' row hi'
    refine ⟨q1, fun p y hy => ?_⟩
    obtain ⟨v, q3, q4⟩ := q2 p y hy
    refine ⟨v, ?_, q4⟩
    rw [Array.getElem?_append_left]
    ·exact q3
    ·rcases Nat.lt_or_ge (i' * s + p) vs.toArray.size with hh | hh
     ·exact hh
     ·rw [Array.getElem?_eq_none hh] at q3; cases q3
 subst hn
 rw [RepO] at r1
 rcases r1 with ⟨β, cap, hμ, e1, c1, c2, c3⟩ | ⟨hμ, e1, hn⟩
 ·have hother : ∀ k' τ' r' β', k' ≠ d → (σ'.del k) k' = some (τ', r') → G.μ k' τ' = some (some β') → β'.b ≠ β.b := fun k' τ' r' β' _ hk' hμ' e => by
   by_cases hkk : k' = k
   ·subst hkk; rw [Store.del_self] at hk'; cases hk'
   ·rw [Store.del_ne _ hkk] at hk'
    exact hkk (hw.inj k' k τ' τ β' β r' _ hk' hs1 hμ' hμ e)
  obtain ⟨hsep, hfr⟩ : (∀ o, G.M β.b o = none) ∧ (Γ.w0.heap.size ≤ β.b ∨ Γ.S β.b) := by
   rcases hw.own k τ _ hs1 with ⟨h1, _⟩ | ⟨β0, h1, h2, hsep, hfr⟩
   ·rw [hμ] at h1; cases h1
   ·rw [hμ] at h1; cases h1; exact ⟨hsep, hfr⟩
  obtain ⟨cs, g1, g2, g3, g4⟩ := hw.blk hs1 hμ
  simp only at g3
  rcases hsrc with ⟨rfl, rfl⟩ | ⟨ad, rfl, vs, v1, v2, v3, v4⟩
  ·rw [vP (u := ρ x) (w' := w) (by rw [e1, e2]; exact wV ht hi _ rows1.length cap c c1), e1]
   refine ⟨_, Gh.name_le G _ (hf d), vT G d V J _, ?_, hwd.named (k := d) (β := β) hv (hf d) (Nat.le_refl _) rfl rfl rfl (fun _ _ _ => rfl) ⟨cs, g1, g2, by simpa using g3, by simpa using g4⟩ hsep hfr hother⟩
   rw [RepO]
   exact Or.inl ⟨β, cap, Gh.name_self _ _ _ _, rfl, by simpa using c1, c2, c3⟩
  ·by_cases hroom : rows1.length + rows2.length ≤ cap
   ·have hfit : rows1.length * s + vs.length ≤ cs.size := by rw [v1, g2, c2, ← Nat.add_mul]; exact Nat.mul_le_mul_right _ hroom
    have hr := zX (P := E.P) w T ty e β.T i ht hi β.b rows1.length cap cs g1 ad rows2.length c vs (by rw [his]; exact v1) v2 v3 hroom (by rw [his]; exact hfit)
    rw [his] at hr
    rw [vP (by rw [e1, e2]; exact hr)]
    refine ⟨_, Gh.name_le G _ (hf d), vT G d V J _, ?_, hwd.named (k := d) (β := β) hv (hf d) (by simp) rfl rfl rfl (fun b _ hb => setRow_other w β.b b _ hb) ⟨_, setRow_heap w β.b cs _ β.T _ g1, ?_, ?_, ?_⟩ hsep hfr hother⟩
    ·rw [RepO]
     exact Or.inl ⟨β, cap, Gh.name_self _ _ _ _, rfl, hroom, c2, c3⟩
    ·simp only [List.size_toArray, List.length_append, List.length_take, List.length_drop, Array.length_toList]
     omega
    ·simp only [List.length_append, Nat.add_mul]
     rw [← v1, ← g2]; exact hfit
    ·have htl : (cs.toList.take (rows1.length * s)).length = rows1.length * s := by simp; omega
     refine RowAt.append (vs := vs) ?_ ?_ ?_ v4 v1
     ·have e3 : (cs.toList.take (rows1.length * s) ++ vs).length = rows1.length * s + vs.length := by rw [List.length_append, htl]
      rw [← e3, List.take_left]
      rw [List.append_assoc, ← htl, List.length_take]
      rw [Nat.min_eq_left (by simp; omega), List.take_left' (by simp; omega)]
     ·simp only [List.size_toArray, List.length_append, List.length_take, List.length_drop, Array.length_toList]
      omega
     ·intro i' row hi'
      obtain ⟨q1, q2⟩ := g4 i' row hi'
      refine ⟨q1, fun p y hy => ?_⟩
      obtain ⟨v, q3, q4⟩ := q2 p y hy
      refine ⟨v, ?_, q4⟩
      have hlt : i' < rows1.length := by
       rcases Nat.lt_or_ge i' rows1.length with hh | hh
       ·exact hh
       ·rw [show (Row.rows ⟨s, rows1⟩) = rows1 from rfl, List.getElem?_eq_none hh] at hi'; cases hi'
      have hp : p < s := by
       rcases Nat.lt_or_ge p row.length with hh | hh
       ·have := q1; simp only at this; omega
       ·rw [List.getElem?_eq_none hh] at hy; cases hy
      have hb' : (i' + 1) * s ≤ rows1.length * s := Nat.mul_le_mul_right s hlt
      rw [Nat.succ_mul] at hb'
      simp only [List.getElem?_toArray, List.append_assoc]
      rw [List.getElem?_append_left (by rw [htl]; omega), List.getElem?_take, if_pos (by omega)]
      simpa using q3
   ·have hol : ∀ j u, (cs.toList.take (rows1.length * s))[j]? = some u → w.cell? ((⟨β.b, 0, none⟩ : Addr).add j) = some u := fun j u hu => by
     rw [List.getElem?_take] at hu
     split at hu
     ·rw [wT]; simpa [World.cell?, g1] using hu
     ·cases hu
    have htl : (cs.toList.take (rows1.length * s)).length = rows1.length * s := by simp; omega
    have hr := run_append_grow (P := E.P) w T ty e i zv ht hi hzv ⟨β.b, 0, none⟩ rows1.length cap (cs.toList.take (rows1.length * s)) (by rw [htl, his]) hol ad rows2.length c vs (by rw [his]; exact v1) v2 (by omega) hmI (growslice_fits (by omega) (by rw [i2]; exact hb))
    rw [vP (by rw [e1, e2]; exact hr)]
    have hge := grownCap_ge w (rows1.length + rows2.length) cap e
    refine Leaves.made hwd hv hf ?_ (by simp) hge (grownCap_le_maxLen w _ cap e hm) (by
     simp only [Array.size_append, List.size_toArray, size_zeroCells, hzs, htl, v1, ← Nat.add_mul]; congr 1; omega)
    refine RowAt.append (vs := vs) ?_ ?_ ?_ v4 v1
    ·simp only [Array.toList_append, List.append_assoc]
     exact oT _ vs _ _ htl
    ·simp only [Array.size_append, List.size_toArray, htl]; omega
    ·intro i' row hi'
     obtain ⟨q1, q2⟩ := g4 i' row hi'
     refine ⟨q1, fun p y hy => ?_⟩
     obtain ⟨v, q3, q4⟩ := q2 p y hy
     refine ⟨v, ?_, q4⟩
     have hlt : i' < rows1.length := by
      rcases Nat.lt_or_ge i' rows1.length with hh | hh
      ·exact hh
      ·rw [show (Row.rows ⟨s, rows1⟩) = rows1 from rfl, List.getElem?_eq_none hh] at hi'; cases hi'
     have hp : p < s := by
      rcases Nat.lt_or_ge p row.length with hh | hh
      ·have := q1; simp only at this; omega
      ·rw [List.getElem?_eq_none hh] at hy; cases hy
     have hb' : (i' + 1) * s ≤ rows1.length * s := Nat.mul_le_mul_right s hlt
     rw [Nat.succ_mul] at hb'
     have hlt2 : i' * s + p < rows1.length * s := by omega
     rw [Array.append_assoc, Array.getElem?_append_left (by simpa [htl] using hlt2)]
     simp only [List.getElem?_toArray]
     rw [List.getElem?_take, if_pos hlt2]
     simpa using q3
 ·exact nilCase e1 (List.eq_nil_of_length_eq_zero hn)
end
structure RenOf (d : Nat) : Prop where
 on : True
variable {E : Env} {v j : Nat} {ops : Array Oper} {K : Tm → Store → Prop} {KD : List Foot → Tm → Store → Prop} {acc : List Foot} {rest : List Oper} {tm : Tm} {σ : Store} {ty : TypeId} {pos : String} {af : Array Edge} {gd : Option (Nat × Bool)}
theorem Ren.D_appendK {d : Nat} {T e : TypeId} {te ee : TE} {x z : Operand} {s k n : Nat} {τ : Stamp} {y2 : OV} {ks2 : List Nat} {rows1 rows2 : List (List OV)} (hmk : RenOf d) (hT : E.tab T = some te) (hk : te.k = .slice e) (hE : E.tab e = some ee) (hs : ee.size = s) (hpos : 0 < s) (hx : ev tm x = some (.os k τ s n)) (hz : ev tm z = some y2) (h1 : Dst σ s d (.os k τ s n) [k] k rows1) (h2 : Src σ s y2 ks2 rows2) (hlf : ∀ r ∈ rows2, ∀ y ∈ r, y.leaf = true) (hb : (rows1.length + rows2.length) * ee.bytes ≤ 140737488355328) (hm : rows1.length + rows2.length ≤ maxLen) (hcont : DO E.P v ops KD (j + 1) rest (tm.putO (some d) (.os d (v, j) s (rows1.length + rows2.length))) (σ.apply [(k, none), (d, some ((v, j), ⟨s, rows1 ++ rows2⟩))]) (Foot.mk (k :: ks2) (wkeys [(k, none), (d, some ((v, j), ⟨s, rows1 ++ rows2⟩))]) :: acc)) : DO E.P v ops KD j (⟨some d, .call { callee := .builtin .append, args := #[x, z], argTypes := #[T, T] }, ty, pos, af, none⟩ :: rest) tm σ acc := by
 cases h1 with
 | os _ _ _ _ hs1 hn => exact uL (Y_appendR hT hk hE hs hpos hx hz hs1 hn h2 hlf hb hm) hcont
end Go.Proofs.YtnkocjkkefnelaaGreat
set_option maxHeartbeats 4000000
set_option maxRecDepth 100000
namespace Go.Proofs.YtnkocjkkefnelaaGreat
open Go.RowKit
def cohG (x : Ex) (p : Int × Int) : Bool := !decide ((x.evs.getD p.1.toNat default).kind = 4) && !decide ((x.evs.getD p.2.toNat default).kind = 4) && decide ((x.evs.getD p.1.toNat default).addr = (x.evs.getD p.2.toNat default).addr)
def cohL (x : Ex) : List (Int × Int) := refPairs x.evs.length (isRf x) ++ refPairs x.evs.length (isCoB x) ++ refPairs x.evs.length (isFrB x)
def rcohL (x : Ex) : List (Int × Int) := cohL x ++ (refPairs x.evs.length (isPo x)).filter (cohG x)
theorem yM {n : Nat} {f : Nat → Nat → Bool} {p : Int × Int} (h : p ∈ refPairs n f) : outB n p = false := by
 obtain ⟨a, b, h1, h2, _, rfl⟩ := uX.1 h
 unfold outB
 simp only [Bool.or_eq_false_iff, decide_eq_false_iff_not]
 omega
theorem rcohL_out (x : Ex) : (rcohL x).any (outB x.evs.length) = false := by
 rw [List.any_eq_false]
 intro p hp
 have : outB x.evs.length p = false := by
  unfold rcohL cohL at hp
  simp only [List.mem_append] at hp
  rcases hp with ((h | h) | h) | h
  ·exact yM h
  ·exact yM h
  ·exact yM h
  ·exact yM (List.mem_filter.1 h).1
 rw [this]; decide
namespace Ren
end Ren
theorem eU {n : Nat} {l : List (Int × Int)} (hn : n ≤ 64) (hok : l.any (outB n) = false) : circleB n l = false ↔ Evn.Up (Arr l) := by
 constructor
 ·intro h
  have ha : acyB n l = true := by rw [eG hn hok, h]; rfl
  obtain ⟨t, ht⟩ := mZ hok ha
  refine ⟨fun a => n - t a, fun a b hab => ?_⟩
  have h1 := (eE hok hab).1
  have h2 := (ht a h1).2 b hab
  have h3 := (ht a h1).1
  show n - t a < n - t b
  omega
 ·rintro ⟨t, ht⟩
  have way : ∀ a b, Way l a b → t a < t b := fun a b h => by
   induction h with
   | one h => exact ht _ _ h
   | more _ h ih => exact Nat.lt_trans ih (ht _ _ h)
  cases h : acyB n l with
  | true => rw [eG hn hok] at h; simpa using h
  | false =>
   obtain ⟨c, hc⟩ := fZ hn hok (List.range n) (fun _ => 0) (by intro b hb; have := List.mem_range.1 hb; omega) (by simp) (by simp) h
   exact absurd (way c c hc) (Nat.lt_irrefl _)
section
variable {x : Ex}
theorem Ex.rel.ev (h : x.rel) {n : Nat} (hn : n < x.evs.length) : evOk x.evs (addrsTo x.evs) n = true := by
 have h2 := (vI h.check).2.1
 unfold evsTo at h2
 exact List.all_eq_true.1 h2 n (List.mem_range.2 hn)
def evn (x : Ex) : Evn where
 n := x.evs.length
 st a := (x.evs.getD a default).stB = true
 ld a := (x.evs.getD a default).ldB = true
 nf a := ¬ (x.evs.getD a default).kind = 4
 bg a := (x.evs.getD a default).kind = 5
 addr a := (x.evs.getD a default).addr
 hart a := (x.evs.getD a default).hart
 src a := (x.from_.getD a 0).toNat
 co a b := a < x.evs.length ∧ b < x.evs.length ∧ isCoB x a b = true
 ppo a b := a < x.evs.length ∧ b < x.evs.length ∧ isPpo x a b = true
theorem arr_mem {n : Nat} {f : Nat → Nat → Bool} {a b : Nat} : Arr (refPairs n f) a b ↔ a < n ∧ b < n ∧ f a b = true := by
 unfold Arr
 constructor
 ·rintro ⟨q, hq, h1, h2⟩
  obtain ⟨c, d, h3, h4, h5, rfl⟩ := uX.1 hq
  dsimp only at h1 h2
  have e1 : c = a := by omega
  have e2 : d = b := by omega
  subst e1 e2
  exact ⟨h3, h4, h5⟩
 ·rintro ⟨h1, h2, h3⟩
  exact ⟨_, uX.2 ⟨a, b, h1, h2, h3, rfl⟩, rfl, rfl⟩
def allE (x : Ex) : List Nat := (List.range x.evs.length).filter fun a => !decide ((x.evs.getD a default).kind = 4)
def begE (x : Ex) : List Nat := (List.range x.evs.length).filter fun a => decide ((x.evs.getD a default).kind = 5)
end
end Go.Proofs.YtnkocjkkefnelaaGreat
