/- Parts. -/
import Derived.Test.YtnkocjkkefnelaaGreatPs5
import Derived.Test.YtnkocjkkefnelaaGreatPs23
set_option linter.unusedVariables false
set_option linter.unusedSimpArgs false
set_option maxHeartbeats 4000000
namespace Go.Proofs.YtnkocjkkefnelaaGreat
theorem sh_all : ∀ k, k < 16 → shAll k = true
 | 0, _ => sh_all0
 | 1, _ => sh_all1
 | 2, _ => sh_all2
 | 3, _ => sh_all3
 | 4, _ => sh_all4
 | 5, _ => sh_all5
 | 6, _ => sh_all6
 | 7, _ => sh_all7
 | 8, _ => sh_all8
 | 9, _ => sh_all9
 | 10, _ => sh_all10
 | 11, _ => sh_all11
 | 12, _ => sh_all12
 | 13, _ => sh_all13
 | 14, _ => sh_all14
 | 15, _ => sh_all15
 | k + 16, h => absurd h (by omega)
theorem sh_ok {k b r : Nat} (hk : k < 16) (hb : b < 25) (hr : r < 16) : (shRd (shK k) (shBt b) (shR r) 4).ex.rel ∧ (shRd (shK k) (shBt b) (shR r) 4).es.length ≤ 8 ∧ ∀ i, i < 4 → shRdOk (shRd (shK k) (shBt b) (shR r) i) i (shR r) = true := by
 have h := sh_all k hk
 unfold shAll at h
 have h := List.all_eq_true.1 (List.all_eq_true.1 h b (by simpa using hb)) r (by simpa using hr)
 unfold shOk at h
 simp only [Bool.and_eq_true, List.all_eq_true, List.mem_range] at h
 refine ⟨exD_rel h.1, ?_, h.2⟩
 have h3 := h.2 3 (by omega)
 unfold shRdOk at h3
 simp only [Bool.and_eq_true, decide_eq_true_eq] at h3
 show (shRead (shK k) (shR r) 3 (shRd (shK k) (shBt b) (shR r) 3)).es.length ≤ 8
 unfold shRead
 split
 ·dsimp only; rw [List.length_set]; exact h3.1.1.1.1.1.1.1
 ·exact h3.1.1.1.1.1.1.1
section
variable {K K' B B' : Nat → Int} {R R' : Nat → Bool} (hK : ∀ i, i < 4 → K i = K' i) (hB : ∀ h, h < 2 → B h = B' h) (hR : ∀ i, i < 4 → R i = R' i)
include hK hB
theorem jL : ∀ n, n ≤ 4 → shTo K B n = shTo K' B' n
 | 0, _ => rfl
 | n + 1, h => by
  show shStep K B n (shTo K B n) = shStep K' B' n (shTo K' B' n)
  rw [jL n (by omega)]
  have h1 := hK n (by omega)
  have h2 := hK (n - 1) (by omega)
  have h3 := hB (n / 2) (by omega)
  simp only [shStep, shO, shF, shVal, shRl, shAd, shCt, h1, h2, h3]
include hR
theorem aT : ∀ n, n ≤ 4 → shRd K B R n = shRd K' B' R' n
 | 0, _ => jL hK hB 4 (Nat.le_refl _)
 | n + 1, h => by
  show shRead K R n (shRd K B R n) = shRead K' R' n (shRd K' B' R' n)
  rw [aT n (by omega)]
  have h1 := hK n (by omega)
  have h2 := hR n (by omega)
  simp only [shRead, shSrc, h1, h2]
end
theorem sh_fine (a b c : Nat) : (shRd (shK a) (shBt b) (shR c) 4).ex.rel ∧ (shRd (shK a) (shBt b) (shR c) 4).es.length ≤ 8 ∧ ∀ i, i < 4 → shRdOk (shRd (shK a) (shBt b) (shR c) i) i (shR c) = true := by
 have hbit : ∀ x i : Nat, i < 4 → x % 16 / 2 ^ i % 2 = x / 2 ^ i % 2 := fun x i hi => by
  have : i = 0 ∨ i = 1 ∨ i = 2 ∨ i = 3 := by omega
  rcases this with rfl | rfl | rfl | rfl <;> omega
 have hK : ∀ i, i < 4 → shK a i = shK (a % 16) i := fun i hi => by unfold shK; rw [hbit a i hi]
 have hR : ∀ i, i < 4 → shR c i = shR (c % 16) i := fun i hi => by unfold shR; rw [hbit c i hi]
 have hB : ∀ h, h < 2 → shBt b h = shBt (b % 25) h := fun h hh => by
  have : h = 0 ∨ h = 1 := by omega
  unfold shBt
  rcases this with rfl | rfl
  ·simp only [if_true]; omega
  ·rw [if_neg (by decide), if_neg (by decide)]; omega
 obtain ⟨h1, h2, h3⟩ := sh_ok (k := a % 16) (b := b % 25) (r := c % 16) (by omega) (by omega) (by omega)
 refine ⟨by rw [aT hK hB hR 4 (by omega)]; exact h1, by rw [aT hK hB hR 4 (by omega)]; exact h2, fun i hi => ?_⟩
 have := h3 i hi
 rw [aT hK hB hR i (by omega)]
 unfold shRdOk shSrc at this ⊢
 rw [hR i hi]
 exact this
section
variable {k s : Nat} {τ : Stamp} {rows : List (List TV)}
structure FrC (k : Nat) (τ : Stamp) (s : Nat) (rows : List (List TV)) (a b : List OV) : Prop where
 len : a.length = b.length
 cells : ∀ (o : Nat) (y' : OV), b[o]? = some y' → ∃ y : OV, a[o]? = some y ∧ Froz k τ s rows y y'
theorem yO : FrC k τ s rows [] [] := ⟨rfl, fun o y' h => by simp at h⟩
theorem vK {y y' : OV} {a b : List OV} (h : Froz k τ s rows y y') (hl : FrC k τ s rows a b) : FrC k τ s rows (y :: a) (y' :: b) :=
 ⟨by simp [hl.len], fun o z hz => by
  match o, hz with
  | 0, hz => cases hz; exact ⟨y, rfl, h⟩
  | o + 1, hz => exact hl.cells o z hz⟩
theorem xT {a : List OV} : FrC k τ s rows a a := ⟨rfl, fun _ y' h => ⟨y', h, .same y'⟩⟩
theorem yN {q : Nat} : FrozR k τ s rows ⟨q, []⟩ ⟨q, []⟩ := FrozR.same _
theorem wA {q : Nat} {a b : List OV} {l l' : List (List OV)} (h : FrC k τ s rows a b) (hl : FrozR k τ s rows ⟨q, l⟩ ⟨q, l'⟩) : FrozR k τ s rows ⟨q, a :: l⟩ ⟨q, b :: l'⟩ :=
 ⟨rfl, by simpa using hl.2.1, fun i row' hi => by
  match i, hi with
  | 0, hi => cases hi; exact ⟨a, rfl, h.len, h.cells⟩
  | i + 1, hi => exact hl.2.2 i row' hi⟩
end
theorem uY {P : Program} {n : Nat} {c d : Code} {Q : Exit → Tm → Store → Prop} {tm : Tm} {σ : Store} {X : Type} (T : X → Tm) (S : X → Store) (h1 : awp P n c (fun e tm' σ' => e = .normal ∧ ∃ y, (T y).le tm' ∧ (S y).le σ') tm σ) (h2 : ∀ y, awp P n d Q (T y) (S y)) : awp P n (.seq c d) Q tm σ :=
 uB (qD h1 fun e tm' σ' ⟨he, y, ht, hs⟩ => by subst he; exact uC (tD _ _ ht hs (h2 y)))
theorem vV {X : Type} {T : X → Tm} {S : X → Store} {tm : Tm} {σ : Store} (y : X) (ht : (T y).le tm) (hs : (S y).le σ) : Exit.normal = .normal ∧ ∃ y, (T y).le tm ∧ (S y).le σ := ⟨rfl, y, ht, hs⟩
end Go.Proofs.YtnkocjkkefnelaaGreat
