/- Parts. -/
import Derived.Test.YtnkocjkkefnelaaGreatPg4
import Derived.Test.YtnkocjkkefnelaaGreatPg5
import Derived.Test.YtnkocjkkefnelaaGreatPg6
import Derived.Test.YtnkocjkkefnelaaGreatPg11
import Derived.Test.YtnkocjkkefnelaaGreatPg21
import Derived.Test.YtnkocjkkefnelaaGreatPg22
import Derived.Test.YtnkocjkkefnelaaGreatPg28
import Derived.Test.YtnkocjkkefnelaaGreatPg30
set_option linter.unusedVariables false
set_option linter.unusedSimpArgs false
set_option maxHeartbeats 4000000
set_option maxRecDepth 100000
namespace Go.Proofs.YtnkocjkkefnelaaGreat
open Go.RowKit
def frB (r c : Int × Int) : Bool := c.1 == r.1 && c.2 != r.2
def fr1 (r : Int × Int) (co : List (Int × Int)) : List (Int × Int) := (co.filter (frB r)).map fun c => (r.2, c.2)
def frTo (rf co : List (Int × Int)) (i : Nat) : List (Int × Int) := (rf.take i).flatMap fun r => fr1 r co
def frAt (rf co : List (Int × Int)) (i : Nat) (r : Int × Int) (j : Nat) : List (Int × Int) := frTo rf co i ++ fr1 r (co.take j)
def frZ (rf co : List (Int × Int)) : List (Int × Int) := frTo rf co rf.length
theorem fL (rf co : List (Int × Int)) (i : Nat) (r : Int × Int) : frAt rf co i r 0 = frTo rf co i := by simp [frAt, fr1]
theorem cJ (rf co : List (Int × Int)) (i : Nat) (h : i < rf.length) : frTo rf co (i + 1) = frTo rf co i ++ fr1 (rf.getD i default) co := by
 unfold frTo
 rw [vZ rf default i h, List.flatMap_append]
 simp
theorem frAt_end (rf co : List (Int × Int)) (i : Nat) (h : i < rf.length) : frAt rf co i (rf.getD i default) co.length = frTo rf co (i + 1) := by
 rw [cJ rf co i h, frAt, List.take_length]
theorem oS (rf co : List (Int × Int)) (i : Nat) (r : Int × Int) (j : Nat) (h : j < co.length) (hb : frB r (co.getD j default) = true) : frAt rf co i r (j + 1) = frAt rf co i r j ++ [(r.2, (co.getD j default).2)] := by
 unfold frAt fr1
 rw [vZ co default j h, List.filter_append, List.filter_cons, if_pos hb, List.filter_nil, List.map_append, List.append_assoc]
 rfl
theorem frAt_no (rf co : List (Int × Int)) (i : Nat) (r : Int × Int) (j : Nat) (h : j < co.length) (hb : ¬ frB r (co.getD j default) = true) : frAt rf co i r (j + 1) = frAt rf co i r j := by
 unfold frAt fr1
 rw [vZ co default j h, List.filter_append, List.filter_cons, if_neg hb, List.filter_nil, List.append_nil]
theorem frTo_pre (rf co : List (Int × Int)) : ∀ {a b : Nat}, a ≤ b → b ≤ rf.length → ∃ q, frTo rf co b = frTo rf co a ++ q := fun {a b} h hb => by
  induction b with
  | zero => have : a = 0 := by omega
            subst this; exact ⟨[], by simp⟩
  | succ b ih =>
    by_cases e : a = b + 1
    · subst e; exact ⟨[], by simp⟩
    · obtain ⟨r, hr⟩ := ih (by omega) (by omega)
      exact ⟨_, by rw [cJ rf co b (by omega), hr, List.append_assoc]⟩
theorem fr1_pre (r : Int × Int) (co : List (Int × Int)) (j : Nat) : ∃ q, fr1 r co = fr1 r (co.take j) ++ q := by
 unfold fr1
 exact ⟨((co.drop j).filter (frB r)).map (fun c => (r.2, c.2)), by rw [← List.map_append, ← List.filter_append, List.take_append_drop]⟩
theorem frAt_in (rf co : List (Int × Int)) (i j : Nat) (hi : i < rf.length) (h : j < co.length) (hb : frB (rf.getD i default) (co.getD j default) = true) :
  ∃ q, frZ rf co = frAt rf co i (rf.getD i default) j ++ [((rf.getD i default).2, (co.getD j default).2)] ++ q := by
 obtain ⟨q1, h1⟩ := frTo_pre rf co (show i + 1 ≤ rf.length from hi) (Nat.le_refl _)
 obtain ⟨q2, h2⟩ := fr1_pre (rf.getD i default) co (j + 1)
 rw [← oS rf co i _ j h hb]
 unfold frZ
 rw [h1, cJ rf co i hi, h2]
 unfold frAt
 exact ⟨q2 ++ q1, by simp only [List.append_assoc]⟩
set_option maxHeartbeats 4000000 in
theorem fr1_s (x : Ex) (hx : x.fit) (co : List (Int × Int)) (hco : co.length ≤ 1048576) : SeqW E.P 85 [] [.d (.pt (exRow x) 0), .d (.pt [pairsTV co] 0)] (pairYs (frZ (rfF x) co)) := by
 intro Y k τ J m st hm h1 h2 hnd hbig hy l0 hl0
 have hlen : (pairYs (frZ (rfF x) co)).length = (frZ (rfF x) co).length := by simp [pairYs]
 rw [hlen] at hm h1
 have hrl : (rfF x).length ≤ 1048576 := by
  unfold rfF
  split
  ·rename_i hc
   obtain ⟨h1, _, h3, _⟩ := vN hc
   have := yI h3
   have := mN x.from_ x.from_.length
   rw [yM]; omega
  ·simp
 have hrf := rf_s x hx
 generalize rfF x = rf at hm h1 hy hrl hlen hrf
 have hfz := xT
 have f9 : Frozen 9 := ⟨trivial⟩
 refine yD Tryz.func85 (by decide) rfl Tryz.ntmps85 (Nat.le_of_ble_eq_true rfl) rfl ?_
 refine uC (aoR fun _ => ?_)
 refine q33 ?_
 apply mX; assumption; exact rfl; exact .fn _ _ _; exact rfl; exact hrf; exact hfz _; exact rfl
 refine q13 ?_; refine q11 (uG (uE (vI ?_))); rotate_left
 refine uS (X := Nat × Rows) (fun p => tmL [(0, .yl k τ), (2, .d (.pt [pairsTV co] 0)), (9, .d (pairsTV rf)), (10, .int .i64 rf.length), (11, .int .i64 p.1), (GS, .gh (frTo rf co p.1).length Y)]) (fun p => stL p.2)
  (fun p => p.1 ≤ rf.length ∧ J (frTo rf co p.1).length p.2 ∧ (st = true → (frTo rf co p.1).length < m)) (fun p => rf.length - p.1) (0, l0) ⟨Nat.zero_le _, hl0, h2⟩ leP (by repeat (first | exact fun _ _ h => h | refine le_app (hbig _ _ hl0) rfl ?_)) ?_
 rintro ⟨i, l⟩ ⟨hi, hJ, hst⟩
 dsimp only at hi hJ hst ⊢
 by_cases hlt : i < rf.length
 rotate_left
 ·have hbe : i = rf.length := by omega
  subst hbe
  have hme : (frTo rf co rf.length).length = m := by
   cases st with
   | true => have h9 := hst rfl; have h8 : (frZ rf co).length = (frTo rf co rf.length).length := rfl; omega
   | false => exact (h1 rfl).symm
  rw [hme] at hJ ⊢
  refine uC (aoR fun _ => ?_)
  refine q37 (uG (uE (uC ?_))); refine cnd ?_ ?_
  refine uH fun _ => ?_; try (exfalso; omega)
  refine uI fun _ => ?_; try (exfalso; omega)
  refine vW ?_
  iterate 2 refine wI ?_
  refine xZ ?_; rotate_left
  exact ⟨Or.inl rfl, rfl, l, hJ, fun _ _ h => h⟩
 refine uC (aoR fun _ => ?_)
 refine q37 (uG ?_); rotate_left
 refine uE (uC ?_); refine cnd ?_ ?_
 refine uH fun _ => ?_; try (exfalso; omega)
 refine vF ?_; rotate_left
 refine uI fun _ => ?_; try (exfalso; omega)
 refine uE (uC (vI (uC (aoR fun _ => ?_))))
 refine q17 ?_; refine q33 ?_
 apply xY; exact rfl
 refine q15 (uG ?_); rotate_left
 refine uE ?_
 rename_i v5
 generalize hr : rf.getD i default = r
 have hT : rf.getD (i : Int).toNat default = r := hr
 rw [hT]
 refine xH 5 (v5, 2) 2 [pairTV r] (tmL [(0, .yl k τ), (2, .d (.pt [pairsTV co] 0)), (9, .d (pairsTV rf)), (10, .int .i64 rf.length), (11, .int .i64 i), (5, .d (.pt (pairTV r) 0)), (GS, .gh (frTo rf co i).length Y)]) (stL l) rfl (by repeat' (first | exact yL | refine vX rfl (.same _) ?_ | refine vX rfl (.lo 0 0 _ rfl) ?_)) (sA (hbig _ _ hJ) (by decide) (fun j hj => by show (Store.put (Store.put _ _ _) _ _) j = _; rw [Store.put_ne _ _ hj, Store.put_ne _ _ hj]; rfl)) ?_
 refine uC (aoR fun _ => ?_)
 refine q23 ?_; refine q13 ?_; refine q11 (uG (uE (vI ?_))); rotate_left
 have hin := fun j => frAt_in rf co i j hlt
 have hnx := frAt_end rf co i hlt
 rw [hr] at hin hnx
 refine uS (X := Nat × Rows) (fun p => tmL [(0, .yl k τ), (2, .d (.pt [pairsTV co] 0)), (9, .d (pairsTV rf)), (10, .int .i64 rf.length), (11, .int .i64 i), (5, .d (.pt (pairTV r) 0)), (15, .d (pairsTV co)), (16, .int .i64 co.length), (17, .int .i64 p.1), (GS, .gh (frAt rf co i r p.1).length Y)]) (fun p => stL p.2)
  (fun p => p.1 ≤ co.length ∧ J (frAt rf co i r p.1).length p.2 ∧ (st = true → (frAt rf co i r p.1).length < m)) (fun p => co.length - p.1) (0, l) ⟨Nat.zero_le _, by dsimp only; rw [fL]; exact hJ, by dsimp only; rw [fL]; exact hst⟩ (by dsimp only; rw [fL]; exact leP) (fun _ _ h => h) ?_
 clear hJ hst l
 rintro ⟨j, l⟩ ⟨hj, hJ, hst⟩
 dsimp only at hj hJ hst ⊢
 by_cases hlt2 : j < co.length
 rotate_left
 ·have hbe : j = co.length := by omega
  subst hbe
  rw [hnx] at hJ hst ⊢
  refine uC (aoR fun _ => ?_)
  refine q37 (uG (uE (uC ?_))); refine cnd ?_ ?_
  refine uH fun _ => ?_; try (exfalso; omega)
  refine uI fun _ => ?_; try (exfalso; omega)
  refine vW ?_
  iterate 2 refine wI ?_
  refine xZ ?_; refine xM ?_; refine uE (aoR fun _ => ?_)
  refine q36 ?_; refine q11 (uG (uE ?_)); rotate_left
  exact ⟨(i + 1, l), ⟨show i + 1 ≤ _ by omega, hJ, hst⟩, show rf.length - (i + 1) < rf.length - i by omega, leP, fun _ _ h => h⟩
 refine uC (aoR fun _ => ?_)
 refine q37 (uG ?_); rotate_left
 refine uE (uC ?_); refine cnd ?_ ?_
 refine uH fun _ => ?_; try (exfalso; omega)
 refine vF ?_; rotate_left
 refine uI fun _ => ?_; try (exfalso; omega)
 refine uE (uC (vI (uC (aoR fun _ => ?_))))
 refine q17 ?_; refine q33 ?_
 apply xY; exact rfl
 refine q15 (uG ?_); rotate_left
 refine uE ?_
 rename_i v7
 generalize hc : co.getD j default = c at hin
 have hT : co.getD (j : Int).toNat default = c := hc
 rw [hT]
 refine xH 7 (v7, 2) 2 [pairTV c] (tmL [(0, .yl k τ), (2, .d (.pt [pairsTV co] 0)), (9, .d (pairsTV rf)), (10, .int .i64 rf.length), (11, .int .i64 i), (5, .d (.pt (pairTV r) 0)), (15, .d (pairsTV co)), (16, .int .i64 co.length), (17, .int .i64 j), (7, .d (.pt (pairTV c) 0)), (GS, .gh (frAt rf co i r j).length Y)]) (stL l) rfl (by repeat' (first | exact yL | refine vX rfl (.same _) ?_ | refine vX rfl (.lo 0 0 _ rfl) ?_)) (sA (hbig _ _ hJ) (by decide) (fun j hj => by show (Store.put (Store.put _ _ _) _ _) j = _; rw [Store.put_ne _ _ hj, Store.put_ne _ _ hj]; rfl)) ?_
 by_cases hb : frB r c = true
 ·obtain ⟨q, hq⟩ := hin j hlt2 (by rw [hc]; exact hb)
  rw [hc] at hq
  obtain ⟨hlm, hY⟩ := iO h1 hy hq hst hJ
  have hlen1 : (frAt rf co i r (j + 1)).length = (frAt rf co i r j).length + 1 := by rw [oS rf co i r j hlt2 (by rw [hc]; exact hb)]; simp
  have hb1 : c.1 = r.1 ∧ c.2 ≠ r.2 := by simpa [frB] using hb
  obtain ⟨hb1, hb2⟩ := hb1
  rcases Bool.eq_false_or_eq_true (!(st && (frAt rf co i r j).length + 1 == m)) with hans | hans
  ·rw [hans] at hY
   refine uC (aoR fun _ => ?_)
   refine q32 ?_; refine q23 ?_; refine q32 ?_; refine q23 ?_; refine q46 ?_; refine q11 ?_
   apply uF; exact rfl; exact rfl
   refine uH fun _ => ?_; try (exfalso; omega)
   refine q32 ?_
   apply uF; exact rfl; exact rfl
   refine uL ?_; refine q23 ?_
   apply uF; exact rfl; exact rfl
   refine uL ?_; refine q32 ?_
   apply uF; exact rfl; exact rfl
   refine uL ?_; refine q23 ?_
   apply uF; exact rfl; exact rfl
   refine uL ?_; refine q44 ?_; refine q4 ?_; refine q11 ?_
   apply uF; exact rfl; exact rfl
   refine xV ?_; refine uL ?_
   refine wB (fun _ => ?_); (try (exfalso; omega))
   refine q11 ?_
   apply uF; exact rfl; exact rfl
   refine uL ?_; refine q32 ?_
   apply uF; exact rfl; exact rfl
   refine uL ?_; refine q23 ?_
   apply uF; exact rfl; exact rfl
   refine uL ?_; refine q32 ?_
   apply uF; exact rfl; exact rfl
   refine uL ?_; refine q23 ?_
   apply uF; exact rfl; exact rfl
   refine uL ?_; refine q54 ?_
   apply uF; exact rfl; exact rfl
   refine uL ?_
   apply zL; exact rfl; exact rfl; exact rfl; exact hY; exact (fun _ _ h => h); exact hnd _; (intro l1 hl1)
   apply uF; exact rfl; exact rfl
   refine uL ?_
   apply bT; exact rfl
   refine q4 (uG (uE ?_)); refine cnd ?_ ?_; refine xV ?_; refine uL ?_; refine bL ?_
   exact wA
   refine wU (fun hc_ => ?_); (try simp only [nrm] at hc_)
   refine vF ?_; refine xM ?_; refine uE (aoR fun _ => ?_)
   refine q36 ?_; refine q11 (uG (uE ?_)); rotate_left
   iterate 7 exact wA
   refine wU (fun hc_ => ?_); (try simp only [nrm] at hc_)
   apply uF; exact rfl; exact rfl
   exact uK
   refine uJ ?_
   apply uF; exact rfl; exact rfl
   exact uK
   refine uJ ?_
   apply uF; exact rfl; exact rfl
   exact uK
   refine uJ ?_
   apply uF; exact rfl; exact rfl
   exact uK
   refine uJ ?_
   apply uF; exact rfl; exact rfl
   exact uK
   refine uJ ?_
   apply uF; exact rfl; exact rfl
   exact uK
   refine uJ ?_
   apply uF; exact rfl; exact rfl
   exact uK
   refine uJ ?_
   apply xX; exact rfl
   apply aF; exact rfl
   refine uG (uE ?_); refine cnd ?_ ?_
   exact uK
   refine uJ ?_; refine vF ?_; refine xM ?_; refine uE (aoR fun _ => ?_)
   refine q36 ?_; refine q11 (uG (uE ?_)); rotate_left
   iterate 4 exact wA
   refine uI fun _ => ?_; try (exfalso; omega)
   ·refine ⟨(j + 1, l1), ⟨show j + 1 ≤ _ by omega, ?_, ?_⟩, show co.length - (j + 1) < co.length - j by omega, ?_, zQ (hnd _ _ hl1)⟩
    ·dsimp only; rw [hlen1]; exact hl1
    ·dsimp only; rw [hlen1]; exact mM hlm hans
    ·dsimp only; rw [hlen1]; exact leP
   ·exfalso
    rcases hc_ with h9 | h9
    ·cases h9
    ·exact hb2 h9
  ·rw [hans] at hY
   rw [dW hans] at hY
   refine uC (aoR fun _ => ?_)
   refine q32 ?_; refine q23 ?_; refine q32 ?_; refine q23 ?_; refine q46 ?_; refine q11 ?_
   apply uF; exact rfl; exact rfl
   refine uH fun _ => ?_; try (exfalso; omega)
   refine q32 ?_
   apply uF; exact rfl; exact rfl
   refine uL ?_; refine q23 ?_
   apply uF; exact rfl; exact rfl
   refine uL ?_; refine q32 ?_
   apply uF; exact rfl; exact rfl
   refine uL ?_; refine q23 ?_
   apply uF; exact rfl; exact rfl
   refine uL ?_; refine q44 ?_; refine q4 ?_; refine q11 ?_
   apply uF; exact rfl; exact rfl
   refine xV ?_; refine uL ?_
   refine wB (fun _ => ?_); (try (exfalso; omega))
   refine q11 ?_
   apply uF; exact rfl; exact rfl
   refine uL ?_; refine q32 ?_
   apply uF; exact rfl; exact rfl
   refine uL ?_; refine q23 ?_
   apply uF; exact rfl; exact rfl
   refine uL ?_; refine q32 ?_
   apply uF; exact rfl; exact rfl
   refine uL ?_; refine q23 ?_
   apply uF; exact rfl; exact rfl
   refine uL ?_; refine q54 ?_
   apply uF; exact rfl; exact rfl
   refine uL ?_
   apply zL; exact rfl; exact rfl; exact rfl; exact hY; exact (fun _ _ h => h); exact hnd _; (intro l1 hl1)
   apply uF; exact rfl; exact rfl
   refine uL ?_
   apply bT; exact rfl
   refine q0 (uG (uE ?_)); refine cnd ?_ ?_
   refine wS (fun hc_ => ?_); (try simp only [nrm] at hc_)
   refine wH ?_; refine eU ?_
   iterate 2 refine zO ?_
   iterate 2 refine eU ?_
   iterate 2 refine zO ?_
   refine eU ?_; rotate_left
   refine wT ?_
   iterate 8 exact wA
   refine wU (fun hc_ => ?_); (try simp only [nrm] at hc_)
   apply uF; exact rfl; exact rfl
   exact uK
   refine uJ ?_
   apply uF; exact rfl; exact rfl
   exact uK
   refine uJ ?_
   apply uF; exact rfl; exact rfl
   exact uK
   refine uJ ?_
   apply uF; exact rfl; exact rfl
   exact uK
   refine uJ ?_
   apply uF; exact rfl; exact rfl
   exact uK
   refine uJ ?_
   apply uF; exact rfl; exact rfl
   exact uK
   refine uJ ?_
   apply uF; exact rfl; exact rfl
   exact uK
   refine uJ ?_
   apply xX; exact rfl
   apply aF; exact rfl
   refine uG (uE ?_); refine cnd ?_ ?_
   exact uK
   refine uJ ?_; refine vF ?_; refine xM ?_; refine uE (aoR fun _ => ?_)
   refine q36 ?_; refine q11 (uG (uE ?_)); rotate_left
   iterate 4 exact wA
   refine uI fun _ => ?_; try (exfalso; omega)
   ·exact ⟨Or.inr rfl, rfl, l1, hl1, zQ (hnd _ _ hl1)⟩
   ·exfalso
    rcases hc_ with h9 | h9
    ·cases h9
    ·exact hb2 h9
 ·have hlen1 : (frAt rf co i r (j + 1)) = (frAt rf co i r j) := frAt_no rf co i r j hlt2 (by rw [hc]; exact hb)
  have hb1 : c.1 = r.1 → c.2 = r.2 := by simpa [frB] using hb
  refine uC (aoR fun _ => ?_)
  refine q32 ?_; refine q23 ?_; refine q32 ?_; refine q23 ?_; refine q46 ?_; refine q11 ?_
  apply uF; exact rfl; exact rfl
  refine uH fun _ => ?_; try (exfalso; omega)
  refine q32 ?_
  apply uF; exact rfl; exact rfl
  refine uL ?_; refine q23 ?_
  apply uF; exact rfl; exact rfl
  refine uL ?_; refine q32 ?_
  apply uF; exact rfl; exact rfl
  refine uL ?_; refine q23 ?_
  apply uF; exact rfl; exact rfl
  refine uL ?_; refine q44 ?_; refine q4 ?_; refine q11 ?_
  apply uF; exact rfl; exact rfl
  refine xV ?_; refine uL ?_
  refine wB (fun _ => ?_); (try (exfalso; omega))
  refine wU (fun hc_ => ?_); (try simp only [nrm] at hc_)
  apply uF; exact rfl; exact rfl
  exact uK
  refine uJ ?_
  apply uF; exact rfl; exact rfl
  exact uK
  refine uJ ?_
  apply uF; exact rfl; exact rfl
  exact uK
  refine uJ ?_
  apply uF; exact rfl; exact rfl
  exact uK
  refine uJ ?_
  apply uF; exact rfl; exact rfl
  exact uK
  refine uJ ?_
  apply uF; exact rfl; exact rfl
  exact uK
  refine uJ ?_
  apply uF; exact rfl; exact rfl
  exact uK
  refine uJ ?_
  apply xX; exact rfl
  apply aF; exact rfl
  refine uG (uE ?_); refine cnd ?_ ?_
  exact uK
  refine uJ ?_; refine vF ?_; refine xM ?_; refine uE (aoR fun _ => ?_)
  refine q36 ?_; refine q11 (uG (uE ?_)); rotate_left
  iterate 4 exact wA
  refine uI fun _ => ?_; try (exfalso; omega)
  apply uF; exact rfl; exact rfl
  exact uK
  refine uJ ?_
  apply uF; exact rfl; exact rfl
  exact uK
  refine uJ ?_
  apply uF; exact rfl; exact rfl
  exact uK
  refine uJ ?_
  apply uF; exact rfl; exact rfl
  exact uK
  refine uJ ?_
  apply xX; exact rfl
  apply aF; exact rfl
  refine q11 ?_
  apply uF; exact rfl; exact rfl
  exact uK
  refine uJ ?_
  apply uF; exact rfl; exact rfl
  exact uK
  refine uJ ?_
  apply uF; exact rfl; exact rfl
  exact uK
  refine uJ ?_
  apply uF; exact rfl; exact rfl
  exact uK
  refine uJ ?_
  apply uF; exact rfl; exact rfl
  exact uK
  refine uJ ?_
  apply uF; exact rfl; exact rfl
  exact uK
  refine uJ ?_
  apply uF; exact rfl; exact rfl
  exact uK
  refine uJ ?_
  apply uF; exact rfl; exact rfl
  exact uK
  refine uJ ?_
  apply xX; exact rfl
  apply aF; exact rfl
  refine uG (uE ?_); refine cnd ?_ ?_
  exact uK
  refine uJ ?_; refine vF ?_; refine xM ?_; refine uE (aoR fun _ => ?_)
  refine q36 ?_; refine q11 (uG (uE ?_)); rotate_left
  all_goals
   refine ⟨(j + 1, l), ⟨show j + 1 ≤ _ by omega, ?_, ?_⟩, show co.length - (j + 1) < co.length - j by omega, ?_, (fun _ _ h => h)⟩
   ·dsimp only; rw [hlen1]; exact hJ
   ·dsimp only; rw [hlen1]; exact hst
   ·dsimp only; rw [hlen1]; exact leP
def frF (x : Ex) : List (Int × Int) := sortZ (frZ (rfF x) (coF x))
theorem frZ_small {rf co : List (Int × Int)} (h1 : smallP rf) (h2 : smallP co) : smallP (frZ rf co) := fun p hp => by
 unfold frZ frTo fr1 at hp
 obtain ⟨r, hr, h3⟩ := List.mem_flatMap.1 hp
 obtain ⟨c, hc, rfl⟩ := List.mem_map.1 h3
 have a1 := h1 r (List.mem_of_mem_take hr)
 have a2 := h2 c (List.mem_filter.1 hc).1
 dsimp only
 omega
theorem oR (rf co : List (Int × Int)) : ∀ i, i ≤ rf.length → (frTo rf co i).length ≤ i * co.length
 | 0, _ => by simp [frTo]
 | i + 1, h => by
  rw [cJ rf co i h, List.length_append, Nat.succ_mul]
  have := oR rf co i (by omega)
  have : (fr1 (rf.getD i default) co).length ≤ co.length := by
   unfold fr1
   rw [List.length_map]
   exact List.length_filter_le _ _
  omega
theorem smallP_nil : smallP [] := fun p hp => by cases hp
theorem rf_facts (x : Ex) : smallP (rfF x) ∧ (rfF x).length ≤ 64 := by
 unfold rfF
 split
 ·rename_i hc
  obtain ⟨h1, h2, h3, h4⟩ := vN hc
  have hfl := yI h3
  have hln := mN x.from_ x.from_.length
  exact ⟨gE (kV (fun i => by have := rC h3 i; omega) (by omega)), by rw [yM]; omega⟩
 ·exact ⟨smallP_nil, by simp⟩
theorem co_facts (x : Ex) : smallP (coF x) ∧ (coF x).length ≤ 262144 := by
 unfold coF
 split
 ·rename_i hc
  obtain ⟨h1, h2, h3, h4⟩ := vN hc
  exact ⟨gE (fO h4 (by omega)), by rw [yM]; exact rH hc⟩
 ·exact ⟨smallP_nil, by simp⟩
set_option maxHeartbeats 4000000 in
theorem fr_s (x : Ex) (hx : x.fit) : Own E.P 57 [exOV x] 2 ((frF x).map pairO') := by
 obtain ⟨a1, a2⟩ := rf_facts x
 obtain ⟨b1, b2⟩ := co_facts x
 have hsm := frZ_small a1 b1
 have hln : (frZ (rfF x) (coF x)).length ≤ 1073741824 := by
  have := oR (rfF x) (coF x) (rfF x).length (Nat.le_refl _)
  have h9 : (rfF x).length * (coF x).length ≤ 64 * 262144 := Nat.mul_le_mul a2 b2
  unfold frZ
  omega
 have hfr := fr1_s x hx (coF x) (by omega)
 have hco := co_s x hx
 unfold frF
 have hfz := xT
 have f5 : Frozen 5 := ⟨trivial⟩
 refine fnA Tryz.func57 Tryz.ntmps57 ?_
 refine uC (aoR fun _ => ?_)
 refine q40 ?_; refine q51 (uG ?_); rotate_left
 refine uE ?_
 rename_i v0
 refine xH 1 (v0, 0) 3 [exRow x] (tmL [(1, .d (.pt (exRow x) 0))]) (stL []) rfl (vX rfl (.lo 0 0 _ rfl) yL) (by repeat' (first | exact yL | exact fK | (refine vX rfl (xG ?_) ?_; (first | rfl | (simp; done))) | refine vX rfl (.same _) ?_ | refine aI (by decide) rfl (.same _) ?_)) ?_
 refine uC (aoR fun _ => ?_)
 refine q33 ?_
 apply mX; assumption; exact rfl; exact .fn _ _ _; exact rfl; exact hco; exact hfz _; exact rfl
 apply xY; exact rfl
 refine q15 (uG ?_); rotate_left
 refine uE ?_
 rename_i v1
 refine xH 3 (v1, 2) 1 [[pairsTV (coF x)]] (tmL [(1, .d (.pt (exRow x) 0)), (3, .d (.pt [pairsTV (coF x)] 0))]) (stL []) rfl (by repeat' (first | exact yL | refine vX rfl (.same _) ?_ | refine vX rfl (.lo 0 0 _ rfl) ?_)) (by repeat' (first | exact yL | exact fK | (refine vX rfl (xG ?_) ?_; (first | rfl | (simp; done))) | refine vX rfl (.same _) ?_ | refine aI (by decide) rfl (.same _) ?_)) ?_
 refine uC (aoR fun _ => ?_)
 apply wY; exact rfl; exact rfl
 apply eX; exact rfl; exact .fn _ _ _; exact rfl; exact hZ (.fn _ _ _) _ hsm hln hfr
 apply mA; exact rfl; exact rfl
 refine uG (uE ?_); refine wH ?_; rotate_left
 exact wO (d := 2) rfl rfl rfl rfl
theorem fB (zs : List Int) : ∀ k, (rfZ zs k).Nodup
 | 0 => by simp [rfZ]
 | k + 1 => by
  by_cases h : 0 ≤ zs.getD k 0
  ·rw [cC h, List.nodup_append]
   refine ⟨fB zs k, by simp, fun p hp q hq e => ?_⟩
   simp only [List.mem_singleton] at hq
   subst hq
   subst e
   obtain ⟨n, h1, _, _, h4⟩ := qX.1 hp
   omega
  ·rw [iU h]; exact fB zs k
def isRf (x : Ex) (a b : Nat) : Bool := (x.evs.getD b default).ldB && decide (x.from_.getD b 0 = (a : Int))
theorem iB {es : List Ev} {fs : List Int} (h : fromB es fs = true) {k : Nat} (hk : k < es.length) : ((es.getD k default).ldB = true ↔ 0 ≤ fs.getD k 0) ∧ ((es.getD k default).ldB = true → fs.getD k 0 < es.length ∧ fs.getD k 0 ≠ k ∧ (es.getD (fs.getD k 0).toNat default).stB = true ∧ (es.getD (fs.getD k 0).toNat default).addr = (es.getD k default).addr) := by
 have h1 := rD h (k := k) (by rw [yI h]; exact hk)
 unfold fromOk at h1
 cases hl : (es.getD k default).ldB with
 | false =>
  rw [hl] at h1
  simp only [Bool.not_false, Bool.true_and, Bool.false_and, Bool.or_false, beq_iff_eq] at h1
  exact ⟨⟨fun e => (by cases e), fun e => (by omega)⟩, fun e => (by cases e)⟩
 | true =>
  rw [hl] at h1
  simp only [Bool.not_true, Bool.false_and, Bool.false_or, Bool.true_and, Bool.and_eq_true, Bool.not_eq_true', beq_eq_false_iff_ne, decide_eq_false_iff_not] at h1
  obtain ⟨⟨⟨a1, a2⟩, a3⟩, a4⟩ := h1
  unfold srcOk at a4
  simp only [Bool.and_eq_true] at a4
  exact ⟨⟨fun _ => (by omega), fun _ => rfl⟩, fun _ => ⟨by omega, a1, a4.1.1, by simpa using a4.1.2⟩⟩
theorem jP {l : List Int} (h : l.Nodup) : ∀ i, i ≤ l.length → (coIn l i).Nodup
 | 0, _ => by simp [coIn]
 | i + 1, hi => by
  rw [zZ, List.nodup_append]
  refine ⟨jP h i (by omega), ?_, fun p hp q hq e => ?_⟩
  ·refine List.Pairwise.map _ (R := (· ≠ ·)) (fun a b hab e => hab (by simpa using e)) (List.Pairwise.sublist (List.drop_sublist _ _) h)
  ·subst e
   obtain ⟨b, _, rfl⟩ := List.mem_map.1 hq
   unfold coIn at hp
   obtain ⟨j, h1, h2⟩ := List.mem_flatMap.1 hp
   obtain ⟨c, _, h4⟩ := List.mem_map.1 h2
   have hj := List.mem_range.1 h1
   have := iY h (i := j) (j := i) (by omega) (by omega) (by simpa using congrArg Prod.fst h4)
   omega
theorem lT {es : List Ev} {o : List (Sl × List Int)} (h : orderB es (addrsTo es) o = true) : (coZ o).Nodup := by
 unfold coZ coTo
 rw [List.take_length]
 unfold List.Nodup
 rw [List.pairwise_flatMap]
 refine ⟨fun l hl => ?_, ?_⟩
 ·obtain ⟨r, hr, e⟩ := List.getElem_of_mem hl
  have := zV h hr
  rw [List.getD_eq_getElem?_getD, List.getElem?_eq_getElem hr, Option.getD_some, e] at this
  exact jP this _ (Nat.le_refl _)
 ·rw [List.pairwise_iff_getElem]
  intro i j hi hj hij p hp q hq e
  subst e
  have e1 := (jQ hp (Nat.le_refl _)).1
  have e2 := (jQ hq (Nat.le_refl _)).1
  have g1 : o[i] = o.getD i default := by rw [List.getD_eq_getElem?_getD, List.getElem?_eq_getElem hi]; rfl
  have g2 : o[j] = o.getD j default := by rw [List.getD_eq_getElem?_getD, List.getElem?_eq_getElem hj]; rfl
  rw [g1] at e1
  rw [g2] at e2
  obtain ⟨a, ha, ea⟩ := fE e1
  obtain ⟨b, hb, eb⟩ := fE e2
  have hp0 := mI ((yT h hi).1 e1)
  have r1 := bD h hi ha (a := p.1.toNat) (by rw [ea]; omega)
  have r2 := bD h hj hb (a := p.1.toNat) (by rw [eb]; omega)
  have := iQ h hi hj (r1.2.2.symm.trans r2.2.2)
  omega
theorem fr1_nodup {co : List (Int × Int)} (h : co.Nodup) (r : Int × Int) : (fr1 r co).Nodup := by
 unfold fr1
 refine List.Pairwise.map _ (R := fun c d => c ≠ d ∧ c.1 = r.1 ∧ d.1 = r.1) (fun c d hcd e => hcd.1 (Prod.ext (by rw [hcd.2.1, hcd.2.2]) (by simpa using e))) ?_
 refine (List.Pairwise.filter _ h).imp_of_mem fun {c d} hc hd hne => ?_
 have h1 := (List.mem_filter.1 hc).2
 have h2 := (List.mem_filter.1 hd).2
 simp only [frB, Bool.and_eq_true, beq_iff_eq] at h1 h2
 exact ⟨hne, h1.1, h2.1⟩
theorem frZ_nodup {rf co : List (Int × Int)} (hr : rf.Pairwise fun r s => r.2 ≠ s.2) (hc : co.Nodup) : (frZ rf co).Nodup := by
 unfold frZ frTo
 rw [List.take_length]
 unfold List.Nodup
 rw [List.pairwise_flatMap]
 refine ⟨fun r _ => fr1_nodup hc r, hr.imp fun {r s} hrs p hp q hq e => ?_⟩
 subst e
 unfold fr1 at hp hq
 obtain ⟨c, _, rfl⟩ := List.mem_map.1 hp
 obtain ⟨d, _, h2⟩ := List.mem_map.1 hq
 exact hrs (by simpa using (congrArg Prod.fst h2).symm)
theorem bE {x : Ex} (hc : checkI x = 0) : rfF x = refPairs x.evs.length (isRf x) := by
 obtain ⟨h1, h2, h3, h4⟩ := vN hc
 have hl := yI h3
 rw [rfF, if_pos hc]
 refine aY (fB _ _) fun p => ?_
 obtain ⟨a, b⟩ := p
 rw [qX, vG]
 constructor
 ·rintro ⟨n, g1, g2, rfl, rfl⟩
  obtain ⟨e1, e2⟩ := iB h3 (k := n) (by omega)
  obtain ⟨m, hm⟩ := yB g2
  have := e2 (e1.2 g2)
  exact ⟨m, n, by omega, by omega, by unfold isRf; rw [e1.2 g2, hm]; simp, by rw [hm]⟩
 ·rintro ⟨m, n, g1, g2, g3, g4⟩
  unfold isRf at g3
  simp only [Bool.and_eq_true, decide_eq_true_eq] at g3
  cases g4
  exact ⟨n, by omega, ((iB h3 g2).1.1 g3.1), g3.2.symm, rfl⟩
def coB (x : Ex) (a b : Nat) : Bool := decide (((a : Int), (b : Int)) ∈ coZ x.order)
theorem pX {x : Ex} (hc : checkI x = 0) : coF x = refPairs x.evs.length (coB x) := by
 obtain ⟨h1, h2, h3, h4⟩ := vN hc
 rw [coF, if_pos hc]
 refine aY (lT h4) fun p => ?_
 obtain ⟨a, b⟩ := p
 rw [vG]
 constructor
 ·intro h
  obtain ⟨g1, g2, g3, g4⟩ := fO h4 (by omega) _ h
  dsimp only at g1 g2 g3 g4
  obtain ⟨m, rfl⟩ := yB g1
  obtain ⟨n, rfl⟩ := yB g3
  obtain ⟨e1, e2, _⟩ := tP h4 h
  exact ⟨m, n, e1, e2, by simpa [coB] using h, rfl⟩
 ·rintro ⟨m, n, _, _, g3, g4⟩
  cases g4
  simpa [coB] using g3
def frBr (x : Ex) (a b : Nat) : Bool := !(a == b) && (x.evs.getD a default).ldB && coB x (x.from_.getD a 0).toNat b
theorem fr_ref {x : Ex} (hc : checkI x = 0) : frF x = refPairs x.evs.length (frBr x) := by
 obtain ⟨h1, h2, h3, h4⟩ := vN hc
 have hl := yI h3
 have hcn : (coF x).Nodup := by rw [coF, if_pos hc]; exact (List.mergeSort_perm _ _).nodup_iff.2 (lT h4)
 have hrp : (rfF x).Pairwise fun r s => r.2 ≠ s.2 := by
  rw [bE hc]
  have hlt := bF x.evs.length (isRf x)
  refine hlt.imp_of_mem fun {r s} hr hs h e => ?_
  obtain ⟨a, b, _, _, g1, rfl⟩ := vG.1 hr
  obtain ⟨c, d, _, _, g2, rfl⟩ := vG.1 hs
  dsimp only at e
  have : b = d := by omega
  subst this
  unfold isRf at g1 g2
  simp only [Bool.and_eq_true, decide_eq_true_eq] at g1 g2
  rw [yO] at h
  dsimp only at h
  omega
 rw [frF]
 refine aY (frZ_nodup hrp hcn) fun p => ?_
 rw [vG]
 unfold frZ frTo
 rw [List.take_length, List.mem_flatMap]
 constructor
 ·rintro ⟨r, hr, hp⟩
  unfold fr1 at hp
  obtain ⟨c, g1, rfl⟩ := List.mem_map.1 hp
  obtain ⟨g2, g3⟩ := List.mem_filter.1 g1
  rw [bE hc] at hr
  rw [pX hc] at g2
  obtain ⟨a, b, e1, e2, e3, rfl⟩ := vG.1 hr
  obtain ⟨c, d, f1, f2, f3, rfl⟩ := vG.1 g2
  simp only [frB, Bool.and_eq_true, beq_iff_eq, bne_iff_ne] at g3
  unfold isRf at e3
  simp only [Bool.and_eq_true, decide_eq_true_eq] at e3
  have hca : c = a := by omega
  subst hca
  refine ⟨b, d, e2, f2, ?_, rfl⟩
  unfold frBr
  rw [e3.1, e3.2, Int.toNat_natCast, f3]
  have : b ≠ d := by omega
  simp [this]
 ·rintro ⟨b, d, e2, f2, g, rfl⟩
  unfold frBr at g
  simp only [Bool.and_eq_true, Bool.not_eq_true', beq_eq_false_iff_ne] at g
  obtain ⟨⟨g1, g2⟩, g3⟩ := g
  obtain ⟨q1, q2⟩ := iB h3 e2
  obtain ⟨a, ha⟩ := yB (q1.1 g2)
  have q3 := q2 g2
  rw [ha, Int.toNat_natCast] at g3
  refine ⟨((a : Int), (b : Int)), by rw [bE hc]; exact vG.2 ⟨a, b, by omega, e2, by unfold isRf; rw [g2, ha]; simp, rfl⟩, ?_⟩
  unfold fr1
  refine List.mem_map.2 ⟨((a : Int), (d : Int)), List.mem_filter.2 ⟨by rw [pX hc]; exact vG.2 ⟨a, d, by omega, f2, g3, rfl⟩, ?_⟩, rfl⟩
  have : (d : Int) ≠ b := by omega
  simp [frB, this]
def placeFrom : List (Sl × List Int) → Int → Int
 | [], _ => -1
 | r :: o, n => if 0 ≤ atI r.2 n then atI r.2 n else placeFrom o n
theorem fU {n : Int} : ∀ {l : List Int} {k : Nat}, n ∉ l → atFrom n l k = -1
 | [], k, _ => rfl
 | a :: l, k, h => by
  simp only [List.mem_cons, not_or] at h
  rw [atFrom, if_neg (Ne.symm h.1)]
  exact fU h.2
theorem dK {n : Int} : ∀ {l : List Int} {k i : Nat}, l.Nodup → i < l.length → l.getD i 0 = n → atFrom n l k = ((k + i : Nat) : Int)
 | [], k, i, _, h, _ => by simp at h
 | a :: l, k, 0, _, _, h => by
  have : a = n := h
  rw [atFrom, if_pos this]; simp
 | a :: l, k, i + 1, hn, h, he => by
  have h1 : l.getD i 0 = n := he
  have h2 : i < l.length := by simpa using h
  have h3 : n ∈ l := h1 ▸ sF h2
  have h4 : a ≠ n := fun e => (List.nodup_cons.1 hn).1 (e ▸ h3)
  rw [atFrom, if_neg h4, dK (List.nodup_cons.1 hn).2 h2 h1]
  congr 1; omega
theorem nX {n : Int} : ∀ {o : List (Sl × List Int)} {r i : Nat}, r < o.length → (∀ k, k < r → n ∉ (o.getD k default).2) → (o.getD r default).2.Nodup → i < (o.getD r default).2.length → (o.getD r default).2.getD i 0 = n → placeFrom o n = i
 | [], r, i, h, _, _, _, _ => by simp at h
 | q :: o, 0, i, _, _, hn, hi, he => by
  have e : atI q.2 n = i := by
   have := dK (k := 0) hn hi he
   rw [Nat.zero_add] at this; exact this
  rw [placeFrom, e, if_pos (Int.natCast_nonneg i)]
 | q :: o, r + 1, i, h, hk, hn, hi, he => by
  have e : atI q.2 n = -1 := fU (hk 0 (by omega))
  rw [placeFrom, e, if_neg (by omega)]
  exact nX (by simpa using h) (fun k hk' => hk (k + 1) (by omega)) hn hi he
def isCoB (x : Ex) (a b : Nat) : Bool := (x.evs.getD a default).stB && (x.evs.getD b default).stB && decide ((x.evs.getD a default).addr = (x.evs.getD b default).addr) && decide (placeFrom x.order a < placeFrom x.order b)
theorem lD {es : List Ev} {o : List (Sl × List Int)} (h : orderB es (addrsTo es) o = true) {r i a : Nat} (hr : r < o.length) (hi : i < (o.getD r default).2.length) (he : (o.getD r default).2.getD i 0 = (a : Int)) : placeFrom o a = i := by
 refine nX hr (fun k hk hm => ?_) (zV h hr) hi he
 obtain ⟨j, hj, ej⟩ := fE hm
 have e1 := (bD h hr hi he).2.2
 have e2 := (bD h (show k < o.length by omega) hj ej).2.2
 have := iQ h hr (by omega) (e1.symm.trans e2)
 omega
theorem nW {es : List Ev} {o : List (Sl × List Int)} (h : orderB es (addrsTo es) o = true) {a b : Nat} (hp : ((a : Int), (b : Int)) ∈ coZ o) : placeFrom o a < placeFrom o b := by
 obtain ⟨r, i, j, hr, h2, h3, h4, h5⟩ := eR hp
 rw [lD h hr (by omega) h4, lD h hr h3 h5]
 omega
theorem fN {x : Ex} (hc : checkI x = 0) {a b : Nat} (ha : a < x.evs.length) (hb : b < x.evs.length) : coB x a b = isCoB x a b := by
 have ho := (vN hc).2.2.2
 rw [Bool.eq_iff_iff]
 unfold coB isCoB
 simp only [Bool.and_eq_true, decide_eq_true_eq]
 constructor
 ·intro h
  obtain ⟨_, _, _, g1, g2, g3⟩ := tP ho h
  exact ⟨⟨⟨g1, g2⟩, g3⟩, nW ho h⟩
 ·rintro ⟨⟨⟨g1, g2⟩, g3⟩, g4⟩
  have hne : a ≠ b := fun e => by subst e; omega
  rcases co_or ho ha hb hne ⟨g1, g2, g3⟩ with h | h
  ·exact h
  ·have := nW ho h; omega
set_option maxRecDepth 100000
theorem placeFrom_drop (o : List (Sl × List Int)) (n : Int) (k : Nat) (h : k < o.length) : placeFrom (o.drop k) n = if 0 ≤ atI (o.getD k default).2 n then atI (o.getD k default).2 n else placeFrom (o.drop (k + 1)) n := by
 rw [List.drop_eq_getElem_cons h, placeFrom, List.getD_eq_getElem?_getD, List.getElem?_eq_getElem h]; rfl
set_option maxHeartbeats 1000000 in
theorem nR (x : Ex) (hx : x.order.length ≤ 65536) (hr : ∀ i, (x.order.getD i default).2.length ≤ 65536) (n : Int) : Pure E.P 63 [exOV x, .int .i64 n] (.int .i64 (placeFrom x.order n)) := by
 have f1 : Frozen 1 := ⟨trivial⟩
 have f2 : Frozen 2 := ⟨trivial⟩
 refine fnA Tryz.func63 Tryz.ntmps63 ?_
 refine run ?_; refine aoR fun _ => ?_
 refine run ?_; refine aoR fun _ => ?_
 refine run ?_; rotate_left
 refine uS (X := Nat) (fun k => tmL [(1, .int .i64 n), (2, .d (.pt (exRow x) 0)), (5, .int .i64 k)]) (fun _ => stL []) (fun k => k ≤ x.order.length ∧ placeFrom x.order n = placeFrom (x.order.drop k) n) (fun k => x.order.length - k) 0 ⟨Nat.zero_le _, rfl⟩ leP leP ?_
 rintro k ⟨hk, ht⟩
 have ha := pC (x.order.getD k default).2 n (by have := hr k; omega)
 by_cases hlt : k < x.order.length
 ·have hd := placeFrom_drop x.order n k hlt
  refine run ?_; refine aoR fun _ => ?_
  refine run ?_; refine cnd ?_ ?_
  refine uH fun _ => ?_; try (exfalso; omega)
  refine run ?_; refine aoR fun _ => ?_
  refine run ?_
  apply uM; exact rfl; exact .fn _ _ _; exact rfl; exact ha
  refine run ?_; refine aoR fun _ => ?_
  refine run ?_; refine cnd ?_ ?_
  refine uH fun _ => ?_; try (exfalso; omega)
  refine run ?_; refine aoR fun _ => ?_
  refine run ?_; rotate_left
  refine uI fun _ => ?_; try (exfalso; omega)
  refine run ?_; refine aoR fun _ => ?_
  refine run ?_; rotate_left
  refine uI fun _ => ?_; try (exfalso; omega)
  ·refine wF rfl ?_
   rw [ht, hd, if_pos (by assumption)]
  ·refine uY (k + 1) ⟨by omega, ?_⟩ (by omega) leP leP
   rw [ht, hd, if_neg (by assumption)]
 ·refine run ?_
  refine aoR fun _ => ?_; refine run ?_
  refine cnd ?_ ?_
  refine uH fun _ => ?_; try (exfalso; omega)
  refine uI fun _ => ?_; try (exfalso; omega)
  refine run ?_; refine aoR fun _ => ?_
  refine run ?_; rotate_left
  refine wF rfl ?_
  rw [ht, List.drop_eq_nil_of_le (by omega)]; rfl
theorem risRf_p (x : Ex) (hx : x.evs.length ≤ 65536) (hf : x.from_.length = x.evs.length) (a b : Nat) (ha : a < x.evs.length) (hb : b < x.evs.length) : Pure E.P 45 [exOV x, .int .i64 a, .int .i64 b] (.bool (isRf x a b)) := by
 have hl := xR (x.evs.getD b default)
 refine fnA Tryz.func45 Tryz.ntmps45 ?_
 refine run ?_; refine aoR fun _ => ?_
 refine run ?_; refine aoR fun _ => ?_
 refine run ?_
 apply uM; exact rfl; exact .fn _ _ _; exact rfl; exact hl
 refine run ?_; rotate_left
 refine uU rfl ?_
 rw [Bool.eq_iff_iff]
 unfold isRf
 simp only [Bool.and_eq_true, decide_eq_true_eq, Int.toNat_natCast]
theorem qS (x : Ex) (hx : x.evs.length ≤ 65536) (ho : x.order.length ≤ 65536) (hr : ∀ i, (x.order.getD i default).2.length ≤ 65536) (a b : Nat) (ha : a < x.evs.length) (hb : b < x.evs.length) : Pure E.P 42 [exOV x, .int .i64 a, .int .i64 b] (.bool (isCoB x a b)) := by
 have h1 := wN (x.evs.getD a default)
 have h2 := wN (x.evs.getD b default)
 have h3 := nR x ho hr a
 have h4 := nR x ho hr b
 refine fnA Tryz.func42 Tryz.ntmps42 ?_
 refine run ?_; refine aoR fun _ => ?_
 refine run ?_
 refine uX (E := E) ?_ (fun _ => ?_); exact rfl
 refine run ?_
 apply wZ; exact rfl; exact .fn _ _ _; exact rfl; (exact h1)
 refine run ?_
 apply dpT; exact rfl
 intro hc_
 have hp_ := hc_; try simp only [nrm] at hp_
 apply vE; (exact EvM.plain rfl rfl); exact .fn _ _ _; exact vR; (exact h2)
 refine run ?_
 apply dpT; exact rfl
 intro hc_
 have hp_ := hc_; try simp only [nrm] at hp_
 apply vE; (exact EvM.plain rfl rfl); exact .fn _ _ _; exact vR; (exact h3)
 refine run ?_
 apply dpT; exact rfl
 intro hc_
 have hp_ := hc_; try simp only [nrm] at hp_
 apply vE; (exact EvM.plain rfl rfl); exact .fn _ _ _; exact vR; (exact h4)
 refine run ?_; rotate_left
 refine uU rfl ?_
 rw [Bool.eq_iff_iff]
 unfold isCoB
 simp only [Bool.and_eq_true, decide_eq_true_eq, Int.toNat_natCast]
def isFrB (x : Ex) (a b : Nat) : Bool := !(a == b) && (x.evs.getD a default).ldB && isCoB x (x.from_.getD a 0).toNat b
theorem risFr_p (x : Ex) (hx : x.evs.length ≤ 65536) (ho : x.order.length ≤ 65536) (hr : ∀ i, (x.order.getD i default).2.length ≤ 65536) (hf : x.from_.length = x.evs.length) (hld : ∀ a, a < x.evs.length → (x.evs.getD a default).ldB = true → 0 ≤ x.from_.getD a 0 ∧ x.from_.getD a 0 < x.evs.length) (a b : Nat) (ha : a < x.evs.length) (hb : b < x.evs.length) : Pure E.P 46 [exOV x, .int .i64 a, .int .i64 b] (.bool (isFrB x a b)) := by
 have h1 := xR (x.evs.getD a default)
 by_cases hg : a ≠ b ∧ (x.evs.getD a default).ldB = true
 ·obtain ⟨g1, g2⟩ := hg
  obtain ⟨u1, u2⟩ := hld a ha g2
  obtain ⟨f, hfe⟩ := yB u1
  have h2 := qS x hx ho hr f b (by omega) hb
  rw [← hfe] at h2
  refine fnA Tryz.func46 Tryz.ntmps46 ?_
  refine run ?_; refine aoR fun _ => ?_
  refine run ?_
  refine uX (E := E) ?_ (fun _ => ?_); exact rfl
  refine run ?_
  apply dpT; exact rfl
  intro hc_
  have hp_ := hc_; try simp only [nrm] at hp_
  apply vE; (exact EvM.plain rfl rfl); exact .fn _ _ _; exact vR; (exact h1)
  refine run ?_
  apply dpT; exact rfl
  intro hc_
  have hp_ := hc_; try simp only [nrm] at hp_
  apply vE; (exact EvM.plain rfl rfl); exact .fn _ _ _; exact vR; (exact h2)
  refine run ?_; rotate_left
  refine uU rfl ?_
  unfold isFrB
  rw [hfe, Int.toNat_natCast, g2, show (a == b) = false by simpa using g1]
  simp [g1]
  try (intro _; omega)
 ·by_cases e : a = b
  ·subst e
   refine fnA Tryz.func46 Tryz.ntmps46 ?_
   refine run ?_; refine aoR fun _ => ?_
   refine run ?_
   refine uX (E := E) ?_ (fun _ => ?_); exact rfl
   refine run ?_
   apply dpT; exact rfl
   intro hc_
   have hp_ := hc_; try simp only [nrm] at hp_
   apply vE; (exact EvM.plain rfl rfl); exact .fn _ _ _; exact vR; exact h1
   refine run ?_
   apply dpT; exact rfl
   intro hc_
   have hp_ := hc_; try simp only [nrm] at hp_
   (apply vE; (exact EvM.plain rfl rfl); exact .fn _ _ _; exact vR; exact (show Pure E.P _ _ (.bool false) from by exfalso; simp at hc_))
   refine run ?_; rotate_left
   all_goals (refine uU rfl ?_)
   all_goals (unfold isFrB; simp)
  ·have g2 : (x.evs.getD a default).ldB = false := by
    cases h : (x.evs.getD a default).ldB with
    | false => rfl
    | true => exact (hg ⟨e, h⟩).elim
   rw [g2] at h1
   refine fnA Tryz.func46 Tryz.ntmps46 ?_
   refine run ?_; refine aoR fun _ => ?_
   refine run ?_
   refine uX (E := E) ?_ (fun _ => ?_); exact rfl
   refine run ?_
   apply dpT; exact rfl
   intro hc_
   have hp_ := hc_; try simp only [nrm] at hp_
   apply vE; (exact EvM.plain rfl rfl); exact .fn _ _ _; exact vR; exact h1
   refine run ?_
   apply dpT; exact rfl
   intro hc_
   have hp_ := hc_; try simp only [nrm] at hp_
   (apply vE; (exact EvM.plain rfl rfl); exact .fn _ _ _; exact vR; exact (show Pure E.P _ _ (.bool false) from by exfalso; simp at hc_))
   refine run ?_; rotate_left
   all_goals (refine uU rfl ?_)
   all_goals (unfold isFrB; rw [g2]; simp)
structure Ex.rel (x : Ex) : Prop where
 fit : x.fit
 check : checkI x = 0
theorem Ex.rel.len {x : Ex} (h : x.rel) : x.evs.length ≤ 64 := (vN h.check).1
theorem Ex.rel.from_ {x : Ex} (h : x.rel) : x.from_.length = x.evs.length := yI (vN h.check).2.2.1
theorem Ex.rel.rows {x : Ex} (h : x.rel) (i : Nat) : (x.order.getD i default).2.length ≤ 65536 := by
 rcases Nat.lt_or_ge i x.order.length with hh | hh
 ·rw [List.getD_eq_getElem?_getD, List.getElem?_eq_getElem hh]
  exact h.fit.2 _ (List.getElem_mem hh)
 ·rw [List.getD_eq_getElem?_getD, List.getElem?_eq_none hh]
  exact Nat.zero_le _
theorem Ex.rel.ord {x : Ex} (h : x.rel) : x.order.length ≤ 65536 := by
 have h4 := (vN h.check).2.2.2
 unfold orderB at h4
 simp only [Bool.and_eq_true, decide_eq_true_eq] at h4
 have := xO x.evs
 have := h.len
 omega
theorem Ex.rel.src {x : Ex} (h : x.rel) (a : Nat) (ha : a < x.evs.length) (hl : (x.evs.getD a default).ldB = true) : 0 ≤ x.from_.getD a 0 ∧ x.from_.getD a 0 < x.evs.length := by
 obtain ⟨u1, u2⟩ := iB (vN h.check).2.2.1 ha
 exact ⟨u1.1 hl, (u2 hl).1⟩
theorem bG {n : Nat} {f g : Nat → Nat → Bool} (h : ∀ a b, a < n → b < n → f a b = g a b) : refPairs n f = refPairs n g := by
 unfold refPairs
 rw [List.flatMap_def, List.flatMap_def]
 congr 1
 refine List.map_congr_left fun a ha => ?_
 congr 1
 exact List.filter_congr fun b hb => h a b (List.mem_range.1 ha) (List.mem_range.1 hb)
theorem fr_isB {x : Ex} (h : x.rel) {a b : Nat} (ha : a < x.evs.length) (hb : b < x.evs.length) : frBr x a b = isFrB x a b := by
 unfold frBr isFrB
 cases hl : (x.evs.getD a default).ldB with
 | false => simp
 | true =>
  obtain ⟨u1, u2⟩ := h.src a ha hl
  rw [fN h.check (by omega) hb]
theorem iE {x : Ex} (h : x.rel) : coF x = refPairs x.evs.length (isCoB x) := by
 rw [pX h.check]
 exact bG fun a b ha hb => fN h.check ha hb
theorem iC {x : Ex} (h : x.rel) : frF x = refPairs x.evs.length (isFrB x) := by
 rw [fr_ref h.check]
 exact bG fun a b ha hb => fr_isB h ha hb
section
variable {k s : Nat} {τ : Stamp} {rows : List (List TV)}
structure FrC (k : Nat) (τ : Stamp) (s : Nat) (rows : List (List TV)) (a b : List OV) : Prop where
 len : a.length = b.length
 cells : ∀ (o : Nat) (y' : OV), b[o]? = some y' → ∃ y : OV, a[o]? = some y ∧ Froz k τ s rows y y'
theorem oQ {a : List OV} : FrC k τ s rows a a := ⟨rfl, fun _ y' h => ⟨y', h, .same y'⟩⟩
end
theorem WRel.cell {Γ : Ctx} {G : Gh} {σ : Store} {w : World} {kx q i o : Nat} {τx : Stamp} {rows : List (List OV)} {row : List OV} {y y' : OV} (hw : WRel Γ G σ w) (hk : σ kx = some (τx, ⟨q, rows⟩)) (hr : rows[i]? = some row) (ho : row[o]? = some y) (hy : ∀ x, RepO G y x → RepO G y' x) :
  WRel Γ G (σ.put kx (τx, ⟨q, rows.set i (row.set o y')⟩)) w where
 mem := hw.mem
 own j τ' r' hj := by
  by_cases e : j = kx
  ·subst e
   rw [Store.put_self] at hj
   cases hj
   rcases hw.own j _ _ hk with ⟨_, g2⟩ | ⟨β, g1, ⟨cs, c1, c2, c3, c4⟩, g3, g4⟩
   ·have g2' : rows = [] := g2
    rw [g2'] at hr; simp at hr
   ·refine Or.inr ⟨β, g1, ⟨cs, c1, c2, by simpa using c3, fun i' row' hi => ?_⟩, g3, g4⟩
    by_cases ei : i' = i
    ·subst ei
     obtain ⟨d1, d2⟩ := c4 i' row hr
     have hlt : i' < rows.length := by
      rcases Nat.lt_or_ge i' rows.length with h | h
      ·exact h
      ·rw [List.getElem?_eq_none h] at hr; cases hr
     have hi' : (rows.set i' (row.set o y'))[i']? = some row' := hi
     rw [List.getElem?_set_self hlt] at hi'
     cases hi'
     refine ⟨by rw [List.length_set]; exact d1, fun o' z hz => ?_⟩
     by_cases eo : o' = o
     ·subst eo
      have hlo : o' < row.length := by
       rcases Nat.lt_or_ge o' row.length with h | h
       ·exact h
       ·rw [List.getElem?_eq_none h] at ho; cases ho
      rw [List.getElem?_set_self hlo] at hz
      cases hz
      obtain ⟨v, e6, e7⟩ := d2 o' y ho
      exact ⟨v, e6, hy v e7⟩
     ·rw [List.getElem?_set_ne (Ne.symm eo)] at hz
      exact d2 o' z hz
    ·have hi' : (rows.set i (row.set o y'))[i']? = some row' := hi
     rw [List.getElem?_set_ne (Ne.symm ei)] at hi'
     exact c4 i' row' hi'
  ·rw [Store.put_ne _ _ e] at hj
   exact hw.own j τ' r' hj
 inj j j' τ1 τ2 β β' r r' hj hj' hμ hμ' e := by
  have old : ∀ j τ r, (σ.put kx (τx, ⟨q, rows.set i (row.set o y')⟩)) j = some (τ, r) → ∃ r0, σ j = some (τ, r0) := fun j τ r h => by
   by_cases e : j = kx
   ·subst e; rw [Store.put_self] at h; cases h; exact ⟨_, hk⟩
   ·rw [Store.put_ne _ _ e] at h; exact ⟨r, h⟩
  obtain ⟨r1, h1⟩ := old _ _ _ hj
  obtain ⟨r2, h2⟩ := old _ _ _ hj'
  exact hw.inj j j' τ1 τ2 β β' r1 r2 h1 h2 hμ hμ' e
 keep := hw.keep
 size := hw.size
 tape := hw.tape
 os := hw.os
 output := hw.output
 g0 := hw.g0
 new := hw.new
 bound := hw.bound
 low := hw.low
def fam (f : Nat → Stamp × Row) (a : Nat) : Nat → Rows
 | 0 => []
 | m + 1 => (a + 1000, f a) :: fam f (a + 1) m
end Go.Proofs.YtnkocjkkefnelaaGreat
