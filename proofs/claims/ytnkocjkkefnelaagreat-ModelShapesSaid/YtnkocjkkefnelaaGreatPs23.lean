/- Parts. -/
import Derived.Test.YtnkocjkkefnelaaGreatPs4
import Derived.Test.YtnkocjkkefnelaaGreatPs6
import Derived.Test.YtnkocjkkefnelaaGreatPs9
import Derived.Test.YtnkocjkkefnelaaGreatPs17
import Derived.Test.YtnkocjkkefnelaaGreatPs20
import Derived.Test.YtnkocjkkefnelaaGreatPs21
import Derived.Test.YtnkocjkkefnelaaGreatPs22
set_option linter.unusedVariables false
set_option linter.unusedSimpArgs false
set_option maxHeartbeats 4000000
set_option maxRecDepth 100000
namespace Go.Proofs.YtnkocjkkefnelaaGreat
open Go.RowKit
def frB (r c : Int × Int) : Bool := c.1 == r.1 && c.2 != r.2
def fr1 (r : Int × Int) (co : List (Int × Int)) : List (Int × Int) := (co.filter (frB r)).map fun c => (r.2, c.2)
def frTo (rf co : List (Int × Int)) (i : Nat) : List (Int × Int) := (rf.take i).flatMap fun r => fr1 r co
def frAt (rf co : List (Int × Int)) (i : Nat) (r : Int × Int) (j : Nat) : List (Int × Int) := frTo rf co i ++ fr1 r (co.take j)
def frZ (rf co : List (Int × Int)) : List (Int × Int) := frTo rf co rf.length
theorem gR (rf co : List (Int × Int)) (i : Nat) (r : Int × Int) : frAt rf co i r 0 = frTo rf co i := by simp [frAt, fr1]
theorem dJ (rf co : List (Int × Int)) (i : Nat) (h : i < rf.length) : frTo rf co (i + 1) = frTo rf co i ++ fr1 (rf.getD i default) co := by
 unfold frTo
 rw [wZ rf default i h, List.flatMap_append]
 simp
theorem frAt_end (rf co : List (Int × Int)) (i : Nat) (h : i < rf.length) : frAt rf co i (rf.getD i default) co.length = frTo rf co (i + 1) := by
 rw [dJ rf co i h, frAt, List.take_length]
theorem pU (rf co : List (Int × Int)) (i : Nat) (r : Int × Int) (j : Nat) (h : j < co.length) (hb : frB r (co.getD j default) = true) : frAt rf co i r (j + 1) = frAt rf co i r j ++ [(r.2, (co.getD j default).2)] := by
 unfold frAt fr1
 rw [wZ co default j h, List.filter_append, List.filter_cons, if_pos hb, List.filter_nil, List.map_append, List.append_assoc]
 rfl
theorem frAt_no (rf co : List (Int × Int)) (i : Nat) (r : Int × Int) (j : Nat) (h : j < co.length) (hb : ¬ frB r (co.getD j default) = true) : frAt rf co i r (j + 1) = frAt rf co i r j := by
 unfold frAt fr1
 rw [wZ co default j h, List.filter_append, List.filter_cons, if_neg hb, List.filter_nil, List.append_nil]
theorem frTo_pre (rf co : List (Int × Int)) : ∀ {a b : Nat}, a ≤ b → b ≤ rf.length → ∃ q, frTo rf co b = frTo rf co a ++ q := fun {a b} h hb => by
  induction b with
  | zero => have : a = 0 := by omega
            subst this; exact ⟨[], by simp⟩
  | succ b ih =>
    by_cases e : a = b + 1
    · subst e; exact ⟨[], by simp⟩
    · obtain ⟨r, hr⟩ := ih (by omega) (by omega)
      exact ⟨_, by rw [dJ rf co b (by omega), hr, List.append_assoc]⟩
theorem fr1_pre (r : Int × Int) (co : List (Int × Int)) (j : Nat) : ∃ q, fr1 r co = fr1 r (co.take j) ++ q := by
 unfold fr1
 exact ⟨((co.drop j).filter (frB r)).map (fun c => (r.2, c.2)), by rw [← List.map_append, ← List.filter_append, List.take_append_drop]⟩
theorem frAt_in (rf co : List (Int × Int)) (i j : Nat) (hi : i < rf.length) (h : j < co.length) (hb : frB (rf.getD i default) (co.getD j default) = true) :
  ∃ q, frZ rf co = frAt rf co i (rf.getD i default) j ++ [((rf.getD i default).2, (co.getD j default).2)] ++ q := by
 obtain ⟨q1, h1⟩ := frTo_pre rf co (show i + 1 ≤ rf.length from hi) (Nat.le_refl _)
 obtain ⟨q2, h2⟩ := fr1_pre (rf.getD i default) co (j + 1)
 rw [← pU rf co i _ j h hb]
 unfold frZ
 rw [h1, dJ rf co i hi, h2]
 unfold frAt
 exact ⟨q2 ++ q1, by simp only [List.append_assoc]⟩
set_option maxHeartbeats 4000000 in
theorem fr1_s (x : Ex) (hx : x.fit) (co : List (Int × Int)) (hco : co.length ≤ 1048576) : SeqW E.P 85 [] [.d (.pt (exRow x) 0), .d (.pt [pairsTV co] 0)] (pairYs (frZ (rfF x) co)) := by
 intro Y k τ J m st hm h1 h2 hnd hbig hy l0 hl0
 have hlen : (pairYs (frZ (rfF x) co)).length = (frZ (rfF x) co).length := by simp [pairYs]
 rw [hlen] at hm h1
 have hrl : (rfF x).length ≤ 1048576 := by
  unfold rfF
  split
  ·rename_i hc
   obtain ⟨h1, _, h3, _⟩ := vI hc
   have := yQ h3
   have := nN x.from_ x.from_.length
   rw [yU]; omega
  ·simp
 have hrf := rf_s x hx
 generalize rfF x = rf at hm h1 hy hrl hlen hrf
 have hfz := yL
 have f9 : Frozen 9 := ⟨trivial⟩
 refine yH Tryz.func85 (by decide) rfl Tryz.ntmps85 (Nat.le_of_ble_eq_true rfl) rfl ?_
 refine uB (aoR fun _ => ?_)
 refine q33 ?_
 apply nY; assumption; exact rfl; exact .fn _ _ _; exact rfl; exact hrf; exact hfz _; exact rfl
 refine q13 ?_; refine q11 (uE (uC (uW ?_))); rotate_left
 refine uT (X := Nat × Rows) (fun p => tmL [(0, .yl k τ), (2, .d (.pt [pairsTV co] 0)), (9, .d (pairsTV rf)), (10, .int .i64 rf.length), (11, .int .i64 p.1), (GS, .gh (frTo rf co p.1).length Y)]) (fun p => stL p.2)
  (fun p => p.1 ≤ rf.length ∧ J (frTo rf co p.1).length p.2 ∧ (st = true → (frTo rf co p.1).length < m)) (fun p => rf.length - p.1) (0, l0) ⟨Nat.zero_le _, hl0, h2⟩ leP (by repeat (first | exact fun _ _ h => h | refine le_app (hbig _ _ hl0) rfl ?_)) ?_
 rintro ⟨i, l⟩ ⟨hi, hJ, hst⟩
 dsimp only at hi hJ hst ⊢
 by_cases hlt : i < rf.length
 rotate_left
 ·have hbe : i = rf.length := by omega
  subst hbe
  have hme : (frTo rf co rf.length).length = m := by
   cases st with
   | true => have h9 := hst rfl; have h8 : (frZ rf co).length = (frTo rf co rf.length).length := rfl; omega
   | false => exact (h1 rfl).symm
  rw [hme] at hJ ⊢
  refine uB (aoR fun _ => ?_)
  refine q37 (uE (uC (uB ?_))); refine cnd ?_ ?_
  refine uF fun _ => ?_; try omega
  refine uI fun _ => ?_; try omega
  refine wC ?_
  iterate 2 refine wM ?_
  refine yE ?_; rotate_left
  exact ⟨Or.inl rfl, rfl, l, hJ, fun _ _ h => h⟩
 refine uB (aoR fun _ => ?_)
 refine q37 (uE ?_); rotate_left
 refine uC (uB ?_); refine cnd ?_ ?_
 refine uF fun _ => ?_; try omega
 refine uZ ?_; rotate_left
 refine uI fun _ => ?_; try omega
 refine uC (uB (uW (uB (aoR fun _ => ?_))))
 refine q17 ?_; refine q33 ?_
 apply xF; exact rfl
 refine q15 (uE ?_); rotate_left
 refine uC ?_
 rename_i v5
 generalize hr : rf.getD i default = r
 have hT : rf.getD (i : Int).toNat default = r := hr
 rw [hT]
 refine wN 5 (v5, 2) 2 [pairTV r] (tmL [(0, .yl k τ), (2, .d (.pt [pairsTV co] 0)), (9, .d (pairsTV rf)), (10, .int .i64 rf.length), (11, .int .i64 i), (5, .d (.pt (pairTV r) 0)), (GS, .gh (frTo rf co i).length Y)]) (stL l) rfl (by repeat' (first | exact xC | refine vJ rfl (.same _) ?_ | refine vJ rfl (.lo 0 0 _ rfl) ?_)) (sZ (hbig _ _ hJ) (by decide) (fun j hj => by show (Store.put (Store.put _ _ _) _ _) j = _; rw [Store.put_ne _ _ hj, Store.put_ne _ _ hj]; rfl)) ?_
 refine uB (aoR fun _ => ?_)
 refine q23 ?_; refine q13 ?_; refine q11 (uE (uC (uW ?_))); rotate_left
 have hin := fun j => frAt_in rf co i j hlt
 have hnx := frAt_end rf co i hlt
 rw [hr] at hin hnx
 refine uT (X := Nat × Rows) (fun p => tmL [(0, .yl k τ), (2, .d (.pt [pairsTV co] 0)), (9, .d (pairsTV rf)), (10, .int .i64 rf.length), (11, .int .i64 i), (5, .d (.pt (pairTV r) 0)), (15, .d (pairsTV co)), (16, .int .i64 co.length), (17, .int .i64 p.1), (GS, .gh (frAt rf co i r p.1).length Y)]) (fun p => stL p.2)
  (fun p => p.1 ≤ co.length ∧ J (frAt rf co i r p.1).length p.2 ∧ (st = true → (frAt rf co i r p.1).length < m)) (fun p => co.length - p.1) (0, l) ⟨Nat.zero_le _, by dsimp only; rw [gR]; exact hJ, by dsimp only; rw [gR]; exact hst⟩ (by dsimp only; rw [gR]; exact leP) (fun _ _ h => h) ?_
 clear hJ hst l
 rintro ⟨j, l⟩ ⟨hj, hJ, hst⟩
 dsimp only at hj hJ hst ⊢
 by_cases hlt2 : j < co.length
 rotate_left
 ·have hbe : j = co.length := by omega
  subst hbe
  rw [hnx] at hJ hst ⊢
  refine uB (aoR fun _ => ?_)
  refine q37 (uE (uC (uB ?_))); refine cnd ?_ ?_
  refine uF fun _ => ?_; try omega
  refine uI fun _ => ?_; try omega
  refine wC ?_
  iterate 2 refine wM ?_
  refine yE ?_; refine xE ?_; refine uC (aoR fun _ => ?_)
  refine q36 ?_; refine q11 (uE (uC ?_)); rotate_left
  exact ⟨(i + 1, l), ⟨show i + 1 ≤ _ by omega, hJ, hst⟩, show rf.length - (i + 1) < rf.length - i by omega, leP, fun _ _ h => h⟩
 refine uB (aoR fun _ => ?_)
 refine q37 (uE ?_); rotate_left
 refine uC (uB ?_); refine cnd ?_ ?_
 refine uF fun _ => ?_; try omega
 refine uZ ?_; rotate_left
 refine uI fun _ => ?_; try omega
 refine uC (uB (uW (uB (aoR fun _ => ?_))))
 refine q17 ?_; refine q33 ?_
 apply xF; exact rfl
 refine q15 (uE ?_); rotate_left
 refine uC ?_
 rename_i v7
 generalize hc : co.getD j default = c at hin
 have hT : co.getD (j : Int).toNat default = c := hc
 rw [hT]
 refine wN 7 (v7, 2) 2 [pairTV c] (tmL [(0, .yl k τ), (2, .d (.pt [pairsTV co] 0)), (9, .d (pairsTV rf)), (10, .int .i64 rf.length), (11, .int .i64 i), (5, .d (.pt (pairTV r) 0)), (15, .d (pairsTV co)), (16, .int .i64 co.length), (17, .int .i64 j), (7, .d (.pt (pairTV c) 0)), (GS, .gh (frAt rf co i r j).length Y)]) (stL l) rfl (by repeat' (first | exact xC | refine vJ rfl (.same _) ?_ | refine vJ rfl (.lo 0 0 _ rfl) ?_)) (sZ (hbig _ _ hJ) (by decide) (fun j hj => by show (Store.put (Store.put _ _ _) _ _) j = _; rw [Store.put_ne _ _ hj, Store.put_ne _ _ hj]; rfl)) ?_
 by_cases hb : frB r c = true
 ·obtain ⟨q, hq⟩ := hin j hlt2 (by rw [hc]; exact hb)
  rw [hc] at hq
  obtain ⟨hlm, hY⟩ := jM h1 hy hq hst hJ
  have hlen1 : (frAt rf co i r (j + 1)).length = (frAt rf co i r j).length + 1 := by rw [pU rf co i r j hlt2 (by rw [hc]; exact hb)]; simp
  have hb1 : c.1 = r.1 ∧ c.2 ≠ r.2 := by simpa [frB] using hb
  obtain ⟨hb1, hb2⟩ := hb1
  rcases Bool.eq_false_or_eq_true (!(st && (frAt rf co i r j).length + 1 == m)) with hans | hans
  ·rw [hans] at hY
   refine uB (aoR fun _ => ?_)
   refine q32 ?_; refine q23 ?_; refine q32 ?_; refine q23 ?_; refine q46 ?_; refine q11 ?_
   apply uD; exact rfl; exact rfl
   refine uF fun _ => ?_; try omega
   refine q32 ?_
   apply uD; exact rfl; exact rfl
   refine uJ ?_; refine q23 ?_
   apply uD; exact rfl; exact rfl
   refine uJ ?_; refine q32 ?_
   apply uD; exact rfl; exact rfl
   refine uJ ?_; refine q23 ?_
   apply uD; exact rfl; exact rfl
   refine uJ ?_; refine q44 ?_; refine q4 ?_; refine q11 ?_
   apply uD; exact rfl; exact rfl
   refine wX ?_; refine uJ ?_
   refine wR (fun _ => ?_); (try omega)
   refine q11 ?_
   apply uD; exact rfl; exact rfl
   refine uJ ?_; refine q32 ?_
   apply uD; exact rfl; exact rfl
   refine uJ ?_; refine q23 ?_
   apply uD; exact rfl; exact rfl
   refine uJ ?_; refine q32 ?_
   apply uD; exact rfl; exact rfl
   refine uJ ?_; refine q23 ?_
   apply uD; exact rfl; exact rfl
   refine uJ ?_; refine q54 ?_
   apply uD; exact rfl; exact rfl
   refine uJ ?_
   apply aA; exact rfl; exact rfl; exact rfl; exact hY; exact (fun _ _ h => h); exact hnd _; (intro l1 hl1)
   apply uD; exact rfl; exact rfl
   refine uJ ?_
   apply cQ; exact rfl
   refine q4 (uE (uC ?_)); refine cnd ?_ ?_; refine wX ?_; refine uJ ?_; refine cJ ?_
   exact wH
   refine wK (fun hc_ => ?_); (try simp only [nrm] at hc_)
   refine uZ ?_; refine xE ?_; refine uC (aoR fun _ => ?_)
   refine q36 ?_; refine q11 (uE (uC ?_)); rotate_left
   iterate 7 exact wH
   refine wK (fun hc_ => ?_); (try simp only [nrm] at hc_)
   apply uD; exact rfl; exact rfl
   exact uH
   refine uG ?_
   apply uD; exact rfl; exact rfl
   exact uH
   refine uG ?_
   apply uD; exact rfl; exact rfl
   exact uH
   refine uG ?_
   apply uD; exact rfl; exact rfl
   exact uH
   refine uG ?_
   apply uD; exact rfl; exact rfl
   exact uH
   refine uG ?_
   apply uD; exact rfl; exact rfl
   exact uH
   refine uG ?_
   apply uD; exact rfl; exact rfl
   exact uH
   refine uG ?_
   apply yF; exact rfl
   apply aW; exact rfl
   refine uE (uC ?_); refine cnd ?_ ?_
   exact uH
   refine uG ?_; refine uZ ?_; refine xE ?_; refine uC (aoR fun _ => ?_)
   refine q36 ?_; refine q11 (uE (uC ?_)); rotate_left
   iterate 4 exact wH
   refine uI fun _ => ?_; try omega
   ·refine ⟨(j + 1, l1), ⟨show j + 1 ≤ _ by omega, ?_, ?_⟩, show co.length - (j + 1) < co.length - j by omega, ?_, aH (hnd _ _ hl1)⟩
    ·dsimp only; rw [hlen1]; exact hl1
    ·dsimp only; rw [hlen1]; exact nL hlm hans
    ·dsimp only; rw [hlen1]; exact leP
   ·exfalso
    rcases hc_ with h9 | h9
    ·cases h9
    ·exact hb2 h9
  ·rw [hans] at hY
   rw [fA hans] at hY
   refine uB (aoR fun _ => ?_)
   refine q32 ?_; refine q23 ?_; refine q32 ?_; refine q23 ?_; refine q46 ?_; refine q11 ?_
   apply uD; exact rfl; exact rfl
   refine uF fun _ => ?_; try omega
   refine q32 ?_
   apply uD; exact rfl; exact rfl
   refine uJ ?_; refine q23 ?_
   apply uD; exact rfl; exact rfl
   refine uJ ?_; refine q32 ?_
   apply uD; exact rfl; exact rfl
   refine uJ ?_; refine q23 ?_
   apply uD; exact rfl; exact rfl
   refine uJ ?_; refine q44 ?_; refine q4 ?_; refine q11 ?_
   apply uD; exact rfl; exact rfl
   refine wX ?_; refine uJ ?_
   refine wR (fun _ => ?_); (try omega)
   refine q11 ?_
   apply uD; exact rfl; exact rfl
   refine uJ ?_; refine q32 ?_
   apply uD; exact rfl; exact rfl
   refine uJ ?_; refine q23 ?_
   apply uD; exact rfl; exact rfl
   refine uJ ?_; refine q32 ?_
   apply uD; exact rfl; exact rfl
   refine uJ ?_; refine q23 ?_
   apply uD; exact rfl; exact rfl
   refine uJ ?_; refine q54 ?_
   apply uD; exact rfl; exact rfl
   refine uJ ?_
   apply aA; exact rfl; exact rfl; exact rfl; exact hY; exact (fun _ _ h => h); exact hnd _; (intro l1 hl1)
   apply uD; exact rfl; exact rfl
   refine uJ ?_
   apply cQ; exact rfl
   refine q0 (uE (uC ?_)); refine cnd ?_ ?_
   refine xJ (fun hc_ => ?_); (try simp only [nrm] at hc_)
   refine wJ ?_; refine fX ?_
   iterate 2 refine aE ?_
   iterate 2 refine fX ?_
   iterate 2 refine aE ?_
   refine fX ?_; rotate_left
   refine xP ?_
   iterate 8 exact wH
   refine wK (fun hc_ => ?_); (try simp only [nrm] at hc_)
   apply uD; exact rfl; exact rfl
   exact uH
   refine uG ?_
   apply uD; exact rfl; exact rfl
   exact uH
   refine uG ?_
   apply uD; exact rfl; exact rfl
   exact uH
   refine uG ?_
   apply uD; exact rfl; exact rfl
   exact uH
   refine uG ?_
   apply uD; exact rfl; exact rfl
   exact uH
   refine uG ?_
   apply uD; exact rfl; exact rfl
   exact uH
   refine uG ?_
   apply uD; exact rfl; exact rfl
   exact uH
   refine uG ?_
   apply yF; exact rfl
   apply aW; exact rfl
   refine uE (uC ?_); refine cnd ?_ ?_
   exact uH
   refine uG ?_; refine uZ ?_; refine xE ?_; refine uC (aoR fun _ => ?_)
   refine q36 ?_; refine q11 (uE (uC ?_)); rotate_left
   iterate 4 exact wH
   refine uI fun _ => ?_; try omega
   ·exact ⟨Or.inr rfl, rfl, l1, hl1, aH (hnd _ _ hl1)⟩
   ·exfalso
    rcases hc_ with h9 | h9
    ·cases h9
    ·exact hb2 h9
 ·have hlen1 : (frAt rf co i r (j + 1)) = (frAt rf co i r j) := frAt_no rf co i r j hlt2 (by rw [hc]; exact hb)
  have hb1 : c.1 = r.1 → c.2 = r.2 := by simpa [frB] using hb
  refine uB (aoR fun _ => ?_)
  refine q32 ?_; refine q23 ?_; refine q32 ?_; refine q23 ?_; refine q46 ?_; refine q11 ?_
  apply uD; exact rfl; exact rfl
  refine uF fun _ => ?_; try omega
  refine q32 ?_
  apply uD; exact rfl; exact rfl
  refine uJ ?_; refine q23 ?_
  apply uD; exact rfl; exact rfl
  refine uJ ?_; refine q32 ?_
  apply uD; exact rfl; exact rfl
  refine uJ ?_; refine q23 ?_
  apply uD; exact rfl; exact rfl
  refine uJ ?_; refine q44 ?_; refine q4 ?_; refine q11 ?_
  apply uD; exact rfl; exact rfl
  refine wX ?_; refine uJ ?_
  refine wR (fun _ => ?_); (try omega)
  refine wK (fun hc_ => ?_); (try simp only [nrm] at hc_)
  apply uD; exact rfl; exact rfl
  exact uH
  refine uG ?_
  apply uD; exact rfl; exact rfl
  exact uH
  refine uG ?_
  apply uD; exact rfl; exact rfl
  exact uH
  refine uG ?_
  apply uD; exact rfl; exact rfl
  exact uH
  refine uG ?_
  apply uD; exact rfl; exact rfl
  exact uH
  refine uG ?_
  apply uD; exact rfl; exact rfl
  exact uH
  refine uG ?_
  apply uD; exact rfl; exact rfl
  exact uH
  refine uG ?_
  apply yF; exact rfl
  apply aW; exact rfl
  refine uE (uC ?_); refine cnd ?_ ?_
  exact uH
  refine uG ?_; refine uZ ?_; refine xE ?_; refine uC (aoR fun _ => ?_)
  refine q36 ?_; refine q11 (uE (uC ?_)); rotate_left
  iterate 4 exact wH
  refine uI fun _ => ?_; try omega
  apply uD; exact rfl; exact rfl
  exact uH
  refine uG ?_
  apply uD; exact rfl; exact rfl
  exact uH
  refine uG ?_
  apply uD; exact rfl; exact rfl
  exact uH
  refine uG ?_
  apply uD; exact rfl; exact rfl
  exact uH
  refine uG ?_
  apply yF; exact rfl
  apply aW; exact rfl
  refine q11 ?_
  apply uD; exact rfl; exact rfl
  exact uH
  refine uG ?_
  apply uD; exact rfl; exact rfl
  exact uH
  refine uG ?_
  apply uD; exact rfl; exact rfl
  exact uH
  refine uG ?_
  apply uD; exact rfl; exact rfl
  exact uH
  refine uG ?_
  apply uD; exact rfl; exact rfl
  exact uH
  refine uG ?_
  apply uD; exact rfl; exact rfl
  exact uH
  refine uG ?_
  apply uD; exact rfl; exact rfl
  exact uH
  refine uG ?_
  apply uD; exact rfl; exact rfl
  exact uH
  refine uG ?_
  apply yF; exact rfl
  apply aW; exact rfl
  refine uE (uC ?_); refine cnd ?_ ?_
  exact uH
  refine uG ?_; refine uZ ?_; refine xE ?_; refine uC (aoR fun _ => ?_)
  refine q36 ?_; refine q11 (uE (uC ?_)); rotate_left
  all_goals
   refine ⟨(j + 1, l), ⟨show j + 1 ≤ _ by omega, ?_, ?_⟩, show co.length - (j + 1) < co.length - j by omega, ?_, (fun _ _ h => h)⟩
   ·dsimp only; rw [hlen1]; exact hJ
   ·dsimp only; rw [hlen1]; exact hst
   ·dsimp only; rw [hlen1]; exact leP
def frF (x : Ex) : List (Int × Int) := sortZ (frZ (rfF x) (coF x))
theorem frZ_small {rf co : List (Int × Int)} (h1 : smallP rf) (h2 : smallP co) : smallP (frZ rf co) := fun p hp => by
 unfold frZ frTo fr1 at hp
 obtain ⟨r, hr, h3⟩ := List.mem_flatMap.1 hp
 obtain ⟨c, hc, rfl⟩ := List.mem_map.1 h3
 have a1 := h1 r (List.mem_of_mem_take hr)
 have a2 := h2 c (List.mem_filter.1 hc).1
 dsimp only
 omega
theorem pT (rf co : List (Int × Int)) : ∀ i, i ≤ rf.length → (frTo rf co i).length ≤ i * co.length
 | 0, _ => by simp [frTo]
 | i + 1, h => by
  rw [dJ rf co i h, List.length_append, Nat.succ_mul]
  have := pT rf co i (by omega)
  have : (fr1 (rf.getD i default) co).length ≤ co.length := by
   unfold fr1
   rw [List.length_map]
   exact List.length_filter_le _ _
  omega
theorem smallP_nil : smallP [] := fun p hp => by cases hp
theorem rf_facts (x : Ex) : smallP (rfF x) ∧ (rfF x).length ≤ 64 := by
 unfold rfF
 split
 ·rename_i hc
  obtain ⟨h1, h2, h3, h4⟩ := vI hc
  have hfl := yQ h3
  have hln := nN x.from_ x.from_.length
  exact ⟨iH (lW (fun i => by have := rX h3 i; omega) (by omega)), by rw [yU]; omega⟩
 ·exact ⟨smallP_nil, by simp⟩
theorem co_facts (x : Ex) : smallP (coF x) ∧ (coF x).length ≤ 262144 := by
 unfold coF
 split
 ·rename_i hc
  obtain ⟨h1, h2, h3, h4⟩ := vI hc
  exact ⟨iH (gT h4 (by omega)), by rw [yU]; exact sE hc⟩
 ·exact ⟨smallP_nil, by simp⟩
set_option maxHeartbeats 4000000 in
theorem fr_s (x : Ex) (hx : x.fit) : Own E.P 57 [exOV x] 2 ((frF x).map pairO') := by
 obtain ⟨a1, a2⟩ := rf_facts x
 obtain ⟨b1, b2⟩ := co_facts x
 have hsm := frZ_small a1 b1
 have hln : (frZ (rfF x) (coF x)).length ≤ 1073741824 := by
  have := pT (rfF x) (coF x) (rfF x).length (Nat.le_refl _)
  have h9 : (rfF x).length * (coF x).length ≤ 64 * 262144 := Nat.mul_le_mul a2 b2
  unfold frZ
  omega
 have hfr := fr1_s x hx (coF x) (by omega)
 have hco := co_s x hx
 unfold frF
 have hfz := yL
 have f5 : Frozen 5 := ⟨trivial⟩
 refine fnA Tryz.func57 Tryz.ntmps57 ?_
 refine uB (aoR fun _ => ?_)
 refine q40 ?_; refine q51 (uE ?_); rotate_left
 refine uC ?_
 rename_i v0
 refine wN 1 (v0, 0) 3 [exRow x] (tmL [(1, .d (.pt (exRow x) 0))]) (stL []) rfl (vJ rfl (.lo 0 0 _ rfl) xC) (by repeat' (first | exact xC | exact yD | (refine vJ rfl (vS ?_) ?_; (first | rfl | (simp; done))) | refine vJ rfl (.same _) ?_ | refine wB (by decide) rfl (.same _) ?_)) ?_
 refine uB (aoR fun _ => ?_)
 refine q33 ?_
 apply nY; assumption; exact rfl; exact .fn _ _ _; exact rfl; exact hco; exact hfz _; exact rfl
 apply xF; exact rfl
 refine q15 (uE ?_); rotate_left
 refine uC ?_
 rename_i v1
 refine wN 3 (v1, 2) 1 [[pairsTV (coF x)]] (tmL [(1, .d (.pt (exRow x) 0)), (3, .d (.pt [pairsTV (coF x)] 0))]) (stL []) rfl (by repeat' (first | exact xC | refine vJ rfl (.same _) ?_ | refine vJ rfl (.lo 0 0 _ rfl) ?_)) (by repeat' (first | exact xC | exact yD | (refine vJ rfl (vS ?_) ?_; (first | rfl | (simp; done))) | refine vJ rfl (.same _) ?_ | refine wB (by decide) rfl (.same _) ?_)) ?_
 refine uB (aoR fun _ => ?_)
 apply xM; exact rfl; exact rfl
 apply gD; exact rfl; exact .fn _ _ _; exact rfl; exact jB (.fn _ _ _) _ hsm hln hfr
 apply mZ; exact rfl; exact rfl
 refine uE (uC ?_); refine wJ ?_; rotate_left
 exact xA (d := 2) rfl rfl rfl rfl
theorem gJ (zs : List Int) : ∀ k, (rfZ zs k).Nodup
 | 0 => by simp [rfZ]
 | k + 1 => by
  by_cases h : 0 ≤ zs.getD k 0
  ·rw [dB h, List.nodup_append]
   refine ⟨gJ zs k, by simp, fun p hp q hq e => ?_⟩
   simp only [List.mem_singleton] at hq
   subst hq
   subst e
   obtain ⟨n, h1, _, _, h4⟩ := rS.1 hp
   omega
  ·rw [jQ h]; exact gJ zs k
def isRf (x : Ex) (a b : Nat) : Bool := (x.evs.getD b default).ldB && decide (x.from_.getD b 0 = (a : Int))
theorem fM {es : List Ev} {fs : List Int} (h : fromB es fs = true) {k : Nat} (hk : k < es.length) : ((es.getD k default).ldB = true ↔ 0 ≤ fs.getD k 0) ∧ ((es.getD k default).ldB = true → fs.getD k 0 < es.length ∧ fs.getD k 0 ≠ k ∧ (es.getD (fs.getD k 0).toNat default).stB = true ∧ (es.getD (fs.getD k 0).toNat default).addr = (es.getD k default).addr) := by
 have h1 := rZ h (k := k) (by rw [yQ h]; exact hk)
 unfold fromOk at h1
 cases hl : (es.getD k default).ldB with
 | false =>
  rw [hl] at h1
  simp only [Bool.not_false, Bool.true_and, Bool.false_and, Bool.or_false, beq_iff_eq] at h1
  exact ⟨⟨fun e => (by cases e), fun e => (by omega)⟩, fun e => (by cases e)⟩
 | true =>
  rw [hl] at h1
  simp only [Bool.not_true, Bool.false_and, Bool.false_or, Bool.true_and, Bool.and_eq_true, Bool.not_eq_true', beq_eq_false_iff_ne, decide_eq_false_iff_not] at h1
  obtain ⟨⟨⟨a1, a2⟩, a3⟩, a4⟩ := h1
  unfold srcOk at a4
  simp only [Bool.and_eq_true] at a4
  exact ⟨⟨fun _ => (by omega), fun _ => rfl⟩, fun _ => ⟨by omega, a1, a4.1.1, by simpa using a4.1.2⟩⟩
theorem kJ {l : List Int} (h : l.Nodup) : ∀ i, i ≤ l.length → (coIn l i).Nodup
 | 0, _ => by simp [coIn]
 | i + 1, hi => by
  rw [aQ, List.nodup_append]
  refine ⟨kJ h i (by omega), ?_, fun p hp q hq e => ?_⟩
  ·refine List.Pairwise.map _ (R := (· ≠ ·)) (fun a b hab e => hab (by simpa using e)) (List.Pairwise.sublist (List.drop_sublist _ _) h)
  ·subst e
   obtain ⟨b, _, rfl⟩ := List.mem_map.1 hq
   unfold coIn at hp
   obtain ⟨j, h1, h2⟩ := List.mem_flatMap.1 hp
   obtain ⟨c, _, h4⟩ := List.mem_map.1 h2
   have hj := List.mem_range.1 h1
   have := fF h (i := j) (j := i) (by omega) (by omega) (by simpa using congrArg Prod.fst h4)
   omega
theorem mQ {es : List Ev} {o : List (Sl × List Int)} (h : orderB es (addrsTo es) o = true) : (coZ o).Nodup := by
 unfold coZ coTo
 rw [List.take_length]
 unfold List.Nodup
 rw [List.pairwise_flatMap]
 refine ⟨fun l hl => ?_, ?_⟩
 ·obtain ⟨r, hr, e⟩ := List.getElem_of_mem hl
  have := zC h hr
  rw [List.getD_eq_getElem?_getD, List.getElem?_eq_getElem hr, Option.getD_some, e] at this
  exact kJ this _ (Nat.le_refl _)
 ·rw [List.pairwise_iff_getElem]
  intro i j hi hj hij p hp q hq e
  subst e
  have e1 := (kK hp (Nat.le_refl _)).1
  have e2 := (kK hq (Nat.le_refl _)).1
  have g1 : o[i] = o.getD i default := by rw [List.getD_eq_getElem?_getD, List.getElem?_eq_getElem hi]; rfl
  have g2 : o[j] = o.getD j default := by rw [List.getD_eq_getElem?_getD, List.getElem?_eq_getElem hj]; rfl
  rw [g1] at e1
  rw [g2] at e2
  obtain ⟨a, ha, ea⟩ := gN e1
  obtain ⟨b, hb, eb⟩ := gN e2
  have hp0 := nH ((zE h hi).1 e1)
  have r1 := aV h hi ha (a := p.1.toNat) (by rw [ea]; omega)
  have r2 := aV h hj hb (a := p.1.toNat) (by rw [eb]; omega)
  have := fD h hi hj (r1.2.2.symm.trans r2.2.2)
  omega
theorem fr1_nodup {co : List (Int × Int)} (h : co.Nodup) (r : Int × Int) : (fr1 r co).Nodup := by
 unfold fr1
 refine List.Pairwise.map _ (R := fun c d => c ≠ d ∧ c.1 = r.1 ∧ d.1 = r.1) (fun c d hcd e => hcd.1 (Prod.ext (by rw [hcd.2.1, hcd.2.2]) (by simpa using e))) ?_
 refine (List.Pairwise.filter _ h).imp_of_mem fun {c d} hc hd hne => ?_
 have h1 := (List.mem_filter.1 hc).2
 have h2 := (List.mem_filter.1 hd).2
 simp only [frB, Bool.and_eq_true, beq_iff_eq] at h1 h2
 exact ⟨hne, h1.1, h2.1⟩
theorem frZ_nodup {rf co : List (Int × Int)} (hr : rf.Pairwise fun r s => r.2 ≠ s.2) (hc : co.Nodup) : (frZ rf co).Nodup := by
 unfold frZ frTo
 rw [List.take_length]
 unfold List.Nodup
 rw [List.pairwise_flatMap]
 refine ⟨fun r _ => fr1_nodup hc r, hr.imp fun {r s} hrs p hp q hq e => ?_⟩
 subst e
 unfold fr1 at hp hq
 obtain ⟨c, _, rfl⟩ := List.mem_map.1 hp
 obtain ⟨d, _, h2⟩ := List.mem_map.1 hq
 exact hrs (by simpa using (congrArg Prod.fst h2).symm)
theorem cB {x : Ex} (hc : checkI x = 0) : rfF x = refPairs x.evs.length (isRf x) := by
 obtain ⟨h1, h2, h3, h4⟩ := vI hc
 have hl := yQ h3
 rw [rfF, if_pos hc]
 refine bX (gJ _ _) fun p => ?_
 obtain ⟨a, b⟩ := p
 rw [rS, vE]
 constructor
 ·rintro ⟨n, g1, g2, rfl, rfl⟩
  obtain ⟨e1, e2⟩ := fM h3 (k := n) (by omega)
  obtain ⟨m, hm⟩ := zL g2
  have := e2 (e1.2 g2)
  exact ⟨m, n, by omega, by omega, by unfold isRf; rw [e1.2 g2, hm]; simp, by rw [hm]⟩
 ·rintro ⟨m, n, g1, g2, g3, g4⟩
  unfold isRf at g3
  simp only [Bool.and_eq_true, decide_eq_true_eq] at g3
  cases g4
  exact ⟨n, by omega, ((fM h3 g2).1.1 g3.1), g3.2.symm, rfl⟩
def coB (x : Ex) (a b : Nat) : Bool := decide (((a : Int), (b : Int)) ∈ coZ x.order)
theorem qV {x : Ex} (hc : checkI x = 0) : coF x = refPairs x.evs.length (coB x) := by
 obtain ⟨h1, h2, h3, h4⟩ := vI hc
 rw [coF, if_pos hc]
 refine bX (mQ h4) fun p => ?_
 obtain ⟨a, b⟩ := p
 rw [vE]
 constructor
 ·intro h
  obtain ⟨g1, g2, g3, g4⟩ := gT h4 (by omega) _ h
  dsimp only at g1 g2 g3 g4
  obtain ⟨m, rfl⟩ := zL g1
  obtain ⟨n, rfl⟩ := zL g3
  obtain ⟨e1, e2, _⟩ := uAT h4 h
  exact ⟨m, n, e1, e2, by simpa [coB] using h, rfl⟩
 ·rintro ⟨m, n, _, _, g3, g4⟩
  cases g4
  simpa [coB] using g3
def frBr (x : Ex) (a b : Nat) : Bool := !(a == b) && (x.evs.getD a default).ldB && coB x (x.from_.getD a 0).toNat b
theorem fr_ref {x : Ex} (hc : checkI x = 0) : frF x = refPairs x.evs.length (frBr x) := by
 obtain ⟨h1, h2, h3, h4⟩ := vI hc
 have hl := yQ h3
 have hcn : (coF x).Nodup := by rw [coF, if_pos hc]; exact (List.mergeSort_perm _ _).nodup_iff.2 (mQ h4)
 have hrp : (rfF x).Pairwise fun r s => r.2 ≠ s.2 := by
  rw [cB hc]
  have hlt := cC x.evs.length (isRf x)
  refine hlt.imp_of_mem fun {r s} hr hs h e => ?_
  obtain ⟨a, b, _, _, g1, rfl⟩ := vE.1 hr
  obtain ⟨c, d, _, _, g2, rfl⟩ := vE.1 hs
  dsimp only at e
  have : b = d := by omega
  subst this
  unfold isRf at g1 g2
  simp only [Bool.and_eq_true, decide_eq_true_eq] at g1 g2
  rw [yW] at h
  dsimp only at h
  omega
 rw [frF]
 refine bX (frZ_nodup hrp hcn) fun p => ?_
 rw [vE]
 unfold frZ frTo
 rw [List.take_length, List.mem_flatMap]
 constructor
 ·rintro ⟨r, hr, hp⟩
  unfold fr1 at hp
  obtain ⟨c, g1, rfl⟩ := List.mem_map.1 hp
  obtain ⟨g2, g3⟩ := List.mem_filter.1 g1
  rw [cB hc] at hr
  rw [qV hc] at g2
  obtain ⟨a, b, e1, e2, e3, rfl⟩ := vE.1 hr
  obtain ⟨c, d, f1, f2, f3, rfl⟩ := vE.1 g2
  simp only [frB, Bool.and_eq_true, beq_iff_eq, bne_iff_ne] at g3
  unfold isRf at e3
  simp only [Bool.and_eq_true, decide_eq_true_eq] at e3
  have hca : c = a := by omega
  subst hca
  refine ⟨b, d, e2, f2, ?_, rfl⟩
  unfold frBr
  rw [e3.1, e3.2, Int.toNat_natCast, f3]
  have : b ≠ d := by omega
  simp [this]
 ·rintro ⟨b, d, e2, f2, g, rfl⟩
  unfold frBr at g
  simp only [Bool.and_eq_true, Bool.not_eq_true', beq_eq_false_iff_ne] at g
  obtain ⟨⟨g1, g2⟩, g3⟩ := g
  obtain ⟨q1, q2⟩ := fM h3 e2
  obtain ⟨a, ha⟩ := zL (q1.1 g2)
  have q3 := q2 g2
  rw [ha, Int.toNat_natCast] at g3
  refine ⟨((a : Int), (b : Int)), by rw [cB hc]; exact vE.2 ⟨a, b, by omega, e2, by unfold isRf; rw [g2, ha]; simp, rfl⟩, ?_⟩
  unfold fr1
  refine List.mem_map.2 ⟨((a : Int), (d : Int)), List.mem_filter.2 ⟨by rw [qV hc]; exact vE.2 ⟨a, d, by omega, f2, g3, rfl⟩, ?_⟩, rfl⟩
  have : (d : Int) ≠ b := by omega
  simp [frB, this]
def placeFrom : List (Sl × List Int) → Int → Int
 | [], _ => -1
 | r :: o, n => if 0 ≤ atI r.2 n then atI r.2 n else placeFrom o n
theorem gZ {n : Int} : ∀ {l : List Int} {k : Nat}, n ∉ l → atFrom n l k = -1
 | [], k, _ => rfl
 | a :: l, k, h => by
  simp only [List.mem_cons, not_or] at h
  rw [atFrom, if_neg (Ne.symm h.1)]
  exact gZ h.2
theorem eH {n : Int} : ∀ {l : List Int} {k i : Nat}, l.Nodup → i < l.length → l.getD i 0 = n → atFrom n l k = ((k + i : Nat) : Int)
 | [], k, i, _, h, _ => by simp at h
 | a :: l, k, 0, _, _, h => by
  have : a = n := h
  rw [atFrom, if_pos this]; simp
 | a :: l, k, i + 1, hn, h, he => by
  have h1 : l.getD i 0 = n := he
  have h2 : i < l.length := by simpa using h
  have h3 : n ∈ l := h1 ▸ tE h2
  have h4 : a ≠ n := fun e => (List.nodup_cons.1 hn).1 (e ▸ h3)
  rw [atFrom, if_neg h4, eH (List.nodup_cons.1 hn).2 h2 h1]
  congr 1; omega
theorem pB {n : Int} : ∀ {o : List (Sl × List Int)} {r i : Nat}, r < o.length → (∀ k, k < r → n ∉ (o.getD k default).2) → (o.getD r default).2.Nodup → i < (o.getD r default).2.length → (o.getD r default).2.getD i 0 = n → placeFrom o n = i
 | [], r, i, h, _, _, _, _ => by simp at h
 | q :: o, 0, i, _, _, hn, hi, he => by
  have e : atI q.2 n = i := by
   have := eH (k := 0) hn hi he
   rw [Nat.zero_add] at this; exact this
  rw [placeFrom, e, if_pos (Int.natCast_nonneg i)]
 | q :: o, r + 1, i, h, hk, hn, hi, he => by
  have e : atI q.2 n = -1 := gZ (hk 0 (by omega))
  rw [placeFrom, e, if_neg (by omega)]
  exact pB (by simpa using h) (fun k hk' => hk (k + 1) (by omega)) hn hi he
def isCoB (x : Ex) (a b : Nat) : Bool := (x.evs.getD a default).stB && (x.evs.getD b default).stB && decide ((x.evs.getD a default).addr = (x.evs.getD b default).addr) && decide (placeFrom x.order a < placeFrom x.order b)
theorem mA {es : List Ev} {o : List (Sl × List Int)} (h : orderB es (addrsTo es) o = true) {r i a : Nat} (hr : r < o.length) (hi : i < (o.getD r default).2.length) (he : (o.getD r default).2.getD i 0 = (a : Int)) : placeFrom o a = i := by
 refine pB hr (fun k hk hm => ?_) (zC h hr) hi he
 obtain ⟨j, hj, ej⟩ := gN hm
 have e1 := (aV h hr hi he).2.2
 have e2 := (aV h (show k < o.length by omega) hj ej).2.2
 have := fD h hr (by omega) (e1.symm.trans e2)
 omega
theorem pA {es : List Ev} {o : List (Sl × List Int)} (h : orderB es (addrsTo es) o = true) {a b : Nat} (hp : ((a : Int), (b : Int)) ∈ coZ o) : placeFrom o a < placeFrom o b := by
 obtain ⟨r, i, j, hr, h2, h3, h4, h5⟩ := cL hp
 rw [mA h hr (by omega) h4, mA h hr h3 h5]
 omega
theorem bD {x : Ex} (hc : checkI x = 0) {a b : Nat} (ha : a < x.evs.length) (hb : b < x.evs.length) : coB x a b = isCoB x a b := by
 have ho := (vI hc).2.2.2
 rw [Bool.eq_iff_iff]
 unfold coB isCoB
 simp only [Bool.and_eq_true, decide_eq_true_eq]
 constructor
 ·intro h
  obtain ⟨_, _, _, g1, g2, g3⟩ := uAT ho h
  exact ⟨⟨⟨g1, g2⟩, g3⟩, pA ho h⟩
 ·rintro ⟨⟨⟨g1, g2⟩, g3⟩, g4⟩
  have hne : a ≠ b := fun e => by subst e; omega
  rcases uAS ho ha hb hne ⟨g1, g2, g3⟩ with h | h
  ·exact h
  ·have := pA ho h; omega
set_option maxHeartbeats 4000000
set_option maxRecDepth 100000
theorem placeFrom_drop (o : List (Sl × List Int)) (n : Int) (k : Nat) (h : k < o.length) : placeFrom (o.drop k) n = if 0 ≤ atI (o.getD k default).2 n then atI (o.getD k default).2 n else placeFrom (o.drop (k + 1)) n := by
 rw [List.drop_eq_getElem_cons h, placeFrom, List.getD_eq_getElem?_getD, List.getElem?_eq_getElem h]; rfl
set_option maxHeartbeats 1000000 in
theorem oV (x : Ex) (hx : x.order.length ≤ 65536) (hr : ∀ i, (x.order.getD i default).2.length ≤ 65536) (n : Int) : Pure E.P 63 [exOV x, .int .i64 n] (.int .i64 (placeFrom x.order n)) := by
 have f1 : Frozen 1 := ⟨trivial⟩
 have f2 : Frozen 2 := ⟨trivial⟩
 refine fnA Tryz.func63 Tryz.ntmps63 ?_
 refine run ?_; refine aoR fun _ => ?_
 refine run ?_; refine aoR fun _ => ?_
 refine run ?_; rotate_left
 refine uT (X := Nat) (fun k => tmL [(1, .int .i64 n), (2, .d (.pt (exRow x) 0)), (5, .int .i64 k)]) (fun _ => stL []) (fun k => k ≤ x.order.length ∧ placeFrom x.order n = placeFrom (x.order.drop k) n) (fun k => x.order.length - k) 0 ⟨Nat.zero_le _, rfl⟩ leP leP ?_
 rintro k ⟨hk, ht⟩
 have ha := lH (x.order.getD k default).2 n (by have := hr k; omega)
 by_cases hlt : k < x.order.length
 ·have hd := placeFrom_drop x.order n k hlt
  refine run ?_; refine aoR fun _ => ?_
  refine run ?_; refine cnd ?_ ?_
  refine uF fun _ => ?_; try omega
  refine run ?_; refine aoR fun _ => ?_
  refine run ?_
  apply uP; exact rfl; exact .fn _ _ _; exact rfl; exact ha
  refine run ?_; refine aoR fun _ => ?_
  refine run ?_; refine cnd ?_ ?_
  refine uF fun _ => ?_; try omega
  refine run ?_; refine aoR fun _ => ?_
  refine run ?_; rotate_left
  refine uI fun _ => ?_; try omega
  refine run ?_; refine aoR fun _ => ?_
  refine run ?_; rotate_left
  refine uI fun _ => ?_; try omega
  ·refine wG rfl ?_
   rw [ht, hd, if_pos (by assumption)]
  ·refine uV (k + 1) ⟨by omega, ?_⟩ (by omega) leP leP
   rw [ht, hd, if_neg (by assumption)]
 ·refine run ?_
  refine aoR fun _ => ?_; refine run ?_
  refine cnd ?_ ?_
  refine uF fun _ => ?_; try omega
  refine uI fun _ => ?_; try omega
  refine run ?_; refine aoR fun _ => ?_
  refine run ?_; rotate_left
  refine wG rfl ?_
  rw [ht, List.drop_eq_nil_of_le (by omega)]; rfl
theorem fE (x : Ex) (hx : x.evs.length ≤ 65536) (ho : x.order.length ≤ 65536) (hr : ∀ i, (x.order.getD i default).2.length ≤ 65536) (a b : Nat) (ha : a < x.evs.length) (hb : b < x.evs.length) : Pure E.P 42 [exOV x, .int .i64 a, .int .i64 b] (.bool (isCoB x a b)) := by
 have h1 := wO (x.evs.getD a default)
 have h2 := wO (x.evs.getD b default)
 have h3 := oV x ho hr a
 have h4 := oV x ho hr b
 refine fnA Tryz.func42 Tryz.ntmps42 ?_
 refine run ?_; refine aoR fun _ => ?_
 refine run ?_
 refine uO (E := E) ?_ (fun _ => ?_); exact rfl
 refine run ?_
 apply xD; exact rfl; exact .fn _ _ _; exact rfl; (exact h1)
 refine run ?_
 apply dpT; exact rfl
 intro hc_
 have hp_ := hc_; try simp only [nrm] at hp_
 apply vD; (exact EvM.plain rfl rfl); exact .fn _ _ _; exact vY; (exact h2)
 refine run ?_
 apply dpT; exact rfl
 intro hc_
 have hp_ := hc_; try simp only [nrm] at hp_
 apply vD; (exact EvM.plain rfl rfl); exact .fn _ _ _; exact vY; (exact h3)
 refine run ?_
 apply dpT; exact rfl
 intro hc_
 have hp_ := hc_; try simp only [nrm] at hp_
 apply vD; (exact EvM.plain rfl rfl); exact .fn _ _ _; exact vY; (exact h4)
 refine run ?_; rotate_left
 refine uU rfl ?_
 rw [Bool.eq_iff_iff]
 unfold isCoB
 simp only [Bool.and_eq_true, decide_eq_true_eq, Int.toNat_natCast]
def isFrB (x : Ex) (a b : Nat) : Bool := !(a == b) && (x.evs.getD a default).ldB && isCoB x (x.from_.getD a 0).toNat b
structure Ex.rel (x : Ex) : Prop where
 fit : x.fit
 check : checkI x = 0
theorem Ex.rel.len {x : Ex} (h : x.rel) : x.evs.length ≤ 64 := (vI h.check).1
theorem Ex.rel.from_ {x : Ex} (h : x.rel) : x.from_.length = x.evs.length := yQ (vI h.check).2.2.1
theorem Ex.rel.rows {x : Ex} (h : x.rel) (i : Nat) : (x.order.getD i default).2.length ≤ 65536 := by
 rcases Nat.lt_or_ge i x.order.length with hh | hh
 ·rw [List.getD_eq_getElem?_getD, List.getElem?_eq_getElem hh]
  exact h.fit.2 _ (List.getElem_mem hh)
 ·rw [List.getD_eq_getElem?_getD, List.getElem?_eq_none hh]
  exact Nat.zero_le _
theorem Ex.rel.ord {x : Ex} (h : x.rel) : x.order.length ≤ 65536 := by
 have h4 := (vI h.check).2.2.2
 unfold orderB at h4
 simp only [Bool.and_eq_true, decide_eq_true_eq] at h4
 have := xZ x.evs
 have := h.len
 omega
theorem Ex.rel.src {x : Ex} (h : x.rel) (a : Nat) (ha : a < x.evs.length) (hl : (x.evs.getD a default).ldB = true) : 0 ≤ x.from_.getD a 0 ∧ x.from_.getD a 0 < x.evs.length := by
 obtain ⟨u1, u2⟩ := fM (vI h.check).2.2.1 ha
 exact ⟨u1.1 hl, (u2 hl).1⟩
theorem cD {n : Nat} {f g : Nat → Nat → Bool} (h : ∀ a b, a < n → b < n → f a b = g a b) : refPairs n f = refPairs n g := by
 unfold refPairs
 rw [List.flatMap_def, List.flatMap_def]
 congr 1
 refine List.map_congr_left fun a ha => ?_
 congr 1
 exact List.filter_congr fun b hb => h a b (List.mem_range.1 ha) (List.mem_range.1 hb)
theorem fr_isB {x : Ex} (h : x.rel) {a b : Nat} (ha : a < x.evs.length) (hb : b < x.evs.length) : frBr x a b = isFrB x a b := by
 unfold frBr isFrB
 cases hl : (x.evs.getD a default).ldB with
 | false => simp
 | true =>
  obtain ⟨u1, u2⟩ := h.src a ha hl
  rw [bD h.check (by omega) hb]
theorem jF {x : Ex} (h : x.rel) : coF x = refPairs x.evs.length (isCoB x) := by
 rw [qV h.check]
 exact cD fun a b ha hb => bD h.check ha hb
theorem jD {x : Ex} (h : x.rel) : frF x = refPairs x.evs.length (isFrB x) := by
 rw [fr_ref h.check]
 exact cD fun a b ha hb => fr_isB h ha hb
def rowD (es : List Ev) (ad : List Int) (i : Nat) (l : List Int) : Bool := !(l.length == 0) && !(l.getD 0 0 != (i : Int)) && l.isPerm (wantTo es (ad.getD i 0) es.length)
def checkD (x : Ex) : Bool := decide (x.evs.length ≤ 64) && evsTo x.evs (addrsTo x.evs) x.evs.length && fromB x.evs x.from_ && decide (x.order.length = (addrsTo x.evs).length) && (List.range x.order.length).all fun i => rowD x.evs (addrsTo x.evs) i (x.order.getD i default).2
theorem sortI_perm {l m : List Int} (h : l.Perm m) (hm : m.Pairwise (· < ·)) : sortI l = m := by
 refine ((List.mergeSort_perm l _).trans h).eq_of_pairwise (le := fun a b : Int => a ≤ b) (fun a b _ _ h1 h2 => by omega) ?_ (hm.imp fun h => by omega)
 exact (List.pairwise_mergeSort (le := fun x y : Int => decide (x ≤ y)) (fun a b c h1 h2 => by simp at *; omega) (fun a b => by simp; omega) l).imp fun h => by simpa using h
theorem checkD_ok {x : Ex} (h : checkD x = true) : checkI x = 0 := by
 unfold checkD at h
 simp only [Bool.and_eq_true, decide_eq_true_eq] at h
 obtain ⟨⟨⟨⟨h1, h2⟩, h3⟩, h4⟩, h5⟩ := h
 have ho : orderB x.evs (addrsTo x.evs) x.order = true := by
  unfold orderB rowsTo
  rw [decide_eq_true h4, Bool.true_and, List.all_eq_true]
  intro i hi
  have := List.all_eq_true.1 h5 i hi
  unfold rowD at this
  unfold rowOk
  simp only [Bool.and_eq_true] at this ⊢
  refine ⟨this.1, ?_⟩
  rw [sortI_perm (List.isPerm_iff.1 this.2) (aD _ _ _)]
  simp
 unfold checkI
 rw [if_neg (by omega), if_neg (by rw [h2]; decide), if_neg (by rw [h3]; decide), if_neg (by rw [ho]; decide)]
instance evOkDec (e : Ev) : Decidable e.ok := by unfold Ev.ok Ev.wf; infer_instance
def exD (x : Ex) : Bool := checkD x && x.evs.all (fun e => decide e.ok) && decide (x.from_.length ≤ 65536) && decide (x.order.length ≤ 65536) && x.order.all fun r => decide (r.2.length ≤ 65536)
theorem exD_rel {x : Ex} (h : exD x = true) : x.rel := by
 unfold exD at h
 simp only [Bool.and_eq_true, decide_eq_true_eq, List.all_eq_true] at h
 obtain ⟨⟨⟨⟨h1, h2⟩, h3⟩, h4⟩, h5⟩ := h
 have hc := checkD_ok h1
 have hl : x.evs.length ≤ 64 := by
  unfold checkD at h1
  simp only [Bool.and_eq_true, decide_eq_true_eq] at h1
  exact h1.1.1.1.1
 exact ⟨⟨⟨by omega, h2, by omega, by omega, fun r hr => by have := h5 r hr; omega⟩, fun r hr => h5 r hr⟩, hc⟩
set_option maxRecDepth 100000
structure ShS where
 es : List Ev
 fs : List Int
 o0 : List Int
 o1 : List Int
 a : List Int
def ShS.ex (s : ShS) : Ex := ⟨default, default, default, s.es, s.fs, [(default, s.o0), (default, s.o1)]⟩
def shW (i : Nat) : Nat := (i + i / 2) % 2
def shB (addr : Int) : Ev := ⟨-1, 5, addr, 0, 0, false, false, 0, 0, false, ⟨none, 0, 0⟩, ⟨none, 0, 0⟩, ⟨none, 0, 0⟩, [], [], []⟩
def shFn (h : Int) : Ev := ⟨h, 4, 0, 0, 0, false, false, 3, 3, false, ⟨none, 0, 0⟩, ⟨none, 0, 0⟩, ⟨none, 0, 0⟩, [], [], []⟩
def shEv (h k w v : Int) (rl : Bool) (ad ct : List Int) : Ev := ⟨h, k, 4 * w, v, 0, false, rl, 0, 0, false, ⟨none, ad.length, 0⟩, ⟨none, 0, 0⟩, ⟨none, ct.length, 0⟩, ad, [], ct⟩
section
variable (K B : Nat → Int) (R : Nat → Bool)
def shAd (a : List Int) (i : Nat) : List Int := if i % 2 = 1 ∧ B (i / 2) = 2 ∧ K (i - 1) = 1 then [a.getD (i - 1) 0] else []
def shCt (a : List Int) (i : Nat) : List Int := if i % 2 = 1 ∧ B (i / 2) = 3 ∧ K (i - 1) = 1 then [a.getD (i - 1) 0] else []
def shRl (i : Nat) : Bool := decide (i % 2 = 1 ∧ B (i / 2) = 4)
def shVal (i : Nat) : Int := if K i = 2 then 1 + (i : Int) else 0
def shF (i : Nat) (s : ShS) : ShS := if i % 2 = 1 ∧ B (i / 2) = 1 then { s with es := s.es ++ [shFn (i / 2 : Nat)], fs := s.fs ++ [-1] } else s
def shO (i : Nat) (s : ShS) : ShS := { s with a := s.a.set i s.es.length, o0 := if K i = 2 ∧ shW i = 0 then s.o0 ++ [(s.es.length : Int)] else s.o0, o1 := if K i = 2 ∧ shW i = 1 then s.o1 ++ [(s.es.length : Int)] else s.o1 }
def shStep (i : Nat) (s : ShS) : ShS := let t := shO K i (shF B i s)
 { t with es := t.es ++ [shEv (i / 2 : Nat) (K i) (shW i : Nat) (shVal K i) (shRl B i) (shAd K B s.a i) (shCt K B s.a i)], fs := t.fs ++ [-1] }
def shTo : Nat → ShS
 | 0 => ⟨[shB 0, shB 4], [-1, -1], [0], [1], [0, 0, 0, 0]⟩
 | i + 1 => shStep K B i (shTo i)
def shRow (i : Nat) (s : ShS) : List Int := if shW i = 0 then s.o0 else s.o1
def shSrc (i : Nat) (s : ShS) : Nat := if R i = true ∧ 1 < (shRow i s).length then ((shRow i s).getD 1 0).toNat else shW i
def shAt (i : Nat) (s : ShS) : Nat := (s.a.getD i 0).toNat
def shRead (i : Nat) (s : ShS) : ShS := if K i = 1 then { s with fs := s.fs.set (shAt i s) (shSrc R i s), es := s.es.set (shAt i s) { s.es.getD (shAt i s) default with rval := (s.es.getD (shSrc R i s) default).val } } else s
def shRd : Nat → ShS
 | 0 => shTo K B 4
 | i + 1 => shRead K R i (shRd i)
end
def shK (k i : Nat) : Int := 1 + (k / 2 ^ i % 2 : Nat)
def shBt (b h : Nat) : Int := if h = 0 then (b % 5 : Nat) else (b / 5 % 5 : Nat)
def shR (r i : Nat) : Bool := decide (((r / 2 ^ i % 2 : Nat) : Int) = 1)
def shRdOk (s : ShS) (i : Nat) (R : Nat → Bool) : Bool := decide (s.es.length ≤ 8) && decide (s.fs.length = s.es.length) && decide (s.a.length = 4) && decide (0 ≤ s.a.getD i 0) && decide (shAt i s < s.es.length) && decide (shSrc R i s < s.es.length) && decide (0 ≤ (shRow i s).getD 1 0) && decide ((shRow i s).length ≤ 8)
def shOk (k b r : Nat) : Bool := exD (shRd (shK k) (shBt b) (shR r) 4).ex && (List.range 4).all fun i => shRdOk (shRd (shK k) (shBt b) (shR r) i) i (shR r)
def shAll (k : Nat) : Bool := (List.range 25).all fun b => (List.range 16).all fun r => shOk k b r
set_option maxRecDepth 100000
theorem sh_all0 : shAll 0 = true := by decide +kernel
theorem sh_all1 : shAll 1 = true := by decide +kernel
theorem sh_all2 : shAll 2 = true := by decide +kernel
theorem sh_all3 : shAll 3 = true := by decide +kernel
set_option maxRecDepth 100000
theorem sh_all4 : shAll 4 = true := by decide +kernel
theorem sh_all5 : shAll 5 = true := by decide +kernel
theorem sh_all6 : shAll 6 = true := by decide +kernel
theorem sh_all7 : shAll 7 = true := by decide +kernel
set_option maxRecDepth 100000
theorem sh_all8 : shAll 8 = true := by decide +kernel
theorem sh_all9 : shAll 9 = true := by decide +kernel
theorem sh_all10 : shAll 10 = true := by decide +kernel
theorem sh_all11 : shAll 11 = true := by decide +kernel
set_option maxRecDepth 100000
theorem sh_all12 : shAll 12 = true := by decide +kernel
theorem sh_all13 : shAll 13 = true := by decide +kernel
theorem sh_all14 : shAll 14 = true := by decide +kernel
theorem sh_all15 : shAll 15 = true := by decide +kernel
end Go.Proofs.YtnkocjkkefnelaaGreat
