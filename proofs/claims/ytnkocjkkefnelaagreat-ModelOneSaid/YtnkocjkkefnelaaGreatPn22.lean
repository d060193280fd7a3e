/- Parts. -/
import Derived.Test.YtnkocjkkefnelaaGreatPn6
import Derived.Test.YtnkocjkkefnelaaGreatPn8
import Derived.Test.YtnkocjkkefnelaaGreatPn9
import Derived.Test.YtnkocjkkefnelaaGreatPn19
import Derived.Test.YtnkocjkkefnelaaGreatPn20
import Derived.Test.YtnkocjkkefnelaaGreatPn21
set_option linter.unusedVariables false
set_option linter.unusedSimpArgs false
set_option maxHeartbeats 4000000
set_option maxRecDepth 100000
namespace Go.Proofs.YtnkocjkkefnelaaGreat
open Go.RowKit
def frB (r c : Int × Int) : Bool := c.1 == r.1 && c.2 != r.2
def fr1 (r : Int × Int) (co : List (Int × Int)) : List (Int × Int) := (co.filter (frB r)).map fun c => (r.2, c.2)
def frTo (rf co : List (Int × Int)) (i : Nat) : List (Int × Int) := (rf.take i).flatMap fun r => fr1 r co
def frAt (rf co : List (Int × Int)) (i : Nat) (r : Int × Int) (j : Nat) : List (Int × Int) := frTo rf co i ++ fr1 r (co.take j)
def frZ (rf co : List (Int × Int)) : List (Int × Int) := frTo rf co rf.length
theorem fG (rf co : List (Int × Int)) (i : Nat) (r : Int × Int) : frAt rf co i r 0 = frTo rf co i := by simp [frAt, fr1]
theorem cC (rf co : List (Int × Int)) (i : Nat) (h : i < rf.length) : frTo rf co (i + 1) = frTo rf co i ++ fr1 (rf.getD i default) co := by
 unfold frTo
 rw [wL rf default i h, List.flatMap_append]
 simp
theorem frAt_end (rf co : List (Int × Int)) (i : Nat) (h : i < rf.length) : frAt rf co i (rf.getD i default) co.length = frTo rf co (i + 1) := by
 rw [cC rf co i h, frAt, List.take_length]
theorem nM (rf co : List (Int × Int)) (i : Nat) (r : Int × Int) (j : Nat) (h : j < co.length) (hb : frB r (co.getD j default) = true) : frAt rf co i r (j + 1) = frAt rf co i r j ++ [(r.2, (co.getD j default).2)] := by
 unfold frAt fr1
 rw [wL co default j h, List.filter_append, List.filter_cons, if_pos hb, List.filter_nil, List.map_append, List.append_assoc]
 rfl
theorem frAt_no (rf co : List (Int × Int)) (i : Nat) (r : Int × Int) (j : Nat) (h : j < co.length) (hb : ¬ frB r (co.getD j default) = true) : frAt rf co i r (j + 1) = frAt rf co i r j := by
 unfold frAt fr1
 rw [wL co default j h, List.filter_append, List.filter_cons, if_neg hb, List.filter_nil, List.append_nil]
theorem frTo_pre (rf co : List (Int × Int)) : ∀ {a b : Nat}, a ≤ b → b ≤ rf.length → ∃ q, frTo rf co b = frTo rf co a ++ q := fun {a b} h hb => by
  induction b with
  | zero => have : a = 0 := by omega
            subst this; exact ⟨[], by simp⟩
  | succ b ih =>
    by_cases e : a = b + 1
    · subst e; exact ⟨[], by simp⟩
    · obtain ⟨r, hr⟩ := ih (by omega) (by omega)
      exact ⟨_, by rw [cC rf co b (by omega), hr, List.append_assoc]⟩
theorem fr1_pre (r : Int × Int) (co : List (Int × Int)) (j : Nat) : ∃ q, fr1 r co = fr1 r (co.take j) ++ q := by
 unfold fr1
 exact ⟨((co.drop j).filter (frB r)).map (fun c => (r.2, c.2)), by rw [← List.map_append, ← List.filter_append, List.take_append_drop]⟩
theorem frAt_in (rf co : List (Int × Int)) (i j : Nat) (hi : i < rf.length) (h : j < co.length) (hb : frB (rf.getD i default) (co.getD j default) = true) :
  ∃ q, frZ rf co = frAt rf co i (rf.getD i default) j ++ [((rf.getD i default).2, (co.getD j default).2)] ++ q := by
 obtain ⟨q1, h1⟩ := frTo_pre rf co (show i + 1 ≤ rf.length from hi) (Nat.le_refl _)
 obtain ⟨q2, h2⟩ := fr1_pre (rf.getD i default) co (j + 1)
 rw [← nM rf co i _ j h hb]
 unfold frZ
 rw [h1, cC rf co i hi, h2]
 unfold frAt
 exact ⟨q2 ++ q1, by simp only [List.append_assoc]⟩
set_option maxHeartbeats 4000000 in
theorem fr1_s (x : Ex) (hx : x.fit) (co : List (Int × Int)) (hco : co.length ≤ 1048576) : SeqW E.P 85 [] [.d (.pt (exRow x) 0), .d (.pt [pairsTV co] 0)] (pairYs (frZ (rfF x) co)) := by
 intro Y k τ J m st hm h1 h2 hnd hbig hy l0 hl0
 have hlen : (pairYs (frZ (rfF x) co)).length = (frZ (rfF x) co).length := by simp [pairYs]
 rw [hlen] at hm h1
 have hrl : (rfF x).length ≤ 1048576 := by
  unfold rfF
  split
  ·rename_i hc
   obtain ⟨h1, _, h3, _⟩ := uV hc
   have := xO h3
   have := lI x.from_ x.from_.length
   rw [yE]; omega
  ·simp
 have hrf := rf_s x hx
 generalize rfF x = rf at hm h1 hy hrl hlen hrf
 have hfz := xW
 have f9 : Frozen 9 := ⟨trivial⟩
 refine xT Tryz.func85 (by decide) rfl Tryz.ntmps85 (Nat.le_of_ble_eq_true rfl) rfl ?_
 refine uB (aoR fun _ => ?_)
 refine q33 ?_
 apply lY; assumption; exact rfl; exact .fn _ _ _; exact rfl; exact hrf; exact hfz _; exact rfl
 refine q13 ?_; refine q11 (uD (uC (uW ?_))); rotate_left
 refine vJ (X := Nat × Rows) (fun p => tmL [(0, .yl k τ), (2, .d (.pt [pairsTV co] 0)), (9, .d (pairsTV rf)), (10, .int .i64 rf.length), (11, .int .i64 p.1), (GS, .gh (frTo rf co p.1).length Y)]) (fun p => stL p.2)
  (fun p => p.1 ≤ rf.length ∧ J (frTo rf co p.1).length p.2 ∧ (st = true → (frTo rf co p.1).length < m)) (fun p => rf.length - p.1) (0, l0) ⟨Nat.zero_le _, hl0, h2⟩ leP (by repeat (first | exact fun _ _ h => h | refine le_app (hbig _ _ hl0) rfl ?_)) ?_
 rintro ⟨i, l⟩ ⟨hi, hJ, hst⟩
 dsimp only at hi hJ hst ⊢
 by_cases hlt : i < rf.length
 rotate_left
 ·have hbe : i = rf.length := by omega
  subst hbe
  have hme : (frTo rf co rf.length).length = m := by
   cases st with
   | true => have h9 := hst rfl; have h8 : (frZ rf co).length = (frTo rf co rf.length).length := rfl; omega
   | false => exact (h1 rfl).symm
  rw [hme] at hJ ⊢
  refine uB (aoR fun _ => ?_)
  refine q37 (uD (uC (uB ?_))); refine cnd ?_ ?_
  refine uN fun _ => ?_; try omega
  refine uR fun _ => ?_; try omega
  refine vU ?_
  iterate 2 refine wF ?_
  refine xR ?_; rotate_left
  exact ⟨Or.inl rfl, rfl, l, hJ, fun _ _ h => h⟩
 refine uB (aoR fun _ => ?_)
 refine q37 (uD ?_); rotate_left
 refine uC (uB ?_); refine cnd ?_ ?_
 refine uN fun _ => ?_; try omega
 refine uX ?_; rotate_left
 refine uR fun _ => ?_; try omega
 refine uC (uB (uW (uB (aoR fun _ => ?_))))
 refine q17 ?_; refine q33 ?_
 apply xQ; exact rfl
 refine q15 (uD ?_); rotate_left
 refine uC ?_
 rename_i v5
 generalize hr : rf.getD i default = r
 have hT : rf.getD (i : Int).toNat default = r := hr
 rw [hT]
 refine wC 5 (v5, 2) 2 [pairTV r] (tmL [(0, .yl k τ), (2, .d (.pt [pairsTV co] 0)), (9, .d (pairsTV rf)), (10, .int .i64 rf.length), (11, .int .i64 i), (5, .d (.pt (pairTV r) 0)), (GS, .gh (frTo rf co i).length Y)]) (stL l) rfl (by repeat' (first | exact wU | refine vD rfl (.same _) ?_ | refine vD rfl (.lo 0 0 _ rfl) ?_)) (qV (hbig _ _ hJ) (by decide) (fun j hj => by show (Store.put (Store.put _ _ _) _ _) j = _; rw [Store.put_ne _ _ hj, Store.put_ne _ _ hj]; rfl)) ?_
 refine uB (aoR fun _ => ?_)
 refine q23 ?_; refine q13 ?_; refine q11 (uD (uC (uW ?_))); rotate_left
 have hin := fun j => frAt_in rf co i j hlt
 have hnx := frAt_end rf co i hlt
 rw [hr] at hin hnx
 refine vJ (X := Nat × Rows) (fun p => tmL [(0, .yl k τ), (2, .d (.pt [pairsTV co] 0)), (9, .d (pairsTV rf)), (10, .int .i64 rf.length), (11, .int .i64 i), (5, .d (.pt (pairTV r) 0)), (15, .d (pairsTV co)), (16, .int .i64 co.length), (17, .int .i64 p.1), (GS, .gh (frAt rf co i r p.1).length Y)]) (fun p => stL p.2)
  (fun p => p.1 ≤ co.length ∧ J (frAt rf co i r p.1).length p.2 ∧ (st = true → (frAt rf co i r p.1).length < m)) (fun p => co.length - p.1) (0, l) ⟨Nat.zero_le _, by dsimp only; rw [fG]; exact hJ, by dsimp only; rw [fG]; exact hst⟩ (by dsimp only; rw [fG]; exact leP) (fun _ _ h => h) ?_
 clear hJ hst l
 rintro ⟨j, l⟩ ⟨hj, hJ, hst⟩
 dsimp only at hj hJ hst ⊢
 by_cases hlt2 : j < co.length
 rotate_left
 ·have hbe : j = co.length := by omega
  subst hbe
  rw [hnx] at hJ hst ⊢
  refine uB (aoR fun _ => ?_)
  refine q37 (uD (uC (uB ?_))); refine cnd ?_ ?_
  refine uN fun _ => ?_; try omega
  refine uR fun _ => ?_; try omega
  refine vU ?_
  iterate 2 refine wF ?_
  refine xR ?_; refine xH ?_; refine uC (aoR fun _ => ?_)
  refine q36 ?_; refine q11 (uD (uC ?_)); rotate_left
  exact ⟨(i + 1, l), ⟨show i + 1 ≤ _ by omega, hJ, hst⟩, show rf.length - (i + 1) < rf.length - i by omega, leP, fun _ _ h => h⟩
 refine uB (aoR fun _ => ?_)
 refine q37 (uD ?_); rotate_left
 refine uC (uB ?_); refine cnd ?_ ?_
 refine uN fun _ => ?_; try omega
 refine uX ?_; rotate_left
 refine uR fun _ => ?_; try omega
 refine uC (uB (uW (uB (aoR fun _ => ?_))))
 refine q17 ?_; refine q33 ?_
 apply xQ; exact rfl
 refine q15 (uD ?_); rotate_left
 refine uC ?_
 rename_i v7
 generalize hc : co.getD j default = c at hin
 have hT : co.getD (j : Int).toNat default = c := hc
 rw [hT]
 refine wC 7 (v7, 2) 2 [pairTV c] (tmL [(0, .yl k τ), (2, .d (.pt [pairsTV co] 0)), (9, .d (pairsTV rf)), (10, .int .i64 rf.length), (11, .int .i64 i), (5, .d (.pt (pairTV r) 0)), (15, .d (pairsTV co)), (16, .int .i64 co.length), (17, .int .i64 j), (7, .d (.pt (pairTV c) 0)), (GS, .gh (frAt rf co i r j).length Y)]) (stL l) rfl (by repeat' (first | exact wU | refine vD rfl (.same _) ?_ | refine vD rfl (.lo 0 0 _ rfl) ?_)) (qV (hbig _ _ hJ) (by decide) (fun j hj => by show (Store.put (Store.put _ _ _) _ _) j = _; rw [Store.put_ne _ _ hj, Store.put_ne _ _ hj]; rfl)) ?_
 by_cases hb : frB r c = true
 ·obtain ⟨q, hq⟩ := hin j hlt2 (by rw [hc]; exact hb)
  rw [hc] at hq
  obtain ⟨hlm, hY⟩ := gY h1 hy hq hst hJ
  have hlen1 : (frAt rf co i r (j + 1)).length = (frAt rf co i r j).length + 1 := by rw [nM rf co i r j hlt2 (by rw [hc]; exact hb)]; simp
  have hb1 : c.1 = r.1 ∧ c.2 ≠ r.2 := by simpa [frB] using hb
  obtain ⟨hb1, hb2⟩ := hb1
  rcases Bool.eq_false_or_eq_true (!(st && (frAt rf co i r j).length + 1 == m)) with hans | hans
  ·rw [hans] at hY
   refine uB (aoR fun _ => ?_)
   refine q32 ?_; refine q23 ?_; refine q32 ?_; refine q23 ?_; refine q46 ?_; refine q11 ?_
   apply uE; exact rfl; exact rfl
   refine uN fun _ => ?_; try omega
   refine q32 ?_
   apply uE; exact rfl; exact rfl
   refine uI ?_; refine q23 ?_
   apply uE; exact rfl; exact rfl
   refine uI ?_; refine q32 ?_
   apply uE; exact rfl; exact rfl
   refine uI ?_; refine q23 ?_
   apply uE; exact rfl; exact rfl
   refine uI ?_; refine q44 ?_; refine q4 ?_; refine q11 ?_
   apply uE; exact rfl; exact rfl
   refine yU ?_; refine uI ?_
   refine xG (fun _ => ?_); (try omega)
   refine q11 ?_
   apply uE; exact rfl; exact rfl
   refine uI ?_; refine q32 ?_
   apply uE; exact rfl; exact rfl
   refine uI ?_; refine q23 ?_
   apply uE; exact rfl; exact rfl
   refine uI ?_; refine q32 ?_
   apply uE; exact rfl; exact rfl
   refine uI ?_; refine q23 ?_
   apply uE; exact rfl; exact rfl
   refine uI ?_; refine q54 ?_
   apply uE; exact rfl; exact rfl
   refine uI ?_
   apply zK; exact rfl; exact rfl; exact rfl; exact hY; exact (fun _ _ h => h); exact hnd _; (intro l1 hl1)
   apply uE; exact rfl; exact rfl
   refine uI ?_
   apply bI; exact rfl
   refine q4 (uD (uC ?_)); refine cnd ?_ ?_; refine yU ?_; refine uI ?_; refine aM ?_
   exact vV
   refine xZ (fun hc_ => ?_); (try simp only [nrm] at hc_)
   refine uX ?_; refine xH ?_; refine uC (aoR fun _ => ?_)
   refine q36 ?_; refine q11 (uD (uC ?_)); rotate_left
   iterate 7 exact vV
   refine xZ (fun hc_ => ?_); (try simp only [nrm] at hc_)
   apply uE; exact rfl; exact rfl
   exact uG
   refine uF ?_
   apply uE; exact rfl; exact rfl
   exact uG
   refine uF ?_
   apply uE; exact rfl; exact rfl
   exact uG
   refine uF ?_
   apply uE; exact rfl; exact rfl
   exact uG
   refine uF ?_
   apply uE; exact rfl; exact rfl
   exact uG
   refine uF ?_
   apply uE; exact rfl; exact rfl
   exact uG
   refine uF ?_
   apply uE; exact rfl; exact rfl
   exact uG
   refine uF ?_
   apply xP; exact rfl
   apply aA; exact rfl
   refine uD (uC ?_); refine cnd ?_ ?_
   exact uG
   refine uF ?_; refine uX ?_; refine xH ?_; refine uC (aoR fun _ => ?_)
   refine q36 ?_; refine q11 (uD (uC ?_)); rotate_left
   iterate 4 exact vV
   refine uR fun _ => ?_; try omega
   ·refine ⟨(j + 1, l1), ⟨show j + 1 ≤ _ by omega, ?_, ?_⟩, show co.length - (j + 1) < co.length - j by omega, ?_, zQ (hnd _ _ hl1)⟩
    ·dsimp only; rw [hlen1]; exact hl1
    ·dsimp only; rw [hlen1]; exact lG hlm hans
    ·dsimp only; rw [hlen1]; exact leP
   ·exfalso
    rcases hc_ with h9 | h9
    ·cases h9
    ·exact hb2 h9
  ·rw [hans] at hY
   rw [dO hans] at hY
   refine uB (aoR fun _ => ?_)
   refine q32 ?_; refine q23 ?_; refine q32 ?_; refine q23 ?_; refine q46 ?_; refine q11 ?_
   apply uE; exact rfl; exact rfl
   refine uN fun _ => ?_; try omega
   refine q32 ?_
   apply uE; exact rfl; exact rfl
   refine uI ?_; refine q23 ?_
   apply uE; exact rfl; exact rfl
   refine uI ?_; refine q32 ?_
   apply uE; exact rfl; exact rfl
   refine uI ?_; refine q23 ?_
   apply uE; exact rfl; exact rfl
   refine uI ?_; refine q44 ?_; refine q4 ?_; refine q11 ?_
   apply uE; exact rfl; exact rfl
   refine yU ?_; refine uI ?_
   refine xG (fun _ => ?_); (try omega)
   refine q11 ?_
   apply uE; exact rfl; exact rfl
   refine uI ?_; refine q32 ?_
   apply uE; exact rfl; exact rfl
   refine uI ?_; refine q23 ?_
   apply uE; exact rfl; exact rfl
   refine uI ?_; refine q32 ?_
   apply uE; exact rfl; exact rfl
   refine uI ?_; refine q23 ?_
   apply uE; exact rfl; exact rfl
   refine uI ?_; refine q54 ?_
   apply uE; exact rfl; exact rfl
   refine uI ?_
   apply zK; exact rfl; exact rfl; exact rfl; exact hY; exact (fun _ _ h => h); exact hnd _; (intro l1 hl1)
   apply uE; exact rfl; exact rfl
   refine uI ?_
   apply bI; exact rfl
   refine q0 (uD (uC ?_)); refine cnd ?_ ?_
   refine yS (fun hc_ => ?_); (try simp only [nrm] at hc_)
   refine wE ?_; refine eQ ?_
   iterate 2 refine zN ?_
   iterate 2 refine eQ ?_
   iterate 2 refine zN ?_
   refine eQ ?_; rotate_left
   refine yT ?_
   iterate 8 exact vV
   refine xZ (fun hc_ => ?_); (try simp only [nrm] at hc_)
   apply uE; exact rfl; exact rfl
   exact uG
   refine uF ?_
   apply uE; exact rfl; exact rfl
   exact uG
   refine uF ?_
   apply uE; exact rfl; exact rfl
   exact uG
   refine uF ?_
   apply uE; exact rfl; exact rfl
   exact uG
   refine uF ?_
   apply uE; exact rfl; exact rfl
   exact uG
   refine uF ?_
   apply uE; exact rfl; exact rfl
   exact uG
   refine uF ?_
   apply uE; exact rfl; exact rfl
   exact uG
   refine uF ?_
   apply xP; exact rfl
   apply aA; exact rfl
   refine uD (uC ?_); refine cnd ?_ ?_
   exact uG
   refine uF ?_; refine uX ?_; refine xH ?_; refine uC (aoR fun _ => ?_)
   refine q36 ?_; refine q11 (uD (uC ?_)); rotate_left
   iterate 4 exact vV
   refine uR fun _ => ?_; try omega
   ·exact ⟨Or.inr rfl, rfl, l1, hl1, zQ (hnd _ _ hl1)⟩
   ·exfalso
    rcases hc_ with h9 | h9
    ·cases h9
    ·exact hb2 h9
 ·have hlen1 : (frAt rf co i r (j + 1)) = (frAt rf co i r j) := frAt_no rf co i r j hlt2 (by rw [hc]; exact hb)
  have hb1 : c.1 = r.1 → c.2 = r.2 := by simpa [frB] using hb
  refine uB (aoR fun _ => ?_)
  refine q32 ?_; refine q23 ?_; refine q32 ?_; refine q23 ?_; refine q46 ?_; refine q11 ?_
  apply uE; exact rfl; exact rfl
  refine uN fun _ => ?_; try omega
  refine q32 ?_
  apply uE; exact rfl; exact rfl
  refine uI ?_; refine q23 ?_
  apply uE; exact rfl; exact rfl
  refine uI ?_; refine q32 ?_
  apply uE; exact rfl; exact rfl
  refine uI ?_; refine q23 ?_
  apply uE; exact rfl; exact rfl
  refine uI ?_; refine q44 ?_; refine q4 ?_; refine q11 ?_
  apply uE; exact rfl; exact rfl
  refine yU ?_; refine uI ?_
  refine xG (fun _ => ?_); (try omega)
  refine xZ (fun hc_ => ?_); (try simp only [nrm] at hc_)
  apply uE; exact rfl; exact rfl
  exact uG
  refine uF ?_
  apply uE; exact rfl; exact rfl
  exact uG
  refine uF ?_
  apply uE; exact rfl; exact rfl
  exact uG
  refine uF ?_
  apply uE; exact rfl; exact rfl
  exact uG
  refine uF ?_
  apply uE; exact rfl; exact rfl
  exact uG
  refine uF ?_
  apply uE; exact rfl; exact rfl
  exact uG
  refine uF ?_
  apply uE; exact rfl; exact rfl
  exact uG
  refine uF ?_
  apply xP; exact rfl
  apply aA; exact rfl
  refine uD (uC ?_); refine cnd ?_ ?_
  exact uG
  refine uF ?_; refine uX ?_; refine xH ?_; refine uC (aoR fun _ => ?_)
  refine q36 ?_; refine q11 (uD (uC ?_)); rotate_left
  iterate 4 exact vV
  refine uR fun _ => ?_; try omega
  apply uE; exact rfl; exact rfl
  exact uG
  refine uF ?_
  apply uE; exact rfl; exact rfl
  exact uG
  refine uF ?_
  apply uE; exact rfl; exact rfl
  exact uG
  refine uF ?_
  apply uE; exact rfl; exact rfl
  exact uG
  refine uF ?_
  apply xP; exact rfl
  apply aA; exact rfl
  refine q11 ?_
  apply uE; exact rfl; exact rfl
  exact uG
  refine uF ?_
  apply uE; exact rfl; exact rfl
  exact uG
  refine uF ?_
  apply uE; exact rfl; exact rfl
  exact uG
  refine uF ?_
  apply uE; exact rfl; exact rfl
  exact uG
  refine uF ?_
  apply uE; exact rfl; exact rfl
  exact uG
  refine uF ?_
  apply uE; exact rfl; exact rfl
  exact uG
  refine uF ?_
  apply uE; exact rfl; exact rfl
  exact uG
  refine uF ?_
  apply uE; exact rfl; exact rfl
  exact uG
  refine uF ?_
  apply xP; exact rfl
  apply aA; exact rfl
  refine uD (uC ?_); refine cnd ?_ ?_
  exact uG
  refine uF ?_; refine uX ?_; refine xH ?_; refine uC (aoR fun _ => ?_)
  refine q36 ?_; refine q11 (uD (uC ?_)); rotate_left
  all_goals
   refine ⟨(j + 1, l), ⟨show j + 1 ≤ _ by omega, ?_, ?_⟩, show co.length - (j + 1) < co.length - j by omega, ?_, (fun _ _ h => h)⟩
   ·dsimp only; rw [hlen1]; exact hJ
   ·dsimp only; rw [hlen1]; exact hst
   ·dsimp only; rw [hlen1]; exact leP
def frF (x : Ex) : List (Int × Int) := sortZ (frZ (rfF x) (coF x))
theorem frZ_small {rf co : List (Int × Int)} (h1 : smallP rf) (h2 : smallP co) : smallP (frZ rf co) := fun p hp => by
 unfold frZ frTo fr1 at hp
 obtain ⟨r, hr, h3⟩ := List.mem_flatMap.1 hp
 obtain ⟨c, hc, rfl⟩ := List.mem_map.1 h3
 have a1 := h1 r (List.mem_of_mem_take hr)
 have a2 := h2 c (List.mem_filter.1 hc).1
 dsimp only
 omega
theorem nL (rf co : List (Int × Int)) : ∀ i, i ≤ rf.length → (frTo rf co i).length ≤ i * co.length
 | 0, _ => by simp [frTo]
 | i + 1, h => by
  rw [cC rf co i h, List.length_append, Nat.succ_mul]
  have := nL rf co i (by omega)
  have : (fr1 (rf.getD i default) co).length ≤ co.length := by
   unfold fr1
   rw [List.length_map]
   exact List.length_filter_le _ _
  omega
theorem smallP_nil : smallP [] := fun p hp => by cases hp
theorem rf_facts (x : Ex) : smallP (rfF x) ∧ (rfF x).length ≤ 64 := by
 unfold rfF
 split
 ·rename_i hc
  obtain ⟨h1, h2, h3, h4⟩ := uV hc
  have hfl := xO h3
  have hln := lI x.from_ x.from_.length
  exact ⟨fU (jV (fun i => by have := pX h3 i; omega) (by omega)), by rw [yE]; omega⟩
 ·exact ⟨smallP_nil, by simp⟩
theorem co_facts (x : Ex) : smallP (coF x) ∧ (coF x).length ≤ 262144 := by
 unfold coF
 split
 ·rename_i hc
  obtain ⟨h1, h2, h3, h4⟩ := uV hc
  exact ⟨fU (fJ h4 (by omega)), by rw [yE]; exact qA hc⟩
 ·exact ⟨smallP_nil, by simp⟩
set_option maxHeartbeats 4000000 in
theorem fr_s (x : Ex) (hx : x.fit) : Own E.P 57 [exOV x] 2 ((frF x).map pairO') := by
 obtain ⟨a1, a2⟩ := rf_facts x
 obtain ⟨b1, b2⟩ := co_facts x
 have hsm := frZ_small a1 b1
 have hln : (frZ (rfF x) (coF x)).length ≤ 1073741824 := by
  have := nL (rfF x) (coF x) (rfF x).length (Nat.le_refl _)
  have h9 : (rfF x).length * (coF x).length ≤ 64 * 262144 := Nat.mul_le_mul a2 b2
  unfold frZ
  omega
 have hfr := fr1_s x hx (coF x) (by omega)
 have hco := co_s x hx
 unfold frF
 have hfz := xW
 have f5 : Frozen 5 := ⟨trivial⟩
 refine fnA Tryz.func57 Tryz.ntmps57 ?_
 refine uB (aoR fun _ => ?_)
 refine q40 ?_; refine q51 (uD ?_); rotate_left
 refine uC ?_
 rename_i v0
 refine wC 1 (v0, 0) 3 [exRow x] (tmL [(1, .d (.pt (exRow x) 0))]) (stL []) rfl (vD rfl (.lo 0 0 _ rfl) wU) (by repeat' (first | exact wU | exact xN | (refine vD rfl (vN ?_) ?_; (first | rfl | (simp; done))) | refine vD rfl (.same _) ?_ | refine vR (by decide) rfl (.same _) ?_)) ?_
 refine uB (aoR fun _ => ?_)
 refine q33 ?_
 apply lY; assumption; exact rfl; exact .fn _ _ _; exact rfl; exact hco; exact hfz _; exact rfl
 apply xQ; exact rfl
 refine q15 (uD ?_); rotate_left
 refine uC ?_
 rename_i v1
 refine wC 3 (v1, 2) 1 [[pairsTV (coF x)]] (tmL [(1, .d (.pt (exRow x) 0)), (3, .d (.pt [pairsTV (coF x)] 0))]) (stL []) rfl (by repeat' (first | exact wU | refine vD rfl (.same _) ?_ | refine vD rfl (.lo 0 0 _ rfl) ?_)) (by repeat' (first | exact wU | exact xN | (refine vD rfl (vN ?_) ?_; (first | rfl | (simp; done))) | refine vD rfl (.same _) ?_ | refine vR (by decide) rfl (.same _) ?_)) ?_
 refine uB (aoR fun _ => ?_)
 apply wY; exact rfl; exact rfl
 apply gH; exact rfl; exact .fn _ _ _; exact rfl; exact gK (.fn _ _ _) _ hsm hln hfr
 apply kT; exact rfl; exact rfl
 refine uD (uC ?_); refine wE ?_; rotate_left
 exact wR (d := 2) rfl rfl rfl rfl
theorem eX (zs : List Int) : ∀ k, (rfZ zs k).Nodup
 | 0 => by simp [rfZ]
 | k + 1 => by
  by_cases h : 0 ≤ zs.getD k 0
  ·rw [bU h, List.nodup_append]
   refine ⟨eX zs k, by simp, fun p hp q hq e => ?_⟩
   simp only [List.mem_singleton] at hq
   subst hq
   subst e
   obtain ⟨n, h1, _, _, h4⟩ := pS.1 hp
   omega
  ·rw [iA h]; exact eX zs k
def isRf (x : Ex) (a b : Nat) : Bool := (x.evs.getD b default).ldB && decide (x.from_.getD b 0 = (a : Int))
theorem dZ {es : List Ev} {fs : List Int} (h : fromB es fs = true) {k : Nat} (hk : k < es.length) : ((es.getD k default).ldB = true ↔ 0 ≤ fs.getD k 0) ∧ ((es.getD k default).ldB = true → fs.getD k 0 < es.length ∧ fs.getD k 0 ≠ k ∧ (es.getD (fs.getD k 0).toNat default).stB = true ∧ (es.getD (fs.getD k 0).toNat default).addr = (es.getD k default).addr) := by
 have h1 := gM h (k := k) (by rw [xO h]; exact hk)
 unfold fromOk at h1
 cases hl : (es.getD k default).ldB with
 | false =>
  rw [hl] at h1
  simp only [Bool.not_false, Bool.true_and, Bool.false_and, Bool.or_false, beq_iff_eq] at h1
  exact ⟨⟨fun e => (by cases e), fun e => (by omega)⟩, fun e => (by cases e)⟩
 | true =>
  rw [hl] at h1
  simp only [Bool.not_true, Bool.false_and, Bool.false_or, Bool.true_and, Bool.and_eq_true, Bool.not_eq_true', beq_eq_false_iff_ne, decide_eq_false_iff_not] at h1
  obtain ⟨⟨⟨a1, a2⟩, a3⟩, a4⟩ := h1
  unfold srcOk at a4
  simp only [Bool.and_eq_true] at a4
  exact ⟨⟨fun _ => (by omega), fun _ => rfl⟩, fun _ => ⟨by omega, a1, a4.1.1, by simpa using a4.1.2⟩⟩
theorem iV {l : List Int} (h : l.Nodup) : ∀ i, i ≤ l.length → (coIn l i).Nodup
 | 0, _ => by simp [coIn]
 | i + 1, hi => by
  rw [zW, List.nodup_append]
  refine ⟨iV h i (by omega), ?_, fun p hp q hq e => ?_⟩
  ·refine List.Pairwise.map _ (R := (· ≠ ·)) (fun a b hab e => hab (by simpa using e)) (List.Pairwise.sublist (List.drop_sublist _ _) h)
  ·subst e
   obtain ⟨b, _, rfl⟩ := List.mem_map.1 hq
   unfold coIn at hp
   obtain ⟨j, h1, h2⟩ := List.mem_flatMap.1 hp
   obtain ⟨c, _, h4⟩ := List.mem_map.1 h2
   have hj := List.mem_range.1 h1
   have := iG h (i := j) (j := i) (by omega) (by omega) (by simpa using congrArg Prod.fst h4)
   omega
theorem kL {es : List Ev} {o : List (Sl × List Int)} (h : orderB es (addrsTo es) o = true) : (coZ o).Nodup := by
 unfold coZ coTo
 rw [List.take_length]
 unfold List.Nodup
 rw [List.pairwise_flatMap]
 refine ⟨fun l hl => ?_, ?_⟩
 ·obtain ⟨r, hr, e⟩ := List.getElem_of_mem hl
  have := zS h hr
  rw [List.getD_eq_getElem?_getD, List.getElem?_eq_getElem hr, Option.getD_some, e] at this
  exact iV this _ (Nat.le_refl _)
 ·rw [List.pairwise_iff_getElem]
  intro i j hi hj hij p hp q hq e
  subst e
  have e1 := (iW hp (Nat.le_refl _)).1
  have e2 := (iW hq (Nat.le_refl _)).1
  have g1 : o[i] = o.getD i default := by rw [List.getD_eq_getElem?_getD, List.getElem?_eq_getElem hi]; rfl
  have g2 : o[j] = o.getD j default := by rw [List.getD_eq_getElem?_getD, List.getElem?_eq_getElem hj]; rfl
  rw [g1] at e1
  rw [g2] at e2
  obtain ⟨a, ha, ea⟩ := fB e1
  obtain ⟨b, hb, eb⟩ := fB e2
  have hp0 := lD ((wT h hi).1 e1)
  have r1 := aU h hi ha (a := p.1.toNat) (by rw [ea]; omega)
  have r2 := aU h hj hb (a := p.1.toNat) (by rw [eb]; omega)
  have := gZ h hi hj (r1.2.2.symm.trans r2.2.2)
  omega
theorem fr1_nodup {co : List (Int × Int)} (h : co.Nodup) (r : Int × Int) : (fr1 r co).Nodup := by
 unfold fr1
 refine List.Pairwise.map _ (R := fun c d => c ≠ d ∧ c.1 = r.1 ∧ d.1 = r.1) (fun c d hcd e => hcd.1 (Prod.ext (by rw [hcd.2.1, hcd.2.2]) (by simpa using e))) ?_
 refine (List.Pairwise.filter _ h).imp_of_mem fun {c d} hc hd hne => ?_
 have h1 := (List.mem_filter.1 hc).2
 have h2 := (List.mem_filter.1 hd).2
 simp only [frB, Bool.and_eq_true, beq_iff_eq] at h1 h2
 exact ⟨hne, h1.1, h2.1⟩
theorem frZ_nodup {rf co : List (Int × Int)} (hr : rf.Pairwise fun r s => r.2 ≠ s.2) (hc : co.Nodup) : (frZ rf co).Nodup := by
 unfold frZ frTo
 rw [List.take_length]
 unfold List.Nodup
 rw [List.pairwise_flatMap]
 refine ⟨fun r _ => fr1_nodup hc r, hr.imp fun {r s} hrs p hp q hq e => ?_⟩
 subst e
 unfold fr1 at hp hq
 obtain ⟨c, _, rfl⟩ := List.mem_map.1 hp
 obtain ⟨d, _, h2⟩ := List.mem_map.1 hq
 exact hrs (by simpa using (congrArg Prod.fst h2).symm)
theorem aV {x : Ex} (hc : checkI x = 0) : rfF x = refPairs x.evs.length (isRf x) := by
 obtain ⟨h1, h2, h3, h4⟩ := uV hc
 have hl := xO h3
 rw [rfF, if_pos hc]
 refine aS (eX _ _) fun p => ?_
 obtain ⟨a, b⟩ := p
 rw [pS, uP]
 constructor
 ·rintro ⟨n, g1, g2, rfl, rfl⟩
  obtain ⟨e1, e2⟩ := dZ h3 (k := n) (by omega)
  obtain ⟨m, hm⟩ := yR g2
  have := e2 (e1.2 g2)
  exact ⟨m, n, by omega, by omega, by unfold isRf; rw [e1.2 g2, hm]; simp, by rw [hm]⟩
 ·rintro ⟨m, n, g1, g2, g3, g4⟩
  unfold isRf at g3
  simp only [Bool.and_eq_true, decide_eq_true_eq] at g3
  cases g4
  exact ⟨n, by omega, ((dZ h3 g2).1.1 g3.1), g3.2.symm, rfl⟩
def coB (x : Ex) (a b : Nat) : Bool := decide (((a : Int), (b : Int)) ∈ coZ x.order)
theorem oR {x : Ex} (hc : checkI x = 0) : coF x = refPairs x.evs.length (coB x) := by
 obtain ⟨h1, h2, h3, h4⟩ := uV hc
 rw [coF, if_pos hc]
 refine aS (kL h4) fun p => ?_
 obtain ⟨a, b⟩ := p
 rw [uP]
 constructor
 ·intro h
  obtain ⟨g1, g2, g3, g4⟩ := fJ h4 (by omega) _ h
  dsimp only at g1 g2 g3 g4
  obtain ⟨m, rfl⟩ := yR g1
  obtain ⟨n, rfl⟩ := yR g3
  obtain ⟨e1, e2, _⟩ := sJ h4 h
  exact ⟨m, n, e1, e2, by simpa [coB] using h, rfl⟩
 ·rintro ⟨m, n, _, _, g3, g4⟩
  cases g4
  simpa [coB] using g3
def frBr (x : Ex) (a b : Nat) : Bool := !(a == b) && (x.evs.getD a default).ldB && coB x (x.from_.getD a 0).toNat b
theorem fr_ref {x : Ex} (hc : checkI x = 0) : frF x = refPairs x.evs.length (frBr x) := by
 obtain ⟨h1, h2, h3, h4⟩ := uV hc
 have hl := xO h3
 have hcn : (coF x).Nodup := by rw [coF, if_pos hc]; exact (List.mergeSort_perm _ _).nodup_iff.2 (kL h4)
 have hrp : (rfF x).Pairwise fun r s => r.2 ≠ s.2 := by
  rw [aV hc]
  have hlt := aW x.evs.length (isRf x)
  refine hlt.imp_of_mem fun {r s} hr hs h e => ?_
  obtain ⟨a, b, _, _, g1, rfl⟩ := uP.1 hr
  obtain ⟨c, d, _, _, g2, rfl⟩ := uP.1 hs
  dsimp only at e
  have : b = d := by omega
  subst this
  unfold isRf at g1 g2
  simp only [Bool.and_eq_true, decide_eq_true_eq] at g1 g2
  rw [yG] at h
  dsimp only at h
  omega
 rw [frF]
 refine aS (frZ_nodup hrp hcn) fun p => ?_
 rw [uP]
 unfold frZ frTo
 rw [List.take_length, List.mem_flatMap]
 constructor
 ·rintro ⟨r, hr, hp⟩
  unfold fr1 at hp
  obtain ⟨c, g1, rfl⟩ := List.mem_map.1 hp
  obtain ⟨g2, g3⟩ := List.mem_filter.1 g1
  rw [aV hc] at hr
  rw [oR hc] at g2
  obtain ⟨a, b, e1, e2, e3, rfl⟩ := uP.1 hr
  obtain ⟨c, d, f1, f2, f3, rfl⟩ := uP.1 g2
  simp only [frB, Bool.and_eq_true, beq_iff_eq, bne_iff_ne] at g3
  unfold isRf at e3
  simp only [Bool.and_eq_true, decide_eq_true_eq] at e3
  have hca : c = a := by omega
  subst hca
  refine ⟨b, d, e2, f2, ?_, rfl⟩
  unfold frBr
  rw [e3.1, e3.2, Int.toNat_natCast, f3]
  have : b ≠ d := by omega
  simp [this]
 ·rintro ⟨b, d, e2, f2, g, rfl⟩
  unfold frBr at g
  simp only [Bool.and_eq_true, Bool.not_eq_true', beq_eq_false_iff_ne] at g
  obtain ⟨⟨g1, g2⟩, g3⟩ := g
  obtain ⟨q1, q2⟩ := dZ h3 e2
  obtain ⟨a, ha⟩ := yR (q1.1 g2)
  have q3 := q2 g2
  rw [ha, Int.toNat_natCast] at g3
  refine ⟨((a : Int), (b : Int)), by rw [aV hc]; exact uP.2 ⟨a, b, by omega, e2, by unfold isRf; rw [g2, ha]; simp, rfl⟩, ?_⟩
  unfold fr1
  refine List.mem_map.2 ⟨((a : Int), (d : Int)), List.mem_filter.2 ⟨by rw [oR hc]; exact uP.2 ⟨a, d, by omega, f2, g3, rfl⟩, ?_⟩, rfl⟩
  have : (d : Int) ≠ b := by omega
  simp [frB, this]
def placeFrom : List (Sl × List Int) → Int → Int
 | [], _ => -1
 | r :: o, n => if 0 ≤ atI r.2 n then atI r.2 n else placeFrom o n
theorem fM {n : Int} : ∀ {l : List Int} {k : Nat}, n ∉ l → atFrom n l k = -1
 | [], k, _ => rfl
 | a :: l, k, h => by
  simp only [List.mem_cons, not_or] at h
  rw [atFrom, if_neg (Ne.symm h.1)]
  exact fM h.2
theorem dA {n : Int} : ∀ {l : List Int} {k i : Nat}, l.Nodup → i < l.length → l.getD i 0 = n → atFrom n l k = ((k + i : Nat) : Int)
 | [], k, i, _, h, _ => by simp at h
 | a :: l, k, 0, _, _, h => by
  have : a = n := h
  rw [atFrom, if_pos this]; simp
 | a :: l, k, i + 1, hn, h, he => by
  have h1 : l.getD i 0 = n := he
  have h2 : i < l.length := by simpa using h
  have h3 : n ∈ l := h1 ▸ rC h2
  have h4 : a ≠ n := fun e => (List.nodup_cons.1 hn).1 (e ▸ h3)
  rw [atFrom, if_neg h4, dA (List.nodup_cons.1 hn).2 h2 h1]
  congr 1; omega
theorem mV {n : Int} : ∀ {o : List (Sl × List Int)} {r i : Nat}, r < o.length → (∀ k, k < r → n ∉ (o.getD k default).2) → (o.getD r default).2.Nodup → i < (o.getD r default).2.length → (o.getD r default).2.getD i 0 = n → placeFrom o n = i
 | [], r, i, h, _, _, _, _ => by simp at h
 | q :: o, 0, i, _, _, hn, hi, he => by
  have e : atI q.2 n = i := by
   have := dA (k := 0) hn hi he
   rw [Nat.zero_add] at this; exact this
  rw [placeFrom, e, if_pos (Int.natCast_nonneg i)]
 | q :: o, r + 1, i, h, hk, hn, hi, he => by
  have e : atI q.2 n = -1 := fM (hk 0 (by omega))
  rw [placeFrom, e, if_neg (by omega)]
  exact mV (by simpa using h) (fun k hk' => hk (k + 1) (by omega)) hn hi he
def isCoB (x : Ex) (a b : Nat) : Bool := (x.evs.getD a default).stB && (x.evs.getD b default).stB && decide ((x.evs.getD a default).addr = (x.evs.getD b default).addr) && decide (placeFrom x.order a < placeFrom x.order b)
theorem yL {es : List Ev} {o : List (Sl × List Int)} (h : orderB es (addrsTo es) o = true) {r i a : Nat} (hr : r < o.length) (hi : i < (o.getD r default).2.length) (he : (o.getD r default).2.getD i 0 = (a : Int)) : placeFrom o a = i := by
 refine mV hr (fun k hk hm => ?_) (zS h hr) hi he
 obtain ⟨j, hj, ej⟩ := fB hm
 have e1 := (aU h hr hi he).2.2
 have e2 := (aU h (show k < o.length by omega) hj ej).2.2
 have := gZ h hr (by omega) (e1.symm.trans e2)
 omega
theorem mU {es : List Ev} {o : List (Sl × List Int)} (h : orderB es (addrsTo es) o = true) {a b : Nat} (hp : ((a : Int), (b : Int)) ∈ coZ o) : placeFrom o a < placeFrom o b := by
 obtain ⟨r, i, j, hr, h2, h3, h4, h5⟩ := eM hp
 rw [yL h hr (by omega) h4, yL h hr h3 h5]
 omega
theorem fI {x : Ex} (hc : checkI x = 0) {a b : Nat} (ha : a < x.evs.length) (hb : b < x.evs.length) : coB x a b = isCoB x a b := by
 have ho := (uV hc).2.2.2
 rw [Bool.eq_iff_iff]
 unfold coB isCoB
 simp only [Bool.and_eq_true, decide_eq_true_eq]
 constructor
 ·intro h
  obtain ⟨_, _, _, g1, g2, g3⟩ := sJ ho h
  exact ⟨⟨⟨g1, g2⟩, g3⟩, mU ho h⟩
 ·rintro ⟨⟨⟨g1, g2⟩, g3⟩, g4⟩
  have hne : a ≠ b := fun e => by subst e; omega
  rcases co_or ho ha hb hne ⟨g1, g2, g3⟩ with h | h
  ·exact h
  ·have := mU ho h; omega
set_option maxHeartbeats 4000000
set_option maxRecDepth 100000
def isFrB (x : Ex) (a b : Nat) : Bool := !(a == b) && (x.evs.getD a default).ldB && isCoB x (x.from_.getD a 0).toNat b
structure Ex.rel (x : Ex) : Prop where
 fit : x.fit
 check : checkI x = 0
theorem Ex.rel.len {x : Ex} (h : x.rel) : x.evs.length ≤ 64 := (uV h.check).1
theorem Ex.rel.from_ {x : Ex} (h : x.rel) : x.from_.length = x.evs.length := xO (uV h.check).2.2.1
theorem Ex.rel.rows {x : Ex} (h : x.rel) (i : Nat) : (x.order.getD i default).2.length ≤ 65536 := by
 rcases Nat.lt_or_ge i x.order.length with hh | hh
 ·rw [List.getD_eq_getElem?_getD, List.getElem?_eq_getElem hh]
  exact h.fit.2 _ (List.getElem_mem hh)
 ·rw [List.getD_eq_getElem?_getD, List.getElem?_eq_none hh]
  exact Nat.zero_le _
theorem Ex.rel.ord {x : Ex} (h : x.rel) : x.order.length ≤ 65536 := by
 have h4 := (uV h.check).2.2.2
 unfold orderB at h4
 simp only [Bool.and_eq_true, decide_eq_true_eq] at h4
 have := yB x.evs
 have := h.len
 omega
theorem Ex.rel.src {x : Ex} (h : x.rel) (a : Nat) (ha : a < x.evs.length) (hl : (x.evs.getD a default).ldB = true) : 0 ≤ x.from_.getD a 0 ∧ x.from_.getD a 0 < x.evs.length := by
 obtain ⟨u1, u2⟩ := dZ (uV h.check).2.2.1 ha
 exact ⟨u1.1 hl, (u2 hl).1⟩
theorem aX {n : Nat} {f g : Nat → Nat → Bool} (h : ∀ a b, a < n → b < n → f a b = g a b) : refPairs n f = refPairs n g := by
 unfold refPairs
 rw [List.flatMap_def, List.flatMap_def]
 congr 1
 refine List.map_congr_left fun a ha => ?_
 congr 1
 exact List.filter_congr fun b hb => h a b (List.mem_range.1 ha) (List.mem_range.1 hb)
theorem fr_isB {x : Ex} (h : x.rel) {a b : Nat} (ha : a < x.evs.length) (hb : b < x.evs.length) : frBr x a b = isFrB x a b := by
 unfold frBr isFrB
 cases hl : (x.evs.getD a default).ldB with
 | false => simp
 | true =>
  obtain ⟨u1, u2⟩ := h.src a ha hl
  rw [fI h.check (by omega) hb]
theorem gP {x : Ex} (h : x.rel) : coF x = refPairs x.evs.length (isCoB x) := by
 rw [oR h.check]
 exact aX fun a b ha hb => fI h.check ha hb
theorem gN {x : Ex} (h : x.rel) : frF x = refPairs x.evs.length (isFrB x) := by
 rw [fr_ref h.check]
 exact aX fun a b ha hb => fr_isB h ha hb
def accB (e : Ev) : Bool := decide (0 ≤ e.hart) && !decide (e.kind = 4)
def pairOf (x : Ex) (a b : Nat) : Bool := accB (x.evs.getD a default) && accB (x.evs.getD b default) && decide (a < b) && decide ((x.evs.getD a default).hart = (x.evs.getD b default).hart)
def oneB (e f : Ev) : Bool := decide (e.addr = f.addr)
def someB (a b : Nat) (f : Nat → Bool) : Bool := (List.range b).any fun n => decide (a < n) && f n
def inB (s : Int) (e : Ev) : Bool := (decide (s = 1) || decide (s = 3)) && e.stB || (decide (s = 2) || decide (s = 3)) && e.ldB
def strongB (e : Ev) : Bool := (e.aq || e.rl) && (decide (e.kind = 3) || e.rsv)
def hasB (l : List Int) (a : Nat) : Bool := decide (0 ≤ atI l a)
def pairTo (es : List Ev) (f : Ev) : Nat → Int
 | 0 => -1
 | k + 1 =>
  if (es.getD k default).hart = f.hart then
   if (es.getD k default).rsv = true then (if (es.getD k default).kind = 2 then -1 else if (es.getD k default).addr = f.addr then (k : Int) else -1)
   else pairTo es f k
  else -1
def pairedI (x : Ex) (b : Nat) : Int := if (x.evs.getD b default).kind = 2 ∧ (x.evs.getD b default).rsv = true then pairTo x.evs (x.evs.getD b default) b else -1
def rule2 (x : Ex) (a b : Nat) : Bool := (x.evs.getD a default).ldB && (x.evs.getD b default).ldB && oneB (x.evs.getD a default) (x.evs.getD b default) && !decide (x.from_.getD a 0 = x.from_.getD b 0) && !someB a b (fun n => (x.evs.getD n default).stB && decide ((x.evs.getD n default).addr = (x.evs.getD a default).addr))
def rule3 (x : Ex) (a b : Nat) : Bool := (decide ((x.evs.getD a default).kind = 3) || decide ((x.evs.getD a default).kind = 2) && (x.evs.getD a default).rsv) && decide (x.from_.getD b 0 = (a : Int))
def hit4 (x : Ex) (a b n : Nat) : Bool := decide ((x.evs.getD n default).kind = 4) && inB (x.evs.getD n default).pred (x.evs.getD a default) && inB (x.evs.getD n default).succ (x.evs.getD b default)
def hit12 (x : Ex) (a b n : Nat) : Bool := (x.evs.getD n default).stB && decide (x.from_.getD b 0 = (n : Int)) && (hasB (x.evs.getD n default).addrs a || hasB (x.evs.getD n default).datas a)
def hit13 (x : Ex) (a n : Nat) : Bool := hasB (x.evs.getD n default).addrs a
def ruleR (x : Ex) (r : Int) (a b : Nat) : Bool :=
 if r = 1 then (x.evs.getD b default).stB && oneB (x.evs.getD a default) (x.evs.getD b default)
 else if r = 2 then rule2 x a b
 else if r = 3 then rule3 x a b
 else if r = 4 then someB a b (hit4 x a b)
 else if r = 5 then (x.evs.getD a default).aq
 else if r = 6 then (x.evs.getD b default).rl
 else if r = 7 then strongB (x.evs.getD a default) && strongB (x.evs.getD b default)
 else if r = 8 then decide (pairedI x b = (a : Int))
 else if r = 9 then hasB (x.evs.getD b default).addrs a
 else if r = 10 then hasB (x.evs.getD b default).datas a
 else if r = 11 then (x.evs.getD b default).stB && hasB (x.evs.getD b default).ctrls a
 else if r = 12 then (x.evs.getD b default).ldB && someB a b (hit12 x a b)
 else if r = 13 then (x.evs.getD b default).stB && someB a b (hit13 x a)
 else false
def ruleB (x : Ex) (r : Int) (a b : Nat) : Bool := pairOf x a b && ruleR x r a b
def rs13 : List Int := [1, 2, 3, 4, 5, 6, 7, 8, 9, 10, 11, 12, 13]
def heldL (x : Ex) (a b : Nat) : List Int := rs13.filter fun r => ruleR x r a b
def isPpo (x : Ex) (a b : Nat) : Bool := rs13.any fun r => ruleB x r a b
theorem kA {x : Ex} {a b : Nat} (h : pairOf x a b = true) : isPo x a b = true := by
 unfold pairOf accB at h
 unfold isPo
 simp only [Bool.and_eq_true, decide_eq_true_eq] at h ⊢
 exact ⟨⟨h.1.2, h.1.1.1.1⟩, h.2⟩
theorem nH (x : Ex) (a b : Nat) : isPpo x a b = (pairOf x a b && decide (0 < (heldL x a b).length)) := by
 unfold isPpo heldL ruleB
 cases pairOf x a b with
 | false => simp
 | true =>
  simp only [Bool.true_and]
  rw [Bool.eq_iff_iff, List.any_eq_true, decide_eq_true_eq]
  constructor
  ·rintro ⟨r, h1, h2⟩
   exact List.length_pos_iff.2 (List.ne_nil_of_mem (List.mem_filter.2 ⟨h1, h2⟩))
  ·intro h
   obtain ⟨r, hr⟩ := List.exists_mem_of_length_pos h
   exact ⟨r, (List.mem_filter.1 hr).1, (List.mem_filter.1 hr).2⟩
theorem eE {α β : Type} {f g : α → List β} : ∀ {l : List α}, (∀ a ∈ l, f a = g a) → l.flatMap f = l.flatMap g
 | [], _ => rfl
 | a :: l, h => by rw [List.flatMap_cons, List.flatMap_cons, h a (by simp), eE fun b hb => h b (by simp [hb])]
theorem filter_refPairs (n : Nat) (f g : Nat → Nat → Bool) (h : Int × Int → Bool) (hh : ∀ a b : Nat, a < n → b < n → f a b = true → h ((a : Int), (b : Int)) = g a b) (hg : ∀ a b, g a b = true → f a b = true) : (refPairs n f).filter h = refPairs n g := by
 unfold refPairs
 rw [List.filter_flatMap]
 refine eE fun a ha => ?_
 rw [List.filter_map]
 refine congrArg _ ?_
 rw [List.filter_filter]
 refine List.filter_congr fun b hb => ?_
 have ha := List.mem_range.1 ha
 have hb := List.mem_range.1 hb
 cases hf : f a b with
 | false =>
  cases hq : g a b with
  | false => simp
  | true => rw [hg a b hq] at hf; cases hf
 | true => simp [hh a b ha hb hf]
theorem ppo_list (x : Ex) : (refPairs x.evs.length (isPo x)).filter (fun p => pairOf x p.1.toNat p.2.toNat && decide (0 < (heldL x p.1.toNat p.2.toNat).length)) = refPairs x.evs.length (isPpo x) :=
 filter_refPairs _ _ _ _ (fun a b _ _ _ => by rw [nH]; simp only [Int.toNat_natCast]) fun a b h => by
  rw [nH] at h
  simp only [Bool.and_eq_true] at h
  exact kA h.1
theorem gW {a b : Nat} {f : Nat → Bool} (h : b ≤ a + 1) : someB a b f = false := by
 unfold someB
 rw [List.any_eq_false]
 intro n hn
 have := List.mem_range.1 hn
 rw [show decide (a < n) = false by simp; omega]; simp
theorem someB_succ {a b : Nat} {f : Nat → Bool} (h : a < b) : someB a (b + 1) f = (someB a b f || f b) := by
 unfold someB
 rw [List.range_succ, List.any_append]
 simp [h]
theorem jT {a b n : Nat} {f : Nat → Bool} (h1 : a < n) (h2 : n < b) (h : f n = true) : someB a b f = true := by
 unfold someB
 exact List.any_eq_true.2 ⟨n, List.mem_range.2 h2, by simp [h1, h]⟩
def pairTP (es : List Ev) (f : Ev) : Nat → Int × Bool
 | 0 => (0, false)
 | k + 1 =>
  if (es.getD k default).hart = f.hart then
   if (es.getD k default).rsv = true then ((k : Int), decide ((es.getD k default).kind = 1) && decide ((es.getD k default).addr = f.addr))
   else pairTP es f k
  else (0, false)
def pairedZ (x : Ex) (b : Nat) : Int × Bool := if (x.evs.getD b default).kind = 2 ∧ (x.evs.getD b default).rsv = true then pairTP x.evs (x.evs.getD b default) b else (0, false)
theorem jZ {es : List Ev} {f : Ev} (h : ∀ i, (es.getD i default).rsv = true → (es.getD i default).kind = 1 ∨ (es.getD i default).kind = 2) : ∀ k, (pairTP es f k).2 = decide (0 ≤ pairTo es f k) ∧ ((pairTP es f k).2 = true → (pairTP es f k).1 = pairTo es f k)
 | 0 => by simp [pairTP, pairTo]
 | k + 1 => by
  have ih := jZ (f := f) h k
  have hq := h k
  unfold pairTP pairTo
  generalize es.getD k default = g at hq ⊢
  by_cases h1 : g.hart = f.hart
  ·rw [if_pos h1, if_pos h1]
   by_cases h2 : g.rsv = true
   ·rw [if_pos h2, if_pos h2]
    rcases hq h2 with h3 | h3
    ·rw [h3]
     by_cases h4 : g.addr = f.addr
     ·rw [if_neg (by decide), if_pos h4]; simp [h4]
     ·rw [if_neg (by decide), if_neg h4]; simp [h4]
    ·rw [h3]; simp
   ·rw [if_neg h2, if_neg h2]; exact ih
  ·rw [if_neg h1, if_neg h1]; simp
theorem iD {x : Ex} (h : ∀ i, (x.evs.getD i default).rsv = true → (x.evs.getD i default).kind = 1 ∨ (x.evs.getD i default).kind = 2) (b : Nat) : (pairedZ x b).2 = decide (0 ≤ pairedI x b) ∧ ((pairedZ x b).2 = true → (pairedZ x b).1 = pairedI x b) := by
 unfold pairedZ pairedI
 by_cases h1 : (x.evs.getD b default).kind = 2 ∧ (x.evs.getD b default).rsv = true
 ·rw [if_pos h1, if_pos h1]; exact jZ h b
 ·rw [if_neg h1, if_neg h1]; simp
theorem pairedZ_rule {x : Ex} (h : ∀ i, (x.evs.getD i default).rsv = true → (x.evs.getD i default).kind = 1 ∨ (x.evs.getD i default).kind = 2) (a b : Nat) : ((pairedZ x b).2 && decide ((pairedZ x b).1 = (a : Int))) = decide (pairedI x b = (a : Int)) := by
 obtain ⟨h1, h2⟩ := iD h b
 cases h3 : (pairedZ x b).2 with
 | true => rw [h2 h3]; simp
 | false =>
  rw [h3] at h1
  have : ¬ 0 ≤ pairedI x b := by simpa using h1.symm
  simp only [Bool.false_and]
  exact (decide_eq_false (by omega)).symm
theorem held_eq (x : Ex) (a b : Nat) : ((List.range 14).filter fun (r : Nat) => decide (1 ≤ r) && ruleR x (r : Int) a b).map (fun (r : Nat) => (r : Int)) = heldL x a b := by
 have e : (List.range 14).map (fun (r : Nat) => (r : Int)) = 0 :: rs13 := by decide
 have h := List.filter_map (f := fun (r : Nat) => (r : Int)) (p := fun z : Int => decide (1 ≤ z) && ruleR x z a b) (l := List.range 14)
 rw [e] at h
 unfold heldL
 have h2 : ((List.range 14).filter ((fun z : Int => decide (1 ≤ z) && ruleR x z a b) ∘ fun (r : Nat) => (r : Int))) = (List.range 14).filter fun (r : Nat) => decide (1 ≤ r) && ruleR x (r : Int) a b := by
  refine List.filter_congr fun r _ => ?_
  show (decide ((1 : Int) ≤ (r : Int)) && ruleR x r a b) = _
  congr 1
  exact decide_eq_decide.2 (by omega)
 rw [h2] at h
 rw [← h, List.filter_cons, if_neg (by simp)]
 refine List.filter_congr fun r hr => ?_
 have : (1 : Int) ≤ r := by
  unfold rs13 at hr
  simp only [List.mem_cons, List.not_mem_nil, or_false] at hr
  omega
 simp [this]
end Go.Proofs.YtnkocjkkefnelaaGreat
