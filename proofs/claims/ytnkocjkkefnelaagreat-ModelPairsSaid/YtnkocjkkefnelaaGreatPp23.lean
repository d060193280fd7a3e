/- Parts. -/
import Derived.Test.YtnkocjkkefnelaaGreatPp4
import Derived.Test.YtnkocjkkefnelaaGreatPp20
import Derived.Test.YtnkocjkkefnelaaGreatPp21
import Derived.Test.YtnkocjkkefnelaaGreatPp22
set_option linter.unusedVariables false
set_option linter.unusedSimpArgs false
set_option maxHeartbeats 4000000
set_option maxRecDepth 100000
namespace Go.Proofs.YtnkocjkkefnelaaGreat
open Go.RowKit
def frB (r c : Int × Int) : Bool := c.1 == r.1 && c.2 != r.2
def fr1 (r : Int × Int) (co : List (Int × Int)) : List (Int × Int) := (co.filter (frB r)).map fun c => (r.2, c.2)
def frTo (rf co : List (Int × Int)) (i : Nat) : List (Int × Int) := (rf.take i).flatMap fun r => fr1 r co
def frAt (rf co : List (Int × Int)) (i : Nat) (r : Int × Int) (j : Nat) : List (Int × Int) := frTo rf co i ++ fr1 r (co.take j)
def frZ (rf co : List (Int × Int)) : List (Int × Int) := frTo rf co rf.length
theorem gS (rf co : List (Int × Int)) (i : Nat) (r : Int × Int) : frAt rf co i r 0 = frTo rf co i := by simp [frAt, fr1]
theorem dG (rf co : List (Int × Int)) (i : Nat) (h : i < rf.length) : frTo rf co (i + 1) = frTo rf co i ++ fr1 (rf.getD i default) co := by
 unfold frTo
 rw [wI rf default i h, List.flatMap_append]
 simp
theorem frAt_end (rf co : List (Int × Int)) (i : Nat) (h : i < rf.length) : frAt rf co i (rf.getD i default) co.length = frTo rf co (i + 1) := by
 rw [dG rf co i h, frAt, List.take_length]
theorem pU (rf co : List (Int × Int)) (i : Nat) (r : Int × Int) (j : Nat) (h : j < co.length) (hb : frB r (co.getD j default) = true) : frAt rf co i r (j + 1) = frAt rf co i r j ++ [(r.2, (co.getD j default).2)] := by
 unfold frAt fr1
 rw [wI co default j h, List.filter_append, List.filter_cons, if_pos hb, List.filter_nil, List.map_append, List.append_assoc]
 rfl
theorem frAt_no (rf co : List (Int × Int)) (i : Nat) (r : Int × Int) (j : Nat) (h : j < co.length) (hb : ¬ frB r (co.getD j default) = true) : frAt rf co i r (j + 1) = frAt rf co i r j := by
 unfold frAt fr1
 rw [wI co default j h, List.filter_append, List.filter_cons, if_neg hb, List.filter_nil, List.append_nil]
theorem frTo_pre (rf co : List (Int × Int)) : ∀ {a b : Nat}, a ≤ b → b ≤ rf.length → ∃ q, frTo rf co b = frTo rf co a ++ q := fun {a b} h hb => by
  induction b with
  | zero => have : a = 0 := by omega
            subst this; exact ⟨[], by simp⟩
  | succ b ih =>
    by_cases e : a = b + 1
    · subst e; exact ⟨[], by simp⟩
    · obtain ⟨r, hr⟩ := ih (by omega) (by omega)
      exact ⟨_, by rw [dG rf co b (by omega), hr, List.append_assoc]⟩
theorem fr1_pre (r : Int × Int) (co : List (Int × Int)) (j : Nat) : ∃ q, fr1 r co = fr1 r (co.take j) ++ q := by
 unfold fr1
 exact ⟨((co.drop j).filter (frB r)).map (fun c => (r.2, c.2)), by rw [← List.map_append, ← List.filter_append, List.take_append_drop]⟩
theorem frAt_in (rf co : List (Int × Int)) (i j : Nat) (hi : i < rf.length) (h : j < co.length) (hb : frB (rf.getD i default) (co.getD j default) = true) :
  ∃ q, frZ rf co = frAt rf co i (rf.getD i default) j ++ [((rf.getD i default).2, (co.getD j default).2)] ++ q := by
 obtain ⟨q1, h1⟩ := frTo_pre rf co (show i + 1 ≤ rf.length from hi) (Nat.le_refl _)
 obtain ⟨q2, h2⟩ := fr1_pre (rf.getD i default) co (j + 1)
 rw [← pU rf co i _ j h hb]
 unfold frZ
 rw [h1, dG rf co i hi, h2]
 unfold frAt
 exact ⟨q2 ++ q1, by simp only [List.append_assoc]⟩
set_option maxHeartbeats 4000000 in
theorem fr1_s (x : Ex) (hx : x.fit) (co : List (Int × Int)) (hco : co.length ≤ 1048576) : SeqW E.P 85 [] [.d (.pt (exRow x) 0), .d (.pt [pairsTV co] 0)] (pairYs (frZ (rfF x) co)) := by
 intro Y k τ J m st hm h1 h2 hnd hbig hy l0 hl0
 have hlen : (pairYs (frZ (rfF x) co)).length = (frZ (rfF x) co).length := by simp [pairYs]
 rw [hlen] at hm h1
 have hrl : (rfF x).length ≤ 1048576 := by
  unfold rfF
  split
  ·rename_i hc
   obtain ⟨h1, _, h3, _⟩ := vK hc
   have := yQ h3
   have := nM x.from_ x.from_.length
   rw [yT]; omega
  ·simp
 have hrf := rf_s x hx
 generalize rfF x = rf at hm h1 hy hrl hlen hrf
 have hfz := xD
 have f9 : Frozen 9 := ⟨trivial⟩
 refine yJ Tryz.func85 (by decide) rfl Tryz.ntmps85 (Nat.le_of_ble_eq_true rfl) rfl ?_
 refine uB (aoR fun _ => ?_)
 refine q33 ?_
 apply nY; assumption; exact rfl; exact .fn _ _ _; exact rfl; exact hrf; exact hfz _; exact rfl
 refine q13 ?_; refine q11 (uD (uC (vI ?_))); rotate_left
 refine uS (X := Nat × Rows) (fun p => tmL [(0, .yl k τ), (2, .d (.pt [pairsTV co] 0)), (9, .d (pairsTV rf)), (10, .int .i64 rf.length), (11, .int .i64 p.1), (GS, .gh (frTo rf co p.1).length Y)]) (fun p => stL p.2)
  (fun p => p.1 ≤ rf.length ∧ J (frTo rf co p.1).length p.2 ∧ (st = true → (frTo rf co p.1).length < m)) (fun p => rf.length - p.1) (0, l0) ⟨Nat.zero_le _, hl0, h2⟩ leP (by repeat (first | exact fun _ _ h => h | refine le_app (hbig _ _ hl0) rfl ?_)) ?_
 rintro ⟨i, l⟩ ⟨hi, hJ, hst⟩
 dsimp only at hi hJ hst ⊢
 by_cases hlt : i < rf.length
 rotate_left
 ·have hbe : i = rf.length := by omega
  subst hbe
  have hme : (frTo rf co rf.length).length = m := by
   cases st with
   | true => have h9 := hst rfl; have h8 : (frZ rf co).length = (frTo rf co rf.length).length := rfl; omega
   | false => exact (h1 rfl).symm
  rw [hme] at hJ ⊢
  refine uB (aoR fun _ => ?_)
  refine q37 (uD (uC (uB ?_))); refine cnd ?_ ?_
  refine uE fun _ => ?_; try (exfalso; omega)
  refine uG fun _ => ?_; try (exfalso; omega)
  refine vV ?_
  iterate 2 refine wJ ?_
  refine yE ?_; rotate_left
  exact ⟨Or.inl rfl, rfl, l, hJ, fun _ _ h => h⟩
 refine uB (aoR fun _ => ?_)
 refine q37 (uD ?_); rotate_left
 refine uC (uB ?_); refine cnd ?_ ?_
 refine uE fun _ => ?_; try (exfalso; omega)
 refine vE ?_; rotate_left
 refine uG fun _ => ?_; try (exfalso; omega)
 refine uC (uB (vI (uB (aoR fun _ => ?_))))
 refine q17 ?_; refine q33 ?_
 apply xL; exact rfl
 refine q15 (uD ?_); rotate_left
 refine uC ?_
 rename_i v5
 generalize hr : rf.getD i default = r
 have hT : rf.getD (i : Int).toNat default = r := hr
 rw [hT]
 refine xB 5 (v5, 2) 2 [pairTV r] (tmL [(0, .yl k τ), (2, .d (.pt [pairsTV co] 0)), (9, .d (pairsTV rf)), (10, .int .i64 rf.length), (11, .int .i64 i), (5, .d (.pt (pairTV r) 0)), (GS, .gh (frTo rf co i).length Y)]) (stL l) rfl (by repeat' (first | exact yD | refine vT rfl (.same _) ?_ | refine vT rfl (.lo 0 0 _ rfl) ?_)) (sX (hbig _ _ hJ) (by decide) (fun j hj => by show (Store.put (Store.put _ _ _) _ _) j = _; rw [Store.put_ne _ _ hj, Store.put_ne _ _ hj]; rfl)) ?_
 refine uB (aoR fun _ => ?_)
 refine q23 ?_; refine q13 ?_; refine q11 (uD (uC (vI ?_))); rotate_left
 have hin := fun j => frAt_in rf co i j hlt
 have hnx := frAt_end rf co i hlt
 rw [hr] at hin hnx
 refine uS (X := Nat × Rows) (fun p => tmL [(0, .yl k τ), (2, .d (.pt [pairsTV co] 0)), (9, .d (pairsTV rf)), (10, .int .i64 rf.length), (11, .int .i64 i), (5, .d (.pt (pairTV r) 0)), (15, .d (pairsTV co)), (16, .int .i64 co.length), (17, .int .i64 p.1), (GS, .gh (frAt rf co i r p.1).length Y)]) (fun p => stL p.2)
  (fun p => p.1 ≤ co.length ∧ J (frAt rf co i r p.1).length p.2 ∧ (st = true → (frAt rf co i r p.1).length < m)) (fun p => co.length - p.1) (0, l) ⟨Nat.zero_le _, by dsimp only; rw [gS]; exact hJ, by dsimp only; rw [gS]; exact hst⟩ (by dsimp only; rw [gS]; exact leP) (fun _ _ h => h) ?_
 clear hJ hst l
 rintro ⟨j, l⟩ ⟨hj, hJ, hst⟩
 dsimp only at hj hJ hst ⊢
 by_cases hlt2 : j < co.length
 rotate_left
 ·have hbe : j = co.length := by omega
  subst hbe
  rw [hnx] at hJ hst ⊢
  refine uB (aoR fun _ => ?_)
  refine q37 (uD (uC (uB ?_))); refine cnd ?_ ?_
  refine uE fun _ => ?_; try (exfalso; omega)
  refine uG fun _ => ?_; try (exfalso; omega)
  refine vV ?_
  iterate 2 refine wJ ?_
  refine yE ?_; refine xN ?_; refine uC (aoR fun _ => ?_)
  refine q36 ?_; refine q11 (uD (uC ?_)); rotate_left
  exact ⟨(i + 1, l), ⟨show i + 1 ≤ _ by omega, hJ, hst⟩, show rf.length - (i + 1) < rf.length - i by omega, leP, fun _ _ h => h⟩
 refine uB (aoR fun _ => ?_)
 refine q37 (uD ?_); rotate_left
 refine uC (uB ?_); refine cnd ?_ ?_
 refine uE fun _ => ?_; try (exfalso; omega)
 refine vE ?_; rotate_left
 refine uG fun _ => ?_; try (exfalso; omega)
 refine uC (uB (vI (uB (aoR fun _ => ?_))))
 refine q17 ?_; refine q33 ?_
 apply xL; exact rfl
 refine q15 (uD ?_); rotate_left
 refine uC ?_
 rename_i v7
 generalize hc : co.getD j default = c at hin
 have hT : co.getD (j : Int).toNat default = c := hc
 rw [hT]
 refine xB 7 (v7, 2) 2 [pairTV c] (tmL [(0, .yl k τ), (2, .d (.pt [pairsTV co] 0)), (9, .d (pairsTV rf)), (10, .int .i64 rf.length), (11, .int .i64 i), (5, .d (.pt (pairTV r) 0)), (15, .d (pairsTV co)), (16, .int .i64 co.length), (17, .int .i64 j), (7, .d (.pt (pairTV c) 0)), (GS, .gh (frAt rf co i r j).length Y)]) (stL l) rfl (by repeat' (first | exact yD | refine vT rfl (.same _) ?_ | refine vT rfl (.lo 0 0 _ rfl) ?_)) (sX (hbig _ _ hJ) (by decide) (fun j hj => by show (Store.put (Store.put _ _ _) _ _) j = _; rw [Store.put_ne _ _ hj, Store.put_ne _ _ hj]; rfl)) ?_
 by_cases hb : frB r c = true
 ·obtain ⟨q, hq⟩ := hin j hlt2 (by rw [hc]; exact hb)
  rw [hc] at hq
  obtain ⟨hlm, hY⟩ := jQ h1 hy hq hst hJ
  have hlen1 : (frAt rf co i r (j + 1)).length = (frAt rf co i r j).length + 1 := by rw [pU rf co i r j hlt2 (by rw [hc]; exact hb)]; simp
  have hb1 : c.1 = r.1 ∧ c.2 ≠ r.2 := by simpa [frB] using hb
  obtain ⟨hb1, hb2⟩ := hb1
  rcases Bool.eq_false_or_eq_true (!(st && (frAt rf co i r j).length + 1 == m)) with hans | hans
  ·rw [hans] at hY
   refine uB (aoR fun _ => ?_)
   refine q32 ?_; refine q23 ?_; refine q32 ?_; refine q23 ?_; refine q46 ?_; refine q11 ?_
   apply uF; exact rfl; exact rfl
   refine uE fun _ => ?_; try (exfalso; omega)
   refine q32 ?_
   apply uF; exact rfl; exact rfl
   refine uN ?_; refine q23 ?_
   apply uF; exact rfl; exact rfl
   refine uN ?_; refine q32 ?_
   apply uF; exact rfl; exact rfl
   refine uN ?_; refine q23 ?_
   apply uF; exact rfl; exact rfl
   refine uN ?_; refine q44 ?_; refine q4 ?_; refine q11 ?_
   apply uF; exact rfl; exact rfl
   refine xC ?_; refine uN ?_
   refine wL (fun _ => ?_); (try (exfalso; omega))
   refine q11 ?_
   apply uF; exact rfl; exact rfl
   refine uN ?_; refine q32 ?_
   apply uF; exact rfl; exact rfl
   refine uN ?_; refine q23 ?_
   apply uF; exact rfl; exact rfl
   refine uN ?_; refine q32 ?_
   apply uF; exact rfl; exact rfl
   refine uN ?_; refine q23 ?_
   apply uF; exact rfl; exact rfl
   refine uN ?_; refine q54 ?_
   apply uF; exact rfl; exact rfl
   refine uN ?_
   apply zZ; exact rfl; exact rfl; exact rfl; exact hY; exact (fun _ _ h => h); exact hnd _; (intro l1 hl1)
   apply uF; exact rfl; exact rfl
   refine uN ?_
   apply cN; exact rfl
   refine q4 (uD (uC ?_)); refine cnd ?_ ?_; refine xC ?_; refine uN ?_; refine cH ?_
   exact wR
   refine wT (fun hc_ => ?_); (try simp only [nrm] at hc_)
   refine vE ?_; refine xN ?_; refine uC (aoR fun _ => ?_)
   refine q36 ?_; refine q11 (uD (uC ?_)); rotate_left
   iterate 7 exact wR
   refine wT (fun hc_ => ?_); (try simp only [nrm] at hc_)
   apply uF; exact rfl; exact rfl
   exact uL
   refine uJ ?_
   apply uF; exact rfl; exact rfl
   exact uL
   refine uJ ?_
   apply uF; exact rfl; exact rfl
   exact uL
   refine uJ ?_
   apply uF; exact rfl; exact rfl
   exact uL
   refine uJ ?_
   apply uF; exact rfl; exact rfl
   exact uL
   refine uJ ?_
   apply uF; exact rfl; exact rfl
   exact uL
   refine uJ ?_
   apply uF; exact rfl; exact rfl
   exact uL
   refine uJ ?_
   apply yF; exact rfl
   apply aZ; exact rfl
   refine uD (uC ?_); refine cnd ?_ ?_
   exact uL
   refine uJ ?_; refine vE ?_; refine xN ?_; refine uC (aoR fun _ => ?_)
   refine q36 ?_; refine q11 (uD (uC ?_)); rotate_left
   iterate 4 exact wR
   refine uG fun _ => ?_; try (exfalso; omega)
   ·refine ⟨(j + 1, l1), ⟨show j + 1 ≤ _ by omega, ?_, ?_⟩, show co.length - (j + 1) < co.length - j by omega, ?_, aG (hnd _ _ hl1)⟩
    ·dsimp only; rw [hlen1]; exact hl1
    ·dsimp only; rw [hlen1]; exact nK hlm hans
    ·dsimp only; rw [hlen1]; exact leP
   ·exfalso
    rcases hc_ with h9 | h9
    ·cases h9
    ·exact hb2 h9
  ·rw [hans] at hY
   rw [fA hans] at hY
   refine uB (aoR fun _ => ?_)
   refine q32 ?_; refine q23 ?_; refine q32 ?_; refine q23 ?_; refine q46 ?_; refine q11 ?_
   apply uF; exact rfl; exact rfl
   refine uE fun _ => ?_; try (exfalso; omega)
   refine q32 ?_
   apply uF; exact rfl; exact rfl
   refine uN ?_; refine q23 ?_
   apply uF; exact rfl; exact rfl
   refine uN ?_; refine q32 ?_
   apply uF; exact rfl; exact rfl
   refine uN ?_; refine q23 ?_
   apply uF; exact rfl; exact rfl
   refine uN ?_; refine q44 ?_; refine q4 ?_; refine q11 ?_
   apply uF; exact rfl; exact rfl
   refine xC ?_; refine uN ?_
   refine wL (fun _ => ?_); (try (exfalso; omega))
   refine q11 ?_
   apply uF; exact rfl; exact rfl
   refine uN ?_; refine q32 ?_
   apply uF; exact rfl; exact rfl
   refine uN ?_; refine q23 ?_
   apply uF; exact rfl; exact rfl
   refine uN ?_; refine q32 ?_
   apply uF; exact rfl; exact rfl
   refine uN ?_; refine q23 ?_
   apply uF; exact rfl; exact rfl
   refine uN ?_; refine q54 ?_
   apply uF; exact rfl; exact rfl
   refine uN ?_
   apply zZ; exact rfl; exact rfl; exact rfl; exact hY; exact (fun _ _ h => h); exact hnd _; (intro l1 hl1)
   apply uF; exact rfl; exact rfl
   refine uN ?_
   apply cN; exact rfl
   refine q0 (uD (uC ?_)); refine cnd ?_ ?_
   refine xG (fun hc_ => ?_); (try simp only [nrm] at hc_)
   refine wF ?_; refine fX ?_
   iterate 2 refine aD ?_
   iterate 2 refine fX ?_
   iterate 2 refine aD ?_
   refine fX ?_; rotate_left
   refine xM ?_
   iterate 8 exact wR
   refine wT (fun hc_ => ?_); (try simp only [nrm] at hc_)
   apply uF; exact rfl; exact rfl
   exact uL
   refine uJ ?_
   apply uF; exact rfl; exact rfl
   exact uL
   refine uJ ?_
   apply uF; exact rfl; exact rfl
   exact uL
   refine uJ ?_
   apply uF; exact rfl; exact rfl
   exact uL
   refine uJ ?_
   apply uF; exact rfl; exact rfl
   exact uL
   refine uJ ?_
   apply uF; exact rfl; exact rfl
   exact uL
   refine uJ ?_
   apply uF; exact rfl; exact rfl
   exact uL
   refine uJ ?_
   apply yF; exact rfl
   apply aZ; exact rfl
   refine uD (uC ?_); refine cnd ?_ ?_
   exact uL
   refine uJ ?_; refine vE ?_; refine xN ?_; refine uC (aoR fun _ => ?_)
   refine q36 ?_; refine q11 (uD (uC ?_)); rotate_left
   iterate 4 exact wR
   refine uG fun _ => ?_; try (exfalso; omega)
   ·exact ⟨Or.inr rfl, rfl, l1, hl1, aG (hnd _ _ hl1)⟩
   ·exfalso
    rcases hc_ with h9 | h9
    ·cases h9
    ·exact hb2 h9
 ·have hlen1 : (frAt rf co i r (j + 1)) = (frAt rf co i r j) := frAt_no rf co i r j hlt2 (by rw [hc]; exact hb)
  have hb1 : c.1 = r.1 → c.2 = r.2 := by simpa [frB] using hb
  refine uB (aoR fun _ => ?_)
  refine q32 ?_; refine q23 ?_; refine q32 ?_; refine q23 ?_; refine q46 ?_; refine q11 ?_
  apply uF; exact rfl; exact rfl
  refine uE fun _ => ?_; try (exfalso; omega)
  refine q32 ?_
  apply uF; exact rfl; exact rfl
  refine uN ?_; refine q23 ?_
  apply uF; exact rfl; exact rfl
  refine uN ?_; refine q32 ?_
  apply uF; exact rfl; exact rfl
  refine uN ?_; refine q23 ?_
  apply uF; exact rfl; exact rfl
  refine uN ?_; refine q44 ?_; refine q4 ?_; refine q11 ?_
  apply uF; exact rfl; exact rfl
  refine xC ?_; refine uN ?_
  refine wL (fun _ => ?_); (try (exfalso; omega))
  refine wT (fun hc_ => ?_); (try simp only [nrm] at hc_)
  apply uF; exact rfl; exact rfl
  exact uL
  refine uJ ?_
  apply uF; exact rfl; exact rfl
  exact uL
  refine uJ ?_
  apply uF; exact rfl; exact rfl
  exact uL
  refine uJ ?_
  apply uF; exact rfl; exact rfl
  exact uL
  refine uJ ?_
  apply uF; exact rfl; exact rfl
  exact uL
  refine uJ ?_
  apply uF; exact rfl; exact rfl
  exact uL
  refine uJ ?_
  apply uF; exact rfl; exact rfl
  exact uL
  refine uJ ?_
  apply yF; exact rfl
  apply aZ; exact rfl
  refine uD (uC ?_); refine cnd ?_ ?_
  exact uL
  refine uJ ?_; refine vE ?_; refine xN ?_; refine uC (aoR fun _ => ?_)
  refine q36 ?_; refine q11 (uD (uC ?_)); rotate_left
  iterate 4 exact wR
  refine uG fun _ => ?_; try (exfalso; omega)
  apply uF; exact rfl; exact rfl
  exact uL
  refine uJ ?_
  apply uF; exact rfl; exact rfl
  exact uL
  refine uJ ?_
  apply uF; exact rfl; exact rfl
  exact uL
  refine uJ ?_
  apply uF; exact rfl; exact rfl
  exact uL
  refine uJ ?_
  apply yF; exact rfl
  apply aZ; exact rfl
  refine q11 ?_
  apply uF; exact rfl; exact rfl
  exact uL
  refine uJ ?_
  apply uF; exact rfl; exact rfl
  exact uL
  refine uJ ?_
  apply uF; exact rfl; exact rfl
  exact uL
  refine uJ ?_
  apply uF; exact rfl; exact rfl
  exact uL
  refine uJ ?_
  apply uF; exact rfl; exact rfl
  exact uL
  refine uJ ?_
  apply uF; exact rfl; exact rfl
  exact uL
  refine uJ ?_
  apply uF; exact rfl; exact rfl
  exact uL
  refine uJ ?_
  apply uF; exact rfl; exact rfl
  exact uL
  refine uJ ?_
  apply yF; exact rfl
  apply aZ; exact rfl
  refine uD (uC ?_); refine cnd ?_ ?_
  exact uL
  refine uJ ?_; refine vE ?_; refine xN ?_; refine uC (aoR fun _ => ?_)
  refine q36 ?_; refine q11 (uD (uC ?_)); rotate_left
  all_goals
   refine ⟨(j + 1, l), ⟨show j + 1 ≤ _ by omega, ?_, ?_⟩, show co.length - (j + 1) < co.length - j by omega, ?_, (fun _ _ h => h)⟩
   ·dsimp only; rw [hlen1]; exact hJ
   ·dsimp only; rw [hlen1]; exact hst
   ·dsimp only; rw [hlen1]; exact leP
def frF (x : Ex) : List (Int × Int) := sortZ (frZ (rfF x) (coF x))
theorem frZ_small {rf co : List (Int × Int)} (h1 : smallP rf) (h2 : smallP co) : smallP (frZ rf co) := fun p hp => by
 unfold frZ frTo fr1 at hp
 obtain ⟨r, hr, h3⟩ := List.mem_flatMap.1 hp
 obtain ⟨c, hc, rfl⟩ := List.mem_map.1 h3
 have a1 := h1 r (List.mem_of_mem_take hr)
 have a2 := h2 c (List.mem_filter.1 hc).1
 dsimp only
 omega
theorem pT (rf co : List (Int × Int)) : ∀ i, i ≤ rf.length → (frTo rf co i).length ≤ i * co.length
 | 0, _ => by simp [frTo]
 | i + 1, h => by
  rw [dG rf co i h, List.length_append, Nat.succ_mul]
  have := pT rf co i (by omega)
  have : (fr1 (rf.getD i default) co).length ≤ co.length := by
   unfold fr1
   rw [List.length_map]
   exact List.length_filter_le _ _
  omega
theorem smallP_nil : smallP [] := fun p hp => by cases hp
theorem rf_facts (x : Ex) : smallP (rfF x) ∧ (rfF x).length ≤ 64 := by
 unfold rfF
 split
 ·rename_i hc
  obtain ⟨h1, h2, h3, h4⟩ := vK hc
  have hfl := yQ h3
  have hln := nM x.from_ x.from_.length
  exact ⟨iL (lZ (fun i => by have := rU h3 i; omega) (by omega)), by rw [yT]; omega⟩
 ·exact ⟨smallP_nil, by simp⟩
theorem co_facts (x : Ex) : smallP (coF x) ∧ (coF x).length ≤ 262144 := by
 unfold coF
 split
 ·rename_i hc
  obtain ⟨h1, h2, h3, h4⟩ := vK hc
  exact ⟨iL (gV h4 (by omega)), by rw [yT]; exact rZ hc⟩
 ·exact ⟨smallP_nil, by simp⟩
set_option maxHeartbeats 4000000 in
theorem fr_s (x : Ex) (hx : x.fit) : Own E.P 57 [exOV x] 2 ((frF x).map pairO') := by
 obtain ⟨a1, a2⟩ := rf_facts x
 obtain ⟨b1, b2⟩ := co_facts x
 have hsm := frZ_small a1 b1
 have hln : (frZ (rfF x) (coF x)).length ≤ 1073741824 := by
  have := pT (rfF x) (coF x) (rfF x).length (Nat.le_refl _)
  have h9 : (rfF x).length * (coF x).length ≤ 64 * 262144 := Nat.mul_le_mul a2 b2
  unfold frZ
  omega
 have hfr := fr1_s x hx (coF x) (by omega)
 have hco := co_s x hx
 unfold frF
 have hfz := xD
 have f5 : Frozen 5 := ⟨trivial⟩
 refine fnA Tryz.func57 Tryz.ntmps57 ?_
 refine uB (aoR fun _ => ?_)
 refine q40 ?_; refine q51 (uD ?_); rotate_left
 refine uC ?_
 rename_i v0
 refine xB 1 (v0, 0) 3 [exRow x] (tmL [(1, .d (.pt (exRow x) 0))]) (stL []) rfl (vT rfl (.lo 0 0 _ rfl) yD) (by repeat' (first | exact yD | exact aH | (refine vT rfl (wK ?_) ?_; (first | rfl | (simp; done))) | refine vT rfl (.same _) ?_ | refine wZ (by decide) rfl (.same _) ?_)) ?_
 refine uB (aoR fun _ => ?_)
 refine q33 ?_
 apply nY; assumption; exact rfl; exact .fn _ _ _; exact rfl; exact hco; exact hfz _; exact rfl
 apply xL; exact rfl
 refine q15 (uD ?_); rotate_left
 refine uC ?_
 rename_i v1
 refine xB 3 (v1, 2) 1 [[pairsTV (coF x)]] (tmL [(1, .d (.pt (exRow x) 0)), (3, .d (.pt [pairsTV (coF x)] 0))]) (stL []) rfl (by repeat' (first | exact yD | refine vT rfl (.same _) ?_ | refine vT rfl (.lo 0 0 _ rfl) ?_)) (by repeat' (first | exact yD | exact aH | (refine vT rfl (wK ?_) ?_; (first | rfl | (simp; done))) | refine vT rfl (.same _) ?_ | refine wZ (by decide) rfl (.same _) ?_)) ?_
 refine uB (aoR fun _ => ?_)
 apply xI; exact rfl; exact rfl
 apply gB; exact rfl; exact .fn _ _ _; exact rfl; exact jF (.fn _ _ _) _ hsm hln hfr
 apply cM; exact rfl; exact rfl
 refine uD (uC ?_); refine wF ?_; rotate_left
 exact wP (d := 2) rfl rfl rfl rfl
theorem gJ (zs : List Int) : ∀ k, (rfZ zs k).Nodup
 | 0 => by simp [rfZ]
 | k + 1 => by
  by_cases h : 0 ≤ zs.getD k 0
  ·rw [cV h, List.nodup_append]
   refine ⟨gJ zs k, by simp, fun p hp q hq e => ?_⟩
   simp only [List.mem_singleton] at hq
   subst hq
   subst e
   obtain ⟨n, h1, _, _, h4⟩ := rP.1 hp
   omega
  ·rw [jU h]; exact gJ zs k
def isRf (x : Ex) (a b : Nat) : Bool := (x.evs.getD b default).ldB && decide (x.from_.getD b 0 = (a : Int))
theorem fM {es : List Ev} {fs : List Int} (h : fromB es fs = true) {k : Nat} (hk : k < es.length) : ((es.getD k default).ldB = true ↔ 0 ≤ fs.getD k 0) ∧ ((es.getD k default).ldB = true → fs.getD k 0 < es.length ∧ fs.getD k 0 ≠ k ∧ (es.getD (fs.getD k 0).toNat default).stB = true ∧ (es.getD (fs.getD k 0).toNat default).addr = (es.getD k default).addr) := by
 have h1 := rV h (k := k) (by rw [yQ h]; exact hk)
 unfold fromOk at h1
 cases hl : (es.getD k default).ldB with
 | false =>
  rw [hl] at h1
  simp only [Bool.not_false, Bool.true_and, Bool.false_and, Bool.or_false, beq_iff_eq] at h1
  exact ⟨⟨fun e => (by cases e), fun e => (by omega)⟩, fun e => (by cases e)⟩
 | true =>
  rw [hl] at h1
  simp only [Bool.not_true, Bool.false_and, Bool.false_or, Bool.true_and, Bool.and_eq_true, Bool.not_eq_true', beq_eq_false_iff_ne, decide_eq_false_iff_not] at h1
  obtain ⟨⟨⟨a1, a2⟩, a3⟩, a4⟩ := h1
  unfold srcOk at a4
  simp only [Bool.and_eq_true] at a4
  exact ⟨⟨fun _ => (by omega), fun _ => rfl⟩, fun _ => ⟨by omega, a1, a4.1.1, by simpa using a4.1.2⟩⟩
theorem kO {l : List Int} (h : l.Nodup) : ∀ i, i ≤ l.length → (coIn l i).Nodup
 | 0, _ => by simp [coIn]
 | i + 1, hi => by
  rw [aS, List.nodup_append]
  refine ⟨kO h i (by omega), ?_, fun p hp q hq e => ?_⟩
  ·refine List.Pairwise.map _ (R := (· ≠ ·)) (fun a b hab e => hab (by simpa using e)) (List.Pairwise.sublist (List.drop_sublist _ _) h)
  ·subst e
   obtain ⟨b, _, rfl⟩ := List.mem_map.1 hq
   unfold coIn at hp
   obtain ⟨j, h1, h2⟩ := List.mem_flatMap.1 hp
   obtain ⟨c, _, h4⟩ := List.mem_map.1 h2
   have hj := List.mem_range.1 h1
   have := fF h (i := j) (j := i) (by omega) (by omega) (by simpa using congrArg Prod.fst h4)
   omega
theorem mU {es : List Ev} {o : List (Sl × List Int)} (h : orderB es (addrsTo es) o = true) : (coZ o).Nodup := by
 unfold coZ coTo
 rw [List.take_length]
 unfold List.Nodup
 rw [List.pairwise_flatMap]
 refine ⟨fun l hl => ?_, ?_⟩
 ·obtain ⟨r, hr, e⟩ := List.getElem_of_mem hl
  have := zA h hr
  rw [List.getD_eq_getElem?_getD, List.getElem?_eq_getElem hr, Option.getD_some, e] at this
  exact kO this _ (Nat.le_refl _)
 ·rw [List.pairwise_iff_getElem]
  intro i j hi hj hij p hp q hq e
  subst e
  have e1 := (kP hp (Nat.le_refl _)).1
  have e2 := (kP hq (Nat.le_refl _)).1
  have g1 : o[i] = o.getD i default := by rw [List.getD_eq_getElem?_getD, List.getElem?_eq_getElem hi]; rfl
  have g2 : o[j] = o.getD j default := by rw [List.getD_eq_getElem?_getD, List.getElem?_eq_getElem hj]; rfl
  rw [g1] at e1
  rw [g2] at e2
  obtain ⟨a, ha, ea⟩ := gO e1
  obtain ⟨b, hb, eb⟩ := gO e2
  have hp0 := nG ((zC h hi).1 e1)
  have r1 := aX h hi ha (a := p.1.toNat) (by rw [ea]; omega)
  have r2 := aX h hj hb (a := p.1.toNat) (by rw [eb]; omega)
  have := fC h hi hj (r1.2.2.symm.trans r2.2.2)
  omega
theorem fr1_nodup {co : List (Int × Int)} (h : co.Nodup) (r : Int × Int) : (fr1 r co).Nodup := by
 unfold fr1
 refine List.Pairwise.map _ (R := fun c d => c ≠ d ∧ c.1 = r.1 ∧ d.1 = r.1) (fun c d hcd e => hcd.1 (Prod.ext (by rw [hcd.2.1, hcd.2.2]) (by simpa using e))) ?_
 refine (List.Pairwise.filter _ h).imp_of_mem fun {c d} hc hd hne => ?_
 have h1 := (List.mem_filter.1 hc).2
 have h2 := (List.mem_filter.1 hd).2
 simp only [frB, Bool.and_eq_true, beq_iff_eq] at h1 h2
 exact ⟨hne, h1.1, h2.1⟩
theorem frZ_nodup {rf co : List (Int × Int)} (hr : rf.Pairwise fun r s => r.2 ≠ s.2) (hc : co.Nodup) : (frZ rf co).Nodup := by
 unfold frZ frTo
 rw [List.take_length]
 unfold List.Nodup
 rw [List.pairwise_flatMap]
 refine ⟨fun r _ => fr1_nodup hc r, hr.imp fun {r s} hrs p hp q hq e => ?_⟩
 subst e
 unfold fr1 at hp hq
 obtain ⟨c, _, rfl⟩ := List.mem_map.1 hp
 obtain ⟨d, _, h2⟩ := List.mem_map.1 hq
 exact hrs (by simpa using (congrArg Prod.fst h2).symm)
theorem cA {x : Ex} (hc : checkI x = 0) : rfF x = refPairs x.evs.length (isRf x) := by
 obtain ⟨h1, h2, h3, h4⟩ := vK hc
 have hl := yQ h3
 rw [rfF, if_pos hc]
 refine bW (gJ _ _) fun p => ?_
 obtain ⟨a, b⟩ := p
 rw [rP, vG]
 constructor
 ·rintro ⟨n, g1, g2, rfl, rfl⟩
  obtain ⟨e1, e2⟩ := fM h3 (k := n) (by omega)
  obtain ⟨m, hm⟩ := yH g2
  have := e2 (e1.2 g2)
  exact ⟨m, n, by omega, by omega, by unfold isRf; rw [e1.2 g2, hm]; simp, by rw [hm]⟩
 ·rintro ⟨m, n, g1, g2, g3, g4⟩
  unfold isRf at g3
  simp only [Bool.and_eq_true, decide_eq_true_eq] at g3
  cases g4
  exact ⟨n, by omega, ((fM h3 g2).1.1 g3.1), g3.2.symm, rfl⟩
def coB (x : Ex) (a b : Nat) : Bool := decide (((a : Int), (b : Int)) ∈ coZ x.order)
theorem qU {x : Ex} (hc : checkI x = 0) : coF x = refPairs x.evs.length (coB x) := by
 obtain ⟨h1, h2, h3, h4⟩ := vK hc
 rw [coF, if_pos hc]
 refine bW (mU h4) fun p => ?_
 obtain ⟨a, b⟩ := p
 rw [vG]
 constructor
 ·intro h
  obtain ⟨g1, g2, g3, g4⟩ := gV h4 (by omega) _ h
  dsimp only at g1 g2 g3 g4
  obtain ⟨m, rfl⟩ := yH g1
  obtain ⟨n, rfl⟩ := yH g3
  obtain ⟨e1, e2, _⟩ := uAL h4 h
  exact ⟨m, n, e1, e2, by simpa [coB] using h, rfl⟩
 ·rintro ⟨m, n, _, _, g3, g4⟩
  cases g4
  simpa [coB] using g3
def frBr (x : Ex) (a b : Nat) : Bool := !(a == b) && (x.evs.getD a default).ldB && coB x (x.from_.getD a 0).toNat b
theorem fr_ref {x : Ex} (hc : checkI x = 0) : frF x = refPairs x.evs.length (frBr x) := by
 obtain ⟨h1, h2, h3, h4⟩ := vK hc
 have hl := yQ h3
 have hcn : (coF x).Nodup := by rw [coF, if_pos hc]; exact (List.mergeSort_perm _ _).nodup_iff.2 (mU h4)
 have hrp : (rfF x).Pairwise fun r s => r.2 ≠ s.2 := by
  rw [cA hc]
  have hlt := cB x.evs.length (isRf x)
  refine hlt.imp_of_mem fun {r s} hr hs h e => ?_
  obtain ⟨a, b, _, _, g1, rfl⟩ := vG.1 hr
  obtain ⟨c, d, _, _, g2, rfl⟩ := vG.1 hs
  dsimp only at e
  have : b = d := by omega
  subst this
  unfold isRf at g1 g2
  simp only [Bool.and_eq_true, decide_eq_true_eq] at g1 g2
  rw [yV] at h
  dsimp only at h
  omega
 rw [frF]
 refine bW (frZ_nodup hrp hcn) fun p => ?_
 rw [vG]
 unfold frZ frTo
 rw [List.take_length, List.mem_flatMap]
 constructor
 ·rintro ⟨r, hr, hp⟩
  unfold fr1 at hp
  obtain ⟨c, g1, rfl⟩ := List.mem_map.1 hp
  obtain ⟨g2, g3⟩ := List.mem_filter.1 g1
  rw [cA hc] at hr
  rw [qU hc] at g2
  obtain ⟨a, b, e1, e2, e3, rfl⟩ := vG.1 hr
  obtain ⟨c, d, f1, f2, f3, rfl⟩ := vG.1 g2
  simp only [frB, Bool.and_eq_true, beq_iff_eq, bne_iff_ne] at g3
  unfold isRf at e3
  simp only [Bool.and_eq_true, decide_eq_true_eq] at e3
  have hca : c = a := by omega
  subst hca
  refine ⟨b, d, e2, f2, ?_, rfl⟩
  unfold frBr
  rw [e3.1, e3.2, Int.toNat_natCast, f3]
  have : b ≠ d := by omega
  simp [this]
 ·rintro ⟨b, d, e2, f2, g, rfl⟩
  unfold frBr at g
  simp only [Bool.and_eq_true, Bool.not_eq_true', beq_eq_false_iff_ne] at g
  obtain ⟨⟨g1, g2⟩, g3⟩ := g
  obtain ⟨q1, q2⟩ := fM h3 e2
  obtain ⟨a, ha⟩ := yH (q1.1 g2)
  have q3 := q2 g2
  rw [ha, Int.toNat_natCast] at g3
  refine ⟨((a : Int), (b : Int)), by rw [cA hc]; exact vG.2 ⟨a, b, by omega, e2, by unfold isRf; rw [g2, ha]; simp, rfl⟩, ?_⟩
  unfold fr1
  refine List.mem_map.2 ⟨((a : Int), (d : Int)), List.mem_filter.2 ⟨by rw [qU hc]; exact vG.2 ⟨a, d, by omega, f2, g3, rfl⟩, ?_⟩, rfl⟩
  have : (d : Int) ≠ b := by omega
  simp [frB, this]
def placeFrom : List (Sl × List Int) → Int → Int
 | [], _ => -1
 | r :: o, n => if 0 ≤ atI r.2 n then atI r.2 n else placeFrom o n
theorem iA {n : Int} : ∀ {l : List Int} {k : Nat}, n ∉ l → atFrom n l k = -1
 | [], k, _ => rfl
 | a :: l, k, h => by
  simp only [List.mem_cons, not_or] at h
  rw [atFrom, if_neg (Ne.symm h.1)]
  exact iA h.2
theorem eG {n : Int} : ∀ {l : List Int} {k i : Nat}, l.Nodup → i < l.length → l.getD i 0 = n → atFrom n l k = ((k + i : Nat) : Int)
 | [], k, i, _, h, _ => by simp at h
 | a :: l, k, 0, _, _, h => by
  have : a = n := h
  rw [atFrom, if_pos this]; simp
 | a :: l, k, i + 1, hn, h, he => by
  have h1 : l.getD i 0 = n := he
  have h2 : i < l.length := by simpa using h
  have h3 : n ∈ l := h1 ▸ tD h2
  have h4 : a ≠ n := fun e => (List.nodup_cons.1 hn).1 (e ▸ h3)
  rw [atFrom, if_neg h4, eG (List.nodup_cons.1 hn).2 h2 h1]
  congr 1; omega
theorem pB {n : Int} : ∀ {o : List (Sl × List Int)} {r i : Nat}, r < o.length → (∀ k, k < r → n ∉ (o.getD k default).2) → (o.getD r default).2.Nodup → i < (o.getD r default).2.length → (o.getD r default).2.getD i 0 = n → placeFrom o n = i
 | [], r, i, h, _, _, _, _ => by simp at h
 | q :: o, 0, i, _, _, hn, hi, he => by
  have e : atI q.2 n = i := by
   have := eG (k := 0) hn hi he
   rw [Nat.zero_add] at this; exact this
  rw [placeFrom, e, if_pos (Int.natCast_nonneg i)]
 | q :: o, r + 1, i, h, hk, hn, hi, he => by
  have e : atI q.2 n = -1 := iA (hk 0 (by omega))
  rw [placeFrom, e, if_neg (by omega)]
  exact pB (by simpa using h) (fun k hk' => hk (k + 1) (by omega)) hn hi he
def isCoB (x : Ex) (a b : Nat) : Bool := (x.evs.getD a default).stB && (x.evs.getD b default).stB && decide ((x.evs.getD a default).addr = (x.evs.getD b default).addr) && decide (placeFrom x.order a < placeFrom x.order b)
theorem mD {es : List Ev} {o : List (Sl × List Int)} (h : orderB es (addrsTo es) o = true) {r i a : Nat} (hr : r < o.length) (hi : i < (o.getD r default).2.length) (he : (o.getD r default).2.getD i 0 = (a : Int)) : placeFrom o a = i := by
 refine pB hr (fun k hk hm => ?_) (zA h hr) hi he
 obtain ⟨j, hj, ej⟩ := gO hm
 have e1 := (aX h hr hi he).2.2
 have e2 := (aX h (show k < o.length by omega) hj ej).2.2
 have := fC h hr (by omega) (e1.symm.trans e2)
 omega
theorem pA {es : List Ev} {o : List (Sl × List Int)} (h : orderB es (addrsTo es) o = true) {a b : Nat} (hp : ((a : Int), (b : Int)) ∈ coZ o) : placeFrom o a < placeFrom o b := by
 obtain ⟨r, i, j, hr, h2, h3, h4, h5⟩ := cJ hp
 rw [mD h hr (by omega) h4, mD h hr h3 h5]
 omega
theorem bG {x : Ex} (hc : checkI x = 0) {a b : Nat} (ha : a < x.evs.length) (hb : b < x.evs.length) : coB x a b = isCoB x a b := by
 have ho := (vK hc).2.2.2
 rw [Bool.eq_iff_iff]
 unfold coB isCoB
 simp only [Bool.and_eq_true, decide_eq_true_eq]
 constructor
 ·intro h
  obtain ⟨_, _, _, g1, g2, g3⟩ := uAL ho h
  exact ⟨⟨⟨g1, g2⟩, g3⟩, pA ho h⟩
 ·rintro ⟨⟨⟨g1, g2⟩, g3⟩, g4⟩
  have hne : a ≠ b := fun e => by subst e; omega
  rcases uAK ho ha hb hne ⟨g1, g2, g3⟩ with h | h
  ·exact h
  ·have := pA ho h; omega
end Go.Proofs.YtnkocjkkefnelaaGreat
