/- Parts. -/
import Derived.Test.YtnkocjkkefnelaaGreatPj3
import Derived.Test.YtnkocjkkefnelaaGreatPj16
import Derived.Test.YtnkocjkkefnelaaGreatPj17
set_option linter.unusedVariables false
set_option linter.unusedSimpArgs false
set_option maxRecDepth 100000
namespace Go.Proofs.YtnkocjkkefnelaaGreat
open Go.RowKit
theorem fit8 {x : Ex} (hx : x.ok) (hw : wideB8 x = false) : x.fit ∧ x.evs.length ≤ 20 := ⟨⟨hx, fun r hr => Nat.le_trans (wide8_row hw r hr) (by decide)⟩, by
 unfold wideB8 at hw
 simp only [Bool.or_eq_false_iff, decide_eq_false_iff_not] at hw
 omega⟩
theorem judge_ok {x : Ex} (hc : checkI x = 0) : judT x = (judB x, 0) ∧ allowT x = (allowB x, 0) ∧ arrT x = (gloL x, 0) := by
 unfold judT allowT arrT
 rw [if_pos hc, if_pos hc, if_pos hc]
 exact ⟨rfl, rfl, rfl⟩
theorem judge_no {x : Ex} (hc : ¬ checkI x = 0) : judT x = ((false, false, false), checkI x) ∧ allowT x = (false, checkI x) ∧ arrT x = ([], checkI x) := by
 unfold judT allowT arrT
 rw [if_neg hc, if_neg hc, if_neg hc]
 exact ⟨rfl, rfl, rfl⟩
set_option maxHeartbeats 4000000 in
theorem lawJudge_p (x : Ex) (hx : x.ok) : Pure E.P 4 [exOV x] (.bool true) := by
 have hwd := wide8_p x hx
 have hkn := known8_p
 have f1 : Frozen 1 := ⟨trivial⟩
 have f3 : Frozen 3 := ⟨trivial⟩
 have f8 : Frozen 8 := ⟨trivial⟩
 refine fnA Tryz.func4 Tryz.ntmps4 ?_
 cases hw : wideB8 x with
 | true =>
  rw [hw] at hwd
  refine uB (aoR fun _ => ?_)
  refine q34 ?_; refine q12 (uC (uA ?_))
  iterate 2 refine uB ?_
  refine aoR fun _ => ?_; refine q33 ?_
  apply uP; exact rfl; exact .fn _ _ _; exact rfl; (exact hwd)
  refine uC (uA ?_)
  refine cnd ?_ ?_; refine uX ?_; refine uB (aoR fun _ => ?_)
  apply uP; exact rfl; exact .fn _ _ _; exact rfl; (exact hkn)
  refine q12 (uC (uA ?_)); refine uH ?_; refine uR ?_; rotate_left
  exact xB
  exact vB rfl rfl
 | false =>
  rw [hw] at hwd
  obtain ⟨hfit, hl⟩ := fit8 hx hw
  have hJ := pH x hfit (by omega)
  have hA := fO x hfit (by omega)
  have hC := rcheck_p x hx (fun e he => (hx.2.1 e he).bare)
  by_cases hc : checkI x = 0
  ·obtain ⟨e1, e2, _⟩ := judge_ok hc
   rw [e1] at hJ
   rw [e2] at hA
   rw [hc] at hC
   have hr : x.rel := ⟨hfit, hc⟩
   have h1 := Ren.rcoherent_p x hr (by omega)
   have h2 := rordered_p x hr (eS hx hc)
   have h3 := ratomic_p x hr
   have eB : judB x = (!circleB x.evs.length (rcohL x), !circleB x.evs.length (gloL x), ratB x) := rfl
   unfold allowB at hA
   rw [eB] at hJ hA
   dsimp only at hJ hA
   generalize (!circleB x.evs.length (rcohL x)) = a at h1 hJ hA
   generalize (!circleB x.evs.length (gloL x)) = b at h2 hJ hA
   generalize ratB x = c at h3 hJ hA
   refine uB (aoR fun _ => ?_)
   refine q34 ?_; refine q12 (uC (uA ?_))
   iterate 2 refine uB ?_
   refine aoR fun _ => ?_; refine q33 ?_
   apply uP; exact rfl; exact .fn _ _ _; exact rfl; (exact hwd)
   refine uC (uA ?_); refine cnd ?_ ?_
   exact uQ
   refine uM ?_; refine uG (uA (uB (aoR fun _ => ?_)))
   refine q33 ?_
   apply uP; exact rfl; exact .fn _ _ _; exact rfl; (exact hJ)
   refine q11 ?_
   iterate 2 (apply wQ; exact rfl; exact rfl)
   apply vQ; exact rfl
   refine q43 ?_; refine q12 (uC (uA (uB (aoR fun _ => ?_))))
   refine q33 ?_
   apply uP; exact rfl; exact .fn _ _ _; exact rfl; (exact hA)
   refine q11 ?_
   iterate 2 (apply wQ; exact rfl; exact rfl)
   iterate 2 refine q12 ?_
   refine uC (uA (uB (aoR fun _ => ?_)))
   refine q33 ?_
   apply uP; exact rfl; exact .fn _ _ _; exact rfl; (exact hC)
   refine q12 (uC (uA ?_))
   iterate 2 refine uB ?_
   refine aoR fun _ => ?_; refine q11 ?_; refine q44 (uC (uA ?_))
   refine cnd ?_ ?_
   refine wX (fun _ => ?_); (try (exfalso; omega))
   refine wT (fun _ => ?_); (try (exfalso; omega))
   refine uG (uA (uB ?_))
   refine vE (E := E) ?_ (fun _ => ?_); exact rfl
   apply vT; exact rfl; exact rfl; exact rfl; exact Nat.le_of_ble_eq_true rfl
   apply wS; exact rfl; exact .fn _ _ _; exact rfl; (exact h1)
   apply vT; exact rfl; exact rfl; exact rfl; exact Nat.le_of_ble_eq_true rfl
   apply wS; exact rfl; exact .fn _ _ _; exact rfl; (exact h2)
   apply vT; exact rfl; exact rfl; exact rfl; exact Nat.le_of_ble_eq_true rfl
   apply wS; exact rfl; exact .fn _ _ _; exact rfl; (exact h3)
   apply eO; exact rfl; exact rfl; exact rfl; exact rfl; exact rfl
   apply eP; exact rfl
   apply zC; exact rfl; exact rfl; exact rfl; exact rfl; exact rfl; exact rfl; (first | exact rfl | exact uW (by omega) (0 : Int) | exact uW (by omega) default | exact wR (by omega) (by omega) (0 : Int) | assumption); exact Nat.le_of_ble_eq_true rfl
   refine vV ?_ ?_; (first | ((try dsimp only [wkeys]); decide +kernel) | exact rfl)
   refine uA (uB (aoR fun _ => ?_))
   refine q11 ?_; refine q46 ?_; refine q11 ?_
   apply spT; exact rfl
   intro hc_; refine q1
   apply spT; exact rfl
   intro hc_; refine q7; refine q4 ?_; refine q11 ?_
   apply spT; exact rfl
   intro hc_; refine q47
   apply spT; exact rfl
   intro hc_; refine q27
   apply spT; exact rfl
   intro hc_
   have hp_ := hc_; try simp only [nrm] at hp_
   apply M_eqlV (a, b, c) (a, b, c); ((refine EvM.mb _ rfl ?_; assumption)); ((refine EvM.mb _ rfl ?_; assumption))
   refine q4 ?_; refine q11 ?_
   apply spT; exact rfl
   intro hc_; refine q1
   apply spT; exact rfl
   intro hc_; refine q2
   apply spT; exact rfl
   intro hc_; refine q3
   apply spT; exact rfl
   intro hc_; refine q1
   apply uT; exact rfl; exact rfl
   intro hc_; refine q2
   apply uT; exact rfl; exact rfl
   intro hc_; refine q3
   apply spT; exact rfl
   intro hc_; refine q10
   apply spT; exact rfl
   intro hc_; refine q1
   apply uT; exact rfl; exact rfl
   intro hc_; refine q2
   apply uT; exact rfl; exact rfl
   intro hc_; refine q3
   apply spT; exact rfl
   intro hc_; refine q10
   apply spT; exact rfl
   intro hc_
   apply M_eqlB; exact rfl; exact rfl; exact evm; exact evm
   refine q4 ?_; refine q11 ?_
   apply spT; exact rfl
   intro hc_
   have hp_ := hc_; try simp only [nrm] at hp_
   apply vK; (exact EvM.plain rfl rfl); exact .fn _ _ _; exact wB; (exact hkn)
   refine q4 ?_; refine q12 (uC (uA ?_)); refine uH ?_; rotate_left
   exact vB rfl (by cases a <;> cases b <;> cases c <;> simp [eqV])
  ·obtain ⟨e1, e2, _⟩ := judge_no hc
   rw [e1] at hJ
   rw [e2] at hA
   refine uB (aoR fun _ => ?_)
   refine q34 ?_; refine q12 (uC (uA ?_))
   iterate 2 refine uB ?_
   refine aoR fun _ => ?_; refine q33 ?_
   apply uP; exact rfl; exact .fn _ _ _; exact rfl; (exact hwd)
   refine uC (uA ?_); refine cnd ?_ ?_
   exact uQ
   refine uM ?_; refine uG (uA (uB (aoR fun _ => ?_)))
   refine q33 ?_
   apply uP; exact rfl; exact .fn _ _ _; exact rfl; (exact hJ)
   refine q11 ?_
   iterate 2 (apply wQ; exact rfl; exact rfl)
   apply vQ; exact rfl
   refine q43 ?_; refine q12 (uC (uA (uB (aoR fun _ => ?_))))
   refine q33 ?_
   apply uP; exact rfl; exact .fn _ _ _; exact rfl; (exact hA)
   refine q11 ?_
   iterate 2 (apply wQ; exact rfl; exact rfl)
   iterate 2 refine q12 ?_
   refine uC (uA (uB (aoR fun _ => ?_)))
   refine q33 ?_
   apply uP; exact rfl; exact .fn _ _ _; exact rfl; (exact hC)
   refine q12 (uC (uA ?_))
   iterate 2 refine uB ?_
   refine aoR fun _ => ?_; refine q11 ?_; refine q44 (uC (uA ?_))
   refine cnd ?_ ?_
   refine wX (fun _ => ?_); (try (exfalso; omega))
   refine uB (aoR fun _ => ?_)
   refine q33 ?_; refine q54 ?_
   apply qH (false, false, false) (false, false, false); exact rfl; exact rfl
   refine q11 ?_
   apply spT; exact rfl
   intro hc_; refine q1
   apply spT; exact rfl
   intro hc_; refine q1
   apply spT; exact rfl
   intro hc_; refine q7; refine q4 ?_; refine q11 ?_
   apply spT; exact rfl
   intro hc_; refine q1
   apply spT; exact rfl
   intro hc_; refine q42; refine q4 ?_; refine q11 ?_
   apply spT; exact rfl
   intro hc_; refine q1
   apply spT; exact rfl
   intro hc_; refine q1
   apply spT; exact rfl
   intro hc_; refine q7; refine q4 ?_; refine q11 ?_
   apply spT; exact rfl
   intro hc_
   have hp_ := hc_; try simp only [nrm] at hp_
   apply vK; (exact EvM.plain rfl rfl); exact .fn _ _ _; exact wB; (exact hkn)
   refine q4 ?_; refine q12 (uC (uA ?_)); refine uH ?_; refine uR ?_; rotate_left
   refine wT (fun _ => ?_); (try (exfalso; omega))
   exact vB rfl (by simp [eqV])
end Go.Proofs.YtnkocjkkefnelaaGreat
