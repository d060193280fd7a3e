/- Parts. -/
import Derived.Test.YtnkocjkkefnelaaGreatPa3
import Derived.Test.YtnkocjkkefnelaaGreatPa16
import Derived.Test.YtnkocjkkefnelaaGreatPa17
set_option linter.unusedVariables false
set_option linter.unusedSimpArgs false
set_option maxRecDepth 100000
namespace Go.Proofs.YtnkocjkkefnelaaGreat
open Go.RowKit
theorem fit8 {x : Ex} (hx : x.ok) (hw : wideB8 x = false) : x.fit ∧ x.evs.length ≤ 20 := ⟨⟨hx, fun r hr => Nat.le_trans (wide8_row hw r hr) (by decide)⟩, by
 unfold wideB8 at hw
 simp only [Bool.or_eq_false_iff, decide_eq_false_iff_not] at hw
 omega⟩
theorem judge_ok {x : Ex} (hc : checkI x = 0) : judT x = (judB x, 0) ∧ allowT x = (allowB x, 0) ∧ arrT x = (gloL x, 0) := by
 unfold judT allowT arrT
 rw [if_pos hc, if_pos hc, if_pos hc]
 exact ⟨rfl, rfl, rfl⟩
theorem judge_no {x : Ex} (hc : ¬ checkI x = 0) : judT x = ((false, false, false), checkI x) ∧ allowT x = (false, checkI x) ∧ arrT x = ([], checkI x) := by
 unfold judT allowT arrT
 rw [if_neg hc, if_neg hc, if_neg hc]
 exact ⟨rfl, rfl, rfl⟩
set_option maxHeartbeats 4000000 in
theorem lawArrows_p (x : Ex) (hx : x.ok) : Pure E.P 9 [exOV x] (.bool true) := by
 have hwd := wide8_p x hx
 have hkn := known8_p
 have f1 : Frozen 1 := ⟨trivial⟩
 refine fnA Tryz.func9 Tryz.ntmps9 ?_
 cases hw : wideB8 x with
 | true =>
  rw [hw] at hwd
  refine uA (aoR fun _ => ?_)
  refine q34 ?_; refine q12 ?_; refine uC (uB ?_)
  iterate 2 refine uA ?_
  refine aoR fun _ => ?_; refine q33 ?_
  apply uQ; exact rfl; exact .fn _ _ _; exact rfl; (exact hwd)
  refine uC (uB ?_)
  refine cnd ?_ ?_; refine uT ?_; refine uA (aoR fun _ => ?_)
  apply uQ; exact rfl; exact .fn _ _ _; exact rfl; (exact hkn)
  refine q12 ?_; refine uC (uB ?_); refine uG ?_; refine uN ?_; rotate_left
  exact wS
  exact uY rfl rfl
 | false =>
  rw [hw] at hwd
  obtain ⟨hfit, hl⟩ := fit8 hx hw
  have hA := Arrows_p x hfit
  have hC := rcheck_p x hx (fun e he => (hx.2.1 e he).bare)
  by_cases hc : checkI x = 0
  ·obtain ⟨_, _, e3⟩ := judge_ok hc
   rw [e3] at hA
   rw [hc] at hC
   have hr : x.rel := ⟨hfit, hc⟩
   have hS := rGlo_p hr (gG hx hc)
   have hln : (gloL x).length ≤ 1152921504606846976 := Nat.le_trans (mI hr) (by decide)
   have hE := rsamePairs_p (gloL x) (gloL x) hln hln
   rw [eqP_refl] at hE
   refine uA (aoR fun _ => ?_)
   refine q34 ?_; refine q12 ?_; refine uC (uB ?_)
   iterate 2 refine uA ?_
   refine aoR fun _ => ?_; refine q33 ?_
   apply uQ; exact rfl; exact .fn _ _ _; exact rfl; (exact hwd)
   refine uC (uB ?_); refine cnd ?_ ?_
   exact uL
   refine uJ ?_; refine uF (uB (uA (aoR fun _ => ?_)))
   refine q33 ?_
   apply uQ; exact rfl; exact .fn _ _ _; exact rfl; (exact hA)
   refine q11 ?_
   iterate 2 (apply wX; exact rfl; exact rfl)
   iterate 2 refine q12 ?_
   refine uC (uB (uA (aoR fun _ => ?_)))
   refine q33 ?_
   apply uQ; exact rfl; exact .fn _ _ _; exact rfl; (exact hC)
   refine q12 ?_; refine uC (uB ?_)
   iterate 2 refine uA ?_
   refine aoR fun _ => ?_; refine q11 ?_; refine q44 ?_; refine uC (uB ?_)
   refine cnd ?_ ?_
   refine wN (fun _ => ?_); (try (exfalso; omega))
   refine wI (fun _ => ?_); (try (exfalso; omega))
   refine uF (uB (uA (aoR fun _ => ?_)))
   refine q11 ?_; refine q46 ?_; refine q11 ?_
   apply spT; exact rfl
   intro hc_; refine q1
   apply spT; exact rfl
   intro hc_; refine q47
   apply spT; exact rfl
   intro hc_
   have hp_ := hc_; try simp only [nrm] at hp_
   apply vC; (exact EvM.plain rfl rfl); exact .fn _ _ _; exact vY; (exact hS)
   apply spT; exact rfl
   intro hc_
   have hp_ := hc_; try simp only [nrm] at hp_
   apply vC; (exact EvM.plain rfl rfl); exact .fn _ _ _; exact vY; (exact hE)
   refine q4 ?_; refine q11 ?_
   apply spT; exact rfl
   intro hc_
   have hp_ := hc_; try simp only [nrm] at hp_
   apply vC; (exact EvM.plain rfl rfl); exact .fn _ _ _; exact vY; (exact hkn)
   refine q4 ?_; refine q12 ?_; refine uC (uB ?_); refine uG ?_; rotate_left
   exact uY rfl (by simp)
  ·obtain ⟨_, _, e3⟩ := judge_no hc
   rw [e3] at hA
   refine uA (aoR fun _ => ?_)
   refine q34 ?_; refine q12 ?_; refine uC (uB ?_)
   iterate 2 refine uA ?_
   refine aoR fun _ => ?_; refine q33 ?_
   apply uQ; exact rfl; exact .fn _ _ _; exact rfl; (exact hwd)
   refine uC (uB ?_); refine cnd ?_ ?_
   exact uL
   refine uJ ?_; refine uF (uB (uA (aoR fun _ => ?_)))
   refine q33 ?_
   apply uQ; exact rfl; exact .fn _ _ _; exact rfl; (exact hA)
   refine q11 ?_
   iterate 2 (apply wX; exact rfl; exact rfl)
   iterate 2 refine q12 ?_
   refine uC (uB (uA (aoR fun _ => ?_)))
   refine q33 ?_
   apply uQ; exact rfl; exact .fn _ _ _; exact rfl; (exact hC)
   refine q12 ?_; refine uC (uB ?_)
   iterate 2 refine uA ?_
   refine aoR fun _ => ?_; refine q11 ?_; refine q44 ?_; refine uC (uB ?_)
   refine cnd ?_ ?_
   refine wN (fun _ => ?_); (try (exfalso; omega))
   refine uA (aoR fun _ => ?_)
   refine q11 ?_; refine q13 ?_; refine q46 ?_; refine q11 ?_
   apply spT; exact rfl
   intro hc_; refine q1
   apply spT; exact rfl
   intro hc_; refine q1
   apply spT; exact rfl
   intro hc_; refine q7; refine q4 ?_; refine q11 ?_
   apply spT; exact rfl
   intro hc_
   have hp_ := hc_; try simp only [nrm] at hp_
   apply vC; (exact EvM.plain rfl rfl); exact .fn _ _ _; exact vY; (exact hkn)
   refine q4 ?_; refine q12 ?_; refine uC (uB ?_); refine uG ?_; refine uN ?_; rotate_left
   refine wI (fun _ => ?_); (try (exfalso; omega))
   exact uY rfl (by simp)
end Go.Proofs.YtnkocjkkefnelaaGreat
