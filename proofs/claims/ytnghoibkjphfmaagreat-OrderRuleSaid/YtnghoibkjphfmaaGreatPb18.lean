/- The laws OrderPaired, OrderRule, walked in plain data. -/
import Derived.Test.YtnghoibkjphfmaaGreatPb3
import Derived.Test.YtnghoibkjphfmaaGreatPb17
set_option maxRecDepth 100000
set_option linter.unusedVariables false
set_option linter.unusedSimpArgs false
namespace Go.Proofs.YtnghoibkjphfmaaGreat
open Go.RowKit
set_option maxHeartbeats 4000000 in
theorem lawPaired_p (x : Ex) (b : Int) (hx : x.ok) (hbw : -9223372036854775808 ≤ b ∧ b ≤ 9223372036854775807) : Pure E.P 7 [exOV x, .int .i64 b] (.bool true) := by
  have hwd := wide_p x hx
  have hkn := known7_p
  refine fn_of_awp Tryz.func7 (by decide) rfl Tryz.ntmps7 (Nat.le_of_ble_eq_true rfl) rfl ?_
  cases hw : wideB x with
  | true =>
    rw [hw] at hwd
    refine awp_seq ?_
    (refine ao_region ?_ (fun _ => ?_); exact rfl)
    refine q40 ?_; refine q12 ?_; refine ao_nil ?_; refine then_n ?_
    iterate 2 refine awp_seq ?_
    (refine ao_region ?_ (fun _ => ?_); exact rfl)
    refine q14 ?_
    ((first
      | (apply S_call; exact rfl; exact .fn _ _ _; exact rfl; (first | exact hwd | exact hkn))
      | (apply D_call; exact rfl; exact .fn _ _ _; exact rfl; (first | exact hwd | exact hkn))))
    refine q11 ?_
    (apply spec_f; exact rfl; exact rfl)
    (refine im_any fun hc_ => ?_; try have hc1_ := (band hc_).1)
    refine q2
    (apply spec_f; exact rfl; exact rfl)
    (refine im_any fun hc_ => ?_; try have hc1_ := (band hc_).1)
    refine q3
    (apply spec_f; exact rfl; exact rfl)
    (refine im_any fun hc_ => ?_; try have hc1_ := (band hc_).1)
    refine q18
    (apply spec_f; exact rfl; exact rfl)
    (refine im_any fun hc_ => ?_; try have hc1_ := (band hc_).1)
    refine q35; refine q0 ?_; refine ao_nil ?_; refine then_n ?_
    (apply awp_cond; exact rfl)
    (refine im_ot (fun hc_ => ?_); (try simp only [Bool.not_eq_true', Bool.not_eq_false', Bool.or_eq_true, Bool.and_eq_true, Bool.or_eq_false_iff, Bool.and_eq_false_iff, decide_eq_true_eq, decide_eq_false_iff_not, Decidable.not_not, Int.not_lt, Int.not_le, Bool.not_true, Bool.not_false, Bool.true_and, Bool.and_true, Bool.false_or, Bool.or_false, Bool.true_or, Bool.false_and, bne_eq_false_iff_eq, bne_iff_ne, beq_iff_eq, beq_eq_false_iff_ne, decide_eq_decide] at hc_))
    refine awp_seq ?_
    (refine ao_region ?_ (fun _ => ?_); exact rfl)
    ((first
      | (apply S_call; exact rfl; exact .fn _ _ _; exact rfl; (first | exact hwd | exact hkn))
      | (apply D_call; exact rfl; exact .fn _ _ _; exact rfl; (first | exact hwd | exact hkn))))
    refine q12 ?_; refine ao_nil ?_; refine then_n ?_; refine awp_ret ?_; refine then_r ?_
    rotate_left
    refine im_of ?_
    exact im_tf
    exact done_b rfl rfl
  | false =>
    rw [hw] at hwd
    obtain ⟨hfit, hl⟩ := fit_of hx hw
    have hP := Paired_p x hfit b
    have hC := rcheck_p x hx (fun e he => (hx.2.1 e he).bare)
    by_cases hg : checkI x = 0 ∧ 0 ≤ b ∧ b < x.evs.length
    · obtain ⟨hc, g1, g2⟩ := hg
      rw [hc] at hC
      obtain ⟨n, rfl⟩ := nonneg_nat g1
      have hR := rpaired_p x (rok_of hx hc) n (by omega)
      by_cases h0 : 0 ≤ pairedI x n
      · have e : pairedR x n = (pairedI x n, true) := by unfold pairedR; rw [Int.toNat_natCast, if_pos ⟨hc, by omega, by omega, h0⟩]
        rw [e] at hP
        refine awp_seq ?_
        (refine ao_region ?_ (fun _ => ?_); exact rfl)
        refine q40 ?_; refine q12 ?_; refine ao_nil ?_; refine then_n ?_
        iterate 2 refine awp_seq ?_
        (refine ao_region ?_ (fun _ => ?_); exact rfl)
        refine q14 ?_
        ((first
          | (apply S_call; exact rfl; exact .fn _ _ _; exact rfl; (first | exact hwd | exact hkn | exact hP | exact hC | exact hR))
          | (apply D_call; exact rfl; exact .fn _ _ _; exact rfl; (first | exact hwd | exact hkn | exact hP | exact hC | exact hR))))
        refine q11 ?_
        (apply spec_f; exact rfl; exact rfl)
        (refine im_any fun hc_ => ?_; try have hc1_ := (band hc_).1)
        refine q2
        (apply spec_f; exact rfl; exact rfl)
        (refine im_any fun hc_ => ?_; try have hc1_ := (band hc_).1)
        refine q3
        (apply spec_f; exact rfl; exact rfl)
        (refine im_any fun hc_ => ?_; try have hc1_ := (band hc_).1)
        refine q18
        (apply spec_f; exact rfl; exact rfl)
        (refine im_any fun hc_ => ?_; try have hc1_ := (band hc_).1)
        refine q35; refine q0 ?_; refine ao_nil ?_; refine then_n ?_
        (apply awp_cond; exact rfl)
        (refine im_ot (fun hc_ => ?_); (try simp only [Bool.not_eq_true', Bool.not_eq_false', Bool.or_eq_true, Bool.and_eq_true, Bool.or_eq_false_iff, Bool.and_eq_false_iff, decide_eq_true_eq, decide_eq_false_iff_not, Decidable.not_not, Int.not_lt, Int.not_le, Bool.not_true, Bool.not_false, Bool.true_and, Bool.and_true, Bool.false_or, Bool.or_false, Bool.true_or, Bool.false_and, bne_eq_false_iff_eq, bne_iff_ne, beq_iff_eq, beq_eq_false_iff_ne, decide_eq_decide] at hc_))
        refine awp_seq ?_
        (refine ao_region ?_ (fun _ => ?_); exact rfl)
        ((first
          | (apply S_call; exact rfl; exact .fn _ _ _; exact rfl; (first | exact hwd | exact hkn | exact hP | exact hC | exact hR))
          | (apply D_call; exact rfl; exact .fn _ _ _; exact rfl; (first | exact hwd | exact hkn | exact hP | exact hC | exact hR))))
        refine q12 ?_; refine ao_nil ?_; refine then_n ?_; refine awp_ret ?_; refine then_r ?_
        rotate_left
        refine im_of ?_; refine im_ff ?_
        (refine im_df (fun _ => ?_); (try (exfalso; omega)))
        refine awp_skip ?_; refine then_n ?_; refine awp_seq ?_
        (refine ao_region ?_ (fun _ => ?_); exact rfl)
        refine q14 ?_; refine q11 ?_
        ((first
          | (apply S_call; exact rfl; exact .fn _ _ _; exact rfl; (first | exact hwd | exact hkn | exact hP | exact hC | exact hR))
          | (apply D_call; exact rfl; exact .fn _ _ _; exact rfl; (first | exact hwd | exact hkn | exact hP | exact hC | exact hR))))
        refine q11 ?_
        iterate 2 (apply S_extract; exact rfl; exact rfl)
        iterate 2 refine q12 ?_
        refine ao_nil ?_; refine then_n ?_
        iterate 2 refine awp_seq ?_
        (refine ao_region ?_ (fun _ => ?_); exact rfl)
        refine q14 ?_
        ((first
          | (apply S_call; exact rfl; exact .fn _ _ _; exact rfl; (first | exact hwd | exact hkn | exact hP | exact hC | exact hR))
          | (apply D_call; exact rfl; exact .fn _ _ _; exact rfl; (first | exact hwd | exact hkn | exact hP | exact hC | exact hR))))
        refine q44 ?_; refine q11 ?_
        (apply spec_f; exact rfl; exact rfl)
        (refine im_any fun hc_ => ?_; try have hc1_ := (band hc_).1)
        refine q1
        (apply spec_f; exact rfl; exact rfl)
        (refine im_any fun hc_ => ?_; try have hc1_ := (band hc_).1)
        refine q22; refine q0 ?_; refine q11 ?_
        (apply spec_f; exact rfl; exact rfl)
        (refine im_any fun hc_ => ?_; try have hc1_ := (band hc_).1)
        refine q1
        (apply spec_f; exact rfl; exact rfl)
        (refine im_any fun hc_ => ?_; try have hc1_ := (band hc_).1)
        refine q2
        (apply spec_f; exact rfl; exact rfl)
        (refine im_any fun hc_ => ?_; try have hc1_ := (band hc_).1)
        refine q3
        (apply spec_f; exact rfl; exact rfl)
        (refine im_any fun hc_ => ?_; try have hc1_ := (band hc_).1)
        refine q18
        (apply spec_f; exact rfl; exact rfl)
        (refine im_any fun hc_ => ?_; try have hc1_ := (band hc_).1)
        refine q21; refine q0 ?_; refine ao_nil ?_; refine then_n ?_
        (apply awp_cond; exact rfl)
        (refine im_ot (fun hc_ => ?_); (try simp only [Bool.not_eq_true', Bool.not_eq_false', Bool.or_eq_true, Bool.and_eq_true, Bool.or_eq_false_iff, Bool.and_eq_false_iff, decide_eq_true_eq, decide_eq_false_iff_not, Decidable.not_not, Int.not_lt, Int.not_le, Bool.not_true, Bool.not_false, Bool.true_and, Bool.and_true, Bool.false_or, Bool.or_false, Bool.true_or, Bool.false_and, bne_eq_false_iff_eq, bne_iff_ne, beq_iff_eq, beq_eq_false_iff_ne, decide_eq_decide] at hc_))
        refine awp_seq ?_
        (refine ao_region ?_ (fun _ => ?_); exact rfl)
        refine q11 ?_; refine q46 ?_; refine q11 ?_
        (apply spec_t; exact rfl; exact rfl)
        (refine im_any fun hc_ => ?_; try have hc1_ := (band hc_).1)
        refine q1
        (apply spec_t; exact rfl; exact rfl)
        (refine im_any fun hc_ => ?_; try have hc1_ := (band hc_).1)
        refine q42; refine q4 ?_; refine q11 ?_
        (apply spec_t; exact rfl; exact rfl)
        (refine im_any fun hc_ => ?_; try have hc1_ := (band hc_).1)
        ((have hp_ := hc_; (try simp only [Bool.not_eq_true', Bool.not_eq_false', Bool.or_eq_true, Bool.and_eq_true, Bool.or_eq_false_iff, Bool.and_eq_false_iff, decide_eq_true_eq, decide_eq_false_iff_not, Decidable.not_not, Int.not_lt, Int.not_le, Bool.not_true, Bool.not_false, Bool.true_and, Bool.and_true, Bool.false_or, Bool.or_false, Bool.true_or, Bool.false_and, bne_eq_false_iff_eq, bne_iff_ne, beq_iff_eq, beq_eq_false_iff_ne, decide_eq_decide] at hp_)))
        ((apply M_call; (first | (refine EvM.mb _ rfl ?_; first | assumption | exact rfl) | exact EvM.plain rfl rfl); exact .fn _ _ _; (repeat (first | exact EvsM.nil | (apply EvsM.cons; first | (refine EvM.mb _ rfl ?_; first | assumption | exact rfl) | exact EvM.plain rfl rfl))); (first | exact hwd | exact hkn | exact hP | exact hC | exact hR)))
        refine q4 ?_; refine q12 ?_; refine ao_nil ?_; refine then_n ?_; refine awp_ret ?_; refine then_r ?_
        rotate_left
        iterate 2 refine im_of ?_
        (refine im_nf (fun _ => ?_); (try (exfalso; omega)))
        iterate 2 (refine im_df (fun _ => ?_); (try (exfalso; omega)))
        refine awp_skip ?_; refine then_n ?_; refine awp_seq ?_
        (refine ao_region ?_ (fun _ => ?_); exact rfl)
        refine q14 ?_; refine q11 ?_
        ((first
          | (apply S_call; exact rfl; exact .fn _ _ _; exact rfl; (first | exact hwd | exact hkn | exact hP | exact hC | exact hR))
          | (apply D_call; exact rfl; exact .fn _ _ _; exact rfl; (first | exact hwd | exact hkn | exact hP | exact hC | exact hR))))
        refine q12 ?_; refine ao_nil ?_; refine then_n ?_; refine awp_seq ?_
        (refine ao_region ?_ (fun _ => ?_); exact rfl)
        iterate 2 refine q11 ?_
        (apply S_geq; exact rfl; exact rfl)
        (apply S_eqlB; exact rfl; exact rfl; exact rfl; exact rfl)
        refine q11 ?_
        (apply spec_t; exact rfl; exact rfl)
        (refine im_any fun hc_ => ?_; try have hc1_ := (band hc_).1)
        refine q1
        (apply spec_t; exact rfl; exact rfl)
        (refine im_any fun hc_ => ?_; try have hc1_ := (band hc_).1)
        refine q1
        (apply spec_t; exact rfl; exact rfl)
        (refine im_any fun hc_ => ?_; try have hc1_ := (band hc_).1)
        (apply M_max; (first | (refine EvM.mb _ rfl ?_; first | assumption | exact rfl) | exact EvM.plain rfl rfl); (first | (refine EvM.mb _ rfl ?_; first | assumption | exact rfl) | exact EvM.plain rfl rfl))
        (apply spec_t; exact rfl; exact rfl)
        (refine im_any fun hc_ => ?_; try have hc1_ := (band hc_).1)
        refine q7; refine q4 ?_; refine q11 ?_
        (apply spec_t; exact rfl; exact rfl)
        (refine im_any fun hc_ => ?_; try have hc1_ := (band hc_).1)
        ((have hp_ := hc_; (try simp only [Bool.not_eq_true', Bool.not_eq_false', Bool.or_eq_true, Bool.and_eq_true, Bool.or_eq_false_iff, Bool.and_eq_false_iff, decide_eq_true_eq, decide_eq_false_iff_not, Decidable.not_not, Int.not_lt, Int.not_le, Bool.not_true, Bool.not_false, Bool.true_and, Bool.and_true, Bool.false_or, Bool.or_false, Bool.true_or, Bool.false_and, bne_eq_false_iff_eq, bne_iff_ne, beq_iff_eq, beq_eq_false_iff_ne, decide_eq_decide] at hp_)))
        ((apply M_call; (first | (refine EvM.mb _ rfl ?_; first | assumption | exact rfl) | exact EvM.plain rfl rfl); exact .fn _ _ _; (repeat (first | exact EvsM.nil | (apply EvsM.cons; first | (refine EvM.mb _ rfl ?_; first | assumption | exact rfl) | exact EvM.plain rfl rfl))); (first | exact hwd | exact hkn | exact hP | exact hC | exact hR)))
        refine q4 ?_; refine q12 ?_; refine ao_nil ?_; refine then_n ?_; refine awp_ret ?_
        rotate_left
        all_goals first | exact done_b rfl rfl | (exfalso; omega) | (exfalso; dsimp only at *; omega) | (exfalso; rcases hc_ with (h9 | h9) | h9 <;> first | exact h9 trivial | omega) | (refine done_b rfl ?_; (simp [*]; done)) | (refine done_b rfl ?_; simp [*]; omega)
      · have e : pairedR x n = (0, false) := by unfold pairedR; rw [Int.toNat_natCast, if_neg (fun h => h0 h.2.2.2)]
        rw [e] at hP
        refine awp_seq ?_
        (refine ao_region ?_ (fun _ => ?_); exact rfl)
        refine q40 ?_; refine q12 ?_; refine ao_nil ?_; refine then_n ?_
        iterate 2 refine awp_seq ?_
        (refine ao_region ?_ (fun _ => ?_); exact rfl)
        refine q14 ?_
        ((first
          | (apply S_call; exact rfl; exact .fn _ _ _; exact rfl; (first | exact hwd | exact hkn | exact hP | exact hC | exact hR))
          | (apply D_call; exact rfl; exact .fn _ _ _; exact rfl; (first | exact hwd | exact hkn | exact hP | exact hC | exact hR))))
        refine q11 ?_
        (apply spec_f; exact rfl; exact rfl)
        (refine im_any fun hc_ => ?_; try have hc1_ := (band hc_).1)
        refine q2
        (apply spec_f; exact rfl; exact rfl)
        (refine im_any fun hc_ => ?_; try have hc1_ := (band hc_).1)
        refine q3
        (apply spec_f; exact rfl; exact rfl)
        (refine im_any fun hc_ => ?_; try have hc1_ := (band hc_).1)
        refine q18
        (apply spec_f; exact rfl; exact rfl)
        (refine im_any fun hc_ => ?_; try have hc1_ := (band hc_).1)
        refine q35; refine q0 ?_; refine ao_nil ?_; refine then_n ?_
        (apply awp_cond; exact rfl)
        (refine im_ot (fun hc_ => ?_); (try simp only [Bool.not_eq_true', Bool.not_eq_false', Bool.or_eq_true, Bool.and_eq_true, Bool.or_eq_false_iff, Bool.and_eq_false_iff, decide_eq_true_eq, decide_eq_false_iff_not, Decidable.not_not, Int.not_lt, Int.not_le, Bool.not_true, Bool.not_false, Bool.true_and, Bool.and_true, Bool.false_or, Bool.or_false, Bool.true_or, Bool.false_and, bne_eq_false_iff_eq, bne_iff_ne, beq_iff_eq, beq_eq_false_iff_ne, decide_eq_decide] at hc_))
        refine awp_seq ?_
        (refine ao_region ?_ (fun _ => ?_); exact rfl)
        ((first
          | (apply S_call; exact rfl; exact .fn _ _ _; exact rfl; (first | exact hwd | exact hkn | exact hP | exact hC | exact hR))
          | (apply D_call; exact rfl; exact .fn _ _ _; exact rfl; (first | exact hwd | exact hkn | exact hP | exact hC | exact hR))))
        refine q12 ?_; refine ao_nil ?_; refine then_n ?_; refine awp_ret ?_; refine then_r ?_
        rotate_left
        refine im_of ?_; refine im_ff ?_
        (refine im_df (fun _ => ?_); (try (exfalso; omega)))
        refine awp_skip ?_; refine then_n ?_; refine awp_seq ?_
        (refine ao_region ?_ (fun _ => ?_); exact rfl)
        refine q14 ?_; refine q11 ?_
        ((first
          | (apply S_call; exact rfl; exact .fn _ _ _; exact rfl; (first | exact hwd | exact hkn | exact hP | exact hC | exact hR))
          | (apply D_call; exact rfl; exact .fn _ _ _; exact rfl; (first | exact hwd | exact hkn | exact hP | exact hC | exact hR))))
        refine q11 ?_
        iterate 2 (apply S_extract; exact rfl; exact rfl)
        iterate 2 refine q12 ?_
        refine ao_nil ?_; refine then_n ?_
        iterate 2 refine awp_seq ?_
        (refine ao_region ?_ (fun _ => ?_); exact rfl)
        refine q14 ?_
        ((first
          | (apply S_call; exact rfl; exact .fn _ _ _; exact rfl; (first | exact hwd | exact hkn | exact hP | exact hC | exact hR))
          | (apply D_call; exact rfl; exact .fn _ _ _; exact rfl; (first | exact hwd | exact hkn | exact hP | exact hC | exact hR))))
        refine q44 ?_; refine q11 ?_
        (apply spec_f; exact rfl; exact rfl)
        (refine im_any fun hc_ => ?_; try have hc1_ := (band hc_).1)
        refine q1
        (apply spec_f; exact rfl; exact rfl)
        (refine im_any fun hc_ => ?_; try have hc1_ := (band hc_).1)
        refine q22; refine q0 ?_; refine q11 ?_
        (apply spec_f; exact rfl; exact rfl)
        (refine im_any fun hc_ => ?_; try have hc1_ := (band hc_).1)
        refine q1
        (apply spec_f; exact rfl; exact rfl)
        (refine im_any fun hc_ => ?_; try have hc1_ := (band hc_).1)
        refine q2
        (apply spec_f; exact rfl; exact rfl)
        (refine im_any fun hc_ => ?_; try have hc1_ := (band hc_).1)
        refine q3
        (apply spec_f; exact rfl; exact rfl)
        (refine im_any fun hc_ => ?_; try have hc1_ := (band hc_).1)
        refine q18
        (apply spec_f; exact rfl; exact rfl)
        (refine im_any fun hc_ => ?_; try have hc1_ := (band hc_).1)
        refine q21; refine q0 ?_; refine ao_nil ?_; refine then_n ?_
        (apply awp_cond; exact rfl)
        (refine im_ot (fun hc_ => ?_); (try simp only [Bool.not_eq_true', Bool.not_eq_false', Bool.or_eq_true, Bool.and_eq_true, Bool.or_eq_false_iff, Bool.and_eq_false_iff, decide_eq_true_eq, decide_eq_false_iff_not, Decidable.not_not, Int.not_lt, Int.not_le, Bool.not_true, Bool.not_false, Bool.true_and, Bool.and_true, Bool.false_or, Bool.or_false, Bool.true_or, Bool.false_and, bne_eq_false_iff_eq, bne_iff_ne, beq_iff_eq, beq_eq_false_iff_ne, decide_eq_decide] at hc_))
        refine awp_seq ?_
        (refine ao_region ?_ (fun _ => ?_); exact rfl)
        refine q11 ?_; refine q46 ?_; refine q11 ?_
        (apply spec_t; exact rfl; exact rfl)
        (refine im_any fun hc_ => ?_; try have hc1_ := (band hc_).1)
        refine q1
        (apply spec_t; exact rfl; exact rfl)
        (refine im_any fun hc_ => ?_; try have hc1_ := (band hc_).1)
        refine q42; refine q4 ?_; refine q11 ?_
        (apply spec_t; exact rfl; exact rfl)
        (refine im_any fun hc_ => ?_; try have hc1_ := (band hc_).1)
        ((have hp_ := hc_; (try simp only [Bool.not_eq_true', Bool.not_eq_false', Bool.or_eq_true, Bool.and_eq_true, Bool.or_eq_false_iff, Bool.and_eq_false_iff, decide_eq_true_eq, decide_eq_false_iff_not, Decidable.not_not, Int.not_lt, Int.not_le, Bool.not_true, Bool.not_false, Bool.true_and, Bool.and_true, Bool.false_or, Bool.or_false, Bool.true_or, Bool.false_and, bne_eq_false_iff_eq, bne_iff_ne, beq_iff_eq, beq_eq_false_iff_ne, decide_eq_decide] at hp_)))
        ((apply M_call; (first | (refine EvM.mb _ rfl ?_; first | assumption | exact rfl) | exact EvM.plain rfl rfl); exact .fn _ _ _; (repeat (first | exact EvsM.nil | (apply EvsM.cons; first | (refine EvM.mb _ rfl ?_; first | assumption | exact rfl) | exact EvM.plain rfl rfl))); (first | exact hwd | exact hkn | exact hP | exact hC | exact hR)))
        refine q4 ?_; refine q12 ?_; refine ao_nil ?_; refine then_n ?_; refine awp_ret ?_; refine then_r ?_
        rotate_left
        iterate 2 refine im_of ?_
        (refine im_nf (fun _ => ?_); (try (exfalso; omega)))
        iterate 2 (refine im_df (fun _ => ?_); (try (exfalso; omega)))
        refine awp_skip ?_; refine then_n ?_; refine awp_seq ?_
        (refine ao_region ?_ (fun _ => ?_); exact rfl)
        refine q14 ?_; refine q11 ?_
        ((first
          | (apply S_call; exact rfl; exact .fn _ _ _; exact rfl; (first | exact hwd | exact hkn | exact hP | exact hC | exact hR))
          | (apply D_call; exact rfl; exact .fn _ _ _; exact rfl; (first | exact hwd | exact hkn | exact hP | exact hC | exact hR))))
        refine q12 ?_; refine ao_nil ?_; refine then_n ?_; refine awp_seq ?_
        (refine ao_region ?_ (fun _ => ?_); exact rfl)
        iterate 2 refine q11 ?_
        (apply S_geq; exact rfl; exact rfl)
        (apply S_eqlB; exact rfl; exact rfl; exact rfl; exact rfl)
        refine q11 ?_
        (apply spec_t; exact rfl; exact rfl)
        (refine im_any fun hc_ => ?_; try have hc1_ := (band hc_).1)
        refine q1
        (apply spec_t; exact rfl; exact rfl)
        (refine im_any fun hc_ => ?_; try have hc1_ := (band hc_).1)
        refine q1
        (apply spec_t; exact rfl; exact rfl)
        (refine im_any fun hc_ => ?_; try have hc1_ := (band hc_).1)
        (apply M_max; (first | (refine EvM.mb _ rfl ?_; first | assumption | exact rfl) | exact EvM.plain rfl rfl); (first | (refine EvM.mb _ rfl ?_; first | assumption | exact rfl) | exact EvM.plain rfl rfl))
        (apply spec_t; exact rfl; exact rfl)
        (refine im_any fun hc_ => ?_; try have hc1_ := (band hc_).1)
        refine q7; refine q4 ?_; refine q11 ?_
        (apply spec_t; exact rfl; exact rfl)
        (refine im_any fun hc_ => ?_; try have hc1_ := (band hc_).1)
        ((have hp_ := hc_; (try simp only [Bool.not_eq_true', Bool.not_eq_false', Bool.or_eq_true, Bool.and_eq_true, Bool.or_eq_false_iff, Bool.and_eq_false_iff, decide_eq_true_eq, decide_eq_false_iff_not, Decidable.not_not, Int.not_lt, Int.not_le, Bool.not_true, Bool.not_false, Bool.true_and, Bool.and_true, Bool.false_or, Bool.or_false, Bool.true_or, Bool.false_and, bne_eq_false_iff_eq, bne_iff_ne, beq_iff_eq, beq_eq_false_iff_ne, decide_eq_decide] at hp_)))
        ((apply M_call; (first | (refine EvM.mb _ rfl ?_; first | assumption | exact rfl) | exact EvM.plain rfl rfl); exact .fn _ _ _; (repeat (first | exact EvsM.nil | (apply EvsM.cons; first | (refine EvM.mb _ rfl ?_; first | assumption | exact rfl) | exact EvM.plain rfl rfl))); (first | exact hwd | exact hkn | exact hP | exact hC | exact hR)))
        refine q4 ?_; refine q12 ?_; refine ao_nil ?_; refine then_n ?_; refine awp_ret ?_
        rotate_left
        all_goals first | exact done_b rfl rfl | (exfalso; omega) | (exfalso; dsimp only at *; omega) | (exfalso; rcases hc_ with (h9 | h9) | h9 <;> first | exact h9 trivial | omega) | (refine done_b rfl ?_; (simp [*]; done)) | (refine done_b rfl ?_; simp [*]; omega)
    · have e : pairedR x b = (0, false) := by unfold pairedR; rw [if_neg (fun h => hg ⟨h.1, h.2.1, h.2.2.1⟩)]
      rw [e] at hP
      refine awp_seq ?_
      (refine ao_region ?_ (fun _ => ?_); exact rfl)
      refine q40 ?_; refine q12 ?_; refine ao_nil ?_; refine then_n ?_
      iterate 2 refine awp_seq ?_
      (refine ao_region ?_ (fun _ => ?_); exact rfl)
      refine q14 ?_
      ((first
        | (apply S_call; exact rfl; exact .fn _ _ _; exact rfl; (first | exact hwd | exact hkn | exact hP | exact hC))
        | (apply D_call; exact rfl; exact .fn _ _ _; exact rfl; (first | exact hwd | exact hkn | exact hP | exact hC))))
      refine q11 ?_
      (apply spec_f; exact rfl; exact rfl)
      (refine im_any fun hc_ => ?_; try have hc1_ := (band hc_).1)
      refine q2
      (apply spec_f; exact rfl; exact rfl)
      (refine im_any fun hc_ => ?_; try have hc1_ := (band hc_).1)
      refine q3
      (apply spec_f; exact rfl; exact rfl)
      (refine im_any fun hc_ => ?_; try have hc1_ := (band hc_).1)
      refine q18
      (apply spec_f; exact rfl; exact rfl)
      (refine im_any fun hc_ => ?_; try have hc1_ := (band hc_).1)
      refine q35; refine q0 ?_; refine ao_nil ?_; refine then_n ?_
      (apply awp_cond; exact rfl)
      (refine im_ot (fun hc_ => ?_); (try simp only [Bool.not_eq_true', Bool.not_eq_false', Bool.or_eq_true, Bool.and_eq_true, Bool.or_eq_false_iff, Bool.and_eq_false_iff, decide_eq_true_eq, decide_eq_false_iff_not, Decidable.not_not, Int.not_lt, Int.not_le, Bool.not_true, Bool.not_false, Bool.true_and, Bool.and_true, Bool.false_or, Bool.or_false, Bool.true_or, Bool.false_and, bne_eq_false_iff_eq, bne_iff_ne, beq_iff_eq, beq_eq_false_iff_ne, decide_eq_decide] at hc_))
      refine awp_seq ?_
      (refine ao_region ?_ (fun _ => ?_); exact rfl)
      ((first
        | (apply S_call; exact rfl; exact .fn _ _ _; exact rfl; (first | exact hwd | exact hkn | exact hP | exact hC))
        | (apply D_call; exact rfl; exact .fn _ _ _; exact rfl; (first | exact hwd | exact hkn | exact hP | exact hC))))
      refine q12 ?_; refine ao_nil ?_; refine then_n ?_; refine awp_ret ?_; refine then_r ?_
      rotate_left
      refine im_of ?_; refine im_ff ?_
      (refine im_df (fun _ => ?_); (try (exfalso; omega)))
      refine awp_skip ?_; refine then_n ?_; refine awp_seq ?_
      (refine ao_region ?_ (fun _ => ?_); exact rfl)
      refine q14 ?_; refine q11 ?_
      ((first
        | (apply S_call; exact rfl; exact .fn _ _ _; exact rfl; (first | exact hwd | exact hkn | exact hP | exact hC))
        | (apply D_call; exact rfl; exact .fn _ _ _; exact rfl; (first | exact hwd | exact hkn | exact hP | exact hC))))
      refine q11 ?_
      iterate 2 (apply S_extract; exact rfl; exact rfl)
      iterate 2 refine q12 ?_
      refine ao_nil ?_; refine then_n ?_
      iterate 2 refine awp_seq ?_
      (refine ao_region ?_ (fun _ => ?_); exact rfl)
      refine q14 ?_
      ((first
        | (apply S_call; exact rfl; exact .fn _ _ _; exact rfl; (first | exact hwd | exact hkn | exact hP | exact hC))
        | (apply D_call; exact rfl; exact .fn _ _ _; exact rfl; (first | exact hwd | exact hkn | exact hP | exact hC))))
      refine q44 ?_; refine q11 ?_
      (apply spec_f; exact rfl; exact rfl)
      (refine im_any fun hc_ => ?_; try have hc1_ := (band hc_).1)
      refine q1
      (apply spec_f; exact rfl; exact rfl)
      (refine im_any fun hc_ => ?_; try have hc1_ := (band hc_).1)
      refine q22; refine q0 ?_; refine q11 ?_
      (apply spec_f; exact rfl; exact rfl)
      (refine im_any fun hc_ => ?_; try have hc1_ := (band hc_).1)
      refine q1
      (apply spec_f; exact rfl; exact rfl)
      (refine im_any fun hc_ => ?_; try have hc1_ := (band hc_).1)
      refine q2
      (apply spec_f; exact rfl; exact rfl)
      (refine im_any fun hc_ => ?_; try have hc1_ := (band hc_).1)
      refine q3
      (apply spec_f; exact rfl; exact rfl)
      (refine im_any fun hc_ => ?_; try have hc1_ := (band hc_).1)
      refine q18
      (apply spec_f; exact rfl; exact rfl)
      (refine im_any fun hc_ => ?_; try have hc1_ := (band hc_).1)
      refine q21; refine q0 ?_; refine ao_nil ?_; refine then_n ?_
      (apply awp_cond; exact rfl)
      (refine im_ot (fun hc_ => ?_); (try simp only [Bool.not_eq_true', Bool.not_eq_false', Bool.or_eq_true, Bool.and_eq_true, Bool.or_eq_false_iff, Bool.and_eq_false_iff, decide_eq_true_eq, decide_eq_false_iff_not, Decidable.not_not, Int.not_lt, Int.not_le, Bool.not_true, Bool.not_false, Bool.true_and, Bool.and_true, Bool.false_or, Bool.or_false, Bool.true_or, Bool.false_and, bne_eq_false_iff_eq, bne_iff_ne, beq_iff_eq, beq_eq_false_iff_ne, decide_eq_decide] at hc_))
      refine awp_seq ?_
      (refine ao_region ?_ (fun _ => ?_); exact rfl)
      refine q11 ?_; refine q46 ?_; refine q11 ?_
      (apply spec_t; exact rfl; exact rfl)
      (refine im_any fun hc_ => ?_; try have hc1_ := (band hc_).1)
      refine q1
      (apply spec_t; exact rfl; exact rfl)
      (refine im_any fun hc_ => ?_; try have hc1_ := (band hc_).1)
      refine q42; refine q4 ?_; refine q11 ?_
      (apply spec_t; exact rfl; exact rfl)
      (refine im_any fun hc_ => ?_; try have hc1_ := (band hc_).1)
      ((have hp_ := hc_; (try simp only [Bool.not_eq_true', Bool.not_eq_false', Bool.or_eq_true, Bool.and_eq_true, Bool.or_eq_false_iff, Bool.and_eq_false_iff, decide_eq_true_eq, decide_eq_false_iff_not, Decidable.not_not, Int.not_lt, Int.not_le, Bool.not_true, Bool.not_false, Bool.true_and, Bool.and_true, Bool.false_or, Bool.or_false, Bool.true_or, Bool.false_and, bne_eq_false_iff_eq, bne_iff_ne, beq_iff_eq, beq_eq_false_iff_ne, decide_eq_decide] at hp_)))
      ((apply M_call; (first | (refine EvM.mb _ rfl ?_; first | assumption | exact rfl) | exact EvM.plain rfl rfl); exact .fn _ _ _; (repeat (first | exact EvsM.nil | (apply EvsM.cons; first | (refine EvM.mb _ rfl ?_; first | assumption | exact rfl) | exact EvM.plain rfl rfl))); (first | exact hwd | exact hkn | exact hP | exact hC)))
      refine q4 ?_; refine q12 ?_; refine ao_nil ?_; refine then_n ?_; refine awp_ret ?_; refine then_r ?_
      rotate_left
      iterate 2 refine im_of ?_
      (refine im_nf (fun _ => ?_); (try (exfalso; omega)))
      iterate 2 (refine im_df (fun _ => ?_); (try (exfalso; omega)))
      all_goals first | exact done_b rfl rfl | (exfalso; omega) | (exfalso; dsimp only at *; omega) | (exfalso; rcases hc_ with (h9 | h9) | h9 <;> first | exact h9 trivial | omega) | (refine done_b rfl ?_; (simp [*]; done)) | (refine done_b rfl ?_; simp [*]; omega)
set_option maxHeartbeats 4000000 in
theorem lawRule_p (x : Ex) (r : Int) (p : Int × Int) (hx : x.ok) (hrw : -9223372036854775808 ≤ r ∧ r ≤ 9223372036854775807) : Pure E.P 10 [exOV x, .int .i64 r, .ag (pairO' p)] (.bool true) := by
  have hwd := wide_p x hx
  have hkn := known7_p
  refine fn_of_awp Tryz.func10 (by decide) rfl Tryz.ntmps10 (Nat.le_of_ble_eq_true rfl) rfl ?_
  cases hw : wideB x with
  | true =>
    rw [hw] at hwd
    refine awp_seq ?_
    (refine ao_region ?_ (fun _ => ?_); exact rfl)
    iterate 2 refine q40 ?_
    refine q12 ?_; refine ao_nil ?_; refine then_n ?_
    iterate 2 refine awp_seq ?_
    (refine ao_region ?_ (fun _ => ?_); exact rfl)
    refine q14 ?_
    ((first
      | (apply S_call; exact rfl; exact .fn _ _ _; exact rfl; (first | exact hwd | exact hkn))
      | (apply D_call; exact rfl; exact .fn _ _ _; exact rfl; (first | exact hwd | exact hkn))))
    refine q11 ?_
    (apply spec_f; exact rfl; exact rfl)
    (refine im_any fun hc_ => ?_; try have hc1_ := (band hc_).1)
    refine q2
    (apply spec_f; exact rfl; exact rfl)
    (refine im_any fun hc_ => ?_; try have hc1_ := (band hc_).1)
    refine q3
    (apply spec_f; exact rfl; exact rfl)
    (refine im_any fun hc_ => ?_; try have hc1_ := (band hc_).1)
    refine q18
    (apply spec_f; exact rfl; exact rfl)
    (refine im_any fun hc_ => ?_; try have hc1_ := (band hc_).1)
    refine q35; refine q0 ?_; refine ao_nil ?_; refine then_n ?_
    (apply awp_cond; exact rfl)
    (refine im_ot (fun hc_ => ?_); (try simp only [Bool.not_eq_true', Bool.not_eq_false', Bool.or_eq_true, Bool.and_eq_true, Bool.or_eq_false_iff, Bool.and_eq_false_iff, decide_eq_true_eq, decide_eq_false_iff_not, Decidable.not_not, Int.not_lt, Int.not_le, Bool.not_true, Bool.not_false, Bool.true_and, Bool.and_true, Bool.false_or, Bool.or_false, Bool.true_or, Bool.false_and, bne_eq_false_iff_eq, bne_iff_ne, beq_iff_eq, beq_eq_false_iff_ne, decide_eq_decide] at hc_))
    refine awp_seq ?_
    (refine ao_region ?_ (fun _ => ?_); exact rfl)
    ((first
      | (apply S_call; exact rfl; exact .fn _ _ _; exact rfl; (first | exact hwd | exact hkn))
      | (apply D_call; exact rfl; exact .fn _ _ _; exact rfl; (first | exact hwd | exact hkn))))
    refine q12 ?_; refine ao_nil ?_; refine then_n ?_; refine awp_ret ?_; refine then_r ?_
    rotate_left
    refine im_of ?_
    exact im_tf
    exact done_b rfl rfl
  | false =>
    rw [hw] at hwd
    obtain ⟨hfit, hl⟩ := fit_of hx hw
    have hP := Rule_p x hfit r p.1 p.2
    have hQ := Rules_p x hfit p.1 p.2
    have hC := rcheck_p x hx (fun e he => (hx.2.1 e he).bare)
    by_cases hc : checkI x = 0
    rotate_left
    · have e1 : ruleT x r p.1 p.2 = (false, checkI x) := by unfold ruleT; rw [if_pos hc]
      have e2 : rulesT x p.1 p.2 = ([], checkI x) := by unfold rulesT; rw [if_pos hc]
      rw [e1] at hP
      rw [e2] at hQ
      refine awp_seq ?_
      (refine ao_region ?_ (fun _ => ?_); exact rfl)
      iterate 2 refine q40 ?_
      refine q12 ?_; refine ao_nil ?_; refine then_n ?_
      iterate 2 refine awp_seq ?_
      (refine ao_region ?_ (fun _ => ?_); exact rfl)
      refine q14 ?_
      ((first
        | (apply S_call; exact rfl; exact .fn _ _ _; exact rfl; (first | exact hwd | exact hkn | exact hP | exact hC | exact hQ))
        | (apply D_call; exact rfl; exact .fn _ _ _; exact rfl; (first | exact hwd | exact hkn | exact hP | exact hC | exact hQ))))
      refine q11 ?_
      (apply spec_f; exact rfl; exact rfl)
      (refine im_any fun hc_ => ?_; try have hc1_ := (band hc_).1)
      refine q2
      (apply spec_f; exact rfl; exact rfl)
      (refine im_any fun hc_ => ?_; try have hc1_ := (band hc_).1)
      refine q3
      (apply spec_f; exact rfl; exact rfl)
      (refine im_any fun hc_ => ?_; try have hc1_ := (band hc_).1)
      refine q18
      (apply spec_f; exact rfl; exact rfl)
      (refine im_any fun hc_ => ?_; try have hc1_ := (band hc_).1)
      refine q35; refine q0 ?_; refine ao_nil ?_; refine then_n ?_
      (apply awp_cond; exact rfl)
      (refine im_ot (fun hc_ => ?_); (try simp only [Bool.not_eq_true', Bool.not_eq_false', Bool.or_eq_true, Bool.and_eq_true, Bool.or_eq_false_iff, Bool.and_eq_false_iff, decide_eq_true_eq, decide_eq_false_iff_not, Decidable.not_not, Int.not_lt, Int.not_le, Bool.not_true, Bool.not_false, Bool.true_and, Bool.and_true, Bool.false_or, Bool.or_false, Bool.true_or, Bool.false_and, bne_eq_false_iff_eq, bne_iff_ne, beq_iff_eq, beq_eq_false_iff_ne, decide_eq_decide] at hc_))
      refine awp_seq ?_
      (refine ao_region ?_ (fun _ => ?_); exact rfl)
      ((first
        | (apply S_call; exact rfl; exact .fn _ _ _; exact rfl; (first | exact hwd | exact hkn | exact hP | exact hC | exact hQ))
        | (apply D_call; exact rfl; exact .fn _ _ _; exact rfl; (first | exact hwd | exact hkn | exact hP | exact hC | exact hQ))))
      refine q12 ?_; refine ao_nil ?_; refine then_n ?_; refine awp_ret ?_; refine then_r ?_
      rotate_left
      refine im_of ?_; refine im_ff ?_
      (refine im_df (fun _ => ?_); (try (exfalso; omega)))
      refine awp_skip ?_; refine then_n ?_; refine awp_seq ?_
      (refine ao_region ?_ (fun _ => ?_); exact rfl)
      refine q14 ?_; refine q11 ?_; refine q28 ?_; refine q16 ?_; refine q28 ?_; refine q16 ?_
      ((first
        | (apply S_call; exact rfl; exact .fn _ _ _; exact rfl; (first | exact hwd | exact hkn | exact hP | exact hC | exact hQ))
        | (apply D_call; exact rfl; exact .fn _ _ _; exact rfl; (first | exact hwd | exact hkn | exact hP | exact hC | exact hQ))))
      refine q11 ?_
      iterate 2 (apply S_extract; exact rfl; exact rfl)
      iterate 2 refine q12 ?_
      refine ao_nil ?_; refine then_n ?_; refine awp_seq ?_
      (refine ao_region ?_ (fun _ => ?_); exact rfl)
      refine q14 ?_; refine q28 ?_; refine q16 ?_; refine q28 ?_; refine q16 ?_
      ((first
        | (apply S_call; exact rfl; exact .fn _ _ _; exact rfl; (first | exact hwd | exact hkn | exact hP | exact hC | exact hQ))
        | (apply D_call; exact rfl; exact .fn _ _ _; exact rfl; (first | exact hwd | exact hkn | exact hP | exact hC | exact hQ))))
      refine q11 ?_
      iterate 2 (apply S_extract; exact rfl; exact rfl)
      iterate 2 refine q12 ?_
      refine ao_nil ?_; refine then_n ?_; refine awp_seq ?_
      (refine ao_region ?_ (fun _ => ?_); exact rfl)
      refine q14 ?_
      ((first
        | (apply S_call; exact rfl; exact .fn _ _ _; exact rfl; (first | exact hwd | exact hkn | exact hP | exact hC | exact hQ))
        | (apply D_call; exact rfl; exact .fn _ _ _; exact rfl; (first | exact hwd | exact hkn | exact hP | exact hC | exact hQ))))
      refine q12 ?_; refine ao_nil ?_; refine then_n ?_
      iterate 2 refine awp_seq ?_
      (refine ao_region ?_ (fun _ => ?_); exact rfl)
      refine q11 ?_; refine q44 ?_; refine ao_nil ?_; refine then_n ?_
      (apply awp_cond; exact rfl)
      (refine im_nt (fun _ => ?_); (try (exfalso; omega)))
      refine awp_seq ?_
      (refine ao_region ?_ (fun _ => ?_); exact rfl)
      refine q11 ?_
      (apply S_not; exact rfl)
      refine q11 ?_
      (apply spec_t; exact rfl; exact rfl)
      (refine im_any fun hc_ => ?_; try have hc1_ := (band hc_).1)
      refine q1
      (apply spec_t; exact rfl; exact rfl)
      (refine im_any fun hc_ => ?_; try have hc1_ := (band hc_).1)
      refine q1
      (apply spec_t; exact rfl; exact rfl)
      (refine im_any fun hc_ => ?_; try have hc1_ := (band hc_).1)
      refine q7; refine q4 ?_; refine q11 ?_
      (apply spec_t; exact rfl; exact rfl)
      (refine im_any fun hc_ => ?_; try have hc1_ := (band hc_).1)
      refine q1
      (apply spec_t; exact rfl; exact rfl)
      (refine im_any fun hc_ => ?_; try have hc1_ := (band hc_).1)
      refine q18
      (apply spec_t; exact rfl; exact rfl)
      (refine im_any fun hc_ => ?_; try have hc1_ := (band hc_).1)
      refine q7; refine q4 ?_; refine q11 ?_
      (apply spec_t; exact rfl; exact rfl)
      (refine im_any fun hc_ => ?_; try have hc1_ := (band hc_).1)
      refine q1
      (apply spec_t; exact rfl; exact rfl)
      (refine im_any fun hc_ => ?_; try have hc1_ := (band hc_).1)
      refine q1
      (apply spec_t; exact rfl; exact rfl)
      (refine im_any fun hc_ => ?_; try have hc1_ := (band hc_).1)
      refine q7; refine q4 ?_; refine q11 ?_
      (apply spec_t; exact rfl; exact rfl)
      (refine im_any fun hc_ => ?_; try have hc1_ := (band hc_).1)
      ((have hp_ := hc_; (try simp only [Bool.not_eq_true', Bool.not_eq_false', Bool.or_eq_true, Bool.and_eq_true, Bool.or_eq_false_iff, Bool.and_eq_false_iff, decide_eq_true_eq, decide_eq_false_iff_not, Decidable.not_not, Int.not_lt, Int.not_le, Bool.not_true, Bool.not_false, Bool.true_and, Bool.and_true, Bool.false_or, Bool.or_false, Bool.true_or, Bool.false_and, bne_eq_false_iff_eq, bne_iff_ne, beq_iff_eq, beq_eq_false_iff_ne, decide_eq_decide] at hp_)))
      ((apply M_call; (first | (refine EvM.mb _ rfl ?_; first | assumption | exact rfl) | exact EvM.plain rfl rfl); exact .fn _ _ _; (repeat (first | exact EvsM.nil | (apply EvsM.cons; first | (refine EvM.mb _ rfl ?_; first | assumption | exact rfl) | exact EvM.plain rfl rfl))); (first | exact hwd | exact hkn | exact hP | exact hC | exact hQ)))
      refine q4 ?_; refine q12 ?_; refine ao_nil ?_; refine then_n ?_; refine awp_ret ?_; refine then_r ?_
      rotate_left
      (refine im_nf (fun _ => ?_); (try (exfalso; omega)))
      all_goals first | exact done_b rfl rfl | (exfalso; omega) | (exfalso; dsimp only at *; omega) | (exfalso; rcases hc_ with (h9 | h9) | h9 <;> first | exact h9 trivial | omega) | (refine done_b rfl ?_; (simp [*]; done)) | (refine done_b rfl ?_; simp [*]; omega)
    rw [hc] at hC
    by_cases hg : 0 ≤ p.1 ∧ p.1 < x.evs.length ∧ 0 ≤ p.2 ∧ p.2 < x.evs.length
    rotate_left
    · have e1 : ruleT x r p.1 p.2 = (false, 4) := by unfold ruleT; rw [if_neg (by simp [hc]), if_neg (fun h => hg h.2.2)]
      have e2 : rulesT x p.1 p.2 = ([], 4) := by unfold rulesT; rw [if_neg (by simp [hc]), if_neg hg]
      rw [e1] at hP
      rw [e2] at hQ
      refine awp_seq ?_
      (refine ao_region ?_ (fun _ => ?_); exact rfl)
      iterate 2 refine q40 ?_
      refine q12 ?_; refine ao_nil ?_; refine then_n ?_
      iterate 2 refine awp_seq ?_
      (refine ao_region ?_ (fun _ => ?_); exact rfl)
      refine q14 ?_
      ((first
        | (apply S_call; exact rfl; exact .fn _ _ _; exact rfl; (first | exact hwd | exact hkn | exact hP | exact hC | exact hQ))
        | (apply D_call; exact rfl; exact .fn _ _ _; exact rfl; (first | exact hwd | exact hkn | exact hP | exact hC | exact hQ))))
      refine q11 ?_
      (apply spec_f; exact rfl; exact rfl)
      (refine im_any fun hc_ => ?_; try have hc1_ := (band hc_).1)
      refine q2
      (apply spec_f; exact rfl; exact rfl)
      (refine im_any fun hc_ => ?_; try have hc1_ := (band hc_).1)
      refine q3
      (apply spec_f; exact rfl; exact rfl)
      (refine im_any fun hc_ => ?_; try have hc1_ := (band hc_).1)
      refine q18
      (apply spec_f; exact rfl; exact rfl)
      (refine im_any fun hc_ => ?_; try have hc1_ := (band hc_).1)
      refine q35; refine q0 ?_; refine ao_nil ?_; refine then_n ?_
      (apply awp_cond; exact rfl)
      (refine im_ot (fun hc_ => ?_); (try simp only [Bool.not_eq_true', Bool.not_eq_false', Bool.or_eq_true, Bool.and_eq_true, Bool.or_eq_false_iff, Bool.and_eq_false_iff, decide_eq_true_eq, decide_eq_false_iff_not, Decidable.not_not, Int.not_lt, Int.not_le, Bool.not_true, Bool.not_false, Bool.true_and, Bool.and_true, Bool.false_or, Bool.or_false, Bool.true_or, Bool.false_and, bne_eq_false_iff_eq, bne_iff_ne, beq_iff_eq, beq_eq_false_iff_ne, decide_eq_decide] at hc_))
      refine awp_seq ?_
      (refine ao_region ?_ (fun _ => ?_); exact rfl)
      ((first
        | (apply S_call; exact rfl; exact .fn _ _ _; exact rfl; (first | exact hwd | exact hkn | exact hP | exact hC | exact hQ))
        | (apply D_call; exact rfl; exact .fn _ _ _; exact rfl; (first | exact hwd | exact hkn | exact hP | exact hC | exact hQ))))
      refine q12 ?_; refine ao_nil ?_; refine then_n ?_; refine awp_ret ?_; refine then_r ?_
      rotate_left
      refine im_of ?_; refine im_ff ?_
      (refine im_df (fun _ => ?_); (try (exfalso; omega)))
      refine awp_skip ?_; refine then_n ?_; refine awp_seq ?_
      (refine ao_region ?_ (fun _ => ?_); exact rfl)
      refine q14 ?_; refine q11 ?_; refine q28 ?_; refine q16 ?_; refine q28 ?_; refine q16 ?_
      ((first
        | (apply S_call; exact rfl; exact .fn _ _ _; exact rfl; (first | exact hwd | exact hkn | exact hP | exact hC | exact hQ))
        | (apply D_call; exact rfl; exact .fn _ _ _; exact rfl; (first | exact hwd | exact hkn | exact hP | exact hC | exact hQ))))
      refine q11 ?_
      iterate 2 (apply S_extract; exact rfl; exact rfl)
      iterate 2 refine q12 ?_
      refine ao_nil ?_; refine then_n ?_; refine awp_seq ?_
      (refine ao_region ?_ (fun _ => ?_); exact rfl)
      refine q14 ?_; refine q28 ?_; refine q16 ?_; refine q28 ?_; refine q16 ?_
      ((first
        | (apply S_call; exact rfl; exact .fn _ _ _; exact rfl; (first | exact hwd | exact hkn | exact hP | exact hC | exact hQ))
        | (apply D_call; exact rfl; exact .fn _ _ _; exact rfl; (first | exact hwd | exact hkn | exact hP | exact hC | exact hQ))))
      refine q11 ?_
      iterate 2 (apply S_extract; exact rfl; exact rfl)
      iterate 2 refine q12 ?_
      refine ao_nil ?_; refine then_n ?_; refine awp_seq ?_
      (refine ao_region ?_ (fun _ => ?_); exact rfl)
      refine q14 ?_
      ((first
        | (apply S_call; exact rfl; exact .fn _ _ _; exact rfl; (first | exact hwd | exact hkn | exact hP | exact hC | exact hQ))
        | (apply D_call; exact rfl; exact .fn _ _ _; exact rfl; (first | exact hwd | exact hkn | exact hP | exact hC | exact hQ))))
      refine q12 ?_; refine ao_nil ?_; refine then_n ?_
      iterate 2 refine awp_seq ?_
      (refine ao_region ?_ (fun _ => ?_); exact rfl)
      refine q11 ?_; refine q44 ?_; refine ao_nil ?_; refine then_n ?_
      (apply awp_cond; exact rfl)
      (refine im_nt (fun _ => ?_); (try (exfalso; omega)))
      (refine im_nf (fun _ => ?_); (try (exfalso; omega)))
      refine awp_skip ?_; refine then_n ?_; refine awp_seq ?_
      (refine ao_region ?_ (fun _ => ?_); exact rfl)
      refine q28 ?_; refine q16 ?_; refine q13 ?_; refine q12 ?_; refine ao_nil ?_; refine then_n ?_; refine awp_seq ?_
      (refine ao_region ?_ (fun _ => ?_); exact rfl)
      refine q28 ?_; refine q16 ?_
      (apply S_geq; exact rfl; exact rfl)
      refine q11 ?_
      (apply spec_t; exact rfl; exact rfl)
      (refine im_any fun hc_ => ?_; try have hc1_ := (band hc_).1)
      refine q2
      (apply spec_t; exact rfl; exact rfl)
      (refine im_any fun hc_ => ?_; try have hc1_ := (band hc_).1)
      refine q3
      (apply spec_t; exact rfl; exact rfl)
      (refine im_any fun hc_ => ?_; try have hc1_ := (band hc_).1)
      refine q1
      (apply spec_t; exact rfl; exact rfl)
      (refine im_any fun hc_ => ?_; try have hc1_ := (band hc_).1)
      refine q22; refine q4 ?_; refine q11 ?_
      (apply spec_t; exact rfl; exact rfl)
      (refine im_any fun hc_ => ?_; try have hc1_ := (band hc_).1)
      refine q2
      (apply spec_t; exact rfl; exact rfl)
      (refine im_any fun hc_ => ?_; try have hc1_ := (band hc_).1)
      refine q3
      (apply spec_t; exact rfl; exact rfl)
      (refine im_any fun hc_ => ?_; try have hc1_ := (band hc_).1)
      refine q21; refine q4 ?_; refine q11 ?_
      (apply spec_t; exact rfl; exact rfl)
      (refine im_any fun hc_ => ?_; try have hc1_ := (band hc_).1)
      refine q2
      (apply spec_t; exact rfl; exact rfl)
      (refine im_any fun hc_ => ?_; try have hc1_ := (band hc_).1)
      refine q3
      (apply spec_t; exact rfl; exact rfl)
      (refine im_any fun hc_ => ?_; try have hc1_ := (band hc_).1)
      refine q1
      (apply spec_t; exact rfl; exact rfl)
      (refine im_any fun hc_ => ?_; try have hc1_ := (band hc_).1)
      refine q22; refine q4 ?_; refine q12 ?_; refine ao_nil ?_; refine then_n ?_
      iterate 2 refine awp_seq ?_
      (refine ao_region ?_ (fun _ => ?_); exact rfl)
      refine q11 ?_
      (apply S_not; exact rfl)
      refine ao_nil ?_; refine then_n ?_
      (apply awp_cond; exact rfl)
      refine im_bt ?_
      (refine im_af (fun hc_ => ?_); (try simp only [Bool.not_eq_true', Bool.not_eq_false', Bool.or_eq_true, Bool.and_eq_true, Bool.or_eq_false_iff, Bool.and_eq_false_iff, decide_eq_true_eq, decide_eq_false_iff_not, Decidable.not_not, Int.not_lt, Int.not_le, Bool.not_true, Bool.not_false, Bool.true_and, Bool.and_true, Bool.false_or, Bool.or_false, Bool.true_or, Bool.false_and, bne_eq_false_iff_eq, bne_iff_ne, beq_iff_eq, beq_eq_false_iff_ne, decide_eq_decide] at hc_))
      refine awp_seq ?_
      (refine ao_region ?_ (fun _ => ?_); exact rfl)
      refine q11 ?_
      (apply S_not; exact rfl)
      refine q11 ?_
      (apply spec_t; exact rfl; exact rfl)
      (refine im_any fun hc_ => ?_; try have hc1_ := (band hc_).1)
      refine q1
      (apply spec_t; exact rfl; exact rfl)
      (refine im_any fun hc_ => ?_; try have hc1_ := (band hc_).1)
      refine q7; refine q4 ?_; refine q11 ?_
      (apply spec_t; exact rfl; exact rfl)
      (refine im_any fun hc_ => ?_; try have hc1_ := (band hc_).1)
      refine q1
      (apply spec_t; exact rfl; exact rfl)
      (refine im_any fun hc_ => ?_; try have hc1_ := (band hc_).1)
      refine q18
      (apply spec_t; exact rfl; exact rfl)
      (refine im_any fun hc_ => ?_; try have hc1_ := (band hc_).1)
      refine q7; refine q4 ?_; refine q11 ?_
      (apply spec_t; exact rfl; exact rfl)
      (refine im_any fun hc_ => ?_; try have hc1_ := (band hc_).1)
      refine q1
      (apply spec_t; exact rfl; exact rfl)
      (refine im_any fun hc_ => ?_; try have hc1_ := (band hc_).1)
      refine q7; refine q4 ?_; refine q11 ?_
      (apply spec_t; exact rfl; exact rfl)
      (refine im_any fun hc_ => ?_; try have hc1_ := (band hc_).1)
      ((have hp_ := hc_; (try simp only [Bool.not_eq_true', Bool.not_eq_false', Bool.or_eq_true, Bool.and_eq_true, Bool.or_eq_false_iff, Bool.and_eq_false_iff, decide_eq_true_eq, decide_eq_false_iff_not, Decidable.not_not, Int.not_lt, Int.not_le, Bool.not_true, Bool.not_false, Bool.true_and, Bool.and_true, Bool.false_or, Bool.or_false, Bool.true_or, Bool.false_and, bne_eq_false_iff_eq, bne_iff_ne, beq_iff_eq, beq_eq_false_iff_ne, decide_eq_decide] at hp_)))
      ((apply M_call; (first | (refine EvM.mb _ rfl ?_; first | assumption | exact rfl) | exact EvM.plain rfl rfl); exact .fn _ _ _; (repeat (first | exact EvsM.nil | (apply EvsM.cons; first | (refine EvM.mb _ rfl ?_; first | assumption | exact rfl) | exact EvM.plain rfl rfl))); (first | exact hwd | exact hkn | exact hP | exact hC | exact hQ)))
      refine q4 ?_; refine q12 ?_; refine ao_nil ?_; refine then_n ?_; refine awp_ret ?_; refine then_r ?_
      rotate_left
      refine im_bf ?_
      iterate 3 refine im_at ?_
      iterate 4 (refine im_dt (fun _ => ?_); (try (exfalso; omega)))
      all_goals first | exact done_b rfl rfl | (exfalso; omega) | (exfalso; dsimp only at *; omega) | (exfalso; rcases hc_ with (h9 | h9) | h9 <;> first | exact h9 trivial | omega) | (refine done_b rfl ?_; (simp [*]; done)) | (refine done_b rfl ?_; simp [*]; omega)
    by_cases hr : 1 ≤ r ∧ r ≤ 13
    rotate_left
    · have e1 : ruleT x r p.1 p.2 = (false, 4) := by unfold ruleT; rw [if_neg (by simp [hc]), if_neg (fun h => hr ⟨h.1, h.2.1⟩)]
      have e2 : (rulesT x p.1 p.2).2 = 0 := by unfold rulesT; rw [if_neg (by simp [hc]), if_pos hg]
      rw [e1] at hP
      rw [e2] at hQ
      refine awp_seq ?_
      (refine ao_region ?_ (fun _ => ?_); exact rfl)
      iterate 2 refine q40 ?_
      refine q12 ?_; refine ao_nil ?_; refine then_n ?_
      iterate 2 refine awp_seq ?_
      (refine ao_region ?_ (fun _ => ?_); exact rfl)
      refine q14 ?_
      ((first
        | (apply S_call; exact rfl; exact .fn _ _ _; exact rfl; (first | exact hwd | exact hkn | exact hP | exact hC | exact hQ))
        | (apply D_call; exact rfl; exact .fn _ _ _; exact rfl; (first | exact hwd | exact hkn | exact hP | exact hC | exact hQ))))
      refine q11 ?_
      (apply spec_f; exact rfl; exact rfl)
      (refine im_any fun hc_ => ?_; try have hc1_ := (band hc_).1)
      refine q2
      (apply spec_f; exact rfl; exact rfl)
      (refine im_any fun hc_ => ?_; try have hc1_ := (band hc_).1)
      refine q3
      (apply spec_f; exact rfl; exact rfl)
      (refine im_any fun hc_ => ?_; try have hc1_ := (band hc_).1)
      refine q18
      (apply spec_f; exact rfl; exact rfl)
      (refine im_any fun hc_ => ?_; try have hc1_ := (band hc_).1)
      refine q35; refine q0 ?_; refine ao_nil ?_; refine then_n ?_
      (apply awp_cond; exact rfl)
      (refine im_ot (fun hc_ => ?_); (try simp only [Bool.not_eq_true', Bool.not_eq_false', Bool.or_eq_true, Bool.and_eq_true, Bool.or_eq_false_iff, Bool.and_eq_false_iff, decide_eq_true_eq, decide_eq_false_iff_not, Decidable.not_not, Int.not_lt, Int.not_le, Bool.not_true, Bool.not_false, Bool.true_and, Bool.and_true, Bool.false_or, Bool.or_false, Bool.true_or, Bool.false_and, bne_eq_false_iff_eq, bne_iff_ne, beq_iff_eq, beq_eq_false_iff_ne, decide_eq_decide] at hc_))
      refine awp_seq ?_
      (refine ao_region ?_ (fun _ => ?_); exact rfl)
      ((first
        | (apply S_call; exact rfl; exact .fn _ _ _; exact rfl; (first | exact hwd | exact hkn | exact hP | exact hC | exact hQ))
        | (apply D_call; exact rfl; exact .fn _ _ _; exact rfl; (first | exact hwd | exact hkn | exact hP | exact hC | exact hQ))))
      refine q12 ?_; refine ao_nil ?_; refine then_n ?_; refine awp_ret ?_; refine then_r ?_
      rotate_left
      refine im_of ?_; refine im_ff ?_
      (refine im_df (fun _ => ?_); (try (exfalso; omega)))
      refine awp_skip ?_; refine then_n ?_; refine awp_seq ?_
      (refine ao_region ?_ (fun _ => ?_); exact rfl)
      refine q14 ?_; refine q11 ?_; refine q28 ?_; refine q16 ?_; refine q28 ?_; refine q16 ?_
      ((first
        | (apply S_call; exact rfl; exact .fn _ _ _; exact rfl; (first | exact hwd | exact hkn | exact hP | exact hC | exact hQ))
        | (apply D_call; exact rfl; exact .fn _ _ _; exact rfl; (first | exact hwd | exact hkn | exact hP | exact hC | exact hQ))))
      refine q11 ?_
      iterate 2 (apply S_extract; exact rfl; exact rfl)
      iterate 2 refine q12 ?_
      refine ao_nil ?_; refine then_n ?_; refine awp_seq ?_
      (refine ao_region ?_ (fun _ => ?_); exact rfl)
      refine q14 ?_; refine q28 ?_; refine q16 ?_; refine q28 ?_; refine q16 ?_
      ((first
        | (apply S_call; exact rfl; exact .fn _ _ _; exact rfl; (first | exact hwd | exact hkn | exact hP | exact hC | exact hQ))
        | (apply D_call; exact rfl; exact .fn _ _ _; exact rfl; (first | exact hwd | exact hkn | exact hP | exact hC | exact hQ))))
      refine q11 ?_
      iterate 2 (apply S_extract; exact rfl; exact rfl)
      iterate 2 refine q12 ?_
      refine ao_nil ?_; refine then_n ?_; refine awp_seq ?_
      (refine ao_region ?_ (fun _ => ?_); exact rfl)
      refine q14 ?_
      ((first
        | (apply S_call; exact rfl; exact .fn _ _ _; exact rfl; (first | exact hwd | exact hkn | exact hP | exact hC | exact hQ))
        | (apply D_call; exact rfl; exact .fn _ _ _; exact rfl; (first | exact hwd | exact hkn | exact hP | exact hC | exact hQ))))
      refine q12 ?_; refine ao_nil ?_; refine then_n ?_
      iterate 2 refine awp_seq ?_
      (refine ao_region ?_ (fun _ => ?_); exact rfl)
      refine q11 ?_; refine q44 ?_; refine ao_nil ?_; refine then_n ?_
      (apply awp_cond; exact rfl)
      (refine im_nt (fun _ => ?_); (try (exfalso; omega)))
      (refine im_nf (fun _ => ?_); (try (exfalso; omega)))
      refine awp_skip ?_; refine then_n ?_; refine awp_seq ?_
      (refine ao_region ?_ (fun _ => ?_); exact rfl)
      refine q28 ?_; refine q16 ?_; refine q13 ?_; refine q12 ?_; refine ao_nil ?_; refine then_n ?_; refine awp_seq ?_
      (refine ao_region ?_ (fun _ => ?_); exact rfl)
      refine q28 ?_; refine q16 ?_
      (apply S_geq; exact rfl; exact rfl)
      refine q11 ?_
      (apply spec_t; exact rfl; exact rfl)
      (refine im_any fun hc_ => ?_; try have hc1_ := (band hc_).1)
      refine q2
      (apply spec_t; exact rfl; exact rfl)
      (refine im_any fun hc_ => ?_; try have hc1_ := (band hc_).1)
      refine q3
      (apply spec_t; exact rfl; exact rfl)
      (refine im_any fun hc_ => ?_; try have hc1_ := (band hc_).1)
      refine q1
      (apply spec_t; exact rfl; exact rfl)
      (refine im_any fun hc_ => ?_; try have hc1_ := (band hc_).1)
      refine q22; refine q4 ?_; refine q11 ?_
      (apply spec_t; exact rfl; exact rfl)
      (refine im_any fun hc_ => ?_; try have hc1_ := (band hc_).1)
      refine q2
      (apply spec_t; exact rfl; exact rfl)
      (refine im_any fun hc_ => ?_; try have hc1_ := (band hc_).1)
      refine q3
      (apply spec_t; exact rfl; exact rfl)
      (refine im_any fun hc_ => ?_; try have hc1_ := (band hc_).1)
      refine q21; refine q4 ?_; refine q11 ?_
      (apply spec_t; exact rfl; exact rfl)
      (refine im_any fun hc_ => ?_; try have hc1_ := (band hc_).1)
      refine q2
      (apply spec_t; exact rfl; exact rfl)
      (refine im_any fun hc_ => ?_; try have hc1_ := (band hc_).1)
      refine q3
      (apply spec_t; exact rfl; exact rfl)
      (refine im_any fun hc_ => ?_; try have hc1_ := (band hc_).1)
      refine q1
      (apply spec_t; exact rfl; exact rfl)
      (refine im_any fun hc_ => ?_; try have hc1_ := (band hc_).1)
      refine q22; refine q4 ?_; refine q12 ?_; refine ao_nil ?_; refine then_n ?_
      iterate 2 refine awp_seq ?_
      (refine ao_region ?_ (fun _ => ?_); exact rfl)
      refine q11 ?_
      (apply S_not; exact rfl)
      refine ao_nil ?_; refine then_n ?_
      (apply awp_cond; exact rfl)
      refine im_bt ?_
      (refine im_af (fun hc_ => ?_); (try simp only [Bool.not_eq_true', Bool.not_eq_false', Bool.or_eq_true, Bool.and_eq_true, Bool.or_eq_false_iff, Bool.and_eq_false_iff, decide_eq_true_eq, decide_eq_false_iff_not, Decidable.not_not, Int.not_lt, Int.not_le, Bool.not_true, Bool.not_false, Bool.true_and, Bool.and_true, Bool.false_or, Bool.or_false, Bool.true_or, Bool.false_and, bne_eq_false_iff_eq, bne_iff_ne, beq_iff_eq, beq_eq_false_iff_ne, decide_eq_decide] at hc_))
      refine awp_seq ?_
      (refine ao_region ?_ (fun _ => ?_); exact rfl)
      refine q11 ?_
      (apply S_not; exact rfl)
      refine q11 ?_
      (apply spec_t; exact rfl; exact rfl)
      (refine im_any fun hc_ => ?_; try have hc1_ := (band hc_).1)
      refine q1
      (apply spec_t; exact rfl; exact rfl)
      (refine im_any fun hc_ => ?_; try have hc1_ := (band hc_).1)
      refine q7; refine q4 ?_; refine q11 ?_
      (apply spec_t; exact rfl; exact rfl)
      (refine im_any fun hc_ => ?_; try have hc1_ := (band hc_).1)
      refine q1
      (apply spec_t; exact rfl; exact rfl)
      (refine im_any fun hc_ => ?_; try have hc1_ := (band hc_).1)
      refine q18
      (apply spec_t; exact rfl; exact rfl)
      (refine im_any fun hc_ => ?_; try have hc1_ := (band hc_).1)
      refine q7; refine q4 ?_; refine q11 ?_
      (apply spec_t; exact rfl; exact rfl)
      (refine im_any fun hc_ => ?_; try have hc1_ := (band hc_).1)
      refine q1
      (apply spec_t; exact rfl; exact rfl)
      (refine im_any fun hc_ => ?_; try have hc1_ := (band hc_).1)
      refine q7; refine q4 ?_; refine q11 ?_
      (apply spec_t; exact rfl; exact rfl)
      (refine im_any fun hc_ => ?_; try have hc1_ := (band hc_).1)
      ((have hp_ := hc_; (try simp only [Bool.not_eq_true', Bool.not_eq_false', Bool.or_eq_true, Bool.and_eq_true, Bool.or_eq_false_iff, Bool.and_eq_false_iff, decide_eq_true_eq, decide_eq_false_iff_not, Decidable.not_not, Int.not_lt, Int.not_le, Bool.not_true, Bool.not_false, Bool.true_and, Bool.and_true, Bool.false_or, Bool.or_false, Bool.true_or, Bool.false_and, bne_eq_false_iff_eq, bne_iff_ne, beq_iff_eq, beq_eq_false_iff_ne, decide_eq_decide] at hp_)))
      ((apply M_call; (first | (refine EvM.mb _ rfl ?_; first | assumption | exact rfl) | exact EvM.plain rfl rfl); exact .fn _ _ _; (repeat (first | exact EvsM.nil | (apply EvsM.cons; first | (refine EvM.mb _ rfl ?_; first | assumption | exact rfl) | exact EvM.plain rfl rfl))); (first | exact hwd | exact hkn | exact hP | exact hC | exact hQ)))
      refine q4 ?_; refine q12 ?_; refine ao_nil ?_; refine then_n ?_; refine awp_ret ?_; refine then_r ?_
      rotate_left
      refine im_bf ?_
      iterate 3 refine im_at ?_
      iterate 4 (refine im_dt (fun _ => ?_); (try (exfalso; omega)))
      refine awp_skip ?_; refine then_n ?_
      iterate 2 refine awp_seq ?_
      (refine ao_region ?_ (fun _ => ?_); exact rfl)
      refine q11 ?_; refine q37 ?_; refine q11 ?_
      (apply spec_f; exact rfl; exact rfl)
      (refine im_any fun hc_ => ?_; try have hc1_ := (band hc_).1)
      refine q1
      (apply spec_f; exact rfl; exact rfl)
      (refine im_any fun hc_ => ?_; try have hc1_ := (band hc_).1)
      refine q35; refine q0 ?_; refine ao_nil ?_; refine then_n ?_
      (apply awp_cond; exact rfl)
      (refine im_ot (fun hc_ => ?_); (try simp only [Bool.not_eq_true', Bool.not_eq_false', Bool.or_eq_true, Bool.and_eq_true, Bool.or_eq_false_iff, Bool.and_eq_false_iff, decide_eq_true_eq, decide_eq_false_iff_not, Decidable.not_not, Int.not_lt, Int.not_le, Bool.not_true, Bool.not_false, Bool.true_and, Bool.and_true, Bool.false_or, Bool.or_false, Bool.true_or, Bool.false_and, bne_eq_false_iff_eq, bne_iff_ne, beq_iff_eq, beq_eq_false_iff_ne, decide_eq_decide] at hc_))
      refine awp_seq ?_
      (refine ao_region ?_ (fun _ => ?_); exact rfl)
      refine q11 ?_
      (apply S_not; exact rfl)
      refine q11 ?_
      (apply spec_t; exact rfl; exact rfl)
      (refine im_any fun hc_ => ?_; try have hc1_ := (band hc_).1)
      refine q1
      (apply spec_t; exact rfl; exact rfl)
      (refine im_any fun hc_ => ?_; try have hc1_ := (band hc_).1)
      refine q7; refine q4 ?_; refine q11 ?_
      (apply spec_t; exact rfl; exact rfl)
      (refine im_any fun hc_ => ?_; try have hc1_ := (band hc_).1)
      refine q1
      (apply spec_t; exact rfl; exact rfl)
      (refine im_any fun hc_ => ?_; try have hc1_ := (band hc_).1)
      refine q7; refine q4 ?_; refine q11 ?_
      (apply spec_t; exact rfl; exact rfl)
      (refine im_any fun hc_ => ?_; try have hc1_ := (band hc_).1)
      ((have hp_ := hc_; (try simp only [Bool.not_eq_true', Bool.not_eq_false', Bool.or_eq_true, Bool.and_eq_true, Bool.or_eq_false_iff, Bool.and_eq_false_iff, decide_eq_true_eq, decide_eq_false_iff_not, Decidable.not_not, Int.not_lt, Int.not_le, Bool.not_true, Bool.not_false, Bool.true_and, Bool.and_true, Bool.false_or, Bool.or_false, Bool.true_or, Bool.false_and, bne_eq_false_iff_eq, bne_iff_ne, beq_iff_eq, beq_eq_false_iff_ne, decide_eq_decide] at hp_)))
      ((apply M_call; (first | (refine EvM.mb _ rfl ?_; first | assumption | exact rfl) | exact EvM.plain rfl rfl); exact .fn _ _ _; (repeat (first | exact EvsM.nil | (apply EvsM.cons; first | (refine EvM.mb _ rfl ?_; first | assumption | exact rfl) | exact EvM.plain rfl rfl))); (first | exact hwd | exact hkn | exact hP | exact hC | exact hQ)))
      refine q4 ?_; refine q12 ?_; refine ao_nil ?_; refine then_n ?_; refine awp_ret ?_; refine then_r ?_
      rotate_left
      refine im_of ?_
      iterate 2 (refine im_df (fun _ => ?_); (try (exfalso; omega)))
      all_goals first | exact done_b rfl rfl | (exfalso; omega) | (exfalso; dsimp only at *; omega) | (exfalso; rcases hc_ with (h9 | h9) | h9 <;> first | exact h9 trivial | omega) | (refine done_b rfl ?_; (simp [*]; done)) | (refine done_b rfl ?_; simp [*]; omega)
    · obtain ⟨⟨a, b⟩, rfl⟩ : ∃ q : Nat × Nat, p = ((q.1 : Int), (q.2 : Int)) := ⟨(p.1.toNat, p.2.toNat), by simp only [Int.toNat_of_nonneg hg.1, Int.toNat_of_nonneg hg.2.2.1]⟩
      dsimp only at hP hQ hg ⊢
      have hR := rrule_p x (rok_of hx hc) r a b (by omega) (by omega) hr.1 hr.2
      have e1 : ruleT x r a b = (ruleB x r a b, 0) := by unfold ruleT; rw [if_neg (by simp [hc]), if_pos ⟨hr.1, hr.2, hg⟩]; rfl
      have e2 : (rulesT x a b).2 = 0 := by unfold rulesT; rw [if_neg (by simp [hc]), if_pos hg]
      rw [e1] at hP
      rw [e2] at hQ
      refine awp_seq ?_
      (refine ao_region ?_ (fun _ => ?_); exact rfl)
      iterate 2 refine q40 ?_
      refine q12 ?_; refine ao_nil ?_; refine then_n ?_
      iterate 2 refine awp_seq ?_
      (refine ao_region ?_ (fun _ => ?_); exact rfl)
      refine q14 ?_
      ((first
        | (apply S_call; exact rfl; exact .fn _ _ _; exact rfl; (first | exact hwd | exact hkn | exact hP | exact hC | exact hQ | exact hR))
        | (apply D_call; exact rfl; exact .fn _ _ _; exact rfl; (first | exact hwd | exact hkn | exact hP | exact hC | exact hQ | exact hR))))
      refine q11 ?_
      (apply spec_f; exact rfl; exact rfl)
      (refine im_any fun hc_ => ?_; try have hc1_ := (band hc_).1)
      refine q2
      (apply spec_f; exact rfl; exact rfl)
      (refine im_any fun hc_ => ?_; try have hc1_ := (band hc_).1)
      refine q3
      (apply spec_f; exact rfl; exact rfl)
      (refine im_any fun hc_ => ?_; try have hc1_ := (band hc_).1)
      refine q18
      (apply spec_f; exact rfl; exact rfl)
      (refine im_any fun hc_ => ?_; try have hc1_ := (band hc_).1)
      refine q35; refine q0 ?_; refine ao_nil ?_; refine then_n ?_
      (apply awp_cond; exact rfl)
      (refine im_ot (fun hc_ => ?_); (try simp only [Bool.not_eq_true', Bool.not_eq_false', Bool.or_eq_true, Bool.and_eq_true, Bool.or_eq_false_iff, Bool.and_eq_false_iff, decide_eq_true_eq, decide_eq_false_iff_not, Decidable.not_not, Int.not_lt, Int.not_le, Bool.not_true, Bool.not_false, Bool.true_and, Bool.and_true, Bool.false_or, Bool.or_false, Bool.true_or, Bool.false_and, bne_eq_false_iff_eq, bne_iff_ne, beq_iff_eq, beq_eq_false_iff_ne, decide_eq_decide] at hc_))
      refine awp_seq ?_
      (refine ao_region ?_ (fun _ => ?_); exact rfl)
      ((first
        | (apply S_call; exact rfl; exact .fn _ _ _; exact rfl; (first | exact hwd | exact hkn | exact hP | exact hC | exact hQ | exact hR))
        | (apply D_call; exact rfl; exact .fn _ _ _; exact rfl; (first | exact hwd | exact hkn | exact hP | exact hC | exact hQ | exact hR))))
      refine q12 ?_; refine ao_nil ?_; refine then_n ?_; refine awp_ret ?_; refine then_r ?_
      rotate_left
      refine im_of ?_; refine im_ff ?_
      (refine im_df (fun _ => ?_); (try (exfalso; omega)))
      refine awp_skip ?_; refine then_n ?_; refine awp_seq ?_
      (refine ao_region ?_ (fun _ => ?_); exact rfl)
      refine q14 ?_; refine q11 ?_; refine q28 ?_; refine q16 ?_; refine q28 ?_; refine q16 ?_
      ((first
        | (apply S_call; exact rfl; exact .fn _ _ _; exact rfl; (first | exact hwd | exact hkn | exact hP | exact hC | exact hQ | exact hR))
        | (apply D_call; exact rfl; exact .fn _ _ _; exact rfl; (first | exact hwd | exact hkn | exact hP | exact hC | exact hQ | exact hR))))
      refine q11 ?_
      iterate 2 (apply S_extract; exact rfl; exact rfl)
      iterate 2 refine q12 ?_
      refine ao_nil ?_; refine then_n ?_; refine awp_seq ?_
      (refine ao_region ?_ (fun _ => ?_); exact rfl)
      refine q14 ?_; refine q28 ?_; refine q16 ?_; refine q28 ?_; refine q16 ?_
      ((first
        | (apply S_call; exact rfl; exact .fn _ _ _; exact rfl; (first | exact hwd | exact hkn | exact hP | exact hC | exact hQ | exact hR))
        | (apply D_call; exact rfl; exact .fn _ _ _; exact rfl; (first | exact hwd | exact hkn | exact hP | exact hC | exact hQ | exact hR))))
      refine q11 ?_
      iterate 2 (apply S_extract; exact rfl; exact rfl)
      iterate 2 refine q12 ?_
      refine ao_nil ?_; refine then_n ?_; refine awp_seq ?_
      (refine ao_region ?_ (fun _ => ?_); exact rfl)
      refine q14 ?_
      ((first
        | (apply S_call; exact rfl; exact .fn _ _ _; exact rfl; (first | exact hwd | exact hkn | exact hP | exact hC | exact hQ | exact hR))
        | (apply D_call; exact rfl; exact .fn _ _ _; exact rfl; (first | exact hwd | exact hkn | exact hP | exact hC | exact hQ | exact hR))))
      refine q12 ?_; refine ao_nil ?_; refine then_n ?_
      iterate 2 refine awp_seq ?_
      (refine ao_region ?_ (fun _ => ?_); exact rfl)
      refine q11 ?_; refine q44 ?_; refine ao_nil ?_; refine then_n ?_
      (apply awp_cond; exact rfl)
      (refine im_nt (fun _ => ?_); (try (exfalso; omega)))
      (refine im_nf (fun _ => ?_); (try (exfalso; omega)))
      refine awp_skip ?_; refine then_n ?_; refine awp_seq ?_
      (refine ao_region ?_ (fun _ => ?_); exact rfl)
      refine q28 ?_; refine q16 ?_; refine q13 ?_; refine q12 ?_; refine ao_nil ?_; refine then_n ?_; refine awp_seq ?_
      (refine ao_region ?_ (fun _ => ?_); exact rfl)
      refine q28 ?_; refine q16 ?_
      (apply S_geq; exact rfl; exact rfl)
      refine q11 ?_
      (apply spec_t; exact rfl; exact rfl)
      (refine im_any fun hc_ => ?_; try have hc1_ := (band hc_).1)
      refine q2
      (apply spec_t; exact rfl; exact rfl)
      (refine im_any fun hc_ => ?_; try have hc1_ := (band hc_).1)
      refine q3
      (apply spec_t; exact rfl; exact rfl)
      (refine im_any fun hc_ => ?_; try have hc1_ := (band hc_).1)
      refine q1
      (apply spec_t; exact rfl; exact rfl)
      (refine im_any fun hc_ => ?_; try have hc1_ := (band hc_).1)
      refine q22; refine q4 ?_; refine q11 ?_
      (apply spec_t; exact rfl; exact rfl)
      (refine im_any fun hc_ => ?_; try have hc1_ := (band hc_).1)
      refine q2
      (apply spec_t; exact rfl; exact rfl)
      (refine im_any fun hc_ => ?_; try have hc1_ := (band hc_).1)
      refine q3
      (apply spec_t; exact rfl; exact rfl)
      (refine im_any fun hc_ => ?_; try have hc1_ := (band hc_).1)
      refine q21; refine q4 ?_; refine q11 ?_
      (apply spec_t; exact rfl; exact rfl)
      (refine im_any fun hc_ => ?_; try have hc1_ := (band hc_).1)
      refine q2
      (apply spec_t; exact rfl; exact rfl)
      (refine im_any fun hc_ => ?_; try have hc1_ := (band hc_).1)
      refine q3
      (apply spec_t; exact rfl; exact rfl)
      (refine im_any fun hc_ => ?_; try have hc1_ := (band hc_).1)
      refine q1
      (apply spec_t; exact rfl; exact rfl)
      (refine im_any fun hc_ => ?_; try have hc1_ := (band hc_).1)
      refine q22; refine q4 ?_; refine q12 ?_; refine ao_nil ?_; refine then_n ?_
      iterate 2 refine awp_seq ?_
      (refine ao_region ?_ (fun _ => ?_); exact rfl)
      refine q11 ?_
      (apply S_not; exact rfl)
      refine ao_nil ?_; refine then_n ?_
      (apply awp_cond; exact rfl)
      refine im_bt ?_
      (refine im_af (fun hc_ => ?_); (try simp only [Bool.not_eq_true', Bool.not_eq_false', Bool.or_eq_true, Bool.and_eq_true, Bool.or_eq_false_iff, Bool.and_eq_false_iff, decide_eq_true_eq, decide_eq_false_iff_not, Decidable.not_not, Int.not_lt, Int.not_le, Bool.not_true, Bool.not_false, Bool.true_and, Bool.and_true, Bool.false_or, Bool.or_false, Bool.true_or, Bool.false_and, bne_eq_false_iff_eq, bne_iff_ne, beq_iff_eq, beq_eq_false_iff_ne, decide_eq_decide] at hc_))
      refine awp_seq ?_
      (refine ao_region ?_ (fun _ => ?_); exact rfl)
      refine q11 ?_
      (apply S_not; exact rfl)
      refine q11 ?_
      (apply spec_t; exact rfl; exact rfl)
      (refine im_any fun hc_ => ?_; try have hc1_ := (band hc_).1)
      refine q1
      (apply spec_t; exact rfl; exact rfl)
      (refine im_any fun hc_ => ?_; try have hc1_ := (band hc_).1)
      refine q7; refine q4 ?_; refine q11 ?_
      (apply spec_t; exact rfl; exact rfl)
      (refine im_any fun hc_ => ?_; try have hc1_ := (band hc_).1)
      refine q1
      (apply spec_t; exact rfl; exact rfl)
      (refine im_any fun hc_ => ?_; try have hc1_ := (band hc_).1)
      refine q18
      (apply spec_t; exact rfl; exact rfl)
      (refine im_any fun hc_ => ?_; try have hc1_ := (band hc_).1)
      refine q7; refine q4 ?_; refine q11 ?_
      (apply spec_t; exact rfl; exact rfl)
      (refine im_any fun hc_ => ?_; try have hc1_ := (band hc_).1)
      refine q1
      (apply spec_t; exact rfl; exact rfl)
      (refine im_any fun hc_ => ?_; try have hc1_ := (band hc_).1)
      refine q7; refine q4 ?_; refine q11 ?_
      (apply spec_t; exact rfl; exact rfl)
      (refine im_any fun hc_ => ?_; try have hc1_ := (band hc_).1)
      ((have hp_ := hc_; (try simp only [Bool.not_eq_true', Bool.not_eq_false', Bool.or_eq_true, Bool.and_eq_true, Bool.or_eq_false_iff, Bool.and_eq_false_iff, decide_eq_true_eq, decide_eq_false_iff_not, Decidable.not_not, Int.not_lt, Int.not_le, Bool.not_true, Bool.not_false, Bool.true_and, Bool.and_true, Bool.false_or, Bool.or_false, Bool.true_or, Bool.false_and, bne_eq_false_iff_eq, bne_iff_ne, beq_iff_eq, beq_eq_false_iff_ne, decide_eq_decide] at hp_)))
      ((apply M_call; (first | (refine EvM.mb _ rfl ?_; first | assumption | exact rfl) | exact EvM.plain rfl rfl); exact .fn _ _ _; (repeat (first | exact EvsM.nil | (apply EvsM.cons; first | (refine EvM.mb _ rfl ?_; first | assumption | exact rfl) | exact EvM.plain rfl rfl))); (first | exact hwd | exact hkn | exact hP | exact hC | exact hQ | exact hR)))
      refine q4 ?_; refine q12 ?_; refine ao_nil ?_; refine then_n ?_; refine awp_ret ?_; refine then_r ?_
      rotate_left
      refine im_bf ?_
      iterate 3 refine im_at ?_
      iterate 4 (refine im_dt (fun _ => ?_); (try (exfalso; omega)))
      refine awp_skip ?_; refine then_n ?_
      iterate 2 refine awp_seq ?_
      (refine ao_region ?_ (fun _ => ?_); exact rfl)
      refine q11 ?_; refine q37 ?_; refine q11 ?_
      (apply spec_f; exact rfl; exact rfl)
      (refine im_any fun hc_ => ?_; try have hc1_ := (band hc_).1)
      refine q1
      (apply spec_f; exact rfl; exact rfl)
      (refine im_any fun hc_ => ?_; try have hc1_ := (band hc_).1)
      refine q35; refine q0 ?_; refine ao_nil ?_; refine then_n ?_
      (apply awp_cond; exact rfl)
      (refine im_ot (fun hc_ => ?_); (try simp only [Bool.not_eq_true', Bool.not_eq_false', Bool.or_eq_true, Bool.and_eq_true, Bool.or_eq_false_iff, Bool.and_eq_false_iff, decide_eq_true_eq, decide_eq_false_iff_not, Decidable.not_not, Int.not_lt, Int.not_le, Bool.not_true, Bool.not_false, Bool.true_and, Bool.and_true, Bool.false_or, Bool.or_false, Bool.true_or, Bool.false_and, bne_eq_false_iff_eq, bne_iff_ne, beq_iff_eq, beq_eq_false_iff_ne, decide_eq_decide] at hc_))
      refine awp_seq ?_
      (refine ao_region ?_ (fun _ => ?_); exact rfl)
      refine q11 ?_
      (apply S_not; exact rfl)
      refine q11 ?_
      (apply spec_t; exact rfl; exact rfl)
      (refine im_any fun hc_ => ?_; try have hc1_ := (band hc_).1)
      refine q1
      (apply spec_t; exact rfl; exact rfl)
      (refine im_any fun hc_ => ?_; try have hc1_ := (band hc_).1)
      refine q7; refine q4 ?_; refine q11 ?_
      (apply spec_t; exact rfl; exact rfl)
      (refine im_any fun hc_ => ?_; try have hc1_ := (band hc_).1)
      refine q1
      (apply spec_t; exact rfl; exact rfl)
      (refine im_any fun hc_ => ?_; try have hc1_ := (band hc_).1)
      refine q7; refine q4 ?_; refine q11 ?_
      (apply spec_t; exact rfl; exact rfl)
      (refine im_any fun hc_ => ?_; try have hc1_ := (band hc_).1)
      ((have hp_ := hc_; (try simp only [Bool.not_eq_true', Bool.not_eq_false', Bool.or_eq_true, Bool.and_eq_true, Bool.or_eq_false_iff, Bool.and_eq_false_iff, decide_eq_true_eq, decide_eq_false_iff_not, Decidable.not_not, Int.not_lt, Int.not_le, Bool.not_true, Bool.not_false, Bool.true_and, Bool.and_true, Bool.false_or, Bool.or_false, Bool.true_or, Bool.false_and, bne_eq_false_iff_eq, bne_iff_ne, beq_iff_eq, beq_eq_false_iff_ne, decide_eq_decide] at hp_)))
      ((apply M_call; (first | (refine EvM.mb _ rfl ?_; first | assumption | exact rfl) | exact EvM.plain rfl rfl); exact .fn _ _ _; (repeat (first | exact EvsM.nil | (apply EvsM.cons; first | (refine EvM.mb _ rfl ?_; first | assumption | exact rfl) | exact EvM.plain rfl rfl))); (first | exact hwd | exact hkn | exact hP | exact hC | exact hQ | exact hR)))
      refine q4 ?_; refine q12 ?_; refine ao_nil ?_; refine then_n ?_; refine awp_ret ?_; refine then_r ?_
      rotate_left
      refine im_of ?_
      iterate 2 (refine im_df (fun _ => ?_); (try (exfalso; omega)))
      refine awp_skip ?_; refine then_n ?_; refine awp_seq ?_
      (refine ao_region ?_ (fun _ => ?_); exact rfl)
      refine q11 ?_; refine q46 ?_; refine q11 ?_
      (apply spec_t; exact rfl; exact rfl)
      (refine im_any fun hc_ => ?_; try have hc1_ := (band hc_).1)
      refine q1
      (apply spec_t; exact rfl; exact rfl)
      (refine im_any fun hc_ => ?_; try have hc1_ := (band hc_).1)
      refine q27
      (apply spec_t; exact rfl; exact rfl)
      (refine im_any fun hc_ => ?_; try have hc1_ := (band hc_).1)
      refine q1
      (apply spec_t; exact rfl; exact rfl)
      (refine im_any fun hc_ => ?_; try have hc1_ := (band hc_).1)
      refine q2
      (apply spec_t; exact rfl; exact rfl)
      (refine im_any fun hc_ => ?_; try have hc1_ := (band hc_).1)
      refine q3
      (apply spec_t; exact rfl; exact rfl)
      (refine im_any fun hc_ => ?_; try have hc1_ := (band hc_).1)
      refine q2
      (apply spec_t; exact rfl; exact rfl)
      (refine im_any fun hc_ => ?_; try have hc1_ := (band hc_).1)
      refine q3
      (apply spec_t; exact rfl; exact rfl)
      (refine im_any fun hc_ => ?_; try have hc1_ := (band hc_).1)
      ((have hp_ := hc_; (try simp only [Bool.not_eq_true', Bool.not_eq_false', Bool.or_eq_true, Bool.and_eq_true, Bool.or_eq_false_iff, Bool.and_eq_false_iff, decide_eq_true_eq, decide_eq_false_iff_not, Decidable.not_not, Int.not_lt, Int.not_le, Bool.not_true, Bool.not_false, Bool.true_and, Bool.and_true, Bool.false_or, Bool.or_false, Bool.true_or, Bool.false_and, bne_eq_false_iff_eq, bne_iff_ne, beq_iff_eq, beq_eq_false_iff_ne, decide_eq_decide] at hp_)))
      ((apply M_call; (first | (refine EvM.mb _ rfl ?_; first | assumption | exact rfl) | exact EvM.plain rfl rfl); exact .fn _ _ _; (repeat (first | exact EvsM.nil | (apply EvsM.cons; first | (refine EvM.mb _ rfl ?_; first | assumption | exact rfl) | exact EvM.plain rfl rfl))); (first | exact hwd | exact hkn | exact hP | exact hC | exact hQ | exact hR)))
      (apply spec_t; exact rfl; exact rfl)
      (refine im_any fun hc_ => ?_; try have hc1_ := (band hc_).1)
      (apply M_eqlB; exact rfl; exact rfl; (first | (refine EvM.mb _ rfl ?_; first | assumption | exact rfl) | exact EvM.plain rfl rfl); (first | (refine EvM.mb _ rfl ?_; first | assumption | exact rfl) | exact EvM.plain rfl rfl))
      refine q4 ?_; refine q11 ?_
      (apply spec_t; exact rfl; exact rfl)
      (refine im_any fun hc_ => ?_; try have hc1_ := (band hc_).1)
      ((have hp_ := hc_; (try simp only [Bool.not_eq_true', Bool.not_eq_false', Bool.or_eq_true, Bool.and_eq_true, Bool.or_eq_false_iff, Bool.and_eq_false_iff, decide_eq_true_eq, decide_eq_false_iff_not, Decidable.not_not, Int.not_lt, Int.not_le, Bool.not_true, Bool.not_false, Bool.true_and, Bool.and_true, Bool.false_or, Bool.or_false, Bool.true_or, Bool.false_and, bne_eq_false_iff_eq, bne_iff_ne, beq_iff_eq, beq_eq_false_iff_ne, decide_eq_decide] at hp_)))
      ((apply M_call; (first | (refine EvM.mb _ rfl ?_; first | assumption | exact rfl) | exact EvM.plain rfl rfl); exact .fn _ _ _; (repeat (first | exact EvsM.nil | (apply EvsM.cons; first | (refine EvM.mb _ rfl ?_; first | assumption | exact rfl) | exact EvM.plain rfl rfl))); (first | exact hwd | exact hkn | exact hP | exact hC | exact hQ | exact hR)))
      refine q4 ?_; refine q12 ?_; refine ao_nil ?_; refine then_n ?_; refine awp_ret ?_
      rotate_left
      all_goals first | exact done_b rfl rfl | (exfalso; omega) | (exfalso; dsimp only at *; omega) | (exfalso; rcases hc_ with (h9 | h9) | h9 <;> first | exact h9 trivial | omega) | (refine done_b rfl ?_; (simp [*]; done)) | (refine done_b rfl ?_; simp [*]; omega)
end Go.Proofs.YtnghoibkjphfmaaGreat
