/- The law OrderWithin, walked in plain data. -/
import Derived.Test.YtnghoibkjphfmaaGreatPe3
import Derived.Test.YtnghoibkjphfmaaGreatPe18
set_option maxRecDepth 100000
set_option linter.unusedVariables false
set_option linter.unusedSimpArgs false
namespace Go.Proofs.YtnghoibkjphfmaaGreat
open Go.RowKit
theorem poRow_len (x : Ex) (a b : Nat) : (poRow x a b).length ≤ b := by
  unfold poRow
  rw [List.length_map]
  exact Nat.le_trans (List.length_filter_le _ _) (by simp)
set_option maxHeartbeats 4000000 in
theorem lawWithin_p (x : Ex) (hx : x.ok) : Pure E.P 4 [exOV x] (.bool true) := by
  have hwd := wide_p x hx
  have hkn := known7_p
  have hsm := small_p x hx
  have f1 : Frozen 1 := ⟨trivial⟩
  have f7 : Frozen 7 := ⟨trivial⟩
  refine fn_of_awp Tryz.func4 (by decide) rfl Tryz.ntmps4 (Nat.le_of_ble_eq_true rfl) rfl ?_
  by_cases hg : wideB x = false ∧ x.evs.length ≤ 12 ∧ checkI x = 0
  rotate_left
  · refine awp_seq ?_
    (refine ao_region ?_ (fun _ => ?_); exact rfl)
    refine q34 ?_; refine q12 ?_; refine ao_nil ?_; refine then_n ?_
    iterate 2 refine awp_seq ?_
    (refine ao_region ?_ (fun _ => ?_); exact rfl)
    refine q33 ?_
    ((first
      | (apply S_call; exact rfl; exact .fn _ _ _; exact rfl; (first | exact hwd | exact hkn | exact hsm))
      | (apply D_call; exact rfl; exact .fn _ _ _; exact rfl; (first | exact hwd | exact hkn | exact hsm))))
    refine q11 ?_
    (apply spec_f; exact rfl; exact rfl)
    (refine im_any fun hc_ => ?_; try have hc1_ := (band hc_).1)
    refine q8
    (apply spec_f; exact rfl; exact rfl)
    (refine im_any fun hc_ => ?_; try have hc1_ := (band hc_).1)
    refine q6
    (apply spec_f; exact rfl; exact rfl)
    (refine im_any fun hc_ => ?_; try have hc1_ := (band hc_).1)
    refine q18
    (apply spec_f; exact rfl; exact rfl)
    (refine im_any fun hc_ => ?_; try have hc1_ := (band hc_).1)
    refine q35; refine q0 ?_; refine q11 ?_
    (apply spec_f; exact rfl; exact rfl)
    (refine im_any fun hc_ => ?_; try have hc1_ := (band hc_).1)
    refine q47
    (apply spec_f; exact rfl; exact rfl)
    (refine im_any fun hc_ => ?_; try have hc1_ := (band hc_).1)
    ((have hp_ := hc_; (try simp only [Bool.not_eq_true', Bool.not_eq_false', Bool.or_eq_true, Bool.and_eq_true, Bool.or_eq_false_iff, Bool.and_eq_false_iff, decide_eq_true_eq, decide_eq_false_iff_not, Decidable.not_not, Int.not_lt, Int.not_le, Bool.not_true, Bool.not_false, Bool.true_and, Bool.and_true, Bool.false_or, Bool.or_false, Bool.true_or, Bool.false_and, bne_eq_false_iff_eq, bne_iff_ne, beq_iff_eq, beq_eq_false_iff_ne, decide_eq_decide] at hp_)))
    ((apply M_call; (first | (refine EvM.mb _ rfl ?_; first | assumption | exact rfl) | exact EvM.plain rfl rfl); exact .fn _ _ _; (repeat (first | exact EvsM.nil | (apply EvsM.cons; first | (refine EvM.mb _ rfl ?_; first | assumption | exact rfl) | exact EvM.plain rfl rfl))); (first | exact hwd | exact hkn | exact hsm)))
    (apply spec_f; exact rfl; exact rfl)
    (refine im_any fun hc_ => ?_; try have hc1_ := (band hc_).1)
    refine q42; refine q0 ?_; refine ao_nil ?_; refine then_n ?_
    (apply awp_cond; exact rfl)
    (refine im_ot (fun hc_ => ?_); (try simp only [Bool.not_eq_true', Bool.not_eq_false', Bool.or_eq_true, Bool.and_eq_true, Bool.or_eq_false_iff, Bool.and_eq_false_iff, decide_eq_true_eq, decide_eq_false_iff_not, Decidable.not_not, Int.not_lt, Int.not_le, Bool.not_true, Bool.not_false, Bool.true_and, Bool.and_true, Bool.false_or, Bool.or_false, Bool.true_or, Bool.false_and, bne_eq_false_iff_eq, bne_iff_ne, beq_iff_eq, beq_eq_false_iff_ne, decide_eq_decide] at hc_))
    refine awp_seq ?_
    (refine ao_region ?_ (fun _ => ?_); exact rfl)
    ((first
      | (apply S_call; exact rfl; exact .fn _ _ _; exact rfl; (first | exact hwd | exact hkn | exact hsm))
      | (apply D_call; exact rfl; exact .fn _ _ _; exact rfl; (first | exact hwd | exact hkn | exact hsm))))
    refine q12 ?_; refine ao_nil ?_; refine then_n ?_; refine awp_ret ?_; refine then_r ?_
    rotate_left
    iterate 2 refine im_of ?_
    (refine im_vf (fun _ => ?_))
    (refine im_df (fun _ => ?_); (try (exfalso; omega)))
    refine im_bf ?_; refine im_at ?_
    iterate 2 (refine im_dt (fun _ => ?_); (try (exfalso; omega)))
    refine awp_skip ?_; refine then_n ?_; refine awp_seq ?_
    (refine ao_region ?_ (fun _ => ?_); exact rfl)
    refine q33 ?_
    rotate_left
    all_goals first | exact done_b rfl rfl | (exfalso; exact hg ⟨by assumption, by omega, by assumption⟩)
  obtain ⟨hw, hl12, hc⟩ := hg
  obtain ⟨hfit, hl⟩ := fit_of hx hw
  rw [hw] at hwd
  have hok := rok_of hx hc
  have hP := Ppo_p x hfit
  have hpl : ppoT x = (ppoL x, 0) := by unfold ppoT; rw [if_neg (by simp [hc])]
  rw [hpl] at hP
  have hmem : ∀ k, k < (ppoL x).length → ∃ a b : Nat, a < x.evs.length ∧ b < x.evs.length ∧ isPo x a b = true ∧ ((ppoL x).getD k default).1 = (a : Int) ∧ ((ppoL x).getD k default).2 = (b : Int) := fun k hk' => by
    have hm : (ppoL x).getD k default ∈ ppoL x := by rw [List.getD_eq_getElem?_getD, List.getElem?_eq_getElem hk']; exact List.getElem_mem hk'
    unfold ppoL at hm
    obtain ⟨a, b, g1, g2, g3, g4⟩ := mem_refPairs.1 hm
    unfold isPpo at g3
    obtain ⟨r, _, hr⟩ := List.any_eq_true.1 g3
    unfold ruleB at hr
    rw [Bool.and_eq_true] at hr
    exact ⟨a, b, g1, g2, pairOf_po hr.1, by unfold ppoL; rw [g4], by unfold ppoL; rw [g4]⟩
  have hlL : (ppoL x).length ≤ 144 := Nat.le_trans (prTo_len _ _ _) (Nat.mul_le_mul hl12 hl12)
  refine awp_seq ?_
  (refine ao_region ?_ (fun _ => ?_); exact rfl)
  refine q34 ?_; refine q12 ?_; refine ao_nil ?_; refine then_n ?_
  iterate 2 refine awp_seq ?_
  (refine ao_region ?_ (fun _ => ?_); exact rfl)
  refine q33 ?_
  ((first
    | (apply S_call; exact rfl; exact .fn _ _ _; exact rfl; (first | exact hwd | exact hkn | exact hsm | exact hP))
    | (apply D_call; exact rfl; exact .fn _ _ _; exact rfl; (first | exact hwd | exact hkn | exact hsm | exact hP))))
  refine q11 ?_
  (apply spec_f; exact rfl; exact rfl)
  (refine im_any fun hc_ => ?_; try have hc1_ := (band hc_).1)
  refine q8
  (apply spec_f; exact rfl; exact rfl)
  (refine im_any fun hc_ => ?_; try have hc1_ := (band hc_).1)
  refine q6
  (apply spec_f; exact rfl; exact rfl)
  (refine im_any fun hc_ => ?_; try have hc1_ := (band hc_).1)
  refine q18
  (apply spec_f; exact rfl; exact rfl)
  (refine im_any fun hc_ => ?_; try have hc1_ := (band hc_).1)
  refine q35; refine q0 ?_; refine q11 ?_
  (apply spec_f; exact rfl; exact rfl)
  (refine im_any fun hc_ => ?_; try have hc1_ := (band hc_).1)
  refine q47
  (apply spec_f; exact rfl; exact rfl)
  (refine im_any fun hc_ => ?_; try have hc1_ := (band hc_).1)
  ((have hp_ := hc_; (try simp only [Bool.not_eq_true', Bool.not_eq_false', Bool.or_eq_true, Bool.and_eq_true, Bool.or_eq_false_iff, Bool.and_eq_false_iff, decide_eq_true_eq, decide_eq_false_iff_not, Decidable.not_not, Int.not_lt, Int.not_le, Bool.not_true, Bool.not_false, Bool.true_and, Bool.and_true, Bool.false_or, Bool.or_false, Bool.true_or, Bool.false_and, bne_eq_false_iff_eq, bne_iff_ne, beq_iff_eq, beq_eq_false_iff_ne, decide_eq_decide] at hp_)))
  ((apply M_call; (first | (refine EvM.mb _ rfl ?_; first | assumption | exact rfl) | exact EvM.plain rfl rfl); exact .fn _ _ _; (repeat (first | exact EvsM.nil | (apply EvsM.cons; first | (refine EvM.mb _ rfl ?_; first | assumption | exact rfl) | exact EvM.plain rfl rfl))); (first | exact hwd | exact hkn | exact hsm | exact hP)))
  (apply spec_f; exact rfl; exact rfl)
  (refine im_any fun hc_ => ?_; try have hc1_ := (band hc_).1)
  refine q42; refine q0 ?_; refine ao_nil ?_; refine then_n ?_
  (apply awp_cond; exact rfl)
  (refine im_ot (fun hc_ => ?_); (try simp only [Bool.not_eq_true', Bool.not_eq_false', Bool.or_eq_true, Bool.and_eq_true, Bool.or_eq_false_iff, Bool.and_eq_false_iff, decide_eq_true_eq, decide_eq_false_iff_not, Decidable.not_not, Int.not_lt, Int.not_le, Bool.not_true, Bool.not_false, Bool.true_and, Bool.and_true, Bool.false_or, Bool.or_false, Bool.true_or, Bool.false_and, bne_eq_false_iff_eq, bne_iff_ne, beq_iff_eq, beq_eq_false_iff_ne, decide_eq_decide] at hc_))
  refine awp_seq ?_
  (refine ao_region ?_ (fun _ => ?_); exact rfl)
  ((first
    | (apply S_call; exact rfl; exact .fn _ _ _; exact rfl; (first | exact hwd | exact hkn | exact hsm | exact hP))
    | (apply D_call; exact rfl; exact .fn _ _ _; exact rfl; (first | exact hwd | exact hkn | exact hsm | exact hP))))
  refine q12 ?_; refine ao_nil ?_; refine then_n ?_; refine awp_ret ?_; refine then_r ?_
  rotate_left
  iterate 2 refine im_of ?_
  refine im_ff ?_
  (refine im_df (fun _ => ?_); (try (exfalso; omega)))
  refine im_bf ?_; refine im_at ?_
  iterate 2 (refine im_dt (fun _ => ?_); (try (exfalso; omega)))
  refine awp_skip ?_; refine then_n ?_; refine awp_seq ?_
  (refine ao_region ?_ (fun _ => ?_); exact rfl)
  refine q33 ?_
  ((first
    | (apply S_call; exact rfl; exact .fn _ _ _; exact rfl; (first | exact hwd | exact hkn | exact hsm | exact hP))
    | (apply D_call; exact rfl; exact .fn _ _ _; exact rfl; (first | exact hwd | exact hkn | exact hsm | exact hP))))
  refine q11 ?_
  iterate 2 (apply S_extract; exact rfl; exact rfl)
  iterate 2 refine q12 ?_
  refine ao_nil ?_; refine then_n ?_
  iterate 2 refine awp_seq ?_
  (refine ao_region ?_ (fun _ => ?_); exact rfl)
  refine q11 ?_; refine q44 ?_; refine ao_nil ?_; refine then_n ?_
  (apply awp_cond; exact rfl)
  (refine im_nt (fun _ => ?_); (try (exfalso; omega)))
  (refine im_nf (fun _ => ?_); (try (exfalso; omega)))
  refine awp_skip ?_; refine then_n ?_
  iterate 2 refine awp_seq ?_
  (refine ao_region ?_ (fun _ => ?_); exact rfl)
  refine q12 ?_; refine ao_nil ?_; refine then_n ?_; refine awp_block ?_
  rotate_left
  · exact done_b rfl rfl
  refine awp_loop (X := Nat) (fun i => tmL [(1, .d (.pt (exRow x) 0)), (3, .d (pairsTV (ppoL x))), (5, .int .i64 i)]) (fun _ => stL []) (fun i => i ≤ (ppoL x).length) (fun i => (ppoL x).length - i) 0 (Nat.zero_le _) (by repeat' (first | exact le_nil _ | exact sle_nil _ | refine le_cons rfl ?_ | refine sle_cons rfl ?_)) (by repeat' (first | exact le_nil _ | exact sle_nil _ | refine le_cons rfl ?_ | refine sle_cons rfl ?_)) ?_
  intro i hi
  by_cases hlt : i < (ppoL x).length
  · obtain ⟨a, b, ha, hb, hp, e1, e2⟩ := hmem i hlt
    unfold isPo at hp
    simp only [Bool.and_eq_true, decide_eq_true_eq] at hp
    obtain ⟨⟨p1, p2⟩, p3⟩ := hp
    have e1' : ((ppoL x).getD (i : Int).toNat default).1 = (a : Int) := e1
    have e2' : ((ppoL x).getD (i : Int).toNat default).2 = (b : Int) := e2
    have h1 : (x.evs.getD ((ppoL x).getD (i : Int).toNat default).1.toNat default).hart = (x.evs.getD a default).hart := by rw [e1', Int.toNat_natCast]
    have h2 : (x.evs.getD ((ppoL x).getD (i : Int).toNat default).2.toNat default).hart = (x.evs.getD b default).hart := by rw [e2', Int.toNat_natCast]
    iterate 2 refine awp_seq ?_
    (refine ao_region ?_ (fun _ => ?_); exact rfl)
    iterate 2 refine q11 ?_
    refine q13 ?_; refine q37 ?_; refine ao_nil ?_; refine then_n ?_
    (apply awp_cond; exact rfl)
    (refine im_dt (fun _ => ?_); (try (exfalso; omega)))
    refine awp_skip ?_; refine then_n ?_; refine awp_seq ?_; refine awp_block ?_; refine awp_seq ?_
    (refine do_region (E := E) ?_ (fun _ => ?_); exact rfl)
    refine do_cons_app ?_; refine q38 ?_; refine do_cons_app ?_; refine q38 ?_; refine do_cons_app ?_; refine q30 ?_; refine do_cons_app ?_; refine q52 ?_; refine do_cons_app ?_; refine q50 ?_; refine do_cons_app ?_; refine q38 ?_; refine do_cons_app ?_; refine q38 ?_; refine do_cons_app ?_; refine q30 ?_; refine do_cons_app ?_; refine q52 ?_; refine do_cons_app ?_; refine q50 ?_; refine do_cons_app ?_
    (apply D_geq; exact rfl; exact rfl)
    refine do_cons_app ?_; refine q38 ?_; refine do_cons_app ?_
    (apply dspec_f; exact rfl; exact rfl)
    (refine im_any fun hc_ => ?_; try have hc1_ := (band hc_).1)
    refine q1; refine do_cons_app ?_
    (apply dspec_f; exact rfl; exact rfl)
    (refine im_any fun hc_ => ?_; try have hc1_ := (band hc_).1)
    refine q1; refine do_cons_app ?_
    (apply dspec_f; exact rfl; exact rfl)
    (refine im_any fun hc_ => ?_; try have hc1_ := (band hc_).1)
    ((have hp_ := hc_; (try simp only [Bool.not_eq_true', Bool.not_eq_false', Bool.or_eq_true, Bool.and_eq_true, Bool.or_eq_false_iff, Bool.and_eq_false_iff, decide_eq_true_eq, decide_eq_false_iff_not, Decidable.not_not, Int.not_lt, Int.not_le, Bool.not_true, Bool.not_false, Bool.true_and, Bool.and_true, Bool.false_or, Bool.or_false, Bool.true_or, Bool.false_and, bne_eq_false_iff_eq, bne_iff_ne, beq_iff_eq, beq_eq_false_iff_ne, decide_eq_decide] at hp_)))
    refine q5; refine do_cons_app ?_
    (apply dspec_f; exact rfl; exact rfl)
    (refine im_any fun hc_ => ?_; try have hc1_ := (band hc_).1)
    refine q8; refine do_cons_app ?_
    (apply dspec_f; exact rfl; exact rfl)
    (refine im_any fun hc_ => ?_; try have hc1_ := (band hc_).1)
    refine q6; refine do_cons_app ?_
    (apply dspec_f; exact rfl; exact rfl)
    (refine im_any fun hc_ => ?_; try have hc1_ := (band hc_).1)
    refine q22; refine do_cons_app ?_; refine q25 ?_; refine do_cons_app ?_; refine q38 ?_; refine do_cons_app ?_
    (apply dspec_f; exact rfl; exact rfl)
    (refine im_any fun hc_ => ?_; try have hc1_ := (band hc_).1)
    refine q1; refine do_cons_app ?_
    (apply dspec_f; exact rfl; exact rfl)
    (refine im_any fun hc_ => ?_; try have hc1_ := (band hc_).1)
    refine q1; refine do_cons_app ?_
    (apply dspec_f; exact rfl; exact rfl)
    (refine im_any fun hc_ => ?_; try have hc1_ := (band hc_).1)
    ((have hp_ := hc_; (try simp only [Bool.not_eq_true', Bool.not_eq_false', Bool.or_eq_true, Bool.and_eq_true, Bool.or_eq_false_iff, Bool.and_eq_false_iff, decide_eq_true_eq, decide_eq_false_iff_not, Decidable.not_not, Int.not_lt, Int.not_le, Bool.not_true, Bool.not_false, Bool.true_and, Bool.and_true, Bool.false_or, Bool.or_false, Bool.true_or, Bool.false_and, bne_eq_false_iff_eq, bne_iff_ne, beq_iff_eq, beq_eq_false_iff_ne, decide_eq_decide] at hp_)))
    refine q5; refine do_cons_app ?_
    (apply dspec_f; exact rfl; exact rfl)
    (refine im_any fun hc_ => ?_; try have hc1_ := (band hc_).1)
    refine q8; refine do_cons_app ?_
    (apply dspec_f; exact rfl; exact rfl)
    (refine im_any fun hc_ => ?_; try have hc1_ := (band hc_).1)
    refine q6; refine do_cons_app ?_
    (apply dspec_f; exact rfl; exact rfl)
    (refine im_any fun hc_ => ?_; try have hc1_ := (band hc_).1)
    refine q8; refine do_cons_app ?_
    (apply dspec_f; exact rfl; exact rfl)
    (refine im_any fun hc_ => ?_; try have hc1_ := (band hc_).1)
    refine q6; refine do_cons_app ?_
    (apply dspec_f; exact rfl; exact rfl)
    (refine im_any fun hc_ => ?_; try have hc1_ := (band hc_).1)
    refine q18; refine do_cons_app ?_
    (apply dspec_f; exact rfl; exact rfl)
    (refine im_any fun hc_ => ?_; try have hc1_ := (band hc_).1)
    refine q21; refine do_cons_app ?_; refine q25 ?_; refine do_cons_app ?_; refine q38 ?_; refine do_cons_app ?_
    (apply dspec_f; exact rfl; exact rfl)
    (refine im_any fun hc_ => ?_; try have hc1_ := (band hc_).1)
    refine q8; refine do_cons_app ?_
    (apply dspec_f; exact rfl; exact rfl)
    (refine im_any fun hc_ => ?_; try have hc1_ := (band hc_).1)
    refine q6; refine do_nil_app ?_
    (apply dspec_f; exact rfl; exact rfl)
    (refine im_any fun hc_ => ?_; try have hc1_ := (band hc_).1)
    refine q1
    (apply dspec_f; exact rfl; exact rfl)
    (refine im_any fun hc_ => ?_; try have hc1_ := (band hc_).1)
    refine q1
    (apply dspec_f; exact rfl; exact rfl)
    (refine im_any fun hc_ => ?_; try have hc1_ := (band hc_).1)
    ((have hp_ := hc_; (try simp only [Bool.not_eq_true', Bool.not_eq_false', Bool.or_eq_true, Bool.and_eq_true, Bool.or_eq_false_iff, Bool.and_eq_false_iff, decide_eq_true_eq, decide_eq_false_iff_not, Decidable.not_not, Int.not_lt, Int.not_le, Bool.not_true, Bool.not_false, Bool.true_and, Bool.and_true, Bool.false_or, Bool.or_false, Bool.true_or, Bool.false_and, bne_eq_false_iff_eq, bne_iff_ne, beq_iff_eq, beq_eq_false_iff_ne, decide_eq_decide] at hp_)))
    refine q5
    (apply dspec_f; exact rfl; exact rfl)
    (refine im_any fun hc_ => ?_; try have hc1_ := (band hc_).1)
    refine q8
    (apply dspec_f; exact rfl; exact rfl)
    (refine im_any fun hc_ => ?_; try have hc1_ := (band hc_).1)
    refine q6
    (apply dspec_f; exact rfl; exact rfl)
    (refine im_any fun hc_ => ?_; try have hc1_ := (band hc_).1)
    ((have hp_ := hc_; (try simp only [Bool.not_eq_true', Bool.not_eq_false', Bool.or_eq_true, Bool.and_eq_true, Bool.or_eq_false_iff, Bool.and_eq_false_iff, decide_eq_true_eq, decide_eq_false_iff_not, Decidable.not_not, Int.not_lt, Int.not_le, Bool.not_true, Bool.not_false, Bool.true_and, Bool.and_true, Bool.false_or, Bool.or_false, Bool.true_or, Bool.false_and, bne_eq_false_iff_eq, bne_iff_ne, beq_iff_eq, beq_eq_false_iff_ne, decide_eq_decide] at hp_)))
    refine q5
    (apply dspec_f; exact rfl; exact rfl)
    (refine im_any fun hc_ => ?_; try have hc1_ := (band hc_).1)
    refine q8
    (apply dspec_f; exact rfl; exact rfl)
    (refine im_any fun hc_ => ?_; try have hc1_ := (band hc_).1)
    refine q6
    (apply dspec_f; exact rfl; exact rfl)
    (refine im_any fun hc_ => ?_; try have hc1_ := (band hc_).1)
    refine q8
    (apply dspec_f; exact rfl; exact rfl)
    (refine im_any fun hc_ => ?_; try have hc1_ := (band hc_).1)
    refine q6
    (apply dspec_f; exact rfl; exact rfl)
    (refine im_any fun hc_ => ?_; try have hc1_ := (band hc_).1)
    refine q1
    (apply dspec_f; exact rfl; exact rfl)
    (refine im_any fun hc_ => ?_; try have hc1_ := (band hc_).1)
    refine q1
    (apply dspec_f; exact rfl; exact rfl)
    (refine im_any fun hc_ => ?_; try have hc1_ := (band hc_).1)
    ((have hp_ := hc_; (try simp only [Bool.not_eq_true', Bool.not_eq_false', Bool.or_eq_true, Bool.and_eq_true, Bool.or_eq_false_iff, Bool.and_eq_false_iff, decide_eq_true_eq, decide_eq_false_iff_not, Decidable.not_not, Int.not_lt, Int.not_le, Bool.not_true, Bool.not_false, Bool.true_and, Bool.and_true, Bool.false_or, Bool.or_false, Bool.true_or, Bool.false_and, bne_eq_false_iff_eq, bne_iff_ne, beq_iff_eq, beq_eq_false_iff_ne, decide_eq_decide] at hp_)))
    refine q5
    (apply dspec_f; exact rfl; exact rfl)
    (refine im_any fun hc_ => ?_; try have hc1_ := (band hc_).1)
    refine q8
    (apply dspec_f; exact rfl; exact rfl)
    (refine im_any fun hc_ => ?_; try have hc1_ := (band hc_).1)
    refine q6
    (apply dspec_f; exact rfl; exact rfl)
    (refine im_any fun hc_ => ?_; try have hc1_ := (band hc_).1)
    ((have hp_ := hc_; (try simp only [Bool.not_eq_true', Bool.not_eq_false', Bool.or_eq_true, Bool.and_eq_true, Bool.or_eq_false_iff, Bool.and_eq_false_iff, decide_eq_true_eq, decide_eq_false_iff_not, Decidable.not_not, Int.not_lt, Int.not_le, Bool.not_true, Bool.not_false, Bool.true_and, Bool.and_true, Bool.false_or, Bool.or_false, Bool.true_or, Bool.false_and, bne_eq_false_iff_eq, bne_iff_ne, beq_iff_eq, beq_eq_false_iff_ne, decide_eq_decide] at hp_)))
    refine q5
    (apply dspec_f; exact rfl; exact rfl)
    (refine im_any fun hc_ => ?_; try have hc1_ := (band hc_).1)
    refine q8
    (apply dspec_f; exact rfl; exact rfl)
    (refine im_any fun hc_ => ?_; try have hc1_ := (band hc_).1)
    refine q6
    (apply dspec_f; exact rfl; exact rfl)
    (refine im_any fun hc_ => ?_; try have hc1_ := (band hc_).1)
    refine q26; refine q25 ?_; refine q38 ?_
    (apply dspec_f; exact rfl; exact rfl)
    (refine im_any fun hc_ => ?_; try have hc1_ := (band hc_).1)
    refine q8
    (apply dspec_f; exact rfl; exact rfl)
    (refine im_any fun hc_ => ?_; try have hc1_ := (band hc_).1)
    refine q6
    (apply dspec_f; exact rfl; exact rfl)
    (refine im_any fun hc_ => ?_; try have hc1_ := (band hc_).1)
    refine q1
    (apply dspec_f; exact rfl; exact rfl)
    (refine im_any fun hc_ => ?_; try have hc1_ := (band hc_).1)
    refine q1
    (apply dspec_f; exact rfl; exact rfl)
    (refine im_any fun hc_ => ?_; try have hc1_ := (band hc_).1)
    ((have hp_ := hc_; (try simp only [Bool.not_eq_true', Bool.not_eq_false', Bool.or_eq_true, Bool.and_eq_true, Bool.or_eq_false_iff, Bool.and_eq_false_iff, decide_eq_true_eq, decide_eq_false_iff_not, Decidable.not_not, Int.not_lt, Int.not_le, Bool.not_true, Bool.not_false, Bool.true_and, Bool.and_true, Bool.false_or, Bool.or_false, Bool.true_or, Bool.false_and, bne_eq_false_iff_eq, bne_iff_ne, beq_iff_eq, beq_eq_false_iff_ne, decide_eq_decide] at hp_)))
    refine q5
    (apply dspec_f; exact rfl; exact rfl)
    (refine im_any fun hc_ => ?_; try have hc1_ := (band hc_).1)
    refine q8
    (apply dspec_f; exact rfl; exact rfl)
    (refine im_any fun hc_ => ?_; try have hc1_ := (band hc_).1)
    refine q6
    (apply dspec_f; exact rfl; exact rfl)
    (refine im_any fun hc_ => ?_; try have hc1_ := (band hc_).1)
    ((have hp_ := hc_; (try simp only [Bool.not_eq_true', Bool.not_eq_false', Bool.or_eq_true, Bool.and_eq_true, Bool.or_eq_false_iff, Bool.and_eq_false_iff, decide_eq_true_eq, decide_eq_false_iff_not, Decidable.not_not, Int.not_lt, Int.not_le, Bool.not_true, Bool.not_false, Bool.true_and, Bool.and_true, Bool.false_or, Bool.or_false, Bool.true_or, Bool.false_and, bne_eq_false_iff_eq, bne_iff_ne, beq_iff_eq, beq_eq_false_iff_ne, decide_eq_decide] at hp_)))
    refine q5
    (apply dspec_f; exact rfl; exact rfl)
    (refine im_any fun hc_ => ?_; try have hc1_ := (band hc_).1)
    refine q8
    (apply dspec_f; exact rfl; exact rfl)
    (refine im_any fun hc_ => ?_; try have hc1_ := (band hc_).1)
    refine q6
    (apply dspec_f; exact rfl; exact rfl)
    (refine im_any fun hc_ => ?_; try have hc1_ := (band hc_).1)
    refine q22; refine q25 ?_
    (refine do_nil ?_ ?_; (first | ((try dsimp only [wkeys]); decide +kernel) | exact rfl))
    refine then_n ?_
    (apply awp_cond; exact rfl)
    (refine im_ot (fun hc_ => ?_); (try simp only [Bool.not_eq_true', Bool.not_eq_false', Bool.or_eq_true, Bool.and_eq_true, Bool.or_eq_false_iff, Bool.and_eq_false_iff, decide_eq_true_eq, decide_eq_false_iff_not, Decidable.not_not, Int.not_lt, Int.not_le, Bool.not_true, Bool.not_false, Bool.true_and, Bool.and_true, Bool.false_or, Bool.or_false, Bool.true_or, Bool.false_and, bne_eq_false_iff_eq, bne_iff_ne, beq_iff_eq, beq_eq_false_iff_ne, decide_eq_decide] at hc_))
    refine awp_seq ?_
    (refine ao_region ?_ (fun _ => ?_); exact rfl)
    refine q12 ?_; refine ao_nil ?_; refine then_n ?_; refine awp_ret ?_; refine blk_r ?_
    iterate 2 refine then_r ?_
    refine blk_r ?_; refine then_r ?_
    rotate_left
    iterate 4 refine im_of ?_
    iterate 3 (refine im_df (fun _ => ?_); (try (exfalso; omega)))
    (refine im_nf (fun _ => ?_); (try (exfalso; omega)))
    (refine im_df (fun _ => ?_); (try (exfalso; omega)))
    refine awp_skip ?_; refine blk_n ?_; refine then_n ?_
    (refine ao_region ?_ (fun _ => ?_); exact rfl)
    refine q11 ?_; refine q36 ?_; refine q12 ?_; refine ao_nil ?_; refine then_n ?_
    rotate_left
    (refine im_df (fun _ => ?_); (try (exfalso; omega)))
    · exfalso; omega
    · exact round' (i + 1) (show i + 1 ≤ (ppoL x).length by omega) (by omega) (by repeat' (first | exact le_nil _ | exact sle_nil _ | refine le_cons rfl ?_ | refine sle_cons rfl ?_)) (by repeat' (first | exact le_nil _ | exact sle_nil _ | refine le_cons rfl ?_ | refine sle_cons rfl ?_))
  have hie : i = (ppoL x).length := by omega
  subst hie
  iterate 2 refine awp_seq ?_
  (refine ao_region ?_ (fun _ => ?_); exact rfl)
  iterate 2 refine q11 ?_
  refine q13 ?_; refine q37 ?_; refine ao_nil ?_; refine then_n ?_
  (apply awp_cond; exact rfl)
  (refine im_dt (fun _ => ?_); (try (exfalso; omega)))
  (refine im_df (fun _ => ?_); (try (exfalso; omega)))
  refine awp_exit ?_
  iterate 2 refine then_x ?_
  refine blk_x ?_; refine then_n ?_
  iterate 2 refine awp_seq ?_
  (refine ao_region ?_ (fun _ => ?_); exact rfl)
  refine q12 ?_; refine ao_nil ?_; refine then_n ?_; refine awp_block ?_
  rotate_left
  refine awp_loop (X := Nat) (fun i => tmL [(1, .d (.pt (exRow x) 0)), (6, .int .i64 i)]) (fun _ => stL []) (fun i => i ≤ x.evs.length ∧ ∀ j, j < i → (x.evs.getD j default).kind ≠ 4) (fun i => x.evs.length - i) 0 ⟨Nat.zero_le _, fun j hj => by omega⟩ (by repeat' (first | exact le_nil _ | exact sle_nil _ | refine le_cons rfl ?_ | refine sle_cons rfl ?_)) (by repeat' (first | exact le_nil _ | exact sle_nil _ | refine le_cons rfl ?_ | refine sle_cons rfl ?_)) ?_
  rintro i ⟨hi, hnf⟩
  by_cases hlt : i < x.evs.length
  · iterate 2 refine awp_seq ?_
    (refine ao_region ?_ (fun _ => ?_); exact rfl)
    refine q11 ?_; refine q32 ?_; refine q23 ?_; refine q13 ?_; refine q37 ?_; refine ao_nil ?_; refine then_n ?_
    (apply awp_cond; exact rfl)
    (refine im_dt (fun _ => ?_); (try (exfalso; omega)))
    refine awp_skip ?_; refine then_n ?_; refine awp_seq ?_; refine awp_block ?_; refine awp_seq ?_
    (refine ao_region ?_ (fun _ => ?_); exact rfl)
    refine q32 ?_; refine q23 ?_; refine q11 ?_; refine q17 ?_; refine q32 ?_; refine q23 ?_; refine q46 ?_; refine ao_nil ?_; refine then_n ?_
    (apply awp_cond; exact rfl)
    (refine im_dt (fun _ => ?_); (try (exfalso; omega)))
    refine awp_seq ?_
    (refine ao_region ?_ (fun _ => ?_); exact rfl)
    ((first
      | (apply S_call; exact rfl; exact .fn _ _ _; exact rfl; exact hkn)
      | (apply D_call; exact rfl; exact .fn _ _ _; exact rfl; exact hkn)))
    refine q12 ?_; refine ao_nil ?_; refine then_n ?_; refine awp_ret ?_; refine blk_r ?_
    iterate 2 refine then_r ?_
    refine blk_r ?_; refine then_r ?_
    rotate_left
    (refine im_df (fun _ => ?_); (try (exfalso; omega)))
    refine awp_skip ?_; refine blk_n ?_; refine then_n ?_
    (refine ao_region ?_ (fun _ => ?_); exact rfl)
    refine q11 ?_; refine q36 ?_; refine q12 ?_; refine ao_nil ?_; refine then_n ?_
    rotate_left
    (refine im_df (fun _ => ?_); (try (exfalso; omega)))
    · exact done_b rfl rfl
    · rename_i hk4 _
      refine round' (i + 1) ⟨by omega, fun j hj => ?_⟩ (by omega) (by repeat' (first | exact le_nil _ | exact sle_nil _ | refine le_cons rfl ?_ | refine sle_cons rfl ?_)) (by repeat' (first | exact le_nil _ | exact sle_nil _ | refine le_cons rfl ?_ | refine sle_cons rfl ?_))
      rcases Nat.lt_or_ge j i with e | e
      · exact hnf j e
      · have e2 : j = i := by omega
        rw [e2]; exact hk4
  have hie : i = x.evs.length := by omega
  subst hie
  have hW : Wh x (addrsTo x.evs).length := ⟨hc, rfl, hnf, hl12⟩
  generalize hkk : (addrsTo x.evs).length = kk at hW
  have hro : ∀ i, (x.order.getD i default).2.length ≤ 400 := fun i => by
    rcases Nat.lt_or_ge i x.order.length with hh | hh
    · rw [List.getD_eq_getElem?_getD, List.getElem?_eq_getElem hh]; exact wide_row hw _ (List.getElem_mem hh)
    · rw [List.getD_eq_getElem?_getD, List.getElem?_eq_none hh]; exact Nat.zero_le _
  have hle : ∀ i, (x.evs.getD i default).addrs.length ≤ 400 ∧ (x.evs.getD i default).datas.length ≤ 400 ∧ (x.evs.getD i default).ctrls.length ≤ 400 := fun i => by
    rcases Nat.lt_or_ge i x.evs.length with hh | hh
    · have h1 := sumE_succ x.evs i hh
      have h2 := sumE_le x.evs (i + 1)
      unfold wideB at hw
      simp only [Bool.or_eq_false_iff, decide_eq_false_iff_not] at hw
      have h3 := hw.2
      unfold Ev.lens at h1
      omega
    · rw [List.getD_eq_getElem?_getD, List.getElem?_eq_none hh]
      exact ⟨Nat.zero_le _, Nat.zero_le _, Nat.zero_le _⟩
  have hF := fenced_p x kk hW hfit hro hle
  have hyfit : (fwd x kk).fit := ⟨fw_ok hW hx, fun r hr => by
    obtain ⟨q, hq, rfl⟩ := List.mem_map.1 hr
    simpa [mvL] using hfit.2 q hq⟩
  have hP2 := Ppo_p (fwd x kk) hyfit
  have hpl2 : ppoT (fwd x kk) = (ppoL (fwd x kk), 0) := by unfold ppoT; rw [if_neg (by simp [fw_check hW])]
  rw [hpl2] at hP2
  have hM : ppoL (fwd x kk) = (refPairs x.evs.length (isPo x)).map fun p => (atZ kk p.1, atZ kk p.2) := fw_pairs hW
  have hMl : (ppoL (fwd x kk)).length = (poZ x).length := by rw [hM, List.length_map, poZ_ref]
  have hzl := poTo_len x x.evs.length
  have hz2 : (poZ x).length ≤ 144 := Nat.le_trans hzl (Nat.mul_le_mul hl12 hl12)
  have hev : exOV (fwd x kk) = .ag [.d (evsTV (fwd x kk).evs), .d (ints (fwd x kk).from_), .d (rowsTV (fwd x kk).order)] := rfl
  generalize hy : fwd x kk = y at hF hP2 hM hMl hev
  iterate 2 refine awp_seq ?_
  (refine ao_region ?_ (fun _ => ?_); exact rfl)
  refine q11 ?_; refine q32 ?_; refine q23 ?_; refine q13 ?_; refine q37 ?_; refine ao_nil ?_; refine then_n ?_
  (apply awp_cond; exact rfl)
  (refine im_dt (fun _ => ?_); (try (exfalso; omega)))
  (refine im_df (fun _ => ?_); (try (exfalso; omega)))
  refine awp_exit ?_
  iterate 2 refine then_x ?_
  refine blk_x ?_; refine then_n ?_; refine awp_seq ?_
  (refine ao_region ?_ (fun _ => ?_); exact rfl)
  refine q33 ?_
  ((first
    | (apply S_call; exact rfl; exact .fn _ _ _; exact rfl; (first | exact hF | exact hP2))
    | (apply D_call; exact rfl; exact .fn _ _ _; exact rfl; (first | exact hF | exact hP2))))
  refine q11 ?_
  iterate 2 (apply S_extract; exact rfl; exact rfl)
  (apply S_alloc; exact rfl)
  refine q43 ?_; refine q12 ?_; refine ao_nil ?_; refine then_n ?_; refine awp_seq ?_
  (refine ao_region ?_ (fun _ => ?_); exact rfl)
  refine q33 ?_
  ((first
    | (apply S_call; exact rfl; exact .fn _ _ _; exact rfl; (first | exact hF | exact hP2))
    | (apply D_call; exact rfl; exact .fn _ _ _; exact rfl; (first | exact hF | exact hP2))))
  refine q11 ?_
  iterate 2 (apply S_extract; exact rfl; exact rfl)
  iterate 2 refine q12 ?_
  refine ao_nil ?_; refine then_n ?_
  iterate 2 refine awp_seq ?_
  (refine ao_region ?_ (fun _ => ?_); exact rfl)
  refine q11 ?_; refine q44 ?_; refine ao_nil ?_; refine then_n ?_
  (apply awp_cond; exact rfl)
  (refine im_nt (fun _ => ?_); (try (exfalso; omega)))
  (refine im_nf (fun _ => ?_); (try (exfalso; omega)))
  refine awp_skip ?_; refine then_n ?_; refine awp_seq ?_
  (refine ao_region ?_ (fun _ => ?_); exact rfl)
  refine q12 ?_; refine ao_nil ?_; refine then_n ?_
  iterate 2 refine awp_seq ?_
  (refine ao_region ?_ (fun _ => ?_); exact rfl)
  refine q12 ?_; refine ao_nil ?_; refine then_n ?_; refine awp_block ?_
  rotate_left
  have hatl := atL_length kk x.evs.length
  have zN : (poTo x x.evs.length).length = (ppoL y).length := by rw [hMl]; rfl
  refine awp_loop (X := Nat) (fun a => tmL [(1, .d (.pt (exRow x) 0)), (8, .d (ints (atL kk x.evs.length))), (9, .d (pairsTV (ppoL y))), (11, .int .i64 ((poTo x a).length : Nat)), (12, .int .i64 a)]) (fun _ => stL []) (fun a => a ≤ x.evs.length) (fun a => x.evs.length - a) 0 (Nat.zero_le _) (by repeat' (first | exact le_nil _ | exact sle_nil _ | refine le_cons rfl ?_ | refine sle_cons rfl ?_)) (by repeat' (first | exact le_nil _ | exact sle_nil _ | refine le_cons rfl ?_ | refine sle_cons rfl ?_)) ?_
  intro a ha
  have hta : (poTo x a).length ≤ 144 := Nat.le_trans (poTo_len x a) (Nat.mul_le_mul (Nat.le_trans ha hl12) hl12)
  by_cases hla : a < x.evs.length
  · iterate 2 refine awp_seq ?_
    (refine ao_region ?_ (fun _ => ?_); exact rfl)
    refine q11 ?_; refine q32 ?_; refine q23 ?_; refine q13 ?_; refine q37 ?_; refine ao_nil ?_; refine then_n ?_
    (apply awp_cond; exact rfl)
    (refine im_dt (fun _ => ?_); (try (exfalso; omega)))
    refine awp_skip ?_; refine then_n ?_; refine awp_seq ?_; refine awp_block ?_; refine awp_seq ?_
    (refine ao_region ?_ (fun _ => ?_); exact rfl)
    refine q11 ?_; refine q36 ?_; refine q12 ?_; refine ao_nil ?_; refine then_n ?_; refine awp_block ?_
    rotate_left
    (refine im_df (fun _ => ?_); (try (exfalso; omega)))
    refine awp_loop (X := Nat) (fun b => tmL [(1, .d (.pt (exRow x) 0)), (8, .d (ints (atL kk x.evs.length))), (9, .d (pairsTV (ppoL y))), (11, .int .i64 ((poAt x a b).length : Nat)), (12, .int .i64 a), (13, .int .i64 b)]) (fun _ => stL []) (fun b => a + 1 ≤ b ∧ b ≤ x.evs.length) (fun b => x.evs.length - b) (a + 1) ⟨Nat.le_refl _, hla⟩ ?_ (by repeat' (first | exact le_nil _ | exact sle_nil _ | refine le_cons rfl ?_ | refine sle_cons rfl ?_)) ?_
    · rw [poAt_zero]; exact (by repeat' (first | exact le_nil _ | exact sle_nil _ | refine le_cons rfl ?_ | refine sle_cons rfl ?_))
    rintro b ⟨hb0, hb⟩
    have htb : (poAt x a b).length ≤ 156 := by
      unfold poAt
      rw [List.length_append]
      have := poRow_len x a b
      omega
    by_cases hlb : b < x.evs.length
    · have hmemM : hasP (ppoL y) (((atN kk a : Nat) : Int), ((atN kk b : Nat) : Int)) (ppoL y).length = true ∨ isPo x a b = false := by
        cases hp : isPo x a b with
        | false => exact Or.inr rfl
        | true =>
          left
          have hm : (((atN kk a : Nat) : Int), ((atN kk b : Nat) : Int)) ∈ ppoL y := by
            rw [hM]
            exact List.mem_map.2 ⟨((a : Int), (b : Int)), mem_refPairs.2 ⟨a, b, hla, hlb, hp, rfl⟩, by rw [atZ_nat, atZ_nat]⟩
          obtain ⟨j, hj, e⟩ := List.mem_iff_getElem.1 hm
          unfold hasP
          refine List.any_eq_true.2 ⟨j, List.mem_range.2 hj, ?_⟩
          rw [List.getD_eq_getElem?_getD, List.getElem?_eq_getElem hj]
          show pairB (ppoL y)[j] _ = true
          rw [e]; simp [pairB]
      have hH := has_p (ppoL y) ((atL kk x.evs.length).getD (a : Int).toNat 0, (atL kk x.evs.length).getD (b : Int).toNat 0) (by omega)
      have hat : ((atL kk x.evs.length).getD (a : Int).toNat 0, (atL kk x.evs.length).getD (b : Int).toNat 0) = (((atN kk a : Nat) : Int), ((atN kk b : Nat) : Int)) := by
        rw [Int.toNat_natCast, Int.toNat_natCast, atL_get hla, atL_get hlb]
      rw [hat] at hH
      rw [← hat] at hH
      cases hp : isPo x a b with
      | true =>
        rw [hp] at hmemM
        have hmm := hmemM.resolve_right (by decide)
        rw [← hat] at hmm
        rw [hmm] at hH
        have hpo := hp
        unfold isPo at hp
        simp only [Bool.and_eq_true, decide_eq_true_eq] at hp
        obtain ⟨⟨p1, p2⟩, p3⟩ := hp
        have p2' : 0 ≤ (x.evs.getD (a : Int).toNat default).hart := p2
        have p3' : (x.evs.getD (a : Int).toNat default).hart = (x.evs.getD (b : Int).toNat default).hart := p3
        iterate 2 refine awp_seq ?_
        (refine ao_region ?_ (fun _ => ?_); exact rfl)
        refine q11 ?_; refine q32 ?_; refine q23 ?_; refine q13 ?_; refine q37 ?_; refine ao_nil ?_; refine then_n ?_
        (apply awp_cond; exact rfl)
        (refine im_dt (fun _ => ?_); (try (exfalso; omega)))
        refine awp_skip ?_; refine then_n ?_; refine awp_seq ?_; refine awp_block ?_; refine awp_seq ?_
        (refine do_region (E := E) ?_ (fun _ => ?_); exact rfl)
        refine q52 ?_; refine q50 ?_; refine q38 ?_; refine q30 ?_; refine q52 ?_; refine q50 ?_
        (apply D_geq; exact rfl; exact rfl)
        refine q38 ?_
        (apply dspec_t; exact rfl; exact rfl)
        (refine im_any fun hc_ => ?_; try have hc1_ := (band hc_).1)
        refine q8
        (apply dspec_t; exact rfl; exact rfl)
        (refine im_any fun hc_ => ?_; try have hc1_ := (band hc_).1)
        refine q6
        (apply dspec_t; exact rfl; exact rfl)
        (refine im_any fun hc_ => ?_; try have hc1_ := (band hc_).1)
        refine q1
        (apply dspec_t; exact rfl; exact rfl)
        (refine im_any fun hc_ => ?_; try have hc1_ := (band hc_).1)
        ((have hp_ := hc_; (try simp only [Bool.not_eq_true', Bool.not_eq_false', Bool.or_eq_true, Bool.and_eq_true, Bool.or_eq_false_iff, Bool.and_eq_false_iff, decide_eq_true_eq, decide_eq_false_iff_not, Decidable.not_not, Int.not_lt, Int.not_le, Bool.not_true, Bool.not_false, Bool.true_and, Bool.and_true, Bool.false_or, Bool.or_false, Bool.true_or, Bool.false_and, bne_eq_false_iff_eq, bne_iff_ne, beq_iff_eq, beq_eq_false_iff_ne, decide_eq_decide] at hp_)))
        refine q5
        (apply dspec_t; exact rfl; exact rfl)
        (refine im_any fun hc_ => ?_; try have hc1_ := (band hc_).1)
        refine q8
        (apply dspec_t; exact rfl; exact rfl)
        (refine im_any fun hc_ => ?_; try have hc1_ := (band hc_).1)
        refine q6
        (apply dspec_t; exact rfl; exact rfl)
        (refine im_any fun hc_ => ?_; try have hc1_ := (band hc_).1)
        refine q8
        (apply dspec_t; exact rfl; exact rfl)
        (refine im_any fun hc_ => ?_; try have hc1_ := (band hc_).1)
        refine q6
        (apply dspec_t; exact rfl; exact rfl)
        (refine im_any fun hc_ => ?_; try have hc1_ := (band hc_).1)
        refine q1
        (apply dspec_t; exact rfl; exact rfl)
        (refine im_any fun hc_ => ?_; try have hc1_ := (band hc_).1)
        ((have hp_ := hc_; (try simp only [Bool.not_eq_true', Bool.not_eq_false', Bool.or_eq_true, Bool.and_eq_true, Bool.or_eq_false_iff, Bool.and_eq_false_iff, decide_eq_true_eq, decide_eq_false_iff_not, Decidable.not_not, Int.not_lt, Int.not_le, Bool.not_true, Bool.not_false, Bool.true_and, Bool.and_true, Bool.false_or, Bool.or_false, Bool.true_or, Bool.false_and, bne_eq_false_iff_eq, bne_iff_ne, beq_iff_eq, beq_eq_false_iff_ne, decide_eq_decide] at hp_)))
        refine q5
        (apply dspec_t; exact rfl; exact rfl)
        (refine im_any fun hc_ => ?_; try have hc1_ := (band hc_).1)
        refine q8
        (apply dspec_t; exact rfl; exact rfl)
        (refine im_any fun hc_ => ?_; try have hc1_ := (band hc_).1)
        refine q6
        (apply dspec_t; exact rfl; exact rfl)
        (refine im_any fun hc_ => ?_; try have hc1_ := (band hc_).1)
        refine q7; refine q9 ?_
        (refine do_nil ?_ ?_; (first | ((try dsimp only [wkeys]); decide +kernel) | exact rfl))
        refine then_n ?_
        (apply awp_cond; exact rfl)
        refine im_at ?_
        iterate 2 (refine im_dt (fun _ => ?_); (try (exfalso; omega)))
        refine awp_seq ?_
        (refine ao_region ?_ (fun _ => ?_); exact rfl)
        refine q11 ?_; refine q36 ?_; refine q12 ?_; refine ao_nil ?_; refine then_n ?_; refine awp_seq ?_
        (refine do_region (E := E) ?_ (fun _ => ?_); exact rfl)
        iterate 3 refine q38 ?_
        refine q30 ?_; refine q50 ?_
        iterate 2 refine q38 ?_
        refine q30 ?_; refine q50 ?_
        (apply D_build; exact rfl; exact rfl; exact rfl; exact rfl; exact rfl)
        ((apply D_call; exact rfl; exact .fn _ _ _; exact rfl; exact hH))
        (apply D_not; exact rfl)
        (refine do_nil ?_ ?_; (first | ((try dsimp only [wkeys]); decide +kernel) | exact rfl))
        refine then_n ?_
        (apply awp_cond; exact rfl)
        refine im_bt ?_
        exact im_tf
        refine im_bf ?_; refine im_tt ?_; refine awp_skip ?_; refine blk_n ?_; refine then_n ?_
        (refine ao_region ?_ (fun _ => ?_); exact rfl)
        refine q11 ?_; refine q36 ?_; refine q12 ?_; refine ao_nil ?_; refine then_n ?_
        rotate_left
        (refine im_af (fun hc_ => ?_); (try simp only [Bool.not_eq_true', Bool.not_eq_false', Bool.or_eq_true, Bool.and_eq_true, Bool.or_eq_false_iff, Bool.and_eq_false_iff, decide_eq_true_eq, decide_eq_false_iff_not, Decidable.not_not, Int.not_lt, Int.not_le, Bool.not_true, Bool.not_false, Bool.true_and, Bool.and_true, Bool.false_or, Bool.or_false, Bool.true_or, Bool.false_and, bne_eq_false_iff_eq, bne_iff_ne, beq_iff_eq, beq_eq_false_iff_ne, decide_eq_decide] at hc_))
        refine awp_skip ?_; refine blk_n ?_; refine then_n ?_
        (refine ao_region ?_ (fun _ => ?_); exact rfl)
        refine q11 ?_; refine q36 ?_; refine q12 ?_; refine ao_nil ?_; refine then_n ?_
        rotate_left
        (refine im_df (fun _ => ?_); (try (exfalso; omega)))
        · refine round' (b + 1) ⟨by omega, by omega⟩ (by omega) ?_ (by repeat' (first | exact le_nil _ | exact sle_nil _ | refine le_cons rfl ?_ | refine sle_cons rfl ?_))
          rw [poAt_yes hpo]
          exact (by repeat' (first | exact le_nil _ | exact sle_nil _ | refine le_cons rfl ?_ | refine sle_cons rfl ?_ | (refine le_cons_os rfl ?_ ?_; (simp)) | (refine le_cons_int rfl ?_ ?_; (simp)) | (refine sle_cons' rfl ?_ ?_; (simp))))
        · exfalso; omega
      | false =>
        have hpo : ¬ isPo x a b = true := by rw [hp]; decide
        have hp' : ¬ (0 ≤ (x.evs.getD (a : Int).toNat default).hart ∧ (x.evs.getD (a : Int).toNat default).hart = (x.evs.getD (b : Int).toNat default).hart) := fun h => hpo (by
          unfold isPo
          simp only [Bool.and_eq_true, decide_eq_true_eq]
          exact ⟨⟨by omega, h.1⟩, h.2⟩)
        iterate 2 refine awp_seq ?_
        (refine ao_region ?_ (fun _ => ?_); exact rfl)
        refine q11 ?_; refine q32 ?_; refine q23 ?_; refine q13 ?_; refine q37 ?_; refine ao_nil ?_; refine then_n ?_
        (apply awp_cond; exact rfl)
        (refine im_dt (fun _ => ?_); (try (exfalso; omega)))
        refine awp_skip ?_; refine then_n ?_; refine awp_seq ?_; refine awp_block ?_; refine awp_seq ?_
        (refine do_region (E := E) ?_ (fun _ => ?_); exact rfl)
        refine q52 ?_; refine q50 ?_; refine q38 ?_; refine q30 ?_; refine q52 ?_; refine q50 ?_
        (apply D_geq; exact rfl; exact rfl)
        refine q38 ?_
        (apply dspec_t; exact rfl; exact rfl)
        (refine im_any fun hc_ => ?_; try have hc1_ := (band hc_).1)
        refine q8
        (apply dspec_t; exact rfl; exact rfl)
        (refine im_any fun hc_ => ?_; try have hc1_ := (band hc_).1)
        refine q6
        (apply dspec_t; exact rfl; exact rfl)
        (refine im_any fun hc_ => ?_; try have hc1_ := (band hc_).1)
        refine q1
        (apply dspec_t; exact rfl; exact rfl)
        (refine im_any fun hc_ => ?_; try have hc1_ := (band hc_).1)
        ((have hp_ := hc_; (try simp only [Bool.not_eq_true', Bool.not_eq_false', Bool.or_eq_true, Bool.and_eq_true, Bool.or_eq_false_iff, Bool.and_eq_false_iff, decide_eq_true_eq, decide_eq_false_iff_not, Decidable.not_not, Int.not_lt, Int.not_le, Bool.not_true, Bool.not_false, Bool.true_and, Bool.and_true, Bool.false_or, Bool.or_false, Bool.true_or, Bool.false_and, bne_eq_false_iff_eq, bne_iff_ne, beq_iff_eq, beq_eq_false_iff_ne, decide_eq_decide] at hp_)))
        refine q5
        (apply dspec_t; exact rfl; exact rfl)
        (refine im_any fun hc_ => ?_; try have hc1_ := (band hc_).1)
        refine q8
        (apply dspec_t; exact rfl; exact rfl)
        (refine im_any fun hc_ => ?_; try have hc1_ := (band hc_).1)
        refine q6
        (apply dspec_t; exact rfl; exact rfl)
        (refine im_any fun hc_ => ?_; try have hc1_ := (band hc_).1)
        refine q8
        (apply dspec_t; exact rfl; exact rfl)
        (refine im_any fun hc_ => ?_; try have hc1_ := (band hc_).1)
        refine q6
        (apply dspec_t; exact rfl; exact rfl)
        (refine im_any fun hc_ => ?_; try have hc1_ := (band hc_).1)
        refine q1
        (apply dspec_t; exact rfl; exact rfl)
        (refine im_any fun hc_ => ?_; try have hc1_ := (band hc_).1)
        ((have hp_ := hc_; (try simp only [Bool.not_eq_true', Bool.not_eq_false', Bool.or_eq_true, Bool.and_eq_true, Bool.or_eq_false_iff, Bool.and_eq_false_iff, decide_eq_true_eq, decide_eq_false_iff_not, Decidable.not_not, Int.not_lt, Int.not_le, Bool.not_true, Bool.not_false, Bool.true_and, Bool.and_true, Bool.false_or, Bool.or_false, Bool.true_or, Bool.false_and, bne_eq_false_iff_eq, bne_iff_ne, beq_iff_eq, beq_eq_false_iff_ne, decide_eq_decide] at hp_)))
        refine q5
        (apply dspec_t; exact rfl; exact rfl)
        (refine im_any fun hc_ => ?_; try have hc1_ := (band hc_).1)
        refine q8
        (apply dspec_t; exact rfl; exact rfl)
        (refine im_any fun hc_ => ?_; try have hc1_ := (band hc_).1)
        refine q6
        (apply dspec_t; exact rfl; exact rfl)
        (refine im_any fun hc_ => ?_; try have hc1_ := (band hc_).1)
        refine q7; refine q9 ?_
        (refine do_nil ?_ ?_; (first | ((try dsimp only [wkeys]); decide +kernel) | exact rfl))
        refine then_n ?_
        (apply awp_cond; exact rfl)
        refine im_at ?_
        iterate 2 (refine im_dt (fun _ => ?_); (try (exfalso; omega)))
        (refine im_af (fun hc_ => ?_); (try simp only [Bool.not_eq_true', Bool.not_eq_false', Bool.or_eq_true, Bool.and_eq_true, Bool.or_eq_false_iff, Bool.and_eq_false_iff, decide_eq_true_eq, decide_eq_false_iff_not, Decidable.not_not, Int.not_lt, Int.not_le, Bool.not_true, Bool.not_false, Bool.true_and, Bool.and_true, Bool.false_or, Bool.or_false, Bool.true_or, Bool.false_and, bne_eq_false_iff_eq, bne_iff_ne, beq_iff_eq, beq_eq_false_iff_ne, decide_eq_decide] at hc_))
        refine awp_skip ?_; refine blk_n ?_; refine then_n ?_
        (refine ao_region ?_ (fun _ => ?_); exact rfl)
        refine q11 ?_; refine q36 ?_; refine q12 ?_; refine ao_nil ?_; refine then_n ?_
        rotate_left
        (refine im_df (fun _ => ?_); (try (exfalso; omega)))
        refine round' (b + 1) ⟨by omega, by omega⟩ (by omega) ?_ (by repeat' (first | exact le_nil _ | exact sle_nil _ | refine le_cons rfl ?_ | refine sle_cons rfl ?_))
        rw [poAt_no hpo]; exact (by repeat' (first | exact le_nil _ | exact sle_nil _ | refine le_cons rfl ?_ | refine sle_cons rfl ?_))
    · have hbe : b = x.evs.length := by omega
      subst hbe
      iterate 2 refine awp_seq ?_
      (refine ao_region ?_ (fun _ => ?_); exact rfl)
      refine q11 ?_; refine q32 ?_; refine q23 ?_; refine q13 ?_; refine q37 ?_; refine ao_nil ?_; refine then_n ?_
      (apply awp_cond; exact rfl)
      (refine im_dt (fun _ => ?_); (try (exfalso; omega)))
      (refine im_df (fun _ => ?_); (try (exfalso; omega)))
      refine awp_exit ?_
      iterate 2 refine then_x ?_
      refine blk_x ?_; refine blk_n ?_; refine then_n ?_
      (refine ao_region ?_ (fun _ => ?_); exact rfl)
      refine q11 ?_; refine q36 ?_; refine q12 ?_; refine ao_nil ?_; refine then_n ?_
      rotate_left
      refine round' (a + 1) (show a + 1 ≤ _ by omega) (by omega) ?_ (by repeat' (first | exact le_nil _ | exact sle_nil _ | refine le_cons rfl ?_ | refine sle_cons rfl ?_))
      rw [← poAt_end]; exact (by repeat' (first | exact le_nil _ | exact sle_nil _ | refine le_cons rfl ?_ | refine sle_cons rfl ?_))
  have hae : a = x.evs.length := by omega
  subst hae
  iterate 2 refine awp_seq ?_
  (refine ao_region ?_ (fun _ => ?_); exact rfl)
  refine q11 ?_; refine q32 ?_; refine q23 ?_; refine q13 ?_; refine q37 ?_; refine ao_nil ?_; refine then_n ?_
  (apply awp_cond; exact rfl)
  (refine im_dt (fun _ => ?_); (try (exfalso; omega)))
  (refine im_df (fun _ => ?_); (try (exfalso; omega)))
  refine awp_exit ?_
  iterate 2 refine then_x ?_
  refine blk_x ?_; refine then_n ?_; refine awp_seq ?_
  (refine ao_region ?_ (fun _ => ?_); exact rfl)
  refine q11 ?_; refine q13 ?_; refine q11 ?_; refine q46 ?_; refine q11 ?_
  (apply spec_t; exact rfl; exact rfl)
  (refine im_any fun hc_ => ?_; try have hc1_ := (band hc_).1)
  ((have hp_ := hc_; (try simp only [Bool.not_eq_true', Bool.not_eq_false', Bool.or_eq_true, Bool.and_eq_true, Bool.or_eq_false_iff, Bool.and_eq_false_iff, decide_eq_true_eq, decide_eq_false_iff_not, Decidable.not_not, Int.not_lt, Int.not_le, Bool.not_true, Bool.not_false, Bool.true_and, Bool.and_true, Bool.false_or, Bool.or_false, Bool.true_or, Bool.false_and, bne_eq_false_iff_eq, bne_iff_ne, beq_iff_eq, beq_eq_false_iff_ne, decide_eq_decide] at hp_)))
  ((apply M_call; (first | (refine EvM.mb _ rfl ?_; first | assumption | exact rfl) | exact EvM.plain rfl rfl); exact .fn _ _ _; (repeat (first | exact EvsM.nil | (apply EvsM.cons; first | (refine EvM.mb _ rfl ?_; first | assumption | exact rfl) | exact EvM.plain rfl rfl))); exact hkn))
  refine q4 ?_; refine q12 ?_; refine ao_nil ?_; refine then_n ?_; refine awp_ret ?_
  rotate_left
  exact done_b rfl (by simp [zN])
end Go.Proofs.YtnghoibkjphfmaaGreat
