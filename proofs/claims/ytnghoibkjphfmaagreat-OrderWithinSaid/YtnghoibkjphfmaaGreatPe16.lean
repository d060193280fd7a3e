/- The laws' own known answer of layer 7; the law OrderPpo, walked in plain data. -/
import Derived.Test.YtnghoibkjphfmaaGreatPe3
import Derived.Test.YtnghoibkjphfmaaGreatPe14
import Derived.Test.YtnghoibkjphfmaaGreatPe15
set_option maxRecDepth 100000
set_option linter.unusedVariables false
set_option linter.unusedSimpArgs false
namespace Go.Proofs.YtnghoibkjphfmaaGreat
open Go.RowKit
def ev7 (hart kind val : Int) : Ev := ⟨hart, kind, 0, val, 0, false, false, 0, 0, false, ⟨none, 0, 0⟩, ⟨none, 0, 0⟩, ⟨none, 0, 0⟩, [], [], []⟩
def kx7 : Ex := ⟨default, default, default, [ev7 (-1) 5 0, ev7 0 1 0, ev7 0 2 1], [-1, 0, -1], [(default, [0, 2])]⟩
theorem sortI_id {l : List Int} (h : l.Pairwise fun a b => decide (a ≤ b) = true) : sortI l = l := by
  unfold sortI
  exact List.mergeSort_of_pairwise h
theorem kx7_ok : kx7.fit := by
  refine ⟨⟨by decide, fun e he => ?_, by decide, by decide, by decide⟩, by decide⟩
  simp only [kx7, List.mem_cons, List.not_mem_nil, or_false] at he
  rcases he with rfl | rfl | rfl <;> (unfold Ev.ok Ev.wf ev7; decide)
theorem kx7_check : checkI kx7 = 0 := by
  have h1 : addrsTo kx7.evs = [0] := by decide
  have h2 : evsTo kx7.evs [0] kx7.evs.length = true := by decide
  have h3 : fromB kx7.evs kx7.from_ = true := by decide
  have h4 : orderB kx7.evs [0] kx7.order = true := by
    unfold orderB rowsTo
    rw [show List.range kx7.order.length = [0] from rfl]
    simp only [List.all_cons, List.all_nil, Bool.and_true]
    have : sortI [0, 2] = [0, 2] := sortI_id (by decide)
    unfold rowOk
    rw [show (kx7.order.getD 0 default).2 = [0, 2] from rfl, this]
    decide
  unfold checkI
  rw [h1, h2, h3, h4]
  rfl
theorem kx7_ppo : ppoT kx7 = ([(1, 2)], 0) := by
  unfold ppoT
  rw [kx7_check, if_neg (by simp), show ppoL kx7 = [(1, 2)] by decide +kernel]
theorem kx7_rule : ruleT kx7 1 1 2 = (true, 0) := by
  unfold ruleT
  rw [kx7_check, if_neg (by simp), if_pos (by decide), show ruleB kx7 1 (1 : Int).toNat (2 : Int).toNat = true by decide +kernel]
set_option maxHeartbeats 4000000 in
theorem known7_p : Pure E.P 12 [] (.bool true) := by
  have hP := Ppo_p kx7 kx7_ok
  have hR := Rule_p kx7 kx7_ok 1 1 2
  rw [kx7_ppo] at hP
  rw [kx7_rule] at hR
  have n6 : NilS 6 := ⟨trivial⟩
  have n7 : NilS 7 := ⟨trivial⟩
  have n8 : NilS 8 := ⟨trivial⟩
  have f9 : Frozen 9 := ⟨trivial⟩
  have f10 : Frozen 10 := ⟨trivial⟩
  have f11 : Frozen 11 := ⟨trivial⟩
  have f12 : Frozen 12 := ⟨trivial⟩
  refine fn_of_awp Tryz.func12 (by decide) rfl Tryz.ntmps12 (Nat.le_of_ble_eq_true rfl) rfl ?_
  refine awp_seq ?_
  (refine ao_region ?_ (fun _ => ?_); exact rfl)
  refine q12 ?_; refine ao_nil ?_; refine then_n ?_; refine awp_seq ?_
  (refine ao_region ?_ (fun _ => ?_); exact rfl)
  iterate 3 (apply S_buildN; assumption; exact rfl; exact rfl; exact rfl; exact rfl; exact rfl; exact rfl)
  iterate 4 (apply S_buildSliceF; assumption; exact rfl; exact rfl; exact rfl; decide; decide; decide; exact rfl; exact rfl; (repeat (first | exact FzR.nil | exact FzR.ints _ | exact FzR.d _ | exact hfz _ | exact FzC.map _ | exact FzC.nil | apply FzR.take | apply FzR.drop | apply FzR.app | apply FzR.cons | apply FzC.cons | assumption)); (first | rfl | (first | omega | (simp only [List.length_append, List.length_map, List.length_take, List.length_drop, List.length_cons, List.length_nil, List.length_replicate, chop_length] <;> omega))))
  refine q54 ?_
  (apply S_alloc; exact rfl)
  refine q15 ?_; refine ao_nil ?_; refine then_n ?_; refine awp_seq ?_
  (refine ao_region ?_ (fun _ => ?_); exact rfl)
  refine q14 ?_
  ((first
    | (apply S_call; exact rfl; exact .fn _ _ _; exact rfl; (first | exact hP | exact hR))
    | (apply D_call; exact rfl; exact .fn _ _ _; exact rfl; (first | exact hP | exact hR))))
  refine q11 ?_
  iterate 2 (apply S_extract; exact rfl; exact rfl)
  iterate 2 refine q12 ?_
  refine ao_nil ?_; refine then_n ?_; refine awp_seq ?_
  (refine ao_region ?_ (fun _ => ?_); exact rfl)
  refine q14 ?_
  ((first
    | (apply S_call; exact rfl; exact .fn _ _ _; exact rfl; (first | exact hP | exact hR))
    | (apply D_call; exact rfl; exact .fn _ _ _; exact rfl; (first | exact hP | exact hR))))
  refine q11 ?_
  iterate 2 (apply S_extract; exact rfl; exact rfl)
  iterate 2 refine q12 ?_
  refine ao_nil ?_; refine then_n ?_; refine awp_seq ?_
  (refine ao_region ?_ (fun _ => ?_); exact rfl)
  refine q11 ?_; refine q46 ?_; refine q11 ?_
  (apply spec_t; exact rfl; exact rfl)
  (refine im_any fun hc_ => ?_; try have hc1_ := (band hc_).1)
  refine q1
  (apply spec_t; exact rfl; exact rfl)
  (refine im_any fun hc_ => ?_; try have hc1_ := (band hc_).1)
  refine q18
  (apply spec_t; exact rfl; exact rfl)
  (refine im_any fun hc_ => ?_; try have hc1_ := (band hc_).1)
  refine q7; refine q4 ?_; refine q11 ?_
  (apply spec_t; exact rfl; exact rfl)
  (refine im_any fun hc_ => ?_; try have hc1_ := (band hc_).1)
  refine q1
  (apply spec_t; exact rfl; exact rfl)
  (refine im_any fun hc_ => ?_; try have hc1_ := (band hc_).1)
  ((have hp_ := hc_; (try simp only [Bool.not_eq_true', Bool.not_eq_false', Bool.or_eq_true, Bool.and_eq_true, Bool.or_eq_false_iff, Bool.and_eq_false_iff, decide_eq_true_eq, decide_eq_false_iff_not, Decidable.not_not, Int.not_lt, Int.not_le, Bool.not_true, Bool.not_false, Bool.true_and, Bool.and_true, Bool.false_or, Bool.or_false, Bool.true_or, Bool.false_and, bne_eq_false_iff_eq, bne_iff_ne, beq_iff_eq, beq_eq_false_iff_ne, decide_eq_decide] at hp_)))
  ((first | (apply M_build; exact rfl; exact rfl; exact rfl; (repeat (first | exact EvPM.nil | (apply EvPM.cons; (first | (refine EvM.mb _ rfl ?_; first | assumption | exact rfl) | exact EvM.plain rfl rfl)))); exact rfl) | ((apply M_eqlP (1, 2) (1, 2)); (first | (refine EvM.mb _ rfl ?_; first | assumption | exact rfl) | exact EvM.plain rfl rfl); (first | (refine EvM.mb _ rfl ?_; first | assumption | exact rfl) | exact EvM.plain rfl rfl)) | (apply M_indexAddr_sl; exact rfl; exact rfl; exact rfl; exact rfl; (first | (refine EvM.mb _ rfl ?_; first | assumption | exact rfl) | exact EvM.plain rfl rfl); (first | (refine EvM.mb _ rfl ?_; first | assumption | exact rfl) | exact EvM.plain rfl rfl); exact (by decide); exact rfl)))
  (apply spec_t; exact rfl; exact rfl)
  (refine im_any fun hc_ => ?_; try have hc1_ := (band hc_).1)
  refine q47
  (apply spec_t; exact rfl; exact rfl)
  (refine im_any fun hc_ => ?_; try have hc1_ := (band hc_).1)
  ((have hp_ := hc_; (try simp only [Bool.not_eq_true', Bool.not_eq_false', Bool.or_eq_true, Bool.and_eq_true, Bool.or_eq_false_iff, Bool.and_eq_false_iff, decide_eq_true_eq, decide_eq_false_iff_not, Decidable.not_not, Int.not_lt, Int.not_le, Bool.not_true, Bool.not_false, Bool.true_and, Bool.and_true, Bool.false_or, Bool.or_false, Bool.true_or, Bool.false_and, bne_eq_false_iff_eq, bne_iff_ne, beq_iff_eq, beq_eq_false_iff_ne, decide_eq_decide] at hp_)))
  ((first | (apply M_build; exact rfl; exact rfl; exact rfl; (repeat (first | exact EvPM.nil | (apply EvPM.cons; (first | (refine EvM.mb _ rfl ?_; first | assumption | exact rfl) | exact EvM.plain rfl rfl)))); exact rfl) | ((apply M_eqlP (1, 2) (1, 2)); (first | (refine EvM.mb _ rfl ?_; first | assumption | exact rfl) | exact EvM.plain rfl rfl); (first | (refine EvM.mb _ rfl ?_; first | assumption | exact rfl) | exact EvM.plain rfl rfl)) | (apply M_indexAddr_sl; exact rfl; exact rfl; exact rfl; exact rfl; (first | (refine EvM.mb _ rfl ?_; first | assumption | exact rfl) | exact EvM.plain rfl rfl); (first | (refine EvM.mb _ rfl ?_; first | assumption | exact rfl) | exact EvM.plain rfl rfl); exact (by decide); exact rfl)))
  (apply spec_t; exact rfl; exact rfl)
  (refine im_any fun hc_ => ?_; try have hc1_ := (band hc_).1)
  ((have hp_ := hc_; (try simp only [Bool.not_eq_true', Bool.not_eq_false', Bool.or_eq_true, Bool.and_eq_true, Bool.or_eq_false_iff, Bool.and_eq_false_iff, decide_eq_true_eq, decide_eq_false_iff_not, Decidable.not_not, Int.not_lt, Int.not_le, Bool.not_true, Bool.not_false, Bool.true_and, Bool.and_true, Bool.false_or, Bool.or_false, Bool.true_or, Bool.false_and, bne_eq_false_iff_eq, bne_iff_ne, beq_iff_eq, beq_eq_false_iff_ne, decide_eq_decide] at hp_)))
  ((first | (apply M_build; exact rfl; exact rfl; exact rfl; (repeat (first | exact EvPM.nil | (apply EvPM.cons; (first | (refine EvM.mb _ rfl ?_; first | assumption | exact rfl) | exact EvM.plain rfl rfl)))); exact rfl) | ((apply M_eqlP (1, 2) (1, 2)); (first | (refine EvM.mb _ rfl ?_; first | assumption | exact rfl) | exact EvM.plain rfl rfl); (first | (refine EvM.mb _ rfl ?_; first | assumption | exact rfl) | exact EvM.plain rfl rfl)) | (apply M_indexAddr_sl; exact rfl; exact rfl; exact rfl; exact rfl; (first | (refine EvM.mb _ rfl ?_; first | assumption | exact rfl) | exact EvM.plain rfl rfl); (first | (refine EvM.mb _ rfl ?_; first | assumption | exact rfl) | exact EvM.plain rfl rfl); exact (by decide); exact rfl)))
  refine q4 ?_; refine q11 ?_
  (apply spec_t; exact rfl; exact rfl)
  (refine im_any fun hc_ => ?_; try have hc1_ := (band hc_).1)
  refine q1; refine q4 ?_; refine q11 ?_
  (apply spec_t; exact rfl; exact rfl)
  (refine im_any fun hc_ => ?_; try have hc1_ := (band hc_).1)
  refine q1
  (apply spec_t; exact rfl; exact rfl)
  (refine im_any fun hc_ => ?_; try have hc1_ := (band hc_).1)
  refine q7; refine q4 ?_; refine q12 ?_; refine ao_nil ?_; refine then_n ?_; refine awp_ret ?_
  rotate_left
  exact done_b rfl rfl
theorem fit_of {x : Ex} (hx : x.ok) (hw : wideB x = false) : x.fit ∧ x.evs.length ≤ 70 := ⟨⟨hx, fun r hr => Nat.le_trans (wide_row hw r hr) (by decide)⟩, by
  unfold wideB at hw
  simp only [Bool.or_eq_false_iff, decide_eq_false_iff_not] at hw
  omega⟩
end Go.Proofs.YtnghoibkjphfmaaGreat
