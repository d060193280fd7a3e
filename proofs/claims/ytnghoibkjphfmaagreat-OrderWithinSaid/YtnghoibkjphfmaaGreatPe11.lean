/- The program's rules, each walked in plain data. -/
import Derived.Test.YtnghoibkjphfmaaGreatPe3
import Derived.Test.YtnghoibkjphfmaaGreatPe10
set_option maxRecDepth 100000
set_option pp.deepTerms true
set_option pp.maxSteps 1000000
set_option linter.unusedVariables false
set_option linter.unusedSimpArgs false
namespace Go.Proofs.YtnghoibkjphfmaaGreat
open Go.RowKit
/-- what the rules have captured -/
def evF (x : Ex) : TV := .fn 54 [] [.pt (exRow x) 0]
def bev (x : Ex) : TV := .pt [evF x] 0
def oneF (x : Ex) : TV := .fn 55 [] [bev x]
def bone (x : Ex) : TV := .pt [oneF x] 0
def bint (a : Nat) : TV := .pt [.c (.int .i64 a)] 0
/-- what a walk of the rules asks of an execution -/
structure Ex.rok (x : Ex) : Prop where
  len : x.evs.length ≤ 65536
  from_ : x.from_.length = x.evs.length
  small : ∀ i, (x.evs.getD i default).addrs.length ≤ 1152921504606846976 ∧ (x.evs.getD i default).datas.length ≤ 1152921504606846976 ∧ (x.evs.getD i default).ctrls.length ≤ 1152921504606846976
  rsv : ∀ i, (x.evs.getD i default).rsv = true → (x.evs.getD i default).kind = 1 ∨ (x.evs.getD i default).kind = 2
  sets : ∀ i, 0 ≤ (x.evs.getD i default).pred ∧ (x.evs.getD i default).pred ≤ 3 ∧ 0 ≤ (x.evs.getD i default).succ ∧ (x.evs.getD i default).succ ≤ 3
section
variable (x : Ex) (hx : x.rok)
include hx
theorem ru1_p (n : Nat) (hn : n < x.evs.length) : Pure E.P 54 [.int .i64 n, .d (.pt (exRow x) 0)] (evOV (x.evs.getD n default)) := by
  have hl := hx.len
  refine FnW.toR ?_
  refine fn_of_awpN (vs := [.cell 3 41]) Tryz.func54 (by decide) rfl Tryz.ntmps54 (Nat.le_of_ble_eq_true rfl) rfl ?_
  refine awp_seq ?_
  (refine ao_region ?_ (fun _ => ?_); exact rfl)
  (apply S_alloc; exact rfl)
  refine ao_nil ?_; refine then_n ?_; refine awp_seq ?_
  (refine ao_region ?_ (fun _ => ?_); exact rfl)
  iterate 2 refine q32 ?_
  refine q23 ?_; refine q11 ?_; refine q17 ?_; refine q33 ?_; refine q15 ?_; refine ao_nil ?_; refine then_n ?_; refine awp_ret ?_
  rotate_left
  exact cellN rfl rfl rfl rfl rfl rfl
theorem ru2_p (a b : Nat) (ha : a < x.evs.length) (hb : b < x.evs.length) : Pure E.P 55 [.int .i64 a, .int .i64 b, .d (bev x)] (.bool (oneB (x.evs.getD a default) (x.evs.getD b default))) := by
  refine fn_of_awp Tryz.func55 (by decide) rfl Tryz.ntmps55 (Nat.le_of_ble_eq_true rfl) rfl ?_
  refine awp_seq ?_
  (refine ao_region ?_ (fun _ => ?_); exact rfl)
  refine q12 ?_; refine ao_nil ?_; refine then_n ?_; refine awp_seq ?_
  (refine do_region (E := E) ?_ (fun _ => ?_); exact rfl)
  refine q50 ?_; refine q38 ?_
  ((first | (apply S_call; exact rfl; exact .d _ _ _; exact rfl; exact ru1_p x hx _ (by omega)) | (apply D_call; exact rfl; exact .d _ _ _; exact rfl; exact ru1_p x hx _ (by omega))))
  (apply D_field1; exact rfl; exact rfl; exact rfl; exact rfl; exact rfl; exact rfl; exact rfl)
  refine q50 ?_; refine q38 ?_
  ((first | (apply S_call; exact rfl; exact .d _ _ _; exact rfl; exact ru1_p x hx _ (by omega)) | (apply D_call; exact rfl; exact .d _ _ _; exact rfl; exact ru1_p x hx _ (by omega))))
  (apply D_field1; exact rfl; exact rfl; exact rfl; exact rfl; exact rfl; exact rfl; exact rfl)
  (apply D_eql; exact rfl; exact rfl)
  (apply D_assign; exact rfl)
  (refine do_nil ?_ ?_; (first | ((try dsimp only [wkeys]); decide +kernel) | exact rfl))
  refine then_n ?_; refine awp_ret ?_
  rotate_left
  exact done_b rfl rfl
theorem ru3_p (a b : Nat) (ha : a < x.evs.length) (hb : b < x.evs.length) : Pure E.P 56 [.int .i64 a, .int .i64 b, .d (bev x), .d (bone x)] (.bool ((x.evs.getD b default).stB && oneB (x.evs.getD a default) (x.evs.getD b default))) := by
  refine fn_of_awp Tryz.func56 (by decide) rfl Tryz.ntmps56 (Nat.le_of_ble_eq_true rfl) rfl ?_
  refine awp_seq ?_
  (refine ao_region ?_ (fun _ => ?_); exact rfl)
  refine q12 ?_; refine ao_nil ?_; refine then_n ?_; refine awp_seq ?_
  (refine ao_region ?_ (fun _ => ?_); exact rfl)
  refine q23 ?_; refine q11 ?_
  iterate 2 (((first | (apply S_call; exact rfl; (first | exact .d _ _ _ | exact .fn _ _ _); exact rfl; (first | exact ru1_p x hx _ (by omega) | exact ru2_p x hx _ _ (by omega) (by omega) | exact est_p _ | exact eld_p _ | exact strong_p _ | fail)) | (apply D_call; exact rfl; (first | exact .d _ _ _ | exact .fn _ _ _); exact rfl; (first | exact ru1_p x hx _ (by omega) | exact ru2_p x hx _ _ (by omega) (by omega) | exact est_p _ | exact eld_p _ | exact strong_p _ | fail)))))
  refine q11 ?_
  (apply spec_t; exact rfl; exact rfl)
  (refine im_any fun hc_ => ?_; try have hc1_ := (band hc_).1)
  refine q6
  (apply spec_t; exact rfl; exact rfl)
  (refine im_any fun hc_ => ?_; try have hc1_ := (band hc_).1)
  refine q1
  (apply spec_t; exact rfl; exact rfl)
  (refine im_any fun hc_ => ?_; try have hc1_ := (band hc_).1)
  refine q1
  (apply spec_t; exact rfl; exact rfl)
  (refine im_any fun hc_ => ?_; try have hc1_ := (band hc_).1)
  ((have hp_ := hc_; (try simp only [Bool.not_eq_true', Bool.not_eq_false', Bool.or_eq_true, Bool.and_eq_true, Bool.or_eq_false_iff, Bool.and_eq_false_iff, decide_eq_true_eq, decide_eq_false_iff_not, Decidable.not_not, Int.not_lt, Int.not_le, Bool.not_true, Bool.not_false, Bool.true_and, Bool.and_true, Bool.false_or, Bool.or_false, Bool.true_or, Bool.false_and, bne_eq_false_iff_eq, bne_iff_ne, beq_iff_eq, beq_eq_false_iff_ne, decide_eq_decide] at hp_)))
  ((first | (apply M_call; (first | (refine EvM.mb _ rfl ?_; first | assumption | exact rfl) | exact EvM.plain rfl rfl); (first | exact .d _ _ _ | exact .fn _ _ _); (repeat (first | exact EvsM.nil | (apply EvsM.cons; first | (refine EvM.mb _ rfl ?_; first | assumption | exact rfl) | exact EvM.plain rfl rfl))); (first | exact ru1_p x hx _ (by omega) | exact ru2_p x hx _ _ (by omega) (by omega) | exact est_p _ | exact eld_p _ | exact strong_p _ | fail)) | (apply M_makeFunc; (repeat (first | exact EvsM.nil | (apply EvsM.cons; first | (refine EvM.mb _ rfl ?_; first | assumption | exact rfl) | exact EvM.plain rfl rfl))); (repeat (first | exact EvsM.nil | (apply EvsM.cons; first | (refine EvM.mb _ rfl ?_; first | assumption | exact rfl) | exact EvM.plain rfl rfl))))))
  refine q4 ?_; refine q12 ?_; refine ao_nil ?_; refine then_n ?_; refine awp_ret ?_
  rotate_left
  exact done_b rfl rfl
theorem ru41_p (a : Nat) (n : Int) (e : Ev) (ha : a < x.evs.length) : Pure E.P 61 ([.int .i64 n, evOV e] ++ [bev x, bint a].map .d) (.bool (e.stB && decide (e.addr = (x.evs.getD a default).addr))) := by
  refine fn_of_awp Tryz.func61 (by decide) rfl Tryz.ntmps61 (Nat.le_of_ble_eq_true rfl) rfl ?_
  refine awp_seq ?_
  (refine ao_region ?_ (fun _ => ?_); exact rfl)
  refine q40 ?_; refine q12 ?_; refine ao_nil ?_; refine then_n ?_; refine awp_seq ?_
  (refine do_region (E := E) ?_ (fun _ => ?_); exact rfl)
  refine q57 ?_
  (((first | (apply S_call; exact rfl; (first | exact .d _ _ _ | exact .fn _ _ _); exact rfl; (first | exact ru1_p x hx _ (by omega) | exact ru2_p x hx _ _ (by omega) (by omega) | exact est_p _ | exact eld_p _ | exact strong_p _ | fail)) | (apply D_call; exact rfl; (first | exact .d _ _ _ | exact .fn _ _ _); exact rfl; (first | exact ru1_p x hx _ (by omega) | exact ru2_p x hx _ _ (by omega) (by omega) | exact est_p _ | exact eld_p _ | exact strong_p _ | fail)))))
  refine q38 ?_
  (apply dspec_t; exact rfl; exact rfl)
  (refine im_any fun hc_ => ?_; try have hc1_ := (band hc_).1)
  refine q2
  (apply dspec_t; exact rfl; exact rfl)
  (refine im_any fun hc_ => ?_; try have hc1_ := (band hc_).1)
  refine q3
  (apply dspec_t; exact rfl; exact rfl)
  (refine im_any fun hc_ => ?_; try have hc1_ := (band hc_).1)
  refine q6
  (apply dspec_t; exact rfl; exact rfl)
  (refine im_any fun hc_ => ?_; try have hc1_ := (band hc_).1)
  refine q6
  (apply dspec_t; exact rfl; exact rfl)
  (refine im_any fun hc_ => ?_; try have hc1_ := (band hc_).1)
  ((have hp_ := hc_; (try simp only [Bool.not_eq_true', Bool.not_eq_false', Bool.or_eq_true, Bool.and_eq_true, Bool.or_eq_false_iff, Bool.and_eq_false_iff, decide_eq_true_eq, decide_eq_false_iff_not, Decidable.not_not, Int.not_lt, Int.not_le, Bool.not_true, Bool.not_false, Bool.true_and, Bool.and_true, Bool.false_or, Bool.or_false, Bool.true_or, Bool.false_and, bne_eq_false_iff_eq, bne_iff_ne, beq_iff_eq, beq_eq_false_iff_ne, decide_eq_decide] at hp_)))
  ((first | (apply M_call; (first | (refine EvM.mb _ rfl ?_; first | assumption | exact rfl) | exact EvM.plain rfl rfl); (first | exact .d _ _ _ | exact .fn _ _ _); (repeat (first | exact EvsM.nil | (apply EvsM.cons; first | (refine EvM.mb _ rfl ?_; first | assumption | exact rfl) | exact EvM.plain rfl rfl))); (first | exact ru1_p x hx _ (by omega) | exact ru2_p x hx _ _ (by omega) (by omega) | exact est_p _ | exact eld_p _ | exact strong_p _ | fail)) | (apply M_makeFunc; (repeat (first | exact EvsM.nil | (apply EvsM.cons; first | (refine EvM.mb _ rfl ?_; first | assumption | exact rfl) | exact EvM.plain rfl rfl))); (repeat (first | exact EvsM.nil | (apply EvsM.cons; first | (refine EvM.mb _ rfl ?_; first | assumption | exact rfl) | exact EvM.plain rfl rfl))))))
  (apply dspec_t; exact rfl; exact rfl)
  (refine im_any fun hc_ => ?_; try have hc1_ := (band hc_).1)
  refine q53
  (apply dspec_t; exact rfl; exact rfl)
  (refine im_any fun hc_ => ?_; try have hc1_ := (band hc_).1)
  refine q7; refine q9 ?_
  (apply D_assign; exact rfl)
  (refine do_nil ?_ ?_; (first | ((try dsimp only [wkeys]); decide +kernel) | exact rfl))
  refine then_n ?_; refine awp_ret ?_
  rotate_left
  exact done_b rfl rfl
theorem ru4_p (a b : Nat) (ha : a < x.evs.length) (hb : b < x.evs.length) : Pure E.P 58 [.int .i64 a, .int .i64 b, .d (bev x), .d (bone x), .d (.pt (exRow x) 0)] (.bool (rule2 x a b)) := by
  have hl := hx.len
  have hfl := hx.from_
  have f5 : Frozen 5 := ⟨trivial⟩
  have hs := some_p x a b _ _ _ hl hb (by omega) fun n _ _ => ru41_p x hx a n (x.evs.getD n default) ha
  refine fn_of_awp Tryz.func58 (by decide) rfl Tryz.ntmps58 (Nat.le_of_ble_eq_true rfl) rfl ?_
  refine awp_seq ?_
  (refine ao_region ?_ (fun _ => ?_); exact rfl)
  refine q34 ?_; refine q12 ?_; refine ao_nil ?_; refine then_n ?_; refine awp_seq ?_
  (refine do_region (E := E) ?_ (fun _ => ?_); exact rfl)
  iterate 2 refine q50 ?_
  iterate 2 (((first | (apply S_call; exact rfl; (first | exact .d _ _ _ | exact .fn _ _ _); exact rfl; (first | exact ru1_p x hx _ (by omega) | exact ru2_p x hx _ _ (by omega) (by omega) | exact est_p _ | exact eld_p _ | exact strong_p _ | exact hs)) | (apply D_call; exact rfl; (first | exact .d _ _ _ | exact .fn _ _ _); exact rfl; (first | exact ru1_p x hx _ (by omega) | exact ru2_p x hx _ _ (by omega) (by omega) | exact est_p _ | exact eld_p _ | exact strong_p _ | exact hs)))))
  refine q38 ?_
  (apply dspec_t; exact rfl; exact rfl)
  (refine im_any fun hc_ => ?_; try have hc1_ := (band hc_).1)
  refine q6
  (apply dspec_t; exact rfl; exact rfl)
  (refine im_any fun hc_ => ?_; try have hc1_ := (band hc_).1)
  refine q1
  (apply dspec_t; exact rfl; exact rfl)
  (refine im_any fun hc_ => ?_; try have hc1_ := (band hc_).1)
  ((have hp_ := hc_; (try simp only [Bool.not_eq_true', Bool.not_eq_false', Bool.or_eq_true, Bool.and_eq_true, Bool.or_eq_false_iff, Bool.and_eq_false_iff, decide_eq_true_eq, decide_eq_false_iff_not, Decidable.not_not, Int.not_lt, Int.not_le, Bool.not_true, Bool.not_false, Bool.true_and, Bool.and_true, Bool.false_or, Bool.or_false, Bool.true_or, Bool.false_and, bne_eq_false_iff_eq, bne_iff_ne, beq_iff_eq, beq_eq_false_iff_ne, decide_eq_decide] at hp_)))
  ((first | (apply M_call; (first | (refine EvM.mb _ rfl ?_; first | assumption | exact rfl) | exact EvM.plain rfl rfl); (first | exact .d _ _ _ | exact .fn _ _ _); (repeat (first | exact EvsM.nil | (apply EvsM.cons; first | (refine EvM.mb _ rfl ?_; first | assumption | exact rfl) | exact EvM.plain rfl rfl))); (first | exact ru1_p x hx _ (by omega) | exact ru2_p x hx _ _ (by omega) (by omega) | exact est_p _ | exact eld_p _ | exact strong_p _ | exact hs)) | (apply M_makeFunc; (repeat (first | exact EvsM.nil | (apply EvsM.cons; first | (refine EvM.mb _ rfl ?_; first | assumption | exact rfl) | exact EvM.plain rfl rfl))); (repeat (first | exact EvsM.nil | (apply EvsM.cons; first | (refine EvM.mb _ rfl ?_; first | assumption | exact rfl) | exact EvM.plain rfl rfl))))))
  (apply dspec_t; exact rfl; exact rfl)
  (refine im_any fun hc_ => ?_; try have hc1_ := (band hc_).1)
  ((have hp_ := hc_; (try simp only [Bool.not_eq_true', Bool.not_eq_false', Bool.or_eq_true, Bool.and_eq_true, Bool.or_eq_false_iff, Bool.and_eq_false_iff, decide_eq_true_eq, decide_eq_false_iff_not, Decidable.not_not, Int.not_lt, Int.not_le, Bool.not_true, Bool.not_false, Bool.true_and, Bool.and_true, Bool.false_or, Bool.or_false, Bool.true_or, Bool.false_and, bne_eq_false_iff_eq, bne_iff_ne, beq_iff_eq, beq_eq_false_iff_ne, decide_eq_decide] at hp_)))
  ((first | (apply M_call; (first | (refine EvM.mb _ rfl ?_; first | assumption | exact rfl) | exact EvM.plain rfl rfl); (first | exact .d _ _ _ | exact .fn _ _ _); (repeat (first | exact EvsM.nil | (apply EvsM.cons; first | (refine EvM.mb _ rfl ?_; first | assumption | exact rfl) | exact EvM.plain rfl rfl))); (first | exact ru1_p x hx _ (by omega) | exact ru2_p x hx _ _ (by omega) (by omega) | exact est_p _ | exact eld_p _ | exact strong_p _ | exact hs)) | (apply M_makeFunc; (repeat (first | exact EvsM.nil | (apply EvsM.cons; first | (refine EvM.mb _ rfl ?_; first | assumption | exact rfl) | exact EvM.plain rfl rfl))); (repeat (first | exact EvsM.nil | (apply EvsM.cons; first | (refine EvM.mb _ rfl ?_; first | assumption | exact rfl) | exact EvM.plain rfl rfl))))))
  refine q9 ?_; refine q38 ?_
  (apply dspec_t; exact rfl; exact rfl)
  (refine im_any fun hc_ => ?_; try have hc1_ := (band hc_).1)
  refine q6
  (apply dspec_t; exact rfl; exact rfl)
  (refine im_any fun hc_ => ?_; try have hc1_ := (band hc_).1)
  refine q6
  (apply dspec_t; exact rfl; exact rfl)
  (refine im_any fun hc_ => ?_; try have hc1_ := (band hc_).1)
  refine q1
  (apply dspec_t; exact rfl; exact rfl)
  (refine im_any fun hc_ => ?_; try have hc1_ := (band hc_).1)
  ((have hp_ := hc_; (try simp only [Bool.not_eq_true', Bool.not_eq_false', Bool.or_eq_true, Bool.and_eq_true, Bool.or_eq_false_iff, Bool.and_eq_false_iff, decide_eq_true_eq, decide_eq_false_iff_not, Decidable.not_not, Int.not_lt, Int.not_le, Bool.not_true, Bool.not_false, Bool.true_and, Bool.and_true, Bool.false_or, Bool.or_false, Bool.true_or, Bool.false_and, bne_eq_false_iff_eq, bne_iff_ne, beq_iff_eq, beq_eq_false_iff_ne, decide_eq_decide] at hp_)))
  ((first | (apply M_call; (first | (refine EvM.mb _ rfl ?_; first | assumption | exact rfl) | exact EvM.plain rfl rfl); (first | exact .d _ _ _ | exact .fn _ _ _); (repeat (first | exact EvsM.nil | (apply EvsM.cons; first | (refine EvM.mb _ rfl ?_; first | assumption | exact rfl) | exact EvM.plain rfl rfl))); (first | exact ru1_p x hx _ (by omega) | exact ru2_p x hx _ _ (by omega) (by omega) | exact est_p _ | exact eld_p _ | exact strong_p _ | exact hs)) | (apply M_makeFunc; (repeat (first | exact EvsM.nil | (apply EvsM.cons; first | (refine EvM.mb _ rfl ?_; first | assumption | exact rfl) | exact EvM.plain rfl rfl))); (repeat (first | exact EvsM.nil | (apply EvsM.cons; first | (refine EvM.mb _ rfl ?_; first | assumption | exact rfl) | exact EvM.plain rfl rfl))))))
  refine q9 ?_; refine q38 ?_
  (apply dspec_t; exact rfl; exact rfl)
  (refine im_any fun hc_ => ?_; try have hc1_ := (band hc_).1)
  refine q8
  (apply dspec_t; exact rfl; exact rfl)
  (refine im_any fun hc_ => ?_; try have hc1_ := (band hc_).1)
  refine q8
  (apply dspec_t; exact rfl; exact rfl)
  (refine im_any fun hc_ => ?_; try have hc1_ := (band hc_).1)
  refine q6
  (apply dspec_t; exact rfl; exact rfl)
  (refine im_any fun hc_ => ?_; try have hc1_ := (band hc_).1)
  refine q6
  (apply dspec_t; exact rfl; exact rfl)
  (refine im_any fun hc_ => ?_; try have hc1_ := (band hc_).1)
  ((have hp_ := hc_; (try simp only [Bool.not_eq_true', Bool.not_eq_false', Bool.or_eq_true, Bool.and_eq_true, Bool.or_eq_false_iff, Bool.and_eq_false_iff, decide_eq_true_eq, decide_eq_false_iff_not, Decidable.not_not, Int.not_lt, Int.not_le, Bool.not_true, Bool.not_false, Bool.true_and, Bool.and_true, Bool.false_or, Bool.or_false, Bool.true_or, Bool.false_and, bne_eq_false_iff_eq, bne_iff_ne, beq_iff_eq, beq_eq_false_iff_ne, decide_eq_decide] at hp_)))
  refine q5
  (apply dspec_t; exact rfl; exact rfl)
  (refine im_any fun hc_ => ?_; try have hc1_ := (band hc_).1)
  refine q6
  (apply dspec_t; exact rfl; exact rfl)
  (refine im_any fun hc_ => ?_; try have hc1_ := (band hc_).1)
  refine q8
  (apply dspec_t; exact rfl; exact rfl)
  (refine im_any fun hc_ => ?_; try have hc1_ := (band hc_).1)
  refine q8
  (apply dspec_t; exact rfl; exact rfl)
  (refine im_any fun hc_ => ?_; try have hc1_ := (band hc_).1)
  refine q6
  (apply dspec_t; exact rfl; exact rfl)
  (refine im_any fun hc_ => ?_; try have hc1_ := (band hc_).1)
  refine q1
  (apply dspec_t; exact rfl; exact rfl)
  (refine im_any fun hc_ => ?_; try have hc1_ := (band hc_).1)
  ((have hp_ := hc_; (try simp only [Bool.not_eq_true', Bool.not_eq_false', Bool.or_eq_true, Bool.and_eq_true, Bool.or_eq_false_iff, Bool.and_eq_false_iff, decide_eq_true_eq, decide_eq_false_iff_not, Decidable.not_not, Int.not_lt, Int.not_le, Bool.not_true, Bool.not_false, Bool.true_and, Bool.and_true, Bool.false_or, Bool.or_false, Bool.true_or, Bool.false_and, bne_eq_false_iff_eq, bne_iff_ne, beq_iff_eq, beq_eq_false_iff_ne, decide_eq_decide] at hp_)))
  refine q5
  (apply dspec_t; exact rfl; exact rfl)
  (refine im_any fun hc_ => ?_; try have hc1_ := (band hc_).1)
  refine q6
  (apply dspec_t; exact rfl; exact rfl)
  (refine im_any fun hc_ => ?_; try have hc1_ := (band hc_).1)
  refine q26; refine q9 ?_; refine q38 ?_
  (apply dspec_t; exact rfl; exact rfl)
  (refine im_any fun hc_ => ?_; try have hc1_ := (band hc_).1)
  refine q47
  (apply dspec_t; exact rfl; exact rfl)
  (refine im_any fun hc_ => ?_; try have hc1_ := (band hc_).1)
  refine q6
  (apply dspec_t; exact rfl; exact rfl)
  (refine im_any fun hc_ => ?_; try have hc1_ := (band hc_).1)
  refine q1
  (apply dspec_t; exact rfl; exact rfl)
  (refine im_any fun hc_ => ?_; try have hc1_ := (band hc_).1)
  ((have hp_ := hc_; (try simp only [Bool.not_eq_true', Bool.not_eq_false', Bool.or_eq_true, Bool.and_eq_true, Bool.or_eq_false_iff, Bool.and_eq_false_iff, decide_eq_true_eq, decide_eq_false_iff_not, Decidable.not_not, Int.not_lt, Int.not_le, Bool.not_true, Bool.not_false, Bool.true_and, Bool.and_true, Bool.false_or, Bool.or_false, Bool.true_or, Bool.false_and, bne_eq_false_iff_eq, bne_iff_ne, beq_iff_eq, beq_eq_false_iff_ne, decide_eq_decide] at hp_)))
  ((first | (apply M_call; (first | (refine EvM.mb _ rfl ?_; first | assumption | exact rfl) | exact EvM.plain rfl rfl); (first | exact .d _ _ _ | exact .fn _ _ _); (repeat (first | exact EvsM.nil | (apply EvsM.cons; first | (refine EvM.mb _ rfl ?_; first | assumption | exact rfl) | exact EvM.plain rfl rfl))); (first | exact ru1_p x hx _ (by omega) | exact ru2_p x hx _ _ (by omega) (by omega) | exact est_p _ | exact eld_p _ | exact strong_p _ | exact hs)) | (apply M_makeFunc; (repeat (first | exact EvsM.nil | (apply EvsM.cons; first | (refine EvM.mb _ rfl ?_; first | assumption | exact rfl) | exact EvM.plain rfl rfl))); (repeat (first | exact EvsM.nil | (apply EvsM.cons; first | (refine EvM.mb _ rfl ?_; first | assumption | exact rfl) | exact EvM.plain rfl rfl))))))
  (apply dspec_t; exact rfl; exact rfl)
  (refine im_any fun hc_ => ?_; try have hc1_ := (band hc_).1)
  ((have hp_ := hc_; (try simp only [Bool.not_eq_true', Bool.not_eq_false', Bool.or_eq_true, Bool.and_eq_true, Bool.or_eq_false_iff, Bool.and_eq_false_iff, decide_eq_true_eq, decide_eq_false_iff_not, Decidable.not_not, Int.not_lt, Int.not_le, Bool.not_true, Bool.not_false, Bool.true_and, Bool.and_true, Bool.false_or, Bool.or_false, Bool.true_or, Bool.false_and, bne_eq_false_iff_eq, bne_iff_ne, beq_iff_eq, beq_eq_false_iff_ne, decide_eq_decide] at hp_)))
  ((first | (apply M_call; (first | (refine EvM.mb _ rfl ?_; first | assumption | exact rfl) | exact EvM.plain rfl rfl); (first | exact .d _ _ _ | exact .fn _ _ _); (repeat (first | exact EvsM.nil | (apply EvsM.cons; first | (refine EvM.mb _ rfl ?_; first | assumption | exact rfl) | exact EvM.plain rfl rfl))); (first | exact ru1_p x hx _ (by omega) | exact ru2_p x hx _ _ (by omega) (by omega) | exact est_p _ | exact eld_p _ | exact strong_p _ | exact hs)) | (apply M_makeFunc; (repeat (first | exact EvsM.nil | (apply EvsM.cons; first | (refine EvM.mb _ rfl ?_; first | assumption | exact rfl) | exact EvM.plain rfl rfl))); (repeat (first | exact EvsM.nil | (apply EvsM.cons; first | (refine EvM.mb _ rfl ?_; first | assumption | exact rfl) | exact EvM.plain rfl rfl))))))
  (apply dspec_t; exact rfl; exact rfl)
  (refine im_any fun hc_ => ?_; try have hc1_ := (band hc_).1)
  refine q42; refine q9 ?_
  (apply D_assign; exact rfl)
  (refine do_nil ?_ ?_; (first | ((try dsimp only [wkeys]); decide +kernel) | exact rfl))
  refine then_n ?_; refine awp_ret ?_
  rotate_left
  exact done_b rfl rfl
theorem ru5_p (a b : Nat) (ha : a < x.evs.length) (hb : b < x.evs.length) : Pure E.P 62 [.int .i64 a, .int .i64 b, .d (bev x), .d (.pt (exRow x) 0)] (.bool (rule3 x a b)) := by
  have hl := hx.len
  have hfl := hx.from_
  refine fn_of_awp Tryz.func62 (by decide) rfl Tryz.ntmps62 (Nat.le_of_ble_eq_true rfl) rfl ?_
  refine awp_seq ?_
  (refine ao_region ?_ (fun _ => ?_); exact rfl)
  refine q12 ?_; refine ao_nil ?_; refine then_n ?_; refine awp_seq ?_
  (refine ao_region ?_ (fun _ => ?_); exact rfl)
  refine q23 ?_; refine q11 ?_
  (((first | (apply S_call; exact rfl; (first | exact .d _ _ _ | exact .fn _ _ _); exact rfl; (first | exact ru1_p x hx _ (by omega) | exact ru2_p x hx _ _ (by omega) (by omega) | exact est_p _ | exact eld_p _ | exact strong_p _ | fail)) | (apply D_call; exact rfl; (first | exact .d _ _ _ | exact .fn _ _ _); exact rfl; (first | exact ru1_p x hx _ (by omega) | exact ru2_p x hx _ _ (by omega) (by omega) | exact est_p _ | exact eld_p _ | exact strong_p _ | fail)))))
  (apply S_field1; exact rfl; exact rfl; exact rfl; exact rfl; exact rfl; exact rfl; exact rfl)
  refine q46 ?_; refine q11 ?_
  (apply spec_f; exact rfl; exact rfl)
  (refine im_any fun hc_ => ?_; try have hc1_ := (band hc_).1)
  refine q6
  (apply spec_f; exact rfl; exact rfl)
  (refine im_any fun hc_ => ?_; try have hc1_ := (band hc_).1)
  refine q1
  (apply spec_f; exact rfl; exact rfl)
  (refine im_any fun hc_ => ?_; try have hc1_ := (band hc_).1)
  ((have hp_ := hc_; (try simp only [Bool.not_eq_true', Bool.not_eq_false', Bool.or_eq_true, Bool.and_eq_true, Bool.or_eq_false_iff, Bool.and_eq_false_iff, decide_eq_true_eq, decide_eq_false_iff_not, Decidable.not_not, Int.not_lt, Int.not_le, Bool.not_true, Bool.not_false, Bool.true_and, Bool.and_true, Bool.false_or, Bool.or_false, Bool.true_or, Bool.false_and, bne_eq_false_iff_eq, bne_iff_ne, beq_iff_eq, beq_eq_false_iff_ne, decide_eq_decide] at hp_)))
  ((first | (apply M_call; (first | (refine EvM.mb _ rfl ?_; first | assumption | exact rfl) | exact EvM.plain rfl rfl); (first | exact .d _ _ _ | exact .fn _ _ _); (repeat (first | exact EvsM.nil | (apply EvsM.cons; first | (refine EvM.mb _ rfl ?_; first | assumption | exact rfl) | exact EvM.plain rfl rfl))); (first | exact ru1_p x hx _ (by omega) | exact ru2_p x hx _ _ (by omega) (by omega) | exact est_p _ | exact eld_p _ | exact strong_p _ | fail)) | (apply M_makeFunc; (repeat (first | exact EvsM.nil | (apply EvsM.cons; first | (refine EvM.mb _ rfl ?_; first | assumption | exact rfl) | exact EvM.plain rfl rfl))); (repeat (first | exact EvsM.nil | (apply EvsM.cons; first | (refine EvM.mb _ rfl ?_; first | assumption | exact rfl) | exact EvM.plain rfl rfl))))))
  (apply spec_f; exact rfl; exact rfl)
  (refine im_any fun hc_ => ?_; try have hc1_ := (band hc_).1)
  refine q53
  (apply spec_f; exact rfl; exact rfl)
  (refine im_any fun hc_ => ?_; try have hc1_ := (band hc_).1)
  refine q7
  (apply spec_f; exact rfl; exact rfl)
  (refine im_any fun hc_ => ?_; try have hc1_ := (band hc_).1)
  refine q1
  (apply spec_mt; exact rfl; exact rfl)
  (refine im_any fun hc_ => ?_; try have hc1_ := (band hc_).1)
  refine q6
  (apply spec_mt; exact rfl; exact rfl)
  (refine im_any fun hc_ => ?_; try have hc1_ := (band hc_).1)
  refine q1
  (apply spec_mt; exact rfl; exact rfl)
  (refine im_any fun hc_ => ?_; try have hc1_ := (band hc_).1)
  ((have hp_ := hc_; (try simp only [Bool.not_eq_true', Bool.not_eq_false', Bool.or_eq_true, Bool.and_eq_true, Bool.or_eq_false_iff, Bool.and_eq_false_iff, decide_eq_true_eq, decide_eq_false_iff_not, Decidable.not_not, Int.not_lt, Int.not_le, Bool.not_true, Bool.not_false, Bool.true_and, Bool.and_true, Bool.false_or, Bool.or_false, Bool.true_or, Bool.false_and, bne_eq_false_iff_eq, bne_iff_ne, beq_iff_eq, beq_eq_false_iff_ne, decide_eq_decide] at hp_)))
  ((first | (apply M_call; (first | (refine EvM.mb _ rfl ?_; first | assumption | exact rfl) | exact EvM.plain rfl rfl); (first | exact .d _ _ _ | exact .fn _ _ _); (repeat (first | exact EvsM.nil | (apply EvsM.cons; first | (refine EvM.mb _ rfl ?_; first | assumption | exact rfl) | exact EvM.plain rfl rfl))); (first | exact ru1_p x hx _ (by omega) | exact ru2_p x hx _ _ (by omega) (by omega) | exact est_p _ | exact eld_p _ | exact strong_p _ | fail)) | (apply M_makeFunc; (repeat (first | exact EvsM.nil | (apply EvsM.cons; first | (refine EvM.mb _ rfl ?_; first | assumption | exact rfl) | exact EvM.plain rfl rfl))); (repeat (first | exact EvsM.nil | (apply EvsM.cons; first | (refine EvM.mb _ rfl ?_; first | assumption | exact rfl) | exact EvM.plain rfl rfl))))))
  (apply spec_mt; exact rfl; exact rfl)
  (refine im_any fun hc_ => ?_; try have hc1_ := (band hc_).1)
  refine q53
  (apply spec_f; exact rfl; exact rfl)
  (refine im_any fun hc_ => ?_; try have hc1_ := (band hc_).1)
  refine q10; refine q0 ?_; refine q11 ?_
  (apply spec_t; exact rfl; exact rfl)
  (refine im_any fun hc_ => ?_; try have hc1_ := (band hc_).1)
  refine q8
  (apply spec_t; exact rfl; exact rfl)
  (refine im_any fun hc_ => ?_; try have hc1_ := (band hc_).1)
  refine q8
  (apply spec_t; exact rfl; exact rfl)
  (refine im_any fun hc_ => ?_; try have hc1_ := (band hc_).1)
  refine q6
  (apply spec_t; exact rfl; exact rfl)
  (refine im_any fun hc_ => ?_; try have hc1_ := (band hc_).1)
  refine q1
  (apply spec_t; exact rfl; exact rfl)
  (refine im_any fun hc_ => ?_; try have hc1_ := (band hc_).1)
  ((have hp_ := hc_; (try simp only [Bool.not_eq_true', Bool.not_eq_false', Bool.or_eq_true, Bool.and_eq_true, Bool.or_eq_false_iff, Bool.and_eq_false_iff, decide_eq_true_eq, decide_eq_false_iff_not, Decidable.not_not, Int.not_lt, Int.not_le, Bool.not_true, Bool.not_false, Bool.true_and, Bool.and_true, Bool.false_or, Bool.or_false, Bool.true_or, Bool.false_and, bne_eq_false_iff_eq, bne_iff_ne, beq_iff_eq, beq_eq_false_iff_ne, decide_eq_decide] at hp_)))
  refine q5
  (apply spec_t; exact rfl; exact rfl)
  (refine im_any fun hc_ => ?_; try have hc1_ := (band hc_).1)
  refine q6
  (apply spec_t; exact rfl; exact rfl)
  (refine im_any fun hc_ => ?_; try have hc1_ := (band hc_).1)
  refine q1
  (apply spec_t; exact rfl; exact rfl)
  (refine im_any fun hc_ => ?_; try have hc1_ := (band hc_).1)
  refine q7; refine q4 ?_; refine q12 ?_; refine ao_nil ?_; refine then_n ?_; refine awp_ret ?_
  rotate_left
  exact done_b rfl rfl
theorem ru61_p (a b : Nat) (n : Int) (e : Ev) (ha : a < x.evs.length) (hb : b < x.evs.length) (he : 0 ≤ e.pred ∧ e.pred ≤ 3 ∧ 0 ≤ e.succ ∧ e.succ ≤ 3) : Pure E.P 64 ([.int .i64 n, evOV e] ++ [bev x, bint a, bint b].map .d) (.bool (decide (e.kind = 4) && inB e.pred (x.evs.getD a default) && inB e.succ (x.evs.getD b default))) := by
  refine fn_of_awp Tryz.func64 (by decide) rfl Tryz.ntmps64 (Nat.le_of_ble_eq_true rfl) rfl ?_
  refine awp_seq ?_
  (refine ao_region ?_ (fun _ => ?_); exact rfl)
  refine q40 ?_; refine q12 ?_; refine ao_nil ?_; refine then_n ?_; refine awp_seq ?_
  (refine do_region (E := E) ?_ (fun _ => ?_); exact rfl)
  refine q56 ?_
  (apply D_load_lo; exact rfl; exact rfl; exact rfl; exact rfl; (first | exact rfl | exact get_map (by omega) (0 : Int) | exact get_map (by omega) default | exact hrow _ | assumption); exact rfl)
  (apply D_eql; exact rfl; exact rfl)
  refine q38 ?_
  (apply dspec_t; exact rfl; exact rfl)
  (refine im_any fun hc_ => ?_; try have hc1_ := (band hc_).1)
  refine q2
  (apply dspec_t; exact rfl; exact rfl)
  (refine im_any fun hc_ => ?_; try have hc1_ := (band hc_).1)
  refine q3
  (apply dspec_t; exact rfl; exact rfl)
  (refine im_any fun hc_ => ?_; try have hc1_ := (band hc_).1)
  refine q6
  (apply dspec_t; exact rfl; exact rfl)
  (refine im_any fun hc_ => ?_; try have hc1_ := (band hc_).1)
  refine q6
  (apply dspec_t; exact rfl; exact rfl)
  (refine im_any fun hc_ => ?_; try have hc1_ := (band hc_).1)
  ((have hp_ := hc_; (try simp only [Bool.not_eq_true', Bool.not_eq_false', Bool.or_eq_true, Bool.and_eq_true, Bool.or_eq_false_iff, Bool.and_eq_false_iff, decide_eq_true_eq, decide_eq_false_iff_not, Decidable.not_not, Int.not_lt, Int.not_le, Bool.not_true, Bool.not_false, Bool.true_and, Bool.and_true, Bool.false_or, Bool.or_false, Bool.true_or, Bool.false_and, bne_eq_false_iff_eq, bne_iff_ne, beq_iff_eq, beq_eq_false_iff_ne, decide_eq_decide] at hp_)))
  ((first | (apply M_call; (first | (refine EvM.mb _ rfl ?_; first | assumption | exact rfl) | exact EvM.plain rfl rfl); (first | exact .d _ _ _ | exact .fn _ _ _); (repeat (first | exact EvsM.nil | (apply EvsM.cons; first | (refine EvM.mb _ rfl ?_; first | assumption | exact rfl) | exact EvM.plain rfl rfl))); (first | exact ru1_p x hx _ (by omega) | exact ru2_p x hx _ _ (by omega) (by omega) | exact est_p _ | exact eld_p _ | exact strong_p _ | (first | exact in_p _ _ he.1 he.2.1 | exact in_p _ _ he.2.2.1 he.2.2.2))) | (apply M_makeFunc; (repeat (first | exact EvsM.nil | (apply EvsM.cons; first | (refine EvM.mb _ rfl ?_; first | assumption | exact rfl) | exact EvM.plain rfl rfl))); (repeat (first | exact EvsM.nil | (apply EvsM.cons; first | (refine EvM.mb _ rfl ?_; first | assumption | exact rfl) | exact EvM.plain rfl rfl))))))
  (apply dspec_t; exact rfl; exact rfl)
  (refine im_any fun hc_ => ?_; try have hc1_ := (band hc_).1)
  ((have hp_ := hc_; (try simp only [Bool.not_eq_true', Bool.not_eq_false', Bool.or_eq_true, Bool.and_eq_true, Bool.or_eq_false_iff, Bool.and_eq_false_iff, decide_eq_true_eq, decide_eq_false_iff_not, Decidable.not_not, Int.not_lt, Int.not_le, Bool.not_true, Bool.not_false, Bool.true_and, Bool.and_true, Bool.false_or, Bool.or_false, Bool.true_or, Bool.false_and, bne_eq_false_iff_eq, bne_iff_ne, beq_iff_eq, beq_eq_false_iff_ne, decide_eq_decide] at hp_)))
  ((first | (apply M_call; (first | (refine EvM.mb _ rfl ?_; first | assumption | exact rfl) | exact EvM.plain rfl rfl); (first | exact .d _ _ _ | exact .fn _ _ _); (repeat (first | exact EvsM.nil | (apply EvsM.cons; first | (refine EvM.mb _ rfl ?_; first | assumption | exact rfl) | exact EvM.plain rfl rfl))); (first | exact ru1_p x hx _ (by omega) | exact ru2_p x hx _ _ (by omega) (by omega) | exact est_p _ | exact eld_p _ | exact strong_p _ | (first | exact in_p _ _ he.1 he.2.1 | exact in_p _ _ he.2.2.1 he.2.2.2))) | (apply M_makeFunc; (repeat (first | exact EvsM.nil | (apply EvsM.cons; first | (refine EvM.mb _ rfl ?_; first | assumption | exact rfl) | exact EvM.plain rfl rfl))); (repeat (first | exact EvsM.nil | (apply EvsM.cons; first | (refine EvM.mb _ rfl ?_; first | assumption | exact rfl) | exact EvM.plain rfl rfl))))))
  refine q9 ?_; refine q38 ?_
  (apply dspec_t; exact rfl; exact rfl)
  (refine im_any fun hc_ => ?_; try have hc1_ := (band hc_).1)
  refine q2
  (apply dspec_t; exact rfl; exact rfl)
  (refine im_any fun hc_ => ?_; try have hc1_ := (band hc_).1)
  refine q3
  (apply dspec_t; exact rfl; exact rfl)
  (refine im_any fun hc_ => ?_; try have hc1_ := (band hc_).1)
  refine q6
  (apply dspec_t; exact rfl; exact rfl)
  (refine im_any fun hc_ => ?_; try have hc1_ := (band hc_).1)
  refine q6
  (apply dspec_t; exact rfl; exact rfl)
  (refine im_any fun hc_ => ?_; try have hc1_ := (band hc_).1)
  ((have hp_ := hc_; (try simp only [Bool.not_eq_true', Bool.not_eq_false', Bool.or_eq_true, Bool.and_eq_true, Bool.or_eq_false_iff, Bool.and_eq_false_iff, decide_eq_true_eq, decide_eq_false_iff_not, Decidable.not_not, Int.not_lt, Int.not_le, Bool.not_true, Bool.not_false, Bool.true_and, Bool.and_true, Bool.false_or, Bool.or_false, Bool.true_or, Bool.false_and, bne_eq_false_iff_eq, bne_iff_ne, beq_iff_eq, beq_eq_false_iff_ne, decide_eq_decide] at hp_)))
  ((first | (apply M_call; (first | (refine EvM.mb _ rfl ?_; first | assumption | exact rfl) | exact EvM.plain rfl rfl); (first | exact .d _ _ _ | exact .fn _ _ _); (repeat (first | exact EvsM.nil | (apply EvsM.cons; first | (refine EvM.mb _ rfl ?_; first | assumption | exact rfl) | exact EvM.plain rfl rfl))); (first | exact ru1_p x hx _ (by omega) | exact ru2_p x hx _ _ (by omega) (by omega) | exact est_p _ | exact eld_p _ | exact strong_p _ | (first | exact in_p _ _ he.1 he.2.1 | exact in_p _ _ he.2.2.1 he.2.2.2))) | (apply M_makeFunc; (repeat (first | exact EvsM.nil | (apply EvsM.cons; first | (refine EvM.mb _ rfl ?_; first | assumption | exact rfl) | exact EvM.plain rfl rfl))); (repeat (first | exact EvsM.nil | (apply EvsM.cons; first | (refine EvM.mb _ rfl ?_; first | assumption | exact rfl) | exact EvM.plain rfl rfl))))))
  (apply dspec_t; exact rfl; exact rfl)
  (refine im_any fun hc_ => ?_; try have hc1_ := (band hc_).1)
  ((have hp_ := hc_; (try simp only [Bool.not_eq_true', Bool.not_eq_false', Bool.or_eq_true, Bool.and_eq_true, Bool.or_eq_false_iff, Bool.and_eq_false_iff, decide_eq_true_eq, decide_eq_false_iff_not, Decidable.not_not, Int.not_lt, Int.not_le, Bool.not_true, Bool.not_false, Bool.true_and, Bool.and_true, Bool.false_or, Bool.or_false, Bool.true_or, Bool.false_and, bne_eq_false_iff_eq, bne_iff_ne, beq_iff_eq, beq_eq_false_iff_ne, decide_eq_decide] at hp_)))
  ((first | (apply M_call; (first | (refine EvM.mb _ rfl ?_; first | assumption | exact rfl) | exact EvM.plain rfl rfl); (first | exact .d _ _ _ | exact .fn _ _ _); (repeat (first | exact EvsM.nil | (apply EvsM.cons; first | (refine EvM.mb _ rfl ?_; first | assumption | exact rfl) | exact EvM.plain rfl rfl))); (first | exact ru1_p x hx _ (by omega) | exact ru2_p x hx _ _ (by omega) (by omega) | exact est_p _ | exact eld_p _ | exact strong_p _ | (first | exact in_p _ _ he.1 he.2.1 | exact in_p _ _ he.2.2.1 he.2.2.2))) | (apply M_makeFunc; (repeat (first | exact EvsM.nil | (apply EvsM.cons; first | (refine EvM.mb _ rfl ?_; first | assumption | exact rfl) | exact EvM.plain rfl rfl))); (repeat (first | exact EvsM.nil | (apply EvsM.cons; first | (refine EvM.mb _ rfl ?_; first | assumption | exact rfl) | exact EvM.plain rfl rfl))))))
  refine q9 ?_
  (apply D_assign; exact rfl)
  (refine do_nil ?_ ?_; (first | ((try dsimp only [wkeys]); decide +kernel) | exact rfl))
  refine then_n ?_; refine awp_ret ?_
  rotate_left
  exact done_b rfl rfl
theorem ru6_p (a b : Nat) (ha : a < x.evs.length) (hb : b < x.evs.length) : Pure E.P 63 [.int .i64 a, .int .i64 b, .d (.pt (exRow x) 0), .d (bev x)] (.bool (someB a b (hit4 x a b))) := by
  have hl := hx.len
  have hfl := hx.from_
  have f4 : Frozen 4 := ⟨trivial⟩
  have f5 : Frozen 5 := ⟨trivial⟩
  have hs := some_p x a b _ _ _ hl hb (by omega) fun n _ _ => ru61_p x hx a b n (x.evs.getD n default) ha hb (hx.sets n)
  refine fn_of_awp Tryz.func63 (by decide) rfl Tryz.ntmps63 (Nat.le_of_ble_eq_true rfl) rfl ?_
  refine awp_seq ?_
  (refine ao_region ?_ (fun _ => ?_); exact rfl)
  iterate 2 refine q34 ?_
  refine q12 ?_; refine ao_nil ?_; refine then_n ?_; refine awp_seq ?_
  (refine ao_region ?_ (fun _ => ?_); exact rfl)
  refine q33 ?_
  iterate 2 refine q23 ?_
  (apply S_makeFunc; exact rfl; exact rfl)
  (((first | (apply S_call; exact rfl; (first | exact .d _ _ _ | exact .fn _ _ _); exact rfl; (first | exact ru1_p x hx _ (by omega) | exact ru2_p x hx _ _ (by omega) (by omega) | exact est_p _ | exact eld_p _ | exact strong_p _ | exact hs)) | (apply D_call; exact rfl; (first | exact .d _ _ _ | exact .fn _ _ _); exact rfl; (first | exact ru1_p x hx _ (by omega) | exact ru2_p x hx _ _ (by omega) (by omega) | exact est_p _ | exact eld_p _ | exact strong_p _ | exact hs)))))
  refine q12 ?_; refine ao_nil ?_; refine then_n ?_; refine awp_ret ?_
  rotate_left
  exact done_b rfl rfl
theorem ru7_p (a b : Nat) (ha : a < x.evs.length)  : Pure E.P 66 [.int .i64 a, .int .i64 b, .d (bev x)] (.bool ((x.evs.getD a default).aq)) := by
  refine fn_of_awp Tryz.func66 (by decide) rfl Tryz.ntmps66 (Nat.le_of_ble_eq_true rfl) rfl ?_
  refine awp_seq ?_
  (refine ao_region ?_ (fun _ => ?_); exact rfl)
  refine q12 ?_; refine ao_nil ?_; refine then_n ?_; refine awp_seq ?_
  (refine ao_region ?_ (fun _ => ?_); exact rfl)
  refine q23 ?_; refine q11 ?_
  (((first | (apply S_call; exact rfl; (first | exact .d _ _ _ | exact .fn _ _ _); exact rfl; (first | exact ru1_p x hx _ (by omega) | exact ru2_p x hx _ _ (by omega) (by omega) | exact est_p _ | exact eld_p _ | exact strong_p _ | fail)) | (apply D_call; exact rfl; (first | exact .d _ _ _ | exact .fn _ _ _); exact rfl; (first | exact ru1_p x hx _ (by omega) | exact ru2_p x hx _ _ (by omega) (by omega) | exact est_p _ | exact eld_p _ | exact strong_p _ | fail)))))
  (apply S_field1; exact rfl; exact rfl; exact rfl; exact rfl; exact rfl; exact rfl; exact rfl)
  refine q12 ?_; refine ao_nil ?_; refine then_n ?_; refine awp_ret ?_
  rotate_left
  exact done_b rfl rfl
theorem ru8_p (a b : Nat)  (hb : b < x.evs.length) : Pure E.P 67 [.int .i64 a, .int .i64 b, .d (bev x)] (.bool ((x.evs.getD b default).rl)) := by
  refine fn_of_awp Tryz.func67 (by decide) rfl Tryz.ntmps67 (Nat.le_of_ble_eq_true rfl) rfl ?_
  refine awp_seq ?_
  (refine ao_region ?_ (fun _ => ?_); exact rfl)
  refine q12 ?_; refine ao_nil ?_; refine then_n ?_; refine awp_seq ?_
  (refine ao_region ?_ (fun _ => ?_); exact rfl)
  refine q23 ?_; refine q11 ?_
  (((first | (apply S_call; exact rfl; (first | exact .d _ _ _ | exact .fn _ _ _); exact rfl; (first | exact ru1_p x hx _ (by omega) | exact ru2_p x hx _ _ (by omega) (by omega) | exact est_p _ | exact eld_p _ | exact strong_p _ | fail)) | (apply D_call; exact rfl; (first | exact .d _ _ _ | exact .fn _ _ _); exact rfl; (first | exact ru1_p x hx _ (by omega) | exact ru2_p x hx _ _ (by omega) (by omega) | exact est_p _ | exact eld_p _ | exact strong_p _ | fail)))))
  (apply S_field1; exact rfl; exact rfl; exact rfl; exact rfl; exact rfl; exact rfl; exact rfl)
  refine q12 ?_; refine ao_nil ?_; refine then_n ?_; refine awp_ret ?_
  rotate_left
  exact done_b rfl rfl
theorem ru9_p (a b : Nat) (ha : a < x.evs.length) (hb : b < x.evs.length) : Pure E.P 68 [.int .i64 a, .int .i64 b, .d (bev x)] (.bool (strongB (x.evs.getD a default) && strongB (x.evs.getD b default))) := by
  refine fn_of_awp Tryz.func68 (by decide) rfl Tryz.ntmps68 (Nat.le_of_ble_eq_true rfl) rfl ?_
  refine awp_seq ?_
  (refine ao_region ?_ (fun _ => ?_); exact rfl)
  refine q12 ?_; refine ao_nil ?_; refine then_n ?_; refine awp_seq ?_
  (refine ao_region ?_ (fun _ => ?_); exact rfl)
  refine q23 ?_; refine q11 ?_
  iterate 2 (((first | (apply S_call; exact rfl; (first | exact .d _ _ _ | exact .fn _ _ _); exact rfl; (first | exact ru1_p x hx _ (by omega) | exact ru2_p x hx _ _ (by omega) (by omega) | exact est_p _ | exact eld_p _ | exact strong_p _ | fail)) | (apply D_call; exact rfl; (first | exact .d _ _ _ | exact .fn _ _ _); exact rfl; (first | exact ru1_p x hx _ (by omega) | exact ru2_p x hx _ _ (by omega) (by omega) | exact est_p _ | exact eld_p _ | exact strong_p _ | fail)))))
  refine q11 ?_
  (apply spec_t; exact rfl; exact rfl)
  (refine im_any fun hc_ => ?_; try have hc1_ := (band hc_).1)
  refine q6
  (apply spec_t; exact rfl; exact rfl)
  (refine im_any fun hc_ => ?_; try have hc1_ := (band hc_).1)
  refine q1
  (apply spec_t; exact rfl; exact rfl)
  (refine im_any fun hc_ => ?_; try have hc1_ := (band hc_).1)
  ((have hp_ := hc_; (try simp only [Bool.not_eq_true', Bool.not_eq_false', Bool.or_eq_true, Bool.and_eq_true, Bool.or_eq_false_iff, Bool.and_eq_false_iff, decide_eq_true_eq, decide_eq_false_iff_not, Decidable.not_not, Int.not_lt, Int.not_le, Bool.not_true, Bool.not_false, Bool.true_and, Bool.and_true, Bool.false_or, Bool.or_false, Bool.true_or, Bool.false_and, bne_eq_false_iff_eq, bne_iff_ne, beq_iff_eq, beq_eq_false_iff_ne, decide_eq_decide] at hp_)))
  ((first | (apply M_call; (first | (refine EvM.mb _ rfl ?_; first | assumption | exact rfl) | exact EvM.plain rfl rfl); (first | exact .d _ _ _ | exact .fn _ _ _); (repeat (first | exact EvsM.nil | (apply EvsM.cons; first | (refine EvM.mb _ rfl ?_; first | assumption | exact rfl) | exact EvM.plain rfl rfl))); (first | exact ru1_p x hx _ (by omega) | exact ru2_p x hx _ _ (by omega) (by omega) | exact est_p _ | exact eld_p _ | exact strong_p _ | fail)) | (apply M_makeFunc; (repeat (first | exact EvsM.nil | (apply EvsM.cons; first | (refine EvM.mb _ rfl ?_; first | assumption | exact rfl) | exact EvM.plain rfl rfl))); (repeat (first | exact EvsM.nil | (apply EvsM.cons; first | (refine EvM.mb _ rfl ?_; first | assumption | exact rfl) | exact EvM.plain rfl rfl))))))
  (apply spec_t; exact rfl; exact rfl)
  (refine im_any fun hc_ => ?_; try have hc1_ := (band hc_).1)
  ((have hp_ := hc_; (try simp only [Bool.not_eq_true', Bool.not_eq_false', Bool.or_eq_true, Bool.and_eq_true, Bool.or_eq_false_iff, Bool.and_eq_false_iff, decide_eq_true_eq, decide_eq_false_iff_not, Decidable.not_not, Int.not_lt, Int.not_le, Bool.not_true, Bool.not_false, Bool.true_and, Bool.and_true, Bool.false_or, Bool.or_false, Bool.true_or, Bool.false_and, bne_eq_false_iff_eq, bne_iff_ne, beq_iff_eq, beq_eq_false_iff_ne, decide_eq_decide] at hp_)))
  ((first | (apply M_call; (first | (refine EvM.mb _ rfl ?_; first | assumption | exact rfl) | exact EvM.plain rfl rfl); (first | exact .d _ _ _ | exact .fn _ _ _); (repeat (first | exact EvsM.nil | (apply EvsM.cons; first | (refine EvM.mb _ rfl ?_; first | assumption | exact rfl) | exact EvM.plain rfl rfl))); (first | exact ru1_p x hx _ (by omega) | exact ru2_p x hx _ _ (by omega) (by omega) | exact est_p _ | exact eld_p _ | exact strong_p _ | fail)) | (apply M_makeFunc; (repeat (first | exact EvsM.nil | (apply EvsM.cons; first | (refine EvM.mb _ rfl ?_; first | assumption | exact rfl) | exact EvM.plain rfl rfl))); (repeat (first | exact EvsM.nil | (apply EvsM.cons; first | (refine EvM.mb _ rfl ?_; first | assumption | exact rfl) | exact EvM.plain rfl rfl))))))
  refine q4 ?_; refine q12 ?_; refine ao_nil ?_; refine then_n ?_; refine awp_ret ?_
  rotate_left
  exact done_b rfl rfl
theorem paired_p (b : Nat) (hb : b < x.evs.length) : Pure E.P 45 [exOV x, .int .i64 b] (.tu [.int .i64 (pairedZ x b).1, .bool (pairedZ x b).2]) := by
  have hl := hx.len
  have f2 : Frozen 2 := ⟨trivial⟩
  have f6 : Frozen 6 := ⟨trivial⟩
  refine FnW.toR ?_
  refine fn_of_awpN (vs := [.tmp 4, .tmp 5]) Tryz.func45 (by decide) rfl Tryz.ntmps45 (Nat.le_of_ble_eq_true rfl) rfl ?_
  refine awp_seq ?_
  (refine ao_region ?_ (fun _ => ?_); exact rfl)
  refine q34 ?_
  iterate 2 refine q12 ?_
  refine ao_nil ?_; refine then_n ?_; refine awp_seq ?_
  (refine ao_region ?_ (fun _ => ?_); exact rfl)
  iterate 2 refine q32 ?_
  refine q23 ?_; refine q11 ?_; refine q17 ?_; refine q33 ?_
  (apply S_alloc; exact rfl)
  refine q43 ?_; refine ao_nil ?_; refine then_n ?_
  iterate 2 refine awp_seq ?_
  (refine ao_region ?_ (fun _ => ?_); exact rfl)
  refine q32 ?_; refine q23 ?_; refine q44 ?_; refine q11 ?_
  (apply spec_f; exact rfl; exact rfl)
  (refine im_any fun hc_ => ?_; try have hc1_ := (band hc_).1)
  refine q8
  (apply spec_f; exact rfl; exact rfl)
  (refine im_any fun hc_ => ?_; try have hc1_ := (band hc_).1)
  refine q6
  (apply spec_f; exact rfl; exact rfl)
  (refine im_any fun hc_ => ?_; try have hc1_ := (band hc_).1)
  refine q42; refine q0 ?_; refine ao_nil ?_; refine then_n ?_
  (apply awp_cond; exact rfl)
  (refine im_ot (fun hc_ => ?_); (try simp only [Bool.not_eq_true', Bool.not_eq_false', Bool.or_eq_true, Bool.and_eq_true, Bool.or_eq_false_iff, Bool.and_eq_false_iff, decide_eq_true_eq, decide_eq_false_iff_not, Decidable.not_not, Int.not_lt, Int.not_le, Bool.not_true, Bool.not_false, Bool.true_and, Bool.and_true, Bool.false_or, Bool.or_false, Bool.true_or, Bool.false_and, bne_eq_false_iff_eq, bne_iff_ne, beq_iff_eq, beq_eq_false_iff_ne, decide_eq_decide] at hc_))
  refine awp_seq ?_
  (refine ao_region ?_ (fun _ => ?_); exact rfl)
  iterate 2 refine q12 ?_
  refine ao_nil ?_; refine then_n ?_; refine awp_ret ?_; refine then_r ?_
  rotate_left
  refine im_of ?_
  (refine im_nf (fun _ => ?_); (try (exfalso; omega)))
  refine im_bf ?_
  (refine im_vt (fun _ => ?_))
  refine awp_skip ?_; refine then_n ?_
  iterate 2 refine awp_seq ?_
  (refine ao_region ?_ (fun _ => ?_); exact rfl)
  refine q11 ?_
  (apply S_sub64; exact rfl; exact rfl; omega)
  refine q12 ?_; refine ao_nil ?_; refine then_n ?_; refine awp_block ?_
  rotate_left
  · refine tmpN2 rfl rfl ?_
    have h9 := hc_
    simp only [Int.toNat_natCast] at h9
    unfold pairedZ
    rw [if_neg (by rintro ⟨e1, e2⟩; rcases h9 with h9 | h9; exact h9 e1; rw [e2] at h9; cases h9)]
  rename_i g1 g2 _
  simp only [Int.toNat_natCast] at g1 g2
  refine awp_loop (X := Nat) (fun k => tmL [(2, .d (.pt (exRow x) 0)), (6, .d (.pt (evTV (x.evs.getD b default)) 0)), (7, .int .i64 ((k : Int) - 1))]) (fun _ => stL []) (fun k => k ≤ b ∧ pairedZ x b = pairTP x.evs (x.evs.getD b default) k) (fun k => k) b ⟨Nat.le_refl _, by unfold pairedZ; rw [if_pos ⟨g1, g2⟩]⟩ (by repeat' (first | exact le_nil _ | exact sle_nil _ | refine le_cons rfl ?_ | refine sle_cons rfl ?_)) (by repeat' (first | exact le_nil _ | exact sle_nil _ | refine le_cons rfl ?_ | refine sle_cons rfl ?_)) ?_
  rintro k ⟨hk, ht⟩
  cases k with
  | zero =>
    iterate 2 refine awp_seq ?_
    (refine do_region (E := E) ?_ (fun _ => ?_); exact rfl)
    refine q38 ?_
    (apply D_geq; exact rfl; exact rfl)
    refine q38 ?_
    (apply dspec_t; exact rfl; exact rfl)
    (refine im_any fun hc_ => ?_; try have hc1_ := (band hc_).1)
    refine q8
    (apply dspec_t; exact rfl; exact rfl)
    (refine im_any fun hc_ => ?_; try have hc1_ := (band hc_).1)
    refine q8
    (apply dspec_t; exact rfl; exact rfl)
    (refine im_any fun hc_ => ?_; try have hc1_ := (band hc_).1)
    refine q6
    (apply dspec_t; exact rfl; exact rfl)
    (refine im_any fun hc_ => ?_; try have hc1_ := (band hc_).1)
    refine q1
    (apply dspec_t; exact rfl; exact rfl)
    (refine im_any fun hc_ => ?_; try have hc1_ := (band hc_).1)
    ((have hp_ := hc_; (try simp only [Bool.not_eq_true', Bool.not_eq_false', Bool.or_eq_true, Bool.and_eq_true, Bool.or_eq_false_iff, Bool.and_eq_false_iff, decide_eq_true_eq, decide_eq_false_iff_not, Decidable.not_not, Int.not_lt, Int.not_le, Bool.not_true, Bool.not_false, Bool.true_and, Bool.and_true, Bool.false_or, Bool.or_false, Bool.true_or, Bool.false_and, bne_eq_false_iff_eq, bne_iff_ne, beq_iff_eq, beq_eq_false_iff_ne, decide_eq_decide] at hp_)))
    refine q5
    (apply dspec_t; exact rfl; exact rfl)
    (refine im_any fun hc_ => ?_; try have hc1_ := (band hc_).1)
    refine q8
    (apply dspec_t; exact rfl; exact rfl)
    (refine im_any fun hc_ => ?_; try have hc1_ := (band hc_).1)
    refine q6
    (apply dspec_t; exact rfl; exact rfl)
    (refine im_any fun hc_ => ?_; try have hc1_ := (band hc_).1)
    refine q8
    (apply dspec_t; exact rfl; exact rfl)
    (refine im_any fun hc_ => ?_; try have hc1_ := (band hc_).1)
    refine q6
    (apply dspec_t; exact rfl; exact rfl)
    (refine im_any fun hc_ => ?_; try have hc1_ := (band hc_).1)
    refine q7; refine q9 ?_
    (refine do_nil ?_ ?_; (first | ((try dsimp only [wkeys]); decide +kernel) | exact rfl))
    refine then_n ?_
    (apply awp_cond; exact rfl)
    refine im_at ?_
    (refine im_dt (fun _ => ?_); (try (exfalso; omega)))
    (refine im_af (fun hc_ => ?_); (try simp only [Bool.not_eq_true', Bool.not_eq_false', Bool.or_eq_true, Bool.and_eq_true, Bool.or_eq_false_iff, Bool.and_eq_false_iff, decide_eq_true_eq, decide_eq_false_iff_not, Decidable.not_not, Int.not_lt, Int.not_le, Bool.not_true, Bool.not_false, Bool.true_and, Bool.and_true, Bool.false_or, Bool.or_false, Bool.true_or, Bool.false_and, bne_eq_false_iff_eq, bne_iff_ne, beq_iff_eq, beq_eq_false_iff_ne, decide_eq_decide] at hc_))
    refine awp_exit ?_
    iterate 2 refine then_x ?_
    refine blk_x ?_; refine then_n ?_; refine awp_seq ?_
    (refine ao_region ?_ (fun _ => ?_); exact rfl)
    iterate 2 refine q12 ?_
    refine ao_nil ?_; refine then_n ?_; refine awp_ret ?_
    rotate_left
    refine tmpN2 rfl rfl ?_
    rw [ht]; rfl
  | succ k =>
    rw [show ((k + 1 : Nat) : Int) - 1 = (k : Int) by omega]
    iterate 2 refine awp_seq ?_
    (refine do_region (E := E) ?_ (fun _ => ?_); exact rfl)
    refine q38 ?_
    (apply D_geq; exact rfl; exact rfl)
    refine q38 ?_
    (apply dspec_t; exact rfl; exact rfl)
    (refine im_any fun hc_ => ?_; try have hc1_ := (band hc_).1)
    refine q8
    (apply dspec_t; exact rfl; exact rfl)
    (refine im_any fun hc_ => ?_; try have hc1_ := (band hc_).1)
    refine q8
    (apply dspec_t; exact rfl; exact rfl)
    (refine im_any fun hc_ => ?_; try have hc1_ := (band hc_).1)
    refine q6
    (apply dspec_t; exact rfl; exact rfl)
    (refine im_any fun hc_ => ?_; try have hc1_ := (band hc_).1)
    refine q1
    (apply dspec_t; exact rfl; exact rfl)
    (refine im_any fun hc_ => ?_; try have hc1_ := (band hc_).1)
    ((have hp_ := hc_; (try simp only [Bool.not_eq_true', Bool.not_eq_false', Bool.or_eq_true, Bool.and_eq_true, Bool.or_eq_false_iff, Bool.and_eq_false_iff, decide_eq_true_eq, decide_eq_false_iff_not, Decidable.not_not, Int.not_lt, Int.not_le, Bool.not_true, Bool.not_false, Bool.true_and, Bool.and_true, Bool.false_or, Bool.or_false, Bool.true_or, Bool.false_and, bne_eq_false_iff_eq, bne_iff_ne, beq_iff_eq, beq_eq_false_iff_ne, decide_eq_decide] at hp_)))
    refine q5
    (apply dspec_t; exact rfl; exact rfl)
    (refine im_any fun hc_ => ?_; try have hc1_ := (band hc_).1)
    refine q8
    (apply dspec_t; exact rfl; exact rfl)
    (refine im_any fun hc_ => ?_; try have hc1_ := (band hc_).1)
    refine q6
    (apply dspec_t; exact rfl; exact rfl)
    (refine im_any fun hc_ => ?_; try have hc1_ := (band hc_).1)
    refine q8
    (apply dspec_t; exact rfl; exact rfl)
    (refine im_any fun hc_ => ?_; try have hc1_ := (band hc_).1)
    refine q6
    (apply dspec_t; exact rfl; exact rfl)
    (refine im_any fun hc_ => ?_; try have hc1_ := (band hc_).1)
    refine q7; refine q9 ?_
    (refine do_nil ?_ ?_; (first | ((try dsimp only [wkeys]); decide +kernel) | exact rfl))
    refine then_n ?_
    (apply awp_cond; exact rfl)
    refine im_at ?_
    iterate 2 (refine im_dt (fun _ => ?_); (try (exfalso; omega)))
    refine awp_skip ?_; refine then_n ?_; refine awp_seq ?_; refine awp_block ?_; refine awp_seq ?_
    (refine ao_region ?_ (fun _ => ?_); exact rfl)
    iterate 2 refine q32 ?_
    refine q23 ?_; refine q11 ?_; refine q17 ?_; refine q33 ?_
    (apply S_alloc; exact rfl)
    refine q15 ?_; refine ao_nil ?_; refine then_n ?_; refine awp_seq ?_
    (refine ao_region ?_ (fun _ => ?_); exact rfl)
    refine q28 ?_; refine q16 ?_; refine ao_nil ?_; refine then_n ?_
    (apply awp_cond; exact rfl)
    (refine im_vt (fun _ => ?_))
    refine awp_seq ?_
    (refine do_region (E := E) ?_ (fun _ => ?_); exact rfl)
    refine q38 ?_; refine q56 ?_
    (apply D_load_lo; exact rfl; exact rfl; exact rfl; exact rfl; (first | exact rfl | exact get_map (by omega) (0 : Int) | exact get_map (by omega) default | exact hrow _ | assumption); exact rfl)
    (apply D_eql; exact rfl; exact rfl)
    refine q38 ?_
    (apply dspec_t; exact rfl; exact rfl)
    (refine im_any fun hc_ => ?_; try have hc1_ := (band hc_).1)
    refine q2
    (apply dspec_t; exact rfl; exact rfl)
    (refine im_any fun hc_ => ?_; try have hc1_ := (band hc_).1)
    refine q3
    (apply dspec_t; exact rfl; exact rfl)
    (refine im_any fun hc_ => ?_; try have hc1_ := (band hc_).1)
    refine q8
    (apply dspec_t; exact rfl; exact rfl)
    (refine im_any fun hc_ => ?_; try have hc1_ := (band hc_).1)
    refine q6
    (apply dspec_t; exact rfl; exact rfl)
    (refine im_any fun hc_ => ?_; try have hc1_ := (band hc_).1)
    refine q7; refine q9 ?_
    iterate 2 (apply D_assign; exact rfl)
    (refine do_nil ?_ ?_; (first | ((try dsimp only [wkeys]); decide +kernel) | exact rfl))
    refine then_n ?_; refine awp_ret ?_; refine blk_r ?_
    iterate 2 refine then_r ?_
    refine blk_r ?_; refine then_r ?_
    rotate_left
    (refine im_vf (fun _ => ?_))
    refine awp_skip ?_; refine blk_n ?_; refine then_n ?_
    (refine ao_region ?_ (fun _ => ?_); exact rfl)
    refine q11 ?_
    (apply S_sub64; exact rfl; exact rfl; omega)
    refine q12 ?_; refine ao_nil ?_; refine then_n ?_
    rotate_left
    (refine im_af (fun hc_ => ?_); (try simp only [Bool.not_eq_true', Bool.not_eq_false', Bool.or_eq_true, Bool.and_eq_true, Bool.or_eq_false_iff, Bool.and_eq_false_iff, decide_eq_true_eq, decide_eq_false_iff_not, Decidable.not_not, Int.not_lt, Int.not_le, Bool.not_true, Bool.not_false, Bool.true_and, Bool.and_true, Bool.false_or, Bool.or_false, Bool.true_or, Bool.false_and, bne_eq_false_iff_eq, bne_iff_ne, beq_iff_eq, beq_eq_false_iff_ne, decide_eq_decide] at hc_))
    refine awp_exit ?_
    iterate 2 refine then_x ?_
    refine blk_x ?_; refine then_n ?_; refine awp_seq ?_
    (refine ao_region ?_ (fun _ => ?_); exact rfl)
    iterate 2 refine q12 ?_
    refine ao_nil ?_; refine then_n ?_; refine awp_ret ?_
    rotate_left
    · rename_i h1 _ _ h2 _
      simp only [Int.toNat_natCast] at h1 h2
      refine tmpN2 rfl rfl ?_
      rw [ht, pairTP, if_pos h1, if_pos h2]; rfl
    · rename_i h1 _ _ h2 _
      simp only [Int.toNat_natCast] at h1 h2
      exact round' k ⟨by omega, by rw [ht, pairTP, if_pos h1, if_neg (by rw [h2]; decide)]⟩ (by omega) (by repeat' (first | exact le_nil _ | exact sle_nil _ | refine le_cons rfl ?_ | refine sle_cons rfl ?_)) (by repeat' (first | exact le_nil _ | exact sle_nil _ | refine le_cons rfl ?_ | refine sle_cons rfl ?_))
    · have h1 := hc_
      simp only [Int.toNat_natCast] at h1
      refine tmpN2 rfl rfl ?_
      rw [ht, pairTP, if_neg (h1.resolve_left (by omega))]
theorem ru10_p (a b : Nat) (ha : a < x.evs.length) (hb : b < x.evs.length) : Pure E.P 70 [.int .i64 a, .int .i64 b, .d (.pt (exRow x) 0)] (.bool (decide (pairedI x b = (a : Int)))) := by
  have hp := paired_p x hx b hb
  rw [← pairedZ_rule hx.rsv]
  refine fn_of_awp Tryz.func70 (by decide) rfl Tryz.ntmps70 (Nat.le_of_ble_eq_true rfl) rfl ?_
  refine awp_seq ?_
  (refine ao_region ?_ (fun _ => ?_); exact rfl)
  refine q12 ?_; refine ao_nil ?_; refine then_n ?_; refine awp_seq ?_
  (refine ao_region ?_ (fun _ => ?_); exact rfl)
  refine q33 ?_; refine q11 ?_
  (((first | (apply S_call; exact rfl; (first | exact .d _ _ _ | exact .fn _ _ _); exact rfl; (first | exact ru1_p x hx _ (by omega) | exact ru2_p x hx _ _ (by omega) (by omega) | exact est_p _ | exact eld_p _ | exact strong_p _ | exact hp)) | (apply D_call; exact rfl; (first | exact .d _ _ _ | exact .fn _ _ _); exact rfl; (first | exact ru1_p x hx _ (by omega) | exact ru2_p x hx _ _ (by omega) (by omega) | exact est_p _ | exact eld_p _ | exact strong_p _ | exact hp)))))
  refine q11 ?_
  iterate 2 (apply S_extract; exact rfl; exact rfl)
  iterate 2 refine q12 ?_
  refine ao_nil ?_; refine then_n ?_; refine awp_seq ?_
  (refine ao_region ?_ (fun _ => ?_); exact rfl)
  iterate 2 refine q11 ?_
  (apply spec_t; exact rfl; exact rfl)
  (refine im_any fun hc_ => ?_; try have hc1_ := (band hc_).1)
  refine q1
  (apply spec_t; exact rfl; exact rfl)
  (refine im_any fun hc_ => ?_; try have hc1_ := (band hc_).1)
  refine q1
  (apply spec_t; exact rfl; exact rfl)
  (refine im_any fun hc_ => ?_; try have hc1_ := (band hc_).1)
  refine q7; refine q4 ?_; refine q12 ?_; refine ao_nil ?_; refine then_n ?_; refine awp_ret ?_
  rotate_left
  exact done_b rfl rfl
theorem ru11_p (a b : Nat) (ha : a < x.evs.length) (hb : b < x.evs.length) : Pure E.P 71 [.int .i64 a, .int .i64 b, .d (bev x)] (.bool (hasB (x.evs.getD b default).addrs a)) := by
  refine fn_of_awp Tryz.func71 (by decide) rfl Tryz.ntmps71 (Nat.le_of_ble_eq_true rfl) rfl ?_
  refine awp_seq ?_
  (refine ao_region ?_ (fun _ => ?_); exact rfl)
  refine q12 ?_; refine ao_nil ?_; refine then_n ?_; refine awp_seq ?_
  (refine ao_region ?_ (fun _ => ?_); exact rfl)
  refine q23 ?_; refine q11 ?_
  (((first | (apply S_call; exact rfl; (first | exact .d _ _ _ | exact .fn _ _ _); exact rfl; (first | exact ru1_p x hx _ (by omega) | exact ru2_p x hx _ _ (by omega) (by omega) | exact est_p _ | exact eld_p _ | exact strong_p _ | exact contains_p _ _ (by first | exact (hx.small b).1 | exact (hx.small b).2.1))) | (apply D_call; exact rfl; (first | exact .d _ _ _ | exact .fn _ _ _); exact rfl; (first | exact ru1_p x hx _ (by omega) | exact ru2_p x hx _ _ (by omega) (by omega) | exact est_p _ | exact eld_p _ | exact strong_p _ | exact contains_p _ _ (by first | exact (hx.small b).1 | exact (hx.small b).2.1))))))
  (apply S_field1; exact rfl; exact rfl; exact rfl; exact rfl; exact rfl; exact rfl; exact rfl)
  refine q11 ?_
  (((first | (apply S_call; exact rfl; (first | exact .d _ _ _ | exact .fn _ _ _); exact rfl; (first | exact ru1_p x hx _ (by omega) | exact ru2_p x hx _ _ (by omega) (by omega) | exact est_p _ | exact eld_p _ | exact strong_p _ | exact contains_p _ _ (by first | exact (hx.small b).1 | exact (hx.small b).2.1))) | (apply D_call; exact rfl; (first | exact .d _ _ _ | exact .fn _ _ _); exact rfl; (first | exact ru1_p x hx _ (by omega) | exact ru2_p x hx _ _ (by omega) (by omega) | exact est_p _ | exact eld_p _ | exact strong_p _ | exact contains_p _ _ (by first | exact (hx.small b).1 | exact (hx.small b).2.1))))))
  refine q12 ?_; refine ao_nil ?_; refine then_n ?_; refine awp_ret ?_
  rotate_left
  exact done_b rfl rfl
theorem ru12_p (a b : Nat) (ha : a < x.evs.length) (hb : b < x.evs.length) : Pure E.P 73 [.int .i64 a, .int .i64 b, .d (bev x)] (.bool (hasB (x.evs.getD b default).datas a)) := by
  refine fn_of_awp Tryz.func73 (by decide) rfl Tryz.ntmps73 (Nat.le_of_ble_eq_true rfl) rfl ?_
  refine awp_seq ?_
  (refine ao_region ?_ (fun _ => ?_); exact rfl)
  refine q12 ?_; refine ao_nil ?_; refine then_n ?_; refine awp_seq ?_
  (refine ao_region ?_ (fun _ => ?_); exact rfl)
  refine q23 ?_; refine q11 ?_
  (((first | (apply S_call; exact rfl; (first | exact .d _ _ _ | exact .fn _ _ _); exact rfl; (first | exact ru1_p x hx _ (by omega) | exact ru2_p x hx _ _ (by omega) (by omega) | exact est_p _ | exact eld_p _ | exact strong_p _ | exact contains_p _ _ (by first | exact (hx.small b).1 | exact (hx.small b).2.1))) | (apply D_call; exact rfl; (first | exact .d _ _ _ | exact .fn _ _ _); exact rfl; (first | exact ru1_p x hx _ (by omega) | exact ru2_p x hx _ _ (by omega) (by omega) | exact est_p _ | exact eld_p _ | exact strong_p _ | exact contains_p _ _ (by first | exact (hx.small b).1 | exact (hx.small b).2.1))))))
  (apply S_field1; exact rfl; exact rfl; exact rfl; exact rfl; exact rfl; exact rfl; exact rfl)
  refine q11 ?_
  (((first | (apply S_call; exact rfl; (first | exact .d _ _ _ | exact .fn _ _ _); exact rfl; (first | exact ru1_p x hx _ (by omega) | exact ru2_p x hx _ _ (by omega) (by omega) | exact est_p _ | exact eld_p _ | exact strong_p _ | exact contains_p _ _ (by first | exact (hx.small b).1 | exact (hx.small b).2.1))) | (apply D_call; exact rfl; (first | exact .d _ _ _ | exact .fn _ _ _); exact rfl; (first | exact ru1_p x hx _ (by omega) | exact ru2_p x hx _ _ (by omega) (by omega) | exact est_p _ | exact eld_p _ | exact strong_p _ | exact contains_p _ _ (by first | exact (hx.small b).1 | exact (hx.small b).2.1))))))
  refine q12 ?_; refine ao_nil ?_; refine then_n ?_; refine awp_ret ?_
  rotate_left
  exact done_b rfl rfl
theorem ru13_p (a b : Nat) (ha : a < x.evs.length) (hb : b < x.evs.length) : Pure E.P 74 [.int .i64 a, .int .i64 b, .d (bev x)] (.bool ((x.evs.getD b default).stB && hasB (x.evs.getD b default).ctrls a)) := by
  refine fn_of_awp Tryz.func74 (by decide) rfl Tryz.ntmps74 (Nat.le_of_ble_eq_true rfl) rfl ?_
  refine awp_seq ?_
  (refine ao_region ?_ (fun _ => ?_); exact rfl)
  refine q12 ?_; refine ao_nil ?_; refine then_n ?_; refine awp_seq ?_
  (refine ao_region ?_ (fun _ => ?_); exact rfl)
  refine q23 ?_; refine q11 ?_
  iterate 2 (((first | (apply S_call; exact rfl; (first | exact .d _ _ _ | exact .fn _ _ _); exact rfl; (first | exact ru1_p x hx _ (by omega) | exact ru2_p x hx _ _ (by omega) (by omega) | exact est_p _ | exact eld_p _ | exact strong_p _ | exact contains_p _ _ (hx.small b).2.2)) | (apply D_call; exact rfl; (first | exact .d _ _ _ | exact .fn _ _ _); exact rfl; (first | exact ru1_p x hx _ (by omega) | exact ru2_p x hx _ _ (by omega) (by omega) | exact est_p _ | exact eld_p _ | exact strong_p _ | exact contains_p _ _ (hx.small b).2.2)))))
  refine q11 ?_
  (apply spec_t; exact rfl; exact rfl)
  (refine im_any fun hc_ => ?_; try have hc1_ := (band hc_).1)
  refine q6
  (apply spec_t; exact rfl; exact rfl)
  (refine im_any fun hc_ => ?_; try have hc1_ := (band hc_).1)
  refine q1
  (apply spec_t; exact rfl; exact rfl)
  (refine im_any fun hc_ => ?_; try have hc1_ := (band hc_).1)
  ((have hp_ := hc_; (try simp only [Bool.not_eq_true', Bool.not_eq_false', Bool.or_eq_true, Bool.and_eq_true, Bool.or_eq_false_iff, Bool.and_eq_false_iff, decide_eq_true_eq, decide_eq_false_iff_not, Decidable.not_not, Int.not_lt, Int.not_le, Bool.not_true, Bool.not_false, Bool.true_and, Bool.and_true, Bool.false_or, Bool.or_false, Bool.true_or, Bool.false_and, bne_eq_false_iff_eq, bne_iff_ne, beq_iff_eq, beq_eq_false_iff_ne, decide_eq_decide] at hp_)))
  ((first | (apply M_call; (first | (refine EvM.mb _ rfl ?_; first | assumption | exact rfl) | exact EvM.plain rfl rfl); (first | exact .d _ _ _ | exact .fn _ _ _); (repeat (first | exact EvsM.nil | (apply EvsM.cons; first | (refine EvM.mb _ rfl ?_; first | assumption | exact rfl) | exact EvM.plain rfl rfl))); (first | exact ru1_p x hx _ (by omega) | exact ru2_p x hx _ _ (by omega) (by omega) | exact est_p _ | exact eld_p _ | exact strong_p _ | exact contains_p _ _ (hx.small b).2.2)) | (apply M_makeFunc; (repeat (first | exact EvsM.nil | (apply EvsM.cons; first | (refine EvM.mb _ rfl ?_; first | assumption | exact rfl) | exact EvM.plain rfl rfl))); (repeat (first | exact EvsM.nil | (apply EvsM.cons; first | (refine EvM.mb _ rfl ?_; first | assumption | exact rfl) | exact EvM.plain rfl rfl))))))
  (apply spec_t; exact rfl; exact rfl)
  (refine im_any fun hc_ => ?_; try have hc1_ := (band hc_).1)
  refine q53
  (apply spec_t; exact rfl; exact rfl)
  (refine im_any fun hc_ => ?_; try have hc1_ := (band hc_).1)
  refine q1
  (apply spec_t; exact rfl; exact rfl)
  (refine im_any fun hc_ => ?_; try have hc1_ := (band hc_).1)
  ((have hp_ := hc_; (try simp only [Bool.not_eq_true', Bool.not_eq_false', Bool.or_eq_true, Bool.and_eq_true, Bool.or_eq_false_iff, Bool.and_eq_false_iff, decide_eq_true_eq, decide_eq_false_iff_not, Decidable.not_not, Int.not_lt, Int.not_le, Bool.not_true, Bool.not_false, Bool.true_and, Bool.and_true, Bool.false_or, Bool.or_false, Bool.true_or, Bool.false_and, bne_eq_false_iff_eq, bne_iff_ne, beq_iff_eq, beq_eq_false_iff_ne, decide_eq_decide] at hp_)))
  ((first | (apply M_call; (first | (refine EvM.mb _ rfl ?_; first | assumption | exact rfl) | exact EvM.plain rfl rfl); (first | exact .d _ _ _ | exact .fn _ _ _); (repeat (first | exact EvsM.nil | (apply EvsM.cons; first | (refine EvM.mb _ rfl ?_; first | assumption | exact rfl) | exact EvM.plain rfl rfl))); (first | exact ru1_p x hx _ (by omega) | exact ru2_p x hx _ _ (by omega) (by omega) | exact est_p _ | exact eld_p _ | exact strong_p _ | exact contains_p _ _ (hx.small b).2.2)) | (apply M_makeFunc; (repeat (first | exact EvsM.nil | (apply EvsM.cons; first | (refine EvM.mb _ rfl ?_; first | assumption | exact rfl) | exact EvM.plain rfl rfl))); (repeat (first | exact EvsM.nil | (apply EvsM.cons; first | (refine EvM.mb _ rfl ?_; first | assumption | exact rfl) | exact EvM.plain rfl rfl))))))
  refine q4 ?_; refine q12 ?_; refine ao_nil ?_; refine then_n ?_; refine awp_ret ?_
  rotate_left
  exact done_b rfl rfl
theorem ru141_p (a b n : Nat) (e : Ev) (ha : a < x.evs.length) (hb : b < x.evs.length) (he : e.addrs.length ≤ 1152921504606846976 ∧ e.datas.length ≤ 1152921504606846976) : Pure E.P 76 ([.int .i64 n, evOV e] ++ [.pt (exRow x) 0, bint b, bint a].map .d) (.bool (e.stB && decide (x.from_.getD b 0 = (n : Int)) && (hasB e.addrs a || hasB e.datas a))) := by
  have hl := hx.len
  have hfl := hx.from_
  refine fn_of_awp Tryz.func76 (by decide) rfl Tryz.ntmps76 (Nat.le_of_ble_eq_true rfl) rfl ?_
  refine awp_seq ?_
  (refine ao_region ?_ (fun _ => ?_); exact rfl)
  refine q40 ?_; refine q12 ?_; refine ao_nil ?_; refine then_n ?_; refine awp_seq ?_
  (refine ao_region ?_ (fun _ => ?_); exact rfl)
  refine q14 ?_
  (((first | (apply S_call; exact rfl; (first | exact .d _ _ _ | exact .fn _ _ _); exact rfl; (first | exact ru1_p x hx _ (by omega) | exact ru2_p x hx _ _ (by omega) (by omega) | exact est_p _ | exact eld_p _ | exact strong_p _ | (first | exact contains_p _ _ he.1 | exact contains_p _ _ he.2))) | (apply D_call; exact rfl; (first | exact .d _ _ _ | exact .fn _ _ _); exact rfl; (first | exact ru1_p x hx _ (by omega) | exact ru2_p x hx _ _ (by omega) (by omega) | exact est_p _ | exact eld_p _ | exact strong_p _ | (first | exact contains_p _ _ he.1 | exact contains_p _ _ he.2))))))
  refine q11 ?_
  (apply spec_t; exact rfl; exact rfl)
  (refine im_any fun hc_ => ?_; try have hc1_ := (band hc_).1)
  refine q8
  (apply spec_t; exact rfl; exact rfl)
  (refine im_any fun hc_ => ?_; try have hc1_ := (band hc_).1)
  refine q8
  (apply spec_t; exact rfl; exact rfl)
  (refine im_any fun hc_ => ?_; try have hc1_ := (band hc_).1)
  refine q6
  (apply spec_t; exact rfl; exact rfl)
  (refine im_any fun hc_ => ?_; try have hc1_ := (band hc_).1)
  refine q6
  (apply spec_t; exact rfl; exact rfl)
  (refine im_any fun hc_ => ?_; try have hc1_ := (band hc_).1)
  ((have hp_ := hc_; (try simp only [Bool.not_eq_true', Bool.not_eq_false', Bool.or_eq_true, Bool.and_eq_true, Bool.or_eq_false_iff, Bool.and_eq_false_iff, decide_eq_true_eq, decide_eq_false_iff_not, Decidable.not_not, Int.not_lt, Int.not_le, Bool.not_true, Bool.not_false, Bool.true_and, Bool.and_true, Bool.false_or, Bool.or_false, Bool.true_or, Bool.false_and, bne_eq_false_iff_eq, bne_iff_ne, beq_iff_eq, beq_eq_false_iff_ne, decide_eq_decide] at hp_)))
  refine q5
  (apply spec_t; exact rfl; exact rfl)
  (refine im_any fun hc_ => ?_; try have hc1_ := (band hc_).1)
  refine q6
  (apply spec_t; exact rfl; exact rfl)
  (refine im_any fun hc_ => ?_; try have hc1_ := (band hc_).1)
  refine q1
  (apply spec_t; exact rfl; exact rfl)
  (refine im_any fun hc_ => ?_; try have hc1_ := (band hc_).1)
  refine q7; refine q4 ?_; refine q11 ?_
  (apply spec_t; exact rfl; exact rfl)
  (refine im_any fun hc_ => ?_; try have hc1_ := (band hc_).1)
  refine q2
  (apply spec_t; exact rfl; exact rfl)
  (refine im_any fun hc_ => ?_; try have hc1_ := (band hc_).1)
  refine q3
  (apply spec_t; exact rfl; exact rfl)
  (refine im_any fun hc_ => ?_; try have hc1_ := (band hc_).1)
  refine q6
  (apply spec_t; exact rfl; exact rfl)
  (refine im_any fun hc_ => ?_; try have hc1_ := (band hc_).1)
  ((have hp_ := hc_; (try simp only [Bool.not_eq_true', Bool.not_eq_false', Bool.or_eq_true, Bool.and_eq_true, Bool.or_eq_false_iff, Bool.and_eq_false_iff, decide_eq_true_eq, decide_eq_false_iff_not, Decidable.not_not, Int.not_lt, Int.not_le, Bool.not_true, Bool.not_false, Bool.true_and, Bool.and_true, Bool.false_or, Bool.or_false, Bool.true_or, Bool.false_and, bne_eq_false_iff_eq, bne_iff_ne, beq_iff_eq, beq_eq_false_iff_ne, decide_eq_decide] at hp_)))
  ((first | (apply M_call; (first | (refine EvM.mb _ rfl ?_; first | assumption | exact rfl) | exact EvM.plain rfl rfl); (first | exact .d _ _ _ | exact .fn _ _ _); (repeat (first | exact EvsM.nil | (apply EvsM.cons; first | (refine EvM.mb _ rfl ?_; first | assumption | exact rfl) | exact EvM.plain rfl rfl))); (first | exact ru1_p x hx _ (by omega) | exact ru2_p x hx _ _ (by omega) (by omega) | exact est_p _ | exact eld_p _ | exact strong_p _ | (first | exact contains_p _ _ he.1 | exact contains_p _ _ he.2))) | (apply M_makeFunc; (repeat (first | exact EvsM.nil | (apply EvsM.cons; first | (refine EvM.mb _ rfl ?_; first | assumption | exact rfl) | exact EvM.plain rfl rfl))); (repeat (first | exact EvsM.nil | (apply EvsM.cons; first | (refine EvM.mb _ rfl ?_; first | assumption | exact rfl) | exact EvM.plain rfl rfl))))))
  (apply spec_t; exact rfl; exact rfl)
  (refine im_any fun hc_ => ?_; try have hc1_ := (band hc_).1)
  refine q1
  (apply spec_mf; exact rfl; exact rfl)
  (refine im_any fun hc_ => ?_; try have hc1_ := (band hc_).1)
  refine q2
  (apply spec_mf; exact rfl; exact rfl)
  (refine im_any fun hc_ => ?_; try have hc1_ := (band hc_).1)
  refine q3
  (apply spec_mf; exact rfl; exact rfl)
  (refine im_any fun hc_ => ?_; try have hc1_ := (band hc_).1)
  refine q6
  (apply spec_mf; exact rfl; exact rfl)
  (refine im_any fun hc_ => ?_; try have hc1_ := (band hc_).1)
  ((have hp_ := hc_; (try simp only [Bool.not_eq_true', Bool.not_eq_false', Bool.or_eq_true, Bool.and_eq_true, Bool.or_eq_false_iff, Bool.and_eq_false_iff, decide_eq_true_eq, decide_eq_false_iff_not, Decidable.not_not, Int.not_lt, Int.not_le, Bool.not_true, Bool.not_false, Bool.true_and, Bool.and_true, Bool.false_or, Bool.or_false, Bool.true_or, Bool.false_and, bne_eq_false_iff_eq, bne_iff_ne, beq_iff_eq, beq_eq_false_iff_ne, decide_eq_decide] at hp_)))
  ((first | (apply M_call; (first | (refine EvM.mb _ rfl ?_; first | assumption | exact rfl) | exact EvM.plain rfl rfl); (first | exact .d _ _ _ | exact .fn _ _ _); (repeat (first | exact EvsM.nil | (apply EvsM.cons; first | (refine EvM.mb _ rfl ?_; first | assumption | exact rfl) | exact EvM.plain rfl rfl))); (first | exact ru1_p x hx _ (by omega) | exact ru2_p x hx _ _ (by omega) (by omega) | exact est_p _ | exact eld_p _ | exact strong_p _ | (first | exact contains_p _ _ he.1 | exact contains_p _ _ he.2))) | (apply M_makeFunc; (repeat (first | exact EvsM.nil | (apply EvsM.cons; first | (refine EvM.mb _ rfl ?_; first | assumption | exact rfl) | exact EvM.plain rfl rfl))); (repeat (first | exact EvsM.nil | (apply EvsM.cons; first | (refine EvM.mb _ rfl ?_; first | assumption | exact rfl) | exact EvM.plain rfl rfl))))))
  (apply spec_t; exact rfl; exact rfl)
  (refine im_any fun hc_ => ?_; try have hc1_ := (band hc_).1)
  refine q24; refine q4 ?_; refine q12 ?_; refine ao_nil ?_; refine then_n ?_; refine awp_ret ?_
  rotate_left
  exact done_b rfl rfl
theorem ru14_p (a b : Nat) (ha : a < x.evs.length) (hb : b < x.evs.length) : Pure E.P 75 [.int .i64 a, .int .i64 b, .d (bev x), .d (.pt (exRow x) 0)] (.bool ((x.evs.getD b default).ldB && someB a b (hit12 x a b))) := by
  have hl := hx.len
  have hfl := hx.from_
  have f4 : Frozen 4 := ⟨trivial⟩
  have f5 : Frozen 5 := ⟨trivial⟩
  have hs := some_p x a b _ _ _ hl hb (by omega) fun n _ _ => ru141_p x hx a b n (x.evs.getD n default) ha hb ⟨(hx.small n).1, (hx.small n).2.1⟩
  refine fn_of_awp Tryz.func75 (by decide) rfl Tryz.ntmps75 (Nat.le_of_ble_eq_true rfl) rfl ?_
  refine awp_seq ?_
  (refine ao_region ?_ (fun _ => ?_); exact rfl)
  iterate 2 refine q34 ?_
  refine q12 ?_; refine ao_nil ?_; refine then_n ?_; refine awp_seq ?_
  (refine ao_region ?_ (fun _ => ?_); exact rfl)
  iterate 2 refine q23 ?_
  iterate 2 (((first | (apply S_call; exact rfl; (first | exact .d _ _ _ | exact .fn _ _ _); exact rfl; (first | exact ru1_p x hx _ (by omega) | exact ru2_p x hx _ _ (by omega) (by omega) | exact est_p _ | exact eld_p _ | exact strong_p _ | exact hs)) | (apply D_call; exact rfl; (first | exact .d _ _ _ | exact .fn _ _ _); exact rfl; (first | exact ru1_p x hx _ (by omega) | exact ru2_p x hx _ _ (by omega) (by omega) | exact est_p _ | exact eld_p _ | exact strong_p _ | exact hs)))))
  refine q11 ?_
  (apply spec_t; exact rfl; exact rfl)
  (refine im_any fun hc_ => ?_; try have hc1_ := (band hc_).1)
  refine q47
  (apply spec_t; exact rfl; exact rfl)
  (refine im_any fun hc_ => ?_; try have hc1_ := (band hc_).1)
  refine q6
  (apply spec_t; exact rfl; exact rfl)
  (refine im_any fun hc_ => ?_; try have hc1_ := (band hc_).1)
  refine q6
  (apply spec_t; exact rfl; exact rfl)
  (refine im_any fun hc_ => ?_; try have hc1_ := (band hc_).1)
  ((have hp_ := hc_; (try simp only [Bool.not_eq_true', Bool.not_eq_false', Bool.or_eq_true, Bool.and_eq_true, Bool.or_eq_false_iff, Bool.and_eq_false_iff, decide_eq_true_eq, decide_eq_false_iff_not, Decidable.not_not, Int.not_lt, Int.not_le, Bool.not_true, Bool.not_false, Bool.true_and, Bool.and_true, Bool.false_or, Bool.or_false, Bool.true_or, Bool.false_and, bne_eq_false_iff_eq, bne_iff_ne, beq_iff_eq, beq_eq_false_iff_ne, decide_eq_decide] at hp_)))
  ((first | (apply M_call; (first | (refine EvM.mb _ rfl ?_; first | assumption | exact rfl) | exact EvM.plain rfl rfl); (first | exact .d _ _ _ | exact .fn _ _ _); (repeat (first | exact EvsM.nil | (apply EvsM.cons; first | (refine EvM.mb _ rfl ?_; first | assumption | exact rfl) | exact EvM.plain rfl rfl))); (first | exact ru1_p x hx _ (by omega) | exact ru2_p x hx _ _ (by omega) (by omega) | exact est_p _ | exact eld_p _ | exact strong_p _ | exact hs)) | (apply M_makeFunc; (repeat (first | exact EvsM.nil | (apply EvsM.cons; first | (refine EvM.mb _ rfl ?_; first | assumption | exact rfl) | exact EvM.plain rfl rfl))); (repeat (first | exact EvsM.nil | (apply EvsM.cons; first | (refine EvM.mb _ rfl ?_; first | assumption | exact rfl) | exact EvM.plain rfl rfl))))))
  (apply spec_t; exact rfl; exact rfl)
  (refine im_any fun hc_ => ?_; try have hc1_ := (band hc_).1)
  ((have hp_ := hc_; (try simp only [Bool.not_eq_true', Bool.not_eq_false', Bool.or_eq_true, Bool.and_eq_true, Bool.or_eq_false_iff, Bool.and_eq_false_iff, decide_eq_true_eq, decide_eq_false_iff_not, Decidable.not_not, Int.not_lt, Int.not_le, Bool.not_true, Bool.not_false, Bool.true_and, Bool.and_true, Bool.false_or, Bool.or_false, Bool.true_or, Bool.false_and, bne_eq_false_iff_eq, bne_iff_ne, beq_iff_eq, beq_eq_false_iff_ne, decide_eq_decide] at hp_)))
  ((first | (apply M_call; (first | (refine EvM.mb _ rfl ?_; first | assumption | exact rfl) | exact EvM.plain rfl rfl); (first | exact .d _ _ _ | exact .fn _ _ _); (repeat (first | exact EvsM.nil | (apply EvsM.cons; first | (refine EvM.mb _ rfl ?_; first | assumption | exact rfl) | exact EvM.plain rfl rfl))); (first | exact ru1_p x hx _ (by omega) | exact ru2_p x hx _ _ (by omega) (by omega) | exact est_p _ | exact eld_p _ | exact strong_p _ | exact hs)) | (apply M_makeFunc; (repeat (first | exact EvsM.nil | (apply EvsM.cons; first | (refine EvM.mb _ rfl ?_; first | assumption | exact rfl) | exact EvM.plain rfl rfl))); (repeat (first | exact EvsM.nil | (apply EvsM.cons; first | (refine EvM.mb _ rfl ?_; first | assumption | exact rfl) | exact EvM.plain rfl rfl))))))
  refine q4 ?_; refine q12 ?_; refine ao_nil ?_; refine then_n ?_; refine awp_ret ?_
  rotate_left
  exact done_b rfl rfl
omit hx in
theorem ru151_p (a : Nat) (n : Int) (e : Ev) (he : e.addrs.length ≤ 1152921504606846976) : Pure E.P 78 ([.int .i64 n, evOV e] ++ [bint a].map .d) (.bool (hasB e.addrs a)) := by
  refine fn_of_awp Tryz.func78 (by decide) rfl Tryz.ntmps78 (Nat.le_of_ble_eq_true rfl) rfl ?_
  refine awp_seq ?_
  (refine ao_region ?_ (fun _ => ?_); exact rfl)
  refine q40 ?_; refine q12 ?_; refine ao_nil ?_; refine then_n ?_; refine awp_seq ?_
  (refine ao_region ?_ (fun _ => ?_); exact rfl)
  refine q28 ?_; refine q16 ?_; refine q23 ?_
  (((first | (apply S_call; exact rfl; (first | exact .d _ _ _ | exact .fn _ _ _); exact rfl; (first | exact ru1_p x hx _ (by omega) | exact ru2_p x hx _ _ (by omega) (by omega) | exact est_p _ | exact eld_p _ | exact strong_p _ | exact contains_p _ _ he)) | (apply D_call; exact rfl; (first | exact .d _ _ _ | exact .fn _ _ _); exact rfl; (first | exact ru1_p x hx _ (by omega) | exact ru2_p x hx _ _ (by omega) (by omega) | exact est_p _ | exact eld_p _ | exact strong_p _ | exact contains_p _ _ he)))))
  refine q12 ?_; refine ao_nil ?_; refine then_n ?_; refine awp_ret ?_
  rotate_left
  exact done_b rfl rfl
theorem ru15_p (a b : Nat) (ha : a < x.evs.length) (hb : b < x.evs.length) : Pure E.P 77 [.int .i64 a, .int .i64 b, .d (bev x), .d (.pt (exRow x) 0)] (.bool ((x.evs.getD b default).stB && someB a b (hit13 x a))) := by
  have hl := hx.len
  have hfl := hx.from_
  have f4 : Frozen 4 := ⟨trivial⟩
  have f5 : Frozen 5 := ⟨trivial⟩
  have hs := some_p x a b _ _ _ hl hb (by omega) fun n _ _ => ru151_p a n (x.evs.getD n default) (hx.small n).1
  refine fn_of_awp Tryz.func77 (by decide) rfl Tryz.ntmps77 (Nat.le_of_ble_eq_true rfl) rfl ?_
  refine awp_seq ?_
  (refine ao_region ?_ (fun _ => ?_); exact rfl)
  refine q34 ?_; refine q12 ?_; refine ao_nil ?_; refine then_n ?_; refine awp_seq ?_
  (refine ao_region ?_ (fun _ => ?_); exact rfl)
  refine q23 ?_; refine q11 ?_
  iterate 2 (((first | (apply S_call; exact rfl; (first | exact .d _ _ _ | exact .fn _ _ _); exact rfl; (first | exact ru1_p x hx _ (by omega) | exact ru2_p x hx _ _ (by omega) (by omega) | exact est_p _ | exact eld_p _ | exact strong_p _ | exact hs)) | (apply D_call; exact rfl; (first | exact .d _ _ _ | exact .fn _ _ _); exact rfl; (first | exact ru1_p x hx _ (by omega) | exact ru2_p x hx _ _ (by omega) (by omega) | exact est_p _ | exact eld_p _ | exact strong_p _ | exact hs)))))
  refine q11 ?_
  (apply spec_t; exact rfl; exact rfl)
  (refine im_any fun hc_ => ?_; try have hc1_ := (band hc_).1)
  refine q47
  (apply spec_t; exact rfl; exact rfl)
  (refine im_any fun hc_ => ?_; try have hc1_ := (band hc_).1)
  refine q6
  (apply spec_t; exact rfl; exact rfl)
  (refine im_any fun hc_ => ?_; try have hc1_ := (band hc_).1)
  refine q1
  (apply spec_t; exact rfl; exact rfl)
  (refine im_any fun hc_ => ?_; try have hc1_ := (band hc_).1)
  ((have hp_ := hc_; (try simp only [Bool.not_eq_true', Bool.not_eq_false', Bool.or_eq_true, Bool.and_eq_true, Bool.or_eq_false_iff, Bool.and_eq_false_iff, decide_eq_true_eq, decide_eq_false_iff_not, Decidable.not_not, Int.not_lt, Int.not_le, Bool.not_true, Bool.not_false, Bool.true_and, Bool.and_true, Bool.false_or, Bool.or_false, Bool.true_or, Bool.false_and, bne_eq_false_iff_eq, bne_iff_ne, beq_iff_eq, beq_eq_false_iff_ne, decide_eq_decide] at hp_)))
  ((first | (apply M_call; (first | (refine EvM.mb _ rfl ?_; first | assumption | exact rfl) | exact EvM.plain rfl rfl); (first | exact .d _ _ _ | exact .fn _ _ _); (repeat (first | exact EvsM.nil | (apply EvsM.cons; first | (refine EvM.mb _ rfl ?_; first | assumption | exact rfl) | exact EvM.plain rfl rfl))); (first | exact ru1_p x hx _ (by omega) | exact ru2_p x hx _ _ (by omega) (by omega) | exact est_p _ | exact eld_p _ | exact strong_p _ | exact hs)) | (apply M_makeFunc; (repeat (first | exact EvsM.nil | (apply EvsM.cons; first | (refine EvM.mb _ rfl ?_; first | assumption | exact rfl) | exact EvM.plain rfl rfl))); (repeat (first | exact EvsM.nil | (apply EvsM.cons; first | (refine EvM.mb _ rfl ?_; first | assumption | exact rfl) | exact EvM.plain rfl rfl))))))
  (apply spec_t; exact rfl; exact rfl)
  (refine im_any fun hc_ => ?_; try have hc1_ := (band hc_).1)
  ((have hp_ := hc_; (try simp only [Bool.not_eq_true', Bool.not_eq_false', Bool.or_eq_true, Bool.and_eq_true, Bool.or_eq_false_iff, Bool.and_eq_false_iff, decide_eq_true_eq, decide_eq_false_iff_not, Decidable.not_not, Int.not_lt, Int.not_le, Bool.not_true, Bool.not_false, Bool.true_and, Bool.and_true, Bool.false_or, Bool.or_false, Bool.true_or, Bool.false_and, bne_eq_false_iff_eq, bne_iff_ne, beq_iff_eq, beq_eq_false_iff_ne, decide_eq_decide] at hp_)))
  ((first | (apply M_call; (first | (refine EvM.mb _ rfl ?_; first | assumption | exact rfl) | exact EvM.plain rfl rfl); (first | exact .d _ _ _ | exact .fn _ _ _); (repeat (first | exact EvsM.nil | (apply EvsM.cons; first | (refine EvM.mb _ rfl ?_; first | assumption | exact rfl) | exact EvM.plain rfl rfl))); (first | exact ru1_p x hx _ (by omega) | exact ru2_p x hx _ _ (by omega) (by omega) | exact est_p _ | exact eld_p _ | exact strong_p _ | exact hs)) | (apply M_makeFunc; (repeat (first | exact EvsM.nil | (apply EvsM.cons; first | (refine EvM.mb _ rfl ?_; first | assumption | exact rfl) | exact EvM.plain rfl rfl))); (repeat (first | exact EvsM.nil | (apply EvsM.cons; first | (refine EvM.mb _ rfl ?_; first | assumption | exact rfl) | exact EvM.plain rfl rfl))))))
  refine q4 ?_; refine q12 ?_; refine ao_nil ?_; refine then_n ?_; refine awp_ret ?_
  rotate_left
  exact done_b rfl rfl
end
end Go.Proofs.YtnghoibkjphfmaaGreat
