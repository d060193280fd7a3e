/- The reference's rules, what must stay in order, and its lists of pairs, in plain data. -/
import Derived.Test.YtnghoibkjphfmaaGreatPd3
import Derived.Test.YtnghoibkjphfmaaGreatPd12
set_option maxRecDepth 100000
set_option pp.deepTerms true
set_option pp.maxSteps 1000000
set_option linter.unusedVariables false
set_option linter.unusedSimpArgs false
namespace Go.Proofs.YtnghoibkjphfmaaGreat
open Go.RowKit
theorem le_consB {d : Nat} {a b : Bool} {l : List (Nat × OV)} {tm : Tm} (h : tm d = some (.bool a)) (e : a = b) (hl : (tmL l).le tm) : (tmL ((d, .bool b) :: l)).le tm := le_cons (by rw [h, e]) hl
def hitR (x : Ex) (r : Int) (a b n : Nat) : Bool := decide (r = 4) && hit4 x a b n || (decide (r = 12) && (x.evs.getD b default).ldB && hit12 x a b n) || (decide (r = 13) && (x.evs.getD b default).stB && hit13 x a n)
def clrB (x : Ex) (a n : Nat) : Bool := (x.evs.getD n default).stB && decide ((x.evs.getD n default).addr = (x.evs.getD a default).addr)
theorem someB_and (a b : Nat) (q : Bool) (f : Nat → Bool) : someB a b (fun n => q && f n) = (q && someB a b f) := by
  cases q with
  | true => simp only [Bool.true_and]
  | false =>
    simp only [Bool.false_and]
    unfold someB
    simp
theorem hit_4 (x : Ex) (a b : Nat) : someB a b (hitR x 4 a b) = ruleR x 4 a b := someB_congr fun n _ _ => by
  unfold hitR
  rw [show decide ((4 : Int) = 4) = true from rfl, show decide ((4 : Int) = 12) = false from rfl, show decide ((4 : Int) = 13) = false from rfl]
  simp only [Bool.true_and, Bool.false_and, Bool.or_false]
theorem hit_12 (x : Ex) (a b : Nat) : someB a b (hitR x 12 a b) = ruleR x 12 a b := by
  refine Eq.trans (someB_congr (g := fun n => (x.evs.getD b default).ldB && hit12 x a b n) fun n _ _ => ?_) (someB_and _ _ _ _)
  unfold hitR
  rw [show decide ((12 : Int) = 4) = false from rfl, show decide ((12 : Int) = 12) = true from rfl, show decide ((12 : Int) = 13) = false from rfl]
  simp only [Bool.true_and, Bool.false_and, Bool.or_false, Bool.false_or]
theorem hit_13 (x : Ex) (a b : Nat) : someB a b (hitR x 13 a b) = ruleR x 13 a b := by
  refine Eq.trans (someB_congr (g := fun n => (x.evs.getD b default).stB && hit13 x a n) fun n _ _ => ?_) (someB_and _ _ _ _)
  unfold hitR
  rw [show decide ((13 : Int) = 4) = false from rfl, show decide ((13 : Int) = 12) = false from rfl, show decide ((13 : Int) = 13) = true from rfl]
  simp only [Bool.true_and, Bool.false_and, Bool.or_false, Bool.false_or]
set_option maxHeartbeats 8000000 in
theorem rrule_p (x : Ex) (hx : x.rok) (r : Int) (a b : Nat) (ha : a < x.evs.length) (hb : b < x.evs.length) (h1 : 1 ≤ r) (h13 : r ≤ 13) :
    Pure E.P 21 [exOV x, .int .i64 r, .int .i64 a, .int .i64 b] (.bool (ruleB x r a b)) := by
  have hl := hx.len
  have hfl := hx.from_
  have hpo := rpo_p x hl a b ha hb
  have f4 : Frozen 4 := ⟨trivial⟩
  have hq := pairOf_eq x a b
  refine fn_of_awp Tryz.func21 (by decide) rfl Tryz.ntmps21 (Nat.le_of_ble_eq_true rfl) rfl ?_
  cases hpb : isPo x a b with
  | false =>
    rw [hpb] at hpo hq
    refine awp_seq ?_
    (refine ao_region ?_ (fun _ => ?_); exact rfl)
    refine q34 ?_; refine q12 ?_; refine ao_nil ?_; refine then_n ?_
    iterate 2 refine awp_seq ?_
    (refine ao_region ?_ (fun _ => ?_); exact rfl)
    refine q33 ?_
    iterate 2 refine q11 ?_
    ((first
      | (apply S_call; exact rfl; exact .fn _ _ _; exact rfl; (first | exact hpo | exact rstores_p _ | exact rloads_p _ | exact rstrong_p _ | exact rpaired_p x hx b hb | exact at_p _ _ (by first | exact (hx.small _).1 | exact (hx.small _).2.1 | exact (hx.small _).2.2) | exact rin_p _ _ (hx.sets _).1 (hx.sets _).2.1 | exact rin_p _ _ (hx.sets _).2.2.1 (hx.sets _).2.2.2))
      | (apply D_call; exact rfl; exact .fn _ _ _; exact rfl; (first | exact hpo | exact rstores_p _ | exact rloads_p _ | exact rstrong_p _ | exact rpaired_p x hx b hb | exact at_p _ _ (by first | exact (hx.small _).1 | exact (hx.small _).2.1 | exact (hx.small _).2.2) | exact rin_p _ _ (hx.sets _).1 (hx.sets _).2.1 | exact rin_p _ _ (hx.sets _).2.2.1 (hx.sets _).2.2.2))))
    (apply S_not; exact rfl)
    refine q11 ?_
    (apply spec_f; exact rfl; exact rfl)
    (refine im_any fun hc_ => ?_; try have hc1_ := (band hc_).1)
    refine q8
    (apply spec_f; exact rfl; exact rfl)
    (refine im_any fun hc_ => ?_; try have hc1_ := (band hc_).1)
    refine q6
    (apply spec_f; exact rfl; exact rfl)
    (refine im_any fun hc_ => ?_; try have hc1_ := (band hc_).1)
    refine q1
    (apply spec_f; exact rfl; exact rfl)
    (refine im_any fun hc_ => ?_; try have hc1_ := (band hc_).1)
    ((have hp_ := hc_; (try simp only [Bool.not_eq_true', Bool.not_eq_false', Bool.or_eq_true, Bool.and_eq_true, Bool.or_eq_false_iff, Bool.and_eq_false_iff, decide_eq_true_eq, decide_eq_false_iff_not, Decidable.not_not, Int.not_lt, Int.not_le, Bool.not_true, Bool.not_false, Bool.true_and, Bool.and_true, Bool.false_or, Bool.or_false, Bool.true_or, Bool.false_and, bne_eq_false_iff_eq, bne_iff_ne, beq_iff_eq, beq_eq_false_iff_ne, decide_eq_decide] at hp_)))
    refine q5
    (apply spec_f; exact rfl; exact rfl)
    (refine im_any fun hc_ => ?_; try have hc1_ := (band hc_).1)
    refine q8
    (apply spec_f; exact rfl; exact rfl)
    (refine im_any fun hc_ => ?_; try have hc1_ := (band hc_).1)
    refine q6
    (apply spec_f; exact rfl; exact rfl)
    (refine im_any fun hc_ => ?_; try have hc1_ := (band hc_).1)
    refine q7; refine q0 ?_; refine q11 ?_
    (apply spec_f; exact rfl; exact rfl)
    (refine im_any fun hc_ => ?_; try have hc1_ := (band hc_).1)
    refine q8
    (apply spec_f; exact rfl; exact rfl)
    (refine im_any fun hc_ => ?_; try have hc1_ := (band hc_).1)
    refine q6
    (apply spec_f; exact rfl; exact rfl)
    (refine im_any fun hc_ => ?_; try have hc1_ := (band hc_).1)
    refine q1
    (apply spec_f; exact rfl; exact rfl)
    (refine im_any fun hc_ => ?_; try have hc1_ := (band hc_).1)
    ((have hp_ := hc_; (try simp only [Bool.not_eq_true', Bool.not_eq_false', Bool.or_eq_true, Bool.and_eq_true, Bool.or_eq_false_iff, Bool.and_eq_false_iff, decide_eq_true_eq, decide_eq_false_iff_not, Decidable.not_not, Int.not_lt, Int.not_le, Bool.not_true, Bool.not_false, Bool.true_and, Bool.and_true, Bool.false_or, Bool.or_false, Bool.true_or, Bool.false_and, bne_eq_false_iff_eq, bne_iff_ne, beq_iff_eq, beq_eq_false_iff_ne, decide_eq_decide] at hp_)))
    refine q5
    (apply spec_f; exact rfl; exact rfl)
    (refine im_any fun hc_ => ?_; try have hc1_ := (band hc_).1)
    refine q8
    (apply spec_f; exact rfl; exact rfl)
    (refine im_any fun hc_ => ?_; try have hc1_ := (band hc_).1)
    refine q6
    (apply spec_f; exact rfl; exact rfl)
    (refine im_any fun hc_ => ?_; try have hc1_ := (band hc_).1)
    refine q7; refine q0 ?_; refine ao_nil ?_; refine then_n ?_
    (apply awp_cond; exact rfl)
    (refine im_ot (fun hc_ => ?_); (try simp only [Bool.not_eq_true', Bool.not_eq_false', Bool.or_eq_true, Bool.and_eq_true, Bool.or_eq_false_iff, Bool.and_eq_false_iff, decide_eq_true_eq, decide_eq_false_iff_not, Decidable.not_not, Int.not_lt, Int.not_le, Bool.not_true, Bool.not_false, Bool.true_and, Bool.and_true, Bool.false_or, Bool.or_false, Bool.true_or, Bool.false_and, bne_eq_false_iff_eq, bne_iff_ne, beq_iff_eq, beq_eq_false_iff_ne, decide_eq_decide] at hc_))
    refine awp_seq ?_
    (refine ao_region ?_ (fun _ => ?_); exact rfl)
    refine q12 ?_; refine ao_nil ?_; refine then_n ?_; refine awp_ret ?_; refine then_r ?_
    rotate_left
    iterate 2 refine im_of ?_
    refine im_bf ?_
    exact im_ft
    refine done_b rfl ?_
    unfold ruleB
    rw [hq]; rfl
  | true =>
  rw [hpb] at hpo hq
  by_cases ka : (x.evs.getD (a : Int).toNat default).kind = 4
  · refine awp_seq ?_
    (refine ao_region ?_ (fun _ => ?_); exact rfl)
    refine q34 ?_; refine q12 ?_; refine ao_nil ?_; refine then_n ?_
    iterate 2 refine awp_seq ?_
    (refine ao_region ?_ (fun _ => ?_); exact rfl)
    refine q33 ?_
    iterate 2 refine q11 ?_
    ((first
      | (apply S_call; exact rfl; exact .fn _ _ _; exact rfl; (first | exact hpo | exact rstores_p _ | exact rloads_p _ | exact rstrong_p _ | exact rpaired_p x hx b hb | exact at_p _ _ (by first | exact (hx.small _).1 | exact (hx.small _).2.1 | exact (hx.small _).2.2) | exact rin_p _ _ (hx.sets _).1 (hx.sets _).2.1 | exact rin_p _ _ (hx.sets _).2.2.1 (hx.sets _).2.2.2))
      | (apply D_call; exact rfl; exact .fn _ _ _; exact rfl; (first | exact hpo | exact rstores_p _ | exact rloads_p _ | exact rstrong_p _ | exact rpaired_p x hx b hb | exact at_p _ _ (by first | exact (hx.small _).1 | exact (hx.small _).2.1 | exact (hx.small _).2.2) | exact rin_p _ _ (hx.sets _).1 (hx.sets _).2.1 | exact rin_p _ _ (hx.sets _).2.2.1 (hx.sets _).2.2.2))))
    (apply S_not; exact rfl)
    refine q11 ?_
    (apply spec_f; exact rfl; exact rfl)
    (refine im_any fun hc_ => ?_; try have hc1_ := (band hc_).1)
    refine q8
    (apply spec_f; exact rfl; exact rfl)
    (refine im_any fun hc_ => ?_; try have hc1_ := (band hc_).1)
    refine q6
    (apply spec_f; exact rfl; exact rfl)
    (refine im_any fun hc_ => ?_; try have hc1_ := (band hc_).1)
    refine q1
    (apply spec_f; exact rfl; exact rfl)
    (refine im_any fun hc_ => ?_; try have hc1_ := (band hc_).1)
    ((have hp_ := hc_; (try simp only [Bool.not_eq_true', Bool.not_eq_false', Bool.or_eq_true, Bool.and_eq_true, Bool.or_eq_false_iff, Bool.and_eq_false_iff, decide_eq_true_eq, decide_eq_false_iff_not, Decidable.not_not, Int.not_lt, Int.not_le, Bool.not_true, Bool.not_false, Bool.true_and, Bool.and_true, Bool.false_or, Bool.or_false, Bool.true_or, Bool.false_and, bne_eq_false_iff_eq, bne_iff_ne, beq_iff_eq, beq_eq_false_iff_ne, decide_eq_decide] at hp_)))
    refine q5
    (apply spec_f; exact rfl; exact rfl)
    (refine im_any fun hc_ => ?_; try have hc1_ := (band hc_).1)
    refine q8
    (apply spec_f; exact rfl; exact rfl)
    (refine im_any fun hc_ => ?_; try have hc1_ := (band hc_).1)
    refine q6
    (apply spec_f; exact rfl; exact rfl)
    (refine im_any fun hc_ => ?_; try have hc1_ := (band hc_).1)
    refine q7; refine q0 ?_; refine q11 ?_
    (apply spec_f; exact rfl; exact rfl)
    (refine im_any fun hc_ => ?_; try have hc1_ := (band hc_).1)
    refine q8
    (apply spec_f; exact rfl; exact rfl)
    (refine im_any fun hc_ => ?_; try have hc1_ := (band hc_).1)
    refine q6
    (apply spec_f; exact rfl; exact rfl)
    (refine im_any fun hc_ => ?_; try have hc1_ := (band hc_).1)
    refine q1
    (apply spec_f; exact rfl; exact rfl)
    (refine im_any fun hc_ => ?_; try have hc1_ := (band hc_).1)
    ((have hp_ := hc_; (try simp only [Bool.not_eq_true', Bool.not_eq_false', Bool.or_eq_true, Bool.and_eq_true, Bool.or_eq_false_iff, Bool.and_eq_false_iff, decide_eq_true_eq, decide_eq_false_iff_not, Decidable.not_not, Int.not_lt, Int.not_le, Bool.not_true, Bool.not_false, Bool.true_and, Bool.and_true, Bool.false_or, Bool.or_false, Bool.true_or, Bool.false_and, bne_eq_false_iff_eq, bne_iff_ne, beq_iff_eq, beq_eq_false_iff_ne, decide_eq_decide] at hp_)))
    refine q5
    (apply spec_f; exact rfl; exact rfl)
    (refine im_any fun hc_ => ?_; try have hc1_ := (band hc_).1)
    refine q8
    (apply spec_f; exact rfl; exact rfl)
    (refine im_any fun hc_ => ?_; try have hc1_ := (band hc_).1)
    refine q6
    (apply spec_f; exact rfl; exact rfl)
    (refine im_any fun hc_ => ?_; try have hc1_ := (band hc_).1)
    refine q7; refine q0 ?_; refine ao_nil ?_; refine then_n ?_
    (apply awp_cond; exact rfl)
    (refine im_ot (fun hc_ => ?_); (try simp only [Bool.not_eq_true', Bool.not_eq_false', Bool.or_eq_true, Bool.and_eq_true, Bool.or_eq_false_iff, Bool.and_eq_false_iff, decide_eq_true_eq, decide_eq_false_iff_not, Decidable.not_not, Int.not_lt, Int.not_le, Bool.not_true, Bool.not_false, Bool.true_and, Bool.and_true, Bool.false_or, Bool.or_false, Bool.true_or, Bool.false_and, bne_eq_false_iff_eq, bne_iff_ne, beq_iff_eq, beq_eq_false_iff_ne, decide_eq_decide] at hc_))
    refine awp_seq ?_
    (refine ao_region ?_ (fun _ => ?_); exact rfl)
    refine q12 ?_; refine ao_nil ?_; refine then_n ?_; refine awp_ret ?_; refine then_r ?_
    rotate_left
    iterate 2 refine im_of ?_
    refine im_bf ?_; refine im_tt ?_
    (refine im_df (fun _ => ?_); (try (exfalso; omega)))
    refine done_b rfl ?_
    have ka' : (x.evs.getD a default).kind = 4 := ka
    unfold ruleB
    rw [hq, decide_eq_true ka']; rfl
  by_cases kb : (x.evs.getD (b : Int).toNat default).kind = 4
  · refine awp_seq ?_
    (refine ao_region ?_ (fun _ => ?_); exact rfl)
    refine q34 ?_; refine q12 ?_; refine ao_nil ?_; refine then_n ?_
    iterate 2 refine awp_seq ?_
    (refine ao_region ?_ (fun _ => ?_); exact rfl)
    refine q33 ?_
    iterate 2 refine q11 ?_
    ((first
      | (apply S_call; exact rfl; exact .fn _ _ _; exact rfl; (first | exact hpo | exact rstores_p _ | exact rloads_p _ | exact rstrong_p _ | exact rpaired_p x hx b hb | exact at_p _ _ (by first | exact (hx.small _).1 | exact (hx.small _).2.1 | exact (hx.small _).2.2) | exact rin_p _ _ (hx.sets _).1 (hx.sets _).2.1 | exact rin_p _ _ (hx.sets _).2.2.1 (hx.sets _).2.2.2))
      | (apply D_call; exact rfl; exact .fn _ _ _; exact rfl; (first | exact hpo | exact rstores_p _ | exact rloads_p _ | exact rstrong_p _ | exact rpaired_p x hx b hb | exact at_p _ _ (by first | exact (hx.small _).1 | exact (hx.small _).2.1 | exact (hx.small _).2.2) | exact rin_p _ _ (hx.sets _).1 (hx.sets _).2.1 | exact rin_p _ _ (hx.sets _).2.2.1 (hx.sets _).2.2.2))))
    (apply S_not; exact rfl)
    refine q11 ?_
    (apply spec_f; exact rfl; exact rfl)
    (refine im_any fun hc_ => ?_; try have hc1_ := (band hc_).1)
    refine q8
    (apply spec_f; exact rfl; exact rfl)
    (refine im_any fun hc_ => ?_; try have hc1_ := (band hc_).1)
    refine q6
    (apply spec_f; exact rfl; exact rfl)
    (refine im_any fun hc_ => ?_; try have hc1_ := (band hc_).1)
    refine q1
    (apply spec_f; exact rfl; exact rfl)
    (refine im_any fun hc_ => ?_; try have hc1_ := (band hc_).1)
    ((have hp_ := hc_; (try simp only [Bool.not_eq_true', Bool.not_eq_false', Bool.or_eq_true, Bool.and_eq_true, Bool.or_eq_false_iff, Bool.and_eq_false_iff, decide_eq_true_eq, decide_eq_false_iff_not, Decidable.not_not, Int.not_lt, Int.not_le, Bool.not_true, Bool.not_false, Bool.true_and, Bool.and_true, Bool.false_or, Bool.or_false, Bool.true_or, Bool.false_and, bne_eq_false_iff_eq, bne_iff_ne, beq_iff_eq, beq_eq_false_iff_ne, decide_eq_decide] at hp_)))
    refine q5
    (apply spec_f; exact rfl; exact rfl)
    (refine im_any fun hc_ => ?_; try have hc1_ := (band hc_).1)
    refine q8
    (apply spec_f; exact rfl; exact rfl)
    (refine im_any fun hc_ => ?_; try have hc1_ := (band hc_).1)
    refine q6
    (apply spec_f; exact rfl; exact rfl)
    (refine im_any fun hc_ => ?_; try have hc1_ := (band hc_).1)
    refine q7; refine q0 ?_; refine q11 ?_
    (apply spec_f; exact rfl; exact rfl)
    (refine im_any fun hc_ => ?_; try have hc1_ := (band hc_).1)
    refine q8
    (apply spec_f; exact rfl; exact rfl)
    (refine im_any fun hc_ => ?_; try have hc1_ := (band hc_).1)
    refine q6
    (apply spec_f; exact rfl; exact rfl)
    (refine im_any fun hc_ => ?_; try have hc1_ := (band hc_).1)
    refine q1
    (apply spec_f; exact rfl; exact rfl)
    (refine im_any fun hc_ => ?_; try have hc1_ := (band hc_).1)
    ((have hp_ := hc_; (try simp only [Bool.not_eq_true', Bool.not_eq_false', Bool.or_eq_true, Bool.and_eq_true, Bool.or_eq_false_iff, Bool.and_eq_false_iff, decide_eq_true_eq, decide_eq_false_iff_not, Decidable.not_not, Int.not_lt, Int.not_le, Bool.not_true, Bool.not_false, Bool.true_and, Bool.and_true, Bool.false_or, Bool.or_false, Bool.true_or, Bool.false_and, bne_eq_false_iff_eq, bne_iff_ne, beq_iff_eq, beq_eq_false_iff_ne, decide_eq_decide] at hp_)))
    refine q5
    (apply spec_f; exact rfl; exact rfl)
    (refine im_any fun hc_ => ?_; try have hc1_ := (band hc_).1)
    refine q8
    (apply spec_f; exact rfl; exact rfl)
    (refine im_any fun hc_ => ?_; try have hc1_ := (band hc_).1)
    refine q6
    (apply spec_f; exact rfl; exact rfl)
    (refine im_any fun hc_ => ?_; try have hc1_ := (band hc_).1)
    refine q7; refine q0 ?_; refine ao_nil ?_; refine then_n ?_
    (apply awp_cond; exact rfl)
    (refine im_ot (fun hc_ => ?_); (try simp only [Bool.not_eq_true', Bool.not_eq_false', Bool.or_eq_true, Bool.and_eq_true, Bool.or_eq_false_iff, Bool.and_eq_false_iff, decide_eq_true_eq, decide_eq_false_iff_not, Decidable.not_not, Int.not_lt, Int.not_le, Bool.not_true, Bool.not_false, Bool.true_and, Bool.and_true, Bool.false_or, Bool.or_false, Bool.true_or, Bool.false_and, bne_eq_false_iff_eq, bne_iff_ne, beq_iff_eq, beq_eq_false_iff_ne, decide_eq_decide] at hc_))
    refine awp_seq ?_
    (refine ao_region ?_ (fun _ => ?_); exact rfl)
    refine q12 ?_; refine ao_nil ?_; refine then_n ?_; refine awp_ret ?_; refine then_r ?_
    rotate_left
    iterate 2 refine im_of ?_
    refine im_bf ?_; refine im_tt ?_
    iterate 2 (refine im_df (fun _ => ?_); (try (exfalso; omega)))
    refine done_b rfl ?_
    have kb' : (x.evs.getD b default).kind = 4 := kb
    unfold ruleB
    rw [hq, decide_eq_true kb', Bool.not_true, Bool.and_false]; rfl
  have ka' : ¬ (x.evs.getD a default).kind = 4 := ka
  have kb' : ¬ (x.evs.getD b default).kind = 4 := kb
  have hR : ruleB x r a b = ruleR x r a b := by
    unfold ruleB
    rw [hq, decide_eq_false ka', decide_eq_false kb']; rfl
  rw [hR]
  refine awp_seq ?_
  (refine ao_region ?_ (fun _ => ?_); exact rfl)
  refine q34 ?_; refine q12 ?_; refine ao_nil ?_; refine then_n ?_
  iterate 2 refine awp_seq ?_
  (refine ao_region ?_ (fun _ => ?_); exact rfl)
  refine q33 ?_
  iterate 2 refine q11 ?_
  ((first
    | (apply S_call; exact rfl; exact .fn _ _ _; exact rfl; (first | exact hpo | exact rstores_p _ | exact rloads_p _ | exact rstrong_p _ | exact rpaired_p x hx b hb | exact at_p _ _ (by first | exact (hx.small _).1 | exact (hx.small _).2.1 | exact (hx.small _).2.2) | exact rin_p _ _ (hx.sets _).1 (hx.sets _).2.1 | exact rin_p _ _ (hx.sets _).2.2.1 (hx.sets _).2.2.2))
    | (apply D_call; exact rfl; exact .fn _ _ _; exact rfl; (first | exact hpo | exact rstores_p _ | exact rloads_p _ | exact rstrong_p _ | exact rpaired_p x hx b hb | exact at_p _ _ (by first | exact (hx.small _).1 | exact (hx.small _).2.1 | exact (hx.small _).2.2) | exact rin_p _ _ (hx.sets _).1 (hx.sets _).2.1 | exact rin_p _ _ (hx.sets _).2.2.1 (hx.sets _).2.2.2))))
  (apply S_not; exact rfl)
  refine q11 ?_
  (apply spec_f; exact rfl; exact rfl)
  (refine im_any fun hc_ => ?_; try have hc1_ := (band hc_).1)
  refine q8
  (apply spec_f; exact rfl; exact rfl)
  (refine im_any fun hc_ => ?_; try have hc1_ := (band hc_).1)
  refine q6
  (apply spec_f; exact rfl; exact rfl)
  (refine im_any fun hc_ => ?_; try have hc1_ := (band hc_).1)
  refine q1
  (apply spec_f; exact rfl; exact rfl)
  (refine im_any fun hc_ => ?_; try have hc1_ := (band hc_).1)
  ((have hp_ := hc_; (try simp only [Bool.not_eq_true', Bool.not_eq_false', Bool.or_eq_true, Bool.and_eq_true, Bool.or_eq_false_iff, Bool.and_eq_false_iff, decide_eq_true_eq, decide_eq_false_iff_not, Decidable.not_not, Int.not_lt, Int.not_le, Bool.not_true, Bool.not_false, Bool.true_and, Bool.and_true, Bool.false_or, Bool.or_false, Bool.true_or, Bool.false_and, bne_eq_false_iff_eq, bne_iff_ne, beq_iff_eq, beq_eq_false_iff_ne, decide_eq_decide] at hp_)))
  refine q5
  (apply spec_f; exact rfl; exact rfl)
  (refine im_any fun hc_ => ?_; try have hc1_ := (band hc_).1)
  refine q8
  (apply spec_f; exact rfl; exact rfl)
  (refine im_any fun hc_ => ?_; try have hc1_ := (band hc_).1)
  refine q6
  (apply spec_f; exact rfl; exact rfl)
  (refine im_any fun hc_ => ?_; try have hc1_ := (band hc_).1)
  refine q7; refine q0 ?_; refine q11 ?_
  (apply spec_f; exact rfl; exact rfl)
  (refine im_any fun hc_ => ?_; try have hc1_ := (band hc_).1)
  refine q8
  (apply spec_f; exact rfl; exact rfl)
  (refine im_any fun hc_ => ?_; try have hc1_ := (band hc_).1)
  refine q6
  (apply spec_f; exact rfl; exact rfl)
  (refine im_any fun hc_ => ?_; try have hc1_ := (band hc_).1)
  refine q1
  (apply spec_f; exact rfl; exact rfl)
  (refine im_any fun hc_ => ?_; try have hc1_ := (band hc_).1)
  ((have hp_ := hc_; (try simp only [Bool.not_eq_true', Bool.not_eq_false', Bool.or_eq_true, Bool.and_eq_true, Bool.or_eq_false_iff, Bool.and_eq_false_iff, decide_eq_true_eq, decide_eq_false_iff_not, Decidable.not_not, Int.not_lt, Int.not_le, Bool.not_true, Bool.not_false, Bool.true_and, Bool.and_true, Bool.false_or, Bool.or_false, Bool.true_or, Bool.false_and, bne_eq_false_iff_eq, bne_iff_ne, beq_iff_eq, beq_eq_false_iff_ne, decide_eq_decide] at hp_)))
  refine q5
  (apply spec_f; exact rfl; exact rfl)
  (refine im_any fun hc_ => ?_; try have hc1_ := (band hc_).1)
  refine q8
  (apply spec_f; exact rfl; exact rfl)
  (refine im_any fun hc_ => ?_; try have hc1_ := (band hc_).1)
  refine q6
  (apply spec_f; exact rfl; exact rfl)
  (refine im_any fun hc_ => ?_; try have hc1_ := (band hc_).1)
  refine q7; refine q0 ?_; refine ao_nil ?_; refine then_n ?_
  (apply awp_cond; exact rfl)
  (refine im_ot (fun hc_ => ?_); (try simp only [Bool.not_eq_true', Bool.not_eq_false', Bool.or_eq_true, Bool.and_eq_true, Bool.or_eq_false_iff, Bool.and_eq_false_iff, decide_eq_true_eq, decide_eq_false_iff_not, Decidable.not_not, Int.not_lt, Int.not_le, Bool.not_true, Bool.not_false, Bool.true_and, Bool.and_true, Bool.false_or, Bool.or_false, Bool.true_or, Bool.false_and, bne_eq_false_iff_eq, bne_iff_ne, beq_iff_eq, beq_eq_false_iff_ne, decide_eq_decide] at hc_))
  refine awp_seq ?_
  (refine ao_region ?_ (fun _ => ?_); exact rfl)
  refine q12 ?_; refine ao_nil ?_; refine then_n ?_; refine awp_ret ?_; refine then_r ?_
  rotate_left
  iterate 2 refine im_of ?_
  refine im_bf ?_; refine im_tt ?_
  iterate 2 (refine im_df (fun _ => ?_); (try (exfalso; omega)))
  refine awp_skip ?_; refine then_n ?_; refine awp_seq ?_
  (refine do_region (E := E) ?_ (fun _ => ?_); exact rfl)
  refine q52 ?_; refine q50 ?_; refine q38 ?_; refine q30 ?_
  (apply D_load_ptA; exact rfl; exact rfl; exact rfl; exact Nat.le_of_ble_eq_true rfl)
  refine q52 ?_; refine q50 ?_; refine q38 ?_; refine q30 ?_
  (apply D_load_ptA; exact rfl; exact rfl; exact rfl; exact Nat.le_of_ble_eq_true rfl)
  iterate 2 (apply D_alloc; exact rfl)
  iterate 2 (apply D_store; exact rfl; exact rfl; exact rfl; exact rfl; exact rfl; exact rfl; (first | exact rfl | exact get_map (by omega) (0 : Int) | exact get_map (by omega) default | exact get_set_ne (by omega) (by omega) (0 : Int) | assumption); exact Nat.le_of_ble_eq_true rfl)
  (refine do_nil ?_ ?_; (first | ((try dsimp only [wkeys]); decide +kernel) | exact rfl))
  refine then_n ?_; refine awp_seq ?_
  (refine ao_region ?_ (fun _ => ?_); exact rfl)
  refine q28 ?_; refine q16 ?_; refine q28 ?_; refine q16 ?_; refine q46 ?_; refine q12 ?_; refine ao_nil ?_; refine then_n ?_
  iterate 2 refine awp_seq ?_
  (refine ao_region ?_ (fun _ => ?_); exact rfl)
  refine q11 ?_; refine ao_nil ?_; refine then_n ?_; refine awp_block ?_; refine awp_seq ?_
  (refine ao_region ?_ (fun _ => ?_); exact rfl)
  refine q46 ?_; refine q12 ?_; refine ao_nil ?_; refine then_n ?_
  (apply awp_cond; exact rfl)
  (refine im_dt (fun _ => ?_); (try (exfalso; omega)))
  refine awp_seq ?_
  (refine ao_region ?_ (fun _ => ?_); exact rfl)
  iterate 2 refine q11 ?_
  (apply spec_t; exact rfl; exact rfl)
  (refine im_any fun hc_ => ?_; try have hc1_ := (band hc_).1)
  refine q27
  (apply spec_t; exact rfl; exact rfl)
  (refine im_any fun hc_ => ?_; try have hc1_ := (band hc_).1)
  ((have hp_ := hc_; (try simp only [Bool.not_eq_true', Bool.not_eq_false', Bool.or_eq_true, Bool.and_eq_true, Bool.or_eq_false_iff, Bool.and_eq_false_iff, decide_eq_true_eq, decide_eq_false_iff_not, Decidable.not_not, Int.not_lt, Int.not_le, Bool.not_true, Bool.not_false, Bool.true_and, Bool.and_true, Bool.false_or, Bool.or_false, Bool.true_or, Bool.false_and, bne_eq_false_iff_eq, bne_iff_ne, beq_iff_eq, beq_eq_false_iff_ne, decide_eq_decide] at hp_)))
  ((apply M_call; exact .plain rfl rfl; exact .fn _ _ _; (repeat (first | exact EvsM.nil | (apply EvsM.cons; first | (refine EvM.mb _ rfl ?_; first | assumption | exact rfl) | exact EvM.plain rfl rfl))); (first | exact hpo | exact rstores_p _ | exact rloads_p _ | exact rstrong_p _ | exact rpaired_p x hx b hb | exact at_p _ _ (by first | exact (hx.small _).1 | exact (hx.small _).2.1 | exact (hx.small _).2.2) | exact rin_p _ _ (hx.sets _).1 (hx.sets _).2.1 | exact rin_p _ _ (hx.sets _).2.2.1 (hx.sets _).2.2.2)))
  refine q4 ?_; refine q12 ?_; refine ao_nil ?_; refine then_n ?_; refine awp_ret ?_; refine blk_r ?_; refine then_r ?_
  rotate_left
  (refine im_df (fun _ => ?_); (try (exfalso; omega)))
  refine awp_seq ?_
  (refine ao_region ?_ (fun _ => ?_); exact rfl)
  refine q46 ?_; refine q12 ?_; refine ao_nil ?_; refine then_n ?_
  (apply awp_cond; exact rfl)
  (refine im_dt (fun _ => ?_); (try (exfalso; omega)))
  refine awp_seq ?_
  (refine ao_region ?_ (fun _ => ?_); exact rfl)
  refine q28 ?_; refine q16 ?_; refine q46 ?_; refine q11 ?_
  (apply spec_f; exact rfl; exact rfl)
  (refine im_any fun hc_ => ?_; try have hc1_ := (band hc_).1)
  refine q2
  (apply spec_f; exact rfl; exact rfl)
  (refine im_any fun hc_ => ?_; try have hc1_ := (band hc_).1)
  refine q3
  (apply spec_f; exact rfl; exact rfl)
  (refine im_any fun hc_ => ?_; try have hc1_ := (band hc_).1)
  refine q7
  (apply spec_f; exact rfl; exact rfl)
  (refine im_any fun hc_ => ?_; try have hc1_ := (band hc_).1)
  refine q1
  (apply spec_mt; exact rfl; exact rfl)
  (refine im_any fun hc_ => ?_; try have hc1_ := (band hc_).1)
  refine q2
  (apply spec_mt; exact rfl; exact rfl)
  (refine im_any fun hc_ => ?_; try have hc1_ := (band hc_).1)
  refine q3
  (apply spec_f; exact rfl; exact rfl)
  (refine im_any fun hc_ => ?_; try have hc1_ := (band hc_).1)
  refine q10; refine q0 ?_; refine q11 ?_
  (apply spec_t; exact rfl; exact rfl)
  (refine im_any fun hc_ => ?_; try have hc1_ := (band hc_).1)
  refine q8
  (apply spec_t; exact rfl; exact rfl)
  (refine im_any fun hc_ => ?_; try have hc1_ := (band hc_).1)
  refine q6
  (apply spec_t; exact rfl; exact rfl)
  (refine im_any fun hc_ => ?_; try have hc1_ := (band hc_).1)
  refine q1
  (apply spec_t; exact rfl; exact rfl)
  (refine im_any fun hc_ => ?_; try have hc1_ := (band hc_).1)
  ((have hp_ := hc_; (try simp only [Bool.not_eq_true', Bool.not_eq_false', Bool.or_eq_true, Bool.and_eq_true, Bool.or_eq_false_iff, Bool.and_eq_false_iff, decide_eq_true_eq, decide_eq_false_iff_not, Decidable.not_not, Int.not_lt, Int.not_le, Bool.not_true, Bool.not_false, Bool.true_and, Bool.and_true, Bool.false_or, Bool.or_false, Bool.true_or, Bool.false_and, bne_eq_false_iff_eq, bne_iff_ne, beq_iff_eq, beq_eq_false_iff_ne, decide_eq_decide] at hp_)))
  refine q5
  (apply spec_t; exact rfl; exact rfl)
  (refine im_any fun hc_ => ?_; try have hc1_ := (band hc_).1)
  refine q6
  (apply spec_t; exact rfl; exact rfl)
  (refine im_any fun hc_ => ?_; try have hc1_ := (band hc_).1)
  refine q1
  (apply spec_t; exact rfl; exact rfl)
  (refine im_any fun hc_ => ?_; try have hc1_ := (band hc_).1)
  refine q7; refine q4 ?_; refine q12 ?_; refine ao_nil ?_; refine then_n ?_; refine awp_ret ?_; refine blk_r ?_; refine then_r ?_
  rotate_left
  (refine im_df (fun _ => ?_); (try (exfalso; omega)))
  refine awp_seq ?_
  (refine ao_region ?_ (fun _ => ?_); exact rfl)
  refine q46 ?_; refine q12 ?_; refine ao_nil ?_; refine then_n ?_
  (apply awp_cond; exact rfl)
  (refine im_dt (fun _ => ?_); (try (exfalso; omega)))
  refine awp_seq ?_
  (refine ao_region ?_ (fun _ => ?_); exact rfl)
  refine q28 ?_; refine q16 ?_; refine q12 ?_; refine ao_nil ?_; refine then_n ?_; refine awp_ret ?_; refine blk_r ?_; refine then_r ?_
  rotate_left
  (refine im_df (fun _ => ?_); (try (exfalso; omega)))
  refine awp_seq ?_
  (refine ao_region ?_ (fun _ => ?_); exact rfl)
  refine q46 ?_; refine q12 ?_; refine ao_nil ?_; refine then_n ?_
  (apply awp_cond; exact rfl)
  (refine im_dt (fun _ => ?_); (try (exfalso; omega)))
  refine awp_seq ?_
  (refine ao_region ?_ (fun _ => ?_); exact rfl)
  refine q28 ?_; refine q16 ?_; refine q12 ?_; refine ao_nil ?_; refine then_n ?_; refine awp_ret ?_; refine blk_r ?_; refine then_r ?_
  rotate_left
  (refine im_df (fun _ => ?_); (try (exfalso; omega)))
  refine awp_seq ?_
  (refine ao_region ?_ (fun _ => ?_); exact rfl)
  refine q46 ?_; refine q12 ?_; refine ao_nil ?_; refine then_n ?_
  (apply awp_cond; exact rfl)
  (refine im_dt (fun _ => ?_); (try (exfalso; omega)))
  refine awp_seq ?_
  (refine ao_region ?_ (fun _ => ?_); exact rfl)
  refine q14 ?_
  ((first
    | (apply S_call; exact rfl; exact .fn _ _ _; exact rfl; (first | exact hpo | exact rstores_p _ | exact rloads_p _ | exact rstrong_p _ | exact rpaired_p x hx b hb | exact at_p _ _ (by first | exact (hx.small _).1 | exact (hx.small _).2.1 | exact (hx.small _).2.2) | exact rin_p _ _ (hx.sets _).1 (hx.sets _).2.1 | exact rin_p _ _ (hx.sets _).2.2.1 (hx.sets _).2.2.2))
    | (apply D_call; exact rfl; exact .fn _ _ _; exact rfl; (first | exact hpo | exact rstores_p _ | exact rloads_p _ | exact rstrong_p _ | exact rpaired_p x hx b hb | exact at_p _ _ (by first | exact (hx.small _).1 | exact (hx.small _).2.1 | exact (hx.small _).2.2) | exact rin_p _ _ (hx.sets _).1 (hx.sets _).2.1 | exact rin_p _ _ (hx.sets _).2.2.1 (hx.sets _).2.2.2))))
  refine q11 ?_
  (apply spec_t; exact rfl; exact rfl)
  (refine im_any fun hc_ => ?_; try have hc1_ := (band hc_).1)
  refine q27
  (apply spec_t; exact rfl; exact rfl)
  (refine im_any fun hc_ => ?_; try have hc1_ := (band hc_).1)
  ((have hp_ := hc_; (try simp only [Bool.not_eq_true', Bool.not_eq_false', Bool.or_eq_true, Bool.and_eq_true, Bool.or_eq_false_iff, Bool.and_eq_false_iff, decide_eq_true_eq, decide_eq_false_iff_not, Decidable.not_not, Int.not_lt, Int.not_le, Bool.not_true, Bool.not_false, Bool.true_and, Bool.and_true, Bool.false_or, Bool.or_false, Bool.true_or, Bool.false_and, bne_eq_false_iff_eq, bne_iff_ne, beq_iff_eq, beq_eq_false_iff_ne, decide_eq_decide] at hp_)))
  ((apply M_call; exact .plain rfl rfl; exact .fn _ _ _; (repeat (first | exact EvsM.nil | (apply EvsM.cons; first | (refine EvM.mb _ rfl ?_; first | assumption | exact rfl) | exact EvM.plain rfl rfl))); (first | exact hpo | exact rstores_p _ | exact rloads_p _ | exact rstrong_p _ | exact rpaired_p x hx b hb | exact at_p _ _ (by first | exact (hx.small _).1 | exact (hx.small _).2.1 | exact (hx.small _).2.2) | exact rin_p _ _ (hx.sets _).1 (hx.sets _).2.1 | exact rin_p _ _ (hx.sets _).2.2.1 (hx.sets _).2.2.2)))
  refine q4 ?_; refine q12 ?_; refine ao_nil ?_; refine then_n ?_; refine awp_ret ?_; refine blk_r ?_; refine then_r ?_
  rotate_left
  (refine im_df (fun _ => ?_); (try (exfalso; omega)))
  refine awp_seq ?_
  (refine ao_region ?_ (fun _ => ?_); exact rfl)
  refine q46 ?_; refine q12 ?_; refine ao_nil ?_; refine then_n ?_
  (apply awp_cond; exact rfl)
  (refine im_dt (fun _ => ?_); (try (exfalso; omega)))
  refine awp_seq ?_
  (refine ao_region ?_ (fun _ => ?_); exact rfl)
  refine q33 ?_; refine q11 ?_
  ((first
    | (apply S_call; exact rfl; exact .fn _ _ _; exact rfl; (first | exact hpo | exact rstores_p _ | exact rloads_p _ | exact rstrong_p _ | exact rpaired_p x hx b hb | exact at_p _ _ (by first | exact (hx.small _).1 | exact (hx.small _).2.1 | exact (hx.small _).2.2) | exact rin_p _ _ (hx.sets _).1 (hx.sets _).2.1 | exact rin_p _ _ (hx.sets _).2.2.1 (hx.sets _).2.2.2))
    | (apply D_call; exact rfl; exact .fn _ _ _; exact rfl; (first | exact hpo | exact rstores_p _ | exact rloads_p _ | exact rstrong_p _ | exact rpaired_p x hx b hb | exact at_p _ _ (by first | exact (hx.small _).1 | exact (hx.small _).2.1 | exact (hx.small _).2.2) | exact rin_p _ _ (hx.sets _).1 (hx.sets _).2.1 | exact rin_p _ _ (hx.sets _).2.2.1 (hx.sets _).2.2.2))))
  refine q11 ?_; refine q46 ?_; refine q12 ?_; refine ao_nil ?_; refine then_n ?_; refine awp_ret ?_; refine blk_r ?_; refine then_r ?_
  rotate_left
  (refine im_df (fun _ => ?_); (try (exfalso; omega)))
  refine awp_seq ?_
  (refine ao_region ?_ (fun _ => ?_); exact rfl)
  refine q46 ?_; refine q12 ?_; refine ao_nil ?_; refine then_n ?_
  (apply awp_cond; exact rfl)
  (refine im_dt (fun _ => ?_); (try (exfalso; omega)))
  refine awp_seq ?_
  (refine ao_region ?_ (fun _ => ?_); exact rfl)
  refine q28 ?_; refine q16 ?_; refine q11 ?_
  ((first
    | (apply S_call; exact rfl; exact .fn _ _ _; exact rfl; (first | exact hpo | exact rstores_p _ | exact rloads_p _ | exact rstrong_p _ | exact rpaired_p x hx b hb | exact at_p _ _ (by first | exact (hx.small _).1 | exact (hx.small _).2.1 | exact (hx.small _).2.2) | exact rin_p _ _ (hx.sets _).1 (hx.sets _).2.1 | exact rin_p _ _ (hx.sets _).2.2.1 (hx.sets _).2.2.2))
    | (apply D_call; exact rfl; exact .fn _ _ _; exact rfl; (first | exact hpo | exact rstores_p _ | exact rloads_p _ | exact rstrong_p _ | exact rpaired_p x hx b hb | exact at_p _ _ (by first | exact (hx.small _).1 | exact (hx.small _).2.1 | exact (hx.small _).2.2) | exact rin_p _ _ (hx.sets _).1 (hx.sets _).2.1 | exact rin_p _ _ (hx.sets _).2.2.1 (hx.sets _).2.2.2))))
  (apply S_geq; exact rfl; exact rfl)
  refine q12 ?_; refine ao_nil ?_; refine then_n ?_; refine awp_ret ?_; refine blk_r ?_; refine then_r ?_
  rotate_left
  (refine im_df (fun _ => ?_); (try (exfalso; omega)))
  refine awp_seq ?_
  (refine ao_region ?_ (fun _ => ?_); exact rfl)
  refine q46 ?_; refine q12 ?_; refine ao_nil ?_; refine then_n ?_
  (apply awp_cond; exact rfl)
  (refine im_dt (fun _ => ?_); (try (exfalso; omega)))
  refine awp_seq ?_
  (refine ao_region ?_ (fun _ => ?_); exact rfl)
  refine q28 ?_; refine q16 ?_; refine q11 ?_
  ((first
    | (apply S_call; exact rfl; exact .fn _ _ _; exact rfl; (first | exact hpo | exact rstores_p _ | exact rloads_p _ | exact rstrong_p _ | exact rpaired_p x hx b hb | exact at_p _ _ (by first | exact (hx.small _).1 | exact (hx.small _).2.1 | exact (hx.small _).2.2) | exact rin_p _ _ (hx.sets _).1 (hx.sets _).2.1 | exact rin_p _ _ (hx.sets _).2.2.1 (hx.sets _).2.2.2))
    | (apply D_call; exact rfl; exact .fn _ _ _; exact rfl; (first | exact hpo | exact rstores_p _ | exact rloads_p _ | exact rstrong_p _ | exact rpaired_p x hx b hb | exact at_p _ _ (by first | exact (hx.small _).1 | exact (hx.small _).2.1 | exact (hx.small _).2.2) | exact rin_p _ _ (hx.sets _).1 (hx.sets _).2.1 | exact rin_p _ _ (hx.sets _).2.2.1 (hx.sets _).2.2.2))))
  (apply S_geq; exact rfl; exact rfl)
  refine q12 ?_; refine ao_nil ?_; refine then_n ?_; refine awp_ret ?_; refine blk_r ?_; refine then_r ?_
  rotate_left
  (refine im_df (fun _ => ?_); (try (exfalso; omega)))
  refine awp_seq ?_
  (refine ao_region ?_ (fun _ => ?_); exact rfl)
  refine q46 ?_; refine q12 ?_; refine ao_nil ?_; refine then_n ?_
  (apply awp_cond; exact rfl)
  (refine im_dt (fun _ => ?_); (try (exfalso; omega)))
  refine awp_seq ?_
  (refine ao_region ?_ (fun _ => ?_); exact rfl)
  refine q14 ?_
  ((first
    | (apply S_call; exact rfl; exact .fn _ _ _; exact rfl; (first | exact hpo | exact rstores_p _ | exact rloads_p _ | exact rstrong_p _ | exact rpaired_p x hx b hb | exact at_p _ _ (by first | exact (hx.small _).1 | exact (hx.small _).2.1 | exact (hx.small _).2.2) | exact rin_p _ _ (hx.sets _).1 (hx.sets _).2.1 | exact rin_p _ _ (hx.sets _).2.2.1 (hx.sets _).2.2.2))
    | (apply D_call; exact rfl; exact .fn _ _ _; exact rfl; (first | exact hpo | exact rstores_p _ | exact rloads_p _ | exact rstrong_p _ | exact rpaired_p x hx b hb | exact at_p _ _ (by first | exact (hx.small _).1 | exact (hx.small _).2.1 | exact (hx.small _).2.2) | exact rin_p _ _ (hx.sets _).1 (hx.sets _).2.1 | exact rin_p _ _ (hx.sets _).2.2.1 (hx.sets _).2.2.2))))
  refine q11 ?_
  (apply spec_t; exact rfl; exact rfl)
  (refine im_any fun hc_ => ?_; try have hc1_ := (band hc_).1)
  refine q2
  (apply spec_t; exact rfl; exact rfl)
  (refine im_any fun hc_ => ?_; try have hc1_ := (band hc_).1)
  refine q3
  (apply spec_t; exact rfl; exact rfl)
  (refine im_any fun hc_ => ?_; try have hc1_ := (band hc_).1)
  refine q1
  (apply spec_t; exact rfl; exact rfl)
  (refine im_any fun hc_ => ?_; try have hc1_ := (band hc_).1)
  ((have hp_ := hc_; (try simp only [Bool.not_eq_true', Bool.not_eq_false', Bool.or_eq_true, Bool.and_eq_true, Bool.or_eq_false_iff, Bool.and_eq_false_iff, decide_eq_true_eq, decide_eq_false_iff_not, Decidable.not_not, Int.not_lt, Int.not_le, Bool.not_true, Bool.not_false, Bool.true_and, Bool.and_true, Bool.false_or, Bool.or_false, Bool.true_or, Bool.false_and, bne_eq_false_iff_eq, bne_iff_ne, beq_iff_eq, beq_eq_false_iff_ne, decide_eq_decide] at hp_)))
  ((apply M_call; exact .plain rfl rfl; exact .fn _ _ _; (repeat (first | exact EvsM.nil | (apply EvsM.cons; first | (refine EvM.mb _ rfl ?_; first | assumption | exact rfl) | exact EvM.plain rfl rfl))); (first | exact hpo | exact rstores_p _ | exact rloads_p _ | exact rstrong_p _ | exact rpaired_p x hx b hb | exact at_p _ _ (by first | exact (hx.small _).1 | exact (hx.small _).2.1 | exact (hx.small _).2.2) | exact rin_p _ _ (hx.sets _).1 (hx.sets _).2.1 | exact rin_p _ _ (hx.sets _).2.2.1 (hx.sets _).2.2.2)))
  (apply spec_t; exact rfl; exact rfl)
  (refine im_any fun hc_ => ?_; try have hc1_ := (band hc_).1)
  refine q21; refine q4 ?_; refine q12 ?_; refine ao_nil ?_; refine then_n ?_; refine awp_ret ?_; refine blk_r ?_; refine then_r ?_
  rotate_left
  (refine im_df (fun _ => ?_); (try (exfalso; omega)))
  refine awp_skip ?_; refine blk_n ?_; refine then_n ?_; refine awp_seq ?_
  (refine ao_region ?_ (fun _ => ?_); exact rfl)
  iterate 2 refine q12 ?_
  refine ao_nil ?_; refine then_n ?_
  iterate 2 refine awp_seq ?_
  (refine ao_region ?_ (fun _ => ?_); exact rfl)
  refine q11 ?_; refine q36 ?_; refine q12 ?_; refine ao_nil ?_; refine then_n ?_; refine awp_block ?_
  rotate_left
  · exfalso
    rcases hc_ with h9 | h9
    · exact ka h9
    · exact kb h9
  · rename_i hr _; subst hr; exact done_b rfl (by rw [ruleR, if_pos rfl]; exact Bool.and_comm _ _)
  · rename_i hr _; subst hr; exact done_b rfl rfl
  · rename_i hr _; subst hr; exact done_b rfl rfl
  · rename_i hr _; subst hr; exact done_b rfl rfl
  · rename_i hr _; subst hr; exact done_b rfl rfl
  · rename_i hr _; subst hr; exact done_b rfl rfl
  · rename_i hr _; subst hr; exact done_b rfl rfl
  · rename_i hr _; subst hr; exact done_b rfl rfl
  · rename_i hr _; subst hr; exact done_b rfl rfl
  rename_i v3 _ _ _ n1 _ n3 _ n5 _ n6 _ n7 _ n8 _ n9 _ n10 _ n11 _ _
  have hab : a < b := by
    unfold isPo at hpb
    simp only [Bool.and_eq_true, decide_eq_true_eq] at hpb
    exact hpb.1.1
  refine awp_loop (X := Nat × Bool × Bool) (fun p => tmL [(1, .int .i64 r), (2, .int .i64 a), (3, .int .i64 b), (4, .d (.pt (exRow x) 0)), (9, .lo 9 (v3, 10) 13 0 0), (10, .lo 10 (v3, 11) 13 0 0), (11, .bool (oneB (x.evs.getD a default) (x.evs.getD b default))), (12, .bool p.2.1), (13, .bool p.2.2), (14, .int .i64 p.1)])
    (fun p => stL [(9, ((v3, 10), ⟨13, [(evTV (x.evs.getD a default)).map .d]⟩)), (10, ((v3, 11), ⟨13, [(evTV (x.evs.getD b default)).map .d]⟩))])
    (fun p => a < p.1 ∧ p.1 ≤ b ∧ p.2.1 = !someB a p.1 (clrB x a) ∧ p.2.2 = someB a p.1 (hitR x r a b)) (fun p => b - p.1) (a + 1, true, false) ⟨by dsimp only; omega, hab, by dsimp only; rw [someB_none (Nat.le_refl _)]; rfl, by dsimp only; rw [someB_none (Nat.le_refl _)]⟩ (by repeat' (first | exact le_nil _ | exact sle_nil _ | refine le_cons rfl ?_ | refine sle_cons rfl ?_)) (by repeat' (first | exact le_nil _ | exact sle_nil _ | refine le_cons rfl ?_ | refine sle_cons rfl ?_)) ?_
  rintro ⟨m, c, s⟩ ⟨ham, hm, hc, hs⟩
  dsimp only at ham hm hc hs ⊢
  by_cases hmb : m < b
  · iterate 2 refine awp_seq ?_
    (refine ao_region ?_ (fun _ => ?_); exact rfl)
    iterate 2 refine q11 ?_
    refine q37 ?_; refine ao_nil ?_; refine then_n ?_
    (apply awp_cond; exact rfl)
    (refine im_dt (fun _ => ?_); (try (exfalso; omega)))
    refine awp_skip ?_; refine then_n ?_; refine awp_seq ?_; refine awp_block ?_; refine awp_seq ?_
    (refine ao_region ?_ (fun _ => ?_); exact rfl)
    refine q32 ?_; refine q23 ?_; refine q11 ?_; refine q17 ?_; refine q33 ?_
    (apply S_alloc; exact rfl)
    refine q15 ?_; refine ao_nil ?_; refine then_n ?_; refine awp_seq ?_
    (refine ao_region ?_ (fun _ => ?_); exact rfl)
    iterate 2 refine q11 ?_
    (apply spec_t; exact rfl; exact rfl)
    (refine im_any fun hc_ => ?_; try have hc1_ := (band hc_).1)
    refine q27
    (apply spec_t; exact rfl; exact rfl)
    (refine im_any fun hc_ => ?_; try have hc1_ := (band hc_).1)
    ((have hp_ := hc_; (try simp only [Bool.not_eq_true', Bool.not_eq_false', Bool.or_eq_true, Bool.and_eq_true, Bool.or_eq_false_iff, Bool.and_eq_false_iff, decide_eq_true_eq, decide_eq_false_iff_not, Decidable.not_not, Int.not_lt, Int.not_le, Bool.not_true, Bool.not_false, Bool.true_and, Bool.and_true, Bool.false_or, Bool.or_false, Bool.true_or, Bool.false_and, bne_eq_false_iff_eq, bne_iff_ne, beq_iff_eq, beq_eq_false_iff_ne, decide_eq_decide] at hp_)))
    ((apply M_call; exact .plain rfl rfl; exact .fn _ _ _; (repeat (first | exact EvsM.nil | (apply EvsM.cons; first | (refine EvM.mb _ rfl ?_; first | assumption | exact rfl) | exact EvM.plain rfl rfl))); (first | exact hpo | exact rstores_p _ | exact rloads_p _ | exact rstrong_p _ | exact rpaired_p x hx b hb | exact at_p _ _ (by first | exact (hx.small _).1 | exact (hx.small _).2.1 | exact (hx.small _).2.2) | exact rin_p _ _ (hx.sets _).1 (hx.sets _).2.1 | exact rin_p _ _ (hx.sets _).2.2.1 (hx.sets _).2.2.2)))
    (apply spec_t; exact rfl; exact rfl)
    (refine im_any fun hc_ => ?_; try have hc1_ := (band hc_).1)
    refine q1
    (apply spec_mt; exact rfl; exact rfl)
    (refine im_any fun hc_ => ?_; try have hc1_ := (band hc_).1)
    refine q2
    (apply spec_mt; exact rfl; exact rfl)
    (refine im_any fun hc_ => ?_; try have hc1_ := (band hc_).1)
    refine q3
    (apply spec_mt; exact rfl; exact rfl)
    (refine im_any fun hc_ => ?_; try have hc1_ := (band hc_).1)
    refine q2
    (apply spec_mt; exact rfl; exact rfl)
    (refine im_any fun hc_ => ?_; try have hc1_ := (band hc_).1)
    refine q3
    (apply spec_mt; exact rfl; exact rfl)
    (refine im_any fun hc_ => ?_; try have hc1_ := (band hc_).1)
    refine q7
    (apply spec_t; exact rfl; exact rfl)
    (refine im_any fun hc_ => ?_; try have hc1_ := (band hc_).1)
    refine q10
    (apply spec_t; exact rfl; exact rfl)
    (refine im_any fun hc_ => ?_; try have hc1_ := (band hc_).1)
    refine q42; refine q4 ?_; refine q12 ?_; refine ao_nil ?_; refine then_n ?_; refine awp_seq ?_
    (refine ao_region ?_ (fun _ => ?_); exact rfl)
    iterate 2 refine q11 ?_
    (apply spec_f; exact rfl; exact rfl)
    (refine im_any fun hc_ => ?_; try have hc1_ := (band hc_).1)
    refine q1
    (apply spec_f; exact rfl; exact rfl)
    (refine im_any fun hc_ => ?_; try have hc1_ := (band hc_).1)
    refine q7
    (apply spec_f; exact rfl; exact rfl)
    (refine im_any fun hc_ => ?_; try have hc1_ := (band hc_).1)
    refine q1
    (apply spec_mt; exact rfl; exact rfl)
    (refine im_any fun hc_ => ?_; try have hc1_ := (band hc_).1)
    refine q2
    (apply spec_mt; exact rfl; exact rfl)
    (refine im_any fun hc_ => ?_; try have hc1_ := (band hc_).1)
    refine q3
    (apply spec_mt; exact rfl; exact rfl)
    (refine im_any fun hc_ => ?_; try have hc1_ := (band hc_).1)
    refine q7
    (apply spec_f; exact rfl; exact rfl)
    (refine im_any fun hc_ => ?_; try have hc1_ := (band hc_).1)
    refine q10
    (apply spec_f; exact rfl; exact rfl)
    (refine im_any fun hc_ => ?_; try have hc1_ := (band hc_).1)
    refine q1
    (apply spec_mt; exact rfl; exact rfl)
    (refine im_any fun hc_ => ?_; try have hc1_ := (band hc_).1)
    refine q2
    (apply spec_mt; exact rfl; exact rfl)
    (refine im_any fun hc_ => ?_; try have hc1_ := (band hc_).1)
    refine q3
    (apply spec_mt; exact rfl; exact rfl)
    (refine im_any fun hc_ => ?_; try have hc1_ := (band hc_).1)
    refine q27
    (apply spec_mt; exact rfl; exact rfl)
    (refine im_any fun hc_ => ?_; try have hc1_ := (band hc_).1)
    ((have hp_ := hc_; (try simp only [Bool.not_eq_true', Bool.not_eq_false', Bool.or_eq_true, Bool.and_eq_true, Bool.or_eq_false_iff, Bool.and_eq_false_iff, decide_eq_true_eq, decide_eq_false_iff_not, Decidable.not_not, Int.not_lt, Int.not_le, Bool.not_true, Bool.not_false, Bool.true_and, Bool.and_true, Bool.false_or, Bool.or_false, Bool.true_or, Bool.false_and, bne_eq_false_iff_eq, bne_iff_ne, beq_iff_eq, beq_eq_false_iff_ne, decide_eq_decide] at hp_)))
    ((apply M_call; exact .plain rfl rfl; exact .fn _ _ _; (repeat (first | exact EvsM.nil | (apply EvsM.cons; first | (refine EvM.mb _ rfl ?_; first | assumption | exact rfl) | exact EvM.plain rfl rfl))); (first | exact hpo | exact rstores_p _ | exact rloads_p _ | exact rstrong_p _ | exact rpaired_p x hx b hb | exact at_p _ _ (by first | exact (hx.small _).1 | exact (hx.small _).2.1 | exact (hx.small _).2.2) | exact rin_p _ _ (hx.sets _).1 (hx.sets _).2.1 | exact rin_p _ _ (hx.sets _).2.2.1 (hx.sets _).2.2.2)))
    (apply spec_f; exact rfl; exact rfl)
    (refine im_any fun hc_ => ?_; try have hc1_ := (band hc_).1)
    refine q10
    (apply spec_f; exact rfl; exact rfl)
    (refine im_any fun hc_ => ?_; try have hc1_ := (band hc_).1)
    refine q1
    (apply spec_mt; exact rfl; exact rfl)
    (refine im_any fun hc_ => ?_; try have hc1_ := (band hc_).1)
    refine q2
    (apply spec_mt; exact rfl; exact rfl)
    (refine im_any fun hc_ => ?_; try have hc1_ := (band hc_).1)
    refine q3
    (apply spec_mt; exact rfl; exact rfl)
    (refine im_any fun hc_ => ?_; try have hc1_ := (band hc_).1)
    refine q27
    (apply spec_mt; exact rfl; exact rfl)
    (refine im_any fun hc_ => ?_; try have hc1_ := (band hc_).1)
    ((have hp_ := hc_; (try simp only [Bool.not_eq_true', Bool.not_eq_false', Bool.or_eq_true, Bool.and_eq_true, Bool.or_eq_false_iff, Bool.and_eq_false_iff, decide_eq_true_eq, decide_eq_false_iff_not, Decidable.not_not, Int.not_lt, Int.not_le, Bool.not_true, Bool.not_false, Bool.true_and, Bool.and_true, Bool.false_or, Bool.or_false, Bool.true_or, Bool.false_and, bne_eq_false_iff_eq, bne_iff_ne, beq_iff_eq, beq_eq_false_iff_ne, decide_eq_decide] at hp_)))
    ((apply M_call; exact .plain rfl rfl; exact .fn _ _ _; (repeat (first | exact EvsM.nil | (apply EvsM.cons; first | (refine EvM.mb _ rfl ?_; first | assumption | exact rfl) | exact EvM.plain rfl rfl))); (first | exact hpo | exact rstores_p _ | exact rloads_p _ | exact rstrong_p _ | exact rpaired_p x hx b hb | exact at_p _ _ (by first | exact (hx.small _).1 | exact (hx.small _).2.1 | exact (hx.small _).2.2) | exact rin_p _ _ (hx.sets _).1 (hx.sets _).2.1 | exact rin_p _ _ (hx.sets _).2.2.1 (hx.sets _).2.2.2)))
    (apply spec_f; exact rfl; exact rfl)
    (refine im_any fun hc_ => ?_; try have hc1_ := (band hc_).1)
    refine q10; refine q0 ?_; refine q12 ?_; refine ao_nil ?_; refine then_n ?_; refine awp_seq ?_
    (refine ao_region ?_ (fun _ => ?_); exact rfl)
    iterate 2 refine q11 ?_
    (apply spec_f; exact rfl; exact rfl)
    (refine im_any fun hc_ => ?_; try have hc1_ := (band hc_).1)
    refine q1
    (apply spec_f; exact rfl; exact rfl)
    (refine im_any fun hc_ => ?_; try have hc1_ := (band hc_).1)
    refine q7
    (apply spec_f; exact rfl; exact rfl)
    (refine im_any fun hc_ => ?_; try have hc1_ := (band hc_).1)
    refine q1
    (apply spec_mt; exact rfl; exact rfl)
    (refine im_any fun hc_ => ?_; try have hc1_ := (band hc_).1)
    refine q27
    (apply spec_mt; exact rfl; exact rfl)
    (refine im_any fun hc_ => ?_; try have hc1_ := (band hc_).1)
    ((have hp_ := hc_; (try simp only [Bool.not_eq_true', Bool.not_eq_false', Bool.or_eq_true, Bool.and_eq_true, Bool.or_eq_false_iff, Bool.and_eq_false_iff, decide_eq_true_eq, decide_eq_false_iff_not, Decidable.not_not, Int.not_lt, Int.not_le, Bool.not_true, Bool.not_false, Bool.true_and, Bool.and_true, Bool.false_or, Bool.or_false, Bool.true_or, Bool.false_and, bne_eq_false_iff_eq, bne_iff_ne, beq_iff_eq, beq_eq_false_iff_ne, decide_eq_decide] at hp_)))
    ((apply M_call; exact .plain rfl rfl; exact .fn _ _ _; (repeat (first | exact EvsM.nil | (apply EvsM.cons; first | (refine EvM.mb _ rfl ?_; first | assumption | exact rfl) | exact EvM.plain rfl rfl))); (first | exact hpo | exact rstores_p _ | exact rloads_p _ | exact rstrong_p _ | exact rpaired_p x hx b hb | exact at_p _ _ (by first | exact (hx.small _).1 | exact (hx.small _).2.1 | exact (hx.small _).2.2) | exact rin_p _ _ (hx.sets _).1 (hx.sets _).2.1 | exact rin_p _ _ (hx.sets _).2.2.1 (hx.sets _).2.2.2)))
    (apply spec_f; exact rfl; exact rfl)
    (refine im_any fun hc_ => ?_; try have hc1_ := (band hc_).1)
    refine q10
    (apply spec_f; exact rfl; exact rfl)
    (refine im_any fun hc_ => ?_; try have hc1_ := (band hc_).1)
    refine q1
    (apply spec_mt; exact rfl; exact rfl)
    (refine im_any fun hc_ => ?_; try have hc1_ := (band hc_).1)
    refine q27
    (apply spec_mt; exact rfl; exact rfl)
    (refine im_any fun hc_ => ?_; try have hc1_ := (band hc_).1)
    ((have hp_ := hc_; (try simp only [Bool.not_eq_true', Bool.not_eq_false', Bool.or_eq_true, Bool.and_eq_true, Bool.or_eq_false_iff, Bool.and_eq_false_iff, decide_eq_true_eq, decide_eq_false_iff_not, Decidable.not_not, Int.not_lt, Int.not_le, Bool.not_true, Bool.not_false, Bool.true_and, Bool.and_true, Bool.false_or, Bool.or_false, Bool.true_or, Bool.false_and, bne_eq_false_iff_eq, bne_iff_ne, beq_iff_eq, beq_eq_false_iff_ne, decide_eq_decide] at hp_)))
    ((apply M_call; exact .plain rfl rfl; exact .fn _ _ _; (repeat (first | exact EvsM.nil | (apply EvsM.cons; first | (refine EvM.mb _ rfl ?_; first | assumption | exact rfl) | exact EvM.plain rfl rfl))); (first | exact hpo | exact rstores_p _ | exact rloads_p _ | exact rstrong_p _ | exact rpaired_p x hx b hb | exact at_p _ _ (by first | exact (hx.small _).1 | exact (hx.small _).2.1 | exact (hx.small _).2.2) | exact rin_p _ _ (hx.sets _).1 (hx.sets _).2.1 | exact rin_p _ _ (hx.sets _).2.2.1 (hx.sets _).2.2.2)))
    (apply spec_f; exact rfl; exact rfl)
    (refine im_any fun hc_ => ?_; try have hc1_ := (band hc_).1)
    refine q10
    (apply spec_f; exact rfl; exact rfl)
    (refine im_any fun hc_ => ?_; try have hc1_ := (band hc_).1)
    refine q1
    (apply spec_mt; exact rfl; exact rfl)
    (refine im_any fun hc_ => ?_; try have hc1_ := (band hc_).1)
    refine q8
    (apply spec_mt; exact rfl; exact rfl)
    (refine im_any fun hc_ => ?_; try have hc1_ := (band hc_).1)
    refine q6
    (apply spec_mt; exact rfl; exact rfl)
    (refine im_any fun hc_ => ?_; try have hc1_ := (band hc_).1)
    refine q1
    (apply spec_mt; exact rfl; exact rfl)
    (refine im_any fun hc_ => ?_; try have hc1_ := (band hc_).1)
    ((have hp_ := hc_; (try simp only [Bool.not_eq_true', Bool.not_eq_false', Bool.or_eq_true, Bool.and_eq_true, Bool.or_eq_false_iff, Bool.and_eq_false_iff, decide_eq_true_eq, decide_eq_false_iff_not, Decidable.not_not, Int.not_lt, Int.not_le, Bool.not_true, Bool.not_false, Bool.true_and, Bool.and_true, Bool.false_or, Bool.or_false, Bool.true_or, Bool.false_and, bne_eq_false_iff_eq, bne_iff_ne, beq_iff_eq, beq_eq_false_iff_ne, decide_eq_decide] at hp_)))
    refine q5
    (apply spec_mt; exact rfl; exact rfl)
    (refine im_any fun hc_ => ?_; try have hc1_ := (band hc_).1)
    refine q6
    (apply spec_mt; exact rfl; exact rfl)
    (refine im_any fun hc_ => ?_; try have hc1_ := (band hc_).1)
    refine q1
    (apply spec_mt; exact rfl; exact rfl)
    (refine im_any fun hc_ => ?_; try have hc1_ := (band hc_).1)
    refine q7
    (apply spec_f; exact rfl; exact rfl)
    (refine im_any fun hc_ => ?_; try have hc1_ := (band hc_).1)
    refine q10
    (apply spec_f; exact rfl; exact rfl)
    (refine im_any fun hc_ => ?_; try have hc1_ := (band hc_).1)
    refine q1
    (apply spec_mt; exact rfl; exact rfl)
    (refine im_any fun hc_ => ?_; try have hc1_ := (band hc_).1)
    refine q2
    (apply spec_mt; exact rfl; exact rfl)
    (refine im_any fun hc_ => ?_; try have hc1_ := (band hc_).1)
    refine q3
    (apply spec_mt; exact rfl; exact rfl)
    (refine im_any fun hc_ => ?_; try have hc1_ := (band hc_).1)
    refine q1
    (apply spec_mt; exact rfl; exact rfl)
    (refine im_any fun hc_ => ?_; try have hc1_ := (band hc_).1)
    ((have hp_ := hc_; (try simp only [Bool.not_eq_true', Bool.not_eq_false', Bool.or_eq_true, Bool.and_eq_true, Bool.or_eq_false_iff, Bool.and_eq_false_iff, decide_eq_true_eq, decide_eq_false_iff_not, Decidable.not_not, Int.not_lt, Int.not_le, Bool.not_true, Bool.not_false, Bool.true_and, Bool.and_true, Bool.false_or, Bool.or_false, Bool.true_or, Bool.false_and, bne_eq_false_iff_eq, bne_iff_ne, beq_iff_eq, beq_eq_false_iff_ne, decide_eq_decide] at hp_)))
    ((apply M_call; exact .plain rfl rfl; exact .fn _ _ _; (repeat (first | exact EvsM.nil | (apply EvsM.cons; first | (refine EvM.mb _ rfl ?_; first | assumption | exact rfl) | exact EvM.plain rfl rfl))); (first | exact hpo | exact rstores_p _ | exact rloads_p _ | exact rstrong_p _ | exact rpaired_p x hx b hb | exact at_p _ _ (by first | exact (hx.small _).1 | exact (hx.small _).2.1 | exact (hx.small _).2.2) | exact rin_p _ _ (hx.sets _).1 (hx.sets _).2.1 | exact rin_p _ _ (hx.sets _).2.2.1 (hx.sets _).2.2.2)))
    (apply spec_mt; exact rfl; exact rfl)
    (refine im_any fun hc_ => ?_; try have hc1_ := (band hc_).1)
    refine q21
    (apply spec_mt; exact rfl; exact rfl)
    (refine im_any fun hc_ => ?_; try have hc1_ := (band hc_).1)
    refine q1
    (apply spec_mf; exact rfl; exact rfl)
    (refine im_any fun hc_ => ?_; try have hc1_ := (band hc_).1)
    refine q2
    (apply spec_mf; exact rfl; exact rfl)
    (refine im_any fun hc_ => ?_; try have hc1_ := (band hc_).1)
    refine q3
    (apply spec_mf; exact rfl; exact rfl)
    (refine im_any fun hc_ => ?_; try have hc1_ := (band hc_).1)
    refine q1
    (apply spec_mf; exact rfl; exact rfl)
    (refine im_any fun hc_ => ?_; try have hc1_ := (band hc_).1)
    ((have hp_ := hc_; (try simp only [Bool.not_eq_true', Bool.not_eq_false', Bool.or_eq_true, Bool.and_eq_true, Bool.or_eq_false_iff, Bool.and_eq_false_iff, decide_eq_true_eq, decide_eq_false_iff_not, Decidable.not_not, Int.not_lt, Int.not_le, Bool.not_true, Bool.not_false, Bool.true_and, Bool.and_true, Bool.false_or, Bool.or_false, Bool.true_or, Bool.false_and, bne_eq_false_iff_eq, bne_iff_ne, beq_iff_eq, beq_eq_false_iff_ne, decide_eq_decide] at hp_)))
    ((apply M_call; exact .plain rfl rfl; exact .fn _ _ _; (repeat (first | exact EvsM.nil | (apply EvsM.cons; first | (refine EvM.mb _ rfl ?_; first | assumption | exact rfl) | exact EvM.plain rfl rfl))); (first | exact hpo | exact rstores_p _ | exact rloads_p _ | exact rstrong_p _ | exact rpaired_p x hx b hb | exact at_p _ _ (by first | exact (hx.small _).1 | exact (hx.small _).2.1 | exact (hx.small _).2.2) | exact rin_p _ _ (hx.sets _).1 (hx.sets _).2.1 | exact rin_p _ _ (hx.sets _).2.2.1 (hx.sets _).2.2.2)))
    (apply spec_mf; exact rfl; exact rfl)
    (refine im_any fun hc_ => ?_; try have hc1_ := (band hc_).1)
    refine q21
    (apply spec_mt; exact rfl; exact rfl)
    (refine im_any fun hc_ => ?_; try have hc1_ := (band hc_).1)
    refine q24
    (apply spec_f; exact rfl; exact rfl)
    (refine im_any fun hc_ => ?_; try have hc1_ := (band hc_).1)
    refine q10; refine q0 ?_; refine q12 ?_; refine ao_nil ?_; refine then_n ?_
    (refine ao_region ?_ (fun _ => ?_); exact rfl)
    iterate 2 refine q11 ?_
    (apply spec_f; exact rfl; exact rfl)
    (refine im_any fun hc_ => ?_; try have hc1_ := (band hc_).1)
    refine q1
    (apply spec_f; exact rfl; exact rfl)
    (refine im_any fun hc_ => ?_; try have hc1_ := (band hc_).1)
    refine q7
    (apply spec_f; exact rfl; exact rfl)
    (refine im_any fun hc_ => ?_; try have hc1_ := (band hc_).1)
    refine q1
    (apply spec_mt; exact rfl; exact rfl)
    (refine im_any fun hc_ => ?_; try have hc1_ := (band hc_).1)
    refine q27
    (apply spec_mt; exact rfl; exact rfl)
    (refine im_any fun hc_ => ?_; try have hc1_ := (band hc_).1)
    ((have hp_ := hc_; (try simp only [Bool.not_eq_true', Bool.not_eq_false', Bool.or_eq_true, Bool.and_eq_true, Bool.or_eq_false_iff, Bool.and_eq_false_iff, decide_eq_true_eq, decide_eq_false_iff_not, Decidable.not_not, Int.not_lt, Int.not_le, Bool.not_true, Bool.not_false, Bool.true_and, Bool.and_true, Bool.false_or, Bool.or_false, Bool.true_or, Bool.false_and, bne_eq_false_iff_eq, bne_iff_ne, beq_iff_eq, beq_eq_false_iff_ne, decide_eq_decide] at hp_)))
    ((apply M_call; exact .plain rfl rfl; exact .fn _ _ _; (repeat (first | exact EvsM.nil | (apply EvsM.cons; first | (refine EvM.mb _ rfl ?_; first | assumption | exact rfl) | exact EvM.plain rfl rfl))); (first | exact hpo | exact rstores_p _ | exact rloads_p _ | exact rstrong_p _ | exact rpaired_p x hx b hb | exact at_p _ _ (by first | exact (hx.small _).1 | exact (hx.small _).2.1 | exact (hx.small _).2.2) | exact rin_p _ _ (hx.sets _).1 (hx.sets _).2.1 | exact rin_p _ _ (hx.sets _).2.2.1 (hx.sets _).2.2.2)))
    (apply spec_f; exact rfl; exact rfl)
    (refine im_any fun hc_ => ?_; try have hc1_ := (band hc_).1)
    refine q10
    (apply spec_f; exact rfl; exact rfl)
    (refine im_any fun hc_ => ?_; try have hc1_ := (band hc_).1)
    refine q1
    (apply spec_mt; exact rfl; exact rfl)
    (refine im_any fun hc_ => ?_; try have hc1_ := (band hc_).1)
    refine q2
    (apply spec_mt; exact rfl; exact rfl)
    (refine im_any fun hc_ => ?_; try have hc1_ := (band hc_).1)
    refine q3
    (apply spec_mt; exact rfl; exact rfl)
    (refine im_any fun hc_ => ?_; try have hc1_ := (band hc_).1)
    refine q1
    (apply spec_mt; exact rfl; exact rfl)
    (refine im_any fun hc_ => ?_; try have hc1_ := (band hc_).1)
    ((have hp_ := hc_; (try simp only [Bool.not_eq_true', Bool.not_eq_false', Bool.or_eq_true, Bool.and_eq_true, Bool.or_eq_false_iff, Bool.and_eq_false_iff, decide_eq_true_eq, decide_eq_false_iff_not, Decidable.not_not, Int.not_lt, Int.not_le, Bool.not_true, Bool.not_false, Bool.true_and, Bool.and_true, Bool.false_or, Bool.or_false, Bool.true_or, Bool.false_and, bne_eq_false_iff_eq, bne_iff_ne, beq_iff_eq, beq_eq_false_iff_ne, decide_eq_decide] at hp_)))
    ((apply M_call; exact .plain rfl rfl; exact .fn _ _ _; (repeat (first | exact EvsM.nil | (apply EvsM.cons; first | (refine EvM.mb _ rfl ?_; first | assumption | exact rfl) | exact EvM.plain rfl rfl))); (first | exact hpo | exact rstores_p _ | exact rloads_p _ | exact rstrong_p _ | exact rpaired_p x hx b hb | exact at_p _ _ (by first | exact (hx.small _).1 | exact (hx.small _).2.1 | exact (hx.small _).2.2) | exact rin_p _ _ (hx.sets _).1 (hx.sets _).2.1 | exact rin_p _ _ (hx.sets _).2.2.1 (hx.sets _).2.2.2)))
    (apply spec_mt; exact rfl; exact rfl)
    (refine im_any fun hc_ => ?_; try have hc1_ := (band hc_).1)
    refine q21
    (apply spec_f; exact rfl; exact rfl)
    (refine im_any fun hc_ => ?_; try have hc1_ := (band hc_).1)
    refine q10; refine q0 ?_; refine q12 ?_; refine ao_nil ?_; refine blk_n ?_; refine then_n ?_
    (refine ao_region ?_ (fun _ => ?_); exact rfl)
    refine q11 ?_; refine q36 ?_; refine q12 ?_; refine ao_nil ?_; refine then_n ?_
    rotate_left
    (refine im_df (fun _ => ?_); (try (exfalso; omega)))
    refine ⟨(m + 1, !someB a (m + 1) (clrB x a), someB a (m + 1) (hitR x r a b)), ⟨by dsimp only; omega, by dsimp only; omega, rfl, rfl⟩, by dsimp only; omega, ?_, (by repeat' (first | exact le_nil _ | exact sle_nil _ | refine le_cons rfl ?_ | refine sle_cons rfl ?_))⟩
    refine le_cons rfl (le_cons rfl (le_cons rfl (le_cons rfl (le_cons rfl (le_cons rfl (le_cons rfl (le_consB rfl ?_ (le_consB rfl ?_ (le_cons rfl (le_nil _))))))))))
    · dsimp only
      rw [someB_succ ham, Bool.not_or, ← hc]; rfl
    · dsimp only
      rw [someB_succ ham, ← hs]
      unfold hitR hit4 hit12 hit13 hasB
      simp only [Int.toNat_natCast, Bool.and_assoc, Bool.or_assoc]
  · have hmb' : m = b := by omega
    subst hmb'
    iterate 2 refine awp_seq ?_
    (refine ao_region ?_ (fun _ => ?_); exact rfl)
    iterate 2 refine q11 ?_
    refine q37 ?_; refine ao_nil ?_; refine then_n ?_
    (apply awp_cond; exact rfl)
    (refine im_dt (fun _ => ?_); (try (exfalso; omega)))
    (refine im_df (fun _ => ?_); (try (exfalso; omega)))
    refine awp_exit ?_
    iterate 2 refine then_x ?_
    refine blk_x ?_; refine then_n ?_
    iterate 2 refine awp_seq ?_
    (refine ao_region ?_ (fun _ => ?_); exact rfl)
    refine q11 ?_; refine q46 ?_; refine ao_nil ?_; refine then_n ?_
    (apply awp_cond; exact rfl)
    (refine im_dt (fun _ => ?_); (try (exfalso; omega)))
    refine awp_seq ?_
    (refine do_region (E := E) ?_ (fun _ => ?_); exact rfl)
    refine q57 ?_
    ((first
      | (apply S_call; exact rfl; exact .fn _ _ _; exact rfl; (first | exact hpo | exact rstores_p _ | exact rloads_p _ | exact rstrong_p _ | exact rpaired_p x hx b hb | exact at_p _ _ (by first | exact (hx.small _).1 | exact (hx.small _).2.1 | exact (hx.small _).2.2) | exact rin_p _ _ (hx.sets _).1 (hx.sets _).2.1 | exact rin_p _ _ (hx.sets _).2.2.1 (hx.sets _).2.2.2))
      | (apply D_call; exact rfl; exact .fn _ _ _; exact rfl; (first | exact hpo | exact rstores_p _ | exact rloads_p _ | exact rstrong_p _ | exact rpaired_p x hx b hb | exact at_p _ _ (by first | exact (hx.small _).1 | exact (hx.small _).2.1 | exact (hx.small _).2.2) | exact rin_p _ _ (hx.sets _).1 (hx.sets _).2.1 | exact rin_p _ _ (hx.sets _).2.2.1 (hx.sets _).2.2.2))))
    refine q38 ?_
    (apply dspec_t; exact rfl; exact rfl)
    (refine im_any fun hc_ => ?_; try have hc1_ := (band hc_).1)
    refine q27
    (apply dspec_t; exact rfl; exact rfl)
    (refine im_any fun hc_ => ?_; try have hc1_ := (band hc_).1)
    ((have hp_ := hc_; (try simp only [Bool.not_eq_true', Bool.not_eq_false', Bool.or_eq_true, Bool.and_eq_true, Bool.or_eq_false_iff, Bool.and_eq_false_iff, decide_eq_true_eq, decide_eq_false_iff_not, Decidable.not_not, Int.not_lt, Int.not_le, Bool.not_true, Bool.not_false, Bool.true_and, Bool.and_true, Bool.false_or, Bool.or_false, Bool.true_or, Bool.false_and, bne_eq_false_iff_eq, bne_iff_ne, beq_iff_eq, beq_eq_false_iff_ne, decide_eq_decide] at hp_)))
    ((apply M_call; exact .plain rfl rfl; exact .fn _ _ _; (repeat (first | exact EvsM.nil | (apply EvsM.cons; first | (refine EvM.mb _ rfl ?_; first | assumption | exact rfl) | exact EvM.plain rfl rfl))); (first | exact hpo | exact rstores_p _ | exact rloads_p _ | exact rstrong_p _ | exact rpaired_p x hx b hb | exact at_p _ _ (by first | exact (hx.small _).1 | exact (hx.small _).2.1 | exact (hx.small _).2.2) | exact rin_p _ _ (hx.sets _).1 (hx.sets _).2.1 | exact rin_p _ _ (hx.sets _).2.2.1 (hx.sets _).2.2.2)))
    refine q9 ?_; refine q38 ?_
    (apply dspec_t; exact rfl; exact rfl)
    (refine im_any fun hc_ => ?_; try have hc1_ := (band hc_).1)
    refine q1; refine q9 ?_; refine q38 ?_
    (apply dspec_t; exact rfl; exact rfl)
    (refine im_any fun hc_ => ?_; try have hc1_ := (band hc_).1)
    refine q8
    (apply dspec_t; exact rfl; exact rfl)
    (refine im_any fun hc_ => ?_; try have hc1_ := (band hc_).1)
    refine q6
    (apply dspec_t; exact rfl; exact rfl)
    (refine im_any fun hc_ => ?_; try have hc1_ := (band hc_).1)
    refine q1
    (apply dspec_t; exact rfl; exact rfl)
    (refine im_any fun hc_ => ?_; try have hc1_ := (band hc_).1)
    ((have hp_ := hc_; (try simp only [Bool.not_eq_true', Bool.not_eq_false', Bool.or_eq_true, Bool.and_eq_true, Bool.or_eq_false_iff, Bool.and_eq_false_iff, decide_eq_true_eq, decide_eq_false_iff_not, Decidable.not_not, Int.not_lt, Int.not_le, Bool.not_true, Bool.not_false, Bool.true_and, Bool.and_true, Bool.false_or, Bool.or_false, Bool.true_or, Bool.false_and, bne_eq_false_iff_eq, bne_iff_ne, beq_iff_eq, beq_eq_false_iff_ne, decide_eq_decide] at hp_)))
    refine q5
    (apply dspec_t; exact rfl; exact rfl)
    (refine im_any fun hc_ => ?_; try have hc1_ := (band hc_).1)
    refine q6
    (apply dspec_t; exact rfl; exact rfl)
    (refine im_any fun hc_ => ?_; try have hc1_ := (band hc_).1)
    refine q8
    (apply dspec_t; exact rfl; exact rfl)
    (refine im_any fun hc_ => ?_; try have hc1_ := (band hc_).1)
    refine q6
    (apply dspec_t; exact rfl; exact rfl)
    (refine im_any fun hc_ => ?_; try have hc1_ := (band hc_).1)
    refine q1
    (apply dspec_t; exact rfl; exact rfl)
    (refine im_any fun hc_ => ?_; try have hc1_ := (band hc_).1)
    ((have hp_ := hc_; (try simp only [Bool.not_eq_true', Bool.not_eq_false', Bool.or_eq_true, Bool.and_eq_true, Bool.or_eq_false_iff, Bool.and_eq_false_iff, decide_eq_true_eq, decide_eq_false_iff_not, Decidable.not_not, Int.not_lt, Int.not_le, Bool.not_true, Bool.not_false, Bool.true_and, Bool.and_true, Bool.false_or, Bool.or_false, Bool.true_or, Bool.false_and, bne_eq_false_iff_eq, bne_iff_ne, beq_iff_eq, beq_eq_false_iff_ne, decide_eq_decide] at hp_)))
    refine q5
    (apply dspec_t; exact rfl; exact rfl)
    (refine im_any fun hc_ => ?_; try have hc1_ := (band hc_).1)
    refine q6
    (apply dspec_t; exact rfl; exact rfl)
    (refine im_any fun hc_ => ?_; try have hc1_ := (band hc_).1)
    refine q26; refine q9 ?_; refine q38 ?_
    (apply dspec_t; exact rfl; exact rfl)
    (refine im_any fun hc_ => ?_; try have hc1_ := (band hc_).1)
    refine q1; refine q9 ?_
    (apply D_assign; exact rfl)
    (refine do_nil ?_ ?_; (first | ((try dsimp only [wkeys]); decide +kernel) | exact rfl))
    refine then_n ?_; refine awp_ret ?_; refine then_r ?_
    rotate_left
    (refine im_df (fun _ => ?_); (try (exfalso; omega)))
    refine awp_skip ?_; refine then_n ?_; refine awp_seq ?_
    (refine ao_region ?_ (fun _ => ?_); exact rfl)
    refine q11 ?_; refine q12 ?_; refine ao_nil ?_; refine then_n ?_; refine awp_ret ?_
    rotate_left
    · rename_i hr _
      subst hr
      refine done_b rfl ?_
      rw [hc]; rfl
    · rename_i n2 _
      refine done_b rfl ?_
      rw [hs]
      obtain rfl | rfl | rfl : r = 4 ∨ r = 12 ∨ r = 13 := by omega
      · exact hit_4 x a m
      · exact hit_12 x a m
      · exact hit_13 x a m
end Go.Proofs.YtnghoibkjphfmaaGreat
