/- The reference's relations: what is read, coherence order, what comes behind what is read; its lists of their pairs; in plain data. -/
import Derived.Test.YtgeaaegkcbjhlaaGreatPc3
import Derived.Test.YtgeaaegkcbjhlaaGreatPc5
import Derived.Test.YtgeaaegkcbjhlaaGreatPc9
import Derived.Test.YtgeaaegkcbjhlaaGreatPc10
set_option maxRecDepth 100000
set_option linter.unusedVariables false
set_option linter.unusedSimpArgs false
namespace Go.Proofs.YtgeaaegkcbjhlaaGreat
open Go.RowKit
theorem placeFrom_drop (o : List (Sl × List Int)) (n : Int) (k : Nat) (h : k < o.length) : placeFrom (o.drop k) n = if 0 ≤ atI (o.getD k default).2 n then atI (o.getD k default).2 n else placeFrom (o.drop (k + 1)) n := by
  rw [List.drop_eq_getElem_cons h, placeFrom, List.getD_eq_getElem?_getD, List.getElem?_eq_getElem h]; rfl
set_option maxHeartbeats 1000000 in
theorem rplace_p (x : Ex) (hx : x.order.length ≤ 65536) (hr : ∀ i, (x.order.getD i default).2.length ≤ 65536) (n : Int) : Pure E.P 40 [exOV x, .int .i64 n] (.int .i64 (placeFrom x.order n)) := by
  have f1 : Frozen 1 := ⟨trivial⟩
  have f2 : Frozen 2 := ⟨trivial⟩
  refine fn_of_awp Tryz.func40 (by decide) rfl Tryz.ntmps40 (Nat.le_of_ble_eq_true rfl) rfl ?_
  refine awp_seq ?_
  (refine ao_region ?_ (fun _ => ?_); exact rfl)
  refine q34 ?_; refine q12 ?_; refine ao_nil ?_; refine then_n ?_
  iterate 2 refine awp_seq ?_
  (refine ao_region ?_ (fun _ => ?_); exact rfl)
  refine q12 ?_; refine ao_nil ?_; refine then_n ?_; refine awp_block ?_
  rotate_left
  refine awp_loop (X := Nat) (fun k => tmL [(1, .int .i64 n), (2, .d (.pt (exRow x) 0)), (5, .int .i64 k)]) (fun _ => stL []) (fun k => k ≤ x.order.length ∧ placeFrom x.order n = placeFrom (x.order.drop k) n) (fun k => x.order.length - k) 0 ⟨Nat.zero_le _, rfl⟩ (by repeat' (first | exact le_nil _ | exact sle_nil _ | refine le_cons rfl ?_ | refine sle_cons rfl ?_)) (by repeat' (first | exact le_nil _ | exact sle_nil _ | refine le_cons rfl ?_ | refine sle_cons rfl ?_)) ?_
  rintro k ⟨hk, ht⟩
  have ha := at_p (x.order.getD k default).2 n (by have := hr k; omega)
  by_cases hlt : k < x.order.length
  · have hd := placeFrom_drop x.order n k hlt
    iterate 2 refine awp_seq ?_
    (refine ao_region ?_ (fun _ => ?_); exact rfl)
    refine q11 ?_; refine q32 ?_; refine q23 ?_; refine q13 ?_; refine q37 ?_; refine ao_nil ?_; refine then_n ?_
    (apply awp_cond; exact rfl)
    (refine im_dt (fun _ => ?_); (try (exfalso; omega)))
    refine awp_skip ?_; refine then_n ?_; refine awp_seq ?_; refine awp_block ?_; refine awp_seq ?_
    (refine ao_region ?_ (fun _ => ?_); exact rfl)
    refine q32 ?_; refine q23 ?_; refine q11 ?_; refine q17 ?_; refine q23 ?_; refine q11 ?_
    (first
      | (apply S_call; exact rfl; exact .fn _ _ _; exact rfl; exact ha)
      | (apply D_call; exact rfl; exact .fn _ _ _; exact rfl; exact ha))
    refine q12 ?_; refine ao_nil ?_; refine then_n ?_; refine awp_seq ?_
    (refine ao_region ?_ (fun _ => ?_); exact rfl)
    refine q11 ?_
    (apply S_geq; exact rfl; exact rfl)
    refine ao_nil ?_; refine then_n ?_
    (apply awp_cond; exact rfl)
    (refine im_dt (fun _ => ?_); (try (exfalso; omega)))
    refine awp_seq ?_
    (refine ao_region ?_ (fun _ => ?_); exact rfl)
    refine q11 ?_; refine q12 ?_; refine ao_nil ?_; refine then_n ?_; refine awp_ret ?_; refine blk_r ?_
    iterate 2 refine then_r ?_
    refine blk_r ?_; refine then_r ?_
    rotate_left
    (refine im_df (fun _ => ?_); (try (exfalso; omega)))
    refine awp_skip ?_; refine blk_n ?_; refine then_n ?_
    (refine ao_region ?_ (fun _ => ?_); exact rfl)
    refine q11 ?_; refine q36 ?_; refine q12 ?_; refine ao_nil ?_; refine then_n ?_
    rotate_left
    (refine im_df (fun _ => ?_); (try (exfalso; omega)))
    · refine done_i rfl ?_
      rw [ht, hd, if_pos (by assumption)]
    · refine round' (k + 1) ⟨by omega, ?_⟩ (by omega) (by repeat' (first | exact le_nil _ | exact sle_nil _ | refine le_cons rfl ?_ | refine sle_cons rfl ?_)) (by repeat' (first | exact le_nil _ | exact sle_nil _ | refine le_cons rfl ?_ | refine sle_cons rfl ?_))
      rw [ht, hd, if_neg (by assumption)]
  · iterate 2 refine awp_seq ?_
    (refine ao_region ?_ (fun _ => ?_); exact rfl)
    refine q11 ?_; refine q32 ?_; refine q23 ?_; refine q13 ?_; refine q37 ?_; refine ao_nil ?_; refine then_n ?_
    (apply awp_cond; exact rfl)
    (refine im_dt (fun _ => ?_); (try (exfalso; omega)))
    (refine im_df (fun _ => ?_); (try (exfalso; omega)))
    refine awp_exit ?_
    iterate 2 refine then_x ?_
    refine blk_x ?_; refine then_n ?_; refine awp_seq ?_
    (refine ao_region ?_ (fun _ => ?_); exact rfl)
    refine q12 ?_; refine ao_nil ?_; refine then_n ?_; refine awp_ret ?_
    rotate_left
    refine done_i rfl ?_
    rw [ht, List.drop_eq_nil_of_le (by omega)]; rfl
theorem risRf_p (x : Ex) (hx : x.evs.length ≤ 65536) (hf : x.from_.length = x.evs.length) (a b : Nat) (ha : a < x.evs.length) (hb : b < x.evs.length) : Pure E.P 27 [exOV x, .int .i64 a, .int .i64 b] (.bool (isRf x a b)) := by
  have hl := rloads_p (x.evs.getD b default)
  refine fn_of_awp Tryz.func27 (by decide) rfl Tryz.ntmps27 (Nat.le_of_ble_eq_true rfl) rfl ?_
  refine awp_seq ?_
  (refine ao_region ?_ (fun _ => ?_); exact rfl)
  refine q40 ?_; refine q12 ?_; refine ao_nil ?_; refine then_n ?_; refine awp_seq ?_
  (refine ao_region ?_ (fun _ => ?_); exact rfl)
  refine q28 ?_; refine q16 ?_; refine q11 ?_; refine q17 ?_; refine q33 ?_
  ((first
    | (apply S_call; exact rfl; exact .fn _ _ _; exact rfl; exact hl)
    | (apply D_call; exact rfl; exact .fn _ _ _; exact rfl; exact hl)))
  refine q11 ?_
  (apply spec_t; exact rfl; exact rfl)
  (refine im_any fun hc_ => ?_; try have hc1_ := (band hc_).1)
  refine q2
  (apply spec_t; exact rfl; exact rfl)
  (refine im_any fun hc_ => ?_; try have hc1_ := (band hc_).1)
  refine q3
  (apply spec_t; exact rfl; exact rfl)
  (refine im_any fun hc_ => ?_; try have hc1_ := (band hc_).1)
  refine q1
  (apply spec_t; exact rfl; exact rfl)
  (refine im_any fun hc_ => ?_; try have hc1_ := (band hc_).1)
  ((have hp_ := hc_; (try simp only [Bool.not_eq_true', Bool.not_eq_false', Bool.or_eq_true, Bool.and_eq_true, Bool.or_eq_false_iff, Bool.and_eq_false_iff, decide_eq_true_eq, decide_eq_false_iff_not, Decidable.not_not, Int.not_lt, Int.not_le, Bool.not_true, Bool.not_false, Bool.true_and, Bool.and_true, Bool.false_or, Bool.or_false, Bool.true_or, Bool.false_and, bne_eq_false_iff_eq, bne_iff_ne, beq_iff_eq, beq_eq_false_iff_ne, decide_eq_decide] at hp_)))
  refine q5
  (apply spec_t; exact rfl; exact rfl)
  (refine im_any fun hc_ => ?_; try have hc1_ := (band hc_).1)
  refine q6
  (apply spec_t; exact rfl; exact rfl)
  (refine im_any fun hc_ => ?_; try have hc1_ := (band hc_).1)
  refine q1
  (apply spec_t; exact rfl; exact rfl)
  (refine im_any fun hc_ => ?_; try have hc1_ := (band hc_).1)
  refine q7; refine q4 ?_; refine q12 ?_; refine ao_nil ?_; refine then_n ?_; refine awp_ret ?_
  rotate_left
  refine done_b rfl ?_
  rw [Bool.eq_iff_iff]
  unfold isRf
  simp only [Bool.and_eq_true, decide_eq_true_eq, Int.toNat_natCast]
theorem risCo_p (x : Ex) (hx : x.evs.length ≤ 65536) (ho : x.order.length ≤ 65536) (hr : ∀ i, (x.order.getD i default).2.length ≤ 65536) (a b : Nat) (ha : a < x.evs.length) (hb : b < x.evs.length) : Pure E.P 28 [exOV x, .int .i64 a, .int .i64 b] (.bool (isCoB x a b)) := by
  have h1 := rstores_p (x.evs.getD a default)
  have h2 := rstores_p (x.evs.getD b default)
  have h3 := rplace_p x ho hr a
  have h4 := rplace_p x ho hr b
  refine fn_of_awp Tryz.func28 (by decide) rfl Tryz.ntmps28 (Nat.le_of_ble_eq_true rfl) rfl ?_
  refine awp_seq ?_
  (refine ao_region ?_ (fun _ => ?_); exact rfl)
  refine q40 ?_; refine q12 ?_; refine ao_nil ?_; refine then_n ?_; refine awp_seq ?_
  (refine do_region (E := E) ?_ (fun _ => ?_); exact rfl)
  refine q56 ?_
  (apply D_load_lo; exact rfl; exact rfl; exact rfl; exact rfl; (first | exact rfl | exact get_map (by omega) (0 : Int) | exact get_map (by omega) default | exact hrow _ | assumption); exact rfl)
  refine q38 ?_; refine q30 ?_
  (apply D_load_ptA; exact rfl; exact rfl; exact rfl; exact Nat.le_of_ble_eq_true rfl)
  ((first
    | (apply S_call; exact rfl; exact .fn _ _ _; exact rfl; (first | exact h1 | exact h2 | exact h3 | exact h4))
    | (apply D_call; exact rfl; exact .fn _ _ _; exact rfl; (first | exact h1 | exact h2 | exact h3 | exact h4))))
  refine q38 ?_
  (apply dspec_t; exact rfl; exact rfl)
  (refine im_any fun hc_ => ?_; try have hc1_ := (band hc_).1)
  refine q2
  (apply dspec_t; exact rfl; exact rfl)
  (refine im_any fun hc_ => ?_; try have hc1_ := (band hc_).1)
  refine q3
  (apply dspec_t; exact rfl; exact rfl)
  (refine im_any fun hc_ => ?_; try have hc1_ := (band hc_).1)
  refine q1
  (apply dspec_t; exact rfl; exact rfl)
  (refine im_any fun hc_ => ?_; try have hc1_ := (band hc_).1)
  ((have hp_ := hc_; (try simp only [Bool.not_eq_true', Bool.not_eq_false', Bool.or_eq_true, Bool.and_eq_true, Bool.or_eq_false_iff, Bool.and_eq_false_iff, decide_eq_true_eq, decide_eq_false_iff_not, Decidable.not_not, Int.not_lt, Int.not_le, Bool.not_true, Bool.not_false, Bool.true_and, Bool.and_true, Bool.false_or, Bool.or_false, Bool.true_or, Bool.false_and, bne_eq_false_iff_eq, bne_iff_ne, beq_iff_eq, beq_eq_false_iff_ne, decide_eq_decide] at hp_)))
  refine q5
  (apply dspec_t; exact rfl; exact rfl)
  (refine im_any fun hc_ => ?_; try have hc1_ := (band hc_).1)
  refine q47
  (apply dspec_t; exact rfl; exact rfl)
  (refine im_any fun hc_ => ?_; try have hc1_ := (band hc_).1)
  ((have hp_ := hc_; (try simp only [Bool.not_eq_true', Bool.not_eq_false', Bool.or_eq_true, Bool.and_eq_true, Bool.or_eq_false_iff, Bool.and_eq_false_iff, decide_eq_true_eq, decide_eq_false_iff_not, Decidable.not_not, Int.not_lt, Int.not_le, Bool.not_true, Bool.not_false, Bool.true_and, Bool.and_true, Bool.false_or, Bool.or_false, Bool.true_or, Bool.false_and, bne_eq_false_iff_eq, bne_iff_ne, beq_iff_eq, beq_eq_false_iff_ne, decide_eq_decide] at hp_)))
  ((apply M_call; (first | (refine EvM.mb _ rfl ?_; first | assumption | exact rfl) | exact EvM.plain rfl rfl); exact .fn _ _ _; (repeat (first | exact EvsM.nil | (apply EvsM.cons; first | (refine EvM.mb _ rfl ?_; first | assumption | exact rfl) | exact EvM.plain rfl rfl))); (first | exact h1 | exact h2 | exact h3 | exact h4)))
  refine q9 ?_; refine q38 ?_
  (apply dspec_t; exact rfl; exact rfl)
  (refine im_any fun hc_ => ?_; try have hc1_ := (band hc_).1)
  refine q2
  (apply dspec_t; exact rfl; exact rfl)
  (refine im_any fun hc_ => ?_; try have hc1_ := (band hc_).1)
  refine q3
  (apply dspec_t; exact rfl; exact rfl)
  (refine im_any fun hc_ => ?_; try have hc1_ := (band hc_).1)
  refine q1
  (apply dspec_t; exact rfl; exact rfl)
  (refine im_any fun hc_ => ?_; try have hc1_ := (band hc_).1)
  ((have hp_ := hc_; (try simp only [Bool.not_eq_true', Bool.not_eq_false', Bool.or_eq_true, Bool.and_eq_true, Bool.or_eq_false_iff, Bool.and_eq_false_iff, decide_eq_true_eq, decide_eq_false_iff_not, Decidable.not_not, Int.not_lt, Int.not_le, Bool.not_true, Bool.not_false, Bool.true_and, Bool.and_true, Bool.false_or, Bool.or_false, Bool.true_or, Bool.false_and, bne_eq_false_iff_eq, bne_iff_ne, beq_iff_eq, beq_eq_false_iff_ne, decide_eq_decide] at hp_)))
  refine q5
  (apply dspec_t; exact rfl; exact rfl)
  (refine im_any fun hc_ => ?_; try have hc1_ := (band hc_).1)
  refine q8
  (apply dspec_t; exact rfl; exact rfl)
  (refine im_any fun hc_ => ?_; try have hc1_ := (band hc_).1)
  refine q6
  (apply dspec_t; exact rfl; exact rfl)
  (refine im_any fun hc_ => ?_; try have hc1_ := (band hc_).1)
  refine q2
  (apply dspec_t; exact rfl; exact rfl)
  (refine im_any fun hc_ => ?_; try have hc1_ := (band hc_).1)
  refine q3
  (apply dspec_t; exact rfl; exact rfl)
  (refine im_any fun hc_ => ?_; try have hc1_ := (band hc_).1)
  refine q1
  (apply dspec_t; exact rfl; exact rfl)
  (refine im_any fun hc_ => ?_; try have hc1_ := (band hc_).1)
  ((have hp_ := hc_; (try simp only [Bool.not_eq_true', Bool.not_eq_false', Bool.or_eq_true, Bool.and_eq_true, Bool.or_eq_false_iff, Bool.and_eq_false_iff, decide_eq_true_eq, decide_eq_false_iff_not, Decidable.not_not, Int.not_lt, Int.not_le, Bool.not_true, Bool.not_false, Bool.true_and, Bool.and_true, Bool.false_or, Bool.or_false, Bool.true_or, Bool.false_and, bne_eq_false_iff_eq, bne_iff_ne, beq_iff_eq, beq_eq_false_iff_ne, decide_eq_decide] at hp_)))
  refine q5
  (apply dspec_t; exact rfl; exact rfl)
  (refine im_any fun hc_ => ?_; try have hc1_ := (band hc_).1)
  refine q8
  (apply dspec_t; exact rfl; exact rfl)
  (refine im_any fun hc_ => ?_; try have hc1_ := (band hc_).1)
  refine q6
  (apply dspec_t; exact rfl; exact rfl)
  (refine im_any fun hc_ => ?_; try have hc1_ := (band hc_).1)
  refine q7; refine q9 ?_; refine q38 ?_
  (apply dspec_t; exact rfl; exact rfl)
  (refine im_any fun hc_ => ?_; try have hc1_ := (band hc_).1)
  refine q27
  (apply dspec_t; exact rfl; exact rfl)
  (refine im_any fun hc_ => ?_; try have hc1_ := (band hc_).1)
  refine q1
  (apply dspec_t; exact rfl; exact rfl)
  (refine im_any fun hc_ => ?_; try have hc1_ := (band hc_).1)
  ((have hp_ := hc_; (try simp only [Bool.not_eq_true', Bool.not_eq_false', Bool.or_eq_true, Bool.and_eq_true, Bool.or_eq_false_iff, Bool.and_eq_false_iff, decide_eq_true_eq, decide_eq_false_iff_not, Decidable.not_not, Int.not_lt, Int.not_le, Bool.not_true, Bool.not_false, Bool.true_and, Bool.and_true, Bool.false_or, Bool.or_false, Bool.true_or, Bool.false_and, bne_eq_false_iff_eq, bne_iff_ne, beq_iff_eq, beq_eq_false_iff_ne, decide_eq_decide] at hp_)))
  ((apply M_call; (first | (refine EvM.mb _ rfl ?_; first | assumption | exact rfl) | exact EvM.plain rfl rfl); exact .fn _ _ _; (repeat (first | exact EvsM.nil | (apply EvsM.cons; first | (refine EvM.mb _ rfl ?_; first | assumption | exact rfl) | exact EvM.plain rfl rfl))); (first | exact h1 | exact h2 | exact h3 | exact h4)))
  (apply dspec_t; exact rfl; exact rfl)
  (refine im_any fun hc_ => ?_; try have hc1_ := (band hc_).1)
  refine q27
  (apply dspec_t; exact rfl; exact rfl)
  (refine im_any fun hc_ => ?_; try have hc1_ := (band hc_).1)
  refine q1
  (apply dspec_t; exact rfl; exact rfl)
  (refine im_any fun hc_ => ?_; try have hc1_ := (band hc_).1)
  ((have hp_ := hc_; (try simp only [Bool.not_eq_true', Bool.not_eq_false', Bool.or_eq_true, Bool.and_eq_true, Bool.or_eq_false_iff, Bool.and_eq_false_iff, decide_eq_true_eq, decide_eq_false_iff_not, Decidable.not_not, Int.not_lt, Int.not_le, Bool.not_true, Bool.not_false, Bool.true_and, Bool.and_true, Bool.false_or, Bool.or_false, Bool.true_or, Bool.false_and, bne_eq_false_iff_eq, bne_iff_ne, beq_iff_eq, beq_eq_false_iff_ne, decide_eq_decide] at hp_)))
  ((apply M_call; (first | (refine EvM.mb _ rfl ?_; first | assumption | exact rfl) | exact EvM.plain rfl rfl); exact .fn _ _ _; (repeat (first | exact EvsM.nil | (apply EvsM.cons; first | (refine EvM.mb _ rfl ?_; first | assumption | exact rfl) | exact EvM.plain rfl rfl))); (first | exact h1 | exact h2 | exact h3 | exact h4)))
  (apply dspec_t; exact rfl; exact rfl)
  (refine im_any fun hc_ => ?_; try have hc1_ := (band hc_).1)
  refine q22; refine q9 ?_
  (apply D_assign; exact rfl)
  (refine do_nil ?_ ?_; (first | ((try dsimp only [wkeys]); decide +kernel) | exact rfl))
  refine then_n ?_; refine awp_ret ?_
  rotate_left
  refine done_b rfl ?_
  rw [Bool.eq_iff_iff]
  unfold isCoB
  simp only [Bool.and_eq_true, decide_eq_true_eq, Int.toNat_natCast]
def isFrB (x : Ex) (a b : Nat) : Bool := !(a == b) && (x.evs.getD a default).ldB && isCoB x (x.from_.getD a 0).toNat b
theorem risFr_p (x : Ex) (hx : x.evs.length ≤ 65536) (ho : x.order.length ≤ 65536) (hr : ∀ i, (x.order.getD i default).2.length ≤ 65536) (hf : x.from_.length = x.evs.length) (hld : ∀ a, a < x.evs.length → (x.evs.getD a default).ldB = true → 0 ≤ x.from_.getD a 0 ∧ x.from_.getD a 0 < x.evs.length) (a b : Nat) (ha : a < x.evs.length) (hb : b < x.evs.length) : Pure E.P 29 [exOV x, .int .i64 a, .int .i64 b] (.bool (isFrB x a b)) := by
  have h1 := rloads_p (x.evs.getD a default)
  by_cases hg : a ≠ b ∧ (x.evs.getD a default).ldB = true
  · obtain ⟨g1, g2⟩ := hg
    obtain ⟨u1, u2⟩ := hld a ha g2
    obtain ⟨f, hfe⟩ := nonneg_nat u1
    have h2 := risCo_p x hx ho hr f b (by omega) hb
    rw [← hfe] at h2
    refine fn_of_awp Tryz.func29 (by decide) rfl Tryz.ntmps29 (Nat.le_of_ble_eq_true rfl) rfl ?_
    refine awp_seq ?_
    (refine ao_region ?_ (fun _ => ?_); exact rfl)
    refine q40 ?_; refine q12 ?_; refine ao_nil ?_; refine then_n ?_; refine awp_seq ?_
    (refine do_region (E := E) ?_ (fun _ => ?_); exact rfl)
    iterate 2 refine q38 ?_
    (apply D_neq; exact rfl; exact rfl)
    refine q38 ?_
    (apply dspec_t; exact rfl; exact rfl)
    (refine im_any fun hc_ => ?_; try have hc1_ := (band hc_).1)
    refine q2
    (apply dspec_t; exact rfl; exact rfl)
    (refine im_any fun hc_ => ?_; try have hc1_ := (band hc_).1)
    refine q3
    (apply dspec_t; exact rfl; exact rfl)
    (refine im_any fun hc_ => ?_; try have hc1_ := (band hc_).1)
    refine q1
    (apply dspec_t; exact rfl; exact rfl)
    (refine im_any fun hc_ => ?_; try have hc1_ := (band hc_).1)
    ((have hp_ := hc_; (try simp only [Bool.not_eq_true', Bool.not_eq_false', Bool.or_eq_true, Bool.and_eq_true, Bool.or_eq_false_iff, Bool.and_eq_false_iff, decide_eq_true_eq, decide_eq_false_iff_not, Decidable.not_not, Int.not_lt, Int.not_le, Bool.not_true, Bool.not_false, Bool.true_and, Bool.and_true, Bool.false_or, Bool.or_false, Bool.true_or, Bool.false_and, bne_eq_false_iff_eq, bne_iff_ne, beq_iff_eq, beq_eq_false_iff_ne, decide_eq_decide] at hp_)))
    refine q5
    (apply dspec_t; exact rfl; exact rfl)
    (refine im_any fun hc_ => ?_; try have hc1_ := (band hc_).1)
    refine q47
    (apply dspec_t; exact rfl; exact rfl)
    (refine im_any fun hc_ => ?_; try have hc1_ := (band hc_).1)
    ((have hp_ := hc_; (try simp only [Bool.not_eq_true', Bool.not_eq_false', Bool.or_eq_true, Bool.and_eq_true, Bool.or_eq_false_iff, Bool.and_eq_false_iff, decide_eq_true_eq, decide_eq_false_iff_not, Decidable.not_not, Int.not_lt, Int.not_le, Bool.not_true, Bool.not_false, Bool.true_and, Bool.and_true, Bool.false_or, Bool.or_false, Bool.true_or, Bool.false_and, bne_eq_false_iff_eq, bne_iff_ne, beq_iff_eq, beq_eq_false_iff_ne, decide_eq_decide] at hp_)))
    ((apply M_call; (first | (refine EvM.mb _ rfl ?_; first | assumption | exact rfl) | exact EvM.plain rfl rfl); exact .fn _ _ _; (repeat (first | exact EvsM.nil | (apply EvsM.cons; first | (refine EvM.mb _ rfl ?_; first | assumption | exact rfl) | exact EvM.plain rfl rfl))); (first | exact h1 | exact h2)))
    refine q9 ?_; refine q38 ?_
    (apply dspec_t; exact rfl; exact rfl)
    (refine im_any fun hc_ => ?_; try have hc1_ := (band hc_).1)
    refine q27
    (apply dspec_t; exact rfl; exact rfl)
    (refine im_any fun hc_ => ?_; try have hc1_ := (band hc_).1)
    refine q2
    (apply dspec_t; exact rfl; exact rfl)
    (refine im_any fun hc_ => ?_; try have hc1_ := (band hc_).1)
    refine q3
    (apply dspec_t; exact rfl; exact rfl)
    (refine im_any fun hc_ => ?_; try have hc1_ := (band hc_).1)
    refine q1
    (apply dspec_t; exact rfl; exact rfl)
    (refine im_any fun hc_ => ?_; try have hc1_ := (band hc_).1)
    ((have hp_ := hc_; (try simp only [Bool.not_eq_true', Bool.not_eq_false', Bool.or_eq_true, Bool.and_eq_true, Bool.or_eq_false_iff, Bool.and_eq_false_iff, decide_eq_true_eq, decide_eq_false_iff_not, Decidable.not_not, Int.not_lt, Int.not_le, Bool.not_true, Bool.not_false, Bool.true_and, Bool.and_true, Bool.false_or, Bool.or_false, Bool.true_or, Bool.false_and, bne_eq_false_iff_eq, bne_iff_ne, beq_iff_eq, beq_eq_false_iff_ne, decide_eq_decide] at hp_)))
    refine q5
    (apply dspec_t; exact rfl; exact rfl)
    (refine im_any fun hc_ => ?_; try have hc1_ := (band hc_).1)
    refine q6
    (apply dspec_t; exact rfl; exact rfl)
    (refine im_any fun hc_ => ?_; try have hc1_ := (band hc_).1)
    refine q1
    (apply dspec_t; exact rfl; exact rfl)
    (refine im_any fun hc_ => ?_; try have hc1_ := (band hc_).1)
    ((have hp_ := hc_; (try simp only [Bool.not_eq_true', Bool.not_eq_false', Bool.or_eq_true, Bool.and_eq_true, Bool.or_eq_false_iff, Bool.and_eq_false_iff, decide_eq_true_eq, decide_eq_false_iff_not, Decidable.not_not, Int.not_lt, Int.not_le, Bool.not_true, Bool.not_false, Bool.true_and, Bool.and_true, Bool.false_or, Bool.or_false, Bool.true_or, Bool.false_and, bne_eq_false_iff_eq, bne_iff_ne, beq_iff_eq, beq_eq_false_iff_ne, decide_eq_decide] at hp_)))
    ((apply M_call; (first | (refine EvM.mb _ rfl ?_; first | assumption | exact rfl) | exact EvM.plain rfl rfl); exact .fn _ _ _; (repeat (first | exact EvsM.nil | (apply EvsM.cons; first | (refine EvM.mb _ rfl ?_; first | assumption | exact rfl) | exact EvM.plain rfl rfl))); (first | exact h1 | exact h2)))
    refine q9 ?_
    (apply D_assign; exact rfl)
    (refine do_nil ?_ ?_; (first | ((try dsimp only [wkeys]); decide +kernel) | exact rfl))
    refine then_n ?_; refine awp_ret ?_
    rotate_left
    refine done_b rfl ?_
    unfold isFrB
    rw [hfe, Int.toNat_natCast, g2, show (a == b) = false by simpa using g1]
    simp [g1]
    try (intro _; omega)
  · by_cases e : a = b
    · subst e
      refine fn_of_awp Tryz.func29 (by decide) rfl Tryz.ntmps29 (Nat.le_of_ble_eq_true rfl) rfl ?_
      refine awp_seq ?_
      (refine ao_region ?_ (fun _ => ?_); exact rfl)
      refine q40 ?_; refine q12 ?_; refine ao_nil ?_; refine then_n ?_; refine awp_seq ?_
      (refine do_region (E := E) ?_ (fun _ => ?_); exact rfl)
      iterate 2 refine q38 ?_
      (apply D_neq; exact rfl; exact rfl)
      refine q38 ?_
      (apply dspec_t; exact rfl; exact rfl)
      (refine im_any fun hc_ => ?_; try have hc1_ := (band hc_).1)
      refine q2
      (apply dspec_t; exact rfl; exact rfl)
      (refine im_any fun hc_ => ?_; try have hc1_ := (band hc_).1)
      refine q3
      (apply dspec_t; exact rfl; exact rfl)
      (refine im_any fun hc_ => ?_; try have hc1_ := (band hc_).1)
      refine q1
      (apply dspec_t; exact rfl; exact rfl)
      (refine im_any fun hc_ => ?_; try have hc1_ := (band hc_).1)
      ((have hp_ := hc_; (try simp only [Bool.not_eq_true', Bool.not_eq_false', Bool.or_eq_true, Bool.and_eq_true, Bool.or_eq_false_iff, Bool.and_eq_false_iff, decide_eq_true_eq, decide_eq_false_iff_not, Decidable.not_not, Int.not_lt, Int.not_le, Bool.not_true, Bool.not_false, Bool.true_and, Bool.and_true, Bool.false_or, Bool.or_false, Bool.true_or, Bool.false_and, bne_eq_false_iff_eq, bne_iff_ne, beq_iff_eq, beq_eq_false_iff_ne, decide_eq_decide] at hp_)))
      refine q5
      (apply dspec_t; exact rfl; exact rfl)
      (refine im_any fun hc_ => ?_; try have hc1_ := (band hc_).1)
      refine q47
      (apply dspec_t; exact rfl; exact rfl)
      (refine im_any fun hc_ => ?_; try have hc1_ := (band hc_).1)
      ((have hp_ := hc_; (try simp only [Bool.not_eq_true', Bool.not_eq_false', Bool.or_eq_true, Bool.and_eq_true, Bool.or_eq_false_iff, Bool.and_eq_false_iff, decide_eq_true_eq, decide_eq_false_iff_not, Decidable.not_not, Int.not_lt, Int.not_le, Bool.not_true, Bool.not_false, Bool.true_and, Bool.and_true, Bool.false_or, Bool.or_false, Bool.true_or, Bool.false_and, bne_eq_false_iff_eq, bne_iff_ne, beq_iff_eq, beq_eq_false_iff_ne, decide_eq_decide] at hp_)))
      ((first | (apply M_call; (first | (refine EvM.mb _ rfl ?_; first | assumption | exact rfl) | exact EvM.plain rfl rfl); exact .fn _ _ _; (repeat (first | exact EvsM.nil | (apply EvsM.cons; first | (refine EvM.mb _ rfl ?_; first | assumption | exact rfl) | exact EvM.plain rfl rfl))); first | exact h1 | exact (show Pure E.P _ _ (.bool false) from by exfalso; simp at hc_))))
      refine q9 ?_; refine q38 ?_
      (apply dspec_t; exact rfl; exact rfl)
      (refine im_any fun hc_ => ?_; try have hc1_ := (band hc_).1)
      refine q27
      (apply dspec_t; exact rfl; exact rfl)
      (refine im_any fun hc_ => ?_; try have hc1_ := (band hc_).1)
      refine q2
      (apply dspec_t; exact rfl; exact rfl)
      (refine im_any fun hc_ => ?_; try have hc1_ := (band hc_).1)
      refine q3
      (apply dspec_t; exact rfl; exact rfl)
      (refine im_any fun hc_ => ?_; try have hc1_ := (band hc_).1)
      refine q1
      (apply dspec_t; exact rfl; exact rfl)
      (refine im_any fun hc_ => ?_; try have hc1_ := (band hc_).1)
      ((have hp_ := hc_; (try simp only [Bool.not_eq_true', Bool.not_eq_false', Bool.or_eq_true, Bool.and_eq_true, Bool.or_eq_false_iff, Bool.and_eq_false_iff, decide_eq_true_eq, decide_eq_false_iff_not, Decidable.not_not, Int.not_lt, Int.not_le, Bool.not_true, Bool.not_false, Bool.true_and, Bool.and_true, Bool.false_or, Bool.or_false, Bool.true_or, Bool.false_and, bne_eq_false_iff_eq, bne_iff_ne, beq_iff_eq, beq_eq_false_iff_ne, decide_eq_decide] at hp_)))
      refine q5
      (apply dspec_t; exact rfl; exact rfl)
      (refine im_any fun hc_ => ?_; try have hc1_ := (band hc_).1)
      refine q6
      (apply dspec_t; exact rfl; exact rfl)
      (refine im_any fun hc_ => ?_; try have hc1_ := (band hc_).1)
      refine q1
      (apply dspec_t; exact rfl; exact rfl)
      (refine im_any fun hc_ => ?_; try have hc1_ := (band hc_).1)
      ((have hp_ := hc_; (try simp only [Bool.not_eq_true', Bool.not_eq_false', Bool.or_eq_true, Bool.and_eq_true, Bool.or_eq_false_iff, Bool.and_eq_false_iff, decide_eq_true_eq, decide_eq_false_iff_not, Decidable.not_not, Int.not_lt, Int.not_le, Bool.not_true, Bool.not_false, Bool.true_and, Bool.and_true, Bool.false_or, Bool.or_false, Bool.true_or, Bool.false_and, bne_eq_false_iff_eq, bne_iff_ne, beq_iff_eq, beq_eq_false_iff_ne, decide_eq_decide] at hp_)))
      ((first | (apply M_call; (first | (refine EvM.mb _ rfl ?_; first | assumption | exact rfl) | exact EvM.plain rfl rfl); exact .fn _ _ _; (repeat (first | exact EvsM.nil | (apply EvsM.cons; first | (refine EvM.mb _ rfl ?_; first | assumption | exact rfl) | exact EvM.plain rfl rfl))); first | exact h1 | exact (show Pure E.P _ _ (.bool false) from by exfalso; simp at hc_))))
      refine q9 ?_
      (apply D_assign; exact rfl)
      (refine do_nil ?_ ?_; (first | ((try dsimp only [wkeys]); decide +kernel) | exact rfl))
      refine then_n ?_; refine awp_ret ?_
      rotate_left
      all_goals (refine done_b rfl ?_)
      all_goals (unfold isFrB; simp)
    · have g2 : (x.evs.getD a default).ldB = false := by
        cases h : (x.evs.getD a default).ldB with
        | false => rfl
        | true => exact (hg ⟨e, h⟩).elim
      rw [g2] at h1
      refine fn_of_awp Tryz.func29 (by decide) rfl Tryz.ntmps29 (Nat.le_of_ble_eq_true rfl) rfl ?_
      refine awp_seq ?_
      (refine ao_region ?_ (fun _ => ?_); exact rfl)
      refine q40 ?_; refine q12 ?_; refine ao_nil ?_; refine then_n ?_; refine awp_seq ?_
      (refine do_region (E := E) ?_ (fun _ => ?_); exact rfl)
      iterate 2 refine q38 ?_
      (apply D_neq; exact rfl; exact rfl)
      refine q38 ?_
      (apply dspec_t; exact rfl; exact rfl)
      (refine im_any fun hc_ => ?_; try have hc1_ := (band hc_).1)
      refine q2
      (apply dspec_t; exact rfl; exact rfl)
      (refine im_any fun hc_ => ?_; try have hc1_ := (band hc_).1)
      refine q3
      (apply dspec_t; exact rfl; exact rfl)
      (refine im_any fun hc_ => ?_; try have hc1_ := (band hc_).1)
      refine q1
      (apply dspec_t; exact rfl; exact rfl)
      (refine im_any fun hc_ => ?_; try have hc1_ := (band hc_).1)
      ((have hp_ := hc_; (try simp only [Bool.not_eq_true', Bool.not_eq_false', Bool.or_eq_true, Bool.and_eq_true, Bool.or_eq_false_iff, Bool.and_eq_false_iff, decide_eq_true_eq, decide_eq_false_iff_not, Decidable.not_not, Int.not_lt, Int.not_le, Bool.not_true, Bool.not_false, Bool.true_and, Bool.and_true, Bool.false_or, Bool.or_false, Bool.true_or, Bool.false_and, bne_eq_false_iff_eq, bne_iff_ne, beq_iff_eq, beq_eq_false_iff_ne, decide_eq_decide] at hp_)))
      refine q5
      (apply dspec_t; exact rfl; exact rfl)
      (refine im_any fun hc_ => ?_; try have hc1_ := (band hc_).1)
      refine q47
      (apply dspec_t; exact rfl; exact rfl)
      (refine im_any fun hc_ => ?_; try have hc1_ := (band hc_).1)
      ((have hp_ := hc_; (try simp only [Bool.not_eq_true', Bool.not_eq_false', Bool.or_eq_true, Bool.and_eq_true, Bool.or_eq_false_iff, Bool.and_eq_false_iff, decide_eq_true_eq, decide_eq_false_iff_not, Decidable.not_not, Int.not_lt, Int.not_le, Bool.not_true, Bool.not_false, Bool.true_and, Bool.and_true, Bool.false_or, Bool.or_false, Bool.true_or, Bool.false_and, bne_eq_false_iff_eq, bne_iff_ne, beq_iff_eq, beq_eq_false_iff_ne, decide_eq_decide] at hp_)))
      ((first | (apply M_call; (first | (refine EvM.mb _ rfl ?_; first | assumption | exact rfl) | exact EvM.plain rfl rfl); exact .fn _ _ _; (repeat (first | exact EvsM.nil | (apply EvsM.cons; first | (refine EvM.mb _ rfl ?_; first | assumption | exact rfl) | exact EvM.plain rfl rfl))); first | exact h1 | exact (show Pure E.P _ _ (.bool false) from by exfalso; simp at hc_))))
      refine q9 ?_; refine q38 ?_
      (apply dspec_t; exact rfl; exact rfl)
      (refine im_any fun hc_ => ?_; try have hc1_ := (band hc_).1)
      refine q27
      (apply dspec_t; exact rfl; exact rfl)
      (refine im_any fun hc_ => ?_; try have hc1_ := (band hc_).1)
      refine q2
      (apply dspec_t; exact rfl; exact rfl)
      (refine im_any fun hc_ => ?_; try have hc1_ := (band hc_).1)
      refine q3
      (apply dspec_t; exact rfl; exact rfl)
      (refine im_any fun hc_ => ?_; try have hc1_ := (band hc_).1)
      refine q1
      (apply dspec_t; exact rfl; exact rfl)
      (refine im_any fun hc_ => ?_; try have hc1_ := (band hc_).1)
      ((have hp_ := hc_; (try simp only [Bool.not_eq_true', Bool.not_eq_false', Bool.or_eq_true, Bool.and_eq_true, Bool.or_eq_false_iff, Bool.and_eq_false_iff, decide_eq_true_eq, decide_eq_false_iff_not, Decidable.not_not, Int.not_lt, Int.not_le, Bool.not_true, Bool.not_false, Bool.true_and, Bool.and_true, Bool.false_or, Bool.or_false, Bool.true_or, Bool.false_and, bne_eq_false_iff_eq, bne_iff_ne, beq_iff_eq, beq_eq_false_iff_ne, decide_eq_decide] at hp_)))
      refine q5
      (apply dspec_t; exact rfl; exact rfl)
      (refine im_any fun hc_ => ?_; try have hc1_ := (band hc_).1)
      refine q6
      (apply dspec_t; exact rfl; exact rfl)
      (refine im_any fun hc_ => ?_; try have hc1_ := (band hc_).1)
      refine q1
      (apply dspec_t; exact rfl; exact rfl)
      (refine im_any fun hc_ => ?_; try have hc1_ := (band hc_).1)
      ((have hp_ := hc_; (try simp only [Bool.not_eq_true', Bool.not_eq_false', Bool.or_eq_true, Bool.and_eq_true, Bool.or_eq_false_iff, Bool.and_eq_false_iff, decide_eq_true_eq, decide_eq_false_iff_not, Decidable.not_not, Int.not_lt, Int.not_le, Bool.not_true, Bool.not_false, Bool.true_and, Bool.and_true, Bool.false_or, Bool.or_false, Bool.true_or, Bool.false_and, bne_eq_false_iff_eq, bne_iff_ne, beq_iff_eq, beq_eq_false_iff_ne, decide_eq_decide] at hp_)))
      ((first | (apply M_call; (first | (refine EvM.mb _ rfl ?_; first | assumption | exact rfl) | exact EvM.plain rfl rfl); exact .fn _ _ _; (repeat (first | exact EvsM.nil | (apply EvsM.cons; first | (refine EvM.mb _ rfl ?_; first | assumption | exact rfl) | exact EvM.plain rfl rfl))); first | exact h1 | exact (show Pure E.P _ _ (.bool false) from by exfalso; simp at hc_))))
      refine q9 ?_
      (apply D_assign; exact rfl)
      (refine do_nil ?_ ?_; (first | ((try dsimp only [wkeys]); decide +kernel) | exact rfl))
      refine then_n ?_; refine awp_ret ?_
      rotate_left
      all_goals (refine done_b rfl ?_)
      all_goals (unfold isFrB; rw [g2]; simp)
/-- what an execution that may be is, for the reference's relations -/
structure Ex.rel (x : Ex) : Prop where
  fit : x.fit
  check : checkI x = 0
theorem Ex.rel.len {x : Ex} (h : x.rel) : x.evs.length ≤ 64 := (check_zero h.check).1
theorem Ex.rel.from_ {x : Ex} (h : x.rel) : x.from_.length = x.evs.length := from_len (check_zero h.check).2.2.1
theorem Ex.rel.rows {x : Ex} (h : x.rel) (i : Nat) : (x.order.getD i default).2.length ≤ 65536 := by
  rcases Nat.lt_or_ge i x.order.length with hh | hh
  · rw [List.getD_eq_getElem?_getD, List.getElem?_eq_getElem hh]
    exact h.fit.2 _ (List.getElem_mem hh)
  · rw [List.getD_eq_getElem?_getD, List.getElem?_eq_none hh]
    exact Nat.zero_le _
theorem Ex.rel.ord {x : Ex} (h : x.rel) : x.order.length ≤ 65536 := by
  have h4 := (check_zero h.check).2.2.2
  unfold orderB at h4
  simp only [Bool.and_eq_true, decide_eq_true_eq] at h4
  have := addrsTo_len x.evs
  have := h.len
  omega
theorem Ex.rel.src {x : Ex} (h : x.rel) (a : Nat) (ha : a < x.evs.length) (hl : (x.evs.getD a default).ldB = true) : 0 ≤ x.from_.getD a 0 ∧ x.from_.getD a 0 < x.evs.length := by
  obtain ⟨u1, u2⟩ := from_ld (check_zero h.check).2.2.1 ha
  exact ⟨u1.1 hl, (u2 hl).1⟩
theorem refPairs_congr {n : Nat} {f g : Nat → Nat → Bool} (h : ∀ a b, a < n → b < n → f a b = g a b) : refPairs n f = refPairs n g := by
  unfold refPairs
  rw [List.flatMap_def, List.flatMap_def]
  congr 1
  refine List.map_congr_left fun a ha => ?_
  congr 1
  exact List.filter_congr fun b hb => h a b (List.mem_range.1 ha) (List.mem_range.1 hb)
theorem fr_isB {x : Ex} (h : x.rel) {a b : Nat} (ha : a < x.evs.length) (hb : b < x.evs.length) : frBr x a b = isFrB x a b := by
  unfold frBr isFrB
  cases hl : (x.evs.getD a default).ldB with
  | false => simp
  | true =>
    obtain ⟨u1, u2⟩ := h.src a ha hl
    rw [co_isB h.check (by omega) hb]
theorem co_refB {x : Ex} (h : x.rel) : coF x = refPairs x.evs.length (isCoB x) := by
  rw [co_ref h.check]
  exact refPairs_congr fun a b ha hb => co_isB h.check ha hb
theorem fr_refB {x : Ex} (h : x.rel) : frF x = refPairs x.evs.length (isFrB x) := by
  rw [fr_ref h.check]
  exact refPairs_congr fun a b ha hb => fr_isB h ha hb
set_option maxHeartbeats 4000000 in
theorem rpairs1_p (x : Ex) (hx : x.evs.length ≤ 4096) (f : Nat → Nat → Bool) (hrel : ∀ a b : Nat, a < x.evs.length → b < x.evs.length → Pure E.P 26 [exOV x, .int .i64 a, .int .i64 b] (.bool (f a b))) : Pure E.P 12 [exOV x, .int .i64 1] (.d (pairsTV (refPairs x.evs.length f))) := by
  have f2 : Frozen 2 := ⟨trivial⟩
  have hsq : x.evs.length * x.evs.length ≤ 16777216 := Nat.mul_le_mul hx hx
  refine fn_of_awp Tryz.func12 (by decide) rfl Tryz.ntmps12 (Nat.le_of_ble_eq_true rfl) rfl ?_
  refine awp_seq ?_
  (refine ao_region ?_ (fun _ => ?_); exact rfl)
  refine q34 ?_; refine q51 ?_; refine ao_nil ?_; refine then_n ?_; refine awp_seq ?_
  (refine ao_region ?_ (fun _ => ?_); exact rfl)
  refine q51 ?_; refine ao_nil ?_; refine then_n ?_; refine awp_seq ?_
  (refine ao_region ?_ (fun _ => ?_); exact rfl)
  refine q32 ?_; refine q23 ?_; refine q13 ?_; refine q12 ?_; refine ao_nil ?_; refine then_n ?_
  iterate 2 refine awp_seq ?_
  (refine ao_region ?_ (fun _ => ?_); exact rfl)
  refine q12 ?_; refine ao_nil ?_; refine then_n ?_; refine awp_block ?_
  rotate_left
  rename_i v5 _ _
  refine awp_loop (X := Nat × Stamp × List (Int × Int)) (fun p => tmL [(1, .int .i64 1), (2, .d (.pt (exRow x) 0)), (5, .os 5 p.2.1 2 p.2.2.length), (6, .int .i64 x.evs.length), (7, .int .i64 p.1)]) (fun p => stL [(5, (p.2.1, ⟨2, p.2.2.map pairO'⟩))])
    (fun p => p.1 ≤ x.evs.length ∧ p.2.2 = prTo x.evs.length f p.1) (fun p => x.evs.length - p.1) (0, (v5, 0), []) ⟨Nat.zero_le _, rfl⟩ (by repeat' (first | exact le_nil _ | exact sle_nil _ | refine le_cons rfl ?_ | refine sle_cons rfl ?_ | (refine le_cons_os rfl ?_ ?_; (simp)) | (refine le_cons_int rfl ?_ ?_; (simp)) | (refine sle_cons' rfl ?_ ?_; (simp)))) (by repeat' (first | exact le_nil _ | exact sle_nil _ | refine le_cons rfl ?_ | refine sle_cons rfl ?_)) ?_
  rintro ⟨a, τ, l⟩ ⟨hk, hl⟩
  dsimp only at hk hl ⊢
  by_cases hlt : a < x.evs.length
  · iterate 2 refine awp_seq ?_
    (refine ao_region ?_ (fun _ => ?_); exact rfl)
    iterate 2 refine q11 ?_
    refine q37 ?_; refine ao_nil ?_; refine then_n ?_
    (apply awp_cond; exact rfl)
    (refine im_dt (fun _ => ?_); (try (exfalso; omega)))
    refine awp_skip ?_; refine then_n ?_; refine awp_seq ?_; refine awp_block ?_; refine awp_seq ?_
    (refine ao_region ?_ (fun _ => ?_); exact rfl)
    refine q12 ?_; refine ao_nil ?_; refine then_n ?_; refine awp_block ?_
    rotate_left
    (refine im_df (fun _ => ?_); (try (exfalso; omega)))
    refine awp_loop (X := Nat × Stamp × List (Int × Int)) (fun p => tmL [(1, .int .i64 1), (2, .d (.pt (exRow x) 0)), (5, .os 5 p.2.1 2 p.2.2.length), (6, .int .i64 x.evs.length), (7, .int .i64 a), (8, .int .i64 p.1)]) (fun p => stL [(5, (p.2.1, ⟨2, p.2.2.map pairO'⟩))])
      (fun p => p.1 ≤ x.evs.length ∧ p.2.2 = l ++ prRow f a p.1) (fun p => x.evs.length - p.1) (0, τ, l) ⟨Nat.zero_le _, by simp [prRow]⟩ (by repeat' (first | exact le_nil _ | exact sle_nil _ | refine le_cons rfl ?_ | refine sle_cons rfl ?_)) (by repeat' (first | exact le_nil _ | exact sle_nil _ | refine le_cons rfl ?_ | refine sle_cons rfl ?_)) ?_
    rintro ⟨b, τ2, l2⟩ ⟨hk2, hl2⟩
    dsimp only at hk2 hl2 ⊢
    have hlen : l2.length ≤ 16777216 + 4096 := by
      rw [hl2, List.length_append, hl]
      have h1 := prTo_len x.evs.length f a
      have h2 := prRow_len f a b
      have h3 : a * x.evs.length ≤ x.evs.length * x.evs.length := Nat.mul_le_mul hk (Nat.le_refl _)
      omega
    by_cases hlt2 : b < x.evs.length
    · have hr := hrel a b hlt hlt2
      iterate 2 refine awp_seq ?_
      (refine ao_region ?_ (fun _ => ?_); exact rfl)
      iterate 2 refine q11 ?_
      refine q37 ?_; refine ao_nil ?_; refine then_n ?_
      (apply awp_cond; exact rfl)
      (refine im_dt (fun _ => ?_); (try (exfalso; omega)))
      refine awp_skip ?_; refine then_n ?_; refine awp_seq ?_; refine awp_block ?_; refine awp_seq ?_
      (refine ao_region ?_ (fun _ => ?_); exact rfl)
      refine q12 ?_; refine ao_nil ?_; refine then_n ?_
      iterate 2 refine awp_seq ?_
      (refine ao_region ?_ (fun _ => ?_); exact rfl)
      refine q11 ?_; refine ao_nil ?_; refine then_n ?_; refine awp_block ?_; refine awp_seq ?_
      (refine ao_region ?_ (fun _ => ?_); exact rfl)
      refine q46 ?_; refine q12 ?_; refine ao_nil ?_; refine then_n ?_
      (apply awp_cond; exact rfl)
      (refine im_dt (fun _ => ?_); (try (exfalso; omega)))
      (refine ao_region ?_ (fun _ => ?_); exact rfl)
      refine q33 ?_
      iterate 2 refine q11 ?_
      (first
        | (apply S_call; exact rfl; exact .fn _ _ _; exact rfl; exact hr)
        | (apply D_call; exact rfl; exact .fn _ _ _; exact rfl; exact hr))
      refine q12 ?_; refine ao_nil ?_; refine blk_n ?_; refine then_n ?_; refine awp_seq ?_
      (refine ao_region ?_ (fun _ => ?_); exact rfl)
      refine q11 ?_; refine ao_nil ?_; refine then_n ?_
      (apply awp_cond; exact rfl)
      (refine im_vt (fun _ => ?_))
      (refine ao_region ?_ (fun _ => ?_); exact rfl)
      iterate 3 refine q11 ?_
      refine q54 ?_
      (apply S_buildSlice; exact rfl; exact rfl; exact rfl; decide; decide; decide; exact rfl; exact rfl)
      refine q19 ?_
      (apply S_ren; exact rfl; exact rfl)
      refine ao_nil ?_; refine blk_n ?_; refine then_n ?_
      (refine ao_region ?_ (fun _ => ?_); exact rfl)
      refine q11 ?_; refine q36 ?_; refine q12 ?_; refine ao_nil ?_; refine then_n ?_
      rotate_left
      (refine im_vf (fun _ => ?_))
      refine awp_skip ?_; refine blk_n ?_; refine then_n ?_
      (refine ao_region ?_ (fun _ => ?_); exact rfl)
      refine q11 ?_; refine q36 ?_; refine q12 ?_; refine ao_nil ?_; refine then_n ?_
      rotate_left
      iterate 2 (refine im_df (fun _ => ?_); (try (exfalso; omega)))
      · rename_i hy v24 _
        exact round' (b + 1, (v24, 6), l2 ++ [((a : Int), (b : Int))]) ⟨by dsimp only; omega, by dsimp only; rw [hl2, prRow_yes hy, List.append_assoc]⟩ (by dsimp only; omega) (by repeat' (first | exact le_nil _ | exact sle_nil _ | refine le_cons rfl ?_ | refine sle_cons rfl ?_ | (refine le_cons_os rfl ?_ ?_; (simp <;> rfl)) | (refine le_cons_int rfl ?_ ?_; (simp <;> rfl)) | (refine sle_cons' rfl ?_ ?_; (simp <;> rfl)))) (by repeat' (first | exact le_nil _ | exact sle_nil _ | refine le_cons rfl ?_ | refine sle_cons rfl ?_ | (refine le_cons_os rfl ?_ ?_; (simp <;> rfl)) | (refine le_cons_int rfl ?_ ?_; (simp <;> rfl)) | (refine sle_cons' rfl ?_ ?_; (simp <;> rfl))))
      · rename_i hy _
        exact round' (b + 1, τ2, l2) ⟨by dsimp only; omega, by dsimp only; rw [hl2, prRow_no (by rw [hy]; decide)]⟩ (by dsimp only; omega) (by repeat' (first | exact le_nil _ | exact sle_nil _ | refine le_cons rfl ?_ | refine sle_cons rfl ?_)) (by repeat' (first | exact le_nil _ | exact sle_nil _ | refine le_cons rfl ?_ | refine sle_cons rfl ?_))
    · have hb : b = x.evs.length := by omega
      subst hb
      iterate 2 refine awp_seq ?_
      (refine ao_region ?_ (fun _ => ?_); exact rfl)
      iterate 2 refine q11 ?_
      refine q37 ?_; refine ao_nil ?_; refine then_n ?_
      (apply awp_cond; exact rfl)
      (refine im_dt (fun _ => ?_); (try (exfalso; omega)))
      (refine im_df (fun _ => ?_); (try (exfalso; omega)))
      refine awp_exit ?_
      iterate 2 refine then_x ?_
      refine blk_x ?_; refine blk_n ?_; refine then_n ?_
      (refine ao_region ?_ (fun _ => ?_); exact rfl)
      refine q11 ?_; refine q36 ?_; refine q12 ?_; refine ao_nil ?_; refine then_n ?_
      rotate_left
      exact round' (a + 1, τ2, l2) ⟨by dsimp only; omega, by dsimp only; rw [hl2, prTo_succ, hl]⟩ (by dsimp only; omega) (by repeat' (first | exact le_nil _ | exact sle_nil _ | refine le_cons rfl ?_ | refine sle_cons rfl ?_)) (by repeat' (first | exact le_nil _ | exact sle_nil _ | refine le_cons rfl ?_ | refine sle_cons rfl ?_))
  · have f5 : Frozen 5 := ⟨trivial⟩
    have hfz := pair_fz
    iterate 2 refine awp_seq ?_
    (refine ao_region ?_ (fun _ => ?_); exact rfl)
    iterate 2 refine q11 ?_
    refine q37 ?_; refine ao_nil ?_; refine then_n ?_
    (apply awp_cond; exact rfl)
    (refine im_dt (fun _ => ?_); (try (exfalso; omega)))
    (refine im_df (fun _ => ?_); (try (exfalso; omega)))
    refine awp_exit ?_
    iterate 2 refine then_x ?_
    refine blk_x ?_; refine then_n ?_; refine awp_seq ?_
    (refine ao_region ?_ (fun _ => ?_); exact rfl)
    refine q41 ?_; refine q12 ?_; refine ao_nil ?_; refine then_n ?_; refine awp_ret ?_
    rotate_left
    refine done_r rfl ?_
    have ha : a = x.evs.length := by omega
    rw [hl, ha]; rfl
set_option maxHeartbeats 4000000 in
theorem rpairs2_p (x : Ex) (hx : x.evs.length ≤ 4096) (f : Nat → Nat → Bool) (hrel : ∀ a b : Nat, a < x.evs.length → b < x.evs.length → Pure E.P 27 [exOV x, .int .i64 a, .int .i64 b] (.bool (f a b))) : Pure E.P 12 [exOV x, .int .i64 2] (.d (pairsTV (refPairs x.evs.length f))) := by
  have f2 : Frozen 2 := ⟨trivial⟩
  have hsq : x.evs.length * x.evs.length ≤ 16777216 := Nat.mul_le_mul hx hx
  refine fn_of_awp Tryz.func12 (by decide) rfl Tryz.ntmps12 (Nat.le_of_ble_eq_true rfl) rfl ?_
  refine awp_seq ?_
  (refine ao_region ?_ (fun _ => ?_); exact rfl)
  refine q34 ?_; refine q51 ?_; refine ao_nil ?_; refine then_n ?_; refine awp_seq ?_
  (refine ao_region ?_ (fun _ => ?_); exact rfl)
  refine q51 ?_; refine ao_nil ?_; refine then_n ?_; refine awp_seq ?_
  (refine ao_region ?_ (fun _ => ?_); exact rfl)
  refine q32 ?_; refine q23 ?_; refine q13 ?_; refine q12 ?_; refine ao_nil ?_; refine then_n ?_
  iterate 2 refine awp_seq ?_
  (refine ao_region ?_ (fun _ => ?_); exact rfl)
  refine q12 ?_; refine ao_nil ?_; refine then_n ?_; refine awp_block ?_
  rotate_left
  rename_i v5 _ _
  refine awp_loop (X := Nat × Stamp × List (Int × Int)) (fun p => tmL [(1, .int .i64 2), (2, .d (.pt (exRow x) 0)), (5, .os 5 p.2.1 2 p.2.2.length), (6, .int .i64 x.evs.length), (7, .int .i64 p.1)]) (fun p => stL [(5, (p.2.1, ⟨2, p.2.2.map pairO'⟩))])
    (fun p => p.1 ≤ x.evs.length ∧ p.2.2 = prTo x.evs.length f p.1) (fun p => x.evs.length - p.1) (0, (v5, 0), []) ⟨Nat.zero_le _, rfl⟩ (by repeat' (first | exact le_nil _ | exact sle_nil _ | refine le_cons rfl ?_ | refine sle_cons rfl ?_ | (refine le_cons_os rfl ?_ ?_; (simp)) | (refine le_cons_int rfl ?_ ?_; (simp)) | (refine sle_cons' rfl ?_ ?_; (simp)))) (by repeat' (first | exact le_nil _ | exact sle_nil _ | refine le_cons rfl ?_ | refine sle_cons rfl ?_)) ?_
  rintro ⟨a, τ, l⟩ ⟨hk, hl⟩
  dsimp only at hk hl ⊢
  by_cases hlt : a < x.evs.length
  · iterate 2 refine awp_seq ?_
    (refine ao_region ?_ (fun _ => ?_); exact rfl)
    iterate 2 refine q11 ?_
    refine q37 ?_; refine ao_nil ?_; refine then_n ?_
    (apply awp_cond; exact rfl)
    (refine im_dt (fun _ => ?_); (try (exfalso; omega)))
    refine awp_skip ?_; refine then_n ?_; refine awp_seq ?_; refine awp_block ?_; refine awp_seq ?_
    (refine ao_region ?_ (fun _ => ?_); exact rfl)
    refine q12 ?_; refine ao_nil ?_; refine then_n ?_; refine awp_block ?_
    rotate_left
    (refine im_df (fun _ => ?_); (try (exfalso; omega)))
    refine awp_loop (X := Nat × Stamp × List (Int × Int)) (fun p => tmL [(1, .int .i64 2), (2, .d (.pt (exRow x) 0)), (5, .os 5 p.2.1 2 p.2.2.length), (6, .int .i64 x.evs.length), (7, .int .i64 a), (8, .int .i64 p.1)]) (fun p => stL [(5, (p.2.1, ⟨2, p.2.2.map pairO'⟩))])
      (fun p => p.1 ≤ x.evs.length ∧ p.2.2 = l ++ prRow f a p.1) (fun p => x.evs.length - p.1) (0, τ, l) ⟨Nat.zero_le _, by simp [prRow]⟩ (by repeat' (first | exact le_nil _ | exact sle_nil _ | refine le_cons rfl ?_ | refine sle_cons rfl ?_)) (by repeat' (first | exact le_nil _ | exact sle_nil _ | refine le_cons rfl ?_ | refine sle_cons rfl ?_)) ?_
    rintro ⟨b, τ2, l2⟩ ⟨hk2, hl2⟩
    dsimp only at hk2 hl2 ⊢
    have hlen : l2.length ≤ 16777216 + 4096 := by
      rw [hl2, List.length_append, hl]
      have h1 := prTo_len x.evs.length f a
      have h2 := prRow_len f a b
      have h3 : a * x.evs.length ≤ x.evs.length * x.evs.length := Nat.mul_le_mul hk (Nat.le_refl _)
      omega
    by_cases hlt2 : b < x.evs.length
    · have hr := hrel a b hlt hlt2
      iterate 2 refine awp_seq ?_
      (refine ao_region ?_ (fun _ => ?_); exact rfl)
      iterate 2 refine q11 ?_
      refine q37 ?_; refine ao_nil ?_; refine then_n ?_
      (apply awp_cond; exact rfl)
      (refine im_dt (fun _ => ?_); (try (exfalso; omega)))
      refine awp_skip ?_; refine then_n ?_; refine awp_seq ?_; refine awp_block ?_; refine awp_seq ?_
      (refine ao_region ?_ (fun _ => ?_); exact rfl)
      refine q12 ?_; refine ao_nil ?_; refine then_n ?_
      iterate 2 refine awp_seq ?_
      (refine ao_region ?_ (fun _ => ?_); exact rfl)
      refine q11 ?_; refine ao_nil ?_; refine then_n ?_; refine awp_block ?_; refine awp_seq ?_
      (refine ao_region ?_ (fun _ => ?_); exact rfl)
      refine q46 ?_; refine q12 ?_; refine ao_nil ?_; refine then_n ?_
      (apply awp_cond; exact rfl)
      (refine im_dt (fun _ => ?_); (try (exfalso; omega)))
      (refine im_df (fun _ => ?_); (try (exfalso; omega)))
      refine awp_seq ?_
      (refine ao_region ?_ (fun _ => ?_); exact rfl)
      refine q46 ?_; refine q12 ?_; refine ao_nil ?_; refine then_n ?_
      (apply awp_cond; exact rfl)
      (refine im_dt (fun _ => ?_); (try (exfalso; omega)))
      (refine ao_region ?_ (fun _ => ?_); exact rfl)
      refine q33 ?_
      iterate 2 refine q11 ?_
      (first
        | (apply S_call; exact rfl; exact .fn _ _ _; exact rfl; exact hr)
        | (apply D_call; exact rfl; exact .fn _ _ _; exact rfl; exact hr))
      refine q12 ?_; refine ao_nil ?_; refine blk_n ?_; refine then_n ?_; refine awp_seq ?_
      (refine ao_region ?_ (fun _ => ?_); exact rfl)
      refine q11 ?_; refine ao_nil ?_; refine then_n ?_
      (apply awp_cond; exact rfl)
      (refine im_vt (fun _ => ?_))
      (refine ao_region ?_ (fun _ => ?_); exact rfl)
      iterate 3 refine q11 ?_
      refine q54 ?_
      (apply S_buildSlice; exact rfl; exact rfl; exact rfl; decide; decide; decide; exact rfl; exact rfl)
      refine q19 ?_
      (apply S_ren; exact rfl; exact rfl)
      refine ao_nil ?_; refine blk_n ?_; refine then_n ?_
      (refine ao_region ?_ (fun _ => ?_); exact rfl)
      refine q11 ?_; refine q36 ?_; refine q12 ?_; refine ao_nil ?_; refine then_n ?_
      rotate_left
      (refine im_vf (fun _ => ?_))
      refine awp_skip ?_; refine blk_n ?_; refine then_n ?_
      (refine ao_region ?_ (fun _ => ?_); exact rfl)
      refine q11 ?_; refine q36 ?_; refine q12 ?_; refine ao_nil ?_; refine then_n ?_
      rotate_left
      iterate 2 (refine im_df (fun _ => ?_); (try (exfalso; omega)))
      · rename_i hy v24 _
        exact round' (b + 1, (v24, 6), l2 ++ [((a : Int), (b : Int))]) ⟨by dsimp only; omega, by dsimp only; rw [hl2, prRow_yes hy, List.append_assoc]⟩ (by dsimp only; omega) (by repeat' (first | exact le_nil _ | exact sle_nil _ | refine le_cons rfl ?_ | refine sle_cons rfl ?_ | (refine le_cons_os rfl ?_ ?_; (simp <;> rfl)) | (refine le_cons_int rfl ?_ ?_; (simp <;> rfl)) | (refine sle_cons' rfl ?_ ?_; (simp <;> rfl)))) (by repeat' (first | exact le_nil _ | exact sle_nil _ | refine le_cons rfl ?_ | refine sle_cons rfl ?_ | (refine le_cons_os rfl ?_ ?_; (simp <;> rfl)) | (refine le_cons_int rfl ?_ ?_; (simp <;> rfl)) | (refine sle_cons' rfl ?_ ?_; (simp <;> rfl))))
      · rename_i hy _
        exact round' (b + 1, τ2, l2) ⟨by dsimp only; omega, by dsimp only; rw [hl2, prRow_no (by rw [hy]; decide)]⟩ (by dsimp only; omega) (by repeat' (first | exact le_nil _ | exact sle_nil _ | refine le_cons rfl ?_ | refine sle_cons rfl ?_)) (by repeat' (first | exact le_nil _ | exact sle_nil _ | refine le_cons rfl ?_ | refine sle_cons rfl ?_))
    · have hb : b = x.evs.length := by omega
      subst hb
      iterate 2 refine awp_seq ?_
      (refine ao_region ?_ (fun _ => ?_); exact rfl)
      iterate 2 refine q11 ?_
      refine q37 ?_; refine ao_nil ?_; refine then_n ?_
      (apply awp_cond; exact rfl)
      (refine im_dt (fun _ => ?_); (try (exfalso; omega)))
      (refine im_df (fun _ => ?_); (try (exfalso; omega)))
      refine awp_exit ?_
      iterate 2 refine then_x ?_
      refine blk_x ?_; refine blk_n ?_; refine then_n ?_
      (refine ao_region ?_ (fun _ => ?_); exact rfl)
      refine q11 ?_; refine q36 ?_; refine q12 ?_; refine ao_nil ?_; refine then_n ?_
      rotate_left
      exact round' (a + 1, τ2, l2) ⟨by dsimp only; omega, by dsimp only; rw [hl2, prTo_succ, hl]⟩ (by dsimp only; omega) (by repeat' (first | exact le_nil _ | exact sle_nil _ | refine le_cons rfl ?_ | refine sle_cons rfl ?_)) (by repeat' (first | exact le_nil _ | exact sle_nil _ | refine le_cons rfl ?_ | refine sle_cons rfl ?_))
  · have f5 : Frozen 5 := ⟨trivial⟩
    have hfz := pair_fz
    iterate 2 refine awp_seq ?_
    (refine ao_region ?_ (fun _ => ?_); exact rfl)
    iterate 2 refine q11 ?_
    refine q37 ?_; refine ao_nil ?_; refine then_n ?_
    (apply awp_cond; exact rfl)
    (refine im_dt (fun _ => ?_); (try (exfalso; omega)))
    (refine im_df (fun _ => ?_); (try (exfalso; omega)))
    refine awp_exit ?_
    iterate 2 refine then_x ?_
    refine blk_x ?_; refine then_n ?_; refine awp_seq ?_
    (refine ao_region ?_ (fun _ => ?_); exact rfl)
    refine q41 ?_; refine q12 ?_; refine ao_nil ?_; refine then_n ?_; refine awp_ret ?_
    rotate_left
    refine done_r rfl ?_
    have ha : a = x.evs.length := by omega
    rw [hl, ha]; rfl
set_option maxHeartbeats 4000000 in
theorem rpairs3_p (x : Ex) (hx : x.evs.length ≤ 4096) (f : Nat → Nat → Bool) (hrel : ∀ a b : Nat, a < x.evs.length → b < x.evs.length → Pure E.P 28 [exOV x, .int .i64 a, .int .i64 b] (.bool (f a b))) : Pure E.P 12 [exOV x, .int .i64 3] (.d (pairsTV (refPairs x.evs.length f))) := by
  have f2 : Frozen 2 := ⟨trivial⟩
  have hsq : x.evs.length * x.evs.length ≤ 16777216 := Nat.mul_le_mul hx hx
  refine fn_of_awp Tryz.func12 (by decide) rfl Tryz.ntmps12 (Nat.le_of_ble_eq_true rfl) rfl ?_
  refine awp_seq ?_
  (refine ao_region ?_ (fun _ => ?_); exact rfl)
  refine q34 ?_; refine q51 ?_; refine ao_nil ?_; refine then_n ?_; refine awp_seq ?_
  (refine ao_region ?_ (fun _ => ?_); exact rfl)
  refine q51 ?_; refine ao_nil ?_; refine then_n ?_; refine awp_seq ?_
  (refine ao_region ?_ (fun _ => ?_); exact rfl)
  refine q32 ?_; refine q23 ?_; refine q13 ?_; refine q12 ?_; refine ao_nil ?_; refine then_n ?_
  iterate 2 refine awp_seq ?_
  (refine ao_region ?_ (fun _ => ?_); exact rfl)
  refine q12 ?_; refine ao_nil ?_; refine then_n ?_; refine awp_block ?_
  rotate_left
  rename_i v5 _ _
  refine awp_loop (X := Nat × Stamp × List (Int × Int)) (fun p => tmL [(1, .int .i64 3), (2, .d (.pt (exRow x) 0)), (5, .os 5 p.2.1 2 p.2.2.length), (6, .int .i64 x.evs.length), (7, .int .i64 p.1)]) (fun p => stL [(5, (p.2.1, ⟨2, p.2.2.map pairO'⟩))])
    (fun p => p.1 ≤ x.evs.length ∧ p.2.2 = prTo x.evs.length f p.1) (fun p => x.evs.length - p.1) (0, (v5, 0), []) ⟨Nat.zero_le _, rfl⟩ (by repeat' (first | exact le_nil _ | exact sle_nil _ | refine le_cons rfl ?_ | refine sle_cons rfl ?_ | (refine le_cons_os rfl ?_ ?_; (simp)) | (refine le_cons_int rfl ?_ ?_; (simp)) | (refine sle_cons' rfl ?_ ?_; (simp)))) (by repeat' (first | exact le_nil _ | exact sle_nil _ | refine le_cons rfl ?_ | refine sle_cons rfl ?_)) ?_
  rintro ⟨a, τ, l⟩ ⟨hk, hl⟩
  dsimp only at hk hl ⊢
  by_cases hlt : a < x.evs.length
  · iterate 2 refine awp_seq ?_
    (refine ao_region ?_ (fun _ => ?_); exact rfl)
    iterate 2 refine q11 ?_
    refine q37 ?_; refine ao_nil ?_; refine then_n ?_
    (apply awp_cond; exact rfl)
    (refine im_dt (fun _ => ?_); (try (exfalso; omega)))
    refine awp_skip ?_; refine then_n ?_; refine awp_seq ?_; refine awp_block ?_; refine awp_seq ?_
    (refine ao_region ?_ (fun _ => ?_); exact rfl)
    refine q12 ?_; refine ao_nil ?_; refine then_n ?_; refine awp_block ?_
    rotate_left
    (refine im_df (fun _ => ?_); (try (exfalso; omega)))
    refine awp_loop (X := Nat × Stamp × List (Int × Int)) (fun p => tmL [(1, .int .i64 3), (2, .d (.pt (exRow x) 0)), (5, .os 5 p.2.1 2 p.2.2.length), (6, .int .i64 x.evs.length), (7, .int .i64 a), (8, .int .i64 p.1)]) (fun p => stL [(5, (p.2.1, ⟨2, p.2.2.map pairO'⟩))])
      (fun p => p.1 ≤ x.evs.length ∧ p.2.2 = l ++ prRow f a p.1) (fun p => x.evs.length - p.1) (0, τ, l) ⟨Nat.zero_le _, by simp [prRow]⟩ (by repeat' (first | exact le_nil _ | exact sle_nil _ | refine le_cons rfl ?_ | refine sle_cons rfl ?_)) (by repeat' (first | exact le_nil _ | exact sle_nil _ | refine le_cons rfl ?_ | refine sle_cons rfl ?_)) ?_
    rintro ⟨b, τ2, l2⟩ ⟨hk2, hl2⟩
    dsimp only at hk2 hl2 ⊢
    have hlen : l2.length ≤ 16777216 + 4096 := by
      rw [hl2, List.length_append, hl]
      have h1 := prTo_len x.evs.length f a
      have h2 := prRow_len f a b
      have h3 : a * x.evs.length ≤ x.evs.length * x.evs.length := Nat.mul_le_mul hk (Nat.le_refl _)
      omega
    by_cases hlt2 : b < x.evs.length
    · have hr := hrel a b hlt hlt2
      iterate 2 refine awp_seq ?_
      (refine ao_region ?_ (fun _ => ?_); exact rfl)
      iterate 2 refine q11 ?_
      refine q37 ?_; refine ao_nil ?_; refine then_n ?_
      (apply awp_cond; exact rfl)
      (refine im_dt (fun _ => ?_); (try (exfalso; omega)))
      refine awp_skip ?_; refine then_n ?_; refine awp_seq ?_; refine awp_block ?_; refine awp_seq ?_
      (refine ao_region ?_ (fun _ => ?_); exact rfl)
      refine q12 ?_; refine ao_nil ?_; refine then_n ?_
      iterate 2 refine awp_seq ?_
      (refine ao_region ?_ (fun _ => ?_); exact rfl)
      refine q11 ?_; refine ao_nil ?_; refine then_n ?_; refine awp_block ?_; refine awp_seq ?_
      (refine ao_region ?_ (fun _ => ?_); exact rfl)
      refine q46 ?_; refine q12 ?_; refine ao_nil ?_; refine then_n ?_
      (apply awp_cond; exact rfl)
      (refine im_dt (fun _ => ?_); (try (exfalso; omega)))
      (refine im_df (fun _ => ?_); (try (exfalso; omega)))
      refine awp_seq ?_
      (refine ao_region ?_ (fun _ => ?_); exact rfl)
      refine q46 ?_; refine q12 ?_; refine ao_nil ?_; refine then_n ?_
      (apply awp_cond; exact rfl)
      (refine im_dt (fun _ => ?_); (try (exfalso; omega)))
      (refine im_df (fun _ => ?_); (try (exfalso; omega)))
      refine awp_seq ?_
      (refine ao_region ?_ (fun _ => ?_); exact rfl)
      refine q46 ?_; refine q12 ?_; refine ao_nil ?_; refine then_n ?_
      (apply awp_cond; exact rfl)
      (refine im_dt (fun _ => ?_); (try (exfalso; omega)))
      (refine ao_region ?_ (fun _ => ?_); exact rfl)
      refine q33 ?_
      iterate 2 refine q11 ?_
      (first
        | (apply S_call; exact rfl; exact .fn _ _ _; exact rfl; exact hr)
        | (apply D_call; exact rfl; exact .fn _ _ _; exact rfl; exact hr))
      refine q12 ?_; refine ao_nil ?_; refine blk_n ?_; refine then_n ?_; refine awp_seq ?_
      (refine ao_region ?_ (fun _ => ?_); exact rfl)
      refine q11 ?_; refine ao_nil ?_; refine then_n ?_
      (apply awp_cond; exact rfl)
      (refine im_vt (fun _ => ?_))
      (refine ao_region ?_ (fun _ => ?_); exact rfl)
      iterate 3 refine q11 ?_
      refine q54 ?_
      (apply S_buildSlice; exact rfl; exact rfl; exact rfl; decide; decide; decide; exact rfl; exact rfl)
      refine q19 ?_
      (apply S_ren; exact rfl; exact rfl)
      refine ao_nil ?_; refine blk_n ?_; refine then_n ?_
      (refine ao_region ?_ (fun _ => ?_); exact rfl)
      refine q11 ?_; refine q36 ?_; refine q12 ?_; refine ao_nil ?_; refine then_n ?_
      rotate_left
      (refine im_vf (fun _ => ?_))
      refine awp_skip ?_; refine blk_n ?_; refine then_n ?_
      (refine ao_region ?_ (fun _ => ?_); exact rfl)
      refine q11 ?_; refine q36 ?_; refine q12 ?_; refine ao_nil ?_; refine then_n ?_
      rotate_left
      iterate 2 (refine im_df (fun _ => ?_); (try (exfalso; omega)))
      · rename_i hy v24 _
        exact round' (b + 1, (v24, 6), l2 ++ [((a : Int), (b : Int))]) ⟨by dsimp only; omega, by dsimp only; rw [hl2, prRow_yes hy, List.append_assoc]⟩ (by dsimp only; omega) (by repeat' (first | exact le_nil _ | exact sle_nil _ | refine le_cons rfl ?_ | refine sle_cons rfl ?_ | (refine le_cons_os rfl ?_ ?_; (simp <;> rfl)) | (refine le_cons_int rfl ?_ ?_; (simp <;> rfl)) | (refine sle_cons' rfl ?_ ?_; (simp <;> rfl)))) (by repeat' (first | exact le_nil _ | exact sle_nil _ | refine le_cons rfl ?_ | refine sle_cons rfl ?_ | (refine le_cons_os rfl ?_ ?_; (simp <;> rfl)) | (refine le_cons_int rfl ?_ ?_; (simp <;> rfl)) | (refine sle_cons' rfl ?_ ?_; (simp <;> rfl))))
      · rename_i hy _
        exact round' (b + 1, τ2, l2) ⟨by dsimp only; omega, by dsimp only; rw [hl2, prRow_no (by rw [hy]; decide)]⟩ (by dsimp only; omega) (by repeat' (first | exact le_nil _ | exact sle_nil _ | refine le_cons rfl ?_ | refine sle_cons rfl ?_)) (by repeat' (first | exact le_nil _ | exact sle_nil _ | refine le_cons rfl ?_ | refine sle_cons rfl ?_))
    · have hb : b = x.evs.length := by omega
      subst hb
      iterate 2 refine awp_seq ?_
      (refine ao_region ?_ (fun _ => ?_); exact rfl)
      iterate 2 refine q11 ?_
      refine q37 ?_; refine ao_nil ?_; refine then_n ?_
      (apply awp_cond; exact rfl)
      (refine im_dt (fun _ => ?_); (try (exfalso; omega)))
      (refine im_df (fun _ => ?_); (try (exfalso; omega)))
      refine awp_exit ?_
      iterate 2 refine then_x ?_
      refine blk_x ?_; refine blk_n ?_; refine then_n ?_
      (refine ao_region ?_ (fun _ => ?_); exact rfl)
      refine q11 ?_; refine q36 ?_; refine q12 ?_; refine ao_nil ?_; refine then_n ?_
      rotate_left
      exact round' (a + 1, τ2, l2) ⟨by dsimp only; omega, by dsimp only; rw [hl2, prTo_succ, hl]⟩ (by dsimp only; omega) (by repeat' (first | exact le_nil _ | exact sle_nil _ | refine le_cons rfl ?_ | refine sle_cons rfl ?_)) (by repeat' (first | exact le_nil _ | exact sle_nil _ | refine le_cons rfl ?_ | refine sle_cons rfl ?_))
  · have f5 : Frozen 5 := ⟨trivial⟩
    have hfz := pair_fz
    iterate 2 refine awp_seq ?_
    (refine ao_region ?_ (fun _ => ?_); exact rfl)
    iterate 2 refine q11 ?_
    refine q37 ?_; refine ao_nil ?_; refine then_n ?_
    (apply awp_cond; exact rfl)
    (refine im_dt (fun _ => ?_); (try (exfalso; omega)))
    (refine im_df (fun _ => ?_); (try (exfalso; omega)))
    refine awp_exit ?_
    iterate 2 refine then_x ?_
    refine blk_x ?_; refine then_n ?_; refine awp_seq ?_
    (refine ao_region ?_ (fun _ => ?_); exact rfl)
    refine q41 ?_; refine q12 ?_; refine ao_nil ?_; refine then_n ?_; refine awp_ret ?_
    rotate_left
    refine done_r rfl ?_
    have ha : a = x.evs.length := by omega
    rw [hl, ha]; rfl
set_option maxHeartbeats 4000000 in
theorem rpairs4_p (x : Ex) (hx : x.evs.length ≤ 4096) (f : Nat → Nat → Bool) (hrel : ∀ a b : Nat, a < x.evs.length → b < x.evs.length → Pure E.P 29 [exOV x, .int .i64 a, .int .i64 b] (.bool (f a b))) : Pure E.P 12 [exOV x, .int .i64 4] (.d (pairsTV (refPairs x.evs.length f))) := by
  have f2 : Frozen 2 := ⟨trivial⟩
  have hsq : x.evs.length * x.evs.length ≤ 16777216 := Nat.mul_le_mul hx hx
  refine fn_of_awp Tryz.func12 (by decide) rfl Tryz.ntmps12 (Nat.le_of_ble_eq_true rfl) rfl ?_
  refine awp_seq ?_
  (refine ao_region ?_ (fun _ => ?_); exact rfl)
  refine q34 ?_; refine q51 ?_; refine ao_nil ?_; refine then_n ?_; refine awp_seq ?_
  (refine ao_region ?_ (fun _ => ?_); exact rfl)
  refine q51 ?_; refine ao_nil ?_; refine then_n ?_; refine awp_seq ?_
  (refine ao_region ?_ (fun _ => ?_); exact rfl)
  refine q32 ?_; refine q23 ?_; refine q13 ?_; refine q12 ?_; refine ao_nil ?_; refine then_n ?_
  iterate 2 refine awp_seq ?_
  (refine ao_region ?_ (fun _ => ?_); exact rfl)
  refine q12 ?_; refine ao_nil ?_; refine then_n ?_; refine awp_block ?_
  rotate_left
  rename_i v5 _ _
  refine awp_loop (X := Nat × Stamp × List (Int × Int)) (fun p => tmL [(1, .int .i64 4), (2, .d (.pt (exRow x) 0)), (5, .os 5 p.2.1 2 p.2.2.length), (6, .int .i64 x.evs.length), (7, .int .i64 p.1)]) (fun p => stL [(5, (p.2.1, ⟨2, p.2.2.map pairO'⟩))])
    (fun p => p.1 ≤ x.evs.length ∧ p.2.2 = prTo x.evs.length f p.1) (fun p => x.evs.length - p.1) (0, (v5, 0), []) ⟨Nat.zero_le _, rfl⟩ (by repeat' (first | exact le_nil _ | exact sle_nil _ | refine le_cons rfl ?_ | refine sle_cons rfl ?_ | (refine le_cons_os rfl ?_ ?_; (simp)) | (refine le_cons_int rfl ?_ ?_; (simp)) | (refine sle_cons' rfl ?_ ?_; (simp)))) (by repeat' (first | exact le_nil _ | exact sle_nil _ | refine le_cons rfl ?_ | refine sle_cons rfl ?_)) ?_
  rintro ⟨a, τ, l⟩ ⟨hk, hl⟩
  dsimp only at hk hl ⊢
  by_cases hlt : a < x.evs.length
  · iterate 2 refine awp_seq ?_
    (refine ao_region ?_ (fun _ => ?_); exact rfl)
    iterate 2 refine q11 ?_
    refine q37 ?_; refine ao_nil ?_; refine then_n ?_
    (apply awp_cond; exact rfl)
    (refine im_dt (fun _ => ?_); (try (exfalso; omega)))
    refine awp_skip ?_; refine then_n ?_; refine awp_seq ?_; refine awp_block ?_; refine awp_seq ?_
    (refine ao_region ?_ (fun _ => ?_); exact rfl)
    refine q12 ?_; refine ao_nil ?_; refine then_n ?_; refine awp_block ?_
    rotate_left
    (refine im_df (fun _ => ?_); (try (exfalso; omega)))
    refine awp_loop (X := Nat × Stamp × List (Int × Int)) (fun p => tmL [(1, .int .i64 4), (2, .d (.pt (exRow x) 0)), (5, .os 5 p.2.1 2 p.2.2.length), (6, .int .i64 x.evs.length), (7, .int .i64 a), (8, .int .i64 p.1)]) (fun p => stL [(5, (p.2.1, ⟨2, p.2.2.map pairO'⟩))])
      (fun p => p.1 ≤ x.evs.length ∧ p.2.2 = l ++ prRow f a p.1) (fun p => x.evs.length - p.1) (0, τ, l) ⟨Nat.zero_le _, by simp [prRow]⟩ (by repeat' (first | exact le_nil _ | exact sle_nil _ | refine le_cons rfl ?_ | refine sle_cons rfl ?_)) (by repeat' (first | exact le_nil _ | exact sle_nil _ | refine le_cons rfl ?_ | refine sle_cons rfl ?_)) ?_
    rintro ⟨b, τ2, l2⟩ ⟨hk2, hl2⟩
    dsimp only at hk2 hl2 ⊢
    have hlen : l2.length ≤ 16777216 + 4096 := by
      rw [hl2, List.length_append, hl]
      have h1 := prTo_len x.evs.length f a
      have h2 := prRow_len f a b
      have h3 : a * x.evs.length ≤ x.evs.length * x.evs.length := Nat.mul_le_mul hk (Nat.le_refl _)
      omega
    by_cases hlt2 : b < x.evs.length
    · have hr := hrel a b hlt hlt2
      iterate 2 refine awp_seq ?_
      (refine ao_region ?_ (fun _ => ?_); exact rfl)
      iterate 2 refine q11 ?_
      refine q37 ?_; refine ao_nil ?_; refine then_n ?_
      (apply awp_cond; exact rfl)
      (refine im_dt (fun _ => ?_); (try (exfalso; omega)))
      refine awp_skip ?_; refine then_n ?_; refine awp_seq ?_; refine awp_block ?_; refine awp_seq ?_
      (refine ao_region ?_ (fun _ => ?_); exact rfl)
      refine q12 ?_; refine ao_nil ?_; refine then_n ?_
      iterate 2 refine awp_seq ?_
      (refine ao_region ?_ (fun _ => ?_); exact rfl)
      refine q11 ?_; refine ao_nil ?_; refine then_n ?_; refine awp_block ?_; refine awp_seq ?_
      (refine ao_region ?_ (fun _ => ?_); exact rfl)
      refine q46 ?_; refine q12 ?_; refine ao_nil ?_; refine then_n ?_
      (apply awp_cond; exact rfl)
      (refine im_dt (fun _ => ?_); (try (exfalso; omega)))
      (refine im_df (fun _ => ?_); (try (exfalso; omega)))
      refine awp_seq ?_
      (refine ao_region ?_ (fun _ => ?_); exact rfl)
      refine q46 ?_; refine q12 ?_; refine ao_nil ?_; refine then_n ?_
      (apply awp_cond; exact rfl)
      (refine im_dt (fun _ => ?_); (try (exfalso; omega)))
      (refine im_df (fun _ => ?_); (try (exfalso; omega)))
      refine awp_seq ?_
      (refine ao_region ?_ (fun _ => ?_); exact rfl)
      refine q46 ?_; refine q12 ?_; refine ao_nil ?_; refine then_n ?_
      (apply awp_cond; exact rfl)
      (refine im_dt (fun _ => ?_); (try (exfalso; omega)))
      (refine im_df (fun _ => ?_); (try (exfalso; omega)))
      refine awp_seq ?_
      (refine ao_region ?_ (fun _ => ?_); exact rfl)
      refine q46 ?_; refine q12 ?_; refine ao_nil ?_; refine then_n ?_
      (apply awp_cond; exact rfl)
      (refine im_dt (fun _ => ?_); (try (exfalso; omega)))
      (refine ao_region ?_ (fun _ => ?_); exact rfl)
      refine q33 ?_
      iterate 2 refine q11 ?_
      (first
        | (apply S_call; exact rfl; exact .fn _ _ _; exact rfl; exact hr)
        | (apply D_call; exact rfl; exact .fn _ _ _; exact rfl; exact hr))
      refine q12 ?_; refine ao_nil ?_; refine blk_n ?_; refine then_n ?_; refine awp_seq ?_
      (refine ao_region ?_ (fun _ => ?_); exact rfl)
      refine q11 ?_; refine ao_nil ?_; refine then_n ?_
      (apply awp_cond; exact rfl)
      (refine im_vt (fun _ => ?_))
      (refine ao_region ?_ (fun _ => ?_); exact rfl)
      iterate 3 refine q11 ?_
      refine q54 ?_
      (apply S_buildSlice; exact rfl; exact rfl; exact rfl; decide; decide; decide; exact rfl; exact rfl)
      refine q19 ?_
      (apply S_ren; exact rfl; exact rfl)
      refine ao_nil ?_; refine blk_n ?_; refine then_n ?_
      (refine ao_region ?_ (fun _ => ?_); exact rfl)
      refine q11 ?_; refine q36 ?_; refine q12 ?_; refine ao_nil ?_; refine then_n ?_
      rotate_left
      (refine im_vf (fun _ => ?_))
      refine awp_skip ?_; refine blk_n ?_; refine then_n ?_
      (refine ao_region ?_ (fun _ => ?_); exact rfl)
      refine q11 ?_; refine q36 ?_; refine q12 ?_; refine ao_nil ?_; refine then_n ?_
      rotate_left
      iterate 2 (refine im_df (fun _ => ?_); (try (exfalso; omega)))
      · rename_i hy v24 _
        exact round' (b + 1, (v24, 6), l2 ++ [((a : Int), (b : Int))]) ⟨by dsimp only; omega, by dsimp only; rw [hl2, prRow_yes hy, List.append_assoc]⟩ (by dsimp only; omega) (by repeat' (first | exact le_nil _ | exact sle_nil _ | refine le_cons rfl ?_ | refine sle_cons rfl ?_ | (refine le_cons_os rfl ?_ ?_; (simp <;> rfl)) | (refine le_cons_int rfl ?_ ?_; (simp <;> rfl)) | (refine sle_cons' rfl ?_ ?_; (simp <;> rfl)))) (by repeat' (first | exact le_nil _ | exact sle_nil _ | refine le_cons rfl ?_ | refine sle_cons rfl ?_ | (refine le_cons_os rfl ?_ ?_; (simp <;> rfl)) | (refine le_cons_int rfl ?_ ?_; (simp <;> rfl)) | (refine sle_cons' rfl ?_ ?_; (simp <;> rfl))))
      · rename_i hy _
        exact round' (b + 1, τ2, l2) ⟨by dsimp only; omega, by dsimp only; rw [hl2, prRow_no (by rw [hy]; decide)]⟩ (by dsimp only; omega) (by repeat' (first | exact le_nil _ | exact sle_nil _ | refine le_cons rfl ?_ | refine sle_cons rfl ?_)) (by repeat' (first | exact le_nil _ | exact sle_nil _ | refine le_cons rfl ?_ | refine sle_cons rfl ?_))
    · have hb : b = x.evs.length := by omega
      subst hb
      iterate 2 refine awp_seq ?_
      (refine ao_region ?_ (fun _ => ?_); exact rfl)
      iterate 2 refine q11 ?_
      refine q37 ?_; refine ao_nil ?_; refine then_n ?_
      (apply awp_cond; exact rfl)
      (refine im_dt (fun _ => ?_); (try (exfalso; omega)))
      (refine im_df (fun _ => ?_); (try (exfalso; omega)))
      refine awp_exit ?_
      iterate 2 refine then_x ?_
      refine blk_x ?_; refine blk_n ?_; refine then_n ?_
      (refine ao_region ?_ (fun _ => ?_); exact rfl)
      refine q11 ?_; refine q36 ?_; refine q12 ?_; refine ao_nil ?_; refine then_n ?_
      rotate_left
      exact round' (a + 1, τ2, l2) ⟨by dsimp only; omega, by dsimp only; rw [hl2, prTo_succ, hl]⟩ (by dsimp only; omega) (by repeat' (first | exact le_nil _ | exact sle_nil _ | refine le_cons rfl ?_ | refine sle_cons rfl ?_)) (by repeat' (first | exact le_nil _ | exact sle_nil _ | refine le_cons rfl ?_ | refine sle_cons rfl ?_))
  · have f5 : Frozen 5 := ⟨trivial⟩
    have hfz := pair_fz
    iterate 2 refine awp_seq ?_
    (refine ao_region ?_ (fun _ => ?_); exact rfl)
    iterate 2 refine q11 ?_
    refine q37 ?_; refine ao_nil ?_; refine then_n ?_
    (apply awp_cond; exact rfl)
    (refine im_dt (fun _ => ?_); (try (exfalso; omega)))
    (refine im_df (fun _ => ?_); (try (exfalso; omega)))
    refine awp_exit ?_
    iterate 2 refine then_x ?_
    refine blk_x ?_; refine then_n ?_; refine awp_seq ?_
    (refine ao_region ?_ (fun _ => ?_); exact rfl)
    refine q41 ?_; refine q12 ?_; refine ao_nil ?_; refine then_n ?_; refine awp_ret ?_
    rotate_left
    refine done_r rfl ?_
    have ha : a = x.evs.length := by omega
    rw [hl, ha]; rfl
theorem rPo_p {x : Ex} (h : x.rel) : Pure E.P 12 [exOV x, .int .i64 1] (.d (pairsTV (refPairs x.evs.length (isPo x)))) :=
  rpairs1_p x (by have := h.len; omega) (isPo x) fun a b ha hb => rpo_p x (by have := h.len; omega) a b ha hb
theorem rRf_p {x : Ex} (h : x.rel) : Pure E.P 12 [exOV x, .int .i64 2] (.d (pairsTV (refPairs x.evs.length (isRf x)))) :=
  rpairs2_p x (by have := h.len; omega) (isRf x) fun a b ha hb => risRf_p x (by have := h.len; omega) h.from_ a b ha hb
theorem rCo_p {x : Ex} (h : x.rel) : Pure E.P 12 [exOV x, .int .i64 3] (.d (pairsTV (refPairs x.evs.length (isCoB x)))) :=
  rpairs3_p x (by have := h.len; omega) (isCoB x) fun a b ha hb => risCo_p x (by have := h.len; omega) h.ord h.rows a b ha hb
theorem rFr_p {x : Ex} (h : x.rel) : Pure E.P 12 [exOV x, .int .i64 4] (.d (pairsTV (refPairs x.evs.length (isFrB x)))) :=
  rpairs4_p x (by have := h.len; omega) (isFrB x) fun a b ha hb => risFr_p x (by have := h.len; omega) h.ord h.rows h.from_ h.src a b ha hb
end Go.Proofs.YtgeaaegkcbjhlaaGreat
