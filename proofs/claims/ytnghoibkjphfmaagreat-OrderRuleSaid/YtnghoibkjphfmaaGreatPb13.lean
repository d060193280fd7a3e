/- The reference's small functions of layers 6 and 7: program order, what is paired, two lists held against each other; in plain data. -/
import Derived.Test.YtnghoibkjphfmaaGreatPb3
import Derived.Test.YtnghoibkjphfmaaGreatPb9
import Derived.Test.YtnghoibkjphfmaaGreatPb12
set_option maxRecDepth 100000
set_option pp.deepTerms true
set_option pp.maxSteps 1000000
set_option linter.unusedVariables false
set_option linter.unusedSimpArgs false
namespace Go.Proofs.YtnghoibkjphfmaaGreat
open Go.RowKit
/-- two lists, one by one -/
def eqTo {α : Type} [Inhabited α] (f : α → α → Bool) (a b : List α) (k : Nat) : Bool := (List.range k).all fun i => f (a.getD i default) (b.getD i default)
theorem eqTo_succ {α : Type} [Inhabited α] (f : α → α → Bool) (a b : List α) (k : Nat) : eqTo f a b (k + 1) = (eqTo f a b k && f (a.getD k default) (b.getD k default)) := by
  unfold eqTo; rw [List.range_succ, List.all_append]; simp
theorem eqTo_false {α : Type} [Inhabited α] {f : α → α → Bool} {a b : List α} {k : Nat} (n : Nat) (hk : k < n) (h : f (a.getD k default) (b.getD k default) = false) : eqTo f a b n = false := by
  unfold eqTo
  rw [List.all_eq_false]
  exact ⟨k, by simpa using hk, by rw [h]; decide⟩
def eqL {α : Type} [Inhabited α] (f : α → α → Bool) (a b : List α) : Bool := decide (a.length = b.length) && eqTo f a b a.length
theorem eqL_len {α : Type} [Inhabited α] {f : α → α → Bool} {a b : List α} (h : ¬ a.length = b.length) : eqL f a b = false := by unfold eqL; simp [h]
theorem eqL_false {α : Type} [Inhabited α] {f : α → α → Bool} {a b : List α} {k : Nat} (hk : k < a.length) (h : f (a.getD k default) (b.getD k default) = false) : eqL f a b = false := by unfold eqL; rw [eqTo_false _ hk h]; simp
theorem eqL_true {α : Type} [Inhabited α] {f : α → α → Bool} {a b : List α} (h : a.length = b.length) (h2 : eqTo f a b a.length = true) : eqL f a b = true := by unfold eqL; rw [h2]; simp [h]
def intB (a b : Int) : Bool := decide (a = b)
def eqI (a b : List Int) : Bool := eqL intB a b
theorem eqI_refl (a : List Int) : eqI a a = true := eqL_true rfl (by unfold eqTo; simp [intB])
set_option maxHeartbeats 1000000 in
theorem rsameInts_p (a b : List Int) (ha : a.length ≤ 1152921504606846976) (hb : b.length ≤ 1152921504606846976) : Pure E.P 25 [.d (ints a), .d (ints b)] (.bool (eqI a b)) := by
  refine fn_of_awp Tryz.func25 (by decide) rfl Tryz.ntmps25 (Nat.le_of_ble_eq_true rfl) rfl ?_
  refine awp_seq ?_
  (refine ao_region ?_ (fun _ => ?_); exact rfl)
  refine q12 ?_; refine ao_nil ?_; refine then_n ?_
  iterate 2 refine awp_seq ?_
  (refine ao_region ?_ (fun _ => ?_); exact rfl)
  refine q11 ?_; refine q13 ?_; refine q11 ?_; refine q13 ?_; refine q44 ?_; refine ao_nil ?_; refine then_n ?_
  (apply awp_cond; exact rfl)
  (refine im_nt (fun _ => ?_); (try (exfalso; omega)))
  refine awp_seq ?_
  (refine ao_region ?_ (fun _ => ?_); exact rfl)
  refine q12 ?_; refine ao_nil ?_; refine then_n ?_; refine awp_ret ?_; refine then_r ?_
  rotate_left
  (refine im_nf (fun _ => ?_); (try (exfalso; omega)))
  refine awp_skip ?_; refine then_n ?_
  iterate 2 refine awp_seq ?_
  (refine ao_region ?_ (fun _ => ?_); exact rfl)
  refine q12 ?_; refine ao_nil ?_; refine then_n ?_; refine awp_block ?_
  rotate_left
  · exact done_b rfl (eqL_len (by omega)).symm
  refine awp_loop (X := Nat) (fun k => tmL [(0, .d (ints a)), (1, .d (ints b)), (5, .int .i64 k)]) (fun _ => stL []) (fun k => k ≤ a.length ∧ eqTo intB a b k = true) (fun k => a.length - k) 0 ⟨Nat.zero_le _, rfl⟩ (by repeat' (first | exact le_nil _ | exact sle_nil _ | refine le_cons rfl ?_ | refine sle_cons rfl ?_)) (by repeat' (first | exact le_nil _ | exact sle_nil _ | refine le_cons rfl ?_ | refine sle_cons rfl ?_)) ?_
  rintro k ⟨hk, ht⟩
  iterate 2 refine awp_seq ?_
  (refine ao_region ?_ (fun _ => ?_); exact rfl)
  iterate 2 refine q11 ?_
  refine q13 ?_; refine q37 ?_; refine ao_nil ?_; refine then_n ?_
  (apply awp_cond; exact rfl)
  (refine im_dt (fun _ => ?_); (try (exfalso; omega)))
  refine awp_skip ?_; refine then_n ?_; refine awp_seq ?_; refine awp_block ?_; refine awp_seq ?_
  (refine do_region (E := E) ?_ (fun _ => ?_); exact rfl)
  iterate 2 refine q38 ?_
  refine q30 ?_; refine q50 ?_
  iterate 2 refine q38 ?_
  refine q30 ?_; refine q50 ?_
  (apply D_neq; exact rfl; exact rfl)
  (refine do_nil ?_ ?_; (first | ((try dsimp only [wkeys]); decide +kernel) | exact rfl))
  refine then_n ?_
  (apply awp_cond; exact rfl)
  (refine im_nt (fun _ => ?_); (try (exfalso; omega)))
  refine awp_seq ?_
  (refine ao_region ?_ (fun _ => ?_); exact rfl)
  refine q12 ?_; refine ao_nil ?_; refine then_n ?_; refine awp_ret ?_; refine blk_r ?_
  iterate 2 refine then_r ?_
  refine blk_r ?_; refine then_r ?_
  rotate_left
  (refine im_nf (fun _ => ?_); (try (exfalso; omega)))
  refine awp_skip ?_; refine blk_n ?_; refine then_n ?_
  (refine ao_region ?_ (fun _ => ?_); exact rfl)
  refine q11 ?_; refine q36 ?_; refine q12 ?_; refine ao_nil ?_; refine then_n ?_
  rotate_left
  (refine im_df (fun _ => ?_); (try (exfalso; omega)))
  refine awp_exit ?_
  iterate 2 refine then_x ?_
  refine blk_x ?_; refine then_n ?_; refine awp_seq ?_
  (refine ao_region ?_ (fun _ => ?_); exact rfl)
  refine q12 ?_; refine ao_nil ?_; refine then_n ?_; refine awp_ret ?_
  rotate_left
  · exact done_b rfl (eqL_false (k := k) (by omega) (by simp only [Int.toNat_natCast] at *; simp only [intB, decide_eq_false_iff_not]; assumption)).symm
  · refine round' (k + 1) ⟨by omega, ?_⟩ (by omega) (by repeat' (first | exact le_nil _ | exact sle_nil _ | refine le_cons rfl ?_ | refine sle_cons rfl ?_)) (by repeat' (first | exact le_nil _ | exact sle_nil _ | refine le_cons rfl ?_ | refine sle_cons rfl ?_))
    rw [eqTo_succ, ht]
    simp only [Int.toNat_natCast] at *
    simp only [intB, Bool.true_and, decide_eq_true_eq]; assumption
  · exact done_b rfl (eqL_true (by omega) (by rw [← show k = a.length by omega]; exact ht)).symm
def pairB (a b : Int × Int) : Bool := a.1 == b.1 && a.2 == b.2
def eqP (a b : List (Int × Int)) : Bool := eqL pairB a b
theorem rpo_p (x : Ex) (hx : x.evs.length ≤ 65536) (a b : Nat) (ha : a < x.evs.length) (hb : b < x.evs.length) : Pure E.P 36 [exOV x, .int .i64 a, .int .i64 b] (.bool (isPo x a b)) := by
  refine fn_of_awp Tryz.func36 (by decide) rfl Tryz.ntmps36 (Nat.le_of_ble_eq_true rfl) rfl ?_
  refine awp_seq ?_
  (refine ao_region ?_ (fun _ => ?_); exact rfl)
  refine q40 ?_; refine q12 ?_; refine ao_nil ?_; refine then_n ?_; refine awp_seq ?_
  (refine do_region (E := E) ?_ (fun _ => ?_); exact rfl)
  iterate 2 refine q38 ?_
  (apply D_lss; exact rfl; exact rfl)
  refine q38 ?_
  (apply dspec_t; exact rfl; exact rfl)
  (refine im_any fun hc_ => ?_; try have hc1_ := (band hc_).1)
  refine q2
  (apply dspec_t; exact rfl; exact rfl)
  (refine im_any fun hc_ => ?_; try have hc1_ := (band hc_).1)
  refine q3
  (apply dspec_t; exact rfl; exact rfl)
  (refine im_any fun hc_ => ?_; try have hc1_ := (band hc_).1)
  refine q1
  (apply dspec_t; exact rfl; exact rfl)
  (refine im_any fun hc_ => ?_; try have hc1_ := (band hc_).1)
  ((have hp_ := hc_; (try simp only [Bool.not_eq_true', Bool.not_eq_false', Bool.or_eq_true, Bool.and_eq_true, Bool.or_eq_false_iff, Bool.and_eq_false_iff, decide_eq_true_eq, decide_eq_false_iff_not, Decidable.not_not, Int.not_lt, Int.not_le, Bool.not_true, Bool.not_false, Bool.true_and, Bool.and_true, Bool.false_or, Bool.or_false, Bool.true_or, Bool.false_and, bne_eq_false_iff_eq, bne_iff_ne, beq_iff_eq, beq_eq_false_iff_ne, decide_eq_decide] at hp_)))
  refine q5
  (apply dspec_t; exact rfl; exact rfl)
  (refine im_any fun hc_ => ?_; try have hc1_ := (band hc_).1)
  refine q8
  (apply dspec_t; exact rfl; exact rfl)
  (refine im_any fun hc_ => ?_; try have hc1_ := (band hc_).1)
  refine q6
  (apply dspec_t; exact rfl; exact rfl)
  (refine im_any fun hc_ => ?_; try have hc1_ := (band hc_).1)
  refine q21; refine q9 ?_; refine q38 ?_
  (apply dspec_t; exact rfl; exact rfl)
  (refine im_any fun hc_ => ?_; try have hc1_ := (band hc_).1)
  refine q2
  (apply dspec_t; exact rfl; exact rfl)
  (refine im_any fun hc_ => ?_; try have hc1_ := (band hc_).1)
  refine q3
  (apply dspec_t; exact rfl; exact rfl)
  (refine im_any fun hc_ => ?_; try have hc1_ := (band hc_).1)
  refine q1
  (apply dspec_t; exact rfl; exact rfl)
  (refine im_any fun hc_ => ?_; try have hc1_ := (band hc_).1)
  ((have hp_ := hc_; (try simp only [Bool.not_eq_true', Bool.not_eq_false', Bool.or_eq_true, Bool.and_eq_true, Bool.or_eq_false_iff, Bool.and_eq_false_iff, decide_eq_true_eq, decide_eq_false_iff_not, Decidable.not_not, Int.not_lt, Int.not_le, Bool.not_true, Bool.not_false, Bool.true_and, Bool.and_true, Bool.false_or, Bool.or_false, Bool.true_or, Bool.false_and, bne_eq_false_iff_eq, bne_iff_ne, beq_iff_eq, beq_eq_false_iff_ne, decide_eq_decide] at hp_)))
  refine q5
  (apply dspec_t; exact rfl; exact rfl)
  (refine im_any fun hc_ => ?_; try have hc1_ := (band hc_).1)
  refine q8
  (apply dspec_t; exact rfl; exact rfl)
  (refine im_any fun hc_ => ?_; try have hc1_ := (band hc_).1)
  refine q6
  (apply dspec_t; exact rfl; exact rfl)
  (refine im_any fun hc_ => ?_; try have hc1_ := (band hc_).1)
  refine q2
  (apply dspec_t; exact rfl; exact rfl)
  (refine im_any fun hc_ => ?_; try have hc1_ := (band hc_).1)
  refine q3
  (apply dspec_t; exact rfl; exact rfl)
  (refine im_any fun hc_ => ?_; try have hc1_ := (band hc_).1)
  refine q1
  (apply dspec_t; exact rfl; exact rfl)
  (refine im_any fun hc_ => ?_; try have hc1_ := (band hc_).1)
  ((have hp_ := hc_; (try simp only [Bool.not_eq_true', Bool.not_eq_false', Bool.or_eq_true, Bool.and_eq_true, Bool.or_eq_false_iff, Bool.and_eq_false_iff, decide_eq_true_eq, decide_eq_false_iff_not, Decidable.not_not, Int.not_lt, Int.not_le, Bool.not_true, Bool.not_false, Bool.true_and, Bool.and_true, Bool.false_or, Bool.or_false, Bool.true_or, Bool.false_and, bne_eq_false_iff_eq, bne_iff_ne, beq_iff_eq, beq_eq_false_iff_ne, decide_eq_decide] at hp_)))
  refine q5
  (apply dspec_t; exact rfl; exact rfl)
  (refine im_any fun hc_ => ?_; try have hc1_ := (band hc_).1)
  refine q8
  (apply dspec_t; exact rfl; exact rfl)
  (refine im_any fun hc_ => ?_; try have hc1_ := (band hc_).1)
  refine q6
  (apply dspec_t; exact rfl; exact rfl)
  (refine im_any fun hc_ => ?_; try have hc1_ := (band hc_).1)
  refine q7; refine q9 ?_
  (apply D_assign; exact rfl)
  (refine do_nil ?_ ?_; (first | ((try dsimp only [wkeys]); decide +kernel) | exact rfl))
  refine then_n ?_; refine awp_ret ?_
  rotate_left
  refine done_b rfl ?_
  rw [Bool.eq_iff_iff]
  unfold isPo
  simp only [Bool.and_eq_true, decide_eq_true_eq, Int.toNat_natCast, Int.ofNat_lt]
theorem rpaired_p (x : Ex) (hx : x.rok) (b : Nat) (hb : b < x.evs.length) : Pure E.P 23 [exOV x, .int .i64 b] (.int .i64 (pairedI x b)) := by
  have hl := hx.len
  have f2 : Frozen 2 := ⟨trivial⟩
  have f5 : Frozen 5 := ⟨trivial⟩
  refine fn_of_awp Tryz.func23 (by decide) rfl Tryz.ntmps23 (Nat.le_of_ble_eq_true rfl) rfl ?_
  refine awp_seq ?_
  (refine ao_region ?_ (fun _ => ?_); exact rfl)
  refine q34 ?_; refine q12 ?_; refine ao_nil ?_; refine then_n ?_; refine awp_seq ?_
  (refine ao_region ?_ (fun _ => ?_); exact rfl)
  refine q32 ?_; refine q23 ?_; refine q11 ?_; refine q17 ?_; refine q33 ?_
  (apply S_alloc; exact rfl)
  refine q43 ?_; refine ao_nil ?_; refine then_n ?_
  iterate 2 refine awp_seq ?_
  (refine ao_region ?_ (fun _ => ?_); exact rfl)
  refine q32 ?_; refine q23 ?_; refine q44 ?_; refine q11 ?_
  (apply spec_f; exact rfl; exact rfl)
  (refine im_any fun hc_ => ?_; try have hc1_ := (band hc_).1)
  refine q8
  (apply spec_f; exact rfl; exact rfl)
  (refine im_any fun hc_ => ?_; try have hc1_ := (band hc_).1)
  refine q6
  (apply spec_f; exact rfl; exact rfl)
  (refine im_any fun hc_ => ?_; try have hc1_ := (band hc_).1)
  refine q42; refine q0 ?_; refine ao_nil ?_; refine then_n ?_
  (apply awp_cond; exact rfl)
  (refine im_ot (fun hc_ => ?_); (try simp only [Bool.not_eq_true', Bool.not_eq_false', Bool.or_eq_true, Bool.and_eq_true, Bool.or_eq_false_iff, Bool.and_eq_false_iff, decide_eq_true_eq, decide_eq_false_iff_not, Decidable.not_not, Int.not_lt, Int.not_le, Bool.not_true, Bool.not_false, Bool.true_and, Bool.and_true, Bool.false_or, Bool.or_false, Bool.true_or, Bool.false_and, bne_eq_false_iff_eq, bne_iff_ne, beq_iff_eq, beq_eq_false_iff_ne, decide_eq_decide] at hc_))
  refine awp_seq ?_
  (refine ao_region ?_ (fun _ => ?_); exact rfl)
  refine q12 ?_; refine ao_nil ?_; refine then_n ?_; refine awp_ret ?_; refine then_r ?_
  rotate_left
  refine im_of ?_
  (refine im_nf (fun _ => ?_); (try (exfalso; omega)))
  refine im_bf ?_
  (refine im_vt (fun _ => ?_))
  refine awp_skip ?_; refine then_n ?_
  iterate 2 refine awp_seq ?_
  (refine ao_region ?_ (fun _ => ?_); exact rfl)
  refine q11 ?_
  (apply S_sub64; exact rfl; exact rfl; omega)
  refine q12 ?_; refine ao_nil ?_; refine then_n ?_; refine awp_block ?_
  rotate_left
  · refine done_i rfl ?_
    have h9 := hc_
    simp only [Int.toNat_natCast] at h9
    unfold pairedI
    rw [if_neg (by rintro ⟨e1, e2⟩; rcases h9 with h9 | h9; exact h9 e1; rw [e2] at h9; cases h9)]
  rename_i g1 g2 _
  simp only [Int.toNat_natCast] at g1 g2
  refine awp_loop (X := Nat) (fun k => tmL [(2, .d (.pt (exRow x) 0)), (5, .d (.pt (evTV (x.evs.getD b default)) 0)), (6, .int .i64 ((k : Int) - 1))]) (fun _ => stL []) (fun k => k ≤ b ∧ pairedI x b = pairTo x.evs (x.evs.getD b default) k) (fun k => k) b ⟨Nat.le_refl _, by unfold pairedI; rw [if_pos ⟨g1, g2⟩]⟩ (by repeat' (first | exact le_nil _ | exact sle_nil _ | refine le_cons rfl ?_ | refine sle_cons rfl ?_)) (by repeat' (first | exact le_nil _ | exact sle_nil _ | refine le_cons rfl ?_ | refine sle_cons rfl ?_)) ?_
  rintro k ⟨hk, ht⟩
  cases k with
  | zero =>
    iterate 2 refine awp_seq ?_
    (refine ao_region ?_ (fun _ => ?_); exact rfl)
    refine q11 ?_
    (apply S_geq; exact rfl; exact rfl)
    refine ao_nil ?_; refine then_n ?_
    (apply awp_cond; exact rfl)
    (refine im_dt (fun _ => ?_); (try (exfalso; omega)))
    (refine im_df (fun _ => ?_); (try (exfalso; omega)))
    refine awp_exit ?_
    iterate 2 refine then_x ?_
    refine blk_x ?_; refine then_n ?_; refine awp_seq ?_
    (refine ao_region ?_ (fun _ => ?_); exact rfl)
    refine q12 ?_; refine ao_nil ?_; refine then_n ?_; refine awp_ret ?_
    rotate_left
    refine done_i rfl ?_
    rw [ht]; rfl
  | succ k =>
    rw [show ((k + 1 : Nat) : Int) - 1 = (k : Int) by omega]
    iterate 2 refine awp_seq ?_
    (refine ao_region ?_ (fun _ => ?_); exact rfl)
    refine q11 ?_
    (apply S_geq; exact rfl; exact rfl)
    refine ao_nil ?_; refine then_n ?_
    (apply awp_cond; exact rfl)
    (refine im_dt (fun _ => ?_); (try (exfalso; omega)))
    refine awp_skip ?_; refine then_n ?_; refine awp_seq ?_; refine awp_block ?_; refine awp_seq ?_
    (refine ao_region ?_ (fun _ => ?_); exact rfl)
    refine q32 ?_; refine q23 ?_; refine q11 ?_; refine q17 ?_; refine q33 ?_
    (apply S_alloc; exact rfl)
    refine q15 ?_; refine ao_nil ?_; refine then_n ?_
    iterate 2 refine awp_seq ?_
    (refine ao_region ?_ (fun _ => ?_); exact rfl)
    refine q28 ?_; refine q16 ?_; refine q32 ?_; refine q23 ?_; refine q44 ?_; refine ao_nil ?_; refine then_n ?_
    (apply awp_cond; exact rfl)
    (refine im_nt (fun _ => ?_); (try (exfalso; omega)))
    refine awp_seq ?_
    (refine ao_region ?_ (fun _ => ?_); exact rfl)
    refine q12 ?_; refine ao_nil ?_; refine then_n ?_; refine awp_ret ?_; refine then_r ?_; refine blk_r ?_
    iterate 2 refine then_r ?_
    refine blk_r ?_; refine then_r ?_
    rotate_left
    (refine im_nf (fun _ => ?_); (try (exfalso; omega)))
    refine awp_skip ?_; refine then_n ?_
    iterate 2 refine awp_seq ?_
    (refine ao_region ?_ (fun _ => ?_); exact rfl)
    refine q28 ?_; refine q16 ?_; refine q11 ?_
    (apply spec_t; exact rfl; exact rfl)
    (refine im_any fun hc_ => ?_; try have hc1_ := (band hc_).1)
    refine q2
    (apply spec_t; exact rfl; exact rfl)
    (refine im_any fun hc_ => ?_; try have hc1_ := (band hc_).1)
    refine q3
    (apply spec_t; exact rfl; exact rfl)
    (refine im_any fun hc_ => ?_; try have hc1_ := (band hc_).1)
    refine q7; refine q4 ?_; refine ao_nil ?_; refine then_n ?_
    (apply awp_cond; exact rfl)
    refine im_at ?_
    (refine im_vt (fun _ => ?_))
    (refine im_dt (fun _ => ?_); (try (exfalso; omega)))
    refine awp_seq ?_
    (refine ao_region ?_ (fun _ => ?_); exact rfl)
    refine q12 ?_; refine ao_nil ?_; refine then_n ?_; refine awp_ret ?_; refine then_r ?_; refine blk_r ?_
    iterate 2 refine then_r ?_
    refine blk_r ?_; refine then_r ?_
    rotate_left
    (refine im_af (fun hc_ => ?_); (try simp only [Bool.not_eq_true', Bool.not_eq_false', Bool.or_eq_true, Bool.and_eq_true, Bool.or_eq_false_iff, Bool.and_eq_false_iff, decide_eq_true_eq, decide_eq_false_iff_not, Decidable.not_not, Int.not_lt, Int.not_le, Bool.not_true, Bool.not_false, Bool.true_and, Bool.and_true, Bool.false_or, Bool.or_false, Bool.true_or, Bool.false_and, bne_eq_false_iff_eq, bne_iff_ne, beq_iff_eq, beq_eq_false_iff_ne, decide_eq_decide] at hc_))
    refine awp_skip ?_; refine then_n ?_; refine awp_seq ?_
    (refine ao_region ?_ (fun _ => ?_); exact rfl)
    refine q28 ?_; refine q16 ?_; refine ao_nil ?_; refine then_n ?_
    (apply awp_cond; exact rfl)
    (refine im_vt (fun _ => ?_))
    iterate 2 refine awp_seq ?_
    (refine ao_region ?_ (fun _ => ?_); exact rfl)
    refine q28 ?_; refine q16 ?_; refine q32 ?_; refine q23 ?_; refine q46 ?_; refine ao_nil ?_; refine then_n ?_
    (apply awp_cond; exact rfl)
    (refine im_dt (fun _ => ?_); (try (exfalso; omega)))
    refine awp_seq ?_
    (refine ao_region ?_ (fun _ => ?_); exact rfl)
    refine q11 ?_; refine q12 ?_; refine ao_nil ?_; refine then_n ?_; refine awp_ret ?_; refine then_r ?_; refine blk_r ?_
    iterate 2 refine then_r ?_
    refine blk_r ?_; refine then_r ?_
    rotate_left
    (refine im_df (fun _ => ?_); (try (exfalso; omega)))
    refine awp_skip ?_; refine then_n ?_; refine awp_seq ?_
    (refine ao_region ?_ (fun _ => ?_); exact rfl)
    refine q12 ?_; refine ao_nil ?_; refine then_n ?_; refine awp_ret ?_; refine blk_r ?_
    iterate 2 refine then_r ?_
    refine blk_r ?_; refine then_r ?_
    rotate_left
    (refine im_vf (fun _ => ?_))
    refine awp_skip ?_; refine blk_n ?_; refine then_n ?_
    (refine ao_region ?_ (fun _ => ?_); exact rfl)
    refine q11 ?_
    (apply S_sub64; exact rfl; exact rfl; omega)
    refine q12 ?_; refine ao_nil ?_; refine then_n ?_
    rotate_left
    (refine im_df (fun _ => ?_); (try (exfalso; omega)))
    · refine done_i rfl ?_
      simp only [Int.toNat_natCast] at *
      rw [ht, pairTo]; grind
    · refine done_i rfl ?_
      simp only [Int.toNat_natCast] at *
      rw [ht, pairTo]; grind
    · refine done_i rfl ?_
      simp only [Int.toNat_natCast] at *
      rw [ht, pairTo]; grind
    · refine done_i rfl ?_
      simp only [Int.toNat_natCast] at *
      rw [ht, pairTo]; grind
    · refine round' k ⟨by omega, ?_⟩ (by omega) (by repeat' (first | exact le_nil _ | exact sle_nil _ | refine le_cons rfl ?_ | refine sle_cons rfl ?_)) (by repeat' (first | exact le_nil _ | exact sle_nil _ | refine le_cons rfl ?_ | refine sle_cons rfl ?_))
      simp only [Int.toNat_natCast] at *
      rw [ht, pairTo]; grind
end Go.Proofs.YtnghoibkjphfmaaGreat
