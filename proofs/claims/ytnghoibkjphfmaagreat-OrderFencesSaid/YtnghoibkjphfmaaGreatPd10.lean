/- Lists held against each other; program order, of the reference; in plain data. -/
import Derived.Test.YtnghoibkjphfmaaGreatPd3
import Derived.Test.YtnghoibkjphfmaaGreatPd4
import Derived.Test.YtnghoibkjphfmaaGreatPd9
set_option maxRecDepth 100000
set_option linter.unusedVariables false
set_option linter.unusedSimpArgs false
namespace Go.Proofs.YtnghoibkjphfmaaGreat
open Go.RowKit
/-- two lists, one by one -/
def eqTo {α : Type} [Inhabited α] (f : α → α → Bool) (a b : List α) (k : Nat) : Bool := (List.range k).all fun i => f (a.getD i default) (b.getD i default)
theorem eqTo_succ {α : Type} [Inhabited α] (f : α → α → Bool) (a b : List α) (k : Nat) : eqTo f a b (k + 1) = (eqTo f a b k && f (a.getD k default) (b.getD k default)) := by
  unfold eqTo; rw [List.range_succ, List.all_append]; simp
theorem eqTo_false {α : Type} [Inhabited α] {f : α → α → Bool} {a b : List α} {k : Nat} (n : Nat) (hk : k < n) (h : f (a.getD k default) (b.getD k default) = false) : eqTo f a b n = false := by
  unfold eqTo
  rw [List.all_eq_false]
  exact ⟨k, by simpa using hk, by rw [h]; decide⟩
def eqL {α : Type} [Inhabited α] (f : α → α → Bool) (a b : List α) : Bool := decide (a.length = b.length) && eqTo f a b a.length
theorem eqL_len {α : Type} [Inhabited α] {f : α → α → Bool} {a b : List α} (h : ¬ a.length = b.length) : eqL f a b = false := by unfold eqL; simp [h]
theorem eqL_false {α : Type} [Inhabited α] {f : α → α → Bool} {a b : List α} {k : Nat} (hk : k < a.length) (h : f (a.getD k default) (b.getD k default) = false) : eqL f a b = false := by unfold eqL; rw [eqTo_false _ hk h]; simp
theorem eqL_true {α : Type} [Inhabited α] {f : α → α → Bool} {a b : List α} (h : a.length = b.length) (h2 : eqTo f a b a.length = true) : eqL f a b = true := by unfold eqL; rw [h2]; simp [h]
def intB (a b : Int) : Bool := decide (a = b)
def eqI (a b : List Int) : Bool := eqL intB a b
theorem eqL_refl {α : Type} [Inhabited α] (f : α → α → Bool) (hf : ∀ a, f a a = true) (a : List α) : eqL f a a = true := eqL_true rfl (by unfold eqTo; simp [hf])
def pairB (a b : Int × Int) : Bool := a.1 == b.1 && a.2 == b.2
def eqP (a b : List (Int × Int)) : Bool := eqL pairB a b
theorem eqP_refl (a : List (Int × Int)) : eqP a a = true := eqL_refl _ (fun p => by simp [pairB]) a
set_option maxHeartbeats 1000000 in
theorem rsamePairs_p (a b : List (Int × Int)) (ha : a.length ≤ 1152921504606846976) (hb : b.length ≤ 1152921504606846976) : Pure E.P 15 [.d (pairsTV a), .d (pairsTV b)] (.bool (eqP a b)) := by
  refine fn_of_awp Tryz.func15 (by decide) rfl Tryz.ntmps15 (Nat.le_of_ble_eq_true rfl) rfl ?_
  refine awp_seq ?_
  (refine ao_region ?_ (fun _ => ?_); exact rfl)
  refine q12 ?_; refine ao_nil ?_; refine then_n ?_
  iterate 2 refine awp_seq ?_
  (refine ao_region ?_ (fun _ => ?_); exact rfl)
  refine q11 ?_; refine q13 ?_; refine q11 ?_; refine q13 ?_; refine q44 ?_; refine ao_nil ?_; refine then_n ?_
  (apply awp_cond; exact rfl)
  (refine im_nt (fun _ => ?_); (try (exfalso; omega)))
  refine awp_seq ?_
  (refine ao_region ?_ (fun _ => ?_); exact rfl)
  refine q12 ?_; refine ao_nil ?_; refine then_n ?_; refine awp_ret ?_; refine then_r ?_
  rotate_left
  (refine im_nf (fun _ => ?_); (try (exfalso; omega)))
  refine awp_skip ?_; refine then_n ?_
  iterate 2 refine awp_seq ?_
  (refine ao_region ?_ (fun _ => ?_); exact rfl)
  refine q12 ?_; refine ao_nil ?_; refine then_n ?_; refine awp_block ?_
  rotate_left
  · exact done_b rfl (eqL_len (by omega)).symm
  refine awp_loop (X := Nat) (fun k => tmL [(0, .d (pairsTV a)), (1, .d (pairsTV b)), (5, .int .i64 k)]) (fun _ => stL []) (fun k => k ≤ a.length ∧ eqTo pairB a b k = true) (fun k => a.length - k) 0 ⟨Nat.zero_le _, rfl⟩ (by repeat' (first | exact le_nil _ | exact sle_nil _ | refine le_cons rfl ?_ | refine sle_cons rfl ?_)) (by repeat' (first | exact le_nil _ | exact sle_nil _ | refine le_cons rfl ?_ | refine sle_cons rfl ?_)) ?_
  rintro k ⟨hk, ht⟩
  iterate 2 refine awp_seq ?_
  (refine ao_region ?_ (fun _ => ?_); exact rfl)
  iterate 2 refine q11 ?_
  refine q13 ?_; refine q37 ?_; refine ao_nil ?_; refine then_n ?_
  (apply awp_cond; exact rfl)
  (refine im_dt (fun _ => ?_); (try (exfalso; omega)))
  refine awp_skip ?_; refine then_n ?_; refine awp_seq ?_; refine awp_block ?_; refine awp_seq ?_
  (refine do_region (E := E) ?_ (fun _ => ?_); exact rfl)
  iterate 2 refine q38 ?_
  refine q30 ?_
  (apply D_load_ptA; exact rfl; exact rfl; exact rfl; exact Nat.le_of_ble_eq_true rfl)
  iterate 2 refine q38 ?_
  refine q30 ?_
  (apply D_load_ptA; exact rfl; exact rfl; exact rfl; exact Nat.le_of_ble_eq_true rfl)
  (((apply D_neqP (a.getD (k : Int).toNat default) (b.getD (k : Int).toNat default)); exact rfl; exact rfl))
  (refine do_nil ?_ ?_; (first | ((try dsimp only [wkeys]); decide +kernel) | exact rfl))
  refine then_n ?_
  (apply awp_cond; exact rfl)
  refine im_bt ?_
  (refine im_af (fun hc_ => ?_); (try simp only [Bool.not_eq_true', Bool.not_eq_false', Bool.or_eq_true, Bool.and_eq_true, Bool.or_eq_false_iff, Bool.and_eq_false_iff, decide_eq_true_eq, decide_eq_false_iff_not, Decidable.not_not, Int.not_lt, Int.not_le, Bool.not_true, Bool.not_false, Bool.true_and, Bool.and_true, Bool.false_or, Bool.or_false, Bool.true_or, Bool.false_and, bne_eq_false_iff_eq, bne_iff_ne, beq_iff_eq, beq_eq_false_iff_ne, decide_eq_decide] at hc_))
  refine awp_seq ?_
  (refine ao_region ?_ (fun _ => ?_); exact rfl)
  refine q12 ?_; refine ao_nil ?_; refine then_n ?_; refine awp_ret ?_; refine blk_r ?_
  iterate 2 refine then_r ?_
  refine blk_r ?_; refine then_r ?_
  rotate_left
  refine im_bf ?_; refine im_at ?_
  iterate 2 (refine im_vt (fun _ => ?_))
  refine awp_skip ?_; refine blk_n ?_; refine then_n ?_
  (refine ao_region ?_ (fun _ => ?_); exact rfl)
  refine q11 ?_; refine q36 ?_; refine q12 ?_; refine ao_nil ?_; refine then_n ?_
  rotate_left
  (refine im_df (fun _ => ?_); (try (exfalso; omega)))
  refine awp_exit ?_
  iterate 2 refine then_x ?_
  refine blk_x ?_; refine then_n ?_; refine awp_seq ?_
  (refine ao_region ?_ (fun _ => ?_); exact rfl)
  refine q12 ?_; refine ao_nil ?_; refine then_n ?_; refine awp_ret ?_
  rotate_left
  · have hne : pairB (a.getD k default) (b.getD k default) = false := by
      simp only [Int.toNat_natCast] at *
      unfold pairB
      grind
    exact done_b rfl (eqL_false (k := k) (by omega) hne).symm
  · refine round' (k + 1) ⟨by omega, ?_⟩ (by omega) (by repeat' (first | exact le_nil _ | exact sle_nil _ | refine le_cons rfl ?_ | refine sle_cons rfl ?_)) (by repeat' (first | exact le_nil _ | exact sle_nil _ | refine le_cons rfl ?_ | refine sle_cons rfl ?_))
    rw [eqTo_succ, ht, Bool.true_and]
    simp only [Int.toNat_natCast] at *
    unfold pairB
    grind
  · exact done_b rfl (eqL_true (by omega) (by rw [← show k = a.length by omega]; exact ht)).symm
theorem rpo_p (x : Ex) (hx : x.evs.length ≤ 65536) (a b : Nat) (ha : a < x.evs.length) (hb : b < x.evs.length) : Pure E.P 36 [exOV x, .int .i64 a, .int .i64 b] (.bool (isPo x a b)) := by
  refine fn_of_awp Tryz.func36 (by decide) rfl Tryz.ntmps36 (Nat.le_of_ble_eq_true rfl) rfl ?_
  refine awp_seq ?_
  (refine ao_region ?_ (fun _ => ?_); exact rfl)
  refine q40 ?_; refine q12 ?_; refine ao_nil ?_; refine then_n ?_; refine awp_seq ?_
  (refine do_region (E := E) ?_ (fun _ => ?_); exact rfl)
  iterate 2 refine q38 ?_
  (apply D_lss; exact rfl; exact rfl)
  refine q38 ?_
  (apply dspec_t; exact rfl; exact rfl)
  (refine im_any fun hc_ => ?_; try have hc1_ := (band hc_).1)
  refine q2
  (apply dspec_t; exact rfl; exact rfl)
  (refine im_any fun hc_ => ?_; try have hc1_ := (band hc_).1)
  refine q3
  (apply dspec_t; exact rfl; exact rfl)
  (refine im_any fun hc_ => ?_; try have hc1_ := (band hc_).1)
  refine q1
  (apply dspec_t; exact rfl; exact rfl)
  (refine im_any fun hc_ => ?_; try have hc1_ := (band hc_).1)
  ((have hp_ := hc_; (try simp only [Bool.not_eq_true', Bool.not_eq_false', Bool.or_eq_true, Bool.and_eq_true, Bool.or_eq_false_iff, Bool.and_eq_false_iff, decide_eq_true_eq, decide_eq_false_iff_not, Decidable.not_not, Int.not_lt, Int.not_le, Bool.not_true, Bool.not_false, Bool.true_and, Bool.and_true, Bool.false_or, Bool.or_false, Bool.true_or, Bool.false_and, bne_eq_false_iff_eq, bne_iff_ne, beq_iff_eq, beq_eq_false_iff_ne, decide_eq_decide] at hp_)))
  refine q5
  (apply dspec_t; exact rfl; exact rfl)
  (refine im_any fun hc_ => ?_; try have hc1_ := (band hc_).1)
  refine q8
  (apply dspec_t; exact rfl; exact rfl)
  (refine im_any fun hc_ => ?_; try have hc1_ := (band hc_).1)
  refine q6
  (apply dspec_t; exact rfl; exact rfl)
  (refine im_any fun hc_ => ?_; try have hc1_ := (band hc_).1)
  refine q21; refine q9 ?_; refine q38 ?_
  (apply dspec_t; exact rfl; exact rfl)
  (refine im_any fun hc_ => ?_; try have hc1_ := (band hc_).1)
  refine q2
  (apply dspec_t; exact rfl; exact rfl)
  (refine im_any fun hc_ => ?_; try have hc1_ := (band hc_).1)
  refine q3
  (apply dspec_t; exact rfl; exact rfl)
  (refine im_any fun hc_ => ?_; try have hc1_ := (band hc_).1)
  refine q1
  (apply dspec_t; exact rfl; exact rfl)
  (refine im_any fun hc_ => ?_; try have hc1_ := (band hc_).1)
  ((have hp_ := hc_; (try simp only [Bool.not_eq_true', Bool.not_eq_false', Bool.or_eq_true, Bool.and_eq_true, Bool.or_eq_false_iff, Bool.and_eq_false_iff, decide_eq_true_eq, decide_eq_false_iff_not, Decidable.not_not, Int.not_lt, Int.not_le, Bool.not_true, Bool.not_false, Bool.true_and, Bool.and_true, Bool.false_or, Bool.or_false, Bool.true_or, Bool.false_and, bne_eq_false_iff_eq, bne_iff_ne, beq_iff_eq, beq_eq_false_iff_ne, decide_eq_decide] at hp_)))
  refine q5
  (apply dspec_t; exact rfl; exact rfl)
  (refine im_any fun hc_ => ?_; try have hc1_ := (band hc_).1)
  refine q8
  (apply dspec_t; exact rfl; exact rfl)
  (refine im_any fun hc_ => ?_; try have hc1_ := (band hc_).1)
  refine q6
  (apply dspec_t; exact rfl; exact rfl)
  (refine im_any fun hc_ => ?_; try have hc1_ := (band hc_).1)
  refine q2
  (apply dspec_t; exact rfl; exact rfl)
  (refine im_any fun hc_ => ?_; try have hc1_ := (band hc_).1)
  refine q3
  (apply dspec_t; exact rfl; exact rfl)
  (refine im_any fun hc_ => ?_; try have hc1_ := (band hc_).1)
  refine q1
  (apply dspec_t; exact rfl; exact rfl)
  (refine im_any fun hc_ => ?_; try have hc1_ := (band hc_).1)
  ((have hp_ := hc_; (try simp only [Bool.not_eq_true', Bool.not_eq_false', Bool.or_eq_true, Bool.and_eq_true, Bool.or_eq_false_iff, Bool.and_eq_false_iff, decide_eq_true_eq, decide_eq_false_iff_not, Decidable.not_not, Int.not_lt, Int.not_le, Bool.not_true, Bool.not_false, Bool.true_and, Bool.and_true, Bool.false_or, Bool.or_false, Bool.true_or, Bool.false_and, bne_eq_false_iff_eq, bne_iff_ne, beq_iff_eq, beq_eq_false_iff_ne, decide_eq_decide] at hp_)))
  refine q5
  (apply dspec_t; exact rfl; exact rfl)
  (refine im_any fun hc_ => ?_; try have hc1_ := (band hc_).1)
  refine q8
  (apply dspec_t; exact rfl; exact rfl)
  (refine im_any fun hc_ => ?_; try have hc1_ := (band hc_).1)
  refine q6
  (apply dspec_t; exact rfl; exact rfl)
  (refine im_any fun hc_ => ?_; try have hc1_ := (band hc_).1)
  refine q7; refine q9 ?_
  (apply D_assign; exact rfl)
  (refine do_nil ?_ ?_; (first | ((try dsimp only [wkeys]); decide +kernel) | exact rfl))
  refine then_n ?_; refine awp_ret ?_
  rotate_left
  refine done_b rfl ?_
  rw [Bool.eq_iff_iff]
  unfold isPo
  simp only [Bool.and_eq_true, decide_eq_true_eq, Int.toNat_natCast, Int.ofNat_lt]
end Go.Proofs.YtnghoibkjphfmaaGreat
/- What must stay in order, as the document's rules tell it. Plain. -/
set_option linter.unusedVariables false
set_option linter.unusedSimpArgs false
namespace Go.Proofs.YtnghoibkjphfmaaGreat
/-- does an event load or store for a hart? -/
def accB (e : Ev) : Bool := decide (0 ≤ e.hart) && !decide (e.kind = 4)
def pairOf (x : Ex) (a b : Nat) : Bool := accB (x.evs.getD a default) && accB (x.evs.getD b default) && decide (a < b) && decide ((x.evs.getD a default).hart = (x.evs.getD b default).hart)
def oneB (e f : Ev) : Bool := decide (e.addr = f.addr)
/-- is it so of an event between two? -/
def someB (a b : Nat) (f : Nat → Bool) : Bool := (List.range b).any fun n => decide (a < n) && f n
def inB (s : Int) (e : Ev) : Bool := (decide (s = 1) || decide (s = 3)) && e.stB || (decide (s = 2) || decide (s = 3)) && e.ldB
def strongB (e : Ev) : Bool := (e.aq || e.rl) && (decide (e.kind = 3) || e.rsv)
def hasB (l : List Int) (a : Nat) : Bool := decide (0 ≤ atI l a)
/-- the load that a store is paired with, looked for below a place; -1: none -/
def pairTo (es : List Ev) (f : Ev) : Nat → Int
  | 0 => -1
  | k + 1 =>
    if (es.getD k default).hart = f.hart then
      if (es.getD k default).rsv = true then (if (es.getD k default).kind = 2 then -1 else if (es.getD k default).addr = f.addr then (k : Int) else -1)
      else pairTo es f k
    else -1
def pairedI (x : Ex) (b : Nat) : Int := if (x.evs.getD b default).kind = 2 ∧ (x.evs.getD b default).rsv = true then pairTo x.evs (x.evs.getD b default) b else -1
def rule2 (x : Ex) (a b : Nat) : Bool := (x.evs.getD a default).ldB && (x.evs.getD b default).ldB && oneB (x.evs.getD a default) (x.evs.getD b default) && !decide (x.from_.getD a 0 = x.from_.getD b 0) && !someB a b (fun n => (x.evs.getD n default).stB && decide ((x.evs.getD n default).addr = (x.evs.getD a default).addr))
def rule3 (x : Ex) (a b : Nat) : Bool := (decide ((x.evs.getD a default).kind = 3) || decide ((x.evs.getD a default).kind = 2) && (x.evs.getD a default).rsv) && decide (x.from_.getD b 0 = (a : Int))
def hit4 (x : Ex) (a b n : Nat) : Bool := decide ((x.evs.getD n default).kind = 4) && inB (x.evs.getD n default).pred (x.evs.getD a default) && inB (x.evs.getD n default).succ (x.evs.getD b default)
def hit12 (x : Ex) (a b n : Nat) : Bool := (x.evs.getD n default).stB && decide (x.from_.getD b 0 = (n : Int)) && (hasB (x.evs.getD n default).addrs a || hasB (x.evs.getD n default).datas a)
def hit13 (x : Ex) (a n : Nat) : Bool := hasB (x.evs.getD n default).addrs a
/-- the rules, by number -/
def ruleR (x : Ex) (r : Int) (a b : Nat) : Bool :=
  if r = 1 then (x.evs.getD b default).stB && oneB (x.evs.getD a default) (x.evs.getD b default)
  else if r = 2 then rule2 x a b
  else if r = 3 then rule3 x a b
  else if r = 4 then someB a b (hit4 x a b)
  else if r = 5 then (x.evs.getD a default).aq
  else if r = 6 then (x.evs.getD b default).rl
  else if r = 7 then strongB (x.evs.getD a default) && strongB (x.evs.getD b default)
  else if r = 8 then decide (pairedI x b = (a : Int))
  else if r = 9 then hasB (x.evs.getD b default).addrs a
  else if r = 10 then hasB (x.evs.getD b default).datas a
  else if r = 11 then (x.evs.getD b default).stB && hasB (x.evs.getD b default).ctrls a
  else if r = 12 then (x.evs.getD b default).ldB && someB a b (hit12 x a b)
  else if r = 13 then (x.evs.getD b default).stB && someB a b (hit13 x a)
  else false
def ruleB (x : Ex) (r : Int) (a b : Nat) : Bool := pairOf x a b && ruleR x r a b
def rs13 : List Int := [1, 2, 3, 4, 5, 6, 7, 8, 9, 10, 11, 12, 13]
/-- the rules that hold of a pair -/
def heldL (x : Ex) (a b : Nat) : List Int := rs13.filter fun r => ruleR x r a b
def isPpo (x : Ex) (a b : Nat) : Bool := rs13.any fun r => ruleB x r a b
theorem pairOf_po {x : Ex} {a b : Nat} (h : pairOf x a b = true) : isPo x a b = true := by
  unfold pairOf accB at h
  unfold isPo
  simp only [Bool.and_eq_true, decide_eq_true_eq] at h ⊢
  exact ⟨⟨h.1.2, h.1.1.1.1⟩, h.2⟩
theorem pairOf_eq (x : Ex) (a b : Nat) : pairOf x a b = (isPo x a b && !decide ((x.evs.getD a default).kind = 4) && !decide ((x.evs.getD b default).kind = 4)) := by
  rw [Bool.eq_iff_iff]
  unfold pairOf accB isPo
  simp only [Bool.and_eq_true, decide_eq_true_eq]
  constructor
  · rintro ⟨⟨⟨⟨h1, h2⟩, h3, h4⟩, h5⟩, h6⟩; exact ⟨⟨⟨⟨h5, h1⟩, h6⟩, h2⟩, h4⟩
  · rintro ⟨⟨⟨⟨h5, h1⟩, h6⟩, h2⟩, h4⟩; exact ⟨⟨⟨⟨h1, h2⟩, by rw [← h6]; exact h1, h4⟩, h5⟩, h6⟩
theorem isPpo_eq (x : Ex) (a b : Nat) : isPpo x a b = (pairOf x a b && decide (0 < (heldL x a b).length)) := by
  unfold isPpo heldL ruleB
  cases pairOf x a b with
  | false => simp
  | true =>
    simp only [Bool.true_and]
    rw [Bool.eq_iff_iff, List.any_eq_true, decide_eq_true_eq]
    constructor
    · rintro ⟨r, h1, h2⟩
      exact List.length_pos_iff.2 (List.ne_nil_of_mem (List.mem_filter.2 ⟨h1, h2⟩))
    · intro h
      obtain ⟨r, hr⟩ := List.exists_mem_of_length_pos h
      exact ⟨r, (List.mem_filter.1 hr).1, (List.mem_filter.1 hr).2⟩
theorem flatMap_cong {α β : Type} {f g : α → List β} : ∀ {l : List α}, (∀ a ∈ l, f a = g a) → l.flatMap f = l.flatMap g
  | [], _ => rfl
  | a :: l, h => by rw [List.flatMap_cons, List.flatMap_cons, h a (by simp), flatMap_cong fun b hb => h b (by simp [hb])]
theorem filter_refPairs (n : Nat) (f g : Nat → Nat → Bool) (h : Int × Int → Bool) (hh : ∀ a b : Nat, a < n → b < n → f a b = true → h ((a : Int), (b : Int)) = g a b) (hg : ∀ a b, g a b = true → f a b = true) : (refPairs n f).filter h = refPairs n g := by
  unfold refPairs
  rw [List.filter_flatMap]
  refine flatMap_cong fun a ha => ?_
  rw [List.filter_map]
  refine congrArg _ ?_
  rw [List.filter_filter]
  refine List.filter_congr fun b hb => ?_
  have ha := List.mem_range.1 ha
  have hb := List.mem_range.1 hb
  cases hf : f a b with
  | false =>
    cases hq : g a b with
    | false => simp
    | true => rw [hg a b hq] at hf; cases hf
  | true => simp [hh a b ha hb hf]
theorem ppo_list (x : Ex) : (refPairs x.evs.length (isPo x)).filter (fun p => pairOf x p.1.toNat p.2.toNat && decide (0 < (heldL x p.1.toNat p.2.toNat).length)) = refPairs x.evs.length (isPpo x) :=
  filter_refPairs _ _ _ _ (fun a b _ _ _ => by rw [isPpo_eq]; simp only [Int.toNat_natCast]) fun a b h => by
    rw [isPpo_eq] at h
    simp only [Bool.and_eq_true] at h
    exact pairOf_po h.1
theorem someB_none {a b : Nat} {f : Nat → Bool} (h : b ≤ a + 1) : someB a b f = false := by
  unfold someB
  rw [List.any_eq_false]
  intro n hn
  have := List.mem_range.1 hn
  rw [show decide (a < n) = false by simp; omega]; simp
theorem someB_succ {a b : Nat} {f : Nat → Bool} (h : a < b) : someB a (b + 1) f = (someB a b f || f b) := by
  unfold someB
  rw [List.range_succ, List.any_append]
  simp [h]
theorem someB_hit {a b n : Nat} {f : Nat → Bool} (h1 : a < n) (h2 : n < b) (h : f n = true) : someB a b f = true := by
  unfold someB
  exact List.any_eq_true.2 ⟨n, List.mem_range.2 h2, by simp [h1, h]⟩
theorem someB_congr {a b : Nat} {f g : Nat → Bool} (h : ∀ n, a < n → n < b → f n = g n) : someB a b f = someB a b g := by
  unfold someB
  rw [Bool.eq_iff_iff]
  simp only [List.any_eq_true, List.mem_range, Bool.and_eq_true, decide_eq_true_eq]
  exact ⟨fun ⟨n, h1, h2, h3⟩ => ⟨n, h1, h2, by rw [← h n h2 h1]; exact h3⟩, fun ⟨n, h1, h2, h3⟩ => ⟨n, h1, h2, by rw [h n h2 h1]; exact h3⟩⟩
/-- the pair that the program finds below a place, and whether it fits -/
def pairTP (es : List Ev) (f : Ev) : Nat → Int × Bool
  | 0 => (0, false)
  | k + 1 =>
    if (es.getD k default).hart = f.hart then
      if (es.getD k default).rsv = true then ((k : Int), decide ((es.getD k default).kind = 1) && decide ((es.getD k default).addr = f.addr))
      else pairTP es f k
    else (0, false)
def pairedZ (x : Ex) (b : Nat) : Int × Bool := if (x.evs.getD b default).kind = 2 ∧ (x.evs.getD b default).rsv = true then pairTP x.evs (x.evs.getD b default) b else (0, false)
theorem pairTP_eq {es : List Ev} {f : Ev} (h : ∀ i, (es.getD i default).rsv = true → (es.getD i default).kind = 1 ∨ (es.getD i default).kind = 2) : ∀ k, (pairTP es f k).2 = decide (0 ≤ pairTo es f k) ∧ ((pairTP es f k).2 = true → (pairTP es f k).1 = pairTo es f k)
  | 0 => by simp [pairTP, pairTo]
  | k + 1 => by
    have ih := pairTP_eq (f := f) h k
    have hq := h k
    unfold pairTP pairTo
    generalize es.getD k default = g at hq ⊢
    by_cases h1 : g.hart = f.hart
    · rw [if_pos h1, if_pos h1]
      by_cases h2 : g.rsv = true
      · rw [if_pos h2, if_pos h2]
        rcases hq h2 with h3 | h3
        · rw [h3]
          by_cases h4 : g.addr = f.addr
          · rw [if_neg (by decide), if_pos h4]; simp [h4]
          · rw [if_neg (by decide), if_neg h4]; simp [h4]
        · rw [h3]; simp
      · rw [if_neg h2, if_neg h2]; exact ih
    · rw [if_neg h1, if_neg h1]; simp
theorem pairedZ_eq {x : Ex} (h : ∀ i, (x.evs.getD i default).rsv = true → (x.evs.getD i default).kind = 1 ∨ (x.evs.getD i default).kind = 2) (b : Nat) : (pairedZ x b).2 = decide (0 ≤ pairedI x b) ∧ ((pairedZ x b).2 = true → (pairedZ x b).1 = pairedI x b) := by
  unfold pairedZ pairedI
  by_cases h1 : (x.evs.getD b default).kind = 2 ∧ (x.evs.getD b default).rsv = true
  · rw [if_pos h1, if_pos h1]; exact pairTP_eq h b
  · rw [if_neg h1, if_neg h1]; simp
theorem pairedZ_rule {x : Ex} (h : ∀ i, (x.evs.getD i default).rsv = true → (x.evs.getD i default).kind = 1 ∨ (x.evs.getD i default).kind = 2) (a b : Nat) : ((pairedZ x b).2 && decide ((pairedZ x b).1 = (a : Int))) = decide (pairedI x b = (a : Int)) := by
  obtain ⟨h1, h2⟩ := pairedZ_eq h b
  cases h3 : (pairedZ x b).2 with
  | true => rw [h2 h3]; simp
  | false =>
    rw [h3] at h1
    have : ¬ 0 ≤ pairedI x b := by simpa using h1.symm
    simp only [Bool.false_and]
    exact (decide_eq_false (by omega)).symm
theorem held_eq (x : Ex) (a b : Nat) : ((List.range 14).filter fun (r : Nat) => decide (1 ≤ r) && ruleR x (r : Int) a b).map (fun (r : Nat) => (r : Int)) = heldL x a b := by
  have e : (List.range 14).map (fun (r : Nat) => (r : Int)) = 0 :: rs13 := by decide
  have h := List.filter_map (f := fun (r : Nat) => (r : Int)) (p := fun z : Int => decide (1 ≤ z) && ruleR x z a b) (l := List.range 14)
  rw [e] at h
  unfold heldL
  have h2 : ((List.range 14).filter ((fun z : Int => decide (1 ≤ z) && ruleR x z a b) ∘ fun (r : Nat) => (r : Int))) = (List.range 14).filter fun (r : Nat) => decide (1 ≤ r) && ruleR x (r : Int) a b := by
    refine List.filter_congr fun r _ => ?_
    show (decide ((1 : Int) ≤ (r : Int)) && ruleR x r a b) = _
    congr 1
    exact decide_eq_decide.2 (by omega)
  rw [h2] at h
  rw [← h, List.filter_cons, if_neg (by simp)]
  refine List.filter_congr fun r hr => ?_
  have : (1 : Int) ≤ r := by
    unfold rs13 at hr
    simp only [List.mem_cons, List.not_mem_nil, or_false] at hr
    omega
  simp [this]
end Go.Proofs.YtnghoibkjphfmaaGreat
/- The program's rules: small parts, in plain data. -/
set_option maxRecDepth 100000
set_option linter.unusedVariables false
set_option linter.unusedSimpArgs false
namespace Go.Proofs.YtnghoibkjphfmaaGreat
open Go.RowKit
theorem est_p (e : Ev) : Pure E.P 57 [evOV e] (.bool e.stB) := by
  refine fn_of_awp Tryz.func57 (by decide) rfl Tryz.ntmps57 (Nat.le_of_ble_eq_true rfl) rfl ?_
  refine awp_seq ?_
  (refine ao_region ?_ (fun _ => ?_); exact rfl)
  refine q40 ?_; refine q12 ?_; refine ao_nil ?_; refine then_n ?_; refine awp_seq ?_
  (refine ao_region ?_ (fun _ => ?_); exact rfl)
  refine q28 ?_; refine q16 ?_; refine q46 ?_; refine q11 ?_
  (apply spec_f; exact rfl; exact rfl)
  (refine im_any fun hc_ => ?_; try have hc1_ := (band hc_).1)
  refine q2
  (apply spec_f; exact rfl; exact rfl)
  (refine im_any fun hc_ => ?_; try have hc1_ := (band hc_).1)
  refine q3
  (apply spec_f; exact rfl; exact rfl)
  (refine im_any fun hc_ => ?_; try have hc1_ := (band hc_).1)
  refine q7; refine q0 ?_; refine q11 ?_
  (apply spec_f; exact rfl; exact rfl)
  (refine im_any fun hc_ => ?_; try have hc1_ := (band hc_).1)
  refine q2
  (apply spec_f; exact rfl; exact rfl)
  (refine im_any fun hc_ => ?_; try have hc1_ := (band hc_).1)
  refine q3
  (apply spec_f; exact rfl; exact rfl)
  (refine im_any fun hc_ => ?_; try have hc1_ := (band hc_).1)
  refine q7; refine q0 ?_; refine q12 ?_; refine ao_nil ?_; refine then_n ?_; refine awp_ret ?_
  rotate_left
  all_goals (refine done_b rfl ?_; rw [Bool.eq_iff_iff]; simp_all [Ev.stB])
theorem eld_p (e : Ev) : Pure E.P 59 [evOV e] (.bool e.ldB) := by
  refine fn_of_awp Tryz.func59 (by decide) rfl Tryz.ntmps59 (Nat.le_of_ble_eq_true rfl) rfl ?_
  refine awp_seq ?_
  (refine ao_region ?_ (fun _ => ?_); exact rfl)
  refine q40 ?_; refine q12 ?_; refine ao_nil ?_; refine then_n ?_; refine awp_seq ?_
  (refine ao_region ?_ (fun _ => ?_); exact rfl)
  refine q28 ?_; refine q16 ?_; refine q46 ?_; refine q11 ?_
  (apply spec_f; exact rfl; exact rfl)
  (refine im_any fun hc_ => ?_; try have hc1_ := (band hc_).1)
  refine q2
  (apply spec_f; exact rfl; exact rfl)
  (refine im_any fun hc_ => ?_; try have hc1_ := (band hc_).1)
  refine q3
  (apply spec_f; exact rfl; exact rfl)
  (refine im_any fun hc_ => ?_; try have hc1_ := (band hc_).1)
  refine q7; refine q0 ?_; refine q12 ?_; refine ao_nil ?_; refine then_n ?_; refine awp_ret ?_
  rotate_left
  all_goals (refine done_b rfl ?_; rw [Bool.eq_iff_iff]; simp_all [Ev.ldB])
theorem strong_p (e : Ev) : Pure E.P 69 [evOV e] (.bool (strongB e)) := by
  refine fn_of_awp Tryz.func69 (by decide) rfl Tryz.ntmps69 (Nat.le_of_ble_eq_true rfl) rfl ?_
  refine awp_seq ?_
  (refine ao_region ?_ (fun _ => ?_); exact rfl)
  refine q40 ?_; refine q12 ?_; refine ao_nil ?_; refine then_n ?_; refine awp_seq ?_
  (refine ao_region ?_ (fun _ => ?_); exact rfl)
  refine q28 ?_; refine q16 ?_; refine q11 ?_
  (apply spec_f; exact rfl; exact rfl)
  (refine im_any fun hc_ => ?_; try have hc1_ := (band hc_).1)
  refine q2
  (apply spec_f; exact rfl; exact rfl)
  (refine im_any fun hc_ => ?_; try have hc1_ := (band hc_).1)
  refine q3; refine q0 ?_; refine q11 ?_
  (apply spec_t; exact rfl; exact rfl)
  (refine im_any fun hc_ => ?_; try have hc1_ := (band hc_).1)
  refine q2
  (apply spec_t; exact rfl; exact rfl)
  (refine im_any fun hc_ => ?_; try have hc1_ := (band hc_).1)
  refine q3
  (apply spec_t; exact rfl; exact rfl)
  (refine im_any fun hc_ => ?_; try have hc1_ := (band hc_).1)
  refine q7
  (apply spec_t; exact rfl; exact rfl)
  (refine im_any fun hc_ => ?_; try have hc1_ := (band hc_).1)
  refine q1
  (apply spec_mf; exact rfl; exact rfl)
  (refine im_any fun hc_ => ?_; try have hc1_ := (band hc_).1)
  refine q2
  (apply spec_mf; exact rfl; exact rfl)
  (refine im_any fun hc_ => ?_; try have hc1_ := (band hc_).1)
  refine q3
  (apply spec_t; exact rfl; exact rfl)
  (refine im_any fun hc_ => ?_; try have hc1_ := (band hc_).1)
  refine q24; refine q4 ?_; refine q12 ?_; refine ao_nil ?_; refine then_n ?_; refine awp_ret ?_
  rotate_left
  all_goals (refine done_b rfl ?_; rw [Bool.eq_iff_iff]; simp_all [strongB])
theorem rstrong_p (e : Ev) : Pure E.P 43 [evOV e] (.bool (strongB e)) := by
  refine fn_of_awp Tryz.func43 (by decide) rfl Tryz.ntmps43 (Nat.le_of_ble_eq_true rfl) rfl ?_
  refine awp_seq ?_
  (refine ao_region ?_ (fun _ => ?_); exact rfl)
  refine q40 ?_; refine q12 ?_; refine ao_nil ?_; refine then_n ?_; refine awp_seq ?_
  (refine ao_region ?_ (fun _ => ?_); exact rfl)
  refine q28 ?_; refine q16 ?_; refine q11 ?_
  (apply spec_f; exact rfl; exact rfl)
  (refine im_any fun hc_ => ?_; try have hc1_ := (band hc_).1)
  refine q2
  (apply spec_f; exact rfl; exact rfl)
  (refine im_any fun hc_ => ?_; try have hc1_ := (band hc_).1)
  refine q3; refine q0 ?_; refine q11 ?_
  (apply spec_t; exact rfl; exact rfl)
  (refine im_any fun hc_ => ?_; try have hc1_ := (band hc_).1)
  refine q2
  (apply spec_t; exact rfl; exact rfl)
  (refine im_any fun hc_ => ?_; try have hc1_ := (band hc_).1)
  refine q3
  (apply spec_t; exact rfl; exact rfl)
  (refine im_any fun hc_ => ?_; try have hc1_ := (band hc_).1)
  refine q7
  (apply spec_t; exact rfl; exact rfl)
  (refine im_any fun hc_ => ?_; try have hc1_ := (band hc_).1)
  refine q1
  (apply spec_mf; exact rfl; exact rfl)
  (refine im_any fun hc_ => ?_; try have hc1_ := (band hc_).1)
  refine q2
  (apply spec_mf; exact rfl; exact rfl)
  (refine im_any fun hc_ => ?_; try have hc1_ := (band hc_).1)
  refine q3
  (apply spec_t; exact rfl; exact rfl)
  (refine im_any fun hc_ => ?_; try have hc1_ := (band hc_).1)
  refine q24; refine q4 ?_; refine q12 ?_; refine ao_nil ?_; refine then_n ?_; refine awp_ret ?_
  rotate_left
  all_goals (refine done_b rfl ?_; rw [Bool.eq_iff_iff]; simp_all [strongB])
theorem access_p (x : Ex) (n : Nat) (hx : x.evs.length ≤ 65536) (hn : n < x.evs.length) : Pure E.P 52 [exOV x, .int .i64 n] (.bool (accB (x.evs.getD n default))) := by
  refine fn_of_awp Tryz.func52 (by decide) rfl Tryz.ntmps52 (Nat.le_of_ble_eq_true rfl) rfl ?_
  refine awp_seq ?_
  (refine ao_region ?_ (fun _ => ?_); exact rfl)
  refine q40 ?_; refine q12 ?_; refine ao_nil ?_; refine then_n ?_; refine awp_seq ?_
  (refine ao_region ?_ (fun _ => ?_); exact rfl)
  refine q11 ?_
  (apply S_geq; exact rfl; exact rfl)
  refine q11 ?_
  (apply spec_t; exact rfl; exact rfl)
  (refine im_any fun hc_ => ?_; try have hc1_ := (band hc_).1)
  refine q1
  (apply spec_t; exact rfl; exact rfl)
  (refine im_any fun hc_ => ?_; try have hc1_ := (band hc_).1)
  refine q2
  (apply spec_t; exact rfl; exact rfl)
  (refine im_any fun hc_ => ?_; try have hc1_ := (band hc_).1)
  refine q2
  (apply spec_t; exact rfl; exact rfl)
  (refine im_any fun hc_ => ?_; try have hc1_ := (band hc_).1)
  refine q3
  (apply spec_t; exact rfl; exact rfl)
  (refine im_any fun hc_ => ?_; try have hc1_ := (band hc_).1)
  refine q18
  (apply spec_t; exact rfl; exact rfl)
  (refine im_any fun hc_ => ?_; try have hc1_ := (band hc_).1)
  refine q22; refine q4 ?_; refine q11 ?_
  (apply spec_t; exact rfl; exact rfl)
  (refine im_any fun hc_ => ?_; try have hc1_ := (band hc_).1)
  refine q2
  (apply spec_t; exact rfl; exact rfl)
  (refine im_any fun hc_ => ?_; try have hc1_ := (band hc_).1)
  refine q2
  (apply spec_t; exact rfl; exact rfl)
  (refine im_any fun hc_ => ?_; try have hc1_ := (band hc_).1)
  refine q3
  (apply spec_t; exact rfl; exact rfl)
  (refine im_any fun hc_ => ?_; try have hc1_ := (band hc_).1)
  refine q1
  (apply spec_t; exact rfl; exact rfl)
  (refine im_any fun hc_ => ?_; try have hc1_ := (band hc_).1)
  ((have hp_ := hc_; (try simp only [Bool.not_eq_true', Bool.not_eq_false', Bool.or_eq_true, Bool.and_eq_true, Bool.or_eq_false_iff, Bool.and_eq_false_iff, decide_eq_true_eq, decide_eq_false_iff_not, Decidable.not_not, Int.not_lt, Int.not_le, Bool.not_true, Bool.not_false, Bool.true_and, Bool.and_true, Bool.false_or, Bool.or_false, Bool.true_or, Bool.false_and, bne_eq_false_iff_eq, bne_iff_ne, beq_iff_eq, beq_eq_false_iff_ne, decide_eq_decide] at hp_)))
  refine q5
  (apply spec_t; exact rfl; exact rfl)
  (refine im_any fun hc_ => ?_; try have hc1_ := (band hc_).1)
  refine q8
  (apply spec_t; exact rfl; exact rfl)
  (refine im_any fun hc_ => ?_; try have hc1_ := (band hc_).1)
  refine q6
  (apply spec_t; exact rfl; exact rfl)
  (refine im_any fun hc_ => ?_; try have hc1_ := (band hc_).1)
  refine q21; refine q4 ?_; refine q11 ?_
  (apply spec_t; exact rfl; exact rfl)
  (refine im_any fun hc_ => ?_; try have hc1_ := (band hc_).1)
  refine q2
  (apply spec_t; exact rfl; exact rfl)
  (refine im_any fun hc_ => ?_; try have hc1_ := (band hc_).1)
  refine q2
  (apply spec_t; exact rfl; exact rfl)
  (refine im_any fun hc_ => ?_; try have hc1_ := (band hc_).1)
  refine q3
  (apply spec_t; exact rfl; exact rfl)
  (refine im_any fun hc_ => ?_; try have hc1_ := (band hc_).1)
  refine q1
  (apply spec_t; exact rfl; exact rfl)
  (refine im_any fun hc_ => ?_; try have hc1_ := (band hc_).1)
  ((have hp_ := hc_; (try simp only [Bool.not_eq_true', Bool.not_eq_false', Bool.or_eq_true, Bool.and_eq_true, Bool.or_eq_false_iff, Bool.and_eq_false_iff, decide_eq_true_eq, decide_eq_false_iff_not, Decidable.not_not, Int.not_lt, Int.not_le, Bool.not_true, Bool.not_false, Bool.true_and, Bool.and_true, Bool.false_or, Bool.or_false, Bool.true_or, Bool.false_and, bne_eq_false_iff_eq, bne_iff_ne, beq_iff_eq, beq_eq_false_iff_ne, decide_eq_decide] at hp_)))
  refine q5
  (apply spec_t; exact rfl; exact rfl)
  (refine im_any fun hc_ => ?_; try have hc1_ := (band hc_).1)
  refine q8
  (apply spec_t; exact rfl; exact rfl)
  (refine im_any fun hc_ => ?_; try have hc1_ := (band hc_).1)
  refine q6
  (apply spec_t; exact rfl; exact rfl)
  (refine im_any fun hc_ => ?_; try have hc1_ := (band hc_).1)
  refine q26; refine q4 ?_; refine q12 ?_; refine ao_nil ?_; refine then_n ?_; refine awp_ret ?_
  rotate_left
  all_goals (refine done_b rfl ?_; rw [Bool.eq_iff_iff]; simp_all [accB])
theorem index_p (l : List Int) (n : Int) (hl : l.length ≤ 1152921504606846976) : Pure E.P 89 [.d (ints l), .int .i64 n] (.int .i64 (atI l n)) := by
  refine fn_of_awp Tryz.func89 (by decide) rfl Tryz.ntmps89 (Nat.le_of_ble_eq_true rfl) rfl ?_
  refine awp_seq ?_
  (refine ao_region ?_ (fun _ => ?_); exact rfl)
  refine q12 ?_; refine ao_nil ?_; refine then_n ?_
  iterate 2 refine awp_seq ?_
  (refine ao_region ?_ (fun _ => ?_); exact rfl)
  refine q11 ?_; refine q13 ?_; refine q11 ?_; refine ao_nil ?_; refine then_n ?_; refine awp_block ?_
  rotate_left
  refine awp_loop (X := Nat) (fun k => tmL [(0, .d (ints l)), (1, .int .i64 n), (6, .d (ints l)), (7, .int .i64 l.length), (8, .int .i64 k)]) (fun _ => stL []) (fun k => k ≤ l.length ∧ atI l n = atFrom n (l.drop k) k) (fun k => l.length - k) 0 ⟨Nat.zero_le _, rfl⟩ (by repeat' (first | exact le_nil _ | exact sle_nil _ | refine le_cons rfl ?_ | refine sle_cons rfl ?_)) (by repeat' (first | exact le_nil _ | exact sle_nil _ | refine le_cons rfl ?_ | refine sle_cons rfl ?_)) ?_
  intro k hk
  obtain ⟨hk, ht⟩ := hk
  refine awp_seq ?_
  (refine ao_region ?_ (fun _ => ?_); exact rfl)
  refine q37 ?_; refine ao_nil ?_; refine then_n ?_; refine awp_seq ?_
  (apply awp_cond; exact rfl)
  (refine im_dt (fun _ => ?_); (try (exfalso; omega)))
  refine awp_skip ?_; refine then_n ?_; refine awp_seq ?_; refine awp_block ?_; refine awp_seq ?_
  (refine ao_region ?_ (fun _ => ?_); exact rfl)
  refine q11 ?_; refine q12 ?_; refine ao_nil ?_; refine then_n ?_; refine awp_seq ?_
  (refine ao_region ?_ (fun _ => ?_); exact rfl)
  iterate 3 refine q11 ?_
  refine q17 ?_; refine q23 ?_; refine q46 ?_; refine ao_nil ?_; refine then_n ?_
  (apply awp_cond; exact rfl)
  (refine im_dt (fun _ => ?_); (try (exfalso; omega)))
  refine awp_seq ?_
  (refine ao_region ?_ (fun _ => ?_); exact rfl)
  refine q11 ?_; refine q12 ?_; refine ao_nil ?_; refine then_n ?_; refine awp_ret ?_; refine blk_r ?_
  iterate 2 refine then_r ?_
  refine blk_r ?_; refine then_r ?_
  rotate_left
  (refine im_df (fun _ => ?_); (try (exfalso; omega)))
  refine awp_skip ?_; refine blk_n ?_; refine then_n ?_
  (refine ao_region ?_ (fun _ => ?_); exact rfl)
  refine q36 ?_; refine q11 ?_; refine ao_nil ?_; refine then_n ?_
  rotate_left
  (refine im_df (fun _ => ?_); (try (exfalso; omega)))
  refine awp_exit ?_
  iterate 2 refine then_x ?_
  refine blk_x ?_; refine then_n ?_; refine awp_seq ?_
  (refine ao_region ?_ (fun _ => ?_); exact rfl)
  refine q12 ?_; refine ao_nil ?_; refine then_n ?_; refine awp_ret ?_
  rotate_left
  · refine done_i rfl ?_
    rename_i h _
    rw [Int.toNat_natCast] at h
    rw [ht, atFrom_drop l n k (by omega), if_pos h.symm]
  · rename_i h _
    rw [Int.toNat_natCast] at h
    refine round' (k + 1) ⟨by omega, ?_⟩ (by omega) (by repeat' (first | exact le_nil _ | exact sle_nil _ | refine le_cons rfl ?_ | refine sle_cons rfl ?_)) (by repeat' (first | exact le_nil _ | exact sle_nil _ | refine le_cons rfl ?_ | refine sle_cons rfl ?_))
    rw [ht, atFrom_drop l n k (by omega), if_neg (fun e => h e.symm)]
  · refine done_i rfl ?_
    rw [ht, show k = l.length by omega, List.drop_length]; rfl
theorem contains_p (l : List Int) (n : Nat) (hl : l.length ≤ 1152921504606846976) : Pure E.P 72 [.d (ints l), .int .i64 n] (.bool (hasB l n)) := by
  refine fn_of_awp Tryz.func72 (by decide) rfl Tryz.ntmps72 (Nat.le_of_ble_eq_true rfl) rfl ?_
  refine awp_seq ?_
  (refine ao_region ?_ (fun _ => ?_); exact rfl)
  refine q12 ?_; refine ao_nil ?_; refine then_n ?_; refine awp_seq ?_
  (refine ao_region ?_ (fun _ => ?_); exact rfl)
  iterate 2 refine q11 ?_
  ((first
    | (apply S_call; exact rfl; exact .fn _ _ _; exact rfl; (exact index_p _ _ hl))
    | (apply D_call; exact rfl; exact .fn _ _ _; exact rfl; (exact index_p _ _ hl))))
  (apply S_geq; exact rfl; exact rfl)
  refine q12 ?_; refine ao_nil ?_; refine then_n ?_; refine awp_ret ?_
  rotate_left
  all_goals (refine done_b rfl ?_; rfl)
theorem pair_p (x : Ex) (a b : Nat) (hx : x.evs.length ≤ 65536) (ha : a < x.evs.length) (hb : b < x.evs.length) : Pure E.P 28 [exOV x, .int .i64 a, .int .i64 b] (.bool (pairOf x a b)) := by
  refine fn_of_awp Tryz.func28 (by decide) rfl Tryz.ntmps28 (Nat.le_of_ble_eq_true rfl) rfl ?_
  refine awp_seq ?_
  (refine ao_region ?_ (fun _ => ?_); exact rfl)
  refine q40 ?_; refine q12 ?_; refine ao_nil ?_; refine then_n ?_; refine awp_seq ?_
  (refine do_region (E := E) ?_ (fun _ => ?_); exact rfl)
  refine q57 ?_; refine q38 ?_
  ((first
    | (apply S_call; exact rfl; exact .fn _ _ _; exact rfl; (first | exact access_p _ _ hx (by omega)))
    | (apply D_call; exact rfl; exact .fn _ _ _; exact rfl; (first | exact access_p _ _ hx (by omega)))))
  refine q38 ?_
  (apply dspec_t; exact rfl; exact rfl)
  (refine im_any fun hc_ => ?_; try have hc1_ := (band hc_).1)
  refine q27
  (apply dspec_t; exact rfl; exact rfl)
  (refine im_any fun hc_ => ?_; try have hc1_ := (band hc_).1)
  refine q1
  (apply dspec_t; exact rfl; exact rfl)
  (refine im_any fun hc_ => ?_; try have hc1_ := (band hc_).1)
  ((have hp_ := hc_; (try simp only [Bool.not_eq_true', Bool.not_eq_false', Bool.or_eq_true, Bool.and_eq_true, Bool.or_eq_false_iff, Bool.and_eq_false_iff, decide_eq_true_eq, decide_eq_false_iff_not, Decidable.not_not, Int.not_lt, Int.not_le, Bool.not_true, Bool.not_false, Bool.true_and, Bool.and_true, Bool.false_or, Bool.or_false, Bool.true_or, Bool.false_and, bne_eq_false_iff_eq, bne_iff_ne, beq_iff_eq, beq_eq_false_iff_ne, decide_eq_decide] at hp_)))
  ((apply M_call; exact .plain rfl rfl; exact .fn _ _ _; (repeat (first | exact EvsM.nil | (apply EvsM.cons; first | (refine EvM.mb _ rfl ?_; first | assumption | exact rfl) | exact EvM.plain rfl rfl))); (first | exact access_p _ _ hx (by omega))))
  refine q9 ?_; refine q38 ?_
  (apply dspec_t; exact rfl; exact rfl)
  (refine im_any fun hc_ => ?_; try have hc1_ := (band hc_).1)
  refine q1
  (apply dspec_t; exact rfl; exact rfl)
  (refine im_any fun hc_ => ?_; try have hc1_ := (band hc_).1)
  refine q1
  (apply dspec_t; exact rfl; exact rfl)
  (refine im_any fun hc_ => ?_; try have hc1_ := (band hc_).1)
  refine q22; refine q9 ?_; refine q38 ?_
  (apply dspec_t; exact rfl; exact rfl)
  (refine im_any fun hc_ => ?_; try have hc1_ := (band hc_).1)
  refine q2
  (apply dspec_t; exact rfl; exact rfl)
  (refine im_any fun hc_ => ?_; try have hc1_ := (band hc_).1)
  refine q2
  (apply dspec_t; exact rfl; exact rfl)
  (refine im_any fun hc_ => ?_; try have hc1_ := (band hc_).1)
  refine q3
  (apply dspec_t; exact rfl; exact rfl)
  (refine im_any fun hc_ => ?_; try have hc1_ := (band hc_).1)
  refine q1
  (apply dspec_t; exact rfl; exact rfl)
  (refine im_any fun hc_ => ?_; try have hc1_ := (band hc_).1)
  ((have hp_ := hc_; (try simp only [Bool.not_eq_true', Bool.not_eq_false', Bool.or_eq_true, Bool.and_eq_true, Bool.or_eq_false_iff, Bool.and_eq_false_iff, decide_eq_true_eq, decide_eq_false_iff_not, Decidable.not_not, Int.not_lt, Int.not_le, Bool.not_true, Bool.not_false, Bool.true_and, Bool.and_true, Bool.false_or, Bool.or_false, Bool.true_or, Bool.false_and, bne_eq_false_iff_eq, bne_iff_ne, beq_iff_eq, beq_eq_false_iff_ne, decide_eq_decide] at hp_)))
  refine q5
  (apply dspec_t; exact rfl; exact rfl)
  (refine im_any fun hc_ => ?_; try have hc1_ := (band hc_).1)
  refine q8
  (apply dspec_t; exact rfl; exact rfl)
  (refine im_any fun hc_ => ?_; try have hc1_ := (band hc_).1)
  refine q6
  (apply dspec_t; exact rfl; exact rfl)
  (refine im_any fun hc_ => ?_; try have hc1_ := (band hc_).1)
  refine q2
  (apply dspec_t; exact rfl; exact rfl)
  (refine im_any fun hc_ => ?_; try have hc1_ := (band hc_).1)
  refine q2
  (apply dspec_t; exact rfl; exact rfl)
  (refine im_any fun hc_ => ?_; try have hc1_ := (band hc_).1)
  refine q3
  (apply dspec_t; exact rfl; exact rfl)
  (refine im_any fun hc_ => ?_; try have hc1_ := (band hc_).1)
  refine q1
  (apply dspec_t; exact rfl; exact rfl)
  (refine im_any fun hc_ => ?_; try have hc1_ := (band hc_).1)
  ((have hp_ := hc_; (try simp only [Bool.not_eq_true', Bool.not_eq_false', Bool.or_eq_true, Bool.and_eq_true, Bool.or_eq_false_iff, Bool.and_eq_false_iff, decide_eq_true_eq, decide_eq_false_iff_not, Decidable.not_not, Int.not_lt, Int.not_le, Bool.not_true, Bool.not_false, Bool.true_and, Bool.and_true, Bool.false_or, Bool.or_false, Bool.true_or, Bool.false_and, bne_eq_false_iff_eq, bne_iff_ne, beq_iff_eq, beq_eq_false_iff_ne, decide_eq_decide] at hp_)))
  refine q5
  (apply dspec_t; exact rfl; exact rfl)
  (refine im_any fun hc_ => ?_; try have hc1_ := (band hc_).1)
  refine q8
  (apply dspec_t; exact rfl; exact rfl)
  (refine im_any fun hc_ => ?_; try have hc1_ := (band hc_).1)
  refine q6
  (apply dspec_t; exact rfl; exact rfl)
  (refine im_any fun hc_ => ?_; try have hc1_ := (band hc_).1)
  refine q7; refine q9 ?_
  (apply D_assign; exact rfl)
  (refine do_nil ?_ ?_; (first | ((try dsimp only [wkeys]); decide +kernel) | exact rfl))
  refine then_n ?_; refine awp_ret ?_
  rotate_left
  all_goals (refine done_b rfl ?_; rw [Bool.eq_iff_iff]; simp_all [pairOf])
theorem bit_0 (s : Int) (h0 : 0 ≤ s) (h3 : s ≤ 3) : IntKind.i64.wrap ↑(BitVec.ofInt IntKind.i64.bits s &&& BitVec.ofInt IntKind.i64.bits 1).toNat = 0 ↔ ¬ (s = 1 ∨ s = 3) := by
  obtain rfl | rfl | rfl | rfl : s = 0 ∨ s = 1 ∨ s = 2 ∨ s = 3 := by omega
  all_goals decide +kernel
theorem bit_1 (s : Int) (h0 : 0 ≤ s) (h3 : s ≤ 3) : IntKind.i64.wrap ↑(BitVec.ofInt IntKind.i64.bits s &&& BitVec.ofInt IntKind.i64.bits 2).toNat = 0 ↔ ¬ (s = 2 ∨ s = 3) := by
  obtain rfl | rfl | rfl | rfl : s = 0 ∨ s = 1 ∨ s = 2 ∨ s = 3 := by omega
  all_goals decide +kernel
theorem in_p (s : Int) (e : Ev) (h0 : 0 ≤ s) (h3 : s ≤ 3) : Pure E.P 65 [.int .i64 s, evOV e] (.bool (inB s e)) := by
  have b0 := bit_0 s h0 h3
  have b1 := bit_1 s h0 h3
  refine fn_of_awp Tryz.func65 (by decide) rfl Tryz.ntmps65 (Nat.le_of_ble_eq_true rfl) rfl ?_
  refine awp_seq ?_
  (refine ao_region ?_ (fun _ => ?_); exact rfl)
  refine q40 ?_; refine q12 ?_; refine ao_nil ?_; refine then_n ?_; refine awp_seq ?_
  (refine ao_region ?_ (fun _ => ?_); exact rfl)
  refine q11 ?_
  ((first | (first | (apply S_and; exact rfl; exact rfl) | (apply D_and; exact rfl; exact rfl)) | first
    | (apply S_call; exact rfl; exact .fn _ _ _; exact rfl; (first | exact est_p _ | exact eld_p _))
    | (apply D_call; exact rfl; exact .fn _ _ _; exact rfl; (first | exact est_p _ | exact eld_p _))))
  refine q44 ?_; refine q11 ?_
  (apply guard_t; exact rfl; exact rfl)
  (refine im_nt (fun _ => ?_); (try (exfalso; omega)))
  refine q14 ?_
  (apply guard_t; exact rfl; exact rfl)
  refine im_tt ?_
  ((first | (first | (apply S_and; exact rfl; exact rfl) | (apply D_and; exact rfl; exact rfl)) | first
    | (apply S_call; exact rfl; exact .fn _ _ _; exact rfl; (first | exact est_p _ | exact eld_p _))
    | (apply D_call; exact rfl; exact .fn _ _ _; exact rfl; (first | exact est_p _ | exact eld_p _))))
  refine q4 ?_; refine q11 ?_
  (apply guard_f; exact rfl; exact rfl)
  (refine im_af (fun hc_ => ?_); (try simp only [Bool.not_eq_true', Bool.not_eq_false', Bool.or_eq_true, Bool.and_eq_true, Bool.or_eq_false_iff, Bool.and_eq_false_iff, decide_eq_true_eq, decide_eq_false_iff_not, Decidable.not_not, Int.not_lt, Int.not_le, Bool.not_true, Bool.not_false, Bool.true_and, Bool.and_true, Bool.false_or, Bool.or_false, Bool.true_or, Bool.false_and, bne_eq_false_iff_eq, bne_iff_ne, beq_iff_eq, beq_eq_false_iff_ne, decide_eq_decide] at hc_))
  refine q11 ?_
  (apply guard_f; exact rfl; exact rfl)
  refine im_ff ?_
  ((first | (first | (apply S_and; exact rfl; exact rfl) | (apply D_and; exact rfl; exact rfl)) | first
    | (apply S_call; exact rfl; exact .fn _ _ _; exact rfl; (first | exact est_p _ | exact eld_p _))
    | (apply D_call; exact rfl; exact .fn _ _ _; exact rfl; (first | exact est_p _ | exact eld_p _))))
  (apply guard_f; exact rfl; exact rfl)
  refine im_ff ?_; refine q44 ?_
  (apply guard_f; exact rfl; exact rfl)
  refine im_ff ?_; refine q11 ?_
  (apply guard_t; exact rfl; exact rfl)
  (refine im_nt (fun _ => ?_); (try (exfalso; omega)))
  refine q14 ?_
  (apply guard_t; exact rfl; exact rfl)
  refine im_tt ?_
  ((first | (first | (apply S_and; exact rfl; exact rfl) | (apply D_and; exact rfl; exact rfl)) | first
    | (apply S_call; exact rfl; exact .fn _ _ _; exact rfl; (first | exact est_p _ | exact eld_p _))
    | (apply D_call; exact rfl; exact .fn _ _ _; exact rfl; (first | exact est_p _ | exact eld_p _))))
  (apply guard_f; exact rfl; exact rfl)
  refine im_ff ?_; refine q4 ?_; refine q0 ?_; refine q12 ?_; refine ao_nil ?_; refine then_n ?_; refine awp_ret ?_
  rotate_left
  exact im_ft
  exact im_tf
  (refine im_nf (fun _ => ?_); (try (exfalso; omega)))
  (apply guard_t; exact rfl; exact rfl)
  exact im_ft
  refine im_ff ?_
  (apply guard_f; exact rfl; exact rfl)
  refine im_ff ?_
  (apply S_pick_v; exact rfl)
  (apply pick_f; exact rfl)
  refine q0 ?_; refine q12 ?_; refine ao_nil ?_; refine then_n ?_; refine awp_ret ?_
  rotate_left
  iterate 4 exact im_ft
  refine im_at ?_; refine im_tt ?_
  (refine im_vt (fun _ => ?_))
  (apply guard_f; exact rfl; exact rfl)
  exact im_tf
  refine im_tt ?_
  (apply guard_f; exact rfl; exact rfl)
  exact im_tf
  refine im_tt ?_
  (apply guard_f; exact rfl; exact rfl)
  exact im_tf
  refine im_tt ?_
  iterate 2 (apply guard_u; exact rfl; exact rfl)
  (apply guard_f; exact rfl; exact rfl)
  exact im_tf
  refine im_tt ?_
  (apply S_pick_v; exact rfl)
  (apply pick_t; exact rfl)
  refine q12 ?_; refine ao_nil ?_; refine then_n ?_; refine awp_ret ?_
  rotate_left
  exact im_tf
  (refine im_nf (fun _ => ?_); (try (exfalso; omega)))
  (apply guard_t; exact rfl; exact rfl)
  exact im_ft
  refine im_ff ?_
  (apply S_pick_v; exact rfl)
  (apply pick_f; exact rfl)
  refine q11 ?_
  (apply guard_f; exact rfl; exact rfl)
  refine im_ff ?_; refine q11 ?_
  (apply guard_f; exact rfl; exact rfl)
  refine im_ff ?_
  ((first | (first | (apply S_and; exact rfl; exact rfl) | (apply D_and; exact rfl; exact rfl)) | first
    | (apply S_call; exact rfl; exact .fn _ _ _; exact rfl; (first | exact est_p _ | exact eld_p _))
    | (apply D_call; exact rfl; exact .fn _ _ _; exact rfl; (first | exact est_p _ | exact eld_p _))))
  (apply guard_f; exact rfl; exact rfl)
  refine im_ff ?_; refine q44 ?_
  (apply guard_f; exact rfl; exact rfl)
  refine im_ff ?_; refine q11 ?_
  (apply guard_t; exact rfl; exact rfl)
  (refine im_nt (fun _ => ?_); (try (exfalso; omega)))
  refine q14 ?_
  (apply guard_t; exact rfl; exact rfl)
  refine im_tt ?_
  ((first | (first | (apply S_and; exact rfl; exact rfl) | (apply D_and; exact rfl; exact rfl)) | first
    | (apply S_call; exact rfl; exact .fn _ _ _; exact rfl; (first | exact est_p _ | exact eld_p _))
    | (apply D_call; exact rfl; exact .fn _ _ _; exact rfl; (first | exact est_p _ | exact eld_p _))))
  (apply guard_f; exact rfl; exact rfl)
  refine im_ff ?_; refine q4 ?_; refine q0 ?_; refine q12 ?_; refine ao_nil ?_; refine then_n ?_; refine awp_ret ?_
  rotate_left
  exact im_ft
  exact im_tf
  (refine im_nf (fun _ => ?_); (try (exfalso; omega)))
  (apply guard_t; exact rfl; exact rfl)
  exact im_ft
  refine im_ff ?_
  (apply guard_f; exact rfl; exact rfl)
  refine im_ff ?_
  (apply S_pick_v; exact rfl)
  (apply pick_f; exact rfl)
  refine q0 ?_; refine q12 ?_; refine ao_nil ?_; refine then_n ?_; refine awp_ret ?_
  rotate_left
  iterate 5 exact im_ft
  all_goals
    refine done_b rfl ?_
    rw [Bool.eq_iff_iff]
    simp only [b0, b1] at *
    first | (simp_all [inB]; done) | (simp_all [inB]; grind)
theorem rin_p (s : Int) (e : Ev) (h0 : 0 ≤ s) (h3 : s ≤ 3) : Pure E.P 44 [.int .i64 s, evOV e] (.bool (inB s e)) := by
  refine fn_of_awp Tryz.func44 (by decide) rfl Tryz.ntmps44 (Nat.le_of_ble_eq_true rfl) rfl ?_
  refine awp_seq ?_
  (refine ao_region ?_ (fun _ => ?_); exact rfl)
  refine q40 ?_; refine q12 ?_; refine ao_nil ?_; refine then_n ?_; refine awp_seq ?_
  (refine ao_region ?_ (fun _ => ?_); exact rfl)
  refine q11 ?_
  (apply S_rem; exact rfl; exact rfl; (first | decide | omega))
  refine q46 ?_; refine q11 ?_
  (apply spec_t; exact rfl; exact rfl)
  (refine im_any fun hc_ => ?_; try have hc1_ := (band hc_).1)
  refine q27
  (apply spec_t; exact rfl; exact rfl)
  (refine im_any fun hc_ => ?_; try have hc1_ := (band hc_).1)
  ((have hp_ := hc_; (try simp only [Bool.not_eq_true', Bool.not_eq_false', Bool.or_eq_true, Bool.and_eq_true, Bool.or_eq_false_iff, Bool.and_eq_false_iff, decide_eq_true_eq, decide_eq_false_iff_not, Decidable.not_not, Int.not_lt, Int.not_le, Bool.not_true, Bool.not_false, Bool.true_and, Bool.and_true, Bool.false_or, Bool.or_false, Bool.true_or, Bool.false_and, bne_eq_false_iff_eq, bne_iff_ne, beq_iff_eq, beq_eq_false_iff_ne, decide_eq_decide] at hp_)))
  ((apply M_call; exact .plain rfl rfl; exact .fn _ _ _; (repeat (first | exact EvsM.nil | (apply EvsM.cons; first | (refine EvM.mb _ rfl ?_; first | assumption | exact rfl) | exact EvM.plain rfl rfl))); (first | exact rstores_p _ | exact rloads_p _)))
  refine q4 ?_; refine q11 ?_
  (apply spec_f; exact rfl; exact rfl)
  (refine im_any fun hc_ => ?_; try have hc1_ := (band hc_).1)
  refine q1
  (apply spec_f; exact rfl; exact rfl)
  (refine im_any fun hc_ => ?_; try have hc1_ := (band hc_).1)
  refine q21
  (apply spec_f; exact rfl; exact rfl)
  (refine im_any fun hc_ => ?_; try have hc1_ := (band hc_).1)
  refine q1
  (apply spec_mt; exact rfl; exact rfl)
  (refine im_any fun hc_ => ?_; try have hc1_ := (band hc_).1)
  refine q27
  (apply spec_mt; exact rfl; exact rfl)
  (refine im_any fun hc_ => ?_; try have hc1_ := (band hc_).1)
  ((have hp_ := hc_; (try simp only [Bool.not_eq_true', Bool.not_eq_false', Bool.or_eq_true, Bool.and_eq_true, Bool.or_eq_false_iff, Bool.and_eq_false_iff, decide_eq_true_eq, decide_eq_false_iff_not, Decidable.not_not, Int.not_lt, Int.not_le, Bool.not_true, Bool.not_false, Bool.true_and, Bool.and_true, Bool.false_or, Bool.or_false, Bool.true_or, Bool.false_and, bne_eq_false_iff_eq, bne_iff_ne, beq_iff_eq, beq_eq_false_iff_ne, decide_eq_decide] at hp_)))
  ((apply M_call; exact .plain rfl rfl; exact .fn _ _ _; (repeat (first | exact EvsM.nil | (apply EvsM.cons; first | (refine EvM.mb _ rfl ?_; first | assumption | exact rfl) | exact EvM.plain rfl rfl))); (first | exact rstores_p _ | exact rloads_p _)))
  (apply spec_f; exact rfl; exact rfl)
  (refine im_any fun hc_ => ?_; try have hc1_ := (band hc_).1)
  refine q10; refine q0 ?_; refine q12 ?_; refine ao_nil ?_; refine then_n ?_; refine awp_ret ?_
  rotate_left
  all_goals
    refine done_b rfl ?_
    obtain rfl | rfl | rfl | rfl : s = 0 ∨ s = 1 ∨ s = 2 ∨ s = 3 := by omega
    all_goals simp [inB]
end Go.Proofs.YtnghoibkjphfmaaGreat
/- What goes over the events between two; is there one of which it is so? In plain data. -/
set_option maxRecDepth 100000
set_option linter.unusedVariables false
set_option linter.unusedSimpArgs false
namespace Go.Proofs.YtnghoibkjphfmaaGreat
open Go.RowKit
/-- the events between two, with their places -/
def btwYs (x : Ex) (a b : Nat) : List (List OV) := (List.range (b - (a + 1))).map fun i => [.int .i64 ((a + 1 + i : Nat) : Int), evOV (x.evs.getD (a + 1 + i) default)]
theorem btw_len (x : Ex) (a b : Nat) : (btwYs x a b).length = b - (a + 1) := by simp [btwYs]
theorem btw_get (x : Ex) (a b i : Nat) (h : i < b - (a + 1)) : (btwYs x a b).getD i [] = [.int .i64 ((a + 1 + i : Nat) : Int), evOV (x.evs.getD (a + 1 + i) default)] := by
  unfold btwYs
  rw [List.getD_eq_getElem?_getD, List.getElem?_map, List.getElem?_range h]; rfl
theorem btw1_s (x : Ex) (a b : Nat) (hx : x.evs.length ≤ 65536) (hb : b < x.evs.length) (ha : a ≤ 65536) : SeqW E.P 98 [] [.d (.pt [.c (.int .i64 a)] 0), .d (.pt [.c (.int .i64 b)] 0), .d (.pt (exRow x) 0)] (btwYs x a b) := by
  intro Y k τ J m st hm h1 h2 hnd hbig hy l0 hl0
  rw [btw_len] at hm h1
  refine fny_of_awp Tryz.func98 (by decide) rfl Tryz.ntmps98 (Nat.le_of_ble_eq_true rfl) rfl ?_
  refine awp_seq ?_
  (refine ao_region ?_ (fun _ => ?_); exact rfl)
  refine q23 ?_; refine q36 ?_; refine q12 ?_; refine ao_nil ?_; refine then_n ?_; refine awp_block ?_
  rotate_left
  refine awp_loop (X := Nat × Rows) (fun p => tmL [(0, .yl k τ), (2, .d (.pt [.c (.int .i64 b)] 0)), (3, .d (.pt (exRow x) 0)), (5, .int .i64 ((a + 1 + p.1 : Nat) : Int)), (GS, .gh p.1 Y)]) (fun p => stL p.2)
    (fun p => p.1 ≤ b - (a + 1) ∧ J p.1 p.2 ∧ (st = true → p.1 < m)) (fun p => b - (a + 1) - p.1) (0, l0) ⟨Nat.zero_le _, hl0, h2⟩ (by repeat' (first | exact le_nil _ | exact sle_nil _ | refine le_cons rfl ?_ | refine sle_cons rfl ?_)) (fun _ _ h => h) ?_
  rintro ⟨i, l⟩ ⟨hi, hJ, hst⟩
  dsimp only at hi hJ hst ⊢
  by_cases hlt : i < b - (a + 1)
  rotate_left
  · have hme : i = m := by
      cases st with
      | true => have h9 := hst rfl; omega
      | false => have := h1 rfl; omega
    iterate 2 refine awp_seq ?_
    (refine ao_region ?_ (fun _ => ?_); exact rfl)
    refine q11 ?_; refine q23 ?_; refine q37 ?_; refine ao_nil ?_; refine then_n ?_
    (apply awp_cond; exact rfl)
    (refine im_dt (fun _ => ?_); (try (exfalso; omega)))
    (refine im_df (fun _ => ?_); (try (exfalso; omega)))
    refine awp_exit ?_
    iterate 2 refine then_x ?_
    refine blk_x ?_
    rotate_left
    subst hme
    exact ⟨Or.inl rfl, rfl, l, hJ, fun _ _ h => h⟩
  have hlm : i < m := by
    cases st with
    | true => exact hst rfl
    | false => rw [h1 rfl]; exact hlt
  have hY := hy i l hlm hJ
  rw [btw_get x a b i hlt] at hY
  rcases Bool.eq_false_or_eq_true (!(st && i + 1 == m)) with hans | hans
  · rw [hans] at hY
    iterate 2 refine awp_seq ?_
    (refine ao_region ?_ (fun _ => ?_); exact rfl)
    refine q11 ?_; refine q23 ?_; refine q37 ?_; refine ao_nil ?_; refine then_n ?_
    (apply awp_cond; exact rfl)
    (refine im_dt (fun _ => ?_); (try (exfalso; omega)))
    refine awp_skip ?_; refine then_n ?_; refine awp_seq ?_; refine awp_block ?_; refine awp_seq ?_
    (refine ao_region ?_ (fun _ => ?_); exact rfl)
    iterate 2 refine q11 ?_
    iterate 2 refine q32 ?_
    refine q23 ?_; refine q11 ?_; refine q17 ?_; refine q33 ?_
    ((apply S_yield; exact rfl; exact rfl; exact rfl; exact hY; exact (fun _ _ h => h); exact hnd _; (intro l1 hl1)))
    (apply S_not; exact rfl)
    refine ao_nil ?_; refine then_n ?_
    (apply awp_cond; exact rfl)
    refine im_bt ?_
    exact im_tf
    refine im_bf ?_; refine im_tt ?_; refine awp_skip ?_; refine blk_n ?_; refine then_n ?_
    (refine ao_region ?_ (fun _ => ?_); exact rfl)
    refine q11 ?_; refine q36 ?_; refine q12 ?_; refine ao_nil ?_; refine then_n ?_
    rotate_left
    (refine im_df (fun _ => ?_); (try (exfalso; omega)))
    exact ⟨(i + 1, l1), ⟨show i + 1 ≤ _ by omega, hl1, seq_go hlm hans⟩, show b - (a + 1) - (i + 1) < b - (a + 1) - i by omega, (by repeat' (first | exact le_nil _ | exact sle_nil _ | refine le_cons rfl ?_ | refine sle_cons rfl ?_)), out_le (hnd _ _ hl1)⟩
  · rw [hans] at hY
    rw [seq_stop hans] at hY
    iterate 2 refine awp_seq ?_
    (refine ao_region ?_ (fun _ => ?_); exact rfl)
    refine q11 ?_; refine q23 ?_; refine q37 ?_; refine ao_nil ?_; refine then_n ?_
    (apply awp_cond; exact rfl)
    (refine im_dt (fun _ => ?_); (try (exfalso; omega)))
    refine awp_skip ?_; refine then_n ?_; refine awp_seq ?_; refine awp_block ?_; refine awp_seq ?_
    (refine ao_region ?_ (fun _ => ?_); exact rfl)
    iterate 2 refine q11 ?_
    iterate 2 refine q32 ?_
    refine q23 ?_; refine q11 ?_; refine q17 ?_; refine q33 ?_
    ((apply S_yield; exact rfl; exact rfl; exact rfl; exact hY; exact (fun _ _ h => h); exact hnd _; (intro l1 hl1)))
    (apply S_not; exact rfl)
    refine ao_nil ?_; refine then_n ?_
    (apply awp_cond; exact rfl)
    refine im_bt ?_; refine im_ff ?_; refine awp_ret ?_; refine blk_r ?_
    iterate 2 refine then_r ?_
    refine blk_r ?_
    rotate_left
    refine im_bf ?_
    exact im_ft
    (refine im_df (fun _ => ?_); (try (exfalso; omega)))
    exact ⟨Or.inr rfl, rfl, l1, hl1, out_le (hnd _ _ hl1)⟩
theorem between_p (x : Ex) (a b : Nat) : Pure E.P 88 [exOV x, .int .i64 a, .int .i64 b] (.fn 98 [] [.d (.pt [.c (.int .i64 a)] 0), .d (.pt [.c (.int .i64 b)] 0), .d (.pt (exRow x) 0)]) := by
  have f3 : Frozen 3 := ⟨trivial⟩
  have f4 : Frozen 4 := ⟨trivial⟩
  have f5 : Frozen 5 := ⟨trivial⟩
  refine fn_of_awp Tryz.func88 (by decide) rfl Tryz.ntmps88 (Nat.le_of_ble_eq_true rfl) rfl ?_
  refine awp_seq ?_
  (refine ao_region ?_ (fun _ => ?_); exact rfl)
  iterate 3 refine q34 ?_
  refine q12 ?_; refine ao_nil ?_; refine then_n ?_; refine awp_seq ?_
  (refine ao_region ?_ (fun _ => ?_); exact rfl)
  (apply S_makeFunc; exact rfl; exact rfl)
  refine q12 ?_; refine ao_nil ?_; refine then_n ?_; refine awp_ret ?_
  rotate_left
  exact done_r rfl rfl
theorem first_hit {a : Nat} {h : Nat → Bool} : ∀ {b : Nat}, someB a b h = true → ∃ n, a < n ∧ n < b ∧ h n = true ∧ ∀ k, a < k → k < n → h k = false
  | 0, e => by rw [someB_none (by omega)] at e; cases e
  | b + 1, e => by
    by_cases hab : a < b
    · rw [someB_succ hab] at e
      cases hs : someB a b h with
      | true =>
        obtain ⟨n, h1, h2, h3⟩ := first_hit hs
        exact ⟨n, h1, by omega, h3⟩
      | false =>
        rw [hs, Bool.false_or] at e
        refine ⟨b, hab, by omega, e, fun k h1 h2 => ?_⟩
        cases hk : h k with
        | false => rfl
        | true => rw [someB_hit h1 h2 hk] at hs; cases hs
    · rw [someB_none (by omega)] at e; cases e
theorem some_p (x : Ex) (a b : Nat) (f : FuncId) (ca : List TV) (h : Nat → Bool) (hx : x.evs.length ≤ 65536) (hb : b < x.evs.length) (ha : a ≤ 65536) (hh : ∀ n : Nat, a < n → n < b → Pure E.P f ([.int .i64 n, evOV (x.evs.getD n default)] ++ ca.map .d) (.bool (h n))) :
    Pure E.P 60 [exOV x, .int .i64 a, .int .i64 b, .fn f [] (ca.map .d)] (.bool (someB a b h)) := by
  have f4 : Frozen 4 := ⟨trivial⟩
  have f7 : Frozen 7 := ⟨trivial⟩
  have k9 : KeyOf 9 1009 := ⟨trivial⟩
  refine fn_of_awp Tryz.func60 (by decide) rfl Tryz.ntmps60 (Nat.le_of_ble_eq_true rfl) rfl ?_
  refine awp_seq ?_
  (refine ao_region ?_ (fun _ => ?_); exact rfl)
  iterate 2 refine q34 ?_
  refine q12 ?_; refine ao_nil ?_; refine then_n ?_; refine awp_scope ?_; refine awp_seq ?_
  (refine ao_region ?_ (fun _ => ?_); exact rfl)
  (apply S_allocK; assumption; exact rfl)
  refine q15 ?_; refine ao_nil ?_; refine then_n ?_; refine awp_seq ?_; refine awp_label ?_; refine then_n ?_
  iterate 2 refine awp_seq ?_
  (refine ao_region ?_ (fun _ => ?_); exact rfl)
  refine q33 ?_
  iterate 2 refine q11 ?_
  ((apply S_call; exact rfl; exact .fn _ _ _; exact rfl; exact between_p x a b))
  refine ao_nil ?_; refine then_n ?_; refine awp_block ?_
  rotate_left
  rename_i v9 _
  cases hs : someB a b h with
  | false =>
    obtain ⟨m, hm⟩ : ∃ m, m = b - (a + 1) := ⟨_, rfl⟩
    have hI : ∀ i, i < m → h (a + 1 + i) = (false && decide (i + 1 = m)) := fun i hi => by
      cases hk : h (a + 1 + i) with
      | false => rfl
      | true => rw [someB_hit (by omega) (by omega) hk] at hs; cases hs
    refine awp_range (X := Bool) rfl (.fn _ _ _) (btw1_s x a b hx hb ha) (fun q => [(1009, ((v9, 0), ⟨1, [[.bool q]]⟩))]) (fun i q => q = (false && decide (i = m))) false (by simp <;> omega) m .normal rfl (by rw [btw_len]; omega) (fun e => by rw [btw_len]; first | omega | cases e) (fun e => by first | omega | exact (e rfl).elim)
        (tmL [(7, .d (.pt [.fn f [] ca] 0)), (9, .lo 1009 (v9, 0) 1 0 0)]) (by repeat' (first | exact le_nil _ | exact sle_nil _ | refine le_cons rfl ?_ | refine sle_cons rfl ?_)) rfl (by decide) (fun i hi => by rw [btw_get _ _ _ _ (by omega)]; rfl) (by repeat' (first | exact le_nil _ | exact sle_nil _ | refine le_cons rfl ?_ | refine sle_cons rfl ?_)) (fun p => by simp) (fun p => by simp) ?_ ?_
    · rintro i q hi rfl
      rw [btw_get _ _ _ _ (by omega)]
      have hc := hh (a + 1 + i) (by omega) (by omega)
      refine awp_seq ?_
      (refine ao_region ?_ (fun _ => ?_); exact rfl)
      refine q12 ?_; refine ao_nil ?_; refine then_n ?_
      (refine ao_region ?_ (fun _ => ?_); exact rfl)
      (apply S_alloc; exact rfl)
      refine q15 ?_; refine ao_nil ?_
      rotate_left
      refine ⟨rfl, ?_⟩
      by_cases hlast : i + 1 = m
      · have hv : h (a + 1 + i) = false := by rw [hI i hi]; simp [hlast]
        rw [hv] at hc
        refine awp_block ?_; refine awp_seq ?_
        (refine ao_region ?_ (fun _ => ?_); exact rfl)
        refine q23 ?_; refine q11 ?_; refine q14 ?_
        ((apply S_call; exact rfl; exact .d _ _ _; exact rfl; exact hc))
        refine q15 ?_; refine ao_nil ?_; refine then_n ?_; refine awp_seq ?_
        (refine ao_region ?_ (fun _ => ?_); exact rfl)
        refine q16 ?_; refine ao_nil ?_; refine then_n ?_
        (apply awp_cond; exact rfl)
        exact im_ft
        refine im_ff ?_; refine awp_skip ?_; refine blk_n ?_
        rotate_left
        exact ⟨by rw [show (i + 1 == m) = true by simpa using hlast]; rfl, false, by simp [hlast], (by repeat' (first | exact le_nil _ | exact sle_nil _ | refine le_cons rfl ?_ | refine sle_cons rfl ?_))⟩
      · have hv : h (a + 1 + i) = false := by rw [hI i hi]; simp [hlast]
        rw [hv] at hc
        refine awp_block ?_; refine awp_seq ?_
        (refine ao_region ?_ (fun _ => ?_); exact rfl)
        refine q23 ?_; refine q11 ?_; refine q14 ?_
        ((apply S_call; exact rfl; exact .d _ _ _; exact rfl; exact hc))
        refine q15 ?_; refine ao_nil ?_; refine then_n ?_; refine awp_seq ?_
        (refine ao_region ?_ (fun _ => ?_); exact rfl)
        refine q16 ?_; refine ao_nil ?_; refine then_n ?_
        (apply awp_cond; exact rfl)
        exact im_ft
        refine im_ff ?_; refine awp_skip ?_; refine blk_n ?_
        rotate_left
        exact ⟨by rw [show (i + 1 == m) = false by simpa using hlast]; rfl, false, by simp [hlast], (by repeat' (first | exact le_nil _ | exact sle_nil _ | refine le_cons rfl ?_ | refine sle_cons rfl ?_))⟩
    · rintro q rfl
      refine blk_n ?_; refine then_n ?_; refine awp_seq ?_
      (refine ao_region ?_ (fun _ => ?_); exact rfl)
      refine q16 ?_; refine q12 ?_; refine ao_nil ?_; refine then_n ?_; refine awp_ret ?_; refine ng_r ?_
      rotate_left
      exact done_b rfl (by simp)
  | true =>
    obtain ⟨n, h1, h2, h3, h4⟩ := first_hit hs
    obtain ⟨m, hm⟩ : ∃ m, m = n - a := ⟨_, rfl⟩
    have hI : ∀ i, i < m → h (a + 1 + i) = (true && decide (i + 1 = m)) := fun i hi => by
      by_cases e : i + 1 = m
      · rw [show a + 1 + i = n by omega, h3]; simp [e]
      · rw [h4 _ (by omega) (by omega)]; simp [e]
    refine awp_range (X := Bool) rfl (.fn _ _ _) (btw1_s x a b hx hb ha) (fun q => [(1009, ((v9, 0), ⟨1, [[.bool q]]⟩))]) (fun i q => q = (true && decide (i = m))) false (by simp <;> omega) m (.exit 0) rfl (by rw [btw_len]; omega) (fun e => by rw [btw_len]; first | omega | cases e) (fun e => by first | omega | exact (e rfl).elim)
        (tmL [(7, .d (.pt [.fn f [] ca] 0)), (9, .lo 1009 (v9, 0) 1 0 0)]) (by repeat' (first | exact le_nil _ | exact sle_nil _ | refine le_cons rfl ?_ | refine sle_cons rfl ?_)) rfl (by decide) (fun i hi => by rw [btw_get _ _ _ _ (by omega)]; rfl) (by repeat' (first | exact le_nil _ | exact sle_nil _ | refine le_cons rfl ?_ | refine sle_cons rfl ?_)) (fun p => by simp) (fun p => by simp) ?_ ?_
    · rintro i q hi rfl
      rw [btw_get _ _ _ _ (by omega)]
      have hc := hh (a + 1 + i) (by omega) (by omega)
      refine awp_seq ?_
      (refine ao_region ?_ (fun _ => ?_); exact rfl)
      refine q12 ?_; refine ao_nil ?_; refine then_n ?_
      (refine ao_region ?_ (fun _ => ?_); exact rfl)
      (apply S_alloc; exact rfl)
      refine q15 ?_; refine ao_nil ?_
      rotate_left
      refine ⟨rfl, ?_⟩
      by_cases hlast : i + 1 = m
      · have hv : h (a + 1 + i) = true := by rw [hI i hi]; simp [hlast]
        rw [hv] at hc
        refine awp_block ?_; refine awp_seq ?_
        (refine ao_region ?_ (fun _ => ?_); exact rfl)
        refine q23 ?_; refine q11 ?_; refine q14 ?_
        ((apply S_call; exact rfl; exact .d _ _ _; exact rfl; exact hc))
        refine q15 ?_; refine ao_nil ?_; refine then_n ?_; refine awp_seq ?_
        (refine ao_region ?_ (fun _ => ?_); exact rfl)
        refine q16 ?_; refine ao_nil ?_; refine then_n ?_
        (apply awp_cond; exact rfl)
        refine im_tt ?_; refine awp_exit ?_
        (refine blk_y ?_ ?_; exact rfl)
        rotate_left
        exact im_tf
        exact ⟨by rw [show (i + 1 == m) = true by simpa using hlast]; rfl, true, by simp [hlast], (by repeat' (first | exact le_nil _ | exact sle_nil _ | refine le_cons rfl ?_ | refine sle_cons rfl ?_))⟩
      · have hv : h (a + 1 + i) = false := by rw [hI i hi]; simp [hlast]
        rw [hv] at hc
        refine awp_block ?_; refine awp_seq ?_
        (refine ao_region ?_ (fun _ => ?_); exact rfl)
        refine q23 ?_; refine q11 ?_; refine q14 ?_
        ((apply S_call; exact rfl; exact .d _ _ _; exact rfl; exact hc))
        refine q15 ?_; refine ao_nil ?_; refine then_n ?_; refine awp_seq ?_
        (refine ao_region ?_ (fun _ => ?_); exact rfl)
        refine q16 ?_; refine ao_nil ?_; refine then_n ?_
        (apply awp_cond; exact rfl)
        exact im_ft
        refine im_ff ?_; refine awp_skip ?_; refine blk_n ?_
        rotate_left
        exact ⟨by rw [show (i + 1 == m) = false by simpa using hlast]; rfl, false, by simp [hlast], (by repeat' (first | exact le_nil _ | exact sle_nil _ | refine le_cons rfl ?_ | refine sle_cons rfl ?_))⟩
    · rintro q rfl
      refine blk_x ?_; refine then_n ?_; refine awp_seq ?_
      (refine ao_region ?_ (fun _ => ?_); exact rfl)
      refine q16 ?_; refine q12 ?_; refine ao_nil ?_; refine then_n ?_; refine awp_ret ?_; refine ng_r ?_
      rotate_left
      exact done_b rfl (by simp)
end Go.Proofs.YtnghoibkjphfmaaGreat
