/- The pairs of a relation, row by row. Plain. -/
import Derived.Test.YtnghoibkjphfmaaGreatPe3
import Derived.Test.YtnghoibkjphfmaaGreatPe4
import Derived.Test.YtnghoibkjphfmaaGreatPe6
import Derived.Test.YtnghoibkjphfmaaGreatPe9
import Derived.Test.YtnghoibkjphfmaaGreatPe13
namespace Go.Proofs.YtnghoibkjphfmaaGreat
/-- the pairs of a relation, up to a place -/
def prRow (f : Nat → Nat → Bool) (a b : Nat) : List (Int × Int) := ((List.range b).filter (f a)).map fun (b : Nat) => (((a : Nat) : Int), ((b : Nat) : Int))
def prTo (n : Nat) (f : Nat → Nat → Bool) (a : Nat) : List (Int × Int) := (List.range a).flatMap fun a => prRow f a n
theorem prTo_succ (n : Nat) (f : Nat → Nat → Bool) (a : Nat) : prTo n f (a + 1) = prTo n f a ++ prRow f a n := by simp [prTo, List.range_succ, List.flatMap_append]
theorem prRow_len (f : Nat → Nat → Bool) (a b : Nat) : (prRow f a b).length ≤ b := by
  unfold prRow
  rw [List.length_map]
  exact Nat.le_trans (List.length_filter_le _ _) (by simp)
theorem prTo_len (n : Nat) (f : Nat → Nat → Bool) : ∀ a, (prTo n f a).length ≤ a * n
  | 0 => by simp [prTo]
  | a + 1 => by
    rw [prTo_succ, List.length_append, Nat.succ_mul]
    have h1 := prTo_len n f a
    have h2 := prRow_len f a n
    omega
end Go.Proofs.YtnghoibkjphfmaaGreat
/- The reference's lists of pairs, and what must stay in order by it, in plain data. -/
set_option maxRecDepth 100000
set_option linter.unusedVariables false
set_option linter.unusedSimpArgs false
namespace Go.Proofs.YtnghoibkjphfmaaGreat
open Go.RowKit
end Go.Proofs.YtnghoibkjphfmaaGreat
/- The reference's addresses, walked in plain data. -/
set_option maxRecDepth 100000
set_option linter.unusedVariables false
set_option linter.unusedSimpArgs false
namespace Go.Proofs.YtnghoibkjphfmaaGreat
open Go.RowKit
theorem addIn_drop (a : Int) (l : List Int) (k : Nat) (h : k < l.length) : addIn a (l.drop k) = if l.getD k 0 < a then l.getD k 0 :: addIn a (l.drop (k + 1)) else if l.getD k 0 = a then l.drop k else a :: l.drop k := by
  have e : l.drop k = l.getD k 0 :: l.drop (k + 1) := by
    rw [List.drop_eq_getElem_cons h, List.getD_eq_getElem?_getD, List.getElem?_eq_getElem h]; rfl
  rw [e, addIn]
theorem take_getD {α : Type} (l : List α) (d : α) (k : Nat) (h : k < l.length) : l.take (k + 1) = l.take k ++ [l.getD k d] := by
  rw [List.take_succ_eq_append_getElem h, List.getD_eq_getElem?_getD, List.getElem?_eq_getElem h]; rfl
theorem addrsTo_take (es : List Ev) (i : Nat) (h : i < es.length) : addrsTo (es.take (i + 1)) = if (es.getD i default).kind = 4 then addrsTo (es.take i) else addIn (es.getD i default).addr (addrsTo (es.take i)) := by
  rw [take_getD es default i h, addrsTo_snoc]
theorem addrsTo_take_len (es : List Ev) (i : Nat) : (addrsTo (es.take i)).length ≤ i := Nat.le_trans (addrsTo_len _) (by simp; omega)
theorem rows_mid (f : Int → List OV) (l : List Int) (k : Nat) (a : Int) : [] ++ ((l.map f).drop 0).take ((k : Int).toNat - 0) ++ [f a] ++ ((l.map f).drop (k : Int).toNat).take (l.length - (k : Int).toNat) = (l.take k ++ a :: l.drop k).map f := by
  simp [List.take_of_length_le]
set_option maxHeartbeats 4000000 in
theorem raddrs_p (x : Ex) (hx : x.evs.length ≤ 65536) :
    Own E.P 30 [exOV x] 1 ((addrsTo x.evs).map (cellO .u32)) := by
  refine fn_of_awp Tryz.func30 (by decide) rfl Tryz.ntmps30 (Nat.le_of_ble_eq_true rfl) rfl ?_
  refine awp_seq ?_
  (refine ao_region ?_ (fun _ => ?_); exact rfl)
  refine q40 ?_; refine q51 ?_; refine ao_nil ?_; refine then_n ?_; refine awp_seq ?_
  (refine ao_region ?_ (fun _ => ?_); exact rfl)
  refine q51 ?_; refine ao_nil ?_; refine then_n ?_
  iterate 2 refine awp_seq ?_
  (refine ao_region ?_ (fun _ => ?_); exact rfl)
  refine q12 ?_; refine ao_nil ?_; refine then_n ?_; refine awp_block ?_
  rotate_left
  rename_i v1 v3 v4
  refine awp_loop (X := Nat × Stamp × List Int) (fun p => tmL [(1, .lo 1 (v1, 0) 3 0 0), (3, .os 3 p.2.1 1 p.2.2.length), (4, .int .i64 p.1)]) (fun p => stL [(1, ((v1, 0), ⟨3, [(exOV x).cells]⟩)), (3, (p.2.1, ⟨1, p.2.2.map (cellO .u32)⟩))])
    (fun p => p.1 ≤ x.evs.length ∧ p.2.2 = addrsTo (x.evs.take p.1)) (fun p => x.evs.length - p.1) (0, (v3, 0), []) ⟨Nat.zero_le _, rfl⟩ (by repeat' (first | exact le_nil _ | exact sle_nil _ | refine le_cons rfl ?_ | refine sle_cons rfl ?_)) (by repeat' (first | exact le_nil _ | exact sle_nil _ | refine le_cons rfl ?_ | refine sle_cons rfl ?_)) ?_
  rintro ⟨i, τ, l⟩ ⟨hi, hl⟩
  dsimp only at hi hl ⊢
  have hlen : l.length ≤ 65536 := by rw [hl]; exact Nat.le_trans (addrsTo_take_len _ _) (by omega)
  iterate 2 refine awp_seq ?_
  (refine ao_region ?_ (fun _ => ?_); exact rfl)
  refine q11 ?_; refine q28 ?_; refine q31 ?_; refine q13 ?_; refine q37 ?_; refine ao_nil ?_; refine then_n ?_
  (apply awp_cond; exact rfl)
  (refine im_dt (fun _ => ?_); (try (exfalso; omega)))
  refine awp_skip ?_; refine then_n ?_; refine awp_seq ?_; refine awp_block ?_
  iterate 2 refine awp_seq ?_
  (refine ao_region ?_ (fun _ => ?_); exact rfl)
  refine q28 ?_; refine q31 ?_; refine q11 ?_; refine q17 ?_; refine q32 ?_; refine q23 ?_; refine q46 ?_; refine ao_nil ?_; refine then_n ?_
  (apply awp_cond; exact rfl)
  (refine im_dt (fun _ => ?_); (try (exfalso; omega)))
  refine awp_exit ?_; refine then_x ?_; refine blk_x ?_; refine then_n ?_
  (refine ao_region ?_ (fun _ => ?_); exact rfl)
  refine q11 ?_; refine q36 ?_; refine q12 ?_; refine ao_nil ?_; refine then_n ?_
  rotate_left
  (refine im_df (fun _ => ?_); (try (exfalso; omega)))
  refine awp_skip ?_; refine then_n ?_; refine awp_seq ?_
  (refine ao_region ?_ (fun _ => ?_); exact rfl)
  refine q28 ?_; refine q31 ?_; refine q11 ?_; refine q17 ?_; refine q32 ?_; refine q23 ?_; refine q12 ?_; refine ao_nil ?_; refine then_n ?_; refine awp_seq ?_
  (refine ao_region ?_ (fun _ => ?_); exact rfl)
  refine q12 ?_; refine ao_nil ?_; refine then_n ?_; refine awp_seq ?_; refine awp_block ?_
  rotate_left
  (refine im_df (fun _ => ?_); (try (exfalso; omega)))
  refine awp_exit ?_
  iterate 2 refine then_x ?_
  refine blk_x ?_; refine then_n ?_; refine awp_seq ?_
  (refine ao_region ?_ (fun _ => ?_); exact rfl)
  refine q11 ?_
  (apply S_ren; exact rfl; exact rfl)
  refine ao_nil ?_; refine then_n ?_; refine awp_ret ?_
  rotate_left
  · refine round' (i + 1, τ, l) ⟨by dsimp only; omega, ?_⟩ (by dsimp only; omega) (by repeat' (first | exact le_nil _ | exact sle_nil _ | refine le_cons rfl ?_ | refine sle_cons rfl ?_)) (by repeat' (first | exact le_nil _ | exact sle_nil _ | refine le_cons rfl ?_ | refine sle_cons rfl ?_))
    have hk := addrsTo_take x.evs i (by omega)
    rename_i h1 _
    rw [Int.toNat_natCast] at h1
    rw [hk, if_pos h1]; exact hl
  · rename_i h1 w1 w2
    rw [Int.toNat_natCast] at h1
    refine awp_loop (X := Nat) (fun k => tmL [(1, .lo 1 (v1, 0) 3 0 0), (3, .os 3 τ 1 l.length), (4, .int .i64 i), (5, .int .u32 (x.evs.getD i default).addr), (6, .int .i64 k)]) (fun _ => stL [(1, ((v1, 0), ⟨3, [(exOV x).cells]⟩)), (3, (τ, ⟨1, l.map (cellO .u32)⟩))])
      (fun k => k ≤ l.length ∧ addIn (x.evs.getD i default).addr l = l.take k ++ addIn (x.evs.getD i default).addr (l.drop k)) (fun k => l.length - k) 0 ⟨Nat.zero_le _, rfl⟩ (by repeat' (first | exact le_nil _ | exact sle_nil _ | refine le_cons rfl ?_ | refine sle_cons rfl ?_)) (by repeat' (first | exact le_nil _ | exact sle_nil _ | refine le_cons rfl ?_ | refine sle_cons rfl ?_)) ?_
    intro k hk
    obtain ⟨hk, ht⟩ := hk
    iterate 2 refine awp_seq ?_
    (refine ao_region ?_ (fun _ => ?_); exact rfl)
    iterate 2 refine q11 ?_
    refine q13 ?_; refine q37 ?_; refine q11 ?_
    (apply spec_t; exact rfl; exact rfl)
    (refine im_any fun hc_ => ?_; try have hc1_ := (band hc_).1)
    refine q1
    (apply spec_t; exact rfl; exact rfl)
    (refine im_any fun hc_ => ?_; try have hc1_ := (band hc_).1)
    refine q1
    (apply spec_t; exact rfl; exact rfl)
    (refine im_any fun hc_ => ?_; try have hc1_ := (band hc_).1)
    ((have hp_ := hc_; (try simp only [Bool.not_eq_true', Bool.not_eq_false', Bool.or_eq_true, Bool.and_eq_true, Bool.or_eq_false_iff, Bool.and_eq_false_iff, decide_eq_true_eq, decide_eq_false_iff_not, Decidable.not_not, Int.not_lt, Int.not_le, Bool.not_true, Bool.not_false, Bool.true_and, Bool.and_true, Bool.false_or, Bool.or_false, Bool.true_or, Bool.false_and, bne_eq_false_iff_eq, bne_iff_ne, beq_iff_eq, beq_eq_false_iff_ne, decide_eq_decide] at hp_)))
    refine q45
    (apply spec_t; exact rfl; exact rfl)
    (refine im_any fun hc_ => ?_; try have hc1_ := (band hc_).1)
    ((have hp_ := hc_; (try simp only [Bool.not_eq_true', Bool.not_eq_false', Bool.or_eq_true, Bool.and_eq_true, Bool.or_eq_false_iff, Bool.and_eq_false_iff, decide_eq_true_eq, decide_eq_false_iff_not, Decidable.not_not, Int.not_lt, Int.not_le, Bool.not_true, Bool.not_false, Bool.true_and, Bool.and_true, Bool.false_or, Bool.or_false, Bool.true_or, Bool.false_and, bne_eq_false_iff_eq, bne_iff_ne, beq_iff_eq, beq_eq_false_iff_ne, decide_eq_decide] at hp_)))
    refine q49
    (apply spec_t; exact rfl; exact rfl)
    (refine im_any fun hc_ => ?_; try have hc1_ := (band hc_).1)
    refine q1
    (apply spec_t; exact rfl; exact rfl)
    (refine im_any fun hc_ => ?_; try have hc1_ := (band hc_).1)
    refine q22; refine q4 ?_; refine ao_nil ?_; refine then_n ?_
    (apply awp_cond; exact rfl)
    refine im_at ?_
    iterate 2 (refine im_dt (fun _ => ?_); (try (exfalso; omega)))
    refine awp_skip ?_; refine then_n ?_; refine awp_block ?_
    (refine ao_region ?_ (fun _ => ?_); exact rfl)
    refine q11 ?_; refine q36 ?_; refine q12 ?_; refine ao_nil ?_; refine blk_n ?_; refine then_n ?_
    rotate_left
    (refine im_af (fun hc_ => ?_); (try simp only [Bool.not_eq_true', Bool.not_eq_false', Bool.or_eq_true, Bool.and_eq_true, Bool.or_eq_false_iff, Bool.and_eq_false_iff, decide_eq_true_eq, decide_eq_false_iff_not, Decidable.not_not, Int.not_lt, Int.not_le, Bool.not_true, Bool.not_false, Bool.true_and, Bool.and_true, Bool.false_or, Bool.or_false, Bool.true_or, Bool.false_and, bne_eq_false_iff_eq, bne_iff_ne, beq_iff_eq, beq_eq_false_iff_ne, decide_eq_decide] at hc_))
    refine awp_exit ?_
    iterate 2 refine then_x ?_
    refine blk_x ?_; refine then_n ?_
    iterate 2 refine awp_seq ?_
    (refine ao_region ?_ (fun _ => ?_); exact rfl)
    iterate 2 refine q11 ?_
    refine q13 ?_; refine q37 ?_; refine q11 ?_
    (apply spec_t; exact rfl; exact rfl)
    (refine im_any fun hc_ => ?_; try have hc1_ := (band hc_).1)
    refine q1
    (apply spec_t; exact rfl; exact rfl)
    (refine im_any fun hc_ => ?_; try have hc1_ := (band hc_).1)
    refine q1
    (apply spec_t; exact rfl; exact rfl)
    (refine im_any fun hc_ => ?_; try have hc1_ := (band hc_).1)
    ((have hp_ := hc_; (try simp only [Bool.not_eq_true', Bool.not_eq_false', Bool.or_eq_true, Bool.and_eq_true, Bool.or_eq_false_iff, Bool.and_eq_false_iff, decide_eq_true_eq, decide_eq_false_iff_not, Decidable.not_not, Int.not_lt, Int.not_le, Bool.not_true, Bool.not_false, Bool.true_and, Bool.and_true, Bool.false_or, Bool.or_false, Bool.true_or, Bool.false_and, bne_eq_false_iff_eq, bne_iff_ne, beq_iff_eq, beq_eq_false_iff_ne, decide_eq_decide] at hp_)))
    refine q45
    (apply spec_t; exact rfl; exact rfl)
    (refine im_any fun hc_ => ?_; try have hc1_ := (band hc_).1)
    ((have hp_ := hc_; (try simp only [Bool.not_eq_true', Bool.not_eq_false', Bool.or_eq_true, Bool.and_eq_true, Bool.or_eq_false_iff, Bool.and_eq_false_iff, decide_eq_true_eq, decide_eq_false_iff_not, Decidable.not_not, Int.not_lt, Int.not_le, Bool.not_true, Bool.not_false, Bool.true_and, Bool.and_true, Bool.false_or, Bool.or_false, Bool.true_or, Bool.false_and, bne_eq_false_iff_eq, bne_iff_ne, beq_iff_eq, beq_eq_false_iff_ne, decide_eq_decide] at hp_)))
    refine q49
    (apply spec_t; exact rfl; exact rfl)
    (refine im_any fun hc_ => ?_; try have hc1_ := (band hc_).1)
    refine q1
    (apply spec_t; exact rfl; exact rfl)
    (refine im_any fun hc_ => ?_; try have hc1_ := (band hc_).1)
    refine q7; refine q4 ?_; refine ao_nil ?_; refine then_n ?_
    (apply awp_cond; exact rfl)
    refine im_at ?_
    iterate 2 (refine im_dt (fun _ => ?_); (try (exfalso; omega)))
    refine awp_exit ?_; refine then_x ?_; refine blk_x ?_; refine then_n ?_
    (refine ao_region ?_ (fun _ => ?_); exact rfl)
    refine q11 ?_; refine q36 ?_; refine q12 ?_; refine ao_nil ?_; refine then_n ?_
    rotate_left
    (refine im_af (fun hc_ => ?_); (try simp only [Bool.not_eq_true', Bool.not_eq_false', Bool.or_eq_true, Bool.and_eq_true, Bool.or_eq_false_iff, Bool.and_eq_false_iff, decide_eq_true_eq, decide_eq_false_iff_not, Decidable.not_not, Int.not_lt, Int.not_le, Bool.not_true, Bool.not_false, Bool.true_and, Bool.and_true, Bool.false_or, Bool.or_false, Bool.true_or, Bool.false_and, bne_eq_false_iff_eq, bne_iff_ne, beq_iff_eq, beq_eq_false_iff_ne, decide_eq_decide] at hc_))
    refine awp_skip ?_; refine then_n ?_; refine awp_seq ?_
    (refine ao_region ?_ (fun _ => ?_); exact rfl)
    iterate 2 refine q11 ?_
    (apply S_slice_os; exact rfl; exact rfl; exact rfl; exact rfl; exact rfl; (first | exact rfl | exact ⟨_, _, rfl, by omega, rfl⟩); (first | exact rfl | exact ⟨_, _, rfl, by omega, rfl⟩); omega; omega)
    refine q20 ?_; refine q11 ?_
    (apply S_buildSlice; exact rfl; exact rfl; exact rfl; decide; decide; decide; exact rfl; exact rfl)
    refine q20 ?_
    (apply S_ren; exact rfl; exact rfl)
    refine ao_nil ?_; refine then_n ?_
    (refine ao_region ?_ (fun _ => ?_); exact rfl)
    iterate 3 refine q11 ?_
    (apply S_slice_os; exact rfl; exact rfl; exact rfl; exact rfl; exact rfl; (first | exact rfl | exact ⟨_, _, rfl, by omega, rfl⟩); (first | exact rfl | exact ⟨_, _, rfl, by omega, rfl⟩); omega; omega)
    refine q20 ?_
    (apply S_ren; exact rfl; exact rfl)
    refine ao_nil ?_; refine blk_n ?_; refine then_n ?_
    (refine ao_region ?_ (fun _ => ?_); exact rfl)
    refine q11 ?_; refine q36 ?_; refine q12 ?_; refine ao_nil ?_; refine then_n ?_
    rotate_left
    · rename_i h2 h3 _
      rw [Int.toNat_natCast] at h3
      refine round' (k + 1) ⟨by omega, ?_⟩ (by omega) (by repeat' (first | exact le_nil _ | exact sle_nil _ | refine le_cons rfl ?_ | refine sle_cons rfl ?_)) (by repeat' (first | exact le_nil _ | exact sle_nil _ | refine le_cons rfl ?_ | refine sle_cons rfl ?_))
      rw [ht, addIn_drop _ l k (by omega), if_pos h3, take_getD l 0 k (by omega)]
      simp
    · rename_i _ h2 h3 _
      have h0 := hc_
      simp only [Int.toNat_natCast] at h3 h0
      refine round' (i + 1, τ, l) ⟨by dsimp only; omega, ?_⟩ (by dsimp only; omega) (by repeat' (first | exact le_nil _ | exact sle_nil _ | refine le_cons rfl ?_ | refine sle_cons rfl ?_)) (by repeat' (first | exact le_nil _ | exact sle_nil _ | refine le_cons rfl ?_ | refine sle_cons rfl ?_))
      have hk' := addrsTo_take x.evs i (by omega)
      rw [if_neg h1, ← hl, ht, addIn_drop _ l k (by omega), if_neg (by omega), if_pos h3, List.take_append_drop] at hk'
      exact hk'.symm
    · rename_i h0 _ w3 w4 w5
      have h3 := hc_
      simp only [Int.toNat_natCast] at h3 h0
      have hD : addIn (x.evs.getD i default).addr l = l.take k ++ (x.evs.getD i default).addr :: l.drop k := by
        rw [ht]
        by_cases hkl : k = l.length
        · subst hkl; simp [addIn]
        · rw [addIn_drop _ l k (by omega), if_neg (by omega), if_neg (by omega)]
      have hk' := addrsTo_take x.evs i (by omega)
      rw [if_neg h1, ← hl] at hk'
      refine round' (i + 1, (w4, 5), addIn (x.evs.getD i default).addr l) ⟨by dsimp only; omega, hk'.symm⟩ (by dsimp only; omega) (by repeat' (first | exact le_nil _ | exact sle_nil _ | refine le_cons rfl ?_ | refine sle_cons rfl ?_ | (refine le_cons_os rfl ?_ ?_; (first | (dsimp only; rw [hD]; (first | omega | (simp only [List.length_append, List.length_map, List.length_take, List.length_drop, List.length_cons, List.length_nil, List.length_replicate, chop_length] <;> omega))) | (dsimp only; rw [hD]; exact rows_mid _ l k _))) | (refine le_cons_int rfl ?_ ?_; (first | (dsimp only; rw [hD]; (first | omega | (simp only [List.length_append, List.length_map, List.length_take, List.length_drop, List.length_cons, List.length_nil, List.length_replicate, chop_length] <;> omega))) | (dsimp only; rw [hD]; exact rows_mid _ l k _))) | (refine sle_cons' rfl ?_ ?_; (first | (dsimp only; rw [hD]; (first | omega | (simp only [List.length_append, List.length_map, List.length_take, List.length_drop, List.length_cons, List.length_nil, List.length_replicate, chop_length] <;> omega))) | (dsimp only; rw [hD]; exact rows_mid _ l k _))))) (by repeat' (first | exact le_nil _ | exact sle_nil _ | refine le_cons rfl ?_ | refine sle_cons rfl ?_ | (refine le_cons_os rfl ?_ ?_; (first | (dsimp only; rw [hD]; (first | omega | (simp only [List.length_append, List.length_map, List.length_take, List.length_drop, List.length_cons, List.length_nil, List.length_replicate, chop_length] <;> omega))) | (dsimp only; rw [hD]; exact rows_mid _ l k _))) | (refine le_cons_int rfl ?_ ?_; (first | (dsimp only; rw [hD]; (first | omega | (simp only [List.length_append, List.length_map, List.length_take, List.length_drop, List.length_cons, List.length_nil, List.length_replicate, chop_length] <;> omega))) | (dsimp only; rw [hD]; exact rows_mid _ l k _))) | (refine sle_cons' rfl ?_ ?_; (first | (dsimp only; rw [hD]; (first | omega | (simp only [List.length_append, List.length_map, List.length_take, List.length_drop, List.length_cons, List.length_nil, List.length_replicate, chop_length] <;> omega))) | (dsimp only; rw [hD]; exact rows_mid _ l k _)))))
  · have e : i = x.evs.length := by omega
    rw [e, List.take_length] at hl
    refine own_done rfl rfl ?_ ?_
    · rw [hl]
    · simp
end Go.Proofs.YtnghoibkjphfmaaGreat
/- wide, and known, of the laws of layer 7, in plain data. -/
set_option maxRecDepth 100000
set_option linter.unusedVariables false
set_option linter.unusedSimpArgs false
namespace Go.Proofs.YtnghoibkjphfmaaGreat
open Go.RowKit
def Ev.lens (e : Ev) : Nat := e.addrs.length + e.datas.length + e.ctrls.length
def sumE (es : List Ev) (k : Nat) : Nat := ((es.take k).map Ev.lens).sum
def sumR (rows : List (Sl × List Int)) (k : Nat) : Nat := ((rows.take k).map fun r => r.2.length).sum
/-- is it more than is done? -/
def wideB (x : Ex) : Bool := decide (70 < x.evs.length) || decide (200 < x.from_.length) || decide (200 < x.order.length) || decide (400 < x.from_.length + sumR x.order x.order.length) || decide (400 < x.from_.length + sumR x.order x.order.length + sumE x.evs x.evs.length)
theorem sumE_succ (es : List Ev) (k : Nat) (h : k < es.length) : sumE es (k + 1) = sumE es k + (es.getD k default).lens := by
  unfold sumE; rw [take_getD es default k h]; simp
theorem sumR_succ (rows : List (Sl × List Int)) (k : Nat) (h : k < rows.length) : sumR rows (k + 1) = sumR rows k + (rows.getD k default).2.length := by
  unfold sumR; rw [take_getD rows default k h]; simp
theorem sum_take_le (l : List Nat) (k : Nat) : (l.take k).sum ≤ l.sum := by
  have h := congrArg List.sum (List.take_append_drop k l)
  rw [List.sum_append] at h
  omega
theorem sumE_le (es : List Ev) (k : Nat) : sumE es k ≤ sumE es es.length := by
  unfold sumE
  rw [List.take_length, List.map_take]; exact sum_take_le _ _
theorem sumR_le (rows : List (Sl × List Int)) (k : Nat) : sumR rows k ≤ sumR rows rows.length := by
  unfold sumR
  rw [List.take_length, List.map_take]; exact sum_take_le _ _
theorem wide_true1 {x : Ex} (h : 70 < x.evs.length ∨ 200 < x.from_.length ∨ 200 < x.order.length) : true = wideB x := by
  unfold wideB
  rcases h with h | h | h <;> simp [h]
theorem wide_true2 {x : Ex} {k : Nat} (h : 400 < x.from_.length + sumR x.order k) : true = wideB x := by
  have := sumR_le x.order k
  unfold wideB
  have h : 400 < x.from_.length + sumR x.order x.order.length := by omega
  simp [h]
theorem wide_true3 {x : Ex} {k : Nat} (h : 400 < x.from_.length + sumR x.order x.order.length + sumE x.evs k) : true = wideB x := by
  have := sumE_le x.evs k
  unfold wideB
  have h : 400 < x.from_.length + sumR x.order x.order.length + sumE x.evs x.evs.length := by omega
  simp [h]
theorem Ex.ok.ev {x : Ex} (h : x.ok) (i : Nat) : (x.evs.getD i default).addrs.length ≤ 1152921504606846976 ∧ (x.evs.getD i default).datas.length ≤ 1152921504606846976 ∧ (x.evs.getD i default).ctrls.length ≤ 1152921504606846976 := by
  rcases Nat.lt_or_ge i x.evs.length with hh | hh
  · rw [List.getD_eq_getElem?_getD, List.getElem?_eq_getElem hh]
    have := h.2.1 _ (List.getElem_mem hh)
    exact ⟨this.2.1, this.2.2.1, this.2.2.2.1⟩
  · rw [List.getD_eq_getElem?_getD, List.getElem?_eq_none hh]
    decide
theorem Ex.ok.row {x : Ex} (h : x.ok) (i : Nat) : (x.order.getD i default).2.length ≤ 1152921504606846976 := by
  rcases Nat.lt_or_ge i x.order.length with hh | hh
  · rw [List.getD_eq_getElem?_getD, List.getElem?_eq_getElem hh]
    exact h.2.2.2.2 _ (List.getElem_mem hh)
  · rw [List.getD_eq_getElem?_getD, List.getElem?_eq_none hh]
    decide
theorem wide_row {x : Ex} (h : wideB x = false) : ∀ r ∈ x.order, r.2.length ≤ 400 := fun r hr => by
  unfold wideB at h
  simp only [Bool.or_eq_false_iff, decide_eq_false_iff_not] at h
  obtain ⟨i, hi, rfl⟩ := List.mem_iff_getElem.1 hr
  have h1 := sumR_succ x.order i hi
  have h2 := sumR_le x.order (i + 1)
  rw [List.getD_eq_getElem?_getD, List.getElem?_eq_getElem hi] at h1
  simp only [Option.getD_some] at h1
  omega
set_option maxHeartbeats 4000000 in
theorem wide_p (x : Ex) (hok : x.ok) : Pure E.P 11 [exOV x] (.bool (wideB x)) := by
  have hev := hok.ev
  have hrw := hok.row
  obtain ⟨hx, _, hf, ho, _⟩ := hok
  refine fn_of_awp Tryz.func11 (by decide) rfl Tryz.ntmps11 (Nat.le_of_ble_eq_true rfl) rfl ?_
  refine awp_seq ?_
  (refine ao_region ?_ (fun _ => ?_); exact rfl)
  refine q40 ?_; refine q12 ?_; refine ao_nil ?_; refine then_n ?_; refine awp_seq ?_
  (refine ao_region ?_ (fun _ => ?_); exact rfl)
  refine q28 ?_; refine q31 ?_; refine q13 ?_; refine q12 ?_; refine ao_nil ?_; refine then_n ?_
  iterate 2 refine awp_seq ?_
  (refine ao_region ?_ (fun _ => ?_); exact rfl)
  refine q28 ?_; refine q31 ?_; refine q13 ?_
  (apply S_gtr; exact rfl; exact rfl)
  refine q11 ?_
  (apply spec_f; exact rfl; exact rfl)
  (refine im_any fun hc_ => ?_; try have hc1_ := (band hc_).1)
  refine q1
  (apply spec_f; exact rfl; exact rfl)
  (refine im_any fun hc_ => ?_; try have hc1_ := (band hc_).1)
  refine q35; refine q0 ?_; refine q11 ?_
  (apply spec_f; exact rfl; exact rfl)
  (refine im_any fun hc_ => ?_; try have hc1_ := (band hc_).1)
  refine q2
  (apply spec_f; exact rfl; exact rfl)
  (refine im_any fun hc_ => ?_; try have hc1_ := (band hc_).1)
  refine q3
  (apply spec_f; exact rfl; exact rfl)
  (refine im_any fun hc_ => ?_; try have hc1_ := (band hc_).1)
  refine q18
  (apply spec_f; exact rfl; exact rfl)
  (refine im_any fun hc_ => ?_; try have hc1_ := (band hc_).1)
  refine q35; refine q0 ?_; refine ao_nil ?_; refine then_n ?_
  (apply awp_cond; exact rfl)
  (refine im_ot (fun hc_ => ?_); (try simp only [Bool.not_eq_true', Bool.not_eq_false', Bool.or_eq_true, Bool.and_eq_true, Bool.or_eq_false_iff, Bool.and_eq_false_iff, decide_eq_true_eq, decide_eq_false_iff_not, Decidable.not_not, Int.not_lt, Int.not_le, Bool.not_true, Bool.not_false, Bool.true_and, Bool.and_true, Bool.false_or, Bool.or_false, Bool.true_or, Bool.false_and, bne_eq_false_iff_eq, bne_iff_ne, beq_iff_eq, beq_eq_false_iff_ne, decide_eq_decide] at hc_))
  refine awp_seq ?_
  (refine ao_region ?_ (fun _ => ?_); exact rfl)
  refine q12 ?_; refine ao_nil ?_; refine then_n ?_; refine awp_ret ?_; refine then_r ?_
  rotate_left
  iterate 2 refine im_of ?_
  iterate 3 (refine im_df (fun _ => ?_); (try (exfalso; omega)))
  refine awp_skip ?_; refine then_n ?_
  iterate 2 refine awp_seq ?_
  (refine ao_region ?_ (fun _ => ?_); exact rfl)
  refine q12 ?_; refine ao_nil ?_; refine then_n ?_; refine awp_block ?_
  rotate_left
  · exact done_b rfl (wide_true1 (by omega))
  rename_i v1 _ _ g1 g2 g3 _
  refine awp_loop (X := Nat) (fun k => tmL [(1, .lo 1 (v1, 0) 3 0 0), (3, .int .i64 ((x.from_.length + sumR x.order k : Nat) : Int)), (4, .int .i64 k)]) (fun _ => stL [(1, ((v1, 0), ⟨3, [(exOV x).cells]⟩))])
    (fun k => k ≤ x.order.length ∧ x.from_.length + sumR x.order k ≤ 400) (fun k => x.order.length - k) 0 ⟨Nat.zero_le _, by simp [sumR]; omega⟩ (by repeat' (first | exact le_nil _ | exact sle_nil _ | refine le_cons rfl ?_ | refine sle_cons rfl ?_ | (refine le_cons_os rfl ?_ ?_; (simp [sumR])) | (refine le_cons_int rfl ?_ ?_; (simp [sumR])) | (refine sle_cons' rfl ?_ ?_; (simp [sumR])))) (by repeat' (first | exact le_nil _ | exact sle_nil _ | refine le_cons rfl ?_ | refine sle_cons rfl ?_)) ?_
  rintro k ⟨hk, hn⟩
  have hr := hrw (k : Int).toNat
  iterate 2 refine awp_seq ?_
  (refine ao_region ?_ (fun _ => ?_); exact rfl)
  refine q11 ?_; refine q28 ?_; refine q31 ?_; refine q13 ?_; refine q37 ?_; refine ao_nil ?_; refine then_n ?_
  (apply awp_cond; exact rfl)
  (refine im_dt (fun _ => ?_); (try (exfalso; omega)))
  refine awp_skip ?_; refine then_n ?_; refine awp_seq ?_; refine awp_block ?_; refine awp_seq ?_
  (refine ao_region ?_ (fun _ => ?_); exact rfl)
  refine q11 ?_; refine q28 ?_; refine q31 ?_; refine q11 ?_; refine q17 ?_; refine q23 ?_; refine q13 ?_; refine q36 ?_; refine q12 ?_; refine ao_nil ?_; refine then_n ?_; refine awp_seq ?_
  (refine ao_region ?_ (fun _ => ?_); exact rfl)
  refine q11 ?_
  (apply S_gtr; exact rfl; exact rfl)
  refine ao_nil ?_; refine then_n ?_
  (apply awp_cond; exact rfl)
  (refine im_dt (fun _ => ?_); (try (exfalso; omega)))
  refine awp_seq ?_
  (refine ao_region ?_ (fun _ => ?_); exact rfl)
  refine q12 ?_; refine ao_nil ?_; refine then_n ?_; refine awp_ret ?_; refine blk_r ?_
  iterate 2 refine then_r ?_
  refine blk_r ?_; refine then_r ?_
  rotate_left
  (refine im_df (fun _ => ?_); (try (exfalso; omega)))
  refine awp_skip ?_; refine blk_n ?_; refine then_n ?_
  (refine ao_region ?_ (fun _ => ?_); exact rfl)
  refine q11 ?_; refine q36 ?_; refine q12 ?_; refine ao_nil ?_; refine then_n ?_
  rotate_left
  (refine im_df (fun _ => ?_); (try (exfalso; omega)))
  refine awp_exit ?_
  iterate 2 refine then_x ?_
  refine blk_x ?_; refine then_n ?_
  iterate 2 refine awp_seq ?_
  (refine ao_region ?_ (fun _ => ?_); exact rfl)
  refine q12 ?_; refine ao_nil ?_; refine then_n ?_; refine awp_block ?_
  rotate_left
  · refine done_b rfl (wide_true2 (k := k + 1) ?_)
    rename_i h _
    rw [sumR_succ _ _ (by omega)]
    rw [Int.toNat_natCast] at h
    omega
  · have hs := sumR_succ x.order k (by omega)
    rename_i h _
    rw [Int.toNat_natCast] at h
    refine round' (k + 1) ⟨by omega, by omega⟩ (by omega) (by repeat' (first | exact le_nil _ | exact sle_nil _ | refine le_cons rfl ?_ | refine sle_cons rfl ?_ | (refine le_cons_os rfl ?_ ?_; (rw [hs, Int.toNat_natCast]; omega)) | (refine le_cons_int rfl ?_ ?_; (rw [hs, Int.toNat_natCast]; omega)) | (refine sle_cons' rfl ?_ ?_; (rw [hs, Int.toNat_natCast]; omega)))) (by repeat' (first | exact le_nil _ | exact sle_nil _ | refine le_cons rfl ?_ | refine sle_cons rfl ?_))
  have e : k = x.order.length := by omega
  subst e
  refine awp_loop (X := Nat) (fun i => tmL [(1, .lo 1 (v1, 0) 3 0 0), (3, .int .i64 ((x.from_.length + sumR x.order x.order.length + sumE x.evs i : Nat) : Int)), (5, .int .i64 i)]) (fun _ => stL [(1, ((v1, 0), ⟨3, [(exOV x).cells]⟩))])
    (fun i => i ≤ x.evs.length ∧ x.from_.length + sumR x.order x.order.length + sumE x.evs i ≤ 400) (fun i => x.evs.length - i) 0 ⟨Nat.zero_le _, by simpa [sumE] using hn⟩ (by repeat' (first | exact le_nil _ | exact sle_nil _ | refine le_cons rfl ?_ | refine sle_cons rfl ?_ | (refine le_cons_os rfl ?_ ?_; (simp [sumE])) | (refine le_cons_int rfl ?_ ?_; (simp [sumE])) | (refine sle_cons' rfl ?_ ?_; (simp [sumE])))) (by repeat' (first | exact le_nil _ | exact sle_nil _ | refine le_cons rfl ?_ | refine sle_cons rfl ?_)) ?_
  rintro i ⟨hi, hm⟩
  have he := hev (i : Int).toNat
  iterate 2 refine awp_seq ?_
  (refine ao_region ?_ (fun _ => ?_); exact rfl)
  refine q11 ?_; refine q28 ?_; refine q31 ?_; refine q13 ?_; refine q37 ?_; refine ao_nil ?_; refine then_n ?_
  (apply awp_cond; exact rfl)
  (refine im_dt (fun _ => ?_); (try (exfalso; omega)))
  refine awp_skip ?_; refine then_n ?_; refine awp_seq ?_; refine awp_block ?_; refine awp_seq ?_
  (refine do_region (E := E) ?_ (fun _ => ?_); exact rfl)
  refine q38 ?_; refine q56 ?_; refine q48 ?_; refine q38 ?_; refine q30 ?_; refine q52 ?_; refine q50 ?_; refine q59 ?_
  (apply D_add64; exact rfl; exact rfl; omega)
  refine q56 ?_; refine q48 ?_; refine q38 ?_; refine q30 ?_; refine q52 ?_; refine q50 ?_; refine q59 ?_
  (apply D_add64; exact rfl; exact rfl; omega)
  refine q56 ?_; refine q48 ?_; refine q38 ?_; refine q30 ?_; refine q52 ?_; refine q50 ?_; refine q59 ?_
  (apply D_add64; exact rfl; exact rfl; omega)
  (apply D_assign; exact rfl)
  (refine do_nil ?_ ?_; (first | ((try dsimp only [wkeys]); decide +kernel) | exact rfl))
  refine then_n ?_; refine awp_seq ?_
  (refine ao_region ?_ (fun _ => ?_); exact rfl)
  refine q11 ?_
  (apply S_gtr; exact rfl; exact rfl)
  refine ao_nil ?_; refine then_n ?_
  (apply awp_cond; exact rfl)
  (refine im_dt (fun _ => ?_); (try (exfalso; omega)))
  refine awp_seq ?_
  (refine ao_region ?_ (fun _ => ?_); exact rfl)
  refine q12 ?_; refine ao_nil ?_; refine then_n ?_; refine awp_ret ?_; refine blk_r ?_
  iterate 2 refine then_r ?_
  refine blk_r ?_; refine then_r ?_
  rotate_left
  (refine im_df (fun _ => ?_); (try (exfalso; omega)))
  refine awp_skip ?_; refine blk_n ?_; refine then_n ?_
  (refine ao_region ?_ (fun _ => ?_); exact rfl)
  refine q11 ?_; refine q36 ?_; refine q12 ?_; refine ao_nil ?_; refine then_n ?_
  rotate_left
  (refine im_df (fun _ => ?_); (try (exfalso; omega)))
  refine awp_exit ?_
  iterate 2 refine then_x ?_
  refine blk_x ?_; refine then_n ?_; refine awp_seq ?_
  (refine ao_region ?_ (fun _ => ?_); exact rfl)
  refine q12 ?_; refine ao_nil ?_; refine then_n ?_; refine awp_ret ?_
  rotate_left
  · refine done_b rfl (wide_true3 (k := i + 1) ?_)
    rename_i h _
    rw [sumE_succ _ _ (by omega)]
    unfold Ev.lens
    rw [Int.toNat_natCast] at h
    omega
  · have hs := sumE_succ x.evs i (by omega)
    unfold Ev.lens at hs
    rename_i h _
    rw [Int.toNat_natCast] at h
    refine round' (i + 1) ⟨by omega, by omega⟩ (by omega) (by repeat' (first | exact le_nil _ | exact sle_nil _ | refine le_cons rfl ?_ | refine sle_cons rfl ?_ | (refine le_cons_os rfl ?_ ?_; (rw [hs, Int.toNat_natCast]; omega)) | (refine le_cons_int rfl ?_ ?_; (rw [hs, Int.toNat_natCast]; omega)) | (refine sle_cons' rfl ?_ ?_; (rw [hs, Int.toNat_natCast]; omega)))) (by repeat' (first | exact le_nil _ | exact sle_nil _ | refine le_cons rfl ?_ | refine sle_cons rfl ?_))
  · have e : i = x.evs.length := by omega
    subst e
    refine done_b rfl ?_
    unfold wideB
    rw [eq_comm]
    simp only [Bool.or_eq_false_iff, decide_eq_false_iff_not]
    omega
end Go.Proofs.YtnghoibkjphfmaaGreat
/- The reference's hangs, walked in plain data. -/
set_option maxRecDepth 100000
set_option linter.unusedVariables false
set_option linter.unusedSimpArgs false
namespace Go.Proofs.YtnghoibkjphfmaaGreat
open Go.RowKit
set_option maxHeartbeats 4000000 in
theorem rhangs_p (x : Ex) (n : Nat) (l : List Int) (hx : x.evs.length ≤ 1152921504606846976) (hn : n < x.evs.length) (hl : l.length ≤ 1152921504606846976) :
    Pure E.P 32 [exOV x, .int .i64 n, .d (ints l)] (.bool (hangsB x.evs n l)) := by
  refine fn_of_awp Tryz.func32 (by decide) rfl Tryz.ntmps32 (Nat.le_of_ble_eq_true rfl) rfl ?_
  refine awp_seq ?_
  (refine ao_region ?_ (fun _ => ?_); exact rfl)
  refine q40 ?_; refine q12 ?_; refine ao_nil ?_; refine then_n ?_
  iterate 2 refine awp_seq ?_
  (refine ao_region ?_ (fun _ => ?_); exact rfl)
  refine q12 ?_; refine ao_nil ?_; refine then_n ?_; refine awp_block ?_
  rotate_left
  rename_i v0 v1
  refine awp_loop (X := Nat) (fun k => tmL [(1, .int .i64 n), (2, .d (ints l)), (3, .lo 3 (v0, 0) 3 0 0), (7, .int .i64 k)]) (fun _ => stL [(3, ((v0, 0), ⟨3, [(exOV x).cells]⟩))]) (fun k => k ≤ l.length ∧ hangsTo x.evs n l k = true) (fun k => l.length - k) 0 ⟨Nat.zero_le _, rfl⟩ (by repeat' (first | exact le_nil _ | exact sle_nil _ | refine le_cons rfl ?_ | refine sle_cons rfl ?_)) (by repeat' (first | exact le_nil _ | exact sle_nil _ | refine le_cons rfl ?_ | refine sle_cons rfl ?_)) ?_
  intro k hk
  obtain ⟨hk, ht⟩ := hk
  iterate 2 refine awp_seq ?_
  (refine ao_region ?_ (fun _ => ?_); exact rfl)
  iterate 2 refine q11 ?_
  refine q13 ?_; refine q37 ?_; refine ao_nil ?_; refine then_n ?_
  (apply awp_cond; exact rfl)
  (refine im_dt (fun _ => ?_); (try (exfalso; omega)))
  refine awp_skip ?_; refine then_n ?_; refine awp_seq ?_; refine awp_block ?_; refine awp_seq ?_
  (refine ao_region ?_ (fun _ => ?_); exact rfl)
  iterate 2 refine q11 ?_
  refine q17 ?_; refine q23 ?_; refine q12 ?_; refine ao_nil ?_; refine then_n ?_; refine awp_seq ?_
  (refine do_region (E := E) ?_ (fun _ => ?_); exact rfl)
  refine q38 ?_
  (apply D_lss; exact rfl; exact rfl)
  refine q38 ?_
  (apply dspec_f; exact rfl; exact rfl)
  (refine im_any fun hc_ => ?_; try have hc1_ := (band hc_).1)
  refine q1
  (apply dspec_f; exact rfl; exact rfl)
  (refine im_any fun hc_ => ?_; try have hc1_ := (band hc_).1)
  refine q1
  (apply dspec_f; exact rfl; exact rfl)
  (refine im_any fun hc_ => ?_; try have hc1_ := (band hc_).1)
  refine q21; refine q25 ?_; refine q38 ?_
  (apply dspec_f; exact rfl; exact rfl)
  (refine im_any fun hc_ => ?_; try have hc1_ := (band hc_).1)
  refine q1
  (apply dspec_f; exact rfl; exact rfl)
  (refine im_any fun hc_ => ?_; try have hc1_ := (band hc_).1)
  refine q35
  (apply dspec_f; exact rfl; exact rfl)
  (refine im_any fun hc_ => ?_; try have hc1_ := (band hc_).1)
  refine q1
  (apply dspec_mt; exact rfl; exact rfl)
  (refine im_any fun hc_ => ?_; try have hc1_ := (band hc_).1)
  refine q1
  (apply dspec_mt; exact rfl; exact rfl)
  (refine im_any fun hc_ => ?_; try have hc1_ := (band hc_).1)
  refine q1
  (apply dspec_mt; exact rfl; exact rfl)
  (refine im_any fun hc_ => ?_; try have hc1_ := (band hc_).1)
  ((have hp_ := hc_; (try simp only [Bool.not_eq_true', Bool.not_eq_false', Bool.or_eq_true, Bool.and_eq_true, Bool.or_eq_false_iff, Bool.and_eq_false_iff, decide_eq_true_eq, decide_eq_false_iff_not, Decidable.not_not, Int.not_lt, Int.not_le, Bool.not_true, Bool.not_false, Bool.true_and, Bool.and_true, Bool.false_or, Bool.or_false, Bool.true_or, Bool.false_and, bne_eq_false_iff_eq, bne_iff_ne, beq_iff_eq, beq_eq_false_iff_ne, decide_eq_decide] at hp_)))
  refine q58
  (apply dspec_mt; exact rfl; exact rfl)
  (refine im_any fun hc_ => ?_; try have hc1_ := (band hc_).1)
  ((have hp_ := hc_; (try simp only [Bool.not_eq_true', Bool.not_eq_false', Bool.or_eq_true, Bool.and_eq_true, Bool.or_eq_false_iff, Bool.and_eq_false_iff, decide_eq_true_eq, decide_eq_false_iff_not, Decidable.not_not, Int.not_lt, Int.not_le, Bool.not_true, Bool.not_false, Bool.true_and, Bool.and_true, Bool.false_or, Bool.or_false, Bool.true_or, Bool.false_and, bne_eq_false_iff_eq, bne_iff_ne, beq_iff_eq, beq_eq_false_iff_ne, decide_eq_decide] at hp_)))
  refine q5
  (apply dspec_mt; exact rfl; exact rfl)
  (refine im_any fun hc_ => ?_; try have hc1_ := (band hc_).1)
  refine q6
  (apply dspec_mt; exact rfl; exact rfl)
  (refine im_any fun hc_ => ?_; try have hc1_ := (band hc_).1)
  refine q1
  (apply dspec_mt; exact rfl; exact rfl)
  (refine im_any fun hc_ => ?_; try have hc1_ := (band hc_).1)
  refine q21
  (apply dspec_f; exact rfl; exact rfl)
  (refine im_any fun hc_ => ?_; try have hc1_ := (band hc_).1)
  refine q10; refine q25 ?_; refine q38 ?_
  (apply dspec_f; exact rfl; exact rfl)
  (refine im_any fun hc_ => ?_; try have hc1_ := (band hc_).1)
  refine q2
  (apply dspec_f; exact rfl; exact rfl)
  (refine im_any fun hc_ => ?_; try have hc1_ := (band hc_).1)
  refine q3
  (apply dspec_f; exact rfl; exact rfl)
  (refine im_any fun hc_ => ?_; try have hc1_ := (band hc_).1)
  refine q1
  (apply dspec_f; exact rfl; exact rfl)
  (refine im_any fun hc_ => ?_; try have hc1_ := (band hc_).1)
  ((have hp_ := hc_; (try simp only [Bool.not_eq_true', Bool.not_eq_false', Bool.or_eq_true, Bool.and_eq_true, Bool.or_eq_false_iff, Bool.and_eq_false_iff, decide_eq_true_eq, decide_eq_false_iff_not, Decidable.not_not, Int.not_lt, Int.not_le, Bool.not_true, Bool.not_false, Bool.true_and, Bool.and_true, Bool.false_or, Bool.or_false, Bool.true_or, Bool.false_and, bne_eq_false_iff_eq, bne_iff_ne, beq_iff_eq, beq_eq_false_iff_ne, decide_eq_decide] at hp_)))
  refine q5
  (apply dspec_f; exact rfl; exact rfl)
  (refine im_any fun hc_ => ?_; try have hc1_ := (band hc_).1)
  refine q8
  (apply dspec_f; exact rfl; exact rfl)
  (refine im_any fun hc_ => ?_; try have hc1_ := (band hc_).1)
  refine q6
  (apply dspec_f; exact rfl; exact rfl)
  (refine im_any fun hc_ => ?_; try have hc1_ := (band hc_).1)
  refine q2
  (apply dspec_f; exact rfl; exact rfl)
  (refine im_any fun hc_ => ?_; try have hc1_ := (band hc_).1)
  refine q3
  (apply dspec_f; exact rfl; exact rfl)
  (refine im_any fun hc_ => ?_; try have hc1_ := (band hc_).1)
  refine q1
  (apply dspec_f; exact rfl; exact rfl)
  (refine im_any fun hc_ => ?_; try have hc1_ := (band hc_).1)
  ((have hp_ := hc_; (try simp only [Bool.not_eq_true', Bool.not_eq_false', Bool.or_eq_true, Bool.and_eq_true, Bool.or_eq_false_iff, Bool.and_eq_false_iff, decide_eq_true_eq, decide_eq_false_iff_not, Decidable.not_not, Int.not_lt, Int.not_le, Bool.not_true, Bool.not_false, Bool.true_and, Bool.and_true, Bool.false_or, Bool.or_false, Bool.true_or, Bool.false_and, bne_eq_false_iff_eq, bne_iff_ne, beq_iff_eq, beq_eq_false_iff_ne, decide_eq_decide] at hp_)))
  refine q5
  (apply dspec_f; exact rfl; exact rfl)
  (refine im_any fun hc_ => ?_; try have hc1_ := (band hc_).1)
  refine q8
  (apply dspec_f; exact rfl; exact rfl)
  (refine im_any fun hc_ => ?_; try have hc1_ := (band hc_).1)
  refine q6
  (apply dspec_f; exact rfl; exact rfl)
  (refine im_any fun hc_ => ?_; try have hc1_ := (band hc_).1)
  refine q26; refine q25 ?_; refine q38 ?_
  (apply dspec_f; exact rfl; exact rfl)
  (refine im_any fun hc_ => ?_; try have hc1_ := (band hc_).1)
  refine q2
  (apply dspec_f; exact rfl; exact rfl)
  (refine im_any fun hc_ => ?_; try have hc1_ := (band hc_).1)
  refine q3
  (apply dspec_f; exact rfl; exact rfl)
  (refine im_any fun hc_ => ?_; try have hc1_ := (band hc_).1)
  refine q1
  (apply dspec_f; exact rfl; exact rfl)
  (refine im_any fun hc_ => ?_; try have hc1_ := (band hc_).1)
  ((have hp_ := hc_; (try simp only [Bool.not_eq_true', Bool.not_eq_false', Bool.or_eq_true, Bool.and_eq_true, Bool.or_eq_false_iff, Bool.and_eq_false_iff, decide_eq_true_eq, decide_eq_false_iff_not, Decidable.not_not, Int.not_lt, Int.not_le, Bool.not_true, Bool.not_false, Bool.true_and, Bool.and_true, Bool.false_or, Bool.or_false, Bool.true_or, Bool.false_and, bne_eq_false_iff_eq, bne_iff_ne, beq_iff_eq, beq_eq_false_iff_ne, decide_eq_decide] at hp_)))
  refine q5
  (apply dspec_f; exact rfl; exact rfl)
  (refine im_any fun hc_ => ?_; try have hc1_ := (band hc_).1)
  refine q47
  (apply dspec_f; exact rfl; exact rfl)
  (refine im_any fun hc_ => ?_; try have hc1_ := (band hc_).1)
  ((have hp_ := hc_; (try simp only [Bool.not_eq_true', Bool.not_eq_false', Bool.or_eq_true, Bool.and_eq_true, Bool.or_eq_false_iff, Bool.and_eq_false_iff, decide_eq_true_eq, decide_eq_false_iff_not, Decidable.not_not, Int.not_lt, Int.not_le, Bool.not_true, Bool.not_false, Bool.true_and, Bool.and_true, Bool.false_or, Bool.or_false, Bool.true_or, Bool.false_and, bne_eq_false_iff_eq, bne_iff_ne, beq_iff_eq, beq_eq_false_iff_ne, decide_eq_decide] at hp_)))
  ((apply M_call; exact .plain rfl rfl; exact .fn _ _ _; (repeat (first | exact EvsM.nil | (apply EvsM.cons; first | (refine EvM.mb _ rfl ?_; first | assumption | exact rfl) | exact EvM.plain rfl rfl))); (first | exact rstores_p _ | exact rloads_p _)))
  (apply dspec_f; exact rfl; exact rfl)
  (refine im_any fun hc_ => ?_; try have hc1_ := (band hc_).1)
  refine q42; refine q25 ?_
  (refine do_nil ?_ ?_; (first | ((try dsimp only [wkeys]); decide +kernel) | exact rfl))
  refine then_n ?_
  (apply awp_cond; exact rfl)
  (refine im_ot (fun hc_ => ?_); (try simp only [Bool.not_eq_true', Bool.not_eq_false', Bool.or_eq_true, Bool.and_eq_true, Bool.or_eq_false_iff, Bool.and_eq_false_iff, decide_eq_true_eq, decide_eq_false_iff_not, Decidable.not_not, Int.not_lt, Int.not_le, Bool.not_true, Bool.not_false, Bool.true_and, Bool.and_true, Bool.false_or, Bool.or_false, Bool.true_or, Bool.false_and, bne_eq_false_iff_eq, bne_iff_ne, beq_iff_eq, beq_eq_false_iff_ne, decide_eq_decide] at hc_))
  refine awp_seq ?_
  (refine ao_region ?_ (fun _ => ?_); exact rfl)
  refine q12 ?_; refine ao_nil ?_; refine then_n ?_; refine awp_ret ?_; refine blk_r ?_
  iterate 2 refine then_r ?_
  refine blk_r ?_; refine then_r ?_
  rotate_left
  iterate 4 refine im_of ?_
  iterate 2 (refine im_df (fun _ => ?_); (try (exfalso; omega)))
  (refine im_af (fun hc_ => ?_); (try simp only [Bool.not_eq_true', Bool.not_eq_false', Bool.or_eq_true, Bool.and_eq_true, Bool.or_eq_false_iff, Bool.and_eq_false_iff, decide_eq_true_eq, decide_eq_false_iff_not, Decidable.not_not, Int.not_lt, Int.not_le, Bool.not_true, Bool.not_false, Bool.true_and, Bool.and_true, Bool.false_or, Bool.or_false, Bool.true_or, Bool.false_and, bne_eq_false_iff_eq, bne_iff_ne, beq_iff_eq, beq_eq_false_iff_ne, decide_eq_decide] at hc_))
  (refine im_nf (fun _ => ?_); (try (exfalso; omega)))
  refine im_bf ?_
  (refine im_vt (fun _ => ?_))
  refine awp_skip ?_; refine blk_n ?_; refine then_n ?_
  (refine ao_region ?_ (fun _ => ?_); exact rfl)
  refine q11 ?_; refine q36 ?_; refine q12 ?_; refine ao_nil ?_; refine then_n ?_
  rotate_left
  (refine im_df (fun _ => ?_); (try (exfalso; omega)))
  refine awp_exit ?_
  iterate 2 refine then_x ?_
  refine blk_x ?_; refine then_n ?_; refine awp_seq ?_
  (refine ao_region ?_ (fun _ => ?_); exact rfl)
  refine q12 ?_; refine ao_nil ?_; refine then_n ?_; refine awp_ret ?_
  rotate_left
  · refine done_b rfl ?_
    rename_i hc_ _
    refine (hangsTo_false _ _ _ k (by omega) ?_).symm
    have e1 : ((k : Int) - 1).toNat = k - 1 := by omega
    simp only [Int.toNat_natCast, e1] at hc_
    unfold depOk
    grind
  · refine round (k + 1) ⟨by omega, ?_⟩ (by omega) (by repeat' (first | exact le_nil _ | exact sle_nil _ | refine le_cons rfl ?_ | refine sle_cons rfl ?_)) (by repeat' (first | exact le_nil _ | exact sle_nil _ | refine le_cons rfl ?_ | refine sle_cons rfl ?_))
    rw [hangsTo_succ, ht, Bool.true_and]
    rename_i h1 h2 hc_ h3 h4 h5
    have e1 : ((k : Int) - 1).toNat = k - 1 := by omega
    simp only [Int.toNat_natCast, e1] at *
    unfold depOk
    grind
  · refine done_b rfl ?_
    have : k = l.length := by omega
    subst this
    exact ht.symm
end Go.Proofs.YtnghoibkjphfmaaGreat
