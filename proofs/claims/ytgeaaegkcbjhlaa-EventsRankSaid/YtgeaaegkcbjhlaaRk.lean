/- EventsRank, walked in plain data. -/
import Derived.Test.YtgeaaegkcbjhlaaPb
import Derived.Test.YtgeaaegkcbjhlaaFz
import Derived.Test.YtgeaaegkcbjhlaaRkP
import Derived.Test.YtgeaaegkcbjhlaaKw
import Derived.Test.YtgeaaegkcbjhlaaRd
set_option maxRecDepth 100000
set_option linter.unusedVariables false
set_option linter.unusedSimpArgs false
namespace Go.Proofs.Ytgeaaegkcbjhlaa
open Go.RowKit
def pairO (p : Int × Int) : List OV := [.int .i64 p.1, .int .i64 p.2]
theorem ups_succ (r : List Int) (l : List (Int × Int)) (k : Nat) (h : k < l.length) : ups r l (k + 1) = ups r l k ++ if upB r (l.getD k (0, 0)) = true then [l.getD k (0, 0)] else [] := by
  unfold ups
  rw [take_getD l (0, 0) k h, List.filter_append, List.filter_cons]
  rfl
theorem ups_len (r : List Int) (l : List (Int × Int)) (k : Nat) : (ups r l k).length ≤ k := Nat.le_trans (List.length_filter_le _ _) (by simp; omega)
theorem LeafR.pairs (l : List (Int × Int)) : LeafR (l.map pairO) := LeafR.map l fun a y hy => by
  simp only [pairO, List.mem_cons, List.not_mem_nil, or_false] at hy
  rcases hy with rfl | rfl <;> rfl
theorem acyclic_p' (n : Int) (rows : List (List TV)) (l : List (Int × Int)) (h : rows = l.map pairTV) (hl : l.length ≤ 4096) : Pure E.P 13 [.int .i64 n, .d (.sl 2 rows)] (.bool (acyI n l)) := by
  subst h; exact acyclic_p n l hl
set_option maxHeartbeats 4000000 in
theorem rank_p (r : List Int) (l : List (Int × Int)) (hr : r.length ≤ 1152921504606846976) (hl : l.length ≤ 1152921504606846976) :
    Pure E.P 5 [.d (ints r), .d (pairsTV l)] (.bool true) := by
  refine fn_of_awp Try.func5 (by decide) rfl Try.ntmps5 (Nat.le_of_ble_eq_true rfl) rfl ?_
  (with_reducible refine awp_seq ?_)
  ((with_reducible refine ao_region ?_ (fun _ => ?_)); exact rfl)
  ((with_reducible apply S_assign); exact rfl)
  (with_reducible refine ao_nil ?_)
  (with_reducible refine then_n ?_)
  iterate 2 (with_reducible refine awp_seq ?_)
  ((with_reducible refine ao_region ?_ (fun _ => ?_)); exact rfl)
  ((with_reducible apply S_move); exact rfl)
  ((with_reducible apply S_len); exact rfl; exact rfl; exact rfl; (first | exact len_ints _ | exact len_map _ _ _ | exact len_sl _ _ | exact len_os _ _ _ _ | exact len_vw _ _ _ _ _ | exact len_nil))
  ((with_reducible apply S_gtr); exact rfl; exact rfl)
  ((with_reducible apply S_move); exact rfl)
  ((with_reducible apply spec_f); exact rfl; exact rfl)
  ((with_reducible refine im_any (fun hc_ => ?_)); (try have hc1_ := (band hc_).1))
  ((with_reducible apply M_move); (first | (refine EvM.mb _ rfl ?_; first | assumption | exact rfl) | exact EvM.plain rfl rfl))
  ((with_reducible apply spec_f); exact rfl; exact rfl)
  ((with_reducible refine im_any (fun hc_ => ?_)); (try have hc1_ := (band hc_).1))
  ((with_reducible apply M_len); exact rfl; exact rfl; (first | (refine EvM.mb _ rfl ?_; first | assumption | exact rfl) | exact EvM.plain rfl rfl); (first | exact len_ints _ | exact len_map _ _ _ | exact len_sl _ _ | exact len_os _ _ _ _ | exact len_vw _ _ _ _ _ | exact len_nil))
  ((with_reducible apply spec_f); exact rfl; exact rfl)
  ((with_reducible refine im_any (fun hc_ => ?_)); (try have hc1_ := (band hc_).1))
  ((with_reducible apply M_gtr); (first | (refine EvM.mb _ rfl ?_; first | assumption | exact rfl) | exact EvM.plain rfl rfl); (first | (refine EvM.mb _ rfl ?_; first | assumption | exact rfl) | exact EvM.plain rfl rfl))
  ((with_reducible apply S_pick_or); (first | (refine EvM.mb _ rfl ?_; first | assumption | exact rfl) | exact EvM.plain rfl rfl); exact rfl; (first | (refine EvB.mb _ rfl ?_; first | exact fun h => h | exact fun h => bnot_mk h | exact fun h => band_mk (by assumption) h | exact fun h => band_mk (by assumption) (bnot_mk h) | (intro h; simp_all)) | exact EvB.plain rfl))
  (with_reducible refine ao_nil ?_)
  (with_reducible refine then_n ?_)
  ((with_reducible apply awp_cond); exact rfl)
  ((with_reducible refine im_ot (fun hc_ => ?_)); (try simp only [Bool.not_eq_true', Bool.not_eq_false', Bool.or_eq_true, Bool.and_eq_true, Bool.or_eq_false_iff, Bool.and_eq_false_iff, decide_eq_true_eq, decide_eq_false_iff_not, Decidable.not_not, Int.not_lt, Int.not_le, Bool.not_true, Bool.not_false, Bool.true_and, Bool.and_true, Bool.false_or, Bool.or_false, Bool.true_or, Bool.false_and, bne_eq_false_iff_eq, bne_iff_ne, beq_iff_eq, beq_eq_false_iff_ne, decide_eq_decide] at hc_))
  (with_reducible refine awp_seq ?_)
  ((with_reducible refine ao_region ?_ (fun _ => ?_)); exact rfl)
  ((first
    | ((with_reducible apply S_call); exact rfl; exact .fn _ _ _; exact rfl; (first | exact known_p | exact acyclic_p _ _ (by omega) | exact acyclic_p' _ _ (ups r l l.length ++ [(((ups r l l.length).getD 0 default).2, ((ups r l l.length).getD 0 default).1)]) (by rw [List.map_append]; rfl) (by simp; omega)))
    | ((with_reducible apply D_call); exact rfl; exact .fn _ _ _; exact rfl; (first | exact known_p | exact acyclic_p _ _ (by omega) | exact acyclic_p' _ _ (ups r l l.length ++ [(((ups r l l.length).getD 0 default).2, ((ups r l l.length).getD 0 default).1)]) (by rw [List.map_append]; rfl) (by simp; omega)))))
  ((with_reducible apply S_assign); exact rfl)
  (with_reducible refine ao_nil ?_)
  (with_reducible refine then_n ?_)
  (with_reducible refine awp_ret ?_)
  (with_reducible refine then_r ?_)
  rotate_left
  (with_reducible refine im_of ?_)
  iterate 2 ((with_reducible refine im_df (fun _ => ?_)); (try (exfalso; omega)))
  (with_reducible refine awp_skip ?_)
  (with_reducible refine then_n ?_)
  (with_reducible refine awp_seq ?_)
  ((with_reducible refine ao_region ?_ (fun _ => ?_)); exact rfl)
  ((with_reducible apply S_move); exact rfl)
  ((with_reducible apply S_len); exact rfl; exact rfl; exact rfl; (first | exact len_ints _ | exact len_map _ _ _ | exact len_sl _ _ | exact len_os _ _ _ _ | exact len_vw _ _ _ _ _ | exact len_nil))
  ((with_reducible apply S_assign); exact rfl)
  (with_reducible refine ao_nil ?_)
  (with_reducible refine then_n ?_)
  (with_reducible refine awp_seq ?_)
  ((with_reducible refine ao_region ?_ (fun _ => ?_)); exact rfl)
  ((with_reducible apply S_nilA); exact rfl; exact rfl; exact rfl; exact rfl)
  (with_reducible refine ao_nil ?_)
  (with_reducible refine then_n ?_)
  iterate 2 (with_reducible refine awp_seq ?_)
  ((with_reducible refine ao_region ?_ (fun _ => ?_)); exact rfl)
  ((with_reducible apply S_assign); exact rfl)
  (with_reducible refine ao_nil ?_)
  (with_reducible refine then_n ?_)
  (with_reducible refine awp_block ?_)
  rotate_left
  · exact done_b rfl rfl
  have hleaf := LeafR.pairs
  have hlen : r.length ≤ 30 ∧ l.length ≤ 120 := by omega
  rename_i v6 v7
  refine awp_mid (X := Stamp) (fun τ => tmL [(5, .int .i64 r.length), (6, .os 6 τ 2 (ups r l l.length).length)]) (fun τ => stL [(6, (τ, ⟨2, (ups r l l.length).map pairO⟩))]) (fun _ => True) ?_ ?_
  · refine awp_loop (X := Nat × Stamp) (fun p => tmL [(0, .d (ints r)), (1, .d (pairsTV l)), (5, .int .i64 r.length), (6, .os 6 p.2 2 (ups r l p.1).length), (7, .int .i64 p.1)]) (fun p => stL [(6, (p.2, ⟨2, (ups r l p.1).map pairO⟩))])
      (fun p => p.1 ≤ l.length) (fun p => l.length - p.1) (0, (v6, 0)) (Nat.zero_le _) (by repeat' (first | exact le_nil _ | exact sle_nil _ | refine le_cons rfl ?_ | refine sle_cons rfl ?_)) (by repeat' (first | exact le_nil _ | exact sle_nil _ | refine le_cons rfl ?_ | refine sle_cons rfl ?_)) ?_
    rintro ⟨i, τ⟩ hi
    dsimp only at hi ⊢
    have hul := ups_len r l i
    have hup := ups_succ r l i
    iterate 2 (with_reducible refine awp_seq ?_)
    ((with_reducible refine ao_region ?_ (fun _ => ?_)); exact rfl)
    iterate 2 ((with_reducible apply S_move); exact rfl)
    ((with_reducible apply S_len); exact rfl; exact rfl; exact rfl; (first | exact len_ints _ | exact len_map _ _ _ | exact len_sl _ _ | exact len_os _ _ _ _ | exact len_vw _ _ _ _ _ | exact len_nil))
    ((with_reducible apply S_lss); exact rfl; exact rfl)
    (with_reducible refine ao_nil ?_)
    (with_reducible refine then_n ?_)
    ((with_reducible apply awp_cond); exact rfl)
    ((with_reducible refine im_dt (fun _ => ?_)); (try (exfalso; omega)))
    (with_reducible refine awp_skip ?_)
    (with_reducible refine then_n ?_)
    (with_reducible refine awp_seq ?_)
    (with_reducible refine awp_block ?_)
    (with_reducible refine awp_seq ?_)
    ((with_reducible refine do_region (E := E) ?_ (fun _ => ?_)); exact rfl)
    iterate 2 ((with_reducible apply D_move); exact rfl)
    ((with_reducible apply D_indexAddr_sl); exact rfl; exact rfl; exact rfl; exact rfl; exact rfl; exact rfl; omega; (first | exact get_int (by omega) | exact get_map (by omega) default | assumption))
    ((with_reducible apply D_fieldAddr_pt); exact rfl; exact rfl; exact rfl; exact rfl; decide; exact rfl)
    ((with_reducible apply D_load_pt); exact rfl; exact rfl; exact rfl; exact rfl)
    iterate 2 ((with_reducible apply D_move); exact rfl)
    ((with_reducible apply D_indexAddr_sl); exact rfl; exact rfl; exact rfl; exact rfl; exact rfl; exact rfl; omega; (first | exact get_int (by omega) | exact get_map (by omega) default | assumption))
    ((with_reducible apply D_fieldAddr_pt); exact rfl; exact rfl; exact rfl; exact rfl; decide; exact rfl)
    ((with_reducible apply D_load_pt); exact rfl; exact rfl; exact rfl; exact rfl)
    iterate 2 ((with_reducible apply D_assign); exact rfl)
    ((with_reducible refine do_nil ?_ ?_); (first | ((try dsimp only [wkeys]); decide +kernel) | exact rfl))
    (with_reducible refine then_n ?_)
    (with_reducible refine awp_seq ?_)
    ((with_reducible refine do_region (E := E) ?_ (fun _ => ?_)); exact rfl)
    ((with_reducible apply D_move); exact rfl)
    ((with_reducible apply D_geq); exact rfl; exact rfl)
    ((with_reducible apply D_move); exact rfl)
    ((with_reducible apply dspec_t); exact rfl; exact rfl)
    ((with_reducible refine im_any (fun hc_ => ?_)); (try have hc1_ := (band hc_).1))
    ((with_reducible apply M_move); (first | (refine EvM.mb _ rfl ?_; first | assumption | exact rfl) | exact EvM.plain rfl rfl))
    ((with_reducible apply dspec_t); exact rfl; exact rfl)
    ((with_reducible refine im_any (fun hc_ => ?_)); (try have hc1_ := (band hc_).1))
    ((with_reducible apply M_move); (first | (refine EvM.mb _ rfl ?_; first | assumption | exact rfl) | exact EvM.plain rfl rfl))
    ((with_reducible apply dspec_t); exact rfl; exact rfl)
    ((with_reducible refine im_any (fun hc_ => ?_)); (try have hc1_ := (band hc_).1))
    ((with_reducible apply M_lss); (first | (refine EvM.mb _ rfl ?_; first | assumption | exact rfl) | exact EvM.plain rfl rfl); (first | (refine EvM.mb _ rfl ?_; first | assumption | exact rfl) | exact EvM.plain rfl rfl))
    ((with_reducible apply D_pick_and); (first | (refine EvM.mb _ rfl ?_; first | assumption | exact rfl) | exact EvM.plain rfl rfl); (first | (refine EvB.mb _ rfl ?_; first | exact fun h => h | exact fun h => bnot_mk h | exact fun h => band_mk (by assumption) h | exact fun h => band_mk (by assumption) (bnot_mk h) | (intro h; simp_all)) | exact EvB.plain rfl); exact rfl)
    ((with_reducible apply D_move); exact rfl)
    ((with_reducible apply dspec_t); exact rfl; exact rfl)
    ((with_reducible refine im_any (fun hc_ => ?_)); (try have hc1_ := (band hc_).1))
    ((with_reducible apply M_move); (first | (refine EvM.mb _ rfl ?_; first | assumption | exact rfl) | exact EvM.plain rfl rfl))
    ((with_reducible apply dspec_t); exact rfl; exact rfl)
    ((with_reducible refine im_any (fun hc_ => ?_)); (try have hc1_ := (band hc_).1))
    ((with_reducible apply M_geq); (first | (refine EvM.mb _ rfl ?_; first | assumption | exact rfl) | exact EvM.plain rfl rfl); (first | (refine EvM.mb _ rfl ?_; first | assumption | exact rfl) | exact EvM.plain rfl rfl))
    ((with_reducible apply D_pick_and); (first | (refine EvM.mb _ rfl ?_; first | assumption | exact rfl) | exact EvM.plain rfl rfl); (first | (refine EvB.mb _ rfl ?_; first | exact fun h => h | exact fun h => bnot_mk h | exact fun h => band_mk (by assumption) h | exact fun h => band_mk (by assumption) (bnot_mk h) | (intro h; simp_all)) | exact EvB.plain rfl); exact rfl)
    ((with_reducible apply D_move); exact rfl)
    ((with_reducible apply dspec_t); exact rfl; exact rfl)
    ((with_reducible refine im_any (fun hc_ => ?_)); (try have hc1_ := (band hc_).1))
    ((with_reducible apply M_move); (first | (refine EvM.mb _ rfl ?_; first | assumption | exact rfl) | exact EvM.plain rfl rfl))
    ((with_reducible apply dspec_t); exact rfl; exact rfl)
    ((with_reducible refine im_any (fun hc_ => ?_)); (try have hc1_ := (band hc_).1))
    ((with_reducible apply M_move); (first | (refine EvM.mb _ rfl ?_; first | assumption | exact rfl) | exact EvM.plain rfl rfl))
    ((with_reducible apply dspec_t); exact rfl; exact rfl)
    ((with_reducible refine im_any (fun hc_ => ?_)); (try have hc1_ := (band hc_).1))
    ((with_reducible apply M_lss); (first | (refine EvM.mb _ rfl ?_; first | assumption | exact rfl) | exact EvM.plain rfl rfl); (first | (refine EvM.mb _ rfl ?_; first | assumption | exact rfl) | exact EvM.plain rfl rfl))
    ((with_reducible apply D_pick_and); (first | (refine EvM.mb _ rfl ?_; first | assumption | exact rfl) | exact EvM.plain rfl rfl); (first | (refine EvB.mb _ rfl ?_; first | exact fun h => h | exact fun h => bnot_mk h | exact fun h => band_mk (by assumption) h | exact fun h => band_mk (by assumption) (bnot_mk h) | (intro h; simp_all)) | exact EvB.plain rfl); exact rfl)
    ((with_reducible apply D_move); exact rfl)
    ((with_reducible apply dspec_t); exact rfl; exact rfl)
    ((with_reducible refine im_any (fun hc_ => ?_)); (try have hc1_ := (band hc_).1))
    ((with_reducible apply M_move); (first | (refine EvM.mb _ rfl ?_; first | assumption | exact rfl) | exact EvM.plain rfl rfl))
    ((with_reducible apply dspec_t); exact rfl; exact rfl)
    ((with_reducible refine im_any (fun hc_ => ?_)); (try have hc1_ := (band hc_).1))
    ((with_reducible apply M_move); (first | (refine EvM.mb _ rfl ?_; first | assumption | exact rfl) | exact EvM.plain rfl rfl))
    ((with_reducible apply dspec_t); exact rfl; exact rfl)
    ((with_reducible refine im_any (fun hc_ => ?_)); (try have hc1_ := (band hc_).1))
    ((have hp_ := hc_; (try simp only [Bool.not_eq_true', Bool.not_eq_false', Bool.or_eq_true, Bool.and_eq_true, Bool.or_eq_false_iff, Bool.and_eq_false_iff, decide_eq_true_eq, decide_eq_false_iff_not, Decidable.not_not, Int.not_lt, Int.not_le, Bool.not_true, Bool.not_false, Bool.true_and, Bool.and_true, Bool.false_or, Bool.or_false, Bool.true_or, Bool.false_and, bne_eq_false_iff_eq, bne_iff_ne, beq_iff_eq, beq_eq_false_iff_ne, decide_eq_decide] at hp_)))
    ((with_reducible apply M_indexAddr_sl); exact rfl; exact rfl; exact rfl; exact rfl; (first | (refine EvM.mb _ rfl ?_; first | assumption | exact rfl) | exact EvM.plain rfl rfl); (first | (refine EvM.mb _ rfl ?_; first | assumption | exact rfl) | exact EvM.plain rfl rfl); omega; (first | exact get_int (by omega) | exact get_map (by omega) default | assumption))
    ((with_reducible apply dspec_t); exact rfl; exact rfl)
    ((with_reducible refine im_any (fun hc_ => ?_)); (try have hc1_ := (band hc_).1))
    ((with_reducible apply M_load_pt); exact rfl; exact rfl; (first | (refine EvM.mb _ rfl ?_; first | assumption | exact rfl) | exact EvM.plain rfl rfl); exact rfl)
    ((with_reducible apply dspec_t); exact rfl; exact rfl)
    ((with_reducible refine im_any (fun hc_ => ?_)); (try have hc1_ := (band hc_).1))
    ((with_reducible apply M_move); (first | (refine EvM.mb _ rfl ?_; first | assumption | exact rfl) | exact EvM.plain rfl rfl))
    ((with_reducible apply dspec_t); exact rfl; exact rfl)
    ((with_reducible refine im_any (fun hc_ => ?_)); (try have hc1_ := (band hc_).1))
    ((with_reducible apply M_move); (first | (refine EvM.mb _ rfl ?_; first | assumption | exact rfl) | exact EvM.plain rfl rfl))
    ((with_reducible apply dspec_t); exact rfl; exact rfl)
    ((with_reducible refine im_any (fun hc_ => ?_)); (try have hc1_ := (band hc_).1))
    ((have hp_ := hc_; (try simp only [Bool.not_eq_true', Bool.not_eq_false', Bool.or_eq_true, Bool.and_eq_true, Bool.or_eq_false_iff, Bool.and_eq_false_iff, decide_eq_true_eq, decide_eq_false_iff_not, Decidable.not_not, Int.not_lt, Int.not_le, Bool.not_true, Bool.not_false, Bool.true_and, Bool.and_true, Bool.false_or, Bool.or_false, Bool.true_or, Bool.false_and, bne_eq_false_iff_eq, bne_iff_ne, beq_iff_eq, beq_eq_false_iff_ne, decide_eq_decide] at hp_)))
    ((with_reducible apply M_indexAddr_sl); exact rfl; exact rfl; exact rfl; exact rfl; (first | (refine EvM.mb _ rfl ?_; first | assumption | exact rfl) | exact EvM.plain rfl rfl); (first | (refine EvM.mb _ rfl ?_; first | assumption | exact rfl) | exact EvM.plain rfl rfl); omega; (first | exact get_int (by omega) | exact get_map (by omega) default | assumption))
    ((with_reducible apply dspec_t); exact rfl; exact rfl)
    ((with_reducible refine im_any (fun hc_ => ?_)); (try have hc1_ := (band hc_).1))
    ((with_reducible apply M_load_pt); exact rfl; exact rfl; (first | (refine EvM.mb _ rfl ?_; first | assumption | exact rfl) | exact EvM.plain rfl rfl); exact rfl)
    ((with_reducible apply dspec_t); exact rfl; exact rfl)
    ((with_reducible refine im_any (fun hc_ => ?_)); (try have hc1_ := (band hc_).1))
    ((with_reducible apply M_lss); (first | (refine EvM.mb _ rfl ?_; first | assumption | exact rfl) | exact EvM.plain rfl rfl); (first | (refine EvM.mb _ rfl ?_; first | assumption | exact rfl) | exact EvM.plain rfl rfl))
    ((with_reducible apply D_pick_and); (first | (refine EvM.mb _ rfl ?_; first | assumption | exact rfl) | exact EvM.plain rfl rfl); (first | (refine EvB.mb _ rfl ?_; first | exact fun h => h | exact fun h => bnot_mk h | exact fun h => band_mk (by assumption) h | exact fun h => band_mk (by assumption) (bnot_mk h) | (intro h; simp_all)) | exact EvB.plain rfl); exact rfl)
    ((with_reducible refine do_nil ?_ ?_); (first | ((try dsimp only [wkeys]); decide +kernel) | exact rfl))
    (with_reducible refine then_n ?_)
    ((with_reducible apply awp_cond); exact rfl)
    iterate 4 (with_reducible refine im_at ?_)
    iterate 5 ((with_reducible refine im_dt (fun _ => ?_)); (try (exfalso; omega)))
    ((with_reducible refine ao_region ?_ (fun _ => ?_)); exact rfl)
    iterate 3 ((with_reducible apply S_move); exact rfl)
    ((with_reducible apply S_indexAddr_sl); exact rfl; exact rfl; exact rfl; exact rfl; exact rfl; exact rfl; omega; (first | exact get_int (by omega) | exact get_map (by omega) default | assumption))
    ((with_reducible apply S_load_ptA); exact rfl; exact rfl; exact rfl; exact Nat.le_of_ble_eq_true rfl)
    ((with_reducible apply S_buildSlice); exact rfl; exact rfl; exact rfl; decide; decide; decide; exact rfl; exact rfl)
    ((with_reducible apply S_append); exact rfl; exact rfl; exact rfl; exact rfl; decide; exact rfl; exact rfl; (first | exact .os _ _ _ _ rfl (by first | rfl | (first | omega | (simp only [List.length_append, List.length_map, List.length_take, List.length_drop, List.length_cons, List.length_nil, List.length_replicate, chop_length] <;> omega))) | exact .nil); (first | exact .os _ _ _ _ rfl (by first | rfl | (first | omega | (simp only [List.length_append, List.length_map, List.length_take, List.length_drop, List.length_cons, List.length_nil, List.length_replicate, chop_length] <;> omega))) | exact .vw _ _ _ _ _ rfl (by (first | omega | (simp only [List.length_append, List.length_map, List.length_take, List.length_drop, List.length_cons, List.length_nil, List.length_replicate, chop_length] <;> omega))) | exact .nil | exact .sl _); (repeat (first | exact LeafR.nil | exact LeafR.cells _ _ | exact LeafR.d _ | (apply LeafR.one; exact rfl) | exact hleaf _ | refine LeafR.take _ ?_ | refine LeafR.drop _ ?_ | refine LeafR.app ?_ ?_ | (apply LeafR.lit; exact rfl) | assumption)); (show _ * (Nat.succ _) ≤ _; (first | omega | (simp only [List.length_append, List.length_map, List.length_take, List.length_drop, List.length_cons, List.length_nil, List.length_replicate, chop_length] <;> omega))); (unfold maxLen; (first | omega | (simp only [List.length_append, List.length_map, List.length_take, List.length_drop, List.length_cons, List.length_nil, List.length_replicate, chop_length] <;> omega))))
    ((with_reducible apply S_ren); exact rfl; exact rfl)
    (with_reducible refine ao_nil ?_)
    (with_reducible refine blk_n ?_)
    (with_reducible refine then_n ?_)
    ((with_reducible refine ao_region ?_ (fun _ => ?_)); exact rfl)
    ((with_reducible apply S_move); exact rfl)
    ((with_reducible apply S_add64); exact rfl; exact rfl; omega)
    ((with_reducible apply S_assign); exact rfl)
    (with_reducible refine ao_nil ?_)
    (with_reducible refine then_n ?_)
    rotate_left
    ((with_reducible refine im_af (fun hc_ => ?_)); (try simp only [Bool.not_eq_true', Bool.not_eq_false', Bool.or_eq_true, Bool.and_eq_true, Bool.or_eq_false_iff, Bool.and_eq_false_iff, decide_eq_true_eq, decide_eq_false_iff_not, Decidable.not_not, Int.not_lt, Int.not_le, Bool.not_true, Bool.not_false, Bool.true_and, Bool.and_true, Bool.false_or, Bool.or_false, Bool.true_or, Bool.false_and, bne_eq_false_iff_eq, bne_iff_ne, beq_iff_eq, beq_eq_false_iff_ne, decide_eq_decide] at hc_))
    (with_reducible refine awp_skip ?_)
    (with_reducible refine blk_n ?_)
    (with_reducible refine then_n ?_)
    ((with_reducible refine ao_region ?_ (fun _ => ?_)); exact rfl)
    ((with_reducible apply S_move); exact rfl)
    ((with_reducible apply S_add64); exact rfl; exact rfl; omega)
    ((with_reducible apply S_assign); exact rfl)
    (with_reducible refine ao_nil ?_)
    (with_reducible refine then_n ?_)
    rotate_left
    ((with_reducible refine im_df (fun _ => ?_)); (try (exfalso; omega)))
    (with_reducible refine awp_exit ?_)
    iterate 2 (with_reducible refine then_x ?_)
    (with_reducible refine blk_x ?_)
    (with_reducible refine then_n ?_)
    rotate_left
    · rename_i v _ g1 g2 g3 g4 g5 v2 _
      have hu : upB r (l.getD i (0, 0)) = true := by
        rw [Int.toNat_natCast] at g1 g2 g3 g4 g5
        unfold upB
        simp only [Bool.and_eq_true, decide_eq_true_eq]
        exact ⟨⟨⟨⟨g1, g2⟩, g3⟩, g4⟩, g5⟩
      have e := hup (by omega)
      rw [if_pos hu] at e
      refine round' (i + 1, ?st) ?_ ?_ ?_ ?_
      case st => exact (v2, 7)
      · dsimp only; omega
      · dsimp only; omega
      · refine le_cons rfl (le_cons rfl (le_cons rfl (le_cons_os rfl ?_ (by repeat' (first | exact le_nil _ | exact sle_nil _ | refine le_cons rfl ?_ | refine sle_cons rfl ?_)))))
        show (List.map pairO (ups r l i)).length + 1 = _
        dsimp only; rw [e]; simp
      · refine sle_cons' rfl ?_ (by repeat' (first | exact le_nil _ | exact sle_nil _ | refine le_cons rfl ?_ | refine sle_cons rfl ?_))
        show List.map pairO (ups r l i) ++ [pairO (l.getD i (0, 0))] = _
        dsimp only; rw [e, List.map_append]; rfl
    · have hu : ¬ upB r (l.getD i (0, 0)) = true := by
        rw [Int.toNat_natCast] at hc_
        have hc2 := hc_
        change ((((l.getD i (0, 0)).1 < 0 ∨ (r.length : Int) ≤ (l.getD i (0, 0)).1) ∨ (l.getD i (0, 0)).2 < 0) ∨ (r.length : Int) ≤ (l.getD i (0, 0)).2) ∨ r.getD (l.getD i (0, 0)).2.toNat 0 ≤ r.getD (l.getD i (0, 0)).1.toNat 0 at hc2
        unfold upB
        simp only [Bool.and_eq_true, decide_eq_true_eq]
        omega
      have e := hup (by omega)
      rw [if_neg hu, List.append_nil] at e
      refine round' (i + 1, τ) (by dsimp only; omega) (by dsimp only; omega) (by repeat' (first | exact le_nil _ | exact sle_nil _ | refine le_cons rfl ?_ | refine sle_cons rfl ?_ | (refine le_cons_os rfl ?_ ?_; (dsimp only; rw [e])) | (refine le_cons_int rfl ?_ ?_; (dsimp only; rw [e])) | (refine sle_cons' rfl ?_ ?_; (dsimp only; rw [e])))) (by repeat' (first | exact le_nil _ | exact sle_nil _ | refine le_cons rfl ?_ | refine sle_cons rfl ?_ | (refine le_cons_os rfl ?_ ?_; (dsimp only; rw [e])) | (refine le_cons_int rfl ?_ ?_; (dsimp only; rw [e])) | (refine sle_cons' rfl ?_ ?_; (dsimp only; rw [e]))))
    · have e : i = l.length := by omega
      subst e
      exact mid τ trivial (by repeat' (first | exact le_nil _ | exact sle_nil _ | refine le_cons rfl ?_ | refine sle_cons rfl ?_)) (by repeat' (first | exact le_nil _ | exact sle_nil _ | refine le_cons rfl ?_ | refine sle_cons rfl ?_))
  intro τ _
  refine awp_freeze 6 τ 2 ((ups r l l.length).map pairTV) (tmL [(5, .int .i64 r.length), (6, .d (pairsTV (ups r l l.length)))]) (stL []) ?_ (fz_cons rfl (.same _) (fz_cons rfl (froz_os (by simp)) fz_nil)) fs_nil ?_
  · show some (τ, Row.mk 2 ((ups r l l.length).map pairO)) = _
    rw [List.map_map]; rfl
  have hul := ups_len r l l.length
  have hfm : Frozen 10 := trivial
  have hfz : ∀ l : List (Int × Int), FzR (l.map pairO) (l.map pairTV) := fun l => FzR.of (f := pairO) (g := pairTV) (fun _ => rfl) l
  have hup := acyI_up (L := ups r l l.length) (by omega) (ups_up r l l.length)
  iterate 2 (with_reducible refine awp_seq ?_)
  ((with_reducible refine ao_region ?_ (fun _ => ?_)); exact rfl)
  iterate 2 ((with_reducible apply S_move); exact rfl)
  ((first
    | ((with_reducible apply S_call); exact rfl; exact .fn _ _ _; exact rfl; (first | exact known_p | exact acyclic_p _ _ (by omega) | exact acyclic_p' _ _ (ups r l l.length ++ [(((ups r l l.length).getD 0 default).2, ((ups r l l.length).getD 0 default).1)]) (by rw [List.map_append]; rfl) (by simp; omega)))
    | ((with_reducible apply D_call); exact rfl; exact .fn _ _ _; exact rfl; (first | exact known_p | exact acyclic_p _ _ (by omega) | exact acyclic_p' _ _ (ups r l l.length ++ [(((ups r l l.length).getD 0 default).2, ((ups r l l.length).getD 0 default).1)]) (by rw [List.map_append]; rfl) (by simp; omega)))))
  ((with_reducible apply S_not); exact rfl)
  (with_reducible refine ao_nil ?_)
  (with_reducible refine then_n ?_)
  ((with_reducible apply awp_cond); exact rfl)
  (with_reducible refine im_bt ?_)
  (with_reducible refine im_vf (fun _ => ?_))
  (with_reducible refine awp_seq ?_)
  ((with_reducible refine ao_region ?_ (fun _ => ?_)); exact rfl)
  ((with_reducible apply S_assign); exact rfl)
  (with_reducible refine ao_nil ?_)
  (with_reducible refine then_n ?_)
  (with_reducible refine awp_ret ?_)
  (with_reducible refine then_r ?_)
  rotate_left
  (with_reducible refine im_bf ?_)
  (with_reducible refine im_vt (fun _ => ?_))
  (with_reducible refine awp_skip ?_)
  (with_reducible refine then_n ?_)
  iterate 2 (with_reducible refine awp_seq ?_)
  ((with_reducible refine ao_region ?_ (fun _ => ?_)); exact rfl)
  ((with_reducible apply S_move); exact rfl)
  ((with_reducible apply S_len); exact rfl; exact rfl; exact rfl; (first | exact len_ints _ | exact len_map _ _ _ | exact len_sl _ _ | exact len_os _ _ _ _ | exact len_vw _ _ _ _ _ | exact len_nil))
  ((with_reducible apply S_eql); exact rfl; exact rfl)
  (with_reducible refine ao_nil ?_)
  (with_reducible refine then_n ?_)
  ((with_reducible apply awp_cond); exact rfl)
  ((with_reducible refine im_dt (fun _ => ?_)); (try (exfalso; omega)))
  (with_reducible refine awp_seq ?_)
  ((with_reducible refine ao_region ?_ (fun _ => ?_)); exact rfl)
  ((first
    | ((with_reducible apply S_call); exact rfl; exact .fn _ _ _; exact rfl; (first | exact known_p | exact acyclic_p _ _ (by omega) | exact acyclic_p' _ _ (ups r l l.length ++ [(((ups r l l.length).getD 0 default).2, ((ups r l l.length).getD 0 default).1)]) (by rw [List.map_append]; rfl) (by simp; omega)))
    | ((with_reducible apply D_call); exact rfl; exact .fn _ _ _; exact rfl; (first | exact known_p | exact acyclic_p _ _ (by omega) | exact acyclic_p' _ _ (ups r l l.length ++ [(((ups r l l.length).getD 0 default).2, ((ups r l l.length).getD 0 default).1)]) (by rw [List.map_append]; rfl) (by simp; omega)))))
  ((with_reducible apply S_assign); exact rfl)
  (with_reducible refine ao_nil ?_)
  (with_reducible refine then_n ?_)
  (with_reducible refine awp_ret ?_)
  (with_reducible refine then_r ?_)
  rotate_left
  ((with_reducible refine im_df (fun _ => ?_)); (try (exfalso; omega)))
  (with_reducible refine awp_skip ?_)
  (with_reducible refine then_n ?_)
  (with_reducible refine awp_seq ?_)
  ((with_reducible refine do_region (E := E) ?_ (fun _ => ?_)); exact rfl)
  ((with_reducible apply D_move); exact rfl)
  ((with_reducible apply D_append); exact rfl; exact rfl; exact rfl; exact rfl; decide; exact rfl; exact rfl; (first | exact .os _ _ _ _ rfl (by first | rfl | (first | omega | (simp only [List.length_append, List.length_map, List.length_take, List.length_drop, List.length_cons, List.length_nil, List.length_replicate, chop_length] <;> omega))) | exact .nil); (first | exact .os _ _ _ _ rfl (by first | rfl | (first | omega | (simp only [List.length_append, List.length_map, List.length_take, List.length_drop, List.length_cons, List.length_nil, List.length_replicate, chop_length] <;> omega))) | exact .vw _ _ _ _ _ rfl (by (first | omega | (simp only [List.length_append, List.length_map, List.length_take, List.length_drop, List.length_cons, List.length_nil, List.length_replicate, chop_length] <;> omega))) | exact .nil | exact .sl _); (repeat (first | exact LeafR.nil | exact LeafR.cells _ _ | exact LeafR.d _ | (apply LeafR.one; exact rfl) | exact hleaf _ | refine LeafR.take _ ?_ | refine LeafR.drop _ ?_ | refine LeafR.app ?_ ?_ | (apply LeafR.lit; exact rfl) | assumption)); (show _ * (Nat.succ _) ≤ _; (first | omega | (simp only [List.length_append, List.length_map, List.length_take, List.length_drop, List.length_cons, List.length_nil, List.length_replicate, chop_length] <;> omega))); (unfold maxLen; (first | omega | (simp only [List.length_append, List.length_map, List.length_take, List.length_drop, List.length_cons, List.length_nil, List.length_replicate, chop_length] <;> omega))))
  ((with_reducible apply D_move); exact rfl)
  ((with_reducible apply D_indexAddr_sl); exact rfl; exact rfl; exact rfl; exact rfl; exact rfl; exact rfl; omega; (first | exact get_int (by omega) | exact get_map (by omega) default | assumption))
  ((with_reducible apply D_fieldAddr_pt); exact rfl; exact rfl; exact rfl; exact rfl; decide; exact rfl)
  ((with_reducible apply D_load_pt); exact rfl; exact rfl; exact rfl; exact rfl)
  ((with_reducible apply D_move); exact rfl)
  ((with_reducible apply D_indexAddr_sl); exact rfl; exact rfl; exact rfl; exact rfl; exact rfl; exact rfl; omega; (first | exact get_int (by omega) | exact get_map (by omega) default | assumption))
  ((with_reducible apply D_fieldAddr_pt); exact rfl; exact rfl; exact rfl; exact rfl; decide; exact rfl)
  ((with_reducible apply D_load_pt); exact rfl; exact rfl; exact rfl; exact rfl)
  ((with_reducible apply D_build); exact rfl; exact rfl; exact rfl; exact rfl; exact rfl)
  ((with_reducible apply D_buildSlice); exact rfl; exact rfl; exact rfl; decide; decide; decide; exact rfl; exact rfl)
  ((with_reducible apply D_append); exact rfl; exact rfl; exact rfl; exact rfl; decide; exact rfl; exact rfl; (first | exact .os _ _ _ _ rfl (by first | rfl | (first | omega | (simp only [List.length_append, List.length_map, List.length_take, List.length_drop, List.length_cons, List.length_nil, List.length_replicate, chop_length] <;> omega))) | exact .nil); (first | exact .os _ _ _ _ rfl (by first | rfl | (first | omega | (simp only [List.length_append, List.length_map, List.length_take, List.length_drop, List.length_cons, List.length_nil, List.length_replicate, chop_length] <;> omega))) | exact .vw _ _ _ _ _ rfl (by (first | omega | (simp only [List.length_append, List.length_map, List.length_take, List.length_drop, List.length_cons, List.length_nil, List.length_replicate, chop_length] <;> omega))) | exact .nil | exact .sl _); (repeat (first | exact LeafR.nil | exact LeafR.cells _ _ | exact LeafR.d _ | (apply LeafR.one; exact rfl) | exact hleaf _ | refine LeafR.take _ ?_ | refine LeafR.drop _ ?_ | refine LeafR.app ?_ ?_ | (apply LeafR.lit; exact rfl) | assumption)); (show _ * (Nat.succ _) ≤ _; (first | omega | (simp only [List.length_append, List.length_map, List.length_take, List.length_drop, List.length_cons, List.length_nil, List.length_replicate, chop_length] <;> omega))); (unfold maxLen; (first | omega | (simp only [List.length_append, List.length_map, List.length_take, List.length_drop, List.length_cons, List.length_nil, List.length_replicate, chop_length] <;> omega))))
  ((with_reducible apply D_ren); exact rfl; exact rfl)
  ((with_reducible refine do_nil ?_ ?_); (first | ((try dsimp only [wkeys]); decide +kernel) | exact rfl))
  (with_reducible refine then_n ?_)
  (with_reducible refine awp_seq ?_)
  ((with_reducible refine ao_region ?_ (fun _ => ?_)); exact rfl)
  ((with_reducible apply S_move); exact rfl)
  ((with_reducible apply S_mvfz); assumption; exact rfl; exact rfl; (repeat (first | exact FzR.nil | exact FzR.ints _ | exact FzR.d _ | exact hfz _ | exact FzC.map _ | exact FzC.nil | apply FzR.take | apply FzR.drop | apply FzR.app | apply FzR.cons | apply FzC.cons | assumption)); (first | rfl | (first | omega | (simp only [List.length_append, List.length_map, List.length_take, List.length_drop, List.length_cons, List.length_nil, List.length_replicate, chop_length] <;> omega))))
  ((first
    | ((with_reducible apply S_call); exact rfl; exact .fn _ _ _; exact rfl; (first | exact known_p | exact acyclic_p _ _ (by omega) | exact acyclic_p' _ _ (ups r l l.length ++ [(((ups r l l.length).getD 0 default).2, ((ups r l l.length).getD 0 default).1)]) (by rw [List.map_append]; rfl) (by simp; omega)))
    | ((with_reducible apply D_call); exact rfl; exact .fn _ _ _; exact rfl; (first | exact known_p | exact acyclic_p _ _ (by omega) | exact acyclic_p' _ _ (ups r l l.length ++ [(((ups r l l.length).getD 0 default).2, ((ups r l l.length).getD 0 default).1)]) (by rw [List.map_append]; rfl) (by simp; omega)))))
  ((with_reducible apply S_not); exact rfl)
  ((with_reducible apply S_move); exact rfl)
  ((with_reducible apply spec_t); exact rfl; exact rfl)
  ((with_reducible refine im_any (fun hc_ => ?_)); (try have hc1_ := (band hc_).1))
  ((have hp_ := hc_; (try simp only [Bool.not_eq_true', Bool.not_eq_false', Bool.or_eq_true, Bool.and_eq_true, Bool.or_eq_false_iff, Bool.and_eq_false_iff, decide_eq_true_eq, decide_eq_false_iff_not, Decidable.not_not, Int.not_lt, Int.not_le, Bool.not_true, Bool.not_false, Bool.true_and, Bool.and_true, Bool.false_or, Bool.or_false, Bool.true_or, Bool.false_and, bne_eq_false_iff_eq, bne_iff_ne, beq_iff_eq, beq_eq_false_iff_ne, decide_eq_decide] at hp_)))
  (((with_reducible apply M_call); exact .plain rfl rfl; exact .fn _ _ _; (repeat (first | exact EvsM.nil | (apply EvsM.cons; first | (refine EvM.mb _ rfl ?_; first | assumption | exact rfl) | exact EvM.plain rfl rfl))); (first | exact known_p)))
  ((with_reducible apply S_pick_and); (first | (refine EvM.mb _ rfl ?_; first | assumption | exact rfl) | exact EvM.plain rfl rfl); (first | (refine EvB.mb _ rfl ?_; first | exact fun h => h | exact fun h => bnot_mk h | exact fun h => band_mk (by assumption) h | exact fun h => band_mk (by assumption) (bnot_mk h) | (intro h; simp_all)) | exact EvB.plain rfl); exact rfl)
  ((with_reducible apply S_assign); exact rfl)
  (with_reducible refine ao_nil ?_)
  (with_reducible refine then_n ?_)
  (with_reducible refine awp_ret ?_)
  rotate_left
  · rename_i h _
    rw [hup] at h; cases h
  · exact done_b rfl rfl
  · rename_i h _ _
    have hm : (ups r l l.length).getD 0 default ∈ ups r l l.length := by
      rw [List.getD_eq_getElem?_getD, List.getElem?_eq_getElem (by omega)]
      exact List.getElem_mem _
    have hb := acyI_back (L := ups r l l.length) (by omega) (ups_up r l l.length) hm
    exact done_b rfl (by rw [hb]; rfl)
end Go.Proofs.Ytgeaaegkcbjhlaa
