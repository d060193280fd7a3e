/- The reference's addresses, walked in plain data. -/
import Derived.Test.YtgeaaegkcbjhlaaRs
import Derived.Test.YtgeaaegkcbjhlaaVk
import Derived.Test.YtgeaaegkcbjhlaaAddr
set_option maxRecDepth 100000
set_option linter.unusedVariables false
set_option linter.unusedSimpArgs false
namespace Go.Proofs.Ytgeaaegkcbjhlaa
open Go.RowKit
theorem addIn_drop (a : Int) (l : List Int) (k : Nat) (h : k < l.length) : addIn a (l.drop k) = if l.getD k 0 < a then l.getD k 0 :: addIn a (l.drop (k + 1)) else if l.getD k 0 = a then l.drop k else a :: l.drop k := by
  have e : l.drop k = l.getD k 0 :: l.drop (k + 1) := by
    rw [List.drop_eq_getElem_cons h, List.getD_eq_getElem?_getD, List.getElem?_eq_getElem h]; rfl
  rw [e, addIn]
theorem take_getD {α : Type} (l : List α) (d : α) (k : Nat) (h : k < l.length) : l.take (k + 1) = l.take k ++ [l.getD k d] := by
  rw [List.take_succ_eq_append_getElem h, List.getD_eq_getElem?_getD, List.getElem?_eq_getElem h]; rfl
theorem addrsTo_take (es : List Ev) (i : Nat) (h : i < es.length) : addrsTo (es.take (i + 1)) = if (es.getD i default).kind = 4 then addrsTo (es.take i) else addIn (es.getD i default).addr (addrsTo (es.take i)) := by
  rw [take_getD es default i h, addrsTo_snoc]
theorem addrsTo_take_len (es : List Ev) (i : Nat) : (addrsTo (es.take i)).length ≤ i := Nat.le_trans (addrsTo_len _) (by simp; omega)
theorem rows_mid (f : Int → List OV) (l : List Int) (k : Nat) (a : Int) : [] ++ ((l.map f).drop 0).take ((k : Int).toNat - 0) ++ [f a] ++ ((l.map f).drop (k : Int).toNat).take (l.length - (k : Int).toNat) = (l.take k ++ a :: l.drop k).map f := by
  simp [List.take_of_length_le]
set_option maxHeartbeats 4000000 in
theorem raddrs_p (x : Ex) (hx : x.evs.length ≤ 65536) :
    Own E.P 30 [exOV x] 1 ((addrsTo x.evs).map (cellO .u32)) := by
  refine fn_of_awp Try.func30 (by decide) rfl Try.ntmps30 (Nat.le_of_ble_eq_true rfl) rfl ?_
  (with_reducible refine awp_seq ?_)
  ((with_reducible refine ao_region ?_ (fun _ => ?_)); exact rfl)
  ((with_reducible apply S_box); exact rfl; exact rfl; exact rfl)
  ((with_reducible apply S_nilA); exact rfl; exact rfl; exact rfl; exact rfl)
  (with_reducible refine ao_nil ?_)
  (with_reducible refine then_n ?_)
  (with_reducible refine awp_seq ?_)
  ((with_reducible refine ao_region ?_ (fun _ => ?_)); exact rfl)
  ((with_reducible apply S_nilA); exact rfl; exact rfl; exact rfl; exact rfl)
  (with_reducible refine ao_nil ?_)
  (with_reducible refine then_n ?_)
  iterate 2 (with_reducible refine awp_seq ?_)
  ((with_reducible refine ao_region ?_ (fun _ => ?_)); exact rfl)
  ((with_reducible apply S_assign); exact rfl)
  (with_reducible refine ao_nil ?_)
  (with_reducible refine then_n ?_)
  (with_reducible refine awp_block ?_)
  rotate_left
  rename_i v1 v3 v4
  refine awp_loop (X := Nat × Stamp × List Int) (fun p => tmL [(1, .lo 1 (v1, 0) 3 0 0), (3, .os 3 p.2.1 1 p.2.2.length), (4, .int .i64 p.1)]) (fun p => stL [(1, ((v1, 0), ⟨3, [(exOV x).cells]⟩)), (3, (p.2.1, ⟨1, p.2.2.map (cellO .u32)⟩))])
    (fun p => p.1 ≤ x.evs.length ∧ p.2.2 = addrsTo (x.evs.take p.1)) (fun p => x.evs.length - p.1) (0, (v3, 0), []) ⟨Nat.zero_le _, rfl⟩ (by repeat' (first | exact le_nil _ | exact sle_nil _ | refine le_cons rfl ?_ | refine sle_cons rfl ?_)) (by repeat' (first | exact le_nil _ | exact sle_nil _ | refine le_cons rfl ?_ | refine sle_cons rfl ?_)) ?_
  rintro ⟨i, τ, l⟩ ⟨hi, hl⟩
  dsimp only at hi hl ⊢
  have hlen : l.length ≤ 65536 := by rw [hl]; exact Nat.le_trans (addrsTo_take_len _ _) (by omega)
  iterate 2 (with_reducible refine awp_seq ?_)
  ((with_reducible refine ao_region ?_ (fun _ => ?_)); exact rfl)
  ((with_reducible apply S_move); exact rfl)
  ((with_reducible apply S_fieldAddr_lo); exact rfl; exact rfl; exact rfl; exact rfl; decide; exact rfl)
  ((with_reducible apply S_load_lo); exact rfl; exact rfl; exact rfl; exact rfl; (first | exact rfl | exact get_map (by omega) (0 : Int) | exact get_map (by omega) default); exact rfl)
  ((with_reducible apply S_len); exact rfl; exact rfl; exact rfl; (first | exact len_ints _ | exact len_map _ _ _ | exact len_sl _ _ | exact len_os _ _ _ _ | exact len_vw _ _ _ _ _ | exact len_nil))
  ((with_reducible apply S_lss); exact rfl; exact rfl)
  (with_reducible refine ao_nil ?_)
  (with_reducible refine then_n ?_)
  ((with_reducible apply awp_cond); exact rfl)
  ((with_reducible refine im_dt (fun _ => ?_)); (try (exfalso; omega)))
  (with_reducible refine awp_skip ?_)
  (with_reducible refine then_n ?_)
  (with_reducible refine awp_seq ?_)
  (with_reducible refine awp_block ?_)
  iterate 2 (with_reducible refine awp_seq ?_)
  ((with_reducible refine ao_region ?_ (fun _ => ?_)); exact rfl)
  ((with_reducible apply S_fieldAddr_lo); exact rfl; exact rfl; exact rfl; exact rfl; decide; exact rfl)
  ((with_reducible apply S_load_lo); exact rfl; exact rfl; exact rfl; exact rfl; (first | exact rfl | exact get_map (by omega) (0 : Int) | exact get_map (by omega) default); exact rfl)
  ((with_reducible apply S_move); exact rfl)
  ((with_reducible apply S_indexAddr_sl); exact rfl; exact rfl; exact rfl; exact rfl; exact rfl; exact rfl; omega; (first | exact get_int (by omega) | exact get_map (by omega) default | assumption))
  ((with_reducible apply S_fieldAddr_pt); exact rfl; exact rfl; exact rfl; exact rfl; decide; exact rfl)
  ((with_reducible apply S_load_pt); exact rfl; exact rfl; exact rfl; exact rfl)
  ((with_reducible apply S_eql); exact rfl; exact rfl)
  (with_reducible refine ao_nil ?_)
  (with_reducible refine then_n ?_)
  ((with_reducible apply awp_cond); exact rfl)
  ((with_reducible refine im_dt (fun _ => ?_)); (try (exfalso; omega)))
  (with_reducible refine awp_exit ?_)
  (with_reducible refine then_x ?_)
  (with_reducible refine blk_x ?_)
  (with_reducible refine then_n ?_)
  ((with_reducible refine ao_region ?_ (fun _ => ?_)); exact rfl)
  ((with_reducible apply S_move); exact rfl)
  ((with_reducible apply S_add64); exact rfl; exact rfl; omega)
  ((with_reducible apply S_assign); exact rfl)
  (with_reducible refine ao_nil ?_)
  (with_reducible refine then_n ?_)
  rotate_left
  ((with_reducible refine im_df (fun _ => ?_)); (try (exfalso; omega)))
  (with_reducible refine awp_skip ?_)
  (with_reducible refine then_n ?_)
  (with_reducible refine awp_seq ?_)
  ((with_reducible refine ao_region ?_ (fun _ => ?_)); exact rfl)
  ((with_reducible apply S_fieldAddr_lo); exact rfl; exact rfl; exact rfl; exact rfl; decide; exact rfl)
  ((with_reducible apply S_load_lo); exact rfl; exact rfl; exact rfl; exact rfl; (first | exact rfl | exact get_map (by omega) (0 : Int) | exact get_map (by omega) default); exact rfl)
  ((with_reducible apply S_move); exact rfl)
  ((with_reducible apply S_indexAddr_sl); exact rfl; exact rfl; exact rfl; exact rfl; exact rfl; exact rfl; omega; (first | exact get_int (by omega) | exact get_map (by omega) default | assumption))
  ((with_reducible apply S_fieldAddr_pt); exact rfl; exact rfl; exact rfl; exact rfl; decide; exact rfl)
  ((with_reducible apply S_load_pt); exact rfl; exact rfl; exact rfl; exact rfl)
  ((with_reducible apply S_assign); exact rfl)
  (with_reducible refine ao_nil ?_)
  (with_reducible refine then_n ?_)
  (with_reducible refine awp_seq ?_)
  ((with_reducible refine ao_region ?_ (fun _ => ?_)); exact rfl)
  ((with_reducible apply S_assign); exact rfl)
  (with_reducible refine ao_nil ?_)
  (with_reducible refine then_n ?_)
  (with_reducible refine awp_seq ?_)
  (with_reducible refine awp_block ?_)
  rotate_left
  ((with_reducible refine im_df (fun _ => ?_)); (try (exfalso; omega)))
  (with_reducible refine awp_exit ?_)
  iterate 2 (with_reducible refine then_x ?_)
  (with_reducible refine blk_x ?_)
  (with_reducible refine then_n ?_)
  (with_reducible refine awp_seq ?_)
  ((with_reducible refine ao_region ?_ (fun _ => ?_)); exact rfl)
  ((with_reducible apply S_move); exact rfl)
  ((with_reducible apply S_ren); exact rfl; exact rfl)
  (with_reducible refine ao_nil ?_)
  (with_reducible refine then_n ?_)
  (with_reducible refine awp_ret ?_)
  rotate_left
  · refine round' (i + 1, τ, l) ⟨by dsimp only; omega, ?_⟩ (by dsimp only; omega) (by repeat' (first | exact le_nil _ | exact sle_nil _ | refine le_cons rfl ?_ | refine sle_cons rfl ?_)) (by repeat' (first | exact le_nil _ | exact sle_nil _ | refine le_cons rfl ?_ | refine sle_cons rfl ?_))
    have hk := addrsTo_take x.evs i (by omega)
    rename_i h1 _
    rw [Int.toNat_natCast] at h1
    rw [hk, if_pos h1]; exact hl
  · rename_i h1 w1 w2
    rw [Int.toNat_natCast] at h1
    refine awp_loop (X := Nat) (fun k => tmL [(1, .lo 1 (v1, 0) 3 0 0), (3, .os 3 τ 1 l.length), (4, .int .i64 i), (5, .int .u32 (x.evs.getD i default).addr), (6, .int .i64 k)]) (fun _ => stL [(1, ((v1, 0), ⟨3, [(exOV x).cells]⟩)), (3, (τ, ⟨1, l.map (cellO .u32)⟩))])
      (fun k => k ≤ l.length ∧ addIn (x.evs.getD i default).addr l = l.take k ++ addIn (x.evs.getD i default).addr (l.drop k)) (fun k => l.length - k) 0 ⟨Nat.zero_le _, rfl⟩ (by repeat' (first | exact le_nil _ | exact sle_nil _ | refine le_cons rfl ?_ | refine sle_cons rfl ?_)) (by repeat' (first | exact le_nil _ | exact sle_nil _ | refine le_cons rfl ?_ | refine sle_cons rfl ?_)) ?_
    intro k hk
    obtain ⟨hk, ht⟩ := hk
    iterate 2 (with_reducible refine awp_seq ?_)
    ((with_reducible refine ao_region ?_ (fun _ => ?_)); exact rfl)
    iterate 2 ((with_reducible apply S_move); exact rfl)
    ((with_reducible apply S_len); exact rfl; exact rfl; exact rfl; (first | exact len_ints _ | exact len_map _ _ _ | exact len_sl _ _ | exact len_os _ _ _ _ | exact len_vw _ _ _ _ _ | exact len_nil))
    ((with_reducible apply S_lss); exact rfl; exact rfl)
    ((with_reducible apply S_move); exact rfl)
    ((with_reducible apply spec_t); exact rfl; exact rfl)
    ((with_reducible refine im_any (fun hc_ => ?_)); (try have hc1_ := (band hc_).1))
    ((with_reducible apply M_move); (first | (refine EvM.mb _ rfl ?_; first | assumption | exact rfl) | exact EvM.plain rfl rfl))
    ((with_reducible apply spec_t); exact rfl; exact rfl)
    ((with_reducible refine im_any (fun hc_ => ?_)); (try have hc1_ := (band hc_).1))
    ((with_reducible apply M_move); (first | (refine EvM.mb _ rfl ?_; first | assumption | exact rfl) | exact EvM.plain rfl rfl))
    ((with_reducible apply spec_t); exact rfl; exact rfl)
    ((with_reducible refine im_any (fun hc_ => ?_)); (try have hc1_ := (band hc_).1))
    ((have hp_ := hc_; (try simp only [Bool.not_eq_true', Bool.not_eq_false', Bool.or_eq_true, Bool.and_eq_true, Bool.or_eq_false_iff, Bool.and_eq_false_iff, decide_eq_true_eq, decide_eq_false_iff_not, Decidable.not_not, Int.not_lt, Int.not_le, Bool.not_true, Bool.not_false, Bool.true_and, Bool.and_true, Bool.false_or, Bool.or_false, Bool.true_or, Bool.false_and, bne_eq_false_iff_eq, bne_iff_ne, beq_iff_eq, beq_eq_false_iff_ne, decide_eq_decide] at hp_)))
    ((with_reducible apply M_indexAddr_os); exact rfl; exact rfl; exact rfl; exact rfl; (first | (refine EvM.mb _ rfl ?_; first | assumption | exact rfl) | exact EvM.plain rfl rfl); (first | (refine EvM.mb _ rfl ?_; first | assumption | exact rfl) | exact EvM.plain rfl rfl); omega)
    ((with_reducible apply spec_t); exact rfl; exact rfl)
    ((with_reducible refine im_any (fun hc_ => ?_)); (try have hc1_ := (band hc_).1))
    ((have hp_ := hc_; (try simp only [Bool.not_eq_true', Bool.not_eq_false', Bool.or_eq_true, Bool.and_eq_true, Bool.or_eq_false_iff, Bool.and_eq_false_iff, decide_eq_true_eq, decide_eq_false_iff_not, Decidable.not_not, Int.not_lt, Int.not_le, Bool.not_true, Bool.not_false, Bool.true_and, Bool.and_true, Bool.false_or, Bool.or_false, Bool.true_or, Bool.false_and, bne_eq_false_iff_eq, bne_iff_ne, beq_iff_eq, beq_eq_false_iff_ne, decide_eq_decide] at hp_)))
    ((with_reducible apply M_load_lo); exact rfl; exact rfl; (first | (refine EvM.mb _ rfl ?_; first | assumption | exact rfl) | exact EvM.plain rfl rfl); exact rfl; (first | exact get_map (by omega) (0 : Int) | exact get_map (by omega) default); exact rfl)
    ((with_reducible apply spec_t); exact rfl; exact rfl)
    ((with_reducible refine im_any (fun hc_ => ?_)); (try have hc1_ := (band hc_).1))
    ((with_reducible apply M_move); (first | (refine EvM.mb _ rfl ?_; first | assumption | exact rfl) | exact EvM.plain rfl rfl))
    ((with_reducible apply spec_t); exact rfl; exact rfl)
    ((with_reducible refine im_any (fun hc_ => ?_)); (try have hc1_ := (band hc_).1))
    ((with_reducible apply M_lss); (first | (refine EvM.mb _ rfl ?_; first | assumption | exact rfl) | exact EvM.plain rfl rfl); (first | (refine EvM.mb _ rfl ?_; first | assumption | exact rfl) | exact EvM.plain rfl rfl))
    ((with_reducible apply S_pick_and); (first | (refine EvM.mb _ rfl ?_; first | assumption | exact rfl) | exact EvM.plain rfl rfl); (first | (refine EvB.mb _ rfl ?_; first | exact fun h => h | exact fun h => bnot_mk h | exact fun h => band_mk (by assumption) h | exact fun h => band_mk (by assumption) (bnot_mk h) | (intro h; simp_all)) | exact EvB.plain rfl); exact rfl)
    (with_reducible refine ao_nil ?_)
    (with_reducible refine then_n ?_)
    ((with_reducible apply awp_cond); exact rfl)
    (with_reducible refine im_at ?_)
    iterate 2 ((with_reducible refine im_dt (fun _ => ?_)); (try (exfalso; omega)))
    (with_reducible refine awp_skip ?_)
    (with_reducible refine then_n ?_)
    (with_reducible refine awp_block ?_)
    ((with_reducible refine ao_region ?_ (fun _ => ?_)); exact rfl)
    ((with_reducible apply S_move); exact rfl)
    ((with_reducible apply S_add64); exact rfl; exact rfl; omega)
    ((with_reducible apply S_assign); exact rfl)
    (with_reducible refine ao_nil ?_)
    (with_reducible refine blk_n ?_)
    (with_reducible refine then_n ?_)
    rotate_left
    ((with_reducible refine im_af (fun hc_ => ?_)); (try simp only [Bool.not_eq_true', Bool.not_eq_false', Bool.or_eq_true, Bool.and_eq_true, Bool.or_eq_false_iff, Bool.and_eq_false_iff, decide_eq_true_eq, decide_eq_false_iff_not, Decidable.not_not, Int.not_lt, Int.not_le, Bool.not_true, Bool.not_false, Bool.true_and, Bool.and_true, Bool.false_or, Bool.or_false, Bool.true_or, Bool.false_and, bne_eq_false_iff_eq, bne_iff_ne, beq_iff_eq, beq_eq_false_iff_ne, decide_eq_decide] at hc_))
    (with_reducible refine awp_exit ?_)
    iterate 2 (with_reducible refine then_x ?_)
    (with_reducible refine blk_x ?_)
    (with_reducible refine then_n ?_)
    iterate 2 (with_reducible refine awp_seq ?_)
    ((with_reducible refine ao_region ?_ (fun _ => ?_)); exact rfl)
    iterate 2 ((with_reducible apply S_move); exact rfl)
    ((with_reducible apply S_len); exact rfl; exact rfl; exact rfl; (first | exact len_ints _ | exact len_map _ _ _ | exact len_sl _ _ | exact len_os _ _ _ _ | exact len_vw _ _ _ _ _ | exact len_nil))
    ((with_reducible apply S_lss); exact rfl; exact rfl)
    ((with_reducible apply S_move); exact rfl)
    ((with_reducible apply spec_t); exact rfl; exact rfl)
    ((with_reducible refine im_any (fun hc_ => ?_)); (try have hc1_ := (band hc_).1))
    ((with_reducible apply M_move); (first | (refine EvM.mb _ rfl ?_; first | assumption | exact rfl) | exact EvM.plain rfl rfl))
    ((with_reducible apply spec_t); exact rfl; exact rfl)
    ((with_reducible refine im_any (fun hc_ => ?_)); (try have hc1_ := (band hc_).1))
    ((with_reducible apply M_move); (first | (refine EvM.mb _ rfl ?_; first | assumption | exact rfl) | exact EvM.plain rfl rfl))
    ((with_reducible apply spec_t); exact rfl; exact rfl)
    ((with_reducible refine im_any (fun hc_ => ?_)); (try have hc1_ := (band hc_).1))
    ((have hp_ := hc_; (try simp only [Bool.not_eq_true', Bool.not_eq_false', Bool.or_eq_true, Bool.and_eq_true, Bool.or_eq_false_iff, Bool.and_eq_false_iff, decide_eq_true_eq, decide_eq_false_iff_not, Decidable.not_not, Int.not_lt, Int.not_le, Bool.not_true, Bool.not_false, Bool.true_and, Bool.and_true, Bool.false_or, Bool.or_false, Bool.true_or, Bool.false_and, bne_eq_false_iff_eq, bne_iff_ne, beq_iff_eq, beq_eq_false_iff_ne, decide_eq_decide] at hp_)))
    ((with_reducible apply M_indexAddr_os); exact rfl; exact rfl; exact rfl; exact rfl; (first | (refine EvM.mb _ rfl ?_; first | assumption | exact rfl) | exact EvM.plain rfl rfl); (first | (refine EvM.mb _ rfl ?_; first | assumption | exact rfl) | exact EvM.plain rfl rfl); omega)
    ((with_reducible apply spec_t); exact rfl; exact rfl)
    ((with_reducible refine im_any (fun hc_ => ?_)); (try have hc1_ := (band hc_).1))
    ((have hp_ := hc_; (try simp only [Bool.not_eq_true', Bool.not_eq_false', Bool.or_eq_true, Bool.and_eq_true, Bool.or_eq_false_iff, Bool.and_eq_false_iff, decide_eq_true_eq, decide_eq_false_iff_not, Decidable.not_not, Int.not_lt, Int.not_le, Bool.not_true, Bool.not_false, Bool.true_and, Bool.and_true, Bool.false_or, Bool.or_false, Bool.true_or, Bool.false_and, bne_eq_false_iff_eq, bne_iff_ne, beq_iff_eq, beq_eq_false_iff_ne, decide_eq_decide] at hp_)))
    ((with_reducible apply M_load_lo); exact rfl; exact rfl; (first | (refine EvM.mb _ rfl ?_; first | assumption | exact rfl) | exact EvM.plain rfl rfl); exact rfl; (first | exact get_map (by omega) (0 : Int) | exact get_map (by omega) default); exact rfl)
    ((with_reducible apply spec_t); exact rfl; exact rfl)
    ((with_reducible refine im_any (fun hc_ => ?_)); (try have hc1_ := (band hc_).1))
    ((with_reducible apply M_move); (first | (refine EvM.mb _ rfl ?_; first | assumption | exact rfl) | exact EvM.plain rfl rfl))
    ((with_reducible apply spec_t); exact rfl; exact rfl)
    ((with_reducible refine im_any (fun hc_ => ?_)); (try have hc1_ := (band hc_).1))
    ((with_reducible apply M_eql); (first | (refine EvM.mb _ rfl ?_; first | assumption | exact rfl) | exact EvM.plain rfl rfl); (first | (refine EvM.mb _ rfl ?_; first | assumption | exact rfl) | exact EvM.plain rfl rfl))
    ((with_reducible apply S_pick_and); (first | (refine EvM.mb _ rfl ?_; first | assumption | exact rfl) | exact EvM.plain rfl rfl); (first | (refine EvB.mb _ rfl ?_; first | exact fun h => h | exact fun h => bnot_mk h | exact fun h => band_mk (by assumption) h | exact fun h => band_mk (by assumption) (bnot_mk h) | (intro h; simp_all)) | exact EvB.plain rfl); exact rfl)
    (with_reducible refine ao_nil ?_)
    (with_reducible refine then_n ?_)
    ((with_reducible apply awp_cond); exact rfl)
    (with_reducible refine im_at ?_)
    iterate 2 ((with_reducible refine im_dt (fun _ => ?_)); (try (exfalso; omega)))
    (with_reducible refine awp_exit ?_)
    (with_reducible refine then_x ?_)
    (with_reducible refine blk_x ?_)
    (with_reducible refine then_n ?_)
    ((with_reducible refine ao_region ?_ (fun _ => ?_)); exact rfl)
    ((with_reducible apply S_move); exact rfl)
    ((with_reducible apply S_add64); exact rfl; exact rfl; omega)
    ((with_reducible apply S_assign); exact rfl)
    (with_reducible refine ao_nil ?_)
    (with_reducible refine then_n ?_)
    rotate_left
    ((with_reducible refine im_af (fun hc_ => ?_)); (try simp only [Bool.not_eq_true', Bool.not_eq_false', Bool.or_eq_true, Bool.and_eq_true, Bool.or_eq_false_iff, Bool.and_eq_false_iff, decide_eq_true_eq, decide_eq_false_iff_not, Decidable.not_not, Int.not_lt, Int.not_le, Bool.not_true, Bool.not_false, Bool.true_and, Bool.and_true, Bool.false_or, Bool.or_false, Bool.true_or, Bool.false_and, bne_eq_false_iff_eq, bne_iff_ne, beq_iff_eq, beq_eq_false_iff_ne, decide_eq_decide] at hc_))
    (with_reducible refine awp_skip ?_)
    (with_reducible refine then_n ?_)
    (with_reducible refine awp_seq ?_)
    ((with_reducible refine ao_region ?_ (fun _ => ?_)); exact rfl)
    iterate 2 ((with_reducible apply S_move); exact rfl)
    ((with_reducible apply S_slice_os); exact rfl; exact rfl; exact rfl; exact rfl; exact rfl; (first | exact rfl | exact ⟨_, _, rfl, by omega, rfl⟩); (first | exact rfl | exact ⟨_, _, rfl, by omega, rfl⟩); omega; omega)
    ((with_reducible apply S_append); exact rfl; exact rfl; exact rfl; exact rfl; decide; exact rfl; exact rfl; (first | exact .os _ _ _ _ rfl (by first | rfl | (first | omega | (simp only [List.length_append, List.length_map, List.length_take, List.length_drop, List.length_cons, List.length_nil, List.length_replicate, chop_length] <;> omega))) | exact .nil); (first | exact .os _ _ _ _ rfl (by first | rfl | (first | omega | (simp only [List.length_append, List.length_map, List.length_take, List.length_drop, List.length_cons, List.length_nil, List.length_replicate, chop_length] <;> omega))) | exact .vw _ _ _ _ _ rfl (by (first | omega | (simp only [List.length_append, List.length_map, List.length_take, List.length_drop, List.length_cons, List.length_nil, List.length_replicate, chop_length] <;> omega))) | exact .nil | exact .sl _); (repeat (first | exact LeafR.nil | exact LeafR.cells _ _ | exact LeafR.d _ | (apply LeafR.one; exact rfl) | refine LeafR.take _ ?_ | refine LeafR.drop _ ?_ | refine LeafR.app ?_ ?_ | assumption)); (show _ * (Nat.succ _) ≤ _; (first | omega | (simp only [List.length_append, List.length_map, List.length_take, List.length_drop, List.length_cons, List.length_nil, List.length_replicate, chop_length] <;> omega))); (unfold maxLen; (first | omega | (simp only [List.length_append, List.length_map, List.length_take, List.length_drop, List.length_cons, List.length_nil, List.length_replicate, chop_length] <;> omega))))
    ((with_reducible apply S_move); exact rfl)
    ((with_reducible apply S_buildSlice); exact rfl; exact rfl; exact rfl; decide; decide; decide; exact rfl; exact rfl)
    ((with_reducible apply S_append); exact rfl; exact rfl; exact rfl; exact rfl; decide; exact rfl; exact rfl; (first | exact .os _ _ _ _ rfl (by first | rfl | (first | omega | (simp only [List.length_append, List.length_map, List.length_take, List.length_drop, List.length_cons, List.length_nil, List.length_replicate, chop_length] <;> omega))) | exact .nil); (first | exact .os _ _ _ _ rfl (by first | rfl | (first | omega | (simp only [List.length_append, List.length_map, List.length_take, List.length_drop, List.length_cons, List.length_nil, List.length_replicate, chop_length] <;> omega))) | exact .vw _ _ _ _ _ rfl (by (first | omega | (simp only [List.length_append, List.length_map, List.length_take, List.length_drop, List.length_cons, List.length_nil, List.length_replicate, chop_length] <;> omega))) | exact .nil | exact .sl _); (repeat (first | exact LeafR.nil | exact LeafR.cells _ _ | exact LeafR.d _ | (apply LeafR.one; exact rfl) | refine LeafR.take _ ?_ | refine LeafR.drop _ ?_ | refine LeafR.app ?_ ?_ | assumption)); (show _ * (Nat.succ _) ≤ _; (first | omega | (simp only [List.length_append, List.length_map, List.length_take, List.length_drop, List.length_cons, List.length_nil, List.length_replicate, chop_length] <;> omega))); (unfold maxLen; (first | omega | (simp only [List.length_append, List.length_map, List.length_take, List.length_drop, List.length_cons, List.length_nil, List.length_replicate, chop_length] <;> omega))))
    ((with_reducible apply S_ren); exact rfl; exact rfl)
    (with_reducible refine ao_nil ?_)
    (with_reducible refine then_n ?_)
    ((with_reducible refine ao_region ?_ (fun _ => ?_)); exact rfl)
    iterate 3 ((with_reducible apply S_move); exact rfl)
    ((with_reducible apply S_slice_os); exact rfl; exact rfl; exact rfl; exact rfl; exact rfl; (first | exact rfl | exact ⟨_, _, rfl, by omega, rfl⟩); (first | exact rfl | exact ⟨_, _, rfl, by omega, rfl⟩); omega; omega)
    ((with_reducible apply S_append); exact rfl; exact rfl; exact rfl; exact rfl; decide; exact rfl; exact rfl; (first | exact .os _ _ _ _ rfl (by first | rfl | (first | omega | (simp only [List.length_append, List.length_map, List.length_take, List.length_drop, List.length_cons, List.length_nil, List.length_replicate, chop_length] <;> omega))) | exact .nil); (first | exact .os _ _ _ _ rfl (by first | rfl | (first | omega | (simp only [List.length_append, List.length_map, List.length_take, List.length_drop, List.length_cons, List.length_nil, List.length_replicate, chop_length] <;> omega))) | exact .vw _ _ _ _ _ rfl (by (first | omega | (simp only [List.length_append, List.length_map, List.length_take, List.length_drop, List.length_cons, List.length_nil, List.length_replicate, chop_length] <;> omega))) | exact .nil | exact .sl _); (repeat (first | exact LeafR.nil | exact LeafR.cells _ _ | exact LeafR.d _ | (apply LeafR.one; exact rfl) | refine LeafR.take _ ?_ | refine LeafR.drop _ ?_ | refine LeafR.app ?_ ?_ | assumption)); (show _ * (Nat.succ _) ≤ _; (first | omega | (simp only [List.length_append, List.length_map, List.length_take, List.length_drop, List.length_cons, List.length_nil, List.length_replicate, chop_length] <;> omega))); (unfold maxLen; (first | omega | (simp only [List.length_append, List.length_map, List.length_take, List.length_drop, List.length_cons, List.length_nil, List.length_replicate, chop_length] <;> omega))))
    ((with_reducible apply S_ren); exact rfl; exact rfl)
    (with_reducible refine ao_nil ?_)
    (with_reducible refine blk_n ?_)
    (with_reducible refine then_n ?_)
    ((with_reducible refine ao_region ?_ (fun _ => ?_)); exact rfl)
    ((with_reducible apply S_move); exact rfl)
    ((with_reducible apply S_add64); exact rfl; exact rfl; omega)
    ((with_reducible apply S_assign); exact rfl)
    (with_reducible refine ao_nil ?_)
    (with_reducible refine then_n ?_)
    rotate_left
    · rename_i h2 h3 _
      rw [Int.toNat_natCast] at h3
      refine round' (k + 1) ⟨by omega, ?_⟩ (by omega) (by repeat' (first | exact le_nil _ | exact sle_nil _ | refine le_cons rfl ?_ | refine sle_cons rfl ?_)) (by repeat' (first | exact le_nil _ | exact sle_nil _ | refine le_cons rfl ?_ | refine sle_cons rfl ?_))
      rw [ht, addIn_drop _ l k (by omega), if_pos h3, take_getD l 0 k (by omega)]
      simp
    · rename_i _ h2 h3 _
      have h0 := hc_
      simp only [Int.toNat_natCast] at h3 h0
      refine round' (i + 1, τ, l) ⟨by dsimp only; omega, ?_⟩ (by dsimp only; omega) (by repeat' (first | exact le_nil _ | exact sle_nil _ | refine le_cons rfl ?_ | refine sle_cons rfl ?_)) (by repeat' (first | exact le_nil _ | exact sle_nil _ | refine le_cons rfl ?_ | refine sle_cons rfl ?_))
      have hk' := addrsTo_take x.evs i (by omega)
      rw [if_neg h1, ← hl, ht, addIn_drop _ l k (by omega), if_neg (by omega), if_pos h3, List.take_append_drop] at hk'
      exact hk'.symm
    · rename_i h0 _ w3 w4 w5
      have h3 := hc_
      simp only [Int.toNat_natCast] at h3 h0
      have hD : addIn (x.evs.getD i default).addr l = l.take k ++ (x.evs.getD i default).addr :: l.drop k := by
        rw [ht]
        by_cases hkl : k = l.length
        · subst hkl; simp [addIn]
        · rw [addIn_drop _ l k (by omega), if_neg (by omega), if_neg (by omega)]
      have hk' := addrsTo_take x.evs i (by omega)
      rw [if_neg h1, ← hl] at hk'
      refine round' (i + 1, (w4, 5), addIn (x.evs.getD i default).addr l) ⟨by dsimp only; omega, hk'.symm⟩ (by dsimp only; omega) (by repeat' (first | exact le_nil _ | exact sle_nil _ | refine le_cons rfl ?_ | refine sle_cons rfl ?_ | (refine le_cons_os rfl ?_ ?_; (first | (dsimp only; rw [hD]; (first | omega | (simp only [List.length_append, List.length_map, List.length_take, List.length_drop, List.length_cons, List.length_nil, List.length_replicate, chop_length] <;> omega))) | (dsimp only; rw [hD]; exact rows_mid _ l k _))) | (refine le_cons_int rfl ?_ ?_; (first | (dsimp only; rw [hD]; (first | omega | (simp only [List.length_append, List.length_map, List.length_take, List.length_drop, List.length_cons, List.length_nil, List.length_replicate, chop_length] <;> omega))) | (dsimp only; rw [hD]; exact rows_mid _ l k _))) | (refine sle_cons' rfl ?_ ?_; (first | (dsimp only; rw [hD]; (first | omega | (simp only [List.length_append, List.length_map, List.length_take, List.length_drop, List.length_cons, List.length_nil, List.length_replicate, chop_length] <;> omega))) | (dsimp only; rw [hD]; exact rows_mid _ l k _))))) (by repeat' (first | exact le_nil _ | exact sle_nil _ | refine le_cons rfl ?_ | refine sle_cons rfl ?_ | (refine le_cons_os rfl ?_ ?_; (first | (dsimp only; rw [hD]; (first | omega | (simp only [List.length_append, List.length_map, List.length_take, List.length_drop, List.length_cons, List.length_nil, List.length_replicate, chop_length] <;> omega))) | (dsimp only; rw [hD]; exact rows_mid _ l k _))) | (refine le_cons_int rfl ?_ ?_; (first | (dsimp only; rw [hD]; (first | omega | (simp only [List.length_append, List.length_map, List.length_take, List.length_drop, List.length_cons, List.length_nil, List.length_replicate, chop_length] <;> omega))) | (dsimp only; rw [hD]; exact rows_mid _ l k _))) | (refine sle_cons' rfl ?_ ?_; (first | (dsimp only; rw [hD]; (first | omega | (simp only [List.length_append, List.length_map, List.length_take, List.length_drop, List.length_cons, List.length_nil, List.length_replicate, chop_length] <;> omega))) | (dsimp only; rw [hD]; exact rows_mid _ l k _)))))
  · have e : i = x.evs.length := by omega
    rw [e, List.take_length] at hl
    refine own_done rfl rfl ?_ ?_
    · rw [hl]
    · simp
end Go.Proofs.Ytgeaaegkcbjhlaa
