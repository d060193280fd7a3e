/- wide, and known, of the laws of layer 6, in plain data. -/
import Derived.Test.YtgeaaegkcbjhlaaBr
import Derived.Test.YtgeaaegkcbjhlaaRd
import Derived.Test.YtgeaaegkcbjhlaaCheck
import Derived.Test.YtgeaaegkcbjhlaaKw
set_option maxRecDepth 100000
set_option linter.unusedVariables false
set_option linter.unusedSimpArgs false
namespace Go.Proofs.Ytgeaaegkcbjhlaa
open Go.RowKit
def Ev.lens (e : Ev) : Nat := e.addrs.length + e.datas.length + e.ctrls.length
def sumE (es : List Ev) (k : Nat) : Nat := ((es.take k).map Ev.lens).sum
def sumR (rows : List (Sl × List Int)) (k : Nat) : Nat := ((rows.take k).map fun r => r.2.length).sum
/-- is it more than is done? -/
def wideB (x : Ex) : Bool := decide (70 < x.evs.length) || decide (200 < x.from_.length) || decide (200 < x.order.length) || decide (400 < x.from_.length + sumR x.order x.order.length) || decide (400 < x.from_.length + sumR x.order x.order.length + sumE x.evs x.evs.length)
theorem sumE_succ (es : List Ev) (k : Nat) (h : k < es.length) : sumE es (k + 1) = sumE es k + (es.getD k default).lens := by
  unfold sumE; rw [take_getD es default k h]; simp
theorem sumR_succ (rows : List (Sl × List Int)) (k : Nat) (h : k < rows.length) : sumR rows (k + 1) = sumR rows k + (rows.getD k default).2.length := by
  unfold sumR; rw [take_getD rows default k h]; simp
theorem sum_take_le (l : List Nat) (k : Nat) : (l.take k).sum ≤ l.sum := by
  have h := congrArg List.sum (List.take_append_drop k l)
  rw [List.sum_append] at h
  omega
theorem sumE_le (es : List Ev) (k : Nat) : sumE es k ≤ sumE es es.length := by
  unfold sumE
  rw [List.take_length, List.map_take]; exact sum_take_le _ _
theorem sumR_le (rows : List (Sl × List Int)) (k : Nat) : sumR rows k ≤ sumR rows rows.length := by
  unfold sumR
  rw [List.take_length, List.map_take]; exact sum_take_le _ _
theorem wide_true1 {x : Ex} (h : 70 < x.evs.length ∨ 200 < x.from_.length ∨ 200 < x.order.length) : true = wideB x := by
  unfold wideB
  rcases h with h | h | h <;> simp [h]
theorem wide_true2 {x : Ex} {k : Nat} (h : 400 < x.from_.length + sumR x.order k) : true = wideB x := by
  have := sumR_le x.order k
  unfold wideB
  have h : 400 < x.from_.length + sumR x.order x.order.length := by omega
  simp [h]
theorem wide_true3 {x : Ex} {k : Nat} (h : 400 < x.from_.length + sumR x.order x.order.length + sumE x.evs k) : true = wideB x := by
  have := sumE_le x.evs k
  unfold wideB
  have h : 400 < x.from_.length + sumR x.order x.order.length + sumE x.evs x.evs.length := by omega
  simp [h]
theorem Ex.ok.ev {x : Ex} (h : x.ok) (i : Nat) : (x.evs.getD i default).addrs.length ≤ 1152921504606846976 ∧ (x.evs.getD i default).datas.length ≤ 1152921504606846976 ∧ (x.evs.getD i default).ctrls.length ≤ 1152921504606846976 := by
  rcases Nat.lt_or_ge i x.evs.length with hh | hh
  · rw [List.getD_eq_getElem?_getD, List.getElem?_eq_getElem hh]
    have := h.2.1 _ (List.getElem_mem hh)
    exact ⟨this.2.1, this.2.2.1, this.2.2.2.1⟩
  · rw [List.getD_eq_getElem?_getD, List.getElem?_eq_none hh]
    decide
theorem Ex.ok.row {x : Ex} (h : x.ok) (i : Nat) : (x.order.getD i default).2.length ≤ 1152921504606846976 := by
  rcases Nat.lt_or_ge i x.order.length with hh | hh
  · rw [List.getD_eq_getElem?_getD, List.getElem?_eq_getElem hh]
    exact h.2.2.2.2 _ (List.getElem_mem hh)
  · rw [List.getD_eq_getElem?_getD, List.getElem?_eq_none hh]
    decide
theorem wide_row {x : Ex} (h : wideB x = false) : ∀ r ∈ x.order, r.2.length ≤ 400 := fun r hr => by
  unfold wideB at h
  simp only [Bool.or_eq_false_iff, decide_eq_false_iff_not] at h
  obtain ⟨i, hi, rfl⟩ := List.mem_iff_getElem.1 hr
  have h1 := sumR_succ x.order i hi
  have h2 := sumR_le x.order (i + 1)
  rw [List.getD_eq_getElem?_getD, List.getElem?_eq_getElem hi] at h1
  simp only [Option.getD_some] at h1
  omega
set_option maxHeartbeats 4000000 in
theorem wide_p (x : Ex) (hok : x.ok) : Pure E.P 9 [exOV x] (.bool (wideB x)) := by
  have hev := hok.ev
  have hrw := hok.row
  obtain ⟨hx, _, hf, ho, _⟩ := hok
  refine fn_of_awp Try.func9 (by decide) rfl Try.ntmps9 (Nat.le_of_ble_eq_true rfl) rfl ?_
  (with_reducible refine awp_seq ?_)
  ((with_reducible refine ao_region ?_ (fun _ => ?_)); exact rfl)
  ((with_reducible apply S_box); exact rfl; exact rfl; exact rfl)
  ((with_reducible apply S_assign); exact rfl)
  (with_reducible refine ao_nil ?_)
  (with_reducible refine then_n ?_)
  (with_reducible refine awp_seq ?_)
  ((with_reducible refine ao_region ?_ (fun _ => ?_)); exact rfl)
  ((with_reducible apply S_fieldAddr_lo); exact rfl; exact rfl; exact rfl; exact rfl; decide; exact rfl)
  ((with_reducible apply S_load_lo); exact rfl; exact rfl; exact rfl; exact rfl; (first | exact rfl | exact get_map (by omega) (0 : Int) | exact get_map (by omega) default); exact rfl)
  ((with_reducible apply S_len); exact rfl; exact rfl; exact rfl; (first | exact len_ints _ | exact len_map _ _ _ | exact len_sl _ _ | exact len_os _ _ _ _ | exact len_vw _ _ _ _ _ | exact len_nil))
  ((with_reducible apply S_assign); exact rfl)
  (with_reducible refine ao_nil ?_)
  (with_reducible refine then_n ?_)
  iterate 2 (with_reducible refine awp_seq ?_)
  ((with_reducible refine ao_region ?_ (fun _ => ?_)); exact rfl)
  ((with_reducible apply S_fieldAddr_lo); exact rfl; exact rfl; exact rfl; exact rfl; decide; exact rfl)
  ((with_reducible apply S_load_lo); exact rfl; exact rfl; exact rfl; exact rfl; (first | exact rfl | exact get_map (by omega) (0 : Int) | exact get_map (by omega) default); exact rfl)
  ((with_reducible apply S_len); exact rfl; exact rfl; exact rfl; (first | exact len_ints _ | exact len_map _ _ _ | exact len_sl _ _ | exact len_os _ _ _ _ | exact len_vw _ _ _ _ _ | exact len_nil))
  ((with_reducible apply S_gtr); exact rfl; exact rfl)
  ((with_reducible apply S_move); exact rfl)
  ((with_reducible apply spec_f); exact rfl; exact rfl)
  ((with_reducible refine im_any (fun hc_ => ?_)); (try have hc1_ := (band hc_).1))
  ((with_reducible apply M_move); (first | (refine EvM.mb _ rfl ?_; first | assumption | exact rfl) | exact EvM.plain rfl rfl))
  ((with_reducible apply spec_f); exact rfl; exact rfl)
  ((with_reducible refine im_any (fun hc_ => ?_)); (try have hc1_ := (band hc_).1))
  ((with_reducible apply M_gtr); (first | (refine EvM.mb _ rfl ?_; first | assumption | exact rfl) | exact EvM.plain rfl rfl); (first | (refine EvM.mb _ rfl ?_; first | assumption | exact rfl) | exact EvM.plain rfl rfl))
  ((with_reducible apply S_pick_or); (first | (refine EvM.mb _ rfl ?_; first | assumption | exact rfl) | exact EvM.plain rfl rfl); exact rfl; (first | (refine EvB.mb _ rfl ?_; first | exact fun h => h | exact fun h => bnot_mk h | exact fun h => band_mk (by assumption) h | exact fun h => band_mk (by assumption) (bnot_mk h) | (intro h; simp_all)) | exact EvB.plain rfl))
  ((with_reducible apply S_move); exact rfl)
  ((with_reducible apply spec_f); exact rfl; exact rfl)
  ((with_reducible refine im_any (fun hc_ => ?_)); (try have hc1_ := (band hc_).1))
  ((with_reducible apply M_fieldAddr_lo); exact rfl; exact rfl; exact rfl; exact rfl; decide; (first | (refine EvM.mb _ rfl ?_; first | assumption | exact rfl) | exact EvM.plain rfl rfl))
  ((with_reducible apply spec_f); exact rfl; exact rfl)
  ((with_reducible refine im_any (fun hc_ => ?_)); (try have hc1_ := (band hc_).1))
  ((with_reducible apply M_load_lo); exact rfl; exact rfl; (first | (refine EvM.mb _ rfl ?_; first | assumption | exact rfl) | exact EvM.plain rfl rfl); exact rfl; exact rfl; exact rfl)
  ((with_reducible apply spec_f); exact rfl; exact rfl)
  ((with_reducible refine im_any (fun hc_ => ?_)); (try have hc1_ := (band hc_).1))
  ((with_reducible apply M_len); exact rfl; exact rfl; (first | (refine EvM.mb _ rfl ?_; first | assumption | exact rfl) | exact EvM.plain rfl rfl); (first | exact len_ints _ | exact len_map _ _ _ | exact len_sl _ _ | exact len_os _ _ _ _ | exact len_vw _ _ _ _ _ | exact len_nil))
  ((with_reducible apply spec_f); exact rfl; exact rfl)
  ((with_reducible refine im_any (fun hc_ => ?_)); (try have hc1_ := (band hc_).1))
  ((with_reducible apply M_gtr); (first | (refine EvM.mb _ rfl ?_; first | assumption | exact rfl) | exact EvM.plain rfl rfl); (first | (refine EvM.mb _ rfl ?_; first | assumption | exact rfl) | exact EvM.plain rfl rfl))
  ((with_reducible apply S_pick_or); (first | (refine EvM.mb _ rfl ?_; first | assumption | exact rfl) | exact EvM.plain rfl rfl); exact rfl; (first | (refine EvB.mb _ rfl ?_; first | exact fun h => h | exact fun h => bnot_mk h | exact fun h => band_mk (by assumption) h | exact fun h => band_mk (by assumption) (bnot_mk h) | (intro h; simp_all)) | exact EvB.plain rfl))
  (with_reducible refine ao_nil ?_)
  (with_reducible refine then_n ?_)
  ((with_reducible apply awp_cond); exact rfl)
  ((with_reducible refine im_ot (fun hc_ => ?_)); (try simp only [Bool.not_eq_true', Bool.not_eq_false', Bool.or_eq_true, Bool.and_eq_true, Bool.or_eq_false_iff, Bool.and_eq_false_iff, decide_eq_true_eq, decide_eq_false_iff_not, Decidable.not_not, Int.not_lt, Int.not_le, Bool.not_true, Bool.not_false, Bool.true_and, Bool.and_true, Bool.false_or, Bool.or_false, Bool.true_or, Bool.false_and, bne_eq_false_iff_eq, bne_iff_ne, beq_iff_eq, beq_eq_false_iff_ne, decide_eq_decide] at hc_))
  (with_reducible refine awp_seq ?_)
  ((with_reducible refine ao_region ?_ (fun _ => ?_)); exact rfl)
  ((with_reducible apply S_assign); exact rfl)
  (with_reducible refine ao_nil ?_)
  (with_reducible refine then_n ?_)
  (with_reducible refine awp_ret ?_)
  (with_reducible refine then_r ?_)
  rotate_left
  iterate 2 (with_reducible refine im_of ?_)
  iterate 3 ((with_reducible refine im_df (fun _ => ?_)); (try (exfalso; omega)))
  (with_reducible refine awp_skip ?_)
  (with_reducible refine then_n ?_)
  iterate 2 (with_reducible refine awp_seq ?_)
  ((with_reducible refine ao_region ?_ (fun _ => ?_)); exact rfl)
  ((with_reducible apply S_assign); exact rfl)
  (with_reducible refine ao_nil ?_)
  (with_reducible refine then_n ?_)
  (with_reducible refine awp_block ?_)
  rotate_left
  · exact done_b rfl (wide_true1 (by omega))
  rename_i v1 _ _ g1 g2 g3 _
  refine awp_loop (X := Nat) (fun k => tmL [(1, .lo 1 (v1, 0) 3 0 0), (3, .int .i64 ((x.from_.length + sumR x.order k : Nat) : Int)), (4, .int .i64 k)]) (fun _ => stL [(1, ((v1, 0), ⟨3, [(exOV x).cells]⟩))])
    (fun k => k ≤ x.order.length ∧ x.from_.length + sumR x.order k ≤ 400) (fun k => x.order.length - k) 0 ⟨Nat.zero_le _, by simp [sumR]; omega⟩ (by repeat' (first | exact le_nil _ | exact sle_nil _ | refine le_cons rfl ?_ | refine sle_cons rfl ?_ | (refine le_cons_os rfl ?_ ?_; (simp [sumR])) | (refine le_cons_int rfl ?_ ?_; (simp [sumR])) | (refine sle_cons' rfl ?_ ?_; (simp [sumR])))) (by repeat' (first | exact le_nil _ | exact sle_nil _ | refine le_cons rfl ?_ | refine sle_cons rfl ?_)) ?_
  rintro k ⟨hk, hn⟩
  have hr := hrw (k : Int).toNat
  iterate 2 (with_reducible refine awp_seq ?_)
  ((with_reducible refine ao_region ?_ (fun _ => ?_)); exact rfl)
  ((with_reducible apply S_move); exact rfl)
  ((with_reducible apply S_fieldAddr_lo); exact rfl; exact rfl; exact rfl; exact rfl; decide; exact rfl)
  ((with_reducible apply S_load_lo); exact rfl; exact rfl; exact rfl; exact rfl; (first | exact rfl | exact get_map (by omega) (0 : Int) | exact get_map (by omega) default); exact rfl)
  ((with_reducible apply S_len); exact rfl; exact rfl; exact rfl; (first | exact len_ints _ | exact len_map _ _ _ | exact len_sl _ _ | exact len_os _ _ _ _ | exact len_vw _ _ _ _ _ | exact len_nil))
  ((with_reducible apply S_lss); exact rfl; exact rfl)
  (with_reducible refine ao_nil ?_)
  (with_reducible refine then_n ?_)
  ((with_reducible apply awp_cond); exact rfl)
  ((with_reducible refine im_dt (fun _ => ?_)); (try (exfalso; omega)))
  (with_reducible refine awp_skip ?_)
  (with_reducible refine then_n ?_)
  (with_reducible refine awp_seq ?_)
  (with_reducible refine awp_block ?_)
  (with_reducible refine awp_seq ?_)
  ((with_reducible refine ao_region ?_ (fun _ => ?_)); exact rfl)
  ((with_reducible apply S_move); exact rfl)
  ((with_reducible apply S_fieldAddr_lo); exact rfl; exact rfl; exact rfl; exact rfl; decide; exact rfl)
  ((with_reducible apply S_load_lo); exact rfl; exact rfl; exact rfl; exact rfl; (first | exact rfl | exact get_map (by omega) (0 : Int) | exact get_map (by omega) default); exact rfl)
  ((with_reducible apply S_move); exact rfl)
  ((with_reducible apply S_indexAddr_sl); exact rfl; exact rfl; exact rfl; exact rfl; exact rfl; exact rfl; omega; (first | exact get_int (by omega) | exact get_map (by omega) default | assumption))
  ((with_reducible apply S_load_pt); exact rfl; exact rfl; exact rfl; exact rfl)
  ((with_reducible apply S_len); exact rfl; exact rfl; exact rfl; (first | exact len_ints _ | exact len_map _ _ _ | exact len_sl _ _ | exact len_os _ _ _ _ | exact len_vw _ _ _ _ _ | exact len_nil))
  ((with_reducible apply S_add64); exact rfl; exact rfl; omega)
  ((with_reducible apply S_assign); exact rfl)
  (with_reducible refine ao_nil ?_)
  (with_reducible refine then_n ?_)
  (with_reducible refine awp_seq ?_)
  ((with_reducible refine ao_region ?_ (fun _ => ?_)); exact rfl)
  ((with_reducible apply S_move); exact rfl)
  ((with_reducible apply S_gtr); exact rfl; exact rfl)
  (with_reducible refine ao_nil ?_)
  (with_reducible refine then_n ?_)
  ((with_reducible apply awp_cond); exact rfl)
  ((with_reducible refine im_dt (fun _ => ?_)); (try (exfalso; omega)))
  (with_reducible refine awp_seq ?_)
  ((with_reducible refine ao_region ?_ (fun _ => ?_)); exact rfl)
  ((with_reducible apply S_assign); exact rfl)
  (with_reducible refine ao_nil ?_)
  (with_reducible refine then_n ?_)
  (with_reducible refine awp_ret ?_)
  (with_reducible refine blk_r ?_)
  iterate 2 (with_reducible refine then_r ?_)
  (with_reducible refine blk_r ?_)
  (with_reducible refine then_r ?_)
  rotate_left
  ((with_reducible refine im_df (fun _ => ?_)); (try (exfalso; omega)))
  (with_reducible refine awp_skip ?_)
  (with_reducible refine blk_n ?_)
  (with_reducible refine then_n ?_)
  ((with_reducible refine ao_region ?_ (fun _ => ?_)); exact rfl)
  ((with_reducible apply S_move); exact rfl)
  ((with_reducible apply S_add64); exact rfl; exact rfl; omega)
  ((with_reducible apply S_assign); exact rfl)
  (with_reducible refine ao_nil ?_)
  (with_reducible refine then_n ?_)
  rotate_left
  ((with_reducible refine im_df (fun _ => ?_)); (try (exfalso; omega)))
  (with_reducible refine awp_exit ?_)
  iterate 2 (with_reducible refine then_x ?_)
  (with_reducible refine blk_x ?_)
  (with_reducible refine then_n ?_)
  iterate 2 (with_reducible refine awp_seq ?_)
  ((with_reducible refine ao_region ?_ (fun _ => ?_)); exact rfl)
  ((with_reducible apply S_assign); exact rfl)
  (with_reducible refine ao_nil ?_)
  (with_reducible refine then_n ?_)
  (with_reducible refine awp_block ?_)
  rotate_left
  · refine done_b rfl (wide_true2 (k := k + 1) ?_)
    rename_i h _
    rw [sumR_succ _ _ (by omega)]
    rw [Int.toNat_natCast] at h
    omega
  · have hs := sumR_succ x.order k (by omega)
    rename_i h _
    rw [Int.toNat_natCast] at h
    refine round' (k + 1) ⟨by omega, by omega⟩ (by omega) (by repeat' (first | exact le_nil _ | exact sle_nil _ | refine le_cons rfl ?_ | refine sle_cons rfl ?_ | (refine le_cons_os rfl ?_ ?_; (rw [hs, Int.toNat_natCast]; omega)) | (refine le_cons_int rfl ?_ ?_; (rw [hs, Int.toNat_natCast]; omega)) | (refine sle_cons' rfl ?_ ?_; (rw [hs, Int.toNat_natCast]; omega)))) (by repeat' (first | exact le_nil _ | exact sle_nil _ | refine le_cons rfl ?_ | refine sle_cons rfl ?_))
  have e : k = x.order.length := by omega
  subst e
  refine awp_loop (X := Nat) (fun i => tmL [(1, .lo 1 (v1, 0) 3 0 0), (3, .int .i64 ((x.from_.length + sumR x.order x.order.length + sumE x.evs i : Nat) : Int)), (5, .int .i64 i)]) (fun _ => stL [(1, ((v1, 0), ⟨3, [(exOV x).cells]⟩))])
    (fun i => i ≤ x.evs.length ∧ x.from_.length + sumR x.order x.order.length + sumE x.evs i ≤ 400) (fun i => x.evs.length - i) 0 ⟨Nat.zero_le _, by simpa [sumE] using hn⟩ (by repeat' (first | exact le_nil _ | exact sle_nil _ | refine le_cons rfl ?_ | refine sle_cons rfl ?_ | (refine le_cons_os rfl ?_ ?_; (simp [sumE])) | (refine le_cons_int rfl ?_ ?_; (simp [sumE])) | (refine sle_cons' rfl ?_ ?_; (simp [sumE])))) (by repeat' (first | exact le_nil _ | exact sle_nil _ | refine le_cons rfl ?_ | refine sle_cons rfl ?_)) ?_
  rintro i ⟨hi, hm⟩
  have he := hev (i : Int).toNat
  iterate 2 (with_reducible refine awp_seq ?_)
  ((with_reducible refine ao_region ?_ (fun _ => ?_)); exact rfl)
  ((with_reducible apply S_move); exact rfl)
  ((with_reducible apply S_fieldAddr_lo); exact rfl; exact rfl; exact rfl; exact rfl; decide; exact rfl)
  ((with_reducible apply S_load_lo); exact rfl; exact rfl; exact rfl; exact rfl; (first | exact rfl | exact get_map (by omega) (0 : Int) | exact get_map (by omega) default); exact rfl)
  ((with_reducible apply S_len); exact rfl; exact rfl; exact rfl; (first | exact len_ints _ | exact len_map _ _ _ | exact len_sl _ _ | exact len_os _ _ _ _ | exact len_vw _ _ _ _ _ | exact len_nil))
  ((with_reducible apply S_lss); exact rfl; exact rfl)
  (with_reducible refine ao_nil ?_)
  (with_reducible refine then_n ?_)
  ((with_reducible apply awp_cond); exact rfl)
  ((with_reducible refine im_dt (fun _ => ?_)); (try (exfalso; omega)))
  (with_reducible refine awp_skip ?_)
  (with_reducible refine then_n ?_)
  (with_reducible refine awp_seq ?_)
  (with_reducible refine awp_block ?_)
  (with_reducible refine awp_seq ?_)
  ((with_reducible refine do_region (E := E) ?_ (fun _ => ?_)); exact rfl)
  ((with_reducible apply D_move); exact rfl)
  ((with_reducible apply D_fieldAddr_lo); exact rfl; exact rfl; exact rfl; exact rfl; decide; exact rfl)
  ((with_reducible apply D_load_lo); exact rfl; exact rfl; exact rfl; exact rfl; (first | exact rfl | exact get_map (by omega) (0 : Int) | exact get_map (by omega) default); exact rfl)
  ((with_reducible apply D_move); exact rfl)
  ((with_reducible apply D_indexAddr_sl); exact rfl; exact rfl; exact rfl; exact rfl; exact rfl; exact rfl; omega; (first | exact get_int (by omega) | exact get_map (by omega) default | assumption))
  ((with_reducible apply D_fieldAddr_pt); exact rfl; exact rfl; exact rfl; exact rfl; decide; exact rfl)
  ((with_reducible apply D_load_pt); exact rfl; exact rfl; exact rfl; exact rfl)
  ((with_reducible apply D_len); exact rfl; exact rfl; exact rfl; (first | exact len_ints _ | exact len_map _ _ _ | exact len_sl _ _ | exact len_os _ _ _ _ | exact len_vw _ _ _ _ _ | exact len_nil))
  ((with_reducible apply D_add64); exact rfl; exact rfl; omega)
  ((with_reducible apply D_fieldAddr_lo); exact rfl; exact rfl; exact rfl; exact rfl; decide; exact rfl)
  ((with_reducible apply D_load_lo); exact rfl; exact rfl; exact rfl; exact rfl; (first | exact rfl | exact get_map (by omega) (0 : Int) | exact get_map (by omega) default); exact rfl)
  ((with_reducible apply D_move); exact rfl)
  ((with_reducible apply D_indexAddr_sl); exact rfl; exact rfl; exact rfl; exact rfl; exact rfl; exact rfl; omega; (first | exact get_int (by omega) | exact get_map (by omega) default | assumption))
  ((with_reducible apply D_fieldAddr_pt); exact rfl; exact rfl; exact rfl; exact rfl; decide; exact rfl)
  ((with_reducible apply D_load_pt); exact rfl; exact rfl; exact rfl; exact rfl)
  ((with_reducible apply D_len); exact rfl; exact rfl; exact rfl; (first | exact len_ints _ | exact len_map _ _ _ | exact len_sl _ _ | exact len_os _ _ _ _ | exact len_vw _ _ _ _ _ | exact len_nil))
  ((with_reducible apply D_add64); exact rfl; exact rfl; omega)
  ((with_reducible apply D_fieldAddr_lo); exact rfl; exact rfl; exact rfl; exact rfl; decide; exact rfl)
  ((with_reducible apply D_load_lo); exact rfl; exact rfl; exact rfl; exact rfl; (first | exact rfl | exact get_map (by omega) (0 : Int) | exact get_map (by omega) default); exact rfl)
  ((with_reducible apply D_move); exact rfl)
  ((with_reducible apply D_indexAddr_sl); exact rfl; exact rfl; exact rfl; exact rfl; exact rfl; exact rfl; omega; (first | exact get_int (by omega) | exact get_map (by omega) default | assumption))
  ((with_reducible apply D_fieldAddr_pt); exact rfl; exact rfl; exact rfl; exact rfl; decide; exact rfl)
  ((with_reducible apply D_load_pt); exact rfl; exact rfl; exact rfl; exact rfl)
  ((with_reducible apply D_len); exact rfl; exact rfl; exact rfl; (first | exact len_ints _ | exact len_map _ _ _ | exact len_sl _ _ | exact len_os _ _ _ _ | exact len_vw _ _ _ _ _ | exact len_nil))
  ((with_reducible apply D_add64); exact rfl; exact rfl; omega)
  ((with_reducible apply D_assign); exact rfl)
  ((with_reducible refine do_nil ?_ ?_); (first | ((try dsimp only [wkeys]); decide +kernel) | exact rfl))
  (with_reducible refine then_n ?_)
  (with_reducible refine awp_seq ?_)
  ((with_reducible refine ao_region ?_ (fun _ => ?_)); exact rfl)
  ((with_reducible apply S_move); exact rfl)
  ((with_reducible apply S_gtr); exact rfl; exact rfl)
  (with_reducible refine ao_nil ?_)
  (with_reducible refine then_n ?_)
  ((with_reducible apply awp_cond); exact rfl)
  ((with_reducible refine im_dt (fun _ => ?_)); (try (exfalso; omega)))
  (with_reducible refine awp_seq ?_)
  ((with_reducible refine ao_region ?_ (fun _ => ?_)); exact rfl)
  ((with_reducible apply S_assign); exact rfl)
  (with_reducible refine ao_nil ?_)
  (with_reducible refine then_n ?_)
  (with_reducible refine awp_ret ?_)
  (with_reducible refine blk_r ?_)
  iterate 2 (with_reducible refine then_r ?_)
  (with_reducible refine blk_r ?_)
  (with_reducible refine then_r ?_)
  rotate_left
  ((with_reducible refine im_df (fun _ => ?_)); (try (exfalso; omega)))
  (with_reducible refine awp_skip ?_)
  (with_reducible refine blk_n ?_)
  (with_reducible refine then_n ?_)
  ((with_reducible refine ao_region ?_ (fun _ => ?_)); exact rfl)
  ((with_reducible apply S_move); exact rfl)
  ((with_reducible apply S_add64); exact rfl; exact rfl; omega)
  ((with_reducible apply S_assign); exact rfl)
  (with_reducible refine ao_nil ?_)
  (with_reducible refine then_n ?_)
  rotate_left
  ((with_reducible refine im_df (fun _ => ?_)); (try (exfalso; omega)))
  (with_reducible refine awp_exit ?_)
  iterate 2 (with_reducible refine then_x ?_)
  (with_reducible refine blk_x ?_)
  (with_reducible refine then_n ?_)
  (with_reducible refine awp_seq ?_)
  ((with_reducible refine ao_region ?_ (fun _ => ?_)); exact rfl)
  ((with_reducible apply S_assign); exact rfl)
  (with_reducible refine ao_nil ?_)
  (with_reducible refine then_n ?_)
  (with_reducible refine awp_ret ?_)
  rotate_left
  · refine done_b rfl (wide_true3 (k := i + 1) ?_)
    rename_i h _
    rw [sumE_succ _ _ (by omega)]
    unfold Ev.lens
    rw [Int.toNat_natCast] at h
    omega
  · have hs := sumE_succ x.evs i (by omega)
    unfold Ev.lens at hs
    rename_i h _
    rw [Int.toNat_natCast] at h
    refine round' (i + 1) ⟨by omega, by omega⟩ (by omega) (by repeat' (first | exact le_nil _ | exact sle_nil _ | refine le_cons rfl ?_ | refine sle_cons rfl ?_ | (refine le_cons_os rfl ?_ ?_; (rw [hs, Int.toNat_natCast]; omega)) | (refine le_cons_int rfl ?_ ?_; (rw [hs, Int.toNat_natCast]; omega)) | (refine sle_cons' rfl ?_ ?_; (rw [hs, Int.toNat_natCast]; omega)))) (by repeat' (first | exact le_nil _ | exact sle_nil _ | refine le_cons rfl ?_ | refine sle_cons rfl ?_))
  · have e : i = x.evs.length := by omega
    subst e
    refine done_b rfl ?_
    unfold wideB
    rw [eq_comm]
    simp only [Bool.or_eq_false_iff, decide_eq_false_iff_not]
    omega
end Go.Proofs.Ytgeaaegkcbjhlaa
