/- An execution with one part otherwise (changed, of the laws of layer 6), where Order has rows. -/
import Derived.Test.YtgeaaegkcbjhlaaCh
set_option maxRecDepth 100000
set_option linter.unusedVariables false
set_option linter.unusedSimpArgs false
namespace Go.Proofs.Ytgeaaegkcbjhlaa
open Go.RowKit
theorem fin_n {N : Nat} {tm : Tm} {σ : Store} {τ8 τE τF τO : Stamp} {n m q : Nat} {rowsE rowsF rowsO : List (List OV)} (es : List Ev) (fr : List Int) (od : List (Sl × List Int)) (ht : tm 8 = some (.lo 8 τ8 3 0 0)) (h8 : σ 8 = some (τ8, ⟨3, [[.os 1007 τE 13 n, .os 1010 τF 1 m, .os 1028 τO 1 q]]⟩))
    (hE : σ 1007 = some (τE, ⟨13, rowsE⟩)) (hF : σ 1010 = some (τF, ⟨1, rowsF⟩)) (hO : σ 1028 = some (τO, ⟨1, rowsO⟩)) (eE : rowsE = es.map evRow) (eF : rowsF = fr.map (cellO .i64)) (eO : rowsO = rowDs od) (hn : n = es.length) (hm : m = fr.length) (hq : q = od.length) (hg : goodY ⟨default, default, default, es, fr, od⟩) :
    awp E.P N .ret (DoneN E [.cell 8 26] (IsX goodY (fun y => exOV y) (fun _ => []))) tm σ := by
  subst eE eF eO hn hm hq
  have z1 : FzR (es.map evRow) (es.map evTV) := FzR.of (f := evRow) (g := evTV) (fun _ => rfl) es
  have z2 : FzR (fr.map (cellO .i64)) (fr.map cell) := FzR.ints fr
  have z3 : FzR (rowDs od) (od.map intRow) := FzR.of (f := fun r : Sl × List Int => [.d (ints r.2)]) (g := intRow) (fun _ => rfl) od
  refine awp_freeze 1007 τE 13 (es.map evTV) (tmL [(8, .lo 8 τ8 3 0 0)]) (stL [(8, (τ8, ⟨3, [[.d (evsTV es), .os 1010 τF 1 fr.length, .os 1028 τO 1 od.length]]⟩)), (1010, (τF, ⟨1, fr.map (cellO .i64)⟩)), (1028, (τO, ⟨1, rowDs od⟩))]) (by rw [hE, z1.eq]) (fz_cons ht (.same _) fz_nil)
    (fs_cons (by decide) h8 (froz3 (froz_os (by simp)) (.same _) (.same _)) (fs_cons (by decide) hF (FrozR.same _) (fs_cons (by decide) hO (FrozR.same _) fs_nil))) ?_
  refine awp_freeze 1010 τF 1 (fr.map cell) (tmL [(8, .lo 8 τ8 3 0 0)]) (stL [(8, (τ8, ⟨3, [[.d (evsTV es), .d (ints fr), .os 1028 τO 1 od.length]]⟩)), (1028, (τO, ⟨1, rowDs od⟩))]) (by rw [← z2.eq]; rfl) (fz_cons rfl (.same _) fz_nil)
    (fs_cons (by decide) rfl (froz3 (.same _) (froz_os (by simp)) (.same _)) (fs_cons (by decide) rfl (FrozR.same _) fs_nil)) ?_
  refine awp_freeze 1028 τO 1 (od.map intRow) (tmL [(8, .lo 8 τ8 3 0 0)]) (stL [(8, (τ8, ⟨3, [[.d (evsTV es), .d (ints fr), .d (rowsTV od)]]⟩))]) (by rw [← z3.eq]; rfl) (fz_cons rfl (.same _) fz_nil)
    (fs_cons (by decide) rfl (froz3 (.same _) (.same _) (froz_os (by simp))) fs_nil) ?_
  exact awp_ret (doneN_cell rfl rfl rfl rfl rfl ⟨⟨default, default, default, es, fr, od⟩, hg, rfl, sle_nil _⟩)
set_option maxHeartbeats 4000000 in
theorem changed_n (x : Ex) (i q : Nat) (how bye : Int) (hx : x.ok) (h1 : x.evs.length ≤ 1000) (h2 : x.from_.length ≤ 1000) (h3 : x.order.length = q + 1) (hq : q + 1 ≤ 1000) (h4 : ∀ i, (x.order.getD i default).2.length ≤ 1000) (hrr : ∀ r ∈ x.order, r.2.length ≤ 1000) (hi : i < x.evs.length) (hh : 0 ≤ how ∧ how < 14) (hb : 0 ≤ bye ∧ bye < 7) :
    FnW E.P 16 [exOV x, .int .i64 i, .int .i64 how, .int .i64 bye] (stL []) (IsX goodY (fun y => exOV y) (fun _ => [])) := by
  have he : (x.evs.getD i default).ok := hx.evC hi
  have f85 : Frozen 85 := ⟨trivial⟩
  have f95 : Frozen 95 := ⟨trivial⟩
  have f106 : Frozen 106 := ⟨trivial⟩
  refine fn_of_awpN (vs := [.cell 8 26]) Try.func16 (by decide) rfl Try.ntmps16 (Nat.le_of_ble_eq_true rfl) rfl ?_
  refine awp_seq ?_
  ((refine ao_region ?_ (fun _ => ?_)); exact rfl)
  (apply S_box; exact rfl; exact rfl; exact rfl)
  (apply S_alloc; exact rfl)
  refine ao_nil ?_
  refine then_n ?_
  refine awp_seq ?_
  ((refine ao_region ?_ (fun _ => ?_)); exact rfl)
  (apply S_load_loA; exact rfl; exact rfl; exact rfl; exact rfl; (first | exact rfl | exact get_map (by omega) default | exact get_set_ne (by omega) (by omega) (0 : Int) | assumption); exact Nat.le_of_ble_eq_true rfl)
  (((apply S_callX; exact rfl; exact .fn _ _ _; exact rfl; exact (copied_n x q h1 h2 h3 hq h4); exact sle_nil _; (intro _; simp); (rintro ⟨τE, τF, τO, τJ⟩ _))))
  (apply S_alloc; exact rfl)
  (apply S_store; exact rfl; exact rfl; exact rfl; exact rfl; exact rfl; exact rfl; (first | exact rfl | exact get_map (by omega) (0 : Int) | exact get_map (by omega) default | exact get_set_ne (by omega) (by omega) (0 : Int) | assumption); exact Nat.le_of_ble_eq_true rfl)
  refine ao_nil ?_
  refine then_n ?_
  refine awp_seq ?_
  ((refine ao_region ?_ (fun _ => ?_)); exact rfl)
  (apply S_fieldAddr_lo; exact rfl; exact rfl; exact rfl; exact rfl; decide; exact rfl)
  (apply S_load_lo; exact rfl; exact rfl; exact rfl; exact rfl; (first | exact rfl | exact get_map (by omega) (0 : Int) | exact get_map (by omega) default | exact hrow _ | assumption); exact rfl)
  (apply S_move; exact rfl)
  (apply S_indexAddr_os; exact rfl; exact rfl; exact rfl; exact rfl; exact rfl; exact rfl; omega)
  (apply S_load_loA; exact rfl; exact rfl; exact rfl; exact rfl; (first | exact rfl | exact get_map (by omega) default | exact get_set_ne (by omega) (by omega) (0 : Int) | assumption); exact Nat.le_of_ble_eq_true rfl)
  (apply S_alloc; exact rfl)
  (apply S_store; exact rfl; exact rfl; exact rfl; exact rfl; exact rfl; exact rfl; (first | exact rfl | exact get_map (by omega) (0 : Int) | exact get_map (by omega) default | exact get_set_ne (by omega) (by omega) (0 : Int) | assumption); exact Nat.le_of_ble_eq_true rfl)
  refine ao_nil ?_
  refine then_n ?_
  iterate 2 refine awp_seq ?_
  ((refine ao_region ?_ (fun _ => ?_)); exact rfl)
  (apply S_move; exact rfl)
  refine ao_nil ?_
  refine then_n ?_
  refine awp_block ?_
  refine awp_seq ?_
  ((refine ao_region ?_ (fun _ => ?_)); exact rfl)
  (apply S_eql; exact rfl; exact rfl)
  (apply S_assign; exact rfl)
  refine ao_nil ?_
  refine then_n ?_
  (apply awp_cond; exact rfl)
  ((refine im_dt (fun _ => ?_)); (try (exfalso; omega)))
  ((refine ao_region ?_ (fun _ => ?_)); exact rfl)
  (apply S_move; exact rfl)
  (apply S_fieldAddr_lo; exact rfl; exact rfl; exact rfl; exact rfl; decide; exact rfl)
  (apply S_store; exact rfl; exact rfl; exact rfl; exact rfl; exact rfl; exact rfl; (first | exact rfl | exact get_map (by omega) (0 : Int) | exact get_map (by omega) default | exact get_set_ne (by omega) (by omega) (0 : Int) | assumption); exact Nat.le_of_ble_eq_true rfl)
  refine ao_nil ?_
  refine blk_n ?_
  refine then_n ?_
  refine awp_seq ?_
  ((refine ao_region ?_ (fun _ => ?_)); exact rfl)
  (apply S_fieldAddr_lo; exact rfl; exact rfl; exact rfl; exact rfl; decide; exact rfl)
  (apply S_load_lo; exact rfl; exact rfl; exact rfl; exact rfl; (first | exact rfl | exact get_map (by omega) (0 : Int) | exact get_map (by omega) default | exact hrow _ | assumption); exact rfl)
  (apply S_move; exact rfl)
  (apply S_load_loA; exact rfl; exact rfl; exact rfl; exact rfl; (first | exact rfl | exact get_map (by omega) default | exact get_set_ne (by omega) (by omega) (0 : Int) | assumption); exact Nat.le_of_ble_eq_true rfl)
  (apply S_indexAddr_os; exact rfl; exact rfl; exact rfl; exact rfl; exact rfl; exact rfl; omega)
  (apply S_store; exact rfl; exact rfl; exact rfl; exact rfl; exact rfl; exact rfl; (first | exact rfl | exact get_map (by omega) (0 : Int) | exact get_map (by omega) default | exact get_set_ne (by omega) (by omega) (0 : Int) | assumption); exact Nat.le_of_ble_eq_true rfl)
  refine ao_nil ?_
  refine then_n ?_
  iterate 2 refine awp_seq ?_
  ((refine ao_region ?_ (fun _ => ?_)); exact rfl)
  (apply S_move; exact rfl)
  (apply S_eql; exact rfl; exact rfl)
  (apply S_move; exact rfl)
  (apply spec_t; exact rfl; exact rfl)
  ((refine im_any (fun hc_ => ?_)); (try have hc1_ := (band hc_).1))
  (apply M_fieldAddr_lo; exact rfl; exact rfl; exact rfl; exact rfl; decide; (first | (refine EvM.mb _ rfl ?_; first | assumption | exact rfl) | exact EvM.plain rfl rfl))
  (apply spec_t; exact rfl; exact rfl)
  ((refine im_any (fun hc_ => ?_)); (try have hc1_ := (band hc_).1))
  (apply M_load_lo; exact rfl; exact rfl; (first | (refine EvM.mb _ rfl ?_; first | assumption | exact rfl) | exact EvM.plain rfl rfl); exact rfl; exact rfl; exact rfl)
  (apply spec_t; exact rfl; exact rfl)
  ((refine im_any (fun hc_ => ?_)); (try have hc1_ := (band hc_).1))
  (apply M_len; exact rfl; exact rfl; (first | (refine EvM.mb _ rfl ?_; first | assumption | exact rfl) | exact EvM.plain rfl rfl); (first | exact len_ints _ | exact len_map _ _ _ | exact len_sl _ _ | exact len_os _ _ _ _ | exact len_vw _ _ _ _ _ | exact len_nil))
  (apply spec_t; exact rfl; exact rfl)
  ((refine im_any (fun hc_ => ?_)); (try have hc1_ := (band hc_).1))
  (apply M_gtr; (first | (refine EvM.mb _ rfl ?_; first | assumption | exact rfl) | exact EvM.plain rfl rfl); (first | (refine EvM.mb _ rfl ?_; first | assumption | exact rfl) | exact EvM.plain rfl rfl))
  (apply S_pick_and; (first | (refine EvM.mb _ rfl ?_; first | assumption | exact rfl) | exact EvM.plain rfl rfl); (first | (refine EvB.mb _ rfl ?_; first | exact fun h => h | exact fun h => bnot_mk h | exact fun h => band_mk (by assumption) h | exact fun h => band_mk (by assumption) (bnot_mk h) | (intro h; simp_all)) | exact EvB.plain rfl); exact rfl)
  refine ao_nil ?_
  refine then_n ?_
  (apply awp_cond; exact rfl)
  refine im_at ?_
  ((refine im_dt (fun _ => ?_)); (try (exfalso; omega)))
  ((refine im_af (fun hc_ => ?_)); (try simp only [Bool.not_eq_true', Bool.not_eq_false', Bool.or_eq_true, Bool.and_eq_true, Bool.or_eq_false_iff, Bool.and_eq_false_iff, decide_eq_true_eq, decide_eq_false_iff_not, Decidable.not_not, Int.not_lt, Int.not_le, Bool.not_true, Bool.not_false, Bool.true_and, Bool.and_true, Bool.false_or, Bool.or_false, Bool.true_or, Bool.false_and, bne_eq_false_iff_eq, bne_iff_ne, beq_iff_eq, beq_eq_false_iff_ne, decide_eq_decide] at hc_))
  refine awp_skip ?_
  refine then_n ?_
  refine awp_seq ?_
  ((refine ao_region ?_ (fun _ => ?_)); exact rfl)
  (apply S_load_loA; exact rfl; exact rfl; exact rfl; exact rfl; (first | exact rfl | exact get_map (by omega) default | exact get_set_ne (by omega) (by omega) (0 : Int) | assumption); exact Nat.le_of_ble_eq_true rfl)
  (apply S_store; exact rfl; exact rfl; exact rfl; exact rfl; exact rfl; exact rfl; (first | exact rfl | exact get_map (by omega) (0 : Int) | exact get_map (by omega) default | exact get_set_ne (by omega) (by omega) (0 : Int) | assumption); exact Nat.le_of_ble_eq_true rfl)
  refine ao_nil ?_
  refine then_n ?_
  rotate_left
  ((refine im_df (fun _ => ?_)); (try (exfalso; omega)))
  refine awp_seq ?_
  ((refine ao_region ?_ (fun _ => ?_)); exact rfl)
  (apply S_eql; exact rfl; exact rfl)
  (apply S_assign; exact rfl)
  refine ao_nil ?_
  refine then_n ?_
  (apply awp_cond; exact rfl)
  ((refine im_dt (fun _ => ?_)); (try (exfalso; omega)))
  ((refine ao_region ?_ (fun _ => ?_)); exact rfl)
  (apply S_move; exact rfl)
  (apply S_sub64; exact rfl; exact rfl; omega)
  (apply S_fieldAddr_lo; exact rfl; exact rfl; exact rfl; exact rfl; decide; exact rfl)
  (apply S_store; exact rfl; exact rfl; exact rfl; exact rfl; exact rfl; exact rfl; (first | exact rfl | exact get_map (by omega) (0 : Int) | exact get_map (by omega) default | exact get_set_ne (by omega) (by omega) (0 : Int) | assumption); exact Nat.le_of_ble_eq_true rfl)
  refine ao_nil ?_
  refine blk_n ?_
  refine then_n ?_
  refine awp_seq ?_
  ((refine ao_region ?_ (fun _ => ?_)); exact rfl)
  (apply S_fieldAddr_lo; exact rfl; exact rfl; exact rfl; exact rfl; decide; exact rfl)
  (apply S_load_lo; exact rfl; exact rfl; exact rfl; exact rfl; (first | exact rfl | exact get_map (by omega) (0 : Int) | exact get_map (by omega) default | exact hrow _ | assumption); exact rfl)
  (apply S_move; exact rfl)
  (apply S_load_loA; exact rfl; exact rfl; exact rfl; exact rfl; (first | exact rfl | exact get_map (by omega) default | exact get_set_ne (by omega) (by omega) (0 : Int) | assumption); exact Nat.le_of_ble_eq_true rfl)
  (apply S_indexAddr_os; exact rfl; exact rfl; exact rfl; exact rfl; exact rfl; exact rfl; omega)
  (apply S_store; exact rfl; exact rfl; exact rfl; exact rfl; exact rfl; exact rfl; (first | exact rfl | exact get_map (by omega) (0 : Int) | exact get_map (by omega) default | exact get_set_ne (by omega) (by omega) (0 : Int) | assumption); exact Nat.le_of_ble_eq_true rfl)
  refine ao_nil ?_
  refine then_n ?_
  iterate 2 refine awp_seq ?_
  ((refine ao_region ?_ (fun _ => ?_)); exact rfl)
  (apply S_move; exact rfl)
  (apply S_eql; exact rfl; exact rfl)
  (apply S_move; exact rfl)
  (apply spec_t; exact rfl; exact rfl)
  ((refine im_any (fun hc_ => ?_)); (try have hc1_ := (band hc_).1))
  (apply M_fieldAddr_lo; exact rfl; exact rfl; exact rfl; exact rfl; decide; (first | (refine EvM.mb _ rfl ?_; first | assumption | exact rfl) | exact EvM.plain rfl rfl))
  (apply spec_t; exact rfl; exact rfl)
  ((refine im_any (fun hc_ => ?_)); (try have hc1_ := (band hc_).1))
  (apply M_load_lo; exact rfl; exact rfl; (first | (refine EvM.mb _ rfl ?_; first | assumption | exact rfl) | exact EvM.plain rfl rfl); exact rfl; exact rfl; exact rfl)
  (apply spec_t; exact rfl; exact rfl)
  ((refine im_any (fun hc_ => ?_)); (try have hc1_ := (band hc_).1))
  (apply M_len; exact rfl; exact rfl; (first | (refine EvM.mb _ rfl ?_; first | assumption | exact rfl) | exact EvM.plain rfl rfl); (first | exact len_ints _ | exact len_map _ _ _ | exact len_sl _ _ | exact len_os _ _ _ _ | exact len_vw _ _ _ _ _ | exact len_nil))
  (apply spec_t; exact rfl; exact rfl)
  ((refine im_any (fun hc_ => ?_)); (try have hc1_ := (band hc_).1))
  (apply M_gtr; (first | (refine EvM.mb _ rfl ?_; first | assumption | exact rfl) | exact EvM.plain rfl rfl); (first | (refine EvM.mb _ rfl ?_; first | assumption | exact rfl) | exact EvM.plain rfl rfl))
  (apply S_pick_and; (first | (refine EvM.mb _ rfl ?_; first | assumption | exact rfl) | exact EvM.plain rfl rfl); (first | (refine EvB.mb _ rfl ?_; first | exact fun h => h | exact fun h => bnot_mk h | exact fun h => band_mk (by assumption) h | exact fun h => band_mk (by assumption) (bnot_mk h) | (intro h; simp_all)) | exact EvB.plain rfl); exact rfl)
  refine ao_nil ?_
  refine then_n ?_
  (apply awp_cond; exact rfl)
  refine im_at ?_
  ((refine im_dt (fun _ => ?_)); (try (exfalso; omega)))
  ((refine im_af (fun hc_ => ?_)); (try simp only [Bool.not_eq_true', Bool.not_eq_false', Bool.or_eq_true, Bool.and_eq_true, Bool.or_eq_false_iff, Bool.and_eq_false_iff, decide_eq_true_eq, decide_eq_false_iff_not, Decidable.not_not, Int.not_lt, Int.not_le, Bool.not_true, Bool.not_false, Bool.true_and, Bool.and_true, Bool.false_or, Bool.or_false, Bool.true_or, Bool.false_and, bne_eq_false_iff_eq, bne_iff_ne, beq_iff_eq, beq_eq_false_iff_ne, decide_eq_decide] at hc_))
  refine awp_skip ?_
  refine then_n ?_
  refine awp_seq ?_
  ((refine ao_region ?_ (fun _ => ?_)); exact rfl)
  (apply S_load_loA; exact rfl; exact rfl; exact rfl; exact rfl; (first | exact rfl | exact get_map (by omega) default | exact get_set_ne (by omega) (by omega) (0 : Int) | assumption); exact Nat.le_of_ble_eq_true rfl)
  (apply S_store; exact rfl; exact rfl; exact rfl; exact rfl; exact rfl; exact rfl; (first | exact rfl | exact get_map (by omega) (0 : Int) | exact get_map (by omega) default | exact get_set_ne (by omega) (by omega) (0 : Int) | assumption); exact Nat.le_of_ble_eq_true rfl)
  refine ao_nil ?_
  refine then_n ?_
  rotate_left
  ((refine im_df (fun _ => ?_)); (try (exfalso; omega)))
  refine awp_seq ?_
  ((refine ao_region ?_ (fun _ => ?_)); exact rfl)
  (apply S_eql; exact rfl; exact rfl)
  (apply S_assign; exact rfl)
  refine ao_nil ?_
  refine then_n ?_
  (apply awp_cond; exact rfl)
  ((refine im_dt (fun _ => ?_)); (try (exfalso; omega)))
  ((refine ao_region ?_ (fun _ => ?_)); exact rfl)
  (apply S_fieldAddr_lo; exact rfl; exact rfl; exact rfl; exact rfl; decide; exact rfl)
  (apply S_load_lo; exact rfl; exact rfl; exact rfl; exact rfl; (first | exact rfl | exact get_map (by omega) (0 : Int) | exact get_map (by omega) default | exact hrow _ | assumption); exact rfl)
  (apply S_move; exact rfl)
  (apply S_conv32u; exact rfl; exact rfl; exact rfl; exact rfl; exact rfl; omega)
  (apply S_add32; exact rfl; exact rfl)
  (apply S_fieldAddr_lo; exact rfl; exact rfl; exact rfl; exact rfl; decide; exact rfl)
  (apply S_store; exact rfl; exact rfl; exact rfl; exact rfl; exact rfl; exact rfl; (first | exact rfl | exact get_map (by omega) (0 : Int) | exact get_map (by omega) default | exact get_set_ne (by omega) (by omega) (0 : Int) | assumption); exact Nat.le_of_ble_eq_true rfl)
  refine ao_nil ?_
  refine blk_n ?_
  refine then_n ?_
  refine awp_seq ?_
  ((refine ao_region ?_ (fun _ => ?_)); exact rfl)
  (apply S_fieldAddr_lo; exact rfl; exact rfl; exact rfl; exact rfl; decide; exact rfl)
  (apply S_load_lo; exact rfl; exact rfl; exact rfl; exact rfl; (first | exact rfl | exact get_map (by omega) (0 : Int) | exact get_map (by omega) default | exact hrow _ | assumption); exact rfl)
  (apply S_move; exact rfl)
  (apply S_load_loA; exact rfl; exact rfl; exact rfl; exact rfl; (first | exact rfl | exact get_map (by omega) default | exact get_set_ne (by omega) (by omega) (0 : Int) | assumption); exact Nat.le_of_ble_eq_true rfl)
  (apply S_indexAddr_os; exact rfl; exact rfl; exact rfl; exact rfl; exact rfl; exact rfl; omega)
  (apply S_store; exact rfl; exact rfl; exact rfl; exact rfl; exact rfl; exact rfl; (first | exact rfl | exact get_map (by omega) (0 : Int) | exact get_map (by omega) default | exact get_set_ne (by omega) (by omega) (0 : Int) | assumption); exact Nat.le_of_ble_eq_true rfl)
  refine ao_nil ?_
  refine then_n ?_
  iterate 2 refine awp_seq ?_
  ((refine ao_region ?_ (fun _ => ?_)); exact rfl)
  (apply S_move; exact rfl)
  (apply S_eql; exact rfl; exact rfl)
  (apply S_move; exact rfl)
  (apply spec_t; exact rfl; exact rfl)
  ((refine im_any (fun hc_ => ?_)); (try have hc1_ := (band hc_).1))
  (apply M_fieldAddr_lo; exact rfl; exact rfl; exact rfl; exact rfl; decide; (first | (refine EvM.mb _ rfl ?_; first | assumption | exact rfl) | exact EvM.plain rfl rfl))
  (apply spec_t; exact rfl; exact rfl)
  ((refine im_any (fun hc_ => ?_)); (try have hc1_ := (band hc_).1))
  (apply M_load_lo; exact rfl; exact rfl; (first | (refine EvM.mb _ rfl ?_; first | assumption | exact rfl) | exact EvM.plain rfl rfl); exact rfl; exact rfl; exact rfl)
  (apply spec_t; exact rfl; exact rfl)
  ((refine im_any (fun hc_ => ?_)); (try have hc1_ := (band hc_).1))
  (apply M_len; exact rfl; exact rfl; (first | (refine EvM.mb _ rfl ?_; first | assumption | exact rfl) | exact EvM.plain rfl rfl); (first | exact len_ints _ | exact len_map _ _ _ | exact len_sl _ _ | exact len_os _ _ _ _ | exact len_vw _ _ _ _ _ | exact len_nil))
  (apply spec_t; exact rfl; exact rfl)
  ((refine im_any (fun hc_ => ?_)); (try have hc1_ := (band hc_).1))
  (apply M_gtr; (first | (refine EvM.mb _ rfl ?_; first | assumption | exact rfl) | exact EvM.plain rfl rfl); (first | (refine EvM.mb _ rfl ?_; first | assumption | exact rfl) | exact EvM.plain rfl rfl))
  (apply S_pick_and; (first | (refine EvM.mb _ rfl ?_; first | assumption | exact rfl) | exact EvM.plain rfl rfl); (first | (refine EvB.mb _ rfl ?_; first | exact fun h => h | exact fun h => bnot_mk h | exact fun h => band_mk (by assumption) h | exact fun h => band_mk (by assumption) (bnot_mk h) | (intro h; simp_all)) | exact EvB.plain rfl); exact rfl)
  refine ao_nil ?_
  refine then_n ?_
  (apply awp_cond; exact rfl)
  refine im_at ?_
  ((refine im_dt (fun _ => ?_)); (try (exfalso; omega)))
  ((refine im_af (fun hc_ => ?_)); (try simp only [Bool.not_eq_true', Bool.not_eq_false', Bool.or_eq_true, Bool.and_eq_true, Bool.or_eq_false_iff, Bool.and_eq_false_iff, decide_eq_true_eq, decide_eq_false_iff_not, Decidable.not_not, Int.not_lt, Int.not_le, Bool.not_true, Bool.not_false, Bool.true_and, Bool.and_true, Bool.false_or, Bool.or_false, Bool.true_or, Bool.false_and, bne_eq_false_iff_eq, bne_iff_ne, beq_iff_eq, beq_eq_false_iff_ne, decide_eq_decide] at hc_))
  refine awp_skip ?_
  refine then_n ?_
  refine awp_seq ?_
  ((refine ao_region ?_ (fun _ => ?_)); exact rfl)
  (apply S_load_loA; exact rfl; exact rfl; exact rfl; exact rfl; (first | exact rfl | exact get_map (by omega) default | exact get_set_ne (by omega) (by omega) (0 : Int) | assumption); exact Nat.le_of_ble_eq_true rfl)
  (apply S_store; exact rfl; exact rfl; exact rfl; exact rfl; exact rfl; exact rfl; (first | exact rfl | exact get_map (by omega) (0 : Int) | exact get_map (by omega) default | exact get_set_ne (by omega) (by omega) (0 : Int) | assumption); exact Nat.le_of_ble_eq_true rfl)
  refine ao_nil ?_
  refine then_n ?_
  rotate_left
  ((refine im_df (fun _ => ?_)); (try (exfalso; omega)))
  refine awp_seq ?_
  ((refine ao_region ?_ (fun _ => ?_)); exact rfl)
  (apply S_eql; exact rfl; exact rfl)
  (apply S_assign; exact rfl)
  refine ao_nil ?_
  refine then_n ?_
  (apply awp_cond; exact rfl)
  ((refine im_dt (fun _ => ?_)); (try (exfalso; omega)))
  ((refine ao_region ?_ (fun _ => ?_)); exact rfl)
  (apply S_fieldAddr_lo; exact rfl; exact rfl; exact rfl; exact rfl; decide; exact rfl)
  (apply S_load_lo; exact rfl; exact rfl; exact rfl; exact rfl; (first | exact rfl | exact get_map (by omega) (0 : Int) | exact get_map (by omega) default | exact hrow _ | assumption); exact rfl)
  (apply S_move; exact rfl)
  (apply S_conv32u; exact rfl; exact rfl; exact rfl; exact rfl; exact rfl; omega)
  (apply S_add32; exact rfl; exact rfl)
  (apply S_fieldAddr_lo; exact rfl; exact rfl; exact rfl; exact rfl; decide; exact rfl)
  (apply S_store; exact rfl; exact rfl; exact rfl; exact rfl; exact rfl; exact rfl; (first | exact rfl | exact get_map (by omega) (0 : Int) | exact get_map (by omega) default | exact get_set_ne (by omega) (by omega) (0 : Int) | assumption); exact Nat.le_of_ble_eq_true rfl)
  refine ao_nil ?_
  refine blk_n ?_
  refine then_n ?_
  refine awp_seq ?_
  ((refine ao_region ?_ (fun _ => ?_)); exact rfl)
  (apply S_fieldAddr_lo; exact rfl; exact rfl; exact rfl; exact rfl; decide; exact rfl)
  (apply S_load_lo; exact rfl; exact rfl; exact rfl; exact rfl; (first | exact rfl | exact get_map (by omega) (0 : Int) | exact get_map (by omega) default | exact hrow _ | assumption); exact rfl)
  (apply S_move; exact rfl)
  (apply S_load_loA; exact rfl; exact rfl; exact rfl; exact rfl; (first | exact rfl | exact get_map (by omega) default | exact get_set_ne (by omega) (by omega) (0 : Int) | assumption); exact Nat.le_of_ble_eq_true rfl)
  (apply S_indexAddr_os; exact rfl; exact rfl; exact rfl; exact rfl; exact rfl; exact rfl; omega)
  (apply S_store; exact rfl; exact rfl; exact rfl; exact rfl; exact rfl; exact rfl; (first | exact rfl | exact get_map (by omega) (0 : Int) | exact get_map (by omega) default | exact get_set_ne (by omega) (by omega) (0 : Int) | assumption); exact Nat.le_of_ble_eq_true rfl)
  refine ao_nil ?_
  refine then_n ?_
  iterate 2 refine awp_seq ?_
  ((refine ao_region ?_ (fun _ => ?_)); exact rfl)
  (apply S_move; exact rfl)
  (apply S_eql; exact rfl; exact rfl)
  (apply S_move; exact rfl)
  (apply spec_t; exact rfl; exact rfl)
  ((refine im_any (fun hc_ => ?_)); (try have hc1_ := (band hc_).1))
  (apply M_fieldAddr_lo; exact rfl; exact rfl; exact rfl; exact rfl; decide; (first | (refine EvM.mb _ rfl ?_; first | assumption | exact rfl) | exact EvM.plain rfl rfl))
  (apply spec_t; exact rfl; exact rfl)
  ((refine im_any (fun hc_ => ?_)); (try have hc1_ := (band hc_).1))
  (apply M_load_lo; exact rfl; exact rfl; (first | (refine EvM.mb _ rfl ?_; first | assumption | exact rfl) | exact EvM.plain rfl rfl); exact rfl; exact rfl; exact rfl)
  (apply spec_t; exact rfl; exact rfl)
  ((refine im_any (fun hc_ => ?_)); (try have hc1_ := (band hc_).1))
  (apply M_len; exact rfl; exact rfl; (first | (refine EvM.mb _ rfl ?_; first | assumption | exact rfl) | exact EvM.plain rfl rfl); (first | exact len_ints _ | exact len_map _ _ _ | exact len_sl _ _ | exact len_os _ _ _ _ | exact len_vw _ _ _ _ _ | exact len_nil))
  (apply spec_t; exact rfl; exact rfl)
  ((refine im_any (fun hc_ => ?_)); (try have hc1_ := (band hc_).1))
  (apply M_gtr; (first | (refine EvM.mb _ rfl ?_; first | assumption | exact rfl) | exact EvM.plain rfl rfl); (first | (refine EvM.mb _ rfl ?_; first | assumption | exact rfl) | exact EvM.plain rfl rfl))
  (apply S_pick_and; (first | (refine EvM.mb _ rfl ?_; first | assumption | exact rfl) | exact EvM.plain rfl rfl); (first | (refine EvB.mb _ rfl ?_; first | exact fun h => h | exact fun h => bnot_mk h | exact fun h => band_mk (by assumption) h | exact fun h => band_mk (by assumption) (bnot_mk h) | (intro h; simp_all)) | exact EvB.plain rfl); exact rfl)
  refine ao_nil ?_
  refine then_n ?_
  (apply awp_cond; exact rfl)
  refine im_at ?_
  ((refine im_dt (fun _ => ?_)); (try (exfalso; omega)))
  ((refine im_af (fun hc_ => ?_)); (try simp only [Bool.not_eq_true', Bool.not_eq_false', Bool.or_eq_true, Bool.and_eq_true, Bool.or_eq_false_iff, Bool.and_eq_false_iff, decide_eq_true_eq, decide_eq_false_iff_not, Decidable.not_not, Int.not_lt, Int.not_le, Bool.not_true, Bool.not_false, Bool.true_and, Bool.and_true, Bool.false_or, Bool.or_false, Bool.true_or, Bool.false_and, bne_eq_false_iff_eq, bne_iff_ne, beq_iff_eq, beq_eq_false_iff_ne, decide_eq_decide] at hc_))
  refine awp_skip ?_
  refine then_n ?_
  refine awp_seq ?_
  ((refine ao_region ?_ (fun _ => ?_)); exact rfl)
  (apply S_load_loA; exact rfl; exact rfl; exact rfl; exact rfl; (first | exact rfl | exact get_map (by omega) default | exact get_set_ne (by omega) (by omega) (0 : Int) | assumption); exact Nat.le_of_ble_eq_true rfl)
  (apply S_store; exact rfl; exact rfl; exact rfl; exact rfl; exact rfl; exact rfl; (first | exact rfl | exact get_map (by omega) (0 : Int) | exact get_map (by omega) default | exact get_set_ne (by omega) (by omega) (0 : Int) | assumption); exact Nat.le_of_ble_eq_true rfl)
  refine ao_nil ?_
  refine then_n ?_
  rotate_left
  ((refine im_df (fun _ => ?_)); (try (exfalso; omega)))
  refine awp_seq ?_
  ((refine ao_region ?_ (fun _ => ?_)); exact rfl)
  (apply S_eql; exact rfl; exact rfl)
  (apply S_assign; exact rfl)
  refine ao_nil ?_
  refine then_n ?_
  (apply awp_cond; exact rfl)
  ((refine im_dt (fun _ => ?_)); (try (exfalso; omega)))
  ((refine ao_region ?_ (fun _ => ?_)); exact rfl)
  (apply S_fieldAddr_lo; exact rfl; exact rfl; exact rfl; exact rfl; decide; exact rfl)
  (apply S_load_lo; exact rfl; exact rfl; exact rfl; exact rfl; (first | exact rfl | exact get_map (by omega) (0 : Int) | exact get_map (by omega) default | exact hrow _ | assumption); exact rfl)
  (apply S_move; exact rfl)
  (apply S_conv32u; exact rfl; exact rfl; exact rfl; exact rfl; exact rfl; omega)
  (apply S_add32; exact rfl; exact rfl)
  (apply S_fieldAddr_lo; exact rfl; exact rfl; exact rfl; exact rfl; decide; exact rfl)
  (apply S_store; exact rfl; exact rfl; exact rfl; exact rfl; exact rfl; exact rfl; (first | exact rfl | exact get_map (by omega) (0 : Int) | exact get_map (by omega) default | exact get_set_ne (by omega) (by omega) (0 : Int) | assumption); exact Nat.le_of_ble_eq_true rfl)
  refine ao_nil ?_
  refine blk_n ?_
  refine then_n ?_
  refine awp_seq ?_
  ((refine ao_region ?_ (fun _ => ?_)); exact rfl)
  (apply S_fieldAddr_lo; exact rfl; exact rfl; exact rfl; exact rfl; decide; exact rfl)
  (apply S_load_lo; exact rfl; exact rfl; exact rfl; exact rfl; (first | exact rfl | exact get_map (by omega) (0 : Int) | exact get_map (by omega) default | exact hrow _ | assumption); exact rfl)
  (apply S_move; exact rfl)
  (apply S_load_loA; exact rfl; exact rfl; exact rfl; exact rfl; (first | exact rfl | exact get_map (by omega) default | exact get_set_ne (by omega) (by omega) (0 : Int) | assumption); exact Nat.le_of_ble_eq_true rfl)
  (apply S_indexAddr_os; exact rfl; exact rfl; exact rfl; exact rfl; exact rfl; exact rfl; omega)
  (apply S_store; exact rfl; exact rfl; exact rfl; exact rfl; exact rfl; exact rfl; (first | exact rfl | exact get_map (by omega) (0 : Int) | exact get_map (by omega) default | exact get_set_ne (by omega) (by omega) (0 : Int) | assumption); exact Nat.le_of_ble_eq_true rfl)
  refine ao_nil ?_
  refine then_n ?_
  iterate 2 refine awp_seq ?_
  ((refine ao_region ?_ (fun _ => ?_)); exact rfl)
  (apply S_move; exact rfl)
  (apply S_eql; exact rfl; exact rfl)
  (apply S_move; exact rfl)
  (apply spec_t; exact rfl; exact rfl)
  ((refine im_any (fun hc_ => ?_)); (try have hc1_ := (band hc_).1))
  (apply M_fieldAddr_lo; exact rfl; exact rfl; exact rfl; exact rfl; decide; (first | (refine EvM.mb _ rfl ?_; first | assumption | exact rfl) | exact EvM.plain rfl rfl))
  (apply spec_t; exact rfl; exact rfl)
  ((refine im_any (fun hc_ => ?_)); (try have hc1_ := (band hc_).1))
  (apply M_load_lo; exact rfl; exact rfl; (first | (refine EvM.mb _ rfl ?_; first | assumption | exact rfl) | exact EvM.plain rfl rfl); exact rfl; exact rfl; exact rfl)
  (apply spec_t; exact rfl; exact rfl)
  ((refine im_any (fun hc_ => ?_)); (try have hc1_ := (band hc_).1))
  (apply M_len; exact rfl; exact rfl; (first | (refine EvM.mb _ rfl ?_; first | assumption | exact rfl) | exact EvM.plain rfl rfl); (first | exact len_ints _ | exact len_map _ _ _ | exact len_sl _ _ | exact len_os _ _ _ _ | exact len_vw _ _ _ _ _ | exact len_nil))
  (apply spec_t; exact rfl; exact rfl)
  ((refine im_any (fun hc_ => ?_)); (try have hc1_ := (band hc_).1))
  (apply M_gtr; (first | (refine EvM.mb _ rfl ?_; first | assumption | exact rfl) | exact EvM.plain rfl rfl); (first | (refine EvM.mb _ rfl ?_; first | assumption | exact rfl) | exact EvM.plain rfl rfl))
  (apply S_pick_and; (first | (refine EvM.mb _ rfl ?_; first | assumption | exact rfl) | exact EvM.plain rfl rfl); (first | (refine EvB.mb _ rfl ?_; first | exact fun h => h | exact fun h => bnot_mk h | exact fun h => band_mk (by assumption) h | exact fun h => band_mk (by assumption) (bnot_mk h) | (intro h; simp_all)) | exact EvB.plain rfl); exact rfl)
  refine ao_nil ?_
  refine then_n ?_
  (apply awp_cond; exact rfl)
  refine im_at ?_
  ((refine im_dt (fun _ => ?_)); (try (exfalso; omega)))
  ((refine im_af (fun hc_ => ?_)); (try simp only [Bool.not_eq_true', Bool.not_eq_false', Bool.or_eq_true, Bool.and_eq_true, Bool.or_eq_false_iff, Bool.and_eq_false_iff, decide_eq_true_eq, decide_eq_false_iff_not, Decidable.not_not, Int.not_lt, Int.not_le, Bool.not_true, Bool.not_false, Bool.true_and, Bool.and_true, Bool.false_or, Bool.or_false, Bool.true_or, Bool.false_and, bne_eq_false_iff_eq, bne_iff_ne, beq_iff_eq, beq_eq_false_iff_ne, decide_eq_decide] at hc_))
  refine awp_skip ?_
  refine then_n ?_
  refine awp_seq ?_
  ((refine ao_region ?_ (fun _ => ?_)); exact rfl)
  (apply S_load_loA; exact rfl; exact rfl; exact rfl; exact rfl; (first | exact rfl | exact get_map (by omega) default | exact get_set_ne (by omega) (by omega) (0 : Int) | assumption); exact Nat.le_of_ble_eq_true rfl)
  (apply S_store; exact rfl; exact rfl; exact rfl; exact rfl; exact rfl; exact rfl; (first | exact rfl | exact get_map (by omega) (0 : Int) | exact get_map (by omega) default | exact get_set_ne (by omega) (by omega) (0 : Int) | assumption); exact Nat.le_of_ble_eq_true rfl)
  refine ao_nil ?_
  refine then_n ?_
  rotate_left
  ((refine im_df (fun _ => ?_)); (try (exfalso; omega)))
  refine awp_seq ?_
  ((refine ao_region ?_ (fun _ => ?_)); exact rfl)
  (apply S_eql; exact rfl; exact rfl)
  (apply S_assign; exact rfl)
  refine ao_nil ?_
  refine then_n ?_
  (apply awp_cond; exact rfl)
  ((refine im_dt (fun _ => ?_)); (try (exfalso; omega)))
  ((refine ao_region ?_ (fun _ => ?_)); exact rfl)
  (apply S_fieldAddr_lo; exact rfl; exact rfl; exact rfl; exact rfl; decide; exact rfl)
  (apply S_load_lo; exact rfl; exact rfl; exact rfl; exact rfl; (first | exact rfl | exact get_map (by omega) (0 : Int) | exact get_map (by omega) default | exact hrow _ | assumption); exact rfl)
  (apply S_not; exact rfl)
  (apply S_fieldAddr_lo; exact rfl; exact rfl; exact rfl; exact rfl; decide; exact rfl)
  (apply S_store; exact rfl; exact rfl; exact rfl; exact rfl; exact rfl; exact rfl; (first | exact rfl | exact get_map (by omega) (0 : Int) | exact get_map (by omega) default | exact get_set_ne (by omega) (by omega) (0 : Int) | assumption); exact Nat.le_of_ble_eq_true rfl)
  refine ao_nil ?_
  refine blk_n ?_
  refine then_n ?_
  refine awp_seq ?_
  ((refine ao_region ?_ (fun _ => ?_)); exact rfl)
  (apply S_fieldAddr_lo; exact rfl; exact rfl; exact rfl; exact rfl; decide; exact rfl)
  (apply S_load_lo; exact rfl; exact rfl; exact rfl; exact rfl; (first | exact rfl | exact get_map (by omega) (0 : Int) | exact get_map (by omega) default | exact hrow _ | assumption); exact rfl)
  (apply S_move; exact rfl)
  (apply S_load_loA; exact rfl; exact rfl; exact rfl; exact rfl; (first | exact rfl | exact get_map (by omega) default | exact get_set_ne (by omega) (by omega) (0 : Int) | assumption); exact Nat.le_of_ble_eq_true rfl)
  (apply S_indexAddr_os; exact rfl; exact rfl; exact rfl; exact rfl; exact rfl; exact rfl; omega)
  (apply S_store; exact rfl; exact rfl; exact rfl; exact rfl; exact rfl; exact rfl; (first | exact rfl | exact get_map (by omega) (0 : Int) | exact get_map (by omega) default | exact get_set_ne (by omega) (by omega) (0 : Int) | assumption); exact Nat.le_of_ble_eq_true rfl)
  refine ao_nil ?_
  refine then_n ?_
  iterate 2 refine awp_seq ?_
  ((refine ao_region ?_ (fun _ => ?_)); exact rfl)
  (apply S_move; exact rfl)
  (apply S_eql; exact rfl; exact rfl)
  (apply S_move; exact rfl)
  (apply spec_t; exact rfl; exact rfl)
  ((refine im_any (fun hc_ => ?_)); (try have hc1_ := (band hc_).1))
  (apply M_fieldAddr_lo; exact rfl; exact rfl; exact rfl; exact rfl; decide; (first | (refine EvM.mb _ rfl ?_; first | assumption | exact rfl) | exact EvM.plain rfl rfl))
  (apply spec_t; exact rfl; exact rfl)
  ((refine im_any (fun hc_ => ?_)); (try have hc1_ := (band hc_).1))
  (apply M_load_lo; exact rfl; exact rfl; (first | (refine EvM.mb _ rfl ?_; first | assumption | exact rfl) | exact EvM.plain rfl rfl); exact rfl; exact rfl; exact rfl)
  (apply spec_t; exact rfl; exact rfl)
  ((refine im_any (fun hc_ => ?_)); (try have hc1_ := (band hc_).1))
  (apply M_len; exact rfl; exact rfl; (first | (refine EvM.mb _ rfl ?_; first | assumption | exact rfl) | exact EvM.plain rfl rfl); (first | exact len_ints _ | exact len_map _ _ _ | exact len_sl _ _ | exact len_os _ _ _ _ | exact len_vw _ _ _ _ _ | exact len_nil))
  (apply spec_t; exact rfl; exact rfl)
  ((refine im_any (fun hc_ => ?_)); (try have hc1_ := (band hc_).1))
  (apply M_gtr; (first | (refine EvM.mb _ rfl ?_; first | assumption | exact rfl) | exact EvM.plain rfl rfl); (first | (refine EvM.mb _ rfl ?_; first | assumption | exact rfl) | exact EvM.plain rfl rfl))
  (apply S_pick_and; (first | (refine EvM.mb _ rfl ?_; first | assumption | exact rfl) | exact EvM.plain rfl rfl); (first | (refine EvB.mb _ rfl ?_; first | exact fun h => h | exact fun h => bnot_mk h | exact fun h => band_mk (by assumption) h | exact fun h => band_mk (by assumption) (bnot_mk h) | (intro h; simp_all)) | exact EvB.plain rfl); exact rfl)
  refine ao_nil ?_
  refine then_n ?_
  (apply awp_cond; exact rfl)
  refine im_at ?_
  ((refine im_dt (fun _ => ?_)); (try (exfalso; omega)))
  ((refine im_af (fun hc_ => ?_)); (try simp only [Bool.not_eq_true', Bool.not_eq_false', Bool.or_eq_true, Bool.and_eq_true, Bool.or_eq_false_iff, Bool.and_eq_false_iff, decide_eq_true_eq, decide_eq_false_iff_not, Decidable.not_not, Int.not_lt, Int.not_le, Bool.not_true, Bool.not_false, Bool.true_and, Bool.and_true, Bool.false_or, Bool.or_false, Bool.true_or, Bool.false_and, bne_eq_false_iff_eq, bne_iff_ne, beq_iff_eq, beq_eq_false_iff_ne, decide_eq_decide] at hc_))
  refine awp_skip ?_
  refine then_n ?_
  refine awp_seq ?_
  ((refine ao_region ?_ (fun _ => ?_)); exact rfl)
  (apply S_load_loA; exact rfl; exact rfl; exact rfl; exact rfl; (first | exact rfl | exact get_map (by omega) default | exact get_set_ne (by omega) (by omega) (0 : Int) | assumption); exact Nat.le_of_ble_eq_true rfl)
  (apply S_store; exact rfl; exact rfl; exact rfl; exact rfl; exact rfl; exact rfl; (first | exact rfl | exact get_map (by omega) (0 : Int) | exact get_map (by omega) default | exact get_set_ne (by omega) (by omega) (0 : Int) | assumption); exact Nat.le_of_ble_eq_true rfl)
  refine ao_nil ?_
  refine then_n ?_
  rotate_left
  ((refine im_df (fun _ => ?_)); (try (exfalso; omega)))
  refine awp_seq ?_
  ((refine ao_region ?_ (fun _ => ?_)); exact rfl)
  (apply S_eql; exact rfl; exact rfl)
  (apply S_assign; exact rfl)
  refine ao_nil ?_
  refine then_n ?_
  (apply awp_cond; exact rfl)
  ((refine im_dt (fun _ => ?_)); (try (exfalso; omega)))
  ((refine ao_region ?_ (fun _ => ?_)); exact rfl)
  (apply S_fieldAddr_lo; exact rfl; exact rfl; exact rfl; exact rfl; decide; exact rfl)
  (apply S_load_lo; exact rfl; exact rfl; exact rfl; exact rfl; (first | exact rfl | exact get_map (by omega) (0 : Int) | exact get_map (by omega) default | exact hrow _ | assumption); exact rfl)
  (apply S_not; exact rfl)
  (apply S_fieldAddr_lo; exact rfl; exact rfl; exact rfl; exact rfl; decide; exact rfl)
  (apply S_store; exact rfl; exact rfl; exact rfl; exact rfl; exact rfl; exact rfl; (first | exact rfl | exact get_map (by omega) (0 : Int) | exact get_map (by omega) default | exact get_set_ne (by omega) (by omega) (0 : Int) | assumption); exact Nat.le_of_ble_eq_true rfl)
  refine ao_nil ?_
  refine blk_n ?_
  refine then_n ?_
  refine awp_seq ?_
  ((refine ao_region ?_ (fun _ => ?_)); exact rfl)
  (apply S_fieldAddr_lo; exact rfl; exact rfl; exact rfl; exact rfl; decide; exact rfl)
  (apply S_load_lo; exact rfl; exact rfl; exact rfl; exact rfl; (first | exact rfl | exact get_map (by omega) (0 : Int) | exact get_map (by omega) default | exact hrow _ | assumption); exact rfl)
  (apply S_move; exact rfl)
  (apply S_load_loA; exact rfl; exact rfl; exact rfl; exact rfl; (first | exact rfl | exact get_map (by omega) default | exact get_set_ne (by omega) (by omega) (0 : Int) | assumption); exact Nat.le_of_ble_eq_true rfl)
  (apply S_indexAddr_os; exact rfl; exact rfl; exact rfl; exact rfl; exact rfl; exact rfl; omega)
  (apply S_store; exact rfl; exact rfl; exact rfl; exact rfl; exact rfl; exact rfl; (first | exact rfl | exact get_map (by omega) (0 : Int) | exact get_map (by omega) default | exact get_set_ne (by omega) (by omega) (0 : Int) | assumption); exact Nat.le_of_ble_eq_true rfl)
  refine ao_nil ?_
  refine then_n ?_
  iterate 2 refine awp_seq ?_
  ((refine ao_region ?_ (fun _ => ?_)); exact rfl)
  (apply S_move; exact rfl)
  (apply S_eql; exact rfl; exact rfl)
  (apply S_move; exact rfl)
  (apply spec_t; exact rfl; exact rfl)
  ((refine im_any (fun hc_ => ?_)); (try have hc1_ := (band hc_).1))
  (apply M_fieldAddr_lo; exact rfl; exact rfl; exact rfl; exact rfl; decide; (first | (refine EvM.mb _ rfl ?_; first | assumption | exact rfl) | exact EvM.plain rfl rfl))
  (apply spec_t; exact rfl; exact rfl)
  ((refine im_any (fun hc_ => ?_)); (try have hc1_ := (band hc_).1))
  (apply M_load_lo; exact rfl; exact rfl; (first | (refine EvM.mb _ rfl ?_; first | assumption | exact rfl) | exact EvM.plain rfl rfl); exact rfl; exact rfl; exact rfl)
  (apply spec_t; exact rfl; exact rfl)
  ((refine im_any (fun hc_ => ?_)); (try have hc1_ := (band hc_).1))
  (apply M_len; exact rfl; exact rfl; (first | (refine EvM.mb _ rfl ?_; first | assumption | exact rfl) | exact EvM.plain rfl rfl); (first | exact len_ints _ | exact len_map _ _ _ | exact len_sl _ _ | exact len_os _ _ _ _ | exact len_vw _ _ _ _ _ | exact len_nil))
  (apply spec_t; exact rfl; exact rfl)
  ((refine im_any (fun hc_ => ?_)); (try have hc1_ := (band hc_).1))
  (apply M_gtr; (first | (refine EvM.mb _ rfl ?_; first | assumption | exact rfl) | exact EvM.plain rfl rfl); (first | (refine EvM.mb _ rfl ?_; first | assumption | exact rfl) | exact EvM.plain rfl rfl))
  (apply S_pick_and; (first | (refine EvM.mb _ rfl ?_; first | assumption | exact rfl) | exact EvM.plain rfl rfl); (first | (refine EvB.mb _ rfl ?_; first | exact fun h => h | exact fun h => bnot_mk h | exact fun h => band_mk (by assumption) h | exact fun h => band_mk (by assumption) (bnot_mk h) | (intro h; simp_all)) | exact EvB.plain rfl); exact rfl)
  refine ao_nil ?_
  refine then_n ?_
  (apply awp_cond; exact rfl)
  refine im_at ?_
  ((refine im_dt (fun _ => ?_)); (try (exfalso; omega)))
  ((refine im_af (fun hc_ => ?_)); (try simp only [Bool.not_eq_true', Bool.not_eq_false', Bool.or_eq_true, Bool.and_eq_true, Bool.or_eq_false_iff, Bool.and_eq_false_iff, decide_eq_true_eq, decide_eq_false_iff_not, Decidable.not_not, Int.not_lt, Int.not_le, Bool.not_true, Bool.not_false, Bool.true_and, Bool.and_true, Bool.false_or, Bool.or_false, Bool.true_or, Bool.false_and, bne_eq_false_iff_eq, bne_iff_ne, beq_iff_eq, beq_eq_false_iff_ne, decide_eq_decide] at hc_))
  refine awp_skip ?_
  refine then_n ?_
  refine awp_seq ?_
  ((refine ao_region ?_ (fun _ => ?_)); exact rfl)
  (apply S_load_loA; exact rfl; exact rfl; exact rfl; exact rfl; (first | exact rfl | exact get_map (by omega) default | exact get_set_ne (by omega) (by omega) (0 : Int) | assumption); exact Nat.le_of_ble_eq_true rfl)
  (apply S_store; exact rfl; exact rfl; exact rfl; exact rfl; exact rfl; exact rfl; (first | exact rfl | exact get_map (by omega) (0 : Int) | exact get_map (by omega) default | exact get_set_ne (by omega) (by omega) (0 : Int) | assumption); exact Nat.le_of_ble_eq_true rfl)
  refine ao_nil ?_
  refine then_n ?_
  rotate_left
  ((refine im_df (fun _ => ?_)); (try (exfalso; omega)))
  refine awp_seq ?_
  ((refine ao_region ?_ (fun _ => ?_)); exact rfl)
  (apply S_eql; exact rfl; exact rfl)
  (apply S_assign; exact rfl)
  refine ao_nil ?_
  refine then_n ?_
  (apply awp_cond; exact rfl)
  ((refine im_dt (fun _ => ?_)); (try (exfalso; omega)))
  ((refine ao_region ?_ (fun _ => ?_)); exact rfl)
  (apply S_fieldAddr_lo; exact rfl; exact rfl; exact rfl; exact rfl; decide; exact rfl)
  (apply S_load_lo; exact rfl; exact rfl; exact rfl; exact rfl; (first | exact rfl | exact get_map (by omega) (0 : Int) | exact get_map (by omega) default | exact hrow _ | assumption); exact rfl)
  (apply S_not; exact rfl)
  (apply S_fieldAddr_lo; exact rfl; exact rfl; exact rfl; exact rfl; decide; exact rfl)
  (apply S_store; exact rfl; exact rfl; exact rfl; exact rfl; exact rfl; exact rfl; (first | exact rfl | exact get_map (by omega) (0 : Int) | exact get_map (by omega) default | exact get_set_ne (by omega) (by omega) (0 : Int) | assumption); exact Nat.le_of_ble_eq_true rfl)
  refine ao_nil ?_
  refine blk_n ?_
  refine then_n ?_
  refine awp_seq ?_
  ((refine ao_region ?_ (fun _ => ?_)); exact rfl)
  (apply S_fieldAddr_lo; exact rfl; exact rfl; exact rfl; exact rfl; decide; exact rfl)
  (apply S_load_lo; exact rfl; exact rfl; exact rfl; exact rfl; (first | exact rfl | exact get_map (by omega) (0 : Int) | exact get_map (by omega) default | exact hrow _ | assumption); exact rfl)
  (apply S_move; exact rfl)
  (apply S_load_loA; exact rfl; exact rfl; exact rfl; exact rfl; (first | exact rfl | exact get_map (by omega) default | exact get_set_ne (by omega) (by omega) (0 : Int) | assumption); exact Nat.le_of_ble_eq_true rfl)
  (apply S_indexAddr_os; exact rfl; exact rfl; exact rfl; exact rfl; exact rfl; exact rfl; omega)
  (apply S_store; exact rfl; exact rfl; exact rfl; exact rfl; exact rfl; exact rfl; (first | exact rfl | exact get_map (by omega) (0 : Int) | exact get_map (by omega) default | exact get_set_ne (by omega) (by omega) (0 : Int) | assumption); exact Nat.le_of_ble_eq_true rfl)
  refine ao_nil ?_
  refine then_n ?_
  iterate 2 refine awp_seq ?_
  ((refine ao_region ?_ (fun _ => ?_)); exact rfl)
  (apply S_move; exact rfl)
  (apply S_eql; exact rfl; exact rfl)
  (apply S_move; exact rfl)
  (apply spec_t; exact rfl; exact rfl)
  ((refine im_any (fun hc_ => ?_)); (try have hc1_ := (band hc_).1))
  (apply M_fieldAddr_lo; exact rfl; exact rfl; exact rfl; exact rfl; decide; (first | (refine EvM.mb _ rfl ?_; first | assumption | exact rfl) | exact EvM.plain rfl rfl))
  (apply spec_t; exact rfl; exact rfl)
  ((refine im_any (fun hc_ => ?_)); (try have hc1_ := (band hc_).1))
  (apply M_load_lo; exact rfl; exact rfl; (first | (refine EvM.mb _ rfl ?_; first | assumption | exact rfl) | exact EvM.plain rfl rfl); exact rfl; exact rfl; exact rfl)
  (apply spec_t; exact rfl; exact rfl)
  ((refine im_any (fun hc_ => ?_)); (try have hc1_ := (band hc_).1))
  (apply M_len; exact rfl; exact rfl; (first | (refine EvM.mb _ rfl ?_; first | assumption | exact rfl) | exact EvM.plain rfl rfl); (first | exact len_ints _ | exact len_map _ _ _ | exact len_sl _ _ | exact len_os _ _ _ _ | exact len_vw _ _ _ _ _ | exact len_nil))
  (apply spec_t; exact rfl; exact rfl)
  ((refine im_any (fun hc_ => ?_)); (try have hc1_ := (band hc_).1))
  (apply M_gtr; (first | (refine EvM.mb _ rfl ?_; first | assumption | exact rfl) | exact EvM.plain rfl rfl); (first | (refine EvM.mb _ rfl ?_; first | assumption | exact rfl) | exact EvM.plain rfl rfl))
  (apply S_pick_and; (first | (refine EvM.mb _ rfl ?_; first | assumption | exact rfl) | exact EvM.plain rfl rfl); (first | (refine EvB.mb _ rfl ?_; first | exact fun h => h | exact fun h => bnot_mk h | exact fun h => band_mk (by assumption) h | exact fun h => band_mk (by assumption) (bnot_mk h) | (intro h; simp_all)) | exact EvB.plain rfl); exact rfl)
  refine ao_nil ?_
  refine then_n ?_
  (apply awp_cond; exact rfl)
  refine im_at ?_
  ((refine im_dt (fun _ => ?_)); (try (exfalso; omega)))
  ((refine im_af (fun hc_ => ?_)); (try simp only [Bool.not_eq_true', Bool.not_eq_false', Bool.or_eq_true, Bool.and_eq_true, Bool.or_eq_false_iff, Bool.and_eq_false_iff, decide_eq_true_eq, decide_eq_false_iff_not, Decidable.not_not, Int.not_lt, Int.not_le, Bool.not_true, Bool.not_false, Bool.true_and, Bool.and_true, Bool.false_or, Bool.or_false, Bool.true_or, Bool.false_and, bne_eq_false_iff_eq, bne_iff_ne, beq_iff_eq, beq_eq_false_iff_ne, decide_eq_decide] at hc_))
  refine awp_skip ?_
  refine then_n ?_
  refine awp_seq ?_
  ((refine ao_region ?_ (fun _ => ?_)); exact rfl)
  (apply S_load_loA; exact rfl; exact rfl; exact rfl; exact rfl; (first | exact rfl | exact get_map (by omega) default | exact get_set_ne (by omega) (by omega) (0 : Int) | assumption); exact Nat.le_of_ble_eq_true rfl)
  (apply S_store; exact rfl; exact rfl; exact rfl; exact rfl; exact rfl; exact rfl; (first | exact rfl | exact get_map (by omega) (0 : Int) | exact get_map (by omega) default | exact get_set_ne (by omega) (by omega) (0 : Int) | assumption); exact Nat.le_of_ble_eq_true rfl)
  refine ao_nil ?_
  refine then_n ?_
  rotate_left
  ((refine im_df (fun _ => ?_)); (try (exfalso; omega)))
  refine awp_seq ?_
  ((refine ao_region ?_ (fun _ => ?_)); exact rfl)
  (apply S_eql; exact rfl; exact rfl)
  (apply S_assign; exact rfl)
  refine ao_nil ?_
  refine then_n ?_
  (apply awp_cond; exact rfl)
  ((refine im_dt (fun _ => ?_)); (try (exfalso; omega)))
  ((refine ao_region ?_ (fun _ => ?_)); exact rfl)
  (apply S_move; exact rfl)
  (apply S_sub64; exact rfl; exact rfl; omega)
  (apply S_move; exact rfl)
  (apply S_sub64; exact rfl; exact rfl; omega)
  (apply S_fieldAddr_lo; exact rfl; exact rfl; exact rfl; exact rfl; decide; exact rfl)
  (apply S_store; exact rfl; exact rfl; exact rfl; exact rfl; exact rfl; exact rfl; (first | exact rfl | exact get_map (by omega) (0 : Int) | exact get_map (by omega) default | exact get_set_ne (by omega) (by omega) (0 : Int) | assumption); exact Nat.le_of_ble_eq_true rfl)
  (apply S_fieldAddr_lo; exact rfl; exact rfl; exact rfl; exact rfl; decide; exact rfl)
  (apply S_store; exact rfl; exact rfl; exact rfl; exact rfl; exact rfl; exact rfl; (first | exact rfl | exact get_map (by omega) (0 : Int) | exact get_map (by omega) default | exact get_set_ne (by omega) (by omega) (0 : Int) | assumption); exact Nat.le_of_ble_eq_true rfl)
  refine ao_nil ?_
  refine blk_n ?_
  refine then_n ?_
  refine awp_seq ?_
  ((refine ao_region ?_ (fun _ => ?_)); exact rfl)
  (apply S_fieldAddr_lo; exact rfl; exact rfl; exact rfl; exact rfl; decide; exact rfl)
  (apply S_load_lo; exact rfl; exact rfl; exact rfl; exact rfl; (first | exact rfl | exact get_map (by omega) (0 : Int) | exact get_map (by omega) default | exact hrow _ | assumption); exact rfl)
  (apply S_move; exact rfl)
  (apply S_load_loA; exact rfl; exact rfl; exact rfl; exact rfl; (first | exact rfl | exact get_map (by omega) default | exact get_set_ne (by omega) (by omega) (0 : Int) | assumption); exact Nat.le_of_ble_eq_true rfl)
  (apply S_indexAddr_os; exact rfl; exact rfl; exact rfl; exact rfl; exact rfl; exact rfl; omega)
  (apply S_store; exact rfl; exact rfl; exact rfl; exact rfl; exact rfl; exact rfl; (first | exact rfl | exact get_map (by omega) (0 : Int) | exact get_map (by omega) default | exact get_set_ne (by omega) (by omega) (0 : Int) | assumption); exact Nat.le_of_ble_eq_true rfl)
  refine ao_nil ?_
  refine then_n ?_
  iterate 2 refine awp_seq ?_
  ((refine ao_region ?_ (fun _ => ?_)); exact rfl)
  (apply S_move; exact rfl)
  (apply S_eql; exact rfl; exact rfl)
  (apply S_move; exact rfl)
  (apply spec_t; exact rfl; exact rfl)
  ((refine im_any (fun hc_ => ?_)); (try have hc1_ := (band hc_).1))
  (apply M_fieldAddr_lo; exact rfl; exact rfl; exact rfl; exact rfl; decide; (first | (refine EvM.mb _ rfl ?_; first | assumption | exact rfl) | exact EvM.plain rfl rfl))
  (apply spec_t; exact rfl; exact rfl)
  ((refine im_any (fun hc_ => ?_)); (try have hc1_ := (band hc_).1))
  (apply M_load_lo; exact rfl; exact rfl; (first | (refine EvM.mb _ rfl ?_; first | assumption | exact rfl) | exact EvM.plain rfl rfl); exact rfl; exact rfl; exact rfl)
  (apply spec_t; exact rfl; exact rfl)
  ((refine im_any (fun hc_ => ?_)); (try have hc1_ := (band hc_).1))
  (apply M_len; exact rfl; exact rfl; (first | (refine EvM.mb _ rfl ?_; first | assumption | exact rfl) | exact EvM.plain rfl rfl); (first | exact len_ints _ | exact len_map _ _ _ | exact len_sl _ _ | exact len_os _ _ _ _ | exact len_vw _ _ _ _ _ | exact len_nil))
  (apply spec_t; exact rfl; exact rfl)
  ((refine im_any (fun hc_ => ?_)); (try have hc1_ := (band hc_).1))
  (apply M_gtr; (first | (refine EvM.mb _ rfl ?_; first | assumption | exact rfl) | exact EvM.plain rfl rfl); (first | (refine EvM.mb _ rfl ?_; first | assumption | exact rfl) | exact EvM.plain rfl rfl))
  (apply S_pick_and; (first | (refine EvM.mb _ rfl ?_; first | assumption | exact rfl) | exact EvM.plain rfl rfl); (first | (refine EvB.mb _ rfl ?_; first | exact fun h => h | exact fun h => bnot_mk h | exact fun h => band_mk (by assumption) h | exact fun h => band_mk (by assumption) (bnot_mk h) | (intro h; simp_all)) | exact EvB.plain rfl); exact rfl)
  refine ao_nil ?_
  refine then_n ?_
  (apply awp_cond; exact rfl)
  refine im_at ?_
  ((refine im_dt (fun _ => ?_)); (try (exfalso; omega)))
  ((refine im_af (fun hc_ => ?_)); (try simp only [Bool.not_eq_true', Bool.not_eq_false', Bool.or_eq_true, Bool.and_eq_true, Bool.or_eq_false_iff, Bool.and_eq_false_iff, decide_eq_true_eq, decide_eq_false_iff_not, Decidable.not_not, Int.not_lt, Int.not_le, Bool.not_true, Bool.not_false, Bool.true_and, Bool.and_true, Bool.false_or, Bool.or_false, Bool.true_or, Bool.false_and, bne_eq_false_iff_eq, bne_iff_ne, beq_iff_eq, beq_eq_false_iff_ne, decide_eq_decide] at hc_))
  refine awp_skip ?_
  refine then_n ?_
  refine awp_seq ?_
  ((refine ao_region ?_ (fun _ => ?_)); exact rfl)
  (apply S_load_loA; exact rfl; exact rfl; exact rfl; exact rfl; (first | exact rfl | exact get_map (by omega) default | exact get_set_ne (by omega) (by omega) (0 : Int) | assumption); exact Nat.le_of_ble_eq_true rfl)
  (apply S_store; exact rfl; exact rfl; exact rfl; exact rfl; exact rfl; exact rfl; (first | exact rfl | exact get_map (by omega) (0 : Int) | exact get_map (by omega) default | exact get_set_ne (by omega) (by omega) (0 : Int) | assumption); exact Nat.le_of_ble_eq_true rfl)
  refine ao_nil ?_
  refine then_n ?_
  rotate_left
  ((refine im_df (fun _ => ?_)); (try (exfalso; omega)))
  refine awp_seq ?_
  ((refine ao_region ?_ (fun _ => ?_)); exact rfl)
  (apply S_eql; exact rfl; exact rfl)
  (apply S_assign; exact rfl)
  refine ao_nil ?_
  refine then_n ?_
  (apply awp_cond; exact rfl)
  ((refine im_dt (fun _ => ?_)); (try (exfalso; omega)))
  ((refine ao_region ?_ (fun _ => ?_)); exact rfl)
  iterate 2 (apply S_move; exact rfl)
  (apply S_sub64; exact rfl; exact rfl; omega)
  (apply S_buildSliceF; assumption; exact rfl; exact rfl; exact rfl; decide; decide; decide; exact rfl; exact rfl; (repeat (first | exact FzR.nil | exact FzR.ints _ | exact FzR.d _ | exact hfz _ | exact FzC.map _ | exact FzC.nil | apply FzR.take | apply FzR.drop | apply FzR.app | apply FzR.cons | apply FzC.cons | assumption)); (first | rfl | (first | omega | (simp only [List.length_append, List.length_map, List.length_take, List.length_drop, List.length_cons, List.length_nil, List.length_replicate, chop_length] <;> omega))))
  (apply S_fieldAddr_lo; exact rfl; exact rfl; exact rfl; exact rfl; decide; exact rfl)
  (apply S_store; exact rfl; exact rfl; exact rfl; exact rfl; exact rfl; exact rfl; (first | exact rfl | exact get_map (by omega) (0 : Int) | exact get_map (by omega) default | exact get_set_ne (by omega) (by omega) (0 : Int) | assumption); exact Nat.le_of_ble_eq_true rfl)
  refine ao_nil ?_
  refine blk_n ?_
  refine then_n ?_
  refine awp_seq ?_
  ((refine ao_region ?_ (fun _ => ?_)); exact rfl)
  (apply S_fieldAddr_lo; exact rfl; exact rfl; exact rfl; exact rfl; decide; exact rfl)
  (apply S_load_lo; exact rfl; exact rfl; exact rfl; exact rfl; (first | exact rfl | exact get_map (by omega) (0 : Int) | exact get_map (by omega) default | exact hrow _ | assumption); exact rfl)
  (apply S_move; exact rfl)
  (apply S_load_loA; exact rfl; exact rfl; exact rfl; exact rfl; (first | exact rfl | exact get_map (by omega) default | exact get_set_ne (by omega) (by omega) (0 : Int) | assumption); exact Nat.le_of_ble_eq_true rfl)
  (apply S_indexAddr_os; exact rfl; exact rfl; exact rfl; exact rfl; exact rfl; exact rfl; omega)
  (apply S_store; exact rfl; exact rfl; exact rfl; exact rfl; exact rfl; exact rfl; (first | exact rfl | exact get_map (by omega) (0 : Int) | exact get_map (by omega) default | exact get_set_ne (by omega) (by omega) (0 : Int) | assumption); exact Nat.le_of_ble_eq_true rfl)
  refine ao_nil ?_
  refine then_n ?_
  iterate 2 refine awp_seq ?_
  ((refine ao_region ?_ (fun _ => ?_)); exact rfl)
  (apply S_move; exact rfl)
  (apply S_eql; exact rfl; exact rfl)
  (apply S_move; exact rfl)
  (apply spec_t; exact rfl; exact rfl)
  ((refine im_any (fun hc_ => ?_)); (try have hc1_ := (band hc_).1))
  (apply M_fieldAddr_lo; exact rfl; exact rfl; exact rfl; exact rfl; decide; (first | (refine EvM.mb _ rfl ?_; first | assumption | exact rfl) | exact EvM.plain rfl rfl))
  (apply spec_t; exact rfl; exact rfl)
  ((refine im_any (fun hc_ => ?_)); (try have hc1_ := (band hc_).1))
  (apply M_load_lo; exact rfl; exact rfl; (first | (refine EvM.mb _ rfl ?_; first | assumption | exact rfl) | exact EvM.plain rfl rfl); exact rfl; exact rfl; exact rfl)
  (apply spec_t; exact rfl; exact rfl)
  ((refine im_any (fun hc_ => ?_)); (try have hc1_ := (band hc_).1))
  (apply M_len; exact rfl; exact rfl; (first | (refine EvM.mb _ rfl ?_; first | assumption | exact rfl) | exact EvM.plain rfl rfl); (first | exact len_ints _ | exact len_map _ _ _ | exact len_sl _ _ | exact len_os _ _ _ _ | exact len_vw _ _ _ _ _ | exact len_nil))
  (apply spec_t; exact rfl; exact rfl)
  ((refine im_any (fun hc_ => ?_)); (try have hc1_ := (band hc_).1))
  (apply M_gtr; (first | (refine EvM.mb _ rfl ?_; first | assumption | exact rfl) | exact EvM.plain rfl rfl); (first | (refine EvM.mb _ rfl ?_; first | assumption | exact rfl) | exact EvM.plain rfl rfl))
  (apply S_pick_and; (first | (refine EvM.mb _ rfl ?_; first | assumption | exact rfl) | exact EvM.plain rfl rfl); (first | (refine EvB.mb _ rfl ?_; first | exact fun h => h | exact fun h => bnot_mk h | exact fun h => band_mk (by assumption) h | exact fun h => band_mk (by assumption) (bnot_mk h) | (intro h; simp_all)) | exact EvB.plain rfl); exact rfl)
  refine ao_nil ?_
  refine then_n ?_
  (apply awp_cond; exact rfl)
  refine im_at ?_
  ((refine im_dt (fun _ => ?_)); (try (exfalso; omega)))
  ((refine im_af (fun hc_ => ?_)); (try simp only [Bool.not_eq_true', Bool.not_eq_false', Bool.or_eq_true, Bool.and_eq_true, Bool.or_eq_false_iff, Bool.and_eq_false_iff, decide_eq_true_eq, decide_eq_false_iff_not, Decidable.not_not, Int.not_lt, Int.not_le, Bool.not_true, Bool.not_false, Bool.true_and, Bool.and_true, Bool.false_or, Bool.or_false, Bool.true_or, Bool.false_and, bne_eq_false_iff_eq, bne_iff_ne, beq_iff_eq, beq_eq_false_iff_ne, decide_eq_decide] at hc_))
  refine awp_skip ?_
  refine then_n ?_
  refine awp_seq ?_
  ((refine ao_region ?_ (fun _ => ?_)); exact rfl)
  (apply S_load_loA; exact rfl; exact rfl; exact rfl; exact rfl; (first | exact rfl | exact get_map (by omega) default | exact get_set_ne (by omega) (by omega) (0 : Int) | assumption); exact Nat.le_of_ble_eq_true rfl)
  (apply S_store; exact rfl; exact rfl; exact rfl; exact rfl; exact rfl; exact rfl; (first | exact rfl | exact get_map (by omega) (0 : Int) | exact get_map (by omega) default | exact get_set_ne (by omega) (by omega) (0 : Int) | assumption); exact Nat.le_of_ble_eq_true rfl)
  refine ao_nil ?_
  refine then_n ?_
  rotate_left
  ((refine im_df (fun _ => ?_)); (try (exfalso; omega)))
  refine awp_seq ?_
  ((refine ao_region ?_ (fun _ => ?_)); exact rfl)
  (apply S_eql; exact rfl; exact rfl)
  (apply S_assign; exact rfl)
  refine ao_nil ?_
  refine then_n ?_
  (apply awp_cond; exact rfl)
  ((refine im_dt (fun _ => ?_)); (try (exfalso; omega)))
  ((refine ao_region ?_ (fun _ => ?_)); exact rfl)
  iterate 2 (apply S_move; exact rfl)
  (apply S_sub64; exact rfl; exact rfl; omega)
  iterate 2 (apply S_move; exact rfl)
  (apply S_sub64; exact rfl; exact rfl; omega)
  (apply S_buildSliceF; assumption; exact rfl; exact rfl; exact rfl; decide; decide; decide; exact rfl; exact rfl; (repeat (first | exact FzR.nil | exact FzR.ints _ | exact FzR.d _ | exact hfz _ | exact FzC.map _ | exact FzC.nil | apply FzR.take | apply FzR.drop | apply FzR.app | apply FzR.cons | apply FzC.cons | assumption)); (first | rfl | (first | omega | (simp only [List.length_append, List.length_map, List.length_take, List.length_drop, List.length_cons, List.length_nil, List.length_replicate, chop_length] <;> omega))))
  (apply S_fieldAddr_lo; exact rfl; exact rfl; exact rfl; exact rfl; decide; exact rfl)
  (apply S_store; exact rfl; exact rfl; exact rfl; exact rfl; exact rfl; exact rfl; (first | exact rfl | exact get_map (by omega) (0 : Int) | exact get_map (by omega) default | exact get_set_ne (by omega) (by omega) (0 : Int) | assumption); exact Nat.le_of_ble_eq_true rfl)
  refine ao_nil ?_
  refine blk_n ?_
  refine then_n ?_
  refine awp_seq ?_
  ((refine ao_region ?_ (fun _ => ?_)); exact rfl)
  (apply S_fieldAddr_lo; exact rfl; exact rfl; exact rfl; exact rfl; decide; exact rfl)
  (apply S_load_lo; exact rfl; exact rfl; exact rfl; exact rfl; (first | exact rfl | exact get_map (by omega) (0 : Int) | exact get_map (by omega) default | exact hrow _ | assumption); exact rfl)
  (apply S_move; exact rfl)
  (apply S_load_loA; exact rfl; exact rfl; exact rfl; exact rfl; (first | exact rfl | exact get_map (by omega) default | exact get_set_ne (by omega) (by omega) (0 : Int) | assumption); exact Nat.le_of_ble_eq_true rfl)
  (apply S_indexAddr_os; exact rfl; exact rfl; exact rfl; exact rfl; exact rfl; exact rfl; omega)
  (apply S_store; exact rfl; exact rfl; exact rfl; exact rfl; exact rfl; exact rfl; (first | exact rfl | exact get_map (by omega) (0 : Int) | exact get_map (by omega) default | exact get_set_ne (by omega) (by omega) (0 : Int) | assumption); exact Nat.le_of_ble_eq_true rfl)
  refine ao_nil ?_
  refine then_n ?_
  iterate 2 refine awp_seq ?_
  ((refine ao_region ?_ (fun _ => ?_)); exact rfl)
  (apply S_move; exact rfl)
  (apply S_eql; exact rfl; exact rfl)
  (apply S_move; exact rfl)
  (apply spec_t; exact rfl; exact rfl)
  ((refine im_any (fun hc_ => ?_)); (try have hc1_ := (band hc_).1))
  (apply M_fieldAddr_lo; exact rfl; exact rfl; exact rfl; exact rfl; decide; (first | (refine EvM.mb _ rfl ?_; first | assumption | exact rfl) | exact EvM.plain rfl rfl))
  (apply spec_t; exact rfl; exact rfl)
  ((refine im_any (fun hc_ => ?_)); (try have hc1_ := (band hc_).1))
  (apply M_load_lo; exact rfl; exact rfl; (first | (refine EvM.mb _ rfl ?_; first | assumption | exact rfl) | exact EvM.plain rfl rfl); exact rfl; exact rfl; exact rfl)
  (apply spec_t; exact rfl; exact rfl)
  ((refine im_any (fun hc_ => ?_)); (try have hc1_ := (band hc_).1))
  (apply M_len; exact rfl; exact rfl; (first | (refine EvM.mb _ rfl ?_; first | assumption | exact rfl) | exact EvM.plain rfl rfl); (first | exact len_ints _ | exact len_map _ _ _ | exact len_sl _ _ | exact len_os _ _ _ _ | exact len_vw _ _ _ _ _ | exact len_nil))
  (apply spec_t; exact rfl; exact rfl)
  ((refine im_any (fun hc_ => ?_)); (try have hc1_ := (band hc_).1))
  (apply M_gtr; (first | (refine EvM.mb _ rfl ?_; first | assumption | exact rfl) | exact EvM.plain rfl rfl); (first | (refine EvM.mb _ rfl ?_; first | assumption | exact rfl) | exact EvM.plain rfl rfl))
  (apply S_pick_and; (first | (refine EvM.mb _ rfl ?_; first | assumption | exact rfl) | exact EvM.plain rfl rfl); (first | (refine EvB.mb _ rfl ?_; first | exact fun h => h | exact fun h => bnot_mk h | exact fun h => band_mk (by assumption) h | exact fun h => band_mk (by assumption) (bnot_mk h) | (intro h; simp_all)) | exact EvB.plain rfl); exact rfl)
  refine ao_nil ?_
  refine then_n ?_
  (apply awp_cond; exact rfl)
  refine im_at ?_
  ((refine im_dt (fun _ => ?_)); (try (exfalso; omega)))
  ((refine im_af (fun hc_ => ?_)); (try simp only [Bool.not_eq_true', Bool.not_eq_false', Bool.or_eq_true, Bool.and_eq_true, Bool.or_eq_false_iff, Bool.and_eq_false_iff, decide_eq_true_eq, decide_eq_false_iff_not, Decidable.not_not, Int.not_lt, Int.not_le, Bool.not_true, Bool.not_false, Bool.true_and, Bool.and_true, Bool.false_or, Bool.or_false, Bool.true_or, Bool.false_and, bne_eq_false_iff_eq, bne_iff_ne, beq_iff_eq, beq_eq_false_iff_ne, decide_eq_decide] at hc_))
  refine awp_skip ?_
  refine then_n ?_
  refine awp_seq ?_
  ((refine ao_region ?_ (fun _ => ?_)); exact rfl)
  (apply S_load_loA; exact rfl; exact rfl; exact rfl; exact rfl; (first | exact rfl | exact get_map (by omega) default | exact get_set_ne (by omega) (by omega) (0 : Int) | assumption); exact Nat.le_of_ble_eq_true rfl)
  (apply S_store; exact rfl; exact rfl; exact rfl; exact rfl; exact rfl; exact rfl; (first | exact rfl | exact get_map (by omega) (0 : Int) | exact get_map (by omega) default | exact get_set_ne (by omega) (by omega) (0 : Int) | assumption); exact Nat.le_of_ble_eq_true rfl)
  refine ao_nil ?_
  refine then_n ?_
  rotate_left
  ((refine im_df (fun _ => ?_)); (try (exfalso; omega)))
  refine awp_seq ?_
  ((refine ao_region ?_ (fun _ => ?_)); exact rfl)
  (apply S_eql; exact rfl; exact rfl)
  (apply S_assign; exact rfl)
  refine ao_nil ?_
  refine then_n ?_
  (apply awp_cond; exact rfl)
  ((refine im_dt (fun _ => ?_)); (try (exfalso; omega)))
  ((refine ao_region ?_ (fun _ => ?_)); exact rfl)
  iterate 2 (apply S_move; exact rfl)
  (apply S_sub64; exact rfl; exact rfl; omega)
  iterate 2 (apply S_move; exact rfl)
  (apply S_sub64; exact rfl; exact rfl; omega)
  (apply S_add64; exact rfl; exact rfl; omega)
  (apply S_buildSliceF; assumption; exact rfl; exact rfl; exact rfl; decide; decide; decide; exact rfl; exact rfl; (repeat (first | exact FzR.nil | exact FzR.ints _ | exact FzR.d _ | exact hfz _ | exact FzC.map _ | exact FzC.nil | apply FzR.take | apply FzR.drop | apply FzR.app | apply FzR.cons | apply FzC.cons | assumption)); (first | rfl | (first | omega | (simp only [List.length_append, List.length_map, List.length_take, List.length_drop, List.length_cons, List.length_nil, List.length_replicate, chop_length] <;> omega))))
  (apply S_fieldAddr_lo; exact rfl; exact rfl; exact rfl; exact rfl; decide; exact rfl)
  (apply S_store; exact rfl; exact rfl; exact rfl; exact rfl; exact rfl; exact rfl; (first | exact rfl | exact get_map (by omega) (0 : Int) | exact get_map (by omega) default | exact get_set_ne (by omega) (by omega) (0 : Int) | assumption); exact Nat.le_of_ble_eq_true rfl)
  refine ao_nil ?_
  refine blk_n ?_
  refine then_n ?_
  refine awp_seq ?_
  ((refine ao_region ?_ (fun _ => ?_)); exact rfl)
  (apply S_fieldAddr_lo; exact rfl; exact rfl; exact rfl; exact rfl; decide; exact rfl)
  (apply S_load_lo; exact rfl; exact rfl; exact rfl; exact rfl; (first | exact rfl | exact get_map (by omega) (0 : Int) | exact get_map (by omega) default | exact hrow _ | assumption); exact rfl)
  (apply S_move; exact rfl)
  (apply S_load_loA; exact rfl; exact rfl; exact rfl; exact rfl; (first | exact rfl | exact get_map (by omega) default | exact get_set_ne (by omega) (by omega) (0 : Int) | assumption); exact Nat.le_of_ble_eq_true rfl)
  (apply S_indexAddr_os; exact rfl; exact rfl; exact rfl; exact rfl; exact rfl; exact rfl; omega)
  (apply S_store; exact rfl; exact rfl; exact rfl; exact rfl; exact rfl; exact rfl; (first | exact rfl | exact get_map (by omega) (0 : Int) | exact get_map (by omega) default | exact get_set_ne (by omega) (by omega) (0 : Int) | assumption); exact Nat.le_of_ble_eq_true rfl)
  refine ao_nil ?_
  refine then_n ?_
  iterate 2 refine awp_seq ?_
  ((refine ao_region ?_ (fun _ => ?_)); exact rfl)
  (apply S_move; exact rfl)
  (apply S_eql; exact rfl; exact rfl)
  (apply S_move; exact rfl)
  (apply spec_t; exact rfl; exact rfl)
  ((refine im_any (fun hc_ => ?_)); (try have hc1_ := (band hc_).1))
  (apply M_fieldAddr_lo; exact rfl; exact rfl; exact rfl; exact rfl; decide; (first | (refine EvM.mb _ rfl ?_; first | assumption | exact rfl) | exact EvM.plain rfl rfl))
  (apply spec_t; exact rfl; exact rfl)
  ((refine im_any (fun hc_ => ?_)); (try have hc1_ := (band hc_).1))
  (apply M_load_lo; exact rfl; exact rfl; (first | (refine EvM.mb _ rfl ?_; first | assumption | exact rfl) | exact EvM.plain rfl rfl); exact rfl; exact rfl; exact rfl)
  (apply spec_t; exact rfl; exact rfl)
  ((refine im_any (fun hc_ => ?_)); (try have hc1_ := (band hc_).1))
  (apply M_len; exact rfl; exact rfl; (first | (refine EvM.mb _ rfl ?_; first | assumption | exact rfl) | exact EvM.plain rfl rfl); (first | exact len_ints _ | exact len_map _ _ _ | exact len_sl _ _ | exact len_os _ _ _ _ | exact len_vw _ _ _ _ _ | exact len_nil))
  (apply spec_t; exact rfl; exact rfl)
  ((refine im_any (fun hc_ => ?_)); (try have hc1_ := (band hc_).1))
  (apply M_gtr; (first | (refine EvM.mb _ rfl ?_; first | assumption | exact rfl) | exact EvM.plain rfl rfl); (first | (refine EvM.mb _ rfl ?_; first | assumption | exact rfl) | exact EvM.plain rfl rfl))
  (apply S_pick_and; (first | (refine EvM.mb _ rfl ?_; first | assumption | exact rfl) | exact EvM.plain rfl rfl); (first | (refine EvB.mb _ rfl ?_; first | exact fun h => h | exact fun h => bnot_mk h | exact fun h => band_mk (by assumption) h | exact fun h => band_mk (by assumption) (bnot_mk h) | (intro h; simp_all)) | exact EvB.plain rfl); exact rfl)
  refine ao_nil ?_
  refine then_n ?_
  (apply awp_cond; exact rfl)
  refine im_at ?_
  ((refine im_dt (fun _ => ?_)); (try (exfalso; omega)))
  ((refine im_af (fun hc_ => ?_)); (try simp only [Bool.not_eq_true', Bool.not_eq_false', Bool.or_eq_true, Bool.and_eq_true, Bool.or_eq_false_iff, Bool.and_eq_false_iff, decide_eq_true_eq, decide_eq_false_iff_not, Decidable.not_not, Int.not_lt, Int.not_le, Bool.not_true, Bool.not_false, Bool.true_and, Bool.and_true, Bool.false_or, Bool.or_false, Bool.true_or, Bool.false_and, bne_eq_false_iff_eq, bne_iff_ne, beq_iff_eq, beq_eq_false_iff_ne, decide_eq_decide] at hc_))
  refine awp_skip ?_
  refine then_n ?_
  refine awp_seq ?_
  ((refine ao_region ?_ (fun _ => ?_)); exact rfl)
  (apply S_load_loA; exact rfl; exact rfl; exact rfl; exact rfl; (first | exact rfl | exact get_map (by omega) default | exact get_set_ne (by omega) (by omega) (0 : Int) | assumption); exact Nat.le_of_ble_eq_true rfl)
  (apply S_store; exact rfl; exact rfl; exact rfl; exact rfl; exact rfl; exact rfl; (first | exact rfl | exact get_map (by omega) (0 : Int) | exact get_map (by omega) default | exact get_set_ne (by omega) (by omega) (0 : Int) | assumption); exact Nat.le_of_ble_eq_true rfl)
  refine ao_nil ?_
  refine then_n ?_
  rotate_left
  ((refine im_df (fun _ => ?_)); (try (exfalso; omega)))
  refine awp_seq ?_
  ((refine ao_region ?_ (fun _ => ?_)); exact rfl)
  (apply S_eql; exact rfl; exact rfl)
  (apply S_assign; exact rfl)
  refine ao_nil ?_
  refine then_n ?_
  (apply awp_cond; exact rfl)
  ((refine im_dt (fun _ => ?_)); (try (exfalso; omega)))
  refine awp_seq ?_
  ((refine ao_region ?_ (fun _ => ?_)); exact rfl)
  (apply S_move; exact rfl)
  (apply S_fieldAddr_lo; exact rfl; exact rfl; exact rfl; exact rfl; decide; exact rfl)
  (apply S_load_lo; exact rfl; exact rfl; exact rfl; exact rfl; (first | exact rfl | exact get_map (by omega) (0 : Int) | exact get_map (by omega) default | exact hrow _ | assumption); exact rfl)
  (apply S_len; exact rfl; exact rfl; exact rfl; (first | exact len_ints _ | exact len_map _ _ _ | exact len_sl _ _ | exact len_os _ _ _ _ | exact len_vw _ _ _ _ _ | exact len_nil))
  (apply S_lss; exact rfl; exact rfl)
  refine ao_nil ?_
  refine then_n ?_
  (apply awp_cond; exact rfl)
  ((refine im_dt (fun _ => ?_)); (try (exfalso; omega)))
  ((refine ao_region ?_ (fun _ => ?_)); exact rfl)
  (apply S_fieldAddr_lo; exact rfl; exact rfl; exact rfl; exact rfl; decide; exact rfl)
  (apply S_load_lo; exact rfl; exact rfl; exact rfl; exact rfl; (first | exact rfl | exact get_map (by omega) (0 : Int) | exact get_map (by omega) default | exact hrow _ | assumption); exact rfl)
  iterate 2 (apply S_move; exact rfl)
  (apply S_sub64; exact rfl; exact rfl; omega)
  (apply S_indexAddr_os; exact rfl; exact rfl; exact rfl; exact rfl; exact rfl; exact rfl; omega)
  (apply S_store; exact rfl; exact rfl; exact rfl; exact rfl; exact rfl; exact rfl; (first | exact rfl | exact get_map (by omega) (0 : Int) | exact get_map (by omega) default | exact get_set_ne (by omega) (by omega) (0 : Int) | assumption); exact Nat.le_of_ble_eq_true rfl)
  refine ao_nil ?_
  refine blk_n ?_
  refine then_n ?_
  refine awp_seq ?_
  ((refine ao_region ?_ (fun _ => ?_)); exact rfl)
  (apply S_fieldAddr_lo; exact rfl; exact rfl; exact rfl; exact rfl; decide; exact rfl)
  (apply S_load_lo; exact rfl; exact rfl; exact rfl; exact rfl; (first | exact rfl | exact get_map (by omega) (0 : Int) | exact get_map (by omega) default | exact hrow _ | assumption); exact rfl)
  (apply S_move; exact rfl)
  (apply S_load_loA; exact rfl; exact rfl; exact rfl; exact rfl; (first | exact rfl | exact get_map (by omega) default | exact get_set_ne (by omega) (by omega) (0 : Int) | assumption); exact Nat.le_of_ble_eq_true rfl)
  (apply S_indexAddr_os; exact rfl; exact rfl; exact rfl; exact rfl; exact rfl; exact rfl; omega)
  (apply S_store; exact rfl; exact rfl; exact rfl; exact rfl; exact rfl; exact rfl; (first | exact rfl | exact get_map (by omega) (0 : Int) | exact get_map (by omega) default | exact get_set_ne (by omega) (by omega) (0 : Int) | assumption); exact Nat.le_of_ble_eq_true rfl)
  refine ao_nil ?_
  refine then_n ?_
  iterate 2 refine awp_seq ?_
  ((refine ao_region ?_ (fun _ => ?_)); exact rfl)
  (apply S_move; exact rfl)
  (apply S_eql; exact rfl; exact rfl)
  (apply S_move; exact rfl)
  (apply spec_t; exact rfl; exact rfl)
  ((refine im_any (fun hc_ => ?_)); (try have hc1_ := (band hc_).1))
  (apply M_fieldAddr_lo; exact rfl; exact rfl; exact rfl; exact rfl; decide; (first | (refine EvM.mb _ rfl ?_; first | assumption | exact rfl) | exact EvM.plain rfl rfl))
  (apply spec_t; exact rfl; exact rfl)
  ((refine im_any (fun hc_ => ?_)); (try have hc1_ := (band hc_).1))
  (apply M_load_lo; exact rfl; exact rfl; (first | (refine EvM.mb _ rfl ?_; first | assumption | exact rfl) | exact EvM.plain rfl rfl); exact rfl; exact rfl; exact rfl)
  (apply spec_t; exact rfl; exact rfl)
  ((refine im_any (fun hc_ => ?_)); (try have hc1_ := (band hc_).1))
  (apply M_len; exact rfl; exact rfl; (first | (refine EvM.mb _ rfl ?_; first | assumption | exact rfl) | exact EvM.plain rfl rfl); (first | exact len_ints _ | exact len_map _ _ _ | exact len_sl _ _ | exact len_os _ _ _ _ | exact len_vw _ _ _ _ _ | exact len_nil))
  (apply spec_t; exact rfl; exact rfl)
  ((refine im_any (fun hc_ => ?_)); (try have hc1_ := (band hc_).1))
  (apply M_gtr; (first | (refine EvM.mb _ rfl ?_; first | assumption | exact rfl) | exact EvM.plain rfl rfl); (first | (refine EvM.mb _ rfl ?_; first | assumption | exact rfl) | exact EvM.plain rfl rfl))
  (apply S_pick_and; (first | (refine EvM.mb _ rfl ?_; first | assumption | exact rfl) | exact EvM.plain rfl rfl); (first | (refine EvB.mb _ rfl ?_; first | exact fun h => h | exact fun h => bnot_mk h | exact fun h => band_mk (by assumption) h | exact fun h => band_mk (by assumption) (bnot_mk h) | (intro h; simp_all)) | exact EvB.plain rfl); exact rfl)
  refine ao_nil ?_
  refine then_n ?_
  (apply awp_cond; exact rfl)
  refine im_at ?_
  ((refine im_dt (fun _ => ?_)); (try (exfalso; omega)))
  ((refine im_af (fun hc_ => ?_)); (try simp only [Bool.not_eq_true', Bool.not_eq_false', Bool.or_eq_true, Bool.and_eq_true, Bool.or_eq_false_iff, Bool.and_eq_false_iff, decide_eq_true_eq, decide_eq_false_iff_not, Decidable.not_not, Int.not_lt, Int.not_le, Bool.not_true, Bool.not_false, Bool.true_and, Bool.and_true, Bool.false_or, Bool.or_false, Bool.true_or, Bool.false_and, bne_eq_false_iff_eq, bne_iff_ne, beq_iff_eq, beq_eq_false_iff_ne, decide_eq_decide] at hc_))
  refine awp_skip ?_
  refine then_n ?_
  refine awp_seq ?_
  ((refine ao_region ?_ (fun _ => ?_)); exact rfl)
  (apply S_load_loA; exact rfl; exact rfl; exact rfl; exact rfl; (first | exact rfl | exact get_map (by omega) default | exact get_set_ne (by omega) (by omega) (0 : Int) | assumption); exact Nat.le_of_ble_eq_true rfl)
  (apply S_store; exact rfl; exact rfl; exact rfl; exact rfl; exact rfl; exact rfl; (first | exact rfl | exact get_map (by omega) (0 : Int) | exact get_map (by omega) default | exact get_set_ne (by omega) (by omega) (0 : Int) | assumption); exact Nat.le_of_ble_eq_true rfl)
  refine ao_nil ?_
  refine then_n ?_
  rotate_left
  ((refine im_df (fun _ => ?_)); (try (exfalso; omega)))
  refine awp_skip ?_
  refine blk_n ?_
  refine then_n ?_
  refine awp_seq ?_
  ((refine ao_region ?_ (fun _ => ?_)); exact rfl)
  (apply S_fieldAddr_lo; exact rfl; exact rfl; exact rfl; exact rfl; decide; exact rfl)
  (apply S_load_lo; exact rfl; exact rfl; exact rfl; exact rfl; (first | exact rfl | exact get_map (by omega) (0 : Int) | exact get_map (by omega) default | exact hrow _ | assumption); exact rfl)
  (apply S_move; exact rfl)
  (apply S_load_loA; exact rfl; exact rfl; exact rfl; exact rfl; (first | exact rfl | exact get_map (by omega) default | exact get_set_ne (by omega) (by omega) (0 : Int) | assumption); exact Nat.le_of_ble_eq_true rfl)
  (apply S_indexAddr_os; exact rfl; exact rfl; exact rfl; exact rfl; exact rfl; exact rfl; omega)
  (apply S_store; exact rfl; exact rfl; exact rfl; exact rfl; exact rfl; exact rfl; (first | exact rfl | exact get_map (by omega) (0 : Int) | exact get_map (by omega) default | exact get_set_ne (by omega) (by omega) (0 : Int) | assumption); exact Nat.le_of_ble_eq_true rfl)
  refine ao_nil ?_
  refine then_n ?_
  iterate 2 refine awp_seq ?_
  ((refine ao_region ?_ (fun _ => ?_)); exact rfl)
  (apply S_move; exact rfl)
  (apply S_eql; exact rfl; exact rfl)
  (apply S_move; exact rfl)
  (apply spec_t; exact rfl; exact rfl)
  ((refine im_any (fun hc_ => ?_)); (try have hc1_ := (band hc_).1))
  (apply M_fieldAddr_lo; exact rfl; exact rfl; exact rfl; exact rfl; decide; (first | (refine EvM.mb _ rfl ?_; first | assumption | exact rfl) | exact EvM.plain rfl rfl))
  (apply spec_t; exact rfl; exact rfl)
  ((refine im_any (fun hc_ => ?_)); (try have hc1_ := (band hc_).1))
  (apply M_load_lo; exact rfl; exact rfl; (first | (refine EvM.mb _ rfl ?_; first | assumption | exact rfl) | exact EvM.plain rfl rfl); exact rfl; exact rfl; exact rfl)
  (apply spec_t; exact rfl; exact rfl)
  ((refine im_any (fun hc_ => ?_)); (try have hc1_ := (band hc_).1))
  (apply M_len; exact rfl; exact rfl; (first | (refine EvM.mb _ rfl ?_; first | assumption | exact rfl) | exact EvM.plain rfl rfl); (first | exact len_ints _ | exact len_map _ _ _ | exact len_sl _ _ | exact len_os _ _ _ _ | exact len_vw _ _ _ _ _ | exact len_nil))
  (apply spec_t; exact rfl; exact rfl)
  ((refine im_any (fun hc_ => ?_)); (try have hc1_ := (band hc_).1))
  (apply M_gtr; (first | (refine EvM.mb _ rfl ?_; first | assumption | exact rfl) | exact EvM.plain rfl rfl); (first | (refine EvM.mb _ rfl ?_; first | assumption | exact rfl) | exact EvM.plain rfl rfl))
  (apply S_pick_and; (first | (refine EvM.mb _ rfl ?_; first | assumption | exact rfl) | exact EvM.plain rfl rfl); (first | (refine EvB.mb _ rfl ?_; first | exact fun h => h | exact fun h => bnot_mk h | exact fun h => band_mk (by assumption) h | exact fun h => band_mk (by assumption) (bnot_mk h) | (intro h; simp_all)) | exact EvB.plain rfl); exact rfl)
  refine ao_nil ?_
  refine then_n ?_
  (apply awp_cond; exact rfl)
  refine im_at ?_
  ((refine im_dt (fun _ => ?_)); (try (exfalso; omega)))
  ((refine im_af (fun hc_ => ?_)); (try simp only [Bool.not_eq_true', Bool.not_eq_false', Bool.or_eq_true, Bool.and_eq_true, Bool.or_eq_false_iff, Bool.and_eq_false_iff, decide_eq_true_eq, decide_eq_false_iff_not, Decidable.not_not, Int.not_lt, Int.not_le, Bool.not_true, Bool.not_false, Bool.true_and, Bool.and_true, Bool.false_or, Bool.or_false, Bool.true_or, Bool.false_and, bne_eq_false_iff_eq, bne_iff_ne, beq_iff_eq, beq_eq_false_iff_ne, decide_eq_decide] at hc_))
  refine awp_skip ?_
  refine then_n ?_
  refine awp_seq ?_
  ((refine ao_region ?_ (fun _ => ?_)); exact rfl)
  (apply S_load_loA; exact rfl; exact rfl; exact rfl; exact rfl; (first | exact rfl | exact get_map (by omega) default | exact get_set_ne (by omega) (by omega) (0 : Int) | assumption); exact Nat.le_of_ble_eq_true rfl)
  (apply S_store; exact rfl; exact rfl; exact rfl; exact rfl; exact rfl; exact rfl; (first | exact rfl | exact get_map (by omega) (0 : Int) | exact get_map (by omega) default | exact get_set_ne (by omega) (by omega) (0 : Int) | assumption); exact Nat.le_of_ble_eq_true rfl)
  refine ao_nil ?_
  refine then_n ?_
  rotate_left
  ((refine im_df (fun _ => ?_)); (try (exfalso; omega)))
  refine awp_seq ?_
  ((refine ao_region ?_ (fun _ => ?_)); exact rfl)
  (apply S_eql; exact rfl; exact rfl)
  (apply S_assign; exact rfl)
  refine ao_nil ?_
  refine then_n ?_
  (apply awp_cond; exact rfl)
  ((refine im_dt (fun _ => ?_)); (try (exfalso; omega)))
  refine awp_seq ?_
  ((refine ao_region ?_ (fun _ => ?_)); exact rfl)
  (apply S_move; exact rfl)
  (apply S_fieldAddr_lo; exact rfl; exact rfl; exact rfl; exact rfl; decide; exact rfl)
  (apply S_load_lo; exact rfl; exact rfl; exact rfl; exact rfl; (first | exact rfl | exact get_map (by omega) (0 : Int) | exact get_map (by omega) default | exact hrow _ | assumption); exact rfl)
  (apply S_len; exact rfl; exact rfl; exact rfl; (first | exact len_ints _ | exact len_map _ _ _ | exact len_sl _ _ | exact len_os _ _ _ _ | exact len_vw _ _ _ _ _ | exact len_nil))
  (apply S_lss; exact rfl; exact rfl)
  refine ao_nil ?_
  refine then_n ?_
  (apply awp_cond; exact rfl)
  ((refine im_dt (fun _ => ?_)); (try (exfalso; omega)))
  ((refine ao_region ?_ (fun _ => ?_)); exact rfl)
  (apply S_fieldAddr_lo; exact rfl; exact rfl; exact rfl; exact rfl; decide; exact rfl)
  (apply S_load_lo; exact rfl; exact rfl; exact rfl; exact rfl; (first | exact rfl | exact get_map (by omega) (0 : Int) | exact get_map (by omega) default | exact hrow _ | assumption); exact rfl)
  iterate 2 (apply S_move; exact rfl)
  (apply S_indexAddr_os; exact rfl; exact rfl; exact rfl; exact rfl; exact rfl; exact rfl; omega)
  (apply S_store; exact rfl; exact rfl; exact rfl; exact rfl; exact rfl; exact rfl; (first | exact rfl | exact get_map (by omega) (0 : Int) | exact get_map (by omega) default | exact get_set_ne (by omega) (by omega) (0 : Int) | assumption); exact Nat.le_of_ble_eq_true rfl)
  refine ao_nil ?_
  refine blk_n ?_
  refine then_n ?_
  refine awp_seq ?_
  ((refine ao_region ?_ (fun _ => ?_)); exact rfl)
  (apply S_fieldAddr_lo; exact rfl; exact rfl; exact rfl; exact rfl; decide; exact rfl)
  (apply S_load_lo; exact rfl; exact rfl; exact rfl; exact rfl; (first | exact rfl | exact get_map (by omega) (0 : Int) | exact get_map (by omega) default | exact hrow _ | assumption); exact rfl)
  (apply S_move; exact rfl)
  (apply S_load_loA; exact rfl; exact rfl; exact rfl; exact rfl; (first | exact rfl | exact get_map (by omega) default | exact get_set_ne (by omega) (by omega) (0 : Int) | assumption); exact Nat.le_of_ble_eq_true rfl)
  (apply S_indexAddr_os; exact rfl; exact rfl; exact rfl; exact rfl; exact rfl; exact rfl; omega)
  (apply S_store; exact rfl; exact rfl; exact rfl; exact rfl; exact rfl; exact rfl; (first | exact rfl | exact get_map (by omega) (0 : Int) | exact get_map (by omega) default | exact get_set_ne (by omega) (by omega) (0 : Int) | assumption); exact Nat.le_of_ble_eq_true rfl)
  refine ao_nil ?_
  refine then_n ?_
  iterate 2 refine awp_seq ?_
  ((refine ao_region ?_ (fun _ => ?_)); exact rfl)
  (apply S_move; exact rfl)
  (apply S_eql; exact rfl; exact rfl)
  (apply S_move; exact rfl)
  (apply spec_t; exact rfl; exact rfl)
  ((refine im_any (fun hc_ => ?_)); (try have hc1_ := (band hc_).1))
  (apply M_fieldAddr_lo; exact rfl; exact rfl; exact rfl; exact rfl; decide; (first | (refine EvM.mb _ rfl ?_; first | assumption | exact rfl) | exact EvM.plain rfl rfl))
  (apply spec_t; exact rfl; exact rfl)
  ((refine im_any (fun hc_ => ?_)); (try have hc1_ := (band hc_).1))
  (apply M_load_lo; exact rfl; exact rfl; (first | (refine EvM.mb _ rfl ?_; first | assumption | exact rfl) | exact EvM.plain rfl rfl); exact rfl; exact rfl; exact rfl)
  (apply spec_t; exact rfl; exact rfl)
  ((refine im_any (fun hc_ => ?_)); (try have hc1_ := (band hc_).1))
  (apply M_len; exact rfl; exact rfl; (first | (refine EvM.mb _ rfl ?_; first | assumption | exact rfl) | exact EvM.plain rfl rfl); (first | exact len_ints _ | exact len_map _ _ _ | exact len_sl _ _ | exact len_os _ _ _ _ | exact len_vw _ _ _ _ _ | exact len_nil))
  (apply spec_t; exact rfl; exact rfl)
  ((refine im_any (fun hc_ => ?_)); (try have hc1_ := (band hc_).1))
  (apply M_gtr; (first | (refine EvM.mb _ rfl ?_; first | assumption | exact rfl) | exact EvM.plain rfl rfl); (first | (refine EvM.mb _ rfl ?_; first | assumption | exact rfl) | exact EvM.plain rfl rfl))
  (apply S_pick_and; (first | (refine EvM.mb _ rfl ?_; first | assumption | exact rfl) | exact EvM.plain rfl rfl); (first | (refine EvB.mb _ rfl ?_; first | exact fun h => h | exact fun h => bnot_mk h | exact fun h => band_mk (by assumption) h | exact fun h => band_mk (by assumption) (bnot_mk h) | (intro h; simp_all)) | exact EvB.plain rfl); exact rfl)
  refine ao_nil ?_
  refine then_n ?_
  (apply awp_cond; exact rfl)
  refine im_at ?_
  ((refine im_dt (fun _ => ?_)); (try (exfalso; omega)))
  ((refine im_af (fun hc_ => ?_)); (try simp only [Bool.not_eq_true', Bool.not_eq_false', Bool.or_eq_true, Bool.and_eq_true, Bool.or_eq_false_iff, Bool.and_eq_false_iff, decide_eq_true_eq, decide_eq_false_iff_not, Decidable.not_not, Int.not_lt, Int.not_le, Bool.not_true, Bool.not_false, Bool.true_and, Bool.and_true, Bool.false_or, Bool.or_false, Bool.true_or, Bool.false_and, bne_eq_false_iff_eq, bne_iff_ne, beq_iff_eq, beq_eq_false_iff_ne, decide_eq_decide] at hc_))
  refine awp_skip ?_
  refine then_n ?_
  refine awp_seq ?_
  ((refine ao_region ?_ (fun _ => ?_)); exact rfl)
  (apply S_load_loA; exact rfl; exact rfl; exact rfl; exact rfl; (first | exact rfl | exact get_map (by omega) default | exact get_set_ne (by omega) (by omega) (0 : Int) | assumption); exact Nat.le_of_ble_eq_true rfl)
  (apply S_store; exact rfl; exact rfl; exact rfl; exact rfl; exact rfl; exact rfl; (first | exact rfl | exact get_map (by omega) (0 : Int) | exact get_map (by omega) default | exact get_set_ne (by omega) (by omega) (0 : Int) | assumption); exact Nat.le_of_ble_eq_true rfl)
  refine ao_nil ?_
  refine then_n ?_
  rotate_left
  ((refine im_df (fun _ => ?_)); (try (exfalso; omega)))
  refine awp_skip ?_
  refine blk_n ?_
  refine then_n ?_
  refine awp_seq ?_
  ((refine ao_region ?_ (fun _ => ?_)); exact rfl)
  (apply S_fieldAddr_lo; exact rfl; exact rfl; exact rfl; exact rfl; decide; exact rfl)
  (apply S_load_lo; exact rfl; exact rfl; exact rfl; exact rfl; (first | exact rfl | exact get_map (by omega) (0 : Int) | exact get_map (by omega) default | exact hrow _ | assumption); exact rfl)
  (apply S_move; exact rfl)
  (apply S_load_loA; exact rfl; exact rfl; exact rfl; exact rfl; (first | exact rfl | exact get_map (by omega) default | exact get_set_ne (by omega) (by omega) (0 : Int) | assumption); exact Nat.le_of_ble_eq_true rfl)
  (apply S_indexAddr_os; exact rfl; exact rfl; exact rfl; exact rfl; exact rfl; exact rfl; omega)
  (apply S_store; exact rfl; exact rfl; exact rfl; exact rfl; exact rfl; exact rfl; (first | exact rfl | exact get_map (by omega) (0 : Int) | exact get_map (by omega) default | exact get_set_ne (by omega) (by omega) (0 : Int) | assumption); exact Nat.le_of_ble_eq_true rfl)
  refine ao_nil ?_
  refine then_n ?_
  iterate 2 refine awp_seq ?_
  ((refine ao_region ?_ (fun _ => ?_)); exact rfl)
  (apply S_move; exact rfl)
  (apply S_eql; exact rfl; exact rfl)
  (apply S_move; exact rfl)
  (apply spec_t; exact rfl; exact rfl)
  ((refine im_any (fun hc_ => ?_)); (try have hc1_ := (band hc_).1))
  (apply M_fieldAddr_lo; exact rfl; exact rfl; exact rfl; exact rfl; decide; (first | (refine EvM.mb _ rfl ?_; first | assumption | exact rfl) | exact EvM.plain rfl rfl))
  (apply spec_t; exact rfl; exact rfl)
  ((refine im_any (fun hc_ => ?_)); (try have hc1_ := (band hc_).1))
  (apply M_load_lo; exact rfl; exact rfl; (first | (refine EvM.mb _ rfl ?_; first | assumption | exact rfl) | exact EvM.plain rfl rfl); exact rfl; exact rfl; exact rfl)
  (apply spec_t; exact rfl; exact rfl)
  ((refine im_any (fun hc_ => ?_)); (try have hc1_ := (band hc_).1))
  (apply M_len; exact rfl; exact rfl; (first | (refine EvM.mb _ rfl ?_; first | assumption | exact rfl) | exact EvM.plain rfl rfl); (first | exact len_ints _ | exact len_map _ _ _ | exact len_sl _ _ | exact len_os _ _ _ _ | exact len_vw _ _ _ _ _ | exact len_nil))
  (apply spec_t; exact rfl; exact rfl)
  ((refine im_any (fun hc_ => ?_)); (try have hc1_ := (band hc_).1))
  (apply M_gtr; (first | (refine EvM.mb _ rfl ?_; first | assumption | exact rfl) | exact EvM.plain rfl rfl); (first | (refine EvM.mb _ rfl ?_; first | assumption | exact rfl) | exact EvM.plain rfl rfl))
  (apply S_pick_and; (first | (refine EvM.mb _ rfl ?_; first | assumption | exact rfl) | exact EvM.plain rfl rfl); (first | (refine EvB.mb _ rfl ?_; first | exact fun h => h | exact fun h => bnot_mk h | exact fun h => band_mk (by assumption) h | exact fun h => band_mk (by assumption) (bnot_mk h) | (intro h; simp_all)) | exact EvB.plain rfl); exact rfl)
  refine ao_nil ?_
  refine then_n ?_
  (apply awp_cond; exact rfl)
  refine im_at ?_
  ((refine im_dt (fun _ => ?_)); (try (exfalso; omega)))
  ((refine im_af (fun hc_ => ?_)); (try simp only [Bool.not_eq_true', Bool.not_eq_false', Bool.or_eq_true, Bool.and_eq_true, Bool.or_eq_false_iff, Bool.and_eq_false_iff, decide_eq_true_eq, decide_eq_false_iff_not, Decidable.not_not, Int.not_lt, Int.not_le, Bool.not_true, Bool.not_false, Bool.true_and, Bool.and_true, Bool.false_or, Bool.or_false, Bool.true_or, Bool.false_and, bne_eq_false_iff_eq, bne_iff_ne, beq_iff_eq, beq_eq_false_iff_ne, decide_eq_decide] at hc_))
  refine awp_skip ?_
  refine then_n ?_
  refine awp_seq ?_
  ((refine ao_region ?_ (fun _ => ?_)); exact rfl)
  (apply S_load_loA; exact rfl; exact rfl; exact rfl; exact rfl; (first | exact rfl | exact get_map (by omega) default | exact get_set_ne (by omega) (by omega) (0 : Int) | assumption); exact Nat.le_of_ble_eq_true rfl)
  (apply S_store; exact rfl; exact rfl; exact rfl; exact rfl; exact rfl; exact rfl; (first | exact rfl | exact get_map (by omega) (0 : Int) | exact get_map (by omega) default | exact get_set_ne (by omega) (by omega) (0 : Int) | assumption); exact Nat.le_of_ble_eq_true rfl)
  refine ao_nil ?_
  refine then_n ?_
  rotate_left
  ((refine im_df (fun _ => ?_)); (try (exfalso; omega)))
  · refine fin_n (x.evs.set i { x.evs.getD i default with kind := bye }) x.from_ x.order rfl rfl rfl rfl rfl ?_ ?_ rfl ?_ ?_ ?_ ?_
    · rw [List.map_set]; rfl
    · first | rfl | (rw [List.map_set]; rfl)
    · simp
    · simp
    · omega
    · exact good_set hx (by obtain ⟨⟨w1, w2, w3, w4, w5, w6, w7⟩, w8, w9, w10, w11, w12, w13⟩ := he; refine ⟨⟨?_, ?_, ?_, ?_, ?_, ?_, ?_⟩, ?_, ?_, ?_, ?_, ?_, ?_⟩ <;> first | assumption | exact wrapU _ | rfl | (dsimp only; omega) | exact Nat.le_of_ble_eq_true rfl) i (by first | omega | (simp; omega)) (by omega) hrr
  · refine fin_n (x.evs.set i { x.evs.getD i default with hart := bye - 2 }) x.from_ x.order rfl rfl rfl rfl rfl ?_ ?_ rfl ?_ ?_ ?_ ?_
    · rw [List.map_set]; rfl
    · first | rfl | (rw [List.map_set]; rfl)
    · simp
    · simp
    · omega
    · exact good_set hx (by obtain ⟨⟨w1, w2, w3, w4, w5, w6, w7⟩, w8, w9, w10, w11, w12, w13⟩ := he; refine ⟨⟨?_, ?_, ?_, ?_, ?_, ?_, ?_⟩, ?_, ?_, ?_, ?_, ?_, ?_⟩ <;> first | assumption | exact wrapU _ | rfl | (dsimp only; omega) | exact Nat.le_of_ble_eq_true rfl) i (by first | omega | (simp; omega)) (by omega) hrr
  · refine fin_n (x.evs.set i { x.evs.getD i default with addr := IntKind.u32.wrap ((x.evs.getD i default).addr + bye) }) x.from_ x.order rfl rfl rfl rfl rfl ?_ ?_ rfl ?_ ?_ ?_ ?_
    · rw [List.map_set]; rfl
    · first | rfl | (rw [List.map_set]; rfl)
    · simp
    · simp
    · omega
    · exact good_set hx (by obtain ⟨⟨w1, w2, w3, w4, w5, w6, w7⟩, w8, w9, w10, w11, w12, w13⟩ := he; refine ⟨⟨?_, ?_, ?_, ?_, ?_, ?_, ?_⟩, ?_, ?_, ?_, ?_, ?_, ?_⟩ <;> first | assumption | exact wrapU _ | rfl | (dsimp only; omega) | exact Nat.le_of_ble_eq_true rfl) i (by first | omega | (simp; omega)) (by omega) hrr
  · refine fin_n (x.evs.set i { x.evs.getD i default with val := IntKind.u32.wrap ((x.evs.getD i default).val + bye) }) x.from_ x.order rfl rfl rfl rfl rfl ?_ ?_ rfl ?_ ?_ ?_ ?_
    · rw [List.map_set]; rfl
    · first | rfl | (rw [List.map_set]; rfl)
    · simp
    · simp
    · omega
    · exact good_set hx (by obtain ⟨⟨w1, w2, w3, w4, w5, w6, w7⟩, w8, w9, w10, w11, w12, w13⟩ := he; refine ⟨⟨?_, ?_, ?_, ?_, ?_, ?_, ?_⟩, ?_, ?_, ?_, ?_, ?_, ?_⟩ <;> first | assumption | exact wrapU _ | rfl | (dsimp only; omega) | exact Nat.le_of_ble_eq_true rfl) i (by first | omega | (simp; omega)) (by omega) hrr
  · refine fin_n (x.evs.set i { x.evs.getD i default with rval := IntKind.u32.wrap ((x.evs.getD i default).rval + bye) }) x.from_ x.order rfl rfl rfl rfl rfl ?_ ?_ rfl ?_ ?_ ?_ ?_
    · rw [List.map_set]; rfl
    · first | rfl | (rw [List.map_set]; rfl)
    · simp
    · simp
    · omega
    · exact good_set hx (by obtain ⟨⟨w1, w2, w3, w4, w5, w6, w7⟩, w8, w9, w10, w11, w12, w13⟩ := he; refine ⟨⟨?_, ?_, ?_, ?_, ?_, ?_, ?_⟩, ?_, ?_, ?_, ?_, ?_, ?_⟩ <;> first | assumption | exact wrapU _ | rfl | (dsimp only; omega) | exact Nat.le_of_ble_eq_true rfl) i (by first | omega | (simp; omega)) (by omega) hrr
  · refine fin_n (x.evs.set i { x.evs.getD i default with aq := !(x.evs.getD i default).aq }) x.from_ x.order rfl rfl rfl rfl rfl ?_ ?_ rfl ?_ ?_ ?_ ?_
    · rw [List.map_set]; rfl
    · first | rfl | (rw [List.map_set]; rfl)
    · simp
    · simp
    · omega
    · exact good_set hx (by obtain ⟨⟨w1, w2, w3, w4, w5, w6, w7⟩, w8, w9, w10, w11, w12, w13⟩ := he; refine ⟨⟨?_, ?_, ?_, ?_, ?_, ?_, ?_⟩, ?_, ?_, ?_, ?_, ?_, ?_⟩ <;> first | assumption | exact wrapU _ | rfl | (dsimp only; omega) | exact Nat.le_of_ble_eq_true rfl) i (by first | omega | (simp; omega)) (by omega) hrr
  · refine fin_n (x.evs.set i { x.evs.getD i default with rl := !(x.evs.getD i default).rl }) x.from_ x.order rfl rfl rfl rfl rfl ?_ ?_ rfl ?_ ?_ ?_ ?_
    · rw [List.map_set]; rfl
    · first | rfl | (rw [List.map_set]; rfl)
    · simp
    · simp
    · omega
    · exact good_set hx (by obtain ⟨⟨w1, w2, w3, w4, w5, w6, w7⟩, w8, w9, w10, w11, w12, w13⟩ := he; refine ⟨⟨?_, ?_, ?_, ?_, ?_, ?_, ?_⟩, ?_, ?_, ?_, ?_, ?_, ?_⟩ <;> first | assumption | exact wrapU _ | rfl | (dsimp only; omega) | exact Nat.le_of_ble_eq_true rfl) i (by first | omega | (simp; omega)) (by omega) hrr
  · refine fin_n (x.evs.set i { x.evs.getD i default with rsv := !(x.evs.getD i default).rsv }) x.from_ x.order rfl rfl rfl rfl rfl ?_ ?_ rfl ?_ ?_ ?_ ?_
    · rw [List.map_set]; rfl
    · first | rfl | (rw [List.map_set]; rfl)
    · simp
    · simp
    · omega
    · exact good_set hx (by obtain ⟨⟨w1, w2, w3, w4, w5, w6, w7⟩, w8, w9, w10, w11, w12, w13⟩ := he; refine ⟨⟨?_, ?_, ?_, ?_, ?_, ?_, ?_⟩, ?_, ?_, ?_, ?_, ?_, ?_⟩ <;> first | assumption | exact wrapU _ | rfl | (dsimp only; omega) | exact Nat.le_of_ble_eq_true rfl) i (by first | omega | (simp; omega)) (by omega) hrr
  · refine fin_n (x.evs.set i { x.evs.getD i default with pred := bye - 1, succ := bye - 2 }) x.from_ x.order rfl rfl rfl rfl rfl ?_ ?_ rfl ?_ ?_ ?_ ?_
    · rw [List.map_set]; rfl
    · first | rfl | (rw [List.map_set]; rfl)
    · simp
    · simp
    · omega
    · exact good_set hx (by obtain ⟨⟨w1, w2, w3, w4, w5, w6, w7⟩, w8, w9, w10, w11, w12, w13⟩ := he; refine ⟨⟨?_, ?_, ?_, ?_, ?_, ?_, ?_⟩, ?_, ?_, ?_, ?_, ?_, ?_⟩ <;> first | assumption | exact wrapU _ | rfl | (dsimp only; omega) | exact Nat.le_of_ble_eq_true rfl) i (by first | omega | (simp; omega)) (by omega) hrr
  · refine fin_n (x.evs.set i { x.evs.getD i default with addrs := [(i : Int) - bye], av := ⟨none, 1, 0⟩ }) x.from_ x.order rfl rfl rfl rfl rfl ?_ ?_ rfl ?_ ?_ ?_ ?_
    · rw [List.map_set]; rfl
    · first | rfl | (rw [List.map_set]; rfl)
    · simp
    · simp
    · omega
    · exact good_set hx (by obtain ⟨⟨w1, w2, w3, w4, w5, w6, w7⟩, w8, w9, w10, w11, w12, w13⟩ := he; refine ⟨⟨?_, ?_, ?_, ?_, ?_, ?_, ?_⟩, ?_, ?_, ?_, ?_, ?_, ?_⟩ <;> first | assumption | exact wrapU _ | rfl | (dsimp only; omega) | exact Nat.le_of_ble_eq_true rfl) i (by first | omega | (simp; omega)) (by omega) hrr
  · refine fin_n (x.evs.set i { x.evs.getD i default with datas := [(i : Int) - bye, (i : Int) - bye], dv := ⟨none, 2, 0⟩ }) x.from_ x.order rfl rfl rfl rfl rfl ?_ ?_ rfl ?_ ?_ ?_ ?_
    · rw [List.map_set]; rfl
    · first | rfl | (rw [List.map_set]; rfl)
    · simp
    · simp
    · omega
    · exact good_set hx (by obtain ⟨⟨w1, w2, w3, w4, w5, w6, w7⟩, w8, w9, w10, w11, w12, w13⟩ := he; refine ⟨⟨?_, ?_, ?_, ?_, ?_, ?_, ?_⟩, ?_, ?_, ?_, ?_, ?_, ?_⟩ <;> first | assumption | exact wrapU _ | rfl | (dsimp only; omega) | exact Nat.le_of_ble_eq_true rfl) i (by first | omega | (simp; omega)) (by omega) hrr
  · refine fin_n (x.evs.set i { x.evs.getD i default with ctrls := [(i : Int) - bye, (i : Int) - bye + 1], cv := ⟨none, 2, 0⟩ }) x.from_ x.order rfl rfl rfl rfl rfl ?_ ?_ rfl ?_ ?_ ?_ ?_
    · rw [List.map_set]; rfl
    · first | rfl | (rw [List.map_set]; rfl)
    · simp
    · simp
    · omega
    · exact good_set hx (by obtain ⟨⟨w1, w2, w3, w4, w5, w6, w7⟩, w8, w9, w10, w11, w12, w13⟩ := he; refine ⟨⟨?_, ?_, ?_, ?_, ?_, ?_, ?_⟩, ?_, ?_, ?_, ?_, ?_, ?_⟩ <;> first | assumption | exact wrapU _ | rfl | (dsimp only; omega) | exact Nat.le_of_ble_eq_true rfl) i (by first | omega | (simp; omega)) (by omega) hrr
  · refine fin_n (x.evs.set i (x.evs.getD i default)) (x.from_.set i (bye - 1)) x.order rfl rfl rfl rfl rfl ?_ ?_ rfl ?_ ?_ ?_ ?_
    · rw [List.map_set]; rfl
    · first | rfl | (rw [List.map_set]; rfl)
    · simp
    · simp
    · omega
    · exact good_set hx (by obtain ⟨⟨w1, w2, w3, w4, w5, w6, w7⟩, w8, w9, w10, w11, w12, w13⟩ := he; refine ⟨⟨?_, ?_, ?_, ?_, ?_, ?_, ?_⟩, ?_, ?_, ?_, ?_, ?_, ?_⟩ <;> first | assumption | exact wrapU _ | rfl | (dsimp only; omega) | exact Nat.le_of_ble_eq_true rfl) i (by first | omega | (simp; omega)) (by omega) hrr
  · refine fin_n (x.evs.set i (x.evs.getD i default)) x.from_ x.order rfl rfl rfl rfl rfl ?_ ?_ rfl ?_ ?_ ?_ ?_
    · rw [List.map_set]; rfl
    · first | rfl | (rw [List.map_set]; rfl)
    · simp
    · simp
    · omega
    · exact good_set hx (by obtain ⟨⟨w1, w2, w3, w4, w5, w6, w7⟩, w8, w9, w10, w11, w12, w13⟩ := he; refine ⟨⟨?_, ?_, ?_, ?_, ?_, ?_, ?_⟩, ?_, ?_, ?_, ?_, ?_, ?_⟩ <;> first | assumption | exact wrapU _ | rfl | (dsimp only; omega) | exact Nat.le_of_ble_eq_true rfl) i (by first | omega | (simp; omega)) (by omega) hrr
  · refine fin_n (x.evs.set i (x.evs.getD i default)) (x.from_.set i i) x.order rfl rfl rfl rfl rfl ?_ ?_ rfl ?_ ?_ ?_ ?_
    · rw [List.map_set]; rfl
    · first | rfl | (rw [List.map_set]; rfl)
    · simp
    · simp
    · omega
    · exact good_set hx (by obtain ⟨⟨w1, w2, w3, w4, w5, w6, w7⟩, w8, w9, w10, w11, w12, w13⟩ := he; refine ⟨⟨?_, ?_, ?_, ?_, ?_, ?_, ?_⟩, ?_, ?_, ?_, ?_, ?_, ?_⟩ <;> first | assumption | exact wrapU _ | rfl | (dsimp only; omega) | exact Nat.le_of_ble_eq_true rfl) i (by first | omega | (simp; omega)) (by omega) hrr
  · refine fin_n (x.evs.set i (x.evs.getD i default)) x.from_ x.order rfl rfl rfl rfl rfl ?_ ?_ rfl ?_ ?_ ?_ ?_
    · rw [List.map_set]; rfl
    · first | rfl | (rw [List.map_set]; rfl)
    · simp
    · simp
    · omega
    · exact good_set hx (by obtain ⟨⟨w1, w2, w3, w4, w5, w6, w7⟩, w8, w9, w10, w11, w12, w13⟩ := he; refine ⟨⟨?_, ?_, ?_, ?_, ?_, ?_, ?_⟩, ?_, ?_, ?_, ?_, ?_, ?_⟩ <;> first | assumption | exact wrapU _ | rfl | (dsimp only; omega) | exact Nat.le_of_ble_eq_true rfl) i (by first | omega | (simp; omega)) (by omega) hrr
end Go.Proofs.Ytgeaaegkcbjhlaa
