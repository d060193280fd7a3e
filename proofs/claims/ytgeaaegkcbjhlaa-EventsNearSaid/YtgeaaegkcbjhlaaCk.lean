/- An execution with Order otherwise (changed, of the laws of layer 6): a row's numbers are moved. -/
import Derived.Test.YtgeaaegkcbjhlaaCi
set_option maxRecDepth 100000
set_option linter.unusedVariables false
set_option linter.unusedSimpArgs false
namespace Go.Proofs.Ytgeaaegkcbjhlaa
open Go.RowKit
theorem ordRows_get (j : Nat) (τ : Stamp) (l : List (Sl × List Int)) (k i : Nat) (h : i < k) : (ordRows j τ l k)[i]? = some (ordRow j τ l i) := by
  unfold ordRows
  rw [List.getElem?_map, List.getElem?_range h]; rfl
theorem froz_ord {j k : Nat} {τ : Stamp} {l : List (Sl × List Int)} {L : List Int} (hk : l.length = k) (hj : j < k) (hL : L.length = (l.getD j default).2.length) : FrozR 1026 τ 1 (L.map cell) ⟨1, ordRows j τ l k⟩ ⟨1, rowDs (l.set j (default, L))⟩ := by
  refine ⟨rfl, by simp [rowDs, ordRows, hk], fun i row' hi => ?_⟩
  unfold rowDs at hi
  simp only [List.getElem?_map, List.getElem?_set] at hi
  by_cases hij : j = i
  · subst hij
    rw [if_pos rfl, if_pos (by omega)] at hi
    cases hi
    refine ⟨[.os 1026 τ 1 (l.getD j default).2.length], by rw [ordRows_get j τ l k j hj]; unfold ordRow; rw [if_pos rfl], rfl, fun o y' ho => ?_⟩
    match o, ho with
    | 0, ho => cases ho; exact ⟨_, rfl, froz_os (by simp [hL])⟩
    | o + 1, ho => simp at ho
  · rw [if_neg hij] at hi
    have hlt : i < l.length := by
      rcases Nat.lt_or_ge i l.length with h | h
      · exact h
      · rw [List.getElem?_eq_none h] at hi; cases hi
    rw [List.getElem?_eq_getElem hlt] at hi
    cases hi
    refine ⟨[.d (ints (l.getD i default).2)], by rw [ordRows_get j τ l k i (by omega)]; unfold ordRow; rw [if_neg (fun e => hij e.symm)], rfl, fun o y' ho => ?_⟩
    match o, ho with
    | 0, ho =>
      cases ho
      refine ⟨_, rfl, ?_⟩
      rw [List.getD_eq_getElem?_getD, List.getElem?_eq_getElem hlt]
      exact .same _
    | o + 1, ho => simp at ho
set_option maxHeartbeats 4000000 in
theorem changed_j (x : Ex) (i q : Nat) (bye : Int) (hx : x.ok) (h1 : x.evs.length ≤ 1000) (h2 : x.from_.length ≤ 1000) (h3 : x.order.length = q + 1) (hq : q + 1 ≤ 1000) (h4 : ∀ i, (x.order.getD i default).2.length ≤ 1000) (hrr : ∀ r ∈ x.order, r.2.length ≤ 1000) (hi : i < x.evs.length) (hb : 0 ≤ bye ∧ bye < 7) :
    FnW E.P 16 [exOV x, .int .i64 i, .int .i64 14, .int .i64 bye] (stL []) (IsX goodY (fun y => exOV y) (fun _ => [])) := by
  have he : (x.evs.getD i default).ok := hx.evC hi
  obtain ⟨j, hj⟩ : ∃ j : Nat, j = (bye.tmod ((q + 1 : Nat) : Int)).toNat := ⟨_, rfl⟩
  have hm1 : 0 ≤ bye.tmod ((q + 1 : Nat) : Int) := Int.tmod_nonneg _ hb.1
  have hm2 : bye.tmod ((q + 1 : Nat) : Int) < ((q + 1 : Nat) : Int) := Int.tmod_lt_of_pos _ (by omega)
  have hjq : j < q + 1 := by omega
  have hrow : ∀ τ, (ordRows j τ x.order (q + 1))[(bye.tmod ((q + 1 : Nat) : Int)).toNat]? = some [.os 1026 τ 1 (x.order.getD j default).2.length] := fun τ => by
    rw [← hj, ordRows_get j τ x.order (q + 1) j hjq]; unfold ordRow; rw [if_pos rfl]
  have hlj := h4 j
  have k11 : Keep 11 := ⟨trivial⟩
  refine fn_of_awpN (vs := [.cell 8 26]) Try.func16 (by decide) rfl Try.ntmps16 (Nat.le_of_ble_eq_true rfl) rfl ?_
  (with_reducible refine awp_seq ?_)
  ((with_reducible refine ao_region ?_ (fun _ => ?_)); exact rfl)
  ((with_reducible apply S_box); exact rfl; exact rfl; exact rfl)
  ((with_reducible apply S_alloc); exact rfl)
  (with_reducible refine ao_nil ?_)
  (with_reducible refine then_n ?_)
  (with_reducible refine awp_seq ?_)
  ((with_reducible refine ao_region ?_ (fun _ => ?_)); exact rfl)
  ((with_reducible apply S_load_loA); exact rfl; exact rfl; exact rfl; exact rfl; (first | exact rfl | exact get_map (by omega) default | exact get_set_ne (by omega) (by omega) (0 : Int) | assumption); exact Nat.le_of_ble_eq_true rfl)
  ((((with_reducible apply S_callX); exact rfl; exact .fn _ _ _; exact rfl; exact (copied_j x q j h1 h2 h3 hq h4 hjq); exact sle_nil _; (intro _; simp); (rintro ⟨τE, τF, τO, τJ⟩ _))))
  ((with_reducible apply S_alloc); exact rfl)
  ((with_reducible apply S_store); exact rfl; exact rfl; exact rfl; exact rfl; exact rfl; exact rfl; (first | exact rfl | exact get_map (by omega) (0 : Int) | exact get_map (by omega) default | exact get_set_ne (by omega) (by omega) (0 : Int) | assumption); exact Nat.le_of_ble_eq_true rfl)
  (with_reducible refine ao_nil ?_)
  (with_reducible refine then_n ?_)
  (with_reducible refine awp_seq ?_)
  ((with_reducible refine ao_region ?_ (fun _ => ?_)); exact rfl)
  ((with_reducible apply S_fieldAddr_lo); exact rfl; exact rfl; exact rfl; exact rfl; decide; exact rfl)
  ((with_reducible apply S_load_lo); exact rfl; exact rfl; exact rfl; exact rfl; (first | exact rfl | exact get_map (by omega) (0 : Int) | exact get_map (by omega) default | exact hrow _ | assumption); exact rfl)
  ((with_reducible apply S_move); exact rfl)
  ((with_reducible apply S_indexAddr_os); exact rfl; exact rfl; exact rfl; exact rfl; exact rfl; exact rfl; omega)
  ((with_reducible apply S_load_loA); exact rfl; exact rfl; exact rfl; exact rfl; (first | exact rfl | exact get_map (by omega) default | exact get_set_ne (by omega) (by omega) (0 : Int) | assumption); exact Nat.le_of_ble_eq_true rfl)
  ((with_reducible apply S_alloc); exact rfl)
  ((with_reducible apply S_store); exact rfl; exact rfl; exact rfl; exact rfl; exact rfl; exact rfl; (first | exact rfl | exact get_map (by omega) (0 : Int) | exact get_map (by omega) default | exact get_set_ne (by omega) (by omega) (0 : Int) | assumption); exact Nat.le_of_ble_eq_true rfl)
  (with_reducible refine ao_nil ?_)
  (with_reducible refine then_n ?_)
  iterate 2 (with_reducible refine awp_seq ?_)
  ((with_reducible refine ao_region ?_ (fun _ => ?_)); exact rfl)
  ((with_reducible apply S_move); exact rfl)
  (with_reducible refine ao_nil ?_)
  (with_reducible refine then_n ?_)
  (with_reducible refine awp_block ?_)
  (with_reducible refine awp_seq ?_)
  ((with_reducible refine ao_region ?_ (fun _ => ?_)); exact rfl)
  ((with_reducible apply S_eql); exact rfl; exact rfl)
  ((with_reducible apply S_assign); exact rfl)
  (with_reducible refine ao_nil ?_)
  (with_reducible refine then_n ?_)
  ((with_reducible apply awp_cond); exact rfl)
  ((with_reducible refine im_dt (fun _ => ?_)); (try (exfalso; omega)))
  ((with_reducible refine im_df (fun _ => ?_)); (try (exfalso; omega)))
  (with_reducible refine awp_seq ?_)
  ((with_reducible refine ao_region ?_ (fun _ => ?_)); exact rfl)
  ((with_reducible apply S_eql); exact rfl; exact rfl)
  ((with_reducible apply S_assign); exact rfl)
  (with_reducible refine ao_nil ?_)
  (with_reducible refine then_n ?_)
  ((with_reducible apply awp_cond); exact rfl)
  ((with_reducible refine im_dt (fun _ => ?_)); (try (exfalso; omega)))
  ((with_reducible refine im_df (fun _ => ?_)); (try (exfalso; omega)))
  (with_reducible refine awp_seq ?_)
  ((with_reducible refine ao_region ?_ (fun _ => ?_)); exact rfl)
  ((with_reducible apply S_eql); exact rfl; exact rfl)
  ((with_reducible apply S_assign); exact rfl)
  (with_reducible refine ao_nil ?_)
  (with_reducible refine then_n ?_)
  ((with_reducible apply awp_cond); exact rfl)
  ((with_reducible refine im_dt (fun _ => ?_)); (try (exfalso; omega)))
  ((with_reducible refine im_df (fun _ => ?_)); (try (exfalso; omega)))
  (with_reducible refine awp_seq ?_)
  ((with_reducible refine ao_region ?_ (fun _ => ?_)); exact rfl)
  ((with_reducible apply S_eql); exact rfl; exact rfl)
  ((with_reducible apply S_assign); exact rfl)
  (with_reducible refine ao_nil ?_)
  (with_reducible refine then_n ?_)
  ((with_reducible apply awp_cond); exact rfl)
  ((with_reducible refine im_dt (fun _ => ?_)); (try (exfalso; omega)))
  ((with_reducible refine im_df (fun _ => ?_)); (try (exfalso; omega)))
  (with_reducible refine awp_seq ?_)
  ((with_reducible refine ao_region ?_ (fun _ => ?_)); exact rfl)
  ((with_reducible apply S_eql); exact rfl; exact rfl)
  ((with_reducible apply S_assign); exact rfl)
  (with_reducible refine ao_nil ?_)
  (with_reducible refine then_n ?_)
  ((with_reducible apply awp_cond); exact rfl)
  ((with_reducible refine im_dt (fun _ => ?_)); (try (exfalso; omega)))
  ((with_reducible refine im_df (fun _ => ?_)); (try (exfalso; omega)))
  (with_reducible refine awp_seq ?_)
  ((with_reducible refine ao_region ?_ (fun _ => ?_)); exact rfl)
  ((with_reducible apply S_eql); exact rfl; exact rfl)
  ((with_reducible apply S_assign); exact rfl)
  (with_reducible refine ao_nil ?_)
  (with_reducible refine then_n ?_)
  ((with_reducible apply awp_cond); exact rfl)
  ((with_reducible refine im_dt (fun _ => ?_)); (try (exfalso; omega)))
  ((with_reducible refine im_df (fun _ => ?_)); (try (exfalso; omega)))
  (with_reducible refine awp_seq ?_)
  ((with_reducible refine ao_region ?_ (fun _ => ?_)); exact rfl)
  ((with_reducible apply S_eql); exact rfl; exact rfl)
  ((with_reducible apply S_assign); exact rfl)
  (with_reducible refine ao_nil ?_)
  (with_reducible refine then_n ?_)
  ((with_reducible apply awp_cond); exact rfl)
  ((with_reducible refine im_dt (fun _ => ?_)); (try (exfalso; omega)))
  ((with_reducible refine im_df (fun _ => ?_)); (try (exfalso; omega)))
  (with_reducible refine awp_seq ?_)
  ((with_reducible refine ao_region ?_ (fun _ => ?_)); exact rfl)
  ((with_reducible apply S_eql); exact rfl; exact rfl)
  ((with_reducible apply S_assign); exact rfl)
  (with_reducible refine ao_nil ?_)
  (with_reducible refine then_n ?_)
  ((with_reducible apply awp_cond); exact rfl)
  ((with_reducible refine im_dt (fun _ => ?_)); (try (exfalso; omega)))
  ((with_reducible refine im_df (fun _ => ?_)); (try (exfalso; omega)))
  (with_reducible refine awp_seq ?_)
  ((with_reducible refine ao_region ?_ (fun _ => ?_)); exact rfl)
  ((with_reducible apply S_eql); exact rfl; exact rfl)
  ((with_reducible apply S_assign); exact rfl)
  (with_reducible refine ao_nil ?_)
  (with_reducible refine then_n ?_)
  ((with_reducible apply awp_cond); exact rfl)
  ((with_reducible refine im_dt (fun _ => ?_)); (try (exfalso; omega)))
  ((with_reducible refine im_df (fun _ => ?_)); (try (exfalso; omega)))
  (with_reducible refine awp_seq ?_)
  ((with_reducible refine ao_region ?_ (fun _ => ?_)); exact rfl)
  ((with_reducible apply S_eql); exact rfl; exact rfl)
  ((with_reducible apply S_assign); exact rfl)
  (with_reducible refine ao_nil ?_)
  (with_reducible refine then_n ?_)
  ((with_reducible apply awp_cond); exact rfl)
  ((with_reducible refine im_dt (fun _ => ?_)); (try (exfalso; omega)))
  ((with_reducible refine im_df (fun _ => ?_)); (try (exfalso; omega)))
  (with_reducible refine awp_seq ?_)
  ((with_reducible refine ao_region ?_ (fun _ => ?_)); exact rfl)
  ((with_reducible apply S_eql); exact rfl; exact rfl)
  ((with_reducible apply S_assign); exact rfl)
  (with_reducible refine ao_nil ?_)
  (with_reducible refine then_n ?_)
  ((with_reducible apply awp_cond); exact rfl)
  ((with_reducible refine im_dt (fun _ => ?_)); (try (exfalso; omega)))
  ((with_reducible refine im_df (fun _ => ?_)); (try (exfalso; omega)))
  (with_reducible refine awp_seq ?_)
  ((with_reducible refine ao_region ?_ (fun _ => ?_)); exact rfl)
  ((with_reducible apply S_eql); exact rfl; exact rfl)
  ((with_reducible apply S_assign); exact rfl)
  (with_reducible refine ao_nil ?_)
  (with_reducible refine then_n ?_)
  ((with_reducible apply awp_cond); exact rfl)
  ((with_reducible refine im_dt (fun _ => ?_)); (try (exfalso; omega)))
  ((with_reducible refine im_df (fun _ => ?_)); (try (exfalso; omega)))
  (with_reducible refine awp_seq ?_)
  ((with_reducible refine ao_region ?_ (fun _ => ?_)); exact rfl)
  ((with_reducible apply S_eql); exact rfl; exact rfl)
  ((with_reducible apply S_assign); exact rfl)
  (with_reducible refine ao_nil ?_)
  (with_reducible refine then_n ?_)
  ((with_reducible apply awp_cond); exact rfl)
  ((with_reducible refine im_dt (fun _ => ?_)); (try (exfalso; omega)))
  ((with_reducible refine im_df (fun _ => ?_)); (try (exfalso; omega)))
  (with_reducible refine awp_seq ?_)
  ((with_reducible refine ao_region ?_ (fun _ => ?_)); exact rfl)
  ((with_reducible apply S_eql); exact rfl; exact rfl)
  ((with_reducible apply S_assign); exact rfl)
  (with_reducible refine ao_nil ?_)
  (with_reducible refine then_n ?_)
  ((with_reducible apply awp_cond); exact rfl)
  ((with_reducible refine im_dt (fun _ => ?_)); (try (exfalso; omega)))
  ((with_reducible refine im_df (fun _ => ?_)); (try (exfalso; omega)))
  (with_reducible refine awp_skip ?_)
  (with_reducible refine blk_n ?_)
  (with_reducible refine then_n ?_)
  (with_reducible refine awp_seq ?_)
  ((with_reducible refine ao_region ?_ (fun _ => ?_)); exact rfl)
  ((with_reducible apply S_fieldAddr_lo); exact rfl; exact rfl; exact rfl; exact rfl; decide; exact rfl)
  ((with_reducible apply S_load_lo); exact rfl; exact rfl; exact rfl; exact rfl; (first | exact rfl | exact get_map (by omega) (0 : Int) | exact get_map (by omega) default | exact hrow _ | assumption); exact rfl)
  ((with_reducible apply S_move); exact rfl)
  ((with_reducible apply S_load_loA); exact rfl; exact rfl; exact rfl; exact rfl; (first | exact rfl | exact get_map (by omega) default | exact get_set_ne (by omega) (by omega) (0 : Int) | assumption); exact Nat.le_of_ble_eq_true rfl)
  ((with_reducible apply S_indexAddr_os); exact rfl; exact rfl; exact rfl; exact rfl; exact rfl; exact rfl; omega)
  ((with_reducible apply S_store); exact rfl; exact rfl; exact rfl; exact rfl; exact rfl; exact rfl; (first | exact rfl | exact get_map (by omega) (0 : Int) | exact get_map (by omega) default | exact get_set_ne (by omega) (by omega) (0 : Int) | assumption); exact Nat.le_of_ble_eq_true rfl)
  (with_reducible refine ao_nil ?_)
  (with_reducible refine then_n ?_)
  iterate 2 (with_reducible refine awp_seq ?_)
  ((with_reducible refine ao_region ?_ (fun _ => ?_)); exact rfl)
  ((with_reducible apply S_move); exact rfl)
  ((with_reducible apply S_eql); exact rfl; exact rfl)
  ((with_reducible apply S_move); exact rfl)
  ((with_reducible apply spec_t); exact rfl; exact rfl)
  ((with_reducible refine im_any (fun hc_ => ?_)); (try have hc1_ := (band hc_).1))
  ((with_reducible apply M_fieldAddr_lo); exact rfl; exact rfl; exact rfl; exact rfl; decide; (first | (refine EvM.mb _ rfl ?_; first | assumption | exact rfl) | exact EvM.plain rfl rfl))
  ((with_reducible apply spec_t); exact rfl; exact rfl)
  ((with_reducible refine im_any (fun hc_ => ?_)); (try have hc1_ := (band hc_).1))
  ((with_reducible apply M_load_lo); exact rfl; exact rfl; (first | (refine EvM.mb _ rfl ?_; first | assumption | exact rfl) | exact EvM.plain rfl rfl); exact rfl; exact rfl; exact rfl)
  ((with_reducible apply spec_t); exact rfl; exact rfl)
  ((with_reducible refine im_any (fun hc_ => ?_)); (try have hc1_ := (band hc_).1))
  ((with_reducible apply M_len); exact rfl; exact rfl; (first | (refine EvM.mb _ rfl ?_; first | assumption | exact rfl) | exact EvM.plain rfl rfl); (first | exact len_ints _ | exact len_map _ _ _ | exact len_sl _ _ | exact len_os _ _ _ _ | exact len_vw _ _ _ _ _ | exact len_nil))
  ((with_reducible apply spec_t); exact rfl; exact rfl)
  ((with_reducible refine im_any (fun hc_ => ?_)); (try have hc1_ := (band hc_).1))
  ((with_reducible apply M_gtr); (first | (refine EvM.mb _ rfl ?_; first | assumption | exact rfl) | exact EvM.plain rfl rfl); (first | (refine EvM.mb _ rfl ?_; first | assumption | exact rfl) | exact EvM.plain rfl rfl))
  ((with_reducible apply S_pick_and); (first | (refine EvM.mb _ rfl ?_; first | assumption | exact rfl) | exact EvM.plain rfl rfl); (first | (refine EvB.mb _ rfl ?_; first | exact fun h => h | exact fun h => bnot_mk h | exact fun h => band_mk (by assumption) h | exact fun h => band_mk (by assumption) (bnot_mk h) | (intro h; simp_all)) | exact EvB.plain rfl); exact rfl)
  (with_reducible refine ao_nil ?_)
  (with_reducible refine then_n ?_)
  ((with_reducible apply awp_cond); exact rfl)
  (with_reducible refine im_at ?_)
  iterate 2 ((with_reducible refine im_dt (fun _ => ?_)); (try (exfalso; omega)))
  (with_reducible refine awp_seq ?_)
  ((with_reducible refine do_region (E := E) ?_ (fun _ => ?_)); exact rfl)
  ((with_reducible apply D_fieldAddr_lo); exact rfl; exact rfl; exact rfl; exact rfl; decide; exact rfl)
  ((with_reducible apply D_load_lo); exact rfl; exact rfl; exact rfl; exact rfl; (first | exact rfl | exact get_map (by omega) (0 : Int) | exact get_map (by omega) default | exact hrow _ | assumption); exact rfl)
  ((with_reducible apply D_move); exact rfl)
  ((with_reducible apply D_fieldAddr_lo); exact rfl; exact rfl; exact rfl; exact rfl; decide; exact rfl)
  ((with_reducible apply D_load_lo); exact rfl; exact rfl; exact rfl; exact rfl; (first | exact rfl | exact get_map (by omega) (0 : Int) | exact get_map (by omega) default | exact hrow _ | assumption); exact rfl)
  ((with_reducible apply D_len); exact rfl; exact rfl; exact rfl; (first | exact len_ints _ | exact len_map _ _ _ | exact len_sl _ _ | exact len_os _ _ _ _ | exact len_vw _ _ _ _ _ | exact len_nil))
  ((with_reducible apply D_rem); exact rfl; exact rfl; (first | decide | omega))
  ((with_reducible apply D_indexAddr_os); exact rfl; exact rfl; exact rfl; exact rfl; exact rfl; exact rfl; omega)
  ((with_reducible apply D_load_lo); exact rfl; exact rfl; exact rfl; exact rfl; (first | exact rfl | exact get_map (by omega) (0 : Int) | exact get_map (by omega) default | exact hrow _ | assumption); exact rfl)
  ((with_reducible apply D_keep); assumption; exact rfl)
  ((with_reducible refine do_nil ?_ ?_); (first | ((try dsimp only [wkeys]); decide +kernel) | exact rfl))
  (with_reducible refine then_n ?_)
  (with_reducible refine awp_seq ?_)
  ((with_reducible refine ao_region ?_ (fun _ => ?_)); exact rfl)
  ((with_reducible apply S_assign); exact rfl)
  (with_reducible refine ao_nil ?_)
  (with_reducible refine then_n ?_)
  (with_reducible refine awp_block ?_)
  rotate_left
  ((with_reducible refine im_af (fun hc_ => ?_)); (try simp only [Bool.not_eq_true', Bool.not_eq_false', Bool.or_eq_true, Bool.and_eq_true, Bool.or_eq_false_iff, Bool.and_eq_false_iff, decide_eq_true_eq, decide_eq_false_iff_not, Decidable.not_not, Int.not_lt, Int.not_le, Bool.not_true, Bool.not_false, Bool.true_and, Bool.and_true, Bool.false_or, Bool.or_false, Bool.true_or, Bool.false_and, bne_eq_false_iff_eq, bne_iff_ne, beq_iff_eq, beq_eq_false_iff_ne, decide_eq_decide] at hc_))
  (with_reducible refine awp_skip ?_)
  (with_reducible refine then_n ?_)
  (with_reducible refine awp_seq ?_)
  ((with_reducible refine ao_region ?_ (fun _ => ?_)); exact rfl)
  ((with_reducible apply S_load_loA); exact rfl; exact rfl; exact rfl; exact rfl; (first | exact rfl | exact get_map (by omega) default | exact get_set_ne (by omega) (by omega) (0 : Int) | assumption); exact Nat.le_of_ble_eq_true rfl)
  ((with_reducible apply S_store); exact rfl; exact rfl; exact rfl; exact rfl; exact rfl; exact rfl; (first | exact rfl | exact get_map (by omega) (0 : Int) | exact get_map (by omega) default | exact get_set_ne (by omega) (by omega) (0 : Int) | assumption); exact Nat.le_of_ble_eq_true rfl)
  (with_reducible refine ao_nil ?_)
  (with_reducible refine then_n ?_)
  rotate_left
  rotate_left
  · exfalso
    rcases hc_ with h | h
    · exact h trivial
    · omega
  rename_i v0 v1 _ _ _ _ _ _ _ _ _ _ _ _ _ _ _ _ _ _ _ _ _ _ _ _ _ _ _ _ _ _ _ _ _ _ _ _ _
  have hset : (x.evs.map evRow).set i (evRow (x.evs.getD i default)) = (x.evs.set i (x.evs.getD i default)).map evRow := by rw [List.map_set]
  refine awp_loop (X := Nat × List Int) (fun p => tmL [(1, .int .i64 i), (8, .lo 8 (v0, 1) 3 0 0), (9, .lo 9 (v1, 2) 3 0 0), (11, .os 1026 τJ 1 p.2.length), (12, .int .i64 p.1)])
    (fun p => stL [(8, ((v0, 1), ⟨3, [consts te26.zero]⟩)), (9, ((v1, 2), ⟨3, [[.os 1007 τE 13 x.evs.length, .os 1010 τF 1 x.from_.length, .os 1028 τO 1 (q + 1)]]⟩)), (1007, (τE, ⟨13, (x.evs.map evRow).set i (evRow (x.evs.getD i default))⟩)), (1010, (τF, ⟨1, x.from_.map (cellO .i64)⟩)), (1028, (τO, ⟨1, ordRows j τJ x.order (q + 1)⟩)), (1026, (τJ, ⟨1, p.2.map (cellO .i64)⟩))])
    (fun p => p.2.length = (x.order.getD j default).2.length ∧ p.1 ≤ p.2.length) (fun p => p.2.length - p.1) (0, (x.order.getD j default).2) ⟨rfl, Nat.zero_le _⟩ (by repeat' (first | exact le_nil _ | exact sle_nil _ | refine le_cons rfl ?_ | refine sle_cons rfl ?_)) (by repeat' (first | exact le_nil _ | exact sle_nil _ | refine le_cons rfl ?_ | refine sle_cons rfl ?_)) ?_
  rintro ⟨k, L⟩ ⟨hL, hkL⟩
  dsimp only at hL hkL ⊢
  clear hrow
  have hLl : L.length ≤ 1000 := by omega
  iterate 2 (with_reducible refine awp_seq ?_)
  ((with_reducible refine ao_region ?_ (fun _ => ?_)); exact rfl)
  ((with_reducible apply S_move); exact rfl)
  ((with_reducible apply S_add64); exact rfl; exact rfl; omega)
  ((with_reducible apply S_move); exact rfl)
  ((with_reducible apply S_len); exact rfl; exact rfl; exact rfl; (first | exact len_ints _ | exact len_map _ _ _ | exact len_sl _ _ | exact len_os _ _ _ _ | exact len_vw _ _ _ _ _ | exact len_nil))
  ((with_reducible apply S_lss); exact rfl; exact rfl)
  ((with_reducible apply S_move); exact rfl)
  ((with_reducible apply spec_t); exact rfl; exact rfl)
  ((with_reducible refine im_any (fun hc_ => ?_)); (try have hc1_ := (band hc_).1))
  ((with_reducible apply M_move); (first | (refine EvM.mb _ rfl ?_; first | assumption | exact rfl) | exact EvM.plain rfl rfl))
  ((with_reducible apply spec_t); exact rfl; exact rfl)
  ((with_reducible refine im_any (fun hc_ => ?_)); (try have hc1_ := (band hc_).1))
  ((with_reducible apply M_move); (first | (refine EvM.mb _ rfl ?_; first | assumption | exact rfl) | exact EvM.plain rfl rfl))
  ((with_reducible apply spec_t); exact rfl; exact rfl)
  ((with_reducible refine im_any (fun hc_ => ?_)); (try have hc1_ := (band hc_).1))
  ((with_reducible apply M_leq); (first | (refine EvM.mb _ rfl ?_; first | assumption | exact rfl) | exact EvM.plain rfl rfl); (first | (refine EvM.mb _ rfl ?_; first | assumption | exact rfl) | exact EvM.plain rfl rfl))
  ((with_reducible apply S_pick_and); (first | (refine EvM.mb _ rfl ?_; first | assumption | exact rfl) | exact EvM.plain rfl rfl); (first | (refine EvB.mb _ rfl ?_; first | exact fun h => h | exact fun h => bnot_mk h | exact fun h => band_mk (by assumption) h | exact fun h => band_mk (by assumption) (bnot_mk h) | (intro h; simp_all)) | exact EvB.plain rfl); exact rfl)
  (with_reducible refine ao_nil ?_)
  (with_reducible refine then_n ?_)
  ((with_reducible apply awp_cond); exact rfl)
  (with_reducible refine im_at ?_)
  iterate 2 ((with_reducible refine im_dt (fun _ => ?_)); (try (exfalso; omega)))
  (with_reducible refine awp_skip ?_)
  (with_reducible refine then_n ?_)
  (with_reducible refine awp_seq ?_)
  (with_reducible refine awp_block ?_)
  ((with_reducible refine do_region (E := E) ?_ (fun _ => ?_)); exact rfl)
  iterate 4 ((with_reducible apply D_move); exact rfl)
  ((with_reducible apply D_add64); exact rfl; exact rfl; omega)
  iterate 2 ((with_reducible apply D_move); exact rfl)
  ((with_reducible apply D_add64); exact rfl; exact rfl; omega)
  ((with_reducible apply D_indexAddr_os); exact rfl; exact rfl; exact rfl; exact rfl; exact rfl; exact rfl; omega)
  ((with_reducible apply D_load_lo); exact rfl; exact rfl; exact rfl; exact rfl; (first | exact rfl | exact get_map (by omega) (0 : Int) | exact get_map (by omega) default | exact hrow _ | assumption); exact rfl)
  iterate 2 ((with_reducible apply D_move); exact rfl)
  ((with_reducible apply D_indexAddr_os); exact rfl; exact rfl; exact rfl; exact rfl; exact rfl; exact rfl; omega)
  ((with_reducible apply D_load_lo); exact rfl; exact rfl; exact rfl; exact rfl; (first | exact rfl | exact get_map (by omega) (0 : Int) | exact get_map (by omega) default | exact hrow _ | assumption); exact rfl)
  ((with_reducible apply D_indexAddr_os); exact rfl; exact rfl; exact rfl; exact rfl; exact rfl; exact rfl; omega)
  ((with_reducible apply D_store); exact rfl; exact rfl; exact rfl; exact rfl; exact rfl; exact rfl; (first | exact rfl | exact get_map (by omega) (0 : Int) | exact get_map (by omega) default | exact get_set_ne (by omega) (by omega) (0 : Int) | assumption); exact Nat.le_of_ble_eq_true rfl)
  ((with_reducible apply D_indexAddr_os); exact rfl; exact rfl; exact rfl; exact rfl; exact rfl; exact rfl; omega)
  ((with_reducible apply D_store); exact rfl; exact rfl; exact rfl; exact rfl; exact rfl; exact rfl; (first | exact rfl | exact get_map (by omega) (0 : Int) | exact get_map (by omega) default | exact get_set_ne (by omega) (by omega) (0 : Int) | assumption); exact Nat.le_of_ble_eq_true rfl)
  ((with_reducible refine do_nil ?_ ?_); (first | ((try dsimp only [wkeys]); decide +kernel) | exact rfl))
  (with_reducible refine blk_n ?_)
  (with_reducible refine then_n ?_)
  ((with_reducible refine ao_region ?_ (fun _ => ?_)); exact rfl)
  ((with_reducible apply S_move); exact rfl)
  ((with_reducible apply S_add64); exact rfl; exact rfl; omega)
  ((with_reducible apply S_assign); exact rfl)
  (with_reducible refine ao_nil ?_)
  (with_reducible refine then_n ?_)
  rotate_left
  ((with_reducible refine im_af (fun hc_ => ?_)); (try simp only [Bool.not_eq_true', Bool.not_eq_false', Bool.or_eq_true, Bool.and_eq_true, Bool.or_eq_false_iff, Bool.and_eq_false_iff, decide_eq_true_eq, decide_eq_false_iff_not, Decidable.not_not, Int.not_lt, Int.not_le, Bool.not_true, Bool.not_false, Bool.true_and, Bool.and_true, Bool.false_or, Bool.or_false, Bool.true_or, Bool.false_and, bne_eq_false_iff_eq, bne_iff_ne, beq_iff_eq, beq_eq_false_iff_ne, decide_eq_decide] at hc_))
  (with_reducible refine awp_exit ?_)
  iterate 2 (with_reducible refine then_x ?_)
  (with_reducible refine blk_x ?_)
  (with_reducible refine then_n ?_)
  (with_reducible refine awp_seq ?_)
  ((with_reducible refine ao_region ?_ (fun _ => ?_)); exact rfl)
  ((with_reducible apply S_load_loA); exact rfl; exact rfl; exact rfl; exact rfl; (first | exact rfl | exact get_map (by omega) default | exact get_set_ne (by omega) (by omega) (0 : Int) | assumption); exact Nat.le_of_ble_eq_true rfl)
  ((with_reducible apply S_store); exact rfl; exact rfl; exact rfl; exact rfl; exact rfl; exact rfl; (first | exact rfl | exact get_map (by omega) (0 : Int) | exact get_map (by omega) default | exact get_set_ne (by omega) (by omega) (0 : Int) | assumption); exact Nat.le_of_ble_eq_true rfl)
  (with_reducible refine ao_nil ?_)
  (with_reducible refine then_n ?_)
  rotate_left
  · refine round' (k + 1, (L.set k (L.getD (k + 1) 0)).set (k + 1) (L.getD k 0)) (by simp only [List.length_set]; omega) (by simp only [List.length_set]; omega) ?_ ?_
    · exact (by repeat' (first | exact le_nil _ | exact sle_nil _ | refine le_cons rfl ?_ | refine sle_cons rfl ?_ | (refine le_cons_os rfl ?_ ?_; (simp)) | (refine le_cons_int rfl ?_ ?_; (simp)) | (refine sle_cons' rfl ?_ ?_; (simp))))
    · refine sle_cons rfl (sle_cons rfl (sle_cons rfl (sle_cons rfl (sle_cons rfl (sle_cons' rfl ?_ (sle_nil _))))))
      rw [List.map_set, List.map_set]; rfl
  · have hg : goodY ⟨default, default, default, x.evs.set i (x.evs.getD i default), x.from_, x.order.set j (default, L)⟩ := good_set hx he i h2 (by simp; omega) fun r hr => by
      rcases List.mem_or_eq_of_mem_set hr with h | h
      · exact hrr r h
      · rw [h]; dsimp only; omega
    refine awp_freeze 1026 τJ 1 (L.map cell) (tmL [(8, .lo 8 (v0, 1) 3 0 0)]) (stL [(8, ((v0, 1), ⟨3, [[.os 1007 τE 13 x.evs.length, .os 1010 τF 1 x.from_.length, .os 1028 τO 1 (q + 1)]]⟩)), (1007, (τE, ⟨13, (x.evs.map evRow).set i (evRow (x.evs.getD i default))⟩)), (1010, (τF, ⟨1, x.from_.map (cellO .i64)⟩)), (1028, (τO, ⟨1, rowDs (x.order.set j (default, L))⟩))]) ?_ (fz_cons rfl (.same _) fz_nil)
      (fs_cons (by decide) rfl (FrozR.same _) (fs_cons (by decide) rfl (FrozR.same _) (fs_cons (by decide) rfl (FrozR.same _) (fs_cons (by decide) rfl (froz_ord h3 hjq hL) fs_nil)))) ?_
    · show some (τJ, Row.mk 1 (L.map (cellO .i64))) = _
      rw [(FzR.ints L).eq]
    · refine fin_n (x.evs.set i (x.evs.getD i default)) x.from_ (x.order.set j (default, L)) rfl rfl rfl rfl rfl hset rfl rfl ?_ rfl ?_ hg
      · simp
      · simp; omega
end Go.Proofs.Ytgeaaegkcbjhlaa
