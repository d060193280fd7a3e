/- EventsNear, walked in plain data. -/
import Derived.Test.YtgeaaegkcbjhlaaWd
import Derived.Test.YtgeaaegkcbjhlaaCk
set_option maxRecDepth 100000
set_option linter.unusedVariables false
set_option linter.unusedSimpArgs false
namespace Go.Proofs.Ytgeaaegkcbjhlaa
open Go.RowKit
theorem wide_le {x : Ex} (h : wideB x = false) : x.evs.length ≤ 70 ∧ x.from_.length ≤ 200 ∧ x.order.length ≤ 200 := by
  unfold wideB at h
  simp only [Bool.or_eq_false_iff, decide_eq_false_iff_not] at h
  omega
theorem changed_x (x : Ex) (i : Nat) (how bye : Int) (hx : x.ok) (hw : wideB x = false) (hi : i < x.evs.length) (hh : 0 ≤ how ∧ how < 15) (hb : 0 ≤ bye ∧ bye < 7) :
    FnW E.P 16 [exOV x, .int .i64 i, .int .i64 how, .int .i64 bye] (stL []) (IsX goodY (fun y => exOV y) (fun _ => [])) := by
  obtain ⟨h1, h2, h3⟩ := wide_le hw
  have hr : ∀ r ∈ x.order, r.2.length ≤ 1000 := fun r h => Nat.le_trans (wide_row hw r h) (by decide)
  have h4 : ∀ i, (x.order.getD i default).2.length ≤ 1000 := fun i => by
    rcases Nat.lt_or_ge i x.order.length with hh | hh
    · rw [List.getD_eq_getElem?_getD, List.getElem?_eq_getElem hh]
      exact hr _ (List.getElem_mem hh)
    · rw [List.getD_eq_getElem?_getD, List.getElem?_eq_none hh]
      decide
  rcases Nat.eq_zero_or_pos x.order.length with h0 | h0
  · exact changed_0 x i how bye hx (by omega) (by omega) h0 hi hh hb
  · obtain ⟨q, hq⟩ : ∃ q, x.order.length = q + 1 := ⟨x.order.length - 1, by omega⟩
    by_cases h14 : how = 14
    · subst h14
      exact changed_j x i q bye hx (by omega) (by omega) hq (by omega) h4 hr hi hb
    · exact changed_n x i q how bye hx (by omega) (by omega) hq (by omega) h4 hr hi (by omega) hb
set_option maxHeartbeats 4000000 in
theorem near_p (x : Ex) (hx : x.ok) : Pure E.P 6 [exOV x] (.bool true) := by
  have lx := hx.1
  refine fn_of_awp Try.func6 (by decide) rfl Try.ntmps6 (Nat.le_of_ble_eq_true rfl) rfl ?_
  (with_reducible refine awp_seq ?_)
  ((with_reducible refine ao_region ?_ (fun _ => ?_)); exact rfl)
  ((with_reducible apply S_box); exact rfl; exact rfl; exact rfl)
  ((with_reducible apply S_assign); exact rfl)
  (with_reducible refine ao_nil ?_)
  (with_reducible refine then_n ?_)
  iterate 2 (with_reducible refine awp_seq ?_)
  ((with_reducible refine ao_region ?_ (fun _ => ?_)); exact rfl)
  ((with_reducible apply S_load_loA); exact rfl; exact rfl; exact rfl; exact rfl; (first | exact rfl | exact get_map (by omega) default | exact get_set_ne (by omega) (by omega) (0 : Int) | assumption); exact Nat.le_of_ble_eq_true rfl)
  ((first
    | ((with_reducible apply S_call); exact rfl; exact .fn _ _ _; exact rfl; (first | exact wide_p _ hx | exact known_p))
    | ((with_reducible apply D_call); exact rfl; exact .fn _ _ _; exact rfl; (first | exact wide_p _ hx | exact known_p))))
  ((with_reducible apply S_move); exact rfl)
  ((with_reducible apply spec_f); exact rfl; exact rfl)
  ((with_reducible refine im_any (fun hc_ => ?_)); (try have hc1_ := (band hc_).1))
  ((with_reducible apply M_fieldAddr_lo); exact rfl; exact rfl; exact rfl; exact rfl; decide; (first | (refine EvM.mb _ rfl ?_; first | assumption | exact rfl) | exact EvM.plain rfl rfl))
  ((with_reducible apply spec_f); exact rfl; exact rfl)
  ((with_reducible refine im_any (fun hc_ => ?_)); (try have hc1_ := (band hc_).1))
  ((with_reducible apply M_load_lo); exact rfl; exact rfl; (first | (refine EvM.mb _ rfl ?_; first | assumption | exact rfl) | exact EvM.plain rfl rfl); exact rfl; exact rfl; exact rfl)
  ((with_reducible apply spec_f); exact rfl; exact rfl)
  ((with_reducible refine im_any (fun hc_ => ?_)); (try have hc1_ := (band hc_).1))
  ((with_reducible apply M_len); exact rfl; exact rfl; (first | (refine EvM.mb _ rfl ?_; first | assumption | exact rfl) | exact EvM.plain rfl rfl); (first | exact len_ints _ | exact len_map _ _ _ | exact len_sl _ _ | exact len_os _ _ _ _ | exact len_vw _ _ _ _ _ | exact len_nil))
  ((with_reducible apply spec_f); exact rfl; exact rfl)
  ((with_reducible refine im_any (fun hc_ => ?_)); (try have hc1_ := (band hc_).1))
  ((with_reducible apply M_gtr); (first | (refine EvM.mb _ rfl ?_; first | assumption | exact rfl) | exact EvM.plain rfl rfl); (first | (refine EvM.mb _ rfl ?_; first | assumption | exact rfl) | exact EvM.plain rfl rfl))
  ((with_reducible apply S_pick_or); (first | (refine EvM.mb _ rfl ?_; first | assumption | exact rfl) | exact EvM.plain rfl rfl); exact rfl; (first | (refine EvB.mb _ rfl ?_; first | exact fun h => h | exact fun h => bnot_mk h | exact fun h => band_mk (by assumption) h | exact fun h => band_mk (by assumption) (bnot_mk h) | (intro h; simp_all)) | exact EvB.plain rfl))
  (with_reducible refine ao_nil ?_)
  (with_reducible refine then_n ?_)
  ((with_reducible apply awp_cond); exact rfl)
  ((with_reducible refine im_ot (fun hc_ => ?_)); (try simp only [Bool.not_eq_true', Bool.not_eq_false', Bool.or_eq_true, Bool.and_eq_true, Bool.or_eq_false_iff, Bool.and_eq_false_iff, decide_eq_true_eq, decide_eq_false_iff_not, Decidable.not_not, Int.not_lt, Int.not_le, Bool.not_true, Bool.not_false, Bool.true_and, Bool.and_true, Bool.false_or, Bool.or_false, Bool.true_or, Bool.false_and, bne_eq_false_iff_eq, bne_iff_ne, beq_iff_eq, beq_eq_false_iff_ne, decide_eq_decide] at hc_))
  (with_reducible refine awp_seq ?_)
  ((with_reducible refine ao_region ?_ (fun _ => ?_)); exact rfl)
  ((first
    | ((with_reducible apply S_call); exact rfl; exact .fn _ _ _; exact rfl; (first | exact wide_p _ hx | exact known_p))
    | ((with_reducible apply D_call); exact rfl; exact .fn _ _ _; exact rfl; (first | exact wide_p _ hx | exact known_p))))
  ((with_reducible apply S_assign); exact rfl)
  (with_reducible refine ao_nil ?_)
  (with_reducible refine then_n ?_)
  (with_reducible refine awp_ret ?_)
  (with_reducible refine then_r ?_)
  rotate_left
  (with_reducible refine im_of ?_)
  (with_reducible refine im_vf (fun _ => ?_))
  ((with_reducible refine im_df (fun _ => ?_)); (try (exfalso; omega)))
  (with_reducible refine awp_skip ?_)
  (with_reducible refine then_n ?_)
  iterate 2 (with_reducible refine awp_seq ?_)
  ((with_reducible refine ao_region ?_ (fun _ => ?_)); exact rfl)
  ((with_reducible apply S_assign); exact rfl)
  (with_reducible refine ao_nil ?_)
  (with_reducible refine then_n ?_)
  (with_reducible refine awp_block ?_)
  rotate_left
  · exact done_b rfl rfl
  rename_i v0 _ hw hl _
  refine awp_loop (X := Nat) (fun k => tmL [(1, .lo 1 (v0, 0) 3 0 0), (3, .int .i64 k)]) (fun _ => stL [(1, ((v0, 0), ⟨3, [(exOV x).cells]⟩))]) (fun k => k ≤ x.evs.length) (fun k => x.evs.length - k) 0 (Nat.zero_le _) (by repeat' (first | exact le_nil _ | exact sle_nil _ | refine le_cons rfl ?_ | refine sle_cons rfl ?_)) (by repeat' (first | exact le_nil _ | exact sle_nil _ | refine le_cons rfl ?_ | refine sle_cons rfl ?_)) ?_
  intro i hi
  iterate 2 (with_reducible refine awp_seq ?_)
  ((with_reducible refine ao_region ?_ (fun _ => ?_)); exact rfl)
  ((with_reducible apply S_move); exact rfl)
  ((with_reducible apply S_fieldAddr_lo); exact rfl; exact rfl; exact rfl; exact rfl; decide; exact rfl)
  ((with_reducible apply S_load_lo); exact rfl; exact rfl; exact rfl; exact rfl; (first | exact rfl | exact get_map (by omega) (0 : Int) | exact get_map (by omega) default | exact hrow _ | assumption); exact rfl)
  ((with_reducible apply S_len); exact rfl; exact rfl; exact rfl; (first | exact len_ints _ | exact len_map _ _ _ | exact len_sl _ _ | exact len_os _ _ _ _ | exact len_vw _ _ _ _ _ | exact len_nil))
  ((with_reducible apply S_lss); exact rfl; exact rfl)
  (with_reducible refine ao_nil ?_)
  (with_reducible refine then_n ?_)
  ((with_reducible apply awp_cond); exact rfl)
  ((with_reducible refine im_dt (fun _ => ?_)); (try (exfalso; omega)))
  (with_reducible refine awp_skip ?_)
  (with_reducible refine then_n ?_)
  (with_reducible refine awp_seq ?_)
  (with_reducible refine awp_block ?_)
  (with_reducible refine awp_seq ?_)
  ((with_reducible refine ao_region ?_ (fun _ => ?_)); exact rfl)
  ((with_reducible apply S_assign); exact rfl)
  (with_reducible refine ao_nil ?_)
  (with_reducible refine then_n ?_)
  (with_reducible refine awp_block ?_)
  rotate_left
  ((with_reducible refine im_df (fun _ => ?_)); (try (exfalso; omega)))
  (with_reducible refine awp_exit ?_)
  iterate 2 (with_reducible refine then_x ?_)
  (with_reducible refine blk_x ?_)
  (with_reducible refine then_n ?_)
  (with_reducible refine awp_seq ?_)
  ((with_reducible refine ao_region ?_ (fun _ => ?_)); exact rfl)
  ((first
    | ((with_reducible apply S_call); exact rfl; exact .fn _ _ _; exact rfl; (first | exact known_p))
    | ((with_reducible apply D_call); exact rfl; exact .fn _ _ _; exact rfl; (first | exact known_p))))
  ((with_reducible apply S_assign); exact rfl)
  (with_reducible refine ao_nil ?_)
  (with_reducible refine then_n ?_)
  (with_reducible refine awp_ret ?_)
  rotate_left
  · rename_i hlt _ _
    refine awp_loop (X := Nat) (fun k => tmL [(1, .lo 1 (v0, 0) 3 0 0), (3, .int .i64 i), (4, .int .i64 k)]) (fun _ => stL [(1, ((v0, 0), ⟨3, [(exOV x).cells]⟩))]) (fun k => k ≤ 15) (fun k => 15 - k) 0 (Nat.zero_le _) (by repeat' (first | exact le_nil _ | exact sle_nil _ | refine le_cons rfl ?_ | refine sle_cons rfl ?_)) (by repeat' (first | exact le_nil _ | exact sle_nil _ | refine le_cons rfl ?_ | refine sle_cons rfl ?_)) ?_
    intro how hhow
    iterate 2 (with_reducible refine awp_seq ?_)
    ((with_reducible refine ao_region ?_ (fun _ => ?_)); exact rfl)
    ((with_reducible apply S_move); exact rfl)
    ((with_reducible apply S_lss); exact rfl; exact rfl)
    (with_reducible refine ao_nil ?_)
    (with_reducible refine then_n ?_)
    ((with_reducible apply awp_cond); exact rfl)
    ((with_reducible refine im_dt (fun _ => ?_)); (try (exfalso; omega)))
    (with_reducible refine awp_skip ?_)
    (with_reducible refine then_n ?_)
    (with_reducible refine awp_seq ?_)
    (with_reducible refine awp_block ?_)
    (with_reducible refine awp_seq ?_)
    ((with_reducible refine ao_region ?_ (fun _ => ?_)); exact rfl)
    ((with_reducible apply S_assign); exact rfl)
    (with_reducible refine ao_nil ?_)
    (with_reducible refine then_n ?_)
    (with_reducible refine awp_block ?_)
    rotate_left
    ((with_reducible refine im_df (fun _ => ?_)); (try (exfalso; omega)))
    (with_reducible refine awp_exit ?_)
    iterate 2 (with_reducible refine then_x ?_)
    (with_reducible refine blk_x ?_)
    (with_reducible refine blk_n ?_)
    (with_reducible refine then_n ?_)
    ((with_reducible refine ao_region ?_ (fun _ => ?_)); exact rfl)
    ((with_reducible apply S_move); exact rfl)
    ((with_reducible apply S_add64); exact rfl; exact rfl; omega)
    ((with_reducible apply S_assign); exact rfl)
    (with_reducible refine ao_nil ?_)
    (with_reducible refine then_n ?_)
    rotate_left
    · refine awp_loop (X := Nat) (fun k => tmL [(1, .lo 1 (v0, 0) 3 0 0), (3, .int .i64 i), (4, .int .i64 how), (5, .int .i64 k)]) (fun _ => stL [(1, ((v0, 0), ⟨3, [(exOV x).cells]⟩))]) (fun k => k ≤ 7) (fun k => 7 - k) 0 (Nat.zero_le _) (by repeat' (first | exact le_nil _ | exact sle_nil _ | refine le_cons rfl ?_ | refine sle_cons rfl ?_)) (by repeat' (first | exact le_nil _ | exact sle_nil _ | refine le_cons rfl ?_ | refine sle_cons rfl ?_)) ?_
      intro bye hbye
      iterate 2 (with_reducible refine awp_seq ?_)
      ((with_reducible refine ao_region ?_ (fun _ => ?_)); exact rfl)
      ((with_reducible apply S_move); exact rfl)
      ((with_reducible apply S_lss); exact rfl; exact rfl)
      (with_reducible refine ao_nil ?_)
      (with_reducible refine then_n ?_)
      ((with_reducible apply awp_cond); exact rfl)
      ((with_reducible refine im_dt (fun _ => ?_)); (try (exfalso; omega)))
      (with_reducible refine awp_skip ?_)
      (with_reducible refine then_n ?_)
      (with_reducible refine awp_seq ?_)
      (with_reducible refine awp_block ?_)
      (with_reducible refine awp_seq ?_)
      ((with_reducible refine ao_region ?_ (fun _ => ?_)); exact rfl)
      ((with_reducible apply S_load_loA); exact rfl; exact rfl; exact rfl; exact rfl; (first | exact rfl | exact get_map (by omega) default | exact get_set_ne (by omega) (by omega) (0 : Int) | assumption); exact Nat.le_of_ble_eq_true rfl)
      iterate 3 ((with_reducible apply S_move); exact rfl)
      ((first | ((with_reducible apply S_callX); exact rfl; exact .fn _ _ _; exact rfl; exact (changed_x x i how bye hx hw (by omega) (by omega) (by omega)); exact sle_nil _; (intro _; simp); (intro y hy)) | first
        | ((with_reducible apply S_call); exact rfl; exact .fn _ _ _; exact rfl; (first | exact check_p _ hy.1 (fun r hr => Nat.le_trans (hy.2 r hr) (by decide)) | exact rcheck_p _ hy.1 (fun e he => (hy.1.2.1 e he).bare)))
        | ((with_reducible apply D_call); exact rfl; exact .fn _ _ _; exact rfl; (first | exact check_p _ hy.1 (fun r hr => Nat.le_trans (hy.2 r hr) (by decide)) | exact rcheck_p _ hy.1 (fun e he => (hy.1.2.1 e he).bare)))))
      ((with_reducible apply S_alloc); exact rfl)
      ((with_reducible apply S_store); exact rfl; exact rfl; exact rfl; exact rfl; exact rfl; exact rfl; (first | exact rfl | exact get_map (by omega) (0 : Int) | exact get_map (by omega) default | exact get_set_ne (by omega) (by omega) (0 : Int) | assumption); exact Nat.le_of_ble_eq_true rfl)
      (with_reducible refine ao_nil ?_)
      (with_reducible refine then_n ?_)
      (with_reducible refine awp_seq ?_)
      ((with_reducible refine do_region (E := E) ?_ (fun _ => ?_)); exact rfl)
      ((with_reducible apply D_load_loA); exact rfl; exact rfl; exact rfl; exact rfl; (first | exact rfl | exact get_map (by omega) default | exact get_set_ne (by omega) (by omega) (0 : Int) | assumption); exact Nat.le_of_ble_eq_true rfl)
      ((first | ((with_reducible apply S_callX); exact rfl; exact .fn _ _ _; exact rfl; exact (changed_x x i how bye hx hw (by omega) (by omega) (by omega)); exact sle_nil _; (intro _; simp); (intro y hy)) | first
        | ((with_reducible apply S_call); exact rfl; exact .fn _ _ _; exact rfl; (first | exact check_p _ hy.1 (fun r hr => Nat.le_trans (hy.2 r hr) (by decide)) | exact rcheck_p _ hy.1 (fun e he => (hy.1.2.1 e he).bare)))
        | ((with_reducible apply D_call); exact rfl; exact .fn _ _ _; exact rfl; (first | exact check_p _ hy.1 (fun r hr => Nat.le_trans (hy.2 r hr) (by decide)) | exact rcheck_p _ hy.1 (fun e he => (hy.1.2.1 e he).bare)))))
      ((with_reducible apply D_load_loA); exact rfl; exact rfl; exact rfl; exact rfl; (first | exact rfl | exact get_map (by omega) default | exact get_set_ne (by omega) (by omega) (0 : Int) | assumption); exact Nat.le_of_ble_eq_true rfl)
      ((first | ((with_reducible apply S_callX); exact rfl; exact .fn _ _ _; exact rfl; exact (changed_x x i how bye hx hw (by omega) (by omega) (by omega)); exact sle_nil _; (intro _; simp); (intro y hy)) | first
        | ((with_reducible apply S_call); exact rfl; exact .fn _ _ _; exact rfl; (first | exact check_p _ hy.1 (fun r hr => Nat.le_trans (hy.2 r hr) (by decide)) | exact rcheck_p _ hy.1 (fun e he => (hy.1.2.1 e he).bare)))
        | ((with_reducible apply D_call); exact rfl; exact .fn _ _ _; exact rfl; (first | exact check_p _ hy.1 (fun r hr => Nat.le_trans (hy.2 r hr) (by decide)) | exact rcheck_p _ hy.1 (fun e he => (hy.1.2.1 e he).bare)))))
      ((with_reducible apply D_neq); exact rfl; exact rfl)
      ((with_reducible refine do_nil ?_ ?_); (first | ((try dsimp only [wkeys]); decide +kernel) | exact rfl))
      (with_reducible refine then_n ?_)
      ((with_reducible apply awp_cond); exact rfl)
      ((with_reducible refine im_nt (fun _ => ?_)); (try (exfalso; omega)))
      ((with_reducible refine im_nf (fun _ => ?_)); (try (exfalso; omega)))
      (with_reducible refine awp_skip ?_)
      (with_reducible refine blk_n ?_)
      (with_reducible refine then_n ?_)
      ((with_reducible refine ao_region ?_ (fun _ => ?_)); exact rfl)
      ((with_reducible apply S_move); exact rfl)
      ((with_reducible apply S_add64); exact rfl; exact rfl; omega)
      ((with_reducible apply S_assign); exact rfl)
      (with_reducible refine ao_nil ?_)
      (with_reducible refine then_n ?_)
      rotate_left
      ((with_reducible refine im_df (fun _ => ?_)); (try (exfalso; omega)))
      (with_reducible refine awp_exit ?_)
      iterate 2 (with_reducible refine then_x ?_)
      (with_reducible refine blk_x ?_)
      (with_reducible refine blk_n ?_)
      (with_reducible refine then_n ?_)
      ((with_reducible refine ao_region ?_ (fun _ => ?_)); exact rfl)
      ((with_reducible apply S_move); exact rfl)
      ((with_reducible apply S_add64); exact rfl; exact rfl; omega)
      ((with_reducible apply S_assign); exact rfl)
      (with_reducible refine ao_nil ?_)
      (with_reducible refine then_n ?_)
      rotate_left
      · exact round' (bye + 1) (by omega) (by omega) (by repeat' (first | exact le_nil _ | exact sle_nil _ | refine le_cons rfl ?_ | refine sle_cons rfl ?_)) (by repeat' (first | exact le_nil _ | exact sle_nil _ | refine le_cons rfl ?_ | refine sle_cons rfl ?_))
      · exact round' (how + 1) (by omega) (by omega) (by repeat' (first | exact le_nil _ | exact sle_nil _ | refine le_cons rfl ?_ | refine sle_cons rfl ?_)) (by repeat' (first | exact le_nil _ | exact sle_nil _ | refine le_cons rfl ?_ | refine sle_cons rfl ?_))
    · exact round' (i + 1) (by omega) (by omega) (by repeat' (first | exact le_nil _ | exact sle_nil _ | refine le_cons rfl ?_ | refine sle_cons rfl ?_)) (by repeat' (first | exact le_nil _ | exact sle_nil _ | refine le_cons rfl ?_ | refine sle_cons rfl ?_))
  · exact done_b rfl rfl
end Go.Proofs.Ytgeaaegkcbjhlaa
