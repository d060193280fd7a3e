/- The statement EventsCheck: at every execution the call returns true, and leaves its argument as it was: events.Check answers what the reference's Check answers. -/
import Derived.Test.YtgeaaegkcbjhlaaWd
set_option maxRecDepth 100000
set_option linter.unusedVariables false
set_option linter.unusedSimpArgs false
namespace Go.Proofs.Ytgeaaegkcbjhlaa.eventsCheck
open Go.RowKit Go.ChangeShapes Go.WideShapes Go.Proofs.Ytgeaaegkcbjhlaa

theorem own : ownKnob Try.prog.godebug = none := by kernel_rfl
set_option maxHeartbeats 4000000 in
theorem law_p (x : Ex) (hx : x.ok) : Pure E.P 3 [exOV x] (.bool true) := by
  refine fn_of_awp Try.func3 (by decide) rfl Try.ntmps3 (Nat.le_of_ble_eq_true rfl) rfl ?_
  (with_reducible refine awp_seq ?_)
  ((with_reducible refine ao_region ?_ (fun _ => ?_)); exact rfl)
  ((with_reducible apply S_box); exact rfl; exact rfl; exact rfl)
  ((with_reducible apply S_assign); exact rfl)
  (with_reducible refine ao_nil ?_)
  (with_reducible refine then_n ?_)
  iterate 2 (with_reducible refine awp_seq ?_)
  ((with_reducible refine ao_region ?_ (fun _ => ?_)); exact rfl)
  ((with_reducible apply S_load_loA); exact rfl; exact rfl; exact rfl; exact rfl; exact rfl; exact Nat.le_of_ble_eq_true rfl)
  (first
    | ((with_reducible apply S_call); exact rfl; exact .fn _ _ _; exact rfl; (first | exact wide_p x hx | exact known_p | exact check_p x hx (fun r hr => Nat.le_trans (wide_row (by assumption) r hr) (by decide)) | exact rcheck_p x hx (fun e he => (hx.2.1 e he).bare)))
    | ((with_reducible apply D_call); exact rfl; exact .fn _ _ _; exact rfl; (first | exact wide_p x hx | exact known_p | exact check_p x hx (fun r hr => Nat.le_trans (wide_row (by assumption) r hr) (by decide)) | exact rcheck_p x hx (fun e he => (hx.2.1 e he).bare))))
  (with_reducible refine ao_nil ?_)
  (with_reducible refine then_n ?_)
  ((with_reducible apply awp_cond); exact rfl)
  (with_reducible refine im_vt (fun _ => ?_))
  (with_reducible refine awp_seq ?_)
  ((with_reducible refine ao_region ?_ (fun _ => ?_)); exact rfl)
  (first
    | ((with_reducible apply S_call); exact rfl; exact .fn _ _ _; exact rfl; (first | exact wide_p x hx | exact known_p | exact check_p x hx (fun r hr => Nat.le_trans (wide_row (by assumption) r hr) (by decide)) | exact rcheck_p x hx (fun e he => (hx.2.1 e he).bare)))
    | ((with_reducible apply D_call); exact rfl; exact .fn _ _ _; exact rfl; (first | exact wide_p x hx | exact known_p | exact check_p x hx (fun r hr => Nat.le_trans (wide_row (by assumption) r hr) (by decide)) | exact rcheck_p x hx (fun e he => (hx.2.1 e he).bare))))
  ((with_reducible apply S_assign); exact rfl)
  (with_reducible refine ao_nil ?_)
  (with_reducible refine then_n ?_)
  (with_reducible refine awp_ret ?_)
  (with_reducible refine then_r ?_)
  rotate_left
  (with_reducible refine im_vf (fun _ => ?_))
  (with_reducible refine awp_skip ?_)
  (with_reducible refine then_n ?_)
  (with_reducible refine awp_seq ?_)
  ((with_reducible refine do_region (E := E) ?_ (fun _ => ?_)); exact rfl)
  ((with_reducible apply D_load_loA); exact rfl; exact rfl; exact rfl; exact rfl; exact rfl; exact Nat.le_of_ble_eq_true rfl)
  (first
    | ((with_reducible apply S_call); exact rfl; exact .fn _ _ _; exact rfl; (first | exact wide_p x hx | exact known_p | exact check_p x hx (fun r hr => Nat.le_trans (wide_row (by assumption) r hr) (by decide)) | exact rcheck_p x hx (fun e he => (hx.2.1 e he).bare)))
    | ((with_reducible apply D_call); exact rfl; exact .fn _ _ _; exact rfl; (first | exact wide_p x hx | exact known_p | exact check_p x hx (fun r hr => Nat.le_trans (wide_row (by assumption) r hr) (by decide)) | exact rcheck_p x hx (fun e he => (hx.2.1 e he).bare))))
  ((with_reducible apply D_load_loA); exact rfl; exact rfl; exact rfl; exact rfl; exact rfl; exact Nat.le_of_ble_eq_true rfl)
  (first
    | ((with_reducible apply S_call); exact rfl; exact .fn _ _ _; exact rfl; (first | exact wide_p x hx | exact known_p | exact check_p x hx (fun r hr => Nat.le_trans (wide_row (by assumption) r hr) (by decide)) | exact rcheck_p x hx (fun e he => (hx.2.1 e he).bare)))
    | ((with_reducible apply D_call); exact rfl; exact .fn _ _ _; exact rfl; (first | exact wide_p x hx | exact known_p | exact check_p x hx (fun r hr => Nat.le_trans (wide_row (by assumption) r hr) (by decide)) | exact rcheck_p x hx (fun e he => (hx.2.1 e he).bare))))
  ((with_reducible apply D_eql); exact rfl; exact rfl)
  ((with_reducible apply D_move); exact rfl)
  ((with_reducible apply dspec_t); exact rfl; exact rfl)
  ((with_reducible refine im_any (fun hc_ => ?_)); (try have hc1_ := (band hc_).1))
  ((have hp_ := hc_; (try simp only [Bool.not_eq_true', Bool.not_eq_false', Bool.or_eq_true, Bool.and_eq_true, Bool.or_eq_false_iff, Bool.and_eq_false_iff, decide_eq_true_eq, decide_eq_false_iff_not, Decidable.not_not, Int.not_lt, Int.not_le, Bool.not_true, Bool.not_false, Bool.true_and, Bool.and_true, Bool.false_or, Bool.or_false, Bool.true_or, Bool.false_and, bne_eq_false_iff_eq, bne_iff_ne, beq_iff_eq, beq_eq_false_iff_ne, decide_eq_decide] at hp_)))
  (((with_reducible apply M_call); exact .plain rfl rfl; exact .fn _ _ _; (repeat (first | exact EvsM.nil | (apply EvsM.cons; first | (refine EvM.mb _ rfl ?_; first | assumption | exact rfl) | exact EvM.plain rfl rfl))); (first | exact wide_p x hx | exact known_p | exact check_p x hx (fun r hr => Nat.le_trans (wide_row (by assumption) r hr) (by decide)) | exact rcheck_p x hx (fun e he => (hx.2.1 e he).bare))))
  ((with_reducible apply D_pick_and); (first | (refine EvM.mb _ rfl ?_; first | assumption | exact rfl) | exact EvM.plain rfl rfl); (first | (refine EvB.mb _ rfl ?_; first | exact fun h => h | exact fun h => bnot_mk h | exact fun h => band_mk (by assumption) h | exact fun h => band_mk (by assumption) (bnot_mk h) | (intro h; simp_all)) | exact EvB.plain rfl); exact rfl)
  ((with_reducible apply D_assign); exact rfl)
  ((with_reducible refine do_nil ?_ ?_); (first | ((try dsimp only [wkeys]); decide +kernel) | exact rfl))
  (with_reducible refine then_n ?_)
  (with_reducible refine awp_ret ?_)
  rotate_left
  · exact done_b rfl rfl
  · exact done_b rfl (by simp)

/-! ### the row's step -/
set_option maxRecDepth 100000 in
theorem lifted (os : Os) (started : os.Started) (H : Type) (enc : TypeId × Value → H) :
    ReturnsInHanded {} Try.checked os 3 .any (Rows.eventsCheckSpec.pre6 enc Try.prog Try.f3 Rows.eventsCheckRow.domain false) (Rows.eventsCheckSpec.post enc Try.prog Try.f3 false true false false) := by
  refine returnsInHanded_of_change_sized (C := Try.checked) own started (by kernel_rfl) Try.func3
    (ChangeSpec.witness6 (enc := enc) (C := Try.checked) false ⟨#[], #[.agg #[.slice none 0 0, .slice none 0 0, .slice none 0 0]], []⟩ 8 (by kernel_rfl) (by kernel_rfl) (by kernel_rfl) (by kernel_rfl)) ?_
  intro W base args ds gs before hval0 hW _ hsz0 _
  have hsz : (DataW.weightsEach Try.prog (Try.f3.params.toList ++ Rows.eventsCheckSpec.plain.varTypes Try.prog) (ds ++ gs)).all (· ≤ reachBytes) = true := hsz0
  clear hsz0
  have hval : ∀ (j : Nat) t v, Try.f3.params[j]? = some t → args[j]? = some v → Value.okWide Try.prog W .any base t v := hval0
  have hW' := hW
  obtain ⟨p, q, hA0, hV, rfl, _, _⟩ := hW
  have hA : DataW.TrodAll enc Try.prog W 0 (fun _ => true) true Try.f3.params.toList args.toList ds p := hA0
  rw [Try.params3] at hA hval hsz
  obtain ⟨rfl, rfl⟩ := trodVars_none hV
  simp only [List.append_nil] at hW'
  have hlt : ∀ x ∈ p, x.block < W.heap.size := fun x hx => by simpa using hW'.lt x hx
  have hAk := hA
  obtain ⟨v0, d0, rfl, rfl, h0⟩ := trodAll_one hA
  obtain ⟨x, hx0, hx⟩ := exec_rep (hval 0 26 v0 rfl rfl) h0 (w_arg hsz (j := 0) rfl rfl)
  refine (FnR.calls (law_p x hx) (vs := [v0]) (by rw [RepOL]; exact ⟨_, _, rfl, hx0, by rw [RepOL]⟩)).mono fun e W' ⟨he, hb⟩ => ?_
  subst he
  exact ⟨_, rfl, _, _, _, [], _, [], hW', trodAll_cons_mk (shut_bool Try.underlying4 _) trodAll_mk0, stays_all laid_ok hb (by intro t ht; simp only [List.mem_cons, List.not_mem_nil, or_false] at ht; rcases ht with rfl; exact ⟨by kernel_rfl, of_decide_eq_true (by kernel_rfl)⟩) hAk hlt _ (fun q hq => by simpa using hlt q hq), rfl, hb.frame _, fun h => by cases h⟩

theorem over : Rows.eventsCheckRow.holds Try.pinned (OpenSpec.ofChange Rows.eventsCheckSpec) :=
  OpenClaim.holds_of_wide 3 Try.f3 rfl rfl rfl rfl rfl rfl rfl ⟨rfl, rfl, rfl, rfl, rfl⟩ rfl rfl rfl rfl rfl (by kernel_rfl) Try.func3 (by kernel_rfl)
    (of_decide_eq_true (by kernel_rfl)) (by unfold Func.isWrapper; first | (rw [if_pos (by decide +kernel)]; kernel_rfl) | (rw [if_neg (by decide +kernel)]; exact ⟨rfl, rfl⟩))
    (fun os started H enc _ => lifted os started H enc)
theorem proved : Rows.EventsCheckSaid := over
end Go.Proofs.Ytgeaaegkcbjhlaa.eventsCheck
