/- An execution in memory of its own (copied, of the laws of layer 6), walked in plain data. -/
import Derived.Test.YtgeaaegkcbjhlaaDa
import Derived.Test.YtgeaaegkcbjhlaaFr
import Derived.Test.YtgeaaegkcbjhlaaFz
set_option maxRecDepth 100000
set_option linter.unusedVariables false
set_option linter.unusedSimpArgs false
namespace Go.Proofs.Ytgeaaegkcbjhlaa
open Go.RowKit
abbrev Stamp4 := Stamp × Stamp × Stamp × Stamp
def evRow (e : Ev) : List OV := (evTV e).map .d
/-- the rows of Order, the j-th one the call's own -/
def ordRow (j : Nat) (τ : Stamp) (l : List (Sl × List Int)) (i : Nat) : List OV := if i = j then [.os 1026 τ 1 (l.getD i default).2.length] else [.d (ints (l.getD i default).2)]
def ordRows (j : Nat) (τ : Stamp) (l : List (Sl × List Int)) (k : Nat) : List (List OV) := (List.range k).map (ordRow j τ l)
def ordV (τ : Stamp) : Nat → OV
  | 0 => .d (.c (.slice none 0 0))
  | k + 1 => .os 1028 τ 1 (k + 1)
def ordS (τ : Stamp) (rows : Nat → List (List OV)) : Nat → List (Nat × (Stamp × Row))
  | 0 => []
  | k + 1 => [(1028, (τ, ⟨1, rows (k + 1)⟩))]
def jS (j k : Nat) (τ : Stamp) (l : List (Sl × List Int)) : List (Nat × (Stamp × Row)) := if j < k then [(1026, (τ, ⟨1, (l.getD j default).2.map (cellO .i64)⟩))] else []
/-- what a copied execution is, in rows of one's own -/
def cpO (x : Ex) (p : Stamp4) (k : Nat) : List OV := [.os 1007 p.1 13 x.evs.length, .os 1010 p.2.1 1 x.from_.length, ordV p.2.2.1 k]
def cpS (j : Nat) (x : Ex) (p : Stamp4) (k : Nat) : List (Nat × (Stamp × Row)) :=
  [(1007, (p.1, ⟨13, x.evs.map evRow⟩)), (1010, (p.2.1, ⟨1, x.from_.map (cellO .i64)⟩))] ++ ordS p.2.2.1 (ordRows j p.2.2.2 x.order) k ++ jS j k p.2.2.2 x.order
theorem Ex.ok.evC {x : Ex} (h : x.ok) {i : Nat} (hi : i < x.evs.length) : (x.evs.getD i default).ok := by
  rw [List.getD_eq_getElem?_getD, List.getElem?_eq_getElem hi]
  exact h.2.1 _ (List.getElem_mem hi)
theorem ordRows_succ (j : Nat) (τ : Stamp) (l : List (Sl × List Int)) (k : Nat) : ordRows j τ l (k + 1) = ordRows j τ l k ++ [ordRow j τ l k] := by
  unfold ordRows; rw [List.range_succ, List.map_append]; rfl
theorem ordRows_length (j : Nat) (τ : Stamp) (l : List (Sl × List Int)) (k : Nat) : (ordRows j τ l k).length = k := by simp [ordRows]
theorem doneN_cell {E : Env} {t T : Nat} {te : TE} {k : Nat} {τ : Stamp} {row : List OV} {rest : List (List OV)} {R : OV → Store → Prop} {tm : Tm} {σ : Store} (hT : E.tab T = some te) (ha : te.k.isAgg = true) (hs : te.size = row.length) (ht : tm t = some (.lo k τ te.size 0 0)) (hk : σ k = some (τ, ⟨te.size, row :: rest⟩)) (hR : R (.ag row) σ) : DoneN E [.cell t T] R .ret tm σ :=
  ⟨[.ag row], ⟨_, [], rfl, ⟨te, k, τ, row, rest, hT, ha, hs, ht, hk, rfl⟩, rfl⟩, hR⟩
theorem cpS_zero (j : Nat) (x : Ex) (p : Stamp4) : cpS j x p 0 = [(1007, (p.1, ⟨13, x.evs.map evRow⟩)), (1010, (p.2.1, ⟨1, x.from_.map (cellO .i64)⟩))] := by simp [cpS, ordS, jS]
theorem cpS_lt (j : Nat) (x : Ex) (p : Stamp4) (k : Nat) (h : ¬ j < k + 1) : cpS j x p (k + 1) = [(1007, (p.1, ⟨13, x.evs.map evRow⟩)), (1010, (p.2.1, ⟨1, x.from_.map (cellO .i64)⟩)), (1028, (p.2.2.1, ⟨1, ordRows j p.2.2.2 x.order (k + 1)⟩))] := by simp [cpS, ordS, jS, h]
theorem cpS_ge (j : Nat) (x : Ex) (p : Stamp4) (k : Nat) (h : j < k + 1) : cpS j x p (k + 1) = [(1007, (p.1, ⟨13, x.evs.map evRow⟩)), (1010, (p.2.1, ⟨1, x.from_.map (cellO .i64)⟩)), (1028, (p.2.2.1, ⟨1, ordRows j p.2.2.2 x.order (k + 1)⟩)), (1026, (p.2.2.2, ⟨1, (x.order.getD j default).2.map (cellO .i64)⟩))] := by simp [cpS, ordS, jS, h]
theorem ordRows_ne (j : Nat) (τ : Stamp) (l : List (Sl × List Int)) (k : Nat) (h : k ≠ j) : ordRows j τ l (k + 1) = ordRows j τ l k ++ [[.d (ints (l.getD k default).2)]] := by rw [ordRows_succ]; unfold ordRow; rw [if_neg h]
theorem ordRows_eq (τ : Stamp) (l : List (Sl × List Int)) (k : Nat) : ordRows k τ l (k + 1) = ordRows k τ l k ++ [[.os 1026 τ 1 (l.getD k default).2.length]] := by rw [ordRows_succ]; unfold ordRow; rw [if_pos rfl]
theorem ordRows_stamp (j : Nat) (τ τ' : Stamp) (l : List (Sl × List Int)) : ∀ k, k ≤ j → ordRows j τ l k = ordRows j τ' l k
  | 0, _ => rfl
  | k + 1, h => by rw [ordRows_ne _ _ _ _ (by omega), ordRows_ne _ _ _ _ (by omega), ordRows_stamp j τ τ' l k (by omega)]
set_option maxHeartbeats 4000000 in
theorem copied_p (j : Nat) (x : Ex) (h1 : x.evs.length ≤ 1000) (h2 : x.from_.length ≤ 1000) (h3 : x.order.length ≤ 1000) (h4 : ∀ i, (x.order.getD i default).2.length ≤ 1000) :
    FnW E.P 37 [exOV x] (stL []) (IsX (fun _ : Stamp4 => True) (fun p => .ag (cpO x p x.order.length)) (fun p => cpS j x p x.order.length)) := by
  have k7 : KeyOf 7 1007 := ⟨trivial⟩
  have k10 : KeyOf 10 1010 := ⟨trivial⟩
  have k28 : KeyOf 28 1028 := ⟨trivial⟩
  refine fn_of_awpN (vs := [.cell 2 26]) Try.func37 (by decide) rfl Try.ntmps37 (Nat.le_of_ble_eq_true rfl) rfl ?_
  (with_reducible refine awp_seq ?_)
  ((with_reducible refine ao_region ?_ (fun _ => ?_)); exact rfl)
  ((with_reducible apply S_box); exact rfl; exact rfl; exact rfl)
  ((with_reducible apply S_alloc); exact rfl)
  (with_reducible refine ao_nil ?_)
  (with_reducible refine then_n ?_)
  (with_reducible refine awp_seq ?_)
  ((with_reducible refine do_region (E := E) ?_ (fun _ => ?_)); exact rfl)
  ((with_reducible apply D_fieldAddr_lo); exact rfl; exact rfl; exact rfl; exact rfl; decide; exact rfl)
  ((with_reducible apply D_load_lo); exact rfl; exact rfl; exact rfl; exact rfl; (first | exact rfl | exact get_map (by omega) (0 : Int) | exact get_map (by omega) default | exact hrow _ | assumption); exact rfl)
  ((with_reducible apply D_appendK); assumption; exact rfl; exact rfl; exact rfl; exact rfl; decide; exact rfl; exact rfl; (first | exact .os _ _ _ _ rfl (by first | rfl | (first | omega | (simp only [List.length_append, List.length_map, List.length_take, List.length_drop, List.length_cons, List.length_nil, List.length_replicate, chop_length] <;> omega))) | exact .nil); (first | exact .os _ _ _ _ rfl (by first | rfl | (first | omega | (simp only [List.length_append, List.length_map, List.length_take, List.length_drop, List.length_cons, List.length_nil, List.length_replicate, chop_length] <;> omega))) | exact .vw _ _ _ _ _ rfl (by (first | omega | (simp only [List.length_append, List.length_map, List.length_take, List.length_drop, List.length_cons, List.length_nil, List.length_replicate, chop_length] <;> omega))) | exact .nil | exact .sl _); (repeat (first | exact LeafR.nil | exact LeafR.cells _ _ | exact LeafR.d _ | (apply LeafR.one; exact rfl) | exact hleaf _ | refine LeafR.take _ ?_ | refine LeafR.drop _ ?_ | refine LeafR.app ?_ ?_ | (apply LeafR.lit; exact rfl) | assumption)); (show _ * (Nat.succ _) ≤ _; (first | omega | (simp only [List.length_append, List.length_map, List.length_take, List.length_drop, List.length_cons, List.length_nil, List.length_replicate, chop_length] <;> omega))); (unfold maxLen; (first | omega | (simp only [List.length_append, List.length_map, List.length_take, List.length_drop, List.length_cons, List.length_nil, List.length_replicate, chop_length] <;> omega))))
  ((with_reducible apply D_fieldAddr_lo); exact rfl; exact rfl; exact rfl; exact rfl; decide; exact rfl)
  ((with_reducible apply D_load_lo); exact rfl; exact rfl; exact rfl; exact rfl; (first | exact rfl | exact get_map (by omega) (0 : Int) | exact get_map (by omega) default | exact hrow _ | assumption); exact rfl)
  ((with_reducible apply D_appendK); assumption; exact rfl; exact rfl; exact rfl; exact rfl; decide; exact rfl; exact rfl; (first | exact .os _ _ _ _ rfl (by first | rfl | (first | omega | (simp only [List.length_append, List.length_map, List.length_take, List.length_drop, List.length_cons, List.length_nil, List.length_replicate, chop_length] <;> omega))) | exact .nil); (first | exact .os _ _ _ _ rfl (by first | rfl | (first | omega | (simp only [List.length_append, List.length_map, List.length_take, List.length_drop, List.length_cons, List.length_nil, List.length_replicate, chop_length] <;> omega))) | exact .vw _ _ _ _ _ rfl (by (first | omega | (simp only [List.length_append, List.length_map, List.length_take, List.length_drop, List.length_cons, List.length_nil, List.length_replicate, chop_length] <;> omega))) | exact .nil | exact .sl _); (repeat (first | exact LeafR.nil | exact LeafR.cells _ _ | exact LeafR.d _ | (apply LeafR.one; exact rfl) | exact hleaf _ | refine LeafR.take _ ?_ | refine LeafR.drop _ ?_ | refine LeafR.app ?_ ?_ | (apply LeafR.lit; exact rfl) | assumption)); (show _ * (Nat.succ _) ≤ _; (first | omega | (simp only [List.length_append, List.length_map, List.length_take, List.length_drop, List.length_cons, List.length_nil, List.length_replicate, chop_length] <;> omega))); (unfold maxLen; (first | omega | (simp only [List.length_append, List.length_map, List.length_take, List.length_drop, List.length_cons, List.length_nil, List.length_replicate, chop_length] <;> omega))))
  ((with_reducible apply D_build); exact rfl; exact rfl; exact rfl; exact rfl; exact rfl)
  ((with_reducible apply D_alloc); exact rfl)
  ((with_reducible apply D_store); exact rfl; exact rfl; exact rfl; exact rfl; exact rfl; exact rfl; (first | exact rfl | exact get_map (by omega) (0 : Int) | exact get_map (by omega) default | exact get_set_ne (by omega) (by omega) (0 : Int) | assumption); exact Nat.le_of_ble_eq_true rfl)
  ((with_reducible refine do_nil ?_ ?_); (first | ((try dsimp only [wkeys]); decide +kernel) | exact rfl))
  (with_reducible refine then_n ?_)
  iterate 2 (with_reducible refine awp_seq ?_)
  ((with_reducible refine ao_region ?_ (fun _ => ?_)); exact rfl)
  ((with_reducible apply S_assign); exact rfl)
  (with_reducible refine ao_nil ?_)
  (with_reducible refine then_n ?_)
  (with_reducible refine awp_block ?_)
  rotate_left
  rename_i v0 v1 _
  refine awp_loop (X := Stamp4 × Nat) (fun p => tmL [(1, .lo 1 (v0, 0) 3 0 0), (2, .lo 2 (v0, 1) 3 0 0), (3, .lo 3 (v1, 7) 3 0 0), (4, .int .i64 p.2)])
    (fun p => stL ([(1, ((v0, 0), ⟨3, [(exOV x).cells]⟩)), (2, ((v0, 1), ⟨3, [consts te26.zero]⟩)), (3, ((v1, 7), ⟨3, [cpO x p.1 p.2]⟩))] ++ cpS j x p.1 p.2))
    (fun p => p.2 ≤ x.order.length) (fun p => x.order.length - p.2) (((v1, 2), (v1, 5), (0, 0), (0, 0)), 0) (Nat.zero_le _) (by repeat' (first | exact le_nil _ | exact sle_nil _ | refine le_cons rfl ?_ | refine sle_cons rfl ?_)) ?_ ?_
  · show (stL ([_, _, _] ++ cpS j x _ 0)).le _
    rw [cpS_zero]
    refine sle_cons rfl (sle_cons rfl (sle_cons' rfl ?_ (sle_cons' rfl ?_ (sle_cons' rfl ?_ (sle_nil _)))))
    · show [[OV.os 1007 (v1, 2) 13 _, OV.os 1010 (v1, 5) 1 _, _]] = _
      simp [cpO, ordV]
    · show List.map _ (List.map evTV x.evs) = _
      rw [List.map_map]; rfl
    · show List.map _ (List.map cell x.from_) = _
      rw [List.map_map]; rfl
  rintro ⟨⟨τE, τF, τO, τJ⟩, k⟩ hk
  dsimp only at hk ⊢
  have hr := h4 (k : Int).toNat
  cases k with
  | zero =>
    have e0 : stL ([(1, ((v0, 0), ⟨3, [(exOV x).cells]⟩)), (2, ((v0, 1), ⟨3, [consts te26.zero]⟩)), (3, ((v1, 7), ⟨3, [cpO x (τE, τF, τO, τJ) (0)]⟩))] ++ cpS j x (τE, τF, τO, τJ) 0) = stL ([(1, ((v0, 0), ⟨3, [(exOV x).cells]⟩)), (2, ((v0, 1), ⟨3, [consts te26.zero]⟩)), (3, ((v1, 7), ⟨3, [cpO x (τE, τF, τO, τJ) (0)]⟩))] ++ [(1007, (τE, ⟨13, x.evs.map evRow⟩)), (1010, (τF, ⟨1, x.from_.map (cellO .i64)⟩))]) := by rw [cpS_zero]
    rw [e0]
    by_cases hj : j = 0
    · subst hj
      have k26 : KeyOf 26 1026 := ⟨trivial⟩
      iterate 2 (with_reducible refine awp_seq ?_)
      ((with_reducible refine ao_region ?_ (fun _ => ?_)); exact rfl)
      ((with_reducible apply S_move); exact rfl)
      ((with_reducible apply S_fieldAddr_lo); exact rfl; exact rfl; exact rfl; exact rfl; decide; exact rfl)
      ((with_reducible apply S_load_lo); exact rfl; exact rfl; exact rfl; exact rfl; (first | exact rfl | exact get_map (by omega) (0 : Int) | exact get_map (by omega) default | exact hrow _ | assumption); exact rfl)
      ((with_reducible apply S_len); exact rfl; exact rfl; exact rfl; (first | exact len_ints _ | exact len_map _ _ _ | exact len_sl _ _ | exact len_os _ _ _ _ | exact len_vw _ _ _ _ _ | exact len_nil))
      ((with_reducible apply S_lss); exact rfl; exact rfl)
      (with_reducible refine ao_nil ?_)
      (with_reducible refine then_n ?_)
      ((with_reducible apply awp_cond); exact rfl)
      ((with_reducible refine im_dt (fun _ => ?_)); (try (exfalso; omega)))
      (with_reducible refine awp_skip ?_)
      (with_reducible refine then_n ?_)
      (with_reducible refine awp_seq ?_)
      (with_reducible refine awp_block ?_)
      ((with_reducible refine do_region (E := E) ?_ (fun _ => ?_)); exact rfl)
      ((with_reducible apply D_fieldAddr_lo); exact rfl; exact rfl; exact rfl; exact rfl; decide; exact rfl)
      ((with_reducible apply D_load_lo); exact rfl; exact rfl; exact rfl; exact rfl; (first | exact rfl | exact get_map (by omega) (0 : Int) | exact get_map (by omega) default | exact hrow _ | assumption); exact rfl)
      ((with_reducible apply D_fieldAddr_lo); exact rfl; exact rfl; exact rfl; exact rfl; decide; exact rfl)
      ((with_reducible apply D_load_lo); exact rfl; exact rfl; exact rfl; exact rfl; (first | exact rfl | exact get_map (by omega) (0 : Int) | exact get_map (by omega) default | exact hrow _ | assumption); exact rfl)
      ((with_reducible apply D_move); exact rfl)
      ((with_reducible apply D_indexAddr_sl); exact rfl; exact rfl; exact rfl; exact rfl; exact rfl; exact rfl; omega; (first | exact get_int (by omega) | exact get_map (by omega) default | assumption))
      ((with_reducible apply D_load_pt); exact rfl; exact rfl; exact rfl; exact rfl)
      ((with_reducible apply D_appendK); assumption; exact rfl; exact rfl; exact rfl; exact rfl; decide; exact rfl; exact rfl; (first | exact .os _ _ _ _ rfl (by first | rfl | (first | omega | (simp only [List.length_append, List.length_map, List.length_take, List.length_drop, List.length_cons, List.length_nil, List.length_replicate, chop_length] <;> omega))) | exact .nil); (first | exact .os _ _ _ _ rfl (by first | rfl | (first | omega | (simp only [List.length_append, List.length_map, List.length_take, List.length_drop, List.length_cons, List.length_nil, List.length_replicate, chop_length] <;> omega))) | exact .vw _ _ _ _ _ rfl (by (first | omega | (simp only [List.length_append, List.length_map, List.length_take, List.length_drop, List.length_cons, List.length_nil, List.length_replicate, chop_length] <;> omega))) | exact .nil | exact .sl _); (repeat (first | exact LeafR.nil | exact LeafR.cells _ _ | exact LeafR.d _ | (apply LeafR.one; exact rfl) | exact hleaf _ | refine LeafR.take _ ?_ | refine LeafR.drop _ ?_ | refine LeafR.app ?_ ?_ | (apply LeafR.lit; exact rfl) | assumption)); (show _ * (Nat.succ _) ≤ _; (first | omega | (simp only [List.length_append, List.length_map, List.length_take, List.length_drop, List.length_cons, List.length_nil, List.length_replicate, chop_length] <;> omega))); (unfold maxLen; (first | omega | (simp only [List.length_append, List.length_map, List.length_take, List.length_drop, List.length_cons, List.length_nil, List.length_replicate, chop_length] <;> omega))))
      ((with_reducible apply D_buildSlice); exact rfl; exact rfl; exact rfl; decide; decide; decide; exact rfl; exact rfl)
      ((with_reducible apply D_appendK); assumption; exact rfl; exact rfl; exact rfl; exact rfl; decide; exact rfl; exact rfl; (first | exact .os _ _ _ _ rfl (by first | rfl | (first | omega | (simp only [List.length_append, List.length_map, List.length_take, List.length_drop, List.length_cons, List.length_nil, List.length_replicate, chop_length] <;> omega))) | exact .nil); (first | exact .os _ _ _ _ rfl (by first | rfl | (first | omega | (simp only [List.length_append, List.length_map, List.length_take, List.length_drop, List.length_cons, List.length_nil, List.length_replicate, chop_length] <;> omega))) | exact .vw _ _ _ _ _ rfl (by (first | omega | (simp only [List.length_append, List.length_map, List.length_take, List.length_drop, List.length_cons, List.length_nil, List.length_replicate, chop_length] <;> omega))) | exact .nil | exact .sl _); (repeat (first | exact LeafR.nil | exact LeafR.cells _ _ | exact LeafR.d _ | (apply LeafR.one; exact rfl) | exact hleaf _ | refine LeafR.take _ ?_ | refine LeafR.drop _ ?_ | refine LeafR.app ?_ ?_ | (apply LeafR.lit; exact rfl) | assumption)); (show _ * (Nat.succ _) ≤ _; (first | omega | (simp only [List.length_append, List.length_map, List.length_take, List.length_drop, List.length_cons, List.length_nil, List.length_replicate, chop_length] <;> omega))); (unfold maxLen; (first | omega | (simp only [List.length_append, List.length_map, List.length_take, List.length_drop, List.length_cons, List.length_nil, List.length_replicate, chop_length] <;> omega))))
      ((with_reducible apply D_fieldAddr_lo); exact rfl; exact rfl; exact rfl; exact rfl; decide; exact rfl)
      ((with_reducible apply D_store); exact rfl; exact rfl; exact rfl; exact rfl; exact rfl; exact rfl; (first | exact rfl | exact get_map (by omega) (0 : Int) | exact get_map (by omega) default | exact get_set_ne (by omega) (by omega) (0 : Int) | assumption); exact Nat.le_of_ble_eq_true rfl)
      ((with_reducible refine do_nil ?_ ?_); (first | ((try dsimp only [wkeys]); decide +kernel) | exact rfl))
      (with_reducible refine blk_n ?_)
      (with_reducible refine then_n ?_)
      ((with_reducible refine ao_region ?_ (fun _ => ?_)); exact rfl)
      ((with_reducible apply S_move); exact rfl)
      ((with_reducible apply S_add64); exact rfl; exact rfl; omega)
      ((with_reducible apply S_assign); exact rfl)
      (with_reducible refine ao_nil ?_)
      (with_reducible refine then_n ?_)
      rotate_left
      ((with_reducible refine im_df (fun _ => ?_)); (try (exfalso; omega)))
      (with_reducible refine awp_exit ?_)
      iterate 2 (with_reducible refine then_x ?_)
      (with_reducible refine blk_x ?_)
      (with_reducible refine then_n ?_)
      (with_reducible refine awp_seq ?_)
      ((with_reducible refine ao_region ?_ (fun _ => ?_)); exact rfl)
      ((with_reducible apply S_load_loA); exact rfl; exact rfl; exact rfl; exact rfl; (first | exact rfl | exact get_map (by omega) default | exact get_set_ne (by omega) (by omega) (0 : Int) | assumption); exact Nat.le_of_ble_eq_true rfl)
      ((with_reducible apply S_store); exact rfl; exact rfl; exact rfl; exact rfl; exact rfl; exact rfl; (first | exact rfl | exact get_map (by omega) (0 : Int) | exact get_map (by omega) default | exact get_set_ne (by omega) (by omega) (0 : Int) | assumption); exact Nat.le_of_ble_eq_true rfl)
      (with_reducible refine ao_nil ?_)
      (with_reducible refine then_n ?_)
      (with_reducible refine awp_ret ?_)
      rotate_left
      · rename_i v _
        refine round' ((τE, τF, (v, 9), (v, 7)), 1) (by dsimp only; omega) (by dsimp only; omega) (by repeat' (first | exact le_nil _ | exact sle_nil _ | refine le_cons rfl ?_ | refine sle_cons rfl ?_)) ?_
        dsimp only
        rw [cpS_ge _ _ _ _ (by omega)]
        refine sle_cons rfl (sle_cons rfl (sle_cons' rfl ?_ (sle_cons rfl (sle_cons rfl (sle_cons' rfl ?_ (sle_cons' rfl ?_ (sle_nil _)))))))
        · rfl
        · rw [ordRows_eq]
          refine congrArg (fun n => [[OV.os 1026 (v, 7) 1 n]]) ?_
          show 0 + (List.map _ (List.map cell (x.order.getD 0 default).2)).length = _
          simp
        · show List.map _ (List.map cell (x.order.getD 0 default).2) = _
          rw [List.map_map]; rfl
      · refine doneN_cell rfl rfl rfl rfl rfl ⟨(τE, τF, τO, τJ), trivial, ?_, ?_⟩
        · dsimp only
          rw [show x.order.length = 0 by omega]; try rfl
        · dsimp only
          rw [show x.order.length = 0 by omega, cpS_zero]
          exact (by repeat' (first | exact le_nil _ | exact sle_nil _ | refine le_cons rfl ?_ | refine sle_cons rfl ?_))
    · have f26 : Frozen 26 := ⟨trivial⟩
      iterate 2 (with_reducible refine awp_seq ?_)
      ((with_reducible refine ao_region ?_ (fun _ => ?_)); exact rfl)
      ((with_reducible apply S_move); exact rfl)
      ((with_reducible apply S_fieldAddr_lo); exact rfl; exact rfl; exact rfl; exact rfl; decide; exact rfl)
      ((with_reducible apply S_load_lo); exact rfl; exact rfl; exact rfl; exact rfl; (first | exact rfl | exact get_map (by omega) (0 : Int) | exact get_map (by omega) default | exact hrow _ | assumption); exact rfl)
      ((with_reducible apply S_len); exact rfl; exact rfl; exact rfl; (first | exact len_ints _ | exact len_map _ _ _ | exact len_sl _ _ | exact len_os _ _ _ _ | exact len_vw _ _ _ _ _ | exact len_nil))
      ((with_reducible apply S_lss); exact rfl; exact rfl)
      (with_reducible refine ao_nil ?_)
      (with_reducible refine then_n ?_)
      ((with_reducible apply awp_cond); exact rfl)
      ((with_reducible refine im_dt (fun _ => ?_)); (try (exfalso; omega)))
      (with_reducible refine awp_skip ?_)
      (with_reducible refine then_n ?_)
      (with_reducible refine awp_seq ?_)
      (with_reducible refine awp_block ?_)
      ((with_reducible refine do_region (E := E) ?_ (fun _ => ?_)); exact rfl)
      ((with_reducible apply D_fieldAddr_lo); exact rfl; exact rfl; exact rfl; exact rfl; decide; exact rfl)
      ((with_reducible apply D_load_lo); exact rfl; exact rfl; exact rfl; exact rfl; (first | exact rfl | exact get_map (by omega) (0 : Int) | exact get_map (by omega) default | exact hrow _ | assumption); exact rfl)
      ((with_reducible apply D_fieldAddr_lo); exact rfl; exact rfl; exact rfl; exact rfl; decide; exact rfl)
      ((with_reducible apply D_load_lo); exact rfl; exact rfl; exact rfl; exact rfl; (first | exact rfl | exact get_map (by omega) (0 : Int) | exact get_map (by omega) default | exact hrow _ | assumption); exact rfl)
      ((with_reducible apply D_move); exact rfl)
      ((with_reducible apply D_indexAddr_sl); exact rfl; exact rfl; exact rfl; exact rfl; exact rfl; exact rfl; omega; (first | exact get_int (by omega) | exact get_map (by omega) default | assumption))
      ((with_reducible apply D_load_pt); exact rfl; exact rfl; exact rfl; exact rfl)
      ((with_reducible apply D_appendF); assumption; exact rfl; exact rfl; exact rfl; exact rfl; decide; exact rfl; exact rfl; (first | exact .os _ _ _ _ rfl (by first | rfl | (first | omega | (simp only [List.length_append, List.length_map, List.length_take, List.length_drop, List.length_cons, List.length_nil, List.length_replicate, chop_length] <;> omega))) | exact .nil); (first | exact .os _ _ _ _ rfl (by first | rfl | (first | omega | (simp only [List.length_append, List.length_map, List.length_take, List.length_drop, List.length_cons, List.length_nil, List.length_replicate, chop_length] <;> omega))) | exact .vw _ _ _ _ _ rfl (by (first | omega | (simp only [List.length_append, List.length_map, List.length_take, List.length_drop, List.length_cons, List.length_nil, List.length_replicate, chop_length] <;> omega))) | exact .nil | exact .sl _); (repeat (first | exact LeafR.nil | exact LeafR.cells _ _ | exact LeafR.d _ | (apply LeafR.one; exact rfl) | exact hleaf _ | refine LeafR.take _ ?_ | refine LeafR.drop _ ?_ | refine LeafR.app ?_ ?_ | (apply LeafR.lit; exact rfl) | assumption)); (show _ * (Nat.succ _) ≤ _; (first | omega | (simp only [List.length_append, List.length_map, List.length_take, List.length_drop, List.length_cons, List.length_nil, List.length_replicate, chop_length] <;> omega))); (unfold maxLen; (first | omega | (simp only [List.length_append, List.length_map, List.length_take, List.length_drop, List.length_cons, List.length_nil, List.length_replicate, chop_length] <;> omega))); (repeat (first | exact FzR.nil | exact FzR.ints _ | exact FzR.d _ | exact hfz _ | exact FzC.map _ | exact FzC.nil | apply FzR.take | apply FzR.drop | apply FzR.app | apply FzR.cons | apply FzC.cons | assumption)); (first | rfl | (first | omega | (simp only [List.length_append, List.length_map, List.length_take, List.length_drop, List.length_cons, List.length_nil, List.length_replicate, chop_length] <;> omega))))
      ((with_reducible apply D_buildSlice); exact rfl; exact rfl; exact rfl; decide; decide; decide; exact rfl; exact rfl)
      ((with_reducible apply D_appendK); assumption; exact rfl; exact rfl; exact rfl; exact rfl; decide; exact rfl; exact rfl; (first | exact .os _ _ _ _ rfl (by first | rfl | (first | omega | (simp only [List.length_append, List.length_map, List.length_take, List.length_drop, List.length_cons, List.length_nil, List.length_replicate, chop_length] <;> omega))) | exact .nil); (first | exact .os _ _ _ _ rfl (by first | rfl | (first | omega | (simp only [List.length_append, List.length_map, List.length_take, List.length_drop, List.length_cons, List.length_nil, List.length_replicate, chop_length] <;> omega))) | exact .vw _ _ _ _ _ rfl (by (first | omega | (simp only [List.length_append, List.length_map, List.length_take, List.length_drop, List.length_cons, List.length_nil, List.length_replicate, chop_length] <;> omega))) | exact .nil | exact .sl _); (repeat (first | exact LeafR.nil | exact LeafR.cells _ _ | exact LeafR.d _ | (apply LeafR.one; exact rfl) | exact hleaf _ | refine LeafR.take _ ?_ | refine LeafR.drop _ ?_ | refine LeafR.app ?_ ?_ | (apply LeafR.lit; exact rfl) | assumption)); (show _ * (Nat.succ _) ≤ _; (first | omega | (simp only [List.length_append, List.length_map, List.length_take, List.length_drop, List.length_cons, List.length_nil, List.length_replicate, chop_length] <;> omega))); (unfold maxLen; (first | omega | (simp only [List.length_append, List.length_map, List.length_take, List.length_drop, List.length_cons, List.length_nil, List.length_replicate, chop_length] <;> omega))))
      ((with_reducible apply D_fieldAddr_lo); exact rfl; exact rfl; exact rfl; exact rfl; decide; exact rfl)
      ((with_reducible apply D_store); exact rfl; exact rfl; exact rfl; exact rfl; exact rfl; exact rfl; (first | exact rfl | exact get_map (by omega) (0 : Int) | exact get_map (by omega) default | exact get_set_ne (by omega) (by omega) (0 : Int) | assumption); exact Nat.le_of_ble_eq_true rfl)
      ((with_reducible refine do_nil ?_ ?_); (first | ((try dsimp only [wkeys]); decide +kernel) | exact rfl))
      (with_reducible refine blk_n ?_)
      (with_reducible refine then_n ?_)
      ((with_reducible refine ao_region ?_ (fun _ => ?_)); exact rfl)
      ((with_reducible apply S_move); exact rfl)
      ((with_reducible apply S_add64); exact rfl; exact rfl; omega)
      ((with_reducible apply S_assign); exact rfl)
      (with_reducible refine ao_nil ?_)
      (with_reducible refine then_n ?_)
      rotate_left
      ((with_reducible refine im_df (fun _ => ?_)); (try (exfalso; omega)))
      (with_reducible refine awp_exit ?_)
      iterate 2 (with_reducible refine then_x ?_)
      (with_reducible refine blk_x ?_)
      (with_reducible refine then_n ?_)
      (with_reducible refine awp_seq ?_)
      ((with_reducible refine ao_region ?_ (fun _ => ?_)); exact rfl)
      ((with_reducible apply S_load_loA); exact rfl; exact rfl; exact rfl; exact rfl; (first | exact rfl | exact get_map (by omega) default | exact get_set_ne (by omega) (by omega) (0 : Int) | assumption); exact Nat.le_of_ble_eq_true rfl)
      ((with_reducible apply S_store); exact rfl; exact rfl; exact rfl; exact rfl; exact rfl; exact rfl; (first | exact rfl | exact get_map (by omega) (0 : Int) | exact get_map (by omega) default | exact get_set_ne (by omega) (by omega) (0 : Int) | assumption); exact Nat.le_of_ble_eq_true rfl)
      (with_reducible refine ao_nil ?_)
      (with_reducible refine then_n ?_)
      (with_reducible refine awp_ret ?_)
      rotate_left
      · rename_i v _
        refine round' ((τE, τF, (v, 9), τJ), 1) (by dsimp only; omega) (by dsimp only; omega) (by repeat' (first | exact le_nil _ | exact sle_nil _ | refine le_cons rfl ?_ | refine sle_cons rfl ?_)) ?_
        dsimp only
        rw [cpS_lt _ _ _ _ (by omega)]
        refine sle_cons rfl (sle_cons rfl (sle_cons' rfl ?_ (sle_cons rfl (sle_cons rfl (sle_cons' rfl ?_ (sle_nil _))))))
        · rfl
        · rw [ordRows_ne _ _ _ _ (by omega)]; rfl
      · refine doneN_cell rfl rfl rfl rfl rfl ⟨(τE, τF, τO, τJ), trivial, ?_, ?_⟩
        · dsimp only
          rw [show x.order.length = 0 by omega]; try rfl
        · dsimp only
          rw [show x.order.length = 0 by omega, cpS_zero]
          exact (by repeat' (first | exact le_nil _ | exact sle_nil _ | refine le_cons rfl ?_ | refine sle_cons rfl ?_))
  | succ k =>
    have hol := ordRows_length j τJ x.order (k + 1)
    by_cases hjk : j < k + 1
    · have e0 : stL ([(1, ((v0, 0), ⟨3, [(exOV x).cells]⟩)), (2, ((v0, 1), ⟨3, [consts te26.zero]⟩)), (3, ((v1, 7), ⟨3, [cpO x (τE, τF, τO, τJ) (k + 1)]⟩))] ++ cpS j x (τE, τF, τO, τJ) (k + 1)) = stL ([(1, ((v0, 0), ⟨3, [(exOV x).cells]⟩)), (2, ((v0, 1), ⟨3, [consts te26.zero]⟩)), (3, ((v1, 7), ⟨3, [cpO x (τE, τF, τO, τJ) (k + 1)]⟩))] ++ [(1007, (τE, ⟨13, x.evs.map evRow⟩)), (1010, (τF, ⟨1, x.from_.map (cellO .i64)⟩)), (1028, (τO, ⟨1, ordRows j τJ x.order (k + 1)⟩)), (1026, (τJ, ⟨1, (x.order.getD j default).2.map (cellO .i64)⟩))]) := by rw [cpS_ge _ _ _ _ hjk]
      rw [e0]
      have f26 : Frozen 26 := ⟨trivial⟩
      iterate 2 (with_reducible refine awp_seq ?_)
      ((with_reducible refine ao_region ?_ (fun _ => ?_)); exact rfl)
      ((with_reducible apply S_move); exact rfl)
      ((with_reducible apply S_fieldAddr_lo); exact rfl; exact rfl; exact rfl; exact rfl; decide; exact rfl)
      ((with_reducible apply S_load_lo); exact rfl; exact rfl; exact rfl; exact rfl; (first | exact rfl | exact get_map (by omega) (0 : Int) | exact get_map (by omega) default | exact hrow _ | assumption); exact rfl)
      ((with_reducible apply S_len); exact rfl; exact rfl; exact rfl; (first | exact len_ints _ | exact len_map _ _ _ | exact len_sl _ _ | exact len_os _ _ _ _ | exact len_vw _ _ _ _ _ | exact len_nil))
      ((with_reducible apply S_lss); exact rfl; exact rfl)
      (with_reducible refine ao_nil ?_)
      (with_reducible refine then_n ?_)
      ((with_reducible apply awp_cond); exact rfl)
      ((with_reducible refine im_dt (fun _ => ?_)); (try (exfalso; omega)))
      (with_reducible refine awp_skip ?_)
      (with_reducible refine then_n ?_)
      (with_reducible refine awp_seq ?_)
      (with_reducible refine awp_block ?_)
      ((with_reducible refine do_region (E := E) ?_ (fun _ => ?_)); exact rfl)
      ((with_reducible apply D_fieldAddr_lo); exact rfl; exact rfl; exact rfl; exact rfl; decide; exact rfl)
      ((with_reducible apply D_load_lo); exact rfl; exact rfl; exact rfl; exact rfl; (first | exact rfl | exact get_map (by omega) (0 : Int) | exact get_map (by omega) default | exact hrow _ | assumption); exact rfl)
      ((with_reducible apply D_fieldAddr_lo); exact rfl; exact rfl; exact rfl; exact rfl; decide; exact rfl)
      ((with_reducible apply D_load_lo); exact rfl; exact rfl; exact rfl; exact rfl; (first | exact rfl | exact get_map (by omega) (0 : Int) | exact get_map (by omega) default | exact hrow _ | assumption); exact rfl)
      ((with_reducible apply D_move); exact rfl)
      ((with_reducible apply D_indexAddr_sl); exact rfl; exact rfl; exact rfl; exact rfl; exact rfl; exact rfl; omega; (first | exact get_int (by omega) | exact get_map (by omega) default | assumption))
      ((with_reducible apply D_load_pt); exact rfl; exact rfl; exact rfl; exact rfl)
      ((with_reducible apply D_appendF); assumption; exact rfl; exact rfl; exact rfl; exact rfl; decide; exact rfl; exact rfl; (first | exact .os _ _ _ _ rfl (by first | rfl | (first | omega | (simp only [List.length_append, List.length_map, List.length_take, List.length_drop, List.length_cons, List.length_nil, List.length_replicate, chop_length] <;> omega))) | exact .nil); (first | exact .os _ _ _ _ rfl (by first | rfl | (first | omega | (simp only [List.length_append, List.length_map, List.length_take, List.length_drop, List.length_cons, List.length_nil, List.length_replicate, chop_length] <;> omega))) | exact .vw _ _ _ _ _ rfl (by (first | omega | (simp only [List.length_append, List.length_map, List.length_take, List.length_drop, List.length_cons, List.length_nil, List.length_replicate, chop_length] <;> omega))) | exact .nil | exact .sl _); (repeat (first | exact LeafR.nil | exact LeafR.cells _ _ | exact LeafR.d _ | (apply LeafR.one; exact rfl) | exact hleaf _ | refine LeafR.take _ ?_ | refine LeafR.drop _ ?_ | refine LeafR.app ?_ ?_ | (apply LeafR.lit; exact rfl) | assumption)); (show _ * (Nat.succ _) ≤ _; (first | omega | (simp only [List.length_append, List.length_map, List.length_take, List.length_drop, List.length_cons, List.length_nil, List.length_replicate, chop_length] <;> omega))); (unfold maxLen; (first | omega | (simp only [List.length_append, List.length_map, List.length_take, List.length_drop, List.length_cons, List.length_nil, List.length_replicate, chop_length] <;> omega))); (repeat (first | exact FzR.nil | exact FzR.ints _ | exact FzR.d _ | exact hfz _ | exact FzC.map _ | exact FzC.nil | apply FzR.take | apply FzR.drop | apply FzR.app | apply FzR.cons | apply FzC.cons | assumption)); (first | rfl | (first | omega | (simp only [List.length_append, List.length_map, List.length_take, List.length_drop, List.length_cons, List.length_nil, List.length_replicate, chop_length] <;> omega))))
      ((with_reducible apply D_buildSlice); exact rfl; exact rfl; exact rfl; decide; decide; decide; exact rfl; exact rfl)
      ((with_reducible apply D_appendK); assumption; exact rfl; exact rfl; exact rfl; exact rfl; decide; exact rfl; exact rfl; (first | exact .os _ _ _ _ rfl (by first | rfl | (first | omega | (simp only [List.length_append, List.length_map, List.length_take, List.length_drop, List.length_cons, List.length_nil, List.length_replicate, chop_length] <;> omega))) | exact .nil); (first | exact .os _ _ _ _ rfl (by first | rfl | (first | omega | (simp only [List.length_append, List.length_map, List.length_take, List.length_drop, List.length_cons, List.length_nil, List.length_replicate, chop_length] <;> omega))) | exact .vw _ _ _ _ _ rfl (by (first | omega | (simp only [List.length_append, List.length_map, List.length_take, List.length_drop, List.length_cons, List.length_nil, List.length_replicate, chop_length] <;> omega))) | exact .nil | exact .sl _); (repeat (first | exact LeafR.nil | exact LeafR.cells _ _ | exact LeafR.d _ | (apply LeafR.one; exact rfl) | exact hleaf _ | refine LeafR.take _ ?_ | refine LeafR.drop _ ?_ | refine LeafR.app ?_ ?_ | (apply LeafR.lit; exact rfl) | assumption)); (show _ * (Nat.succ _) ≤ _; (first | omega | (simp only [List.length_append, List.length_map, List.length_take, List.length_drop, List.length_cons, List.length_nil, List.length_replicate, chop_length] <;> omega))); (unfold maxLen; (first | omega | (simp only [List.length_append, List.length_map, List.length_take, List.length_drop, List.length_cons, List.length_nil, List.length_replicate, chop_length] <;> omega))))
      ((with_reducible apply D_fieldAddr_lo); exact rfl; exact rfl; exact rfl; exact rfl; decide; exact rfl)
      ((with_reducible apply D_store); exact rfl; exact rfl; exact rfl; exact rfl; exact rfl; exact rfl; (first | exact rfl | exact get_map (by omega) (0 : Int) | exact get_map (by omega) default | exact get_set_ne (by omega) (by omega) (0 : Int) | assumption); exact Nat.le_of_ble_eq_true rfl)
      ((with_reducible refine do_nil ?_ ?_); (first | ((try dsimp only [wkeys]); decide +kernel) | exact rfl))
      (with_reducible refine blk_n ?_)
      (with_reducible refine then_n ?_)
      ((with_reducible refine ao_region ?_ (fun _ => ?_)); exact rfl)
      ((with_reducible apply S_move); exact rfl)
      ((with_reducible apply S_add64); exact rfl; exact rfl; omega)
      ((with_reducible apply S_assign); exact rfl)
      (with_reducible refine ao_nil ?_)
      (with_reducible refine then_n ?_)
      rotate_left
      ((with_reducible refine im_df (fun _ => ?_)); (try (exfalso; omega)))
      (with_reducible refine awp_exit ?_)
      iterate 2 (with_reducible refine then_x ?_)
      (with_reducible refine blk_x ?_)
      (with_reducible refine then_n ?_)
      (with_reducible refine awp_seq ?_)
      ((with_reducible refine ao_region ?_ (fun _ => ?_)); exact rfl)
      ((with_reducible apply S_load_loA); exact rfl; exact rfl; exact rfl; exact rfl; (first | exact rfl | exact get_map (by omega) default | exact get_set_ne (by omega) (by omega) (0 : Int) | assumption); exact Nat.le_of_ble_eq_true rfl)
      ((with_reducible apply S_store); exact rfl; exact rfl; exact rfl; exact rfl; exact rfl; exact rfl; (first | exact rfl | exact get_map (by omega) (0 : Int) | exact get_map (by omega) default | exact get_set_ne (by omega) (by omega) (0 : Int) | assumption); exact Nat.le_of_ble_eq_true rfl)
      (with_reducible refine ao_nil ?_)
      (with_reducible refine then_n ?_)
      (with_reducible refine awp_ret ?_)
      rotate_left
      · rename_i v _
        refine round' ((τE, τF, (v, 9), τJ), k + 2) (by dsimp only; omega) (by dsimp only; omega) (by repeat' (first | exact le_nil _ | exact sle_nil _ | refine le_cons rfl ?_ | refine sle_cons rfl ?_)) ?_
        dsimp only
        rw [cpS_ge _ _ _ _ (by omega)]
        refine sle_cons rfl (sle_cons rfl (sle_cons' rfl ?_ (sle_cons rfl (sle_cons rfl (sle_cons' rfl ?_ (sle_cons rfl (sle_nil _)))))))
        · refine congrArg (fun n => [[OV.os 1007 τE 13 x.evs.length, OV.os 1010 τF 1 x.from_.length, OV.os 1028 (v, 9) 1 n]]) ?_
          show (ordRows j τJ x.order (k + 1)).length + 1 = _
          rw [hol]
        · dsimp only; rw [ordRows_ne j τJ x.order (k + 1) (by omega)]; rfl
      · refine doneN_cell rfl rfl rfl rfl rfl ⟨(τE, τF, τO, τJ), trivial, ?_, ?_⟩
        · dsimp only
          rw [show x.order.length = k + 1 by omega]; try rfl
        · dsimp only
          rw [show x.order.length = k + 1 by omega, cpS_ge _ _ _ _ hjk]
          exact (by repeat' (first | exact le_nil _ | exact sle_nil _ | refine le_cons rfl ?_ | refine sle_cons rfl ?_))
    · have e0 : stL ([(1, ((v0, 0), ⟨3, [(exOV x).cells]⟩)), (2, ((v0, 1), ⟨3, [consts te26.zero]⟩)), (3, ((v1, 7), ⟨3, [cpO x (τE, τF, τO, τJ) (k + 1)]⟩))] ++ cpS j x (τE, τF, τO, τJ) (k + 1)) = stL ([(1, ((v0, 0), ⟨3, [(exOV x).cells]⟩)), (2, ((v0, 1), ⟨3, [consts te26.zero]⟩)), (3, ((v1, 7), ⟨3, [cpO x (τE, τF, τO, τJ) (k + 1)]⟩))] ++ [(1007, (τE, ⟨13, x.evs.map evRow⟩)), (1010, (τF, ⟨1, x.from_.map (cellO .i64)⟩)), (1028, (τO, ⟨1, ordRows j τJ x.order (k + 1)⟩))]) := by rw [cpS_lt _ _ _ _ hjk]
      rw [e0]
      by_cases hj : j = k + 1
      · subst hj
        have k26 : KeyOf 26 1026 := ⟨trivial⟩
        iterate 2 (with_reducible refine awp_seq ?_)
        ((with_reducible refine ao_region ?_ (fun _ => ?_)); exact rfl)
        ((with_reducible apply S_move); exact rfl)
        ((with_reducible apply S_fieldAddr_lo); exact rfl; exact rfl; exact rfl; exact rfl; decide; exact rfl)
        ((with_reducible apply S_load_lo); exact rfl; exact rfl; exact rfl; exact rfl; (first | exact rfl | exact get_map (by omega) (0 : Int) | exact get_map (by omega) default | exact hrow _ | assumption); exact rfl)
        ((with_reducible apply S_len); exact rfl; exact rfl; exact rfl; (first | exact len_ints _ | exact len_map _ _ _ | exact len_sl _ _ | exact len_os _ _ _ _ | exact len_vw _ _ _ _ _ | exact len_nil))
        ((with_reducible apply S_lss); exact rfl; exact rfl)
        (with_reducible refine ao_nil ?_)
        (with_reducible refine then_n ?_)
        ((with_reducible apply awp_cond); exact rfl)
        ((with_reducible refine im_dt (fun _ => ?_)); (try (exfalso; omega)))
        (with_reducible refine awp_skip ?_)
        (with_reducible refine then_n ?_)
        (with_reducible refine awp_seq ?_)
        (with_reducible refine awp_block ?_)
        ((with_reducible refine do_region (E := E) ?_ (fun _ => ?_)); exact rfl)
        ((with_reducible apply D_fieldAddr_lo); exact rfl; exact rfl; exact rfl; exact rfl; decide; exact rfl)
        ((with_reducible apply D_load_lo); exact rfl; exact rfl; exact rfl; exact rfl; (first | exact rfl | exact get_map (by omega) (0 : Int) | exact get_map (by omega) default | exact hrow _ | assumption); exact rfl)
        ((with_reducible apply D_fieldAddr_lo); exact rfl; exact rfl; exact rfl; exact rfl; decide; exact rfl)
        ((with_reducible apply D_load_lo); exact rfl; exact rfl; exact rfl; exact rfl; (first | exact rfl | exact get_map (by omega) (0 : Int) | exact get_map (by omega) default | exact hrow _ | assumption); exact rfl)
        ((with_reducible apply D_move); exact rfl)
        ((with_reducible apply D_indexAddr_sl); exact rfl; exact rfl; exact rfl; exact rfl; exact rfl; exact rfl; omega; (first | exact get_int (by omega) | exact get_map (by omega) default | assumption))
        ((with_reducible apply D_load_pt); exact rfl; exact rfl; exact rfl; exact rfl)
        ((with_reducible apply D_appendK); assumption; exact rfl; exact rfl; exact rfl; exact rfl; decide; exact rfl; exact rfl; (first | exact .os _ _ _ _ rfl (by first | rfl | (first | omega | (simp only [List.length_append, List.length_map, List.length_take, List.length_drop, List.length_cons, List.length_nil, List.length_replicate, chop_length] <;> omega))) | exact .nil); (first | exact .os _ _ _ _ rfl (by first | rfl | (first | omega | (simp only [List.length_append, List.length_map, List.length_take, List.length_drop, List.length_cons, List.length_nil, List.length_replicate, chop_length] <;> omega))) | exact .vw _ _ _ _ _ rfl (by (first | omega | (simp only [List.length_append, List.length_map, List.length_take, List.length_drop, List.length_cons, List.length_nil, List.length_replicate, chop_length] <;> omega))) | exact .nil | exact .sl _); (repeat (first | exact LeafR.nil | exact LeafR.cells _ _ | exact LeafR.d _ | (apply LeafR.one; exact rfl) | exact hleaf _ | refine LeafR.take _ ?_ | refine LeafR.drop _ ?_ | refine LeafR.app ?_ ?_ | (apply LeafR.lit; exact rfl) | assumption)); (show _ * (Nat.succ _) ≤ _; (first | omega | (simp only [List.length_append, List.length_map, List.length_take, List.length_drop, List.length_cons, List.length_nil, List.length_replicate, chop_length] <;> omega))); (unfold maxLen; (first | omega | (simp only [List.length_append, List.length_map, List.length_take, List.length_drop, List.length_cons, List.length_nil, List.length_replicate, chop_length] <;> omega))))
        ((with_reducible apply D_buildSlice); exact rfl; exact rfl; exact rfl; decide; decide; decide; exact rfl; exact rfl)
        ((with_reducible apply D_appendK); assumption; exact rfl; exact rfl; exact rfl; exact rfl; decide; exact rfl; exact rfl; (first | exact .os _ _ _ _ rfl (by first | rfl | (first | omega | (simp only [List.length_append, List.length_map, List.length_take, List.length_drop, List.length_cons, List.length_nil, List.length_replicate, chop_length] <;> omega))) | exact .nil); (first | exact .os _ _ _ _ rfl (by first | rfl | (first | omega | (simp only [List.length_append, List.length_map, List.length_take, List.length_drop, List.length_cons, List.length_nil, List.length_replicate, chop_length] <;> omega))) | exact .vw _ _ _ _ _ rfl (by (first | omega | (simp only [List.length_append, List.length_map, List.length_take, List.length_drop, List.length_cons, List.length_nil, List.length_replicate, chop_length] <;> omega))) | exact .nil | exact .sl _); (repeat (first | exact LeafR.nil | exact LeafR.cells _ _ | exact LeafR.d _ | (apply LeafR.one; exact rfl) | exact hleaf _ | refine LeafR.take _ ?_ | refine LeafR.drop _ ?_ | refine LeafR.app ?_ ?_ | (apply LeafR.lit; exact rfl) | assumption)); (show _ * (Nat.succ _) ≤ _; (first | omega | (simp only [List.length_append, List.length_map, List.length_take, List.length_drop, List.length_cons, List.length_nil, List.length_replicate, chop_length] <;> omega))); (unfold maxLen; (first | omega | (simp only [List.length_append, List.length_map, List.length_take, List.length_drop, List.length_cons, List.length_nil, List.length_replicate, chop_length] <;> omega))))
        ((with_reducible apply D_fieldAddr_lo); exact rfl; exact rfl; exact rfl; exact rfl; decide; exact rfl)
        ((with_reducible apply D_store); exact rfl; exact rfl; exact rfl; exact rfl; exact rfl; exact rfl; (first | exact rfl | exact get_map (by omega) (0 : Int) | exact get_map (by omega) default | exact get_set_ne (by omega) (by omega) (0 : Int) | assumption); exact Nat.le_of_ble_eq_true rfl)
        ((with_reducible refine do_nil ?_ ?_); (first | ((try dsimp only [wkeys]); decide +kernel) | exact rfl))
        (with_reducible refine blk_n ?_)
        (with_reducible refine then_n ?_)
        ((with_reducible refine ao_region ?_ (fun _ => ?_)); exact rfl)
        ((with_reducible apply S_move); exact rfl)
        ((with_reducible apply S_add64); exact rfl; exact rfl; omega)
        ((with_reducible apply S_assign); exact rfl)
        (with_reducible refine ao_nil ?_)
        (with_reducible refine then_n ?_)
        rotate_left
        ((with_reducible refine im_df (fun _ => ?_)); (try (exfalso; omega)))
        (with_reducible refine awp_exit ?_)
        iterate 2 (with_reducible refine then_x ?_)
        (with_reducible refine blk_x ?_)
        (with_reducible refine then_n ?_)
        (with_reducible refine awp_seq ?_)
        ((with_reducible refine ao_region ?_ (fun _ => ?_)); exact rfl)
        ((with_reducible apply S_load_loA); exact rfl; exact rfl; exact rfl; exact rfl; (first | exact rfl | exact get_map (by omega) default | exact get_set_ne (by omega) (by omega) (0 : Int) | assumption); exact Nat.le_of_ble_eq_true rfl)
        ((with_reducible apply S_store); exact rfl; exact rfl; exact rfl; exact rfl; exact rfl; exact rfl; (first | exact rfl | exact get_map (by omega) (0 : Int) | exact get_map (by omega) default | exact get_set_ne (by omega) (by omega) (0 : Int) | assumption); exact Nat.le_of_ble_eq_true rfl)
        (with_reducible refine ao_nil ?_)
        (with_reducible refine then_n ?_)
        (with_reducible refine awp_ret ?_)
        rotate_left
        · rename_i v _
          refine round' ((τE, τF, (v, 9), (v, 7)), k + 2) (by dsimp only; omega) (by dsimp only; omega) (by repeat' (first | exact le_nil _ | exact sle_nil _ | refine le_cons rfl ?_ | refine sle_cons rfl ?_)) ?_
          dsimp only
          rw [cpS_ge _ _ _ _ (by omega)]
          refine sle_cons rfl (sle_cons rfl (sle_cons' rfl ?_ (sle_cons rfl (sle_cons rfl (sle_cons' rfl ?_ (sle_cons' rfl ?_ (sle_nil _)))))))
          · refine congrArg (fun n => [[OV.os 1007 τE 13 x.evs.length, OV.os 1010 τF 1 x.from_.length, OV.os 1028 (v, 9) 1 n]]) ?_
            show (ordRows (k + 1) τJ x.order (k + 1)).length + 1 = _
            rw [hol]
          · rw [ordRows_eq, ordRows_stamp _ (v, 7) τJ _ _ (Nat.le_refl _)]
            refine congrArg (fun n => ordRows (k + 1) τJ x.order (k + 1) ++ [[OV.os 1026 (v, 7) 1 n]]) ?_
            show 0 + (List.map _ (List.map cell (x.order.getD (k + 1) default).2)).length = _
            simp
          · show List.map _ (List.map cell (x.order.getD (k + 1) default).2) = _
            rw [List.map_map]; rfl
        · refine doneN_cell rfl rfl rfl rfl rfl ⟨(τE, τF, τO, τJ), trivial, ?_, ?_⟩
          · dsimp only
            rw [show x.order.length = k + 1 by omega]; try rfl
          · dsimp only
            rw [show x.order.length = k + 1 by omega, cpS_lt _ _ _ _ hjk]
            exact (by repeat' (first | exact le_nil _ | exact sle_nil _ | refine le_cons rfl ?_ | refine sle_cons rfl ?_))
      · have f26 : Frozen 26 := ⟨trivial⟩
        iterate 2 (with_reducible refine awp_seq ?_)
        ((with_reducible refine ao_region ?_ (fun _ => ?_)); exact rfl)
        ((with_reducible apply S_move); exact rfl)
        ((with_reducible apply S_fieldAddr_lo); exact rfl; exact rfl; exact rfl; exact rfl; decide; exact rfl)
        ((with_reducible apply S_load_lo); exact rfl; exact rfl; exact rfl; exact rfl; (first | exact rfl | exact get_map (by omega) (0 : Int) | exact get_map (by omega) default | exact hrow _ | assumption); exact rfl)
        ((with_reducible apply S_len); exact rfl; exact rfl; exact rfl; (first | exact len_ints _ | exact len_map _ _ _ | exact len_sl _ _ | exact len_os _ _ _ _ | exact len_vw _ _ _ _ _ | exact len_nil))
        ((with_reducible apply S_lss); exact rfl; exact rfl)
        (with_reducible refine ao_nil ?_)
        (with_reducible refine then_n ?_)
        ((with_reducible apply awp_cond); exact rfl)
        ((with_reducible refine im_dt (fun _ => ?_)); (try (exfalso; omega)))
        (with_reducible refine awp_skip ?_)
        (with_reducible refine then_n ?_)
        (with_reducible refine awp_seq ?_)
        (with_reducible refine awp_block ?_)
        ((with_reducible refine do_region (E := E) ?_ (fun _ => ?_)); exact rfl)
        ((with_reducible apply D_fieldAddr_lo); exact rfl; exact rfl; exact rfl; exact rfl; decide; exact rfl)
        ((with_reducible apply D_load_lo); exact rfl; exact rfl; exact rfl; exact rfl; (first | exact rfl | exact get_map (by omega) (0 : Int) | exact get_map (by omega) default | exact hrow _ | assumption); exact rfl)
        ((with_reducible apply D_fieldAddr_lo); exact rfl; exact rfl; exact rfl; exact rfl; decide; exact rfl)
        ((with_reducible apply D_load_lo); exact rfl; exact rfl; exact rfl; exact rfl; (first | exact rfl | exact get_map (by omega) (0 : Int) | exact get_map (by omega) default | exact hrow _ | assumption); exact rfl)
        ((with_reducible apply D_move); exact rfl)
        ((with_reducible apply D_indexAddr_sl); exact rfl; exact rfl; exact rfl; exact rfl; exact rfl; exact rfl; omega; (first | exact get_int (by omega) | exact get_map (by omega) default | assumption))
        ((with_reducible apply D_load_pt); exact rfl; exact rfl; exact rfl; exact rfl)
        ((with_reducible apply D_appendF); assumption; exact rfl; exact rfl; exact rfl; exact rfl; decide; exact rfl; exact rfl; (first | exact .os _ _ _ _ rfl (by first | rfl | (first | omega | (simp only [List.length_append, List.length_map, List.length_take, List.length_drop, List.length_cons, List.length_nil, List.length_replicate, chop_length] <;> omega))) | exact .nil); (first | exact .os _ _ _ _ rfl (by first | rfl | (first | omega | (simp only [List.length_append, List.length_map, List.length_take, List.length_drop, List.length_cons, List.length_nil, List.length_replicate, chop_length] <;> omega))) | exact .vw _ _ _ _ _ rfl (by (first | omega | (simp only [List.length_append, List.length_map, List.length_take, List.length_drop, List.length_cons, List.length_nil, List.length_replicate, chop_length] <;> omega))) | exact .nil | exact .sl _); (repeat (first | exact LeafR.nil | exact LeafR.cells _ _ | exact LeafR.d _ | (apply LeafR.one; exact rfl) | exact hleaf _ | refine LeafR.take _ ?_ | refine LeafR.drop _ ?_ | refine LeafR.app ?_ ?_ | (apply LeafR.lit; exact rfl) | assumption)); (show _ * (Nat.succ _) ≤ _; (first | omega | (simp only [List.length_append, List.length_map, List.length_take, List.length_drop, List.length_cons, List.length_nil, List.length_replicate, chop_length] <;> omega))); (unfold maxLen; (first | omega | (simp only [List.length_append, List.length_map, List.length_take, List.length_drop, List.length_cons, List.length_nil, List.length_replicate, chop_length] <;> omega))); (repeat (first | exact FzR.nil | exact FzR.ints _ | exact FzR.d _ | exact hfz _ | exact FzC.map _ | exact FzC.nil | apply FzR.take | apply FzR.drop | apply FzR.app | apply FzR.cons | apply FzC.cons | assumption)); (first | rfl | (first | omega | (simp only [List.length_append, List.length_map, List.length_take, List.length_drop, List.length_cons, List.length_nil, List.length_replicate, chop_length] <;> omega))))
        ((with_reducible apply D_buildSlice); exact rfl; exact rfl; exact rfl; decide; decide; decide; exact rfl; exact rfl)
        ((with_reducible apply D_appendK); assumption; exact rfl; exact rfl; exact rfl; exact rfl; decide; exact rfl; exact rfl; (first | exact .os _ _ _ _ rfl (by first | rfl | (first | omega | (simp only [List.length_append, List.length_map, List.length_take, List.length_drop, List.length_cons, List.length_nil, List.length_replicate, chop_length] <;> omega))) | exact .nil); (first | exact .os _ _ _ _ rfl (by first | rfl | (first | omega | (simp only [List.length_append, List.length_map, List.length_take, List.length_drop, List.length_cons, List.length_nil, List.length_replicate, chop_length] <;> omega))) | exact .vw _ _ _ _ _ rfl (by (first | omega | (simp only [List.length_append, List.length_map, List.length_take, List.length_drop, List.length_cons, List.length_nil, List.length_replicate, chop_length] <;> omega))) | exact .nil | exact .sl _); (repeat (first | exact LeafR.nil | exact LeafR.cells _ _ | exact LeafR.d _ | (apply LeafR.one; exact rfl) | exact hleaf _ | refine LeafR.take _ ?_ | refine LeafR.drop _ ?_ | refine LeafR.app ?_ ?_ | (apply LeafR.lit; exact rfl) | assumption)); (show _ * (Nat.succ _) ≤ _; (first | omega | (simp only [List.length_append, List.length_map, List.length_take, List.length_drop, List.length_cons, List.length_nil, List.length_replicate, chop_length] <;> omega))); (unfold maxLen; (first | omega | (simp only [List.length_append, List.length_map, List.length_take, List.length_drop, List.length_cons, List.length_nil, List.length_replicate, chop_length] <;> omega))))
        ((with_reducible apply D_fieldAddr_lo); exact rfl; exact rfl; exact rfl; exact rfl; decide; exact rfl)
        ((with_reducible apply D_store); exact rfl; exact rfl; exact rfl; exact rfl; exact rfl; exact rfl; (first | exact rfl | exact get_map (by omega) (0 : Int) | exact get_map (by omega) default | exact get_set_ne (by omega) (by omega) (0 : Int) | assumption); exact Nat.le_of_ble_eq_true rfl)
        ((with_reducible refine do_nil ?_ ?_); (first | ((try dsimp only [wkeys]); decide +kernel) | exact rfl))
        (with_reducible refine blk_n ?_)
        (with_reducible refine then_n ?_)
        ((with_reducible refine ao_region ?_ (fun _ => ?_)); exact rfl)
        ((with_reducible apply S_move); exact rfl)
        ((with_reducible apply S_add64); exact rfl; exact rfl; omega)
        ((with_reducible apply S_assign); exact rfl)
        (with_reducible refine ao_nil ?_)
        (with_reducible refine then_n ?_)
        rotate_left
        ((with_reducible refine im_df (fun _ => ?_)); (try (exfalso; omega)))
        (with_reducible refine awp_exit ?_)
        iterate 2 (with_reducible refine then_x ?_)
        (with_reducible refine blk_x ?_)
        (with_reducible refine then_n ?_)
        (with_reducible refine awp_seq ?_)
        ((with_reducible refine ao_region ?_ (fun _ => ?_)); exact rfl)
        ((with_reducible apply S_load_loA); exact rfl; exact rfl; exact rfl; exact rfl; (first | exact rfl | exact get_map (by omega) default | exact get_set_ne (by omega) (by omega) (0 : Int) | assumption); exact Nat.le_of_ble_eq_true rfl)
        ((with_reducible apply S_store); exact rfl; exact rfl; exact rfl; exact rfl; exact rfl; exact rfl; (first | exact rfl | exact get_map (by omega) (0 : Int) | exact get_map (by omega) default | exact get_set_ne (by omega) (by omega) (0 : Int) | assumption); exact Nat.le_of_ble_eq_true rfl)
        (with_reducible refine ao_nil ?_)
        (with_reducible refine then_n ?_)
        (with_reducible refine awp_ret ?_)
        rotate_left
        · rename_i v _
          refine round' ((τE, τF, (v, 9), τJ), k + 2) (by dsimp only; omega) (by dsimp only; omega) (by repeat' (first | exact le_nil _ | exact sle_nil _ | refine le_cons rfl ?_ | refine sle_cons rfl ?_)) ?_
          dsimp only
          rw [cpS_lt _ _ _ _ (by omega)]
          refine sle_cons rfl (sle_cons rfl (sle_cons' rfl ?_ (sle_cons rfl (sle_cons rfl (sle_cons' rfl ?_ (sle_nil _))))))
          · refine congrArg (fun n => [[OV.os 1007 τE 13 x.evs.length, OV.os 1010 τF 1 x.from_.length, OV.os 1028 (v, 9) 1 n]]) ?_
            show (ordRows j τJ x.order (k + 1)).length + 1 = _
            rw [hol]
          · dsimp only; rw [ordRows_ne j τJ x.order (k + 1) (by omega)]; rfl
        · refine doneN_cell rfl rfl rfl rfl rfl ⟨(τE, τF, τO, τJ), trivial, ?_, ?_⟩
          · dsimp only
            rw [show x.order.length = k + 1 by omega]; try rfl
          · dsimp only
            rw [show x.order.length = k + 1 by omega, cpS_lt _ _ _ _ hjk]
            exact (by repeat' (first | exact le_nil _ | exact sle_nil _ | refine le_cons rfl ?_ | refine sle_cons rfl ?_))
end Go.Proofs.Ytgeaaegkcbjhlaa
