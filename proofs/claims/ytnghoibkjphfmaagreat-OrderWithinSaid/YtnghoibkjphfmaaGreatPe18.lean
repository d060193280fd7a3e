/- The execution with a fence behind each event (fenced, of the laws of layer 7), walked in plain data. -/
import Derived.Test.YtnghoibkjphfmaaGreatPe3
import Derived.Test.YtnghoibkjphfmaaGreatPe17
set_option maxRecDepth 100000
set_option linter.unusedVariables false
set_option linter.unusedSimpArgs false
namespace Go.Proofs.YtnghoibkjphfmaaGreat
open Go.RowKit
def evRk (e : Ev) : List OV := (evTV e).map .d
def fwRows (x : Ex) (k i N : Nat) : List (List OV) := (List.range N).map fun j => evRk (fwE x k i j)
def fRows (x : Ex) (k i N : Nat) : List (List OV) := (List.range N).map fun j => cellO .i64 (fwF x k i j)
def atL (k n : Nat) : List Int := (List.range n).map fun (i : Nat) => ((atN k i : Nat) : Int)
def oRows (x : Ex) (k i : Nat) : List (List OV) := (List.range i).map fun r => [.d (ints (mvL k (x.order.getD r default).2))]
theorem atL_snoc (k n : Nat) : atL k (n + 1) = atL k n ++ [((atN k n : Nat) : Int)] := by unfold atL; rw [List.range_succ, List.map_append]; rfl
theorem atL_length (k n : Nat) : (atL k n).length = n := by simp [atL]
theorem atL_get {k n i : Nat} (h : i < n) : (atL k n).getD i 0 = ((atN k i : Nat) : Int) := getD_map_range h
theorem fwRows_length (x : Ex) (k i N : Nat) : (fwRows x k i N).length = N := by simp [fwRows]
theorem fRows_length (x : Ex) (k i N : Nat) : (fRows x k i N).length = N := by simp [fRows]
theorem oRows_length (x : Ex) (k i : Nat) : (oRows x k i).length = i := by simp [oRows]
theorem fwRows_snoc (x : Ex) (k i N : Nat) : fwRows x k i (N + 1) = fwRows x k i N ++ [evRk (fwE x k i N)] := by unfold fwRows; rw [List.range_succ, List.map_append]; rfl
theorem fRows_snoc (x : Ex) (k i N : Nat) : fRows x k i (N + 1) = fRows x k i N ++ [cellO .i64 (fwF x k i N)] := by unfold fRows; rw [List.range_succ, List.map_append]; rfl
theorem oRows_snoc (x : Ex) (k i : Nat) : oRows x k (i + 1) = oRows x k i ++ [[.d (ints (mvL k (x.order.getD i default).2))]] := by unfold oRows; rw [List.range_succ, List.map_append]; rfl
theorem fwE_zero {x : Ex} {k i : Nat} : fwE x k 0 (atN k i) = x.evs.getD i default := by
  unfold fwE; rw [if_neg (by rw [isFn_at]; decide), orgN_at, if_neg (by omega)]
theorem isFn_next {k i : Nat} (h : k ≤ i) : isFn k (atN k i + 1) = true ∧ orgN k (atN k i + 1) = i := by
  unfold isFn orgN atN
  constructor
  · simp only [Bool.and_eq_true, decide_eq_true_eq]; omega
  · rw [if_neg (by omega)]; omega
theorem fwE_fn {x : Ex} {k i m : Nat} (h : k ≤ i) : fwE x k m (atN k i + 1) = fnE (x.evs.getD i default).hart := by
  unfold fwE; rw [if_pos (isFn_next h).1, (isFn_next h).2]
theorem fwRows_next {x : Ex} {k i : Nat} (h : k ≤ i) : fwRows x k 0 (atN k (i + 1)) = fwRows x k 0 (atN k i) ++ [evRk (x.evs.getD i default)] ++ [evRk (fnE (x.evs.getD i default).hart)] := by
  rw [show atN k (i + 1) = atN k i + 1 + 1 by unfold atN; omega, fwRows_snoc, fwRows_snoc, fwE_zero, fwE_fn h]
theorem fwRows_beg {x : Ex} {k i : Nat} (h : i < k) : fwRows x k 0 (atN k (i + 1)) = fwRows x k 0 (atN k i) ++ [evRk (x.evs.getD i default)] := by
  rw [show atN k (i + 1) = atN k i + 1 by unfold atN; omega, fwRows_snoc, fwE_zero]
theorem fwE_turn {x : Ex} {k i j : Nat} : fwE x k (i + 1) j = if j = atN k i then mvE k (x.evs.getD i default) else fwE x k i j := by
  unfold fwE
  cases hf : isFn k j with
  | true =>
    have e : j ≠ atN k i := fun e => by rw [e, isFn_at] at hf; cases hf
    simp [e]
  | false =>
    have ej := at_org hf
    by_cases e : j = atN k i
    · have eo : orgN k j = i := by rw [e, orgN_at]
      rw [if_pos e]
      simp [eo]
    · have eo : orgN k j ≠ i := fun h => e (by rw [← ej, h])
      rw [if_neg e]
      by_cases h1 : orgN k j < i
      · have h2 : orgN k j < i + 1 := by omega
        simp [h1, h2]
      · have h2 : ¬ orgN k j < i + 1 := by omega
        simp [h1, h2]
theorem fwRows_set {x : Ex} {k i N : Nat} (h : atN k i < N) : (fwRows x k i N).set (atN k i) (evRk (mvE k (x.evs.getD i default))) = fwRows x k (i + 1) N := by
  apply List.ext_getElem?
  intro j
  unfold fwRows
  rcases Nat.lt_or_ge j N with hj | hj
  · by_cases e : j = atN k i
    · rw [e, List.getElem?_set_self (by simpa using h), List.getElem?_map, List.getElem?_range (by omega), Option.map_some, fwE_turn, if_pos rfl]
    · rw [List.getElem?_set_ne (Ne.symm e), List.getElem?_map, List.getElem?_range hj, List.getElem?_map, List.getElem?_range hj, Option.map_some, Option.map_some, fwE_turn, if_neg e]
  · rw [List.getElem?_eq_none (by simp; omega), List.getElem?_eq_none (by simp; omega)]
theorem fwRows_get {x : Ex} {k i N : Nat} (h : atN k i < N) (hi : i < x.evs.length) : (fwRows x k i N)[atN k i]? = some (evRk (x.evs.getD i default)) := by
  unfold fwRows
  rw [List.getElem?_map, List.getElem?_range h, Option.map_some]
  unfold fwE
  rw [if_neg (by rw [isFn_at]; decide), orgN_at, if_neg (by omega)]
theorem fwF_zero (x : Ex) (k j : Nat) : fwF x k 0 j = -1 := by unfold fwF; split <;> simp
theorem fwF_turn {x : Ex} {k i j : Nat} : fwF x k (i + 1) j = if j = atN k i ∧ 0 ≤ x.from_.getD i 0 then atZ k (x.from_.getD i 0) else fwF x k i j := by
  unfold fwF
  cases hf : isFn k j with
  | true =>
    have e : ¬ (j = atN k i ∧ 0 ≤ x.from_.getD i 0) := fun e => by rw [e.1, isFn_at] at hf; cases hf
    rw [if_neg e]
    simp
  | false =>
    have ej := at_org hf
    by_cases e : j = atN k i
    · have eo : orgN k j = i := by rw [e, orgN_at]
      by_cases h0 : 0 ≤ x.from_.getD i 0
      · rw [if_pos (c := j = atN k i ∧ _) ⟨e, h0⟩, eo]
        generalize x.from_.getD i 0 = z at h0 ⊢
        simp [h0]
      · rw [if_neg (c := j = atN k i ∧ _) (fun h => h0 h.2), eo]
        generalize x.from_.getD i 0 = z at h0 ⊢
        simp [h0]
    · have eo : orgN k j ≠ i := fun h => e (by rw [← ej, h])
      rw [if_neg (c := j = atN k i ∧ _) (fun h => e h.1), if_neg (show ¬ (false = true) by decide), if_neg (show ¬ (false = true) by decide)]
      by_cases h1 : orgN k j < i ∧ 0 ≤ x.from_.getD (orgN k j) 0
      · rw [if_pos h1, if_pos ⟨by omega, h1.2⟩]
      · rw [if_neg h1, if_neg (fun h => h1 ⟨by omega, h.2⟩)]
theorem fRows_set {x : Ex} {k i N : Nat} (h : atN k i < N) (h0 : 0 ≤ x.from_.getD i 0) : (fRows x k i N).set (atN k i) (cellO .i64 (atZ k (x.from_.getD i 0))) = fRows x k (i + 1) N := by
  apply List.ext_getElem?
  intro j
  unfold fRows
  rcases Nat.lt_or_ge j N with hj | hj
  · by_cases e : j = atN k i
    · rw [e, List.getElem?_set_self (by simpa using h), List.getElem?_map, List.getElem?_range (by omega), Option.map_some, fwF_turn, if_pos ⟨rfl, h0⟩]
    · rw [List.getElem?_set_ne (Ne.symm e), List.getElem?_map, List.getElem?_range hj, List.getElem?_map, List.getElem?_range hj, Option.map_some, Option.map_some, fwF_turn, if_neg (fun h => e h.1)]
  · rw [List.getElem?_eq_none (by simp; omega), List.getElem?_eq_none (by simp; omega)]
theorem fRows_keep {x : Ex} {k i N : Nat} (h0 : ¬ 0 ≤ x.from_.getD i 0) : fRows x k i N = fRows x k (i + 1) N := by
  unfold fRows
  refine List.map_congr_left fun j _ => ?_
  rw [fwF_turn, if_neg (fun h => h0 h.2)]
theorem moved_mv {k n : Nat} {l : List Int} (h : ∀ i, i < l.length → 0 ≤ l.getD i 0 ∧ l.getD i 0 < n) : movedL (atL k n) l = mvL k l := by
  unfold movedL mvL
  refine List.map_congr_left fun d hd => ?_
  obtain ⟨i, hi, rfl⟩ := List.mem_iff_getElem.1 hd
  have := h i hi
  rw [List.getD_eq_getElem?_getD, List.getElem?_eq_getElem hi] at this
  have h2 : l[i].toNat < n := by have := this.2; simp only [Option.getD_some] at this; omega
  rw [atL_get h2]; rfl
theorem hangs_in {es : List Ev} {n : Nat} {l : List Int} (h : hangsB es n l = true) : ∀ i, i < l.length → 0 ≤ l.getD i 0 ∧ l.getD i 0 < n := fun i hi => by
  unfold hangsB hangsTo at h
  have h1 := List.all_eq_true.1 h i (List.mem_range.2 hi)
  unfold depOk at h1
  simp only [Bool.and_eq_true, Bool.not_eq_true', decide_eq_false_iff_not] at h1
  omega
theorem from_in {es : List Ev} {fs : List Int} (h : fromB es fs = true) {k : Nat} (hk : k < es.length) (h0 : 0 ≤ fs.getD k 0) : fs.getD k 0 < es.length := by
  have h1 := from_at h (k := k) (by rw [from_len h]; exact hk)
  unfold fromOk at h1
  simp only [Bool.or_eq_true, Bool.and_eq_true, Bool.not_eq_true', beq_iff_eq, beq_eq_false_iff_ne, decide_eq_false_iff_not] at h1
  omega
theorem getD_mem {l : List Int} {j : Nat} (h : j < l.length) : l.getD j 0 ∈ l := by
  rw [List.getD_eq_getElem?_getD, List.getElem?_eq_getElem h]; exact List.getElem_mem h
theorem row_in {x : Ex} (h : checkI x = 0) {i : Nat} (hi : i < x.order.length) : ∀ j, j < (x.order.getD i default).2.length → 0 ≤ (x.order.getD i default).2.getD j 0 ∧ (x.order.getD i default).2.getD j 0 < x.evs.length := fun j hj => by
  have h4 := (check_zero h).2.2.2
  unfold orderB rowsTo at h4
  simp only [Bool.and_eq_true, decide_eq_true_eq] at h4
  have h6 := List.all_eq_true.1 h4.2 i (List.mem_range.2 hi)
  unfold rowOk at h6
  simp only [Bool.and_eq_true, beq_iff_eq] at h6
  have hm : (x.order.getD i default).2.getD j 0 ∈ (x.order.getD i default).2 := getD_mem hj
  have hm2 : (x.order.getD i default).2.getD j 0 ∈ sortI (x.order.getD i default).2 := (List.mergeSort_perm _ _).mem_iff.2 hm
  rw [h6.2] at hm2
  obtain ⟨m, h1, _, _, e⟩ := want_mem.1 hm2
  rw [e]; omega
section
variable {E : Env} {tm : Tm} {σ : Store}
theorem cellTmpN {t T u : Nat} {te : TE} {k : Nat} {τ : Stamp} {row : List OV} {rest : List (List OV)} {s : OV} {R : OV → Store → Prop} (hT : E.tab T = some te) (ha : te.k.isAgg = true) (hs : te.size = row.length) (ht : tm t = some (.lo k τ te.size 0 0)) (hk : σ k = some (τ, ⟨te.size, row :: rest⟩)) (hu : tm u = some s) (hR : R (.tu [.ag row, s]) σ) : DoneN E [.cell t T, .tmp u] R .ret tm σ :=
  ⟨_, ⟨_, _, rfl, ⟨_, _, _, _, _, hT, ha, hs, ht, hk, rfl⟩, _, _, rfl, hu, rfl⟩, hR⟩
end
set_option maxHeartbeats 4000000 in
theorem fenced_p (x : Ex) (k : Nat) (h : Wh x k) (hx : x.fit) (hrow : ∀ i, (x.order.getD i default).2.length ≤ 400) (hlen : ∀ i, (x.evs.getD i default).addrs.length ≤ 400 ∧ (x.evs.getD i default).datas.length ≤ 400 ∧ (x.evs.getD i default).ctrls.length ≤ 400) :
    Pure E.P 18 [exOV x] (.tu [exOV (fwd x k), .d (ints (atL k x.evs.length))]) := by
  have f1 : Frozen 1 := ⟨trivial⟩
  have n50 : NilS 50 := ⟨trivial⟩
  have k33 : KeyOf 33 900 := ⟨trivial⟩
  have k52 : KeyOf 52 900 := ⟨trivial⟩
  have k102 : KeyOf 102 901 := ⟨trivial⟩
  have k149 : KeyOf 149 902 := ⟨trivial⟩
  have hn := h.len
  have hkn := h.kle
  have hNs := h.N
  refine FnW.toR ?_
  refine fn_of_awpN (vs := [.cell 2 26, .tmp 3]) Tryz.func18 (by decide) rfl Tryz.ntmps18 (Nat.le_of_ble_eq_true rfl) rfl ?_
  refine awp_seq ?_
  (refine ao_region ?_ (fun _ => ?_); exact rfl)
  refine q34 ?_
  (apply S_alloc; exact rfl)
  refine q51 ?_; refine ao_nil ?_; refine then_n ?_; refine awp_seq ?_
  (refine ao_region ?_ (fun _ => ?_); exact rfl)
  (apply S_alloc; exact rfl)
  refine ao_nil ?_; refine then_n ?_; refine awp_seq ?_
  (refine ao_region ?_ (fun _ => ?_); exact rfl)
  refine q51 ?_; refine ao_nil ?_; refine then_n ?_
  iterate 2 refine awp_seq ?_
  (refine ao_region ?_ (fun _ => ?_); exact rfl)
  refine q12 ?_; refine ao_nil ?_; refine then_n ?_; refine awp_block ?_
  rotate_left
  rename_i v0 v1 v2 v3
  refine awp_ownC (kx := 4) (i := 0) (o := 0) 900 13 rfl rfl rfl (by decide) fun τE => ?_
  refine awp_ownC (kx := 4) (i := 0) (o := 1) 901 1 rfl rfl rfl (by decide) fun τF => ?_
  refine awp_ownC (kx := 4) (i := 0) (o := 2) 902 1 rfl rfl rfl (by decide) fun τO => ?_
  refine awp_loop (X := Nat × Stamp × Stamp) (fun p => tmL [(1, .d (.pt (exRow x) 0)), (2, .lo 2 (v0, 1) 3 0 0), (4, .lo 4 (v1, 0) 3 0 0), (5, .os 5 p.2.2 1 p.1), (6, .int .i64 p.1)])
    (fun p => stL [(2, ((v0, 1), ⟨3, [consts te26.zero]⟩)), (4, ((v1, 0), ⟨3, [[.os 900 p.2.1 13 (atN k p.1), .os 901 τF 1 0, .os 902 τO 1 0]]⟩)), (5, (p.2.2, ⟨1, (atL k p.1).map (cellO .i64)⟩)), (900, (p.2.1, ⟨13, fwRows x k 0 (atN k p.1)⟩)), (901, (τF, ⟨1, []⟩)), (902, (τO, ⟨1, []⟩))])
    (fun p => p.1 ≤ x.evs.length) (fun p => x.evs.length - p.1) (0, τE, (v2, 0)) (Nat.zero_le _) (by repeat' (first | exact le_nil _ | exact sle_nil _ | refine le_cons rfl ?_ | refine sle_cons rfl ?_)) (by repeat' (first | exact le_nil _ | exact sle_nil _ | refine le_cons rfl ?_ | refine sle_cons rfl ?_ | (refine le_cons_os rfl ?_ ?_; (simp [atN, atL, fwRows] <;> rfl)) | (refine le_cons_int rfl ?_ ?_; (simp [atN, atL, fwRows] <;> rfl)) | (refine sle_cons' rfl ?_ ?_; (simp [atN, atL, fwRows] <;> rfl)))) ?_
  rintro ⟨i, τE, τ5⟩ hi
  dsimp only at hi ⊢
  have hr1 := fwRows_length x k 0 (atN k i)
  have hatl := atL_length k i
  have hab : atN k i ≤ 24 := by unfold fwN at hNs; unfold atN at *; omega
  by_cases hlt : i < x.evs.length
  · have hh := h.hart hlt
    iterate 2 refine awp_seq ?_
    (refine ao_region ?_ (fun _ => ?_); exact rfl)
    refine q11 ?_; refine q32 ?_; refine q23 ?_; refine q13 ?_; refine q37 ?_; refine ao_nil ?_; refine then_n ?_
    (apply awp_cond; exact rfl)
    (refine im_dt (fun _ => ?_); (try (exfalso; omega)))
    refine awp_skip ?_; refine then_n ?_; refine awp_seq ?_; refine awp_block ?_; refine awp_seq ?_
    (refine ao_region ?_ (fun _ => ?_); exact rfl)
    refine q11 ?_; refine q28 ?_; refine q16 ?_; refine q13 ?_
    (apply S_buildSlice; exact rfl; exact rfl; exact rfl; decide; decide; decide; exact rfl; exact rfl)
    refine q19 ?_
    (apply S_ren; exact rfl; exact rfl)
    refine ao_nil ?_; refine then_n ?_; refine awp_seq ?_
    (refine do_region (E := E) ?_ (fun _ => ?_); exact rfl)
    refine q56 ?_
    (apply D_load_lo; exact rfl; exact rfl; exact rfl; exact rfl; (first | exact rfl | exact get_map (by omega) (0 : Int) | exact get_map (by omega) default | exact hrow _ | assumption); exact rfl)
    refine q52 ?_; refine q50 ?_; refine q38 ?_; refine q30 ?_
    (apply D_load_ptA; exact rfl; exact rfl; exact rfl; exact Nat.le_of_ble_eq_true rfl)
    (apply D_buildSlice; exact rfl; exact rfl; exact rfl; decide; decide; decide; exact rfl; exact rfl)
    (apply D_appendK; assumption; exact rfl; exact rfl; exact rfl; exact rfl; decide; exact rfl; exact rfl; (first | exact .os _ _ _ _ rfl (by first | rfl | (first | omega | (simp only [List.length_append, List.length_map, List.length_take, List.length_drop, List.length_cons, List.length_nil, List.length_replicate, chop_length] <;> omega))) | exact .nil); (first | exact .os _ _ _ _ rfl (by first | rfl | (first | omega | (simp only [List.length_append, List.length_map, List.length_take, List.length_drop, List.length_cons, List.length_nil, List.length_replicate, chop_length] <;> omega))) | exact .vw _ _ _ _ _ rfl (by (first | omega | (simp only [List.length_append, List.length_map, List.length_take, List.length_drop, List.length_cons, List.length_nil, List.length_replicate, chop_length] <;> omega))) | exact .nil | exact .sl _); (repeat (first | exact LeafR.nil | exact LeafR.cells _ _ | exact LeafR.d _ | (apply LeafR.one; exact rfl) | exact hleaf _ | refine LeafR.take _ ?_ | refine LeafR.drop _ ?_ | refine LeafR.app ?_ ?_ | (apply LeafR.lit; exact rfl) | assumption)); (show _ * (Nat.succ _) ≤ _; (first | omega | (simp only [List.length_append, List.length_map, List.length_take, List.length_drop, List.length_cons, List.length_nil, List.length_replicate, chop_length] <;> omega))); (unfold maxLen; (first | omega | (simp only [List.length_append, List.length_map, List.length_take, List.length_drop, List.length_cons, List.length_nil, List.length_replicate, chop_length] <;> omega))))
    refine q56 ?_
    (apply D_store; exact rfl; exact rfl; exact rfl; exact rfl; exact rfl; exact rfl; (first | exact rfl | exact get_map (by omega) (0 : Int) | exact get_map (by omega) default | exact get_set_ne (by omega) (by omega) (0 : Int) | assumption); exact Nat.le_of_ble_eq_true rfl)
    (refine do_nil ?_ ?_; (first | ((try dsimp only [wkeys]); decide +kernel) | exact rfl))
    refine then_n ?_; refine awp_seq ?_
    (refine ao_region ?_ (fun _ => ?_); exact rfl)
    refine q32 ?_; refine q23 ?_; refine q11 ?_; refine q17 ?_; refine q32 ?_; refine q23 ?_
    (apply S_geq; exact rfl; exact rfl)
    refine ao_nil ?_; refine then_n ?_
    (apply awp_cond; exact rfl)
    (refine im_dt (fun _ => ?_); (try (exfalso; omega)))
    (refine do_region (E := E) ?_ (fun _ => ?_); exact rfl)
    refine q56 ?_
    (apply D_load_lo; exact rfl; exact rfl; exact rfl; exact rfl; (first | exact rfl | exact get_map (by omega) (0 : Int) | exact get_map (by omega) default | exact hrow _ | assumption); exact rfl)
    refine q52 ?_; refine q50 ?_; refine q38 ?_; refine q30 ?_; refine q52 ?_; refine q50 ?_
    (apply D_buildN; assumption; exact rfl; exact rfl; exact rfl; exact rfl; exact rfl; exact rfl)
    (apply D_buildSlice; exact rfl; exact rfl; exact rfl; decide; decide; decide; exact rfl; exact rfl)
    (apply D_appendK; assumption; exact rfl; exact rfl; exact rfl; exact rfl; decide; exact rfl; exact rfl; (first | exact .os _ _ _ _ rfl (by first | rfl | (first | omega | (simp only [List.length_append, List.length_map, List.length_take, List.length_drop, List.length_cons, List.length_nil, List.length_replicate, chop_length] <;> omega))) | exact .nil); (first | exact .os _ _ _ _ rfl (by first | rfl | (first | omega | (simp only [List.length_append, List.length_map, List.length_take, List.length_drop, List.length_cons, List.length_nil, List.length_replicate, chop_length] <;> omega))) | exact .vw _ _ _ _ _ rfl (by (first | omega | (simp only [List.length_append, List.length_map, List.length_take, List.length_drop, List.length_cons, List.length_nil, List.length_replicate, chop_length] <;> omega))) | exact .nil | exact .sl _); (repeat (first | exact LeafR.nil | exact LeafR.cells _ _ | exact LeafR.d _ | (apply LeafR.one; exact rfl) | exact hleaf _ | refine LeafR.take _ ?_ | refine LeafR.drop _ ?_ | refine LeafR.app ?_ ?_ | (apply LeafR.lit; exact rfl) | assumption)); (show _ * (Nat.succ _) ≤ _; (first | omega | (simp only [List.length_append, List.length_map, List.length_take, List.length_drop, List.length_cons, List.length_nil, List.length_replicate, chop_length] <;> omega))); (unfold maxLen; (first | omega | (simp only [List.length_append, List.length_map, List.length_take, List.length_drop, List.length_cons, List.length_nil, List.length_replicate, chop_length] <;> omega))))
    refine q56 ?_
    (apply D_store; exact rfl; exact rfl; exact rfl; exact rfl; exact rfl; exact rfl; (first | exact rfl | exact get_map (by omega) (0 : Int) | exact get_map (by omega) default | exact get_set_ne (by omega) (by omega) (0 : Int) | assumption); exact Nat.le_of_ble_eq_true rfl)
    (refine do_nil ?_ ?_; (first | ((try dsimp only [wkeys]); decide +kernel) | exact rfl))
    refine blk_n ?_; refine then_n ?_
    (refine ao_region ?_ (fun _ => ?_); exact rfl)
    refine q11 ?_; refine q36 ?_; refine q12 ?_; refine ao_nil ?_; refine then_n ?_
    rotate_left
    (refine im_df (fun _ => ?_); (try (exfalso; omega)))
    refine awp_skip ?_; refine blk_n ?_; refine then_n ?_
    (refine ao_region ?_ (fun _ => ?_); exact rfl)
    refine q11 ?_; refine q36 ?_; refine q12 ?_; refine ao_nil ?_; refine then_n ?_
    rotate_left
    (refine im_df (fun _ => ?_); (try (exfalso; omega)))
    · rename_i v6 v7 _ hge v9 _
      have hki : k ≤ i := hh.1 hge
      have e1 := fwRows_next (x := x) hki
      refine round' (i + 1, (v9, 10), (v6, 6)) (show i + 1 ≤ x.evs.length by omega) (by dsimp only; omega) (by repeat' (first | exact le_nil _ | exact sle_nil _ | refine le_cons rfl ?_ | refine sle_cons rfl ?_ | (refine le_cons_os rfl ?_ ?_; (simp [hatl] <;> rfl)) | (refine le_cons_int rfl ?_ ?_; (simp [hatl] <;> rfl)) | (refine sle_cons' rfl ?_ ?_; (simp [hatl] <;> rfl)))) ?_
      refine sle_cons rfl (sle_cons' rfl ?_ (sle_cons' rfl ?_ (sle_cons' rfl ?_ (sle_cons rfl (sle_cons rfl (sle_nil _))))))
      · refine congrArg (fun n => [[OV.os 900 (v9, 10) 13 n, OV.os 901 τF 1 0, OV.os 902 τO 1 0]]) ?_
        simp only [List.length_append, chop_length, hr1]
        unfold atN; omega
      · dsimp only; rw [atL_snoc, List.map_append]; rfl
      · dsimp only; rw [e1]; rfl
    · rename_i v6 v7 _ hge _
      have hki : i < k := by
        rcases Nat.lt_or_ge i k with e | e
        · exact e
        · exact (hge (hh.2 e)).elim
      have e1 := fwRows_beg (x := x) hki
      refine round' (i + 1, (v7, 8), (v6, 6)) (show i + 1 ≤ x.evs.length by omega) (by dsimp only; omega) (by repeat' (first | exact le_nil _ | exact sle_nil _ | refine le_cons rfl ?_ | refine sle_cons rfl ?_ | (refine le_cons_os rfl ?_ ?_; (simp [hatl] <;> rfl)) | (refine le_cons_int rfl ?_ ?_; (simp [hatl] <;> rfl)) | (refine sle_cons' rfl ?_ ?_; (simp [hatl] <;> rfl)))) ?_
      refine sle_cons rfl (sle_cons' rfl ?_ (sle_cons' rfl ?_ (sle_cons' rfl ?_ (sle_cons rfl (sle_cons rfl (sle_nil _))))))
      · refine congrArg (fun n => [[OV.os 900 (v7, 8) 13 n, OV.os 901 τF 1 0, OV.os 902 τO 1 0]]) ?_
        simp only [List.length_append, chop_length, hr1]
        unfold atN; omega
      · dsimp only; rw [atL_snoc, List.map_append]; rfl
      · dsimp only; rw [e1]; rfl
  have hie : i = x.evs.length := by omega
  subst hie
  have z5 := FzR.ints (atL k x.evs.length)
  refine awp_freeze 5 τ5 1 ((atL k x.evs.length).map cell) (tmL [(1, .d (.pt (exRow x) 0)), (2, .lo 2 (v0, 1) 3 0 0), (4, .lo 4 (v1, 0) 3 0 0), (5, .d (ints (atL k x.evs.length))), (6, .int .i64 x.evs.length)])
    (stL [(2, ((v0, 1), ⟨3, [consts te26.zero]⟩)), (4, ((v1, 0), ⟨3, [[.os 900 τE 13 (fwN x k), .os 901 τF 1 0, .os 902 τO 1 0]]⟩)), (900, (τE, ⟨13, fwRows x k 0 (fwN x k)⟩)), (901, (τF, ⟨1, []⟩)), (902, (τO, ⟨1, []⟩))]) (by rw [← z5.eq]; rfl)
    (fz_cons rfl (.same _) (fz_cons rfl (.same _) (fz_cons rfl (.same _) (fz_cons rfl (froz_os (by simp [hatl])) (fz_cons rfl (.same _) fz_nil))))) (by repeat' (first | exact fz_nil | exact fs_nil | exact frc_nil | exact frr_nil | refine fz_cons rfl (.same _) ?_ | refine fz_cons rfl (froz_os (by simp)) ?_ | refine fs_cons (by decide) rfl (FrozR.same _) ?_ | refine fs_cons (by decide) rfl ?_ ?_ | refine frr_cons frc_same ?_ | refine frr_cons ?_ ?_ | refine frc_cons (.same _) ?_ | refine frc_cons (froz_os (by first | rfl | simp)) ?_ | refine frc_cons (.nil _) ?_)) ?_
  iterate 2 refine awp_seq ?_
  (refine ao_region ?_ (fun _ => ?_); exact rfl)
  refine q11 ?_; refine q32 ?_; refine q23 ?_; refine q13 ?_; refine q37 ?_; refine ao_nil ?_; refine then_n ?_
  (apply awp_cond; exact rfl)
  (refine im_dt (fun _ => ?_); (try (exfalso; omega)))
  (refine im_df (fun _ => ?_); (try (exfalso; omega)))
  refine awp_exit ?_
  iterate 2 refine then_x ?_
  refine blk_x ?_; refine then_n ?_
  iterate 2 refine awp_seq ?_
  (refine ao_region ?_ (fun _ => ?_); exact rfl)
  refine q12 ?_; refine ao_nil ?_; refine then_n ?_; refine awp_block ?_
  rotate_left
  refine awp_loop (X := Nat) (fun i => tmL [(1, .d (.pt (exRow x) 0)), (2, .lo 2 (v0, 1) 3 0 0), (4, .lo 4 (v1, 0) 3 0 0), (5, .d (ints (atL k x.evs.length))), (7, .int .i64 i)])
    (fun i => stL [(2, ((v0, 1), ⟨3, [consts te26.zero]⟩)), (4, ((v1, 0), ⟨3, [[.os 900 τE 13 (fwN x k), .os 901 τF 1 0, .os 902 τO 1 0]]⟩)), (900, (τE, ⟨13, fwRows x k i (fwN x k)⟩)), (901, (τF, ⟨1, []⟩)), (902, (τO, ⟨1, []⟩))])
    (fun i => i ≤ x.evs.length) (fun i => x.evs.length - i) 0 (Nat.zero_le _) (by repeat' (first | exact le_nil _ | exact sle_nil _ | refine le_cons rfl ?_ | refine sle_cons rfl ?_)) (by repeat' (first | exact le_nil _ | exact sle_nil _ | refine le_cons rfl ?_ | refine sle_cons rfl ?_)) ?_
  intro i hi
  by_cases hlt : i < x.evs.length
  · have hat : (atL k x.evs.length).getD (i : Int).toNat 0 = ((atN k i : Nat) : Int) := atL_get hlt
    have haN : atN k i < fwN x k := atN_lt hlt
    have hlN := fwRows_length x k i (fwN x k)
    have hrw : (fwRows x k i (fwN x k))[((atL k x.evs.length).getD (i : Int).toNat 0).toNat]? = some (evRk (x.evs.getD i default)) := by rw [hat, Int.toNat_natCast]; exact fwRows_get haN hlt
    obtain ⟨_, _, g3, g4, g5, _⟩ := evOk_facts (h.at_ hlt)
    obtain ⟨l1, l2, l3⟩ := hlen i
    have mA := moved_p (x.evs.getD i default).addrs (atL k x.evs.length) (by omega) (by rw [atL_length]; omega) (fun j hj => by have := hangs_in g3 j hj; rw [atL_length]; omega)
    have mD := moved_p (x.evs.getD i default).datas (atL k x.evs.length) (by omega) (by rw [atL_length]; omega) (fun j hj => by have := hangs_in g4 j hj; rw [atL_length]; omega)
    have mC := moved_p (x.evs.getD i default).ctrls (atL k x.evs.length) (by omega) (by rw [atL_length]; omega) (fun j hj => by have := hangs_in g5 j hj; rw [atL_length]; omega)
    rw [moved_mv (fun j hj => by have := hangs_in g3 j hj; omega)] at mA
    rw [moved_mv (fun j hj => by have := hangs_in g4 j hj; omega)] at mD
    rw [moved_mv (fun j hj => by have := hangs_in g5 j hj; omega)] at mC
    have f72 : Frozen 72 := ⟨trivial⟩
    have f76 : Frozen 76 := ⟨trivial⟩
    have f80 : Frozen 80 := ⟨trivial⟩
    iterate 2 refine awp_seq ?_
    (refine ao_region ?_ (fun _ => ?_); exact rfl)
    refine q11 ?_; refine q32 ?_; refine q23 ?_; refine q13 ?_; refine q37 ?_; refine ao_nil ?_; refine then_n ?_
    (apply awp_cond; exact rfl)
    (refine im_dt (fun _ => ?_); (try (exfalso; omega)))
    refine awp_skip ?_; refine then_n ?_; refine awp_seq ?_; refine awp_block ?_; refine awp_seq ?_
    (refine do_region (E := E) ?_ (fun _ => ?_); exact rfl)
    refine q56 ?_
    (apply D_load_lo; exact rfl; exact rfl; exact rfl; exact rfl; (first | exact rfl | exact get_map (by omega) (0 : Int) | exact get_map (by omega) default | exact hrow _ | assumption); exact rfl)
    iterate 2 refine q38 ?_
    refine q30 ?_; refine q50 ?_
    (apply D_indexAddr_os; exact rfl; exact rfl; exact rfl; exact rfl; exact rfl; exact rfl; omega)
    refine q57 ?_
    (apply D_alloc; exact rfl)
    (apply D_store; exact rfl; exact rfl; exact rfl; exact rfl; exact rfl; exact rfl; (first | exact rfl | exact get_map (by omega) (0 : Int) | exact get_map (by omega) default | exact get_set_ne (by omega) (by omega) (0 : Int) | assumption); exact Nat.le_of_ble_eq_true rfl)
    (refine do_nil ?_ ?_; (first | ((try dsimp only [wkeys]); decide +kernel) | exact rfl))
    refine then_n ?_; refine awp_seq ?_
    (refine do_region (E := E) ?_ (fun _ => ?_); exact rfl)
    refine q56 ?_
    (apply D_load_lo; exact rfl; exact rfl; exact rfl; exact rfl; (first | exact rfl | exact get_map (by omega) (0 : Int) | exact get_map (by omega) default | exact hrow _ | assumption); exact rfl)
    refine q38 ?_
    ((first | (apply D_ownF; assumption; exact rfl; exact .fn _ _ _; exact rfl; exact mA; exact FzR.ints _; exact rfl) | (apply D_ownF; assumption; exact rfl; exact .fn _ _ _; exact rfl; exact mD; exact FzR.ints _; exact rfl) | (apply D_ownF; assumption; exact rfl; exact .fn _ _ _; exact rfl; exact mC; exact FzR.ints _; exact rfl)))
    refine q56 ?_
    (apply D_load_lo; exact rfl; exact rfl; exact rfl; exact rfl; (first | exact rfl | exact get_map (by omega) (0 : Int) | exact get_map (by omega) default | exact hrow _ | assumption); exact rfl)
    refine q38 ?_
    ((first | (apply D_ownF; assumption; exact rfl; exact .fn _ _ _; exact rfl; exact mA; exact FzR.ints _; exact rfl) | (apply D_ownF; assumption; exact rfl; exact .fn _ _ _; exact rfl; exact mD; exact FzR.ints _; exact rfl) | (apply D_ownF; assumption; exact rfl; exact .fn _ _ _; exact rfl; exact mC; exact FzR.ints _; exact rfl)))
    refine q56 ?_
    (apply D_load_lo; exact rfl; exact rfl; exact rfl; exact rfl; (first | exact rfl | exact get_map (by omega) (0 : Int) | exact get_map (by omega) default | exact hrow _ | assumption); exact rfl)
    refine q38 ?_
    ((first | (apply D_ownF; assumption; exact rfl; exact .fn _ _ _; exact rfl; exact mA; exact FzR.ints _; exact rfl) | (apply D_ownF; assumption; exact rfl; exact .fn _ _ _; exact rfl; exact mD; exact FzR.ints _; exact rfl) | (apply D_ownF; assumption; exact rfl; exact .fn _ _ _; exact rfl; exact mC; exact FzR.ints _; exact rfl)))
    refine q56 ?_
    (apply D_store; exact rfl; exact rfl; exact rfl; exact rfl; exact rfl; exact rfl; (first | exact rfl | exact get_map (by omega) (0 : Int) | exact get_map (by omega) default | exact get_set_ne (by omega) (by omega) (0 : Int) | assumption); exact Nat.le_of_ble_eq_true rfl)
    refine q56 ?_
    (apply D_store; exact rfl; exact rfl; exact rfl; exact rfl; exact rfl; exact rfl; (first | exact rfl | exact get_map (by omega) (0 : Int) | exact get_map (by omega) default | exact get_set_ne (by omega) (by omega) (0 : Int) | assumption); exact Nat.le_of_ble_eq_true rfl)
    refine q56 ?_
    (apply D_store; exact rfl; exact rfl; exact rfl; exact rfl; exact rfl; exact rfl; (first | exact rfl | exact get_map (by omega) (0 : Int) | exact get_map (by omega) default | exact get_set_ne (by omega) (by omega) (0 : Int) | assumption); exact Nat.le_of_ble_eq_true rfl)
    (refine do_nil ?_ ?_; (first | ((try dsimp only [wkeys]); decide +kernel) | exact rfl))
    refine then_n ?_
    (refine do_region (E := E) ?_ (fun _ => ?_); exact rfl)
    refine q56 ?_
    (apply D_load_lo; exact rfl; exact rfl; exact rfl; exact rfl; (first | exact rfl | exact get_map (by omega) (0 : Int) | exact get_map (by omega) default | exact hrow _ | assumption); exact rfl)
    iterate 2 refine q38 ?_
    refine q30 ?_; refine q50 ?_; refine q57 ?_
    (apply D_indexAddr_os; exact rfl; exact rfl; exact rfl; exact rfl; exact rfl; exact rfl; omega)
    (apply D_store; exact rfl; exact rfl; exact rfl; exact rfl; exact rfl; exact rfl; (first | exact rfl | exact get_map (by omega) (0 : Int) | exact get_map (by omega) default | exact get_set_ne (by omega) (by omega) (0 : Int) | assumption); exact Nat.le_of_ble_eq_true rfl)
    (refine do_nil ?_ ?_; (first | ((try dsimp only [wkeys]); decide +kernel) | exact rfl))
    refine blk_n ?_; refine then_n ?_
    (refine ao_region ?_ (fun _ => ?_); exact rfl)
    refine q11 ?_; refine q36 ?_; refine q12 ?_; refine ao_nil ?_; refine then_n ?_
    rotate_left
    (refine im_df (fun _ => ?_); (try (exfalso; omega)))
    refine round' (i + 1) (show i + 1 ≤ x.evs.length by omega) (by omega) (by repeat' (first | exact le_nil _ | exact sle_nil _ | refine le_cons rfl ?_ | refine sle_cons rfl ?_)) (sle_cons rfl (sle_cons rfl (sle_cons' rfl ?_ (sle_cons rfl (sle_cons rfl (sle_nil _))))))
    rw [hat, Int.toNat_natCast]
    exact fwRows_set haN
  have hie : i = x.evs.length := by omega
  subst hie
  have hfN : (fwd x k).evs.length = fwN x k := fw_len x k
  have hfl := from_len (check_zero h.check).2.2.1
  have hlE := fwRows_length x k x.evs.length (fwN x k)
  iterate 2 refine awp_seq ?_
  (refine ao_region ?_ (fun _ => ?_); exact rfl)
  refine q11 ?_; refine q32 ?_; refine q23 ?_; refine q13 ?_; refine q37 ?_; refine ao_nil ?_; refine then_n ?_
  (apply awp_cond; exact rfl)
  (refine im_dt (fun _ => ?_); (try (exfalso; omega)))
  (refine im_df (fun _ => ?_); (try (exfalso; omega)))
  refine awp_exit ?_
  iterate 2 refine then_x ?_
  refine blk_x ?_; refine then_n ?_
  iterate 2 refine awp_seq ?_
  (refine ao_region ?_ (fun _ => ?_); exact rfl)
  refine q12 ?_; refine ao_nil ?_; refine then_n ?_; refine awp_block ?_
  rotate_left
  refine awp_loop (X := Nat × Stamp) (fun p => tmL [(1, .d (.pt (exRow x) 0)), (2, .lo 2 (v0, 1) 3 0 0), (4, .lo 4 (v1, 0) 3 0 0), (5, .d (ints (atL k x.evs.length))), (9, .int .i64 p.1)])
    (fun p => stL [(2, ((v0, 1), ⟨3, [consts te26.zero]⟩)), (4, ((v1, 0), ⟨3, [[.os 900 τE 13 (fwN x k), .os 901 p.2 1 p.1, .os 902 τO 1 0]]⟩)), (900, (τE, ⟨13, fwRows x k x.evs.length (fwN x k)⟩)), (901, (p.2, ⟨1, fRows x k 0 p.1⟩)), (902, (τO, ⟨1, []⟩))])
    (fun p => p.1 ≤ fwN x k) (fun p => fwN x k - p.1) (0, τF) (Nat.zero_le _) (by repeat' (first | exact le_nil _ | exact sle_nil _ | refine le_cons rfl ?_ | refine sle_cons rfl ?_)) (by repeat' (first | exact le_nil _ | exact sle_nil _ | refine le_cons rfl ?_ | refine sle_cons rfl ?_)) ?_
  rintro ⟨i, τF⟩ hi
  dsimp only at hi ⊢
  have hl1 := fRows_length x k 0 i
  by_cases hlt : i < fwN x k
  · iterate 2 refine awp_seq ?_
    (refine ao_region ?_ (fun _ => ?_); exact rfl)
    refine q11 ?_; refine q28 ?_; refine q16 ?_; refine q13 ?_; refine q37 ?_; refine ao_nil ?_; refine then_n ?_
    (apply awp_cond; exact rfl)
    (refine im_dt (fun _ => ?_); (try (exfalso; omega)))
    refine awp_skip ?_; refine then_n ?_; refine awp_seq ?_; refine awp_block ?_
    (refine ao_region ?_ (fun _ => ?_); exact rfl)
    refine q28 ?_; refine q16 ?_
    (apply S_buildSlice; exact rfl; exact rfl; exact rfl; decide; decide; decide; exact rfl; exact rfl)
    refine q39 ?_; refine q28 ?_; refine q15 ?_; refine ao_nil ?_; refine blk_n ?_; refine then_n ?_
    (refine ao_region ?_ (fun _ => ?_); exact rfl)
    refine q11 ?_; refine q36 ?_; refine q12 ?_; refine ao_nil ?_; refine then_n ?_
    rotate_left
    (refine im_df (fun _ => ?_); (try (exfalso; omega)))
    rename_i v19 _
    refine round' (i + 1, (v19, 3)) (show i + 1 ≤ fwN x k by omega) (by dsimp only; omega) (by repeat' (first | exact le_nil _ | exact sle_nil _ | refine le_cons rfl ?_ | refine sle_cons rfl ?_)) (sle_cons rfl (sle_cons' rfl ?_ (sle_cons rfl (sle_cons' rfl ?_ (sle_cons rfl (sle_nil _))))))
    · refine congrArg (fun n => [[OV.os 900 τE 13 (fwN x k), OV.os 901 (v19, 3) 1 n, OV.os 902 τO 1 0]]) ?_
      simp only [chop_length, hl1]
    · dsimp only; rw [fRows_snoc, fwF_zero]; rfl
  have hie : i = fwN x k := by omega
  subst hie
  iterate 2 refine awp_seq ?_
  (refine ao_region ?_ (fun _ => ?_); exact rfl)
  refine q11 ?_; refine q28 ?_; refine q16 ?_; refine q13 ?_; refine q37 ?_; refine ao_nil ?_; refine then_n ?_
  (apply awp_cond; exact rfl)
  (refine im_dt (fun _ => ?_); (try (exfalso; omega)))
  (refine im_df (fun _ => ?_); (try (exfalso; omega)))
  refine awp_exit ?_
  iterate 2 refine then_x ?_
  refine blk_x ?_; refine then_n ?_
  iterate 2 refine awp_seq ?_
  (refine ao_region ?_ (fun _ => ?_); exact rfl)
  refine q12 ?_; refine ao_nil ?_; refine then_n ?_; refine awp_block ?_
  rotate_left
  refine awp_loop (X := Nat) (fun i => tmL [(1, .d (.pt (exRow x) 0)), (2, .lo 2 (v0, 1) 3 0 0), (4, .lo 4 (v1, 0) 3 0 0), (5, .d (ints (atL k x.evs.length))), (10, .int .i64 i)])
    (fun i => stL [(2, ((v0, 1), ⟨3, [consts te26.zero]⟩)), (4, ((v1, 0), ⟨3, [[.os 900 τE 13 (fwN x k), .os 901 τF 1 (fwN x k), .os 902 τO 1 0]]⟩)), (900, (τE, ⟨13, fwRows x k x.evs.length (fwN x k)⟩)), (901, (τF, ⟨1, fRows x k i (fwN x k)⟩)), (902, (τO, ⟨1, []⟩))])
    (fun i => i ≤ x.evs.length) (fun i => x.evs.length - i) 0 (Nat.zero_le _) (by repeat' (first | exact le_nil _ | exact sle_nil _ | refine le_cons rfl ?_ | refine sle_cons rfl ?_)) (by repeat' (first | exact le_nil _ | exact sle_nil _ | refine le_cons rfl ?_ | refine sle_cons rfl ?_)) ?_
  intro i hi
  by_cases hlt : i < x.evs.length
  · have hat : (atL k x.evs.length).getD (i : Int).toNat 0 = ((atN k i : Nat) : Int) := atL_get hlt
    have haN : atN k i < fwN x k := atN_lt hlt
    have hlF := fRows_length x k i (fwN x k)
    have hrw : (fRows x k i (fwN x k))[((atL k x.evs.length).getD (i : Int).toNat 0).toNat]? = some (cellO .i64 (fwF x k i (atN k i))) := by rw [hat, Int.toNat_natCast]; unfold fRows; rw [List.getElem?_map, List.getElem?_range haN]; rfl
    by_cases h0 : 0 ≤ x.from_.getD i 0
    · have hfi := from_in (check_zero h.check).2.2.1 hlt h0
      have h0' : 0 ≤ x.from_.getD (i : Int).toNat 0 ∧ x.from_.getD (i : Int).toNat 0 < x.evs.length := ⟨h0, hfi⟩
      have hat2 : (atL k x.evs.length).getD (x.from_.getD (i : Int).toNat 0).toNat 0 = atZ k (x.from_.getD i 0) := atL_get (by omega)
      iterate 2 refine awp_seq ?_
      (refine ao_region ?_ (fun _ => ?_); exact rfl)
      refine q11 ?_; refine q32 ?_; refine q23 ?_; refine q13 ?_; refine q37 ?_; refine ao_nil ?_; refine then_n ?_
      (apply awp_cond; exact rfl)
      (refine im_dt (fun _ => ?_); (try (exfalso; omega)))
      refine awp_skip ?_; refine then_n ?_; refine awp_seq ?_; refine awp_block ?_; refine awp_seq ?_
      (refine ao_region ?_ (fun _ => ?_); exact rfl)
      refine q32 ?_; refine q23 ?_; refine q11 ?_; refine q17 ?_; refine q23 ?_
      (apply S_geq; exact rfl; exact rfl)
      refine ao_nil ?_; refine then_n ?_
      (apply awp_cond; exact rfl)
      (refine im_dt (fun _ => ?_); (try (exfalso; omega)))
      (refine do_region (E := E) ?_ (fun _ => ?_); exact rfl)
      refine q56 ?_
      (apply D_load_lo; exact rfl; exact rfl; exact rfl; exact rfl; (first | exact rfl | exact get_map (by omega) (0 : Int) | exact get_map (by omega) default | exact hrow _ | assumption); exact rfl)
      iterate 2 refine q38 ?_
      refine q30 ?_; refine q50 ?_; refine q38 ?_; refine q52 ?_; refine q50 ?_; refine q38 ?_; refine q30 ?_; refine q50 ?_; refine q30 ?_; refine q50 ?_
      (apply D_indexAddr_os; exact rfl; exact rfl; exact rfl; exact rfl; exact rfl; exact rfl; omega)
      (apply D_store; exact rfl; exact rfl; exact rfl; exact rfl; exact rfl; exact rfl; (first | exact rfl | exact get_map (by omega) (0 : Int) | exact get_map (by omega) default | exact get_set_ne (by omega) (by omega) (0 : Int) | assumption); exact Nat.le_of_ble_eq_true rfl)
      (refine do_nil ?_ ?_; (first | ((try dsimp only [wkeys]); decide +kernel) | exact rfl))
      refine blk_n ?_; refine then_n ?_
      (refine ao_region ?_ (fun _ => ?_); exact rfl)
      refine q11 ?_; refine q36 ?_; refine q12 ?_; refine ao_nil ?_; refine then_n ?_
      rotate_left
      iterate 2 (refine im_df (fun _ => ?_); (try (exfalso; omega)))
      · refine round' (i + 1) (show i + 1 ≤ x.evs.length by omega) (by omega) (by repeat' (first | exact le_nil _ | exact sle_nil _ | refine le_cons rfl ?_ | refine sle_cons rfl ?_)) (sle_cons rfl (sle_cons rfl (sle_cons rfl (sle_cons' rfl ?_ (sle_cons rfl (sle_nil _))))))
        rw [hat, Int.toNat_natCast, hat2]
        exact fRows_set haN h0
    · have h0' : ¬ 0 ≤ x.from_.getD (i : Int).toNat 0 := h0
      iterate 2 refine awp_seq ?_
      (refine ao_region ?_ (fun _ => ?_); exact rfl)
      refine q11 ?_; refine q32 ?_; refine q23 ?_; refine q13 ?_; refine q37 ?_; refine ao_nil ?_; refine then_n ?_
      (apply awp_cond; exact rfl)
      (refine im_dt (fun _ => ?_); (try (exfalso; omega)))
      refine awp_skip ?_; refine then_n ?_; refine awp_seq ?_; refine awp_block ?_; refine awp_seq ?_
      (refine ao_region ?_ (fun _ => ?_); exact rfl)
      refine q32 ?_; refine q23 ?_; refine q11 ?_; refine q17 ?_; refine q23 ?_
      (apply S_geq; exact rfl; exact rfl)
      refine ao_nil ?_; refine then_n ?_
      (apply awp_cond; exact rfl)
      (refine im_dt (fun _ => ?_); (try (exfalso; omega)))
      (refine im_df (fun _ => ?_); (try (exfalso; omega)))
      refine awp_skip ?_; refine blk_n ?_; refine then_n ?_
      (refine ao_region ?_ (fun _ => ?_); exact rfl)
      refine q11 ?_; refine q36 ?_; refine q12 ?_; refine ao_nil ?_; refine then_n ?_
      rotate_left
      (refine im_df (fun _ => ?_); (try (exfalso; omega)))
      · exact round' (i + 1) (show i + 1 ≤ x.evs.length by omega) (by omega) (by repeat' (first | exact le_nil _ | exact sle_nil _ | refine le_cons rfl ?_ | refine sle_cons rfl ?_)) (sle_cons rfl (sle_cons rfl (sle_cons rfl (sle_cons' rfl (fRows_keep h0) (sle_cons rfl (sle_nil _))))))
  have hie : i = x.evs.length := by omega
  subst hie
  iterate 2 refine awp_seq ?_
  (refine ao_region ?_ (fun _ => ?_); exact rfl)
  refine q11 ?_; refine q32 ?_; refine q23 ?_; refine q13 ?_; refine q37 ?_; refine ao_nil ?_; refine then_n ?_
  (apply awp_cond; exact rfl)
  (refine im_dt (fun _ => ?_); (try (exfalso; omega)))
  (refine im_df (fun _ => ?_); (try (exfalso; omega)))
  refine awp_exit ?_
  iterate 2 refine then_x ?_
  refine blk_x ?_; refine then_n ?_
  iterate 2 refine awp_seq ?_
  (refine ao_region ?_ (fun _ => ?_); exact rfl)
  refine q12 ?_; refine ao_nil ?_; refine then_n ?_; refine awp_block ?_
  rotate_left
  refine awp_loop (X := Nat × Stamp) (fun p => tmL [(1, .d (.pt (exRow x) 0)), (2, .lo 2 (v0, 1) 3 0 0), (4, .lo 4 (v1, 0) 3 0 0), (5, .d (ints (atL k x.evs.length))), (11, .int .i64 p.1)])
    (fun p => stL [(2, ((v0, 1), ⟨3, [consts te26.zero]⟩)), (4, ((v1, 0), ⟨3, [[.os 900 τE 13 (fwN x k), .os 901 τF 1 (fwN x k), .os 902 p.2 1 p.1]]⟩)), (900, (τE, ⟨13, fwRows x k x.evs.length (fwN x k)⟩)), (901, (τF, ⟨1, fRows x k x.evs.length (fwN x k)⟩)), (902, (p.2, ⟨1, oRows x k p.1⟩))])
    (fun p => p.1 ≤ x.order.length) (fun p => x.order.length - p.1) (0, τO) (Nat.zero_le _) (by repeat' (first | exact le_nil _ | exact sle_nil _ | refine le_cons rfl ?_ | refine sle_cons rfl ?_)) (by repeat' (first | exact le_nil _ | exact sle_nil _ | refine le_cons rfl ?_ | refine sle_cons rfl ?_)) ?_
  rintro ⟨i, τO⟩ hi
  dsimp only at hi ⊢
  have hl1 := oRows_length x k i
  have hol : x.order.length ≤ 64 := by
    have h4 := (check_zero h.check).2.2.2
    unfold orderB at h4
    simp only [Bool.and_eq_true, decide_eq_true_eq] at h4
    have := h.k
    omega
  by_cases hlt : i < x.order.length
  · have hri := row_in h.check hlt
    have hl4 := hrow i
    have mR := moved_p (x.order.getD i default).2 (atL k x.evs.length) (by omega) (by rw [atL_length]; omega) (fun j hj => by have := hri j hj; rw [atL_length]; omega)
    rw [moved_mv hri] at mR
    have f147 : Frozen 147 := ⟨trivial⟩
    iterate 2 refine awp_seq ?_
    (refine ao_region ?_ (fun _ => ?_); exact rfl)
    refine q11 ?_; refine q32 ?_; refine q23 ?_; refine q13 ?_; refine q37 ?_; refine ao_nil ?_; refine then_n ?_
    (apply awp_cond; exact rfl)
    (refine im_dt (fun _ => ?_); (try (exfalso; omega)))
    refine awp_skip ?_; refine then_n ?_; refine awp_seq ?_; refine awp_block ?_
    (refine do_region (E := E) ?_ (fun _ => ?_); exact rfl)
    refine q56 ?_
    (apply D_load_lo; exact rfl; exact rfl; exact rfl; exact rfl; (first | exact rfl | exact get_map (by omega) (0 : Int) | exact get_map (by omega) default | exact hrow _ | assumption); exact rfl)
    refine q52 ?_; refine q50 ?_; refine q38 ?_; refine q30 ?_; refine q50 ?_; refine q38 ?_
    ((apply D_ownF; assumption; exact rfl; exact .fn _ _ _; exact rfl; exact mR; exact FzR.ints _; exact rfl))
    (apply D_buildSlice; exact rfl; exact rfl; exact rfl; decide; decide; decide; exact rfl; exact rfl)
    (apply D_appendK; assumption; exact rfl; exact rfl; exact rfl; exact rfl; decide; exact rfl; exact rfl; (first | exact .os _ _ _ _ rfl (by first | rfl | (first | omega | (simp only [List.length_append, List.length_map, List.length_take, List.length_drop, List.length_cons, List.length_nil, List.length_replicate, chop_length] <;> omega))) | exact .nil); (first | exact .os _ _ _ _ rfl (by first | rfl | (first | omega | (simp only [List.length_append, List.length_map, List.length_take, List.length_drop, List.length_cons, List.length_nil, List.length_replicate, chop_length] <;> omega))) | exact .vw _ _ _ _ _ rfl (by (first | omega | (simp only [List.length_append, List.length_map, List.length_take, List.length_drop, List.length_cons, List.length_nil, List.length_replicate, chop_length] <;> omega))) | exact .nil | exact .sl _); (repeat (first | exact LeafR.nil | exact LeafR.cells _ _ | exact LeafR.d _ | (apply LeafR.one; exact rfl) | exact hleaf _ | refine LeafR.take _ ?_ | refine LeafR.drop _ ?_ | refine LeafR.app ?_ ?_ | (apply LeafR.lit; exact rfl) | assumption)); (show _ * (Nat.succ _) ≤ _; (first | omega | (simp only [List.length_append, List.length_map, List.length_take, List.length_drop, List.length_cons, List.length_nil, List.length_replicate, chop_length] <;> omega))); (unfold maxLen; (first | omega | (simp only [List.length_append, List.length_map, List.length_take, List.length_drop, List.length_cons, List.length_nil, List.length_replicate, chop_length] <;> omega))))
    refine q56 ?_
    (apply D_store; exact rfl; exact rfl; exact rfl; exact rfl; exact rfl; exact rfl; (first | exact rfl | exact get_map (by omega) (0 : Int) | exact get_map (by omega) default | exact get_set_ne (by omega) (by omega) (0 : Int) | assumption); exact Nat.le_of_ble_eq_true rfl)
    (refine do_nil ?_ ?_; (first | ((try dsimp only [wkeys]); decide +kernel) | exact rfl))
    refine blk_n ?_; refine then_n ?_
    (refine ao_region ?_ (fun _ => ?_); exact rfl)
    refine q11 ?_; refine q36 ?_; refine q12 ?_; refine ao_nil ?_; refine then_n ?_
    rotate_left
    (refine im_df (fun _ => ?_); (try (exfalso; omega)))
    rename_i v28 _
    refine round' (i + 1, (v28, 10)) (show i + 1 ≤ x.order.length by omega) (by dsimp only; omega) (by repeat' (first | exact le_nil _ | exact sle_nil _ | refine le_cons rfl ?_ | refine sle_cons rfl ?_)) (sle_cons rfl (sle_cons' rfl ?_ (sle_cons rfl (sle_cons rfl (sle_cons' rfl ?_ (sle_nil _))))))
    · refine congrArg (fun n => [[OV.os 900 τE 13 (fwN x k), OV.os 901 τF 1 (fwN x k), OV.os 902 (v28, 10) 1 n]]) ?_
      simp only [chop_length, hl1]
    · dsimp only; rw [oRows_snoc]; rfl
  have hie : i = x.order.length := by omega
  subst hie
  have hoE : oRows x k x.order.length = (fwd x k).order.map fun r => [OV.d (ints r.2)] := by
    unfold oRows fwd
    rw [List.map_map]
    apply List.ext_getElem?
    intro j
    rcases Nat.lt_or_ge j x.order.length with hj | hj
    · rw [List.getElem?_map, List.getElem?_range hj, List.getElem?_map, List.getElem?_eq_getElem hj, Option.map_some, Option.map_some, List.getD_eq_getElem?_getD, List.getElem?_eq_getElem hj]; rfl
    · rw [List.getElem?_eq_none (by simp; omega), List.getElem?_eq_none (by simp; omega)]
  have eE : fwRows x k x.evs.length (fwN x k) = (fwd x k).evs.map evRk := by unfold fwRows fwd; rw [List.map_map]; rfl
  have eF : fRows x k x.evs.length (fwN x k) = (fwd x k).from_.map (cellO .i64) := by unfold fRows fwd; rw [List.map_map]; rfl
  have zE : FzR ((fwd x k).evs.map evRk) ((fwd x k).evs.map evTV) := FzR.of (f := evRk) (g := evTV) (fun _ => rfl) _
  have zF := FzR.ints (fwd x k).from_
  have zO : FzR ((fwd x k).order.map fun r => [OV.d (ints r.2)]) ((fwd x k).order.map intRow) := FzR.of (f := fun r : Sl × List Int => [OV.d (ints r.2)]) (g := intRow) (fun _ => rfl) _
  rw [hoE, eE, eF]
  refine awp_freeze 900 τE 13 ((fwd x k).evs.map evTV) (tmL [(1, .d (.pt (exRow x) 0)), (2, .lo 2 (v0, 1) 3 0 0), (4, .lo 4 (v1, 0) 3 0 0), (5, .d (ints (atL k x.evs.length))), (11, .int .i64 x.order.length)])
    (stL [(2, ((v0, 1), ⟨3, [consts te26.zero]⟩)), (4, ((v1, 0), ⟨3, [[.d (evsTV (fwd x k).evs), .os 901 τF 1 (fwN x k), .os 902 τO 1 x.order.length]]⟩)), (901, (τF, ⟨1, (fwd x k).from_.map (cellO .i64)⟩)), (902, (τO, ⟨1, (fwd x k).order.map fun r => [OV.d (ints r.2)]⟩))]) (by rw [← zE.eq]; rfl) (by repeat' (first | exact fz_nil | exact fs_nil | exact frc_nil | exact frr_nil | refine fz_cons rfl (.same _) ?_ | refine fz_cons rfl (froz_os (by simp)) ?_ | refine fs_cons (by decide) rfl (FrozR.same _) ?_ | refine fs_cons (by decide) rfl ?_ ?_ | refine frr_cons frc_same ?_ | refine frr_cons ?_ ?_ | refine frc_cons (.same _) ?_ | refine frc_cons (froz_os (by first | rfl | simp)) ?_ | refine frc_cons (.nil _) ?_))
    (fs_cons (by decide) rfl (FrozR.same _) (fs_cons (by decide) rfl (frr_cons (frc_cons (froz_os (by simp [hfN])) (frc_cons (.same _) (frc_cons (.same _) frc_nil))) frr_nil) (by repeat' (first | exact fz_nil | exact fs_nil | exact frc_nil | exact frr_nil | refine fz_cons rfl (.same _) ?_ | refine fz_cons rfl (froz_os (by simp)) ?_ | refine fs_cons (by decide) rfl (FrozR.same _) ?_ | refine fs_cons (by decide) rfl ?_ ?_ | refine frr_cons frc_same ?_ | refine frr_cons ?_ ?_ | refine frc_cons (.same _) ?_ | refine frc_cons (froz_os (by first | rfl | simp)) ?_ | refine frc_cons (.nil _) ?_)))) ?_
  refine awp_freeze 901 τF 1 ((fwd x k).from_.map cell) (tmL [(1, .d (.pt (exRow x) 0)), (2, .lo 2 (v0, 1) 3 0 0), (4, .lo 4 (v1, 0) 3 0 0), (5, .d (ints (atL k x.evs.length))), (11, .int .i64 x.order.length)])
    (stL [(2, ((v0, 1), ⟨3, [consts te26.zero]⟩)), (4, ((v1, 0), ⟨3, [[.d (evsTV (fwd x k).evs), .d (ints (fwd x k).from_), .os 902 τO 1 x.order.length]]⟩)), (902, (τO, ⟨1, (fwd x k).order.map fun r => [OV.d (ints r.2)]⟩))]) (by rw [← zF.eq]; rfl) (by repeat' (first | exact fz_nil | exact fs_nil | exact frc_nil | exact frr_nil | refine fz_cons rfl (.same _) ?_ | refine fz_cons rfl (froz_os (by simp)) ?_ | refine fs_cons (by decide) rfl (FrozR.same _) ?_ | refine fs_cons (by decide) rfl ?_ ?_ | refine frr_cons frc_same ?_ | refine frr_cons ?_ ?_ | refine frc_cons (.same _) ?_ | refine frc_cons (froz_os (by first | rfl | simp)) ?_ | refine frc_cons (.nil _) ?_))
    (fs_cons (by decide) rfl (FrozR.same _) (fs_cons (by decide) rfl (frr_cons (frc_cons (.same _) (frc_cons (froz_os (by simp [fwd])) (frc_cons (.same _) frc_nil))) frr_nil) (by repeat' (first | exact fz_nil | exact fs_nil | exact frc_nil | exact frr_nil | refine fz_cons rfl (.same _) ?_ | refine fz_cons rfl (froz_os (by simp)) ?_ | refine fs_cons (by decide) rfl (FrozR.same _) ?_ | refine fs_cons (by decide) rfl ?_ ?_ | refine frr_cons frc_same ?_ | refine frr_cons ?_ ?_ | refine frc_cons (.same _) ?_ | refine frc_cons (froz_os (by first | rfl | simp)) ?_ | refine frc_cons (.nil _) ?_)))) ?_
  refine awp_freeze 902 τO 1 ((fwd x k).order.map intRow) (tmL [(1, .d (.pt (exRow x) 0)), (2, .lo 2 (v0, 1) 3 0 0), (4, .lo 4 (v1, 0) 3 0 0), (5, .d (ints (atL k x.evs.length))), (11, .int .i64 x.order.length)])
    (stL [(2, ((v0, 1), ⟨3, [consts te26.zero]⟩)), (4, ((v1, 0), ⟨3, [[.d (evsTV (fwd x k).evs), .d (ints (fwd x k).from_), .d (rowsTV (fwd x k).order)]]⟩))]) (by rw [← zO.eq]; rfl) (by repeat' (first | exact fz_nil | exact fs_nil | exact frc_nil | exact frr_nil | refine fz_cons rfl (.same _) ?_ | refine fz_cons rfl (froz_os (by simp)) ?_ | refine fs_cons (by decide) rfl (FrozR.same _) ?_ | refine fs_cons (by decide) rfl ?_ ?_ | refine frr_cons frc_same ?_ | refine frr_cons ?_ ?_ | refine frc_cons (.same _) ?_ | refine frc_cons (froz_os (by first | rfl | simp)) ?_ | refine frc_cons (.nil _) ?_))
    (fs_cons (by decide) rfl (FrozR.same _) (fs_cons (by decide) rfl (frr_cons (frc_cons (.same _) (frc_cons (.same _) (frc_cons (froz_os (by simp [fwd])) frc_nil))) frr_nil) (by repeat' (first | exact fz_nil | exact fs_nil | exact frc_nil | exact frr_nil | refine fz_cons rfl (.same _) ?_ | refine fz_cons rfl (froz_os (by simp)) ?_ | refine fs_cons (by decide) rfl (FrozR.same _) ?_ | refine fs_cons (by decide) rfl ?_ ?_ | refine frr_cons frc_same ?_ | refine frr_cons ?_ ?_ | refine frc_cons (.same _) ?_ | refine frc_cons (froz_os (by first | rfl | simp)) ?_ | refine frc_cons (.nil _) ?_)))) ?_
  iterate 2 refine awp_seq ?_
  (refine ao_region ?_ (fun _ => ?_); exact rfl)
  refine q11 ?_; refine q32 ?_; refine q23 ?_; refine q13 ?_; refine q37 ?_; refine ao_nil ?_; refine then_n ?_
  (apply awp_cond; exact rfl)
  (refine im_dt (fun _ => ?_); (try (exfalso; omega)))
  (refine im_df (fun _ => ?_); (try (exfalso; omega)))
  refine awp_exit ?_
  iterate 2 refine then_x ?_
  refine blk_x ?_; refine then_n ?_; refine awp_seq ?_
  (refine ao_region ?_ (fun _ => ?_); exact rfl)
  refine q14 ?_; refine q11 ?_; refine q15 ?_; refine q12 ?_; refine ao_nil ?_; refine then_n ?_; refine awp_ret ?_
  rotate_left
  exact cellTmpN rfl rfl rfl rfl rfl rfl rfl
end Go.Proofs.YtnghoibkjphfmaaGreat
