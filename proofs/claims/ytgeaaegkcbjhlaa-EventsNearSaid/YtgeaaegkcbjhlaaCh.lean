/- An execution with one part otherwise (changed, of the laws of layer 6), walked in plain data. -/
import Derived.Test.YtgeaaegkcbjhlaaCp
set_option maxRecDepth 100000
set_option linter.unusedVariables false
set_option linter.unusedSimpArgs false
namespace Go.Proofs.Ytgeaaegkcbjhlaa
open Go.RowKit
def rowDs (l : List (Sl × List Int)) : List (List OV) := l.map fun r => [.d (ints r.2)]
theorem ordRows_none (τ : Stamp) (l : List (Sl × List Int)) (j : Nat) (hj : l.length ≤ j) : ordRows j τ l l.length = rowDs l := by
  unfold ordRows rowDs
  apply List.ext_getElem
  · simp
  · intro i h1 h2
    simp at h1
    simp [ordRow, show i ≠ j by omega, h1]
/-- no rows in Order -/
theorem copied_0 (x : Ex) (h1 : x.evs.length ≤ 1000) (h2 : x.from_.length ≤ 1000) (h3 : x.order.length = 0) :
    FnW E.P 37 [exOV x] (stL []) (IsX (fun _ : Stamp4 => True) (fun p => .ag [.os 1007 p.1 13 x.evs.length, .os 1010 p.2.1 1 x.from_.length, .d (.c (.slice none 0 0))]) (fun p => [(1007, (p.1, ⟨13, x.evs.map evRow⟩)), (1010, (p.2.1, ⟨1, x.from_.map (cellO .i64)⟩))])) := by
  have h := copied_p 0 x h1 h2 (by omega) (fun i => by rw [List.eq_nil_of_length_eq_zero h3]; simp [default])
  rw [h3] at h
  simp only [cpS_zero] at h
  exact h
/-- all rows of Order frozen -/
theorem copied_n (x : Ex) (q : Nat) (h1 : x.evs.length ≤ 1000) (h2 : x.from_.length ≤ 1000) (h3 : x.order.length = q + 1) (hq : q + 1 ≤ 1000) (h4 : ∀ i, (x.order.getD i default).2.length ≤ 1000) :
    FnW E.P 37 [exOV x] (stL []) (IsX (fun _ : Stamp4 => True) (fun p => .ag [.os 1007 p.1 13 x.evs.length, .os 1010 p.2.1 1 x.from_.length, .os 1028 p.2.2.1 1 (q + 1)]) (fun p => [(1007, (p.1, ⟨13, x.evs.map evRow⟩)), (1010, (p.2.1, ⟨1, x.from_.map (cellO .i64)⟩)), (1028, (p.2.2.1, ⟨1, rowDs x.order⟩))])) := by
  have h := copied_p (q + 1) x h1 h2 (by omega) h4
  have e : ∀ p : Stamp4, cpS (q + 1) x p x.order.length = [(1007, (p.1, ⟨13, x.evs.map evRow⟩)), (1010, (p.2.1, ⟨1, x.from_.map (cellO .i64)⟩)), (1028, (p.2.2.1, ⟨1, rowDs x.order⟩))] := fun p => by
    rw [← ordRows_none p.2.2.2 x.order (q + 1) (by omega), h3, cpS_lt _ _ _ _ (by omega)]
  simp only [e] at h
  rw [h3] at h
  exact h
/-- the j-th row of Order the call's own -/
theorem copied_j (x : Ex) (q j : Nat) (h1 : x.evs.length ≤ 1000) (h2 : x.from_.length ≤ 1000) (h3 : x.order.length = q + 1) (hq : q + 1 ≤ 1000) (h4 : ∀ i, (x.order.getD i default).2.length ≤ 1000) (hj : j < q + 1) :
    FnW E.P 37 [exOV x] (stL []) (IsX (fun _ : Stamp4 => True) (fun p => .ag [.os 1007 p.1 13 x.evs.length, .os 1010 p.2.1 1 x.from_.length, .os 1028 p.2.2.1 1 (q + 1)]) (fun p => [(1007, (p.1, ⟨13, x.evs.map evRow⟩)), (1010, (p.2.1, ⟨1, x.from_.map (cellO .i64)⟩)), (1028, (p.2.2.1, ⟨1, ordRows j p.2.2.2 x.order (q + 1)⟩)), (1026, (p.2.2.2, ⟨1, (x.order.getD j default).2.map (cellO .i64)⟩))])) := by
  have h := copied_p j x h1 h2 (by omega) h4
  have e : ∀ p : Stamp4, cpS j x p x.order.length = [(1007, (p.1, ⟨13, x.evs.map evRow⟩)), (1010, (p.2.1, ⟨1, x.from_.map (cellO .i64)⟩)), (1028, (p.2.2.1, ⟨1, ordRows j p.2.2.2 x.order (q + 1)⟩)), (1026, (p.2.2.2, ⟨1, (x.order.getD j default).2.map (cellO .i64)⟩))] := fun p => by
    rw [h3, cpS_ge _ _ _ _ hj]
  simp only [e] at h
  rw [h3] at h
  exact h
/-! ### the end: what was made is plain -/
def goodY (y : Ex) : Prop := y.ok ∧ ∀ r ∈ y.order, r.2.length ≤ 1000
theorem FrozR.cells {k s : Nat} {τ : Stamp} {rows : List (List TV)} {q : Nat} {a b : List OV} (h : a.length = b.length) (hf : ∀ (o : Nat) (y' : OV), b[o]? = some y' → ∃ y : OV, a[o]? = some y ∧ Froz k τ s rows y y') : FrozR k τ s rows ⟨q, [a]⟩ ⟨q, [b]⟩ :=
  ⟨rfl, rfl, fun i row' hi => by
    match i, hi with
    | 0, hi => cases hi; exact ⟨a, rfl, h, hf⟩
    | i + 1, hi => simp at hi⟩
theorem froz3 {k s : Nat} {τ : Stamp} {rows : List (List TV)} {q : Nat} {a b c a' b' c' : OV} (ha : Froz k τ s rows a a') (hb : Froz k τ s rows b b') (hc : Froz k τ s rows c c') : FrozR k τ s rows ⟨q, [[a, b, c]]⟩ ⟨q, [[a', b', c']]⟩ :=
  FrozR.cells rfl fun o y' ho => by
    match o, ho with
    | 0, ho => cases ho; exact ⟨a, rfl, ha⟩
    | 1, ho => cases ho; exact ⟨b, rfl, hb⟩
    | 2, ho => cases ho; exact ⟨c, rfl, hc⟩
    | o + 3, ho => simp at ho
theorem fin_0 {N : Nat} {tm : Tm} {σ : Store} {τ8 τE τF : Stamp} {n m : Nat} {rowsE rowsF : List (List OV)} (es : List Ev) (fr : List Int) (ht : tm 8 = some (.lo 8 τ8 3 0 0)) (h8 : σ 8 = some (τ8, ⟨3, [[.os 1007 τE 13 n, .os 1010 τF 1 m, .d (.c (.slice none 0 0))]]⟩))
    (hE : σ 1007 = some (τE, ⟨13, rowsE⟩)) (hF : σ 1010 = some (τF, ⟨1, rowsF⟩)) (eE : rowsE = es.map evRow) (eF : rowsF = fr.map (cellO .i64)) (hn : n = es.length) (hm : m = fr.length) (hg : goodY ⟨default, default, default, es, fr, []⟩) :
    awp E.P N .ret (DoneN E [.cell 8 26] (IsX goodY (fun y => exOV y) (fun _ => []))) tm σ := by
  subst eE eF hn hm
  have z1 : FzR (es.map evRow) (es.map evTV) := FzR.of (f := evRow) (g := evTV) (fun _ => rfl) es
  have z2 : FzR (fr.map (cellO .i64)) (fr.map cell) := FzR.ints fr
  refine awp_freeze 1007 τE 13 (es.map evTV) (tmL [(8, .lo 8 τ8 3 0 0)]) (stL [(8, (τ8, ⟨3, [[.d (evsTV es), .os 1010 τF 1 fr.length, .d (.c (.slice none 0 0))]]⟩)), (1010, (τF, ⟨1, fr.map (cellO .i64)⟩))]) (by rw [hE, z1.eq]) (fz_cons ht (.same _) fz_nil)
    (fs_cons (by decide) h8 (froz3 (froz_os (by simp)) (.same _) (.same _)) (fs_cons (by decide) hF (FrozR.same _) fs_nil)) ?_
  refine awp_freeze 1010 τF 1 (fr.map cell) (tmL [(8, .lo 8 τ8 3 0 0)]) (stL [(8, (τ8, ⟨3, [[.d (evsTV es), .d (ints fr), .d (rowsTV [])]]⟩))]) (by rw [← z2.eq]; rfl) (fz_cons rfl (.same _) fz_nil)
    (fs_cons (by decide) rfl (froz3 (.same _) (froz_os (by simp)) (.nil 1)) fs_nil) ?_
  refine awp_ret (doneN_cell rfl rfl rfl rfl rfl ⟨⟨default, default, default, es, fr, []⟩, hg, rfl, sle_nil _⟩)
theorem good_set {x : Ex} (hx : x.ok) {e : Ev} (he : e.ok) (i : Nat) {fr : List Int} (hf : fr.length ≤ 1000) {od : List (Sl × List Int)} (ho : od.length ≤ 1000) (hr : ∀ r ∈ od, r.2.length ≤ 1000) : goodY ⟨default, default, default, x.evs.set i e, fr, od⟩ := by
  refine ⟨⟨by simpa using hx.1, fun e' h => ?_, by dsimp only; omega, by dsimp only; omega, fun r h => Nat.le_trans (hr r h) (by decide)⟩, hr⟩
  rcases List.mem_or_eq_of_mem_set h with h | h
  · exact hx.2.1 _ h
  · rw [h]; exact he
theorem wrapU (a : Int) : 0 ≤ IntKind.u32.wrap a ∧ IntKind.u32.wrap a < 4294967296 := by
  have e : IntKind.u32.wrap a = a % 4294967296 := by
    unfold IntKind.wrap
    simp [IntKind.bits, IntKind.signed]
  rw [e]; omega
set_option maxHeartbeats 4000000 in
theorem changed_0 (x : Ex) (i : Nat) (how bye : Int) (hx : x.ok) (h1 : x.evs.length ≤ 1000) (h2 : x.from_.length ≤ 1000) (h3 : x.order.length = 0) (hi : i < x.evs.length) (hh : 0 ≤ how ∧ how < 15) (hb : 0 ≤ bye ∧ bye < 7) :
    FnW E.P 16 [exOV x, .int .i64 i, .int .i64 how, .int .i64 bye] (stL []) (IsX goodY (fun y => exOV y) (fun _ => [])) := by
  have he : (x.evs.getD i default).ok := hx.evC hi
  have f85 : Frozen 85 := ⟨trivial⟩
  have f95 : Frozen 95 := ⟨trivial⟩
  have f106 : Frozen 106 := ⟨trivial⟩
  refine fn_of_awpN (vs := [.cell 8 26]) Try.func16 (by decide) rfl Try.ntmps16 (Nat.le_of_ble_eq_true rfl) rfl ?_
  refine awp_seq ?_
  ((refine ao_region ?_ (fun _ => ?_)); exact rfl)
  (apply S_box; exact rfl; exact rfl; exact rfl)
  (apply S_alloc; exact rfl)
  refine ao_nil ?_
  refine then_n ?_
  refine awp_seq ?_
  ((refine ao_region ?_ (fun _ => ?_)); exact rfl)
  (apply S_load_loA; exact rfl; exact rfl; exact rfl; exact rfl; (first | exact rfl | exact get_map (by omega) default | exact get_set_ne (by omega) (by omega) (0 : Int) | assumption); exact Nat.le_of_ble_eq_true rfl)
  (((apply S_callX; exact rfl; exact .fn _ _ _; exact rfl; exact (copied_0 x h1 h2 h3); exact sle_nil _; (intro _; simp); (rintro ⟨τE, τF, τO, τJ⟩ _))))
  (apply S_alloc; exact rfl)
  (apply S_store; exact rfl; exact rfl; exact rfl; exact rfl; exact rfl; exact rfl; (first | exact rfl | exact get_map (by omega) (0 : Int) | exact get_map (by omega) default | exact get_set_ne (by omega) (by omega) (0 : Int) | assumption); exact Nat.le_of_ble_eq_true rfl)
  refine ao_nil ?_
  refine then_n ?_
  refine awp_seq ?_
  ((refine ao_region ?_ (fun _ => ?_)); exact rfl)
  (apply S_fieldAddr_lo; exact rfl; exact rfl; exact rfl; exact rfl; decide; exact rfl)
  (apply S_load_lo; exact rfl; exact rfl; exact rfl; exact rfl; (first | exact rfl | exact get_map (by omega) (0 : Int) | exact get_map (by omega) default | exact hrow _ | assumption); exact rfl)
  (apply S_move; exact rfl)
  (apply S_indexAddr_os; exact rfl; exact rfl; exact rfl; exact rfl; exact rfl; exact rfl; omega)
  (apply S_load_loA; exact rfl; exact rfl; exact rfl; exact rfl; (first | exact rfl | exact get_map (by omega) default | exact get_set_ne (by omega) (by omega) (0 : Int) | assumption); exact Nat.le_of_ble_eq_true rfl)
  (apply S_alloc; exact rfl)
  (apply S_store; exact rfl; exact rfl; exact rfl; exact rfl; exact rfl; exact rfl; (first | exact rfl | exact get_map (by omega) (0 : Int) | exact get_map (by omega) default | exact get_set_ne (by omega) (by omega) (0 : Int) | assumption); exact Nat.le_of_ble_eq_true rfl)
  refine ao_nil ?_
  refine then_n ?_
  iterate 2 refine awp_seq ?_
  ((refine ao_region ?_ (fun _ => ?_)); exact rfl)
  (apply S_move; exact rfl)
  refine ao_nil ?_
  refine then_n ?_
  refine awp_block ?_
  refine awp_seq ?_
  ((refine ao_region ?_ (fun _ => ?_)); exact rfl)
  (apply S_eql; exact rfl; exact rfl)
  (apply S_assign; exact rfl)
  refine ao_nil ?_
  refine then_n ?_
  (apply awp_cond; exact rfl)
  ((refine im_dt (fun _ => ?_)); (try (exfalso; omega)))
  ((refine ao_region ?_ (fun _ => ?_)); exact rfl)
  (apply S_move; exact rfl)
  (apply S_fieldAddr_lo; exact rfl; exact rfl; exact rfl; exact rfl; decide; exact rfl)
  (apply S_store; exact rfl; exact rfl; exact rfl; exact rfl; exact rfl; exact rfl; (first | exact rfl | exact get_map (by omega) (0 : Int) | exact get_map (by omega) default | exact get_set_ne (by omega) (by omega) (0 : Int) | assumption); exact Nat.le_of_ble_eq_true rfl)
  refine ao_nil ?_
  refine blk_n ?_
  refine then_n ?_
  refine awp_seq ?_
  ((refine ao_region ?_ (fun _ => ?_)); exact rfl)
  (apply S_fieldAddr_lo; exact rfl; exact rfl; exact rfl; exact rfl; decide; exact rfl)
  (apply S_load_lo; exact rfl; exact rfl; exact rfl; exact rfl; (first | exact rfl | exact get_map (by omega) (0 : Int) | exact get_map (by omega) default | exact hrow _ | assumption); exact rfl)
  (apply S_move; exact rfl)
  (apply S_load_loA; exact rfl; exact rfl; exact rfl; exact rfl; (first | exact rfl | exact get_map (by omega) default | exact get_set_ne (by omega) (by omega) (0 : Int) | assumption); exact Nat.le_of_ble_eq_true rfl)
  (apply S_indexAddr_os; exact rfl; exact rfl; exact rfl; exact rfl; exact rfl; exact rfl; omega)
  (apply S_store; exact rfl; exact rfl; exact rfl; exact rfl; exact rfl; exact rfl; (first | exact rfl | exact get_map (by omega) (0 : Int) | exact get_map (by omega) default | exact get_set_ne (by omega) (by omega) (0 : Int) | assumption); exact Nat.le_of_ble_eq_true rfl)
  refine ao_nil ?_
  refine then_n ?_
  iterate 2 refine awp_seq ?_
  ((refine ao_region ?_ (fun _ => ?_)); exact rfl)
  (apply S_move; exact rfl)
  (apply S_eql; exact rfl; exact rfl)
  (apply S_move; exact rfl)
  (apply spec_t; exact rfl; exact rfl)
  ((refine im_any (fun hc_ => ?_)); (try have hc1_ := (band hc_).1))
  (apply M_fieldAddr_lo; exact rfl; exact rfl; exact rfl; exact rfl; decide; (first | (refine EvM.mb _ rfl ?_; first | assumption | exact rfl) | exact EvM.plain rfl rfl))
  (apply spec_t; exact rfl; exact rfl)
  ((refine im_any (fun hc_ => ?_)); (try have hc1_ := (band hc_).1))
  (apply M_load_lo; exact rfl; exact rfl; (first | (refine EvM.mb _ rfl ?_; first | assumption | exact rfl) | exact EvM.plain rfl rfl); exact rfl; exact rfl; exact rfl)
  (apply spec_t; exact rfl; exact rfl)
  ((refine im_any (fun hc_ => ?_)); (try have hc1_ := (band hc_).1))
  (apply M_len; exact rfl; exact rfl; (first | (refine EvM.mb _ rfl ?_; first | assumption | exact rfl) | exact EvM.plain rfl rfl); (first | exact len_ints _ | exact len_map _ _ _ | exact len_sl _ _ | exact len_os _ _ _ _ | exact len_vw _ _ _ _ _ | exact len_nil))
  (apply spec_t; exact rfl; exact rfl)
  ((refine im_any (fun hc_ => ?_)); (try have hc1_ := (band hc_).1))
  (apply M_gtr; (first | (refine EvM.mb _ rfl ?_; first | assumption | exact rfl) | exact EvM.plain rfl rfl); (first | (refine EvM.mb _ rfl ?_; first | assumption | exact rfl) | exact EvM.plain rfl rfl))
  (apply S_pick_and; (first | (refine EvM.mb _ rfl ?_; first | assumption | exact rfl) | exact EvM.plain rfl rfl); (first | (refine EvB.mb _ rfl ?_; first | exact fun h => h | exact fun h => bnot_mk h | exact fun h => band_mk (by assumption) h | exact fun h => band_mk (by assumption) (bnot_mk h) | (intro h; simp_all)) | exact EvB.plain rfl); exact rfl)
  refine ao_nil ?_
  refine then_n ?_
  (apply awp_cond; exact rfl)
  refine im_at ?_
  ((refine im_dt (fun _ => ?_)); (try (exfalso; omega)))
  ((refine im_af (fun hc_ => ?_)); (try simp only [Bool.not_eq_true', Bool.not_eq_false', Bool.or_eq_true, Bool.and_eq_true, Bool.or_eq_false_iff, Bool.and_eq_false_iff, decide_eq_true_eq, decide_eq_false_iff_not, Decidable.not_not, Int.not_lt, Int.not_le, Bool.not_true, Bool.not_false, Bool.true_and, Bool.and_true, Bool.false_or, Bool.or_false, Bool.true_or, Bool.false_and, bne_eq_false_iff_eq, bne_iff_ne, beq_iff_eq, beq_eq_false_iff_ne, decide_eq_decide] at hc_))
  refine awp_skip ?_
  refine then_n ?_
  refine awp_seq ?_
  ((refine ao_region ?_ (fun _ => ?_)); exact rfl)
  (apply S_load_loA; exact rfl; exact rfl; exact rfl; exact rfl; (first | exact rfl | exact get_map (by omega) default | exact get_set_ne (by omega) (by omega) (0 : Int) | assumption); exact Nat.le_of_ble_eq_true rfl)
  (apply S_store; exact rfl; exact rfl; exact rfl; exact rfl; exact rfl; exact rfl; (first | exact rfl | exact get_map (by omega) (0 : Int) | exact get_map (by omega) default | exact get_set_ne (by omega) (by omega) (0 : Int) | assumption); exact Nat.le_of_ble_eq_true rfl)
  refine ao_nil ?_
  refine then_n ?_
  rotate_left
  ((refine im_df (fun _ => ?_)); (try (exfalso; omega)))
  refine awp_seq ?_
  ((refine ao_region ?_ (fun _ => ?_)); exact rfl)
  (apply S_eql; exact rfl; exact rfl)
  (apply S_assign; exact rfl)
  refine ao_nil ?_
  refine then_n ?_
  (apply awp_cond; exact rfl)
  ((refine im_dt (fun _ => ?_)); (try (exfalso; omega)))
  ((refine ao_region ?_ (fun _ => ?_)); exact rfl)
  (apply S_move; exact rfl)
  (apply S_sub64; exact rfl; exact rfl; omega)
  (apply S_fieldAddr_lo; exact rfl; exact rfl; exact rfl; exact rfl; decide; exact rfl)
  (apply S_store; exact rfl; exact rfl; exact rfl; exact rfl; exact rfl; exact rfl; (first | exact rfl | exact get_map (by omega) (0 : Int) | exact get_map (by omega) default | exact get_set_ne (by omega) (by omega) (0 : Int) | assumption); exact Nat.le_of_ble_eq_true rfl)
  refine ao_nil ?_
  refine blk_n ?_
  refine then_n ?_
  refine awp_seq ?_
  ((refine ao_region ?_ (fun _ => ?_)); exact rfl)
  (apply S_fieldAddr_lo; exact rfl; exact rfl; exact rfl; exact rfl; decide; exact rfl)
  (apply S_load_lo; exact rfl; exact rfl; exact rfl; exact rfl; (first | exact rfl | exact get_map (by omega) (0 : Int) | exact get_map (by omega) default | exact hrow _ | assumption); exact rfl)
  (apply S_move; exact rfl)
  (apply S_load_loA; exact rfl; exact rfl; exact rfl; exact rfl; (first | exact rfl | exact get_map (by omega) default | exact get_set_ne (by omega) (by omega) (0 : Int) | assumption); exact Nat.le_of_ble_eq_true rfl)
  (apply S_indexAddr_os; exact rfl; exact rfl; exact rfl; exact rfl; exact rfl; exact rfl; omega)
  (apply S_store; exact rfl; exact rfl; exact rfl; exact rfl; exact rfl; exact rfl; (first | exact rfl | exact get_map (by omega) (0 : Int) | exact get_map (by omega) default | exact get_set_ne (by omega) (by omega) (0 : Int) | assumption); exact Nat.le_of_ble_eq_true rfl)
  refine ao_nil ?_
  refine then_n ?_
  iterate 2 refine awp_seq ?_
  ((refine ao_region ?_ (fun _ => ?_)); exact rfl)
  (apply S_move; exact rfl)
  (apply S_eql; exact rfl; exact rfl)
  (apply S_move; exact rfl)
  (apply spec_t; exact rfl; exact rfl)
  ((refine im_any (fun hc_ => ?_)); (try have hc1_ := (band hc_).1))
  (apply M_fieldAddr_lo; exact rfl; exact rfl; exact rfl; exact rfl; decide; (first | (refine EvM.mb _ rfl ?_; first | assumption | exact rfl) | exact EvM.plain rfl rfl))
  (apply spec_t; exact rfl; exact rfl)
  ((refine im_any (fun hc_ => ?_)); (try have hc1_ := (band hc_).1))
  (apply M_load_lo; exact rfl; exact rfl; (first | (refine EvM.mb _ rfl ?_; first | assumption | exact rfl) | exact EvM.plain rfl rfl); exact rfl; exact rfl; exact rfl)
  (apply spec_t; exact rfl; exact rfl)
  ((refine im_any (fun hc_ => ?_)); (try have hc1_ := (band hc_).1))
  (apply M_len; exact rfl; exact rfl; (first | (refine EvM.mb _ rfl ?_; first | assumption | exact rfl) | exact EvM.plain rfl rfl); (first | exact len_ints _ | exact len_map _ _ _ | exact len_sl _ _ | exact len_os _ _ _ _ | exact len_vw _ _ _ _ _ | exact len_nil))
  (apply spec_t; exact rfl; exact rfl)
  ((refine im_any (fun hc_ => ?_)); (try have hc1_ := (band hc_).1))
  (apply M_gtr; (first | (refine EvM.mb _ rfl ?_; first | assumption | exact rfl) | exact EvM.plain rfl rfl); (first | (refine EvM.mb _ rfl ?_; first | assumption | exact rfl) | exact EvM.plain rfl rfl))
  (apply S_pick_and; (first | (refine EvM.mb _ rfl ?_; first | assumption | exact rfl) | exact EvM.plain rfl rfl); (first | (refine EvB.mb _ rfl ?_; first | exact fun h => h | exact fun h => bnot_mk h | exact fun h => band_mk (by assumption) h | exact fun h => band_mk (by assumption) (bnot_mk h) | (intro h; simp_all)) | exact EvB.plain rfl); exact rfl)
  refine ao_nil ?_
  refine then_n ?_
  (apply awp_cond; exact rfl)
  refine im_at ?_
  ((refine im_dt (fun _ => ?_)); (try (exfalso; omega)))
  ((refine im_af (fun hc_ => ?_)); (try simp only [Bool.not_eq_true', Bool.not_eq_false', Bool.or_eq_true, Bool.and_eq_true, Bool.or_eq_false_iff, Bool.and_eq_false_iff, decide_eq_true_eq, decide_eq_false_iff_not, Decidable.not_not, Int.not_lt, Int.not_le, Bool.not_true, Bool.not_false, Bool.true_and, Bool.and_true, Bool.false_or, Bool.or_false, Bool.true_or, Bool.false_and, bne_eq_false_iff_eq, bne_iff_ne, beq_iff_eq, beq_eq_false_iff_ne, decide_eq_decide] at hc_))
  refine awp_skip ?_
  refine then_n ?_
  refine awp_seq ?_
  ((refine ao_region ?_ (fun _ => ?_)); exact rfl)
  (apply S_load_loA; exact rfl; exact rfl; exact rfl; exact rfl; (first | exact rfl | exact get_map (by omega) default | exact get_set_ne (by omega) (by omega) (0 : Int) | assumption); exact Nat.le_of_ble_eq_true rfl)
  (apply S_store; exact rfl; exact rfl; exact rfl; exact rfl; exact rfl; exact rfl; (first | exact rfl | exact get_map (by omega) (0 : Int) | exact get_map (by omega) default | exact get_set_ne (by omega) (by omega) (0 : Int) | assumption); exact Nat.le_of_ble_eq_true rfl)
  refine ao_nil ?_
  refine then_n ?_
  rotate_left
  ((refine im_df (fun _ => ?_)); (try (exfalso; omega)))
  refine awp_seq ?_
  ((refine ao_region ?_ (fun _ => ?_)); exact rfl)
  (apply S_eql; exact rfl; exact rfl)
  (apply S_assign; exact rfl)
  refine ao_nil ?_
  refine then_n ?_
  (apply awp_cond; exact rfl)
  ((refine im_dt (fun _ => ?_)); (try (exfalso; omega)))
  ((refine ao_region ?_ (fun _ => ?_)); exact rfl)
  (apply S_fieldAddr_lo; exact rfl; exact rfl; exact rfl; exact rfl; decide; exact rfl)
  (apply S_load_lo; exact rfl; exact rfl; exact rfl; exact rfl; (first | exact rfl | exact get_map (by omega) (0 : Int) | exact get_map (by omega) default | exact hrow _ | assumption); exact rfl)
  (apply S_move; exact rfl)
  (apply S_conv32u; exact rfl; exact rfl; exact rfl; exact rfl; exact rfl; omega)
  (apply S_add32; exact rfl; exact rfl)
  (apply S_fieldAddr_lo; exact rfl; exact rfl; exact rfl; exact rfl; decide; exact rfl)
  (apply S_store; exact rfl; exact rfl; exact rfl; exact rfl; exact rfl; exact rfl; (first | exact rfl | exact get_map (by omega) (0 : Int) | exact get_map (by omega) default | exact get_set_ne (by omega) (by omega) (0 : Int) | assumption); exact Nat.le_of_ble_eq_true rfl)
  refine ao_nil ?_
  refine blk_n ?_
  refine then_n ?_
  refine awp_seq ?_
  ((refine ao_region ?_ (fun _ => ?_)); exact rfl)
  (apply S_fieldAddr_lo; exact rfl; exact rfl; exact rfl; exact rfl; decide; exact rfl)
  (apply S_load_lo; exact rfl; exact rfl; exact rfl; exact rfl; (first | exact rfl | exact get_map (by omega) (0 : Int) | exact get_map (by omega) default | exact hrow _ | assumption); exact rfl)
  (apply S_move; exact rfl)
  (apply S_load_loA; exact rfl; exact rfl; exact rfl; exact rfl; (first | exact rfl | exact get_map (by omega) default | exact get_set_ne (by omega) (by omega) (0 : Int) | assumption); exact Nat.le_of_ble_eq_true rfl)
  (apply S_indexAddr_os; exact rfl; exact rfl; exact rfl; exact rfl; exact rfl; exact rfl; omega)
  (apply S_store; exact rfl; exact rfl; exact rfl; exact rfl; exact rfl; exact rfl; (first | exact rfl | exact get_map (by omega) (0 : Int) | exact get_map (by omega) default | exact get_set_ne (by omega) (by omega) (0 : Int) | assumption); exact Nat.le_of_ble_eq_true rfl)
  refine ao_nil ?_
  refine then_n ?_
  iterate 2 refine awp_seq ?_
  ((refine ao_region ?_ (fun _ => ?_)); exact rfl)
  (apply S_move; exact rfl)
  (apply S_eql; exact rfl; exact rfl)
  (apply S_move; exact rfl)
  (apply spec_t; exact rfl; exact rfl)
  ((refine im_any (fun hc_ => ?_)); (try have hc1_ := (band hc_).1))
  (apply M_fieldAddr_lo; exact rfl; exact rfl; exact rfl; exact rfl; decide; (first | (refine EvM.mb _ rfl ?_; first | assumption | exact rfl) | exact EvM.plain rfl rfl))
  (apply spec_t; exact rfl; exact rfl)
  ((refine im_any (fun hc_ => ?_)); (try have hc1_ := (band hc_).1))
  (apply M_load_lo; exact rfl; exact rfl; (first | (refine EvM.mb _ rfl ?_; first | assumption | exact rfl) | exact EvM.plain rfl rfl); exact rfl; exact rfl; exact rfl)
  (apply spec_t; exact rfl; exact rfl)
  ((refine im_any (fun hc_ => ?_)); (try have hc1_ := (band hc_).1))
  (apply M_len; exact rfl; exact rfl; (first | (refine EvM.mb _ rfl ?_; first | assumption | exact rfl) | exact EvM.plain rfl rfl); (first | exact len_ints _ | exact len_map _ _ _ | exact len_sl _ _ | exact len_os _ _ _ _ | exact len_vw _ _ _ _ _ | exact len_nil))
  (apply spec_t; exact rfl; exact rfl)
  ((refine im_any (fun hc_ => ?_)); (try have hc1_ := (band hc_).1))
  (apply M_gtr; (first | (refine EvM.mb _ rfl ?_; first | assumption | exact rfl) | exact EvM.plain rfl rfl); (first | (refine EvM.mb _ rfl ?_; first | assumption | exact rfl) | exact EvM.plain rfl rfl))
  (apply S_pick_and; (first | (refine EvM.mb _ rfl ?_; first | assumption | exact rfl) | exact EvM.plain rfl rfl); (first | (refine EvB.mb _ rfl ?_; first | exact fun h => h | exact fun h => bnot_mk h | exact fun h => band_mk (by assumption) h | exact fun h => band_mk (by assumption) (bnot_mk h) | (intro h; simp_all)) | exact EvB.plain rfl); exact rfl)
  refine ao_nil ?_
  refine then_n ?_
  (apply awp_cond; exact rfl)
  refine im_at ?_
  ((refine im_dt (fun _ => ?_)); (try (exfalso; omega)))
  ((refine im_af (fun hc_ => ?_)); (try simp only [Bool.not_eq_true', Bool.not_eq_false', Bool.or_eq_true, Bool.and_eq_true, Bool.or_eq_false_iff, Bool.and_eq_false_iff, decide_eq_true_eq, decide_eq_false_iff_not, Decidable.not_not, Int.not_lt, Int.not_le, Bool.not_true, Bool.not_false, Bool.true_and, Bool.and_true, Bool.false_or, Bool.or_false, Bool.true_or, Bool.false_and, bne_eq_false_iff_eq, bne_iff_ne, beq_iff_eq, beq_eq_false_iff_ne, decide_eq_decide] at hc_))
  refine awp_skip ?_
  refine then_n ?_
  refine awp_seq ?_
  ((refine ao_region ?_ (fun _ => ?_)); exact rfl)
  (apply S_load_loA; exact rfl; exact rfl; exact rfl; exact rfl; (first | exact rfl | exact get_map (by omega) default | exact get_set_ne (by omega) (by omega) (0 : Int) | assumption); exact Nat.le_of_ble_eq_true rfl)
  (apply S_store; exact rfl; exact rfl; exact rfl; exact rfl; exact rfl; exact rfl; (first | exact rfl | exact get_map (by omega) (0 : Int) | exact get_map (by omega) default | exact get_set_ne (by omega) (by omega) (0 : Int) | assumption); exact Nat.le_of_ble_eq_true rfl)
  refine ao_nil ?_
  refine then_n ?_
  rotate_left
  ((refine im_df (fun _ => ?_)); (try (exfalso; omega)))
  refine awp_seq ?_
  ((refine ao_region ?_ (fun _ => ?_)); exact rfl)
  (apply S_eql; exact rfl; exact rfl)
  (apply S_assign; exact rfl)
  refine ao_nil ?_
  refine then_n ?_
  (apply awp_cond; exact rfl)
  ((refine im_dt (fun _ => ?_)); (try (exfalso; omega)))
  ((refine ao_region ?_ (fun _ => ?_)); exact rfl)
  (apply S_fieldAddr_lo; exact rfl; exact rfl; exact rfl; exact rfl; decide; exact rfl)
  (apply S_load_lo; exact rfl; exact rfl; exact rfl; exact rfl; (first | exact rfl | exact get_map (by omega) (0 : Int) | exact get_map (by omega) default | exact hrow _ | assumption); exact rfl)
  (apply S_move; exact rfl)
  (apply S_conv32u; exact rfl; exact rfl; exact rfl; exact rfl; exact rfl; omega)
  (apply S_add32; exact rfl; exact rfl)
  (apply S_fieldAddr_lo; exact rfl; exact rfl; exact rfl; exact rfl; decide; exact rfl)
  (apply S_store; exact rfl; exact rfl; exact rfl; exact rfl; exact rfl; exact rfl; (first | exact rfl | exact get_map (by omega) (0 : Int) | exact get_map (by omega) default | exact get_set_ne (by omega) (by omega) (0 : Int) | assumption); exact Nat.le_of_ble_eq_true rfl)
  refine ao_nil ?_
  refine blk_n ?_
  refine then_n ?_
  refine awp_seq ?_
  ((refine ao_region ?_ (fun _ => ?_)); exact rfl)
  (apply S_fieldAddr_lo; exact rfl; exact rfl; exact rfl; exact rfl; decide; exact rfl)
  (apply S_load_lo; exact rfl; exact rfl; exact rfl; exact rfl; (first | exact rfl | exact get_map (by omega) (0 : Int) | exact get_map (by omega) default | exact hrow _ | assumption); exact rfl)
  (apply S_move; exact rfl)
  (apply S_load_loA; exact rfl; exact rfl; exact rfl; exact rfl; (first | exact rfl | exact get_map (by omega) default | exact get_set_ne (by omega) (by omega) (0 : Int) | assumption); exact Nat.le_of_ble_eq_true rfl)
  (apply S_indexAddr_os; exact rfl; exact rfl; exact rfl; exact rfl; exact rfl; exact rfl; omega)
  (apply S_store; exact rfl; exact rfl; exact rfl; exact rfl; exact rfl; exact rfl; (first | exact rfl | exact get_map (by omega) (0 : Int) | exact get_map (by omega) default | exact get_set_ne (by omega) (by omega) (0 : Int) | assumption); exact Nat.le_of_ble_eq_true rfl)
  refine ao_nil ?_
  refine then_n ?_
  iterate 2 refine awp_seq ?_
  ((refine ao_region ?_ (fun _ => ?_)); exact rfl)
  (apply S_move; exact rfl)
  (apply S_eql; exact rfl; exact rfl)
  (apply S_move; exact rfl)
  (apply spec_t; exact rfl; exact rfl)
  ((refine im_any (fun hc_ => ?_)); (try have hc1_ := (band hc_).1))
  (apply M_fieldAddr_lo; exact rfl; exact rfl; exact rfl; exact rfl; decide; (first | (refine EvM.mb _ rfl ?_; first | assumption | exact rfl) | exact EvM.plain rfl rfl))
  (apply spec_t; exact rfl; exact rfl)
  ((refine im_any (fun hc_ => ?_)); (try have hc1_ := (band hc_).1))
  (apply M_load_lo; exact rfl; exact rfl; (first | (refine EvM.mb _ rfl ?_; first | assumption | exact rfl) | exact EvM.plain rfl rfl); exact rfl; exact rfl; exact rfl)
  (apply spec_t; exact rfl; exact rfl)
  ((refine im_any (fun hc_ => ?_)); (try have hc1_ := (band hc_).1))
  (apply M_len; exact rfl; exact rfl; (first | (refine EvM.mb _ rfl ?_; first | assumption | exact rfl) | exact EvM.plain rfl rfl); (first | exact len_ints _ | exact len_map _ _ _ | exact len_sl _ _ | exact len_os _ _ _ _ | exact len_vw _ _ _ _ _ | exact len_nil))
  (apply spec_t; exact rfl; exact rfl)
  ((refine im_any (fun hc_ => ?_)); (try have hc1_ := (band hc_).1))
  (apply M_gtr; (first | (refine EvM.mb _ rfl ?_; first | assumption | exact rfl) | exact EvM.plain rfl rfl); (first | (refine EvM.mb _ rfl ?_; first | assumption | exact rfl) | exact EvM.plain rfl rfl))
  (apply S_pick_and; (first | (refine EvM.mb _ rfl ?_; first | assumption | exact rfl) | exact EvM.plain rfl rfl); (first | (refine EvB.mb _ rfl ?_; first | exact fun h => h | exact fun h => bnot_mk h | exact fun h => band_mk (by assumption) h | exact fun h => band_mk (by assumption) (bnot_mk h) | (intro h; simp_all)) | exact EvB.plain rfl); exact rfl)
  refine ao_nil ?_
  refine then_n ?_
  (apply awp_cond; exact rfl)
  refine im_at ?_
  ((refine im_dt (fun _ => ?_)); (try (exfalso; omega)))
  ((refine im_af (fun hc_ => ?_)); (try simp only [Bool.not_eq_true', Bool.not_eq_false', Bool.or_eq_true, Bool.and_eq_true, Bool.or_eq_false_iff, Bool.and_eq_false_iff, decide_eq_true_eq, decide_eq_false_iff_not, Decidable.not_not, Int.not_lt, Int.not_le, Bool.not_true, Bool.not_false, Bool.true_and, Bool.and_true, Bool.false_or, Bool.or_false, Bool.true_or, Bool.false_and, bne_eq_false_iff_eq, bne_iff_ne, beq_iff_eq, beq_eq_false_iff_ne, decide_eq_decide] at hc_))
  refine awp_skip ?_
  refine then_n ?_
  refine awp_seq ?_
  ((refine ao_region ?_ (fun _ => ?_)); exact rfl)
  (apply S_load_loA; exact rfl; exact rfl; exact rfl; exact rfl; (first | exact rfl | exact get_map (by omega) default | exact get_set_ne (by omega) (by omega) (0 : Int) | assumption); exact Nat.le_of_ble_eq_true rfl)
  (apply S_store; exact rfl; exact rfl; exact rfl; exact rfl; exact rfl; exact rfl; (first | exact rfl | exact get_map (by omega) (0 : Int) | exact get_map (by omega) default | exact get_set_ne (by omega) (by omega) (0 : Int) | assumption); exact Nat.le_of_ble_eq_true rfl)
  refine ao_nil ?_
  refine then_n ?_
  rotate_left
  ((refine im_df (fun _ => ?_)); (try (exfalso; omega)))
  refine awp_seq ?_
  ((refine ao_region ?_ (fun _ => ?_)); exact rfl)
  (apply S_eql; exact rfl; exact rfl)
  (apply S_assign; exact rfl)
  refine ao_nil ?_
  refine then_n ?_
  (apply awp_cond; exact rfl)
  ((refine im_dt (fun _ => ?_)); (try (exfalso; omega)))
  ((refine ao_region ?_ (fun _ => ?_)); exact rfl)
  (apply S_fieldAddr_lo; exact rfl; exact rfl; exact rfl; exact rfl; decide; exact rfl)
  (apply S_load_lo; exact rfl; exact rfl; exact rfl; exact rfl; (first | exact rfl | exact get_map (by omega) (0 : Int) | exact get_map (by omega) default | exact hrow _ | assumption); exact rfl)
  (apply S_move; exact rfl)
  (apply S_conv32u; exact rfl; exact rfl; exact rfl; exact rfl; exact rfl; omega)
  (apply S_add32; exact rfl; exact rfl)
  (apply S_fieldAddr_lo; exact rfl; exact rfl; exact rfl; exact rfl; decide; exact rfl)
  (apply S_store; exact rfl; exact rfl; exact rfl; exact rfl; exact rfl; exact rfl; (first | exact rfl | exact get_map (by omega) (0 : Int) | exact get_map (by omega) default | exact get_set_ne (by omega) (by omega) (0 : Int) | assumption); exact Nat.le_of_ble_eq_true rfl)
  refine ao_nil ?_
  refine blk_n ?_
  refine then_n ?_
  refine awp_seq ?_
  ((refine ao_region ?_ (fun _ => ?_)); exact rfl)
  (apply S_fieldAddr_lo; exact rfl; exact rfl; exact rfl; exact rfl; decide; exact rfl)
  (apply S_load_lo; exact rfl; exact rfl; exact rfl; exact rfl; (first | exact rfl | exact get_map (by omega) (0 : Int) | exact get_map (by omega) default | exact hrow _ | assumption); exact rfl)
  (apply S_move; exact rfl)
  (apply S_load_loA; exact rfl; exact rfl; exact rfl; exact rfl; (first | exact rfl | exact get_map (by omega) default | exact get_set_ne (by omega) (by omega) (0 : Int) | assumption); exact Nat.le_of_ble_eq_true rfl)
  (apply S_indexAddr_os; exact rfl; exact rfl; exact rfl; exact rfl; exact rfl; exact rfl; omega)
  (apply S_store; exact rfl; exact rfl; exact rfl; exact rfl; exact rfl; exact rfl; (first | exact rfl | exact get_map (by omega) (0 : Int) | exact get_map (by omega) default | exact get_set_ne (by omega) (by omega) (0 : Int) | assumption); exact Nat.le_of_ble_eq_true rfl)
  refine ao_nil ?_
  refine then_n ?_
  iterate 2 refine awp_seq ?_
  ((refine ao_region ?_ (fun _ => ?_)); exact rfl)
  (apply S_move; exact rfl)
  (apply S_eql; exact rfl; exact rfl)
  (apply S_move; exact rfl)
  (apply spec_t; exact rfl; exact rfl)
  ((refine im_any (fun hc_ => ?_)); (try have hc1_ := (band hc_).1))
  (apply M_fieldAddr_lo; exact rfl; exact rfl; exact rfl; exact rfl; decide; (first | (refine EvM.mb _ rfl ?_; first | assumption | exact rfl) | exact EvM.plain rfl rfl))
  (apply spec_t; exact rfl; exact rfl)
  ((refine im_any (fun hc_ => ?_)); (try have hc1_ := (band hc_).1))
  (apply M_load_lo; exact rfl; exact rfl; (first | (refine EvM.mb _ rfl ?_; first | assumption | exact rfl) | exact EvM.plain rfl rfl); exact rfl; exact rfl; exact rfl)
  (apply spec_t; exact rfl; exact rfl)
  ((refine im_any (fun hc_ => ?_)); (try have hc1_ := (band hc_).1))
  (apply M_len; exact rfl; exact rfl; (first | (refine EvM.mb _ rfl ?_; first | assumption | exact rfl) | exact EvM.plain rfl rfl); (first | exact len_ints _ | exact len_map _ _ _ | exact len_sl _ _ | exact len_os _ _ _ _ | exact len_vw _ _ _ _ _ | exact len_nil))
  (apply spec_t; exact rfl; exact rfl)
  ((refine im_any (fun hc_ => ?_)); (try have hc1_ := (band hc_).1))
  (apply M_gtr; (first | (refine EvM.mb _ rfl ?_; first | assumption | exact rfl) | exact EvM.plain rfl rfl); (first | (refine EvM.mb _ rfl ?_; first | assumption | exact rfl) | exact EvM.plain rfl rfl))
  (apply S_pick_and; (first | (refine EvM.mb _ rfl ?_; first | assumption | exact rfl) | exact EvM.plain rfl rfl); (first | (refine EvB.mb _ rfl ?_; first | exact fun h => h | exact fun h => bnot_mk h | exact fun h => band_mk (by assumption) h | exact fun h => band_mk (by assumption) (bnot_mk h) | (intro h; simp_all)) | exact EvB.plain rfl); exact rfl)
  refine ao_nil ?_
  refine then_n ?_
  (apply awp_cond; exact rfl)
  refine im_at ?_
  ((refine im_dt (fun _ => ?_)); (try (exfalso; omega)))
  ((refine im_af (fun hc_ => ?_)); (try simp only [Bool.not_eq_true', Bool.not_eq_false', Bool.or_eq_true, Bool.and_eq_true, Bool.or_eq_false_iff, Bool.and_eq_false_iff, decide_eq_true_eq, decide_eq_false_iff_not, Decidable.not_not, Int.not_lt, Int.not_le, Bool.not_true, Bool.not_false, Bool.true_and, Bool.and_true, Bool.false_or, Bool.or_false, Bool.true_or, Bool.false_and, bne_eq_false_iff_eq, bne_iff_ne, beq_iff_eq, beq_eq_false_iff_ne, decide_eq_decide] at hc_))
  refine awp_skip ?_
  refine then_n ?_
  refine awp_seq ?_
  ((refine ao_region ?_ (fun _ => ?_)); exact rfl)
  (apply S_load_loA; exact rfl; exact rfl; exact rfl; exact rfl; (first | exact rfl | exact get_map (by omega) default | exact get_set_ne (by omega) (by omega) (0 : Int) | assumption); exact Nat.le_of_ble_eq_true rfl)
  (apply S_store; exact rfl; exact rfl; exact rfl; exact rfl; exact rfl; exact rfl; (first | exact rfl | exact get_map (by omega) (0 : Int) | exact get_map (by omega) default | exact get_set_ne (by omega) (by omega) (0 : Int) | assumption); exact Nat.le_of_ble_eq_true rfl)
  refine ao_nil ?_
  refine then_n ?_
  rotate_left
  ((refine im_df (fun _ => ?_)); (try (exfalso; omega)))
  refine awp_seq ?_
  ((refine ao_region ?_ (fun _ => ?_)); exact rfl)
  (apply S_eql; exact rfl; exact rfl)
  (apply S_assign; exact rfl)
  refine ao_nil ?_
  refine then_n ?_
  (apply awp_cond; exact rfl)
  ((refine im_dt (fun _ => ?_)); (try (exfalso; omega)))
  ((refine ao_region ?_ (fun _ => ?_)); exact rfl)
  (apply S_fieldAddr_lo; exact rfl; exact rfl; exact rfl; exact rfl; decide; exact rfl)
  (apply S_load_lo; exact rfl; exact rfl; exact rfl; exact rfl; (first | exact rfl | exact get_map (by omega) (0 : Int) | exact get_map (by omega) default | exact hrow _ | assumption); exact rfl)
  (apply S_not; exact rfl)
  (apply S_fieldAddr_lo; exact rfl; exact rfl; exact rfl; exact rfl; decide; exact rfl)
  (apply S_store; exact rfl; exact rfl; exact rfl; exact rfl; exact rfl; exact rfl; (first | exact rfl | exact get_map (by omega) (0 : Int) | exact get_map (by omega) default | exact get_set_ne (by omega) (by omega) (0 : Int) | assumption); exact Nat.le_of_ble_eq_true rfl)
  refine ao_nil ?_
  refine blk_n ?_
  refine then_n ?_
  refine awp_seq ?_
  ((refine ao_region ?_ (fun _ => ?_)); exact rfl)
  (apply S_fieldAddr_lo; exact rfl; exact rfl; exact rfl; exact rfl; decide; exact rfl)
  (apply S_load_lo; exact rfl; exact rfl; exact rfl; exact rfl; (first | exact rfl | exact get_map (by omega) (0 : Int) | exact get_map (by omega) default | exact hrow _ | assumption); exact rfl)
  (apply S_move; exact rfl)
  (apply S_load_loA; exact rfl; exact rfl; exact rfl; exact rfl; (first | exact rfl | exact get_map (by omega) default | exact get_set_ne (by omega) (by omega) (0 : Int) | assumption); exact Nat.le_of_ble_eq_true rfl)
  (apply S_indexAddr_os; exact rfl; exact rfl; exact rfl; exact rfl; exact rfl; exact rfl; omega)
  (apply S_store; exact rfl; exact rfl; exact rfl; exact rfl; exact rfl; exact rfl; (first | exact rfl | exact get_map (by omega) (0 : Int) | exact get_map (by omega) default | exact get_set_ne (by omega) (by omega) (0 : Int) | assumption); exact Nat.le_of_ble_eq_true rfl)
  refine ao_nil ?_
  refine then_n ?_
  iterate 2 refine awp_seq ?_
  ((refine ao_region ?_ (fun _ => ?_)); exact rfl)
  (apply S_move; exact rfl)
  (apply S_eql; exact rfl; exact rfl)
  (apply S_move; exact rfl)
  (apply spec_t; exact rfl; exact rfl)
  ((refine im_any (fun hc_ => ?_)); (try have hc1_ := (band hc_).1))
  (apply M_fieldAddr_lo; exact rfl; exact rfl; exact rfl; exact rfl; decide; (first | (refine EvM.mb _ rfl ?_; first | assumption | exact rfl) | exact EvM.plain rfl rfl))
  (apply spec_t; exact rfl; exact rfl)
  ((refine im_any (fun hc_ => ?_)); (try have hc1_ := (band hc_).1))
  (apply M_load_lo; exact rfl; exact rfl; (first | (refine EvM.mb _ rfl ?_; first | assumption | exact rfl) | exact EvM.plain rfl rfl); exact rfl; exact rfl; exact rfl)
  (apply spec_t; exact rfl; exact rfl)
  ((refine im_any (fun hc_ => ?_)); (try have hc1_ := (band hc_).1))
  (apply M_len; exact rfl; exact rfl; (first | (refine EvM.mb _ rfl ?_; first | assumption | exact rfl) | exact EvM.plain rfl rfl); (first | exact len_ints _ | exact len_map _ _ _ | exact len_sl _ _ | exact len_os _ _ _ _ | exact len_vw _ _ _ _ _ | exact len_nil))
  (apply spec_t; exact rfl; exact rfl)
  ((refine im_any (fun hc_ => ?_)); (try have hc1_ := (band hc_).1))
  (apply M_gtr; (first | (refine EvM.mb _ rfl ?_; first | assumption | exact rfl) | exact EvM.plain rfl rfl); (first | (refine EvM.mb _ rfl ?_; first | assumption | exact rfl) | exact EvM.plain rfl rfl))
  (apply S_pick_and; (first | (refine EvM.mb _ rfl ?_; first | assumption | exact rfl) | exact EvM.plain rfl rfl); (first | (refine EvB.mb _ rfl ?_; first | exact fun h => h | exact fun h => bnot_mk h | exact fun h => band_mk (by assumption) h | exact fun h => band_mk (by assumption) (bnot_mk h) | (intro h; simp_all)) | exact EvB.plain rfl); exact rfl)
  refine ao_nil ?_
  refine then_n ?_
  (apply awp_cond; exact rfl)
  refine im_at ?_
  ((refine im_dt (fun _ => ?_)); (try (exfalso; omega)))
  ((refine im_af (fun hc_ => ?_)); (try simp only [Bool.not_eq_true', Bool.not_eq_false', Bool.or_eq_true, Bool.and_eq_true, Bool.or_eq_false_iff, Bool.and_eq_false_iff, decide_eq_true_eq, decide_eq_false_iff_not, Decidable.not_not, Int.not_lt, Int.not_le, Bool.not_true, Bool.not_false, Bool.true_and, Bool.and_true, Bool.false_or, Bool.or_false, Bool.true_or, Bool.false_and, bne_eq_false_iff_eq, bne_iff_ne, beq_iff_eq, beq_eq_false_iff_ne, decide_eq_decide] at hc_))
  refine awp_skip ?_
  refine then_n ?_
  refine awp_seq ?_
  ((refine ao_region ?_ (fun _ => ?_)); exact rfl)
  (apply S_load_loA; exact rfl; exact rfl; exact rfl; exact rfl; (first | exact rfl | exact get_map (by omega) default | exact get_set_ne (by omega) (by omega) (0 : Int) | assumption); exact Nat.le_of_ble_eq_true rfl)
  (apply S_store; exact rfl; exact rfl; exact rfl; exact rfl; exact rfl; exact rfl; (first | exact rfl | exact get_map (by omega) (0 : Int) | exact get_map (by omega) default | exact get_set_ne (by omega) (by omega) (0 : Int) | assumption); exact Nat.le_of_ble_eq_true rfl)
  refine ao_nil ?_
  refine then_n ?_
  rotate_left
  ((refine im_df (fun _ => ?_)); (try (exfalso; omega)))
  refine awp_seq ?_
  ((refine ao_region ?_ (fun _ => ?_)); exact rfl)
  (apply S_eql; exact rfl; exact rfl)
  (apply S_assign; exact rfl)
  refine ao_nil ?_
  refine then_n ?_
  (apply awp_cond; exact rfl)
  ((refine im_dt (fun _ => ?_)); (try (exfalso; omega)))
  ((refine ao_region ?_ (fun _ => ?_)); exact rfl)
  (apply S_fieldAddr_lo; exact rfl; exact rfl; exact rfl; exact rfl; decide; exact rfl)
  (apply S_load_lo; exact rfl; exact rfl; exact rfl; exact rfl; (first | exact rfl | exact get_map (by omega) (0 : Int) | exact get_map (by omega) default | exact hrow _ | assumption); exact rfl)
  (apply S_not; exact rfl)
  (apply S_fieldAddr_lo; exact rfl; exact rfl; exact rfl; exact rfl; decide; exact rfl)
  (apply S_store; exact rfl; exact rfl; exact rfl; exact rfl; exact rfl; exact rfl; (first | exact rfl | exact get_map (by omega) (0 : Int) | exact get_map (by omega) default | exact get_set_ne (by omega) (by omega) (0 : Int) | assumption); exact Nat.le_of_ble_eq_true rfl)
  refine ao_nil ?_
  refine blk_n ?_
  refine then_n ?_
  refine awp_seq ?_
  ((refine ao_region ?_ (fun _ => ?_)); exact rfl)
  (apply S_fieldAddr_lo; exact rfl; exact rfl; exact rfl; exact rfl; decide; exact rfl)
  (apply S_load_lo; exact rfl; exact rfl; exact rfl; exact rfl; (first | exact rfl | exact get_map (by omega) (0 : Int) | exact get_map (by omega) default | exact hrow _ | assumption); exact rfl)
  (apply S_move; exact rfl)
  (apply S_load_loA; exact rfl; exact rfl; exact rfl; exact rfl; (first | exact rfl | exact get_map (by omega) default | exact get_set_ne (by omega) (by omega) (0 : Int) | assumption); exact Nat.le_of_ble_eq_true rfl)
  (apply S_indexAddr_os; exact rfl; exact rfl; exact rfl; exact rfl; exact rfl; exact rfl; omega)
  (apply S_store; exact rfl; exact rfl; exact rfl; exact rfl; exact rfl; exact rfl; (first | exact rfl | exact get_map (by omega) (0 : Int) | exact get_map (by omega) default | exact get_set_ne (by omega) (by omega) (0 : Int) | assumption); exact Nat.le_of_ble_eq_true rfl)
  refine ao_nil ?_
  refine then_n ?_
  iterate 2 refine awp_seq ?_
  ((refine ao_region ?_ (fun _ => ?_)); exact rfl)
  (apply S_move; exact rfl)
  (apply S_eql; exact rfl; exact rfl)
  (apply S_move; exact rfl)
  (apply spec_t; exact rfl; exact rfl)
  ((refine im_any (fun hc_ => ?_)); (try have hc1_ := (band hc_).1))
  (apply M_fieldAddr_lo; exact rfl; exact rfl; exact rfl; exact rfl; decide; (first | (refine EvM.mb _ rfl ?_; first | assumption | exact rfl) | exact EvM.plain rfl rfl))
  (apply spec_t; exact rfl; exact rfl)
  ((refine im_any (fun hc_ => ?_)); (try have hc1_ := (band hc_).1))
  (apply M_load_lo; exact rfl; exact rfl; (first | (refine EvM.mb _ rfl ?_; first | assumption | exact rfl) | exact EvM.plain rfl rfl); exact rfl; exact rfl; exact rfl)
  (apply spec_t; exact rfl; exact rfl)
  ((refine im_any (fun hc_ => ?_)); (try have hc1_ := (band hc_).1))
  (apply M_len; exact rfl; exact rfl; (first | (refine EvM.mb _ rfl ?_; first | assumption | exact rfl) | exact EvM.plain rfl rfl); (first | exact len_ints _ | exact len_map _ _ _ | exact len_sl _ _ | exact len_os _ _ _ _ | exact len_vw _ _ _ _ _ | exact len_nil))
  (apply spec_t; exact rfl; exact rfl)
  ((refine im_any (fun hc_ => ?_)); (try have hc1_ := (band hc_).1))
  (apply M_gtr; (first | (refine EvM.mb _ rfl ?_; first | assumption | exact rfl) | exact EvM.plain rfl rfl); (first | (refine EvM.mb _ rfl ?_; first | assumption | exact rfl) | exact EvM.plain rfl rfl))
  (apply S_pick_and; (first | (refine EvM.mb _ rfl ?_; first | assumption | exact rfl) | exact EvM.plain rfl rfl); (first | (refine EvB.mb _ rfl ?_; first | exact fun h => h | exact fun h => bnot_mk h | exact fun h => band_mk (by assumption) h | exact fun h => band_mk (by assumption) (bnot_mk h) | (intro h; simp_all)) | exact EvB.plain rfl); exact rfl)
  refine ao_nil ?_
  refine then_n ?_
  (apply awp_cond; exact rfl)
  refine im_at ?_
  ((refine im_dt (fun _ => ?_)); (try (exfalso; omega)))
  ((refine im_af (fun hc_ => ?_)); (try simp only [Bool.not_eq_true', Bool.not_eq_false', Bool.or_eq_true, Bool.and_eq_true, Bool.or_eq_false_iff, Bool.and_eq_false_iff, decide_eq_true_eq, decide_eq_false_iff_not, Decidable.not_not, Int.not_lt, Int.not_le, Bool.not_true, Bool.not_false, Bool.true_and, Bool.and_true, Bool.false_or, Bool.or_false, Bool.true_or, Bool.false_and, bne_eq_false_iff_eq, bne_iff_ne, beq_iff_eq, beq_eq_false_iff_ne, decide_eq_decide] at hc_))
  refine awp_skip ?_
  refine then_n ?_
  refine awp_seq ?_
  ((refine ao_region ?_ (fun _ => ?_)); exact rfl)
  (apply S_load_loA; exact rfl; exact rfl; exact rfl; exact rfl; (first | exact rfl | exact get_map (by omega) default | exact get_set_ne (by omega) (by omega) (0 : Int) | assumption); exact Nat.le_of_ble_eq_true rfl)
  (apply S_store; exact rfl; exact rfl; exact rfl; exact rfl; exact rfl; exact rfl; (first | exact rfl | exact get_map (by omega) (0 : Int) | exact get_map (by omega) default | exact get_set_ne (by omega) (by omega) (0 : Int) | assumption); exact Nat.le_of_ble_eq_true rfl)
  refine ao_nil ?_
  refine then_n ?_
  rotate_left
  ((refine im_df (fun _ => ?_)); (try (exfalso; omega)))
  refine awp_seq ?_
  ((refine ao_region ?_ (fun _ => ?_)); exact rfl)
  (apply S_eql; exact rfl; exact rfl)
  (apply S_assign; exact rfl)
  refine ao_nil ?_
  refine then_n ?_
  (apply awp_cond; exact rfl)
  ((refine im_dt (fun _ => ?_)); (try (exfalso; omega)))
  ((refine ao_region ?_ (fun _ => ?_)); exact rfl)
  (apply S_fieldAddr_lo; exact rfl; exact rfl; exact rfl; exact rfl; decide; exact rfl)
  (apply S_load_lo; exact rfl; exact rfl; exact rfl; exact rfl; (first | exact rfl | exact get_map (by omega) (0 : Int) | exact get_map (by omega) default | exact hrow _ | assumption); exact rfl)
  (apply S_not; exact rfl)
  (apply S_fieldAddr_lo; exact rfl; exact rfl; exact rfl; exact rfl; decide; exact rfl)
  (apply S_store; exact rfl; exact rfl; exact rfl; exact rfl; exact rfl; exact rfl; (first | exact rfl | exact get_map (by omega) (0 : Int) | exact get_map (by omega) default | exact get_set_ne (by omega) (by omega) (0 : Int) | assumption); exact Nat.le_of_ble_eq_true rfl)
  refine ao_nil ?_
  refine blk_n ?_
  refine then_n ?_
  refine awp_seq ?_
  ((refine ao_region ?_ (fun _ => ?_)); exact rfl)
  (apply S_fieldAddr_lo; exact rfl; exact rfl; exact rfl; exact rfl; decide; exact rfl)
  (apply S_load_lo; exact rfl; exact rfl; exact rfl; exact rfl; (first | exact rfl | exact get_map (by omega) (0 : Int) | exact get_map (by omega) default | exact hrow _ | assumption); exact rfl)
  (apply S_move; exact rfl)
  (apply S_load_loA; exact rfl; exact rfl; exact rfl; exact rfl; (first | exact rfl | exact get_map (by omega) default | exact get_set_ne (by omega) (by omega) (0 : Int) | assumption); exact Nat.le_of_ble_eq_true rfl)
  (apply S_indexAddr_os; exact rfl; exact rfl; exact rfl; exact rfl; exact rfl; exact rfl; omega)
  (apply S_store; exact rfl; exact rfl; exact rfl; exact rfl; exact rfl; exact rfl; (first | exact rfl | exact get_map (by omega) (0 : Int) | exact get_map (by omega) default | exact get_set_ne (by omega) (by omega) (0 : Int) | assumption); exact Nat.le_of_ble_eq_true rfl)
  refine ao_nil ?_
  refine then_n ?_
  iterate 2 refine awp_seq ?_
  ((refine ao_region ?_ (fun _ => ?_)); exact rfl)
  (apply S_move; exact rfl)
  (apply S_eql; exact rfl; exact rfl)
  (apply S_move; exact rfl)
  (apply spec_t; exact rfl; exact rfl)
  ((refine im_any (fun hc_ => ?_)); (try have hc1_ := (band hc_).1))
  (apply M_fieldAddr_lo; exact rfl; exact rfl; exact rfl; exact rfl; decide; (first | (refine EvM.mb _ rfl ?_; first | assumption | exact rfl) | exact EvM.plain rfl rfl))
  (apply spec_t; exact rfl; exact rfl)
  ((refine im_any (fun hc_ => ?_)); (try have hc1_ := (band hc_).1))
  (apply M_load_lo; exact rfl; exact rfl; (first | (refine EvM.mb _ rfl ?_; first | assumption | exact rfl) | exact EvM.plain rfl rfl); exact rfl; exact rfl; exact rfl)
  (apply spec_t; exact rfl; exact rfl)
  ((refine im_any (fun hc_ => ?_)); (try have hc1_ := (band hc_).1))
  (apply M_len; exact rfl; exact rfl; (first | (refine EvM.mb _ rfl ?_; first | assumption | exact rfl) | exact EvM.plain rfl rfl); (first | exact len_ints _ | exact len_map _ _ _ | exact len_sl _ _ | exact len_os _ _ _ _ | exact len_vw _ _ _ _ _ | exact len_nil))
  (apply spec_t; exact rfl; exact rfl)
  ((refine im_any (fun hc_ => ?_)); (try have hc1_ := (band hc_).1))
  (apply M_gtr; (first | (refine EvM.mb _ rfl ?_; first | assumption | exact rfl) | exact EvM.plain rfl rfl); (first | (refine EvM.mb _ rfl ?_; first | assumption | exact rfl) | exact EvM.plain rfl rfl))
  (apply S_pick_and; (first | (refine EvM.mb _ rfl ?_; first | assumption | exact rfl) | exact EvM.plain rfl rfl); (first | (refine EvB.mb _ rfl ?_; first | exact fun h => h | exact fun h => bnot_mk h | exact fun h => band_mk (by assumption) h | exact fun h => band_mk (by assumption) (bnot_mk h) | (intro h; simp_all)) | exact EvB.plain rfl); exact rfl)
  refine ao_nil ?_
  refine then_n ?_
  (apply awp_cond; exact rfl)
  refine im_at ?_
  ((refine im_dt (fun _ => ?_)); (try (exfalso; omega)))
  ((refine im_af (fun hc_ => ?_)); (try simp only [Bool.not_eq_true', Bool.not_eq_false', Bool.or_eq_true, Bool.and_eq_true, Bool.or_eq_false_iff, Bool.and_eq_false_iff, decide_eq_true_eq, decide_eq_false_iff_not, Decidable.not_not, Int.not_lt, Int.not_le, Bool.not_true, Bool.not_false, Bool.true_and, Bool.and_true, Bool.false_or, Bool.or_false, Bool.true_or, Bool.false_and, bne_eq_false_iff_eq, bne_iff_ne, beq_iff_eq, beq_eq_false_iff_ne, decide_eq_decide] at hc_))
  refine awp_skip ?_
  refine then_n ?_
  refine awp_seq ?_
  ((refine ao_region ?_ (fun _ => ?_)); exact rfl)
  (apply S_load_loA; exact rfl; exact rfl; exact rfl; exact rfl; (first | exact rfl | exact get_map (by omega) default | exact get_set_ne (by omega) (by omega) (0 : Int) | assumption); exact Nat.le_of_ble_eq_true rfl)
  (apply S_store; exact rfl; exact rfl; exact rfl; exact rfl; exact rfl; exact rfl; (first | exact rfl | exact get_map (by omega) (0 : Int) | exact get_map (by omega) default | exact get_set_ne (by omega) (by omega) (0 : Int) | assumption); exact Nat.le_of_ble_eq_true rfl)
  refine ao_nil ?_
  refine then_n ?_
  rotate_left
  ((refine im_df (fun _ => ?_)); (try (exfalso; omega)))
  refine awp_seq ?_
  ((refine ao_region ?_ (fun _ => ?_)); exact rfl)
  (apply S_eql; exact rfl; exact rfl)
  (apply S_assign; exact rfl)
  refine ao_nil ?_
  refine then_n ?_
  (apply awp_cond; exact rfl)
  ((refine im_dt (fun _ => ?_)); (try (exfalso; omega)))
  ((refine ao_region ?_ (fun _ => ?_)); exact rfl)
  (apply S_move; exact rfl)
  (apply S_sub64; exact rfl; exact rfl; omega)
  (apply S_move; exact rfl)
  (apply S_sub64; exact rfl; exact rfl; omega)
  (apply S_fieldAddr_lo; exact rfl; exact rfl; exact rfl; exact rfl; decide; exact rfl)
  (apply S_store; exact rfl; exact rfl; exact rfl; exact rfl; exact rfl; exact rfl; (first | exact rfl | exact get_map (by omega) (0 : Int) | exact get_map (by omega) default | exact get_set_ne (by omega) (by omega) (0 : Int) | assumption); exact Nat.le_of_ble_eq_true rfl)
  (apply S_fieldAddr_lo; exact rfl; exact rfl; exact rfl; exact rfl; decide; exact rfl)
  (apply S_store; exact rfl; exact rfl; exact rfl; exact rfl; exact rfl; exact rfl; (first | exact rfl | exact get_map (by omega) (0 : Int) | exact get_map (by omega) default | exact get_set_ne (by omega) (by omega) (0 : Int) | assumption); exact Nat.le_of_ble_eq_true rfl)
  refine ao_nil ?_
  refine blk_n ?_
  refine then_n ?_
  refine awp_seq ?_
  ((refine ao_region ?_ (fun _ => ?_)); exact rfl)
  (apply S_fieldAddr_lo; exact rfl; exact rfl; exact rfl; exact rfl; decide; exact rfl)
  (apply S_load_lo; exact rfl; exact rfl; exact rfl; exact rfl; (first | exact rfl | exact get_map (by omega) (0 : Int) | exact get_map (by omega) default | exact hrow _ | assumption); exact rfl)
  (apply S_move; exact rfl)
  (apply S_load_loA; exact rfl; exact rfl; exact rfl; exact rfl; (first | exact rfl | exact get_map (by omega) default | exact get_set_ne (by omega) (by omega) (0 : Int) | assumption); exact Nat.le_of_ble_eq_true rfl)
  (apply S_indexAddr_os; exact rfl; exact rfl; exact rfl; exact rfl; exact rfl; exact rfl; omega)
  (apply S_store; exact rfl; exact rfl; exact rfl; exact rfl; exact rfl; exact rfl; (first | exact rfl | exact get_map (by omega) (0 : Int) | exact get_map (by omega) default | exact get_set_ne (by omega) (by omega) (0 : Int) | assumption); exact Nat.le_of_ble_eq_true rfl)
  refine ao_nil ?_
  refine then_n ?_
  iterate 2 refine awp_seq ?_
  ((refine ao_region ?_ (fun _ => ?_)); exact rfl)
  (apply S_move; exact rfl)
  (apply S_eql; exact rfl; exact rfl)
  (apply S_move; exact rfl)
  (apply spec_t; exact rfl; exact rfl)
  ((refine im_any (fun hc_ => ?_)); (try have hc1_ := (band hc_).1))
  (apply M_fieldAddr_lo; exact rfl; exact rfl; exact rfl; exact rfl; decide; (first | (refine EvM.mb _ rfl ?_; first | assumption | exact rfl) | exact EvM.plain rfl rfl))
  (apply spec_t; exact rfl; exact rfl)
  ((refine im_any (fun hc_ => ?_)); (try have hc1_ := (band hc_).1))
  (apply M_load_lo; exact rfl; exact rfl; (first | (refine EvM.mb _ rfl ?_; first | assumption | exact rfl) | exact EvM.plain rfl rfl); exact rfl; exact rfl; exact rfl)
  (apply spec_t; exact rfl; exact rfl)
  ((refine im_any (fun hc_ => ?_)); (try have hc1_ := (band hc_).1))
  (apply M_len; exact rfl; exact rfl; (first | (refine EvM.mb _ rfl ?_; first | assumption | exact rfl) | exact EvM.plain rfl rfl); (first | exact len_ints _ | exact len_map _ _ _ | exact len_sl _ _ | exact len_os _ _ _ _ | exact len_vw _ _ _ _ _ | exact len_nil))
  (apply spec_t; exact rfl; exact rfl)
  ((refine im_any (fun hc_ => ?_)); (try have hc1_ := (band hc_).1))
  (apply M_gtr; (first | (refine EvM.mb _ rfl ?_; first | assumption | exact rfl) | exact EvM.plain rfl rfl); (first | (refine EvM.mb _ rfl ?_; first | assumption | exact rfl) | exact EvM.plain rfl rfl))
  (apply S_pick_and; (first | (refine EvM.mb _ rfl ?_; first | assumption | exact rfl) | exact EvM.plain rfl rfl); (first | (refine EvB.mb _ rfl ?_; first | exact fun h => h | exact fun h => bnot_mk h | exact fun h => band_mk (by assumption) h | exact fun h => band_mk (by assumption) (bnot_mk h) | (intro h; simp_all)) | exact EvB.plain rfl); exact rfl)
  refine ao_nil ?_
  refine then_n ?_
  (apply awp_cond; exact rfl)
  refine im_at ?_
  ((refine im_dt (fun _ => ?_)); (try (exfalso; omega)))
  ((refine im_af (fun hc_ => ?_)); (try simp only [Bool.not_eq_true', Bool.not_eq_false', Bool.or_eq_true, Bool.and_eq_true, Bool.or_eq_false_iff, Bool.and_eq_false_iff, decide_eq_true_eq, decide_eq_false_iff_not, Decidable.not_not, Int.not_lt, Int.not_le, Bool.not_true, Bool.not_false, Bool.true_and, Bool.and_true, Bool.false_or, Bool.or_false, Bool.true_or, Bool.false_and, bne_eq_false_iff_eq, bne_iff_ne, beq_iff_eq, beq_eq_false_iff_ne, decide_eq_decide] at hc_))
  refine awp_skip ?_
  refine then_n ?_
  refine awp_seq ?_
  ((refine ao_region ?_ (fun _ => ?_)); exact rfl)
  (apply S_load_loA; exact rfl; exact rfl; exact rfl; exact rfl; (first | exact rfl | exact get_map (by omega) default | exact get_set_ne (by omega) (by omega) (0 : Int) | assumption); exact Nat.le_of_ble_eq_true rfl)
  (apply S_store; exact rfl; exact rfl; exact rfl; exact rfl; exact rfl; exact rfl; (first | exact rfl | exact get_map (by omega) (0 : Int) | exact get_map (by omega) default | exact get_set_ne (by omega) (by omega) (0 : Int) | assumption); exact Nat.le_of_ble_eq_true rfl)
  refine ao_nil ?_
  refine then_n ?_
  rotate_left
  ((refine im_df (fun _ => ?_)); (try (exfalso; omega)))
  refine awp_seq ?_
  ((refine ao_region ?_ (fun _ => ?_)); exact rfl)
  (apply S_eql; exact rfl; exact rfl)
  (apply S_assign; exact rfl)
  refine ao_nil ?_
  refine then_n ?_
  (apply awp_cond; exact rfl)
  ((refine im_dt (fun _ => ?_)); (try (exfalso; omega)))
  ((refine ao_region ?_ (fun _ => ?_)); exact rfl)
  iterate 2 (apply S_move; exact rfl)
  (apply S_sub64; exact rfl; exact rfl; omega)
  (apply S_buildSliceF; assumption; exact rfl; exact rfl; exact rfl; decide; decide; decide; exact rfl; exact rfl; (repeat (first | exact FzR.nil | exact FzR.ints _ | exact FzR.d _ | exact hfz _ | exact FzC.map _ | exact FzC.nil | apply FzR.take | apply FzR.drop | apply FzR.app | apply FzR.cons | apply FzC.cons | assumption)); (first | rfl | (first | omega | (simp only [List.length_append, List.length_map, List.length_take, List.length_drop, List.length_cons, List.length_nil, List.length_replicate, chop_length] <;> omega))))
  (apply S_fieldAddr_lo; exact rfl; exact rfl; exact rfl; exact rfl; decide; exact rfl)
  (apply S_store; exact rfl; exact rfl; exact rfl; exact rfl; exact rfl; exact rfl; (first | exact rfl | exact get_map (by omega) (0 : Int) | exact get_map (by omega) default | exact get_set_ne (by omega) (by omega) (0 : Int) | assumption); exact Nat.le_of_ble_eq_true rfl)
  refine ao_nil ?_
  refine blk_n ?_
  refine then_n ?_
  refine awp_seq ?_
  ((refine ao_region ?_ (fun _ => ?_)); exact rfl)
  (apply S_fieldAddr_lo; exact rfl; exact rfl; exact rfl; exact rfl; decide; exact rfl)
  (apply S_load_lo; exact rfl; exact rfl; exact rfl; exact rfl; (first | exact rfl | exact get_map (by omega) (0 : Int) | exact get_map (by omega) default | exact hrow _ | assumption); exact rfl)
  (apply S_move; exact rfl)
  (apply S_load_loA; exact rfl; exact rfl; exact rfl; exact rfl; (first | exact rfl | exact get_map (by omega) default | exact get_set_ne (by omega) (by omega) (0 : Int) | assumption); exact Nat.le_of_ble_eq_true rfl)
  (apply S_indexAddr_os; exact rfl; exact rfl; exact rfl; exact rfl; exact rfl; exact rfl; omega)
  (apply S_store; exact rfl; exact rfl; exact rfl; exact rfl; exact rfl; exact rfl; (first | exact rfl | exact get_map (by omega) (0 : Int) | exact get_map (by omega) default | exact get_set_ne (by omega) (by omega) (0 : Int) | assumption); exact Nat.le_of_ble_eq_true rfl)
  refine ao_nil ?_
  refine then_n ?_
  iterate 2 refine awp_seq ?_
  ((refine ao_region ?_ (fun _ => ?_)); exact rfl)
  (apply S_move; exact rfl)
  (apply S_eql; exact rfl; exact rfl)
  (apply S_move; exact rfl)
  (apply spec_t; exact rfl; exact rfl)
  ((refine im_any (fun hc_ => ?_)); (try have hc1_ := (band hc_).1))
  (apply M_fieldAddr_lo; exact rfl; exact rfl; exact rfl; exact rfl; decide; (first | (refine EvM.mb _ rfl ?_; first | assumption | exact rfl) | exact EvM.plain rfl rfl))
  (apply spec_t; exact rfl; exact rfl)
  ((refine im_any (fun hc_ => ?_)); (try have hc1_ := (band hc_).1))
  (apply M_load_lo; exact rfl; exact rfl; (first | (refine EvM.mb _ rfl ?_; first | assumption | exact rfl) | exact EvM.plain rfl rfl); exact rfl; exact rfl; exact rfl)
  (apply spec_t; exact rfl; exact rfl)
  ((refine im_any (fun hc_ => ?_)); (try have hc1_ := (band hc_).1))
  (apply M_len; exact rfl; exact rfl; (first | (refine EvM.mb _ rfl ?_; first | assumption | exact rfl) | exact EvM.plain rfl rfl); (first | exact len_ints _ | exact len_map _ _ _ | exact len_sl _ _ | exact len_os _ _ _ _ | exact len_vw _ _ _ _ _ | exact len_nil))
  (apply spec_t; exact rfl; exact rfl)
  ((refine im_any (fun hc_ => ?_)); (try have hc1_ := (band hc_).1))
  (apply M_gtr; (first | (refine EvM.mb _ rfl ?_; first | assumption | exact rfl) | exact EvM.plain rfl rfl); (first | (refine EvM.mb _ rfl ?_; first | assumption | exact rfl) | exact EvM.plain rfl rfl))
  (apply S_pick_and; (first | (refine EvM.mb _ rfl ?_; first | assumption | exact rfl) | exact EvM.plain rfl rfl); (first | (refine EvB.mb _ rfl ?_; first | exact fun h => h | exact fun h => bnot_mk h | exact fun h => band_mk (by assumption) h | exact fun h => band_mk (by assumption) (bnot_mk h) | (intro h; simp_all)) | exact EvB.plain rfl); exact rfl)
  refine ao_nil ?_
  refine then_n ?_
  (apply awp_cond; exact rfl)
  refine im_at ?_
  ((refine im_dt (fun _ => ?_)); (try (exfalso; omega)))
  ((refine im_af (fun hc_ => ?_)); (try simp only [Bool.not_eq_true', Bool.not_eq_false', Bool.or_eq_true, Bool.and_eq_true, Bool.or_eq_false_iff, Bool.and_eq_false_iff, decide_eq_true_eq, decide_eq_false_iff_not, Decidable.not_not, Int.not_lt, Int.not_le, Bool.not_true, Bool.not_false, Bool.true_and, Bool.and_true, Bool.false_or, Bool.or_false, Bool.true_or, Bool.false_and, bne_eq_false_iff_eq, bne_iff_ne, beq_iff_eq, beq_eq_false_iff_ne, decide_eq_decide] at hc_))
  refine awp_skip ?_
  refine then_n ?_
  refine awp_seq ?_
  ((refine ao_region ?_ (fun _ => ?_)); exact rfl)
  (apply S_load_loA; exact rfl; exact rfl; exact rfl; exact rfl; (first | exact rfl | exact get_map (by omega) default | exact get_set_ne (by omega) (by omega) (0 : Int) | assumption); exact Nat.le_of_ble_eq_true rfl)
  (apply S_store; exact rfl; exact rfl; exact rfl; exact rfl; exact rfl; exact rfl; (first | exact rfl | exact get_map (by omega) (0 : Int) | exact get_map (by omega) default | exact get_set_ne (by omega) (by omega) (0 : Int) | assumption); exact Nat.le_of_ble_eq_true rfl)
  refine ao_nil ?_
  refine then_n ?_
  rotate_left
  ((refine im_df (fun _ => ?_)); (try (exfalso; omega)))
  refine awp_seq ?_
  ((refine ao_region ?_ (fun _ => ?_)); exact rfl)
  (apply S_eql; exact rfl; exact rfl)
  (apply S_assign; exact rfl)
  refine ao_nil ?_
  refine then_n ?_
  (apply awp_cond; exact rfl)
  ((refine im_dt (fun _ => ?_)); (try (exfalso; omega)))
  ((refine ao_region ?_ (fun _ => ?_)); exact rfl)
  iterate 2 (apply S_move; exact rfl)
  (apply S_sub64; exact rfl; exact rfl; omega)
  iterate 2 (apply S_move; exact rfl)
  (apply S_sub64; exact rfl; exact rfl; omega)
  (apply S_buildSliceF; assumption; exact rfl; exact rfl; exact rfl; decide; decide; decide; exact rfl; exact rfl; (repeat (first | exact FzR.nil | exact FzR.ints _ | exact FzR.d _ | exact hfz _ | exact FzC.map _ | exact FzC.nil | apply FzR.take | apply FzR.drop | apply FzR.app | apply FzR.cons | apply FzC.cons | assumption)); (first | rfl | (first | omega | (simp only [List.length_append, List.length_map, List.length_take, List.length_drop, List.length_cons, List.length_nil, List.length_replicate, chop_length] <;> omega))))
  (apply S_fieldAddr_lo; exact rfl; exact rfl; exact rfl; exact rfl; decide; exact rfl)
  (apply S_store; exact rfl; exact rfl; exact rfl; exact rfl; exact rfl; exact rfl; (first | exact rfl | exact get_map (by omega) (0 : Int) | exact get_map (by omega) default | exact get_set_ne (by omega) (by omega) (0 : Int) | assumption); exact Nat.le_of_ble_eq_true rfl)
  refine ao_nil ?_
  refine blk_n ?_
  refine then_n ?_
  refine awp_seq ?_
  ((refine ao_region ?_ (fun _ => ?_)); exact rfl)
  (apply S_fieldAddr_lo; exact rfl; exact rfl; exact rfl; exact rfl; decide; exact rfl)
  (apply S_load_lo; exact rfl; exact rfl; exact rfl; exact rfl; (first | exact rfl | exact get_map (by omega) (0 : Int) | exact get_map (by omega) default | exact hrow _ | assumption); exact rfl)
  (apply S_move; exact rfl)
  (apply S_load_loA; exact rfl; exact rfl; exact rfl; exact rfl; (first | exact rfl | exact get_map (by omega) default | exact get_set_ne (by omega) (by omega) (0 : Int) | assumption); exact Nat.le_of_ble_eq_true rfl)
  (apply S_indexAddr_os; exact rfl; exact rfl; exact rfl; exact rfl; exact rfl; exact rfl; omega)
  (apply S_store; exact rfl; exact rfl; exact rfl; exact rfl; exact rfl; exact rfl; (first | exact rfl | exact get_map (by omega) (0 : Int) | exact get_map (by omega) default | exact get_set_ne (by omega) (by omega) (0 : Int) | assumption); exact Nat.le_of_ble_eq_true rfl)
  refine ao_nil ?_
  refine then_n ?_
  iterate 2 refine awp_seq ?_
  ((refine ao_region ?_ (fun _ => ?_)); exact rfl)
  (apply S_move; exact rfl)
  (apply S_eql; exact rfl; exact rfl)
  (apply S_move; exact rfl)
  (apply spec_t; exact rfl; exact rfl)
  ((refine im_any (fun hc_ => ?_)); (try have hc1_ := (band hc_).1))
  (apply M_fieldAddr_lo; exact rfl; exact rfl; exact rfl; exact rfl; decide; (first | (refine EvM.mb _ rfl ?_; first | assumption | exact rfl) | exact EvM.plain rfl rfl))
  (apply spec_t; exact rfl; exact rfl)
  ((refine im_any (fun hc_ => ?_)); (try have hc1_ := (band hc_).1))
  (apply M_load_lo; exact rfl; exact rfl; (first | (refine EvM.mb _ rfl ?_; first | assumption | exact rfl) | exact EvM.plain rfl rfl); exact rfl; exact rfl; exact rfl)
  (apply spec_t; exact rfl; exact rfl)
  ((refine im_any (fun hc_ => ?_)); (try have hc1_ := (band hc_).1))
  (apply M_len; exact rfl; exact rfl; (first | (refine EvM.mb _ rfl ?_; first | assumption | exact rfl) | exact EvM.plain rfl rfl); (first | exact len_ints _ | exact len_map _ _ _ | exact len_sl _ _ | exact len_os _ _ _ _ | exact len_vw _ _ _ _ _ | exact len_nil))
  (apply spec_t; exact rfl; exact rfl)
  ((refine im_any (fun hc_ => ?_)); (try have hc1_ := (band hc_).1))
  (apply M_gtr; (first | (refine EvM.mb _ rfl ?_; first | assumption | exact rfl) | exact EvM.plain rfl rfl); (first | (refine EvM.mb _ rfl ?_; first | assumption | exact rfl) | exact EvM.plain rfl rfl))
  (apply S_pick_and; (first | (refine EvM.mb _ rfl ?_; first | assumption | exact rfl) | exact EvM.plain rfl rfl); (first | (refine EvB.mb _ rfl ?_; first | exact fun h => h | exact fun h => bnot_mk h | exact fun h => band_mk (by assumption) h | exact fun h => band_mk (by assumption) (bnot_mk h) | (intro h; simp_all)) | exact EvB.plain rfl); exact rfl)
  refine ao_nil ?_
  refine then_n ?_
  (apply awp_cond; exact rfl)
  refine im_at ?_
  ((refine im_dt (fun _ => ?_)); (try (exfalso; omega)))
  ((refine im_af (fun hc_ => ?_)); (try simp only [Bool.not_eq_true', Bool.not_eq_false', Bool.or_eq_true, Bool.and_eq_true, Bool.or_eq_false_iff, Bool.and_eq_false_iff, decide_eq_true_eq, decide_eq_false_iff_not, Decidable.not_not, Int.not_lt, Int.not_le, Bool.not_true, Bool.not_false, Bool.true_and, Bool.and_true, Bool.false_or, Bool.or_false, Bool.true_or, Bool.false_and, bne_eq_false_iff_eq, bne_iff_ne, beq_iff_eq, beq_eq_false_iff_ne, decide_eq_decide] at hc_))
  refine awp_skip ?_
  refine then_n ?_
  refine awp_seq ?_
  ((refine ao_region ?_ (fun _ => ?_)); exact rfl)
  (apply S_load_loA; exact rfl; exact rfl; exact rfl; exact rfl; (first | exact rfl | exact get_map (by omega) default | exact get_set_ne (by omega) (by omega) (0 : Int) | assumption); exact Nat.le_of_ble_eq_true rfl)
  (apply S_store; exact rfl; exact rfl; exact rfl; exact rfl; exact rfl; exact rfl; (first | exact rfl | exact get_map (by omega) (0 : Int) | exact get_map (by omega) default | exact get_set_ne (by omega) (by omega) (0 : Int) | assumption); exact Nat.le_of_ble_eq_true rfl)
  refine ao_nil ?_
  refine then_n ?_
  rotate_left
  ((refine im_df (fun _ => ?_)); (try (exfalso; omega)))
  refine awp_seq ?_
  ((refine ao_region ?_ (fun _ => ?_)); exact rfl)
  (apply S_eql; exact rfl; exact rfl)
  (apply S_assign; exact rfl)
  refine ao_nil ?_
  refine then_n ?_
  (apply awp_cond; exact rfl)
  ((refine im_dt (fun _ => ?_)); (try (exfalso; omega)))
  ((refine ao_region ?_ (fun _ => ?_)); exact rfl)
  iterate 2 (apply S_move; exact rfl)
  (apply S_sub64; exact rfl; exact rfl; omega)
  iterate 2 (apply S_move; exact rfl)
  (apply S_sub64; exact rfl; exact rfl; omega)
  (apply S_add64; exact rfl; exact rfl; omega)
  (apply S_buildSliceF; assumption; exact rfl; exact rfl; exact rfl; decide; decide; decide; exact rfl; exact rfl; (repeat (first | exact FzR.nil | exact FzR.ints _ | exact FzR.d _ | exact hfz _ | exact FzC.map _ | exact FzC.nil | apply FzR.take | apply FzR.drop | apply FzR.app | apply FzR.cons | apply FzC.cons | assumption)); (first | rfl | (first | omega | (simp only [List.length_append, List.length_map, List.length_take, List.length_drop, List.length_cons, List.length_nil, List.length_replicate, chop_length] <;> omega))))
  (apply S_fieldAddr_lo; exact rfl; exact rfl; exact rfl; exact rfl; decide; exact rfl)
  (apply S_store; exact rfl; exact rfl; exact rfl; exact rfl; exact rfl; exact rfl; (first | exact rfl | exact get_map (by omega) (0 : Int) | exact get_map (by omega) default | exact get_set_ne (by omega) (by omega) (0 : Int) | assumption); exact Nat.le_of_ble_eq_true rfl)
  refine ao_nil ?_
  refine blk_n ?_
  refine then_n ?_
  refine awp_seq ?_
  ((refine ao_region ?_ (fun _ => ?_)); exact rfl)
  (apply S_fieldAddr_lo; exact rfl; exact rfl; exact rfl; exact rfl; decide; exact rfl)
  (apply S_load_lo; exact rfl; exact rfl; exact rfl; exact rfl; (first | exact rfl | exact get_map (by omega) (0 : Int) | exact get_map (by omega) default | exact hrow _ | assumption); exact rfl)
  (apply S_move; exact rfl)
  (apply S_load_loA; exact rfl; exact rfl; exact rfl; exact rfl; (first | exact rfl | exact get_map (by omega) default | exact get_set_ne (by omega) (by omega) (0 : Int) | assumption); exact Nat.le_of_ble_eq_true rfl)
  (apply S_indexAddr_os; exact rfl; exact rfl; exact rfl; exact rfl; exact rfl; exact rfl; omega)
  (apply S_store; exact rfl; exact rfl; exact rfl; exact rfl; exact rfl; exact rfl; (first | exact rfl | exact get_map (by omega) (0 : Int) | exact get_map (by omega) default | exact get_set_ne (by omega) (by omega) (0 : Int) | assumption); exact Nat.le_of_ble_eq_true rfl)
  refine ao_nil ?_
  refine then_n ?_
  iterate 2 refine awp_seq ?_
  ((refine ao_region ?_ (fun _ => ?_)); exact rfl)
  (apply S_move; exact rfl)
  (apply S_eql; exact rfl; exact rfl)
  (apply S_move; exact rfl)
  (apply spec_t; exact rfl; exact rfl)
  ((refine im_any (fun hc_ => ?_)); (try have hc1_ := (band hc_).1))
  (apply M_fieldAddr_lo; exact rfl; exact rfl; exact rfl; exact rfl; decide; (first | (refine EvM.mb _ rfl ?_; first | assumption | exact rfl) | exact EvM.plain rfl rfl))
  (apply spec_t; exact rfl; exact rfl)
  ((refine im_any (fun hc_ => ?_)); (try have hc1_ := (band hc_).1))
  (apply M_load_lo; exact rfl; exact rfl; (first | (refine EvM.mb _ rfl ?_; first | assumption | exact rfl) | exact EvM.plain rfl rfl); exact rfl; exact rfl; exact rfl)
  (apply spec_t; exact rfl; exact rfl)
  ((refine im_any (fun hc_ => ?_)); (try have hc1_ := (band hc_).1))
  (apply M_len; exact rfl; exact rfl; (first | (refine EvM.mb _ rfl ?_; first | assumption | exact rfl) | exact EvM.plain rfl rfl); (first | exact len_ints _ | exact len_map _ _ _ | exact len_sl _ _ | exact len_os _ _ _ _ | exact len_vw _ _ _ _ _ | exact len_nil))
  (apply spec_t; exact rfl; exact rfl)
  ((refine im_any (fun hc_ => ?_)); (try have hc1_ := (band hc_).1))
  (apply M_gtr; (first | (refine EvM.mb _ rfl ?_; first | assumption | exact rfl) | exact EvM.plain rfl rfl); (first | (refine EvM.mb _ rfl ?_; first | assumption | exact rfl) | exact EvM.plain rfl rfl))
  (apply S_pick_and; (first | (refine EvM.mb _ rfl ?_; first | assumption | exact rfl) | exact EvM.plain rfl rfl); (first | (refine EvB.mb _ rfl ?_; first | exact fun h => h | exact fun h => bnot_mk h | exact fun h => band_mk (by assumption) h | exact fun h => band_mk (by assumption) (bnot_mk h) | (intro h; simp_all)) | exact EvB.plain rfl); exact rfl)
  refine ao_nil ?_
  refine then_n ?_
  (apply awp_cond; exact rfl)
  refine im_at ?_
  ((refine im_dt (fun _ => ?_)); (try (exfalso; omega)))
  ((refine im_af (fun hc_ => ?_)); (try simp only [Bool.not_eq_true', Bool.not_eq_false', Bool.or_eq_true, Bool.and_eq_true, Bool.or_eq_false_iff, Bool.and_eq_false_iff, decide_eq_true_eq, decide_eq_false_iff_not, Decidable.not_not, Int.not_lt, Int.not_le, Bool.not_true, Bool.not_false, Bool.true_and, Bool.and_true, Bool.false_or, Bool.or_false, Bool.true_or, Bool.false_and, bne_eq_false_iff_eq, bne_iff_ne, beq_iff_eq, beq_eq_false_iff_ne, decide_eq_decide] at hc_))
  refine awp_skip ?_
  refine then_n ?_
  refine awp_seq ?_
  ((refine ao_region ?_ (fun _ => ?_)); exact rfl)
  (apply S_load_loA; exact rfl; exact rfl; exact rfl; exact rfl; (first | exact rfl | exact get_map (by omega) default | exact get_set_ne (by omega) (by omega) (0 : Int) | assumption); exact Nat.le_of_ble_eq_true rfl)
  (apply S_store; exact rfl; exact rfl; exact rfl; exact rfl; exact rfl; exact rfl; (first | exact rfl | exact get_map (by omega) (0 : Int) | exact get_map (by omega) default | exact get_set_ne (by omega) (by omega) (0 : Int) | assumption); exact Nat.le_of_ble_eq_true rfl)
  refine ao_nil ?_
  refine then_n ?_
  rotate_left
  ((refine im_df (fun _ => ?_)); (try (exfalso; omega)))
  refine awp_seq ?_
  ((refine ao_region ?_ (fun _ => ?_)); exact rfl)
  (apply S_eql; exact rfl; exact rfl)
  (apply S_assign; exact rfl)
  refine ao_nil ?_
  refine then_n ?_
  (apply awp_cond; exact rfl)
  ((refine im_dt (fun _ => ?_)); (try (exfalso; omega)))
  refine awp_seq ?_
  ((refine ao_region ?_ (fun _ => ?_)); exact rfl)
  (apply S_move; exact rfl)
  (apply S_fieldAddr_lo; exact rfl; exact rfl; exact rfl; exact rfl; decide; exact rfl)
  (apply S_load_lo; exact rfl; exact rfl; exact rfl; exact rfl; (first | exact rfl | exact get_map (by omega) (0 : Int) | exact get_map (by omega) default | exact hrow _ | assumption); exact rfl)
  (apply S_len; exact rfl; exact rfl; exact rfl; (first | exact len_ints _ | exact len_map _ _ _ | exact len_sl _ _ | exact len_os _ _ _ _ | exact len_vw _ _ _ _ _ | exact len_nil))
  (apply S_lss; exact rfl; exact rfl)
  refine ao_nil ?_
  refine then_n ?_
  (apply awp_cond; exact rfl)
  ((refine im_dt (fun _ => ?_)); (try (exfalso; omega)))
  ((refine ao_region ?_ (fun _ => ?_)); exact rfl)
  (apply S_fieldAddr_lo; exact rfl; exact rfl; exact rfl; exact rfl; decide; exact rfl)
  (apply S_load_lo; exact rfl; exact rfl; exact rfl; exact rfl; (first | exact rfl | exact get_map (by omega) (0 : Int) | exact get_map (by omega) default | exact hrow _ | assumption); exact rfl)
  iterate 2 (apply S_move; exact rfl)
  (apply S_sub64; exact rfl; exact rfl; omega)
  (apply S_indexAddr_os; exact rfl; exact rfl; exact rfl; exact rfl; exact rfl; exact rfl; omega)
  (apply S_store; exact rfl; exact rfl; exact rfl; exact rfl; exact rfl; exact rfl; (first | exact rfl | exact get_map (by omega) (0 : Int) | exact get_map (by omega) default | exact get_set_ne (by omega) (by omega) (0 : Int) | assumption); exact Nat.le_of_ble_eq_true rfl)
  refine ao_nil ?_
  refine blk_n ?_
  refine then_n ?_
  refine awp_seq ?_
  ((refine ao_region ?_ (fun _ => ?_)); exact rfl)
  (apply S_fieldAddr_lo; exact rfl; exact rfl; exact rfl; exact rfl; decide; exact rfl)
  (apply S_load_lo; exact rfl; exact rfl; exact rfl; exact rfl; (first | exact rfl | exact get_map (by omega) (0 : Int) | exact get_map (by omega) default | exact hrow _ | assumption); exact rfl)
  (apply S_move; exact rfl)
  (apply S_load_loA; exact rfl; exact rfl; exact rfl; exact rfl; (first | exact rfl | exact get_map (by omega) default | exact get_set_ne (by omega) (by omega) (0 : Int) | assumption); exact Nat.le_of_ble_eq_true rfl)
  (apply S_indexAddr_os; exact rfl; exact rfl; exact rfl; exact rfl; exact rfl; exact rfl; omega)
  (apply S_store; exact rfl; exact rfl; exact rfl; exact rfl; exact rfl; exact rfl; (first | exact rfl | exact get_map (by omega) (0 : Int) | exact get_map (by omega) default | exact get_set_ne (by omega) (by omega) (0 : Int) | assumption); exact Nat.le_of_ble_eq_true rfl)
  refine ao_nil ?_
  refine then_n ?_
  iterate 2 refine awp_seq ?_
  ((refine ao_region ?_ (fun _ => ?_)); exact rfl)
  (apply S_move; exact rfl)
  (apply S_eql; exact rfl; exact rfl)
  (apply S_move; exact rfl)
  (apply spec_t; exact rfl; exact rfl)
  ((refine im_any (fun hc_ => ?_)); (try have hc1_ := (band hc_).1))
  (apply M_fieldAddr_lo; exact rfl; exact rfl; exact rfl; exact rfl; decide; (first | (refine EvM.mb _ rfl ?_; first | assumption | exact rfl) | exact EvM.plain rfl rfl))
  (apply spec_t; exact rfl; exact rfl)
  ((refine im_any (fun hc_ => ?_)); (try have hc1_ := (band hc_).1))
  (apply M_load_lo; exact rfl; exact rfl; (first | (refine EvM.mb _ rfl ?_; first | assumption | exact rfl) | exact EvM.plain rfl rfl); exact rfl; exact rfl; exact rfl)
  (apply spec_t; exact rfl; exact rfl)
  ((refine im_any (fun hc_ => ?_)); (try have hc1_ := (band hc_).1))
  (apply M_len; exact rfl; exact rfl; (first | (refine EvM.mb _ rfl ?_; first | assumption | exact rfl) | exact EvM.plain rfl rfl); (first | exact len_ints _ | exact len_map _ _ _ | exact len_sl _ _ | exact len_os _ _ _ _ | exact len_vw _ _ _ _ _ | exact len_nil))
  (apply spec_t; exact rfl; exact rfl)
  ((refine im_any (fun hc_ => ?_)); (try have hc1_ := (band hc_).1))
  (apply M_gtr; (first | (refine EvM.mb _ rfl ?_; first | assumption | exact rfl) | exact EvM.plain rfl rfl); (first | (refine EvM.mb _ rfl ?_; first | assumption | exact rfl) | exact EvM.plain rfl rfl))
  (apply S_pick_and; (first | (refine EvM.mb _ rfl ?_; first | assumption | exact rfl) | exact EvM.plain rfl rfl); (first | (refine EvB.mb _ rfl ?_; first | exact fun h => h | exact fun h => bnot_mk h | exact fun h => band_mk (by assumption) h | exact fun h => band_mk (by assumption) (bnot_mk h) | (intro h; simp_all)) | exact EvB.plain rfl); exact rfl)
  refine ao_nil ?_
  refine then_n ?_
  (apply awp_cond; exact rfl)
  refine im_at ?_
  ((refine im_dt (fun _ => ?_)); (try (exfalso; omega)))
  ((refine im_af (fun hc_ => ?_)); (try simp only [Bool.not_eq_true', Bool.not_eq_false', Bool.or_eq_true, Bool.and_eq_true, Bool.or_eq_false_iff, Bool.and_eq_false_iff, decide_eq_true_eq, decide_eq_false_iff_not, Decidable.not_not, Int.not_lt, Int.not_le, Bool.not_true, Bool.not_false, Bool.true_and, Bool.and_true, Bool.false_or, Bool.or_false, Bool.true_or, Bool.false_and, bne_eq_false_iff_eq, bne_iff_ne, beq_iff_eq, beq_eq_false_iff_ne, decide_eq_decide] at hc_))
  refine awp_skip ?_
  refine then_n ?_
  refine awp_seq ?_
  ((refine ao_region ?_ (fun _ => ?_)); exact rfl)
  (apply S_load_loA; exact rfl; exact rfl; exact rfl; exact rfl; (first | exact rfl | exact get_map (by omega) default | exact get_set_ne (by omega) (by omega) (0 : Int) | assumption); exact Nat.le_of_ble_eq_true rfl)
  (apply S_store; exact rfl; exact rfl; exact rfl; exact rfl; exact rfl; exact rfl; (first | exact rfl | exact get_map (by omega) (0 : Int) | exact get_map (by omega) default | exact get_set_ne (by omega) (by omega) (0 : Int) | assumption); exact Nat.le_of_ble_eq_true rfl)
  refine ao_nil ?_
  refine then_n ?_
  rotate_left
  ((refine im_df (fun _ => ?_)); (try (exfalso; omega)))
  refine awp_skip ?_
  refine blk_n ?_
  refine then_n ?_
  refine awp_seq ?_
  ((refine ao_region ?_ (fun _ => ?_)); exact rfl)
  (apply S_fieldAddr_lo; exact rfl; exact rfl; exact rfl; exact rfl; decide; exact rfl)
  (apply S_load_lo; exact rfl; exact rfl; exact rfl; exact rfl; (first | exact rfl | exact get_map (by omega) (0 : Int) | exact get_map (by omega) default | exact hrow _ | assumption); exact rfl)
  (apply S_move; exact rfl)
  (apply S_load_loA; exact rfl; exact rfl; exact rfl; exact rfl; (first | exact rfl | exact get_map (by omega) default | exact get_set_ne (by omega) (by omega) (0 : Int) | assumption); exact Nat.le_of_ble_eq_true rfl)
  (apply S_indexAddr_os; exact rfl; exact rfl; exact rfl; exact rfl; exact rfl; exact rfl; omega)
  (apply S_store; exact rfl; exact rfl; exact rfl; exact rfl; exact rfl; exact rfl; (first | exact rfl | exact get_map (by omega) (0 : Int) | exact get_map (by omega) default | exact get_set_ne (by omega) (by omega) (0 : Int) | assumption); exact Nat.le_of_ble_eq_true rfl)
  refine ao_nil ?_
  refine then_n ?_
  iterate 2 refine awp_seq ?_
  ((refine ao_region ?_ (fun _ => ?_)); exact rfl)
  (apply S_move; exact rfl)
  (apply S_eql; exact rfl; exact rfl)
  (apply S_move; exact rfl)
  (apply spec_t; exact rfl; exact rfl)
  ((refine im_any (fun hc_ => ?_)); (try have hc1_ := (band hc_).1))
  (apply M_fieldAddr_lo; exact rfl; exact rfl; exact rfl; exact rfl; decide; (first | (refine EvM.mb _ rfl ?_; first | assumption | exact rfl) | exact EvM.plain rfl rfl))
  (apply spec_t; exact rfl; exact rfl)
  ((refine im_any (fun hc_ => ?_)); (try have hc1_ := (band hc_).1))
  (apply M_load_lo; exact rfl; exact rfl; (first | (refine EvM.mb _ rfl ?_; first | assumption | exact rfl) | exact EvM.plain rfl rfl); exact rfl; exact rfl; exact rfl)
  (apply spec_t; exact rfl; exact rfl)
  ((refine im_any (fun hc_ => ?_)); (try have hc1_ := (band hc_).1))
  (apply M_len; exact rfl; exact rfl; (first | (refine EvM.mb _ rfl ?_; first | assumption | exact rfl) | exact EvM.plain rfl rfl); (first | exact len_ints _ | exact len_map _ _ _ | exact len_sl _ _ | exact len_os _ _ _ _ | exact len_vw _ _ _ _ _ | exact len_nil))
  (apply spec_t; exact rfl; exact rfl)
  ((refine im_any (fun hc_ => ?_)); (try have hc1_ := (band hc_).1))
  (apply M_gtr; (first | (refine EvM.mb _ rfl ?_; first | assumption | exact rfl) | exact EvM.plain rfl rfl); (first | (refine EvM.mb _ rfl ?_; first | assumption | exact rfl) | exact EvM.plain rfl rfl))
  (apply S_pick_and; (first | (refine EvM.mb _ rfl ?_; first | assumption | exact rfl) | exact EvM.plain rfl rfl); (first | (refine EvB.mb _ rfl ?_; first | exact fun h => h | exact fun h => bnot_mk h | exact fun h => band_mk (by assumption) h | exact fun h => band_mk (by assumption) (bnot_mk h) | (intro h; simp_all)) | exact EvB.plain rfl); exact rfl)
  refine ao_nil ?_
  refine then_n ?_
  (apply awp_cond; exact rfl)
  refine im_at ?_
  ((refine im_dt (fun _ => ?_)); (try (exfalso; omega)))
  ((refine im_af (fun hc_ => ?_)); (try simp only [Bool.not_eq_true', Bool.not_eq_false', Bool.or_eq_true, Bool.and_eq_true, Bool.or_eq_false_iff, Bool.and_eq_false_iff, decide_eq_true_eq, decide_eq_false_iff_not, Decidable.not_not, Int.not_lt, Int.not_le, Bool.not_true, Bool.not_false, Bool.true_and, Bool.and_true, Bool.false_or, Bool.or_false, Bool.true_or, Bool.false_and, bne_eq_false_iff_eq, bne_iff_ne, beq_iff_eq, beq_eq_false_iff_ne, decide_eq_decide] at hc_))
  refine awp_skip ?_
  refine then_n ?_
  refine awp_seq ?_
  ((refine ao_region ?_ (fun _ => ?_)); exact rfl)
  (apply S_load_loA; exact rfl; exact rfl; exact rfl; exact rfl; (first | exact rfl | exact get_map (by omega) default | exact get_set_ne (by omega) (by omega) (0 : Int) | assumption); exact Nat.le_of_ble_eq_true rfl)
  (apply S_store; exact rfl; exact rfl; exact rfl; exact rfl; exact rfl; exact rfl; (first | exact rfl | exact get_map (by omega) (0 : Int) | exact get_map (by omega) default | exact get_set_ne (by omega) (by omega) (0 : Int) | assumption); exact Nat.le_of_ble_eq_true rfl)
  refine ao_nil ?_
  refine then_n ?_
  rotate_left
  ((refine im_df (fun _ => ?_)); (try (exfalso; omega)))
  refine awp_seq ?_
  ((refine ao_region ?_ (fun _ => ?_)); exact rfl)
  (apply S_eql; exact rfl; exact rfl)
  (apply S_assign; exact rfl)
  refine ao_nil ?_
  refine then_n ?_
  (apply awp_cond; exact rfl)
  ((refine im_dt (fun _ => ?_)); (try (exfalso; omega)))
  refine awp_seq ?_
  ((refine ao_region ?_ (fun _ => ?_)); exact rfl)
  (apply S_move; exact rfl)
  (apply S_fieldAddr_lo; exact rfl; exact rfl; exact rfl; exact rfl; decide; exact rfl)
  (apply S_load_lo; exact rfl; exact rfl; exact rfl; exact rfl; (first | exact rfl | exact get_map (by omega) (0 : Int) | exact get_map (by omega) default | exact hrow _ | assumption); exact rfl)
  (apply S_len; exact rfl; exact rfl; exact rfl; (first | exact len_ints _ | exact len_map _ _ _ | exact len_sl _ _ | exact len_os _ _ _ _ | exact len_vw _ _ _ _ _ | exact len_nil))
  (apply S_lss; exact rfl; exact rfl)
  refine ao_nil ?_
  refine then_n ?_
  (apply awp_cond; exact rfl)
  ((refine im_dt (fun _ => ?_)); (try (exfalso; omega)))
  ((refine ao_region ?_ (fun _ => ?_)); exact rfl)
  (apply S_fieldAddr_lo; exact rfl; exact rfl; exact rfl; exact rfl; decide; exact rfl)
  (apply S_load_lo; exact rfl; exact rfl; exact rfl; exact rfl; (first | exact rfl | exact get_map (by omega) (0 : Int) | exact get_map (by omega) default | exact hrow _ | assumption); exact rfl)
  iterate 2 (apply S_move; exact rfl)
  (apply S_indexAddr_os; exact rfl; exact rfl; exact rfl; exact rfl; exact rfl; exact rfl; omega)
  (apply S_store; exact rfl; exact rfl; exact rfl; exact rfl; exact rfl; exact rfl; (first | exact rfl | exact get_map (by omega) (0 : Int) | exact get_map (by omega) default | exact get_set_ne (by omega) (by omega) (0 : Int) | assumption); exact Nat.le_of_ble_eq_true rfl)
  refine ao_nil ?_
  refine blk_n ?_
  refine then_n ?_
  refine awp_seq ?_
  ((refine ao_region ?_ (fun _ => ?_)); exact rfl)
  (apply S_fieldAddr_lo; exact rfl; exact rfl; exact rfl; exact rfl; decide; exact rfl)
  (apply S_load_lo; exact rfl; exact rfl; exact rfl; exact rfl; (first | exact rfl | exact get_map (by omega) (0 : Int) | exact get_map (by omega) default | exact hrow _ | assumption); exact rfl)
  (apply S_move; exact rfl)
  (apply S_load_loA; exact rfl; exact rfl; exact rfl; exact rfl; (first | exact rfl | exact get_map (by omega) default | exact get_set_ne (by omega) (by omega) (0 : Int) | assumption); exact Nat.le_of_ble_eq_true rfl)
  (apply S_indexAddr_os; exact rfl; exact rfl; exact rfl; exact rfl; exact rfl; exact rfl; omega)
  (apply S_store; exact rfl; exact rfl; exact rfl; exact rfl; exact rfl; exact rfl; (first | exact rfl | exact get_map (by omega) (0 : Int) | exact get_map (by omega) default | exact get_set_ne (by omega) (by omega) (0 : Int) | assumption); exact Nat.le_of_ble_eq_true rfl)
  refine ao_nil ?_
  refine then_n ?_
  iterate 2 refine awp_seq ?_
  ((refine ao_region ?_ (fun _ => ?_)); exact rfl)
  (apply S_move; exact rfl)
  (apply S_eql; exact rfl; exact rfl)
  (apply S_move; exact rfl)
  (apply spec_t; exact rfl; exact rfl)
  ((refine im_any (fun hc_ => ?_)); (try have hc1_ := (band hc_).1))
  (apply M_fieldAddr_lo; exact rfl; exact rfl; exact rfl; exact rfl; decide; (first | (refine EvM.mb _ rfl ?_; first | assumption | exact rfl) | exact EvM.plain rfl rfl))
  (apply spec_t; exact rfl; exact rfl)
  ((refine im_any (fun hc_ => ?_)); (try have hc1_ := (band hc_).1))
  (apply M_load_lo; exact rfl; exact rfl; (first | (refine EvM.mb _ rfl ?_; first | assumption | exact rfl) | exact EvM.plain rfl rfl); exact rfl; exact rfl; exact rfl)
  (apply spec_t; exact rfl; exact rfl)
  ((refine im_any (fun hc_ => ?_)); (try have hc1_ := (band hc_).1))
  (apply M_len; exact rfl; exact rfl; (first | (refine EvM.mb _ rfl ?_; first | assumption | exact rfl) | exact EvM.plain rfl rfl); (first | exact len_ints _ | exact len_map _ _ _ | exact len_sl _ _ | exact len_os _ _ _ _ | exact len_vw _ _ _ _ _ | exact len_nil))
  (apply spec_t; exact rfl; exact rfl)
  ((refine im_any (fun hc_ => ?_)); (try have hc1_ := (band hc_).1))
  (apply M_gtr; (first | (refine EvM.mb _ rfl ?_; first | assumption | exact rfl) | exact EvM.plain rfl rfl); (first | (refine EvM.mb _ rfl ?_; first | assumption | exact rfl) | exact EvM.plain rfl rfl))
  (apply S_pick_and; (first | (refine EvM.mb _ rfl ?_; first | assumption | exact rfl) | exact EvM.plain rfl rfl); (first | (refine EvB.mb _ rfl ?_; first | exact fun h => h | exact fun h => bnot_mk h | exact fun h => band_mk (by assumption) h | exact fun h => band_mk (by assumption) (bnot_mk h) | (intro h; simp_all)) | exact EvB.plain rfl); exact rfl)
  refine ao_nil ?_
  refine then_n ?_
  (apply awp_cond; exact rfl)
  refine im_at ?_
  ((refine im_dt (fun _ => ?_)); (try (exfalso; omega)))
  ((refine im_af (fun hc_ => ?_)); (try simp only [Bool.not_eq_true', Bool.not_eq_false', Bool.or_eq_true, Bool.and_eq_true, Bool.or_eq_false_iff, Bool.and_eq_false_iff, decide_eq_true_eq, decide_eq_false_iff_not, Decidable.not_not, Int.not_lt, Int.not_le, Bool.not_true, Bool.not_false, Bool.true_and, Bool.and_true, Bool.false_or, Bool.or_false, Bool.true_or, Bool.false_and, bne_eq_false_iff_eq, bne_iff_ne, beq_iff_eq, beq_eq_false_iff_ne, decide_eq_decide] at hc_))
  refine awp_skip ?_
  refine then_n ?_
  refine awp_seq ?_
  ((refine ao_region ?_ (fun _ => ?_)); exact rfl)
  (apply S_load_loA; exact rfl; exact rfl; exact rfl; exact rfl; (first | exact rfl | exact get_map (by omega) default | exact get_set_ne (by omega) (by omega) (0 : Int) | assumption); exact Nat.le_of_ble_eq_true rfl)
  (apply S_store; exact rfl; exact rfl; exact rfl; exact rfl; exact rfl; exact rfl; (first | exact rfl | exact get_map (by omega) (0 : Int) | exact get_map (by omega) default | exact get_set_ne (by omega) (by omega) (0 : Int) | assumption); exact Nat.le_of_ble_eq_true rfl)
  refine ao_nil ?_
  refine then_n ?_
  rotate_left
  ((refine im_df (fun _ => ?_)); (try (exfalso; omega)))
  refine awp_skip ?_
  refine blk_n ?_
  refine then_n ?_
  refine awp_seq ?_
  ((refine ao_region ?_ (fun _ => ?_)); exact rfl)
  (apply S_fieldAddr_lo; exact rfl; exact rfl; exact rfl; exact rfl; decide; exact rfl)
  (apply S_load_lo; exact rfl; exact rfl; exact rfl; exact rfl; (first | exact rfl | exact get_map (by omega) (0 : Int) | exact get_map (by omega) default | exact hrow _ | assumption); exact rfl)
  (apply S_move; exact rfl)
  (apply S_load_loA; exact rfl; exact rfl; exact rfl; exact rfl; (first | exact rfl | exact get_map (by omega) default | exact get_set_ne (by omega) (by omega) (0 : Int) | assumption); exact Nat.le_of_ble_eq_true rfl)
  (apply S_indexAddr_os; exact rfl; exact rfl; exact rfl; exact rfl; exact rfl; exact rfl; omega)
  (apply S_store; exact rfl; exact rfl; exact rfl; exact rfl; exact rfl; exact rfl; (first | exact rfl | exact get_map (by omega) (0 : Int) | exact get_map (by omega) default | exact get_set_ne (by omega) (by omega) (0 : Int) | assumption); exact Nat.le_of_ble_eq_true rfl)
  refine ao_nil ?_
  refine then_n ?_
  iterate 2 refine awp_seq ?_
  ((refine ao_region ?_ (fun _ => ?_)); exact rfl)
  (apply S_move; exact rfl)
  (apply S_eql; exact rfl; exact rfl)
  (apply S_move; exact rfl)
  (apply spec_t; exact rfl; exact rfl)
  ((refine im_any (fun hc_ => ?_)); (try have hc1_ := (band hc_).1))
  (apply M_fieldAddr_lo; exact rfl; exact rfl; exact rfl; exact rfl; decide; (first | (refine EvM.mb _ rfl ?_; first | assumption | exact rfl) | exact EvM.plain rfl rfl))
  (apply spec_t; exact rfl; exact rfl)
  ((refine im_any (fun hc_ => ?_)); (try have hc1_ := (band hc_).1))
  (apply M_load_lo; exact rfl; exact rfl; (first | (refine EvM.mb _ rfl ?_; first | assumption | exact rfl) | exact EvM.plain rfl rfl); exact rfl; exact rfl; exact rfl)
  (apply spec_t; exact rfl; exact rfl)
  ((refine im_any (fun hc_ => ?_)); (try have hc1_ := (band hc_).1))
  (apply M_len; exact rfl; exact rfl; (first | (refine EvM.mb _ rfl ?_; first | assumption | exact rfl) | exact EvM.plain rfl rfl); (first | exact len_ints _ | exact len_map _ _ _ | exact len_sl _ _ | exact len_os _ _ _ _ | exact len_vw _ _ _ _ _ | exact len_nil))
  (apply spec_t; exact rfl; exact rfl)
  ((refine im_any (fun hc_ => ?_)); (try have hc1_ := (band hc_).1))
  (apply M_gtr; (first | (refine EvM.mb _ rfl ?_; first | assumption | exact rfl) | exact EvM.plain rfl rfl); (first | (refine EvM.mb _ rfl ?_; first | assumption | exact rfl) | exact EvM.plain rfl rfl))
  (apply S_pick_and; (first | (refine EvM.mb _ rfl ?_; first | assumption | exact rfl) | exact EvM.plain rfl rfl); (first | (refine EvB.mb _ rfl ?_; first | exact fun h => h | exact fun h => bnot_mk h | exact fun h => band_mk (by assumption) h | exact fun h => band_mk (by assumption) (bnot_mk h) | (intro h; simp_all)) | exact EvB.plain rfl); exact rfl)
  refine ao_nil ?_
  refine then_n ?_
  (apply awp_cond; exact rfl)
  refine im_at ?_
  ((refine im_dt (fun _ => ?_)); (try (exfalso; omega)))
  ((refine im_af (fun hc_ => ?_)); (try simp only [Bool.not_eq_true', Bool.not_eq_false', Bool.or_eq_true, Bool.and_eq_true, Bool.or_eq_false_iff, Bool.and_eq_false_iff, decide_eq_true_eq, decide_eq_false_iff_not, Decidable.not_not, Int.not_lt, Int.not_le, Bool.not_true, Bool.not_false, Bool.true_and, Bool.and_true, Bool.false_or, Bool.or_false, Bool.true_or, Bool.false_and, bne_eq_false_iff_eq, bne_iff_ne, beq_iff_eq, beq_eq_false_iff_ne, decide_eq_decide] at hc_))
  refine awp_skip ?_
  refine then_n ?_
  refine awp_seq ?_
  ((refine ao_region ?_ (fun _ => ?_)); exact rfl)
  (apply S_load_loA; exact rfl; exact rfl; exact rfl; exact rfl; (first | exact rfl | exact get_map (by omega) default | exact get_set_ne (by omega) (by omega) (0 : Int) | assumption); exact Nat.le_of_ble_eq_true rfl)
  (apply S_store; exact rfl; exact rfl; exact rfl; exact rfl; exact rfl; exact rfl; (first | exact rfl | exact get_map (by omega) (0 : Int) | exact get_map (by omega) default | exact get_set_ne (by omega) (by omega) (0 : Int) | assumption); exact Nat.le_of_ble_eq_true rfl)
  refine ao_nil ?_
  refine then_n ?_
  rotate_left
  ((refine im_df (fun _ => ?_)); (try (exfalso; omega)))
  refine awp_skip ?_
  refine blk_n ?_
  refine then_n ?_
  refine awp_seq ?_
  ((refine ao_region ?_ (fun _ => ?_)); exact rfl)
  (apply S_fieldAddr_lo; exact rfl; exact rfl; exact rfl; exact rfl; decide; exact rfl)
  (apply S_load_lo; exact rfl; exact rfl; exact rfl; exact rfl; (first | exact rfl | exact get_map (by omega) (0 : Int) | exact get_map (by omega) default | exact hrow _ | assumption); exact rfl)
  (apply S_move; exact rfl)
  (apply S_load_loA; exact rfl; exact rfl; exact rfl; exact rfl; (first | exact rfl | exact get_map (by omega) default | exact get_set_ne (by omega) (by omega) (0 : Int) | assumption); exact Nat.le_of_ble_eq_true rfl)
  (apply S_indexAddr_os; exact rfl; exact rfl; exact rfl; exact rfl; exact rfl; exact rfl; omega)
  (apply S_store; exact rfl; exact rfl; exact rfl; exact rfl; exact rfl; exact rfl; (first | exact rfl | exact get_map (by omega) (0 : Int) | exact get_map (by omega) default | exact get_set_ne (by omega) (by omega) (0 : Int) | assumption); exact Nat.le_of_ble_eq_true rfl)
  refine ao_nil ?_
  refine then_n ?_
  iterate 2 refine awp_seq ?_
  ((refine ao_region ?_ (fun _ => ?_)); exact rfl)
  (apply S_move; exact rfl)
  (apply S_eql; exact rfl; exact rfl)
  (apply S_move; exact rfl)
  (apply spec_t; exact rfl; exact rfl)
  ((refine im_any (fun hc_ => ?_)); (try have hc1_ := (band hc_).1))
  (apply M_fieldAddr_lo; exact rfl; exact rfl; exact rfl; exact rfl; decide; (first | (refine EvM.mb _ rfl ?_; first | assumption | exact rfl) | exact EvM.plain rfl rfl))
  (apply spec_t; exact rfl; exact rfl)
  ((refine im_any (fun hc_ => ?_)); (try have hc1_ := (band hc_).1))
  (apply M_load_lo; exact rfl; exact rfl; (first | (refine EvM.mb _ rfl ?_; first | assumption | exact rfl) | exact EvM.plain rfl rfl); exact rfl; exact rfl; exact rfl)
  (apply spec_t; exact rfl; exact rfl)
  ((refine im_any (fun hc_ => ?_)); (try have hc1_ := (band hc_).1))
  (apply M_len; exact rfl; exact rfl; (first | (refine EvM.mb _ rfl ?_; first | assumption | exact rfl) | exact EvM.plain rfl rfl); (first | exact len_ints _ | exact len_map _ _ _ | exact len_sl _ _ | exact len_os _ _ _ _ | exact len_vw _ _ _ _ _ | exact len_nil))
  (apply spec_t; exact rfl; exact rfl)
  ((refine im_any (fun hc_ => ?_)); (try have hc1_ := (band hc_).1))
  (apply M_gtr; (first | (refine EvM.mb _ rfl ?_; first | assumption | exact rfl) | exact EvM.plain rfl rfl); (first | (refine EvM.mb _ rfl ?_; first | assumption | exact rfl) | exact EvM.plain rfl rfl))
  (apply S_pick_and; (first | (refine EvM.mb _ rfl ?_; first | assumption | exact rfl) | exact EvM.plain rfl rfl); (first | (refine EvB.mb _ rfl ?_; first | exact fun h => h | exact fun h => bnot_mk h | exact fun h => band_mk (by assumption) h | exact fun h => band_mk (by assumption) (bnot_mk h) | (intro h; simp_all)) | exact EvB.plain rfl); exact rfl)
  refine ao_nil ?_
  refine then_n ?_
  (apply awp_cond; exact rfl)
  refine im_at ?_
  iterate 2 ((refine im_dt (fun _ => ?_)); (try (exfalso; omega)))
  ((refine im_af (fun hc_ => ?_)); (try simp only [Bool.not_eq_true', Bool.not_eq_false', Bool.or_eq_true, Bool.and_eq_true, Bool.or_eq_false_iff, Bool.and_eq_false_iff, decide_eq_true_eq, decide_eq_false_iff_not, Decidable.not_not, Int.not_lt, Int.not_le, Bool.not_true, Bool.not_false, Bool.true_and, Bool.and_true, Bool.false_or, Bool.or_false, Bool.true_or, Bool.false_and, bne_eq_false_iff_eq, bne_iff_ne, beq_iff_eq, beq_eq_false_iff_ne, decide_eq_decide] at hc_))
  refine awp_skip ?_
  refine then_n ?_
  refine awp_seq ?_
  ((refine ao_region ?_ (fun _ => ?_)); exact rfl)
  (apply S_load_loA; exact rfl; exact rfl; exact rfl; exact rfl; (first | exact rfl | exact get_map (by omega) default | exact get_set_ne (by omega) (by omega) (0 : Int) | assumption); exact Nat.le_of_ble_eq_true rfl)
  (apply S_store; exact rfl; exact rfl; exact rfl; exact rfl; exact rfl; exact rfl; (first | exact rfl | exact get_map (by omega) (0 : Int) | exact get_map (by omega) default | exact get_set_ne (by omega) (by omega) (0 : Int) | assumption); exact Nat.le_of_ble_eq_true rfl)
  refine ao_nil ?_
  refine then_n ?_
  rotate_left
  · refine fin_0 (x.evs.set i { x.evs.getD i default with kind := bye }) x.from_ rfl rfl rfl rfl ?_ ?_ ?_ ?_ ?_
    · rw [List.map_set]; rfl
    · first | rfl | (rw [List.map_set]; rfl)
    · simp
    · simp
    · exact good_set hx (by obtain ⟨⟨w1, w2, w3, w4, w5, w6, w7⟩, w8, w9, w10, w11, w12, w13⟩ := he; refine ⟨⟨?_, ?_, ?_, ?_, ?_, ?_, ?_⟩, ?_, ?_, ?_, ?_, ?_, ?_⟩ <;> first | assumption | exact wrapU _ | rfl | (dsimp only; omega) | exact Nat.le_of_ble_eq_true rfl) i (by first | omega | (simp; omega)) (by simp) (by simp)
  · refine fin_0 (x.evs.set i { x.evs.getD i default with hart := bye - 2 }) x.from_ rfl rfl rfl rfl ?_ ?_ ?_ ?_ ?_
    · rw [List.map_set]; rfl
    · first | rfl | (rw [List.map_set]; rfl)
    · simp
    · simp
    · exact good_set hx (by obtain ⟨⟨w1, w2, w3, w4, w5, w6, w7⟩, w8, w9, w10, w11, w12, w13⟩ := he; refine ⟨⟨?_, ?_, ?_, ?_, ?_, ?_, ?_⟩, ?_, ?_, ?_, ?_, ?_, ?_⟩ <;> first | assumption | exact wrapU _ | rfl | (dsimp only; omega) | exact Nat.le_of_ble_eq_true rfl) i (by first | omega | (simp; omega)) (by simp) (by simp)
  · refine fin_0 (x.evs.set i { x.evs.getD i default with addr := IntKind.u32.wrap ((x.evs.getD i default).addr + bye) }) x.from_ rfl rfl rfl rfl ?_ ?_ ?_ ?_ ?_
    · rw [List.map_set]; rfl
    · first | rfl | (rw [List.map_set]; rfl)
    · simp
    · simp
    · exact good_set hx (by obtain ⟨⟨w1, w2, w3, w4, w5, w6, w7⟩, w8, w9, w10, w11, w12, w13⟩ := he; refine ⟨⟨?_, ?_, ?_, ?_, ?_, ?_, ?_⟩, ?_, ?_, ?_, ?_, ?_, ?_⟩ <;> first | assumption | exact wrapU _ | rfl | (dsimp only; omega) | exact Nat.le_of_ble_eq_true rfl) i (by first | omega | (simp; omega)) (by simp) (by simp)
  · refine fin_0 (x.evs.set i { x.evs.getD i default with val := IntKind.u32.wrap ((x.evs.getD i default).val + bye) }) x.from_ rfl rfl rfl rfl ?_ ?_ ?_ ?_ ?_
    · rw [List.map_set]; rfl
    · first | rfl | (rw [List.map_set]; rfl)
    · simp
    · simp
    · exact good_set hx (by obtain ⟨⟨w1, w2, w3, w4, w5, w6, w7⟩, w8, w9, w10, w11, w12, w13⟩ := he; refine ⟨⟨?_, ?_, ?_, ?_, ?_, ?_, ?_⟩, ?_, ?_, ?_, ?_, ?_, ?_⟩ <;> first | assumption | exact wrapU _ | rfl | (dsimp only; omega) | exact Nat.le_of_ble_eq_true rfl) i (by first | omega | (simp; omega)) (by simp) (by simp)
  · refine fin_0 (x.evs.set i { x.evs.getD i default with rval := IntKind.u32.wrap ((x.evs.getD i default).rval + bye) }) x.from_ rfl rfl rfl rfl ?_ ?_ ?_ ?_ ?_
    · rw [List.map_set]; rfl
    · first | rfl | (rw [List.map_set]; rfl)
    · simp
    · simp
    · exact good_set hx (by obtain ⟨⟨w1, w2, w3, w4, w5, w6, w7⟩, w8, w9, w10, w11, w12, w13⟩ := he; refine ⟨⟨?_, ?_, ?_, ?_, ?_, ?_, ?_⟩, ?_, ?_, ?_, ?_, ?_, ?_⟩ <;> first | assumption | exact wrapU _ | rfl | (dsimp only; omega) | exact Nat.le_of_ble_eq_true rfl) i (by first | omega | (simp; omega)) (by simp) (by simp)
  · refine fin_0 (x.evs.set i { x.evs.getD i default with aq := !(x.evs.getD i default).aq }) x.from_ rfl rfl rfl rfl ?_ ?_ ?_ ?_ ?_
    · rw [List.map_set]; rfl
    · first | rfl | (rw [List.map_set]; rfl)
    · simp
    · simp
    · exact good_set hx (by obtain ⟨⟨w1, w2, w3, w4, w5, w6, w7⟩, w8, w9, w10, w11, w12, w13⟩ := he; refine ⟨⟨?_, ?_, ?_, ?_, ?_, ?_, ?_⟩, ?_, ?_, ?_, ?_, ?_, ?_⟩ <;> first | assumption | exact wrapU _ | rfl | (dsimp only; omega) | exact Nat.le_of_ble_eq_true rfl) i (by first | omega | (simp; omega)) (by simp) (by simp)
  · refine fin_0 (x.evs.set i { x.evs.getD i default with rl := !(x.evs.getD i default).rl }) x.from_ rfl rfl rfl rfl ?_ ?_ ?_ ?_ ?_
    · rw [List.map_set]; rfl
    · first | rfl | (rw [List.map_set]; rfl)
    · simp
    · simp
    · exact good_set hx (by obtain ⟨⟨w1, w2, w3, w4, w5, w6, w7⟩, w8, w9, w10, w11, w12, w13⟩ := he; refine ⟨⟨?_, ?_, ?_, ?_, ?_, ?_, ?_⟩, ?_, ?_, ?_, ?_, ?_, ?_⟩ <;> first | assumption | exact wrapU _ | rfl | (dsimp only; omega) | exact Nat.le_of_ble_eq_true rfl) i (by first | omega | (simp; omega)) (by simp) (by simp)
  · refine fin_0 (x.evs.set i { x.evs.getD i default with rsv := !(x.evs.getD i default).rsv }) x.from_ rfl rfl rfl rfl ?_ ?_ ?_ ?_ ?_
    · rw [List.map_set]; rfl
    · first | rfl | (rw [List.map_set]; rfl)
    · simp
    · simp
    · exact good_set hx (by obtain ⟨⟨w1, w2, w3, w4, w5, w6, w7⟩, w8, w9, w10, w11, w12, w13⟩ := he; refine ⟨⟨?_, ?_, ?_, ?_, ?_, ?_, ?_⟩, ?_, ?_, ?_, ?_, ?_, ?_⟩ <;> first | assumption | exact wrapU _ | rfl | (dsimp only; omega) | exact Nat.le_of_ble_eq_true rfl) i (by first | omega | (simp; omega)) (by simp) (by simp)
  · refine fin_0 (x.evs.set i { x.evs.getD i default with pred := bye - 1, succ := bye - 2 }) x.from_ rfl rfl rfl rfl ?_ ?_ ?_ ?_ ?_
    · rw [List.map_set]; rfl
    · first | rfl | (rw [List.map_set]; rfl)
    · simp
    · simp
    · exact good_set hx (by obtain ⟨⟨w1, w2, w3, w4, w5, w6, w7⟩, w8, w9, w10, w11, w12, w13⟩ := he; refine ⟨⟨?_, ?_, ?_, ?_, ?_, ?_, ?_⟩, ?_, ?_, ?_, ?_, ?_, ?_⟩ <;> first | assumption | exact wrapU _ | rfl | (dsimp only; omega) | exact Nat.le_of_ble_eq_true rfl) i (by first | omega | (simp; omega)) (by simp) (by simp)
  · refine fin_0 (x.evs.set i { x.evs.getD i default with addrs := [(i : Int) - bye], av := ⟨none, 1, 0⟩ }) x.from_ rfl rfl rfl rfl ?_ ?_ ?_ ?_ ?_
    · rw [List.map_set]; rfl
    · first | rfl | (rw [List.map_set]; rfl)
    · simp
    · simp
    · exact good_set hx (by obtain ⟨⟨w1, w2, w3, w4, w5, w6, w7⟩, w8, w9, w10, w11, w12, w13⟩ := he; refine ⟨⟨?_, ?_, ?_, ?_, ?_, ?_, ?_⟩, ?_, ?_, ?_, ?_, ?_, ?_⟩ <;> first | assumption | exact wrapU _ | rfl | (dsimp only; omega) | exact Nat.le_of_ble_eq_true rfl) i (by first | omega | (simp; omega)) (by simp) (by simp)
  · refine fin_0 (x.evs.set i { x.evs.getD i default with datas := [(i : Int) - bye, (i : Int) - bye], dv := ⟨none, 2, 0⟩ }) x.from_ rfl rfl rfl rfl ?_ ?_ ?_ ?_ ?_
    · rw [List.map_set]; rfl
    · first | rfl | (rw [List.map_set]; rfl)
    · simp
    · simp
    · exact good_set hx (by obtain ⟨⟨w1, w2, w3, w4, w5, w6, w7⟩, w8, w9, w10, w11, w12, w13⟩ := he; refine ⟨⟨?_, ?_, ?_, ?_, ?_, ?_, ?_⟩, ?_, ?_, ?_, ?_, ?_, ?_⟩ <;> first | assumption | exact wrapU _ | rfl | (dsimp only; omega) | exact Nat.le_of_ble_eq_true rfl) i (by first | omega | (simp; omega)) (by simp) (by simp)
  · refine fin_0 (x.evs.set i { x.evs.getD i default with ctrls := [(i : Int) - bye, (i : Int) - bye + 1], cv := ⟨none, 2, 0⟩ }) x.from_ rfl rfl rfl rfl ?_ ?_ ?_ ?_ ?_
    · rw [List.map_set]; rfl
    · first | rfl | (rw [List.map_set]; rfl)
    · simp
    · simp
    · exact good_set hx (by obtain ⟨⟨w1, w2, w3, w4, w5, w6, w7⟩, w8, w9, w10, w11, w12, w13⟩ := he; refine ⟨⟨?_, ?_, ?_, ?_, ?_, ?_, ?_⟩, ?_, ?_, ?_, ?_, ?_, ?_⟩ <;> first | assumption | exact wrapU _ | rfl | (dsimp only; omega) | exact Nat.le_of_ble_eq_true rfl) i (by first | omega | (simp; omega)) (by simp) (by simp)
  · refine fin_0 (x.evs.set i (x.evs.getD i default)) (x.from_.set i (bye - 1)) rfl rfl rfl rfl ?_ ?_ ?_ ?_ ?_
    · rw [List.map_set]; rfl
    · first | rfl | (rw [List.map_set]; rfl)
    · simp
    · simp
    · exact good_set hx (by obtain ⟨⟨w1, w2, w3, w4, w5, w6, w7⟩, w8, w9, w10, w11, w12, w13⟩ := he; refine ⟨⟨?_, ?_, ?_, ?_, ?_, ?_, ?_⟩, ?_, ?_, ?_, ?_, ?_, ?_⟩ <;> first | assumption | exact wrapU _ | rfl | (dsimp only; omega) | exact Nat.le_of_ble_eq_true rfl) i (by first | omega | (simp; omega)) (by simp) (by simp)
  · refine fin_0 (x.evs.set i (x.evs.getD i default)) x.from_ rfl rfl rfl rfl ?_ ?_ ?_ ?_ ?_
    · rw [List.map_set]; rfl
    · first | rfl | (rw [List.map_set]; rfl)
    · simp
    · simp
    · exact good_set hx (by obtain ⟨⟨w1, w2, w3, w4, w5, w6, w7⟩, w8, w9, w10, w11, w12, w13⟩ := he; refine ⟨⟨?_, ?_, ?_, ?_, ?_, ?_, ?_⟩, ?_, ?_, ?_, ?_, ?_, ?_⟩ <;> first | assumption | exact wrapU _ | rfl | (dsimp only; omega) | exact Nat.le_of_ble_eq_true rfl) i (by first | omega | (simp; omega)) (by simp) (by simp)
  · refine fin_0 (x.evs.set i (x.evs.getD i default)) (x.from_.set i i) rfl rfl rfl rfl ?_ ?_ ?_ ?_ ?_
    · rw [List.map_set]; rfl
    · first | rfl | (rw [List.map_set]; rfl)
    · simp
    · simp
    · exact good_set hx (by obtain ⟨⟨w1, w2, w3, w4, w5, w6, w7⟩, w8, w9, w10, w11, w12, w13⟩ := he; refine ⟨⟨?_, ?_, ?_, ?_, ?_, ?_, ?_⟩, ?_, ?_, ?_, ?_, ?_, ?_⟩ <;> first | assumption | exact wrapU _ | rfl | (dsimp only; omega) | exact Nat.le_of_ble_eq_true rfl) i (by first | omega | (simp; omega)) (by simp) (by simp)
  · refine fin_0 (x.evs.set i (x.evs.getD i default)) x.from_ rfl rfl rfl rfl ?_ ?_ ?_ ?_ ?_
    · rw [List.map_set]; rfl
    · first | rfl | (rw [List.map_set]; rfl)
    · simp
    · simp
    · exact good_set hx (by obtain ⟨⟨w1, w2, w3, w4, w5, w6, w7⟩, w8, w9, w10, w11, w12, w13⟩ := he; refine ⟨⟨?_, ?_, ?_, ?_, ?_, ?_, ?_⟩, ?_, ?_, ?_, ?_, ?_, ?_⟩ <;> first | assumption | exact wrapU _ | rfl | (dsimp only; omega) | exact Nat.le_of_ble_eq_true rfl) i (by first | omega | (simp; omega)) (by simp) (by simp)
  · refine fin_0 (x.evs.set i (x.evs.getD i default)) x.from_ rfl rfl rfl rfl ?_ ?_ ?_ ?_ ?_
    · rw [List.map_set]; rfl
    · first | rfl | (rw [List.map_set]; rfl)
    · simp
    · simp
    · exact good_set hx (by obtain ⟨⟨w1, w2, w3, w4, w5, w6, w7⟩, w8, w9, w10, w11, w12, w13⟩ := he; refine ⟨⟨?_, ?_, ?_, ?_, ?_, ?_, ?_⟩, ?_, ?_, ?_, ?_, ?_, ?_⟩ <;> first | assumption | exact wrapU _ | rfl | (dsimp only; omega) | exact Nat.le_of_ble_eq_true rfl) i (by first | omega | (simp; omega)) (by simp) (by simp)
end Go.Proofs.Ytgeaaegkcbjhlaa
