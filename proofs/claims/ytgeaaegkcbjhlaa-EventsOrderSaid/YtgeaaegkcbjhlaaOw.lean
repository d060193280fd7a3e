/- EventsOrder, walked in plain data. -/
import Derived.Test.YtgeaaegkcbjhlaaRj
import Derived.Test.YtgeaaegkcbjhlaaRl
import Derived.Test.YtgeaaegkcbjhlaaKw
import Derived.Test.YtgeaaegkcbjhlaaWd
set_option maxRecDepth 100000


set_option linter.unusedVariables false
set_option linter.unusedSimpArgs false
namespace Go.Proofs.Ytgeaaegkcbjhlaa
open Go.RowKit
theorem pstores_o (e : Ev) : Pure E.P 17 [evOV e] (.bool e.stB) := by
  refine fn_of_awp Try.func17 (by decide) rfl Try.ntmps17 (Nat.le_of_ble_eq_true rfl) rfl ?_
  refine awp_seq ?_
  ((refine ao_region ?_ (fun _ => ?_)); exact rfl)
  (apply S_box; exact rfl; exact rfl; exact rfl)
  (apply S_assign; exact rfl)
  refine ao_nil ?_
  refine then_n ?_
  refine awp_seq ?_
  ((refine ao_region ?_ (fun _ => ?_)); exact rfl)
  (apply S_fieldAddr_lo; exact rfl; exact rfl; exact rfl; exact rfl; decide; exact rfl)
  (apply S_load_lo; exact rfl; exact rfl; exact rfl; exact rfl; (first | exact rfl | exact get_map (by omega) (0 : Int) | exact get_map (by omega) default | exact hrow _ | assumption); exact rfl)
  (apply S_eql; exact rfl; exact rfl)
  (apply S_move; exact rfl)
  (apply spec_f; exact rfl; exact rfl)
  ((refine im_any (fun hc_ => ?_)); (try have hc1_ := (band hc_).1))
  (apply M_fieldAddr_lo; exact rfl; exact rfl; exact rfl; exact rfl; decide; (first | (refine EvM.mb _ rfl ?_; first | assumption | exact rfl) | exact EvM.plain rfl rfl))
  (apply spec_f; exact rfl; exact rfl)
  ((refine im_any (fun hc_ => ?_)); (try have hc1_ := (band hc_).1))
  (apply M_load_lo; exact rfl; exact rfl; (first | (refine EvM.mb _ rfl ?_; first | assumption | exact rfl) | exact EvM.plain rfl rfl); exact rfl; exact rfl; exact rfl)
  (apply spec_f; exact rfl; exact rfl)
  ((refine im_any (fun hc_ => ?_)); (try have hc1_ := (band hc_).1))
  (apply M_eql; (first | (refine EvM.mb _ rfl ?_; first | assumption | exact rfl) | exact EvM.plain rfl rfl); (first | (refine EvM.mb _ rfl ?_; first | assumption | exact rfl) | exact EvM.plain rfl rfl))
  (apply S_pick_or; (first | (refine EvM.mb _ rfl ?_; first | assumption | exact rfl) | exact EvM.plain rfl rfl); exact rfl; (first | (refine EvB.mb _ rfl ?_; first | exact fun h => h | exact fun h => bnot_mk h | exact fun h => band_mk (by assumption) h | exact fun h => band_mk (by assumption) (bnot_mk h) | (intro h; simp_all)) | exact EvB.plain rfl))
  (apply S_move; exact rfl)
  (apply spec_f; exact rfl; exact rfl)
  ((refine im_any (fun hc_ => ?_)); (try have hc1_ := (band hc_).1))
  (apply M_fieldAddr_lo; exact rfl; exact rfl; exact rfl; exact rfl; decide; (first | (refine EvM.mb _ rfl ?_; first | assumption | exact rfl) | exact EvM.plain rfl rfl))
  (apply spec_f; exact rfl; exact rfl)
  ((refine im_any (fun hc_ => ?_)); (try have hc1_ := (band hc_).1))
  (apply M_load_lo; exact rfl; exact rfl; (first | (refine EvM.mb _ rfl ?_; first | assumption | exact rfl) | exact EvM.plain rfl rfl); exact rfl; exact rfl; exact rfl)
  (apply spec_f; exact rfl; exact rfl)
  ((refine im_any (fun hc_ => ?_)); (try have hc1_ := (band hc_).1))
  (apply M_eql; (first | (refine EvM.mb _ rfl ?_; first | assumption | exact rfl) | exact EvM.plain rfl rfl); (first | (refine EvM.mb _ rfl ?_; first | assumption | exact rfl) | exact EvM.plain rfl rfl))
  (apply S_pick_or; (first | (refine EvM.mb _ rfl ?_; first | assumption | exact rfl) | exact EvM.plain rfl rfl); exact rfl; (first | (refine EvB.mb _ rfl ?_; first | exact fun h => h | exact fun h => bnot_mk h | exact fun h => band_mk (by assumption) h | exact fun h => band_mk (by assumption) (bnot_mk h) | (intro h; simp_all)) | exact EvB.plain rfl))
  (apply S_assign; exact rfl)
  refine ao_nil ?_
  refine then_n ?_
  refine awp_ret ?_
  rotate_left
  all_goals (refine done_b rfl ?_; rw [Bool.eq_iff_iff]; simp_all [Ev.stB])
/-- which pairs there are, 24 a row -/
def isB (S : List (Int × Int)) (q : Nat) : Bool := S.any fun p => decide (p.1 = ((q / 24 : Nat) : Int)) && decide (p.2 = ((q % 24 : Nat) : Int))
@[irreducible] def isRow (S : List (Int × Int)) : List OV := (List.range 576).map fun q => .bool (isB S q)
theorem isRow_len (S : List (Int × Int)) : (isRow S).length = 576 := by unfold isRow; simp
theorem isRow_get {S : List (Int × Int)} {q : Nat} (h : q < 576) : (isRow S)[q]? = some (.bool (isB S q)) := by
  unfold isRow
  rw [List.getElem?_map, List.getElem?_range h]; rfl
theorem isRow_ext {S : List (Int × Int)} {l : List OV} (hl : l.length = 576) (h : ∀ q, q < 576 → l[q]? = some (.bool (isB S q))) : l = isRow S := by
  apply List.ext_getElem?
  intro q
  by_cases hq : q < 576
  · rw [h q hq, isRow_get hq]
  · rw [List.getElem?_eq_none (by omega), List.getElem?_eq_none (by rw [isRow_len]; omega)]
theorem isRow_zero : consts te48.zero = isRow [] := by
  unfold isRow
  rfl
theorem setAt_one {l : List OV} {p q : Nat} {y : OV} (hp : p < l.length) : (setAt l p [y])[q]? = if q = p then some y else l[q]? := by
  unfold setAt
  by_cases h : q = p
  · subst h
    rw [if_pos rfl, List.append_assoc, List.getElem?_append_right (by rw [List.length_take]; omega), List.length_take]
    simp [Nat.min_eq_left (Nat.le_of_lt hp)]
  · rw [if_neg h]
    rcases Nat.lt_or_ge q p with h1 | h1
    · rw [List.append_assoc, List.getElem?_append_left (by rw [List.length_take]; omega), List.getElem?_take_of_lt h1]
    · rw [List.getElem?_append_right (by rw [List.length_append, List.length_take]; simp only [List.length_cons, List.length_nil]; omega)]
      simp only [List.length_append, List.length_take, List.length_cons, List.length_nil, List.getElem?_drop]
      congr 1
      omega
theorem isRow_set {S : List (Int × Int)} {a b : Int} (ha : 0 ≤ a ∧ a < 24) (hb : 0 ≤ b ∧ b < 24) : setAt (isRow S) (0 + a.toNat * 24 + b.toNat * 1) [.bool true] = isRow (S ++ [(a, b)]) := by
  have hp : 0 + a.toNat * 24 + b.toNat * 1 < 576 := by omega
  refine isRow_ext ?_ fun q hq => ?_
  · unfold setAt
    simp only [List.length_append, List.length_take, List.length_drop, List.length_cons, List.length_nil, isRow_len]
    omega
  · rw [setAt_one (by rw [isRow_len]; exact hp)]
    unfold isB
    rw [List.any_append]
    by_cases h : q = 0 + a.toNat * 24 + b.toNat * 1
    · rw [if_pos h]
      have h1 : a = ((q / 24 : Nat) : Int) := by omega
      have h2 : b = ((q % 24 : Nat) : Int) := by omega
      simp only [List.any_cons, List.any_nil, ← h1, ← h2]
      simp
    · rw [if_neg h, isRow_get hq]
      have h1 : (decide (a = ((q / 24 : Nat) : Int)) && decide (b = ((q % 24 : Nat) : Int))) = false := by
        rw [Bool.and_eq_false_iff]
        by_cases h2 : a = ((q / 24 : Nat) : Int)
        · right; rw [decide_eq_false_iff_not]; omega
        · left; rw [decide_eq_false_iff_not]; exact h2
      simp only [List.any_cons, List.any_nil, h1, Bool.or_false]
      rfl
theorem isB_iff {S : List (Int × Int)} {a b : Nat} (ha : a < 24) (hb : b < 24) : isB S (0 + (a : Int).toNat * 24 + (b : Int).toNat * 1) = true ↔ ((a : Int), (b : Int)) ∈ S := by
  unfold isB
  rw [List.any_eq_true]
  have h1 : (0 + (a : Int).toNat * 24 + (b : Int).toNat * 1) / 24 = a := by omega
  have h2 : (0 + (a : Int).toNat * 24 + (b : Int).toNat * 1) % 24 = b := by omega
  rw [h1, h2]
  constructor
  · rintro ⟨⟨c, d⟩, h3, h4⟩
    simp only [Bool.and_eq_true, decide_eq_true_eq] at h4
    rw [← h4.1, ← h4.2]; exact h3
  · intro h; exact ⟨_, h, by simp⟩
@[irreducible] def isTV (S : List (Int × Int)) : List TV := (List.range 576).map fun q => .c (.bool (isB S q))
theorem isTV_row (S : List (Int × Int)) : (isTV S).map .d = isRow S := by
  unfold isTV isRow
  rw [List.map_map]; rfl
theorem isTV_get {S : List (Int × Int)} {q : Nat} (h : q < 576) : (isTV S)[q]? = some (.c (.bool (isB S q))) := by
  unfold isTV
  rw [List.getElem?_map, List.getElem?_range h]; rfl
theorem co_iff {x : Ex} (hc : checkI x = 0) (h24 : x.evs.length ≤ 24) {a b : Nat} (ha : a < x.evs.length) (hb : b < x.evs.length) : isB (coF x) (0 + (a : Int).toNat * 24 + (b : Int).toNat * 1) = true ↔ ((a : Int), (b : Int)) ∈ coZ x.order := by
  rw [isB_iff (by omega) (by omega), coF, if_pos hc, mem_sortZ]
theorem ord_1 {x : Ex} (hc : checkI x = 0) (h24 : x.evs.length ≤ 24) {a b : Nat} (ha : a < x.evs.length) (hb : b < x.evs.length) :
    (!decide ((a : Int) = (b : Int)) && (x.evs.getD (a : Int).toNat default).stB && (x.evs.getD (b : Int).toNat default).stB && decide ((x.evs.getD (a : Int).toNat default).addr = (x.evs.getD (b : Int).toNat default).addr)) =
      !(isB (coF x) (0 + (a : Int).toNat * 24 + (b : Int).toNat * 1) == isB (coF x) (0 + (b : Int).toNat * 24 + (a : Int).toNat * 1)) := by
  have ho := (check_zero hc).2.2.2
  have e1 := co_iff hc h24 ha hb
  have e2 := co_iff hc h24 hb ha
  rw [Int.toNat_natCast, Int.toNat_natCast] at *
  by_cases hab : a ≠ b ∧ both x.evs a b
  · obtain ⟨hne, h1, h2, h3⟩ := hab
    have hl : (!decide ((a : Int) = (b : Int)) && (x.evs.getD a default).stB && (x.evs.getD b default).stB && decide ((x.evs.getD a default).addr = (x.evs.getD b default).addr)) = true := by
      rw [h1, h2, h3]; simp; omega
    rw [hl]
    rcases co_or ho ha hb hne ⟨h1, h2, h3⟩ with h | h
    · have h4 : ¬ ((b : Int), (a : Int)) ∈ coZ x.order := fun h' => co_one ho h h'
      rw [e1.2 h, Bool.eq_false_iff.2 (fun h' => h4 (e2.1 h'))]; rfl
    · have h4 : ¬ ((a : Int), (b : Int)) ∈ coZ x.order := fun h' => co_one ho h h'
      rw [e2.2 h, Bool.eq_false_iff.2 (fun h' => h4 (e1.1 h'))]; rfl
  · have h1 : isB (coF x) (0 + a * 24 + b * 1) = false := Bool.eq_false_iff.2 fun h' => by
      obtain ⟨_, _, h5, h6⟩ := co_is ho (e1.1 h')
      exact hab ⟨h5, h6⟩
    have h2 : isB (coF x) (0 + b * 24 + a * 1) = false := Bool.eq_false_iff.2 fun h' => by
      obtain ⟨_, _, h5, h6, h7, h8⟩ := co_is ho (e2.1 h')
      exact hab ⟨Ne.symm h5, h7, h6, h8.symm⟩
    rw [h1, h2]
    refine (Bool.eq_false_iff.2 fun h' => ?_).trans rfl
    simp only [Bool.and_eq_true, Bool.not_eq_true', decide_eq_false_iff_not, decide_eq_true_eq] at h'
    exact hab ⟨fun e => h'.1.1.1 (by rw [e]), h'.1.1.2, h'.1.2, h'.2⟩
theorem ord_2 {x : Ex} (hc : checkI x = 0) (h24 : x.evs.length ≤ 24) {a b : Nat} (ha : a < x.evs.length) (hb : b < x.evs.length) (h : isB (coF x) (0 + (a : Int).toNat * 24 + (b : Int).toNat * 1) = true) :
    ¬ (a : Int) = (b : Int) ∧ (x.evs.getD (a : Int).toNat default).stB = true ∧ (x.evs.getD (b : Int).toNat default).stB = true ∧ (x.evs.getD (a : Int).toNat default).addr = (x.evs.getD (b : Int).toNat default).addr := by
  obtain ⟨_, _, h5, h6, h7, h8⟩ := co_is (check_zero hc).2.2.2 ((co_iff hc h24 ha hb).1 h)
  exact ⟨by omega, h6, h7, h8⟩
theorem ord_3 {x : Ex} (hc : checkI x = 0) (h24 : x.evs.length ≤ 24) {a b c : Nat} (ha : a < x.evs.length) (hb : b < x.evs.length) (hcc : c < x.evs.length) (h1 : isB (coF x) (0 + (a : Int).toNat * 24 + (b : Int).toNat * 1) = true) (h2 : isB (coF x) (0 + (b : Int).toNat * 24 + (c : Int).toNat * 1) = true) :
    isB (coF x) (0 + (a : Int).toNat * 24 + (c : Int).toNat * 1) = true :=
  (co_iff hc h24 ha hcc).2 (co_trans (check_zero hc).2.2.2 ((co_iff hc h24 ha hb).1 h1) ((co_iff hc h24 hb hcc).1 h2))
theorem ord_4 {x : Ex} (hc : checkI x = 0) {p q : Int × Int} (hp : p ∈ frF x) (hq : q ∈ rfF x) (h1 : p.1 = q.2) (h2 : p.2 = q.1) : False := by
  have ho := (check_zero hc).2.2.2
  unfold frF at hp
  rw [mem_sortZ] at hp
  unfold frZ frTo fr1 at hp
  obtain ⟨r, hr, h3⟩ := List.mem_flatMap.1 hp
  rw [List.take_length] at hr
  obtain ⟨c, hcc, rfl⟩ := List.mem_map.1 h3
  obtain ⟨h4, h5⟩ := List.mem_filter.1 hcc
  simp only [frB, Bool.and_eq_true, beq_iff_eq, bne_iff_ne] at h5
  rw [rfF, if_pos hc, mem_sortZ] at hr hq
  rw [coF, if_pos hc, mem_sortZ] at h4
  obtain ⟨r1, r2⟩ := r
  obtain ⟨q1, q2⟩ := q
  obtain ⟨c1, c2⟩ := c
  obtain ⟨n, _, hn, e1, e2⟩ := mem_rfZ.1 hr
  obtain ⟨m, _, hm, f1, f2⟩ := mem_rfZ.1 hq
  dsimp only at h1 h2 h5
  have : n = m := by omega
  subst this
  have hz : c1 = c2 := by omega
  have := co_is ho (a := c1.toNat) (b := c2.toNat) (by rw [Int.toNat_of_nonneg (by omega), Int.toNat_of_nonneg (by omega)]; exact h4)
  exact this.2.2.1 (by omega)
set_option maxHeartbeats 4000000 in
theorem order_p (x : Ex) (hx : x.ok) : Pure E.P 8 [exOV x] (.bool true) := by
  refine fn_of_awp Try.func8 (by decide) rfl Try.ntmps8 (Nat.le_of_ble_eq_true rfl) rfl ?_
  refine awp_seq ?_
  ((refine ao_region ?_ (fun _ => ?_)); exact rfl)
  (apply S_box; exact rfl; exact rfl; exact rfl)
  (apply S_assign; exact rfl)
  refine ao_nil ?_
  rotate_left
  refine then_n ?_
  rename_i v0
  refine awp_freeze 1 (v0, 0) 3 [exRow x] (tmL [(1, .d (.pt (exRow x) 0))]) (stL []) rfl (fz_cons rfl (.lo 0 0 _ rfl) fz_nil) (by repeat' (first | exact fz_nil | exact fs_nil | (refine fz_cons rfl (froz_os ?_) ?_; (first | rfl | (simp; done))) | refine fz_cons rfl (.same _) ?_ | refine fs_cons (by decide) rfl (.same _) ?_)) ?_
  cases hw : wideB x with
  | true =>
    have hwp : Pure E.P 9 [exOV x] (.bool true) := hw ▸ wide_p x hx
    iterate 2 refine awp_seq ?_
    ((refine ao_region ?_ (fun _ => ?_)); exact rfl)
    (apply S_load_ptA; exact rfl; exact rfl; exact rfl; exact Nat.le_of_ble_eq_true rfl)
    ((first
      | (apply S_call; exact rfl; exact .fn _ _ _; exact rfl; (first | exact hwp | exact known_p))
      | (apply D_call; exact rfl; exact .fn _ _ _; exact rfl; (first | exact hwp | exact known_p))))
    (apply S_move; exact rfl)
    (apply guard_f; exact rfl; exact rfl)
    exact im_tf
    refine im_tt ?_
    (apply guard_f; exact rfl; exact rfl)
    exact im_tf
    refine im_tt ?_
    (apply guard_f; exact rfl; exact rfl)
    exact im_tf
    refine im_tt ?_
    (apply guard_f; exact rfl; exact rfl)
    exact im_tf
    refine im_tt ?_
    (apply S_pick_v; exact rfl)
    (apply pick_t; exact rfl)
    (apply S_move; exact rfl)
    (apply guard_f; exact rfl; exact rfl)
    exact im_tf
    refine im_tt ?_
    (apply guard_f; exact rfl; exact rfl)
    exact im_tf
    refine im_tt ?_
    (apply guard_f; exact rfl; exact rfl)
    exact im_tf
    refine im_tt ?_
    (apply S_pick_v; exact rfl)
    (apply pick_t; exact rfl)
    refine ao_nil ?_
    refine then_n ?_
    (apply awp_cond; exact rfl)
    refine im_tt ?_
    refine awp_seq ?_
    ((refine ao_region ?_ (fun _ => ?_)); exact rfl)
    ((first
      | (apply S_call; exact rfl; exact .fn _ _ _; exact rfl; (first | exact hwp | exact known_p))
      | (apply D_call; exact rfl; exact .fn _ _ _; exact rfl; (first | exact hwp | exact known_p))))
    (apply S_assign; exact rfl)
    refine ao_nil ?_
    refine then_n ?_
    refine awp_ret ?_
    refine then_r ?_
    rotate_left
    exact im_tf
    exact done_b rfl rfl
  | false =>
    have hwp : Pure E.P 9 [exOV x] (.bool false) := hw ▸ wide_p x hx
    have hfit : x.fit := ⟨hx, fun r hr => Nat.le_trans (wide_row hw r hr) (by decide)⟩
    iterate 2 refine awp_seq ?_
    ((refine ao_region ?_ (fun _ => ?_)); exact rfl)
    (apply S_load_ptA; exact rfl; exact rfl; exact rfl; exact Nat.le_of_ble_eq_true rfl)
    ((first
      | (apply S_call; exact rfl; exact .fn _ _ _; exact rfl; (first | exact hwp | exact known_p | exact check_p _ hfit.1 hfit.2))
      | (apply D_call; exact rfl; exact .fn _ _ _; exact rfl; (first | exact hwp | exact known_p | exact check_p _ hfit.1 hfit.2))))
    (apply S_move; exact rfl)
    (apply spec_f; exact rfl; exact rfl)
    ((refine im_any (fun hc_ => ?_)); (try have hc1_ := (band hc_).1))
    (apply M_fieldAddr_pt; exact rfl; exact rfl; exact rfl; exact rfl; decide; (first | (refine EvM.mb _ rfl ?_; first | assumption | exact rfl) | exact EvM.plain rfl rfl))
    (apply spec_f; exact rfl; exact rfl)
    ((refine im_any (fun hc_ => ?_)); (try have hc1_ := (band hc_).1))
    (apply M_load_pt; exact rfl; exact rfl; (first | (refine EvM.mb _ rfl ?_; first | assumption | exact rfl) | exact EvM.plain rfl rfl); exact rfl)
    (apply spec_f; exact rfl; exact rfl)
    ((refine im_any (fun hc_ => ?_)); (try have hc1_ := (band hc_).1))
    (apply M_len; exact rfl; exact rfl; (first | (refine EvM.mb _ rfl ?_; first | assumption | exact rfl) | exact EvM.plain rfl rfl); (first | exact len_ints _ | exact len_map _ _ _ | exact len_sl _ _ | exact len_os _ _ _ _ | exact len_vw _ _ _ _ _ | exact len_nil))
    (apply spec_f; exact rfl; exact rfl)
    ((refine im_any (fun hc_ => ?_)); (try have hc1_ := (band hc_).1))
    (apply M_gtr; (first | (refine EvM.mb _ rfl ?_; first | assumption | exact rfl) | exact EvM.plain rfl rfl); (first | (refine EvM.mb _ rfl ?_; first | assumption | exact rfl) | exact EvM.plain rfl rfl))
    (apply S_pick_or; (first | (refine EvM.mb _ rfl ?_; first | assumption | exact rfl) | exact EvM.plain rfl rfl); exact rfl; (first | (refine EvB.mb _ rfl ?_; first | exact fun h => h | exact fun h => bnot_mk h | exact fun h => band_mk (by assumption) h | exact fun h => band_mk (by assumption) (bnot_mk h) | (intro h; simp_all)) | exact EvB.plain rfl))
    (apply S_move; exact rfl)
    (apply spec_f; exact rfl; exact rfl)
    ((refine im_any (fun hc_ => ?_)); (try have hc1_ := (band hc_).1))
    (apply M_load_ptA; exact rfl; exact rfl; (first | (refine EvM.mb _ rfl ?_; first | assumption | exact rfl) | exact EvM.plain rfl rfl); exact Nat.le_of_ble_eq_true rfl)
    (apply spec_f; exact rfl; exact rfl)
    ((refine im_any (fun hc_ => ?_)); (try have hc1_ := (band hc_).1))
    ((have hp_ := hc_; (try simp only [Bool.not_eq_true', Bool.not_eq_false', Bool.or_eq_true, Bool.and_eq_true, Bool.or_eq_false_iff, Bool.and_eq_false_iff, decide_eq_true_eq, decide_eq_false_iff_not, Decidable.not_not, Int.not_lt, Int.not_le, Bool.not_true, Bool.not_false, Bool.true_and, Bool.and_true, Bool.false_or, Bool.or_false, Bool.true_or, Bool.false_and, bne_eq_false_iff_eq, bne_iff_ne, beq_iff_eq, beq_eq_false_iff_ne, decide_eq_decide] at hp_)))
    ((apply M_call; exact .plain rfl rfl; exact .fn _ _ _; (repeat (first | exact EvsM.nil | (apply EvsM.cons; first | (refine EvM.mb _ rfl ?_; first | assumption | exact rfl) | exact EvM.plain rfl rfl))); (first | exact hwp | exact known_p | exact check_p _ hfit.1 hfit.2)))
    (apply spec_f; exact rfl; exact rfl)
    ((refine im_any (fun hc_ => ?_)); (try have hc1_ := (band hc_).1))
    (apply M_neq; (first | (refine EvM.mb _ rfl ?_; first | assumption | exact rfl) | exact EvM.plain rfl rfl); (first | (refine EvM.mb _ rfl ?_; first | assumption | exact rfl) | exact EvM.plain rfl rfl))
    (apply S_pick_or; (first | (refine EvM.mb _ rfl ?_; first | assumption | exact rfl) | exact EvM.plain rfl rfl); exact rfl; (first | (refine EvB.mb _ rfl ?_; first | exact fun h => h | exact fun h => bnot_mk h | exact fun h => band_mk (by assumption) h | exact fun h => band_mk (by assumption) (bnot_mk h) | (intro h; simp_all)) | exact EvB.plain rfl))
    refine ao_nil ?_
    rotate_left
    refine then_n ?_
    by_cases hc : ¬ x.evs.length ≤ 24 ∨ ¬ checkI x = 0
    · (apply awp_cond; exact rfl)
      ((refine im_ot (fun hc_ => ?_)); (try simp only [Bool.not_eq_true', Bool.not_eq_false', Bool.or_eq_true, Bool.and_eq_true, Bool.or_eq_false_iff, Bool.and_eq_false_iff, decide_eq_true_eq, decide_eq_false_iff_not, Decidable.not_not, Int.not_lt, Int.not_le, Bool.not_true, Bool.not_false, Bool.true_and, Bool.and_true, Bool.false_or, Bool.or_false, Bool.true_or, Bool.false_and, bne_eq_false_iff_eq, bne_iff_ne, beq_iff_eq, beq_eq_false_iff_ne, decide_eq_decide] at hc_))
      refine awp_seq ?_
      ((refine ao_region ?_ (fun _ => ?_)); exact rfl)
      ((first
        | (apply S_call; exact rfl; exact .fn _ _ _; exact rfl; exact known_p)
        | (apply D_call; exact rfl; exact .fn _ _ _; exact rfl; exact known_p)))
      (apply S_assign; exact rfl)
      refine ao_nil ?_
      refine then_n ?_
      refine awp_ret ?_
      refine then_r ?_
      rotate_left
      iterate 2 refine im_of ?_
      refine im_ff ?_
      ((refine im_df (fun _ => ?_)); (try (exfalso; omega)))
      ((refine im_nf (fun _ => ?_)); (try (exfalso; omega)))
      exact done_b rfl rfl
    have h24 : x.evs.length ≤ 24 := by omega
    have hc0 : checkI x = 0 := by omega
    have hco := co_s x hfit
    have hfz := pair_fz
    have f29 : Frozen 29 := ⟨trivial⟩
    have hcoF : coF x = sortZ (coZ x.order) := if_pos hc0
    obtain ⟨hb, hcl⟩ := co_facts x
    have hbig : ∀ i, i < (coF x).length → 0 ≤ ((coF x).getD i default).1 ∧ ((coF x).getD i default).1 < 24 ∧ 0 ≤ ((coF x).getD i default).2 ∧ ((coF x).getD i default).2 < 24 := fun i hi => by
      have hm : (coF x).getD i default ∈ coF x := by
        rw [List.getD_eq_getElem?_getD, List.getElem?_eq_getElem hi]; exact List.getElem_mem _
      generalize (coF x).getD i default = p at hm
      obtain ⟨a1, a2, a3, a4⟩ := hb p hm
      obtain ⟨a, b⟩ := p
      dsimp only at a1 a2 a3 a4 ⊢
      rw [hcoF, mem_sortZ] at hm
      have := co_is (check_zero hc0).2.2.2 (a := a.toNat) (b := b.toNat) (by rw [Int.toNat_of_nonneg a1, Int.toNat_of_nonneg a3]; exact hm)
      omega
    have hfr := fr_s x hfit
    have hrf := rf_s x hfit
    have hlaw : True := trivial
    generalize hcoG : coF x = co at hco hbig hcl
    (apply awp_cond; exact rfl)
    ((refine im_ot (fun hc_ => ?_)); (try simp only [Bool.not_eq_true', Bool.not_eq_false', Bool.or_eq_true, Bool.and_eq_true, Bool.or_eq_false_iff, Bool.and_eq_false_iff, decide_eq_true_eq, decide_eq_false_iff_not, Decidable.not_not, Int.not_lt, Int.not_le, Bool.not_true, Bool.not_false, Bool.true_and, Bool.and_true, Bool.false_or, Bool.or_false, Bool.true_or, Bool.false_and, bne_eq_false_iff_eq, bne_iff_ne, beq_iff_eq, beq_eq_false_iff_ne, decide_eq_decide] at hc_))
    refine awp_seq ?_
    ((refine ao_region ?_ (fun _ => ?_)); exact rfl)
    ((first | first
      | (apply S_call; exact rfl; exact .fn _ _ _; exact rfl; exact known_p)
      | (apply D_call; exact rfl; exact .fn _ _ _; exact rfl; exact known_p) | (apply S_ownF; assumption; exact rfl; exact .fn _ _ _; exact rfl; exact hco; exact hfz _; exact rfl)))
    (apply S_assign; exact rfl)
    refine ao_nil ?_
    refine then_n ?_
    refine awp_ret ?_
    refine then_r ?_
    rotate_left
    iterate 2 refine im_of ?_
    refine im_ff ?_
    ((refine im_df (fun _ => ?_)); (try (exfalso; omega)))
    ((refine im_nf (fun _ => ?_)); (try (exfalso; omega)))
    refine awp_skip ?_
    refine then_n ?_
    refine awp_seq ?_
    ((refine ao_region ?_ (fun _ => ?_)); exact rfl)
    (apply S_load_ptA; exact rfl; exact rfl; exact rfl; exact Nat.le_of_ble_eq_true rfl)
    ((first | first
      | (apply S_call; exact rfl; exact .fn _ _ _; exact rfl; exact known_p)
      | (apply D_call; exact rfl; exact .fn _ _ _; exact rfl; exact known_p) | (apply S_ownF; assumption; exact rfl; exact .fn _ _ _; exact rfl; exact hco; exact hfz _; exact rfl)))
    (apply S_assign; exact rfl)
    refine ao_nil ?_
    refine then_n ?_
    refine awp_seq ?_
    ((refine ao_region ?_ (fun _ => ?_)); exact rfl)
    (apply S_alloc; exact rfl)
    refine ao_nil ?_
    refine then_n ?_
    iterate 2 refine awp_seq ?_
    ((refine ao_region ?_ (fun _ => ?_)); exact rfl)
    (apply S_assign; exact rfl)
    refine ao_nil ?_
    refine then_n ?_
    refine awp_block ?_
    rotate_left
    · exfalso; omega
    rename_i v4 _
    refine awp_loop (X := Nat) (fun i => tmL [(1, .d (.pt (exRow x) 0)), (3, .d (pairsTV co)), (4, .lo 4 (v4, 0) 576 0 0), (5, .int .i64 i)]) (fun i => stL [(4, ((v4, 0), ⟨576, [isRow (co.take i)]⟩))]) (fun i => i ≤ co.length) (fun i => co.length - i) 0 (Nat.zero_le _) (by repeat' (first | exact le_nil _ | exact sle_nil _ | refine le_cons rfl ?_ | refine sle_cons rfl ?_)) (sle_cons' rfl (congrArg (fun r => [r]) isRow_zero) (sle_nil _)) ?_
    intro i hi
    have hA := hbig (i : Int).toNat
    iterate 2 refine awp_seq ?_
    ((refine ao_region ?_ (fun _ => ?_)); exact rfl)
    iterate 2 (apply S_move; exact rfl)
    (apply S_len; exact rfl; exact rfl; exact rfl; (first | exact len_ints _ | exact len_map _ _ _ | exact len_sl _ _ | exact len_os _ _ _ _ | exact len_vw _ _ _ _ _ | exact len_nil))
    (apply S_lss; exact rfl; exact rfl)
    refine ao_nil ?_
    refine then_n ?_
    (apply awp_cond; exact rfl)
    ((refine im_dt (fun _ => ?_)); (try (exfalso; omega)))
    refine awp_skip ?_
    refine then_n ?_
    refine awp_seq ?_
    refine awp_block ?_
    iterate 2 refine awp_seq ?_
    ((refine ao_region ?_ (fun _ => ?_)); exact rfl)
    iterate 2 (apply S_move; exact rfl)
    (apply S_indexAddr_sl; exact rfl; exact rfl; exact rfl; exact rfl; exact rfl; exact rfl; omega; (first | exact get_int (by omega) | exact get_map (by omega) default | assumption))
    (apply S_fieldAddr_pt; exact rfl; exact rfl; exact rfl; exact rfl; decide; exact rfl)
    (apply S_load_pt; exact rfl; exact rfl; exact rfl; exact rfl)
    (apply S_lss; exact rfl; exact rfl)
    (apply S_move; exact rfl)
    (apply spec_f; exact rfl; exact rfl)
    ((refine im_any (fun hc_ => ?_)); (try have hc1_ := (band hc_).1))
    (apply M_move; (first | (refine EvM.mb _ rfl ?_; first | assumption | exact rfl) | exact EvM.plain rfl rfl))
    (apply spec_f; exact rfl; exact rfl)
    ((refine im_any (fun hc_ => ?_)); (try have hc1_ := (band hc_).1))
    (apply M_move; (first | (refine EvM.mb _ rfl ?_; first | assumption | exact rfl) | exact EvM.plain rfl rfl))
    (apply spec_f; exact rfl; exact rfl)
    ((refine im_any (fun hc_ => ?_)); (try have hc1_ := (band hc_).1))
    ((have hp_ := hc_; (try simp only [Bool.not_eq_true', Bool.not_eq_false', Bool.or_eq_true, Bool.and_eq_true, Bool.or_eq_false_iff, Bool.and_eq_false_iff, decide_eq_true_eq, decide_eq_false_iff_not, Decidable.not_not, Int.not_lt, Int.not_le, Bool.not_true, Bool.not_false, Bool.true_and, Bool.and_true, Bool.false_or, Bool.or_false, Bool.true_or, Bool.false_and, bne_eq_false_iff_eq, bne_iff_ne, beq_iff_eq, beq_eq_false_iff_ne, decide_eq_decide] at hp_)))
    (apply M_indexAddr_sl; exact rfl; exact rfl; exact rfl; exact rfl; (first | (refine EvM.mb _ rfl ?_; first | assumption | exact rfl) | exact EvM.plain rfl rfl); (first | (refine EvM.mb _ rfl ?_; first | assumption | exact rfl) | exact EvM.plain rfl rfl); omega; (first | exact get_int (by omega) | exact get_map (by omega) default | assumption))
    (apply spec_f; exact rfl; exact rfl)
    ((refine im_any (fun hc_ => ?_)); (try have hc1_ := (band hc_).1))
    (apply M_fieldAddr_pt; exact rfl; exact rfl; exact rfl; exact rfl; decide; (first | (refine EvM.mb _ rfl ?_; first | assumption | exact rfl) | exact EvM.plain rfl rfl))
    (apply spec_f; exact rfl; exact rfl)
    ((refine im_any (fun hc_ => ?_)); (try have hc1_ := (band hc_).1))
    (apply M_load_pt; exact rfl; exact rfl; (first | (refine EvM.mb _ rfl ?_; first | assumption | exact rfl) | exact EvM.plain rfl rfl); exact rfl)
    (apply spec_f; exact rfl; exact rfl)
    ((refine im_any (fun hc_ => ?_)); (try have hc1_ := (band hc_).1))
    (apply M_geq; (first | (refine EvM.mb _ rfl ?_; first | assumption | exact rfl) | exact EvM.plain rfl rfl); (first | (refine EvM.mb _ rfl ?_; first | assumption | exact rfl) | exact EvM.plain rfl rfl))
    (apply S_pick_or; (first | (refine EvM.mb _ rfl ?_; first | assumption | exact rfl) | exact EvM.plain rfl rfl); exact rfl; (first | (refine EvB.mb _ rfl ?_; first | exact fun h => h | exact fun h => bnot_mk h | exact fun h => band_mk (by assumption) h | exact fun h => band_mk (by assumption) (bnot_mk h) | (intro h; simp_all)) | exact EvB.plain rfl))
    (apply S_move; exact rfl)
    (apply spec_f; exact rfl; exact rfl)
    ((refine im_any (fun hc_ => ?_)); (try have hc1_ := (band hc_).1))
    (apply M_move; (first | (refine EvM.mb _ rfl ?_; first | assumption | exact rfl) | exact EvM.plain rfl rfl))
    (apply spec_f; exact rfl; exact rfl)
    ((refine im_any (fun hc_ => ?_)); (try have hc1_ := (band hc_).1))
    (apply M_move; (first | (refine EvM.mb _ rfl ?_; first | assumption | exact rfl) | exact EvM.plain rfl rfl))
    (apply spec_f; exact rfl; exact rfl)
    ((refine im_any (fun hc_ => ?_)); (try have hc1_ := (band hc_).1))
    ((have hp_ := hc_; (try simp only [Bool.not_eq_true', Bool.not_eq_false', Bool.or_eq_true, Bool.and_eq_true, Bool.or_eq_false_iff, Bool.and_eq_false_iff, decide_eq_true_eq, decide_eq_false_iff_not, Decidable.not_not, Int.not_lt, Int.not_le, Bool.not_true, Bool.not_false, Bool.true_and, Bool.and_true, Bool.false_or, Bool.or_false, Bool.true_or, Bool.false_and, bne_eq_false_iff_eq, bne_iff_ne, beq_iff_eq, beq_eq_false_iff_ne, decide_eq_decide] at hp_)))
    (apply M_indexAddr_sl; exact rfl; exact rfl; exact rfl; exact rfl; (first | (refine EvM.mb _ rfl ?_; first | assumption | exact rfl) | exact EvM.plain rfl rfl); (first | (refine EvM.mb _ rfl ?_; first | assumption | exact rfl) | exact EvM.plain rfl rfl); omega; (first | exact get_int (by omega) | exact get_map (by omega) default | assumption))
    (apply spec_f; exact rfl; exact rfl)
    ((refine im_any (fun hc_ => ?_)); (try have hc1_ := (band hc_).1))
    (apply M_fieldAddr_pt; exact rfl; exact rfl; exact rfl; exact rfl; decide; (first | (refine EvM.mb _ rfl ?_; first | assumption | exact rfl) | exact EvM.plain rfl rfl))
    (apply spec_f; exact rfl; exact rfl)
    ((refine im_any (fun hc_ => ?_)); (try have hc1_ := (band hc_).1))
    (apply M_load_pt; exact rfl; exact rfl; (first | (refine EvM.mb _ rfl ?_; first | assumption | exact rfl) | exact EvM.plain rfl rfl); exact rfl)
    (apply spec_f; exact rfl; exact rfl)
    ((refine im_any (fun hc_ => ?_)); (try have hc1_ := (band hc_).1))
    (apply M_lss; (first | (refine EvM.mb _ rfl ?_; first | assumption | exact rfl) | exact EvM.plain rfl rfl); (first | (refine EvM.mb _ rfl ?_; first | assumption | exact rfl) | exact EvM.plain rfl rfl))
    (apply S_pick_or; (first | (refine EvM.mb _ rfl ?_; first | assumption | exact rfl) | exact EvM.plain rfl rfl); exact rfl; (first | (refine EvB.mb _ rfl ?_; first | exact fun h => h | exact fun h => bnot_mk h | exact fun h => band_mk (by assumption) h | exact fun h => band_mk (by assumption) (bnot_mk h) | (intro h; simp_all)) | exact EvB.plain rfl))
    (apply S_move; exact rfl)
    (apply spec_f; exact rfl; exact rfl)
    ((refine im_any (fun hc_ => ?_)); (try have hc1_ := (band hc_).1))
    (apply M_move; (first | (refine EvM.mb _ rfl ?_; first | assumption | exact rfl) | exact EvM.plain rfl rfl))
    (apply spec_f; exact rfl; exact rfl)
    ((refine im_any (fun hc_ => ?_)); (try have hc1_ := (band hc_).1))
    (apply M_move; (first | (refine EvM.mb _ rfl ?_; first | assumption | exact rfl) | exact EvM.plain rfl rfl))
    (apply spec_f; exact rfl; exact rfl)
    ((refine im_any (fun hc_ => ?_)); (try have hc1_ := (band hc_).1))
    ((have hp_ := hc_; (try simp only [Bool.not_eq_true', Bool.not_eq_false', Bool.or_eq_true, Bool.and_eq_true, Bool.or_eq_false_iff, Bool.and_eq_false_iff, decide_eq_true_eq, decide_eq_false_iff_not, Decidable.not_not, Int.not_lt, Int.not_le, Bool.not_true, Bool.not_false, Bool.true_and, Bool.and_true, Bool.false_or, Bool.or_false, Bool.true_or, Bool.false_and, bne_eq_false_iff_eq, bne_iff_ne, beq_iff_eq, beq_eq_false_iff_ne, decide_eq_decide] at hp_)))
    (apply M_indexAddr_sl; exact rfl; exact rfl; exact rfl; exact rfl; (first | (refine EvM.mb _ rfl ?_; first | assumption | exact rfl) | exact EvM.plain rfl rfl); (first | (refine EvM.mb _ rfl ?_; first | assumption | exact rfl) | exact EvM.plain rfl rfl); omega; (first | exact get_int (by omega) | exact get_map (by omega) default | assumption))
    (apply spec_f; exact rfl; exact rfl)
    ((refine im_any (fun hc_ => ?_)); (try have hc1_ := (band hc_).1))
    (apply M_fieldAddr_pt; exact rfl; exact rfl; exact rfl; exact rfl; decide; (first | (refine EvM.mb _ rfl ?_; first | assumption | exact rfl) | exact EvM.plain rfl rfl))
    (apply spec_f; exact rfl; exact rfl)
    ((refine im_any (fun hc_ => ?_)); (try have hc1_ := (band hc_).1))
    (apply M_load_pt; exact rfl; exact rfl; (first | (refine EvM.mb _ rfl ?_; first | assumption | exact rfl) | exact EvM.plain rfl rfl); exact rfl)
    (apply spec_f; exact rfl; exact rfl)
    ((refine im_any (fun hc_ => ?_)); (try have hc1_ := (band hc_).1))
    (apply M_geq; (first | (refine EvM.mb _ rfl ?_; first | assumption | exact rfl) | exact EvM.plain rfl rfl); (first | (refine EvM.mb _ rfl ?_; first | assumption | exact rfl) | exact EvM.plain rfl rfl))
    (apply S_pick_or; (first | (refine EvM.mb _ rfl ?_; first | assumption | exact rfl) | exact EvM.plain rfl rfl); exact rfl; (first | (refine EvB.mb _ rfl ?_; first | exact fun h => h | exact fun h => bnot_mk h | exact fun h => band_mk (by assumption) h | exact fun h => band_mk (by assumption) (bnot_mk h) | (intro h; simp_all)) | exact EvB.plain rfl))
    refine ao_nil ?_
    refine then_n ?_
    (apply awp_cond; exact rfl)
    ((refine im_ot (fun hc_ => ?_)); (try simp only [Bool.not_eq_true', Bool.not_eq_false', Bool.or_eq_true, Bool.and_eq_true, Bool.or_eq_false_iff, Bool.and_eq_false_iff, decide_eq_true_eq, decide_eq_false_iff_not, Decidable.not_not, Int.not_lt, Int.not_le, Bool.not_true, Bool.not_false, Bool.true_and, Bool.and_true, Bool.false_or, Bool.or_false, Bool.true_or, Bool.false_and, bne_eq_false_iff_eq, bne_iff_ne, beq_iff_eq, beq_eq_false_iff_ne, decide_eq_decide] at hc_))
    refine awp_seq ?_
    ((refine ao_region ?_ (fun _ => ?_)); exact rfl)
    (apply S_assign; exact rfl)
    refine ao_nil ?_
    refine then_n ?_
    refine awp_ret ?_
    refine then_r ?_
    refine blk_r ?_
    iterate 2 refine then_r ?_
    refine blk_r ?_
    refine then_r ?_
    rotate_left
    iterate 3 refine im_of ?_
    iterate 4 ((refine im_df (fun _ => ?_)); (try (exfalso; omega)))
    refine awp_skip ?_
    refine then_n ?_
    ((refine do_region (E := E) ?_ (fun _ => ?_)); exact rfl)
    iterate 2 (apply D_move; exact rfl)
    (apply D_indexAddr_sl; exact rfl; exact rfl; exact rfl; exact rfl; exact rfl; exact rfl; omega; (first | exact get_int (by omega) | exact get_map (by omega) default | assumption))
    (apply D_fieldAddr_pt; exact rfl; exact rfl; exact rfl; exact rfl; decide; exact rfl)
    (apply D_load_pt; exact rfl; exact rfl; exact rfl; exact rfl)
    iterate 2 (apply D_move; exact rfl)
    (apply D_indexAddr_sl; exact rfl; exact rfl; exact rfl; exact rfl; exact rfl; exact rfl; omega; (first | exact get_int (by omega) | exact get_map (by omega) default | assumption))
    (apply D_fieldAddr_pt; exact rfl; exact rfl; exact rfl; exact rfl; decide; exact rfl)
    (apply D_load_pt; exact rfl; exact rfl; exact rfl; exact rfl)
    iterate 2 (apply D_indexAddr_loA; exact rfl; exact rfl; exact rfl; exact rfl; exact rfl; omega)
    ((apply D_store; exact rfl; exact rfl; exact rfl; exact rfl; exact rfl; exact rfl; exact rfl; exact (by rw [isRow_len]; show 0 + _ * 24 + _ * 1 + 1 ≤ 576; omega)))
    (refine do_nil ?_ ?_; (first | ((try dsimp only [wkeys]); decide +kernel) | exact rfl))
    refine blk_n ?_
    refine then_n ?_
    ((refine ao_region ?_ (fun _ => ?_)); exact rfl)
    (apply S_move; exact rfl)
    (apply S_add64; exact rfl; exact rfl; omega)
    (apply S_assign; exact rfl)
    refine ao_nil ?_
    refine then_n ?_
    rotate_left
    ((refine im_df (fun _ => ?_)); (try (exfalso; omega)))
    refine awp_exit ?_
    iterate 2 refine then_x ?_
    refine blk_x ?_
    refine then_n ?_
    iterate 2 refine awp_seq ?_
    ((refine ao_region ?_ (fun _ => ?_)); exact rfl)
    (apply S_assign; exact rfl)
    refine ao_nil ?_
    refine then_n ?_
    refine awp_block ?_
    rotate_left
    · exfalso
      have := hA (by omega)
      omega
    · have hi' : i < co.length := by omega
      refine round' (i + 1) (by omega) (by omega) (by repeat' (first | exact le_nil _ | exact sle_nil _ | refine le_cons rfl ?_ | refine sle_cons rfl ?_)) (sle_cons' rfl ?_ (sle_nil _))
      refine congrArg (fun r => [r]) ?_
      have e := hA (by omega)
      rw [Int.toNat_natCast] at e
      show setAt (isRow (co.take i)) (0 + (co.getD i default).1.toNat * 24 + (co.getD i default).2.toNat * 1) [.bool true] = _
      rw [isRow_set ⟨e.1, e.2.1⟩ ⟨e.2.2.1, e.2.2.2⟩, take_get' co default i hi']
    have hie : i = co.length := by omega
    rw [hie, List.take_length]
    refine awp_freeze 4 (v4, 0) 576 [isTV co] (tmL [(1, .d (.pt (exRow x) 0)), (4, .d (.pt (isTV co) 0)), (6, .int .i64 0)]) (stL []) (by rw [← isTV_row]; rfl) (by repeat' (first | exact fz_nil | refine fz_cons rfl (.same _) ?_ | refine fz_cons rfl (.lo 0 0 _ rfl) ?_)) (by repeat' (first | exact fz_nil | exact fs_nil | (refine fz_cons rfl (froz_os ?_) ?_; (first | rfl | (simp; done))) | refine fz_cons rfl (.same _) ?_ | refine fs_cons (by decide) rfl (.same _) ?_)) ?_
    clear hA hi hie hbig
    clear hb hcl hco hfz f29
    refine awp_loop (X := Nat) (fun a => tmL [(1, .d (.pt (exRow x) 0)), (4, .d (.pt (isTV co) 0)), (6, .int .i64 a)]) (fun _ => stL []) (fun a => a ≤ x.evs.length) (fun a => x.evs.length - a) 0 (Nat.zero_le _) (by repeat' (first | exact le_nil _ | exact sle_nil _ | refine le_cons rfl ?_ | refine sle_cons rfl ?_)) (by repeat' (first | exact le_nil _ | exact sle_nil _ | refine le_cons rfl ?_ | refine sle_cons rfl ?_)) ?_
    intro a ha
    iterate 2 refine awp_seq ?_
    ((refine ao_region ?_ (fun _ => ?_)); exact rfl)
    (apply S_move; exact rfl)
    (apply S_fieldAddr_pt; exact rfl; exact rfl; exact rfl; exact rfl; decide; exact rfl)
    (apply S_load_pt; exact rfl; exact rfl; exact rfl; exact rfl)
    (apply S_len; exact rfl; exact rfl; exact rfl; (first | exact len_ints _ | exact len_map _ _ _ | exact len_sl _ _ | exact len_os _ _ _ _ | exact len_vw _ _ _ _ _ | exact len_nil))
    (apply S_lss; exact rfl; exact rfl)
    refine ao_nil ?_
    refine then_n ?_
    (apply awp_cond; exact rfl)
    ((refine im_dt (fun _ => ?_)); (try (exfalso; omega)))
    refine awp_skip ?_
    refine then_n ?_
    refine awp_seq ?_
    refine awp_block ?_
    refine awp_seq ?_
    ((refine ao_region ?_ (fun _ => ?_)); exact rfl)
    (apply S_assign; exact rfl)
    refine ao_nil ?_
    refine then_n ?_
    refine awp_block ?_
    rotate_left
    ((refine im_df (fun _ => ?_)); (try (exfalso; omega)))
    refine awp_exit ?_
    iterate 2 refine then_x ?_
    refine blk_x ?_
    refine then_n ?_
    refine awp_seq ?_
    ((refine do_region (E := E) ?_ (fun _ => ?_)); exact rfl)
    (apply D_load_ptA; exact rfl; exact rfl; exact rfl; exact Nat.le_of_ble_eq_true rfl)
    rotate_left
    · refine awp_loop (X := Nat) (fun b => tmL [(1, .d (.pt (exRow x) 0)), (4, .d (.pt (isTV co) 0)), (6, .int .i64 a), (7, .int .i64 b)]) (fun _ => stL []) (fun b => b ≤ x.evs.length) (fun b => x.evs.length - b) 0 (Nat.zero_le _) (by repeat' (first | exact le_nil _ | exact sle_nil _ | refine le_cons rfl ?_ | refine sle_cons rfl ?_)) (by repeat' (first | exact le_nil _ | exact sle_nil _ | refine le_cons rfl ?_ | refine sle_cons rfl ?_)) ?_
      intro b hb
      iterate 2 refine awp_seq ?_
      ((refine ao_region ?_ (fun _ => ?_)); exact rfl)
      (apply S_move; exact rfl)
      (apply S_fieldAddr_pt; exact rfl; exact rfl; exact rfl; exact rfl; decide; exact rfl)
      (apply S_load_pt; exact rfl; exact rfl; exact rfl; exact rfl)
      (apply S_len; exact rfl; exact rfl; exact rfl; (first | exact len_ints _ | exact len_map _ _ _ | exact len_sl _ _ | exact len_os _ _ _ _ | exact len_vw _ _ _ _ _ | exact len_nil))
      (apply S_lss; exact rfl; exact rfl)
      refine ao_nil ?_
      refine then_n ?_
      (apply awp_cond; exact rfl)
      ((refine im_dt (fun _ => ?_)); (try (exfalso; omega)))
      refine awp_skip ?_
      refine then_n ?_
      refine awp_seq ?_
      refine awp_block ?_
      refine awp_seq ?_
      ((refine do_region (E := E) ?_ (fun _ => ?_)); exact rfl)
      iterate 2 (apply D_move; exact rfl)
      (apply D_neq; exact rfl; exact rfl)
      (apply D_move; exact rfl)
      (apply dspec_t; exact rfl; exact rfl)
      ((refine im_any (fun hc_ => ?_)); (try have hc1_ := (band hc_).1))
      (apply M_fieldAddr_pt; exact rfl; exact rfl; exact rfl; exact rfl; decide; (first | (refine EvM.mb _ rfl ?_; first | assumption | exact rfl) | exact EvM.plain rfl rfl))
      (apply dspec_t; exact rfl; exact rfl)
      ((refine im_any (fun hc_ => ?_)); (try have hc1_ := (band hc_).1))
      (apply M_load_pt; exact rfl; exact rfl; (first | (refine EvM.mb _ rfl ?_; first | assumption | exact rfl) | exact EvM.plain rfl rfl); exact rfl)
      (apply dspec_t; exact rfl; exact rfl)
      ((refine im_any (fun hc_ => ?_)); (try have hc1_ := (band hc_).1))
      (apply M_move; (first | (refine EvM.mb _ rfl ?_; first | assumption | exact rfl) | exact EvM.plain rfl rfl))
      (apply dspec_t; exact rfl; exact rfl)
      ((refine im_any (fun hc_ => ?_)); (try have hc1_ := (band hc_).1))
      ((have hp_ := hc_; (try simp only [Bool.not_eq_true', Bool.not_eq_false', Bool.or_eq_true, Bool.and_eq_true, Bool.or_eq_false_iff, Bool.and_eq_false_iff, decide_eq_true_eq, decide_eq_false_iff_not, Decidable.not_not, Int.not_lt, Int.not_le, Bool.not_true, Bool.not_false, Bool.true_and, Bool.and_true, Bool.false_or, Bool.or_false, Bool.true_or, Bool.false_and, bne_eq_false_iff_eq, bne_iff_ne, beq_iff_eq, beq_eq_false_iff_ne, decide_eq_decide] at hp_)))
      (apply M_indexAddr_sl; exact rfl; exact rfl; exact rfl; exact rfl; (first | (refine EvM.mb _ rfl ?_; first | assumption | exact rfl) | exact EvM.plain rfl rfl); (first | (refine EvM.mb _ rfl ?_; first | assumption | exact rfl) | exact EvM.plain rfl rfl); omega; (first | exact get_int (by omega) | exact get_map (by omega) default | assumption))
      (apply dspec_t; exact rfl; exact rfl)
      ((refine im_any (fun hc_ => ?_)); (try have hc1_ := (band hc_).1))
      (apply M_load_ptA; exact rfl; exact rfl; (first | (refine EvM.mb _ rfl ?_; first | assumption | exact rfl) | exact EvM.plain rfl rfl); exact Nat.le_of_ble_eq_true rfl)
      (apply dspec_t; exact rfl; exact rfl)
      ((refine im_any (fun hc_ => ?_)); (try have hc1_ := (band hc_).1))
      ((have hp_ := hc_; (try simp only [Bool.not_eq_true', Bool.not_eq_false', Bool.or_eq_true, Bool.and_eq_true, Bool.or_eq_false_iff, Bool.and_eq_false_iff, decide_eq_true_eq, decide_eq_false_iff_not, Decidable.not_not, Int.not_lt, Int.not_le, Bool.not_true, Bool.not_false, Bool.true_and, Bool.and_true, Bool.false_or, Bool.or_false, Bool.true_or, Bool.false_and, bne_eq_false_iff_eq, bne_iff_ne, beq_iff_eq, beq_eq_false_iff_ne, decide_eq_decide] at hp_)))
      ((first | (apply M_call; exact .plain rfl rfl; exact .fn _ _ _; (repeat (first | exact EvsM.nil | (apply EvsM.cons; first | (refine EvM.mb _ rfl ?_; first | assumption | exact rfl) | exact EvM.plain rfl rfl))); exact pstores_o _) | (apply M_load_pt; exact rfl; exact rfl; (first | (refine EvM.mb _ rfl ?_; first | assumption | exact rfl) | exact EvM.plain rfl rfl); exact isTV_get (by show 0 + _ * 24 + _ * 1 < 576; omega))))
      (apply D_pick_and; (first | (refine EvM.mb _ rfl ?_; first | assumption | exact rfl) | exact EvM.plain rfl rfl); (first | (refine EvB.mb _ rfl ?_; first | exact fun h => h | exact fun h => bnot_mk h | exact fun h => band_mk (by assumption) h | exact fun h => band_mk (by assumption) (bnot_mk h) | (intro h; simp_all)) | exact EvB.plain rfl); exact rfl)
      (apply D_move; exact rfl)
      (apply dspec_t; exact rfl; exact rfl)
      ((refine im_any (fun hc_ => ?_)); (try have hc1_ := (band hc_).1))
      (apply M_fieldAddr_pt; exact rfl; exact rfl; exact rfl; exact rfl; decide; (first | (refine EvM.mb _ rfl ?_; first | assumption | exact rfl) | exact EvM.plain rfl rfl))
      (apply dspec_t; exact rfl; exact rfl)
      ((refine im_any (fun hc_ => ?_)); (try have hc1_ := (band hc_).1))
      (apply M_load_pt; exact rfl; exact rfl; (first | (refine EvM.mb _ rfl ?_; first | assumption | exact rfl) | exact EvM.plain rfl rfl); exact rfl)
      (apply dspec_t; exact rfl; exact rfl)
      ((refine im_any (fun hc_ => ?_)); (try have hc1_ := (band hc_).1))
      (apply M_move; (first | (refine EvM.mb _ rfl ?_; first | assumption | exact rfl) | exact EvM.plain rfl rfl))
      (apply dspec_t; exact rfl; exact rfl)
      ((refine im_any (fun hc_ => ?_)); (try have hc1_ := (band hc_).1))
      ((have hp_ := hc_; (try simp only [Bool.not_eq_true', Bool.not_eq_false', Bool.or_eq_true, Bool.and_eq_true, Bool.or_eq_false_iff, Bool.and_eq_false_iff, decide_eq_true_eq, decide_eq_false_iff_not, Decidable.not_not, Int.not_lt, Int.not_le, Bool.not_true, Bool.not_false, Bool.true_and, Bool.and_true, Bool.false_or, Bool.or_false, Bool.true_or, Bool.false_and, bne_eq_false_iff_eq, bne_iff_ne, beq_iff_eq, beq_eq_false_iff_ne, decide_eq_decide] at hp_)))
      (apply M_indexAddr_sl; exact rfl; exact rfl; exact rfl; exact rfl; (first | (refine EvM.mb _ rfl ?_; first | assumption | exact rfl) | exact EvM.plain rfl rfl); (first | (refine EvM.mb _ rfl ?_; first | assumption | exact rfl) | exact EvM.plain rfl rfl); omega; (first | exact get_int (by omega) | exact get_map (by omega) default | assumption))
      (apply dspec_t; exact rfl; exact rfl)
      ((refine im_any (fun hc_ => ?_)); (try have hc1_ := (band hc_).1))
      (apply M_load_ptA; exact rfl; exact rfl; (first | (refine EvM.mb _ rfl ?_; first | assumption | exact rfl) | exact EvM.plain rfl rfl); exact Nat.le_of_ble_eq_true rfl)
      (apply dspec_t; exact rfl; exact rfl)
      ((refine im_any (fun hc_ => ?_)); (try have hc1_ := (band hc_).1))
      ((have hp_ := hc_; (try simp only [Bool.not_eq_true', Bool.not_eq_false', Bool.or_eq_true, Bool.and_eq_true, Bool.or_eq_false_iff, Bool.and_eq_false_iff, decide_eq_true_eq, decide_eq_false_iff_not, Decidable.not_not, Int.not_lt, Int.not_le, Bool.not_true, Bool.not_false, Bool.true_and, Bool.and_true, Bool.false_or, Bool.or_false, Bool.true_or, Bool.false_and, bne_eq_false_iff_eq, bne_iff_ne, beq_iff_eq, beq_eq_false_iff_ne, decide_eq_decide] at hp_)))
      ((first | (apply M_call; exact .plain rfl rfl; exact .fn _ _ _; (repeat (first | exact EvsM.nil | (apply EvsM.cons; first | (refine EvM.mb _ rfl ?_; first | assumption | exact rfl) | exact EvM.plain rfl rfl))); exact pstores_o _) | (apply M_load_pt; exact rfl; exact rfl; (first | (refine EvM.mb _ rfl ?_; first | assumption | exact rfl) | exact EvM.plain rfl rfl); exact isTV_get (by show 0 + _ * 24 + _ * 1 < 576; omega))))
      (apply D_pick_and; (first | (refine EvM.mb _ rfl ?_; first | assumption | exact rfl) | exact EvM.plain rfl rfl); (first | (refine EvB.mb _ rfl ?_; first | exact fun h => h | exact fun h => bnot_mk h | exact fun h => band_mk (by assumption) h | exact fun h => band_mk (by assumption) (bnot_mk h) | (intro h; simp_all)) | exact EvB.plain rfl); exact rfl)
      (apply D_move; exact rfl)
      (apply dspec_t; exact rfl; exact rfl)
      ((refine im_any (fun hc_ => ?_)); (try have hc1_ := (band hc_).1))
      (apply M_fieldAddr_pt; exact rfl; exact rfl; exact rfl; exact rfl; decide; (first | (refine EvM.mb _ rfl ?_; first | assumption | exact rfl) | exact EvM.plain rfl rfl))
      (apply dspec_t; exact rfl; exact rfl)
      ((refine im_any (fun hc_ => ?_)); (try have hc1_ := (band hc_).1))
      (apply M_load_pt; exact rfl; exact rfl; (first | (refine EvM.mb _ rfl ?_; first | assumption | exact rfl) | exact EvM.plain rfl rfl); exact rfl)
      (apply dspec_t; exact rfl; exact rfl)
      ((refine im_any (fun hc_ => ?_)); (try have hc1_ := (band hc_).1))
      (apply M_move; (first | (refine EvM.mb _ rfl ?_; first | assumption | exact rfl) | exact EvM.plain rfl rfl))
      (apply dspec_t; exact rfl; exact rfl)
      ((refine im_any (fun hc_ => ?_)); (try have hc1_ := (band hc_).1))
      ((have hp_ := hc_; (try simp only [Bool.not_eq_true', Bool.not_eq_false', Bool.or_eq_true, Bool.and_eq_true, Bool.or_eq_false_iff, Bool.and_eq_false_iff, decide_eq_true_eq, decide_eq_false_iff_not, Decidable.not_not, Int.not_lt, Int.not_le, Bool.not_true, Bool.not_false, Bool.true_and, Bool.and_true, Bool.false_or, Bool.or_false, Bool.true_or, Bool.false_and, bne_eq_false_iff_eq, bne_iff_ne, beq_iff_eq, beq_eq_false_iff_ne, decide_eq_decide] at hp_)))
      (apply M_indexAddr_sl; exact rfl; exact rfl; exact rfl; exact rfl; (first | (refine EvM.mb _ rfl ?_; first | assumption | exact rfl) | exact EvM.plain rfl rfl); (first | (refine EvM.mb _ rfl ?_; first | assumption | exact rfl) | exact EvM.plain rfl rfl); omega; (first | exact get_int (by omega) | exact get_map (by omega) default | assumption))
      (apply dspec_t; exact rfl; exact rfl)
      ((refine im_any (fun hc_ => ?_)); (try have hc1_ := (band hc_).1))
      (apply M_fieldAddr_pt; exact rfl; exact rfl; exact rfl; exact rfl; decide; (first | (refine EvM.mb _ rfl ?_; first | assumption | exact rfl) | exact EvM.plain rfl rfl))
      (apply dspec_t; exact rfl; exact rfl)
      ((refine im_any (fun hc_ => ?_)); (try have hc1_ := (band hc_).1))
      (apply M_load_pt; exact rfl; exact rfl; (first | (refine EvM.mb _ rfl ?_; first | assumption | exact rfl) | exact EvM.plain rfl rfl); exact rfl)
      (apply dspec_t; exact rfl; exact rfl)
      ((refine im_any (fun hc_ => ?_)); (try have hc1_ := (band hc_).1))
      (apply M_fieldAddr_pt; exact rfl; exact rfl; exact rfl; exact rfl; decide; (first | (refine EvM.mb _ rfl ?_; first | assumption | exact rfl) | exact EvM.plain rfl rfl))
      (apply dspec_t; exact rfl; exact rfl)
      ((refine im_any (fun hc_ => ?_)); (try have hc1_ := (band hc_).1))
      (apply M_load_pt; exact rfl; exact rfl; (first | (refine EvM.mb _ rfl ?_; first | assumption | exact rfl) | exact EvM.plain rfl rfl); exact rfl)
      (apply dspec_t; exact rfl; exact rfl)
      ((refine im_any (fun hc_ => ?_)); (try have hc1_ := (band hc_).1))
      (apply M_move; (first | (refine EvM.mb _ rfl ?_; first | assumption | exact rfl) | exact EvM.plain rfl rfl))
      (apply dspec_t; exact rfl; exact rfl)
      ((refine im_any (fun hc_ => ?_)); (try have hc1_ := (band hc_).1))
      ((have hp_ := hc_; (try simp only [Bool.not_eq_true', Bool.not_eq_false', Bool.or_eq_true, Bool.and_eq_true, Bool.or_eq_false_iff, Bool.and_eq_false_iff, decide_eq_true_eq, decide_eq_false_iff_not, Decidable.not_not, Int.not_lt, Int.not_le, Bool.not_true, Bool.not_false, Bool.true_and, Bool.and_true, Bool.false_or, Bool.or_false, Bool.true_or, Bool.false_and, bne_eq_false_iff_eq, bne_iff_ne, beq_iff_eq, beq_eq_false_iff_ne, decide_eq_decide] at hp_)))
      (apply M_indexAddr_sl; exact rfl; exact rfl; exact rfl; exact rfl; (first | (refine EvM.mb _ rfl ?_; first | assumption | exact rfl) | exact EvM.plain rfl rfl); (first | (refine EvM.mb _ rfl ?_; first | assumption | exact rfl) | exact EvM.plain rfl rfl); omega; (first | exact get_int (by omega) | exact get_map (by omega) default | assumption))
      (apply dspec_t; exact rfl; exact rfl)
      ((refine im_any (fun hc_ => ?_)); (try have hc1_ := (band hc_).1))
      (apply M_fieldAddr_pt; exact rfl; exact rfl; exact rfl; exact rfl; decide; (first | (refine EvM.mb _ rfl ?_; first | assumption | exact rfl) | exact EvM.plain rfl rfl))
      (apply dspec_t; exact rfl; exact rfl)
      ((refine im_any (fun hc_ => ?_)); (try have hc1_ := (band hc_).1))
      (apply M_load_pt; exact rfl; exact rfl; (first | (refine EvM.mb _ rfl ?_; first | assumption | exact rfl) | exact EvM.plain rfl rfl); exact rfl)
      (apply dspec_t; exact rfl; exact rfl)
      ((refine im_any (fun hc_ => ?_)); (try have hc1_ := (band hc_).1))
      (apply M_eql; (first | (refine EvM.mb _ rfl ?_; first | assumption | exact rfl) | exact EvM.plain rfl rfl); (first | (refine EvM.mb _ rfl ?_; first | assumption | exact rfl) | exact EvM.plain rfl rfl))
      (apply D_pick_and; (first | (refine EvM.mb _ rfl ?_; first | assumption | exact rfl) | exact EvM.plain rfl rfl); (first | (refine EvB.mb _ rfl ?_; first | exact fun h => h | exact fun h => bnot_mk h | exact fun h => band_mk (by assumption) h | exact fun h => band_mk (by assumption) (bnot_mk h) | (intro h; simp_all)) | exact EvB.plain rfl); exact rfl)
      (apply D_assign; exact rfl)
      (refine do_nil ?_ ?_; (first | ((try dsimp only [wkeys]); decide +kernel) | exact rfl))
      refine then_n ?_
      iterate 2 refine awp_seq ?_
      ((refine do_region (E := E) ?_ (fun _ => ?_)); exact rfl)
      iterate 3 (apply D_move; exact rfl)
      iterate 2 (apply D_indexAddr_ptA; exact rfl; exact rfl; exact rfl; exact rfl; exact rfl; omega)
      ((first | first
        | (apply S_call; exact rfl; exact .fn _ _ _; exact rfl; exact pstores_o _)
        | (apply D_call; exact rfl; exact .fn _ _ _; exact rfl; exact pstores_o _) | (apply D_load_pt; exact rfl; exact rfl; exact rfl; exact isTV_get (by show 0 + _ * 24 + _ * 1 < 576; omega)) | (apply S_load_pt; exact rfl; exact rfl; exact rfl; exact isTV_get (by show 0 + _ * 24 + _ * 1 < 576; omega))))
      iterate 2 (apply D_move; exact rfl)
      iterate 2 (apply D_indexAddr_ptA; exact rfl; exact rfl; exact rfl; exact rfl; exact rfl; omega)
      ((first | first
        | (apply S_call; exact rfl; exact .fn _ _ _; exact rfl; exact pstores_o _)
        | (apply D_call; exact rfl; exact .fn _ _ _; exact rfl; exact pstores_o _) | (apply D_load_pt; exact rfl; exact rfl; exact rfl; exact isTV_get (by show 0 + _ * 24 + _ * 1 < 576; omega)) | (apply S_load_pt; exact rfl; exact rfl; exact rfl; exact isTV_get (by show 0 + _ * 24 + _ * 1 < 576; omega))))
      iterate 2 (apply D_neqB; exact rfl; exact rfl; exact rfl; exact rfl)
      (apply D_move; exact rfl)
      (apply dspec_f; exact rfl; exact rfl)
      ((refine im_any (fun hc_ => ?_)); (try have hc1_ := (band hc_).1))
      (apply M_move; (first | (refine EvM.mb _ rfl ?_; first | assumption | exact rfl) | exact EvM.plain rfl rfl))
      (apply dspec_f; exact rfl; exact rfl)
      ((refine im_any (fun hc_ => ?_)); (try have hc1_ := (band hc_).1))
      (apply M_not; (first | (refine EvM.mb _ rfl ?_; first | assumption | exact rfl) | exact EvM.plain rfl rfl))
      (apply dspec_f; exact rfl; exact rfl)
      ((refine im_any (fun hc_ => ?_)); (try have hc1_ := (band hc_).1))
      (apply M_move; (first | (refine EvM.mb _ rfl ?_; first | assumption | exact rfl) | exact EvM.plain rfl rfl))
      (apply dspec_mt; exact rfl; exact rfl)
      ((refine im_any (fun hc_ => ?_)); (try have hc1_ := (band hc_).1))
      (apply M_move; (first | (refine EvM.mb _ rfl ?_; first | assumption | exact rfl) | exact EvM.plain rfl rfl))
      (apply dspec_mt; exact rfl; exact rfl)
      ((refine im_any (fun hc_ => ?_)); (try have hc1_ := (band hc_).1))
      (apply M_move; (first | (refine EvM.mb _ rfl ?_; first | assumption | exact rfl) | exact EvM.plain rfl rfl))
      (apply dspec_mt; exact rfl; exact rfl)
      ((refine im_any (fun hc_ => ?_)); (try have hc1_ := (band hc_).1))
      ((have hp_ := hc_; (try simp only [Bool.not_eq_true', Bool.not_eq_false', Bool.or_eq_true, Bool.and_eq_true, Bool.or_eq_false_iff, Bool.and_eq_false_iff, decide_eq_true_eq, decide_eq_false_iff_not, Decidable.not_not, Int.not_lt, Int.not_le, Bool.not_true, Bool.not_false, Bool.true_and, Bool.and_true, Bool.false_or, Bool.or_false, Bool.true_or, Bool.false_and, bne_eq_false_iff_eq, bne_iff_ne, beq_iff_eq, beq_eq_false_iff_ne, decide_eq_decide] at hp_)))
      (apply M_indexAddr_ptA; exact rfl; exact rfl; exact rfl; (first | (refine EvM.mb _ rfl ?_; first | assumption | exact rfl) | exact EvM.plain rfl rfl); (first | (refine EvM.mb _ rfl ?_; first | assumption | exact rfl) | exact EvM.plain rfl rfl); omega)
      (apply dspec_mt; exact rfl; exact rfl)
      ((refine im_any (fun hc_ => ?_)); (try have hc1_ := (band hc_).1))
      ((have hp_ := hc_; (try simp only [Bool.not_eq_true', Bool.not_eq_false', Bool.or_eq_true, Bool.and_eq_true, Bool.or_eq_false_iff, Bool.and_eq_false_iff, decide_eq_true_eq, decide_eq_false_iff_not, Decidable.not_not, Int.not_lt, Int.not_le, Bool.not_true, Bool.not_false, Bool.true_and, Bool.and_true, Bool.false_or, Bool.or_false, Bool.true_or, Bool.false_and, bne_eq_false_iff_eq, bne_iff_ne, beq_iff_eq, beq_eq_false_iff_ne, decide_eq_decide] at hp_)))
      (apply M_indexAddr_ptA; exact rfl; exact rfl; exact rfl; (first | (refine EvM.mb _ rfl ?_; first | assumption | exact rfl) | exact EvM.plain rfl rfl); (first | (refine EvM.mb _ rfl ?_; first | assumption | exact rfl) | exact EvM.plain rfl rfl); omega)
      (apply dspec_mt; exact rfl; exact rfl)
      ((refine im_any (fun hc_ => ?_)); (try have hc1_ := (band hc_).1))
      ((have hp_ := hc_; (try simp only [Bool.not_eq_true', Bool.not_eq_false', Bool.or_eq_true, Bool.and_eq_true, Bool.or_eq_false_iff, Bool.and_eq_false_iff, decide_eq_true_eq, decide_eq_false_iff_not, Decidable.not_not, Int.not_lt, Int.not_le, Bool.not_true, Bool.not_false, Bool.true_and, Bool.and_true, Bool.false_or, Bool.or_false, Bool.true_or, Bool.false_and, bne_eq_false_iff_eq, bne_iff_ne, beq_iff_eq, beq_eq_false_iff_ne, decide_eq_decide] at hp_)))
      ((first | (apply M_call; exact .plain rfl rfl; exact .fn _ _ _; (repeat (first | exact EvsM.nil | (apply EvsM.cons; first | (refine EvM.mb _ rfl ?_; first | assumption | exact rfl) | exact EvM.plain rfl rfl))); exact pstores_o _) | (apply M_load_pt; exact rfl; exact rfl; (first | (refine EvM.mb _ rfl ?_; first | assumption | exact rfl) | exact EvM.plain rfl rfl); exact isTV_get (by show 0 + _ * 24 + _ * 1 < 576; omega))))
      (apply dspec_f; exact rfl; exact rfl)
      ((refine im_any (fun hc_ => ?_)); (try have hc1_ := (band hc_).1))
      (apply M_pick_and; (first | (refine EvM.mb _ rfl ?_; first | assumption | exact rfl) | exact EvM.plain rfl rfl); (first | (refine EvB.mb _ rfl ?_; first | exact fun h => h | exact fun h => bnot_mk h | exact fun h => band_mk (by assumption) h | exact fun h => band_mk (by assumption) (bnot_mk h) | (intro h; simp_all)) | exact EvB.plain rfl); exact rfl)
      (apply D_pick_or; (first | (refine EvM.mb _ rfl ?_; first | assumption | exact rfl) | exact EvM.plain rfl rfl); exact rfl; (first | (refine EvB.mb _ rfl ?_; first | exact fun h => h | exact fun h => bnot_mk h | exact fun h => band_mk (by assumption) h | exact fun h => band_mk (by assumption) (bnot_mk h) | (intro h; simp_all)) | exact EvB.plain rfl))
      (refine do_nil ?_ ?_; (first | ((try dsimp only [wkeys]); decide +kernel) | exact rfl))
      refine then_n ?_
      (apply awp_cond; exact rfl)
      ((refine im_ot (fun hc_ => ?_)); (try simp only [Bool.not_eq_true', Bool.not_eq_false', Bool.or_eq_true, Bool.and_eq_true, Bool.or_eq_false_iff, Bool.and_eq_false_iff, decide_eq_true_eq, decide_eq_false_iff_not, Decidable.not_not, Int.not_lt, Int.not_le, Bool.not_true, Bool.not_false, Bool.true_and, Bool.and_true, Bool.false_or, Bool.or_false, Bool.true_or, Bool.false_and, bne_eq_false_iff_eq, bne_iff_ne, beq_iff_eq, beq_eq_false_iff_ne, decide_eq_decide] at hc_))
      refine awp_seq ?_
      ((refine ao_region ?_ (fun _ => ?_)); exact rfl)
      (apply S_assign; exact rfl)
      refine ao_nil ?_
      refine then_n ?_
      refine awp_ret ?_
      refine then_r ?_
      refine blk_r ?_
      iterate 2 refine then_r ?_
      iterate 2 refine blk_r ?_
      iterate 2 refine then_r ?_
      refine blk_r ?_
      refine then_r ?_
      rotate_left
      refine im_of ?_
      refine im_bf ?_
      (refine im_vt (fun _ => ?_))
      ((refine im_af (fun hc_ => ?_)); (try simp only [Bool.not_eq_true', Bool.not_eq_false', Bool.or_eq_true, Bool.and_eq_true, Bool.or_eq_false_iff, Bool.and_eq_false_iff, decide_eq_true_eq, decide_eq_false_iff_not, Decidable.not_not, Int.not_lt, Int.not_le, Bool.not_true, Bool.not_false, Bool.true_and, Bool.and_true, Bool.false_or, Bool.or_false, Bool.true_or, Bool.false_and, bne_eq_false_iff_eq, bne_iff_ne, beq_iff_eq, beq_eq_false_iff_ne, decide_eq_decide] at hc_))
      refine awp_skip ?_
      refine then_n ?_
      refine awp_seq ?_
      ((refine ao_region ?_ (fun _ => ?_)); exact rfl)
      (apply S_assign; exact rfl)
      refine ao_nil ?_
      refine then_n ?_
      refine awp_block ?_
      rotate_left
      ((refine im_df (fun _ => ?_)); (try (exfalso; omega)))
      refine awp_exit ?_
      iterate 2 refine then_x ?_
      refine blk_x ?_
      refine blk_n ?_
      refine then_n ?_
      ((refine ao_region ?_ (fun _ => ?_)); exact rfl)
      (apply S_move; exact rfl)
      (apply S_add64; exact rfl; exact rfl; omega)
      (apply S_assign; exact rfl)
      refine ao_nil ?_
      refine then_n ?_
      rotate_left
      · exfalso
        subst hcoG
        rcases hc_ with h9 | ⟨h9, h10⟩
        · exact h9 (ord_1 hc0 h24 (by omega) (by omega))
        · obtain ⟨e1, e2, e3, e4⟩ := ord_2 hc0 h24 (by omega) (by omega) h10
          rcases h9 with ((h9 | h9) | h9) | h9
          · exact e1 h9
          · rw [e2] at h9; cases h9
          · rw [e3] at h9; cases h9
          · exact h9 e4
      · refine awp_loop (X := Nat) (fun c => tmL [(1, .d (.pt (exRow x) 0)), (4, .d (.pt (isTV co) 0)), (6, .int .i64 a), (7, .int .i64 b), (9, .int .i64 c)]) (fun _ => stL []) (fun c => c ≤ x.evs.length) (fun c => x.evs.length - c) 0 (Nat.zero_le _) (by repeat' (first | exact le_nil _ | exact sle_nil _ | refine le_cons rfl ?_ | refine sle_cons rfl ?_)) (by repeat' (first | exact le_nil _ | exact sle_nil _ | refine le_cons rfl ?_ | refine sle_cons rfl ?_)) ?_
        intro c hcx
        iterate 2 refine awp_seq ?_
        ((refine ao_region ?_ (fun _ => ?_)); exact rfl)
        (apply S_move; exact rfl)
        (apply S_fieldAddr_pt; exact rfl; exact rfl; exact rfl; exact rfl; decide; exact rfl)
        (apply S_load_pt; exact rfl; exact rfl; exact rfl; exact rfl)
        (apply S_len; exact rfl; exact rfl; exact rfl; (first | exact len_ints _ | exact len_map _ _ _ | exact len_sl _ _ | exact len_os _ _ _ _ | exact len_vw _ _ _ _ _ | exact len_nil))
        (apply S_lss; exact rfl; exact rfl)
        refine ao_nil ?_
        refine then_n ?_
        (apply awp_cond; exact rfl)
        ((refine im_dt (fun _ => ?_)); (try (exfalso; omega)))
        refine awp_skip ?_
        refine then_n ?_
        refine awp_seq ?_
        refine awp_block ?_
        refine awp_seq ?_
        ((refine ao_region ?_ (fun _ => ?_)); exact rfl)
        iterate 2 (apply S_move; exact rfl)
        iterate 2 (apply S_indexAddr_ptA; exact rfl; exact rfl; exact rfl; exact rfl; exact rfl; omega)
        ((first | (apply D_load_pt; exact rfl; exact rfl; exact rfl; exact isTV_get (by show 0 + _ * 24 + _ * 1 < 576; omega)) | (apply S_load_pt; exact rfl; exact rfl; exact rfl; exact isTV_get (by show 0 + _ * 24 + _ * 1 < 576; omega))))
        (apply S_move; exact rfl)
        (apply spec_t; exact rfl; exact rfl)
        ((refine im_any (fun hc_ => ?_)); (try have hc1_ := (band hc_).1))
        (apply M_move; (first | (refine EvM.mb _ rfl ?_; first | assumption | exact rfl) | exact EvM.plain rfl rfl))
        (apply spec_t; exact rfl; exact rfl)
        ((refine im_any (fun hc_ => ?_)); (try have hc1_ := (band hc_).1))
        (apply M_move; (first | (refine EvM.mb _ rfl ?_; first | assumption | exact rfl) | exact EvM.plain rfl rfl))
        (apply spec_t; exact rfl; exact rfl)
        ((refine im_any (fun hc_ => ?_)); (try have hc1_ := (band hc_).1))
        ((have hp_ := hc_; (try simp only [Bool.not_eq_true', Bool.not_eq_false', Bool.or_eq_true, Bool.and_eq_true, Bool.or_eq_false_iff, Bool.and_eq_false_iff, decide_eq_true_eq, decide_eq_false_iff_not, Decidable.not_not, Int.not_lt, Int.not_le, Bool.not_true, Bool.not_false, Bool.true_and, Bool.and_true, Bool.false_or, Bool.or_false, Bool.true_or, Bool.false_and, bne_eq_false_iff_eq, bne_iff_ne, beq_iff_eq, beq_eq_false_iff_ne, decide_eq_decide] at hp_)))
        (apply M_indexAddr_ptA; exact rfl; exact rfl; exact rfl; (first | (refine EvM.mb _ rfl ?_; first | assumption | exact rfl) | exact EvM.plain rfl rfl); (first | (refine EvM.mb _ rfl ?_; first | assumption | exact rfl) | exact EvM.plain rfl rfl); omega)
        (apply spec_t; exact rfl; exact rfl)
        ((refine im_any (fun hc_ => ?_)); (try have hc1_ := (band hc_).1))
        ((have hp_ := hc_; (try simp only [Bool.not_eq_true', Bool.not_eq_false', Bool.or_eq_true, Bool.and_eq_true, Bool.or_eq_false_iff, Bool.and_eq_false_iff, decide_eq_true_eq, decide_eq_false_iff_not, Decidable.not_not, Int.not_lt, Int.not_le, Bool.not_true, Bool.not_false, Bool.true_and, Bool.and_true, Bool.false_or, Bool.or_false, Bool.true_or, Bool.false_and, bne_eq_false_iff_eq, bne_iff_ne, beq_iff_eq, beq_eq_false_iff_ne, decide_eq_decide] at hp_)))
        (apply M_indexAddr_ptA; exact rfl; exact rfl; exact rfl; (first | (refine EvM.mb _ rfl ?_; first | assumption | exact rfl) | exact EvM.plain rfl rfl); (first | (refine EvM.mb _ rfl ?_; first | assumption | exact rfl) | exact EvM.plain rfl rfl); omega)
        (apply spec_t; exact rfl; exact rfl)
        ((refine im_any (fun hc_ => ?_)); (try have hc1_ := (band hc_).1))
        ((have hp_ := hc_; (try simp only [Bool.not_eq_true', Bool.not_eq_false', Bool.or_eq_true, Bool.and_eq_true, Bool.or_eq_false_iff, Bool.and_eq_false_iff, decide_eq_true_eq, decide_eq_false_iff_not, Decidable.not_not, Int.not_lt, Int.not_le, Bool.not_true, Bool.not_false, Bool.true_and, Bool.and_true, Bool.false_or, Bool.or_false, Bool.true_or, Bool.false_and, bne_eq_false_iff_eq, bne_iff_ne, beq_iff_eq, beq_eq_false_iff_ne, decide_eq_decide] at hp_)))
        ((apply M_load_pt; exact rfl; exact rfl; (first | (refine EvM.mb _ rfl ?_; first | assumption | exact rfl) | exact EvM.plain rfl rfl); exact isTV_get (by show 0 + _ * 24 + _ * 1 < 576; omega)))
        (apply S_pick_and; (first | (refine EvM.mb _ rfl ?_; first | assumption | exact rfl) | exact EvM.plain rfl rfl); (first | (refine EvB.mb _ rfl ?_; first | exact fun h => h | exact fun h => bnot_mk h | exact fun h => band_mk (by assumption) h | exact fun h => band_mk (by assumption) (bnot_mk h) | (intro h; simp_all)) | exact EvB.plain rfl); exact rfl)
        (apply S_move; exact rfl)
        (apply spec_t; exact rfl; exact rfl)
        ((refine im_any (fun hc_ => ?_)); (try have hc1_ := (band hc_).1))
        (apply M_move; (first | (refine EvM.mb _ rfl ?_; first | assumption | exact rfl) | exact EvM.plain rfl rfl))
        (apply spec_t; exact rfl; exact rfl)
        ((refine im_any (fun hc_ => ?_)); (try have hc1_ := (band hc_).1))
        (apply M_move; (first | (refine EvM.mb _ rfl ?_; first | assumption | exact rfl) | exact EvM.plain rfl rfl))
        (apply spec_t; exact rfl; exact rfl)
        ((refine im_any (fun hc_ => ?_)); (try have hc1_ := (band hc_).1))
        ((have hp_ := hc_; (try simp only [Bool.not_eq_true', Bool.not_eq_false', Bool.or_eq_true, Bool.and_eq_true, Bool.or_eq_false_iff, Bool.and_eq_false_iff, decide_eq_true_eq, decide_eq_false_iff_not, Decidable.not_not, Int.not_lt, Int.not_le, Bool.not_true, Bool.not_false, Bool.true_and, Bool.and_true, Bool.false_or, Bool.or_false, Bool.true_or, Bool.false_and, bne_eq_false_iff_eq, bne_iff_ne, beq_iff_eq, beq_eq_false_iff_ne, decide_eq_decide] at hp_)))
        (apply M_indexAddr_ptA; exact rfl; exact rfl; exact rfl; (first | (refine EvM.mb _ rfl ?_; first | assumption | exact rfl) | exact EvM.plain rfl rfl); (first | (refine EvM.mb _ rfl ?_; first | assumption | exact rfl) | exact EvM.plain rfl rfl); omega)
        (apply spec_t; exact rfl; exact rfl)
        ((refine im_any (fun hc_ => ?_)); (try have hc1_ := (band hc_).1))
        ((have hp_ := hc_; (try simp only [Bool.not_eq_true', Bool.not_eq_false', Bool.or_eq_true, Bool.and_eq_true, Bool.or_eq_false_iff, Bool.and_eq_false_iff, decide_eq_true_eq, decide_eq_false_iff_not, Decidable.not_not, Int.not_lt, Int.not_le, Bool.not_true, Bool.not_false, Bool.true_and, Bool.and_true, Bool.false_or, Bool.or_false, Bool.true_or, Bool.false_and, bne_eq_false_iff_eq, bne_iff_ne, beq_iff_eq, beq_eq_false_iff_ne, decide_eq_decide] at hp_)))
        (apply M_indexAddr_ptA; exact rfl; exact rfl; exact rfl; (first | (refine EvM.mb _ rfl ?_; first | assumption | exact rfl) | exact EvM.plain rfl rfl); (first | (refine EvM.mb _ rfl ?_; first | assumption | exact rfl) | exact EvM.plain rfl rfl); omega)
        (apply spec_t; exact rfl; exact rfl)
        ((refine im_any (fun hc_ => ?_)); (try have hc1_ := (band hc_).1))
        ((have hp_ := hc_; (try simp only [Bool.not_eq_true', Bool.not_eq_false', Bool.or_eq_true, Bool.and_eq_true, Bool.or_eq_false_iff, Bool.and_eq_false_iff, decide_eq_true_eq, decide_eq_false_iff_not, Decidable.not_not, Int.not_lt, Int.not_le, Bool.not_true, Bool.not_false, Bool.true_and, Bool.and_true, Bool.false_or, Bool.or_false, Bool.true_or, Bool.false_and, bne_eq_false_iff_eq, bne_iff_ne, beq_iff_eq, beq_eq_false_iff_ne, decide_eq_decide] at hp_)))
        ((apply M_load_pt; exact rfl; exact rfl; (first | (refine EvM.mb _ rfl ?_; first | assumption | exact rfl) | exact EvM.plain rfl rfl); exact isTV_get (by show 0 + _ * 24 + _ * 1 < 576; omega)))
        (apply spec_t; exact rfl; exact rfl)
        ((refine im_any (fun hc_ => ?_)); (try have hc1_ := (band hc_).1))
        (apply M_not; (first | (refine EvM.mb _ rfl ?_; first | assumption | exact rfl) | exact EvM.plain rfl rfl))
        (apply S_pick_and; (first | (refine EvM.mb _ rfl ?_; first | assumption | exact rfl) | exact EvM.plain rfl rfl); (first | (refine EvB.mb _ rfl ?_; first | exact fun h => h | exact fun h => bnot_mk h | exact fun h => band_mk (by assumption) h | exact fun h => band_mk (by assumption) (bnot_mk h) | (intro h; simp_all)) | exact EvB.plain rfl); exact rfl)
        refine ao_nil ?_
        refine then_n ?_
        (apply awp_cond; exact rfl)
        iterate 2 refine im_at ?_
        iterate 2 (refine im_vt (fun _ => ?_))
        refine im_bt ?_
        (refine im_vf (fun _ => ?_))
        refine awp_seq ?_
        ((refine ao_region ?_ (fun _ => ?_)); exact rfl)
        (apply S_assign; exact rfl)
        refine ao_nil ?_
        refine then_n ?_
        refine awp_ret ?_
        refine blk_r ?_
        iterate 2 refine then_r ?_
        iterate 2 refine blk_r ?_
        iterate 2 refine then_r ?_
        iterate 2 refine blk_r ?_
        iterate 2 refine then_r ?_
        refine blk_r ?_
        refine then_r ?_
        rotate_left
        ((refine im_af (fun hc_ => ?_)); (try simp only [Bool.not_eq_true', Bool.not_eq_false', Bool.or_eq_true, Bool.and_eq_true, Bool.or_eq_false_iff, Bool.and_eq_false_iff, decide_eq_true_eq, decide_eq_false_iff_not, Decidable.not_not, Int.not_lt, Int.not_le, Bool.not_true, Bool.not_false, Bool.true_and, Bool.and_true, Bool.false_or, Bool.or_false, Bool.true_or, Bool.false_and, bne_eq_false_iff_eq, bne_iff_ne, beq_iff_eq, beq_eq_false_iff_ne, decide_eq_decide] at hc_))
        refine awp_skip ?_
        refine blk_n ?_
        refine then_n ?_
        ((refine ao_region ?_ (fun _ => ?_)); exact rfl)
        (apply S_move; exact rfl)
        (apply S_add64; exact rfl; exact rfl; omega)
        (apply S_assign; exact rfl)
        refine ao_nil ?_
        refine then_n ?_
        rotate_left
        ((refine im_df (fun _ => ?_)); (try (exfalso; omega)))
        refine awp_exit ?_
        iterate 2 refine then_x ?_
        refine blk_x ?_
        refine blk_n ?_
        refine then_n ?_
        ((refine ao_region ?_ (fun _ => ?_)); exact rfl)
        (apply S_move; exact rfl)
        (apply S_add64; exact rfl; exact rfl; omega)
        (apply S_assign; exact rfl)
        refine ao_nil ?_
        refine then_n ?_
        rotate_left
        · exfalso
          rename_i g1 g2 g3 _
          subst hcoG
          have g4 := ord_3 hc0 h24 (a := a) (b := b) (c := c) (by omega) (by omega) (by omega) g1 g2
          exact Bool.noConfusion (g4.symm.trans g3)
        · exact round' (c + 1) (by omega) (by omega) (by repeat' (first | exact le_nil _ | exact sle_nil _ | refine le_cons rfl ?_ | refine sle_cons rfl ?_)) (by repeat' (first | exact le_nil _ | exact sle_nil _ | refine le_cons rfl ?_ | refine sle_cons rfl ?_))
        · exact round' (b + 1) (by omega) (by omega) (by repeat' (first | exact le_nil _ | exact sle_nil _ | refine le_cons rfl ?_ | refine sle_cons rfl ?_)) (by repeat' (first | exact le_nil _ | exact sle_nil _ | refine le_cons rfl ?_ | refine sle_cons rfl ?_))
      · refine round' (a + 1) (by omega) (by omega) (by repeat' (first | exact le_nil _ | exact sle_nil _ | refine le_cons rfl ?_ | refine sle_cons rfl ?_)) (by repeat' (first | exact le_nil _ | exact sle_nil _ | refine le_cons rfl ?_ | refine sle_cons rfl ?_))
    have hfz := pair_fz
    have f178 : Frozen 178 := ⟨trivial⟩
    have f180 : Frozen 180 := ⟨trivial⟩
    have hmf : ∀ i, i < (frF x).length → (frF x).getD i default ∈ frF x := fun i hi => by
      rw [List.getD_eq_getElem?_getD, List.getElem?_eq_getElem hi]; exact List.getElem_mem _
    have hmr : ∀ i, i < (rfF x).length → (rfF x).getD i default ∈ rfF x := fun i hi => by
      rw [List.getD_eq_getElem?_getD, List.getElem?_eq_getElem hi]; exact List.getElem_mem _
    have hl4 : ∀ i k, i < (frF x).length → k < (rfF x).length → ((frF x).getD i default).1 = ((rfF x).getD k default).2 → ((frF x).getD i default).2 = ((rfF x).getD k default).1 → False := fun i k hi hk => ord_4 hc0 (hmf i hi) (hmr k hk)
    have hfl : (frF x).length ≤ 64 * 262144 := by
      have h1 := frTo_len (rfF x) (coF x) (rfF x).length (Nat.le_refl _)
      have h2 : (rfF x).length * (coF x).length ≤ 64 * 262144 := Nat.mul_le_mul (rf_facts x).2 (co_facts x).2
      unfold frF
      rw [sortZ_length]
      unfold frZ
      omega
    have hrl := (rf_facts x).2
    clear hmf hmr
    generalize frF x = fr at hfr hl4 hfl
    generalize rfF x = rf at hrf hl4 hrl
    ((first | (apply D_ownF; assumption; exact rfl; exact .fn _ _ _; exact rfl; (first | exact hfr | exact hrf); exact hfz _; exact rfl)))
    (apply D_load_ptA; exact rfl; exact rfl; exact rfl; exact Nat.le_of_ble_eq_true rfl)
    ((first | (apply D_ownF; assumption; exact rfl; exact .fn _ _ _; exact rfl; (first | exact hfr | exact hrf); exact hfz _; exact rfl)))
    iterate 2 (apply D_assign; exact rfl)
    (refine do_nil ?_ ?_; (first | ((try dsimp only [wkeys]); decide +kernel) | exact rfl))
    refine then_n ?_
    iterate 2 refine awp_seq ?_
    ((refine ao_region ?_ (fun _ => ?_)); exact rfl)
    (apply S_assign; exact rfl)
    refine ao_nil ?_
    refine then_n ?_
    refine awp_block ?_
    rotate_left
    refine awp_loop (X := Nat) (fun i => tmL [(10, .d (pairsTV fr)), (11, .d (pairsTV rf)), (12, .int .i64 i)]) (fun _ => stL []) (fun i => i ≤ fr.length) (fun i => fr.length - i) 0 (Nat.zero_le _) (by repeat' (first | exact le_nil _ | exact sle_nil _ | refine le_cons rfl ?_ | refine sle_cons rfl ?_)) (by repeat' (first | exact le_nil _ | exact sle_nil _ | refine le_cons rfl ?_ | refine sle_cons rfl ?_)) ?_
    intro i hi
    iterate 2 refine awp_seq ?_
    ((refine ao_region ?_ (fun _ => ?_)); exact rfl)
    iterate 2 (apply S_move; exact rfl)
    (apply S_len; exact rfl; exact rfl; exact rfl; (first | exact len_ints _ | exact len_map _ _ _ | exact len_sl _ _ | exact len_os _ _ _ _ | exact len_vw _ _ _ _ _ | exact len_nil))
    (apply S_lss; exact rfl; exact rfl)
    refine ao_nil ?_
    refine then_n ?_
    (apply awp_cond; exact rfl)
    ((refine im_dt (fun _ => ?_)); (try (exfalso; omega)))
    refine awp_skip ?_
    refine then_n ?_
    refine awp_seq ?_
    refine awp_block ?_
    refine awp_seq ?_
    ((refine ao_region ?_ (fun _ => ?_)); exact rfl)
    (apply S_assign; exact rfl)
    refine ao_nil ?_
    refine then_n ?_
    refine awp_block ?_
    rotate_left
    ((refine im_df (fun _ => ?_)); (try (exfalso; omega)))
    refine awp_exit ?_
    iterate 2 refine then_x ?_
    refine blk_x ?_
    refine then_n ?_
    refine awp_seq ?_
    ((refine ao_region ?_ (fun _ => ?_)); exact rfl)
    (first
      | (apply S_call; exact rfl; exact .fn _ _ _; exact rfl; exact known_p)
      | (apply D_call; exact rfl; exact .fn _ _ _; exact rfl; exact known_p))
    (apply S_assign; exact rfl)
    refine ao_nil ?_
    refine then_n ?_
    refine awp_ret ?_
    rotate_left
    · refine awp_loop (X := Nat) (fun k => tmL [(10, .d (pairsTV fr)), (11, .d (pairsTV rf)), (12, .int .i64 i), (13, .int .i64 k)]) (fun _ => stL []) (fun k => k ≤ rf.length) (fun k => rf.length - k) 0 (Nat.zero_le _) (by repeat' (first | exact le_nil _ | exact sle_nil _ | refine le_cons rfl ?_ | refine sle_cons rfl ?_)) (by repeat' (first | exact le_nil _ | exact sle_nil _ | refine le_cons rfl ?_ | refine sle_cons rfl ?_)) ?_
      intro k hk
      iterate 2 refine awp_seq ?_
      ((refine ao_region ?_ (fun _ => ?_)); exact rfl)
      iterate 2 (apply S_move; exact rfl)
      (apply S_len; exact rfl; exact rfl; exact rfl; (first | exact len_ints _ | exact len_map _ _ _ | exact len_sl _ _ | exact len_os _ _ _ _ | exact len_vw _ _ _ _ _ | exact len_nil))
      (apply S_lss; exact rfl; exact rfl)
      refine ao_nil ?_
      refine then_n ?_
      (apply awp_cond; exact rfl)
      ((refine im_dt (fun _ => ?_)); (try (exfalso; omega)))
      refine awp_skip ?_
      refine then_n ?_
      refine awp_seq ?_
      refine awp_block ?_
      refine awp_seq ?_
      ((refine do_region (E := E) ?_ (fun _ => ?_)); exact rfl)
      iterate 2 (apply D_move; exact rfl)
      (apply D_indexAddr_sl; exact rfl; exact rfl; exact rfl; exact rfl; exact rfl; exact rfl; omega; (first | exact get_int (by omega) | exact get_map (by omega) default | assumption))
      (apply D_fieldAddr_pt; exact rfl; exact rfl; exact rfl; exact rfl; decide; exact rfl)
      (apply D_load_pt; exact rfl; exact rfl; exact rfl; exact rfl)
      iterate 2 (apply D_move; exact rfl)
      (apply D_indexAddr_sl; exact rfl; exact rfl; exact rfl; exact rfl; exact rfl; exact rfl; omega; (first | exact get_int (by omega) | exact get_map (by omega) default | assumption))
      (apply D_fieldAddr_pt; exact rfl; exact rfl; exact rfl; exact rfl; decide; exact rfl)
      (apply D_load_pt; exact rfl; exact rfl; exact rfl; exact rfl)
      (apply D_eql; exact rfl; exact rfl)
      (apply D_move; exact rfl)
      (apply dspec_t; exact rfl; exact rfl)
      ((refine im_any (fun hc_ => ?_)); (try have hc1_ := (band hc_).1))
      (apply M_move; (first | (refine EvM.mb _ rfl ?_; first | assumption | exact rfl) | exact EvM.plain rfl rfl))
      (apply dspec_t; exact rfl; exact rfl)
      ((refine im_any (fun hc_ => ?_)); (try have hc1_ := (band hc_).1))
      (apply M_move; (first | (refine EvM.mb _ rfl ?_; first | assumption | exact rfl) | exact EvM.plain rfl rfl))
      (apply dspec_t; exact rfl; exact rfl)
      ((refine im_any (fun hc_ => ?_)); (try have hc1_ := (band hc_).1))
      ((have hp_ := hc_; (try simp only [Bool.not_eq_true', Bool.not_eq_false', Bool.or_eq_true, Bool.and_eq_true, Bool.or_eq_false_iff, Bool.and_eq_false_iff, decide_eq_true_eq, decide_eq_false_iff_not, Decidable.not_not, Int.not_lt, Int.not_le, Bool.not_true, Bool.not_false, Bool.true_and, Bool.and_true, Bool.false_or, Bool.or_false, Bool.true_or, Bool.false_and, bne_eq_false_iff_eq, bne_iff_ne, beq_iff_eq, beq_eq_false_iff_ne, decide_eq_decide] at hp_)))
      (apply M_indexAddr_sl; exact rfl; exact rfl; exact rfl; exact rfl; (first | (refine EvM.mb _ rfl ?_; first | assumption | exact rfl) | exact EvM.plain rfl rfl); (first | (refine EvM.mb _ rfl ?_; first | assumption | exact rfl) | exact EvM.plain rfl rfl); omega; (first | exact get_int (by omega) | exact get_map (by omega) default | assumption))
      (apply dspec_t; exact rfl; exact rfl)
      ((refine im_any (fun hc_ => ?_)); (try have hc1_ := (band hc_).1))
      (apply M_fieldAddr_pt; exact rfl; exact rfl; exact rfl; exact rfl; decide; (first | (refine EvM.mb _ rfl ?_; first | assumption | exact rfl) | exact EvM.plain rfl rfl))
      (apply dspec_t; exact rfl; exact rfl)
      ((refine im_any (fun hc_ => ?_)); (try have hc1_ := (band hc_).1))
      (apply M_load_pt; exact rfl; exact rfl; (first | (refine EvM.mb _ rfl ?_; first | assumption | exact rfl) | exact EvM.plain rfl rfl); exact rfl)
      (apply dspec_t; exact rfl; exact rfl)
      ((refine im_any (fun hc_ => ?_)); (try have hc1_ := (band hc_).1))
      (apply M_move; (first | (refine EvM.mb _ rfl ?_; first | assumption | exact rfl) | exact EvM.plain rfl rfl))
      (apply dspec_t; exact rfl; exact rfl)
      ((refine im_any (fun hc_ => ?_)); (try have hc1_ := (band hc_).1))
      (apply M_move; (first | (refine EvM.mb _ rfl ?_; first | assumption | exact rfl) | exact EvM.plain rfl rfl))
      (apply dspec_t; exact rfl; exact rfl)
      ((refine im_any (fun hc_ => ?_)); (try have hc1_ := (band hc_).1))
      ((have hp_ := hc_; (try simp only [Bool.not_eq_true', Bool.not_eq_false', Bool.or_eq_true, Bool.and_eq_true, Bool.or_eq_false_iff, Bool.and_eq_false_iff, decide_eq_true_eq, decide_eq_false_iff_not, Decidable.not_not, Int.not_lt, Int.not_le, Bool.not_true, Bool.not_false, Bool.true_and, Bool.and_true, Bool.false_or, Bool.or_false, Bool.true_or, Bool.false_and, bne_eq_false_iff_eq, bne_iff_ne, beq_iff_eq, beq_eq_false_iff_ne, decide_eq_decide] at hp_)))
      (apply M_indexAddr_sl; exact rfl; exact rfl; exact rfl; exact rfl; (first | (refine EvM.mb _ rfl ?_; first | assumption | exact rfl) | exact EvM.plain rfl rfl); (first | (refine EvM.mb _ rfl ?_; first | assumption | exact rfl) | exact EvM.plain rfl rfl); omega; (first | exact get_int (by omega) | exact get_map (by omega) default | assumption))
      (apply dspec_t; exact rfl; exact rfl)
      ((refine im_any (fun hc_ => ?_)); (try have hc1_ := (band hc_).1))
      (apply M_fieldAddr_pt; exact rfl; exact rfl; exact rfl; exact rfl; decide; (first | (refine EvM.mb _ rfl ?_; first | assumption | exact rfl) | exact EvM.plain rfl rfl))
      (apply dspec_t; exact rfl; exact rfl)
      ((refine im_any (fun hc_ => ?_)); (try have hc1_ := (band hc_).1))
      (apply M_load_pt; exact rfl; exact rfl; (first | (refine EvM.mb _ rfl ?_; first | assumption | exact rfl) | exact EvM.plain rfl rfl); exact rfl)
      (apply dspec_t; exact rfl; exact rfl)
      ((refine im_any (fun hc_ => ?_)); (try have hc1_ := (band hc_).1))
      (apply M_eql; (first | (refine EvM.mb _ rfl ?_; first | assumption | exact rfl) | exact EvM.plain rfl rfl); (first | (refine EvM.mb _ rfl ?_; first | assumption | exact rfl) | exact EvM.plain rfl rfl))
      (apply D_pick_and; (first | (refine EvM.mb _ rfl ?_; first | assumption | exact rfl) | exact EvM.plain rfl rfl); (first | (refine EvB.mb _ rfl ?_; first | exact fun h => h | exact fun h => bnot_mk h | exact fun h => band_mk (by assumption) h | exact fun h => band_mk (by assumption) (bnot_mk h) | (intro h; simp_all)) | exact EvB.plain rfl); exact rfl)
      (refine do_nil ?_ ?_; (first | ((try dsimp only [wkeys]); decide +kernel) | exact rfl))
      refine then_n ?_
      (apply awp_cond; exact rfl)
      refine im_at ?_
      iterate 2 ((refine im_dt (fun _ => ?_)); (try (exfalso; omega)))
      refine awp_seq ?_
      ((refine ao_region ?_ (fun _ => ?_)); exact rfl)
      (apply S_assign; exact rfl)
      refine ao_nil ?_
      refine then_n ?_
      refine awp_ret ?_
      refine blk_r ?_
      iterate 2 refine then_r ?_
      iterate 2 refine blk_r ?_
      iterate 2 refine then_r ?_
      refine blk_r ?_
      refine then_r ?_
      rotate_left
      ((refine im_af (fun hc_ => ?_)); (try simp only [Bool.not_eq_true', Bool.not_eq_false', Bool.or_eq_true, Bool.and_eq_true, Bool.or_eq_false_iff, Bool.and_eq_false_iff, decide_eq_true_eq, decide_eq_false_iff_not, Decidable.not_not, Int.not_lt, Int.not_le, Bool.not_true, Bool.not_false, Bool.true_and, Bool.and_true, Bool.false_or, Bool.or_false, Bool.true_or, Bool.false_and, bne_eq_false_iff_eq, bne_iff_ne, beq_iff_eq, beq_eq_false_iff_ne, decide_eq_decide] at hc_))
      refine awp_skip ?_
      refine blk_n ?_
      refine then_n ?_
      ((refine ao_region ?_ (fun _ => ?_)); exact rfl)
      (apply S_move; exact rfl)
      (apply S_add64; exact rfl; exact rfl; omega)
      (apply S_assign; exact rfl)
      refine ao_nil ?_
      refine then_n ?_
      rotate_left
      ((refine im_df (fun _ => ?_)); (try (exfalso; omega)))
      refine awp_exit ?_
      iterate 2 refine then_x ?_
      refine blk_x ?_
      refine blk_n ?_
      refine then_n ?_
      ((refine ao_region ?_ (fun _ => ?_)); exact rfl)
      (apply S_move; exact rfl)
      (apply S_add64; exact rfl; exact rfl; omega)
      (apply S_assign; exact rfl)
      refine ao_nil ?_
      refine then_n ?_
      rotate_left
      · rename_i g1 g2 _
        exact (hl4 i k (by omega) (by omega) g1 g2).elim
      · exact round' (k + 1) (by omega) (by omega) (by repeat' (first | exact le_nil _ | exact sle_nil _ | refine le_cons rfl ?_ | refine sle_cons rfl ?_)) (by repeat' (first | exact le_nil _ | exact sle_nil _ | refine le_cons rfl ?_ | refine sle_cons rfl ?_))
      · exact round' (i + 1) (by omega) (by omega) (by repeat' (first | exact le_nil _ | exact sle_nil _ | refine le_cons rfl ?_ | refine sle_cons rfl ?_)) (by repeat' (first | exact le_nil _ | exact sle_nil _ | refine le_cons rfl ?_ | refine sle_cons rfl ?_))
    · exact done_b rfl rfl
end Go.Proofs.Ytgeaaegkcbjhlaa
