/- The iterators of layer 6: Rf$1, Co$1, Fr$1, and Rf, Co, Fr, in plain data. -/
import Derived.Test.YtgeaaegkcbjhlaaSf
import Derived.Test.YtgeaaegkcbjhlaaDa
import Derived.Test.YtgeaaegkcbjhlaaBr
import Derived.Test.YtgeaaegkcbjhlaaRfC
set_option maxRecDepth 100000
set_option linter.unusedVariables false
set_option linter.unusedSimpArgs false
namespace Go.Proofs.Ytgeaaegkcbjhlaa
open Go.RowKit
def exRow (x : Ex) : List TV := [evsTV x.evs, ints x.from_, rowsTV x.order]
/-- the pairs of what is read, up to place k -/
def rfZ (zs : List Int) (k : Nat) : List (Int × Int) := (List.range k).filterMap fun b => if 0 ≤ zs.getD b 0 then some (zs.getD b 0, (b : Int)) else none
theorem rfZ_yes {zs : List Int} {k : Nat} (h : 0 ≤ zs.getD k 0) : rfZ zs (k + 1) = rfZ zs k ++ [(zs.getD k 0, (k : Int))] := by
  unfold rfZ
  rw [List.range_succ, List.filterMap_append]
  simp only [List.filterMap_cons, List.filterMap_nil, if_pos h]
theorem rfZ_no {zs : List Int} {k : Nat} (h : ¬ 0 ≤ zs.getD k 0) : rfZ zs (k + 1) = rfZ zs k := by
  unfold rfZ
  rw [List.range_succ, List.filterMap_append]
  simp only [List.filterMap_cons, List.filterMap_nil, if_neg h, List.append_nil]
theorem rfZ_pre (zs : List Int) : ∀ {a b : Nat}, a ≤ b → ∃ r, rfZ zs b = rfZ zs a ++ r := fun {a b} h => by
  induction b with
  | zero => have : a = 0 := by omega
            subst this; exact ⟨[], by simp⟩
  | succ b ih =>
    by_cases e : a = b + 1
    · subst e; exact ⟨[], by simp⟩
    · obtain ⟨r, hr⟩ := ih (by omega)
      by_cases hz : 0 ≤ zs.getD b 0
      · exact ⟨r ++ [(zs.getD b 0, (b : Int))], by rw [rfZ_yes hz, hr, List.append_assoc]⟩
      · exact ⟨r, by rw [rfZ_no hz, hr]⟩
/-- the i-th of the values is the one that comes next -/
theorem next_pair {l pre r : List (Int × Int)} {p : Int × Int} (h : l = pre ++ [p] ++ r) : pre.length < l.length ∧ (pairYs l).getD pre.length [] = [.ag (pairO' p)] := by
  have hlt : pre.length < l.length := by rw [h]; simp
  refine ⟨hlt, ?_⟩
  rw [pairYs_get l hlt, h]
  simp [List.getD]
set_option maxHeartbeats 4000000 in
theorem rf1_s (x : Ex) (hx : x.from_.length ≤ 65536) : SeqW E.P 46 [] [.d (.pt (exRow x) 0)] (pairYs (rfZ x.from_ x.from_.length)) := by
  intro Y k τ J m st hm h1 h2 hnd hbig hy l0 hl0
  have hlen : (pairYs (rfZ x.from_ x.from_.length)).length = (rfZ x.from_ x.from_.length).length := by simp [pairYs]
  rw [hlen] at hm h1
  refine fny_of_awp Try.func46 (by decide) rfl Try.ntmps46 (Nat.le_of_ble_eq_true rfl) rfl ?_
  refine awp_seq ?_
  ((refine ao_region ?_ (fun _ => ?_)); exact rfl)
  (apply S_fieldAddr_pt; exact rfl; exact rfl; exact rfl; exact rfl; decide; exact rfl)
  (apply S_load_pt; exact rfl; exact rfl; exact rfl; exact rfl)
  (apply S_len; exact rfl; exact rfl; exact rfl; (first | exact len_ints _ | exact len_map _ _ _ | exact len_sl _ _ | exact len_os _ _ _ _ | exact len_vw _ _ _ _ _ | exact len_nil))
  (apply S_move; exact rfl)
  refine ao_nil ?_
  refine then_n ?_
  refine awp_block ?_
  rotate_left
  refine awp_loop (X := Nat × Rows) (fun p => tmL [(0, .yl k τ), (6, .d (ints x.from_)), (7, .int .i64 x.from_.length), (8, .int .i64 p.1), (GS, .gh (rfZ x.from_ p.1).length Y)]) (fun p => stL p.2)
    (fun p => p.1 ≤ x.from_.length ∧ J (rfZ x.from_ p.1).length p.2 ∧ (st = true → (rfZ x.from_ p.1).length < m)) (fun p => x.from_.length - p.1) (0, l0) ⟨Nat.zero_le _, hl0, h2⟩ (by repeat' (first | exact le_nil _ | exact sle_nil _ | refine le_cons rfl ?_ | refine sle_cons rfl ?_)) (fun _ _ h => h) ?_
  rintro ⟨b, l⟩ ⟨hb, hJ, hst⟩
  dsimp only at hb hJ hst ⊢
  have hnext : b < x.from_.length → 0 ≤ x.from_.getD b 0 → (rfZ x.from_ b).length < m ∧ YieldW E.P Y k τ (rfZ x.from_ b).length ((rfZ x.from_ b).length + 1) [.ag (pairO' (x.from_.getD b 0, (b : Int)))] l (J ((rfZ x.from_ b).length + 1)) (!(st && (rfZ x.from_ b).length + 1 == m)) := fun hlt hz => by
    obtain ⟨r, hr⟩ := rfZ_pre x.from_ (show b + 1 ≤ x.from_.length from hlt)
    rw [rfZ_yes hz] at hr
    obtain ⟨e1, e2⟩ := next_pair hr
    have hlm : (rfZ x.from_ b).length < m := by
      cases st with
      | true => exact hst rfl
      | false => rw [h1 rfl]; exact e1
    have := hy _ l hlm hJ
    rw [e2] at this
    exact ⟨hlm, this⟩
  have hgo : ∀ {i : Nat}, i < m → (!(st && i + 1 == m)) = true → st = true → i + 1 < m := fun {i} h1 h2 h3 => by
    subst h3
    simp at h2; omega
  have hsto : ∀ {i : Nat}, (!(st && i + 1 == m)) = false → i + 1 = m := fun {i} h => by
    simp at h; exact h.2
  by_cases hlt : b < x.from_.length
  rotate_left
  · have hbe : b = x.from_.length := by omega
    subst hbe
    have hme : (rfZ x.from_ x.from_.length).length = m := by
      cases st with
      | true => have := hst rfl; omega
      | false => exact (h1 rfl).symm
    rw [hme] at hJ ⊢
    refine awp_seq ?_
    ((refine ao_region ?_ (fun _ => ?_)); exact rfl)
    (apply S_lss; exact rfl; exact rfl)
    refine ao_nil ?_
    refine then_n ?_
    refine awp_seq ?_
    (apply awp_cond; exact rfl)
    ((refine im_dt (fun _ => ?_)); (try (exfalso; omega)))
    ((refine im_df (fun _ => ?_)); (try (exfalso; omega)))
    refine awp_exit ?_
    iterate 2 refine then_x ?_
    refine blk_x ?_
    rotate_left
    exact ⟨Or.inl rfl, rfl, l, hJ, fun _ _ h => h⟩
  by_cases hz : 0 ≤ x.from_.getD b 0
  · obtain ⟨hlm, hY⟩ := hnext hlt hz
    have hz' : 0 ≤ x.from_.getD (b : Int).toNat 0 := by rw [Int.toNat_natCast]; exact hz
    rcases Bool.eq_false_or_eq_true (!(st && (rfZ x.from_ b).length + 1 == m)) with hans | hans
    · rw [hans] at hY
      refine awp_seq ?_
      ((refine ao_region ?_ (fun _ => ?_)); exact rfl)
      (apply S_lss; exact rfl; exact rfl)
      refine ao_nil ?_
      refine then_n ?_
      refine awp_seq ?_
      (apply awp_cond; exact rfl)
      ((refine im_dt (fun _ => ?_)); (try (exfalso; omega)))
      refine awp_skip ?_
      refine then_n ?_
      refine awp_seq ?_
      refine awp_block ?_
      refine awp_seq ?_
      ((refine ao_region ?_ (fun _ => ?_)); exact rfl)
      (apply S_move; exact rfl)
      (apply S_indexAddr_sl; exact rfl; exact rfl; exact rfl; exact rfl; exact rfl; exact rfl; omega; (first | exact get_int (by omega) | exact get_map (by omega) default | assumption))
      (apply S_load_pt; exact rfl; exact rfl; exact rfl; exact rfl)
      iterate 2 (apply S_assign; exact rfl)
      refine ao_nil ?_
      refine then_n ?_
      refine awp_seq ?_
      ((refine ao_region ?_ (fun _ => ?_)); exact rfl)
      (apply S_move; exact rfl)
      (apply S_geq; exact rfl; exact rfl)
      (apply S_move; exact rfl)
      (apply guard_t; exact rfl; exact rfl)
      ((refine im_dt (fun _ => ?_)); (try (exfalso; omega)))
      (apply S_move; exact rfl)
      (apply guard_t; exact rfl; exact rfl)
      refine im_tt ?_
      (apply S_move; exact rfl)
      (apply guard_t; exact rfl; exact rfl)
      refine im_tt ?_
      (apply S_move; exact rfl)
      (apply guard_t; exact rfl; exact rfl)
      refine im_tt ?_
      (apply S_build; exact rfl; exact rfl; exact rfl; exact rfl; exact rfl)
      (apply guard_t; exact rfl; exact rfl)
      refine im_tt ?_
      ((apply S_yield; exact rfl; exact rfl; exact rfl; exact hY; exact (fun _ _ h => h); exact hnd _; (intro l1 hl1)))
      (apply guard_t; exact rfl; exact rfl)
      refine im_tt ?_
      (apply S_not; exact rfl)
      (apply S_pick_and; (first | (refine EvM.mb _ rfl ?_; first | assumption | exact rfl) | exact EvM.plain rfl rfl); (first | (refine EvB.mb _ rfl ?_; first | exact fun h => h | exact fun h => bnot_mk h | exact fun h => band_mk (by assumption) h | exact fun h => band_mk (by assumption) (bnot_mk h) | (intro h; simp_all)) | exact EvB.plain rfl); exact rfl)
      refine ao_nil ?_
      refine then_n ?_
      (apply awp_cond; exact rfl)
      refine im_at ?_
      refine im_tt ?_
      refine im_bt ?_
      exact im_tf
      ((refine im_af (fun hc_ => ?_)); (try simp only [Bool.not_eq_true', Bool.not_eq_false', Bool.or_eq_true, Bool.and_eq_true, Bool.or_eq_false_iff, Bool.and_eq_false_iff, decide_eq_true_eq, decide_eq_false_iff_not, Decidable.not_not, Int.not_lt, Int.not_le, Bool.not_true, Bool.not_false, Bool.true_and, Bool.and_true, Bool.false_or, Bool.or_false, Bool.true_or, Bool.false_and, bne_eq_false_iff_eq, bne_iff_ne, beq_iff_eq, beq_eq_false_iff_ne, decide_eq_decide] at hc_))
      refine awp_skip ?_
      refine blk_n ?_
      refine then_n ?_
      ((refine ao_region ?_ (fun _ => ?_)); exact rfl)
      (apply S_add64; exact rfl; exact rfl; omega)
      (apply S_move; exact rfl)
      refine ao_nil ?_
      refine then_n ?_
      rotate_left
      iterate 5 exact im_tf
      iterate 2 ((refine im_df (fun _ => ?_)); (try (exfalso; omega)))
      refine round' (b + 1, l1) ⟨by dsimp only; omega, ?_, ?_⟩ (by dsimp only; omega) ?_ (out_le (hnd _ _ hl1))
      · dsimp only; rw [rfZ_yes hz, List.length_append]; exact hl1
      · dsimp only; rw [rfZ_yes hz, List.length_append]; exact hgo hlm hans
      · dsimp only
        rw [rfZ_yes hz, List.length_append]
        exact (by repeat' (first | exact le_nil _ | exact sle_nil _ | refine le_cons rfl ?_ | refine sle_cons rfl ?_))
    · rw [hans] at hY
      rw [hsto hans] at hY
      refine awp_seq ?_
      ((refine ao_region ?_ (fun _ => ?_)); exact rfl)
      (apply S_lss; exact rfl; exact rfl)
      refine ao_nil ?_
      refine then_n ?_
      refine awp_seq ?_
      (apply awp_cond; exact rfl)
      ((refine im_dt (fun _ => ?_)); (try (exfalso; omega)))
      refine awp_skip ?_
      refine then_n ?_
      refine awp_seq ?_
      refine awp_block ?_
      refine awp_seq ?_
      ((refine ao_region ?_ (fun _ => ?_)); exact rfl)
      (apply S_move; exact rfl)
      (apply S_indexAddr_sl; exact rfl; exact rfl; exact rfl; exact rfl; exact rfl; exact rfl; omega; (first | exact get_int (by omega) | exact get_map (by omega) default | assumption))
      (apply S_load_pt; exact rfl; exact rfl; exact rfl; exact rfl)
      iterate 2 (apply S_assign; exact rfl)
      refine ao_nil ?_
      refine then_n ?_
      refine awp_seq ?_
      ((refine ao_region ?_ (fun _ => ?_)); exact rfl)
      (apply S_move; exact rfl)
      (apply S_geq; exact rfl; exact rfl)
      (apply S_move; exact rfl)
      (apply guard_t; exact rfl; exact rfl)
      ((refine im_dt (fun _ => ?_)); (try (exfalso; omega)))
      (apply S_move; exact rfl)
      (apply guard_t; exact rfl; exact rfl)
      refine im_tt ?_
      (apply S_move; exact rfl)
      (apply guard_t; exact rfl; exact rfl)
      refine im_tt ?_
      (apply S_move; exact rfl)
      (apply guard_t; exact rfl; exact rfl)
      refine im_tt ?_
      (apply S_build; exact rfl; exact rfl; exact rfl; exact rfl; exact rfl)
      (apply guard_t; exact rfl; exact rfl)
      refine im_tt ?_
      ((apply S_yield; exact rfl; exact rfl; exact rfl; exact hY; exact (fun _ _ h => h); exact hnd _; (intro l1 hl1)))
      (apply guard_t; exact rfl; exact rfl)
      refine im_tt ?_
      (apply S_not; exact rfl)
      (apply S_pick_or; (first | (refine EvM.mb _ rfl ?_; first | assumption | exact rfl) | exact EvM.plain rfl rfl); exact rfl; (first | (refine EvB.mb _ rfl ?_; first | exact fun h => h | exact fun h => bnot_mk h | exact fun h => band_mk (by assumption) h | exact fun h => band_mk (by assumption) (bnot_mk h) | (intro h; simp_all)) | exact EvB.plain rfl))
      refine ao_nil ?_
      refine then_n ?_
      (apply awp_cond; exact rfl)
      ((refine im_ot (fun hc_ => ?_)); (try simp only [Bool.not_eq_true', Bool.not_eq_false', Bool.or_eq_true, Bool.and_eq_true, Bool.or_eq_false_iff, Bool.and_eq_false_iff, decide_eq_true_eq, decide_eq_false_iff_not, Decidable.not_not, Int.not_lt, Int.not_le, Bool.not_true, Bool.not_false, Bool.true_and, Bool.and_true, Bool.false_or, Bool.or_false, Bool.true_or, Bool.false_and, bne_eq_false_iff_eq, bne_iff_ne, beq_iff_eq, beq_eq_false_iff_ne, decide_eq_decide] at hc_))
      refine awp_ret ?_
      refine blk_r ?_
      iterate 2 refine then_r ?_
      refine blk_r ?_
      rotate_left
      refine im_of ?_
      iterate 6 exact im_tf
      iterate 2 ((refine im_df (fun _ => ?_)); (try (exfalso; omega)))
      exact ⟨Or.inr rfl, rfl, l1, hl1, out_le (hnd _ _ hl1)⟩
  · have hz' : ¬ 0 ≤ x.from_.getD (b : Int).toNat 0 := by rw [Int.toNat_natCast]; exact hz
    refine awp_seq ?_
    ((refine ao_region ?_ (fun _ => ?_)); exact rfl)
    (apply S_lss; exact rfl; exact rfl)
    refine ao_nil ?_
    refine then_n ?_
    refine awp_seq ?_
    (apply awp_cond; exact rfl)
    ((refine im_dt (fun _ => ?_)); (try (exfalso; omega)))
    refine awp_skip ?_
    refine then_n ?_
    refine awp_seq ?_
    refine awp_block ?_
    refine awp_seq ?_
    ((refine ao_region ?_ (fun _ => ?_)); exact rfl)
    (apply S_move; exact rfl)
    (apply S_indexAddr_sl; exact rfl; exact rfl; exact rfl; exact rfl; exact rfl; exact rfl; omega; (first | exact get_int (by omega) | exact get_map (by omega) default | assumption))
    (apply S_load_pt; exact rfl; exact rfl; exact rfl; exact rfl)
    iterate 2 (apply S_assign; exact rfl)
    refine ao_nil ?_
    refine then_n ?_
    refine awp_seq ?_
    ((refine ao_region ?_ (fun _ => ?_)); exact rfl)
    (apply S_move; exact rfl)
    (apply S_geq; exact rfl; exact rfl)
    (apply S_move; exact rfl)
    (apply guard_t; exact rfl; exact rfl)
    ((refine im_dt (fun _ => ?_)); (try (exfalso; omega)))
    ((refine im_df (fun _ => ?_)); (try (exfalso; omega)))
    (apply guard_t; exact rfl; exact rfl)
    exact im_ft
    refine im_ff ?_
    (apply guard_t; exact rfl; exact rfl)
    exact im_ft
    refine im_ff ?_
    (apply guard_t; exact rfl; exact rfl)
    exact im_ft
    refine im_ff ?_
    (apply guard_t; exact rfl; exact rfl)
    exact im_ft
    refine im_ff ?_
    (apply guard_t; exact rfl; exact rfl)
    exact im_ft
    refine im_ff ?_
    (apply S_pick_v; exact rfl)
    (apply pick_f; exact rfl)
    refine ao_nil ?_
    refine then_n ?_
    (apply awp_cond; exact rfl)
    exact im_ft
    refine im_ff ?_
    refine awp_skip ?_
    refine blk_n ?_
    refine then_n ?_
    ((refine ao_region ?_ (fun _ => ?_)); exact rfl)
    (apply S_add64; exact rfl; exact rfl; omega)
    (apply S_move; exact rfl)
    refine ao_nil ?_
    refine then_n ?_
    rotate_left
    ((refine im_df (fun _ => ?_)); (try (exfalso; omega)))
    refine round' (b + 1, l) ⟨by dsimp only; omega, ?_, ?_⟩ (by dsimp only; omega) ?_ (fun _ _ h => h)
    · dsimp only; rw [rfZ_no hz]; exact hJ
    · dsimp only; rw [rfZ_no hz]; exact hst
    · dsimp only
      rw [rfZ_no hz]
      exact (by repeat' (first | exact le_nil _ | exact sle_nil _ | refine le_cons rfl ?_ | refine sle_cons rfl ?_))
def rfF (x : Ex) : List (Int × Int) := if checkI x = 0 then sortZ (rfZ x.from_ x.from_.length) else []
/-- a small execution, as check takes it -/
def Ex.fit (x : Ex) : Prop := x.ok ∧ ∀ r ∈ x.order, r.2.length ≤ 65536
theorem rfZ_len (zs : List Int) (k : Nat) : (rfZ zs k).length ≤ k := by
  unfold rfZ
  refine Nat.le_trans (List.length_filterMap_le _ _) (by simp)
theorem rfZ_small {zs : List Int} {k : Nat} (hz : ∀ i, zs.getD i 0 < 65536) (hk : k ≤ 65536) : smallP (rfZ zs k) := fun p hp => by
  unfold rfZ at hp
  obtain ⟨b, hb, h⟩ := List.mem_filterMap.1 hp
  have hb := List.mem_range.1 hb
  split at h
  · rename_i h0
    cases h
    have := hz b
    dsimp only
    omega
  · cases h
set_option maxHeartbeats 4000000 in
theorem rf_s (x : Ex) (hx : x.fit) : Own E.P 25 [exOV x] 2 ((rfF x).map pairO') := by
  unfold rfF
  refine fn_of_awp Try.func25 (by decide) rfl Try.ntmps25 (Nat.le_of_ble_eq_true rfl) rfl ?_
  refine awp_seq ?_
  ((refine ao_region ?_ (fun _ => ?_)); exact rfl)
  (apply S_box; exact rfl; exact rfl; exact rfl)
  (apply S_nilA; exact rfl; exact rfl; exact rfl; exact rfl)
  refine ao_nil ?_
  rotate_left
  refine then_n ?_
  rename_i v0
  refine awp_freeze 1 (v0, 0) 3 [exRow x] (tmL [(1, .d (.pt (exRow x) 0))]) (stL []) rfl (fz_cons rfl (.lo 0 0 _ rfl) fz_nil) (by repeat' (first | exact fz_nil | exact fs_nil | (refine fz_cons rfl (froz_os ?_) ?_; (first | rfl | (simp; done))) | refine fz_cons rfl (.same _) ?_ | refine fs_cons (by decide) rfl (.same _) ?_)) ?_
  by_cases hc : checkI x = 0
  · rw [if_pos hc]
    obtain ⟨h1, h2, h3, h4⟩ := check_zero hc
    have hfl := from_len h3
    have hsm : smallP (rfZ x.from_ x.from_.length) := rfZ_small (fun i => by have := from_lt h3 i; omega) (by omega)
    have hln := rfZ_len x.from_ x.from_.length
    iterate 2 refine awp_seq ?_
    ((refine ao_region ?_ (fun _ => ?_)); exact rfl)
    (apply S_load_ptA; exact rfl; exact rfl; exact rfl; exact Nat.le_of_ble_eq_true rfl)
    ((first | (apply S_call; exact rfl; exact .fn _ _ _; exact rfl; exact check_p _ hx.1 hx.2) | (apply S_own; exact rfl; exact .fn _ _ _; exact rfl; exact pairs_s (.fn _ _ _) _ hsm (by omega) (rf1_s x (by omega)))))
    (apply S_neq; exact rfl; exact rfl)
    refine ao_nil ?_
    refine then_n ?_
    (apply awp_cond; exact rfl)
    ((refine im_nt (fun _ => ?_)); (try (exfalso; omega)))
    ((refine im_nf (fun _ => ?_)); (try (exfalso; omega)))
    refine awp_skip ?_
    refine then_n ?_
    refine awp_seq ?_
    ((refine ao_region ?_ (fun _ => ?_)); exact rfl)
    (apply S_makeFunc; exact rfl; exact rfl)
    ((first | (apply S_call; exact rfl; exact .fn _ _ _; exact rfl; exact check_p _ hx.1 hx.2) | (apply S_own; exact rfl; exact .fn _ _ _; exact rfl; exact pairs_s (.fn _ _ _) _ hsm (by omega) (rf1_s x (by omega)))))
    (apply S_ren; exact rfl; exact rfl)
    refine ao_nil ?_
    refine then_n ?_
    refine awp_ret ?_
    rotate_left
    exact own_done (d := 2) rfl rfl rfl rfl
  · rw [if_neg hc]
    iterate 2 refine awp_seq ?_
    ((refine ao_region ?_ (fun _ => ?_)); exact rfl)
    (apply S_load_ptA; exact rfl; exact rfl; exact rfl; exact Nat.le_of_ble_eq_true rfl)
    ((first | (apply S_call; exact rfl; exact .fn _ _ _; exact rfl; exact check_p _ hx.1 hx.2)))
    (apply S_neq; exact rfl; exact rfl)
    refine ao_nil ?_
    refine then_n ?_
    (apply awp_cond; exact rfl)
    ((refine im_nt (fun _ => ?_)); (try (exfalso; omega)))
    refine awp_seq ?_
    ((refine ao_region ?_ (fun _ => ?_)); exact rfl)
    (apply S_nilA; exact rfl; exact rfl; exact rfl; exact rfl)
    refine ao_nil ?_
    refine then_n ?_
    refine awp_ret ?_
    refine then_r ?_
    rotate_left
    ((refine im_nf (fun _ => ?_)); (try (exfalso; omega)))
    exact own_done (d := 2) rfl rfl rfl rfl
end Go.Proofs.Ytgeaaegkcbjhlaa
