/- Fr$1, Fr, in plain data. -/
import Derived.Test.YtgeaaegkcbjhlaaRj
import Derived.Test.YtgeaaegkcbjhlaaPb
set_option maxRecDepth 100000
set_option linter.unusedVariables false
set_option linter.unusedSimpArgs false
namespace Go.Proofs.Ytgeaaegkcbjhlaa
open Go.RowKit
def frB (r c : Int × Int) : Bool := c.1 == r.1 && c.2 != r.2
def fr1 (r : Int × Int) (co : List (Int × Int)) : List (Int × Int) := (co.filter (frB r)).map fun c => (r.2, c.2)
def frTo (rf co : List (Int × Int)) (i : Nat) : List (Int × Int) := (rf.take i).flatMap fun r => fr1 r co
def frAt (rf co : List (Int × Int)) (i : Nat) (r : Int × Int) (j : Nat) : List (Int × Int) := frTo rf co i ++ fr1 r (co.take j)
def frZ (rf co : List (Int × Int)) : List (Int × Int) := frTo rf co rf.length
theorem frAt_zero (rf co : List (Int × Int)) (i : Nat) (r : Int × Int) : frAt rf co i r 0 = frTo rf co i := by simp [frAt, fr1]
theorem frTo_succ (rf co : List (Int × Int)) (i : Nat) (h : i < rf.length) : frTo rf co (i + 1) = frTo rf co i ++ fr1 (rf.getD i default) co := by
  unfold frTo
  rw [take_get' rf default i h, List.flatMap_append]
  simp
theorem frAt_end (rf co : List (Int × Int)) (i : Nat) (h : i < rf.length) : frAt rf co i (rf.getD i default) co.length = frTo rf co (i + 1) := by
  rw [frTo_succ rf co i h, frAt, List.take_length]
theorem frAt_yes (rf co : List (Int × Int)) (i : Nat) (r : Int × Int) (j : Nat) (h : j < co.length) (hb : frB r (co.getD j default) = true) : frAt rf co i r (j + 1) = frAt rf co i r j ++ [(r.2, (co.getD j default).2)] := by
  unfold frAt fr1
  rw [take_get' co default j h, List.filter_append, List.filter_cons, if_pos hb, List.filter_nil, List.map_append, List.append_assoc]
  rfl
theorem frAt_no (rf co : List (Int × Int)) (i : Nat) (r : Int × Int) (j : Nat) (h : j < co.length) (hb : ¬ frB r (co.getD j default) = true) : frAt rf co i r (j + 1) = frAt rf co i r j := by
  unfold frAt fr1
  rw [take_get' co default j h, List.filter_append, List.filter_cons, if_neg hb, List.filter_nil, List.append_nil]
theorem frTo_pre (rf co : List (Int × Int)) : ∀ {a b : Nat}, a ≤ b → b ≤ rf.length → ∃ q, frTo rf co b = frTo rf co a ++ q := fun {a b} h hb => by
  induction b with
  | zero => have : a = 0 := by omega
            subst this; exact ⟨[], by simp⟩
  | succ b ih =>
    by_cases e : a = b + 1
    · subst e; exact ⟨[], by simp⟩
    · obtain ⟨r, hr⟩ := ih (by omega) (by omega)
      exact ⟨_, by rw [frTo_succ rf co b (by omega), hr, List.append_assoc]⟩
theorem fr1_pre (r : Int × Int) (co : List (Int × Int)) (j : Nat) : ∃ q, fr1 r co = fr1 r (co.take j) ++ q := by
  unfold fr1
  exact ⟨((co.drop j).filter (frB r)).map (fun c => (r.2, c.2)), by rw [← List.map_append, ← List.filter_append, List.take_append_drop]⟩
theorem frAt_in (rf co : List (Int × Int)) (i j : Nat) (hi : i < rf.length) (h : j < co.length) (hb : frB (rf.getD i default) (co.getD j default) = true) :
    ∃ q, frZ rf co = frAt rf co i (rf.getD i default) j ++ [((rf.getD i default).2, (co.getD j default).2)] ++ q := by
  obtain ⟨q1, h1⟩ := frTo_pre rf co (show i + 1 ≤ rf.length from hi) (Nat.le_refl _)
  obtain ⟨q2, h2⟩ := fr1_pre (rf.getD i default) co (j + 1)
  rw [← frAt_yes rf co i _ j h hb]
  unfold frZ
  rw [h1, frTo_succ rf co i hi, h2]
  unfold frAt
  exact ⟨q2 ++ q1, by simp only [List.append_assoc]⟩
theorem pair_fz (l : List (Int × Int)) : FzR (l.map pairO') (l.map pairTV) := by
  induction l with
  | nil => exact FzR.nil
  | cons p l ih => exact FzR.cons (FzC.cons (FzC.cons FzC.nil)) ih
/-- rows of others stay, where one's own goes -/
theorem fs_abs {k s : Nat} {τ : Stamp} {rows : List (List TV)} {l : Rows} (hbig : ∀ e ∈ l, 1000 ≤ e.1) (hk : k < 1000) {σ : Store} (h : ∀ j, j ≠ k → σ j = stL l j) : FrozS k τ s rows σ (stL l) := fun j τ' r' hj => by
  have hne : j ≠ k := fun e => by
    subst e
    obtain ⟨e, he, h2⟩ := List.mem_map.1 (stL_get hj)
    have := hbig e he
    omega
  exact ⟨hne, r', by rw [h j hne]; exact hj, rfl, rfl, fun i row' hi => ⟨row', hi, rfl, fun o y' ho => ⟨y', ho, .same _⟩⟩⟩
theorem le_app {l : Rows} (hbig : ∀ e ∈ l, 1000 ≤ e.1) {σ : Store} {δ : Diff} (hd : (δ.all fun e => Nat.blt e.1 1000) = true) (h : (stL l).le σ) : (stL l).le (σ.apply δ) := fun k x hx => by
  rw [apply_out (fun hk => ?_)]
  · exact h k x hx
  · obtain ⟨e, he, h2⟩ := List.mem_map.1 (stL_get hx)
    have h3 := hbig e he
    have : ∀ δ : Diff, k ∈ wkeys δ → ∃ y, (k, y) ∈ δ := fun δ => by
      induction δ with
      | nil => intro h; cases h
      | cons a δ ih =>
        obtain ⟨a, y⟩ := a
        intro h
        simp only [wkeys, List.mem_cons] at h
        rcases h with rfl | h
        · exact ⟨y, by simp⟩
        · obtain ⟨y', h'⟩ := ih h; exact ⟨y', by simp [h']⟩
    obtain ⟨y, hy⟩ := this δ hk
    have := List.all_eq_true.1 hd _ hy
    simp at this
    omega
set_option maxHeartbeats 4000000 in
theorem fr1_s (x : Ex) (hx : x.fit) (co : List (Int × Int)) (hco : co.length ≤ 1048576) : SeqW E.P 45 [] [.d (.pt (exRow x) 0), .d (.pt [pairsTV co] 0)] (pairYs (frZ (rfF x) co)) := by
  intro Y k τ J m st hm h1 h2 hnd hbig hy l0 hl0
  have hlen : (pairYs (frZ (rfF x) co)).length = (frZ (rfF x) co).length := by simp [pairYs]
  rw [hlen] at hm h1
  have hrl : (rfF x).length ≤ 1048576 := by
    unfold rfF
    split
    · rename_i hc
      obtain ⟨h1, _, h3, _⟩ := check_zero hc
      have := from_len h3
      have := rfZ_len x.from_ x.from_.length
      rw [sortZ_length]; omega
    · simp
  have hrf := rf_s x hx
  generalize rfF x = rf at hm h1 hy hrl hlen hrf
  have hfz := pair_fz
  have f9 : Frozen 9 := ⟨trivial⟩
  refine fny_of_awp Try.func45 (by decide) rfl Try.ntmps45 (Nat.le_of_ble_eq_true rfl) rfl ?_
  refine awp_seq ?_
  ((refine ao_region ?_ (fun _ => ?_)); exact rfl)
  (apply S_load_ptA; exact rfl; exact rfl; exact rfl; exact Nat.le_of_ble_eq_true rfl)
  ((first | (apply S_ownF; assumption; exact rfl; exact .fn _ _ _; exact rfl; exact hrf; exact hfz _; exact rfl)))
  (apply S_len; exact rfl; exact rfl; exact rfl; (first | exact len_ints _ | exact len_map _ _ _ | exact len_sl _ _ | exact len_os _ _ _ _ | exact len_vw _ _ _ _ _ | exact len_nil))
  (apply S_move; exact rfl)
  refine ao_nil ?_
  refine then_n ?_
  refine awp_block ?_
  rotate_left
  refine awp_loop (X := Nat × Rows) (fun p => tmL [(0, .yl k τ), (2, .d (.pt [pairsTV co] 0)), (9, .d (pairsTV rf)), (10, .int .i64 rf.length), (11, .int .i64 p.1), (GS, .gh (frTo rf co p.1).length Y)]) (fun p => stL p.2)
    (fun p => p.1 ≤ rf.length ∧ J (frTo rf co p.1).length p.2 ∧ (st = true → (frTo rf co p.1).length < m)) (fun p => rf.length - p.1) (0, l0) ⟨Nat.zero_le _, hl0, h2⟩ (by repeat' (first | exact le_nil _ | exact sle_nil _ | refine le_cons rfl ?_ | refine sle_cons rfl ?_)) (by repeat (first | exact fun _ _ h => h | refine le_app (hbig _ _ hl0) rfl ?_)) ?_
  rintro ⟨i, l⟩ ⟨hi, hJ, hst⟩
  dsimp only at hi hJ hst ⊢
  by_cases hlt : i < rf.length
  rotate_left
  · have hbe : i = rf.length := by omega
    subst hbe
    have hme : (frTo rf co rf.length).length = m := by
      cases st with
      | true => have h9 := hst rfl; have h8 : (frZ rf co).length = (frTo rf co rf.length).length := rfl; omega
      | false => exact (h1 rfl).symm
    rw [hme] at hJ ⊢
    refine awp_seq ?_
    ((refine ao_region ?_ (fun _ => ?_)); exact rfl)
    (apply S_lss; exact rfl; exact rfl)
    refine ao_nil ?_
    refine then_n ?_
    refine awp_seq ?_
    (apply awp_cond; exact rfl)
    ((refine im_dt (fun _ => ?_)); (try (exfalso; omega)))
    ((refine im_df (fun _ => ?_)); (try (exfalso; omega)))
    refine awp_exit ?_
    iterate 2 refine then_x ?_
    refine blk_x ?_
    rotate_left
    exact ⟨Or.inl rfl, rfl, l, hJ, fun _ _ h => h⟩
  refine awp_seq ?_
  ((refine ao_region ?_ (fun _ => ?_)); exact rfl)
  (apply S_lss; exact rfl; exact rfl)
  refine ao_nil ?_
  rotate_left
  refine then_n ?_
  refine awp_seq ?_
  (apply awp_cond; exact rfl)
  ((refine im_dt (fun _ => ?_)); (try (exfalso; omega)))
  refine awp_skip ?_
  rotate_left
  ((refine im_df (fun _ => ?_)); (try (exfalso; omega)))
  refine then_n ?_
  refine awp_seq ?_
  refine awp_block ?_
  refine awp_seq ?_
  ((refine ao_region ?_ (fun _ => ?_)); exact rfl)
  (apply S_indexAddr_sl; exact rfl; exact rfl; exact rfl; exact rfl; exact rfl; exact rfl; omega; (first | exact get_int (by omega) | exact get_map (by omega) default | assumption))
  (apply S_load_ptA; exact rfl; exact rfl; exact rfl; exact Nat.le_of_ble_eq_true rfl)
  (apply S_alloc; exact rfl)
  (apply S_store; exact rfl; exact rfl; exact rfl; exact rfl; exact rfl; exact rfl; (first | exact rfl | exact get_map (by omega) (0 : Int) | exact get_map (by omega) default | exact get_set_ne (by omega) (by omega) (0 : Int) | assumption); exact Nat.le_of_ble_eq_true rfl)
  refine ao_nil ?_
  rotate_left
  refine then_n ?_
  rename_i v5
  generalize hr : rf.getD i default = r
  have hT : rf.getD (i : Int).toNat default = r := hr
  rw [hT]
  refine awp_freeze 5 (v5, 2) 2 [pairTV r] (tmL [(0, .yl k τ), (2, .d (.pt [pairsTV co] 0)), (9, .d (pairsTV rf)), (10, .int .i64 rf.length), (11, .int .i64 i), (5, .d (.pt (pairTV r) 0)), (GS, .gh (frTo rf co i).length Y)]) (stL l) rfl (by repeat' (first | exact fz_nil | refine fz_cons rfl (.same _) ?_ | refine fz_cons rfl (.lo 0 0 _ rfl) ?_)) (fs_abs (hbig _ _ hJ) (by decide) (fun j hj => by show (Store.put (Store.put _ _ _) _ _) j = _; rw [Store.put_ne _ _ hj, Store.put_ne _ _ hj]; rfl)) ?_
  refine awp_seq ?_
  ((refine ao_region ?_ (fun _ => ?_)); exact rfl)
  (apply S_load_pt; exact rfl; exact rfl; exact rfl; exact rfl)
  (apply S_len; exact rfl; exact rfl; exact rfl; (first | exact len_ints _ | exact len_map _ _ _ | exact len_sl _ _ | exact len_os _ _ _ _ | exact len_vw _ _ _ _ _ | exact len_nil))
  (apply S_move; exact rfl)
  refine ao_nil ?_
  refine then_n ?_
  refine awp_block ?_
  rotate_left
  have hin := fun j => frAt_in rf co i j hlt
  have hnx := frAt_end rf co i hlt
  rw [hr] at hin hnx
  refine awp_loop (X := Nat × Rows) (fun p => tmL [(0, .yl k τ), (2, .d (.pt [pairsTV co] 0)), (9, .d (pairsTV rf)), (10, .int .i64 rf.length), (11, .int .i64 i), (5, .d (.pt (pairTV r) 0)), (15, .d (pairsTV co)), (16, .int .i64 co.length), (17, .int .i64 p.1), (GS, .gh (frAt rf co i r p.1).length Y)]) (fun p => stL p.2)
    (fun p => p.1 ≤ co.length ∧ J (frAt rf co i r p.1).length p.2 ∧ (st = true → (frAt rf co i r p.1).length < m)) (fun p => co.length - p.1) (0, l) ⟨Nat.zero_le _, by dsimp only; rw [frAt_zero]; exact hJ, by dsimp only; rw [frAt_zero]; exact hst⟩ (by dsimp only; rw [frAt_zero]; exact (by repeat' (first | exact le_nil _ | exact sle_nil _ | refine le_cons rfl ?_ | refine sle_cons rfl ?_))) (fun _ _ h => h) ?_
  clear hJ hst l
  rintro ⟨j, l⟩ ⟨hj, hJ, hst⟩
  dsimp only at hj hJ hst ⊢
  by_cases hlt2 : j < co.length
  rotate_left
  · have hbe : j = co.length := by omega
    subst hbe
    rw [hnx] at hJ hst ⊢
    refine awp_seq ?_
    ((refine ao_region ?_ (fun _ => ?_)); exact rfl)
    (apply S_lss; exact rfl; exact rfl)
    refine ao_nil ?_
    refine then_n ?_
    refine awp_seq ?_
    (apply awp_cond; exact rfl)
    ((refine im_dt (fun _ => ?_)); (try (exfalso; omega)))
    ((refine im_df (fun _ => ?_)); (try (exfalso; omega)))
    refine awp_exit ?_
    iterate 2 refine then_x ?_
    refine blk_x ?_
    refine blk_n ?_
    refine then_n ?_
    ((refine ao_region ?_ (fun _ => ?_)); exact rfl)
    (apply S_add64; exact rfl; exact rfl; omega)
    (apply S_move; exact rfl)
    refine ao_nil ?_
    refine then_n ?_
    rotate_left
    exact ⟨(i + 1, l), ⟨show i + 1 ≤ _ by omega, hJ, hst⟩, show rf.length - (i + 1) < rf.length - i by omega, (by repeat' (first | exact le_nil _ | exact sle_nil _ | refine le_cons rfl ?_ | refine sle_cons rfl ?_)), fun _ _ h => h⟩
  refine awp_seq ?_
  ((refine ao_region ?_ (fun _ => ?_)); exact rfl)
  (apply S_lss; exact rfl; exact rfl)
  refine ao_nil ?_
  rotate_left
  refine then_n ?_
  refine awp_seq ?_
  (apply awp_cond; exact rfl)
  ((refine im_dt (fun _ => ?_)); (try (exfalso; omega)))
  refine awp_skip ?_
  rotate_left
  ((refine im_df (fun _ => ?_)); (try (exfalso; omega)))
  refine then_n ?_
  refine awp_seq ?_
  refine awp_block ?_
  refine awp_seq ?_
  ((refine ao_region ?_ (fun _ => ?_)); exact rfl)
  (apply S_indexAddr_sl; exact rfl; exact rfl; exact rfl; exact rfl; exact rfl; exact rfl; omega; (first | exact get_int (by omega) | exact get_map (by omega) default | assumption))
  (apply S_load_ptA; exact rfl; exact rfl; exact rfl; exact Nat.le_of_ble_eq_true rfl)
  (apply S_alloc; exact rfl)
  (apply S_store; exact rfl; exact rfl; exact rfl; exact rfl; exact rfl; exact rfl; (first | exact rfl | exact get_map (by omega) (0 : Int) | exact get_map (by omega) default | exact get_set_ne (by omega) (by omega) (0 : Int) | assumption); exact Nat.le_of_ble_eq_true rfl)
  refine ao_nil ?_
  rotate_left
  refine then_n ?_
  rename_i v7
  generalize hc : co.getD j default = c at hin
  have hT : co.getD (j : Int).toNat default = c := hc
  rw [hT]
  refine awp_freeze 7 (v7, 2) 2 [pairTV c] (tmL [(0, .yl k τ), (2, .d (.pt [pairsTV co] 0)), (9, .d (pairsTV rf)), (10, .int .i64 rf.length), (11, .int .i64 i), (5, .d (.pt (pairTV r) 0)), (15, .d (pairsTV co)), (16, .int .i64 co.length), (17, .int .i64 j), (7, .d (.pt (pairTV c) 0)), (GS, .gh (frAt rf co i r j).length Y)]) (stL l) rfl (by repeat' (first | exact fz_nil | refine fz_cons rfl (.same _) ?_ | refine fz_cons rfl (.lo 0 0 _ rfl) ?_)) (fs_abs (hbig _ _ hJ) (by decide) (fun j hj => by show (Store.put (Store.put _ _ _) _ _) j = _; rw [Store.put_ne _ _ hj, Store.put_ne _ _ hj]; rfl)) ?_
  by_cases hb : frB r c = true
  · obtain ⟨q, hq⟩ := hin j hlt2 (by rw [hc]; exact hb)
    rw [hc] at hq
    obtain ⟨hlm, hY⟩ := seq_next h1 hy hq hst hJ
    have hlen1 : (frAt rf co i r (j + 1)).length = (frAt rf co i r j).length + 1 := by rw [frAt_yes rf co i r j hlt2 (by rw [hc]; exact hb)]; simp
    have hb1 : c.1 = r.1 ∧ c.2 ≠ r.2 := by simpa [frB] using hb
    obtain ⟨hb1, hb2⟩ := hb1
    rcases Bool.eq_false_or_eq_true (!(st && (frAt rf co i r j).length + 1 == m)) with hans | hans
    · rw [hans] at hY
      refine awp_seq ?_
      ((refine ao_region ?_ (fun _ => ?_)); exact rfl)
      (apply S_fieldAddr_pt; exact rfl; exact rfl; exact rfl; exact rfl; decide; exact rfl)
      (apply S_load_pt; exact rfl; exact rfl; exact rfl; exact rfl)
      (apply S_fieldAddr_pt; exact rfl; exact rfl; exact rfl; exact rfl; decide; exact rfl)
      (apply S_load_pt; exact rfl; exact rfl; exact rfl; exact rfl)
      (apply S_eql; exact rfl; exact rfl)
      (apply S_move; exact rfl)
      (apply guard_t; exact rfl; exact rfl)
      ((refine im_dt (fun _ => ?_)); (try (exfalso; omega)))
      (apply S_fieldAddr_pt; exact rfl; exact rfl; exact rfl; exact rfl; decide; exact rfl)
      (apply guard_t; exact rfl; exact rfl)
      refine im_tt ?_
      (apply S_load_pt; exact rfl; exact rfl; exact rfl; exact rfl)
      (apply guard_t; exact rfl; exact rfl)
      refine im_tt ?_
      (apply S_fieldAddr_pt; exact rfl; exact rfl; exact rfl; exact rfl; decide; exact rfl)
      (apply guard_t; exact rfl; exact rfl)
      refine im_tt ?_
      (apply S_load_pt; exact rfl; exact rfl; exact rfl; exact rfl)
      (apply guard_t; exact rfl; exact rfl)
      refine im_tt ?_
      (apply S_neq; exact rfl; exact rfl)
      (apply S_pick_and; (first | (refine EvM.mb _ rfl ?_; first | assumption | exact rfl) | exact EvM.plain rfl rfl); (first | (refine EvB.mb _ rfl ?_; first | exact fun h => h | exact fun h => bnot_mk h | exact fun h => band_mk (by assumption) h | exact fun h => band_mk (by assumption) (bnot_mk h) | (intro h; simp_all)) | exact EvB.plain rfl); exact rfl)
      (apply S_move; exact rfl)
      (apply guard_t; exact rfl; exact rfl)
      refine im_at ?_
      refine im_tt ?_
      ((refine im_nt (fun _ => ?_)); (try (exfalso; omega)))
      (apply S_move; exact rfl)
      (apply guard_t; exact rfl; exact rfl)
      refine im_tt ?_
      (apply S_fieldAddr_pt; exact rfl; exact rfl; exact rfl; exact rfl; decide; exact rfl)
      (apply guard_t; exact rfl; exact rfl)
      refine im_tt ?_
      (apply S_load_pt; exact rfl; exact rfl; exact rfl; exact rfl)
      (apply guard_t; exact rfl; exact rfl)
      refine im_tt ?_
      (apply S_fieldAddr_pt; exact rfl; exact rfl; exact rfl; exact rfl; decide; exact rfl)
      (apply guard_t; exact rfl; exact rfl)
      refine im_tt ?_
      (apply S_load_pt; exact rfl; exact rfl; exact rfl; exact rfl)
      (apply guard_t; exact rfl; exact rfl)
      refine im_tt ?_
      (apply S_build; exact rfl; exact rfl; exact rfl; exact rfl; exact rfl)
      (apply guard_t; exact rfl; exact rfl)
      refine im_tt ?_
      ((apply S_yield; exact rfl; exact rfl; exact rfl; exact hY; exact (fun _ _ h => h); exact hnd _; (intro l1 hl1)))
      (apply guard_t; exact rfl; exact rfl)
      refine im_tt ?_
      (apply S_not; exact rfl)
      (apply S_pick_and; (first | (refine EvM.mb _ rfl ?_; first | assumption | exact rfl) | exact EvM.plain rfl rfl); (first | (refine EvB.mb _ rfl ?_; first | exact fun h => h | exact fun h => bnot_mk h | exact fun h => band_mk (by assumption) h | exact fun h => band_mk (by assumption) (bnot_mk h) | (intro h; simp_all)) | exact EvB.plain rfl); exact rfl)
      refine ao_nil ?_
      refine then_n ?_
      (apply awp_cond; exact rfl)
      refine im_at ?_
      refine im_tt ?_
      refine im_bt ?_
      exact im_tf
      ((refine im_af (fun hc_ => ?_)); (try simp only [Bool.not_eq_true', Bool.not_eq_false', Bool.or_eq_true, Bool.and_eq_true, Bool.or_eq_false_iff, Bool.and_eq_false_iff, decide_eq_true_eq, decide_eq_false_iff_not, Decidable.not_not, Int.not_lt, Int.not_le, Bool.not_true, Bool.not_false, Bool.true_and, Bool.and_true, Bool.false_or, Bool.or_false, Bool.true_or, Bool.false_and, bne_eq_false_iff_eq, bne_iff_ne, beq_iff_eq, beq_eq_false_iff_ne, decide_eq_decide] at hc_))
      refine awp_skip ?_
      refine blk_n ?_
      refine then_n ?_
      ((refine ao_region ?_ (fun _ => ?_)); exact rfl)
      (apply S_add64; exact rfl; exact rfl; omega)
      (apply S_move; exact rfl)
      refine ao_nil ?_
      refine then_n ?_
      rotate_left
      iterate 7 exact im_tf
      ((refine im_af (fun hc_ => ?_)); (try simp only [Bool.not_eq_true', Bool.not_eq_false', Bool.or_eq_true, Bool.and_eq_true, Bool.or_eq_false_iff, Bool.and_eq_false_iff, decide_eq_true_eq, decide_eq_false_iff_not, Decidable.not_not, Int.not_lt, Int.not_le, Bool.not_true, Bool.not_false, Bool.true_and, Bool.and_true, Bool.false_or, Bool.or_false, Bool.true_or, Bool.false_and, bne_eq_false_iff_eq, bne_iff_ne, beq_iff_eq, beq_eq_false_iff_ne, decide_eq_decide] at hc_))
      (apply guard_t; exact rfl; exact rfl)
      exact im_ft
      refine im_ff ?_
      (apply guard_t; exact rfl; exact rfl)
      exact im_ft
      refine im_ff ?_
      (apply guard_t; exact rfl; exact rfl)
      exact im_ft
      refine im_ff ?_
      (apply guard_t; exact rfl; exact rfl)
      exact im_ft
      refine im_ff ?_
      (apply guard_t; exact rfl; exact rfl)
      exact im_ft
      refine im_ff ?_
      (apply guard_t; exact rfl; exact rfl)
      exact im_ft
      refine im_ff ?_
      (apply guard_t; exact rfl; exact rfl)
      exact im_ft
      refine im_ff ?_
      (apply S_pick_v; exact rfl)
      (apply pick_f; exact rfl)
      refine ao_nil ?_
      refine then_n ?_
      (apply awp_cond; exact rfl)
      exact im_ft
      refine im_ff ?_
      refine awp_skip ?_
      refine blk_n ?_
      refine then_n ?_
      ((refine ao_region ?_ (fun _ => ?_)); exact rfl)
      (apply S_add64; exact rfl; exact rfl; omega)
      (apply S_move; exact rfl)
      refine ao_nil ?_
      refine then_n ?_
      rotate_left
      iterate 4 exact im_tf
      ((refine im_df (fun _ => ?_)); (try (exfalso; omega)))
      · refine ⟨(j + 1, l1), ⟨show j + 1 ≤ _ by omega, ?_, ?_⟩, show co.length - (j + 1) < co.length - j by omega, ?_, out_le (hnd _ _ hl1)⟩
        · dsimp only; rw [hlen1]; exact hl1
        · dsimp only; rw [hlen1]; exact seq_go hlm hans
        · dsimp only; rw [hlen1]; exact (by repeat' (first | exact le_nil _ | exact sle_nil _ | refine le_cons rfl ?_ | refine sle_cons rfl ?_))
      · exfalso
        rcases hc_ with h9 | h9
        · cases h9
        · exact hb2 h9
    · rw [hans] at hY
      rw [seq_stop hans] at hY
      refine awp_seq ?_
      ((refine ao_region ?_ (fun _ => ?_)); exact rfl)
      (apply S_fieldAddr_pt; exact rfl; exact rfl; exact rfl; exact rfl; decide; exact rfl)
      (apply S_load_pt; exact rfl; exact rfl; exact rfl; exact rfl)
      (apply S_fieldAddr_pt; exact rfl; exact rfl; exact rfl; exact rfl; decide; exact rfl)
      (apply S_load_pt; exact rfl; exact rfl; exact rfl; exact rfl)
      (apply S_eql; exact rfl; exact rfl)
      (apply S_move; exact rfl)
      (apply guard_t; exact rfl; exact rfl)
      ((refine im_dt (fun _ => ?_)); (try (exfalso; omega)))
      (apply S_fieldAddr_pt; exact rfl; exact rfl; exact rfl; exact rfl; decide; exact rfl)
      (apply guard_t; exact rfl; exact rfl)
      refine im_tt ?_
      (apply S_load_pt; exact rfl; exact rfl; exact rfl; exact rfl)
      (apply guard_t; exact rfl; exact rfl)
      refine im_tt ?_
      (apply S_fieldAddr_pt; exact rfl; exact rfl; exact rfl; exact rfl; decide; exact rfl)
      (apply guard_t; exact rfl; exact rfl)
      refine im_tt ?_
      (apply S_load_pt; exact rfl; exact rfl; exact rfl; exact rfl)
      (apply guard_t; exact rfl; exact rfl)
      refine im_tt ?_
      (apply S_neq; exact rfl; exact rfl)
      (apply S_pick_and; (first | (refine EvM.mb _ rfl ?_; first | assumption | exact rfl) | exact EvM.plain rfl rfl); (first | (refine EvB.mb _ rfl ?_; first | exact fun h => h | exact fun h => bnot_mk h | exact fun h => band_mk (by assumption) h | exact fun h => band_mk (by assumption) (bnot_mk h) | (intro h; simp_all)) | exact EvB.plain rfl); exact rfl)
      (apply S_move; exact rfl)
      (apply guard_t; exact rfl; exact rfl)
      refine im_at ?_
      refine im_tt ?_
      ((refine im_nt (fun _ => ?_)); (try (exfalso; omega)))
      (apply S_move; exact rfl)
      (apply guard_t; exact rfl; exact rfl)
      refine im_tt ?_
      (apply S_fieldAddr_pt; exact rfl; exact rfl; exact rfl; exact rfl; decide; exact rfl)
      (apply guard_t; exact rfl; exact rfl)
      refine im_tt ?_
      (apply S_load_pt; exact rfl; exact rfl; exact rfl; exact rfl)
      (apply guard_t; exact rfl; exact rfl)
      refine im_tt ?_
      (apply S_fieldAddr_pt; exact rfl; exact rfl; exact rfl; exact rfl; decide; exact rfl)
      (apply guard_t; exact rfl; exact rfl)
      refine im_tt ?_
      (apply S_load_pt; exact rfl; exact rfl; exact rfl; exact rfl)
      (apply guard_t; exact rfl; exact rfl)
      refine im_tt ?_
      (apply S_build; exact rfl; exact rfl; exact rfl; exact rfl; exact rfl)
      (apply guard_t; exact rfl; exact rfl)
      refine im_tt ?_
      ((apply S_yield; exact rfl; exact rfl; exact rfl; exact hY; exact (fun _ _ h => h); exact hnd _; (intro l1 hl1)))
      (apply guard_t; exact rfl; exact rfl)
      refine im_tt ?_
      (apply S_not; exact rfl)
      (apply S_pick_or; (first | (refine EvM.mb _ rfl ?_; first | assumption | exact rfl) | exact EvM.plain rfl rfl); exact rfl; (first | (refine EvB.mb _ rfl ?_; first | exact fun h => h | exact fun h => bnot_mk h | exact fun h => band_mk (by assumption) h | exact fun h => band_mk (by assumption) (bnot_mk h) | (intro h; simp_all)) | exact EvB.plain rfl))
      refine ao_nil ?_
      refine then_n ?_
      (apply awp_cond; exact rfl)
      ((refine im_ot (fun hc_ => ?_)); (try simp only [Bool.not_eq_true', Bool.not_eq_false', Bool.or_eq_true, Bool.and_eq_true, Bool.or_eq_false_iff, Bool.and_eq_false_iff, decide_eq_true_eq, decide_eq_false_iff_not, Decidable.not_not, Int.not_lt, Int.not_le, Bool.not_true, Bool.not_false, Bool.true_and, Bool.and_true, Bool.false_or, Bool.or_false, Bool.true_or, Bool.false_and, bne_eq_false_iff_eq, bne_iff_ne, beq_iff_eq, beq_eq_false_iff_ne, decide_eq_decide] at hc_))
      refine awp_ret ?_
      refine blk_r ?_
      iterate 2 refine then_r ?_
      iterate 2 refine blk_r ?_
      iterate 2 refine then_r ?_
      refine blk_r ?_
      rotate_left
      refine im_of ?_
      iterate 8 exact im_tf
      ((refine im_af (fun hc_ => ?_)); (try simp only [Bool.not_eq_true', Bool.not_eq_false', Bool.or_eq_true, Bool.and_eq_true, Bool.or_eq_false_iff, Bool.and_eq_false_iff, decide_eq_true_eq, decide_eq_false_iff_not, Decidable.not_not, Int.not_lt, Int.not_le, Bool.not_true, Bool.not_false, Bool.true_and, Bool.and_true, Bool.false_or, Bool.or_false, Bool.true_or, Bool.false_and, bne_eq_false_iff_eq, bne_iff_ne, beq_iff_eq, beq_eq_false_iff_ne, decide_eq_decide] at hc_))
      (apply guard_t; exact rfl; exact rfl)
      exact im_ft
      refine im_ff ?_
      (apply guard_t; exact rfl; exact rfl)
      exact im_ft
      refine im_ff ?_
      (apply guard_t; exact rfl; exact rfl)
      exact im_ft
      refine im_ff ?_
      (apply guard_t; exact rfl; exact rfl)
      exact im_ft
      refine im_ff ?_
      (apply guard_t; exact rfl; exact rfl)
      exact im_ft
      refine im_ff ?_
      (apply guard_t; exact rfl; exact rfl)
      exact im_ft
      refine im_ff ?_
      (apply guard_t; exact rfl; exact rfl)
      exact im_ft
      refine im_ff ?_
      (apply S_pick_v; exact rfl)
      (apply pick_f; exact rfl)
      refine ao_nil ?_
      refine then_n ?_
      (apply awp_cond; exact rfl)
      exact im_ft
      refine im_ff ?_
      refine awp_skip ?_
      refine blk_n ?_
      refine then_n ?_
      ((refine ao_region ?_ (fun _ => ?_)); exact rfl)
      (apply S_add64; exact rfl; exact rfl; omega)
      (apply S_move; exact rfl)
      refine ao_nil ?_
      refine then_n ?_
      rotate_left
      iterate 4 exact im_tf
      ((refine im_df (fun _ => ?_)); (try (exfalso; omega)))
      · exact ⟨Or.inr rfl, rfl, l1, hl1, out_le (hnd _ _ hl1)⟩
      · exfalso
        rcases hc_ with h9 | h9
        · cases h9
        · exact hb2 h9
  · have hlen1 : (frAt rf co i r (j + 1)) = (frAt rf co i r j) := frAt_no rf co i r j hlt2 (by rw [hc]; exact hb)
    have hb1 : c.1 = r.1 → c.2 = r.2 := by simpa [frB] using hb
    refine awp_seq ?_
    ((refine ao_region ?_ (fun _ => ?_)); exact rfl)
    (apply S_fieldAddr_pt; exact rfl; exact rfl; exact rfl; exact rfl; decide; exact rfl)
    (apply S_load_pt; exact rfl; exact rfl; exact rfl; exact rfl)
    (apply S_fieldAddr_pt; exact rfl; exact rfl; exact rfl; exact rfl; decide; exact rfl)
    (apply S_load_pt; exact rfl; exact rfl; exact rfl; exact rfl)
    (apply S_eql; exact rfl; exact rfl)
    (apply S_move; exact rfl)
    (apply guard_t; exact rfl; exact rfl)
    ((refine im_dt (fun _ => ?_)); (try (exfalso; omega)))
    (apply S_fieldAddr_pt; exact rfl; exact rfl; exact rfl; exact rfl; decide; exact rfl)
    (apply guard_t; exact rfl; exact rfl)
    refine im_tt ?_
    (apply S_load_pt; exact rfl; exact rfl; exact rfl; exact rfl)
    (apply guard_t; exact rfl; exact rfl)
    refine im_tt ?_
    (apply S_fieldAddr_pt; exact rfl; exact rfl; exact rfl; exact rfl; decide; exact rfl)
    (apply guard_t; exact rfl; exact rfl)
    refine im_tt ?_
    (apply S_load_pt; exact rfl; exact rfl; exact rfl; exact rfl)
    (apply guard_t; exact rfl; exact rfl)
    refine im_tt ?_
    (apply S_neq; exact rfl; exact rfl)
    (apply S_pick_and; (first | (refine EvM.mb _ rfl ?_; first | assumption | exact rfl) | exact EvM.plain rfl rfl); (first | (refine EvB.mb _ rfl ?_; first | exact fun h => h | exact fun h => bnot_mk h | exact fun h => band_mk (by assumption) h | exact fun h => band_mk (by assumption) (bnot_mk h) | (intro h; simp_all)) | exact EvB.plain rfl); exact rfl)
    (apply S_move; exact rfl)
    (apply guard_t; exact rfl; exact rfl)
    refine im_at ?_
    refine im_tt ?_
    ((refine im_nt (fun _ => ?_)); (try (exfalso; omega)))
    ((refine im_af (fun hc_ => ?_)); (try simp only [Bool.not_eq_true', Bool.not_eq_false', Bool.or_eq_true, Bool.and_eq_true, Bool.or_eq_false_iff, Bool.and_eq_false_iff, decide_eq_true_eq, decide_eq_false_iff_not, Decidable.not_not, Int.not_lt, Int.not_le, Bool.not_true, Bool.not_false, Bool.true_and, Bool.and_true, Bool.false_or, Bool.or_false, Bool.true_or, Bool.false_and, bne_eq_false_iff_eq, bne_iff_ne, beq_iff_eq, beq_eq_false_iff_ne, decide_eq_decide] at hc_))
    (apply guard_t; exact rfl; exact rfl)
    exact im_ft
    refine im_ff ?_
    (apply guard_t; exact rfl; exact rfl)
    exact im_ft
    refine im_ff ?_
    (apply guard_t; exact rfl; exact rfl)
    exact im_ft
    refine im_ff ?_
    (apply guard_t; exact rfl; exact rfl)
    exact im_ft
    refine im_ff ?_
    (apply guard_t; exact rfl; exact rfl)
    exact im_ft
    refine im_ff ?_
    (apply guard_t; exact rfl; exact rfl)
    exact im_ft
    refine im_ff ?_
    (apply guard_t; exact rfl; exact rfl)
    exact im_ft
    refine im_ff ?_
    (apply S_pick_v; exact rfl)
    (apply pick_f; exact rfl)
    refine ao_nil ?_
    refine then_n ?_
    (apply awp_cond; exact rfl)
    exact im_ft
    refine im_ff ?_
    refine awp_skip ?_
    refine blk_n ?_
    refine then_n ?_
    ((refine ao_region ?_ (fun _ => ?_)); exact rfl)
    (apply S_add64; exact rfl; exact rfl; omega)
    (apply S_move; exact rfl)
    refine ao_nil ?_
    refine then_n ?_
    rotate_left
    iterate 4 exact im_tf
    ((refine im_df (fun _ => ?_)); (try (exfalso; omega)))
    (apply guard_t; exact rfl; exact rfl)
    exact im_ft
    refine im_ff ?_
    (apply guard_t; exact rfl; exact rfl)
    exact im_ft
    refine im_ff ?_
    (apply guard_t; exact rfl; exact rfl)
    exact im_ft
    refine im_ff ?_
    (apply guard_t; exact rfl; exact rfl)
    exact im_ft
    refine im_ff ?_
    (apply S_pick_v; exact rfl)
    (apply pick_f; exact rfl)
    (apply S_move; exact rfl)
    (apply guard_t; exact rfl; exact rfl)
    exact im_ft
    refine im_ff ?_
    (apply guard_t; exact rfl; exact rfl)
    exact im_ft
    refine im_ff ?_
    (apply guard_t; exact rfl; exact rfl)
    exact im_ft
    refine im_ff ?_
    (apply guard_t; exact rfl; exact rfl)
    exact im_ft
    refine im_ff ?_
    (apply guard_t; exact rfl; exact rfl)
    exact im_ft
    refine im_ff ?_
    (apply guard_t; exact rfl; exact rfl)
    exact im_ft
    refine im_ff ?_
    (apply guard_t; exact rfl; exact rfl)
    exact im_ft
    refine im_ff ?_
    (apply guard_t; exact rfl; exact rfl)
    exact im_ft
    refine im_ff ?_
    (apply S_pick_v; exact rfl)
    (apply pick_f; exact rfl)
    refine ao_nil ?_
    refine then_n ?_
    (apply awp_cond; exact rfl)
    exact im_ft
    refine im_ff ?_
    refine awp_skip ?_
    refine blk_n ?_
    refine then_n ?_
    ((refine ao_region ?_ (fun _ => ?_)); exact rfl)
    (apply S_add64; exact rfl; exact rfl; omega)
    (apply S_move; exact rfl)
    refine ao_nil ?_
    refine then_n ?_
    rotate_left
    all_goals
      refine ⟨(j + 1, l), ⟨show j + 1 ≤ _ by omega, ?_, ?_⟩, show co.length - (j + 1) < co.length - j by omega, ?_, (fun _ _ h => h)⟩
      · dsimp only; rw [hlen1]; exact hJ
      · dsimp only; rw [hlen1]; exact hst
      · dsimp only; rw [hlen1]; exact (by repeat' (first | exact le_nil _ | exact sle_nil _ | refine le_cons rfl ?_ | refine sle_cons rfl ?_))
def frF (x : Ex) : List (Int × Int) := sortZ (frZ (rfF x) (coF x))
theorem frZ_small {rf co : List (Int × Int)} (h1 : smallP rf) (h2 : smallP co) : smallP (frZ rf co) := fun p hp => by
  unfold frZ frTo fr1 at hp
  obtain ⟨r, hr, h3⟩ := List.mem_flatMap.1 hp
  obtain ⟨c, hc, rfl⟩ := List.mem_map.1 h3
  have a1 := h1 r (List.mem_of_mem_take hr)
  have a2 := h2 c (List.mem_filter.1 hc).1
  dsimp only
  omega
theorem frTo_len (rf co : List (Int × Int)) : ∀ i, i ≤ rf.length → (frTo rf co i).length ≤ i * co.length
  | 0, _ => by simp [frTo]
  | i + 1, h => by
    rw [frTo_succ rf co i h, List.length_append, Nat.succ_mul]
    have := frTo_len rf co i (by omega)
    have : (fr1 (rf.getD i default) co).length ≤ co.length := by
      unfold fr1
      rw [List.length_map]
      exact List.length_filter_le _ _
    omega
theorem smallP_nil : smallP [] := fun p hp => by cases hp
theorem rf_facts (x : Ex) : smallP (rfF x) ∧ (rfF x).length ≤ 64 := by
  unfold rfF
  split
  · rename_i hc
    obtain ⟨h1, h2, h3, h4⟩ := check_zero hc
    have hfl := from_len h3
    have hln := rfZ_len x.from_ x.from_.length
    exact ⟨smallP_sort (rfZ_small (fun i => by have := from_lt h3 i; omega) (by omega)), by rw [sortZ_length]; omega⟩
  · exact ⟨smallP_nil, by simp⟩
theorem co_facts (x : Ex) : smallP (coF x) ∧ (coF x).length ≤ 262144 := by
  unfold coF
  split
  · rename_i hc
    obtain ⟨h1, h2, h3, h4⟩ := check_zero hc
    exact ⟨smallP_sort (coZ_small h4 (by omega)), by rw [sortZ_length]; exact coZ_len hc⟩
  · exact ⟨smallP_nil, by simp⟩
set_option maxHeartbeats 4000000 in
theorem fr_s (x : Ex) (hx : x.fit) : Own E.P 24 [exOV x] 2 ((frF x).map pairO') := by
  obtain ⟨a1, a2⟩ := rf_facts x
  obtain ⟨b1, b2⟩ := co_facts x
  have hsm := frZ_small a1 b1
  have hln : (frZ (rfF x) (coF x)).length ≤ 1073741824 := by
    have := frTo_len (rfF x) (coF x) (rfF x).length (Nat.le_refl _)
    have h9 : (rfF x).length * (coF x).length ≤ 64 * 262144 := Nat.mul_le_mul a2 b2
    unfold frZ
    omega
  have hfr := fr1_s x hx (coF x) (by omega)
  have hco := co_s x hx
  unfold frF
  have hfz := pair_fz
  have f5 : Frozen 5 := ⟨trivial⟩
  refine fn_of_awp Try.func24 (by decide) rfl Try.ntmps24 (Nat.le_of_ble_eq_true rfl) rfl ?_
  refine awp_seq ?_
  ((refine ao_region ?_ (fun _ => ?_)); exact rfl)
  (apply S_box; exact rfl; exact rfl; exact rfl)
  (apply S_nilA; exact rfl; exact rfl; exact rfl; exact rfl)
  refine ao_nil ?_
  rotate_left
  refine then_n ?_
  rename_i v0
  refine awp_freeze 1 (v0, 0) 3 [exRow x] (tmL [(1, .d (.pt (exRow x) 0))]) (stL []) rfl (fz_cons rfl (.lo 0 0 _ rfl) fz_nil) (by repeat' (first | exact fz_nil | exact fs_nil | (refine fz_cons rfl (froz_os ?_) ?_; (first | rfl | (simp; done))) | refine fz_cons rfl (.same _) ?_ | refine fs_cons (by decide) rfl (.same _) ?_)) ?_
  refine awp_seq ?_
  ((refine ao_region ?_ (fun _ => ?_)); exact rfl)
  (apply S_load_ptA; exact rfl; exact rfl; exact rfl; exact Nat.le_of_ble_eq_true rfl)
  ((first | (apply S_ownF; assumption; exact rfl; exact .fn _ _ _; exact rfl; exact hco; exact hfz _; exact rfl)))
  (apply S_alloc; exact rfl)
  (apply S_store; exact rfl; exact rfl; exact rfl; exact rfl; exact rfl; exact rfl; (first | exact rfl | exact get_map (by omega) (0 : Int) | exact get_map (by omega) default | exact get_set_ne (by omega) (by omega) (0 : Int) | assumption); exact Nat.le_of_ble_eq_true rfl)
  refine ao_nil ?_
  rotate_left
  refine then_n ?_
  rename_i v1
  refine awp_freeze 3 (v1, 2) 1 [[pairsTV (coF x)]] (tmL [(1, .d (.pt (exRow x) 0)), (3, .d (.pt [pairsTV (coF x)] 0))]) (stL []) rfl (by repeat' (first | exact fz_nil | refine fz_cons rfl (.same _) ?_ | refine fz_cons rfl (.lo 0 0 _ rfl) ?_)) (by repeat' (first | exact fz_nil | exact fs_nil | (refine fz_cons rfl (froz_os ?_) ?_; (first | rfl | (simp; done))) | refine fz_cons rfl (.same _) ?_ | refine fs_cons (by decide) rfl (.same _) ?_)) ?_
  refine awp_seq ?_
  ((refine ao_region ?_ (fun _ => ?_)); exact rfl)
  (apply S_makeFunc; exact rfl; exact rfl)
  ((first | (apply S_own; exact rfl; exact .fn _ _ _; exact rfl; exact pairs_s (.fn _ _ _) _ hsm hln hfr)))
  (apply S_ren; exact rfl; exact rfl)
  refine ao_nil ?_
  refine then_n ?_
  refine awp_ret ?_
  rotate_left
  exact own_done (d := 2) rfl rfl rfl rfl
end Go.Proofs.Ytgeaaegkcbjhlaa
