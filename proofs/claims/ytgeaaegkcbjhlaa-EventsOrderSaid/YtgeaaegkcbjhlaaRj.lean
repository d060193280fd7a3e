/- Co$1, Co, in plain data. -/
import Derived.Test.YtgeaaegkcbjhlaaRi
set_option maxRecDepth 100000
set_option linter.unusedVariables false
set_option linter.unusedSimpArgs false
namespace Go.Proofs.Ytgeaaegkcbjhlaa
open Go.RowKit
theorem seq_next {P : Program} {Y : YJ} {k m : Nat} {τ : Stamp} {st : Bool} {J : Nat → Rows → Prop} {L : List (Int × Int)} (h1 : st = false → m = L.length)
    (hy : ∀ i l0, i < m → J i l0 → YieldW P Y k τ i (i + 1) ((pairYs L).getD i []) l0 (J (i + 1)) (!(st && i + 1 == m))) {pre r : List (Int × Int)} {p : Int × Int} {l : Rows} (hL : L = pre ++ [p] ++ r) (hst : st = true → pre.length < m) (hJ : J pre.length l) :
    pre.length < m ∧ YieldW P Y k τ pre.length (pre.length + 1) [.ag (pairO' p)] l (J (pre.length + 1)) (!(st && pre.length + 1 == m)) := by
  obtain ⟨e1, e2⟩ := next_pair hL
  have hlm : pre.length < m := by
    cases st with
    | true => exact hst rfl
    | false => rw [h1 rfl]; exact e1
  have := hy _ l hlm hJ
  rw [e2] at this
  exact ⟨hlm, this⟩
theorem seq_go {st : Bool} {m i : Nat} (h1 : i < m) (h2 : (!(st && i + 1 == m)) = true) (h3 : st = true) : i + 1 < m := by
  subst h3
  simp at h2; omega
theorem seq_stop {st : Bool} {m i : Nat} (h : (!(st && i + 1 == m)) = false) : i + 1 = m := by
  simp at h; exact h.2
/-- one row's pairs, the first i of its places done -/
def coIn (l : List Int) (i : Nat) : List (Int × Int) := (List.range i).flatMap fun i => (l.drop (i + 1)).map fun b => (l.getD i 0, b)
def coTo (o : List (Sl × List Int)) (r : Nat) : List (Int × Int) := (o.take r).flatMap fun l => coIn l.2 l.2.length
def coAt (o : List (Sl × List Int)) (r : Nat) (l : List Int) (i j : Nat) : List (Int × Int) := coTo o r ++ coIn l i ++ ((l.drop (i + 1)).take j).map fun b => (l.getD i 0, b)
def coZ (o : List (Sl × List Int)) : List (Int × Int) := coTo o o.length
theorem coAt_zero (o : List (Sl × List Int)) (r : Nat) (l : List Int) : coAt o r l 0 0 = coTo o r := by simp [coAt, coIn]
theorem coIn_succ (l : List Int) (i : Nat) : coIn l (i + 1) = coIn l i ++ (l.drop (i + 1)).map fun b => (l.getD i 0, b) := by
  simp [coIn, List.range_succ, List.flatMap_append]
theorem coAt_end (o : List (Sl × List Int)) (r : Nat) (l : List Int) (i j : Nat) (h : l.length ≤ i + 1 + j) : coAt o r l i j = coAt o r l (i + 1) 0 := by
  unfold coAt
  rw [coIn_succ, List.take_of_length_le (by simp; omega), List.take_zero, List.map_nil, List.append_nil, List.append_assoc]
theorem coTo_succ (o : List (Sl × List Int)) (r : Nat) (h : r < o.length) : coTo o (r + 1) = coTo o r ++ coIn (o.getD r default).2 (o.getD r default).2.length := by
  unfold coTo
  rw [take_get' o default r h, List.flatMap_append]
  simp
theorem coAt_next (o : List (Sl × List Int)) (r : Nat) (h : r < o.length) : coAt o r (o.getD r default).2 (o.getD r default).2.length 0 = coTo o (r + 1) := by
  rw [coTo_succ o r h]
  simp [coAt]
theorem coAt_step (o : List (Sl × List Int)) (r : Nat) (l : List Int) (i j : Nat) (h : i + 1 + j < l.length) : coAt o r l i (j + 1) = coAt o r l i j ++ [(l.getD i 0, l.getD (i + 1 + j) 0)] := by
  unfold coAt
  rw [take_get' (l.drop (i + 1)) 0 j (by simp; omega), List.map_append, List.append_assoc _ _ [_], List.append_assoc, List.append_assoc]
  simp [List.getD]
theorem coTo_pre (o : List (Sl × List Int)) : ∀ {a b : Nat}, a ≤ b → b ≤ o.length → ∃ r, coTo o b = coTo o a ++ r := fun {a b} h hb => by
  induction b with
  | zero => have : a = 0 := by omega
            subst this; exact ⟨[], by simp⟩
  | succ b ih =>
    by_cases e : a = b + 1
    · subst e; exact ⟨[], by simp⟩
    · obtain ⟨r, hr⟩ := ih (by omega) (by omega)
      exact ⟨_, by rw [coTo_succ o b (by omega), hr, List.append_assoc]⟩
theorem coIn_pre (l : List Int) : ∀ {a b : Nat}, a ≤ b → ∃ r, coIn l b = coIn l a ++ r := fun {a b} h => by
  induction b with
  | zero => have : a = 0 := by omega
            subst this; exact ⟨[], by simp⟩
  | succ b ih =>
    by_cases e : a = b + 1
    · subst e; exact ⟨[], by simp⟩
    · obtain ⟨r, hr⟩ := ih (by omega)
      exact ⟨_, by rw [coIn_succ, hr, List.append_assoc]⟩
/-- what comes next is one of them -/
theorem coAt_in (o : List (Sl × List Int)) (r i j : Nat) (h : r < o.length) (hj : i + 1 + j < (o.getD r default).2.length) :
    ∃ q, coZ o = coAt o r (o.getD r default).2 i j ++ [((o.getD r default).2.getD i 0, (o.getD r default).2.getD (i + 1 + j) 0)] ++ q := by
  generalize hl : (o.getD r default).2 = l at hj ⊢
  obtain ⟨q1, h1⟩ := coTo_pre o (show r + 1 ≤ o.length by omega) (Nat.le_refl _)
  obtain ⟨q2, h2⟩ := coIn_pre l (show i + 1 ≤ l.length by omega)
  unfold coZ
  rw [h1, coTo_succ o r h, hl, h2, coIn_succ, ← coAt_step o r l i j hj]
  unfold coAt
  have : (l.drop (i + 1)).map (fun b => (l.getD i 0, b)) = ((l.drop (i + 1)).take (j + 1)).map (fun b => (l.getD i 0, b)) ++ ((l.drop (i + 1)).drop (j + 1)).map (fun b => (l.getD i 0, b)) := by
    rw [← List.map_append, List.take_append_drop]
  rw [this]
  exact ⟨_, by simp only [List.append_assoc]; rfl⟩
set_option maxHeartbeats 4000000 in
theorem co1_s (x : Ex) (hx : x.fit) : SeqW E.P 44 [] [.d (.pt (exRow x) 0)] (pairYs (coZ x.order)) := by
  intro Y k τ J m st hm h1 h2 hnd hbig hy l0 hl0
  have hlen : (pairYs (coZ x.order)).length = (coZ x.order).length := by simp [pairYs]
  rw [hlen] at hm h1
  refine fny_of_awp Try.func44 (by decide) rfl Try.ntmps44 (Nat.le_of_ble_eq_true rfl) rfl ?_
  refine awp_scope ?_
  refine awp_seq ?_
  refine awp_label ?_
  refine then_n ?_
  refine awp_seq ?_
  ((refine ao_region ?_ (fun _ => ?_)); exact rfl)
  (apply S_fieldAddr_pt; exact rfl; exact rfl; exact rfl; exact rfl; decide; exact rfl)
  (apply S_load_pt; exact rfl; exact rfl; exact rfl; exact rfl)
  (apply S_len; exact rfl; exact rfl; exact rfl; (first | exact len_ints _ | exact len_map _ _ _ | exact len_sl _ _ | exact len_os _ _ _ _ | exact len_vw _ _ _ _ _ | exact len_nil))
  (apply S_move; exact rfl)
  refine ao_nil ?_
  refine then_n ?_
  refine awp_block ?_
  rotate_left
  have hT0 : m = (coTo x.order 0).length → True := fun _ => trivial
  refine awp_loop (X := Nat × Rows) (fun p => tmL [(0, .yl k τ), (10, .d (rowsTV x.order)), (11, .int .i64 x.order.length), (12, .int .i64 p.1), (GS, .gh (coTo x.order p.1).length Y)]) (fun p => stL p.2)
    (fun p => p.1 ≤ x.order.length ∧ J (coTo x.order p.1).length p.2 ∧ (st = true → (coTo x.order p.1).length < m)) (fun p => x.order.length - p.1) (0, l0) ⟨Nat.zero_le _, hl0, h2⟩ (by repeat' (first | exact le_nil _ | exact sle_nil _ | refine le_cons rfl ?_ | refine sle_cons rfl ?_)) (fun _ _ h => h) ?_
  rintro ⟨r, l⟩ ⟨hr, hJ, hst⟩
  dsimp only at hr hJ hst ⊢
  by_cases hlt : r < x.order.length
  rotate_left
  · have hbe : r = x.order.length := by omega
    subst hbe
    have hme : (coTo x.order x.order.length).length = m := by
      cases st with
      | true => have h9 := hst rfl; have h8 : (coZ x.order).length = (coTo x.order x.order.length).length := rfl; omega
      | false => exact (h1 rfl).symm
    rw [hme] at hJ ⊢
    refine awp_seq ?_
    ((refine ao_region ?_ (fun _ => ?_)); exact rfl)
    (apply S_lss; exact rfl; exact rfl)
    refine ao_nil ?_
    refine then_n ?_
    refine awp_seq ?_
    (apply awp_cond; exact rfl)
    ((refine im_dt (fun _ => ?_)); (try (exfalso; omega)))
    ((refine im_df (fun _ => ?_)); (try (exfalso; omega)))
    refine awp_exit ?_
    iterate 2 refine then_x ?_
    refine blk_x ?_
    refine ng_n ?_
    rotate_left
    exact ⟨Or.inl rfl, rfl, l, hJ, fun _ _ h => h⟩
  refine awp_seq ?_
  ((refine ao_region ?_ (fun _ => ?_)); exact rfl)
  (apply S_lss; exact rfl; exact rfl)
  refine ao_nil ?_
  refine then_n ?_
  refine awp_seq ?_
  (apply awp_cond; exact rfl)
  ((refine im_dt (fun _ => ?_)); (try (exfalso; omega)))
  refine awp_skip ?_
  refine then_n ?_
  refine awp_seq ?_
  refine awp_block ?_
  refine awp_seq ?_
  ((refine ao_region ?_ (fun _ => ?_)); exact rfl)
  (apply S_indexAddr_sl; exact rfl; exact rfl; exact rfl; exact rfl; exact rfl; exact rfl; omega; (first | exact get_int (by omega) | exact get_map (by omega) default | assumption))
  (apply S_load_pt; exact rfl; exact rfl; exact rfl; exact rfl)
  (apply S_assign; exact rfl)
  refine ao_nil ?_
  refine then_n ?_
  refine awp_seq ?_
  ((refine ao_region ?_ (fun _ => ?_)); exact rfl)
  (apply S_move; exact rfl)
  (apply S_len; exact rfl; exact rfl; exact rfl; (first | exact len_ints _ | exact len_map _ _ _ | exact len_sl _ _ | exact len_os _ _ _ _ | exact len_vw _ _ _ _ _ | exact len_nil))
  (apply S_move; exact rfl)
  refine ao_nil ?_
  refine then_n ?_
  refine awp_block ?_
  rotate_left
  ((refine im_df (fun _ => ?_)); (try (exfalso; omega)))
  have hol : x.order.length ≤ 1152921504606846976 := hx.1.2.2.2.1
  generalize hL : (x.order.getD r default).2 = L
  have hin := coAt_in x.order r
  rw [hL] at hin
  have hnx := coAt_next x.order r hlt
  rw [hL] at hnx
  have hLl : L.length ≤ 65536 := by
    rw [← hL, List.getD_eq_getElem?_getD, List.getElem?_eq_getElem hlt]
    exact hx.2 _ (List.getElem_mem hlt)
  refine awp_loop (X := Nat × Rows) (fun p => tmL [(0, .yl k τ), (10, .d (rowsTV x.order)), (11, .int .i64 x.order.length), (12, .int .i64 r), (4, .d (ints L)), (16, .d (ints L)), (17, .int .i64 L.length), (18, .int .i64 p.1), (GS, .gh (coAt x.order r L p.1 0).length Y)]) (fun p => stL p.2)
    (fun p => p.1 ≤ L.length ∧ J (coAt x.order r L p.1 0).length p.2 ∧ (st = true → (coAt x.order r L p.1 0).length < m)) (fun p => L.length - p.1) (0, l) ⟨Nat.zero_le _, by dsimp only; rw [coAt_zero]; exact hJ, by dsimp only; rw [coAt_zero]; exact hst⟩ ?_ (fun _ _ h => h) ?_
  · dsimp only
    rw [coAt_zero, ← hL]
    exact (by repeat' (first | exact le_nil _ | exact sle_nil _ | refine le_cons rfl ?_ | refine sle_cons rfl ?_))
  clear hJ hst l
  rintro ⟨i, l⟩ ⟨hi, hJ, hst⟩
  dsimp only at hi hJ hst ⊢
  by_cases hlt2 : i < L.length
  rotate_left
  · have hbe : i = L.length := by omega
    subst hbe
    rw [hnx] at hJ hst ⊢
    refine awp_seq ?_
    ((refine ao_region ?_ (fun _ => ?_)); exact rfl)
    (apply S_lss; exact rfl; exact rfl)
    refine ao_nil ?_
    refine then_n ?_
    refine awp_seq ?_
    (apply awp_cond; exact rfl)
    ((refine im_dt (fun _ => ?_)); (try (exfalso; omega)))
    ((refine im_df (fun _ => ?_)); (try (exfalso; omega)))
    refine awp_exit ?_
    iterate 2 refine then_x ?_
    refine blk_x ?_
    refine blk_n ?_
    refine then_n ?_
    ((refine ao_region ?_ (fun _ => ?_)); exact rfl)
    (apply S_add64; exact rfl; exact rfl; omega)
    (apply S_move; exact rfl)
    refine ao_nil ?_
    refine then_n ?_
    rotate_left
    exact ⟨(r + 1, l), ⟨show r + 1 ≤ _ by omega, hJ, hst⟩, show x.order.length - (r + 1) < x.order.length - r by omega, (by repeat' (first | exact le_nil _ | exact sle_nil _ | refine le_cons rfl ?_ | refine sle_cons rfl ?_)), fun _ _ h => h⟩
  refine awp_seq ?_
  ((refine ao_region ?_ (fun _ => ?_)); exact rfl)
  (apply S_lss; exact rfl; exact rfl)
  refine ao_nil ?_
  refine then_n ?_
  refine awp_seq ?_
  (apply awp_cond; exact rfl)
  ((refine im_dt (fun _ => ?_)); (try (exfalso; omega)))
  refine awp_skip ?_
  refine then_n ?_
  refine awp_seq ?_
  refine awp_block ?_
  refine awp_seq ?_
  ((refine ao_region ?_ (fun _ => ?_)); exact rfl)
  (apply S_move; exact rfl)
  (apply S_indexAddr_sl; exact rfl; exact rfl; exact rfl; exact rfl; exact rfl; exact rfl; omega; (first | exact get_int (by omega) | exact get_map (by omega) default | assumption))
  (apply S_load_pt; exact rfl; exact rfl; exact rfl; exact rfl)
  iterate 2 (apply S_assign; exact rfl)
  refine ao_nil ?_
  refine then_n ?_
  refine awp_seq ?_
  ((refine ao_region ?_ (fun _ => ?_)); exact rfl)
  iterate 2 (apply S_move; exact rfl)
  (apply S_add64; exact rfl; exact rfl; omega)
  (((apply S_slice_sl (l := i + 1) (h := L.length)); exact rfl; exact rfl; exact rfl; exact rfl; exact rfl; exact ⟨_, _, rfl, by omega, by omega⟩; exact (by show L.length = _; simp); omega; (simp)))
  (apply S_len; exact rfl; exact rfl; exact rfl; (first | exact len_ints _ | exact len_map _ _ _ | exact len_sl _ _ | exact len_os _ _ _ _ | exact len_vw _ _ _ _ _ | exact len_nil))
  (apply S_move; exact rfl)
  refine ao_nil ?_
  refine then_n ?_
  refine awp_block ?_
  rotate_left
  ((refine im_df (fun _ => ?_)); (try (exfalso; omega)))
  have hsl : ((L.map cell).drop (i + 1)).take (L.length - (i + 1)) = (L.drop (i + 1)).map cell := by
    rw [List.take_of_length_le (by simp), List.map_drop]
  have hdl : (L.drop (i + 1)).length = L.length - (i + 1) := by simp
  have hdg : ∀ j, (L.drop (i + 1)).getD j 0 = L.getD (i + 1 + j) 0 := fun j => by simp [List.getD]
  refine awp_loop (X := Nat × Rows) (fun p => tmL [(0, .yl k τ), (10, .d (rowsTV x.order)), (11, .int .i64 x.order.length), (12, .int .i64 r), (4, .d (ints L)), (16, .d (ints L)), (17, .int .i64 L.length), (18, .int .i64 i), (6, .int .i64 (L.getD i 0)), (26, .d (ints (L.drop (i + 1)))), (27, .int .i64 (L.drop (i + 1)).length), (28, .int .i64 p.1), (GS, .gh (coAt x.order r L i p.1).length Y)]) (fun p => stL p.2)
    (fun p => p.1 ≤ (L.drop (i + 1)).length ∧ J (coAt x.order r L i p.1).length p.2 ∧ (st = true → (coAt x.order r L i p.1).length < m)) (fun p => (L.drop (i + 1)).length - p.1) (0, l) ⟨Nat.zero_le _, hJ, hst⟩ ?_ (fun _ _ h => h) ?_
  · rw [hsl]
    refine le_cons rfl (le_cons rfl (le_cons rfl (le_cons rfl (le_cons rfl (le_cons rfl (le_cons rfl (le_cons rfl (le_cons rfl (le_cons rfl (le_cons ?_ (by repeat' (first | exact le_nil _ | exact sle_nil _ | refine le_cons rfl ?_ | refine sle_cons rfl ?_))))))))))))
    rw [List.length_map]; rfl
  clear hJ hst l
  rintro ⟨j, l⟩ ⟨hj, hJ, hst⟩
  dsimp only at hj hJ hst ⊢
  by_cases hlt3 : j < (L.drop (i + 1)).length
  rotate_left
  · have hend := coAt_end x.order r L i j (by omega)
    rw [hend] at hJ hst ⊢
    refine awp_seq ?_
    ((refine ao_region ?_ (fun _ => ?_)); exact rfl)
    (apply S_lss; exact rfl; exact rfl)
    refine ao_nil ?_
    refine then_n ?_
    refine awp_seq ?_
    (apply awp_cond; exact rfl)
    ((refine im_dt (fun _ => ?_)); (try (exfalso; omega)))
    ((refine im_df (fun _ => ?_)); (try (exfalso; omega)))
    refine awp_exit ?_
    iterate 2 refine then_x ?_
    refine blk_x ?_
    refine blk_n ?_
    refine then_n ?_
    ((refine ao_region ?_ (fun _ => ?_)); exact rfl)
    (apply S_add64; exact rfl; exact rfl; omega)
    (apply S_move; exact rfl)
    refine ao_nil ?_
    refine then_n ?_
    rotate_left
    exact ⟨(i + 1, l), ⟨show i + 1 ≤ _ by omega, hJ, hst⟩, show L.length - (i + 1) < L.length - i by omega, (by repeat' (first | exact le_nil _ | exact sle_nil _ | refine le_cons rfl ?_ | refine sle_cons rfl ?_)), fun _ _ h => h⟩
  have hstep := coAt_step x.order r L i j (by omega)
  obtain ⟨q, hq⟩ := hin i j hlt (by omega)
  obtain ⟨hlm, hY⟩ := seq_next h1 hy hq hst hJ
  rw [← hdg j] at hY
  have hlen1 : (coAt x.order r L i (j + 1)).length = (coAt x.order r L i j).length + 1 := by rw [hstep]; simp
  rcases Bool.eq_false_or_eq_true (!(st && (coAt x.order r L i j).length + 1 == m)) with hans | hans
  · rw [hans] at hY
    refine awp_seq ?_
    ((refine ao_region ?_ (fun _ => ?_)); exact rfl)
    (apply S_lss; exact rfl; exact rfl)
    refine ao_nil ?_
    refine then_n ?_
    refine awp_seq ?_
    (apply awp_cond; exact rfl)
    ((refine im_dt (fun _ => ?_)); (try (exfalso; omega)))
    refine awp_skip ?_
    refine then_n ?_
    refine awp_seq ?_
    refine awp_block ?_
    refine awp_seq ?_
    ((refine ao_region ?_ (fun _ => ?_)); exact rfl)
    (apply S_indexAddr_sl; exact rfl; exact rfl; exact rfl; exact rfl; exact rfl; exact rfl; omega; (first | exact get_int (by omega) | exact get_map (by omega) default | assumption))
    (apply S_load_pt; exact rfl; exact rfl; exact rfl; exact rfl)
    (apply S_assign; exact rfl)
    refine ao_nil ?_
    refine then_n ?_
    refine awp_seq ?_
    ((refine ao_region ?_ (fun _ => ?_)); exact rfl)
    iterate 3 (apply S_move; exact rfl)
    (apply S_build; exact rfl; exact rfl; exact rfl; exact rfl; exact rfl)
    ((apply S_yield; exact rfl; exact rfl; exact rfl; exact hY; exact (fun _ _ h => h); exact hnd _; (intro l1 hl1)))
    (apply S_not; exact rfl)
    refine ao_nil ?_
    refine then_n ?_
    (apply awp_cond; exact rfl)
    refine im_bt ?_
    exact im_tf
    refine im_bf ?_
    refine im_tt ?_
    refine awp_skip ?_
    refine blk_n ?_
    refine then_n ?_
    ((refine ao_region ?_ (fun _ => ?_)); exact rfl)
    (apply S_add64; exact rfl; exact rfl; omega)
    (apply S_move; exact rfl)
    refine ao_nil ?_
    refine then_n ?_
    rotate_left
    ((refine im_df (fun _ => ?_)); (try (exfalso; omega)))
    refine ⟨(j + 1, l1), ⟨show j + 1 ≤ _ by omega, ?_, ?_⟩, show (L.drop (i + 1)).length - (j + 1) < (L.drop (i + 1)).length - j by omega, ?_, out_le (hnd _ _ hl1)⟩
    · dsimp only; rw [hlen1]; exact hl1
    · dsimp only; rw [hlen1]; exact seq_go hlm hans
    · dsimp only; rw [hlen1]; exact (by repeat' (first | exact le_nil _ | exact sle_nil _ | refine le_cons rfl ?_ | refine sle_cons rfl ?_))
  · rw [hans] at hY
    rw [seq_stop hans] at hY
    refine awp_seq ?_
    ((refine ao_region ?_ (fun _ => ?_)); exact rfl)
    (apply S_lss; exact rfl; exact rfl)
    refine ao_nil ?_
    refine then_n ?_
    refine awp_seq ?_
    (apply awp_cond; exact rfl)
    ((refine im_dt (fun _ => ?_)); (try (exfalso; omega)))
    refine awp_skip ?_
    refine then_n ?_
    refine awp_seq ?_
    refine awp_block ?_
    refine awp_seq ?_
    ((refine ao_region ?_ (fun _ => ?_)); exact rfl)
    (apply S_indexAddr_sl; exact rfl; exact rfl; exact rfl; exact rfl; exact rfl; exact rfl; omega; (first | exact get_int (by omega) | exact get_map (by omega) default | assumption))
    (apply S_load_pt; exact rfl; exact rfl; exact rfl; exact rfl)
    (apply S_assign; exact rfl)
    refine ao_nil ?_
    refine then_n ?_
    refine awp_seq ?_
    ((refine ao_region ?_ (fun _ => ?_)); exact rfl)
    iterate 3 (apply S_move; exact rfl)
    (apply S_build; exact rfl; exact rfl; exact rfl; exact rfl; exact rfl)
    ((apply S_yield; exact rfl; exact rfl; exact rfl; exact hY; exact (fun _ _ h => h); exact hnd _; (intro l1 hl1)))
    (apply S_not; exact rfl)
    refine ao_nil ?_
    refine then_n ?_
    (apply awp_cond; exact rfl)
    refine im_bt ?_
    refine im_ff ?_
    refine awp_exit ?_
    (refine blk_y ?_ ?_; exact rfl)
    iterate 2 refine then_x ?_
    iterate 2 (refine blk_y ?_ ?_; exact rfl)
    iterate 2 refine then_x ?_
    iterate 2 (refine blk_y ?_ ?_; exact rfl)
    iterate 2 refine then_x ?_
    refine blk_x ?_
    refine ng_n ?_
    rotate_left
    refine im_bf ?_
    exact im_ft
    ((refine im_df (fun _ => ?_)); (try (exfalso; omega)))
    exact ⟨Or.inl rfl, rfl, l1, hl1, out_le (hnd _ _ hl1)⟩
theorem order_row {es : List Ev} {ad : List Int} {o : List (Sl × List Int)} (h : orderB es ad o = true) : o.length = ad.length ∧ ∀ r, r < o.length → sortI (o.getD r default).2 = wantTo es (ad.getD r 0) es.length ∧ (o.getD r default).2.getD 0 0 = (r : Int) ∧ (o.getD r default).2 ≠ [] := by
  unfold orderB rowsTo at h
  simp only [Bool.and_eq_true, decide_eq_true_eq, List.all_eq_true, List.mem_range] at h
  refine ⟨h.1, fun r hr => ?_⟩
  have := h.2 r hr
  unfold rowOk at this
  simp only [Bool.and_eq_true, Bool.not_eq_true', beq_eq_false_iff_ne, bne_eq_false_iff_eq, beq_iff_eq] at this
  exact ⟨this.2, this.1.2, fun e => this.1.1 (by rw [e]; rfl)⟩
theorem order_mem {es : List Ev} {ad : List Int} {o : List (Sl × List Int)} (h : orderB es ad o = true) {r : Nat} (hr : r < o.length) {a : Int} : a ∈ (o.getD r default).2 ↔ a ∈ wantTo es (ad.getD r 0) es.length := by
  rw [← ((order_row h).2 r hr).1]
  exact (List.mergeSort_perm _ _).mem_iff.symm
theorem want_lt {es : List Ev} {a b : Int} {k : Nat} (h : b ∈ wantTo es a k) : 0 ≤ b ∧ b < k := by
  unfold wantTo at h
  obtain ⟨n, h1, rfl⟩ := List.mem_map.1 h
  have := List.mem_range.1 (List.mem_filter.1 h1).1
  exact ⟨Int.natCast_nonneg n, Int.ofNat_lt.2 this⟩
theorem want_len (es : List Ev) (a : Int) (k : Nat) : (wantTo es a k).length ≤ k := by
  unfold wantTo
  rw [List.length_map]
  exact Nat.le_trans (List.length_filter_le _ _) (by simp)
theorem order_len {es : List Ev} {ad : List Int} {o : List (Sl × List Int)} (h : orderB es ad o = true) {r : Nat} (hr : r < o.length) : (o.getD r default).2.length ≤ es.length := by
  rw [← List.length_mergeSort (o.getD r default).2 (le := fun x y => decide (x ≤ y))]
  have := ((order_row h).2 r hr).1
  unfold sortI at this
  rw [this]
  exact want_len _ _ _
theorem coIn_len (l : List Int) : ∀ i, (coIn l i).length ≤ i * l.length
  | 0 => by simp [coIn]
  | i + 1 => by
    rw [coIn_succ, List.length_append, Nat.succ_mul]
    have := coIn_len l i
    simp only [List.length_map, List.length_drop]
    omega
theorem coTo_len (o : List (Sl × List Int)) (n : Nat) (h : ∀ r, r < o.length → (o.getD r default).2.length ≤ n) : ∀ r, r ≤ o.length → (coTo o r).length ≤ r * (n * n)
  | 0, _ => by simp [coTo]
  | r + 1, hr => by
    rw [coTo_succ o r (by omega), List.length_append, Nat.succ_mul]
    have h1 := coTo_len o n h r (by omega)
    have h2 := coIn_len (o.getD r default).2 (o.getD r default).2.length
    have h3 := h r (by omega)
    have h4 : (o.getD r default).2.length * (o.getD r default).2.length ≤ n * n := Nat.mul_le_mul h3 h3
    omega
theorem coIn_mem {l : List Int} {i : Nat} {p : Int × Int} (h : p ∈ coIn l i) (hi : i ≤ l.length) : p.1 ∈ l ∧ p.2 ∈ l := by
  unfold coIn at h
  obtain ⟨j, h1, h2⟩ := List.mem_flatMap.1 h
  obtain ⟨b, h3, rfl⟩ := List.mem_map.1 h2
  have hj := List.mem_range.1 h1
  refine ⟨?_, List.mem_of_mem_drop h3⟩
  dsimp only
  rw [List.getD_eq_getElem?_getD, List.getElem?_eq_getElem (by omega)]
  exact List.getElem_mem _
theorem coTo_mem {o : List (Sl × List Int)} {r : Nat} {p : Int × Int} (h : p ∈ coTo o r) : ∃ k, k < o.length ∧ p ∈ coIn (o.getD k default).2 (o.getD k default).2.length := by
  unfold coTo at h
  obtain ⟨l, h1, h2⟩ := List.mem_flatMap.1 h
  obtain ⟨k, hk, e⟩ := List.getElem_of_mem (List.mem_of_mem_take h1)
  refine ⟨k, hk, ?_⟩
  rw [List.getD_eq_getElem?_getD, List.getElem?_eq_getElem hk, Option.getD_some, e]
  exact h2
theorem coZ_small {es : List Ev} {ad : List Int} {o : List (Sl × List Int)} (h : orderB es ad o = true) (h64 : es.length ≤ 65536) : smallP (coZ o) := fun p hp => by
  obtain ⟨k, hk, h2⟩ := coTo_mem hp
  obtain ⟨e1, e2⟩ := coIn_mem h2 (Nat.le_refl _)
  have a1 := want_lt ((order_mem h hk).1 e1)
  have a2 := want_lt ((order_mem h hk).1 e2)
  omega
def coF (x : Ex) : List (Int × Int) := if checkI x = 0 then sortZ (coZ x.order) else []
theorem coZ_len {x : Ex} (hc : checkI x = 0) : (coZ x.order).length ≤ 262144 := by
  obtain ⟨h1, h2, h3, h4⟩ := check_zero hc
  have h5 := (order_row h4).1
  have h6 := addrsTo_len x.evs
  have h7 := coTo_len x.order 64 (fun r hr => Nat.le_trans (order_len h4 hr) h1) x.order.length (Nat.le_refl _)
  unfold coZ
  omega
set_option maxHeartbeats 4000000 in
theorem co_s (x : Ex) (hx : x.fit) : Own E.P 23 [exOV x] 2 ((coF x).map pairO') := by
  unfold coF
  refine fn_of_awp Try.func23 (by decide) rfl Try.ntmps23 (Nat.le_of_ble_eq_true rfl) rfl ?_
  refine awp_seq ?_
  ((refine ao_region ?_ (fun _ => ?_)); exact rfl)
  (apply S_box; exact rfl; exact rfl; exact rfl)
  (apply S_nilA; exact rfl; exact rfl; exact rfl; exact rfl)
  refine ao_nil ?_
  rotate_left
  refine then_n ?_
  rename_i v0
  refine awp_freeze 1 (v0, 0) 3 [exRow x] (tmL [(1, .d (.pt (exRow x) 0))]) (stL []) rfl (fz_cons rfl (.lo 0 0 _ rfl) fz_nil) (by repeat' (first | exact fz_nil | exact fs_nil | (refine fz_cons rfl (froz_os ?_) ?_; (first | rfl | (simp; done))) | refine fz_cons rfl (.same _) ?_ | refine fs_cons (by decide) rfl (.same _) ?_)) ?_
  by_cases hc : checkI x = 0
  · rw [if_pos hc]
    have hln := coZ_len hc
    obtain ⟨h1, h2, h3, h4⟩ := check_zero hc
    have hsm : smallP (coZ x.order) := coZ_small h4 (by omega)
    iterate 2 refine awp_seq ?_
    ((refine ao_region ?_ (fun _ => ?_)); exact rfl)
    (apply S_load_ptA; exact rfl; exact rfl; exact rfl; exact Nat.le_of_ble_eq_true rfl)
    ((first | (apply S_call; exact rfl; exact .fn _ _ _; exact rfl; exact check_p _ hx.1 hx.2) | (apply S_own; exact rfl; exact .fn _ _ _; exact rfl; exact pairs_s (.fn _ _ _) _ hsm (by omega) (co1_s x hx))))
    (apply S_neq; exact rfl; exact rfl)
    refine ao_nil ?_
    refine then_n ?_
    (apply awp_cond; exact rfl)
    ((refine im_nt (fun _ => ?_)); (try (exfalso; omega)))
    ((refine im_nf (fun _ => ?_)); (try (exfalso; omega)))
    refine awp_skip ?_
    refine then_n ?_
    refine awp_seq ?_
    ((refine ao_region ?_ (fun _ => ?_)); exact rfl)
    (apply S_makeFunc; exact rfl; exact rfl)
    ((first | (apply S_call; exact rfl; exact .fn _ _ _; exact rfl; exact check_p _ hx.1 hx.2) | (apply S_own; exact rfl; exact .fn _ _ _; exact rfl; exact pairs_s (.fn _ _ _) _ hsm (by omega) (co1_s x hx))))
    (apply S_ren; exact rfl; exact rfl)
    refine ao_nil ?_
    refine then_n ?_
    refine awp_ret ?_
    rotate_left
    exact own_done (d := 2) rfl rfl rfl rfl
  · rw [if_neg hc]
    iterate 2 refine awp_seq ?_
    ((refine ao_region ?_ (fun _ => ?_)); exact rfl)
    (apply S_load_ptA; exact rfl; exact rfl; exact rfl; exact Nat.le_of_ble_eq_true rfl)
    ((first | (apply S_call; exact rfl; exact .fn _ _ _; exact rfl; exact check_p _ hx.1 hx.2)))
    (apply S_neq; exact rfl; exact rfl)
    refine ao_nil ?_
    refine then_n ?_
    (apply awp_cond; exact rfl)
    ((refine im_nt (fun _ => ?_)); (try (exfalso; omega)))
    refine awp_seq ?_
    ((refine ao_region ?_ (fun _ => ?_)); exact rfl)
    (apply S_nilA; exact rfl; exact rfl; exact rfl; exact rfl)
    refine ao_nil ?_
    refine then_n ?_
    refine awp_ret ?_
    refine then_r ?_
    rotate_left
    ((refine im_nf (fun _ => ?_)); (try (exfalso; omega)))
    exact own_done (d := 2) rfl rfl rfl rfl
/-! ### coherence order, as it is: between stores of one address, in one of two ways; transitive (plain) -/
theorem mem_coIn (l : List Int) (a b : Int) : (a, b) ∈ coIn l l.length ↔ ∃ i j, i < j ∧ j < l.length ∧ l.getD i 0 = a ∧ l.getD j 0 = b := by
  unfold coIn
  constructor
  · intro h
    obtain ⟨i, h1, h2⟩ := List.mem_flatMap.1 h
    obtain ⟨c, h3, h4⟩ := List.mem_map.1 h2
    cases h4
    obtain ⟨k, hk, e⟩ := List.getElem_of_mem h3
    simp at hk
    refine ⟨i, i + 1 + k, by omega, by omega, rfl, ?_⟩
    rw [← e, List.getElem_drop, List.getD_eq_getElem?_getD, List.getElem?_eq_getElem (by omega)]; rfl
  · rintro ⟨i, j, h1, h2, rfl, rfl⟩
    refine List.mem_flatMap.2 ⟨i, List.mem_range.2 (by omega), List.mem_map.2 ⟨l.getD j 0, ?_, rfl⟩⟩
    rw [List.getD_eq_getElem?_getD, List.getElem?_eq_getElem h2]
    refine List.mem_of_getElem (i := j - (i + 1)) (h := by simp; omega) ?_
    rw [List.getElem_drop, Option.getD_some]
    congr 1; omega
theorem mem_coZ (o : List (Sl × List Int)) (p : Int × Int) : p ∈ coZ o ↔ ∃ r, r < o.length ∧ p ∈ coIn (o.getD r default).2 (o.getD r default).2.length := by
  constructor
  · exact coTo_mem
  · rintro ⟨r, hr, hp⟩
    unfold coZ coTo
    refine List.mem_flatMap.2 ⟨o.getD r default, ?_, hp⟩
    rw [List.take_length, List.getD_eq_getElem?_getD, List.getElem?_eq_getElem hr]
    exact List.getElem_mem _
theorem mem_wantZ (es : List Ev) (a : Int) (k n : Nat) : (n : Int) ∈ wantTo es a k ↔ n < k ∧ (es.getD n default).stB = true ∧ (es.getD n default).addr = a := by
  unfold wantTo
  constructor
  · intro h
    obtain ⟨m, h1, h2⟩ := List.mem_map.1 h
    have : m = n := Int.ofNat.inj h2
    subst this
    obtain ⟨h3, h4⟩ := List.mem_filter.1 h1
    simp only [Bool.and_eq_true, beq_iff_eq] at h4
    exact ⟨List.mem_range.1 h3, h4⟩
  · rintro ⟨h1, h2, h3⟩
    exact List.mem_map.2 ⟨n, List.mem_filter.2 ⟨List.mem_range.2 h1, by simp only [Bool.and_eq_true, beq_iff_eq]; exact ⟨h2, h3⟩⟩, rfl⟩
theorem want_nodupZ (es : List Ev) (a : Int) (k : Nat) : (wantTo es a k).Nodup := by
  unfold wantTo
  exact List.Pairwise.map _ (fun x y h e => h (Int.ofNat.inj e)) (List.Pairwise.filter _ List.nodup_range)
theorem row_nodup {es : List Ev} {ad : List Int} {o : List (Sl × List Int)} (h : orderB es ad o = true) {r : Nat} (hr : r < o.length) : (o.getD r default).2.Nodup := by
  have h1 := ((order_row h).2 r hr).1
  have h2 := want_nodupZ es (ad.getD r 0) es.length
  rw [← h1] at h2
  exact (List.mergeSort_perm _ _).nodup_iff.1 h2
theorem nodup_at {l : List Int} (h : l.Nodup) {i j : Nat} (hi : i < l.length) (hj : j < l.length) (e : l.getD i 0 = l.getD j 0) : i = j := by
  rw [List.getD_eq_getElem?_getD, List.getD_eq_getElem?_getD, List.getElem?_eq_getElem hi, List.getElem?_eq_getElem hj] at e
  have e' : l[i] = l[j] := e
  rcases Nat.lt_trichotomy i j with hij | hij | hij
  · exact (List.pairwise_iff_getElem.1 h i j hi hj hij e').elim
  · exact hij
  · exact (List.pairwise_iff_getElem.1 h j i hj hi hij e'.symm).elim
theorem mem_at {l : List Int} {a : Int} (h : a ∈ l) : ∃ i, i < l.length ∧ l.getD i 0 = a := by
  obtain ⟨i, hi, e⟩ := List.getElem_of_mem h
  exact ⟨i, hi, by rw [List.getD_eq_getElem?_getD, List.getElem?_eq_getElem hi]; exact e⟩
theorem at_mem {l : List Int} {i : Nat} (h : i < l.length) : l.getD i 0 ∈ l := by
  rw [List.getD_eq_getElem?_getD, List.getElem?_eq_getElem h]
  exact List.getElem_mem _
theorem mem_addrs' (a : Int) : ∀ (es : List Ev) (l : List Int), a ∈ es.foldl (fun l e => if e.kind = 4 then l else addIn e.addr l) l ↔ a ∈ l ∨ ∃ e ∈ es, e.kind ≠ 4 ∧ e.addr = a
  | [], l => by simp
  | e :: es, l => by
    rw [List.foldl_cons, mem_addrs' a es]
    by_cases h : e.kind = 4
    · rw [if_pos h]
      constructor
      · rintro (h1 | ⟨f, h1, h2⟩)
        · exact Or.inl h1
        · exact Or.inr ⟨f, by simp [h1], h2⟩
      · rintro (h1 | ⟨f, h1, h2, h3⟩)
        · exact Or.inl h1
        · rcases List.mem_cons.1 h1 with rfl | h1
          · exact (h2 h).elim
          · exact Or.inr ⟨f, h1, h2, h3⟩
    · rw [if_neg h, mem_addIn]
      constructor
      · rintro ((rfl | h1) | ⟨f, h1, h2⟩)
        · exact Or.inr ⟨e, by simp, h, rfl⟩
        · exact Or.inl h1
        · exact Or.inr ⟨f, by simp [h1], h2⟩
      · rintro (h1 | ⟨f, h1, h2, h3⟩)
        · exact Or.inl (Or.inr h1)
        · rcases List.mem_cons.1 h1 with rfl | h1
          · exact Or.inl (Or.inl h3.symm)
          · exact Or.inr ⟨f, h1, h2, h3⟩
theorem mem_addrs (es : List Ev) (a : Int) : a ∈ addrsTo es ↔ ∃ e ∈ es, e.kind ≠ 4 ∧ e.addr = a := by
  unfold addrsTo
  rw [mem_addrs']
  simp
/-- stores of one address -/
def both (es : List Ev) (a b : Nat) : Prop := (es.getD a default).stB = true ∧ (es.getD b default).stB = true ∧ (es.getD a default).addr = (es.getD b default).addr
section
variable {es : List Ev} {o : List (Sl × List Int)} (h : orderB es (addrsTo es) o = true)
include h
omit h in
theorem co_rowOf {a b : Int} (hp : (a, b) ∈ coZ o) : ∃ r i j, r < o.length ∧ i < j ∧ j < (o.getD r default).2.length ∧ (o.getD r default).2.getD i 0 = a ∧ (o.getD r default).2.getD j 0 = b := by
  obtain ⟨r, hr, h1⟩ := (mem_coZ o _).1 hp
  obtain ⟨i, j, h2, h3, h4, h5⟩ := (mem_coIn _ a b).1 h1
  exact ⟨r, i, j, hr, h2, h3, h4, h5⟩
theorem row_at {r i : Nat} (hr : r < o.length) (hi : i < (o.getD r default).2.length) {a : Nat} (e : (o.getD r default).2.getD i 0 = a) : a < es.length ∧ (es.getD a default).stB = true ∧ (es.getD a default).addr = (addrsTo es).getD r 0 := by
  have h1 := (order_mem h hr).1 (at_mem hi)
  rw [e] at h1
  exact (mem_wantZ _ _ _ _).1 h1
theorem row_same {r r' : Nat} (hr : r < o.length) (hr' : r' < o.length) (e : (addrsTo es).getD r 0 = (addrsTo es).getD r' 0) : r = r' := by
  have hl := (order_row h).1
  have hn : (addrsTo es).Nodup := (addrsTo_rising es).imp fun h => Int.ne_of_lt h
  exact nodup_at hn (by omega) (by omega) e
theorem co_is {a b : Nat} (hp : ((a : Int), (b : Int)) ∈ coZ o) : a < es.length ∧ b < es.length ∧ a ≠ b ∧ both es a b := by
  obtain ⟨r, i, j, hr, h2, h3, h4, h5⟩ := co_rowOf hp
  obtain ⟨a1, a2, a3⟩ := row_at h hr (by omega) h4
  obtain ⟨b1, b2, b3⟩ := row_at h hr h3 h5
  refine ⟨a1, b1, fun e => ?_, a2, b2, a3.trans b3.symm⟩
  subst e
  have := nodup_at (row_nodup h hr) (by omega) h3 (h4.trans h5.symm)
  omega
theorem co_or {a b : Nat} (ha : a < es.length) (hb : b < es.length) (hne : a ≠ b) (hab : both es a b) : ((a : Int), (b : Int)) ∈ coZ o ∨ ((b : Int), (a : Int)) ∈ coZ o := by
  obtain ⟨h1, h2, h3⟩ := hab
  have hm : (es.getD a default).addr ∈ addrsTo es := (mem_addrs _ _).2 ⟨es.getD a default, by
    rw [List.getD_eq_getElem?_getD, List.getElem?_eq_getElem ha]; exact List.getElem_mem _, fun e => by
    unfold Ev.stB at h1; rw [e] at h1; simp at h1, rfl⟩
  obtain ⟨r, hr, er⟩ := mem_at hm
  have hl := (order_row h).1
  have hro : r < o.length := by omega
  obtain ⟨i, hi, ei⟩ := mem_at ((order_mem h hro).2 ((mem_wantZ es _ es.length a).2 ⟨ha, h1, er.symm⟩))
  obtain ⟨j, hj, ej⟩ := mem_at ((order_mem h hro).2 ((mem_wantZ es _ es.length b).2 ⟨hb, h2, by rw [← h3, er]⟩))
  rcases Nat.lt_trichotomy i j with hij | hij | hij
  · exact Or.inl ((mem_coZ o _).2 ⟨r, hro, (mem_coIn _ _ _).2 ⟨i, j, hij, hj, ei, ej⟩⟩)
  · subst hij
    rw [ei] at ej
    exact (hne (by omega)).elim
  · exact Or.inr ((mem_coZ o _).2 ⟨r, hro, (mem_coIn _ _ _).2 ⟨j, i, hij, hi, ej, ei⟩⟩)
theorem co_one {a b : Nat} (h1 : ((a : Int), (b : Int)) ∈ coZ o) (h2 : ((b : Int), (a : Int)) ∈ coZ o) : False := by
  obtain ⟨r, i, j, hr, a2, a3, a4, a5⟩ := co_rowOf h1
  obtain ⟨r', i', j', hr', b2, b3, b4, b5⟩ := co_rowOf h2
  have e1 := (row_at h hr (by omega) a4).2.2
  have e2 := (row_at h hr' b3 b5).2.2
  have := row_same h hr hr' (e1.symm.trans e2)
  subst this
  have f1 := nodup_at (row_nodup h hr) (by omega) b3 (a4.trans b5.symm)
  have f2 := nodup_at (row_nodup h hr) a3 (by omega) (a5.trans b4.symm)
  omega
theorem co_trans {a b c : Nat} (h1 : ((a : Int), (b : Int)) ∈ coZ o) (h2 : ((b : Int), (c : Int)) ∈ coZ o) : ((a : Int), (c : Int)) ∈ coZ o := by
  obtain ⟨r, i, j, hr, a2, a3, a4, a5⟩ := co_rowOf h1
  obtain ⟨r', i', j', hr', b2, b3, b4, b5⟩ := co_rowOf h2
  have e1 := (row_at h hr a3 a5).2.2
  have e2 := (row_at h hr' (by omega) b4).2.2
  have := row_same h hr hr' (e1.symm.trans e2)
  subst this
  have f1 := nodup_at (row_nodup h hr) a3 (by omega) (a5.trans b4.symm)
  exact (mem_coZ o _).2 ⟨r, hr, (mem_coIn _ _ _).2 ⟨i, j', by omega, b3, a4, b5⟩⟩
end
theorem mem_rfZ {zs : List Int} {k : Nat} {a b : Int} : (a, b) ∈ rfZ zs k ↔ ∃ n : Nat, n < k ∧ 0 ≤ zs.getD n 0 ∧ a = zs.getD n 0 ∧ b = n := by
  unfold rfZ
  constructor
  · intro h
    obtain ⟨n, h1, h2⟩ := List.mem_filterMap.1 h
    split at h2
    · rename_i h0
      cases h2
      exact ⟨n, List.mem_range.1 h1, h0, rfl, rfl⟩
    · cases h2
  · rintro ⟨n, h1, h0, rfl, rfl⟩
    exact List.mem_filterMap.2 ⟨n, List.mem_range.2 h1, by rw [if_pos h0]⟩
theorem mem_sortZ {l : List (Int × Int)} {p : Int × Int} : p ∈ sortZ l ↔ p ∈ l := (List.mergeSort_perm l _).mem_iff
end Go.Proofs.Ytgeaaegkcbjhlaa
