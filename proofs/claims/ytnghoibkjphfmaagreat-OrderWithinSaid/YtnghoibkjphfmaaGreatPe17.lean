/- Rows that become plain, told cell by cell. -/
import Derived.Test.YtnghoibkjphfmaaGreatPe3
import Derived.Test.YtnghoibkjphfmaaGreatPe8
import Derived.Test.YtnghoibkjphfmaaGreatPe9
import Derived.Test.YtnghoibkjphfmaaGreatPe10
import Derived.Test.YtnghoibkjphfmaaGreatPe16
namespace Go.Proofs.YtnghoibkjphfmaaGreat
open Go.RowKit
section
variable {k s : Nat} {τ : Stamp} {rows : List (List TV)}
structure FrC (k : Nat) (τ : Stamp) (s : Nat) (rows : List (List TV)) (a b : List OV) : Prop where
  len : a.length = b.length
  cells : ∀ (o : Nat) (y' : OV), b[o]? = some y' → ∃ y : OV, a[o]? = some y ∧ Froz k τ s rows y y'
theorem frc_nil : FrC k τ s rows [] [] := ⟨rfl, fun o y' h => by simp at h⟩
theorem frc_cons {y y' : OV} {a b : List OV} (h : Froz k τ s rows y y') (hl : FrC k τ s rows a b) : FrC k τ s rows (y :: a) (y' :: b) :=
  ⟨by simp [hl.len], fun o z hz => by
    match o, hz with
    | 0, hz => cases hz; exact ⟨y, rfl, h⟩
    | o + 1, hz => exact hl.cells o z hz⟩
theorem frc_same {a : List OV} : FrC k τ s rows a a := ⟨rfl, fun _ y' h => ⟨y', h, .same y'⟩⟩
theorem frr_nil {q : Nat} : FrozR k τ s rows ⟨q, []⟩ ⟨q, []⟩ := FrozR.same _
theorem frr_cons {q : Nat} {a b : List OV} {l l' : List (List OV)} (h : FrC k τ s rows a b) (hl : FrozR k τ s rows ⟨q, l⟩ ⟨q, l'⟩) : FrozR k τ s rows ⟨q, a :: l⟩ ⟨q, b :: l'⟩ :=
  ⟨rfl, by simpa using hl.2.1, fun i row' hi => by
    match i, hi with
    | 0, hi => cases hi; exact ⟨a, rfl, h.len, h.cells⟩
    | i + 1, hi => exact hl.2.2 i row' hi⟩
end
end Go.Proofs.YtnghoibkjphfmaaGreat
/- An own row's cell told otherwise: nothing yet in a slice, a slice by another key. -/
set_option linter.unusedVariables false
namespace Go.Proofs.YtnghoibkjphfmaaGreat
open Go.RowKit
theorem WRel.cell {Γ : Ctx} {G : Gh} {σ : Store} {w : World} {kx q i o : Nat} {τx : Stamp} {rows : List (List OV)} {row : List OV} {y y' : OV} (hw : WRel Γ G σ w) (hk : σ kx = some (τx, ⟨q, rows⟩)) (hr : rows[i]? = some row) (ho : row[o]? = some y) (hy : ∀ x, RepO G y x → RepO G y' x) :
    WRel Γ G (σ.put kx (τx, ⟨q, rows.set i (row.set o y')⟩)) w where
  mem := hw.mem
  own j τ' r' hj := by
    by_cases e : j = kx
    · subst e
      rw [Store.put_self] at hj
      cases hj
      rcases hw.own j _ _ hk with ⟨_, g2⟩ | ⟨β, g1, ⟨cs, c1, c2, c3, c4⟩, g3, g4⟩
      · have g2' : rows = [] := g2
        rw [g2'] at hr; simp at hr
      · refine Or.inr ⟨β, g1, ⟨cs, c1, c2, by simpa using c3, fun i' row' hi => ?_⟩, g3, g4⟩
        by_cases ei : i' = i
        · subst ei
          obtain ⟨d1, d2⟩ := c4 i' row hr
          have hlt : i' < rows.length := by
            rcases Nat.lt_or_ge i' rows.length with h | h
            · exact h
            · rw [List.getElem?_eq_none h] at hr; cases hr
          have hi' : (rows.set i' (row.set o y'))[i']? = some row' := hi
          rw [List.getElem?_set_self hlt] at hi'
          cases hi'
          refine ⟨by rw [List.length_set]; exact d1, fun o' z hz => ?_⟩
          by_cases eo : o' = o
          · subst eo
            have hlo : o' < row.length := by
              rcases Nat.lt_or_ge o' row.length with h | h
              · exact h
              · rw [List.getElem?_eq_none h] at ho; cases ho
            rw [List.getElem?_set_self hlo] at hz
            cases hz
            obtain ⟨v, e6, e7⟩ := d2 o' y ho
            exact ⟨v, e6, hy v e7⟩
          · rw [List.getElem?_set_ne (Ne.symm eo)] at hz
            exact d2 o' z hz
        · have hi' : (rows.set i (row.set o y'))[i']? = some row' := hi
          rw [List.getElem?_set_ne (Ne.symm ei)] at hi'
          exact c4 i' row' hi'
    · rw [Store.put_ne _ _ e] at hj
      exact hw.own j τ' r' hj
  inj j j' τ1 τ2 β β' r r' hj hj' hμ hμ' e := by
    have old : ∀ j τ r, (σ.put kx (τx, ⟨q, rows.set i (row.set o y')⟩)) j = some (τ, r) → ∃ r0, σ j = some (τ, r0) := fun j τ r h => by
      by_cases e : j = kx
      · subst e; rw [Store.put_self] at h; cases h; exact ⟨_, hk⟩
      · rw [Store.put_ne _ _ e] at h; exact ⟨r, h⟩
    obtain ⟨r1, h1⟩ := old _ _ _ hj
    obtain ⟨r2, h2⟩ := old _ _ _ hj'
    exact hw.inj j j' τ1 τ2 β β' r1 r2 h1 h2 hμ hμ' e
  keep := hw.keep
  size := hw.size
  tape := hw.tape
  os := hw.os
  output := hw.output
  g0 := hw.g0
  new := hw.new
  bound := hw.bound
  low := hw.low
theorem SRel.tell {n : Nat} {C : Cx} {G G' : Gh} {tm : Tm} {σ σ' : Store} {a : Act} {w : World} (hs : SRel n C G tm σ a w) (hle : G.le G') (hw : WRel C.Γ G' σ' w) : SRel n C G' tm σ' a w :=
  ⟨hs.size, hs.defers, hs.tm.mono hle, hw, hs.fix, hs.marks, fun i Y hi => let ⟨h1, h2, h3⟩ := hs.gh i Y hi; ⟨h1, h2.trans hle, h3⟩⟩
/-- nothing yet in a slice that lies in a row of the call's own: it is the call's own, too -/
theorem awp_ownC {P : Program} {n : Nat} {c : Code} {Q : Exit → Tm → Store → Prop} {tm : Tm} {σ : Store} {kx q i o : Nat} {τx : Stamp} {rows : List (List OV)} {row : List OV} (k s : Nat) (hk : σ kx = some (τx, ⟨q, rows⟩)) (hr : rows[i]? = some row) (ho : row[o]? = some (.d (.c (.slice none 0 0)))) (hne : kx ≠ k)
    (h : ∀ τ, awp P n c Q tm ((σ.put k (τ, ⟨s, []⟩)).put kx (τx, ⟨q, rows.set i (row.set o (.os k τ s 0))⟩))) : awp P n c Q tm σ := fun C ro G a w hro hs => by
  obtain ⟨v, hv, hf⟩ := hs.w.free
  have hle := Gh.name_le G none (hf k 0)
  refine h (v, 0) C ro (G.name k (v, 0) none) a w hro (hs.tell hle ((hs.w.phantom k hv (hf k 0) s).cell (by rw [Store.put_ne _ _ hne]; exact hk) hr ho fun x hx => ?_))
  rw [RepO, Rep] at hx
  rw [RepO]
  exact Or.inr ⟨Gh.name_self _ _ _ _, hx.1, rfl⟩
/-! ### keys that are no numbers of a text -/
/-- rows by rising great keys -/
def fam (f : Nat → Stamp × Row) (a : Nat) : Nat → Rows
  | 0 => []
  | m + 1 => (a + 1000, f a) :: fam f (a + 1) m
end Go.Proofs.YtnghoibkjphfmaaGreat
/- Of the law OrderWithin: numbers where they are then, a pair that is there, small executions; in plain data. -/
set_option maxRecDepth 100000
set_option linter.unusedVariables false
set_option linter.unusedSimpArgs false
namespace Go.Proofs.YtnghoibkjphfmaaGreat
open Go.RowKit
def movedL (at_ : List Int) (l : List Int) : List Int := l.map fun d => at_.getD d.toNat 0
theorem movedL_succ {at_ l : List Int} {i : Nat} (h : i < l.length) : movedL at_ (l.take (i + 1)) = movedL at_ (l.take i) ++ [at_.getD (l.getD i 0).toNat 0] := by
  unfold movedL
  rw [List.take_succ_eq_append_getElem h, List.map_append, List.getD_eq_getElem?_getD (l := l), List.getElem?_eq_getElem h]; rfl
set_option maxHeartbeats 1000000 in
theorem moved_p (l at_ : List Int) (hl : l.length ≤ 65536) (ha : at_.length ≤ 1152921504606846976) (h : ∀ i, i < l.length → 0 ≤ l.getD i 0 ∧ l.getD i 0 < at_.length) : Own E.P 41 [.d (ints l), .d (ints at_)] 1 ((movedL at_ l).map (cellO .i64)) := by
  refine fn_of_awp Tryz.func41 (by decide) rfl Tryz.ntmps41 (Nat.le_of_ble_eq_true rfl) rfl ?_
  refine awp_seq ?_
  (refine ao_region ?_ (fun _ => ?_); exact rfl)
  refine q51 ?_; refine ao_nil ?_; refine then_n ?_; refine awp_seq ?_
  (refine ao_region ?_ (fun _ => ?_); exact rfl)
  refine q51 ?_; refine ao_nil ?_; refine then_n ?_
  iterate 2 refine awp_seq ?_
  (refine ao_region ?_ (fun _ => ?_); exact rfl)
  refine q12 ?_; refine ao_nil ?_; refine then_n ?_; refine awp_block ?_
  rotate_left
  rename_i v5 _
  refine awp_loop (X := Nat × Stamp × List Int) (fun p => tmL [(0, .d (ints l)), (1, .d (ints at_)), (5, .os 5 p.2.1 1 p.2.2.length), (6, .int .i64 p.1)]) (fun p => stL [(5, (p.2.1, ⟨1, p.2.2.map (cellO .i64)⟩))]) (fun p => p.1 ≤ l.length ∧ p.2.2 = movedL at_ (l.take p.1)) (fun p => l.length - p.1) (0, (v5, 0), []) ⟨Nat.zero_le _, rfl⟩ (by repeat' (first | exact le_nil _ | exact sle_nil _ | refine le_cons rfl ?_ | refine sle_cons rfl ?_)) (by repeat' (first | exact le_nil _ | exact sle_nil _ | refine le_cons rfl ?_ | refine sle_cons rfl ?_)) ?_
  rintro ⟨i, τ, m⟩ ⟨hi, hm⟩
  dsimp only at hi hm ⊢
  have hml : m.length ≤ l.length := by rw [hm]; unfold movedL; rw [List.length_map, List.length_take]; omega
  by_cases hlt : i < l.length
  · have h12 : 0 ≤ l.getD (i : Int).toNat 0 ∧ l.getD (i : Int).toNat 0 < at_.length := h i hlt
    iterate 2 refine awp_seq ?_
    (refine ao_region ?_ (fun _ => ?_); exact rfl)
    iterate 2 refine q11 ?_
    refine q13 ?_; refine q37 ?_; refine ao_nil ?_; refine then_n ?_
    (apply awp_cond; exact rfl)
    (refine im_dt (fun _ => ?_); (try (exfalso; omega)))
    refine awp_skip ?_; refine then_n ?_; refine awp_seq ?_; refine awp_block ?_
    (refine ao_region ?_ (fun _ => ?_); exact rfl)
    iterate 4 refine q11 ?_
    refine q17 ?_; refine q23 ?_; refine q17 ?_; refine q23 ?_
    (apply S_buildSlice; exact rfl; exact rfl; exact rfl; decide; decide; decide; exact rfl; exact rfl)
    refine q19 ?_
    (apply S_ren; exact rfl; exact rfl)
    refine ao_nil ?_; refine blk_n ?_; refine then_n ?_
    (refine ao_region ?_ (fun _ => ?_); exact rfl)
    refine q11 ?_; refine q36 ?_; refine q12 ?_; refine ao_nil ?_; refine then_n ?_
    rotate_left
    (refine im_df (fun _ => ?_); (try (exfalso; omega)))
    rename_i v9 _
    refine round' (i + 1, (v9, 10), m ++ [at_.getD (l.getD i 0).toNat 0]) ⟨by dsimp only; omega, by dsimp only; rw [hm, movedL_succ hlt]⟩ (by dsimp only; omega) (by repeat' (first | exact le_nil _ | exact sle_nil _ | refine le_cons rfl ?_ | refine sle_cons rfl ?_ | (refine le_cons_os rfl ?_ ?_; (simp <;> rfl)) | (refine le_cons_int rfl ?_ ?_; (simp <;> rfl)) | (refine sle_cons' rfl ?_ ?_; (simp <;> rfl)))) (by repeat' (first | exact le_nil _ | exact sle_nil _ | refine le_cons rfl ?_ | refine sle_cons rfl ?_ | (refine le_cons_os rfl ?_ ?_; (simp <;> rfl)) | (refine le_cons_int rfl ?_ ?_; (simp <;> rfl)) | (refine sle_cons' rfl ?_ ?_; (simp <;> rfl))))
  · iterate 2 refine awp_seq ?_
    (refine ao_region ?_ (fun _ => ?_); exact rfl)
    iterate 2 refine q11 ?_
    refine q13 ?_; refine q37 ?_; refine ao_nil ?_; refine then_n ?_
    (apply awp_cond; exact rfl)
    (refine im_dt (fun _ => ?_); (try (exfalso; omega)))
    (refine im_df (fun _ => ?_); (try (exfalso; omega)))
    refine awp_exit ?_
    iterate 2 refine then_x ?_
    refine blk_x ?_; refine then_n ?_; refine awp_seq ?_
    (refine ao_region ?_ (fun _ => ?_); exact rfl)
    refine q11 ?_
    (apply S_ren; exact rfl; exact rfl)
    refine ao_nil ?_; refine then_n ?_; refine awp_ret ?_
    rotate_left
    have hil : i = l.length := by omega
    refine own_done (d := 4) rfl rfl ?_ ?_
    · rw [hm, hil, List.take_length]
    · simp
/-- is a pair there? -/
def hasP (l : List (Int × Int)) (p : Int × Int) (k : Nat) : Bool := (List.range k).any fun i => pairB (l.getD i default) p
set_option maxHeartbeats 1000000 in
theorem has_p (l : List (Int × Int)) (p : Int × Int) (hl : l.length ≤ 1152921504606846976) : Pure E.P 19 [.d (pairsTV l), .ag (pairO' p)] (.bool (hasP l p l.length)) := by
  have f3 : Frozen 3 := ⟨trivial⟩
  refine fn_of_awp Tryz.func19 (by decide) rfl Tryz.ntmps19 (Nat.le_of_ble_eq_true rfl) rfl ?_
  refine awp_seq ?_
  (refine ao_region ?_ (fun _ => ?_); exact rfl)
  refine q34 ?_; refine q12 ?_; refine ao_nil ?_; refine then_n ?_
  iterate 2 refine awp_seq ?_
  (refine ao_region ?_ (fun _ => ?_); exact rfl)
  refine q12 ?_; refine ao_nil ?_; refine then_n ?_; refine awp_block ?_
  rotate_left
  refine awp_loop (X := Nat) (fun k => tmL [(0, .d (pairsTV l)), (3, .d (.pt (pairTV p) 0)), (5, .int .i64 k)]) (fun _ => stL []) (fun k => k ≤ l.length ∧ hasP l p k = false) (fun k => l.length - k) 0 ⟨Nat.zero_le _, rfl⟩ (by repeat' (first | exact le_nil _ | exact sle_nil _ | refine le_cons rfl ?_ | refine sle_cons rfl ?_)) (by repeat' (first | exact le_nil _ | exact sle_nil _ | refine le_cons rfl ?_ | refine sle_cons rfl ?_)) ?_
  rintro k ⟨hk, ht⟩
  by_cases hlt : k < l.length
  · iterate 2 refine awp_seq ?_
    (refine ao_region ?_ (fun _ => ?_); exact rfl)
    iterate 2 refine q11 ?_
    refine q13 ?_; refine q37 ?_; refine ao_nil ?_; refine then_n ?_
    (apply awp_cond; exact rfl)
    (refine im_dt (fun _ => ?_); (try (exfalso; omega)))
    refine awp_skip ?_; refine then_n ?_; refine awp_seq ?_; refine awp_block ?_; refine awp_seq ?_
    (refine do_region (E := E) ?_ (fun _ => ?_); exact rfl)
    iterate 2 refine q38 ?_
    refine q30 ?_
    iterate 2 (apply D_load_ptA; exact rfl; exact rfl; exact rfl; exact Nat.le_of_ble_eq_true rfl)
    (((apply D_eqlP (l.getD (k : Int).toNat default) p); exact rfl; exact rfl))
    (refine do_nil ?_ ?_; (first | ((try dsimp only [wkeys]); decide +kernel) | exact rfl))
    refine then_n ?_
    (apply awp_cond; exact rfl)
    refine im_at ?_
    iterate 2 (refine im_vt (fun _ => ?_))
    refine awp_seq ?_
    (refine ao_region ?_ (fun _ => ?_); exact rfl)
    refine q12 ?_; refine ao_nil ?_; refine then_n ?_; refine awp_ret ?_; refine blk_r ?_
    iterate 2 refine then_r ?_
    refine blk_r ?_; refine then_r ?_
    rotate_left
    (refine im_af (fun hc_ => ?_); (try simp only [Bool.not_eq_true', Bool.not_eq_false', Bool.or_eq_true, Bool.and_eq_true, Bool.or_eq_false_iff, Bool.and_eq_false_iff, decide_eq_true_eq, decide_eq_false_iff_not, Decidable.not_not, Int.not_lt, Int.not_le, Bool.not_true, Bool.not_false, Bool.true_and, Bool.and_true, Bool.false_or, Bool.or_false, Bool.true_or, Bool.false_and, bne_eq_false_iff_eq, bne_iff_ne, beq_iff_eq, beq_eq_false_iff_ne, decide_eq_decide] at hc_))
    refine awp_skip ?_; refine blk_n ?_; refine then_n ?_
    (refine ao_region ?_ (fun _ => ?_); exact rfl)
    refine q11 ?_; refine q36 ?_; refine q12 ?_; refine ao_nil ?_; refine then_n ?_
    rotate_left
    (refine im_df (fun _ => ?_); (try (exfalso; omega)))
    · rename_i g1 g2 _
      refine done_b rfl ?_
      unfold hasP
      refine (List.any_eq_true.2 ⟨k, List.mem_range.2 hlt, ?_⟩).symm
      unfold pairB
      simp only [Int.toNat_natCast] at g1 g2
      rw [g1, g2]; rfl
    · refine round' (k + 1) ⟨by omega, ?_⟩ (by omega) (by repeat' (first | exact le_nil _ | exact sle_nil _ | refine le_cons rfl ?_ | refine sle_cons rfl ?_)) (by repeat' (first | exact le_nil _ | exact sle_nil _ | refine le_cons rfl ?_ | refine sle_cons rfl ?_))
      have hs : hasP l p (k + 1) = (hasP l p k || pairB (l.getD k default) p) := by
        unfold hasP
        rw [List.range_succ, List.any_append, List.any_cons, List.any_nil, Bool.or_false]
      rw [hs, ht, Bool.false_or]
      have h9 := hc_
      simp only [Int.toNat_natCast] at h9
      unfold pairB
      rw [Bool.and_eq_false_iff]
      simpa using h9
  · iterate 2 refine awp_seq ?_
    (refine ao_region ?_ (fun _ => ?_); exact rfl)
    iterate 2 refine q11 ?_
    refine q13 ?_; refine q37 ?_; refine ao_nil ?_; refine then_n ?_
    (apply awp_cond; exact rfl)
    (refine im_dt (fun _ => ?_); (try (exfalso; omega)))
    (refine im_df (fun _ => ?_); (try (exfalso; omega)))
    refine awp_exit ?_
    iterate 2 refine then_x ?_
    refine blk_x ?_; refine then_n ?_; refine awp_seq ?_
    (refine ao_region ?_ (fun _ => ?_); exact rfl)
    refine q12 ?_; refine ao_nil ?_; refine then_n ?_; refine awp_ret ?_
    rotate_left
    refine done_b rfl ?_
    rw [show l.length = k by omega]; exact ht.symm
theorem small_p (x : Ex) (hx : x.ok) : Pure E.P 17 [exOV x] (.bool (decide (x.evs.length ≤ 20) && decide (checkI x = 0))) := by
  have f1 : Frozen 1 := ⟨trivial⟩
  have hC := rcheck_p x hx (fun e he => (hx.2.1 e he).bare)
  refine fn_of_awp Tryz.func17 (by decide) rfl Tryz.ntmps17 (Nat.le_of_ble_eq_true rfl) rfl ?_
  refine awp_seq ?_
  (refine ao_region ?_ (fun _ => ?_); exact rfl)
  refine q34 ?_; refine q12 ?_; refine ao_nil ?_; refine then_n ?_; refine awp_seq ?_
  (refine ao_region ?_ (fun _ => ?_); exact rfl)
  refine q32 ?_; refine q23 ?_; refine q13 ?_
  (apply S_leq; exact rfl; exact rfl)
  refine q11 ?_
  (apply spec_t; exact rfl; exact rfl)
  (refine im_any fun hc_ => ?_; try have hc1_ := (band hc_).1)
  refine q47
  (apply spec_t; exact rfl; exact rfl)
  (refine im_any fun hc_ => ?_; try have hc1_ := (band hc_).1)
  ((have hp_ := hc_; (try simp only [Bool.not_eq_true', Bool.not_eq_false', Bool.or_eq_true, Bool.and_eq_true, Bool.or_eq_false_iff, Bool.and_eq_false_iff, decide_eq_true_eq, decide_eq_false_iff_not, Decidable.not_not, Int.not_lt, Int.not_le, Bool.not_true, Bool.not_false, Bool.true_and, Bool.and_true, Bool.false_or, Bool.or_false, Bool.true_or, Bool.false_and, bne_eq_false_iff_eq, bne_iff_ne, beq_iff_eq, beq_eq_false_iff_ne, decide_eq_decide] at hp_)))
  ((apply M_call; (first | (refine EvM.mb _ rfl ?_; first | assumption | exact rfl) | exact EvM.plain rfl rfl); exact .fn _ _ _; (repeat (first | exact EvsM.nil | (apply EvsM.cons; first | (refine EvM.mb _ rfl ?_; first | assumption | exact rfl) | exact EvM.plain rfl rfl))); exact hC))
  (apply spec_t; exact rfl; exact rfl)
  (refine im_any fun hc_ => ?_; try have hc1_ := (band hc_).1)
  refine q7; refine q4 ?_; refine q12 ?_; refine ao_nil ?_; refine then_n ?_; refine awp_ret ?_
  rotate_left
  refine done_b rfl ?_
  rw [Bool.eq_iff_iff]
  simp only [Bool.and_eq_true, decide_eq_true_eq]
  omega
end Go.Proofs.YtnghoibkjphfmaaGreat
