/- The law OrderFences, walked in plain data. -/
import Derived.Test.YtnghoibkjphfmaaGreatPd3
import Derived.Test.YtnghoibkjphfmaaGreatPd16
import Derived.Test.YtnghoibkjphfmaaGreatPd19
set_option maxRecDepth 100000
set_option linter.unusedVariables false
set_option linter.unusedSimpArgs false
namespace Go.Proofs.YtnghoibkjphfmaaGreat
open Go.RowKit
def evRq (e : Ev) : List OV := (evTV e).map .d
def fqF (τs : Nat → Stamp) (j : Nat) : Stamp × Row := (τs j, ⟨1, [[.int .i64 (j : Int)]]⟩)
def ownRows (τs : Nat → Stamp) (i : Nat) : List (List OV) := (List.range i).map fun j => [.os (j + 1000) (τs j) 1 1]
def fqRows (τs : Nat → Stamp) (os : List (List Int)) (i n : Nat) : List (List OV) := (List.range n).map fun j => if j < i then [.d (ints (os.getD j []))] else [.os (j + 1000) (τs j) 1 1]
theorem ownRows_succ (τs : Nat → Stamp) (i : Nat) (t : Stamp) : ownRows (fun j => if j = i then t else τs j) (i + 1) = ownRows τs i ++ [[.os (i + 1000) t 1 1]] := by
  unfold ownRows
  rw [List.range_succ, List.map_append]
  congr 1
  · exact List.map_congr_left fun j hj => by dsimp only; rw [if_neg (by have := List.mem_range.1 hj; omega)]
  · simp
section
variable {E : Env} {v j : Nat} {ops : Array Oper} {K : Tm → Store → Prop} {rest : List Oper} {tm : Tm} {σ : Store} {ty : TypeId} {pos : String} {af : Array Edge}
/-- a number that is assigned, by another name -/
theorem S_assignQ {dst : Option Tmp} {x : Operand} {k : IntKind} {n m : Int} (h : ev tm x = some (.int k n)) (he : n = m) (hcont : AO E.P v ops K (j + 1) rest (tm.putO dst (.int k m)) (σ.apply [])) : AO E.P v ops K j (⟨dst, .assign x, ty, pos, af, none⟩ :: rest) tm σ := by
  subst he; exact S_assign h hcont
end
theorem fqRows_length (τs : Nat → Stamp) (os : List (List Int)) (i n : Nat) : (fqRows τs os i n).length = n := by simp [fqRows]
theorem fqRows_get {τs : Nat → Stamp} {os : List (List Int)} {i n : Nat} (h : i < n) : (fqRows τs os i n)[i]? = some [.os (i + 1000) (τs i) 1 1] := by
  unfold fqRows
  rw [List.getElem?_map, List.getElem?_range h]
  simp
theorem fqRows_set {τs : Nat → Stamp} {os : List (List Int)} {i n : Nat} (r : List Int) (hl : os.length = n) (h : i < n) : (fqRows τs os i n).set i [.d (ints r)] = fqRows τs (os.set i r) (i + 1) n := by
  apply List.ext_getElem?
  intro j
  rcases Nat.lt_or_ge j n with hj | hj
  · unfold fqRows
    by_cases e : j = i
    · subst e
      rw [List.getElem?_set_self (by simpa using hj), List.getElem?_map, List.getElem?_range hj, Option.map_some, if_pos (by omega), List.getD_eq_getElem?_getD, List.getElem?_set_self (by omega)]; rfl
    · rw [List.getElem?_set_ne (Ne.symm e), List.getElem?_map, List.getElem?_range hj, List.getElem?_map, List.getElem?_range hj, Option.map_some, Option.map_some, List.getD_eq_getElem?_getD, List.getD_eq_getElem?_getD, List.getElem?_set_ne (Ne.symm e)]
      by_cases h1 : j < i
      · rw [if_pos h1, if_pos (by omega)]
      · rw [if_neg h1, if_neg (by omega)]
  · rw [List.getElem?_eq_none (by simp [fqRows]; omega), List.getElem?_eq_none (by simp [fqRows]; omega)]
theorem fqRows_zero (τs : Nat → Stamp) (os : List (List Int)) (n : Nat) : fqRows τs os 0 n = ownRows τs n := by
  unfold fqRows ownRows
  exact List.map_congr_left fun j _ => by rw [if_neg (by omega)]
theorem fqRows_all {τs : Nat → Stamp} {os : List (List Int)} {n : Nat} (hl : os.length = n) : fqRows τs os n n = os.map fun r => [OV.d (ints r)] := by
  apply List.ext_getElem?
  intro j
  unfold fqRows
  rcases Nat.lt_or_ge j n with hj | hj
  · rw [List.getElem?_map, List.getElem?_range hj, Option.map_some, if_pos hj, List.getElem?_map, List.getD_eq_getElem?_getD, List.getElem?_eq_getElem (by omega)]; rfl
  · rw [List.getElem?_eq_none (by simp; omega), List.getElem?_eq_none (by simp; omega)]
theorem set_same {os : List (List Int)} {i : Nat} (h : i < os.length) : os.set i (os.getD i []) = os := by
  apply List.ext_getElem?
  intro j
  by_cases e : j = i
  · subst e; rw [List.getElem?_set_self h, List.getD_eq_getElem?_getD, List.getElem?_eq_getElem h]; rfl
  · rw [List.getElem?_set_ne (Ne.symm e)]
theorem bgs_succ (i : Nat) : bgs (i + 1) = bgs i ++ [bgE i] := by unfold bgs; rw [List.range_succ, List.map_append]; rfl
theorem fq_fit {n i m : Nat} {s : FqS} (h : FqOk n s i m) (hnm : n + m ≤ 64) : s.ex.fit := by
  have h1 := h.len
  have h2 := h.fl
  have h3 := h.ol
  have hr : ∀ r ∈ s.ex.order, r.2.length ≤ 2 := fun r hr => by
    have hr' : r ∈ s.os.map fun r => ((default : Sl), r) := hr
    obtain ⟨q, hq, rfl⟩ := List.mem_map.1 hr'
    obtain ⟨j, hj, rfl⟩ := List.mem_iff_getElem.1 hq
    have := h.rows j
    rw [List.getD_eq_getElem?_getD, List.getElem?_eq_getElem hj] at this
    exact this
  refine ⟨⟨by show s.es.length ≤ _; omega, h.ok, by show s.fs.length ≤ _; omega, by show (s.os.map _).length ≤ _; rw [List.length_map]; omega, fun r h => Nat.le_trans (hr r h) (by decide)⟩, fun r h => Nat.le_trans (hr r h) (by decide)⟩
set_option maxHeartbeats 4000000 in
theorem lawFences_p (pred succ : Int) (l : List Int) (hp : -9223372036854775808 ≤ pred ∧ pred ≤ 9223372036854775807) (hs : -9223372036854775808 ≤ succ ∧ succ ≤ 9223372036854775807) (hl : l.length ≤ 1152921504606846976) : Pure E.P 5 [.int .i64 pred, .int .i64 succ, .d (ints l)] (.bool true) := by
  have hkn := known7_p
  have n47 : NilS 47 := ⟨trivial⟩
  have n78 : NilS 78 := ⟨trivial⟩
  have n106 : NilS 106 := ⟨trivial⟩
  have k49 : KeyOf 49 900 := ⟨trivial⟩
  have k54 : KeyOf 54 901 := ⟨trivial⟩
  have k61 : KeyOf 61 902 := ⟨trivial⟩
  refine fn_of_awp Tryz.func5 (by decide) rfl Tryz.ntmps5 (Nat.le_of_ble_eq_true rfl) rfl ?_
  by_cases hg : 0 ≤ pred ∧ pred ≤ 3 ∧ 0 ≤ succ ∧ succ ≤ 3 ∧ l.length ≤ 8
  rotate_left
  · refine awp_seq ?_
    (refine ao_region ?_ (fun _ => ?_); exact rfl)
    refine q12 ?_; refine ao_nil ?_; refine then_n ?_
    iterate 2 refine awp_seq ?_
    (refine ao_region ?_ (fun _ => ?_); exact rfl)
    refine q11 ?_; refine q37 ?_; refine q11 ?_
    (apply spec_f; exact rfl; exact rfl)
    (refine im_any fun hc_ => ?_; try have hc1_ := (band hc_).1)
    refine q1
    (apply spec_f; exact rfl; exact rfl)
    (refine im_any fun hc_ => ?_; try have hc1_ := (band hc_).1)
    refine q35; refine q0 ?_; refine q11 ?_
    (apply spec_f; exact rfl; exact rfl)
    (refine im_any fun hc_ => ?_; try have hc1_ := (band hc_).1)
    refine q1
    (apply spec_f; exact rfl; exact rfl)
    (refine im_any fun hc_ => ?_; try have hc1_ := (band hc_).1)
    refine q22; refine q0 ?_; refine q11 ?_
    (apply spec_f; exact rfl; exact rfl)
    (refine im_any fun hc_ => ?_; try have hc1_ := (band hc_).1)
    refine q1
    (apply spec_f; exact rfl; exact rfl)
    (refine im_any fun hc_ => ?_; try have hc1_ := (band hc_).1)
    refine q35; refine q0 ?_; refine q11 ?_
    (apply spec_f; exact rfl; exact rfl)
    (refine im_any fun hc_ => ?_; try have hc1_ := (band hc_).1)
    refine q1
    (apply spec_f; exact rfl; exact rfl)
    (refine im_any fun hc_ => ?_; try have hc1_ := (band hc_).1)
    refine q18
    (apply spec_f; exact rfl; exact rfl)
    (refine im_any fun hc_ => ?_; try have hc1_ := (band hc_).1)
    refine q35; refine q0 ?_; refine ao_nil ?_; refine then_n ?_
    (apply awp_cond; exact rfl)
    (refine im_ot (fun hc_ => ?_); (try simp only [Bool.not_eq_true', Bool.not_eq_false', Bool.or_eq_true, Bool.and_eq_true, Bool.or_eq_false_iff, Bool.and_eq_false_iff, decide_eq_true_eq, decide_eq_false_iff_not, Decidable.not_not, Int.not_lt, Int.not_le, Bool.not_true, Bool.not_false, Bool.true_and, Bool.and_true, Bool.false_or, Bool.or_false, Bool.true_or, Bool.false_and, bne_eq_false_iff_eq, bne_iff_ne, beq_iff_eq, beq_eq_false_iff_ne, decide_eq_decide] at hc_))
    refine awp_seq ?_
    (refine ao_region ?_ (fun _ => ?_); exact rfl)
    ((first
      | (apply S_call; exact rfl; exact .fn _ _ _; exact rfl; exact hkn)
      | (apply D_call; exact rfl; exact .fn _ _ _; exact rfl; exact hkn)))
    refine q12 ?_; refine ao_nil ?_; refine then_n ?_; refine awp_ret ?_; refine then_r ?_
    rotate_left
    iterate 4 refine im_of ?_
    iterate 5 (refine im_df (fun _ => ?_); (try (exfalso; omega)))
    exact done_b rfl rfl
  obtain ⟨p1, p2, s1, s2, hlen⟩ := hg
  refine awp_seq ?_
  (refine ao_region ?_ (fun _ => ?_); exact rfl)
  refine q12 ?_; refine ao_nil ?_; refine then_n ?_
  iterate 2 refine awp_seq ?_
  (refine ao_region ?_ (fun _ => ?_); exact rfl)
  refine q11 ?_; refine q37 ?_; refine q11 ?_
  (apply spec_f; exact rfl; exact rfl)
  (refine im_any fun hc_ => ?_; try have hc1_ := (band hc_).1)
  refine q1
  (apply spec_f; exact rfl; exact rfl)
  (refine im_any fun hc_ => ?_; try have hc1_ := (band hc_).1)
  refine q35; refine q0 ?_; refine q11 ?_
  (apply spec_f; exact rfl; exact rfl)
  (refine im_any fun hc_ => ?_; try have hc1_ := (band hc_).1)
  refine q1
  (apply spec_f; exact rfl; exact rfl)
  (refine im_any fun hc_ => ?_; try have hc1_ := (band hc_).1)
  refine q22; refine q0 ?_; refine q11 ?_
  (apply spec_f; exact rfl; exact rfl)
  (refine im_any fun hc_ => ?_; try have hc1_ := (band hc_).1)
  refine q1
  (apply spec_f; exact rfl; exact rfl)
  (refine im_any fun hc_ => ?_; try have hc1_ := (band hc_).1)
  refine q35; refine q0 ?_; refine q11 ?_
  (apply spec_f; exact rfl; exact rfl)
  (refine im_any fun hc_ => ?_; try have hc1_ := (band hc_).1)
  refine q1
  (apply spec_f; exact rfl; exact rfl)
  (refine im_any fun hc_ => ?_; try have hc1_ := (band hc_).1)
  refine q18
  (apply spec_f; exact rfl; exact rfl)
  (refine im_any fun hc_ => ?_; try have hc1_ := (band hc_).1)
  refine q35; refine q0 ?_; refine ao_nil ?_; refine then_n ?_
  (apply awp_cond; exact rfl)
  (refine im_ot (fun hc_ => ?_); (try simp only [Bool.not_eq_true', Bool.not_eq_false', Bool.or_eq_true, Bool.and_eq_true, Bool.or_eq_false_iff, Bool.and_eq_false_iff, decide_eq_true_eq, decide_eq_false_iff_not, Decidable.not_not, Int.not_lt, Int.not_le, Bool.not_true, Bool.not_false, Bool.true_and, Bool.and_true, Bool.false_or, Bool.or_false, Bool.true_or, Bool.false_and, bne_eq_false_iff_eq, bne_iff_ne, beq_iff_eq, beq_eq_false_iff_ne, decide_eq_decide] at hc_))
  refine awp_seq ?_
  (refine ao_region ?_ (fun _ => ?_); exact rfl)
  rotate_left
  iterate 4 refine im_of ?_
  iterate 5 (refine im_df (fun _ => ?_); (try (exfalso; omega)))
  refine awp_skip ?_; refine then_n ?_; refine awp_seq ?_
  (refine ao_region ?_ (fun _ => ?_); exact rfl)
  (apply S_alloc; exact rfl)
  refine ao_nil ?_; refine then_n ?_
  iterate 2 refine awp_seq ?_
  (refine ao_region ?_ (fun _ => ?_); exact rfl)
  refine q12 ?_; refine ao_nil ?_; refine then_n ?_; refine awp_block ?_
  rotate_left
  · exfalso; omega
  rename_i v3 v4
  refine awp_ownC (kx := 7) (i := 0) (o := 0) 900 13 rfl rfl rfl (by decide) fun τE => ?_
  refine awp_ownC (kx := 7) (i := 0) (o := 1) 901 1 rfl rfl rfl (by decide) fun τF => ?_
  refine awp_ownC (kx := 7) (i := 0) (o := 2) 902 1 rfl rfl rfl (by decide) fun τO => ?_
  refine awp_loop (X := Nat × Stamp × Stamp × Stamp × (Nat → Stamp)) (fun p => tmL [(0, .int .i64 pred), (1, .int .i64 succ), (2, .d (ints l)), (7, .lo 7 (v3, 0) 3 0 0), (8, .int .i64 p.1)])
    (fun p => stL ((7, ((v3, 0), ⟨3, [[.os 900 p.2.1 13 p.1, .os 901 p.2.2.1 1 p.1, .os 902 p.2.2.2.1 1 p.1]]⟩)) :: (900, (p.2.1, ⟨13, (bgs p.1).map evRq⟩)) :: (901, (p.2.2.1, ⟨1, (List.replicate p.1 (-1)).map (cellO .i64)⟩)) :: (902, (p.2.2.2.1, ⟨1, ownRows p.2.2.2.2 p.1⟩)) :: fam (fqF p.2.2.2.2) 0 p.1))
    (fun p => p.1 ≤ l.length) (fun p => l.length - p.1) (0, τE, τF, τO, fun _ => (0, 0)) (Nat.zero_le _) (by repeat' (first | exact le_nil _ | exact sle_nil _ | refine le_cons rfl ?_ | refine sle_cons rfl ?_)) (by repeat' (first | exact le_nil _ | exact sle_nil _ | refine le_cons rfl ?_ | refine sle_cons rfl ?_)) ?_
  rintro ⟨i, τE, τF, τO, τs⟩ hi
  dsimp only at hi ⊢
  by_cases hlt : i < l.length
  · have k59 : KeyOf 59 (i + 1000) := ⟨trivial⟩
    have hb1 : (bgs i).length = i := by simp [bgs]
    have ho1 : (ownRows τs i).length = i := by simp [ownRows]
    iterate 2 refine awp_seq ?_
    (refine ao_region ?_ (fun _ => ?_); exact rfl)
    iterate 2 refine q11 ?_
    refine q13 ?_; refine q37 ?_; refine ao_nil ?_; refine then_n ?_
    (apply awp_cond; exact rfl)
    (refine im_dt (fun _ => ?_); (try (exfalso; omega)))
    refine awp_skip ?_; refine then_n ?_; refine awp_seq ?_; refine awp_block ?_; refine awp_seq ?_
    (refine ao_region ?_ (fun _ => ?_); exact rfl)
    refine q28 ?_; refine q16 ?_; refine q11 ?_
    (apply S_mul64; exact rfl; exact rfl; omega)
    (apply S_conv32u; exact rfl; exact rfl; exact rfl; exact rfl; exact rfl; omega)
    (apply S_buildN; assumption; exact rfl; exact rfl; exact rfl; exact rfl; exact rfl; exact rfl)
    (apply S_buildSlice; exact rfl; exact rfl; exact rfl; decide; decide; decide; exact rfl; exact rfl)
    refine q39 ?_; refine q28 ?_; refine q15 ?_; refine ao_nil ?_; refine then_n ?_; refine awp_seq ?_
    (refine ao_region ?_ (fun _ => ?_); exact rfl)
    refine q28 ?_; refine q16 ?_
    (apply S_buildSlice; exact rfl; exact rfl; exact rfl; decide; decide; decide; exact rfl; exact rfl)
    refine q39 ?_; refine q28 ?_; refine q15 ?_; refine ao_nil ?_; refine then_n ?_
    (refine ao_region ?_ (fun _ => ?_); exact rfl)
    refine q28 ?_; refine q16 ?_; refine q11 ?_
    (apply S_buildSliceK; assumption; exact rfl; exact rfl; exact rfl; decide; decide; decide; exact rfl; exact rfl)
    (apply S_buildSlice; exact rfl; exact rfl; exact rfl; decide; decide; decide; exact rfl; exact rfl)
    refine q39 ?_; refine q28 ?_; refine q15 ?_; refine ao_nil ?_; refine blk_n ?_; refine then_n ?_
    (refine ao_region ?_ (fun _ => ?_); exact rfl)
    refine q11 ?_; refine q36 ?_; refine q12 ?_; refine ao_nil ?_; refine then_n ?_
    rotate_left
    (refine im_df (fun _ => ?_); (try (exfalso; omega)))
    rename_i v7 v8 v9 v6
    refine round' (i + 1, (v7, 7), (v8, 3), (v9, 5), fun j => if j = i then (v9, 3) else τs j) (show i + 1 ≤ l.length by omega) (by dsimp only; omega) (by repeat' (first | exact le_nil _ | exact sle_nil _ | refine le_cons rfl ?_ | refine sle_cons rfl ?_)) ?_
    refine sle_cons' rfl ?_ (sle_cons' rfl ?_ (sle_cons' rfl ?_ (sle_cons' rfl ?_ (fam_le fun j _ hj => ?_))))
    · simp [hb1, ho1]; rfl
    · rw [bgs_succ, List.map_append]; rfl
    · dsimp only; rw [show List.replicate (i + 1) (-1 : Int) = List.replicate i (-1) ++ [-1] from List.replicate_succ', List.map_append]; rfl
    · exact (ownRows_succ τs i _).symm
    · dsimp only at hj
      by_cases e : j = i
      · subst e
        rw [show fqF (fun q => if q = j then (v9, 3) else τs q) j = ((v9, 3), ⟨1, [[.int .i64 (j : Int)]]⟩) by unfold fqF; simp]
        (repeat (first | (with_reducible exact ap_self _ _ _) | (with_reducible refine ap_nil ?_) | ((with_reducible refine ap_one ?_ ?_); (first | exact big_ne (by decide) | exact hb); skip) | ((with_reducible refine ap_two ?_ ?_ ?_); (exact big_ne (by decide)); (exact big_ne (by decide))) | ((with_reducible refine stL_ne ?_ ?_); (exact big_ne (by decide)))))
        exact ap_self _ _ _
      · rw [show fqF (fun q => if q = i then (v9, 3) else τs q) j = fqF τs j by unfold fqF; simp [e]]
        have hb : Nat.beq (j + 1000) (i + 1000) = false := beq_ne (by omega)
        (repeat (first | (with_reducible exact ap_self _ _ _) | (with_reducible refine ap_nil ?_) | ((with_reducible refine ap_one ?_ ?_); (first | exact big_ne (by decide) | exact hb); skip) | ((with_reducible refine ap_two ?_ ?_ ?_); (exact big_ne (by decide)); (exact big_ne (by decide))) | ((with_reducible refine stL_ne ?_ ?_); (exact big_ne (by decide)))))
        exact fam_at (f := fqF τs) (Nat.zero_le _) (by omega)
  · have hie : i = l.length := by omega
    subst hie
    iterate 2 refine awp_seq ?_
    (refine ao_region ?_ (fun _ => ?_); exact rfl)
    iterate 2 refine q11 ?_
    refine q13 ?_; refine q37 ?_; refine ao_nil ?_; refine then_n ?_
    (apply awp_cond; exact rfl)
    (refine im_dt (fun _ => ?_); (try (exfalso; omega)))
    (refine im_df (fun _ => ?_); (try (exfalso; omega)))
    refine awp_exit ?_
    iterate 2 refine then_x ?_
    refine blk_x ?_; refine then_n ?_
    iterate 2 refine awp_seq ?_
    (refine ao_region ?_ (fun _ => ?_); exact rfl)
    refine q12 ?_; refine ao_nil ?_; refine then_n ?_; refine awp_block ?_
    rotate_left
    refine awp_loop (X := Nat × FqS × Stamp × Stamp) (fun p => tmL [(0, .int .i64 pred), (1, .int .i64 succ), (2, .d (ints l)), (7, .lo 7 (v3, 0) 3 0 0), (9, .int .i64 p.1)])
      (fun p => stL ((7, ((v3, 0), ⟨3, [[.os 900 p.2.2.1 13 p.2.1.es.length, .os 901 p.2.2.2 1 p.2.1.fs.length, .os 902 τO 1 l.length]]⟩)) :: (900, (p.2.2.1, ⟨13, p.2.1.es.map evRq⟩)) :: (901, (p.2.2.2, ⟨1, p.2.1.fs.map (cellO .i64)⟩)) :: (902, (τO, ⟨1, fqRows τs p.2.1.os p.1 l.length⟩)) :: fam (fqF τs) p.1 (l.length - p.1)))
      (fun p => p.1 ≤ l.length ∧ p.2.1 = fqTo pred succ l p.1) (fun p => l.length - p.1) (0, fq0 l.length, τE, τF) ⟨Nat.zero_le _, rfl⟩ (by repeat' (first | exact le_nil _ | exact sle_nil _ | refine le_cons rfl ?_ | refine sle_cons rfl ?_)) ?_ ?_
    · refine sle_cons' rfl ?_ (sle_cons rfl (sle_cons rfl (sle_cons' rfl ?_ (fam_le fun j _ hj => ?_))))
      · simp [fq0, bgs]
      · exact (fqRows_zero _ _ _).symm
      · dsimp only at hj
        (repeat (first | (with_reducible exact ap_self _ _ _) | (with_reducible refine ap_nil ?_) | ((with_reducible refine ap_one ?_ ?_); (first | exact big_ne (by decide) | exact hb); skip) | ((with_reducible refine ap_two ?_ ?_ ?_); (exact big_ne (by decide)); (exact big_ne (by decide))) | ((with_reducible refine stL_ne ?_ ?_); (exact big_ne (by decide)))))
        exact fam_at (f := fqF τs) (Nat.zero_le _) (by omega)
    rintro ⟨i, s, τE, τF⟩ ⟨hi, hs⟩
    dsimp only at hi hs ⊢
    have hok : FqOk l.length s i (fqM l i) := by rw [hs]; exact fqTo_ok ⟨p1, p2⟩ ⟨s1, s2⟩ hlen i hi
    have hm : fqM l i ≤ i + 1 := by unfold fqM; split <;> omega
    have hle := hok.len
    have hlf := hok.fl
    have hol := hok.ol
    have hquo : IntKind.i64.wrap ((l.length : Int).tdiv 2) = ((l.length / 2 : Nat) : Int) := by
      rw [Int.tdiv_eq_ediv_of_nonneg (by omega), wrap64 (by omega) (by omega)]; omega
    by_cases hlt : i < l.length
    · have hrl := fqRows_length τs s.os i l.length
      refine awp_rekey (kx := 902) (i := i) (o := 0) (k := i + 1000) 903 rfl (fqRows_get hlt) rfl (by (repeat (first | (with_reducible exact ap_self _ _ _) | (with_reducible refine ap_nil ?_) | ((with_reducible refine ap_one ?_ ?_); (first | exact big_ne (by decide) | exact hb); skip) | ((with_reducible refine ap_two ?_ ?_ ?_); (exact big_ne (by decide)); (exact big_ne (by decide))) | ((with_reducible refine stL_ne ?_ ?_); (exact big_ne (by decide))))); exact fam_at (f := fqF τs) (Nat.le_refl _) (by omega)) (by omega) (by decide) fun τK => ?_
      refine awp_le (tmL [(0, .int .i64 pred), (1, .int .i64 succ), (2, .d (ints l)), (7, .lo 7 (v3, 0) 3 0 0), (9, .int .i64 i)]) (stL ((7, ((v3, 0), ⟨3, [[.os 900 τE 13 s.es.length, .os 901 τF 1 s.fs.length, .os 902 τO 1 l.length]]⟩)) :: (900, (τE, ⟨13, s.es.map evRq⟩)) :: (901, (τF, ⟨1, s.fs.map (cellO .i64)⟩)) :: (902, (τO, ⟨1, (fqRows τs s.os i l.length).set i [.os 903 τK 1 1]⟩)) :: (903, (τK, ⟨1, [[.int .i64 i]]⟩)) :: fam (fqF τs) (i + 1) (l.length - (i + 1)))) (by repeat' (first | exact le_nil _ | exact sle_nil _ | refine le_cons rfl ?_ | refine sle_cons rfl ?_)) ?_ ?_
      · refine sle_cons rfl (sle_cons rfl (sle_cons rfl (sle_cons rfl (sle_cons rfl (fam_le fun j h1 h2 => ?_)))))
        refine (Store.put_ne _ _ (by omega)).trans ((Store.put_ne _ _ (by omega)).trans ((Store.del_ne _ (by omega)).trans ?_))
        (repeat (first | (with_reducible exact ap_self _ _ _) | (with_reducible refine ap_nil ?_) | ((with_reducible refine ap_one ?_ ?_); (first | exact big_ne (by decide) | exact hb); skip) | ((with_reducible refine ap_two ?_ ?_ ?_); (exact big_ne (by decide)); (exact big_ne (by decide))) | ((with_reducible refine stL_ne ?_ ?_); (exact big_ne (by decide)))))
        exact fam_at (f := fqF τs) (by omega) (by omega)
      have ht1 : -3 < (l.getD (i : Int).toNat 0).tmod 3 := Int.lt_tmod_of_pos _ (by decide)
      have ht2 : (l.getD (i : Int).toNat 0).tmod 3 < 3 := Int.tmod_lt_of_pos _ (by decide)
      have ht3 : 0 ≤ ((l.getD (i : Int).toNat 0).tmod 3 + 3).tmod 3 := Int.tmod_nonneg _ (by omega)
      have ht4 : ((l.getD (i : Int).toNat 0).tmod 3 + 3).tmod 3 < 3 := Int.tmod_lt_of_pos _ (by decide)
      have hkd : kindL l i = 1 + ((l.getD (i : Int).toNat 0).tmod 3 + 3).tmod 3 := rfl
      have hnx : fqTo pred succ l (i + 1) = (if i = l.length / 2 then s.fence pred succ else s).acc i (kindL l i) := by rw [hs]; rfl
      have k80 : KeyOf 80 900 := ⟨trivial⟩
      have k85 : KeyOf 85 901 := ⟨trivial⟩
      have k129 : KeyOf 129 900 := ⟨trivial⟩
      have k135 : KeyOf 135 901 := ⟨trivial⟩
      have f123 : Frozen 123 := ⟨trivial⟩
      have hrow : ((fqRows τs s.os i l.length).set i [OV.os 903 τK 1 1])[(i : Int).toNat]? = some [OV.os 903 τK 1 1] := List.getElem?_set_self (by omega)
      obtain ⟨hk1, hk3⟩ := kindL_in l i
      by_cases hk2 : kindL l i = 2
      · have he : 1 + ((l.getD (i : Int).toNat 0).tmod 3 + 3).tmod 3 = 2 := hkd.symm.trans hk2
        iterate 2 refine awp_seq ?_
        (refine ao_region ?_ (fun _ => ?_); exact rfl)
        iterate 2 refine q11 ?_
        refine q13 ?_
        (apply S_leq; exact rfl; exact rfl)
        refine ao_nil ?_; refine then_n ?_
        (apply awp_cond; exact rfl)
        (refine im_dt (fun _ => ?_); (try (exfalso; omega)))
        refine awp_skip ?_; refine then_n ?_; refine awp_seq ?_; refine awp_block ?_
        iterate 2 refine awp_seq ?_
        (refine ao_region ?_ (fun _ => ?_); exact rfl)
        iterate 2 refine q11 ?_
        refine q13 ?_
        (apply S_quo; exact rfl; exact rfl; (first | decide | omega))
        refine q46 ?_; refine ao_nil ?_; refine then_n ?_
        (apply awp_cond; exact rfl)
        (refine im_dt (fun _ => ?_); (try (exfalso; omega)))
        refine awp_seq ?_
        (refine ao_region ?_ (fun _ => ?_); exact rfl)
        refine q28 ?_; refine q16 ?_
        iterate 2 refine q11 ?_
        (apply S_buildN; assumption; exact rfl; exact rfl; exact rfl; exact rfl; exact rfl; exact rfl)
        (apply S_buildSlice; exact rfl; exact rfl; exact rfl; decide; decide; decide; exact rfl; exact rfl)
        refine q39 ?_; refine q28 ?_; refine q15 ?_; refine ao_nil ?_; refine then_n ?_
        (refine ao_region ?_ (fun _ => ?_); exact rfl)
        refine q28 ?_; refine q16 ?_
        (apply S_buildSlice; exact rfl; exact rfl; exact rfl; decide; decide; decide; exact rfl; exact rfl)
        refine q39 ?_; refine q28 ?_; refine q15 ?_; refine ao_nil ?_; refine then_n ?_
        iterate 2 refine awp_seq ?_
        (refine ao_region ?_ (fun _ => ?_); exact rfl)
        iterate 2 refine q11 ?_
        refine q13 ?_; refine q46 ?_; refine ao_nil ?_; refine then_n ?_
        (apply awp_cond; exact rfl)
        (refine im_dt (fun _ => ?_); (try (exfalso; omega)))
        (refine im_df (fun _ => ?_); (try (exfalso; omega)))
        refine awp_skip ?_; refine then_n ?_; refine awp_seq ?_
        (refine ao_region ?_ (fun _ => ?_); exact rfl)
        refine q28 ?_; refine q16 ?_; refine q13 ?_; refine q12 ?_; refine ao_nil ?_; refine then_n ?_; refine awp_seq ?_
        (refine ao_region ?_ (fun _ => ?_); exact rfl)
        iterate 2 refine q11 ?_
        refine q17 ?_; refine q23 ?_
        (apply S_rem; exact rfl; exact rfl; (first | decide | omega))
        refine q36 ?_
        (apply S_rem; exact rfl; exact rfl; (first | decide | omega))
        refine q36 ?_
        ((apply S_assignQ; exact rfl; exact he))
        refine ao_nil ?_; refine then_n ?_; refine awp_seq ?_
        (refine ao_region ?_ (fun _ => ?_); exact rfl)
        iterate 2 refine q11 ?_
        (apply S_mul64; exact rfl; exact rfl; omega)
        (apply S_conv32u; exact rfl; exact rfl; exact rfl; exact rfl; exact rfl; omega)
        (apply S_buildN; assumption; exact rfl; exact rfl; exact rfl; exact rfl; exact rfl; exact rfl)
        (apply S_alloc; exact rfl)
        refine q15 ?_; refine ao_nil ?_; refine then_n ?_; refine awp_seq ?_
        (refine ao_region ?_ (fun _ => ?_); exact rfl)
        refine q12 ?_; refine ao_nil ?_; refine then_n ?_
        iterate 2 refine awp_seq ?_
        (refine ao_region ?_ (fun _ => ?_); exact rfl)
        refine q11 ?_; refine q44 ?_; refine ao_nil ?_; refine then_n ?_
        (apply awp_cond; exact rfl)
        (refine im_nt (fun _ => ?_); (try (exfalso; omega)))
        (refine im_nf (fun _ => ?_); (try (exfalso; omega)))
        refine awp_skip ?_; refine then_n ?_
        iterate 2 refine awp_seq ?_
        (refine ao_region ?_ (fun _ => ?_); exact rfl)
        refine q11 ?_; refine q44 ?_; refine ao_nil ?_; refine then_n ?_
        (apply awp_cond; exact rfl)
        (refine im_nt (fun _ => ?_); (try (exfalso; omega)))
        refine awp_seq ?_
        (refine ao_region ?_ (fun _ => ?_); exact rfl)
        refine q28 ?_; refine q15 ?_; refine ao_nil ?_; refine then_n ?_
        (refine do_region (E := E) ?_ (fun _ => ?_); exact rfl)
        refine q56 ?_
        (apply D_load_lo; exact rfl; exact rfl; exact rfl; exact rfl; (first | exact rfl | exact get_map (by omega) (0 : Int) | exact get_map (by omega) default | exact hrow _ | assumption); exact rfl)
        refine q38 ?_; refine q56 ?_
        (apply D_load_lo; exact rfl; exact rfl; exact rfl; exact rfl; (first | exact rfl | exact get_map (by omega) (0 : Int) | exact get_map (by omega) default | exact hrow _ | assumption); exact rfl)
        refine q38 ?_
        (apply D_indexAddr_os; exact rfl; exact rfl; exact rfl; exact rfl; exact rfl; exact rfl; omega)
        (apply D_load_lo; exact rfl; exact rfl; exact rfl; exact rfl; (first | exact rfl | exact get_map (by omega) (0 : Int) | exact get_map (by omega) default | exact hrow _ | assumption); exact rfl)
        refine q38 ?_
        (apply D_buildSlice; exact rfl; exact rfl; exact rfl; decide; decide; decide; exact rfl; exact rfl)
        (apply D_appendF; assumption; exact rfl; exact rfl; exact rfl; exact rfl; decide; exact rfl; exact rfl; (first | exact .os _ _ _ _ rfl (by first | rfl | (first | omega | (simp only [List.length_append, List.length_map, List.length_take, List.length_drop, List.length_cons, List.length_nil, List.length_replicate, chop_length] <;> omega))) | exact .nil); (first | exact .os _ _ _ _ rfl (by first | rfl | (first | omega | (simp only [List.length_append, List.length_map, List.length_take, List.length_drop, List.length_cons, List.length_nil, List.length_replicate, chop_length] <;> omega))) | exact .vw _ _ _ _ _ rfl (by (first | omega | (simp only [List.length_append, List.length_map, List.length_take, List.length_drop, List.length_cons, List.length_nil, List.length_replicate, chop_length] <;> omega))) | exact .nil | exact .sl _); (repeat (first | exact LeafR.nil | exact LeafR.cells _ _ | exact LeafR.d _ | (apply LeafR.one; exact rfl) | exact hleaf _ | refine LeafR.take _ ?_ | refine LeafR.drop _ ?_ | refine LeafR.app ?_ ?_ | (apply LeafR.lit; exact rfl) | assumption)); (show _ * (Nat.succ _) ≤ _; (first | omega | (simp only [List.length_append, List.length_map, List.length_take, List.length_drop, List.length_cons, List.length_nil, List.length_replicate, chop_length] <;> omega))); (unfold maxLen; (first | omega | (simp only [List.length_append, List.length_map, List.length_take, List.length_drop, List.length_cons, List.length_nil, List.length_replicate, chop_length] <;> omega))); (repeat (first | exact FzR.nil | exact FzR.ints _ | exact FzR.d _ | exact hfz _ | exact FzC.map _ | exact FzC.nil | apply FzR.take | apply FzR.drop | apply FzR.app | apply FzR.cons | apply FzC.cons | assumption)); (first | rfl | (first | omega | (simp only [List.length_append, List.length_map, List.length_take, List.length_drop, List.length_cons, List.length_nil, List.length_replicate, chop_length] <;> omega))))
        (apply D_indexAddr_os; exact rfl; exact rfl; exact rfl; exact rfl; exact rfl; exact rfl; omega)
        (apply D_store; exact rfl; exact rfl; exact rfl; exact rfl; exact rfl; exact rfl; (first | exact rfl | exact get_map (by omega) (0 : Int) | exact get_map (by omega) default | exact get_set_ne (by omega) (by omega) (0 : Int) | assumption); exact Nat.le_of_ble_eq_true rfl)
        (refine do_nil ?_ ?_; (first | ((try dsimp only [wkeys]); decide +kernel) | exact rfl))
        refine then_n ?_; refine awp_seq ?_
        (refine ao_region ?_ (fun _ => ?_); exact rfl)
        refine q28 ?_; refine q16 ?_; refine q14 ?_
        (apply S_buildSlice; exact rfl; exact rfl; exact rfl; decide; decide; decide; exact rfl; exact rfl)
        refine q39 ?_; refine q28 ?_; refine q15 ?_; refine ao_nil ?_; refine then_n ?_
        (refine ao_region ?_ (fun _ => ?_); exact rfl)
        refine q28 ?_; refine q16 ?_; refine q11 ?_
        (apply S_buildSlice; exact rfl; exact rfl; exact rfl; decide; decide; decide; exact rfl; exact rfl)
        refine q39 ?_; refine q28 ?_; refine q15 ?_; refine ao_nil ?_; refine blk_n ?_; refine then_n ?_
        (refine ao_region ?_ (fun _ => ?_); exact rfl)
        refine q11 ?_; refine q36 ?_; refine q12 ?_; refine ao_nil ?_; refine then_n ?_
        rotate_left
        (refine im_nf (fun _ => ?_); (try (exfalso; omega)))
        (refine im_df (fun _ => ?_); (try (exfalso; omega)))
        refine awp_skip ?_; refine then_n ?_
        iterate 2 refine awp_seq ?_
        (refine ao_region ?_ (fun _ => ?_); exact rfl)
        iterate 2 refine q11 ?_
        refine q13 ?_; refine q46 ?_; refine ao_nil ?_; refine then_n ?_
        (apply awp_cond; exact rfl)
        (refine im_dt (fun _ => ?_); (try (exfalso; omega)))
        (refine im_df (fun _ => ?_); (try (exfalso; omega)))
        refine awp_skip ?_; refine then_n ?_; refine awp_seq ?_
        (refine ao_region ?_ (fun _ => ?_); exact rfl)
        refine q28 ?_; refine q16 ?_; refine q13 ?_; refine q12 ?_; refine ao_nil ?_; refine then_n ?_; refine awp_seq ?_
        (refine ao_region ?_ (fun _ => ?_); exact rfl)
        iterate 2 refine q11 ?_
        refine q17 ?_; refine q23 ?_
        (apply S_rem; exact rfl; exact rfl; (first | decide | omega))
        refine q36 ?_
        (apply S_rem; exact rfl; exact rfl; (first | decide | omega))
        refine q36 ?_
        ((apply S_assignQ; exact rfl; exact he))
        refine ao_nil ?_; refine then_n ?_; refine awp_seq ?_
        (refine ao_region ?_ (fun _ => ?_); exact rfl)
        iterate 2 refine q11 ?_
        (apply S_mul64; exact rfl; exact rfl; omega)
        (apply S_conv32u; exact rfl; exact rfl; exact rfl; exact rfl; exact rfl; omega)
        (apply S_buildN; assumption; exact rfl; exact rfl; exact rfl; exact rfl; exact rfl; exact rfl)
        (apply S_alloc; exact rfl)
        refine q15 ?_; refine ao_nil ?_; refine then_n ?_; refine awp_seq ?_
        (refine ao_region ?_ (fun _ => ?_); exact rfl)
        refine q12 ?_; refine ao_nil ?_; refine then_n ?_
        iterate 2 refine awp_seq ?_
        (refine ao_region ?_ (fun _ => ?_); exact rfl)
        refine q11 ?_; refine q44 ?_; refine ao_nil ?_; refine then_n ?_
        (apply awp_cond; exact rfl)
        (refine im_nt (fun _ => ?_); (try (exfalso; omega)))
        (refine im_nf (fun _ => ?_); (try (exfalso; omega)))
        refine awp_skip ?_; refine then_n ?_
        iterate 2 refine awp_seq ?_
        (refine ao_region ?_ (fun _ => ?_); exact rfl)
        refine q11 ?_; refine q44 ?_; refine ao_nil ?_; refine then_n ?_
        (apply awp_cond; exact rfl)
        (refine im_nt (fun _ => ?_); (try (exfalso; omega)))
        refine awp_seq ?_
        (refine ao_region ?_ (fun _ => ?_); exact rfl)
        refine q28 ?_; refine q15 ?_; refine ao_nil ?_; refine then_n ?_
        (refine do_region (E := E) ?_ (fun _ => ?_); exact rfl)
        refine q56 ?_
        (apply D_load_lo; exact rfl; exact rfl; exact rfl; exact rfl; (first | exact rfl | exact get_map (by omega) (0 : Int) | exact get_map (by omega) default | exact hrow _ | assumption); exact rfl)
        refine q38 ?_; refine q56 ?_
        (apply D_load_lo; exact rfl; exact rfl; exact rfl; exact rfl; (first | exact rfl | exact get_map (by omega) (0 : Int) | exact get_map (by omega) default | exact hrow _ | assumption); exact rfl)
        refine q38 ?_
        (apply D_indexAddr_os; exact rfl; exact rfl; exact rfl; exact rfl; exact rfl; exact rfl; omega)
        (apply D_load_lo; exact rfl; exact rfl; exact rfl; exact rfl; (first | exact rfl | exact get_map (by omega) (0 : Int) | exact get_map (by omega) default | exact hrow _ | assumption); exact rfl)
        refine q38 ?_
        (apply D_buildSlice; exact rfl; exact rfl; exact rfl; decide; decide; decide; exact rfl; exact rfl)
        (apply D_appendF; assumption; exact rfl; exact rfl; exact rfl; exact rfl; decide; exact rfl; exact rfl; (first | exact .os _ _ _ _ rfl (by first | rfl | (first | omega | (simp only [List.length_append, List.length_map, List.length_take, List.length_drop, List.length_cons, List.length_nil, List.length_replicate, chop_length] <;> omega))) | exact .nil); (first | exact .os _ _ _ _ rfl (by first | rfl | (first | omega | (simp only [List.length_append, List.length_map, List.length_take, List.length_drop, List.length_cons, List.length_nil, List.length_replicate, chop_length] <;> omega))) | exact .vw _ _ _ _ _ rfl (by (first | omega | (simp only [List.length_append, List.length_map, List.length_take, List.length_drop, List.length_cons, List.length_nil, List.length_replicate, chop_length] <;> omega))) | exact .nil | exact .sl _); (repeat (first | exact LeafR.nil | exact LeafR.cells _ _ | exact LeafR.d _ | (apply LeafR.one; exact rfl) | exact hleaf _ | refine LeafR.take _ ?_ | refine LeafR.drop _ ?_ | refine LeafR.app ?_ ?_ | (apply LeafR.lit; exact rfl) | assumption)); (show _ * (Nat.succ _) ≤ _; (first | omega | (simp only [List.length_append, List.length_map, List.length_take, List.length_drop, List.length_cons, List.length_nil, List.length_replicate, chop_length] <;> omega))); (unfold maxLen; (first | omega | (simp only [List.length_append, List.length_map, List.length_take, List.length_drop, List.length_cons, List.length_nil, List.length_replicate, chop_length] <;> omega))); (repeat (first | exact FzR.nil | exact FzR.ints _ | exact FzR.d _ | exact hfz _ | exact FzC.map _ | exact FzC.nil | apply FzR.take | apply FzR.drop | apply FzR.app | apply FzR.cons | apply FzC.cons | assumption)); (first | rfl | (first | omega | (simp only [List.length_append, List.length_map, List.length_take, List.length_drop, List.length_cons, List.length_nil, List.length_replicate, chop_length] <;> omega))))
        (apply D_indexAddr_os; exact rfl; exact rfl; exact rfl; exact rfl; exact rfl; exact rfl; omega)
        (apply D_store; exact rfl; exact rfl; exact rfl; exact rfl; exact rfl; exact rfl; (first | exact rfl | exact get_map (by omega) (0 : Int) | exact get_map (by omega) default | exact get_set_ne (by omega) (by omega) (0 : Int) | assumption); exact Nat.le_of_ble_eq_true rfl)
        (refine do_nil ?_ ?_; (first | ((try dsimp only [wkeys]); decide +kernel) | exact rfl))
        refine then_n ?_; refine awp_seq ?_
        (refine ao_region ?_ (fun _ => ?_); exact rfl)
        refine q28 ?_; refine q16 ?_; refine q14 ?_
        (apply S_buildSlice; exact rfl; exact rfl; exact rfl; decide; decide; decide; exact rfl; exact rfl)
        refine q39 ?_; refine q28 ?_; refine q15 ?_; refine ao_nil ?_; refine then_n ?_
        (refine ao_region ?_ (fun _ => ?_); exact rfl)
        refine q28 ?_; refine q16 ?_; refine q11 ?_
        (apply S_buildSlice; exact rfl; exact rfl; exact rfl; decide; decide; decide; exact rfl; exact rfl)
        refine q39 ?_; refine q28 ?_; refine q15 ?_; refine ao_nil ?_; refine blk_n ?_; refine then_n ?_
        (refine ao_region ?_ (fun _ => ?_); exact rfl)
        refine q11 ?_; refine q36 ?_; refine q12 ?_; refine ao_nil ?_; refine then_n ?_
        rotate_left
        (refine im_nf (fun _ => ?_); (try (exfalso; omega)))
        (refine im_df (fun _ => ?_); (try (exfalso; omega)))
        · rename_i hf _ _ _ _ _ _ _ _ _ _ _ _ _ v25 v26 v27 _
          rw [hquo] at hf
          rw [if_pos (by omega), hk2] at hnx
          refine round' (i + 1, _, (v26, 4), (v27, 4)) ⟨by dsimp only; omega, hnx.symm⟩ (by dsimp only; omega) (by repeat' (first | exact le_nil _ | exact sle_nil _ | refine le_cons rfl ?_ | refine sle_cons rfl ?_)) (sle_cons' rfl ?_ (sle_cons' rfl ?_ (sle_cons' rfl ?_ (sle_cons' rfl ?_ (fam_le fun j h1 h2 => ?_)))))
          · first
              | (simp [FqS.acc, FqS.fence] <;> rfl)
              | (simp [FqS.acc, FqS.fence]; done)
          · first
              | (simp [FqS.acc, FqS.fence] <;> rfl)
              | (simp [FqS.acc, FqS.fence]; done)
          · first
              | (simp [FqS.acc, FqS.fence] <;> rfl)
              | (simp [FqS.acc, FqS.fence]; done)
          · refine (List.set_set ..).trans (Eq.trans (congrArg (fun z => (fqRows τs s.os i l.length).set i [OV.d z]) ?_) (fqRows_set (s.os.getD i [] ++ [((s.es ++ [fenceE pred succ]).length : Int)]) hol hlt))
            rw [hok.row i (Nat.le_refl _) hlt]
            first | (simp [ints, cell]; exact ⟨rfl, rfl⟩) | (simp [ints, cell]; exact rfl) | (simp [ints, cell]; done)
          · dsimp only at h1 h2
            (repeat (first | (with_reducible exact ap_self _ _ _) | (with_reducible refine ap_nil ?_) | ((with_reducible refine ap_one ?_ ?_); (first | exact big_ne (by decide) | exact hb); skip) | ((with_reducible refine ap_two ?_ ?_ ?_); (exact big_ne (by decide)); (exact big_ne (by decide))) | ((with_reducible refine stL_ne ?_ ?_); (exact big_ne (by decide)))))
            exact fam_at (f := fqF τs) (by omega) (by omega)
        · rename_i hf _ _ _ _ _ _ _ _ _ _ _ v25 v26 v27 _
          rw [hquo] at hf
          rw [if_neg (by omega), hk2] at hnx
          refine round' (i + 1, _, (v26, 4), (v27, 4)) ⟨by dsimp only; omega, hnx.symm⟩ (by dsimp only; omega) (by repeat' (first | exact le_nil _ | exact sle_nil _ | refine le_cons rfl ?_ | refine sle_cons rfl ?_)) (sle_cons' rfl ?_ (sle_cons' rfl ?_ (sle_cons' rfl ?_ (sle_cons' rfl ?_ (fam_le fun j h1 h2 => ?_)))))
          · first
              | (simp [FqS.acc, FqS.fence] <;> rfl)
              | (simp [FqS.acc, FqS.fence]; done)
          · first
              | (simp [FqS.acc, FqS.fence] <;> rfl)
              | (simp [FqS.acc, FqS.fence]; done)
          · first
              | (simp [FqS.acc, FqS.fence] <;> rfl)
              | (simp [FqS.acc, FqS.fence]; done)
          · refine (List.set_set ..).trans (Eq.trans (congrArg (fun z => (fqRows τs s.os i l.length).set i [OV.d z]) ?_) (fqRows_set (s.os.getD i [] ++ [((s.es).length : Int)]) hol hlt))
            rw [hok.row i (Nat.le_refl _) hlt]
            first | (simp [ints, cell]; exact ⟨rfl, rfl⟩) | (simp [ints, cell]; exact rfl) | (simp [ints, cell]; done)
          · dsimp only at h1 h2
            (repeat (first | (with_reducible exact ap_self _ _ _) | (with_reducible refine ap_nil ?_) | ((with_reducible refine ap_one ?_ ?_); (first | exact big_ne (by decide) | exact hb); skip) | ((with_reducible refine ap_two ?_ ?_ ?_); (exact big_ne (by decide)); (exact big_ne (by decide))) | ((with_reducible refine stL_ne ?_ ?_); (exact big_ne (by decide)))))
            exact fam_at (f := fqF τs) (by omega) (by omega)
      by_cases hk3' : kindL l i = 3
      · have he : 1 + ((l.getD (i : Int).toNat 0).tmod 3 + 3).tmod 3 = 3 := hkd.symm.trans hk3'
        iterate 2 refine awp_seq ?_
        (refine ao_region ?_ (fun _ => ?_); exact rfl)
        iterate 2 refine q11 ?_
        refine q13 ?_
        (apply S_leq; exact rfl; exact rfl)
        refine ao_nil ?_; refine then_n ?_
        (apply awp_cond; exact rfl)
        (refine im_dt (fun _ => ?_); (try (exfalso; omega)))
        refine awp_skip ?_; refine then_n ?_; refine awp_seq ?_; refine awp_block ?_
        iterate 2 refine awp_seq ?_
        (refine ao_region ?_ (fun _ => ?_); exact rfl)
        iterate 2 refine q11 ?_
        refine q13 ?_
        (apply S_quo; exact rfl; exact rfl; (first | decide | omega))
        refine q46 ?_; refine ao_nil ?_; refine then_n ?_
        (apply awp_cond; exact rfl)
        (refine im_dt (fun _ => ?_); (try (exfalso; omega)))
        refine awp_seq ?_
        (refine ao_region ?_ (fun _ => ?_); exact rfl)
        refine q28 ?_; refine q16 ?_
        iterate 2 refine q11 ?_
        (apply S_buildN; assumption; exact rfl; exact rfl; exact rfl; exact rfl; exact rfl; exact rfl)
        (apply S_buildSlice; exact rfl; exact rfl; exact rfl; decide; decide; decide; exact rfl; exact rfl)
        refine q39 ?_; refine q28 ?_; refine q15 ?_; refine ao_nil ?_; refine then_n ?_
        (refine ao_region ?_ (fun _ => ?_); exact rfl)
        refine q28 ?_; refine q16 ?_
        (apply S_buildSlice; exact rfl; exact rfl; exact rfl; decide; decide; decide; exact rfl; exact rfl)
        refine q39 ?_; refine q28 ?_; refine q15 ?_; refine ao_nil ?_; refine then_n ?_
        iterate 2 refine awp_seq ?_
        (refine ao_region ?_ (fun _ => ?_); exact rfl)
        iterate 2 refine q11 ?_
        refine q13 ?_; refine q46 ?_; refine ao_nil ?_; refine then_n ?_
        (apply awp_cond; exact rfl)
        (refine im_dt (fun _ => ?_); (try (exfalso; omega)))
        (refine im_df (fun _ => ?_); (try (exfalso; omega)))
        refine awp_skip ?_; refine then_n ?_; refine awp_seq ?_
        (refine ao_region ?_ (fun _ => ?_); exact rfl)
        refine q28 ?_; refine q16 ?_; refine q13 ?_; refine q12 ?_; refine ao_nil ?_; refine then_n ?_; refine awp_seq ?_
        (refine ao_region ?_ (fun _ => ?_); exact rfl)
        iterate 2 refine q11 ?_
        refine q17 ?_; refine q23 ?_
        (apply S_rem; exact rfl; exact rfl; (first | decide | omega))
        refine q36 ?_
        (apply S_rem; exact rfl; exact rfl; (first | decide | omega))
        refine q36 ?_
        ((apply S_assignQ; exact rfl; exact he))
        refine ao_nil ?_; refine then_n ?_; refine awp_seq ?_
        (refine ao_region ?_ (fun _ => ?_); exact rfl)
        iterate 2 refine q11 ?_
        (apply S_mul64; exact rfl; exact rfl; omega)
        (apply S_conv32u; exact rfl; exact rfl; exact rfl; exact rfl; exact rfl; omega)
        (apply S_buildN; assumption; exact rfl; exact rfl; exact rfl; exact rfl; exact rfl; exact rfl)
        (apply S_alloc; exact rfl)
        refine q15 ?_; refine ao_nil ?_; refine then_n ?_; refine awp_seq ?_
        (refine ao_region ?_ (fun _ => ?_); exact rfl)
        refine q12 ?_; refine ao_nil ?_; refine then_n ?_
        iterate 2 refine awp_seq ?_
        (refine ao_region ?_ (fun _ => ?_); exact rfl)
        refine q11 ?_; refine q44 ?_; refine ao_nil ?_; refine then_n ?_
        (apply awp_cond; exact rfl)
        (refine im_nt (fun _ => ?_); (try (exfalso; omega)))
        (refine ao_region ?_ (fun _ => ?_); exact rfl)
        refine q11 ?_; refine q12 ?_; refine ao_nil ?_; refine then_n ?_
        iterate 2 refine awp_seq ?_
        (refine ao_region ?_ (fun _ => ?_); exact rfl)
        refine q11 ?_; refine q44 ?_; refine ao_nil ?_; refine then_n ?_
        (apply awp_cond; exact rfl)
        (refine im_nt (fun _ => ?_); (try (exfalso; omega)))
        refine awp_seq ?_
        (refine ao_region ?_ (fun _ => ?_); exact rfl)
        refine q28 ?_; refine q15 ?_; refine ao_nil ?_; refine then_n ?_
        (refine do_region (E := E) ?_ (fun _ => ?_); exact rfl)
        refine q56 ?_
        (apply D_load_lo; exact rfl; exact rfl; exact rfl; exact rfl; (first | exact rfl | exact get_map (by omega) (0 : Int) | exact get_map (by omega) default | exact hrow _ | assumption); exact rfl)
        refine q38 ?_; refine q56 ?_
        (apply D_load_lo; exact rfl; exact rfl; exact rfl; exact rfl; (first | exact rfl | exact get_map (by omega) (0 : Int) | exact get_map (by omega) default | exact hrow _ | assumption); exact rfl)
        refine q38 ?_
        (apply D_indexAddr_os; exact rfl; exact rfl; exact rfl; exact rfl; exact rfl; exact rfl; omega)
        (apply D_load_lo; exact rfl; exact rfl; exact rfl; exact rfl; (first | exact rfl | exact get_map (by omega) (0 : Int) | exact get_map (by omega) default | exact hrow _ | assumption); exact rfl)
        refine q38 ?_
        (apply D_buildSlice; exact rfl; exact rfl; exact rfl; decide; decide; decide; exact rfl; exact rfl)
        (apply D_appendF; assumption; exact rfl; exact rfl; exact rfl; exact rfl; decide; exact rfl; exact rfl; (first | exact .os _ _ _ _ rfl (by first | rfl | (first | omega | (simp only [List.length_append, List.length_map, List.length_take, List.length_drop, List.length_cons, List.length_nil, List.length_replicate, chop_length] <;> omega))) | exact .nil); (first | exact .os _ _ _ _ rfl (by first | rfl | (first | omega | (simp only [List.length_append, List.length_map, List.length_take, List.length_drop, List.length_cons, List.length_nil, List.length_replicate, chop_length] <;> omega))) | exact .vw _ _ _ _ _ rfl (by (first | omega | (simp only [List.length_append, List.length_map, List.length_take, List.length_drop, List.length_cons, List.length_nil, List.length_replicate, chop_length] <;> omega))) | exact .nil | exact .sl _); (repeat (first | exact LeafR.nil | exact LeafR.cells _ _ | exact LeafR.d _ | (apply LeafR.one; exact rfl) | exact hleaf _ | refine LeafR.take _ ?_ | refine LeafR.drop _ ?_ | refine LeafR.app ?_ ?_ | (apply LeafR.lit; exact rfl) | assumption)); (show _ * (Nat.succ _) ≤ _; (first | omega | (simp only [List.length_append, List.length_map, List.length_take, List.length_drop, List.length_cons, List.length_nil, List.length_replicate, chop_length] <;> omega))); (unfold maxLen; (first | omega | (simp only [List.length_append, List.length_map, List.length_take, List.length_drop, List.length_cons, List.length_nil, List.length_replicate, chop_length] <;> omega))); (repeat (first | exact FzR.nil | exact FzR.ints _ | exact FzR.d _ | exact hfz _ | exact FzC.map _ | exact FzC.nil | apply FzR.take | apply FzR.drop | apply FzR.app | apply FzR.cons | apply FzC.cons | assumption)); (first | rfl | (first | omega | (simp only [List.length_append, List.length_map, List.length_take, List.length_drop, List.length_cons, List.length_nil, List.length_replicate, chop_length] <;> omega))))
        (apply D_indexAddr_os; exact rfl; exact rfl; exact rfl; exact rfl; exact rfl; exact rfl; omega)
        (apply D_store; exact rfl; exact rfl; exact rfl; exact rfl; exact rfl; exact rfl; (first | exact rfl | exact get_map (by omega) (0 : Int) | exact get_map (by omega) default | exact get_set_ne (by omega) (by omega) (0 : Int) | assumption); exact Nat.le_of_ble_eq_true rfl)
        (refine do_nil ?_ ?_; (first | ((try dsimp only [wkeys]); decide +kernel) | exact rfl))
        refine then_n ?_; refine awp_seq ?_
        (refine ao_region ?_ (fun _ => ?_); exact rfl)
        refine q28 ?_; refine q16 ?_; refine q14 ?_
        (apply S_buildSlice; exact rfl; exact rfl; exact rfl; decide; decide; decide; exact rfl; exact rfl)
        refine q39 ?_; refine q28 ?_; refine q15 ?_; refine ao_nil ?_; refine then_n ?_
        (refine ao_region ?_ (fun _ => ?_); exact rfl)
        refine q28 ?_; refine q16 ?_; refine q11 ?_
        (apply S_buildSlice; exact rfl; exact rfl; exact rfl; decide; decide; decide; exact rfl; exact rfl)
        refine q39 ?_; refine q28 ?_; refine q15 ?_; refine ao_nil ?_; refine blk_n ?_; refine then_n ?_
        (refine ao_region ?_ (fun _ => ?_); exact rfl)
        refine q11 ?_; refine q36 ?_; refine q12 ?_; refine ao_nil ?_; refine then_n ?_
        rotate_left
        iterate 2 (refine im_nf (fun _ => ?_); (try (exfalso; omega)))
        (refine im_df (fun _ => ?_); (try (exfalso; omega)))
        refine awp_skip ?_; refine then_n ?_
        iterate 2 refine awp_seq ?_
        (refine ao_region ?_ (fun _ => ?_); exact rfl)
        iterate 2 refine q11 ?_
        refine q13 ?_; refine q46 ?_; refine ao_nil ?_; refine then_n ?_
        (apply awp_cond; exact rfl)
        (refine im_dt (fun _ => ?_); (try (exfalso; omega)))
        (refine im_df (fun _ => ?_); (try (exfalso; omega)))
        refine awp_skip ?_; refine then_n ?_; refine awp_seq ?_
        (refine ao_region ?_ (fun _ => ?_); exact rfl)
        refine q28 ?_; refine q16 ?_; refine q13 ?_; refine q12 ?_; refine ao_nil ?_; refine then_n ?_; refine awp_seq ?_
        (refine ao_region ?_ (fun _ => ?_); exact rfl)
        iterate 2 refine q11 ?_
        refine q17 ?_; refine q23 ?_
        (apply S_rem; exact rfl; exact rfl; (first | decide | omega))
        refine q36 ?_
        (apply S_rem; exact rfl; exact rfl; (first | decide | omega))
        refine q36 ?_
        ((apply S_assignQ; exact rfl; exact he))
        refine ao_nil ?_; refine then_n ?_; refine awp_seq ?_
        (refine ao_region ?_ (fun _ => ?_); exact rfl)
        iterate 2 refine q11 ?_
        (apply S_mul64; exact rfl; exact rfl; omega)
        (apply S_conv32u; exact rfl; exact rfl; exact rfl; exact rfl; exact rfl; omega)
        (apply S_buildN; assumption; exact rfl; exact rfl; exact rfl; exact rfl; exact rfl; exact rfl)
        (apply S_alloc; exact rfl)
        refine q15 ?_; refine ao_nil ?_; refine then_n ?_; refine awp_seq ?_
        (refine ao_region ?_ (fun _ => ?_); exact rfl)
        refine q12 ?_; refine ao_nil ?_; refine then_n ?_
        iterate 2 refine awp_seq ?_
        (refine ao_region ?_ (fun _ => ?_); exact rfl)
        refine q11 ?_; refine q44 ?_; refine ao_nil ?_; refine then_n ?_
        (apply awp_cond; exact rfl)
        (refine im_nt (fun _ => ?_); (try (exfalso; omega)))
        (refine ao_region ?_ (fun _ => ?_); exact rfl)
        refine q11 ?_; refine q12 ?_; refine ao_nil ?_; refine then_n ?_
        iterate 2 refine awp_seq ?_
        (refine ao_region ?_ (fun _ => ?_); exact rfl)
        refine q11 ?_; refine q44 ?_; refine ao_nil ?_; refine then_n ?_
        (apply awp_cond; exact rfl)
        (refine im_nt (fun _ => ?_); (try (exfalso; omega)))
        refine awp_seq ?_
        (refine ao_region ?_ (fun _ => ?_); exact rfl)
        refine q28 ?_; refine q15 ?_; refine ao_nil ?_; refine then_n ?_
        (refine do_region (E := E) ?_ (fun _ => ?_); exact rfl)
        refine q56 ?_
        (apply D_load_lo; exact rfl; exact rfl; exact rfl; exact rfl; (first | exact rfl | exact get_map (by omega) (0 : Int) | exact get_map (by omega) default | exact hrow _ | assumption); exact rfl)
        refine q38 ?_; refine q56 ?_
        (apply D_load_lo; exact rfl; exact rfl; exact rfl; exact rfl; (first | exact rfl | exact get_map (by omega) (0 : Int) | exact get_map (by omega) default | exact hrow _ | assumption); exact rfl)
        refine q38 ?_
        (apply D_indexAddr_os; exact rfl; exact rfl; exact rfl; exact rfl; exact rfl; exact rfl; omega)
        (apply D_load_lo; exact rfl; exact rfl; exact rfl; exact rfl; (first | exact rfl | exact get_map (by omega) (0 : Int) | exact get_map (by omega) default | exact hrow _ | assumption); exact rfl)
        refine q38 ?_
        (apply D_buildSlice; exact rfl; exact rfl; exact rfl; decide; decide; decide; exact rfl; exact rfl)
        (apply D_appendF; assumption; exact rfl; exact rfl; exact rfl; exact rfl; decide; exact rfl; exact rfl; (first | exact .os _ _ _ _ rfl (by first | rfl | (first | omega | (simp only [List.length_append, List.length_map, List.length_take, List.length_drop, List.length_cons, List.length_nil, List.length_replicate, chop_length] <;> omega))) | exact .nil); (first | exact .os _ _ _ _ rfl (by first | rfl | (first | omega | (simp only [List.length_append, List.length_map, List.length_take, List.length_drop, List.length_cons, List.length_nil, List.length_replicate, chop_length] <;> omega))) | exact .vw _ _ _ _ _ rfl (by (first | omega | (simp only [List.length_append, List.length_map, List.length_take, List.length_drop, List.length_cons, List.length_nil, List.length_replicate, chop_length] <;> omega))) | exact .nil | exact .sl _); (repeat (first | exact LeafR.nil | exact LeafR.cells _ _ | exact LeafR.d _ | (apply LeafR.one; exact rfl) | exact hleaf _ | refine LeafR.take _ ?_ | refine LeafR.drop _ ?_ | refine LeafR.app ?_ ?_ | (apply LeafR.lit; exact rfl) | assumption)); (show _ * (Nat.succ _) ≤ _; (first | omega | (simp only [List.length_append, List.length_map, List.length_take, List.length_drop, List.length_cons, List.length_nil, List.length_replicate, chop_length] <;> omega))); (unfold maxLen; (first | omega | (simp only [List.length_append, List.length_map, List.length_take, List.length_drop, List.length_cons, List.length_nil, List.length_replicate, chop_length] <;> omega))); (repeat (first | exact FzR.nil | exact FzR.ints _ | exact FzR.d _ | exact hfz _ | exact FzC.map _ | exact FzC.nil | apply FzR.take | apply FzR.drop | apply FzR.app | apply FzR.cons | apply FzC.cons | assumption)); (first | rfl | (first | omega | (simp only [List.length_append, List.length_map, List.length_take, List.length_drop, List.length_cons, List.length_nil, List.length_replicate, chop_length] <;> omega))))
        (apply D_indexAddr_os; exact rfl; exact rfl; exact rfl; exact rfl; exact rfl; exact rfl; omega)
        (apply D_store; exact rfl; exact rfl; exact rfl; exact rfl; exact rfl; exact rfl; (first | exact rfl | exact get_map (by omega) (0 : Int) | exact get_map (by omega) default | exact get_set_ne (by omega) (by omega) (0 : Int) | assumption); exact Nat.le_of_ble_eq_true rfl)
        (refine do_nil ?_ ?_; (first | ((try dsimp only [wkeys]); decide +kernel) | exact rfl))
        refine then_n ?_; refine awp_seq ?_
        (refine ao_region ?_ (fun _ => ?_); exact rfl)
        refine q28 ?_; refine q16 ?_; refine q14 ?_
        (apply S_buildSlice; exact rfl; exact rfl; exact rfl; decide; decide; decide; exact rfl; exact rfl)
        refine q39 ?_; refine q28 ?_; refine q15 ?_; refine ao_nil ?_; refine then_n ?_
        (refine ao_region ?_ (fun _ => ?_); exact rfl)
        refine q28 ?_; refine q16 ?_; refine q11 ?_
        (apply S_buildSlice; exact rfl; exact rfl; exact rfl; decide; decide; decide; exact rfl; exact rfl)
        refine q39 ?_; refine q28 ?_; refine q15 ?_; refine ao_nil ?_; refine blk_n ?_; refine then_n ?_
        (refine ao_region ?_ (fun _ => ?_); exact rfl)
        refine q11 ?_; refine q36 ?_; refine q12 ?_; refine ao_nil ?_; refine then_n ?_
        rotate_left
        iterate 2 (refine im_nf (fun _ => ?_); (try (exfalso; omega)))
        (refine im_df (fun _ => ?_); (try (exfalso; omega)))
        · rename_i hf _ _ _ _ _ _ _ _ _ _ _ _ _ _ v25 v26 v27 _
          rw [hquo] at hf
          rw [if_pos (by omega), hk3'] at hnx
          refine round' (i + 1, _, (v26, 4), (v27, 4)) ⟨by dsimp only; omega, hnx.symm⟩ (by dsimp only; omega) (by repeat' (first | exact le_nil _ | exact sle_nil _ | refine le_cons rfl ?_ | refine sle_cons rfl ?_)) (sle_cons' rfl ?_ (sle_cons' rfl ?_ (sle_cons' rfl ?_ (sle_cons' rfl ?_ (fam_le fun j h1 h2 => ?_)))))
          · first
              | (simp [FqS.acc, FqS.fence] <;> rfl)
              | (simp [FqS.acc, FqS.fence]; done)
          · first
              | (simp [FqS.acc, FqS.fence] <;> rfl)
              | (simp [FqS.acc, FqS.fence]; done)
          · first
              | (simp [FqS.acc, FqS.fence] <;> rfl)
              | (simp [FqS.acc, FqS.fence]; done)
          · refine (List.set_set ..).trans (Eq.trans (congrArg (fun z => (fqRows τs s.os i l.length).set i [OV.d z]) ?_) (fqRows_set (s.os.getD i [] ++ [((s.es ++ [fenceE pred succ]).length : Int)]) hol hlt))
            rw [hok.row i (Nat.le_refl _) hlt]
            first | (simp [ints, cell]; exact ⟨rfl, rfl⟩) | (simp [ints, cell]; exact rfl) | (simp [ints, cell]; done)
          · dsimp only at h1 h2
            (repeat (first | (with_reducible exact ap_self _ _ _) | (with_reducible refine ap_nil ?_) | ((with_reducible refine ap_one ?_ ?_); (first | exact big_ne (by decide) | exact hb); skip) | ((with_reducible refine ap_two ?_ ?_ ?_); (exact big_ne (by decide)); (exact big_ne (by decide))) | ((with_reducible refine stL_ne ?_ ?_); (exact big_ne (by decide)))))
            exact fam_at (f := fqF τs) (by omega) (by omega)
        · rename_i hf _ _ _ _ _ _ _ _ _ _ _ _ v25 v26 v27 _
          rw [hquo] at hf
          rw [if_neg (by omega), hk3'] at hnx
          refine round' (i + 1, _, (v26, 4), (v27, 4)) ⟨by dsimp only; omega, hnx.symm⟩ (by dsimp only; omega) (by repeat' (first | exact le_nil _ | exact sle_nil _ | refine le_cons rfl ?_ | refine sle_cons rfl ?_)) (sle_cons' rfl ?_ (sle_cons' rfl ?_ (sle_cons' rfl ?_ (sle_cons' rfl ?_ (fam_le fun j h1 h2 => ?_)))))
          · first
              | (simp [FqS.acc, FqS.fence] <;> rfl)
              | (simp [FqS.acc, FqS.fence]; done)
          · first
              | (simp [FqS.acc, FqS.fence] <;> rfl)
              | (simp [FqS.acc, FqS.fence]; done)
          · first
              | (simp [FqS.acc, FqS.fence] <;> rfl)
              | (simp [FqS.acc, FqS.fence]; done)
          · refine (List.set_set ..).trans (Eq.trans (congrArg (fun z => (fqRows τs s.os i l.length).set i [OV.d z]) ?_) (fqRows_set (s.os.getD i [] ++ [((s.es).length : Int)]) hol hlt))
            rw [hok.row i (Nat.le_refl _) hlt]
            first | (simp [ints, cell]; exact ⟨rfl, rfl⟩) | (simp [ints, cell]; exact rfl) | (simp [ints, cell]; done)
          · dsimp only at h1 h2
            (repeat (first | (with_reducible exact ap_self _ _ _) | (with_reducible refine ap_nil ?_) | ((with_reducible refine ap_one ?_ ?_); (first | exact big_ne (by decide) | exact hb); skip) | ((with_reducible refine ap_two ?_ ?_ ?_); (exact big_ne (by decide)); (exact big_ne (by decide))) | ((with_reducible refine stL_ne ?_ ?_); (exact big_ne (by decide)))))
            exact fam_at (f := fqF τs) (by omega) (by omega)
      · have hk1' : kindL l i = 1 := by omega
        have he : 1 + ((l.getD (i : Int).toNat 0).tmod 3 + 3).tmod 3 = 1 := hkd.symm.trans hk1'
        refine awp_freeze 903 τK 1 [[.c (.int .i64 i)]] (tmL [(0, .int .i64 pred), (1, .int .i64 succ), (2, .d (ints l)), (7, .lo 7 (v3, 0) 3 0 0), (9, .int .i64 i)]) (stL ((7, ((v3, 0), ⟨3, [[.os 900 τE 13 s.es.length, .os 901 τF 1 s.fs.length, .os 902 τO 1 l.length]]⟩)) :: (900, (τE, ⟨13, s.es.map evRq⟩)) :: (901, (τF, ⟨1, s.fs.map (cellO .i64)⟩)) :: (902, (τO, ⟨1, (fqRows τs s.os i l.length).set i [.d (ints (s.os.getD i []))]⟩)) :: fam (fqF τs) (i + 1) (l.length - (i + 1)))) rfl (by repeat' (first | exact fz_nil | exact fs_nil | exact frc_nil | exact frr_nil | refine fz_cons rfl (.same _) ?_ | refine fz_cons rfl (froz_os (by simp)) ?_ | refine fs_cons (by decide) rfl (FrozR.same _) ?_ | refine fs_cons (by decide) rfl ?_ ?_ | refine frr_cons frc_same ?_ | refine frr_cons ?_ ?_ | refine frc_cons (.same _) ?_ | refine frc_cons (froz_os (by first | rfl | simp)) ?_ | refine frc_cons (.nil _) ?_)) ?_ ?_
        · refine fs_cons (by decide) rfl (FrozR.same _) (fs_cons (by decide) rfl (FrozR.same _) (fs_cons (by decide) rfl (FrozR.same _) (fs_cons (by decide) rfl (frr_set (frc_cons ?_ frc_nil)) (fs_rest fun j x hj => ?_))))
          · rw [hok.row i (Nat.le_refl _) hlt]; exact froz_os rfl
          · obtain ⟨j, g1, g2, rfl, rfl⟩ := fam_get hj
            refine ⟨by omega, ?_⟩
            (repeat (first | (with_reducible exact ap_self _ _ _) | (with_reducible refine ap_nil ?_) | ((with_reducible refine ap_one ?_ ?_); (first | exact big_ne (by decide) | exact hb); skip) | ((with_reducible refine ap_two ?_ ?_ ?_); (exact big_ne (by decide)); (exact big_ne (by decide))) | ((with_reducible refine stL_ne ?_ ?_); (exact big_ne (by decide)))))
            exact fam_at (f := fqF τs) (by omega) (by omega)
        rw [fqRows_set (s.os.getD i []) hol hlt, set_same (by omega)]
        iterate 2 refine awp_seq ?_
        (refine ao_region ?_ (fun _ => ?_); exact rfl)
        iterate 2 refine q11 ?_
        refine q13 ?_
        (apply S_leq; exact rfl; exact rfl)
        refine ao_nil ?_; refine then_n ?_
        (apply awp_cond; exact rfl)
        (refine im_dt (fun _ => ?_); (try (exfalso; omega)))
        refine awp_skip ?_; refine then_n ?_; refine awp_seq ?_; refine awp_block ?_
        iterate 2 refine awp_seq ?_
        (refine ao_region ?_ (fun _ => ?_); exact rfl)
        iterate 2 refine q11 ?_
        refine q13 ?_
        (apply S_quo; exact rfl; exact rfl; (first | decide | omega))
        refine q46 ?_; refine ao_nil ?_; refine then_n ?_
        (apply awp_cond; exact rfl)
        (refine im_dt (fun _ => ?_); (try (exfalso; omega)))
        refine awp_seq ?_
        (refine ao_region ?_ (fun _ => ?_); exact rfl)
        refine q28 ?_; refine q16 ?_
        iterate 2 refine q11 ?_
        (apply S_buildN; assumption; exact rfl; exact rfl; exact rfl; exact rfl; exact rfl; exact rfl)
        (apply S_buildSlice; exact rfl; exact rfl; exact rfl; decide; decide; decide; exact rfl; exact rfl)
        refine q39 ?_; refine q28 ?_; refine q15 ?_; refine ao_nil ?_; refine then_n ?_
        (refine ao_region ?_ (fun _ => ?_); exact rfl)
        refine q28 ?_; refine q16 ?_
        (apply S_buildSlice; exact rfl; exact rfl; exact rfl; decide; decide; decide; exact rfl; exact rfl)
        refine q39 ?_; refine q28 ?_; refine q15 ?_; refine ao_nil ?_; refine then_n ?_
        iterate 2 refine awp_seq ?_
        (refine ao_region ?_ (fun _ => ?_); exact rfl)
        iterate 2 refine q11 ?_
        refine q13 ?_; refine q46 ?_; refine ao_nil ?_; refine then_n ?_
        (apply awp_cond; exact rfl)
        (refine im_dt (fun _ => ?_); (try (exfalso; omega)))
        (refine im_df (fun _ => ?_); (try (exfalso; omega)))
        refine awp_skip ?_; refine then_n ?_; refine awp_seq ?_
        (refine ao_region ?_ (fun _ => ?_); exact rfl)
        refine q28 ?_; refine q16 ?_; refine q13 ?_; refine q12 ?_; refine ao_nil ?_; refine then_n ?_; refine awp_seq ?_
        (refine ao_region ?_ (fun _ => ?_); exact rfl)
        iterate 2 refine q11 ?_
        refine q17 ?_; refine q23 ?_
        (apply S_rem; exact rfl; exact rfl; (first | decide | omega))
        refine q36 ?_
        (apply S_rem; exact rfl; exact rfl; (first | decide | omega))
        refine q36 ?_
        ((apply S_assignQ; exact rfl; exact he))
        refine ao_nil ?_; refine then_n ?_; refine awp_seq ?_
        (refine ao_region ?_ (fun _ => ?_); exact rfl)
        iterate 2 refine q11 ?_
        (apply S_mul64; exact rfl; exact rfl; omega)
        (apply S_conv32u; exact rfl; exact rfl; exact rfl; exact rfl; exact rfl; omega)
        (apply S_buildN; assumption; exact rfl; exact rfl; exact rfl; exact rfl; exact rfl; exact rfl)
        (apply S_alloc; exact rfl)
        refine q15 ?_; refine ao_nil ?_; refine then_n ?_; refine awp_seq ?_
        (refine ao_region ?_ (fun _ => ?_); exact rfl)
        refine q12 ?_; refine ao_nil ?_; refine then_n ?_
        iterate 2 refine awp_seq ?_
        (refine ao_region ?_ (fun _ => ?_); exact rfl)
        refine q11 ?_; refine q44 ?_; refine ao_nil ?_; refine then_n ?_
        (apply awp_cond; exact rfl)
        (refine im_nt (fun _ => ?_); (try (exfalso; omega)))
        (refine ao_region ?_ (fun _ => ?_); exact rfl)
        refine q11 ?_; refine q12 ?_; refine ao_nil ?_; refine then_n ?_
        iterate 2 refine awp_seq ?_
        (refine ao_region ?_ (fun _ => ?_); exact rfl)
        refine q11 ?_; refine q44 ?_; refine ao_nil ?_; refine then_n ?_
        (apply awp_cond; exact rfl)
        (refine im_nt (fun _ => ?_); (try (exfalso; omega)))
        (refine im_nf (fun _ => ?_); (try (exfalso; omega)))
        refine awp_skip ?_; refine then_n ?_; refine awp_seq ?_
        (refine ao_region ?_ (fun _ => ?_); exact rfl)
        refine q28 ?_; refine q16 ?_; refine q14 ?_
        (apply S_buildSlice; exact rfl; exact rfl; exact rfl; decide; decide; decide; exact rfl; exact rfl)
        refine q39 ?_; refine q28 ?_; refine q15 ?_; refine ao_nil ?_; refine then_n ?_
        (refine ao_region ?_ (fun _ => ?_); exact rfl)
        refine q28 ?_; refine q16 ?_; refine q11 ?_
        (apply S_buildSlice; exact rfl; exact rfl; exact rfl; decide; decide; decide; exact rfl; exact rfl)
        refine q39 ?_; refine q28 ?_; refine q15 ?_; refine ao_nil ?_; refine blk_n ?_; refine then_n ?_
        (refine ao_region ?_ (fun _ => ?_); exact rfl)
        refine q11 ?_; refine q36 ?_; refine q12 ?_; refine ao_nil ?_; refine then_n ?_
        rotate_left
        (refine im_nf (fun _ => ?_); (try (exfalso; omega)))
        (refine im_df (fun _ => ?_); (try (exfalso; omega)))
        refine awp_skip ?_; refine then_n ?_
        iterate 2 refine awp_seq ?_
        (refine ao_region ?_ (fun _ => ?_); exact rfl)
        iterate 2 refine q11 ?_
        refine q13 ?_; refine q46 ?_; refine ao_nil ?_; refine then_n ?_
        (apply awp_cond; exact rfl)
        (refine im_dt (fun _ => ?_); (try (exfalso; omega)))
        (refine im_df (fun _ => ?_); (try (exfalso; omega)))
        refine awp_skip ?_; refine then_n ?_; refine awp_seq ?_
        (refine ao_region ?_ (fun _ => ?_); exact rfl)
        refine q28 ?_; refine q16 ?_; refine q13 ?_; refine q12 ?_; refine ao_nil ?_; refine then_n ?_; refine awp_seq ?_
        (refine ao_region ?_ (fun _ => ?_); exact rfl)
        iterate 2 refine q11 ?_
        refine q17 ?_; refine q23 ?_
        (apply S_rem; exact rfl; exact rfl; (first | decide | omega))
        refine q36 ?_
        (apply S_rem; exact rfl; exact rfl; (first | decide | omega))
        refine q36 ?_
        ((apply S_assignQ; exact rfl; exact he))
        refine ao_nil ?_; refine then_n ?_; refine awp_seq ?_
        (refine ao_region ?_ (fun _ => ?_); exact rfl)
        iterate 2 refine q11 ?_
        (apply S_mul64; exact rfl; exact rfl; omega)
        (apply S_conv32u; exact rfl; exact rfl; exact rfl; exact rfl; exact rfl; omega)
        (apply S_buildN; assumption; exact rfl; exact rfl; exact rfl; exact rfl; exact rfl; exact rfl)
        (apply S_alloc; exact rfl)
        refine q15 ?_; refine ao_nil ?_; refine then_n ?_; refine awp_seq ?_
        (refine ao_region ?_ (fun _ => ?_); exact rfl)
        refine q12 ?_; refine ao_nil ?_; refine then_n ?_
        iterate 2 refine awp_seq ?_
        (refine ao_region ?_ (fun _ => ?_); exact rfl)
        refine q11 ?_; refine q44 ?_; refine ao_nil ?_; refine then_n ?_
        (apply awp_cond; exact rfl)
        (refine im_nt (fun _ => ?_); (try (exfalso; omega)))
        (refine ao_region ?_ (fun _ => ?_); exact rfl)
        refine q11 ?_; refine q12 ?_; refine ao_nil ?_; refine then_n ?_
        iterate 2 refine awp_seq ?_
        (refine ao_region ?_ (fun _ => ?_); exact rfl)
        refine q11 ?_; refine q44 ?_; refine ao_nil ?_; refine then_n ?_
        (apply awp_cond; exact rfl)
        (refine im_nt (fun _ => ?_); (try (exfalso; omega)))
        (refine im_nf (fun _ => ?_); (try (exfalso; omega)))
        refine awp_skip ?_; refine then_n ?_; refine awp_seq ?_
        (refine ao_region ?_ (fun _ => ?_); exact rfl)
        refine q28 ?_; refine q16 ?_; refine q14 ?_
        (apply S_buildSlice; exact rfl; exact rfl; exact rfl; decide; decide; decide; exact rfl; exact rfl)
        refine q39 ?_; refine q28 ?_; refine q15 ?_; refine ao_nil ?_; refine then_n ?_
        (refine ao_region ?_ (fun _ => ?_); exact rfl)
        refine q28 ?_; refine q16 ?_; refine q11 ?_
        (apply S_buildSlice; exact rfl; exact rfl; exact rfl; decide; decide; decide; exact rfl; exact rfl)
        refine q39 ?_; refine q28 ?_; refine q15 ?_; refine ao_nil ?_; refine blk_n ?_; refine then_n ?_
        (refine ao_region ?_ (fun _ => ?_); exact rfl)
        refine q11 ?_; refine q36 ?_; refine q12 ?_; refine ao_nil ?_; refine then_n ?_
        rotate_left
        (refine im_nf (fun _ => ?_); (try (exfalso; omega)))
        (refine im_df (fun _ => ?_); (try (exfalso; omega)))
        · rename_i hf _ _ _ _ _ _ _ _ _ _ _ _ _ v26 v27 _
          rw [hquo] at hf
          rw [if_pos (by omega), hk1'] at hnx
          refine round' (i + 1, _, (v26, 4), (v27, 4)) ⟨by dsimp only; omega, hnx.symm⟩ (by dsimp only; omega) (by repeat' (first | exact le_nil _ | exact sle_nil _ | refine le_cons rfl ?_ | refine sle_cons rfl ?_)) (sle_cons' rfl ?_ (sle_cons' rfl ?_ (sle_cons' rfl ?_ (sle_cons rfl (fam_le fun j h1 h2 => ?_)))))
          · first
              | (simp [FqS.acc, FqS.fence] <;> rfl)
              | (simp [FqS.acc, FqS.fence]; done)
          · first
              | (simp [FqS.acc, FqS.fence] <;> rfl)
              | (simp [FqS.acc, FqS.fence]; done)
          · first
              | (simp [FqS.acc, FqS.fence] <;> rfl)
              | (simp [FqS.acc, FqS.fence]; done)
          · dsimp only at h1 h2
            (repeat (first | (with_reducible exact ap_self _ _ _) | (with_reducible refine ap_nil ?_) | ((with_reducible refine ap_one ?_ ?_); (first | exact big_ne (by decide) | exact hb); skip) | ((with_reducible refine ap_two ?_ ?_ ?_); (exact big_ne (by decide)); (exact big_ne (by decide))) | ((with_reducible refine stL_ne ?_ ?_); (exact big_ne (by decide)))))
            exact fam_at (f := fqF τs) (by omega) (by omega)
        · rename_i hf _ _ _ _ _ _ _ _ _ _ _ v26 v27 _
          rw [hquo] at hf
          rw [if_neg (by omega), hk1'] at hnx
          refine round' (i + 1, _, (v26, 4), (v27, 4)) ⟨by dsimp only; omega, hnx.symm⟩ (by dsimp only; omega) (by repeat' (first | exact le_nil _ | exact sle_nil _ | refine le_cons rfl ?_ | refine sle_cons rfl ?_)) (sle_cons' rfl ?_ (sle_cons' rfl ?_ (sle_cons' rfl ?_ (sle_cons rfl (fam_le fun j h1 h2 => ?_)))))
          · first
              | (simp [FqS.acc, FqS.fence] <;> rfl)
              | (simp [FqS.acc, FqS.fence]; done)
          · first
              | (simp [FqS.acc, FqS.fence] <;> rfl)
              | (simp [FqS.acc, FqS.fence]; done)
          · first
              | (simp [FqS.acc, FqS.fence] <;> rfl)
              | (simp [FqS.acc, FqS.fence]; done)
          · dsimp only at h1 h2
            (repeat (first | (with_reducible exact ap_self _ _ _) | (with_reducible refine ap_nil ?_) | ((with_reducible refine ap_one ?_ ?_); (first | exact big_ne (by decide) | exact hb); skip) | ((with_reducible refine ap_two ?_ ?_ ?_); (exact big_ne (by decide)); (exact big_ne (by decide))) | ((with_reducible refine stL_ne ?_ ?_); (exact big_ne (by decide)))))
            exact fam_at (f := fqF τs) (by omega) (by omega)
    · have hie : i = l.length := by omega
      have hrows : fqRows τs s.os i l.length = s.os.map fun r => [OV.d (ints r)] := by rw [hie]; exact fqRows_all hol
      have hz : FzR (s.os.map fun r => [OV.d (ints r)]) (s.os.map fun r => [ints r]) := FzR.of (f := fun r => [OV.d (ints r)]) (g := fun r => [ints r]) (fun _ => rfl) _
      have zE : FzR (s.es.map evRq) (s.es.map evTV) := FzR.of (f := evRq) (g := evTV) (fun _ => rfl) _
      have zF := FzR.ints s.fs
      have hord : (TV.sl 1 (s.os.map fun r => [ints r])) = rowsTV s.ex.order := by
        unfold rowsTV FqS.ex
        rw [List.map_map]; rfl
      rw [hrows]
      refine awp_freeze 902 τO 1 (s.os.map fun r => [ints r]) (tmL [(0, .int .i64 pred), (1, .int .i64 succ), (2, .d (ints l)), (7, .lo 7 (v3, 0) 3 0 0), (9, .int .i64 i)]) (stL [(7, ((v3, 0), ⟨3, [[.os 900 τE 13 s.es.length, .os 901 τF 1 s.fs.length, .d (.sl 1 (s.os.map fun r => [ints r]))]]⟩)), (900, (τE, ⟨13, s.es.map evRq⟩)), (901, (τF, ⟨1, s.fs.map (cellO .i64)⟩))]) (by rw [← hz.eq]; rfl) (by repeat' (first | exact fz_nil | exact fs_nil | exact frc_nil | exact frr_nil | refine fz_cons rfl (.same _) ?_ | refine fz_cons rfl (froz_os (by simp)) ?_ | refine fs_cons (by decide) rfl (FrozR.same _) ?_ | refine fs_cons (by decide) rfl ?_ ?_ | refine frr_cons frc_same ?_ | refine frr_cons ?_ ?_ | refine frc_cons (.same _) ?_ | refine frc_cons (froz_os (by first | rfl | simp)) ?_ | refine frc_cons (.nil _) ?_)) (fs_cons (by decide) rfl (frr_cons (frc_cons (.same _) (frc_cons (.same _) (frc_cons (froz_os (by simp [hol])) frc_nil))) frr_nil) (by repeat' (first | exact fz_nil | exact fs_nil | exact frc_nil | exact frr_nil | refine fz_cons rfl (.same _) ?_ | refine fz_cons rfl (froz_os (by simp)) ?_ | refine fs_cons (by decide) rfl (FrozR.same _) ?_ | refine fs_cons (by decide) rfl ?_ ?_ | refine frr_cons frc_same ?_ | refine frr_cons ?_ ?_ | refine frc_cons (.same _) ?_ | refine frc_cons (froz_os (by first | rfl | simp)) ?_ | refine frc_cons (.nil _) ?_))) ?_
      rw [hord]
      by_cases h0 : l.length = 0
      · have hok2 := fq_fence (pred := pred) (succ := succ) hok (by omega) ⟨p1, p2⟩ ⟨s1, s2⟩
        have e1 : s.es = [] := List.eq_nil_of_length_eq_zero (by unfold fqM at hle; rw [if_neg (by omega)] at hle; omega)
        have e2 : s.fs = [] := List.eq_nil_of_length_eq_zero (by unfold fqM at hlf; rw [if_neg (by omega)] at hlf; omega)
        have e3 : s.os = [] := List.eq_nil_of_length_eq_zero (by omega)
        have f80 : Frozen 80 := ⟨trivial⟩
        have f85 : Frozen 85 := ⟨trivial⟩
        obtain ⟨x, hx, hfit, hc, hle64⟩ : ∃ x : Ex, x = ⟨default, default, default, [fenceE pred succ], [-1], []⟩ ∧ x.fit ∧ checkI x = 0 ∧ x.evs.length ≤ 64 := by
          have hse : (s.fence pred succ).ex = ⟨default, default, default, [fenceE pred succ], [-1], []⟩ := by unfold FqS.fence FqS.ex; rw [e1, e2, e3]; rfl
          refine ⟨_, rfl, ?_, ?_, (by decide : 1 ≤ 64)⟩
          · rw [← hse]; exact fq_fit hok2 (by omega)
          · rw [← hse]; exact hok2.check
        have hro : rowsTV s.ex.order = rowsTV [] := by unfold FqS.ex; rw [e3]; rfl
        rw [e1, e2, hro]
        have hhx : exOV x = .ag [.d (evsTV [fenceE pred succ]), .d (ints [-1]), .d (rowsTV [])] := by rw [hx]; rfl
        have hC := rcheck_p x hfit.1 (fun e he => (hfit.1.2.1 e he).bare)
        have hP := Ppo_p x hfit
        have hpl : ppoT x = (ppoL x, 0) := by unfold ppoT; rw [if_neg (by simp [hc])]
        rw [hpl] at hP
        rw [hc] at hC
        have hS := rpairs5_p x (by omega) (isPpo x) fun a b ha hb => rppo_p x (rok_of hfit.1 hc) a b ha hb
        have hln : (ppoL x).length ≤ 1152921504606846976 := Nat.le_trans (prTo_len _ _ _) (Nat.le_trans (Nat.mul_le_mul hle64 hle64) (by decide))
        have hE := rsamePairs_p (ppoL x) (ppoL x) hln hln
        rw [eqP_refl] at hE
        try rw [hhx] at hC hP hS
        iterate 2 refine awp_seq ?_
        (refine ao_region ?_ (fun _ => ?_); exact rfl)
        iterate 2 refine q11 ?_
        refine q13 ?_
        (apply S_leq; exact rfl; exact rfl)
        refine ao_nil ?_; refine then_n ?_
        (apply awp_cond; exact rfl)
        (refine im_dt (fun _ => ?_); (try (exfalso; omega)))
        refine awp_skip ?_; refine then_n ?_; refine awp_seq ?_; refine awp_block ?_
        iterate 2 refine awp_seq ?_
        (refine ao_region ?_ (fun _ => ?_); exact rfl)
        iterate 2 refine q11 ?_
        refine q13 ?_
        (apply S_quo; exact rfl; exact rfl; (first | decide | omega))
        refine q46 ?_; refine ao_nil ?_; refine then_n ?_
        (apply awp_cond; exact rfl)
        (refine im_dt (fun _ => ?_); (try (exfalso; omega)))
        refine awp_seq ?_
        (refine ao_region ?_ (fun _ => ?_); exact rfl)
        refine q28 ?_; refine q16 ?_
        iterate 2 refine q11 ?_
        (apply S_buildN; assumption; exact rfl; exact rfl; exact rfl; exact rfl; exact rfl; exact rfl)
        (apply S_buildSlice; exact rfl; exact rfl; exact rfl; decide; decide; decide; exact rfl; exact rfl)
        (apply S_appendF; assumption; exact rfl; exact rfl; exact rfl; exact rfl; decide; exact rfl; exact rfl; (first | exact .os _ _ _ _ rfl (by first | rfl | (first | omega | (simp only [List.length_append, List.length_map, List.length_take, List.length_drop, List.length_cons, List.length_nil, List.length_replicate, chop_length] <;> omega))) | exact .nil); (first | exact .os _ _ _ _ rfl (by first | rfl | (first | omega | (simp only [List.length_append, List.length_map, List.length_take, List.length_drop, List.length_cons, List.length_nil, List.length_replicate, chop_length] <;> omega))) | exact .vw _ _ _ _ _ rfl (by (first | omega | (simp only [List.length_append, List.length_map, List.length_take, List.length_drop, List.length_cons, List.length_nil, List.length_replicate, chop_length] <;> omega))) | exact .nil | exact .sl _); (repeat (first | exact LeafR.nil | exact LeafR.cells _ _ | exact LeafR.d _ | (apply LeafR.one; exact rfl) | exact hleaf _ | refine LeafR.take _ ?_ | refine LeafR.drop _ ?_ | refine LeafR.app ?_ ?_ | (apply LeafR.lit; exact rfl) | assumption)); (show _ * (Nat.succ _) ≤ _; (first | omega | (simp only [List.length_append, List.length_map, List.length_take, List.length_drop, List.length_cons, List.length_nil, List.length_replicate, chop_length] <;> omega))); (unfold maxLen; (first | omega | (simp only [List.length_append, List.length_map, List.length_take, List.length_drop, List.length_cons, List.length_nil, List.length_replicate, chop_length] <;> omega))); (repeat (first | exact FzR.nil | exact FzR.ints _ | exact FzR.d _ | exact hfz _ | exact FzC.map _ | exact FzC.nil | apply FzR.take | apply FzR.drop | apply FzR.app | apply FzR.cons | apply FzC.cons | assumption)); (first | rfl | (first | omega | (simp only [List.length_append, List.length_map, List.length_take, List.length_drop, List.length_cons, List.length_nil, List.length_replicate, chop_length] <;> omega))))
        refine q28 ?_; refine q15 ?_; refine ao_nil ?_; refine then_n ?_
        (refine ao_region ?_ (fun _ => ?_); exact rfl)
        refine q28 ?_; refine q16 ?_
        (apply S_buildSlice; exact rfl; exact rfl; exact rfl; decide; decide; decide; exact rfl; exact rfl)
        (apply S_appendF; assumption; exact rfl; exact rfl; exact rfl; exact rfl; decide; exact rfl; exact rfl; (first | exact .os _ _ _ _ rfl (by first | rfl | (first | omega | (simp only [List.length_append, List.length_map, List.length_take, List.length_drop, List.length_cons, List.length_nil, List.length_replicate, chop_length] <;> omega))) | exact .nil); (first | exact .os _ _ _ _ rfl (by first | rfl | (first | omega | (simp only [List.length_append, List.length_map, List.length_take, List.length_drop, List.length_cons, List.length_nil, List.length_replicate, chop_length] <;> omega))) | exact .vw _ _ _ _ _ rfl (by (first | omega | (simp only [List.length_append, List.length_map, List.length_take, List.length_drop, List.length_cons, List.length_nil, List.length_replicate, chop_length] <;> omega))) | exact .nil | exact .sl _); (repeat (first | exact LeafR.nil | exact LeafR.cells _ _ | exact LeafR.d _ | (apply LeafR.one; exact rfl) | exact hleaf _ | refine LeafR.take _ ?_ | refine LeafR.drop _ ?_ | refine LeafR.app ?_ ?_ | (apply LeafR.lit; exact rfl) | assumption)); (show _ * (Nat.succ _) ≤ _; (first | omega | (simp only [List.length_append, List.length_map, List.length_take, List.length_drop, List.length_cons, List.length_nil, List.length_replicate, chop_length] <;> omega))); (unfold maxLen; (first | omega | (simp only [List.length_append, List.length_map, List.length_take, List.length_drop, List.length_cons, List.length_nil, List.length_replicate, chop_length] <;> omega))); (repeat (first | exact FzR.nil | exact FzR.ints _ | exact FzR.d _ | exact hfz _ | exact FzC.map _ | exact FzC.nil | apply FzR.take | apply FzR.drop | apply FzR.app | apply FzR.cons | apply FzC.cons | assumption)); (first | rfl | (first | omega | (simp only [List.length_append, List.length_map, List.length_take, List.length_drop, List.length_cons, List.length_nil, List.length_replicate, chop_length] <;> omega))))
        refine q28 ?_; refine q15 ?_; refine ao_nil ?_; refine then_n ?_
        iterate 2 refine awp_seq ?_
        (refine ao_region ?_ (fun _ => ?_); exact rfl)
        iterate 2 refine q11 ?_
        refine q13 ?_; refine q46 ?_; refine ao_nil ?_; refine then_n ?_
        (apply awp_cond; exact rfl)
        (refine im_dt (fun _ => ?_); (try (exfalso; omega)))
        refine awp_exit ?_; refine then_x ?_
        (refine blk_y ?_ ?_; exact rfl)
        iterate 2 refine then_x ?_
        refine blk_x ?_; refine then_n ?_; refine awp_seq ?_
        (refine ao_region ?_ (fun _ => ?_); exact rfl)
        refine q14 ?_
        ((first
          | (apply S_call; exact rfl; exact .fn _ _ _; exact rfl; (first | exact hC | exact hP | exact hkn | exact hS | exact hE))
          | (apply D_call; exact rfl; exact .fn _ _ _; exact rfl; (first | exact hC | exact hP | exact hkn | exact hS | exact hE))))
        refine q11 ?_
        iterate 2 (apply S_extract; exact rfl; exact rfl)
        iterate 2 refine q12 ?_
        refine ao_nil ?_; refine then_n ?_; refine awp_seq ?_
        (refine ao_region ?_ (fun _ => ?_); exact rfl)
        refine q11 ?_; refine q46 ?_; refine q11 ?_
        (apply spec_t; exact rfl; exact rfl)
        (refine im_any fun hc_ => ?_; try have hc1_ := (band hc_).1)
        refine q27
        (apply spec_t; exact rfl; exact rfl)
        (refine im_any fun hc_ => ?_; try have hc1_ := (band hc_).1)
        ((have hp_ := hc_; (try simp only [Bool.not_eq_true', Bool.not_eq_false', Bool.or_eq_true, Bool.and_eq_true, Bool.or_eq_false_iff, Bool.and_eq_false_iff, decide_eq_true_eq, decide_eq_false_iff_not, Decidable.not_not, Int.not_lt, Int.not_le, Bool.not_true, Bool.not_false, Bool.true_and, Bool.and_true, Bool.false_or, Bool.or_false, Bool.true_or, Bool.false_and, bne_eq_false_iff_eq, bne_iff_ne, beq_iff_eq, beq_eq_false_iff_ne, decide_eq_decide] at hp_)))
        ((apply M_call; (first | (refine EvM.mb _ rfl ?_; first | assumption | exact rfl) | exact EvM.plain rfl rfl); exact .fn _ _ _; (repeat (first | exact EvsM.nil | (apply EvsM.cons; first | (refine EvM.mb _ rfl ?_; first | assumption | exact rfl) | exact EvM.plain rfl rfl))); (first | exact hC | exact hP | exact hkn | exact hS | exact hE)))
        (apply spec_t; exact rfl; exact rfl)
        (refine im_any fun hc_ => ?_; try have hc1_ := (band hc_).1)
        refine q7; refine q4 ?_; refine q11 ?_
        (apply spec_t; exact rfl; exact rfl)
        (refine im_any fun hc_ => ?_; try have hc1_ := (band hc_).1)
        refine q1
        (apply spec_t; exact rfl; exact rfl)
        (refine im_any fun hc_ => ?_; try have hc1_ := (band hc_).1)
        refine q27
        (apply spec_t; exact rfl; exact rfl)
        (refine im_any fun hc_ => ?_; try have hc1_ := (band hc_).1)
        ((have hp_ := hc_; (try simp only [Bool.not_eq_true', Bool.not_eq_false', Bool.or_eq_true, Bool.and_eq_true, Bool.or_eq_false_iff, Bool.and_eq_false_iff, decide_eq_true_eq, decide_eq_false_iff_not, Decidable.not_not, Int.not_lt, Int.not_le, Bool.not_true, Bool.not_false, Bool.true_and, Bool.and_true, Bool.false_or, Bool.or_false, Bool.true_or, Bool.false_and, bne_eq_false_iff_eq, bne_iff_ne, beq_iff_eq, beq_eq_false_iff_ne, decide_eq_decide] at hp_)))
        ((apply M_call; (first | (refine EvM.mb _ rfl ?_; first | assumption | exact rfl) | exact EvM.plain rfl rfl); exact .fn _ _ _; (repeat (first | exact EvsM.nil | (apply EvsM.cons; first | (refine EvM.mb _ rfl ?_; first | assumption | exact rfl) | exact EvM.plain rfl rfl))); (first | exact hC | exact hP | exact hkn | exact hS | exact hE)))
        (apply spec_t; exact rfl; exact rfl)
        (refine im_any fun hc_ => ?_; try have hc1_ := (band hc_).1)
        ((have hp_ := hc_; (try simp only [Bool.not_eq_true', Bool.not_eq_false', Bool.or_eq_true, Bool.and_eq_true, Bool.or_eq_false_iff, Bool.and_eq_false_iff, decide_eq_true_eq, decide_eq_false_iff_not, Decidable.not_not, Int.not_lt, Int.not_le, Bool.not_true, Bool.not_false, Bool.true_and, Bool.and_true, Bool.false_or, Bool.or_false, Bool.true_or, Bool.false_and, bne_eq_false_iff_eq, bne_iff_ne, beq_iff_eq, beq_eq_false_iff_ne, decide_eq_decide] at hp_)))
        ((apply M_call; (first | (refine EvM.mb _ rfl ?_; first | assumption | exact rfl) | exact EvM.plain rfl rfl); exact .fn _ _ _; (repeat (first | exact EvsM.nil | (apply EvsM.cons; first | (refine EvM.mb _ rfl ?_; first | assumption | exact rfl) | exact EvM.plain rfl rfl))); (first | exact hC | exact hP | exact hkn | exact hS | exact hE)))
        refine q4 ?_; refine q11 ?_
        (apply spec_t; exact rfl; exact rfl)
        (refine im_any fun hc_ => ?_; try have hc1_ := (band hc_).1)
        ((have hp_ := hc_; (try simp only [Bool.not_eq_true', Bool.not_eq_false', Bool.or_eq_true, Bool.and_eq_true, Bool.or_eq_false_iff, Bool.and_eq_false_iff, decide_eq_true_eq, decide_eq_false_iff_not, Decidable.not_not, Int.not_lt, Int.not_le, Bool.not_true, Bool.not_false, Bool.true_and, Bool.and_true, Bool.false_or, Bool.or_false, Bool.true_or, Bool.false_and, bne_eq_false_iff_eq, bne_iff_ne, beq_iff_eq, beq_eq_false_iff_ne, decide_eq_decide] at hp_)))
        ((apply M_call; (first | (refine EvM.mb _ rfl ?_; first | assumption | exact rfl) | exact EvM.plain rfl rfl); exact .fn _ _ _; (repeat (first | exact EvsM.nil | (apply EvsM.cons; first | (refine EvM.mb _ rfl ?_; first | assumption | exact rfl) | exact EvM.plain rfl rfl))); (first | exact hC | exact hP | exact hkn | exact hS | exact hE)))
        refine q4 ?_; refine q12 ?_; refine ao_nil ?_; refine then_n ?_; refine awp_ret ?_
        rotate_left
        iterate 3 (refine im_df (fun _ => ?_); (try (exfalso; omega)))
        all_goals first | exact done_b rfl (by simp) | (exfalso; omega)
      · refine awp_freeze 900 τE 13 (s.es.map evTV) (tmL [(0, .int .i64 pred), (1, .int .i64 succ), (2, .d (ints l)), (7, .lo 7 (v3, 0) 3 0 0), (9, .int .i64 i)]) (stL [(7, ((v3, 0), ⟨3, [[.d (evsTV s.es), .os 901 τF 1 s.fs.length, .d (rowsTV s.ex.order)]]⟩)), (901, (τF, ⟨1, s.fs.map (cellO .i64)⟩))]) (by rw [← zE.eq]; rfl) (by repeat' (first | exact fz_nil | exact fs_nil | exact frc_nil | exact frr_nil | refine fz_cons rfl (.same _) ?_ | refine fz_cons rfl (froz_os (by simp)) ?_ | refine fs_cons (by decide) rfl (FrozR.same _) ?_ | refine fs_cons (by decide) rfl ?_ ?_ | refine frr_cons frc_same ?_ | refine frr_cons ?_ ?_ | refine frc_cons (.same _) ?_ | refine frc_cons (froz_os (by first | rfl | simp)) ?_ | refine frc_cons (.nil _) ?_)) (by repeat' (first | exact fz_nil | exact fs_nil | exact frc_nil | exact frr_nil | refine fz_cons rfl (.same _) ?_ | refine fz_cons rfl (froz_os (by simp)) ?_ | refine fs_cons (by decide) rfl (FrozR.same _) ?_ | refine fs_cons (by decide) rfl ?_ ?_ | refine frr_cons frc_same ?_ | refine frr_cons ?_ ?_ | refine frc_cons (.same _) ?_ | refine frc_cons (froz_os (by first | rfl | simp)) ?_ | refine frc_cons (.nil _) ?_)) ?_
        refine awp_freeze 901 τF 1 (s.fs.map cell) (tmL [(0, .int .i64 pred), (1, .int .i64 succ), (2, .d (ints l)), (7, .lo 7 (v3, 0) 3 0 0), (9, .int .i64 i)]) (stL [(7, ((v3, 0), ⟨3, [[.d (evsTV s.es), .d (ints s.fs), .d (rowsTV s.ex.order)]]⟩))]) (by rw [← zF.eq]; rfl) (by repeat' (first | exact fz_nil | exact fs_nil | exact frc_nil | exact frr_nil | refine fz_cons rfl (.same _) ?_ | refine fz_cons rfl (froz_os (by simp)) ?_ | refine fs_cons (by decide) rfl (FrozR.same _) ?_ | refine fs_cons (by decide) rfl ?_ ?_ | refine frr_cons frc_same ?_ | refine frr_cons ?_ ?_ | refine frc_cons (.same _) ?_ | refine frc_cons (froz_os (by first | rfl | simp)) ?_ | refine frc_cons (.nil _) ?_)) (by repeat' (first | exact fz_nil | exact fs_nil | exact frc_nil | exact frr_nil | refine fz_cons rfl (.same _) ?_ | refine fz_cons rfl (froz_os (by simp)) ?_ | refine fs_cons (by decide) rfl (FrozR.same _) ?_ | refine fs_cons (by decide) rfl ?_ ?_ | refine frr_cons frc_same ?_ | refine frr_cons ?_ ?_ | refine frc_cons (.same _) ?_ | refine frc_cons (froz_os (by first | rfl | simp)) ?_ | refine frc_cons (.nil _) ?_)) ?_
        have hfq : FqOk l.length s i (fqM l i) := hok
        obtain ⟨x, hx, hfit, hc, hle64, hev, hfr, hor⟩ : ∃ x : Ex, x = s.ex ∧ x.fit ∧ checkI x = 0 ∧ x.evs.length ≤ 64 ∧ evsTV s.es = evsTV x.evs ∧ ints s.fs = ints x.from_ ∧ rowsTV s.ex.order = rowsTV x.order := ⟨s.ex, rfl, fq_fit hok (by omega), hok.check, by show s.es.length ≤ 64; omega, rfl, rfl, rfl⟩
        rw [hev, hfr, hor]
        have hC := rcheck_p x hfit.1 (fun e he => (hfit.1.2.1 e he).bare)
        have hP := Ppo_p x hfit
        have hpl : ppoT x = (ppoL x, 0) := by unfold ppoT; rw [if_neg (by simp [hc])]
        rw [hpl] at hP
        rw [hc] at hC
        have hS := rpairs5_p x (by omega) (isPpo x) fun a b ha hb => rppo_p x (rok_of hfit.1 hc) a b ha hb
        have hln : (ppoL x).length ≤ 1152921504606846976 := Nat.le_trans (prTo_len _ _ _) (Nat.le_trans (Nat.mul_le_mul hle64 hle64) (by decide))
        have hE := rsamePairs_p (ppoL x) (ppoL x) hln hln
        rw [eqP_refl] at hE
        try rw [hhx] at hC hP hS
        iterate 2 refine awp_seq ?_
        (refine ao_region ?_ (fun _ => ?_); exact rfl)
        iterate 2 refine q11 ?_
        refine q13 ?_
        (apply S_leq; exact rfl; exact rfl)
        refine ao_nil ?_; refine then_n ?_
        (apply awp_cond; exact rfl)
        (refine im_dt (fun _ => ?_); (try (exfalso; omega)))
        refine awp_skip ?_; refine then_n ?_; refine awp_seq ?_; refine awp_block ?_
        iterate 2 refine awp_seq ?_
        (refine ao_region ?_ (fun _ => ?_); exact rfl)
        iterate 2 refine q11 ?_
        refine q13 ?_
        (apply S_quo; exact rfl; exact rfl; (first | decide | omega))
        refine q46 ?_; refine ao_nil ?_; refine then_n ?_
        (apply awp_cond; exact rfl)
        (refine im_dt (fun _ => ?_); (try (exfalso; omega)))
        (refine im_df (fun _ => ?_); (try (exfalso; omega)))
        refine awp_skip ?_; refine then_n ?_
        iterate 2 refine awp_seq ?_
        (refine ao_region ?_ (fun _ => ?_); exact rfl)
        iterate 2 refine q11 ?_
        refine q13 ?_; refine q46 ?_; refine ao_nil ?_; refine then_n ?_
        (apply awp_cond; exact rfl)
        (refine im_dt (fun _ => ?_); (try (exfalso; omega)))
        refine awp_exit ?_; refine then_x ?_
        (refine blk_y ?_ ?_; exact rfl)
        iterate 2 refine then_x ?_
        refine blk_x ?_; refine then_n ?_; refine awp_seq ?_
        (refine ao_region ?_ (fun _ => ?_); exact rfl)
        refine q14 ?_
        ((first
          | (apply S_call; exact rfl; exact .fn _ _ _; exact rfl; (first | exact hC | exact hP | exact hkn | exact hS | exact hE))
          | (apply D_call; exact rfl; exact .fn _ _ _; exact rfl; (first | exact hC | exact hP | exact hkn | exact hS | exact hE))))
        refine q11 ?_
        iterate 2 (apply S_extract; exact rfl; exact rfl)
        iterate 2 refine q12 ?_
        refine ao_nil ?_; refine then_n ?_; refine awp_seq ?_
        (refine ao_region ?_ (fun _ => ?_); exact rfl)
        refine q11 ?_; refine q46 ?_; refine q11 ?_
        (apply spec_t; exact rfl; exact rfl)
        (refine im_any fun hc_ => ?_; try have hc1_ := (band hc_).1)
        refine q27
        (apply spec_t; exact rfl; exact rfl)
        (refine im_any fun hc_ => ?_; try have hc1_ := (band hc_).1)
        ((have hp_ := hc_; (try simp only [Bool.not_eq_true', Bool.not_eq_false', Bool.or_eq_true, Bool.and_eq_true, Bool.or_eq_false_iff, Bool.and_eq_false_iff, decide_eq_true_eq, decide_eq_false_iff_not, Decidable.not_not, Int.not_lt, Int.not_le, Bool.not_true, Bool.not_false, Bool.true_and, Bool.and_true, Bool.false_or, Bool.or_false, Bool.true_or, Bool.false_and, bne_eq_false_iff_eq, bne_iff_ne, beq_iff_eq, beq_eq_false_iff_ne, decide_eq_decide] at hp_)))
        ((apply M_call; (first | (refine EvM.mb _ rfl ?_; first | assumption | exact rfl) | exact EvM.plain rfl rfl); exact .fn _ _ _; (repeat (first | exact EvsM.nil | (apply EvsM.cons; first | (refine EvM.mb _ rfl ?_; first | assumption | exact rfl) | exact EvM.plain rfl rfl))); (first | exact hC | exact hP | exact hkn | exact hS | exact hE)))
        (apply spec_t; exact rfl; exact rfl)
        (refine im_any fun hc_ => ?_; try have hc1_ := (band hc_).1)
        refine q7; refine q4 ?_; refine q11 ?_
        (apply spec_t; exact rfl; exact rfl)
        (refine im_any fun hc_ => ?_; try have hc1_ := (band hc_).1)
        refine q1
        (apply spec_t; exact rfl; exact rfl)
        (refine im_any fun hc_ => ?_; try have hc1_ := (band hc_).1)
        refine q27
        (apply spec_t; exact rfl; exact rfl)
        (refine im_any fun hc_ => ?_; try have hc1_ := (band hc_).1)
        ((have hp_ := hc_; (try simp only [Bool.not_eq_true', Bool.not_eq_false', Bool.or_eq_true, Bool.and_eq_true, Bool.or_eq_false_iff, Bool.and_eq_false_iff, decide_eq_true_eq, decide_eq_false_iff_not, Decidable.not_not, Int.not_lt, Int.not_le, Bool.not_true, Bool.not_false, Bool.true_and, Bool.and_true, Bool.false_or, Bool.or_false, Bool.true_or, Bool.false_and, bne_eq_false_iff_eq, bne_iff_ne, beq_iff_eq, beq_eq_false_iff_ne, decide_eq_decide] at hp_)))
        ((apply M_call; (first | (refine EvM.mb _ rfl ?_; first | assumption | exact rfl) | exact EvM.plain rfl rfl); exact .fn _ _ _; (repeat (first | exact EvsM.nil | (apply EvsM.cons; first | (refine EvM.mb _ rfl ?_; first | assumption | exact rfl) | exact EvM.plain rfl rfl))); (first | exact hC | exact hP | exact hkn | exact hS | exact hE)))
        (apply spec_t; exact rfl; exact rfl)
        (refine im_any fun hc_ => ?_; try have hc1_ := (band hc_).1)
        ((have hp_ := hc_; (try simp only [Bool.not_eq_true', Bool.not_eq_false', Bool.or_eq_true, Bool.and_eq_true, Bool.or_eq_false_iff, Bool.and_eq_false_iff, decide_eq_true_eq, decide_eq_false_iff_not, Decidable.not_not, Int.not_lt, Int.not_le, Bool.not_true, Bool.not_false, Bool.true_and, Bool.and_true, Bool.false_or, Bool.or_false, Bool.true_or, Bool.false_and, bne_eq_false_iff_eq, bne_iff_ne, beq_iff_eq, beq_eq_false_iff_ne, decide_eq_decide] at hp_)))
        ((apply M_call; (first | (refine EvM.mb _ rfl ?_; first | assumption | exact rfl) | exact EvM.plain rfl rfl); exact .fn _ _ _; (repeat (first | exact EvsM.nil | (apply EvsM.cons; first | (refine EvM.mb _ rfl ?_; first | assumption | exact rfl) | exact EvM.plain rfl rfl))); (first | exact hC | exact hP | exact hkn | exact hS | exact hE)))
        refine q4 ?_; refine q11 ?_
        (apply spec_t; exact rfl; exact rfl)
        (refine im_any fun hc_ => ?_; try have hc1_ := (band hc_).1)
        ((have hp_ := hc_; (try simp only [Bool.not_eq_true', Bool.not_eq_false', Bool.or_eq_true, Bool.and_eq_true, Bool.or_eq_false_iff, Bool.and_eq_false_iff, decide_eq_true_eq, decide_eq_false_iff_not, Decidable.not_not, Int.not_lt, Int.not_le, Bool.not_true, Bool.not_false, Bool.true_and, Bool.and_true, Bool.false_or, Bool.or_false, Bool.true_or, Bool.false_and, bne_eq_false_iff_eq, bne_iff_ne, beq_iff_eq, beq_eq_false_iff_ne, decide_eq_decide] at hp_)))
        ((apply M_call; (first | (refine EvM.mb _ rfl ?_; first | assumption | exact rfl) | exact EvM.plain rfl rfl); exact .fn _ _ _; (repeat (first | exact EvsM.nil | (apply EvsM.cons; first | (refine EvM.mb _ rfl ?_; first | assumption | exact rfl) | exact EvM.plain rfl rfl))); (first | exact hC | exact hP | exact hkn | exact hS | exact hE)))
        refine q4 ?_; refine q12 ?_; refine ao_nil ?_; refine then_n ?_; refine awp_ret ?_
        rotate_left
        iterate 2 (refine im_df (fun _ => ?_); (try (exfalso; omega)))
        all_goals first | exact done_b rfl (by simp) | (exfalso; omega)
end Go.Proofs.YtnghoibkjphfmaaGreat
