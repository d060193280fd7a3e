/- The law OrderReserves, walked in plain data. -/
import Derived.Test.YtnghoibkjphfmaaGreatPd3
import Derived.Test.YtnghoibkjphfmaaGreatPd16
import Derived.Test.YtnghoibkjphfmaaGreatPd17
set_option maxRecDepth 100000
set_option linter.unusedVariables false
set_option linter.unusedSimpArgs false
namespace Go.Proofs.YtnghoibkjphfmaaGreat
open Go.RowKit
def byte8 (n : Int) : List TV := [.c (.int .u8 n)]
def bytesTV (l : List Int) : TV := .sl 1 (l.map byte8)
def evRw (e : Ev) : List OV := (evTV e).map .d
theorem wf_u8s {l : List Int} (h : ∀ z ∈ l, (Lit.int .u8 z).wf = true) (i : Nat) : 0 ≤ l.getD i 0 ∧ l.getD i 0 < 256 := by
  rcases Nat.lt_or_ge i l.length with hh | hh
  · rw [List.getD_eq_getElem?_getD, List.getElem?_eq_getElem hh]
    have := h _ (List.getElem_mem hh)
    simp only [Lit.wf, Bool.and_eq_true, decide_eq_true_eq] at this
    have e1 : IntKind.u8.min = 0 := by decide
    have e2 : IntKind.u8.max = 255 := by decide
    rw [e1, e2] at this
    exact ⟨this.1, Int.lt_of_le_of_lt this.2 (by decide)⟩
  · rw [List.getD_eq_getElem?_getD, List.getElem?_eq_none hh]
    decide
theorem wrap_u8 {a : Int} (h1 : 0 ≤ a) (h2 : a < 256) : IntKind.u8.wrap a = a := by
  have e : IntKind.u8.wrap a = a % 256 := by
    unfold IntKind.wrap
    simp [IntKind.bits, IntKind.signed]
  rw [e]; omega
def rvS (v : Nat) (s : RvS) (τE τF τ0 τ1 : Stamp) : List (Nat × (Stamp × Row)) :=
  [(3, ((v, 8), ⟨3, [[.os 21 τE 13 s.es.length, .os 22 τF 1 s.fs.length, .os 25 (v, 6) 1 2]]⟩)), (21, (τE, ⟨13, s.es.map evRw⟩)), (22, (τF, ⟨1, s.fs.map (cellO .i64)⟩)), (25, ((v, 6), ⟨1, [[.os 23 τ0 1 s.o0.length], [.os 24 τ1 1 s.o1.length]]⟩)), (23, (τ0, ⟨1, s.o0.map (cellO .i64)⟩)), (24, (τ1, ⟨1, s.o1.map (cellO .i64)⟩))]
section
variable {E : Env} {v j : Nat} {ops : Array Oper} {K : Tm → Store → Prop} {rest : List Oper} {tm : Tm} {σ : Store} {ty : TypeId} {pos : String} {af : Array Edge}
/-- a number that is assigned, by another name -/
theorem S_assignE {dst : Option Tmp} {x : Operand} {k : IntKind} {n m : Int} (h : ev tm x = some (.int k n)) (he : n = m) (hcont : AO E.P v ops K (j + 1) rest (tm.putO dst (.int k m)) (σ.apply [])) : AO E.P v ops K j (⟨dst, .assign x, ty, pos, af, none⟩ :: rest) tm σ := by
  subst he; exact S_assign h hcont
end
set_option maxHeartbeats 4000000 in
theorem lawReserves_p (l : List Int) (hl : l.length ≤ 1152921504606846976) (hb : ∀ i, 0 ≤ l.getD i 0 ∧ l.getD i 0 < 256) : Pure E.P 8 [.d (bytesTV l)] (.bool true) := by
  have hkn := known7_p
  have n19 : NilS 19 := ⟨trivial⟩
  have n20 : NilS 20 := ⟨trivial⟩
  have n51 : NilS 51 := ⟨trivial⟩
  have k81 : KeyOf 81 21 := ⟨trivial⟩
  have k87 : KeyOf 87 22 := ⟨trivial⟩
  refine fn_of_awp Tryz.func8 (by decide) rfl Tryz.ntmps8 (Nat.le_of_ble_eq_true rfl) rfl ?_
  by_cases hlen : l.length ≤ 14
  rotate_left
  · refine awp_seq ?_
    (refine ao_region ?_ (fun _ => ?_); exact rfl)
    refine q12 ?_; refine ao_nil ?_; refine then_n ?_
    iterate 2 refine awp_seq ?_
    (refine ao_region ?_ (fun _ => ?_); exact rfl)
    refine q11 ?_; refine q13 ?_
    (apply S_gtr; exact rfl; exact rfl)
    refine ao_nil ?_; refine then_n ?_
    (apply awp_cond; exact rfl)
    (refine im_dt (fun _ => ?_); (try (exfalso; omega)))
    refine awp_seq ?_
    (refine ao_region ?_ (fun _ => ?_); exact rfl)
    ((first
      | (apply S_call; exact rfl; exact .fn _ _ _; exact rfl; exact hkn)
      | (apply D_call; exact rfl; exact .fn _ _ _; exact rfl; exact hkn)))
    refine q12 ?_; refine ao_nil ?_; refine then_n ?_; refine awp_ret ?_; refine then_r ?_
    rotate_left
    (refine im_df (fun _ => ?_); (try (exfalso; omega)))
    exact done_b rfl rfl
  refine awp_seq ?_
  (refine ao_region ?_ (fun _ => ?_); exact rfl)
  refine q12 ?_; refine ao_nil ?_; refine then_n ?_
  iterate 2 refine awp_seq ?_
  (refine ao_region ?_ (fun _ => ?_); exact rfl)
  refine q11 ?_; refine q13 ?_
  (apply S_gtr; exact rfl; exact rfl)
  refine ao_nil ?_; refine then_n ?_
  (apply awp_cond; exact rfl)
  (refine im_dt (fun _ => ?_); (try (exfalso; omega)))
  (refine im_df (fun _ => ?_); (try (exfalso; omega)))
  refine awp_skip ?_; refine then_n ?_; refine awp_seq ?_
  (refine ao_region ?_ (fun _ => ?_); exact rfl)
  iterate 2 (apply S_buildN; assumption; exact rfl; exact rfl; exact rfl; exact rfl; exact rfl; exact rfl)
  iterate 5 (apply S_buildSlice; exact rfl; exact rfl; exact rfl; decide; decide; decide; exact rfl; exact rfl)
  refine q54 ?_
  (apply S_alloc; exact rfl)
  refine q15 ?_; refine ao_nil ?_; refine then_n ?_
  iterate 2 refine awp_seq ?_
  (refine ao_region ?_ (fun _ => ?_); exact rfl)
  refine q12 ?_; refine ao_nil ?_; refine then_n ?_; refine awp_block ?_
  rotate_left
  rename_i v3 v4
  refine awp_loop (X := Nat × RvS × Stamp × Stamp × Stamp × Stamp) (fun p => tmL [(0, .d (bytesTV l)), (3, .lo 3 (v3, 8) 3 0 0), (4, .int .i64 p.1)])
    (fun p => stL (rvS v3 p.2.1 p.2.2.1 p.2.2.2.1 p.2.2.2.2.1 p.2.2.2.2.2))
    (fun p => p.1 ≤ l.length ∧ p.2.1 = rvTo l p.1) (fun p => l.length - p.1) (0, rv0, (v3, 2), (v3, 3), (v3, 4), (v3, 5)) ⟨Nat.zero_le _, rfl⟩ (by repeat' (first | exact le_nil _ | exact sle_nil _ | refine le_cons rfl ?_ | refine sle_cons rfl ?_)) (by repeat' (first | exact le_nil _ | exact sle_nil _ | refine le_cons rfl ?_ | refine sle_cons rfl ?_)) ?_
  rintro ⟨i, s, τE, τF, τ0, τ1⟩ ⟨hi, hs⟩
  dsimp only at hi hs ⊢
  have hok : RvOk s i := by rw [hs]; exact rv_ok l hlen hb i hi
  have hle := hok.len
  have hlf := hok.fl
  have hl0 := hok.l0
  have hl1 := hok.l1
  by_cases hlt : i < l.length
  · obtain ⟨hb0, hb1⟩ := hb i
    have hs' : rvTo l (i + 1) = rvStep i (l.getD i 0) s := by rw [hs]; rfl
    generalize hbe : l.getD i 0 = b at hb0 hb1 hs'
    have hge : l.getD (i : Int).toNat (default : Int) = b := hbe
    have hm2 : (l.getD (i : Int).toNat (default : Int)).tmod 2 = b % 2 := by rw [hge]; exact Int.tmod_eq_emod_of_nonneg hb0
    have hm8 : (l.getD (i : Int).toNat (default : Int)).tmod 8 = b % 8 := by rw [hge]; exact Int.tmod_eq_emod_of_nonneg hb0
    have hd2 : IntKind.u8.wrap ((l.getD (i : Int).toNat (default : Int)).tdiv 2) = b / 2 := by
      rw [hge, Int.tdiv_eq_ediv_of_nonneg hb0]
      exact wrap_u8 (by omega) (by omega)
    have hd3 : (IntKind.u8.wrap ((l.getD (i : Int).toNat (default : Int)).tdiv 2)).tmod 2 = b / 2 % 2 := by rw [hd2]; exact Int.tmod_eq_emod_of_nonneg (by omega)
    rcases (show b % 2 = 0 ∨ b % 2 = 1 by omega) with hw | hw
    · have k75 : KeyOf 75 23 := ⟨trivial⟩
      have he : (l.getD (i : Int).toNat (default : Int)).tmod 2 = 0 := hm2.trans hw
      iterate 2 refine awp_seq ?_
      (refine ao_region ?_ (fun _ => ?_); exact rfl)
      iterate 2 refine q11 ?_
      refine q13 ?_; refine q37 ?_; refine ao_nil ?_; refine then_n ?_
      (apply awp_cond; exact rfl)
      (refine im_dt (fun _ => ?_); (try (exfalso; omega)))
      refine awp_skip ?_; refine then_n ?_; refine awp_seq ?_; refine awp_block ?_; refine awp_seq ?_
      (refine ao_region ?_ (fun _ => ?_); exact rfl)
      iterate 2 refine q11 ?_
      refine q17 ?_; refine q23 ?_
      (apply S_rem; exact rfl; exact rfl; (first | decide | omega))
      (apply S_conv64; exact rfl; exact rfl; exact rfl; exact rfl; exact rfl; omega)
      ((apply S_assignE; exact rfl; exact he))
      refine ao_nil ?_; refine then_n ?_; refine awp_seq ?_
      (refine ao_region ?_ (fun _ => ?_); exact rfl)
      refine q28 ?_; refine q16 ?_; refine q13 ?_; refine q12 ?_; refine ao_nil ?_; refine then_n ?_; refine awp_seq ?_
      (refine ao_region ?_ (fun _ => ?_); exact rfl)
      refine q11 ?_
      (apply S_mul64; exact rfl; exact rfl; omega)
      (apply S_conv32u; exact rfl; exact rfl; exact rfl; exact rfl; exact rfl; omega)
      iterate 2 refine q11 ?_
      refine q17 ?_; refine q23 ?_
      (apply S_rem; exact rfl; exact rfl; (first | decide | omega))
      refine q37 ?_
      (apply S_buildN; assumption; exact rfl; exact rfl; exact rfl; exact rfl; exact rfl; exact rfl)
      (apply S_alloc; exact rfl)
      refine q15 ?_; refine ao_nil ?_; refine then_n ?_; refine awp_seq ?_
      (refine ao_region ?_ (fun _ => ?_); exact rfl)
      refine q11 ?_; refine q12 ?_; refine ao_nil ?_; refine then_n ?_
      iterate 2 refine awp_seq ?_
      (refine ao_region ?_ (fun _ => ?_); exact rfl)
      iterate 2 refine q11 ?_
      refine q17 ?_; refine q23 ?_
      (apply S_quo; exact rfl; exact rfl; (first | decide | omega))
      (apply S_rem; exact rfl; exact rfl; (first | decide | omega))
      refine q46 ?_; refine ao_nil ?_; refine then_n ?_
      (apply awp_cond; exact rfl)
      (refine im_dt (fun _ => ?_); (try (exfalso; omega)))
      refine awp_seq ?_
      (refine ao_region ?_ (fun _ => ?_); exact rfl)
      refine q11 ?_; refine q36 ?_
      (apply S_conv32u; exact rfl; exact rfl; exact rfl; exact rfl; exact rfl; omega)
      refine q28 ?_; refine q15 ?_; refine q28 ?_; refine q15 ?_; refine ao_nil ?_; refine then_n ?_; refine awp_seq ?_
      (refine ao_region ?_ (fun _ => ?_); exact rfl)
      refine q12 ?_; refine ao_nil ?_; refine then_n ?_
      (refine do_region (E := E) ?_ (fun _ => ?_); exact rfl)
      refine q56 ?_
      (apply D_load_lo; exact rfl; exact rfl; exact rfl; exact rfl; (first | exact rfl | exact get_map (by omega) (0 : Int) | exact get_map (by omega) default | exact hrow _ | assumption); exact rfl)
      refine q38 ?_; refine q56 ?_
      (apply D_load_lo; exact rfl; exact rfl; exact rfl; exact rfl; (first | exact rfl | exact get_map (by omega) (0 : Int) | exact get_map (by omega) default | exact hrow _ | assumption); exact rfl)
      refine q38 ?_
      (apply D_indexAddr_os; exact rfl; exact rfl; exact rfl; exact rfl; exact rfl; exact rfl; omega)
      (apply D_load_lo; exact rfl; exact rfl; exact rfl; exact rfl; (first | exact rfl | exact get_map (by omega) (0 : Int) | exact get_map (by omega) default | exact hrow _ | assumption); exact rfl)
      refine q38 ?_
      (apply D_buildSlice; exact rfl; exact rfl; exact rfl; decide; decide; decide; exact rfl; exact rfl)
      (apply D_appendK; assumption; exact rfl; exact rfl; exact rfl; exact rfl; decide; exact rfl; exact rfl; (first | exact .os _ _ _ _ rfl (by first | rfl | (first | omega | (simp only [List.length_append, List.length_map, List.length_take, List.length_drop, List.length_cons, List.length_nil, List.length_replicate, chop_length] <;> omega))) | exact .nil); (first | exact .os _ _ _ _ rfl (by first | rfl | (first | omega | (simp only [List.length_append, List.length_map, List.length_take, List.length_drop, List.length_cons, List.length_nil, List.length_replicate, chop_length] <;> omega))) | exact .vw _ _ _ _ _ rfl (by (first | omega | (simp only [List.length_append, List.length_map, List.length_take, List.length_drop, List.length_cons, List.length_nil, List.length_replicate, chop_length] <;> omega))) | exact .nil | exact .sl _); (repeat (first | exact LeafR.nil | exact LeafR.cells _ _ | exact LeafR.d _ | (apply LeafR.one; exact rfl) | exact hleaf _ | refine LeafR.take _ ?_ | refine LeafR.drop _ ?_ | refine LeafR.app ?_ ?_ | (apply LeafR.lit; exact rfl) | assumption)); (show _ * (Nat.succ _) ≤ _; (first | omega | (simp only [List.length_append, List.length_map, List.length_take, List.length_drop, List.length_cons, List.length_nil, List.length_replicate, chop_length] <;> omega))); (unfold maxLen; (first | omega | (simp only [List.length_append, List.length_map, List.length_take, List.length_drop, List.length_cons, List.length_nil, List.length_replicate, chop_length] <;> omega))))
      (apply D_indexAddr_os; exact rfl; exact rfl; exact rfl; exact rfl; exact rfl; exact rfl; omega)
      (apply D_store; exact rfl; exact rfl; exact rfl; exact rfl; exact rfl; exact rfl; (first | exact rfl | exact get_map (by omega) (0 : Int) | exact get_map (by omega) default | exact get_set_ne (by omega) (by omega) (0 : Int) | assumption); exact Nat.le_of_ble_eq_true rfl)
      (refine do_nil ?_ ?_; (first | ((try dsimp only [wkeys]); decide +kernel) | exact rfl))
      refine then_n ?_; refine awp_seq ?_
      (refine ao_region ?_ (fun _ => ?_); exact rfl)
      refine q28 ?_; refine q16 ?_; refine q14 ?_
      (apply S_buildSlice; exact rfl; exact rfl; exact rfl; decide; decide; decide; exact rfl; exact rfl)
      refine q39 ?_; refine q28 ?_; refine q15 ?_; refine ao_nil ?_; refine then_n ?_
      (refine ao_region ?_ (fun _ => ?_); exact rfl)
      refine q28 ?_; refine q16 ?_; refine q11 ?_
      (apply S_buildSlice; exact rfl; exact rfl; exact rfl; decide; decide; decide; exact rfl; exact rfl)
      refine q39 ?_; refine q28 ?_; refine q15 ?_; refine ao_nil ?_; refine blk_n ?_; refine then_n ?_
      (refine ao_region ?_ (fun _ => ?_); exact rfl)
      refine q11 ?_; refine q36 ?_; refine q12 ?_; refine ao_nil ?_; refine then_n ?_
      rotate_left
      (refine im_df (fun _ => ?_); (try (exfalso; omega)))
      refine awp_skip ?_; refine then_n ?_; refine awp_seq ?_
      (refine ao_region ?_ (fun _ => ?_); exact rfl)
      refine q28 ?_; refine q16 ?_; refine q14 ?_
      (apply S_buildSlice; exact rfl; exact rfl; exact rfl; decide; decide; decide; exact rfl; exact rfl)
      refine q39 ?_; refine q28 ?_; refine q15 ?_; refine ao_nil ?_; refine then_n ?_
      (refine ao_region ?_ (fun _ => ?_); exact rfl)
      refine q28 ?_; refine q16 ?_; refine q11 ?_
      (apply S_buildSlice; exact rfl; exact rfl; exact rfl; decide; decide; decide; exact rfl; exact rfl)
      refine q39 ?_; refine q28 ?_; refine q15 ?_; refine ao_nil ?_; refine blk_n ?_; refine then_n ?_
      (refine ao_region ?_ (fun _ => ?_); exact rfl)
      refine q11 ?_; refine q36 ?_; refine q12 ?_; refine ao_nil ?_; refine then_n ?_
      rotate_left
      (refine im_df (fun _ => ?_); (try (exfalso; omega)))
      · rename_i hst _ _ v14 v15 v16 _
        rw [hd3] at hst
        have hn : rvStep i b s = ⟨s.es ++ [ev0 0 2 (4 * 0) (1 + (i : Int)) (decide ((l.getD (i : Int).toNat (default : Int)).tmod 8 < 4))], s.fs ++ [-1], s.o0 ++ [(s.es.length : Int)], s.o1⟩ := by
          unfold rvStep rvEv; rw [hm8, hw, if_pos hst, if_pos hst, if_pos ⟨hst, rfl⟩, if_neg (by omega)]
        rw [hn] at hs'
        refine round' (i + 1, _, (v15, 4), (v16, 4), (v14, 10), τ1) ⟨by dsimp only; omega, hs'.symm⟩ (by dsimp only; omega) (by repeat' (first | exact le_nil _ | exact sle_nil _ | refine le_cons rfl ?_ | refine sle_cons rfl ?_)) (by repeat' (first | exact le_nil _ | exact sle_nil _ | refine le_cons rfl ?_ | refine sle_cons rfl ?_ | (refine le_cons_os rfl ?_ ?_; (simp <;> rfl)) | (refine le_cons_int rfl ?_ ?_; (simp <;> rfl)) | (refine sle_cons' rfl ?_ ?_; (simp <;> rfl))))
      · rename_i hst v15 v16 _
        rw [hd3] at hst
        have hn : rvStep i b s = ⟨s.es ++ [ev0 0 1 (4 * 0) 0 (decide ((l.getD (i : Int).toNat (default : Int)).tmod 8 < 4))], s.fs ++ [0], s.o0, s.o1⟩ := by
          unfold rvStep rvEv; rw [hm8, hw, if_neg hst, if_neg hst, if_neg (fun h => hst h.1), if_neg (fun h => hst h.1)]
        rw [hn] at hs'
        refine round' (i + 1, _, (v15, 4), (v16, 4), τ0, τ1) ⟨by dsimp only; omega, hs'.symm⟩ (by dsimp only; omega) (by repeat' (first | exact le_nil _ | exact sle_nil _ | refine le_cons rfl ?_ | refine sle_cons rfl ?_)) (by repeat' (first | exact le_nil _ | exact sle_nil _ | refine le_cons rfl ?_ | refine sle_cons rfl ?_ | (refine le_cons_os rfl ?_ ?_; (simp <;> rfl)) | (refine le_cons_int rfl ?_ ?_; (simp <;> rfl)) | (refine sle_cons' rfl ?_ ?_; (simp <;> rfl))))
    · have k75 : KeyOf 75 24 := ⟨trivial⟩
      have he : (l.getD (i : Int).toNat (default : Int)).tmod 2 = 1 := hm2.trans hw
      iterate 2 refine awp_seq ?_
      (refine ao_region ?_ (fun _ => ?_); exact rfl)
      iterate 2 refine q11 ?_
      refine q13 ?_; refine q37 ?_; refine ao_nil ?_; refine then_n ?_
      (apply awp_cond; exact rfl)
      (refine im_dt (fun _ => ?_); (try (exfalso; omega)))
      refine awp_skip ?_; refine then_n ?_; refine awp_seq ?_; refine awp_block ?_; refine awp_seq ?_
      (refine ao_region ?_ (fun _ => ?_); exact rfl)
      iterate 2 refine q11 ?_
      refine q17 ?_; refine q23 ?_
      (apply S_rem; exact rfl; exact rfl; (first | decide | omega))
      (apply S_conv64; exact rfl; exact rfl; exact rfl; exact rfl; exact rfl; omega)
      ((apply S_assignE; exact rfl; exact he))
      refine ao_nil ?_; refine then_n ?_; refine awp_seq ?_
      (refine ao_region ?_ (fun _ => ?_); exact rfl)
      refine q28 ?_; refine q16 ?_; refine q13 ?_; refine q12 ?_; refine ao_nil ?_; refine then_n ?_; refine awp_seq ?_
      (refine ao_region ?_ (fun _ => ?_); exact rfl)
      refine q11 ?_
      (apply S_mul64; exact rfl; exact rfl; omega)
      (apply S_conv32u; exact rfl; exact rfl; exact rfl; exact rfl; exact rfl; omega)
      iterate 2 refine q11 ?_
      refine q17 ?_; refine q23 ?_
      (apply S_rem; exact rfl; exact rfl; (first | decide | omega))
      refine q37 ?_
      (apply S_buildN; assumption; exact rfl; exact rfl; exact rfl; exact rfl; exact rfl; exact rfl)
      (apply S_alloc; exact rfl)
      refine q15 ?_; refine ao_nil ?_; refine then_n ?_; refine awp_seq ?_
      (refine ao_region ?_ (fun _ => ?_); exact rfl)
      refine q11 ?_; refine q12 ?_; refine ao_nil ?_; refine then_n ?_
      iterate 2 refine awp_seq ?_
      (refine ao_region ?_ (fun _ => ?_); exact rfl)
      iterate 2 refine q11 ?_
      refine q17 ?_; refine q23 ?_
      (apply S_quo; exact rfl; exact rfl; (first | decide | omega))
      (apply S_rem; exact rfl; exact rfl; (first | decide | omega))
      refine q46 ?_; refine ao_nil ?_; refine then_n ?_
      (apply awp_cond; exact rfl)
      (refine im_dt (fun _ => ?_); (try (exfalso; omega)))
      refine awp_seq ?_
      (refine ao_region ?_ (fun _ => ?_); exact rfl)
      refine q11 ?_; refine q36 ?_
      (apply S_conv32u; exact rfl; exact rfl; exact rfl; exact rfl; exact rfl; omega)
      refine q28 ?_; refine q15 ?_; refine q28 ?_; refine q15 ?_; refine ao_nil ?_; refine then_n ?_; refine awp_seq ?_
      (refine ao_region ?_ (fun _ => ?_); exact rfl)
      refine q12 ?_; refine ao_nil ?_; refine then_n ?_
      (refine do_region (E := E) ?_ (fun _ => ?_); exact rfl)
      refine q56 ?_
      (apply D_load_lo; exact rfl; exact rfl; exact rfl; exact rfl; (first | exact rfl | exact get_map (by omega) (0 : Int) | exact get_map (by omega) default | exact hrow _ | assumption); exact rfl)
      refine q38 ?_; refine q56 ?_
      (apply D_load_lo; exact rfl; exact rfl; exact rfl; exact rfl; (first | exact rfl | exact get_map (by omega) (0 : Int) | exact get_map (by omega) default | exact hrow _ | assumption); exact rfl)
      refine q38 ?_
      (apply D_indexAddr_os; exact rfl; exact rfl; exact rfl; exact rfl; exact rfl; exact rfl; omega)
      (apply D_load_lo; exact rfl; exact rfl; exact rfl; exact rfl; (first | exact rfl | exact get_map (by omega) (0 : Int) | exact get_map (by omega) default | exact hrow _ | assumption); exact rfl)
      refine q38 ?_
      (apply D_buildSlice; exact rfl; exact rfl; exact rfl; decide; decide; decide; exact rfl; exact rfl)
      (apply D_appendK; assumption; exact rfl; exact rfl; exact rfl; exact rfl; decide; exact rfl; exact rfl; (first | exact .os _ _ _ _ rfl (by first | rfl | (first | omega | (simp only [List.length_append, List.length_map, List.length_take, List.length_drop, List.length_cons, List.length_nil, List.length_replicate, chop_length] <;> omega))) | exact .nil); (first | exact .os _ _ _ _ rfl (by first | rfl | (first | omega | (simp only [List.length_append, List.length_map, List.length_take, List.length_drop, List.length_cons, List.length_nil, List.length_replicate, chop_length] <;> omega))) | exact .vw _ _ _ _ _ rfl (by (first | omega | (simp only [List.length_append, List.length_map, List.length_take, List.length_drop, List.length_cons, List.length_nil, List.length_replicate, chop_length] <;> omega))) | exact .nil | exact .sl _); (repeat (first | exact LeafR.nil | exact LeafR.cells _ _ | exact LeafR.d _ | (apply LeafR.one; exact rfl) | exact hleaf _ | refine LeafR.take _ ?_ | refine LeafR.drop _ ?_ | refine LeafR.app ?_ ?_ | (apply LeafR.lit; exact rfl) | assumption)); (show _ * (Nat.succ _) ≤ _; (first | omega | (simp only [List.length_append, List.length_map, List.length_take, List.length_drop, List.length_cons, List.length_nil, List.length_replicate, chop_length] <;> omega))); (unfold maxLen; (first | omega | (simp only [List.length_append, List.length_map, List.length_take, List.length_drop, List.length_cons, List.length_nil, List.length_replicate, chop_length] <;> omega))))
      (apply D_indexAddr_os; exact rfl; exact rfl; exact rfl; exact rfl; exact rfl; exact rfl; omega)
      (apply D_store; exact rfl; exact rfl; exact rfl; exact rfl; exact rfl; exact rfl; (first | exact rfl | exact get_map (by omega) (0 : Int) | exact get_map (by omega) default | exact get_set_ne (by omega) (by omega) (0 : Int) | assumption); exact Nat.le_of_ble_eq_true rfl)
      (refine do_nil ?_ ?_; (first | ((try dsimp only [wkeys]); decide +kernel) | exact rfl))
      refine then_n ?_; refine awp_seq ?_
      (refine ao_region ?_ (fun _ => ?_); exact rfl)
      refine q28 ?_; refine q16 ?_; refine q14 ?_
      (apply S_buildSlice; exact rfl; exact rfl; exact rfl; decide; decide; decide; exact rfl; exact rfl)
      refine q39 ?_; refine q28 ?_; refine q15 ?_; refine ao_nil ?_; refine then_n ?_
      (refine ao_region ?_ (fun _ => ?_); exact rfl)
      refine q28 ?_; refine q16 ?_; refine q11 ?_
      (apply S_buildSlice; exact rfl; exact rfl; exact rfl; decide; decide; decide; exact rfl; exact rfl)
      refine q39 ?_; refine q28 ?_; refine q15 ?_; refine ao_nil ?_; refine blk_n ?_; refine then_n ?_
      (refine ao_region ?_ (fun _ => ?_); exact rfl)
      refine q11 ?_; refine q36 ?_; refine q12 ?_; refine ao_nil ?_; refine then_n ?_
      rotate_left
      (refine im_df (fun _ => ?_); (try (exfalso; omega)))
      refine awp_skip ?_; refine then_n ?_; refine awp_seq ?_
      (refine ao_region ?_ (fun _ => ?_); exact rfl)
      refine q28 ?_; refine q16 ?_; refine q14 ?_
      (apply S_buildSlice; exact rfl; exact rfl; exact rfl; decide; decide; decide; exact rfl; exact rfl)
      refine q39 ?_; refine q28 ?_; refine q15 ?_; refine ao_nil ?_; refine then_n ?_
      (refine ao_region ?_ (fun _ => ?_); exact rfl)
      refine q28 ?_; refine q16 ?_; refine q11 ?_
      (apply S_buildSlice; exact rfl; exact rfl; exact rfl; decide; decide; decide; exact rfl; exact rfl)
      refine q39 ?_; refine q28 ?_; refine q15 ?_; refine ao_nil ?_; refine blk_n ?_; refine then_n ?_
      (refine ao_region ?_ (fun _ => ?_); exact rfl)
      refine q11 ?_; refine q36 ?_; refine q12 ?_; refine ao_nil ?_; refine then_n ?_
      rotate_left
      (refine im_df (fun _ => ?_); (try (exfalso; omega)))
      · rename_i hst _ _ v14 v15 v16 _
        rw [hd3] at hst
        have hn : rvStep i b s = ⟨s.es ++ [ev0 0 2 (4 * 1) (1 + (i : Int)) (decide ((l.getD (i : Int).toNat (default : Int)).tmod 8 < 4))], s.fs ++ [-1], s.o0, s.o1 ++ [(s.es.length : Int)]⟩ := by
          unfold rvStep rvEv; rw [hm8, hw, if_pos hst, if_pos hst, if_neg (by omega), if_pos ⟨hst, rfl⟩]
        rw [hn] at hs'
        refine round' (i + 1, _, (v15, 4), (v16, 4), τ0, (v14, 10)) ⟨by dsimp only; omega, hs'.symm⟩ (by dsimp only; omega) (by repeat' (first | exact le_nil _ | exact sle_nil _ | refine le_cons rfl ?_ | refine sle_cons rfl ?_)) (by repeat' (first | exact le_nil _ | exact sle_nil _ | refine le_cons rfl ?_ | refine sle_cons rfl ?_ | (refine le_cons_os rfl ?_ ?_; (simp <;> rfl)) | (refine le_cons_int rfl ?_ ?_; (simp <;> rfl)) | (refine sle_cons' rfl ?_ ?_; (simp <;> rfl))))
      · rename_i hst v15 v16 _
        rw [hd3] at hst
        have hn : rvStep i b s = ⟨s.es ++ [ev0 0 1 (4 * 1) 0 (decide ((l.getD (i : Int).toNat (default : Int)).tmod 8 < 4))], s.fs ++ [1], s.o0, s.o1⟩ := by
          unfold rvStep rvEv; rw [hm8, hw, if_neg hst, if_neg hst, if_neg (fun h => hst h.1), if_neg (fun h => hst h.1)]
        rw [hn] at hs'
        refine round' (i + 1, _, (v15, 4), (v16, 4), τ0, τ1) ⟨by dsimp only; omega, hs'.symm⟩ (by dsimp only; omega) (by repeat' (first | exact le_nil _ | exact sle_nil _ | refine le_cons rfl ?_ | refine sle_cons rfl ?_)) (by repeat' (first | exact le_nil _ | exact sle_nil _ | refine le_cons rfl ?_ | refine sle_cons rfl ?_ | (refine le_cons_os rfl ?_ ?_; (simp <;> rfl)) | (refine le_cons_int rfl ?_ ?_; (simp <;> rfl)) | (refine sle_cons' rfl ?_ ?_; (simp <;> rfl))))
  · have hie : i = l.length := by omega
    clear hs
    generalize hx : s.ex = x
    have hxe : x.evs = s.es := by rw [← hx]; rfl
    have hfit : x.fit := by
      rw [← hx]
      refine ⟨⟨by show s.es.length ≤ _; omega, hok.ok, by show s.fs.length ≤ _; omega, by show 2 ≤ 1152921504606846976; omega, ?_⟩, ?_⟩ <;>
      · intro r hr
        have hr' : r ∈ [((default : Sl), s.o0), (default, s.o1)] := hr
        simp only [List.mem_cons, List.not_mem_nil, or_false] at hr'
        rcases hr' with rfl | rfl <;> dsimp only <;> omega
    have z21 : FzR (s.es.map evRw) (s.es.map evTV) := FzR.of (f := evRw) (g := evTV) (fun _ => rfl) _
    have z22 := FzR.ints s.fs
    have z23 := FzR.ints s.o0
    have z24 := FzR.ints s.o1
    refine awp_freeze 23 τ0 1 (s.o0.map cell) (tmL [(3, .lo 3 (v3, 8) 3 0 0), (0, .d (bytesTV l)), (4, .int .i64 i)]) (stL [(3, ((v3, 8), ⟨3, [[.os 21 τE 13 s.es.length, .os 22 τF 1 s.fs.length, .os 25 (v3, 6) 1 2]]⟩)), (21, (τE, ⟨13, s.es.map evRw⟩)), (22, (τF, ⟨1, s.fs.map (cellO .i64)⟩)), (25, ((v3, 6), ⟨1, [[.d (ints s.o0)], [.os 24 τ1 1 s.o1.length]]⟩)), (24, (τ1, ⟨1, s.o1.map (cellO .i64)⟩))]) (by rw [← z23.eq]; rfl) (by repeat' (first | exact fz_nil | exact fs_nil | exact frc_nil | exact frr_nil | refine fz_cons rfl (.same _) ?_ | refine fz_cons rfl (froz_os (by simp)) ?_ | refine fs_cons (by decide) rfl (FrozR.same _) ?_ | refine fs_cons (by decide) rfl ?_ ?_ | refine frr_cons frc_same ?_ | refine frr_cons ?_ ?_ | refine frc_cons (.same _) ?_ | refine frc_cons (froz_os (by first | rfl | simp)) ?_ | refine frc_cons (.nil _) ?_)) (by repeat' (first | exact fz_nil | exact fs_nil | exact frc_nil | exact frr_nil | refine fz_cons rfl (.same _) ?_ | refine fz_cons rfl (froz_os (by simp)) ?_ | refine fs_cons (by decide) rfl (FrozR.same _) ?_ | refine fs_cons (by decide) rfl ?_ ?_ | refine frr_cons frc_same ?_ | refine frr_cons ?_ ?_ | refine frc_cons (.same _) ?_ | refine frc_cons (froz_os (by first | rfl | simp)) ?_ | refine frc_cons (.nil _) ?_)) ?_
    refine awp_freeze 24 τ1 1 (s.o1.map cell) (tmL [(3, .lo 3 (v3, 8) 3 0 0), (0, .d (bytesTV l)), (4, .int .i64 i)]) (stL [(3, ((v3, 8), ⟨3, [[.os 21 τE 13 s.es.length, .os 22 τF 1 s.fs.length, .os 25 (v3, 6) 1 2]]⟩)), (21, (τE, ⟨13, s.es.map evRw⟩)), (22, (τF, ⟨1, s.fs.map (cellO .i64)⟩)), (25, ((v3, 6), ⟨1, [[.d (ints s.o0)], [.d (ints s.o1)]]⟩))]) (by rw [← z24.eq]; rfl) (by repeat' (first | exact fz_nil | exact fs_nil | exact frc_nil | exact frr_nil | refine fz_cons rfl (.same _) ?_ | refine fz_cons rfl (froz_os (by simp)) ?_ | refine fs_cons (by decide) rfl (FrozR.same _) ?_ | refine fs_cons (by decide) rfl ?_ ?_ | refine frr_cons frc_same ?_ | refine frr_cons ?_ ?_ | refine frc_cons (.same _) ?_ | refine frc_cons (froz_os (by first | rfl | simp)) ?_ | refine frc_cons (.nil _) ?_)) (by repeat' (first | exact fz_nil | exact fs_nil | exact frc_nil | exact frr_nil | refine fz_cons rfl (.same _) ?_ | refine fz_cons rfl (froz_os (by simp)) ?_ | refine fs_cons (by decide) rfl (FrozR.same _) ?_ | refine fs_cons (by decide) rfl ?_ ?_ | refine frr_cons frc_same ?_ | refine frr_cons ?_ ?_ | refine frc_cons (.same _) ?_ | refine frc_cons (froz_os (by first | rfl | simp)) ?_ | refine frc_cons (.nil _) ?_)) ?_
    refine awp_freeze 25 (v3, 6) 1 [[ints s.o0], [ints s.o1]] (tmL [(3, .lo 3 (v3, 8) 3 0 0), (0, .d (bytesTV l)), (4, .int .i64 i)]) (stL [(3, ((v3, 8), ⟨3, [[.os 21 τE 13 s.es.length, .os 22 τF 1 s.fs.length, .d (rowsTV s.ex.order)]]⟩)), (21, (τE, ⟨13, s.es.map evRw⟩)), (22, (τF, ⟨1, s.fs.map (cellO .i64)⟩))]) rfl (by repeat' (first | exact fz_nil | exact fs_nil | exact frc_nil | exact frr_nil | refine fz_cons rfl (.same _) ?_ | refine fz_cons rfl (froz_os (by simp)) ?_ | refine fs_cons (by decide) rfl (FrozR.same _) ?_ | refine fs_cons (by decide) rfl ?_ ?_ | refine frr_cons frc_same ?_ | refine frr_cons ?_ ?_ | refine frc_cons (.same _) ?_ | refine frc_cons (froz_os (by first | rfl | simp)) ?_ | refine frc_cons (.nil _) ?_)) (by repeat' (first | exact fz_nil | exact fs_nil | exact frc_nil | exact frr_nil | refine fz_cons rfl (.same _) ?_ | refine fz_cons rfl (froz_os (by simp)) ?_ | refine fs_cons (by decide) rfl (FrozR.same _) ?_ | refine fs_cons (by decide) rfl ?_ ?_ | refine frr_cons frc_same ?_ | refine frr_cons ?_ ?_ | refine frc_cons (.same _) ?_ | refine frc_cons (froz_os (by first | rfl | simp)) ?_ | refine frc_cons (.nil _) ?_)) ?_
    refine awp_freeze 21 τE 13 (s.es.map evTV) (tmL [(3, .lo 3 (v3, 8) 3 0 0), (0, .d (bytesTV l)), (4, .int .i64 i)]) (stL [(3, ((v3, 8), ⟨3, [[.d (evsTV s.es), .os 22 τF 1 s.fs.length, .d (rowsTV s.ex.order)]]⟩)), (22, (τF, ⟨1, s.fs.map (cellO .i64)⟩))]) (by rw [← z21.eq]; rfl) (by repeat' (first | exact fz_nil | exact fs_nil | exact frc_nil | exact frr_nil | refine fz_cons rfl (.same _) ?_ | refine fz_cons rfl (froz_os (by simp)) ?_ | refine fs_cons (by decide) rfl (FrozR.same _) ?_ | refine fs_cons (by decide) rfl ?_ ?_ | refine frr_cons frc_same ?_ | refine frr_cons ?_ ?_ | refine frc_cons (.same _) ?_ | refine frc_cons (froz_os (by first | rfl | simp)) ?_ | refine frc_cons (.nil _) ?_)) (by repeat' (first | exact fz_nil | exact fs_nil | exact frc_nil | exact frr_nil | refine fz_cons rfl (.same _) ?_ | refine fz_cons rfl (froz_os (by simp)) ?_ | refine fs_cons (by decide) rfl (FrozR.same _) ?_ | refine fs_cons (by decide) rfl ?_ ?_ | refine frr_cons frc_same ?_ | refine frr_cons ?_ ?_ | refine frc_cons (.same _) ?_ | refine frc_cons (froz_os (by first | rfl | simp)) ?_ | refine frc_cons (.nil _) ?_)) ?_
    refine awp_freeze 22 τF 1 (s.fs.map cell) (tmL [(3, .lo 3 (v3, 8) 3 0 0), (0, .d (bytesTV l)), (4, .int .i64 i)]) (stL [(3, ((v3, 8), ⟨3, [[.d (evsTV s.ex.evs), .d (ints s.ex.from_), .d (rowsTV s.ex.order)]]⟩))]) (by rw [← z22.eq]; rfl) (by repeat' (first | exact fz_nil | exact fs_nil | exact frc_nil | exact frr_nil | refine fz_cons rfl (.same _) ?_ | refine fz_cons rfl (froz_os (by simp)) ?_ | refine fs_cons (by decide) rfl (FrozR.same _) ?_ | refine fs_cons (by decide) rfl ?_ ?_ | refine frr_cons frc_same ?_ | refine frr_cons ?_ ?_ | refine frc_cons (.same _) ?_ | refine frc_cons (froz_os (by first | rfl | simp)) ?_ | refine frc_cons (.nil _) ?_)) (by repeat' (first | exact fz_nil | exact fs_nil | exact frc_nil | exact frr_nil | refine fz_cons rfl (.same _) ?_ | refine fz_cons rfl (froz_os (by simp)) ?_ | refine fs_cons (by decide) rfl (FrozR.same _) ?_ | refine fs_cons (by decide) rfl ?_ ?_ | refine frr_cons frc_same ?_ | refine frr_cons ?_ ?_ | refine frc_cons (.same _) ?_ | refine frc_cons (froz_os (by first | rfl | simp)) ?_ | refine frc_cons (.nil _) ?_)) ?_
    have hc : checkI x = 0 := by rw [← hx]; exact hok.check
    rw [hx]
    have hC := rcheck_p x hfit.1 (fun e he => (hfit.1.2.1 e he).bare)
    have hP := Ppo_p x hfit
    have hpl : ppoT x = (ppoL x, 0) := by unfold ppoT; rw [if_neg (by simp [hc])]
    rw [hpl] at hP
    rw [hc] at hC
    iterate 2 refine awp_seq ?_
    (refine ao_region ?_ (fun _ => ?_); exact rfl)
    iterate 2 refine q11 ?_
    refine q13 ?_; refine q37 ?_; refine ao_nil ?_; refine then_n ?_
    (apply awp_cond; exact rfl)
    (refine im_dt (fun _ => ?_); (try (exfalso; omega)))
    (refine im_df (fun _ => ?_); (try (exfalso; omega)))
    refine awp_exit ?_
    iterate 2 refine then_x ?_
    refine blk_x ?_; refine then_n ?_
    iterate 2 refine awp_seq ?_
    (refine ao_region ?_ (fun _ => ?_); exact rfl)
    refine q14 ?_
    ((first
      | (apply S_call; exact rfl; exact .fn _ _ _; exact rfl; (first | exact hC | exact hP))
      | (apply D_call; exact rfl; exact .fn _ _ _; exact rfl; (first | exact hC | exact hP))))
    refine q44 ?_; refine ao_nil ?_; refine then_n ?_
    (apply awp_cond; exact rfl)
    (refine im_nt (fun _ => ?_); (try (exfalso; omega)))
    (refine im_nf (fun _ => ?_); (try (exfalso; omega)))
    refine awp_skip ?_; refine then_n ?_; refine awp_seq ?_
    (refine ao_region ?_ (fun _ => ?_); exact rfl)
    refine q14 ?_
    ((first
      | (apply S_call; exact rfl; exact .fn _ _ _; exact rfl; (first | exact hC | exact hP))
      | (apply D_call; exact rfl; exact .fn _ _ _; exact rfl; (first | exact hC | exact hP))))
    refine q11 ?_
    iterate 2 (apply S_extract; exact rfl; exact rfl)
    iterate 2 refine q12 ?_
    refine ao_nil ?_; refine then_n ?_
    iterate 2 refine awp_seq ?_
    (refine ao_region ?_ (fun _ => ?_); exact rfl)
    refine q12 ?_; refine ao_nil ?_; refine then_n ?_; refine awp_block ?_
    rotate_left
    refine awp_loop (X := Nat) (fun b => tmL [(3, .lo 3 (v3, 8) 3 0 0), (9, .d (pairsTV (ppoL x))), (10, .int .i64 0), (11, .int .i64 b)]) (fun _ => stL [(3, ((v3, 8), ⟨3, [exRow x |>.map .d]⟩))]) (fun b => b ≤ x.evs.length) (fun b => x.evs.length - b) 0 (Nat.zero_le _) (by repeat' (first | exact le_nil _ | exact sle_nil _ | refine le_cons rfl ?_ | refine sle_cons rfl ?_)) (by repeat' (first | exact le_nil _ | exact sle_nil _ | refine le_cons rfl ?_ | refine sle_cons rfl ?_)) ?_
    intro b hbl
    have hlen2 : x.evs.length ≤ 16 := by rw [hxe]; omega
    by_cases hlt2 : b < x.evs.length
    · have hR := rpaired_p x (rok_of hfit.1 hc) b hlt2
      have hP2 := Paired_p x hfit b
      by_cases h0 : 0 ≤ pairedI x b
      · have e : pairedR x b = (pairedI x b, true) := by unfold pairedR; rw [Int.toNat_natCast, if_pos ⟨hc, by omega, by omega, h0⟩]
        rw [e] at hP2
        iterate 2 refine awp_seq ?_
        (refine ao_region ?_ (fun _ => ?_); exact rfl)
        refine q11 ?_; refine q28 ?_; refine q16 ?_; refine q13 ?_; refine q37 ?_; refine ao_nil ?_; refine then_n ?_
        (apply awp_cond; exact rfl)
        (refine im_dt (fun _ => ?_); (try (exfalso; omega)))
        refine awp_skip ?_; refine then_n ?_; refine awp_seq ?_; refine awp_block ?_; refine awp_seq ?_
        (refine ao_region ?_ (fun _ => ?_); exact rfl)
        refine q14 ?_; refine q11 ?_
        ((first
          | (apply S_call; exact rfl; exact .fn _ _ _; exact rfl; (first | exact hP2 | exact hR))
          | (apply D_call; exact rfl; exact .fn _ _ _; exact rfl; (first | exact hP2 | exact hR))))
        refine q11 ?_
        iterate 2 (apply S_extract; exact rfl; exact rfl)
        iterate 2 refine q12 ?_
        refine ao_nil ?_; refine then_n ?_; refine awp_seq ?_
        (refine ao_region ?_ (fun _ => ?_); exact rfl)
        refine q14 ?_; refine q11 ?_
        ((first
          | (apply S_call; exact rfl; exact .fn _ _ _; exact rfl; (first | exact hP2 | exact hR))
          | (apply D_call; exact rfl; exact .fn _ _ _; exact rfl; (first | exact hP2 | exact hR))))
        refine q12 ?_; refine ao_nil ?_; refine then_n ?_; refine awp_seq ?_
        (refine ao_region ?_ (fun _ => ?_); exact rfl)
        iterate 2 refine q11 ?_
        (apply S_geq; exact rfl; exact rfl)
        (apply S_neqB; exact rfl; exact rfl; exact rfl; exact rfl)
        refine q11 ?_
        (apply spec_f; exact rfl; exact rfl)
        (refine im_any fun hc_ => ?_; try have hc1_ := (band hc_).1)
        refine q1
        (apply spec_f; exact rfl; exact rfl)
        (refine im_any fun hc_ => ?_; try have hc1_ := (band hc_).1)
        refine q1
        (apply spec_f; exact rfl; exact rfl)
        (refine im_any fun hc_ => ?_; try have hc1_ := (band hc_).1)
        (apply M_max; (first | (refine EvM.mb _ rfl ?_; first | assumption | exact rfl) | exact EvM.plain rfl rfl); (first | (refine EvM.mb _ rfl ?_; first | assumption | exact rfl) | exact EvM.plain rfl rfl))
        (apply spec_f; exact rfl; exact rfl)
        (refine im_any fun hc_ => ?_; try have hc1_ := (band hc_).1)
        refine q26; refine q0 ?_; refine ao_nil ?_; refine then_n ?_
        (apply awp_cond; exact rfl)
        (refine im_ot (fun hc_ => ?_); (try simp only [Bool.not_eq_true', Bool.not_eq_false', Bool.or_eq_true, Bool.and_eq_true, Bool.or_eq_false_iff, Bool.and_eq_false_iff, decide_eq_true_eq, decide_eq_false_iff_not, Decidable.not_not, Int.not_lt, Int.not_le, Bool.not_true, Bool.not_false, Bool.true_and, Bool.and_true, Bool.false_or, Bool.or_false, Bool.true_or, Bool.false_and, bne_eq_false_iff_eq, bne_iff_ne, beq_iff_eq, beq_eq_false_iff_ne, decide_eq_decide] at hc_))
        refine awp_seq ?_
        (refine ao_region ?_ (fun _ => ?_); exact rfl)
        refine q12 ?_; refine ao_nil ?_; refine then_n ?_; refine awp_ret ?_; refine blk_r ?_
        iterate 2 refine then_r ?_
        refine blk_r ?_; refine then_r ?_
        rotate_left
        refine im_of ?_; refine im_bf ?_
        (refine im_vt (fun _ => ?_))
        (refine im_nf (fun _ => ?_); (try (exfalso; omega)))
        refine awp_skip ?_; refine blk_n ?_; refine then_n ?_
        (refine ao_region ?_ (fun _ => ?_); exact rfl)
        refine q11 ?_; refine q36 ?_; refine q12 ?_; refine ao_nil ?_; refine then_n ?_
        rotate_left
        (refine im_df (fun _ => ?_); (try (exfalso; omega)))
        · exfalso
          rcases hc_ with h | h
          · simp [h0] at h
          · apply h; split <;> omega
        · exact round' (b + 1) (show b + 1 ≤ _ by omega) (by omega) (by repeat' (first | exact le_nil _ | exact sle_nil _ | refine le_cons rfl ?_ | refine sle_cons rfl ?_)) (by repeat' (first | exact le_nil _ | exact sle_nil _ | refine le_cons rfl ?_ | refine sle_cons rfl ?_))
      · have e : pairedR x b = (0, false) := by unfold pairedR; rw [Int.toNat_natCast, if_neg (fun h => h0 h.2.2.2)]
        rw [e] at hP2
        iterate 2 refine awp_seq ?_
        (refine ao_region ?_ (fun _ => ?_); exact rfl)
        refine q11 ?_; refine q28 ?_; refine q16 ?_; refine q13 ?_; refine q37 ?_; refine ao_nil ?_; refine then_n ?_
        (apply awp_cond; exact rfl)
        (refine im_dt (fun _ => ?_); (try (exfalso; omega)))
        refine awp_skip ?_; refine then_n ?_; refine awp_seq ?_; refine awp_block ?_; refine awp_seq ?_
        (refine ao_region ?_ (fun _ => ?_); exact rfl)
        refine q14 ?_; refine q11 ?_
        ((first
          | (apply S_call; exact rfl; exact .fn _ _ _; exact rfl; (first | exact hP2 | exact hR))
          | (apply D_call; exact rfl; exact .fn _ _ _; exact rfl; (first | exact hP2 | exact hR))))
        refine q11 ?_
        iterate 2 (apply S_extract; exact rfl; exact rfl)
        iterate 2 refine q12 ?_
        refine ao_nil ?_; refine then_n ?_; refine awp_seq ?_
        (refine ao_region ?_ (fun _ => ?_); exact rfl)
        refine q14 ?_; refine q11 ?_
        ((first
          | (apply S_call; exact rfl; exact .fn _ _ _; exact rfl; (first | exact hP2 | exact hR))
          | (apply D_call; exact rfl; exact .fn _ _ _; exact rfl; (first | exact hP2 | exact hR))))
        refine q12 ?_; refine ao_nil ?_; refine then_n ?_; refine awp_seq ?_
        (refine ao_region ?_ (fun _ => ?_); exact rfl)
        iterate 2 refine q11 ?_
        (apply S_geq; exact rfl; exact rfl)
        (apply S_neqB; exact rfl; exact rfl; exact rfl; exact rfl)
        refine q11 ?_
        (apply spec_f; exact rfl; exact rfl)
        (refine im_any fun hc_ => ?_; try have hc1_ := (band hc_).1)
        refine q1
        (apply spec_f; exact rfl; exact rfl)
        (refine im_any fun hc_ => ?_; try have hc1_ := (band hc_).1)
        refine q1
        (apply spec_f; exact rfl; exact rfl)
        (refine im_any fun hc_ => ?_; try have hc1_ := (band hc_).1)
        (apply M_max; (first | (refine EvM.mb _ rfl ?_; first | assumption | exact rfl) | exact EvM.plain rfl rfl); (first | (refine EvM.mb _ rfl ?_; first | assumption | exact rfl) | exact EvM.plain rfl rfl))
        (apply spec_f; exact rfl; exact rfl)
        (refine im_any fun hc_ => ?_; try have hc1_ := (band hc_).1)
        refine q26; refine q0 ?_; refine ao_nil ?_; refine then_n ?_
        (apply awp_cond; exact rfl)
        (refine im_ot (fun hc_ => ?_); (try simp only [Bool.not_eq_true', Bool.not_eq_false', Bool.or_eq_true, Bool.and_eq_true, Bool.or_eq_false_iff, Bool.and_eq_false_iff, decide_eq_true_eq, decide_eq_false_iff_not, Decidable.not_not, Int.not_lt, Int.not_le, Bool.not_true, Bool.not_false, Bool.true_and, Bool.and_true, Bool.false_or, Bool.or_false, Bool.true_or, Bool.false_and, bne_eq_false_iff_eq, bne_iff_ne, beq_iff_eq, beq_eq_false_iff_ne, decide_eq_decide] at hc_))
        refine awp_seq ?_
        (refine ao_region ?_ (fun _ => ?_); exact rfl)
        refine q12 ?_; refine ao_nil ?_; refine then_n ?_; refine awp_ret ?_; refine blk_r ?_
        iterate 2 refine then_r ?_
        refine blk_r ?_; refine then_r ?_
        rotate_left
        refine im_of ?_; refine im_bf ?_
        (refine im_vt (fun _ => ?_))
        (refine im_nf (fun _ => ?_); (try (exfalso; omega)))
        refine awp_skip ?_; refine blk_n ?_; refine then_n ?_
        (refine ao_region ?_ (fun _ => ?_); exact rfl)
        refine q11 ?_; refine q36 ?_; refine q12 ?_; refine ao_nil ?_; refine then_n ?_
        rotate_left
        (refine im_df (fun _ => ?_); (try (exfalso; omega)))
        · exfalso
          rcases hc_ with h | h
          · simp [h0] at h
          · apply h; split <;> omega
        · exact round' (b + 1) (show b + 1 ≤ _ by omega) (by omega) (by repeat' (first | exact le_nil _ | exact sle_nil _ | refine le_cons rfl ?_ | refine sle_cons rfl ?_)) (by repeat' (first | exact le_nil _ | exact sle_nil _ | refine le_cons rfl ?_ | refine sle_cons rfl ?_))
    · have hS := rpairs5_p x (by rw [hxe]; omega) (isPpo x) fun a b ha hb => rppo_p x (rok_of hfit.1 hc) a b ha hb
      have hl16 : x.evs.length ≤ 16 := hlen2
      have hln : (ppoL x).length ≤ 1152921504606846976 := Nat.le_trans (prTo_len _ _ _) (Nat.le_trans (Nat.mul_le_mul hl16 hl16) (by decide))
      have hE := rsamePairs_p (ppoL x) (ppoL x) hln hln
      rw [eqP_refl] at hE
      iterate 2 refine awp_seq ?_
      (refine ao_region ?_ (fun _ => ?_); exact rfl)
      refine q11 ?_; refine q28 ?_; refine q16 ?_; refine q13 ?_; refine q37 ?_; refine ao_nil ?_; refine then_n ?_
      (apply awp_cond; exact rfl)
      (refine im_dt (fun _ => ?_); (try (exfalso; omega)))
      (refine im_df (fun _ => ?_); (try (exfalso; omega)))
      refine awp_exit ?_
      iterate 2 refine then_x ?_
      refine blk_x ?_; refine then_n ?_; refine awp_seq ?_
      (refine ao_region ?_ (fun _ => ?_); exact rfl)
      refine q11 ?_; refine q46 ?_; refine q11 ?_
      (apply spec_t; exact rfl; exact rfl)
      (refine im_any fun hc_ => ?_; try have hc1_ := (band hc_).1)
      refine q1
      (apply spec_t; exact rfl; exact rfl)
      (refine im_any fun hc_ => ?_; try have hc1_ := (band hc_).1)
      refine q27
      (apply spec_t; exact rfl; exact rfl)
      (refine im_any fun hc_ => ?_; try have hc1_ := (band hc_).1)
      ((have hp_ := hc_; (try simp only [Bool.not_eq_true', Bool.not_eq_false', Bool.or_eq_true, Bool.and_eq_true, Bool.or_eq_false_iff, Bool.and_eq_false_iff, decide_eq_true_eq, decide_eq_false_iff_not, Decidable.not_not, Int.not_lt, Int.not_le, Bool.not_true, Bool.not_false, Bool.true_and, Bool.and_true, Bool.false_or, Bool.or_false, Bool.true_or, Bool.false_and, bne_eq_false_iff_eq, bne_iff_ne, beq_iff_eq, beq_eq_false_iff_ne, decide_eq_decide] at hp_)))
      ((apply M_call; (first | (refine EvM.mb _ rfl ?_; first | assumption | exact rfl) | exact EvM.plain rfl rfl); exact .fn _ _ _; (repeat (first | exact EvsM.nil | (apply EvsM.cons; first | (refine EvM.mb _ rfl ?_; first | assumption | exact rfl) | exact EvM.plain rfl rfl))); (first | exact hkn | exact hS | exact hE)))
      (apply spec_t; exact rfl; exact rfl)
      (refine im_any fun hc_ => ?_; try have hc1_ := (band hc_).1)
      ((have hp_ := hc_; (try simp only [Bool.not_eq_true', Bool.not_eq_false', Bool.or_eq_true, Bool.and_eq_true, Bool.or_eq_false_iff, Bool.and_eq_false_iff, decide_eq_true_eq, decide_eq_false_iff_not, Decidable.not_not, Int.not_lt, Int.not_le, Bool.not_true, Bool.not_false, Bool.true_and, Bool.and_true, Bool.false_or, Bool.or_false, Bool.true_or, Bool.false_and, bne_eq_false_iff_eq, bne_iff_ne, beq_iff_eq, beq_eq_false_iff_ne, decide_eq_decide] at hp_)))
      ((apply M_call; (first | (refine EvM.mb _ rfl ?_; first | assumption | exact rfl) | exact EvM.plain rfl rfl); exact .fn _ _ _; (repeat (first | exact EvsM.nil | (apply EvsM.cons; first | (refine EvM.mb _ rfl ?_; first | assumption | exact rfl) | exact EvM.plain rfl rfl))); (first | exact hkn | exact hS | exact hE)))
      refine q4 ?_; refine q11 ?_
      (apply spec_t; exact rfl; exact rfl)
      (refine im_any fun hc_ => ?_; try have hc1_ := (band hc_).1)
      ((have hp_ := hc_; (try simp only [Bool.not_eq_true', Bool.not_eq_false', Bool.or_eq_true, Bool.and_eq_true, Bool.or_eq_false_iff, Bool.and_eq_false_iff, decide_eq_true_eq, decide_eq_false_iff_not, Decidable.not_not, Int.not_lt, Int.not_le, Bool.not_true, Bool.not_false, Bool.true_and, Bool.and_true, Bool.false_or, Bool.or_false, Bool.true_or, Bool.false_and, bne_eq_false_iff_eq, bne_iff_ne, beq_iff_eq, beq_eq_false_iff_ne, decide_eq_decide] at hp_)))
      ((apply M_call; (first | (refine EvM.mb _ rfl ?_; first | assumption | exact rfl) | exact EvM.plain rfl rfl); exact .fn _ _ _; (repeat (first | exact EvsM.nil | (apply EvsM.cons; first | (refine EvM.mb _ rfl ?_; first | assumption | exact rfl) | exact EvM.plain rfl rfl))); (first | exact hkn | exact hS | exact hE)))
      refine q4 ?_; refine q12 ?_; refine ao_nil ?_; refine then_n ?_; refine awp_ret ?_
      rotate_left
      exact done_b rfl (by simp)
end Go.Proofs.YtnghoibkjphfmaaGreat
