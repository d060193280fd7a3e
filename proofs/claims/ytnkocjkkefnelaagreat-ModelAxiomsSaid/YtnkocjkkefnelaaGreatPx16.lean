/- Parts. -/
import Derived.Test.YtnkocjkkefnelaaGreatPx3
import Derived.Test.YtnkocjkkefnelaaGreatPx8
import Derived.Test.YtnkocjkkefnelaaGreatPx10
import Derived.Test.YtnkocjkkefnelaaGreatPx15
set_option linter.unusedVariables false
set_option linter.unusedSimpArgs false
set_option maxRecDepth 100000
namespace Go.Proofs.YtnkocjkkefnelaaGreat
open Go.RowKit Go.Maps
def pcohL (x : Ex) : List (Int × Int) := (refPairs x.evs.length (isPo x)).filter (cohG x) ++ (rfF x ++ (coF x ++ frF x))
theorem nM {x : Ex} (hx : x.rel) (p : Int × Int) : p ∈ pcohL x ↔ p ∈ rcohL x := by
 unfold pcohL rcohL cohL
 rw [gT hx, gR hx, bM hx.check]
 simp only [List.mem_append]
 constructor
 ·rintro (h | h | h | h)
  ·exact Or.inr h
  ·exact Or.inl (Or.inl (Or.inl h))
  ·exact Or.inl (Or.inl (Or.inr h))
  ·exact Or.inl (Or.inr h)
 ·rintro (((h | h) | h) | h)
  ·exact Or.inr (Or.inl h)
  ·exact Or.inr (Or.inr (Or.inl h))
  ·exact Or.inr (Or.inr (Or.inr h))
  ·exact Or.inl h
theorem any_congr {α : Type} {l l' : List α} (h : ∀ p, p ∈ l ↔ p ∈ l') (f : α → Bool) : l.any f = l'.any f := by
 rw [Bool.eq_iff_iff, List.any_eq_true, List.any_eq_true]
 exact ⟨fun ⟨q, h1, h2⟩ => ⟨q, (h q).1 h1, h2⟩, fun ⟨q, h1, h2⟩ => ⟨q, (h q).2 h1, h2⟩⟩
theorem gM {n : Nat} {l : List (Int × Int)} (hn : n ≤ 64) (hok : l.any (outB n) = false) : acyI n l = !circleB n l := by
 unfold acyI badB
 rw [hok, Int.toNat_natCast, dK hn hok, decide_eq_false (by omega), decide_eq_false (by omega)]
 rfl
theorem pcoh_len {x : Ex} (hx : x.rel) (h : x.evs.length ≤ 32) : (pcohL x).length ≤ 4096 := by
 have hs : x.evs.length * x.evs.length ≤ 1024 := Nat.mul_le_mul h h
 have h1 : (refPairs x.evs.length (isPo x)).length ≤ _ := xN x.evs.length (isPo x) x.evs.length
 have h2 : (refPairs x.evs.length (isRf x)).length ≤ _ := xN x.evs.length (isRf x) x.evs.length
 have h3 : (refPairs x.evs.length (isCoB x)).length ≤ _ := xN x.evs.length (isCoB x) x.evs.length
 have h4 : (refPairs x.evs.length (isFrB x)).length ≤ _ := xN x.evs.length (isFrB x) x.evs.length
 have h5 := List.length_filter_le (cohG x) (refPairs x.evs.length (isPo x))
 unfold pcohL
 rw [gT hx, gR hx, bM hx.check]
 simp only [List.length_append]
 omega
set_option maxHeartbeats 4000000 in
theorem coherent_p (x : Ex) (hx : x.rel) (hN : x.evs.length ≤ 32) : Pure E.P 37 [jdOV x (rfF x) (coF x) (frF x)] (.bool (!circleB x.evs.length (rcohL x))) := by
 have hA : Pure E.P 59 [.int .i64 x.evs.length, .d (pairsTV (pcohL x))] (.bool (!circleB x.evs.length (rcohL x))) := by
  have hok : (pcohL x).any (outB x.evs.length) = false := (any_congr (nM hx) _).trans (kE x)
  have := lG x.evs.length (pcohL x) (pcoh_len hx hN)
  rwa [gM hx.len hok, circleB_congr (nM hx)] at this
 have f1 : Frozen 1 := ⟨trivial⟩
 have f5 : Frozen 5 := ⟨trivial⟩
 have f6 : Frozen 6 := ⟨trivial⟩
 have f7 : Frozen 7 := ⟨trivial⟩
 have f10 : Frozen 10 := ⟨trivial⟩
 have hpo := po_s x hx.fit
 unfold poF at hpo
 rw [if_pos hx.check] at hpo
 obtain ⟨l1, l2, l3, l4⟩ := mE hx
 unfold pcohL at hA
 generalize hL : refPairs x.evs.length (isPo x) = L at hpo hA
 have hln : L.length ≤ 1024 := by
  rw [← hL]
  exact Nat.le_trans (xN x.evs.length (isPo x) x.evs.length) (Nat.mul_le_mul hN hN)
 refine fnA Tryz.func37 Tryz.ntmps37 ?_
 refine uB (aoR fun _ => ?_)
 refine q34 ?_; refine q12 (uC (uA (uB (aoR fun _ => ?_))))
 refine q51 (uC (uA ?_))
 iterate 2 refine uB ?_
 refine aoR fun _ => ?_; refine q32 ?_; refine q33 ?_
 apply mI; assumption; exact rfl; exact .fn _ _ _; exact rfl; exact hpo; exact yP _; exact rfl
 refine q13 ?_; refine q11 (uC (uA (uG ?_))); rotate_left
 rename_i v3 _
 have hmem : ∀ k, k < L.length → ∃ a b : Nat, a < x.evs.length ∧ b < x.evs.length ∧ (L.getD k default).1 = (a : Int) ∧ (L.getD k default).2 = (b : Int) := fun k hk' => by
  have : L.getD k default ∈ L := by rw [List.getD_eq_getElem?_getD, List.getElem?_eq_getElem hk']; exact List.getElem_mem hk'
  rw [← hL] at this
  obtain ⟨a, b, g1, g2, _, g3⟩ := vH.1 this
  rw [hL] at g3
  exact ⟨a, b, g1, g2, by rw [g3], by rw [g3]⟩
 refine uZ (X := Nat × Stamp × List (Int × Int)) (fun p => tmL [(1, .d (.pt (jdRow x (rfF x) (coF x) (frF x)) 0)), (3, .os 3 p.2.1 2 p.2.2.length), (10, .d (pairsTV L)), (11, .int .i64 L.length), (12, .int .i64 p.1)]) (fun p => stL [(3, (p.2.1, ⟨2, p.2.2.map pairO'⟩))])
  (fun p => p.1 ≤ L.length ∧ p.2.2 = (L.take p.1).filter (cohG x)) (fun p => L.length - p.1) (0, (v3, 0), []) ⟨Nat.zero_le _, by simp⟩ (by repeat' (first | exact vY _ | exact vS _ | refine uP rfl ?_ | refine vN rfl ?_ | (refine vD rfl ?_ ?_; (simp)) | (refine vA rfl ?_ ?_; (simp)) | (refine vG rfl ?_ ?_; (simp)))) leP ?_
 rintro ⟨k, τ, l⟩ ⟨hk', hl⟩
 dsimp only at hk' hl ⊢
 have hlen : l.length ≤ 1024 := by
  rw [hl]
  have h5 := List.length_filter_le (cohG x) (L.take k)
  have h6 : (L.take k).length ≤ L.length := by simp; omega
  omega
 by_cases hlt : k < L.length
 ·obtain ⟨a, b, ha, hb, e1, e2⟩ := hmem k hlt
  have b1 : 0 ≤ (L.getD (k : Int).toNat default).1 ∧ (L.getD (k : Int).toNat default).1 < x.evs.length := by rw [Int.toNat_natCast]; omega
  have b2 : 0 ≤ (L.getD (k : Int).toNat default).2 ∧ (L.getD (k : Int).toNat default).2 < x.evs.length := by rw [Int.toNat_natCast]; omega
  have htk : L.take (k + 1) = L.take k ++ [L.getD k default] := wO L default k hlt
  have e1' : (L.getD ((k : Int)).toNat default).1 = (a : Int) := e1
  have e2' : (L.getD ((k : Int)).toNat default).2 = (b : Int) := e2
  refine uB (aoR fun _ => ?_)
  refine q37 (uC (uA (uB ?_))); refine cnd ?_ ?_
  refine uK fun _ => ?_; try (exfalso; omega)
  refine uF (uA (uB (uG (uB (aoR fun _ => ?_)))))
  refine q17 ?_; refine q33 ?_
  apply vQ; exact rfl
  refine q43 (uC (uA (uB ?_)))
  refine vB (E := E) ?_ (fun _ => ?_); exact rfl
  iterate 2 refine q52 ?_
  refine q50 ?_; refine q52 ?_; refine q50 ?_; refine q30 ?_
  apply wC; exact rfl; exact rfl; exact rfl; exact Nat.le_of_ble_eq_true rfl
  iterate 2 refine q52 ?_
  refine q50 ?_; refine q52 ?_; refine q50 ?_; refine q30 ?_
  apply wC; exact rfl; exact rfl; exact rfl; exact Nat.le_of_ble_eq_true rfl
  iterate 2 (apply mL; exact rfl)
  iterate 2 (apply bB; exact rfl; exact rfl; exact rfl; exact rfl; exact rfl; exact rfl; (first | exact rfl | exact uW (by omega) (0 : Int) | exact uW (by omega) default | exact xE (by omega) (by omega) (0 : Int) | assumption); exact Nat.le_of_ble_eq_true rfl)
  refine vX ?_ ?_; (first | ((try dsimp only [wkeys]); decide +kernel) | exact rfl)
  refine uA (uB (aoR fun _ => ?_))
  refine q28 ?_; refine q16 ?_; refine q44 ?_; refine q11 ?_
  apply spT; exact rfl
  intro hc_; refine q2
  apply spT; exact rfl
  intro hc_; refine q3
  apply spT; exact rfl
  intro hc_; refine q26; refine q4 ?_; refine q11 ?_
  apply spT; exact rfl
  intro hc_; refine q2
  apply spT; exact rfl
  intro hc_; refine q3
  apply spT; exact rfl
  intro hc_; refine q2
  apply spT; exact rfl
  intro hc_; refine q3
  apply spT; exact rfl
  intro hc_; refine q7; refine q4 (uC ?_); refine uA ?_
  refine cnd ?_ ?_
  iterate 2 refine xH ?_
  iterate 2 (refine wR (fun _ => ?_); (try (exfalso; omega)))
  refine uK fun _ => ?_; try (exfalso; omega)
  refine aoR fun _ => ?_; refine q11 ?_; refine q33 ?_
  apply wV; exact rfl; exact rfl; exact rfl; decide; decide; decide; exact rfl; exact rfl
  refine q19 ?_
  apply xU; exact rfl; exact rfl
  refine uC ?_; refine vJ ?_; refine uA (aoR fun _ => ?_)
  refine q36 ?_; refine q11 (uC (uA ?_)); rotate_left
  refine wS (fun hc_ => ?_); (try simp only [nrm] at hc_)
  refine uF ?_; refine vJ ?_; refine uA (aoR fun _ => ?_)
  refine q36 ?_; refine q11 (uC (uA ?_)); rotate_left
  refine uL fun _ => ?_; try (exfalso; omega)
  ·rename_i g1 g2 g3 v10 _
   rw [e1', Int.toNat_natCast] at g1 g3
   rw [e2', Int.toNat_natCast] at g2 g3
   have hg2 : cohG x (L.getD k default) = true := by
    unfold cohG
    rw [e1, e2, Int.toNat_natCast, Int.toNat_natCast]
    rw [decide_eq_false g1, decide_eq_false g2, decide_eq_true g3]; rfl
   exact vI (k + 1, (v10, 4), l ++ [L.getD k default]) ⟨by dsimp only; omega, by dsimp only; rw [hl, htk, List.filter_append, List.filter_cons, if_pos hg2, List.filter_nil]⟩ (by dsimp only; omega) (by repeat' (first | exact vY _ | exact vS _ | refine uP rfl ?_ | refine vN rfl ?_ | (refine vD rfl ?_ ?_; (simp <;> rfl)) | (refine vA rfl ?_ ?_; (simp <;> rfl)) | (refine vG rfl ?_ ?_; (simp <;> rfl)))) (by repeat' (first | exact vY _ | exact vS _ | refine uP rfl ?_ | refine vN rfl ?_ | (refine vD rfl ?_ ?_; (simp <;> rfl)) | (refine vA rfl ?_ ?_; (simp <;> rfl)) | (refine vG rfl ?_ ?_; (simp <;> rfl))))
  ·rw [e1', e2', Int.toNat_natCast, Int.toNat_natCast] at hc_
   have hg2 : cohG x (L.getD k default) = false := by
    unfold cohG
    rw [e1, e2, Int.toNat_natCast, Int.toNat_natCast]
    rcases hc_ with (h9 | h9) | h9
    ·rw [decide_eq_true h9]; simp only [Bool.not_true, Bool.and_false, Bool.false_and]
    ·rw [decide_eq_true h9]; simp only [Bool.not_true, Bool.and_false, Bool.false_and]
    ·rw [decide_eq_false h9]; simp only [Bool.and_false]
   exact vI (k + 1, τ, l) ⟨by dsimp only; omega, by dsimp only; rw [hl, htk, List.filter_append, List.filter_cons, if_neg (by rw [hg2]; decide), List.filter_nil, List.append_nil]⟩ (by dsimp only; omega) leP leP
 ·have hkl : k = L.length := by omega
  have hL' : l = L.filter (cohG x) := by rw [hl, hkl, List.take_length]
  subst hL'
  have f3 : Frozen 3 := ⟨trivial⟩
  have f61 : Frozen 61 := ⟨trivial⟩
  have f62 : Frozen 62 := ⟨trivial⟩
  have hfz := yP
  have hC : Own E.P 60 [.d (.sl 1 [catRow (L.filter (cohG x)), catRow (rfF x), catRow (coF x), catRow (frF x)])] 2 ((L.filter (cohG x) ++ (rfF x ++ (coF x ++ frF x))).map pairO') := by
   have h5 := List.length_filter_le (cohG x) L
   have := concat_o [L.filter (cohG x), rfF x, coF x, frF x] (by simp only [List.flatten_cons, List.flatten_nil, List.length_append, List.length_nil]; omega) (by simp)
   simpa using this
  refine uB (aoR fun _ => ?_)
  refine q37 (uC (uA (uB ?_))); refine cnd ?_ ?_
  refine uK fun _ => ?_; try (exfalso; omega)
  refine uL fun _ => ?_; try (exfalso; omega)
  refine uS ?_
  iterate 2 refine vE ?_
  refine vT ?_; refine uA (uB ?_)
  refine vB (E := E) ?_ (fun _ => ?_); exact rfl
  iterate 2 refine q52 ?_
  refine q50 ?_; refine q59 ?_
  (apply D_mvfz; assumption; exact rfl; exact rfl; (repeat (first | exact FzR.nil | exact FzR.ints _ | exact FzR.d _ | exact hfz _ | exact FzC.map _ | exact FzC.nil | apply FzR.take | apply FzR.drop | apply FzR.app | apply FzR.cons | apply FzC.cons | assumption)); (first | rfl | (first | omega | (simp only [List.length_append, List.length_map, List.length_take, List.length_drop, List.length_cons, List.length_nil, List.length_replicate, uV] <;> omega))))
  refine q52 ?_; refine q50 ?_; refine q52 ?_; refine q50 ?_; refine q52 ?_; refine q50 ?_
  (apply D_buildSliceF; assumption; exact rfl; exact rfl; exact rfl; decide; decide; decide; exact rfl; exact rfl; (repeat (first | exact FzR.nil | exact FzR.ints _ | exact FzR.d _ | exact hfz _ | exact FzC.map _ | exact FzC.nil | apply FzR.take | apply FzR.drop | apply FzR.app | apply FzR.cons | apply FzC.cons | assumption)); (first | rfl | (first | omega | (simp only [List.length_append, List.length_map, List.length_take, List.length_drop, List.length_cons, List.length_nil, List.length_replicate, uV] <;> omega))))
  apply mK; assumption; exact rfl; exact .fn _ _ _; exact rfl; exact hC; exact yP _; exact rfl
  apply xG; exact rfl; exact .fn _ _ _; exact rfl; exact hA
  apply wW; exact rfl
  refine vX ?_ ?_; (first | ((try dsimp only [wkeys]); decide +kernel) | exact rfl)
  refine uA ?_; refine uH ?_; rotate_left
  exact uX rfl rfl
set_option maxHeartbeats 4000000 in
theorem ordered_p (x : Ex) (hx : x.rel) : Pure E.P 38 [jdOV x (rfF x) (coF x) (frF x)] (.bool (!circleB x.evs.length (gloL x))) := by
 have hA : Pure E.P 59 [.int .i64 x.evs.length, .d (pairsTV (gloL x))] (.bool (!circleB x.evs.length (gloL x))) := by
  have := lG x.evs.length (gloL x) (gloL_len hx)
  rwa [gM hx.len (nV x)] at this
 have hR := arrows_p x hx
 have f1 : Frozen 1 := ⟨trivial⟩
 refine fnA Tryz.func38 Tryz.ntmps38 ?_
 refine uB (aoR fun _ => ?_)
 refine q34 ?_; refine q12 (uC (uA (uB ?_)))
 refine vB (E := E) ?_ (fun _ => ?_); exact rfl
 iterate 2 refine q52 ?_
 refine q50 ?_; refine q59 ?_
 apply wC; exact rfl; exact rfl; exact rfl; exact Nat.le_of_ble_eq_true rfl
 apply xG; exact rfl; exact .fn _ _ _; exact rfl; exact hR
 apply xG; exact rfl; exact .fn _ _ _; exact rfl; exact hA
 apply wW; exact rfl
 refine vX ?_ ?_; (first | ((try dsimp only [wkeys]); decide +kernel) | exact rfl)
 refine uA ?_; refine uH ?_; rotate_left
 exact uX rfl rfl
def judB (x : Ex) : Bool × Bool × Bool := (!circleB x.evs.length (rcohL x), !circleB x.evs.length (gloL x), ratB x)
def judT (x : Ex) : (Bool × Bool × Bool) × Int := if checkI x = 0 then (judB x, 0) else ((false, false, false), checkI x)
theorem oG {t u T : Nat} {te : TE} {k : Nat} {τ : Stamp} {row : List OV} {rest : List (List OV)} {s : OV} {tm : Tm} {σ : Store} {R : OV → Store → Prop} (hT : E.tab T = some te) (ha : te.k.isAgg = true) (hs : te.size = row.length) (ht : tm t = some (.lo k τ te.size 0 0)) (hk : σ k = some (τ, ⟨te.size, row :: rest⟩)) (hu : tm u = some s) (hR : R (.tu [.ag row, s]) σ) : DoneN E [.cell t T, .tmp u] R .ret tm σ :=
 ⟨_, ⟨_, _, rfl, ⟨_, _, _, _, _, hT, ha, hs, ht, hk, rfl⟩, _, _, rfl, hu, rfl⟩, hR⟩
section
variable {E : Env} {v j : Nat} {ops : Array Oper} {KD : List Foot → Tm → Store → Prop} {acc : List Foot} {rest : List Oper} {tm : Tm} {σ : Store} {ty : TypeId} {pos : String} {af : Array Edge}
theorem pD {dst : Option Tmp} {x : Operand} {k : Nat} {τ : Stamp} {a i o : Nat} (hx : ev tm x = some (.lo k τ a i o)) (hcont : DO E.P v ops KD (j + 1) rest (tm.putO dst (.lo k τ a i o)) (σ.apply []) (Foot.mk [] (wkeys []) :: acc)) : DO E.P v ops KD j (⟨dst, .nilCheck x, ty, pos, af, none⟩ :: rest) tm σ acc := D_nilCheck rfl hx hcont
end
def vrow (b : Bool × Bool × Bool) (k : Nat) : List OV := [.bool (decide (0 < k) && b.1), .bool (decide (1 < k) && b.2.1), .bool (decide (2 < k) && b.2.2)]
set_option maxHeartbeats 4000000 in
theorem Judge_p (x : Ex) (hx : x.fit) (hN : x.evs.length ≤ 32) : Pure E.P 17 [exOV x] (.tu [judOV (judT x).1, .int .i64 (judT x).2]) := by
 have hk := zA _ hx.1 hx.2
 have f1 : Frozen 1 := ⟨trivial⟩
 have f5 : Frozen 5 := ⟨trivial⟩
 refine FnW.toR ?_
 refine xF (vs := [.cell 2 34, .tmp 3]) Tryz.func17 (by decide) rfl Tryz.ntmps17 (Nat.le_of_ble_eq_true rfl) rfl ?_
 by_cases hc : checkI x = 0
 rotate_left
 ·refine uB (aoR fun _ => ?_)
  refine q34 ?_
  apply vQ; exact rfl
  refine q12 (uC (uA ?_))
  iterate 2 refine uB ?_
  refine aoR fun _ => ?_; refine q33 ?_
  apply uQ; exact rfl; exact .fn _ _ _; exact rfl; exact hk
  refine q12 (uC (uA (uB (aoR fun _ => ?_))))
  refine q11 ?_; refine q44 (uC (uA ?_)); refine cnd ?_ ?_
  refine wR (fun _ => ?_); (try (exfalso; omega))
  refine uB (aoR fun _ => ?_)
  refine q54 ?_; refine q11 ?_; refine q15 ?_; refine q12 (uC (uA ?_)); refine uH ?_; refine uO ?_; rotate_left
  refine wN (fun _ => ?_); (try (exfalso; omega))
  refine oG rfl rfl rfl rfl rfl rfl ?_
  unfold judT
  rw [if_neg hc]
  rfl
 rw [hc] at hk
 have hr : x.rel := ⟨hx, hc⟩
 have hof := of_p x hx
 have hB : judT x = (judB x, 0) := by unfold judT; rw [if_pos hc]
 have h1 : Pure E.P 37 [jdOV x (rfF x) (coF x) (frF x)] (.bool (judB x).1) := coherent_p x hr hN
 have h2 : Pure E.P 38 [jdOV x (rfF x) (coF x) (frF x)] (.bool (judB x).2.1) := ordered_p x hr
 have h3 : Pure E.P 39 [jdOV x (rfF x) (coF x) (frF x)] (.bool (judB x).2.2) := by
  have := atomic_p x hr (rfF x) (coF x) (frF x)
  rwa [atom_eq hr] at this
 rw [hB]
 generalize judB x = B at h1 h2 h3
 refine uB (aoR fun _ => ?_)
 refine q34 ?_
 apply vQ; exact rfl
 refine q12 (uC (uA ?_))
 iterate 2 refine uB ?_
 refine aoR fun _ => ?_; refine q33 ?_
 apply uQ; exact rfl; exact .fn _ _ _; exact rfl; exact hk
 refine q12 (uC (uA (uB (aoR fun _ => ?_))))
 refine q11 ?_; refine q44 (uC (uA ?_)); refine cnd ?_ ?_
 refine wR (fun _ => ?_); (try (exfalso; omega))
 refine wN (fun _ => ?_); (try (exfalso; omega))
 refine uF (uA (uB (aoR fun _ => ?_)))
 refine q33 ?_
 apply uQ; exact rfl; exact .fn _ _ _; exact rfl; exact hof
 apply vQ; exact rfl
 refine q43 (uC (uA (uB (aoR fun _ => ?_))))
 refine q54 ?_
 apply vQ; exact rfl
 refine q15 (uC (uA ?_))
 iterate 2 refine uB ?_
 refine aoR fun _ => ?_; refine q28 ?_; refine q33 ?_
 apply wE; exact rfl; exact rfl
 refine q54 ?_; refine q28 ?_; refine q33 ?_
 apply wE; exact rfl; exact rfl
 refine q54 ?_; refine q28 ?_; refine q33 ?_
 apply wE; exact rfl; exact rfl
 refine q54 ?_
 apply wV; exact rfl; exact rfl; exact rfl; decide; decide; decide; exact rfl; exact rfl
 refine q13 ?_; refine q11 (uC (uA (uG ?_))); rotate_left
 rename_i v2 _ _ _ _ v6 v30
 refine uZ (X := Nat) (fun k => tmL [(2, .lo 2 (v2, 1) 3 0 0), (6, .lo 6 (v6, 1) 3 0 0), (30, .os 30 (v30, 12) 2 3), (31, .int .i64 3), (32, .int .i64 k)])
  (fun k => stL [(2, ((v2, 1), ⟨3, [[.bool false, .bool false, .bool false]]⟩)), (6, ((v6, 1), ⟨3, [vrow B k]⟩)), (30, ((v30, 12), ⟨2, [[.lo 6 (v6, 1) 3 0 0, .fn 37 [jdOV x (rfF x) (coF x) (frF x)] []], [.lo 6 (v6, 1) 3 0 1, .fn 38 [jdOV x (rfF x) (coF x) (frF x)] []], [.lo 6 (v6, 1) 3 0 2, .fn 39 [jdOV x (rfF x) (coF x) (frF x)] []]]⟩))])
  (fun k => k ≤ 3) (fun k => 3 - k) 0 (Nat.zero_le _) leP leP ?_
 intro k hk3
 by_cases h30 : k = 3
 ·subst h30
  refine uB (aoR fun _ => ?_)
  refine q37 (uC (uA (uB ?_))); refine cnd ?_ ?_
  refine uK fun _ => ?_; try (exfalso; omega)
  refine uL fun _ => ?_; try (exfalso; omega)
  refine uS ?_
  iterate 2 refine vE ?_
  refine vT ?_; refine uA (uB (aoR fun _ => ?_))
  refine q14 ?_; refine q15 ?_; refine q12 (uC (uA ?_)); refine uH ?_; rotate_left
  refine oG rfl rfl rfl rfl rfl rfl ?_
  rfl
 have h012 : k = 0 ∨ k = 1 ∨ k = 2 := by omega
 rcases h012 with rfl | rfl | rfl
 ·refine uB (aoR fun _ => ?_)
  refine q37 (uC (uA (uB ?_))); refine cnd ?_ ?_
  refine uK fun _ => ?_; try (exfalso; omega)
  refine uF (uA (uB (uG (uB (aoR fun _ => ?_)))))
  apply zQ; exact rfl; exact rfl; exact rfl; exact rfl; exact rfl; exact rfl; omega
  refine q14 ?_
  apply vQ; exact rfl
  refine q15 (uC (uA ?_))
  refine vB (E := E) ?_ (fun _ => ?_); exact rfl
  refine q56 ?_
  apply wG; exact rfl; exact rfl; exact rfl; exact rfl; (first | exact rfl | exact uW (by omega) (0 : Int) | exact uW (by omega) default | exact hrow _ | assumption); exact rfl
  refine q56 ?_
  apply wG; exact rfl; exact rfl; exact rfl; exact rfl; (first | exact rfl | exact uW (by omega) (0 : Int) | exact uW (by omega) default | exact hrow _ | assumption); exact rfl
  apply xG; exact rfl; exact .fn _ _ _; exact rfl; exact h1
  apply pD; exact rfl
  apply bB; exact rfl; exact rfl; exact rfl; exact rfl; exact rfl; exact rfl; (first | exact rfl | exact uW (by omega) (0 : Int) | exact uW (by omega) default | exact xE (by omega) (by omega) (0 : Int) | assumption); exact Nat.le_of_ble_eq_true rfl
  refine vX ?_ ?_; (first | ((try dsimp only [wkeys]); decide +kernel) | exact rfl)
  refine vJ ?_; refine uA (aoR fun _ => ?_)
  refine q36 ?_; refine q11 (uC (uA ?_)); rotate_left
  refine uL fun _ => ?_; try (exfalso; omega)
  exact vI 1 (by omega) (by omega) leP leP
 ·refine uB (aoR fun _ => ?_)
  refine q37 (uC (uA (uB ?_))); refine cnd ?_ ?_
  refine uK fun _ => ?_; try (exfalso; omega)
  refine uF (uA (uB (uG (uB (aoR fun _ => ?_)))))
  apply zQ; exact rfl; exact rfl; exact rfl; exact rfl; exact rfl; exact rfl; omega
  refine q14 ?_
  apply vQ; exact rfl
  refine q15 (uC (uA ?_))
  refine vB (E := E) ?_ (fun _ => ?_); exact rfl
  refine q56 ?_
  apply wG; exact rfl; exact rfl; exact rfl; exact rfl; (first | exact rfl | exact uW (by omega) (0 : Int) | exact uW (by omega) default | exact hrow _ | assumption); exact rfl
  refine q56 ?_
  apply wG; exact rfl; exact rfl; exact rfl; exact rfl; (first | exact rfl | exact uW (by omega) (0 : Int) | exact uW (by omega) default | exact hrow _ | assumption); exact rfl
  apply xG; exact rfl; exact .fn _ _ _; exact rfl; exact h2
  apply pD; exact rfl
  apply bB; exact rfl; exact rfl; exact rfl; exact rfl; exact rfl; exact rfl; (first | exact rfl | exact uW (by omega) (0 : Int) | exact uW (by omega) default | exact xE (by omega) (by omega) (0 : Int) | assumption); exact Nat.le_of_ble_eq_true rfl
  refine vX ?_ ?_; (first | ((try dsimp only [wkeys]); decide +kernel) | exact rfl)
  refine vJ ?_; refine uA (aoR fun _ => ?_)
  refine q36 ?_; refine q11 (uC (uA ?_)); rotate_left
  refine uL fun _ => ?_; try (exfalso; omega)
  exact vI 2 (by omega) (by omega) leP leP
 ·refine uB (aoR fun _ => ?_)
  refine q37 (uC (uA (uB ?_))); refine cnd ?_ ?_
  refine uK fun _ => ?_; try (exfalso; omega)
  refine uF (uA (uB (uG (uB (aoR fun _ => ?_)))))
  apply zQ; exact rfl; exact rfl; exact rfl; exact rfl; exact rfl; exact rfl; omega
  refine q14 ?_
  apply vQ; exact rfl
  refine q15 (uC (uA ?_))
  refine vB (E := E) ?_ (fun _ => ?_); exact rfl
  refine q56 ?_
  apply wG; exact rfl; exact rfl; exact rfl; exact rfl; (first | exact rfl | exact uW (by omega) (0 : Int) | exact uW (by omega) default | exact hrow _ | assumption); exact rfl
  refine q56 ?_
  apply wG; exact rfl; exact rfl; exact rfl; exact rfl; (first | exact rfl | exact uW (by omega) (0 : Int) | exact uW (by omega) default | exact hrow _ | assumption); exact rfl
  apply xG; exact rfl; exact .fn _ _ _; exact rfl; exact h3
  apply pD; exact rfl
  apply bB; exact rfl; exact rfl; exact rfl; exact rfl; exact rfl; exact rfl; (first | exact rfl | exact uW (by omega) (0 : Int) | exact uW (by omega) default | exact xE (by omega) (by omega) (0 : Int) | assumption); exact Nat.le_of_ble_eq_true rfl
  refine vX ?_ ?_; (first | ((try dsimp only [wkeys]); decide +kernel) | exact rfl)
  refine vJ ?_; refine uA (aoR fun _ => ?_)
  refine q36 ?_; refine q11 (uC (uA ?_)); rotate_left
  refine uL fun _ => ?_; try (exfalso; omega)
  exact vI 3 (by omega) (by omega) leP leP
def allowB (x : Ex) : Bool := (judB x).1 && (judB x).2.1 && (judB x).2.2
def allowT (x : Ex) : Bool × Int := if checkI x = 0 then (allowB x, 0) else (false, checkI x)
theorem allow_eq (x : Ex) : eqV (judT x).1 (true, true, true) = (allowT x).1 ∧ (judT x).2 = (allowT x).2 := by
 unfold judT allowT
 by_cases hc : checkI x = 0
 ·rw [if_pos hc, if_pos hc]
  refine ⟨?_, rfl⟩
  unfold eqV allowB
  generalize judB x = B
  obtain ⟨a, b, c⟩ := B
  cases a <;> cases b <;> cases c <;> rfl
 ·rw [if_neg hc, if_neg hc]
  exact ⟨rfl, rfl⟩
set_option maxHeartbeats 4000000 in
theorem fW (x : Ex) (hx : x.fit) (hN : x.evs.length ≤ 32) : Pure E.P 15 [exOV x] (.tu [.bool (allowT x).1, .int .i64 (allowT x).2]) := by
 have hJ := Judge_p x hx hN
 obtain ⟨e1, e2⟩ := allow_eq x
 rw [← e1, ← e2]
 have f1 : Frozen 1 := ⟨trivial⟩
 refine FnW.toR ?_
 refine xF (vs := [.tmp 2, .tmp 3]) Tryz.func15 (by decide) rfl Tryz.ntmps15 (Nat.le_of_ble_eq_true rfl) rfl ?_
 refine uB (aoR fun _ => ?_)
 refine q34 ?_
 iterate 2 refine q12 ?_
 refine uC (uA (uB (aoR fun _ => ?_)))
 refine q33 ?_
 apply uQ; exact rfl; exact .fn _ _ _; exact rfl; exact hJ
 refine q11 ?_
 iterate 2 (apply xK; exact rfl; exact rfl)
 apply vQ; exact rfl
 refine q15 ?_; refine q12 (uC (uA (uB (aoR fun _ => ?_))))
 refine q14 ?_; refine q54 ?_
 apply S_eqlV (judT x).1 (true, true, true); exact rfl; exact rfl
 refine q11 ?_
 iterate 2 refine q12 ?_
 refine uC (uA ?_); refine uH ?_; rotate_left
 exact bC rfl rfl rfl
def arrT (x : Ex) : List (Int × Int) × Int := if checkI x = 0 then (gloL x, 0) else ([], checkI x)
set_option maxRecDepth 100000
theorem dJ (a : Int) (l : List Int) (k : Nat) (h : k < l.length) : addIn a (l.drop k) = if l.getD k 0 < a then l.getD k 0 :: addIn a (l.drop (k + 1)) else if l.getD k 0 = a then l.drop k else a :: l.drop k := by
 have e : l.drop k = l.getD k 0 :: l.drop (k + 1) := by
  rw [List.drop_eq_getElem_cons h, List.getD_eq_getElem?_getD, List.getElem?_eq_getElem h]; rfl
 rw [e, addIn]
theorem cD {α : Type} (l : List α) (d : α) (k : Nat) (h : k < l.length) : l.take (k + 1) = l.take k ++ [l.getD k d] := by
 rw [List.take_succ_eq_append_getElem h, List.getD_eq_getElem?_getD, List.getElem?_eq_getElem h]; rfl
theorem aY (es : List Ev) (i : Nat) (h : i < es.length) : addrsTo (es.take (i + 1)) = if (es.getD i default).kind = 4 then addrsTo (es.take i) else addIn (es.getD i default).addr (addrsTo (es.take i)) := by
 rw [cD es default i h, eU]
theorem addrsTo_take_len (es : List Ev) (i : Nat) : (addrsTo (es.take i)).length ≤ i := Nat.le_trans (yD _) (by simp; omega)
theorem aF (f : Int → List OV) (l : List Int) (k : Nat) (a : Int) : [] ++ ((l.map f).drop 0).take ((k : Int).toNat - 0) ++ [f a] ++ ((l.map f).drop (k : Int).toNat).take (l.length - (k : Int).toNat) = (l.take k ++ a :: l.drop k).map f := by
 simp [List.take_of_length_le]
set_option maxHeartbeats 4000000 in
theorem raddrs_p (x : Ex) (hx : x.evs.length ≤ 65536) :
  Own E.P 28 [exOV x] 1 ((addrsTo x.evs).map (cellO .u32)) := by
 refine fnA Tryz.func28 Tryz.ntmps28 ?_
 refine uB (aoR fun _ => ?_)
 refine q40 ?_; refine q51 (uC (uA (uB (aoR fun _ => ?_))))
 refine q51 (uC (uA ?_))
 iterate 2 refine uB ?_
 refine aoR fun _ => ?_; refine q12 (uC (uA (uG ?_)))
 rotate_left
 rename_i v1 v3 v4
 refine uZ (X := Nat × Stamp × List Int) (fun p => tmL [(1, .lo 1 (v1, 0) 3 0 0), (3, .os 3 p.2.1 1 p.2.2.length), (4, .int .i64 p.1)]) (fun p => stL [(1, ((v1, 0), ⟨3, [(exOV x).cells]⟩)), (3, (p.2.1, ⟨1, p.2.2.map (cellO .u32)⟩))])
  (fun p => p.1 ≤ x.evs.length ∧ p.2.2 = addrsTo (x.evs.take p.1)) (fun p => x.evs.length - p.1) (0, (v3, 0), []) ⟨Nat.zero_le _, rfl⟩ leP leP ?_
 rintro ⟨i, τ, l⟩ ⟨hi, hl⟩
 dsimp only at hi hl ⊢
 have hlen : l.length ≤ 65536 := by rw [hl]; exact Nat.le_trans (addrsTo_take_len _ _) (by omega)
 iterate 2 refine uB ?_
 refine aoR fun _ => ?_; refine q11 ?_; refine q28 ?_; refine q16 ?_; refine q13 ?_; refine q37 (uC (uA ?_))
 refine cnd ?_ ?_
 refine uK fun _ => ?_; try (exfalso; omega)
 refine uF (uA (uB (uG ?_)))
 iterate 2 refine uB ?_
 refine aoR fun _ => ?_; refine q28 ?_; refine q16 ?_; refine q11 ?_; refine q17 ?_; refine q32 ?_; refine q23 ?_; refine q46 (uC (uA ?_))
 refine cnd ?_ ?_
 refine uK fun _ => ?_; try (exfalso; omega)
 refine uS ?_; refine vE ?_; refine vT ?_; refine uA (aoR fun _ => ?_)
 refine q11 ?_; refine q36 ?_; refine q12 (uC (uA ?_)); rotate_left
 refine uL fun _ => ?_; try (exfalso; omega)
 refine uF (uA (uB (aoR fun _ => ?_)))
 refine q28 ?_; refine q16 ?_; refine q11 ?_; refine q17 ?_; refine q32 ?_; refine q23 ?_; refine q12 (uC (uA (uB (aoR fun _ => ?_))))
 refine q12 (uC (uA (uB (uG ?_)))); rotate_left
 refine uL fun _ => ?_; try (exfalso; omega)
 refine uS ?_
 iterate 2 refine vE ?_
 refine vT ?_; refine uA (uB (aoR fun _ => ?_))
 refine q11 ?_
 apply xU; exact rfl; exact rfl
 refine uC (uA ?_); refine uH ?_; rotate_left
 ·refine vI (i + 1, τ, l) ⟨by dsimp only; omega, ?_⟩ (by dsimp only; omega) leP leP
  have hk := aY x.evs i (by omega)
  rename_i h1 _
  rw [Int.toNat_natCast] at h1
  rw [hk, if_pos h1]; exact hl
 ·rename_i h1 w1 w2
  rw [Int.toNat_natCast] at h1
  refine uZ (X := Nat) (fun k => tmL [(1, .lo 1 (v1, 0) 3 0 0), (3, .os 3 τ 1 l.length), (4, .int .i64 i), (5, .int .u32 (x.evs.getD i default).addr), (6, .int .i64 k)]) (fun _ => stL [(1, ((v1, 0), ⟨3, [(exOV x).cells]⟩)), (3, (τ, ⟨1, l.map (cellO .u32)⟩))])
   (fun k => k ≤ l.length ∧ addIn (x.evs.getD i default).addr l = l.take k ++ addIn (x.evs.getD i default).addr (l.drop k)) (fun k => l.length - k) 0 ⟨Nat.zero_le _, rfl⟩ leP leP ?_
  intro k hk
  obtain ⟨hk, ht⟩ := hk
  iterate 2 refine uB ?_
  refine aoR fun _ => ?_
  iterate 2 refine q11 ?_
  refine q13 ?_; refine q37 ?_; refine q11 ?_
  apply spT; exact rfl
  intro hc_; refine q1
  apply spT; exact rfl
  intro hc_; refine q1
  apply spT; exact rfl
  intro hc_
  have hp_ := hc_; try simp only [nrm] at hp_
  refine q45
  apply spT; exact rfl
  intro hc_
  have hp_ := hc_; try simp only [nrm] at hp_
  refine q49
  apply spT; exact rfl
  intro hc_; refine q1
  apply spT; exact rfl
  intro hc_; refine q22; refine q4 (uC ?_); refine uA ?_
  refine cnd ?_ ?_; refine xH ?_
  iterate 2 refine uK fun _ => ?_; try (exfalso; omega)
  refine uF (uA (uG (aoR fun _ => ?_)))
  refine q11 ?_; refine q36 ?_; refine q12 (uC ?_); refine vJ ?_; refine uA ?_; rotate_left
  refine wS (fun hc_ => ?_); (try simp only [nrm] at hc_)
  refine uS ?_
  iterate 2 refine vE ?_
  refine vT ?_; refine uA ?_
  iterate 2 refine uB ?_
  refine aoR fun _ => ?_
  iterate 2 refine q11 ?_
  refine q13 ?_; refine q37 ?_; refine q11 ?_
  apply spT; exact rfl
  intro hc_; refine q1
  apply spT; exact rfl
  intro hc_; refine q1
  apply spT; exact rfl
  intro hc_
  have hp_ := hc_; try simp only [nrm] at hp_
  refine q45
  apply spT; exact rfl
  intro hc_
  have hp_ := hc_; try simp only [nrm] at hp_
  refine q49
  apply spT; exact rfl
  intro hc_; refine q1
  apply spT; exact rfl
  intro hc_; refine q7; refine q4 (uC ?_); refine uA ?_
  refine cnd ?_ ?_; refine xH ?_
  iterate 2 refine uK fun _ => ?_; try (exfalso; omega)
  refine uS ?_; refine vE ?_; refine vT ?_; refine uA (aoR fun _ => ?_)
  refine q11 ?_; refine q36 ?_; refine q12 (uC (uA ?_)); rotate_left
  refine wS (fun hc_ => ?_); (try simp only [nrm] at hc_)
  refine uF (uA (uB (aoR fun _ => ?_)))
  iterate 2 refine q11 ?_
  (apply jN; exact rfl; exact rfl; exact rfl; exact rfl; exact rfl; (first | exact rfl | exact ⟨_, _, rfl, by omega, rfl⟩); (first | exact rfl | exact ⟨_, _, rfl, by omega, rfl⟩); omega; omega)
  refine q19 ?_; refine q11 ?_
  apply wV; exact rfl; exact rfl; exact rfl; decide; decide; decide; exact rfl; exact rfl
  refine q19 ?_
  apply xU; exact rfl; exact rfl
  refine uC (uA (aoR fun _ => ?_))
  iterate 3 refine q11 ?_
  (apply jN; exact rfl; exact rfl; exact rfl; exact rfl; exact rfl; (first | exact rfl | exact ⟨_, _, rfl, by omega, rfl⟩); (first | exact rfl | exact ⟨_, _, rfl, by omega, rfl⟩); omega; omega)
  refine q19 ?_
  apply xU; exact rfl; exact rfl
  refine uC ?_; refine vJ ?_; refine uA (aoR fun _ => ?_)
  refine q11 ?_; refine q36 ?_; refine q12 (uC (uA ?_)); rotate_left
  ·rename_i h2 h3 _
   rw [Int.toNat_natCast] at h3
   refine vI (k + 1) ⟨by omega, ?_⟩ (by omega) leP leP
   rw [ht, dJ _ l k (by omega), if_pos h3, cD l 0 k (by omega)]
   simp
  ·rename_i _ h2 h3 _
   have h0 := hc_
   simp only [Int.toNat_natCast] at h3 h0
   refine vI (i + 1, τ, l) ⟨by dsimp only; omega, ?_⟩ (by dsimp only; omega) leP leP
   have hk' := aY x.evs i (by omega)
   rw [if_neg h1, ← hl, ht, dJ _ l k (by omega), if_neg (by omega), if_pos h3, List.take_append_drop] at hk'
   exact hk'.symm
  ·rename_i h0 _ w3 w4 w5
   have h3 := hc_
   simp only [Int.toNat_natCast] at h3 h0
   have hD : addIn (x.evs.getD i default).addr l = l.take k ++ (x.evs.getD i default).addr :: l.drop k := by
    rw [ht]
    by_cases hkl : k = l.length
    ·subst hkl; simp [addIn]
    ·rw [dJ _ l k (by omega), if_neg (by omega), if_neg (by omega)]
   have hk' := aY x.evs i (by omega)
   rw [if_neg h1, ← hl] at hk'
   refine vI (i + 1, (w4, 5), addIn (x.evs.getD i default).addr l) ⟨by dsimp only; omega, hk'.symm⟩ (by dsimp only; omega) (by repeat' (first | exact vY _ | exact vS _ | refine uP rfl ?_ | refine vN rfl ?_ | (refine vD rfl ?_ ?_; (first | (dsimp only; rw [hD]; (first | omega | (simp only [List.length_append, List.length_map, List.length_take, List.length_drop, List.length_cons, List.length_nil, List.length_replicate, uV] <;> omega))) | (dsimp only; rw [hD]; exact aF _ l k _))) | (refine vA rfl ?_ ?_; (first | (dsimp only; rw [hD]; (first | omega | (simp only [List.length_append, List.length_map, List.length_take, List.length_drop, List.length_cons, List.length_nil, List.length_replicate, uV] <;> omega))) | (dsimp only; rw [hD]; exact aF _ l k _))) | (refine vG rfl ?_ ?_; (first | (dsimp only; rw [hD]; (first | omega | (simp only [List.length_append, List.length_map, List.length_take, List.length_drop, List.length_cons, List.length_nil, List.length_replicate, uV] <;> omega))) | (dsimp only; rw [hD]; exact aF _ l k _))))) (by repeat' (first | exact vY _ | exact vS _ | refine uP rfl ?_ | refine vN rfl ?_ | (refine vD rfl ?_ ?_; (first | (dsimp only; rw [hD]; (first | omega | (simp only [List.length_append, List.length_map, List.length_take, List.length_drop, List.length_cons, List.length_nil, List.length_replicate, uV] <;> omega))) | (dsimp only; rw [hD]; exact aF _ l k _))) | (refine vA rfl ?_ ?_; (first | (dsimp only; rw [hD]; (first | omega | (simp only [List.length_append, List.length_map, List.length_take, List.length_drop, List.length_cons, List.length_nil, List.length_replicate, uV] <;> omega))) | (dsimp only; rw [hD]; exact aF _ l k _))) | (refine vG rfl ?_ ?_; (first | (dsimp only; rw [hD]; (first | omega | (simp only [List.length_append, List.length_map, List.length_take, List.length_drop, List.length_cons, List.length_nil, List.length_replicate, uV] <;> omega))) | (dsimp only; rw [hD]; exact aF _ l k _)))))
 ·have e : i = x.evs.length := by omega
  rw [e, List.take_length] at hl
  refine wY rfl rfl ?_ ?_
  ·rw [hl]
  ·simp
set_option maxRecDepth 100000
def Ev.lens (e : Ev) : Nat := e.addrs.length + e.datas.length + e.ctrls.length
def sumE (es : List Ev) (k : Nat) : Nat := ((es.take k).map Ev.lens).sum
def sumR (rows : List (Sl × List Int)) (k : Nat) : Nat := ((rows.take k).map fun r => r.2.length).sum
def wideB8 (x : Ex) : Bool := decide (20 < x.evs.length) || decide (200 < x.from_.length) || decide (200 < x.order.length) || decide (400 < x.from_.length + sumR x.order x.order.length) || decide (400 < x.from_.length + sumR x.order x.order.length + sumE x.evs x.evs.length)
theorem jT (es : List Ev) (k : Nat) (h : k < es.length) : sumE es (k + 1) = sumE es k + (es.getD k default).lens := by
 unfold sumE; rw [cD es default k h]; simp
theorem eY (rows : List (Sl × List Int)) (k : Nat) (h : k < rows.length) : sumR rows (k + 1) = sumR rows k + (rows.getD k default).2.length := by
 unfold sumR; rw [cD rows default k h]; simp
theorem fX (l : List Nat) (k : Nat) : (l.take k).sum ≤ l.sum := by
 have h := congrArg List.sum (List.take_append_drop k l)
 rw [List.sum_append] at h
 omega
theorem sumE_le (es : List Ev) (k : Nat) : sumE es k ≤ sumE es es.length := by
 unfold sumE
 rw [List.take_length, List.map_take]; exact fX _ _
theorem pH (rows : List (Sl × List Int)) (k : Nat) : sumR rows k ≤ sumR rows rows.length := by
 unfold sumR
 rw [List.take_length, List.map_take]; exact fX _ _
theorem wide8_true1 {x : Ex} (h : 20 < x.evs.length ∨ 200 < x.from_.length ∨ 200 < x.order.length) : true = wideB8 x := by
 unfold wideB8
 rcases h with h | h | h <;> simp [h]
theorem wide8_true2 {x : Ex} {k : Nat} (h : 400 < x.from_.length + sumR x.order k) : true = wideB8 x := by
 have := pH x.order k
 unfold wideB8
 have h : 400 < x.from_.length + sumR x.order x.order.length := by omega
 simp [h]
theorem wide8_true3 {x : Ex} {k : Nat} (h : 400 < x.from_.length + sumR x.order x.order.length + sumE x.evs k) : true = wideB8 x := by
 have := sumE_le x.evs k
 unfold wideB8
 have h : 400 < x.from_.length + sumR x.order x.order.length + sumE x.evs x.evs.length := by omega
 simp [h]
theorem Ex.ok.ev {x : Ex} (h : x.ok) (i : Nat) : (x.evs.getD i default).addrs.length ≤ 1152921504606846976 ∧ (x.evs.getD i default).datas.length ≤ 1152921504606846976 ∧ (x.evs.getD i default).ctrls.length ≤ 1152921504606846976 := by
 rcases Nat.lt_or_ge i x.evs.length with hh | hh
 ·rw [List.getD_eq_getElem?_getD, List.getElem?_eq_getElem hh]
  have := h.2.1 _ (List.getElem_mem hh)
  exact ⟨this.2.1, this.2.2.1, this.2.2.2.1⟩
 ·rw [List.getD_eq_getElem?_getD, List.getElem?_eq_none hh]
  decide
theorem Ex.ok.row {x : Ex} (h : x.ok) (i : Nat) : (x.order.getD i default).2.length ≤ 1152921504606846976 := by
 rcases Nat.lt_or_ge i x.order.length with hh | hh
 ·rw [List.getD_eq_getElem?_getD, List.getElem?_eq_getElem hh]
  exact h.2.2.2.2 _ (List.getElem_mem hh)
 ·rw [List.getD_eq_getElem?_getD, List.getElem?_eq_none hh]
  decide
theorem wide8_row {x : Ex} (h : wideB8 x = false) : ∀ r ∈ x.order, r.2.length ≤ 400 := fun r hr => by
 unfold wideB8 at h
 simp only [Bool.or_eq_false_iff, decide_eq_false_iff_not] at h
 obtain ⟨i, hi, rfl⟩ := List.mem_iff_getElem.1 hr
 have h1 := eY x.order i hi
 have h2 := pH x.order (i + 1)
 rw [List.getD_eq_getElem?_getD, List.getElem?_eq_getElem hi] at h1
 simp only [Option.getD_some] at h1
 omega
set_option maxHeartbeats 4000000 in
theorem wide8_p (x : Ex) (hok : x.ok) : Pure E.P 11 [exOV x] (.bool (wideB8 x)) := by
 have hev := hok.ev
 have hrw := hok.row
 obtain ⟨hx, _, hf, ho, _⟩ := hok
 refine fnA Tryz.func11 Tryz.ntmps11 ?_
 refine uB (aoR fun _ => ?_)
 refine q40 ?_; refine q12 (uC (uA (uB (aoR fun _ => ?_))))
 refine q28 ?_; refine q16 ?_; refine q13 ?_; refine q12 (uC (uA ?_))
 iterate 2 refine uB ?_
 refine aoR fun _ => ?_; refine q28 ?_; refine q16 ?_; refine q13 ?_
 apply oO; exact rfl; exact rfl
 refine q11 ?_
 apply spF; exact rfl
 intro hc_; refine q1
 apply spF; exact rfl
 intro hc_; refine q35; refine q0 ?_; refine q11 ?_
 apply spF; exact rfl
 intro hc_; refine q2
 apply spF; exact rfl
 intro hc_; refine q3
 apply spF; exact rfl
 intro hc_; refine q18
 apply spF; exact rfl
 intro hc_; refine q35; refine q0 (uC ?_); refine uA ?_
 refine cnd ?_ ?_
 refine wZ (fun hc_ => ?_); (try simp only [nrm] at hc_)
 refine uB (aoR fun _ => ?_)
 refine q12 (uC (uA ?_)); refine uH ?_; refine uO ?_; rotate_left
 iterate 2 refine xC ?_
 iterate 3 refine uL fun _ => ?_; try (exfalso; omega)
 refine uF (uA ?_)
 iterate 2 refine uB ?_
 refine aoR fun _ => ?_; refine q12 (uC (uA (uG ?_)))
 rotate_left
 ·exact uX rfl (wide8_true1 (by omega))
 rename_i v1 _ _ g1 g2 g3 _
 refine uZ (X := Nat) (fun k => tmL [(1, .lo 1 (v1, 0) 3 0 0), (3, .int .i64 ((x.from_.length + sumR x.order k : Nat) : Int)), (4, .int .i64 k)]) (fun _ => stL [(1, ((v1, 0), ⟨3, [(exOV x).cells]⟩))])
  (fun k => k ≤ x.order.length ∧ x.from_.length + sumR x.order k ≤ 400) (fun k => x.order.length - k) 0 ⟨Nat.zero_le _, by simp [sumR]; omega⟩ (by repeat' (first | exact vY _ | exact vS _ | refine uP rfl ?_ | refine vN rfl ?_ | (refine vD rfl ?_ ?_; (simp [sumR])) | (refine vA rfl ?_ ?_; (simp [sumR])) | (refine vG rfl ?_ ?_; (simp [sumR])))) leP ?_
 rintro k ⟨hk, hn⟩
 have hr := hrw (k : Int).toNat
 iterate 2 refine uB ?_
 refine aoR fun _ => ?_; refine q11 ?_; refine q28 ?_; refine q16 ?_; refine q13 ?_; refine q37 (uC (uA ?_))
 refine cnd ?_ ?_
 refine uK fun _ => ?_; try (exfalso; omega)
 refine uF (uA (uB (uG (uB (aoR fun _ => ?_)))))
 refine q11 ?_; refine q28 ?_; refine q16 ?_; refine q11 ?_; refine q17 ?_; refine q23 ?_; refine q13 ?_; refine q36 ?_; refine q12 (uC (uA (uB (aoR fun _ => ?_))))
 refine q11 ?_
 apply oO; exact rfl; exact rfl
 refine uC (uA ?_); refine cnd ?_ ?_
 refine uK fun _ => ?_; try (exfalso; omega)
 refine uB (aoR fun _ => ?_)
 refine q12 (uC (uA ?_)); refine uH ?_; refine vL ?_
 iterate 2 refine uO ?_
 refine vL ?_; refine uO ?_; rotate_left
 refine uL fun _ => ?_; try (exfalso; omega)
 refine uF ?_; refine vJ ?_; refine uA (aoR fun _ => ?_)
 refine q11 ?_; refine q36 ?_; refine q12 (uC (uA ?_)); rotate_left
 refine uL fun _ => ?_; try (exfalso; omega)
 refine uS ?_
 iterate 2 refine vE ?_
 refine vT ?_; refine uA ?_
 iterate 2 refine uB ?_
 refine aoR fun _ => ?_; refine q12 (uC (uA (uG ?_)))
 rotate_left
 ·refine uX rfl (wide8_true2 (k := k + 1) ?_)
  rename_i h _
  rw [eY _ _ (by omega)]
  rw [Int.toNat_natCast] at h
  omega
 ·have hs := eY x.order k (by omega)
  rename_i h _
  rw [Int.toNat_natCast] at h
  refine vI (k + 1) ⟨by omega, by omega⟩ (by omega) (by repeat' (first | exact vY _ | exact vS _ | refine uP rfl ?_ | refine vN rfl ?_ | (refine vD rfl ?_ ?_; (rw [hs, Int.toNat_natCast]; omega)) | (refine vA rfl ?_ ?_; (rw [hs, Int.toNat_natCast]; omega)) | (refine vG rfl ?_ ?_; (rw [hs, Int.toNat_natCast]; omega)))) leP
 have e : k = x.order.length := by omega
 subst e
 refine uZ (X := Nat) (fun i => tmL [(1, .lo 1 (v1, 0) 3 0 0), (3, .int .i64 ((x.from_.length + sumR x.order x.order.length + sumE x.evs i : Nat) : Int)), (5, .int .i64 i)]) (fun _ => stL [(1, ((v1, 0), ⟨3, [(exOV x).cells]⟩))])
  (fun i => i ≤ x.evs.length ∧ x.from_.length + sumR x.order x.order.length + sumE x.evs i ≤ 400) (fun i => x.evs.length - i) 0 ⟨Nat.zero_le _, by simpa [sumE] using hn⟩ (by repeat' (first | exact vY _ | exact vS _ | refine uP rfl ?_ | refine vN rfl ?_ | (refine vD rfl ?_ ?_; (simp [sumE])) | (refine vA rfl ?_ ?_; (simp [sumE])) | (refine vG rfl ?_ ?_; (simp [sumE])))) leP ?_
 rintro i ⟨hi, hm⟩
 have he := hev (i : Int).toNat
 iterate 2 refine uB ?_
 refine aoR fun _ => ?_; refine q11 ?_; refine q28 ?_; refine q16 ?_; refine q13 ?_; refine q37 (uC (uA ?_))
 refine cnd ?_ ?_
 refine uK fun _ => ?_; try (exfalso; omega)
 refine uF (uA (uB (uG (uB ?_))))
 refine vB (E := E) ?_ (fun _ => ?_); exact rfl
 refine q38 ?_; refine q56 ?_
 apply wG; exact rfl; exact rfl; exact rfl; exact rfl; (first | exact rfl | exact uW (by omega) (0 : Int) | exact uW (by omega) default | exact hrow _ | assumption); exact rfl
 refine q38 ?_; refine q30 ?_; refine q52 ?_; refine q50 ?_; refine q59 ?_
 apply mM; exact rfl; exact rfl; omega
 refine q56 ?_
 apply wG; exact rfl; exact rfl; exact rfl; exact rfl; (first | exact rfl | exact uW (by omega) (0 : Int) | exact uW (by omega) default | exact hrow _ | assumption); exact rfl
 refine q38 ?_; refine q30 ?_; refine q52 ?_; refine q50 ?_; refine q59 ?_
 apply mM; exact rfl; exact rfl; omega
 refine q56 ?_
 apply wG; exact rfl; exact rfl; exact rfl; exact rfl; (first | exact rfl | exact uW (by omega) (0 : Int) | exact uW (by omega) default | exact hrow _ | assumption); exact rfl
 refine q38 ?_; refine q30 ?_; refine q52 ?_; refine q50 ?_; refine q59 ?_
 apply mM; exact rfl; exact rfl; omega
 apply wW; exact rfl
 refine vX ?_ ?_; (first | ((try dsimp only [wkeys]); decide +kernel) | exact rfl)
 refine uA (uB (aoR fun _ => ?_))
 refine q11 ?_
 apply oO; exact rfl; exact rfl
 refine uC (uA ?_); refine cnd ?_ ?_
 refine uK fun _ => ?_; try (exfalso; omega)
 refine uB (aoR fun _ => ?_)
 refine q12 (uC (uA ?_)); refine uH ?_; refine vL ?_
 iterate 2 refine uO ?_
 refine vL ?_; refine uO ?_; rotate_left
 refine uL fun _ => ?_; try (exfalso; omega)
 refine uF ?_; refine vJ ?_; refine uA (aoR fun _ => ?_)
 refine q11 ?_; refine q36 ?_; refine q12 (uC (uA ?_)); rotate_left
 refine uL fun _ => ?_; try (exfalso; omega)
 refine uS ?_
 iterate 2 refine vE ?_
 refine vT ?_; refine uA (uB (aoR fun _ => ?_))
 refine q12 (uC (uA ?_)); refine uH ?_; rotate_left
 ·refine uX rfl (wide8_true3 (k := i + 1) ?_)
  rename_i h _
  rw [jT _ _ (by omega)]
  unfold Ev.lens
  rw [Int.toNat_natCast] at h
  omega
 ·have hs := jT x.evs i (by omega)
  unfold Ev.lens at hs
  rename_i h _
  rw [Int.toNat_natCast] at h
  refine vI (i + 1) ⟨by omega, by omega⟩ (by omega) (by repeat' (first | exact vY _ | exact vS _ | refine uP rfl ?_ | refine vN rfl ?_ | (refine vD rfl ?_ ?_; (rw [hs, Int.toNat_natCast]; omega)) | (refine vA rfl ?_ ?_; (rw [hs, Int.toNat_natCast]; omega)) | (refine vG rfl ?_ ?_; (rw [hs, Int.toNat_natCast]; omega)))) leP
 ·have e : i = x.evs.length := by omega
  subst e
  refine uX rfl ?_
  unfold wideB8
  rw [eq_comm]
  simp only [Bool.or_eq_false_iff, decide_eq_false_iff_not]
  omega
set_option maxRecDepth 100000
def ev8 (hart kind val rval : Int) : Ev := ⟨hart, kind, 0, val, rval, false, false, 0, 0, false, ⟨none, 0, 0⟩, ⟨none, 0, 0⟩, ⟨none, 0, 0⟩, [], [], []⟩
def kx8 : Ex := ⟨default, default, default, [ev8 (-1) 5 0 0, ev8 0 2 1 0, ev8 0 1 0 0], [-1, -1, 0], [(default, [0, 1])]⟩
def ky8 : Ex := ⟨default, default, default, [ev8 (-1) 5 0 0, ev8 0 2 1 0, ev8 0 1 0 1], [-1, -1, 1], [(default, [0, 1])]⟩
theorem mW {l : List Int} (h : l.Pairwise fun a b => decide (a ≤ b) = true) : sortI l = l := by
 unfold sortI
 exact List.mergeSort_of_pairwise h
theorem kx8_ok : kx8.fit := by
 refine ⟨⟨by decide, fun e he => ?_, by decide, by decide, by decide⟩, by decide⟩
 simp only [kx8, List.mem_cons, List.not_mem_nil, or_false] at he
 rcases he with rfl | rfl | rfl <;> (unfold Ev.ok Ev.wf ev8; decide)
theorem ky8_ok : ky8.fit := by
 refine ⟨⟨by decide, fun e he => ?_, by decide, by decide, by decide⟩, by decide⟩
 simp only [ky8, List.mem_cons, List.not_mem_nil, or_false] at he
 rcases he with rfl | rfl | rfl <;> (unfold Ev.ok Ev.wf ev8; decide)
theorem kx8_check : checkI kx8 = 0 := by
 have h1 : addrsTo kx8.evs = [0] := by decide
 have h2 : evsTo kx8.evs [0] kx8.evs.length = true := by decide
 have h3 : fromB kx8.evs kx8.from_ = true := by decide
 have h4 : orderB kx8.evs [0] kx8.order = true := by
  unfold orderB rowsTo
  rw [show List.range kx8.order.length = [0] from rfl]
  simp only [List.all_cons, List.all_nil, Bool.and_true]
  have : sortI [0, 1] = [0, 1] := mW (by decide)
  unfold rowOk
  rw [show (kx8.order.getD 0 default).2 = [0, 1] from rfl, this]
  decide
 unfold checkI
 rw [h1, h2, h3, h4]
 rfl
theorem ky8_check : checkI ky8 = 0 := by
 have h1 : addrsTo ky8.evs = [0] := by decide
 have h2 : evsTo ky8.evs [0] ky8.evs.length = true := by decide
 have h3 : fromB ky8.evs ky8.from_ = true := by decide
 have h4 : orderB ky8.evs [0] ky8.order = true := by
  unfold orderB rowsTo
  rw [show List.range ky8.order.length = [0] from rfl]
  simp only [List.all_cons, List.all_nil, Bool.and_true]
  have : sortI [0, 1] = [0, 1] := mW (by decide)
  unfold rowOk
  rw [show (ky8.order.getD 0 default).2 = [0, 1] from rfl, this]
  decide
 unfold checkI
 rw [h1, h2, h3, h4]
 rfl
theorem kx8_not : allowT kx8 = (false, 0) := by
 unfold allowT
 rw [kx8_check, if_pos rfl, show allowB kx8 = false by decide +kernel]
theorem ky8_is : allowT ky8 = (true, 0) := by
 unfold allowT
 rw [ky8_check, if_pos rfl, show allowB ky8 = true by decide +kernel]
set_option maxHeartbeats 4000000 in
theorem known8_p : Pure E.P 14 [] (.bool true) := by
 have hX := fW kx8 kx8_ok (by decide)
 have hY := fW ky8 ky8_ok (by decide)
 rw [kx8_not] at hX
 rw [ky8_is] at hY
 have n7 : NilS 7 := ⟨trivial⟩
 have n8 : NilS 8 := ⟨trivial⟩
 have n9 : NilS 9 := ⟨trivial⟩
 have n20 : NilS 20 := ⟨trivial⟩
 have n21 : NilS 21 := ⟨trivial⟩
 have n22 : NilS 22 := ⟨trivial⟩
 have f10 : Frozen 10 := ⟨trivial⟩
 have f11 : Frozen 11 := ⟨trivial⟩
 have f12 : Frozen 12 := ⟨trivial⟩
 have f13 : Frozen 13 := ⟨trivial⟩
 have f23 : Frozen 23 := ⟨trivial⟩
 have f24 : Frozen 24 := ⟨trivial⟩
 have f25 : Frozen 25 := ⟨trivial⟩
 have f26 : Frozen 26 := ⟨trivial⟩
 refine fnA Tryz.func14 Tryz.ntmps14 ?_
 refine uB (aoR fun _ => ?_)
 refine q12 (uC (uA (uB (aoR fun _ => ?_))))
 iterate 3 (apply oP; assumption; exact rfl; exact rfl; exact rfl; exact rfl; exact rfl; exact rfl)
 iterate 4 (apply cW; assumption; exact rfl; exact rfl; exact rfl; decide; decide; decide; exact rfl; exact rfl; (repeat (first | exact FzR.nil | exact FzR.ints _ | exact FzR.d _ | exact hfz _ | exact FzC.map _ | exact FzC.nil | apply FzR.take | apply FzR.drop | apply FzR.app | apply FzR.cons | apply FzC.cons | assumption)); (first | rfl | (first | omega | (simp only [List.length_append, List.length_map, List.length_take, List.length_drop, List.length_cons, List.length_nil, List.length_replicate, uV] <;> omega))))
 refine q54 ?_
 apply vQ; exact rfl
 refine q15 (uC (uA (uB (aoR fun _ => ?_))))
 refine q14 ?_
 apply uQ; exact rfl; exact .fn _ _ _; exact rfl; (exact hX)
 refine q11 ?_
 iterate 2 (apply xK; exact rfl; exact rfl)
 iterate 2 refine q12 ?_
 refine uC (uA (uB (aoR fun _ => ?_)))
 iterate 3 (apply oP; assumption; exact rfl; exact rfl; exact rfl; exact rfl; exact rfl; exact rfl)
 iterate 4 (apply cW; assumption; exact rfl; exact rfl; exact rfl; decide; decide; decide; exact rfl; exact rfl; (repeat (first | exact FzR.nil | exact FzR.ints _ | exact FzR.d _ | exact hfz _ | exact FzC.map _ | exact FzC.nil | apply FzR.take | apply FzR.drop | apply FzR.app | apply FzR.cons | apply FzC.cons | assumption)); (first | rfl | (first | omega | (simp only [List.length_append, List.length_map, List.length_take, List.length_drop, List.length_cons, List.length_nil, List.length_replicate, uV] <;> omega))))
 refine q54 ?_
 apply vQ; exact rfl
 refine q15 (uC (uA (uB (aoR fun _ => ?_))))
 refine q14 ?_
 apply uQ; exact rfl; exact .fn _ _ _; exact rfl; (exact hY)
 refine q11 ?_
 iterate 2 (apply xK; exact rfl; exact rfl)
 iterate 2 refine q12 ?_
 refine uC (uA (uB (aoR fun _ => ?_)))
 refine q11 ?_
 apply yE; exact rfl
 refine q11 ?_
 apply spT; exact rfl
 intro hc_; refine q1
 apply spT; exact rfl
 intro hc_; refine q7; refine q4 ?_; refine q11 ?_
 apply spT; exact rfl
 intro hc_; refine q1; refine q4 ?_; refine q11 ?_
 apply spT; exact rfl
 intro hc_; refine q1
 apply spT; exact rfl
 intro hc_; refine q7; refine q4 ?_; refine q12 (uC ?_); refine uA ?_; refine uH ?_
 rotate_left
 exact uX rfl rfl
set_option maxRecDepth 100000
set_option maxHeartbeats 4000000 in
theorem iE (x : Ex) (n : Nat) (l : List Int) (hx : x.evs.length ≤ 1152921504606846976) (hn : n < x.evs.length) (hl : l.length ≤ 1152921504606846976) :
  Pure E.P 30 [exOV x, .int .i64 n, .d (ints l)] (.bool (hangsB x.evs n l)) := by
 refine fnA Tryz.func30 Tryz.ntmps30 ?_
 refine uB (aoR fun _ => ?_)
 refine q40 ?_; refine q12 (uC (uA ?_))
 iterate 2 refine uB ?_
 refine aoR fun _ => ?_; refine q12 (uC (uA (uG ?_)))
 rotate_left
 rename_i v0 v1
 refine uZ (X := Nat) (fun k => tmL [(1, .int .i64 n), (2, .d (ints l)), (3, .lo 3 (v0, 0) 3 0 0), (7, .int .i64 k)]) (fun _ => stL [(3, ((v0, 0), ⟨3, [(exOV x).cells]⟩))]) (fun k => k ≤ l.length ∧ hangsTo x.evs n l k = true) (fun k => l.length - k) 0 ⟨Nat.zero_le _, rfl⟩ leP leP ?_
 intro k hk
 obtain ⟨hk, ht⟩ := hk
 iterate 2 refine uB ?_
 refine aoR fun _ => ?_
 iterate 2 refine q11 ?_
 refine q13 ?_; refine q37 (uC (uA ?_)); refine cnd ?_ ?_
 refine uK fun _ => ?_; try (exfalso; omega)
 refine uF (uA (uB (uG (uB (aoR fun _ => ?_)))))
 iterate 2 refine q11 ?_
 refine q17 ?_; refine q23 ?_; refine q12 (uC (uA (uB ?_)))
 refine vB (E := E) ?_ (fun _ => ?_); exact rfl
 refine q38 ?_
 apply oS; exact rfl; exact rfl
 refine q38 ?_
 apply dpF; exact rfl
 intro hc_; refine q1
 apply dpF; exact rfl
 intro hc_; refine q1
 apply dpF; exact rfl
 intro hc_; refine q21; refine q25 ?_; refine q38 ?_
 apply dpF; exact rfl
 intro hc_; refine q1
 apply dpF; exact rfl
 intro hc_; refine q35
 apply dpF; exact rfl
 intro hc_; refine q1
 apply vM; exact rfl; exact rfl
 intro hc_; refine q1
 apply vM; exact rfl; exact rfl
 intro hc_; refine q1
 apply vM; exact rfl; exact rfl
 intro hc_
 have hp_ := hc_; try simp only [nrm] at hp_
 refine q58
 apply vM; exact rfl; exact rfl
 intro hc_
 have hp_ := hc_; try simp only [nrm] at hp_
 refine q5
 apply vM; exact rfl; exact rfl
 intro hc_; refine q6
 apply vM; exact rfl; exact rfl
 intro hc_; refine q1
 apply vM; exact rfl; exact rfl
 intro hc_; refine q21
 apply dpF; exact rfl
 intro hc_; refine q10; refine q25 ?_; refine q38 ?_
 apply dpF; exact rfl
 intro hc_; refine q2
 apply dpF; exact rfl
 intro hc_; refine q3
 apply dpF; exact rfl
 intro hc_; refine q1
 apply dpF; exact rfl
 intro hc_
 have hp_ := hc_; try simp only [nrm] at hp_
 refine q5
 apply dpF; exact rfl
 intro hc_; refine q8
 apply dpF; exact rfl
 intro hc_; refine q6
 apply dpF; exact rfl
 intro hc_; refine q2
 apply dpF; exact rfl
 intro hc_; refine q3
 apply dpF; exact rfl
 intro hc_; refine q1
 apply dpF; exact rfl
 intro hc_
 have hp_ := hc_; try simp only [nrm] at hp_
 refine q5
 apply dpF; exact rfl
 intro hc_; refine q8
 apply dpF; exact rfl
 intro hc_; refine q6
 apply dpF; exact rfl
 intro hc_; refine q26; refine q25 ?_; refine q38 ?_
 apply dpF; exact rfl
 intro hc_; refine q2
 apply dpF; exact rfl
 intro hc_; refine q3
 apply dpF; exact rfl
 intro hc_; refine q1
 apply dpF; exact rfl
 intro hc_
 have hp_ := hc_; try simp only [nrm] at hp_
 refine q5
 apply dpF; exact rfl
 intro hc_; refine q47
 apply dpF; exact rfl
 intro hc_
 have hp_ := hc_; try simp only [nrm] at hp_
 apply vK; exact .plain rfl rfl; exact .fn _ _ _; exact wD; (exact yR _)
 apply dpF; exact rfl
 intro hc_; refine q42; refine q25 ?_
 refine vX ?_ ?_; (first | ((try dsimp only [wkeys]); decide +kernel) | exact rfl)
 refine uA ?_; refine cnd ?_ ?_
 refine wZ (fun hc_ => ?_); (try simp only [nrm] at hc_)
 refine uB (aoR fun _ => ?_)
 refine q12 (uC (uA ?_)); refine uH ?_; refine vL ?_
 iterate 2 refine uO ?_
 refine vL ?_; refine uO ?_; rotate_left
 iterate 4 refine xC ?_
 iterate 2 refine uL fun _ => ?_; try (exfalso; omega)
 refine wS (fun hc_ => ?_); (try simp only [nrm] at hc_)
 refine wN (fun _ => ?_); (try (exfalso; omega))
 refine xS ?_
 refine xB (fun _ => ?_)
 refine uF ?_; refine vJ ?_; refine uA (aoR fun _ => ?_)
 refine q11 ?_; refine q36 ?_; refine q12 (uC (uA ?_)); rotate_left
 refine uL fun _ => ?_; try (exfalso; omega)
 refine uS ?_
 iterate 2 refine vE ?_
 refine vT ?_; refine uA (uB (aoR fun _ => ?_))
 refine q12 (uC (uA ?_)); refine uH ?_; rotate_left
 ·refine uX rfl ?_
  rename_i hc_ _
  refine (wM _ _ _ k (by omega) ?_).symm
  have e1 : ((k : Int) - 1).toNat = k - 1 := by omega
  simp only [Int.toNat_natCast, e1] at hc_
  unfold depOk
  grind
 ·refine round (k + 1) ⟨by omega, ?_⟩ (by omega) leP leP
  rw [aS, ht, Bool.true_and]
  rename_i h1 h2 hc_ h3 h4 h5
  have e1 : ((k : Int) - 1).toNat = k - 1 := by omega
  simp only [Int.toNat_natCast, e1] at *
  unfold depOk
  grind
 ·refine uX rfl ?_
  have : k = l.length := by omega
  subst this
  exact ht.symm
end Go.Proofs.YtnkocjkkefnelaaGreat
