/- Parts. -/
import Derived.Test.YtnkocjkkefnelaaGreatPl3
import Derived.Test.YtnkocjkkefnelaaGreatPl4
import Derived.Test.YtnkocjkkefnelaaGreatPl6
import Derived.Test.YtnkocjkkefnelaaGreatPl10
import Derived.Test.YtnkocjkkefnelaaGreatPl14
import Derived.Test.YtnkocjkkefnelaaGreatPl19
import Derived.Test.YtnkocjkkefnelaaGreatPl20
import Derived.Test.YtnkocjkkefnelaaGreatPl29
import Derived.Test.YtnkocjkkefnelaaGreatPl33
set_option linter.unusedVariables false
set_option linter.unusedSimpArgs false
set_option maxHeartbeats 4000000
set_option maxHeartbeats 4000000
set_option maxRecDepth 100000
namespace Go.Proofs.YtnkocjkkefnelaaGreat
open Go.RowKit Go.Maps
def pcohL (x : Ex) : List (Int × Int) := (refPairs x.evs.length (isPo x)).filter (cohG x) ++ (rfF x ++ (coF x ++ frF x))
theorem pO {x : Ex} (hx : x.rel) (p : Int × Int) : p ∈ pcohL x ↔ p ∈ rcohL x := by
 unfold pcohL rcohL cohL
 rw [jB hx, iZ hx, bQ hx.check]
 simp only [List.mem_append]
 constructor
 ·rintro (h | h | h | h)
  ·exact Or.inr h
  ·exact Or.inl (Or.inl (Or.inl h))
  ·exact Or.inl (Or.inl (Or.inr h))
  ·exact Or.inl (Or.inr h)
 ·rintro (((h | h) | h) | h)
  ·exact Or.inr (Or.inl h)
  ·exact Or.inr (Or.inr (Or.inl h))
  ·exact Or.inr (Or.inr (Or.inr h))
  ·exact Or.inl h
theorem any_congr {α : Type} {l l' : List α} (h : ∀ p, p ∈ l ↔ p ∈ l') (f : α → Bool) : l.any f = l'.any f := by
 rw [Bool.eq_iff_iff, List.any_eq_true, List.any_eq_true]
 exact ⟨fun ⟨q, h1, h2⟩ => ⟨q, (h q).1 h1, h2⟩, fun ⟨q, h1, h2⟩ => ⟨q, (h q).2 h1, h2⟩⟩
theorem iQ {n : Nat} {l : List (Int × Int)} (hn : n ≤ 64) (hok : l.any (outB n) = false) : acyI n l = !circleB n l := by
 unfold acyI badB
 rw [hok, Int.toNat_natCast, eG hn hok, decide_eq_false (by omega), decide_eq_false (by omega)]
 rfl
theorem pcoh_len {x : Ex} (hx : x.rel) (h : x.evs.length ≤ 32) : (pcohL x).length ≤ 4096 := by
 have hs : x.evs.length * x.evs.length ≤ 1024 := Nat.mul_le_mul h h
 have h1 : (refPairs x.evs.length (isPo x)).length ≤ _ := wP x.evs.length (isPo x) x.evs.length
 have h2 : (refPairs x.evs.length (isRf x)).length ≤ _ := wP x.evs.length (isRf x) x.evs.length
 have h3 : (refPairs x.evs.length (isCoB x)).length ≤ _ := wP x.evs.length (isCoB x) x.evs.length
 have h4 : (refPairs x.evs.length (isFrB x)).length ≤ _ := wP x.evs.length (isFrB x) x.evs.length
 have h5 := List.length_filter_le (cohG x) (refPairs x.evs.length (isPo x))
 unfold pcohL
 rw [jB hx, iZ hx, bQ hx.check]
 simp only [List.length_append]
 omega
set_option maxHeartbeats 4000000 in
theorem coherent_p (x : Ex) (hx : x.rel) (hN : x.evs.length ≤ 32) : Pure E.P 37 [jdOV x (rfF x) (coF x) (frF x)] (.bool (!circleB x.evs.length (rcohL x))) := by
 have hA : Pure E.P 59 [.int .i64 x.evs.length, .d (pairsTV (pcohL x))] (.bool (!circleB x.evs.length (rcohL x))) := by
  have hok : (pcohL x).any (outB x.evs.length) = false := (any_congr (pO hx) _).trans (rcohL_out x)
  have := mY x.evs.length (pcohL x) (pcoh_len hx hN)
  rwa [iQ hx.len hok, circleB_congr (pO hx)] at this
 have f1 : Frozen 1 := ⟨trivial⟩
 have f5 : Frozen 5 := ⟨trivial⟩
 have f6 : Frozen 6 := ⟨trivial⟩
 have f7 : Frozen 7 := ⟨trivial⟩
 have f10 : Frozen 10 := ⟨trivial⟩
 have hpo := po_s x hx.fit
 unfold poF at hpo
 rw [if_pos hx.check] at hpo
 obtain ⟨l1, l2, l3, l4⟩ := oB hx
 unfold pcohL at hA
 generalize hL : refPairs x.evs.length (isPo x) = L at hpo hA
 have hln : L.length ≤ 1024 := by
  rw [← hL]
  exact Nat.le_trans (wP x.evs.length (isPo x) x.evs.length) (Nat.mul_le_mul hN hN)
 refine fnA Tryz.func37 Tryz.ntmps37 ?_
 refine run ?_; refine aoR fun _ => ?_
 refine run ?_; refine aoR fun _ => ?_
 refine run ?_; refine aoR fun _ => ?_
 refine run ?_
 apply oI; assumption; exact rfl; exact .fn _ _ _; exact rfl; exact hpo; exact yC _; exact rfl
 refine run ?_; rotate_left
 rename_i v3 _
 have hmem : ∀ k, k < L.length → ∃ a b : Nat, a < x.evs.length ∧ b < x.evs.length ∧ (L.getD k default).1 = (a : Int) ∧ (L.getD k default).2 = (b : Int) := fun k hk' => by
  have : L.getD k default ∈ L := by rw [List.getD_eq_getElem?_getD, List.getElem?_eq_getElem hk']; exact List.getElem_mem hk'
  rw [← hL] at this
  obtain ⟨a, b, g1, g2, _, g3⟩ := uX.1 this
  rw [hL] at g3
  exact ⟨a, b, g1, g2, by rw [g3], by rw [g3]⟩
 refine vC (X := Nat × Stamp × List (Int × Int)) (fun p => tmL [(1, .d (.pt (jdRow x (rfF x) (coF x) (frF x)) 0)), (3, .os 3 p.2.1 2 p.2.2.length), (10, .d (pairsTV L)), (11, .int .i64 L.length), (12, .int .i64 p.1)]) (fun p => stL [(3, (p.2.1, ⟨2, p.2.2.map pairO'⟩))])
  (fun p => p.1 ≤ L.length ∧ p.2.2 = (L.take p.1).filter (cohG x)) (fun p => L.length - p.1) (0, (v3, 0), []) ⟨Nat.zero_le _, by simp⟩ (by repeat' (first | exact vS _ | exact vM _ | refine uO rfl ?_ | refine vG rfl ?_ | (refine vA rfl ?_ ?_; (simp)) | (refine uV rfl ?_ ?_; (simp)) | (refine vD rfl ?_ ?_; (simp)))) leP ?_
 rintro ⟨k, τ, l⟩ ⟨hk', hl⟩
 dsimp only at hk' hl ⊢
 have hlen : l.length ≤ 1024 := by
  rw [hl]
  have h5 := List.length_filter_le (cohG x) (L.take k)
  have h6 : (L.take k).length ≤ L.length := by simp; omega
  omega
 by_cases hlt : k < L.length
 ·obtain ⟨a, b, ha, hb, e1, e2⟩ := hmem k hlt
  have b1 : 0 ≤ (L.getD (k : Int).toNat default).1 ∧ (L.getD (k : Int).toNat default).1 < x.evs.length := by rw [Int.toNat_natCast]; omega
  have b2 : 0 ≤ (L.getD (k : Int).toNat default).2 ∧ (L.getD (k : Int).toNat default).2 < x.evs.length := by rw [Int.toNat_natCast]; omega
  have htk : L.take (k + 1) = L.take k ++ [L.getD k default] := wK L default k hlt
  have e1' : (L.getD ((k : Int)).toNat default).1 = (a : Int) := e1
  have e2' : (L.getD ((k : Int)).toNat default).2 = (b : Int) := e2
  refine run ?_; refine aoR fun _ => ?_
  refine run ?_; refine cnd ?_ ?_
  refine uP fun _ => ?_; try (exfalso; omega)
  refine run ?_; refine aoR fun _ => ?_
  refine run ?_
  refine vE (E := E) ?_ (fun _ => ?_); exact rfl
  refine run ?_; refine aoR fun _ => ?_
  refine run ?_; refine cnd ?_ ?_
  iterate 2 refine xG ?_
  iterate 2 (refine wQ (fun _ => ?_); (try (exfalso; omega)))
  refine uP fun _ => ?_; try (exfalso; omega)
  refine aoR fun _ => ?_; refine run ?_
  refine aoR fun _ => ?_; refine run ?_
  rotate_left
  refine wN (fun hc_ => ?_); (try simp only [nrm] at hc_)
  refine run ?_; refine aoR fun _ => ?_
  refine run ?_; rotate_left
  refine uR fun _ => ?_; try (exfalso; omega)
  ·rename_i g1 g2 g3 v10 _
   rw [e1', Int.toNat_natCast] at g1 g3
   rw [e2', Int.toNat_natCast] at g2 g3
   have hg2 : cohG x (L.getD k default) = true := by
    unfold cohG
    rw [e1, e2, Int.toNat_natCast, Int.toNat_natCast]
    rw [decide_eq_false g1, decide_eq_false g2, decide_eq_true g3]; rfl
   exact vK (k + 1, (v10, 4), l ++ [L.getD k default]) ⟨by dsimp only; omega, by dsimp only; rw [hl, htk, List.filter_append, List.filter_cons, if_pos hg2, List.filter_nil]⟩ (by dsimp only; omega) (by repeat' (first | exact vS _ | exact vM _ | refine uO rfl ?_ | refine vG rfl ?_ | (refine vA rfl ?_ ?_; (simp <;> rfl)) | (refine uV rfl ?_ ?_; (simp <;> rfl)) | (refine vD rfl ?_ ?_; (simp <;> rfl)))) (by repeat' (first | exact vS _ | exact vM _ | refine uO rfl ?_ | refine vG rfl ?_ | (refine vA rfl ?_ ?_; (simp <;> rfl)) | (refine uV rfl ?_ ?_; (simp <;> rfl)) | (refine vD rfl ?_ ?_; (simp <;> rfl))))
  ·rw [e1', e2', Int.toNat_natCast, Int.toNat_natCast] at hc_
   have hg2 : cohG x (L.getD k default) = false := by
    unfold cohG
    rw [e1, e2, Int.toNat_natCast, Int.toNat_natCast]
    rcases hc_ with (h9 | h9) | h9
    ·rw [decide_eq_true h9]; simp only [Bool.not_true, Bool.and_false, Bool.false_and]
    ·rw [decide_eq_true h9]; simp only [Bool.not_true, Bool.and_false, Bool.false_and]
    ·rw [decide_eq_false h9]; simp only [Bool.and_false]
   exact vK (k + 1, τ, l) ⟨by dsimp only; omega, by dsimp only; rw [hl, htk, List.filter_append, List.filter_cons, if_neg (by rw [hg2]; decide), List.filter_nil, List.append_nil]⟩ (by dsimp only; omega) leP leP
 ·have hkl : k = L.length := by omega
  have hL' : l = L.filter (cohG x) := by rw [hl, hkl, List.take_length]
  subst hL'
  have f3 : Frozen 3 := ⟨trivial⟩
  have f61 : Frozen 61 := ⟨trivial⟩
  have f62 : Frozen 62 := ⟨trivial⟩
  have hfz := yC
  have hC : Own E.P 60 [.d (.sl 1 [catRow (L.filter (cohG x)), catRow (rfF x), catRow (coF x), catRow (frF x)])] 2 ((L.filter (cohG x) ++ (rfF x ++ (coF x ++ frF x))).map pairO') := by
   have h5 := List.length_filter_le (cohG x) L
   have := concat_o [L.filter (cohG x), rfF x, coF x, frF x] (by simp only [List.flatten_cons, List.flatten_nil, List.length_append, List.length_nil]; omega) (by simp)
   simpa using this
  refine run ?_; refine aoR fun _ => ?_
  refine run ?_; refine cnd ?_ ?_
  refine uP fun _ => ?_; try (exfalso; omega)
  refine uR fun _ => ?_; try (exfalso; omega)
  refine run ?_
  refine vE (E := E) ?_ (fun _ => ?_); exact rfl
  refine run ?_
  apply oN; assumption; exact rfl; exact .fn _ _ _; exact rfl; exact hC; exact yC _; exact rfl
  apply yB; exact rfl; exact .fn _ _ _; exact rfl; exact hA
  refine run ?_; rotate_left
  exact vF rfl rfl
set_option maxHeartbeats 4000000 in
theorem ordered_p (x : Ex) (hx : x.rel) : Pure E.P 38 [jdOV x (rfF x) (coF x) (frF x)] (.bool (!circleB x.evs.length (gloL x))) := by
 have hA : Pure E.P 59 [.int .i64 x.evs.length, .d (pairsTV (gloL x))] (.bool (!circleB x.evs.length (gloL x))) := by
  have := mY x.evs.length (gloL x) (gloL_len hx)
  rwa [iQ hx.len (kC x)] at this
 have hR := arrows_p x hx
 have f1 : Frozen 1 := ⟨trivial⟩
 refine fnA Tryz.func38 Tryz.ntmps38 ?_
 refine run ?_; refine aoR fun _ => ?_
 refine run ?_
 refine vE (E := E) ?_ (fun _ => ?_); exact rfl
 refine run ?_
 apply yB; exact rfl; exact .fn _ _ _; exact rfl; exact hR
 apply yB; exact rfl; exact .fn _ _ _; exact rfl; exact hA
 refine run ?_; rotate_left
 exact vF rfl rfl
def judB (x : Ex) : Bool × Bool × Bool := (!circleB x.evs.length (rcohL x), !circleB x.evs.length (gloL x), ratB x)
def judT (x : Ex) : (Bool × Bool × Bool) × Int := if checkI x = 0 then (judB x, 0) else ((false, false, false), checkI x)
theorem qH {t u T : Nat} {te : TE} {k : Nat} {τ : Stamp} {row : List OV} {rest : List (List OV)} {s : OV} {tm : Tm} {σ : Store} {R : OV → Store → Prop} (hT : E.tab T = some te) (ha : te.k.isAgg = true) (hs : te.size = row.length) (ht : tm t = some (.lo k τ te.size 0 0)) (hk : σ k = some (τ, ⟨te.size, row :: rest⟩)) (hu : tm u = some s) (hR : R (.tu [.ag row, s]) σ) : DoneN E [.cell t T, .tmp u] R .ret tm σ :=
 ⟨_, ⟨_, _, rfl, ⟨_, _, _, _, _, hT, ha, hs, ht, hk, rfl⟩, _, _, rfl, hu, rfl⟩, hR⟩
section
variable {E : Env} {v j : Nat} {ops : Array Oper} {KD : List Foot → Tm → Store → Prop} {acc : List Foot} {rest : List Oper} {tm : Tm} {σ : Store} {ty : TypeId} {pos : String} {af : Array Edge}
theorem sA {dst : Option Tmp} {x : Operand} {k : Nat} {τ : Stamp} {a i o : Nat} (hx : ev tm x = some (.lo k τ a i o)) (hcont : DO E.P v ops KD (j + 1) rest (tm.putO dst (.lo k τ a i o)) (σ.apply []) (Foot.mk [] (wkeys []) :: acc)) : DO E.P v ops KD j (⟨dst, .nilCheck x, ty, pos, af, none⟩ :: rest) tm σ acc := eS rfl hx hcont
end
def vrow (b : Bool × Bool × Bool) (k : Nat) : List OV := [.bool (decide (0 < k) && b.1), .bool (decide (1 < k) && b.2.1), .bool (decide (2 < k) && b.2.2)]
set_option maxHeartbeats 4000000 in
theorem Judge_p (x : Ex) (hx : x.fit) (hN : x.evs.length ≤ 32) : Pure E.P 17 [exOV x] (.tu [judOV (judT x).1, .int .i64 (judT x).2]) := by
 have hk := yQ _ hx.1 hx.2
 have f1 : Frozen 1 := ⟨trivial⟩
 have f5 : Frozen 5 := ⟨trivial⟩
 refine FnW.toR ?_
 refine wM (vs := [.cell 2 34, .tmp 3]) Tryz.func17 (by decide) rfl Tryz.ntmps17 (Nat.le_of_ble_eq_true rfl) rfl ?_
 by_cases hc : checkI x = 0
 rotate_left
 ·refine run ?_
  refine aoR fun _ => ?_; refine run ?_
  refine aoR fun _ => ?_; refine run ?_
  apply uQ; exact rfl; exact .fn _ _ _; exact rfl; exact hk
  refine run ?_; refine aoR fun _ => ?_
  refine run ?_; refine cnd ?_ ?_
  refine wQ (fun _ => ?_); (try (exfalso; omega))
  refine run ?_; refine aoR fun _ => ?_
  refine run ?_; rotate_left
  refine wJ (fun _ => ?_); (try (exfalso; omega))
  refine qH rfl rfl rfl rfl rfl rfl ?_
  unfold judT
  rw [if_neg hc]
  rfl
 rw [hc] at hk
 have hr : x.rel := ⟨hx, hc⟩
 have hof := of_p x hx
 have hB : judT x = (judB x, 0) := by unfold judT; rw [if_pos hc]
 have h1 : Pure E.P 37 [jdOV x (rfF x) (coF x) (frF x)] (.bool (judB x).1) := coherent_p x hr hN
 have h2 : Pure E.P 38 [jdOV x (rfF x) (coF x) (frF x)] (.bool (judB x).2.1) := ordered_p x hr
 have h3 : Pure E.P 39 [jdOV x (rfF x) (coF x) (frF x)] (.bool (judB x).2.2) := by
  have := atomic_p x hr (rfF x) (coF x) (frF x)
  rwa [atom_eq hr] at this
 rw [hB]
 generalize judB x = B at h1 h2 h3
 refine run ?_; refine aoR fun _ => ?_
 refine run ?_; refine aoR fun _ => ?_
 refine run ?_
 apply uQ; exact rfl; exact .fn _ _ _; exact rfl; exact hk
 refine run ?_; refine aoR fun _ => ?_
 refine run ?_; refine cnd ?_ ?_
 refine wQ (fun _ => ?_); (try (exfalso; omega))
 refine wJ (fun _ => ?_); (try (exfalso; omega))
 refine run ?_; refine aoR fun _ => ?_
 refine run ?_
 apply uQ; exact rfl; exact .fn _ _ _; exact rfl; exact hof
 refine run ?_; refine aoR fun _ => ?_
 refine run ?_; refine aoR fun _ => ?_
 refine run ?_; rotate_left
 rename_i v2 _ _ _ _ v6 v30
 refine vC (X := Nat) (fun k => tmL [(2, .lo 2 (v2, 1) 3 0 0), (6, .lo 6 (v6, 1) 3 0 0), (30, .os 30 (v30, 12) 2 3), (31, .int .i64 3), (32, .int .i64 k)])
  (fun k => stL [(2, ((v2, 1), ⟨3, [[.bool false, .bool false, .bool false]]⟩)), (6, ((v6, 1), ⟨3, [vrow B k]⟩)), (30, ((v30, 12), ⟨2, [[.lo 6 (v6, 1) 3 0 0, .fn 37 [jdOV x (rfF x) (coF x) (frF x)] []], [.lo 6 (v6, 1) 3 0 1, .fn 38 [jdOV x (rfF x) (coF x) (frF x)] []], [.lo 6 (v6, 1) 3 0 2, .fn 39 [jdOV x (rfF x) (coF x) (frF x)] []]]⟩))])
  (fun k => k ≤ 3) (fun k => 3 - k) 0 (Nat.zero_le _) leP leP ?_
 intro k hk3
 by_cases h30 : k = 3
 ·subst h30
  refine run ?_; refine aoR fun _ => ?_
  refine run ?_; refine cnd ?_ ?_
  refine uP fun _ => ?_; try (exfalso; omega)
  refine uR fun _ => ?_; try (exfalso; omega)
  refine run ?_; refine aoR fun _ => ?_
  refine run ?_; rotate_left
  refine qH rfl rfl rfl rfl rfl rfl ?_
  rfl
 have h012 : k = 0 ∨ k = 1 ∨ k = 2 := by omega
 rcases h012 with rfl | rfl | rfl
 ·refine run ?_
  refine aoR fun _ => ?_; refine run ?_
  refine cnd ?_ ?_
  refine uP fun _ => ?_; try (exfalso; omega)
  refine run ?_; refine aoR fun _ => ?_
  refine run ?_
  refine vE (E := E) ?_ (fun _ => ?_); exact rfl
  refine run ?_
  apply yB; exact rfl; exact .fn _ _ _; exact rfl; exact h1
  apply sA; exact rfl
  refine run ?_; refine aoR fun _ => ?_
  refine run ?_; rotate_left
  refine uR fun _ => ?_; try (exfalso; omega)
  exact vK 1 (by omega) (by omega) leP leP
 ·refine run ?_
  refine aoR fun _ => ?_; refine run ?_
  refine cnd ?_ ?_
  refine uP fun _ => ?_; try (exfalso; omega)
  refine run ?_; refine aoR fun _ => ?_
  refine run ?_
  refine vE (E := E) ?_ (fun _ => ?_); exact rfl
  refine run ?_
  apply yB; exact rfl; exact .fn _ _ _; exact rfl; exact h2
  apply sA; exact rfl
  refine run ?_; refine aoR fun _ => ?_
  refine run ?_; rotate_left
  refine uR fun _ => ?_; try (exfalso; omega)
  exact vK 2 (by omega) (by omega) leP leP
 ·refine run ?_
  refine aoR fun _ => ?_; refine run ?_
  refine cnd ?_ ?_
  refine uP fun _ => ?_; try (exfalso; omega)
  refine run ?_; refine aoR fun _ => ?_
  refine run ?_
  refine vE (E := E) ?_ (fun _ => ?_); exact rfl
  refine run ?_
  apply yB; exact rfl; exact .fn _ _ _; exact rfl; exact h3
  apply sA; exact rfl
  refine run ?_; refine aoR fun _ => ?_
  refine run ?_; rotate_left
  refine uR fun _ => ?_; try (exfalso; omega)
  exact vK 3 (by omega) (by omega) leP leP
def allowB (x : Ex) : Bool := (judB x).1 && (judB x).2.1 && (judB x).2.2
def allowT (x : Ex) : Bool × Int := if checkI x = 0 then (allowB x, 0) else (false, checkI x)
theorem allow_eq (x : Ex) : eqV (judT x).1 (true, true, true) = (allowT x).1 ∧ (judT x).2 = (allowT x).2 := by
 unfold judT allowT
 by_cases hc : checkI x = 0
 ·rw [if_pos hc, if_pos hc]
  refine ⟨?_, rfl⟩
  unfold eqV allowB
  generalize judB x = B
  obtain ⟨a, b, c⟩ := B
  cases a <;> cases b <;> cases c <;> rfl
 ·rw [if_neg hc, if_neg hc]
  exact ⟨rfl, rfl⟩
set_option maxHeartbeats 4000000 in
theorem dK (x : Ex) (hx : x.fit) (hN : x.evs.length ≤ 32) : Pure E.P 15 [exOV x] (.tu [.bool (allowT x).1, .int .i64 (allowT x).2]) := by
 have hJ := Judge_p x hx hN
 obtain ⟨e1, e2⟩ := allow_eq x
 rw [← e1, ← e2]
 have f1 : Frozen 1 := ⟨trivial⟩
 refine FnW.toR ?_
 refine wM (vs := [.tmp 2, .tmp 3]) Tryz.func15 (by decide) rfl Tryz.ntmps15 (Nat.le_of_ble_eq_true rfl) rfl ?_
 refine run ?_; refine aoR fun _ => ?_
 refine run ?_; refine aoR fun _ => ?_
 refine run ?_
 apply uQ; exact rfl; exact .fn _ _ _; exact rfl; exact hJ
 refine run ?_; refine aoR fun _ => ?_
 refine run ?_
 apply S_eqlV (judT x).1 (true, true, true); exact rfl; exact rfl
 refine run ?_; rotate_left
 exact aW rfl rfl rfl
def arrT (x : Ex) : List (Int × Int) × Int := if checkI x = 0 then (gloL x, 0) else ([], checkI x)
def lessE (p q r : Bool) (e : Ev) : Ev := { e with aq := if p = true then false else e.aq, rl := if q = true then false else e.rl, pred := if r = true ∧ e.kind = 4 then 0 else e.pred }
def lessX (p q r : Bool) (x : Ex) : Ex := { x with evs := x.evs.map (lessE p q r) }
section
variable {p q r : Bool}
theorem less_default : lessE p q r default = default := by
 unfold lessE
 cases p <;> cases q <;> cases r <;> rfl
theorem vV (es : List Ev) (i : Nat) : (es.map (lessE p q r)).getD i default = lessE p q r (es.getD i default) := by
 rw [List.getD_eq_getElem?_getD, List.getD_eq_getElem?_getD, List.getElem?_map]
 cases es[i]? with
 | none => exact less_default.symm
 | some e => rfl
theorem xO : (∀ e, (lessE p q r e).kind = e.kind) ∧ (∀ e, (lessE p q r e).addr = e.addr) ∧ (∀ e, (lessE p q r e).hart = e.hart) ∧ (∀ e, (lessE p q r e).val = e.val) ∧ (∀ e, (lessE p q r e).rval = e.rval) ∧ (∀ e, (lessE p q r e).rsv = e.rsv) ∧ (∀ e, (lessE p q r e).succ = e.succ) ∧
  (∀ e, (lessE p q r e).addrs = e.addrs) ∧ (∀ e, (lessE p q r e).datas = e.datas) ∧ (∀ e, (lessE p q r e).ctrls = e.ctrls) ∧ (∀ e, (lessE p q r e).stB = e.stB) ∧ (∀ e, (lessE p q r e).ldB = e.ldB) :=
 ⟨fun _ => rfl, fun _ => rfl, fun _ => rfl, fun _ => rfl, fun _ => rfl, fun _ => rfl, fun _ => rfl, fun _ => rfl, fun _ => rfl, fun _ => rfl, fun _ => rfl, fun _ => rfl⟩
theorem jX (es : List Ev) : addrsTo (es.map (lessE p q r)) = addrsTo es := by
 unfold addrsTo
 rw [List.foldl_map]
 rfl
theorem sT {e : Ev} (h : e.aq = false) : (lessE p q r e).aq = false := by
 show (if p = true then false else e.aq) = false
 rw [h]; cases p <;> rfl
theorem sS {e : Ev} (h : e.rl = false) : (lessE p q r e).rl = false := by
 show (if q = true then false else e.rl) = false
 rw [h]; cases q <;> rfl
theorem cV {e : Ev} (h : ¬ e.kind = 4) : (lessE p q r e).pred = e.pred := if_neg fun g => h g.2
theorem less_bare {e : Ev} (h : e.bareB = true) : (lessE p q r e).bareB = true := by
 unfold Ev.bareB at h ⊢
 by_cases h5 : e.kind = 5
 ·rw [if_pos h5] at h
  rw [if_pos (show (lessE p q r e).kind = 5 from h5)]
  have g : e.aq = false ∧ e.rl = false := by
   revert h
   cases e.aq <;> cases e.rl <;> simp
  rw [g.1, g.2] at h
  rw [sT g.1, sS g.2, cV (by omega)]
  exact h
 rw [if_neg h5] at h
 rw [if_neg (show ¬ (lessE p q r e).kind = 5 from h5)]
 by_cases h1 : e.kind = 1
 ·rw [if_pos h1] at h
  rw [if_pos (show (lessE p q r e).kind = 1 from h1), cV (by omega)]
  exact h
 rw [if_neg h1] at h
 rw [if_neg (show ¬ (lessE p q r e).kind = 1 from h1)]
 by_cases h2 : e.kind = 2
 ·rw [if_pos h2] at h
  rw [if_pos (show (lessE p q r e).kind = 2 from h2), cV (by omega)]
  exact h
 rw [if_neg h2] at h
 rw [if_neg (show ¬ (lessE p q r e).kind = 2 from h2)]
 by_cases h3 : e.kind = 3
 ·rw [if_pos h3] at h
  rw [if_pos (show (lessE p q r e).kind = 3 from h3), cV (by omega)]
  exact h
 rw [if_neg h3] at h
 rw [if_neg (show ¬ (lessE p q r e).kind = 3 from h3)]
 by_cases h4 : e.kind = 4
 ·rw [if_pos h4] at h
  rw [if_pos (show (lessE p q r e).kind = 4 from h4)]
  have g : e.aq = false ∧ e.rl = false := by
   revert h
   cases e.aq <;> cases e.rl <;> simp
  rw [g.1, g.2] at h
  rw [sT g.1, sS g.2]
  have hp : (lessE p q r e).pred = 0 ∨ (lessE p q r e).pred = e.pred := by
   show (if r = true ∧ e.kind = 4 then 0 else e.pred) = 0 ∨ (if r = true ∧ e.kind = 4 then 0 else e.pred) = e.pred
   split
   ·exact Or.inl rfl
   ·exact Or.inr rfl
  rcases hp with hp | hp
  ·rw [hp]
   have g2 : (decide (0 ≤ e.pred) = true) ∧ (decide (e.pred ≤ 3) = true) := by
    simp only [Bool.and_eq_true] at h
    exact ⟨h.1.1.1.2, h.1.1.2⟩
   rw [g2.1, g2.2] at h
   exact h
  ·rw [hp]; exact h
 ·rw [if_neg h4] at h; cases h
theorem mJ (es : List Ev) (f : Ev) : ∀ k, pairTo (es.map (lessE p q r)) (lessE p q r f) k = pairTo es f k
 | 0 => rfl
 | k + 1 => by
  unfold pairTo
  rw [vV, mJ es f k]
  simp only [xO]
variable {x : Ex}
theorem dT {es : List Ev} {n : Nat} {l : List Int} (h : hangsB es n l = true) : hangsB (es.map (lessE p q r)) n l = true := by
 revert h
 unfold hangsB hangsTo depOk
 simp only [vV, xO]
 exact id
theorem less_check (h : checkI x = 0) : checkI (lessX p q r x) = 0 := by
 obtain ⟨h1, h2, h3, h4⟩ := vI h
 have e1 : (lessX p q r x).evs = x.evs.map (lessE p q r) := rfl
 have c2 : evsTo (lessX p q r x).evs (addrsTo (lessX p q r x).evs) (lessX p q r x).evs.length = true := by
  rw [e1, jX, List.length_map]
  unfold evsTo at *
  rw [List.all_eq_true] at *
  intro n hn
  have := h2 n hn
  unfold evOk evPre at *
  simp only [vV, xO, Bool.and_eq_true] at *
  exact ⟨⟨⟨⟨⟨less_bare this.1.1.1.1.1, this.1.1.1.1.2⟩, dT this.1.1.1.2⟩, dT this.1.1.2⟩, dT this.1.2⟩, this.2⟩
 have c3 : fromB (lessX p q r x).evs (lessX p q r x).from_ = true := by
  rw [e1]
  revert h3
  unfold fromB fromTo fromOk srcOk lessX
  simp only [vV, xO, List.length_map]
  exact id
 have c4 : orderB (lessX p q r x).evs (addrsTo (lessX p q r x).evs) (lessX p q r x).order = true := by
  rw [e1, jX]
  revert h4
  unfold orderB rowsTo rowOk wantTo lessX
  simp only [vV, xO, List.length_map]
  exact id
 unfold checkI
 rw [if_neg (by rw [e1, List.length_map]; omega), if_neg (by rw [c2]; decide), if_neg (by rw [c3]; decide), if_neg (by rw [c4]; decide)]
theorem aB (a b : Nat) : isCoB (lessX p q r x) a b = isCoB x a b := by
 unfold isCoB lessX
 simp only [vV, xO]
theorem less_isPo (a b : Nat) : isPo (lessX p q r x) a b = isPo x a b := by
 unfold isPo lessX
 simp only [vV, xO]
theorem mK (a b : Nat) : isRf (lessX p q r x) a b = isRf x a b := by
 unfold isRf lessX
 simp only [vV, xO]
theorem mL (a b : Nat) : isFrB (lessX p q r x) a b = isFrB x a b := by
 unfold isFrB
 rw [aB]
 unfold lessX
 simp only [vV, xO]
theorem iJ (b : Nat) : pairedI (lessX p q r x) b = pairedI x b := by
 unfold pairedI lessX
 simp only [vV, mJ, xO]
theorem yD : (lessX p q r x).evs.length = x.evs.length := List.length_map ..
theorem less_rat : ratB (lessX p q r x) = ratB x := by
 have hR : ∀ n, ratR (lessX p q r x) n = ratR x n := fun n => by
  unfold ratR
  rw [iJ]
  unfold lessX
  simp only [vV, xO]
 have hM : ∀ n f m, ratM (lessX p q r x) n f m = ratM x n f m := fun n f m => by
  unfold ratM
  rw [aB, aB]
  unfold lessX
  simp only [vV, xO]
 unfold ratB ratEv
 simp only [hR, hM, yD]
 rfl
theorem less_rcoh : rcohL (lessX p q r x) = rcohL x := by
 have hG : cohG (lessX p q r x) = cohG x := by
  funext p'
  unfold cohG lessX
  simp only [vV, xO]
 unfold rcohL cohL
 rw [hG, yD, show isRf (lessX p q r x) = isRf x from funext fun a => funext fun b => mK a b, show isCoB (lessX p q r x) = isCoB x from funext fun a => funext fun b => aB a b,
  show isFrB (lessX p q r x) = isFrB x from funext fun a => funext fun b => mL a b, show isPo (lessX p q r x) = isPo x from funext fun a => funext fun b => less_isPo a b]
theorem pW {s : Int} {e : Ev} : inB s (lessE p q r e) = inB s e := rfl
theorem someB_mono {a b : Nat} {f g : Nat → Bool} (h : ∀ n, f n = true → g n = true) (hf : someB a b f = true) : someB a b g = true := by
 unfold someB at *
 rw [List.any_eq_true] at *
 obtain ⟨n, h1, h2⟩ := hf
 rw [Bool.and_eq_true] at h2
 exact ⟨n, h1, by rw [Bool.and_eq_true]; exact ⟨h2.1, h _ h2.2⟩⟩
theorem less_rule {k : Int} {a b : Nat} (h : ruleR (lessX p q r x) k a b = true) : ruleR x k a b = true := by
 have e1 : ∀ i, (lessX p q r x).evs.getD i default = lessE p q r (x.evs.getD i default) := fun i => vV _ _
 have e2 : (lessX p q r x).from_ = x.from_ := rfl
 unfold ruleR at *
 by_cases k1 : k = 1
 ·rw [if_pos k1] at *; rw [e1, e1] at h; exact h
 rw [if_neg k1] at *
 by_cases k2 : k = 2
 ·rw [if_pos k2] at *
  unfold rule2 at *
  simp only [e1, e2, xO] at h
  exact h
 rw [if_neg k2] at *
 by_cases k3 : k = 3
 ·rw [if_pos k3] at *
  unfold rule3 at *
  simp only [e1, e2, xO] at h
  exact h
 rw [if_neg k3] at *
 by_cases k4 : k = 4
 ·rw [if_pos k4] at *
  refine someB_mono (fun n hn => ?_) h
  unfold hit4 at *
  rw [e1, e1, e1, pW, pW] at hn
  simp only [xO, Bool.and_eq_true, decide_eq_true_eq] at hn ⊢
  refine ⟨⟨hn.1.1, ?_⟩, hn.2⟩
  have g := hn.1.2
  unfold lessE at g
  dsimp only at g
  by_cases hr : r = true ∧ (x.evs.getD n default).kind = 4
  ·rw [if_pos hr] at g
   unfold inB at g
   simp at g
  ·rw [if_neg hr] at g; exact g
 rw [if_neg k4] at *
 by_cases k5 : k = 5
 ·rw [if_pos k5] at *
  rw [e1] at h
  unfold lessE at h
  dsimp only at h
  cases p
  ·exact h
  ·cases h
 rw [if_neg k5] at *
 by_cases k6 : k = 6
 ·rw [if_pos k6] at *
  rw [e1] at h
  unfold lessE at h
  dsimp only at h
  cases q
  ·exact h
  ·cases h
 rw [if_neg k6] at *
 by_cases k7 : k = 7
 ·rw [if_pos k7] at *
  rw [e1, e1] at h
  have hs : ∀ e : Ev, strongB (lessE p q r e) = true → strongB e = true := fun e => by
   unfold strongB lessE
   dsimp only
   cases p <;> cases q <;> cases e.aq <;> cases e.rl <;> simp
  rw [Bool.and_eq_true] at *
  exact ⟨hs _ h.1, hs _ h.2⟩
 rw [if_neg k7] at *
 simp only [iJ, e1, xO] at h
 have h12 : hit12 (lessX p q r x) a b = hit12 x a b := by
  funext n
  unfold hit12
  rw [e1, e2]; rfl
 have h13 : hit13 (lessX p q r x) a = hit13 x a := by
  funext n
  unfold hit13
  rw [e1]; rfl
 rw [h12, h13] at h
 exact h
theorem less_ppo {a b : Nat} (h : isPpo (lessX p q r x) a b = true) : isPpo x a b = true := by
 unfold isPpo at *
 rw [List.any_eq_true] at *
 obtain ⟨k, h1, h2⟩ := h
 refine ⟨k, h1, ?_⟩
 unfold ruleB at *
 rw [Bool.and_eq_true] at *
 refine ⟨?_, less_rule h2.2⟩
 have h3 := h2.1
 unfold pairOf accB lessX at *
 simp only [vV, xO] at h3
 exact h3
theorem less_allow (hl : x.evs.length ≤ 64) (h : allowB x = true) : allowB (lessX p q r x) = true := by
 unfold allowB judB at *
 dsimp only at *
 rw [less_rat, less_rcoh, yD]
 simp only [Bool.and_eq_true, Bool.not_eq_true'] at *
 refine ⟨⟨h.1.1, ?_⟩, h.2⟩
 have hu := (eU hl (kC x)).1 h.1.2
 rw [← yD (p := p) (q := q) (r := r)]
 refine (eU (by rw [yD]; exact hl) (kC _)).2 ?_
 obtain ⟨t, ht⟩ := hu
 refine ⟨t, fun a b hab => ht a b ?_⟩
 unfold gloL at *
 rw [arr_mem] at *
 obtain ⟨g1, g2, g3⟩ := hab
 rw [yD] at g1 g2
 refine ⟨g1, g2, ?_⟩
 unfold globB glob at *
 rw [aB, mL, mK] at g3
 simp only [Bool.or_eq_true] at *
 rcases g3 with ((g3 | g3) | g3) | g3
 ·exact Or.inl (Or.inl (Or.inl (less_ppo g3)))
 ·exact Or.inl (Or.inl (Or.inr g3))
 ·exact Or.inl (Or.inr g3)
 ·refine Or.inr ?_
  unfold lessX at g3
  simp only [vV, xO] at g3
  exact g3
end
set_option maxRecDepth 100000
theorem eF (a : Int) (l : List Int) (k : Nat) (h : k < l.length) : addIn a (l.drop k) = if l.getD k 0 < a then l.getD k 0 :: addIn a (l.drop (k + 1)) else if l.getD k 0 = a then l.drop k else a :: l.drop k := by
 have e : l.drop k = l.getD k 0 :: l.drop (k + 1) := by
  rw [List.drop_eq_getElem_cons h, List.getD_eq_getElem?_getD, List.getElem?_eq_getElem h]; rfl
 rw [e, addIn]
theorem zV {α : Type} (l : List α) (d : α) (k : Nat) (h : k < l.length) : l.take (k + 1) = l.take k ++ [l.getD k d] := by
 rw [List.take_succ_eq_append_getElem h, List.getD_eq_getElem?_getD, List.getElem?_eq_getElem h]; rfl
theorem aR (es : List Ev) (i : Nat) (h : i < es.length) : addrsTo (es.take (i + 1)) = if (es.getD i default).kind = 4 then addrsTo (es.take i) else addIn (es.getD i default).addr (addrsTo (es.take i)) := by
 rw [zV es default i h, fQ]
theorem addrsTo_take_len (es : List Ev) (i : Nat) : (addrsTo (es.take i)).length ≤ i := Nat.le_trans (xL _) (by simp; omega)
theorem zY (f : Int → List OV) (l : List Int) (k : Nat) (a : Int) : [] ++ ((l.map f).drop 0).take ((k : Int).toNat - 0) ++ [f a] ++ ((l.map f).drop (k : Int).toNat).take (l.length - (k : Int).toNat) = (l.take k ++ a :: l.drop k).map f := by
 simp [List.take_of_length_le]
set_option maxHeartbeats 4000000 in
theorem raddrs_p (x : Ex) (hx : x.evs.length ≤ 65536) :
  Own E.P 28 [exOV x] 1 ((addrsTo x.evs).map (cellO .u32)) := by
 refine fnA Tryz.func28 Tryz.ntmps28 ?_
 refine run ?_; refine aoR fun _ => ?_
 refine run ?_; refine aoR fun _ => ?_
 refine run ?_; refine aoR fun _ => ?_
 refine run ?_; rotate_left
 rename_i v1 v3 v4
 refine vC (X := Nat × Stamp × List Int) (fun p => tmL [(1, .lo 1 (v1, 0) 3 0 0), (3, .os 3 p.2.1 1 p.2.2.length), (4, .int .i64 p.1)]) (fun p => stL [(1, ((v1, 0), ⟨3, [(exOV x).cells]⟩)), (3, (p.2.1, ⟨1, p.2.2.map (cellO .u32)⟩))])
  (fun p => p.1 ≤ x.evs.length ∧ p.2.2 = addrsTo (x.evs.take p.1)) (fun p => x.evs.length - p.1) (0, (v3, 0), []) ⟨Nat.zero_le _, rfl⟩ leP leP ?_
 rintro ⟨i, τ, l⟩ ⟨hi, hl⟩
 dsimp only at hi hl ⊢
 have hlen : l.length ≤ 65536 := by rw [hl]; exact Nat.le_trans (addrsTo_take_len _ _) (by omega)
 refine run ?_; refine aoR fun _ => ?_
 refine run ?_; refine cnd ?_ ?_
 refine uP fun _ => ?_; try (exfalso; omega)
 refine run ?_; refine aoR fun _ => ?_
 refine run ?_; refine cnd ?_ ?_
 refine uP fun _ => ?_; try (exfalso; omega)
 refine run ?_; refine aoR fun _ => ?_
 refine run ?_; rotate_left
 refine uR fun _ => ?_; try (exfalso; omega)
 refine run ?_; refine aoR fun _ => ?_
 refine run ?_; refine aoR fun _ => ?_
 refine run ?_; rotate_left
 refine uR fun _ => ?_; try (exfalso; omega)
 refine run ?_; refine aoR fun _ => ?_
 refine run ?_; rotate_left
 ·refine vK (i + 1, τ, l) ⟨by dsimp only; omega, ?_⟩ (by dsimp only; omega) leP leP
  have hk := aR x.evs i (by omega)
  rename_i h1 _
  rw [Int.toNat_natCast] at h1
  rw [hk, if_pos h1]; exact hl
 ·rename_i h1 w1 w2
  rw [Int.toNat_natCast] at h1
  refine vC (X := Nat) (fun k => tmL [(1, .lo 1 (v1, 0) 3 0 0), (3, .os 3 τ 1 l.length), (4, .int .i64 i), (5, .int .u32 (x.evs.getD i default).addr), (6, .int .i64 k)]) (fun _ => stL [(1, ((v1, 0), ⟨3, [(exOV x).cells]⟩)), (3, (τ, ⟨1, l.map (cellO .u32)⟩))])
   (fun k => k ≤ l.length ∧ addIn (x.evs.getD i default).addr l = l.take k ++ addIn (x.evs.getD i default).addr (l.drop k)) (fun k => l.length - k) 0 ⟨Nat.zero_le _, rfl⟩ leP leP ?_
  intro k hk
  obtain ⟨hk, ht⟩ := hk
  refine run ?_; refine aoR fun _ => ?_
  refine run ?_; refine cnd ?_ ?_; refine xG ?_
  iterate 2 refine uP fun _ => ?_; try (exfalso; omega)
  refine run ?_; refine aoR fun _ => ?_
  refine run ?_; rotate_left
  refine wN (fun hc_ => ?_); (try simp only [nrm] at hc_)
  refine run ?_; refine aoR fun _ => ?_
  refine run ?_; refine cnd ?_ ?_; refine xG ?_
  iterate 2 refine uP fun _ => ?_; try (exfalso; omega)
  refine run ?_; refine aoR fun _ => ?_
  refine run ?_; rotate_left
  refine wN (fun hc_ => ?_); (try simp only [nrm] at hc_)
  refine run ?_; refine aoR fun _ => ?_
  refine run ?_; refine aoR fun _ => ?_
  refine run ?_; refine aoR fun _ => ?_
  refine run ?_; rotate_left
  ·rename_i h2 h3 _
   rw [Int.toNat_natCast] at h3
   refine vK (k + 1) ⟨by omega, ?_⟩ (by omega) leP leP
   rw [ht, eF _ l k (by omega), if_pos h3, zV l 0 k (by omega)]
   simp
  ·rename_i _ h2 h3 _
   have h0 := hc_
   simp only [Int.toNat_natCast] at h3 h0
   refine vK (i + 1, τ, l) ⟨by dsimp only; omega, ?_⟩ (by dsimp only; omega) leP leP
   have hk' := aR x.evs i (by omega)
   rw [if_neg h1, ← hl, ht, eF _ l k (by omega), if_neg (by omega), if_pos h3, List.take_append_drop] at hk'
   exact hk'.symm
  ·rename_i h0 _ w3 w4 w5
   have h3 := hc_
   simp only [Int.toNat_natCast] at h3 h0
   have hD : addIn (x.evs.getD i default).addr l = l.take k ++ (x.evs.getD i default).addr :: l.drop k := by
    rw [ht]
    by_cases hkl : k = l.length
    ·subst hkl; simp [addIn]
    ·rw [eF _ l k (by omega), if_neg (by omega), if_neg (by omega)]
   have hk' := aR x.evs i (by omega)
   rw [if_neg h1, ← hl] at hk'
   refine vK (i + 1, (w4, 5), addIn (x.evs.getD i default).addr l) ⟨by dsimp only; omega, hk'.symm⟩ (by dsimp only; omega) (by repeat' (first | exact vS _ | exact vM _ | refine uO rfl ?_ | refine vG rfl ?_ | (refine vA rfl ?_ ?_; (first | (dsimp only; rw [hD]; (first | omega | (simp only [List.length_append, List.length_map, List.length_take, List.length_drop, List.length_cons, List.length_nil, List.length_replicate, vN] <;> omega))) | (dsimp only; rw [hD]; exact zY _ l k _))) | (refine uV rfl ?_ ?_; (first | (dsimp only; rw [hD]; (first | omega | (simp only [List.length_append, List.length_map, List.length_take, List.length_drop, List.length_cons, List.length_nil, List.length_replicate, vN] <;> omega))) | (dsimp only; rw [hD]; exact zY _ l k _))) | (refine vD rfl ?_ ?_; (first | (dsimp only; rw [hD]; (first | omega | (simp only [List.length_append, List.length_map, List.length_take, List.length_drop, List.length_cons, List.length_nil, List.length_replicate, vN] <;> omega))) | (dsimp only; rw [hD]; exact zY _ l k _))))) (by repeat' (first | exact vS _ | exact vM _ | refine uO rfl ?_ | refine vG rfl ?_ | (refine vA rfl ?_ ?_; (first | (dsimp only; rw [hD]; (first | omega | (simp only [List.length_append, List.length_map, List.length_take, List.length_drop, List.length_cons, List.length_nil, List.length_replicate, vN] <;> omega))) | (dsimp only; rw [hD]; exact zY _ l k _))) | (refine uV rfl ?_ ?_; (first | (dsimp only; rw [hD]; (first | omega | (simp only [List.length_append, List.length_map, List.length_take, List.length_drop, List.length_cons, List.length_nil, List.length_replicate, vN] <;> omega))) | (dsimp only; rw [hD]; exact zY _ l k _))) | (refine vD rfl ?_ ?_; (first | (dsimp only; rw [hD]; (first | omega | (simp only [List.length_append, List.length_map, List.length_take, List.length_drop, List.length_cons, List.length_nil, List.length_replicate, vN] <;> omega))) | (dsimp only; rw [hD]; exact zY _ l k _)))))
 ·have e : i = x.evs.length := by omega
  rw [e, List.take_length] at hl
  refine wL rfl rfl ?_ ?_
  ·rw [hl]
  ·simp
set_option maxHeartbeats 4000000
set_option maxRecDepth 100000
def Ev.lens (e : Ev) : Nat := e.addrs.length + e.datas.length + e.ctrls.length
def sumE (es : List Ev) (k : Nat) : Nat := ((es.take k).map Ev.lens).sum
def sumR (rows : List (Sl × List Int)) (k : Nat) : Nat := ((rows.take k).map fun r => r.2.length).sum
def wideB8 (x : Ex) : Bool := decide (20 < x.evs.length) || decide (200 < x.from_.length) || decide (200 < x.order.length) || decide (400 < x.from_.length + sumR x.order x.order.length) || decide (400 < x.from_.length + sumR x.order x.order.length + sumE x.evs x.evs.length)
theorem lV (es : List Ev) (k : Nat) (h : k < es.length) : sumE es (k + 1) = sumE es k + (es.getD k default).lens := by
 unfold sumE; rw [zV es default k h]; simp
theorem fV (rows : List (Sl × List Int)) (k : Nat) (h : k < rows.length) : sumR rows (k + 1) = sumR rows k + (rows.getD k default).2.length := by
 unfold sumR; rw [zV rows default k h]; simp
theorem hZ (l : List Nat) (k : Nat) : (l.take k).sum ≤ l.sum := by
 have h := congrArg List.sum (List.take_append_drop k l)
 rw [List.sum_append] at h
 omega
theorem sumE_le (es : List Ev) (k : Nat) : sumE es k ≤ sumE es es.length := by
 unfold sumE
 rw [List.take_length, List.map_take]; exact hZ _ _
theorem sG (rows : List (Sl × List Int)) (k : Nat) : sumR rows k ≤ sumR rows rows.length := by
 unfold sumR
 rw [List.take_length, List.map_take]; exact hZ _ _
theorem wide8_true1 {x : Ex} (h : 20 < x.evs.length ∨ 200 < x.from_.length ∨ 200 < x.order.length) : true = wideB8 x := by
 unfold wideB8
 rcases h with h | h | h <;> simp [h]
theorem wide8_true2 {x : Ex} {k : Nat} (h : 400 < x.from_.length + sumR x.order k) : true = wideB8 x := by
 have := sG x.order k
 unfold wideB8
 have h : 400 < x.from_.length + sumR x.order x.order.length := by omega
 simp [h]
theorem wide8_true3 {x : Ex} {k : Nat} (h : 400 < x.from_.length + sumR x.order x.order.length + sumE x.evs k) : true = wideB8 x := by
 have := sumE_le x.evs k
 unfold wideB8
 have h : 400 < x.from_.length + sumR x.order x.order.length + sumE x.evs x.evs.length := by omega
 simp [h]
theorem Ex.ok.ev {x : Ex} (h : x.ok) (i : Nat) : (x.evs.getD i default).addrs.length ≤ 1152921504606846976 ∧ (x.evs.getD i default).datas.length ≤ 1152921504606846976 ∧ (x.evs.getD i default).ctrls.length ≤ 1152921504606846976 := by
 rcases Nat.lt_or_ge i x.evs.length with hh | hh
 ·rw [List.getD_eq_getElem?_getD, List.getElem?_eq_getElem hh]
  have := h.2.1 _ (List.getElem_mem hh)
  exact ⟨this.2.1, this.2.2.1, this.2.2.2.1⟩
 ·rw [List.getD_eq_getElem?_getD, List.getElem?_eq_none hh]
  decide
theorem Ex.ok.row {x : Ex} (h : x.ok) (i : Nat) : (x.order.getD i default).2.length ≤ 1152921504606846976 := by
 rcases Nat.lt_or_ge i x.order.length with hh | hh
 ·rw [List.getD_eq_getElem?_getD, List.getElem?_eq_getElem hh]
  exact h.2.2.2.2 _ (List.getElem_mem hh)
 ·rw [List.getD_eq_getElem?_getD, List.getElem?_eq_none hh]
  decide
theorem wide8_row {x : Ex} (h : wideB8 x = false) : ∀ r ∈ x.order, r.2.length ≤ 400 := fun r hr => by
 unfold wideB8 at h
 simp only [Bool.or_eq_false_iff, decide_eq_false_iff_not] at h
 obtain ⟨i, hi, rfl⟩ := List.mem_iff_getElem.1 hr
 have h1 := fV x.order i hi
 have h2 := sG x.order (i + 1)
 rw [List.getD_eq_getElem?_getD, List.getElem?_eq_getElem hi] at h1
 simp only [Option.getD_some] at h1
 omega
set_option maxHeartbeats 4000000 in
theorem wide8_p (x : Ex) (hok : x.ok) : Pure E.P 11 [exOV x] (.bool (wideB8 x)) := by
 have hev := hok.ev
 have hrw := hok.row
 obtain ⟨hx, _, hf, ho, _⟩ := hok
 refine fnA Tryz.func11 Tryz.ntmps11 ?_
 refine run ?_; refine aoR fun _ => ?_
 refine run ?_; refine aoR fun _ => ?_
 refine run ?_; refine aoR fun _ => ?_
 refine run ?_; refine cnd ?_ ?_
 refine wX (fun hc_ => ?_); (try simp only [nrm] at hc_)
 refine run ?_; refine aoR fun _ => ?_
 refine run ?_; rotate_left
 iterate 2 refine xA ?_
 iterate 3 refine uR fun _ => ?_; try (exfalso; omega)
 refine run ?_; refine aoR fun _ => ?_
 refine run ?_; rotate_left
 ·exact vF rfl (wide8_true1 (by omega))
 rename_i v1 _ _ g1 g2 g3 _
 refine vC (X := Nat) (fun k => tmL [(1, .lo 1 (v1, 0) 3 0 0), (3, .int .i64 ((x.from_.length + sumR x.order k : Nat) : Int)), (4, .int .i64 k)]) (fun _ => stL [(1, ((v1, 0), ⟨3, [(exOV x).cells]⟩))])
  (fun k => k ≤ x.order.length ∧ x.from_.length + sumR x.order k ≤ 400) (fun k => x.order.length - k) 0 ⟨Nat.zero_le _, by simp [sumR]; omega⟩ (by repeat' (first | exact vS _ | exact vM _ | refine uO rfl ?_ | refine vG rfl ?_ | (refine vA rfl ?_ ?_; (simp [sumR])) | (refine uV rfl ?_ ?_; (simp [sumR])) | (refine vD rfl ?_ ?_; (simp [sumR])))) leP ?_
 rintro k ⟨hk, hn⟩
 have hr := hrw (k : Int).toNat
 refine run ?_; refine aoR fun _ => ?_
 refine run ?_; refine cnd ?_ ?_
 refine uP fun _ => ?_; try (exfalso; omega)
 refine run ?_; refine aoR fun _ => ?_
 refine run ?_; refine aoR fun _ => ?_
 refine run ?_; refine cnd ?_ ?_
 refine uP fun _ => ?_; try (exfalso; omega)
 refine run ?_; refine aoR fun _ => ?_
 refine run ?_; rotate_left
 refine uR fun _ => ?_; try (exfalso; omega)
 refine run ?_; refine aoR fun _ => ?_
 refine run ?_; rotate_left
 refine uR fun _ => ?_; try (exfalso; omega)
 refine run ?_; refine aoR fun _ => ?_
 refine run ?_; rotate_left
 ·refine vF rfl (wide8_true2 (k := k + 1) ?_)
  rename_i h _
  rw [fV _ _ (by omega)]
  rw [Int.toNat_natCast] at h
  omega
 ·have hs := fV x.order k (by omega)
  rename_i h _
  rw [Int.toNat_natCast] at h
  refine vK (k + 1) ⟨by omega, by omega⟩ (by omega) (by repeat' (first | exact vS _ | exact vM _ | refine uO rfl ?_ | refine vG rfl ?_ | (refine vA rfl ?_ ?_; (rw [hs, Int.toNat_natCast]; omega)) | (refine uV rfl ?_ ?_; (rw [hs, Int.toNat_natCast]; omega)) | (refine vD rfl ?_ ?_; (rw [hs, Int.toNat_natCast]; omega)))) leP
 have e : k = x.order.length := by omega
 subst e
 refine vC (X := Nat) (fun i => tmL [(1, .lo 1 (v1, 0) 3 0 0), (3, .int .i64 ((x.from_.length + sumR x.order x.order.length + sumE x.evs i : Nat) : Int)), (5, .int .i64 i)]) (fun _ => stL [(1, ((v1, 0), ⟨3, [(exOV x).cells]⟩))])
  (fun i => i ≤ x.evs.length ∧ x.from_.length + sumR x.order x.order.length + sumE x.evs i ≤ 400) (fun i => x.evs.length - i) 0 ⟨Nat.zero_le _, by simpa [sumE] using hn⟩ (by repeat' (first | exact vS _ | exact vM _ | refine uO rfl ?_ | refine vG rfl ?_ | (refine vA rfl ?_ ?_; (simp [sumE])) | (refine uV rfl ?_ ?_; (simp [sumE])) | (refine vD rfl ?_ ?_; (simp [sumE])))) leP ?_
 rintro i ⟨hi, hm⟩
 have he := hev (i : Int).toNat
 refine run ?_; refine aoR fun _ => ?_
 refine run ?_; refine cnd ?_ ?_
 refine uP fun _ => ?_; try (exfalso; omega)
 refine run ?_
 refine vE (E := E) ?_ (fun _ => ?_); exact rfl
 refine run ?_; refine aoR fun _ => ?_
 refine run ?_; refine cnd ?_ ?_
 refine uP fun _ => ?_; try (exfalso; omega)
 refine run ?_; refine aoR fun _ => ?_
 refine run ?_; rotate_left
 refine uR fun _ => ?_; try (exfalso; omega)
 refine run ?_; refine aoR fun _ => ?_
 refine run ?_; rotate_left
 refine uR fun _ => ?_; try (exfalso; omega)
 refine run ?_; refine aoR fun _ => ?_
 refine run ?_; rotate_left
 ·refine vF rfl (wide8_true3 (k := i + 1) ?_)
  rename_i h _
  rw [lV _ _ (by omega)]
  unfold Ev.lens
  rw [Int.toNat_natCast] at h
  omega
 ·have hs := lV x.evs i (by omega)
  unfold Ev.lens at hs
  rename_i h _
  rw [Int.toNat_natCast] at h
  refine vK (i + 1) ⟨by omega, by omega⟩ (by omega) (by repeat' (first | exact vS _ | exact vM _ | refine uO rfl ?_ | refine vG rfl ?_ | (refine vA rfl ?_ ?_; (rw [hs, Int.toNat_natCast]; omega)) | (refine uV rfl ?_ ?_; (rw [hs, Int.toNat_natCast]; omega)) | (refine vD rfl ?_ ?_; (rw [hs, Int.toNat_natCast]; omega)))) leP
 ·have e : i = x.evs.length := by omega
  subst e
  refine vF rfl ?_
  unfold wideB8
  rw [eq_comm]
  simp only [Bool.or_eq_false_iff, decide_eq_false_iff_not]
  omega
end Go.Proofs.YtnkocjkkefnelaaGreat
