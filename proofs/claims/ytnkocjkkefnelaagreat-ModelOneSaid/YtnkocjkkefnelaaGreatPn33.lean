/- Parts. -/
import Derived.Test.YtnkocjkkefnelaaGreatPn4
import Derived.Test.YtnkocjkkefnelaaGreatPn6
import Derived.Test.YtnkocjkkefnelaaGreatPn8
import Derived.Test.YtnkocjkkefnelaaGreatPn9
import Derived.Test.YtnkocjkkefnelaaGreatPn13
import Derived.Test.YtnkocjkkefnelaaGreatPn19
import Derived.Test.YtnkocjkkefnelaaGreatPn28
import Derived.Test.YtnkocjkkefnelaaGreatPn32
set_option linter.unusedVariables false
set_option linter.unusedSimpArgs false
set_option maxHeartbeats 4000000
set_option maxHeartbeats 4000000
set_option maxRecDepth 100000
namespace Go.Proofs.YtnkocjkkefnelaaGreat
open Go.RowKit Go.Maps
def pcohL (x : Ex) : List (Int × Int) := (refPairs x.evs.length (isPo x)).filter (cohG x) ++ (rfF x ++ (coF x ++ frF x))
theorem nB {x : Ex} (hx : x.rel) (p : Int × Int) : p ∈ pcohL x ↔ p ∈ rcohL x := by
 unfold pcohL rcohL cohL
 rw [gP hx, gN hx, aV hx.check]
 simp only [List.mem_append]
 constructor
 ·rintro (h | h | h | h)
  ·exact Or.inr h
  ·exact Or.inl (Or.inl (Or.inl h))
  ·exact Or.inl (Or.inl (Or.inr h))
  ·exact Or.inl (Or.inr h)
 ·rintro (((h | h) | h) | h)
  ·exact Or.inr (Or.inl h)
  ·exact Or.inr (Or.inr (Or.inl h))
  ·exact Or.inr (Or.inr (Or.inr h))
  ·exact Or.inl h
theorem any_congr {α : Type} {l l' : List α} (h : ∀ p, p ∈ l ↔ p ∈ l') (f : α → Bool) : l.any f = l'.any f := by
 rw [Bool.eq_iff_iff, List.any_eq_true, List.any_eq_true]
 exact ⟨fun ⟨q, h1, h2⟩ => ⟨q, (h q).1 h1, h2⟩, fun ⟨q, h1, h2⟩ => ⟨q, (h q).2 h1, h2⟩⟩
theorem gG {n : Nat} {l : List (Int × Int)} (hn : n ≤ 64) (hok : l.any (outB n) = false) : acyI n l = !circleB n l := by
 unfold acyI badB
 rw [hok, Int.toNat_natCast, dC hn hok, decide_eq_false (by omega), decide_eq_false (by omega)]
 rfl
theorem pcoh_len {x : Ex} (hx : x.rel) (h : x.evs.length ≤ 32) : (pcohL x).length ≤ 4096 := by
 have hs : x.evs.length * x.evs.length ≤ 1024 := Nat.mul_le_mul h h
 have h1 : (refPairs x.evs.length (isPo x)).length ≤ _ := wW x.evs.length (isPo x) x.evs.length
 have h2 : (refPairs x.evs.length (isRf x)).length ≤ _ := wW x.evs.length (isRf x) x.evs.length
 have h3 : (refPairs x.evs.length (isCoB x)).length ≤ _ := wW x.evs.length (isCoB x) x.evs.length
 have h4 : (refPairs x.evs.length (isFrB x)).length ≤ _ := wW x.evs.length (isFrB x) x.evs.length
 have h5 := List.length_filter_le (cohG x) (refPairs x.evs.length (isPo x))
 unfold pcohL
 rw [gP hx, gN hx, aV hx.check]
 simp only [List.length_append]
 omega
set_option maxHeartbeats 4000000 in
theorem coherent_p (x : Ex) (hx : x.rel) (hN : x.evs.length ≤ 32) : Pure E.P 37 [jdOV x (rfF x) (coF x) (frF x)] (.bool (!circleB x.evs.length (rcohL x))) := by
 have hA : Pure E.P 59 [.int .i64 x.evs.length, .d (pairsTV (pcohL x))] (.bool (!circleB x.evs.length (rcohL x))) := by
  have hok : (pcohL x).any (outB x.evs.length) = false := (any_congr (nB hx) _).trans (eY x)
  have := kQ x.evs.length (pcohL x) (pcoh_len hx hN)
  rwa [gG hx.len hok, circleB_congr (nB hx)] at this
 have f1 : Frozen 1 := ⟨trivial⟩
 have f5 : Frozen 5 := ⟨trivial⟩
 have f6 : Frozen 6 := ⟨trivial⟩
 have f7 : Frozen 7 := ⟨trivial⟩
 have f10 : Frozen 10 := ⟨trivial⟩
 have hpo := po_s x hx.fit
 unfold poF at hpo
 rw [if_pos hx.check] at hpo
 obtain ⟨l1, l2, l3, l4⟩ := lU hx
 unfold pcohL at hA
 generalize hL : refPairs x.evs.length (isPo x) = L at hpo hA
 have hln : L.length ≤ 1024 := by
  rw [← hL]
  exact Nat.le_trans (wW x.evs.length (isPo x) x.evs.length) (Nat.mul_le_mul hN hN)
 refine fnA Tryz.func37 Tryz.ntmps37 ?_
 refine run ?_; refine aoR fun _ => ?_
 refine run ?_; refine aoR fun _ => ?_
 refine run ?_; refine aoR fun _ => ?_
 refine run ?_
 apply lY; assumption; exact rfl; exact .fn _ _ _; exact rfl; exact hpo; exact xW _; exact rfl
 refine run ?_; rotate_left
 rename_i v3 _
 have hmem : ∀ k, k < L.length → ∃ a b : Nat, a < x.evs.length ∧ b < x.evs.length ∧ (L.getD k default).1 = (a : Int) ∧ (L.getD k default).2 = (b : Int) := fun k hk' => by
  have : L.getD k default ∈ L := by rw [List.getD_eq_getElem?_getD, List.getElem?_eq_getElem hk']; exact List.getElem_mem hk'
  rw [← hL] at this
  obtain ⟨a, b, g1, g2, _, g3⟩ := uP.1 this
  rw [hL] at g3
  exact ⟨a, b, g1, g2, by rw [g3], by rw [g3]⟩
 refine vJ (X := Nat × Stamp × List (Int × Int)) (fun p => tmL [(1, .d (.pt (jdRow x (rfF x) (coF x) (frF x)) 0)), (3, .os 3 p.2.1 2 p.2.2.length), (10, .d (pairsTV L)), (11, .int .i64 L.length), (12, .int .i64 p.1)]) (fun p => stL [(3, (p.2.1, ⟨2, p.2.2.map pairO'⟩))])
  (fun p => p.1 ≤ L.length ∧ p.2.2 = (L.take p.1).filter (cohG x)) (fun p => L.length - p.1) (0, (v3, 0), []) ⟨Nat.zero_le _, by simp⟩ (by repeat' (first | exact wO _ | exact wD _ | refine uL rfl ?_ | refine vK rfl ?_ | (refine vY rfl ?_ ?_; (simp)) | (refine vM rfl ?_ ?_; (simp)) | (refine vA rfl ?_ ?_; (simp)))) leP ?_
 rintro ⟨k, τ, l⟩ ⟨hk', hl⟩
 dsimp only at hk' hl ⊢
 have hlen : l.length ≤ 1024 := by
  rw [hl]
  have h5 := List.length_filter_le (cohG x) (L.take k)
  have h6 : (L.take k).length ≤ L.length := by simp; omega
  omega
 by_cases hlt : k < L.length
 ·obtain ⟨a, b, ha, hb, e1, e2⟩ := hmem k hlt
  have b1 : 0 ≤ (L.getD (k : Int).toNat default).1 ∧ (L.getD (k : Int).toNat default).1 < x.evs.length := by rw [Int.toNat_natCast]; omega
  have b2 : 0 ≤ (L.getD (k : Int).toNat default).2 ∧ (L.getD (k : Int).toNat default).2 < x.evs.length := by rw [Int.toNat_natCast]; omega
  have htk : L.take (k + 1) = L.take k ++ [L.getD k default] := wL L default k hlt
  have e1' : (L.getD ((k : Int)).toNat default).1 = (a : Int) := e1
  have e2' : (L.getD ((k : Int)).toNat default).2 = (b : Int) := e2
  refine run ?_; refine aoR fun _ => ?_
  refine run ?_; refine cnd ?_ ?_
  refine uN fun _ => ?_; try omega
  refine run ?_; refine aoR fun _ => ?_
  refine run ?_
  refine vF (E := E) ?_ (fun _ => ?_); exact rfl
  refine run ?_; refine aoR fun _ => ?_
  refine run ?_; refine cnd ?_ ?_
  iterate 2 refine yU ?_
  iterate 2 (refine xG (fun _ => ?_); (try omega))
  refine uN fun _ => ?_; try omega
  refine aoR fun _ => ?_; refine run ?_
  refine aoR fun _ => ?_; refine run ?_
  rotate_left
  refine xZ (fun hc_ => ?_); (try simp only [nrm] at hc_)
  refine run ?_; refine aoR fun _ => ?_
  refine run ?_; rotate_left
  refine uR fun _ => ?_; try omega
  ·rename_i g1 g2 g3 v10 _
   rw [e1', Int.toNat_natCast] at g1 g3
   rw [e2', Int.toNat_natCast] at g2 g3
   have hg2 : cohG x (L.getD k default) = true := by
    unfold cohG
    rw [e1, e2, Int.toNat_natCast, Int.toNat_natCast]
    rw [decide_eq_false g1, decide_eq_false g2, decide_eq_true g3]; rfl
   exact vQ (k + 1, (v10, 4), l ++ [L.getD k default]) ⟨by dsimp only; omega, by dsimp only; rw [hl, htk, List.filter_append, List.filter_cons, if_pos hg2, List.filter_nil]⟩ (by dsimp only; omega) (by repeat' (first | exact wO _ | exact wD _ | refine uL rfl ?_ | refine vK rfl ?_ | (refine vY rfl ?_ ?_; (simp <;> rfl)) | (refine vM rfl ?_ ?_; (simp <;> rfl)) | (refine vA rfl ?_ ?_; (simp <;> rfl)))) (by repeat' (first | exact wO _ | exact wD _ | refine uL rfl ?_ | refine vK rfl ?_ | (refine vY rfl ?_ ?_; (simp <;> rfl)) | (refine vM rfl ?_ ?_; (simp <;> rfl)) | (refine vA rfl ?_ ?_; (simp <;> rfl))))
  ·rw [e1', e2', Int.toNat_natCast, Int.toNat_natCast] at hc_
   have hg2 : cohG x (L.getD k default) = false := by
    unfold cohG
    rw [e1, e2, Int.toNat_natCast, Int.toNat_natCast]
    rcases hc_ with (h9 | h9) | h9
    ·rw [decide_eq_true h9]; simp only [Bool.not_true, Bool.and_false, Bool.false_and]
    ·rw [decide_eq_true h9]; simp only [Bool.not_true, Bool.and_false, Bool.false_and]
    ·rw [decide_eq_false h9]; simp only [Bool.and_false]
   exact vQ (k + 1, τ, l) ⟨by dsimp only; omega, by dsimp only; rw [hl, htk, List.filter_append, List.filter_cons, if_neg (by rw [hg2]; decide), List.filter_nil, List.append_nil]⟩ (by dsimp only; omega) leP leP
 ·have hkl : k = L.length := by omega
  have hL' : l = L.filter (cohG x) := by rw [hl, hkl, List.take_length]
  subst hL'
  have f3 : Frozen 3 := ⟨trivial⟩
  have f61 : Frozen 61 := ⟨trivial⟩
  have f62 : Frozen 62 := ⟨trivial⟩
  have hfz := xW
  have hC : Own E.P 60 [.d (.sl 1 [catRow (L.filter (cohG x)), catRow (rfF x), catRow (coF x), catRow (frF x)])] 2 ((L.filter (cohG x) ++ (rfF x ++ (coF x ++ frF x))).map pairO') := by
   have h5 := List.length_filter_le (cohG x) L
   have := concat_o [L.filter (cohG x), rfF x, coF x, frF x] (by simp only [List.flatten_cons, List.flatten_nil, List.length_append, List.length_nil]; omega) (by simp)
   simpa using this
  refine run ?_; refine aoR fun _ => ?_
  refine run ?_; refine cnd ?_ ?_
  refine uN fun _ => ?_; try omega
  refine uR fun _ => ?_; try omega
  refine run ?_
  refine vF (E := E) ?_ (fun _ => ?_); exact rfl
  refine run ?_
  apply mD; assumption; exact rfl; exact .fn _ _ _; exact rfl; exact hC; exact xW _; exact rfl
  apply yD; exact rfl; exact .fn _ _ _; exact rfl; exact hA
  refine run ?_; rotate_left
  exact vI rfl rfl
set_option maxHeartbeats 4000000 in
theorem ordered_p (x : Ex) (hx : x.rel) : Pure E.P 38 [jdOV x (rfF x) (coF x) (frF x)] (.bool (!circleB x.evs.length (gloL x))) := by
 have hA : Pure E.P 59 [.int .i64 x.evs.length, .d (pairsTV (gloL x))] (.bool (!circleB x.evs.length (gloL x))) := by
  have := kQ x.evs.length (gloL x) (gloL_len hx)
  rwa [gG hx.len (nJ x)] at this
 have hR := arrows_p x hx
 have f1 : Frozen 1 := ⟨trivial⟩
 refine fnA Tryz.func38 Tryz.ntmps38 ?_
 refine run ?_; refine aoR fun _ => ?_
 refine run ?_
 refine vF (E := E) ?_ (fun _ => ?_); exact rfl
 refine run ?_
 apply yD; exact rfl; exact .fn _ _ _; exact rfl; exact hR
 apply yD; exact rfl; exact .fn _ _ _; exact rfl; exact hA
 refine run ?_; rotate_left
 exact vI rfl rfl
def judB (x : Ex) : Bool × Bool × Bool := (!circleB x.evs.length (rcohL x), !circleB x.evs.length (gloL x), ratB x)
def judT (x : Ex) : (Bool × Bool × Bool) × Int := if checkI x = 0 then (judB x, 0) else ((false, false, false), checkI x)
theorem nT {t u T : Nat} {te : TE} {k : Nat} {τ : Stamp} {row : List OV} {rest : List (List OV)} {s : OV} {tm : Tm} {σ : Store} {R : OV → Store → Prop} (hT : E.tab T = some te) (ha : te.k.isAgg = true) (hs : te.size = row.length) (ht : tm t = some (.lo k τ te.size 0 0)) (hk : σ k = some (τ, ⟨te.size, row :: rest⟩)) (hu : tm u = some s) (hR : R (.tu [.ag row, s]) σ) : DoneN E [.cell t T, .tmp u] R .ret tm σ :=
 ⟨_, ⟨_, _, rfl, ⟨_, _, _, _, _, hT, ha, hs, ht, hk, rfl⟩, _, _, rfl, hu, rfl⟩, hR⟩
section
variable {E : Env} {v j : Nat} {ops : Array Oper} {KD : List Foot → Tm → Store → Prop} {acc : List Foot} {rest : List Oper} {tm : Tm} {σ : Store} {ty : TypeId} {pos : String} {af : Array Edge}
theorem pC {dst : Option Tmp} {x : Operand} {k : Nat} {τ : Stamp} {a i o : Nat} (hx : ev tm x = some (.lo k τ a i o)) (hcont : DO E.P v ops KD (j + 1) rest (tm.putO dst (.lo k τ a i o)) (σ.apply []) (Foot.mk [] (wkeys []) :: acc)) : DO E.P v ops KD j (⟨dst, .nilCheck x, ty, pos, af, none⟩ :: rest) tm σ acc := dK rfl hx hcont
end
def vrow (b : Bool × Bool × Bool) (k : Nat) : List OV := [.bool (decide (0 < k) && b.1), .bool (decide (1 < k) && b.2.1), .bool (decide (2 < k) && b.2.2)]
set_option maxHeartbeats 4000000 in
theorem Judge_p (x : Ex) (hx : x.fit) (hN : x.evs.length ≤ 32) : Pure E.P 17 [exOV x] (.tu [judOV (judT x).1, .int .i64 (judT x).2]) := by
 have hk := yI _ hx.1 hx.2
 have f1 : Frozen 1 := ⟨trivial⟩
 have f5 : Frozen 5 := ⟨trivial⟩
 refine FnW.toR ?_
 refine wQ (vs := [.cell 2 34, .tmp 3]) Tryz.func17 (by decide) rfl Tryz.ntmps17 (Nat.le_of_ble_eq_true rfl) rfl ?_
 by_cases hc : checkI x = 0
 rotate_left
 ·refine run ?_
  refine aoR fun _ => ?_; refine run ?_
  refine aoR fun _ => ?_; refine run ?_
  apply uO; exact rfl; exact .fn _ _ _; exact rfl; exact hk
  refine run ?_; refine aoR fun _ => ?_
  refine run ?_; refine cnd ?_ ?_
  refine xG (fun _ => ?_); (try omega)
  refine run ?_; refine aoR fun _ => ?_
  refine run ?_; rotate_left
  refine xA (fun _ => ?_); (try omega)
  refine nT rfl rfl rfl rfl rfl rfl ?_
  unfold judT
  rw [if_neg hc]
  rfl
 rw [hc] at hk
 have hr : x.rel := ⟨hx, hc⟩
 have hof := of_p x hx
 have hB : judT x = (judB x, 0) := by unfold judT; rw [if_pos hc]
 have h1 : Pure E.P 37 [jdOV x (rfF x) (coF x) (frF x)] (.bool (judB x).1) := coherent_p x hr hN
 have h2 : Pure E.P 38 [jdOV x (rfF x) (coF x) (frF x)] (.bool (judB x).2.1) := ordered_p x hr
 have h3 : Pure E.P 39 [jdOV x (rfF x) (coF x) (frF x)] (.bool (judB x).2.2) := by
  have := atomic_p x hr (rfF x) (coF x) (frF x)
  rwa [atom_eq hr] at this
 rw [hB]
 generalize judB x = B at h1 h2 h3
 refine run ?_; refine aoR fun _ => ?_
 refine run ?_; refine aoR fun _ => ?_
 refine run ?_
 apply uO; exact rfl; exact .fn _ _ _; exact rfl; exact hk
 refine run ?_; refine aoR fun _ => ?_
 refine run ?_; refine cnd ?_ ?_
 refine xG (fun _ => ?_); (try omega)
 refine xA (fun _ => ?_); (try omega)
 refine run ?_; refine aoR fun _ => ?_
 refine run ?_
 apply uO; exact rfl; exact .fn _ _ _; exact rfl; exact hof
 refine run ?_; refine aoR fun _ => ?_
 refine run ?_; refine aoR fun _ => ?_
 refine run ?_; rotate_left
 rename_i v2 _ _ _ _ v6 v30
 refine vJ (X := Nat) (fun k => tmL [(2, .lo 2 (v2, 1) 3 0 0), (6, .lo 6 (v6, 1) 3 0 0), (30, .os 30 (v30, 12) 2 3), (31, .int .i64 3), (32, .int .i64 k)])
  (fun k => stL [(2, ((v2, 1), ⟨3, [[.bool false, .bool false, .bool false]]⟩)), (6, ((v6, 1), ⟨3, [vrow B k]⟩)), (30, ((v30, 12), ⟨2, [[.lo 6 (v6, 1) 3 0 0, .fn 37 [jdOV x (rfF x) (coF x) (frF x)] []], [.lo 6 (v6, 1) 3 0 1, .fn 38 [jdOV x (rfF x) (coF x) (frF x)] []], [.lo 6 (v6, 1) 3 0 2, .fn 39 [jdOV x (rfF x) (coF x) (frF x)] []]]⟩))])
  (fun k => k ≤ 3) (fun k => 3 - k) 0 (Nat.zero_le _) leP leP ?_
 intro k hk3
 by_cases h30 : k = 3
 ·subst h30
  refine run ?_; refine aoR fun _ => ?_
  refine run ?_; refine cnd ?_ ?_
  refine uN fun _ => ?_; try omega
  refine uR fun _ => ?_; try omega
  refine run ?_; refine aoR fun _ => ?_
  refine run ?_; rotate_left
  refine nT rfl rfl rfl rfl rfl rfl ?_
  rfl
 have h012 : k = 0 ∨ k = 1 ∨ k = 2 := by omega
 rcases h012 with rfl | rfl | rfl
 ·refine run ?_
  refine aoR fun _ => ?_; refine run ?_
  refine cnd ?_ ?_
  refine uN fun _ => ?_; try omega
  refine run ?_; refine aoR fun _ => ?_
  refine run ?_
  refine vF (E := E) ?_ (fun _ => ?_); exact rfl
  refine run ?_
  apply yD; exact rfl; exact .fn _ _ _; exact rfl; exact h1
  apply pC; exact rfl
  refine run ?_; refine aoR fun _ => ?_
  refine run ?_; rotate_left
  refine uR fun _ => ?_; try omega
  exact vQ 1 (by omega) (by omega) leP leP
 ·refine run ?_
  refine aoR fun _ => ?_; refine run ?_
  refine cnd ?_ ?_
  refine uN fun _ => ?_; try omega
  refine run ?_; refine aoR fun _ => ?_
  refine run ?_
  refine vF (E := E) ?_ (fun _ => ?_); exact rfl
  refine run ?_
  apply yD; exact rfl; exact .fn _ _ _; exact rfl; exact h2
  apply pC; exact rfl
  refine run ?_; refine aoR fun _ => ?_
  refine run ?_; rotate_left
  refine uR fun _ => ?_; try omega
  exact vQ 2 (by omega) (by omega) leP leP
 ·refine run ?_
  refine aoR fun _ => ?_; refine run ?_
  refine cnd ?_ ?_
  refine uN fun _ => ?_; try omega
  refine run ?_; refine aoR fun _ => ?_
  refine run ?_
  refine vF (E := E) ?_ (fun _ => ?_); exact rfl
  refine run ?_
  apply yD; exact rfl; exact .fn _ _ _; exact rfl; exact h3
  apply pC; exact rfl
  refine run ?_; refine aoR fun _ => ?_
  refine run ?_; rotate_left
  refine uR fun _ => ?_; try omega
  exact vQ 3 (by omega) (by omega) leP leP
def allowB (x : Ex) : Bool := (judB x).1 && (judB x).2.1 && (judB x).2.2
def allowT (x : Ex) : Bool × Int := if checkI x = 0 then (allowB x, 0) else (false, checkI x)
theorem allow_eq (x : Ex) : eqV (judT x).1 (true, true, true) = (allowT x).1 ∧ (judT x).2 = (allowT x).2 := by
 unfold judT allowT
 by_cases hc : checkI x = 0
 ·rw [if_pos hc, if_pos hc]
  refine ⟨?_, rfl⟩
  unfold eqV allowB
  generalize judB x = B
  obtain ⟨a, b, c⟩ := B
  cases a <;> cases b <;> cases c <;> rfl
 ·rw [if_neg hc, if_neg hc]
  exact ⟨rfl, rfl⟩
set_option maxHeartbeats 4000000 in
theorem cM (x : Ex) (hx : x.fit) (hN : x.evs.length ≤ 32) : Pure E.P 15 [exOV x] (.tu [.bool (allowT x).1, .int .i64 (allowT x).2]) := by
 have hJ := Judge_p x hx hN
 obtain ⟨e1, e2⟩ := allow_eq x
 rw [← e1, ← e2]
 have f1 : Frozen 1 := ⟨trivial⟩
 refine FnW.toR ?_
 refine wQ (vs := [.tmp 2, .tmp 3]) Tryz.func15 (by decide) rfl Tryz.ntmps15 (Nat.le_of_ble_eq_true rfl) rfl ?_
 refine run ?_; refine aoR fun _ => ?_
 refine run ?_; refine aoR fun _ => ?_
 refine run ?_
 apply uO; exact rfl; exact .fn _ _ _; exact rfl; exact hJ
 refine run ?_; refine aoR fun _ => ?_
 refine run ?_
 apply S_eqlV (judT x).1 (true, true, true); exact rfl; exact rfl
 refine run ?_; rotate_left
 exact aK rfl rfl rfl
def arrT (x : Ex) : List (Int × Int) × Int := if checkI x = 0 then (gloL x, 0) else ([], checkI x)
structure Straight (x : Ex) : Prop where
 rel : x.rel
 rise : ∀ r, r < x.order.length → (x.order.getD r default).2.Pairwise (· < ·)
 src : ∀ i, i < x.evs.length → (x.evs.getD i default).ldB = true → x.from_.getD i 0 < i
 last : ∀ i, i < x.evs.length → (x.evs.getD i default).ldB = true → ∀ b : Nat, b < x.evs.length → (x.evs.getD b default).stB = true → (x.evs.getD b default).addr = (x.evs.getD i default).addr → x.from_.getD i 0 < b → i < b
 plain : ∀ i, i < x.evs.length → (x.evs.getD i default).rsv = false ∧ (x.evs.getD i default).kind ≠ 3
theorem cB {l : List Ev} {i : Nat} (h : i < l.length) : l.getD i default ∈ l := by
 rw [List.getD_eq_getElem?_getD, List.getElem?_eq_getElem h]; exact List.getElem_mem _
theorem qY {x : Ex} (h : Straight x) {a b : Nat} (ha : a < x.evs.length) (hb : b < x.evs.length) (hc : isCoB x a b = true) : a < b := by
 obtain ⟨_, _, _, h4⟩ := uV h.rel.check
 unfold isCoB at hc
 simp only [Bool.and_eq_true, decide_eq_true_eq] at hc
 obtain ⟨⟨⟨s1, s2⟩, e⟩, hp⟩ := hc
 have hk : (x.evs.getD a default).kind ≠ 4 := by
  intro hk
  unfold Ev.stB at s1
  rw [hk] at s1
  exact absurd s1 (by decide)
 obtain ⟨hl, _⟩ := wM h4
 have hm : (x.evs.getD a default).addr ∈ addrsTo x.evs := (fC _ _).2 ⟨_, cB ha, hk, rfl⟩
 obtain ⟨r, hr, er⟩ := List.getElem_of_mem hm
 have er' : (addrsTo x.evs).getD r 0 = (x.evs.getD a default).addr := by rw [List.getD_eq_getElem?_getD, List.getElem?_eq_getElem hr, er]; rfl
 have hr' : r < x.order.length := by omega
 have m1 : (a : Int) ∈ (x.order.getD r default).2 := (wT h4 hr').2 ((yM _ _ _ _).2 ⟨ha, s1, er'.symm⟩)
 have m2 : (b : Int) ∈ (x.order.getD r default).2 := (wT h4 hr').2 ((yM _ _ _ _).2 ⟨hb, s2, by rw [← e]; exact er'.symm⟩)
 obtain ⟨i, hi, ei⟩ := List.getElem_of_mem m1
 obtain ⟨j, hj, ej⟩ := List.getElem_of_mem m2
 have p1 := yL h4 hr' hi (a := a) (by rw [List.getD_eq_getElem?_getD, List.getElem?_eq_getElem hi, ei]; rfl)
 have p2 := yL h4 hr' hj (a := b) (by rw [List.getD_eq_getElem?_getD, List.getElem?_eq_getElem hj, ej]; rfl)
 rw [p1, p2] at hp
 have := List.pairwise_iff_getElem.1 (h.rise r hr') i j hi hj (by omega)
 rw [ei, ej] at this
 omega
theorem sI {x : Ex} (h : Straight x) {a b : Nat} (ha : a < x.evs.length) (hb : b < x.evs.length) (hf : isFrB x a b = true) : a < b := by
 obtain ⟨_, _, h3, _⟩ := uV h.rel.check
 unfold isFrB at hf
 simp only [Bool.and_eq_true] at hf
 obtain ⟨⟨_, hl⟩, hc⟩ := hf
 obtain ⟨u1, u2⟩ := dZ h3 ha
 have g0 := u1.1 hl
 obtain ⟨g1, _, _, g4⟩ := u2 hl
 have hu := qY h (a := (x.from_.getD a 0).toNat) (by omega) hb hc
 unfold isCoB at hc
 simp only [Bool.and_eq_true, decide_eq_true_eq] at hc
 exact h.last a ha hl b hb hc.1.1.2 (by rw [← hc.1.2, g4]) (by omega)
theorem Straight.allowed {x : Ex} (h : Straight x) : allowB x = true := by
 have hl : x.evs.length ≤ 64 := h.rel.len
 have rf_up : ∀ a b : Nat, b < x.evs.length → isRf x a b = true → a < b := fun a b hb hr => by
  unfold isRf at hr
  simp only [Bool.and_eq_true, decide_eq_true_eq] at hr
  have := h.src b hb hr.1
  omega
 unfold allowB judB
 dsimp only
 simp only [Bool.and_eq_true, Bool.not_eq_true']
 refine ⟨⟨(zY hl (eY x)).2 ⟨id, fun a b hab => ?_⟩, (zY hl (nJ x)).2 ⟨id, fun a b hab => ?_⟩⟩, ?_⟩
 ·obtain ⟨q, hq, e1, e2⟩ := hab
  unfold rcohL cohL at hq
  simp only [List.mem_append, List.mem_filter] at hq
  have go : ∀ f : Nat → Nat → Bool, (∀ a b : Nat, a < x.evs.length → b < x.evs.length → f a b = true → a < b) → q ∈ refPairs x.evs.length f → a < b := fun f hf hm => by
   obtain ⟨a', b', g1, g2, g3, rfl⟩ := uP.1 hm
   dsimp only at e1 e2
   have := hf a' b' g1 g2 g3
   omega
  rcases hq with ((hq | hq) | hq) | ⟨hq, _⟩
  ·exact go _ (fun a b _ hb => rf_up a b hb) hq
  ·exact go _ (fun a b ha hb => qY h ha hb) hq
  ·exact go _ (fun a b ha hb => sI h ha hb) hq
  ·exact go _ (fun a b _ _ hp => by unfold isPo at hp; simp only [Bool.and_eq_true, decide_eq_true_eq] at hp; exact hp.1.1) hq
 ·unfold gloL at hab
  rw [arr_mem] at hab
  obtain ⟨g1, g2, g3⟩ := hab
  unfold globB glob at g3
  simp only [Bool.or_eq_true, Bool.and_eq_true] at g3
  rcases g3 with ((g3 | g3) | g3) | ⟨g3, _⟩
  ·obtain ⟨r, _, hr⟩ := List.any_eq_true.1 g3
   unfold ruleB at hr
   have := kA (Bool.and_eq_true _ _ ▸ hr).1
   unfold isPo at this
   simp only [Bool.and_eq_true, decide_eq_true_eq] at this
   exact this.1.1
  ·exact qY h g1 g2 g3
  ·exact sI h g1 g2 g3
  ·exact rf_up a b g2 g3
 ·unfold ratB
  rw [List.all_eq_true]
  intro n hn
  have hn' := List.mem_range.1 hn
  obtain ⟨p1, p2⟩ := h.plain n hn'
  unfold ratEv ratR
  rw [if_neg p2]
  unfold pairedI
  rw [if_neg (by rw [p1]; simp)]
  simp
theorem vL {α : Type} {l : List α} {x d : α} {i : Nat} (h : i < l.length) : (l ++ [x]).getD i d = l.getD i d := by
 rw [List.getD_eq_getElem?_getD, List.getD_eq_getElem?_getD, List.getElem?_append_left h]
theorem wZ {α : Type} {l : List α} {x d : α} {i : Nat} (h : i = l.length) : (l ++ [x]).getD i d = x := by
 subst h
 rw [List.getD_eq_getElem?_getD, List.getElem?_append_right (Nat.le_refl _)]; simp
theorem cV {es : List Ev} {e : Ev} {n : Nat} (hn : n < es.length) (l : List Int) : hangsB (es ++ [e]) n l = hangsB es n l := by
 unfold hangsB hangsTo
 rw [Bool.eq_iff_iff, List.all_eq_true, List.all_eq_true]
 refine forall_congr' fun i => forall_congr' fun _ => ?_
 unfold depOk
 by_cases h0 : l.getD i 0 < 0
 ·rw [decide_eq_true h0]; simp
 by_cases h1 : (n : Int) ≤ l.getD i 0
 ·rw [decide_eq_true h1]; simp
 rw [vL (i := (l.getD i 0).toNat) (by omega), vL hn]
theorem evPre_snoc {es : List Ev} {e : Ev} {n : Nat} (hn : n < es.length) : evPre (es ++ [e]) n = evPre es n := by
 unfold evPre
 rw [vL hn, cV hn, cV hn, cV hn]
theorem evOk_snoc {es : List Ev} {e : Ev} {ad : List Int} {n : Nat} (hn : n < es.length) : evOk (es ++ [e]) ad n = evOk es ad n := by
 unfold evOk
 rw [evPre_snoc hn, vL hn, vL (i := n - 1) (by omega)]
theorem kP {a : Int} : ∀ {l : List Int}, l.Pairwise (· < ·) → a ∈ l → addIn a l = l
 | [], _, h => by cases h
 | y :: r, hp, h => by
  rw [List.pairwise_cons] at hp
  unfold addIn
  rcases List.mem_cons.1 h with h | h
  ·subst h
   split
   ·omega
   ·first | rfl | (split <;> first | rfl | omega)
  ·have := hp.1 a h
   have ih := kP hp.2 h
   grind
theorem addrs_snoc {es : List Ev} {e : Ev} (h : e.kind ≠ 4 → e.addr ∈ addrsTo es) : addrsTo (es ++ [e]) = addrsTo es := by
 rw [eR]
 split
 ·rfl
 ·rename_i h4; exact kP (yW es) (h h4)
theorem fromOk_snoc {es : List Ev} {e : Ev} {fs : List Int} {f : Int} {k : Nat} (hk : k < es.length) (hl : fs.length = es.length) (h : fromOk es fs k = true) : fromOk (es ++ [e]) (fs ++ [f]) k = true := by
 unfold fromOk at h ⊢
 rw [vL hk, vL (l := fs) (by omega)]
 simp only [Bool.or_eq_true, Bool.and_eq_true, Bool.not_eq_true', beq_iff_eq, decide_eq_false_iff_not, beq_eq_false_iff_ne] at h ⊢
 rcases h with h | ⟨⟨⟨⟨h1, h2⟩, h3⟩, h4⟩, h5⟩
 ·exact Or.inl h
 ·refine Or.inr ⟨⟨⟨⟨h1, h2⟩, h3⟩, by simp only [List.length_append, List.length_singleton]; omega⟩, ?_⟩
  unfold srcOk at h5 ⊢
  rw [vL (by omega)]
  exact h5
theorem want_snoc {es : List Ev} {e : Ev} {a : Int} : wantTo (es ++ [e]) a (es ++ [e]).length = if (e.stB && (e.addr == a)) = true then wantTo es a es.length ++ [(es.length : Int)] else wantTo es a es.length := by
 rw [List.length_append, List.length_singleton, fT, wZ rfl]
 have : wantTo (es ++ [e]) a es.length = wantTo es a es.length := by
  unfold wantTo
  congr 1
  refine List.filter_congr fun n hn => ?_
  rw [vL (List.mem_range.1 hn)]
 rw [this]
theorem wantTo_lt (es : List Ev) (a : Int) : ∀ x ∈ wantTo es a es.length, x < (es.length : Int) := fun x hx => by
 unfold wantTo at hx
 obtain ⟨n, h1, rfl⟩ := List.mem_map.1 hx
 have := List.mem_range.1 (List.mem_filter.1 h1).1
 simp only [Int.ofNat_eq_natCast]; omega
theorem sortI_snoc {l w : List Int} {n : Int} (h : sortI l = w) (hw : ∀ x ∈ w, x < n) : sortI (l ++ [n]) = w ++ [n] := by
 have hp : (l ++ [n]).Perm (w ++ [n]) := List.Perm.append_right [n] (by rw [← h]; exact (List.mergeSort_perm l _).symm)
 have hs : w.Pairwise fun a b => decide (a ≤ b) = true := by
  rw [← h]; unfold sortI
  exact List.pairwise_mergeSort (fun a b c h1 h2 => by simp only [decide_eq_true_eq] at *; omega) (fun a b => by simp only [Bool.or_eq_true, decide_eq_true_eq]; omega) l
 have hs' : (w ++ [n]).Pairwise fun a b => decide (a ≤ b) = true := by
  rw [List.pairwise_append]
  exact ⟨hs, List.pairwise_singleton _ _, fun a ha b hb => by
   rw [List.mem_singleton.1 hb]; have := hw a ha; exact decide_eq_true (by omega)⟩
 have h2 : (sortI (l ++ [n])).Pairwise fun a b => decide (a ≤ b) = true := List.pairwise_mergeSort (fun a b c h1 h2 => by simp only [decide_eq_true_eq] at *; omega) (fun a b => by simp only [Bool.or_eq_true, decide_eq_true_eq]; omega) _
 exact ((List.mergeSort_perm (l ++ [n]) _).trans hp).eq_of_pairwise (fun a b _ _ h3 h4 => by simp only [decide_eq_true_eq] at *; omega) h2 hs'
structure Next (x : Ex) (e : Ev) (f : Int) : Prop where
 len : x.evs.length < 64
 k5 : e.kind ≠ 5
 bare : e.bareB = true
 a4 : e.addr % 4 = 0
 hangs : hangsB (x.evs ++ [e]) x.evs.length e.addrs = true ∧ hangsB (x.evs ++ [e]) x.evs.length e.datas = true ∧ hangsB (x.evs ++ [e]) x.evs.length e.ctrls = true
 hart : 0 ≤ e.hart ∧ e.hart < 4
 prev : x.evs.length = (addrsTo x.evs).length ∨ (x.evs.getD (x.evs.length - 1) default).hart ≤ e.hart
 addr : e.kind ≠ 4 → e.addr ∈ addrsTo x.evs
 src : (e.ldB = false ∧ f = -1) ∨ (e.ldB = true ∧ 0 ≤ f ∧ f < x.evs.length ∧ (x.evs.getD f.toNat default).stB = true ∧ (x.evs.getD f.toNat default).addr = e.addr ∧ (x.evs.getD f.toNat default).val = e.rval)
theorem check_of {x : Ex} (h1 : x.evs.length ≤ 64) (h2 : evsTo x.evs (addrsTo x.evs) x.evs.length = true) (h3 : fromB x.evs x.from_ = true) (h4 : orderB x.evs (addrsTo x.evs) x.order = true) : checkI x = 0 := by
 unfold checkI
 rw [if_neg (by omega), if_neg (by rw [h2]; decide), if_neg (by rw [h3]; decide), if_neg (by rw [h4]; decide)]
theorem check_snoc {x y : Ex} {e : Ev} {f : Int} (hc : checkI x = 0) (hn : Next x e f) (he : y.evs = x.evs ++ [e]) (hf : y.from_ = x.from_ ++ [f]) (hol : y.order.length = x.order.length)
  (ho : ∀ i, i < x.order.length → (y.order.getD i default).2 = if (e.stB && (e.addr == (addrsTo x.evs).getD i 0)) = true then (x.order.getD i default).2 ++ [(x.evs.length : Int)] else (x.order.getD i default).2) : checkI y = 0 ∧ addrsTo y.evs = addrsTo x.evs := by
 obtain ⟨h1, h2, h3, h4⟩ := uV hc
 have had : addrsTo y.evs = addrsTo x.evs := by rw [he]; exact addrs_snoc hn.addr
 refine ⟨check_of ?_ ?_ ?_ ?_, had⟩
 ·rw [he, List.length_append, List.length_singleton]; have := hn.len; omega
 ·rw [had, he]
  unfold evsTo at h2 ⊢
  rw [List.all_eq_true] at h2 ⊢
  intro n hnn
  rw [List.mem_range, List.length_append, List.length_singleton] at hnn
  rcases Nat.lt_or_ge n x.evs.length with hlt | hge
  ·rw [evOk_snoc hlt]; exact h2 n (List.mem_range.2 hlt)
  ·have e1 : n = x.evs.length := by omega
   subst e1
   have hal := yB x.evs
   unfold evOk evPre
   rw [wZ rfl, hn.bare, hn.hangs.1, hn.hangs.2.1, hn.hangs.2.2, if_neg (by omega)]
   simp only [Bool.true_and, Bool.and_true, Bool.and_eq_true, beq_iff_eq, bne_iff_ne, decide_eq_true_eq, Bool.or_eq_true]
   refine ⟨hn.a4, ⟨⟨hn.k5, hn.hart.1⟩, hn.hart.2⟩, ?_⟩
   rcases hn.prev with hp | hp
   ·left; omega
   ·by_cases e2 : x.evs.length = (addrsTo x.evs).length
    ·left; omega
    ·right; rw [vL (by omega)]; exact hp
 ·have hl := xO h3
  unfold fromB
  rw [he, hf]
  simp only [List.length_append, List.length_singleton, hl, decide_true, Bool.true_and]
  unfold fromTo
  rw [List.all_eq_true]
  intro k hk
  rw [List.mem_range] at hk
  rcases Nat.lt_or_ge k x.evs.length with hlt | hge
  ·exact fromOk_snoc hlt hl (gM h3 (by omega))
  ·have e1 : k = x.evs.length := by omega
   subst e1
   unfold fromOk
   rw [wZ rfl, wZ (l := x.from_) hl.symm]
   rcases hn.src with ⟨g1, g2⟩ | ⟨g1, g2, g3, g4, g5, g6⟩
   ·rw [g1, g2]; rfl
   ·rw [g1]
    simp only [Bool.not_true, Bool.false_and, Bool.false_or, Bool.true_and, Bool.and_eq_true, Bool.not_eq_true', beq_eq_false_iff_ne, decide_eq_false_iff_not]
    refine ⟨⟨⟨by omega, by omega⟩, by simp only [List.length_append, List.length_singleton]; omega⟩, ?_⟩
    unfold srcOk
    rw [vL (by omega), g4, g5, g6]
    simp
 ·unfold orderB at h4 ⊢
  simp only [Bool.and_eq_true, decide_eq_true_eq] at h4 ⊢
  refine ⟨by rw [had, hol]; exact h4.1, ?_⟩
  have h5 := h4.2
  unfold rowsTo at h5 ⊢
  rw [List.all_eq_true] at h5 ⊢
  intro i hi
  rw [List.mem_range, hol] at hi
  have h6 := h5 i (List.mem_range.2 hi)
  have h7 := ho i hi
  rw [had]
  unfold rowOk at h6 ⊢
  simp only [Bool.and_eq_true, Bool.not_eq_true', beq_eq_false_iff_ne, bne_eq_false_iff_eq, beq_iff_eq] at h6 ⊢
  obtain ⟨⟨g1, g2⟩, g3⟩ := h6
  rw [he, want_snoc, h7]
  by_cases hs : (e.stB && (e.addr == (addrsTo x.evs).getD i 0)) = true
  ·rw [if_pos hs, if_pos hs]
   refine ⟨⟨by simp, ?_⟩, sortI_snoc g3 (wantTo_lt _ _)⟩
   rw [vL (by omega)]; exact g2
  ·rw [if_neg hs, if_neg hs]
   exact ⟨⟨g1, g2⟩, g3⟩
structure OnA where
 at_ : Int
 st : Bool
 v : Int
 deriving Inhabited
structure OnS where
 es : List Ev
 fs : List Int
 os : List (List Int)
 old : Int
def OnS.ex (s : OnS) : Ex := ⟨default, default, default, s.es, s.fs, s.os.map fun r => (default, r)⟩
def evo (h k ad v rv : Int) : Ev := ⟨h, k, ad, v, rv, false, false, 0, 0, false, ⟨none, 0, 0⟩, ⟨none, 0, 0⟩, ⟨none, 0, 0⟩, [], [], []⟩
def onBeg (a : Nat) : Ev := evo (-1) 5 (4 * (a : Int)) 0 0
def on0 : OnS := ⟨[onBeg 0, onBeg 1, onBeg 2, onBeg 3], [-1, -1, -1, -1], [[0], [1], [2], [3]], -1⟩
def onW (c : OnA) : Nat := (c.at_ % 4).toNat
def onRow (c : OnA) (s : OnS) : List Int := s.os.getD (onW c) []
def onLast (c : OnA) (s : OnS) : Nat := ((onRow c s).getD ((onRow c s).length - 1) 0).toNat
def onEv (c : OnA) (s : OnS) : Ev := if c.st = true then evo 0 2 (4 * (onW c : Int)) c.v 0 else evo 0 1 (4 * (onW c : Int)) 0 (s.es.getD (onLast c s) default).val
def onFrom (c : OnA) (s : OnS) : Int := if c.st = true then -1 else (onLast c s : Int)
def onStep (c : OnA) (s : OnS) : OnS := ⟨s.es ++ [onEv c s], s.fs ++ [onFrom c s], if c.st = true then s.os.set (onW c) (onRow c s ++ [(s.es.length : Int)]) else s.os, if 1 < (onRow c s).length then (s.es.length : Int) else s.old⟩
def onTo (l : List OnA) : Nat → OnS
 | 0 => on0
 | i + 1 => onStep (l.getD i default) (onTo l i)
def OnA.ok (c : OnA) : Prop := (0 ≤ c.at_ ∧ c.at_ < 256) ∧ 0 ≤ c.v ∧ c.v < 4294967296
theorem cX (s : OnS) {r : Nat} : (s.ex.order.getD r default).2 = s.os.getD r [] := by
 show ((s.os.map fun r => ((default : Sl), r)).getD r default).2 = _
 rw [List.getD_eq_getElem?_getD, List.getD_eq_getElem?_getD, List.getElem?_map]
 cases s.os[r]? <;> rfl
structure OnOk (s : OnS) : Prop where
 check : checkI s.ex = 0
 ad : addrsTo s.es = [0, 4, 8, 12]
 len4 : 4 ≤ s.es.length
 fl : s.fs.length = s.es.length
 ol : s.os.length = 4
 ok : ∀ e ∈ s.es, e.ok
 hart : (s.es.getD (s.es.length - 1) default).hart ≤ 0
 acc : ∀ i, i < s.es.length → (s.es.getD i default).rsv = false ∧ (s.es.getD i default).kind ≠ 3 ∧ (4 ≤ i → (s.es.getD i default).hart = 0 ∧ (s.es.getD i default).kind ≠ 4)
 beg : ∀ w, w < 4 → s.es.getD w default = onBeg w
 rise : ∀ w, w < 4 → (s.os.getD w []).Pairwise (· < ·)
 src : ∀ i, i < s.es.length → (s.es.getD i default).ldB = true → s.fs.getD i 0 < i
 last : ∀ i, i < s.es.length → (s.es.getD i default).ldB = true → ∀ b : Nat, b < s.es.length → (s.es.getD b default).stB = true → (s.es.getD b default).addr = (s.es.getD i default).addr → s.fs.getD i 0 < b → i < b
 old : s.old = -1 ∨ ∃ m b : Nat, s.old = (m : Int) ∧ 4 ≤ b ∧ b < m ∧ m < s.es.length ∧ (s.es.getD b default).stB = true ∧ (s.es.getD b default).addr = (s.es.getD m default).addr
theorem oQ {h k ad v rv : Int} (h1 : -1 ≤ h ∧ h ≤ 3) (h2 : 0 ≤ k ∧ k ≤ 5) (h3 : 0 ≤ ad ∧ ad < 4294967296) (h4 : 0 ≤ v ∧ v < 4294967296) (h5 : 0 ≤ rv ∧ rv < 4294967296) : (evo h k ad v rv).ok := by
 unfold Ev.ok Ev.wf evo
 exact ⟨⟨by dsimp only; omega, by dsimp only; omega, h3, h4, h5, by dsimp only; omega, by dsimp only; omega⟩, Nat.zero_le _, Nat.zero_le _, Nat.zero_le _, rfl, rfl, rfl⟩
theorem nA {s : OnS} (h : OnOk s) (hl : s.es.length ≤ 16) : s.ex.rel := by
 have hrow : ∀ r ∈ s.ex.order, r.2.length ≤ 65536 := fun r hr => by
  obtain ⟨l, hl', rfl⟩ := List.mem_map.1 hr
  obtain ⟨i, hi, rfl⟩ := List.getElem_of_mem hl'
  have hrise := h.rise i (by rw [← h.ol]; exact hi)
  rw [List.getD_eq_getElem?_getD, List.getElem?_eq_getElem hi] at hrise
  have hc := (uV h.check).2.2.2
  have hm := (wM hc).2 i (by show i < (s.os.map _).length; rw [List.length_map]; exact hi)
  have e := congrArg List.length hm.1
  unfold sortI at e
  rw [List.length_mergeSort, cX, List.getD_eq_getElem?_getD, List.getElem?_eq_getElem hi] at e
  have := gR s.ex.evs ((addrsTo s.ex.evs).getD i 0) s.ex.evs.length
  rw [← e] at this
  have h2 : s.ex.evs.length ≤ 16 := hl
  exact Nat.le_trans this (by omega)
 exact ⟨⟨⟨by show s.es.length ≤ _; omega, h.ok, by show s.fs.length ≤ _; rw [h.fl]; omega, by show (s.os.map _).length ≤ _; rw [List.length_map, h.ol]; decide, fun r hr => by have := hrow r hr; omega⟩, hrow⟩, h.check⟩
theorem on_straight {s : OnS} (h : OnOk s) (hl : s.es.length ≤ 16) : Straight s.ex where
 rel := nA h hl
 rise r hr := by
  rw [cX]
  exact h.rise r (by rw [← h.ol, ← List.length_map (f := fun r => ((default : Sl), r))]; exact hr)
 src := h.src
 last := h.last
 plain i hi := ⟨(h.acc i hi).1, (h.acc i hi).2.1⟩
set_option maxHeartbeats 4000000
set_option maxRecDepth 100000
end Go.Proofs.YtnkocjkkefnelaaGreat
set_option maxHeartbeats 4000000
set_option maxRecDepth 100000
namespace Go.Proofs.YtnkocjkkefnelaaGreat
open Go.RowKit
end Go.Proofs.YtnkocjkkefnelaaGreat
