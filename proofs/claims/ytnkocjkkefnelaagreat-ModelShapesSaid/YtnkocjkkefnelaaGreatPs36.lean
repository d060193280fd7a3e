/- Parts. -/
import Derived.Test.YtnkocjkkefnelaaGreatPs4
import Derived.Test.YtnkocjkkefnelaaGreatPs6
import Derived.Test.YtnkocjkkefnelaaGreatPs7
import Derived.Test.YtnkocjkkefnelaaGreatPs11
import Derived.Test.YtnkocjkkefnelaaGreatPs16
import Derived.Test.YtnkocjkkefnelaaGreatPs17
import Derived.Test.YtnkocjkkefnelaaGreatPs19
import Derived.Test.YtnkocjkkefnelaaGreatPs34
import Derived.Test.YtnkocjkkefnelaaGreatPs35
set_option linter.unusedVariables false
set_option linter.unusedSimpArgs false
set_option maxHeartbeats 4000000
set_option maxHeartbeats 4000000
set_option maxRecDepth 100000
namespace Go.Proofs.YtnkocjkkefnelaaGreat
open Go.RowKit Go.Maps
def pcohL (x : Ex) : List (Int × Int) := (refPairs x.evs.length (isPo x)).filter (cohG x) ++ (rfF x ++ (coF x ++ frF x))
theorem pH {x : Ex} (hx : x.rel) (p : Int × Int) : p ∈ pcohL x ↔ p ∈ rcohL x := by
 unfold pcohL rcohL cohL
 rw [jF hx, jD hx, cB hx.check]
 simp only [List.mem_append]
 constructor
 ·rintro (h | h | h | h)
  ·exact Or.inr h
  ·exact Or.inl (Or.inl (Or.inl h))
  ·exact Or.inl (Or.inl (Or.inr h))
  ·exact Or.inl (Or.inr h)
 ·rintro (((h | h) | h) | h)
  ·exact Or.inr (Or.inl h)
  ·exact Or.inr (Or.inr (Or.inl h))
  ·exact Or.inr (Or.inr (Or.inr h))
  ·exact Or.inl h
theorem any_congr {α : Type} {l l' : List α} (h : ∀ p, p ∈ l ↔ p ∈ l') (f : α → Bool) : l.any f = l'.any f := by
 rw [Bool.eq_iff_iff, List.any_eq_true, List.any_eq_true]
 exact ⟨fun ⟨q, h1, h2⟩ => ⟨q, (h q).1 h1, h2⟩, fun ⟨q, h1, h2⟩ => ⟨q, (h q).2 h1, h2⟩⟩
theorem iY {n : Nat} {l : List (Int × Int)} (hn : n ≤ 64) (hok : l.any (outB n) = false) : acyI n l = !circleB n l := by
 unfold acyI badB
 rw [hok, Int.toNat_natCast, eO hn hok, decide_eq_false (by omega), decide_eq_false (by omega)]
 rfl
theorem pcoh_len {x : Ex} (hx : x.rel) (h : x.evs.length ≤ 32) : (pcohL x).length ≤ 4096 := by
 have hs : x.evs.length * x.evs.length ≤ 1024 := Nat.mul_le_mul h h
 have h1 : (refPairs x.evs.length (isPo x)).length ≤ _ := xH x.evs.length (isPo x) x.evs.length
 have h2 : (refPairs x.evs.length (isRf x)).length ≤ _ := xH x.evs.length (isRf x) x.evs.length
 have h3 : (refPairs x.evs.length (isCoB x)).length ≤ _ := xH x.evs.length (isCoB x) x.evs.length
 have h4 : (refPairs x.evs.length (isFrB x)).length ≤ _ := xH x.evs.length (isFrB x) x.evs.length
 have h5 := List.length_filter_le (cohG x) (refPairs x.evs.length (isPo x))
 unfold pcohL
 rw [jF hx, jD hx, cB hx.check]
 simp only [List.length_append]
 omega
set_option maxHeartbeats 4000000 in
theorem coherent_p (x : Ex) (hx : x.rel) (hN : x.evs.length ≤ 32) : Pure E.P 37 [jdOV x (rfF x) (coF x) (frF x)] (.bool (!circleB x.evs.length (rcohL x))) := by
 have hA : Pure E.P 59 [.int .i64 x.evs.length, .d (pairsTV (pcohL x))] (.bool (!circleB x.evs.length (rcohL x))) := by
  have hok : (pcohL x).any (outB x.evs.length) = false := (any_congr (pH hx) _).trans (lX x)
  have := mW x.evs.length (pcohL x) (pcoh_len hx hN)
  rwa [iY hx.len hok, circleB_congr (pH hx)] at this
 have f1 : Frozen 1 := ⟨trivial⟩
 have f5 : Frozen 5 := ⟨trivial⟩
 have f6 : Frozen 6 := ⟨trivial⟩
 have f7 : Frozen 7 := ⟨trivial⟩
 have f10 : Frozen 10 := ⟨trivial⟩
 have hpo := po_s x hx.fit
 unfold poF at hpo
 rw [if_pos hx.check] at hpo
 obtain ⟨l1, l2, l3, l4⟩ := nU hx
 unfold pcohL at hA
 generalize hL : refPairs x.evs.length (isPo x) = L at hpo hA
 have hln : L.length ≤ 1024 := by
  rw [← hL]
  exact Nat.le_trans (xH x.evs.length (isPo x) x.evs.length) (Nat.mul_le_mul hN hN)
 refine fnA Tryz.func37 Tryz.ntmps37 ?_
 refine run ?_; refine aoR fun _ => ?_
 refine run ?_; refine aoR fun _ => ?_
 refine run ?_; refine aoR fun _ => ?_
 refine run ?_
 apply nY; assumption; exact rfl; exact .fn _ _ _; exact rfl; exact hpo; exact yL _; exact rfl
 refine run ?_; rotate_left
 rename_i v3 _
 have hmem : ∀ k, k < L.length → ∃ a b : Nat, a < x.evs.length ∧ b < x.evs.length ∧ (L.getD k default).1 = (a : Int) ∧ (L.getD k default).2 = (b : Int) := fun k hk' => by
  have : L.getD k default ∈ L := by rw [List.getD_eq_getElem?_getD, List.getElem?_eq_getElem hk']; exact List.getElem_mem hk'
  rw [← hL] at this
  obtain ⟨a, b, g1, g2, _, g3⟩ := vE.1 this
  rw [hL] at g3
  exact ⟨a, b, g1, g2, by rw [g3], by rw [g3]⟩
 refine uT (X := Nat × Stamp × List (Int × Int)) (fun p => tmL [(1, .d (.pt (jdRow x (rfF x) (coF x) (frF x)) 0)), (3, .os 3 p.2.1 2 p.2.2.length), (10, .d (pairsTV L)), (11, .int .i64 L.length), (12, .int .i64 p.1)]) (fun p => stL [(3, (p.2.1, ⟨2, p.2.2.map pairO'⟩))])
  (fun p => p.1 ≤ L.length ∧ p.2.2 = (L.take p.1).filter (cohG x)) (fun p => L.length - p.1) (0, (v3, 0), []) ⟨Nat.zero_le _, by simp⟩ (by repeat' (first | exact vW _ | exact vP _ | refine uL rfl ?_ | refine vH rfl ?_ | (refine vF rfl ?_ ?_; (simp)) | (refine uR rfl ?_ ?_; (simp)) | (refine uS rfl ?_ ?_; (simp)))) leP ?_
 rintro ⟨k, τ, l⟩ ⟨hk', hl⟩
 dsimp only at hk' hl ⊢
 have hlen : l.length ≤ 1024 := by
  rw [hl]
  have h5 := List.length_filter_le (cohG x) (L.take k)
  have h6 : (L.take k).length ≤ L.length := by simp; omega
  omega
 by_cases hlt : k < L.length
 ·obtain ⟨a, b, ha, hb, e1, e2⟩ := hmem k hlt
  have b1 : 0 ≤ (L.getD (k : Int).toNat default).1 ∧ (L.getD (k : Int).toNat default).1 < x.evs.length := by rw [Int.toNat_natCast]; omega
  have b2 : 0 ≤ (L.getD (k : Int).toNat default).2 ∧ (L.getD (k : Int).toNat default).2 < x.evs.length := by rw [Int.toNat_natCast]; omega
  have htk : L.take (k + 1) = L.take k ++ [L.getD k default] := wZ L default k hlt
  have e1' : (L.getD ((k : Int)).toNat default).1 = (a : Int) := e1
  have e2' : (L.getD ((k : Int)).toNat default).2 = (b : Int) := e2
  refine run ?_; refine aoR fun _ => ?_
  refine run ?_; refine cnd ?_ ?_
  refine uF fun _ => ?_; try omega
  refine run ?_; refine aoR fun _ => ?_
  refine run ?_
  refine uO (E := E) ?_ (fun _ => ?_); exact rfl
  refine run ?_; refine aoR fun _ => ?_
  refine run ?_; refine cnd ?_ ?_
  iterate 2 refine wX ?_
  iterate 2 (refine wR (fun _ => ?_); (try omega))
  refine uF fun _ => ?_; try omega
  refine aoR fun _ => ?_; refine run ?_
  refine aoR fun _ => ?_; refine run ?_
  rotate_left
  refine wK (fun hc_ => ?_); (try simp only [nrm] at hc_)
  refine run ?_; refine aoR fun _ => ?_
  refine run ?_; rotate_left
  refine uI fun _ => ?_; try omega
  ·rename_i g1 g2 g3 v10 _
   rw [e1', Int.toNat_natCast] at g1 g3
   rw [e2', Int.toNat_natCast] at g2 g3
   have hg2 : cohG x (L.getD k default) = true := by
    unfold cohG
    rw [e1, e2, Int.toNat_natCast, Int.toNat_natCast]
    rw [decide_eq_false g1, decide_eq_false g2, decide_eq_true g3]; rfl
   exact uV (k + 1, (v10, 4), l ++ [L.getD k default]) ⟨by dsimp only; omega, by dsimp only; rw [hl, htk, List.filter_append, List.filter_cons, if_pos hg2, List.filter_nil]⟩ (by dsimp only; omega) (by repeat' (first | exact vW _ | exact vP _ | refine uL rfl ?_ | refine vH rfl ?_ | (refine vF rfl ?_ ?_; (simp <;> rfl)) | (refine uR rfl ?_ ?_; (simp <;> rfl)) | (refine uS rfl ?_ ?_; (simp <;> rfl)))) (by repeat' (first | exact vW _ | exact vP _ | refine uL rfl ?_ | refine vH rfl ?_ | (refine vF rfl ?_ ?_; (simp <;> rfl)) | (refine uR rfl ?_ ?_; (simp <;> rfl)) | (refine uS rfl ?_ ?_; (simp <;> rfl))))
  ·rw [e1', e2', Int.toNat_natCast, Int.toNat_natCast] at hc_
   have hg2 : cohG x (L.getD k default) = false := by
    unfold cohG
    rw [e1, e2, Int.toNat_natCast, Int.toNat_natCast]
    rcases hc_ with (h9 | h9) | h9
    ·rw [decide_eq_true h9]; simp only [Bool.not_true, Bool.and_false, Bool.false_and]
    ·rw [decide_eq_true h9]; simp only [Bool.not_true, Bool.and_false, Bool.false_and]
    ·rw [decide_eq_false h9]; simp only [Bool.and_false]
   exact uV (k + 1, τ, l) ⟨by dsimp only; omega, by dsimp only; rw [hl, htk, List.filter_append, List.filter_cons, if_neg (by rw [hg2]; decide), List.filter_nil, List.append_nil]⟩ (by dsimp only; omega) leP leP
 ·have hkl : k = L.length := by omega
  have hL' : l = L.filter (cohG x) := by rw [hl, hkl, List.take_length]
  subst hL'
  have f3 : Frozen 3 := ⟨trivial⟩
  have f61 : Frozen 61 := ⟨trivial⟩
  have f62 : Frozen 62 := ⟨trivial⟩
  have hfz := yL
  have hC : Own E.P 60 [.d (.sl 1 [catRow (L.filter (cohG x)), catRow (rfF x), catRow (coF x), catRow (frF x)])] 2 ((L.filter (cohG x) ++ (rfF x ++ (coF x ++ frF x))).map pairO') := by
   have h5 := List.length_filter_le (cohG x) L
   have := concat_o [L.filter (cohG x), rfF x, coF x, frF x] (by simp only [List.flatten_cons, List.flatten_nil, List.length_append, List.length_nil]; omega) (by simp)
   simpa using this
  refine run ?_; refine aoR fun _ => ?_
  refine run ?_; refine cnd ?_ ?_
  refine uF fun _ => ?_; try omega
  refine uI fun _ => ?_; try omega
  refine run ?_
  refine uO (E := E) ?_ (fun _ => ?_); exact rfl
  refine run ?_
  apply oE; assumption; exact rfl; exact .fn _ _ _; exact rfl; exact hC; exact yL _; exact rfl
  apply xD; exact rfl; exact .fn _ _ _; exact rfl; exact hA
  refine run ?_; rotate_left
  exact uU rfl rfl
set_option maxHeartbeats 4000000 in
theorem ordered_p (x : Ex) (hx : x.rel) : Pure E.P 38 [jdOV x (rfF x) (coF x) (frF x)] (.bool (!circleB x.evs.length (gloL x))) := by
 have hA : Pure E.P 59 [.int .i64 x.evs.length, .d (pairsTV (gloL x))] (.bool (!circleB x.evs.length (gloL x))) := by
  have := mW x.evs.length (gloL x) (gloL_len hx)
  rwa [iY hx.len (pR x)] at this
 have hR := arrows_p x hx
 have f1 : Frozen 1 := ⟨trivial⟩
 refine fnA Tryz.func38 Tryz.ntmps38 ?_
 refine run ?_; refine aoR fun _ => ?_
 refine run ?_
 refine uO (E := E) ?_ (fun _ => ?_); exact rfl
 refine run ?_
 apply xD; exact rfl; exact .fn _ _ _; exact rfl; exact hR
 apply xD; exact rfl; exact .fn _ _ _; exact rfl; exact hA
 refine run ?_; rotate_left
 exact uU rfl rfl
def judB (x : Ex) : Bool × Bool × Bool := (!circleB x.evs.length (rcohL x), !circleB x.evs.length (gloL x), ratB x)
def judT (x : Ex) : (Bool × Bool × Bool) × Int := if checkI x = 0 then (judB x, 0) else ((false, false, false), checkI x)
theorem qC {t u T : Nat} {te : TE} {k : Nat} {τ : Stamp} {row : List OV} {rest : List (List OV)} {s : OV} {tm : Tm} {σ : Store} {R : OV → Store → Prop} (hT : E.tab T = some te) (ha : te.k.isAgg = true) (hs : te.size = row.length) (ht : tm t = some (.lo k τ te.size 0 0)) (hk : σ k = some (τ, ⟨te.size, row :: rest⟩)) (hu : tm u = some s) (hR : R (.tu [.ag row, s]) σ) : DoneN E [.cell t T, .tmp u] R .ret tm σ :=
 ⟨_, ⟨_, _, rfl, ⟨_, _, _, _, _, hT, ha, hs, ht, hk, rfl⟩, _, _, rfl, hu, rfl⟩, hR⟩
section
variable {E : Env} {v j : Nat} {ops : Array Oper} {KD : List Foot → Tm → Store → Prop} {acc : List Foot} {rest : List Oper} {tm : Tm} {σ : Store} {ty : TypeId} {pos : String} {af : Array Edge}
theorem rF {dst : Option Tmp} {x : Operand} {k : Nat} {τ : Stamp} {a i o : Nat} (hx : ev tm x = some (.lo k τ a i o)) (hcont : DO E.P v ops KD (j + 1) rest (tm.putO dst (.lo k τ a i o)) (σ.apply []) (Foot.mk [] (wkeys []) :: acc)) : DO E.P v ops KD j (⟨dst, .nilCheck x, ty, pos, af, none⟩ :: rest) tm σ acc := eV rfl hx hcont
end
def vrow (b : Bool × Bool × Bool) (k : Nat) : List OV := [.bool (decide (0 < k) && b.1), .bool (decide (1 < k) && b.2.1), .bool (decide (2 < k) && b.2.2)]
set_option maxHeartbeats 4000000 in
theorem Judge_p (x : Ex) (hx : x.fit) (hN : x.evs.length ≤ 32) : Pure E.P 17 [exOV x] (.tu [judOV (judT x).1, .int .i64 (judT x).2]) := by
 have hk := yY _ hx.1 hx.2
 have f1 : Frozen 1 := ⟨trivial⟩
 have f5 : Frozen 5 := ⟨trivial⟩
 refine FnW.toR ?_
 refine wW (vs := [.cell 2 34, .tmp 3]) Tryz.func17 (by decide) rfl Tryz.ntmps17 (Nat.le_of_ble_eq_true rfl) rfl ?_
 by_cases hc : checkI x = 0
 rotate_left
 ·refine run ?_
  refine aoR fun _ => ?_; refine run ?_
  refine aoR fun _ => ?_; refine run ?_
  apply uP; exact rfl; exact .fn _ _ _; exact rfl; exact hk
  refine run ?_; refine aoR fun _ => ?_
  refine run ?_; refine cnd ?_ ?_
  refine wR (fun _ => ?_); (try omega)
  refine run ?_; refine aoR fun _ => ?_
  refine run ?_; rotate_left
  refine wS (fun _ => ?_); (try omega)
  refine qC rfl rfl rfl rfl rfl rfl ?_
  unfold judT
  rw [if_neg hc]
  rfl
 rw [hc] at hk
 have hr : x.rel := ⟨hx, hc⟩
 have hof := of_p x hx
 have hB : judT x = (judB x, 0) := by unfold judT; rw [if_pos hc]
 have h1 : Pure E.P 37 [jdOV x (rfF x) (coF x) (frF x)] (.bool (judB x).1) := coherent_p x hr hN
 have h2 : Pure E.P 38 [jdOV x (rfF x) (coF x) (frF x)] (.bool (judB x).2.1) := ordered_p x hr
 have h3 : Pure E.P 39 [jdOV x (rfF x) (coF x) (frF x)] (.bool (judB x).2.2) := by
  have := atomic_p x hr (rfF x) (coF x) (frF x)
  rwa [atom_eq hr] at this
 rw [hB]
 generalize judB x = B at h1 h2 h3
 refine run ?_; refine aoR fun _ => ?_
 refine run ?_; refine aoR fun _ => ?_
 refine run ?_
 apply uP; exact rfl; exact .fn _ _ _; exact rfl; exact hk
 refine run ?_; refine aoR fun _ => ?_
 refine run ?_; refine cnd ?_ ?_
 refine wR (fun _ => ?_); (try omega)
 refine wS (fun _ => ?_); (try omega)
 refine run ?_; refine aoR fun _ => ?_
 refine run ?_
 apply uP; exact rfl; exact .fn _ _ _; exact rfl; exact hof
 refine run ?_; refine aoR fun _ => ?_
 refine run ?_; refine aoR fun _ => ?_
 refine run ?_; rotate_left
 rename_i v2 _ _ _ _ v6 v30
 refine uT (X := Nat) (fun k => tmL [(2, .lo 2 (v2, 1) 3 0 0), (6, .lo 6 (v6, 1) 3 0 0), (30, .os 30 (v30, 12) 2 3), (31, .int .i64 3), (32, .int .i64 k)])
  (fun k => stL [(2, ((v2, 1), ⟨3, [[.bool false, .bool false, .bool false]]⟩)), (6, ((v6, 1), ⟨3, [vrow B k]⟩)), (30, ((v30, 12), ⟨2, [[.lo 6 (v6, 1) 3 0 0, .fn 37 [jdOV x (rfF x) (coF x) (frF x)] []], [.lo 6 (v6, 1) 3 0 1, .fn 38 [jdOV x (rfF x) (coF x) (frF x)] []], [.lo 6 (v6, 1) 3 0 2, .fn 39 [jdOV x (rfF x) (coF x) (frF x)] []]]⟩))])
  (fun k => k ≤ 3) (fun k => 3 - k) 0 (Nat.zero_le _) leP leP ?_
 intro k hk3
 by_cases h30 : k = 3
 ·subst h30
  refine run ?_; refine aoR fun _ => ?_
  refine run ?_; refine cnd ?_ ?_
  refine uF fun _ => ?_; try omega
  refine uI fun _ => ?_; try omega
  refine run ?_; refine aoR fun _ => ?_
  refine run ?_; rotate_left
  refine qC rfl rfl rfl rfl rfl rfl ?_
  rfl
 have h012 : k = 0 ∨ k = 1 ∨ k = 2 := by omega
 rcases h012 with rfl | rfl | rfl
 ·refine run ?_
  refine aoR fun _ => ?_; refine run ?_
  refine cnd ?_ ?_
  refine uF fun _ => ?_; try omega
  refine run ?_; refine aoR fun _ => ?_
  refine run ?_
  refine uO (E := E) ?_ (fun _ => ?_); exact rfl
  refine run ?_
  apply xD; exact rfl; exact .fn _ _ _; exact rfl; exact h1
  apply rF; exact rfl
  refine run ?_; refine aoR fun _ => ?_
  refine run ?_; rotate_left
  refine uI fun _ => ?_; try omega
  exact uV 1 (by omega) (by omega) leP leP
 ·refine run ?_
  refine aoR fun _ => ?_; refine run ?_
  refine cnd ?_ ?_
  refine uF fun _ => ?_; try omega
  refine run ?_; refine aoR fun _ => ?_
  refine run ?_
  refine uO (E := E) ?_ (fun _ => ?_); exact rfl
  refine run ?_
  apply xD; exact rfl; exact .fn _ _ _; exact rfl; exact h2
  apply rF; exact rfl
  refine run ?_; refine aoR fun _ => ?_
  refine run ?_; rotate_left
  refine uI fun _ => ?_; try omega
  exact uV 2 (by omega) (by omega) leP leP
 ·refine run ?_
  refine aoR fun _ => ?_; refine run ?_
  refine cnd ?_ ?_
  refine uF fun _ => ?_; try omega
  refine run ?_; refine aoR fun _ => ?_
  refine run ?_
  refine uO (E := E) ?_ (fun _ => ?_); exact rfl
  refine run ?_
  apply xD; exact rfl; exact .fn _ _ _; exact rfl; exact h3
  apply rF; exact rfl
  refine run ?_; refine aoR fun _ => ?_
  refine run ?_; rotate_left
  refine uI fun _ => ?_; try omega
  exact uV 3 (by omega) (by omega) leP leP
def allowB (x : Ex) : Bool := (judB x).1 && (judB x).2.1 && (judB x).2.2
def allowT (x : Ex) : Bool × Int := if checkI x = 0 then (allowB x, 0) else (false, checkI x)
theorem allow_eq (x : Ex) : eqV (judT x).1 (true, true, true) = (allowT x).1 ∧ (judT x).2 = (allowT x).2 := by
 unfold judT allowT
 by_cases hc : checkI x = 0
 ·rw [if_pos hc, if_pos hc]
  refine ⟨?_, rfl⟩
  unfold eqV allowB
  generalize judB x = B
  obtain ⟨a, b, c⟩ := B
  cases a <;> cases b <;> cases c <;> rfl
 ·rw [if_neg hc, if_neg hc]
  exact ⟨rfl, rfl⟩
set_option maxHeartbeats 4000000 in
theorem iG (x : Ex) (hx : x.fit) (hN : x.evs.length ≤ 32) : Pure E.P 15 [exOV x] (.tu [.bool (allowT x).1, .int .i64 (allowT x).2]) := by
 have hJ := Judge_p x hx hN
 obtain ⟨e1, e2⟩ := allow_eq x
 rw [← e1, ← e2]
 have f1 : Frozen 1 := ⟨trivial⟩
 refine FnW.toR ?_
 refine wW (vs := [.tmp 2, .tmp 3]) Tryz.func15 (by decide) rfl Tryz.ntmps15 (Nat.le_of_ble_eq_true rfl) rfl ?_
 refine run ?_; refine aoR fun _ => ?_
 refine run ?_; refine aoR fun _ => ?_
 refine run ?_
 apply uP; exact rfl; exact .fn _ _ _; exact rfl; exact hJ
 refine run ?_; refine aoR fun _ => ?_
 refine run ?_
 apply S_eqlV (judT x).1 (true, true, true); exact rfl; exact rfl
 refine run ?_; rotate_left
 exact bL rfl rfl rfl
def arrT (x : Ex) : List (Int × Int) × Int := if checkI x = 0 then (gloL x, 0) else ([], checkI x)
set_option maxHeartbeats 4000000
set_option maxRecDepth 100000
def Ev.lens (e : Ev) : Nat := e.addrs.length + e.datas.length + e.ctrls.length
def sumE (es : List Ev) (k : Nat) : Nat := ((es.take k).map Ev.lens).sum
def sumR (rows : List (Sl × List Int)) (k : Nat) : Nat := ((rows.take k).map fun r => r.2.length).sum
def wideB8 (x : Ex) : Bool := decide (20 < x.evs.length) || decide (200 < x.from_.length) || decide (200 < x.order.length) || decide (400 < x.from_.length + sumR x.order x.order.length) || decide (400 < x.from_.length + sumR x.order x.order.length + sumE x.evs x.evs.length)
theorem Ex.ok.ev {x : Ex} (h : x.ok) (i : Nat) : (x.evs.getD i default).addrs.length ≤ 1152921504606846976 ∧ (x.evs.getD i default).datas.length ≤ 1152921504606846976 ∧ (x.evs.getD i default).ctrls.length ≤ 1152921504606846976 := by
 rcases Nat.lt_or_ge i x.evs.length with hh | hh
 ·rw [List.getD_eq_getElem?_getD, List.getElem?_eq_getElem hh]
  have := h.2.1 _ (List.getElem_mem hh)
  exact ⟨this.2.1, this.2.2.1, this.2.2.2.1⟩
 ·rw [List.getD_eq_getElem?_getD, List.getElem?_eq_none hh]
  decide
theorem Ex.ok.row {x : Ex} (h : x.ok) (i : Nat) : (x.order.getD i default).2.length ≤ 1152921504606846976 := by
 rcases Nat.lt_or_ge i x.order.length with hh | hh
 ·rw [List.getD_eq_getElem?_getD, List.getElem?_eq_getElem hh]
  exact h.2.2.2.2 _ (List.getElem_mem hh)
 ·rw [List.getD_eq_getElem?_getD, List.getElem?_eq_none hh]
  decide
set_option maxHeartbeats 4000000
set_option maxRecDepth 100000
def ev8 (hart kind val rval : Int) : Ev := ⟨hart, kind, 0, val, rval, false, false, 0, 0, false, ⟨none, 0, 0⟩, ⟨none, 0, 0⟩, ⟨none, 0, 0⟩, [], [], []⟩
def kx8 : Ex := ⟨default, default, default, [ev8 (-1) 5 0 0, ev8 0 2 1 0, ev8 0 1 0 0], [-1, -1, 0], [(default, [0, 1])]⟩
def ky8 : Ex := ⟨default, default, default, [ev8 (-1) 5 0 0, ev8 0 2 1 0, ev8 0 1 0 1], [-1, -1, 1], [(default, [0, 1])]⟩
theorem oQ {l : List Int} (h : l.Pairwise fun a b => decide (a ≤ b) = true) : sortI l = l := by
 unfold sortI
 exact List.mergeSort_of_pairwise h
theorem kx8_ok : kx8.fit := by
 refine ⟨⟨by decide, fun e he => ?_, by decide, by decide, by decide⟩, by decide⟩
 simp only [kx8, List.mem_cons, List.not_mem_nil, or_false] at he
 rcases he with rfl | rfl | rfl <;> (unfold Ev.ok Ev.wf ev8; decide)
theorem ky8_ok : ky8.fit := by
 refine ⟨⟨by decide, fun e he => ?_, by decide, by decide, by decide⟩, by decide⟩
 simp only [ky8, List.mem_cons, List.not_mem_nil, or_false] at he
 rcases he with rfl | rfl | rfl <;> (unfold Ev.ok Ev.wf ev8; decide)
theorem kx8_check : checkI kx8 = 0 := by
 have h1 : addrsTo kx8.evs = [0] := by decide
 have h2 : evsTo kx8.evs [0] kx8.evs.length = true := by decide
 have h3 : fromB kx8.evs kx8.from_ = true := by decide
 have h4 : orderB kx8.evs [0] kx8.order = true := by
  unfold orderB rowsTo
  rw [show List.range kx8.order.length = [0] from rfl]
  simp only [List.all_cons, List.all_nil, Bool.and_true]
  have : sortI [0, 1] = [0, 1] := oQ (by decide)
  unfold rowOk
  rw [show (kx8.order.getD 0 default).2 = [0, 1] from rfl, this]
  decide
 unfold checkI
 rw [h1, h2, h3, h4]
 rfl
theorem ky8_check : checkI ky8 = 0 := by
 have h1 : addrsTo ky8.evs = [0] := by decide
 have h2 : evsTo ky8.evs [0] ky8.evs.length = true := by decide
 have h3 : fromB ky8.evs ky8.from_ = true := by decide
 have h4 : orderB ky8.evs [0] ky8.order = true := by
  unfold orderB rowsTo
  rw [show List.range ky8.order.length = [0] from rfl]
  simp only [List.all_cons, List.all_nil, Bool.and_true]
  have : sortI [0, 1] = [0, 1] := oQ (by decide)
  unfold rowOk
  rw [show (ky8.order.getD 0 default).2 = [0, 1] from rfl, this]
  decide
 unfold checkI
 rw [h1, h2, h3, h4]
 rfl
theorem kx8_not : allowT kx8 = (false, 0) := by
 unfold allowT
 rw [kx8_check, if_pos rfl, show allowB kx8 = false by decide +kernel]
theorem ky8_is : allowT ky8 = (true, 0) := by
 unfold allowT
 rw [ky8_check, if_pos rfl, show allowB ky8 = true by decide +kernel]
set_option maxHeartbeats 4000000 in
theorem known8_p : Pure E.P 14 [] (.bool true) := by
 have hX := iG kx8 kx8_ok (by decide)
 have hY := iG ky8 ky8_ok (by decide)
 rw [kx8_not] at hX
 rw [ky8_is] at hY
 have n7 : NilS 7 := ⟨trivial⟩
 have n8 : NilS 8 := ⟨trivial⟩
 have n9 : NilS 9 := ⟨trivial⟩
 have n20 : NilS 20 := ⟨trivial⟩
 have n21 : NilS 21 := ⟨trivial⟩
 have n22 : NilS 22 := ⟨trivial⟩
 have f10 : Frozen 10 := ⟨trivial⟩
 have f11 : Frozen 11 := ⟨trivial⟩
 have f12 : Frozen 12 := ⟨trivial⟩
 have f13 : Frozen 13 := ⟨trivial⟩
 have f23 : Frozen 23 := ⟨trivial⟩
 have f24 : Frozen 24 := ⟨trivial⟩
 have f25 : Frozen 25 := ⟨trivial⟩
 have f26 : Frozen 26 := ⟨trivial⟩
 refine fnA Tryz.func14 Tryz.ntmps14 ?_
 refine run ?_; refine aoR fun _ => ?_
 refine run ?_; refine aoR fun _ => ?_
 refine run ?_; refine aoR fun _ => ?_
 refine run ?_
 apply uP; exact rfl; exact .fn _ _ _; exact rfl; (exact hX)
 refine run ?_; refine aoR fun _ => ?_
 refine run ?_; refine aoR fun _ => ?_
 refine run ?_
 apply uP; exact rfl; exact .fn _ _ _; exact rfl; (exact hY)
 refine run ?_; refine aoR fun _ => ?_
 refine run ?_; rotate_left
 exact uU rfl rfl
set_option maxHeartbeats 4000000
set_option maxRecDepth 100000
theorem judge_ok {x : Ex} (hc : checkI x = 0) : judT x = (judB x, 0) ∧ allowT x = (allowB x, 0) ∧ arrT x = (gloL x, 0) := by
 unfold judT allowT arrT
 rw [if_pos hc, if_pos hc, if_pos hc]
 exact ⟨rfl, rfl, rfl⟩
def ixN : List Nat → Nat → Nat
 | [], _ => 0
 | a :: l, n => if a = n then 0 else ixN l n + 1
theorem yM : ∀ {l : List Nat} {n : Nat}, n ∈ l → ixN l n < l.length ∧ l.getD (ixN l n) 0 = n
 | [], n, h => by cases h
 | a :: l, n, h => by
  unfold ixN
  by_cases e : a = n
  ·rw [if_pos e]; simp [e]
  ·rw [if_neg e]
   obtain ⟨h1, h2⟩ := yM ((List.mem_cons.1 h).resolve_left fun h => e h.symm)
   exact ⟨by simpa using h1, by simpa using h2⟩
theorem xB {l : List Nat} {i : Nat} (h : i < l.length) : l.getD i 0 ∈ l := by
 rw [List.getD_eq_getElem?_getD, List.getElem?_eq_getElem h]; exact List.getElem_mem h
theorem aO : ∀ {l : List Nat} {i : Nat}, l.Nodup → i < l.length → ixN l (l.getD i 0) = i
 | [], i, _, h => by simp at h
 | a :: l, 0, _, _ => by simp [ixN]
 | a :: l, i + 1, hn, h => by
  have h2 : i < l.length := by simpa using h
  have h3 : l.getD i 0 ∈ l := xB h2
  have h4 : a ≠ l.getD i 0 := fun e => (List.nodup_cons.1 hn).1 (e ▸ h3)
  show ixN (a :: l) (l.getD i 0) = i + 1
  unfold ixN
  rw [if_neg h4, aO (List.nodup_cons.1 hn).2 h2]
theorem nP {l : List Nat} {a b : Nat} (ha : a ∈ l) (hb : b ∈ l) (h : ixN l a = ixN l b) : a = b := by
 have h1 := (yM ha).2
 have h2 := (yM hb).2
 rw [← h1, ← h2, h]
theorem aL : ∀ {l m : List Nat}, l.Nodup → (∀ a ∈ l, a ∈ m) → l.length ≤ m.length
 | [], m, _, _ => Nat.zero_le _
 | a :: l, m, hn, hs => by
  have ha : a ∈ m := hs a (by simp)
  have := aL (l := l) (m := m.erase a) (List.nodup_cons.1 hn).2 fun b hb => by
   have hne : b ≠ a := fun e => (List.nodup_cons.1 hn).1 (e ▸ hb)
   exact (List.mem_erase_of_ne hne).2 (hs b (by simp [hb]))
  rw [List.length_erase_of_mem ha] at this
  have := List.length_pos_of_mem ha
  simp only [List.length_cons]; omega
theorem nodup_all {l m : List Nat} (hn : l.Nodup) (hs : ∀ a ∈ l, a ∈ m) (hl : m.length ≤ l.length) : ∀ a ∈ m, a ∈ l := by
 intro a ha
 apply Classical.byContradiction
 intro hna
 have h := aL (l := a :: l) (m := m) (List.nodup_cons.2 ⟨hna, hn⟩) fun b hb => by
  rcases List.mem_cons.1 hb with rfl | hb
  ·exact ha
  ·exact hs b hb
 simp only [List.length_cons] at h; omega
structure Evn where
 n : Nat
 st : Nat → Prop
 ld : Nat → Prop
 nf : Nat → Prop
 bg : Nat → Prop
 addr : Nat → Int
 hart : Nat → Int
 src : Nat → Nat
 co : Nat → Nat → Prop
 ppo : Nat → Nat → Prop
namespace Evn
variable (E : Evn)
def po (a b : Nat) : Prop := a < b ∧ 0 ≤ E.hart a ∧ E.hart a = E.hart b
def is (a : Nat) : Prop := a < E.n ∧ E.nf a
def fr (a b : Nat) : Prop := a ≠ b ∧ E.ld a ∧ E.co (E.src a) b
def rf (a b : Nat) : Prop := E.ld b ∧ E.src b = a
def coh (a b : Nat) : Prop := E.is a ∧ E.is b ∧ (E.rf a b ∨ E.co a b ∨ E.fr a b ∨ (E.po a b ∧ E.addr a = E.addr b))
def glo (a b : Nat) : Prop := E.is a ∧ E.is b ∧ (E.ppo a b ∨ E.co a b ∨ E.fr a b ∨ (E.rf a b ∧ E.hart a ≠ E.hart b))
structure Ok : Prop where
 src : ∀ b, E.is b → E.ld b → E.is (E.src b) ∧ E.st (E.src b) ∧ E.addr (E.src b) = E.addr b ∧ E.src b ≠ b
 co : ∀ a b, E.co a b → E.st a ∧ E.st b ∧ E.addr a = E.addr b ∧ a ≠ b
 tot : ∀ a b, E.is a → E.is b → E.st a → E.st b → E.addr a = E.addr b → a ≠ b → E.co a b ∨ E.co b a
 trans : ∀ a b c, E.co a b → E.co b c → E.co a c
 ppo : ∀ a b, E.ppo a b → E.po a b ∧ E.is a ∧ E.is b
 r1 : ∀ a b, E.is a → E.is b → E.po a b → E.addr a = E.addr b → E.st b → E.ppo a b
 r2 : ∀ a b, E.is a → E.is b → E.po a b → E.addr a = E.addr b → E.ld a → E.ld b → E.src a ≠ E.src b → E.ppo a b ∨ ∃ m, E.is m ∧ E.st m ∧ E.addr m = E.addr a ∧ E.po a m ∧ E.po m b
 kind : ∀ a, E.is a → E.st a ∨ E.ld a
 beg : ∀ b, E.is b → E.bg b → E.hart b < 0 ∧ ¬ E.ld b ∧ E.st b ∧ ∀ a, ¬ E.co a b
 hart : ∀ b, E.is b → ¬ E.bg b → 0 ≤ E.hart b
def cand (o : List Nat) (n m : Nat) : Prop := m ≠ n ∧ E.st m ∧ E.addr m = E.addr n ∧ (ixN o m < ixN o n ∨ E.po m n)
def sees (o : List Nat) (n f : Nat) : Prop := f ∈ o ∧ E.cand o n f ∧ ∀ m ∈ o, E.cand o n m → ixN o m ≤ ixN o f
structure right (o : List Nat) : Prop where
 fwd : ∀ a ∈ o, ∀ b ∈ o, (E.ppo a b ∨ E.co a b) → ixN o a < ixN o b
 see : ∀ a ∈ o, E.ld a → E.sees o a (E.src a)
def Up (r : Nat → Nat → Prop) : Prop := ∃ t : Nat → Nat, ∀ a b, r a b → t a < t b
variable {E}
theorem oX {a b c : Nat} (h : E.po a b) (h' : E.po b c) : E.po a c := ⟨Nat.lt_trans h.1 h'.1, h.2.1, h.2.2.trans h'.2.2⟩
theorem right_of (hE : E.Ok) (hc : Up E.coh) {o : List Nat} (ho : ∀ a, a ∈ o ↔ E.is a) (hg : ∀ a ∈ o, ∀ b ∈ o, E.glo a b → ixN o a < ixN o b) : E.right o := by
 obtain ⟨t, ht⟩ := hc
 refine ⟨fun a ha b hb h => hg a ha b hb ⟨(ho a).1 ha, (ho b).1 hb, h.elim Or.inl fun h => Or.inr (Or.inl h)⟩, fun n hn hl => ?_⟩
 have in' := (ho n).1 hn
 obtain ⟨sf, s1, s2, s3⟩ := hE.src n in' hl
 have hf := (ho _).2 sf
 have hrf : E.rf (E.src n) n := ⟨hl, rfl⟩
 refine ⟨hf, ⟨s3, s1, s2, ?_⟩, fun m hm hcm => ?_⟩
 ·by_cases hh : E.hart (E.src n) = E.hart n
  ·have h0 : 0 ≤ E.hart n := hE.hart n in' fun hb => (hE.beg n in' hb).2.1 hl
   rcases Nat.lt_or_ge (E.src n) n with h1 | h1
   ·exact Or.inr ⟨h1, by rw [hh]; exact h0, hh⟩
   ·exfalso
    have e1 := ht _ _ ⟨in', sf, Or.inr (Or.inr (Or.inr ⟨⟨by omega, h0, hh.symm⟩, s2.symm⟩))⟩
    have e2 := ht _ _ ⟨sf, in', Or.inl hrf⟩
    omega
  ·exact Or.inl (hg _ hf _ hn ⟨sf, in', Or.inr (Or.inr (Or.inr ⟨hrf, hh⟩))⟩)
 ·obtain ⟨c1, c2, c3, c4⟩ := hcm
  have im := (ho m).1 hm
  by_cases hmf : m = E.src n
  ·rw [hmf]; exact Nat.le_refl _
  rcases hE.tot m (E.src n) im sf c2 s1 (c3.trans s2.symm) hmf with h | h
  ·exact Nat.le_of_lt (hg _ hm _ hf ⟨im, sf, Or.inr (Or.inl h)⟩)
  ·exfalso
   have hfr : E.fr n m := ⟨Ne.symm c1, hl, h⟩
   have e1 := hg _ hn _ hm ⟨in', im, Or.inr (Or.inr (Or.inl hfr))⟩
   rcases c4 with c4 | c4
   ·omega
   ·have e2 := ht _ _ ⟨im, in', Or.inr (Or.inr (Or.inr ⟨c4, c3⟩))⟩
    have e3 := ht _ _ ⟨in', im, Or.inr (Or.inr (Or.inl hfr))⟩
    omega
theorem tA (hE : E.Ok) {o : List Nat} (ho : ∀ a, a ∈ o ↔ E.is a) (hr : E.right o) {n m : Nat} (hn : E.is n) (hm : E.is m) (h : E.fr n m) : ixN o n < ixN o m := by
 obtain ⟨h1, h2, h3⟩ := h
 obtain ⟨sf, s1, s2, s3⟩ := hE.src n hn h2
 obtain ⟨_, _, hs⟩ := hr.see n ((ho n).2 hn) h2
 obtain ⟨q1, q2, q3, q4⟩ := hE.co _ _ h3
 have e1 := hr.fwd _ ((ho _).2 sf) _ ((ho m).2 hm) (Or.inr h3)
 rcases Nat.lt_trichotomy (ixN o n) (ixN o m) with h | h | h
 ·exact h
 ·exact absurd (nP ((ho n).2 hn) ((ho m).2 hm) h) h1
 ·have := hs m ((ho m).2 hm) ⟨Ne.symm h1, q2, q3.symm.trans s2, Or.inl h⟩
  omega
theorem glo_fwd (hE : E.Ok) {o : List Nat} (ho : ∀ a, a ∈ o ↔ E.is a) (hr : E.right o) {a b : Nat} (h : E.glo a b) : ixN o a < ixN o b := by
 obtain ⟨ia, ib, h | h | h | ⟨h, hh⟩⟩ := h
 ·exact hr.fwd _ ((ho a).2 ia) _ ((ho b).2 ib) (Or.inl h)
 ·exact hr.fwd _ ((ho a).2 ia) _ ((ho b).2 ib) (Or.inr h)
 ·exact tA hE ho hr ia ib h
 ·obtain ⟨h1, rfl⟩ := h
  obtain ⟨_, ⟨_, _, _, h2⟩, _⟩ := hr.see b ((ho b).2 ib) h1
  exact h2.resolve_right fun hp => hh hp.2.2
open Classical in
noncomputable def key (E : Evn) (o : List Nat) (a : Nat) : Nat := if E.st a then 2 * ixN o a else 2 * ixN o (E.src a) + 1
theorem aZ {o : List Nat} {a : Nat} (h : E.st a) : E.key o a = 2 * ixN o a := if_pos h
theorem cH {o : List Nat} {a : Nat} (h : ¬ E.st a) : E.key o a = 2 * ixN o (E.src a) + 1 := if_neg h
theorem coh_key (hE : E.Ok) {o : List Nat} (ho : ∀ a, a ∈ o ↔ E.is a) (hr : E.right o) {a b : Nat} (h : E.coh a b) : E.key o a < E.key o b ∨ (E.key o a ≤ E.key o b ∧ a < b) := by
 obtain ⟨ia, ib, h | h | h | ⟨h, hd⟩⟩ := h
 ·-- what is read
  obtain ⟨h1, rfl⟩ := h
  obtain ⟨sf, s1, s2, s3⟩ := hE.src b ib h1
  rw [aZ s1]
  by_cases hs : E.st b
  ·rw [aZ hs]
   left
   obtain ⟨_, ⟨_, _, _, h2⟩, _⟩ := hr.see b ((ho b).2 ib) h1
   have : ixN o (E.src b) < ixN o b := by
    rcases h2 with h2 | h2
    ·exact h2
    ·exact hr.fwd _ ((ho _).2 sf) _ ((ho b).2 ib) (Or.inl (hE.r1 _ _ sf ib h2 s2 hs))
   omega
  ·rw [cH hs]; left; omega
 ·obtain ⟨q1, q2, _, _⟩ := hE.co _ _ h
  rw [aZ q1, aZ q2]
  have := hr.fwd _ ((ho a).2 ia) _ ((ho b).2 ib) (Or.inr h)
  left; omega
 ·obtain ⟨q1, q2, q3, _⟩ := hE.co _ _ h.2.2
  rw [aZ q2]
  by_cases hs : E.st a
  ·rw [aZ hs]
   have := tA hE ho hr ia ib h
   left; omega
  ·rw [cH hs]
   obtain ⟨sf, _⟩ := hE.src a ia h.2.1
   have := hr.fwd _ ((ho _).2 sf) _ ((ho b).2 ib) (Or.inr h.2.2)
   left; omega
 ·-- a store b behind a, of one hart
  have stb : ∀ a b, E.is a → E.is b → E.po a b → E.addr a = E.addr b → E.st b → E.key o a < E.key o b := fun a b ia ib h hd hs => by
   have hab := hr.fwd _ ((ho a).2 ia) _ ((ho b).2 ib) (Or.inl (hE.r1 a b ia ib h hd hs))
   rw [aZ hs]
   by_cases ha : E.st a
   ·rw [aZ ha]; omega
   ·rw [cH ha]
    have hl := (hE.kind a ia).resolve_left ha
    obtain ⟨sf, s1, s2, s3⟩ := hE.src a ia hl
    obtain ⟨_, ⟨_, _, _, h2⟩, _⟩ := hr.see a ((ho a).2 ia) hl
    have : ixN o (E.src a) < ixN o b := by
     rcases h2 with h2 | h2
     ·omega
     ·exact hr.fwd _ ((ho _).2 sf) _ ((ho b).2 ib) (Or.inl (hE.r1 _ _ sf ib (oX h2 h) (s2.trans hd) hs))
    omega
  -- a store a ahead of a load b
  have sta : ∀ a b, E.is a → E.is b → E.po a b → E.addr a = E.addr b → E.st a → ¬ E.st b → E.key o a < E.key o b := fun a b ia ib h hd hs hb => by
   rw [aZ hs, cH hb]
   have hl := (hE.kind b ib).resolve_left hb
   obtain ⟨_, _, h2⟩ := hr.see b ((ho b).2 ib) hl
   have := h2 a ((ho a).2 ia) ⟨Nat.ne_of_lt h.1, hs, hd, Or.inr h⟩
   omega
  by_cases hb : E.st b
  ·exact Or.inl (stb a b ia ib h hd hb)
  by_cases ha : E.st a
  ·exact Or.inl (sta a b ia ib h hd ha hb)
  have la := (hE.kind a ia).resolve_left ha
  have lb := (hE.kind b ib).resolve_left hb
  right
  refine ⟨?_, h.1⟩
  rw [cH ha, cH hb]
  by_cases hs : E.src a = E.src b
  ·rw [hs]; exact Nat.le_refl _
  rcases hE.r2 a b ia ib h hd la lb hs with hp | ⟨m, im, m1, m2, m3, m4⟩
  ·obtain ⟨sf, s1, s2, s3⟩ := hE.src a ia la
   obtain ⟨_, ⟨_, _, _, h2⟩, _⟩ := hr.see a ((ho a).2 ia) la
   obtain ⟨_, _, h3⟩ := hr.see b ((ho b).2 ib) lb
   have hab := hr.fwd _ ((ho a).2 ia) _ ((ho b).2 ib) (Or.inl hp)
   have hne : E.src a ≠ b := fun e => hb (e ▸ s1)
   have := h3 _ ((ho _).2 sf) ⟨hne, s1, s2.trans hd, h2.imp (fun h => Nat.lt_trans h hab) fun h2 => oX h2 h⟩
   omega
  ·have e1 := stb a m ia im m3 m2.symm m1
   have e2 := sta m b im ib m4 (m2.trans hd) m1 hb
   rw [cH ha] at e1
   rw [cH hb] at e2
   omega
theorem coh_up (hE : E.Ok) {o : List Nat} (ho : ∀ a, a ∈ o ↔ E.is a) (hr : E.right o) : Up E.coh := by
 refine ⟨fun a => E.key o a * (E.n + 1) + a, fun a b h => ?_⟩
 have ha : a < E.n := h.1.1
 rcases coh_key hE ho hr h with h1 | ⟨h1, h2⟩
 ·have : (E.key o a + 1) * (E.n + 1) ≤ E.key o b * (E.n + 1) := Nat.mul_le_mul_right _ h1
  rw [Nat.succ_mul] at this
  show E.key o a * (E.n + 1) + a < E.key o b * (E.n + 1) + b
  omega
 ·have : E.key o a * (E.n + 1) ≤ E.key o b * (E.n + 1) := Nat.mul_le_mul_right _ h1
  show E.key o a * (E.n + 1) + a < E.key o b * (E.n + 1) + b
  omega
theorem glo_up (hE : E.Ok) {o : List Nat} (ho : ∀ a, a ∈ o ↔ E.is a) (hr : E.right o) : Up E.glo := ⟨ixN o, fun _ _ h => glo_fwd hE ho hr h⟩
theorem no_beg (hE : E.Ok) {a b : Nat} (h : E.glo a b) : ¬ E.bg b := fun hb => by
 obtain ⟨ia, ib, h⟩ := h
 obtain ⟨h1, h2, _, h4⟩ := hE.beg b ib hb
 rcases h with h | h | h | h
 ·obtain ⟨hp, _, _⟩ := hE.ppo _ _ h
  have := hp.2.1
  have := hp.2.2
  omega
 ·exact h4 a h
 ·exact h4 _ h.2.2
 ·exact h2 h.1.1
theorem sorted_fwd (hE : E.Ok) {t : Nat → Nat} (ht : ∀ a b, E.glo a b → t a < t b) {bs rs : List Nat} (hb : ∀ a, a ∈ bs ↔ E.is a ∧ E.bg a) (hr : ∀ a, a ∈ rs ↔ E.is a ∧ ¬ E.bg a) (hnb : bs.Nodup) (hnr : rs.Nodup) (hs : rs.Pairwise fun a b => t a ≤ t b) :
  (bs ++ rs).Nodup ∧ (∀ a, a ∈ bs ++ rs ↔ E.is a) ∧ ∀ a ∈ bs ++ rs, ∀ b ∈ bs ++ rs, E.glo a b → ixN (bs ++ rs) a < ixN (bs ++ rs) b := by
 have hnd : (bs ++ rs).Nodup := List.nodup_append.2 ⟨hnb, hnr, fun a ha b hb' e => ((hr b).1 hb').2 (e ▸ ((hb a).1 ha).2)⟩
 refine ⟨hnd, fun a => ?_, fun a ha b hb' h => ?_⟩
 ·rw [List.mem_append, hb, hr]
  constructor
  ·rintro (h | h) <;> exact h.1
  ·intro h
   rcases Classical.em (E.bg a) with e | e
   ·exact Or.inl ⟨h, e⟩
   ·exact Or.inr ⟨h, e⟩
 ·have htab := ht a b h
  have hbn := no_beg hE h
  have hbr : b ∈ rs := (hr b).2 ⟨h.2.1, hbn⟩
  apply Classical.byContradiction
  intro hlt
  obtain ⟨a1, a2⟩ := yM ha
  obtain ⟨b1, b2⟩ := yM hb'
  have hne : ixN (bs ++ rs) a ≠ ixN (bs ++ rs) b := fun e => by
   have := nP ha hb' e
   subst this; omega
  have hba : ixN (bs ++ rs) b < ixN (bs ++ rs) a := by omega
  have hbs : bs.length ≤ ixN (bs ++ rs) b := by
   apply Classical.byContradiction
   intro hl
   have hl : ixN (bs ++ rs) b < bs.length := by omega
   have e : (bs ++ rs).getD (ixN (bs ++ rs) b) 0 = bs.getD (ixN (bs ++ rs) b) 0 := by
    rw [List.getD_eq_getElem?_getD, List.getElem?_append_left hl, ← List.getD_eq_getElem?_getD]
   rw [e] at b2
   exact hbn (((hb b).1 (b2 ▸ xB hl)).2)
  have key : ∀ i, bs.length ≤ i → i < (bs ++ rs).length → (bs ++ rs).getD i 0 = rs.getD (i - bs.length) 0 ∧ i - bs.length < rs.length := fun i h1 h2 => by
   rw [List.length_append] at h2
   exact ⟨by rw [List.getD_eq_getElem?_getD, List.getElem?_append_right h1, ← List.getD_eq_getElem?_getD], by omega⟩
  obtain ⟨ka, la⟩ := key _ (Nat.le_trans hbs (Nat.le_of_lt hba)) a1
  obtain ⟨kb, lb⟩ := key _ hbs b1
  have hp := List.pairwise_iff_getElem.1 hs _ _ lb la (by omega)
  rw [ka, List.getD_eq_getElem?_getD, List.getElem?_eq_getElem la] at a2
  rw [kb, List.getD_eq_getElem?_getD, List.getElem?_eq_getElem lb] at b2
  simp only [Option.getD_some] at a2 b2
  rw [a2, b2] at hp
  omega
end Evn
def tryB (R : List Nat → Bool) (all : List Nat) : Nat → List Nat → Bool
 | 0, o => R o
 | k + 1, o => all.any fun a => !o.contains a && tryB R all k (o ++ [a])
theorem jI (R : List Nat → Bool) (all : List Nat) : ∀ (k : Nat) (o : List Nat), tryB R all k o = true ↔ ∃ r, r.length = k ∧ (∀ a ∈ r, a ∈ all ∧ a ∉ o) ∧ r.Nodup ∧ R (o ++ r) = true
 | 0, o => by
  unfold tryB
  constructor
  ·intro h; exact ⟨[], rfl, by simp, by simp, by simpa using h⟩
  ·rintro ⟨r, h1, _, _, h2⟩
   have := List.eq_nil_of_length_eq_zero h1
   subst this
   simpa using h2
 | k + 1, o => by
  unfold tryB
  rw [List.any_eq_true]
  constructor
  ·rintro ⟨a, ha, h⟩
   simp only [Bool.and_eq_true, Bool.not_eq_true', List.contains_eq_mem, decide_eq_false_iff_not] at h
   obtain ⟨r, h1, h2, h3, h4⟩ := (jI R all k (o ++ [a])).1 h.2
   refine ⟨a :: r, by simp [h1], fun b hb => ?_, List.nodup_cons.2 ⟨fun hm => (h2 a hm).2 (by simp), h3⟩, by simpa using h4⟩
   rcases List.mem_cons.1 hb with rfl | hb
   ·exact ⟨ha, h.1⟩
   ·exact ⟨(h2 b hb).1, fun hm => (h2 b hb).2 (by simp [hm])⟩
  ·rintro ⟨r, h1, h2, h3, h4⟩
   match r, h1 with
   | a :: r, h1 =>
    refine ⟨a, (h2 a (by simp)).1, ?_⟩
    simp only [Bool.and_eq_true, Bool.not_eq_true', List.contains_eq_mem, decide_eq_false_iff_not]
    refine ⟨(h2 a (by simp)).2, (jI R all k (o ++ [a])).2 ⟨r, by simpa using h1, fun b hb => ⟨(h2 b (by simp [hb])).1, fun hm => ?_⟩, (List.nodup_cons.1 h3).2, by simpa using h4⟩⟩
    rcases List.mem_append.1 hm with hm | hm
    ·exact (h2 b (by simp [hb])).2 hm
    ·simp only [List.mem_singleton] at hm
     subst hm
     exact (List.nodup_cons.1 h3).1 hb
theorem Evn.main {E : Evn} (hE : E.Ok) {R : List Nat → Bool} {bs all : List Nat} (hb : ∀ a, a ∈ bs ↔ E.is a ∧ E.bg a) (ha : ∀ a, a ∈ all ↔ E.is a) (hnb : bs.Nodup) (hna : all.Nodup)
  (hR : ∀ o, o.Nodup → (∀ a, a ∈ o ↔ E.is a) → (R o = true ↔ E.right o)) : tryB R all (all.length - bs.length) bs = true ↔ Up E.coh ∧ Up E.glo := by
 rw [jI]
 constructor
 ·rintro ⟨r, h1, h2, h3, h4⟩
  have hnd : (bs ++ r).Nodup := List.nodup_append.2 ⟨hnb, h3, fun a h b h' e => (h2 b h').2 (e ▸ h)⟩
  have hle := aL hnb (m := all) fun a h => (ha a).2 ((hb a).1 h).1
  have hsub : ∀ a ∈ bs ++ r, a ∈ all := fun a h => by
   rcases List.mem_append.1 h with h | h
   ·exact (ha a).2 ((hb a).1 h).1
   ·exact (h2 a h).1
  have hall := nodup_all hnd hsub (by rw [List.length_append, h1]; omega)
  have ho : ∀ a, a ∈ bs ++ r ↔ E.is a := fun a => ⟨fun h => (ha a).1 (hsub a h), fun h => hall a ((ha a).2 h)⟩
  have hr := (hR _ hnd ho).1 h4
  exact ⟨coh_up hE ho hr, glo_up hE ho hr⟩
 ·rintro ⟨hc, t, ht⟩
  have hmem : ∀ a, a ∈ (all.filter fun a => !bs.contains a).mergeSort (fun a b => decide (t a ≤ t b)) ↔ E.is a ∧ ¬ E.bg a := fun a => by
   rw [(List.mergeSort_perm _ _).mem_iff, List.mem_filter, ha]
   simp only [Bool.not_eq_true', List.contains_eq_mem, decide_eq_false_iff_not, hb]
   exact ⟨fun h => ⟨h.1, fun h' => h.2 ⟨h.1, h'⟩⟩, fun h => ⟨h.1, fun h' => h.2 h'.2⟩⟩
  have hsort : ((all.filter fun a => !bs.contains a).mergeSort (fun a b => decide (t a ≤ t b))).Pairwise fun a b => t a ≤ t b :=
   (List.pairwise_mergeSort (le := fun a b => decide (t a ≤ t b)) (fun a b c h1 h2 => by simp at *; omega) (fun a b => by simp; omega) _).imp (by simp)
  have hnr : ((all.filter fun a => !bs.contains a).mergeSort (fun a b => decide (t a ≤ t b))).Nodup := (List.mergeSort_perm _ _).nodup_iff.2 (hna.filter _)
  have hlen : (all.filter fun a => !bs.contains a).length + bs.length = all.length := by
   have h1 : (all.filter fun a => bs.contains a).length = bs.length := by
    refine Nat.le_antisymm (aL (hna.filter _) fun a h => ?_) (aL hnb fun a h => ?_)
    ·simpa using (List.mem_filter.1 h).2
    ·exact List.mem_filter.2 ⟨(ha a).2 ((hb a).1 h).1, by simpa using h⟩
   have h2 := List.length_eq_countP_add_countP (fun a => bs.contains a) (l := all)
   rw [List.countP_eq_length_filter, List.countP_eq_length_filter] at h2
   have h3 : (List.filter (fun a => decide ¬ (bs.contains a = true)) all) = all.filter fun a => !bs.contains a := List.filter_congr fun a _ => by cases bs.contains a <;> simp
   rw [h3] at h2
   omega
  obtain ⟨q1, q2, q3⟩ := sorted_fwd hE ht hb hmem hnb hnr hsort
  refine ⟨_, ?_, fun a h => ?_, hnr, (hR _ q1 q2).2 (right_of hE hc q2 q3)⟩
  ·rw [List.length_mergeSort]; omega
  ·have := (hmem a).1 h
   exact ⟨(ha a).2 this.1, fun h' => this.2 ((hb a).1 h').2⟩
end Go.Proofs.YtnkocjkkefnelaaGreat
