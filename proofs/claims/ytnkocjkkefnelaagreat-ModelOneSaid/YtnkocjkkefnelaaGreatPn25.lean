/- Parts. -/
import Derived.Test.YtnkocjkkefnelaaGreatPn6
import Derived.Test.YtnkocjkkefnelaaGreatPn10
import Derived.Test.YtnkocjkkefnelaaGreatPn24
set_option linter.unusedVariables false
set_option linter.unusedSimpArgs false
set_option maxHeartbeats 4000000
set_option maxRecDepth 100000
namespace Go.Proofs.YtnkocjkkefnelaaGreat
open Go.RowKit
section
variable (x : Ex) (hx : x.rok)
include hx
def rulesOV (x : Ex) : List OV := [.d (.c .nilFunc),
 .fn 128 [] [.d (bev x), .d (bone x)],
 .fn 129 [] [.d (bev x), .d (bone x), .d (.pt (exRow x) 0)],
 .fn 132 [] [.d (bev x), .d (.pt (exRow x) 0)],
 .fn 133 [] [.d (.pt (exRow x) 0), .d (bev x)],
 .fn 136 [] [.d (bev x)],
 .fn 137 [] [.d (bev x)],
 .fn 138 [] [.d (bev x)],
 .fn 140 [] [.d (.pt (exRow x) 0)],
 .fn 141 [] [.d (bev x)],
 .fn 143 [] [.d (bev x)],
 .fn 144 [] [.d (bev x)],
 .fn 145 [] [.d (bev x), .d (.pt (exRow x) 0)],
 .fn 147 [] [.d (bev x), .d (.pt (exRow x) 0)]]
theorem rules_at (a b : Nat) (ha : a < x.evs.length) (hb : b < x.evs.length) (r : Nat) (h1 : 1 ≤ r) (h2 : r < 14) :
  ∃ f ca, (rulesOV x)[r]? = some (.fn f [] ca) ∧ Pure E.P f ([] ++ [.int .i64 a, .int .i64 b] ++ ca) (.bool (ruleR x r a b)) := by
 have hr : r = 1 ∨ r = 2 ∨ r = 3 ∨ r = 4 ∨ r = 5 ∨ r = 6 ∨ r = 7 ∨ r = 8 ∨ r = 9 ∨ r = 10 ∨ r = 11 ∨ r = 12 ∨ r = 13 := by omega
 rcases hr with rfl | rfl | rfl | rfl | rfl | rfl | rfl | rfl | rfl | rfl | rfl | rfl | rfl
 ·exact ⟨_, _, rfl, ru3_p x hx a b ha hb⟩
 ·exact ⟨_, _, rfl, ru4_p x hx a b ha hb⟩
 ·exact ⟨_, _, rfl, ru5_p x hx a b ha hb⟩
 ·exact ⟨_, _, rfl, ru6_p x hx a b ha hb⟩
 ·exact ⟨_, _, rfl, ru7_p x hx a b ha⟩
 ·exact ⟨_, _, rfl, ru8_p x hx a b hb⟩
 ·exact ⟨_, _, rfl, ru9_p x hx a b ha hb⟩
 ·exact ⟨_, _, rfl, ru10_p x hx a b ha hb⟩
 ·exact ⟨_, _, rfl, ru11_p x hx a b ha hb⟩
 ·exact ⟨_, _, rfl, ru12_p x hx a b ha hb⟩
 ·exact ⟨_, _, rfl, ru13_p x hx a b ha hb⟩
 ·exact ⟨_, _, rfl, ru14_p x hx a b ha hb⟩
 ·exact ⟨_, _, rfl, ru15_p x hx a b ha hb⟩
def rulesP (x : Ex) : List (Nat × OV) := ((List.range 14).zip (rulesOV x)).drop 1
omit hx in
theorem rules_fill : fillO (fun i => some (i * 1, 1)) ((List.replicate 14 [OV.d (.c .nilFunc)]).flatten) (rulesP x) = some (rulesOV x) := by kernel_rfl
omit hx in
theorem rules_p : Pure E.P 110 [exOV x] (.ag (rulesOV x)) := by
 have f1 : Frozen 1 := ⟨trivial⟩
 have f3 : Frozen 3 := ⟨trivial⟩
 have f4 : Frozen 4 := ⟨trivial⟩
 refine FnW.toR ?_
 refine wQ (vs := [.cell 2 129]) Tryz.func110 (by decide) rfl Tryz.ntmps110 (Nat.le_of_ble_eq_true rfl) rfl ?_
 refine uB (aoR fun _ => ?_)
 refine q34 ?_
 apply xQ; exact rfl
 refine uD (uC (uB (aoR fun _ => ?_)))
 apply wY; exact rfl; exact rfl
 apply xQ; exact rfl
 refine q43 (uD (uC (uB (aoR fun _ => ?_))))
 apply wY; exact rfl; exact rfl
 apply xQ; exact rfl
 refine q43 (uD (uC (uB (aoR fun _ => ?_))))
 iterate 13 (apply wY; exact rfl; exact rfl)
 (apply jK; exact rfl; exact rfl; exact rfl; exact (show _ = some (rulesP x) by kernel_rfl); exact rules_fill x)
 refine q15 (uD (uC ?_)); refine wE ?_; rotate_left
 exact qZ rfl rfl rfl rfl rfl rfl
def heldTo (x : Ex) (a b k : Nat) : List Int := ((List.range k).filter fun (r : Nat) => decide (1 ≤ r) && ruleR x (r : Int) a b).map (fun (r : Nat) => (r : Int))
omit hx in
theorem heldTo_yes {a b k : Nat} (h1 : 1 ≤ k) (h : ruleR x k a b = true) : heldTo x a b (k + 1) = heldTo x a b k ++ [(k : Int)] := by
 unfold heldTo; rw [List.range_succ, List.filter_append, List.filter_cons, if_pos (by simp [h1, h]), List.filter_nil, List.map_append]; rfl
omit hx in
theorem kG {a b k : Nat} (h : ¬ (1 ≤ k ∧ ruleR x k a b = true)) : heldTo x a b (k + 1) = heldTo x a b k := by
 unfold heldTo; rw [List.range_succ, List.filter_append, List.filter_cons, if_neg (by simp only [Bool.and_eq_true, decide_eq_true_eq]; exact h), List.filter_nil, List.append_nil]
omit hx in
theorem heldTo_len (a b k : Nat) : (heldTo x a b k).length ≤ k := by
 unfold heldTo; rw [List.length_map]; exact Nat.le_trans (List.length_filter_le _ _) (by simp)
theorem held_p (a b : Nat) (ha : a < x.evs.length) (hb : b < x.evs.length) : Pure E.P 93 [exOV x, .int .i64 a, .int .i64 b] (.d (ints (heldL x a b))) := by
 have hr := rules_p x
 have hat := rules_at x hx a b ha hb
 refine fnA Tryz.func93 Tryz.ntmps93 ?_
 refine uB (aoR fun _ => ?_)
 refine q40 ?_; refine q51 (uD (uC (uB (aoR fun _ => ?_))))
 refine q51 (uD (uC ?_))
 iterate 2 refine uB ?_
 refine aoR fun _ => ?_; refine q14 ?_
 apply uO; exact rfl; exact .fn _ _ _; exact rfl; exact hr
 refine q11 (uD (uC (uW ?_))); rotate_left
 rename_i v7 _
 refine vJ (X := Nat × Stamp × List Int) (fun p => tmL [(1, .int .i64 a), (2, .int .i64 b), (7, .os 7 p.2.1 1 p.2.2.length), (11, .ag (rulesOV x)), (12, .int .i64 p.1)]) (fun p => stL [(7, (p.2.1, ⟨1, p.2.2.map (cellO .i64)⟩))])
  (fun p => p.1 ≤ 14 ∧ p.2.2 = heldTo x a b p.1) (fun p => 14 - p.1) (0, (v7, 0), []) ⟨by omega, rfl⟩ leP leP ?_
 rintro ⟨k, τ, l⟩ ⟨hk, hl⟩
 dsimp only at hk hl ⊢
 have hlen : l.length ≤ 14 := by rw [hl]; exact Nat.le_trans (heldTo_len x a b k) hk
 by_cases h14 : k < 14
 ·by_cases h0 : k = 0
  ·subst h0
   refine uB (aoR fun _ => ?_)
   refine q37 (uD (uC (uB ?_))); refine cnd ?_ ?_
   refine uN fun _ => ?_; try omega
   refine uX (uC (uB (uW (uB (aoR fun _ => ?_)))))
   refine q11 ?_
   apply eU; exact rfl; exact rfl; exact rfl; exact rfl; exact rfl; exact rfl; omega; exact rfl
   iterate 2 refine q12 ?_
   refine uD (uC (uB (aoR fun _ => ?_)))
   refine q11 ?_
   apply oW; exact rfl; exact rfl; exact rfl; exact rfl
   refine q11 ?_
   apply spT; exact rfl
   exact iO
   apply spT; exact rfl
   exact iO
   apply spT; exact rfl
   exact iO
   apply spT; exact rfl
   exact iO
   apply xP; exact rfl
   apply aA; exact rfl
   refine uD (uC ?_); refine cnd ?_ ?_
   exact uG
   refine uF ?_; refine uX ?_; refine xH ?_; refine uC (aoR fun _ => ?_)
   refine q36 ?_; refine q11 (uD (uC ?_)); rotate_left
   refine uR fun _ => ?_; try omega
   exact vQ (1, τ, l) ⟨by dsimp only; omega, by dsimp only; rw [hl]; exact (kG x (k := 0) (by omega)).symm⟩ (by dsimp only; omega) leP leP
  ·obtain ⟨f, ca, e1, e2⟩ := hat k (by omega) h14
   have hix : (rulesOV x)[(k : Int).toNat * 1]? = some (.fn f [] ca) := by rw [Int.toNat_natCast, Nat.mul_one]; exact e1
   refine uB (aoR fun _ => ?_)
   refine q37 (uD (uC (uB ?_))); refine cnd ?_ ?_
   refine uN fun _ => ?_; try omega
   refine uX (uC (uB (uW (uB (aoR fun _ => ?_)))))
   refine q11 ?_
   apply eU; exact rfl; exact rfl; exact rfl; exact rfl; exact rfl; exact rfl; omega; exact hix
   iterate 2 refine q12 ?_
   refine uD (uC (uB (aoR fun _ => ?_)))
   refine q11 ?_
   apply oX; exact rfl; exact rfl; exact rfl; (first | exact .fn _ _ _ | exact .d _ _ _); exact rfl
   refine q11 ?_
   apply spT; exact rfl
   intro hc_; refine q1
   apply spT; exact rfl
   intro hc_; refine q1
   apply spT; exact rfl
   intro hc_; refine q1
   apply spT; exact rfl
   intro hc_
   have hp_ := hc_; try simp only [nrm] at hp_
   apply wA; ((refine EvM.mb _ rfl ?_; assumption)); exact .fn _ _ _; exact xJ; exact e2
   refine q4 (uD (uC ?_)); refine cnd ?_ ?_; refine yU ?_; refine uI ?_
   refine iM (fun _ => ?_)
   refine aoR fun _ => ?_
   iterate 2 refine q11 ?_
   apply aI; exact rfl; exact rfl; exact rfl; decide; decide; decide; exact rfl; exact rfl
   refine q19 ?_
   apply kT; exact rfl; exact rfl
   refine uD ?_; refine xH ?_; refine uC (aoR fun _ => ?_)
   refine q36 ?_; refine q11 (uD (uC ?_)); rotate_left
   refine xZ (fun hc_ => ?_); (try simp only [nrm] at hc_)
   refine uX ?_; refine xH ?_; refine uC (aoR fun _ => ?_)
   refine q36 ?_; refine q11 (uD (uC ?_)); rotate_left
   refine uR fun _ => ?_; try omega
   ·rename_i hr v6 _
    refine vQ (k + 1, (v6, 4), l ++ [(k : Int)]) ⟨by dsimp only; omega, by dsimp only; rw [hl, heldTo_yes x (by omega) hr]⟩ (by dsimp only; omega) (by repeat' (first | exact wO _ | exact wD _ | refine uL rfl ?_ | refine vK rfl ?_ | (refine vY rfl ?_ ?_; (simp <;> rfl)) | (refine vM rfl ?_ ?_; (simp <;> rfl)) | (refine vA rfl ?_ ?_; (simp <;> rfl)))) (by repeat' (first | exact wO _ | exact wD _ | refine uL rfl ?_ | refine vK rfl ?_ | (refine vY rfl ?_ ?_; (simp <;> rfl)) | (refine vM rfl ?_ ?_; (simp <;> rfl)) | (refine vA rfl ?_ ?_; (simp <;> rfl))))
   ·have h9 : ruleR x (k : Int) a b = false := by
     rcases hc_ with h9 | h9
     ·cases h9
     ·exact h9
    exact vQ (k + 1, τ, l) ⟨by dsimp only; omega, by dsimp only; rw [hl, kG x (by rw [h9]; simp)]⟩ (by dsimp only; omega) leP leP
 ·have f7 : Frozen 7 := ⟨trivial⟩
  refine uB (aoR fun _ => ?_)
  refine q37 (uD (uC (uB ?_))); refine cnd ?_ ?_
  refine uN fun _ => ?_; try omega
  refine uR fun _ => ?_; try omega
  refine vU ?_
  iterate 2 refine wF ?_
  refine xR ?_; refine uC (uB (aoR fun _ => ?_))
  refine q41 ?_; refine q12 (uD (uC ?_)); refine wE ?_; rotate_left
  refine iR rfl ?_
  have hk14 : k = 14 := by omega
  subst hk14
  rw [hl, ← held_eq]; rfl
end
section
variable {P : Program} {v : Nat} {ops : Array Oper} {F : Nat → Foot}
def Closed (ops : Array Oper) (listed : Array Bool) : Prop := ∀ j oj, ops[j]? = some oj → listed.getD j false = true → ∀ e ∈ oj.after, Region.binds .any e = true → listed.getD e.on false = true
theorem Closed.set {listed : Array Bool} (h : Closed ops listed) {i : Nat} (hi : i ∈ Region.ready .any ops listed) : Closed ops (listed.setIfInBounds i true) := by
 obtain ⟨hun, oi, hoi, hall⟩ := mem_ready.1 hi
 have up : ∀ q, listed.getD q false = true → (listed.setIfInBounds i true).getD q false = true := fun q hq => by
  by_cases e : i = q
  ·subst e
   rcases Nat.lt_or_ge i listed.size with h' | h'
   ·simp [h']
   ·simp [Array.getElem?_eq_none h'] at hq
  ·rw [getD_set_ne false e]; exact hq
 intro j oj hoj hj e he hb
 by_cases e' : i = j
 ·subst e'
  rw [hoi] at hoj; cases hoj
  exact up _ (hall e he hb)
 ·rw [getD_set_ne false e'] at hj
  exact up _ (h j oj hoj hj e he hb)
def depsC (ops : Array Oper) : Nat → Nat → Nat → Bool
 | 0, _, _ => false
 | fuel + 1, k, i => match ops[k]? with
  | some o => o.after.any fun e => Region.binds .any e && (Nat.beq e.on i || depsC ops fuel e.on i)
  | none => false
theorem eH {listed : Array Bool} (h : Closed ops listed) {i : Nat} : ∀ (fuel k : Nat), (∀ o, ops[k]? = some o → ∀ e ∈ o.after, Region.binds .any e = true → listed.getD e.on false = true) → depsC ops fuel k i = true → listed.getD i false = true
 | 0, _, _, hd => by cases hd
 | fuel + 1, k, hk, hd => by
  unfold depsC at hd
  cases ho : ops[k]? with
  | none => rw [ho] at hd; cases hd
  | some o =>
   rw [ho] at hd
   obtain ⟨e, he, h1⟩ := Array.any_eq_true'.1 hd
   simp only [Bool.and_eq_true, Bool.or_eq_true] at h1
   have hl := hk o ho e he h1.1
   rcases h1.2 with h2 | h2
   ·rw [← Nat.eq_of_beq_eq_true h2]; exact hl
   ·exact eH h fuel e.on (fun o' ho' e' he' hb' => h e.on o' ho' hl e' he' hb') h2
theorem dep_not_ready {listed : Array Bool} (h : Closed ops listed) {fuel k i : Nat} (hd : depsC ops fuel k i = true) (hi : listed.getD i true = false) : k ∉ Region.ready .any ops listed := fun hk => by
 obtain ⟨_, o, ho, hall⟩ := mem_ready.1 hk
 have h1 := eH h fuel k (fun o' ho' e he hb => by rw [ho] at ho'; cases ho'; exact hall e he hb) hd
 rcases Nat.lt_or_ge i listed.size with h' | h'
 ·simp [h'] at h1 hi
  rw [h1] at hi; cases hi
 ·simp [Array.getElem?_eq_none h'] at hi
def anyE (P : Program) (v : Nat) (ops : Array Oper) (F : Nat → Foot) (E : Array Bool → Tm → Store → Prop) : Nat → Array Bool → Tm → Store → Prop
 | 0, listed, tm, σ => E listed tm σ
 | fuel + 1, listed, tm, σ => Region.ready .any ops listed ≠ [] ∧ ∀ i ∈ Region.ready .any ops listed, stepA P v ops F i (anyE P v ops F E fuel (listed.setIfInBounds i true)) tm σ
theorem anyE_first {E : Array Bool → Tm → Store → Prop} {i k : Nat} {oi : Oper} {r : OV} {δ : Diff} (hi : ops[i]? = some oi) (hE : ∀ listed tm σ, E listed tm σ → Region.ready .any ops listed = [k]) (hk : ∀ listed, Closed ops listed → listed.getD i true = false → k ∉ Region.ready .any ops listed) :
  ∀ (fuel : Nat) (listed : Array Bool) (tm : Tm) (σ : Store), Closed ops listed →
   (∀ j oj, ops[j]? = some oj → j ≠ i → listed.getD j true = false → (∀ e ∈ oj.after, Region.binds .any e = true → e.on ≠ i) → oi.apart ops oj = true ∧ (F i).apart (F j) = true) →
   i ∈ Region.ready .any ops listed → YieldsA P v ops F i oi r δ tm σ → anyE P v ops F E fuel (listed.setIfInBounds i true) (tm.putO oi.dst r) (σ.apply δ) → anyE P v ops F E (fuel + 1) listed tm σ := by
 intro fuel
 induction fuel with
 | zero =>
  intro listed tm σ hcl _ hr hy H
  refine ⟨fun h => (by rw [h] at hr; cases hr), fun j hj => ?_⟩
  by_cases hji : j = i
  ·subst hji; exact hy.step hi H
  ·have h1 := ready_mono hj hji
   rw [hE _ _ _ H] at h1
   simp only [List.mem_singleton] at h1
   subst h1
   exact (hk listed hcl (mem_ready.1 hr).1 hj).elim
 | succ fuel ih =>
  intro listed tm σ hcl hfree hr hy H
  refine ⟨fun h => (by rw [h] at hr; cases hr), fun j hj => ?_⟩
  by_cases hji : j = i
  ·subst hji; exact hy.step hi H
  ·have h1 := H.2 j (ready_mono hj hji)
   obtain ⟨hjun, oj, hoj, hall⟩ := mem_ready.1 hj
   have hnot : ∀ e ∈ oj.after, Region.binds .any e = true → e.on ≠ i := fun e he hb heq => by
    have h1 := hall e he hb
    have h0 := (mem_ready.1 hr).1
    rw [heq] at h1
    rcases Nat.lt_or_ge i listed.size with h' | h'
    ·simp [h'] at h0 h1; rw [h0] at h1; cases h1
    ·simp [Array.getElem?_eq_none h'] at h1
   obtain ⟨hap, hfo⟩ := hfree j oj hoj hji hjun hnot
   have h2 := jR hoj hap hfo hy h1
   have hfree' : ∀ k ok, ops[k]? = some ok → k ≠ i → (listed.setIfInBounds j true).getD k true = false →
     (∀ e ∈ ok.after, Region.binds .any e = true → e.on ≠ i) → oi.apart ops ok = true ∧ (F i).apart (F k) = true := fun k ok hk hki hun hno => by
    refine hfree k ok hk hki ?_ hno
    by_cases hjk : j = k
    ·subst hjk; exact hjun
    ·rw [getD_set_ne true hjk] at hun; exact hun
   refine gV (fun tm' σ' h3 => ih (listed.setIfInBounds j true) tm' σ' (hcl.set hj) hfree' (ready_mono hr (Ne.symm hji)) h3.1 ?_) h2
   rw [Array.setIfInBounds_comm _ _ hji]
   exact h3.2
def lstTo (listed : Array Bool) (k : Nat) : Nat → Array Bool
 | 0 => listed
 | n + 1 => lstTo (listed.setIfInBounds k true) (k + 1) n
def lexP (ops : Array Oper) (F : Nat → Foot) : Nat → Nat → Array Bool → Bool
 | 0, _, _ => true
 | fuel + 1, k, listed => (Region.ready .any ops listed).contains k && Region.free .any ops listed k && freeF ops F listed k && lexP ops F fuel (k + 1) (listed.setIfInBounds k true)
theorem nW {E : Array Bool → Tm → Store → Prop} {kb : Nat} (hE : ∀ listed tm σ, E listed tm σ → Region.ready .any ops listed = [kb]) (hdep : ∀ i, i < kb → depsC ops kb kb i = true) : ∀ (l : List Oper) (k : Nat) (listed : Array Bool) (tm : Tm) (σ : Store) (acc : List Foot), k + l.length = kb → Closed ops listed → (∀ j, j < l.length → l[j]? = ops[k + j]?) → acc.length = k → (∀ i f, acc.reverse[i]? = some f → F i = f) →
  lexP ops F l.length k listed = true → adops P v ops (fun acc' tm σ => (∀ i f, acc'.reverse[i]? = some f → F i = f) ∧ E (lstTo listed k l.length) tm σ) k l tm σ acc → anyE P v ops F E l.length listed tm σ
 | [], k, listed, tm, σ, acc, _, _, _, _, _, hB, h => h.2
 | o :: l, k, listed, tm, σ, acc, hkb, hcl, hl, ha, hF, hB, h => by
  have h0 : ops[k]? = some o := by simpa using (hl 0 (by simp)).symm
  simp only [List.length_cons, lexP, Bool.and_eq_true] at hB
  obtain ⟨⟨⟨hr, hf⟩, hff⟩, hB'⟩ := hB
  have known : ∀ (f : Foot) tm σ, adops P v ops (fun acc' tm σ => (∀ i f, acc'.reverse[i]? = some f → F i = f) ∧ E (lstTo listed k (o :: l).length) tm σ) (k + 1) l tm σ (f :: acc) → F k = f := fun f tm σ h => by
   have h1 := cK l (k + 1) tm σ (f :: acc) h
   obtain ⟨a, t, s, ⟨h2, _⟩, m, h3⟩ := xI _ _ _ _ _ h1
   refine h2 k f ?_
   rw [h3, List.reverse_append, List.reverse_cons, List.getElem?_append_left (by simp; omega), List.getElem?_append_right (by simp; omega)]
   simp [ha]
  have main : ∀ f r δ, YieldsA P v ops F k o r δ tm σ → F k = f → adops P v ops (fun acc' tm σ => (∀ i f, acc'.reverse[i]? = some f → F i = f) ∧ E (lstTo listed k (o :: l).length) tm σ) (k + 1) l (tm.putO o.dst r) (σ.apply δ) (f :: acc) → anyE P v ops F E (o :: l).length listed tm σ := fun f r δ hy hk h => by
   refine anyE_first h0 hE (fun listed' hc' hu' => dep_not_ready hc' (hdep k (by simp at hkb; omega)) hu') l.length listed tm σ hcl (fun j oj hj hjk hun hno => ⟨Region.free_spec h0 hf j oj hj hjk hun hno, ?_⟩) (by simpa using hr) hy ?_
   ·have h1 := List.all_eq_true.1 hff j (List.mem_range.2 (Array.getElem?_eq_some_iff.1 hj).1)
    rw [hj, cY hjk, hun] at h1
    simp only [Bool.false_or, Bool.or_eq_true] at h1
    rcases h1 with h1 | h1
    ·obtain ⟨e, he, hb⟩ := Array.any_eq_true'.1 h1
     simp only [Bool.and_eq_true] at hb
     exact (hno e he hb.1 (Nat.eq_of_beq_eq_true hb.2)).elim
    ·exact h1
   ·exact nW hE hdep l (k + 1) _ _ _ (f :: acc) (by simp at hkb; omega) (hcl.set (by simpa using hr)) (fun j hj => by have := hl (j + 1) (by simpa using hj); simpa [Nat.add_assoc, Nat.add_comm 1 j] using this) (by simp [ha]) (fun i g hg => by
     rw [List.reverse_cons] at hg
     by_cases hi : i < acc.reverse.length
     ·rw [List.getElem?_append_left hi] at hg; exact hF i g hg
     ·rw [List.getElem?_append_right (by omega)] at hg
      have : i = k := by
       rcases Nat.lt_or_ge (i - acc.reverse.length) 1 with h' | h'
       ·simp at h' hi; omega
       ·rw [List.getElem?_eq_none (by simpa using h')] at hg; cases hg
      subst this
      simp [ha] at hg
      rw [hk, hg]) hB' h
  unfold adops at h
  rcases h with ⟨hw, ks, r, δ, h1, h2⟩ | ⟨hw, h⟩ | ⟨c, r, ks, hg, hy, h⟩
  ·have hk := known _ _ _ h2
   exact main _ r δ (Or.inl ⟨hw, ks, hk, h1⟩) hk h2
  ·have hk := known _ _ _ h
   exact main _ .un [] (Or.inr (Or.inl ⟨hw, hk, rfl, rfl⟩)) hk h
  ·have hk := known _ _ _ h
   exact main _ (.mb c r) [] (Or.inr (Or.inr ⟨c, r, ks, hg, hk, hy, rfl, rfl⟩)) hk h
theorem xV {n m : Nat} {C0 : Cx} {ro : Option Nat} {E : Array Bool → Tm → Store → Prop} {Q' : Exit → Act → World → Prop} (hn : dstsLt n ops.toList = true) (hE : ∀ (listed : Array Bool) (C : Cx) (G : Gh) (tm : Tm) (σ : Store) (a : Act) (w : World), C0.le C → C.ro = ro → C.Γ.N ≤ v → (∀ k i, listed.getD i true = false → G.μ k (v, i) = none) → SRel n C G tm σ a w → E listed tm σ → wpAnyIn (wideR ro) 0 P .any ops Q' m listed a w) :
  ∀ (fuel : Nat) (listed : Array Bool) (C : Cx) (G : Gh) (tm : Tm) (σ : Store) (a : Act) (w : World), C0.le C → C.ro = ro → C.Γ.N ≤ v → (∀ k i, listed.getD i true = false → G.μ k (v, i) = none) → SRel n C G tm σ a w → anyE P v ops F E fuel listed tm σ → wpAnyIn (wideR ro) 0 P .any ops Q' (fuel + m) listed a w
 | 0, listed, C, G, tm, σ, a, w, hC, hro, hN, hf, hs, h => by rw [Nat.zero_add]; exact hE listed C G tm σ a w hC hro hN hf hs h
 | fuel + 1, listed, C, G, tm, σ, a, w, hC, hro, hN, hf, hs, h => by
  rw [Nat.succ_add]
  refine ⟨fun h0 => (h.1 h0).elim, fun i hi => ?_⟩
  have hst := h.2 i hi
  have hun := (mem_ready.1 hi).1
  have later : ∀ (G' : Gh), (∀ k v' i', v' ≤ v → (v' = v → i' ≠ i) → G'.μ k (v', i') = G.μ k (v', i')) → ∀ k i', (listed.setIfInBounds i true).getD i' true = false → G'.μ k (v, i') = none := fun G' hG k i' hi' => by
   by_cases e : i = i'
   ·subst e
    rcases Nat.lt_or_ge i listed.size with h' | h'
    ·simp [h'] at hi'
    ·simp [Array.getElem?_eq_none h'] at hun
   ·rw [getD_set_ne true e] at hi'
    rw [hG k v i' (Nat.le_refl _) (fun _ => Ne.symm e)]
    exact hf k i' hi'
  unfold stepA at hst
  unfold wpOpIn
  cases ho : ops[i]? with
  | none =>
   rw [ho] at hst
   exact xV hn hE fuel _ C G tm σ a w hC hro hN (later G fun _ _ _ _ _ => rfl) hs hst
  | some o =>
   rw [ho] at hst
   obtain ⟨r, δ, hy, hK⟩ := hst
   have hd := vW hn (o := o) (by simpa using Array.mem_of_getElem? ho)
   rcases hy with ⟨hw, ks, h2, h3⟩ | ⟨hw, h2, rfl, rfl⟩ | ⟨c, r0, ks, hw, h2, h3, rfl, rfl⟩
   ·simp only [yP hw hs.tm, if_true]
    refine h3.ok (K := fun r' σ' => r' = r ∧ σ' = σ.apply δ) ⟨rfl, rfl⟩ n C G a w ro _ Q' hd hro hN (fun k => hf k i hun) hs fun C' G' tm1 σ' a' w' g0 g1 g2 g3 g4 => ?_
    obtain ⟨r', rfl, rfl, rfl⟩ := g4
    exact xV hn hE fuel _ C' G' _ _ a' w' (hC.trans g0) (g0.ro.trans hro) (by rw [g0.N]; exact hN) (later G' g2) g3 hK
   ·simp only [yP hw hs.tm, Bool.false_eq_true, if_false]
    exact ⟨fun _ _ => trivial, xV hn hE fuel _ C G _ _ _ w hC hro hN (later G fun _ _ _ _ _ => rfl) ⟨by rw [Act.put_size, hs.size], by rw [Act.put_defers, hs.defers], hs.tm.put (lE G) o.dst (by rw [hs.size]; exact fun d e => (hd d e).1), hs.w, hs.fix, hs.marks, fun i Y hi => hs.gh i Y ((xL hd _).symm.trans hi)⟩ hK⟩
   ·simp only [iP hw hs.tm]
    cases c with
    | true =>
     simp only [if_true]
     refine (h3 rfl).ok (K := fun r' σ' => r' = r0 ∧ σ' = σ) ⟨rfl, rfl⟩ n C G a w ro _ Q' hd hro hN (fun k => hf k i hun) hs fun C' G' tm1 σ' a' w' g0 g1 g2 g3 g4 => ?_
     obtain ⟨r', rfl, rfl, rfl⟩ := g4
     refine xV hn hE fuel _ C' G' _ _ a' w' (hC.trans g0) (g0.ro.trans hro) (by rw [g0.N]; exact hN) (later G' g2) ⟨g3.size, g3.defers, ?_, g3.w, g3.fix, g3.marks, fun i Y hi => g3.gh i Y ((xL hd _).trans ((xL hd _).symm.trans hi))⟩ hK
     intro t y hy
     cases hdst : o.dst with
     | none =>
      rw [hdst] at hy
      have h5 := g3.tm t y
      rw [hdst] at h5
      exact h5 hy
     | some d =>
      rw [hdst] at hy
      simp only [Tm.putO] at hy
      by_cases e : t = d
      ·subst e
       rw [Tm.put_self] at hy
       cases hy
       have hlt : t < a'.tmps.size := by rw [g3.size]; exact (hd t hdst).1
       refine Or.inr ⟨a'.tmps[t], Array.getElem?_eq_getElem hlt, ?_⟩
       have h6 := g3.tm.val (t := t) (y := r') (by rw [hdst]; exact Tm.put_self _ _ _)
       rw [Array.getD_eq_getD_getElem?, Array.getElem?_eq_getElem hlt] at h6
       rw [RepO]; exact ⟨fun _ => h6, (fun e => by cases e)⟩
      ·rw [Tm.put_ne _ _ e] at hy
       exact g3.tm t y (by rw [hdst]; exact (Tm.put_ne _ _ e).trans hy)
    | false =>
     simp only [Bool.false_eq_true, if_false]
     exact ⟨fun _ _ => trivial, xV hn hE fuel _ C G _ _ _ w hC hro hN (later G fun _ _ _ _ _ => rfl) ⟨by rw [Act.put_size, hs.size], by rw [Act.put_defers, hs.defers], hs.tm.put (by rw [RepO]; exact ⟨(fun e => by cases e), fun _ => rfl⟩) o.dst (by rw [hs.size]; exact fun d e => (hd d e).1), hs.w, hs.fix, hs.marks, fun i Y hi => hs.gh i Y ((xL hd _).symm.trans hi)⟩ hK⟩
theorem anyA_rest {Q : Tm → Store → Prop} {k : Nat} {listed : Array Bool} {l2 : List Oper} {acc0 : List Foot} {tm : Tm} {σ : Store} (hl : ∀ j, l2[j]? = ops[k + j]?) (hacc : acc0.length = k) (h : adops P v ops (fun acc tm σ => lexF ops (footsOf acc.reverse) l2.length k listed = true ∧ Q tm σ) k l2 tm σ acc0) : ∃ F, anyA P v ops F Q l2.length listed tm σ := by
 obtain ⟨acc1, h1⟩ := yQ _ _ _ _ _ h
 have h1' := cK _ _ _ _ _ h1
 obtain ⟨a, _, _, ⟨e, hB, _⟩, m, hm⟩ := xI _ _ _ _ _ h1'
 subst e
 refine ⟨footsOf a.reverse, jG (F := footsOf a.reverse) (Q := Q) l2 k listed tm σ acc0 hl hacc (fun i f hf => ?_) hB (wX (fun a' t s ⟨h2, h3, h4⟩ => ⟨fun i f hf => by
  subst h2
  simp [footsOf, List.getD_eq_getElem?_getD, hf], h4⟩) _ _ _ _ _ h1)⟩
 have hlt : i < acc0.reverse.length := by
  rcases Nat.lt_or_ge i acc0.reverse.length with h' | h'
  ·exact h'
  ·rw [List.getElem?_eq_none h'] at hf; cases hf
 rw [hm, List.reverse_append]
 unfold footsOf
 rw [List.getD_eq_getElem?_getD, List.getElem?_append_left hlt, hf]
 rfl
theorem anyE_of_adops {E : Array Bool → Tm → Store → Prop} {k : Nat} {l1 : List Oper} {tm : Tm} {σ : Store} (hE : ∀ listed tm σ, E listed tm σ → Region.ready .any ops listed = [k]) (hdep : ∀ i, i < k → depsC ops k k i = true) (hk : l1.length = k) (hl : ∀ j, j < l1.length → l1[j]? = ops[0 + j]?)
  (h : adops P v ops (fun acc tm σ => lexP ops (footsOf acc.reverse) k 0 (Array.replicate ops.size false) = true ∧ E (lstTo (Array.replicate ops.size false) 0 k) tm σ) 0 l1 tm σ []) : ∃ F, anyE P v ops F E k (Array.replicate ops.size false) tm σ := by
 obtain ⟨acc1, h1⟩ := yQ _ _ _ _ _ h
 obtain ⟨a, _, _, e, hB, _⟩ := xI _ _ _ _ _ h1
 subst e
 refine ⟨footsOf a.reverse, ?_⟩
 have hcl : Closed ops (Array.replicate ops.size false) := fun j oj hj hjl => by
  have : j < ops.size := (Array.getElem?_eq_some_iff.1 hj).1
  simp [this] at hjl
 have := nW (F := footsOf a.reverse) hE hdep l1 0 (Array.replicate ops.size false) tm σ [] (by simpa using hk) hcl hl rfl (by simp) (by rw [hk]; exact hB) (wX (fun a' t s ⟨h2, h3, h4⟩ => ⟨fun i f hf => by
  subst h2
  simp [footsOf, List.getD_eq_getElem?_getD, hf], by rw [hk]; exact h4⟩) _ _ _ _ _ h1)
 rw [hk] at this
 exact this
def BarK (P : Program) (v : Nat) (ops : Array Oper) (k : Nat) (o : Oper) (l2 : List Oper) (Q : Tm → Store → Prop) (acc : List Foot) (tm : Tm) (σ : Store) : Prop :=
 lexP ops (footsOf acc.reverse) k 0 (Array.replicate ops.size false) = true ∧ awant ops tm o = some true ∧
  OpT P v k o tm σ (fun tm' σ' => adops P v ops (fun acc tm σ => lexF ops (footsOf acc.reverse) l2.length (k + 1) ((lstTo (Array.replicate ops.size false) 0 k).setIfInBounds k true) = true ∧ Q tm σ) (k + 1) l2 tm' σ' (List.replicate (k + 1) ⟨[], []⟩))
end
theorem awp_drawB {E : Env} {n id k : Nat} {l : List Oper} {o : Oper} {Q : Exit → Tm → Store → Prop} {tm : Tm} {σ : Store} (hn : dstsLt n l = true) (ho : l[k]? = some o)
  (hr : Region.ready .any l.toArray (lstTo (Array.replicate l.length false) 0 k) = [k]) (hdep : ((List.range k).all fun i => depsC l.toArray k k i) = true)
  (h : ∀ v, adops E.P v l.toArray (BarK E.P v l.toArray k o (l.drop (k + 1)) (Q .normal)) 0 (l.take k) tm σ []) : awp E.P n (.region id l.toArray true) Q tm σ := fun C ro G a w hro hs => by
 obtain ⟨v, hv, hf⟩ := hs.w.free
 have hkl : k < l.length := (List.getElem?_eq_some_iff.1 ho).1
 have hsz : l.toArray.size = l.length := by simp
 have hoA : l.toArray[k]? = some o := by simpa using ho
 refine wpIn_region_any E.mixed ?_
 let EE : Array Bool → Tm → Store → Prop := fun listed tm σ => listed = lstTo (Array.replicate l.toArray.size false) 0 k ∧ awant l.toArray tm o = some true ∧
  OpT E.P v k o tm σ (fun tm' σ' => adops E.P v l.toArray (fun acc tm σ => lexF l.toArray (footsOf acc.reverse) (l.drop (k + 1)).length (k + 1) ((lstTo (Array.replicate l.toArray.size false) 0 k).setIfInBounds k true) = true ∧ Q .normal tm σ) (k + 1) (l.drop (k + 1)) tm' σ' (List.replicate (k + 1) ⟨[], []⟩))
 have hEr : ∀ listed tm σ, EE listed tm σ → Region.ready .any l.toArray listed = [k] := fun listed tm σ ⟨e, _⟩ => by rw [e, hsz]; exact hr
 obtain ⟨F, hA⟩ := anyE_of_adops (E := EE) (l1 := l.take k) (tm := tm) (σ := σ) hEr (fun i hi => List.all_eq_true.1 hdep i (List.mem_range.2 hi)) (by simp; omega) (fun j hj => by
  have : j < k := by simp at hj; omega
  rw [List.getElem?_take_of_lt this]; simp) (wX (fun a t s ⟨h1, h2, h3⟩ => ⟨h1, rfl, h2, h3⟩) _ _ _ _ _ (h v))
 have hm : l.toArray.size = k + ((l.drop (k + 1)).length + 1) := by simp; omega
 have key := xV (C0 := C) (ro := ro) (m := (l.drop (k + 1)).length + 1) (n := n) (Q' := Lift n C Q) (by simpa using hn) (fun listed C1 G1 tm1 σ1 a1 w1 hC1 hro1 hN1 hf1 hs1 ⟨e, hw, hO⟩ => by
  have hrd := hEr listed tm1 σ1 ⟨e, hw, hO⟩
  refine ⟨fun h0 => (by rw [hrd] at h0; cases h0), fun i hi => ?_⟩
  rw [hrd] at hi
  simp only [List.mem_singleton] at hi
  subst hi
  have hun : listed.getD i true = false := (mem_ready.1 (show i ∈ Region.ready .any l.toArray listed by rw [hrd]; simp)).1
  unfold wpOpIn
  rw [hoA]
  simp only [yP hw hs1.tm, if_true]
  refine hO n C1 G1 a1 w1 ro _ _ (vW (by simpa using hn) (List.mem_of_getElem? ho)) hro1 hN1 (fun k' => hf1 k' i hun) hs1 fun C2 G2 tm2 σ2 a2 w2 g0 g1 g2 g3 g4 => ?_
  obtain ⟨F2, hA2⟩ := anyA_rest (fun j => by simp [Nat.add_comm, Nat.add_left_comm]) (by simp) g4
  rw [e]
  refine xE (C0 := C) (ro := ro) (by simpa using hn) (fun C' G tm σ a w h0 h1 h2 => ⟨C', G, tm, σ, h0, h1, h2⟩) _ _ C2 G2 tm2 σ2 a2 w2 (hC1.trans g0) (g0.ro.trans hro1) (by rw [g0.N]; exact hN1) (fun k' i' hi' => ?_) g3 hA2
  rw [← e] at hi'
  by_cases ee : i = i'
  ·subst ee
   rcases Nat.lt_or_ge i listed.size with h' | h'
   ·simp [h'] at hi'
   ·simp [Array.getElem?_eq_none h'] at hun
  ·rw [getD_set_ne true ee] at hi'
   rw [g2 k' v i' (Nat.le_refl _) (fun _ => Ne.symm ee)]
   exact hf1 k' i' hi') k _ C G tm σ a { w with drawn := w.drawn + 1 } (.refl C) hro hv (fun k i _ => hf k i) ⟨hs.size, hs.defers, hs.tm, hs.w.drawn _, hs.fix, hs.marks, fun i Y hi => ⟨Y.st i _ _ (hs.gh i Y hi).1 fun _ _ => rfl, (hs.gh i Y hi).2⟩⟩ hA
 rw [← hm] at key
 exact key
section
variable {E : Env} {v j k : Nat} {ops : Array Oper} {Q : Tm → Store → Prop} {l2 : List Oper} {acc : List Foot} {tm : Tm} {σ : Store} {dst : Option Tmp} {ty : TypeId} {pos : String} {af : Array Edge} {gd : Option (Nat × Bool)}
theorem qX {n id : Nat} {l : List Oper} {o : Oper} {Q : Exit → Tm → Store → Prop} (k : Nat) (hn : dstsLt n l = true) (ho : l[k]? = some o)
  (hr : Region.ready .any l.toArray (lstTo (Array.replicate l.length false) 0 k) = [k]) (hdep : ((List.range k).all fun i => depsC l.toArray k k i) = true)
  (h : ∀ v, DO E.P v l.toArray (BarK E.P v l.toArray k o (l.drop (k + 1)) (Q .normal)) 0 (l.take k) tm σ []) : awp E.P n (.region id l.toArray true) Q tm σ := awp_drawB hn ho hr hdep fun v => (h v).out
theorem cF {x : Operand} {xs : List Operand} {tys : Array TypeId} {ys : List OV} {Y : YJ} {kk : Nat} {τ : Stamp} {i i' : Nat} {l0 : Rows} {R1 : Rows → Prop} {ans : Bool} (hx : ev tm x = some (.yl kk τ)) (ha : evs tm xs = some ys) (hg : tm GS = some (.gh i Y)) (hY : YieldW E.P Y kk τ i i' ys l0 R1 ans)
  (hle : (stL l0).le σ) (hn : ∀ l1, R1 l1 → (l1.map (·.1)).Nodup) (hlex : lexP ops (footsOf acc.reverse) k 0 (Array.replicate ops.size false) = true)
  (hw : awant ops tm ⟨dst, .call { callee := .value x, args := xs.toArray, argTypes := tys }, ty, pos, af, gd⟩ = some true)
  (hcont : ∀ l1, R1 l1 → DO E.P v ops (fun acc tm σ => lexF ops (footsOf acc.reverse) l2.length (k + 1) ((lstTo (Array.replicate ops.size false) 0 k).setIfInBounds k true) = true ∧ Q tm σ) (k + 1) l2 ((tm.putO dst (.bool ans)).put GS (.gh i' Y)) ((σ.apply (dels l0)).apply (outD l1)) (List.replicate (k + 1) ⟨[], []⟩)) :
  DO E.P v ops (BarK E.P v ops k ⟨dst, .call { callee := .value x, args := xs.toArray, argTypes := tys }, ty, pos, af, gd⟩ l2 Q) j [] tm σ acc :=
 ⟨⟨hlex, hw, fun n C G a w ro next Q' hd hro hN hf hs hk' => mG hY hx ha hg hle hn hd hro hN hf hs fun l1 G' a' w' h0 h1 h2 h3 => hk' C G' _ _ a' w' (.refl C) h1 h2 h3 (hcont l1 h0).out⟩⟩
theorem gQ {L : Array Bool} {m k' : Nat} (hB : lexF ops (footsOf acc.reverse) m k' L = true) (h : Q tm σ) : DO E.P v ops (fun acc tm σ => lexF ops (footsOf acc.reverse) m k' L = true ∧ Q tm σ) j [] tm σ acc := ⟨⟨hB, h⟩⟩
end
end Go.Proofs.YtnkocjkkefnelaaGreat
