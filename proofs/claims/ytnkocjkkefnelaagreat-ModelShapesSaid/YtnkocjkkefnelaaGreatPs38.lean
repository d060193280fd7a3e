/- Parts. -/
import Derived.Test.YtnkocjkkefnelaaGreatPs4
import Derived.Test.YtnkocjkkefnelaaGreatPs24
import Derived.Test.YtnkocjkkefnelaaGreatPs25
import Derived.Test.YtnkocjkkefnelaaGreatPs36
import Derived.Test.YtnkocjkkefnelaaGreatPs37
set_option linter.unusedVariables false
set_option linter.unusedSimpArgs false
set_option maxHeartbeats 4000000
namespace Go.Proofs.YtnkocjkkefnelaaGreat
open Go.RowKit
theorem atI_nums {o : List Nat} {a : Nat} (h : a ∈ o) : atI (nums o) (a : Int) = ((ixN o a : Nat) : Int) := by
 unfold atI
 rw [(iW o a 0).2 h, Nat.zero_add]
theorem isPo_iff {x : Ex} {a b : Nat} : isPo x a b = true ↔ (evn x).po a b := by
 unfold isPo Evn.po
 simp only [Bool.and_eq_true, decide_eq_true_eq]
 exact ⟨fun ⟨⟨h1, h2⟩, h3⟩ => ⟨h1, h2, h3⟩, fun ⟨h1, h2, h3⟩ => ⟨⟨h1, h2⟩, h3⟩⟩
theorem fU {x : Ex} {o : List Nat} (hn : o.Nodup) {a : Nat} (ha : a ∈ o) {j : Nat} (hj : j < o.length) : canB x (nums o) a j = true ↔ (evn x).cand o a (o.getD j 0) := by
 unfold canB Evn.cand
 rw [xO, Int.toNat_natCast, atI_nums ha, aO hn hj]
 simp only [Bool.and_eq_true, Bool.or_eq_true, Bool.not_eq_true', decide_eq_true_eq, decide_eq_false_iff_not, isPo_iff]
 constructor
 ·rintro ⟨⟨⟨h1, h2⟩, h3⟩, h4⟩
  exact ⟨fun e => h1 (by rw [e]), h2, h3, h4.imp (fun h => by omega) id⟩
 ·rintro ⟨h1, h2, h3, h4⟩
  exact ⟨⟨⟨fun e => h1 (by omega), h2⟩, h3⟩, h4.imp (fun h => by omega) id⟩
theorem iK (x : Ex) (l : List Int) (n : Nat) : ∀ k, (seesTo x l n k = -1 ∧ ∀ j, j < k → canB x l n j = false) ∨ ∃ j, j < k ∧ canB x l n j = true ∧ seesTo x l n k = l.getD j 0 ∧ ∀ i, j < i → i < k → canB x l n i = false := fun k => by
 induction k with
 | zero => exact Or.inl ⟨rfl, fun j hj => by omega⟩
 | succ k ih =>
  by_cases h : canB x l n k = true
  ·refine Or.inr ⟨k, by omega, h, by rw [seesTo, if_pos h], fun i h1 h2 => by omega⟩
  ·have h' : canB x l n k = false := by simpa using h
   have e : seesTo x l n (k + 1) = seesTo x l n k := by rw [seesTo, if_neg h]
   rcases ih with ⟨h1, h2⟩ | ⟨j, h1, h2, h3, h4⟩
   ·refine Or.inl ⟨e.trans h1, fun j hj => ?_⟩
    rcases Nat.lt_or_ge j k with g | g
    ·exact h2 j g
    ·rw [show j = k by omega]; exact h'
   ·refine Or.inr ⟨j, by omega, h2, e.trans h3, fun i g1 g2 => ?_⟩
    rcases Nat.lt_or_ge i k with g | g
    ·exact h4 i g1 g
    ·rw [show i = k by omega]; exact h'
theorem oU {x : Ex} {o : List Nat} (hn : o.Nodup) {a : Nat} (ha : a ∈ o) {f : Int} (hf : 0 ≤ f) : seesTo x (nums o) a (nums o).length = f ↔ (evn x).sees o a f.toNat := by
 rw [xI]
 constructor
 ·intro h
  rcases iK x (nums o) a o.length with ⟨h1, _⟩ | ⟨j, h1, h2, h3, h4⟩
  ·omega
  ·have e : f.toNat = o.getD j 0 := by rw [← h, h3, xO, Int.toNat_natCast]
   rw [e]
   refine ⟨xB h1, (fU hn ha h1).1 h2, fun m hm hc => ?_⟩
   rw [aO hn h1]
   obtain ⟨g1, g2⟩ := yM hm
   rcases Nat.lt_or_ge j (ixN o m) with g | g
   ·have := h4 _ g g1
    rw [(fU hn ha g1).2 (by rw [g2]; exact hc)] at this
    cases this
   ·exact g
 ·rintro ⟨h1, h2, h3⟩
  obtain ⟨g1, g2⟩ := yM h1
  have hc : canB x (nums o) a (ixN o f.toNat) = true := (fU hn ha g1).2 (by rw [g2]; exact h2)
  rcases iK x (nums o) a o.length with ⟨_, k2⟩ | ⟨j, k1, k2, k3, k4⟩
  ·rw [k2 _ g1] at hc; cases hc
  ·have := h3 _ (xB k1) ((fU hn ha k1).1 k2)
   rw [aO hn k1] at this
   have e : j = ixN o f.toNat := by
    rcases Nat.lt_or_ge j (ixN o f.toNat) with g | g
    ·rw [k4 _ g g1] at hc; cases hc
    ·omega
   rw [k3, xO, e, g2]
   omega
theorem mV {x : Ex} {o : List Nat} (hi : ∀ a ∈ o, a < x.evs.length) {i k : Nat} (h1 : i < o.length) (h2 : k < o.length) : aheadB x (nums o) i k = true ↔ (evn x).ppo (o.getD k 0) (o.getD i 0) ∨ (evn x).co (o.getD k 0) (o.getD i 0) := by
 unfold aheadB
 rw [xO, xO, Int.toNat_natCast, Int.toNat_natCast, Bool.or_eq_true]
 have a1 := hi _ (xB h1)
 have a2 := hi _ (xB h2)
 exact ⟨fun h => h.imp (fun h => ⟨a2, a1, h⟩) fun h => ⟨a2, a1, h⟩, fun h => h.imp (fun h => h.2.2) fun h => h.2.2⟩
theorem right_iff {x : Ex} (h : x.rel) {o : List Nat} (hn : o.Nodup) (ho : ∀ a, a ∈ o ↔ (evn x).is a) : rightB x (nums o) = true ↔ (evn x).right o := by
 have hE := kE h
 have hi : ∀ a ∈ o, a < x.evs.length := fun a ha => ((ho a).1 ha).1
 unfold rightB
 rw [List.all_eq_true, xI]
 constructor
 ·intro hr
  have hrow : ∀ i, i < o.length → (∀ k, i < k → k < o.length → aheadB x (nums o) i k = false) ∧ seeB x (nums o) i = false := fun i hl => by
   have := hr i (List.mem_range.2 hl)
   unfold rightAt at this
   simp only [Bool.and_eq_true, Bool.not_eq_true', xI] at this
   refine ⟨fun k h1 h2 => ?_, this.2⟩
   have h3 := List.all_eq_true.1 this.1 k (List.mem_range.2 h2)
   rw [decide_eq_false (by omega), Bool.false_or, Bool.not_eq_true'] at h3
   exact h3
  refine ⟨fun a ha b hb hab => ?_, fun a ha hl => ?_⟩
  ·obtain ⟨a1, a2⟩ := yM ha
   obtain ⟨b1, b2⟩ := yM hb
   have hne : a ≠ b := by
    rcases hab with g | g
    ·have := (hE.ppo a b g).1.1
     omega
    ·exact (hE.co a b g).2.2.2
   rcases Nat.lt_or_ge (ixN o a) (ixN o b) with g | g
   ·exact g
   ·have g' : ixN o b < ixN o a := by
     rcases Nat.lt_or_ge (ixN o b) (ixN o a) with g1 | g1
     ·exact g1
     ·exact (hne (nP ha hb (by omega))).elim
    have := (hrow _ b1).1 _ g' a1
    rw [(mV hi b1 a1).2 (by rw [a2, b2]; exact hab)] at this
    cases this
  ·obtain ⟨a1, a2⟩ := yM ha
   have hs := (hrow _ a1).2
   unfold seeB at hs
   rw [xO, a2, Int.toNat_natCast, show (x.evs.getD a default).ldB = true from hl, Bool.true_and, Bool.not_eq_false', decide_eq_true_eq] at hs
   have h0 := (h.src a (hi a ha) hl).1
   exact (oU hn ha (by omega)).1 hs
 ·intro hr i hl
  have hl := List.mem_range.1 hl
  have ha := xB hl
  unfold rightAt
  rw [Bool.and_eq_true]
  constructor
  ·rw [List.all_eq_true, xI]
   intro k hk
   have hk := List.mem_range.1 hk
   by_cases e : k ≤ i
   ·rw [decide_eq_true e]; rfl
   ·rw [decide_eq_false e, Bool.false_or, Bool.not_eq_true']
    cases g : aheadB x (nums o) i k with
    | false => rfl
    | true =>
     have := hr.fwd _ (xB hk) _ ha ((mV hi hl hk).1 g)
     rw [aO hn hk, aO hn hl] at this
     omega
  ·unfold seeB
   rw [xO, Int.toNat_natCast]
   by_cases hld : (x.evs.getD (o.getD i 0) default).ldB = true
   ·have h0 := (h.src _ (hi _ ha) hld).1
    rw [decide_eq_true ((oU hn ha (by omega)).2 (hr.see _ ha hld))]
    simp
   ·rw [Bool.eq_false_iff.2 hld]; rfl
theorem byAx_eq {x : Ex} (h : x.rel) : byAxB x = ((!circleB x.evs.length (rcohL x) && !circleB x.evs.length (gloL x)) && ratB x) := by
 unfold byAxB
 rw [axioms_law h fun o hn ho => right_iff h hn ho, Bool.and_comm]
set_option maxRecDepth 100000
theorem sQ {z : Int} (h : (Lit.int .u8 z).wf = true) : 0 ≤ z ∧ z < 256 := by
 simp only [Lit.wf, Bool.and_eq_true, decide_eq_true_eq] at h
 have e1 : IntKind.u8.min = 0 := by decide
 have e2 : IntKind.u8.max = 255 := by decide
 rw [e1, e2] at h
 exact ⟨h.1, by omega⟩
section
variable {E : Env} {v j : Nat} {ops : Array Oper} {K : Tm → Store → Prop} {rest : List Oper} {tm : Tm} {σ : Store} {ty : TypeId} {pos : String} {af : Array Edge}
theorem cP {dst : Option Tmp} {T T' : TypeId} {x y : Operand} {a i : Nat} (hx : ev tm x = some (.int .u8 (a : Int))) (hy : ev tm y = some (.int .i64 (i : Int))) (hi : i ≤ 8) (h : AO E.P v ops K (j + 1) rest (tm.putO dst (.int .u8 ((a / 2 ^ i : Nat) : Int))) (σ.apply [])) : AO E.P v ops K j (⟨dst, .binOp .shr T x y T', ty, pos, af, none⟩ :: rest) tm σ := by
 refine S_shr hx hy (by omega) ?_
 rw [show (a : Int).fdiv (2 ^ min (i : Int).toNat IntKind.u8.bits) = ((a / 2 ^ i : Nat) : Int) by
  rw [Int.toNat_natCast, show IntKind.u8.bits = 8 from rfl, Nat.min_eq_left hi, Int.fdiv_eq_ediv_of_nonneg _ (Int.le_of_lt (Int.pow_pos (by decide)))]
  push_cast
  rfl]
 exact h
theorem aI {dst : Option Tmp} {T T' : TypeId} {x y : Operand} {k : IntKind} {a : Nat} (m : Nat) (hx : ev tm x = some (.int k (a : Int))) (hy : ev tm y = some (.int k (m : Int))) (hm : 0 < m) (h : AO E.P v ops K (j + 1) rest (tm.putO dst (.int k ((a % m : Nat) : Int))) (σ.apply [])) : AO E.P v ops K j (⟨dst, .binOp .rem T x y T', ty, pos, af, none⟩ :: rest) tm σ := by
 refine tR hx hy (by omega) ?_
 rw [show (a : Int).tmod (m : Int) = ((a % m : Nat) : Int) by rw [Int.tmod_eq_emod_of_nonneg (by omega)]; rfl]
 exact h
theorem S_quoN {dst : Option Tmp} {T T' : TypeId} {x y : Operand} {a : Nat} (m : Nat) (hx : ev tm x = some (.int .i64 (a : Int))) (hy : ev tm y = some (.int .i64 (m : Int))) (ha : a < 65536) (hm : 0 < m) (h : AO E.P v ops K (j + 1) rest (tm.putO dst (.int .i64 ((a / m : Nat) : Int))) (σ.apply [])) : AO E.P v ops K j (⟨dst, .binOp .quo T x y T', ty, pos, af, none⟩ :: rest) tm σ := by
 refine tS hx hy (by omega) ?_
 have hle : a / m ≤ a := Nat.div_le_self _ _
 rw [show IntKind.i64.wrap ((a : Int).tdiv (m : Int)) = ((a / m : Nat) : Int) by
  rw [Int.tdiv_eq_ediv_of_nonneg (by omega), show (a : Int) / (m : Int) = ((a / m : Nat) : Int) from rfl]
  generalize a / m = q at hle
  unfold IntKind.wrap
  simp [IntKind.bits, IntKind.signed]
  omega]
 exact h
end
set_option maxHeartbeats 8000000 in
theorem lawShapes_p (a b c : Nat) (ha : a < 256) (hb : b < 256) (hcc : c < 256) : Pure E.P 7 [.int .u8 a, .int .u8 b, .int .u8 c] (.bool true) := by
 have hkn := known8_p
 obtain ⟨hrel, hle, hok⟩ := sh_fine a b c
 have hSh := shape_p (shK a) (shBt b) (shR c) (fun i => by unfold shK; omega) hok
 refine fnA Tryz.func7 Tryz.ntmps7 ?_
 refine uB (aoR fun _ => ?_)
 refine q12 (uE (uC (uB (aoR fun _ => ?_))))
 apply xF; exact rfl
 refine uE (uC (uB (aoR fun _ => ?_)))
 apply xF; exact rfl
 refine uE (uC ?_)
 iterate 2 refine uB ?_
 refine aoR fun _ => ?_; refine q12 (uE (uC (uW ?_)))
 rotate_left
 rename_i v0 v1 v2 _
 refine uT (X := Nat) (fun i => tmL [(0, .int .u8 a), (1, .int .u8 b), (2, .int .u8 c), (7, .lo 7 (v1, 0) 4 0 0), (8, .lo 8 (v2, 0) 4 0 0), (9, .int .i64 i)])
  (fun i => stL [(7, ((v1, 0), ⟨4, [[.int .i64 (if 0 < i then shK a 0 else 0), .int .i64 (if 1 < i then shK a 1 else 0), .int .i64 (if 2 < i then shK a 2 else 0), .int .i64 (if 3 < i then shK a 3 else 0)]]⟩)), (8, ((v2, 0), ⟨4, [[.bool (if 0 < i then shR c 0 else false), .bool (if 1 < i then shR c 1 else false), .bool (if 2 < i then shR c 2 else false), .bool (if 3 < i then shR c 3 else false)]]⟩))]) (fun i => i ≤ 4) (fun i => 4 - i) 0 (Nat.zero_le _) leP leP ?_
 intro i hi
 have h04 : i = 0 ∨ i = 1 ∨ i = 2 ∨ i = 3 ∨ i = 4 := by omega
 rcases h04 with rfl | rfl | rfl | rfl | rfl
 ·have hs1 : a / 2 ^ 0 < 256 := Nat.lt_of_le_of_lt (Nat.div_le_self _ _) ha
  have hs2 : c / 2 ^ 0 < 256 := Nat.lt_of_le_of_lt (Nat.div_le_self _ _) hcc
  iterate 2 refine uB ?_
  refine aoR fun _ => ?_; refine q11 ?_; refine q37 (uE (uC ?_))
  refine cnd ?_ ?_
  refine uF fun _ => ?_; try omega
  refine uZ (uC (uB (uW (uB (aoR fun _ => ?_)))))
  iterate 3 refine q11 ?_
  apply cP (i := 0); exact rfl; exact rfl; decide
  apply yT; exact rfl; exact rfl; exact rfl; exact rfl; exact rfl; omega
  apply aI 2; exact rfl; exact rfl; decide
  refine q36 ?_
  apply vU; exact rfl; exact rfl; exact rfl; exact rfl; exact rfl; omega
  refine q15 (uE (uC (aoR fun _ => ?_)))
  iterate 3 refine q11 ?_
  apply cP (i := 0); exact rfl; exact rfl; decide
  apply aI 2; exact rfl; exact rfl; decide
  refine q46 ?_
  apply vU; exact rfl; exact rfl; exact rfl; exact rfl; exact rfl; omega
  refine q15 (uE ?_); refine xE ?_; refine uC (aoR fun _ => ?_)
  refine q11 ?_; refine q36 ?_; refine q12 (uE (uC ?_)); rotate_left
  refine uI fun _ => ?_; try omega
  exact uV (0 + 1) (by decide) (by decide) leP leP
 ·have hs1 : a / 2 ^ 1 < 256 := Nat.lt_of_le_of_lt (Nat.div_le_self _ _) ha
  have hs2 : c / 2 ^ 1 < 256 := Nat.lt_of_le_of_lt (Nat.div_le_self _ _) hcc
  iterate 2 refine uB ?_
  refine aoR fun _ => ?_; refine q11 ?_; refine q37 (uE (uC ?_))
  refine cnd ?_ ?_
  refine uF fun _ => ?_; try omega
  refine uZ (uC (uB (uW (uB (aoR fun _ => ?_)))))
  iterate 3 refine q11 ?_
  apply cP (i := 1); exact rfl; exact rfl; decide
  apply yT; exact rfl; exact rfl; exact rfl; exact rfl; exact rfl; omega
  apply aI 2; exact rfl; exact rfl; decide
  refine q36 ?_
  apply vU; exact rfl; exact rfl; exact rfl; exact rfl; exact rfl; omega
  refine q15 (uE (uC (aoR fun _ => ?_)))
  iterate 3 refine q11 ?_
  apply cP (i := 1); exact rfl; exact rfl; decide
  apply aI 2; exact rfl; exact rfl; decide
  refine q46 ?_
  apply vU; exact rfl; exact rfl; exact rfl; exact rfl; exact rfl; omega
  refine q15 (uE ?_); refine xE ?_; refine uC (aoR fun _ => ?_)
  refine q11 ?_; refine q36 ?_; refine q12 (uE (uC ?_)); rotate_left
  refine uI fun _ => ?_; try omega
  exact uV (1 + 1) (by decide) (by decide) leP leP
 ·have hs1 : a / 2 ^ 2 < 256 := Nat.lt_of_le_of_lt (Nat.div_le_self _ _) ha
  have hs2 : c / 2 ^ 2 < 256 := Nat.lt_of_le_of_lt (Nat.div_le_self _ _) hcc
  iterate 2 refine uB ?_
  refine aoR fun _ => ?_; refine q11 ?_; refine q37 (uE (uC ?_))
  refine cnd ?_ ?_
  refine uF fun _ => ?_; try omega
  refine uZ (uC (uB (uW (uB (aoR fun _ => ?_)))))
  iterate 3 refine q11 ?_
  apply cP (i := 2); exact rfl; exact rfl; decide
  apply yT; exact rfl; exact rfl; exact rfl; exact rfl; exact rfl; omega
  apply aI 2; exact rfl; exact rfl; decide
  refine q36 ?_
  apply vU; exact rfl; exact rfl; exact rfl; exact rfl; exact rfl; omega
  refine q15 (uE (uC (aoR fun _ => ?_)))
  iterate 3 refine q11 ?_
  apply cP (i := 2); exact rfl; exact rfl; decide
  apply aI 2; exact rfl; exact rfl; decide
  refine q46 ?_
  apply vU; exact rfl; exact rfl; exact rfl; exact rfl; exact rfl; omega
  refine q15 (uE ?_); refine xE ?_; refine uC (aoR fun _ => ?_)
  refine q11 ?_; refine q36 ?_; refine q12 (uE (uC ?_)); rotate_left
  refine uI fun _ => ?_; try omega
  exact uV (2 + 1) (by decide) (by decide) leP leP
 ·have hs1 : a / 2 ^ 3 < 256 := Nat.lt_of_le_of_lt (Nat.div_le_self _ _) ha
  have hs2 : c / 2 ^ 3 < 256 := Nat.lt_of_le_of_lt (Nat.div_le_self _ _) hcc
  iterate 2 refine uB ?_
  refine aoR fun _ => ?_; refine q11 ?_; refine q37 (uE (uC ?_))
  refine cnd ?_ ?_
  refine uF fun _ => ?_; try omega
  refine uZ (uC (uB (uW (uB (aoR fun _ => ?_)))))
  iterate 3 refine q11 ?_
  apply cP (i := 3); exact rfl; exact rfl; decide
  apply yT; exact rfl; exact rfl; exact rfl; exact rfl; exact rfl; omega
  apply aI 2; exact rfl; exact rfl; decide
  refine q36 ?_
  apply vU; exact rfl; exact rfl; exact rfl; exact rfl; exact rfl; omega
  refine q15 (uE (uC (aoR fun _ => ?_)))
  iterate 3 refine q11 ?_
  apply cP (i := 3); exact rfl; exact rfl; decide
  apply aI 2; exact rfl; exact rfl; decide
  refine q46 ?_
  apply vU; exact rfl; exact rfl; exact rfl; exact rfl; exact rfl; omega
  refine q15 (uE ?_); refine xE ?_; refine uC (aoR fun _ => ?_)
  refine q11 ?_; refine q36 ?_; refine q12 (uE (uC ?_)); rotate_left
  refine uI fun _ => ?_; try omega
  exact uV (3 + 1) (by decide) (by decide) leP leP
 ·generalize hx : (shRd (shK a) (shBt b) (shR c) 4).ex = x at hSh hrel
  have hxl : x.evs.length ≤ 8 := by rw [← hx]; exact hle
  have hc := hrel.check
  have hfit := hrel.fit
  obtain ⟨_, e2, _⟩ := judge_ok hc
  have hA := iG x hfit (by omega)
  have hC := rcheck_p x hfit.1 (fun e he => (hfit.1.2.1 e he).bare)
  have hB := byAxioms_p x hrel (gI hfit.1 hc)
  have eB : byAxB x = allowB x := byAx_eq hrel
  rw [eB] at hB
  rw [e2] at hA
  rw [hc] at hC
  generalize allowB x = w at hA hB
  have hb5 : b / 5 < 256 := by omega
  iterate 2 refine uB ?_
  refine aoR fun _ => ?_; refine q11 ?_; refine q37 (uE (uC ?_))
  refine cnd ?_ ?_
  refine uF fun _ => ?_; try omega
  refine uI fun _ => ?_; try omega
  refine wC ?_
  iterate 2 refine wM ?_
  refine yE ?_; refine uC (uB (aoR fun _ => ?_))
  refine q14 ?_; refine q11 ?_
  apply yT; exact rfl; exact rfl; exact rfl; exact rfl; exact rfl; omega
  apply aI 5; exact rfl; exact rfl; decide
  refine q11 ?_
  apply yT; exact rfl; exact rfl; exact rfl; exact rfl; exact rfl; omega
  apply S_quoN 5; exact rfl; exact rfl; omega; decide
  apply aI 5; exact rfl; exact rfl; decide
  apply gF; exact rfl; exact rfl; exact rfl; exact rfl; exact rfl
  refine q14 ?_
  apply uP; exact rfl; exact .fn _ _ _; exact rfl; (exact hSh)
  apply xF; exact rfl
  refine q15 (uE (uC (uB (aoR fun _ => ?_))))
  refine q14 ?_
  apply uP; exact rfl; exact .fn _ _ _; exact rfl; (exact hA)
  refine q11 ?_
  iterate 2 (apply zJ; exact rfl; exact rfl)
  iterate 2 refine q12 ?_
  refine uE (uC (uB (aoR fun _ => ?_)))
  refine q14 ?_
  apply uP; exact rfl; exact .fn _ _ _; exact rfl; (exact hC)
  refine q46 ?_; refine q11 ?_
  apply spT; exact rfl
  intro hc_; refine q1
  apply spT; exact rfl
  intro hc_; refine q7; refine q4 ?_; refine q11 ?_
  apply spT; exact rfl
  intro hc_; refine q1
  apply spT; exact rfl
  intro hc_; refine q27
  apply spT; exact rfl
  intro hc_
  have hp_ := hc_; try simp only [nrm] at hp_
  apply vD; (exact EvM.plain rfl rfl); exact .fn _ _ _; exact vY; (exact hB)
  apply spT; exact rfl
  intro hc_
  apply uAD; exact rfl; exact rfl; exact evm; exact evm
  refine q4 ?_; refine q11 ?_
  apply spT; exact rfl
  intro hc_
  have hp_ := hc_; try simp only [nrm] at hp_
  apply vD; (exact EvM.plain rfl rfl); exact .fn _ _ _; exact vY; (exact hkn)
  refine q4 ?_; refine q12 (uE (uC ?_)); refine wJ ?_; rotate_left
  exact uU rfl (by simp)
theorem lawShapes_q (a b c : Int) (ha : 0 ≤ a ∧ a < 256) (hb : 0 ≤ b ∧ b < 256) (hcc : 0 ≤ c ∧ c < 256) : Pure E.P 7 [.int .u8 a, .int .u8 b, .int .u8 c] (.bool true) := by
 obtain ⟨a, rfl⟩ := Int.eq_ofNat_of_zero_le ha.1
 obtain ⟨b, rfl⟩ := Int.eq_ofNat_of_zero_le hb.1
 obtain ⟨c, rfl⟩ := Int.eq_ofNat_of_zero_le hcc.1
 exact lawShapes_p a b c (by omega) (by omega) (by omega)
end Go.Proofs.YtnkocjkkefnelaaGreat
