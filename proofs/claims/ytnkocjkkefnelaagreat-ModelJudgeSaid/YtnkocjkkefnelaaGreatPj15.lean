/- Parts. -/
import Derived.Deep.OwnRows
import Derived.Test.YtnkocjkkefnelaaGreatPj3
import Derived.Test.YtnkocjkkefnelaaGreatPj4
import Derived.Test.YtnkocjkkefnelaaGreatPj5
import Derived.Test.YtnkocjkkefnelaaGreatPj6
import Derived.Test.YtnkocjkkefnelaaGreatPj10
import Derived.Test.YtnkocjkkefnelaaGreatPj14
set_option linter.unusedVariables false
set_option linter.unusedSimpArgs false
set_option maxRecDepth 100000
namespace Go.Proofs.YtnkocjkkefnelaaGreat
open Go.RowKit
theorem placeFrom_drop (o : List (Sl × List Int)) (n : Int) (k : Nat) (h : k < o.length) : placeFrom (o.drop k) n = if 0 ≤ atI (o.getD k default).2 n then atI (o.getD k default).2 n else placeFrom (o.drop (k + 1)) n := by
 rw [List.drop_eq_getElem_cons h, placeFrom, List.getD_eq_getElem?_getD, List.getElem?_eq_getElem h]; rfl
set_option maxHeartbeats 1000000 in
theorem mD (x : Ex) (hx : x.order.length ≤ 65536) (hr : ∀ i, (x.order.getD i default).2.length ≤ 65536) (n : Int) : Pure E.P 63 [exOV x, .int .i64 n] (.int .i64 (placeFrom x.order n)) := by
 have f1 : Frozen 1 := ⟨trivial⟩
 have f2 : Frozen 2 := ⟨trivial⟩
 refine fnA Tryz.func63 Tryz.ntmps63 ?_
 refine uB (aoR fun _ => ?_)
 refine q34 ?_; refine q12 (uC (uA ?_))
 iterate 2 refine uB ?_
 refine aoR fun _ => ?_; refine q12 (uC (uA (uF ?_)))
 rotate_left
 refine uZ (X := Nat) (fun k => tmL [(1, .int .i64 n), (2, .d (.pt (exRow x) 0)), (5, .int .i64 k)]) (fun _ => stL []) (fun k => k ≤ x.order.length ∧ placeFrom x.order n = placeFrom (x.order.drop k) n) (fun k => x.order.length - k) 0 ⟨Nat.zero_le _, rfl⟩ leP leP ?_
 rintro k ⟨hk, ht⟩
 have ha := nI (x.order.getD k default).2 n (by have := hr k; omega)
 by_cases hlt : k < x.order.length
 ·have hd := placeFrom_drop x.order n k hlt
  iterate 2 refine uB ?_
  refine aoR fun _ => ?_; refine q11 ?_; refine q32 ?_; refine q23 ?_; refine q13 ?_; refine q37 (uC (uA ?_))
  refine cnd ?_ ?_
  refine uI fun _ => ?_; try (exfalso; omega)
  refine uG (uA (uB (uF (uB (aoR fun _ => ?_)))))
  refine q32 ?_; refine q23 ?_; refine q11 ?_; refine q17 ?_; refine q23 ?_; refine q11 ?_
  apply uP; exact rfl; exact .fn _ _ _; exact rfl; exact ha
  refine q12 (uC (uA (uB (aoR fun _ => ?_))))
  refine q11 ?_
  apply cU; exact rfl; exact rfl
  refine uC (uA ?_); refine cnd ?_ ?_
  refine uI fun _ => ?_; try (exfalso; omega)
  refine uB (aoR fun _ => ?_)
  refine q11 ?_; refine q12 (uC (uA ?_)); refine uH ?_; refine vO ?_
  iterate 2 refine uR ?_
  refine vO ?_; refine uR ?_; rotate_left
  refine uJ fun _ => ?_; try (exfalso; omega)
  refine uG ?_; refine vI ?_; refine uA (aoR fun _ => ?_)
  refine q11 ?_; refine q36 ?_; refine q12 (uC (uA ?_)); rotate_left
  refine uJ fun _ => ?_; try (exfalso; omega)
  ·refine wN rfl ?_
   rw [ht, hd, if_pos (by assumption)]
  ·refine vJ (k + 1) ⟨by omega, ?_⟩ (by omega) leP leP
   rw [ht, hd, if_neg (by assumption)]
 ·iterate 2 refine uB ?_
  refine aoR fun _ => ?_; refine q11 ?_; refine q32 ?_; refine q23 ?_; refine q13 ?_; refine q37 (uC (uA ?_))
  refine cnd ?_ ?_
  refine uI fun _ => ?_; try (exfalso; omega)
  refine uJ fun _ => ?_; try (exfalso; omega)
  refine uO ?_
  iterate 2 refine vH ?_
  refine vR ?_; refine uA (uB (aoR fun _ => ?_))
  refine q12 (uC (uA ?_)); refine uH ?_; rotate_left
  refine wN rfl ?_
  rw [ht, List.drop_eq_nil_of_le (by omega)]; rfl
theorem oL (x : Ex) (hx : x.evs.length ≤ 65536) (hf : x.from_.length = x.evs.length) (a b : Nat) (ha : a < x.evs.length) (hb : b < x.evs.length) : Pure E.P 45 [exOV x, .int .i64 a, .int .i64 b] (.bool (isRf x a b)) := by
 have hl := yH (x.evs.getD b default)
 refine fnA Tryz.func45 Tryz.ntmps45 ?_
 refine uB (aoR fun _ => ?_)
 refine q40 ?_; refine q12 (uC (uA (uB (aoR fun _ => ?_))))
 refine q28 ?_; refine q16 ?_; refine q11 ?_; refine q17 ?_; refine q33 ?_
 apply uP; exact rfl; exact .fn _ _ _; exact rfl; exact hl
 refine q11 ?_
 apply spT; exact rfl
 intro hc_; refine q2
 apply spT; exact rfl
 intro hc_; refine q3
 apply spT; exact rfl
 intro hc_; refine q1
 apply spT; exact rfl
 intro hc_
 have hp_ := hc_; try simp only [nrm] at hp_
 refine q5
 apply spT; exact rfl
 intro hc_; refine q6
 apply spT; exact rfl
 intro hc_; refine q1
 apply spT; exact rfl
 intro hc_; refine q7; refine q4 ?_; refine q12 (uC ?_); refine uA ?_; refine uH ?_
 rotate_left; refine vB rfl ?_
 rw [Bool.eq_iff_iff]
 unfold isRf
 simp only [Bool.and_eq_true, decide_eq_true_eq, Int.toNat_natCast]
theorem aN (x : Ex) (hx : x.evs.length ≤ 65536) (ho : x.order.length ≤ 65536) (hr : ∀ i, (x.order.getD i default).2.length ≤ 65536) (a b : Nat) (ha : a < x.evs.length) (hb : b < x.evs.length) : Pure E.P 42 [exOV x, .int .i64 a, .int .i64 b] (.bool (isCoB x a b)) := by
 have h1 := xD (x.evs.getD a default)
 have h2 := xD (x.evs.getD b default)
 have h3 := mD x ho hr a
 have h4 := mD x ho hr b
 refine fnA Tryz.func42 Tryz.ntmps42 ?_
 refine uB (aoR fun _ => ?_)
 refine q40 ?_; refine q12 (uC (uA (uB ?_)))
 refine vE (E := E) ?_ (fun _ => ?_); exact rfl
 refine q56 ?_
 apply wG; exact rfl; exact rfl; exact rfl; exact rfl; (first | exact rfl | exact uW (by omega) (0 : Int) | exact uW (by omega) default | exact hrow _ | assumption); exact rfl
 refine q38 ?_; refine q30 ?_
 apply vT; exact rfl; exact rfl; exact rfl; exact Nat.le_of_ble_eq_true rfl
 apply wS; exact rfl; exact .fn _ _ _; exact rfl; (exact h1)
 refine q38 ?_
 apply dpT; exact rfl
 intro hc_; refine q2
 apply dpT; exact rfl
 intro hc_; refine q3
 apply dpT; exact rfl
 intro hc_; refine q1
 apply dpT; exact rfl
 intro hc_
 have hp_ := hc_; try simp only [nrm] at hp_
 refine q5
 apply dpT; exact rfl
 intro hc_; refine q47
 apply dpT; exact rfl
 intro hc_
 have hp_ := hc_; try simp only [nrm] at hp_
 apply vK; (exact EvM.plain rfl rfl); exact .fn _ _ _; exact wB; (exact h2)
 refine q9 ?_; refine q38 ?_
 apply dpT; exact rfl
 intro hc_; refine q2
 apply dpT; exact rfl
 intro hc_; refine q3
 apply dpT; exact rfl
 intro hc_; refine q1
 apply dpT; exact rfl
 intro hc_
 have hp_ := hc_; try simp only [nrm] at hp_
 refine q5
 apply dpT; exact rfl
 intro hc_; refine q8
 apply dpT; exact rfl
 intro hc_; refine q6
 apply dpT; exact rfl
 intro hc_; refine q2
 apply dpT; exact rfl
 intro hc_; refine q3
 apply dpT; exact rfl
 intro hc_; refine q1
 apply dpT; exact rfl
 intro hc_
 have hp_ := hc_; try simp only [nrm] at hp_
 refine q5
 apply dpT; exact rfl
 intro hc_; refine q8
 apply dpT; exact rfl
 intro hc_; refine q6
 apply dpT; exact rfl
 intro hc_; refine q7; refine q9 ?_; refine q38 ?_
 apply dpT; exact rfl
 intro hc_; refine q27
 apply dpT; exact rfl
 intro hc_; refine q1
 apply dpT; exact rfl
 intro hc_
 have hp_ := hc_; try simp only [nrm] at hp_
 apply vK; (exact EvM.plain rfl rfl); exact .fn _ _ _; exact wB; (exact h3)
 apply dpT; exact rfl
 intro hc_; refine q27
 apply dpT; exact rfl
 intro hc_; refine q1
 apply dpT; exact rfl
 intro hc_
 have hp_ := hc_; try simp only [nrm] at hp_
 apply vK; (exact EvM.plain rfl rfl); exact .fn _ _ _; exact wB; (exact h4)
 apply dpT; exact rfl
 intro hc_; refine q22; refine q9 ?_
 apply wF; exact rfl
 refine vV ?_ ?_; (first | ((try dsimp only [wkeys]); decide +kernel) | exact rfl)
 refine uA ?_; refine uH ?_; rotate_left
 refine vB rfl ?_
 rw [Bool.eq_iff_iff]
 unfold isCoB
 simp only [Bool.and_eq_true, decide_eq_true_eq, Int.toNat_natCast]
def isFrB (x : Ex) (a b : Nat) : Bool := !(a == b) && (x.evs.getD a default).ldB && isCoB x (x.from_.getD a 0).toNat b
theorem oM (x : Ex) (hx : x.evs.length ≤ 65536) (ho : x.order.length ≤ 65536) (hr : ∀ i, (x.order.getD i default).2.length ≤ 65536) (hf : x.from_.length = x.evs.length) (hld : ∀ a, a < x.evs.length → (x.evs.getD a default).ldB = true → 0 ≤ x.from_.getD a 0 ∧ x.from_.getD a 0 < x.evs.length) (a b : Nat) (ha : a < x.evs.length) (hb : b < x.evs.length) : Pure E.P 46 [exOV x, .int .i64 a, .int .i64 b] (.bool (isFrB x a b)) := by
 have h1 := yH (x.evs.getD a default)
 by_cases hg : a ≠ b ∧ (x.evs.getD a default).ldB = true
 ·obtain ⟨g1, g2⟩ := hg
  obtain ⟨u1, u2⟩ := hld a ha g2
  obtain ⟨f, hfe⟩ := yL u1
  have h2 := aN x hx ho hr f b (by omega) hb
  rw [← hfe] at h2
  refine fnA Tryz.func46 Tryz.ntmps46 ?_
  refine uB (aoR fun _ => ?_)
  refine q40 ?_; refine q12 (uC (uA (uB ?_)))
  refine vE (E := E) ?_ (fun _ => ?_); exact rfl
  iterate 2 refine q38 ?_
  apply jB; exact rfl; exact rfl
  refine q38 ?_
  apply dpT; exact rfl
  intro hc_; refine q2
  apply dpT; exact rfl
  intro hc_; refine q3
  apply dpT; exact rfl
  intro hc_; refine q1
  apply dpT; exact rfl
  intro hc_
  have hp_ := hc_; try simp only [nrm] at hp_
  refine q5
  apply dpT; exact rfl
  intro hc_; refine q47
  apply dpT; exact rfl
  intro hc_
  have hp_ := hc_; try simp only [nrm] at hp_
  apply vK; (exact EvM.plain rfl rfl); exact .fn _ _ _; exact wB; (exact h1)
  refine q9 ?_; refine q38 ?_
  apply dpT; exact rfl
  intro hc_; refine q27
  apply dpT; exact rfl
  intro hc_; refine q2
  apply dpT; exact rfl
  intro hc_; refine q3
  apply dpT; exact rfl
  intro hc_; refine q1
  apply dpT; exact rfl
  intro hc_
  have hp_ := hc_; try simp only [nrm] at hp_
  refine q5
  apply dpT; exact rfl
  intro hc_; refine q6
  apply dpT; exact rfl
  intro hc_; refine q1
  apply dpT; exact rfl
  intro hc_
  have hp_ := hc_; try simp only [nrm] at hp_
  apply vK; (exact EvM.plain rfl rfl); exact .fn _ _ _; exact wB; (exact h2)
  refine q9 ?_
  apply wF; exact rfl
  refine vV ?_ ?_; (first | ((try dsimp only [wkeys]); decide +kernel) | exact rfl)
  refine uA ?_; refine uH ?_; rotate_left
  refine vB rfl ?_
  unfold isFrB
  rw [hfe, Int.toNat_natCast, g2, show (a == b) = false by simpa using g1]
  simp [g1]
  try (intro _; omega)
 ·by_cases e : a = b
  ·subst e
   refine fnA Tryz.func46 Tryz.ntmps46 ?_
   refine uB (aoR fun _ => ?_)
   refine q40 ?_; refine q12 (uC (uA (uB ?_)))
   refine vE (E := E) ?_ (fun _ => ?_); exact rfl
   iterate 2 refine q38 ?_
   apply jB; exact rfl; exact rfl
   refine q38 ?_
   apply dpT; exact rfl
   intro hc_; refine q2
   apply dpT; exact rfl
   intro hc_; refine q3
   apply dpT; exact rfl
   intro hc_; refine q1
   apply dpT; exact rfl
   intro hc_
   have hp_ := hc_; try simp only [nrm] at hp_
   refine q5
   apply dpT; exact rfl
   intro hc_; refine q47
   apply dpT; exact rfl
   intro hc_
   have hp_ := hc_; try simp only [nrm] at hp_
   apply vK; (exact EvM.plain rfl rfl); exact .fn _ _ _; exact wB; exact h1
   refine q9 ?_; refine q38 ?_
   apply dpT; exact rfl
   intro hc_; refine q27
   apply dpT; exact rfl
   intro hc_; refine q2
   apply dpT; exact rfl
   intro hc_; refine q3
   apply dpT; exact rfl
   intro hc_; refine q1
   apply dpT; exact rfl
   intro hc_
   have hp_ := hc_; try simp only [nrm] at hp_
   refine q5
   apply dpT; exact rfl
   intro hc_; refine q6
   apply dpT; exact rfl
   intro hc_; refine q1
   apply dpT; exact rfl
   intro hc_
   have hp_ := hc_; try simp only [nrm] at hp_
   (apply vK; (exact EvM.plain rfl rfl); exact .fn _ _ _; exact wB; exact (show Pure E.P _ _ (.bool false) from by exfalso; simp at hc_))
   refine q9 ?_
   apply wF; exact rfl
   refine vV ?_ ?_; (first | ((try dsimp only [wkeys]); decide +kernel) | exact rfl)
   refine uA ?_; refine uH ?_; rotate_left
   all_goals (refine vB rfl ?_)
   all_goals (unfold isFrB; simp)
  ·have g2 : (x.evs.getD a default).ldB = false := by
    cases h : (x.evs.getD a default).ldB with
    | false => rfl
    | true => exact (hg ⟨e, h⟩).elim
   rw [g2] at h1
   refine fnA Tryz.func46 Tryz.ntmps46 ?_
   refine uB (aoR fun _ => ?_)
   refine q40 ?_; refine q12 (uC (uA (uB ?_)))
   refine vE (E := E) ?_ (fun _ => ?_); exact rfl
   iterate 2 refine q38 ?_
   apply jB; exact rfl; exact rfl
   refine q38 ?_
   apply dpT; exact rfl
   intro hc_; refine q2
   apply dpT; exact rfl
   intro hc_; refine q3
   apply dpT; exact rfl
   intro hc_; refine q1
   apply dpT; exact rfl
   intro hc_
   have hp_ := hc_; try simp only [nrm] at hp_
   refine q5
   apply dpT; exact rfl
   intro hc_; refine q47
   apply dpT; exact rfl
   intro hc_
   have hp_ := hc_; try simp only [nrm] at hp_
   apply vK; (exact EvM.plain rfl rfl); exact .fn _ _ _; exact wB; exact h1
   refine q9 ?_; refine q38 ?_
   apply dpT; exact rfl
   intro hc_; refine q27
   apply dpT; exact rfl
   intro hc_; refine q2
   apply dpT; exact rfl
   intro hc_; refine q3
   apply dpT; exact rfl
   intro hc_; refine q1
   apply dpT; exact rfl
   intro hc_
   have hp_ := hc_; try simp only [nrm] at hp_
   refine q5
   apply dpT; exact rfl
   intro hc_; refine q6
   apply dpT; exact rfl
   intro hc_; refine q1
   apply dpT; exact rfl
   intro hc_
   have hp_ := hc_; try simp only [nrm] at hp_
   (apply vK; (exact EvM.plain rfl rfl); exact .fn _ _ _; exact wB; exact (show Pure E.P _ _ (.bool false) from by exfalso; simp at hc_))
   refine q9 ?_
   apply wF; exact rfl
   refine vV ?_ ?_; (first | ((try dsimp only [wkeys]); decide +kernel) | exact rfl)
   refine uA ?_; refine uH ?_; rotate_left
   all_goals (refine vB rfl ?_)
   all_goals (unfold isFrB; rw [g2]; simp)
structure Ex.rel (x : Ex) : Prop where
 fit : x.fit
 check : checkI x = 0
theorem Ex.rel.len {x : Ex} (h : x.rel) : x.evs.length ≤ 64 := (vX h.check).1
theorem Ex.rel.from_ {x : Ex} (h : x.rel) : x.from_.length = x.evs.length := yS (vX h.check).2.2.1
theorem Ex.rel.rows {x : Ex} (h : x.rel) (i : Nat) : (x.order.getD i default).2.length ≤ 65536 := by
 rcases Nat.lt_or_ge i x.order.length with hh | hh
 ·rw [List.getD_eq_getElem?_getD, List.getElem?_eq_getElem hh]
  exact h.fit.2 _ (List.getElem_mem hh)
 ·rw [List.getD_eq_getElem?_getD, List.getElem?_eq_none hh]
  exact Nat.zero_le _
theorem Ex.rel.ord {x : Ex} (h : x.rel) : x.order.length ≤ 65536 := by
 have h4 := (vX h.check).2.2.2
 unfold orderB at h4
 simp only [Bool.and_eq_true, decide_eq_true_eq] at h4
 have := yF x.evs
 have := h.len
 omega
theorem Ex.rel.src {x : Ex} (h : x.rel) (a : Nat) (ha : a < x.evs.length) (hl : (x.evs.getD a default).ldB = true) : 0 ≤ x.from_.getD a 0 ∧ x.from_.getD a 0 < x.evs.length := by
 obtain ⟨u1, u2⟩ := gH (vX h.check).2.2.1 ha
 exact ⟨u1.1 hl, (u2 hl).1⟩
theorem bP {n : Nat} {f g : Nat → Nat → Bool} (h : ∀ a b, a < n → b < n → f a b = g a b) : refPairs n f = refPairs n g := by
 unfold refPairs
 rw [List.flatMap_def, List.flatMap_def]
 congr 1
 refine List.map_congr_left fun a ha => ?_
 congr 1
 exact List.filter_congr fun b hb => h a b (List.mem_range.1 ha) (List.mem_range.1 hb)
theorem fr_isB {x : Ex} (h : x.rel) {a b : Nat} (ha : a < x.evs.length) (hb : b < x.evs.length) : frBr x a b = isFrB x a b := by
 unfold frBr isFrB
 cases hl : (x.evs.getD a default).ldB with
 | false => simp
 | true =>
  obtain ⟨u1, u2⟩ := h.src a ha hl
  rw [fB h.check (by omega) hb]
theorem gK {x : Ex} (h : x.rel) : coF x = refPairs x.evs.length (isCoB x) := by
 rw [oA h.check]
 exact bP fun a b ha hb => fB h.check ha hb
theorem gI {x : Ex} (h : x.rel) : frF x = refPairs x.evs.length (isFrB x) := by
 rw [fr_ref h.check]
 exact bP fun a b ha hb => fr_isB h ha hb
set_option maxHeartbeats 4000000 in
theorem rpairs1_p (x : Ex) (hx : x.evs.length ≤ 4096) (f : Nat → Nat → Bool) (hrel : ∀ a b : Nat, a < x.evs.length → b < x.evs.length → Pure E.P 44 [exOV x, .int .i64 a, .int .i64 b] (.bool (f a b))) : Pure E.P 24 [exOV x, .int .i64 1] (.d (pairsTV (refPairs x.evs.length f))) := by
 have f2 : Frozen 2 := ⟨trivial⟩
 have hsq : x.evs.length * x.evs.length ≤ 16777216 := Nat.mul_le_mul hx hx
 refine fnA Tryz.func24 Tryz.ntmps24 ?_
 refine uB (aoR fun _ => ?_)
 refine q34 ?_; refine q51 (uC (uA (uB (aoR fun _ => ?_))))
 refine q51 (uC (uA (uB (aoR fun _ => ?_))))
 refine q32 ?_; refine q23 ?_; refine q13 ?_; refine q12 (uC (uA ?_))
 iterate 2 refine uB ?_
 refine aoR fun _ => ?_; refine q12 (uC (uA (uF ?_)))
 rotate_left
 rename_i v5 _ _
 refine uZ (X := Nat × Stamp × List (Int × Int)) (fun p => tmL [(1, .int .i64 1), (2, .d (.pt (exRow x) 0)), (5, .os 5 p.2.1 2 p.2.2.length), (6, .int .i64 x.evs.length), (7, .int .i64 p.1)]) (fun p => stL [(5, (p.2.1, ⟨2, p.2.2.map pairO'⟩))])
  (fun p => p.1 ≤ x.evs.length ∧ p.2.2 = prTo x.evs.length f p.1) (fun p => x.evs.length - p.1) (0, (v5, 0), []) ⟨Nat.zero_le _, rfl⟩ (by repeat' (first | exact vP _ | exact vM _ | refine uL rfl ?_ | refine vF rfl ?_ | (refine uV rfl ?_ ?_; (simp)) | (refine uN rfl ?_ ?_; (simp)) | (refine vA rfl ?_ ?_; (simp)))) leP ?_
 rintro ⟨a, τ, l⟩ ⟨hk, hl⟩
 dsimp only at hk hl ⊢
 by_cases hlt : a < x.evs.length
 ·iterate 2 refine uB ?_
  refine aoR fun _ => ?_
  iterate 2 refine q11 ?_
  refine q37 (uC (uA ?_)); refine cnd ?_ ?_
  refine uI fun _ => ?_; try (exfalso; omega)
  refine uG (uA (uB (uF (uB (aoR fun _ => ?_)))))
  refine q12 (uC (uA (uF ?_))); rotate_left
  refine uJ fun _ => ?_; try (exfalso; omega)
  refine uZ (X := Nat × Stamp × List (Int × Int)) (fun p => tmL [(1, .int .i64 1), (2, .d (.pt (exRow x) 0)), (5, .os 5 p.2.1 2 p.2.2.length), (6, .int .i64 x.evs.length), (7, .int .i64 a), (8, .int .i64 p.1)]) (fun p => stL [(5, (p.2.1, ⟨2, p.2.2.map pairO'⟩))])
   (fun p => p.1 ≤ x.evs.length ∧ p.2.2 = l ++ prRow f a p.1) (fun p => x.evs.length - p.1) (0, τ, l) ⟨Nat.zero_le _, by simp [prRow]⟩ leP leP ?_
  rintro ⟨b, τ2, l2⟩ ⟨hk2, hl2⟩
  dsimp only at hk2 hl2 ⊢
  have hlen : l2.length ≤ 16777216 + 4096 := by
   rw [hl2, List.length_append, hl]
   have h1 := wJ x.evs.length f a
   have h2 := zF f a b
   have h3 : a * x.evs.length ≤ x.evs.length * x.evs.length := Nat.mul_le_mul hk (Nat.le_refl _)
   omega
  by_cases hlt2 : b < x.evs.length
  ·have hr := hrel a b hlt hlt2
   iterate 2 refine uB ?_
   refine aoR fun _ => ?_
   iterate 2 refine q11 ?_
   refine q37 (uC (uA ?_)); refine cnd ?_ ?_
   refine uI fun _ => ?_; try (exfalso; omega)
   refine uG (uA (uB (uF (uB (aoR fun _ => ?_)))))
   refine q12 (uC (uA ?_))
   iterate 2 refine uB ?_
   refine aoR fun _ => ?_
   refine q11 (uC (uA (uF (uB (aoR fun _ => ?_)))))
   refine q46 ?_; refine q12 (uC (uA ?_)); refine cnd ?_ ?_
   refine uI fun _ => ?_; try (exfalso; omega)
   refine aoR fun _ => ?_; refine q33 ?_
   iterate 2 refine q11 ?_
   apply uP; exact rfl; exact .fn _ _ _; exact rfl; exact hr
   refine q12 (uC ?_); refine vI ?_; refine uA (uB (aoR fun _ => ?_))
   refine q11 (uC (uA ?_)); refine cnd ?_ ?_
   refine xJ (fun _ => ?_)
   refine aoR fun _ => ?_
   iterate 3 refine q11 ?_
   refine q54 ?_
   apply wC; exact rfl; exact rfl; exact rfl; decide; decide; decide; exact rfl; exact rfl
   refine q19 ?_
   apply xF; exact rfl; exact rfl
   refine uC ?_; refine vI ?_; refine uA (aoR fun _ => ?_)
   refine q11 ?_; refine q36 ?_; refine q12 (uC (uA ?_)); rotate_left
   refine cR (fun _ => ?_)
   refine uG ?_; refine vI ?_; refine uA (aoR fun _ => ?_)
   refine q11 ?_; refine q36 ?_; refine q12 (uC (uA ?_)); rotate_left
   iterate 2 refine uJ fun _ => ?_; try (exfalso; omega)
   ·rename_i hy v24 _
    exact vJ (b + 1, (v24, 6), l2 ++ [((a : Int), (b : Int))]) ⟨by dsimp only; omega, by dsimp only; rw [hl2, aH hy, List.append_assoc]⟩ (by dsimp only; omega) (by repeat' (first | exact vP _ | exact vM _ | refine uL rfl ?_ | refine vF rfl ?_ | (refine uV rfl ?_ ?_; (simp <;> rfl)) | (refine uN rfl ?_ ?_; (simp <;> rfl)) | (refine vA rfl ?_ ?_; (simp <;> rfl)))) (by repeat' (first | exact vP _ | exact vM _ | refine uL rfl ?_ | refine vF rfl ?_ | (refine uV rfl ?_ ?_; (simp <;> rfl)) | (refine uN rfl ?_ ?_; (simp <;> rfl)) | (refine vA rfl ?_ ?_; (simp <;> rfl))))
   ·rename_i hy _
    exact vJ (b + 1, τ2, l2) ⟨by dsimp only; omega, by dsimp only; rw [hl2, bQ (by rw [hy]; decide)]⟩ (by dsimp only; omega) leP leP
  ·have hb : b = x.evs.length := by omega
   subst hb
   iterate 2 refine uB ?_
   refine aoR fun _ => ?_
   iterate 2 refine q11 ?_
   refine q37 (uC (uA ?_)); refine cnd ?_ ?_
   refine uI fun _ => ?_; try (exfalso; omega)
   refine uJ fun _ => ?_; try (exfalso; omega)
   refine uO ?_
   iterate 2 refine vH ?_
   refine vR ?_; refine vI ?_; refine uA (aoR fun _ => ?_)
   refine q11 ?_; refine q36 ?_; refine q12 (uC (uA ?_)); rotate_left
   exact vJ (a + 1, τ2, l2) ⟨by dsimp only; omega, by dsimp only; rw [hl2, zE, hl]⟩ (by dsimp only; omega) leP leP
 ·have f5 : Frozen 5 := ⟨trivial⟩
  have hfz := xG
  iterate 2 refine uB ?_
  refine aoR fun _ => ?_
  iterate 2 refine q11 ?_
  refine q37 (uC (uA ?_)); refine cnd ?_ ?_
  refine uI fun _ => ?_; try (exfalso; omega)
  refine uJ fun _ => ?_; try (exfalso; omega)
  refine uO ?_
  iterate 2 refine vH ?_
  refine vR ?_; refine uA (uB (aoR fun _ => ?_))
  refine q41 ?_; refine q12 (uC (uA ?_)); refine uH ?_; rotate_left
  refine aS rfl ?_
  have ha : a = x.evs.length := by omega
  rw [hl, ha]; rfl
set_option maxHeartbeats 4000000 in
theorem rpairs3_p (x : Ex) (hx : x.evs.length ≤ 4096) (f : Nat → Nat → Bool) (hrel : ∀ a b : Nat, a < x.evs.length → b < x.evs.length → Pure E.P 42 [exOV x, .int .i64 a, .int .i64 b] (.bool (f a b))) : Pure E.P 24 [exOV x, .int .i64 3] (.d (pairsTV (refPairs x.evs.length f))) := by
 have f2 : Frozen 2 := ⟨trivial⟩
 have hsq : x.evs.length * x.evs.length ≤ 16777216 := Nat.mul_le_mul hx hx
 refine fnA Tryz.func24 Tryz.ntmps24 ?_
 refine uB (aoR fun _ => ?_)
 refine q34 ?_; refine q51 (uC (uA (uB (aoR fun _ => ?_))))
 refine q51 (uC (uA (uB (aoR fun _ => ?_))))
 refine q32 ?_; refine q23 ?_; refine q13 ?_; refine q12 (uC (uA ?_))
 iterate 2 refine uB ?_
 refine aoR fun _ => ?_; refine q12 (uC (uA (uF ?_)))
 rotate_left
 rename_i v5 _ _
 refine uZ (X := Nat × Stamp × List (Int × Int)) (fun p => tmL [(1, .int .i64 3), (2, .d (.pt (exRow x) 0)), (5, .os 5 p.2.1 2 p.2.2.length), (6, .int .i64 x.evs.length), (7, .int .i64 p.1)]) (fun p => stL [(5, (p.2.1, ⟨2, p.2.2.map pairO'⟩))])
  (fun p => p.1 ≤ x.evs.length ∧ p.2.2 = prTo x.evs.length f p.1) (fun p => x.evs.length - p.1) (0, (v5, 0), []) ⟨Nat.zero_le _, rfl⟩ (by repeat' (first | exact vP _ | exact vM _ | refine uL rfl ?_ | refine vF rfl ?_ | (refine uV rfl ?_ ?_; (simp)) | (refine uN rfl ?_ ?_; (simp)) | (refine vA rfl ?_ ?_; (simp)))) leP ?_
 rintro ⟨a, τ, l⟩ ⟨hk, hl⟩
 dsimp only at hk hl ⊢
 by_cases hlt : a < x.evs.length
 ·iterate 2 refine uB ?_
  refine aoR fun _ => ?_
  iterate 2 refine q11 ?_
  refine q37 (uC (uA ?_)); refine cnd ?_ ?_
  refine uI fun _ => ?_; try (exfalso; omega)
  refine uG (uA (uB (uF (uB (aoR fun _ => ?_)))))
  refine q12 (uC (uA (uF ?_))); rotate_left
  refine uJ fun _ => ?_; try (exfalso; omega)
  refine uZ (X := Nat × Stamp × List (Int × Int)) (fun p => tmL [(1, .int .i64 3), (2, .d (.pt (exRow x) 0)), (5, .os 5 p.2.1 2 p.2.2.length), (6, .int .i64 x.evs.length), (7, .int .i64 a), (8, .int .i64 p.1)]) (fun p => stL [(5, (p.2.1, ⟨2, p.2.2.map pairO'⟩))])
   (fun p => p.1 ≤ x.evs.length ∧ p.2.2 = l ++ prRow f a p.1) (fun p => x.evs.length - p.1) (0, τ, l) ⟨Nat.zero_le _, by simp [prRow]⟩ leP leP ?_
  rintro ⟨b, τ2, l2⟩ ⟨hk2, hl2⟩
  dsimp only at hk2 hl2 ⊢
  have hlen : l2.length ≤ 16777216 + 4096 := by
   rw [hl2, List.length_append, hl]
   have h1 := wJ x.evs.length f a
   have h2 := zF f a b
   have h3 : a * x.evs.length ≤ x.evs.length * x.evs.length := Nat.mul_le_mul hk (Nat.le_refl _)
   omega
  by_cases hlt2 : b < x.evs.length
  ·have hr := hrel a b hlt hlt2
   iterate 2 refine uB ?_
   refine aoR fun _ => ?_
   iterate 2 refine q11 ?_
   refine q37 (uC (uA ?_)); refine cnd ?_ ?_
   refine uI fun _ => ?_; try (exfalso; omega)
   refine uG (uA (uB (uF (uB (aoR fun _ => ?_)))))
   refine q12 (uC (uA ?_))
   iterate 2 refine uB ?_
   refine aoR fun _ => ?_
   refine q11 (uC (uA (uF (uB (aoR fun _ => ?_)))))
   refine q46 ?_; refine q12 (uC (uA ?_)); refine cnd ?_ ?_
   refine uI fun _ => ?_; try (exfalso; omega)
   refine uJ fun _ => ?_; try (exfalso; omega)
   refine uB (aoR fun _ => ?_)
   refine q46 ?_; refine q12 (uC (uA ?_)); refine cnd ?_ ?_
   refine uI fun _ => ?_; try (exfalso; omega)
   refine uJ fun _ => ?_; try (exfalso; omega)
   refine uB (aoR fun _ => ?_)
   refine q46 ?_; refine q12 (uC (uA ?_)); refine cnd ?_ ?_
   refine uI fun _ => ?_; try (exfalso; omega)
   refine aoR fun _ => ?_; refine q33 ?_
   iterate 2 refine q11 ?_
   apply uP; exact rfl; exact .fn _ _ _; exact rfl; exact hr
   refine q12 (uC ?_); refine vI ?_; refine uA (uB (aoR fun _ => ?_))
   refine q11 (uC (uA ?_)); refine cnd ?_ ?_
   refine xJ (fun _ => ?_)
   refine aoR fun _ => ?_
   iterate 3 refine q11 ?_
   refine q54 ?_
   apply wC; exact rfl; exact rfl; exact rfl; decide; decide; decide; exact rfl; exact rfl
   refine q19 ?_
   apply xF; exact rfl; exact rfl
   refine uC ?_; refine vI ?_; refine uA (aoR fun _ => ?_)
   refine q11 ?_; refine q36 ?_; refine q12 (uC (uA ?_)); rotate_left
   refine cR (fun _ => ?_)
   refine uG ?_; refine vI ?_; refine uA (aoR fun _ => ?_)
   refine q11 ?_; refine q36 ?_; refine q12 (uC (uA ?_)); rotate_left
   iterate 2 refine uJ fun _ => ?_; try (exfalso; omega)
   ·rename_i hy v24 _
    exact vJ (b + 1, (v24, 6), l2 ++ [((a : Int), (b : Int))]) ⟨by dsimp only; omega, by dsimp only; rw [hl2, aH hy, List.append_assoc]⟩ (by dsimp only; omega) (by repeat' (first | exact vP _ | exact vM _ | refine uL rfl ?_ | refine vF rfl ?_ | (refine uV rfl ?_ ?_; (simp <;> rfl)) | (refine uN rfl ?_ ?_; (simp <;> rfl)) | (refine vA rfl ?_ ?_; (simp <;> rfl)))) (by repeat' (first | exact vP _ | exact vM _ | refine uL rfl ?_ | refine vF rfl ?_ | (refine uV rfl ?_ ?_; (simp <;> rfl)) | (refine uN rfl ?_ ?_; (simp <;> rfl)) | (refine vA rfl ?_ ?_; (simp <;> rfl))))
   ·rename_i hy _
    exact vJ (b + 1, τ2, l2) ⟨by dsimp only; omega, by dsimp only; rw [hl2, bQ (by rw [hy]; decide)]⟩ (by dsimp only; omega) leP leP
  ·have hb : b = x.evs.length := by omega
   subst hb
   iterate 2 refine uB ?_
   refine aoR fun _ => ?_
   iterate 2 refine q11 ?_
   refine q37 (uC (uA ?_)); refine cnd ?_ ?_
   refine uI fun _ => ?_; try (exfalso; omega)
   refine uJ fun _ => ?_; try (exfalso; omega)
   refine uO ?_
   iterate 2 refine vH ?_
   refine vR ?_; refine vI ?_; refine uA (aoR fun _ => ?_)
   refine q11 ?_; refine q36 ?_; refine q12 (uC (uA ?_)); rotate_left
   exact vJ (a + 1, τ2, l2) ⟨by dsimp only; omega, by dsimp only; rw [hl2, zE, hl]⟩ (by dsimp only; omega) leP leP
 ·have f5 : Frozen 5 := ⟨trivial⟩
  have hfz := xG
  iterate 2 refine uB ?_
  refine aoR fun _ => ?_
  iterate 2 refine q11 ?_
  refine q37 (uC (uA ?_)); refine cnd ?_ ?_
  refine uI fun _ => ?_; try (exfalso; omega)
  refine uJ fun _ => ?_; try (exfalso; omega)
  refine uO ?_
  iterate 2 refine vH ?_
  refine vR ?_; refine uA (uB (aoR fun _ => ?_))
  refine q41 ?_; refine q12 (uC (uA ?_)); refine uH ?_; rotate_left
  refine aS rfl ?_
  have ha : a = x.evs.length := by omega
  rw [hl, ha]; rfl
set_option maxHeartbeats 4000000 in
theorem rpairs4_p (x : Ex) (hx : x.evs.length ≤ 4096) (f : Nat → Nat → Bool) (hrel : ∀ a b : Nat, a < x.evs.length → b < x.evs.length → Pure E.P 46 [exOV x, .int .i64 a, .int .i64 b] (.bool (f a b))) : Pure E.P 24 [exOV x, .int .i64 4] (.d (pairsTV (refPairs x.evs.length f))) := by
 have f2 : Frozen 2 := ⟨trivial⟩
 have hsq : x.evs.length * x.evs.length ≤ 16777216 := Nat.mul_le_mul hx hx
 refine fnA Tryz.func24 Tryz.ntmps24 ?_
 refine uB (aoR fun _ => ?_)
 refine q34 ?_; refine q51 (uC (uA (uB (aoR fun _ => ?_))))
 refine q51 (uC (uA (uB (aoR fun _ => ?_))))
 refine q32 ?_; refine q23 ?_; refine q13 ?_; refine q12 (uC (uA ?_))
 iterate 2 refine uB ?_
 refine aoR fun _ => ?_; refine q12 (uC (uA (uF ?_)))
 rotate_left
 rename_i v5 _ _
 refine uZ (X := Nat × Stamp × List (Int × Int)) (fun p => tmL [(1, .int .i64 4), (2, .d (.pt (exRow x) 0)), (5, .os 5 p.2.1 2 p.2.2.length), (6, .int .i64 x.evs.length), (7, .int .i64 p.1)]) (fun p => stL [(5, (p.2.1, ⟨2, p.2.2.map pairO'⟩))])
  (fun p => p.1 ≤ x.evs.length ∧ p.2.2 = prTo x.evs.length f p.1) (fun p => x.evs.length - p.1) (0, (v5, 0), []) ⟨Nat.zero_le _, rfl⟩ (by repeat' (first | exact vP _ | exact vM _ | refine uL rfl ?_ | refine vF rfl ?_ | (refine uV rfl ?_ ?_; (simp)) | (refine uN rfl ?_ ?_; (simp)) | (refine vA rfl ?_ ?_; (simp)))) leP ?_
 rintro ⟨a, τ, l⟩ ⟨hk, hl⟩
 dsimp only at hk hl ⊢
 by_cases hlt : a < x.evs.length
 ·iterate 2 refine uB ?_
  refine aoR fun _ => ?_
  iterate 2 refine q11 ?_
  refine q37 (uC (uA ?_)); refine cnd ?_ ?_
  refine uI fun _ => ?_; try (exfalso; omega)
  refine uG (uA (uB (uF (uB (aoR fun _ => ?_)))))
  refine q12 (uC (uA (uF ?_))); rotate_left
  refine uJ fun _ => ?_; try (exfalso; omega)
  refine uZ (X := Nat × Stamp × List (Int × Int)) (fun p => tmL [(1, .int .i64 4), (2, .d (.pt (exRow x) 0)), (5, .os 5 p.2.1 2 p.2.2.length), (6, .int .i64 x.evs.length), (7, .int .i64 a), (8, .int .i64 p.1)]) (fun p => stL [(5, (p.2.1, ⟨2, p.2.2.map pairO'⟩))])
   (fun p => p.1 ≤ x.evs.length ∧ p.2.2 = l ++ prRow f a p.1) (fun p => x.evs.length - p.1) (0, τ, l) ⟨Nat.zero_le _, by simp [prRow]⟩ leP leP ?_
  rintro ⟨b, τ2, l2⟩ ⟨hk2, hl2⟩
  dsimp only at hk2 hl2 ⊢
  have hlen : l2.length ≤ 16777216 + 4096 := by
   rw [hl2, List.length_append, hl]
   have h1 := wJ x.evs.length f a
   have h2 := zF f a b
   have h3 : a * x.evs.length ≤ x.evs.length * x.evs.length := Nat.mul_le_mul hk (Nat.le_refl _)
   omega
  by_cases hlt2 : b < x.evs.length
  ·have hr := hrel a b hlt hlt2
   iterate 2 refine uB ?_
   refine aoR fun _ => ?_
   iterate 2 refine q11 ?_
   refine q37 (uC (uA ?_)); refine cnd ?_ ?_
   refine uI fun _ => ?_; try (exfalso; omega)
   refine uG (uA (uB (uF (uB (aoR fun _ => ?_)))))
   refine q12 (uC (uA ?_))
   iterate 2 refine uB ?_
   refine aoR fun _ => ?_
   refine q11 (uC (uA (uF (uB (aoR fun _ => ?_)))))
   refine q46 ?_; refine q12 (uC (uA ?_)); refine cnd ?_ ?_
   refine uI fun _ => ?_; try (exfalso; omega)
   refine uJ fun _ => ?_; try (exfalso; omega)
   refine uB (aoR fun _ => ?_)
   refine q46 ?_; refine q12 (uC (uA ?_)); refine cnd ?_ ?_
   refine uI fun _ => ?_; try (exfalso; omega)
   refine uJ fun _ => ?_; try (exfalso; omega)
   refine uB (aoR fun _ => ?_)
   refine q46 ?_; refine q12 (uC (uA ?_)); refine cnd ?_ ?_
   refine uI fun _ => ?_; try (exfalso; omega)
   refine uJ fun _ => ?_; try (exfalso; omega)
   refine uB (aoR fun _ => ?_)
   refine q46 ?_; refine q12 (uC (uA ?_)); refine cnd ?_ ?_
   refine uI fun _ => ?_; try (exfalso; omega)
   refine aoR fun _ => ?_; refine q33 ?_
   iterate 2 refine q11 ?_
   apply uP; exact rfl; exact .fn _ _ _; exact rfl; exact hr
   refine q12 (uC ?_); refine vI ?_; refine uA (uB (aoR fun _ => ?_))
   refine q11 (uC (uA ?_)); refine cnd ?_ ?_
   refine xJ (fun _ => ?_)
   refine aoR fun _ => ?_
   iterate 3 refine q11 ?_
   refine q54 ?_
   apply wC; exact rfl; exact rfl; exact rfl; decide; decide; decide; exact rfl; exact rfl
   refine q19 ?_
   apply xF; exact rfl; exact rfl
   refine uC ?_; refine vI ?_; refine uA (aoR fun _ => ?_)
   refine q11 ?_; refine q36 ?_; refine q12 (uC (uA ?_)); rotate_left
   refine cR (fun _ => ?_)
   refine uG ?_; refine vI ?_; refine uA (aoR fun _ => ?_)
   refine q11 ?_; refine q36 ?_; refine q12 (uC (uA ?_)); rotate_left
   iterate 2 refine uJ fun _ => ?_; try (exfalso; omega)
   ·rename_i hy v24 _
    exact vJ (b + 1, (v24, 6), l2 ++ [((a : Int), (b : Int))]) ⟨by dsimp only; omega, by dsimp only; rw [hl2, aH hy, List.append_assoc]⟩ (by dsimp only; omega) (by repeat' (first | exact vP _ | exact vM _ | refine uL rfl ?_ | refine vF rfl ?_ | (refine uV rfl ?_ ?_; (simp <;> rfl)) | (refine uN rfl ?_ ?_; (simp <;> rfl)) | (refine vA rfl ?_ ?_; (simp <;> rfl)))) (by repeat' (first | exact vP _ | exact vM _ | refine uL rfl ?_ | refine vF rfl ?_ | (refine uV rfl ?_ ?_; (simp <;> rfl)) | (refine uN rfl ?_ ?_; (simp <;> rfl)) | (refine vA rfl ?_ ?_; (simp <;> rfl))))
   ·rename_i hy _
    exact vJ (b + 1, τ2, l2) ⟨by dsimp only; omega, by dsimp only; rw [hl2, bQ (by rw [hy]; decide)]⟩ (by dsimp only; omega) leP leP
  ·have hb : b = x.evs.length := by omega
   subst hb
   iterate 2 refine uB ?_
   refine aoR fun _ => ?_
   iterate 2 refine q11 ?_
   refine q37 (uC (uA ?_)); refine cnd ?_ ?_
   refine uI fun _ => ?_; try (exfalso; omega)
   refine uJ fun _ => ?_; try (exfalso; omega)
   refine uO ?_
   iterate 2 refine vH ?_
   refine vR ?_; refine vI ?_; refine uA (aoR fun _ => ?_)
   refine q11 ?_; refine q36 ?_; refine q12 (uC (uA ?_)); rotate_left
   exact vJ (a + 1, τ2, l2) ⟨by dsimp only; omega, by dsimp only; rw [hl2, zE, hl]⟩ (by dsimp only; omega) leP leP
 ·have f5 : Frozen 5 := ⟨trivial⟩
  have hfz := xG
  iterate 2 refine uB ?_
  refine aoR fun _ => ?_
  iterate 2 refine q11 ?_
  refine q37 (uC (uA ?_)); refine cnd ?_ ?_
  refine uI fun _ => ?_; try (exfalso; omega)
  refine uJ fun _ => ?_; try (exfalso; omega)
  refine uO ?_
  iterate 2 refine vH ?_
  refine vR ?_; refine uA (uB (aoR fun _ => ?_))
  refine q41 ?_; refine q12 (uC (uA ?_)); refine uH ?_; rotate_left
  refine aS rfl ?_
  have ha : a = x.evs.length := by omega
  rw [hl, ha]; rfl
theorem rPo_p {x : Ex} (h : x.rel) : Pure E.P 24 [exOV x, .int .i64 1] (.d (pairsTV (refPairs x.evs.length (isPo x)))) :=
 rpairs1_p x (by have := h.len; omega) (isPo x) fun a b ha hb => qR x (by have := h.len; omega) a b ha hb
theorem rCo_p {x : Ex} (h : x.rel) : Pure E.P 24 [exOV x, .int .i64 3] (.d (pairsTV (refPairs x.evs.length (isCoB x)))) :=
 rpairs3_p x (by have := h.len; omega) (isCoB x) fun a b ha hb => aN x (by have := h.len; omega) h.ord h.rows a b ha hb
theorem rFr_p {x : Ex} (h : x.rel) : Pure E.P 24 [exOV x, .int .i64 4] (.d (pairsTV (refPairs x.evs.length (isFrB x)))) :=
 rpairs4_p x (by have := h.len; omega) (isFrB x) fun a b ha hb => oM x (by have := h.len; omega) h.ord h.rows h.from_ h.src a b ha hb
section
variable {k s : Nat} {τ : Stamp} {rows : List (List TV)}
structure FrC (k : Nat) (τ : Stamp) (s : Nat) (rows : List (List TV)) (a b : List OV) : Prop where
 len : a.length = b.length
 cells : ∀ (o : Nat) (y' : OV), b[o]? = some y' → ∃ y : OV, a[o]? = some y ∧ Froz k τ s rows y y'
end
theorem WRel.cell {Γ : Ctx} {G : Gh} {σ : Store} {w : World} {kx q i o : Nat} {τx : Stamp} {rows : List (List OV)} {row : List OV} {y y' : OV} (hw : WRel Γ G σ w) (hk : σ kx = some (τx, ⟨q, rows⟩)) (hr : rows[i]? = some row) (ho : row[o]? = some y) (hy : ∀ x, RepO G y x → RepO G y' x) :
  WRel Γ G (σ.put kx (τx, ⟨q, rows.set i (row.set o y')⟩)) w where
 mem := hw.mem
 own j τ' r' hj := by
  by_cases e : j = kx
  ·subst e
   rw [Store.put_self] at hj
   cases hj
   rcases hw.own j _ _ hk with ⟨_, g2⟩ | ⟨β, g1, ⟨cs, c1, c2, c3, c4⟩, g3, g4⟩
   ·have g2' : rows = [] := g2
    rw [g2'] at hr; simp at hr
   ·refine Or.inr ⟨β, g1, ⟨cs, c1, c2, by simpa using c3, fun i' row' hi => ?_⟩, g3, g4⟩
    by_cases ei : i' = i
    ·subst ei
     obtain ⟨d1, d2⟩ := c4 i' row hr
     have hlt : i' < rows.length := by
      rcases Nat.lt_or_ge i' rows.length with h | h
      ·exact h
      ·rw [List.getElem?_eq_none h] at hr; cases hr
     have hi' : (rows.set i' (row.set o y'))[i']? = some row' := hi
     rw [List.getElem?_set_self hlt] at hi'
     cases hi'
     refine ⟨by rw [List.length_set]; exact d1, fun o' z hz => ?_⟩
     by_cases eo : o' = o
     ·subst eo
      have hlo : o' < row.length := by
       rcases Nat.lt_or_ge o' row.length with h | h
       ·exact h
       ·rw [List.getElem?_eq_none h] at ho; cases ho
      rw [List.getElem?_set_self hlo] at hz
      cases hz
      obtain ⟨v, e6, e7⟩ := d2 o' y ho
      exact ⟨v, e6, hy v e7⟩
     ·rw [List.getElem?_set_ne (Ne.symm eo)] at hz
      exact d2 o' z hz
    ·have hi' : (rows.set i (row.set o y'))[i']? = some row' := hi
     rw [List.getElem?_set_ne (Ne.symm ei)] at hi'
     exact c4 i' row' hi'
  ·rw [Store.put_ne _ _ e] at hj
   exact hw.own j τ' r' hj
 inj j j' τ1 τ2 β β' r r' hj hj' hμ hμ' e := by
  have old : ∀ j τ r, (σ.put kx (τx, ⟨q, rows.set i (row.set o y')⟩)) j = some (τ, r) → ∃ r0, σ j = some (τ, r0) := fun j τ r h => by
   by_cases e : j = kx
   ·subst e; rw [Store.put_self] at h; cases h; exact ⟨_, hk⟩
   ·rw [Store.put_ne _ _ e] at h; exact ⟨r, h⟩
  obtain ⟨r1, h1⟩ := old _ _ _ hj
  obtain ⟨r2, h2⟩ := old _ _ _ hj'
  exact hw.inj j j' τ1 τ2 β β' r1 r2 h1 h2 hμ hμ' e
 keep := hw.keep
 size := hw.size
 tape := hw.tape
 os := hw.os
 output := hw.output
 g0 := hw.g0
 new := hw.new
 bound := hw.bound
 low := hw.low
def fam (f : Nat → Stamp × Row) (a : Nat) : Nat → Rows
 | 0 => []
 | m + 1 => (a + 1000, f a) :: fam f (a + 1) m
set_option maxRecDepth 100000
section
variable {E : Env} {v j : Nat} {ops : Array Oper} {K : Tm → Store → Prop} {rest : List Oper} {tm : Tm} {σ : Store} {ty : TypeId} {pos : String} {af : Array Edge}
theorem S_minE {d : Option Nat} {T T' : TypeId} {x y : Operand} {k : IntKind} {a b m : Int} (hx : ev tm x = some (.int k a)) (hy : ev tm y = some (.int k b)) (he : (if b < a then b else a) = m) (hcont : AO E.P v ops K (j + 1) rest (tm.putO d (.int k m)) (σ.apply [])) : AO E.P v ops K j (⟨d, .call { callee := .builtin .min, args := #[x, y], argTypes := #[T, T'] }, ty, pos, af, none⟩ :: rest) tm σ := by
 subst he; exact S_min hx hy hcont
end
theorem mC (l : List Int) (n : Int) (hl : l.length ≤ 1152921504606846976) : Pure E.P 62 [.d (ints l), .int .i64 n] (.int .i64 (atI l n)) := by
 refine fnA Tryz.func62 Tryz.ntmps62 ?_
 refine uB (aoR fun _ => ?_)
 refine q12 (uC (uA ?_))
 iterate 2 refine uB ?_
 refine aoR fun _ => ?_; refine q11 ?_; refine q13 ?_; refine q11 (uC (uA (uF ?_)))
 rotate_left
 refine uZ (X := Nat) (fun k => tmL [(0, .d (ints l)), (1, .int .i64 n), (7, .int .i64 l.length), (8, .int .i64 k)]) (fun _ => stL []) (fun k => k ≤ l.length ∧ atI l n = atFrom n (l.drop k) k) (fun k => l.length - k) 0 ⟨Nat.zero_le _, rfl⟩ leP leP ?_
 rintro k ⟨hk, ht⟩
 by_cases hlt : k < l.length
 ·have hd := yV l n k hlt
  refine uB (aoR fun _ => ?_)
  refine q37 (uC (uA (uB ?_))); refine cnd ?_ ?_
  refine uI fun _ => ?_; try (exfalso; omega)
  refine uG (uA (uB (uF (uB (aoR fun _ => ?_)))))
  refine q11 ?_; refine q12 (uC (uA (uB (aoR fun _ => ?_))))
  iterate 3 refine q11 ?_
  refine q17 ?_; refine q23 ?_; refine q46 (uC (uA ?_)); refine cnd ?_ ?_
  refine uI fun _ => ?_; try (exfalso; omega)
  refine uB (aoR fun _ => ?_)
  refine q11 ?_; refine q12 (uC (uA ?_)); refine uH ?_; refine vO ?_
  iterate 2 refine uR ?_
  refine vO ?_; refine uR ?_; rotate_left
  refine uJ fun _ => ?_; try (exfalso; omega)
  refine uG ?_; refine vI ?_; refine uA (aoR fun _ => ?_)
  refine q36 ?_; refine q11 (uC (uA ?_)); rotate_left
  refine uJ fun _ => ?_; try (exfalso; omega)
  ·rename_i he _
   refine wN rfl ?_
   have he' : n = l.getD k 0 := he
   rw [ht, hd, if_pos he'.symm]
  ·rename_i he _
   have he' : ¬ n = l.getD k 0 := he
   refine vJ (k + 1) ⟨by omega, ?_⟩ (by omega) leP leP
   rw [ht, hd, if_neg (fun h => he' h.symm)]
 ·refine uB (aoR fun _ => ?_)
  refine q37 (uC (uA (uB ?_))); refine cnd ?_ ?_
  refine uI fun _ => ?_; try (exfalso; omega)
  refine uJ fun _ => ?_; try (exfalso; omega)
  refine uO ?_
  iterate 2 refine vH ?_
  refine vR ?_; refine uA (uB (aoR fun _ => ?_))
  refine q12 (uC (uA ?_)); refine uH ?_; rotate_left
  refine wN rfl ?_
  rw [ht, List.drop_eq_nil_of_le (by omega)]; rfl
theorem cH {l : List Int} {j : Nat} (h : j < l.length) : l.getD j 0 ∈ l := by
 rw [List.getD_eq_getElem?_getD, List.getElem?_eq_getElem h]; exact List.getElem_mem h
theorem oK {x : Ex} (h : checkI x = 0) {i : Nat} (hi : i < x.order.length) : ∀ j, j < (x.order.getD i default).2.length → 0 ≤ (x.order.getD i default).2.getD j 0 ∧ (x.order.getD i default).2.getD j 0 < x.evs.length := fun j hj => by
 have h4 := (vX h).2.2.2
 unfold orderB rowsTo at h4
 simp only [Bool.and_eq_true, decide_eq_true_eq] at h4
 have h6 := List.all_eq_true.1 h4.2 i (List.mem_range.2 hi)
 unfold rowOk at h6
 simp only [Bool.and_eq_true, beq_iff_eq] at h6
 have hm2 : (x.order.getD i default).2.getD j 0 ∈ sortI (x.order.getD i default).2 := (List.mergeSort_perm _ _).mem_iff.2 (cH hj)
 rw [h6.2] at hm2
 unfold wantTo at hm2
 obtain ⟨m, h1, e⟩ := List.mem_map.1 hm2
 have h2 := List.mem_range.1 (List.mem_filter.1 h1).1
 rw [← e]
 simp only [Int.ofNat_eq_natCast]
 omega
def jdOV (x : Ex) (rf co fr : List (Int × Int)) : OV := .ag [.d (evsTV x.evs), .d (ints x.from_), .d (rowsTV x.order), .d (pairsTV rf), .d (pairsTV co), .d (pairsTV fr)]
theorem of_p (x : Ex) (hx : x.fit) : Pure E.P 36 [exOV x] (jdOV x (rfF x) (coF x) (frF x)) := by
 have f1 : Frozen 1 := ⟨trivial⟩
 have f5 : Frozen 5 := ⟨trivial⟩
 have f7 : Frozen 7 := ⟨trivial⟩
 have f9 : Frozen 9 := ⟨trivial⟩
 have h1 := rf_s x hx
 have h2 := co_s x hx
 have h3 := fr_s x hx
 refine FnW.toR ?_
 refine xI (vs := [.cell 2 67]) Tryz.func36 (by decide) rfl Tryz.ntmps36 (Nat.le_of_ble_eq_true rfl) rfl ?_
 refine uB (aoR fun _ => ?_)
 refine q34 ?_
 apply vQ; exact rfl
 refine uC (uA (uB ?_))
 refine vE (E := E) ?_ (fun _ => ?_); exact rfl
 iterate 2 (apply vT; exact rfl; exact rfl; exact rfl; exact Nat.le_of_ble_eq_true rfl)
 apply lN; assumption; exact rfl; exact .fn _ _ _; exact rfl; exact h1; exact xG _; exact rfl
 apply vT; exact rfl; exact rfl; exact rfl; exact Nat.le_of_ble_eq_true rfl
 apply lN; assumption; exact rfl; exact .fn _ _ _; exact rfl; exact h2; exact xG _; exact rfl
 apply vT; exact rfl; exact rfl; exact rfl; exact Nat.le_of_ble_eq_true rfl
 apply lN; assumption; exact rfl; exact .fn _ _ _; exact rfl; exact h3; exact xG _; exact rfl
 apply eO; exact rfl; exact rfl; exact rfl; exact rfl; exact rfl
 apply zC; exact rfl; exact rfl; exact rfl; exact rfl; exact rfl; exact rfl; (first | exact rfl | exact uW (by omega) (0 : Int) | exact uW (by omega) default | exact wR (by omega) (by omega) (0 : Int) | assumption); exact Nat.le_of_ble_eq_true rfl
 refine vV ?_ ?_; (first | ((try dsimp only [wkeys]); decide +kernel) | exact rfl)
 refine uA ?_; refine uH ?_; rotate_left
 exact pT rfl rfl rfl rfl rfl rfl
def readsR (x : Ex) (n : Nat) : Int × Bool := if (x.evs.getD n default).kind = 3 then ((n : Int), true) else pairedR x n
theorem reads_p (x : Ex) (hx : x.fit) (rf co fr : List (Int × Int)) (n : Nat) (hn : n < x.evs.length) : Pure E.P 61 [jdOV x rf co fr, .int .i64 n] (.tu [.int .i64 (readsR x n).1, .bool (readsR x n).2]) := by
 have f2 : Frozen 2 := ⟨trivial⟩
 have hl := hx.1.1
 have hP := Paired_p x hx n
 refine FnW.toR ?_
 refine xI (vs := [.tmp 4, .tmp 5]) Tryz.func61 (by decide) rfl Tryz.ntmps61 (Nat.le_of_ble_eq_true rfl) rfl ?_
 refine uB (aoR fun _ => ?_)
 refine q34 ?_
 iterate 2 refine q12 ?_
 refine uC (uA ?_)
 iterate 2 refine uB ?_
 refine aoR fun _ => ?_
 iterate 2 refine q32 ?_
 refine q23 ?_; refine q11 ?_; refine q17 ?_; refine q32 ?_; refine q23 ?_; refine q46 (uC (uA ?_)); refine cnd ?_ ?_
 refine uI fun _ => ?_; try (exfalso; omega)
 refine uB (aoR fun _ => ?_)
 refine q11 ?_
 iterate 2 refine q12 ?_
 refine uC (uA ?_); refine uH ?_; refine uR ?_; rotate_left
 refine uJ fun _ => ?_; try (exfalso; omega)
 refine uG (uA (uB (aoR fun _ => ?_)))
 refine q32 ?_; refine q33 ?_; refine q11 ?_
 apply uP; exact rfl; exact .fn _ _ _; exact rfl; exact hP
 iterate 2 (apply wQ; exact rfl; exact rfl)
 iterate 2 refine q12 ?_
 refine uC (uA ?_); refine uH ?_; rotate_left
 ·refine aZ rfl rfl ?_
  rename_i hk _
  have hk' : (x.evs.getD n default).kind = 3 := hk
  unfold readsR
  rw [if_pos hk']
 ·refine aZ rfl rfl ?_
  rename_i hk _
  have hk' : ¬ (x.evs.getD n default).kind = 3 := hk
  unfold readsR
  rw [if_neg hk']
theorem kL (n : Int) : ∀ (l : List Int) (k : Nat), atFrom n l k = -1 ∨ ((k : Int) ≤ atFrom n l k ∧ atFrom n l k < k + l.length)
 | [], k => Or.inl rfl
 | a :: l, k => by
  unfold atFrom
  split
  ·right; simp only [List.length_cons]; omega
  ·rcases kL n l (k + 1) with h | h
   ·exact Or.inl h
   ·right; simp only [List.length_cons]; omega
theorem pW (l : List Int) (n : Int) : -1 ≤ atI l n ∧ atI l n < l.length := by
 rcases kL n l 0 with h | h <;> unfold atI <;> omega
theorem eU (es : List Ev) (f : Ev) : ∀ k, -1 ≤ pairTo es f k ∧ pairTo es f k < k
 | 0 => by unfold pairTo; omega
 | k + 1 => by
  have := eU es f k
  unfold pairTo
  split
  ·split
   ·split
    ·omega
    ·split <;> omega
   ·omega
  ·omega
theorem readsR_bd (x : Ex) (n : Nat) : 0 ≤ (readsR x n).1 ∧ (readsR x n).1 ≤ n := by
 unfold readsR
 split
 ·dsimp only; omega
 ·unfold pairedR
  split
  ·rename_i h
   rw [Int.toNat_natCast] at h ⊢
   dsimp only
   unfold pairedI at h ⊢
   split
   ·have := eU x.evs (x.evs.getD n default) n
    rename_i h2
    rw [if_pos h2] at h
    omega
   ·rename_i h2
    rw [if_neg h2] at h
    omega
  ·dsimp only; omega
def atomLo (n : Nat) (f : Int) (l : List Int) : Nat := (min (atI l f + 1) (atI l n)).toNat
def atomSl (n : Nat) (f : Int) (l : List Int) : List Int := (l.drop (atomLo n f l)).take ((atI l n).toNat - atomLo n f l)
def atomM (x : Ex) (n : Nat) (m : Int) : Bool := decide ((x.evs.getD m.toNat default).hart = (x.evs.getD n default).hart)
def atomRow (x : Ex) (n : Nat) (f : Int) (l : List Int) : Bool := decide (atI l f < 0) || decide (atI l n < 0) || (atomSl n f l).all (atomM x n)
def atomEv (x : Ex) (n : Nat) : Bool := !(readsR x n).2 || x.order.all fun r => atomRow x n (x.from_.getD (readsR x n).1.toNat 0) r.2
def atomB (x : Ex) : Bool := (List.range x.evs.length).all (atomEv x)
theorem atom_no {x : Ex} {n : Nat} (hn : n < x.evs.length) (h : atomEv x n = false) : atomB x = false := by
 unfold atomB
 rw [List.all_eq_false]
 exact ⟨n, List.mem_range.2 hn, by rw [h]; decide⟩
def jdRow (x : Ex) (rf co fr : List (Int × Int)) : List TV := [evsTV x.evs, ints x.from_, rowsTV x.order, pairsTV rf, pairsTV co, pairsTV fr]
set_option maxHeartbeats 4000000 in
theorem atomic_p (x : Ex) (hx : x.rel) (rf co fr : List (Int × Int)) : Pure E.P 39 [jdOV x rf co fr] (.bool (atomB x)) := by
 have f1 : Frozen 1 := ⟨trivial⟩
 have f5 : Frozen 5 := ⟨trivial⟩
 have hl := hx.len
 have hlf := hx.from_
 have hlo := hx.ord
 refine fnA Tryz.func39 Tryz.ntmps39 ?_
 refine uB (aoR fun _ => ?_)
 refine q34 ?_; refine q12 (uC (uA ?_)); refine fH ?_; refine uB (aoR fun _ => ?_)
 refine q12 (uC (uA (uB ?_))); refine fJ ?_; refine uA ?_
 iterate 2 refine uB ?_
 refine aoR fun _ => ?_
 iterate 2 refine q32 ?_
 refine q23 ?_; refine q13 ?_; refine q11 (uC (uA (uF ?_))); rotate_left
 refine uZ (X := Nat) (fun n => tmL [(1, .d (.pt (jdRow x rf co fr) 0)), (3, .bool true), (16, .d (evsTV x.evs)), (17, .int .i64 x.evs.length), (18, .int .i64 n)]) (fun _ => stL []) (fun n => n ≤ x.evs.length ∧ ∀ j, j < n → atomEv x j = true) (fun n => x.evs.length - n) 0 ⟨Nat.zero_le _, fun j hj => by omega⟩ leP leP ?_
 rintro n ⟨hn, hall⟩
 by_cases hlt : n < x.evs.length
 rotate_left
 ·refine uB (aoR fun _ => ?_)
  refine q37 (uC (uA (uB ?_))); refine cnd ?_ ?_
  refine uI fun _ => ?_; try (exfalso; omega)
  refine uJ fun _ => ?_; try (exfalso; omega)
  refine uO ?_
  iterate 2 refine vH ?_
  refine vR ?_; refine uA (uB (aoR fun _ => ?_))
  refine q11 ?_; refine q12 (uC (uA ?_)); refine uH ?_; refine qL ?_; rotate_left
  refine vB rfl ?_
  unfold atomB
  refine (List.all_eq_true.2 fun j hj => hall j ?_).symm
  have := List.mem_range.1 hj
  omega
 have hR := reads_p x hx.fit rf co fr n hlt
 have hbd := readsR_bd x n
 cases hmust : (readsR x n).2 with
 | false =>
  rw [hmust] at hR
  refine uB (aoR fun _ => ?_)
  refine q37 (uC (uA (uB ?_))); refine cnd ?_ ?_
  refine uI fun _ => ?_; try (exfalso; omega)
  refine uG (uA (uB (uF (uB (aoR fun _ => ?_)))))
  refine q11 ?_; refine q17 ?_; refine q33 ?_
  apply vQ; exact rfl
  refine q12 ?_; refine q43 (uC (uA (uB (aoR fun _ => ?_))))
  refine q33 ?_; refine q11 ?_
  apply uP; exact rfl; exact .fn _ _ _; exact rfl; exact hR
  refine q11 ?_
  iterate 2 (apply wQ; exact rfl; exact rfl)
  iterate 2 refine q12 ?_
  refine uC (uA ?_)
  iterate 2 refine uB ?_
  refine aoR fun _ => ?_; refine q11 ?_
  apply xV; exact rfl
  refine uC (uA ?_)
  refine cnd ?_ ?_; refine bU ?_; refine uM ?_; refine uO ?_; refine vH ?_; refine vR ?_; refine uA (aoR fun _ => ?_)
  refine q36 ?_; refine q11 (uC (uA ?_)); rotate_left
  refine xS ?_
  exact uQ
  refine uJ fun _ => ?_; try (exfalso; omega)
  refine vJ (n + 1) ⟨by omega, fun j hj => ?_⟩ (by omega) leP leP
  rcases Nat.lt_or_ge j n with e | e
  ·exact hall j e
  ·have : j = n := by omega
   subst this
   unfold atomEv; rw [hmust]; rfl
 | true =>
  rw [hmust] at hR
  refine uB (aoR fun _ => ?_)
  refine q37 (uC (uA (uB ?_))); refine cnd ?_ ?_
  refine uI fun _ => ?_; try (exfalso; omega)
  refine uG (uA (uB (uF (uB (aoR fun _ => ?_)))))
  refine q11 ?_; refine q17 ?_; refine q33 ?_
  apply vQ; exact rfl
  refine q12 ?_; refine q43 (uC (uA (uB (aoR fun _ => ?_))))
  refine q33 ?_; refine q11 ?_
  apply uP; exact rfl; exact .fn _ _ _; exact rfl; exact hR
  refine q11 ?_
  iterate 2 (apply wQ; exact rfl; exact rfl)
  iterate 2 refine q12 ?_
  refine uC (uA ?_)
  iterate 2 refine uB ?_
  refine aoR fun _ => ?_; refine q11 ?_
  apply xV; exact rfl
  refine uC (uA ?_); refine cnd ?_ ?_; refine bU ?_
  exact xB
  refine xS ?_; refine uX ?_; refine uG (uA (uB (aoR fun _ => ?_)))
  iterate 2 refine q32 ?_
  refine q23 ?_; refine q13 ?_; refine q11 (uC (uA (uF ?_))); rotate_left
  refine uJ fun _ => ?_; try (exfalso; omega)
  generalize hr : (readsR x n).1 = r at hbd
  refine uZ (X := Nat) (fun j => tmL [(1, .d (.pt (jdRow x rf co fr) 0)), (3, .bool true), (4, .int .i64 n), (5, .d (.pt (evTV (x.evs.getD n default)) 0)), (6, .int .i64 r), (16, .d (evsTV x.evs)), (17, .int .i64 x.evs.length), (18, .int .i64 n), (33, .d (rowsTV x.order)), (34, .int .i64 x.order.length), (35, .int .i64 j)]) (fun _ => stL []) (fun j => j ≤ x.order.length ∧ ∀ q, q < j → atomRow x n (x.from_.getD r.toNat 0) (x.order.getD q default).2 = true) (fun j => x.order.length - j) 0 ⟨Nat.zero_le _, fun j hj => by omega⟩ leP leP ?_
  rintro j ⟨hj, hrows⟩
  by_cases hltj : j < x.order.length
  rotate_left
  ·refine uB (aoR fun _ => ?_)
   refine q37 (uC (uA (uB ?_))); refine cnd ?_ ?_
   refine uI fun _ => ?_; try (exfalso; omega)
   refine uJ fun _ => ?_; try (exfalso; omega)
   refine uO ?_
   iterate 2 refine vH ?_
   refine vR ?_; refine vI ?_; refine uA (aoR fun _ => ?_)
   refine q36 ?_; refine q11 (uC (uA ?_)); rotate_left
   refine vJ (n + 1) ⟨by omega, fun q hq => ?_⟩ (by omega) leP leP
   rcases Nat.lt_or_ge q n with e | e
   ·exact hall q e
   ·have : q = n := by omega
    subst this
    unfold atomEv
    rw [hmust, Bool.not_true, Bool.false_or, List.all_eq_true]
    intro w hw
    obtain ⟨z, hz, rfl⟩ := List.mem_iff_getElem.1 hw
    have := hrows z (by omega)
    rw [List.getD_eq_getElem?_getD (l := x.order), List.getElem?_eq_getElem hz] at this
    rw [hr]; exact this
  have hrl := hx.rows j
  have hI1 := mC (x.order.getD j default).2 (x.from_.getD r.toNat 0) (by omega)
  have hI2 := mC (x.order.getD j default).2 n (by omega)
  have hb1 := pW (x.order.getD j default).2 (x.from_.getD r.toNat 0)
  have hb2 := pW (x.order.getD j default).2 n
  have hrb : 0 ≤ r ∧ r < x.from_.length := by omega
  by_cases hneg : atI (x.order.getD j default).2 (x.from_.getD r.toNat 0) < 0 ∨ atI (x.order.getD j default).2 n < 0
  ·refine uB (aoR fun _ => ?_)
   refine q37 (uC (uA (uB ?_))); refine cnd ?_ ?_
   refine uI fun _ => ?_; try (exfalso; omega)
   refine uG (uA (uB (uF (uB (aoR fun _ => ?_)))))
   refine q17 ?_; refine q23 ?_; refine q12 (uC (uA (uB (aoR fun _ => ?_))))
   refine q11 ?_
   iterate 2 refine q32 ?_
   refine q23 ?_; refine q11 ?_; refine q17 ?_; refine q23 ?_
   apply uP; exact rfl; exact .fn _ _ _; exact rfl; exact hI1
   iterate 2 refine q11 ?_
   apply uP; exact rfl; exact .fn _ _ _; exact rfl; exact hI2
   iterate 2 refine q12 ?_
   refine uC (uA ?_)
   iterate 2 refine uB ?_
   refine aoR fun _ => ?_; refine q11 ?_; refine q37 ?_; refine q11 ?_
   apply spF; exact rfl
   intro hc_; refine q1
   apply spF; exact rfl
   intro hc_; refine q22; refine q0 (uC ?_); refine uA ?_
   refine cnd ?_ ?_
   refine xL (fun hc_ => ?_); (try simp only [nrm] at hc_)
   refine uO ?_; refine vH ?_; refine vR ?_; refine uA (aoR fun _ => ?_)
   refine q36 ?_; refine q11 (uC (uA ?_)); rotate_left
   refine xM ?_
   iterate 3 refine uJ fun _ => ?_; try (exfalso; omega)
   ·refine vJ (j + 1) ⟨by omega, fun q hq => ?_⟩ (by omega) leP leP
    rcases Nat.lt_or_ge q j with e | e
    ·exact hrows q e
    ·have : q = j := by omega
     subst this
     unfold atomRow
     rcases hneg with h | h
     ·rw [decide_eq_true h]; rfl
     ·rw [decide_eq_true h, Bool.or_true]; rfl
  ·have hlo0 : atomLo n (x.from_.getD r.toNat 0) (x.order.getD j default).2 ≤ (atI (x.order.getD j default).2 n).toNat := by unfold atomLo; omega
   have hml : ((x.order.getD j default).2.map cell).length = (x.order.getD j default).2.length := List.length_map ..
   have hml2 : ((x.order.getD (j : Int).toNat default).2.map cell).length = (x.order.getD j default).2.length := List.length_map ..
   have hmn : (if atI (x.order.getD j default).2 n < atI (x.order.getD j default).2 (x.from_.getD r.toNat 0) + 1 then atI (x.order.getD j default).2 n else atI (x.order.getD j default).2 (x.from_.getD r.toNat 0) + 1) = ((atomLo n (x.from_.getD r.toNat 0) (x.order.getD j default).2 : Nat) : Int) := by
    unfold atomLo
    split <;> omega
   refine uB (aoR fun _ => ?_)
   refine q37 (uC (uA (uB ?_))); refine cnd ?_ ?_
   refine uI fun _ => ?_; try (exfalso; omega)
   refine uG (uA (uB (uF (uB (aoR fun _ => ?_)))))
   refine q17 ?_; refine q23 ?_; refine q12 (uC (uA (uB (aoR fun _ => ?_))))
   refine q11 ?_
   iterate 2 refine q32 ?_
   refine q23 ?_; refine q11 ?_; refine q17 ?_; refine q23 ?_
   apply uP; exact rfl; exact .fn _ _ _; exact rfl; exact hI1
   iterate 2 refine q11 ?_
   apply uP; exact rfl; exact .fn _ _ _; exact rfl; exact hI2
   iterate 2 refine q12 ?_
   refine uC (uA ?_)
   iterate 2 refine uB ?_
   refine aoR fun _ => ?_; refine q11 ?_; refine q37 ?_; refine q11 ?_
   apply spF; exact rfl
   intro hc_; refine q1
   apply spF; exact rfl
   intro hc_; refine q22; refine q0 (uC ?_); refine uA ?_
   refine cnd ?_ ?_
   refine xL (fun hc_ => ?_); (try simp only [nrm] at hc_)
   refine uO ?_; refine vH ?_; refine vR ?_; refine uA (aoR fun _ => ?_)
   refine q36 ?_; refine q11 (uC (uA ?_)); rotate_left
   refine xM ?_
   iterate 2 refine uJ fun _ => ?_; try (exfalso; omega)
   refine uG (uA (uB (aoR fun _ => ?_)))
   iterate 2 refine q11 ?_
   refine q36 ?_; refine q11 ?_
   apply S_minE; exact rfl; exact rfl; exact hmn
   refine q11 ?_
   (apply iZ; exact rfl; exact rfl; exact rfl; exact rfl; exact rfl; (first | exact rfl | exact ⟨_, _, rfl, by omega, rfl⟩); (first | exact rfl | exact ⟨_, _, rfl, by omega, rfl⟩); omega; omega)
   refine q13 ?_; refine q11 (uC (uA (uF ?_))); rotate_left
   refine uJ fun _ => ?_; try (exfalso; omega)
   ·exact (hneg hc_).elim
   obtain ⟨lo, hlo⟩ : ∃ lo, atomLo n (x.from_.getD r.toNat 0) (x.order.getD j default).2 = lo := ⟨_, rfl⟩
   have hS : List.take ((atI (x.order.getD j default).2 n).toNat - ((lo : Nat) : Int).toNat) (List.drop ((lo : Nat) : Int).toNat (List.map cell (x.order.getD (j : Int).toNat default).2)) = List.map cell (atomSl n (x.from_.getD r.toNat 0) (x.order.getD j default).2) := by
    rw [Int.toNat_natCast, Int.toNat_natCast, ← List.map_drop, ← List.map_take]; unfold atomSl; rw [hlo]
   rw [hlo, hS]
   have hSm : ∀ z, z < (atomSl n (x.from_.getD r.toNat 0) (x.order.getD j default).2).length → 0 ≤ (atomSl n (x.from_.getD r.toNat 0) (x.order.getD j default).2).getD z 0 ∧ (atomSl n (x.from_.getD r.toNat 0) (x.order.getD j default).2).getD z 0 < x.evs.length := fun z hz => by
    have hm : (atomSl n (x.from_.getD r.toNat 0) (x.order.getD j default).2).getD z 0 ∈ (x.order.getD j default).2 := by
     have h1 := cH hz
     unfold atomSl at h1 ⊢
     exact List.mem_of_mem_drop (List.mem_of_mem_take h1)
    obtain ⟨w, hw, e⟩ := List.mem_iff_getElem.1 hm
    have := oK hx.check hltj w hw
    rw [List.getD_eq_getElem?_getD, List.getElem?_eq_getElem hw, Option.getD_some, e] at this
    exact this
   have hrow : atomRow x n (x.from_.getD r.toNat 0) (x.order.getD j default).2 = (atomSl n (x.from_.getD r.toNat 0) (x.order.getD j default).2).all (atomM x n) := by
    unfold atomRow
    rw [decide_eq_false (fun h => hneg (Or.inl h)), decide_eq_false (fun h => hneg (Or.inr h))]; rfl
   have hSl : (atomSl n (x.from_.getD r.toNat 0) (x.order.getD j default).2).length ≤ 65536 := by
    unfold atomSl
    rw [List.length_take, List.length_drop]; omega
   generalize atomSl n (x.from_.getD r.toNat 0) (x.order.getD j default).2 = S at hSm hrow hSl
   refine uZ (X := Nat) (fun z => tmL [(1, .d (.pt (jdRow x rf co fr) 0)), (3, .bool true), (4, .int .i64 n), (5, .d (.pt (evTV (x.evs.getD n default)) 0)), (6, .int .i64 r), (16, .d (evsTV x.evs)), (17, .int .i64 x.evs.length), (18, .int .i64 n), (33, .d (rowsTV x.order)), (34, .int .i64 x.order.length), (35, .int .i64 j), (62, .d (ints S)), (63, .int .i64 S.length), (64, .int .i64 z)]) (fun _ => stL []) (fun z => z ≤ S.length ∧ ∀ q, q < z → atomM x n (S.getD q 0) = true) (fun z => S.length - z) 0 ⟨Nat.zero_le _, fun j hj => by omega⟩ (by repeat' (first | exact vP _ | exact vM _ | refine uL rfl ?_ | refine vF rfl ?_ | (refine uV rfl ?_ ?_; (simp)) | (refine uN rfl ?_ ?_; (simp)) | (refine vA rfl ?_ ?_; (simp)))) leP ?_
   rintro z ⟨hz, hms⟩
   by_cases hltz : z < S.length
   ·have hz1 := hSm z hltz
    have hz2 : 0 ≤ S.getD (z : Int).toNat 0 ∧ S.getD (z : Int).toNat 0 < x.evs.length := hz1
    refine uB (aoR fun _ => ?_)
    refine q37 (uC (uA (uB ?_))); refine cnd ?_ ?_
    refine uI fun _ => ?_; try (exfalso; omega)
    refine uG (uA (uB (uF (uB (aoR fun _ => ?_)))))
    refine q17 ?_; refine q23 ?_; refine q12 (uC (uA (uB ?_)))
    refine vE (E := E) ?_ (fun _ => ?_); exact rfl
    iterate 2 refine q52 ?_
    refine q50 ?_; refine q38 ?_; refine q30 ?_; refine q52 ?_; refine q50 ?_; refine q52 ?_; refine q50 ?_
    apply jC; exact rfl; exact rfl
    apply wF; exact rfl
    refine vV ?_ ?_; (first | ((try dsimp only [wkeys]); decide +kernel) | exact rfl)
    refine uA (uB (aoR fun _ => ?_))
    refine q11 ?_
    apply xV; exact rfl
    refine uC (uA ?_); refine cnd ?_ ?_
    refine wX (fun _ => ?_); (try (exfalso; omega))
    refine uO ?_
    refine iP ?_ ?_; exact rfl
    iterate 2 refine vH ?_
    iterate 2 (refine iP ?_ ?_; exact rfl)
    iterate 2 refine vH ?_
    iterate 2 (refine iP ?_ ?_; exact rfl)
    iterate 2 refine vH ?_
    refine vR ?_; refine uA (uB (aoR fun _ => ?_))
    refine q11 ?_; refine q12 (uC (uA ?_)); refine uH ?_; refine qL ?_; rotate_left
    refine wT (fun _ => ?_); (try (exfalso; omega))
    refine uG ?_; refine vI ?_; refine uA (aoR fun _ => ?_)
    refine q36 ?_; refine q11 (uC (uA ?_)); rotate_left
    refine uJ fun _ => ?_; try (exfalso; omega)
    ·rename_i hh _
     have hh' : ¬ (x.evs.getD (S.getD z 0).toNat default).hart = (x.evs.getD n default).hart := hh
     refine vB rfl ?_
     have hr0 : atomRow x n (x.from_.getD r.toNat 0) (x.order.getD j default).2 = false := by
      rw [hrow, List.all_eq_false]
      refine ⟨S.getD z 0, cH hltz, ?_⟩
      unfold atomM
      rw [decide_eq_false hh']; decide
     have he0 : atomEv x n = false := by
      unfold atomEv
      rw [hmust, Bool.not_true, Bool.false_or, List.all_eq_false]
      refine ⟨x.order.getD j default, ?_, ?_⟩
      ·rw [List.getD_eq_getElem?_getD, List.getElem?_eq_getElem hltj]; exact List.getElem_mem hltj
      ·rw [hr, hr0]; decide
     rw [atom_no hlt he0]
     exact decide_eq_false hh'
    ·rename_i hh _
     have hh' : (x.evs.getD (S.getD z 0).toNat default).hart = (x.evs.getD n default).hart := hh
     refine vJ (z + 1) ⟨by omega, fun q hq => ?_⟩ (by omega) ?_ leP
     ·rcases Nat.lt_or_ge q z with e | e
      ·exact hms q e
      ·have : q = z := by omega
       subst this
       exact decide_eq_true hh'
     ·have hd : decide ((x.evs.getD (S.getD (z : Int).toNat 0).toNat default).hart = (x.evs.getD n default).hart) = true := decide_eq_true hh'
      refine uL rfl (uL (by rw [← hd]; rfl) ?_)
      exact leP
   ·refine uB (aoR fun _ => ?_)
    refine q37 (uC (uA (uB ?_))); refine cnd ?_ ?_
    refine uI fun _ => ?_; try (exfalso; omega)
    refine uJ fun _ => ?_; try (exfalso; omega)
    refine uO ?_
    iterate 2 refine vH ?_
    refine vR ?_; refine vI ?_; refine uA (aoR fun _ => ?_)
    refine q36 ?_; refine q11 (uC (uA ?_)); rotate_left
    refine vJ (j + 1) ⟨by omega, fun q hq => ?_⟩ (by omega) leP leP
    rcases Nat.lt_or_ge q j with e | e
    ·exact hrows q e
    ·have : q = j := by omega
     subst this
     rw [hrow, List.all_eq_true]
     intro w hw
     obtain ⟨y, hy, rfl⟩ := List.mem_iff_getElem.1 hw
     have := hms y (by omega)
     rwa [List.getD_eq_getElem?_getD, List.getElem?_eq_getElem hy] at this
theorem info_b : (Tryz.prog.info? 4).map (fun i => (i.zero, i.size, i.bytes)) = some (some (.bool false), 1, 1) := by kernel_rfl
def ledTo (l : List (Int × Int)) (g : Gone) (p k : Nat) : Bool := ledB (l.take k) g p
theorem ledTo_succ (l : List (Int × Int)) (g : Gone) (p : Nat) {k : Nat} (hk : k < l.length) : ledTo l g p (k + 1) = (ledTo l g p k || ((l.getD k (0, 0)).2 == (p : Int) && !g (l.getD k (0, 0)).1.toNat)) := by
 unfold ledTo ledB
 rw [List.take_succ_eq_append_getElem hk, List.any_append, List.getD_eq_getElem?_getD, List.getElem?_eq_getElem hk]
 simp
theorem ledTo_len (l : List (Int × Int)) (g : Gone) (p : Nat) : ledTo l g p l.length = ledB l g p := by unfold ledTo; rw [List.take_length]
def goneTo (l : List (Int × Int)) (n k : Nat) : Bool := (List.range k).all (fun p => roundsTo l n n p)
theorem goneTo_succ (l : List (Int × Int)) (n k : Nat) : goneTo l n (k + 1) = (goneTo l n k && roundsTo l n n k) := by simp [goneTo, List.range_succ]
theorem goneTo_len (l : List (Int × Int)) (n : Nat) : circleB n l = !goneTo l n n := by
 unfold circleB goneTo
 rw [List.not_all_eq_any_not]
theorem goneTo_false (l : List (Int × Int)) (n k : Nat) (hk : k < n) (h : roundsTo l n n k = false) : circleB n l = true := by
 unfold circleB
 rw [List.any_eq_true]
 exact ⟨k, by simpa using hk, by rw [h]; rfl⟩
def gv (g : Gone) : Nat → Value := fun i => .bool (g i)
set_option maxRecDepth 100000 in
set_option maxHeartbeats 2000000 in
theorem circle_c (n : Nat) (s : Sl) (l : List (Int × Int)) (w : World) (hl : PairsZ w.heap.size w s l) (hn : n ≤ 64) (hok : l.any (outB n) = false) (hlen : l.length ≤ 4096) :
  Calls Tryz.prog 40 #[.int .i64 (n : Int), .slice s.a s.n s.c] w fun e w' => e = .returned (.bool (circleB n l)) ∧ Below w.heap.size w w' := by
 obtain ⟨res, hres⟩ : ∃ z : Bool, circleB n l = z := ⟨_, rfl⟩
 rw [hres]
 have RES := Lib.hid hres
 clear hres
 have hmk := run_make_row' (P := Tryz.prog) 91 4 (.bool false) 1 Tryz.underlying91 info_b rfl .i64 .i64 n (by omega) (by omega)
 obtain ⟨sa, sn, sc⟩ := s
 obtain ⟨hsn, hls, hrow⟩ := hl
 dsimp only at hsn hrow
 subst hsn
 have HROW := Lib.hid hrow
 have HOK := Lib.hid hok
 clear hrow hok
 go_enter Tryz.func40, Tryz.ntmps40
 go_wp2
 go_loopw [6] (fun i wr => ∃ r : Nat, r ≤ n ∧ i = .int .i64 r ∧ wr.rowIs w.heap.size 4 n (gv (roundsTo l n r)) ∧ Below w.heap.size w wr) (fun i _ => n - (intOf i).toNat)
 case atStart => exact ⟨0, by omega, rfl, World.rowIs_made _ _ _ _, (Below.refl _ _).alloc (Nat.le_refl _) _⟩
 case round =>
  obtain ⟨r, hr, rfl, hg, hb⟩ := hrel
  rename World => wo
  clear hmk
  by_cases hlt : r < n
  ·have HG := Lib.hid hg
   clear hg
   go_wp2
   go_loopw [7] (fun j wr => ∃ p : Nat, p ≤ n ∧ j = .int .i64 p ∧ wr.rowIs w.heap.size 4 n (gv (passTo l (roundsTo l n r) p)) ∧ Below w.heap.size w wr) (fun j _ => n - (intOf j).toNat)
   case atStart => exact ⟨0, by omega, rfl, HG.out, hb⟩
   case round =>
    obtain ⟨p, hp, rfl, hg2, hb2⟩ := hrel
    rename World => wp
    obtain ⟨g, hgE⟩ : ∃ g, passTo l (roundsTo l n r) p = g := ⟨_, rfl⟩
    rw [hgE] at hg2
    have HGE := Lib.hid hgE
    have HG2 := Lib.hid hg2
    clear hgE hg2 hb HG
    by_cases hlp : p < n
    ·go_wp2
     go_loop [8, 9] (fun ld i => ∃ k : Nat, k ≤ l.length ∧ i = .int .i64 k ∧ ld = .bool (ledTo l g p k)) (fun _ i => l.length - (intOf i).toNat)
     case atStart => exact ⟨0, by omega, rfl, rfl⟩
     case round =>
      obtain ⟨k, hk, rfl, rfl⟩ := hrel
      obtain ⟨ld, hld⟩ : ∃ z : Bool, ledTo l g p k = z := ⟨_, rfl⟩
      rw [hld]
      have HLD := Lib.hid hld
      clear hld
      by_cases hlk : k < l.length
      ·obtain ⟨b, off, rfl, hbB, hcl⟩ := HROW.out.resolve_left (by intro h; rw [h] at hlk; simp at hlk)
       obtain ⟨⟨pa, pb⟩, hq⟩ : ∃ p, l.getD k (0, 0) = p := ⟨_, rfl⟩
       have cc := hcl k hlk
       rw [hq] at cc
       dsimp only at cc
       have q0 : wp.cell? ⟨b, off + k * 2, none⟩ = some (.int .i64 pa) := by rw [hb2.cell (p := ⟨b, off + k * 2, none⟩) hbB]; exact cc.1
       have q1 : wp.cell? ⟨b, off + k * 2 + 1, none⟩ = some (.int .i64 pb) := by rw [hb2.cell (p := ⟨b, off + k * 2 + 1, none⟩) hbB]; exact cc.2
       have hin : 0 ≤ pa ∧ pa < n := by
        have hx : outB n (pa, pb) = false := by
         have := HOK.out
         rw [List.any_eq_false] at this
         have h2 := this (pa, pb) (by rw [← hq, List.getD_eq_getElem?_getD, List.getElem?_eq_getElem hlk]; exact List.getElem_mem hlk)
         simpa using h2
        unfold outB at hx
        simp only [Bool.or_eq_false_iff, decide_eq_false_iff_not] at hx
        omega
       obtain ⟨a, rfl⟩ : ∃ a : Nat, pa = a := ⟨pa.toNat, by omega⟩
       have hla : a < n := by omega
       obtain ⟨ga, hga⟩ : ∃ z : Bool, g a = z := ⟨_, rfl⟩
       have q2 : wp.cell? ⟨w.heap.size, a, none⟩ = some (.bool ga) := by rw [← hga]; exact HG2.out.cell hla
       obtain ⟨eb, heb⟩ : ∃ bool_ : Bool, (pb == (p : Int)) = bool_ := ⟨_, rfl⟩
       have HS : Hid (ledTo l g p (k + 1) = (ld || (eb && !ga))) := Lib.hid (by rw [ledTo_succ l g p hlk, HLD.out, hq, Int.toNat_natCast, hga, heb])
       clear hcl cc hq hga
       cases ld <;> cases eb <;> cases ga
       all_goals
        go_wp2
        go_round
        case rel => exact ⟨k + 1, by omega, by go_num, by rw [HS.out]; rfl⟩
        case measure => simp [intOf]; omega
      ·have hke : k = l.length := by omega
       have HL : Hid (ledB l g p = ld) := Lib.hid (by rw [← ledTo_len, ← hke]; exact HLD.out)
       clear hke
       cases ld with
       | true =>
        go_wp2
        go_roundw
        case rel => exact ⟨p + 1, by omega, by go_num, by rw [yR, HGE.out]; unfold takeP; rw [HL.out]; exact HG2.out, hb2⟩
        case measure => simp [intOf]; omega
       | false =>
        have hf := HG2.out.frozen p
        have hc := HG2.out.cell hlp
        have hlt2 := HG2.out.lt
        go_wp2
        go_roundw
        case rel =>
         refine ⟨p + 1, by omega, by go_num, ?_, ?_⟩
         ·rw [yR, HGE.out]; unfold takeP; rw [HL.out]
          refine (HG2.out.set p (.bool true)).congr (fun i _ => ?_)
          show (if i = p then Value.bool true else .bool (g i)) = .bool (if i = p then true else g i)
          split <;> rfl
         ·exact hb2.setCell (by simp) _
        case measure => simp [intOf]; omega
    ·have hpe : p = n := by omega
     go_wp2
     go_roundw
     case rel => exact ⟨r + 1, by omega, by go_num, by (have := HG2.out); rw [← HGE.out, hpe] at this; exact this, hb2⟩
     case measure => simp [intOf]; omega
  ·have hre : r = n := by omega
   have HG : Hid (wo.rowIs w.heap.size 4 n (gv (roundsTo l n n))) := Lib.hid (by rw [← hre]; rw [← hre] at hg; exact hg)
   clear hg
   go_wp2
   go_loop [10] (fun i => ∃ k : Nat, k ≤ n ∧ i = .int .i64 k ∧ goneTo l n k = true) (fun i => n - (intOf i).toNat)
   case atStart => exact ⟨0, by omega, rfl, rfl⟩
   case round =>
    obtain ⟨k, hk, rfl, hgt⟩ := hrel
    have HGT := Lib.hid hgt
    clear hgt
    by_cases hlk : k < n
    ·obtain ⟨gk, hgk⟩ : ∃ z : Bool, roundsTo l n n k = z := ⟨_, rfl⟩
     have q2 : wo.cell? ⟨w.heap.size, k, none⟩ = some (.bool gk) := by rw [← hgk]; exact HG.out.cell hlk
     have HGK := Lib.hid hgk
     clear hgk
     cases gk with
     | true =>
      go_wp2
      go_round
      case rel => exact ⟨k + 1, by omega, by go_num, by rw [goneTo_succ, HGT.out, HGK.out]; rfl⟩
      case measure => simp [intOf]; omega
     | false =>
      go_wp2
      go_ret
      exact ⟨vG (by rw [← RES.out, goneTo_false l n k hlk HGK.out]), hb⟩
    ·have hke : k = n := by omega
     have F : Hid (res = false) := Lib.hid (by rw [← RES.out, goneTo_len, ← hke]; rw [← hke] at HGT; rw [HGT.out]; rfl)
     go_wp2
     go_ret
     exact ⟨vG F.out.symm, hb⟩
def Arr (l : List (Int × Int)) (a b : Nat) : Prop := ∃ q ∈ l, q.1 = (a : Int) ∧ q.2 = (b : Int)
inductive Way (l : List (Int × Int)) : Nat → Nat → Prop where
 | one {a b : Nat} (h : Arr l a b) : Way l a b
 | more {a b c : Nat} (h : Way l a b) (h2 : Arr l b c) : Way l a c
theorem dQ {l : List (Int × Int)} {n : Nat} (hok : l.any (outB n) = false) {a b : Nat} : b ∈ nxF l a ↔ Arr l a b := by
 unfold nxF nxTo Arr
 rw [List.take_length]
 simp only [List.mem_map, List.mem_filter, beq_iff_eq]
 constructor
 ·rintro ⟨z, ⟨q, ⟨hq, h1⟩, rfl⟩, rfl⟩
  refine ⟨q, hq, h1, ?_⟩
  rw [List.any_eq_false] at hok
  have := hok q hq
  unfold outB at this
  simp only [Bool.or_eq_true, decide_eq_true_eq, not_or] at this
  omega
 ·rintro ⟨q, hq, h1, h2⟩
  exact ⟨q.2, ⟨q, ⟨hq, h1⟩, rfl⟩, by rw [h2]; simp⟩
theorem fL {l : List (Int × Int)} {n : Nat} (hok : l.any (outB n) = false) {a b : Nat} (h : Arr l a b) : a < n ∧ b < n := by
 obtain ⟨q, hq, h1, h2⟩ := h
 rw [List.any_eq_false] at hok
 have := hok q hq
 unfold outB at this
 simp only [Bool.or_eq_true, decide_eq_true_eq, not_or] at this
 omega
def Keeps (st st' : St) : Prop := (∀ i, st' i = 1 ↔ st i = 1) ∧ (∀ i, st i = 2 → st' i = 2) ∧ (∀ i, st' i ≤ 2)
def Ranked (nx : Nat → List Nat) (st : St) (t : Nat → Nat) (c : Nat) : Prop := ∀ a, st a = 2 → t a < c ∧ ∀ b ∈ nx a, st b = 2 ∧ t b < t a
def twos : Nat → St → Nat
 | 0, _ => 0
 | n + 1, st => twos n st + (if st n = 2 then 1 else 0)
theorem oG (st : St) : ∀ n, twos n st ≤ n
 | 0 => Nat.le_refl _
 | n + 1 => by have := oG st n; unfold twos; split <;> omega
theorem lU {st : St} {a : Nat} (h : st a ≠ 2) : ∀ n, a < n → twos n (upd st a 2) = twos n st + 1
 | 0, ha => by omega
 | n + 1, ha => by
  unfold twos
  by_cases hn : n = a
  ·subst hn
   have e1 : upd st n 2 n = 2 := by unfold upd; rw [if_pos rfl]
   have e2 : ∀ m, m ≤ n → twos m (upd st n 2) = twos m st := by
    intro m
    induction m with
    | zero => intro _; rfl
    | succ m ih =>
     intro hm
     have e3 : upd st n 2 m = st m := by unfold upd; rw [if_neg (by omega)]
     unfold twos
     rw [ih (by omega), e3]
   rw [e1, if_pos rfl, if_neg h, e2 n (Nat.le_refl _)]
  ·have := lU h n (by omega)
   have e3 : upd st a 2 n = st n := by unfold upd; rw [if_neg hn]
   rw [this, e3]; omega
def GoodD (nx : Nat → List Nat) (n : Nat) (f : St → Nat → Bool × St) : Prop := ∀ st a, a < n → (∀ i, st i ≤ 2) → (f st a).1 = true →
 Keeps st (f st a).2 ∧ (f st a).2 a = 2 ∧ ∀ t, Ranked nx st t (twos n st) → ∃ t', Ranked nx (f st a).2 t' (twos n (f st a).2)
theorem fA {nx : Nat → List Nat} {n : Nat} {f : St → Nat → Bool × St} (hf : GoodD nx n f) : ∀ (l : List Nat) (st : St), (∀ b ∈ l, b < n) → (∀ i, st i ≤ 2) → (dfsL f st l).1 = true →
  Keeps st (dfsL f st l).2 ∧ (∀ b ∈ l, (dfsL f st l).2 b = 2) ∧ ∀ t, Ranked nx st t (twos n st) → ∃ t', Ranked nx (dfsL f st l).2 t' (twos n (dfsL f st l).2)
 | [], st, _, h2, _ => ⟨⟨fun _ => Iff.rfl, fun _ h => h, h2⟩, by simp, fun t ht => ⟨t, ht⟩⟩
 | b :: r, st, hb, h2, h => by
  unfold dfsL at h ⊢
  by_cases hc : (f st b).1 = true
  ·rw [if_pos hc] at h ⊢
   obtain ⟨⟨k1, k2, k3⟩, k4, k5⟩ := hf st b (hb b (by simp)) h2 hc
   obtain ⟨⟨g1, g2, g3⟩, g4, g5⟩ := fA hf r (f st b).2 (fun c hcr => hb c (by simp [hcr])) k3 h
   refine ⟨⟨fun i => (g1 i).trans (k1 i), fun i hi => g2 i (k2 i hi), g3⟩, ?_, ?_⟩
   ·intro c hcm
    rcases List.mem_cons.1 hcm with rfl | hcm
    ·exact g2 _ k4
    ·exact g4 c hcm
   ·intro t ht
    obtain ⟨t1, ht1⟩ := k5 t ht
    exact g5 t1 ht1
  ·rw [if_neg hc] at h; exact absurd h (by simp)
theorem dY {nx : Nat → List Nat} {n : Nat} (hn : ∀ a, ∀ b ∈ nx a, b < n) : ∀ f, GoodD nx n (dfs nx f)
 | 0, st, a, _, _, h => by simp [dfs] at h
 | f + 1, st, a, ha, h2, h => by
  unfold dfs at h ⊢
  by_cases hp : 0 < st a
  ·rw [if_pos hp] at h ⊢
   have e : st a = 2 := by simpa using h
   exact ⟨⟨fun _ => Iff.rfl, fun _ h => h, h2⟩, e, fun t ht => ⟨t, ht⟩⟩
  ·rw [if_neg hp] at h ⊢
   by_cases hc : (dfsL (dfs nx f) (upd st a 1) (nx a)).1 = true
   ·rw [if_pos hc] at h ⊢
    have hu2 : ∀ i, upd st a 1 i ≤ 2 := by intro i; unfold upd; split; omega; exact h2 i
    obtain ⟨⟨g1, g2, g3⟩, g4, g5⟩ := fA (dY hn f) (nx a) (upd st a 1) (hn a) hu2 hc
    generalize (dfsL (dfs nx f) (upd st a 1) (nx a)).2 = s at *
    have sa : s a = 1 := (g1 a).2 (by unfold upd; rw [if_pos rfl])
    have ha0 : st a = 0 := by omega
    refine ⟨⟨?_, ?_, ?_⟩, by dsimp only; unfold upd; rw [if_pos rfl], ?_⟩
    ·intro i
     dsimp only
     by_cases hi : i = a
     ·subst hi; unfold upd; rw [if_pos rfl]; omega
     ·have e1 : upd s a 2 i = s i := by unfold upd; rw [if_neg hi]
      have e2 : upd st a 1 i = st i := by unfold upd; rw [if_neg hi]
      rw [e1, g1 i, e2]
    ·intro i hi
     dsimp only
     by_cases hia : i = a
     ·subst hia; unfold upd; rw [if_pos rfl]
     ·have e1 : upd s a 2 i = s i := by unfold upd; rw [if_neg hia]
      rw [e1]; exact g2 i (by unfold upd; rw [if_neg hia]; exact hi)
    ·intro i; dsimp only; unfold upd; split; omega; exact g3 i
    ·intro t ht
     have hru : Ranked nx (upd st a 1) t (twos n (upd st a 1)) := by
      have e : ∀ i, upd st a 1 i = 2 ↔ st i = 2 := by
       intro i; unfold upd; by_cases hi : i = a
       ·rw [if_pos hi, hi]; omega
       ·rw [if_neg hi]
      have e4 : ∀ m, twos m (upd st a 1) = twos m st := by
       intro m
       induction m with
       | zero => rfl
       | succ m ih => unfold twos; rw [ih]; simp only [e]
      intro c hc
      rw [e4]
      obtain ⟨r1, r2⟩ := ht c ((e c).1 hc)
      exact ⟨r1, fun b hb => ⟨(e b).2 (r2 b hb).1, (r2 b hb).2⟩⟩
     obtain ⟨t', ht'⟩ := g5 t hru
     refine ⟨fun i => if i = a then twos n s else t' i, ?_⟩
     dsimp only
     rw [lU (by omega) n ha]
     intro c hc
     dsimp only
     by_cases hca : c = a
     ·subst hca
      rw [if_pos rfl]
      refine ⟨by omega, fun b hb => ?_⟩
      have hb2 := g4 b hb
      have hbc : b ≠ c := by intro e; subst e; omega
      refine ⟨by unfold upd; rw [if_neg hbc]; exact hb2, ?_⟩
      rw [if_neg hbc]
      exact (ht' b hb2).1
     ·rw [if_neg hca]
      have e1 : upd s a 2 c = s c := by unfold upd; rw [if_neg hca]
      rw [e1] at hc
      obtain ⟨r1, r2⟩ := ht' c hc
      refine ⟨by omega, fun b hb => ?_⟩
      have hb2 := (r2 b hb).1
      have hbc : b ≠ a := by intro e; subst e; omega
      refine ⟨by unfold upd; rw [if_neg hbc]; exact hb2, ?_⟩
      rw [if_neg hbc]
      exact (r2 b hb).2
   ·rw [if_neg hc] at h; exact absurd h (by simp)
theorem acyB_rank {n : Nat} {l : List (Int × Int)} (hok : l.any (outB n) = false) (h : acyB n l = true) : ∃ t : Nat → Nat, ∀ a, a < n → t a < n ∧ ∀ b, Arr l a b → t b < t a := by
 unfold acyB at h
 have hn : ∀ a, ∀ b ∈ nxF l a, b < n := fun a b hb => (fL hok ((dQ hok).1 hb)).2
 obtain ⟨_, g4, g5⟩ := fA (dY hn 65) (List.range n) (fun _ => 0) (by simp) (by simp) h
 obtain ⟨t, ht⟩ := g5 (fun _ => 0) (by intro c hc; simp at hc)
 refine ⟨t, fun a ha => ?_⟩
 obtain ⟨r1, r2⟩ := ht a (g4 a (by simpa using ha))
 have := oG (dfsL (dfs (nxF l) 65) (fun _ => 0) (List.range n)).2 n
 exact ⟨by omega, fun b hb => (r2 b ((dQ hok).2 hb)).2⟩
theorem takeP_gone {l : List (Int × Int)} {g : Gone} {p : Nat} (h : ledB l g p = false) : takeP l g p p = true := by
 unfold takeP updB
 rw [h]
 simp
theorem ledB_mono {l : List (Int × Int)} {g g' : Gone} {p : Nat} (hg : ∀ i, g i = true → g' i = true) (h : ledB l g p = false) : ledB l g' p = false := by
 unfold ledB at *
 rw [List.any_eq_false] at *
 intro q hq hh
 refine h q hq ?_
 simp only [Bool.and_eq_true, Bool.not_eq_true'] at *
 refine ⟨hh.1, ?_⟩
 cases hgq : g q.1.toNat with
 | false => rfl
 | true => rw [hg _ hgq] at hh; simp at hh
theorem passTo_gone {l : List (Int × Int)} {g : Gone} {k p : Nat} (hp : p < k) (h : ledB l g p = false) : passTo l g k p = true := by
 induction k with
 | zero => omega
 | succ k ih =>
  rw [yR]
  by_cases hk : p = k
  ·subst hk
   exact takeP_gone (ledB_mono (fun i hi => passTo_mono _ _ _ _ hi) h)
  ·exact gO _ _ _ _ (ih (by omega))
theorem rank_no_circle {n : Nat} {l : List (Int × Int)} (hok : l.any (outB n) = false) {t : Nat → Nat} (ht : ∀ a, a < n → t a < n ∧ ∀ b, Arr l a b → t b < t a) : circleB n l = false := by
 have key : ∀ r p, p < n → n ≤ t p + r → roundsTo l n r p = true := by
  intro r
  induction r with
  | zero => intro p hp h; have := (ht p hp).1; omega
  | succ r ih =>
   intro p hp h
   unfold roundsTo
   refine passTo_gone hp ?_
   unfold ledB
   rw [List.any_eq_false]
   intro q hq hh
   simp only [Bool.and_eq_true, beq_iff_eq, Bool.not_eq_true'] at hh
   have hin := hok
   rw [List.any_eq_false] at hin
   have := hin q hq
   unfold outB at this
   simp only [Bool.or_eq_true, decide_eq_true_eq, not_or] at this
   have hA : Arr l q.1.toNat p := ⟨q, hq, by omega, hh.1⟩
   have hl := fL hok hA
   have := (ht _ hl.1).2 p hA
   have := ih q.1.toNat hl.1 (by omega)
   rw [this] at hh; simp at hh
 unfold circleB
 rw [List.any_eq_false]
 intro p hp
 rw [key n p (by simpa using hp) (by omega)]
 simp
def BadD (l : List (Int × Int)) (f : St → Nat → Bool × St) (m : Nat) : Prop := ∀ st a, a < 64 → (∀ i, st i ≤ 2) → whites 64 st < m → (∀ u, st u = 1 → Way l u a) → (f st a).1 = false → ∃ c, Way l c c
theorem dL {st st' : St} (h : ∀ i, st' i = 0 → st i = 0) : ∀ n, whites n st' ≤ whites n st
 | 0 => Nat.le_refl _
 | n + 1 => by
  have := dL h n
  unfold whites
  by_cases h2 : st' n = 0
  ·rw [if_pos h2, if_pos (h n h2)]; omega
  ·rw [if_neg h2]; omega
theorem Keeps.white {st st' : St} (h : Keeps st st') (h2 : ∀ i, st i ≤ 2) : ∀ i, st' i = 0 → st i = 0 := by
 intro i hi
 have h1 := h.1 i
 have h3 := h.2.1 i
 have := h2 i
 by_cases e0 : st i = 0
 ·exact e0
 ·by_cases e1 : st i = 1
  ·have := h1.2 e1; omega
  ·have := h3 (by omega); omega
theorem nC {l : List (Int × Int)} {nx : Nat → List Nat} {f : St → Nat → Bool × St} {m : Nat} (hg : GoodD nx 64 f) (hf : BadD l f m) (a : Nat) : ∀ (r : List Nat) (st : St), (∀ b ∈ r, b < 64 ∧ Arr l a b) → (∀ i, st i ≤ 2) → whites 64 st < m → (∀ u, st u = 1 → u = a ∨ Way l u a) → (dfsL f st r).1 = false → ∃ c, Way l c c
 | [], st, _, _, _, _, h => by simp [dfsL] at h
 | b :: r, st, hb, h2, hw, hu, h => by
  unfold dfsL at h
  have hba := hb b (by simp)
  by_cases hc : (f st b).1 = true
  ·rw [if_pos hc] at h
   obtain ⟨k, _, _⟩ := hg st b hba.1 h2 hc
   refine nC hg hf a r (f st b).2 (fun c hcr => hb c (by simp [hcr])) k.2.2 ?_ (fun u hu1 => hu u ((k.1 u).1 hu1)) h
   exact Nat.lt_of_le_of_lt (dL (k.white h2) 64) hw
  ·refine hf st b hba.1 h2 hw ?_ (by simpa using hc)
   intro u hu1
   rcases hu u hu1 with rfl | hw1
   ·exact Way.one hba.2
   ·exact Way.more hw1 hba.2
theorem oX {n : Nat} {l : List (Int × Int)} (hn : n ≤ 64) (hok : l.any (outB n) = false) : ∀ f, BadD l (dfs (nxF l) f) f
 | 0, st, a, _, _, hw, _, _ => by omega
 | f + 1, st, a, ha, h2, hw, hu, h => by
  unfold dfs at h
  by_cases hp : 0 < st a
  ·rw [if_pos hp] at h
   have e : st a ≠ 2 := by simpa using h
   have := h2 a
   exact ⟨a, hu a (by omega)⟩
  ·rw [if_neg hp] at h
   have h64 : ∀ a, ∀ b ∈ nxF l a, b < 64 := fun a b hb => by have := (fL hok ((dQ hok).1 hb)).2; omega
   by_cases hc : (dfsL (dfs (nxF l) f) (upd st a 1) (nxF l a)).1 = true
   ·rw [if_pos hc] at h; simp at h
   ·refine nC (dY h64 f) (oX hn hok f) a (nxF l a) (upd st a 1) (fun b hb => ⟨h64 a b hb, (dQ hok).1 hb⟩) ?_ ?_ ?_ (by simpa using hc)
    ·intro i; unfold upd; split; omega; exact h2 i
    ·have := zX a 1 st (by omega) (by omega) 64 ha; omega
    ·intro u hu1
     unfold upd at hu1
     by_cases hua : u = a
     ·exact Or.inl hua
     ·rw [if_neg hua] at hu1; exact Or.inr (hu u hu1)
theorem jR {n : Nat} {l : List (Int × Int)} (hn : n ≤ 64) (hok : l.any (outB n) = false) : ∀ (r : List Nat) (st : St), (∀ b ∈ r, b < 64) → (∀ i, st i ≤ 2) → (∀ u, st u ≠ 1) → (dfsL (dfs (nxF l) 65) st r).1 = false → ∃ c, Way l c c
 | [], st, _, _, _, h => by simp [dfsL] at h
 | b :: r, st, hb, h2, hu, h => by
  have h64 : ∀ a, ∀ b ∈ nxF l a, b < 64 := fun a b hb => by have := (fL hok ((dQ hok).1 hb)).2; omega
  unfold dfsL at h
  by_cases hc : (dfs (nxF l) 65 st b).1 = true
  ·rw [if_pos hc] at h
   obtain ⟨k, _, _⟩ := dY h64 65 st b (hb b (by simp)) h2 hc
   exact jR hn hok r _ (fun c hcr => hb c (by simp [hcr])) k.2.2 (fun u e => hu u ((k.1 u).1 e)) h
  ·have := cA st 64
   exact oX hn hok 65 st b (hb b (by simp)) h2 (by omega) (fun u e => absurd e (hu u)) (by simpa using hc)
theorem way_circle {n : Nat} {l : List (Int × Int)} (hok : l.any (outB n) = false) {c : Nat} (h : Way l c c) : circleB n l = true := by
 have keep1 : ∀ (g : Gone) (p : Nat), (∀ x, Way l c x → g x = false) → ∀ x, Way l c x → takeP l g p x = false := by
  intro g p hg x hx
  unfold takeP
  split
  ·exact hg x hx
  ·rename_i hl
   unfold updB
   by_cases hxp : x = p
   ·exfalso
    refine hl ?_
    subst hxp
    have hy : ∃ y, Arr l y x ∧ Way l c y := by
     cases hx with
     | one hA => exact ⟨c, hA, h⟩
     | more hw hA => exact ⟨_, hA, hw⟩
    obtain ⟨y, ⟨q, hq, h1, h2⟩, hy⟩ := hy
    unfold ledB
    rw [List.any_eq_true]
    refine ⟨q, hq, ?_⟩
    have e : q.1.toNat = y := by omega
    rw [e, hg y hy]
    simp [h2]
   ·rw [if_neg hxp]; exact hg x hx
 have keep2 : ∀ (k : Nat) (g : Gone), (∀ x, Way l c x → g x = false) → ∀ x, Way l c x → passTo l g k x = false := by
  intro k
  induction k with
  | zero => intro g hg; exact hg
  | succ k ih => intro g hg; rw [yR]; exact keep1 _ _ (ih g hg)
 have keep3 : ∀ r, ∀ x, Way l c x → roundsTo l n r x = false := by
  intro r
  induction r with
  | zero => intro x _; rfl
  | succ r ih => unfold roundsTo; exact keep2 _ _ ih
 unfold circleB
 rw [List.any_eq_true]
 have hlt : c < n := by
  cases h with
  | one hA => exact (fL hok hA).1
  | more _ hA => exact (fL hok hA).2
 exact ⟨c, by simpa using hlt, by rw [keep3 n c h]; rfl⟩
theorem acy_circle {n : Nat} {l : List (Int × Int)} (hn : n ≤ 64) (hok : l.any (outB n) = false) : acyB n l = !circleB n l := by
 cases h : acyB n l with
 | true =>
  obtain ⟨t, ht⟩ := acyB_rank hok h
  rw [rank_no_circle hok ht]; rfl
 | false =>
  obtain ⟨c, hc⟩ := jR hn hok (List.range n) (fun _ => 0) (by intro b hb; have := List.mem_range.1 hb; omega) (by simp) (by simp) h
  rw [way_circle hok hc]; rfl
open Go.RowKit Go.ChangeShapes Go.WideShapes Go.Deep
theorem jQ (n : Nat) (l : List (Int × Int)) (hn : n ≤ 64) (hok : l.any (outB n) = false) (hl : l.length ≤ 4096) : Pure E.P 40 [.int .i64 n, .d (pairsTV l)] (.bool (circleB n l)) := by
 refine kW ⟨_, Tryz.func40, by decide, rfl⟩ rfl fun G w vs hr hm => ?_
 rw [RepOL] at hr
 obtain ⟨v, us, rfl, r0, hr⟩ := hr
 rw [RepOL] at hr
 obtain ⟨v1, us1, rfl, r1, hr⟩ := hr
 rw [RepOL] at hr
 subst hr
 have e0 := vZ r0
 subst e0
 rw [RepO] at r1
 obtain ⟨s, rfl, hs⟩ := gY hm r1 (by omega)
 exact circle_c n s l w hs hn hok hl
theorem ledB_congr {l l' : List (Int × Int)} (h : ∀ p, p ∈ l ↔ p ∈ l') (g : Gone) (p : Nat) : ledB l g p = ledB l' g p := by
 unfold ledB
 rw [Bool.eq_iff_iff, List.any_eq_true, List.any_eq_true]
 exact ⟨fun ⟨q, h1, h2⟩ => ⟨q, (h q).1 h1, h2⟩, fun ⟨q, h1, h2⟩ => ⟨q, (h q).2 h1, h2⟩⟩
theorem circleB_congr {l l' : List (Int × Int)} (h : ∀ p, p ∈ l ↔ p ∈ l') (n : Nat) : circleB n l = circleB n l' := by
 have e1 : takeP l = takeP l' := by
  funext g p
  unfold takeP
  rw [ledB_congr h]
 have e2 : ∀ g k, passTo l g k = passTo l' g k := fun g k => by unfold passTo; rw [e1]
 have e3 : ∀ r, roundsTo l n r = roundsTo l' n r := fun r => by
  induction r with
  | zero => rfl
  | succ r ih => unfold roundsTo; rw [ih, e2]
 unfold circleB
 rw [e3]
set_option maxRecDepth 100000
def glob (x : Ex) (r1 r2 r3 r4 : Nat → Nat → Bool) (a b : Nat) : Bool := r1 a b || r2 a b || r3 a b || (r4 a b && !decide ((x.evs.getD a default).hart = (x.evs.getD b default).hart))
set_option maxHeartbeats 4000000 in
theorem rpairs6_p (x : Ex) (hx : x.evs.length ≤ 4096) (r1 r2 r3 r4 : Nat → Nat → Bool) (hp1 : ∀ a b : Nat, a < x.evs.length → b < x.evs.length → Pure E.P 47 [exOV x, .int .i64 a, .int .i64 b] (.bool (r1 a b))) (hp2 : ∀ a b : Nat, a < x.evs.length → b < x.evs.length → Pure E.P 42 [exOV x, .int .i64 a, .int .i64 b] (.bool (r2 a b))) (hp3 : ∀ a b : Nat, a < x.evs.length → b < x.evs.length → Pure E.P 46 [exOV x, .int .i64 a, .int .i64 b] (.bool (r3 a b))) (hp4 : ∀ a b : Nat, a < x.evs.length → b < x.evs.length → Pure E.P 45 [exOV x, .int .i64 a, .int .i64 b] (.bool (r4 a b))) : Pure E.P 24 [exOV x, .int .i64 6] (.d (pairsTV (refPairs x.evs.length (glob x r1 r2 r3 r4)))) := by
 have f2 : Frozen 2 := ⟨trivial⟩
 have hsq : x.evs.length * x.evs.length ≤ 16777216 := Nat.mul_le_mul hx hx
 refine fnA Tryz.func24 Tryz.ntmps24 ?_
 refine uB (aoR fun _ => ?_)
 refine q34 ?_; refine q51 (uC (uA (uB (aoR fun _ => ?_))))
 refine q51 (uC (uA (uB (aoR fun _ => ?_))))
 refine q32 ?_; refine q23 ?_; refine q13 ?_; refine q12 (uC (uA ?_))
 iterate 2 refine uB ?_
 refine aoR fun _ => ?_; refine q12 (uC (uA (uF ?_)))
 rotate_left
 rename_i v5 _ _
 refine uZ (X := Nat × Stamp × List (Int × Int)) (fun p => tmL [(1, .int .i64 6), (2, .d (.pt (exRow x) 0)), (5, .os 5 p.2.1 2 p.2.2.length), (6, .int .i64 x.evs.length), (7, .int .i64 p.1)]) (fun p => stL [(5, (p.2.1, ⟨2, p.2.2.map pairO'⟩))])
  (fun p => p.1 ≤ x.evs.length ∧ p.2.2 = prTo x.evs.length (glob x r1 r2 r3 r4) p.1) (fun p => x.evs.length - p.1) (0, (v5, 0), []) ⟨Nat.zero_le _, rfl⟩ (by repeat' (first | exact vP _ | exact vM _ | refine uL rfl ?_ | refine vF rfl ?_ | (refine uV rfl ?_ ?_; (simp)) | (refine uN rfl ?_ ?_; (simp)) | (refine vA rfl ?_ ?_; (simp)))) leP ?_
 rintro ⟨a, τ, l⟩ ⟨hk, hl⟩
 dsimp only at hk hl ⊢
 by_cases hlt : a < x.evs.length
 ·iterate 2 refine uB ?_
  refine aoR fun _ => ?_
  iterate 2 refine q11 ?_
  refine q37 (uC (uA ?_)); refine cnd ?_ ?_
  refine uI fun _ => ?_; try (exfalso; omega)
  refine uG (uA (uB (uF (uB (aoR fun _ => ?_)))))
  refine q12 (uC (uA (uF ?_))); rotate_left
  refine uJ fun _ => ?_; try (exfalso; omega)
  refine uZ (X := Nat × Stamp × List (Int × Int)) (fun p => tmL [(1, .int .i64 6), (2, .d (.pt (exRow x) 0)), (5, .os 5 p.2.1 2 p.2.2.length), (6, .int .i64 x.evs.length), (7, .int .i64 a), (8, .int .i64 p.1)]) (fun p => stL [(5, (p.2.1, ⟨2, p.2.2.map pairO'⟩))])
   (fun p => p.1 ≤ x.evs.length ∧ p.2.2 = l ++ prRow (glob x r1 r2 r3 r4) a p.1) (fun p => x.evs.length - p.1) (0, τ, l) ⟨Nat.zero_le _, by simp [prRow]⟩ leP leP ?_
  rintro ⟨b, τ2, l2⟩ ⟨hk2, hl2⟩
  dsimp only at hk2 hl2 ⊢
  have hlen : l2.length ≤ 16777216 + 4096 := by
   rw [hl2, List.length_append, hl]
   have h1 := wJ x.evs.length (glob x r1 r2 r3 r4) a
   have h2 := zF (glob x r1 r2 r3 r4) a b
   have h3 : a * x.evs.length ≤ x.evs.length * x.evs.length := Nat.mul_le_mul hk (Nat.le_refl _)
   omega
  by_cases hlt2 : b < x.evs.length
  ·have u1 := hp1 a b hlt hlt2
   have u2 := hp2 a b hlt hlt2
   have u3 := hp3 a b hlt hlt2
   have u4 := hp4 a b hlt hlt2
   iterate 2 refine uB ?_
   refine aoR fun _ => ?_
   iterate 2 refine q11 ?_
   refine q37 (uC (uA ?_)); refine cnd ?_ ?_
   refine uI fun _ => ?_; try (exfalso; omega)
   refine uG (uA (uB (uF (uB (aoR fun _ => ?_)))))
   refine q12 (uC (uA ?_))
   iterate 2 refine uB ?_
   refine aoR fun _ => ?_
   refine q11 (uC (uA (uF (uB (aoR fun _ => ?_)))))
   refine q46 ?_; refine q12 (uC (uA ?_)); refine cnd ?_ ?_
   refine uI fun _ => ?_; try (exfalso; omega)
   refine uJ fun _ => ?_; try (exfalso; omega)
   refine uB (aoR fun _ => ?_)
   refine q46 ?_; refine q12 (uC (uA ?_)); refine cnd ?_ ?_
   refine uI fun _ => ?_; try (exfalso; omega)
   refine uJ fun _ => ?_; try (exfalso; omega)
   refine uB (aoR fun _ => ?_)
   refine q46 ?_; refine q12 (uC (uA ?_)); refine cnd ?_ ?_
   refine uI fun _ => ?_; try (exfalso; omega)
   refine uJ fun _ => ?_; try (exfalso; omega)
   refine uB (aoR fun _ => ?_)
   refine q46 ?_; refine q12 (uC (uA ?_)); refine cnd ?_ ?_
   refine uI fun _ => ?_; try (exfalso; omega)
   refine uJ fun _ => ?_; try (exfalso; omega)
   refine uB (aoR fun _ => ?_)
   refine q46 ?_; refine q12 (uC (uA ?_)); refine cnd ?_ ?_
   refine uI fun _ => ?_; try (exfalso; omega)
   refine uJ fun _ => ?_; try (exfalso; omega)
   refine uB (aoR fun _ => ?_)
   refine q46 ?_; refine q12 (uC (uA ?_)); refine cnd ?_ ?_
   refine uI fun _ => ?_; try (exfalso; omega)
   refine vE (E := E) ?_ (fun _ => ?_); exact rfl
   apply vT; exact rfl; exact rfl; exact rfl; exact Nat.le_of_ble_eq_true rfl
   iterate 2 refine q38 ?_
   apply wS; exact rfl; exact .fn _ _ _; exact rfl; (exact u1)
   refine q38 ?_
   apply dpF; exact rfl
   intro hc_; refine q47
   apply dpF; exact rfl
   intro hc_; refine q1
   apply dpF; exact rfl
   intro hc_; refine q1
   apply dpF; exact rfl
   intro hc_
   have hp_ := hc_; try simp only [nrm] at hp_
   apply vK; (exact EvM.plain rfl rfl); exact .fn _ _ _; exact wB; (exact u2)
   refine q25 ?_; refine q38 ?_
   apply dpF; exact rfl
   intro hc_; refine q47
   apply dpF; exact rfl
   intro hc_; refine q1
   apply dpF; exact rfl
   intro hc_; refine q1
   apply dpF; exact rfl
   intro hc_
   have hp_ := hc_; try simp only [nrm] at hp_
   apply vK; (exact EvM.plain rfl rfl); exact .fn _ _ _; exact wB; (exact u3)
   refine q25 ?_; refine q38 ?_
   apply dpF; exact rfl
   intro hc_; refine q47
   apply dpF; exact rfl
   intro hc_; refine q1
   apply dpF; exact rfl
   intro hc_; refine q1
   apply dpF; exact rfl
   intro hc_
   have hp_ := hc_; try simp only [nrm] at hp_
   apply vK; (exact EvM.plain rfl rfl); exact .fn _ _ _; exact wB; (exact u4)
   apply dpF; exact rfl
   intro hc_; refine q1
   apply vD; exact rfl; exact rfl
   intro hc_; refine q8
   apply vD; exact rfl; exact rfl
   intro hc_; refine q6
   apply vD; exact rfl; exact rfl
   intro hc_; refine q1
   apply vD; exact rfl; exact rfl
   intro hc_
   have hp_ := hc_; try simp only [nrm] at hp_
   refine q5
   apply vD; exact rfl; exact rfl
   intro hc_; refine q8
   apply vD; exact rfl; exact rfl
   intro hc_; refine q6
   apply vD; exact rfl; exact rfl
   intro hc_; refine q8
   apply vD; exact rfl; exact rfl
   intro hc_; refine q6
   apply vD; exact rfl; exact rfl
   intro hc_; refine q1
   apply vD; exact rfl; exact rfl
   intro hc_
   have hp_ := hc_; try simp only [nrm] at hp_
   refine q5
   apply vD; exact rfl; exact rfl
   intro hc_; refine q8
   apply vD; exact rfl; exact rfl
   intro hc_; refine q6
   apply vD; exact rfl; exact rfl
   intro hc_; refine q26
   apply dpF; exact rfl
   intro hc_; refine q10; refine q25 ?_
   apply wF; exact rfl
   refine vV ?_ ?_; (first | ((try dsimp only [wkeys]); decide +kernel) | exact rfl)
   refine vI ?_; refine uA (uB (aoR fun _ => ?_))
   refine q11 (uC (uA ?_)); refine cnd ?_ ?_
   refine xL (fun hc_ => ?_); (try simp only [nrm] at hc_)
   refine aoR fun _ => ?_
   iterate 3 refine q11 ?_
   refine q54 ?_
   apply wC; exact rfl; exact rfl; exact rfl; decide; decide; decide; exact rfl; exact rfl
   refine q19 ?_
   apply xF; exact rfl; exact rfl
   refine uC ?_; refine vI ?_; refine uA (aoR fun _ => ?_)
   refine q11 ?_; refine q36 ?_; refine q12 (uC (uA ?_)); rotate_left
   iterate 3 refine xM ?_
   iterate 3 (refine cR (fun _ => ?_))
   refine xE (fun hc_ => ?_); (try simp only [nrm] at hc_)
   refine uG ?_; refine vI ?_; refine uA (aoR fun _ => ?_)
   refine q11 ?_; refine q36 ?_; refine q12 (uC (uA ?_)); rotate_left
   iterate 2 refine uJ fun _ => ?_; try (exfalso; omega)
   ·rename_i v24 _
    have hy : glob x r1 r2 r3 r4 a b = true := by
     unfold glob
     simp only [Int.toNat_natCast] at hc_
     simp only [Bool.or_eq_true, Bool.and_eq_true, Bool.not_eq_true', decide_eq_false_iff_not]
     rcases hc_ with ((h9 | h9) | h9) | h9
     ·exact Or.inl (Or.inl (Or.inl h9))
     ·exact Or.inl (Or.inl (Or.inr h9))
     ·exact Or.inl (Or.inr h9)
     ·exact Or.inr h9
    exact vJ (b + 1, (v24, 6), l2 ++ [((a : Int), (b : Int))]) ⟨by dsimp only; omega, by dsimp only; rw [hl2, aH hy, List.append_assoc]⟩ (by dsimp only; omega) (by repeat' (first | exact vP _ | exact vM _ | refine uL rfl ?_ | refine vF rfl ?_ | (refine uV rfl ?_ ?_; (simp <;> rfl)) | (refine uN rfl ?_ ?_; (simp <;> rfl)) | (refine vA rfl ?_ ?_; (simp <;> rfl)))) (by repeat' (first | exact vP _ | exact vM _ | refine uL rfl ?_ | refine vF rfl ?_ | (refine uV rfl ?_ ?_; (simp <;> rfl)) | (refine uN rfl ?_ ?_; (simp <;> rfl)) | (refine vA rfl ?_ ?_; (simp <;> rfl))))
   ·rename_i n1 n2 n3 _
    have hy : glob x r1 r2 r3 r4 a b = false := by
     unfold glob
     simp only [Int.toNat_natCast] at hc_
     rw [n1, n2, n3]
     rcases hc_ with h9 | h9
     ·rw [h9]; rfl
     ·rw [decide_eq_true h9]; simp
    exact vJ (b + 1, τ2, l2) ⟨by dsimp only; omega, by dsimp only; rw [hl2, bQ (by rw [hy]; decide)]⟩ (by dsimp only; omega) leP leP
  ·have hb : b = x.evs.length := by omega
   subst hb
   iterate 2 refine uB ?_
   refine aoR fun _ => ?_
   iterate 2 refine q11 ?_
   refine q37 (uC (uA ?_)); refine cnd ?_ ?_
   refine uI fun _ => ?_; try (exfalso; omega)
   refine uJ fun _ => ?_; try (exfalso; omega)
   refine uO ?_
   iterate 2 refine vH ?_
   refine vR ?_; refine vI ?_; refine uA (aoR fun _ => ?_)
   refine q11 ?_; refine q36 ?_; refine q12 (uC (uA ?_)); rotate_left
   exact vJ (a + 1, τ2, l2) ⟨by dsimp only; omega, by dsimp only; rw [hl2, zE, hl]⟩ (by dsimp only; omega) leP leP
 ·have f5 : Frozen 5 := ⟨trivial⟩
  have hfz := xG
  iterate 2 refine uB ?_
  refine aoR fun _ => ?_
  iterate 2 refine q11 ?_
  refine q37 (uC (uA ?_)); refine cnd ?_ ?_
  refine uI fun _ => ?_; try (exfalso; omega)
  refine uJ fun _ => ?_; try (exfalso; omega)
  refine uO ?_
  iterate 2 refine vH ?_
  refine vR ?_; refine uA (uB (aoR fun _ => ?_))
  refine q41 ?_; refine q12 (uC (uA ?_)); refine uH ?_; rotate_left
  refine aS rfl ?_
  have ha : a = x.evs.length := by omega
  rw [hl, ha]; rfl
def globB (x : Ex) : Nat → Nat → Bool := glob x (isPpo x) (isCoB x) (isFrB x) (isRf x)
def gloL (x : Ex) : List (Int × Int) := refPairs x.evs.length (globB x)
theorem rGlo_p {x : Ex} (h : x.rel) (hk : x.rok) : Pure E.P 24 [exOV x, .int .i64 6] (.d (pairsTV (gloL x))) :=
 rpairs6_p x (by have := h.len; omega) (isPpo x) (isCoB x) (isFrB x) (isRf x) (fun a b ha hb => rppo_p x hk a b ha hb)
  (fun a b ha hb => aN x (by have := h.len; omega) h.ord h.rows a b ha hb)
  (fun a b ha hb => oM x (by have := h.len; omega) h.ord h.rows h.from_ h.src a b ha hb)
  (fun a b ha hb => oL x (by have := h.len; omega) h.from_ a b ha hb)
theorem mW (x : Ex) : (gloL x).any (outB x.evs.length) = false := by
 rw [List.any_eq_false]
 intro p hp
 obtain ⟨a, b, h1, h2, _, rfl⟩ := vN.1 hp
 unfold outB
 simp only [Bool.or_eq_true, decide_eq_true_eq]
 omega
theorem mX {x : Ex} (h : x.rel) : (gloL x).length ≤ 4096 := Nat.le_trans (wJ x.evs.length (globB x) x.evs.length) (Nat.mul_le_mul h.len h.len)
set_option maxHeartbeats 4000000 in
theorem rordered_p (x : Ex) (hx : x.rel) (hk : x.rok) : Pure E.P 19 [exOV x] (.bool (!circleB x.evs.length (gloL x))) := by
 have h1 := rGlo_p hx hk
 have hl := hx.len
 have hC := jQ x.evs.length (gloL x) hl (mW x) (mX hx)
 refine fnA Tryz.func19 Tryz.ntmps19 ?_
 refine uB (aoR fun _ => ?_)
 refine q40 ?_; refine q12 (uC (uA (uB ?_)))
 refine vE (E := E) ?_ (fun _ => ?_); exact rfl
 refine q56 ?_
 apply wG; exact rfl; exact rfl; exact rfl; exact rfl; (first | exact rfl | exact uW (by omega) (0 : Int) | exact uW (by omega) default | exact hrow _ | assumption); exact rfl
 refine q59 ?_; refine q57 ?_
 apply wS; exact rfl; exact .fn _ _ _; exact rfl; (exact h1)
 apply wS; exact rfl; exact .fn _ _ _; exact rfl; (exact hC)
 apply qK; exact rfl
 apply wF; exact rfl
 refine vV ?_ ?_; (first | ((try dsimp only [wkeys]); decide +kernel) | exact rfl)
 refine uA ?_; refine uH ?_; rotate_left
 exact vB rfl rfl
set_option maxRecDepth 100000
open Go.RowKit Go.Maps
def JA (L : List (Int × Int)) (i nn : Nat) (D : DataW Unit) : Prop := nn ≤ i ∧ ∀ kl, has D kl = true ↔ ∃ p ∈ L.take i, kl = kpL p
noncomputable abbrev YA (L : List (Int × Int)) (g : Gh) (b : Nat) : YJ := mapY E.P 73 3 g b (JA L)
theorem JA.start (L : List (Int × Int)) : JA L 0 0 (.map []) := ⟨Nat.le_refl _, fun kl => by simp [Maps.has]⟩
theorem JA.step {L : List (Int × Int)} {i nn : Nat} {D : DataW Unit} (hm : IsMap D) (h : JA L i nn D) (hi : i < L.length) (d : DataW Unit) : JA L (i + 1) (nn + 1) (D.put (kpL (L.getD i default)) d) := by
 refine ⟨by have := h.1; omega, fun kl => ?_⟩
 rw [wU L default i hi]
 by_cases e : kl = kpL (L.getD i default)
 ·subst e
  rw [has_put_same hm (show WideAt.IsKeyLit (kpL _) from trivial)]
  simp
 ·rw [has_put_other e, h.2 kl]
  constructor
  ·rintro ⟨p, h1, h2⟩; exact ⟨p, by simp [h1], h2⟩
  ·rintro ⟨p, h1, h2⟩
   rcases List.mem_append.1 h1 with h1 | h1
   ·exact ⟨p, h1, h2⟩
   ·simp only [List.mem_singleton] at h1
    subst h1
    exact (e h2).elim
theorem lT {a : Int} (h1 : 0 ≤ a) (h2 : a < 65536) : (Lit.int .i64 a).wf = true := by
 simp only [Lit.wf, IntKind.min, IntKind.max, IntKind.signed, IntKind.bits, Bool.and_eq_true, decide_eq_true_eq, if_true]
 omega
theorem mL {p : Int × Int} (h1 : 0 ≤ p.1) (h2 : p.1 < 65536) (h3 : 0 ≤ p.2) (h4 : p.2 < 65536) : IsKeyV E.P 73 (.ag ((pairTV p).map .d)) (kpL p) := fun G u hu => by
 rw [RepO] at hu
 obtain ⟨vs, rfl, h⟩ := hu
 unfold pairTV at h
 simp only [List.map_cons, List.map_nil] at h
 rw [RepOL] at h
 obtain ⟨v1, us, e1, q1, h⟩ := h
 rw [RepOL] at h
 obtain ⟨v2, us2, e2, q2, h⟩ := h
 rw [RepOL] at h
 subst h e2
 rw [vZ q1, vZ q2] at e1
 have : vs = #[.int .i64 p.1, .int .i64 p.2] := by rw [← Array.toList_inj, e1]
 rw [this]
 exact oU (lT h1 h2) (lT h3 h4)
theorem pJ (w : World) : (zeroValue 3).run E.P w = .ok (.int .i64 0) w := by kernel_rfl
set_option maxHeartbeats 4000000 in
theorem pY (L l : List (Int × Int)) (hsm : smallP L) (hL : L.length ≤ 65536) (i : Nat) (hl : ∀ j, j < l.length → L.getD (i + j) default = l.getD j default) (hil : i + l.length ≤ L.length) (g : Gh) (b : Nat) :
  FnY E.P 64 [.d (pairsTV l), .d (.pt [.c (.map (some b))] 0)] (YA L g b) i (i + l.length) [] (· = []) := by
 have f4 : Frozen 4 := ⟨trivial⟩
 refine yN Tryz.func64 (by decide) rfl Tryz.ntmps64 (Nat.le_of_ble_eq_true rfl) rfl ?_
 refine uB (aoR fun _ => ?_)
 refine q11 ?_; refine q13 ?_; refine q11 (uC (uA (uF ?_))); rotate_left
 refine uZ (X := Nat) (fun k => tmL [(1, .d (.pt [.c (.map (some b))] 0)), (5, .d (pairsTV l)), (6, .int .i64 l.length), (7, .int .i64 k), (GS, .gh (i + k) (YA L g b))]) (fun _ => stL []) (fun k => k ≤ l.length) (fun k => l.length - k) 0 (Nat.zero_le _) leP leP ?_
 intro k hk
 by_cases hlt : k < l.length
 ·have hm : L.getD (i + k) default ∈ L := by
   rw [List.getD_eq_getElem?_getD, List.getElem?_eq_getElem (by omega)]; exact List.getElem_mem _
  have hp := hsm _ hm
  have he := hl k hlt
  have hkey : IsKeyV E.P 73 (.ag ((pairTV (l.getD k default)).map .d)) (kpL (L.getD (i + k) default)) := by
   rw [← he]; exact mL hp.1 hp.2.1 hp.2.2.1 hp.2.2.2
  refine uB (aoR fun _ => ?_)
  refine q37 (uC (uA (uB ?_))); refine cnd ?_ ?_
  refine uI fun _ => ?_; try (exfalso; omega)
  refine uG (uA (uB (uF (uB (aoR fun _ => ?_)))))
  refine q17 ?_; refine q33 ?_
  apply vQ; exact rfl
  refine q43 (uC (uA ?_))
  refine oZ (d := 11) (KT := 73) (IT := 3) kX Tryz.underlying92 Tryz.underlying3 pJ rfl rfl rfl rfl rfl (by decide) (by decide) (by decide) rfl rfl hkey rfl (fun nn D c hm hJ => ⟨by have := hJ.1; unfold maxLen; omega, hJ.step hm (by omega) _⟩) ?_
  refine vI ?_; refine uA (aoR fun _ => ?_)
  refine q36 ?_; refine q11 (uC (uA ?_)); rotate_left
  refine uJ fun _ => ?_; try (exfalso; omega)
  exact vJ (k + 1) (by omega) (by omega) leP leP
 ·refine uB (aoR fun _ => ?_)
  refine q37 (uC (uA (uB ?_))); refine cnd ?_ ?_
  refine uI fun _ => ?_; try (exfalso; omega)
  refine uJ fun _ => ?_; try (exfalso; omega)
  refine uO ?_
  iterate 2 refine vH ?_
  refine vR ?_; rotate_left
  have e : k = l.length := by omega
  subst e
  exact ⟨Or.inl rfl, rfl, [], rfl, vM _⟩
theorem enters_keysP : ∀ args w, (callFunc 96 args).run Tryz.prog w = .ok (.enter 96 args) w := enters_of Tryz.func96 (by kernel_rfl) rfl
theorem sortedKeys_m (L : List (Int × Int)) (hL : L.length ≤ 65536) (n : Nat) (f : Nat → Nat → Bool) (hn : n ≤ 65536) (hm : ∀ p, p ∈ L ↔ p ∈ refPairs n f) (g : Gh) (b : Nat) :
  FnM E.P 66 [.fn 96 [] [.d (.pt [.c (.map (some b))] 0)], .fn 68 [] []] ((YA L g b).J L.length) (fun r' _ => r' = .d (pairsTV (refPairs n f))) := by
 refine ⟨⟨_, Tryz.func66, by decide, rfl⟩, fun G w vs N hJ hv hw => ?_⟩
 obtain ⟨nn, D, ⟨hnn, hD⟩, hown⟩ := hJ
 rw [List.take_length] at hD
 rw [RepOL] at hv
 obtain ⟨x1, us, rfl, h1, hv⟩ := hv
 rw [RepOL] at hv
 obtain ⟨x2, us, rfl, h2, hv⟩ := hv
 rw [RepOL] at hv
 subst hv
 rw [RepO] at h2
 obtain ⟨f1, f2, rfl, hf1, hf2⟩ := h2
 rw [RepOL] at hf1 hf2
 have hf1 : f1 = #[] := Array.toList_eq_nil_iff.1 hf1
 have hf2 : f2 = #[] := Array.toList_eq_nil_iff.1 hf2
 subst hf1 hf2
 rw [RepO] at h1
 obtain ⟨v1, u1, rfl, hv1, hu1⟩ := h1
 rw [RepOL] at hv1
 have hv1 : v1 = #[] := Array.toList_eq_nil_iff.1 hv1
 subst hv1
 rw [RepOL] at hu1
 obtain ⟨pv, us, e1, hp, hu1⟩ := hu1
 rw [RepOL] at hu1
 subst hu1
 have e1 : u1 = #[pv] := by rw [← Array.toList_inj, e1]
 subst e1
 rw [RepO, Rep] at hp
 obtain ⟨Bm, of, rfl, hc⟩ := hp
 rw [RepC] at hc
 obtain ⟨⟨mv, hM, hmv⟩, _⟩ := hc
 rw [Rep] at hmv
 obtain ⟨rfl, _⟩ := hmv
 rw [Nat.add_zero]
 have hcell := hw.mem _ _ _ hM
 have hBm : Bm < w.heap.size := (zV hcell).2
 have hsm : ∀ kl, has D kl = true → ∃ x : P2, kl = kp x := fun kl hk => by
  obtain ⟨p, hp, rfl⟩ := (hD kl).1 hk
  obtain ⟨a, c, ha, hc, _, rfl⟩ := vN.1 ((hm p).1 hp)
  exact ⟨(⟨a, by omega⟩, ⟨c, by omega⟩), rfl⟩
 have hsize : Maps.size D ≤ 65536 := by have := hown.size_le; omega
 have hcall := callsIn_wide.1 (sortedFuncA_p 4 (by omega) _ #[.pointer (some ⟨Bm, of, none⟩)] enters_keysP KeepsWalks (KeysP D) (fun _ => True) (Maps.size D) (by omega) w walksK_t walksK_b (fun _ _ h _ => h.walks) (keysP_stops Fence.wide (fun _ => trivial) 1 rfl (by omega) Bm of b nn D hsm w hBm hcell hown))
 refine hcall.mono ?_
 rintro e w' ⟨v, ss, rfl, ⟨hnd, hk1, hk2⟩, _, hrow, hb⟩
 have hlist : (sortP ss).map toI = refPairs n f := by
  rw [eR]
  refine bG ?_ fun p => ?_
  ·refine List.pairwise_map.2 (hnd.imp fun {a c} h e => h ?_)
   unfold toI at e
   simp only [Prod.mk.injEq] at e
   exact Prod.ext (Fin.ext (by omega)) (Fin.ext (by omega))
  ·rw [← hm]
   constructor
   ·intro hp
    obtain ⟨x, hx, rfl⟩ := List.mem_map.1 hp
    obtain ⟨q, hq, e⟩ := (hD _).1 (hk1 x hx)
    obtain ⟨a, c, ha, hc, _, rfl⟩ := vN.1 ((hm q).1 hq)
    have : x = (⟨a, by omega⟩, ⟨c, by omega⟩) := nX e
    subst this
    exact hq
   ·intro hp
    obtain ⟨a, c, ha, hc, _, rfl⟩ := vN.1 ((hm p).1 hp)
    obtain ⟨x, hx, e⟩ := hk2 _ ((hD _).2 ⟨_, hp, rfl⟩)
    have : (⟨a, by omega⟩, ⟨c, by omega⟩) = x := nX e
    exact List.mem_map.2 ⟨x, hx, by rw [← this]; rfl⟩
 have hw1 := hw.below hb
 have hlen : (sortP ss).length = (refPairs n f).length := by rw [← hlist, List.length_map]
 rcases hrow.2 with ⟨rfl, hz⟩ | ⟨gb, cap, cur, rfl, hbase, hgb, r1, r2, r3, r4⟩
 ·refine ⟨_, G, _, Store.nil, rfl, rfl, .refl G, ?_, hw1⟩
  have : refPairs n f = [] := List.eq_nil_of_length_eq_zero (by omega)
  rw [RepO, this]
  unfold pairsTV
  rw [Rep]
  exact ⟨none, 0, rfl, Nat.le_refl _, Or.inl rfl⟩
 ·have hle : G.M.le (G.M.add gb cur) := fun b' o x hx => by
   have hlt := hw.mem_lt hx
   unfold Mem.add
   rw [if_neg (by omega)]
   exact hx
  have hcl : ∀ o x, cur[o]? = some x → w'.cell? ⟨gb, o, none⟩ = some x := fun o x hx => by
   simp [World.cell?, hgb, hx]
  refine ⟨_, ⟨G.M.add gb cur, G.μ⟩, _, Store.nil, rfl, rfl, ⟨hle, fun _ _ _ h => h⟩, ?_, hw1.grow hle (fun b' o x hx => ?_) (fun k τ r β o h => by cases h) (fun b' o x hx => ?_)⟩
  ·rw [RepO]
   unfold pairsTV
   rw [Rep]
   have hl2 : ((refPairs n f).map pairTV).length = (sortP ss).length := by rw [List.length_map, hlen]
   refine ⟨some ⟨gb, 0, none⟩, cap, by rw [hl2], by rw [hl2]; exact r1, Or.inr ⟨gb, 0, rfl, RepR.of_get fun i r hr => ?_⟩⟩
   rw [← hlist, List.map_map, List.getElem?_map] at hr
   obtain ⟨x, hx, rfl⟩ := Option.map_eq_some_iff.1 hr
   refine ⟨rfl, RepC.of_get fun o t ht => ?_⟩
   have hi : i < (sortP ss).length := (List.getElem?_eq_some_iff.1 hx).1
   have hxd : (sortP ss).getD i default = x := by rw [List.getD_eq_getElem?_getD, hx]; rfl
   have get : ∀ j, j < (sortP ss).length * 2 → cur[j]? = some ((encP ((sortP ss).getD (j / 2) default))[j % 2]!) := fun j hj => by
    rw [← aI _ j hj, ← r4, List.getElem?_take_of_lt hj, Array.getElem?_toList]
   have e0 := get (i * 2) (by omega)
   have e1 := get (i * 2 + 1) (by omega)
   rw [show i * 2 / 2 = i by omega, show i * 2 % 2 = 0 by omega, hxd] at e0
   rw [show (i * 2 + 1) / 2 = i by omega, show (i * 2 + 1) % 2 = 1 by omega, hxd] at e1
   have hM' : ∀ j x, cur[j]? = some x → (G.M.add gb cur) gb (0 + j) = some x := fun j x h => by
    unfold Mem.add; rw [if_pos rfl, Nat.zero_add]; exact h
   match o, ht with
   | 0, ht =>
    simp [pairTV, toI] at ht; subst ht
    exact ⟨_, hM' _ _ e0, by rw [Rep]; exact ⟨rfl, rfl⟩⟩
   | 1, ht =>
    simp [pairTV, toI] at ht; subst ht
    exact ⟨_, hM' _ _ e1, by rw [Rep]; exact ⟨rfl, rfl⟩⟩
  ·unfold Mem.add at hx
   split at hx
   ·rename_i e; subst e; exact hcl o x hx
   ·exact hw1.mem b' o x hx
  ·unfold Mem.add at hx
   split at hx
   ·rename_i e; subst e; exact Or.inr (Or.inl hbase)
   ·exact Or.inl hx
def hneB (x : Ex) (p : Int × Int) : Bool := !decide ((x.evs.getD p.1.toNat default).hart = (x.evs.getD p.2.toNat default).hart)
def arrL (x : Ex) : List (Int × Int) := ppoL x ++ coF x ++ frF x ++ (rfF x).filter (hneB x)
theorem sq_le {n : Nat} (h : n ≤ 64) : n * n ≤ 4096 := Nat.mul_le_mul h h
section
variable {x : Ex} (hx : x.rel)
include hx
theorem lH : (ppoL x).length ≤ 4096 ∧ (coF x).length ≤ 4096 ∧ (frF x).length ≤ 4096 ∧ (rfF x).length ≤ 4096 := by
 have h := sq_le hx.len
 have h1 := (show (refPairs _ _).length ≤ _ from wJ x.evs.length (isPpo x) x.evs.length)
 have h2 := (show (refPairs _ _).length ≤ _ from wJ x.evs.length (isCoB x) x.evs.length)
 have h3 := (show (refPairs _ _).length ≤ _ from wJ x.evs.length (isFrB x) x.evs.length)
 have h4 := (show (refPairs _ _).length ≤ _ from wJ x.evs.length (isRf x) x.evs.length)
 rw [gK hx, gI hx, bL hx.check]
 unfold ppoL
 omega
theorem arrL_len : (arrL x).length ≤ 65536 := by
 obtain ⟨h1, h2, h3, h4⟩ := lH hx
 have h5 := List.length_filter_le (hneB x) (rfF x)
 unfold arrL
 simp only [List.length_append]
 omega
theorem mP (p : Int × Int) : p ∈ arrL x ↔ p ∈ gloL x := by
 unfold arrL gloL ppoL
 rw [gK hx, gI hx, bL hx.check]
 simp only [List.mem_append, List.mem_filter, vN]
 constructor
 ·rintro (((⟨a, b, h1, h2, h3, rfl⟩ | ⟨a, b, h1, h2, h3, rfl⟩) | ⟨a, b, h1, h2, h3, rfl⟩) | ⟨⟨a, b, h1, h2, h3, rfl⟩, h4⟩) <;> refine ⟨a, b, h1, h2, ?_, rfl⟩ <;> unfold globB glob
  ·rw [h3]; rfl
  ·rw [h3]; simp
  ·rw [h3]; simp
  ·unfold hneB at h4
   simp only [Int.toNat_natCast] at h4
   rw [h3, h4]; simp
 ·rintro ⟨a, b, h1, h2, h3, rfl⟩
  unfold globB glob at h3
  simp only [Bool.or_eq_true, Bool.and_eq_true] at h3
  rcases h3 with ((h3 | h3) | h3) | ⟨h3, h4⟩
  ·exact Or.inl (Or.inl (Or.inl ⟨a, b, h1, h2, h3, rfl⟩))
  ·exact Or.inl (Or.inl (Or.inr ⟨a, b, h1, h2, h3, rfl⟩))
  ·exact Or.inl (Or.inr ⟨a, b, h1, h2, h3, rfl⟩)
  ·exact Or.inr ⟨⟨a, b, h1, h2, h3, rfl⟩, by unfold hneB; simpa using h4⟩
theorem arrL_small : smallP (arrL x) := fun p hp => by
 obtain ⟨a, b, h1, h2, _, rfl⟩ := vN.1 ((mP hx p).1 hp)
 have := hx.len
 dsimp only
 omega
end
theorem dA {L1 L2 : List (Int × Int)} {j : Nat} (h : j < L1.length) : (L1 ++ L2).getD j default = L1.getD j default := by
 rw [List.getD_eq_getElem?_getD, List.getElem?_append_left h, ← List.getD_eq_getElem?_getD]
theorem yM (L1 L2 : List (Int × Int)) (j : Nat) : (L1 ++ L2).getD (L1.length + j) default = L2.getD j default := by
 rw [List.getD_eq_getElem?_getD, List.getElem?_append_right (by omega), ← List.getD_eq_getElem?_getD]
 congr 1; omega
theorem bV {α : Type} (d : α) (f : α → Bool) : ∀ (l : List α) (k : Nat), k < l.length → f (l.getD k d) = true → (l.filter f).getD ((l.take k).filter f).length d = l.getD k d ∧ ((l.take k).filter f).length < (l.filter f).length
 | [], k, h, _ => by simp at h
 | a :: l, 0, _, h => by
  have h : f a = true := h
  simp [h]
 | a :: l, k + 1, hk, h => by
  obtain ⟨h1, h2⟩ := bV d f l k (by simpa using hk) (by simpa using h)
  cases ha : f a with
  | false => simp only [List.take_succ_cons, List.filter_cons, ha, Bool.false_eq_true, if_false, List.getD_cons_succ]; exact ⟨h1, h2⟩
  | true => simp only [List.take_succ_cons, List.filter_cons, ha, if_true, List.length_cons, List.getD_cons_succ]; exact ⟨h1, by omega⟩
theorem keysP_p (v : Value) (hv : v.oneCell' = true) : Pure E.P 67 [.d (.c v)] (.fn 96 [] [.d (.pt [.c v] 0)]) := by
 have f1 : Frozen 1 := ⟨trivial⟩
 refine fnA Tryz.func67 Tryz.ntmps67 ?_
 refine uB (aoR fun _ => ?_)
 refine q34 ?_; refine q12 (uC (uA (uB (aoR fun _ => ?_))))
 apply wE; exact rfl; exact rfl
 refine q12 (uC (uA ?_)); refine uH ?_; rotate_left
 exact aS rfl rfl
set_option maxHeartbeats 4000000 in
theorem arrows_p (x : Ex) (hx : x.rel) : Pure E.P 43 [jdOV x (rfF x) (coF x) (frF x)] (.d (pairsTV (gloL x))) := by
 have f1 : Frozen 1 := ⟨trivial⟩
 have f3 : Frozen 3 := ⟨trivial⟩
 have f8 : Frozen 8 := ⟨trivial⟩
 have hn := hx.len
 obtain ⟨l1, l2, l3, l4⟩ := lH hx
 have hL := arrL_len hx
 have hS := arrL_small hx
 have hP : Pure E.P 65 [exOV x] (.tu [.d (pairsTV (ppoL x)), .int .i64 0]) := by
  have := Ppo_p x hx.fit
  unfold ppoT at this
  rw [if_neg (by simp [hx.check])] at this
  exact this
 obtain ⟨M, hM⟩ : ∃ M, (rfF x).filter (hneB x) = M := ⟨_, rfl⟩
 have hLL : (arrL x).length = (ppoL x).length + (coF x).length + (frF x).length + M.length := by unfold arrL; rw [hM]; simp only [List.length_append]
 have a1 : ∀ g b, FnY E.P 64 [.d (pairsTV (ppoL x)), .d (.pt [.c (.map (some b))] 0)] (YA (arrL x) g b) 0 (0 + (ppoL x).length) [] (· = []) := pY _ _ hS hL 0 (fun j hj => by
  unfold arrL; rw [Nat.zero_add, List.append_assoc, List.append_assoc, dA hj]) (by omega)
 have a2 : ∀ g b, FnY E.P 64 [.d (pairsTV (coF x)), .d (.pt [.c (.map (some b))] 0)] (YA (arrL x) g b) (0 + (ppoL x).length) (0 + (ppoL x).length + (coF x).length) [] (· = []) := pY _ _ hS hL _ (fun j hj => by
  unfold arrL; rw [Nat.zero_add, List.append_assoc, List.append_assoc, yM, dA hj]) (by omega)
 have a3 : ∀ g b, FnY E.P 64 [.d (pairsTV (frF x)), .d (.pt [.c (.map (some b))] 0)] (YA (arrL x) g b) (0 + (ppoL x).length + (coF x).length) (0 + (ppoL x).length + (coF x).length + (frF x).length) [] (· = []) := pY _ _ hS hL _ (fun j hj => by
  unfold arrL
  rw [Nat.zero_add, List.append_assoc, List.append_assoc, show (ppoL x).length + (coF x).length + j = (ppoL x).length + ((coF x).length + j) by omega, yM, yM, dA hj]) (by omega)
 have hK := sortedKeys_m (arrL x) hL x.evs.length (globB x) (by omega) (mP hx)
 refine fnA Tryz.func43 Tryz.ntmps43 ?_
 refine uB (aoR fun _ => ?_)
 refine q34 ?_; refine q51 (uC (uA (uB (aoR fun _ => ?_))))
 ((apply S_makeMap (JA (arrL x)) (JA.start _)); intro g b)
 apply vQ; exact rfl
 refine q43 (uC (uA (uB (aoR fun _ => ?_))))
 apply wE; exact rfl; exact rfl
 refine q12 (uC (uA (uB (aoR fun _ => ?_))))
 refine q32 ?_; refine q33 ?_
 apply uP; exact rfl; exact .fn _ _ _; exact rfl; exact hP
 refine q11 ?_
 iterate 2 (apply wQ; exact rfl; exact rfl)
 iterate 2 refine q12 ?_
 refine uC (uA (uB (aoR fun _ => ?_)))
 iterate 2 refine q11 ?_
 apply lM; exact rfl; (exact .fn _ _ _); exact rfl; exact rfl; (exact a1 _ _)
 refine uC (uA (uB (aoR fun _ => ?_)))
 refine q11 ?_; refine q32 ?_; refine q23 ?_
 apply lM; exact rfl; (exact .fn _ _ _); exact rfl; exact rfl; (exact a2 _ _)
 refine uC (uA (uB (aoR fun _ => ?_)))
 refine q11 ?_; refine q32 ?_; refine q23 ?_
 apply lM; exact rfl; (exact .fn _ _ _); exact rfl; exact rfl; (exact a3 _ _)
 refine uC (uA ?_)
 iterate 2 refine uB ?_
 refine aoR fun _ => ?_; refine q32 ?_; refine q23 ?_; refine q13 ?_; refine q11 (uC (uA (uF ?_)))
 rotate_left
 refine uZ (X := Nat) (fun k => tmL [(1, .d (.pt (jdRow x (rfF x) (coF x) (frF x)) 0)), (3, .d (.pt [.c (.map (some b))] 0)), (29, .d (pairsTV (rfF x))), (30, .int .i64 (rfF x).length), (31, .int .i64 k), (GS, .gh (0 + (ppoL x).length + (coF x).length + (frF x).length + (((rfF x).take k).filter (hneB x)).length) (YA (arrL x) g b))]) (fun _ => stL []) (fun k => k ≤ (rfF x).length) (fun k => (rfF x).length - k) 0 (Nat.zero_le _) leP leP ?_
 intro k hk
 by_cases hlt : k < (rfF x).length
 ·obtain ⟨a, c, ha, hc, e0⟩ : ∃ a c : Nat, a < x.evs.length ∧ c < x.evs.length ∧ (rfF x).getD k default = ((a : Int), (c : Int)) := by
   have : (rfF x).getD k default ∈ refPairs x.evs.length (isRf x) := by
    rw [← bL hx.check, List.getD_eq_getElem?_getD, List.getElem?_eq_getElem hlt]; exact List.getElem_mem hlt
   obtain ⟨a, c, h1, h2, _, h3⟩ := vN.1 this
   exact ⟨a, c, h1, h2, h3⟩
  have e1 : ((rfF x).getD (k : Int).toNat default).1 = (a : Int) := by rw [Int.toNat_natCast, e0]
  have e2 : ((rfF x).getD (k : Int).toNat default).2 = (c : Int) := by rw [Int.toNat_natCast, e0]
  have b1 : 0 ≤ ((rfF x).getD (k : Int).toNat default).1 ∧ ((rfF x).getD (k : Int).toNat default).1 < x.evs.length := by omega
  have b2 : 0 ≤ ((rfF x).getD (k : Int).toNat default).2 ∧ ((rfF x).getD (k : Int).toNat default).2 < x.evs.length := by omega
  have htk := wU (rfF x) default k hlt
  have hkey : IsKeyV E.P 73 (.ag ((pairTV ((rfF x).getD k default)).map .d)) (kpL ((rfF x).getD k default)) := by
   rw [e0]; exact mL (by dsimp only; omega) (by dsimp only; omega) (by dsimp only; omega) (by dsimp only; omega)
  have hidx : hneB x ((rfF x).getD k default) = true → (arrL x).getD (0 + (ppoL x).length + (coF x).length + (frF x).length + (((rfF x).take k).filter (hneB x)).length) default = (rfF x).getD k default ∧ (((rfF x).take k).filter (hneB x)).length < M.length := fun h => by
   obtain ⟨q1, q2⟩ := bV default (hneB x) (rfF x) k hlt h
   rw [hM] at q1 q2
   refine ⟨?_, q2⟩
   rw [← q1]
   unfold arrL
   rw [hM, List.append_assoc, List.append_assoc, show 0 + (ppoL x).length + (coF x).length + (frF x).length + (((rfF x).take k).filter (hneB x)).length = (ppoL x).length + ((coF x).length + ((frF x).length + (((rfF x).take k).filter (hneB x)).length)) by omega, yM, yM, yM]
  by_cases hne : hneB x ((rfF x).getD k default) = true
  ·obtain ⟨i1, i2⟩ := hidx hne
   have hkey2 : IsKeyV E.P 73 (.ag ((pairTV ((rfF x).getD k default)).map .d)) (kpL ((arrL x).getD (0 + (ppoL x).length + (coF x).length + (frF x).length + (((rfF x).take k).filter (hneB x)).length) default)) := by rw [i1]; exact hkey
   have hcnt : (((rfF x).take (k + 1)).filter (hneB x)).length = (((rfF x).take k).filter (hneB x)).length + 1 := by
    rw [htk, List.filter_append, List.filter_cons, if_pos hne]; simp
   have hne' : ¬ (x.evs.getD ((rfF x).getD k default).1.toNat default).hart = (x.evs.getD ((rfF x).getD k default).2.toNat default).hart := by unfold hneB at hne; simpa using hne
   refine uB (aoR fun _ => ?_)
   refine q37 (uC (uA (uB ?_))); refine cnd ?_ ?_
   refine uI fun _ => ?_; try (exfalso; omega)
   refine uG (uA (uB (uF (uB (aoR fun _ => ?_)))))
   refine q17 ?_; refine q33 ?_
   apply vQ; exact rfl
   refine q43 (uC (uA (uB ?_)))
   refine vE (E := E) ?_ (fun _ => ?_); exact rfl
   iterate 2 refine q52 ?_
   refine q50 ?_; refine q52 ?_; refine q50 ?_; refine q30 ?_; refine q52 ?_; refine q50 ?_
   iterate 2 refine q52 ?_
   refine q50 ?_; refine q52 ?_; refine q50 ?_; refine q30 ?_; refine q52 ?_; refine q50 ?_
   apply jB; exact rfl; exact rfl
   refine vV ?_ ?_; (first | ((try dsimp only [wkeys]); decide +kernel) | exact rfl)
   refine uA ?_; refine cnd ?_ ?_
   refine wX (fun _ => ?_); (try (exfalso; omega))
   refine oZ (d := 52) (KT := 73) (IT := 3) kX Tryz.underlying92 Tryz.underlying3 pJ rfl rfl rfl rfl rfl (by decide) (by decide) (by decide) rfl rfl hkey2 rfl (fun nn D c hm hJ => ⟨by have := hJ.1; unfold maxLen; omega, hJ.step hm (by omega) _⟩) ?_
   refine vI ?_; refine uA (aoR fun _ => ?_)
   refine q36 ?_; refine q11 (uC (uA ?_)); rotate_left
   refine wT (fun _ => ?_); (try (exfalso; omega))
   refine uG ?_; refine vI ?_; refine uA (aoR fun _ => ?_)
   refine q36 ?_; refine q11 (uC (uA ?_)); rotate_left
   refine uJ fun _ => ?_; try (exfalso; omega)
   ·exact vJ (k + 1) (by omega) (by omega) (uL rfl (uL rfl (uL rfl (uL rfl (uL rfl (uL (by rw [hcnt]; rfl) (vP _))))))) leP
   ·rename_i hh _
    exact (hne' hh).elim
  ·have hcnt : (((rfF x).take (k + 1)).filter (hneB x)).length = (((rfF x).take k).filter (hneB x)).length := by
    rw [htk, List.filter_append, List.filter_cons, if_neg hne]; simp
   have hne' : (x.evs.getD ((rfF x).getD k default).1.toNat default).hart = (x.evs.getD ((rfF x).getD k default).2.toNat default).hart := by unfold hneB at hne; simpa using hne
   refine uB (aoR fun _ => ?_)
   refine q37 (uC (uA (uB ?_))); refine cnd ?_ ?_
   refine uI fun _ => ?_; try (exfalso; omega)
   refine uG (uA (uB (uF (uB (aoR fun _ => ?_)))))
   refine q17 ?_; refine q33 ?_
   apply vQ; exact rfl
   refine q43 (uC (uA (uB ?_)))
   refine vE (E := E) ?_ (fun _ => ?_); exact rfl
   iterate 2 refine q52 ?_
   refine q50 ?_; refine q52 ?_; refine q50 ?_; refine q30 ?_; refine q52 ?_; refine q50 ?_
   iterate 2 refine q52 ?_
   refine q50 ?_; refine q52 ?_; refine q50 ?_; refine q30 ?_; refine q52 ?_; refine q50 ?_
   apply jB; exact rfl; exact rfl
   refine vV ?_ ?_; (first | ((try dsimp only [wkeys]); decide +kernel) | exact rfl)
   refine uA ?_; refine cnd ?_ ?_
   refine wX (fun _ => ?_); (try (exfalso; omega))
   refine vE (E := E) ?_ (fun _ => ?_); exact rfl
   refine q50 ?_
   apply vT; exact rfl; exact rfl; exact rfl; exact Nat.le_of_ble_eq_true rfl
   rotate_left
   refine wT (fun _ => ?_); (try (exfalso; omega))
   refine uG ?_; refine vI ?_; refine uA (aoR fun _ => ?_)
   refine q36 ?_; refine q11 (uC (uA ?_)); rotate_left
   refine uJ fun _ => ?_; try (exfalso; omega)
   ·rename_i hh _
    exact (hh hne').elim
   ·exact vJ (k + 1) (by omega) (by omega) (uL rfl (uL rfl (uL rfl (uL rfl (uL rfl (uL (by rw [hcnt]; rfl) (vP _))))))) leP
 ·have hi : 0 + (ppoL x).length + (coF x).length + (frF x).length + (((rfF x).take k).filter (hneB x)).length = (arrL x).length := by
   rw [show k = (rfF x).length by omega, List.take_length, hM]; omega
  have hK' := hK g b
  rw [← hi] at hK'
  refine uB (aoR fun _ => ?_)
  refine q37 (uC (uA (uB ?_))); refine cnd ?_ ?_
  refine uI fun _ => ?_; try (exfalso; omega)
  refine uJ fun _ => ?_; try (exfalso; omega)
  refine uO ?_
  iterate 2 refine vH ?_
  refine vR ?_; refine uA (uB (aoR fun _ => ?_))
  refine q23 ?_
  apply uP; exact rfl; exact .fn _ _ _; exact rfl; exact keysP_p _ rfl
  apply S_callM; exact rfl; exact .fn _ _ _; exact rfl; exact rfl; exact hK'
  refine q12 (uC (uA ?_)); refine uH ?_; rotate_left
  exact aS rfl rfl
end Go.Proofs.YtnkocjkkefnelaaGreat
