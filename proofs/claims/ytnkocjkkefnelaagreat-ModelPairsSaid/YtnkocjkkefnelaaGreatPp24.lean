/- Parts. -/
import Derived.Test.YtnkocjkkefnelaaGreatPp4
import Derived.Test.YtnkocjkkefnelaaGreatPp6
import Derived.Test.YtnkocjkkefnelaaGreatPp9
import Derived.Test.YtnkocjkkefnelaaGreatPp17
import Derived.Test.YtnkocjkkefnelaaGreatPp20
import Derived.Test.YtnkocjkkefnelaaGreatPp23
set_option linter.unusedVariables false
set_option linter.unusedSimpArgs false
set_option maxHeartbeats 4000000
set_option maxRecDepth 100000
namespace Go.Proofs.YtnkocjkkefnelaaGreat
open Go.RowKit
theorem placeFrom_drop (o : List (Sl × List Int)) (n : Int) (k : Nat) (h : k < o.length) : placeFrom (o.drop k) n = if 0 ≤ atI (o.getD k default).2 n then atI (o.getD k default).2 n else placeFrom (o.drop (k + 1)) n := by
 rw [List.drop_eq_getElem_cons h, placeFrom, List.getD_eq_getElem?_getD, List.getElem?_eq_getElem h]; rfl
set_option maxHeartbeats 1000000 in
theorem oU (x : Ex) (hx : x.order.length ≤ 65536) (hr : ∀ i, (x.order.getD i default).2.length ≤ 65536) (n : Int) : Pure E.P 63 [exOV x, .int .i64 n] (.int .i64 (placeFrom x.order n)) := by
 have f1 : Frozen 1 := ⟨trivial⟩
 have f2 : Frozen 2 := ⟨trivial⟩
 refine fnA Tryz.func63 Tryz.ntmps63 ?_
 refine run ?_; refine aoR fun _ => ?_
 refine run ?_; refine aoR fun _ => ?_
 refine run ?_; rotate_left
 refine uS (X := Nat) (fun k => tmL [(1, .int .i64 n), (2, .d (.pt (exRow x) 0)), (5, .int .i64 k)]) (fun _ => stL []) (fun k => k ≤ x.order.length ∧ placeFrom x.order n = placeFrom (x.order.drop k) n) (fun k => x.order.length - k) 0 ⟨Nat.zero_le _, rfl⟩ leP leP ?_
 rintro k ⟨hk, ht⟩
 have ha := lK (x.order.getD k default).2 n (by have := hr k; omega)
 by_cases hlt : k < x.order.length
 ·have hd := placeFrom_drop x.order n k hlt
  refine run ?_; refine aoR fun _ => ?_
  refine run ?_; refine cnd ?_ ?_
  refine uE fun _ => ?_; try (exfalso; omega)
  refine run ?_; refine aoR fun _ => ?_
  refine run ?_
  apply uO; exact rfl; exact .fn _ _ _; exact rfl; exact ha
  refine run ?_; refine aoR fun _ => ?_
  refine run ?_; refine cnd ?_ ?_
  refine uE fun _ => ?_; try (exfalso; omega)
  refine run ?_; refine aoR fun _ => ?_
  refine run ?_; rotate_left
  refine uG fun _ => ?_; try (exfalso; omega)
  refine run ?_; refine aoR fun _ => ?_
  refine run ?_; rotate_left
  refine uG fun _ => ?_; try (exfalso; omega)
  ·refine wC rfl ?_
   rw [ht, hd, if_pos (by assumption)]
  ·refine uY (k + 1) ⟨by omega, ?_⟩ (by omega) leP leP
   rw [ht, hd, if_neg (by assumption)]
 ·refine run ?_
  refine aoR fun _ => ?_; refine run ?_
  refine cnd ?_ ?_
  refine uE fun _ => ?_; try (exfalso; omega)
  refine uG fun _ => ?_; try (exfalso; omega)
  refine run ?_; refine aoR fun _ => ?_
  refine run ?_; rotate_left
  refine wC rfl ?_
  rw [ht, List.drop_eq_nil_of_le (by omega)]; rfl
theorem risRf_p (x : Ex) (hx : x.evs.length ≤ 65536) (hf : x.from_.length = x.evs.length) (a b : Nat) (ha : a < x.evs.length) (hb : b < x.evs.length) : Pure E.P 45 [exOV x, .int .i64 a, .int .i64 b] (.bool (isRf x a b)) := by
 have hl := xP (x.evs.getD b default)
 refine fnA Tryz.func45 Tryz.ntmps45 ?_
 refine run ?_; refine aoR fun _ => ?_
 refine run ?_; refine aoR fun _ => ?_
 refine run ?_
 apply uO; exact rfl; exact .fn _ _ _; exact rfl; exact hl
 refine run ?_; rotate_left
 refine uV rfl ?_
 rw [Bool.eq_iff_iff]
 unfold isRf
 simp only [Bool.and_eq_true, decide_eq_true_eq, Int.toNat_natCast]
theorem aY (x : Ex) (hx : x.evs.length ≤ 65536) (ho : x.order.length ≤ 65536) (hr : ∀ i, (x.order.getD i default).2.length ≤ 65536) (a b : Nat) (ha : a < x.evs.length) (hb : b < x.evs.length) : Pure E.P 42 [exOV x, .int .i64 a, .int .i64 b] (.bool (isCoB x a b)) := by
 have h1 := wN (x.evs.getD a default)
 have h2 := wN (x.evs.getD b default)
 have h3 := oU x ho hr a
 have h4 := oU x ho hr b
 refine fnA Tryz.func42 Tryz.ntmps42 ?_
 refine run ?_; refine aoR fun _ => ?_
 refine run ?_
 refine uU (E := E) ?_ (fun _ => ?_); exact rfl
 refine run ?_
 apply wM; exact rfl; exact .fn _ _ _; exact rfl; (exact h1)
 refine run ?_
 apply dpT; exact rfl
 intro hc_
 have hp_ := hc_; try simp only [nrm] at hp_
 apply vA; (exact EvM.plain rfl rfl); exact .fn _ _ _; exact vQ; (exact h2)
 refine run ?_
 apply dpT; exact rfl
 intro hc_
 have hp_ := hc_; try simp only [nrm] at hp_
 apply vA; (exact EvM.plain rfl rfl); exact .fn _ _ _; exact vQ; (exact h3)
 refine run ?_
 apply dpT; exact rfl
 intro hc_
 have hp_ := hc_; try simp only [nrm] at hp_
 apply vA; (exact EvM.plain rfl rfl); exact .fn _ _ _; exact vQ; (exact h4)
 refine run ?_; rotate_left
 refine uV rfl ?_
 rw [Bool.eq_iff_iff]
 unfold isCoB
 simp only [Bool.and_eq_true, decide_eq_true_eq, Int.toNat_natCast]
def isFrB (x : Ex) (a b : Nat) : Bool := !(a == b) && (x.evs.getD a default).ldB && isCoB x (x.from_.getD a 0).toNat b
theorem risFr_p (x : Ex) (hx : x.evs.length ≤ 65536) (ho : x.order.length ≤ 65536) (hr : ∀ i, (x.order.getD i default).2.length ≤ 65536) (hf : x.from_.length = x.evs.length) (hld : ∀ a, a < x.evs.length → (x.evs.getD a default).ldB = true → 0 ≤ x.from_.getD a 0 ∧ x.from_.getD a 0 < x.evs.length) (a b : Nat) (ha : a < x.evs.length) (hb : b < x.evs.length) : Pure E.P 46 [exOV x, .int .i64 a, .int .i64 b] (.bool (isFrB x a b)) := by
 have h1 := xP (x.evs.getD a default)
 by_cases hg : a ≠ b ∧ (x.evs.getD a default).ldB = true
 ·obtain ⟨g1, g2⟩ := hg
  obtain ⟨u1, u2⟩ := hld a ha g2
  obtain ⟨f, hfe⟩ := yH u1
  have h2 := aY x hx ho hr f b (by omega) hb
  rw [← hfe] at h2
  refine fnA Tryz.func46 Tryz.ntmps46 ?_
  refine run ?_; refine aoR fun _ => ?_
  refine run ?_
  refine uU (E := E) ?_ (fun _ => ?_); exact rfl
  refine run ?_
  apply dpT; exact rfl
  intro hc_
  have hp_ := hc_; try simp only [nrm] at hp_
  apply vA; (exact EvM.plain rfl rfl); exact .fn _ _ _; exact vQ; (exact h1)
  refine run ?_
  apply dpT; exact rfl
  intro hc_
  have hp_ := hc_; try simp only [nrm] at hp_
  apply vA; (exact EvM.plain rfl rfl); exact .fn _ _ _; exact vQ; (exact h2)
  refine run ?_; rotate_left
  refine uV rfl ?_
  unfold isFrB
  rw [hfe, Int.toNat_natCast, g2, show (a == b) = false by simpa using g1]
  simp [g1]
  try (intro _; omega)
 ·by_cases e : a = b
  ·subst e
   refine fnA Tryz.func46 Tryz.ntmps46 ?_
   refine run ?_; refine aoR fun _ => ?_
   refine run ?_
   refine uU (E := E) ?_ (fun _ => ?_); exact rfl
   refine run ?_
   apply dpT; exact rfl
   intro hc_
   have hp_ := hc_; try simp only [nrm] at hp_
   apply vA; (exact EvM.plain rfl rfl); exact .fn _ _ _; exact vQ; exact h1
   refine run ?_
   apply dpT; exact rfl
   intro hc_
   have hp_ := hc_; try simp only [nrm] at hp_
   (apply vA; (exact EvM.plain rfl rfl); exact .fn _ _ _; exact vQ; exact (show Pure E.P _ _ (.bool false) from by exfalso; simp at hc_))
   refine run ?_; rotate_left
   all_goals (refine uV rfl ?_)
   all_goals (unfold isFrB; simp)
  ·have g2 : (x.evs.getD a default).ldB = false := by
    cases h : (x.evs.getD a default).ldB with
    | false => rfl
    | true => exact (hg ⟨e, h⟩).elim
   rw [g2] at h1
   refine fnA Tryz.func46 Tryz.ntmps46 ?_
   refine run ?_; refine aoR fun _ => ?_
   refine run ?_
   refine uU (E := E) ?_ (fun _ => ?_); exact rfl
   refine run ?_
   apply dpT; exact rfl
   intro hc_
   have hp_ := hc_; try simp only [nrm] at hp_
   apply vA; (exact EvM.plain rfl rfl); exact .fn _ _ _; exact vQ; exact h1
   refine run ?_
   apply dpT; exact rfl
   intro hc_
   have hp_ := hc_; try simp only [nrm] at hp_
   (apply vA; (exact EvM.plain rfl rfl); exact .fn _ _ _; exact vQ; exact (show Pure E.P _ _ (.bool false) from by exfalso; simp at hc_))
   refine run ?_; rotate_left
   all_goals (refine uV rfl ?_)
   all_goals (unfold isFrB; rw [g2]; simp)
structure Ex.rel (x : Ex) : Prop where
 fit : x.fit
 check : checkI x = 0
theorem Ex.rel.len {x : Ex} (h : x.rel) : x.evs.length ≤ 64 := (vK h.check).1
theorem Ex.rel.from_ {x : Ex} (h : x.rel) : x.from_.length = x.evs.length := yQ (vK h.check).2.2.1
theorem Ex.rel.rows {x : Ex} (h : x.rel) (i : Nat) : (x.order.getD i default).2.length ≤ 65536 := by
 rcases Nat.lt_or_ge i x.order.length with hh | hh
 ·rw [List.getD_eq_getElem?_getD, List.getElem?_eq_getElem hh]
  exact h.fit.2 _ (List.getElem_mem hh)
 ·rw [List.getD_eq_getElem?_getD, List.getElem?_eq_none hh]
  exact Nat.zero_le _
theorem Ex.rel.ord {x : Ex} (h : x.rel) : x.order.length ≤ 65536 := by
 have h4 := (vK h.check).2.2.2
 unfold orderB at h4
 simp only [Bool.and_eq_true, decide_eq_true_eq] at h4
 have := xZ x.evs
 have := h.len
 omega
theorem Ex.rel.src {x : Ex} (h : x.rel) (a : Nat) (ha : a < x.evs.length) (hl : (x.evs.getD a default).ldB = true) : 0 ≤ x.from_.getD a 0 ∧ x.from_.getD a 0 < x.evs.length := by
 obtain ⟨u1, u2⟩ := fM (vK h.check).2.2.1 ha
 exact ⟨u1.1 hl, (u2 hl).1⟩
theorem cC {n : Nat} {f g : Nat → Nat → Bool} (h : ∀ a b, a < n → b < n → f a b = g a b) : refPairs n f = refPairs n g := by
 unfold refPairs
 rw [List.flatMap_def, List.flatMap_def]
 congr 1
 refine List.map_congr_left fun a ha => ?_
 congr 1
 exact List.filter_congr fun b hb => h a b (List.mem_range.1 ha) (List.mem_range.1 hb)
theorem fr_isB {x : Ex} (h : x.rel) {a b : Nat} (ha : a < x.evs.length) (hb : b < x.evs.length) : frBr x a b = isFrB x a b := by
 unfold frBr isFrB
 cases hl : (x.evs.getD a default).ldB with
 | false => simp
 | true =>
  obtain ⟨u1, u2⟩ := h.src a ha hl
  rw [bG h.check (by omega) hb]
theorem jJ {x : Ex} (h : x.rel) : coF x = refPairs x.evs.length (isCoB x) := by
 rw [qU h.check]
 exact cC fun a b ha hb => bG h.check ha hb
theorem jH {x : Ex} (h : x.rel) : frF x = refPairs x.evs.length (isFrB x) := by
 rw [fr_ref h.check]
 exact cC fun a b ha hb => fr_isB h ha hb
set_option maxHeartbeats 4000000 in
theorem rpairs1_p (x : Ex) (hx : x.evs.length ≤ 4096) (f : Nat → Nat → Bool) (hrel : ∀ a b : Nat, a < x.evs.length → b < x.evs.length → Pure E.P 44 [exOV x, .int .i64 a, .int .i64 b] (.bool (f a b))) : Pure E.P 24 [exOV x, .int .i64 1] (.d (pairsTV (refPairs x.evs.length f))) := by
 have f2 : Frozen 2 := ⟨trivial⟩
 have hsq : x.evs.length * x.evs.length ≤ 16777216 := Nat.mul_le_mul hx hx
 refine fnA Tryz.func24 Tryz.ntmps24 ?_
 refine run ?_; refine aoR fun _ => ?_
 refine run ?_; refine aoR fun _ => ?_
 refine run ?_; refine aoR fun _ => ?_
 refine run ?_; refine aoR fun _ => ?_
 refine run ?_; rotate_left
 rename_i v5 _ _
 refine uS (X := Nat × Stamp × List (Int × Int)) (fun p => tmL [(1, .int .i64 1), (2, .d (.pt (exRow x) 0)), (5, .os 5 p.2.1 2 p.2.2.length), (6, .int .i64 x.evs.length), (7, .int .i64 p.1)]) (fun p => stL [(5, (p.2.1, ⟨2, p.2.2.map pairO'⟩))])
  (fun p => p.1 ≤ x.evs.length ∧ p.2.2 = prTo x.evs.length f p.1) (fun p => x.evs.length - p.1) (0, (v5, 0), []) ⟨Nat.zero_le _, rfl⟩ (by repeat' (first | exact vH _ | exact uX _ | refine uH rfl ?_ | refine uR rfl ?_ | (refine uK rfl ?_ ?_; (simp)) | (refine uI rfl ?_ ?_; (simp)) | (refine uM rfl ?_ ?_; (simp)))) leP ?_
 rintro ⟨a, τ, l⟩ ⟨hk, hl⟩
 dsimp only at hk hl ⊢
 by_cases hlt : a < x.evs.length
 ·refine run ?_
  refine aoR fun _ => ?_; refine run ?_
  refine cnd ?_ ?_
  refine uE fun _ => ?_; try (exfalso; omega)
  refine run ?_; refine aoR fun _ => ?_
  refine run ?_; rotate_left
  refine uG fun _ => ?_; try (exfalso; omega)
  refine uS (X := Nat × Stamp × List (Int × Int)) (fun p => tmL [(1, .int .i64 1), (2, .d (.pt (exRow x) 0)), (5, .os 5 p.2.1 2 p.2.2.length), (6, .int .i64 x.evs.length), (7, .int .i64 a), (8, .int .i64 p.1)]) (fun p => stL [(5, (p.2.1, ⟨2, p.2.2.map pairO'⟩))])
   (fun p => p.1 ≤ x.evs.length ∧ p.2.2 = l ++ prRow f a p.1) (fun p => x.evs.length - p.1) (0, τ, l) ⟨Nat.zero_le _, by simp [prRow]⟩ leP leP ?_
  rintro ⟨b, τ2, l2⟩ ⟨hk2, hl2⟩
  dsimp only at hk2 hl2 ⊢
  have hlen : l2.length ≤ 16777216 + 4096 := by
   rw [hl2, List.length_append, hl]
   have h1 := wD x.evs.length f a
   have h2 := aM f a b
   have h3 : a * x.evs.length ≤ x.evs.length * x.evs.length := Nat.mul_le_mul hk (Nat.le_refl _)
   omega
  by_cases hlt2 : b < x.evs.length
  ·have hr := hrel a b hlt hlt2
   refine run ?_; refine aoR fun _ => ?_
   refine run ?_; refine cnd ?_ ?_
   refine uE fun _ => ?_; try (exfalso; omega)
   refine run ?_; refine aoR fun _ => ?_
   refine run ?_; refine aoR fun _ => ?_
   refine run ?_; refine aoR fun _ => ?_
   refine run ?_; refine cnd ?_ ?_
   refine uE fun _ => ?_; try (exfalso; omega)
   refine aoR fun _ => ?_; refine run ?_
   apply uO; exact rfl; exact .fn _ _ _; exact rfl; exact hr
   refine run ?_; refine aoR fun _ => ?_
   refine run ?_; refine cnd ?_ ?_
   refine wQ (fun _ => ?_)
   refine aoR fun _ => ?_; refine run ?_
   refine aoR fun _ => ?_; refine run ?_
   rotate_left
   refine cG (fun _ => ?_)
   refine run ?_; refine aoR fun _ => ?_
   refine run ?_; rotate_left
   iterate 2 refine uG fun _ => ?_; try (exfalso; omega)
   ·rename_i hy v24 _
    exact uY (b + 1, (v24, 6), l2 ++ [((a : Int), (b : Int))]) ⟨by dsimp only; omega, by dsimp only; rw [hl2, cW hy, List.append_assoc]⟩ (by dsimp only; omega) (by repeat' (first | exact vH _ | exact uX _ | refine uH rfl ?_ | refine uR rfl ?_ | (refine uK rfl ?_ ?_; (simp <;> rfl)) | (refine uI rfl ?_ ?_; (simp <;> rfl)) | (refine uM rfl ?_ ?_; (simp <;> rfl)))) (by repeat' (first | exact vH _ | exact uX _ | refine uH rfl ?_ | refine uR rfl ?_ | (refine uK rfl ?_ ?_; (simp <;> rfl)) | (refine uI rfl ?_ ?_; (simp <;> rfl)) | (refine uM rfl ?_ ?_; (simp <;> rfl))))
   ·rename_i hy _
    exact uY (b + 1, τ2, l2) ⟨by dsimp only; omega, by dsimp only; rw [hl2, fD (by rw [hy]; decide)]⟩ (by dsimp only; omega) leP leP
  ·have hb : b = x.evs.length := by omega
   subst hb
   refine run ?_; refine aoR fun _ => ?_
   refine run ?_; refine cnd ?_ ?_
   refine uE fun _ => ?_; try (exfalso; omega)
   refine uG fun _ => ?_; try (exfalso; omega)
   refine run ?_; refine aoR fun _ => ?_
   refine run ?_; rotate_left
   exact uY (a + 1, τ2, l2) ⟨by dsimp only; omega, by dsimp only; rw [hl2, aL, hl]⟩ (by dsimp only; omega) leP leP
 ·have f5 : Frozen 5 := ⟨trivial⟩
  have hfz := xD
  refine run ?_; refine aoR fun _ => ?_
  refine run ?_; refine cnd ?_ ?_
  refine uE fun _ => ?_; try (exfalso; omega)
  refine uG fun _ => ?_; try (exfalso; omega)
  refine run ?_; refine aoR fun _ => ?_
  refine run ?_; rotate_left
  refine bF rfl ?_
  have ha : a = x.evs.length := by omega
  rw [hl, ha]; rfl
set_option maxHeartbeats 4000000 in
theorem rpairs3_p (x : Ex) (hx : x.evs.length ≤ 4096) (f : Nat → Nat → Bool) (hrel : ∀ a b : Nat, a < x.evs.length → b < x.evs.length → Pure E.P 42 [exOV x, .int .i64 a, .int .i64 b] (.bool (f a b))) : Pure E.P 24 [exOV x, .int .i64 3] (.d (pairsTV (refPairs x.evs.length f))) := by
 have f2 : Frozen 2 := ⟨trivial⟩
 have hsq : x.evs.length * x.evs.length ≤ 16777216 := Nat.mul_le_mul hx hx
 refine fnA Tryz.func24 Tryz.ntmps24 ?_
 refine run ?_; refine aoR fun _ => ?_
 refine run ?_; refine aoR fun _ => ?_
 refine run ?_; refine aoR fun _ => ?_
 refine run ?_; refine aoR fun _ => ?_
 refine run ?_; rotate_left
 rename_i v5 _ _
 refine uS (X := Nat × Stamp × List (Int × Int)) (fun p => tmL [(1, .int .i64 3), (2, .d (.pt (exRow x) 0)), (5, .os 5 p.2.1 2 p.2.2.length), (6, .int .i64 x.evs.length), (7, .int .i64 p.1)]) (fun p => stL [(5, (p.2.1, ⟨2, p.2.2.map pairO'⟩))])
  (fun p => p.1 ≤ x.evs.length ∧ p.2.2 = prTo x.evs.length f p.1) (fun p => x.evs.length - p.1) (0, (v5, 0), []) ⟨Nat.zero_le _, rfl⟩ (by repeat' (first | exact vH _ | exact uX _ | refine uH rfl ?_ | refine uR rfl ?_ | (refine uK rfl ?_ ?_; (simp)) | (refine uI rfl ?_ ?_; (simp)) | (refine uM rfl ?_ ?_; (simp)))) leP ?_
 rintro ⟨a, τ, l⟩ ⟨hk, hl⟩
 dsimp only at hk hl ⊢
 by_cases hlt : a < x.evs.length
 ·refine run ?_
  refine aoR fun _ => ?_; refine run ?_
  refine cnd ?_ ?_
  refine uE fun _ => ?_; try (exfalso; omega)
  refine run ?_; refine aoR fun _ => ?_
  refine run ?_; rotate_left
  refine uG fun _ => ?_; try (exfalso; omega)
  refine uS (X := Nat × Stamp × List (Int × Int)) (fun p => tmL [(1, .int .i64 3), (2, .d (.pt (exRow x) 0)), (5, .os 5 p.2.1 2 p.2.2.length), (6, .int .i64 x.evs.length), (7, .int .i64 a), (8, .int .i64 p.1)]) (fun p => stL [(5, (p.2.1, ⟨2, p.2.2.map pairO'⟩))])
   (fun p => p.1 ≤ x.evs.length ∧ p.2.2 = l ++ prRow f a p.1) (fun p => x.evs.length - p.1) (0, τ, l) ⟨Nat.zero_le _, by simp [prRow]⟩ leP leP ?_
  rintro ⟨b, τ2, l2⟩ ⟨hk2, hl2⟩
  dsimp only at hk2 hl2 ⊢
  have hlen : l2.length ≤ 16777216 + 4096 := by
   rw [hl2, List.length_append, hl]
   have h1 := wD x.evs.length f a
   have h2 := aM f a b
   have h3 : a * x.evs.length ≤ x.evs.length * x.evs.length := Nat.mul_le_mul hk (Nat.le_refl _)
   omega
  by_cases hlt2 : b < x.evs.length
  ·have hr := hrel a b hlt hlt2
   refine run ?_; refine aoR fun _ => ?_
   refine run ?_; refine cnd ?_ ?_
   refine uE fun _ => ?_; try (exfalso; omega)
   refine run ?_; refine aoR fun _ => ?_
   refine run ?_; refine aoR fun _ => ?_
   refine run ?_; refine aoR fun _ => ?_
   refine run ?_; refine cnd ?_ ?_
   refine uE fun _ => ?_; try (exfalso; omega)
   refine uG fun _ => ?_; try (exfalso; omega)
   refine run ?_; refine aoR fun _ => ?_
   refine run ?_; refine cnd ?_ ?_
   refine uE fun _ => ?_; try (exfalso; omega)
   refine uG fun _ => ?_; try (exfalso; omega)
   refine run ?_; refine aoR fun _ => ?_
   refine run ?_; refine cnd ?_ ?_
   refine uE fun _ => ?_; try (exfalso; omega)
   refine aoR fun _ => ?_; refine run ?_
   apply uO; exact rfl; exact .fn _ _ _; exact rfl; exact hr
   refine run ?_; refine aoR fun _ => ?_
   refine run ?_; refine cnd ?_ ?_
   refine wQ (fun _ => ?_)
   refine aoR fun _ => ?_; refine run ?_
   refine aoR fun _ => ?_; refine run ?_
   rotate_left
   refine cG (fun _ => ?_)
   refine run ?_; refine aoR fun _ => ?_
   refine run ?_; rotate_left
   iterate 2 refine uG fun _ => ?_; try (exfalso; omega)
   ·rename_i hy v24 _
    exact uY (b + 1, (v24, 6), l2 ++ [((a : Int), (b : Int))]) ⟨by dsimp only; omega, by dsimp only; rw [hl2, cW hy, List.append_assoc]⟩ (by dsimp only; omega) (by repeat' (first | exact vH _ | exact uX _ | refine uH rfl ?_ | refine uR rfl ?_ | (refine uK rfl ?_ ?_; (simp <;> rfl)) | (refine uI rfl ?_ ?_; (simp <;> rfl)) | (refine uM rfl ?_ ?_; (simp <;> rfl)))) (by repeat' (first | exact vH _ | exact uX _ | refine uH rfl ?_ | refine uR rfl ?_ | (refine uK rfl ?_ ?_; (simp <;> rfl)) | (refine uI rfl ?_ ?_; (simp <;> rfl)) | (refine uM rfl ?_ ?_; (simp <;> rfl))))
   ·rename_i hy _
    exact uY (b + 1, τ2, l2) ⟨by dsimp only; omega, by dsimp only; rw [hl2, fD (by rw [hy]; decide)]⟩ (by dsimp only; omega) leP leP
  ·have hb : b = x.evs.length := by omega
   subst hb
   refine run ?_; refine aoR fun _ => ?_
   refine run ?_; refine cnd ?_ ?_
   refine uE fun _ => ?_; try (exfalso; omega)
   refine uG fun _ => ?_; try (exfalso; omega)
   refine run ?_; refine aoR fun _ => ?_
   refine run ?_; rotate_left
   exact uY (a + 1, τ2, l2) ⟨by dsimp only; omega, by dsimp only; rw [hl2, aL, hl]⟩ (by dsimp only; omega) leP leP
 ·have f5 : Frozen 5 := ⟨trivial⟩
  have hfz := xD
  refine run ?_; refine aoR fun _ => ?_
  refine run ?_; refine cnd ?_ ?_
  refine uE fun _ => ?_; try (exfalso; omega)
  refine uG fun _ => ?_; try (exfalso; omega)
  refine run ?_; refine aoR fun _ => ?_
  refine run ?_; rotate_left
  refine bF rfl ?_
  have ha : a = x.evs.length := by omega
  rw [hl, ha]; rfl
set_option maxHeartbeats 4000000 in
theorem rpairs4_p (x : Ex) (hx : x.evs.length ≤ 4096) (f : Nat → Nat → Bool) (hrel : ∀ a b : Nat, a < x.evs.length → b < x.evs.length → Pure E.P 46 [exOV x, .int .i64 a, .int .i64 b] (.bool (f a b))) : Pure E.P 24 [exOV x, .int .i64 4] (.d (pairsTV (refPairs x.evs.length f))) := by
 have f2 : Frozen 2 := ⟨trivial⟩
 have hsq : x.evs.length * x.evs.length ≤ 16777216 := Nat.mul_le_mul hx hx
 refine fnA Tryz.func24 Tryz.ntmps24 ?_
 refine run ?_; refine aoR fun _ => ?_
 refine run ?_; refine aoR fun _ => ?_
 refine run ?_; refine aoR fun _ => ?_
 refine run ?_; refine aoR fun _ => ?_
 refine run ?_; rotate_left
 rename_i v5 _ _
 refine uS (X := Nat × Stamp × List (Int × Int)) (fun p => tmL [(1, .int .i64 4), (2, .d (.pt (exRow x) 0)), (5, .os 5 p.2.1 2 p.2.2.length), (6, .int .i64 x.evs.length), (7, .int .i64 p.1)]) (fun p => stL [(5, (p.2.1, ⟨2, p.2.2.map pairO'⟩))])
  (fun p => p.1 ≤ x.evs.length ∧ p.2.2 = prTo x.evs.length f p.1) (fun p => x.evs.length - p.1) (0, (v5, 0), []) ⟨Nat.zero_le _, rfl⟩ (by repeat' (first | exact vH _ | exact uX _ | refine uH rfl ?_ | refine uR rfl ?_ | (refine uK rfl ?_ ?_; (simp)) | (refine uI rfl ?_ ?_; (simp)) | (refine uM rfl ?_ ?_; (simp)))) leP ?_
 rintro ⟨a, τ, l⟩ ⟨hk, hl⟩
 dsimp only at hk hl ⊢
 by_cases hlt : a < x.evs.length
 ·refine run ?_
  refine aoR fun _ => ?_; refine run ?_
  refine cnd ?_ ?_
  refine uE fun _ => ?_; try (exfalso; omega)
  refine run ?_; refine aoR fun _ => ?_
  refine run ?_; rotate_left
  refine uG fun _ => ?_; try (exfalso; omega)
  refine uS (X := Nat × Stamp × List (Int × Int)) (fun p => tmL [(1, .int .i64 4), (2, .d (.pt (exRow x) 0)), (5, .os 5 p.2.1 2 p.2.2.length), (6, .int .i64 x.evs.length), (7, .int .i64 a), (8, .int .i64 p.1)]) (fun p => stL [(5, (p.2.1, ⟨2, p.2.2.map pairO'⟩))])
   (fun p => p.1 ≤ x.evs.length ∧ p.2.2 = l ++ prRow f a p.1) (fun p => x.evs.length - p.1) (0, τ, l) ⟨Nat.zero_le _, by simp [prRow]⟩ leP leP ?_
  rintro ⟨b, τ2, l2⟩ ⟨hk2, hl2⟩
  dsimp only at hk2 hl2 ⊢
  have hlen : l2.length ≤ 16777216 + 4096 := by
   rw [hl2, List.length_append, hl]
   have h1 := wD x.evs.length f a
   have h2 := aM f a b
   have h3 : a * x.evs.length ≤ x.evs.length * x.evs.length := Nat.mul_le_mul hk (Nat.le_refl _)
   omega
  by_cases hlt2 : b < x.evs.length
  ·have hr := hrel a b hlt hlt2
   refine run ?_; refine aoR fun _ => ?_
   refine run ?_; refine cnd ?_ ?_
   refine uE fun _ => ?_; try (exfalso; omega)
   refine run ?_; refine aoR fun _ => ?_
   refine run ?_; refine aoR fun _ => ?_
   refine run ?_; refine aoR fun _ => ?_
   refine run ?_; refine cnd ?_ ?_
   refine uE fun _ => ?_; try (exfalso; omega)
   refine uG fun _ => ?_; try (exfalso; omega)
   refine run ?_; refine aoR fun _ => ?_
   refine run ?_; refine cnd ?_ ?_
   refine uE fun _ => ?_; try (exfalso; omega)
   refine uG fun _ => ?_; try (exfalso; omega)
   refine run ?_; refine aoR fun _ => ?_
   refine run ?_; refine cnd ?_ ?_
   refine uE fun _ => ?_; try (exfalso; omega)
   refine uG fun _ => ?_; try (exfalso; omega)
   refine run ?_; refine aoR fun _ => ?_
   refine run ?_; refine cnd ?_ ?_
   refine uE fun _ => ?_; try (exfalso; omega)
   refine aoR fun _ => ?_; refine run ?_
   apply uO; exact rfl; exact .fn _ _ _; exact rfl; exact hr
   refine run ?_; refine aoR fun _ => ?_
   refine run ?_; refine cnd ?_ ?_
   refine wQ (fun _ => ?_)
   refine aoR fun _ => ?_; refine run ?_
   refine aoR fun _ => ?_; refine run ?_
   rotate_left
   refine cG (fun _ => ?_)
   refine run ?_; refine aoR fun _ => ?_
   refine run ?_; rotate_left
   iterate 2 refine uG fun _ => ?_; try (exfalso; omega)
   ·rename_i hy v24 _
    exact uY (b + 1, (v24, 6), l2 ++ [((a : Int), (b : Int))]) ⟨by dsimp only; omega, by dsimp only; rw [hl2, cW hy, List.append_assoc]⟩ (by dsimp only; omega) (by repeat' (first | exact vH _ | exact uX _ | refine uH rfl ?_ | refine uR rfl ?_ | (refine uK rfl ?_ ?_; (simp <;> rfl)) | (refine uI rfl ?_ ?_; (simp <;> rfl)) | (refine uM rfl ?_ ?_; (simp <;> rfl)))) (by repeat' (first | exact vH _ | exact uX _ | refine uH rfl ?_ | refine uR rfl ?_ | (refine uK rfl ?_ ?_; (simp <;> rfl)) | (refine uI rfl ?_ ?_; (simp <;> rfl)) | (refine uM rfl ?_ ?_; (simp <;> rfl))))
   ·rename_i hy _
    exact uY (b + 1, τ2, l2) ⟨by dsimp only; omega, by dsimp only; rw [hl2, fD (by rw [hy]; decide)]⟩ (by dsimp only; omega) leP leP
  ·have hb : b = x.evs.length := by omega
   subst hb
   refine run ?_; refine aoR fun _ => ?_
   refine run ?_; refine cnd ?_ ?_
   refine uE fun _ => ?_; try (exfalso; omega)
   refine uG fun _ => ?_; try (exfalso; omega)
   refine run ?_; refine aoR fun _ => ?_
   refine run ?_; rotate_left
   exact uY (a + 1, τ2, l2) ⟨by dsimp only; omega, by dsimp only; rw [hl2, aL, hl]⟩ (by dsimp only; omega) leP leP
 ·have f5 : Frozen 5 := ⟨trivial⟩
  have hfz := xD
  refine run ?_; refine aoR fun _ => ?_
  refine run ?_; refine cnd ?_ ?_
  refine uE fun _ => ?_; try (exfalso; omega)
  refine uG fun _ => ?_; try (exfalso; omega)
  refine run ?_; refine aoR fun _ => ?_
  refine run ?_; rotate_left
  refine bF rfl ?_
  have ha : a = x.evs.length := by omega
  rw [hl, ha]; rfl
theorem rPo_p {x : Ex} (h : x.rel) : Pure E.P 24 [exOV x, .int .i64 1] (.d (pairsTV (refPairs x.evs.length (isPo x)))) :=
 rpairs1_p x (by have := h.len; omega) (isPo x) fun a b ha hb => sS x (by have := h.len; omega) a b ha hb
theorem rCo_p {x : Ex} (h : x.rel) : Pure E.P 24 [exOV x, .int .i64 3] (.d (pairsTV (refPairs x.evs.length (isCoB x)))) :=
 rpairs3_p x (by have := h.len; omega) (isCoB x) fun a b ha hb => aY x (by have := h.len; omega) h.ord h.rows a b ha hb
theorem rFr_p {x : Ex} (h : x.rel) : Pure E.P 24 [exOV x, .int .i64 4] (.d (pairsTV (refPairs x.evs.length (isFrB x)))) :=
 rpairs4_p x (by have := h.len; omega) (isFrB x) fun a b ha hb => risFr_p x (by have := h.len; omega) h.ord h.rows h.from_ h.src a b ha hb
def rowD (es : List Ev) (ad : List Int) (i : Nat) (l : List Int) : Bool := !(l.length == 0) && !(l.getD 0 0 != (i : Int)) && l.isPerm (wantTo es (ad.getD i 0) es.length)
def checkD (x : Ex) : Bool := decide (x.evs.length ≤ 64) && evsTo x.evs (addrsTo x.evs) x.evs.length && fromB x.evs x.from_ && decide (x.order.length = (addrsTo x.evs).length) && (List.range x.order.length).all fun i => rowD x.evs (addrsTo x.evs) i (x.order.getD i default).2
theorem sortI_perm {l m : List Int} (h : l.Perm m) (hm : m.Pairwise (· < ·)) : sortI l = m := by
 refine ((List.mergeSort_perm l _).trans h).eq_of_pairwise (le := fun a b : Int => a ≤ b) (fun a b _ _ h1 h2 => by omega) ?_ (hm.imp fun h => by omega)
 exact (List.pairwise_mergeSort (le := fun x y : Int => decide (x ≤ y)) (fun a b c h1 h2 => by simp at *; omega) (fun a b => by simp; omega) l).imp fun h => by simpa using h
theorem checkD_ok {x : Ex} (h : checkD x = true) : checkI x = 0 := by
 unfold checkD at h
 simp only [Bool.and_eq_true, decide_eq_true_eq] at h
 obtain ⟨⟨⟨⟨h1, h2⟩, h3⟩, h4⟩, h5⟩ := h
 have ho : orderB x.evs (addrsTo x.evs) x.order = true := by
  unfold orderB rowsTo
  rw [decide_eq_true h4, Bool.true_and, List.all_eq_true]
  intro i hi
  have := List.all_eq_true.1 h5 i hi
  unfold rowD at this
  unfold rowOk
  simp only [Bool.and_eq_true] at this ⊢
  refine ⟨this.1, ?_⟩
  rw [sortI_perm (List.isPerm_iff.1 this.2) (aC _ _ _)]
  simp
 unfold checkI
 rw [if_neg (by omega), if_neg (by rw [h2]; decide), if_neg (by rw [h3]; decide), if_neg (by rw [ho]; decide)]
instance evOkDec (e : Ev) : Decidable e.ok := by unfold Ev.ok Ev.wf; infer_instance
def exD (x : Ex) : Bool := checkD x && x.evs.all (fun e => decide e.ok) && decide (x.from_.length ≤ 65536) && decide (x.order.length ≤ 65536) && x.order.all fun r => decide (r.2.length ≤ 65536)
theorem exD_rel {x : Ex} (h : exD x = true) : x.rel := by
 unfold exD at h
 simp only [Bool.and_eq_true, decide_eq_true_eq, List.all_eq_true] at h
 obtain ⟨⟨⟨⟨h1, h2⟩, h3⟩, h4⟩, h5⟩ := h
 have hc := checkD_ok h1
 have hl : x.evs.length ≤ 64 := by
  unfold checkD at h1
  simp only [Bool.and_eq_true, decide_eq_true_eq] at h1
  exact h1.1.1.1.1
 exact ⟨⟨⟨by omega, h2, by omega, by omega, fun r hr => by have := h5 r hr; omega⟩, fun r hr => h5 r hr⟩, hc⟩
set_option maxRecDepth 100000
def evp (hart kind val : Int) (rsv : Bool) : Ev := ⟨hart, kind, 0, val, 0, false, false, 0, 0, rsv, ⟨none, 0, 0⟩, ⟨none, 0, 0⟩, ⟨none, 0, 0⟩, [], [], []⟩
def prEs : Nat → List Ev
 | 0 => [evp (-1) 5 0 false, evp 0 1 0 true, evp 0 2 9 true]
 | i + 1 => prEs i ++ [evp 1 2 (1 + (i : Int)) false]
def prFs : Nat → List Int
 | 0 => [-1, 0, -1]
 | i + 1 => prFs i ++ [-1]
def prI (at_ : Nat) (l : List Int) : List Int := if l.length = at_ then l ++ [2] else l
def prL (at_ : Nat) : Nat → List Int
 | 0 => [0]
 | i + 1 => prI at_ (prL at_ i) ++ [3 + (i : Int)]
def prF (n at_ : Nat) : List Int := if (prL at_ n).length < n + 2 then prL at_ n ++ [2] else prL at_ n
def prSrc (n at_ j : Nat) : Nat := if (prF n at_).getD j 0 = 2 then 0 else ((prF n at_).getD j 0).toNat
def prX (n at_ j : Nat) : Ex := ⟨default, default, default, (prEs n).set 1 { evp 0 1 0 true with rval := ((prEs n).getD (prSrc n at_ j) default).val }, (prFs n).set 1 (prSrc n at_ j : Int), [(default, prF n at_)]⟩
theorem prI_len (a : Nat) (l : List Int) : l.length ≤ (prI a l).length ∧ (prI a l).length ≤ l.length + 1 := by
 unfold prI
 split <;> simp
theorem nO (a : Nat) : ∀ i, i + 1 ≤ (prL a i).length ∧ (prL a i).length ≤ 2 * i + 1
 | 0 => by simp [prL]
 | i + 1 => by
  have h1 := nO a i
  have h2 := prI_len a (prL a i)
  rw [prL, List.length_append]
  simp only [List.length_cons, List.length_nil]
  omega
theorem fE : ∀ n, (prEs n).length = n + 3
 | 0 => rfl
 | n + 1 => by rw [prEs, List.length_append, fE n]; rfl
theorem jW : ∀ n, (prFs n).length = n + 3
 | 0 => rfl
 | n + 1 => by rw [prFs, List.length_append, jW n]; rfl
theorem oW : ∀ n, (prEs n)[1]? = some (evp 0 1 0 true)
 | 0 => rfl
 | n + 1 => by rw [prEs, List.getElem?_append_left (by rw [fE]; omega), oW n]
def prOk (n a : Nat) : Bool := decide ((prF n a).length = n + 2) && (List.range (n + 2)).all fun j => exD (prX n a j) && decide (prSrc n a j < n + 3) && decide (0 ≤ (prF n a).getD j 0)
theorem pr_ok : ((List.range 5).all fun n => (List.range (n + 1)).all fun a => prOk n (a + 1)) = true := by decide +kernel
theorem pr_all (n : Nat) (hn : n < 5) (a : Nat) (h1 : 1 ≤ a) (h2 : a ≤ n + 1) : (prF n a).length = n + 2 ∧ ∀ j, j < n + 2 → exD (prX n a j) = true ∧ prSrc n a j < n + 3 ∧ 0 ≤ (prF n a).getD j 0 := by
 have h := List.all_eq_true.1 (List.all_eq_true.1 pr_ok n (by simpa using hn)) (a - 1) (by simp; omega)
 rw [show a - 1 + 1 = a by omega] at h
 unfold prOk at h
 simp only [Bool.and_eq_true, decide_eq_true_eq, List.all_eq_true, List.mem_range] at h
 exact ⟨h.1, fun j hj => ⟨(h.2 j hj).1.1, (h.2 j hj).1.2, (h.2 j hj).2⟩⟩
end Go.Proofs.YtnkocjkkefnelaaGreat
