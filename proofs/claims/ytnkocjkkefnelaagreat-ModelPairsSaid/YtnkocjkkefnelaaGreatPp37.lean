/- Parts. -/
import Derived.Test.YtnkocjkkefnelaaGreatPp4
import Derived.Test.YtnkocjkkefnelaaGreatPp5
import Derived.Test.YtnkocjkkefnelaaGreatPp6
import Derived.Test.YtnkocjkkefnelaaGreatPp35
import Derived.Test.YtnkocjkkefnelaaGreatPp36
set_option linter.unusedVariables false
set_option linter.unusedSimpArgs false
set_option maxHeartbeats 4000000
set_option maxHeartbeats 4000000
set_option maxRecDepth 100000
namespace Go.Proofs.YtnkocjkkefnelaaGreat
open Go.RowKit
def canB (x : Ex) (l : List Int) (n k : Nat) : Bool := !decide (l.getD k 0 = (n : Int)) && (x.evs.getD (l.getD k 0).toNat default).stB && decide ((x.evs.getD (l.getD k 0).toNat default).addr = (x.evs.getD n default).addr) && (decide ((k : Int) < atI l n) || isPo x (l.getD k 0).toNat n)
def seesTo (x : Ex) (l : List Int) (n : Nat) : Nat → Int
 | 0 => -1
 | k + 1 => if canB x l n k = true then l.getD k 0 else seesTo x l n k
def InEv (x : Ex) (l : List Int) : Prop := ∀ k, k < l.length → 0 ≤ l.getD k 0 ∧ l.getD k 0 < x.evs.length
set_option maxHeartbeats 4000000 in
theorem sees_p (x : Ex) (hx : x.evs.length ≤ 65536) (l : List Int) (hl : l.length ≤ 65536) (hi : InEv x l) (n : Nat) (hn : n < x.evs.length) : Pure E.P 73 [exOV x, .d (ints l), .int .i64 n] (.int .i64 (seesTo x l n l.length)) := by
 have f3 : Frozen 3 := ⟨trivial⟩
 have hat := lK l n (by omega)
 refine fnA Tryz.func73 Tryz.ntmps73 ?_
 refine run ?_; refine aoR fun _ => ?_
 refine run ?_; refine aoR fun _ => ?_
 refine run ?_
 apply uO; exact rfl; exact .fn _ _ _; exact rfl; (exact hat)
 refine run ?_; refine aoR fun _ => ?_
 refine run ?_; rotate_left
 refine uS (X := Nat) (fun k => tmL [(1, .d (ints l)), (2, .int .i64 n), (3, .d (.pt (exRow x) 0)), (7, .int .i64 (atI l n)), (8, .int .i64 (seesTo x l n k)), (9, .int .i64 k)]) (fun _ => stL []) (fun k => k ≤ l.length) (fun k => l.length - k) 0 (Nat.zero_le _) leP leP ?_
 intro k hk
 by_cases hlt : k < l.length
 ·have hb := hi k hlt
  have hpo : Pure E.P 44 [exOV x, .int .i64 (l.getD k 0), .int .i64 n] (.bool (isPo x (l.getD k 0).toNat n)) := by
   have h := sS x hx (l.getD k 0).toNat n (by omega) hn
   rw [Int.toNat_of_nonneg hb.1] at h
   exact h
  have hb1 : 0 ≤ l.getD (k : Int).toNat 0 ∧ l.getD (k : Int).toNat 0 < x.evs.length := hb
  refine run ?_; refine aoR fun _ => ?_
  refine run ?_; refine cnd ?_ ?_
  refine uE fun _ => ?_; try (exfalso; omega)
  refine run ?_; refine aoR fun _ => ?_
  refine run ?_
  refine uU (E := E) ?_ (fun _ => ?_); exact rfl
  refine run ?_
  apply dpT; exact rfl
  intro hc_
  have hp_ := hc_; try simp only [nrm] at hp_
  apply vA; (exact EvM.plain rfl rfl); exact .fn _ _ _; exact vQ; (exact wN _)
  refine run ?_
  apply aR; exact rfl; exact rfl
  intro hc_
  have hp_ := hc_; try simp only [nrm] at hp_
  apply vA; (exact EvM.plain rfl rfl); exact .fn _ _ _; exact vQ; (exact hpo)
  refine run ?_; refine cnd ?_ ?_
  iterate 3 refine xC ?_
  refine wL (fun _ => ?_); (try (exfalso; omega))
  refine wQ (fun _ => ?_)
  refine uE fun _ => ?_; try (exfalso; omega)
  refine xG (fun hc_ => ?_); (try simp only [nrm] at hc_)
  refine aoR fun _ => ?_; refine run ?_
  refine aoR fun _ => ?_; refine run ?_
  rotate_left
  refine wT (fun hc_ => ?_); (try simp only [nrm] at hc_)
  refine run ?_; refine aoR fun _ => ?_
  refine run ?_; rotate_left
  refine uG fun _ => ?_; try (exfalso; omega)
  ·rename_i n0 n1 n2 _ _
   have hy : canB x l n k = true := by
    unfold canB
    rw [decide_eq_false (show ¬ l.getD k 0 = (n : Int) from n0), show (x.evs.getD (l.getD k 0).toNat default).stB = true from n1, decide_eq_true (show (x.evs.getD (l.getD k 0).toNat default).addr = (x.evs.getD n default).addr from n2)]
    simpa using hc_
   refine uY (k + 1) (by omega) (by omega) (by repeat' (first | exact vH _ | exact uX _ | refine uH rfl ?_ | refine uR rfl ?_ | (refine uK rfl ?_ ?_; ((rw [seesTo, if_pos hy]; rfl))) | (refine uI rfl ?_ ?_; ((rw [seesTo, if_pos hy]; rfl))) | (refine uM rfl ?_ ?_; ((rw [seesTo, if_pos hy]; rfl))))) leP
  ·have hy : ¬ canB x l n k = true := by
    unfold canB
    simp only [Bool.and_eq_true, Bool.or_eq_true, Bool.not_eq_true', decide_eq_true_eq, decide_eq_false_iff_not]
    rintro ⟨⟨⟨g1, g2⟩, g3⟩, g4⟩
    rcases hc_ with ((h | h) | h) | ⟨h, h'⟩
    ·exact g1 h
    ·have h : (x.evs.getD (l.getD k 0).toNat default).stB = false := h
     rw [h] at g2; exact absurd g2 (by decide)
    ·exact h g3
    ·rcases g4 with g4 | g4
     ·omega
     ·rw [h'] at g4; exact absurd g4 (by decide)
   refine uY (k + 1) (by omega) (by omega) (by repeat' (first | exact vH _ | exact uX _ | refine uH rfl ?_ | refine uR rfl ?_ | (refine uK rfl ?_ ?_; ((rw [seesTo, if_neg hy]))) | (refine uI rfl ?_ ?_; ((rw [seesTo, if_neg hy]))) | (refine uM rfl ?_ ?_; ((rw [seesTo, if_neg hy]))))) leP
 ·have e : k = l.length := by omega
  subst e
  refine run ?_; refine aoR fun _ => ?_
  refine run ?_; refine cnd ?_ ?_
  refine uE fun _ => ?_; try (exfalso; omega)
  refine uG fun _ => ?_; try (exfalso; omega)
  refine run ?_; refine aoR fun _ => ?_
  refine run ?_; rotate_left
  exact wC rfl rfl
def aheadB (x : Ex) (l : List Int) (i k : Nat) : Bool := isPpo x (l.getD k 0).toNat (l.getD i 0).toNat || isCoB x (l.getD k 0).toNat (l.getD i 0).toNat
def seeB (x : Ex) (l : List Int) (i : Nat) : Bool := (x.evs.getD (l.getD i 0).toNat default).ldB && !decide (seesTo x l (l.getD i 0).toNat l.length = x.from_.getD (l.getD i 0).toNat 0)
def rightAt (x : Ex) (l : List Int) (i : Nat) : Bool := ((List.range l.length).all fun k => decide (k ≤ i) || !aheadB x l i k) && !seeB x l i
def rightB (x : Ex) (l : List Int) : Bool := (List.range l.length).all fun i => rightAt x l i
theorem lY {x : Ex} {l : List Int} {i : Nat} (hi : i < l.length) (h : rightAt x l i = false) : rightB x l = false := by
 refine Bool.eq_false_iff.2 fun h' => ?_
 have := List.all_eq_true.1 h' i (List.mem_range.2 hi)
 rw [h] at this; cases this
set_option maxHeartbeats 4000000 in
theorem right_p (x : Ex) (h : x.rel) (hk : x.rok) (l : List Int) (hl : l.length ≤ 65536) (hi : InEv x l) : Pure E.P 50 [exOV x, .d (ints l)] (.bool (rightB x l)) := by
 have f2 : Frozen 2 := ⟨trivial⟩
 have hx : x.evs.length ≤ 65536 := by have := h.len; omega
 have hlf := h.from_
 refine fnA Tryz.func50 Tryz.ntmps50 ?_
 refine run ?_; refine aoR fun _ => ?_
 refine run ?_; refine aoR fun _ => ?_
 refine run ?_; rotate_left
 refine uS (X := Nat) (fun i => tmL [(1, .d (ints l)), (2, .d (.pt (exRow x) 0)), (5, .int .i64 i)]) (fun _ => stL []) (fun i => i ≤ l.length ∧ ∀ j, j < i → rightAt x l j = true) (fun i => l.length - i) 0 ⟨Nat.zero_le _, fun j hj => by omega⟩ leP leP ?_
 rintro i ⟨hi1, hall⟩
 by_cases hlt : i < l.length
 rotate_left
 ·refine run ?_
  refine aoR fun _ => ?_; refine run ?_
  refine cnd ?_ ?_
  refine uE fun _ => ?_; try (exfalso; omega)
  refine uG fun _ => ?_; try (exfalso; omega)
  refine run ?_; refine aoR fun _ => ?_
  refine run ?_; rotate_left
  refine uV rfl ?_
  unfold rightB
  refine (List.all_eq_true.2 fun j hj => hall j ?_).symm
  have := List.mem_range.1 hj
  omega
 have hb := hi i hlt
 have hb1 : 0 ≤ l.getD (i : Int).toNat 0 ∧ l.getD (i : Int).toNat 0 < x.evs.length := hb
 refine run ?_; refine aoR fun _ => ?_
 refine run ?_; refine cnd ?_ ?_
 refine uE fun _ => ?_; try (exfalso; omega)
 refine run ?_; refine aoR fun _ => ?_
 refine run ?_; rotate_left
 refine uG fun _ => ?_; try (exfalso; omega)
 refine uS (X := Nat) (fun k => tmL [(1, .d (ints l)), (2, .d (.pt (exRow x) 0)), (5, .int .i64 i), (6, .int .i64 k)]) (fun _ => stL []) (fun k => k ≤ l.length ∧ i < k ∧ ∀ j, i < j → j < k → aheadB x l i j = false) (fun k => l.length - k) (i + 1) ⟨by omega, by omega, fun j h1 h2 => by omega⟩ (by repeat' (first | exact vH _ | exact uX _ | refine uH rfl ?_ | refine uR rfl ?_ | (refine uK rfl ?_ ?_; (omega)) | (refine uI rfl ?_ ?_; (omega)) | (refine uM rfl ?_ ?_; (omega)))) leP ?_
 rintro k ⟨hk1, hik, hbad⟩
 by_cases hlt2 : k < l.length
 ·have hc := hi k hlt2
  have hc1 : 0 ≤ l.getD (k : Int).toNat 0 ∧ l.getD (k : Int).toNat 0 < x.evs.length := hc
  have u1 : Pure E.P 47 [exOV x, .int .i64 (l.getD k 0), .int .i64 (l.getD i 0)] (.bool (isPpo x (l.getD k 0).toNat (l.getD i 0).toNat)) := by
   have h := rppo_p x hk (l.getD k 0).toNat (l.getD i 0).toNat (by omega) (by omega)
   rw [Int.toNat_of_nonneg hb.1, Int.toNat_of_nonneg hc.1] at h
   exact h
  have u2 : Pure E.P 42 [exOV x, .int .i64 (l.getD k 0), .int .i64 (l.getD i 0)] (.bool (isCoB x (l.getD k 0).toNat (l.getD i 0).toNat)) := by
   have h := aY x hx h.ord h.rows (l.getD k 0).toNat (l.getD i 0).toNat (by omega) (by omega)
   rw [Int.toNat_of_nonneg hb.1, Int.toNat_of_nonneg hc.1] at h
   exact h
  refine run ?_; refine aoR fun _ => ?_
  refine run ?_; refine cnd ?_ ?_
  refine uE fun _ => ?_; try (exfalso; omega)
  refine run ?_
  refine uU (E := E) ?_ (fun _ => ?_); exact rfl
  refine run ?_
  apply wM; exact rfl; exact .fn _ _ _; exact rfl; (exact u1)
  refine run ?_
  apply dpF; exact rfl
  intro hc_
  have hp_ := hc_; try simp only [nrm] at hp_
  apply vA; (exact EvM.plain rfl rfl); exact .fn _ _ _; exact vQ; (exact u2)
  refine run ?_; refine cnd ?_ ?_
  refine xG (fun hc_ => ?_); (try simp only [nrm] at hc_)
  refine run ?_; refine aoR fun _ => ?_
  refine run ?_; rotate_left
  refine xM ?_
  iterate 2 (refine cG (fun _ => ?_))
  refine run ?_; refine aoR fun _ => ?_
  refine run ?_; rotate_left
  refine uG fun _ => ?_; try (exfalso; omega)
  ·refine uV rfl ?_
   refine (lY hlt ?_).symm
   unfold rightAt
   have : ((List.range l.length).all fun k => decide (k ≤ i) || !aheadB x l i k) = false := by
    refine Bool.eq_false_iff.2 fun h' => ?_
    have h1 := List.all_eq_true.1 h' k (List.mem_range.2 hlt2)
    rw [decide_eq_false (by omega), show aheadB x l i k = true by unfold aheadB; simpa using hc_] at h1
    cases h1
   rw [this]; rfl
  ·have g1 : isPpo x (l.getD k 0).toNat (l.getD i 0).toNat = false := by assumption
   have g2 : isCoB x (l.getD k 0).toNat (l.getD i 0).toNat = false := by assumption
   refine uY (k + 1) ⟨by omega, by omega, fun j h1 h2 => ?_⟩ (by omega) leP leP
   rcases Nat.lt_or_ge j k with e | e
   ·exact hbad j h1 e
   ·have e : j = k := by omega
    rw [e]
    unfold aheadB
    rw [g1, g2]; rfl
 ·have e : k = l.length := by omega
  subst e
  have hs := sees_p x hx l hl hi (l.getD i 0).toNat (by omega)
  rw [Int.toNat_of_nonneg hb.1] at hs
  have hrow : ((List.range l.length).all fun k => decide (k ≤ i) || !aheadB x l i k) = true := by
   refine List.all_eq_true.2 fun j hj => ?_
   have := List.mem_range.1 hj
   by_cases e : j ≤ i
   ·rw [decide_eq_true e]; rfl
   ·rw [hbad j (by omega) this]; simp
  refine run ?_; refine aoR fun _ => ?_
  refine run ?_; refine cnd ?_ ?_
  refine uE fun _ => ?_; try (exfalso; omega)
  refine uG fun _ => ?_; try (exfalso; omega)
  refine run ?_
  refine uU (E := E) ?_ (fun _ => ?_); exact rfl
  refine run ?_
  apply wM; exact rfl; exact .fn _ _ _; exact rfl; (exact xP _)
  refine run ?_
  apply dpT; exact rfl
  intro hc_
  have hp_ := hc_; try simp only [nrm] at hp_
  apply vA; (exact EvM.plain rfl rfl); exact .fn _ _ _; exact vQ; (exact hs)
  refine run ?_; refine cnd ?_ ?_; refine xC ?_
  refine wQ (fun _ => ?_)
  refine wL (fun _ => ?_); (try (exfalso; omega))
  refine run ?_; refine aoR fun _ => ?_
  refine run ?_; rotate_left
  refine wT (fun hc_ => ?_); (try simp only [nrm] at hc_)
  refine run ?_; refine aoR fun _ => ?_
  refine run ?_; rotate_left
  ·rename_i n0 n1 _
   refine uV rfl ?_; refine (lY hlt ?_).symm
   unfold rightAt seeB
   rw [show (x.evs.getD (l.getD i 0).toNat default).ldB = true from n0, decide_eq_false (show ¬ seesTo x l (l.getD i 0).toNat l.length = x.from_.getD (l.getD i 0).toNat 0 from n1)]
   simp
  ·have g0 := hc_
   refine uY (i + 1) ⟨by omega, fun j hj => ?_⟩ (by omega) leP leP
   rcases Nat.lt_or_ge j i with e | e
   ·exact hall j e
   ·have e : j = i := by omega
    rw [e]
    unfold rightAt seeB
    rw [hrow]
    rcases g0 with g | g
    ·rw [show (x.evs.getD (l.getD i 0).toNat default).ldB = false from g]; rfl
    ·rw [decide_eq_true (show seesTo x l (l.getD i 0).toNat l.length = x.from_.getD (l.getD i 0).toNat 0 from g)]; simp
set_option maxHeartbeats 4000000
set_option maxRecDepth 100000
def nums (o : List Nat) : List Int := o.map fun a : Nat => (a : Int)
theorem xF (o : List Nat) : (nums o).length = o.length := List.length_map ..
theorem xK (o : List Nat) (i : Nat) : (nums o).getD i 0 = ((o.getD i 0 : Nat) : Int) := by
 unfold nums
 rw [List.getD_eq_getElem?_getD, List.getD_eq_getElem?_getD, List.getElem?_map]
 cases o[i]? <;> rfl
theorem nums_in {x : Ex} {o : List Nat} (h : ∀ a ∈ o, a < x.evs.length) : InEv x (nums o) := fun k hk => by
 rw [xF] at hk
 rw [xK]
 have := h _ (wX hk)
 omega
theorem jA (o : List Nat) (a : Nat) : ∀ k : Nat, (0 ≤ atFrom (a : Int) (nums o) k ↔ a ∈ o) ∧ (a ∈ o → atFrom (a : Int) (nums o) k = ((k + ixN o a : Nat) : Int)) := by
 induction o with
 | nil => intro k; exact ⟨by simp [nums, atFrom], by simp⟩
 | cons b o ih =>
  intro k
  have e : nums (b :: o) = (b : Int) :: nums o := rfl
  rw [e, atFrom]
  by_cases hb : b = a
  ·subst hb
   rw [if_pos rfl]
   refine ⟨⟨fun _ => List.mem_cons_self .., fun _ => by omega⟩, fun _ => ?_⟩
   simp [ixN]
  ·rw [if_neg (by omega)]
   obtain ⟨h1, h2⟩ := ih (k + 1)
   refine ⟨⟨fun h => List.mem_cons_of_mem _ (h1.1 h), fun h => ?_⟩, fun h => ?_⟩
   ·rcases List.mem_cons.1 h with h | h
    ·exact (hb h.symm).elim
    ·exact h1.2 h
   ·rcases List.mem_cons.1 h with h | h
    ·exact (hb h.symm).elim
    ·rw [h2 h]
     simp only [ixN, if_neg hb]
     omega
set_option maxHeartbeats 8000000 in
theorem rsome_p (x : Ex) (h : x.rel) (hk : x.rok) (all : List Nat) (hal : all.length ≤ 64) (hai : ∀ a ∈ all, a < x.evs.length) : ∀ (d : Nat) (o : List Nat), o.length + d = all.length → (∀ a ∈ o, a < x.evs.length) →
  Pure E.P 34 [exOV x, .d (ints (nums o)), .d (ints (nums all))] (.bool (tryB (fun o => rightB x (nums o)) all d o)) := by
 intro d
 induction d with
 | zero =>
  intro o ho hoi
  have f3 : Frozen 3 := ⟨trivial⟩
  have ho1 := xF o
  have ho2 := xF all
  have hr := right_p x h hk (nums o) (by omega) (nums_in hoi)
  refine fnA Tryz.func34 Tryz.ntmps34 ?_
  refine run ?_; refine aoR fun _ => ?_
  refine run ?_; refine aoR fun _ => ?_
  refine run ?_; refine cnd ?_ ?_
  refine uE fun _ => ?_; try (exfalso; omega)
  refine run ?_; refine aoR fun _ => ?_
  refine run ?_
  apply uO; exact rfl; exact .fn _ _ _; exact rfl; (exact hr)
  refine run ?_; rotate_left
  refine uG fun _ => ?_; try (exfalso; omega)
  exact uV rfl rfl
 | succ d ih =>
  intro o ho hoi
  have f3 : Frozen 3 := ⟨trivial⟩
  have f38 : Frozen 38 := ⟨trivial⟩
  have ho1 := xF o
  have ho2 := xF all
  refine fnA Tryz.func34 Tryz.ntmps34 ?_
  refine run ?_; refine aoR fun _ => ?_
  refine run ?_; refine aoR fun _ => ?_
  refine run ?_; refine cnd ?_ ?_
  refine uE fun _ => ?_; try (exfalso; omega)
  refine uG fun _ => ?_; try (exfalso; omega)
  refine run ?_; refine aoR fun _ => ?_
  refine run ?_; rotate_left
  refine uS (X := Nat) (fun i => tmL [(1, .d (ints (nums o))), (2, .d (ints (nums all))), (3, .d (.pt (exRow x) 0)), (7, .int .i64 i)]) (fun _ => stL []) (fun i => i ≤ all.length ∧ ∀ j, j < i → (!o.contains (all.getD j 0) && tryB (fun o => rightB x (nums o)) all d (o ++ [all.getD j 0])) = false) (fun i => all.length - i) 0 ⟨Nat.zero_le _, fun j hj => by omega⟩ leP leP ?_
  rintro i ⟨hi, hno⟩
  by_cases hlt : i < all.length
  ·have hai' := hai _ (wX hlt)
   have hix : (nums all).getD i 0 = ((all.getD i 0 : Nat) : Int) := xK all i
   have hat := lK (nums o) ((nums all).getD i 0) (by omega)
   have hrec : Pure E.P 34 [exOV x, .d (.sl 1 ((nums o).map cell ++ [cell ((nums all).getD i 0)])), .d (ints (nums all))] (.bool (tryB (fun o => rightB x (nums o)) all d (o ++ [all.getD i 0]))) := by
    have h1 := ih (o ++ [all.getD i 0]) (by rw [List.length_append, List.length_singleton]; omega) (fun a ha => by
     rcases List.mem_append.1 ha with ha | ha
     ·exact hoi a ha
     ·rw [List.mem_singleton.1 ha]; exact hai')
    rw [hix]
    have e : ints (nums (o ++ [all.getD i 0])) = .sl 1 ((nums o).map cell ++ [cell ((all.getD i 0 : Nat) : Int)]) := by
     unfold ints nums
     rw [List.map_append, List.map_append]; rfl
    rw [e] at h1
    exact h1
   have hcon : atI (nums o) ((nums all).getD i 0) < 0 ↔ o.contains (all.getD i 0) = false := by
    rw [hix]
    have := (jA o (all.getD i 0) 0).1
    unfold atI
    rw [Bool.eq_false_iff, ne_eq, List.contains_iff_mem, ← this]
    omega
   refine uT ?_; refine aoR fun _ => ?_
   refine uT ?_; refine cnd ?_ ?_
   refine uE fun _ => ?_; try (exfalso; omega)
   refine uT ?_
   refine uU (E := E) ?_ (fun _ => ?_); exact rfl
   refine uT ?_
   apply wM; exact rfl; exact .fn _ _ _; exact rfl; (exact hat)
   refine uT ?_
   apply uA; exact rfl; exact rfl
   refine uE fun _ => ?_; try (exfalso; omega)
   refine uT ?_
   apply uA; exact rfl; exact rfl
   refine uN ?_; refine uT ?_
   apply uA; exact rfl; exact rfl
   refine uN ?_; refine uT ?_
   apply uA; exact rfl; exact rfl
   refine uN ?_; refine uT ?_
   apply uA; exact rfl; exact rfl
   refine uN ?_; refine uT ?_
   apply uA; exact rfl; exact rfl
   refine uN ?_; refine uT ?_
   apply uA; exact rfl; exact rfl
   refine uN ?_; refine uT ?_
   apply uA; exact rfl; exact rfl
   refine uN ?_; refine uT ?_
   apply uA; exact rfl; exact rfl
   refine uN ?_; refine uT ?_
   apply uA; exact rfl; exact rfl
   refine uN ?_; refine uT ?_
   apply uA; exact rfl; exact rfl
   refine uN ?_
   apply wM; exact rfl; exact .fn _ _ _; exact rfl; (exact hrec)
   refine uT ?_; refine cnd ?_ ?_; refine xC ?_; refine uN ?_
   refine wQ (fun _ => ?_)
   refine uT ?_; refine aoR fun _ => ?_
   refine uT ?_; rotate_left
   refine wT (fun hc_ => ?_); (try simp only [nrm] at hc_)
   refine uT ?_; refine aoR fun _ => ?_
   refine uT ?_; rotate_left
   iterate 10 exact wR
   refine uG fun _ => ?_; try (exfalso; omega)
   apply uA; exact rfl; exact rfl
   exact uL
   refine uJ ?_
   apply uA; exact rfl; exact rfl
   exact uL
   refine uJ ?_
   apply uA; exact rfl; exact rfl
   exact uL
   refine uJ ?_
   apply uA; exact rfl; exact rfl
   exact uL
   refine uJ ?_
   apply uA; exact rfl; exact rfl
   exact uL
   refine uJ ?_
   apply uA; exact rfl; exact rfl
   exact uL
   refine uJ ?_
   apply uA; exact rfl; exact rfl
   exact uL
   refine uJ ?_
   apply uA; exact rfl; exact rfl
   exact uL
   refine uJ ?_
   apply uA; exact rfl; exact rfl
   exact uL
   refine uJ ?_
   apply uA; exact rfl; exact rfl
   exact uL
   refine uJ ?_; refine uT ?_; refine cnd ?_ ?_
   exact uL
   refine uJ ?_; refine uT ?_; refine aoR fun _ => ?_
   refine uT ?_; rotate_left
   refine uG fun _ => ?_; try (exfalso; omega)
   ·rename_i n1 n2 _
    refine uV rfl ?_
    unfold tryB
    refine (List.any_eq_true.2 ⟨all.getD i 0, wX hlt, ?_⟩).symm
    rw [hcon.1 n1, n2]; rfl
   ·have g1 : tryB (fun o => rightB x (nums o)) all d (o ++ [all.getD i 0]) = false := hc_.resolve_left (by decide)
    refine uY (i + 1) ⟨by omega, fun j hj => ?_⟩ (by omega) leP leP
    rcases Nat.lt_or_ge j i with e | e
    ·exact hno j e
    ·rw [show j = i by omega, g1]; simp
   ·rename_i n1 _
    refine uY (i + 1) ⟨by omega, fun j hj => ?_⟩ (by omega) leP leP
    rcases Nat.lt_or_ge j i with e | e
    ·exact hno j e
    ·rw [show j = i by omega]
     have g1 : o.contains (all.getD i 0) = true := by
      cases g : o.contains (all.getD i 0) with
      | true => rfl
      | false => exact (n1 (hcon.2 g)).elim
     rw [g1]; rfl
  ·have e : i = all.length := by omega
   subst e
   refine run ?_; refine aoR fun _ => ?_
   refine run ?_; refine cnd ?_ ?_
   refine uE fun _ => ?_; try (exfalso; omega)
   refine uG fun _ => ?_; try (exfalso; omega)
   refine run ?_; refine aoR fun _ => ?_
   refine run ?_; rotate_left
   refine uV rfl ?_
   unfold tryB
   symm
   rw [List.any_eq_false]
   intro a ha
   obtain ⟨j, hj, rfl⟩ := List.getElem_of_mem ha
   have := hno j hj
   rw [List.getD_eq_getElem?_getD, List.getElem?_eq_getElem hj] at this
   simpa using this
def allT (x : Ex) (k : Nat) : List Nat := (List.range k).filter fun a => !decide ((x.evs.getD a default).kind = 4)
def begT (x : Ex) (k : Nat) : List Nat := (List.range k).filter fun a => decide ((x.evs.getD a default).kind = 5)
theorem mQ (p : Nat → Bool) (k : Nat) : (List.range (k + 1)).filter p = (List.range k).filter p ++ if p k = true then [k] else [] := by
 rw [List.range_succ, List.filter_append]
 by_cases h : p k = true
 ·rw [if_pos h]; simp [h]
 ·rw [if_neg h]; simp [h]
theorem kJ (p : Nat → Bool) (k : Nat) : ((List.range k).filter p).length ≤ k := Nat.le_trans (List.length_filter_le ..) (by simp)
def byAxB (x : Ex) : Bool := ratB x && tryB (fun o => rightB x (nums o)) (allE x) ((allE x).length - (begE x).length) (begE x)
theorem begE_le (x : Ex) : (begE x).length ≤ (allE x).length := by
 unfold begE allE
 refine List.Sublist.length_le ?_
 have : ((List.range x.evs.length).filter fun a => decide ((x.evs.getD a default).kind = 5)) = ((List.range x.evs.length).filter fun a => !decide ((x.evs.getD a default).kind = 4)).filter fun a => decide ((x.evs.getD a default).kind = 5) := by
  rw [List.filter_filter]
  congr 1
  funext a
  by_cases h : (x.evs.getD a default).kind = 5
  ·rw [h]; rfl
  ·rw [decide_eq_false h]; rfl
 rw [this]
 exact List.filter_sublist
set_option maxHeartbeats 4000000 in
theorem byAxioms_p (x : Ex) (h : x.rel) (hk : x.rok) : Pure E.P 16 [exOV x] (.bool (byAxB x)) := by
 have f1 : Frozen 1 := ⟨trivial⟩
 have hl := h.len
 refine fnA Tryz.func16 Tryz.ntmps16 ?_
 refine run ?_; refine aoR fun _ => ?_
 refine run ?_; refine aoR fun _ => ?_
 refine run ?_; refine aoR fun _ => ?_
 refine run ?_; rotate_left
 rename_i v1 v3 _
 refine uS (X := Nat × Stamp × Stamp × List Int × List Int) (fun p => tmL [(1, .d (.pt (exRow x) 0)), (3, .os 3 p.2.1 1 p.2.2.2.1.length), (4, .os 4 p.2.2.1 1 p.2.2.2.2.length), (5, .int .i64 p.1)]) (fun p => stL [(3, (p.2.1, ⟨1, p.2.2.2.1.map (cellO .i64)⟩)), (4, (p.2.2.1, ⟨1, p.2.2.2.2.map (cellO .i64)⟩))])
  (fun p => p.1 ≤ x.evs.length ∧ p.2.2.2.1 = nums (begT x p.1) ∧ p.2.2.2.2 = nums (allT x p.1)) (fun p => x.evs.length - p.1) (0, (v3, 0), (v3, 1), [], []) ⟨Nat.zero_le _, rfl, rfl⟩ leP leP ?_
 rintro ⟨i, τ3, τ4, l3, l4⟩ ⟨hi, h3, h4⟩
 dsimp only at hi h3 h4 ⊢
 have h3l : l3.length ≤ 64 := by rw [h3, xF]; exact Nat.le_trans (kJ _ _) (by omega)
 have h4l : l4.length ≤ 64 := by rw [h4, xF]; exact Nat.le_trans (kJ _ _) (by omega)
 by_cases hlt : i < x.evs.length
 ·have gb : ∀ p : Nat → Bool, p i = true → nums ((List.range (i + 1)).filter p) = nums ((List.range i).filter p) ++ [(i : Int)] := fun p hp => by
   rw [mQ, if_pos hp]; unfold nums; rw [List.map_append]; rfl
  have gn : ∀ p : Nat → Bool, ¬ p i = true → nums ((List.range (i + 1)).filter p) = nums ((List.range i).filter p) := fun p hp => by
   rw [mQ, if_neg hp, List.append_nil]
  refine run ?_; refine aoR fun _ => ?_
  refine run ?_; refine cnd ?_ ?_
  refine uE fun _ => ?_; try (exfalso; omega)
  refine run ?_; refine aoR fun _ => ?_
  refine run ?_; refine cnd ?_ ?_
  refine wL (fun _ => ?_); (try (exfalso; omega))
  refine aoR fun _ => ?_; refine run ?_
  refine aoR fun _ => ?_; refine run ?_
  refine cnd ?_ ?_
  refine uE fun _ => ?_; try (exfalso; omega)
  refine aoR fun _ => ?_; refine run ?_
  refine aoR fun _ => ?_; refine run ?_
  rotate_left
  refine uG fun _ => ?_; try (exfalso; omega)
  refine run ?_; refine aoR fun _ => ?_
  refine run ?_; rotate_left
  refine wS (fun _ => ?_); (try (exfalso; omega))
  refine run ?_; refine aoR fun _ => ?_
  refine run ?_; refine cnd ?_ ?_
  refine uE fun _ => ?_; try (exfalso; omega)
  refine uG fun _ => ?_; try (exfalso; omega)
  refine run ?_; refine aoR fun _ => ?_
  refine run ?_; rotate_left
  refine uG fun _ => ?_; try (exfalso; omega)
  ·rename_i k4 w6 _ k5 w8 _
   have k4 : ¬ (x.evs.getD i default).kind = 4 := k4
   have k5 : (x.evs.getD i default).kind = 5 := k5
   exact uY (i + 1, (w8, 4), (w6, 4), l3 ++ [(i : Int)], l4 ++ [(i : Int)]) ⟨by dsimp only; omega, by dsimp only; rw [h3]; exact (gb _ (decide_eq_true k5)).symm, by dsimp only; rw [h4]; exact (gb _ (by rw [decide_eq_false k4]; rfl)).symm⟩ (by dsimp only; omega) (by repeat' (first | exact vH _ | exact uX _ | refine uH rfl ?_ | refine uR rfl ?_ | (refine uK rfl ?_ ?_; (simp <;> rfl)) | (refine uI rfl ?_ ?_; (simp <;> rfl)) | (refine uM rfl ?_ ?_; (simp <;> rfl)))) (by repeat' (first | exact vH _ | exact uX _ | refine uH rfl ?_ | refine uR rfl ?_ | (refine uK rfl ?_ ?_; (simp <;> rfl)) | (refine uI rfl ?_ ?_; (simp <;> rfl)) | (refine uM rfl ?_ ?_; (simp <;> rfl))))
  ·rename_i k4 w6 _ k5 _
   have k4 : ¬ (x.evs.getD i default).kind = 4 := k4
   have k5 : ¬ (x.evs.getD i default).kind = 5 := k5
   exact uY (i + 1, τ3, (w6, 4), l3, l4 ++ [(i : Int)]) ⟨by dsimp only; omega, by dsimp only; rw [h3]; exact (gn _ (by rw [decide_eq_false k5]; decide)).symm, by dsimp only; rw [h4]; exact (gb _ (by rw [decide_eq_false k4]; rfl)).symm⟩ (by dsimp only; omega) (by repeat' (first | exact vH _ | exact uX _ | refine uH rfl ?_ | refine uR rfl ?_ | (refine uK rfl ?_ ?_; (simp <;> rfl)) | (refine uI rfl ?_ ?_; (simp <;> rfl)) | (refine uM rfl ?_ ?_; (simp <;> rfl)))) (by repeat' (first | exact vH _ | exact uX _ | refine uH rfl ?_ | refine uR rfl ?_ | (refine uK rfl ?_ ?_; (simp <;> rfl)) | (refine uI rfl ?_ ?_; (simp <;> rfl)) | (refine uM rfl ?_ ?_; (simp <;> rfl))))
  ·rename_i k4 _ k5 _
   have k4 : (x.evs.getD i default).kind = 4 := k4
   have k5 : ¬ (x.evs.getD i default).kind = 5 := k5
   exact uY (i + 1, τ3, τ4, l3, l4) ⟨by dsimp only; omega, by dsimp only; rw [h3]; exact (gn _ (by rw [decide_eq_false k5]; decide)).symm, by dsimp only; rw [h4]; exact (gn _ (by rw [decide_eq_true k4]; decide)).symm⟩ (by dsimp only; omega) leP leP
 ·have e : i = x.evs.length := by omega
  subst e
  have f3 : Frozen 3 := ⟨trivial⟩
  have f4 : Frozen 4 := ⟨trivial⟩
  have hA := mA x h
  have e3 : l3 = nums (begE x) := h3
  have e4 : l4 = nums (allE x) := h4
  have hS := rsome_p x h hk (allE x) (by have := kJ (fun a => !decide ((x.evs.getD a default).kind = 4)) x.evs.length; unfold allE; omega) (fun a ha => List.mem_range.1 (List.mem_filter.1 ha).1) ((allE x).length - (begE x).length) (begE x) (by have := begE_le x; omega) (fun a ha => List.mem_range.1 (List.mem_filter.1 ha).1)
  rw [← e3, ← e4] at hS
  refine uT ?_; refine aoR fun _ => ?_
  refine uT ?_; refine cnd ?_ ?_
  refine uE fun _ => ?_; try (exfalso; omega)
  refine uG fun _ => ?_; try (exfalso; omega)
  refine uT ?_; refine aoR fun _ => ?_
  refine uT ?_
  apply uO; exact rfl; exact .fn _ _ _; exact rfl; (exact hA)
  refine uT ?_
  apply uF; exact rfl; exact rfl
  refine wQ (fun _ => ?_)
  refine uT ?_
  apply uF; exact rfl; exact rfl
  refine uN ?_; refine uT ?_
  apply uF; exact rfl; exact rfl
  refine uN ?_; refine uT ?_
  apply uF; exact rfl; exact rfl
  refine uN ?_
  apply uO; exact rfl; exact .fn _ _ _; exact rfl; (exact hS)
  refine uT ?_; rotate_left
  iterate 3 exact wR
  refine cG (fun _ => ?_)
  apply uF; exact rfl; exact rfl
  exact uL
  refine uJ ?_
  apply uF; exact rfl; exact rfl
  exact uL
  refine uJ ?_
  apply uF; exact rfl; exact rfl
  exact uL
  refine uJ ?_; refine uT ?_; rotate_left
  ·rename_i g
   refine uV rfl ?_
   unfold byAxB
   rw [g]
  ·rename_i g
   refine uV rfl ?_
   unfold byAxB
   rw [g]; rfl
theorem atI_nums {o : List Nat} {a : Nat} (h : a ∈ o) : atI (nums o) (a : Int) = ((ixN o a : Nat) : Int) := by
 unfold atI
 rw [(jA o a 0).2 h, Nat.zero_add]
theorem isPo_iff {x : Ex} {a b : Nat} : isPo x a b = true ↔ (evn x).po a b := by
 unfold isPo Evn.po
 simp only [Bool.and_eq_true, decide_eq_true_eq]
 exact ⟨fun ⟨⟨h1, h2⟩, h3⟩ => ⟨h1, h2, h3⟩, fun ⟨h1, h2, h3⟩ => ⟨⟨h1, h2⟩, h3⟩⟩
theorem fU {x : Ex} {o : List Nat} (hn : o.Nodup) {a : Nat} (ha : a ∈ o) {j : Nat} (hj : j < o.length) : canB x (nums o) a j = true ↔ (evn x).cand o a (o.getD j 0) := by
 unfold canB Evn.cand
 rw [xK, Int.toNat_natCast, atI_nums ha, aP hn hj]
 simp only [Bool.and_eq_true, Bool.or_eq_true, Bool.not_eq_true', decide_eq_true_eq, decide_eq_false_iff_not, isPo_iff]
 constructor
 ·rintro ⟨⟨⟨h1, h2⟩, h3⟩, h4⟩
  exact ⟨fun e => h1 (by rw [e]), h2, h3, h4.imp (fun h => by omega) id⟩
 ·rintro ⟨h1, h2, h3, h4⟩
  exact ⟨⟨⟨fun e => h1 (by omega), h2⟩, h3⟩, h4.imp (fun h => by omega) id⟩
theorem iP (x : Ex) (l : List Int) (n : Nat) : ∀ k, (seesTo x l n k = -1 ∧ ∀ j, j < k → canB x l n j = false) ∨ ∃ j, j < k ∧ canB x l n j = true ∧ seesTo x l n k = l.getD j 0 ∧ ∀ i, j < i → i < k → canB x l n i = false := fun k => by
 induction k with
 | zero => exact Or.inl ⟨rfl, fun j hj => by omega⟩
 | succ k ih =>
  by_cases h : canB x l n k = true
  ·refine Or.inr ⟨k, by omega, h, by rw [seesTo, if_pos h], fun i h1 h2 => by omega⟩
  ·have h' : canB x l n k = false := by simpa using h
   have e : seesTo x l n (k + 1) = seesTo x l n k := by rw [seesTo, if_neg h]
   rcases ih with ⟨h1, h2⟩ | ⟨j, h1, h2, h3, h4⟩
   ·refine Or.inl ⟨e.trans h1, fun j hj => ?_⟩
    rcases Nat.lt_or_ge j k with g | g
    ·exact h2 j g
    ·rw [show j = k by omega]; exact h'
   ·refine Or.inr ⟨j, by omega, h2, e.trans h3, fun i g1 g2 => ?_⟩
    rcases Nat.lt_or_ge i k with g | g
    ·exact h4 i g1 g
    ·rw [show i = k by omega]; exact h'
theorem oT {x : Ex} {o : List Nat} (hn : o.Nodup) {a : Nat} (ha : a ∈ o) {f : Int} (hf : 0 ≤ f) : seesTo x (nums o) a (nums o).length = f ↔ (evn x).sees o a f.toNat := by
 rw [xF]
 constructor
 ·intro h
  rcases iP x (nums o) a o.length with ⟨h1, _⟩ | ⟨j, h1, h2, h3, h4⟩
  ·omega
  ·have e : f.toNat = o.getD j 0 := by rw [← h, h3, xK, Int.toNat_natCast]
   rw [e]
   refine ⟨wX h1, (fU hn ha h1).1 h2, fun m hm hc => ?_⟩
   rw [aP hn h1]
   obtain ⟨g1, g2⟩ := yO hm
   rcases Nat.lt_or_ge j (ixN o m) with g | g
   ·have := h4 _ g g1
    rw [(fU hn ha g1).2 (by rw [g2]; exact hc)] at this
    cases this
   ·exact g
 ·rintro ⟨h1, h2, h3⟩
  obtain ⟨g1, g2⟩ := yO h1
  have hc : canB x (nums o) a (ixN o f.toNat) = true := (fU hn ha g1).2 (by rw [g2]; exact h2)
  rcases iP x (nums o) a o.length with ⟨_, k2⟩ | ⟨j, k1, k2, k3, k4⟩
  ·rw [k2 _ g1] at hc; cases hc
  ·have := h3 _ (wX k1) ((fU hn ha k1).1 k2)
   rw [aP hn k1] at this
   have e : j = ixN o f.toNat := by
    rcases Nat.lt_or_ge j (ixN o f.toNat) with g | g
    ·rw [k4 _ g g1] at hc; cases hc
    ·omega
   rw [k3, xK, e, g2]
   omega
theorem mZ {x : Ex} {o : List Nat} (hi : ∀ a ∈ o, a < x.evs.length) {i k : Nat} (h1 : i < o.length) (h2 : k < o.length) : aheadB x (nums o) i k = true ↔ (evn x).ppo (o.getD k 0) (o.getD i 0) ∨ (evn x).co (o.getD k 0) (o.getD i 0) := by
 unfold aheadB
 rw [xK, xK, Int.toNat_natCast, Int.toNat_natCast, Bool.or_eq_true]
 have a1 := hi _ (wX h1)
 have a2 := hi _ (wX h2)
 exact ⟨fun h => h.imp (fun h => ⟨a2, a1, h⟩) fun h => ⟨a2, a1, h⟩, fun h => h.imp (fun h => h.2.2) fun h => h.2.2⟩
theorem right_iff {x : Ex} (h : x.rel) {o : List Nat} (hn : o.Nodup) (ho : ∀ a, a ∈ o ↔ (evn x).is a) : rightB x (nums o) = true ↔ (evn x).right o := by
 have hE := kK h
 have hi : ∀ a ∈ o, a < x.evs.length := fun a ha => ((ho a).1 ha).1
 unfold rightB
 rw [List.all_eq_true, xF]
 constructor
 ·intro hr
  have hrow : ∀ i, i < o.length → (∀ k, i < k → k < o.length → aheadB x (nums o) i k = false) ∧ seeB x (nums o) i = false := fun i hl => by
   have := hr i (List.mem_range.2 hl)
   unfold rightAt at this
   simp only [Bool.and_eq_true, Bool.not_eq_true', xF] at this
   refine ⟨fun k h1 h2 => ?_, this.2⟩
   have h3 := List.all_eq_true.1 this.1 k (List.mem_range.2 h2)
   rw [decide_eq_false (by omega), Bool.false_or, Bool.not_eq_true'] at h3
   exact h3
  refine ⟨fun a ha b hb hab => ?_, fun a ha hl => ?_⟩
  ·obtain ⟨a1, a2⟩ := yO ha
   obtain ⟨b1, b2⟩ := yO hb
   have hne : a ≠ b := by
    rcases hab with g | g
    ·have := (hE.ppo a b g).1.1
     omega
    ·exact (hE.co a b g).2.2.2
   rcases Nat.lt_or_ge (ixN o a) (ixN o b) with g | g
   ·exact g
   ·have g' : ixN o b < ixN o a := by
     rcases Nat.lt_or_ge (ixN o b) (ixN o a) with g1 | g1
     ·exact g1
     ·exact (hne (nQ ha hb (by omega))).elim
    have := (hrow _ b1).1 _ g' a1
    rw [(mZ hi b1 a1).2 (by rw [a2, b2]; exact hab)] at this
    cases this
  ·obtain ⟨a1, a2⟩ := yO ha
   have hs := (hrow _ a1).2
   unfold seeB at hs
   rw [xK, a2, Int.toNat_natCast, show (x.evs.getD a default).ldB = true from hl, Bool.true_and, Bool.not_eq_false', decide_eq_true_eq] at hs
   have h0 := (h.src a (hi a ha) hl).1
   exact (oT hn ha (by omega)).1 hs
 ·intro hr i hl
  have hl := List.mem_range.1 hl
  have ha := wX hl
  unfold rightAt
  rw [Bool.and_eq_true]
  constructor
  ·rw [List.all_eq_true, xF]
   intro k hk
   have hk := List.mem_range.1 hk
   by_cases e : k ≤ i
   ·rw [decide_eq_true e]; rfl
   ·rw [decide_eq_false e, Bool.false_or, Bool.not_eq_true']
    cases g : aheadB x (nums o) i k with
    | false => rfl
    | true =>
     have := hr.fwd _ (wX hk) _ ha ((mZ hi hl hk).1 g)
     rw [aP hn hk, aP hn hl] at this
     omega
  ·unfold seeB
   rw [xK, Int.toNat_natCast]
   by_cases hld : (x.evs.getD (o.getD i 0) default).ldB = true
   ·have h0 := (h.src _ (hi _ ha) hld).1
    rw [decide_eq_true ((oT hn ha (by omega)).2 (hr.see _ ha hld))]
    simp
   ·rw [Bool.eq_false_iff.2 hld]; rfl
theorem byAx_eq {x : Ex} (h : x.rel) : byAxB x = ((!circleB x.evs.length (rcohL x) && !circleB x.evs.length (gloL x)) && ratB x) := by
 unfold byAxB
 rw [axioms_law h fun o hn ho => right_iff h hn ho, Bool.and_comm]
theorem aT {P : Program} {n : Nat} {c d : Code} {Q : Exit → Tm → Store → Prop} {tm : Tm} {σ : Store} {X : Type} (T : X → Tm) (S : X → Store) (h1 : awp P n c (fun e tm' σ' => e = .normal ∧ ∃ y, (T y).le tm' ∧ (S y).le σ') tm σ) (h2 : ∀ y, awp P n d Q (T y) (S y)) : awp P n (.seq c d) Q tm σ :=
 uB (qD h1 fun e tm' σ' ⟨he, y, ht, hs⟩ => by subst he; exact uC (tC _ _ ht hs (h2 y)))
theorem pX {X : Type} {T : X → Tm} {S : X → Store} {tm : Tm} {σ : Store} (y : X) (ht : (T y).le tm) (hs : (S y).le σ) : Exit.normal = .normal ∧ ∃ y, (T y).le tm ∧ (S y).le σ := ⟨rfl, y, ht, hs⟩
end Go.Proofs.YtnkocjkkefnelaaGreat
