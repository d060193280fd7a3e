/- Parts. -/
import Derived.Test.YtjogffchdejabaaGreatDoorPp3
import Derived.Test.YtjogffchdejabaaGreatDoorPp4
import Derived.Test.YtjogffchdejabaaGreatDoorPp8
import Derived.Test.YtjogffchdejabaaGreatDoorPp9
set_option linter.unusedVariables false
set_option linter.unusedSimpArgs false
set_option maxHeartbeats 4000000
set_option maxRecDepth 100000
namespace Go.Proofs.YtjogffchdejabaaGreatDoor
section
open Go.RowKit Go.Lib
theorem sindex1_p (s : Bt) (c : UInt8) : Pure E.P 195 [.bs s, .bs [c]] (.int .i64 (indexByte s c)) := gE ⟨_, Tryz.func195, by decide, rfl⟩ rfl fun G w vs hr hm => by
 rw [RepOL] at hr
 obtain ⟨v, us, rfl, r0, hr⟩ := hr
 rw [RepOL] at hr
 obtain ⟨v2, us, rfl, r2, hr⟩ := hr
 rw [RepOL] at hr
 subst hr
 rw [vA r0, vA r2]
 have := Tryz.strings_Index_one ⟨s.toArray⟩ c w
 refine this.mono fun e w' ⟨h1, h2⟩ => ⟨h1, ?_⟩
 subst h2
 exact Below.refl _ _
theorem scount1_p (s : Bt) (c : UInt8) : Pure E.P 194 [.bs s, .bs [c]] (.int .i64 (countByte s c)) := gE ⟨_, Tryz.func194, by decide, rfl⟩ rfl fun G w vs hr hm => by
 rw [RepOL] at hr
 obtain ⟨v, us, rfl, r0, hr⟩ := hr
 rw [RepOL] at hr
 obtain ⟨v2, us, rfl, r2, hr⟩ := hr
 rw [RepOL] at hr
 subst hr
 rw [vA r0, vA r2]
 have := Tryz.strings_Count_one ⟨s.toArray⟩ c w
 refine this.mono fun e w' ⟨h1, h2⟩ => ⟨h1, ?_⟩
 subst h2
 exact Below.refl _ _
theorem mC {c : UInt8} : ∀ (w l : Bt), c ∉ w → indexByte (w ++ c :: l) c = w.length
 | [], l, _ => by simp [indexByte]
 | x :: w, l, h => by
  have hx : ¬ x = c := fun e => h (by simp [e])
  have hw : ¬ c ∈ w := fun e => h (List.mem_cons_of_mem _ e)
  have ih := mC w l hw
  have e : indexByte (x :: (w ++ c :: l)) c = (w.length : Int) + 1 := by
   rw [indexByte, if_neg (by simp [hx]), ih, if_neg (by simp)]
  rw [List.cons_append, e]
  rfl
theorem cW {c : UInt8} : ∀ {l w : Bt}, w ∈ splitC c l → c ∉ w
 | [], w, h => by simp [splitC] at h; simp [h]
 | x :: l, w, h => by
  unfold splitC at h
  split at h
  ·rcases List.mem_cons.1 h with h | h
   ·simp [h]
   ·exact cW h
  ·rename_i hx
   cases hs : splitC c l with
   | nil => exact absurd hs (yM c l)
   | cons v vs =>
    rw [hs] at h
    simp only [consW] at h
    have hv : c ∉ v := cW (l := l) (by rw [hs]; simp)
    rcases List.mem_cons.1 h with h | h
    ·rw [h]
     simp only [List.mem_cons, not_or]
     exact ⟨fun e => hx e.symm, hv⟩
    ·exact cW (l := l) (by rw [hs]; simp [h])
theorem zM (c : UInt8) : ∀ l : Bt, (splitC c l).length = countByte l c + 1
 | [] => rfl
 | x :: l => by
  have ih := zM c l
  unfold splitC
  split
  ·rename_i hx
   simp only [List.length_cons, ih, countByte, hx, List.count_cons_self]
  ·rename_i hx
   cases hs : splitC c l with
   | nil => exact absurd hs (yM c l)
   | cons v vs =>
    rw [hs] at ih
    simp only [consW, List.length_cons] at ih ⊢
    rw [ih, countByte, countByte, List.count_cons_of_ne hx]
theorem fV (c : UInt8) (l : Bt) : countByte l c ≤ l.length := List.count_le_length
def restC (c : UInt8) (W : List Bt) (i : Nat) : Bt := joinC c (W.drop i)
theorem lM {c : UInt8} {W : List Bt} {i : Nat} (h : i + 1 < W.length) : restC c W i = W.getD i [] ++ c :: restC c W (i + 1) := by
 unfold restC
 have e : W.drop i = W.getD i [] :: W.drop (i + 1) := by
  rw [List.getD_eq_getElem?_getD, List.getElem?_eq_getElem (by omega), Option.getD_some]
  exact List.drop_eq_getElem_cons (by omega)
 rw [e, jY]
 intro h2
 have := congrArg List.length h2
 rw [List.length_drop] at this
 simp at this
 omega
theorem rest_last {c : UInt8} {W : List Bt} {i : Nat} (h : i + 1 = W.length) : restC c W i = W.getD i [] := by
 unfold restC
 have e : W.drop i = [W.getD i []] := by
  rw [List.getD_eq_getElem?_getD, List.getElem?_eq_getElem (by omega), Option.getD_some]
  rw [List.drop_eq_getElem_cons (by omega), List.drop_eq_nil_of_le (by omega)]
 rw [e]; rfl
def wO (w : Bt) : List OV := [.bs w]
def wTV (w : Bt) : List TV := [.c (.string ⟨w.toArray⟩)]
def rowsW (W : List Bt) (i : Nat) : List (List OV) := (W.take i).map wO ++ List.replicate (W.length - i) (wO [])
theorem lJ {W : List Bt} {i : Nat} (h : i < W.length) : (rowsW W i).set i (wO (W.getD i [])) = rowsW W (i + 1) := by
 unfold rowsW
 have e : W.length - i = (W.length - (i + 1)) + 1 := by omega
 rw [List.set_append_right _ _ (by rw [List.length_map, List.length_take]; omega), e, List.replicate_succ]
 rw [show i - ((W.take i).map wO).length = 0 by rw [List.length_map, List.length_take]; omega, List.set_cons_zero]
 rw [vT W [] i h]
 simp
theorem lK {W : List Bt} {i : Nat} (h : i ≤ W.length) : (rowsW W i).length = W.length := by
 unfold rowsW; simp; omega
theorem oL {W : List Bt} {i : Nat} (h : i < W.length) : (rowsW W i)[i]? = some (wO []) := by
 unfold rowsW
 have hl : ((W.take i).map wO).length = i := by rw [List.length_map, List.length_take]; omega
 rw [List.getElem?_append_right (by omega), hl, Nat.sub_self]
 have e : W.length - i = (W.length - (i + 1)) + 1 := by omega
 rw [e, List.replicate_succ]; rfl
theorem rowsW_all (W : List Bt) : rowsW W W.length = (W.map wTV).map fun r => r.map .d := by
 unfold rowsW
 simp [wO, wTV]
theorem oN {c : UInt8} {W : List Bt} : ∀ {i : Nat}, i + 1 ≤ W.length → (restC c W i).length ≤ (restC c W 0).length
 | 0, _ => Nat.le_refl _
 | i + 1, h => by
  have := oN (c := c) (W := W) (i := i) (by omega)
  rw [lM (by omega)] at this
  simp only [List.length_append, List.length_cons] at this
  omega
set_option maxHeartbeats 4000000 in
theorem genSplit_p (s : Bt) (c : UInt8) (hl : s.length ≤ 65536) : Pure E.P 138 [.bs s, .bs [c], .int .i64 0, .int .i64 (-1)] (.d (.sl 1 ((splitC c s).map wTV))) := by
 have c1 := scount1_p s c
 have hcl := fV c s
 have hsc := zM c s
 obtain ⟨W, hW⟩ : ∃ W, W = splitC c s := ⟨_, rfl⟩
 have hj : restC c W 0 = s := by rw [hW]; exact eG c s
 have hm : ∀ w ∈ W, c ∉ w := fun w hw => cW (by rw [← hW]; exact hw)
 rw [← hW] at hsc ⊢
 refine fnA Tryz.func138 Tryz.ntmps138 ?_
 have e1 : decide (([c] : Bt) = []) = false := by simp
 refine uD (aoR fun _ => ?_)
 refine q51 (vH (uA ?_))
 iterate 2 refine uD ?_
 refine aoR fun _ => ?_; refine q11 ?_; refine q46 (vH (uA ?_))
 refine cnd ?_ ?_
 refine uF fun _ => ?_; try omega
 refine uG fun _ => ?_; try omega
 refine vM (uA ?_)
 iterate 2 refine uD ?_
 refine aoR fun _ => ?_; refine q11 ?_
 apply xG; exact rfl; exact rfl
 refine vH (uA ?_); refine cnd ?_ ?_
 refine vV (fun _ => ?_)
 refine uD (aoR fun _ => ?_)
 iterate 2 refine q11 ?_
 rotate_left
 refine vY (fun _ => ?_)
 refine vM (uA ?_)
 iterate 2 refine uD ?_
 refine aoR fun _ => ?_; refine q11 ?_; refine q37 (vH (uA ?_))
 refine cnd ?_ ?_
 refine uF fun _ => ?_; try omega
 refine aoR fun _ => ?_
 iterate 2 refine q11 ?_
 apply uE; exact rfl; exact .fn _ _ _; exact rfl; exact c1
 refine q36 ?_; refine q12 (vH (uA (uD (aoR fun _ => ?_))))
 iterate 2 refine q11 ?_
 apply vS; exact rfl; exact rfl; exact rfl
 refine q36 ?_
 apply uQ; apply uBF; exact rfl; exact rfl
 refine q12 (vH (uA (uD (aoR fun _ => ?_))))
 refine q11 ?_
 apply uQ; apply iE; exact rfl; exact rfl; exact rfl; decide; exact rfl; exact rfl; omega; (show ((Nat.succ _ : Nat) : Int) * _ ≤ _; omega); omega
 apply uQ; apply uAE; exact rfl; exact rfl
 refine vH (uA (uD (aoR fun _ => ?_)))
 refine q11 ?_
 apply uQ; apply sN; exact rfl; exact rfl; omega
 refine q12 (vH (uA (uD (aoR fun _ => ?_))))
 refine q12 (vH (uA (uD (wH ?_)))); rotate_left
 refine uG fun _ => ?_; try omega
 ·exfalso
  simp at *
 rename_i v0 v1 v2 v3 v4 v5
 have e2 : (if (s.length : Int) + 1 < (countByte s c : Int) + 1 then (s.length : Int) + 1 else (countByte s c : Int) + 1) = (W.length : Int) := by rw [if_neg (by omega)]; omega
 rw [e2]
 refine vB (X := Nat) (fun i => tmL [(0, .bs (restC c W i)), (1, .bs [c]), (2, .int .i64 0), (3, .int .i64 ((W.length : Int) - 1)), (9, .os 9 (v3, 0 + 1 + 1) 1 W.length), (10, .int .i64 i)]) (fun i => stL [(9, ((v3, 0 + 1 + 1), ⟨1, rowsW W i⟩))]) (fun i => i + 1 ≤ W.length) (fun i => W.length - i) 0 (by omega) (by rw [hj]; exact leP) leP ?_
 intro i hi
 by_cases h1 : i + 1 < W.length
 ·have hrl := oN (c := c) hi
  rw [hj] at hrl
  have hrs := lJ (W := W) (i := i) (by omega)
  have hrw := lK (W := W) (i := i) (by omega)
  have hmi := hm (W.getD i []) (by rw [List.getD_eq_getElem?_getD, List.getElem?_eq_getElem (by omega)]; exact List.getElem_mem _)
  have hr := lM (c := c) h1
  obtain ⟨w, hw⟩ : ∃ w, w = W.getD i [] := ⟨_, rfl⟩
  obtain ⟨r, hr'⟩ : ∃ r, r = restC c W (i + 1) := ⟨_, rfl⟩
  rw [← hw] at hrs hmi hr
  rw [← hr'] at hr
  have c2 := sindex1_p (w ++ c :: r) c
  rw [mC w r hmi] at c2
  rw [hr] at hrl ⊢
  have hll : (w ++ c :: r).length = w.length + (r.length + 1) := by simp
  have hc1 : (([c] : Bt).length : Int) = 1 := rfl
  have hat := oL (W := W) (i := i) (by omega)
  iterate 2 refine uD ?_
  refine aoR fun _ => ?_
  iterate 2 refine q11 ?_
  refine q37 (vH (uA ?_)); refine cnd ?_ ?_
  refine uF fun _ => ?_; try omega
  refine vM (uA (wH (uD (aoR fun _ => ?_))))
  iterate 2 refine q11 ?_
  apply uE; exact rfl; exact .fn _ _ _; exact rfl; exact c2
  refine q12 (vH (uA ?_))
  iterate 2 refine uD ?_
  refine aoR fun _ => ?_; refine q11 ?_; refine q37 (vH (uA ?_))
  refine cnd ?_ ?_
  refine uF fun _ => ?_; try omega
  refine uG fun _ => ?_; try omega
  refine vM (uA (uD (aoR fun _ => ?_)))
  iterate 5 refine q11 ?_
  refine q36 ?_
  (apply wN; exact rfl; exact rfl; exact rfl; exact rfl; (exact ⟨_, _, rfl, by omega, rfl⟩); omega; omega)
  apply uQ; apply aH; exact rfl; exact rfl; exact rfl; exact rfl; exact rfl; exact rfl; omega
  refine q15 (vH (uA (uD (aoR fun _ => ?_))))
  iterate 3 refine q11 ?_
  apply vS; exact rfl; exact rfl; exact rfl
  refine q36 ?_
  (apply wN; exact rfl; exact rfl; exact rfl; (exact ⟨_, _, rfl, by omega, rfl⟩); exact rfl; omega; omega)
  refine q12 (vH (uA (aoR fun _ => ?_)))
  refine q11 ?_; refine q36 ?_; refine q12 (vH ?_); refine uBA ?_; refine uA ?_; rotate_left
  refine uG fun _ => ?_; try omega
  have e3 : List.take (List.length (w ++ c :: r) - ((w.length : Int) + (([c] : Bt).length : Nat)).toNat) (List.drop ((w.length : Int) + (([c] : Bt).length : Nat)).toNat (w ++ c :: r)) = r := by
   have e : ((w.length : Int) + (([c] : Bt).length : Nat)).toNat = w.length + 1 := by omega
   have e5 : List.drop (w.length + 1) (w ++ c :: r) = r := by
    rw [← List.drop_drop, List.drop_left' rfl]; rfl
   rw [e, e5, List.take_of_length_le (by omega)]
  have e4 : List.take (((w.length : Int) + 0).toNat - 0) (List.drop 0 (w ++ c :: r)) = w := by
   have e : ((w.length : Int) + 0).toNat - 0 = w.length := by omega
   rw [e, List.drop_zero, List.take_left']
   rfl
  rw [e3, e4]
  exact uU (i + 1) (by omega) (by omega) (by rw [← hr']; exact leP) (by rw [← hrs]; exact leP)
 ·have hil : i + 1 = W.length := by omega
  have hrl := rest_last (c := c) hil
  rw [hrl]
  have hat := oL (W := W) (i := i) (by omega)
  have hrs := lJ (W := W) (i := i) (by omega)
  have hrw := lK (W := W) (i := i) (by omega)
  obtain ⟨w, hw⟩ : ∃ w, w = W.getD i [] := ⟨_, rfl⟩
  rw [← hw] at hrs ⊢
  iterate 2 refine uD ?_
  refine aoR fun _ => ?_
  iterate 2 refine q11 ?_
  refine q37 (vH (uA ?_)); refine cnd ?_ ?_
  refine uF fun _ => ?_; try omega
  refine uG fun _ => ?_; try omega
  refine cJ ?_
  iterate 2 refine qH ?_
  refine uAB ?_; refine uA (uD (aoR fun _ => ?_))
  iterate 3 refine q11 ?_
  apply uQ; apply aH; exact rfl; exact rfl; exact rfl; exact rfl; exact rfl; exact rfl; omega
  refine q15 (vH (uA (uD (aoR fun _ => ?_))))
  iterate 2 refine q11 ?_
  refine q36 ?_
  (apply uQ; apply kW; exact rfl; exact rfl; exact rfl; exact rfl; exact rfl; (first | exact rfl | exact ⟨_, _, rfl, by omega, rfl⟩); (first | exact rfl | exact ⟨_, _, rfl, by omega, rfl⟩); omega; omega)
  refine q12 (vH (uA ?_)); rotate_left
  refine wM 9 (v3, 0 + 1 + 1) 1 (W.map wTV) (tmL [(8, .d (.sl 1 (((W.map wTV).drop 0).take (((i : Int) + 1).toNat - 0))))]) (stL []) ?_ (vK rfl (.vw _ _ (by rw [List.length_map]; omega)) xV) xB ?_
  ·have ha := rowsW_all W
   rw [← hil, ← hrs] at ha
   rw [← ha]; rfl
  ·refine zW (wQ rfl ?_)
   have e : ((i : Int) + 1).toNat - 0 = (W.map wTV).length := by rw [List.length_map]; omega
   rw [e, List.drop_zero, List.take_length]
theorem split_p (s : Bt) (c : UInt8) (hl : s.length ≤ 65536) : Pure E.P 80 [.bs s, .bs [c]] (.d (.sl 1 ((splitC c s).map wTV))) := by
 have c1 := genSplit_p s c hl
 refine fnA Tryz.func80 Tryz.ntmps80 ?_
 refine uD (aoR fun _ => ?_)
 refine q51 (vH (uA (uD (aoR fun _ => ?_))))
 iterate 2 refine q11 ?_
 apply uE; exact rfl; exact .fn _ _ _; exact rfl; exact c1
 refine q12 (vH (uA ?_)); refine zW ?_; rotate_left
 all_goals exact wQ rfl rfl
end
set_option maxRecDepth 100000
section
open Go.RowKit Go.Lib
def hasB (s p : Bt) : Bool := decide (p.length ≤ s.length) && decide (s.take p.length = p)
set_option maxHeartbeats 4000000 in
theorem slhas_p (s p : Bt) (hl : s.length ≤ 1152921504606846976) (hp : p.length ≤ 1152921504606846976) : Pure E.P 141 [.bs s, .bs p] (.bool (hasB s p)) := by
 refine fnA Tryz.func141 Tryz.ntmps141 ?_
 by_cases h : p.length ≤ s.length
 ·refine rZ ?_ 1
  refine aoR fun _ => ?_; refine rZ ?_ 1
  refine aoR fun _ => ?_; refine rZ ?_ 1
  apply vS; exact rfl; exact rfl; exact rfl
  refine rZ ?_ 1
  apply vS; exact rfl; exact rfl; exact rfl
  refine rZ ?_ 1
  apply vE; exact rfl; exact rfl
  refine uF fun _ => ?_; try omega
  refine rZ ?_ 1
  apply vE; exact rfl; exact rfl
  refine uH ?_; refine rZ ?_ 1
  apply vE; exact rfl; exact rfl
  refine uH ?_
  apply vS; exact rfl; exact rfl; exact rfl
  apply vE; exact rfl; exact rfl
  refine uH ?_
  (apply wN; exact rfl; exact rfl; exact rfl; exact rfl; (exact ⟨_, _, rfl, by omega, rfl⟩); omega; omega)
  apply vE; exact rfl; exact rfl
  refine uH ?_; refine rZ ?_ 1
  apply vE; exact rfl; exact rfl
  refine uH ?_
  apply xG; exact rfl; exact rfl
  refine rZ ?_ 1; rotate_left
  iterate 5 exact uI
  refine uG fun _ => ?_; try omega
  all_goals first | (exfalso; omega) | skip
  refine vX rfl ?_
  simp [hasB, h]
 ·have e : hasB s p = false := by unfold hasB; rw [decide_eq_false h]; rfl
  rw [e]
  refine rZ ?_ 1; refine aoR fun _ => ?_
  refine rZ ?_ 1; refine aoR fun _ => ?_
  refine rZ ?_ 1
  apply vS; exact rfl; exact rfl; exact rfl
  refine rZ ?_ 1
  apply vS; exact rfl; exact rfl; exact rfl
  refine rZ ?_ 1
  apply vE; exact rfl; exact rfl
  refine uF fun _ => ?_; try omega
  refine uG fun _ => ?_; try omega
  apply vE; exact rfl; exact rfl
  exact vN
  refine uV ?_
  apply vE; exact rfl; exact rfl
  exact vN
  refine uV ?_
  apply vE; exact rfl; exact rfl
  exact vN
  refine uV ?_
  apply vE; exact rfl; exact rfl
  exact vN
  refine uV ?_
  apply vE; exact rfl; exact rfl
  exact vN
  refine uV ?_; refine rZ ?_ 1; rotate_left
  all_goals first | (exfalso; omega) | exact vX rfl rfl
theorem tN (s p : Bt) (hl : s.length ≤ 1152921504606846976) (hp : p.length ≤ 1152921504606846976) : Pure E.P 88 [.bs s, .bs p] (.bool (hasB s p)) := by
 have c1 := slhas_p s p hl hp
 refine fnA Tryz.func88 Tryz.ntmps88 ?_
 refine rZ ?_; refine aoR fun _ => ?_
 refine rZ ?_; refine aoR fun _ => ?_
 refine rZ ?_
 apply uE; exact rfl; exact .fn _ _ _; exact rfl; exact c1
 refine rZ ?_; rotate_left
 all_goals exact vX rfl rfl
def idxF (v : Bt) : List Bt → Nat → Int
 | [], _ => -1
 | w :: W, k => if w = v then k else idxF v W (k + 1)
theorem idxF_drop (W : List Bt) (v : Bt) (k : Nat) (h : k < W.length) : idxF v (W.drop k) k = if W.getD k default = v then (k : Int) else idxF v (W.drop (k + 1)) (k + 1) := by
 rw [List.drop_eq_getElem_cons h, List.getD_eq_getElem?_getD, List.getElem?_eq_getElem h]; rfl
set_option maxHeartbeats 4000000 in
theorem lG (W : List Bt) (v : Bt) (hl : W.length ≤ 1152921504606846976) : Pure E.P 139 [.d (.sl 1 (W.map wTV)), .bs v] (.int .i64 (idxF v W 0)) := by
 refine fnA Tryz.func139 Tryz.ntmps139 ?_
 refine rZ ?_; refine aoR fun _ => ?_
 refine rZ ?_; refine aoR fun _ => ?_
 refine rZ ?_; rotate_left
 refine vB (X := Nat) (fun k => tmL [(0, .d (.sl 1 (W.map wTV))), (1, .bs v), (7, .int .i64 W.length), (8, .int .i64 k)]) (fun _ => stL []) (fun k => k ≤ W.length ∧ idxF v W 0 = idxF v (W.drop k) k) (fun k => W.length - k) 0 ⟨Nat.zero_le _, rfl⟩ (by repeat' (first | exact vW _ | exact uS _ | refine uL rfl ?_ | refine uY rfl ?_ | (refine vP rfl ?_ ?_; (simp)) | (refine uO rfl ?_ ?_; (simp)) | (refine uP rfl ?_ ?_; (simp)))) leP ?_
 rintro k ⟨hk, ht⟩
 by_cases hlt : k < W.length
 ·have hd := idxF_drop W v k hlt
  refine rZ ?_; refine aoR fun _ => ?_
  refine rZ ?_; refine cnd ?_ ?_
  refine uF fun _ => ?_; try omega
  refine rZ ?_; refine aoR fun _ => ?_
  refine rZ ?_; refine aoR fun _ => ?_
  refine rZ ?_
  apply xG; exact rfl; exact rfl
  refine rZ ?_; refine cnd ?_ ?_
  refine uF fun _ => ?_; try omega
  refine rZ ?_; refine aoR fun _ => ?_
  refine rZ ?_; rotate_left
  refine uG fun _ => ?_; try omega
  refine rZ ?_; refine aoR fun _ => ?_
  refine rZ ?_; rotate_left
  refine uG fun _ => ?_; try omega
  ·rename_i he _
   refine wL rfl ?_
   have he' : v = W.getD k default := he
   rw [ht, hd, if_pos he'.symm]
  ·rename_i he _
   have he' : ¬ v = W.getD k default := he
   refine uU (k + 1) ⟨by omega, ?_⟩ (by omega) leP leP
   rw [ht, hd, if_neg (fun h => he' h.symm)]
 ·have hn : W.drop k = [] := List.drop_eq_nil_of_le (by omega)
  rw [ht, hn]
  refine rZ ?_; refine aoR fun _ => ?_
  refine rZ ?_; refine cnd ?_ ?_
  refine uF fun _ => ?_; try omega
  refine uG fun _ => ?_; try omega
  refine rZ ?_; refine aoR fun _ => ?_
  refine rZ ?_; rotate_left
  all_goals first | exact wL rfl rfl | (exfalso; omega)
end
set_option maxRecDepth 100000
section
open Go.Shelf Go.RowKit Go.Sort Go.Lib
set_option maxHeartbeats 1000000 in
theorem tC : FnW E.P 83 [.bool true] (stL []) (IsW (.tu []) (stL [])) := by
 refine xD Tryz.func83 (by decide) rfl Tryz.ntmps83 (Nat.le_of_ble_eq_true rfl) rfl ?_
 refine rZ ?_; refine aoR fun _ => ?_
 refine rZ ?_; refine cnd ?_ ?_; refine zU ?_
 exact uI
 refine yS ?_; refine uH ?_; refine rZ ?_; rotate_left
 all_goals first | exact ⟨rfl, leP⟩ | (exfalso; simp at *; done)
def failV : Value := .iface 131 (.agg #[])
def failC : List PanicEntry := [{ v := failV, recovered := false }]
set_option maxHeartbeats 1000000 in
theorem mustNo_c (w : World) : Calls Tryz.prog 83 #[.bool false] w fun e w' => e = .panicked failC ∧ w' = w := by
 go_enter Tryz.func83, Tryz.ntmps83
 go_wp2
 exact ⟨rfl, rfl, rfl⟩
theorem oV : FnP E.P 83 [.bool false] [] failC (fun l1 => l1 = []) := by
 refine ⟨⟨_, Tryz.func83, by decide, rfl⟩, fun G w vs N hr hw => ?_⟩
 rw [RepOL] at hr
 obtain ⟨v, us, rfl, r0, hr⟩ := hr
 rw [RepOL] at hr
 subst hr
 rw [vA r0]
 refine (mustNo_c w).mono fun e w' ⟨h1, h2⟩ => ⟨h1, [], rfl, G, stL [], leP, Gh.le.refl G, ?_⟩
 subst h2
 exact hw
theorem must_p : Pure E.P 83 [.bool true] (.tu []) :=
 ⟨tC.1, fun G w vs N h1 h2 => ((FnW.toR tC).2 G w vs N h1 h2).mono fun e w' ⟨x, G', r, σ', a, ⟨b, _⟩, c, d, e⟩ => ⟨x, G', r, σ', a, b, c, d, e⟩⟩
theorem aW {b : Bool} (h : b = true) : Pure E.P 83 [.bool b] (.tu []) := by subst h; exact must_p
theorem aE {b : Bool} (h : b = false) : FnP E.P 83 [.bool b] [] failC (fun l1 => l1 = []) := by subst h; exact oV
set_option maxHeartbeats 4000000 in
theorem qG (s : Bt) (W : List Bt) (hl : W.length ≤ 1152921504606846976) (h1 : 0 ≤ idxF s W 0) (h2 : s ≠ []) : Pure E.P 84 [.bs s, .d (.sl 1 (W.map wTV))] (.int .i64 (idxF s W 0)) := by
 have c1 := lG W s hl
 refine fnA Tryz.func84 Tryz.ntmps84 ?_
 refine rZ ?_; refine aoR fun _ => ?_
 refine rZ ?_; refine aoR fun _ => ?_
 refine rZ ?_
 apply uE; exact rfl; exact .fn _ _ _; exact rfl; (exact c1)
 refine rZ ?_; refine aoR fun _ => ?_
 refine rZ ?_
 apply spT; exact rfl
 intro hc_
 have hp_ := hc_; try simp only [nrm] at hp_
 apply xO; exact evm; exact evm
 refine rZ ?_
 apply uE; exact rfl; exact .fn _ _ _; exact rfl; (exact aW (by simp [h1, h2]))
 refine rZ ?_; refine aoR fun _ => ?_
 refine rZ ?_; rotate_left
 all_goals exact wL rfl rfl
set_option maxHeartbeats 4000000 in
theorem iY (s : Bt) (W : List Bt) (hl : W.length ≤ 1152921504606846976) (h : idxF s W 0 < 0 ∨ s = []) : FnP E.P 84 [.bs s, .d (.sl 1 (W.map wTV))] [] failC (fun l1 => l1 = []) := by
 have c1 := lG W s hl
 refine vO (args := [.bs s, .d (.sl 1 (W.map wTV))]) Tryz.func84 (by decide) rfl Tryz.ntmps84 (Nat.le_of_ble_eq_true rfl) ?_
 refine wX (vs := [.tmp 4]) rfl ?_
 refine rZ ?_ 2; refine aoR fun _ => ?_
 refine rZ ?_ 2; rotate_left
 refine uA ?_; refine rZ ?_ 2; refine aoR fun _ => ?_
 refine rZ ?_ 2
 apply uE; exact rfl; exact .fn _ _ _; exact rfl; exact c1
 refine rZ ?_ 2; rotate_left
 refine uA ?_
 refine uD (uN (ch := failC) 6 (by decide) rfl fun v => ?_)
 simp only [List.take_succ_cons, List.take_zero]
 refine rZ ?_
 apply spT; exact rfl
 intro hc_
 have hp_ := hc_; try simp only [nrm] at hp_
 apply xO; exact evm; exact evm
 refine rZ ?_; rotate_left
 refine wS (R1 := fun l1 => l1 = []) (l0 := []) rfl (.fn _ _ _) rfl ?_ (uS _) (fun l1 hl => ?_) (fun l1 hl => ?_)
 ·refine aE ?_
  rcases h with h | h
  ·simp; intro h2; omega
  ·simp [h]
 ·subst hl; exact List.nodup_nil
 ·exact ⟨.panicking failC, rfl, rfl, [], rfl, uS _⟩
end
set_option maxRecDepth 100000
section
open Go.RowKit Go.Lib
def regsW : List Bt := [[], [114, 49], [114, 50], [114, 51], [114, 52]]
def namesW : List Bt := [[120], [121], [122], [119]]
set_option maxHeartbeats 4000000 in
theorem aReg_p (s : Bt) (h1 : 0 ≤ idxF s regsW 0) (h2 : s ≠ []) : Pure E.P 86 [.bs s] (.int .i64 (idxF s regsW 0)) := by
 have f4 : Frozen 4 := ⟨trivial⟩
 have c1 := qG s regsW (by decide) h1 h2
 refine fnA Tryz.func86 Tryz.ntmps86 ?_
 refine rZ ?_; refine aoR fun _ => ?_
 refine rZ ?_; refine aoR fun _ => ?_
 refine rZ ?_
 apply uE; exact rfl; exact .fn _ _ _; exact rfl; exact c1
 refine rZ ?_; rotate_left
 all_goals exact wL rfl rfl
set_option maxHeartbeats 4000000 in
theorem aName_p (s : Bt) (h1 : 0 ≤ idxF s namesW 0) (h2 : s ≠ []) : Pure E.P 89 [.bs s] (.int .i64 (idxF s namesW 0)) := by
 have f4 : Frozen 4 := ⟨trivial⟩
 have c1 := qG s namesW (by decide) h1 h2
 refine fnA Tryz.func89 Tryz.ntmps89 ?_
 refine rZ ?_; refine aoR fun _ => ?_
 refine rZ ?_; refine aoR fun _ => ?_
 refine rZ ?_
 apply uE; exact rfl; exact .fn _ _ _; exact rfl; exact c1
 refine rZ ?_; rotate_left
 all_goals exact wL rfl rfl
set_option maxHeartbeats 4000000 in
theorem aRegNo_w (s : Bt) (h : idxF s regsW 0 < 0 ∨ s = []) : FnP E.P 86 [.bs s] [] failC (fun l1 => l1 = []) := by
 have f4 : Frozen 4 := ⟨trivial⟩
 have c1 := iY s regsW (by decide) h
 refine vO (args := [.bs s]) Tryz.func86 (by decide) rfl Tryz.ntmps86 (Nat.le_of_ble_eq_true rfl) ?_
 refine wX (vs := [.tmp 2]) rfl ?_
 refine rZ ?_ 2; refine aoR fun _ => ?_
 refine rZ ?_ 2; rotate_left
 refine uA ?_
 refine uD (uN (ch := failC) 2 (by decide) rfl fun v => ?_)
 simp only [List.take_succ_cons, List.take_zero]
 refine rZ ?_; rotate_left
 refine wS (R1 := fun l1 => l1 = []) (l0 := []) rfl (.fn _ _ _) rfl ?_ (uS _) (fun l1 hl => ?_) (fun l1 hl => ?_)
 ·exact c1
 ·subst hl; exact List.nodup_nil
 ·exact ⟨.panicking failC, rfl, rfl, [], rfl, uS _⟩
set_option maxHeartbeats 4000000 in
theorem aNameNo_w (s : Bt) (h : idxF s namesW 0 < 0 ∨ s = []) : FnP E.P 89 [.bs s] [] failC (fun l1 => l1 = []) := by
 have f4 : Frozen 4 := ⟨trivial⟩
 have c1 := iY s namesW (by decide) h
 refine vO (args := [.bs s]) Tryz.func89 (by decide) rfl Tryz.ntmps89 (Nat.le_of_ble_eq_true rfl) ?_
 refine wX (vs := [.tmp 2]) rfl ?_
 refine rZ ?_ 2; refine aoR fun _ => ?_
 refine rZ ?_ 2; rotate_left
 refine uA ?_
 refine uD (uN (ch := failC) 2 (by decide) rfl fun v => ?_)
 simp only [List.take_succ_cons, List.take_zero]
 refine rZ ?_; rotate_left
 refine wS (R1 := fun l1 => l1 = []) (l0 := []) rfl (.fn _ _ _) rfl ?_ (uS _) (fun l1 hl => ?_) (fun l1 hl => ?_)
 ·exact c1
 ·subst hl; exact List.nodup_nil
 ·exact ⟨.panicking failC, rfl, rfl, [], rfl, uS _⟩
end
section
open Go.Lib
def regI (w : Bt) : Int := (regOf w).getD (-1)
def nameI (w : Bt) : Int := (nameOf w).getD (-1)
def setI (w : Bt) : Int := (setOf w).getD (-1)
def numStep (n : Int) (b : UInt8) : Int := (((n * 10) % 18446744073709551616 + b.toNat) % 18446744073709551616 - 48) % 18446744073709551616
def numB (w : Bt) : Int := (w.take 11).foldl numStep 0
def rOper (w : Bt) : Int × Int := if 0 < regI w then (regI w, 0) else (0, numB w % 4294967296)
def stp0 : Stp := ⟨0, 0, 0, 0, 0, 0, false, false, 0, 0⟩
def rHead (ws : List Bt) : Option (Stp × Nat) :=
 if ws.length = 3 ∧ ws.getD 0 [] = wFence then some (⟨5, 0, 0, 0, 0, 0, false, false, setI (ws.getD 1 []), setI (ws.getD 2 [])⟩, 3)
 else if ws.length = 2 ∧ ws.getD 0 [] = wIf then some (⟨6, regI (ws.getD 1 []), 0, 0, 0, 0, false, false, 0, 0⟩, 2)
 else if 5 ≤ ws.length ∧ (ws.getD 2 [] = wSwap ∨ ws.getD 2 [] = wAdd) then
  some (⟨if ws.getD 2 [] = wAdd then 4 else 3, regI (ws.getD 0 []), nameI (ws.getD 3 []), (rOper (ws.getD 4 [])).2, (rOper (ws.getD 4 [])).1, 0, false, false, 0, 0⟩, 5)
 else if 3 ≤ ws.length ∧ 0 < regI (ws.getD 0 []) then some (⟨1, regI (ws.getD 0 []), nameI (ws.getD 2 []), 0, 0, 0, false, false, 0, 0⟩, 3)
 else if 3 ≤ ws.length then some (⟨2, 0, nameI (ws.getD 0 []), (rOper (ws.getD 2 [])).2, (rOper (ws.getD 2 [])).1, 0, false, false, 0, 0⟩, 3)
 else none
def rTail : List Bt → Stp → Stp × Bool
 | [], s => (s, true)
 | [w], s => if w = wAq then ({ s with aq := true }, true) else if w = wRl then ({ s with rl := true }, true) else (s, false)
 | w :: v :: r, s => if w = wBy then rTail r { s with byr := regI v } else if w = wAq then rTail (v :: r) { s with aq := true } else if w = wRl then rTail (v :: r) { s with rl := true } else (s, false)
def rEnd (line : Bt) (p : Stp × Bool) : Stp × Bool := if p.2 then (p.1, p.1.right && decide (lineB p.1 = line)) else (p.1, false)
def rStep (line : Bt) : Stp × Bool :=
 match rHead (splitC 32 line) with
 | none => (stp0, false)
 | some p => rEnd line (rTail ((splitC 32 line).drop p.2) p.1)
theorem numB_le (w : Bt) : 0 ≤ numB w % 4294967296 ∧ numB w % 4294967296 ≤ 4294967295 := by omega
theorem num_dec (u : Nat) (h : u < 100000000000) : (decDigits u).foldl numStep 0 = (u : Int) := by
 induction u using Nat.strongRecOn with
 | _ u ih =>
  have e : ∀ k, k < 10 → (UInt8.ofNat (48 + k)).toNat = 48 + k := fun k hk => by rw [UInt8.toNat_ofNat']; omega
  rw [decDigits]
  split
  ·rename_i h1
   simp only [List.foldl_cons, List.foldl_nil, numStep, e u h1]
   omega
  ·rename_i h1
   rw [List.foldl_append, ih (u / 10) (by omega) (by omega)]
   simp only [List.foldl_cons, List.foldl_nil, numStep, e _ (Nat.mod_lt u (by decide : 0 < 10))]
   omega
theorem dec_len10 (n : Nat) (h : n ≤ 4294967295) : (decDigits n).length ≤ 11 := by
 have key : ∀ (k n : Nat), n < 10 ^ (k + 1) → (decDigits n).length ≤ k + 1 := by
  intro k
  induction k with
  | zero => intro n hn; rw [decDigits, dif_pos (by omega)]; simp
  | succ k ih =>
   intro n hn
   rw [decDigits]
   split
   ·simp
   ·have := ih (n / 10) (by rw [Nat.pow_succ] at hn; omega)
    rw [List.length_append, List.length_singleton]; omega
 exact key 10 n (by omega)
theorem numB_dec {n : Nat} (h : n ≤ 4294967295) : numB (decDigits n) = (n : Int) := by
 unfold numB
 rw [List.take_of_length_le (dec_len10 n h), num_dec n (by omega)]
theorem bC {n : Int} (h : 1 ≤ n ∧ n ≤ 4) : regI (regW n) = n := by unfold regI; rw [zA h]; rfl
theorem aN {n : Int} (h : 0 ≤ n ∧ n ≤ 3) : nameI (nameW n) = n := by unfold nameI; rw [yQ h]; rfl
theorem gD {n : Int} (h : 1 ≤ n ∧ n ≤ 3) : setI (setW n) = n := by unfold setI; rw [eA h]; rfl
theorem rO {w : Bt} (h : w.head? ≠ some 114) : regI w = -1 := by
 unfold regI
 cases e : regOf w with
 | none => rfl
 | some n =>
  have := yC e
  rw [this.2] at h
  exact absurd rfl h
theorem lN {d n : Int} (hd : 0 ≤ d ∧ d ≤ 4) (h0 : d = 0 ∨ n = 0) (hn : 0 ≤ n ∧ n ≤ 4294967295) : rOper (valW d n) = (d, n) := by
 unfold rOper
 by_cases h : 0 < d
 ·have : n = 0 := by omega
  subst this
  rw [aY _ h, bC ⟨by omega, hd.2⟩, if_pos h]
 ·have : d = 0 := by omega
  subst this
  rw [aZ, rO (pQ _), if_neg (by decide), numB_dec (by omega)]
  congr 1; omega
theorem eC {s : Stp} {b : Int} (hb : 0 ≤ b ∧ b ≤ 4) (a l : Bool) (h0 : s.byr = 0 ∧ s.aq = false ∧ s.rl = false) : rTail (tailW b a l) s = ({ s with byr := b, aq := a, rl := l }, true) := by
 obtain ⟨k, r, v, n, d, b0, a0, l0, p, q⟩ := s
 obtain ⟨rfl, rfl, rfl⟩ := h0
 rcases (by omega : b = 0 ∨ b = 1 ∨ b = 2 ∨ b = 3 ∨ b = 4) with rfl | rfl | rfl | rfl | rfl <;> cases a <;> cases l <;> rfl
theorem rHead_words {s : Stp} (h : s.right = true) (hn : s.n32) : ∃ p, rHead (wordsOf s) = some p ∧ rTail ((wordsOf s).drop p.2) p.1 = (s, true) := by
 cases aB h with
 | fence p q hp hq =>
  show ∃ x, rHead [wFence, setW p, setW q] = some x ∧ rTail (List.drop x.2 [wFence, setW p, setW q]) x.1 = _
  unfold rHead
  rw [if_pos ⟨rfl, rfl⟩]
  refine ⟨_, rfl, ?_⟩
  show rTail [] _ = _
  simp only [rTail]
  show ((⟨5, 0, 0, 0, 0, 0, false, false, setI (setW p), setI (setW q)⟩ : Stp), true) = _
  rw [gD hp, gD hq]
 | cond n hc =>
  show ∃ x, rHead [wIf, regW n] = some x ∧ rTail (List.drop x.2 [wIf, regW n]) x.1 = _
  unfold rHead
  rw [if_neg (by rintro ⟨h, _⟩; cases h), if_pos ⟨rfl, rfl⟩]
  refine ⟨_, rfl, ?_⟩
  show rTail [] _ = _
  simp only [rTail]
  show ((⟨6, regI (regW n), 0, 0, 0, 0, false, false, 0, 0⟩ : Stp), true) = _
  rw [bC hc]
 | load r v b a l hr hv hb =>
  show ∃ x, rHead (regW r :: wEq :: nameW v :: tailW b a l) = some x ∧ rTail (List.drop x.2 (regW r :: wEq :: nameW v :: tailW b a l)) x.1 = _
  unfold rHead
  rw [if_neg (by rintro ⟨_, h⟩; exact (zK hr).1 h), if_neg (by rintro ⟨_, h⟩; exact (zK hr).2 h), if_neg (by rintro ⟨_, h | h⟩; exact (xZ hv).2.2.1 h; exact (xZ hv).2.2.2.1 h)]
  have e : regI (List.getD (regW r :: wEq :: nameW v :: tailW b a l) 0 []) = r := bC hr
  have e2 : nameI (List.getD (regW r :: wEq :: nameW v :: tailW b a l) 2 []) = v := aN hv
  rw [e, e2, if_pos ⟨by simp, by omega⟩]
  refine ⟨_, rfl, ?_⟩
  exact eC hb a l ⟨rfl, rfl, rfl⟩
 | store v n d b a l hv hb hd h0 =>
  show ∃ x, rHead (nameW v :: wEq :: valW d n :: tailW b a l) = some x ∧ rTail (List.drop x.2 (nameW v :: wEq :: valW d n :: tailW b a l)) x.1 = _
  unfold rHead
  have e : regI (List.getD (nameW v :: wEq :: valW d n :: tailW b a l) 0 []) = -1 := rO (xZ hv).2.2.2.2
  have e1 : nameI (List.getD (nameW v :: wEq :: valW d n :: tailW b a l) 0 []) = v := aN hv
  have e2 : rOper (List.getD (nameW v :: wEq :: valW d n :: tailW b a l) 2 []) = (d, n) := lN hd h0 hn
  rw [if_neg (by rintro ⟨_, h⟩; exact (xZ hv).1 h), if_neg (by rintro ⟨_, h⟩; exact (xZ hv).2.1 h), if_neg (by rintro ⟨_, h | h⟩; exact (iG hd).1 h; exact (iG hd).2 h), e, if_neg (by rintro ⟨_, h⟩; exact absurd h (by decide)), if_pos (by simp), e1, e2]
  refine ⟨_, rfl, ?_⟩
  exact eC hb a l ⟨rfl, rfl, rfl⟩
 | both k r v n d b a l hk hr hv hb hd h0 =>
  have key : ∀ w, (k = 3 ∧ w = wSwap ∨ k = 4 ∧ w = wAdd) → ∃ x, rHead (regW r :: wEq :: w :: nameW v :: valW d n :: tailW b a l) = some x ∧ rTail (List.drop x.2 (regW r :: wEq :: w :: nameW v :: valW d n :: tailW b a l)) x.1 = (⟨k, r, v, n, d, b, a, l, 0, 0⟩, true) := by
   intro w hw
   unfold rHead
   have e : regI (List.getD (regW r :: wEq :: w :: nameW v :: valW d n :: tailW b a l) 0 []) = r := bC hr
   have e1 : nameI (List.getD (regW r :: wEq :: w :: nameW v :: valW d n :: tailW b a l) 3 []) = v := aN hv
   have e2 : rOper (List.getD (regW r :: wEq :: w :: nameW v :: valW d n :: tailW b a l) 4 []) = (d, n) := lN hd h0 hn
   have e3 : List.getD (regW r :: wEq :: w :: nameW v :: valW d n :: tailW b a l) 2 [] = w := rfl
   rw [if_neg (by rintro ⟨_, h⟩; exact (zK hr).1 h), if_neg (by rintro ⟨_, h⟩; exact (zK hr).2 h), e3, if_pos ⟨by simp, by rcases hw with ⟨_, rfl⟩ | ⟨_, rfl⟩; exact Or.inl rfl; exact Or.inr rfl⟩, e, e1, e2]
   refine ⟨_, rfl, ?_⟩
   have ek : (if w = wAdd then (4 : Int) else 3) = k := by
    rcases hw with ⟨rfl, rfl⟩ | ⟨rfl, rfl⟩ <;> decide
   rw [ek]
   exact eC hb a l ⟨rfl, rfl, rfl⟩
  rcases hk with rfl | rfl
  ·exact key wSwap (Or.inl ⟨rfl, rfl⟩)
  ·exact key wAdd (Or.inr ⟨rfl, rfl⟩)
theorem iJ (w : Bt) : 0 ≤ (rOper w).2 ∧ (rOper w).2 ≤ 4294967295 := by
 unfold rOper
 split
 ·exact ⟨Int.le_refl 0, (by decide : (0 : Int) ≤ 4294967295)⟩
 ·exact numB_le w
theorem rHead_n {ws : List Bt} {p : Stp × Nat} (h : rHead ws = some p) : p.1.n32 := by
 unfold rHead at h
 (repeat' split at h) <;> first | (cases h; first | exact oU | exact iJ _) | cases h
theorem iI : ∀ (ws : List Bt) (s : Stp), s.n32 → (rTail ws s).1.n32
 | [], s, h => h
 | [w], s, h => by unfold rTail; (repeat' split) <;> exact h
 | w :: v :: r, s, h => by
  unfold rTail
  (repeat' split)
  ·exact iI r _ h
  ·exact iI (v :: r) _ h
  ·exact iI (v :: r) _ h
  ·exact h
 termination_by ws => ws.length
theorem rStep_n (line : Bt) : (rStep line).1.n32 := by
 unfold rStep
 split
 ·exact oU
 ·rename_i p hp
  unfold rEnd
  have := iI ((splitC 32 line).drop p.2) p.1 (rHead_n hp)
  split <;> exact this
theorem rStep_eq (line : Bt) : stepB line = if (rStep line).2 then some (rStep line).1 else none := by
 cases hs : stepB line with
 | some s =>
  obtain ⟨hr, hn, hl⟩ := lC.1 hs
  obtain ⟨p, h1, h2⟩ := rHead_words hr hn
  have hw : splitC 32 line = wordsOf s := by
   rw [← hl]
   unfold lineB
   exact dY 32 _ (by cases aB hr <;> first | (simp [wordsOf]; done) | (rename_i hk _ _ _ _ _; rcases hk with rfl | rfl <;> simp [wordsOf])) fun w hw => (oC hr w hw).1
  have e : rStep line = (s, true) := by
   unfold rStep
   rw [hw, h1]
   dsimp only
   rw [h2]
   unfold rEnd
   simp [hr, hl]
  rw [e]; rfl
 | none =>
  cases hb : (rStep line).2 with
  | false => rfl
  | true =>
   exfalso
   have hn := rStep_n line
   have : (rStep line).1.right = true ∧ lineB (rStep line).1 = line := by
    revert hb
    unfold rStep
    split
    ·intro h; cases h
    ·rename_i p hp
     unfold rEnd
     split
     ·intro h; simpa using h
     ·intro h; cases h
   have := lC.2 ⟨this.1, hn, this.2⟩
   rw [hs] at this
   cases this
end
set_option maxRecDepth 100000
section
open Go.RowKit Go.Lib
def setsW : List Bt := [[], [119], [114], [114, 119]]
theorem reg_yes {w : Bt} {n : Int} (h : regOf w = some n) : 0 ≤ idxF w regsW 0 ∧ w ≠ [] ∧ idxF w regsW 0 = n := by
 obtain ⟨h1, rfl⟩ := yC h
 rcases sQ h1 with rfl | rfl | rfl | rfl <;> decide
theorem name_yes {w : Bt} {n : Int} (h : nameOf w = some n) : 0 ≤ idxF w namesW 0 ∧ w ≠ [] ∧ idxF w namesW 0 = n := by
 obtain ⟨h1, rfl⟩ := aM h
 rcases (by omega : n = 0 ∨ n = 1 ∨ n = 2 ∨ n = 3) with rfl | rfl | rfl | rfl <;> decide
theorem set_yes {w : Bt} {n : Int} (h : setOf w = some n) : 0 ≤ idxF w setsW 0 ∧ w ≠ [] ∧ idxF w setsW 0 = n := by
 obtain ⟨h1, rfl⟩ := dZ h
 rcases (by omega : n = 1 ∨ n = 2 ∨ n = 3) with rfl | rfl | rfl <;> decide
theorem iQ {w : Bt} : ∀ (W : List Bt) (k : Nat), (∀ v ∈ W, v ≠ w) → idxF w W k < 0
 | [], _, _ => by show (-1 : Int) < 0; decide
 | v :: W, k, h => by
  unfold idxF
  rw [if_neg (h v (by simp))]
  exact iQ W (k + 1) fun x hx => h x (by simp [hx])
theorem reg_not {w : Bt} (h : regOf w = none) : idxF w regsW 0 < 0 ∨ w = [] := by
 by_cases h0 : w = []
 ·exact Or.inr h0
 ·refine Or.inl (iQ _ _ fun v hv e => ?_)
  subst e
  unfold regOf at h
  simp only [regsW, List.mem_cons, List.not_mem_nil, or_false] at hv
  rcases hv with rfl | rfl | rfl | rfl | rfl
  ·exact h0 rfl
  all_goals (revert h; decide)
theorem name_not {w : Bt} (h : nameOf w = none) : idxF w namesW 0 < 0 ∨ w = [] := by
 refine Or.inl (iQ _ _ fun v hv e => ?_)
 subst e
 unfold nameOf at h
 simp only [namesW, List.mem_cons, List.not_mem_nil, or_false] at hv
 rcases hv with rfl | rfl | rfl | rfl
 all_goals (revert h; decide)
theorem set_not {w : Bt} (h : setOf w = none) : idxF w setsW 0 < 0 ∨ w = [] := by
 by_cases h0 : w = []
 ·exact Or.inr h0
 ·refine Or.inl (iQ _ _ fun v hv e => ?_)
  subst e
  unfold setOf at h
  simp only [setsW, List.mem_cons, List.not_mem_nil, or_false] at hv
  rcases hv with rfl | rfl | rfl | rfl
  ·exact h0 rfl
  all_goals (revert h; decide)
theorem eQ {w : Bt} {n : Int} (h : regOf w = some n) : Pure E.P 86 [.bs w] (.int .i64 n) := by
 obtain ⟨h1, h2, h3⟩ := reg_yes h
 have := aReg_p w h1 h2
 rwa [h3] at this
theorem iW {w : Bt} {n : Int} (h : nameOf w = some n) : Pure E.P 89 [.bs w] (.int .i64 n) := by
 obtain ⟨h1, h2, h3⟩ := name_yes h
 have := aName_p w h1 h2
 rwa [h3] at this
theorem mP {w : Bt} {n : Int} (h : setOf w = some n) : Pure E.P 84 [.bs w, .d (.sl 1 (setsW.map wTV))] (.int .i64 n) := by
 obtain ⟨h1, h2, h3⟩ := set_yes h
 have := qG w setsW (by decide) h1 h2
 rwa [h3] at this
theorem kV {w : Bt} (h : regOf w = none) : FnP E.P 86 [.bs w] [] failC (fun l1 => l1 = []) := aRegNo_w w (reg_not h)
theorem nW {w : Bt} (h : nameOf w = none) : FnP E.P 89 [.bs w] [] failC (fun l1 => l1 = []) := aNameNo_w w (name_not h)
theorem rB {w : Bt} (h : setOf w = none) : FnP E.P 84 [.bs w, .d (.sl 1 (setsW.map wTV))] [] failC (fun l1 => l1 = []) := iY w setsW (by decide) (set_not h)
end
end Go.Proofs.YtjogffchdejabaaGreatDoor
