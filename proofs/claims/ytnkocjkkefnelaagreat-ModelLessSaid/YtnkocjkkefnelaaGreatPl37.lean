/- Parts. -/
import Derived.Test.YtnkocjkkefnelaaGreatPl4
import Derived.Test.YtnkocjkkefnelaaGreatPl6
import Derived.Test.YtnkocjkkefnelaaGreatPl34
import Derived.Test.YtnkocjkkefnelaaGreatPl35
import Derived.Test.YtnkocjkkefnelaaGreatPl36
set_option linter.unusedVariables false
set_option linter.unusedSimpArgs false
set_option maxHeartbeats 4000000
set_option maxHeartbeats 4000000
set_option maxRecDepth 100000
namespace Go.Proofs.YtnkocjkkefnelaaGreat
open Go.RowKit
theorem fit8 {x : Ex} (hx : x.ok) (hw : wideB8 x = false) : x.fit ∧ x.evs.length ≤ 20 := ⟨⟨hx, fun r hr => Nat.le_trans (wide8_row hw r hr) (by decide)⟩, by
 unfold wideB8 at hw
 simp only [Bool.or_eq_false_iff, decide_eq_false_iff_not] at hw
 omega⟩
theorem pU {x : Ex} (hc : checkI x = 0) : judT x = (judB x, 0) ∧ allowT x = (allowB x, 0) ∧ arrT x = (gloL x, 0) := by
 unfold judT allowT arrT
 rw [if_pos hc, if_pos hc, if_pos hc]
 exact ⟨rfl, rfl, rfl⟩
set_option maxHeartbeats 4000000
set_option maxRecDepth 100000
theorem nZ {P : Program} {n : Nat} {c d : Code} {Q : Exit → Tm → Store → Prop} {tm : Tm} {σ : Store} (T : Tm) (S : Store) (h1 : awp P n c (fun e tm' σ' => e = .normal ∧ T.le tm' ∧ S.le σ') tm σ) (h2 : awp P n d Q T S) : awp P n (.seq c d) Q tm σ :=
 uC (awp_mono h1 fun e tm' σ' ⟨he, ht, hs⟩ => by subst he; exact uD (awp_le _ _ ht hs h2))
def evRowL (e : Ev) : List OV := (evTV e).map .d
def lsA (p : Bool) (i : Nat) (l : List Ev) : List Ev := if p = true then l.set i { l.getD i default with aq := false } else l
def lsB (q : Bool) (i : Nat) (l : List Ev) : List Ev := if q = true then l.set i { l.getD i default with rl := false } else l
def lsC (r : Bool) (i : Nat) (l : List Ev) : List Ev := if r = true ∧ (l.getD i default).kind = 4 then l.set i { l.getD i default with pred := 0 } else l
def lsTo (p q r : Bool) (l : List Ev) (i : Nat) : List Ev := (l.take i).map (lessE p q r) ++ l.drop i
theorem lsA_len {p : Bool} {i : Nat} {l : List Ev} : (lsA p i l).length = l.length := by unfold lsA; split <;> simp
theorem lsB_len {p : Bool} {i : Nat} {l : List Ev} : (lsB p i l).length = l.length := by unfold lsB; split <;> simp
theorem lsC_len {p : Bool} {i : Nat} {l : List Ev} : (lsC p i l).length = l.length := by unfold lsC; split <;> simp
theorem pR {p q r : Bool} {i : Nat} {l : List Ev} (hi : i ≤ l.length) : (lsTo p q r l i).length = l.length := by unfold lsTo; simp; omega
theorem set_getD {l : List Ev} {i : Nat} (hi : i < l.length) (e : Ev) : (l.set i e).getD i default = e := by
 rw [List.getD_eq_getElem?_getD, List.getElem?_set_self hi]; rfl
theorem set_set {l : List Ev} {i : Nat} (a b : Ev) : (l.set i a).set i b = l.set i b := List.set_set ..
theorem lsTo_succ {p q r : Bool} {i : Nat} {l : List Ev} (hi : i < l.length) : lsTo p q r l (i + 1) = lsC r i (lsB q i (lsA p i (lsTo p q r l i))) := by
 have hl := pR (p := p) (q := q) (r := r) (i := i) (l := l) (by omega)
 have hg : (lsTo p q r l i).getD i default = l.getD i default := by
  unfold lsTo
  rw [List.getD_eq_getElem?_getD, List.getElem?_append_right (by simp; omega), List.getD_eq_getElem?_getD, List.getElem?_drop]
  congr 2
  simp; omega
 have hs : lsTo p q r l (i + 1) = (lsTo p q r l i).set i (lessE p q r (l.getD i default)) := by
  unfold lsTo
  rw [List.set_append_right _ _ (by simp; omega), show i - ((l.take i).map (lessE p q r)).length = 0 by simp; omega, List.drop_eq_getElem_cons hi, List.set_cons_zero, zV l default i hi, List.map_append, List.append_assoc]
  rfl
 rw [hs]
 generalize lsTo p q r l i = m at hl hg
 have hm : i < m.length := by omega
 rw [← hg]
 have self : m.set i (m.getD i default) = m := by
  rw [List.getD_eq_getElem?_getD, List.getElem?_eq_getElem hm]; simp
 unfold lsC lsB lsA lessE
 cases p <;> cases q <;> by_cases h4 : r = true ∧ (m.getD i default).kind = 4 <;> simp only [Bool.false_eq_true, if_true, if_false, set_getD, List.length_set, hm, set_set, h4, and_self, self]
theorem nP (l : List Ev) (i : Nat) (e : Ev) : (l.map evRowL).set i (evRowL e) = (l.set i e).map evRowL := List.map_set.symm
theorem lsTo_end {p q r : Bool} {l : List Ev} : lsTo p q r l l.length = l.map (lessE p q r) := by unfold lsTo; simp
theorem nW {p : Bool} {i : Nat} {l : List Ev} (h : p = true) : (l.map evRowL).set i (evRowL { l.getD i default with aq := false }) = (lsA p i l).map evRowL := by rw [lsA, if_pos h]; exact nP _ _ _
theorem nV {p : Bool} {i : Nat} {l : List Ev} (h : p = true) : (l.map evRowL).set i (evRowL { l.getD i default with rl := false }) = (lsB p i l).map evRowL := by rw [lsB, if_pos h]; exact nP _ _ _
theorem nU {p : Bool} {i : Nat} {l : List Ev} (h : p = true) (h4 : (l.getD i default).kind = 4) : (l.map evRowL).set i (evRowL { l.getD i default with pred := 0 }) = (lsC p i l).map evRowL := by rw [lsC, if_pos ⟨h, h4⟩]; exact nP _ _ _
theorem lsA_no {p : Bool} {i : Nat} {l : List Ev} (h : p = false) : lsA p i l = l := by rw [lsA, if_neg (by rw [h]; decide)]
theorem lsB_no {p : Bool} {i : Nat} {l : List Ev} (h : p = false) : lsB p i l = l := by rw [lsB, if_neg (by rw [h]; decide)]
theorem uAD {p : Bool} {i : Nat} {l : List Ev} (h : p = false ∨ ¬ (l.getD i default).kind = 4) : lsC p i l = l := by
 rw [lsC, if_neg fun g => ?_]
 rcases h with h | h
 ·rw [h] at g; exact absurd g.1 (by decide)
 ·exact h g.2
theorem less_ok {p q r : Bool} {e : Ev} (h : e.ok) : (lessE p q r e).ok := by
 obtain ⟨⟨w1, w2, w3, w4, w5, w6, w7⟩, w8⟩ := h
 refine ⟨⟨w1, w2, w3, w4, w5, ?_, w7⟩, w8⟩
 show -9223372036854775808 ≤ (if r = true ∧ e.kind = 4 then 0 else e.pred) ∧ (if r = true ∧ e.kind = 4 then 0 else e.pred) ≤ 9223372036854775807
 split
 ·exact ⟨by decide, by decide⟩
 ·exact w6
theorem less_fit {p q r : Bool} {x : Ex} (h : x.fit) : (lessX p q r x).fit := by
 obtain ⟨⟨h1, h2, h3, h4, h5⟩, h6⟩ := h
 refine ⟨⟨by rw [yD]; exact h1, fun e he => ?_, h3, h4, h5⟩, h6⟩
 obtain ⟨e0, he0, rfl⟩ := List.mem_map.1 he
 exact less_ok (h2 _ he0)
set_option maxHeartbeats 4000000 in
theorem lawLess_p (x : Ex) (hx : x.ok) (w : Int) : Pure E.P 5 [exOV x, .int .i64 w] (.bool true) := by
 have hwd := wide8_p x hx
 have hkn := known8_p
 have f2 : Frozen 2 := ⟨trivial⟩
 refine fnA Tryz.func5 Tryz.ntmps5 ?_
 cases hw : wideB8 x with
 | true =>
  rw [hw] at hwd
  refine uI ?_; refine aoR fun _ => ?_
  refine uI ?_; refine aoR fun _ => ?_
  refine uI ?_
  apply uQ; exact rfl; exact .fn _ _ _; exact rfl; (exact hwd)
  refine uI ?_
  apply vQ; exact rfl; exact rfl
  exact vX
  refine uK ?_
  apply vQ; exact rfl; exact rfl
  exact vX
  refine uK ?_
  apply vQ; exact rfl; exact rfl
  exact vX
  refine uK ?_; refine uI ?_; refine cnd ?_ ?_; refine uK ?_; refine uI ?_; refine aoR fun _ => ?_
  apply uQ; exact rfl; exact .fn _ _ _; exact rfl; (exact hkn)
  refine uI ?_; rotate_left
  exact vX
  all_goals first | exact vF rfl rfl | (exfalso; simp_all; done)
 | false =>
  rw [hw] at hwd
  obtain ⟨hfit, hl⟩ := fit8 hx hw
  have hA := dK x hfit (by omega)
  have hC := rcheck_p x hx (fun e he => (hx.2.1 e he).bare)
  by_cases hc : checkI x = 0
  ·obtain ⟨_, e2, _⟩ := pU hc
   rw [e2] at hA
   rw [hc] at hC
   refine uI ?_; refine aoR fun _ => ?_
   refine uI ?_; refine aoR fun _ => ?_
   refine uI ?_
   apply uQ; exact rfl; exact .fn _ _ _; exact rfl; (exact hwd)
   refine uI ?_
   apply vQ; exact rfl; exact rfl
   refine uG ?_; refine uI ?_
   apply vQ; exact rfl; exact rfl
   refine uG ?_
   apply uQ; exact rfl; exact .fn _ _ _; exact rfl; (exact hC)
   apply vQ; exact rfl; exact rfl
   refine uG ?_; refine uI ?_; refine cnd ?_ ?_
   refine wX (fun hc_ => ?_); (try simp only [nrm] at hc_)
   refine uI ?_; refine aoR fun _ => ?_
   apply uQ; exact rfl; exact .fn _ _ _; exact rfl; (exact hkn)
   refine uI ?_; rotate_left
   refine xA ?_; refine uG ?_
   refine wJ (fun _ => ?_); (try (exfalso; omega))
   refine uI ?_; refine aoR fun _ => ?_
   refine uI ?_; refine aoR fun _ => ?_
   refine uI ?_; refine aoR fun _ => ?_
   refine uI ?_; rotate_left
   iterate 3 exact uJ
   ·first | exact vF rfl rfl | (exfalso; rcases hc_ with h | h; cases h; exact h trivial)
   rename_i v3 v4 _
   generalize hp : decide (w.tmod 2 = 0) = p
   generalize hq : decide (w.tmod 3 = 0) = q
   generalize hr : decide (w.tmod 5 = 0) = r
   let S : List Ev → Store := fun l => stL [(5, ((v3, 1), ⟨3, [[.os 22 (v4, 2) 13 x.evs.length, .d (ints x.from_), .d (rowsTV x.order)]]⟩)), (22, ((v4, 2), ⟨13, l.map evRowL⟩))]
   let T : Nat → Tm := fun i => tmL [(1, .int .i64 w), (2, .d (.pt (exRow x) 0)), (5, .lo 5 (v3, 1) 3 0 0), (6, .int .i64 i)]
   refine vC (X := Nat) T (fun i => S (lsTo p q r x.evs i)) (fun i => i ≤ x.evs.length) (fun i => x.evs.length - i) 0 (Nat.zero_le _) leP (by repeat' (first | exact vS _ | exact vM _ | refine uO rfl ?_ | refine vG rfl ?_ | (refine vA rfl ?_ ?_; ((first | (simp; rfl) | (simp [lsTo]; rfl)))) | (refine uV rfl ?_ ?_; ((first | (simp; rfl) | (simp [lsTo]; rfl)))) | (refine vD rfl ?_ ?_; ((first | (simp; rfl) | (simp [lsTo]; rfl)))))) ?_
   intro i hi
   have hlen := pR (p := p) (q := q) (r := r) hi
   by_cases hlt : i < x.evs.length
   ·have hst := lsTo_succ (p := p) (q := q) (r := r) hlt
    generalize lsTo p q r x.evs i = l at hlen hst
    have hil : i < l.length := by omega
    refine nZ (T i) (S l) ?_ ?_
    ·refine uI ?_
     refine aoR fun _ => ?_; refine uI ?_
     refine cnd ?_ ?_
     refine uP fun _ => ?_; try (exfalso; omega)
     refine uI ?_; rotate_left
     refine uR fun _ => ?_; try (exfalso; omega)
     exact ⟨rfl, leP, leP⟩
    refine uC (uY ?_)
    have hl1 := lsA_len (p := p) (i := i) (l := l)
    refine nZ (T i) (S (lsA p i l)) ?_ ?_
    ·refine uI ?_
     refine aoR fun _ => ?_; refine uI ?_
     refine cnd ?_ ?_
     refine uP fun _ => ?_; try (exfalso; omega)
     refine aoR fun _ => ?_; refine uI ?_
     rotate_left
     refine uR fun _ => ?_; try (exfalso; omega)
     refine uI ?_; rotate_left
     ·rename_i g _
      exact ⟨rfl, leP, (by repeat' (first | exact vS _ | exact vM _ | refine uO rfl ?_ | refine vG rfl ?_ | (refine vA rfl ?_ ?_; (exact nW (by rw [← hp]; exact decide_eq_true g))) | (refine uV rfl ?_ ?_; (exact nW (by rw [← hp]; exact decide_eq_true g))) | (refine vD rfl ?_ ?_; (exact nW (by rw [← hp]; exact decide_eq_true g)))))⟩
     ·rename_i g
      rw [lsA_no (by rw [← hp]; exact decide_eq_false g)]
      exact ⟨rfl, leP, leP⟩
    generalize lsA p i l = l1 at hl1 hst
    have hl2 := lsB_len (p := q) (i := i) (l := l1)
    refine nZ (T i) (S (lsB q i l1)) ?_ ?_
    ·refine uI ?_
     refine aoR fun _ => ?_; refine uI ?_
     refine cnd ?_ ?_
     refine uP fun _ => ?_; try (exfalso; omega)
     refine aoR fun _ => ?_; refine uI ?_
     rotate_left
     refine uR fun _ => ?_; try (exfalso; omega)
     refine uI ?_; rotate_left
     ·rename_i g _
      exact ⟨rfl, leP, (by repeat' (first | exact vS _ | exact vM _ | refine uO rfl ?_ | refine vG rfl ?_ | (refine vA rfl ?_ ?_; (exact nV (by rw [← hq]; exact decide_eq_true g))) | (refine uV rfl ?_ ?_; (exact nV (by rw [← hq]; exact decide_eq_true g))) | (refine vD rfl ?_ ?_; (exact nV (by rw [← hq]; exact decide_eq_true g)))))⟩
     ·rename_i g
      rw [lsB_no (by rw [← hq]; exact decide_eq_false g)]
      exact ⟨rfl, leP, leP⟩
    generalize lsB q i l1 = l2 at hl2 hst
    have hl3 := lsC_len (p := r) (i := i) (l := l2)
    refine uI ?_; refine aoR fun _ => ?_
    refine uI ?_
    apply uE; exact rfl; exact rfl
    refine uP fun _ => ?_; try (exfalso; omega)
    refine uI ?_
    apply uE; exact rfl; exact rfl
    refine uK ?_; refine uI ?_
    apply uE; exact rfl; exact rfl
    refine uK ?_; refine uI ?_
    apply uE; exact rfl; exact rfl
    refine uK ?_; refine uI ?_
    apply uE; exact rfl; exact rfl
    refine uK ?_; refine uI ?_
    apply uE; exact rfl; exact rfl
    refine uK ?_; refine uI ?_
    apply uE; exact rfl; exact rfl
    refine uK ?_; refine uI ?_; refine cnd ?_ ?_; refine xG ?_; refine uK ?_
    refine uP fun _ => ?_; try (exfalso; omega)
    refine aoR fun _ => ?_; refine uI ?_
    refine aoR fun _ => ?_; refine uI ?_
    rotate_left
    refine wN (fun hc_ => ?_); (try simp only [nrm] at hc_)
    refine uI ?_; refine aoR fun _ => ?_
    refine uI ?_; rotate_left
    iterate 6 exact vX
    refine uR fun _ => ?_; try (exfalso; omega)
    apply uE; exact rfl; exact rfl
    exact uJ
    refine uG ?_
    apply uE; exact rfl; exact rfl
    exact uJ
    refine uG ?_
    apply uE; exact rfl; exact rfl
    exact uJ
    refine uG ?_
    apply uE; exact rfl; exact rfl
    exact uJ
    refine uG ?_
    apply uE; exact rfl; exact rfl
    exact uJ
    refine uG ?_
    apply uE; exact rfl; exact rfl
    exact uJ
    refine uG ?_; refine uI ?_; refine cnd ?_ ?_
    exact uJ
    refine uG ?_; refine uI ?_; refine aoR fun _ => ?_
    refine uI ?_; rotate_left
    ·rename_i g g' _ _
     refine vK (i + 1) (by omega) (by omega) leP ?_
     rw [hst]
     exact (by repeat' (first | exact vS _ | exact vM _ | refine uO rfl ?_ | refine vG rfl ?_ | (refine vA rfl ?_ ?_; (exact nU (by rw [← hr]; exact decide_eq_true g) g')) | (refine uV rfl ?_ ?_; (exact nU (by rw [← hr]; exact decide_eq_true g) g')) | (refine vD rfl ?_ ?_; (exact nU (by rw [← hr]; exact decide_eq_true g) g'))))
    ·refine vK (i + 1) (by omega) (by omega) leP ?_
     rw [hst, uAD (Or.inr (show ¬ (l2.getD i default).kind = 4 from hc_.resolve_left (by decide)))]
     exact leP
    ·rename_i g _
     refine vK (i + 1) (by omega) (by omega) leP ?_
     rw [hst, uAD (Or.inl (by rw [← hr]; exact decide_eq_false g))]
     exact leP
   ·have e : i = x.evs.length := by omega
    subst e
    have hB := dK (lessX p q r x) (less_fit hfit) (by rw [yD]; omega)
    obtain ⟨_, e3, _⟩ := pU (less_check (p := p) (q := q) (r := r) hc)
    rw [e3] at hB
    have hm := less_allow (p := p) (q := q) (r := r) (x := x) (by omega)
    have hml : (x.evs.map (lessE p q r)).length = x.evs.length := List.length_map ..
    rw [show lsTo p q r x.evs x.evs.length = x.evs.map (lessE p q r) from lsTo_end]
    have z1 : FzR ((x.evs.map (lessE p q r)).map evRowL) ((x.evs.map (lessE p q r)).map evTV) := FzR.of (f := evRowL) (g := evTV) (fun _ => rfl) _
    refine xD 22 (v4, 2) 13 ((x.evs.map (lessE p q r)).map evTV) (T x.evs.length) (stL [(5, ((v3, 1), ⟨3, [[.d (evsTV (x.evs.map (lessE p q r))), .d (ints x.from_), .d (rowsTV x.order)]]⟩))]) (by rw [← z1.eq]; rfl) (by repeat' (first | exact yZ | refine wD rfl (.same _) ?_))
     (fG (by decide) rfl (frr_cons (kE (yO (by simp)) (kE (.same _) (kE (.same _) frc_nil))) frr_nil) kD) ?_
    generalize allowB x = a at hA hm
    generalize allowB (lessX p q r x) = b at hB hm
    refine uI ?_; refine aoR fun _ => ?_
    refine uI ?_; refine cnd ?_ ?_
    refine uP fun _ => ?_; try (exfalso; omega)
    refine uR fun _ => ?_; try (exfalso; omega)
    refine uI ?_; refine aoR fun _ => ?_
    refine uI ?_
    apply uQ; exact rfl; exact .fn _ _ _; exact rfl; (exact hA)
    refine uI ?_; refine aoR fun _ => ?_
    refine uI ?_
    apply uQ; exact rfl; exact .fn _ _ _; exact rfl; (exact hB)
    refine uI ?_; refine aoR fun _ => ?_
    refine uI ?_
    apply uE; exact rfl; exact rfl
    refine uP fun _ => ?_; try (exfalso; omega)
    refine uI ?_
    apply uE; exact rfl; exact rfl
    refine uK ?_; refine uI ?_
    apply uE; exact rfl; exact rfl
    refine wX (fun hc_ => ?_); (try simp only [nrm] at hc_)
    refine uI ?_
    apply uE; exact rfl; exact rfl
    refine uK ?_; refine uI ?_
    apply uE; exact rfl; exact rfl
    refine uK ?_; refine uI ?_
    apply vQ; exact rfl; exact rfl
    refine yE ?_
    refine yK (fun _ => ?_)
    refine uI ?_
    apply uE; exact rfl; exact rfl
    refine uK ?_; refine uI ?_
    apply uE; exact rfl; exact rfl
    refine xG ?_; refine uK ?_
    refine wX (fun hc_ => ?_); (try simp only [nrm] at hc_)
    apply uQ; exact rfl; exact .fn _ _ _; exact rfl; (exact hkn)
    refine uI ?_; rotate_left
    refine wN (fun hc_ => ?_); (try simp only [nrm] at hc_)
    refine uI ?_; rotate_left
    exact vX
    refine aY ?_
    refine sX (fun _ => ?_)
    apply uE; exact rfl; exact rfl
    refine uK ?_; refine uI ?_
    apply uE; exact rfl; exact rfl
    refine wX (fun hc_ => ?_); (try simp only [nrm] at hc_)
    apply uQ; exact rfl; exact .fn _ _ _; exact rfl; (exact hkn)
    refine uI ?_; rotate_left
    refine xA ?_
    iterate 4 exact vX
    refine xA ?_
    iterate 2 exact vX
    refine uR fun _ => ?_; try (exfalso; omega)
    all_goals first | exact vF rfl rfl | (exfalso; cases a <;> cases b <;> simp_all; done)
  ·refine uI ?_
   refine aoR fun _ => ?_; refine uI ?_
   refine aoR fun _ => ?_; refine uI ?_
   apply uQ; exact rfl; exact .fn _ _ _; exact rfl; (exact hwd)
   refine uI ?_
   apply vQ; exact rfl; exact rfl
   refine uG ?_; refine uI ?_
   apply vQ; exact rfl; exact rfl
   refine uG ?_
   apply uQ; exact rfl; exact .fn _ _ _; exact rfl; (exact hC)
   apply vQ; exact rfl; exact rfl
   refine uG ?_; refine uI ?_; refine cnd ?_ ?_
   refine wX (fun hc_ => ?_); (try simp only [nrm] at hc_)
   refine uI ?_; refine aoR fun _ => ?_
   apply uQ; exact rfl; exact .fn _ _ _; exact rfl; (exact hkn)
   refine uI ?_; rotate_left
   refine xA ?_; refine uG ?_
   refine wJ (fun _ => ?_); (try (exfalso; omega))
   iterate 3 exact uJ
   all_goals first | exact vF rfl rfl | (exfalso; rcases hc_ with h | h; cases h; exact h trivial)
theorem lawLess_q {P : Prop} (x : Ex) (w : Int) (hx : x.ok) (_ : P) : Pure E.P 5 [exOV x, .int .i64 w] (.bool true) := lawLess_p x hx w
end Go.Proofs.YtnkocjkkefnelaaGreat
