/- Parts. -/
import Derived.Test.YtnkocjkkefnelaaGreatPn6
import Derived.Test.YtnkocjkkefnelaaGreatPn22
import Derived.Test.YtnkocjkkefnelaaGreatPn28
import Derived.Test.YtnkocjkkefnelaaGreatPn30
set_option linter.unusedVariables false
set_option linter.unusedSimpArgs false
set_option maxHeartbeats 4000000
set_option maxRecDepth 100000
namespace Go.Proofs.YtnkocjkkefnelaaGreat
open Go.RowKit
section
variable {E : Env} {v j : Nat} {ops : Array Oper} {K : Tm → Store → Prop} {rest : List Oper} {tm : Tm} {σ : Store} {ty : TypeId} {pos : String} {af : Array Edge}
theorem S_minE {d : Option Nat} {T T' : TypeId} {x y : Operand} {k : IntKind} {a b m : Int} (hx : ev tm x = some (.int k a)) (hy : ev tm y = some (.int k b)) (he : (if b < a then b else a) = m) (hcont : AO E.P v ops K (j + 1) rest (tm.putO d (.int k m)) (σ.apply [])) : AO E.P v ops K j (⟨d, .call { callee := .builtin .min, args := #[x, y], argTypes := #[T, T'] }, ty, pos, af, none⟩ :: rest) tm σ := by
 subst he; exact rQ hx hy hcont
end
theorem mP (l : List Int) (n : Int) (hl : l.length ≤ 1152921504606846976) : Pure E.P 62 [.d (ints l), .int .i64 n] (.int .i64 (atI l n)) := by
 refine fnA Tryz.func62 Tryz.ntmps62 ?_
 refine uB (aoR fun _ => ?_)
 refine q12 (uD (uC ?_))
 iterate 2 refine uB ?_
 refine aoR fun _ => ?_; refine q11 ?_; refine q13 ?_; refine q11 (uD (uC (uW ?_)))
 rotate_left
 refine vJ (X := Nat) (fun k => tmL [(0, .d (ints l)), (1, .int .i64 n), (7, .int .i64 l.length), (8, .int .i64 k)]) (fun _ => stL []) (fun k => k ≤ l.length ∧ atI l n = atFrom n (l.drop k) k) (fun k => l.length - k) 0 ⟨Nat.zero_le _, rfl⟩ leP leP ?_
 rintro k ⟨hk, ht⟩
 by_cases hlt : k < l.length
 ·have hd := bF l n k hlt
  refine uB (aoR fun _ => ?_)
  refine q37 (uD (uC (uB ?_))); refine cnd ?_ ?_
  refine uN fun _ => ?_; try omega
  refine uX (uC (uB (uW (uB (aoR fun _ => ?_)))))
  refine q11 ?_; refine q12 (uD (uC (uB (aoR fun _ => ?_))))
  iterate 3 refine q11 ?_
  refine q17 ?_; refine q23 ?_; refine q46 (uD (uC ?_)); refine cnd ?_ ?_
  refine uN fun _ => ?_; try omega
  refine uB (aoR fun _ => ?_)
  refine q11 ?_; refine q12 (uD (uC ?_)); refine wE ?_; refine eQ ?_
  iterate 2 refine zN ?_
  refine eQ ?_; refine zN ?_; rotate_left
  refine uR fun _ => ?_; try omega
  refine uX ?_; refine xH ?_; refine uC (aoR fun _ => ?_)
  refine q36 ?_; refine q11 (uD (uC ?_)); rotate_left
  refine uR fun _ => ?_; try omega
  ·rename_i he _
   refine lQ rfl ?_
   have he' : n = l.getD k 0 := he
   rw [ht, hd, if_pos he'.symm]
  ·rename_i he _
   have he' : ¬ n = l.getD k 0 := he
   refine vQ (k + 1) ⟨by omega, ?_⟩ (by omega) leP leP
   rw [ht, hd, if_neg (fun h => he' h.symm)]
 ·refine uB (aoR fun _ => ?_)
  refine q37 (uD (uC (uB ?_))); refine cnd ?_ ?_
  refine uN fun _ => ?_; try omega
  refine uR fun _ => ?_; try omega
  refine vU ?_
  iterate 2 refine wF ?_
  refine xR ?_; refine uC (uB (aoR fun _ => ?_))
  refine q12 (uD (uC ?_)); refine wE ?_; rotate_left
  refine lQ rfl ?_
  rw [ht, List.drop_eq_nil_of_le (by omega)]; rfl
theorem cA {l : List Int} {j : Nat} (h : j < l.length) : l.getD j 0 ∈ l := by
 rw [List.getD_eq_getElem?_getD, List.getElem?_eq_getElem h]; exact List.getElem_mem h
theorem pO {x : Ex} (h : checkI x = 0) {i : Nat} (hi : i < x.order.length) : ∀ j, j < (x.order.getD i default).2.length → 0 ≤ (x.order.getD i default).2.getD j 0 ∧ (x.order.getD i default).2.getD j 0 < x.evs.length := fun j hj => by
 have h4 := (uV h).2.2.2
 unfold orderB rowsTo at h4
 simp only [Bool.and_eq_true, decide_eq_true_eq] at h4
 have h6 := List.all_eq_true.1 h4.2 i (List.mem_range.2 hi)
 unfold rowOk at h6
 simp only [Bool.and_eq_true, beq_iff_eq] at h6
 have hm2 : (x.order.getD i default).2.getD j 0 ∈ sortI (x.order.getD i default).2 := (List.mergeSort_perm _ _).mem_iff.2 (cA hj)
 rw [h6.2] at hm2
 unfold wantTo at hm2
 obtain ⟨m, h1, e⟩ := List.mem_map.1 hm2
 have h2 := List.mem_range.1 (List.mem_filter.1 h1).1
 rw [← e]
 simp only [Int.ofNat_eq_natCast]
 omega
def jdOV (x : Ex) (rf co fr : List (Int × Int)) : OV := .ag [.d (evsTV x.evs), .d (ints x.from_), .d (rowsTV x.order), .d (pairsTV rf), .d (pairsTV co), .d (pairsTV fr)]
theorem of_p (x : Ex) (hx : x.fit) : Pure E.P 36 [exOV x] (jdOV x (rfF x) (coF x) (frF x)) := by
 have f1 : Frozen 1 := ⟨trivial⟩
 have f5 : Frozen 5 := ⟨trivial⟩
 have f7 : Frozen 7 := ⟨trivial⟩
 have f9 : Frozen 9 := ⟨trivial⟩
 have h1 := rf_s x hx
 have h2 := co_s x hx
 have h3 := fr_s x hx
 refine FnW.toR ?_
 refine wQ (vs := [.cell 2 67]) Tryz.func36 (by decide) rfl Tryz.ntmps36 (Nat.le_of_ble_eq_true rfl) rfl ?_
 refine uB (aoR fun _ => ?_)
 refine q34 ?_
 apply xQ; exact rfl
 refine uD (uC (uB ?_))
 refine vF (E := E) ?_ (fun _ => ?_); exact rfl
 iterate 2 (apply zC; exact rfl; exact rfl; exact rfl; exact Nat.le_of_ble_eq_true rfl)
 apply mD; assumption; exact rfl; exact .fn _ _ _; exact rfl; exact h1; exact xW _; exact rfl
 apply zC; exact rfl; exact rfl; exact rfl; exact Nat.le_of_ble_eq_true rfl
 apply mD; assumption; exact rfl; exact .fn _ _ _; exact rfl; exact h2; exact xW _; exact rfl
 apply zC; exact rfl; exact rfl; exact rfl; exact Nat.le_of_ble_eq_true rfl
 apply mD; assumption; exact rfl; exact .fn _ _ _; exact rfl; exact h3; exact xW _; exact rfl
 apply mE; exact rfl; exact rfl; exact rfl; exact rfl; exact rfl
 apply mC; exact rfl; exact rfl; exact rfl; exact rfl; exact rfl; exact rfl; (first | exact rfl | exact uY (by omega) (0 : Int) | exact uY (by omega) default | exact wK (by omega) (by omega) (0 : Int) | assumption); exact Nat.le_of_ble_eq_true rfl
 refine lS ?_ ?_; (first | ((try dsimp only [wkeys]); decide +kernel) | exact rfl)
 refine uC ?_; refine wE ?_; rotate_left
 exact qZ rfl rfl rfl rfl rfl rfl
def readsR (x : Ex) (n : Nat) : Int × Bool := if (x.evs.getD n default).kind = 3 then ((n : Int), true) else pairedR x n
theorem reads_p (x : Ex) (hx : x.fit) (rf co fr : List (Int × Int)) (n : Nat) (hn : n < x.evs.length) : Pure E.P 61 [jdOV x rf co fr, .int .i64 n] (.tu [.int .i64 (readsR x n).1, .bool (readsR x n).2]) := by
 have f2 : Frozen 2 := ⟨trivial⟩
 have hl := hx.1.1
 have hP := Paired_p x hx n
 refine FnW.toR ?_
 refine wQ (vs := [.tmp 4, .tmp 5]) Tryz.func61 (by decide) rfl Tryz.ntmps61 (Nat.le_of_ble_eq_true rfl) rfl ?_
 refine uB (aoR fun _ => ?_)
 refine q34 ?_
 iterate 2 refine q12 ?_
 refine uD (uC ?_)
 iterate 2 refine uB ?_
 refine aoR fun _ => ?_
 iterate 2 refine q32 ?_
 refine q23 ?_; refine q11 ?_; refine q17 ?_; refine q32 ?_; refine q23 ?_; refine q46 (uD (uC ?_)); refine cnd ?_ ?_
 refine uN fun _ => ?_; try omega
 refine uB (aoR fun _ => ?_)
 refine q11 ?_
 iterate 2 refine q12 ?_
 refine uD (uC ?_); refine wE ?_; refine zN ?_; rotate_left
 refine uR fun _ => ?_; try omega
 refine uX (uC (uB (aoR fun _ => ?_)))
 refine q32 ?_; refine q33 ?_; refine q11 ?_
 apply uO; exact rfl; exact .fn _ _ _; exact rfl; exact hP
 iterate 2 (apply zX; exact rfl; exact rfl)
 iterate 2 refine q12 ?_
 refine uD (uC ?_); refine wE ?_; rotate_left
 ·refine aK rfl rfl ?_
  rename_i hk _
  have hk' : (x.evs.getD n default).kind = 3 := hk
  unfold readsR
  rw [if_pos hk']
 ·refine aK rfl rfl ?_
  rename_i hk _
  have hk' : ¬ (x.evs.getD n default).kind = 3 := hk
  unfold readsR
  rw [if_neg hk']
theorem kO (n : Int) : ∀ (l : List Int) (k : Nat), atFrom n l k = -1 ∨ ((k : Int) ≤ atFrom n l k ∧ atFrom n l k < k + l.length)
 | [], k => Or.inl rfl
 | a :: l, k => by
  unfold atFrom
  split
  ·right; simp only [List.length_cons]; omega
  ·rcases kO n l (k + 1) with h | h
   ·exact Or.inl h
   ·right; simp only [List.length_cons]; omega
theorem rD (l : List Int) (n : Int) : -1 ≤ atI l n ∧ atI l n < l.length := by
 rcases kO n l 0 with h | h <;> unfold atI <;> omega
theorem fA (es : List Ev) (f : Ev) : ∀ k, -1 ≤ pairTo es f k ∧ pairTo es f k < k
 | 0 => by unfold pairTo; omega
 | k + 1 => by
  have := fA es f k
  unfold pairTo
  split
  ·split
   ·split
    ·omega
    ·split <;> omega
   ·omega
  ·omega
theorem readsR_bd (x : Ex) (n : Nat) : 0 ≤ (readsR x n).1 ∧ (readsR x n).1 ≤ n := by
 unfold readsR
 split
 ·dsimp only; omega
 ·unfold pairedR
  split
  ·rename_i h
   rw [Int.toNat_natCast] at h ⊢
   dsimp only
   unfold pairedI at h ⊢
   split
   ·have := fA x.evs (x.evs.getD n default) n
    rename_i h2
    rw [if_pos h2] at h
    omega
   ·rename_i h2
    rw [if_neg h2] at h
    omega
  ·dsimp only; omega
def atomLo (n : Nat) (f : Int) (l : List Int) : Nat := (min (atI l f + 1) (atI l n)).toNat
def atomSl (n : Nat) (f : Int) (l : List Int) : List Int := (l.drop (atomLo n f l)).take ((atI l n).toNat - atomLo n f l)
def atomM (x : Ex) (n : Nat) (m : Int) : Bool := decide ((x.evs.getD m.toNat default).hart = (x.evs.getD n default).hart)
def atomRow (x : Ex) (n : Nat) (f : Int) (l : List Int) : Bool := decide (atI l f < 0) || decide (atI l n < 0) || (atomSl n f l).all (atomM x n)
def atomEv (x : Ex) (n : Nat) : Bool := !(readsR x n).2 || x.order.all fun r => atomRow x n (x.from_.getD (readsR x n).1.toNat 0) r.2
def atomB (x : Ex) : Bool := (List.range x.evs.length).all (atomEv x)
theorem atom_no {x : Ex} {n : Nat} (hn : n < x.evs.length) (h : atomEv x n = false) : atomB x = false := by
 unfold atomB
 rw [List.all_eq_false]
 exact ⟨n, List.mem_range.2 hn, by rw [h]; decide⟩
def jdRow (x : Ex) (rf co fr : List (Int × Int)) : List TV := [evsTV x.evs, ints x.from_, rowsTV x.order, pairsTV rf, pairsTV co, pairsTV fr]
set_option maxHeartbeats 4000000 in
theorem atomic_p (x : Ex) (hx : x.rel) (rf co fr : List (Int × Int)) : Pure E.P 39 [jdOV x rf co fr] (.bool (atomB x)) := by
 have f1 : Frozen 1 := ⟨trivial⟩
 have f5 : Frozen 5 := ⟨trivial⟩
 have hl := hx.len
 have hlf := hx.from_
 have hlo := hx.ord
 refine fnA Tryz.func39 Tryz.ntmps39 ?_
 refine uB (aoR fun _ => ?_)
 refine q34 ?_; refine q12 (uD (uC ?_)); refine cG ?_; refine uB (aoR fun _ => ?_)
 refine q12 (uD (uC (uB ?_))); refine cH ?_; refine uC ?_
 iterate 2 refine uB ?_
 refine aoR fun _ => ?_
 iterate 2 refine q32 ?_
 refine q23 ?_; refine q13 ?_; refine q11 (uD (uC (uW ?_))); rotate_left
 refine vJ (X := Nat) (fun n => tmL [(1, .d (.pt (jdRow x rf co fr) 0)), (3, .bool true), (16, .d (evsTV x.evs)), (17, .int .i64 x.evs.length), (18, .int .i64 n)]) (fun _ => stL []) (fun n => n ≤ x.evs.length ∧ ∀ j, j < n → atomEv x j = true) (fun n => x.evs.length - n) 0 ⟨Nat.zero_le _, fun j hj => by omega⟩ leP leP ?_
 rintro n ⟨hn, hall⟩
 by_cases hlt : n < x.evs.length
 rotate_left
 ·refine uB (aoR fun _ => ?_)
  refine q37 (uD (uC (uB ?_))); refine cnd ?_ ?_
  refine uN fun _ => ?_; try omega
  refine uR fun _ => ?_; try omega
  refine vU ?_
  iterate 2 refine wF ?_
  refine xR ?_; refine uC (uB (aoR fun _ => ?_))
  refine q11 ?_; refine q12 (uD (uC ?_)); refine wE ?_; refine sA ?_; rotate_left
  refine vI rfl ?_
  unfold atomB
  refine (List.all_eq_true.2 fun j hj => hall j ?_).symm
  have := List.mem_range.1 hj
  omega
 have hR := reads_p x hx.fit rf co fr n hlt
 have hbd := readsR_bd x n
 cases hmust : (readsR x n).2 with
 | false =>
  rw [hmust] at hR
  refine uB (aoR fun _ => ?_)
  refine q37 (uD (uC (uB ?_))); refine cnd ?_ ?_
  refine uN fun _ => ?_; try omega
  refine uX (uC (uB (uW (uB (aoR fun _ => ?_)))))
  refine q11 ?_; refine q17 ?_; refine q33 ?_
  apply xQ; exact rfl
  refine q12 ?_; refine q43 (uD (uC (uB (aoR fun _ => ?_))))
  refine q33 ?_; refine q11 ?_
  apply uO; exact rfl; exact .fn _ _ _; exact rfl; exact hR
  refine q11 ?_
  iterate 2 (apply zX; exact rfl; exact rfl)
  iterate 2 refine q12 ?_
  refine uD (uC ?_)
  iterate 2 refine uB ?_
  refine aoR fun _ => ?_; refine q11 ?_
  apply bI; exact rfl
  refine uD (uC ?_)
  refine cnd ?_ ?_; refine aM ?_; refine uF ?_; refine vU ?_; refine wF ?_; refine xR ?_; refine uC (aoR fun _ => ?_)
  refine q36 ?_; refine q11 (uD (uC ?_)); rotate_left
  refine cO ?_
  exact uG
  refine uR fun _ => ?_; try omega
  refine vQ (n + 1) ⟨by omega, fun j hj => ?_⟩ (by omega) leP leP
  rcases Nat.lt_or_ge j n with e | e
  ·exact hall j e
  ·have : j = n := by omega
   subst this
   unfold atomEv; rw [hmust]; rfl
 | true =>
  rw [hmust] at hR
  refine uB (aoR fun _ => ?_)
  refine q37 (uD (uC (uB ?_))); refine cnd ?_ ?_
  refine uN fun _ => ?_; try omega
  refine uX (uC (uB (uW (uB (aoR fun _ => ?_)))))
  refine q11 ?_; refine q17 ?_; refine q33 ?_
  apply xQ; exact rfl
  refine q12 ?_; refine q43 (uD (uC (uB (aoR fun _ => ?_))))
  refine q33 ?_; refine q11 ?_
  apply uO; exact rfl; exact .fn _ _ _; exact rfl; exact hR
  refine q11 ?_
  iterate 2 (apply zX; exact rfl; exact rfl)
  iterate 2 refine q12 ?_
  refine uD (uC ?_)
  iterate 2 refine uB ?_
  refine aoR fun _ => ?_; refine q11 ?_
  apply bI; exact rfl
  refine uD (uC ?_); refine cnd ?_ ?_; refine aM ?_
  exact vV
  refine cO ?_; refine uI ?_; refine uX (uC (uB (aoR fun _ => ?_)))
  iterate 2 refine q32 ?_
  refine q23 ?_; refine q13 ?_; refine q11 (uD (uC (uW ?_))); rotate_left
  refine uR fun _ => ?_; try omega
  generalize hr : (readsR x n).1 = r at hbd
  refine vJ (X := Nat) (fun j => tmL [(1, .d (.pt (jdRow x rf co fr) 0)), (3, .bool true), (4, .int .i64 n), (5, .d (.pt (evTV (x.evs.getD n default)) 0)), (6, .int .i64 r), (16, .d (evsTV x.evs)), (17, .int .i64 x.evs.length), (18, .int .i64 n), (33, .d (rowsTV x.order)), (34, .int .i64 x.order.length), (35, .int .i64 j)]) (fun _ => stL []) (fun j => j ≤ x.order.length ∧ ∀ q, q < j → atomRow x n (x.from_.getD r.toNat 0) (x.order.getD q default).2 = true) (fun j => x.order.length - j) 0 ⟨Nat.zero_le _, fun j hj => by omega⟩ leP leP ?_
  rintro j ⟨hj, hrows⟩
  by_cases hltj : j < x.order.length
  rotate_left
  ·refine uB (aoR fun _ => ?_)
   refine q37 (uD (uC (uB ?_))); refine cnd ?_ ?_
   refine uN fun _ => ?_; try omega
   refine uR fun _ => ?_; try omega
   refine vU ?_
   iterate 2 refine wF ?_
   refine xR ?_; refine xH ?_; refine uC (aoR fun _ => ?_)
   refine q36 ?_; refine q11 (uD (uC ?_)); rotate_left
   refine vQ (n + 1) ⟨by omega, fun q hq => ?_⟩ (by omega) leP leP
   rcases Nat.lt_or_ge q n with e | e
   ·exact hall q e
   ·have : q = n := by omega
    subst this
    unfold atomEv
    rw [hmust, Bool.not_true, Bool.false_or, List.all_eq_true]
    intro w hw
    obtain ⟨z, hz, rfl⟩ := List.mem_iff_getElem.1 hw
    have := hrows z (by omega)
    rw [List.getD_eq_getElem?_getD (l := x.order), List.getElem?_eq_getElem hz] at this
    rw [hr]; exact this
  have hrl := hx.rows j
  have hI1 := mP (x.order.getD j default).2 (x.from_.getD r.toNat 0) (by omega)
  have hI2 := mP (x.order.getD j default).2 n (by omega)
  have hb1 := rD (x.order.getD j default).2 (x.from_.getD r.toNat 0)
  have hb2 := rD (x.order.getD j default).2 n
  have hrb : 0 ≤ r ∧ r < x.from_.length := by omega
  by_cases hneg : atI (x.order.getD j default).2 (x.from_.getD r.toNat 0) < 0 ∨ atI (x.order.getD j default).2 n < 0
  ·refine uB (aoR fun _ => ?_)
   refine q37 (uD (uC (uB ?_))); refine cnd ?_ ?_
   refine uN fun _ => ?_; try omega
   refine uX (uC (uB (uW (uB (aoR fun _ => ?_)))))
   refine q17 ?_; refine q23 ?_; refine q12 (uD (uC (uB (aoR fun _ => ?_))))
   refine q11 ?_
   iterate 2 refine q32 ?_
   refine q23 ?_; refine q11 ?_; refine q17 ?_; refine q23 ?_
   apply uO; exact rfl; exact .fn _ _ _; exact rfl; exact hI1
   iterate 2 refine q11 ?_
   apply uO; exact rfl; exact .fn _ _ _; exact rfl; exact hI2
   iterate 2 refine q12 ?_
   refine uD (uC ?_)
   iterate 2 refine uB ?_
   refine aoR fun _ => ?_; refine q11 ?_; refine q37 ?_; refine q11 ?_
   apply spF; exact rfl
   intro hc_; refine q1
   apply spF; exact rfl
   intro hc_; refine q22; refine q0 (uD ?_); refine uC ?_
   refine cnd ?_ ?_
   refine yS (fun hc_ => ?_); (try simp only [nrm] at hc_)
   refine vU ?_; refine wF ?_; refine xR ?_; refine uC (aoR fun _ => ?_)
   refine q36 ?_; refine q11 (uD (uC ?_)); rotate_left
   refine yT ?_
   iterate 3 refine uR fun _ => ?_; try omega
   ·refine vQ (j + 1) ⟨by omega, fun q hq => ?_⟩ (by omega) leP leP
    rcases Nat.lt_or_ge q j with e | e
    ·exact hrows q e
    ·have : q = j := by omega
     subst this
     unfold atomRow
     rcases hneg with h | h
     ·rw [decide_eq_true h]; rfl
     ·rw [decide_eq_true h, Bool.or_true]; rfl
  ·have hlo0 : atomLo n (x.from_.getD r.toNat 0) (x.order.getD j default).2 ≤ (atI (x.order.getD j default).2 n).toNat := by unfold atomLo; omega
   have hml : ((x.order.getD j default).2.map cell).length = (x.order.getD j default).2.length := List.length_map ..
   have hml2 : ((x.order.getD (j : Int).toNat default).2.map cell).length = (x.order.getD j default).2.length := List.length_map ..
   have hmn : (if atI (x.order.getD j default).2 n < atI (x.order.getD j default).2 (x.from_.getD r.toNat 0) + 1 then atI (x.order.getD j default).2 n else atI (x.order.getD j default).2 (x.from_.getD r.toNat 0) + 1) = ((atomLo n (x.from_.getD r.toNat 0) (x.order.getD j default).2 : Nat) : Int) := by
    unfold atomLo
    split <;> omega
   refine uB (aoR fun _ => ?_)
   refine q37 (uD (uC (uB ?_))); refine cnd ?_ ?_
   refine uN fun _ => ?_; try omega
   refine uX (uC (uB (uW (uB (aoR fun _ => ?_)))))
   refine q17 ?_; refine q23 ?_; refine q12 (uD (uC (uB (aoR fun _ => ?_))))
   refine q11 ?_
   iterate 2 refine q32 ?_
   refine q23 ?_; refine q11 ?_; refine q17 ?_; refine q23 ?_
   apply uO; exact rfl; exact .fn _ _ _; exact rfl; exact hI1
   iterate 2 refine q11 ?_
   apply uO; exact rfl; exact .fn _ _ _; exact rfl; exact hI2
   iterate 2 refine q12 ?_
   refine uD (uC ?_)
   iterate 2 refine uB ?_
   refine aoR fun _ => ?_; refine q11 ?_; refine q37 ?_; refine q11 ?_
   apply spF; exact rfl
   intro hc_; refine q1
   apply spF; exact rfl
   intro hc_; refine q22; refine q0 (uD ?_); refine uC ?_
   refine cnd ?_ ?_
   refine yS (fun hc_ => ?_); (try simp only [nrm] at hc_)
   refine vU ?_; refine wF ?_; refine xR ?_; refine uC (aoR fun _ => ?_)
   refine q36 ?_; refine q11 (uD (uC ?_)); rotate_left
   refine yT ?_
   iterate 2 refine uR fun _ => ?_; try omega
   refine uX (uC (uB (aoR fun _ => ?_)))
   iterate 2 refine q11 ?_
   refine q36 ?_; refine q11 ?_
   apply S_minE; exact rfl; exact rfl; exact hmn
   refine q11 ?_
   (apply aH; exact rfl; exact rfl; exact rfl; exact rfl; exact rfl; (first | exact rfl | exact ⟨_, _, rfl, by omega, rfl⟩); (first | exact rfl | exact ⟨_, _, rfl, by omega, rfl⟩); omega; omega)
   refine q13 ?_; refine q11 (uD (uC (uW ?_))); rotate_left
   refine uR fun _ => ?_; try omega
   ·exact (hneg hc_).elim
   obtain ⟨lo, hlo⟩ : ∃ lo, atomLo n (x.from_.getD r.toNat 0) (x.order.getD j default).2 = lo := ⟨_, rfl⟩
   have hS : List.take ((atI (x.order.getD j default).2 n).toNat - ((lo : Nat) : Int).toNat) (List.drop ((lo : Nat) : Int).toNat (List.map cell (x.order.getD (j : Int).toNat default).2)) = List.map cell (atomSl n (x.from_.getD r.toNat 0) (x.order.getD j default).2) := by
    rw [Int.toNat_natCast, Int.toNat_natCast, ← List.map_drop, ← List.map_take]; unfold atomSl; rw [hlo]
   rw [hlo, hS]
   have hSm : ∀ z, z < (atomSl n (x.from_.getD r.toNat 0) (x.order.getD j default).2).length → 0 ≤ (atomSl n (x.from_.getD r.toNat 0) (x.order.getD j default).2).getD z 0 ∧ (atomSl n (x.from_.getD r.toNat 0) (x.order.getD j default).2).getD z 0 < x.evs.length := fun z hz => by
    have hm : (atomSl n (x.from_.getD r.toNat 0) (x.order.getD j default).2).getD z 0 ∈ (x.order.getD j default).2 := by
     have h1 := cA hz
     unfold atomSl at h1 ⊢
     exact List.mem_of_mem_drop (List.mem_of_mem_take h1)
    obtain ⟨w, hw, e⟩ := List.mem_iff_getElem.1 hm
    have := pO hx.check hltj w hw
    rw [List.getD_eq_getElem?_getD, List.getElem?_eq_getElem hw, Option.getD_some, e] at this
    exact this
   have hrow : atomRow x n (x.from_.getD r.toNat 0) (x.order.getD j default).2 = (atomSl n (x.from_.getD r.toNat 0) (x.order.getD j default).2).all (atomM x n) := by
    unfold atomRow
    rw [decide_eq_false (fun h => hneg (Or.inl h)), decide_eq_false (fun h => hneg (Or.inr h))]; rfl
   have hSl : (atomSl n (x.from_.getD r.toNat 0) (x.order.getD j default).2).length ≤ 65536 := by
    unfold atomSl
    rw [List.length_take, List.length_drop]; omega
   generalize atomSl n (x.from_.getD r.toNat 0) (x.order.getD j default).2 = S at hSm hrow hSl
   refine vJ (X := Nat) (fun z => tmL [(1, .d (.pt (jdRow x rf co fr) 0)), (3, .bool true), (4, .int .i64 n), (5, .d (.pt (evTV (x.evs.getD n default)) 0)), (6, .int .i64 r), (16, .d (evsTV x.evs)), (17, .int .i64 x.evs.length), (18, .int .i64 n), (33, .d (rowsTV x.order)), (34, .int .i64 x.order.length), (35, .int .i64 j), (62, .d (ints S)), (63, .int .i64 S.length), (64, .int .i64 z)]) (fun _ => stL []) (fun z => z ≤ S.length ∧ ∀ q, q < z → atomM x n (S.getD q 0) = true) (fun z => S.length - z) 0 ⟨Nat.zero_le _, fun j hj => by omega⟩ (by repeat' (first | exact wO _ | exact wD _ | refine uL rfl ?_ | refine vK rfl ?_ | (refine vY rfl ?_ ?_; (simp)) | (refine vM rfl ?_ ?_; (simp)) | (refine vA rfl ?_ ?_; (simp)))) leP ?_
   rintro z ⟨hz, hms⟩
   by_cases hltz : z < S.length
   ·have hz1 := hSm z hltz
    have hz2 : 0 ≤ S.getD (z : Int).toNat 0 ∧ S.getD (z : Int).toNat 0 < x.evs.length := hz1
    refine uB (aoR fun _ => ?_)
    refine q37 (uD (uC (uB ?_))); refine cnd ?_ ?_
    refine uN fun _ => ?_; try omega
    refine uX (uC (uB (uW (uB (aoR fun _ => ?_)))))
    refine q17 ?_; refine q23 ?_; refine q12 (uD (uC (uB ?_)))
    refine vF (E := E) ?_ (fun _ => ?_); exact rfl
    iterate 2 refine q52 ?_
    refine q50 ?_; refine q38 ?_; refine q30 ?_; refine q52 ?_; refine q50 ?_; refine q52 ?_; refine q50 ?_
    apply rZ; exact rfl; exact rfl
    apply jO; exact rfl
    refine lS ?_ ?_; (first | ((try dsimp only [wkeys]); decide +kernel) | exact rfl)
    refine uC (uB (aoR fun _ => ?_))
    refine q11 ?_
    apply bI; exact rfl
    refine uD (uC ?_); refine cnd ?_ ?_
    refine xG (fun _ => ?_); (try omega)
    refine vU ?_
    refine gE ?_ ?_; exact rfl
    iterate 2 refine wF ?_
    iterate 2 (refine gE ?_ ?_; exact rfl)
    iterate 2 refine wF ?_
    iterate 2 (refine gE ?_ ?_; exact rfl)
    iterate 2 refine wF ?_
    refine xR ?_; refine uC (uB (aoR fun _ => ?_))
    refine q11 ?_; refine q12 (uD (uC ?_)); refine wE ?_; refine sA ?_; rotate_left
    refine xA (fun _ => ?_); (try omega)
    refine uX ?_; refine xH ?_; refine uC (aoR fun _ => ?_)
    refine q36 ?_; refine q11 (uD (uC ?_)); rotate_left
    refine uR fun _ => ?_; try omega
    ·rename_i hh _
     have hh' : ¬ (x.evs.getD (S.getD z 0).toNat default).hart = (x.evs.getD n default).hart := hh
     refine vI rfl ?_
     have hr0 : atomRow x n (x.from_.getD r.toNat 0) (x.order.getD j default).2 = false := by
      rw [hrow, List.all_eq_false]
      refine ⟨S.getD z 0, cA hltz, ?_⟩
      unfold atomM
      rw [decide_eq_false hh']; decide
     have he0 : atomEv x n = false := by
      unfold atomEv
      rw [hmust, Bool.not_true, Bool.false_or, List.all_eq_false]
      refine ⟨x.order.getD j default, ?_, ?_⟩
      ·rw [List.getD_eq_getElem?_getD, List.getElem?_eq_getElem hltj]; exact List.getElem_mem hltj
      ·rw [hr, hr0]; decide
     rw [atom_no hlt he0]
     exact decide_eq_false hh'
    ·rename_i hh _
     have hh' : (x.evs.getD (S.getD z 0).toNat default).hart = (x.evs.getD n default).hart := hh
     refine vQ (z + 1) ⟨by omega, fun q hq => ?_⟩ (by omega) ?_ leP
     ·rcases Nat.lt_or_ge q z with e | e
      ·exact hms q e
      ·have : q = z := by omega
       subst this
       exact decide_eq_true hh'
     ·have hd : decide ((x.evs.getD (S.getD (z : Int).toNat 0).toNat default).hart = (x.evs.getD n default).hart) = true := decide_eq_true hh'
      refine uL rfl (uL (by rw [← hd]; rfl) ?_)
      exact leP
   ·refine uB (aoR fun _ => ?_)
    refine q37 (uD (uC (uB ?_))); refine cnd ?_ ?_
    refine uN fun _ => ?_; try omega
    refine uR fun _ => ?_; try omega
    refine vU ?_
    iterate 2 refine wF ?_
    refine xR ?_; refine xH ?_; refine uC (aoR fun _ => ?_)
    refine q36 ?_; refine q11 (uD (uC ?_)); rotate_left
    refine vQ (j + 1) ⟨by omega, fun q hq => ?_⟩ (by omega) leP leP
    rcases Nat.lt_or_ge q j with e | e
    ·exact hrows q e
    ·have : q = j := by omega
     subst this
     rw [hrow, List.all_eq_true]
     intro w hw
     obtain ⟨y, hy, rfl⟩ := List.mem_iff_getElem.1 hw
     have := hms y (by omega)
     rwa [List.getD_eq_getElem?_getD, List.getElem?_eq_getElem hy] at this
end Go.Proofs.YtnkocjkkefnelaaGreat
