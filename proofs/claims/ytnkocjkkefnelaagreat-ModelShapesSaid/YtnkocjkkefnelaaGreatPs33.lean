/- Parts. -/
import Derived.Deep.OwnRows
import Derived.Test.YtnkocjkkefnelaaGreatPs4
import Derived.Test.YtnkocjkkefnelaaGreatPs6
import Derived.Test.YtnkocjkkefnelaaGreatPs9
import Derived.Test.YtnkocjkkefnelaaGreatPs18
import Derived.Test.YtnkocjkkefnelaaGreatPs20
import Derived.Test.YtnkocjkkefnelaaGreatPs22
import Derived.Test.YtnkocjkkefnelaaGreatPs23
import Derived.Test.YtnkocjkkefnelaaGreatPs24
import Derived.Test.YtnkocjkkefnelaaGreatPs32
set_option linter.unusedVariables false
set_option linter.unusedSimpArgs false
set_option maxHeartbeats 4000000
set_option maxHeartbeats 4000000
set_option maxRecDepth 100000
namespace Go.Proofs.YtnkocjkkefnelaaGreat
open Go.RowKit
theorem rppo_p (x : Ex) (hx : x.rok) (a b : Nat) (ha : a < x.evs.length) (hb : b < x.evs.length) : Pure E.P 47 [exOV x, .int .i64 a, .int .i64 b] (.bool (isPpo x a b)) := by
 have hl := hx.len
 have f3 : Frozen 3 := ⟨trivial⟩
 refine fnA Tryz.func47 Tryz.ntmps47 ?_
 refine run ?_; refine aoR fun _ => ?_
 refine run ?_; refine aoR fun _ => ?_
 refine run ?_; rotate_left
 refine uT (X := Nat) (fun r => tmL [(1, .int .i64 a), (2, .int .i64 b), (3, .d (.pt (exRow x) 0)), (7, .int .i64 r)]) (fun _ => stL []) (fun r => 1 ≤ r ∧ r ≤ 14 ∧ ∀ q : Int, 1 ≤ q → q < r → ruleB x q a b = false) (fun r => 14 - r) 1 ⟨by omega, by omega, fun q h1 h2 => by omega⟩ leP leP ?_
 rintro r ⟨h1, h2, h3⟩
 by_cases h14 : r < 14
 ·have hr := rrule_p x hx r a b ha hb (by omega) (by omega)
  refine run ?_; refine aoR fun _ => ?_
  refine run ?_; refine cnd ?_ ?_
  refine uF fun _ => ?_; try omega
  refine run ?_; refine aoR fun _ => ?_
  refine run ?_
  apply uP; exact rfl; exact .fn _ _ _; exact rfl; exact hr
  refine run ?_; refine cnd ?_ ?_
  refine wQ (fun _ => ?_)
  refine run ?_; refine aoR fun _ => ?_
  refine run ?_; rotate_left
  refine cI (fun _ => ?_)
  refine run ?_; refine aoR fun _ => ?_
  refine run ?_; rotate_left
  refine uI fun _ => ?_; try omega
  ·rename_i hy _
   refine uU rfl ?_
   unfold isPpo
   exact (List.any_eq_true.2 ⟨(r : Int), by unfold rs13; simp only [List.mem_cons, List.not_mem_nil, or_false]; omega, hy⟩).symm
  ·rename_i hy _
   refine uV (r + 1) ⟨by omega, by omega, fun q g1 g2 => ?_⟩ (by omega) leP leP
   by_cases e : q = r
   ·rw [e]; exact hy
   ·exact h3 q g1 (by omega)
 ·refine run ?_
  refine aoR fun _ => ?_; refine run ?_
  refine cnd ?_ ?_
  refine uF fun _ => ?_; try omega
  refine uI fun _ => ?_; try omega
  refine run ?_; refine aoR fun _ => ?_
  refine run ?_; rotate_left
  refine uU rfl ?_
  unfold isPpo
  refine (List.any_eq_false.2 fun q hq => ?_).symm
  unfold rs13 at hq
  simp only [List.mem_cons, List.not_mem_nil, or_false] at hq
  rw [h3 q (by omega) (by omega)]; decide
theorem WRel.cell {Γ : Ctx} {G : Gh} {σ : Store} {w : World} {kx q i o : Nat} {τx : Stamp} {rows : List (List OV)} {row : List OV} {y y' : OV} (hw : WRel Γ G σ w) (hk : σ kx = some (τx, ⟨q, rows⟩)) (hr : rows[i]? = some row) (ho : row[o]? = some y) (hy : ∀ x, RepO G y x → RepO G y' x) :
  WRel Γ G (σ.put kx (τx, ⟨q, rows.set i (row.set o y')⟩)) w where
 mem := hw.mem
 own j τ' r' hj := by
  by_cases e : j = kx
  ·subst e
   rw [Store.put_self] at hj
   cases hj
   rcases hw.own j _ _ hk with ⟨_, g2⟩ | ⟨β, g1, ⟨cs, c1, c2, c3, c4⟩, g3, g4⟩
   ·have g2' : rows = [] := g2
    rw [g2'] at hr; simp at hr
   ·refine Or.inr ⟨β, g1, ⟨cs, c1, c2, by simpa using c3, fun i' row' hi => ?_⟩, g3, g4⟩
    by_cases ei : i' = i
    ·subst ei
     obtain ⟨d1, d2⟩ := c4 i' row hr
     have hlt : i' < rows.length := by
      rcases Nat.lt_or_ge i' rows.length with h | h
      ·exact h
      ·rw [List.getElem?_eq_none h] at hr; cases hr
     have hi' : (rows.set i' (row.set o y'))[i']? = some row' := hi
     rw [List.getElem?_set_self hlt] at hi'
     cases hi'
     refine ⟨by rw [List.length_set]; exact d1, fun o' z hz => ?_⟩
     by_cases eo : o' = o
     ·subst eo
      have hlo : o' < row.length := by
       rcases Nat.lt_or_ge o' row.length with h | h
       ·exact h
       ·rw [List.getElem?_eq_none h] at ho; cases ho
      rw [List.getElem?_set_self hlo] at hz
      cases hz
      obtain ⟨v, e6, e7⟩ := d2 o' y ho
      exact ⟨v, e6, hy v e7⟩
     ·rw [List.getElem?_set_ne (Ne.symm eo)] at hz
      exact d2 o' z hz
    ·have hi' : (rows.set i (row.set o y'))[i']? = some row' := hi
     rw [List.getElem?_set_ne (Ne.symm ei)] at hi'
     exact c4 i' row' hi'
  ·rw [Store.put_ne _ _ e] at hj
   exact hw.own j τ' r' hj
 inj j j' τ1 τ2 β β' r r' hj hj' hμ hμ' e := by
  have old : ∀ j τ r, (σ.put kx (τx, ⟨q, rows.set i (row.set o y')⟩)) j = some (τ, r) → ∃ r0, σ j = some (τ, r0) := fun j τ r h => by
   by_cases e : j = kx
   ·subst e; rw [Store.put_self] at h; cases h; exact ⟨_, hk⟩
   ·rw [Store.put_ne _ _ e] at h; exact ⟨r, h⟩
  obtain ⟨r1, h1⟩ := old _ _ _ hj
  obtain ⟨r2, h2⟩ := old _ _ _ hj'
  exact hw.inj j j' τ1 τ2 β β' r1 r2 h1 h2 hμ hμ' e
 keep := hw.keep
 size := hw.size
 tape := hw.tape
 os := hw.os
 output := hw.output
 g0 := hw.g0
 new := hw.new
 bound := hw.bound
 low := hw.low
def fam (f : Nat → Stamp × Row) (a : Nat) : Nat → Rows
 | 0 => []
 | m + 1 => (a + 1000, f a) :: fam f (a + 1) m
set_option maxRecDepth 100000
section
variable {E : Env} {v j : Nat} {ops : Array Oper} {K : Tm → Store → Prop} {rest : List Oper} {tm : Tm} {σ : Store} {ty : TypeId} {pos : String} {af : Array Edge}
theorem S_minE {d : Option Nat} {T T' : TypeId} {x y : Operand} {k : IntKind} {a b m : Int} (hx : ev tm x = some (.int k a)) (hy : ev tm y = some (.int k b)) (he : (if b < a then b else a) = m) (hcont : AO E.P v ops K (j + 1) rest (tm.putO d (.int k m)) (σ.apply [])) : AO E.P v ops K j (⟨d, .call { callee := .builtin .min, args := #[x, y], argTypes := #[T, T'] }, ty, pos, af, none⟩ :: rest) tm σ := by
 subst he; exact tV hx hy hcont
end
theorem oS (l : List Int) (n : Int) (hl : l.length ≤ 1152921504606846976) : Pure E.P 62 [.d (ints l), .int .i64 n] (.int .i64 (atI l n)) := by
 refine fnA Tryz.func62 Tryz.ntmps62 ?_
 refine uB (aoR fun _ => ?_)
 refine q12 (uE (uC ?_))
 iterate 2 refine uB ?_
 refine aoR fun _ => ?_; refine q11 ?_; refine q13 ?_; refine q11 (uE (uC (uW ?_)))
 rotate_left
 refine uT (X := Nat) (fun k => tmL [(0, .d (ints l)), (1, .int .i64 n), (7, .int .i64 l.length), (8, .int .i64 k)]) (fun _ => stL []) (fun k => k ≤ l.length ∧ atI l n = atFrom n (l.drop k) k) (fun k => l.length - k) 0 ⟨Nat.zero_le _, rfl⟩ leP leP ?_
 rintro k ⟨hk, ht⟩
 by_cases hlt : k < l.length
 ·have hd := yS l n k hlt
  refine uB (aoR fun _ => ?_)
  refine q37 (uE (uC (uB ?_))); refine cnd ?_ ?_
  refine uF fun _ => ?_; try omega
  refine uZ (uC (uB (uW (uB (aoR fun _ => ?_)))))
  refine q11 ?_; refine q12 (uE (uC (uB (aoR fun _ => ?_))))
  iterate 3 refine q11 ?_
  refine q17 ?_; refine q23 ?_; refine q46 (uE (uC ?_)); refine cnd ?_ ?_
  refine uF fun _ => ?_; try omega
  refine uB (aoR fun _ => ?_)
  refine q11 ?_; refine q12 (uE (uC ?_)); refine wJ ?_; refine fX ?_
  iterate 2 refine aE ?_
  refine fX ?_; refine aE ?_; rotate_left
  refine uI fun _ => ?_; try omega
  refine uZ ?_; refine xE ?_; refine uC (aoR fun _ => ?_)
  refine q36 ?_; refine q11 (uE (uC ?_)); rotate_left
  refine uI fun _ => ?_; try omega
  ·rename_i he _
   refine wG rfl ?_
   have he' : n = l.getD k 0 := he
   rw [ht, hd, if_pos he'.symm]
  ·rename_i he _
   have he' : ¬ n = l.getD k 0 := he
   refine uV (k + 1) ⟨by omega, ?_⟩ (by omega) leP leP
   rw [ht, hd, if_neg (fun h => he' h.symm)]
 ·refine uB (aoR fun _ => ?_)
  refine q37 (uE (uC (uB ?_))); refine cnd ?_ ?_
  refine uF fun _ => ?_; try omega
  refine uI fun _ => ?_; try omega
  refine wC ?_
  iterate 2 refine wM ?_
  refine yE ?_; refine uC (uB (aoR fun _ => ?_))
  refine q12 (uE (uC ?_)); refine wJ ?_; rotate_left
  refine wG rfl ?_
  rw [ht, List.drop_eq_nil_of_le (by omega)]; rfl
theorem dI {l : List Int} {j : Nat} (h : j < l.length) : l.getD j 0 ∈ l := by
 rw [List.getD_eq_getElem?_getD, List.getElem?_eq_getElem h]; exact List.getElem_mem h
theorem rL {x : Ex} (h : checkI x = 0) {i : Nat} (hi : i < x.order.length) : ∀ j, j < (x.order.getD i default).2.length → 0 ≤ (x.order.getD i default).2.getD j 0 ∧ (x.order.getD i default).2.getD j 0 < x.evs.length := fun j hj => by
 have h4 := (vI h).2.2.2
 unfold orderB rowsTo at h4
 simp only [Bool.and_eq_true, decide_eq_true_eq] at h4
 have h6 := List.all_eq_true.1 h4.2 i (List.mem_range.2 hi)
 unfold rowOk at h6
 simp only [Bool.and_eq_true, beq_iff_eq] at h6
 have hm2 : (x.order.getD i default).2.getD j 0 ∈ sortI (x.order.getD i default).2 := (List.mergeSort_perm _ _).mem_iff.2 (dI hj)
 rw [h6.2] at hm2
 unfold wantTo at hm2
 obtain ⟨m, h1, e⟩ := List.mem_map.1 hm2
 have h2 := List.mem_range.1 (List.mem_filter.1 h1).1
 rw [← e]
 simp only [Int.ofNat_eq_natCast]
 omega
def jdOV (x : Ex) (rf co fr : List (Int × Int)) : OV := .ag [.d (evsTV x.evs), .d (ints x.from_), .d (rowsTV x.order), .d (pairsTV rf), .d (pairsTV co), .d (pairsTV fr)]
theorem of_p (x : Ex) (hx : x.fit) : Pure E.P 36 [exOV x] (jdOV x (rfF x) (coF x) (frF x)) := by
 have f1 : Frozen 1 := ⟨trivial⟩
 have f5 : Frozen 5 := ⟨trivial⟩
 have f7 : Frozen 7 := ⟨trivial⟩
 have f9 : Frozen 9 := ⟨trivial⟩
 have h1 := rf_s x hx
 have h2 := co_s x hx
 have h3 := fr_s x hx
 refine FnW.toR ?_
 refine wW (vs := [.cell 2 67]) Tryz.func36 (by decide) rfl Tryz.ntmps36 (Nat.le_of_ble_eq_true rfl) rfl ?_
 refine uB (aoR fun _ => ?_)
 refine q34 ?_
 apply xF; exact rfl
 refine uE (uC (uB ?_))
 refine uO (E := E) ?_ (fun _ => ?_); exact rfl
 iterate 2 (apply zT; exact rfl; exact rfl; exact rfl; exact Nat.le_of_ble_eq_true rfl)
 apply oE; assumption; exact rfl; exact .fn _ _ _; exact rfl; exact h1; exact yL _; exact rfl
 apply zT; exact rfl; exact rfl; exact rfl; exact Nat.le_of_ble_eq_true rfl
 apply oE; assumption; exact rfl; exact .fn _ _ _; exact rfl; exact h2; exact yL _; exact rfl
 apply zT; exact rfl; exact rfl; exact rfl; exact Nat.le_of_ble_eq_true rfl
 apply oE; assumption; exact rfl; exact .fn _ _ _; exact rfl; exact h3; exact yL _; exact rfl
 apply oF; exact rfl; exact rfl; exact rfl; exact rfl; exact rfl
 apply oC; exact rfl; exact rfl; exact rfl; exact rfl; exact rfl; exact rfl; (first | exact rfl | exact vG (by omega) (0 : Int) | exact vG (by omega) default | exact wV (by omega) (by omega) (0 : Int) | assumption); exact Nat.le_of_ble_eq_true rfl
 refine nS ?_ ?_; (first | ((try dsimp only [wkeys]); decide +kernel) | exact rfl)
 refine uC ?_; refine wJ ?_; rotate_left
 exact sF rfl rfl rfl rfl rfl rfl
def readsR (x : Ex) (n : Nat) : Int × Bool := if (x.evs.getD n default).kind = 3 then ((n : Int), true) else pairedR x n
theorem reads_p (x : Ex) (hx : x.fit) (rf co fr : List (Int × Int)) (n : Nat) (hn : n < x.evs.length) : Pure E.P 61 [jdOV x rf co fr, .int .i64 n] (.tu [.int .i64 (readsR x n).1, .bool (readsR x n).2]) := by
 have f2 : Frozen 2 := ⟨trivial⟩
 have hl := hx.1.1
 have hP := Paired_p x hx n
 refine FnW.toR ?_
 refine wW (vs := [.tmp 4, .tmp 5]) Tryz.func61 (by decide) rfl Tryz.ntmps61 (Nat.le_of_ble_eq_true rfl) rfl ?_
 refine uB (aoR fun _ => ?_)
 refine q34 ?_
 iterate 2 refine q12 ?_
 refine uE (uC ?_)
 iterate 2 refine uB ?_
 refine aoR fun _ => ?_
 iterate 2 refine q32 ?_
 refine q23 ?_; refine q11 ?_; refine q17 ?_; refine q32 ?_; refine q23 ?_; refine q46 (uE (uC ?_)); refine cnd ?_ ?_
 refine uF fun _ => ?_; try omega
 refine uB (aoR fun _ => ?_)
 refine q11 ?_
 iterate 2 refine q12 ?_
 refine uE (uC ?_); refine wJ ?_; refine aE ?_; rotate_left
 refine uI fun _ => ?_; try omega
 refine uZ (uC (uB (aoR fun _ => ?_)))
 refine q32 ?_; refine q33 ?_; refine q11 ?_
 apply uP; exact rfl; exact .fn _ _ _; exact rfl; exact hP
 iterate 2 (apply zJ; exact rfl; exact rfl)
 iterate 2 refine q12 ?_
 refine uE (uC ?_); refine wJ ?_; rotate_left
 ·refine bL rfl rfl ?_
  rename_i hk _
  have hk' : (x.evs.getD n default).kind = 3 := hk
  unfold readsR
  rw [if_pos hk']
 ·refine bL rfl rfl ?_
  rename_i hk _
  have hk' : ¬ (x.evs.getD n default).kind = 3 := hk
  unfold readsR
  rw [if_neg hk']
theorem mU (n : Int) : ∀ (l : List Int) (k : Nat), atFrom n l k = -1 ∨ ((k : Int) ≤ atFrom n l k ∧ atFrom n l k < k + l.length)
 | [], k => Or.inl rfl
 | a :: l, k => by
  unfold atFrom
  split
  ·right; simp only [List.length_cons]; omega
  ·rcases mU n l (k + 1) with h | h
   ·exact Or.inl h
   ·right; simp only [List.length_cons]; omega
theorem tF (l : List Int) (n : Int) : -1 ≤ atI l n ∧ atI l n < l.length := by
 rcases mU n l 0 with h | h <;> unfold atI <;> omega
theorem gL (es : List Ev) (f : Ev) : ∀ k, -1 ≤ pairTo es f k ∧ pairTo es f k < k
 | 0 => by unfold pairTo; omega
 | k + 1 => by
  have := gL es f k
  unfold pairTo
  split
  ·split
   ·split
    ·omega
    ·split <;> omega
   ·omega
  ·omega
theorem readsR_bd (x : Ex) (n : Nat) : 0 ≤ (readsR x n).1 ∧ (readsR x n).1 ≤ n := by
 unfold readsR
 split
 ·dsimp only; omega
 ·unfold pairedR
  split
  ·rename_i h
   rw [Int.toNat_natCast] at h ⊢
   dsimp only
   unfold pairedI at h ⊢
   split
   ·have := gL x.evs (x.evs.getD n default) n
    rename_i h2
    rw [if_pos h2] at h
    omega
   ·rename_i h2
    rw [if_neg h2] at h
    omega
  ·dsimp only; omega
def atomLo (n : Nat) (f : Int) (l : List Int) : Nat := (min (atI l f + 1) (atI l n)).toNat
def atomSl (n : Nat) (f : Int) (l : List Int) : List Int := (l.drop (atomLo n f l)).take ((atI l n).toNat - atomLo n f l)
def atomM (x : Ex) (n : Nat) (m : Int) : Bool := decide ((x.evs.getD m.toNat default).hart = (x.evs.getD n default).hart)
def atomRow (x : Ex) (n : Nat) (f : Int) (l : List Int) : Bool := decide (atI l f < 0) || decide (atI l n < 0) || (atomSl n f l).all (atomM x n)
def atomEv (x : Ex) (n : Nat) : Bool := !(readsR x n).2 || x.order.all fun r => atomRow x n (x.from_.getD (readsR x n).1.toNat 0) r.2
def atomB (x : Ex) : Bool := (List.range x.evs.length).all (atomEv x)
theorem atom_no {x : Ex} {n : Nat} (hn : n < x.evs.length) (h : atomEv x n = false) : atomB x = false := by
 unfold atomB
 rw [List.all_eq_false]
 exact ⟨n, List.mem_range.2 hn, by rw [h]; decide⟩
def jdRow (x : Ex) (rf co fr : List (Int × Int)) : List TV := [evsTV x.evs, ints x.from_, rowsTV x.order, pairsTV rf, pairsTV co, pairsTV fr]
set_option maxHeartbeats 4000000 in
theorem atomic_p (x : Ex) (hx : x.rel) (rf co fr : List (Int × Int)) : Pure E.P 39 [jdOV x rf co fr] (.bool (atomB x)) := by
 have f1 : Frozen 1 := ⟨trivial⟩
 have f5 : Frozen 5 := ⟨trivial⟩
 have hl := hx.len
 have hlf := hx.from_
 have hlo := hx.ord
 refine fnA Tryz.func39 Tryz.ntmps39 ?_
 refine uB (aoR fun _ => ?_)
 refine q34 ?_; refine q12 (uE (uC ?_)); refine dM ?_; refine uB (aoR fun _ => ?_)
 refine q12 (uE (uC (uB ?_))); refine dN ?_; refine uC ?_
 iterate 2 refine uB ?_
 refine aoR fun _ => ?_
 iterate 2 refine q32 ?_
 refine q23 ?_; refine q13 ?_; refine q11 (uE (uC (uW ?_))); rotate_left
 refine uT (X := Nat) (fun n => tmL [(1, .d (.pt (jdRow x rf co fr) 0)), (3, .bool true), (16, .d (evsTV x.evs)), (17, .int .i64 x.evs.length), (18, .int .i64 n)]) (fun _ => stL []) (fun n => n ≤ x.evs.length ∧ ∀ j, j < n → atomEv x j = true) (fun n => x.evs.length - n) 0 ⟨Nat.zero_le _, fun j hj => by omega⟩ leP leP ?_
 rintro n ⟨hn, hall⟩
 by_cases hlt : n < x.evs.length
 rotate_left
 ·refine uB (aoR fun _ => ?_)
  refine q37 (uE (uC (uB ?_))); refine cnd ?_ ?_
  refine uF fun _ => ?_; try omega
  refine uI fun _ => ?_; try omega
  refine wC ?_
  iterate 2 refine wM ?_
  refine yE ?_; refine uC (uB (aoR fun _ => ?_))
  refine q11 ?_; refine q12 (uE (uC ?_)); refine wJ ?_; refine uAH ?_; rotate_left
  refine uU rfl ?_
  unfold atomB
  refine (List.all_eq_true.2 fun j hj => hall j ?_).symm
  have := List.mem_range.1 hj
  omega
 have hR := reads_p x hx.fit rf co fr n hlt
 have hbd := readsR_bd x n
 cases hmust : (readsR x n).2 with
 | false =>
  rw [hmust] at hR
  refine uB (aoR fun _ => ?_)
  refine q37 (uE (uC (uB ?_))); refine cnd ?_ ?_
  refine uF fun _ => ?_; try omega
  refine uZ (uC (uB (uW (uB (aoR fun _ => ?_)))))
  refine q11 ?_; refine q17 ?_; refine q33 ?_
  apply xF; exact rfl
  refine q12 ?_; refine q43 (uE (uC (uB (aoR fun _ => ?_))))
  refine q33 ?_; refine q11 ?_
  apply uP; exact rfl; exact .fn _ _ _; exact rfl; exact hR
  refine q11 ?_
  iterate 2 (apply zJ; exact rfl; exact rfl)
  iterate 2 refine q12 ?_
  refine uE (uC ?_)
  iterate 2 refine uB ?_
  refine aoR fun _ => ?_; refine q11 ?_
  apply cQ; exact rfl
  refine uE (uC ?_)
  refine cnd ?_ ?_; refine cJ ?_; refine uG ?_; refine wC ?_; refine wM ?_; refine yE ?_; refine uC (aoR fun _ => ?_)
  refine q36 ?_; refine q11 (uE (uC ?_)); rotate_left
  refine xR ?_
  exact uH
  refine uI fun _ => ?_; try omega
  refine uV (n + 1) ⟨by omega, fun j hj => ?_⟩ (by omega) leP leP
  rcases Nat.lt_or_ge j n with e | e
  ·exact hall j e
  ·have : j = n := by omega
   subst this
   unfold atomEv; rw [hmust]; rfl
 | true =>
  rw [hmust] at hR
  refine uB (aoR fun _ => ?_)
  refine q37 (uE (uC (uB ?_))); refine cnd ?_ ?_
  refine uF fun _ => ?_; try omega
  refine uZ (uC (uB (uW (uB (aoR fun _ => ?_)))))
  refine q11 ?_; refine q17 ?_; refine q33 ?_
  apply xF; exact rfl
  refine q12 ?_; refine q43 (uE (uC (uB (aoR fun _ => ?_))))
  refine q33 ?_; refine q11 ?_
  apply uP; exact rfl; exact .fn _ _ _; exact rfl; exact hR
  refine q11 ?_
  iterate 2 (apply zJ; exact rfl; exact rfl)
  iterate 2 refine q12 ?_
  refine uE (uC ?_)
  iterate 2 refine uB ?_
  refine aoR fun _ => ?_; refine q11 ?_
  apply cQ; exact rfl
  refine uE (uC ?_); refine cnd ?_ ?_; refine cJ ?_
  exact wH
  refine xR ?_; refine uJ ?_; refine uZ (uC (uB (aoR fun _ => ?_)))
  iterate 2 refine q32 ?_
  refine q23 ?_; refine q13 ?_; refine q11 (uE (uC (uW ?_))); rotate_left
  refine uI fun _ => ?_; try omega
  generalize hr : (readsR x n).1 = r at hbd
  refine uT (X := Nat) (fun j => tmL [(1, .d (.pt (jdRow x rf co fr) 0)), (3, .bool true), (4, .int .i64 n), (5, .d (.pt (evTV (x.evs.getD n default)) 0)), (6, .int .i64 r), (16, .d (evsTV x.evs)), (17, .int .i64 x.evs.length), (18, .int .i64 n), (33, .d (rowsTV x.order)), (34, .int .i64 x.order.length), (35, .int .i64 j)]) (fun _ => stL []) (fun j => j ≤ x.order.length ∧ ∀ q, q < j → atomRow x n (x.from_.getD r.toNat 0) (x.order.getD q default).2 = true) (fun j => x.order.length - j) 0 ⟨Nat.zero_le _, fun j hj => by omega⟩ leP leP ?_
  rintro j ⟨hj, hrows⟩
  by_cases hltj : j < x.order.length
  rotate_left
  ·refine uB (aoR fun _ => ?_)
   refine q37 (uE (uC (uB ?_))); refine cnd ?_ ?_
   refine uF fun _ => ?_; try omega
   refine uI fun _ => ?_; try omega
   refine wC ?_
   iterate 2 refine wM ?_
   refine yE ?_; refine xE ?_; refine uC (aoR fun _ => ?_)
   refine q36 ?_; refine q11 (uE (uC ?_)); rotate_left
   refine uV (n + 1) ⟨by omega, fun q hq => ?_⟩ (by omega) leP leP
   rcases Nat.lt_or_ge q n with e | e
   ·exact hall q e
   ·have : q = n := by omega
    subst this
    unfold atomEv
    rw [hmust, Bool.not_true, Bool.false_or, List.all_eq_true]
    intro w hw
    obtain ⟨z, hz, rfl⟩ := List.mem_iff_getElem.1 hw
    have := hrows z (by omega)
    rw [List.getD_eq_getElem?_getD (l := x.order), List.getElem?_eq_getElem hz] at this
    rw [hr]; exact this
  have hrl := hx.rows j
  have hI1 := oS (x.order.getD j default).2 (x.from_.getD r.toNat 0) (by omega)
  have hI2 := oS (x.order.getD j default).2 n (by omega)
  have hb1 := tF (x.order.getD j default).2 (x.from_.getD r.toNat 0)
  have hb2 := tF (x.order.getD j default).2 n
  have hrb : 0 ≤ r ∧ r < x.from_.length := by omega
  by_cases hneg : atI (x.order.getD j default).2 (x.from_.getD r.toNat 0) < 0 ∨ atI (x.order.getD j default).2 n < 0
  ·refine uB (aoR fun _ => ?_)
   refine q37 (uE (uC (uB ?_))); refine cnd ?_ ?_
   refine uF fun _ => ?_; try omega
   refine uZ (uC (uB (uW (uB (aoR fun _ => ?_)))))
   refine q17 ?_; refine q23 ?_; refine q12 (uE (uC (uB (aoR fun _ => ?_))))
   refine q11 ?_
   iterate 2 refine q32 ?_
   refine q23 ?_; refine q11 ?_; refine q17 ?_; refine q23 ?_
   apply uP; exact rfl; exact .fn _ _ _; exact rfl; exact hI1
   iterate 2 refine q11 ?_
   apply uP; exact rfl; exact .fn _ _ _; exact rfl; exact hI2
   iterate 2 refine q12 ?_
   refine uE (uC ?_)
   iterate 2 refine uB ?_
   refine aoR fun _ => ?_; refine q11 ?_; refine q37 ?_; refine q11 ?_
   apply spF; exact rfl
   intro hc_; refine q1
   apply spF; exact rfl
   intro hc_; refine q22; refine q0 (uE ?_); refine uC ?_
   refine cnd ?_ ?_
   refine xJ (fun hc_ => ?_); (try simp only [nrm] at hc_)
   refine wC ?_; refine wM ?_; refine yE ?_; refine uC (aoR fun _ => ?_)
   refine q36 ?_; refine q11 (uE (uC ?_)); rotate_left
   refine xP ?_
   iterate 3 refine uI fun _ => ?_; try omega
   ·refine uV (j + 1) ⟨by omega, fun q hq => ?_⟩ (by omega) leP leP
    rcases Nat.lt_or_ge q j with e | e
    ·exact hrows q e
    ·have : q = j := by omega
     subst this
     unfold atomRow
     rcases hneg with h | h
     ·rw [decide_eq_true h]; rfl
     ·rw [decide_eq_true h, Bool.or_true]; rfl
  ·have hlo0 : atomLo n (x.from_.getD r.toNat 0) (x.order.getD j default).2 ≤ (atI (x.order.getD j default).2 n).toNat := by unfold atomLo; omega
   have hml : ((x.order.getD j default).2.map cell).length = (x.order.getD j default).2.length := List.length_map ..
   have hml2 : ((x.order.getD (j : Int).toNat default).2.map cell).length = (x.order.getD j default).2.length := List.length_map ..
   have hmn : (if atI (x.order.getD j default).2 n < atI (x.order.getD j default).2 (x.from_.getD r.toNat 0) + 1 then atI (x.order.getD j default).2 n else atI (x.order.getD j default).2 (x.from_.getD r.toNat 0) + 1) = ((atomLo n (x.from_.getD r.toNat 0) (x.order.getD j default).2 : Nat) : Int) := by
    unfold atomLo
    split <;> omega
   refine uB (aoR fun _ => ?_)
   refine q37 (uE (uC (uB ?_))); refine cnd ?_ ?_
   refine uF fun _ => ?_; try omega
   refine uZ (uC (uB (uW (uB (aoR fun _ => ?_)))))
   refine q17 ?_; refine q23 ?_; refine q12 (uE (uC (uB (aoR fun _ => ?_))))
   refine q11 ?_
   iterate 2 refine q32 ?_
   refine q23 ?_; refine q11 ?_; refine q17 ?_; refine q23 ?_
   apply uP; exact rfl; exact .fn _ _ _; exact rfl; exact hI1
   iterate 2 refine q11 ?_
   apply uP; exact rfl; exact .fn _ _ _; exact rfl; exact hI2
   iterate 2 refine q12 ?_
   refine uE (uC ?_)
   iterate 2 refine uB ?_
   refine aoR fun _ => ?_; refine q11 ?_; refine q37 ?_; refine q11 ?_
   apply spF; exact rfl
   intro hc_; refine q1
   apply spF; exact rfl
   intro hc_; refine q22; refine q0 (uE ?_); refine uC ?_
   refine cnd ?_ ?_
   refine xJ (fun hc_ => ?_); (try simp only [nrm] at hc_)
   refine wC ?_; refine wM ?_; refine yE ?_; refine uC (aoR fun _ => ?_)
   refine q36 ?_; refine q11 (uE (uC ?_)); rotate_left
   refine xP ?_
   iterate 2 refine uI fun _ => ?_; try omega
   refine uZ (uC (uB (aoR fun _ => ?_)))
   iterate 2 refine q11 ?_
   refine q36 ?_; refine q11 ?_
   apply S_minE; exact rfl; exact rfl; exact hmn
   refine q11 ?_
   (apply bI; exact rfl; exact rfl; exact rfl; exact rfl; exact rfl; (first | exact rfl | exact ⟨_, _, rfl, by omega, rfl⟩); (first | exact rfl | exact ⟨_, _, rfl, by omega, rfl⟩); omega; omega)
   refine q13 ?_; refine q11 (uE (uC (uW ?_))); rotate_left
   refine uI fun _ => ?_; try omega
   ·exact (hneg hc_).elim
   obtain ⟨lo, hlo⟩ : ∃ lo, atomLo n (x.from_.getD r.toNat 0) (x.order.getD j default).2 = lo := ⟨_, rfl⟩
   have hS : List.take ((atI (x.order.getD j default).2 n).toNat - ((lo : Nat) : Int).toNat) (List.drop ((lo : Nat) : Int).toNat (List.map cell (x.order.getD (j : Int).toNat default).2)) = List.map cell (atomSl n (x.from_.getD r.toNat 0) (x.order.getD j default).2) := by
    rw [Int.toNat_natCast, Int.toNat_natCast, ← List.map_drop, ← List.map_take]; unfold atomSl; rw [hlo]
   rw [hlo, hS]
   have hSm : ∀ z, z < (atomSl n (x.from_.getD r.toNat 0) (x.order.getD j default).2).length → 0 ≤ (atomSl n (x.from_.getD r.toNat 0) (x.order.getD j default).2).getD z 0 ∧ (atomSl n (x.from_.getD r.toNat 0) (x.order.getD j default).2).getD z 0 < x.evs.length := fun z hz => by
    have hm : (atomSl n (x.from_.getD r.toNat 0) (x.order.getD j default).2).getD z 0 ∈ (x.order.getD j default).2 := by
     have h1 := dI hz
     unfold atomSl at h1 ⊢
     exact List.mem_of_mem_drop (List.mem_of_mem_take h1)
    obtain ⟨w, hw, e⟩ := List.mem_iff_getElem.1 hm
    have := rL hx.check hltj w hw
    rw [List.getD_eq_getElem?_getD, List.getElem?_eq_getElem hw, Option.getD_some, e] at this
    exact this
   have hrow : atomRow x n (x.from_.getD r.toNat 0) (x.order.getD j default).2 = (atomSl n (x.from_.getD r.toNat 0) (x.order.getD j default).2).all (atomM x n) := by
    unfold atomRow
    rw [decide_eq_false (fun h => hneg (Or.inl h)), decide_eq_false (fun h => hneg (Or.inr h))]; rfl
   have hSl : (atomSl n (x.from_.getD r.toNat 0) (x.order.getD j default).2).length ≤ 65536 := by
    unfold atomSl
    rw [List.length_take, List.length_drop]; omega
   generalize atomSl n (x.from_.getD r.toNat 0) (x.order.getD j default).2 = S at hSm hrow hSl
   refine uT (X := Nat) (fun z => tmL [(1, .d (.pt (jdRow x rf co fr) 0)), (3, .bool true), (4, .int .i64 n), (5, .d (.pt (evTV (x.evs.getD n default)) 0)), (6, .int .i64 r), (16, .d (evsTV x.evs)), (17, .int .i64 x.evs.length), (18, .int .i64 n), (33, .d (rowsTV x.order)), (34, .int .i64 x.order.length), (35, .int .i64 j), (62, .d (ints S)), (63, .int .i64 S.length), (64, .int .i64 z)]) (fun _ => stL []) (fun z => z ≤ S.length ∧ ∀ q, q < z → atomM x n (S.getD q 0) = true) (fun z => S.length - z) 0 ⟨Nat.zero_le _, fun j hj => by omega⟩ (by repeat' (first | exact vW _ | exact vP _ | refine uL rfl ?_ | refine vH rfl ?_ | (refine vF rfl ?_ ?_; (simp)) | (refine uR rfl ?_ ?_; (simp)) | (refine uS rfl ?_ ?_; (simp)))) leP ?_
   rintro z ⟨hz, hms⟩
   by_cases hltz : z < S.length
   ·have hz1 := hSm z hltz
    have hz2 : 0 ≤ S.getD (z : Int).toNat 0 ∧ S.getD (z : Int).toNat 0 < x.evs.length := hz1
    refine uB (aoR fun _ => ?_)
    refine q37 (uE (uC (uB ?_))); refine cnd ?_ ?_
    refine uF fun _ => ?_; try omega
    refine uZ (uC (uB (uW (uB (aoR fun _ => ?_)))))
    refine q17 ?_; refine q23 ?_; refine q12 (uE (uC (uB ?_)))
    refine uO (E := E) ?_ (fun _ => ?_); exact rfl
    iterate 2 refine q52 ?_
    refine q50 ?_; refine q38 ?_; refine q30 ?_; refine q52 ?_; refine q50 ?_; refine q52 ?_; refine q50 ?_
    apply uAG; exact rfl; exact rfl
    apply lG; exact rfl
    refine nS ?_ ?_; (first | ((try dsimp only [wkeys]); decide +kernel) | exact rfl)
    refine uC (uB (aoR fun _ => ?_))
    refine q11 ?_
    apply cQ; exact rfl
    refine uE (uC ?_); refine cnd ?_ ?_
    refine wR (fun _ => ?_); (try omega)
    refine wC ?_
    refine iV ?_ ?_; exact rfl
    iterate 2 refine wM ?_
    iterate 2 (refine iV ?_ ?_; exact rfl)
    iterate 2 refine wM ?_
    iterate 2 (refine iV ?_ ?_; exact rfl)
    iterate 2 refine wM ?_
    refine yE ?_; refine uC (uB (aoR fun _ => ?_))
    refine q11 ?_; refine q12 (uE (uC ?_)); refine wJ ?_; refine uAH ?_; rotate_left
    refine wS (fun _ => ?_); (try omega)
    refine uZ ?_; refine xE ?_; refine uC (aoR fun _ => ?_)
    refine q36 ?_; refine q11 (uE (uC ?_)); rotate_left
    refine uI fun _ => ?_; try omega
    ·rename_i hh _
     have hh' : ¬ (x.evs.getD (S.getD z 0).toNat default).hart = (x.evs.getD n default).hart := hh
     refine uU rfl ?_
     have hr0 : atomRow x n (x.from_.getD r.toNat 0) (x.order.getD j default).2 = false := by
      rw [hrow, List.all_eq_false]
      refine ⟨S.getD z 0, dI hltz, ?_⟩
      unfold atomM
      rw [decide_eq_false hh']; decide
     have he0 : atomEv x n = false := by
      unfold atomEv
      rw [hmust, Bool.not_true, Bool.false_or, List.all_eq_false]
      refine ⟨x.order.getD j default, ?_, ?_⟩
      ·rw [List.getD_eq_getElem?_getD, List.getElem?_eq_getElem hltj]; exact List.getElem_mem hltj
      ·rw [hr, hr0]; decide
     rw [atom_no hlt he0]
     exact decide_eq_false hh'
    ·rename_i hh _
     have hh' : (x.evs.getD (S.getD z 0).toNat default).hart = (x.evs.getD n default).hart := hh
     refine uV (z + 1) ⟨by omega, fun q hq => ?_⟩ (by omega) ?_ leP
     ·rcases Nat.lt_or_ge q z with e | e
      ·exact hms q e
      ·have : q = z := by omega
       subst this
       exact decide_eq_true hh'
     ·have hd : decide ((x.evs.getD (S.getD (z : Int).toNat 0).toNat default).hart = (x.evs.getD n default).hart) = true := decide_eq_true hh'
      refine uL rfl (uL (by rw [← hd]; rfl) ?_)
      exact leP
   ·refine uB (aoR fun _ => ?_)
    refine q37 (uE (uC (uB ?_))); refine cnd ?_ ?_
    refine uF fun _ => ?_; try omega
    refine uI fun _ => ?_; try omega
    refine wC ?_
    iterate 2 refine wM ?_
    refine yE ?_; refine xE ?_; refine uC (aoR fun _ => ?_)
    refine q36 ?_; refine q11 (uE (uC ?_)); rotate_left
    refine uV (j + 1) ⟨by omega, fun q hq => ?_⟩ (by omega) leP leP
    rcases Nat.lt_or_ge q j with e | e
    ·exact hrows q e
    ·have : q = j := by omega
     subst this
     rw [hrow, List.all_eq_true]
     intro w hw
     obtain ⟨y, hy, rfl⟩ := List.mem_iff_getElem.1 hw
     have := hms y (by omega)
     rwa [List.getD_eq_getElem?_getD, List.getElem?_eq_getElem hy] at this
def ledTo (l : List (Int × Int)) (g : Gone) (p k : Nat) : Bool := ledB (l.take k) g p
def goneTo (l : List (Int × Int)) (n k : Nat) : Bool := (List.range k).all (fun p => roundsTo l n n p)
def gv (g : Gone) : Nat → Value := fun i => .bool (g i)
def Arr (l : List (Int × Int)) (a b : Nat) : Prop := ∃ q ∈ l, q.1 = (a : Int) ∧ q.2 = (b : Int)
inductive Way (l : List (Int × Int)) : Nat → Nat → Prop where
 | one {a b : Nat} (h : Arr l a b) : Way l a b
 | more {a b c : Nat} (h : Way l a b) (h2 : Arr l b c) : Way l a c
theorem fG {l : List (Int × Int)} {n : Nat} (hok : l.any (outB n) = false) {a b : Nat} : b ∈ nxF l a ↔ Arr l a b := by
 unfold nxF nxTo Arr
 rw [List.take_length]
 simp only [List.mem_map, List.mem_filter, beq_iff_eq]
 constructor
 ·rintro ⟨z, ⟨q, ⟨hq, h1⟩, rfl⟩, rfl⟩
  refine ⟨q, hq, h1, ?_⟩
  rw [List.any_eq_false] at hok
  have := hok q hq
  unfold outB at this
  simp only [Bool.or_eq_true, decide_eq_true_eq, not_or] at this
  omega
 ·rintro ⟨q, hq, h1, h2⟩
  exact ⟨q.2, ⟨q, ⟨hq, h1⟩, rfl⟩, by rw [h2]; simp⟩
theorem eL {l : List (Int × Int)} {n : Nat} (hok : l.any (outB n) = false) {a b : Nat} (h : Arr l a b) : a < n ∧ b < n := by
 obtain ⟨q, hq, h1, h2⟩ := h
 rw [List.any_eq_false] at hok
 have := hok q hq
 unfold outB at this
 simp only [Bool.or_eq_true, decide_eq_true_eq, not_or] at this
 omega
def Keeps (st st' : St) : Prop := (∀ i, st' i = 1 ↔ st i = 1) ∧ (∀ i, st i = 2 → st' i = 2) ∧ (∀ i, st' i ≤ 2)
def Ranked (nx : Nat → List Nat) (st : St) (t : Nat → Nat) (c : Nat) : Prop := ∀ a, st a = 2 → t a < c ∧ ∀ b ∈ nx a, st b = 2 ∧ t b < t a
def twos : Nat → St → Nat
 | 0, _ => 0
 | n + 1, st => twos n st + (if st n = 2 then 1 else 0)
theorem rI (st : St) : ∀ n, twos n st ≤ n
 | 0 => Nat.le_refl _
 | n + 1 => by have := rI st n; unfold twos; split <;> omega
theorem oK {st : St} {a : Nat} (h : st a ≠ 2) : ∀ n, a < n → twos n (upd st a 2) = twos n st + 1
 | 0, ha => by omega
 | n + 1, ha => by
  unfold twos
  by_cases hn : n = a
  ·subst hn
   have e1 : upd st n 2 n = 2 := by unfold upd; rw [if_pos rfl]
   have e2 : ∀ m, m ≤ n → twos m (upd st n 2) = twos m st := by
    intro m
    induction m with
    | zero => intro _; rfl
    | succ m ih =>
     intro hm
     have e3 : upd st n 2 m = st m := by unfold upd; rw [if_neg (by omega)]
     unfold twos
     rw [ih (by omega), e3]
   rw [e1, if_pos rfl, if_neg h, e2 n (Nat.le_refl _)]
  ·have := oK h n (by omega)
   have e3 : upd st a 2 n = st n := by unfold upd; rw [if_neg hn]
   rw [this, e3]; omega
def GoodD (nx : Nat → List Nat) (n : Nat) (f : St → Nat → Bool × St) : Prop := ∀ st a, a < n → (∀ i, st i ≤ 2) → (f st a).1 = true →
 Keeps st (f st a).2 ∧ (f st a).2 a = 2 ∧ ∀ t, Ranked nx st t (twos n st) → ∃ t', Ranked nx (f st a).2 t' (twos n (f st a).2)
theorem gS {nx : Nat → List Nat} {n : Nat} {f : St → Nat → Bool × St} (hf : GoodD nx n f) : ∀ (l : List Nat) (st : St), (∀ b ∈ l, b < n) → (∀ i, st i ≤ 2) → (dfsL f st l).1 = true →
  Keeps st (dfsL f st l).2 ∧ (∀ b ∈ l, (dfsL f st l).2 b = 2) ∧ ∀ t, Ranked nx st t (twos n st) → ∃ t', Ranked nx (dfsL f st l).2 t' (twos n (dfsL f st l).2)
 | [], st, _, h2, _ => ⟨⟨fun _ => Iff.rfl, fun _ h => h, h2⟩, by simp, fun t ht => ⟨t, ht⟩⟩
 | b :: r, st, hb, h2, h => by
  unfold dfsL at h ⊢
  by_cases hc : (f st b).1 = true
  ·rw [if_pos hc] at h ⊢
   obtain ⟨⟨k1, k2, k3⟩, k4, k5⟩ := hf st b (hb b (by simp)) h2 hc
   obtain ⟨⟨g1, g2, g3⟩, g4, g5⟩ := gS hf r (f st b).2 (fun c hcr => hb c (by simp [hcr])) k3 h
   refine ⟨⟨fun i => (g1 i).trans (k1 i), fun i hi => g2 i (k2 i hi), g3⟩, ?_, ?_⟩
   ·intro c hcm
    rcases List.mem_cons.1 hcm with rfl | hcm
    ·exact g2 _ k4
    ·exact g4 c hcm
   ·intro t ht
    obtain ⟨t1, ht1⟩ := k5 t ht
    exact g5 t1 ht1
  ·rw [if_neg hc] at h; exact absurd h (by simp)
theorem fR {nx : Nat → List Nat} {n : Nat} (hn : ∀ a, ∀ b ∈ nx a, b < n) : ∀ f, GoodD nx n (dfs nx f)
 | 0, st, a, _, _, h => by simp [dfs] at h
 | f + 1, st, a, ha, h2, h => by
  unfold dfs at h ⊢
  by_cases hp : 0 < st a
  ·rw [if_pos hp] at h ⊢
   have e : st a = 2 := by simpa using h
   exact ⟨⟨fun _ => Iff.rfl, fun _ h => h, h2⟩, e, fun t ht => ⟨t, ht⟩⟩
  ·rw [if_neg hp] at h ⊢
   by_cases hc : (dfsL (dfs nx f) (upd st a 1) (nx a)).1 = true
   ·rw [if_pos hc] at h ⊢
    have hu2 : ∀ i, upd st a 1 i ≤ 2 := by intro i; unfold upd; split; omega; exact h2 i
    obtain ⟨⟨g1, g2, g3⟩, g4, g5⟩ := gS (fR hn f) (nx a) (upd st a 1) (hn a) hu2 hc
    generalize (dfsL (dfs nx f) (upd st a 1) (nx a)).2 = s at *
    have sa : s a = 1 := (g1 a).2 (by unfold upd; rw [if_pos rfl])
    have ha0 : st a = 0 := by omega
    refine ⟨⟨?_, ?_, ?_⟩, by dsimp only; unfold upd; rw [if_pos rfl], ?_⟩
    ·intro i
     dsimp only
     by_cases hi : i = a
     ·subst hi; unfold upd; rw [if_pos rfl]; omega
     ·have e1 : upd s a 2 i = s i := by unfold upd; rw [if_neg hi]
      have e2 : upd st a 1 i = st i := by unfold upd; rw [if_neg hi]
      rw [e1, g1 i, e2]
    ·intro i hi
     dsimp only
     by_cases hia : i = a
     ·subst hia; unfold upd; rw [if_pos rfl]
     ·have e1 : upd s a 2 i = s i := by unfold upd; rw [if_neg hia]
      rw [e1]; exact g2 i (by unfold upd; rw [if_neg hia]; exact hi)
    ·intro i; dsimp only; unfold upd; split; omega; exact g3 i
    ·intro t ht
     have hru : Ranked nx (upd st a 1) t (twos n (upd st a 1)) := by
      have e : ∀ i, upd st a 1 i = 2 ↔ st i = 2 := by
       intro i; unfold upd; by_cases hi : i = a
       ·rw [if_pos hi, hi]; omega
       ·rw [if_neg hi]
      have e4 : ∀ m, twos m (upd st a 1) = twos m st := by
       intro m
       induction m with
       | zero => rfl
       | succ m ih => unfold twos; rw [ih]; simp only [e]
      intro c hc
      rw [e4]
      obtain ⟨r1, r2⟩ := ht c ((e c).1 hc)
      exact ⟨r1, fun b hb => ⟨(e b).2 (r2 b hb).1, (r2 b hb).2⟩⟩
     obtain ⟨t', ht'⟩ := g5 t hru
     refine ⟨fun i => if i = a then twos n s else t' i, ?_⟩
     dsimp only
     rw [oK (by omega) n ha]
     intro c hc
     dsimp only
     by_cases hca : c = a
     ·subst hca
      rw [if_pos rfl]
      refine ⟨by omega, fun b hb => ?_⟩
      have hb2 := g4 b hb
      have hbc : b ≠ c := by intro e; subst e; omega
      refine ⟨by unfold upd; rw [if_neg hbc]; exact hb2, ?_⟩
      rw [if_neg hbc]
      exact (ht' b hb2).1
     ·rw [if_neg hca]
      have e1 : upd s a 2 c = s c := by unfold upd; rw [if_neg hca]
      rw [e1] at hc
      obtain ⟨r1, r2⟩ := ht' c hc
      refine ⟨by omega, fun b hb => ?_⟩
      have hb2 := (r2 b hb).1
      have hbc : b ≠ a := by intro e; subst e; omega
      refine ⟨by unfold upd; rw [if_neg hbc]; exact hb2, ?_⟩
      rw [if_neg hbc]
      exact (r2 b hb).2
   ·rw [if_neg hc] at h; exact absurd h (by simp)
theorem mX {n : Nat} {l : List (Int × Int)} (hok : l.any (outB n) = false) (h : acyB n l = true) : ∃ t : Nat → Nat, ∀ a, a < n → t a < n ∧ ∀ b, Arr l a b → t b < t a := by
 unfold acyB at h
 have hn : ∀ a, ∀ b ∈ nxF l a, b < n := fun a b hb => (eL hok ((fG hok).1 hb)).2
 obtain ⟨_, g4, g5⟩ := gS (fR hn 65) (List.range n) (fun _ => 0) (by simp) (by simp) h
 obtain ⟨t, ht⟩ := g5 (fun _ => 0) (by intro c hc; simp at hc)
 refine ⟨t, fun a ha => ?_⟩
 obtain ⟨r1, r2⟩ := ht a (g4 a (by simpa using ha))
 have := rI (dfsL (dfs (nxF l) 65) (fun _ => 0) (List.range n)).2 n
 exact ⟨by omega, fun b hb => (r2 b ((fG hok).2 hb)).2⟩
theorem takeP_gone {l : List (Int × Int)} {g : Gone} {p : Nat} (h : ledB l g p = false) : takeP l g p p = true := by
 unfold takeP updB
 rw [h]
 simp
theorem ledB_mono {l : List (Int × Int)} {g g' : Gone} {p : Nat} (hg : ∀ i, g i = true → g' i = true) (h : ledB l g p = false) : ledB l g' p = false := by
 unfold ledB at *
 rw [List.any_eq_false] at *
 intro q hq hh
 refine h q hq ?_
 simp only [Bool.and_eq_true, Bool.not_eq_true'] at *
 refine ⟨hh.1, ?_⟩
 cases hgq : g q.1.toNat with
 | false => rfl
 | true => rw [hg _ hgq] at hh; simp at hh
theorem passTo_gone {l : List (Int × Int)} {g : Gone} {k p : Nat} (hp : p < k) (h : ledB l g p = false) : passTo l g k p = true := by
 induction k with
 | zero => omega
 | succ k ih =>
  rw [cE]
  by_cases hk : p = k
  ·subst hk
   exact takeP_gone (ledB_mono (fun i hi => passTo_mono _ _ _ _ hi) h)
  ·exact jJ _ _ _ _ (ih (by omega))
theorem rank_no_circle {n : Nat} {l : List (Int × Int)} (hok : l.any (outB n) = false) {t : Nat → Nat} (ht : ∀ a, a < n → t a < n ∧ ∀ b, Arr l a b → t b < t a) : circleB n l = false := by
 have key : ∀ r p, p < n → n ≤ t p + r → roundsTo l n r p = true := by
  intro r
  induction r with
  | zero => intro p hp h; have := (ht p hp).1; omega
  | succ r ih =>
   intro p hp h
   unfold roundsTo
   refine passTo_gone hp ?_
   unfold ledB
   rw [List.any_eq_false]
   intro q hq hh
   simp only [Bool.and_eq_true, beq_iff_eq, Bool.not_eq_true'] at hh
   have hin := hok
   rw [List.any_eq_false] at hin
   have := hin q hq
   unfold outB at this
   simp only [Bool.or_eq_true, decide_eq_true_eq, not_or] at this
   have hA : Arr l q.1.toNat p := ⟨q, hq, by omega, hh.1⟩
   have hl := eL hok hA
   have := (ht _ hl.1).2 p hA
   have := ih q.1.toNat hl.1 (by omega)
   rw [this] at hh; simp at hh
 unfold circleB
 rw [List.any_eq_false]
 intro p hp
 rw [key n p (by simpa using hp) (by omega)]
 simp
def BadD (l : List (Int × Int)) (f : St → Nat → Bool × St) (m : Nat) : Prop := ∀ st a, a < 64 → (∀ i, st i ≤ 2) → whites 64 st < m → (∀ u, st u = 1 → Way l u a) → (f st a).1 = false → ∃ c, Way l c c
theorem eW {st st' : St} (h : ∀ i, st' i = 0 → st i = 0) : ∀ n, whites n st' ≤ whites n st
 | 0 => Nat.le_refl _
 | n + 1 => by
  have := eW h n
  unfold whites
  by_cases h2 : st' n = 0
  ·rw [if_pos h2, if_pos (h n h2)]; omega
  ·rw [if_neg h2]; omega
theorem Keeps.white {st st' : St} (h : Keeps st st') (h2 : ∀ i, st i ≤ 2) : ∀ i, st' i = 0 → st i = 0 := by
 intro i hi
 have h1 := h.1 i
 have h3 := h.2.1 i
 have := h2 i
 by_cases e0 : st i = 0
 ·exact e0
 ·by_cases e1 : st i = 1
  ·have := h1.2 e1; omega
  ·have := h3 (by omega); omega
theorem pX {l : List (Int × Int)} {nx : Nat → List Nat} {f : St → Nat → Bool × St} {m : Nat} (hg : GoodD nx 64 f) (hf : BadD l f m) (a : Nat) : ∀ (r : List Nat) (st : St), (∀ b ∈ r, b < 64 ∧ Arr l a b) → (∀ i, st i ≤ 2) → whites 64 st < m → (∀ u, st u = 1 → u = a ∨ Way l u a) → (dfsL f st r).1 = false → ∃ c, Way l c c
 | [], st, _, _, _, _, h => by simp [dfsL] at h
 | b :: r, st, hb, h2, hw, hu, h => by
  unfold dfsL at h
  have hba := hb b (by simp)
  by_cases hc : (f st b).1 = true
  ·rw [if_pos hc] at h
   obtain ⟨k, _, _⟩ := hg st b hba.1 h2 hc
   refine pX hg hf a r (f st b).2 (fun c hcr => hb c (by simp [hcr])) k.2.2 ?_ (fun u hu1 => hu u ((k.1 u).1 hu1)) h
   exact Nat.lt_of_le_of_lt (eW (k.white h2) 64) hw
  ·refine hf st b hba.1 h2 hw ?_ (by simpa using hc)
   intro u hu1
   rcases hu u hu1 with rfl | hw1
   ·exact Way.one hba.2
   ·exact Way.more hw1 hba.2
theorem sD {n : Nat} {l : List (Int × Int)} (hn : n ≤ 64) (hok : l.any (outB n) = false) : ∀ f, BadD l (dfs (nxF l) f) f
 | 0, st, a, _, _, hw, _, _ => by omega
 | f + 1, st, a, ha, h2, hw, hu, h => by
  unfold dfs at h
  by_cases hp : 0 < st a
  ·rw [if_pos hp] at h
   have e : st a ≠ 2 := by simpa using h
   have := h2 a
   exact ⟨a, hu a (by omega)⟩
  ·rw [if_neg hp] at h
   have h64 : ∀ a, ∀ b ∈ nxF l a, b < 64 := fun a b hb => by have := (eL hok ((fG hok).1 hb)).2; omega
   by_cases hc : (dfsL (dfs (nxF l) f) (upd st a 1) (nxF l a)).1 = true
   ·rw [if_pos hc] at h; simp at h
   ·refine pX (fR h64 f) (sD hn hok f) a (nxF l a) (upd st a 1) (fun b hb => ⟨h64 a b hb, (fG hok).1 hb⟩) ?_ ?_ ?_ (by simpa using hc)
    ·intro i; unfold upd; split; omega; exact h2 i
    ·have := aB a 1 st (by omega) (by omega) 64 ha; omega
    ·intro u hu1
     unfold upd at hu1
     by_cases hua : u = a
     ·exact Or.inl hua
     ·rw [if_neg hua] at hu1; exact Or.inr (hu u hu1)
theorem gK {n : Nat} {l : List (Int × Int)} (hn : n ≤ 64) (hok : l.any (outB n) = false) : ∀ (r : List Nat) (st : St), (∀ b ∈ r, b < 64) → (∀ i, st i ≤ 2) → (∀ u, st u ≠ 1) → (dfsL (dfs (nxF l) 65) st r).1 = false → ∃ c, Way l c c
 | [], st, _, _, _, h => by simp [dfsL] at h
 | b :: r, st, hb, h2, hu, h => by
  have h64 : ∀ a, ∀ b ∈ nxF l a, b < 64 := fun a b hb => by have := (eL hok ((fG hok).1 hb)).2; omega
  unfold dfsL at h
  by_cases hc : (dfs (nxF l) 65 st b).1 = true
  ·rw [if_pos hc] at h
   obtain ⟨k, _, _⟩ := fR h64 65 st b (hb b (by simp)) h2 hc
   exact gK hn hok r _ (fun c hcr => hb c (by simp [hcr])) k.2.2 (fun u e => hu u ((k.1 u).1 e)) h
  ·have := dA st 64
   exact sD hn hok 65 st b (hb b (by simp)) h2 (by omega) (fun u e => absurd e (hu u)) (by simpa using hc)
theorem way_circle {n : Nat} {l : List (Int × Int)} (hok : l.any (outB n) = false) {c : Nat} (h : Way l c c) : circleB n l = true := by
 have keep1 : ∀ (g : Gone) (p : Nat), (∀ x, Way l c x → g x = false) → ∀ x, Way l c x → takeP l g p x = false := by
  intro g p hg x hx
  unfold takeP
  split
  ·exact hg x hx
  ·rename_i hl
   unfold updB
   by_cases hxp : x = p
   ·exfalso
    refine hl ?_
    subst hxp
    have hy : ∃ y, Arr l y x ∧ Way l c y := by
     cases hx with
     | one hA => exact ⟨c, hA, h⟩
     | more hw hA => exact ⟨_, hA, hw⟩
    obtain ⟨y, ⟨q, hq, h1, h2⟩, hy⟩ := hy
    unfold ledB
    rw [List.any_eq_true]
    refine ⟨q, hq, ?_⟩
    have e : q.1.toNat = y := by omega
    rw [e, hg y hy]
    simp [h2]
   ·rw [if_neg hxp]; exact hg x hx
 have keep2 : ∀ (k : Nat) (g : Gone), (∀ x, Way l c x → g x = false) → ∀ x, Way l c x → passTo l g k x = false := by
  intro k
  induction k with
  | zero => intro g hg; exact hg
  | succ k ih => intro g hg; rw [cE]; exact keep1 _ _ (ih g hg)
 have keep3 : ∀ r, ∀ x, Way l c x → roundsTo l n r x = false := by
  intro r
  induction r with
  | zero => intro x _; rfl
  | succ r ih => unfold roundsTo; exact keep2 _ _ ih
 unfold circleB
 rw [List.any_eq_true]
 have hlt : c < n := by
  cases h with
  | one hA => exact (eL hok hA).1
  | more _ hA => exact (eL hok hA).2
 exact ⟨c, by simpa using hlt, by rw [keep3 n c h]; rfl⟩
theorem eO {n : Nat} {l : List (Int × Int)} (hn : n ≤ 64) (hok : l.any (outB n) = false) : acyB n l = !circleB n l := by
 cases h : acyB n l with
 | true =>
  obtain ⟨t, ht⟩ := mX hok h
  rw [rank_no_circle hok ht]; rfl
 | false =>
  obtain ⟨c, hc⟩ := gK hn hok (List.range n) (fun _ => 0) (by intro b hb; have := List.mem_range.1 hb; omega) (by simp) (by simp) h
  rw [way_circle hok hc]; rfl
end Go.Proofs.YtnkocjkkefnelaaGreat
