/- Parts. -/
import Derived.Deep.OwnRows
import Derived.Lib.AppendZerosOnto
import Derived.Lib.SliceRun
import Derived.Test.YtnkocjkkefnelaaGreatPx3
import Derived.Test.YtnkocjkkefnelaaGreatPx4
import Derived.Test.YtnkocjkkefnelaaGreatPx5
import Derived.Test.YtnkocjkkefnelaaGreatPx6
import Derived.Test.YtnkocjkkefnelaaGreatPx10
import Derived.Test.YtnkocjkkefnelaaGreatPx14
set_option linter.unusedVariables false
set_option linter.unusedSimpArgs false
namespace Go.Proofs.YtnkocjkkefnelaaGreat
open Go.RowKit
theorem WRel.cell {Γ : Ctx} {G : Gh} {σ : Store} {w : World} {kx q i o : Nat} {τx : Stamp} {rows : List (List OV)} {row : List OV} {y y' : OV} (hw : WRel Γ G σ w) (hk : σ kx = some (τx, ⟨q, rows⟩)) (hr : rows[i]? = some row) (ho : row[o]? = some y) (hy : ∀ x, RepO G y x → RepO G y' x) :
  WRel Γ G (σ.put kx (τx, ⟨q, rows.set i (row.set o y')⟩)) w where
 mem := hw.mem
 own j τ' r' hj := by
  by_cases e : j = kx
  ·subst e
   rw [Store.put_self] at hj
   cases hj
   rcases hw.own j _ _ hk with ⟨_, g2⟩ | ⟨β, g1, ⟨cs, c1, c2, c3, c4⟩, g3, g4⟩
   ·have g2' : rows = [] := g2
    rw [g2'] at hr; simp at hr
   ·refine Or.inr ⟨β, g1, ⟨cs, c1, c2, by simpa using c3, fun i' row' hi => ?_⟩, g3, g4⟩
    by_cases ei : i' = i
    ·subst ei
     obtain ⟨d1, d2⟩ := c4 i' row hr
     have hlt : i' < rows.length := by
      rcases Nat.lt_or_ge i' rows.length with h | h
      ·exact h
      ·rw [List.getElem?_eq_none h] at hr; cases hr
     have hi' : (rows.set i' (row.set o y'))[i']? = some row' := hi
     rw [List.getElem?_set_self hlt] at hi'
     cases hi'
     refine ⟨by rw [List.length_set]; exact d1, fun o' z hz => ?_⟩
     by_cases eo : o' = o
     ·subst eo
      have hlo : o' < row.length := by
       rcases Nat.lt_or_ge o' row.length with h | h
       ·exact h
       ·rw [List.getElem?_eq_none h] at ho; cases ho
      rw [List.getElem?_set_self hlo] at hz
      cases hz
      obtain ⟨v, e6, e7⟩ := d2 o' y ho
      exact ⟨v, e6, hy v e7⟩
     ·rw [List.getElem?_set_ne (Ne.symm eo)] at hz
      exact d2 o' z hz
    ·have hi' : (rows.set i (row.set o y'))[i']? = some row' := hi
     rw [List.getElem?_set_ne (Ne.symm ei)] at hi'
     exact c4 i' row' hi'
  ·rw [Store.put_ne _ _ e] at hj
   exact hw.own j τ' r' hj
 inj j j' τ1 τ2 β β' r r' hj hj' hμ hμ' e := by
  have old : ∀ j τ r, (σ.put kx (τx, ⟨q, rows.set i (row.set o y')⟩)) j = some (τ, r) → ∃ r0, σ j = some (τ, r0) := fun j τ r h => by
   by_cases e : j = kx
   ·subst e; rw [Store.put_self] at h; cases h; exact ⟨_, hk⟩
   ·rw [Store.put_ne _ _ e] at h; exact ⟨r, h⟩
  obtain ⟨r1, h1⟩ := old _ _ _ hj
  obtain ⟨r2, h2⟩ := old _ _ _ hj'
  exact hw.inj j j' τ1 τ2 β β' r1 r2 h1 h2 hμ hμ' e
 keep := hw.keep
 size := hw.size
 tape := hw.tape
 os := hw.os
 output := hw.output
 g0 := hw.g0
 new := hw.new
 bound := hw.bound
 low := hw.low
def fam (f : Nat → Stamp × Row) (a : Nat) : Nat → Rows
 | 0 => []
 | m + 1 => (a + 1000, f a) :: fam f (a + 1) m
set_option maxRecDepth 100000
section
variable {E : Env} {v j : Nat} {ops : Array Oper} {K : Tm → Store → Prop} {rest : List Oper} {tm : Tm} {σ : Store} {ty : TypeId} {pos : String} {af : Array Edge}
theorem S_minE {d : Option Nat} {T T' : TypeId} {x y : Operand} {k : IntKind} {a b m : Int} (hx : ev tm x = some (.int k a)) (hy : ev tm y = some (.int k b)) (he : (if b < a then b else a) = m) (hcont : AO E.P v ops K (j + 1) rest (tm.putO d (.int k m)) (σ.apply [])) : AO E.P v ops K j (⟨d, .call { callee := .builtin .min, args := #[x, y], argTypes := #[T, T'] }, ty, pos, af, none⟩ :: rest) tm σ := by
 subst he; exact S_min hx hy hcont
end
theorem mY (l : List Int) (n : Int) (hl : l.length ≤ 1152921504606846976) : Pure E.P 62 [.d (ints l), .int .i64 n] (.int .i64 (atI l n)) := by
 refine fnA Tryz.func62 Tryz.ntmps62 ?_
 refine uB (aoR fun _ => ?_)
 refine q12 (uC (uA ?_))
 iterate 2 refine uB ?_
 refine aoR fun _ => ?_; refine q11 ?_; refine q13 ?_; refine q11 (uC (uA (uG ?_)))
 rotate_left
 refine uZ (X := Nat) (fun k => tmL [(0, .d (ints l)), (1, .int .i64 n), (7, .int .i64 l.length), (8, .int .i64 k)]) (fun _ => stL []) (fun k => k ≤ l.length ∧ atI l n = atFrom n (l.drop k) k) (fun k => l.length - k) 0 ⟨Nat.zero_le _, rfl⟩ leP leP ?_
 rintro k ⟨hk, ht⟩
 by_cases hlt : k < l.length
 ·have hd := yU l n k hlt
  refine uB (aoR fun _ => ?_)
  refine q37 (uC (uA (uB ?_))); refine cnd ?_ ?_
  refine uK fun _ => ?_; try (exfalso; omega)
  refine uF (uA (uB (uG (uB (aoR fun _ => ?_)))))
  refine q11 ?_; refine q12 (uC (uA (uB (aoR fun _ => ?_))))
  iterate 3 refine q11 ?_
  refine q17 ?_; refine q23 ?_; refine q46 (uC (uA ?_)); refine cnd ?_ ?_
  refine uK fun _ => ?_; try (exfalso; omega)
  refine uB (aoR fun _ => ?_)
  refine q11 ?_; refine q12 (uC (uA ?_)); refine uH ?_; refine vL ?_
  iterate 2 refine uO ?_
  refine vL ?_; refine uO ?_; rotate_left
  refine uL fun _ => ?_; try (exfalso; omega)
  refine uF ?_; refine vJ ?_; refine uA (aoR fun _ => ?_)
  refine q36 ?_; refine q11 (uC (uA ?_)); rotate_left
  refine uL fun _ => ?_; try (exfalso; omega)
  ·rename_i he _
   refine wK rfl ?_
   have he' : n = l.getD k 0 := he
   rw [ht, hd, if_pos he'.symm]
  ·rename_i he _
   have he' : ¬ n = l.getD k 0 := he
   refine vI (k + 1) ⟨by omega, ?_⟩ (by omega) leP leP
   rw [ht, hd, if_neg (fun h => he' h.symm)]
 ·refine uB (aoR fun _ => ?_)
  refine q37 (uC (uA (uB ?_))); refine cnd ?_ ?_
  refine uK fun _ => ?_; try (exfalso; omega)
  refine uL fun _ => ?_; try (exfalso; omega)
  refine uS ?_
  iterate 2 refine vE ?_
  refine vT ?_; refine uA (uB (aoR fun _ => ?_))
  refine q12 (uC (uA ?_)); refine uH ?_; rotate_left
  refine wK rfl ?_
  rw [ht, List.drop_eq_nil_of_le (by omega)]; rfl
theorem cJ {l : List Int} {j : Nat} (h : j < l.length) : l.getD j 0 ∈ l := by
 rw [List.getD_eq_getElem?_getD, List.getElem?_eq_getElem h]; exact List.getElem_mem h
theorem pJ {x : Ex} (h : checkI x = 0) {i : Nat} (hi : i < x.order.length) : ∀ j, j < (x.order.getD i default).2.length → 0 ≤ (x.order.getD i default).2.getD j 0 ∧ (x.order.getD i default).2.getD j 0 < x.evs.length := fun j hj => by
 have h4 := (vO h).2.2.2
 unfold orderB rowsTo at h4
 simp only [Bool.and_eq_true, decide_eq_true_eq] at h4
 have h6 := List.all_eq_true.1 h4.2 i (List.mem_range.2 hi)
 unfold rowOk at h6
 simp only [Bool.and_eq_true, beq_iff_eq] at h6
 have hm2 : (x.order.getD i default).2.getD j 0 ∈ sortI (x.order.getD i default).2 := (List.mergeSort_perm _ _).mem_iff.2 (cJ hj)
 rw [h6.2] at hm2
 unfold wantTo at hm2
 obtain ⟨m, h1, e⟩ := List.mem_map.1 hm2
 have h2 := List.mem_range.1 (List.mem_filter.1 h1).1
 rw [← e]
 simp only [Int.ofNat_eq_natCast]
 omega
def jdOV (x : Ex) (rf co fr : List (Int × Int)) : OV := .ag [.d (evsTV x.evs), .d (ints x.from_), .d (rowsTV x.order), .d (pairsTV rf), .d (pairsTV co), .d (pairsTV fr)]
theorem of_p (x : Ex) (hx : x.fit) : Pure E.P 36 [exOV x] (jdOV x (rfF x) (coF x) (frF x)) := by
 have f1 : Frozen 1 := ⟨trivial⟩
 have f5 : Frozen 5 := ⟨trivial⟩
 have f7 : Frozen 7 := ⟨trivial⟩
 have f9 : Frozen 9 := ⟨trivial⟩
 have h1 := rf_s x hx
 have h2 := co_s x hx
 have h3 := fr_s x hx
 refine FnW.toR ?_
 refine xF (vs := [.cell 2 67]) Tryz.func36 (by decide) rfl Tryz.ntmps36 (Nat.le_of_ble_eq_true rfl) rfl ?_
 refine uB (aoR fun _ => ?_)
 refine q34 ?_
 apply vQ; exact rfl
 refine uC (uA (uB ?_))
 refine vB (E := E) ?_ (fun _ => ?_); exact rfl
 iterate 2 (apply wC; exact rfl; exact rfl; exact rfl; exact Nat.le_of_ble_eq_true rfl)
 apply mK; assumption; exact rfl; exact .fn _ _ _; exact rfl; exact h1; exact yP _; exact rfl
 apply wC; exact rfl; exact rfl; exact rfl; exact Nat.le_of_ble_eq_true rfl
 apply mK; assumption; exact rfl; exact .fn _ _ _; exact rfl; exact h2; exact yP _; exact rfl
 apply wC; exact rfl; exact rfl; exact rfl; exact Nat.le_of_ble_eq_true rfl
 apply mK; assumption; exact rfl; exact .fn _ _ _; exact rfl; exact h3; exact yP _; exact rfl
 apply gW; exact rfl; exact rfl; exact rfl; exact rfl; exact rfl
 apply bB; exact rfl; exact rfl; exact rfl; exact rfl; exact rfl; exact rfl; (first | exact rfl | exact uW (by omega) (0 : Int) | exact uW (by omega) default | exact xE (by omega) (by omega) (0 : Int) | assumption); exact Nat.le_of_ble_eq_true rfl
 refine vX ?_ ?_; (first | ((try dsimp only [wkeys]); decide +kernel) | exact rfl)
 refine uA ?_; refine uH ?_; rotate_left
 exact qP rfl rfl rfl rfl rfl rfl
def readsR (x : Ex) (n : Nat) : Int × Bool := if (x.evs.getD n default).kind = 3 then ((n : Int), true) else pairedR x n
theorem reads_p (x : Ex) (hx : x.fit) (rf co fr : List (Int × Int)) (n : Nat) (hn : n < x.evs.length) : Pure E.P 61 [jdOV x rf co fr, .int .i64 n] (.tu [.int .i64 (readsR x n).1, .bool (readsR x n).2]) := by
 have f2 : Frozen 2 := ⟨trivial⟩
 have hl := hx.1.1
 have hP := Paired_p x hx n
 refine FnW.toR ?_
 refine xF (vs := [.tmp 4, .tmp 5]) Tryz.func61 (by decide) rfl Tryz.ntmps61 (Nat.le_of_ble_eq_true rfl) rfl ?_
 refine uB (aoR fun _ => ?_)
 refine q34 ?_
 iterate 2 refine q12 ?_
 refine uC (uA ?_)
 iterate 2 refine uB ?_
 refine aoR fun _ => ?_
 iterate 2 refine q32 ?_
 refine q23 ?_; refine q11 ?_; refine q17 ?_; refine q32 ?_; refine q23 ?_; refine q46 (uC (uA ?_)); refine cnd ?_ ?_
 refine uK fun _ => ?_; try (exfalso; omega)
 refine uB (aoR fun _ => ?_)
 refine q11 ?_
 iterate 2 refine q12 ?_
 refine uC (uA ?_); refine uH ?_; refine uO ?_; rotate_left
 refine uL fun _ => ?_; try (exfalso; omega)
 refine uF (uA (uB (aoR fun _ => ?_)))
 refine q32 ?_; refine q33 ?_; refine q11 ?_
 apply uQ; exact rfl; exact .fn _ _ _; exact rfl; exact hP
 iterate 2 (apply xK; exact rfl; exact rfl)
 iterate 2 refine q12 ?_
 refine uC (uA ?_); refine uH ?_; rotate_left
 ·refine bC rfl rfl ?_
  rename_i hk _
  have hk' : (x.evs.getD n default).kind = 3 := hk
  unfold readsR
  rw [if_pos hk']
 ·refine bC rfl rfl ?_
  rename_i hk _
  have hk' : ¬ (x.evs.getD n default).kind = 3 := hk
  unfold readsR
  rw [if_neg hk']
theorem lE (n : Int) : ∀ (l : List Int) (k : Nat), atFrom n l k = -1 ∨ ((k : Int) ≤ atFrom n l k ∧ atFrom n l k < k + l.length)
 | [], k => Or.inl rfl
 | a :: l, k => by
  unfold atFrom
  split
  ·right; simp only [List.length_cons]; omega
  ·rcases lE n l (k + 1) with h | h
   ·exact Or.inl h
   ·right; simp only [List.length_cons]; omega
theorem qS (l : List Int) (n : Int) : -1 ≤ atI l n ∧ atI l n < l.length := by
 rcases lE n l 0 with h | h <;> unfold atI <;> omega
theorem fD (es : List Ev) (f : Ev) : ∀ k, -1 ≤ pairTo es f k ∧ pairTo es f k < k
 | 0 => by unfold pairTo; omega
 | k + 1 => by
  have := fD es f k
  unfold pairTo
  split
  ·split
   ·split
    ·omega
    ·split <;> omega
   ·omega
  ·omega
theorem readsR_bd (x : Ex) (n : Nat) : 0 ≤ (readsR x n).1 ∧ (readsR x n).1 ≤ n := by
 unfold readsR
 split
 ·dsimp only; omega
 ·unfold pairedR
  split
  ·rename_i h
   rw [Int.toNat_natCast] at h ⊢
   dsimp only
   unfold pairedI at h ⊢
   split
   ·have := fD x.evs (x.evs.getD n default) n
    rename_i h2
    rw [if_pos h2] at h
    omega
   ·rename_i h2
    rw [if_neg h2] at h
    omega
  ·dsimp only; omega
def atomLo (n : Nat) (f : Int) (l : List Int) : Nat := (min (atI l f + 1) (atI l n)).toNat
def atomSl (n : Nat) (f : Int) (l : List Int) : List Int := (l.drop (atomLo n f l)).take ((atI l n).toNat - atomLo n f l)
def atomM (x : Ex) (n : Nat) (m : Int) : Bool := decide ((x.evs.getD m.toNat default).hart = (x.evs.getD n default).hart)
def atomRow (x : Ex) (n : Nat) (f : Int) (l : List Int) : Bool := decide (atI l f < 0) || decide (atI l n < 0) || (atomSl n f l).all (atomM x n)
def atomEv (x : Ex) (n : Nat) : Bool := !(readsR x n).2 || x.order.all fun r => atomRow x n (x.from_.getD (readsR x n).1.toNat 0) r.2
def atomB (x : Ex) : Bool := (List.range x.evs.length).all (atomEv x)
theorem atom_no {x : Ex} {n : Nat} (hn : n < x.evs.length) (h : atomEv x n = false) : atomB x = false := by
 unfold atomB
 rw [List.all_eq_false]
 exact ⟨n, List.mem_range.2 hn, by rw [h]; decide⟩
def jdRow (x : Ex) (rf co fr : List (Int × Int)) : List TV := [evsTV x.evs, ints x.from_, rowsTV x.order, pairsTV rf, pairsTV co, pairsTV fr]
set_option maxHeartbeats 4000000 in
theorem atomic_p (x : Ex) (hx : x.rel) (rf co fr : List (Int × Int)) : Pure E.P 39 [jdOV x rf co fr] (.bool (atomB x)) := by
 have f1 : Frozen 1 := ⟨trivial⟩
 have f5 : Frozen 5 := ⟨trivial⟩
 have hl := hx.len
 have hlf := hx.from_
 have hlo := hx.ord
 refine fnA Tryz.func39 Tryz.ntmps39 ?_
 refine uB (aoR fun _ => ?_)
 refine q34 ?_; refine q12 (uC (uA ?_)); refine fQ ?_; refine uB (aoR fun _ => ?_)
 refine q12 (uC (uA (uB ?_))); refine fS ?_; refine uA ?_
 iterate 2 refine uB ?_
 refine aoR fun _ => ?_
 iterate 2 refine q32 ?_
 refine q23 ?_; refine q13 ?_; refine q11 (uC (uA (uG ?_))); rotate_left
 refine uZ (X := Nat) (fun n => tmL [(1, .d (.pt (jdRow x rf co fr) 0)), (3, .bool true), (16, .d (evsTV x.evs)), (17, .int .i64 x.evs.length), (18, .int .i64 n)]) (fun _ => stL []) (fun n => n ≤ x.evs.length ∧ ∀ j, j < n → atomEv x j = true) (fun n => x.evs.length - n) 0 ⟨Nat.zero_le _, fun j hj => by omega⟩ leP leP ?_
 rintro n ⟨hn, hall⟩
 by_cases hlt : n < x.evs.length
 rotate_left
 ·refine uB (aoR fun _ => ?_)
  refine q37 (uC (uA (uB ?_))); refine cnd ?_ ?_
  refine uK fun _ => ?_; try (exfalso; omega)
  refine uL fun _ => ?_; try (exfalso; omega)
  refine uS ?_
  iterate 2 refine vE ?_
  refine vT ?_; refine uA (uB (aoR fun _ => ?_))
  refine q11 ?_; refine q12 (uC (uA ?_)); refine uH ?_; refine rF ?_; rotate_left
  refine uX rfl ?_
  unfold atomB
  refine (List.all_eq_true.2 fun j hj => hall j ?_).symm
  have := List.mem_range.1 hj
  omega
 have hR := reads_p x hx.fit rf co fr n hlt
 have hbd := readsR_bd x n
 cases hmust : (readsR x n).2 with
 | false =>
  rw [hmust] at hR
  refine uB (aoR fun _ => ?_)
  refine q37 (uC (uA (uB ?_))); refine cnd ?_ ?_
  refine uK fun _ => ?_; try (exfalso; omega)
  refine uF (uA (uB (uG (uB (aoR fun _ => ?_)))))
  refine q11 ?_; refine q17 ?_; refine q33 ?_
  apply vQ; exact rfl
  refine q12 ?_; refine q43 (uC (uA (uB (aoR fun _ => ?_))))
  refine q33 ?_; refine q11 ?_
  apply uQ; exact rfl; exact .fn _ _ _; exact rfl; exact hR
  refine q11 ?_
  iterate 2 (apply xK; exact rfl; exact rfl)
  iterate 2 refine q12 ?_
  refine uC (uA ?_)
  iterate 2 refine uB ?_
  refine aoR fun _ => ?_; refine q11 ?_
  apply yE; exact rfl
  refine uC (uA ?_)
  refine cnd ?_ ?_; refine bW ?_; refine uJ ?_; refine uS ?_; refine vE ?_; refine vT ?_; refine uA (aoR fun _ => ?_)
  refine q36 ?_; refine q11 (uC (uA ?_)); rotate_left
  refine xS ?_
  exact uN
  refine uL fun _ => ?_; try (exfalso; omega)
  refine vI (n + 1) ⟨by omega, fun j hj => ?_⟩ (by omega) leP leP
  rcases Nat.lt_or_ge j n with e | e
  ·exact hall j e
  ·have : j = n := by omega
   subst this
   unfold atomEv; rw [hmust]; rfl
 | true =>
  rw [hmust] at hR
  refine uB (aoR fun _ => ?_)
  refine q37 (uC (uA (uB ?_))); refine cnd ?_ ?_
  refine uK fun _ => ?_; try (exfalso; omega)
  refine uF (uA (uB (uG (uB (aoR fun _ => ?_)))))
  refine q11 ?_; refine q17 ?_; refine q33 ?_
  apply vQ; exact rfl
  refine q12 ?_; refine q43 (uC (uA (uB (aoR fun _ => ?_))))
  refine q33 ?_; refine q11 ?_
  apply uQ; exact rfl; exact .fn _ _ _; exact rfl; exact hR
  refine q11 ?_
  iterate 2 (apply xK; exact rfl; exact rfl)
  iterate 2 refine q12 ?_
  refine uC (uA ?_)
  iterate 2 refine uB ?_
  refine aoR fun _ => ?_; refine q11 ?_
  apply yE; exact rfl
  refine uC (uA ?_); refine cnd ?_ ?_; refine bW ?_
  exact wA
  refine xS ?_; refine uM ?_; refine uF (uA (uB (aoR fun _ => ?_)))
  iterate 2 refine q32 ?_
  refine q23 ?_; refine q13 ?_; refine q11 (uC (uA (uG ?_))); rotate_left
  refine uL fun _ => ?_; try (exfalso; omega)
  generalize hr : (readsR x n).1 = r at hbd
  refine uZ (X := Nat) (fun j => tmL [(1, .d (.pt (jdRow x rf co fr) 0)), (3, .bool true), (4, .int .i64 n), (5, .d (.pt (evTV (x.evs.getD n default)) 0)), (6, .int .i64 r), (16, .d (evsTV x.evs)), (17, .int .i64 x.evs.length), (18, .int .i64 n), (33, .d (rowsTV x.order)), (34, .int .i64 x.order.length), (35, .int .i64 j)]) (fun _ => stL []) (fun j => j ≤ x.order.length ∧ ∀ q, q < j → atomRow x n (x.from_.getD r.toNat 0) (x.order.getD q default).2 = true) (fun j => x.order.length - j) 0 ⟨Nat.zero_le _, fun j hj => by omega⟩ leP leP ?_
  rintro j ⟨hj, hrows⟩
  by_cases hltj : j < x.order.length
  rotate_left
  ·refine uB (aoR fun _ => ?_)
   refine q37 (uC (uA (uB ?_))); refine cnd ?_ ?_
   refine uK fun _ => ?_; try (exfalso; omega)
   refine uL fun _ => ?_; try (exfalso; omega)
   refine uS ?_
   iterate 2 refine vE ?_
   refine vT ?_; refine vJ ?_; refine uA (aoR fun _ => ?_)
   refine q36 ?_; refine q11 (uC (uA ?_)); rotate_left
   refine vI (n + 1) ⟨by omega, fun q hq => ?_⟩ (by omega) leP leP
   rcases Nat.lt_or_ge q n with e | e
   ·exact hall q e
   ·have : q = n := by omega
    subst this
    unfold atomEv
    rw [hmust, Bool.not_true, Bool.false_or, List.all_eq_true]
    intro w hw
    obtain ⟨z, hz, rfl⟩ := List.mem_iff_getElem.1 hw
    have := hrows z (by omega)
    rw [List.getD_eq_getElem?_getD (l := x.order), List.getElem?_eq_getElem hz] at this
    rw [hr]; exact this
  have hrl := hx.rows j
  have hI1 := mY (x.order.getD j default).2 (x.from_.getD r.toNat 0) (by omega)
  have hI2 := mY (x.order.getD j default).2 n (by omega)
  have hb1 := qS (x.order.getD j default).2 (x.from_.getD r.toNat 0)
  have hb2 := qS (x.order.getD j default).2 n
  have hrb : 0 ≤ r ∧ r < x.from_.length := by omega
  by_cases hneg : atI (x.order.getD j default).2 (x.from_.getD r.toNat 0) < 0 ∨ atI (x.order.getD j default).2 n < 0
  ·refine uB (aoR fun _ => ?_)
   refine q37 (uC (uA (uB ?_))); refine cnd ?_ ?_
   refine uK fun _ => ?_; try (exfalso; omega)
   refine uF (uA (uB (uG (uB (aoR fun _ => ?_)))))
   refine q17 ?_; refine q23 ?_; refine q12 (uC (uA (uB (aoR fun _ => ?_))))
   refine q11 ?_
   iterate 2 refine q32 ?_
   refine q23 ?_; refine q11 ?_; refine q17 ?_; refine q23 ?_
   apply uQ; exact rfl; exact .fn _ _ _; exact rfl; exact hI1
   iterate 2 refine q11 ?_
   apply uQ; exact rfl; exact .fn _ _ _; exact rfl; exact hI2
   iterate 2 refine q12 ?_
   refine uC (uA ?_)
   iterate 2 refine uB ?_
   refine aoR fun _ => ?_; refine q11 ?_; refine q37 ?_; refine q11 ?_
   apply spF; exact rfl
   intro hc_; refine q1
   apply spF; exact rfl
   intro hc_; refine q22; refine q0 (uC ?_); refine uA ?_
   refine cnd ?_ ?_
   refine wZ (fun hc_ => ?_); (try simp only [nrm] at hc_)
   refine uS ?_; refine vE ?_; refine vT ?_; refine uA (aoR fun _ => ?_)
   refine q36 ?_; refine q11 (uC (uA ?_)); rotate_left
   refine xC ?_
   iterate 3 refine uL fun _ => ?_; try (exfalso; omega)
   ·refine vI (j + 1) ⟨by omega, fun q hq => ?_⟩ (by omega) leP leP
    rcases Nat.lt_or_ge q j with e | e
    ·exact hrows q e
    ·have : q = j := by omega
     subst this
     unfold atomRow
     rcases hneg with h | h
     ·rw [decide_eq_true h]; rfl
     ·rw [decide_eq_true h, Bool.or_true]; rfl
  ·have hlo0 : atomLo n (x.from_.getD r.toNat 0) (x.order.getD j default).2 ≤ (atI (x.order.getD j default).2 n).toNat := by unfold atomLo; omega
   have hml : ((x.order.getD j default).2.map cell).length = (x.order.getD j default).2.length := List.length_map ..
   have hml2 : ((x.order.getD (j : Int).toNat default).2.map cell).length = (x.order.getD j default).2.length := List.length_map ..
   have hmn : (if atI (x.order.getD j default).2 n < atI (x.order.getD j default).2 (x.from_.getD r.toNat 0) + 1 then atI (x.order.getD j default).2 n else atI (x.order.getD j default).2 (x.from_.getD r.toNat 0) + 1) = ((atomLo n (x.from_.getD r.toNat 0) (x.order.getD j default).2 : Nat) : Int) := by
    unfold atomLo
    split <;> omega
   refine uB (aoR fun _ => ?_)
   refine q37 (uC (uA (uB ?_))); refine cnd ?_ ?_
   refine uK fun _ => ?_; try (exfalso; omega)
   refine uF (uA (uB (uG (uB (aoR fun _ => ?_)))))
   refine q17 ?_; refine q23 ?_; refine q12 (uC (uA (uB (aoR fun _ => ?_))))
   refine q11 ?_
   iterate 2 refine q32 ?_
   refine q23 ?_; refine q11 ?_; refine q17 ?_; refine q23 ?_
   apply uQ; exact rfl; exact .fn _ _ _; exact rfl; exact hI1
   iterate 2 refine q11 ?_
   apply uQ; exact rfl; exact .fn _ _ _; exact rfl; exact hI2
   iterate 2 refine q12 ?_
   refine uC (uA ?_)
   iterate 2 refine uB ?_
   refine aoR fun _ => ?_; refine q11 ?_; refine q37 ?_; refine q11 ?_
   apply spF; exact rfl
   intro hc_; refine q1
   apply spF; exact rfl
   intro hc_; refine q22; refine q0 (uC ?_); refine uA ?_
   refine cnd ?_ ?_
   refine wZ (fun hc_ => ?_); (try simp only [nrm] at hc_)
   refine uS ?_; refine vE ?_; refine vT ?_; refine uA (aoR fun _ => ?_)
   refine q36 ?_; refine q11 (uC (uA ?_)); rotate_left
   refine xC ?_
   iterate 2 refine uL fun _ => ?_; try (exfalso; omega)
   refine uF (uA (uB (aoR fun _ => ?_)))
   iterate 2 refine q11 ?_
   refine q36 ?_; refine q11 ?_
   apply S_minE; exact rfl; exact rfl; exact hmn
   refine q11 ?_
   (apply jM; exact rfl; exact rfl; exact rfl; exact rfl; exact rfl; (first | exact rfl | exact ⟨_, _, rfl, by omega, rfl⟩); (first | exact rfl | exact ⟨_, _, rfl, by omega, rfl⟩); omega; omega)
   refine q13 ?_; refine q11 (uC (uA (uG ?_))); rotate_left
   refine uL fun _ => ?_; try (exfalso; omega)
   ·exact (hneg hc_).elim
   obtain ⟨lo, hlo⟩ : ∃ lo, atomLo n (x.from_.getD r.toNat 0) (x.order.getD j default).2 = lo := ⟨_, rfl⟩
   have hS : List.take ((atI (x.order.getD j default).2 n).toNat - ((lo : Nat) : Int).toNat) (List.drop ((lo : Nat) : Int).toNat (List.map cell (x.order.getD (j : Int).toNat default).2)) = List.map cell (atomSl n (x.from_.getD r.toNat 0) (x.order.getD j default).2) := by
    rw [Int.toNat_natCast, Int.toNat_natCast, ← List.map_drop, ← List.map_take]; unfold atomSl; rw [hlo]
   rw [hlo, hS]
   have hSm : ∀ z, z < (atomSl n (x.from_.getD r.toNat 0) (x.order.getD j default).2).length → 0 ≤ (atomSl n (x.from_.getD r.toNat 0) (x.order.getD j default).2).getD z 0 ∧ (atomSl n (x.from_.getD r.toNat 0) (x.order.getD j default).2).getD z 0 < x.evs.length := fun z hz => by
    have hm : (atomSl n (x.from_.getD r.toNat 0) (x.order.getD j default).2).getD z 0 ∈ (x.order.getD j default).2 := by
     have h1 := cJ hz
     unfold atomSl at h1 ⊢
     exact List.mem_of_mem_drop (List.mem_of_mem_take h1)
    obtain ⟨w, hw, e⟩ := List.mem_iff_getElem.1 hm
    have := pJ hx.check hltj w hw
    rw [List.getD_eq_getElem?_getD, List.getElem?_eq_getElem hw, Option.getD_some, e] at this
    exact this
   have hrow : atomRow x n (x.from_.getD r.toNat 0) (x.order.getD j default).2 = (atomSl n (x.from_.getD r.toNat 0) (x.order.getD j default).2).all (atomM x n) := by
    unfold atomRow
    rw [decide_eq_false (fun h => hneg (Or.inl h)), decide_eq_false (fun h => hneg (Or.inr h))]; rfl
   have hSl : (atomSl n (x.from_.getD r.toNat 0) (x.order.getD j default).2).length ≤ 65536 := by
    unfold atomSl
    rw [List.length_take, List.length_drop]; omega
   generalize atomSl n (x.from_.getD r.toNat 0) (x.order.getD j default).2 = S at hSm hrow hSl
   refine uZ (X := Nat) (fun z => tmL [(1, .d (.pt (jdRow x rf co fr) 0)), (3, .bool true), (4, .int .i64 n), (5, .d (.pt (evTV (x.evs.getD n default)) 0)), (6, .int .i64 r), (16, .d (evsTV x.evs)), (17, .int .i64 x.evs.length), (18, .int .i64 n), (33, .d (rowsTV x.order)), (34, .int .i64 x.order.length), (35, .int .i64 j), (62, .d (ints S)), (63, .int .i64 S.length), (64, .int .i64 z)]) (fun _ => stL []) (fun z => z ≤ S.length ∧ ∀ q, q < z → atomM x n (S.getD q 0) = true) (fun z => S.length - z) 0 ⟨Nat.zero_le _, fun j hj => by omega⟩ (by repeat' (first | exact vY _ | exact vS _ | refine uP rfl ?_ | refine vN rfl ?_ | (refine vD rfl ?_ ?_; (simp)) | (refine vA rfl ?_ ?_; (simp)) | (refine vG rfl ?_ ?_; (simp)))) leP ?_
   rintro z ⟨hz, hms⟩
   by_cases hltz : z < S.length
   ·have hz1 := hSm z hltz
    have hz2 : 0 ≤ S.getD (z : Int).toNat 0 ∧ S.getD (z : Int).toNat 0 < x.evs.length := hz1
    refine uB (aoR fun _ => ?_)
    refine q37 (uC (uA (uB ?_))); refine cnd ?_ ?_
    refine uK fun _ => ?_; try (exfalso; omega)
    refine uF (uA (uB (uG (uB (aoR fun _ => ?_)))))
    refine q17 ?_; refine q23 ?_; refine q12 (uC (uA (uB ?_)))
    refine vB (E := E) ?_ (fun _ => ?_); exact rfl
    iterate 2 refine q52 ?_
    refine q50 ?_; refine q38 ?_; refine q30 ?_; refine q52 ?_; refine q50 ?_; refine q52 ?_; refine q50 ?_
    apply jO; exact rfl; exact rfl
    apply wW; exact rfl
    refine vX ?_ ?_; (first | ((try dsimp only [wkeys]); decide +kernel) | exact rfl)
    refine uA (uB (aoR fun _ => ?_))
    refine q11 ?_
    apply yE; exact rfl
    refine uC (uA ?_); refine cnd ?_ ?_
    refine wR (fun _ => ?_); (try (exfalso; omega))
    refine uS ?_
    refine jC ?_ ?_; exact rfl
    iterate 2 refine vE ?_
    iterate 2 (refine jC ?_ ?_; exact rfl)
    iterate 2 refine vE ?_
    iterate 2 (refine jC ?_ ?_; exact rfl)
    iterate 2 refine vE ?_
    refine vT ?_; refine uA (uB (aoR fun _ => ?_))
    refine q11 ?_; refine q12 (uC (uA ?_)); refine uH ?_; refine rF ?_; rotate_left
    refine wN (fun _ => ?_); (try (exfalso; omega))
    refine uF ?_; refine vJ ?_; refine uA (aoR fun _ => ?_)
    refine q36 ?_; refine q11 (uC (uA ?_)); rotate_left
    refine uL fun _ => ?_; try (exfalso; omega)
    ·rename_i hh _
     have hh' : ¬ (x.evs.getD (S.getD z 0).toNat default).hart = (x.evs.getD n default).hart := hh
     refine uX rfl ?_
     have hr0 : atomRow x n (x.from_.getD r.toNat 0) (x.order.getD j default).2 = false := by
      rw [hrow, List.all_eq_false]
      refine ⟨S.getD z 0, cJ hltz, ?_⟩
      unfold atomM
      rw [decide_eq_false hh']; decide
     have he0 : atomEv x n = false := by
      unfold atomEv
      rw [hmust, Bool.not_true, Bool.false_or, List.all_eq_false]
      refine ⟨x.order.getD j default, ?_, ?_⟩
      ·rw [List.getD_eq_getElem?_getD, List.getElem?_eq_getElem hltj]; exact List.getElem_mem hltj
      ·rw [hr, hr0]; decide
     rw [atom_no hlt he0]
     exact decide_eq_false hh'
    ·rename_i hh _
     have hh' : (x.evs.getD (S.getD z 0).toNat default).hart = (x.evs.getD n default).hart := hh
     refine vI (z + 1) ⟨by omega, fun q hq => ?_⟩ (by omega) ?_ leP
     ·rcases Nat.lt_or_ge q z with e | e
      ·exact hms q e
      ·have : q = z := by omega
       subst this
       exact decide_eq_true hh'
     ·have hd : decide ((x.evs.getD (S.getD (z : Int).toNat 0).toNat default).hart = (x.evs.getD n default).hart) = true := decide_eq_true hh'
      refine uP rfl (uP (by rw [← hd]; rfl) ?_)
      exact leP
   ·refine uB (aoR fun _ => ?_)
    refine q37 (uC (uA (uB ?_))); refine cnd ?_ ?_
    refine uK fun _ => ?_; try (exfalso; omega)
    refine uL fun _ => ?_; try (exfalso; omega)
    refine uS ?_
    iterate 2 refine vE ?_
    refine vT ?_; refine vJ ?_; refine uA (aoR fun _ => ?_)
    refine q36 ?_; refine q11 (uC (uA ?_)); rotate_left
    refine vI (j + 1) ⟨by omega, fun q hq => ?_⟩ (by omega) leP leP
    rcases Nat.lt_or_ge q j with e | e
    ·exact hrows q e
    ·have : q = j := by omega
     subst this
     rw [hrow, List.all_eq_true]
     intro w hw
     obtain ⟨y, hy, rfl⟩ := List.mem_iff_getElem.1 hw
     have := hms y (by omega)
     rwa [List.getD_eq_getElem?_getD, List.getElem?_eq_getElem hy] at this
def ledTo (l : List (Int × Int)) (g : Gone) (p k : Nat) : Bool := ledB (l.take k) g p
def goneTo (l : List (Int × Int)) (n k : Nat) : Bool := (List.range k).all (fun p => roundsTo l n n p)
def gv (g : Gone) : Nat → Value := fun i => .bool (g i)
def Arr (l : List (Int × Int)) (a b : Nat) : Prop := ∃ q ∈ l, q.1 = (a : Int) ∧ q.2 = (b : Int)
inductive Way (l : List (Int × Int)) : Nat → Nat → Prop where
 | one {a b : Nat} (h : Arr l a b) : Way l a b
 | more {a b c : Nat} (h : Way l a b) (h2 : Arr l b c) : Way l a c
theorem dX {l : List (Int × Int)} {n : Nat} (hok : l.any (outB n) = false) {a b : Nat} : b ∈ nxF l a ↔ Arr l a b := by
 unfold nxF nxTo Arr
 rw [List.take_length]
 simp only [List.mem_map, List.mem_filter, beq_iff_eq]
 constructor
 ·rintro ⟨z, ⟨q, ⟨hq, h1⟩, rfl⟩, rfl⟩
  refine ⟨q, hq, h1, ?_⟩
  rw [List.any_eq_false] at hok
  have := hok q hq
  unfold outB at this
  simp only [Bool.or_eq_true, decide_eq_true_eq, not_or] at this
  omega
 ·rintro ⟨q, hq, h1, h2⟩
  exact ⟨q.2, ⟨q, ⟨hq, h1⟩, rfl⟩, by rw [h2]; simp⟩
theorem dI {l : List (Int × Int)} {n : Nat} (hok : l.any (outB n) = false) {a b : Nat} (h : Arr l a b) : a < n ∧ b < n := by
 obtain ⟨q, hq, h1, h2⟩ := h
 rw [List.any_eq_false] at hok
 have := hok q hq
 unfold outB at this
 simp only [Bool.or_eq_true, decide_eq_true_eq, not_or] at this
 omega
def Keeps (st st' : St) : Prop := (∀ i, st' i = 1 ↔ st i = 1) ∧ (∀ i, st i = 2 → st' i = 2) ∧ (∀ i, st' i ≤ 2)
def Ranked (nx : Nat → List Nat) (st : St) (t : Nat → Nat) (c : Nat) : Prop := ∀ a, st a = 2 → t a < c ∧ ∀ b ∈ nx a, st b = 2 ∧ t b < t a
def twos : Nat → St → Nat
 | 0, _ => 0
 | n + 1, st => twos n st + (if st n = 2 then 1 else 0)
theorem pF (st : St) : ∀ n, twos n st ≤ n
 | 0 => Nat.le_refl _
 | n + 1 => by have := pF st n; unfold twos; split <;> omega
theorem mR {st : St} {a : Nat} (h : st a ≠ 2) : ∀ n, a < n → twos n (upd st a 2) = twos n st + 1
 | 0, ha => by omega
 | n + 1, ha => by
  unfold twos
  by_cases hn : n = a
  ·subst hn
   have e1 : upd st n 2 n = 2 := by unfold upd; rw [if_pos rfl]
   have e2 : ∀ m, m ≤ n → twos m (upd st n 2) = twos m st := by
    intro m
    induction m with
    | zero => intro _; rfl
    | succ m ih =>
     intro hm
     have e3 : upd st n 2 m = st m := by unfold upd; rw [if_neg (by omega)]
     unfold twos
     rw [ih (by omega), e3]
   rw [e1, if_pos rfl, if_neg h, e2 n (Nat.le_refl _)]
  ·have := mR h n (by omega)
   have e3 : upd st a 2 n = st n := by unfold upd; rw [if_neg hn]
   rw [this, e3]; omega
def GoodD (nx : Nat → List Nat) (n : Nat) (f : St → Nat → Bool × St) : Prop := ∀ st a, a < n → (∀ i, st i ≤ 2) → (f st a).1 = true →
 Keeps st (f st a).2 ∧ (f st a).2 a = 2 ∧ ∀ t, Ranked nx st t (twos n st) → ∃ t', Ranked nx (f st a).2 t' (twos n (f st a).2)
theorem fK {nx : Nat → List Nat} {n : Nat} {f : St → Nat → Bool × St} (hf : GoodD nx n f) : ∀ (l : List Nat) (st : St), (∀ b ∈ l, b < n) → (∀ i, st i ≤ 2) → (dfsL f st l).1 = true →
  Keeps st (dfsL f st l).2 ∧ (∀ b ∈ l, (dfsL f st l).2 b = 2) ∧ ∀ t, Ranked nx st t (twos n st) → ∃ t', Ranked nx (dfsL f st l).2 t' (twos n (dfsL f st l).2)
 | [], st, _, h2, _ => ⟨⟨fun _ => Iff.rfl, fun _ h => h, h2⟩, by simp, fun t ht => ⟨t, ht⟩⟩
 | b :: r, st, hb, h2, h => by
  unfold dfsL at h ⊢
  by_cases hc : (f st b).1 = true
  ·rw [if_pos hc] at h ⊢
   obtain ⟨⟨k1, k2, k3⟩, k4, k5⟩ := hf st b (hb b (by simp)) h2 hc
   obtain ⟨⟨g1, g2, g3⟩, g4, g5⟩ := fK hf r (f st b).2 (fun c hcr => hb c (by simp [hcr])) k3 h
   refine ⟨⟨fun i => (g1 i).trans (k1 i), fun i hi => g2 i (k2 i hi), g3⟩, ?_, ?_⟩
   ·intro c hcm
    rcases List.mem_cons.1 hcm with rfl | hcm
    ·exact g2 _ k4
    ·exact g4 c hcm
   ·intro t ht
    obtain ⟨t1, ht1⟩ := k5 t ht
    exact g5 t1 ht1
  ·rw [if_neg hc] at h; exact absurd h (by simp)
theorem eO {nx : Nat → List Nat} {n : Nat} (hn : ∀ a, ∀ b ∈ nx a, b < n) : ∀ f, GoodD nx n (dfs nx f)
 | 0, st, a, _, _, h => by simp [dfs] at h
 | f + 1, st, a, ha, h2, h => by
  unfold dfs at h ⊢
  by_cases hp : 0 < st a
  ·rw [if_pos hp] at h ⊢
   have e : st a = 2 := by simpa using h
   exact ⟨⟨fun _ => Iff.rfl, fun _ h => h, h2⟩, e, fun t ht => ⟨t, ht⟩⟩
  ·rw [if_neg hp] at h ⊢
   by_cases hc : (dfsL (dfs nx f) (upd st a 1) (nx a)).1 = true
   ·rw [if_pos hc] at h ⊢
    have hu2 : ∀ i, upd st a 1 i ≤ 2 := by intro i; unfold upd; split; omega; exact h2 i
    obtain ⟨⟨g1, g2, g3⟩, g4, g5⟩ := fK (eO hn f) (nx a) (upd st a 1) (hn a) hu2 hc
    generalize (dfsL (dfs nx f) (upd st a 1) (nx a)).2 = s at *
    have sa : s a = 1 := (g1 a).2 (by unfold upd; rw [if_pos rfl])
    have ha0 : st a = 0 := by omega
    refine ⟨⟨?_, ?_, ?_⟩, by dsimp only; unfold upd; rw [if_pos rfl], ?_⟩
    ·intro i
     dsimp only
     by_cases hi : i = a
     ·subst hi; unfold upd; rw [if_pos rfl]; omega
     ·have e1 : upd s a 2 i = s i := by unfold upd; rw [if_neg hi]
      have e2 : upd st a 1 i = st i := by unfold upd; rw [if_neg hi]
      rw [e1, g1 i, e2]
    ·intro i hi
     dsimp only
     by_cases hia : i = a
     ·subst hia; unfold upd; rw [if_pos rfl]
     ·have e1 : upd s a 2 i = s i := by unfold upd; rw [if_neg hia]
      rw [e1]; exact g2 i (by unfold upd; rw [if_neg hia]; exact hi)
    ·intro i; dsimp only; unfold upd; split; omega; exact g3 i
    ·intro t ht
     have hru : Ranked nx (upd st a 1) t (twos n (upd st a 1)) := by
      have e : ∀ i, upd st a 1 i = 2 ↔ st i = 2 := by
       intro i; unfold upd; by_cases hi : i = a
       ·rw [if_pos hi, hi]; omega
       ·rw [if_neg hi]
      have e4 : ∀ m, twos m (upd st a 1) = twos m st := by
       intro m
       induction m with
       | zero => rfl
       | succ m ih => unfold twos; rw [ih]; simp only [e]
      intro c hc
      rw [e4]
      obtain ⟨r1, r2⟩ := ht c ((e c).1 hc)
      exact ⟨r1, fun b hb => ⟨(e b).2 (r2 b hb).1, (r2 b hb).2⟩⟩
     obtain ⟨t', ht'⟩ := g5 t hru
     refine ⟨fun i => if i = a then twos n s else t' i, ?_⟩
     dsimp only
     rw [mR (by omega) n ha]
     intro c hc
     dsimp only
     by_cases hca : c = a
     ·subst hca
      rw [if_pos rfl]
      refine ⟨by omega, fun b hb => ?_⟩
      have hb2 := g4 b hb
      have hbc : b ≠ c := by intro e; subst e; omega
      refine ⟨by unfold upd; rw [if_neg hbc]; exact hb2, ?_⟩
      rw [if_neg hbc]
      exact (ht' b hb2).1
     ·rw [if_neg hca]
      have e1 : upd s a 2 c = s c := by unfold upd; rw [if_neg hca]
      rw [e1] at hc
      obtain ⟨r1, r2⟩ := ht' c hc
      refine ⟨by omega, fun b hb => ?_⟩
      have hb2 := (r2 b hb).1
      have hbc : b ≠ a := by intro e; subst e; omega
      refine ⟨by unfold upd; rw [if_neg hbc]; exact hb2, ?_⟩
      rw [if_neg hbc]
      exact (r2 b hb).2
   ·rw [if_neg hc] at h; exact absurd h (by simp)
theorem lH {n : Nat} {l : List (Int × Int)} (hok : l.any (outB n) = false) (h : acyB n l = true) : ∃ t : Nat → Nat, ∀ a, a < n → t a < n ∧ ∀ b, Arr l a b → t b < t a := by
 unfold acyB at h
 have hn : ∀ a, ∀ b ∈ nxF l a, b < n := fun a b hb => (dI hok ((dX hok).1 hb)).2
 obtain ⟨_, g4, g5⟩ := fK (eO hn 65) (List.range n) (fun _ => 0) (by simp) (by simp) h
 obtain ⟨t, ht⟩ := g5 (fun _ => 0) (by intro c hc; simp at hc)
 refine ⟨t, fun a ha => ?_⟩
 obtain ⟨r1, r2⟩ := ht a (g4 a (by simpa using ha))
 have := pF (dfsL (dfs (nxF l) 65) (fun _ => 0) (List.range n)).2 n
 exact ⟨by omega, fun b hb => (r2 b ((dX hok).2 hb)).2⟩
theorem takeP_gone {l : List (Int × Int)} {g : Gone} {p : Nat} (h : ledB l g p = false) : takeP l g p p = true := by
 unfold takeP updB
 rw [h]
 simp
theorem ledB_mono {l : List (Int × Int)} {g g' : Gone} {p : Nat} (hg : ∀ i, g i = true → g' i = true) (h : ledB l g p = false) : ledB l g' p = false := by
 unfold ledB at *
 rw [List.any_eq_false] at *
 intro q hq hh
 refine h q hq ?_
 simp only [Bool.and_eq_true, Bool.not_eq_true'] at *
 refine ⟨hh.1, ?_⟩
 cases hgq : g q.1.toNat with
 | false => rfl
 | true => rw [hg _ hgq] at hh; simp at hh
theorem passTo_gone {l : List (Int × Int)} {g : Gone} {k p : Nat} (hp : p < k) (h : ledB l g p = false) : passTo l g k p = true := by
 induction k with
 | zero => omega
 | succ k ih =>
  rw [bR]
  by_cases hk : p = k
  ·subst hk
   exact takeP_gone (ledB_mono (fun i hi => passTo_mono _ _ _ _ hi) h)
  ·exact hZ _ _ _ _ (ih (by omega))
theorem rank_no_circle {n : Nat} {l : List (Int × Int)} (hok : l.any (outB n) = false) {t : Nat → Nat} (ht : ∀ a, a < n → t a < n ∧ ∀ b, Arr l a b → t b < t a) : circleB n l = false := by
 have key : ∀ r p, p < n → n ≤ t p + r → roundsTo l n r p = true := by
  intro r
  induction r with
  | zero => intro p hp h; have := (ht p hp).1; omega
  | succ r ih =>
   intro p hp h
   unfold roundsTo
   refine passTo_gone hp ?_
   unfold ledB
   rw [List.any_eq_false]
   intro q hq hh
   simp only [Bool.and_eq_true, beq_iff_eq, Bool.not_eq_true'] at hh
   have hin := hok
   rw [List.any_eq_false] at hin
   have := hin q hq
   unfold outB at this
   simp only [Bool.or_eq_true, decide_eq_true_eq, not_or] at this
   have hA : Arr l q.1.toNat p := ⟨q, hq, by omega, hh.1⟩
   have hl := dI hok hA
   have := (ht _ hl.1).2 p hA
   have := ih q.1.toNat hl.1 (by omega)
   rw [this] at hh; simp at hh
 unfold circleB
 rw [List.any_eq_false]
 intro p hp
 rw [key n p (by simpa using hp) (by omega)]
 simp
def BadD (l : List (Int × Int)) (f : St → Nat → Bool × St) (m : Nat) : Prop := ∀ st a, a < 64 → (∀ i, st i ≤ 2) → whites 64 st < m → (∀ u, st u = 1 → Way l u a) → (f st a).1 = false → ∃ c, Way l c c
theorem dO {st st' : St} (h : ∀ i, st' i = 0 → st i = 0) : ∀ n, whites n st' ≤ whites n st
 | 0 => Nat.le_refl _
 | n + 1 => by
  have := dO h n
  unfold whites
  by_cases h2 : st' n = 0
  ·rw [if_pos h2, if_pos (h n h2)]; omega
  ·rw [if_neg h2]; omega
theorem Keeps.white {st st' : St} (h : Keeps st st') (h2 : ∀ i, st i ≤ 2) : ∀ i, st' i = 0 → st i = 0 := by
 intro i hi
 have h1 := h.1 i
 have h3 := h.2.1 i
 have := h2 i
 by_cases e0 : st i = 0
 ·exact e0
 ·by_cases e1 : st i = 1
  ·have := h1.2 e1; omega
  ·have := h3 (by omega); omega
theorem oA {l : List (Int × Int)} {nx : Nat → List Nat} {f : St → Nat → Bool × St} {m : Nat} (hg : GoodD nx 64 f) (hf : BadD l f m) (a : Nat) : ∀ (r : List Nat) (st : St), (∀ b ∈ r, b < 64 ∧ Arr l a b) → (∀ i, st i ≤ 2) → whites 64 st < m → (∀ u, st u = 1 → u = a ∨ Way l u a) → (dfsL f st r).1 = false → ∃ c, Way l c c
 | [], st, _, _, _, _, h => by simp [dfsL] at h
 | b :: r, st, hb, h2, hw, hu, h => by
  unfold dfsL at h
  have hba := hb b (by simp)
  by_cases hc : (f st b).1 = true
  ·rw [if_pos hc] at h
   obtain ⟨k, _, _⟩ := hg st b hba.1 h2 hc
   refine oA hg hf a r (f st b).2 (fun c hcr => hb c (by simp [hcr])) k.2.2 ?_ (fun u hu1 => hu u ((k.1 u).1 hu1)) h
   exact Nat.lt_of_le_of_lt (dO (k.white h2) 64) hw
  ·refine hf st b hba.1 h2 hw ?_ (by simpa using hc)
   intro u hu1
   rcases hu u hu1 with rfl | hw1
   ·exact Way.one hba.2
   ·exact Way.more hw1 hba.2
theorem pX {n : Nat} {l : List (Int × Int)} (hn : n ≤ 64) (hok : l.any (outB n) = false) : ∀ f, BadD l (dfs (nxF l) f) f
 | 0, st, a, _, _, hw, _, _ => by omega
 | f + 1, st, a, ha, h2, hw, hu, h => by
  unfold dfs at h
  by_cases hp : 0 < st a
  ·rw [if_pos hp] at h
   have e : st a ≠ 2 := by simpa using h
   have := h2 a
   exact ⟨a, hu a (by omega)⟩
  ·rw [if_neg hp] at h
   have h64 : ∀ a, ∀ b ∈ nxF l a, b < 64 := fun a b hb => by have := (dI hok ((dX hok).1 hb)).2; omega
   by_cases hc : (dfsL (dfs (nxF l) f) (upd st a 1) (nxF l a)).1 = true
   ·rw [if_pos hc] at h; simp at h
   ·refine oA (eO h64 f) (pX hn hok f) a (nxF l a) (upd st a 1) (fun b hb => ⟨h64 a b hb, (dX hok).1 hb⟩) ?_ ?_ ?_ (by simpa using hc)
    ·intro i; unfold upd; split; omega; exact h2 i
    ·have := zX a 1 st (by omega) (by omega) 64 ha; omega
    ·intro u hu1
     unfold upd at hu1
     by_cases hua : u = a
     ·exact Or.inl hua
     ·rw [if_neg hua] at hu1; exact Or.inr (hu u hu1)
theorem fC {n : Nat} {l : List (Int × Int)} (hn : n ≤ 64) (hok : l.any (outB n) = false) : ∀ (r : List Nat) (st : St), (∀ b ∈ r, b < 64) → (∀ i, st i ≤ 2) → (∀ u, st u ≠ 1) → (dfsL (dfs (nxF l) 65) st r).1 = false → ∃ c, Way l c c
 | [], st, _, _, _, h => by simp [dfsL] at h
 | b :: r, st, hb, h2, hu, h => by
  have h64 : ∀ a, ∀ b ∈ nxF l a, b < 64 := fun a b hb => by have := (dI hok ((dX hok).1 hb)).2; omega
  unfold dfsL at h
  by_cases hc : (dfs (nxF l) 65 st b).1 = true
  ·rw [if_pos hc] at h
   obtain ⟨k, _, _⟩ := eO h64 65 st b (hb b (by simp)) h2 hc
   exact fC hn hok r _ (fun c hcr => hb c (by simp [hcr])) k.2.2 (fun u e => hu u ((k.1 u).1 e)) h
  ·have := cC st 64
   exact pX hn hok 65 st b (hb b (by simp)) h2 (by omega) (fun u e => absurd e (hu u)) (by simpa using hc)
theorem way_circle {n : Nat} {l : List (Int × Int)} (hok : l.any (outB n) = false) {c : Nat} (h : Way l c c) : circleB n l = true := by
 have keep1 : ∀ (g : Gone) (p : Nat), (∀ x, Way l c x → g x = false) → ∀ x, Way l c x → takeP l g p x = false := by
  intro g p hg x hx
  unfold takeP
  split
  ·exact hg x hx
  ·rename_i hl
   unfold updB
   by_cases hxp : x = p
   ·exfalso
    refine hl ?_
    subst hxp
    have hy : ∃ y, Arr l y x ∧ Way l c y := by
     cases hx with
     | one hA => exact ⟨c, hA, h⟩
     | more hw hA => exact ⟨_, hA, hw⟩
    obtain ⟨y, ⟨q, hq, h1, h2⟩, hy⟩ := hy
    unfold ledB
    rw [List.any_eq_true]
    refine ⟨q, hq, ?_⟩
    have e : q.1.toNat = y := by omega
    rw [e, hg y hy]
    simp [h2]
   ·rw [if_neg hxp]; exact hg x hx
 have keep2 : ∀ (k : Nat) (g : Gone), (∀ x, Way l c x → g x = false) → ∀ x, Way l c x → passTo l g k x = false := by
  intro k
  induction k with
  | zero => intro g hg; exact hg
  | succ k ih => intro g hg; rw [bR]; exact keep1 _ _ (ih g hg)
 have keep3 : ∀ r, ∀ x, Way l c x → roundsTo l n r x = false := by
  intro r
  induction r with
  | zero => intro x _; rfl
  | succ r ih => unfold roundsTo; exact keep2 _ _ ih
 unfold circleB
 rw [List.any_eq_true]
 have hlt : c < n := by
  cases h with
  | one hA => exact (dI hok hA).1
  | more _ hA => exact (dI hok hA).2
 exact ⟨c, by simpa using hlt, by rw [keep3 n c h]; rfl⟩
theorem dK {n : Nat} {l : List (Int × Int)} (hn : n ≤ 64) (hok : l.any (outB n) = false) : acyB n l = !circleB n l := by
 cases h : acyB n l with
 | true =>
  obtain ⟨t, ht⟩ := lH hok h
  rw [rank_no_circle hok ht]; rfl
 | false =>
  obtain ⟨c, hc⟩ := fC hn hok (List.range n) (fun _ => 0) (by intro b hb; have := List.mem_range.1 hb; omega) (by simp) (by simp) h
  rw [way_circle hok hc]; rfl
open Go.RowKit Go.ChangeShapes Go.WideShapes Go.Deep
theorem ledB_congr {l l' : List (Int × Int)} (h : ∀ p, p ∈ l ↔ p ∈ l') (g : Gone) (p : Nat) : ledB l g p = ledB l' g p := by
 unfold ledB
 rw [Bool.eq_iff_iff, List.any_eq_true, List.any_eq_true]
 exact ⟨fun ⟨q, h1, h2⟩ => ⟨q, (h q).1 h1, h2⟩, fun ⟨q, h1, h2⟩ => ⟨q, (h q).2 h1, h2⟩⟩
theorem circleB_congr {l l' : List (Int × Int)} (h : ∀ p, p ∈ l ↔ p ∈ l') (n : Nat) : circleB n l = circleB n l' := by
 have e1 : takeP l = takeP l' := by
  funext g p
  unfold takeP
  rw [ledB_congr h]
 have e2 : ∀ g k, passTo l g k = passTo l' g k := fun g k => by unfold passTo; rw [e1]
 have e3 : ∀ r, roundsTo l n r = roundsTo l' n r := fun r => by
  induction r with
  | zero => rfl
  | succ r ih => unfold roundsTo; rw [ih, e2]
 unfold circleB
 rw [e3]
set_option maxRecDepth 100000
def glob (x : Ex) (r1 r2 r3 r4 : Nat → Nat → Bool) (a b : Nat) : Bool := r1 a b || r2 a b || r3 a b || (r4 a b && !decide ((x.evs.getD a default).hart = (x.evs.getD b default).hart))
def globB (x : Ex) : Nat → Nat → Bool := glob x (isPpo x) (isCoB x) (isFrB x) (isRf x)
def gloL (x : Ex) : List (Int × Int) := refPairs x.evs.length (globB x)
theorem nV (x : Ex) : (gloL x).any (outB x.evs.length) = false := by
 rw [List.any_eq_false]
 intro p hp
 obtain ⟨a, b, h1, h2, _, rfl⟩ := vH.1 hp
 unfold outB
 simp only [Bool.or_eq_true, decide_eq_true_eq]
 omega
theorem gloL_len {x : Ex} (h : x.rel) : (gloL x).length ≤ 4096 := Nat.le_trans (xN x.evs.length (globB x) x.evs.length) (Nat.mul_le_mul h.len h.len)
set_option maxRecDepth 100000
open Go.RowKit Go.Maps
def JA (L : List (Int × Int)) (i nn : Nat) (D : DataW Unit) : Prop := nn ≤ i ∧ ∀ kl, has D kl = true ↔ ∃ p ∈ L.take i, kl = kpL p
noncomputable abbrev YA (L : List (Int × Int)) (g : Gh) (b : Nat) : YJ := mapY E.P 73 3 g b (JA L)
theorem JA.start (L : List (Int × Int)) : JA L 0 0 (.map []) := ⟨Nat.le_refl _, fun kl => by simp [Maps.has]⟩
theorem JA.step {L : List (Int × Int)} {i nn : Nat} {D : DataW Unit} (hm : IsMap D) (h : JA L i nn D) (hi : i < L.length) (d : DataW Unit) : JA L (i + 1) (nn + 1) (D.put (kpL (L.getD i default)) d) := by
 refine ⟨by have := h.1; omega, fun kl => ?_⟩
 rw [wO L default i hi]
 by_cases e : kl = kpL (L.getD i default)
 ·subst e
  rw [has_put_same hm (show WideAt.IsKeyLit (kpL _) from trivial)]
  simp
 ·rw [has_put_other e, h.2 kl]
  constructor
  ·rintro ⟨p, h1, h2⟩; exact ⟨p, by simp [h1], h2⟩
  ·rintro ⟨p, h1, h2⟩
   rcases List.mem_append.1 h1 with h1 | h1
   ·exact ⟨p, h1, h2⟩
   ·simp only [List.mem_singleton] at h1
    subst h1
    exact (e h2).elim
theorem mP {a : Int} (h1 : 0 ≤ a) (h2 : a < 65536) : (Lit.int .i64 a).wf = true := by
 simp only [Lit.wf, IntKind.min, IntKind.max, IntKind.signed, IntKind.bits, Bool.and_eq_true, decide_eq_true_eq, if_true]
 omega
theorem nJ {p : Int × Int} (h1 : 0 ≤ p.1) (h2 : p.1 < 65536) (h3 : 0 ≤ p.2) (h4 : p.2 < 65536) : IsKeyV E.P 73 (.ag ((pairTV p).map .d)) (kpL p) := fun G u hu => by
 rw [RepO] at hu
 obtain ⟨vs, rfl, h⟩ := hu
 unfold pairTV at h
 simp only [List.map_cons, List.map_nil] at h
 rw [RepOL] at h
 obtain ⟨v1, us, e1, q1, h⟩ := h
 rw [RepOL] at h
 obtain ⟨v2, us2, e2, q2, h⟩ := h
 rw [RepOL] at h
 subst h e2
 rw [vZ q1, vZ q2] at e1
 have : vs = #[.int .i64 p.1, .int .i64 p.2] := by rw [← Array.toList_inj, e1]
 rw [this]
 exact pU (mP h1 h2) (mP h3 h4)
theorem qF (w : World) : (zeroValue 3).run E.P w = .ok (.int .i64 0) w := by kernel_rfl
set_option maxHeartbeats 4000000 in
theorem qU (L l : List (Int × Int)) (hsm : smallP L) (hL : L.length ≤ 65536) (i : Nat) (hl : ∀ j, j < l.length → L.getD (i + j) default = l.getD j default) (hil : i + l.length ≤ L.length) (g : Gh) (b : Nat) :
  FnY E.P 64 [.d (pairsTV l), .d (.pt [.c (.map (some b))] 0)] (YA L g b) i (i + l.length) [] (· = []) := by
 have f4 : Frozen 4 := ⟨trivial⟩
 refine yL Tryz.func64 (by decide) rfl Tryz.ntmps64 (Nat.le_of_ble_eq_true rfl) rfl ?_
 refine uB (aoR fun _ => ?_)
 refine q11 ?_; refine q13 ?_; refine q11 (uC (uA (uG ?_))); rotate_left
 refine uZ (X := Nat) (fun k => tmL [(1, .d (.pt [.c (.map (some b))] 0)), (5, .d (pairsTV l)), (6, .int .i64 l.length), (7, .int .i64 k), (GS, .gh (i + k) (YA L g b))]) (fun _ => stL []) (fun k => k ≤ l.length) (fun k => l.length - k) 0 (Nat.zero_le _) leP leP ?_
 intro k hk
 by_cases hlt : k < l.length
 ·have hm : L.getD (i + k) default ∈ L := by
   rw [List.getD_eq_getElem?_getD, List.getElem?_eq_getElem (by omega)]; exact List.getElem_mem _
  have hp := hsm _ hm
  have he := hl k hlt
  have hkey : IsKeyV E.P 73 (.ag ((pairTV (l.getD k default)).map .d)) (kpL (L.getD (i + k) default)) := by
   rw [← he]; exact nJ hp.1 hp.2.1 hp.2.2.1 hp.2.2.2
  refine uB (aoR fun _ => ?_)
  refine q37 (uC (uA (uB ?_))); refine cnd ?_ ?_
  refine uK fun _ => ?_; try (exfalso; omega)
  refine uF (uA (uB (uG (uB (aoR fun _ => ?_)))))
  refine q17 ?_; refine q33 ?_
  apply vQ; exact rfl
  refine q43 (uC (uA ?_))
  refine pZ (d := 11) (KT := 73) (IT := 3) lU Tryz.underlying92 Tryz.underlying3 qF rfl rfl rfl rfl rfl (by decide) (by decide) (by decide) rfl rfl hkey rfl (fun nn D c hm hJ => ⟨by have := hJ.1; unfold maxLen; omega, hJ.step hm (by omega) _⟩) ?_
  refine vJ ?_; refine uA (aoR fun _ => ?_)
  refine q36 ?_; refine q11 (uC (uA ?_)); rotate_left
  refine uL fun _ => ?_; try (exfalso; omega)
  exact vI (k + 1) (by omega) (by omega) leP leP
 ·refine uB (aoR fun _ => ?_)
  refine q37 (uC (uA (uB ?_))); refine cnd ?_ ?_
  refine uK fun _ => ?_; try (exfalso; omega)
  refine uL fun _ => ?_; try (exfalso; omega)
  refine uS ?_
  iterate 2 refine vE ?_
  refine vT ?_; rotate_left
  have e : k = l.length := by omega
  subst e
  exact ⟨Or.inl rfl, rfl, [], rfl, vS _⟩
theorem enters_keysP : ∀ args w, (callFunc 96 args).run Tryz.prog w = .ok (.enter 96 args) w := enters_of Tryz.func96 (by kernel_rfl) rfl
theorem sortedKeys_m (L : List (Int × Int)) (hL : L.length ≤ 65536) (n : Nat) (f : Nat → Nat → Bool) (hn : n ≤ 65536) (hm : ∀ p, p ∈ L ↔ p ∈ refPairs n f) (g : Gh) (b : Nat) :
  FnM E.P 66 [.fn 96 [] [.d (.pt [.c (.map (some b))] 0)], .fn 68 [] []] ((YA L g b).J L.length) (fun r' _ => r' = .d (pairsTV (refPairs n f))) := by
 refine ⟨⟨_, Tryz.func66, by decide, rfl⟩, fun G w vs N hJ hv hw => ?_⟩
 obtain ⟨nn, D, ⟨hnn, hD⟩, hown⟩ := hJ
 rw [List.take_length] at hD
 rw [RepOL] at hv
 obtain ⟨x1, us, rfl, h1, hv⟩ := hv
 rw [RepOL] at hv
 obtain ⟨x2, us, rfl, h2, hv⟩ := hv
 rw [RepOL] at hv
 subst hv
 rw [RepO] at h2
 obtain ⟨f1, f2, rfl, hf1, hf2⟩ := h2
 rw [RepOL] at hf1 hf2
 have hf1 : f1 = #[] := Array.toList_eq_nil_iff.1 hf1
 have hf2 : f2 = #[] := Array.toList_eq_nil_iff.1 hf2
 subst hf1 hf2
 rw [RepO] at h1
 obtain ⟨v1, u1, rfl, hv1, hu1⟩ := h1
 rw [RepOL] at hv1
 have hv1 : v1 = #[] := Array.toList_eq_nil_iff.1 hv1
 subst hv1
 rw [RepOL] at hu1
 obtain ⟨pv, us, e1, hp, hu1⟩ := hu1
 rw [RepOL] at hu1
 subst hu1
 have e1 : u1 = #[pv] := by rw [← Array.toList_inj, e1]
 subst e1
 rw [RepO, Rep] at hp
 obtain ⟨Bm, of, rfl, hc⟩ := hp
 rw [RepC] at hc
 obtain ⟨⟨mv, hM, hmv⟩, _⟩ := hc
 rw [Rep] at hmv
 obtain ⟨rfl, _⟩ := hmv
 rw [Nat.add_zero]
 have hcell := hw.mem _ _ _ hM
 have hBm : Bm < w.heap.size := (zV hcell).2
 have hsm : ∀ kl, has D kl = true → ∃ x : P2, kl = kp x := fun kl hk => by
  obtain ⟨p, hp, rfl⟩ := (hD kl).1 hk
  obtain ⟨a, c, ha, hc, _, rfl⟩ := vH.1 ((hm p).1 hp)
  exact ⟨(⟨a, by omega⟩, ⟨c, by omega⟩), rfl⟩
 have hsize : Maps.size D ≤ 65536 := by have := hown.size_le; omega
 have hcall := callsIn_wide.1 (sortedFuncA_p 4 (by omega) _ #[.pointer (some ⟨Bm, of, none⟩)] enters_keysP KeepsWalks (KeysP D) (fun _ => True) (Maps.size D) (by omega) w walksK_t walksK_b (fun _ _ h _ => h.walks) (keysP_stops Fence.wide (fun _ => trivial) 1 rfl (by omega) Bm of b nn D hsm w hBm hcell hown))
 refine hcall.mono ?_
 rintro e w' ⟨v, ss, rfl, ⟨hnd, hk1, hk2⟩, _, hrow, hb⟩
 have hlist : (sortP ss).map toI = refPairs n f := by
  rw [eZ]
  refine bI ?_ fun p => ?_
  ·refine List.pairwise_map.2 (hnd.imp fun {a c} h e => h ?_)
   unfold toI at e
   simp only [Prod.mk.injEq] at e
   exact Prod.ext (Fin.ext (by omega)) (Fin.ext (by omega))
  ·rw [← hm]
   constructor
   ·intro hp
    obtain ⟨x, hx, rfl⟩ := List.mem_map.1 hp
    obtain ⟨q, hq, e⟩ := (hD _).1 (hk1 x hx)
    obtain ⟨a, c, ha, hc, _, rfl⟩ := vH.1 ((hm q).1 hq)
    have : x = (⟨a, by omega⟩, ⟨c, by omega⟩) := oX e
    subst this
    exact hq
   ·intro hp
    obtain ⟨a, c, ha, hc, _, rfl⟩ := vH.1 ((hm p).1 hp)
    obtain ⟨x, hx, e⟩ := hk2 _ ((hD _).2 ⟨_, hp, rfl⟩)
    have : (⟨a, by omega⟩, ⟨c, by omega⟩) = x := oX e
    exact List.mem_map.2 ⟨x, hx, by rw [← this]; rfl⟩
 have hw1 := hw.below hb
 have hlen : (sortP ss).length = (refPairs n f).length := by rw [← hlist, List.length_map]
 rcases hrow.2 with ⟨rfl, hz⟩ | ⟨gb, cap, cur, rfl, hbase, hgb, r1, r2, r3, r4⟩
 ·refine ⟨_, G, _, Store.nil, rfl, rfl, .refl G, ?_, hw1⟩
  have : refPairs n f = [] := List.eq_nil_of_length_eq_zero (by omega)
  rw [RepO, this]
  unfold pairsTV
  rw [Rep]
  exact ⟨none, 0, rfl, Nat.le_refl _, Or.inl rfl⟩
 ·have hle : G.M.le (G.M.add gb cur) := fun b' o x hx => by
   have hlt := hw.mem_lt hx
   unfold Mem.add
   rw [if_neg (by omega)]
   exact hx
  have hcl : ∀ o x, cur[o]? = some x → w'.cell? ⟨gb, o, none⟩ = some x := fun o x hx => by
   simp [World.cell?, hgb, hx]
  refine ⟨_, ⟨G.M.add gb cur, G.μ⟩, _, Store.nil, rfl, rfl, ⟨hle, fun _ _ _ h => h⟩, ?_, hw1.grow hle (fun b' o x hx => ?_) (fun k τ r β o h => by cases h) (fun b' o x hx => ?_)⟩
  ·rw [RepO]
   unfold pairsTV
   rw [Rep]
   have hl2 : ((refPairs n f).map pairTV).length = (sortP ss).length := by rw [List.length_map, hlen]
   refine ⟨some ⟨gb, 0, none⟩, cap, by rw [hl2], by rw [hl2]; exact r1, Or.inr ⟨gb, 0, rfl, RepR.of_get fun i r hr => ?_⟩⟩
   rw [← hlist, List.map_map, List.getElem?_map] at hr
   obtain ⟨x, hx, rfl⟩ := Option.map_eq_some_iff.1 hr
   refine ⟨rfl, RepC.of_get fun o t ht => ?_⟩
   have hi : i < (sortP ss).length := (List.getElem?_eq_some_iff.1 hx).1
   have hxd : (sortP ss).getD i default = x := by rw [List.getD_eq_getElem?_getD, hx]; rfl
   have get : ∀ j, j < (sortP ss).length * 2 → cur[j]? = some ((encP ((sortP ss).getD (j / 2) default))[j % 2]!) := fun j hj => by
    rw [← aI _ j hj, ← r4, List.getElem?_take_of_lt hj, Array.getElem?_toList]
   have e0 := get (i * 2) (by omega)
   have e1 := get (i * 2 + 1) (by omega)
   rw [show i * 2 / 2 = i by omega, show i * 2 % 2 = 0 by omega, hxd] at e0
   rw [show (i * 2 + 1) / 2 = i by omega, show (i * 2 + 1) % 2 = 1 by omega, hxd] at e1
   have hM' : ∀ j x, cur[j]? = some x → (G.M.add gb cur) gb (0 + j) = some x := fun j x h => by
    unfold Mem.add; rw [if_pos rfl, Nat.zero_add]; exact h
   match o, ht with
   | 0, ht =>
    simp [pairTV, toI] at ht; subst ht
    exact ⟨_, hM' _ _ e0, by rw [Rep]; exact ⟨rfl, rfl⟩⟩
   | 1, ht =>
    simp [pairTV, toI] at ht; subst ht
    exact ⟨_, hM' _ _ e1, by rw [Rep]; exact ⟨rfl, rfl⟩⟩
  ·unfold Mem.add at hx
   split at hx
   ·rename_i e; subst e; exact hcl o x hx
   ·exact hw1.mem b' o x hx
  ·unfold Mem.add at hx
   split at hx
   ·rename_i e; subst e; exact Or.inr (Or.inl hbase)
   ·exact Or.inl hx
def hneB (x : Ex) (p : Int × Int) : Bool := !decide ((x.evs.getD p.1.toNat default).hart = (x.evs.getD p.2.toNat default).hart)
def arrL (x : Ex) : List (Int × Int) := ppoL x ++ coF x ++ frF x ++ (rfF x).filter (hneB x)
theorem sq_le {n : Nat} (h : n ≤ 64) : n * n ≤ 4096 := Nat.mul_le_mul h h
section
variable {x : Ex} (hx : x.rel)
include hx
theorem mE : (ppoL x).length ≤ 4096 ∧ (coF x).length ≤ 4096 ∧ (frF x).length ≤ 4096 ∧ (rfF x).length ≤ 4096 := by
 have h := sq_le hx.len
 have h1 := (show (refPairs _ _).length ≤ _ from xN x.evs.length (isPpo x) x.evs.length)
 have h2 := (show (refPairs _ _).length ≤ _ from xN x.evs.length (isCoB x) x.evs.length)
 have h3 := (show (refPairs _ _).length ≤ _ from xN x.evs.length (isFrB x) x.evs.length)
 have h4 := (show (refPairs _ _).length ≤ _ from xN x.evs.length (isRf x) x.evs.length)
 rw [gT hx, gR hx, bM hx.check]
 unfold ppoL
 omega
theorem arrL_len : (arrL x).length ≤ 65536 := by
 obtain ⟨h1, h2, h3, h4⟩ := mE hx
 have h5 := List.length_filter_le (hneB x) (rfF x)
 unfold arrL
 simp only [List.length_append]
 omega
theorem nN (p : Int × Int) : p ∈ arrL x ↔ p ∈ gloL x := by
 unfold arrL gloL ppoL
 rw [gT hx, gR hx, bM hx.check]
 simp only [List.mem_append, List.mem_filter, vH]
 constructor
 ·rintro (((⟨a, b, h1, h2, h3, rfl⟩ | ⟨a, b, h1, h2, h3, rfl⟩) | ⟨a, b, h1, h2, h3, rfl⟩) | ⟨⟨a, b, h1, h2, h3, rfl⟩, h4⟩) <;> refine ⟨a, b, h1, h2, ?_, rfl⟩ <;> unfold globB glob
  ·rw [h3]; rfl
  ·rw [h3]; simp
  ·rw [h3]; simp
  ·unfold hneB at h4
   simp only [Int.toNat_natCast] at h4
   rw [h3, h4]; simp
 ·rintro ⟨a, b, h1, h2, h3, rfl⟩
  unfold globB glob at h3
  simp only [Bool.or_eq_true, Bool.and_eq_true] at h3
  rcases h3 with ((h3 | h3) | h3) | ⟨h3, h4⟩
  ·exact Or.inl (Or.inl (Or.inl ⟨a, b, h1, h2, h3, rfl⟩))
  ·exact Or.inl (Or.inl (Or.inr ⟨a, b, h1, h2, h3, rfl⟩))
  ·exact Or.inl (Or.inr ⟨a, b, h1, h2, h3, rfl⟩)
  ·exact Or.inr ⟨⟨a, b, h1, h2, h3, rfl⟩, by unfold hneB; simpa using h4⟩
theorem arrL_small : smallP (arrL x) := fun p hp => by
 obtain ⟨a, b, h1, h2, _, rfl⟩ := vH.1 ((nN hx p).1 hp)
 have := hx.len
 dsimp only
 omega
end
theorem dB {L1 L2 : List (Int × Int)} {j : Nat} (h : j < L1.length) : (L1 ++ L2).getD j default = L1.getD j default := by
 rw [List.getD_eq_getElem?_getD, List.getElem?_append_left h, ← List.getD_eq_getElem?_getD]
theorem yK (L1 L2 : List (Int × Int)) (j : Nat) : (L1 ++ L2).getD (L1.length + j) default = L2.getD j default := by
 rw [List.getD_eq_getElem?_getD, List.getElem?_append_right (by omega), ← List.getD_eq_getElem?_getD]
 congr 1; omega
theorem bX {α : Type} (d : α) (f : α → Bool) : ∀ (l : List α) (k : Nat), k < l.length → f (l.getD k d) = true → (l.filter f).getD ((l.take k).filter f).length d = l.getD k d ∧ ((l.take k).filter f).length < (l.filter f).length
 | [], k, h, _ => by simp at h
 | a :: l, 0, _, h => by
  have h : f a = true := h
  simp [h]
 | a :: l, k + 1, hk, h => by
  obtain ⟨h1, h2⟩ := bX d f l k (by simpa using hk) (by simpa using h)
  cases ha : f a with
  | false => simp only [List.take_succ_cons, List.filter_cons, ha, Bool.false_eq_true, if_false, List.getD_cons_succ]; exact ⟨h1, h2⟩
  | true => simp only [List.take_succ_cons, List.filter_cons, ha, if_true, List.length_cons, List.getD_cons_succ]; exact ⟨h1, by omega⟩
theorem keysP_p (v : Value) (hv : v.oneCell' = true) : Pure E.P 67 [.d (.c v)] (.fn 96 [] [.d (.pt [.c v] 0)]) := by
 have f1 : Frozen 1 := ⟨trivial⟩
 refine fnA Tryz.func67 Tryz.ntmps67 ?_
 refine uB (aoR fun _ => ?_)
 refine q34 ?_; refine q12 (uC (uA (uB (aoR fun _ => ?_))))
 apply wE; exact rfl; exact rfl
 refine q12 (uC (uA ?_)); refine uH ?_; rotate_left
 exact fJ rfl rfl
set_option maxHeartbeats 4000000 in
theorem arrows_p (x : Ex) (hx : x.rel) : Pure E.P 43 [jdOV x (rfF x) (coF x) (frF x)] (.d (pairsTV (gloL x))) := by
 have f1 : Frozen 1 := ⟨trivial⟩
 have f3 : Frozen 3 := ⟨trivial⟩
 have f8 : Frozen 8 := ⟨trivial⟩
 have hn := hx.len
 obtain ⟨l1, l2, l3, l4⟩ := mE hx
 have hL := arrL_len hx
 have hS := arrL_small hx
 have hP : Pure E.P 65 [exOV x] (.tu [.d (pairsTV (ppoL x)), .int .i64 0]) := by
  have := Ppo_p x hx.fit
  unfold ppoT at this
  rw [if_neg (by simp [hx.check])] at this
  exact this
 obtain ⟨M, hM⟩ : ∃ M, (rfF x).filter (hneB x) = M := ⟨_, rfl⟩
 have hLL : (arrL x).length = (ppoL x).length + (coF x).length + (frF x).length + M.length := by unfold arrL; rw [hM]; simp only [List.length_append]
 have a1 : ∀ g b, FnY E.P 64 [.d (pairsTV (ppoL x)), .d (.pt [.c (.map (some b))] 0)] (YA (arrL x) g b) 0 (0 + (ppoL x).length) [] (· = []) := qU _ _ hS hL 0 (fun j hj => by
  unfold arrL; rw [Nat.zero_add, List.append_assoc, List.append_assoc, dB hj]) (by omega)
 have a2 : ∀ g b, FnY E.P 64 [.d (pairsTV (coF x)), .d (.pt [.c (.map (some b))] 0)] (YA (arrL x) g b) (0 + (ppoL x).length) (0 + (ppoL x).length + (coF x).length) [] (· = []) := qU _ _ hS hL _ (fun j hj => by
  unfold arrL; rw [Nat.zero_add, List.append_assoc, List.append_assoc, yK, dB hj]) (by omega)
 have a3 : ∀ g b, FnY E.P 64 [.d (pairsTV (frF x)), .d (.pt [.c (.map (some b))] 0)] (YA (arrL x) g b) (0 + (ppoL x).length + (coF x).length) (0 + (ppoL x).length + (coF x).length + (frF x).length) [] (· = []) := qU _ _ hS hL _ (fun j hj => by
  unfold arrL
  rw [Nat.zero_add, List.append_assoc, List.append_assoc, show (ppoL x).length + (coF x).length + j = (ppoL x).length + ((coF x).length + j) by omega, yK, yK, dB hj]) (by omega)
 have hK := sortedKeys_m (arrL x) hL x.evs.length (globB x) (by omega) (nN hx)
 refine fnA Tryz.func43 Tryz.ntmps43 ?_
 refine uB (aoR fun _ => ?_)
 refine q34 ?_; refine q51 (uC (uA (uB (aoR fun _ => ?_))))
 ((apply S_makeMap (JA (arrL x)) (JA.start _)); intro g b)
 apply vQ; exact rfl
 refine q43 (uC (uA (uB (aoR fun _ => ?_))))
 apply wE; exact rfl; exact rfl
 refine q12 (uC (uA (uB (aoR fun _ => ?_))))
 refine q32 ?_; refine q33 ?_
 apply uQ; exact rfl; exact .fn _ _ _; exact rfl; exact hP
 refine q11 ?_
 iterate 2 (apply xK; exact rfl; exact rfl)
 iterate 2 refine q12 ?_
 refine uC (uA (uB (aoR fun _ => ?_)))
 iterate 2 refine q11 ?_
 apply mJ; exact rfl; (exact .fn _ _ _); exact rfl; exact rfl; (exact a1 _ _)
 refine uC (uA (uB (aoR fun _ => ?_)))
 refine q11 ?_; refine q32 ?_; refine q23 ?_
 apply mJ; exact rfl; (exact .fn _ _ _); exact rfl; exact rfl; (exact a2 _ _)
 refine uC (uA (uB (aoR fun _ => ?_)))
 refine q11 ?_; refine q32 ?_; refine q23 ?_
 apply mJ; exact rfl; (exact .fn _ _ _); exact rfl; exact rfl; (exact a3 _ _)
 refine uC (uA ?_)
 iterate 2 refine uB ?_
 refine aoR fun _ => ?_; refine q32 ?_; refine q23 ?_; refine q13 ?_; refine q11 (uC (uA (uG ?_)))
 rotate_left
 refine uZ (X := Nat) (fun k => tmL [(1, .d (.pt (jdRow x (rfF x) (coF x) (frF x)) 0)), (3, .d (.pt [.c (.map (some b))] 0)), (29, .d (pairsTV (rfF x))), (30, .int .i64 (rfF x).length), (31, .int .i64 k), (GS, .gh (0 + (ppoL x).length + (coF x).length + (frF x).length + (((rfF x).take k).filter (hneB x)).length) (YA (arrL x) g b))]) (fun _ => stL []) (fun k => k ≤ (rfF x).length) (fun k => (rfF x).length - k) 0 (Nat.zero_le _) leP leP ?_
 intro k hk
 by_cases hlt : k < (rfF x).length
 ·obtain ⟨a, c, ha, hc, e0⟩ : ∃ a c : Nat, a < x.evs.length ∧ c < x.evs.length ∧ (rfF x).getD k default = ((a : Int), (c : Int)) := by
   have : (rfF x).getD k default ∈ refPairs x.evs.length (isRf x) := by
    rw [← bM hx.check, List.getD_eq_getElem?_getD, List.getElem?_eq_getElem hlt]; exact List.getElem_mem hlt
   obtain ⟨a, c, h1, h2, _, h3⟩ := vH.1 this
   exact ⟨a, c, h1, h2, h3⟩
  have e1 : ((rfF x).getD (k : Int).toNat default).1 = (a : Int) := by rw [Int.toNat_natCast, e0]
  have e2 : ((rfF x).getD (k : Int).toNat default).2 = (c : Int) := by rw [Int.toNat_natCast, e0]
  have b1 : 0 ≤ ((rfF x).getD (k : Int).toNat default).1 ∧ ((rfF x).getD (k : Int).toNat default).1 < x.evs.length := by omega
  have b2 : 0 ≤ ((rfF x).getD (k : Int).toNat default).2 ∧ ((rfF x).getD (k : Int).toNat default).2 < x.evs.length := by omega
  have htk := wO (rfF x) default k hlt
  have hkey : IsKeyV E.P 73 (.ag ((pairTV ((rfF x).getD k default)).map .d)) (kpL ((rfF x).getD k default)) := by
   rw [e0]; exact nJ (by dsimp only; omega) (by dsimp only; omega) (by dsimp only; omega) (by dsimp only; omega)
  have hidx : hneB x ((rfF x).getD k default) = true → (arrL x).getD (0 + (ppoL x).length + (coF x).length + (frF x).length + (((rfF x).take k).filter (hneB x)).length) default = (rfF x).getD k default ∧ (((rfF x).take k).filter (hneB x)).length < M.length := fun h => by
   obtain ⟨q1, q2⟩ := bX default (hneB x) (rfF x) k hlt h
   rw [hM] at q1 q2
   refine ⟨?_, q2⟩
   rw [← q1]
   unfold arrL
   rw [hM, List.append_assoc, List.append_assoc, show 0 + (ppoL x).length + (coF x).length + (frF x).length + (((rfF x).take k).filter (hneB x)).length = (ppoL x).length + ((coF x).length + ((frF x).length + (((rfF x).take k).filter (hneB x)).length)) by omega, yK, yK, yK]
  by_cases hne : hneB x ((rfF x).getD k default) = true
  ·obtain ⟨i1, i2⟩ := hidx hne
   have hkey2 : IsKeyV E.P 73 (.ag ((pairTV ((rfF x).getD k default)).map .d)) (kpL ((arrL x).getD (0 + (ppoL x).length + (coF x).length + (frF x).length + (((rfF x).take k).filter (hneB x)).length) default)) := by rw [i1]; exact hkey
   have hcnt : (((rfF x).take (k + 1)).filter (hneB x)).length = (((rfF x).take k).filter (hneB x)).length + 1 := by
    rw [htk, List.filter_append, List.filter_cons, if_pos hne]; simp
   have hne' : ¬ (x.evs.getD ((rfF x).getD k default).1.toNat default).hart = (x.evs.getD ((rfF x).getD k default).2.toNat default).hart := by unfold hneB at hne; simpa using hne
   refine uB (aoR fun _ => ?_)
   refine q37 (uC (uA (uB ?_))); refine cnd ?_ ?_
   refine uK fun _ => ?_; try (exfalso; omega)
   refine uF (uA (uB (uG (uB (aoR fun _ => ?_)))))
   refine q17 ?_; refine q33 ?_
   apply vQ; exact rfl
   refine q43 (uC (uA (uB ?_)))
   refine vB (E := E) ?_ (fun _ => ?_); exact rfl
   iterate 2 refine q52 ?_
   refine q50 ?_; refine q52 ?_; refine q50 ?_; refine q30 ?_; refine q52 ?_; refine q50 ?_
   iterate 2 refine q52 ?_
   refine q50 ?_; refine q52 ?_; refine q50 ?_; refine q30 ?_; refine q52 ?_; refine q50 ?_
   apply oR; exact rfl; exact rfl
   refine vX ?_ ?_; (first | ((try dsimp only [wkeys]); decide +kernel) | exact rfl)
   refine uA ?_; refine cnd ?_ ?_
   refine wR (fun _ => ?_); (try (exfalso; omega))
   refine pZ (d := 52) (KT := 73) (IT := 3) lU Tryz.underlying92 Tryz.underlying3 qF rfl rfl rfl rfl rfl (by decide) (by decide) (by decide) rfl rfl hkey2 rfl (fun nn D c hm hJ => ⟨by have := hJ.1; unfold maxLen; omega, hJ.step hm (by omega) _⟩) ?_
   refine vJ ?_; refine uA (aoR fun _ => ?_)
   refine q36 ?_; refine q11 (uC (uA ?_)); rotate_left
   refine wN (fun _ => ?_); (try (exfalso; omega))
   refine uF ?_; refine vJ ?_; refine uA (aoR fun _ => ?_)
   refine q36 ?_; refine q11 (uC (uA ?_)); rotate_left
   refine uL fun _ => ?_; try (exfalso; omega)
   ·exact vI (k + 1) (by omega) (by omega) (uP rfl (uP rfl (uP rfl (uP rfl (uP rfl (uP (by rw [hcnt]; rfl) (vY _))))))) leP
   ·rename_i hh _
    exact (hne' hh).elim
  ·have hcnt : (((rfF x).take (k + 1)).filter (hneB x)).length = (((rfF x).take k).filter (hneB x)).length := by
    rw [htk, List.filter_append, List.filter_cons, if_neg hne]; simp
   have hne' : (x.evs.getD ((rfF x).getD k default).1.toNat default).hart = (x.evs.getD ((rfF x).getD k default).2.toNat default).hart := by unfold hneB at hne; simpa using hne
   refine uB (aoR fun _ => ?_)
   refine q37 (uC (uA (uB ?_))); refine cnd ?_ ?_
   refine uK fun _ => ?_; try (exfalso; omega)
   refine uF (uA (uB (uG (uB (aoR fun _ => ?_)))))
   refine q17 ?_; refine q33 ?_
   apply vQ; exact rfl
   refine q43 (uC (uA (uB ?_)))
   refine vB (E := E) ?_ (fun _ => ?_); exact rfl
   iterate 2 refine q52 ?_
   refine q50 ?_; refine q52 ?_; refine q50 ?_; refine q30 ?_; refine q52 ?_; refine q50 ?_
   iterate 2 refine q52 ?_
   refine q50 ?_; refine q52 ?_; refine q50 ?_; refine q30 ?_; refine q52 ?_; refine q50 ?_
   apply oR; exact rfl; exact rfl
   refine vX ?_ ?_; (first | ((try dsimp only [wkeys]); decide +kernel) | exact rfl)
   refine uA ?_; refine cnd ?_ ?_
   refine wR (fun _ => ?_); (try (exfalso; omega))
   refine vB (E := E) ?_ (fun _ => ?_); exact rfl
   refine q50 ?_
   apply wC; exact rfl; exact rfl; exact rfl; exact Nat.le_of_ble_eq_true rfl
   rotate_left
   refine wN (fun _ => ?_); (try (exfalso; omega))
   refine uF ?_; refine vJ ?_; refine uA (aoR fun _ => ?_)
   refine q36 ?_; refine q11 (uC (uA ?_)); rotate_left
   refine uL fun _ => ?_; try (exfalso; omega)
   ·rename_i hh _
    exact (hh hne').elim
   ·exact vI (k + 1) (by omega) (by omega) (uP rfl (uP rfl (uP rfl (uP rfl (uP rfl (uP (by rw [hcnt]; rfl) (vY _))))))) leP
 ·have hi : 0 + (ppoL x).length + (coF x).length + (frF x).length + (((rfF x).take k).filter (hneB x)).length = (arrL x).length := by
   rw [show k = (rfF x).length by omega, List.take_length, hM]; omega
  have hK' := hK g b
  rw [← hi] at hK'
  refine uB (aoR fun _ => ?_)
  refine q37 (uC (uA (uB ?_))); refine cnd ?_ ?_
  refine uK fun _ => ?_; try (exfalso; omega)
  refine uL fun _ => ?_; try (exfalso; omega)
  refine uS ?_
  iterate 2 refine vE ?_
  refine vT ?_; refine uA (uB (aoR fun _ => ?_))
  refine q23 ?_
  apply uQ; exact rfl; exact .fn _ _ _; exact rfl; exact keysP_p _ rfl
  apply S_callM; exact rfl; exact .fn _ _ _; exact rfl; exact rfl; exact hK'
  refine q12 (uC (uA ?_)); refine uH ?_; rotate_left
  exact fJ rfl rfl
set_option maxRecDepth 100000
section
variable {E : Env} {V J : Nat} {ty : TypeId} {pos : String} {af : Array Edge} {gd : Option (Nat × Bool)} {tm : Tm} {σ : Store}
end
structure RenOf (d : Nat) : Prop where
 on : True
variable {E : Env} {v j : Nat} {ops : Array Oper} {K : Tm → Store → Prop} {KD : List Foot → Tm → Store → Prop} {acc : List Foot} {rest : List Oper} {tm : Tm} {σ : Store} {ty : TypeId} {pos : String} {af : Array Edge} {gd : Option (Nat × Bool)}
end Go.Proofs.YtnkocjkkefnelaaGreat
set_option maxRecDepth 100000
namespace Go.Proofs.YtnkocjkkefnelaaGreat
open Go.RowKit
open Go.RowKit Go.Lib
set_option maxHeartbeats 2000000 in
theorem grow_zero (w : World) : Calls Tryz.prog 90 #[.slice none 0 0, .int .i64 0] w fun e w' => e = .returned (.slice none 0 0) ∧ w' = w := by
 go_enter Tryz.func90, Tryz.ntmps90
 go_wp2
 go_ret
 exact ⟨rfl, rfl⟩
set_option maxHeartbeats 2000000 in
theorem grow_more (n : Nat) (h0 : 0 < n) (hn : n ≤ 65536) (w : World) : Calls Tryz.prog 90 #[.slice none 0 0, .int .i64 n] w fun e w' =>
  ∃ cs : Array Value, cs.size = grownCap w n 0 73 * 2 ∧ e = .returned (.slice (some ⟨w.heap.size, 0, none⟩) 0 (grownCap w n 0 73)) ∧ w' = w.drew.alloc (.cells cs 73) := by
 obtain ⟨i0, hi, jz0, jz1, jz2⟩ := info_parts qK
 have h1 : ¬ ((n : Int) < 0) := by omega
 have h2 : RowKit.wrap64 ((0 : Int) - (0 : Int)) = 0 := by unfold RowKit.wrap64; omega
 have h3 : RowKit.wrap64 ((n : Int) - (0 : Int)) = (n : Int) := by unfold RowKit.wrap64; omega
 have h4 : (n : Int) > 0 := by omega
 have hGn : n ≤ grownCap w n 0 73 := grownCap_ge w _ _ _
 have hrz : ∀ ty, (Builtin.append_ #[51, 3] ty #[.slice none 0 0, .int .i64 (n : Int)]).run Tryz.prog w =
   .ok (.slice (some ⟨w.heap.size, 0, none⟩) n (grownCap w n 0 73)) (w.drew.alloc (.cells ((#[] : Array Value) ++ Builtin.zeroCells (Value.agg #[.int .i64 0, .int .i64 0]).cells n ++ Builtin.zeroCells (Value.agg #[.int .i64 0, .int .i64 0]).cells (grownCap w n 0 73 - n)) 73)) := fun ty => by
  have h := Lib.run_append_grow_zeros w 51 3 ty 73 i0 _ .i64 .i64 Tryz.underlying51 Tryz.underlying3 hi jz0 none 0 0 [] (run_firstCells_none w.drew i0.size 0 0 0) n h0 (by omega) (by omega) (by omega) (by rw [jz2]; omega) (growslice_fits (by omega) (by rw [jz2]; omega))
  simpa using h
 have hcs : ((#[] : Array Value) ++ Builtin.zeroCells (Value.agg #[.int .i64 0, .int .i64 0]).cells n ++ Builtin.zeroCells (Value.agg #[.int .i64 0, .int .i64 0]).cells (grownCap w n 0 73 - n)).size = grownCap w n 0 73 * 2 := by
  simp only [Array.size_append, List.size_toArray, List.length_nil, size_zeroCells, Value.cells, List.length_cons]
  omega
 obtain ⟨CS, hCS⟩ : ∃ CS, ((#[] : Array Value) ++ Builtin.zeroCells (Value.agg #[.int .i64 0, .int .i64 0]).cells n ++ Builtin.zeroCells (Value.agg #[.int .i64 0, .int .i64 0]).cells (grownCap w n 0 73 - n)) = CS := ⟨_, rfl⟩
 rw [hCS] at hcs
 simp only [hCS] at hrz
 obtain ⟨Gc, hG⟩ : ∃ Gc, grownCap w n 0 73 = Gc := ⟨_, rfl⟩
 rw [hG] at hcs hGn ⊢
 simp only [hG] at hrz
 have hG63 : Gc ≤ 9223372036854775807 := by
  have := grownCap_le_maxLen w n 0 73 (by unfold maxLen; omega)
  rw [hG] at this
  unfold maxLen at this
  omega
 clear hCS hG
 go_enter Tryz.func90, Tryz.ntmps90
 go_wp2_with (at_builtin; refine Lib.wpList_append_run _ rfl _ _ _ _ rfl _ _ rfl rfl _ _ (hrz _) ?_)
 all_goals (go_ret; exact ⟨CS, hcs, rfl, rfl⟩)
theorem qL (n : Nat) (hn : n ≤ 65536) : Own E.P 90 [.d (.c (.slice none 0 0)), .int .i64 n] 2 [] := by
 refine ⟨⟨_, Tryz.func90, by decide, rfl⟩, fun G w vs N hv hw => ?_⟩
 rw [RepOL] at hv
 obtain ⟨x1, us, rfl, h1, hv⟩ := hv
 rw [RepOL] at hv
 obtain ⟨x2, us, rfl, h2, hv⟩ := hv
 rw [RepOL] at hv
 subst hv
 have e1 := vZ h1
 have e2 := vZ h2
 subst e1 e2
 obtain ⟨v, hv, hf⟩ := hw.free
 rcases Nat.eq_zero_or_pos n with h0 | h0
 ·subst h0
  refine (grow_zero w).mono ?_
  rintro e w' ⟨rfl, rfl⟩
  exact ⟨_, _, .os 0 (v, 0) 2 0, _, rfl, ⟨0, (v, 0), rfl, Store.put_self _ _ _⟩, Gh.name_le G none (hf 0 0), by rw [RepO]; exact Or.inr ⟨Gh.name_self _ _ _ _, rfl, rfl⟩, hw.phantom 0 hv (hf 0 0) 2⟩
 ·refine (grow_more n h0 hn w).mono ?_
  rintro e w' ⟨cs, hcs, rfl, rfl⟩
  have hc := grownCap_le_maxLen w n 0 73 (by unfold maxLen; omega)
  have hw2 := (hw.drawn (w.drawn + 1)).alloc 0 hv (hf 0 0) cs 73 ⟨2, []⟩ (by simp) (fun i row hi => by simp at hi)
  exact ⟨_, _, .os 0 (v, 0) 2 0, _, rfl, ⟨0, (v, 0), rfl, Store.put_self _ _ _⟩, Gh.name_le G _ (hf 0 0), by rw [RepO]; exact Or.inl ⟨_, _, Gh.name_self _ _ _ _, rfl, Nat.zero_le _, hcs, hc⟩, hw2⟩
theorem kS (ls : List (List (Int × Int))) (k : Nat) (h : k < ls.length) : (ls.take (k + 1)).flatten = (ls.take k).flatten ++ ls.getD k default := by
 rw [wO ls default k h, List.flatten_append]; simp
theorem gS (ls : List (List (Int × Int))) (k : Nat) : ((ls.take k).flatten).length ≤ ls.flatten.length := by
 have h : ls = ls.take k ++ ls.drop k := (List.take_append_drop k ls).symm
 have := congrArg (fun l : List (List (Int × Int)) => l.flatten.length) h
 simp only [List.flatten_append, List.length_append] at this
 omega
def catRow (l : List (Int × Int)) : List TV := [pairsTV l]
set_option maxHeartbeats 4000000 in
theorem concat_o (ls : List (List (Int × Int))) (hl : ls.flatten.length ≤ 65536) (hn : ls.length ≤ 64) : Own E.P 60 [.d (.sl 1 (ls.map catRow))] 2 (ls.flatten.map pairO') := by
 have hG := fun n hn => qL n hn
 refine fnA Tryz.func60 Tryz.ntmps60 ?_
 refine uB (aoR fun _ => ?_)
 refine q51 (uC (uA (uB (aoR fun _ => ?_))))
 refine q12 (uC (uA ?_))
 iterate 2 refine uB ?_
 refine aoR fun _ => ?_; refine q11 ?_; refine q13 ?_; refine q11 (uC (uA (uG ?_)))
 rotate_left
 refine uZ (X := Nat) (fun k => tmL [(0, .d (.sl 1 (ls.map catRow))), (3, .int .i64 ((ls.take k).flatten).length), (9, .d (.sl 1 (ls.map catRow))), (10, .int .i64 ls.length), (11, .int .i64 k)]) (fun _ => stL []) (fun k => k ≤ ls.length) (fun k => ls.length - k) 0 (Nat.zero_le _) (by repeat' (first | exact vY _ | exact vS _ | refine uP rfl ?_ | refine vN rfl ?_ | (refine vD rfl ?_ ?_; (simp)) | (refine vA rfl ?_ ?_; (simp)) | (refine vG rfl ?_ ?_; (simp)))) leP ?_
 intro k hk
 have hfl := gS ls k
 by_cases hlt : k < ls.length
 ·have hfl1 := gS ls (k + 1)
  have hft := congrArg List.length (kS ls k hlt)
  rw [List.length_append] at hft
  have hA : ((ls.take k).flatten).length + (ls.getD (k : Int).toNat default).length ≤ 65536 := by rw [Int.toNat_natCast]; omega
  refine uB (aoR fun _ => ?_)
  refine q37 (uC (uA (uB ?_))); refine cnd ?_ ?_
  refine uK fun _ => ?_; try (exfalso; omega)
  refine uF (uA (uB (uG (uB (aoR fun _ => ?_)))))
  refine q17 ?_; refine q23 ?_; refine q12 (uC (uA (uB (aoR fun _ => ?_))))
  iterate 2 refine q11 ?_
  refine q13 ?_; refine q36 ?_; refine q12 (uC (uA (uB (aoR fun _ => ?_))))
  refine q11 ?_; refine q37 (uC (uA ?_)); refine cnd ?_ ?_
  refine uK fun _ => ?_; try (exfalso; omega)
  refine uL fun _ => ?_; try (exfalso; omega)
  refine uF ?_; refine vJ ?_; refine uA (aoR fun _ => ?_)
  refine q36 ?_; refine q11 (uC (uA ?_)); rotate_left
  refine uL fun _ => ?_; try (exfalso; omega)
  refine vI (k + 1) (by omega) (by omega) ?_ leP
  refine uP rfl (uP ?_ (uP rfl (uP rfl (uP rfl (vY _)))))
  show some (OV.int .i64 _) = some (OV.int .i64 _)
  rw [hft]; rfl
 ·have hkl : k = ls.length := by omega
  subst hkl
  rw [List.take_length]
  refine uB (aoR fun _ => ?_)
  refine q37 (uC (uA (uB ?_))); refine cnd ?_ ?_
  refine uK fun _ => ?_; try (exfalso; omega)
  refine uL fun _ => ?_; try (exfalso; omega)
  refine uS ?_
  iterate 2 refine vE ?_
  refine vT ?_; refine uA (uB (aoR fun _ => ?_))
  refine q11 ?_
  apply eX; exact rfl; exact .fn _ _ _; exact rfl; exact qL _ hl
  apply xU; exact rfl; exact rfl
  refine uC (uA ?_)
  iterate 2 refine uB ?_
  refine aoR fun _ => ?_; refine q11 ?_; refine q13 ?_; refine q11 (uC (uA (uG ?_)))
  rotate_left
  rename_i v24 _
  refine uZ (X := Nat × Stamp) (fun p => tmL [(6, .os 6 p.2 2 ((ls.take p.1).flatten).length), (25, .d (.sl 1 (ls.map catRow))), (26, .int .i64 ls.length), (27, .int .i64 p.1)]) (fun p => stL [(6, (p.2, ⟨2, ((ls.take p.1).flatten).map pairO'⟩))]) (fun p => p.1 ≤ ls.length) (fun p => ls.length - p.1) (0, (v24, 2)) (Nat.zero_le _) (by repeat' (first | exact vY _ | exact vS _ | refine uP rfl ?_ | refine vN rfl ?_ | (refine vD rfl ?_ ?_; (simp)) | (refine vA rfl ?_ ?_; (simp)) | (refine vG rfl ?_ ?_; (simp)))) (by repeat' (first | exact vY _ | exact vS _ | refine uP rfl ?_ | refine vN rfl ?_ | (refine vD rfl ?_ ?_; (simp)) | (refine vA rfl ?_ ?_; (simp)) | (refine vG rfl ?_ ?_; (simp)))) ?_
  rintro ⟨k, τ⟩ hk
  dsimp only at hk ⊢
  have hfl := gS ls k
  by_cases hlt : k < ls.length
  ·have hfl1 := gS ls (k + 1)
   have hft0 := kS ls k hlt
   have hft := congrArg List.length hft0
   rw [List.length_append] at hft
   have hA : ((ls.take k).flatten).length + (ls.getD (k : Int).toNat default).length ≤ 65536 := by rw [Int.toNat_natCast]; omega
   refine uB (aoR fun _ => ?_)
   refine q37 (uC (uA (uB ?_))); refine cnd ?_ ?_
   refine uK fun _ => ?_; try (exfalso; omega)
   refine uF (uA (uB (uG (uB (aoR fun _ => ?_)))))
   refine q17 ?_; refine q23 ?_; refine q12 (uC (uA (aoR fun _ => ?_)))
   iterate 2 refine q11 ?_
   refine q19 ?_
   apply xU; exact rfl; exact rfl
   refine uC ?_; refine vJ ?_; refine uA (aoR fun _ => ?_)
   refine q36 ?_; refine q11 (uC (uA ?_)); rotate_left
   refine uL fun _ => ?_; try (exfalso; omega)
   rename_i v33 _
   refine vI (k + 1, (v33, 3)) (by dsimp only; omega) (by dsimp only; omega) ?_ ?_
   ·refine uP ?_ (uP rfl (uP rfl (uP rfl (vY _))))
    show some (OV.os 6 _ 2 _) = some (OV.os 6 _ 2 _)
    rw [hft, List.length_map, List.length_map, List.length_map]; rfl
   ·refine vN ?_ (vS _)
    show some (_, Row.mk 2 _) = some (_, Row.mk 2 _)
    rw [hft0, List.map_append, List.map_map]; rfl
  ·have hkl : k = ls.length := by omega
   subst hkl
   rw [List.take_length]
   refine uB (aoR fun _ => ?_)
   refine q37 (uC (uA (uB ?_))); refine cnd ?_ ?_
   refine uK fun _ => ?_; try (exfalso; omega)
   refine uL fun _ => ?_; try (exfalso; omega)
   refine uS ?_
   iterate 2 refine vE ?_
   refine vT ?_; refine uA (uB (aoR fun _ => ?_))
   refine q11 ?_
   apply xU; exact rfl; exact rfl
   refine uC (uA ?_); refine uH ?_; rotate_left
   refine wY (d := 2) rfl rfl rfl ?_
   first | exact (List.length_map ..).symm | exact List.length_map ..
set_option maxRecDepth 100000
def cohG (x : Ex) (p : Int × Int) : Bool := !decide ((x.evs.getD p.1.toNat default).kind = 4) && !decide ((x.evs.getD p.2.toNat default).kind = 4) && decide ((x.evs.getD p.1.toNat default).addr = (x.evs.getD p.2.toNat default).addr)
def cohL (x : Ex) : List (Int × Int) := refPairs x.evs.length (isRf x) ++ refPairs x.evs.length (isCoB x) ++ refPairs x.evs.length (isFrB x)
def rcohL (x : Ex) : List (Int × Int) := cohL x ++ (refPairs x.evs.length (isPo x)).filter (cohG x)
theorem yX {n : Nat} {f : Nat → Nat → Bool} {p : Int × Int} (h : p ∈ refPairs n f) : outB n p = false := by
 obtain ⟨a, b, h1, h2, _, rfl⟩ := vH.1 h
 unfold outB
 simp only [Bool.or_eq_false_iff, decide_eq_false_iff_not]
 omega
theorem kE (x : Ex) : (rcohL x).any (outB x.evs.length) = false := by
 rw [List.any_eq_false]
 intro p hp
 have : outB x.evs.length p = false := by
  unfold rcohL cohL at hp
  simp only [List.mem_append] at hp
  rcases hp with ((h | h) | h) | h
  ·exact yX h
  ·exact yX h
  ·exact yX h
  ·exact yX (List.mem_filter.1 h).1
 rw [this]; decide
namespace Ren
end Ren
set_option maxRecDepth 100000
def ratR (x : Ex) (n : Nat) : Int := if (x.evs.getD n default).kind = 3 then (n : Int) else pairedI x n
def ratM (x : Ex) (n f m : Nat) : Bool := !decide ((x.evs.getD m default).hart = (x.evs.getD n default).hart) && isCoB x f m && isCoB x m n
def ratEv (x : Ex) (n : Nat) : Bool := decide (ratR x n < 0) || (List.range x.evs.length).all fun m => !ratM x n (x.from_.getD (ratR x n).toNat 0).toNat m
def ratB (x : Ex) : Bool := (List.range x.evs.length).all (ratEv x)
theorem kI {es : List Ev} (hb : ∀ i, (es.getD i default).rsv = true → (es.getD i default).kind = 1 ∨ (es.getD i default).kind = 2) (f : Ev) : ∀ k, 0 ≤ pairTo es f k → (es.getD (pairTo es f k).toNat default).ldB = true
 | 0, h => by unfold pairTo at h; omega
 | k + 1, h => by
  have ih := kI hb f k
  have hq := hb k
  unfold pairTo at h ⊢
  by_cases h1 : (es.getD k default).hart = f.hart
  ·rw [if_pos h1] at h ⊢
   by_cases h2 : (es.getD k default).rsv = true
   ·rw [if_pos h2] at h ⊢
    by_cases h3 : (es.getD k default).kind = 2
    ·rw [if_pos h3] at h; omega
    ·rw [if_neg h3] at h ⊢
     by_cases h4 : (es.getD k default).addr = f.addr
     ·rw [if_pos h4] at h ⊢
      rw [Int.toNat_natCast]
      unfold Ev.ldB
      have := (hq h2).resolve_right h3
      rw [this]; rfl
     ·rw [if_neg h4] at h; omega
   ·rw [if_neg h2] at h ⊢; exact ih h
  ·rw [if_neg h1] at h; omega
theorem pN {x : Ex} (hx : x.rel) {n : Nat} (hn : n < x.evs.length) (h : 0 ≤ ratR x n) : ratR x n ≤ n ∧ 0 ≤ x.from_.getD (ratR x n).toNat 0 ∧ x.from_.getD (ratR x n).toNat 0 < x.evs.length := by
 have hok := fA hx.fit.1 hx.check
 unfold ratR at h ⊢
 split
 ·rename_i h3
  refine ⟨Int.le_refl _, ?_⟩
  rw [Int.toNat_natCast]
  exact hx.src n hn (by unfold Ev.ldB; rw [h3]; rfl)
 ·rename_i h3
  rw [if_neg h3] at h
  unfold pairedI at h ⊢
  split
  ·rename_i h4
   rw [if_pos h4] at h
   have hb := fD x.evs (x.evs.getD n default) n
   refine ⟨by omega, hx.src _ (by omega) (kI hok.rsv _ _ h)⟩
  ·rename_i h4
   rw [if_neg h4] at h; omega
set_option maxHeartbeats 4000000 in
theorem ratomic_p (x : Ex) (hx : x.rel) : Pure E.P 20 [exOV x] (.bool (ratB x)) := by
 have f1 : Frozen 1 := ⟨trivial⟩
 have hl := hx.len
 have hlf := hx.from_
 have hok := fA hx.fit.1 hx.check
 refine fnA Tryz.func20 Tryz.ntmps20 ?_
 refine uB (aoR fun _ => ?_)
 refine q34 ?_; refine q12 (uC (uA ?_))
 iterate 2 refine uB ?_
 refine aoR fun _ => ?_; refine q12 (uC (uA (uG ?_)))
 rotate_left
 refine uZ (X := Nat) (fun n => tmL [(1, .d (.pt (exRow x) 0)), (3, .int .i64 n)]) (fun _ => stL []) (fun n => n ≤ x.evs.length ∧ ∀ j, j < n → ratEv x j = true) (fun n => x.evs.length - n) 0 ⟨Nat.zero_le _, fun j hj => by omega⟩ leP leP ?_
 rintro n ⟨hn, hall⟩
 by_cases hlt : n < x.evs.length
 rotate_left
 ·iterate 2 refine uB ?_
  refine aoR fun _ => ?_; refine q11 ?_; refine q32 ?_; refine q23 ?_; refine q13 ?_; refine q37 (uC (uA ?_))
  refine cnd ?_ ?_
  refine uK fun _ => ?_; try (exfalso; omega)
  refine uL fun _ => ?_; try (exfalso; omega)
  refine uS ?_
  iterate 2 refine vE ?_
  refine vT ?_; refine uA (uB (aoR fun _ => ?_))
  refine q12 (uC (uA ?_)); refine uH ?_; rotate_left
  refine uX rfl ?_
  unfold ratB
  refine (List.all_eq_true.2 fun j hj => hall j ?_).symm
  have := List.mem_range.1 hj
  omega
 have hnext : ratEv x n = true → ∀ j, j < n + 1 → ratEv x j = true := fun h j hj => by
  rcases Nat.lt_or_ge j n with e | e
  ·exact hall j e
  ·rw [show j = n by omega]; exact h
 have hP := kB x hok n hlt
 have hbd := fun h => pN hx hlt h
 by_cases hk : (x.evs.getD n default).kind = 3
 ·have hk' : (x.evs.getD (n : Int).toNat default).kind = 3 := hk
  have hR : ratR x n = (n : Int) := by unfold ratR; rw [if_pos hk]
  have hR0 : (0 : Int) ≤ (n : Int) := by omega
  rw [hR] at hbd
  iterate 2 refine uB ?_
  refine aoR fun _ => ?_; refine q11 ?_; refine q32 ?_; refine q23 ?_; refine q13 ?_; refine q37 (uC (uA ?_))
  refine cnd ?_ ?_
  refine uK fun _ => ?_; try (exfalso; omega)
  refine uF (uA (uB (uG (uB (aoR fun _ => ?_)))))
  refine q33 ?_; refine q11 ?_
  apply uQ; exact rfl; exact .fn _ _ _; exact rfl; exact hP
  refine q12 (uC (uA ?_))
  iterate 2 refine uB ?_
  refine aoR fun _ => ?_; refine q32 ?_; refine q23 ?_; refine q11 ?_; refine q17 ?_; refine q32 ?_; refine q23 ?_; refine q46 (uC (uA ?_))
  refine cnd ?_ ?_
  refine uK fun _ => ?_; try (exfalso; omega)
  refine aoR fun _ => ?_; refine q11 ?_; refine q12 (uC (uA ?_))
  iterate 2 refine uB ?_
  refine aoR fun _ => ?_; refine q11 ?_; refine q37 (uC (uA ?_))
  refine cnd ?_ ?_
  refine uK fun _ => ?_; try (exfalso; omega)
  refine uL fun _ => ?_; try (exfalso; omega)
  refine uF (uA (uB (aoR fun _ => ?_)))
  refine q12 (uC (uA (uG ?_))); rotate_left
  iterate 2 refine uL fun _ => ?_; try (exfalso; omega)
  obtain ⟨hb1, hb2, hb3⟩ := hbd hR0
  obtain ⟨f, hf⟩ : ∃ f : Nat, x.from_.getD (((n : Nat) : Int)).toNat 0 = (f : Int) := ⟨_, (Int.toNat_of_nonneg hb2).symm⟩
  have hE : ratEv x n = (List.range x.evs.length).all fun m => !ratM x n f m := by
   unfold ratEv
   rw [hR, decide_eq_false (by omega), Bool.false_or, hf, Int.toNat_natCast]
  have hrf : 0 ≤ ((n : Nat) : Int) ∧ ((n : Nat) : Int) < x.from_.length := by omega
  refine uZ (X := Nat) (fun m => tmL [(1, .d (.pt (exRow x) 0)), (3, .int .i64 n), (4, .int .i64 (((n : Nat) : Int))), (5, .int .i64 m)]) (fun _ => stL []) (fun m => m ≤ x.evs.length ∧ ∀ j, j < m → ratM x n f j = false) (fun m => x.evs.length - m) 0 ⟨Nat.zero_le _, fun j hj => by omega⟩ leP leP ?_
  rintro m ⟨hm, hms⟩
  by_cases hltm : m < x.evs.length
  rotate_left
  ·iterate 2 refine uB ?_
   refine aoR fun _ => ?_; refine q11 ?_; refine q32 ?_; refine q23 ?_; refine q13 ?_; refine q37 (uC (uA ?_))
   refine cnd ?_ ?_
   refine uK fun _ => ?_; try (exfalso; omega)
   refine uL fun _ => ?_; try (exfalso; omega)
   refine uS ?_
   iterate 2 refine vE ?_
   refine vT ?_; refine vJ ?_; refine uA (aoR fun _ => ?_)
   refine q11 ?_; refine q36 ?_; refine q12 (uC (uA ?_)); rotate_left
   refine vI (n + 1) ⟨by omega, hnext ?_⟩ (by omega) leP leP
   rw [hE, List.all_eq_true]
   intro j hj
   have := List.mem_range.1 hj
   rw [hms j (by omega)]; rfl
  have c1 := dV x (by omega) hx.ord hx.rows f m (by omega) hltm
  have c2 := dV x (by omega) hx.ord hx.rows m n hltm hlt
  rw [← hf] at c1
  iterate 2 refine uB ?_
  refine aoR fun _ => ?_; refine q11 ?_; refine q32 ?_; refine q23 ?_; refine q13 ?_; refine q37 (uC (uA ?_))
  refine cnd ?_ ?_
  refine uK fun _ => ?_; try (exfalso; omega)
  refine uF (uA (uB (uG (uB ?_))))
  refine vB (E := E) ?_ (fun _ => ?_); exact rfl
  refine q52 ?_; refine q50 ?_; refine q38 ?_; refine q30 ?_; refine q52 ?_; refine q50 ?_; refine q52 ?_; refine q50 ?_; refine q38 ?_; refine q30 ?_; refine q52 ?_; refine q50 ?_
  apply oR; exact rfl; exact rfl
  refine q38 ?_
  apply dpT; exact rfl
  intro hc_; refine q47
  apply dpT; exact rfl
  intro hc_; refine q8
  apply dpT; exact rfl
  intro hc_; refine q6
  apply dpT; exact rfl
  intro hc_; refine q1
  apply dpT; exact rfl
  intro hc_
  have hp_ := hc_; try simp only [nrm] at hp_
  refine q5
  apply dpT; exact rfl
  intro hc_; refine q6
  apply dpT; exact rfl
  intro hc_; refine q1
  apply dpT; exact rfl
  intro hc_
  have hp_ := hc_; try simp only [nrm] at hp_
  apply vK; (exact EvM.plain rfl rfl); exact .fn _ _ _; exact wD; (exact c1)
  refine q9 ?_; refine q38 ?_
  apply dpT; exact rfl
  intro hc_; refine q47
  apply dpT; exact rfl
  intro hc_; refine q1
  apply dpT; exact rfl
  intro hc_; refine q1
  apply dpT; exact rfl
  intro hc_
  have hp_ := hc_; try simp only [nrm] at hp_
  apply vK; (exact EvM.plain rfl rfl); exact .fn _ _ _; exact wD; (exact c2)
  refine q9 ?_
  refine vX ?_ ?_; (first | ((try dsimp only [wkeys]); decide +kernel) | exact rfl)
  refine uA ?_; refine cnd ?_ ?_
  iterate 2 refine xH ?_
  refine wR (fun _ => ?_); (try (exfalso; omega))
  iterate 2 (refine xB (fun _ => ?_))
  refine uB (aoR fun _ => ?_)
  refine q12 (uC (uA ?_)); refine uH ?_; refine vL ?_
  iterate 2 refine uO ?_
  iterate 2 refine vL ?_
  iterate 2 refine uO ?_
  refine vL ?_; refine uO ?_; rotate_left
  refine wS (fun hc_ => ?_); (try simp only [nrm] at hc_)
  refine uF ?_; refine vJ ?_; refine uA (aoR fun _ => ?_)
  refine q11 ?_; refine q36 ?_; refine q12 (uC (uA ?_)); rotate_left
  refine uL fun _ => ?_; try (exfalso; omega)
  ·rename_i g1 g2 g3 _
   have hM : ratM x n f m = true := by
    have g1' : ¬ (x.evs.getD m default).hart = (x.evs.getD n default).hart := g1
    unfold ratM
    rw [decide_eq_false g1', g2, g3]; rfl
   refine uX rfl ?_
   have he : ratEv x n = false := by
    rw [hE, List.all_eq_false]
    exact ⟨m, List.mem_range.2 hltm, by rw [hM]; decide⟩
   unfold ratB
   refine (List.all_eq_false.2 ⟨n, List.mem_range.2 hlt, by rw [he]; decide⟩).symm
  ·refine vI (m + 1) ⟨by omega, fun j hj => ?_⟩ (by omega) leP leP
   rcases Nat.lt_or_ge j m with e | e
   ·exact hms j e
   ·rw [show j = m by omega]
    have h9 := hc_
    simp only [Int.toNat_natCast] at h9
    cases hM : ratM x n f m with
    | false => rfl
    | true =>
     exfalso
     unfold ratM at hM
     simp only [Bool.and_eq_true, Bool.not_eq_true', decide_eq_false_iff_not] at hM
     obtain ⟨⟨g1, g2⟩, g3⟩ := hM
     rcases h9 with (h | h) | h
     ·exact g1 h
     ·rw [g2] at h; exact absurd h (by decide)
     ·rw [g3] at h; exact absurd h (by decide)
 ·have hk' : ¬ (x.evs.getD (n : Int).toNat default).kind = 3 := hk
  have hR : ratR x n = pairedI x n := by unfold ratR; rw [if_neg hk]
  by_cases hR0 : 0 ≤ pairedI x n
  ·rw [hR] at hbd
   iterate 2 refine uB ?_
   refine aoR fun _ => ?_; refine q11 ?_; refine q32 ?_; refine q23 ?_; refine q13 ?_; refine q37 (uC (uA ?_))
   refine cnd ?_ ?_
   refine uK fun _ => ?_; try (exfalso; omega)
   refine uF (uA (uB (uG (uB (aoR fun _ => ?_)))))
   refine q33 ?_; refine q11 ?_
   apply uQ; exact rfl; exact .fn _ _ _; exact rfl; exact hP
   refine q12 (uC (uA ?_))
   iterate 2 refine uB ?_
   refine aoR fun _ => ?_; refine q32 ?_; refine q23 ?_; refine q11 ?_; refine q17 ?_; refine q32 ?_; refine q23 ?_; refine q46 (uC (uA ?_))
   refine cnd ?_ ?_
   refine uK fun _ => ?_; try (exfalso; omega)
   refine uL fun _ => ?_; try (exfalso; omega)
   refine uF (uA ?_)
   iterate 2 refine uB ?_
   refine aoR fun _ => ?_; refine q11 ?_; refine q37 (uC (uA ?_))
   refine cnd ?_ ?_
   refine uK fun _ => ?_; try (exfalso; omega)
   refine uL fun _ => ?_; try (exfalso; omega)
   refine uF (uA (uB (aoR fun _ => ?_)))
   refine q12 (uC (uA (uG ?_))); rotate_left
   refine uL fun _ => ?_; try (exfalso; omega)
   obtain ⟨hb1, hb2, hb3⟩ := hbd hR0
   obtain ⟨f, hf⟩ : ∃ f : Nat, x.from_.getD (pairedI x n).toNat 0 = (f : Int) := ⟨_, (Int.toNat_of_nonneg hb2).symm⟩
   have hE : ratEv x n = (List.range x.evs.length).all fun m => !ratM x n f m := by
    unfold ratEv
    rw [hR, decide_eq_false (by omega), Bool.false_or, hf, Int.toNat_natCast]
   have hrf : 0 ≤ pairedI x n ∧ pairedI x n < x.from_.length := by omega
   refine uZ (X := Nat) (fun m => tmL [(1, .d (.pt (exRow x) 0)), (3, .int .i64 n), (4, .int .i64 (pairedI x n)), (5, .int .i64 m)]) (fun _ => stL []) (fun m => m ≤ x.evs.length ∧ ∀ j, j < m → ratM x n f j = false) (fun m => x.evs.length - m) 0 ⟨Nat.zero_le _, fun j hj => by omega⟩ leP leP ?_
   rintro m ⟨hm, hms⟩
   by_cases hltm : m < x.evs.length
   rotate_left
   ·iterate 2 refine uB ?_
    refine aoR fun _ => ?_; refine q11 ?_; refine q32 ?_; refine q23 ?_; refine q13 ?_; refine q37 (uC (uA ?_))
    refine cnd ?_ ?_
    refine uK fun _ => ?_; try (exfalso; omega)
    refine uL fun _ => ?_; try (exfalso; omega)
    refine uS ?_
    iterate 2 refine vE ?_
    refine vT ?_; refine vJ ?_; refine uA (aoR fun _ => ?_)
    refine q11 ?_; refine q36 ?_; refine q12 (uC (uA ?_)); rotate_left
    refine vI (n + 1) ⟨by omega, hnext ?_⟩ (by omega) leP leP
    rw [hE, List.all_eq_true]
    intro j hj
    have := List.mem_range.1 hj
    rw [hms j (by omega)]; rfl
   have c1 := dV x (by omega) hx.ord hx.rows f m (by omega) hltm
   have c2 := dV x (by omega) hx.ord hx.rows m n hltm hlt
   rw [← hf] at c1
   iterate 2 refine uB ?_
   refine aoR fun _ => ?_; refine q11 ?_; refine q32 ?_; refine q23 ?_; refine q13 ?_; refine q37 (uC (uA ?_))
   refine cnd ?_ ?_
   refine uK fun _ => ?_; try (exfalso; omega)
   refine uF (uA (uB (uG (uB ?_))))
   refine vB (E := E) ?_ (fun _ => ?_); exact rfl
   refine q52 ?_; refine q50 ?_; refine q38 ?_; refine q30 ?_; refine q52 ?_; refine q50 ?_; refine q52 ?_; refine q50 ?_; refine q38 ?_; refine q30 ?_; refine q52 ?_; refine q50 ?_
   apply oR; exact rfl; exact rfl
   refine q38 ?_
   apply dpT; exact rfl
   intro hc_; refine q47
   apply dpT; exact rfl
   intro hc_; refine q8
   apply dpT; exact rfl
   intro hc_; refine q6
   apply dpT; exact rfl
   intro hc_; refine q1
   apply dpT; exact rfl
   intro hc_
   have hp_ := hc_; try simp only [nrm] at hp_
   refine q5
   apply dpT; exact rfl
   intro hc_; refine q6
   apply dpT; exact rfl
   intro hc_; refine q1
   apply dpT; exact rfl
   intro hc_
   have hp_ := hc_; try simp only [nrm] at hp_
   apply vK; (exact EvM.plain rfl rfl); exact .fn _ _ _; exact wD; (exact c1)
   refine q9 ?_; refine q38 ?_
   apply dpT; exact rfl
   intro hc_; refine q47
   apply dpT; exact rfl
   intro hc_; refine q1
   apply dpT; exact rfl
   intro hc_; refine q1
   apply dpT; exact rfl
   intro hc_
   have hp_ := hc_; try simp only [nrm] at hp_
   apply vK; (exact EvM.plain rfl rfl); exact .fn _ _ _; exact wD; (exact c2)
   refine q9 ?_
   refine vX ?_ ?_; (first | ((try dsimp only [wkeys]); decide +kernel) | exact rfl)
   refine uA ?_; refine cnd ?_ ?_
   iterate 2 refine xH ?_
   refine wR (fun _ => ?_); (try (exfalso; omega))
   iterate 2 (refine xB (fun _ => ?_))
   refine uB (aoR fun _ => ?_)
   refine q12 (uC (uA ?_)); refine uH ?_; refine vL ?_
   iterate 2 refine uO ?_
   iterate 2 refine vL ?_
   iterate 2 refine uO ?_
   refine vL ?_; refine uO ?_; rotate_left
   refine wS (fun hc_ => ?_); (try simp only [nrm] at hc_)
   refine uF ?_; refine vJ ?_; refine uA (aoR fun _ => ?_)
   refine q11 ?_; refine q36 ?_; refine q12 (uC (uA ?_)); rotate_left
   refine uL fun _ => ?_; try (exfalso; omega)
   ·rename_i g1 g2 g3 _
    have hM : ratM x n f m = true := by
     have g1' : ¬ (x.evs.getD m default).hart = (x.evs.getD n default).hart := g1
     unfold ratM
     rw [decide_eq_false g1', g2, g3]; rfl
    refine uX rfl ?_
    have he : ratEv x n = false := by
     rw [hE, List.all_eq_false]
     exact ⟨m, List.mem_range.2 hltm, by rw [hM]; decide⟩
    unfold ratB
    refine (List.all_eq_false.2 ⟨n, List.mem_range.2 hlt, by rw [he]; decide⟩).symm
   ·refine vI (m + 1) ⟨by omega, fun j hj => ?_⟩ (by omega) leP leP
    rcases Nat.lt_or_ge j m with e | e
    ·exact hms j e
    ·rw [show j = m by omega]
     have h9 := hc_
     simp only [Int.toNat_natCast] at h9
     cases hM : ratM x n f m with
     | false => rfl
     | true =>
      exfalso
      unfold ratM at hM
      simp only [Bool.and_eq_true, Bool.not_eq_true', decide_eq_false_iff_not] at hM
      obtain ⟨⟨g1, g2⟩, g3⟩ := hM
      rcases h9 with (h | h) | h
      ·exact g1 h
      ·rw [g2] at h; exact absurd h (by decide)
      ·rw [g3] at h; exact absurd h (by decide)
  ·iterate 2 refine uB ?_
   refine aoR fun _ => ?_; refine q11 ?_; refine q32 ?_; refine q23 ?_; refine q13 ?_; refine q37 (uC (uA ?_))
   refine cnd ?_ ?_
   refine uK fun _ => ?_; try (exfalso; omega)
   refine uF (uA (uB (uG (uB (aoR fun _ => ?_)))))
   refine q33 ?_; refine q11 ?_
   apply uQ; exact rfl; exact .fn _ _ _; exact rfl; exact hP
   refine q12 (uC (uA ?_))
   iterate 2 refine uB ?_
   refine aoR fun _ => ?_; refine q32 ?_; refine q23 ?_; refine q11 ?_; refine q17 ?_; refine q32 ?_; refine q23 ?_; refine q46 (uC (uA ?_))
   refine cnd ?_ ?_
   refine uK fun _ => ?_; try (exfalso; omega)
   refine uL fun _ => ?_; try (exfalso; omega)
   refine uF (uA ?_)
   iterate 2 refine uB ?_
   refine aoR fun _ => ?_; refine q11 ?_; refine q37 (uC (uA ?_))
   refine cnd ?_ ?_
   refine uK fun _ => ?_; try (exfalso; omega)
   refine uS ?_; refine vE ?_; refine vT ?_; refine uA (aoR fun _ => ?_)
   refine q11 ?_; refine q36 ?_; refine q12 (uC (uA ?_)); rotate_left
   iterate 2 refine uL fun _ => ?_; try (exfalso; omega)
   refine vI (n + 1) ⟨by omega, hnext ?_⟩ (by omega) leP leP
   unfold ratEv
   rw [hR, decide_eq_true (by omega), Bool.true_or]
theorem nW {l : List Int} {a k p : Nat} (hp : p < ((l.drop a).take k).length) : ((l.drop a).take k).getD p 0 = l.getD (a + p) 0 ∧ a + p < l.length ∧ p < k := by
 have h1 : p < k ∧ a + p < l.length := by
  rw [List.length_take, List.length_drop] at hp; omega
 refine ⟨?_, h1.2, h1.1⟩
 rw [List.getD_eq_getElem?_getD, List.getElem?_take_of_lt h1.1, List.getElem?_drop, ← List.getD_eq_getElem?_getD]
theorem qA {l : List Int} {a : Int} (h : 0 ≤ atI l a) : l.getD (atI l a).toNat 0 = a ∧ (atI l a).toNat < l.length := by
 have hm : a ∈ l := by
  rcases Classical.em (a ∈ l) with hm | hm
  ·exact hm
  ·have : atI l a = -1 := fT hm
   omega
 have main : ∀ (l : List Int) (k : Nat), a ∈ l → ∃ i, i < l.length ∧ l.getD i 0 = a ∧ atFrom a l k = ((k + i : Nat) : Int) := by
  intro l
  induction l with
  | nil => intro k hm; cases hm
  | cons b r ih =>
   intro k hm
   unfold atFrom
   by_cases e : b = a
   ·rw [if_pos e]
    exact ⟨0, by simp, e, by simp⟩
   ·rw [if_neg e]
    obtain ⟨i, h1, h2, h3⟩ := ih (k + 1) ((List.mem_cons.1 hm).resolve_left fun h => e h.symm)
    exact ⟨i + 1, by simpa using h1, h2, by rw [h3]; congr 1; omega⟩
 obtain ⟨i, h1, h2, h3⟩ := main l 0 hm
 have e : atI l a = i := by unfold atI; rw [h3]; simp
 rw [e, Int.toNat_natCast]
 exact ⟨h2, h1⟩
theorem mD {l : List Int} (hn : l.Nodup) {i : Nat} (hi : i < l.length) {a : Int} (e : l.getD i 0 = a) : atI l a = i := by
 have := dH (k := 0) hn hi e
 rw [Nat.zero_add] at this
 exact this
section
variable {x : Ex}
theorem reads_rat (hx : x.rel) {n : Nat} (hn : n < x.evs.length) : (readsR x n).2 = decide (0 ≤ ratR x n) ∧ ((readsR x n).2 = true → (readsR x n).1 = ratR x n) := by
 unfold readsR ratR
 by_cases hk : (x.evs.getD n default).kind = 3
 ·rw [if_pos hk, if_pos hk]
  exact ⟨(decide_eq_true (by omega)).symm, fun _ => rfl⟩
 ·rw [if_neg hk, if_neg hk]
  unfold pairedR
  rw [Int.toNat_natCast]
  by_cases h0 : 0 ≤ pairedI x n
  ·rw [if_pos ⟨hx.check, by omega, by omega, h0⟩]
   exact ⟨(decide_eq_true h0).symm, fun _ => rfl⟩
  ·rw [if_neg (fun h => h0 h.2.2.2)]
   exact ⟨(decide_eq_false h0).symm, fun h => by cases h⟩
theorem atom_ev (hx : x.rel) {n : Nat} (hn : n < x.evs.length) : atomEv x n = ratEv x n := by
 obtain ⟨h1, h2⟩ := reads_rat hx hn
 by_cases h0 : 0 ≤ ratR x n
 rotate_left
 ·unfold atomEv ratEv
  rw [h1, decide_eq_false h0, decide_eq_true (show ratR x n < 0 by omega)]; rfl
 rw [decide_eq_true h0] at h1
 have h3 := h2 h1
 obtain ⟨b1, b2, b3⟩ := pN hx hn h0
 have ho := (vO hx.check).2.2.2
 obtain ⟨f, hf⟩ : ∃ f : Nat, x.from_.getD (ratR x n).toNat 0 = (f : Int) := ⟨_, (Int.toNat_of_nonneg b2).symm⟩
 have hfl : f < x.evs.length := by omega
 unfold atomEv ratEv
 rw [h1, h3, hf, decide_eq_false (show ¬ ratR x n < 0 by omega), Bool.not_true, Bool.false_or, Bool.false_or, Int.toNat_natCast, Bool.eq_iff_iff, List.all_eq_true, List.all_eq_true]
 constructor
 ·intro hall m hm
  have hm := List.mem_range.1 hm
  cases hM : ratM x n f m with
  | false => rfl
  | true =>
   exfalso
   unfold ratM at hM
   simp only [Bool.and_eq_true, Bool.not_eq_true', decide_eq_false_iff_not] at hM
   obtain ⟨⟨g1, g2⟩, g3⟩ := hM
   rw [← aU hx.check hfl hm] at g2
   rw [← aU hx.check hm hn] at g3
   unfold coB at g2 g3
   obtain ⟨r, i, j, hr, a2, a3, a4, a5⟩ := bY (of_decide_eq_true g2)
   obtain ⟨r', i', j', hr', c2, c3, c4, c5⟩ := bY (of_decide_eq_true g3)
   have e1 := (aO ho hr a3 a5).2.2
   have e2 := (aO ho hr' (by omega) c4).2.2
   have er := dU ho hr hr' (e1.symm.trans e2)
   subst er
   have hnd := zD ho hr
   have hij : j = i' := by
    have q1 := mD hnd a3 a5
    have q2 := mD hnd (show i' < _ by omega) c4
    omega
   subst hij
   have qf := mD hnd (show i < _ by omega) a4
   have qn := mD hnd c3 c5
   have hmem : x.order.getD r default ∈ x.order := by
    rw [List.getD_eq_getElem?_getD, List.getElem?_eq_getElem hr]; exact List.getElem_mem hr
   have hrow := hall _ hmem
   unfold atomRow at hrow
   rw [qf, qn, decide_eq_false (by omega), decide_eq_false (by omega), Bool.false_or, Bool.false_or, List.all_eq_true] at hrow
   have hlo : atomLo n (f : Int) (x.order.getD r default).2 = i + 1 := by unfold atomLo; rw [qf, qn]; omega
   have hms : (m : Int) ∈ atomSl n (f : Int) (x.order.getD r default).2 := by
    unfold atomSl
    rw [hlo, qn, Int.toNat_natCast]
    have hp : j - (i + 1) < (((x.order.getD r default).2.drop (i + 1)).take (j' - (i + 1))).length := by
     rw [List.length_take, List.length_drop]; omega
    have := (nW hp).1
    rw [show i + 1 + (j - (i + 1)) = j by omega, a5] at this
    rw [← this]
    exact cJ hp
   have := hrow _ hms
   unfold atomM at this
   rw [Int.toNat_natCast] at this
   exact g1 (of_decide_eq_true this)
 ·intro hall row hrow
  obtain ⟨r, hr, rfl⟩ := List.mem_iff_getElem.1 hrow
  have er : x.order.getD r default = x.order[r] := by rw [List.getD_eq_getElem?_getD, List.getElem?_eq_getElem hr]; rfl
  rw [← er]
  have hnd := zD ho hr
  unfold atomRow
  by_cases hfn : atI (x.order.getD r default).2 (f : Int) < 0 ∨ atI (x.order.getD r default).2 (n : Int) < 0
  ·rcases hfn with h | h
   ·rw [decide_eq_true h]; rfl
   ·rw [decide_eq_true h, Bool.or_true]; rfl
  ·have hf0 : 0 ≤ atI (x.order.getD r default).2 (f : Int) := by omega
   have hn0 : 0 ≤ atI (x.order.getD r default).2 (n : Int) := by omega
   obtain ⟨pf1, pf2⟩ := qA hf0
   obtain ⟨pn1, pn2⟩ := qA hn0
   rw [decide_eq_false (by omega), decide_eq_false (by omega), Bool.false_or, Bool.false_or, List.all_eq_true]
   intro m hm
   unfold atomSl at hm
   obtain ⟨p, hp, e⟩ := List.mem_iff_getElem.1 hm
   have e' := (nW hp)
   rw [List.getD_eq_getElem?_getD, List.getElem?_eq_getElem hp, Option.getD_some, e] at e'
   obtain ⟨q1, q2, q3⟩ := e'
   have hlo1 : (atI (x.order.getD r default).2 (f : Int)).toNat + 1 ≤ atomLo n (f : Int) (x.order.getD r default).2 + p := by unfold atomLo at *; omega
   have hlo2 : atomLo n (f : Int) (x.order.getD r default).2 + p < (atI (x.order.getD r default).2 (n : Int)).toNat := by omega
   have hm0 := pJ hx.check hr _ q2
   rw [← q1] at hm0
   obtain ⟨m', hm'⟩ : ∃ m' : Nat, m = (m' : Int) := ⟨m.toNat, (Int.toNat_of_nonneg hm0.1).symm⟩
   subst hm'
   have hml : m' < x.evs.length := by omega
   unfold atomM
   rw [Int.toNat_natCast]
   have hM := hall m' (List.mem_range.2 hml)
   rw [Bool.not_eq_true'] at hM
   by_cases hh : (x.evs.getD m' default).hart = (x.evs.getD n default).hart
   ·exact decide_eq_true hh
   ·exfalso
    have c1 : coB x f m' = true := decide_eq_true ((dY _ _).2 ⟨r, hr, (bT _ _ _).2 ⟨_, _, by omega, q2, pf1, q1.symm⟩⟩)
    have c2 : coB x m' n = true := decide_eq_true ((dY _ _).2 ⟨r, hr, (bT _ _ _).2 ⟨_, _, hlo2, pn2, q1.symm, pn1⟩⟩)
    rw [aU hx.check hfl hml] at c1
    rw [aU hx.check hml hn] at c2
    unfold ratM at hM
    rw [decide_eq_false hh, c1, c2] at hM
    exact absurd hM (by decide)
theorem atom_eq (hx : x.rel) : atomB x = ratB x := by
 unfold atomB ratB
 rw [Bool.eq_iff_iff, List.all_eq_true, List.all_eq_true]
 refine forall_congr' fun n => forall_congr' fun hn => ?_
 rw [atom_ev hx (List.mem_range.1 hn)]
end
set_option maxRecDepth 100000
abbrev V3 := Bool × Bool × Bool
def judOV (b : V3) : OV := .ag [.bool b.1, .bool b.2.1, .bool b.2.2]
def eqV (a b : V3) : Bool := a.1 == b.1 && (a.2.1 == b.2.1 && a.2.2 == b.2.2)
theorem eqVer_run (a b : V3) (w : World) : (Op.equalIn 10000 34 (.agg #[.bool a.1, .bool a.2.1, .bool a.2.2]) (.agg #[.bool b.1, .bool b.2.1, .bool b.2.2])).run Tryz.prog w = .ok (eqV a b) w := by
 obtain ⟨a1, a2, a3⟩ := a
 obtain ⟨b1, b2, b3⟩ := b
 cases a1 <;> cases a2 <;> cases a3 <;> cases b1 <;> cases b2 <;> cases b3 <;> kernel_rfl
theorem pE {G : Gh} {p : V3} {u : Value} (h : RepO G (judOV p) u) : u = .agg #[.bool p.1, .bool p.2.1, .bool p.2.2] := by
 unfold judOV at h
 rw [RepO] at h
 obtain ⟨cs, rfl, h⟩ := h
 rw [RepOL] at h
 obtain ⟨a, l, e1, h1, h⟩ := h
 rw [RepOL] at h
 obtain ⟨b, l2, rfl, h2, h⟩ := h
 rw [RepOL] at h
 obtain ⟨c, l3, rfl, h3, h⟩ := h
 rw [RepOL] at h
 subst h
 have := vZ h1
 have := vZ h2
 have := vZ h3
 subst a b c
 rw [show cs = cs.toList.toArray by simp, e1]
section
variable {v j : Nat} {ops : Array Oper} {K : Tm → Store → Prop} {KD : List Foot → Tm → Store → Prop} {acc : List Foot} {rest : List Oper} {tm : Tm} {σ : Store} {dst : Option Tmp} {ty : TypeId} {pos : String} {af : Array Edge} {gd : Option (Nat × Bool)}
theorem Y_eqlV {x y : Operand} {T' : TypeId} {p q : V3} (hx : ev tm x = some (judOV p)) (hy : ev tm y = some (judOV q)) :
  YL E.P v j ⟨dst, .binOp .eql 34 x y T', ty, pos, af, gd⟩ tm σ [] (.bool (eqV p q)) [] := jL hx hy (fun M u w' w hu hv => by
 rw [pE hu, pE hv]
 exact ⟨run_eqGuard_agg w _ _ _ _ _ _ (by kernel_rfl), by
  rw [run_eql_struct, show E.P = Tryz.prog from rfl, eqVer_run]; rfl⟩) rfl
theorem S_eqlV {x y : Operand} {T' : TypeId} (p q : V3) (hx : ev tm x = some (judOV p)) (hy : ev tm y = some (judOV q)) (hcont : AO E.P v ops K (j + 1) rest (tm.putO dst (.bool (eqV p q))) (σ.apply [])) : AO E.P v ops K j (⟨dst, .binOp .eql 34 x y T', ty, pos, af, none⟩ :: rest) tm σ := uY (Y_eqlV hx hy) hcont
end
end Go.Proofs.YtnkocjkkefnelaaGreat
