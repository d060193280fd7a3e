/- Parts. -/
import Derived.Deep.OwnRows
import Derived.Test.YtnkocjkkefnelaaGreatPp4
import Derived.Test.YtnkocjkkefnelaaGreatPp5
import Derived.Test.YtnkocjkkefnelaaGreatPp6
import Derived.Test.YtnkocjkkefnelaaGreatPp9
import Derived.Test.YtnkocjkkefnelaaGreatPp18
import Derived.Test.YtnkocjkkefnelaaGreatPp20
import Derived.Test.YtnkocjkkefnelaaGreatPp23
import Derived.Test.YtnkocjkkefnelaaGreatPp24
import Derived.Test.YtnkocjkkefnelaaGreatPp31
set_option linter.unusedVariables false
set_option linter.unusedSimpArgs false
set_option maxHeartbeats 4000000
set_option maxHeartbeats 4000000
set_option maxRecDepth 100000
namespace Go.Proofs.YtnkocjkkefnelaaGreat
open Go.RowKit
theorem rppo_p (x : Ex) (hx : x.rok) (a b : Nat) (ha : a < x.evs.length) (hb : b < x.evs.length) : Pure E.P 47 [exOV x, .int .i64 a, .int .i64 b] (.bool (isPpo x a b)) := by
 have hl := hx.len
 have f3 : Frozen 3 := ⟨trivial⟩
 refine fnA Tryz.func47 Tryz.ntmps47 ?_
 refine run ?_; refine aoR fun _ => ?_
 refine run ?_; refine aoR fun _ => ?_
 refine run ?_; rotate_left
 refine uS (X := Nat) (fun r => tmL [(1, .int .i64 a), (2, .int .i64 b), (3, .d (.pt (exRow x) 0)), (7, .int .i64 r)]) (fun _ => stL []) (fun r => 1 ≤ r ∧ r ≤ 14 ∧ ∀ q : Int, 1 ≤ q → q < r → ruleB x q a b = false) (fun r => 14 - r) 1 ⟨by omega, by omega, fun q h1 h2 => by omega⟩ leP leP ?_
 rintro r ⟨h1, h2, h3⟩
 by_cases h14 : r < 14
 ·have hr := rrule_p x hx r a b ha hb (by omega) (by omega)
  refine run ?_; refine aoR fun _ => ?_
  refine run ?_; refine cnd ?_ ?_
  refine uE fun _ => ?_; try (exfalso; omega)
  refine run ?_; refine aoR fun _ => ?_
  refine run ?_
  apply uO; exact rfl; exact .fn _ _ _; exact rfl; exact hr
  refine run ?_; refine cnd ?_ ?_
  refine wQ (fun _ => ?_)
  refine run ?_; refine aoR fun _ => ?_
  refine run ?_; rotate_left
  refine cG (fun _ => ?_)
  refine run ?_; refine aoR fun _ => ?_
  refine run ?_; rotate_left
  refine uG fun _ => ?_; try (exfalso; omega)
  ·rename_i hy _
   refine uV rfl ?_
   unfold isPpo
   exact (List.any_eq_true.2 ⟨(r : Int), by unfold rs13; simp only [List.mem_cons, List.not_mem_nil, or_false]; omega, hy⟩).symm
  ·rename_i hy _
   refine uY (r + 1) ⟨by omega, by omega, fun q g1 g2 => ?_⟩ (by omega) leP leP
   by_cases e : q = r
   ·rw [e]; exact hy
   ·exact h3 q g1 (by omega)
 ·refine run ?_
  refine aoR fun _ => ?_; refine run ?_
  refine cnd ?_ ?_
  refine uE fun _ => ?_; try (exfalso; omega)
  refine uG fun _ => ?_; try (exfalso; omega)
  refine run ?_; refine aoR fun _ => ?_
  refine run ?_; rotate_left
  refine uV rfl ?_
  unfold isPpo
  refine (List.any_eq_false.2 fun q hq => ?_).symm
  unfold rs13 at hq
  simp only [List.mem_cons, List.not_mem_nil, or_false] at hq
  rw [h3 q (by omega) (by omega)]; decide
section
variable {k s : Nat} {τ : Stamp} {rows : List (List TV)}
structure FrC (k : Nat) (τ : Stamp) (s : Nat) (rows : List (List TV)) (a b : List OV) : Prop where
 len : a.length = b.length
 cells : ∀ (o : Nat) (y' : OV), b[o]? = some y' → ∃ y : OV, a[o]? = some y ∧ Froz k τ s rows y y'
theorem dF : FrC k τ s rows [] [] := ⟨rfl, fun o y' h => by simp at h⟩
theorem vX {y y' : OV} {a b : List OV} (h : Froz k τ s rows y y') (hl : FrC k τ s rows a b) : FrC k τ s rows (y :: a) (y' :: b) :=
 ⟨by simp [hl.len], fun o z hz => by
  match o, hz with
  | 0, hz => cases hz; exact ⟨y, rfl, h⟩
  | o + 1, hz => exact hl.cells o z hz⟩
theorem fN {a : List OV} : FrC k τ s rows a a := ⟨rfl, fun _ y' h => ⟨y', h, .same y'⟩⟩
theorem dE {q : Nat} : FrozR k τ s rows ⟨q, []⟩ ⟨q, []⟩ := FrozR.same _
theorem xS {q : Nat} {a b : List OV} {l l' : List (List OV)} (h : FrC k τ s rows a b) (hl : FrozR k τ s rows ⟨q, l⟩ ⟨q, l'⟩) : FrozR k τ s rows ⟨q, a :: l⟩ ⟨q, b :: l'⟩ :=
 ⟨rfl, by simpa using hl.2.1, fun i row' hi => by
  match i, hi with
  | 0, hi => cases hi; exact ⟨a, rfl, h.len, h.cells⟩
  | i + 1, hi => exact hl.2.2 i row' hi⟩
end
theorem WRel.cell {Γ : Ctx} {G : Gh} {σ : Store} {w : World} {kx q i o : Nat} {τx : Stamp} {rows : List (List OV)} {row : List OV} {y y' : OV} (hw : WRel Γ G σ w) (hk : σ kx = some (τx, ⟨q, rows⟩)) (hr : rows[i]? = some row) (ho : row[o]? = some y) (hy : ∀ x, RepO G y x → RepO G y' x) :
  WRel Γ G (σ.put kx (τx, ⟨q, rows.set i (row.set o y')⟩)) w where
 mem := hw.mem
 own j τ' r' hj := by
  by_cases e : j = kx
  ·subst e
   rw [Store.put_self] at hj
   cases hj
   rcases hw.own j _ _ hk with ⟨_, g2⟩ | ⟨β, g1, ⟨cs, c1, c2, c3, c4⟩, g3, g4⟩
   ·have g2' : rows = [] := g2
    rw [g2'] at hr; simp at hr
   ·refine Or.inr ⟨β, g1, ⟨cs, c1, c2, by simpa using c3, fun i' row' hi => ?_⟩, g3, g4⟩
    by_cases ei : i' = i
    ·subst ei
     obtain ⟨d1, d2⟩ := c4 i' row hr
     have hlt : i' < rows.length := by
      rcases Nat.lt_or_ge i' rows.length with h | h
      ·exact h
      ·rw [List.getElem?_eq_none h] at hr; cases hr
     have hi' : (rows.set i' (row.set o y'))[i']? = some row' := hi
     rw [List.getElem?_set_self hlt] at hi'
     cases hi'
     refine ⟨by rw [List.length_set]; exact d1, fun o' z hz => ?_⟩
     by_cases eo : o' = o
     ·subst eo
      have hlo : o' < row.length := by
       rcases Nat.lt_or_ge o' row.length with h | h
       ·exact h
       ·rw [List.getElem?_eq_none h] at ho; cases ho
      rw [List.getElem?_set_self hlo] at hz
      cases hz
      obtain ⟨v, e6, e7⟩ := d2 o' y ho
      exact ⟨v, e6, hy v e7⟩
     ·rw [List.getElem?_set_ne (Ne.symm eo)] at hz
      exact d2 o' z hz
    ·have hi' : (rows.set i (row.set o y'))[i']? = some row' := hi
     rw [List.getElem?_set_ne (Ne.symm ei)] at hi'
     exact c4 i' row' hi'
  ·rw [Store.put_ne _ _ e] at hj
   exact hw.own j τ' r' hj
 inj j j' τ1 τ2 β β' r r' hj hj' hμ hμ' e := by
  have old : ∀ j τ r, (σ.put kx (τx, ⟨q, rows.set i (row.set o y')⟩)) j = some (τ, r) → ∃ r0, σ j = some (τ, r0) := fun j τ r h => by
   by_cases e : j = kx
   ·subst e; rw [Store.put_self] at h; cases h; exact ⟨_, hk⟩
   ·rw [Store.put_ne _ _ e] at h; exact ⟨r, h⟩
  obtain ⟨r1, h1⟩ := old _ _ _ hj
  obtain ⟨r2, h2⟩ := old _ _ _ hj'
  exact hw.inj j j' τ1 τ2 β β' r1 r2 h1 h2 hμ hμ' e
 keep := hw.keep
 size := hw.size
 tape := hw.tape
 os := hw.os
 output := hw.output
 g0 := hw.g0
 new := hw.new
 bound := hw.bound
 low := hw.low
def fam (f : Nat → Stamp × Row) (a : Nat) : Nat → Rows
 | 0 => []
 | m + 1 => (a + 1000, f a) :: fam f (a + 1) m
set_option maxRecDepth 100000
section
variable {E : Env} {v j : Nat} {ops : Array Oper} {K : Tm → Store → Prop} {rest : List Oper} {tm : Tm} {σ : Store} {ty : TypeId} {pos : String} {af : Array Edge}
theorem S_minE {d : Option Nat} {T T' : TypeId} {x y : Operand} {k : IntKind} {a b m : Int} (hx : ev tm x = some (.int k a)) (hy : ev tm y = some (.int k b)) (he : (if b < a then b else a) = m) (hcont : AO E.P v ops K (j + 1) rest (tm.putO d (.int k m)) (σ.apply [])) : AO E.P v ops K j (⟨d, .call { callee := .builtin .min, args := #[x, y], argTypes := #[T, T'] }, ty, pos, af, none⟩ :: rest) tm σ := by
 subst he; exact tR hx hy hcont
end
theorem oS (l : List Int) (n : Int) (hl : l.length ≤ 1152921504606846976) : Pure E.P 62 [.d (ints l), .int .i64 n] (.int .i64 (atI l n)) := by
 refine fnA Tryz.func62 Tryz.ntmps62 ?_
 refine uB (aoR fun _ => ?_)
 refine q12 (uD (uC ?_))
 iterate 2 refine uB ?_
 refine aoR fun _ => ?_; refine q11 ?_; refine q13 ?_; refine q11 (uD (uC (vI ?_)))
 rotate_left
 refine uS (X := Nat) (fun k => tmL [(0, .d (ints l)), (1, .int .i64 n), (7, .int .i64 l.length), (8, .int .i64 k)]) (fun _ => stL []) (fun k => k ≤ l.length ∧ atI l n = atFrom n (l.drop k) k) (fun k => l.length - k) 0 ⟨Nat.zero_le _, rfl⟩ leP leP ?_
 rintro k ⟨hk, ht⟩
 by_cases hlt : k < l.length
 ·have hd := yS l n k hlt
  refine uB (aoR fun _ => ?_)
  refine q37 (uD (uC (uB ?_))); refine cnd ?_ ?_
  refine uE fun _ => ?_; try (exfalso; omega)
  refine vE (uC (uB (vI (uB (aoR fun _ => ?_)))))
  refine q11 ?_; refine q12 (uD (uC (uB (aoR fun _ => ?_))))
  iterate 3 refine q11 ?_
  refine q17 ?_; refine q23 ?_; refine q46 (uD (uC ?_)); refine cnd ?_ ?_
  refine uE fun _ => ?_; try (exfalso; omega)
  refine uB (aoR fun _ => ?_)
  refine q11 ?_; refine q12 (uD (uC ?_)); refine wF ?_; refine fX ?_
  iterate 2 refine aD ?_
  refine fX ?_; refine aD ?_; rotate_left
  refine uG fun _ => ?_; try (exfalso; omega)
  refine vE ?_; refine xN ?_; refine uC (aoR fun _ => ?_)
  refine q36 ?_; refine q11 (uD (uC ?_)); rotate_left
  refine uG fun _ => ?_; try (exfalso; omega)
  ·rename_i he _
   refine wC rfl ?_
   have he' : n = l.getD k 0 := he
   rw [ht, hd, if_pos he'.symm]
  ·rename_i he _
   have he' : ¬ n = l.getD k 0 := he
   refine uY (k + 1) ⟨by omega, ?_⟩ (by omega) leP leP
   rw [ht, hd, if_neg (fun h => he' h.symm)]
 ·refine uB (aoR fun _ => ?_)
  refine q37 (uD (uC (uB ?_))); refine cnd ?_ ?_
  refine uE fun _ => ?_; try (exfalso; omega)
  refine uG fun _ => ?_; try (exfalso; omega)
  refine vV ?_
  iterate 2 refine wJ ?_
  refine yE ?_; refine uC (uB (aoR fun _ => ?_))
  refine q12 (uD (uC ?_)); refine wF ?_; rotate_left
  refine wC rfl ?_
  rw [ht, List.drop_eq_nil_of_le (by omega)]; rfl
theorem dC {l : List Int} {j : Nat} (h : j < l.length) : l.getD j 0 ∈ l := by
 rw [List.getD_eq_getElem?_getD, List.getElem?_eq_getElem h]; exact List.getElem_mem h
theorem rK {x : Ex} (h : checkI x = 0) {i : Nat} (hi : i < x.order.length) : ∀ j, j < (x.order.getD i default).2.length → 0 ≤ (x.order.getD i default).2.getD j 0 ∧ (x.order.getD i default).2.getD j 0 < x.evs.length := fun j hj => by
 have h4 := (vK h).2.2.2
 unfold orderB rowsTo at h4
 simp only [Bool.and_eq_true, decide_eq_true_eq] at h4
 have h6 := List.all_eq_true.1 h4.2 i (List.mem_range.2 hi)
 unfold rowOk at h6
 simp only [Bool.and_eq_true, beq_iff_eq] at h6
 have hm2 : (x.order.getD i default).2.getD j 0 ∈ sortI (x.order.getD i default).2 := (List.mergeSort_perm _ _).mem_iff.2 (dC hj)
 rw [h6.2] at hm2
 unfold wantTo at hm2
 obtain ⟨m, h1, e⟩ := List.mem_map.1 hm2
 have h2 := List.mem_range.1 (List.mem_filter.1 h1).1
 rw [← e]
 simp only [Int.ofNat_eq_natCast]
 omega
def jdOV (x : Ex) (rf co fr : List (Int × Int)) : OV := .ag [.d (evsTV x.evs), .d (ints x.from_), .d (rowsTV x.order), .d (pairsTV rf), .d (pairsTV co), .d (pairsTV fr)]
theorem of_p (x : Ex) (hx : x.fit) : Pure E.P 36 [exOV x] (jdOV x (rfF x) (coF x) (frF x)) := by
 have f1 : Frozen 1 := ⟨trivial⟩
 have f5 : Frozen 5 := ⟨trivial⟩
 have f7 : Frozen 7 := ⟨trivial⟩
 have f9 : Frozen 9 := ⟨trivial⟩
 have h1 := rf_s x hx
 have h2 := co_s x hx
 have h3 := fr_s x hx
 refine FnW.toR ?_
 refine xA (vs := [.cell 2 67]) Tryz.func36 (by decide) rfl Tryz.ntmps36 (Nat.le_of_ble_eq_true rfl) rfl ?_
 refine uB (aoR fun _ => ?_)
 refine q34 ?_
 apply xL; exact rfl
 refine uD (uC (uB ?_))
 refine uU (E := E) ?_ (fun _ => ?_); exact rfl
 iterate 2 (apply zR; exact rfl; exact rfl; exact rfl; exact Nat.le_of_ble_eq_true rfl)
 apply oE; assumption; exact rfl; exact .fn _ _ _; exact rfl; exact h1; exact xD _; exact rfl
 apply zR; exact rfl; exact rfl; exact rfl; exact Nat.le_of_ble_eq_true rfl
 apply oE; assumption; exact rfl; exact .fn _ _ _; exact rfl; exact h2; exact xD _; exact rfl
 apply zR; exact rfl; exact rfl; exact rfl; exact Nat.le_of_ble_eq_true rfl
 apply oE; assumption; exact rfl; exact .fn _ _ _; exact rfl; exact h3; exact xD _; exact rfl
 apply oF; exact rfl; exact rfl; exact rfl; exact rfl; exact rfl
 apply jL; exact rfl; exact rfl; exact rfl; exact rfl; exact rfl; exact rfl; (first | exact rfl | exact vB (by omega) (0 : Int) | exact vB (by omega) default | exact wB (by omega) (by omega) (0 : Int) | assumption); exact Nat.le_of_ble_eq_true rfl
 refine gT ?_ ?_; (first | ((try dsimp only [wkeys]); decide +kernel) | exact rfl)
 refine uC ?_; refine wF ?_; rotate_left
 exact tA rfl rfl rfl rfl rfl rfl
def readsR (x : Ex) (n : Nat) : Int × Bool := if (x.evs.getD n default).kind = 3 then ((n : Int), true) else pairedR x n
theorem reads_p (x : Ex) (hx : x.fit) (rf co fr : List (Int × Int)) (n : Nat) (hn : n < x.evs.length) : Pure E.P 61 [jdOV x rf co fr, .int .i64 n] (.tu [.int .i64 (readsR x n).1, .bool (readsR x n).2]) := by
 have f2 : Frozen 2 := ⟨trivial⟩
 have hl := hx.1.1
 have hP := Paired_p x hx n
 refine FnW.toR ?_
 refine xA (vs := [.tmp 4, .tmp 5]) Tryz.func61 (by decide) rfl Tryz.ntmps61 (Nat.le_of_ble_eq_true rfl) rfl ?_
 refine uB (aoR fun _ => ?_)
 refine q34 ?_
 iterate 2 refine q12 ?_
 refine uD (uC ?_)
 iterate 2 refine uB ?_
 refine aoR fun _ => ?_
 iterate 2 refine q32 ?_
 refine q23 ?_; refine q11 ?_; refine q17 ?_; refine q32 ?_; refine q23 ?_; refine q46 (uD (uC ?_)); refine cnd ?_ ?_
 refine uE fun _ => ?_; try (exfalso; omega)
 refine uB (aoR fun _ => ?_)
 refine q11 ?_
 iterate 2 refine q12 ?_
 refine uD (uC ?_); refine wF ?_; refine aD ?_; rotate_left
 refine uG fun _ => ?_; try (exfalso; omega)
 refine vE (uC (uB (aoR fun _ => ?_)))
 refine q32 ?_; refine q33 ?_; refine q11 ?_
 apply uO; exact rfl; exact .fn _ _ _; exact rfl; exact hP
 iterate 2 (apply yM; exact rfl; exact rfl)
 iterate 2 refine q12 ?_
 refine uD (uC ?_); refine wF ?_; rotate_left
 ·refine bP rfl rfl ?_
  rename_i hk _
  have hk' : (x.evs.getD n default).kind = 3 := hk
  unfold readsR
  rw [if_pos hk']
 ·refine bP rfl rfl ?_
  rename_i hk _
  have hk' : ¬ (x.evs.getD n default).kind = 3 := hk
  unfold readsR
  rw [if_neg hk']
theorem mY (n : Int) : ∀ (l : List Int) (k : Nat), atFrom n l k = -1 ∨ ((k : Int) ≤ atFrom n l k ∧ atFrom n l k < k + l.length)
 | [], k => Or.inl rfl
 | a :: l, k => by
  unfold atFrom
  split
  ·right; simp only [List.length_cons]; omega
  ·rcases mY n l (k + 1) with h | h
   ·exact Or.inl h
   ·right; simp only [List.length_cons]; omega
theorem tE (l : List Int) (n : Int) : -1 ≤ atI l n ∧ atI l n < l.length := by
 rcases mY n l 0 with h | h <;> unfold atI <;> omega
theorem gM (es : List Ev) (f : Ev) : ∀ k, -1 ≤ pairTo es f k ∧ pairTo es f k < k
 | 0 => by unfold pairTo; omega
 | k + 1 => by
  have := gM es f k
  unfold pairTo
  split
  ·split
   ·split
    ·omega
    ·split <;> omega
   ·omega
  ·omega
theorem readsR_bd (x : Ex) (n : Nat) : 0 ≤ (readsR x n).1 ∧ (readsR x n).1 ≤ n := by
 unfold readsR
 split
 ·dsimp only; omega
 ·unfold pairedR
  split
  ·rename_i h
   rw [Int.toNat_natCast] at h ⊢
   dsimp only
   unfold pairedI at h ⊢
   split
   ·have := gM x.evs (x.evs.getD n default) n
    rename_i h2
    rw [if_pos h2] at h
    omega
   ·rename_i h2
    rw [if_neg h2] at h
    omega
  ·dsimp only; omega
def atomLo (n : Nat) (f : Int) (l : List Int) : Nat := (min (atI l f + 1) (atI l n)).toNat
def atomSl (n : Nat) (f : Int) (l : List Int) : List Int := (l.drop (atomLo n f l)).take ((atI l n).toNat - atomLo n f l)
def atomM (x : Ex) (n : Nat) (m : Int) : Bool := decide ((x.evs.getD m.toNat default).hart = (x.evs.getD n default).hart)
def atomRow (x : Ex) (n : Nat) (f : Int) (l : List Int) : Bool := decide (atI l f < 0) || decide (atI l n < 0) || (atomSl n f l).all (atomM x n)
def atomEv (x : Ex) (n : Nat) : Bool := !(readsR x n).2 || x.order.all fun r => atomRow x n (x.from_.getD (readsR x n).1.toNat 0) r.2
def atomB (x : Ex) : Bool := (List.range x.evs.length).all (atomEv x)
theorem atom_no {x : Ex} {n : Nat} (hn : n < x.evs.length) (h : atomEv x n = false) : atomB x = false := by
 unfold atomB
 rw [List.all_eq_false]
 exact ⟨n, List.mem_range.2 hn, by rw [h]; decide⟩
def jdRow (x : Ex) (rf co fr : List (Int × Int)) : List TV := [evsTV x.evs, ints x.from_, rowsTV x.order, pairsTV rf, pairsTV co, pairsTV fr]
set_option maxHeartbeats 4000000 in
theorem atomic_p (x : Ex) (hx : x.rel) (rf co fr : List (Int × Int)) : Pure E.P 39 [jdOV x rf co fr] (.bool (atomB x)) := by
 have f1 : Frozen 1 := ⟨trivial⟩
 have f5 : Frozen 5 := ⟨trivial⟩
 have hl := hx.len
 have hlf := hx.from_
 have hlo := hx.ord
 refine fnA Tryz.func39 Tryz.ntmps39 ?_
 refine uB (aoR fun _ => ?_)
 refine q34 ?_; refine q12 (uD (uC ?_)); refine dJ ?_; refine uB (aoR fun _ => ?_)
 refine q12 (uD (uC (uB ?_))); refine dK ?_; refine uC ?_
 iterate 2 refine uB ?_
 refine aoR fun _ => ?_
 iterate 2 refine q32 ?_
 refine q23 ?_; refine q13 ?_; refine q11 (uD (uC (vI ?_))); rotate_left
 refine uS (X := Nat) (fun n => tmL [(1, .d (.pt (jdRow x rf co fr) 0)), (3, .bool true), (16, .d (evsTV x.evs)), (17, .int .i64 x.evs.length), (18, .int .i64 n)]) (fun _ => stL []) (fun n => n ≤ x.evs.length ∧ ∀ j, j < n → atomEv x j = true) (fun n => x.evs.length - n) 0 ⟨Nat.zero_le _, fun j hj => by omega⟩ leP leP ?_
 rintro n ⟨hn, hall⟩
 by_cases hlt : n < x.evs.length
 rotate_left
 ·refine uB (aoR fun _ => ?_)
  refine q37 (uD (uC (uB ?_))); refine cnd ?_ ?_
  refine uE fun _ => ?_; try (exfalso; omega)
  refine uG fun _ => ?_; try (exfalso; omega)
  refine vV ?_
  iterate 2 refine wJ ?_
  refine yE ?_; refine uC (uB (aoR fun _ => ?_))
  refine q11 ?_; refine q12 (uD (uC ?_)); refine wF ?_; refine uAB ?_; rotate_left
  refine uV rfl ?_
  unfold atomB
  refine (List.all_eq_true.2 fun j hj => hall j ?_).symm
  have := List.mem_range.1 hj
  omega
 have hR := reads_p x hx.fit rf co fr n hlt
 have hbd := readsR_bd x n
 cases hmust : (readsR x n).2 with
 | false =>
  rw [hmust] at hR
  refine uB (aoR fun _ => ?_)
  refine q37 (uD (uC (uB ?_))); refine cnd ?_ ?_
  refine uE fun _ => ?_; try (exfalso; omega)
  refine vE (uC (uB (vI (uB (aoR fun _ => ?_)))))
  refine q11 ?_; refine q17 ?_; refine q33 ?_
  apply xL; exact rfl
  refine q12 ?_; refine q43 (uD (uC (uB (aoR fun _ => ?_))))
  refine q33 ?_; refine q11 ?_
  apply uO; exact rfl; exact .fn _ _ _; exact rfl; exact hR
  refine q11 ?_
  iterate 2 (apply yM; exact rfl; exact rfl)
  iterate 2 refine q12 ?_
  refine uD (uC ?_)
  iterate 2 refine uB ?_
  refine aoR fun _ => ?_; refine q11 ?_
  apply cN; exact rfl
  refine uD (uC ?_)
  refine cnd ?_ ?_; refine cH ?_; refine uJ ?_; refine vV ?_; refine wJ ?_; refine yE ?_; refine uC (aoR fun _ => ?_)
  refine q36 ?_; refine q11 (uD (uC ?_)); rotate_left
  refine xQ ?_
  exact uL
  refine uG fun _ => ?_; try (exfalso; omega)
  refine uY (n + 1) ⟨by omega, fun j hj => ?_⟩ (by omega) leP leP
  rcases Nat.lt_or_ge j n with e | e
  ·exact hall j e
  ·have : j = n := by omega
   subst this
   unfold atomEv; rw [hmust]; rfl
 | true =>
  rw [hmust] at hR
  refine uB (aoR fun _ => ?_)
  refine q37 (uD (uC (uB ?_))); refine cnd ?_ ?_
  refine uE fun _ => ?_; try (exfalso; omega)
  refine vE (uC (uB (vI (uB (aoR fun _ => ?_)))))
  refine q11 ?_; refine q17 ?_; refine q33 ?_
  apply xL; exact rfl
  refine q12 ?_; refine q43 (uD (uC (uB (aoR fun _ => ?_))))
  refine q33 ?_; refine q11 ?_
  apply uO; exact rfl; exact .fn _ _ _; exact rfl; exact hR
  refine q11 ?_
  iterate 2 (apply yM; exact rfl; exact rfl)
  iterate 2 refine q12 ?_
  refine uD (uC ?_)
  iterate 2 refine uB ?_
  refine aoR fun _ => ?_; refine q11 ?_
  apply cN; exact rfl
  refine uD (uC ?_); refine cnd ?_ ?_; refine cH ?_
  exact wR
  refine xQ ?_; refine uN ?_; refine vE (uC (uB (aoR fun _ => ?_)))
  iterate 2 refine q32 ?_
  refine q23 ?_; refine q13 ?_; refine q11 (uD (uC (vI ?_))); rotate_left
  refine uG fun _ => ?_; try (exfalso; omega)
  generalize hr : (readsR x n).1 = r at hbd
  refine uS (X := Nat) (fun j => tmL [(1, .d (.pt (jdRow x rf co fr) 0)), (3, .bool true), (4, .int .i64 n), (5, .d (.pt (evTV (x.evs.getD n default)) 0)), (6, .int .i64 r), (16, .d (evsTV x.evs)), (17, .int .i64 x.evs.length), (18, .int .i64 n), (33, .d (rowsTV x.order)), (34, .int .i64 x.order.length), (35, .int .i64 j)]) (fun _ => stL []) (fun j => j ≤ x.order.length ∧ ∀ q, q < j → atomRow x n (x.from_.getD r.toNat 0) (x.order.getD q default).2 = true) (fun j => x.order.length - j) 0 ⟨Nat.zero_le _, fun j hj => by omega⟩ leP leP ?_
  rintro j ⟨hj, hrows⟩
  by_cases hltj : j < x.order.length
  rotate_left
  ·refine uB (aoR fun _ => ?_)
   refine q37 (uD (uC (uB ?_))); refine cnd ?_ ?_
   refine uE fun _ => ?_; try (exfalso; omega)
   refine uG fun _ => ?_; try (exfalso; omega)
   refine vV ?_
   iterate 2 refine wJ ?_
   refine yE ?_; refine xN ?_; refine uC (aoR fun _ => ?_)
   refine q36 ?_; refine q11 (uD (uC ?_)); rotate_left
   refine uY (n + 1) ⟨by omega, fun q hq => ?_⟩ (by omega) leP leP
   rcases Nat.lt_or_ge q n with e | e
   ·exact hall q e
   ·have : q = n := by omega
    subst this
    unfold atomEv
    rw [hmust, Bool.not_true, Bool.false_or, List.all_eq_true]
    intro w hw
    obtain ⟨z, hz, rfl⟩ := List.mem_iff_getElem.1 hw
    have := hrows z (by omega)
    rw [List.getD_eq_getElem?_getD (l := x.order), List.getElem?_eq_getElem hz] at this
    rw [hr]; exact this
  have hrl := hx.rows j
  have hI1 := oS (x.order.getD j default).2 (x.from_.getD r.toNat 0) (by omega)
  have hI2 := oS (x.order.getD j default).2 n (by omega)
  have hb1 := tE (x.order.getD j default).2 (x.from_.getD r.toNat 0)
  have hb2 := tE (x.order.getD j default).2 n
  have hrb : 0 ≤ r ∧ r < x.from_.length := by omega
  by_cases hneg : atI (x.order.getD j default).2 (x.from_.getD r.toNat 0) < 0 ∨ atI (x.order.getD j default).2 n < 0
  ·refine uB (aoR fun _ => ?_)
   refine q37 (uD (uC (uB ?_))); refine cnd ?_ ?_
   refine uE fun _ => ?_; try (exfalso; omega)
   refine vE (uC (uB (vI (uB (aoR fun _ => ?_)))))
   refine q17 ?_; refine q23 ?_; refine q12 (uD (uC (uB (aoR fun _ => ?_))))
   refine q11 ?_
   iterate 2 refine q32 ?_
   refine q23 ?_; refine q11 ?_; refine q17 ?_; refine q23 ?_
   apply uO; exact rfl; exact .fn _ _ _; exact rfl; exact hI1
   iterate 2 refine q11 ?_
   apply uO; exact rfl; exact .fn _ _ _; exact rfl; exact hI2
   iterate 2 refine q12 ?_
   refine uD (uC ?_)
   iterate 2 refine uB ?_
   refine aoR fun _ => ?_; refine q11 ?_; refine q37 ?_; refine q11 ?_
   apply spF; exact rfl
   intro hc_; refine q1
   apply spF; exact rfl
   intro hc_; refine q22; refine q0 (uD ?_); refine uC ?_
   refine cnd ?_ ?_
   refine xG (fun hc_ => ?_); (try simp only [nrm] at hc_)
   refine vV ?_; refine wJ ?_; refine yE ?_; refine uC (aoR fun _ => ?_)
   refine q36 ?_; refine q11 (uD (uC ?_)); rotate_left
   refine xM ?_
   iterate 3 refine uG fun _ => ?_; try (exfalso; omega)
   ·refine uY (j + 1) ⟨by omega, fun q hq => ?_⟩ (by omega) leP leP
    rcases Nat.lt_or_ge q j with e | e
    ·exact hrows q e
    ·have : q = j := by omega
     subst this
     unfold atomRow
     rcases hneg with h | h
     ·rw [decide_eq_true h]; rfl
     ·rw [decide_eq_true h, Bool.or_true]; rfl
  ·have hlo0 : atomLo n (x.from_.getD r.toNat 0) (x.order.getD j default).2 ≤ (atI (x.order.getD j default).2 n).toNat := by unfold atomLo; omega
   have hml : ((x.order.getD j default).2.map cell).length = (x.order.getD j default).2.length := List.length_map ..
   have hml2 : ((x.order.getD (j : Int).toNat default).2.map cell).length = (x.order.getD j default).2.length := List.length_map ..
   have hmn : (if atI (x.order.getD j default).2 n < atI (x.order.getD j default).2 (x.from_.getD r.toNat 0) + 1 then atI (x.order.getD j default).2 n else atI (x.order.getD j default).2 (x.from_.getD r.toNat 0) + 1) = ((atomLo n (x.from_.getD r.toNat 0) (x.order.getD j default).2 : Nat) : Int) := by
    unfold atomLo
    split <;> omega
   refine uB (aoR fun _ => ?_)
   refine q37 (uD (uC (uB ?_))); refine cnd ?_ ?_
   refine uE fun _ => ?_; try (exfalso; omega)
   refine vE (uC (uB (vI (uB (aoR fun _ => ?_)))))
   refine q17 ?_; refine q23 ?_; refine q12 (uD (uC (uB (aoR fun _ => ?_))))
   refine q11 ?_
   iterate 2 refine q32 ?_
   refine q23 ?_; refine q11 ?_; refine q17 ?_; refine q23 ?_
   apply uO; exact rfl; exact .fn _ _ _; exact rfl; exact hI1
   iterate 2 refine q11 ?_
   apply uO; exact rfl; exact .fn _ _ _; exact rfl; exact hI2
   iterate 2 refine q12 ?_
   refine uD (uC ?_)
   iterate 2 refine uB ?_
   refine aoR fun _ => ?_; refine q11 ?_; refine q37 ?_; refine q11 ?_
   apply spF; exact rfl
   intro hc_; refine q1
   apply spF; exact rfl
   intro hc_; refine q22; refine q0 (uD ?_); refine uC ?_
   refine cnd ?_ ?_
   refine xG (fun hc_ => ?_); (try simp only [nrm] at hc_)
   refine vV ?_; refine wJ ?_; refine yE ?_; refine uC (aoR fun _ => ?_)
   refine q36 ?_; refine q11 (uD (uC ?_)); rotate_left
   refine xM ?_
   iterate 2 refine uG fun _ => ?_; try (exfalso; omega)
   refine vE (uC (uB (aoR fun _ => ?_)))
   iterate 2 refine q11 ?_
   refine q36 ?_; refine q11 ?_
   apply S_minE; exact rfl; exact rfl; exact hmn
   refine q11 ?_
   (apply bL; exact rfl; exact rfl; exact rfl; exact rfl; exact rfl; (first | exact rfl | exact ⟨_, _, rfl, by omega, rfl⟩); (first | exact rfl | exact ⟨_, _, rfl, by omega, rfl⟩); omega; omega)
   refine q13 ?_; refine q11 (uD (uC (vI ?_))); rotate_left
   refine uG fun _ => ?_; try (exfalso; omega)
   ·exact (hneg hc_).elim
   obtain ⟨lo, hlo⟩ : ∃ lo, atomLo n (x.from_.getD r.toNat 0) (x.order.getD j default).2 = lo := ⟨_, rfl⟩
   have hS : List.take ((atI (x.order.getD j default).2 n).toNat - ((lo : Nat) : Int).toNat) (List.drop ((lo : Nat) : Int).toNat (List.map cell (x.order.getD (j : Int).toNat default).2)) = List.map cell (atomSl n (x.from_.getD r.toNat 0) (x.order.getD j default).2) := by
    rw [Int.toNat_natCast, Int.toNat_natCast, ← List.map_drop, ← List.map_take]; unfold atomSl; rw [hlo]
   rw [hlo, hS]
   have hSm : ∀ z, z < (atomSl n (x.from_.getD r.toNat 0) (x.order.getD j default).2).length → 0 ≤ (atomSl n (x.from_.getD r.toNat 0) (x.order.getD j default).2).getD z 0 ∧ (atomSl n (x.from_.getD r.toNat 0) (x.order.getD j default).2).getD z 0 < x.evs.length := fun z hz => by
    have hm : (atomSl n (x.from_.getD r.toNat 0) (x.order.getD j default).2).getD z 0 ∈ (x.order.getD j default).2 := by
     have h1 := dC hz
     unfold atomSl at h1 ⊢
     exact List.mem_of_mem_drop (List.mem_of_mem_take h1)
    obtain ⟨w, hw, e⟩ := List.mem_iff_getElem.1 hm
    have := rK hx.check hltj w hw
    rw [List.getD_eq_getElem?_getD, List.getElem?_eq_getElem hw, Option.getD_some, e] at this
    exact this
   have hrow : atomRow x n (x.from_.getD r.toNat 0) (x.order.getD j default).2 = (atomSl n (x.from_.getD r.toNat 0) (x.order.getD j default).2).all (atomM x n) := by
    unfold atomRow
    rw [decide_eq_false (fun h => hneg (Or.inl h)), decide_eq_false (fun h => hneg (Or.inr h))]; rfl
   have hSl : (atomSl n (x.from_.getD r.toNat 0) (x.order.getD j default).2).length ≤ 65536 := by
    unfold atomSl
    rw [List.length_take, List.length_drop]; omega
   generalize atomSl n (x.from_.getD r.toNat 0) (x.order.getD j default).2 = S at hSm hrow hSl
   refine uS (X := Nat) (fun z => tmL [(1, .d (.pt (jdRow x rf co fr) 0)), (3, .bool true), (4, .int .i64 n), (5, .d (.pt (evTV (x.evs.getD n default)) 0)), (6, .int .i64 r), (16, .d (evsTV x.evs)), (17, .int .i64 x.evs.length), (18, .int .i64 n), (33, .d (rowsTV x.order)), (34, .int .i64 x.order.length), (35, .int .i64 j), (62, .d (ints S)), (63, .int .i64 S.length), (64, .int .i64 z)]) (fun _ => stL []) (fun z => z ≤ S.length ∧ ∀ q, q < z → atomM x n (S.getD q 0) = true) (fun z => S.length - z) 0 ⟨Nat.zero_le _, fun j hj => by omega⟩ (by repeat' (first | exact vH _ | exact uX _ | refine uH rfl ?_ | refine uR rfl ?_ | (refine uK rfl ?_ ?_; (simp)) | (refine uI rfl ?_ ?_; (simp)) | (refine uM rfl ?_ ?_; (simp)))) leP ?_
   rintro z ⟨hz, hms⟩
   by_cases hltz : z < S.length
   ·have hz1 := hSm z hltz
    have hz2 : 0 ≤ S.getD (z : Int).toNat 0 ∧ S.getD (z : Int).toNat 0 < x.evs.length := hz1
    refine uB (aoR fun _ => ?_)
    refine q37 (uD (uC (uB ?_))); refine cnd ?_ ?_
    refine uE fun _ => ?_; try (exfalso; omega)
    refine vE (uC (uB (vI (uB (aoR fun _ => ?_)))))
    refine q17 ?_; refine q23 ?_; refine q12 (uD (uC (uB ?_)))
    refine uU (E := E) ?_ (fun _ => ?_); exact rfl
    iterate 2 refine q52 ?_
    refine q50 ?_; refine q38 ?_; refine q30 ?_; refine q52 ?_; refine q50 ?_; refine q52 ?_; refine q50 ?_
    apply sJ; exact rfl; exact rfl
    apply gG; exact rfl
    refine gT ?_ ?_; (first | ((try dsimp only [wkeys]); decide +kernel) | exact rfl)
    refine uC (uB (aoR fun _ => ?_))
    refine q11 ?_
    apply cN; exact rfl
    refine uD (uC ?_); refine cnd ?_ ?_
    refine wL (fun _ => ?_); (try (exfalso; omega))
    refine vV ?_
    refine iZ ?_ ?_; exact rfl
    iterate 2 refine wJ ?_
    iterate 2 (refine iZ ?_ ?_; exact rfl)
    iterate 2 refine wJ ?_
    iterate 2 (refine iZ ?_ ?_; exact rfl)
    iterate 2 refine wJ ?_
    refine yE ?_; refine uC (uB (aoR fun _ => ?_))
    refine q11 ?_; refine q12 (uD (uC ?_)); refine wF ?_; refine uAB ?_; rotate_left
    refine wS (fun _ => ?_); (try (exfalso; omega))
    refine vE ?_; refine xN ?_; refine uC (aoR fun _ => ?_)
    refine q36 ?_; refine q11 (uD (uC ?_)); rotate_left
    refine uG fun _ => ?_; try (exfalso; omega)
    ·rename_i hh _
     have hh' : ¬ (x.evs.getD (S.getD z 0).toNat default).hart = (x.evs.getD n default).hart := hh
     refine uV rfl ?_
     have hr0 : atomRow x n (x.from_.getD r.toNat 0) (x.order.getD j default).2 = false := by
      rw [hrow, List.all_eq_false]
      refine ⟨S.getD z 0, dC hltz, ?_⟩
      unfold atomM
      rw [decide_eq_false hh']; decide
     have he0 : atomEv x n = false := by
      unfold atomEv
      rw [hmust, Bool.not_true, Bool.false_or, List.all_eq_false]
      refine ⟨x.order.getD j default, ?_, ?_⟩
      ·rw [List.getD_eq_getElem?_getD, List.getElem?_eq_getElem hltj]; exact List.getElem_mem hltj
      ·rw [hr, hr0]; decide
     rw [atom_no hlt he0]
     exact decide_eq_false hh'
    ·rename_i hh _
     have hh' : (x.evs.getD (S.getD z 0).toNat default).hart = (x.evs.getD n default).hart := hh
     refine uY (z + 1) ⟨by omega, fun q hq => ?_⟩ (by omega) ?_ leP
     ·rcases Nat.lt_or_ge q z with e | e
      ·exact hms q e
      ·have : q = z := by omega
       subst this
       exact decide_eq_true hh'
     ·have hd : decide ((x.evs.getD (S.getD (z : Int).toNat 0).toNat default).hart = (x.evs.getD n default).hart) = true := decide_eq_true hh'
      refine uH rfl (uH (by rw [← hd]; rfl) ?_)
      exact leP
   ·refine uB (aoR fun _ => ?_)
    refine q37 (uD (uC (uB ?_))); refine cnd ?_ ?_
    refine uE fun _ => ?_; try (exfalso; omega)
    refine uG fun _ => ?_; try (exfalso; omega)
    refine vV ?_
    iterate 2 refine wJ ?_
    refine yE ?_; refine xN ?_; refine uC (aoR fun _ => ?_)
    refine q36 ?_; refine q11 (uD (uC ?_)); rotate_left
    refine uY (j + 1) ⟨by omega, fun q hq => ?_⟩ (by omega) leP leP
    rcases Nat.lt_or_ge q j with e | e
    ·exact hrows q e
    ·have : q = j := by omega
     subst this
     rw [hrow, List.all_eq_true]
     intro w hw
     obtain ⟨y, hy, rfl⟩ := List.mem_iff_getElem.1 hw
     have := hms y (by omega)
     rwa [List.getD_eq_getElem?_getD, List.getElem?_eq_getElem hy] at this
theorem info_b : (Tryz.prog.info? 4).map (fun i => (i.zero, i.size, i.bytes)) = some (some (.bool false), 1, 1) := by kernel_rfl
def ledTo (l : List (Int × Int)) (g : Gone) (p k : Nat) : Bool := ledB (l.take k) g p
theorem ledTo_succ (l : List (Int × Int)) (g : Gone) (p : Nat) {k : Nat} (hk : k < l.length) : ledTo l g p (k + 1) = (ledTo l g p k || ((l.getD k (0, 0)).2 == (p : Int) && !g (l.getD k (0, 0)).1.toNat)) := by
 unfold ledTo ledB
 rw [List.take_succ_eq_append_getElem hk, List.any_append, List.getD_eq_getElem?_getD, List.getElem?_eq_getElem hk]
 simp
theorem ledTo_len (l : List (Int × Int)) (g : Gone) (p : Nat) : ledTo l g p l.length = ledB l g p := by unfold ledTo; rw [List.take_length]
def goneTo (l : List (Int × Int)) (n k : Nat) : Bool := (List.range k).all (fun p => roundsTo l n n p)
theorem goneTo_succ (l : List (Int × Int)) (n k : Nat) : goneTo l n (k + 1) = (goneTo l n k && roundsTo l n n k) := by simp [goneTo, List.range_succ]
theorem goneTo_len (l : List (Int × Int)) (n : Nat) : circleB n l = !goneTo l n n := by
 unfold circleB goneTo
 rw [List.not_all_eq_any_not]
theorem goneTo_false (l : List (Int × Int)) (n k : Nat) (hk : k < n) (h : roundsTo l n n k = false) : circleB n l = true := by
 unfold circleB
 rw [List.any_eq_true]
 exact ⟨k, by simpa using hk, by rw [h]; rfl⟩
def gv (g : Gone) : Nat → Value := fun i => .bool (g i)
set_option maxRecDepth 100000 in
set_option maxHeartbeats 2000000 in
theorem circle_c (n : Nat) (s : Sl) (l : List (Int × Int)) (w : World) (hl : PairsZ w.heap.size w s l) (hn : n ≤ 64) (hok : l.any (outB n) = false) (hlen : l.length ≤ 4096) :
  Calls Tryz.prog 40 #[.int .i64 (n : Int), .slice s.a s.n s.c] w fun e w' => e = .returned (.bool (circleB n l)) ∧ Below w.heap.size w w' := by
 obtain ⟨res, hres⟩ : ∃ z : Bool, circleB n l = z := ⟨_, rfl⟩
 rw [hres]
 have RES := Lib.hid hres
 clear hres
 have hmk := run_make_row' (P := Tryz.prog) 91 4 (.bool false) 1 Tryz.underlying91 info_b rfl .i64 .i64 n (by omega) (by omega)
 obtain ⟨sa, sn, sc⟩ := s
 obtain ⟨hsn, hls, hrow⟩ := hl
 dsimp only at hsn hrow
 subst hsn
 have HROW := Lib.hid hrow
 have HOK := Lib.hid hok
 clear hrow hok
 go_enter Tryz.func40, Tryz.ntmps40
 go_wp2
 go_loopw [6] (fun i wr => ∃ r : Nat, r ≤ n ∧ i = .int .i64 r ∧ wr.rowIs w.heap.size 4 n (gv (roundsTo l n r)) ∧ Below w.heap.size w wr) (fun i _ => n - (intOf i).toNat)
 case atStart => exact ⟨0, by omega, rfl, World.rowIs_made _ _ _ _, (Below.refl _ _).alloc (Nat.le_refl _) _⟩
 case round =>
  obtain ⟨r, hr, rfl, hg, hb⟩ := hrel
  rename World => wo
  clear hmk
  by_cases hlt : r < n
  ·have HG := Lib.hid hg
   clear hg
   go_wp2
   go_loopw [7] (fun j wr => ∃ p : Nat, p ≤ n ∧ j = .int .i64 p ∧ wr.rowIs w.heap.size 4 n (gv (passTo l (roundsTo l n r) p)) ∧ Below w.heap.size w wr) (fun j _ => n - (intOf j).toNat)
   case atStart => exact ⟨0, by omega, rfl, HG.out, hb⟩
   case round =>
    obtain ⟨p, hp, rfl, hg2, hb2⟩ := hrel
    rename World => wp
    obtain ⟨g, hgE⟩ : ∃ g, passTo l (roundsTo l n r) p = g := ⟨_, rfl⟩
    rw [hgE] at hg2
    have HGE := Lib.hid hgE
    have HG2 := Lib.hid hg2
    clear hgE hg2 hb HG
    by_cases hlp : p < n
    ·go_wp2
     go_loop [8, 9] (fun ld i => ∃ k : Nat, k ≤ l.length ∧ i = .int .i64 k ∧ ld = .bool (ledTo l g p k)) (fun _ i => l.length - (intOf i).toNat)
     case atStart => exact ⟨0, by omega, rfl, rfl⟩
     case round =>
      obtain ⟨k, hk, rfl, rfl⟩ := hrel
      obtain ⟨ld, hld⟩ : ∃ z : Bool, ledTo l g p k = z := ⟨_, rfl⟩
      rw [hld]
      have HLD := Lib.hid hld
      clear hld
      by_cases hlk : k < l.length
      ·obtain ⟨b, off, rfl, hbB, hcl⟩ := HROW.out.resolve_left (by intro h; rw [h] at hlk; simp at hlk)
       obtain ⟨⟨pa, pb⟩, hq⟩ : ∃ p, l.getD k (0, 0) = p := ⟨_, rfl⟩
       have cc := hcl k hlk
       rw [hq] at cc
       dsimp only at cc
       have q0 : wp.cell? ⟨b, off + k * 2, none⟩ = some (.int .i64 pa) := by rw [hb2.cell (p := ⟨b, off + k * 2, none⟩) hbB]; exact cc.1
       have q1 : wp.cell? ⟨b, off + k * 2 + 1, none⟩ = some (.int .i64 pb) := by rw [hb2.cell (p := ⟨b, off + k * 2 + 1, none⟩) hbB]; exact cc.2
       have hin : 0 ≤ pa ∧ pa < n := by
        have hx : outB n (pa, pb) = false := by
         have := HOK.out
         rw [List.any_eq_false] at this
         have h2 := this (pa, pb) (by rw [← hq, List.getD_eq_getElem?_getD, List.getElem?_eq_getElem hlk]; exact List.getElem_mem hlk)
         simpa using h2
        unfold outB at hx
        simp only [Bool.or_eq_false_iff, decide_eq_false_iff_not] at hx
        omega
       obtain ⟨a, rfl⟩ : ∃ a : Nat, pa = a := ⟨pa.toNat, by omega⟩
       have hla : a < n := by omega
       obtain ⟨ga, hga⟩ : ∃ z : Bool, g a = z := ⟨_, rfl⟩
       have q2 : wp.cell? ⟨w.heap.size, a, none⟩ = some (.bool ga) := by rw [← hga]; exact HG2.out.cell hla
       obtain ⟨eb, heb⟩ : ∃ bool_ : Bool, (pb == (p : Int)) = bool_ := ⟨_, rfl⟩
       have HS : Hid (ledTo l g p (k + 1) = (ld || (eb && !ga))) := Lib.hid (by rw [ledTo_succ l g p hlk, HLD.out, hq, Int.toNat_natCast, hga, heb])
       clear hcl cc hq hga
       cases ld <;> cases eb <;> cases ga
       all_goals
        go_wp2
        go_round
        case rel => exact ⟨k + 1, by omega, by go_num, by rw [HS.out]; rfl⟩
        case measure => simp [intOf]; omega
      ·have hke : k = l.length := by omega
       have HL : Hid (ledB l g p = ld) := Lib.hid (by rw [← ledTo_len, ← hke]; exact HLD.out)
       clear hke
       cases ld with
       | true =>
        go_wp2
        go_roundw
        case rel => exact ⟨p + 1, by omega, by go_num, by rw [yP, HGE.out]; unfold takeP; rw [HL.out]; exact HG2.out, hb2⟩
        case measure => simp [intOf]; omega
       | false =>
        have hf := HG2.out.frozen p
        have hc := HG2.out.cell hlp
        have hlt2 := HG2.out.lt
        go_wp2
        go_roundw
        case rel =>
         refine ⟨p + 1, by omega, by go_num, ?_, ?_⟩
         ·rw [yP, HGE.out]; unfold takeP; rw [HL.out]
          refine (HG2.out.set p (.bool true)).congr (fun i _ => ?_)
          show (if i = p then Value.bool true else .bool (g i)) = .bool (if i = p then true else g i)
          split <;> rfl
         ·exact hb2.setCell (by simp) _
        case measure => simp [intOf]; omega
    ·have hpe : p = n := by omega
     go_wp2
     go_roundw
     case rel => exact ⟨r + 1, by omega, by go_num, by (have := HG2.out); rw [← HGE.out, hpe] at this; exact this, hb2⟩
     case measure => simp [intOf]; omega
  ·have hre : r = n := by omega
   have HG : Hid (wo.rowIs w.heap.size 4 n (gv (roundsTo l n n))) := Lib.hid (by rw [← hre]; rw [← hre] at hg; exact hg)
   clear hg
   go_wp2
   go_loop [10] (fun i => ∃ k : Nat, k ≤ n ∧ i = .int .i64 k ∧ goneTo l n k = true) (fun i => n - (intOf i).toNat)
   case atStart => exact ⟨0, by omega, rfl, rfl⟩
   case round =>
    obtain ⟨k, hk, rfl, hgt⟩ := hrel
    have HGT := Lib.hid hgt
    clear hgt
    by_cases hlk : k < n
    ·obtain ⟨gk, hgk⟩ : ∃ z : Bool, roundsTo l n n k = z := ⟨_, rfl⟩
     have q2 : wo.cell? ⟨w.heap.size, k, none⟩ = some (.bool gk) := by rw [← hgk]; exact HG.out.cell hlk
     have HGK := Lib.hid hgk
     clear hgk
     cases gk with
     | true =>
      go_wp2
      go_round
      case rel => exact ⟨k + 1, by omega, by go_num, by rw [goneTo_succ, HGT.out, HGK.out]; rfl⟩
      case measure => simp [intOf]; omega
     | false =>
      go_wp2
      go_ret
      exact ⟨uZ (by rw [← RES.out, goneTo_false l n k hlk HGK.out]), hb⟩
    ·have hke : k = n := by omega
     have F : Hid (res = false) := Lib.hid (by rw [← RES.out, goneTo_len, ← hke]; rw [← hke] at HGT; rw [HGT.out]; rfl)
     go_wp2
     go_ret
     exact ⟨uZ F.out.symm, hb⟩
end Go.Proofs.YtnkocjkkefnelaaGreat
