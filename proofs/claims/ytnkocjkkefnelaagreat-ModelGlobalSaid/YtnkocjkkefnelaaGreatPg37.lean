/- Parts. -/
import Derived.Maps.Views
import Derived.Test.YtnkocjkkefnelaaGreatPg4
import Derived.Test.YtnkocjkkefnelaaGreatPg6
import Derived.Test.YtnkocjkkefnelaaGreatPg8
import Derived.Test.YtnkocjkkefnelaaGreatPg12
import Derived.Test.YtnkocjkkefnelaaGreatPg15
import Derived.Test.YtnkocjkkefnelaaGreatPg33
import Derived.Test.YtnkocjkkefnelaaGreatPg36
set_option linter.unusedVariables false
set_option linter.unusedSimpArgs false
set_option maxHeartbeats 4000000
namespace Go.Proofs.YtnkocjkkefnelaaGreat
open Go.RowKit Go.Maps
section
variable (N : Nat) (fe : Nat → Bool) (L : List (Int × Int))
def gback (o : List Int) (n : Nat) (p : Int × Int) : Bool := decide (p.2 = (n : Int)) && !o.contains p.1
def gfree (o : List Int) (n : Nat) : Bool := !fe n && !o.contains (n : Int) && L.all fun p => !gback o n p
def gnext (o : List Int) : Option Nat := (List.range N).find? (gfree fe L o)
def grun : Nat → List Int → List Int × Bool
 | 0, o => (o, true)
 | k + 1, o => match gnext N fe L o with
  | none => ([], false)
  | some n => grun k (o ++ [(n : Int)])
def gmany (i : Nat) : Nat := ((List.range i).filter fun n => !fe n).length
def gsince (o : List Int) (m : Nat) : Int := match (List.range' m (N - m)).find? (gfree fe L o) with
 | none => -1
 | some n => n
def gleft (o : List Int) (n : Nat) : Bool := decide (n < N) && !fe n && !o.contains (n : Int)
end
variable {N : Nat} {fe : Nat → Bool} {L : List (Int × Int)} {o : List Int}
theorem jI (i : Nat) : gmany fe (i + 1) = gmany fe i + if fe i then 0 else 1 := by
 unfold gmany
 rw [List.range_succ, List.filter_append, List.length_append]
 cases h : fe i <;> simp [h]
theorem eH (i : Nat) : gmany fe i ≤ i := by
 unfold gmany
 exact Nat.le_trans (List.length_filter_le _ _) (by simp)
theorem gsince_top : gsince N fe L o N = -1 := by unfold gsince; simp
theorem gsince_step {m : Nat} (h : m < N) : gsince N fe L o m = if gfree fe L o m then (m : Int) else gsince N fe L o (m + 1) := by
 unfold gsince
 rw [show N - m = N - (m + 1) + 1 by omega, List.range'_succ, List.find?_cons]
 cases gfree fe L o m <;> rfl
theorem gsince_all : gsince N fe L o 0 = match gnext N fe L o with
  | none => -1
  | some n => (n : Int) := by
 unfold gsince gnext
 rw [Nat.sub_zero, ← List.range_eq_range']
theorem gsince_bd (m : Nat) : -1 ≤ gsince N fe L o m ∧ gsince N fe L o m < N := by
 unfold gsince
 split
 ·omega
 ·rename_i n hn
  have h1 := List.mem_of_find?_eq_some hn
  rw [List.mem_range'] at h1
  obtain ⟨i, h1, h2⟩ := h1
  omega
structure GTaken (N : Nat) (fe : Nat → Bool) (L : List (Int × Int)) (o : List Int) : Prop where
 nodup : o.Nodup
 real : ∀ z ∈ o, ∃ a : Nat, z = (a : Int) ∧ a < N ∧ fe a = false
 closed : ∀ p ∈ L, o.contains p.2 = true → o.contains p.1 = true
theorem GTaken.nil : GTaken N fe L [] := ⟨List.nodup_nil, fun z h => (by cases h), fun p _ h => (by simp at h)⟩
theorem jH {n : Nat} (h : gnext N fe L o = some n) : n < N ∧ gfree fe L o n = true := by
 unfold gnext at h
 exact ⟨by simpa using List.mem_of_find?_eq_some h, List.find?_some h⟩
theorem zX {n : Nat} : gfree fe L o n = true ↔ fe n = false ∧ o.contains (n : Int) = false ∧ ∀ p ∈ L, gback o n p = false := by
 unfold gfree
 simp only [Bool.and_eq_true, Bool.not_eq_true', List.all_eq_true]
 constructor
 ·rintro ⟨⟨h1, h2⟩, h3⟩; exact ⟨h1, h2, h3⟩
 ·rintro ⟨h1, h2, h3⟩; exact ⟨⟨h1, h2⟩, h3⟩
theorem xE (o : List Int) (n z : Int) : (o ++ [n]).contains z = (o.contains z || decide (z = n)) := by
 rw [Bool.eq_iff_iff]
 simp
theorem GTaken.step (h : GTaken N fe L o) {n : Nat} (hn : n < N) (hf : gfree fe L o n = true) : GTaken N fe L (o ++ [(n : Int)]) := by
 obtain ⟨h1, h2, h3⟩ := zX.1 hf
 refine ⟨List.nodup_append.2 ⟨h.nodup, by simp, fun a ha b hb e => ?_⟩, fun z hz => ?_, fun p hp => ?_⟩
 ·have : b = (n : Int) := by simpa using hb
  subst this; subst e
  have : o.contains (n : Int) = true := by simpa using ha
  rw [h2] at this; cases this
 ·rcases List.mem_append.1 hz with hz | hz
  ·exact h.real z hz
  ·exact ⟨n, by simpa using hz, hn, h1⟩
 ·rw [xE, xE]
  intro hc
  rcases Bool.or_eq_true _ _ ▸ hc with hc | hc
  ·rw [h.closed p hp hc]; rfl
  ·have := h3 p hp
   unfold gback at this
   rw [of_decide_eq_true hc] at this
   simp only [decide_true, Bool.true_and, Bool.not_eq_false'] at this
   rw [this]; rfl
def gcnt (L : List (Int × Int)) (o : List Int) (n : Nat) : Nat := L.countP (gback o n)
theorem gcnt_zero {n : Nat} : gcnt L o n = 0 ↔ ∀ p ∈ L, gback o n p = false := by
 unfold gcnt
 rw [List.countP_eq_zero]
 constructor
 ·intro h p hp; simpa using h p hp
 ·intro h p hp; simp [h p hp]
theorem gfree_left {n : Nat} (hn : n < N) : gfree fe L o n = (gleft N fe o n && decide (gcnt L o n = 0)) := by
 rw [Bool.eq_iff_iff, zX]
 unfold gleft
 rw [← gcnt_zero]
 simp only [Bool.and_eq_true, decide_eq_true_eq, Bool.not_eq_true']
 constructor
 ·rintro ⟨h1, h2, h3⟩; exact ⟨⟨⟨hn, h1⟩, h2⟩, h3⟩
 ·rintro ⟨⟨⟨_, h1⟩, h2⟩, h3⟩; exact ⟨h1, h2, h3⟩
def gturn (L : List (Int × Int)) (o : List Int) (n : Nat) (k m : Nat) : Nat := (L.take k).countP (gback (o ++ [(n : Int)]) m) + (L.drop k).countP (gback o m)
theorem gturn_zero (n m : Nat) : gturn L o n 0 m = gcnt L o m := by unfold gturn gcnt; simp
theorem gturn_all (n m : Nat) : gturn L o n L.length m = gcnt L (o ++ [(n : Int)]) m := by unfold gturn gcnt; simp
theorem gturn_le (n k m : Nat) : gturn L o n k m ≤ L.length := by
 unfold gturn
 have h1 := List.countP_le_length (p := gback (o ++ [(n : Int)]) m) (l := L.take k)
 have h2 := List.countP_le_length (p := gback o m) (l := L.drop k)
 rw [List.length_take] at h1
 rw [List.length_drop] at h2
 omega
theorem gcnt_le (m : Nat) : gcnt L o m ≤ L.length := List.countP_le_length
theorem dC (n : Nat) {k : Nat} (hk : k < L.length) (m : Nat) : gturn L o n (k + 1) m + (if gback o m (L.getD k default) then 1 else 0) = gturn L o n k m + (if gback (o ++ [(n : Int)]) m (L.getD k default) then 1 else 0) := by
 have e : L[k] = L.getD k default := by rw [List.getD_eq_getElem?_getD, List.getElem?_eq_getElem hk]; rfl
 unfold gturn
 rw [List.drop_eq_getElem_cons hk, vZ L default k hk, List.countP_append]
 simp only [List.countP_cons, List.countP_nil, e]
 omega
theorem lM {n k : Nat} (hk : k < L.length) (ho : o.contains (n : Int) = false) (hA : (L.getD k default).1 = (n : Int)) {b : Nat} (hB : (L.getD k default).2 = (b : Int)) :
  gturn L o n (k + 1) b + 1 = gturn L o n k b ∧ ∀ m, m ≠ b → gturn L o n (k + 1) m = gturn L o n k m := by
 have h1 := dC (o := o) n hk b
 unfold gback at h1
 rw [hA, hB, xE, ho] at h1
 simp at h1
 refine ⟨by omega, fun m hm => ?_⟩
 have h2 := dC (o := o) n hk m
 unfold gback at h2
 rw [hB] at h2
 have : ¬ (b : Int) = (m : Int) := fun e => hm (by omega)
 simp [this] at h2
 exact h2
theorem gturn_no {n k : Nat} (hk : k < L.length) (hA : ¬ (L.getD k default).1 = (n : Int)) (m : Nat) : gturn L o n (k + 1) m = gturn L o n k m := by
 have h2 := dC (o := o) n hk m
 unfold gback at h2
 rw [xE, decide_eq_false hA, Bool.or_false] at h2
 omega
def gfirst (L : List (Int × Int)) (k m : Nat) : Nat := (L.take k).countP (gback [] m)
theorem gfirst_all (m : Nat) : gfirst L L.length m = gcnt L [] m := by unfold gfirst gcnt; simp
theorem gfirst_le (k m : Nat) : gfirst L k m ≤ L.length := Nat.le_trans List.countP_le_length (by rw [List.length_take]; omega)
theorem gO {k : Nat} (hk : k < L.length) {b : Nat} (hB : (L.getD k default).2 = (b : Int)) : gfirst L (k + 1) b = gfirst L k b + 1 ∧ ∀ m, m ≠ b → gfirst L (k + 1) m = gfirst L k m := by
 have e : L[k] = L.getD k default := by rw [List.getD_eq_getElem?_getD, List.getElem?_eq_getElem hk]; rfl
 have step : ∀ m, gfirst L (k + 1) m = gfirst L k m + if decide ((b : Int) = (m : Int)) then 1 else 0 := fun m => by
  unfold gfirst
  rw [vZ L default k hk, List.countP_append, List.countP_singleton]
  unfold gback
  rw [hB]
  simp
 refine ⟨by rw [step b]; simp, fun m hm => ?_⟩
 rw [step m, decide_eq_false (fun e => hm (by omega))]; rfl
def MapZ (K : Nat → Bool) (c : Nat → Nat) (s : Nat) (D : DataW Unit) : Prop := Tidy D ∧ Maps.size D = s ∧ (∀ kl, has D kl = true ↔ ∃ a : Nat, K a = true ∧ kl = .int .i64 (a : Int)) ∧ ∀ a, K a = true → ∀ zd, D.atKey (.int .i64 (a : Int)) zd = .lit (.int .i64 (c a : Int))
theorem fJ (a : Int) : WideAt.IsKeyLit (.int .i64 a) := trivial
theorem rW {a b : Nat} (h : Lit.int .i64 (a : Int) = .int .i64 (b : Int)) : a = b := by
 injection h with _ h
 omega
theorem MapZ.start : MapZ (fun _ => false) (fun _ => 0) 0 (.map []) := ⟨tidy_empty, rfl, fun kl => by simp [Maps.has], fun a h => by cases h⟩
theorem MapZ.congr {K K' : Nat → Bool} {c c' : Nat → Nat} {s s' : Nat} {D : DataW Unit} (h : MapZ K c s D) (h1 : ∀ a, K' a = K a) (h2 : ∀ a, K a = true → c' a = c a) (h3 : s' = s) : MapZ K' c' s' D := by
 obtain ⟨q1, q2, q3, q4⟩ := h
 have e : K' = K := funext h1
 subst e h3
 exact ⟨q1, q2, q3, fun a ha zd => by rw [q4 a ha zd, h2 a ha]⟩
theorem MapZ.add {K : Nat → Bool} {c : Nat → Nat} {s : Nat} {D : DataW Unit} (h : MapZ K c s D) {a : Nat} (ha : K a = false) (v : Nat) :
  MapZ (fun m => K m || decide (m = a)) (fun m => if m = a then v else c m) (s + 1) (D.put (.int .i64 (a : Int)) (.lit (.int .i64 (v : Int)))) := by
 obtain ⟨q1, q2, q3, q4⟩ := h
 have hno : has D (.int .i64 (a : Int)) = false := by
  cases hh : has D (.int .i64 (a : Int)) with
  | false => rfl
  | true =>
   obtain ⟨b, hb, e⟩ := (q3 _).1 hh
   rw [← rW e, ha] at hb; cases hb
 refine ⟨q1.put (fJ _) _, by rw [size_put q1, hno, q2]; rfl, fun kl => ?_, fun m hm zd => ?_⟩
 ·by_cases e : kl = .int .i64 (a : Int)
  ·subst e
   rw [has_put_same q1.isMap (fJ _)]
   simp only [true_iff]
   exact ⟨a, by simp, rfl⟩
  ·rw [has_put_other e, q3 kl]
   constructor
   ·rintro ⟨b, hb, rfl⟩; exact ⟨b, by simp [hb], rfl⟩
   ·rintro ⟨b, hb, rfl⟩
    refine ⟨b, ?_, rfl⟩
    have : b ≠ a := fun e' => e (by rw [e'])
    simpa [this] using hb
 ·by_cases e : m = a
  ·subst e
   rw [atKey_put_same q1.isMap (fJ _)]; simp
  ·rw [atKey_put_other (fun h => e (rW h))]; simp only [if_neg e]
   exact q4 m (by simpa [e] using hm) zd
theorem MapZ.set {K : Nat → Bool} {c : Nat → Nat} {s : Nat} {D : DataW Unit} (h : MapZ K c s D) {a : Nat} (ha : K a = true) (v : Nat) :
  MapZ K (fun m => if m = a then v else c m) s (D.put (.int .i64 (a : Int)) (.lit (.int .i64 (v : Int)))) := by
 obtain ⟨q1, q2, q3, q4⟩ := h
 have hno : has D (.int .i64 (a : Int)) = true := (q3 _).2 ⟨a, ha, rfl⟩
 refine ⟨q1.put (fJ _) _, by rw [size_put q1, hno, q2]; rfl, fun kl => ?_, fun m hm zd => ?_⟩
 ·by_cases e : kl = .int .i64 (a : Int)
  ·subst e
   rw [has_put_same q1.isMap (fJ _)]
   simp only [true_iff]
   exact ⟨a, ha, rfl⟩
  ·rw [has_put_other e, q3 kl]
 ·by_cases e : m = a
  ·subst e
   rw [atKey_put_same q1.isMap (fJ _)]; simp
  ·rw [atKey_put_other (fun h => e (rW h))]; simp only [if_neg e]
   exact q4 m hm zd
theorem MapZ.cut {K : Nat → Bool} {c : Nat → Nat} {s : Nat} {D : DataW Unit} (h : MapZ K c s D) {a : Nat} (ha : K a = true) :
  MapZ (fun m => K m && !decide (m = a)) c (s - 1) (D.del (.int .i64 (a : Int))) := by
 obtain ⟨q1, q2, q3, q4⟩ := h
 have hno : has D (.int .i64 (a : Int)) = true := (q3 _).2 ⟨a, ha, rfl⟩
 have hs := size_del (k := .int .i64 (a : Int)) q1
 rw [hno] at hs
 refine ⟨q1.del _, by simp at hs; omega, fun kl => ?_, fun m hm zd => ?_⟩
 ·by_cases e : kl = .int .i64 (a : Int)
  ·subst e
   rw [has_del_same]
   simp only [Bool.false_eq_true, false_iff, not_exists, not_and]
   intro b hb e
   rw [← rW e] at hb
   simp at hb
  ·rw [has_del_other e, q3 kl]
   constructor
   ·rintro ⟨b, hb, rfl⟩
    have : b ≠ a := fun e' => e (by rw [e'])
    exact ⟨b, by simp [hb, this], rfl⟩
   ·rintro ⟨b, hb, rfl⟩; exact ⟨b, by simp at hb; exact hb.1, rfl⟩
 ·have hm' : K m = true ∧ m ≠ a := by simpa using hm
  rw [atKey_del_other (fun h => hm'.2 (rW h))]
  exact q4 m hm'.1 zd
end Go.Proofs.YtnkocjkkefnelaaGreat
namespace Go.Proofs.YtnkocjkkefnelaaGreat
open Go.RowKit
open Go.RowKit Go.Maps
def feB (x : Ex) (n : Nat) : Bool := decide ((x.evs.getD n default).kind = 4)
def gloT (x : Ex) : List Int × Bool := if checkI x = 0 then grun x.evs.length (feB x) (gloL x) (gmany (feB x) x.evs.length) [] else ([], false)
theorem glo_ends {x : Ex} (h : x.rel) : ∀ p ∈ gloL x, ∃ a b : Nat, p = ((a : Int), (b : Int)) ∧ a < x.evs.length ∧ b < x.evs.length ∧ feB x b = false := fun p hp => by
 obtain ⟨a, b, h1, h2, h3, rfl⟩ := vG.1 hp
 refine ⟨a, b, rfl, h1, h2, ?_⟩
 have st : (x.evs.getD b default).stB = true → feB x b = false := fun h => by
  unfold Ev.stB at h
  unfold feB
  simp at h ⊢
  omega
 have ld : (x.evs.getD b default).ldB = true → feB x b = false := fun h => by
  unfold Ev.ldB at h
  unfold feB
  simp at h ⊢
  omega
 unfold globB glob at h3
 simp only [Bool.or_eq_true, Bool.and_eq_true] at h3
 rcases h3 with ((h3 | h3) | h3) | ⟨h3, _⟩
 ·obtain ⟨r, _, hr⟩ := List.any_eq_true.1 h3
  unfold ruleB at hr
  have hr := (Bool.and_eq_true _ _ ▸ hr).1
  unfold pairOf accB at hr
  simp only [Bool.and_eq_true, Bool.not_eq_true'] at hr
  exact hr.1.1.2.2
 ·unfold isCoB at h3
  simp only [Bool.and_eq_true] at h3
  exact st h3.1.1.2
 ·unfold isFrB isCoB at h3
  simp only [Bool.and_eq_true] at h3
  exact st h3.2.1.1.2
 ·unfold isRf at h3
  simp only [Bool.and_eq_true] at h3
  exact ld h3.1
set_option maxRecDepth 100000
open Go.RowKit Go.Shelf Go.Maps Go.Sort
def KeysArI {H : Type} (D0 : DataW H) (ss : List Int) : Prop := ss.Nodup ∧ ∀ x, x ∈ ss ↔ has D0 (.int .i64 x) = true
def CollectedI {H : Type} (D0 : DataW H) (left : Lit → Bool) (ss : List Int) : Prop := ss.Nodup ∧ ∀ x, x ∈ ss ↔ (has D0 (.int .i64 x) = true ∧ left (.int .i64 x) = false)
theorem CollectedI.start {H : Type} (D0 : DataW H) : CollectedI D0 (has D0) [] := ⟨List.nodup_nil, fun x => by cases has D0 (.int .i64 x) <;> simp⟩
theorem CollectedI.step {H : Type} {D0 : DataW H} {left : Lit → Bool} {ss : List Int} (h : CollectedI D0 left ss) {x : Int} {y : DataW H} (hlk : left (.int .i64 x) = true) (hat : ∀ zd, D0.atKey (.int .i64 x) zd = y) :
  CollectedI D0 (fun z => left z && !z.sameKey (.int .i64 x)) (ss ++ [x]) := by
 have hhas : has D0 (.int .i64 x) = true := has_true_of_atKey hat
 have hnew : x ∉ ss := fun hx => by have := ((h.2 x).1 hx).2; rw [hlk] at this; cases this
 refine ⟨List.nodup_append.2 ⟨h.1, by simp, fun a ha b hb => by simp at hb; subst hb; exact fun e => hnew (e ▸ ha)⟩, fun y => ?_⟩
 by_cases hy : y = x
 ·subst hy; simp [hhas, Lit.sameKey]
 ·simp [h.2 y, hy, Lit.sameKey]
theorem CollectedI.done {H : Type} {D0 : DataW H} {left : Lit → Bool} {ss : List Int} (h : CollectedI D0 left ss) (hl : ∀ kl, left kl = false) : KeysArI D0 ss := ⟨h.1, fun x => by rw [h.2 x, hl]; simp⟩
theorem oI : Keyed Tryz.prog 3 := int_keyed Tryz.underlying3
set_option maxRecDepth 100000 in
set_option maxHeartbeats 1000000 in
theorem keys1_i {H : Type} (F : Fence) (hF : ∀ f, F.fn f) (n : Nat) (hro : F.round = none) (hn : 1 ≤ n) (l Bm of b nn : Nat) (D0 : DataW H) (J Jx : List Int → World → Prop)
  (hY : ∀ pre x W, J pre W → pre.length < Maps.size D0 → YieldAt F (n - 1) Tryz.prog l #[.int .i64 x] W fun e W' =>
   (e = .returned (.bool true) ∧ J (pre ++ [x]) W' ∧ KeepsWalks W W') ∨ (e = .returned (.bool false) ∧ Jx (pre ++ [x]) W'))
  (W : World) (hJ : AbidesFrom W.heap.size J) (hm : W.cell? ⟨Bm, of, none⟩ = some (.map (some b))) (hown : W.ownsMap Tryz.prog 3 (plainElem Tryz.prog 3) b nn D0) (h0 : J [] W) :
  CallsIn F n Tryz.prog 72 #[.func (.yield l) #[] #[], .pointer (some ⟨Bm, of, none⟩)] W fun e W' => (∃ v, e = .returned v) ∧
   ((∃ ss : List Int, KeysArI D0 ss ∧ J ss W') ∨ (∃ pre : List Int, True ∧ Jx pre W')) := by
 refine callsIn_of_wp Tryz.func72 rfl (hF _) ?_ hro
 simp only [Tryz.ntmps72, List.size_toArray, List.length_cons, List.length_nil, Nat.reduceAdd, Nat.reduceSub, Array.replicate_succ, Array.replicate_zero, List.push_toArray, List.append_toArray, List.nil_append, List.cons_append]
 gi_wp2_with (first
  | (gi_at_range; refine wpListIn_range_own _ rfl _ 78 rfl 3 3 oI Tryz.underlying78 _ b nn _ rfl hown ?_; intro w0 hrg0 hg0 hs0)
  | gi_in)
 go_frame
 gi_loopw [3] (fun _ wr => ∃ (left : Lit → Bool) (cnt : Nat) (ss : List Int), wr.ranges Tryz.prog 3 (plainElem Tryz.prog 3) b W.heap.size nn D0 left cnt ∧ ss.length + cnt ≤ Maps.size D0 ∧ CollectedI D0 left ss ∧ J ss wr)
  (fun _ wr => wr.rangeLeft b W.heap.size)
 case atStart =>
  exact ⟨_, _, [], hrg0, by simp, CollectedI.start D0, hJ [] W w0 none h0 hg0 (fun r e => by cases e)⟩
 case round =>
  obtain ⟨left, cnt, ss, hrg, hcs, hC, hJs⟩ := hrel
  gi_wp2_with (first
   | (gi_at_next; refine wpListIn_next_ranges_ii _ rfl _ rfl 3 3 .i64 .i64 oI Tryz.underlying3 Tryz.underlying3 b W.heap.size nn _ _ _ rfl hrg ?_ ?_)
   | gi_in)
  ·intro hc0 hl0
   gi_wp2
   go_end0
   exact ⟨⟨_, rfl⟩, .inl ⟨ss, hC.done hl0, hJs⟩⟩
  ·intro x c w2 cnt2 hwx hwc hlk hat hrg2 hlt hg2 hs2 hen
   have hJ2 : J ss w2 := hJ ss wr w2 (some W.heap.size) hJs hg2 (fun r e => by cases e; exact ⟨Nat.le_refl _, hrg.iter_walk⟩)
   obtain ⟨fn, tmps, assign, body, hy, hR⟩ := hY ss x w2 hJ2 (by omega)
   clear hs2
   gi_wp2
   refine hR.mono ?_
   rintro e W3 (⟨rfl, hJ3, hk3⟩ | ⟨rfl, hJx3⟩)
   ·gi_wp2
    have hrg3 := hrg2.of_walks hk3
    go_roundw
    case rel => exact ⟨_, cnt2, ss ++ [x], hrg3, by simp; omega, hC.step hlk hat, hJ3⟩
    case measure => rw [hrg3.left_eq, hrg.left_eq]; exact hlt
   ·gi_wp2
    refine bodyPost_ret (results_none rfl _ _ _) rfl ?_
    exact ⟨⟨_, rfl⟩, .inr ⟨_, trivial, hJx3⟩⟩
theorem keysI_stops {H : Type} (F : Fence) (hF : ∀ f, F.fn f) (n : Nat) (hro : F.round = none) (hn : 1 ≤ n) (Bm of b nn : Nat) (D0 : DataW H) (w : World) (hBm : Bm < w.heap.size)
  (hm : w.cell? ⟨Bm, of, none⟩ = some (.map (some b))) (hown : w.ownsMap Tryz.prog 3 (plainElem Tryz.prog 3) b nn D0) :
  SeqStopsK F n Tryz.prog 72 #[.pointer (some ⟨Bm, of, none⟩)] (fun x : Int => #[.int .i64 x]) KeepsWalks (KeysArI D0) (fun _ => True) (Maps.size D0) w := fun l J Jx W hW hJ hJx hY h0 => by
 have hown' : W.ownsMap Tryz.prog 3 (plainElem Tryz.prog 3) b nn D0 := by
  have hbl := hown.lt
  obtain ⟨es, clock, hb, Ft, hs, hD⟩ := hown
  exact ⟨es, clock, (hW.block b hbl).trans hb, Ft, hs, hD⟩
 exact keys1_i F hF n hro hn l Bm of b nn D0 J Jx hY W hJ ((hW.cell (p := ⟨Bm, of, none⟩) hBm).trans hm) hown' h0
section
variable {P : Program} {v j : Nat} {tm : Tm} {σ : Store} {dst : Option Tmp} {ty : TypeId} {pos : String} {af : Array Edge} {gd : Option (Nat × Bool)}
theorem mapUpdateC_ok {T k e : TypeId} {q : IntKind} {Jm Jn : Nat → Nat → DataW Unit → Prop} {K : Tm → Store → Prop} {m x z : Operand} {i : Nat} {g : Gh} {b : Nat} {y : OV} {kl : Lit} {c : Int} (KL : Keyed P k) (hT : P.underlying T = some (.map k e)) (he : P.underlying e = some (.int q)) (hwf : (Lit.int q c).wf = true)
  (hm : ev tm m = some (.d (.c (.map (some b))))) (hx : ev tm x = some y) (hy : IsKeyV P k y kl) (hz : ev tm z = some (.int q c)) (hg : tm GS = some (.gh i (mapY P k e g b Jm))) (hJ : ∀ nn D, IsMap D → Jm i nn D → nn < maxLen ∧ Jn 0 (nn + 1) (D.put kl (.lit (.int q c))))
  (hK : K ((tm.putO dst .un).put GS (.gh 0 (mapY P k e g b Jn))) σ) :
  OpT P v j ⟨dst, .mapUpdate T m x z, ty, pos, af, gd⟩ tm σ K := gW (Y := mapY P k e g b Jm) (b := b) (fun c h => by cases h) hg (fun x => Iff.rfl) fun G ρ w hρ ⟨nn, D, h1, hown⟩ => by
 have r1 := vO (hρ m (by simp [Op.operands]) _ hm)
 have r2 := hy G _ (hρ x (by simp [Op.operands]) _ hx)
 have r3 := vO (hρ z (by simp [Op.operands]) _ hz)
 obtain ⟨n1, n2⟩ := hJ nn D hown.isMap h1
 obtain ⟨w', hrun, hown', es, clock, es', clock', hb, rfl⟩ := hown.store KL hT n1 r2 (plainElem_int he hwf)
 refine ⟨undef, .un, .map es' clock', 0, mapY P k e g b Jn, Or.inr ⟨?_, rfl⟩, iK G, ⟨nn + 1, _, n2, hown'⟩, rfl, fun _ => Iff.rfl, hK⟩
 simp [execOp, r1, r3, hrun, Result.andThen]
 rfl
theorem deleteC_ok {T k e : TypeId} {Jm Jn : Nat → Nat → DataW Unit → Prop} {K : Tm → Store → Prop} {m x : Operand} {i : Nat} {g : Gh} {b : Nat} {y : OV} {kl : Lit} (KL : Keyed P k) (hT : P.underlying T = some (.map k e))
  (hm : ev tm m = some (.d (.c (.map (some b))))) (hx : ev tm x = some y) (hy : IsKeyV P k y kl) (hg : tm GS = some (.gh i (mapY P k e g b Jm))) (hJ : ∀ nn D, IsMap D → Jm i nn D → Jn 0 nn (D.del kl))
  (hK : K ((tm.putO dst (.tu [])).put GS (.gh 0 (mapY P k e g b Jn))) σ) :
  OpT P v j ⟨dst, .call { callee := .builtin .delete, args := #[m, x], argTypes := #[T, k] }, ty, pos, af, gd⟩ tm σ K := gW (Y := mapY P k e g b Jm) (b := b) (fun c h => by cases h) hg (fun x => Iff.rfl) fun G ρ w hρ ⟨nn, D, h1, hown⟩ => by
 have r1 := vO (hρ m (by simp [Op.operands, Call.operands]) _ hm)
 have r2 := hy G _ (hρ x (by simp [Op.operands, Call.operands]) _ hx)
 obtain ⟨w', hrun, hown', es, clock, es', clock', hb, rfl⟩ := hown.drop KL hT r2 ty
 refine ⟨.tuple #[], .tu [], .map es' clock', 0, mapY P k e g b Jn, Or.inl ?_, by rw [RepO]; exact ⟨#[], rfl, by rw [RepOL]⟩, ⟨nn, _, hJ nn D hown.isMap h1, hown'⟩, rfl, fun _ => Iff.rfl, hK⟩
 simp [execOp, resolve, invoke, builtin, r1, hrun, Result.andThen]
 rfl
end
def JZ (K : Nat → Bool) (c : Nat → Nat) (s q : Nat) (_ nn : Nat) (D : DataW Unit) : Prop := nn ≤ q ∧ MapZ K c s D
noncomputable abbrev YZ (K : Nat → Bool) (c : Nat → Nat) (s q : Nat) (g : Gh) (b : Nat) : YJ := mapY E.P 3 3 g b (JZ K c s q)
theorem qL {a : Int} (h1 : -9223372036854775808 ≤ a) (h2 : a < 9223372036854775808) : (Lit.int .i64 a).wf = true := by
 simp only [Lit.wf, IntKind.min, IntKind.max, IntKind.signed, IntKind.bits, Bool.and_eq_true, decide_eq_true_eq, if_true]
 omega
section
variable {v j : Nat} {ops : Array Oper} {Q : Tm → Store → Prop} {rest : List Oper} {tm : Tm} {σ : Store} {dst : Option Tmp} {ty : TypeId} {pos : String} {af : Array Edge} {K : Nat → Bool} {c : Nat → Nat} {s q i : Nat} {g : Gh} {b : Nat}
theorem S_makeZ (h : ∀ g b, AO E.P v ops Q (j + 1) rest ((tm.putO dst (.d (.c (.map (some b))))).put GS (.gh 0 (YZ (fun _ => false) (fun _ => 0) 0 0 g b))) σ) : AO E.P v ops Q j (⟨dst, .makeMap 78 none, ty, pos, af, none⟩ :: rest) tm σ :=
 pY (jA (Jm := JZ (fun _ => false) (fun _ => 0) 0 0) ⟨Nat.le_refl _, MapZ.start⟩ h)
theorem iI {m x : Operand} {a : Nat} (hm : ev tm m = some (.d (.c (.map (some b))))) (hg : tm GS = some (.gh i (YZ K c s q g b))) (hx : ev tm x = some (.int .i64 (a : Int))) (ha : a < 65536) (hk : K a = true)
  (h : AO E.P v ops Q (j + 1) rest (tm.putO dst (.int .i64 (c a : Int))) σ) : AO E.P v ops Q j (⟨dst, .lookup 78 m x false, ty, pos, af, none⟩ :: rest) tm σ :=
 sH (lookup_ok oI Tryz.underlying78 Tryz.underlying3 pS hm hx (fH Tryz.underlying3 (qL (by omega) (by omega))) hg fun c' ⟨nn, D, hJ, hat⟩ hw => by
  have h1 := hJ.2.2.2.2 a hk (.lit (.int .i64 0))
  have e : c' = (c a : Int) := by
   have h2 := hat.symm.trans h1
   injection h2 with h2
   injection h2
  rw [e]; exact h)
theorem qB {m x z : Operand} {a w : Nat} (K' : Nat → Bool) (c' : Nat → Nat) (s' : Nat) (hm : ev tm m = some (.d (.c (.map (some b))))) (hg : tm GS = some (.gh i (YZ K c s q g b))) (hx : ev tm x = some (.int .i64 (a : Int))) (ha : a < 65536) (hz : ev tm z = some (.int .i64 (w : Int))) (hw : w < 65536) (hq : q < 1000000000)
  (hJ : ∀ D, MapZ K c s D → MapZ K' c' s' (D.put (.int .i64 (a : Int)) (.lit (.int .i64 (w : Int)))))
  (h : AO E.P v ops Q (j + 1) rest ((tm.putO dst .un).put GS (.gh 0 (YZ K' c' s' (q + 1) g b))) σ) : AO E.P v ops Q j (⟨dst, .mapUpdate 78 m x z, ty, pos, af, none⟩ :: rest) tm σ :=
 pY (mapUpdateC_ok (Jn := JZ K' c' s' (q + 1)) oI Tryz.underlying78 Tryz.underlying3 (qL (by omega) (by omega)) hm hx (fH Tryz.underlying3 (qL (by omega) (by omega))) hz hg (fun nn D _ ⟨h1, h2⟩ => ⟨by unfold maxLen; omega, by omega, hJ D h2⟩) h)
theorem S_delZ {m x : Operand} {a : Nat} (hm : ev tm m = some (.d (.c (.map (some b))))) (hg : tm GS = some (.gh i (YZ K c s q g b))) (hx : ev tm x = some (.int .i64 (a : Int))) (ha : a < 65536) (hk : K a = true)
  (h : AO E.P v ops Q (j + 1) rest ((tm.putO dst (.tu [])).put GS (.gh 0 (YZ (fun m => K m && !decide (m = a)) c (s - 1) q g b))) σ) : AO E.P v ops Q j (⟨dst, .call { callee := .builtin .delete, args := #[m, x], argTypes := #[78, 3] }, ty, pos, af, none⟩ :: rest) tm σ :=
 pY (deleteC_ok (Jn := JZ (fun m => K m && !decide (m = a)) c (s - 1) q) oI Tryz.underlying78 hm hx (fH Tryz.underlying3 (qL (by omega) (by omega))) hg (fun nn D _ ⟨h1, h2⟩ => ⟨h1, h2.cut hk⟩) h)
theorem sX {m : Operand} (hm : ev tm m = some (.d (.c (.map (some b))))) (hg : tm GS = some (.gh i (YZ K c s q g b))) (h : AO E.P v ops Q (j + 1) rest (tm.putO dst (.int .i64 (s : Int))) σ) :
  AO E.P v ops Q j (⟨dst, .call { callee := .builtin .len, args := #[m], argTypes := #[78] }, ty, pos, af, none⟩ :: rest) tm σ :=
 sH (lenMap_ok Tryz.underlying78 hm hg fun nn D hJ => by rw [hJ.2.2.1]; exact h)
end
theorem enters_keysI : ∀ args w, (callFunc 72 args).run Tryz.prog w = .ok (.enter 72 args) w := enters_of Tryz.func72 (by kernel_rfl) rfl
theorem rise_unique : ∀ {l m : List Int}, l.Pairwise (· ≤ ·) → m.Pairwise (· ≤ ·) → l.Perm m → l = m := fun h1 h2 hp => hp.eq_of_pairwise (fun a b _ _ h1 h2 => by omega) h1 h2
theorem sortedKeysI_m (n : Nat) (hn : n ≤ 65536) (K : Nat → Bool) (c : Nat → Nat) (s q : Nat) (hK : ∀ a, K a = true → a < n) (hq : q < 1000000000) (g : Gh) (b : Nat) :
  FnM E.P 48 [.fn 72 [] [.d (.pt [.c (.map (some b))] 0)]] ((YZ K c s q g b).J 0) (fun r' _ => r' = .d (ints (((List.range n).filter K).map fun a : Nat => (a : Int)))) := by
 refine ⟨⟨_, Tryz.func48, by decide, rfl⟩, fun G w vs N hJ hv hw => ?_⟩
 obtain ⟨nn, D, ⟨hnn, hD⟩, hown⟩ := hJ
 obtain ⟨_, _, hD, _⟩ := hD
 rw [RepOL] at hv
 obtain ⟨x1, us, rfl, h1, hv⟩ := hv
 rw [RepOL] at hv
 subst hv
 rw [RepO] at h1
 obtain ⟨v1, u1, rfl, hv1, hu1⟩ := h1
 rw [RepOL] at hv1
 have hv1 : v1 = #[] := Array.toList_eq_nil_iff.1 hv1
 subst hv1
 rw [RepOL] at hu1
 obtain ⟨pv, us, e1, hp, hu1⟩ := hu1
 rw [RepOL] at hu1
 subst hu1
 have e1 : u1 = #[pv] := by rw [← Array.toList_inj, e1]
 subst e1
 rw [RepO, Rep] at hp
 obtain ⟨Bm, of, rfl, hc⟩ := hp
 rw [RepC] at hc
 obtain ⟨⟨mv, hM, hmv⟩, _⟩ := hc
 rw [Rep] at hmv
 obtain ⟨rfl, _⟩ := hmv
 rw [Nat.add_zero]
 have hcell := hw.mem _ _ _ hM
 have hBm : Bm < w.heap.size := (yQ hcell).2
 have hsize : Maps.size D ≤ 1000000000 := by have := hown.size_le; omega
 have hcall := callsIn_wide.1 (nN Fence.wide (fun _ => trivial) 4 rfl (by omega) (qP _) _ #[.pointer (some ⟨Bm, of, none⟩)] enters_keysI KeepsWalks (KeysArI D) (fun _ => True) (Maps.size D) (by unfold maxLen; omega) (by omega) w walksK_t walksK_b (fun _ _ h _ => h.walks) (keysI_stops Fence.wide (fun _ => trivial) 1 rfl (by omega) Bm of b nn D w hBm hcell hown))
 refine hcall.mono ?_
 rintro e w' ⟨v, ss, rfl, ⟨hnd, hk⟩, _, hrow, _, hb⟩
 have hlist : ss.mergeSort (fun x y => decide (x ≤ y)) = ((List.range n).filter K).map fun a : Nat => (a : Int) := by
  refine rise_unique ?_ ?_ ((List.mergeSort_perm _ _).trans ?_)
  ·exact (List.pairwise_mergeSort (le := fun x y : Int => decide (x ≤ y)) (fun a b c h1 h2 => by simp at *; omega) (fun a b => by simp; omega) ss).imp fun h => by simpa using h
  ·exact List.pairwise_map.2 ((List.pairwise_lt_range.filter K).imp fun h => by omega)
  ·refine (List.perm_ext_iff_of_nodup hnd ?_).2 fun z => ?_
   ·exact List.pairwise_map.2 ((List.nodup_range.filter K).imp fun {a b} h e => h (by omega))
   ·rw [hk z, hD]
    simp only [List.mem_map, List.mem_filter, List.mem_range]
    constructor
    ·rintro ⟨a, ha, e⟩
     injection e with _ e
     exact ⟨a, ⟨hK a ha, ha⟩, e.symm⟩
    ·rintro ⟨a, ⟨_, ha⟩, rfl⟩
     exact ⟨a, ha, rfl⟩
 rw [hlist] at hrow
 have hlen : ss.length = ((List.range n).filter K).length := by rw [← List.length_mergeSort (le := fun x y => decide (x ≤ y)) ss, hlist, List.length_map]
 have hw1 := hw.below hb
 rcases hrow.2 with ⟨rfl, hz⟩ | ⟨gb, cap, cur, rfl, hbase, hgb, r1, r2, r3, r4⟩
 ·refine ⟨_, G, _, Store.nil, rfl, rfl, .refl G, ?_, hw1⟩
  have : (List.range n).filter K = [] := List.eq_nil_of_length_eq_zero (by omega)
  rw [RepO, this]
  unfold ints
  rw [Rep]
  exact ⟨none, 0, rfl, Nat.le_refl _, Or.inl rfl⟩
 ·have hle : G.M.le (G.M.add gb cur) := fun b' o x hx => by
   have hlt := hw.mem_lt hx
   unfold Mem.add
   rw [if_neg (by omega)]
   exact hx
  have hcl : ∀ o x, cur[o]? = some x → w'.cell? ⟨gb, o, none⟩ = some x := fun o x hx => by
   simp [World.cell?, hgb, hx]
  refine ⟨_, ⟨G.M.add gb cur, G.μ⟩, _, Store.nil, rfl, rfl, ⟨hle, fun _ _ _ h => h⟩, ?_, hw1.grow hle (fun b' o x hx => ?_) (fun k τ r β o h => by cases h) (fun b' o x hx => ?_)⟩
  ·rw [RepO]
   unfold ints
   rw [Rep]
   have hl2 : ((((List.range n).filter K).map fun a : Nat => (a : Int)).map cell).length = ss.length := by rw [List.length_map, List.length_map, hlen]
   refine ⟨some ⟨gb, 0, none⟩, cap, by rw [hl2], by rw [hl2]; exact r1, Or.inr ⟨gb, 0, rfl, RepR.of_get fun i r hr => ?_⟩⟩
   rw [List.getElem?_map] at hr
   obtain ⟨z, hz, rfl⟩ := Option.map_eq_some_iff.1 hr
   refine ⟨rfl, RepC.of_get fun o t ht => ?_⟩
   match o, ht with
   | 0, ht =>
    have ht : some (TV.c (.int .i64 z)) = some t := ht
    cases ht
    have hi : i < ss.length := by
     have := (List.getElem?_eq_some_iff.1 hz).1
     rw [List.length_map] at this; omega
    refine ⟨.int .i64 z, ?_, by rw [Rep]; exact ⟨rfl, rfl⟩⟩
    have h3 : cur.toList[i]? = some (.int .i64 z) := by
     rw [← List.getElem?_take_of_lt (show i < ss.length * 1 by omega), r4, List.getElem?_map, hz]; rfl
    show (if gb = gb then cur[0 + i * 1 + 0]? else _) = _
    rw [if_pos rfl, ← Array.getElem?_toList, show 0 + i * 1 + 0 = i by omega]
    exact h3
  ·unfold Mem.add at hx
   split at hx
   ·rename_i e; subst e; exact hcl o x hx
   ·exact hw1.mem b' o x hx
  ·unfold Mem.add at hx
   split at hx
   ·rename_i e; subst e; exact Or.inr (Or.inl hbase)
   ·exact Or.inl hx
theorem keysI_p (v : Value) (hv : v.oneCell' = true) : Pure E.P 49 [.d (.c v)] (.fn 72 [] [.d (.pt [.c v] 0)]) := by
 have f1 : Frozen 1 := ⟨trivial⟩
 refine fnA Tryz.func49 Tryz.ntmps49 ?_
 refine run ?_; refine aoR fun _ => ?_
 refine run ?_; refine aoR fun _ => ?_
 refine run ?_; rotate_left
 exact dG rfl rfl
end Go.Proofs.YtnkocjkkefnelaaGreat
