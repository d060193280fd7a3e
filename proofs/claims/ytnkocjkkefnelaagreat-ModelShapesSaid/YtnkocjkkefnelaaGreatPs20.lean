/- Parts. -/
import Derived.Test.YtnkocjkkefnelaaGreatPs4
import Derived.Test.YtnkocjkkefnelaaGreatPs6
import Derived.Test.YtnkocjkkefnelaaGreatPs9
import Derived.Test.YtnkocjkkefnelaaGreatPs16
import Derived.Test.YtnkocjkkefnelaaGreatPs19
set_option linter.unusedVariables false
set_option linter.unusedSimpArgs false
set_option maxHeartbeats 4000000
namespace Go.Proofs.YtnkocjkkefnelaaGreat
theorem zL {a : Int} (h : 0 ≤ a) : ∃ n : Nat, a = n := ⟨a.toNat, (Int.toNat_of_nonneg h).symm⟩
def refPairs (n : Nat) (f : Nat → Nat → Bool) : List (Int × Int) := (List.range n).flatMap fun a => ((List.range n).filter (f a)).map fun (b : Nat) => (((a : Nat) : Int), ((b : Nat) : Int))
theorem vE {n : Nat} {f : Nat → Nat → Bool} {p : Int × Int} : p ∈ refPairs n f ↔ ∃ a b : Nat, a < n ∧ b < n ∧ f a b = true ∧ p = ((a : Int), (b : Int)) := by
 unfold refPairs
 constructor
 ·intro h
  obtain ⟨a, h1, h2⟩ := List.mem_flatMap.1 h
  obtain ⟨b, h3, rfl⟩ := List.mem_map.1 h2
  obtain ⟨h4, h5⟩ := List.mem_filter.1 h3
  exact ⟨a, b, List.mem_range.1 h1, List.mem_range.1 h4, h5, rfl⟩
 ·rintro ⟨a, b, h1, h2, h3, rfl⟩
  exact List.mem_flatMap.2 ⟨a, List.mem_range.2 h1, List.mem_map.2 ⟨b, List.mem_filter.2 ⟨List.mem_range.2 h2, h3⟩, rfl⟩⟩
theorem yW {x y : Int × Int} : ltZ x y = true ↔ x.1 < y.1 ∨ (x.1 = y.1 ∧ x.2 < y.2) := by simp [ltZ]
theorem cC (n : Nat) (f : Nat → Nat → Bool) : (refPairs n f).Pairwise fun x y => ltZ x y = true := by
 unfold refPairs
 rw [List.pairwise_flatMap]
 refine ⟨fun a _ => ?_, ?_⟩
 ·refine List.Pairwise.map _ (R := (· < ·)) (fun b c h => ?_) (List.Pairwise.filter _ List.pairwise_lt_range)
  rw [yW]; right; exact ⟨rfl, by dsimp only; omega⟩
 ·refine List.Pairwise.imp (fun {a b} h => ?_) List.pairwise_lt_range
  intro x hx y hy
  obtain ⟨c, _, rfl⟩ := List.mem_map.1 hx
  obtain ⟨d, _, rfl⟩ := List.mem_map.1 hy
  rw [yW]; left; dsimp only; omega
theorem bX {L : List (Int × Int)} {n : Nat} {f : Nat → Nat → Bool} (hnd : L.Nodup) (hm : ∀ p, p ∈ L ↔ p ∈ refPairs n f) : sortZ L = refPairs n f := by
 have hlt := cC n f
 have hnd2 : (refPairs n f).Nodup := hlt.imp fun {x y} h e => by subst e; rw [yW] at h; omega
 refine List.Perm.eq_of_pairwise (le := fun x y => (!ltZ y x) = true) (fun x y _ _ h1 h2 => ?_) (List.pairwise_mergeSort (fun a b c h1 h2 => ?_) (fun a b => ?_) L) (hlt.imp fun {x y} h => ?_) ((List.mergeSort_perm L _).trans ((List.perm_ext_iff_of_nodup hnd hnd2).2 hm))
 ·simp only [Bool.not_eq_true', Bool.eq_false_iff, ne_eq, yW] at h1 h2
  exact Prod.ext (by omega) (by omega)
 ·simp only [Bool.not_eq_true', Bool.eq_false_iff, ne_eq, yW] at *
  omega
 ·simp only [Bool.or_eq_true, Bool.not_eq_true', Bool.eq_false_iff, ne_eq, yW]
  omega
 ·simp only [Bool.not_eq_true', Bool.eq_false_iff, ne_eq, yW] at *
  omega
def isPo (x : Ex) (a b : Nat) : Bool := decide (a < b) && decide (0 ≤ (x.evs.getD a default).hart) && decide ((x.evs.getD a default).hart = (x.evs.getD b default).hart)
def poRow (x : Ex) (a b : Nat) : List (Int × Int) := ((List.range b).filter (isPo x a)).map fun (b : Nat) => (((a : Nat) : Int), ((b : Nat) : Int))
def poTo (x : Ex) (a : Nat) : List (Int × Int) := (List.range a).flatMap fun a => poRow x a x.evs.length
def poAt (x : Ex) (a b : Nat) : List (Int × Int) := poTo x a ++ poRow x a b
def poZ (x : Ex) : List (Int × Int) := poTo x x.evs.length
theorem jA (x : Ex) : poZ x = refPairs x.evs.length (isPo x) := rfl
theorem po_sorted (x : Ex) : sortZ (poZ x) = refPairs x.evs.length (isPo x) := by
 have hlt := cC x.evs.length (isPo x)
 exact bX (by rw [jA]; exact hlt.imp fun {x y} h e => by subst e; rw [yW] at h; omega) fun p => by rw [jA]
theorem dC (x : Ex) (a : Nat) : poTo x (a + 1) = poTo x a ++ poRow x a x.evs.length := by
 simp [poTo, List.range_succ, List.flatMap_append]
theorem lZ (x : Ex) (a : Nat) : poAt x a (a + 1) = poTo x a := by
 unfold poAt poRow
 rw [List.filter_eq_nil_iff.2, List.map_nil, List.append_nil]
 intro b hb
 have := List.mem_range.1 hb
 unfold isPo
 rw [show decide (a < b) = false by simp; omega]
 simp
theorem lY {x : Ex} {a b : Nat} (h : isPo x a b = true) : poRow x a (b + 1) = poRow x a b ++ [((a : Int), (b : Int))] := by
 unfold poRow
 rw [List.range_succ, List.filter_append, List.filter_cons, if_pos h, List.filter_nil, List.map_append]; rfl
theorem oY {x : Ex} {a b : Nat} (h : ¬ isPo x a b = true) : poRow x a (b + 1) = poRow x a b := by
 unfold poRow
 rw [List.range_succ, List.filter_append, List.filter_cons, if_neg h, List.filter_nil, List.append_nil]
theorem oZ {x : Ex} {a b : Nat} (h : isPo x a b = true) : poAt x a (b + 1) = poAt x a b ++ [((a : Int), (b : Int))] := by
 unfold poAt; rw [lY h, List.append_assoc]
theorem poAt_no {x : Ex} {a b : Nat} (h : ¬ isPo x a b = true) : poAt x a (b + 1) = poAt x a b := by
 unfold poAt; rw [oY h]
theorem poAt_end (x : Ex) (a : Nat) : poAt x a x.evs.length = poTo x (a + 1) := by rw [dC]; rfl
theorem poRow_pre (x : Ex) (a : Nat) : ∀ {b c : Nat}, b ≤ c → ∃ r, poRow x a c = poRow x a b ++ r := fun {b c} h => by
  induction c with
  | zero => have : b = 0 := by omega
            subst this; exact ⟨[], by simp⟩
  | succ c ih =>
    by_cases e : b = c + 1
    · subst e; exact ⟨[], by simp⟩
    · obtain ⟨r, hr⟩ := ih (by omega)
      by_cases hc : isPo x a c = true
      · exact ⟨_, by rw [lY hc, hr, List.append_assoc]⟩
      · exact ⟨r, by rw [oY hc, hr]⟩
theorem poTo_pre (x : Ex) : ∀ {a c : Nat}, a ≤ c → ∃ r, poTo x c = poTo x a ++ r := fun {a c} h => by
  induction c with
  | zero => have : a = 0 := by omega
            subst this; exact ⟨[], by simp⟩
  | succ c ih =>
    by_cases e : a = c + 1
    · subst e; exact ⟨[], by simp⟩
    · obtain ⟨r, hr⟩ := ih (by omega)
      exact ⟨_, by rw [dC, hr, List.append_assoc]⟩
theorem poAt_in {x : Ex} {a b : Nat} (ha : a < x.evs.length) (hb : b < x.evs.length) (h : isPo x a b = true) : ∃ q, poZ x = poAt x a b ++ [((a : Int), (b : Int))] ++ q := by
 obtain ⟨q1, h1⟩ := poTo_pre x (show a + 1 ≤ x.evs.length from ha)
 obtain ⟨q2, h2⟩ := poRow_pre x a (show b + 1 ≤ x.evs.length from hb)
 rw [← oZ h]
 unfold poZ poAt
 rw [h1, dC, h2]
 exact ⟨q2 ++ q1, by simp only [List.append_assoc]⟩
theorem poZ_small {x : Ex} (h : x.evs.length ≤ 65536) : smallP (poZ x) := fun p hp => by
 rw [jA] at hp
 obtain ⟨a, b, h1, h2, _, rfl⟩ := vE.1 hp
 dsimp only
 omega
theorem jS (x : Ex) : ∀ a, (poTo x a).length ≤ a * x.evs.length
 | 0 => by simp [poTo]
 | a + 1 => by
  rw [dC, List.length_append, Nat.succ_mul]
  have h1 := jS x a
  have h2 : (poRow x a x.evs.length).length ≤ x.evs.length := by
   unfold poRow
   rw [List.length_map]
   exact Nat.le_trans (List.length_filter_le _ _) (by simp)
  omega
set_option maxHeartbeats 4000000
set_option maxRecDepth 100000
def eqTo {α : Type} [Inhabited α] (f : α → α → Bool) (a b : List α) (k : Nat) : Bool := (List.range k).all fun i => f (a.getD i default) (b.getD i default)
def eqL {α : Type} [Inhabited α] (f : α → α → Bool) (a b : List α) : Bool := decide (a.length = b.length) && eqTo f a b a.length
def intB (a b : Int) : Bool := decide (a = b)
def eqI (a b : List Int) : Bool := eqL intB a b
def pairB (a b : Int × Int) : Bool := a.1 == b.1 && a.2 == b.2
def eqP (a b : List (Int × Int)) : Bool := eqL pairB a b
theorem uAO (x : Ex) (hx : x.evs.length ≤ 65536) (a b : Nat) (ha : a < x.evs.length) (hb : b < x.evs.length) : Pure E.P 44 [exOV x, .int .i64 a, .int .i64 b] (.bool (isPo x a b)) := by
 refine fnA Tryz.func44 Tryz.ntmps44 ?_
 refine run ?_; refine aoR fun _ => ?_
 refine run ?_
 refine uO (E := E) ?_ (fun _ => ?_); exact rfl
 refine run ?_; rotate_left
 refine uU rfl ?_
 rw [Bool.eq_iff_iff]
 unfold isPo
 simp only [Bool.and_eq_true, decide_eq_true_eq, Int.toNat_natCast, Int.ofNat_lt]
def prRow (f : Nat → Nat → Bool) (a b : Nat) : List (Int × Int) := ((List.range b).filter (f a)).map fun (b : Nat) => (((a : Nat) : Int), ((b : Nat) : Int))
def prTo (n : Nat) (f : Nat → Nat → Bool) (a : Nat) : List (Int × Int) := (List.range a).flatMap fun a => prRow f a n
theorem prTo_succ (n : Nat) (f : Nat → Nat → Bool) (a : Nat) : prTo n f (a + 1) = prTo n f a ++ prRow f a n := by simp [prTo, List.range_succ, List.flatMap_append]
theorem prRow_len (f : Nat → Nat → Bool) (a b : Nat) : (prRow f a b).length ≤ b := by
 unfold prRow
 rw [List.length_map]
 exact Nat.le_trans (List.length_filter_le _ _) (by simp)
theorem xH (n : Nat) (f : Nat → Nat → Bool) : ∀ a, (prTo n f a).length ≤ a * n
 | 0 => by simp [prTo]
 | a + 1 => by
  rw [prTo_succ, List.length_append, Nat.succ_mul]
  have h1 := xH n f a
  have h2 := prRow_len f a n
  omega
open Go.RowKit Go.Shelf Go.Maps Go.Sort
def mkP (a b : Nat) : P2 := (⟨a % 65536, by omega⟩, ⟨b % 65536, by omega⟩)
def rfTo (zs : List Int) (k : Nat) : List P2 := (List.range k).filterMap (fun b => if 0 ≤ zs.getD b 0 then some (mkP (zs.getD b 0).toNat b) else none)
def rfL (zs : List Int) : List P2 := rfTo zs zs.length
open Go.RowKit Go.Shelf Go.Maps Go.Sort
def rfAns (x : Ex) : List P2 := if checkI x = 0 then sortP (rfL x.from_) else []
set_option maxRecDepth 100000
def rfZ (zs : List Int) (k : Nat) : List (Int × Int) := (List.range k).filterMap fun b => if 0 ≤ zs.getD b 0 then some (zs.getD b 0, (b : Int)) else none
theorem dB {zs : List Int} {k : Nat} (h : 0 ≤ zs.getD k 0) : rfZ zs (k + 1) = rfZ zs k ++ [(zs.getD k 0, (k : Int))] := by
 unfold rfZ
 rw [List.range_succ, List.filterMap_append]
 simp only [List.filterMap_cons, List.filterMap_nil, if_pos h]
theorem jQ {zs : List Int} {k : Nat} (h : ¬ 0 ≤ zs.getD k 0) : rfZ zs (k + 1) = rfZ zs k := by
 unfold rfZ
 rw [List.range_succ, List.filterMap_append]
 simp only [List.filterMap_cons, List.filterMap_nil, if_neg h, List.append_nil]
theorem rfZ_pre (zs : List Int) : ∀ {a b : Nat}, a ≤ b → ∃ r, rfZ zs b = rfZ zs a ++ r := fun {a b} h => by
  induction b with
  | zero => have : a = 0 := by omega
            subst this; exact ⟨[], by simp⟩
  | succ b ih =>
    by_cases e : a = b + 1
    · subst e; exact ⟨[], by simp⟩
    · obtain ⟨r, hr⟩ := ih (by omega)
      by_cases hz : 0 ≤ zs.getD b 0
      · exact ⟨r ++ [(zs.getD b 0, (b : Int))], by rw [dB hz, hr, List.append_assoc]⟩
      · exact ⟨r, by rw [jQ hz, hr]⟩
set_option maxHeartbeats 4000000 in
theorem rf1_s (x : Ex) (hx : x.from_.length ≤ 65536) : SeqW E.P 83 [] [.d (.pt (exRow x) 0)] (pairYs (rfZ x.from_ x.from_.length)) := by
 intro Y k τ J m st hm h1 h2 hnd hbig hy l0 hl0
 have hlen : (pairYs (rfZ x.from_ x.from_.length)).length = (rfZ x.from_ x.from_.length).length := by simp [pairYs]
 rw [hlen] at hm h1
 refine yH Tryz.func83 (by decide) rfl Tryz.ntmps83 (Nat.le_of_ble_eq_true rfl) rfl ?_
 refine uB (aoR fun _ => ?_)
 refine q32 ?_; refine q23 ?_; refine q13 ?_; refine q11 (uE (uC (uW ?_))); rotate_left
 refine uT (X := Nat × Rows) (fun p => tmL [(0, .yl k τ), (6, .d (ints x.from_)), (7, .int .i64 x.from_.length), (8, .int .i64 p.1), (GS, .gh (rfZ x.from_ p.1).length Y)]) (fun p => stL p.2)
  (fun p => p.1 ≤ x.from_.length ∧ J (rfZ x.from_ p.1).length p.2 ∧ (st = true → (rfZ x.from_ p.1).length < m)) (fun p => x.from_.length - p.1) (0, l0) ⟨Nat.zero_le _, hl0, h2⟩ leP (fun _ _ h => h) ?_
 rintro ⟨b, l⟩ ⟨hb, hJ, hst⟩
 dsimp only at hb hJ hst ⊢
 have hnext : b < x.from_.length → 0 ≤ x.from_.getD b 0 → (rfZ x.from_ b).length < m ∧ YieldW E.P Y k τ (rfZ x.from_ b).length ((rfZ x.from_ b).length + 1) [.ag (pairO' (x.from_.getD b 0, (b : Int)))] l (J ((rfZ x.from_ b).length + 1)) (!(st && (rfZ x.from_ b).length + 1 == m)) := fun hlt hz => by
  obtain ⟨r, hr⟩ := rfZ_pre x.from_ (show b + 1 ≤ x.from_.length from hlt)
  rw [dB hz] at hr
  obtain ⟨e1, e2⟩ := mG hr
  have hlm : (rfZ x.from_ b).length < m := by
   cases st with
   | true => exact hst rfl
   | false => rw [h1 rfl]; exact e1
  have := hy _ l hlm hJ
  rw [e2] at this
  exact ⟨hlm, this⟩
 have hgo : ∀ {i : Nat}, i < m → (!(st && i + 1 == m)) = true → st = true → i + 1 < m := fun {i} h1 h2 h3 => by
  subst h3
  simp at h2; omega
 have hsto : ∀ {i : Nat}, (!(st && i + 1 == m)) = false → i + 1 = m := fun {i} h => by
  simp at h; exact h.2
 by_cases hlt : b < x.from_.length
 rotate_left
 ·have hbe : b = x.from_.length := by omega
  subst hbe
  have hme : (rfZ x.from_ x.from_.length).length = m := by
   cases st with
   | true => have := hst rfl; omega
   | false => exact (h1 rfl).symm
  rw [hme] at hJ ⊢
  refine uB (aoR fun _ => ?_)
  refine q37 (uE (uC (uB ?_))); refine cnd ?_ ?_
  refine uF fun _ => ?_; try omega
  refine uI fun _ => ?_; try omega
  refine wC ?_
  iterate 2 refine wM ?_
  refine yE ?_; rotate_left
  exact ⟨Or.inl rfl, rfl, l, hJ, fun _ _ h => h⟩
 by_cases hz : 0 ≤ x.from_.getD b 0
 ·obtain ⟨hlm, hY⟩ := hnext hlt hz
  have hz' : 0 ≤ x.from_.getD (b : Int).toNat 0 := by rw [Int.toNat_natCast]; exact hz
  rcases Bool.eq_false_or_eq_true (!(st && (rfZ x.from_ b).length + 1 == m)) with hans | hans
  ·rw [hans] at hY
   refine uB (aoR fun _ => ?_)
   refine q37 (uE (uC (uB ?_))); refine cnd ?_ ?_
   refine uF fun _ => ?_; try omega
   refine uZ (uC (uB (uW (uB (aoR fun _ => ?_)))))
   refine q11 ?_; refine q17 ?_; refine q23 ?_
   iterate 2 refine q12 ?_
   refine uE (uC (uB (aoR fun _ => ?_)))
   refine q11 ?_
   apply qL; exact rfl; exact rfl
   refine q11 ?_
   apply uD; exact rfl; exact rfl
   refine uF fun _ => ?_; try omega
   refine q11 ?_
   apply uD; exact rfl; exact rfl
   refine uJ ?_; refine q11 ?_
   apply uD; exact rfl; exact rfl
   refine uJ ?_; refine q11 ?_
   apply uD; exact rfl; exact rfl
   refine uJ ?_; refine q54 ?_
   apply uD; exact rfl; exact rfl
   refine uJ ?_
   apply aA; exact rfl; exact rfl; exact rfl; exact hY; exact (fun _ _ h => h); exact hnd _; (intro l1 hl1)
   apply uD; exact rfl; exact rfl
   refine uJ ?_
   apply cQ; exact rfl
   refine q4 (uE (uC ?_)); refine cnd ?_ ?_; refine wX ?_; refine uJ ?_; refine cJ ?_
   exact wH
   refine wK (fun hc_ => ?_); (try simp only [nrm] at hc_)
   refine uZ ?_; refine xE ?_; refine uC (aoR fun _ => ?_)
   refine q36 ?_; refine q11 (uE (uC ?_)); rotate_left
   iterate 5 exact wH
   iterate 2 refine uI fun _ => ?_; try omega
   refine uV (b + 1, l1) ⟨by dsimp only; omega, ?_, ?_⟩ (by dsimp only; omega) ?_ (aH (hnd _ _ hl1))
   ·dsimp only; rw [dB hz, List.length_append]; exact hl1
   ·dsimp only; rw [dB hz, List.length_append]; exact hgo hlm hans
   ·dsimp only
    rw [dB hz, List.length_append]
    exact leP
  ·rw [hans] at hY
   rw [hsto hans] at hY
   refine uB (aoR fun _ => ?_)
   refine q37 (uE (uC (uB ?_))); refine cnd ?_ ?_
   refine uF fun _ => ?_; try omega
   refine uZ (uC (uB (uW (uB (aoR fun _ => ?_)))))
   refine q11 ?_; refine q17 ?_; refine q23 ?_
   iterate 2 refine q12 ?_
   refine uE (uC (uB (aoR fun _ => ?_)))
   refine q11 ?_
   apply qL; exact rfl; exact rfl
   refine q11 ?_
   apply uD; exact rfl; exact rfl
   refine uF fun _ => ?_; try omega
   refine q11 ?_
   apply uD; exact rfl; exact rfl
   refine uJ ?_; refine q11 ?_
   apply uD; exact rfl; exact rfl
   refine uJ ?_; refine q11 ?_
   apply uD; exact rfl; exact rfl
   refine uJ ?_; refine q54 ?_
   apply uD; exact rfl; exact rfl
   refine uJ ?_
   apply aA; exact rfl; exact rfl; exact rfl; exact hY; exact (fun _ _ h => h); exact hnd _; (intro l1 hl1)
   apply uD; exact rfl; exact rfl
   refine uJ ?_
   apply cQ; exact rfl
   refine q0 (uE (uC ?_)); refine cnd ?_ ?_
   refine xJ (fun hc_ => ?_); (try simp only [nrm] at hc_)
   refine wJ ?_; refine fX ?_
   iterate 2 refine aE ?_
   refine fX ?_; rotate_left
   refine xP ?_
   iterate 6 exact wH
   iterate 2 refine uI fun _ => ?_; try omega
   exact ⟨Or.inr rfl, rfl, l1, hl1, aH (hnd _ _ hl1)⟩
 ·have hz' : ¬ 0 ≤ x.from_.getD (b : Int).toNat 0 := by rw [Int.toNat_natCast]; exact hz
  refine uB (aoR fun _ => ?_)
  refine q37 (uE (uC (uB ?_))); refine cnd ?_ ?_
  refine uF fun _ => ?_; try omega
  refine uZ (uC (uB (uW (uB (aoR fun _ => ?_)))))
  refine q11 ?_; refine q17 ?_; refine q23 ?_
  iterate 2 refine q12 ?_
  refine uE (uC (uB (aoR fun _ => ?_)))
  refine q11 ?_
  apply qL; exact rfl; exact rfl
  refine q11 ?_
  apply uD; exact rfl; exact rfl
  refine uF fun _ => ?_; try omega
  refine uI fun _ => ?_; try omega
  apply uD; exact rfl; exact rfl
  exact uH
  refine uG ?_
  apply uD; exact rfl; exact rfl
  exact uH
  refine uG ?_
  apply uD; exact rfl; exact rfl
  exact uH
  refine uG ?_
  apply uD; exact rfl; exact rfl
  exact uH
  refine uG ?_
  apply uD; exact rfl; exact rfl
  exact uH
  refine uG ?_
  apply yF; exact rfl
  apply aW; exact rfl
  refine uE (uC ?_); refine cnd ?_ ?_
  exact uH
  refine uG ?_; refine uZ ?_; refine xE ?_; refine uC (aoR fun _ => ?_)
  refine q36 ?_; refine q11 (uE (uC ?_)); rotate_left
  refine uI fun _ => ?_; try omega
  refine uV (b + 1, l) ⟨by dsimp only; omega, ?_, ?_⟩ (by dsimp only; omega) ?_ (fun _ _ h => h)
  ·dsimp only; rw [jQ hz]; exact hJ
  ·dsimp only; rw [jQ hz]; exact hst
  ·dsimp only
   rw [jQ hz]
   exact leP
def rfF (x : Ex) : List (Int × Int) := if checkI x = 0 then sortZ (rfZ x.from_ x.from_.length) else []
theorem nN (zs : List Int) (k : Nat) : (rfZ zs k).length ≤ k := by
 unfold rfZ
 refine Nat.le_trans (List.length_filterMap_le _ _) (by simp)
theorem lW {zs : List Int} {k : Nat} (hz : ∀ i, zs.getD i 0 < 65536) (hk : k ≤ 65536) : smallP (rfZ zs k) := fun p hp => by
 unfold rfZ at hp
 obtain ⟨b, hb, h⟩ := List.mem_filterMap.1 hp
 have hb := List.mem_range.1 hb
 split at h
 ·rename_i h0
  cases h
  have := hz b
  dsimp only
  omega
 ·cases h
set_option maxHeartbeats 4000000 in
theorem rf_s (x : Ex) (hx : x.fit) : Own E.P 55 [exOV x] 2 ((rfF x).map pairO') := by
 unfold rfF
 refine fnA Tryz.func55 Tryz.ntmps55 ?_
 refine uB (aoR fun _ => ?_)
 refine q40 ?_; refine q51 (uE ?_); rotate_left
 refine uC ?_
 rename_i v0
 refine wN 1 (v0, 0) 3 [exRow x] (tmL [(1, .d (.pt (exRow x) 0))]) (stL []) rfl (vJ rfl (.lo 0 0 _ rfl) xC) (by repeat' (first | exact xC | exact yD | (refine vJ rfl (vS ?_) ?_; (first | rfl | (simp; done))) | refine vJ rfl (.same _) ?_ | refine wB (by decide) rfl (.same _) ?_)) ?_
 by_cases hc : checkI x = 0
 ·rw [if_pos hc]
  obtain ⟨h1, h2, h3, h4⟩ := vI hc
  have hfl := yQ h3
  have hsm : smallP (rfZ x.from_ x.from_.length) := lW (fun i => by have := rX h3 i; omega) (by omega)
  have hln := nN x.from_ x.from_.length
  iterate 2 refine uB ?_
  refine aoR fun _ => ?_; refine q33 ?_
  apply uP; exact rfl; exact .fn _ _ _; exact rfl; exact yY _ hx.1 hx.2
  refine q44 (uE (uC ?_)); refine cnd ?_ ?_
  refine wR (fun _ => ?_); (try omega)
  refine wS (fun _ => ?_); (try omega)
  refine uZ (uC (uB (aoR fun _ => ?_)))
  apply xM; exact rfl; exact rfl
  apply gD; exact rfl; exact .fn _ _ _; exact rfl; exact jB (.fn _ _ _) _ hsm (by omega) (rf1_s x (by omega))
  apply mZ; exact rfl; exact rfl
  refine uE (uC ?_); refine wJ ?_; rotate_left
  exact xA (d := 2) rfl rfl rfl rfl
 ·rw [if_neg hc]
  iterate 2 refine uB ?_
  refine aoR fun _ => ?_; refine q33 ?_
  apply uP; exact rfl; exact .fn _ _ _; exact rfl; exact yY _ hx.1 hx.2
  refine q44 (uE (uC ?_)); refine cnd ?_ ?_
  refine wR (fun _ => ?_); (try omega)
  refine uB (aoR fun _ => ?_)
  refine q51 (uE (uC ?_)); refine wJ ?_; refine aE ?_; rotate_left
  refine wS (fun _ => ?_); (try omega)
  exact xA (d := 2) rfl rfl rfl rfl
end Go.Proofs.YtnkocjkkefnelaaGreat
