/- Parts. -/
import Derived.Maps.OwnRows
import Derived.WalkArith
import Derived.Maps.AppendAt
import Derived.Deep.RegionHeld3
import Derived.Deep.AppendLies
import Derived.RangeFuncBox
import Derived.Maps.GroupsBeside
import Derived.Test.YtnkocjkkefnelaaGreatPx3
import Derived.Test.YtnkocjkkefnelaaGreatPx4
import Derived.Test.YtnkocjkkefnelaaGreatPx5
import Derived.Test.YtnkocjkkefnelaaGreatPx6
import Derived.Test.YtnkocjkkefnelaaGreatPx8
import Derived.Test.YtnkocjkkefnelaaGreatPx9
import Derived.Test.YtnkocjkkefnelaaGreatPx10
import Derived.Test.YtnkocjkkefnelaaGreatPx13
set_option linter.unusedVariables false
set_option linter.unusedSimpArgs false
namespace Go.Proofs.YtnkocjkkefnelaaGreat
def prRow (f : Nat → Nat → Bool) (a b : Nat) : List (Int × Int) := ((List.range b).filter (f a)).map fun (b : Nat) => (((a : Nat) : Int), ((b : Nat) : Int))
def prTo (n : Nat) (f : Nat → Nat → Bool) (a : Nat) : List (Int × Int) := (List.range a).flatMap fun a => prRow f a n
theorem prTo_succ (n : Nat) (f : Nat → Nat → Bool) (a : Nat) : prTo n f (a + 1) = prTo n f a ++ prRow f a n := by simp [prTo, List.range_succ, List.flatMap_append]
theorem prRow_len (f : Nat → Nat → Bool) (a b : Nat) : (prRow f a b).length ≤ b := by
 unfold prRow
 rw [List.length_map]
 exact Nat.le_trans (List.length_filter_le _ _) (by simp)
theorem xN (n : Nat) (f : Nat → Nat → Bool) : ∀ a, (prTo n f a).length ≤ a * n
 | 0 => by simp [prTo]
 | a + 1 => by
  rw [prTo_succ, List.length_append, Nat.succ_mul]
  have h1 := xN n f a
  have h2 := prRow_len f a n
  omega
set_option maxRecDepth 100000
theorem rppo_p (x : Ex) (hx : x.rok) (a b : Nat) (ha : a < x.evs.length) (hb : b < x.evs.length) : Pure E.P 47 [exOV x, .int .i64 a, .int .i64 b] (.bool (isPpo x a b)) := by
 have hl := hx.len
 have f3 : Frozen 3 := ⟨trivial⟩
 refine fnA Tryz.func47 Tryz.ntmps47 ?_
 refine uB (aoR fun _ => ?_)
 refine q34 ?_; refine q12 (uC (uA ?_))
 iterate 2 refine uB ?_
 refine aoR fun _ => ?_; refine q12 (uC (uA (uG ?_)))
 rotate_left
 refine uZ (X := Nat) (fun r => tmL [(1, .int .i64 a), (2, .int .i64 b), (3, .d (.pt (exRow x) 0)), (7, .int .i64 r)]) (fun _ => stL []) (fun r => 1 ≤ r ∧ r ≤ 14 ∧ ∀ q : Int, 1 ≤ q → q < r → ruleB x q a b = false) (fun r => 14 - r) 1 ⟨by omega, by omega, fun q h1 h2 => by omega⟩ leP leP ?_
 rintro r ⟨h1, h2, h3⟩
 by_cases h14 : r < 14
 ·have hr := rrule_p x hx r a b ha hb (by omega) (by omega)
  iterate 2 refine uB ?_
  refine aoR fun _ => ?_; refine q11 ?_
  apply rV; exact rfl; exact rfl
  refine uC (uA ?_); refine cnd ?_ ?_
  refine uK fun _ => ?_; try (exfalso; omega)
  refine uF (uA (uB (uG (uB (aoR fun _ => ?_)))))
  refine q33 ?_
  iterate 3 refine q11 ?_
  apply uQ; exact rfl; exact .fn _ _ _; exact rfl; exact hr
  refine uC (uA ?_); refine cnd ?_ ?_
  refine xB (fun _ => ?_)
  refine uB (aoR fun _ => ?_)
  refine q12 (uC (uA ?_)); refine uH ?_; refine vL ?_
  iterate 2 refine uO ?_
  refine vL ?_; refine uO ?_; rotate_left
  refine iT (fun _ => ?_)
  refine uF ?_; refine vJ ?_; refine uA (aoR fun _ => ?_)
  refine q11 ?_; refine q36 ?_; refine q12 (uC (uA ?_)); rotate_left
  refine uL fun _ => ?_; try (exfalso; omega)
  ·rename_i hy _
   refine uX rfl ?_
   unfold isPpo
   exact (List.any_eq_true.2 ⟨(r : Int), by unfold rs13; simp only [List.mem_cons, List.not_mem_nil, or_false]; omega, hy⟩).symm
  ·rename_i hy _
   refine vI (r + 1) ⟨by omega, by omega, fun q g1 g2 => ?_⟩ (by omega) leP leP
   by_cases e : q = r
   ·rw [e]; exact hy
   ·exact h3 q g1 (by omega)
 ·iterate 2 refine uB ?_
  refine aoR fun _ => ?_; refine q11 ?_
  apply rV; exact rfl; exact rfl
  refine uC (uA ?_); refine cnd ?_ ?_
  refine uK fun _ => ?_; try (exfalso; omega)
  refine uL fun _ => ?_; try (exfalso; omega)
  refine uS ?_
  iterate 2 refine vE ?_
  refine vT ?_; refine uA (uB (aoR fun _ => ?_))
  refine q12 (uC (uA ?_)); refine uH ?_; rotate_left
  refine uX rfl ?_
  unfold isPpo
  refine (List.any_eq_false.2 fun q hq => ?_).symm
  unfold rs13 at hq
  simp only [List.mem_cons, List.not_mem_nil, or_false] at hq
  rw [h3 q (by omega) (by omega)]; decide
open Go.RowKit Go.Shelf Go.Maps Go.Sort
def mkP (a b : Nat) : P2 := (⟨a % 65536, by omega⟩, ⟨b % 65536, by omega⟩)
def rfTo (zs : List Int) (k : Nat) : List P2 := (List.range k).filterMap (fun b => if 0 ≤ zs.getD b 0 then some (mkP (zs.getD b 0).toNat b) else none)
def rfL (zs : List Int) : List P2 := rfTo zs zs.length
open Go.RowKit Go.Shelf Go.Maps Go.Sort
def rfAns (x : Ex) : List P2 := if checkI x = 0 then sortP (rfL x.from_) else []
set_option maxRecDepth 100000
def rfZ (zs : List Int) (k : Nat) : List (Int × Int) := (List.range k).filterMap fun b => if 0 ≤ zs.getD b 0 then some (zs.getD b 0, (b : Int)) else none
theorem cE {zs : List Int} {k : Nat} (h : 0 ≤ zs.getD k 0) : rfZ zs (k + 1) = rfZ zs k ++ [(zs.getD k 0, (k : Int))] := by
 unfold rfZ
 rw [List.range_succ, List.filterMap_append]
 simp only [List.filterMap_cons, List.filterMap_nil, if_pos h]
theorem iG {zs : List Int} {k : Nat} (h : ¬ 0 ≤ zs.getD k 0) : rfZ zs (k + 1) = rfZ zs k := by
 unfold rfZ
 rw [List.range_succ, List.filterMap_append]
 simp only [List.filterMap_cons, List.filterMap_nil, if_neg h, List.append_nil]
theorem rfZ_pre (zs : List Int) : ∀ {a b : Nat}, a ≤ b → ∃ r, rfZ zs b = rfZ zs a ++ r := fun {a b} h => by
  induction b with
  | zero => have : a = 0 := by omega
            subst this; exact ⟨[], by simp⟩
  | succ b ih =>
    by_cases e : a = b + 1
    · subst e; exact ⟨[], by simp⟩
    · obtain ⟨r, hr⟩ := ih (by omega)
      by_cases hz : 0 ≤ zs.getD b 0
      · exact ⟨r ++ [(zs.getD b 0, (b : Int))], by rw [cE hz, hr, List.append_assoc]⟩
      · exact ⟨r, by rw [iG hz, hr]⟩
set_option maxHeartbeats 4000000 in
theorem rf1_s (x : Ex) (hx : x.from_.length ≤ 65536) : SeqW E.P 83 [] [.d (.pt (exRow x) 0)] (pairYs (rfZ x.from_ x.from_.length)) := by
 intro Y k τ J m st hm h1 h2 hnd hbig hy l0 hl0
 have hlen : (pairYs (rfZ x.from_ x.from_.length)).length = (rfZ x.from_ x.from_.length).length := by simp [pairYs]
 rw [hlen] at hm h1
 refine yL Tryz.func83 (by decide) rfl Tryz.ntmps83 (Nat.le_of_ble_eq_true rfl) rfl ?_
 refine uB (aoR fun _ => ?_)
 refine q32 ?_; refine q23 ?_; refine q13 ?_; refine q11 (uC (uA (uG ?_))); rotate_left
 refine uZ (X := Nat × Rows) (fun p => tmL [(0, .yl k τ), (6, .d (ints x.from_)), (7, .int .i64 x.from_.length), (8, .int .i64 p.1), (GS, .gh (rfZ x.from_ p.1).length Y)]) (fun p => stL p.2)
  (fun p => p.1 ≤ x.from_.length ∧ J (rfZ x.from_ p.1).length p.2 ∧ (st = true → (rfZ x.from_ p.1).length < m)) (fun p => x.from_.length - p.1) (0, l0) ⟨Nat.zero_le _, hl0, h2⟩ leP (fun _ _ h => h) ?_
 rintro ⟨b, l⟩ ⟨hb, hJ, hst⟩
 dsimp only at hb hJ hst ⊢
 have hnext : b < x.from_.length → 0 ≤ x.from_.getD b 0 → (rfZ x.from_ b).length < m ∧ YieldW E.P Y k τ (rfZ x.from_ b).length ((rfZ x.from_ b).length + 1) [.ag (pairO' (x.from_.getD b 0, (b : Int)))] l (J ((rfZ x.from_ b).length + 1)) (!(st && (rfZ x.from_ b).length + 1 == m)) := fun hlt hz => by
  obtain ⟨r, hr⟩ := rfZ_pre x.from_ (show b + 1 ≤ x.from_.length from hlt)
  rw [cE hz] at hr
  obtain ⟨e1, e2⟩ := kN hr
  have hlm : (rfZ x.from_ b).length < m := by
   cases st with
   | true => exact hst rfl
   | false => rw [h1 rfl]; exact e1
  have := hy _ l hlm hJ
  rw [e2] at this
  exact ⟨hlm, this⟩
 have hgo : ∀ {i : Nat}, i < m → (!(st && i + 1 == m)) = true → st = true → i + 1 < m := fun {i} h1 h2 h3 => by
  subst h3
  simp at h2; omega
 have hsto : ∀ {i : Nat}, (!(st && i + 1 == m)) = false → i + 1 = m := fun {i} h => by
  simp at h; exact h.2
 by_cases hlt : b < x.from_.length
 rotate_left
 ·have hbe : b = x.from_.length := by omega
  subst hbe
  have hme : (rfZ x.from_ x.from_.length).length = m := by
   cases st with
   | true => have := hst rfl; omega
   | false => exact (h1 rfl).symm
  rw [hme] at hJ ⊢
  refine uB (aoR fun _ => ?_)
  refine q37 (uC (uA (uB ?_))); refine cnd ?_ ?_
  refine uK fun _ => ?_; try (exfalso; omega)
  refine uL fun _ => ?_; try (exfalso; omega)
  refine uS ?_
  iterate 2 refine vE ?_
  refine vT ?_; rotate_left
  exact ⟨Or.inl rfl, rfl, l, hJ, fun _ _ h => h⟩
 by_cases hz : 0 ≤ x.from_.getD b 0
 ·obtain ⟨hlm, hY⟩ := hnext hlt hz
  have hz' : 0 ≤ x.from_.getD (b : Int).toNat 0 := by rw [Int.toNat_natCast]; exact hz
  rcases Bool.eq_false_or_eq_true (!(st && (rfZ x.from_ b).length + 1 == m)) with hans | hans
  ·rw [hans] at hY
   refine uB (aoR fun _ => ?_)
   refine q37 (uC (uA (uB ?_))); refine cnd ?_ ?_
   refine uK fun _ => ?_; try (exfalso; omega)
   refine uF (uA (uB (uG (uB (aoR fun _ => ?_)))))
   refine q11 ?_; refine q17 ?_; refine q23 ?_
   iterate 2 refine q12 ?_
   refine uC (uA (uB (aoR fun _ => ?_)))
   refine q11 ?_
   apply cV; exact rfl; exact rfl
   refine q11 ?_
   apply uI; exact rfl; exact rfl
   refine uK fun _ => ?_; try (exfalso; omega)
   refine q11 ?_
   apply uI; exact rfl; exact rfl
   refine uM ?_; refine q11 ?_
   apply uI; exact rfl; exact rfl
   refine uM ?_; refine q11 ?_
   apply uI; exact rfl; exact rfl
   refine uM ?_; refine q54 ?_
   apply uI; exact rfl; exact rfl
   refine uM ?_
   apply zW; exact rfl; exact rfl; exact rfl; exact hY; exact (fun _ _ h => h); exact hnd _; (intro l1 hl1)
   apply uI; exact rfl; exact rfl
   refine uM ?_
   apply yE; exact rfl
   refine q4 (uC (uA ?_)); refine cnd ?_ ?_; refine xH ?_; refine uM ?_; refine bW ?_
   exact wA
   refine wS (fun hc_ => ?_); (try simp only [nrm] at hc_)
   refine uF ?_; refine vJ ?_; refine uA (aoR fun _ => ?_)
   refine q36 ?_; refine q11 (uC (uA ?_)); rotate_left
   iterate 5 exact wA
   iterate 2 refine uL fun _ => ?_; try (exfalso; omega)
   refine vI (b + 1, l1) ⟨by dsimp only; omega, ?_, ?_⟩ (by dsimp only; omega) ?_ (aA (hnd _ _ hl1))
   ·dsimp only; rw [cE hz, List.length_append]; exact hl1
   ·dsimp only; rw [cE hz, List.length_append]; exact hgo hlm hans
   ·dsimp only
    rw [cE hz, List.length_append]
    exact leP
  ·rw [hans] at hY
   rw [hsto hans] at hY
   refine uB (aoR fun _ => ?_)
   refine q37 (uC (uA (uB ?_))); refine cnd ?_ ?_
   refine uK fun _ => ?_; try (exfalso; omega)
   refine uF (uA (uB (uG (uB (aoR fun _ => ?_)))))
   refine q11 ?_; refine q17 ?_; refine q23 ?_
   iterate 2 refine q12 ?_
   refine uC (uA (uB (aoR fun _ => ?_)))
   refine q11 ?_
   apply cV; exact rfl; exact rfl
   refine q11 ?_
   apply uI; exact rfl; exact rfl
   refine uK fun _ => ?_; try (exfalso; omega)
   refine q11 ?_
   apply uI; exact rfl; exact rfl
   refine uM ?_; refine q11 ?_
   apply uI; exact rfl; exact rfl
   refine uM ?_; refine q11 ?_
   apply uI; exact rfl; exact rfl
   refine uM ?_; refine q54 ?_
   apply uI; exact rfl; exact rfl
   refine uM ?_
   apply zW; exact rfl; exact rfl; exact rfl; exact hY; exact (fun _ _ h => h); exact hnd _; (intro l1 hl1)
   apply uI; exact rfl; exact rfl
   refine uM ?_
   apply yE; exact rfl
   refine q0 (uC (uA ?_)); refine cnd ?_ ?_
   refine wZ (fun hc_ => ?_); (try simp only [nrm] at hc_)
   refine uH ?_; refine vL ?_
   iterate 2 refine uO ?_
   refine vL ?_; rotate_left
   refine xC ?_
   iterate 6 exact wA
   iterate 2 refine uL fun _ => ?_; try (exfalso; omega)
   exact ⟨Or.inr rfl, rfl, l1, hl1, aA (hnd _ _ hl1)⟩
 ·have hz' : ¬ 0 ≤ x.from_.getD (b : Int).toNat 0 := by rw [Int.toNat_natCast]; exact hz
  refine uB (aoR fun _ => ?_)
  refine q37 (uC (uA (uB ?_))); refine cnd ?_ ?_
  refine uK fun _ => ?_; try (exfalso; omega)
  refine uF (uA (uB (uG (uB (aoR fun _ => ?_)))))
  refine q11 ?_; refine q17 ?_; refine q23 ?_
  iterate 2 refine q12 ?_
  refine uC (uA (uB (aoR fun _ => ?_)))
  refine q11 ?_
  apply cV; exact rfl; exact rfl
  refine q11 ?_
  apply uI; exact rfl; exact rfl
  refine uK fun _ => ?_; try (exfalso; omega)
  refine uL fun _ => ?_; try (exfalso; omega)
  apply uI; exact rfl; exact rfl
  exact uN
  refine uJ ?_
  apply uI; exact rfl; exact rfl
  exact uN
  refine uJ ?_
  apply uI; exact rfl; exact rfl
  exact uN
  refine uJ ?_
  apply uI; exact rfl; exact rfl
  exact uN
  refine uJ ?_
  apply uI; exact rfl; exact rfl
  exact uN
  refine uJ ?_
  apply wI; exact rfl
  apply xL; exact rfl
  refine uC (uA ?_); refine cnd ?_ ?_
  exact uN
  refine uJ ?_; refine uF ?_; refine vJ ?_; refine uA (aoR fun _ => ?_)
  refine q36 ?_; refine q11 (uC (uA ?_)); rotate_left
  refine uL fun _ => ?_; try (exfalso; omega)
  refine vI (b + 1, l) ⟨by dsimp only; omega, ?_, ?_⟩ (by dsimp only; omega) ?_ (fun _ _ h => h)
  ·dsimp only; rw [iG hz]; exact hJ
  ·dsimp only; rw [iG hz]; exact hst
  ·dsimp only
   rw [iG hz]
   exact leP
def rfF (x : Ex) : List (Int × Int) := if checkI x = 0 then sortZ (rfZ x.from_ x.from_.length) else []
theorem lT (zs : List Int) (k : Nat) : (rfZ zs k).length ≤ k := by
 unfold rfZ
 refine Nat.le_trans (List.length_filterMap_le _ _) (by simp)
theorem kD {zs : List Int} {k : Nat} (hz : ∀ i, zs.getD i 0 < 65536) (hk : k ≤ 65536) : smallP (rfZ zs k) := fun p hp => by
 unfold rfZ at hp
 obtain ⟨b, hb, h⟩ := List.mem_filterMap.1 hp
 have hb := List.mem_range.1 hb
 split at h
 ·rename_i h0
  cases h
  have := hz b
  dsimp only
  omega
 ·cases h
set_option maxHeartbeats 4000000 in
theorem rf_s (x : Ex) (hx : x.fit) : Own E.P 55 [exOV x] 2 ((rfF x).map pairO') := by
 unfold rfF
 refine fnA Tryz.func55 Tryz.ntmps55 ?_
 refine uB (aoR fun _ => ?_)
 refine q40 ?_; refine q51 (uC ?_); rotate_left
 refine uA ?_
 rename_i v0
 refine yN 1 (v0, 0) 3 [exRow x] (tmL [(1, .d (.pt (exRow x) 0))]) (stL []) rfl (wT rfl (.lo 0 0 _ rfl) aB) (by repeat' (first | exact aB | exact lZ | (refine wT rfl (zS ?_) ?_; (first | rfl | (simp; done))) | refine wT rfl (.same _) ?_ | refine mA (by decide) rfl (.same _) ?_)) ?_
 by_cases hc : checkI x = 0
 ·rw [if_pos hc]
  obtain ⟨h1, h2, h3, h4⟩ := vO hc
  have hfl := yS h3
  have hsm : smallP (rfZ x.from_ x.from_.length) := kD (fun i => by have := pV h3 i; omega) (by omega)
  have hln := lT x.from_ x.from_.length
  iterate 2 refine uB ?_
  refine aoR fun _ => ?_; refine q33 ?_
  apply uQ; exact rfl; exact .fn _ _ _; exact rfl; exact zA _ hx.1 hx.2
  refine q44 (uC (uA ?_)); refine cnd ?_ ?_
  refine wR (fun _ => ?_); (try (exfalso; omega))
  refine wN (fun _ => ?_); (try (exfalso; omega))
  refine uF (uA (uB (aoR fun _ => ?_)))
  apply wE; exact rfl; exact rfl
  apply eX; exact rfl; exact .fn _ _ _; exact rfl; exact gP (.fn _ _ _) _ hsm (by omega) (rf1_s x (by omega))
  apply xU; exact rfl; exact rfl
  refine uC (uA ?_); refine uH ?_; rotate_left
  exact wY (d := 2) rfl rfl rfl rfl
 ·rw [if_neg hc]
  iterate 2 refine uB ?_
  refine aoR fun _ => ?_; refine q33 ?_
  apply uQ; exact rfl; exact .fn _ _ _; exact rfl; exact zA _ hx.1 hx.2
  refine q44 (uC (uA ?_)); refine cnd ?_ ?_
  refine wR (fun _ => ?_); (try (exfalso; omega))
  refine uB (aoR fun _ => ?_)
  refine q51 (uC (uA ?_)); refine uH ?_; refine uO ?_; rotate_left
  refine wN (fun _ => ?_); (try (exfalso; omega))
  exact wY (d := 2) rfl rfl rfl rfl
set_option maxRecDepth 100000
def coIn (l : List Int) (i : Nat) : List (Int × Int) := (List.range i).flatMap fun i => (l.drop (i + 1)).map fun b => (l.getD i 0, b)
def coTo (o : List (Sl × List Int)) (r : Nat) : List (Int × Int) := (o.take r).flatMap fun l => coIn l.2 l.2.length
def coAt (o : List (Sl × List Int)) (r : Nat) (l : List Int) (i j : Nat) : List (Int × Int) := coTo o r ++ coIn l i ++ ((l.drop (i + 1)).take j).map fun b => (l.getD i 0, b)
def coZ (o : List (Sl × List Int)) : List (Int × Int) := coTo o o.length
theorem fM (o : List (Sl × List Int)) (r : Nat) (l : List Int) : coAt o r l 0 0 = coTo o r := by simp [coAt, coIn]
theorem aJ (l : List Int) (i : Nat) : coIn l (i + 1) = coIn l i ++ (l.drop (i + 1)).map fun b => (l.getD i 0, b) := by
 simp [coIn, List.range_succ, List.flatMap_append]
theorem coAt_end (o : List (Sl × List Int)) (r : Nat) (l : List Int) (i j : Nat) (h : l.length ≤ i + 1 + j) : coAt o r l i j = coAt o r l (i + 1) 0 := by
 unfold coAt
 rw [aJ, List.take_of_length_le (by simp; omega), List.take_zero, List.map_nil, List.append_nil, List.append_assoc]
theorem cL (o : List (Sl × List Int)) (r : Nat) (h : r < o.length) : coTo o (r + 1) = coTo o r ++ coIn (o.getD r default).2 (o.getD r default).2.length := by
 unfold coTo
 rw [wO o default r h, List.flatMap_append]
 simp
theorem coAt_next (o : List (Sl × List Int)) (r : Nat) (h : r < o.length) : coAt o r (o.getD r default).2 (o.getD r default).2.length 0 = coTo o (r + 1) := by
 rw [cL o r h]
 simp [coAt]
theorem kZ (o : List (Sl × List Int)) (r : Nat) (l : List Int) (i j : Nat) (h : i + 1 + j < l.length) : coAt o r l i (j + 1) = coAt o r l i j ++ [(l.getD i 0, l.getD (i + 1 + j) 0)] := by
 unfold coAt
 rw [wO (l.drop (i + 1)) 0 j (by simp; omega), List.map_append, List.append_assoc _ _ [_], List.append_assoc, List.append_assoc]
 simp [List.getD]
theorem coTo_pre (o : List (Sl × List Int)) : ∀ {a b : Nat}, a ≤ b → b ≤ o.length → ∃ r, coTo o b = coTo o a ++ r := fun {a b} h hb => by
  induction b with
  | zero => have : a = 0 := by omega
            subst this; exact ⟨[], by simp⟩
  | succ b ih =>
    by_cases e : a = b + 1
    · subst e; exact ⟨[], by simp⟩
    · obtain ⟨r, hr⟩ := ih (by omega) (by omega)
      exact ⟨_, by rw [cL o b (by omega), hr, List.append_assoc]⟩
theorem coIn_pre (l : List Int) : ∀ {a b : Nat}, a ≤ b → ∃ r, coIn l b = coIn l a ++ r := fun {a b} h => by
  induction b with
  | zero => have : a = 0 := by omega
            subst this; exact ⟨[], by simp⟩
  | succ b ih =>
    by_cases e : a = b + 1
    · subst e; exact ⟨[], by simp⟩
    · obtain ⟨r, hr⟩ := ih (by omega)
      exact ⟨_, by rw [aJ, hr, List.append_assoc]⟩
theorem coAt_in (o : List (Sl × List Int)) (r i j : Nat) (h : r < o.length) (hj : i + 1 + j < (o.getD r default).2.length) :
  ∃ q, coZ o = coAt o r (o.getD r default).2 i j ++ [((o.getD r default).2.getD i 0, (o.getD r default).2.getD (i + 1 + j) 0)] ++ q := by
 generalize hl : (o.getD r default).2 = l at hj ⊢
 obtain ⟨q1, h1⟩ := coTo_pre o (show r + 1 ≤ o.length by omega) (Nat.le_refl _)
 obtain ⟨q2, h2⟩ := coIn_pre l (show i + 1 ≤ l.length by omega)
 unfold coZ
 rw [h1, cL o r h, hl, h2, aJ, ← kZ o r l i j hj]
 unfold coAt
 have : (l.drop (i + 1)).map (fun b => (l.getD i 0, b)) = ((l.drop (i + 1)).take (j + 1)).map (fun b => (l.getD i 0, b)) ++ ((l.drop (i + 1)).drop (j + 1)).map (fun b => (l.getD i 0, b)) := by
  rw [← List.map_append, List.take_append_drop]
 rw [this]
 exact ⟨_, by simp only [List.append_assoc]; rfl⟩
set_option maxHeartbeats 4000000 in
theorem co1_s (x : Ex) (hx : x.fit) : SeqW E.P 84 [] [.d (.pt (exRow x) 0)] (pairYs (coZ x.order)) := by
 intro Y k τ J m st hm h1 h2 hnd hbig hy l0 hl0
 have hlen : (pairYs (coZ x.order)).length = (coZ x.order).length := by simp [pairYs]
 rw [hlen] at hm h1
 refine yL Tryz.func84 (by decide) rfl Tryz.ntmps84 (Nat.le_of_ble_eq_true rfl) rfl ?_
 refine fQ ?_; refine uB ?_; refine fS ?_; refine uA (uB (aoR fun _ => ?_))
 refine q32 ?_; refine q23 ?_; refine q13 ?_; refine q11 (uC (uA (uG ?_))); rotate_left
 have hT0 : m = (coTo x.order 0).length → True := fun _ => trivial
 refine uZ (X := Nat × Rows) (fun p => tmL [(0, .yl k τ), (10, .d (rowsTV x.order)), (11, .int .i64 x.order.length), (12, .int .i64 p.1), (GS, .gh (coTo x.order p.1).length Y)]) (fun p => stL p.2)
  (fun p => p.1 ≤ x.order.length ∧ J (coTo x.order p.1).length p.2 ∧ (st = true → (coTo x.order p.1).length < m)) (fun p => x.order.length - p.1) (0, l0) ⟨Nat.zero_le _, hl0, h2⟩ leP (fun _ _ h => h) ?_
 rintro ⟨r, l⟩ ⟨hr, hJ, hst⟩
 dsimp only at hr hJ hst ⊢
 by_cases hlt : r < x.order.length
 rotate_left
 ·have hbe : r = x.order.length := by omega
  subst hbe
  have hme : (coTo x.order x.order.length).length = m := by
   cases st with
   | true => have h9 := hst rfl; have h8 : (coZ x.order).length = (coTo x.order x.order.length).length := rfl; omega
   | false => exact (h1 rfl).symm
  rw [hme] at hJ ⊢
  refine uB (aoR fun _ => ?_)
  refine q37 (uC (uA (uB ?_))); refine cnd ?_ ?_
  refine uK fun _ => ?_; try (exfalso; omega)
  refine uL fun _ => ?_; try (exfalso; omega)
  refine uS ?_
  iterate 2 refine vE ?_
  refine vT ?_; refine ng_n ?_; rotate_left
  exact ⟨Or.inl rfl, rfl, l, hJ, fun _ _ h => h⟩
 refine uB (aoR fun _ => ?_)
 refine q37 (uC (uA (uB ?_))); refine cnd ?_ ?_
 refine uK fun _ => ?_; try (exfalso; omega)
 refine uF (uA (uB (uG (uB (aoR fun _ => ?_)))))
 refine q17 ?_; refine q23 ?_; refine q12 (uC (uA (uB (aoR fun _ => ?_))))
 refine q11 ?_; refine q13 ?_; refine q11 (uC (uA (uG ?_))); rotate_left
 refine uL fun _ => ?_; try (exfalso; omega)
 have hol : x.order.length ≤ 1152921504606846976 := hx.1.2.2.2.1
 generalize hL : (x.order.getD r default).2 = L
 have hin := coAt_in x.order r
 rw [hL] at hin
 have hnx := coAt_next x.order r hlt
 rw [hL] at hnx
 have hLl : L.length ≤ 65536 := by
  rw [← hL, List.getD_eq_getElem?_getD, List.getElem?_eq_getElem hlt]
  exact hx.2 _ (List.getElem_mem hlt)
 refine uZ (X := Nat × Rows) (fun p => tmL [(0, .yl k τ), (10, .d (rowsTV x.order)), (11, .int .i64 x.order.length), (12, .int .i64 r), (4, .d (ints L)), (16, .d (ints L)), (17, .int .i64 L.length), (18, .int .i64 p.1), (GS, .gh (coAt x.order r L p.1 0).length Y)]) (fun p => stL p.2)
  (fun p => p.1 ≤ L.length ∧ J (coAt x.order r L p.1 0).length p.2 ∧ (st = true → (coAt x.order r L p.1 0).length < m)) (fun p => L.length - p.1) (0, l) ⟨Nat.zero_le _, by dsimp only; rw [fM]; exact hJ, by dsimp only; rw [fM]; exact hst⟩ ?_ (fun _ _ h => h) ?_
 ·dsimp only
  rw [fM, ← hL]
  exact leP
 clear hJ hst l
 rintro ⟨i, l⟩ ⟨hi, hJ, hst⟩
 dsimp only at hi hJ hst ⊢
 by_cases hlt2 : i < L.length
 rotate_left
 ·have hbe : i = L.length := by omega
  subst hbe
  rw [hnx] at hJ hst ⊢
  refine uB (aoR fun _ => ?_)
  refine q37 (uC (uA (uB ?_))); refine cnd ?_ ?_
  refine uK fun _ => ?_; try (exfalso; omega)
  refine uL fun _ => ?_; try (exfalso; omega)
  refine uS ?_
  iterate 2 refine vE ?_
  refine vT ?_; refine vJ ?_; refine uA (aoR fun _ => ?_)
  refine q36 ?_; refine q11 (uC (uA ?_)); rotate_left
  exact ⟨(r + 1, l), ⟨show r + 1 ≤ _ by omega, hJ, hst⟩, show x.order.length - (r + 1) < x.order.length - r by omega, leP, fun _ _ h => h⟩
 refine uB (aoR fun _ => ?_)
 refine q37 (uC (uA (uB ?_))); refine cnd ?_ ?_
 refine uK fun _ => ?_; try (exfalso; omega)
 refine uF (uA (uB (uG (uB (aoR fun _ => ?_)))))
 refine q11 ?_; refine q17 ?_; refine q23 ?_
 iterate 2 refine q12 ?_
 refine uC (uA (uB (aoR fun _ => ?_)))
 iterate 2 refine q11 ?_
 refine q36 ?_
 (apply jM (l := i + 1) (h := L.length); exact rfl; exact rfl; exact rfl; exact rfl; exact rfl; exact ⟨_, _, rfl, by omega, by omega⟩; exact (by show L.length = _; simp); omega; (simp))
 refine q13 ?_; refine q11 (uC (uA (uG ?_))); rotate_left
 refine uL fun _ => ?_; try (exfalso; omega)
 have hsl : ((L.map cell).drop (i + 1)).take (L.length - (i + 1)) = (L.drop (i + 1)).map cell := by
  rw [List.take_of_length_le (by simp), List.map_drop]
 have hdl : (L.drop (i + 1)).length = L.length - (i + 1) := by simp
 have hdg : ∀ j, (L.drop (i + 1)).getD j 0 = L.getD (i + 1 + j) 0 := fun j => by simp [List.getD]
 refine uZ (X := Nat × Rows) (fun p => tmL [(0, .yl k τ), (10, .d (rowsTV x.order)), (11, .int .i64 x.order.length), (12, .int .i64 r), (4, .d (ints L)), (16, .d (ints L)), (17, .int .i64 L.length), (18, .int .i64 i), (6, .int .i64 (L.getD i 0)), (26, .d (ints (L.drop (i + 1)))), (27, .int .i64 (L.drop (i + 1)).length), (28, .int .i64 p.1), (GS, .gh (coAt x.order r L i p.1).length Y)]) (fun p => stL p.2)
  (fun p => p.1 ≤ (L.drop (i + 1)).length ∧ J (coAt x.order r L i p.1).length p.2 ∧ (st = true → (coAt x.order r L i p.1).length < m)) (fun p => (L.drop (i + 1)).length - p.1) (0, l) ⟨Nat.zero_le _, hJ, hst⟩ ?_ (fun _ _ h => h) ?_
 ·rw [hsl]
  refine uP rfl (uP rfl (uP rfl (uP rfl (uP rfl (uP rfl (uP rfl (uP rfl (uP rfl (uP rfl (uP ?_ leP))))))))))
  rw [List.length_map]; rfl
 clear hJ hst l
 rintro ⟨j, l⟩ ⟨hj, hJ, hst⟩
 dsimp only at hj hJ hst ⊢
 by_cases hlt3 : j < (L.drop (i + 1)).length
 rotate_left
 ·have hend := coAt_end x.order r L i j (by omega)
  rw [hend] at hJ hst ⊢
  refine uB (aoR fun _ => ?_)
  refine q37 (uC (uA (uB ?_))); refine cnd ?_ ?_
  refine uK fun _ => ?_; try (exfalso; omega)
  refine uL fun _ => ?_; try (exfalso; omega)
  refine uS ?_
  iterate 2 refine vE ?_
  refine vT ?_; refine vJ ?_; refine uA (aoR fun _ => ?_)
  refine q36 ?_; refine q11 (uC (uA ?_)); rotate_left
  exact ⟨(i + 1, l), ⟨show i + 1 ≤ _ by omega, hJ, hst⟩, show L.length - (i + 1) < L.length - i by omega, leP, fun _ _ h => h⟩
 have hstep := kZ x.order r L i j (by omega)
 obtain ⟨q, hq⟩ := hin i j hlt (by omega)
 obtain ⟨hlm, hY⟩ := iB h1 hy hq hst hJ
 rw [← hdg j] at hY
 have hlen1 : (coAt x.order r L i (j + 1)).length = (coAt x.order r L i j).length + 1 := by rw [hstep]; simp
 rcases Bool.eq_false_or_eq_true (!(st && (coAt x.order r L i j).length + 1 == m)) with hans | hans
 ·rw [hans] at hY
  refine uB (aoR fun _ => ?_)
  refine q37 (uC (uA (uB ?_))); refine cnd ?_ ?_
  refine uK fun _ => ?_; try (exfalso; omega)
  refine uF (uA (uB (uG (uB (aoR fun _ => ?_)))))
  refine q17 ?_; refine q23 ?_; refine q12 (uC (uA (uB (aoR fun _ => ?_))))
  iterate 3 refine q11 ?_
  refine q54 ?_
  apply zW; exact rfl; exact rfl; exact rfl; exact hY; exact (fun _ _ h => h); exact hnd _; (intro l1 hl1)
  apply yE; exact rfl
  refine uC (uA ?_); refine cnd ?_ ?_; refine bW ?_
  exact wA
  refine xS ?_; refine uM ?_; refine uF ?_; refine vJ ?_; refine uA (aoR fun _ => ?_)
  refine q36 ?_; refine q11 (uC (uA ?_)); rotate_left
  refine uL fun _ => ?_; try (exfalso; omega)
  refine ⟨(j + 1, l1), ⟨show j + 1 ≤ _ by omega, ?_, ?_⟩, show (L.drop (i + 1)).length - (j + 1) < (L.drop (i + 1)).length - j by omega, ?_, aA (hnd _ _ hl1)⟩
  ·dsimp only; rw [hlen1]; exact hl1
  ·dsimp only; rw [hlen1]; exact lQ hlm hans
  ·dsimp only; rw [hlen1]; exact leP
 ·rw [hans] at hY
  rw [dS hans] at hY
  refine uB (aoR fun _ => ?_)
  refine q37 (uC (uA (uB ?_))); refine cnd ?_ ?_
  refine uK fun _ => ?_; try (exfalso; omega)
  refine uF (uA (uB (uG (uB (aoR fun _ => ?_)))))
  refine q17 ?_; refine q23 ?_; refine q12 (uC (uA (uB (aoR fun _ => ?_))))
  iterate 3 refine q11 ?_
  refine q54 ?_
  apply zW; exact rfl; exact rfl; exact rfl; exact hY; exact (fun _ _ h => h); exact hnd _; (intro l1 hl1)
  apply yE; exact rfl
  refine uC (uA ?_); refine cnd ?_ ?_; refine bW ?_; refine uJ ?_; refine uS ?_
  refine jC ?_ ?_; exact rfl
  iterate 2 refine vE ?_
  iterate 2 (refine jC ?_ ?_; exact rfl)
  iterate 2 refine vE ?_
  iterate 2 (refine jC ?_ ?_; exact rfl)
  iterate 2 refine vE ?_
  refine vT ?_; refine ng_n ?_; rotate_left
  refine xS ?_
  exact uN
  refine uL fun _ => ?_; try (exfalso; omega)
  exact ⟨Or.inl rfl, rfl, l1, hl1, aA (hnd _ _ hl1)⟩
theorem zE {es : List Ev} {ad : List Int} {o : List (Sl × List Int)} (h : orderB es ad o = true) : o.length = ad.length ∧ ∀ r, r < o.length → sortI (o.getD r default).2 = wantTo es (ad.getD r 0) es.length ∧ (o.getD r default).2.getD 0 0 = (r : Int) ∧ (o.getD r default).2 ≠ [] := by
 unfold orderB rowsTo at h
 simp only [Bool.and_eq_true, decide_eq_true_eq, List.all_eq_true, List.mem_range] at h
 refine ⟨h.1, fun r hr => ?_⟩
 have := h.2 r hr
 unfold rowOk at this
 simp only [Bool.and_eq_true, Bool.not_eq_true', beq_eq_false_iff_ne, bne_eq_false_iff_eq, beq_iff_eq] at this
 exact ⟨this.2, this.1.2, fun e => this.1.1 (by rw [e]; rfl)⟩
theorem zF {es : List Ev} {ad : List Int} {o : List (Sl × List Int)} (h : orderB es ad o = true) {r : Nat} (hr : r < o.length) {a : Int} : a ∈ (o.getD r default).2 ↔ a ∈ wantTo es (ad.getD r 0) es.length := by
 rw [← ((zE h).2 r hr).1]
 exact (List.mergeSort_perm _ _).mem_iff.symm
theorem lL {es : List Ev} {a b : Int} {k : Nat} (h : b ∈ wantTo es a k) : 0 ≤ b ∧ b < k := by
 unfold wantTo at h
 obtain ⟨n, h1, rfl⟩ := List.mem_map.1 h
 have := List.mem_range.1 (List.mem_filter.1 h1).1
 exact ⟨Int.natCast_nonneg n, Int.ofNat_lt.2 this⟩
theorem want_len (es : List Ev) (a : Int) (k : Nat) : (wantTo es a k).length ≤ k := by
 unfold wantTo
 rw [List.length_map]
 exact Nat.le_trans (List.length_filter_le _ _) (by simp)
theorem order_len {es : List Ev} {ad : List Int} {o : List (Sl × List Int)} (h : orderB es ad o = true) {r : Nat} (hr : r < o.length) : (o.getD r default).2.length ≤ es.length := by
 rw [← List.length_mergeSort (o.getD r default).2 (le := fun x y => decide (x ≤ y))]
 have := ((zE h).2 r hr).1
 unfold sortI at this
 rw [this]
 exact want_len _ _ _
theorem oE (l : List Int) : ∀ i, (coIn l i).length ≤ i * l.length
 | 0 => by simp [coIn]
 | i + 1 => by
  rw [aJ, List.length_append, Nat.succ_mul]
  have := oE l i
  simp only [List.length_map, List.length_drop]
  omega
theorem oC (o : List (Sl × List Int)) (n : Nat) (h : ∀ r, r < o.length → (o.getD r default).2.length ≤ n) : ∀ r, r ≤ o.length → (coTo o r).length ≤ r * (n * n)
 | 0, _ => by simp [coTo]
 | r + 1, hr => by
  rw [cL o r (by omega), List.length_append, Nat.succ_mul]
  have h1 := oC o n h r (by omega)
  have h2 := oE (o.getD r default).2 (o.getD r default).2.length
  have h3 := h r (by omega)
  have h4 : (o.getD r default).2.length * (o.getD r default).2.length ≤ n * n := Nat.mul_le_mul h3 h3
  omega
theorem iZ {l : List Int} {i : Nat} {p : Int × Int} (h : p ∈ coIn l i) (hi : i ≤ l.length) : p.1 ∈ l ∧ p.2 ∈ l := by
 unfold coIn at h
 obtain ⟨j, h1, h2⟩ := List.mem_flatMap.1 h
 obtain ⟨b, h3, rfl⟩ := List.mem_map.1 h2
 have hj := List.mem_range.1 h1
 refine ⟨?_, List.mem_of_mem_drop h3⟩
 dsimp only
 rw [List.getD_eq_getElem?_getD, List.getElem?_eq_getElem (by omega)]
 exact List.getElem_mem _
theorem oB {o : List (Sl × List Int)} {r : Nat} {p : Int × Int} (h : p ∈ coTo o r) : ∃ k, k < o.length ∧ p ∈ coIn (o.getD k default).2 (o.getD k default).2.length := by
 unfold coTo at h
 obtain ⟨l, h1, h2⟩ := List.mem_flatMap.1 h
 obtain ⟨k, hk, e⟩ := List.getElem_of_mem (List.mem_of_mem_take h1)
 refine ⟨k, hk, ?_⟩
 rw [List.getD_eq_getElem?_getD, List.getElem?_eq_getElem hk, Option.getD_some, e]
 exact h2
theorem fL {es : List Ev} {ad : List Int} {o : List (Sl × List Int)} (h : orderB es ad o = true) (h64 : es.length ≤ 65536) : smallP (coZ o) := fun p hp => by
 obtain ⟨k, hk, h2⟩ := oB hp
 obtain ⟨e1, e2⟩ := iZ h2 (Nat.le_refl _)
 have a1 := lL ((zF h hk).1 e1)
 have a2 := lL ((zF h hk).1 e2)
 omega
def coF (x : Ex) : List (Int × Int) := if checkI x = 0 then sortZ (coZ x.order) else []
theorem pY {x : Ex} (hc : checkI x = 0) : (coZ x.order).length ≤ 262144 := by
 obtain ⟨h1, h2, h3, h4⟩ := vO hc
 have h5 := (zE h4).1
 have h6 := yD x.evs
 have h7 := oC x.order 64 (fun r hr => Nat.le_trans (order_len h4 hr) h1) x.order.length (Nat.le_refl _)
 unfold coZ
 omega
set_option maxHeartbeats 4000000 in
theorem co_s (x : Ex) (hx : x.fit) : Own E.P 56 [exOV x] 2 ((coF x).map pairO') := by
 unfold coF
 refine fnA Tryz.func56 Tryz.ntmps56 ?_
 refine uB (aoR fun _ => ?_)
 refine q40 ?_; refine q51 (uC ?_); rotate_left
 refine uA ?_
 rename_i v0
 refine yN 1 (v0, 0) 3 [exRow x] (tmL [(1, .d (.pt (exRow x) 0))]) (stL []) rfl (wT rfl (.lo 0 0 _ rfl) aB) (by repeat' (first | exact aB | exact lZ | (refine wT rfl (zS ?_) ?_; (first | rfl | (simp; done))) | refine wT rfl (.same _) ?_ | refine mA (by decide) rfl (.same _) ?_)) ?_
 by_cases hc : checkI x = 0
 ·rw [if_pos hc]
  have hln := pY hc
  obtain ⟨h1, h2, h3, h4⟩ := vO hc
  have hsm : smallP (coZ x.order) := fL h4 (by omega)
  iterate 2 refine uB ?_
  refine aoR fun _ => ?_; refine q33 ?_
  apply uQ; exact rfl; exact .fn _ _ _; exact rfl; exact zA _ hx.1 hx.2
  refine q44 (uC (uA ?_)); refine cnd ?_ ?_
  refine wR (fun _ => ?_); (try (exfalso; omega))
  refine wN (fun _ => ?_); (try (exfalso; omega))
  refine uF (uA (uB (aoR fun _ => ?_)))
  apply wE; exact rfl; exact rfl
  apply eX; exact rfl; exact .fn _ _ _; exact rfl; exact gP (.fn _ _ _) _ hsm (by omega) (co1_s x hx)
  apply xU; exact rfl; exact rfl
  refine uC (uA ?_); refine uH ?_; rotate_left
  exact wY (d := 2) rfl rfl rfl rfl
 ·rw [if_neg hc]
  iterate 2 refine uB ?_
  refine aoR fun _ => ?_; refine q33 ?_
  apply uQ; exact rfl; exact .fn _ _ _; exact rfl; exact zA _ hx.1 hx.2
  refine q44 (uC (uA ?_)); refine cnd ?_ ?_
  refine wR (fun _ => ?_); (try (exfalso; omega))
  refine uB (aoR fun _ => ?_)
  refine q51 (uC (uA ?_)); refine uH ?_; refine uO ?_; rotate_left
  refine wN (fun _ => ?_); (try (exfalso; omega))
  exact wY (d := 2) rfl rfl rfl rfl
theorem bT (l : List Int) (a b : Int) : (a, b) ∈ coIn l l.length ↔ ∃ i j, i < j ∧ j < l.length ∧ l.getD i 0 = a ∧ l.getD j 0 = b := by
 unfold coIn
 constructor
 ·intro h
  obtain ⟨i, h1, h2⟩ := List.mem_flatMap.1 h
  obtain ⟨c, h3, h4⟩ := List.mem_map.1 h2
  cases h4
  obtain ⟨k, hk, e⟩ := List.getElem_of_mem h3
  simp at hk
  refine ⟨i, i + 1 + k, by omega, by omega, rfl, ?_⟩
  rw [← e, List.getElem_drop, List.getD_eq_getElem?_getD, List.getElem?_eq_getElem (by omega)]; rfl
 ·rintro ⟨i, j, h1, h2, rfl, rfl⟩
  refine List.mem_flatMap.2 ⟨i, List.mem_range.2 (by omega), List.mem_map.2 ⟨l.getD j 0, ?_, rfl⟩⟩
  rw [List.getD_eq_getElem?_getD, List.getElem?_eq_getElem h2]
  refine List.mem_of_getElem (i := j - (i + 1)) (h := by simp; omega) ?_
  rw [List.getElem_drop, Option.getD_some]
  congr 1; omega
theorem dY (o : List (Sl × List Int)) (p : Int × Int) : p ∈ coZ o ↔ ∃ r, r < o.length ∧ p ∈ coIn (o.getD r default).2 (o.getD r default).2.length := by
 constructor
 ·exact oB
 ·rintro ⟨r, hr, hp⟩
  unfold coZ coTo
  refine List.mem_flatMap.2 ⟨o.getD r default, ?_, hp⟩
  rw [List.take_length, List.getD_eq_getElem?_getD, List.getElem?_eq_getElem hr]
  exact List.getElem_mem _
theorem fE (es : List Ev) (a : Int) (k n : Nat) : (n : Int) ∈ wantTo es a k ↔ n < k ∧ (es.getD n default).stB = true ∧ (es.getD n default).addr = a := by
 unfold wantTo
 constructor
 ·intro h
  obtain ⟨m, h1, h2⟩ := List.mem_map.1 h
  have : m = n := Int.ofNat.inj h2
  subst this
  obtain ⟨h3, h4⟩ := List.mem_filter.1 h1
  simp only [Bool.and_eq_true, beq_iff_eq] at h4
  exact ⟨List.mem_range.1 h3, h4⟩
 ·rintro ⟨h1, h2, h3⟩
  exact List.mem_map.2 ⟨n, List.mem_filter.2 ⟨List.mem_range.2 h1, by simp only [Bool.and_eq_true, beq_iff_eq]; exact ⟨h2, h3⟩⟩, rfl⟩
theorem want_nodupZ (es : List Ev) (a : Int) (k : Nat) : (wantTo es a k).Nodup := by
 unfold wantTo
 exact List.Pairwise.map _ (fun x y h e => h (Int.ofNat.inj e)) (List.Pairwise.filter _ List.nodup_range)
theorem zD {es : List Ev} {ad : List Int} {o : List (Sl × List Int)} (h : orderB es ad o = true) {r : Nat} (hr : r < o.length) : (o.getD r default).2.Nodup := by
 have h1 := ((zE h).2 r hr).1
 have h2 := want_nodupZ es (ad.getD r 0) es.length
 rw [← h1] at h2
 exact (List.mergeSort_perm _ _).nodup_iff.1 h2
theorem dW {l : List Int} (h : l.Nodup) {i j : Nat} (hi : i < l.length) (hj : j < l.length) (e : l.getD i 0 = l.getD j 0) : i = j := by
 rw [List.getD_eq_getElem?_getD, List.getD_eq_getElem?_getD, List.getElem?_eq_getElem hi, List.getElem?_eq_getElem hj] at e
 have e' : l[i] = l[j] := e
 rcases Nat.lt_trichotomy i j with hij | hij | hij
 ·exact (List.pairwise_iff_getElem.1 h i j hi hj hij e').elim
 ·exact hij
 ·exact (List.pairwise_iff_getElem.1 h j i hj hi hij e'.symm).elim
theorem fF {l : List Int} {a : Int} (h : a ∈ l) : ∃ i, i < l.length ∧ l.getD i 0 = a := by
 obtain ⟨i, hi, e⟩ := List.getElem_of_mem h
 exact ⟨i, hi, by rw [List.getD_eq_getElem?_getD, List.getElem?_eq_getElem hi]; exact e⟩
theorem qR {l : List Int} {i : Nat} (h : i < l.length) : l.getD i 0 ∈ l := by
 rw [List.getD_eq_getElem?_getD, List.getElem?_eq_getElem h]
 exact List.getElem_mem _
theorem iL (a : Int) : ∀ (es : List Ev) (l : List Int), a ∈ es.foldl (fun l e => if e.kind = 4 then l else addIn e.addr l) l ↔ a ∈ l ∨ ∃ e ∈ es, e.kind ≠ 4 ∧ e.addr = a
 | [], l => by simp
 | e :: es, l => by
  rw [List.foldl_cons, iL a es]
  by_cases h : e.kind = 4
  ·rw [if_pos h]
   constructor
   ·rintro (h1 | ⟨f, h1, h2⟩)
    ·exact Or.inl h1
    ·exact Or.inr ⟨f, by simp [h1], h2⟩
   ·rintro (h1 | ⟨f, h1, h2, h3⟩)
    ·exact Or.inl h1
    ·rcases List.mem_cons.1 h1 with rfl | h1
     ·exact (h2 h).elim
     ·exact Or.inr ⟨f, h1, h2, h3⟩
  ·rw [if_neg h, cI]
   constructor
   ·rintro ((rfl | h1) | ⟨f, h1, h2⟩)
    ·exact Or.inr ⟨e, by simp, h, rfl⟩
    ·exact Or.inl h1
    ·exact Or.inr ⟨f, by simp [h1], h2⟩
   ·rintro (h1 | ⟨f, h1, h2, h3⟩)
    ·exact Or.inl (Or.inr h1)
    ·rcases List.mem_cons.1 h1 with rfl | h1
     ·exact Or.inl (Or.inl h3.symm)
     ·exact Or.inr ⟨f, h1, h2, h3⟩
theorem mem_addrs (es : List Ev) (a : Int) : a ∈ addrsTo es ↔ ∃ e ∈ es, e.kind ≠ 4 ∧ e.addr = a := by
 unfold addrsTo
 rw [iL]
 simp
def both (es : List Ev) (a b : Nat) : Prop := (es.getD a default).stB = true ∧ (es.getD b default).stB = true ∧ (es.getD a default).addr = (es.getD b default).addr
section
variable {es : List Ev} {o : List (Sl × List Int)} (h : orderB es (addrsTo es) o = true)
include h
omit h in
theorem bY {a b : Int} (hp : (a, b) ∈ coZ o) : ∃ r i j, r < o.length ∧ i < j ∧ j < (o.getD r default).2.length ∧ (o.getD r default).2.getD i 0 = a ∧ (o.getD r default).2.getD j 0 = b := by
 obtain ⟨r, hr, h1⟩ := (dY o _).1 hp
 obtain ⟨i, j, h2, h3, h4, h5⟩ := (bT _ a b).1 h1
 exact ⟨r, i, j, hr, h2, h3, h4, h5⟩
theorem aO {r i : Nat} (hr : r < o.length) (hi : i < (o.getD r default).2.length) {a : Nat} (e : (o.getD r default).2.getD i 0 = a) : a < es.length ∧ (es.getD a default).stB = true ∧ (es.getD a default).addr = (addrsTo es).getD r 0 := by
 have h1 := (zF h hr).1 (qR hi)
 rw [e] at h1
 exact (fE _ _ _ _).1 h1
theorem dU {r r' : Nat} (hr : r < o.length) (hr' : r' < o.length) (e : (addrsTo es).getD r 0 = (addrsTo es).getD r' 0) : r = r' := by
 have hl := (zE h).1
 have hn : (addrsTo es).Nodup := (bZ es).imp fun h => Int.ne_of_lt h
 exact dW hn (by omega) (by omega) e
theorem rP {a b : Nat} (hp : ((a : Int), (b : Int)) ∈ coZ o) : a < es.length ∧ b < es.length ∧ a ≠ b ∧ both es a b := by
 obtain ⟨r, i, j, hr, h2, h3, h4, h5⟩ := bY hp
 obtain ⟨a1, a2, a3⟩ := aO h hr (by omega) h4
 obtain ⟨b1, b2, b3⟩ := aO h hr h3 h5
 refine ⟨a1, b1, fun e => ?_, a2, b2, a3.trans b3.symm⟩
 subst e
 have := dW (zD h hr) (by omega) h3 (h4.trans h5.symm)
 omega
theorem rO {a b : Nat} (ha : a < es.length) (hb : b < es.length) (hne : a ≠ b) (hab : both es a b) : ((a : Int), (b : Int)) ∈ coZ o ∨ ((b : Int), (a : Int)) ∈ coZ o := by
 obtain ⟨h1, h2, h3⟩ := hab
 have hm : (es.getD a default).addr ∈ addrsTo es := (mem_addrs _ _).2 ⟨es.getD a default, by
  rw [List.getD_eq_getElem?_getD, List.getElem?_eq_getElem ha]; exact List.getElem_mem _, fun e => by
  unfold Ev.stB at h1; rw [e] at h1; simp at h1, rfl⟩
 obtain ⟨r, hr, er⟩ := fF hm
 have hl := (zE h).1
 have hro : r < o.length := by omega
 obtain ⟨i, hi, ei⟩ := fF ((zF h hro).2 ((fE es _ es.length a).2 ⟨ha, h1, er.symm⟩))
 obtain ⟨j, hj, ej⟩ := fF ((zF h hro).2 ((fE es _ es.length b).2 ⟨hb, h2, by rw [← h3, er]⟩))
 rcases Nat.lt_trichotomy i j with hij | hij | hij
 ·exact Or.inl ((dY o _).2 ⟨r, hro, (bT _ _ _).2 ⟨i, j, hij, hj, ei, ej⟩⟩)
 ·subst hij
  rw [ei] at ej
  exact (hne (by omega)).elim
 ·exact Or.inr ((dY o _).2 ⟨r, hro, (bT _ _ _).2 ⟨j, i, hij, hi, ej, ei⟩⟩)
end
theorem pQ {zs : List Int} {k : Nat} {a b : Int} : (a, b) ∈ rfZ zs k ↔ ∃ n : Nat, n < k ∧ 0 ≤ zs.getD n 0 ∧ a = zs.getD n 0 ∧ b = n := by
 unfold rfZ
 constructor
 ·intro h
  obtain ⟨n, h1, h2⟩ := List.mem_filterMap.1 h
  split at h2
  ·rename_i h0
   cases h2
   exact ⟨n, List.mem_range.1 h1, h0, rfl, rfl⟩
  ·cases h2
 ·rintro ⟨n, h1, h0, rfl, rfl⟩
  exact List.mem_filterMap.2 ⟨n, List.mem_range.2 h1, by rw [if_pos h0]⟩
open Go.RowKit Go.Shelf Go.Maps Go.Sort
set_option maxHeartbeats 1000000 in
theorem out_c (n : Int) (p : Int × Int) (Bn : Nat) (w : World) (hB : Bn < w.heap.size) (hn : w.cell? ⟨Bn, 0, none⟩ = some (.int .i64 n)) :
  Calls Tryz.prog 88 #[.agg #[.int .i64 p.1, .int .i64 p.2], .pointer (some ⟨Bn, 0, none⟩)] w fun e w' => e = .returned (.bool (outB n p)) ∧ Below w.heap.size w w' := by
 obtain ⟨a, b⟩ := p
 unfold outB
 dsimp only
 obtain ⟨res, hres⟩ : ∃ z : Bool, (decide (a < 0) || decide (n ≤ a) || decide (b < 0) || decide (n ≤ b)) = z := ⟨_, rfl⟩
 rw [hres]
 have RES := Lib.hid hres
 clear hres
 have hb0 : Below w.heap.size w (w.alloc (.cells #[.int .i64 a, .int .i64 b] 73)) := (Below.refl _ _).alloc (Nat.le_refl _) _
 cases h1 : decide (a < 0) with
 | true =>
  have F : Hid (true = res) := Lib.hid (by rw [← RES.out, h1]; rfl)
  go_enter Tryz.func88, Tryz.ntmps88
  go_wp2
  go_ret
  exact ⟨vC F.out, hb0⟩
 | false =>
 cases h2 : decide (n ≤ a) with
 | true =>
  have F : Hid (true = res) := Lib.hid (by rw [← RES.out, h1, h2]; rfl)
  go_enter Tryz.func88, Tryz.ntmps88
  go_wp2
  go_ret
  exact ⟨vC F.out, hb0⟩
 | false =>
 cases h3 : decide (b < 0) with
 | true =>
  have F : Hid (true = res) := Lib.hid (by rw [← RES.out, h1, h2, h3]; rfl)
  go_enter Tryz.func88, Tryz.ntmps88
  go_wp2
  go_ret
  exact ⟨vC F.out, hb0⟩
 | false =>
 cases h4 : decide (n ≤ b) with
 | true =>
  have F : Hid (true = res) := Lib.hid (by rw [← RES.out, h1, h2, h3, h4]; rfl)
  go_enter Tryz.func88, Tryz.ntmps88
  go_wp2
  go_ret
  exact ⟨vC F.out, hb0⟩
 | false =>
  have F : Hid (false = res) := Lib.hid (by rw [← RES.out, h1, h2, h3, h4]; rfl)
  go_enter Tryz.func88, Tryz.ntmps88
  go_wp2
  go_ret
  exact ⟨vC F.out, hb0⟩
theorem any_take_succ (n : Int) (l : List (Int × Int)) {k : Nat} (hk : k < l.length) : (l.take (k + 1)).any (outB n) = ((l.take k).any (outB n) || outB n (l.getD k (0, 0))) := by
 rw [List.take_succ_eq_append_getElem hk, List.any_append, List.getD_eq_getElem?_getD, List.getElem?_eq_getElem hk]
 simp only [List.any_cons, List.any_nil, Bool.or_false, Option.getD_some]
set_option maxRecDepth 100000 in
set_option maxHeartbeats 1000000 in
theorem index_c (n : Int) (Bn : Nat) (s : Sl) (l : List (Int × Int)) (w : World) (hB : Bn < w.heap.size) (hn : w.cell? ⟨Bn, 0, none⟩ = some (.int .i64 n)) (hl : PairsZ w.heap.size w s l) :
  Calls Tryz.prog 107 #[.slice s.a s.n s.c, .func (.func 88) #[] #[.pointer (some ⟨Bn, 0, none⟩)]] w fun e w' => ∃ r : Int, e = .returned (.int .i64 r) ∧ decide (0 ≤ r) = l.any (outB n) ∧ Below w.heap.size w w' := by
 obtain ⟨a, sn, c⟩ := s
 obtain ⟨h1, h2, h3⟩ := hl
 dsimp only at h1 h3
 subst h1
 have H3 := Lib.hid h3
 have OC := Lib.hid (fun p w hB hn => out_c n p Bn w hB hn)
 clear h3
 go_enter Tryz.func107, Tryz.ntmps107
 go_wp2
 go_loopw [8] (fun i wr => ∃ k : Nat, k ≤ l.length ∧ i = .int .i64 k ∧ (l.take k).any (outB n) = false ∧ Below w.heap.size w wr) (fun i _ => l.length - (intOf i).toNat)
 case atStart => exact ⟨0, by omega, rfl, rfl, Below.refl _ _⟩
 case round =>
  obtain ⟨k, hk, rfl, hto, hbr⟩ := hrel
  have HTO := Lib.hid hto
  clear hto
  by_cases hlt : k < l.length
  ·obtain ⟨b, off, rfl, hbB, hcl⟩ := H3.out.resolve_left (by intro h; rw [h] at hlt; simp at hlt)
   obtain ⟨p, hp⟩ : ∃ p, l.getD k (0, 0) = p := ⟨_, rfl⟩
   have cc := hcl k hlt
   rw [hp] at cc
   have c0 : wr.cell? ⟨b, off + k * 2, none⟩ = some (.int .i64 p.1) := by rw [hbr.cell (p := ⟨b, off + k * 2, none⟩) hbB]; exact cc.1
   have c1 : wr.cell? ⟨b, off + k * 2 + 1, none⟩ = some (.int .i64 p.2) := by rw [hbr.cell (p := ⟨b, off + k * 2 + 1, none⟩) hbB]; exact cc.2
   have HA : Hid ((l.take (k + 1)).any (outB n) = outB n p) := Lib.hid (by rw [any_take_succ n l hlt, HTO.out, hp]; rfl)
   have ctr := Lib.hid (OC.out p wr (by have := hbr.size; omega) ((hbr.cell (p := ⟨Bn, 0, none⟩) hB).trans hn))
   clear hcl cc
   obtain ⟨ob, hob⟩ : ∃ bool_ : Bool, (outB n p) = bool_ := ⟨_, rfl⟩
   have OB := Lib.hid hob
   rw [hob] at ctr
   clear hob hp
   cases ob with
   | true =>
    go_wp2_with (go_at_call 88; refine ctr.out.mono ?_; rintro o w2 ⟨rfl, hb2⟩)
    go_ret
    refine ⟨k, rfl, ?_, hbr.trans (hb2.mono hbr.size)⟩
    have e1 : l.any (outB n) = true := by
     have e2 : (l.take (k + 1)).any (outB n) = true := by rw [HA.out, OB.out]
     rw [List.any_eq_true] at e2 ⊢
     obtain ⟨x, hx, hy⟩ := e2
     exact ⟨x, List.mem_of_mem_take hx, hy⟩
    rw [e1]; simp
   | false =>
    go_wp2_with (go_at_call 88; refine ctr.out.mono ?_; rintro o w2 ⟨rfl, hb2⟩)
    go_roundw
    case rel => first | exact ⟨k + 1, by omega, by go_num, by rw [HA.out, OB.out], hbr.trans (hb2.mono hbr.size)⟩ | ((repeat apply Exists.intro); exact ⟨⟨k + 1, by omega, by go_num, by rw [HA.out, OB.out], hbr.trans (hb2.mono hbr.size)⟩, rfl⟩)
    case measure => simp [intOf]; omega
  ·have hke : k = l.length := by omega
   have e1 : l.any (outB n) = false := by have := HTO.out; rwa [hke, List.take_length] at this
   go_wp2
   go_ret
   exact ⟨-1, rfl, by rw [e1]; rfl, hbr⟩
theorem iX (n : Int) (Bn : Nat) (s : Sl) (l : List (Int × Int)) (w : World) (hB : Bn < w.heap.size) (hn : w.cell? ⟨Bn, 0, none⟩ = some (.int .i64 n)) (hl : PairsZ w.heap.size w s l) :
  Calls Tryz.prog 87 #[.slice s.a s.n s.c, .func (.func 88) #[] #[.pointer (some ⟨Bn, 0, none⟩)]] w fun e w' => e = .returned (.bool (l.any (outB n))) ∧ Below w.heap.size w w' := by
 have ctr := Lib.hid (index_c n Bn s l w hB hn hl)
 obtain ⟨res, hres⟩ : ∃ z : Bool, l.any (outB n) = z := ⟨_, rfl⟩
 rw [hres] at ctr ⊢
 clear hres hl
 go_enter Tryz.func87, Tryz.ntmps87
 go_wp2_with fail
 refine ctr.out.mono ?_; rintro o w2 ⟨r, rfl, hr, hb2⟩
 cases hd : decide (0 ≤ r) with
 | true =>
  go_wp2
  go_ret
  exact ⟨by rw [← hr, hd]; rfl, hb2⟩
 | false =>
  go_wp2
  go_ret
  exact ⟨by rw [← hr, hd]; rfl, hb2⟩
open Go.RowKit Go.Maps
abbrev St := Nat → Nat
def upd (st : St) (a v : Nat) : St := fun i => if i = a then v else st i
def dfsL (f : St → Nat → Bool × St) : St → List Nat → Bool × St
 | st, [] => (true, st)
 | st, b :: r => if (f st b).1 = true then dfsL f (f st b).2 r else (false, (f st b).2)
def dfs (nx : Nat → List Nat) : Nat → St → Nat → Bool × St
 | 0, st, _ => (false, st)
 | n + 1, st, a =>
  if 0 < st a then (st a == 2, st) else
   if (dfsL (dfs nx n) (upd st a 1) (nx a)).1 = true then (true, upd (dfsL (dfs nx n) (upd st a 1) (nx a)).2 a 2) else (false, (dfsL (dfs nx n) (upd st a 1) (nx a)).2)
def whites : Nat → St → Nat
 | 0, _ => 0
 | n + 1, st => whites n st + (if st n = 0 then 1 else 0)
theorem zY (a v : Nat) (st : St) (hv : v ≠ 0) : ∀ n, whites n (upd st a v) ≤ whites n st
 | 0 => Nat.le_refl _
 | n + 1 => by
  have := zY a v st hv n
  unfold whites upd
  unfold upd at this
  by_cases h : n = a
  ·rw [if_pos h, if_neg hv]; omega
  ·rw [if_neg h]; omega
theorem zX (a v : Nat) (st : St) (hv : v ≠ 0) (h0 : st a = 0) : ∀ n, a < n → whites n (upd st a v) + 1 ≤ whites n st
 | 0, h => by omega
 | n + 1, h => by
  unfold whites
  by_cases hn : n = a
  ·have := zY a v st hv n
   have e1 : upd st a v n = v := by unfold upd; rw [if_pos hn]
   rw [e1, if_neg hv, hn, h0]
   rw [hn] at this
   simp
   omega
  ·have := zX a v st hv h0 n (by omega)
   have e1 : upd st a v n = st n := by unfold upd; rw [if_neg hn]
   rw [e1]; omega
def Reads (D : DataW Unit) (st : St) : Prop := ∀ i : Nat, i < 64 → D.atKey (.int .i64 (i : Int)) (.lit (.int .i64 0)) = .lit (.int .i64 (st i : Int))
theorem Reads.upd {D : DataW Unit} {st : St} (h : Reads D st) (hm : IsMap D) (a v : Nat) : Reads (D.put (.int .i64 (a : Int)) (.lit (.int .i64 (v : Int)))) (upd st a v) := by
 intro i hi
 unfold Go.Proofs.YtnkocjkkefnelaaGreat.upd
 by_cases he : i = a
 ·subst he
  rw [if_pos rfl]
  exact atKey_put_same hm (show WideAt.IsKeyLit (Lit.int .i64 (i : Int)) from trivial) _ _
 ·rw [if_neg he, atKey_put_other (by intro e; injection e with _ e2; omega)]
  exact h i hi
theorem nQ : Keyed Tryz.prog 3 := int_keyed Tryz.underlying3
theorem nR {i : Nat} (h : i < 64) : keyOf Tryz.prog 3 (.int .i64 (i : Int)) = some (.int .i64 (i : Int)) := keyOf_int_mk Tryz.underlying3 (by
 simp only [Lit.wf, Bool.and_eq_true, decide_eq_true_eq]
 have e1 : IntKind.i64.min = -9223372036854775808 := by decide
 have e2 : IntKind.i64.max = 9223372036854775807 := by decide
 omega)
theorem wfI {v : Nat} (h : v ≤ 2) : (Lit.int .i64 (v : Int)).wf = true := by
 simp only [Lit.wf, Bool.and_eq_true, decide_eq_true_eq]
 have e1 : IntKind.i64.min = -9223372036854775808 := by decide
 have e2 : IntKind.i64.max = 9223372036854775807 := by decide
 omega
theorem yF {P : Program} (w : World) {ops : Array Oper} {rest : List Oper} {o : Oper} {a : Act} {Q : Exit → Act → World → Prop}
  (hg : o.guard = none) (m x : Operand) (t : TypeId) (hop : o.op = Op.lookup t m x false) (mv key v : Value) (hm : a.eval m = mv) (hx : a.eval x = key) (hrun : (Instr.lookup t mv key false).run P w = .ok v w)
  (hK : wpList P ops Q rest (a.put o.dst v) w) : wpList P ops Q (o :: rest) a w := by
 refine wpList_plain hg fun K' hK' => ?_
 unfold Oper.wp
 simp [execOp, hop, hm, hx, hrun, Result.andThen]
 exact hK' _ _ hK
structure Ground (nx : Nat → List Nat) (w0 : World) (Bs Bt Bc ms mt : Nat) : Prop where
 h8 : w0.cell? ⟨Bs, 0, none⟩ = some (.map (some ms))
 h5 : w0.cell? ⟨Bt, 0, none⟩ = some (.map (some mt))
 h9 : w0.cell? ⟨Bc, 0, none⟩ = some (.func (.func 89) #[] #[.pointer (some ⟨Bs, 0, none⟩), .pointer (some ⟨Bt, 0, none⟩), .pointer (some ⟨Bc, 0, none⟩)])
 ns : Bs ≠ ms
 nt : Bt ≠ ms
 nc : Bc ≠ ms
 nm : mt ≠ ms
 lm : mt < w0.heap.size
 rng : ∀ a : Nat, a < 64 → ∀ b ∈ nx a, b < 64
 len : ∀ a : Nat, (nx a).length ≤ 1152921504606846976
 adj : ∀ a : Nat, a < 64 → ∃ s : Sl, (∀ w' : World, w'.heap[mt]? = w0.heap[mt]? → (Instr.lookup 112 (.map (some mt)) (.int .i64 (a : Int)) false).run Tryz.prog w' = .ok (.slice s.a s.n s.c) w') ∧ s.n = (nx a).length ∧
  (nx a = [] ∨ ∃ b off, s.a = some ⟨b, off, none⟩ ∧ b ≠ ms ∧ ∀ k, k < (nx a).length → w0.cell? ⟨b, off + k, none⟩ = some (.int .i64 ((nx a).getD k 0 : Int)))
def At (w0 : World) (ms : Nat) (M : Nat) (st : St) (w : World) : Prop :=
 w0.grownBy w (some ms) ∧ (∀ i, st i ≤ 2) ∧ ∃ (nn : Nat) (D : DataW Unit), w.ownsMap Tryz.prog 3 (plainElem Tryz.prog 3) ms nn D ∧ Reads D st ∧ nn + 2 * whites 64 st ≤ M
theorem kW (F : St → Nat → Bool × St) (st : St) (l : List Nat) {k : Nat} (hk : k < l.length) : dfsL F st (l.drop k) = if (F st (l.getD k 0)).1 = true then dfsL F (F st (l.getD k 0)).2 (l.drop (k + 1)) else (false, (F st (l.getD k 0)).2) := by
 rw [List.drop_eq_getElem_cons hk, List.getD_eq_getElem?_getD, List.getElem?_eq_getElem hk]
 rfl
theorem look8 {w : World} {ms nn : Nat} {D : DataW Unit} {st : St} (hown : w.ownsMap Tryz.prog 3 (plainElem Tryz.prog 3) ms nn D) (hR : Reads D st) {a : Nat} (ha : a < 64) :
  (Instr.lookup 78 (.map (some ms)) (.int .i64 (a : Int)) false).run Tryz.prog w = .ok (.int .i64 (st a : Int)) w := by
 obtain ⟨c, hrun, hat, _⟩ := hown.lookup_int nQ Tryz.underlying78 Tryz.underlying3 (rI _) (nR ha)
 rw [hR a ha] at hat
 simp only [DataW.lit.injEq, Lit.int.injEq, true_and] at hat
 rw [hat]; exact hrun
set_option maxRecDepth 100000 in
set_option maxHeartbeats 2000000 in
theorem dfs_c (nx : Nat → List Nat) (w0 : World) (Bs Bt Bc ms mt : Nat) (G : Ground nx w0 Bs Bt Bc ms mt) : ∀ (f : Nat) (st : St) (a : Nat) (w : World) (M : Nat), a < 64 → whites 64 st < f → At w0 ms M st w → M ≤ 1000 →
  Calls Tryz.prog 89 #[.int .i64 (a : Int), .pointer (some ⟨Bs, 0, none⟩), .pointer (some ⟨Bt, 0, none⟩), .pointer (some ⟨Bc, 0, none⟩)] w fun e w' => e = .returned (.bool (dfs nx f st a).1) ∧ At w0 ms M (dfs nx f st a).2 w' ∧ whites 64 (dfs nx f st a).2 ≤ whites 64 st := by
 intro f
 induction f with
 | zero => intro st a w M _ h; exact absurd h (Nat.not_lt_zero _)
 | succ f ih =>
  intro st a w M ha hw hAt hM
  have AT := Lib.hid hAt
  obtain ⟨hg, h2, nn, D, hown, hR, hMw⟩ := hAt
  have hrun8 := look8 hown hR ha
  have c8 := hg.cell G.h8 (by intro e; injection e with e; exact G.ns e)
  have GR := Lib.hid G
  by_cases h0 : 0 < st a
  ·have hd : dfs nx (f + 1) st a = (st a == 2, st) := by unfold dfs; rw [if_pos h0]
   rw [hd]
   obtain ⟨v, hv⟩ : ∃ v, st a = v := ⟨_, rfl⟩
   rw [hv] at hrun8 h0 ⊢
   have h0z : (0 : Int) < (v : Int) := by omega
   have e1 : ((v : Int) == 2) = (v == 2) := by
    by_cases h : v = 2
    ·subst h; rfl
    ·rw [beq_eq_false_iff_ne.2 h, beq_eq_false_iff_ne.2 (by omega)]
   have E1 := Lib.hid e1
   clear e1 hv hd ih hown hR hg G
   go_enter Tryz.func89, Tryz.ntmps89
   go_wp2_with (first | (at_lookup; refine yF _ rfl _ _ 78 rfl _ _ _ rfl rfl hrun8 ?_) | go_in)
   go_ret
   exact ⟨by first | (rw [← E1.out]; rfl) | (rw [← E1.out]), AT.out, Nat.le_refl _⟩
  ·have h00 : st a = 0 := by omega
   rw [h00] at hrun8
   have hwu := zX a 1 st (by omega) h00 64 ha
   have hM1 : 1 ≤ M := by omega
   obtain ⟨l, hl⟩ : ∃ l, nx a = l := ⟨_, rfl⟩
   obtain ⟨⟨va, vn, vc⟩, hlk, hvn, hrow⟩ := G.adj a ha
   dsimp only at hlk hvn hrow
   rw [hl] at hvn hrow
   subst hvn
   have hlen := G.len a
   have hrng := G.rng a ha
   rw [hl] at hlen hrng
   have DF : Hid (dfs nx (f + 1) st a = if (dfsL (dfs nx f) (upd st a 1) l).1 = true then (true, upd (dfsL (dfs nx f) (upd st a 1) l).2 a 2) else (false, (dfsL (dfs nx f) (upd st a 1) l).2)) := Lib.hid (by rw [← hl]; show (if 0 < st a then _ else _) = _; rw [if_neg h0])
   have HLK := Lib.hid hlk
   have HROW := Lib.hid hrow
   have HRNG := Lib.hid hrng
   have IH := Lib.hid ih
   have HW := Lib.hid hw
   have HR := Lib.hid hR
   have h00z : ¬ ((0 : Int) < ((0 : Nat) : Int)) := by omega
   clear ih hw hl hlk hrow hrng hR h0 h00 G
   go_enter Tryz.func89, Tryz.ntmps89
   go_upto_region 4 with (first
    | (at_lookup; refine yF _ rfl _ _ 78 rfl _ _ _ rfl rfl hrun8 ?_)
    | (at_mapUpdate; refine wpList_mapUpdate_own _ rfl _ _ _ 78 rfl 3 3 nQ Tryz.underlying78 _ ms nn _ rfl hown (by unfold maxLen; omega) _ _ _ rfl rfl (nR ha) _ [] (plainElem_int Tryz.underlying3 (wfI (v := 1) (by omega))) ?_; intro w1 hown1 hgrow1)
    | go_in)
   have hg1 := hg.trans hgrow1
   have d5 := hg1.cell GR.out.h5 (by intro e; injection e with e; exact GR.out.nt e)
   have hrun5 := HLK.out w1 (hg1.block mt GR.out.lm (by intro e; injection e with e; exact GR.out.nm e))
   have AT1 : Hid (At w0 ms (M - 1) (upd st a 1) w1) := Lib.hid ⟨hg1, fun i => by unfold upd; split; omega; exact h2 i, nn + 1, _, hown1, HR.out.upd hown.isMap a 1, by omega⟩
   have HW1 : Hid (whites 64 (upd st a 1) < f) := Lib.hid (by have := HW.out; omega)
   obtain ⟨st1, hst1⟩ : ∃ s, upd st a 1 = s := ⟨_, rfl⟩
   rw [hst1] at DF AT1 HW1 hwu
   clear hst1 hown1 hgrow1 hown hrun8 hg hMw h2 HR
   go_wp2_with (first | (at_lookup; refine yF _ rfl _ _ 112 rfl _ _ _ rfl rfl hrun5 ?_) | go_in)
   go_loopw [22] (fun i wr => ∃ (k : Nat) (stk : St), k ≤ l.length ∧ i = .int .i64 k ∧ At w0 ms (M - 1) stk wr ∧ whites 64 stk ≤ whites 64 st1 ∧ dfsL (dfs nx f) stk (l.drop k) = dfsL (dfs nx f) st1 l) (fun i _ => l.length - (intOf i).toNat)
   case atStart => exact ⟨0, st1, by omega, rfl, AT1.out, Nat.le_refl _, rfl⟩
   case round =>
    obtain ⟨k, stk, hk, rfl, hAtk, hwk, hL⟩ := hrel
    have hgk := hAtk.1
    have c9 := hgk.cell GR.out.h9 (by intro e; injection e with e; exact GR.out.nc e)
    have c8k := hgk.cell GR.out.h8 (by intro e; injection e with e; exact GR.out.ns e)
    have ATK := Lib.hid hAtk
    have HL := Lib.hid hL
    clear hL hAtk d5 hrun5
    by_cases hlt : k < l.length
    ·obtain ⟨b, off, rfl, hbm, hcl⟩ := HROW.out.resolve_left (by intro h; rw [h] at hlt; simp at hlt)
     obtain ⟨y, hy⟩ : ∃ y, l.getD k 0 = y := ⟨_, rfl⟩
     have cy : wr.cell? ⟨b, off + k, none⟩ = some (.int .i64 (y : Int)) := by rw [← hy]; exact hgk.cell (hcl k hlt) (by intro e; injection e with e; exact hbm e)
     have hy64 : y < 64 := HRNG.out y (by rw [← hy, List.getD_eq_getElem?_getD, List.getElem?_eq_getElem hlt]; exact List.getElem_mem hlt)
     have HD : Hid (dfsL (dfs nx f) stk (l.drop k) = if (dfs nx f stk y).1 = true then dfsL (dfs nx f) (dfs nx f stk y).2 (l.drop (k + 1)) else (false, (dfs nx f stk y).2)) := Lib.hid (by rw [kW _ _ _ hlt, hy])
     have ctr := Lib.hid (IH.out stk y wr (M - 1) hy64 (by have := HW1.out; omega) ATK.out (by omega))
     obtain ⟨⟨r, stn⟩, hr⟩ : ∃ r, dfs nx f stk y = r := ⟨_, rfl⟩
     rw [hr] at ctr HD
     clear hr hy hcl
     cases r with
     | true =>
      go_wp2_with (go_at_call 89; refine ctr.out.mono ?_; rintro o w2 ⟨rfl, hAt2, hw2⟩)
      go_roundw
      case rel => first | exact ⟨k + 1, stn, by omega, by go_num, hAt2, Nat.le_trans hw2 hwk, by rw [← HL.out, HD.out]; rfl⟩ | ((repeat apply Exists.intro); exact ⟨⟨k + 1, stn, by omega, by go_num, hAt2, Nat.le_trans hw2 hwk, by rw [← HL.out, HD.out]; rfl⟩, rfl⟩)
      case measure => simp [intOf]; omega
     | false =>
      have FD : Hid (dfs nx (f + 1) st a = (false, stn)) := Lib.hid (by rw [DF.out, ← HL.out, HD.out]; rfl)
      go_wp2_with (go_at_call 89; refine ctr.out.mono ?_; rintro o w2 ⟨rfl, hAt2, hw2⟩)
      go_ret
      obtain ⟨x1, x2, nn2, D2, x3, x4, x5⟩ := hAt2
      refine ⟨by rw [FD.out]; rfl, by rw [FD.out]; exact ⟨x1, x2, nn2, D2, x3, x4, by dsimp only at x5 ⊢; omega⟩, by rw [FD.out]; dsimp only at hw2 ⊢; omega⟩
    ·have hke : k = l.length := by omega
     have HE : Hid (dfsL (dfs nx f) st1 l = (true, stk)) := Lib.hid (by rw [← HL.out, hke, List.drop_length]; rfl)
     have FD : Hid (dfs nx (f + 1) st a = (true, upd stk a 2)) := Lib.hid (by rw [DF.out, HE.out]; rfl)
     obtain ⟨_, x2, nn2, D2, x3, x4, x5⟩ := ATK.out
     have hnl : ¬ ((k : Int) < (l.length : Int)) := by omega
     go_wp2_with (first
      | (at_mapUpdate; refine wpList_mapUpdate_own _ rfl _ _ _ 78 rfl 3 3 nQ Tryz.underlying78 _ ms nn2 _ rfl x3 (by unfold maxLen; omega) _ _ _ rfl rfl (nR ha) _ [] (plainElem_int Tryz.underlying3 (wfI (v := 2) (by omega))) ?_; intro w3 hown3 hgrow3)
      | go_in)
     go_ret
     have hwz := zY a 2 stk (by omega) 64
     refine ⟨by rw [FD.out]; rfl, by rw [FD.out]; exact ⟨hgk.trans hgrow3, fun i => by show upd stk a 2 i ≤ 2; unfold upd; split; omega; exact x2 i, nn2 + 1, _, hown3, x4.upd x3.isMap a 2, by show nn2 + 1 + 2 * whites 64 (upd stk a 2) ≤ M; omega⟩, by rw [FD.out]; show whites 64 (upd stk a 2) ≤ _; omega⟩
open Go.RowKit Go.Maps
open Go.WideElems (Fit rd rg pl rd_key)
theorem gH {α β : Type} (f : α → β) : ∀ (l : List α), (l.map f).Pairwise (fun p q => p ≠ q) → ∀ x ∈ l, ∀ y ∈ l, f x = f y → x = y
 | [], _, x, hx, _, _, _ => by simp at hx
 | z :: r, h, x, hx, y, hy, e => by
  rw [List.map_cons, List.pairwise_cons] at h
  rcases List.mem_cons.1 hx with rfl | hx2
  ·rcases List.mem_cons.1 hy with rfl | hy
   ·rfl
   ·exact absurd e (h.1 _ (List.mem_map_of_mem hy))
  ·rcases List.mem_cons.1 hy with hy | hy
   ·subst hy; exact absurd e.symm (h.1 _ (List.mem_map_of_mem hx2))
   ·exact gH f r h.2 x hx2 y hy e
theorem fG {H : Type} {P : Program} {t k E : TypeId} {w w' : World} {b : Nat} {es : Array MapEntry} {clock : Nat} {R : Value → Option (DataW H × List MemPlace)} {key z v : Value} {kl : Lit} (K : Keyed P k) (ht : P.underlying t = some (.map k E))
  (hz : ∀ w, (zeroValue E).run P w = .ok z w) (hb : w.heap[b]? = some (.map es clock)) (hb' : w'.heap[b]? = some (.map es clock)) (F : Fit P k R es clock) (hkey : keyOf P k key = some kl)
  (hrun : (Instr.lookup t (.map (some b)) key false).run P w = .ok v w) : (Instr.lookup t (.map (some b)) key false).run P w' = .ok v w' := by
 rcases Maps.fit_look false K ht (hz w) hb F hkey with ⟨h1, h2, _⟩ | ⟨e0, y0, hm0, hk0, h1, hR0, hat0, _⟩
 ·rcases Maps.fit_look false K ht (hz w') hb' F hkey with ⟨g1, _, _⟩ | ⟨e1, y1, hm1, hk1, g1, _⟩
  ·rw [hrun] at h1
   simp only [Bool.false_eq_true, if_false] at h1 g1
   injection h1 with h1 _
   rw [g1, h1]
  ·exact absurd hk1 (h2 e1 hm1)
 ·rcases Maps.fit_look false K ht (hz w') hb' F hkey with ⟨_, g2, _⟩ | ⟨e1, y1, hm1, hk1, g1, hR1, hat1, _⟩
  ·exact absurd hk0 (g2 e0 hm0)
  ·have ap := fit_apart K F
   have hpair : (es.toList.map fun x => (rg P k R x).1).Pairwise (fun p q => p ≠ q) := by
    rw [List.pairwise_map] at ap ⊢
    exact ap
   have he : e0 = e1 := by
    refine gH _ _ hpair e0 hm0 e1 hm1 ?_
    obtain ⟨u0, hu0⟩ := F.reads e0 hm0
    obtain ⟨u1, hu1⟩ := F.reads e1 hm1
    have k0 := rd_key hu0
    have k1 := rd_key hu1
    rw [hk0, hkey] at k0
    rw [hk1, hkey] at k1
    show (rg P k R e0).1 = (rg P k R e1).1
    unfold rg
    rw [hu0, hu1]
    injection k0 with k0
    injection k1 with k1
    show u0.1 = u1.1
    rw [← k0, ← k1]
   rw [hrun] at h1
   simp only [Bool.false_eq_true, if_false] at h1 g1
   injection h1 with h1 _
   rw [g1, h1, he]
open Go.RowKit Go.Maps Go.ChangeMaps
open Go.ChangeShapes (lits)
def itemsD : DataW Unit → List (DataW Unit)
 | .slice es _ => es
 | _ => []
def nxTo (l : List (Int × Int)) (k : Nat) (a : Int) : List Int := ((l.take k).filter (fun p => p.1 == a)).map (·.2)
theorem nxTo_succ (l : List (Int × Int)) {k : Nat} (hk : k < l.length) (a : Int) : nxTo l (k + 1) a = if (l.getD k (0, 0)).1 == a then nxTo l k a ++ [(l.getD k (0, 0)).2] else nxTo l k a := by
 unfold nxTo
 rw [List.take_succ_eq_append_getElem hk, List.getD_eq_getElem?_getD, List.getElem?_eq_getElem hk, Option.getD_some, List.filter_append, List.map_append]
 simp only [List.filter_cons, List.filter_nil]
 split <;> simp
def Grp (D : DataW Unit) (l : List (Int × Int)) (k : Nat) : Prop := ∀ a : Nat, a < 64 → itemsD (D.atKey (.int .i64 (a : Int)) .nil) = lits .i64 (nxTo l k a)
theorem groups_alloc {b nn base : Nat} {D : DataW Unit} {w : World} (h : w.ownsGroups Tryz.prog 3 base 3 .i64 b nn D) (o : Obj) : (w.alloc o).ownsGroups Tryz.prog 3 base 3 .i64 b nn D :=
 h.kept (World.grownBy_alloc w o none) (by simp) (fun es clock hb x hx => by cases x.val.ownBlock <;> simp)
theorem mN (w : World) : (zeroValue 23).run Tryz.prog w = .ok (.slice none 0 0) w := by kernel_rfl
theorem iM : ∀ (x y : List Int), lits (H := Unit) .i64 x = lits .i64 y → x = y
 | [], [], _ => rfl
 | [], b :: y, h => by simp [lits] at h
 | a :: x, [], h => by simp [lits] at h
 | a :: x, b :: y, h => by
  simp only [lits, List.map_cons, List.cons.injEq, DataW.lit.injEq, Lit.int.injEq, true_and] at h
  rw [h.1, iM x y h.2]
theorem Grp.step {D : DataW Unit} {l : List (Int × Int)} {k a : Nat} {pb : Int} {z0 : List Int} {d : DataW Unit} (h : Grp D l k) (hm : IsMap D) (ha : a < 64) (hN : ∀ c : Int, nxTo l (k + 1) c = if ((a : Int) == c) = true then nxTo l k c ++ [pb] else nxTo l k c)
  (hz : itemsD (D.atKey (.int .i64 (a : Int)) .nil) = lits .i64 z0) (hd : d = .slice (lits .i64 (z0 ++ [pb])) []) : Grp (D.put (.int .i64 (a : Int)) d) l (k + 1) := by
 intro c hc
 rw [hN c]
 by_cases he : c = a
 ·subst he
  rw [if_pos (by simp), atKey_put_same hm (show WideAt.IsKeyLit (Lit.int .i64 (c : Int)) from trivial), hd]
  have e : z0 = nxTo l k c := iM _ _ (hz.symm.trans (h c hc))
  rw [← e]; rfl
 ·rw [if_neg (by simp; omega), atKey_put_other (by intro e; injection e with _ e2; omega)]
  exact h c hc
def nxF (l : List (Int × Int)) (a : Nat) : List Nat := (nxTo l l.length (a : Int)).map Int.toNat
def acyB (n : Nat) (l : List (Int × Int)) : Bool := (dfsL (dfs (nxF l) 65) (fun _ => 0) (List.range n)).1
theorem cC (st : St) : ∀ n, whites n st ≤ n
 | 0 => Nat.le_refl _
 | n + 1 => by
  have := cC st n
  unfold whites
  split <;> omega
theorem nxTo_in {n : Int} {l : List (Int × Int)} (h : l.any (outB n) = false) (hn : n ≤ 64) (a : Int) : ∀ z ∈ nxTo l l.length a, 0 ≤ z ∧ z < 64 := by
 intro z hz
 unfold nxTo at hz
 rw [List.take_length] at hz
 obtain ⟨p, hp, rfl⟩ := List.mem_map.1 hz
 have hp2 := (List.mem_filter.1 hp).1
 rw [List.any_eq_false] at h
 have := h p hp2
 unfold outB at this
 simp only [Bool.or_eq_true, decide_eq_true_eq, not_or] at this
 omega
theorem nxTo_len (l : List (Int × Int)) (a : Int) : (nxTo l l.length a).length ≤ l.length := by
 unfold nxTo
 rw [List.length_map, List.take_length]
 exact List.length_filter_le _ _
theorem getD_toNat (zs : List Int) (h : ∀ z ∈ zs, 0 ≤ z) (k : Nat) (hk : k < zs.length) : (((zs.map Int.toNat).getD k 0 : Nat) : Int) = zs.getD k 0 := by
 have hm := h zs[k] (List.getElem_mem hk)
 simp [List.getD, hk]
 omega
theorem ground_of (n : Int) (l : List (Int × Int)) (hok : l.any (outB n) = false) (hn : n ≤ 64) (hlen : l.length ≤ 4096) (wo W0 : World) (mt ms : Nat) (D : DataW Unit) (hown : wo.ownsGroups Tryz.prog 3 (mt + 1) 3 .i64 mt l.length D) (hD : Grp D l l.length)
  (hbx : Boxed wo (mt + 1) 112 (.map (some mt))) (hms : wo.heap.size = ms) (hk : ∀ k, k < wo.heap.size → W0.heap[k]? = wo.heap[k]?)
  (h8 : Boxed W0 (ms + 1) 78 (.map (some ms)))
  (h9 : Boxed W0 (ms + 1 + 1) 101 (.func (.func 89) #[] #[.pointer (some ⟨ms + 1, 0, none⟩), .pointer (some ⟨mt + 1, 0, none⟩), .pointer (some ⟨ms + 1 + 1, 0, none⟩)])) :
  Ground (nxF l) W0 (ms + 1) (mt + 1) (ms + 1 + 1) ms mt := by
 have hbl := hbx.lt
 have hin := nxTo_in hok hn
 refine ⟨h8.cell, ?_, h9.cell, by omega, by omega, by omega, by omega, ?_, ?_, ?_, ?_⟩
 ·have : Boxed W0 (mt + 1) 112 (.map (some mt)) := (hk _ hbl).trans hbx
  exact this.cell
 ·have := h8.lt; omega
 ·intro a ha b hb
  unfold nxF at hb
  obtain ⟨z, hz, rfl⟩ := List.mem_map.1 hb
  have := hin _ z hz
  omega
 ·intro a
  unfold nxF
  rw [List.length_map]
  have := nxTo_len l (a : Int)
  omega
 ·intro a ha
  obtain ⟨v0, z0, run0, at0, oi0, zl0, _⟩ := hown.at nQ Tryz.underlying112 (mN _) (by unfold maxLen; omega) (nR ha)
  obtain ⟨es, clock, hes, F, _⟩ := hown
  have ez : z0 = nxTo l l.length (a : Int) := by
   refine iM _ _ (Eq.trans ?_ (hD a ha))
   rw [at0]
   rcases oi0.datum (H := Unit) with ⟨e1, e2⟩ | e1
   ·rw [e1, e2]; rfl
   ·rw [e1]; rfl
  have hes0 : W0.heap[mt]? = some (.map es clock) := (hk mt (by omega)).trans hes
  have look : ∀ w' : World, w'.heap[mt]? = W0.heap[mt]? → (Instr.lookup 112 (.map (some mt)) (.int .i64 (a : Int)) false).run Tryz.prog w' = .ok v0 w' := fun w' hw' =>
   fG nQ Tryz.underlying112 mN hes (hw'.trans hes0) F (nR ha) run0
  have hl0 : (nxF l a).length = z0.length := by unfold nxF; rw [List.length_map, ez]
  have hpos : ∀ z ∈ z0, 0 ≤ z := fun z hz => by rw [ez] at hz; exact (hin _ z hz).1
  rcases oi0.1.2 with ⟨rfl, hz⟩ | ⟨g, cap, cur, rfl, hbase, hgb, r1, r2, r3, r4⟩
  ·have hz2 : z0 = [] := List.length_eq_zero_iff.1 hz
   exact ⟨⟨none, 0, 0⟩, look, by rw [hl0, hz2]; rfl, Or.inl (by unfold nxF; rw [← ez, hz2]; rfl)⟩
  ·have hgl : g < wo.heap.size := (Array.getElem?_eq_some_iff.1 hgb).1
   refine ⟨⟨some ⟨g, 0, none⟩, z0.length, cap⟩, look, hl0.symm, Or.inr ⟨g, 0, rfl, by omega, fun k hk1 => ?_⟩⟩
   rw [hl0] at hk1
   have hc : W0.cell? ⟨g, 0 + k, none⟩ = wo.cell? ⟨g, 0 + k, none⟩ := World.cell?_of_block (hk g hgl)
   have hH := (xV (Value.int .i64) hgb (by simpa using r4) k (by simpa using hk1)).1
   rw [hc, hH]
   have e : nxF l a = z0.map Int.toNat := by unfold nxF; rw [← ez]
   rw [e, getD_toNat z0 hpos k hk1]
   simp [List.getD, hk1]
def badB (n : Int) (l : List (Int × Int)) : Bool := decide (n < 0) || decide (64 < n) || l.any (outB n)
set_option maxRecDepth 100000 in
set_option maxHeartbeats 2000000 in
theorem acyclic_bad_c (n : Int) (s : Sl) (l : List (Int × Int)) (w : World) (hl : PairsZ w.heap.size w s l) (hbad : badB n l = true) :
  Calls Tryz.prog 59 #[.int .i64 n, .slice s.a s.n s.c] w fun e w' => e = .returned (.bool false) ∧ Below w.heap.size w w' := by
 have hl1 : PairsZ (w.alloc (.cells #[.int .i64 n] 3)).heap.size (w.alloc (.cells #[.int .i64 n] 3)) s l := (hl.below ((Below.refl _ _).alloc (Nat.le_refl _) _)).mono (by simp)
 have ctr := Lib.hid (iX n w.heap.size s l _ (by simp) (by simp) hl1)
 have hb0 : Below w.heap.size w (w.alloc (.cells #[.int .i64 n] 3)) := (Below.refl _ _).alloc (Nat.le_refl _) _
 clear hl hl1
 cases h1 : decide (n < 0) with
 | true =>
  go_enter Tryz.func59, Tryz.ntmps59
  go_wp2
  go_ret
  exact ⟨rfl, hb0⟩
 | false =>
 cases h2 : decide (64 < n) with
 | true =>
  go_enter Tryz.func59, Tryz.ntmps59
  go_wp2
  go_ret
  exact ⟨rfl, hb0⟩
 | false =>
  have h3 : l.any (outB n) = true := by unfold badB at hbad; rw [h1, h2] at hbad; exact hbad
  rw [h3] at ctr
  clear hbad h3
  go_enter Tryz.func59, Tryz.ntmps59
  go_wp2_with (go_at_call 87; refine ctr.out.mono ?_; rintro o w2 ⟨rfl, hb2⟩)
  go_ret
  exact ⟨rfl, hb0.trans (hb2.mono (by simp))⟩
set_option maxRecDepth 100000 in
set_option maxHeartbeats 4000000 in
theorem acyclic_good_c (n : Nat) (s : Sl) (l : List (Int × Int)) (w : World) (hl : PairsZ w.heap.size w s l) (hn : n ≤ 64) (hok : l.any (outB n) = false) (hlen : l.length ≤ 4096) :
    Calls Tryz.prog 59 #[.int .i64 (n : Int), .slice s.a s.n s.c] w fun e w' => e = .returned (.bool (acyB n l)) ∧ Below w.heap.size w w' := by
  obtain ⟨res, hres⟩ : ∃ z : Bool, acyB n l = z := ⟨_, rfl⟩
  rw [hres]
  have RES := Lib.hid hres
  clear hres
  have hl1 : PairsZ (w.alloc (.cells #[.int .i64 (n : Int)] 3)).heap.size (w.alloc (.cells #[.int .i64 (n : Int)] 3)) s l := (hl.below ((Below.refl _ _).alloc (Nat.le_refl _) _)).mono (by simp)
  have ctr := Lib.hid (iX n w.heap.size s l _ (by simp) (by simp) hl1)
  have hb0 : Below w.heap.size w (w.alloc (.cells #[.int .i64 (n : Int)] 3)) := (Below.refl _ _).alloc (Nat.le_refl _) _
  rw [hok] at ctr
  obtain ⟨sa, sn, sc⟩ := s
  obtain ⟨hsn, hls, hrow⟩ := hl
  dsimp only at hsn hrow
  subst hsn
  have HROW := Lib.hid hrow
  have HOK := Lib.hid hok
  clear hl1 hrow hok
  have hmm := @run_makeMap Tryz.prog
  obtain ⟨i0, hi, jz0, jz1, jz2⟩ := info_parts oZ
  have h1 : decide ((n : Int) < 0) = false := decide_eq_false (by omega)
  have h2 : decide ((64 : Int) < (n : Int)) = false := decide_eq_false (by omega)
  have h3 : decide (64 < n) = false := decide_eq_false (by omega)
  go_enter Tryz.func59, Tryz.ntmps59
  go_upto_region 3 with (go_at_call 87; refine ctr.out.mono ?_; rintro o w2 ⟨rfl, hb2⟩)
  have hbw : Below w.heap.size w w2 := hb0.trans (hb2.mono (by simp))
  have cn : w2.cell? ⟨w.heap.size, 0, none⟩ = some (.int .i64 (n : Int)) := (hb2.cell (p := ⟨w.heap.size, 0, none⟩) (by simp)).trans (by simp)
  have hz2 : w.heap.size < w2.heap.size := by have := hb2.size; simp at this; omega
  clear hb0 hb2 ctr h1 h2 h3
  go_wp2
  go_loopw [25] (fun i wr => ∃ (k : Nat) (D : DataW Unit), k ≤ l.length ∧ i = .int .i64 k ∧ wr.ownsGroups Tryz.prog 3 (w2.heap.size + 1) 3 .i64 w2.heap.size k D ∧ Grp D l k ∧ Boxed wr (w2.heap.size + 1) 112 (.map (some w2.heap.size)) ∧ Below w2.heap.size w2 wr) (fun i _ => l.length - (intOf i).toNat)
  case atStart =>
    refine ⟨0, .map [], by omega, rfl, groups_alloc (World.ownsGroups_made w2 _ _ _ _) _, fun a ha => rfl, ?_, ((Below.refl _ _).alloc (Nat.le_refl _) _).alloc (by simp) _⟩
    have := Boxed.new (w2.alloc (.map #[] 0)) 112 (.map (some w2.heap.size))
    rwa [World.size_alloc] at this
  case round =>
    obtain ⟨k, D, hk, rfl, hown, hD, hbx, hbr⟩ := hrel
    rename World => wo
    have HD := Lib.hid hD
    clear hD hmm
    by_cases hlt : k < l.length
    · obtain ⟨b, off, rfl, hbB, hcl⟩ := HROW.out.resolve_left (by intro h; rw [h] at hlt; simp at hlt)
      obtain ⟨⟨pa, pb⟩, hp⟩ : ∃ p, l.getD k (0, 0) = p := ⟨_, rfl⟩
      have cc := hcl k hlt
      rw [hp] at cc
      dsimp only at cc
      have hbw2 := hbw.trans (hbr.mono (by omega))
      have q0 : wo.cell? ⟨b, off + k * 2, none⟩ = some (.int .i64 pa) := by rw [hbw2.cell (p := ⟨b, off + k * 2, none⟩) hbB]; exact cc.1
      have q1 : wo.cell? ⟨b, off + k * 2 + 1, none⟩ = some (.int .i64 pb) := by rw [hbw2.cell (p := ⟨b, off + k * 2 + 1, none⟩) hbB]; exact cc.2
      have hin : 0 ≤ pa ∧ pa < 64 ∧ 0 ≤ pb ∧ pb < 64 := by
        have hx : outB n (pa, pb) = false := by
          have := HOK.out
          rw [List.any_eq_false] at this
          have h2 := this (pa, pb) (by rw [← hp, List.getD_eq_getElem?_getD, List.getElem?_eq_getElem hlt]; exact List.getElem_mem hlt)
          simpa using h2
        unfold outB at hx
        simp only [Bool.or_eq_false_iff, decide_eq_false_iff_not] at hx
        omega
      obtain ⟨a, rfl⟩ : ∃ a : Nat, pa = a := ⟨pa.toNat, by omega⟩
      have HN := Lib.hid (nxTo_succ l hlt)
      rw [hp] at HN
      clear hcl cc hp
      obtain ⟨v0, z0, run0, at0, oi0, zl0, back0⟩ := hown.at nQ Tryz.underlying112 (mN _) (by unfold maxLen; omega) (nR (show a < 64 by omega))
      obtain ⟨es, clock, hes, F, _, hDm, _⟩ := hown
      have ISM : Hid (IsMap D) := Lib.hid ⟨_, hDm⟩
      have AT0 := Lib.hid at0
      clear hDm at0
      have hmlt : w2.heap.size < wo.heap.size := (Array.getElem?_eq_some_iff.1 hes).1
      have nbox : some (w2.heap.size + 1) ≠ v0.ownBlock := hbx.not_row (by decide) oi0.1
      have npair : some wo.heap.size ≠ v0.ownBlock := fun e => by have := (oi0.1.lt _ e.symm).2; omega
      have wfb : (Lit.int .i64 pb).wf = true := by
        obtain ⟨pn, rfl⟩ : ∃ pn : Nat, pb = pn := ⟨pb.toNat, by omega⟩
        simp only [Lit.wf, Bool.and_eq_true, decide_eq_true_eq]
        have e1 : IntKind.i64.min = -9223372036854775808 := by decide
        have e2 : IntKind.i64.max = 9223372036854775807 := by decide
        omega
      go_upto_region 7 with (fail)
      refine wU (X := fun W => Code.wp _ _ _ _ W) ?_
      intro w3 hb3 hs3 hcs3
      have t0 : w3.cell? ⟨wo.heap.size, 0, none⟩ = some (.int .i64 (a : Int)) := hcs3 0 _ rfl
      have t1 : w3.cell? ⟨wo.heap.size, 1, none⟩ = some (.int .i64 pb) := hcs3 1 _ rfl
      have tb : w3.cell? ⟨w2.heap.size + 1, 0, none⟩ = some (.map (some w2.heap.size)) := (hb3.cell (p := ⟨w2.heap.size + 1, 0, none⟩) hbx.lt).trans hbx.cell
      have hg3 : wo.grownBy w3 none := ⟨hb3.os, hb3.tape, hb3.output, hb3.size, fun k hk _ => hb3.block k hk⟩
      have hes3 : w3.drew.heap[w2.heap.size]? = some (.map es clock) := (hb3.block _ hmlt).trans hes
      have runA := fG nQ Tryz.underlying112 mN hes hes3 F (nR (show a < 64 by omega)) run0
      have runB := fG (w' := (w3.alloc (.cells #[.int .i64 pb] 3)).drew) nQ Tryz.underlying112 mN hes ((Below.heap_alloc _ _ _ (by show w2.heap.size < w3.heap.size; omega)).trans hes3) F (nR (show a < 64 by omega)) run0
      have row3 : w3.drew.ownsRow (w2.heap.size + 1) 3 1 v0 z0.length (z0.map (Value.int .i64)) := wX oi0.1 hb3.drew (Nat.le_refl _)
      have hz3 : w2.heap.size + 1 ≤ w3.heap.size := by omega
      have hg3d : wo.grownBy w3.drew v0.ownBlock := ⟨hb3.drew.os, hb3.drew.tape, hb3.drew.output, hb3.drew.size, fun k hk _ => hb3.drew.block k hk⟩
      have nmap : some wo.heap.size ≠ some w2.heap.size := by intro e; injection e with e; omega
      clear hcs3 F hes hes3 run0
      go_region_held3 (fun w' => w'.cell? ⟨w2.heap.size + 1, 0, none⟩ = some (.map (some w2.heap.size)) ∧ w'.cell? ⟨wo.heap.size, 0, none⟩ = some (.int .i64 (a : Int)) ∧ w'.cell? ⟨wo.heap.size, 1, none⟩ = some (.int .i64 pb))
        (first
          | go_keep
          | (go_split_ands
             refine ⟨?_, ?_, ?_⟩
             · exact hgrow5.cell (by assumption) nbox
             · exact hgrow5.cell (by assumption) npair
             · exact hgrow5.cell (by assumption) npair)
          | (go_split_ands
             refine ⟨?_, ?_, ?_⟩
             · exact hgrow6.cell (by assumption) (by simp)
             · exact hgrow6.cell (by assumption) nmap
             · exact hgrow6.cell (by assumption) nmap))
        ((refine step_append_lies _ (by rfl) _ _ _ (by rfl) (w2.heap.size + 1) 3 i0 (.int .i64 0) 1 8 Tryz.underlying23 hi jz0 jz1 jz2 rfl (by omega) v0 z0.length (z0.map (Value.int .i64)) (by rfl) (row3.alloc _)
            ⟨w3.heap.size, 0, none⟩ 1 1 [.int .i64 pb] (by rfl) (by rfl) (World.news_of_block (cs := #[.int .i64 pb]) (t := 3) (fr := (0, 0)) (heap_alloc_new w3.drew _)) (by simp [Value.oneCell'])
            (by omega) (by unfold maxLen; omega) (by omega) (by simp; omega) (w3.heap.size + 1) (by simp) ?_; intro gg cap w5 hown5 hgrow5 hat5 hlt5
          obtain ⟨w6, run6, hown6, hgrow6⟩ := back0 w5 (.slice (some ⟨gg, 0, none⟩) (z0.length + 1) cap) (z0 ++ [pb]) (hg3d.trans ((World.grownBy_alloc _ _ _).trans hgrow5)) (oi0.appended hown5 wfb) (by simp; omega) (hat5.imp (fun h => h.symm) (fun h => ⟨gg, rfl, by omega⟩))))
      all_goals
        go_wp2
        go_roundw
        case rel =>
          have hgrp : Grp (D.put (.int .i64 (a : Int)) (rowDatum .i64 (.slice (some ⟨gg, 0, none⟩) (z0.length + 1) cap) (z0 ++ [pb]))) l (k + 1) := HD.out.step ISM.out (by omega) HN.out (by
            rw [AT0.out]
            rcases oi0.datum (H := Unit) with ⟨e1, e2⟩ | e1
            · rw [e1, e2]; rfl
            · rw [e1]; rfl) ((oi0.appended hown5 wfb).datum_pos (by simp))
          have hbx6 : Boxed w6 (w2.heap.size + 1) 112 (.map (some w2.heap.size)) := (((hbx.kept hg3d nbox).alloc _).kept hgrow5 nbox).kept hgrow6 (by simp)
          have hbr6 : Below w2.heap.size w2 w6 := hbr.groups oi0 (hg3d.trans ((World.grownBy_alloc _ _ _).trans hgrow5)) hgrow6 hbr.size (by omega) (Nat.le_refl _)
          first | exact ⟨k + 1, _, by omega, by go_num, hown6, hgrp, hbx6, hbr6⟩ | ((repeat apply Exists.intro); exact ⟨⟨k + 1, _, by omega, by go_num, hown6, hgrp, hbx6, hbr6⟩, rfl⟩)
        case measure => simp [intOf]; omega
    · have hke : k = l.length := by omega
      subst hke
      have hmm := @run_makeMap Tryz.prog
      have bN := Boxed.new ((wo.alloc (.map #[] 0)).alloc (.cells #[.map (some wo.heap.size)] 78)) 101 .nilFunc
      rw [World.size_alloc, World.size_alloc] at bN
      have nc := bN.cell
      have nf := bN.frozen
      have bS := (Boxed.new (wo.alloc (.map #[] 0)) 78 (.map (some wo.heap.size))).alloc (.cells #[.nilFunc] 101)
      rw [World.size_alloc] at bS
      have hgn : wo.grownBy (((wo.alloc (.map #[] 0)).alloc (.cells #[.map (some wo.heap.size)] 78)).alloc (.cells #[.nilFunc] 101)) none := ((World.grownBy_alloc _ _ _).trans (World.grownBy_alloc _ _ _)).trans (World.grownBy_alloc _ _ _)
      have ownS : (((wo.alloc (.map #[] 0)).alloc (.cells #[.map (some wo.heap.size)] 78)).alloc (.cells #[.nilFunc] 101)).ownsMap Tryz.prog 3 (plainElem Tryz.prog 3) wo.heap.size 0 (.map [] : DataW Unit) := ((World.ownsMap_made wo _ _ _).alloc _).alloc _
      have szW : (((wo.alloc (.map #[] 0)).alloc (.cells #[.map (some wo.heap.size)] 78)).alloc (.cells #[.nilFunc] 101)).heap.size = wo.heap.size + 3 := by simp
      go_upto_region 11 with (fail)
      obtain ⟨W1, hW1⟩ : ∃ W1, (((wo.alloc (.map #[] 0)).alloc (.cells #[.map (some wo.heap.size)] 78)).alloc (.cells #[.nilFunc] 101)) = W1 := ⟨_, rfl⟩
      rw [hW1] at bN nc nf bS hgn ownS szW
      rw [hW1]
      clear hW1 hmm
      have hsf := fun (a : Addr) (c : Array Value) (w : World) => run_store Tryz.prog w a (.func (.func 89) #[] c) .plain rfl
      go_upto_region 12 with (fail)
      have sC : Boxed (W1.setCell ⟨wo.heap.size + 1 + 1, 0, none⟩ (.func (.func 89) #[] #[.pointer (some ⟨wo.heap.size + 1, 0, none⟩), .pointer (some ⟨w2.heap.size + 1, 0, none⟩), .pointer (some ⟨wo.heap.size + 1 + 1, 0, none⟩)])) (wo.heap.size + 1 + 1) 101 (.func (.func 89) #[] #[.pointer (some ⟨wo.heap.size + 1, 0, none⟩), .pointer (some ⟨w2.heap.size + 1, 0, none⟩), .pointer (some ⟨wo.heap.size + 1 + 1, 0, none⟩)]) := bN.set _
      have gC := grownBy_setCell' W1 (wo.heap.size + 1 + 1) (.func (.func 89) #[] #[.pointer (some ⟨wo.heap.size + 1, 0, none⟩), .pointer (some ⟨w2.heap.size + 1, 0, none⟩), .pointer (some ⟨wo.heap.size + 1 + 1, 0, none⟩)])
      obtain ⟨W0, hW0⟩ : ∃ W0, W1.setCell ⟨wo.heap.size + 1 + 1, 0, none⟩ (.func (.func 89) #[] #[.pointer (some ⟨wo.heap.size + 1, 0, none⟩), .pointer (some ⟨w2.heap.size + 1, 0, none⟩), .pointer (some ⟨wo.heap.size + 1 + 1, 0, none⟩)]) = W0 := ⟨_, rfl⟩
      rw [hW0] at sC gC
      rw [hW0]
      clear hW0 hsf nc nf bN
      have hbl := hbx.lt
      have hz20 : w2.heap.size ≤ wo.heap.size := hbr.size
      have hkW : ∀ k, k < wo.heap.size → W0.heap[k]? = wo.heap[k]? := fun k hk1 => (gC.block k (by omega) (by intro e; injection e with e; omega)).trans (hgn.block k hk1 (by simp))
      have G := ground_of n l HOK.out (by omega) hlen wo W0 w2.heap.size wo.heap.size D hown HD.out hbx rfl hkW (bS.kept gC (by intro e; injection e with e; omega)) sC
      have DC := Lib.hid (dfs_c (nxF l) W0 _ _ _ _ _ G)
      have cn0 : W0.cell? ⟨w.heap.size, 0, none⟩ = some (.int .i64 (n : Int)) := (World.cell?_of_block (hkW _ (by show w.heap.size < _; omega))).trans ((hbr.cell (p := ⟨w.heap.size, 0, none⟩) (by exact hz2)).trans cn)
      have AT0 : At W0 wo.heap.size 128 (fun _ => 0) W0 := ⟨World.grownBy.refl _ _, fun _ => Nat.zero_le _, 0, .map [], ownS.kept gC (by intro e; injection e with e; omega), fun i hi => rfl, by have := cC (fun _ => 0) 64; omega⟩
      have HB0 : Hid (∀ W, W0.grownBy W (some wo.heap.size) → Below w.heap.size w W) := Lib.hid (fun W h => hbw.trans ((((hbr.grown hgn (by omega) (fun k e => by cases e)).grown gC (by omega) (fun k e => by injection e with e; omega)).grown h (by have := gC.size; omega) (fun k e => by injection e with e; omega)).mono (by omega)))
      have G9 := Lib.hid G.h9
      clear G hkW hbx hbl gC sC bS ownS hgn hown
      go_wp2
      go_loopw [44] (fun i wr => ∃ (k : Nat) (st : St), k ≤ n ∧ i = .int .i64 k ∧ At W0 wo.heap.size 128 st wr ∧ dfsL (dfs (nxF l) 65) st ((List.range n).drop k) = dfsL (dfs (nxF l) 65) (fun _ => 0) (List.range n)) (fun i _ => n - (intOf i).toNat)
      case atStart => exact ⟨0, _, by omega, rfl, AT0, rfl⟩
      case round =>
        obtain ⟨k2, st, hk2, rfl, hAt, hL⟩ := hrel
        have hgk := hAt.1
        have ATK := Lib.hid hAt
        have HL := Lib.hid hL
        have c9 := hgk.cell G9.out (by intro e; injection e with e; exact absurd e (by show wo.heap.size + 1 + 1 ≠ wo.heap.size; omega))
        clear hAt hL
        by_cases hlt2 : k2 < n
        · have ctr := Lib.hid (DC.out 65 st k2 wr 128 (by omega) (by have := cC st 64; omega) ATK.out (by omega))
          have HD2 : Hid (dfsL (dfs (nxF l) 65) st ((List.range n).drop k2) = if (dfs (nxF l) 65 st k2).1 = true then dfsL (dfs (nxF l) 65) (dfs (nxF l) 65 st k2).2 ((List.range n).drop (k2 + 1)) else (false, (dfs (nxF l) 65 st k2).2)) := Lib.hid (by
            rw [kW _ _ _ (by simpa using hlt2)]; simp [List.getD, hlt2])
          obtain ⟨⟨r, stn⟩, hr⟩ : ∃ r, dfs (nxF l) 65 st k2 = r := ⟨_, rfl⟩
          rw [hr] at ctr HD2
          clear hr
          cases r with
          | true =>
            go_wp2_with (go_at_call 89; refine ctr.out.mono ?_; rintro o w9 ⟨rfl, hAt2, hw9⟩)
            go_roundw
            case rel => first | exact ⟨k2 + 1, stn, by omega, by go_num, hAt2, by rw [← HL.out, HD2.out]; rfl⟩ | ((repeat apply Exists.intro); exact ⟨⟨k2 + 1, stn, by omega, by go_num, hAt2, by rw [← HL.out, HD2.out]; rfl⟩, rfl⟩)
            case measure => simp [intOf]; omega
          | false =>
            have FD : Hid (res = false) := Lib.hid (by rw [← RES.out]; unfold acyB; rw [← HL.out, HD2.out]; rfl)
            go_wp2_with (go_at_call 89; refine ctr.out.mono ?_; rintro o w9 ⟨rfl, hAt2, hw9⟩)
            go_ret
            exact ⟨vC FD.out.symm, HB0.out _ hAt2.1⟩
        · have hke2 : k2 = n := by omega
          have FD : Hid (res = true) := Lib.hid (by rw [← RES.out]; unfold acyB; rw [← HL.out, hke2, List.drop_of_length_le (by simp)]; rfl)
          go_wp2
          go_ret
          exact ⟨vC FD.out.symm, HB0.out _ ATK.out.1⟩
def acyI (n : Int) (l : List (Int × Int)) : Bool := !badB n l && acyB n.toNat l
theorem acyclic_c (n : Int) (s : Sl) (l : List (Int × Int)) (w : World) (hl : PairsZ w.heap.size w s l) (hlen : l.length ≤ 4096) :
  Calls Tryz.prog 59 #[.int .i64 n, .slice s.a s.n s.c] w fun e w' => e = .returned (.bool (acyI n l)) ∧ Below w.heap.size w w' := by
 unfold acyI
 cases hb : badB n l with
 | true => exact acyclic_bad_c n s l w hl hb
 | false =>
  have hb2 := hb
  unfold badB at hb2
  simp only [Bool.or_eq_false_iff, decide_eq_false_iff_not] at hb2
  obtain ⟨⟨h1, h2⟩, h3⟩ := hb2
  obtain ⟨m, rfl⟩ : ∃ m : Nat, n = m := ⟨n.toNat, by omega⟩
  exact acyclic_good_c m s l w hl (by omega) h3 hlen
open Go.RowKit Go.ChangeShapes Go.WideShapes Go.Deep
theorem pairs_back {M : Mem} {w : World} (hm : ∀ b o v, M b o = some v → w.cell? ⟨b, o, none⟩ = some v) {l : List (Int × Int)} {v : Value} (h : Rep M (pairsTV l) v) (hl : l.length ≤ 1152921504606846976) : ∃ s : Sl, v = .slice s.a s.n s.c ∧ PairsZ w.heap.size w s l := by
 unfold pairsTV at h
 rw [Rep] at h
 obtain ⟨a, c, h1, h2, h3⟩ := h
 rw [List.length_map] at h1
 refine ⟨⟨a, l.length, c⟩, h1, rfl, hl, ?_⟩
 rcases h3 with h3 | ⟨b, off, h4, h5⟩
 ·exact Or.inl (List.map_eq_nil_iff.1 h3)
 ·have get : ∀ k, k < l.length → w.cell? ⟨b, off + k * 2, none⟩ = some (.int .i64 (l.getD k (0, 0)).1) ∧ w.cell? ⟨b, off + k * 2 + 1, none⟩ = some (.int .i64 (l.getD k (0, 0)).2) := fun k hk => by
   obtain ⟨_, g2⟩ := h5.get (uW (f := pairTV) hk (0, 0))
   obtain ⟨u, g3, g4⟩ := g2.get (o := 0) rfl
   obtain ⟨u', g5, g6⟩ := g2.get (o := 1) rfl
   rw [Rep] at g4 g6
   rw [g4.1] at g3
   rw [g6.1] at g5
   exact ⟨hm _ _ _ g3, hm _ _ _ g5⟩
  by_cases hz : l = []
  ·exact Or.inl hz
  ·exact Or.inr ⟨b, off, h4, (zV (get 0 (List.length_pos_iff.2 hz)).1).2, get⟩
theorem lG (n : Int) (l : List (Int × Int)) (hl : l.length ≤ 4096) : Pure E.P 59 [.int .i64 n, .d (pairsTV l)] (.bool (acyI n l)) := by
 refine pO ⟨_, Tryz.func59, by decide, rfl⟩ rfl fun G w vs hr hm => ?_
 rw [RepOL] at hr
 obtain ⟨v, us, rfl, r0, hr⟩ := hr
 rw [RepOL] at hr
 obtain ⟨v1, us1, rfl, r1, hr⟩ := hr
 rw [RepOL] at hr
 subst hr
 have e0 := vZ r0
 subst e0
 rw [RepO] at r1
 obtain ⟨s, rfl, hs⟩ := pairs_back hm r1 (by omega)
 exact acyclic_c n s l w hs hl
set_option maxRecDepth 100000
def frB (r c : Int × Int) : Bool := c.1 == r.1 && c.2 != r.2
def fr1 (r : Int × Int) (co : List (Int × Int)) : List (Int × Int) := (co.filter (frB r)).map fun c => (r.2, c.2)
def frTo (rf co : List (Int × Int)) (i : Nat) : List (Int × Int) := (rf.take i).flatMap fun r => fr1 r co
def frAt (rf co : List (Int × Int)) (i : Nat) (r : Int × Int) (j : Nat) : List (Int × Int) := frTo rf co i ++ fr1 r (co.take j)
def frZ (rf co : List (Int × Int)) : List (Int × Int) := frTo rf co rf.length
theorem fI (rf co : List (Int × Int)) (i : Nat) (r : Int × Int) : frAt rf co i r 0 = frTo rf co i := by simp [frAt, fr1]
theorem cK (rf co : List (Int × Int)) (i : Nat) (h : i < rf.length) : frTo rf co (i + 1) = frTo rf co i ++ fr1 (rf.getD i default) co := by
 unfold frTo
 rw [wO rf default i h, List.flatMap_append]
 simp
theorem frAt_end (rf co : List (Int × Int)) (i : Nat) (h : i < rf.length) : frAt rf co i (rf.getD i default) co.length = frTo rf co (i + 1) := by
 rw [cK rf co i h, frAt, List.take_length]
theorem nY (rf co : List (Int × Int)) (i : Nat) (r : Int × Int) (j : Nat) (h : j < co.length) (hb : frB r (co.getD j default) = true) : frAt rf co i r (j + 1) = frAt rf co i r j ++ [(r.2, (co.getD j default).2)] := by
 unfold frAt fr1
 rw [wO co default j h, List.filter_append, List.filter_cons, if_pos hb, List.filter_nil, List.map_append, List.append_assoc]
 rfl
theorem frAt_no (rf co : List (Int × Int)) (i : Nat) (r : Int × Int) (j : Nat) (h : j < co.length) (hb : ¬ frB r (co.getD j default) = true) : frAt rf co i r (j + 1) = frAt rf co i r j := by
 unfold frAt fr1
 rw [wO co default j h, List.filter_append, List.filter_cons, if_neg hb, List.filter_nil, List.append_nil]
theorem frTo_pre (rf co : List (Int × Int)) : ∀ {a b : Nat}, a ≤ b → b ≤ rf.length → ∃ q, frTo rf co b = frTo rf co a ++ q := fun {a b} h hb => by
  induction b with
  | zero => have : a = 0 := by omega
            subst this; exact ⟨[], by simp⟩
  | succ b ih =>
    by_cases e : a = b + 1
    · subst e; exact ⟨[], by simp⟩
    · obtain ⟨r, hr⟩ := ih (by omega) (by omega)
      exact ⟨_, by rw [cK rf co b (by omega), hr, List.append_assoc]⟩
theorem fr1_pre (r : Int × Int) (co : List (Int × Int)) (j : Nat) : ∃ q, fr1 r co = fr1 r (co.take j) ++ q := by
 unfold fr1
 exact ⟨((co.drop j).filter (frB r)).map (fun c => (r.2, c.2)), by rw [← List.map_append, ← List.filter_append, List.take_append_drop]⟩
theorem frAt_in (rf co : List (Int × Int)) (i j : Nat) (hi : i < rf.length) (h : j < co.length) (hb : frB (rf.getD i default) (co.getD j default) = true) :
  ∃ q, frZ rf co = frAt rf co i (rf.getD i default) j ++ [((rf.getD i default).2, (co.getD j default).2)] ++ q := by
 obtain ⟨q1, h1⟩ := frTo_pre rf co (show i + 1 ≤ rf.length from hi) (Nat.le_refl _)
 obtain ⟨q2, h2⟩ := fr1_pre (rf.getD i default) co (j + 1)
 rw [← nY rf co i _ j h hb]
 unfold frZ
 rw [h1, cK rf co i hi, h2]
 unfold frAt
 exact ⟨q2 ++ q1, by simp only [List.append_assoc]⟩
set_option maxHeartbeats 4000000 in
theorem fr1_s (x : Ex) (hx : x.fit) (co : List (Int × Int)) (hco : co.length ≤ 1048576) : SeqW E.P 85 [] [.d (.pt (exRow x) 0), .d (.pt [pairsTV co] 0)] (pairYs (frZ (rfF x) co)) := by
 intro Y k τ J m st hm h1 h2 hnd hbig hy l0 hl0
 have hlen : (pairYs (frZ (rfF x) co)).length = (frZ (rfF x) co).length := by simp [pairYs]
 rw [hlen] at hm h1
 have hrl : (rfF x).length ≤ 1048576 := by
  unfold rfF
  split
  ·rename_i hc
   obtain ⟨h1, _, h3, _⟩ := vO hc
   have := yS h3
   have := lT x.from_ x.from_.length
   rw [yW]; omega
  ·simp
 have hrf := rf_s x hx
 generalize rfF x = rf at hm h1 hy hrl hlen hrf
 have hfz := yP
 have f9 : Frozen 9 := ⟨trivial⟩
 refine yL Tryz.func85 (by decide) rfl Tryz.ntmps85 (Nat.le_of_ble_eq_true rfl) rfl ?_
 refine uB (aoR fun _ => ?_)
 refine q33 ?_
 apply mI; assumption; exact rfl; exact .fn _ _ _; exact rfl; exact hrf; exact hfz _; exact rfl
 refine q13 ?_; refine q11 (uC (uA (uG ?_))); rotate_left
 refine uZ (X := Nat × Rows) (fun p => tmL [(0, .yl k τ), (2, .d (.pt [pairsTV co] 0)), (9, .d (pairsTV rf)), (10, .int .i64 rf.length), (11, .int .i64 p.1), (GS, .gh (frTo rf co p.1).length Y)]) (fun p => stL p.2)
  (fun p => p.1 ≤ rf.length ∧ J (frTo rf co p.1).length p.2 ∧ (st = true → (frTo rf co p.1).length < m)) (fun p => rf.length - p.1) (0, l0) ⟨Nat.zero_le _, hl0, h2⟩ leP (by repeat (first | exact fun _ _ h => h | refine le_app (hbig _ _ hl0) rfl ?_)) ?_
 rintro ⟨i, l⟩ ⟨hi, hJ, hst⟩
 dsimp only at hi hJ hst ⊢
 by_cases hlt : i < rf.length
 rotate_left
 ·have hbe : i = rf.length := by omega
  subst hbe
  have hme : (frTo rf co rf.length).length = m := by
   cases st with
   | true => have h9 := hst rfl; have h8 : (frZ rf co).length = (frTo rf co rf.length).length := rfl; omega
   | false => exact (h1 rfl).symm
  rw [hme] at hJ ⊢
  refine uB (aoR fun _ => ?_)
  refine q37 (uC (uA (uB ?_))); refine cnd ?_ ?_
  refine uK fun _ => ?_; try (exfalso; omega)
  refine uL fun _ => ?_; try (exfalso; omega)
  refine uS ?_
  iterate 2 refine vE ?_
  refine vT ?_; rotate_left
  exact ⟨Or.inl rfl, rfl, l, hJ, fun _ _ h => h⟩
 refine uB (aoR fun _ => ?_)
 refine q37 (uC ?_); rotate_left
 refine uA (uB ?_); refine cnd ?_ ?_
 refine uK fun _ => ?_; try (exfalso; omega)
 refine uF ?_; rotate_left
 refine uL fun _ => ?_; try (exfalso; omega)
 refine uA (uB (uG (uB (aoR fun _ => ?_))))
 refine q17 ?_; refine q33 ?_
 apply vQ; exact rfl
 refine q15 (uC ?_); rotate_left
 refine uA ?_
 rename_i v5
 generalize hr : rf.getD i default = r
 have hT : rf.getD (i : Int).toNat default = r := hr
 rw [hT]
 refine yN 5 (v5, 2) 2 [pairTV r] (tmL [(0, .yl k τ), (2, .d (.pt [pairsTV co] 0)), (9, .d (pairsTV rf)), (10, .int .i64 rf.length), (11, .int .i64 i), (5, .d (.pt (pairTV r) 0)), (GS, .gh (frTo rf co i).length Y)]) (stL l) rfl (by repeat' (first | exact aB | refine wT rfl (.same _) ?_ | refine wT rfl (.lo 0 0 _ rfl) ?_)) (qM (hbig _ _ hJ) (by decide) (fun j hj => by show (Store.put (Store.put _ _ _) _ _) j = _; rw [Store.put_ne _ _ hj, Store.put_ne _ _ hj]; rfl)) ?_
 refine uB (aoR fun _ => ?_)
 refine q23 ?_; refine q13 ?_; refine q11 (uC (uA (uG ?_))); rotate_left
 have hin := fun j => frAt_in rf co i j hlt
 have hnx := frAt_end rf co i hlt
 rw [hr] at hin hnx
 refine uZ (X := Nat × Rows) (fun p => tmL [(0, .yl k τ), (2, .d (.pt [pairsTV co] 0)), (9, .d (pairsTV rf)), (10, .int .i64 rf.length), (11, .int .i64 i), (5, .d (.pt (pairTV r) 0)), (15, .d (pairsTV co)), (16, .int .i64 co.length), (17, .int .i64 p.1), (GS, .gh (frAt rf co i r p.1).length Y)]) (fun p => stL p.2)
  (fun p => p.1 ≤ co.length ∧ J (frAt rf co i r p.1).length p.2 ∧ (st = true → (frAt rf co i r p.1).length < m)) (fun p => co.length - p.1) (0, l) ⟨Nat.zero_le _, by dsimp only; rw [fI]; exact hJ, by dsimp only; rw [fI]; exact hst⟩ (by dsimp only; rw [fI]; exact leP) (fun _ _ h => h) ?_
 clear hJ hst l
 rintro ⟨j, l⟩ ⟨hj, hJ, hst⟩
 dsimp only at hj hJ hst ⊢
 by_cases hlt2 : j < co.length
 rotate_left
 ·have hbe : j = co.length := by omega
  subst hbe
  rw [hnx] at hJ hst ⊢
  refine uB (aoR fun _ => ?_)
  refine q37 (uC (uA (uB ?_))); refine cnd ?_ ?_
  refine uK fun _ => ?_; try (exfalso; omega)
  refine uL fun _ => ?_; try (exfalso; omega)
  refine uS ?_
  iterate 2 refine vE ?_
  refine vT ?_; refine vJ ?_; refine uA (aoR fun _ => ?_)
  refine q36 ?_; refine q11 (uC (uA ?_)); rotate_left
  exact ⟨(i + 1, l), ⟨show i + 1 ≤ _ by omega, hJ, hst⟩, show rf.length - (i + 1) < rf.length - i by omega, leP, fun _ _ h => h⟩
 refine uB (aoR fun _ => ?_)
 refine q37 (uC ?_); rotate_left
 refine uA (uB ?_); refine cnd ?_ ?_
 refine uK fun _ => ?_; try (exfalso; omega)
 refine uF ?_; rotate_left
 refine uL fun _ => ?_; try (exfalso; omega)
 refine uA (uB (uG (uB (aoR fun _ => ?_))))
 refine q17 ?_; refine q33 ?_
 apply vQ; exact rfl
 refine q15 (uC ?_); rotate_left
 refine uA ?_
 rename_i v7
 generalize hc : co.getD j default = c at hin
 have hT : co.getD (j : Int).toNat default = c := hc
 rw [hT]
 refine yN 7 (v7, 2) 2 [pairTV c] (tmL [(0, .yl k τ), (2, .d (.pt [pairsTV co] 0)), (9, .d (pairsTV rf)), (10, .int .i64 rf.length), (11, .int .i64 i), (5, .d (.pt (pairTV r) 0)), (15, .d (pairsTV co)), (16, .int .i64 co.length), (17, .int .i64 j), (7, .d (.pt (pairTV c) 0)), (GS, .gh (frAt rf co i r j).length Y)]) (stL l) rfl (by repeat' (first | exact aB | refine wT rfl (.same _) ?_ | refine wT rfl (.lo 0 0 _ rfl) ?_)) (qM (hbig _ _ hJ) (by decide) (fun j hj => by show (Store.put (Store.put _ _ _) _ _) j = _; rw [Store.put_ne _ _ hj, Store.put_ne _ _ hj]; rfl)) ?_
 by_cases hb : frB r c = true
 ·obtain ⟨q, hq⟩ := hin j hlt2 (by rw [hc]; exact hb)
  rw [hc] at hq
  obtain ⟨hlm, hY⟩ := iB h1 hy hq hst hJ
  have hlen1 : (frAt rf co i r (j + 1)).length = (frAt rf co i r j).length + 1 := by rw [nY rf co i r j hlt2 (by rw [hc]; exact hb)]; simp
  have hb1 : c.1 = r.1 ∧ c.2 ≠ r.2 := by simpa [frB] using hb
  obtain ⟨hb1, hb2⟩ := hb1
  rcases Bool.eq_false_or_eq_true (!(st && (frAt rf co i r j).length + 1 == m)) with hans | hans
  ·rw [hans] at hY
   refine uB (aoR fun _ => ?_)
   refine q32 ?_; refine q23 ?_; refine q32 ?_; refine q23 ?_; refine q46 ?_; refine q11 ?_
   apply uI; exact rfl; exact rfl
   refine uK fun _ => ?_; try (exfalso; omega)
   refine q32 ?_
   apply uI; exact rfl; exact rfl
   refine uM ?_; refine q23 ?_
   apply uI; exact rfl; exact rfl
   refine uM ?_; refine q32 ?_
   apply uI; exact rfl; exact rfl
   refine uM ?_; refine q23 ?_
   apply uI; exact rfl; exact rfl
   refine uM ?_; refine q44 ?_; refine q4 ?_; refine q11 ?_
   apply uI; exact rfl; exact rfl
   refine xH ?_; refine uM ?_
   refine wR (fun _ => ?_); (try (exfalso; omega))
   refine q11 ?_
   apply uI; exact rfl; exact rfl
   refine uM ?_; refine q32 ?_
   apply uI; exact rfl; exact rfl
   refine uM ?_; refine q23 ?_
   apply uI; exact rfl; exact rfl
   refine uM ?_; refine q32 ?_
   apply uI; exact rfl; exact rfl
   refine uM ?_; refine q23 ?_
   apply uI; exact rfl; exact rfl
   refine uM ?_; refine q54 ?_
   apply uI; exact rfl; exact rfl
   refine uM ?_
   apply zW; exact rfl; exact rfl; exact rfl; exact hY; exact (fun _ _ h => h); exact hnd _; (intro l1 hl1)
   apply uI; exact rfl; exact rfl
   refine uM ?_
   apply yE; exact rfl
   refine q4 (uC (uA ?_)); refine cnd ?_ ?_; refine xH ?_; refine uM ?_; refine bW ?_
   exact wA
   refine wS (fun hc_ => ?_); (try simp only [nrm] at hc_)
   refine uF ?_; refine vJ ?_; refine uA (aoR fun _ => ?_)
   refine q36 ?_; refine q11 (uC (uA ?_)); rotate_left
   iterate 7 exact wA
   refine wS (fun hc_ => ?_); (try simp only [nrm] at hc_)
   apply uI; exact rfl; exact rfl
   exact uN
   refine uJ ?_
   apply uI; exact rfl; exact rfl
   exact uN
   refine uJ ?_
   apply uI; exact rfl; exact rfl
   exact uN
   refine uJ ?_
   apply uI; exact rfl; exact rfl
   exact uN
   refine uJ ?_
   apply uI; exact rfl; exact rfl
   exact uN
   refine uJ ?_
   apply uI; exact rfl; exact rfl
   exact uN
   refine uJ ?_
   apply uI; exact rfl; exact rfl
   exact uN
   refine uJ ?_
   apply wI; exact rfl
   apply xL; exact rfl
   refine uC (uA ?_); refine cnd ?_ ?_
   exact uN
   refine uJ ?_; refine uF ?_; refine vJ ?_; refine uA (aoR fun _ => ?_)
   refine q36 ?_; refine q11 (uC (uA ?_)); rotate_left
   iterate 4 exact wA
   refine uL fun _ => ?_; try (exfalso; omega)
   ·refine ⟨(j + 1, l1), ⟨show j + 1 ≤ _ by omega, ?_, ?_⟩, show co.length - (j + 1) < co.length - j by omega, ?_, aA (hnd _ _ hl1)⟩
    ·dsimp only; rw [hlen1]; exact hl1
    ·dsimp only; rw [hlen1]; exact lQ hlm hans
    ·dsimp only; rw [hlen1]; exact leP
   ·exfalso
    rcases hc_ with h9 | h9
    ·cases h9
    ·exact hb2 h9
  ·rw [hans] at hY
   rw [dS hans] at hY
   refine uB (aoR fun _ => ?_)
   refine q32 ?_; refine q23 ?_; refine q32 ?_; refine q23 ?_; refine q46 ?_; refine q11 ?_
   apply uI; exact rfl; exact rfl
   refine uK fun _ => ?_; try (exfalso; omega)
   refine q32 ?_
   apply uI; exact rfl; exact rfl
   refine uM ?_; refine q23 ?_
   apply uI; exact rfl; exact rfl
   refine uM ?_; refine q32 ?_
   apply uI; exact rfl; exact rfl
   refine uM ?_; refine q23 ?_
   apply uI; exact rfl; exact rfl
   refine uM ?_; refine q44 ?_; refine q4 ?_; refine q11 ?_
   apply uI; exact rfl; exact rfl
   refine xH ?_; refine uM ?_
   refine wR (fun _ => ?_); (try (exfalso; omega))
   refine q11 ?_
   apply uI; exact rfl; exact rfl
   refine uM ?_; refine q32 ?_
   apply uI; exact rfl; exact rfl
   refine uM ?_; refine q23 ?_
   apply uI; exact rfl; exact rfl
   refine uM ?_; refine q32 ?_
   apply uI; exact rfl; exact rfl
   refine uM ?_; refine q23 ?_
   apply uI; exact rfl; exact rfl
   refine uM ?_; refine q54 ?_
   apply uI; exact rfl; exact rfl
   refine uM ?_
   apply zW; exact rfl; exact rfl; exact rfl; exact hY; exact (fun _ _ h => h); exact hnd _; (intro l1 hl1)
   apply uI; exact rfl; exact rfl
   refine uM ?_
   apply yE; exact rfl
   refine q0 (uC (uA ?_)); refine cnd ?_ ?_
   refine wZ (fun hc_ => ?_); (try simp only [nrm] at hc_)
   refine uH ?_; refine vL ?_
   iterate 2 refine uO ?_
   iterate 2 refine vL ?_
   iterate 2 refine uO ?_
   refine vL ?_; rotate_left
   refine xC ?_
   iterate 8 exact wA
   refine wS (fun hc_ => ?_); (try simp only [nrm] at hc_)
   apply uI; exact rfl; exact rfl
   exact uN
   refine uJ ?_
   apply uI; exact rfl; exact rfl
   exact uN
   refine uJ ?_
   apply uI; exact rfl; exact rfl
   exact uN
   refine uJ ?_
   apply uI; exact rfl; exact rfl
   exact uN
   refine uJ ?_
   apply uI; exact rfl; exact rfl
   exact uN
   refine uJ ?_
   apply uI; exact rfl; exact rfl
   exact uN
   refine uJ ?_
   apply uI; exact rfl; exact rfl
   exact uN
   refine uJ ?_
   apply wI; exact rfl
   apply xL; exact rfl
   refine uC (uA ?_); refine cnd ?_ ?_
   exact uN
   refine uJ ?_; refine uF ?_; refine vJ ?_; refine uA (aoR fun _ => ?_)
   refine q36 ?_; refine q11 (uC (uA ?_)); rotate_left
   iterate 4 exact wA
   refine uL fun _ => ?_; try (exfalso; omega)
   ·exact ⟨Or.inr rfl, rfl, l1, hl1, aA (hnd _ _ hl1)⟩
   ·exfalso
    rcases hc_ with h9 | h9
    ·cases h9
    ·exact hb2 h9
 ·have hlen1 : (frAt rf co i r (j + 1)) = (frAt rf co i r j) := frAt_no rf co i r j hlt2 (by rw [hc]; exact hb)
  have hb1 : c.1 = r.1 → c.2 = r.2 := by simpa [frB] using hb
  refine uB (aoR fun _ => ?_)
  refine q32 ?_; refine q23 ?_; refine q32 ?_; refine q23 ?_; refine q46 ?_; refine q11 ?_
  apply uI; exact rfl; exact rfl
  refine uK fun _ => ?_; try (exfalso; omega)
  refine q32 ?_
  apply uI; exact rfl; exact rfl
  refine uM ?_; refine q23 ?_
  apply uI; exact rfl; exact rfl
  refine uM ?_; refine q32 ?_
  apply uI; exact rfl; exact rfl
  refine uM ?_; refine q23 ?_
  apply uI; exact rfl; exact rfl
  refine uM ?_; refine q44 ?_; refine q4 ?_; refine q11 ?_
  apply uI; exact rfl; exact rfl
  refine xH ?_; refine uM ?_
  refine wR (fun _ => ?_); (try (exfalso; omega))
  refine wS (fun hc_ => ?_); (try simp only [nrm] at hc_)
  apply uI; exact rfl; exact rfl
  exact uN
  refine uJ ?_
  apply uI; exact rfl; exact rfl
  exact uN
  refine uJ ?_
  apply uI; exact rfl; exact rfl
  exact uN
  refine uJ ?_
  apply uI; exact rfl; exact rfl
  exact uN
  refine uJ ?_
  apply uI; exact rfl; exact rfl
  exact uN
  refine uJ ?_
  apply uI; exact rfl; exact rfl
  exact uN
  refine uJ ?_
  apply uI; exact rfl; exact rfl
  exact uN
  refine uJ ?_
  apply wI; exact rfl
  apply xL; exact rfl
  refine uC (uA ?_); refine cnd ?_ ?_
  exact uN
  refine uJ ?_; refine uF ?_; refine vJ ?_; refine uA (aoR fun _ => ?_)
  refine q36 ?_; refine q11 (uC (uA ?_)); rotate_left
  iterate 4 exact wA
  refine uL fun _ => ?_; try (exfalso; omega)
  apply uI; exact rfl; exact rfl
  exact uN
  refine uJ ?_
  apply uI; exact rfl; exact rfl
  exact uN
  refine uJ ?_
  apply uI; exact rfl; exact rfl
  exact uN
  refine uJ ?_
  apply uI; exact rfl; exact rfl
  exact uN
  refine uJ ?_
  apply wI; exact rfl
  apply xL; exact rfl
  refine q11 ?_
  apply uI; exact rfl; exact rfl
  exact uN
  refine uJ ?_
  apply uI; exact rfl; exact rfl
  exact uN
  refine uJ ?_
  apply uI; exact rfl; exact rfl
  exact uN
  refine uJ ?_
  apply uI; exact rfl; exact rfl
  exact uN
  refine uJ ?_
  apply uI; exact rfl; exact rfl
  exact uN
  refine uJ ?_
  apply uI; exact rfl; exact rfl
  exact uN
  refine uJ ?_
  apply uI; exact rfl; exact rfl
  exact uN
  refine uJ ?_
  apply uI; exact rfl; exact rfl
  exact uN
  refine uJ ?_
  apply wI; exact rfl
  apply xL; exact rfl
  refine uC (uA ?_); refine cnd ?_ ?_
  exact uN
  refine uJ ?_; refine uF ?_; refine vJ ?_; refine uA (aoR fun _ => ?_)
  refine q36 ?_; refine q11 (uC (uA ?_)); rotate_left
  all_goals
   refine ⟨(j + 1, l), ⟨show j + 1 ≤ _ by omega, ?_, ?_⟩, show co.length - (j + 1) < co.length - j by omega, ?_, (fun _ _ h => h)⟩
   ·dsimp only; rw [hlen1]; exact hJ
   ·dsimp only; rw [hlen1]; exact hst
   ·dsimp only; rw [hlen1]; exact leP
def frF (x : Ex) : List (Int × Int) := sortZ (frZ (rfF x) (coF x))
theorem frZ_small {rf co : List (Int × Int)} (h1 : smallP rf) (h2 : smallP co) : smallP (frZ rf co) := fun p hp => by
 unfold frZ frTo fr1 at hp
 obtain ⟨r, hr, h3⟩ := List.mem_flatMap.1 hp
 obtain ⟨c, hc, rfl⟩ := List.mem_map.1 h3
 have a1 := h1 r (List.mem_of_mem_take hr)
 have a2 := h2 c (List.mem_filter.1 hc).1
 dsimp only
 omega
theorem nX (rf co : List (Int × Int)) : ∀ i, i ≤ rf.length → (frTo rf co i).length ≤ i * co.length
 | 0, _ => by simp [frTo]
 | i + 1, h => by
  rw [cK rf co i h, List.length_append, Nat.succ_mul]
  have := nX rf co i (by omega)
  have : (fr1 (rf.getD i default) co).length ≤ co.length := by
   unfold fr1
   rw [List.length_map]
   exact List.length_filter_le _ _
  omega
theorem smallP_nil : smallP [] := fun p hp => by cases hp
theorem rf_facts (x : Ex) : smallP (rfF x) ∧ (rfF x).length ≤ 64 := by
 unfold rfF
 split
 ·rename_i hc
  obtain ⟨h1, h2, h3, h4⟩ := vO hc
  have hfl := yS h3
  have hln := lT x.from_ x.from_.length
  exact ⟨fY (kD (fun i => by have := pV h3 i; omega) (by omega)), by rw [yW]; omega⟩
 ·exact ⟨smallP_nil, by simp⟩
theorem co_facts (x : Ex) : smallP (coF x) ∧ (coF x).length ≤ 262144 := by
 unfold coF
 split
 ·rename_i hc
  obtain ⟨h1, h2, h3, h4⟩ := vO hc
  exact ⟨fY (fL h4 (by omega)), by rw [yW]; exact pY hc⟩
 ·exact ⟨smallP_nil, by simp⟩
set_option maxHeartbeats 4000000 in
theorem fr_s (x : Ex) (hx : x.fit) : Own E.P 57 [exOV x] 2 ((frF x).map pairO') := by
 obtain ⟨a1, a2⟩ := rf_facts x
 obtain ⟨b1, b2⟩ := co_facts x
 have hsm := frZ_small a1 b1
 have hln : (frZ (rfF x) (coF x)).length ≤ 1073741824 := by
  have := nX (rfF x) (coF x) (rfF x).length (Nat.le_refl _)
  have h9 : (rfF x).length * (coF x).length ≤ 64 * 262144 := Nat.mul_le_mul a2 b2
  unfold frZ
  omega
 have hfr := fr1_s x hx (coF x) (by omega)
 have hco := co_s x hx
 unfold frF
 have hfz := yP
 have f5 : Frozen 5 := ⟨trivial⟩
 refine fnA Tryz.func57 Tryz.ntmps57 ?_
 refine uB (aoR fun _ => ?_)
 refine q40 ?_; refine q51 (uC ?_); rotate_left
 refine uA ?_
 rename_i v0
 refine yN 1 (v0, 0) 3 [exRow x] (tmL [(1, .d (.pt (exRow x) 0))]) (stL []) rfl (wT rfl (.lo 0 0 _ rfl) aB) (by repeat' (first | exact aB | exact lZ | (refine wT rfl (zS ?_) ?_; (first | rfl | (simp; done))) | refine wT rfl (.same _) ?_ | refine mA (by decide) rfl (.same _) ?_)) ?_
 refine uB (aoR fun _ => ?_)
 refine q33 ?_
 apply mI; assumption; exact rfl; exact .fn _ _ _; exact rfl; exact hco; exact hfz _; exact rfl
 apply vQ; exact rfl
 refine q15 (uC ?_); rotate_left
 refine uA ?_
 rename_i v1
 refine yN 3 (v1, 2) 1 [[pairsTV (coF x)]] (tmL [(1, .d (.pt (exRow x) 0)), (3, .d (.pt [pairsTV (coF x)] 0))]) (stL []) rfl (by repeat' (first | exact aB | refine wT rfl (.same _) ?_ | refine wT rfl (.lo 0 0 _ rfl) ?_)) (by repeat' (first | exact aB | exact lZ | (refine wT rfl (zS ?_) ?_; (first | rfl | (simp; done))) | refine wT rfl (.same _) ?_ | refine mA (by decide) rfl (.same _) ?_)) ?_
 refine uB (aoR fun _ => ?_)
 apply wE; exact rfl; exact rfl
 apply eX; exact rfl; exact .fn _ _ _; exact rfl; exact gP (.fn _ _ _) _ hsm hln hfr
 apply xU; exact rfl; exact rfl
 refine uC (uA ?_); refine uH ?_; rotate_left
 exact wY (d := 2) rfl rfl rfl rfl
theorem fB (zs : List Int) : ∀ k, (rfZ zs k).Nodup
 | 0 => by simp [rfZ]
 | k + 1 => by
  by_cases h : 0 ≤ zs.getD k 0
  ·rw [cE h, List.nodup_append]
   refine ⟨fB zs k, by simp, fun p hp q hq e => ?_⟩
   simp only [List.mem_singleton] at hq
   subst hq
   subst e
   obtain ⟨n, h1, _, _, h4⟩ := pQ.1 hp
   omega
  ·rw [iG h]; exact fB zs k
def isRf (x : Ex) (a b : Nat) : Bool := (x.evs.getD b default).ldB && decide (x.from_.getD b 0 = (a : Int))
theorem eG {es : List Ev} {fs : List Int} (h : fromB es fs = true) {k : Nat} (hk : k < es.length) : ((es.getD k default).ldB = true ↔ 0 ≤ fs.getD k 0) ∧ ((es.getD k default).ldB = true → fs.getD k 0 < es.length ∧ fs.getD k 0 ≠ k ∧ (es.getD (fs.getD k 0).toNat default).stB = true ∧ (es.getD (fs.getD k 0).toNat default).addr = (es.getD k default).addr) := by
 have h1 := pW h (k := k) (by rw [yS h]; exact hk)
 unfold fromOk at h1
 cases hl : (es.getD k default).ldB with
 | false =>
  rw [hl] at h1
  simp only [Bool.not_false, Bool.true_and, Bool.false_and, Bool.or_false, beq_iff_eq] at h1
  exact ⟨⟨fun e => (by cases e), fun e => (by omega)⟩, fun e => (by cases e)⟩
 | true =>
  rw [hl] at h1
  simp only [Bool.not_true, Bool.false_and, Bool.false_or, Bool.true_and, Bool.and_eq_true, Bool.not_eq_true', beq_eq_false_iff_ne, decide_eq_false_iff_not] at h1
  obtain ⟨⟨⟨a1, a2⟩, a3⟩, a4⟩ := h1
  unfold srcOk at a4
  simp only [Bool.and_eq_true] at a4
  exact ⟨⟨fun _ => (by omega), fun _ => rfl⟩, fun _ => ⟨by omega, a1, a4.1.1, by simpa using a4.1.2⟩⟩
theorem iY {l : List Int} (h : l.Nodup) : ∀ i, i ≤ l.length → (coIn l i).Nodup
 | 0, _ => by simp [coIn]
 | i + 1, hi => by
  rw [aJ, List.nodup_append]
  refine ⟨iY h i (by omega), ?_, fun p hp q hq e => ?_⟩
  ·refine List.Pairwise.map _ (R := (· ≠ ·)) (fun a b hab e => hab (by simpa using e)) (List.Pairwise.sublist (List.drop_sublist _ _) h)
  ·subst e
   obtain ⟨b, _, rfl⟩ := List.mem_map.1 hq
   unfold coIn at hp
   obtain ⟨j, h1, h2⟩ := List.mem_flatMap.1 hp
   obtain ⟨c, _, h4⟩ := List.mem_map.1 h2
   have hj := List.mem_range.1 h1
   have := dW h (i := j) (j := i) (by omega) (by omega) (by simpa using congrArg Prod.fst h4)
   omega
theorem kY {es : List Ev} {o : List (Sl × List Int)} (h : orderB es (addrsTo es) o = true) : (coZ o).Nodup := by
 unfold coZ coTo
 rw [List.take_length]
 unfold List.Nodup
 rw [List.pairwise_flatMap]
 refine ⟨fun l hl => ?_, ?_⟩
 ·obtain ⟨r, hr, e⟩ := List.getElem_of_mem hl
  have := zD h hr
  rw [List.getD_eq_getElem?_getD, List.getElem?_eq_getElem hr, Option.getD_some, e] at this
  exact iY this _ (Nat.le_refl _)
 ·rw [List.pairwise_iff_getElem]
  intro i j hi hj hij p hp q hq e
  subst e
  have e1 := (iZ hp (Nat.le_refl _)).1
  have e2 := (iZ hq (Nat.le_refl _)).1
  have g1 : o[i] = o.getD i default := by rw [List.getD_eq_getElem?_getD, List.getElem?_eq_getElem hi]; rfl
  have g2 : o[j] = o.getD j default := by rw [List.getD_eq_getElem?_getD, List.getElem?_eq_getElem hj]; rfl
  rw [g1] at e1
  rw [g2] at e2
  obtain ⟨a, ha, ea⟩ := fF e1
  obtain ⟨b, hb, eb⟩ := fF e2
  have hp0 := lL ((zF h hi).1 e1)
  have r1 := aO h hi ha (a := p.1.toNat) (by rw [ea]; omega)
  have r2 := aO h hj hb (a := p.1.toNat) (by rw [eb]; omega)
  have := dU h hi hj (r1.2.2.symm.trans r2.2.2)
  omega
theorem fr1_nodup {co : List (Int × Int)} (h : co.Nodup) (r : Int × Int) : (fr1 r co).Nodup := by
 unfold fr1
 refine List.Pairwise.map _ (R := fun c d => c ≠ d ∧ c.1 = r.1 ∧ d.1 = r.1) (fun c d hcd e => hcd.1 (Prod.ext (by rw [hcd.2.1, hcd.2.2]) (by simpa using e))) ?_
 refine (List.Pairwise.filter _ h).imp_of_mem fun {c d} hc hd hne => ?_
 have h1 := (List.mem_filter.1 hc).2
 have h2 := (List.mem_filter.1 hd).2
 simp only [frB, Bool.and_eq_true, beq_iff_eq] at h1 h2
 exact ⟨hne, h1.1, h2.1⟩
theorem frZ_nodup {rf co : List (Int × Int)} (hr : rf.Pairwise fun r s => r.2 ≠ s.2) (hc : co.Nodup) : (frZ rf co).Nodup := by
 unfold frZ frTo
 rw [List.take_length]
 unfold List.Nodup
 rw [List.pairwise_flatMap]
 refine ⟨fun r _ => fr1_nodup hc r, hr.imp fun {r s} hrs p hp q hq e => ?_⟩
 subst e
 unfold fr1 at hp hq
 obtain ⟨c, _, rfl⟩ := List.mem_map.1 hp
 obtain ⟨d, _, h2⟩ := List.mem_map.1 hq
 exact hrs (by simpa using (congrArg Prod.fst h2).symm)
theorem bM {x : Ex} (hc : checkI x = 0) : rfF x = refPairs x.evs.length (isRf x) := by
 obtain ⟨h1, h2, h3, h4⟩ := vO hc
 have hl := yS h3
 rw [rfF, if_pos hc]
 refine bI (fB _ _) fun p => ?_
 obtain ⟨a, b⟩ := p
 rw [pQ, vH]
 constructor
 ·rintro ⟨n, g1, g2, rfl, rfl⟩
  obtain ⟨e1, e2⟩ := eG h3 (k := n) (by omega)
  obtain ⟨m, hm⟩ := zL g2
  have := e2 (e1.2 g2)
  exact ⟨m, n, by omega, by omega, by unfold isRf; rw [e1.2 g2, hm]; simp, by rw [hm]⟩
 ·rintro ⟨m, n, g1, g2, g3, g4⟩
  unfold isRf at g3
  simp only [Bool.and_eq_true, decide_eq_true_eq] at g3
  cases g4
  exact ⟨n, by omega, ((eG h3 g2).1.1 g3.1), g3.2.symm, rfl⟩
def coB (x : Ex) (a b : Nat) : Bool := decide (((a : Int), (b : Int)) ∈ coZ x.order)
theorem pA {x : Ex} (hc : checkI x = 0) : coF x = refPairs x.evs.length (coB x) := by
 obtain ⟨h1, h2, h3, h4⟩ := vO hc
 rw [coF, if_pos hc]
 refine bI (kY h4) fun p => ?_
 obtain ⟨a, b⟩ := p
 rw [vH]
 constructor
 ·intro h
  obtain ⟨g1, g2, g3, g4⟩ := fL h4 (by omega) _ h
  dsimp only at g1 g2 g3 g4
  obtain ⟨m, rfl⟩ := zL g1
  obtain ⟨n, rfl⟩ := zL g3
  obtain ⟨e1, e2, _⟩ := rP h4 h
  exact ⟨m, n, e1, e2, by simpa [coB] using h, rfl⟩
 ·rintro ⟨m, n, _, _, g3, g4⟩
  cases g4
  simpa [coB] using g3
def frBr (x : Ex) (a b : Nat) : Bool := !(a == b) && (x.evs.getD a default).ldB && coB x (x.from_.getD a 0).toNat b
theorem fr_ref {x : Ex} (hc : checkI x = 0) : frF x = refPairs x.evs.length (frBr x) := by
 obtain ⟨h1, h2, h3, h4⟩ := vO hc
 have hl := yS h3
 have hcn : (coF x).Nodup := by rw [coF, if_pos hc]; exact (List.mergeSort_perm _ _).nodup_iff.2 (kY h4)
 have hrp : (rfF x).Pairwise fun r s => r.2 ≠ s.2 := by
  rw [bM hc]
  have hlt := bP x.evs.length (isRf x)
  refine hlt.imp_of_mem fun {r s} hr hs h e => ?_
  obtain ⟨a, b, _, _, g1, rfl⟩ := vH.1 hr
  obtain ⟨c, d, _, _, g2, rfl⟩ := vH.1 hs
  dsimp only at e
  have : b = d := by omega
  subst this
  unfold isRf at g1 g2
  simp only [Bool.and_eq_true, decide_eq_true_eq] at g1 g2
  rw [yY] at h
  dsimp only at h
  omega
 rw [frF]
 refine bI (frZ_nodup hrp hcn) fun p => ?_
 rw [vH]
 unfold frZ frTo
 rw [List.take_length, List.mem_flatMap]
 constructor
 ·rintro ⟨r, hr, hp⟩
  unfold fr1 at hp
  obtain ⟨c, g1, rfl⟩ := List.mem_map.1 hp
  obtain ⟨g2, g3⟩ := List.mem_filter.1 g1
  rw [bM hc] at hr
  rw [pA hc] at g2
  obtain ⟨a, b, e1, e2, e3, rfl⟩ := vH.1 hr
  obtain ⟨c, d, f1, f2, f3, rfl⟩ := vH.1 g2
  simp only [frB, Bool.and_eq_true, beq_iff_eq, bne_iff_ne] at g3
  unfold isRf at e3
  simp only [Bool.and_eq_true, decide_eq_true_eq] at e3
  have hca : c = a := by omega
  subst hca
  refine ⟨b, d, e2, f2, ?_, rfl⟩
  unfold frBr
  rw [e3.1, e3.2, Int.toNat_natCast, f3]
  have : b ≠ d := by omega
  simp [this]
 ·rintro ⟨b, d, e2, f2, g, rfl⟩
  unfold frBr at g
  simp only [Bool.and_eq_true, Bool.not_eq_true', beq_eq_false_iff_ne] at g
  obtain ⟨⟨g1, g2⟩, g3⟩ := g
  obtain ⟨q1, q2⟩ := eG h3 e2
  obtain ⟨a, ha⟩ := zL (q1.1 g2)
  have q3 := q2 g2
  rw [ha, Int.toNat_natCast] at g3
  refine ⟨((a : Int), (b : Int)), by rw [bM hc]; exact vH.2 ⟨a, b, by omega, e2, by unfold isRf; rw [g2, ha]; simp, rfl⟩, ?_⟩
  unfold fr1
  refine List.mem_map.2 ⟨((a : Int), (d : Int)), List.mem_filter.2 ⟨by rw [pA hc]; exact vH.2 ⟨a, d, by omega, f2, g3, rfl⟩, ?_⟩, rfl⟩
  have : (d : Int) ≠ b := by omega
  simp [frB, this]
def placeFrom : List (Sl × List Int) → Int → Int
 | [], _ => -1
 | r :: o, n => if 0 ≤ atI r.2 n then atI r.2 n else placeFrom o n
theorem fT {n : Int} : ∀ {l : List Int} {k : Nat}, n ∉ l → atFrom n l k = -1
 | [], k, _ => rfl
 | a :: l, k, h => by
  simp only [List.mem_cons, not_or] at h
  rw [atFrom, if_neg (Ne.symm h.1)]
  exact fT h.2
theorem dH {n : Int} : ∀ {l : List Int} {k i : Nat}, l.Nodup → i < l.length → l.getD i 0 = n → atFrom n l k = ((k + i : Nat) : Int)
 | [], k, i, _, h, _ => by simp at h
 | a :: l, k, 0, _, _, h => by
  have : a = n := h
  rw [atFrom, if_pos this]; simp
 | a :: l, k, i + 1, hn, h, he => by
  have h1 : l.getD i 0 = n := he
  have h2 : i < l.length := by simpa using h
  have h3 : n ∈ l := h1 ▸ qR h2
  have h4 : a ≠ n := fun e => (List.nodup_cons.1 hn).1 (e ▸ h3)
  rw [atFrom, if_neg h4, dH (List.nodup_cons.1 hn).2 h2 h1]
  congr 1; omega
theorem nG {n : Int} : ∀ {o : List (Sl × List Int)} {r i : Nat}, r < o.length → (∀ k, k < r → n ∉ (o.getD k default).2) → (o.getD r default).2.Nodup → i < (o.getD r default).2.length → (o.getD r default).2.getD i 0 = n → placeFrom o n = i
 | [], r, i, h, _, _, _, _ => by simp at h
 | q :: o, 0, i, _, _, hn, hi, he => by
  have e : atI q.2 n = i := by
   have := dH (k := 0) hn hi he
   rw [Nat.zero_add] at this; exact this
  rw [placeFrom, e, if_pos (Int.natCast_nonneg i)]
 | q :: o, r + 1, i, h, hk, hn, hi, he => by
  have e : atI q.2 n = -1 := fT (hk 0 (by omega))
  rw [placeFrom, e, if_neg (by omega)]
  exact nG (by simpa using h) (fun k hk' => hk (k + 1) (by omega)) hn hi he
def isCoB (x : Ex) (a b : Nat) : Bool := (x.evs.getD a default).stB && (x.evs.getD b default).stB && decide ((x.evs.getD a default).addr = (x.evs.getD b default).addr) && decide (placeFrom x.order a < placeFrom x.order b)
theorem kH {es : List Ev} {o : List (Sl × List Int)} (h : orderB es (addrsTo es) o = true) {r i a : Nat} (hr : r < o.length) (hi : i < (o.getD r default).2.length) (he : (o.getD r default).2.getD i 0 = (a : Int)) : placeFrom o a = i := by
 refine nG hr (fun k hk hm => ?_) (zD h hr) hi he
 obtain ⟨j, hj, ej⟩ := fF hm
 have e1 := (aO h hr hi he).2.2
 have e2 := (aO h (show k < o.length by omega) hj ej).2.2
 have := dU h hr (by omega) (e1.symm.trans e2)
 omega
theorem nF {es : List Ev} {o : List (Sl × List Int)} (h : orderB es (addrsTo es) o = true) {a b : Nat} (hp : ((a : Int), (b : Int)) ∈ coZ o) : placeFrom o a < placeFrom o b := by
 obtain ⟨r, i, j, hr, h2, h3, h4, h5⟩ := bY hp
 rw [kH h hr (by omega) h4, kH h hr h3 h5]
 omega
theorem aU {x : Ex} (hc : checkI x = 0) {a b : Nat} (ha : a < x.evs.length) (hb : b < x.evs.length) : coB x a b = isCoB x a b := by
 have ho := (vO hc).2.2.2
 rw [Bool.eq_iff_iff]
 unfold coB isCoB
 simp only [Bool.and_eq_true, decide_eq_true_eq]
 constructor
 ·intro h
  obtain ⟨_, _, _, g1, g2, g3⟩ := rP ho h
  exact ⟨⟨⟨g1, g2⟩, g3⟩, nF ho h⟩
 ·rintro ⟨⟨⟨g1, g2⟩, g3⟩, g4⟩
  have hne : a ≠ b := fun e => by subst e; omega
  rcases rO ho ha hb hne ⟨g1, g2, g3⟩ with h | h
  ·exact h
  ·have := nF ho h; omega
set_option maxRecDepth 100000
theorem placeFrom_drop (o : List (Sl × List Int)) (n : Int) (k : Nat) (h : k < o.length) : placeFrom (o.drop k) n = if 0 ≤ atI (o.getD k default).2 n then atI (o.getD k default).2 n else placeFrom (o.drop (k + 1)) n := by
 rw [List.drop_eq_getElem_cons h, placeFrom, List.getD_eq_getElem?_getD, List.getElem?_eq_getElem h]; rfl
set_option maxHeartbeats 1000000 in
theorem nA (x : Ex) (hx : x.order.length ≤ 65536) (hr : ∀ i, (x.order.getD i default).2.length ≤ 65536) (n : Int) : Pure E.P 63 [exOV x, .int .i64 n] (.int .i64 (placeFrom x.order n)) := by
 have f1 : Frozen 1 := ⟨trivial⟩
 have f2 : Frozen 2 := ⟨trivial⟩
 refine fnA Tryz.func63 Tryz.ntmps63 ?_
 refine uB (aoR fun _ => ?_)
 refine q34 ?_; refine q12 (uC (uA ?_))
 iterate 2 refine uB ?_
 refine aoR fun _ => ?_; refine q12 (uC (uA (uG ?_)))
 rotate_left
 refine uZ (X := Nat) (fun k => tmL [(1, .int .i64 n), (2, .d (.pt (exRow x) 0)), (5, .int .i64 k)]) (fun _ => stL []) (fun k => k ≤ x.order.length ∧ placeFrom x.order n = placeFrom (x.order.drop k) n) (fun k => x.order.length - k) 0 ⟨Nat.zero_le _, rfl⟩ leP leP ?_
 rintro k ⟨hk, ht⟩
 have ha := jP (x.order.getD k default).2 n (by have := hr k; omega)
 by_cases hlt : k < x.order.length
 ·have hd := placeFrom_drop x.order n k hlt
  iterate 2 refine uB ?_
  refine aoR fun _ => ?_; refine q11 ?_; refine q32 ?_; refine q23 ?_; refine q13 ?_; refine q37 (uC (uA ?_))
  refine cnd ?_ ?_
  refine uK fun _ => ?_; try (exfalso; omega)
  refine uF (uA (uB (uG (uB (aoR fun _ => ?_)))))
  refine q32 ?_; refine q23 ?_; refine q11 ?_; refine q17 ?_; refine q23 ?_; refine q11 ?_
  apply uQ; exact rfl; exact .fn _ _ _; exact rfl; exact ha
  refine q12 (uC (uA (uB (aoR fun _ => ?_))))
  refine q11 ?_
  apply cV; exact rfl; exact rfl
  refine uC (uA ?_); refine cnd ?_ ?_
  refine uK fun _ => ?_; try (exfalso; omega)
  refine uB (aoR fun _ => ?_)
  refine q11 ?_; refine q12 (uC (uA ?_)); refine uH ?_; refine vL ?_
  iterate 2 refine uO ?_
  refine vL ?_; refine uO ?_; rotate_left
  refine uL fun _ => ?_; try (exfalso; omega)
  refine uF ?_; refine vJ ?_; refine uA (aoR fun _ => ?_)
  refine q11 ?_; refine q36 ?_; refine q12 (uC (uA ?_)); rotate_left
  refine uL fun _ => ?_; try (exfalso; omega)
  ·refine wK rfl ?_
   rw [ht, hd, if_pos (by assumption)]
  ·refine vI (k + 1) ⟨by omega, ?_⟩ (by omega) leP leP
   rw [ht, hd, if_neg (by assumption)]
 ·iterate 2 refine uB ?_
  refine aoR fun _ => ?_; refine q11 ?_; refine q32 ?_; refine q23 ?_; refine q13 ?_; refine q37 (uC (uA ?_))
  refine cnd ?_ ?_
  refine uK fun _ => ?_; try (exfalso; omega)
  refine uL fun _ => ?_; try (exfalso; omega)
  refine uS ?_
  iterate 2 refine vE ?_
  refine vT ?_; refine uA (uB (aoR fun _ => ?_))
  refine q12 (uC (uA ?_)); refine uH ?_; rotate_left
  refine wK rfl ?_
  rw [ht, List.drop_eq_nil_of_le (by omega)]; rfl
theorem dV (x : Ex) (hx : x.evs.length ≤ 65536) (ho : x.order.length ≤ 65536) (hr : ∀ i, (x.order.getD i default).2.length ≤ 65536) (a b : Nat) (ha : a < x.evs.length) (hb : b < x.evs.length) : Pure E.P 42 [exOV x, .int .i64 a, .int .i64 b] (.bool (isCoB x a b)) := by
 have h1 := wP (x.evs.getD a default)
 have h2 := wP (x.evs.getD b default)
 have h3 := nA x ho hr a
 have h4 := nA x ho hr b
 refine fnA Tryz.func42 Tryz.ntmps42 ?_
 refine uB (aoR fun _ => ?_)
 refine q40 ?_; refine q12 (uC (uA (uB ?_)))
 refine vB (E := E) ?_ (fun _ => ?_); exact rfl
 refine q56 ?_
 apply wG; exact rfl; exact rfl; exact rfl; exact rfl; (first | exact rfl | exact uW (by omega) (0 : Int) | exact uW (by omega) default | exact hrow _ | assumption); exact rfl
 refine q38 ?_; refine q30 ?_
 apply wC; exact rfl; exact rfl; exact rfl; exact Nat.le_of_ble_eq_true rfl
 apply xG; exact rfl; exact .fn _ _ _; exact rfl; (exact h1)
 refine q38 ?_
 apply dpT; exact rfl
 intro hc_; refine q2
 apply dpT; exact rfl
 intro hc_; refine q3
 apply dpT; exact rfl
 intro hc_; refine q1
 apply dpT; exact rfl
 intro hc_
 have hp_ := hc_; try simp only [nrm] at hp_
 refine q5
 apply dpT; exact rfl
 intro hc_; refine q47
 apply dpT; exact rfl
 intro hc_
 have hp_ := hc_; try simp only [nrm] at hp_
 apply vK; (exact EvM.plain rfl rfl); exact .fn _ _ _; exact wD; (exact h2)
 refine q9 ?_; refine q38 ?_
 apply dpT; exact rfl
 intro hc_; refine q2
 apply dpT; exact rfl
 intro hc_; refine q3
 apply dpT; exact rfl
 intro hc_; refine q1
 apply dpT; exact rfl
 intro hc_
 have hp_ := hc_; try simp only [nrm] at hp_
 refine q5
 apply dpT; exact rfl
 intro hc_; refine q8
 apply dpT; exact rfl
 intro hc_; refine q6
 apply dpT; exact rfl
 intro hc_; refine q2
 apply dpT; exact rfl
 intro hc_; refine q3
 apply dpT; exact rfl
 intro hc_; refine q1
 apply dpT; exact rfl
 intro hc_
 have hp_ := hc_; try simp only [nrm] at hp_
 refine q5
 apply dpT; exact rfl
 intro hc_; refine q8
 apply dpT; exact rfl
 intro hc_; refine q6
 apply dpT; exact rfl
 intro hc_; refine q7; refine q9 ?_; refine q38 ?_
 apply dpT; exact rfl
 intro hc_; refine q27
 apply dpT; exact rfl
 intro hc_; refine q1
 apply dpT; exact rfl
 intro hc_
 have hp_ := hc_; try simp only [nrm] at hp_
 apply vK; (exact EvM.plain rfl rfl); exact .fn _ _ _; exact wD; (exact h3)
 apply dpT; exact rfl
 intro hc_; refine q27
 apply dpT; exact rfl
 intro hc_; refine q1
 apply dpT; exact rfl
 intro hc_
 have hp_ := hc_; try simp only [nrm] at hp_
 apply vK; (exact EvM.plain rfl rfl); exact .fn _ _ _; exact wD; (exact h4)
 apply dpT; exact rfl
 intro hc_; refine q22; refine q9 ?_
 apply wW; exact rfl
 refine vX ?_ ?_; (first | ((try dsimp only [wkeys]); decide +kernel) | exact rfl)
 refine uA ?_; refine uH ?_; rotate_left
 refine uX rfl ?_
 rw [Bool.eq_iff_iff]
 unfold isCoB
 simp only [Bool.and_eq_true, decide_eq_true_eq, Int.toNat_natCast]
def isFrB (x : Ex) (a b : Nat) : Bool := !(a == b) && (x.evs.getD a default).ldB && isCoB x (x.from_.getD a 0).toNat b
structure Ex.rel (x : Ex) : Prop where
 fit : x.fit
 check : checkI x = 0
theorem Ex.rel.len {x : Ex} (h : x.rel) : x.evs.length ≤ 64 := (vO h.check).1
theorem Ex.rel.from_ {x : Ex} (h : x.rel) : x.from_.length = x.evs.length := yS (vO h.check).2.2.1
theorem Ex.rel.rows {x : Ex} (h : x.rel) (i : Nat) : (x.order.getD i default).2.length ≤ 65536 := by
 rcases Nat.lt_or_ge i x.order.length with hh | hh
 ·rw [List.getD_eq_getElem?_getD, List.getElem?_eq_getElem hh]
  exact h.fit.2 _ (List.getElem_mem hh)
 ·rw [List.getD_eq_getElem?_getD, List.getElem?_eq_none hh]
  exact Nat.zero_le _
theorem Ex.rel.ord {x : Ex} (h : x.rel) : x.order.length ≤ 65536 := by
 have h4 := (vO h.check).2.2.2
 unfold orderB at h4
 simp only [Bool.and_eq_true, decide_eq_true_eq] at h4
 have := yD x.evs
 have := h.len
 omega
theorem Ex.rel.src {x : Ex} (h : x.rel) (a : Nat) (ha : a < x.evs.length) (hl : (x.evs.getD a default).ldB = true) : 0 ≤ x.from_.getD a 0 ∧ x.from_.getD a 0 < x.evs.length := by
 obtain ⟨u1, u2⟩ := eG (vO h.check).2.2.1 ha
 exact ⟨u1.1 hl, (u2 hl).1⟩
theorem bQ {n : Nat} {f g : Nat → Nat → Bool} (h : ∀ a b, a < n → b < n → f a b = g a b) : refPairs n f = refPairs n g := by
 unfold refPairs
 rw [List.flatMap_def, List.flatMap_def]
 congr 1
 refine List.map_congr_left fun a ha => ?_
 congr 1
 exact List.filter_congr fun b hb => h a b (List.mem_range.1 ha) (List.mem_range.1 hb)
theorem fr_isB {x : Ex} (h : x.rel) {a b : Nat} (ha : a < x.evs.length) (hb : b < x.evs.length) : frBr x a b = isFrB x a b := by
 unfold frBr isFrB
 cases hl : (x.evs.getD a default).ldB with
 | false => simp
 | true =>
  obtain ⟨u1, u2⟩ := h.src a ha hl
  rw [aU h.check (by omega) hb]
theorem gT {x : Ex} (h : x.rel) : coF x = refPairs x.evs.length (isCoB x) := by
 rw [pA h.check]
 exact bQ fun a b ha hb => aU h.check ha hb
theorem gR {x : Ex} (h : x.rel) : frF x = refPairs x.evs.length (isFrB x) := by
 rw [fr_ref h.check]
 exact bQ fun a b ha hb => fr_isB h ha hb
section
variable {k s : Nat} {τ : Stamp} {rows : List (List TV)}
structure FrC (k : Nat) (τ : Stamp) (s : Nat) (rows : List (List TV)) (a b : List OV) : Prop where
 len : a.length = b.length
 cells : ∀ (o : Nat) (y' : OV), b[o]? = some y' → ∃ y : OV, a[o]? = some y ∧ Froz k τ s rows y y'
end
end Go.Proofs.YtnkocjkkefnelaaGreat
