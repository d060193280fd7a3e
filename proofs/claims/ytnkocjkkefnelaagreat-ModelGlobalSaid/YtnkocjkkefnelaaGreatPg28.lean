/- Parts. -/
import Derived.Test.YtnkocjkkefnelaaGreatPg4
import Derived.Test.YtnkocjkkefnelaaGreatPg6
import Derived.Test.YtnkocjkkefnelaaGreatPg9
import Derived.Test.YtnkocjkkefnelaaGreatPg15
import Derived.Test.YtnkocjkkefnelaaGreatPg21
import Derived.Test.YtnkocjkkefnelaaGreatPg22
import Derived.Test.YtnkocjkkefnelaaGreatPg27
set_option linter.unusedVariables false
set_option linter.unusedSimpArgs false
set_option maxHeartbeats 4000000
namespace Go.Proofs.YtnkocjkkefnelaaGreat
def prRow (f : Nat → Nat → Bool) (a b : Nat) : List (Int × Int) := ((List.range b).filter (f a)).map fun (b : Nat) => (((a : Nat) : Int), ((b : Nat) : Int))
def prTo (n : Nat) (f : Nat → Nat → Bool) (a : Nat) : List (Int × Int) := (List.range a).flatMap fun a => prRow f a n
theorem kX (n : Nat) (f : Nat → Nat → Bool) (a : Nat) : prTo n f (a + 1) = prTo n f a ++ prRow f a n := by simp [prTo, List.range_succ, List.flatMap_append]
theorem prRow_yes {f : Nat → Nat → Bool} {a b : Nat} (h : f a b = true) : prRow f a (b + 1) = prRow f a b ++ [((a : Int), (b : Int))] := by
 unfold prRow
 rw [List.range_succ, List.filter_append, List.filter_cons, if_pos h, List.filter_nil, List.map_append]; rfl
theorem prRow_no {f : Nat → Nat → Bool} {a b : Nat} (h : ¬ f a b = true) : prRow f a (b + 1) = prRow f a b := by
 unfold prRow
 rw [List.range_succ, List.filter_append, List.filter_cons, if_neg h, List.filter_nil, List.append_nil]
theorem kY (f : Nat → Nat → Bool) (a b : Nat) : (prRow f a b).length ≤ b := by
 unfold prRow
 rw [List.length_map]
 exact Nat.le_trans (List.length_filter_le _ _) (by simp)
theorem wQ (n : Nat) (f : Nat → Nat → Bool) : ∀ a, (prTo n f a).length ≤ a * n
 | 0 => by simp [prTo]
 | a + 1 => by
  rw [kX, List.length_append, Nat.succ_mul]
  have h1 := wQ n f a
  have h2 := kY f a n
  omega
set_option maxHeartbeats 4000000
set_option maxRecDepth 100000
theorem rppo_p (x : Ex) (hx : x.rok) (a b : Nat) (ha : a < x.evs.length) (hb : b < x.evs.length) : Pure E.P 47 [exOV x, .int .i64 a, .int .i64 b] (.bool (isPpo x a b)) := by
 have hl := hx.len
 have f3 : Frozen 3 := ⟨trivial⟩
 refine fnA Tryz.func47 Tryz.ntmps47 ?_
 refine run ?_; refine aoR fun _ => ?_
 refine run ?_; refine aoR fun _ => ?_
 refine run ?_; rotate_left
 refine uS (X := Nat) (fun r => tmL [(1, .int .i64 a), (2, .int .i64 b), (3, .d (.pt (exRow x) 0)), (7, .int .i64 r)]) (fun _ => stL []) (fun r => 1 ≤ r ∧ r ≤ 14 ∧ ∀ q : Int, 1 ≤ q → q < r → ruleB x q a b = false) (fun r => 14 - r) 1 ⟨by omega, by omega, fun q h1 h2 => by omega⟩ leP leP ?_
 rintro r ⟨h1, h2, h3⟩
 by_cases h14 : r < 14
 ·have hr := rrule_p x hx r a b ha hb (by omega) (by omega)
  refine run ?_; refine aoR fun _ => ?_
  refine run ?_; refine cnd ?_ ?_
  refine uH fun _ => ?_; try (exfalso; omega)
  refine run ?_; refine aoR fun _ => ?_
  refine run ?_
  apply uM; exact rfl; exact .fn _ _ _; exact rfl; exact hr
  refine run ?_; refine cnd ?_ ?_
  refine xB (fun _ => ?_)
  refine run ?_; refine aoR fun _ => ?_
  refine run ?_; rotate_left
  refine gN (fun _ => ?_)
  refine run ?_; refine aoR fun _ => ?_
  refine run ?_; rotate_left
  refine uI fun _ => ?_; try (exfalso; omega)
  ·rename_i hy _
   refine uU rfl ?_
   unfold isPpo
   exact (List.any_eq_true.2 ⟨(r : Int), by unfold rs13; simp only [List.mem_cons, List.not_mem_nil, or_false]; omega, hy⟩).symm
  ·rename_i hy _
   refine uY (r + 1) ⟨by omega, by omega, fun q g1 g2 => ?_⟩ (by omega) leP leP
   by_cases e : q = r
   ·rw [e]; exact hy
   ·exact h3 q g1 (by omega)
 ·refine run ?_
  refine aoR fun _ => ?_; refine run ?_
  refine cnd ?_ ?_
  refine uH fun _ => ?_; try (exfalso; omega)
  refine uI fun _ => ?_; try (exfalso; omega)
  refine run ?_; refine aoR fun _ => ?_
  refine run ?_; rotate_left
  refine uU rfl ?_
  unfold isPpo
  refine (List.any_eq_false.2 fun q hq => ?_).symm
  unfold rs13 at hq
  simp only [List.mem_cons, List.not_mem_nil, or_false] at hq
  rw [h3 q (by omega) (by omega)]; decide
open Go.RowKit Go.Shelf Go.Maps Go.Sort
def mkP (a b : Nat) : P2 := (⟨a % 65536, by omega⟩, ⟨b % 65536, by omega⟩)
def rfTo (zs : List Int) (k : Nat) : List P2 := (List.range k).filterMap (fun b => if 0 ≤ zs.getD b 0 then some (mkP (zs.getD b 0).toNat b) else none)
def rfL (zs : List Int) : List P2 := rfTo zs zs.length
open Go.RowKit Go.Shelf Go.Maps Go.Sort
def rfAns (x : Ex) : List P2 := if checkI x = 0 then sortP (rfL x.from_) else []
set_option maxRecDepth 100000
def rfZ (zs : List Int) (k : Nat) : List (Int × Int) := (List.range k).filterMap fun b => if 0 ≤ zs.getD b 0 then some (zs.getD b 0, (b : Int)) else none
theorem cC {zs : List Int} {k : Nat} (h : 0 ≤ zs.getD k 0) : rfZ zs (k + 1) = rfZ zs k ++ [(zs.getD k 0, (k : Int))] := by
 unfold rfZ
 rw [List.range_succ, List.filterMap_append]
 simp only [List.filterMap_cons, List.filterMap_nil, if_pos h]
theorem iU {zs : List Int} {k : Nat} (h : ¬ 0 ≤ zs.getD k 0) : rfZ zs (k + 1) = rfZ zs k := by
 unfold rfZ
 rw [List.range_succ, List.filterMap_append]
 simp only [List.filterMap_cons, List.filterMap_nil, if_neg h, List.append_nil]
theorem rfZ_pre (zs : List Int) : ∀ {a b : Nat}, a ≤ b → ∃ r, rfZ zs b = rfZ zs a ++ r := fun {a b} h => by
  induction b with
  | zero => have : a = 0 := by omega
            subst this; exact ⟨[], by simp⟩
  | succ b ih =>
    by_cases e : a = b + 1
    · subst e; exact ⟨[], by simp⟩
    · obtain ⟨r, hr⟩ := ih (by omega)
      by_cases hz : 0 ≤ zs.getD b 0
      · exact ⟨r ++ [(zs.getD b 0, (b : Int))], by rw [cC hz, hr, List.append_assoc]⟩
      · exact ⟨r, by rw [iU hz, hr]⟩
set_option maxHeartbeats 4000000 in
theorem rf1_s (x : Ex) (hx : x.from_.length ≤ 65536) : SeqW E.P 83 [] [.d (.pt (exRow x) 0)] (pairYs (rfZ x.from_ x.from_.length)) := by
 intro Y k τ J m st hm h1 h2 hnd hbig hy l0 hl0
 have hlen : (pairYs (rfZ x.from_ x.from_.length)).length = (rfZ x.from_ x.from_.length).length := by simp [pairYs]
 rw [hlen] at hm h1
 refine yD Tryz.func83 (by decide) rfl Tryz.ntmps83 (Nat.le_of_ble_eq_true rfl) rfl ?_
 refine uC (aoR fun _ => ?_)
 refine q32 ?_; refine q23 ?_; refine q13 ?_; refine q11 (uG (uE (vI ?_))); rotate_left
 refine uS (X := Nat × Rows) (fun p => tmL [(0, .yl k τ), (6, .d (ints x.from_)), (7, .int .i64 x.from_.length), (8, .int .i64 p.1), (GS, .gh (rfZ x.from_ p.1).length Y)]) (fun p => stL p.2)
  (fun p => p.1 ≤ x.from_.length ∧ J (rfZ x.from_ p.1).length p.2 ∧ (st = true → (rfZ x.from_ p.1).length < m)) (fun p => x.from_.length - p.1) (0, l0) ⟨Nat.zero_le _, hl0, h2⟩ leP (fun _ _ h => h) ?_
 rintro ⟨b, l⟩ ⟨hb, hJ, hst⟩
 dsimp only at hb hJ hst ⊢
 have hnext : b < x.from_.length → 0 ≤ x.from_.getD b 0 → (rfZ x.from_ b).length < m ∧ YieldW E.P Y k τ (rfZ x.from_ b).length ((rfZ x.from_ b).length + 1) [.ag (pairO' (x.from_.getD b 0, (b : Int)))] l (J ((rfZ x.from_ b).length + 1)) (!(st && (rfZ x.from_ b).length + 1 == m)) := fun hlt hz => by
  obtain ⟨r, hr⟩ := rfZ_pre x.from_ (show b + 1 ≤ x.from_.length from hlt)
  rw [cC hz] at hr
  obtain ⟨e1, e2⟩ := lI hr
  have hlm : (rfZ x.from_ b).length < m := by
   cases st with
   | true => exact hst rfl
   | false => rw [h1 rfl]; exact e1
  have := hy _ l hlm hJ
  rw [e2] at this
  exact ⟨hlm, this⟩
 have hgo : ∀ {i : Nat}, i < m → (!(st && i + 1 == m)) = true → st = true → i + 1 < m := fun {i} h1 h2 h3 => by
  subst h3
  simp at h2; omega
 have hsto : ∀ {i : Nat}, (!(st && i + 1 == m)) = false → i + 1 = m := fun {i} h => by
  simp at h; exact h.2
 by_cases hlt : b < x.from_.length
 rotate_left
 ·have hbe : b = x.from_.length := by omega
  subst hbe
  have hme : (rfZ x.from_ x.from_.length).length = m := by
   cases st with
   | true => have := hst rfl; omega
   | false => exact (h1 rfl).symm
  rw [hme] at hJ ⊢
  refine uC (aoR fun _ => ?_)
  refine q37 (uG (uE (uC ?_))); refine cnd ?_ ?_
  refine uH fun _ => ?_; try (exfalso; omega)
  refine uI fun _ => ?_; try (exfalso; omega)
  refine vW ?_
  iterate 2 refine wI ?_
  refine xZ ?_; rotate_left
  exact ⟨Or.inl rfl, rfl, l, hJ, fun _ _ h => h⟩
 by_cases hz : 0 ≤ x.from_.getD b 0
 ·obtain ⟨hlm, hY⟩ := hnext hlt hz
  have hz' : 0 ≤ x.from_.getD (b : Int).toNat 0 := by rw [Int.toNat_natCast]; exact hz
  rcases Bool.eq_false_or_eq_true (!(st && (rfZ x.from_ b).length + 1 == m)) with hans | hans
  ·rw [hans] at hY
   refine uC (aoR fun _ => ?_)
   refine q37 (uG (uE (uC ?_))); refine cnd ?_ ?_
   refine uH fun _ => ?_; try (exfalso; omega)
   refine vF (uE (uC (vI (uC (aoR fun _ => ?_)))))
   refine q11 ?_; refine q17 ?_; refine q23 ?_
   iterate 2 refine q12 ?_
   refine uG (uE (uC (aoR fun _ => ?_)))
   refine q11 ?_
   apply pM; exact rfl; exact rfl
   refine q11 ?_
   apply uF; exact rfl; exact rfl
   refine uH fun _ => ?_; try (exfalso; omega)
   refine q11 ?_
   apply uF; exact rfl; exact rfl
   refine uL ?_; refine q11 ?_
   apply uF; exact rfl; exact rfl
   refine uL ?_; refine q11 ?_
   apply uF; exact rfl; exact rfl
   refine uL ?_; refine q54 ?_
   apply uF; exact rfl; exact rfl
   refine uL ?_
   apply zL; exact rfl; exact rfl; exact rfl; exact hY; exact (fun _ _ h => h); exact hnd _; (intro l1 hl1)
   apply uF; exact rfl; exact rfl
   refine uL ?_
   apply bT; exact rfl
   refine q4 (uG (uE ?_)); refine cnd ?_ ?_; refine xV ?_; refine uL ?_; refine bL ?_
   exact wA
   refine wU (fun hc_ => ?_); (try simp only [nrm] at hc_)
   refine vF ?_; refine xM ?_; refine uE (aoR fun _ => ?_)
   refine q36 ?_; refine q11 (uG (uE ?_)); rotate_left
   iterate 5 exact wA
   iterate 2 refine uI fun _ => ?_; try (exfalso; omega)
   refine uY (b + 1, l1) ⟨by dsimp only; omega, ?_, ?_⟩ (by dsimp only; omega) ?_ (zQ (hnd _ _ hl1))
   ·dsimp only; rw [cC hz, List.length_append]; exact hl1
   ·dsimp only; rw [cC hz, List.length_append]; exact hgo hlm hans
   ·dsimp only
    rw [cC hz, List.length_append]
    exact leP
  ·rw [hans] at hY
   rw [hsto hans] at hY
   refine uC (aoR fun _ => ?_)
   refine q37 (uG (uE (uC ?_))); refine cnd ?_ ?_
   refine uH fun _ => ?_; try (exfalso; omega)
   refine vF (uE (uC (vI (uC (aoR fun _ => ?_)))))
   refine q11 ?_; refine q17 ?_; refine q23 ?_
   iterate 2 refine q12 ?_
   refine uG (uE (uC (aoR fun _ => ?_)))
   refine q11 ?_
   apply pM; exact rfl; exact rfl
   refine q11 ?_
   apply uF; exact rfl; exact rfl
   refine uH fun _ => ?_; try (exfalso; omega)
   refine q11 ?_
   apply uF; exact rfl; exact rfl
   refine uL ?_; refine q11 ?_
   apply uF; exact rfl; exact rfl
   refine uL ?_; refine q11 ?_
   apply uF; exact rfl; exact rfl
   refine uL ?_; refine q54 ?_
   apply uF; exact rfl; exact rfl
   refine uL ?_
   apply zL; exact rfl; exact rfl; exact rfl; exact hY; exact (fun _ _ h => h); exact hnd _; (intro l1 hl1)
   apply uF; exact rfl; exact rfl
   refine uL ?_
   apply bT; exact rfl
   refine q0 (uG (uE ?_)); refine cnd ?_ ?_
   refine wS (fun hc_ => ?_); (try simp only [nrm] at hc_)
   refine wH ?_; refine eU ?_
   iterate 2 refine zO ?_
   refine eU ?_; rotate_left
   refine wT ?_
   iterate 6 exact wA
   iterate 2 refine uI fun _ => ?_; try (exfalso; omega)
   exact ⟨Or.inr rfl, rfl, l1, hl1, zQ (hnd _ _ hl1)⟩
 ·have hz' : ¬ 0 ≤ x.from_.getD (b : Int).toNat 0 := by rw [Int.toNat_natCast]; exact hz
  refine uC (aoR fun _ => ?_)
  refine q37 (uG (uE (uC ?_))); refine cnd ?_ ?_
  refine uH fun _ => ?_; try (exfalso; omega)
  refine vF (uE (uC (vI (uC (aoR fun _ => ?_)))))
  refine q11 ?_; refine q17 ?_; refine q23 ?_
  iterate 2 refine q12 ?_
  refine uG (uE (uC (aoR fun _ => ?_)))
  refine q11 ?_
  apply pM; exact rfl; exact rfl
  refine q11 ?_
  apply uF; exact rfl; exact rfl
  refine uH fun _ => ?_; try (exfalso; omega)
  refine uI fun _ => ?_; try (exfalso; omega)
  apply uF; exact rfl; exact rfl
  exact uK
  refine uJ ?_
  apply uF; exact rfl; exact rfl
  exact uK
  refine uJ ?_
  apply uF; exact rfl; exact rfl
  exact uK
  refine uJ ?_
  apply uF; exact rfl; exact rfl
  exact uK
  refine uJ ?_
  apply uF; exact rfl; exact rfl
  exact uK
  refine uJ ?_
  apply xX; exact rfl
  apply aF; exact rfl
  refine uG (uE ?_); refine cnd ?_ ?_
  exact uK
  refine uJ ?_; refine vF ?_; refine xM ?_; refine uE (aoR fun _ => ?_)
  refine q36 ?_; refine q11 (uG (uE ?_)); rotate_left
  refine uI fun _ => ?_; try (exfalso; omega)
  refine uY (b + 1, l) ⟨by dsimp only; omega, ?_, ?_⟩ (by dsimp only; omega) ?_ (fun _ _ h => h)
  ·dsimp only; rw [iU hz]; exact hJ
  ·dsimp only; rw [iU hz]; exact hst
  ·dsimp only
   rw [iU hz]
   exact leP
def rfF (x : Ex) : List (Int × Int) := if checkI x = 0 then sortZ (rfZ x.from_ x.from_.length) else []
theorem mN (zs : List Int) (k : Nat) : (rfZ zs k).length ≤ k := by
 unfold rfZ
 refine Nat.le_trans (List.length_filterMap_le _ _) (by simp)
theorem kV {zs : List Int} {k : Nat} (hz : ∀ i, zs.getD i 0 < 65536) (hk : k ≤ 65536) : smallP (rfZ zs k) := fun p hp => by
 unfold rfZ at hp
 obtain ⟨b, hb, h⟩ := List.mem_filterMap.1 hp
 have hb := List.mem_range.1 hb
 split at h
 ·rename_i h0
  cases h
  have := hz b
  dsimp only
  omega
 ·cases h
set_option maxHeartbeats 4000000 in
theorem rf_s (x : Ex) (hx : x.fit) : Own E.P 55 [exOV x] 2 ((rfF x).map pairO') := by
 unfold rfF
 refine fnA Tryz.func55 Tryz.ntmps55 ?_
 refine uC (aoR fun _ => ?_)
 refine q40 ?_; refine q51 (uG ?_); rotate_left
 refine uE ?_
 rename_i v0
 refine xH 1 (v0, 0) 3 [exRow x] (tmL [(1, .d (.pt (exRow x) 0))]) (stL []) rfl (vX rfl (.lo 0 0 _ rfl) yL) (by repeat' (first | exact yL | exact fK | (refine vX rfl (xG ?_) ?_; (first | rfl | (simp; done))) | refine vX rfl (.same _) ?_ | refine aI (by decide) rfl (.same _) ?_)) ?_
 by_cases hc : checkI x = 0
 ·rw [if_pos hc]
  obtain ⟨h1, h2, h3, h4⟩ := vN hc
  have hfl := yI h3
  have hsm : smallP (rfZ x.from_ x.from_.length) := kV (fun i => by have := rC h3 i; omega) (by omega)
  have hln := mN x.from_ x.from_.length
  iterate 2 refine uC ?_
  refine aoR fun _ => ?_; refine q33 ?_
  apply uM; exact rfl; exact .fn _ _ _; exact rfl; exact yH _ hx.1 hx.2
  refine q44 (uG (uE ?_)); refine cnd ?_ ?_
  refine wB (fun _ => ?_); (try (exfalso; omega))
  refine vV (fun _ => ?_); (try (exfalso; omega))
  refine vF (uE (uC (aoR fun _ => ?_)))
  apply wY; exact rfl; exact rfl
  apply eX; exact rfl; exact .fn _ _ _; exact rfl; exact hZ (.fn _ _ _) _ hsm (by omega) (rf1_s x (by omega))
  apply mA; exact rfl; exact rfl
  refine uG (uE ?_); refine wH ?_; rotate_left
  exact wO (d := 2) rfl rfl rfl rfl
 ·rw [if_neg hc]
  iterate 2 refine uC ?_
  refine aoR fun _ => ?_; refine q33 ?_
  apply uM; exact rfl; exact .fn _ _ _; exact rfl; exact yH _ hx.1 hx.2
  refine q44 (uG (uE ?_)); refine cnd ?_ ?_
  refine wB (fun _ => ?_); (try (exfalso; omega))
  refine uC (aoR fun _ => ?_)
  refine q51 (uG (uE ?_)); refine wH ?_; refine zO ?_; rotate_left
  refine vV (fun _ => ?_); (try (exfalso; omega))
  exact wO (d := 2) rfl rfl rfl rfl
set_option maxRecDepth 100000
def coIn (l : List Int) (i : Nat) : List (Int × Int) := (List.range i).flatMap fun i => (l.drop (i + 1)).map fun b => (l.getD i 0, b)
def coTo (o : List (Sl × List Int)) (r : Nat) : List (Int × Int) := (o.take r).flatMap fun l => coIn l.2 l.2.length
def coAt (o : List (Sl × List Int)) (r : Nat) (l : List Int) (i j : Nat) : List (Int × Int) := coTo o r ++ coIn l i ++ ((l.drop (i + 1)).take j).map fun b => (l.getD i 0, b)
def coZ (o : List (Sl × List Int)) : List (Int × Int) := coTo o o.length
theorem fP (o : List (Sl × List Int)) (r : Nat) (l : List Int) : coAt o r l 0 0 = coTo o r := by simp [coAt, coIn]
theorem zZ (l : List Int) (i : Nat) : coIn l (i + 1) = coIn l i ++ (l.drop (i + 1)).map fun b => (l.getD i 0, b) := by
 simp [coIn, List.range_succ, List.flatMap_append]
theorem coAt_end (o : List (Sl × List Int)) (r : Nat) (l : List Int) (i j : Nat) (h : l.length ≤ i + 1 + j) : coAt o r l i j = coAt o r l (i + 1) 0 := by
 unfold coAt
 rw [zZ, List.take_of_length_le (by simp; omega), List.take_zero, List.map_nil, List.append_nil, List.append_assoc]
theorem cK (o : List (Sl × List Int)) (r : Nat) (h : r < o.length) : coTo o (r + 1) = coTo o r ++ coIn (o.getD r default).2 (o.getD r default).2.length := by
 unfold coTo
 rw [vZ o default r h, List.flatMap_append]
 simp
theorem coAt_next (o : List (Sl × List Int)) (r : Nat) (h : r < o.length) : coAt o r (o.getD r default).2 (o.getD r default).2.length 0 = coTo o (r + 1) := by
 rw [cK o r h]
 simp [coAt]
theorem lU (o : List (Sl × List Int)) (r : Nat) (l : List Int) (i j : Nat) (h : i + 1 + j < l.length) : coAt o r l i (j + 1) = coAt o r l i j ++ [(l.getD i 0, l.getD (i + 1 + j) 0)] := by
 unfold coAt
 rw [vZ (l.drop (i + 1)) 0 j (by simp; omega), List.map_append, List.append_assoc _ _ [_], List.append_assoc, List.append_assoc]
 simp [List.getD]
theorem coTo_pre (o : List (Sl × List Int)) : ∀ {a b : Nat}, a ≤ b → b ≤ o.length → ∃ r, coTo o b = coTo o a ++ r := fun {a b} h hb => by
  induction b with
  | zero => have : a = 0 := by omega
            subst this; exact ⟨[], by simp⟩
  | succ b ih =>
    by_cases e : a = b + 1
    · subst e; exact ⟨[], by simp⟩
    · obtain ⟨r, hr⟩ := ih (by omega) (by omega)
      exact ⟨_, by rw [cK o b (by omega), hr, List.append_assoc]⟩
theorem coIn_pre (l : List Int) : ∀ {a b : Nat}, a ≤ b → ∃ r, coIn l b = coIn l a ++ r := fun {a b} h => by
  induction b with
  | zero => have : a = 0 := by omega
            subst this; exact ⟨[], by simp⟩
  | succ b ih =>
    by_cases e : a = b + 1
    · subst e; exact ⟨[], by simp⟩
    · obtain ⟨r, hr⟩ := ih (by omega)
      exact ⟨_, by rw [zZ, hr, List.append_assoc]⟩
theorem coAt_in (o : List (Sl × List Int)) (r i j : Nat) (h : r < o.length) (hj : i + 1 + j < (o.getD r default).2.length) :
  ∃ q, coZ o = coAt o r (o.getD r default).2 i j ++ [((o.getD r default).2.getD i 0, (o.getD r default).2.getD (i + 1 + j) 0)] ++ q := by
 generalize hl : (o.getD r default).2 = l at hj ⊢
 obtain ⟨q1, h1⟩ := coTo_pre o (show r + 1 ≤ o.length by omega) (Nat.le_refl _)
 obtain ⟨q2, h2⟩ := coIn_pre l (show i + 1 ≤ l.length by omega)
 unfold coZ
 rw [h1, cK o r h, hl, h2, zZ, ← lU o r l i j hj]
 unfold coAt
 have : (l.drop (i + 1)).map (fun b => (l.getD i 0, b)) = ((l.drop (i + 1)).take (j + 1)).map (fun b => (l.getD i 0, b)) ++ ((l.drop (i + 1)).drop (j + 1)).map (fun b => (l.getD i 0, b)) := by
  rw [← List.map_append, List.take_append_drop]
 rw [this]
 exact ⟨_, by simp only [List.append_assoc]; rfl⟩
set_option maxHeartbeats 4000000 in
theorem co1_s (x : Ex) (hx : x.fit) : SeqW E.P 84 [] [.d (.pt (exRow x) 0)] (pairYs (coZ x.order)) := by
 intro Y k τ J m st hm h1 h2 hnd hbig hy l0 hl0
 have hlen : (pairYs (coZ x.order)).length = (coZ x.order).length := by simp [pairYs]
 rw [hlen] at hm h1
 refine yD Tryz.func84 (by decide) rfl Tryz.ntmps84 (Nat.le_of_ble_eq_true rfl) rfl ?_
 refine cM ?_; refine uC ?_; refine cN ?_; refine uE (uC (aoR fun _ => ?_))
 refine q32 ?_; refine q23 ?_; refine q13 ?_; refine q11 (uG (uE (vI ?_))); rotate_left
 have hT0 : m = (coTo x.order 0).length → True := fun _ => trivial
 refine uS (X := Nat × Rows) (fun p => tmL [(0, .yl k τ), (10, .d (rowsTV x.order)), (11, .int .i64 x.order.length), (12, .int .i64 p.1), (GS, .gh (coTo x.order p.1).length Y)]) (fun p => stL p.2)
  (fun p => p.1 ≤ x.order.length ∧ J (coTo x.order p.1).length p.2 ∧ (st = true → (coTo x.order p.1).length < m)) (fun p => x.order.length - p.1) (0, l0) ⟨Nat.zero_le _, hl0, h2⟩ leP (fun _ _ h => h) ?_
 rintro ⟨r, l⟩ ⟨hr, hJ, hst⟩
 dsimp only at hr hJ hst ⊢
 by_cases hlt : r < x.order.length
 rotate_left
 ·have hbe : r = x.order.length := by omega
  subst hbe
  have hme : (coTo x.order x.order.length).length = m := by
   cases st with
   | true => have h9 := hst rfl; have h8 : (coZ x.order).length = (coTo x.order x.order.length).length := rfl; omega
   | false => exact (h1 rfl).symm
  rw [hme] at hJ ⊢
  refine uC (aoR fun _ => ?_)
  refine q37 (uG (uE (uC ?_))); refine cnd ?_ ?_
  refine uH fun _ => ?_; try (exfalso; omega)
  refine uI fun _ => ?_; try (exfalso; omega)
  refine vW ?_
  iterate 2 refine wI ?_
  refine xZ ?_; refine tJ ?_; rotate_left
  exact ⟨Or.inl rfl, rfl, l, hJ, fun _ _ h => h⟩
 refine uC (aoR fun _ => ?_)
 refine q37 (uG (uE (uC ?_))); refine cnd ?_ ?_
 refine uH fun _ => ?_; try (exfalso; omega)
 refine vF (uE (uC (vI (uC (aoR fun _ => ?_)))))
 refine q17 ?_; refine q23 ?_; refine q12 (uG (uE (uC (aoR fun _ => ?_))))
 refine q11 ?_; refine q13 ?_; refine q11 (uG (uE (vI ?_))); rotate_left
 refine uI fun _ => ?_; try (exfalso; omega)
 have hol : x.order.length ≤ 1152921504606846976 := hx.1.2.2.2.1
 generalize hL : (x.order.getD r default).2 = L
 have hin := coAt_in x.order r
 rw [hL] at hin
 have hnx := coAt_next x.order r hlt
 rw [hL] at hnx
 have hLl : L.length ≤ 65536 := by
  rw [← hL, List.getD_eq_getElem?_getD, List.getElem?_eq_getElem hlt]
  exact hx.2 _ (List.getElem_mem hlt)
 refine uS (X := Nat × Rows) (fun p => tmL [(0, .yl k τ), (10, .d (rowsTV x.order)), (11, .int .i64 x.order.length), (12, .int .i64 r), (4, .d (ints L)), (16, .d (ints L)), (17, .int .i64 L.length), (18, .int .i64 p.1), (GS, .gh (coAt x.order r L p.1 0).length Y)]) (fun p => stL p.2)
  (fun p => p.1 ≤ L.length ∧ J (coAt x.order r L p.1 0).length p.2 ∧ (st = true → (coAt x.order r L p.1 0).length < m)) (fun p => L.length - p.1) (0, l) ⟨Nat.zero_le _, by dsimp only; rw [fP]; exact hJ, by dsimp only; rw [fP]; exact hst⟩ ?_ (fun _ _ h => h) ?_
 ·dsimp only
  rw [fP, ← hL]
  exact leP
 clear hJ hst l
 rintro ⟨i, l⟩ ⟨hi, hJ, hst⟩
 dsimp only at hi hJ hst ⊢
 by_cases hlt2 : i < L.length
 rotate_left
 ·have hbe : i = L.length := by omega
  subst hbe
  rw [hnx] at hJ hst ⊢
  refine uC (aoR fun _ => ?_)
  refine q37 (uG (uE (uC ?_))); refine cnd ?_ ?_
  refine uH fun _ => ?_; try (exfalso; omega)
  refine uI fun _ => ?_; try (exfalso; omega)
  refine vW ?_
  iterate 2 refine wI ?_
  refine xZ ?_; refine xM ?_; refine uE (aoR fun _ => ?_)
  refine q36 ?_; refine q11 (uG (uE ?_)); rotate_left
  exact ⟨(r + 1, l), ⟨show r + 1 ≤ _ by omega, hJ, hst⟩, show x.order.length - (r + 1) < x.order.length - r by omega, leP, fun _ _ h => h⟩
 refine uC (aoR fun _ => ?_)
 refine q37 (uG (uE (uC ?_))); refine cnd ?_ ?_
 refine uH fun _ => ?_; try (exfalso; omega)
 refine vF (uE (uC (vI (uC (aoR fun _ => ?_)))))
 refine q11 ?_; refine q17 ?_; refine q23 ?_
 iterate 2 refine q12 ?_
 refine uG (uE (uC (aoR fun _ => ?_)))
 iterate 2 refine q11 ?_
 refine q36 ?_
 (apply aQ (l := i + 1) (h := L.length); exact rfl; exact rfl; exact rfl; exact rfl; exact rfl; exact ⟨_, _, rfl, by omega, by omega⟩; exact (by show L.length = _; simp); omega; (simp))
 refine q13 ?_; refine q11 (uG (uE (vI ?_))); rotate_left
 refine uI fun _ => ?_; try (exfalso; omega)
 have hsl : ((L.map cell).drop (i + 1)).take (L.length - (i + 1)) = (L.drop (i + 1)).map cell := by
  rw [List.take_of_length_le (by simp), List.map_drop]
 have hdl : (L.drop (i + 1)).length = L.length - (i + 1) := by simp
 have hdg : ∀ j, (L.drop (i + 1)).getD j 0 = L.getD (i + 1 + j) 0 := fun j => by simp [List.getD]
 refine uS (X := Nat × Rows) (fun p => tmL [(0, .yl k τ), (10, .d (rowsTV x.order)), (11, .int .i64 x.order.length), (12, .int .i64 r), (4, .d (ints L)), (16, .d (ints L)), (17, .int .i64 L.length), (18, .int .i64 i), (6, .int .i64 (L.getD i 0)), (26, .d (ints (L.drop (i + 1)))), (27, .int .i64 (L.drop (i + 1)).length), (28, .int .i64 p.1), (GS, .gh (coAt x.order r L i p.1).length Y)]) (fun p => stL p.2)
  (fun p => p.1 ≤ (L.drop (i + 1)).length ∧ J (coAt x.order r L i p.1).length p.2 ∧ (st = true → (coAt x.order r L i p.1).length < m)) (fun p => (L.drop (i + 1)).length - p.1) (0, l) ⟨Nat.zero_le _, hJ, hst⟩ ?_ (fun _ _ h => h) ?_
 ·rw [hsl]
  refine uD rfl (uD rfl (uD rfl (uD rfl (uD rfl (uD rfl (uD rfl (uD rfl (uD rfl (uD rfl (uD ?_ leP))))))))))
  rw [List.length_map]; rfl
 clear hJ hst l
 rintro ⟨j, l⟩ ⟨hj, hJ, hst⟩
 dsimp only at hj hJ hst ⊢
 by_cases hlt3 : j < (L.drop (i + 1)).length
 rotate_left
 ·have hend := coAt_end x.order r L i j (by omega)
  rw [hend] at hJ hst ⊢
  refine uC (aoR fun _ => ?_)
  refine q37 (uG (uE (uC ?_))); refine cnd ?_ ?_
  refine uH fun _ => ?_; try (exfalso; omega)
  refine uI fun _ => ?_; try (exfalso; omega)
  refine vW ?_
  iterate 2 refine wI ?_
  refine xZ ?_; refine xM ?_; refine uE (aoR fun _ => ?_)
  refine q36 ?_; refine q11 (uG (uE ?_)); rotate_left
  exact ⟨(i + 1, l), ⟨show i + 1 ≤ _ by omega, hJ, hst⟩, show L.length - (i + 1) < L.length - i by omega, leP, fun _ _ h => h⟩
 have hstep := lU x.order r L i j (by omega)
 obtain ⟨q, hq⟩ := hin i j hlt (by omega)
 obtain ⟨hlm, hY⟩ := iO h1 hy hq hst hJ
 rw [← hdg j] at hY
 have hlen1 : (coAt x.order r L i (j + 1)).length = (coAt x.order r L i j).length + 1 := by rw [hstep]; simp
 rcases Bool.eq_false_or_eq_true (!(st && (coAt x.order r L i j).length + 1 == m)) with hans | hans
 ·rw [hans] at hY
  refine uC (aoR fun _ => ?_)
  refine q37 (uG (uE (uC ?_))); refine cnd ?_ ?_
  refine uH fun _ => ?_; try (exfalso; omega)
  refine vF (uE (uC (vI (uC (aoR fun _ => ?_)))))
  refine q17 ?_; refine q23 ?_; refine q12 (uG (uE (uC (aoR fun _ => ?_))))
  iterate 3 refine q11 ?_
  refine q54 ?_
  apply zL; exact rfl; exact rfl; exact rfl; exact hY; exact (fun _ _ h => h); exact hnd _; (intro l1 hl1)
  apply bT; exact rfl
  refine uG (uE ?_); refine cnd ?_ ?_; refine bL ?_
  exact wA
  refine xC ?_; refine uL ?_; refine vF ?_; refine xM ?_; refine uE (aoR fun _ => ?_)
  refine q36 ?_; refine q11 (uG (uE ?_)); rotate_left
  refine uI fun _ => ?_; try (exfalso; omega)
  refine ⟨(j + 1, l1), ⟨show j + 1 ≤ _ by omega, ?_, ?_⟩, show (L.drop (i + 1)).length - (j + 1) < (L.drop (i + 1)).length - j by omega, ?_, zQ (hnd _ _ hl1)⟩
  ·dsimp only; rw [hlen1]; exact hl1
  ·dsimp only; rw [hlen1]; exact mM hlm hans
  ·dsimp only; rw [hlen1]; exact leP
 ·rw [hans] at hY
  rw [dW hans] at hY
  refine uC (aoR fun _ => ?_)
  refine q37 (uG (uE (uC ?_))); refine cnd ?_ ?_
  refine uH fun _ => ?_; try (exfalso; omega)
  refine vF (uE (uC (vI (uC (aoR fun _ => ?_)))))
  refine q17 ?_; refine q23 ?_; refine q12 (uG (uE (uC (aoR fun _ => ?_))))
  iterate 3 refine q11 ?_
  refine q54 ?_
  apply zL; exact rfl; exact rfl; exact rfl; exact hY; exact (fun _ _ h => h); exact hnd _; (intro l1 hl1)
  apply bT; exact rfl
  refine uG (uE ?_); refine cnd ?_ ?_; refine bL ?_; refine uJ ?_; refine vW ?_
  refine gT ?_ ?_; exact rfl
  iterate 2 refine wI ?_
  iterate 2 (refine gT ?_ ?_; exact rfl)
  iterate 2 refine wI ?_
  iterate 2 (refine gT ?_ ?_; exact rfl)
  iterate 2 refine wI ?_
  refine xZ ?_; refine tJ ?_; rotate_left
  refine xC ?_
  exact uK
  refine uI fun _ => ?_; try (exfalso; omega)
  exact ⟨Or.inl rfl, rfl, l1, hl1, zQ (hnd _ _ hl1)⟩
theorem yS {es : List Ev} {ad : List Int} {o : List (Sl × List Int)} (h : orderB es ad o = true) : o.length = ad.length ∧ ∀ r, r < o.length → sortI (o.getD r default).2 = wantTo es (ad.getD r 0) es.length ∧ (o.getD r default).2.getD 0 0 = (r : Int) ∧ (o.getD r default).2 ≠ [] := by
 unfold orderB rowsTo at h
 simp only [Bool.and_eq_true, decide_eq_true_eq, List.all_eq_true, List.mem_range] at h
 refine ⟨h.1, fun r hr => ?_⟩
 have := h.2 r hr
 unfold rowOk at this
 simp only [Bool.and_eq_true, Bool.not_eq_true', beq_eq_false_iff_ne, bne_eq_false_iff_eq, beq_iff_eq] at this
 exact ⟨this.2, this.1.2, fun e => this.1.1 (by rw [e]; rfl)⟩
theorem yT {es : List Ev} {ad : List Int} {o : List (Sl × List Int)} (h : orderB es ad o = true) {r : Nat} (hr : r < o.length) {a : Int} : a ∈ (o.getD r default).2 ↔ a ∈ wantTo es (ad.getD r 0) es.length := by
 rw [← ((yS h).2 r hr).1]
 exact (List.mergeSort_perm _ _).mem_iff.symm
theorem mI {es : List Ev} {a b : Int} {k : Nat} (h : b ∈ wantTo es a k) : 0 ≤ b ∧ b < k := by
 unfold wantTo at h
 obtain ⟨n, h1, rfl⟩ := List.mem_map.1 h
 have := List.mem_range.1 (List.mem_filter.1 h1).1
 exact ⟨Int.natCast_nonneg n, Int.ofNat_lt.2 this⟩
theorem want_len (es : List Ev) (a : Int) (k : Nat) : (wantTo es a k).length ≤ k := by
 unfold wantTo
 rw [List.length_map]
 exact Nat.le_trans (List.length_filter_le _ _) (by simp)
theorem order_len {es : List Ev} {ad : List Int} {o : List (Sl × List Int)} (h : orderB es ad o = true) {r : Nat} (hr : r < o.length) : (o.getD r default).2.length ≤ es.length := by
 rw [← List.length_mergeSort (o.getD r default).2 (le := fun x y => decide (x ≤ y))]
 have := ((yS h).2 r hr).1
 unfold sortI at this
 rw [this]
 exact want_len _ _ _
theorem oZ (l : List Int) : ∀ i, (coIn l i).length ≤ i * l.length
 | 0 => by simp [coIn]
 | i + 1 => by
  rw [zZ, List.length_append, Nat.succ_mul]
  have := oZ l i
  simp only [List.length_map, List.length_drop]
  omega
theorem oY (o : List (Sl × List Int)) (n : Nat) (h : ∀ r, r < o.length → (o.getD r default).2.length ≤ n) : ∀ r, r ≤ o.length → (coTo o r).length ≤ r * (n * n)
 | 0, _ => by simp [coTo]
 | r + 1, hr => by
  rw [cK o r (by omega), List.length_append, Nat.succ_mul]
  have h1 := oY o n h r (by omega)
  have h2 := oZ (o.getD r default).2 (o.getD r default).2.length
  have h3 := h r (by omega)
  have h4 : (o.getD r default).2.length * (o.getD r default).2.length ≤ n * n := Nat.mul_le_mul h3 h3
  omega
theorem jQ {l : List Int} {i : Nat} {p : Int × Int} (h : p ∈ coIn l i) (hi : i ≤ l.length) : p.1 ∈ l ∧ p.2 ∈ l := by
 unfold coIn at h
 obtain ⟨j, h1, h2⟩ := List.mem_flatMap.1 h
 obtain ⟨b, h3, rfl⟩ := List.mem_map.1 h2
 have hj := List.mem_range.1 h1
 refine ⟨?_, List.mem_of_mem_drop h3⟩
 dsimp only
 rw [List.getD_eq_getElem?_getD, List.getElem?_eq_getElem (by omega)]
 exact List.getElem_mem _
theorem oX {o : List (Sl × List Int)} {r : Nat} {p : Int × Int} (h : p ∈ coTo o r) : ∃ k, k < o.length ∧ p ∈ coIn (o.getD k default).2 (o.getD k default).2.length := by
 unfold coTo at h
 obtain ⟨l, h1, h2⟩ := List.mem_flatMap.1 h
 obtain ⟨k, hk, e⟩ := List.getElem_of_mem (List.mem_of_mem_take h1)
 refine ⟨k, hk, ?_⟩
 rw [List.getD_eq_getElem?_getD, List.getElem?_eq_getElem hk, Option.getD_some, e]
 exact h2
theorem fO {es : List Ev} {ad : List Int} {o : List (Sl × List Int)} (h : orderB es ad o = true) (h64 : es.length ≤ 65536) : smallP (coZ o) := fun p hp => by
 obtain ⟨k, hk, h2⟩ := oX hp
 obtain ⟨e1, e2⟩ := jQ h2 (Nat.le_refl _)
 have a1 := mI ((yT h hk).1 e1)
 have a2 := mI ((yT h hk).1 e2)
 omega
def coF (x : Ex) : List (Int × Int) := if checkI x = 0 then sortZ (coZ x.order) else []
theorem rH {x : Ex} (hc : checkI x = 0) : (coZ x.order).length ≤ 262144 := by
 obtain ⟨h1, h2, h3, h4⟩ := vN hc
 have h5 := (yS h4).1
 have h6 := xO x.evs
 have h7 := oY x.order 64 (fun r hr => Nat.le_trans (order_len h4 hr) h1) x.order.length (Nat.le_refl _)
 unfold coZ
 omega
set_option maxHeartbeats 4000000 in
theorem co_s (x : Ex) (hx : x.fit) : Own E.P 56 [exOV x] 2 ((coF x).map pairO') := by
 unfold coF
 refine fnA Tryz.func56 Tryz.ntmps56 ?_
 refine uC (aoR fun _ => ?_)
 refine q40 ?_; refine q51 (uG ?_); rotate_left
 refine uE ?_
 rename_i v0
 refine xH 1 (v0, 0) 3 [exRow x] (tmL [(1, .d (.pt (exRow x) 0))]) (stL []) rfl (vX rfl (.lo 0 0 _ rfl) yL) (by repeat' (first | exact yL | exact fK | (refine vX rfl (xG ?_) ?_; (first | rfl | (simp; done))) | refine vX rfl (.same _) ?_ | refine aI (by decide) rfl (.same _) ?_)) ?_
 by_cases hc : checkI x = 0
 ·rw [if_pos hc]
  have hln := rH hc
  obtain ⟨h1, h2, h3, h4⟩ := vN hc
  have hsm : smallP (coZ x.order) := fO h4 (by omega)
  iterate 2 refine uC ?_
  refine aoR fun _ => ?_; refine q33 ?_
  apply uM; exact rfl; exact .fn _ _ _; exact rfl; exact yH _ hx.1 hx.2
  refine q44 (uG (uE ?_)); refine cnd ?_ ?_
  refine wB (fun _ => ?_); (try (exfalso; omega))
  refine vV (fun _ => ?_); (try (exfalso; omega))
  refine vF (uE (uC (aoR fun _ => ?_)))
  apply wY; exact rfl; exact rfl
  apply eX; exact rfl; exact .fn _ _ _; exact rfl; exact hZ (.fn _ _ _) _ hsm (by omega) (co1_s x hx)
  apply mA; exact rfl; exact rfl
  refine uG (uE ?_); refine wH ?_; rotate_left
  exact wO (d := 2) rfl rfl rfl rfl
 ·rw [if_neg hc]
  iterate 2 refine uC ?_
  refine aoR fun _ => ?_; refine q33 ?_
  apply uM; exact rfl; exact .fn _ _ _; exact rfl; exact yH _ hx.1 hx.2
  refine q44 (uG (uE ?_)); refine cnd ?_ ?_
  refine wB (fun _ => ?_); (try (exfalso; omega))
  refine uC (aoR fun _ => ?_)
  refine q51 (uG (uE ?_)); refine wH ?_; refine zO ?_; rotate_left
  refine vV (fun _ => ?_); (try (exfalso; omega))
  exact wO (d := 2) rfl rfl rfl rfl
theorem bI (l : List Int) (a b : Int) : (a, b) ∈ coIn l l.length ↔ ∃ i j, i < j ∧ j < l.length ∧ l.getD i 0 = a ∧ l.getD j 0 = b := by
 unfold coIn
 constructor
 ·intro h
  obtain ⟨i, h1, h2⟩ := List.mem_flatMap.1 h
  obtain ⟨c, h3, h4⟩ := List.mem_map.1 h2
  cases h4
  obtain ⟨k, hk, e⟩ := List.getElem_of_mem h3
  simp at hk
  refine ⟨i, i + 1 + k, by omega, by omega, rfl, ?_⟩
  rw [← e, List.getElem_drop, List.getD_eq_getElem?_getD, List.getElem?_eq_getElem (by omega)]; rfl
 ·rintro ⟨i, j, h1, h2, rfl, rfl⟩
  refine List.mem_flatMap.2 ⟨i, List.mem_range.2 (by omega), List.mem_map.2 ⟨l.getD j 0, ?_, rfl⟩⟩
  rw [List.getD_eq_getElem?_getD, List.getElem?_eq_getElem h2]
  refine List.mem_of_getElem (i := j - (i + 1)) (h := by simp; omega) ?_
  rw [List.getElem_drop, Option.getD_some]
  congr 1; omega
theorem dZ (o : List (Sl × List Int)) (p : Int × Int) : p ∈ coZ o ↔ ∃ r, r < o.length ∧ p ∈ coIn (o.getD r default).2 (o.getD r default).2.length := by
 constructor
 ·exact oX
 ·rintro ⟨r, hr, hp⟩
  unfold coZ coTo
  refine List.mem_flatMap.2 ⟨o.getD r default, ?_, hp⟩
  rw [List.take_length, List.getD_eq_getElem?_getD, List.getElem?_eq_getElem hr]
  exact List.getElem_mem _
theorem fD (es : List Ev) (a : Int) (k n : Nat) : (n : Int) ∈ wantTo es a k ↔ n < k ∧ (es.getD n default).stB = true ∧ (es.getD n default).addr = a := by
 unfold wantTo
 constructor
 ·intro h
  obtain ⟨m, h1, h2⟩ := List.mem_map.1 h
  have : m = n := Int.ofNat.inj h2
  subst this
  obtain ⟨h3, h4⟩ := List.mem_filter.1 h1
  simp only [Bool.and_eq_true, beq_iff_eq] at h4
  exact ⟨List.mem_range.1 h3, h4⟩
 ·rintro ⟨h1, h2, h3⟩
  exact List.mem_map.2 ⟨n, List.mem_filter.2 ⟨List.mem_range.2 h1, by simp only [Bool.and_eq_true, beq_iff_eq]; exact ⟨h2, h3⟩⟩, rfl⟩
theorem want_nodupZ (es : List Ev) (a : Int) (k : Nat) : (wantTo es a k).Nodup := by
 unfold wantTo
 exact List.Pairwise.map _ (fun x y h e => h (Int.ofNat.inj e)) (List.Pairwise.filter _ List.nodup_range)
theorem zV {es : List Ev} {ad : List Int} {o : List (Sl × List Int)} (h : orderB es ad o = true) {r : Nat} (hr : r < o.length) : (o.getD r default).2.Nodup := by
 have h1 := ((yS h).2 r hr).1
 have h2 := want_nodupZ es (ad.getD r 0) es.length
 rw [← h1] at h2
 exact (List.mergeSort_perm _ _).nodup_iff.1 h2
theorem iY {l : List Int} (h : l.Nodup) {i j : Nat} (hi : i < l.length) (hj : j < l.length) (e : l.getD i 0 = l.getD j 0) : i = j := by
 rw [List.getD_eq_getElem?_getD, List.getD_eq_getElem?_getD, List.getElem?_eq_getElem hi, List.getElem?_eq_getElem hj] at e
 have e' : l[i] = l[j] := e
 rcases Nat.lt_trichotomy i j with hij | hij | hij
 ·exact (List.pairwise_iff_getElem.1 h i j hi hj hij e').elim
 ·exact hij
 ·exact (List.pairwise_iff_getElem.1 h j i hj hi hij e'.symm).elim
theorem fE {l : List Int} {a : Int} (h : a ∈ l) : ∃ i, i < l.length ∧ l.getD i 0 = a := by
 obtain ⟨i, hi, e⟩ := List.getElem_of_mem h
 exact ⟨i, hi, by rw [List.getD_eq_getElem?_getD, List.getElem?_eq_getElem hi]; exact e⟩
theorem sF {l : List Int} {i : Nat} (h : i < l.length) : l.getD i 0 ∈ l := by
 rw [List.getD_eq_getElem?_getD, List.getElem?_eq_getElem h]
 exact List.getElem_mem _
theorem iZ (a : Int) : ∀ (es : List Ev) (l : List Int), a ∈ es.foldl (fun l e => if e.kind = 4 then l else addIn e.addr l) l ↔ a ∈ l ∨ ∃ e ∈ es, e.kind ≠ 4 ∧ e.addr = a
 | [], l => by simp
 | e :: es, l => by
  rw [List.foldl_cons, iZ a es]
  by_cases h : e.kind = 4
  ·rw [if_pos h]
   constructor
   ·rintro (h1 | ⟨f, h1, h2⟩)
    ·exact Or.inl h1
    ·exact Or.inr ⟨f, by simp [h1], h2⟩
   ·rintro (h1 | ⟨f, h1, h2, h3⟩)
    ·exact Or.inl h1
    ·rcases List.mem_cons.1 h1 with rfl | h1
     ·exact (h2 h).elim
     ·exact Or.inr ⟨f, h1, h2, h3⟩
  ·rw [if_neg h, cG]
   constructor
   ·rintro ((rfl | h1) | ⟨f, h1, h2⟩)
    ·exact Or.inr ⟨e, by simp, h, rfl⟩
    ·exact Or.inl h1
    ·exact Or.inr ⟨f, by simp [h1], h2⟩
   ·rintro (h1 | ⟨f, h1, h2, h3⟩)
    ·exact Or.inl (Or.inr h1)
    ·rcases List.mem_cons.1 h1 with rfl | h1
     ·exact Or.inl (Or.inl h3.symm)
     ·exact Or.inr ⟨f, h1, h2, h3⟩
theorem mem_addrs (es : List Ev) (a : Int) : a ∈ addrsTo es ↔ ∃ e ∈ es, e.kind ≠ 4 ∧ e.addr = a := by
 unfold addrsTo
 rw [iZ]
 simp
def both (es : List Ev) (a b : Nat) : Prop := (es.getD a default).stB = true ∧ (es.getD b default).stB = true ∧ (es.getD a default).addr = (es.getD b default).addr
section
variable {es : List Ev} {o : List (Sl × List Int)} (h : orderB es (addrsTo es) o = true)
include h
omit h in
theorem eR {a b : Int} (hp : (a, b) ∈ coZ o) : ∃ r i j, r < o.length ∧ i < j ∧ j < (o.getD r default).2.length ∧ (o.getD r default).2.getD i 0 = a ∧ (o.getD r default).2.getD j 0 = b := by
 obtain ⟨r, hr, h1⟩ := (dZ o _).1 hp
 obtain ⟨i, j, h2, h3, h4, h5⟩ := (bI _ a b).1 h1
 exact ⟨r, i, j, hr, h2, h3, h4, h5⟩
theorem bD {r i : Nat} (hr : r < o.length) (hi : i < (o.getD r default).2.length) {a : Nat} (e : (o.getD r default).2.getD i 0 = a) : a < es.length ∧ (es.getD a default).stB = true ∧ (es.getD a default).addr = (addrsTo es).getD r 0 := by
 have h1 := (yT h hr).1 (sF hi)
 rw [e] at h1
 exact (fD _ _ _ _).1 h1
theorem iQ {r r' : Nat} (hr : r < o.length) (hr' : r' < o.length) (e : (addrsTo es).getD r 0 = (addrsTo es).getD r' 0) : r = r' := by
 have hl := (yS h).1
 have hn : (addrsTo es).Nodup := (bQ es).imp fun h => Int.ne_of_lt h
 exact iY hn (by omega) (by omega) e
theorem tP {a b : Nat} (hp : ((a : Int), (b : Int)) ∈ coZ o) : a < es.length ∧ b < es.length ∧ a ≠ b ∧ both es a b := by
 obtain ⟨r, i, j, hr, h2, h3, h4, h5⟩ := eR hp
 obtain ⟨a1, a2, a3⟩ := bD h hr (by omega) h4
 obtain ⟨b1, b2, b3⟩ := bD h hr h3 h5
 refine ⟨a1, b1, fun e => ?_, a2, b2, a3.trans b3.symm⟩
 subst e
 have := iY (zV h hr) (by omega) h3 (h4.trans h5.symm)
 omega
theorem co_or {a b : Nat} (ha : a < es.length) (hb : b < es.length) (hne : a ≠ b) (hab : both es a b) : ((a : Int), (b : Int)) ∈ coZ o ∨ ((b : Int), (a : Int)) ∈ coZ o := by
 obtain ⟨h1, h2, h3⟩ := hab
 have hm : (es.getD a default).addr ∈ addrsTo es := (mem_addrs _ _).2 ⟨es.getD a default, by
  rw [List.getD_eq_getElem?_getD, List.getElem?_eq_getElem ha]; exact List.getElem_mem _, fun e => by
  unfold Ev.stB at h1; rw [e] at h1; simp at h1, rfl⟩
 obtain ⟨r, hr, er⟩ := fE hm
 have hl := (yS h).1
 have hro : r < o.length := by omega
 obtain ⟨i, hi, ei⟩ := fE ((yT h hro).2 ((fD es _ es.length a).2 ⟨ha, h1, er.symm⟩))
 obtain ⟨j, hj, ej⟩ := fE ((yT h hro).2 ((fD es _ es.length b).2 ⟨hb, h2, by rw [← h3, er]⟩))
 rcases Nat.lt_trichotomy i j with hij | hij | hij
 ·exact Or.inl ((dZ o _).2 ⟨r, hro, (bI _ _ _).2 ⟨i, j, hij, hj, ei, ej⟩⟩)
 ·subst hij
  rw [ei] at ej
  exact (hne (by omega)).elim
 ·exact Or.inr ((dZ o _).2 ⟨r, hro, (bI _ _ _).2 ⟨j, i, hij, hi, ej, ei⟩⟩)
end
theorem qX {zs : List Int} {k : Nat} {a b : Int} : (a, b) ∈ rfZ zs k ↔ ∃ n : Nat, n < k ∧ 0 ≤ zs.getD n 0 ∧ a = zs.getD n 0 ∧ b = n := by
 unfold rfZ
 constructor
 ·intro h
  obtain ⟨n, h1, h2⟩ := List.mem_filterMap.1 h
  split at h2
  ·rename_i h0
   cases h2
   exact ⟨n, List.mem_range.1 h1, h0, rfl, rfl⟩
  ·cases h2
 ·rintro ⟨n, h1, h0, rfl, rfl⟩
  exact List.mem_filterMap.2 ⟨n, List.mem_range.2 h1, by rw [if_pos h0]⟩
end Go.Proofs.YtnkocjkkefnelaaGreat
