/- Parts. -/
import Derived.Maps.OwnRows
import Derived.Test.YtnkocjkkefnelaaGreatPn1
import Derived.Test.YtnkocjkkefnelaaGreatPn6
import Derived.Test.YtnkocjkkefnelaaGreatPn12
import Derived.Test.YtnkocjkkefnelaaGreatPn13
import Derived.Test.YtnkocjkkefnelaaGreatPn19
set_option linter.unusedVariables false
set_option linter.unusedSimpArgs false
set_option maxHeartbeats 4000000
set_option maxRecDepth 100000
namespace Go.Proofs.YtnkocjkkefnelaaGreat
open Go.RowKit
def coIn (l : List Int) (i : Nat) : List (Int × Int) := (List.range i).flatMap fun i => (l.drop (i + 1)).map fun b => (l.getD i 0, b)
def coTo (o : List (Sl × List Int)) (r : Nat) : List (Int × Int) := (o.take r).flatMap fun l => coIn l.2 l.2.length
def coAt (o : List (Sl × List Int)) (r : Nat) (l : List Int) (i j : Nat) : List (Int × Int) := coTo o r ++ coIn l i ++ ((l.drop (i + 1)).take j).map fun b => (l.getD i 0, b)
def coZ (o : List (Sl × List Int)) : List (Int × Int) := coTo o o.length
theorem fK (o : List (Sl × List Int)) (r : Nat) (l : List Int) : coAt o r l 0 0 = coTo o r := by simp [coAt, coIn]
theorem zW (l : List Int) (i : Nat) : coIn l (i + 1) = coIn l i ++ (l.drop (i + 1)).map fun b => (l.getD i 0, b) := by
 simp [coIn, List.range_succ, List.flatMap_append]
theorem coAt_end (o : List (Sl × List Int)) (r : Nat) (l : List Int) (i j : Nat) (h : l.length ≤ i + 1 + j) : coAt o r l i j = coAt o r l (i + 1) 0 := by
 unfold coAt
 rw [zW, List.take_of_length_le (by simp; omega), List.take_zero, List.map_nil, List.append_nil, List.append_assoc]
theorem cD (o : List (Sl × List Int)) (r : Nat) (h : r < o.length) : coTo o (r + 1) = coTo o r ++ coIn (o.getD r default).2 (o.getD r default).2.length := by
 unfold coTo
 rw [wL o default r h, List.flatMap_append]
 simp
theorem coAt_next (o : List (Sl × List Int)) (r : Nat) (h : r < o.length) : coAt o r (o.getD r default).2 (o.getD r default).2.length 0 = coTo o (r + 1) := by
 rw [cD o r h]
 simp [coAt]
theorem kM (o : List (Sl × List Int)) (r : Nat) (l : List Int) (i j : Nat) (h : i + 1 + j < l.length) : coAt o r l i (j + 1) = coAt o r l i j ++ [(l.getD i 0, l.getD (i + 1 + j) 0)] := by
 unfold coAt
 rw [wL (l.drop (i + 1)) 0 j (by simp; omega), List.map_append, List.append_assoc _ _ [_], List.append_assoc, List.append_assoc]
 simp [List.getD]
theorem coTo_pre (o : List (Sl × List Int)) : ∀ {a b : Nat}, a ≤ b → b ≤ o.length → ∃ r, coTo o b = coTo o a ++ r := fun {a b} h hb => by
  induction b with
  | zero => have : a = 0 := by omega
            subst this; exact ⟨[], by simp⟩
  | succ b ih =>
    by_cases e : a = b + 1
    · subst e; exact ⟨[], by simp⟩
    · obtain ⟨r, hr⟩ := ih (by omega) (by omega)
      exact ⟨_, by rw [cD o b (by omega), hr, List.append_assoc]⟩
theorem coIn_pre (l : List Int) : ∀ {a b : Nat}, a ≤ b → ∃ r, coIn l b = coIn l a ++ r := fun {a b} h => by
  induction b with
  | zero => have : a = 0 := by omega
            subst this; exact ⟨[], by simp⟩
  | succ b ih =>
    by_cases e : a = b + 1
    · subst e; exact ⟨[], by simp⟩
    · obtain ⟨r, hr⟩ := ih (by omega)
      exact ⟨_, by rw [zW, hr, List.append_assoc]⟩
theorem coAt_in (o : List (Sl × List Int)) (r i j : Nat) (h : r < o.length) (hj : i + 1 + j < (o.getD r default).2.length) :
  ∃ q, coZ o = coAt o r (o.getD r default).2 i j ++ [((o.getD r default).2.getD i 0, (o.getD r default).2.getD (i + 1 + j) 0)] ++ q := by
 generalize hl : (o.getD r default).2 = l at hj ⊢
 obtain ⟨q1, h1⟩ := coTo_pre o (show r + 1 ≤ o.length by omega) (Nat.le_refl _)
 obtain ⟨q2, h2⟩ := coIn_pre l (show i + 1 ≤ l.length by omega)
 unfold coZ
 rw [h1, cD o r h, hl, h2, zW, ← kM o r l i j hj]
 unfold coAt
 have : (l.drop (i + 1)).map (fun b => (l.getD i 0, b)) = ((l.drop (i + 1)).take (j + 1)).map (fun b => (l.getD i 0, b)) ++ ((l.drop (i + 1)).drop (j + 1)).map (fun b => (l.getD i 0, b)) := by
  rw [← List.map_append, List.take_append_drop]
 rw [this]
 exact ⟨_, by simp only [List.append_assoc]; rfl⟩
set_option maxHeartbeats 4000000 in
theorem co1_s (x : Ex) (hx : x.fit) : SeqW E.P 84 [] [.d (.pt (exRow x) 0)] (pairYs (coZ x.order)) := by
 intro Y k τ J m st hm h1 h2 hnd hbig hy l0 hl0
 have hlen : (pairYs (coZ x.order)).length = (coZ x.order).length := by simp [pairYs]
 rw [hlen] at hm h1
 refine xT Tryz.func84 (by decide) rfl Tryz.ntmps84 (Nat.le_of_ble_eq_true rfl) rfl ?_
 refine cG ?_; refine uB ?_; refine cH ?_; refine uC (uB (aoR fun _ => ?_))
 refine q32 ?_; refine q23 ?_; refine q13 ?_; refine q11 (uD (uC (uW ?_))); rotate_left
 have hT0 : m = (coTo x.order 0).length → True := fun _ => trivial
 refine vJ (X := Nat × Rows) (fun p => tmL [(0, .yl k τ), (10, .d (rowsTV x.order)), (11, .int .i64 x.order.length), (12, .int .i64 p.1), (GS, .gh (coTo x.order p.1).length Y)]) (fun p => stL p.2)
  (fun p => p.1 ≤ x.order.length ∧ J (coTo x.order p.1).length p.2 ∧ (st = true → (coTo x.order p.1).length < m)) (fun p => x.order.length - p.1) (0, l0) ⟨Nat.zero_le _, hl0, h2⟩ leP (fun _ _ h => h) ?_
 rintro ⟨r, l⟩ ⟨hr, hJ, hst⟩
 dsimp only at hr hJ hst ⊢
 by_cases hlt : r < x.order.length
 rotate_left
 ·have hbe : r = x.order.length := by omega
  subst hbe
  have hme : (coTo x.order x.order.length).length = m := by
   cases st with
   | true => have h9 := hst rfl; have h8 : (coZ x.order).length = (coTo x.order x.order.length).length := rfl; omega
   | false => exact (h1 rfl).symm
  rw [hme] at hJ ⊢
  refine uB (aoR fun _ => ?_)
  refine q37 (uD (uC (uB ?_))); refine cnd ?_ ?_
  refine uN fun _ => ?_; try omega
  refine uR fun _ => ?_; try omega
  refine vU ?_
  iterate 2 refine wF ?_
  refine xR ?_; refine sB ?_; rotate_left
  exact ⟨Or.inl rfl, rfl, l, hJ, fun _ _ h => h⟩
 refine uB (aoR fun _ => ?_)
 refine q37 (uD (uC (uB ?_))); refine cnd ?_ ?_
 refine uN fun _ => ?_; try omega
 refine uX (uC (uB (uW (uB (aoR fun _ => ?_)))))
 refine q17 ?_; refine q23 ?_; refine q12 (uD (uC (uB (aoR fun _ => ?_))))
 refine q11 ?_; refine q13 ?_; refine q11 (uD (uC (uW ?_))); rotate_left
 refine uR fun _ => ?_; try omega
 have hol : x.order.length ≤ 1152921504606846976 := hx.1.2.2.2.1
 generalize hL : (x.order.getD r default).2 = L
 have hin := coAt_in x.order r
 rw [hL] at hin
 have hnx := coAt_next x.order r hlt
 rw [hL] at hnx
 have hLl : L.length ≤ 65536 := by
  rw [← hL, List.getD_eq_getElem?_getD, List.getElem?_eq_getElem hlt]
  exact hx.2 _ (List.getElem_mem hlt)
 refine vJ (X := Nat × Rows) (fun p => tmL [(0, .yl k τ), (10, .d (rowsTV x.order)), (11, .int .i64 x.order.length), (12, .int .i64 r), (4, .d (ints L)), (16, .d (ints L)), (17, .int .i64 L.length), (18, .int .i64 p.1), (GS, .gh (coAt x.order r L p.1 0).length Y)]) (fun p => stL p.2)
  (fun p => p.1 ≤ L.length ∧ J (coAt x.order r L p.1 0).length p.2 ∧ (st = true → (coAt x.order r L p.1 0).length < m)) (fun p => L.length - p.1) (0, l) ⟨Nat.zero_le _, by dsimp only; rw [fK]; exact hJ, by dsimp only; rw [fK]; exact hst⟩ ?_ (fun _ _ h => h) ?_
 ·dsimp only
  rw [fK, ← hL]
  exact leP
 clear hJ hst l
 rintro ⟨i, l⟩ ⟨hi, hJ, hst⟩
 dsimp only at hi hJ hst ⊢
 by_cases hlt2 : i < L.length
 rotate_left
 ·have hbe : i = L.length := by omega
  subst hbe
  rw [hnx] at hJ hst ⊢
  refine uB (aoR fun _ => ?_)
  refine q37 (uD (uC (uB ?_))); refine cnd ?_ ?_
  refine uN fun _ => ?_; try omega
  refine uR fun _ => ?_; try omega
  refine vU ?_
  iterate 2 refine wF ?_
  refine xR ?_; refine xH ?_; refine uC (aoR fun _ => ?_)
  refine q36 ?_; refine q11 (uD (uC ?_)); rotate_left
  exact ⟨(r + 1, l), ⟨show r + 1 ≤ _ by omega, hJ, hst⟩, show x.order.length - (r + 1) < x.order.length - r by omega, leP, fun _ _ h => h⟩
 refine uB (aoR fun _ => ?_)
 refine q37 (uD (uC (uB ?_))); refine cnd ?_ ?_
 refine uN fun _ => ?_; try omega
 refine uX (uC (uB (uW (uB (aoR fun _ => ?_)))))
 refine q11 ?_; refine q17 ?_; refine q23 ?_
 iterate 2 refine q12 ?_
 refine uD (uC (uB (aoR fun _ => ?_)))
 iterate 2 refine q11 ?_
 refine q36 ?_
 (apply aH (l := i + 1) (h := L.length); exact rfl; exact rfl; exact rfl; exact rfl; exact rfl; exact ⟨_, _, rfl, by omega, by omega⟩; exact (by show L.length = _; simp); omega; (simp))
 refine q13 ?_; refine q11 (uD (uC (uW ?_))); rotate_left
 refine uR fun _ => ?_; try omega
 have hsl : ((L.map cell).drop (i + 1)).take (L.length - (i + 1)) = (L.drop (i + 1)).map cell := by
  rw [List.take_of_length_le (by simp), List.map_drop]
 have hdl : (L.drop (i + 1)).length = L.length - (i + 1) := by simp
 have hdg : ∀ j, (L.drop (i + 1)).getD j 0 = L.getD (i + 1 + j) 0 := fun j => by simp [List.getD]
 refine vJ (X := Nat × Rows) (fun p => tmL [(0, .yl k τ), (10, .d (rowsTV x.order)), (11, .int .i64 x.order.length), (12, .int .i64 r), (4, .d (ints L)), (16, .d (ints L)), (17, .int .i64 L.length), (18, .int .i64 i), (6, .int .i64 (L.getD i 0)), (26, .d (ints (L.drop (i + 1)))), (27, .int .i64 (L.drop (i + 1)).length), (28, .int .i64 p.1), (GS, .gh (coAt x.order r L i p.1).length Y)]) (fun p => stL p.2)
  (fun p => p.1 ≤ (L.drop (i + 1)).length ∧ J (coAt x.order r L i p.1).length p.2 ∧ (st = true → (coAt x.order r L i p.1).length < m)) (fun p => (L.drop (i + 1)).length - p.1) (0, l) ⟨Nat.zero_le _, hJ, hst⟩ ?_ (fun _ _ h => h) ?_
 ·rw [hsl]
  refine uL rfl (uL rfl (uL rfl (uL rfl (uL rfl (uL rfl (uL rfl (uL rfl (uL rfl (uL rfl (uL ?_ leP))))))))))
  rw [List.length_map]; rfl
 clear hJ hst l
 rintro ⟨j, l⟩ ⟨hj, hJ, hst⟩
 dsimp only at hj hJ hst ⊢
 by_cases hlt3 : j < (L.drop (i + 1)).length
 rotate_left
 ·have hend := coAt_end x.order r L i j (by omega)
  rw [hend] at hJ hst ⊢
  refine uB (aoR fun _ => ?_)
  refine q37 (uD (uC (uB ?_))); refine cnd ?_ ?_
  refine uN fun _ => ?_; try omega
  refine uR fun _ => ?_; try omega
  refine vU ?_
  iterate 2 refine wF ?_
  refine xR ?_; refine xH ?_; refine uC (aoR fun _ => ?_)
  refine q36 ?_; refine q11 (uD (uC ?_)); rotate_left
  exact ⟨(i + 1, l), ⟨show i + 1 ≤ _ by omega, hJ, hst⟩, show L.length - (i + 1) < L.length - i by omega, leP, fun _ _ h => h⟩
 have hstep := kM x.order r L i j (by omega)
 obtain ⟨q, hq⟩ := hin i j hlt (by omega)
 obtain ⟨hlm, hY⟩ := gY h1 hy hq hst hJ
 rw [← hdg j] at hY
 have hlen1 : (coAt x.order r L i (j + 1)).length = (coAt x.order r L i j).length + 1 := by rw [hstep]; simp
 rcases Bool.eq_false_or_eq_true (!(st && (coAt x.order r L i j).length + 1 == m)) with hans | hans
 ·rw [hans] at hY
  refine uB (aoR fun _ => ?_)
  refine q37 (uD (uC (uB ?_))); refine cnd ?_ ?_
  refine uN fun _ => ?_; try omega
  refine uX (uC (uB (uW (uB (aoR fun _ => ?_)))))
  refine q17 ?_; refine q23 ?_; refine q12 (uD (uC (uB (aoR fun _ => ?_))))
  iterate 3 refine q11 ?_
  refine q54 ?_
  apply zK; exact rfl; exact rfl; exact rfl; exact hY; exact (fun _ _ h => h); exact hnd _; (intro l1 hl1)
  apply bI; exact rfl
  refine uD (uC ?_); refine cnd ?_ ?_; refine aM ?_
  exact vV
  refine cO ?_; refine uI ?_; refine uX ?_; refine xH ?_; refine uC (aoR fun _ => ?_)
  refine q36 ?_; refine q11 (uD (uC ?_)); rotate_left
  refine uR fun _ => ?_; try omega
  refine ⟨(j + 1, l1), ⟨show j + 1 ≤ _ by omega, ?_, ?_⟩, show (L.drop (i + 1)).length - (j + 1) < (L.drop (i + 1)).length - j by omega, ?_, zQ (hnd _ _ hl1)⟩
  ·dsimp only; rw [hlen1]; exact hl1
  ·dsimp only; rw [hlen1]; exact lG hlm hans
  ·dsimp only; rw [hlen1]; exact leP
 ·rw [hans] at hY
  rw [dO hans] at hY
  refine uB (aoR fun _ => ?_)
  refine q37 (uD (uC (uB ?_))); refine cnd ?_ ?_
  refine uN fun _ => ?_; try omega
  refine uX (uC (uB (uW (uB (aoR fun _ => ?_)))))
  refine q17 ?_; refine q23 ?_; refine q12 (uD (uC (uB (aoR fun _ => ?_))))
  iterate 3 refine q11 ?_
  refine q54 ?_
  apply zK; exact rfl; exact rfl; exact rfl; exact hY; exact (fun _ _ h => h); exact hnd _; (intro l1 hl1)
  apply bI; exact rfl
  refine uD (uC ?_); refine cnd ?_ ?_; refine aM ?_; refine uF ?_; refine vU ?_
  refine gE ?_ ?_; exact rfl
  iterate 2 refine wF ?_
  iterate 2 (refine gE ?_ ?_; exact rfl)
  iterate 2 refine wF ?_
  iterate 2 (refine gE ?_ ?_; exact rfl)
  iterate 2 refine wF ?_
  refine xR ?_; refine sB ?_; rotate_left
  refine cO ?_
  exact uG
  refine uR fun _ => ?_; try omega
  exact ⟨Or.inl rfl, rfl, l1, hl1, zQ (hnd _ _ hl1)⟩
theorem wM {es : List Ev} {ad : List Int} {o : List (Sl × List Int)} (h : orderB es ad o = true) : o.length = ad.length ∧ ∀ r, r < o.length → sortI (o.getD r default).2 = wantTo es (ad.getD r 0) es.length ∧ (o.getD r default).2.getD 0 0 = (r : Int) ∧ (o.getD r default).2 ≠ [] := by
 unfold orderB rowsTo at h
 simp only [Bool.and_eq_true, decide_eq_true_eq, List.all_eq_true, List.mem_range] at h
 refine ⟨h.1, fun r hr => ?_⟩
 have := h.2 r hr
 unfold rowOk at this
 simp only [Bool.and_eq_true, Bool.not_eq_true', beq_eq_false_iff_ne, bne_eq_false_iff_eq, beq_iff_eq] at this
 exact ⟨this.2, this.1.2, fun e => this.1.1 (by rw [e]; rfl)⟩
theorem wT {es : List Ev} {ad : List Int} {o : List (Sl × List Int)} (h : orderB es ad o = true) {r : Nat} (hr : r < o.length) {a : Int} : a ∈ (o.getD r default).2 ↔ a ∈ wantTo es (ad.getD r 0) es.length := by
 rw [← ((wM h).2 r hr).1]
 exact (List.mergeSort_perm _ _).mem_iff.symm
theorem lD {es : List Ev} {a b : Int} {k : Nat} (h : b ∈ wantTo es a k) : 0 ≤ b ∧ b < k := by
 unfold wantTo at h
 obtain ⟨n, h1, rfl⟩ := List.mem_map.1 h
 have := List.mem_range.1 (List.mem_filter.1 h1).1
 exact ⟨Int.natCast_nonneg n, Int.ofNat_lt.2 this⟩
theorem gR (es : List Ev) (a : Int) (k : Nat) : (wantTo es a k).length ≤ k := by
 unfold wantTo
 rw [List.length_map]
 exact Nat.le_trans (List.length_filter_le _ _) (by simp)
theorem order_len {es : List Ev} {ad : List Int} {o : List (Sl × List Int)} (h : orderB es ad o = true) {r : Nat} (hr : r < o.length) : (o.getD r default).2.length ≤ es.length := by
 rw [← List.length_mergeSort (o.getD r default).2 (le := fun x y => decide (x ≤ y))]
 have := ((wM h).2 r hr).1
 unfold sortI at this
 rw [this]
 exact gR _ _ _
theorem nR (l : List Int) : ∀ i, (coIn l i).length ≤ i * l.length
 | 0 => by simp [coIn]
 | i + 1 => by
  rw [zW, List.length_append, Nat.succ_mul]
  have := nR l i
  simp only [List.length_map, List.length_drop]
  omega
theorem nQ (o : List (Sl × List Int)) (n : Nat) (h : ∀ r, r < o.length → (o.getD r default).2.length ≤ n) : ∀ r, r ≤ o.length → (coTo o r).length ≤ r * (n * n)
 | 0, _ => by simp [coTo]
 | r + 1, hr => by
  rw [cD o r (by omega), List.length_append, Nat.succ_mul]
  have h1 := nQ o n h r (by omega)
  have h2 := nR (o.getD r default).2 (o.getD r default).2.length
  have h3 := h r (by omega)
  have h4 : (o.getD r default).2.length * (o.getD r default).2.length ≤ n * n := Nat.mul_le_mul h3 h3
  omega
theorem iW {l : List Int} {i : Nat} {p : Int × Int} (h : p ∈ coIn l i) (hi : i ≤ l.length) : p.1 ∈ l ∧ p.2 ∈ l := by
 unfold coIn at h
 obtain ⟨j, h1, h2⟩ := List.mem_flatMap.1 h
 obtain ⟨b, h3, rfl⟩ := List.mem_map.1 h2
 have hj := List.mem_range.1 h1
 refine ⟨?_, List.mem_of_mem_drop h3⟩
 dsimp only
 rw [List.getD_eq_getElem?_getD, List.getElem?_eq_getElem (by omega)]
 exact List.getElem_mem _
theorem nP {o : List (Sl × List Int)} {r : Nat} {p : Int × Int} (h : p ∈ coTo o r) : ∃ k, k < o.length ∧ p ∈ coIn (o.getD k default).2 (o.getD k default).2.length := by
 unfold coTo at h
 obtain ⟨l, h1, h2⟩ := List.mem_flatMap.1 h
 obtain ⟨k, hk, e⟩ := List.getElem_of_mem (List.mem_of_mem_take h1)
 refine ⟨k, hk, ?_⟩
 rw [List.getD_eq_getElem?_getD, List.getElem?_eq_getElem hk, Option.getD_some, e]
 exact h2
theorem fJ {es : List Ev} {ad : List Int} {o : List (Sl × List Int)} (h : orderB es ad o = true) (h64 : es.length ≤ 65536) : smallP (coZ o) := fun p hp => by
 obtain ⟨k, hk, h2⟩ := nP hp
 obtain ⟨e1, e2⟩ := iW h2 (Nat.le_refl _)
 have a1 := lD ((wT h hk).1 e1)
 have a2 := lD ((wT h hk).1 e2)
 omega
def coF (x : Ex) : List (Int × Int) := if checkI x = 0 then sortZ (coZ x.order) else []
theorem qA {x : Ex} (hc : checkI x = 0) : (coZ x.order).length ≤ 262144 := by
 obtain ⟨h1, h2, h3, h4⟩ := uV hc
 have h5 := (wM h4).1
 have h6 := yB x.evs
 have h7 := nQ x.order 64 (fun r hr => Nat.le_trans (order_len h4 hr) h1) x.order.length (Nat.le_refl _)
 unfold coZ
 omega
set_option maxHeartbeats 4000000 in
theorem co_s (x : Ex) (hx : x.fit) : Own E.P 56 [exOV x] 2 ((coF x).map pairO') := by
 unfold coF
 refine fnA Tryz.func56 Tryz.ntmps56 ?_
 refine uB (aoR fun _ => ?_)
 refine q40 ?_; refine q51 (uD ?_); rotate_left
 refine uC ?_
 rename_i v0
 refine wC 1 (v0, 0) 3 [exRow x] (tmL [(1, .d (.pt (exRow x) 0))]) (stL []) rfl (vD rfl (.lo 0 0 _ rfl) wU) (by repeat' (first | exact wU | exact xN | (refine vD rfl (vN ?_) ?_; (first | rfl | (simp; done))) | refine vD rfl (.same _) ?_ | refine vR (by decide) rfl (.same _) ?_)) ?_
 by_cases hc : checkI x = 0
 ·rw [if_pos hc]
  have hln := qA hc
  obtain ⟨h1, h2, h3, h4⟩ := uV hc
  have hsm : smallP (coZ x.order) := fJ h4 (by omega)
  iterate 2 refine uB ?_
  refine aoR fun _ => ?_; refine q33 ?_
  apply uO; exact rfl; exact .fn _ _ _; exact rfl; exact yI _ hx.1 hx.2
  refine q44 (uD (uC ?_)); refine cnd ?_ ?_
  refine xG (fun _ => ?_); (try omega)
  refine xA (fun _ => ?_); (try omega)
  refine uX (uC (uB (aoR fun _ => ?_)))
  apply wY; exact rfl; exact rfl
  apply gH; exact rfl; exact .fn _ _ _; exact rfl; exact gK (.fn _ _ _) _ hsm (by omega) (co1_s x hx)
  apply kT; exact rfl; exact rfl
  refine uD (uC ?_); refine wE ?_; rotate_left
  exact wR (d := 2) rfl rfl rfl rfl
 ·rw [if_neg hc]
  iterate 2 refine uB ?_
  refine aoR fun _ => ?_; refine q33 ?_
  apply uO; exact rfl; exact .fn _ _ _; exact rfl; exact yI _ hx.1 hx.2
  refine q44 (uD (uC ?_)); refine cnd ?_ ?_
  refine xG (fun _ => ?_); (try omega)
  refine uB (aoR fun _ => ?_)
  refine q51 (uD (uC ?_)); refine wE ?_; refine zN ?_; rotate_left
  refine xA (fun _ => ?_); (try omega)
  exact wR (d := 2) rfl rfl rfl rfl
theorem aZ (l : List Int) (a b : Int) : (a, b) ∈ coIn l l.length ↔ ∃ i j, i < j ∧ j < l.length ∧ l.getD i 0 = a ∧ l.getD j 0 = b := by
 unfold coIn
 constructor
 ·intro h
  obtain ⟨i, h1, h2⟩ := List.mem_flatMap.1 h
  obtain ⟨c, h3, h4⟩ := List.mem_map.1 h2
  cases h4
  obtain ⟨k, hk, e⟩ := List.getElem_of_mem h3
  simp at hk
  refine ⟨i, i + 1 + k, by omega, by omega, rfl, ?_⟩
  rw [← e, List.getElem_drop, List.getD_eq_getElem?_getD, List.getElem?_eq_getElem (by omega)]; rfl
 ·rintro ⟨i, j, h1, h2, rfl, rfl⟩
  refine List.mem_flatMap.2 ⟨i, List.mem_range.2 (by omega), List.mem_map.2 ⟨l.getD j 0, ?_, rfl⟩⟩
  rw [List.getD_eq_getElem?_getD, List.getElem?_eq_getElem h2]
  refine List.mem_of_getElem (i := j - (i + 1)) (h := by simp; omega) ?_
  rw [List.getElem_drop, Option.getD_some]
  congr 1; omega
theorem dS (o : List (Sl × List Int)) (p : Int × Int) : p ∈ coZ o ↔ ∃ r, r < o.length ∧ p ∈ coIn (o.getD r default).2 (o.getD r default).2.length := by
 constructor
 ·exact nP
 ·rintro ⟨r, hr, hp⟩
  unfold coZ coTo
  refine List.mem_flatMap.2 ⟨o.getD r default, ?_, hp⟩
  rw [List.take_length, List.getD_eq_getElem?_getD, List.getElem?_eq_getElem hr]
  exact List.getElem_mem _
theorem yM (es : List Ev) (a : Int) (k n : Nat) : (n : Int) ∈ wantTo es a k ↔ n < k ∧ (es.getD n default).stB = true ∧ (es.getD n default).addr = a := by
 unfold wantTo
 constructor
 ·intro h
  obtain ⟨m, h1, h2⟩ := List.mem_map.1 h
  have : m = n := Int.ofNat.inj h2
  subst this
  obtain ⟨h3, h4⟩ := List.mem_filter.1 h1
  simp only [Bool.and_eq_true, beq_iff_eq] at h4
  exact ⟨List.mem_range.1 h3, h4⟩
 ·rintro ⟨h1, h2, h3⟩
  exact List.mem_map.2 ⟨n, List.mem_filter.2 ⟨List.mem_range.2 h1, by simp only [Bool.and_eq_true, beq_iff_eq]; exact ⟨h2, h3⟩⟩, rfl⟩
theorem want_nodupZ (es : List Ev) (a : Int) (k : Nat) : (wantTo es a k).Nodup := by
 unfold wantTo
 exact List.Pairwise.map _ (fun x y h e => h (Int.ofNat.inj e)) (List.Pairwise.filter _ List.nodup_range)
theorem zS {es : List Ev} {ad : List Int} {o : List (Sl × List Int)} (h : orderB es ad o = true) {r : Nat} (hr : r < o.length) : (o.getD r default).2.Nodup := by
 have h1 := ((wM h).2 r hr).1
 have h2 := want_nodupZ es (ad.getD r 0) es.length
 rw [← h1] at h2
 exact (List.mergeSort_perm _ _).nodup_iff.1 h2
theorem iG {l : List Int} (h : l.Nodup) {i j : Nat} (hi : i < l.length) (hj : j < l.length) (e : l.getD i 0 = l.getD j 0) : i = j := by
 rw [List.getD_eq_getElem?_getD, List.getD_eq_getElem?_getD, List.getElem?_eq_getElem hi, List.getElem?_eq_getElem hj] at e
 have e' : l[i] = l[j] := e
 rcases Nat.lt_trichotomy i j with hij | hij | hij
 ·exact (List.pairwise_iff_getElem.1 h i j hi hj hij e').elim
 ·exact hij
 ·exact (List.pairwise_iff_getElem.1 h j i hj hi hij e'.symm).elim
theorem fB {l : List Int} {a : Int} (h : a ∈ l) : ∃ i, i < l.length ∧ l.getD i 0 = a := by
 obtain ⟨i, hi, e⟩ := List.getElem_of_mem h
 exact ⟨i, hi, by rw [List.getD_eq_getElem?_getD, List.getElem?_eq_getElem hi]; exact e⟩
theorem rC {l : List Int} {i : Nat} (h : i < l.length) : l.getD i 0 ∈ l := by
 rw [List.getD_eq_getElem?_getD, List.getElem?_eq_getElem h]
 exact List.getElem_mem _
theorem iH (a : Int) : ∀ (es : List Ev) (l : List Int), a ∈ es.foldl (fun l e => if e.kind = 4 then l else addIn e.addr l) l ↔ a ∈ l ∨ ∃ e ∈ es, e.kind ≠ 4 ∧ e.addr = a
 | [], l => by simp
 | e :: es, l => by
  rw [List.foldl_cons, iH a es]
  by_cases h : e.kind = 4
  ·rw [if_pos h]
   constructor
   ·rintro (h1 | ⟨f, h1, h2⟩)
    ·exact Or.inl h1
    ·exact Or.inr ⟨f, by simp [h1], h2⟩
   ·rintro (h1 | ⟨f, h1, h2, h3⟩)
    ·exact Or.inl h1
    ·rcases List.mem_cons.1 h1 with rfl | h1
     ·exact (h2 h).elim
     ·exact Or.inr ⟨f, h1, h2, h3⟩
  ·rw [if_neg h, bY]
   constructor
   ·rintro ((rfl | h1) | ⟨f, h1, h2⟩)
    ·exact Or.inr ⟨e, by simp, h, rfl⟩
    ·exact Or.inl h1
    ·exact Or.inr ⟨f, by simp [h1], h2⟩
   ·rintro (h1 | ⟨f, h1, h2, h3⟩)
    ·exact Or.inl (Or.inr h1)
    ·rcases List.mem_cons.1 h1 with rfl | h1
     ·exact Or.inl (Or.inl h3.symm)
     ·exact Or.inr ⟨f, h1, h2, h3⟩
theorem fC (es : List Ev) (a : Int) : a ∈ addrsTo es ↔ ∃ e ∈ es, e.kind ≠ 4 ∧ e.addr = a := by
 unfold addrsTo
 rw [iH]
 simp
def both (es : List Ev) (a b : Nat) : Prop := (es.getD a default).stB = true ∧ (es.getD b default).stB = true ∧ (es.getD a default).addr = (es.getD b default).addr
section
variable {es : List Ev} {o : List (Sl × List Int)} (h : orderB es (addrsTo es) o = true)
include h
omit h in
theorem eM {a b : Int} (hp : (a, b) ∈ coZ o) : ∃ r i j, r < o.length ∧ i < j ∧ j < (o.getD r default).2.length ∧ (o.getD r default).2.getD i 0 = a ∧ (o.getD r default).2.getD j 0 = b := by
 obtain ⟨r, hr, h1⟩ := (dS o _).1 hp
 obtain ⟨i, j, h2, h3, h4, h5⟩ := (aZ _ a b).1 h1
 exact ⟨r, i, j, hr, h2, h3, h4, h5⟩
theorem aU {r i : Nat} (hr : r < o.length) (hi : i < (o.getD r default).2.length) {a : Nat} (e : (o.getD r default).2.getD i 0 = a) : a < es.length ∧ (es.getD a default).stB = true ∧ (es.getD a default).addr = (addrsTo es).getD r 0 := by
 have h1 := (wT h hr).1 (rC hi)
 rw [e] at h1
 exact (yM _ _ _ _).1 h1
theorem gZ {r r' : Nat} (hr : r < o.length) (hr' : r' < o.length) (e : (addrsTo es).getD r 0 = (addrsTo es).getD r' 0) : r = r' := by
 have hl := (wM h).1
 have hn : (addrsTo es).Nodup := (yW es).imp fun h => Int.ne_of_lt h
 exact iG hn (by omega) (by omega) e
theorem sJ {a b : Nat} (hp : ((a : Int), (b : Int)) ∈ coZ o) : a < es.length ∧ b < es.length ∧ a ≠ b ∧ both es a b := by
 obtain ⟨r, i, j, hr, h2, h3, h4, h5⟩ := eM hp
 obtain ⟨a1, a2, a3⟩ := aU h hr (by omega) h4
 obtain ⟨b1, b2, b3⟩ := aU h hr h3 h5
 refine ⟨a1, b1, fun e => ?_, a2, b2, a3.trans b3.symm⟩
 subst e
 have := iG (zS h hr) (by omega) h3 (h4.trans h5.symm)
 omega
theorem co_or {a b : Nat} (ha : a < es.length) (hb : b < es.length) (hne : a ≠ b) (hab : both es a b) : ((a : Int), (b : Int)) ∈ coZ o ∨ ((b : Int), (a : Int)) ∈ coZ o := by
 obtain ⟨h1, h2, h3⟩ := hab
 have hm : (es.getD a default).addr ∈ addrsTo es := (fC _ _).2 ⟨es.getD a default, by
  rw [List.getD_eq_getElem?_getD, List.getElem?_eq_getElem ha]; exact List.getElem_mem _, fun e => by
  unfold Ev.stB at h1; rw [e] at h1; simp at h1, rfl⟩
 obtain ⟨r, hr, er⟩ := fB hm
 have hl := (wM h).1
 have hro : r < o.length := by omega
 obtain ⟨i, hi, ei⟩ := fB ((wT h hro).2 ((yM es _ es.length a).2 ⟨ha, h1, er.symm⟩))
 obtain ⟨j, hj, ej⟩ := fB ((wT h hro).2 ((yM es _ es.length b).2 ⟨hb, h2, by rw [← h3, er]⟩))
 rcases Nat.lt_trichotomy i j with hij | hij | hij
 ·exact Or.inl ((dS o _).2 ⟨r, hro, (aZ _ _ _).2 ⟨i, j, hij, hj, ei, ej⟩⟩)
 ·subst hij
  rw [ei] at ej
  exact (hne (by omega)).elim
 ·exact Or.inr ((dS o _).2 ⟨r, hro, (aZ _ _ _).2 ⟨j, i, hij, hi, ej, ei⟩⟩)
end
theorem pS {zs : List Int} {k : Nat} {a b : Int} : (a, b) ∈ rfZ zs k ↔ ∃ n : Nat, n < k ∧ 0 ≤ zs.getD n 0 ∧ a = zs.getD n 0 ∧ b = n := by
 unfold rfZ
 constructor
 ·intro h
  obtain ⟨n, h1, h2⟩ := List.mem_filterMap.1 h
  split at h2
  ·rename_i h0
   cases h2
   exact ⟨n, List.mem_range.1 h1, h0, rfl, rfl⟩
  ·cases h2
 ·rintro ⟨n, h1, h0, rfl, rfl⟩
  exact List.mem_filterMap.2 ⟨n, List.mem_range.2 h1, by rw [if_pos h0]⟩
open Go.RowKit Go.Shelf Go.Maps Go.Sort
set_option maxHeartbeats 1000000 in
theorem out_c (n : Int) (p : Int × Int) (Bn : Nat) (w : World) (hB : Bn < w.heap.size) (hn : w.cell? ⟨Bn, 0, none⟩ = some (.int .i64 n)) :
  Calls Tryz.prog 88 #[.agg #[.int .i64 p.1, .int .i64 p.2], .pointer (some ⟨Bn, 0, none⟩)] w fun e w' => e = .returned (.bool (outB n p)) ∧ Below w.heap.size w w' := by
 obtain ⟨a, b⟩ := p
 unfold outB
 dsimp only
 obtain ⟨res, hres⟩ : ∃ z : Bool, (decide (a < 0) || decide (n ≤ a) || decide (b < 0) || decide (n ≤ b)) = z := ⟨_, rfl⟩
 rw [hres]
 have RES := Lib.hid hres
 clear hres
 have hb0 : Below w.heap.size w (w.alloc (.cells #[.int .i64 a, .int .i64 b] 73)) := (Below.refl _ _).alloc (Nat.le_refl _) _
 cases h1 : decide (a < 0) with
 | true =>
  have F : Hid (true = res) := Lib.hid (by rw [← RES.out, h1]; rfl)
  go_enter Tryz.func88, Tryz.ntmps88
  go_wp2
  go_ret
  exact ⟨uQ F.out, hb0⟩
 | false =>
 cases h2 : decide (n ≤ a) with
 | true =>
  have F : Hid (true = res) := Lib.hid (by rw [← RES.out, h1, h2]; rfl)
  go_enter Tryz.func88, Tryz.ntmps88
  go_wp2
  go_ret
  exact ⟨uQ F.out, hb0⟩
 | false =>
 cases h3 : decide (b < 0) with
 | true =>
  have F : Hid (true = res) := Lib.hid (by rw [← RES.out, h1, h2, h3]; rfl)
  go_enter Tryz.func88, Tryz.ntmps88
  go_wp2
  go_ret
  exact ⟨uQ F.out, hb0⟩
 | false =>
 cases h4 : decide (n ≤ b) with
 | true =>
  have F : Hid (true = res) := Lib.hid (by rw [← RES.out, h1, h2, h3, h4]; rfl)
  go_enter Tryz.func88, Tryz.ntmps88
  go_wp2
  go_ret
  exact ⟨uQ F.out, hb0⟩
 | false =>
  have F : Hid (false = res) := Lib.hid (by rw [← RES.out, h1, h2, h3, h4]; rfl)
  go_enter Tryz.func88, Tryz.ntmps88
  go_wp2
  go_ret
  exact ⟨uQ F.out, hb0⟩
theorem any_take_succ (n : Int) (l : List (Int × Int)) {k : Nat} (hk : k < l.length) : (l.take (k + 1)).any (outB n) = ((l.take k).any (outB n) || outB n (l.getD k (0, 0))) := by
 rw [List.take_succ_eq_append_getElem hk, List.any_append, List.getD_eq_getElem?_getD, List.getElem?_eq_getElem hk]
 simp only [List.any_cons, List.any_nil, Bool.or_false, Option.getD_some]
set_option maxRecDepth 100000 in
set_option maxHeartbeats 1000000 in
theorem index_c (n : Int) (Bn : Nat) (s : Sl) (l : List (Int × Int)) (w : World) (hB : Bn < w.heap.size) (hn : w.cell? ⟨Bn, 0, none⟩ = some (.int .i64 n)) (hl : PairsZ w.heap.size w s l) :
  Calls Tryz.prog 107 #[.slice s.a s.n s.c, .func (.func 88) #[] #[.pointer (some ⟨Bn, 0, none⟩)]] w fun e w' => ∃ r : Int, e = .returned (.int .i64 r) ∧ decide (0 ≤ r) = l.any (outB n) ∧ Below w.heap.size w w' := by
 obtain ⟨a, sn, c⟩ := s
 obtain ⟨h1, h2, h3⟩ := hl
 dsimp only at h1 h3
 subst h1
 have H3 := Lib.hid h3
 have OC := Lib.hid (fun p w hB hn => out_c n p Bn w hB hn)
 clear h3
 go_enter Tryz.func107, Tryz.ntmps107
 go_wp2
 go_loopw [8] (fun i wr => ∃ k : Nat, k ≤ l.length ∧ i = .int .i64 k ∧ (l.take k).any (outB n) = false ∧ Below w.heap.size w wr) (fun i _ => l.length - (intOf i).toNat)
 case atStart => exact ⟨0, by omega, rfl, rfl, Below.refl _ _⟩
 case round =>
  obtain ⟨k, hk, rfl, hto, hbr⟩ := hrel
  have HTO := Lib.hid hto
  clear hto
  by_cases hlt : k < l.length
  ·obtain ⟨b, off, rfl, hbB, hcl⟩ := H3.out.resolve_left (by intro h; rw [h] at hlt; simp at hlt)
   obtain ⟨p, hp⟩ : ∃ p, l.getD k (0, 0) = p := ⟨_, rfl⟩
   have cc := hcl k hlt
   rw [hp] at cc
   have c0 : wr.cell? ⟨b, off + k * 2, none⟩ = some (.int .i64 p.1) := by rw [hbr.cell (p := ⟨b, off + k * 2, none⟩) hbB]; exact cc.1
   have c1 : wr.cell? ⟨b, off + k * 2 + 1, none⟩ = some (.int .i64 p.2) := by rw [hbr.cell (p := ⟨b, off + k * 2 + 1, none⟩) hbB]; exact cc.2
   have HA : Hid ((l.take (k + 1)).any (outB n) = outB n p) := Lib.hid (by rw [any_take_succ n l hlt, HTO.out, hp]; rfl)
   have ctr := Lib.hid (OC.out p wr (by have := hbr.size; omega) ((hbr.cell (p := ⟨Bn, 0, none⟩) hB).trans hn))
   clear hcl cc
   obtain ⟨ob, hob⟩ : ∃ bool_ : Bool, (outB n p) = bool_ := ⟨_, rfl⟩
   have OB := Lib.hid hob
   rw [hob] at ctr
   clear hob hp
   cases ob with
   | true =>
    go_wp2_with (go_at_call 88; refine ctr.out.mono ?_; rintro o w2 ⟨rfl, hb2⟩)
    go_ret
    refine ⟨k, rfl, ?_, hbr.trans (hb2.mono hbr.size)⟩
    have e1 : l.any (outB n) = true := by
     have e2 : (l.take (k + 1)).any (outB n) = true := by rw [HA.out, OB.out]
     rw [List.any_eq_true] at e2 ⊢
     obtain ⟨x, hx, hy⟩ := e2
     exact ⟨x, List.mem_of_mem_take hx, hy⟩
    rw [e1]; simp
   | false =>
    go_wp2_with (go_at_call 88; refine ctr.out.mono ?_; rintro o w2 ⟨rfl, hb2⟩)
    go_roundw
    case rel => first | exact ⟨k + 1, by omega, by go_num, by rw [HA.out, OB.out], hbr.trans (hb2.mono hbr.size)⟩ | ((repeat apply Exists.intro); exact ⟨⟨k + 1, by omega, by go_num, by rw [HA.out, OB.out], hbr.trans (hb2.mono hbr.size)⟩, rfl⟩)
    case measure => simp [intOf]; omega
  ·have hke : k = l.length := by omega
   have e1 : l.any (outB n) = false := by have := HTO.out; rwa [hke, List.take_length] at this
   go_wp2
   go_ret
   exact ⟨-1, rfl, by rw [e1]; rfl, hbr⟩
theorem iU (n : Int) (Bn : Nat) (s : Sl) (l : List (Int × Int)) (w : World) (hB : Bn < w.heap.size) (hn : w.cell? ⟨Bn, 0, none⟩ = some (.int .i64 n)) (hl : PairsZ w.heap.size w s l) :
  Calls Tryz.prog 87 #[.slice s.a s.n s.c, .func (.func 88) #[] #[.pointer (some ⟨Bn, 0, none⟩)]] w fun e w' => e = .returned (.bool (l.any (outB n))) ∧ Below w.heap.size w w' := by
 have ctr := Lib.hid (index_c n Bn s l w hB hn hl)
 obtain ⟨res, hres⟩ : ∃ z : Bool, l.any (outB n) = z := ⟨_, rfl⟩
 rw [hres] at ctr ⊢
 clear hres hl
 go_enter Tryz.func87, Tryz.ntmps87
 go_wp2_with fail
 refine ctr.out.mono ?_; rintro o w2 ⟨r, rfl, hr, hb2⟩
 cases hd : decide (0 ≤ r) with
 | true =>
  go_wp2
  go_ret
  exact ⟨by rw [← hr, hd]; rfl, hb2⟩
 | false =>
  go_wp2
  go_ret
  exact ⟨by rw [← hr, hd]; rfl, hb2⟩
open Go.RowKit Go.Maps
abbrev St := Nat → Nat
def upd (st : St) (a v : Nat) : St := fun i => if i = a then v else st i
def dfsL (f : St → Nat → Bool × St) : St → List Nat → Bool × St
 | st, [] => (true, st)
 | st, b :: r => if (f st b).1 = true then dfsL f (f st b).2 r else (false, (f st b).2)
def dfs (nx : Nat → List Nat) : Nat → St → Nat → Bool × St
 | 0, st, _ => (false, st)
 | n + 1, st, a =>
  if 0 < st a then (st a == 2, st) else
   if (dfsL (dfs nx n) (upd st a 1) (nx a)).1 = true then (true, upd (dfsL (dfs nx n) (upd st a 1) (nx a)).2 a 2) else (false, (dfsL (dfs nx n) (upd st a 1) (nx a)).2)
def whites : Nat → St → Nat
 | 0, _ => 0
 | n + 1, st => whites n st + (if st n = 0 then 1 else 0)
theorem zM (a v : Nat) (st : St) (hv : v ≠ 0) : ∀ n, whites n (upd st a v) ≤ whites n st
 | 0 => Nat.le_refl _
 | n + 1 => by
  have := zM a v st hv n
  unfold whites upd
  unfold upd at this
  by_cases h : n = a
  ·rw [if_pos h, if_neg hv]; omega
  ·rw [if_neg h]; omega
theorem zL (a v : Nat) (st : St) (hv : v ≠ 0) (h0 : st a = 0) : ∀ n, a < n → whites n (upd st a v) + 1 ≤ whites n st
 | 0, h => by omega
 | n + 1, h => by
  unfold whites
  by_cases hn : n = a
  ·have := zM a v st hv n
   have e1 : upd st a v n = v := by unfold upd; rw [if_pos hn]
   rw [e1, if_neg hv, hn, h0]
   rw [hn] at this
   simp
   omega
  ·have := zL a v st hv h0 n (by omega)
   have e1 : upd st a v n = st n := by unfold upd; rw [if_neg hn]
   rw [e1]; omega
def Reads (D : DataW Unit) (st : St) : Prop := ∀ i : Nat, i < 64 → D.atKey (.int .i64 (i : Int)) (.lit (.int .i64 0)) = .lit (.int .i64 (st i : Int))
theorem Reads.upd {D : DataW Unit} {st : St} (h : Reads D st) (hm : IsMap D) (a v : Nat) : Reads (D.put (.int .i64 (a : Int)) (.lit (.int .i64 (v : Int)))) (upd st a v) := by
 intro i hi
 unfold Go.Proofs.YtnkocjkkefnelaaGreat.upd
 by_cases he : i = a
 ·subst he
  rw [if_pos rfl]
  exact atKey_put_same hm (show WideAt.IsKeyLit (Lit.int .i64 (i : Int)) from trivial) _ _
 ·rw [if_neg he, atKey_put_other (by intro e; injection e with _ e2; omega)]
  exact h i hi
theorem nE : Keyed Tryz.prog 3 := int_keyed Tryz.underlying3
theorem nF {i : Nat} (h : i < 64) : keyOf Tryz.prog 3 (.int .i64 (i : Int)) = some (.int .i64 (i : Int)) := keyOf_int_mk Tryz.underlying3 (by
 simp only [Lit.wf, Bool.and_eq_true, decide_eq_true_eq]
 have e1 : IntKind.i64.min = -9223372036854775808 := by decide
 have e2 : IntKind.i64.max = 9223372036854775807 := by decide
 omega)
theorem wfI {v : Nat} (h : v ≤ 2) : (Lit.int .i64 (v : Int)).wf = true := by
 simp only [Lit.wf, Bool.and_eq_true, decide_eq_true_eq]
 have e1 : IntKind.i64.min = -9223372036854775808 := by decide
 have e2 : IntKind.i64.max = 9223372036854775807 := by decide
 omega
theorem xK {P : Program} (w : World) {ops : Array Oper} {rest : List Oper} {o : Oper} {a : Act} {Q : Exit → Act → World → Prop}
  (hg : o.guard = none) (m x : Operand) (t : TypeId) (hop : o.op = Op.lookup t m x false) (mv key v : Value) (hm : a.eval m = mv) (hx : a.eval x = key) (hrun : (Instr.lookup t mv key false).run P w = .ok v w)
  (hK : wpList P ops Q rest (a.put o.dst v) w) : wpList P ops Q (o :: rest) a w := by
 refine wpList_plain hg fun K' hK' => ?_
 unfold Oper.wp
 simp [execOp, hop, hm, hx, hrun, Result.andThen]
 exact hK' _ _ hK
structure Ground (nx : Nat → List Nat) (w0 : World) (Bs Bt Bc ms mt : Nat) : Prop where
 h8 : w0.cell? ⟨Bs, 0, none⟩ = some (.map (some ms))
 h5 : w0.cell? ⟨Bt, 0, none⟩ = some (.map (some mt))
 h9 : w0.cell? ⟨Bc, 0, none⟩ = some (.func (.func 89) #[] #[.pointer (some ⟨Bs, 0, none⟩), .pointer (some ⟨Bt, 0, none⟩), .pointer (some ⟨Bc, 0, none⟩)])
 ns : Bs ≠ ms
 nt : Bt ≠ ms
 nc : Bc ≠ ms
 nm : mt ≠ ms
 lm : mt < w0.heap.size
 rng : ∀ a : Nat, a < 64 → ∀ b ∈ nx a, b < 64
 len : ∀ a : Nat, (nx a).length ≤ 1152921504606846976
 adj : ∀ a : Nat, a < 64 → ∃ s : Sl, (∀ w' : World, w'.heap[mt]? = w0.heap[mt]? → (Instr.lookup 112 (.map (some mt)) (.int .i64 (a : Int)) false).run Tryz.prog w' = .ok (.slice s.a s.n s.c) w') ∧ s.n = (nx a).length ∧
  (nx a = [] ∨ ∃ b off, s.a = some ⟨b, off, none⟩ ∧ b ≠ ms ∧ ∀ k, k < (nx a).length → w0.cell? ⟨b, off + k, none⟩ = some (.int .i64 ((nx a).getD k 0 : Int)))
def At (w0 : World) (ms : Nat) (M : Nat) (st : St) (w : World) : Prop :=
 w0.grownBy w (some ms) ∧ (∀ i, st i ≤ 2) ∧ ∃ (nn : Nat) (D : DataW Unit), w.ownsMap Tryz.prog 3 (plainElem Tryz.prog 3) ms nn D ∧ Reads D st ∧ nn + 2 * whites 64 st ≤ M
theorem kK (F : St → Nat → Bool × St) (st : St) (l : List Nat) {k : Nat} (hk : k < l.length) : dfsL F st (l.drop k) = if (F st (l.getD k 0)).1 = true then dfsL F (F st (l.getD k 0)).2 (l.drop (k + 1)) else (false, (F st (l.getD k 0)).2) := by
 rw [List.drop_eq_getElem_cons hk, List.getD_eq_getElem?_getD, List.getElem?_eq_getElem hk]
 rfl
theorem look8 {w : World} {ms nn : Nat} {D : DataW Unit} {st : St} (hown : w.ownsMap Tryz.prog 3 (plainElem Tryz.prog 3) ms nn D) (hR : Reads D st) {a : Nat} (ha : a < 64) :
  (Instr.lookup 78 (.map (some ms)) (.int .i64 (a : Int)) false).run Tryz.prog w = .ok (.int .i64 (st a : Int)) w := by
 obtain ⟨c, hrun, hat, _⟩ := hown.lookup_int nE Tryz.underlying78 Tryz.underlying3 (sF _) (nF ha)
 rw [hR a ha] at hat
 simp only [DataW.lit.injEq, Lit.int.injEq, true_and] at hat
 rw [hat]; exact hrun
set_option maxRecDepth 100000 in
set_option maxHeartbeats 2000000 in
theorem dfs_c (nx : Nat → List Nat) (w0 : World) (Bs Bt Bc ms mt : Nat) (G : Ground nx w0 Bs Bt Bc ms mt) : ∀ (f : Nat) (st : St) (a : Nat) (w : World) (M : Nat), a < 64 → whites 64 st < f → At w0 ms M st w → M ≤ 1000 →
  Calls Tryz.prog 89 #[.int .i64 (a : Int), .pointer (some ⟨Bs, 0, none⟩), .pointer (some ⟨Bt, 0, none⟩), .pointer (some ⟨Bc, 0, none⟩)] w fun e w' => e = .returned (.bool (dfs nx f st a).1) ∧ At w0 ms M (dfs nx f st a).2 w' ∧ whites 64 (dfs nx f st a).2 ≤ whites 64 st := by
 intro f
 induction f with
 | zero => intro st a w M _ h; exact absurd h (Nat.not_lt_zero _)
 | succ f ih =>
  intro st a w M ha hw hAt hM
  have AT := Lib.hid hAt
  obtain ⟨hg, h2, nn, D, hown, hR, hMw⟩ := hAt
  have hrun8 := look8 hown hR ha
  have c8 := hg.cell G.h8 (by intro e; injection e with e; exact G.ns e)
  have GR := Lib.hid G
  by_cases h0 : 0 < st a
  ·have hd : dfs nx (f + 1) st a = (st a == 2, st) := by unfold dfs; rw [if_pos h0]
   rw [hd]
   obtain ⟨v, hv⟩ : ∃ v, st a = v := ⟨_, rfl⟩
   rw [hv] at hrun8 h0 ⊢
   have h0z : (0 : Int) < (v : Int) := by omega
   have e1 : ((v : Int) == 2) = (v == 2) := by
    by_cases h : v = 2
    ·subst h; rfl
    ·rw [beq_eq_false_iff_ne.2 h, beq_eq_false_iff_ne.2 (by omega)]
   have E1 := Lib.hid e1
   clear e1 hv hd ih hown hR hg G
   go_enter Tryz.func89, Tryz.ntmps89
   go_wp2_with (first | (at_lookup; refine xK _ rfl _ _ 78 rfl _ _ _ rfl rfl hrun8 ?_) | go_in)
   go_ret
   exact ⟨by first | (rw [← E1.out]; rfl) | (rw [← E1.out]), AT.out, Nat.le_refl _⟩
  ·have h00 : st a = 0 := by omega
   rw [h00] at hrun8
   have hwu := zL a 1 st (by omega) h00 64 ha
   have hM1 : 1 ≤ M := by omega
   obtain ⟨l, hl⟩ : ∃ l, nx a = l := ⟨_, rfl⟩
   obtain ⟨⟨va, vn, vc⟩, hlk, hvn, hrow⟩ := G.adj a ha
   dsimp only at hlk hvn hrow
   rw [hl] at hvn hrow
   subst hvn
   have hlen := G.len a
   have hrng := G.rng a ha
   rw [hl] at hlen hrng
   have DF : Hid (dfs nx (f + 1) st a = if (dfsL (dfs nx f) (upd st a 1) l).1 = true then (true, upd (dfsL (dfs nx f) (upd st a 1) l).2 a 2) else (false, (dfsL (dfs nx f) (upd st a 1) l).2)) := Lib.hid (by rw [← hl]; show (if 0 < st a then _ else _) = _; rw [if_neg h0])
   have HLK := Lib.hid hlk
   have HROW := Lib.hid hrow
   have HRNG := Lib.hid hrng
   have IH := Lib.hid ih
   have HW := Lib.hid hw
   have HR := Lib.hid hR
   have h00z : ¬ ((0 : Int) < ((0 : Nat) : Int)) := by omega
   clear ih hw hl hlk hrow hrng hR h0 h00 G
   go_enter Tryz.func89, Tryz.ntmps89
   go_upto_region 4 with (first
    | (at_lookup; refine xK _ rfl _ _ 78 rfl _ _ _ rfl rfl hrun8 ?_)
    | (at_mapUpdate; refine wpList_mapUpdate_own _ rfl _ _ _ 78 rfl 3 3 nE Tryz.underlying78 _ ms nn _ rfl hown (by unfold maxLen; omega) _ _ _ rfl rfl (nF ha) _ [] (plainElem_int Tryz.underlying3 (wfI (v := 1) (by omega))) ?_; intro w1 hown1 hgrow1)
    | go_in)
   have hg1 := hg.trans hgrow1
   have d5 := hg1.cell GR.out.h5 (by intro e; injection e with e; exact GR.out.nt e)
   have hrun5 := HLK.out w1 (hg1.block mt GR.out.lm (by intro e; injection e with e; exact GR.out.nm e))
   have AT1 : Hid (At w0 ms (M - 1) (upd st a 1) w1) := Lib.hid ⟨hg1, fun i => by unfold upd; split; omega; exact h2 i, nn + 1, _, hown1, HR.out.upd hown.isMap a 1, by omega⟩
   have HW1 : Hid (whites 64 (upd st a 1) < f) := Lib.hid (by have := HW.out; omega)
   obtain ⟨st1, hst1⟩ : ∃ s, upd st a 1 = s := ⟨_, rfl⟩
   rw [hst1] at DF AT1 HW1 hwu
   clear hst1 hown1 hgrow1 hown hrun8 hg hMw h2 HR
   go_wp2_with (first | (at_lookup; refine xK _ rfl _ _ 112 rfl _ _ _ rfl rfl hrun5 ?_) | go_in)
   go_loopw [22] (fun i wr => ∃ (k : Nat) (stk : St), k ≤ l.length ∧ i = .int .i64 k ∧ At w0 ms (M - 1) stk wr ∧ whites 64 stk ≤ whites 64 st1 ∧ dfsL (dfs nx f) stk (l.drop k) = dfsL (dfs nx f) st1 l) (fun i _ => l.length - (intOf i).toNat)
   case atStart => exact ⟨0, st1, by omega, rfl, AT1.out, Nat.le_refl _, rfl⟩
   case round =>
    obtain ⟨k, stk, hk, rfl, hAtk, hwk, hL⟩ := hrel
    have hgk := hAtk.1
    have c9 := hgk.cell GR.out.h9 (by intro e; injection e with e; exact GR.out.nc e)
    have c8k := hgk.cell GR.out.h8 (by intro e; injection e with e; exact GR.out.ns e)
    have ATK := Lib.hid hAtk
    have HL := Lib.hid hL
    clear hL hAtk d5 hrun5
    by_cases hlt : k < l.length
    ·obtain ⟨b, off, rfl, hbm, hcl⟩ := HROW.out.resolve_left (by intro h; rw [h] at hlt; simp at hlt)
     obtain ⟨y, hy⟩ : ∃ y, l.getD k 0 = y := ⟨_, rfl⟩
     have cy : wr.cell? ⟨b, off + k, none⟩ = some (.int .i64 (y : Int)) := by rw [← hy]; exact hgk.cell (hcl k hlt) (by intro e; injection e with e; exact hbm e)
     have hy64 : y < 64 := HRNG.out y (by rw [← hy, List.getD_eq_getElem?_getD, List.getElem?_eq_getElem hlt]; exact List.getElem_mem hlt)
     have HD : Hid (dfsL (dfs nx f) stk (l.drop k) = if (dfs nx f stk y).1 = true then dfsL (dfs nx f) (dfs nx f stk y).2 (l.drop (k + 1)) else (false, (dfs nx f stk y).2)) := Lib.hid (by rw [kK _ _ _ hlt, hy])
     have ctr := Lib.hid (IH.out stk y wr (M - 1) hy64 (by have := HW1.out; omega) ATK.out (by omega))
     obtain ⟨⟨r, stn⟩, hr⟩ : ∃ r, dfs nx f stk y = r := ⟨_, rfl⟩
     rw [hr] at ctr HD
     clear hr hy hcl
     cases r with
     | true =>
      go_wp2_with (go_at_call 89; refine ctr.out.mono ?_; rintro o w2 ⟨rfl, hAt2, hw2⟩)
      go_roundw
      case rel => first | exact ⟨k + 1, stn, by omega, by go_num, hAt2, Nat.le_trans hw2 hwk, by rw [← HL.out, HD.out]; rfl⟩ | ((repeat apply Exists.intro); exact ⟨⟨k + 1, stn, by omega, by go_num, hAt2, Nat.le_trans hw2 hwk, by rw [← HL.out, HD.out]; rfl⟩, rfl⟩)
      case measure => simp [intOf]; omega
     | false =>
      have FD : Hid (dfs nx (f + 1) st a = (false, stn)) := Lib.hid (by rw [DF.out, ← HL.out, HD.out]; rfl)
      go_wp2_with (go_at_call 89; refine ctr.out.mono ?_; rintro o w2 ⟨rfl, hAt2, hw2⟩)
      go_ret
      obtain ⟨x1, x2, nn2, D2, x3, x4, x5⟩ := hAt2
      refine ⟨by rw [FD.out]; rfl, by rw [FD.out]; exact ⟨x1, x2, nn2, D2, x3, x4, by dsimp only at x5 ⊢; omega⟩, by rw [FD.out]; dsimp only at hw2 ⊢; omega⟩
    ·have hke : k = l.length := by omega
     have HE : Hid (dfsL (dfs nx f) st1 l = (true, stk)) := Lib.hid (by rw [← HL.out, hke, List.drop_length]; rfl)
     have FD : Hid (dfs nx (f + 1) st a = (true, upd stk a 2)) := Lib.hid (by rw [DF.out, HE.out]; rfl)
     obtain ⟨_, x2, nn2, D2, x3, x4, x5⟩ := ATK.out
     have hnl : ¬ ((k : Int) < (l.length : Int)) := by omega
     go_wp2_with (first
      | (at_mapUpdate; refine wpList_mapUpdate_own _ rfl _ _ _ 78 rfl 3 3 nE Tryz.underlying78 _ ms nn2 _ rfl x3 (by unfold maxLen; omega) _ _ _ rfl rfl (nF ha) _ [] (plainElem_int Tryz.underlying3 (wfI (v := 2) (by omega))) ?_; intro w3 hown3 hgrow3)
      | go_in)
     go_ret
     have hwz := zM a 2 stk (by omega) 64
     refine ⟨by rw [FD.out]; rfl, by rw [FD.out]; exact ⟨hgk.trans hgrow3, fun i => by show upd stk a 2 i ≤ 2; unfold upd; split; omega; exact x2 i, nn2 + 1, _, hown3, x4.upd x3.isMap a 2, by show nn2 + 1 + 2 * whites 64 (upd stk a 2) ≤ M; omega⟩, by rw [FD.out]; show whites 64 (upd stk a 2) ≤ _; omega⟩
end Go.Proofs.YtnkocjkkefnelaaGreat
