/- Parts. -/
import Derived.Test.YtnkocjkkefnelaaGreatPn6
import Derived.Test.YtnkocjkkefnelaaGreatPn8
import Derived.Test.YtnkocjkkefnelaaGreatPn19
import Derived.Test.YtnkocjkkefnelaaGreatPn25
set_option linter.unusedVariables false
set_option linter.unusedSimpArgs false
set_option maxHeartbeats 4000000
set_option maxHeartbeats 4000000
set_option maxRecDepth 100000
set_option pp.deepTerms true
set_option pp.maxSteps 1000000
namespace Go.Proofs.YtnkocjkkefnelaaGreat
open Go.RowKit
set_option maxHeartbeats 4000000 in
theorem po1_s (x : Ex) (hx : x.evs.length ≤ 65536) : SeqW E.P 86 [] [.d (.pt (exRow x) 0)] (pairYs (poZ x)) := by
 intro Y k τ J m st hm h1 h2 hnd hbig hy l0 hl0
 have hlen : (pairYs (poZ x)).length = (poZ x).length := by simp [pairYs]
 rw [hlen] at hm h1
 refine xT Tryz.func86 (by decide) rfl Tryz.ntmps86 (Nat.le_of_ble_eq_true rfl) rfl ?_
 refine run ?_; refine aoR fun _ => ?_
 refine run ?_; rotate_left
 refine vJ (X := Nat × Rows) (fun p => tmL [(0, .yl k τ), (1, .d (.pt (exRow x) 0)), (7, .int .i64 x.evs.length), (8, .int .i64 p.1), (GS, .gh (poTo x p.1).length Y)]) (fun p => stL p.2)
  (fun p => p.1 ≤ x.evs.length ∧ J (poTo x p.1).length p.2 ∧ (st = true → (poTo x p.1).length < m)) (fun p => x.evs.length - p.1) (0, l0) ⟨Nat.zero_le _, hl0, h2⟩ leP (fun _ _ h => h) ?_
 rintro ⟨a, l⟩ ⟨ha, hJ, hst⟩
 dsimp only at ha hJ hst ⊢
 by_cases hlt : a < x.evs.length
 rotate_left
 ·have hbe : a = x.evs.length := by omega
  subst hbe
  have hme : (poTo x x.evs.length).length = m := by
   cases st with
   | true => have h9 := hst rfl; have h8 : (poZ x).length = (poTo x x.evs.length).length := rfl; omega
   | false => exact (h1 rfl).symm
  rw [hme] at hJ ⊢
  refine run ?_; refine aoR fun _ => ?_
  refine run ?_; refine cnd ?_ ?_
  refine uN fun _ => ?_; try omega
  refine uR fun _ => ?_; try omega
  refine run ?_; rotate_left
  exact ⟨Or.inl rfl, rfl, l, hJ, fun _ _ h => h⟩
 refine run ?_; refine aoR fun _ => ?_
 refine run ?_; refine cnd ?_ ?_
 refine uN fun _ => ?_; try omega
 refine run ?_; refine aoR fun _ => ?_
 refine run ?_; refine aoR fun _ => ?_
 refine run ?_; rotate_left
 refine uR fun _ => ?_; try omega
 rw [← jX] at hJ hst
 refine vJ (X := Nat × Rows) (fun p => tmL [(0, .yl k τ), (1, .d (.pt (exRow x) 0)), (7, .int .i64 x.evs.length), (8, .int .i64 a), (3, .int .i64 a), (4, .int .i64 p.1), (GS, .gh (poAt x a p.1).length Y)]) (fun p => stL p.2)
  (fun p => a < p.1 ∧ p.1 ≤ x.evs.length ∧ J (poAt x a p.1).length p.2 ∧ (st = true → (poAt x a p.1).length < m)) (fun p => x.evs.length - p.1) (a + 1, l) ⟨Nat.lt_succ_self a, hlt, hJ, hst⟩ (by dsimp only; rw [jX]; exact leP) (fun _ _ h => h) ?_
 clear hJ hst l
 rintro ⟨b, l⟩ ⟨hab, hb, hJ, hst⟩
 dsimp only at hab hb hJ hst ⊢
 by_cases hlt2 : b < x.evs.length
 rotate_left
 ·have hbe : b = x.evs.length := by omega
  subst hbe
  rw [poAt_end] at hJ hst ⊢
  refine run ?_; refine aoR fun _ => ?_
  refine run ?_; refine cnd ?_ ?_
  refine uN fun _ => ?_; try omega
  refine uR fun _ => ?_; try omega
  refine run ?_; refine aoR fun _ => ?_
  refine run ?_; rotate_left
  exact ⟨(a + 1, l), ⟨show a + 1 ≤ _ by omega, hJ, hst⟩, show x.evs.length - (a + 1) < x.evs.length - a by omega, leP, fun _ _ h => h⟩
 have ha1 : a < x.evs.length := hlt
 by_cases hpo : isPo x a b = true
 ·obtain ⟨q, hq⟩ := poAt_in hlt hlt2 hpo
  obtain ⟨hlm, hY⟩ := gY h1 hy hq hst hJ
  have hp1 : 0 ≤ (x.evs.getD a default).hart ∧ (x.evs.getD a default).hart = (x.evs.getD b default).hart := by
   unfold isPo at hpo
   simp only [Bool.and_eq_true, decide_eq_true_eq] at hpo
   exact ⟨hpo.1.2, hpo.2⟩
  obtain ⟨hp1, hp2⟩ := hp1
  have hlen1 : (poAt x a (b + 1)).length = (poAt x a b).length + 1 := by rw [mT hpo]; simp
  rcases Bool.eq_false_or_eq_true (!(st && (poAt x a b).length + 1 == m)) with hans | hans
  ·rw [hans] at hY
   refine uK ?_; refine aoR fun _ => ?_
   refine uK ?_; refine cnd ?_ ?_
   refine uN fun _ => ?_; try omega
   refine uK ?_
   apply qX (E := E) 27; exact rfl; exact rfl; decide +kernel; decide +kernel; (intro _); (simp only [List.take_succ_cons, List.take_zero, List.drop_succ_cons, List.drop_zero])
   refine uK ?_
   apply uA; exact rfl; exact rfl
   refine uN fun _ => ?_; try omega
   refine uK ?_
   apply uA; exact rfl; exact rfl
   refine uI ?_; refine uK ?_
   apply uA; exact rfl; exact rfl
   refine uI ?_; refine uK ?_
   apply uA; exact rfl; exact rfl
   refine uI ?_; refine uK ?_
   apply uA; exact rfl; exact rfl
   refine uI ?_; refine uK ?_
   apply uA; exact rfl; exact rfl
   refine uI ?_; refine uK ?_
   apply uA; exact rfl; exact rfl
   refine uI ?_; refine uK ?_
   apply uA; exact rfl; exact rfl
   refine uI ?_; refine uK ?_
   apply uA; exact rfl; exact rfl
   refine uI ?_; refine uK ?_
   apply uA; exact rfl; exact rfl
   refine uI ?_; refine uK ?_
   apply uA; exact rfl; exact rfl
   refine uI ?_; refine uK ?_
   apply uA; exact rfl; exact rfl
   refine uI ?_; refine uK ?_
   apply uA; exact rfl; exact rfl
   refine uI ?_; refine uK ?_
   apply uA; exact rfl; exact rfl
   refine yU ?_; refine uI ?_
   refine uN fun _ => ?_; try omega
   refine uK ?_
   apply uA; exact rfl; exact rfl
   refine uI ?_; refine uK ?_
   apply uA; exact rfl; exact rfl
   refine uI ?_; refine uK ?_
   apply uA; exact rfl; exact rfl
   refine uI ?_; refine uK ?_
   ((first | (apply cF; exact rfl; exact rfl; exact rfl; exact hY; exact (fun _ _ h => h); exact hnd _; decide +kernel; exact rfl; (intro l1 hl1)) | (refine gQ (by decide +kernel) ?_)))
   apply uA; exact rfl; exact rfl
   refine uI ?_; refine uK ?_
   ((first | (apply cF; exact rfl; exact rfl; exact rfl; exact hY; exact (fun _ _ h => h); exact hnd _; decide +kernel; exact rfl; (intro l1 hl1)) | (refine gQ (by decide +kernel) ?_)))
   refine uK ?_; refine cnd ?_ ?_; refine yU ?_; refine uI ?_; refine aM ?_
   exact vV
   refine xZ (fun hc_ => ?_); (try simp only [nrm] at hc_)
   refine uK ?_; refine aoR fun _ => ?_
   refine uK ?_; rotate_left
   iterate 4 exact vV
   refine xZ (fun hc_ => ?_); (try simp only [nrm] at hc_)
   apply uA; exact rfl; exact rfl
   exact uG
   refine uF ?_
   apply uA; exact rfl; exact rfl
   exact uG
   refine uF ?_
   apply uA; exact rfl; exact rfl
   exact uG
   refine uF ?_; rotate_left
   iterate 12 exact vV
   refine uR fun _ => ?_; try omega
   apply uA; exact rfl; exact rfl
   exact uG
   refine uF ?_
   apply uA; exact rfl; exact rfl
   exact uG
   refine uF ?_
   apply uA; exact rfl; exact rfl
   exact uG
   refine uF ?_
   apply uA; exact rfl; exact rfl
   exact uG
   refine uF ?_
   apply uA; exact rfl; exact rfl
   exact uG
   refine uF ?_
   apply uA; exact rfl; exact rfl
   exact uG
   refine uF ?_
   apply uA; exact rfl; exact rfl
   exact uG
   refine uF ?_
   apply uA; exact rfl; exact rfl
   exact uG
   refine uF ?_
   apply uA; exact rfl; exact rfl
   exact uG
   refine uF ?_
   apply uA; exact rfl; exact rfl
   exact uG
   refine uF ?_
   apply uA; exact rfl; exact rfl
   exact uG
   refine uF ?_
   apply uA; exact rfl; exact rfl
   exact uG
   refine uF ?_; refine uK ?_
   apply uA; exact rfl; exact rfl
   exact uG
   refine uF ?_
   apply uA; exact rfl; exact rfl
   exact uG
   refine uF ?_
   apply uA; exact rfl; exact rfl
   exact uG
   refine uF ?_
   apply uA; exact rfl; exact rfl
   exact uG
   refine uF ?_; rotate_left
   refine uR fun _ => ?_; try omega
   ·refine ⟨(b + 1, l1), ⟨show a < b + 1 by omega, show b + 1 ≤ _ by omega, ?_, ?_⟩, show x.evs.length - (b + 1) < x.evs.length - b by omega, ?_, zQ (hnd _ _ hl1)⟩
    ·dsimp only; rw [hlen1]; exact hl1
    ·dsimp only; rw [hlen1]; exact lG hlm hans
    ·dsimp only; rw [hlen1]; exact leP
   ·exfalso
    simp only [Int.toNat_natCast] at hc_
    rcases hc_ with h9 | h9
    ·cases h9
    ·exact h9 hp2
   ·exfalso
    simp only [Int.toNat_natCast] at *
    contradiction
  ·rw [hans] at hY
   rw [dO hans] at hY
   refine uK ?_; refine aoR fun _ => ?_
   refine uK ?_; refine cnd ?_ ?_
   refine uN fun _ => ?_; try omega
   refine uK ?_
   apply qX (E := E) 27; exact rfl; exact rfl; decide +kernel; decide +kernel; (intro _); (simp only [List.take_succ_cons, List.take_zero, List.drop_succ_cons, List.drop_zero])
   refine uK ?_
   apply uA; exact rfl; exact rfl
   refine uN fun _ => ?_; try omega
   refine uK ?_
   apply uA; exact rfl; exact rfl
   refine uI ?_; refine uK ?_
   apply uA; exact rfl; exact rfl
   refine uI ?_; refine uK ?_
   apply uA; exact rfl; exact rfl
   refine uI ?_; refine uK ?_
   apply uA; exact rfl; exact rfl
   refine uI ?_; refine uK ?_
   apply uA; exact rfl; exact rfl
   refine uI ?_; refine uK ?_
   apply uA; exact rfl; exact rfl
   refine uI ?_; refine uK ?_
   apply uA; exact rfl; exact rfl
   refine uI ?_; refine uK ?_
   apply uA; exact rfl; exact rfl
   refine uI ?_; refine uK ?_
   apply uA; exact rfl; exact rfl
   refine uI ?_; refine uK ?_
   apply uA; exact rfl; exact rfl
   refine uI ?_; refine uK ?_
   apply uA; exact rfl; exact rfl
   refine uI ?_; refine uK ?_
   apply uA; exact rfl; exact rfl
   refine uI ?_; refine uK ?_
   apply uA; exact rfl; exact rfl
   refine yU ?_; refine uI ?_
   refine uN fun _ => ?_; try omega
   refine uK ?_
   apply uA; exact rfl; exact rfl
   refine uI ?_; refine uK ?_
   apply uA; exact rfl; exact rfl
   refine uI ?_; refine uK ?_
   apply uA; exact rfl; exact rfl
   refine uI ?_; refine uK ?_
   ((first | (apply cF; exact rfl; exact rfl; exact rfl; exact hY; exact (fun _ _ h => h); exact hnd _; decide +kernel; exact rfl; (intro l1 hl1)) | (refine gQ (by decide +kernel) ?_)))
   apply uA; exact rfl; exact rfl
   refine uI ?_; refine uK ?_
   ((first | (apply cF; exact rfl; exact rfl; exact rfl; exact hY; exact (fun _ _ h => h); exact hnd _; decide +kernel; exact rfl; (intro l1 hl1)) | (refine gQ (by decide +kernel) ?_)))
   refine uK ?_; refine cnd ?_ ?_
   refine yS (fun hc_ => ?_); (try simp only [nrm] at hc_)
   refine uK ?_; rotate_left
   refine yT ?_
   iterate 5 exact vV
   refine xZ (fun hc_ => ?_); (try simp only [nrm] at hc_)
   apply uA; exact rfl; exact rfl
   exact uG
   refine uF ?_
   apply uA; exact rfl; exact rfl
   exact uG
   refine uF ?_
   apply uA; exact rfl; exact rfl
   exact uG
   refine uF ?_; rotate_left
   iterate 12 exact vV
   refine uR fun _ => ?_; try omega
   apply uA; exact rfl; exact rfl
   exact uG
   refine uF ?_
   apply uA; exact rfl; exact rfl
   exact uG
   refine uF ?_
   apply uA; exact rfl; exact rfl
   exact uG
   refine uF ?_
   apply uA; exact rfl; exact rfl
   exact uG
   refine uF ?_
   apply uA; exact rfl; exact rfl
   exact uG
   refine uF ?_
   apply uA; exact rfl; exact rfl
   exact uG
   refine uF ?_
   apply uA; exact rfl; exact rfl
   exact uG
   refine uF ?_
   apply uA; exact rfl; exact rfl
   exact uG
   refine uF ?_
   apply uA; exact rfl; exact rfl
   exact uG
   refine uF ?_
   apply uA; exact rfl; exact rfl
   exact uG
   refine uF ?_
   apply uA; exact rfl; exact rfl
   exact uG
   refine uF ?_
   apply uA; exact rfl; exact rfl
   exact uG
   refine uF ?_; refine uK ?_
   apply uA; exact rfl; exact rfl
   exact uG
   refine uF ?_
   apply uA; exact rfl; exact rfl
   exact uG
   refine uF ?_
   apply uA; exact rfl; exact rfl
   exact uG
   refine uF ?_
   apply uA; exact rfl; exact rfl
   exact uG
   refine uF ?_; rotate_left
   refine uR fun _ => ?_; try omega
   ·exact ⟨Or.inr rfl, rfl, l1, hl1, zQ (hnd _ _ hl1)⟩
   ·exfalso
    simp only [Int.toNat_natCast] at hc_
    rcases hc_ with h9 | h9
    ·cases h9
    ·exact h9 hp2
   ·exfalso
    simp only [Int.toNat_natCast] at *
    contradiction
 ·have hlen1 : poAt x a (b + 1) = poAt x a b := poAt_no hpo
  refine uK ?_; refine aoR fun _ => ?_
  refine uK ?_; refine cnd ?_ ?_
  refine uN fun _ => ?_; try omega
  refine uK ?_
  refine vF (E := E) ?_ (fun _ => ?_); exact rfl
  refine uK ?_
  apply uA; exact rfl; exact rfl
  refine uN fun _ => ?_; try omega
  refine uK ?_
  apply uA; exact rfl; exact rfl
  refine uI ?_; refine uK ?_
  apply uA; exact rfl; exact rfl
  refine uI ?_; refine uK ?_
  apply uA; exact rfl; exact rfl
  refine uI ?_; refine uK ?_
  apply uA; exact rfl; exact rfl
  refine uI ?_; refine uK ?_
  apply uA; exact rfl; exact rfl
  refine uI ?_; refine uK ?_
  apply uA; exact rfl; exact rfl
  refine uI ?_; refine uK ?_
  apply uA; exact rfl; exact rfl
  refine uI ?_; refine uK ?_
  apply uA; exact rfl; exact rfl
  refine uI ?_; refine uK ?_
  apply uA; exact rfl; exact rfl
  refine uI ?_; refine uK ?_
  apply uA; exact rfl; exact rfl
  refine uI ?_; refine uK ?_
  apply uA; exact rfl; exact rfl
  refine uI ?_; refine uK ?_
  apply uA; exact rfl; exact rfl
  refine uI ?_; refine uK ?_
  apply uA; exact rfl; exact rfl
  refine yU ?_; refine uI ?_
  refine uN fun _ => ?_; try omega
  refine uK ?_
  apply uA; exact rfl; exact rfl
  refine uI ?_; refine uK ?_
  apply uA; exact rfl; exact rfl
  refine uI ?_; refine uK ?_
  apply uA; exact rfl; exact rfl
  refine uI ?_; refine uK ?_
  apply uA; exact rfl; exact rfl
  refine uI ?_; rotate_left
  iterate 4 exact vV
  refine xZ (fun hc_ => ?_); (try simp only [nrm] at hc_)
  apply uA; exact rfl; exact rfl
  exact uG
  refine uF ?_
  apply uA; exact rfl; exact rfl
  exact uG
  refine uF ?_
  apply uA; exact rfl; exact rfl
  exact uG
  refine uF ?_
  apply uA; exact rfl; exact rfl
  exact uG
  refine uF ?_
  apply uA; exact rfl; exact rfl
  exact uG
  refine uF ?_; refine uK ?_; refine cnd ?_ ?_
  exact uG
  refine uF ?_; refine uK ?_; refine aoR fun _ => ?_
  refine uK ?_; rotate_left
  iterate 12 exact vV
  refine uR fun _ => ?_; try omega
  apply uA; exact rfl; exact rfl
  exact uG
  refine uF ?_
  apply uA; exact rfl; exact rfl
  exact uG
  refine uF ?_
  apply uA; exact rfl; exact rfl
  exact uG
  refine uF ?_
  apply uA; exact rfl; exact rfl
  exact uG
  refine uF ?_
  apply uA; exact rfl; exact rfl
  exact uG
  refine uF ?_
  apply uA; exact rfl; exact rfl
  exact uG
  refine uF ?_
  apply uA; exact rfl; exact rfl
  exact uG
  refine uF ?_
  apply uA; exact rfl; exact rfl
  exact uG
  refine uF ?_
  apply uA; exact rfl; exact rfl
  exact uG
  refine uF ?_
  apply uA; exact rfl; exact rfl
  exact uG
  refine uF ?_
  apply uA; exact rfl; exact rfl
  exact uG
  refine uF ?_
  apply uA; exact rfl; exact rfl
  exact uG
  refine uF ?_; refine uK ?_
  apply uA; exact rfl; exact rfl
  exact uG
  refine uF ?_
  apply uA; exact rfl; exact rfl
  exact uG
  refine uF ?_
  apply uA; exact rfl; exact rfl
  exact uG
  refine uF ?_
  apply uA; exact rfl; exact rfl
  exact uG
  refine uF ?_
  apply uA; exact rfl; exact rfl
  exact uG
  refine uF ?_
  apply uA; exact rfl; exact rfl
  exact uG
  refine uF ?_; refine uK ?_; refine cnd ?_ ?_
  exact uG
  refine uF ?_; refine uK ?_; refine aoR fun _ => ?_
  refine uK ?_; rotate_left
  refine uR fun _ => ?_; try omega
  ·exfalso
   rename_i e1 e2
   simp only [Int.toNat_natCast] at e1 e2
   exact hpo (by unfold isPo; simp only [Bool.and_eq_true, decide_eq_true_eq]; exact ⟨⟨hab, e1⟩, e2⟩)
  all_goals
   refine ⟨(b + 1, l), ⟨show a < b + 1 by omega, show b + 1 ≤ _ by omega, ?_, ?_⟩, show x.evs.length - (b + 1) < x.evs.length - b by omega, ?_, (fun _ _ h => h)⟩
   ·dsimp only; rw [hlen1]; exact hJ
   ·dsimp only; rw [hlen1]; exact hst
   ·dsimp only; rw [hlen1]; exact leP
def poF (x : Ex) : List (Int × Int) := if checkI x = 0 then refPairs x.evs.length (isPo x) else []
set_option maxHeartbeats 4000000 in
theorem po_s (x : Ex) (hx : x.fit) : Own E.P 58 [exOV x] 2 ((poF x).map pairO') := by
 have f1 : Frozen 1 := ⟨trivial⟩
 unfold poF
 refine fnA Tryz.func58 Tryz.ntmps58 ?_
 by_cases hc : checkI x = 0
 ·rw [if_pos hc]
  have hln := (uV hc).1
  have hzl := iC x x.evs.length
  have hsm : smallP (poZ x) := poZ_small (by omega)
  rw [← po_sorted]
  refine run ?_; refine aoR fun _ => ?_
  refine run ?_; refine aoR fun _ => ?_
  refine run ?_
  apply uO; exact rfl; exact .fn _ _ _; exact rfl; exact yI _ hx.1 hx.2
  refine run ?_; refine cnd ?_ ?_
  refine xG (fun _ => ?_); (try omega)
  refine xA (fun _ => ?_); (try omega)
  refine run ?_; refine aoR fun _ => ?_
  refine run ?_
  apply gH; exact rfl; exact .fn _ _ _; exact rfl; exact gK (.fn _ _ _) _ hsm (by unfold poZ; have := Nat.mul_le_mul hln hln; omega) (po1_s x (by omega))
  refine run ?_; rotate_left
  exact wR (d := 2) rfl rfl rfl rfl
 ·rw [if_neg hc]
  refine run ?_; refine aoR fun _ => ?_
  refine run ?_; refine aoR fun _ => ?_
  refine run ?_
  apply uO; exact rfl; exact .fn _ _ _; exact rfl; exact yI _ hx.1 hx.2
  refine run ?_; refine cnd ?_ ?_
  refine xG (fun _ => ?_); (try omega)
  refine run ?_; refine aoR fun _ => ?_
  refine run ?_; rotate_left
  refine xA (fun _ => ?_); (try omega)
  exact wR (d := 2) rfl rfl rfl rfl
set_option maxHeartbeats 4000000
set_option maxRecDepth 100000
theorem bare_facts {e : Ev} (h : e.bareB = true) : (e.rsv = true → e.kind = 1 ∨ e.kind = 2) ∧ 0 ≤ e.pred ∧ e.pred ≤ 3 ∧ 0 ≤ e.succ ∧ e.succ ≤ 3 := by
 unfold Ev.bareB at h
 grind
theorem evK' {x : Ex} (h : x.ok) (i : Nat) : (x.evs.getD i default).addrs.length ≤ 1152921504606846976 ∧ (x.evs.getD i default).datas.length ≤ 1152921504606846976 ∧ (x.evs.getD i default).ctrls.length ≤ 1152921504606846976 := by
 rcases Nat.lt_or_ge i x.evs.length with hh | hh
 ·rw [List.getD_eq_getElem?_getD, List.getElem?_eq_getElem hh]
  have := h.2.1 _ (List.getElem_mem hh)
  exact ⟨this.2.1, this.2.2.1, this.2.2.2.1⟩
 ·rw [List.getD_eq_getElem?_getD, List.getElem?_eq_none hh]
  decide
theorem lH {x : Ex} (hx : x.ok) (hc : checkI x = 0) : x.rok := by
 obtain ⟨h1, h2, h3, h4⟩ := uV hc
 have hb : ∀ i, ((x.evs.getD i default).rsv = true → (x.evs.getD i default).kind = 1 ∨ (x.evs.getD i default).kind = 2) ∧ 0 ≤ (x.evs.getD i default).pred ∧ (x.evs.getD i default).pred ≤ 3 ∧ 0 ≤ (x.evs.getD i default).succ ∧ (x.evs.getD i default).succ ≤ 3 := fun i => by
  rcases Nat.lt_or_ge i x.evs.length with hh | hh
  ·unfold evsTo at h2
   have := List.all_eq_true.1 h2 i (List.mem_range.2 hh)
   unfold evOk evPre at this
   simp only [Bool.and_eq_true] at this
   exact bare_facts (by first | exact this.1.1.1.1.1 | exact this.1.1.1.1 | exact this.1.1.1.1.1.1)
  ·rw [List.getD_eq_getElem?_getD, List.getElem?_eq_none hh]
   exact ⟨fun e => (by cases e), (by decide), (by decide), (by decide), (by decide)⟩
 exact ⟨by omega, xO h3, evK' hx, fun i => (hb i).1, fun i => (hb i).2⟩
def pairedR (x : Ex) (b : Int) : Int × Bool := if checkI x = 0 ∧ 0 ≤ b ∧ b < x.evs.length ∧ 0 ≤ pairedI x b.toNat then (pairedI x b.toNat, true) else (0, false)
set_option maxHeartbeats 1000000 in
theorem Paired_p (x : Ex) (hx : x.fit) (b : Int) : Pure E.P 91 [exOV x, .int .i64 b] (.tu [.int .i64 (pairedR x b).1, .bool (pairedR x b).2]) := by
 have hk := yI _ hx.1 hx.2
 refine FnW.toR ?_
 refine wQ (vs := [.tmp 4, .tmp 5]) Tryz.func91 (by decide) rfl Tryz.ntmps91 (Nat.le_of_ble_eq_true rfl) rfl ?_
 by_cases hg : checkI x = 0 ∧ 0 ≤ b ∧ b < x.evs.length
 ·obtain ⟨hc, h1, h2⟩ := hg
  rw [hc] at hk
  obtain ⟨n, rfl⟩ := yR h1
  have hp := mW x (lH hx.1 hc) n (by omega)
  have he := iD (lH hx.1 hc).rsv n
  refine run ?_; refine aoR fun _ => ?_
  refine run ?_; refine aoR fun _ => ?_
  refine run ?_
  apply uO; exact rfl; exact .fn _ _ _; exact rfl; exact hk
  refine run ?_; refine cnd ?_ ?_
  refine yS (fun hc_ => ?_); (try simp only [nrm] at hc_)
  refine run ?_; refine aoR fun _ => ?_
  refine run ?_; rotate_left
  iterate 2 refine yT ?_
  refine xA (fun _ => ?_); (try omega)
  iterate 2 refine uR fun _ => ?_; try omega
  refine run ?_; refine aoR fun _ => ?_
  refine run ?_
  apply uO; exact rfl; exact .fn _ _ _; exact rfl; exact hp
  refine run ?_; refine aoR fun _ => ?_
  refine run ?_; refine cnd ?_ ?_; refine aM ?_
  refine qT (fun _ => ?_)
  refine run ?_; refine aoR fun _ => ?_
  refine run ?_; rotate_left
  refine cO ?_
  refine iM (fun _ => ?_)
  refine run ?_; refine aoR fun _ => ?_
  refine run ?_; rotate_left
  ·exfalso
   rcases hc_ with (h | h) | h
   ·exact h trivial
   ·omega
   ·omega
  ·rename_i hz _
   refine aK rfl rfl ?_
   unfold pairedR
   rw [if_neg (fun h => by
    have h9 := he.1
    rw [hz] at h9
    have := of_decide_eq_false h9.symm
    rw [Int.toNat_natCast] at h
    exact this h.2.2.2)]
  ·rename_i hz _
   refine aK rfl rfl ?_
   unfold pairedR
   have h9 := he.1
   rw [hz] at h9
   have h8 := of_decide_eq_true h9.symm
   rw [Int.toNat_natCast, if_pos ⟨hc, by omega, by omega, h8⟩, he.2 hz]
 ·refine run ?_
  refine aoR fun _ => ?_; refine run ?_
  refine aoR fun _ => ?_; refine run ?_
  apply uO; exact rfl; exact .fn _ _ _; exact rfl; exact hk
  refine run ?_; refine cnd ?_ ?_
  refine yS (fun hc_ => ?_); (try simp only [nrm] at hc_)
  refine run ?_; refine aoR fun _ => ?_
  refine run ?_; rotate_left
  iterate 2 refine yT ?_
  refine xA (fun _ => ?_); (try omega)
  iterate 2 refine uR fun _ => ?_; try omega
  refine aK rfl rfl ?_
  unfold pairedR
  rw [if_neg (fun h => hg ⟨h.1, h.2.1, h.2.2.1⟩)]
def ppoL (x : Ex) : List (Int × Int) := refPairs x.evs.length (isPpo x)
def ppoT (x : Ex) : List (Int × Int) × Int := if checkI x ≠ 0 then ([], checkI x) else (ppoL x, 0)
def ppoG (x : Ex) (p : Int × Int) : Bool := pairOf x p.1.toNat p.2.toNat && decide (0 < (heldL x p.1.toNat p.2.toNat).length)
set_option maxHeartbeats 4000000 in
theorem Ppo_p (x : Ex) (hx : x.fit) : Pure E.P 65 [exOV x] (.tu [.d (pairsTV (ppoT x).1), .int .i64 (ppoT x).2]) := by
 have hk := yI _ hx.1 hx.2
 have hpo := po_s x hx
 have f1 : Frozen 1 := ⟨trivial⟩
 have f2 : Frozen 2 := ⟨trivial⟩
 have f5 : Frozen 5 := ⟨trivial⟩
 have f17 : Frozen 17 := ⟨trivial⟩
 refine FnW.toR ?_
 refine wQ (vs := [.tmp 2, .tmp 3]) Tryz.func65 (by decide) rfl Tryz.ntmps65 (Nat.le_of_ble_eq_true rfl) rfl ?_
 by_cases hc : checkI x = 0
 rotate_left
 ·refine run ?_
  refine aoR fun _ => ?_; refine run ?_
  refine aoR fun _ => ?_; refine run ?_
  apply uO; exact rfl; exact .fn _ _ _; exact rfl; exact hk
  refine run ?_; refine aoR fun _ => ?_
  refine run ?_; refine cnd ?_ ?_
  refine xG (fun _ => ?_); (try omega)
  refine run ?_; refine aoR fun _ => ?_
  refine run ?_; rotate_left
  refine xA (fun _ => ?_); (try omega)
  refine aK rfl rfl ?_
  unfold ppoT
  rw [if_pos hc]; rfl
 rw [hc] at hk
 unfold poF at hpo
 rw [if_pos hc] at hpo
 generalize hL : refPairs x.evs.length (isPo x) = L at hpo
 have hln : L.length ≤ 4096 := by
  have h1 := (uV hc).1
  rw [← hL, ← gJ]
  exact Nat.le_trans (iC x x.evs.length) (Nat.mul_le_mul h1 h1)
 have hrk := lH hx.1 hc
 refine run ?_; refine aoR fun _ => ?_
 refine run ?_; refine aoR fun _ => ?_
 refine run ?_
 apply uO; exact rfl; exact .fn _ _ _; exact rfl; exact hk
 refine run ?_; refine aoR fun _ => ?_
 refine run ?_; refine cnd ?_ ?_
 refine xG (fun _ => ?_); (try omega)
 refine xA (fun _ => ?_); (try omega)
 refine run ?_; refine aoR fun _ => ?_
 refine run ?_; refine aoR fun _ => ?_
 refine run ?_; refine aoR fun _ => ?_
 refine run ?_
 apply lY; assumption; exact rfl; exact .fn _ _ _; exact rfl; exact hpo; exact xW _; exact rfl
 refine run ?_; rotate_left
 rename_i v6 _
 have hmem : ∀ k, k < L.length → ∃ a b : Nat, a < x.evs.length ∧ b < x.evs.length ∧ (L.getD k default).1 = (a : Int) ∧ (L.getD k default).2 = (b : Int) := fun k hk' => by
  have : L.getD k default ∈ L := by rw [List.getD_eq_getElem?_getD, List.getElem?_eq_getElem hk']; exact List.getElem_mem hk'
  rw [← hL] at this
  obtain ⟨a, b, g1, g2, _, g3⟩ := uP.1 this
  rw [hL] at g3
  exact ⟨a, b, g1, g2, by rw [g3], by rw [g3]⟩
 refine vJ (X := Nat × Stamp × List (Int × Int)) (fun p => tmL [(5, .d (.pt (exRow x) 0)), (6, .os 6 p.2.1 2 p.2.2.length), (17, .d (pairsTV L)), (18, .int .i64 L.length), (19, .int .i64 p.1)]) (fun p => stL [(6, (p.2.1, ⟨2, p.2.2.map pairO'⟩))])
  (fun p => p.1 ≤ L.length ∧ p.2.2 = (L.take p.1).filter (ppoG x)) (fun p => L.length - p.1) (0, (v6, 0), []) ⟨Nat.zero_le _, rfl⟩ (by repeat' (first | exact wO _ | exact wD _ | refine uL rfl ?_ | refine vK rfl ?_ | (refine vY rfl ?_ ?_; (simp)) | (refine vM rfl ?_ ?_; (simp)) | (refine vA rfl ?_ ?_; (simp)))) leP ?_
 rintro ⟨k, τ, l⟩ ⟨hk', hl⟩
 dsimp only at hk' hl ⊢
 have hlen : l.length ≤ 4096 := by rw [hl]; exact Nat.le_trans (List.length_filter_le _ _) (by simp; omega)
 by_cases hlt : k < L.length
 ·obtain ⟨a, b, ha, hb, e1, e2⟩ := hmem k hlt
  have hp := pair_p x a b hrk.len ha hb
  have hh := held_p x hrk a b ha hb
  have hg : ppoG x (L.getD k default) = (pairOf x a b && decide (0 < (heldL x a b).length)) := by unfold ppoG; rw [e1, e2]; rfl
  have htk : L.take (k + 1) = L.take k ++ [L.getD k default] := wL L default k hlt
  rw [← e1, ← e2] at hp hh
  refine run ?_; refine aoR fun _ => ?_
  refine run ?_; refine cnd ?_ ?_
  refine uN fun _ => ?_; try omega
  refine run ?_; refine aoR fun _ => ?_
  refine run ?_; refine aoR fun _ => ?_
  refine run ?_
  apply uO; exact rfl; exact .fn _ _ _; exact rfl; exact hp
  refine run ?_
  apply spT; exact rfl
  intro hc_
  have hp_ := hc_; try simp only [nrm] at hp_
  apply wA; (exact EvM.plain rfl rfl); exact .fn _ _ _; exact xJ; exact hh
  refine run ?_; refine cnd ?_ ?_; refine yU ?_
  refine iM (fun _ => ?_)
  refine uN fun _ => ?_; try omega
  refine aoR fun _ => ?_; refine run ?_
  refine aoR fun _ => ?_; refine run ?_
  rotate_left
  refine xZ (fun hc_ => ?_); (try simp only [nrm] at hc_)
  refine run ?_; refine aoR fun _ => ?_
  refine run ?_; rotate_left
  refine uR fun _ => ?_; try omega
  ·rename_i g1 g2 v10 _
   have hg2 : ppoG x (L.getD k default) = true := by rw [hg, g1, Bool.true_and]; exact decide_eq_true (by omega)
   exact vQ (k + 1, (v10, 4), l ++ [L.getD k default]) ⟨by dsimp only; omega, by dsimp only; rw [hl, htk, List.filter_append, List.filter_cons, if_pos hg2, List.filter_nil]⟩ (by dsimp only; omega) (by repeat' (first | exact wO _ | exact wD _ | refine uL rfl ?_ | refine vK rfl ?_ | (refine vY rfl ?_ ?_; (simp <;> rfl)) | (refine vM rfl ?_ ?_; (simp <;> rfl)) | (refine vA rfl ?_ ?_; (simp <;> rfl)))) (by repeat' (first | exact wO _ | exact wD _ | refine uL rfl ?_ | refine vK rfl ?_ | (refine vY rfl ?_ ?_; (simp <;> rfl)) | (refine vM rfl ?_ ?_; (simp <;> rfl)) | (refine vA rfl ?_ ?_; (simp <;> rfl))))
  ·have hg2 : ppoG x (L.getD k default) = false := by
    rw [hg]
    rcases hc_ with h9 | h9
    ·rw [h9]; rfl
    ·rw [show decide (0 < (heldL x a b).length) = false from decide_eq_false (by omega), Bool.and_false]
   exact vQ (k + 1, τ, l) ⟨by dsimp only; omega, by dsimp only; rw [hl, htk, List.filter_append, List.filter_cons, if_neg (by rw [hg2]; decide), List.filter_nil, List.append_nil]⟩ (by dsimp only; omega) leP leP
 ·have f6 : Frozen 6 := ⟨trivial⟩
  have hfz := xW
  refine run ?_; refine aoR fun _ => ?_
  refine run ?_; refine cnd ?_ ?_
  refine uN fun _ => ?_; try omega
  refine uR fun _ => ?_; try omega
  refine run ?_; refine aoR fun _ => ?_
  refine run ?_; rotate_left
  refine aK rfl rfl ?_
  have hkl : k = L.length := by omega
  unfold ppoT
  rw [if_neg (by simp [hc]), hl, hkl, List.take_length, ← hL]
  show _ = OV.tu [.d (pairsTV (ppoL x)), _]
  unfold ppoL
  rw [← ppo_list]
  rfl
set_option maxHeartbeats 4000000
set_option maxRecDepth 100000
end Go.Proofs.YtnkocjkkefnelaaGreat
