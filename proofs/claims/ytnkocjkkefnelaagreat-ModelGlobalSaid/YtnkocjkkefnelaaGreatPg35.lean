/- Parts. -/
import Derived.Test.YtnkocjkkefnelaaGreatPg4
import Derived.Test.YtnkocjkkefnelaaGreatPg6
import Derived.Test.YtnkocjkkefnelaaGreatPg21
import Derived.Test.YtnkocjkkefnelaaGreatPg22
import Derived.Test.YtnkocjkkefnelaaGreatPg34
set_option linter.unusedVariables false
set_option linter.unusedSimpArgs false
set_option maxHeartbeats 4000000
set_option maxHeartbeats 4000000
set_option maxRecDepth 100000
namespace Go.Proofs.YtnkocjkkefnelaaGreat
open Go.RowKit
def Ev.lens (e : Ev) : Nat := e.addrs.length + e.datas.length + e.ctrls.length
def sumE (es : List Ev) (k : Nat) : Nat := ((es.take k).map Ev.lens).sum
def sumR (rows : List (Sl × List Int)) (k : Nat) : Nat := ((rows.take k).map fun r => r.2.length).sum
def wideB8 (x : Ex) : Bool := decide (20 < x.evs.length) || decide (200 < x.from_.length) || decide (200 < x.order.length) || decide (400 < x.from_.length + sumR x.order x.order.length) || decide (400 < x.from_.length + sumR x.order x.order.length + sumE x.evs x.evs.length)
theorem kO (es : List Ev) (k : Nat) (h : k < es.length) : sumE es (k + 1) = sumE es k + (es.getD k default).lens := by
 unfold sumE; rw [cB es default k h]; simp
theorem eZ (rows : List (Sl × List Int)) (k : Nat) (h : k < rows.length) : sumR rows (k + 1) = sumR rows k + (rows.getD k default).2.length := by
 unfold sumR; rw [cB rows default k h]; simp
theorem gD (l : List Nat) (k : Nat) : (l.take k).sum ≤ l.sum := by
 have h := congrArg List.sum (List.take_append_drop k l)
 rw [List.sum_append] at h
 omega
theorem sumE_le (es : List Ev) (k : Nat) : sumE es k ≤ sumE es es.length := by
 unfold sumE
 rw [List.take_length, List.map_take]; exact gD _ _
theorem qO (rows : List (Sl × List Int)) (k : Nat) : sumR rows k ≤ sumR rows rows.length := by
 unfold sumR
 rw [List.take_length, List.map_take]; exact gD _ _
theorem wide8_true1 {x : Ex} (h : 20 < x.evs.length ∨ 200 < x.from_.length ∨ 200 < x.order.length) : true = wideB8 x := by
 unfold wideB8
 rcases h with h | h | h <;> simp [h]
theorem wide8_true2 {x : Ex} {k : Nat} (h : 400 < x.from_.length + sumR x.order k) : true = wideB8 x := by
 have := qO x.order k
 unfold wideB8
 have h : 400 < x.from_.length + sumR x.order x.order.length := by omega
 simp [h]
theorem wide8_true3 {x : Ex} {k : Nat} (h : 400 < x.from_.length + sumR x.order x.order.length + sumE x.evs k) : true = wideB8 x := by
 have := sumE_le x.evs k
 unfold wideB8
 have h : 400 < x.from_.length + sumR x.order x.order.length + sumE x.evs x.evs.length := by omega
 simp [h]
theorem Ex.ok.ev {x : Ex} (h : x.ok) (i : Nat) : (x.evs.getD i default).addrs.length ≤ 1152921504606846976 ∧ (x.evs.getD i default).datas.length ≤ 1152921504606846976 ∧ (x.evs.getD i default).ctrls.length ≤ 1152921504606846976 := by
 rcases Nat.lt_or_ge i x.evs.length with hh | hh
 ·rw [List.getD_eq_getElem?_getD, List.getElem?_eq_getElem hh]
  have := h.2.1 _ (List.getElem_mem hh)
  exact ⟨this.2.1, this.2.2.1, this.2.2.2.1⟩
 ·rw [List.getD_eq_getElem?_getD, List.getElem?_eq_none hh]
  decide
theorem Ex.ok.row {x : Ex} (h : x.ok) (i : Nat) : (x.order.getD i default).2.length ≤ 1152921504606846976 := by
 rcases Nat.lt_or_ge i x.order.length with hh | hh
 ·rw [List.getD_eq_getElem?_getD, List.getElem?_eq_getElem hh]
  exact h.2.2.2.2 _ (List.getElem_mem hh)
 ·rw [List.getD_eq_getElem?_getD, List.getElem?_eq_none hh]
  decide
theorem wide8_row {x : Ex} (h : wideB8 x = false) : ∀ r ∈ x.order, r.2.length ≤ 400 := fun r hr => by
 unfold wideB8 at h
 simp only [Bool.or_eq_false_iff, decide_eq_false_iff_not] at h
 obtain ⟨i, hi, rfl⟩ := List.mem_iff_getElem.1 hr
 have h1 := eZ x.order i hi
 have h2 := qO x.order (i + 1)
 rw [List.getD_eq_getElem?_getD, List.getElem?_eq_getElem hi] at h1
 simp only [Option.getD_some] at h1
 omega
set_option maxHeartbeats 4000000 in
theorem wide8_p (x : Ex) (hok : x.ok) : Pure E.P 11 [exOV x] (.bool (wideB8 x)) := by
 have hev := hok.ev
 have hrw := hok.row
 obtain ⟨hx, _, hf, ho, _⟩ := hok
 refine fnA Tryz.func11 Tryz.ntmps11 ?_
 refine run ?_; refine aoR fun _ => ?_
 refine run ?_; refine aoR fun _ => ?_
 refine run ?_; refine aoR fun _ => ?_
 refine run ?_; refine cnd ?_ ?_
 refine wS (fun hc_ => ?_); (try simp only [nrm] at hc_)
 refine run ?_; refine aoR fun _ => ?_
 refine run ?_; rotate_left
 iterate 2 refine wT ?_
 iterate 3 refine uI fun _ => ?_; try (exfalso; omega)
 refine run ?_; refine aoR fun _ => ?_
 refine run ?_; rotate_left
 ·exact uU rfl (wide8_true1 (by omega))
 rename_i v1 _ _ g1 g2 g3 _
 refine uS (X := Nat) (fun k => tmL [(1, .lo 1 (v1, 0) 3 0 0), (3, .int .i64 ((x.from_.length + sumR x.order k : Nat) : Int)), (4, .int .i64 k)]) (fun _ => stL [(1, ((v1, 0), ⟨3, [(exOV x).cells]⟩))])
  (fun k => k ≤ x.order.length ∧ x.from_.length + sumR x.order k ≤ 400) (fun k => x.order.length - k) 0 ⟨Nat.zero_le _, by simp [sumR]; omega⟩ (by repeat' (first | exact vH _ | exact vJ _ | refine uD rfl ?_ | refine uZ rfl ?_ | (refine uR rfl ?_ ?_; (simp [sumR])) | (refine uO rfl ?_ ?_; (simp [sumR])) | (refine uV rfl ?_ ?_; (simp [sumR])))) leP ?_
 rintro k ⟨hk, hn⟩
 have hr := hrw (k : Int).toNat
 refine run ?_; refine aoR fun _ => ?_
 refine run ?_; refine cnd ?_ ?_
 refine uH fun _ => ?_; try (exfalso; omega)
 refine run ?_; refine aoR fun _ => ?_
 refine run ?_; refine aoR fun _ => ?_
 refine run ?_; refine cnd ?_ ?_
 refine uH fun _ => ?_; try (exfalso; omega)
 refine run ?_; refine aoR fun _ => ?_
 refine run ?_; rotate_left
 refine uI fun _ => ?_; try (exfalso; omega)
 refine run ?_; refine aoR fun _ => ?_
 refine run ?_; rotate_left
 refine uI fun _ => ?_; try (exfalso; omega)
 refine run ?_; refine aoR fun _ => ?_
 refine run ?_; rotate_left
 ·refine uU rfl (wide8_true2 (k := k + 1) ?_)
  rename_i h _
  rw [eZ _ _ (by omega)]
  rw [Int.toNat_natCast] at h
  omega
 ·have hs := eZ x.order k (by omega)
  rename_i h _
  rw [Int.toNat_natCast] at h
  refine uY (k + 1) ⟨by omega, by omega⟩ (by omega) (by repeat' (first | exact vH _ | exact vJ _ | refine uD rfl ?_ | refine uZ rfl ?_ | (refine uR rfl ?_ ?_; (rw [hs, Int.toNat_natCast]; omega)) | (refine uO rfl ?_ ?_; (rw [hs, Int.toNat_natCast]; omega)) | (refine uV rfl ?_ ?_; (rw [hs, Int.toNat_natCast]; omega)))) leP
 have e : k = x.order.length := by omega
 subst e
 refine uS (X := Nat) (fun i => tmL [(1, .lo 1 (v1, 0) 3 0 0), (3, .int .i64 ((x.from_.length + sumR x.order x.order.length + sumE x.evs i : Nat) : Int)), (5, .int .i64 i)]) (fun _ => stL [(1, ((v1, 0), ⟨3, [(exOV x).cells]⟩))])
  (fun i => i ≤ x.evs.length ∧ x.from_.length + sumR x.order x.order.length + sumE x.evs i ≤ 400) (fun i => x.evs.length - i) 0 ⟨Nat.zero_le _, by simpa [sumE] using hn⟩ (by repeat' (first | exact vH _ | exact vJ _ | refine uD rfl ?_ | refine uZ rfl ?_ | (refine uR rfl ?_ ?_; (simp [sumE])) | (refine uO rfl ?_ ?_; (simp [sumE])) | (refine uV rfl ?_ ?_; (simp [sumE])))) leP ?_
 rintro i ⟨hi, hm⟩
 have he := hev (i : Int).toNat
 refine run ?_; refine aoR fun _ => ?_
 refine run ?_; refine cnd ?_ ?_
 refine uH fun _ => ?_; try (exfalso; omega)
 refine run ?_
 refine uX (E := E) ?_ (fun _ => ?_); exact rfl
 refine run ?_; refine aoR fun _ => ?_
 refine run ?_; refine cnd ?_ ?_
 refine uH fun _ => ?_; try (exfalso; omega)
 refine run ?_; refine aoR fun _ => ?_
 refine run ?_; rotate_left
 refine uI fun _ => ?_; try (exfalso; omega)
 refine run ?_; refine aoR fun _ => ?_
 refine run ?_; rotate_left
 refine uI fun _ => ?_; try (exfalso; omega)
 refine run ?_; refine aoR fun _ => ?_
 refine run ?_; rotate_left
 ·refine uU rfl (wide8_true3 (k := i + 1) ?_)
  rename_i h _
  rw [kO _ _ (by omega)]
  unfold Ev.lens
  rw [Int.toNat_natCast] at h
  omega
 ·have hs := kO x.evs i (by omega)
  unfold Ev.lens at hs
  rename_i h _
  rw [Int.toNat_natCast] at h
  refine uY (i + 1) ⟨by omega, by omega⟩ (by omega) (by repeat' (first | exact vH _ | exact vJ _ | refine uD rfl ?_ | refine uZ rfl ?_ | (refine uR rfl ?_ ?_; (rw [hs, Int.toNat_natCast]; omega)) | (refine uO rfl ?_ ?_; (rw [hs, Int.toNat_natCast]; omega)) | (refine uV rfl ?_ ?_; (rw [hs, Int.toNat_natCast]; omega)))) leP
 ·have e : i = x.evs.length := by omega
  subst e
  refine uU rfl ?_
  unfold wideB8
  rw [eq_comm]
  simp only [Bool.or_eq_false_iff, decide_eq_false_iff_not]
  omega
set_option maxHeartbeats 4000000
set_option maxRecDepth 100000
def ev8 (hart kind val rval : Int) : Ev := ⟨hart, kind, 0, val, rval, false, false, 0, 0, false, ⟨none, 0, 0⟩, ⟨none, 0, 0⟩, ⟨none, 0, 0⟩, [], [], []⟩
def kx8 : Ex := ⟨default, default, default, [ev8 (-1) 5 0 0, ev8 0 2 1 0, ev8 0 1 0 0], [-1, -1, 0], [(default, [0, 1])]⟩
def ky8 : Ex := ⟨default, default, default, [ev8 (-1) 5 0 0, ev8 0 2 1 0, ev8 0 1 0 1], [-1, -1, 1], [(default, [0, 1])]⟩
theorem nO {l : List Int} (h : l.Pairwise fun a b => decide (a ≤ b) = true) : sortI l = l := by
 unfold sortI
 exact List.mergeSort_of_pairwise h
theorem kx8_ok : kx8.fit := by
 refine ⟨⟨by decide, fun e he => ?_, by decide, by decide, by decide⟩, by decide⟩
 simp only [kx8, List.mem_cons, List.not_mem_nil, or_false] at he
 rcases he with rfl | rfl | rfl <;> (unfold Ev.ok Ev.wf ev8; decide)
theorem ky8_ok : ky8.fit := by
 refine ⟨⟨by decide, fun e he => ?_, by decide, by decide, by decide⟩, by decide⟩
 simp only [ky8, List.mem_cons, List.not_mem_nil, or_false] at he
 rcases he with rfl | rfl | rfl <;> (unfold Ev.ok Ev.wf ev8; decide)
theorem kx8_check : checkI kx8 = 0 := by
 have h1 : addrsTo kx8.evs = [0] := by decide
 have h2 : evsTo kx8.evs [0] kx8.evs.length = true := by decide
 have h3 : fromB kx8.evs kx8.from_ = true := by decide
 have h4 : orderB kx8.evs [0] kx8.order = true := by
  unfold orderB rowsTo
  rw [show List.range kx8.order.length = [0] from rfl]
  simp only [List.all_cons, List.all_nil, Bool.and_true]
  have : sortI [0, 1] = [0, 1] := nO (by decide)
  unfold rowOk
  rw [show (kx8.order.getD 0 default).2 = [0, 1] from rfl, this]
  decide
 unfold checkI
 rw [h1, h2, h3, h4]
 rfl
theorem ky8_check : checkI ky8 = 0 := by
 have h1 : addrsTo ky8.evs = [0] := by decide
 have h2 : evsTo ky8.evs [0] ky8.evs.length = true := by decide
 have h3 : fromB ky8.evs ky8.from_ = true := by decide
 have h4 : orderB ky8.evs [0] ky8.order = true := by
  unfold orderB rowsTo
  rw [show List.range ky8.order.length = [0] from rfl]
  simp only [List.all_cons, List.all_nil, Bool.and_true]
  have : sortI [0, 1] = [0, 1] := nO (by decide)
  unfold rowOk
  rw [show (ky8.order.getD 0 default).2 = [0, 1] from rfl, this]
  decide
 unfold checkI
 rw [h1, h2, h3, h4]
 rfl
theorem kx8_not : allowT kx8 = (false, 0) := by
 unfold allowT
 rw [kx8_check, if_pos rfl, show allowB kx8 = false by decide +kernel]
theorem ky8_is : allowT ky8 = (true, 0) := by
 unfold allowT
 rw [ky8_check, if_pos rfl, show allowB ky8 = true by decide +kernel]
set_option maxHeartbeats 4000000 in
theorem known8_p : Pure E.P 14 [] (.bool true) := by
 have hX := mG kx8 kx8_ok (by decide)
 have hY := mG ky8 ky8_ok (by decide)
 rw [kx8_not] at hX
 rw [ky8_is] at hY
 have n7 : NilS 7 := ⟨trivial⟩
 have n8 : NilS 8 := ⟨trivial⟩
 have n9 : NilS 9 := ⟨trivial⟩
 have n20 : NilS 20 := ⟨trivial⟩
 have n21 : NilS 21 := ⟨trivial⟩
 have n22 : NilS 22 := ⟨trivial⟩
 have f10 : Frozen 10 := ⟨trivial⟩
 have f11 : Frozen 11 := ⟨trivial⟩
 have f12 : Frozen 12 := ⟨trivial⟩
 have f13 : Frozen 13 := ⟨trivial⟩
 have f23 : Frozen 23 := ⟨trivial⟩
 have f24 : Frozen 24 := ⟨trivial⟩
 have f25 : Frozen 25 := ⟨trivial⟩
 have f26 : Frozen 26 := ⟨trivial⟩
 refine fnA Tryz.func14 Tryz.ntmps14 ?_
 refine run ?_; refine aoR fun _ => ?_
 refine run ?_; refine aoR fun _ => ?_
 refine run ?_; refine aoR fun _ => ?_
 refine run ?_
 apply uM; exact rfl; exact .fn _ _ _; exact rfl; (exact hX)
 refine run ?_; refine aoR fun _ => ?_
 refine run ?_; refine aoR fun _ => ?_
 refine run ?_
 apply uM; exact rfl; exact .fn _ _ _; exact rfl; (exact hY)
 refine run ?_; refine aoR fun _ => ?_
 refine run ?_; rotate_left
 exact uU rfl rfl
set_option maxRecDepth 100000
set_option maxHeartbeats 4000000 in
theorem iT (x : Ex) (n : Nat) (l : List Int) (hx : x.evs.length ≤ 1152921504606846976) (hn : n < x.evs.length) (hl : l.length ≤ 1152921504606846976) :
  Pure E.P 30 [exOV x, .int .i64 n, .d (ints l)] (.bool (hangsB x.evs n l)) := by
 refine fnA Tryz.func30 Tryz.ntmps30 ?_
 refine run ?_; refine aoR fun _ => ?_
 refine run ?_; refine aoR fun _ => ?_
 refine run ?_; rotate_left
 rename_i v0 v1
 refine uS (X := Nat) (fun k => tmL [(1, .int .i64 n), (2, .d (ints l)), (3, .lo 3 (v0, 0) 3 0 0), (7, .int .i64 k)]) (fun _ => stL [(3, ((v0, 0), ⟨3, [(exOV x).cells]⟩))]) (fun k => k ≤ l.length ∧ hangsTo x.evs n l k = true) (fun k => l.length - k) 0 ⟨Nat.zero_le _, rfl⟩ leP leP ?_
 intro k hk
 obtain ⟨hk, ht⟩ := hk
 refine run ?_; refine aoR fun _ => ?_
 refine run ?_; refine cnd ?_ ?_
 refine uH fun _ => ?_; try (exfalso; omega)
 refine run ?_; refine aoR fun _ => ?_
 refine run ?_
 refine uX (E := E) ?_ (fun _ => ?_); exact rfl
 refine run ?_
 apply dpF; exact rfl
 intro hc_
 have hp_ := hc_; try simp only [nrm] at hp_
 apply vE; exact .plain rfl rfl; exact .fn _ _ _; exact vR; (exact xR _)
 refine run ?_; refine cnd ?_ ?_
 refine wS (fun hc_ => ?_); (try simp only [nrm] at hc_)
 refine run ?_; refine aoR fun _ => ?_
 refine run ?_; rotate_left
 iterate 4 refine wT ?_
 iterate 2 refine uI fun _ => ?_; try (exfalso; omega)
 refine wU (fun hc_ => ?_); (try simp only [nrm] at hc_)
 refine vV (fun _ => ?_); (try (exfalso; omega))
 refine xC ?_
 refine xB (fun _ => ?_)
 refine run ?_; refine aoR fun _ => ?_
 refine run ?_; rotate_left
 refine uI fun _ => ?_; try (exfalso; omega)
 refine run ?_; refine aoR fun _ => ?_
 refine run ?_; rotate_left
 ·refine uU rfl ?_
  rename_i hc_ _
  refine (wG _ _ _ k (by omega) ?_).symm
  have e1 : ((k : Int) - 1).toNat = k - 1 := by omega
  simp only [Int.toNat_natCast, e1] at hc_
  unfold depOk
  grind
 ·refine round (k + 1) ⟨by omega, ?_⟩ (by omega) leP leP
  rw [aH, ht, Bool.true_and]
  rename_i h1 h2 hc_ h3 h4 h5
  have e1 : ((k : Int) - 1).toNat = k - 1 := by omega
  simp only [Int.toNat_natCast, e1] at *
  unfold depOk
  grind
 ·refine uU rfl ?_
  have : k = l.length := by omega
  subst this
  exact ht.symm
end Go.Proofs.YtnkocjkkefnelaaGreat
