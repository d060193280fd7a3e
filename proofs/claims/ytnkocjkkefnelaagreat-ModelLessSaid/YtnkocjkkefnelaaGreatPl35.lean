/- Parts. -/
import Derived.Test.YtnkocjkkefnelaaGreatPl4
import Derived.Test.YtnkocjkkefnelaaGreatPl6
import Derived.Test.YtnkocjkkefnelaaGreatPl10
import Derived.Test.YtnkocjkkefnelaaGreatPl34
set_option linter.unusedVariables false
set_option linter.unusedSimpArgs false
set_option maxHeartbeats 4000000
set_option maxHeartbeats 4000000
set_option maxRecDepth 100000
namespace Go.Proofs.YtnkocjkkefnelaaGreat
open Go.RowKit
def ev8 (hart kind val rval : Int) : Ev := ⟨hart, kind, 0, val, rval, false, false, 0, 0, false, ⟨none, 0, 0⟩, ⟨none, 0, 0⟩, ⟨none, 0, 0⟩, [], [], []⟩
def kx8 : Ex := ⟨default, default, default, [ev8 (-1) 5 0 0, ev8 0 2 1 0, ev8 0 1 0 0], [-1, -1, 0], [(default, [0, 1])]⟩
def ky8 : Ex := ⟨default, default, default, [ev8 (-1) 5 0 0, ev8 0 2 1 0, ev8 0 1 0 1], [-1, -1, 1], [(default, [0, 1])]⟩
theorem oY {l : List Int} (h : l.Pairwise fun a b => decide (a ≤ b) = true) : sortI l = l := by
 unfold sortI
 exact List.mergeSort_of_pairwise h
theorem kx8_ok : kx8.fit := by
 refine ⟨⟨by decide, fun e he => ?_, by decide, by decide, by decide⟩, by decide⟩
 simp only [kx8, List.mem_cons, List.not_mem_nil, or_false] at he
 rcases he with rfl | rfl | rfl <;> (unfold Ev.ok Ev.wf ev8; decide)
theorem ky8_ok : ky8.fit := by
 refine ⟨⟨by decide, fun e he => ?_, by decide, by decide, by decide⟩, by decide⟩
 simp only [ky8, List.mem_cons, List.not_mem_nil, or_false] at he
 rcases he with rfl | rfl | rfl <;> (unfold Ev.ok Ev.wf ev8; decide)
theorem kx8_check : checkI kx8 = 0 := by
 have h1 : addrsTo kx8.evs = [0] := by decide
 have h2 : evsTo kx8.evs [0] kx8.evs.length = true := by decide
 have h3 : fromB kx8.evs kx8.from_ = true := by decide
 have h4 : orderB kx8.evs [0] kx8.order = true := by
  unfold orderB rowsTo
  rw [show List.range kx8.order.length = [0] from rfl]
  simp only [List.all_cons, List.all_nil, Bool.and_true]
  have : sortI [0, 1] = [0, 1] := oY (by decide)
  unfold rowOk
  rw [show (kx8.order.getD 0 default).2 = [0, 1] from rfl, this]
  decide
 unfold checkI
 rw [h1, h2, h3, h4]
 rfl
theorem ky8_check : checkI ky8 = 0 := by
 have h1 : addrsTo ky8.evs = [0] := by decide
 have h2 : evsTo ky8.evs [0] ky8.evs.length = true := by decide
 have h3 : fromB ky8.evs ky8.from_ = true := by decide
 have h4 : orderB ky8.evs [0] ky8.order = true := by
  unfold orderB rowsTo
  rw [show List.range ky8.order.length = [0] from rfl]
  simp only [List.all_cons, List.all_nil, Bool.and_true]
  have : sortI [0, 1] = [0, 1] := oY (by decide)
  unfold rowOk
  rw [show (ky8.order.getD 0 default).2 = [0, 1] from rfl, this]
  decide
 unfold checkI
 rw [h1, h2, h3, h4]
 rfl
theorem kx8_not : allowT kx8 = (false, 0) := by
 unfold allowT
 rw [kx8_check, if_pos rfl, show allowB kx8 = false by decide +kernel]
theorem ky8_is : allowT ky8 = (true, 0) := by
 unfold allowT
 rw [ky8_check, if_pos rfl, show allowB ky8 = true by decide +kernel]
set_option maxHeartbeats 4000000 in
theorem known8_p : Pure E.P 14 [] (.bool true) := by
 have hX := dK kx8 kx8_ok (by decide)
 have hY := dK ky8 ky8_ok (by decide)
 rw [kx8_not] at hX
 rw [ky8_is] at hY
 have n7 : NilS 7 := ⟨trivial⟩
 have n8 : NilS 8 := ⟨trivial⟩
 have n9 : NilS 9 := ⟨trivial⟩
 have n20 : NilS 20 := ⟨trivial⟩
 have n21 : NilS 21 := ⟨trivial⟩
 have n22 : NilS 22 := ⟨trivial⟩
 have f10 : Frozen 10 := ⟨trivial⟩
 have f11 : Frozen 11 := ⟨trivial⟩
 have f12 : Frozen 12 := ⟨trivial⟩
 have f13 : Frozen 13 := ⟨trivial⟩
 have f23 : Frozen 23 := ⟨trivial⟩
 have f24 : Frozen 24 := ⟨trivial⟩
 have f25 : Frozen 25 := ⟨trivial⟩
 have f26 : Frozen 26 := ⟨trivial⟩
 refine fnA Tryz.func14 Tryz.ntmps14 ?_
 refine run ?_; refine aoR fun _ => ?_
 refine run ?_; refine aoR fun _ => ?_
 refine run ?_; refine aoR fun _ => ?_
 refine run ?_
 apply uQ; exact rfl; exact .fn _ _ _; exact rfl; (exact hX)
 refine run ?_; refine aoR fun _ => ?_
 refine run ?_; refine aoR fun _ => ?_
 refine run ?_
 apply uQ; exact rfl; exact .fn _ _ _; exact rfl; (exact hY)
 refine run ?_; refine aoR fun _ => ?_
 refine run ?_; rotate_left
 exact vF rfl rfl
set_option maxRecDepth 100000
set_option maxHeartbeats 4000000 in
theorem jP (x : Ex) (n : Nat) (l : List Int) (hx : x.evs.length ≤ 1152921504606846976) (hn : n < x.evs.length) (hl : l.length ≤ 1152921504606846976) :
  Pure E.P 30 [exOV x, .int .i64 n, .d (ints l)] (.bool (hangsB x.evs n l)) := by
 refine fnA Tryz.func30 Tryz.ntmps30 ?_
 refine run ?_; refine aoR fun _ => ?_
 refine run ?_; refine aoR fun _ => ?_
 refine run ?_; rotate_left
 rename_i v0 v1
 refine vC (X := Nat) (fun k => tmL [(1, .int .i64 n), (2, .d (ints l)), (3, .lo 3 (v0, 0) 3 0 0), (7, .int .i64 k)]) (fun _ => stL [(3, ((v0, 0), ⟨3, [(exOV x).cells]⟩))]) (fun k => k ≤ l.length ∧ hangsTo x.evs n l k = true) (fun k => l.length - k) 0 ⟨Nat.zero_le _, rfl⟩ leP leP ?_
 intro k hk
 obtain ⟨hk, ht⟩ := hk
 refine run ?_; refine aoR fun _ => ?_
 refine run ?_; refine cnd ?_ ?_
 refine uP fun _ => ?_; try (exfalso; omega)
 refine run ?_; refine aoR fun _ => ?_
 refine run ?_
 refine vE (E := E) ?_ (fun _ => ?_); exact rfl
 refine run ?_
 apply dpF; exact rfl
 intro hc_
 have hp_ := hc_; try simp only [nrm] at hp_
 apply vU; exact .plain rfl rfl; exact .fn _ _ _; exact wR; (exact jO _)
 refine run ?_; refine cnd ?_ ?_
 refine wX (fun hc_ => ?_); (try simp only [nrm] at hc_)
 refine run ?_; refine aoR fun _ => ?_
 refine run ?_; rotate_left
 iterate 4 refine xA ?_
 iterate 2 refine uR fun _ => ?_; try (exfalso; omega)
 refine wN (fun hc_ => ?_); (try simp only [nrm] at hc_)
 refine wJ (fun _ => ?_); (try (exfalso; omega))
 refine yE ?_
 refine yK (fun _ => ?_)
 refine run ?_; refine aoR fun _ => ?_
 refine run ?_; rotate_left
 refine uR fun _ => ?_; try (exfalso; omega)
 refine run ?_; refine aoR fun _ => ?_
 refine run ?_; rotate_left
 ·refine vF rfl ?_
  rename_i hc_ _
  refine (wB _ _ _ k (by omega) ?_).symm
  have e1 : ((k : Int) - 1).toNat = k - 1 := by omega
  simp only [Int.toNat_natCast, e1] at hc_
  unfold depOk
  grind
 ·refine round (k + 1) ⟨by omega, ?_⟩ (by omega) leP leP
  rw [aM, ht, Bool.true_and]
  rename_i h1 h2 hc_ h3 h4 h5
  have e1 : ((k : Int) - 1).toNat = k - 1 := by omega
  simp only [Int.toNat_natCast, e1] at *
  unfold depOk
  grind
 ·refine vF rfl ?_
  have : k = l.length := by omega
  subst this
  exact ht.symm
end Go.Proofs.YtnkocjkkefnelaaGreat
