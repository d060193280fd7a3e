/- Parts. -/
import Derived.Test.YtnkocjkkefnelaaGreatPn6
import Derived.Test.YtnkocjkkefnelaaGreatPn8
import Derived.Test.YtnkocjkkefnelaaGreatPn9
import Derived.Test.YtnkocjkkefnelaaGreatPn18
import Derived.Test.YtnkocjkkefnelaaGreatPn33
set_option linter.unusedVariables false
set_option linter.unusedSimpArgs false
set_option maxHeartbeats 4000000
set_option maxHeartbeats 4000000
set_option maxRecDepth 100000
namespace Go.Proofs.YtnkocjkkefnelaaGreat
open Go.RowKit
theorem want_pairwise (es : List Ev) (A : Int) (n : Nat) : (wantTo es A n).Pairwise (· < ·) := by
 unfold wantTo
 rw [List.pairwise_map]
 refine (List.Pairwise.filter _ List.pairwise_lt_range).imp ?_
 intro a b h; exact Int.ofNat_lt.2 h
theorem mem_want {es : List Ev} {A : Int} {n : Nat} {m : Int} : m ∈ wantTo es A n ↔ ∃ i : Nat, i < n ∧ m = i ∧ (es.getD i default).stB = true ∧ (es.getD i default).addr = A := by
 unfold wantTo
 simp only [List.mem_map, List.mem_filter, List.mem_range, Bool.and_eq_true, beq_iff_eq]
 constructor
 ·rintro ⟨i, ⟨h1, h2, h3⟩, rfl⟩; exact ⟨i, h1, rfl, h2, h3⟩
 ·rintro ⟨i, h1, rfl, h2, h3⟩; exact ⟨i, ⟨h1, h2, h3⟩, rfl⟩
end Go.Proofs.YtnkocjkkefnelaaGreat
