/- Arguments of other kinds: a pair by value; small numbers. -/
import Derived.Test.YtnghoibkjphfmaaGreatPb7
set_option maxRecDepth 100000
set_option linter.unusedVariables false
namespace Go.Proofs.YtnghoibkjphfmaaGreat
open Go.RowKit Go.ChangeShapes Go.WideShapes Go.Deep
section
variable {H : Type} {enc : TypeId × Value → H} {W : World} {sp : Nat → Bool} {held : Bool}
theorem pair_arg {r : Reach} {b0 : Nat} {v : Value} {d : DataW H} {p : List MemPlace} (hv : Value.okWide Tryz.prog W r b0 37 v) (h : DataW.Trod enc Tryz.prog W 0 sp held 37 v d p) :
    ∃ q : Int × Int, RepO (allG W) (.ag (pairO' q)) v := by
  obtain ⟨v0, v1, y0, y1, n, rfl, rfl, rfl, h0, h1⟩ := Go.Joins.open_agg2 Tryz.underlying37 (by kernel_rfl) (by kernel_rfl) hv h
  obtain ⟨z0, e0, _, _⟩ := DataW.trod_int Tryz.underlying3 h0
  obtain ⟨z1, e1, _, _⟩ := DataW.trod_int Tryz.underlying3 h1
  simp only [List.cons.injEq, and_true] at e0 e1
  subst e0 e1
  refine ⟨(z0, z1), ?_⟩
  rw [RepO]
  refine ⟨_, rfl, ?_⟩
  unfold pairO'
  rw [RepOL]
  refine ⟨_, _, rfl, rep_c' rfl, ?_⟩
  rw [RepOL]
  exact ⟨_, _, rfl, rep_c' rfl, by rw [RepOL]⟩
end
end Go.Proofs.YtnghoibkjphfmaaGreat
