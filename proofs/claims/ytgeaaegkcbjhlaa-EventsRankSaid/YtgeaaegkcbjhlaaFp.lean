/- Arguments that came in, opened into plain data: numbers, pairs. -/
import Derived.Test.YtgeaaegkcbjhlaaFr
import Derived.Test.YtgeaaegkcbjhlaaPb
namespace Go.Proofs.Ytgeaaegkcbjhlaa
open Go.RowKit Go.ChangeShapes Go.WideShapes Go.Deep
section
variable {H : Type} {enc : TypeId × Value → H} {W : World} {sp : Nat → Bool} {held : Bool}
theorem pairs_rep {t e : TypeId} {f0 f1 : Field} {fuel : Nat} {cs : List Value} {x : DataW H × List MemPlace} (ht : Try.prog.underlying t = some (.slice e)) (he : Try.prog.underlying e = some (.struct #[f0, f1])) (ce : Try.prog.cellsOf e = 2) (o0 : f0.offset = 0) (o1 : f1.offset = 1)
    (c0 : Try.prog.cellsOf f0.type = 1) (c1 : Try.prog.cellsOf f1.type = 1) (hby : 1 ≤ Try.prog.bytesOf e) (i0 : Try.prog.underlying f0.type = some (.int .i64)) (i1 : Try.prog.underlying f1.type = some (.int .i64))
    (h : DataW.trod enc Try.prog W 0 sp held fuel t cs = some x) (hw : ∀ n ∈ x.1.weights Try.prog t, n ≤ reachBytes) :
    ∃ (v : Value) (l : List (Int × Int)), cs = [v] ∧ Rep (allM W) (pairsTV l) v ∧ l.length ≤ 1152921504606846976 := by
  obtain ⟨s, l, e1, ⟨e2, e3, e4⟩, _⟩ := pairs_in ht he ce o0 o1 c0 c1 hby i0 i1 h hw
  refine ⟨_, l, e1, ?_, e3⟩
  have hc : s.n ≤ s.c := by
    rcases open_slice_pairs ht he ce o0 o1 c0 c1 h with ⟨rfl, rfl⟩ | ⟨a, len, cap, m, n, V0, V1, D0, D1, P0, P1, rfl, hb, hl, _⟩
    · simp only [List.cons.injEq, Value.slice.injEq, and_true] at e1; omega
    · simp only [List.cons.injEq, Value.slice.injEq, and_true] at e1; omega
  unfold pairsTV
  rw [Rep]
  refine ⟨s.a, s.c, by simp [e2], by simpa [e2] using hc, ?_⟩
  rcases e4 with rfl | ⟨b, off, h4, h5, h6⟩
  · exact Or.inl rfl
  · refine Or.inr ⟨b, off, h4, RepR.of_get fun i r hi => ?_⟩
    rw [List.getElem?_map] at hi
    obtain ⟨n, hn, rfl⟩ := Option.map_eq_some_iff.1 hi
    obtain ⟨hlt, rfl⟩ := List.getElem?_eq_some_iff.1 hn
    have := h6 i hlt
    rw [List.getD_eq_getElem?_getD, List.getElem?_eq_getElem hlt] at this
    refine ⟨rfl, RepC.of_get fun o t ht => ?_⟩
    match o, ht with
    | 0, ht => cases ht; exact ⟨_, this.1, rep_c2 rfl⟩
    | 1, ht => cases ht; exact ⟨_, this.2, rep_c2 rfl⟩
    | o + 2, ht => cases ht
end
end Go.Proofs.Ytgeaaegkcbjhlaa
