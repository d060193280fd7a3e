/- EventsRank, plain: arrows that go up in ranks have no circle; with one of them turned back there is one. -/
import Derived.Test.YtgeaaegkcbjhlaaCircP
set_option linter.unusedVariables false
namespace Go.Proofs.Ytgeaaegkcbjhlaa
/-- do the ranks go up? -/
def upB (r : List Int) (p : Int × Int) : Bool := decide (0 ≤ p.1) && decide (p.1 < r.length) && decide (0 ≤ p.2) && decide (p.2 < r.length) && decide (r.getD p.1.toNat 0 < r.getD p.2.toNat 0)
def ups (r : List Int) (l : List (Int × Int)) (k : Nat) : List (Int × Int) := (l.take k).filter (upB r)
theorem ups_up (r : List Int) (l : List (Int × Int)) (k : Nat) : ∀ q ∈ ups r l k, upB r q = true := fun q hq => (List.mem_filter.1 hq).2
theorem up_in {r : List Int} {q : Int × Int} (h : upB r q = true) : outB r.length q = false ∧ r.getD q.1.toNat 0 < r.getD q.2.toNat 0 := by
  unfold upB at h
  simp only [Bool.and_eq_true, decide_eq_true_eq] at h
  refine ⟨?_, h.2⟩
  unfold outB
  simp only [Bool.or_eq_false_iff, decide_eq_false_iff_not]
  omega
theorem up_ok {r : List Int} {L : List (Int × Int)} (h : ∀ q ∈ L, upB r q = true) : L.any (outB r.length) = false := by
  rw [List.any_eq_false]
  intro q hq
  rw [(up_in (h q hq)).1]; simp
theorem way_up {r : List Int} {L : List (Int × Int)} (h : ∀ q ∈ L, upB r q = true) {a b : Nat} (w : Way L a b) : r.getD a 0 < r.getD b 0 := by
  have one : ∀ {a b : Nat}, Arr L a b → r.getD a 0 < r.getD b 0 := by
    rintro a b ⟨q, hq, h1, h2⟩
    have := (up_in (h q hq)).2
    rw [h1, h2] at this
    simpa using this
  induction w with
  | one h => exact one h
  | more _ h2 ih => exact Int.lt_trans ih (one h2)
theorem acyI_up {r : List Int} {L : List (Int × Int)} (hr : r.length ≤ 64) (h : ∀ q ∈ L, upB r q = true) : acyI r.length L = true := by
  unfold acyI badB
  have hok := up_ok h
  rw [hok]
  have e1 : decide ((r.length : Int) < 0) = false := by simp
  have e2 : decide ((64 : Int) < r.length) = false := by simp; omega
  simp only [e1, e2, Bool.or_false, Bool.not_false, Bool.true_and, Int.toNat_natCast]
  rw [acy_circle hr hok]
  cases hc : acyB r.length L with
  | true => rw [acy_circle hr hok] at hc; exact hc
  | false =>
    obtain ⟨c, hw⟩ := range_bad hr hok (List.range r.length) (fun _ => 0) (by intro b hb; have := List.mem_range.1 hb; omega) (by simp) (by simp) hc
    exact absurd (way_up h hw) (by omega)
theorem acyI_back {r : List Int} {L : List (Int × Int)} (hr : r.length ≤ 64) (h : ∀ q ∈ L, upB r q = true) {p : Int × Int} (hp : p ∈ L) : acyI r.length (L ++ [(p.2, p.1)]) = false := by
  unfold acyI badB
  have hin := (up_in (h p hp)).1
  have hok : (L ++ [(p.2, p.1)]).any (outB r.length) = false := by
    rw [List.any_append, up_ok h]
    unfold outB at hin ⊢
    simp only [Bool.or_eq_false_iff, decide_eq_false_iff_not] at hin
    simp only [List.any_cons, List.any_nil, Bool.or_false, Bool.false_or, Bool.or_eq_false_iff, decide_eq_false_iff_not]
    omega
  have e1 : decide ((r.length : Int) < 0) = false := by simp
  have e2 : decide ((64 : Int) < r.length) = false := by simp; omega
  simp only [hok, e1, e2, Bool.or_false, Bool.not_false, Bool.true_and, Int.toNat_natCast]
  unfold outB at hin
  simp only [Bool.or_eq_false_iff, decide_eq_false_iff_not] at hin
  have w : Way (L ++ [(p.2, p.1)]) p.1.toNat p.1.toNat :=
    .more (.one ⟨p, by simp [hp], by omega, (by omega : p.2 = (p.2.toNat : Int))⟩) ⟨(p.2, p.1), by simp, by simp; omega, by simp; omega⟩
  rw [acy_circle hr hok, way_circle hok w]; rfl
end Go.Proofs.Ytgeaaegkcbjhlaa
