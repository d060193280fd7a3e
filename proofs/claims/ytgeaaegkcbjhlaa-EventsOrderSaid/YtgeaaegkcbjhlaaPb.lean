/- Pairs as plain data; Acyclic in plain data. -/
import Derived.Test.YtgeaaegkcbjhlaaBr
import Derived.Test.YtgeaaegkcbjhlaaAcy
set_option linter.unusedVariables false
namespace Go.Proofs.Ytgeaaegkcbjhlaa
open Go.RowKit Go.ChangeShapes Go.WideShapes Go.Deep

def pairTV (p : Int × Int) : List TV := [.c (.int .i64 p.1), .c (.int .i64 p.2)]
def pairsTV (l : List (Int × Int)) : TV := .sl 2 (l.map pairTV)
theorem pairs_back {M : Mem} {w : World} (hm : ∀ b o v, M b o = some v → w.cell? ⟨b, o, none⟩ = some v) {l : List (Int × Int)} {v : Value} (h : Rep M (pairsTV l) v) (hl : l.length ≤ 1152921504606846976) : ∃ s : Sl, v = .slice s.a s.n s.c ∧ PairsZ w.heap.size w s l := by
  unfold pairsTV at h
  rw [Rep] at h
  obtain ⟨a, c, h1, h2, h3⟩ := h
  rw [List.length_map] at h1
  refine ⟨⟨a, l.length, c⟩, h1, rfl, hl, ?_⟩
  rcases h3 with h3 | ⟨b, off, h4, h5⟩
  · exact Or.inl (List.map_eq_nil_iff.1 h3)
  · have get : ∀ k, k < l.length → w.cell? ⟨b, off + k * 2, none⟩ = some (.int .i64 (l.getD k (0, 0)).1) ∧ w.cell? ⟨b, off + k * 2 + 1, none⟩ = some (.int .i64 (l.getD k (0, 0)).2) := fun k hk => by
      obtain ⟨_, g2⟩ := h5.get (get_map (f := pairTV) hk (0, 0))
      obtain ⟨u, g3, g4⟩ := g2.get (o := 0) rfl
      obtain ⟨u', g5, g6⟩ := g2.get (o := 1) rfl
      rw [Rep] at g4 g6
      rw [g4.1] at g3
      rw [g6.1] at g5
      exact ⟨hm _ _ _ g3, hm _ _ _ g5⟩
    by_cases hz : l = []
    · exact Or.inl hz
    · exact Or.inr ⟨b, off, h4, (cell_lt (get 0 (List.length_pos_iff.2 hz)).1).2, get⟩
theorem acyclic_p (n : Int) (l : List (Int × Int)) (hl : l.length ≤ 4096) : Pure E.P 13 [.int .i64 n, .d (pairsTV l)] (.bool (acyI n l)) := by
  refine pure_of ⟨_, Try.func13, by decide, rfl⟩ rfl fun G w vs hr hm => ?_
  rw [RepOL] at hr
  obtain ⟨v, us, rfl, r0, hr⟩ := hr
  rw [RepOL] at hr
  obtain ⟨v1, us1, rfl, r1, hr⟩ := hr
  rw [RepOL] at hr
  subst hr
  have e0 := rep_c r0
  subst e0
  rw [RepO] at r1
  obtain ⟨s, rfl, hs⟩ := pairs_back hm r1 (by omega)
  exact acyclic_c n s l w hs hl
end Go.Proofs.Ytgeaaegkcbjhlaa
