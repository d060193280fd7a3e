/- A map of rows of ints: what a look-up gives, in every world in which the map's block lies as it lay; the rows told by a plain function. -/
import Derived.Test.YtgeaaegkcbjhlaaDfs
namespace Go.Proofs.Ytgeaaegkcbjhlaa
open Go.RowKit Go.Maps
open Go.WideElems (Fit rd rg pl rd_key)

theorem pair_unique {α β : Type} (f : α → β) : ∀ (l : List α), (l.map f).Pairwise (fun p q => p ≠ q) → ∀ x ∈ l, ∀ y ∈ l, f x = f y → x = y
  | [], _, x, hx, _, _, _ => by simp at hx
  | z :: r, h, x, hx, y, hy, e => by
    rw [List.map_cons, List.pairwise_cons] at h
    rcases List.mem_cons.1 hx with rfl | hx2
    · rcases List.mem_cons.1 hy with rfl | hy
      · rfl
      · exact absurd e (h.1 _ (List.mem_map_of_mem hy))
    · rcases List.mem_cons.1 hy with hy | hy
      · subst hy; exact absurd e.symm (h.1 _ (List.mem_map_of_mem hx2))
      · exact pair_unique f r h.2 x hx2 y hy e

theorem look_same {H : Type} {P : Program} {t k E : TypeId} {w w' : World} {b : Nat} {es : Array MapEntry} {clock : Nat} {R : Value → Option (DataW H × List MemPlace)} {key z v : Value} {kl : Lit} (K : Keyed P k) (ht : P.underlying t = some (.map k E))
    (hz : ∀ w, (zeroValue E).run P w = .ok z w) (hb : w.heap[b]? = some (.map es clock)) (hb' : w'.heap[b]? = some (.map es clock)) (F : Fit P k R es clock) (hkey : keyOf P k key = some kl)
    (hrun : (Instr.lookup t (.map (some b)) key false).run P w = .ok v w) : (Instr.lookup t (.map (some b)) key false).run P w' = .ok v w' := by
  rcases Maps.fit_look false K ht (hz w) hb F hkey with ⟨h1, h2, _⟩ | ⟨e0, y0, hm0, hk0, h1, hR0, hat0, _⟩
  · rcases Maps.fit_look false K ht (hz w') hb' F hkey with ⟨g1, _, _⟩ | ⟨e1, y1, hm1, hk1, g1, _⟩
    · rw [hrun] at h1
      simp only [Bool.false_eq_true, if_false] at h1 g1
      injection h1 with h1 _
      rw [g1, h1]
    · exact absurd hk1 (h2 e1 hm1)
  · rcases Maps.fit_look false K ht (hz w') hb' F hkey with ⟨_, g2, _⟩ | ⟨e1, y1, hm1, hk1, g1, hR1, hat1, _⟩
    · exact absurd hk0 (g2 e0 hm0)
    · have ap := fit_apart K F
      have hpair : (es.toList.map fun x => (rg P k R x).1).Pairwise (fun p q => p ≠ q) := by
        rw [List.pairwise_map] at ap ⊢
        exact ap
      have he : e0 = e1 := by
        refine pair_unique _ _ hpair e0 hm0 e1 hm1 ?_
        obtain ⟨u0, hu0⟩ := F.reads e0 hm0
        obtain ⟨u1, hu1⟩ := F.reads e1 hm1
        have k0 := rd_key hu0
        have k1 := rd_key hu1
        rw [hk0, hkey] at k0
        rw [hk1, hkey] at k1
        show (rg P k R e0).1 = (rg P k R e1).1
        unfold rg
        rw [hu0, hu1]
        injection k0 with k0
        injection k1 with k1
        show u0.1 = u1.1
        rw [← k0, ← k1]
      rw [hrun] at h1
      simp only [Bool.false_eq_true, if_false] at h1 g1
      injection h1 with h1 _
      rw [g1, h1, he]
end Go.Proofs.Ytgeaaegkcbjhlaa
