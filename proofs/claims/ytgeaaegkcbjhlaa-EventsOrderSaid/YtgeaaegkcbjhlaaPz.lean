/- Pairs of ints in memory; the taking away of places, plain. -/
import Derived.Test.YtgeaaegkcbjhlaaMem
namespace Go.Proofs.Ytgeaaegkcbjhlaa
open Go.RowKit

/-- Below block B, the slice s holds these pairs of ints. -/
def PairsZ (B : Nat) (w : World) (s : Sl) (l : List (Int × Int)) : Prop :=
  s.n = l.length ∧ l.length ≤ 1152921504606846976 ∧
  (l = [] ∨ ∃ b off, s.a = some ⟨b, off, none⟩ ∧ b < B ∧ ∀ k, k < l.length → w.cell? ⟨b, off + k * 2, none⟩ = some (.int .i64 (l.getD k (0, 0)).1) ∧ w.cell? ⟨b, off + k * 2 + 1, none⟩ = some (.int .i64 (l.getD k (0, 0)).2))
theorem PairsZ.below {B : Nat} {w w' : World} {s : Sl} {l : List (Int × Int)} (h : PairsZ B w s l) (hb : Below B w w') : PairsZ B w' s l := by
  obtain ⟨h1, h2, h3⟩ := h
  refine ⟨h1, h2, ?_⟩
  rcases h3 with h3 | ⟨b, off, h4, h5, h6⟩
  · exact Or.inl h3
  · exact Or.inr ⟨b, off, h4, h5, fun k hk => by rw [hb.cell (by exact h5), hb.cell (by exact h5)]; exact h6 k hk⟩
theorem PairsZ.mono {B B' : Nat} {w : World} {s : Sl} {l : List (Int × Int)} (h : PairsZ B w s l) (hB : B ≤ B') : PairsZ B' w s l := by
  obtain ⟨h1, h2, h3⟩ := h
  refine ⟨h1, h2, ?_⟩
  rcases h3 with h3 | ⟨b, off, h4, h5, h6⟩
  · exact Or.inl h3
  · exact Or.inr ⟨b, off, h4, by omega, h6⟩

def outB (n : Int) (p : Int × Int) : Bool := decide (p.1 < 0) || decide (n ≤ p.1) || decide (p.2 < 0) || decide (n ≤ p.2)

abbrev Gone := Nat → Bool
def updB (g : Gone) (p : Nat) : Gone := fun i => if i = p then true else g i
/-- does an arrow lead to a place, from a place that is there? -/
def ledB (l : List (Int × Int)) (g : Gone) (p : Nat) : Bool := l.any (fun q => (q.2 == (p : Int)) && !g q.1.toNat)
def takeP (l : List (Int × Int)) (g : Gone) (p : Nat) : Gone := if ledB l g p then g else updB g p
def passTo (l : List (Int × Int)) (g : Gone) (k : Nat) : Gone := (List.range k).foldl (takeP l) g
def roundsTo (l : List (Int × Int)) (n : Nat) : Nat → Gone
  | 0 => fun _ => false
  | r + 1 => passTo l (roundsTo l n r) n
def circleB (n : Nat) (l : List (Int × Int)) : Bool := (List.range n).any (fun p => !roundsTo l n n p)
theorem passTo_succ (l : List (Int × Int)) (g : Gone) (k : Nat) : passTo l g (k + 1) = takeP l (passTo l g k) k := by
  simp [passTo, List.range_succ, List.foldl_append]
/-- what is gone stays gone -/
theorem takeP_mono (l : List (Int × Int)) (g : Gone) (p i : Nat) (h : g i = true) : takeP l g p i = true := by
  unfold takeP
  split
  · exact h
  · unfold updB; split
    · rfl
    · exact h
theorem passTo_mono (l : List (Int × Int)) (g : Gone) (k i : Nat) (h : g i = true) : passTo l g k i = true := by
  induction k with
  | zero => exact h
  | succ k ih => rw [passTo_succ]; exact takeP_mono _ _ _ _ ih
end Go.Proofs.Ytgeaaegkcbjhlaa
