/- The ground of the walks of layer 6 on: worlds that lie over a world (old blocks as they were, new ones behind), a drawn region walked once in that class, lists of numbers in memory. -/
import Derived.Test.YtgeaaegkcbjhlaaRows
import Derived.WalkKit
import Derived.WalkSpells
import Derived.WalkLawsBesides
import Derived.Deep.QuietTactic
import Derived.BigQuiet
import Derived.ProofKit
import Derived.Lib.Hide
namespace Go.Proofs.Ytgeaaegkcbjhlaa
open Go.RowKit

theorem ret_int {k : IntKind} {a b : Int} (h : a = b) : Ending.returned (.int k a) = .returned (.int k b) := by rw [h]
theorem ret_bool {a b : Bool} (h : a = b) : Ending.returned (.bool a) = .returned (.bool b) := by rw [h]

/-! ### worlds over a world -/
/-- how far a world lies over another one: the draws' count, the blocks behind -/
structure Over where
  n : Nat
  os : Array Obj
  deriving Inhabited
def over (w : World) (p : Over) : World := { w with drawn := p.n, heap := w.heap ++ p.os }

theorem over_heap (w : World) (p : Over) (k : Nat) (h : k < w.heap.size) : (over w p).heap[k]? = w.heap[k]? := by
  simp [over, Array.getElem?_append, h]
theorem over_cell (w : World) (p : Over) {b o : Nat} {v : Value} (hb : b < w.heap.size) (h : w.cell? ⟨b, o, none⟩ = some v) : (over w p).cell? ⟨b, o, none⟩ = some v := by
  rw [← h]; exact World.cell?_of_block (over_heap w p b hb)
theorem over_below (w : World) (p : Over) : Below w.heap.size w (over w p) :=
  ⟨rfl, rfl, rfl, by simp [over], fun k hk => over_heap w p k hk⟩
theorem below_over {w w' : World} (h : Below w.heap.size w w') : ∃ p : Over, w' = over w p := by
  refine ⟨⟨w'.drawn, w'.heap.extract w.heap.size w'.heap.size⟩, ?_⟩
  obtain ⟨h1, h2, h3, h4, h5⟩ := h
  cases w with | mk heap tape drawn os output =>
  cases w' with | mk heap' tape' drawn' os' output' =>
  simp only at h1 h2 h3 h4 h5
  subst h1 h2 h3
  simp only [over, World.mk.injEq, and_true]
  apply Array.ext_getElem?
  intro i
  by_cases hi : i < heap.size
  · rw [h5 i hi]; simp [Array.getElem?_append, hi]
  · simp only [Array.getElem?_append, hi, if_false]
    rw [Array.getElem?_extract]
    split
    · congr 1; omega
    · rw [Array.getElem?_eq_none (by omega)]
theorem over_over (w : World) (p q : Over) : ∃ r : Over, over (over w p) q = over w r :=
  ⟨⟨q.n, p.os ++ q.os⟩, by simp [over, Array.append_assoc]⟩

/-- A region that draws its order, whose operations only read and whose callees leave what lay below as it was: walked once, in the text's order. -/
theorem wp_region_over {P : Program} {id : Nat} {Q : Exit → Act → World → Prop} {a : Act} {w : World} {l : List Oper} (hm : P.follows .mixedOrders = true) (hB : Region.lexB .any l.toArray = true)
    (h : wpQuiet P l.toArray (fun w' => ∃ p : Over, w' = over w p) (fun a' => ∀ w', (∃ p : Over, w' = over w p) → Q .normal a' w') l a) : (Code.region id l.toArray true).wp P Q a w :=
  wp_region_quiet (C := fun w' => ∃ p : Over, w' = over w p) hm hB ⟨⟨w.drawn + 1, #[]⟩, by simp [over]⟩ (by simpa using h)

/-- A new block under a world's name of its own. -/
theorem alloc_opaque {w : World} {cs : Array Value} {t : TypeId} {X : World → Prop}
    (h : ∀ W, Below w.heap.size w W → w.heap.size < W.heap.size → (∀ j v, cs[j]? = some v → W.cell? ⟨w.heap.size, j, none⟩ = some v) → X W) : X (w.alloc (.cells cs t)) :=
  h _ ((Below.refl _ _).alloc (Nat.le_refl _) _) (by simp) (fun j v hj => by
    have hp : (w.alloc (.cells cs t)).heap[w.heap.size]? = some (.cells cs t) := by show (w.heap.push _)[w.heap.size]? = _; simp
    rw [← hj]; simp only [World.cell?, hp]; simp)

/-- A callee's contract, met in a world of the class. -/
theorem quiet_over {P : Program} {f : FuncId} {args : Array Value} {w : World} {p : Over} {v : Value}
    (h : Calls P f args (over w p) fun e w' => e = .returned v ∧ Below (over w p).heap.size (over w p) w') : Calls P f args (over w p) fun e w'' => e = .returned v ∧ ∃ q : Over, w'' = over w q :=
  h.mono fun _ _ ⟨he, hb⟩ => ⟨he, by obtain ⟨q, rfl⟩ := below_over hb; exact over_over w p q⟩

end Go.Proofs.Ytgeaaegkcbjhlaa
