/- Pairs of places: how they are compared; slices.AppendSeq, Collect, SortedFunc at pairs, against whatever iterator value; 'pairs'. -/
import Derived.Test.YtgeaaegkcbjhlaaColl
import Derived.Test.YtgeaaegkcbjhlaaMem
import Derived.Test.YtgeaaegkcbjhlaaShelfP
import Derived.RangeFuncNested
import Derived.Shelf.SlSortCmp.NoneTotal
namespace Go.Proofs.Ytgeaaegkcbjhlaa
open Go.RowKit Go.Shelf Go.Maps Go.Sort


/-- two places -/
abbrev P2 := Fin 65536 × Fin 65536
def encP (x : P2) : List Value := [.int .i64 (x.1.val : Int), .int .i64 (x.2.val : Int)]
def aggP (x : P2) : Value := .agg #[.int .i64 (x.1.val : Int), .int .i64 (x.2.val : Int)]
def cmpP (x y : P2) : Int := if x.1.val = y.1.val then (x.2.val : Int) - (y.2.val : Int) else (x.1.val : Int) - (y.1.val : Int)
def ltP (x y : P2) : Bool := decide (x.1.val < y.1.val ∨ (x.1.val = y.1.val ∧ x.2.val < y.2.val))
theorem ltOf_cmpP (x y : P2) : ltOf cmpP x y = ltP x y := by
  unfold ltOf ltP cmpP
  by_cases h : x.1.val = y.1.val
  · rw [if_pos h]
    refine decide_eq_decide.2 ?_
    omega
  · rw [if_neg h]
    refine decide_eq_decide.2 ?_
    omega
theorem swoP : SWO (ltOf cmpP) where
  irrefl x := by rw [ltOf_cmpP]; simp [ltP]
  trans x y z h1 h2 := by rw [ltOf_cmpP] at *; simp only [ltP, decide_eq_true_eq] at *; omega
  ntrans x y z h1 h2 := by rw [ltOf_cmpP] at *; simp only [ltP, decide_eq_false_iff_not] at *; omega

set_option maxHeartbeats 1000000 in
theorem cmpP_c (x y : P2) (W : World) : Calls Try.prog 55 #[aggP x, aggP y] W fun e w' => e = .returned (.int .i64 (cmpP x y)) ∧ ∃ q os', w' = grow (W.drewN q) os' := by
  obtain ⟨⟨a, ha⟩, ⟨b, hb⟩⟩ := x
  obtain ⟨⟨c, hc⟩, ⟨d, hd⟩⟩ := y
  unfold aggP cmpP
  dsimp only
  by_cases h : a = c
  · rw [if_pos h]
    subst h
    have h1 : ((a : Int) != (a : Int)) = false := by simp
    go_enter Try.func55, Try.ntmps55
    go_wp2
    go_ret
    exact ⟨rfl, 0, _, by rw [alloc_eq_grow, alloc_eq_grow, grow_grow]; rfl⟩
  · rw [if_neg h]
    have h1 : ((a : Int) != (c : Int)) = true := by simp; omega
    have h2 : (a != c) = true := by simpa using h
    clear h
    go_enter Try.func55, Try.ntmps55
    go_wp2
    go_ret
    exact ⟨rfl, 0, _, by rw [alloc_eq_grow, alloc_eq_grow, grow_grow]; rfl⟩

theorem cmpLaysP (blk off size : Nat) (w : World) : CmpLays Try.prog 55 #[] encP 2 cmpP blk off size w :=
  fun _ _ _ _ x y => cmpP_c x y _

theorem sortPairs_c (blk off cap : Nat) (d : Array P2) (w : World) (hH : HoldsK encP 2 w blk off d) (hblk : blk < w.heap.size) (hsz : d.size < 4611686018427387904) :
    Calls Try.prog 63 #[.slice (some ⟨blk, off, none⟩) d.size cap, .func (.func 55) #[] #[]] w fun e w' => e = .returned (.tuple #[]) ∧ ∃ d' n os, PermIn 0 d.size d d' ∧ SortedIn ltP 0 d.size d' ∧ w' = sortWorldK encP 2 w blk off n d' os := by
  have h := AnyQ.slices_SortFunc Try.sortPairs 2 Try.isAgg34 Try.sizeOf34 encP (fun _ => rfl) (fun x v hv => by simp [encP] at hv; rcases hv with rfl | rfl <;> rfl) cmpP swoP 55 #[] blk off cap d w (enters_of Try.func55 (by kernel_rfl) rfl) (cmpLaysP blk off d.size w) hH hblk hsz
  refine Calls.mono h ?_
  rintro e w' ⟨he, d', n, os, hp, hs, hw⟩
  exact ⟨he, d', n, os, hp, fun i j h1 h2 h3 => by rw [← ltOf_cmpP]; exact hs i j h1 h2 h3, hw⟩
theorem sortPairs_none (p : Option Addr) (cap : Nat) (fv : Value) (w : World) :
    Calls Try.prog 63 #[.slice p 0 cap, fv] w fun e w' => e = .returned (.tuple #[]) ∧ w' = w := AnyF.slices_SortFunc_none Try.sortPairs p cap fv w
end Go.Proofs.Ytgeaaegkcbjhlaa
