/- Executions as plain data; how they lie in memory, told once: from what a walk of the elder ground speaks of to plain data, and back. -/
import Derived.Test.YtgeaaegkcbjhlaaVk
import Derived.Test.YtgeaaegkcbjhlaaMem
import Derived.Test.YtgeaaegkcbjhlaaTy
set_option maxRecDepth 100000
namespace Go.Proofs.Ytgeaaegkcbjhlaa
open Go.RowKit

/-- an event's cells -/
def evTV (e : Ev) : List TV := [.c (.int .i64 e.hart), .c (.int .i64 e.kind), .c (.int .u32 e.addr), .c (.int .u32 e.val), .c (.int .u32 e.rval), .c (.bool e.aq), .c (.bool e.rl), .c (.int .i64 e.pred), .c (.int .i64 e.succ), .c (.bool e.rsv), ints e.addrs, ints e.datas, ints e.ctrls]
def evOV (e : Ev) : OV := .ag ((evTV e).map .d)
def evsTV (l : List Ev) : TV := .sl 13 (l.map evTV)
def intRow (r : Sl × List Int) : List TV := [ints r.2]
def rowsTV (l : List (Sl × List Int)) : TV := .sl 1 (l.map intRow)
def exOV (x : Ex) : OV := .ag [.d (evsTV x.evs), .d (ints x.from_), .d (rowsTV x.order)]
/-- numbers of 32 bits in a slice -/
def cellU (n : Int) : List TV := [.c (.int .u32 n)]
def words (l : List Int) : TV := .sl 1 (l.map cellU)

/-- all memory that there is -/
def allM (w : World) : Mem := fun b o => w.cell? ⟨b, o, none⟩
def allG (w : World) : Gh := ⟨allM w, fun _ _ => none⟩
theorem WRel.all (w : World) (N : Nat) : WRel ⟨w, fun _ => False, allG w, N⟩ (allG w) Store.nil w where
  mem _ _ _ h := h
  own k τ r hk := by cases hk
  inj k k' τ τ' β β' r r' hk := by cases hk
  keep _ _ _ := rfl
  size := Nat.le_refl _
  tape := rfl
  os := rfl
  output := rfl
  g0 := .refl _
  new _ _ _ h := Or.inl h
  bound := ⟨0, fun _ _ _ _ => rfl⟩
  low _ _ _ _ := rfl
theorem rep_c2 {M : Mem} {v : Value} (h : v.oneCell' = true) : Rep M (.c v) v := by rw [Rep]; exact ⟨rfl, h⟩

/-! ### from the elder ground -/
theorem IntsIn.rep {q : IntKind} {B : Nat} {w : World} {s : Sl} {l : List Int} (h : IntsIn q B w s l) (hc : s.n ≤ s.c) : Rep (allM w) (.sl 1 (l.map fun n => [TV.c (.int q n)])) (.slice s.a s.n s.c) := by
  obtain ⟨h1, h2, h3⟩ := h
  rw [Rep]
  refine ⟨s.a, s.c, by simp [h1], by simpa [h1] using hc, ?_⟩
  rcases h3 with rfl | ⟨b, off, h4, h5, h6⟩
  · exact Or.inl rfl
  · refine Or.inr ⟨b, off, h4, RepR.of_get fun i r hi => ?_⟩
    rw [List.getElem?_map] at hi
    obtain ⟨n, hn, rfl⟩ := Option.map_eq_some_iff.1 hi
    obtain ⟨hlt, rfl⟩ := List.getElem?_eq_some_iff.1 hn
    refine ⟨rfl, RepC.of_get fun o t ht => ?_⟩
    cases o with
    | succ o => simp at ht
    | zero =>
      simp at ht
      subst ht
      have := h6 i hlt
      rw [List.getD_eq_getElem?_getD, List.getElem?_eq_getElem hlt] at this
      exact ⟨_, by simpa [allM] using this, rep_c2 rfl⟩
end Go.Proofs.Ytgeaaegkcbjhlaa
