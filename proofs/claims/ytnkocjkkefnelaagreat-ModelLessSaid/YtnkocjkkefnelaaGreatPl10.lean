/- Parts. -/
import Derived.Lib.SmallJoins
import Derived.WideKeyArgs
import Derived.Deep.SlicePairs
import Derived.SizedLaws
import Derived.ProofKit
import Derived.OpenShut
import Derived.Test.YtnkocjkkefnelaaGreatPl3
import Derived.Test.YtnkocjkkefnelaaGreatPl4
import Derived.Test.YtnkocjkkefnelaaGreatPl6
import Derived.Test.YtnkocjkkefnelaaGreatPl8
import Derived.Test.YtnkocjkkefnelaaGreatPl9
set_option linter.unusedVariables false
set_option linter.unusedSimpArgs false
set_option maxHeartbeats 4000000
set_option maxRecDepth 100000
namespace Go.Proofs.YtnkocjkkefnelaaGreat
open Go.RowKit
def evTV (e : Ev) : List TV := [.c (.int .i64 e.hart), .c (.int .i64 e.kind), .c (.int .u32 e.addr), .c (.int .u32 e.val), .c (.int .u32 e.rval), .c (.bool e.aq), .c (.bool e.rl), .c (.int .i64 e.pred), .c (.int .i64 e.succ), .c (.bool e.rsv), ints e.addrs, ints e.datas, ints e.ctrls]
def evOV (e : Ev) : OV := .ag ((evTV e).map .d)
def evsTV (l : List Ev) : TV := .sl 13 (l.map evTV)
def intRow (r : Sl × List Int) : List TV := [ints r.2]
def rowsTV (l : List (Sl × List Int)) : TV := .sl 1 (l.map intRow)
def exOV (x : Ex) : OV := .ag [.d (evsTV x.evs), .d (ints x.from_), .d (rowsTV x.order)]
def cellU (n : Int) : List TV := [.c (.int .u32 n)]
def words (l : List Int) : TV := .sl 1 (l.map cellU)
def allM (w : World) : Mem := fun b o => w.cell? ⟨b, o, none⟩
def allG (w : World) : Gh := ⟨allM w, fun _ _ => none⟩
theorem WRel.all (w : World) (N : Nat) : WRel ⟨w, fun _ => False, allG w, N⟩ (allG w) Store.nil w where
 mem _ _ _ h := h
 own k τ r hk := by cases hk
 inj k k' τ τ' β β' r r' hk := by cases hk
 keep _ _ _ := rfl
 size := Nat.le_refl _
 tape := rfl
 os := rfl
 output := rfl
 g0 := .refl _
 new _ _ _ h := Or.inl h
 bound := ⟨0, fun _ _ _ _ => rfl⟩
 low _ _ _ _ := rfl
theorem xV {M : Mem} {v : Value} (h : v.oneCell' = true) : Rep M (.c v) v := by rw [Rep]; exact ⟨rfl, h⟩
theorem IntsIn.rep {q : IntKind} {B : Nat} {w : World} {s : Sl} {l : List Int} (h : IntsIn q B w s l) (hc : s.n ≤ s.c) : Rep (allM w) (.sl 1 (l.map fun n => [TV.c (.int q n)])) (.slice s.a s.n s.c) := by
 obtain ⟨h1, h2, h3⟩ := h
 rw [Rep]
 refine ⟨s.a, s.c, by simp [h1], by simpa [h1] using hc, ?_⟩
 rcases h3 with rfl | ⟨b, off, h4, h5, h6⟩
 ·exact Or.inl rfl
 ·refine Or.inr ⟨b, off, h4, RepR.of_get fun i r hi => ?_⟩
  rw [List.getElem?_map] at hi
  obtain ⟨n, hn, rfl⟩ := Option.map_eq_some_iff.1 hi
  obtain ⟨hlt, rfl⟩ := List.getElem?_eq_some_iff.1 hn
  refine ⟨rfl, RepC.of_get fun o t ht => ?_⟩
  cases o with
  | succ o => simp at ht
  | zero =>
   simp at ht
   subst ht
   have := h6 i hlt
   rw [List.getD_eq_getElem?_getD, List.getElem?_eq_getElem hlt] at this
   exact ⟨_, by simpa [allM] using this, xV rfl⟩
def PairsZ (B : Nat) (w : World) (s : Sl) (l : List (Int × Int)) : Prop :=
 s.n = l.length ∧ l.length ≤ 1152921504606846976 ∧
 (l = [] ∨ ∃ b off, s.a = some ⟨b, off, none⟩ ∧ b < B ∧ ∀ k, k < l.length → w.cell? ⟨b, off + k * 2, none⟩ = some (.int .i64 (l.getD k (0, 0)).1) ∧ w.cell? ⟨b, off + k * 2 + 1, none⟩ = some (.int .i64 (l.getD k (0, 0)).2))
theorem PairsZ.below {B : Nat} {w w' : World} {s : Sl} {l : List (Int × Int)} (h : PairsZ B w s l) (hb : Below B w w') : PairsZ B w' s l := by
 obtain ⟨h1, h2, h3⟩ := h
 refine ⟨h1, h2, ?_⟩
 rcases h3 with h3 | ⟨b, off, h4, h5, h6⟩
 ·exact Or.inl h3
 ·exact Or.inr ⟨b, off, h4, h5, fun k hk => by rw [hb.cell (by exact h5), hb.cell (by exact h5)]; exact h6 k hk⟩
theorem PairsZ.mono {B B' : Nat} {w : World} {s : Sl} {l : List (Int × Int)} (h : PairsZ B w s l) (hB : B ≤ B') : PairsZ B' w s l := by
 obtain ⟨h1, h2, h3⟩ := h
 refine ⟨h1, h2, ?_⟩
 rcases h3 with h3 | ⟨b, off, h4, h5, h6⟩
 ·exact Or.inl h3
 ·exact Or.inr ⟨b, off, h4, by omega, h6⟩
def outB (n : Int) (p : Int × Int) : Bool := decide (p.1 < 0) || decide (n ≤ p.1) || decide (p.2 < 0) || decide (n ≤ p.2)
abbrev Gone := Nat → Bool
def updB (g : Gone) (p : Nat) : Gone := fun i => if i = p then true else g i
def ledB (l : List (Int × Int)) (g : Gone) (p : Nat) : Bool := l.any (fun q => (q.2 == (p : Int)) && !g q.1.toNat)
def takeP (l : List (Int × Int)) (g : Gone) (p : Nat) : Gone := if ledB l g p then g else updB g p
def passTo (l : List (Int × Int)) (g : Gone) (k : Nat) : Gone := (List.range k).foldl (takeP l) g
def roundsTo (l : List (Int × Int)) (n : Nat) : Nat → Gone
 | 0 => fun _ => false
 | r + 1 => passTo l (roundsTo l n r) n
def circleB (n : Nat) (l : List (Int × Int)) : Bool := (List.range n).any (fun p => !roundsTo l n n p)
theorem bU (l : List (Int × Int)) (g : Gone) (k : Nat) : passTo l g (k + 1) = takeP l (passTo l g k) k := by
 simp [passTo, List.range_succ, List.foldl_append]
theorem jH (l : List (Int × Int)) (g : Gone) (p i : Nat) (h : g i = true) : takeP l g p i = true := by
 unfold takeP
 split
 ·exact h
 ·unfold updB; split
  ·rfl
  ·exact h
theorem passTo_mono (l : List (Int × Int)) (g : Gone) (k i : Nat) (h : g i = true) : passTo l g k i = true := by
 induction k with
 | zero => exact h
 | succ k ih => rw [bU]; exact jH _ _ _ _ ih
open Go.RowKit Go.ChangeShapes Go.WideShapes Go.Deep
theorem below_sameAt {n : Nat} {W W' : World} {q : MemPlace} (h : Below n W W') (hq : q.block < n) : W.sameAt W' q := by
 cases q with
 | cell b o => exact World.cell?_of_block (w := W) (h.block b hq)
 | map b => exact h.block b hq
theorem lX {H : Type} {enc : TypeId × Value → H} {W W' : World} (hl : laidOutB Tryz.prog = true) (hb : Below W.heap.size W W') :
  ∀ {ts : List TypeId} {vs : List Value} {ds : List (DataW H)} {p : List MemPlace}, (∀ t ∈ ts, Tryz.prog.readableRec t = true ∧ t < Tryz.prog.types.size) → DataW.TrodAll enc Tryz.prog W 0 (fun _ => true) true ts vs ds p → (∀ q ∈ p, q.block < W.heap.size) →
   ∀ sp : Nat → Bool, (∀ q ∈ p, sp q.block = true) → DataW.TrodAll enc Tryz.prog W' 0 sp true ts vs ds p
 | [], vs, ds, p, _, h, _, sp, _ => by
  obtain ⟨rfl, rfl, rfl⟩ := trodAll_nil h
  exact trodAll_mk0
 | t :: ts, vs, ds, p, ht, h, hlt, sp, hsp => by
  obtain ⟨v, vs', d, ds', p0, p1, rfl, rfl, rfl, h0, r0⟩ := trodAll_cons h
  have h1 := WideElems.Trod_stays hl (ht t (by simp)).1 (ht t (by simp)).2 (W' := W') (sp' := sp) h0 (fun q hq => below_sameAt hb (hlt q (by simp [hq]))) (fun q hq => hsp q (by simp [hq]))
  exact trodAll_cons_mk h1 (lX hl hb (fun t' ht' => ht t' (by simp [ht'])) r0 (fun q hq => hlt q (by simp [hq])) sp (fun q hq => hsp q (by simp [hq])))
theorem laid_ok : laidOutB Tryz.prog = true := by kernel_rfl
theorem lT {H : Type} {P : Program} {e : TypeId} : ∀ {es : List (DataW H)} {d : DataW H}, d ∈ es → ∀ n ∈ d.weights P e, n ∈ DataW.weightsAll P e es
 | [], _, h, _, _ => by cases h
 | x :: es, d, h, n, hn => by
  simp only [DataW.weightsAll, List.mem_append]
  rcases List.mem_cons.1 h with rfl | h
  ·exact Or.inl hn
  ·exact Or.inr (lT h n hn)
theorem nM {H : Type} {P : Program} {t e : TypeId} {es sp : List (DataW H)} (ht : P.underlying t = some (.slice e)) (h : ∀ n ∈ (DataW.slice es sp).weights P t, n ≤ reachBytes) :
  (es.length + sp.length) * P.bytesOf e ≤ reachBytes ∧ ∀ d ∈ es, ∀ n ∈ d.weights P e, n ≤ reachBytes := by
 unfold DataW.weights at h
 rw [ht] at h
 refine ⟨h _ (by simp), fun d hd n hn => h n ?_⟩
 simp only [List.mem_cons, List.mem_append]
 exact Or.inr (Or.inl (lT hd n hn))
theorem zU {H : Type} {P : Program} {t : TypeId} {fs : Array Field} {parts : List (DataW H)} (ht : P.underlying t = some (.struct fs)) (h : ∀ n ∈ (DataW.agg parts).weights P t, n ≤ reachBytes) {i : Nat} {f : Field} {d : DataW H} (hf : fs[i]? = some f) (hd : parts[i]? = some d) :
  ∀ n ∈ d.weights P f.type, n ≤ reachBytes := by
 intro n hn
 refine h n ?_
 unfold DataW.weights
 rw [ht]
 exact DataW.weights_mem_each (j := i) (t := f.type) (by simp [hf]) hd n hn
theorem w_arg {H : Type} {P : Program} {ts : List TypeId} {ds : List (DataW H)} (h : (DataW.weightsEach P ts ds).all (· ≤ reachBytes) = true) {j : Nat} {t : TypeId} {d : DataW H} (ht : ts[j]? = some t) (hd : ds[j]? = some d) : ∀ n ∈ d.weights P t, n ≤ reachBytes := by
 intro n hn
 have := List.all_eq_true.1 h n (DataW.weights_mem_each ht hd n hn)
 simpa using this
theorem zN {W : World} {a : Addr} {v : Value} (h : W.cell? a = some v) : a.spot = none ∧ a.block < W.heap.size := by
 unfold World.cell? at h
 cases hb : W.heap[a.block]? with
 | none => rw [hb] at h; cases h
 | some o =>
  refine ⟨?_, (Array.getElem?_eq_some_iff.1 hb).1⟩
  rw [hb] at h
  cases o with
  | cells c t fr =>
   simp only at h
   cases hs : a.spot with
   | none => rfl
   | some _ => rw [hs] at h; simp at h
  | _ => cases h
theorem oC {a : Addr} (h : a.spot = none) : a = ⟨a.block, a.off, none⟩ := by cases a; simp at h; subst h; rfl
section
variable {H : Type} {enc : TypeId × Value → H} {W : World} {sp : Nat → Bool} {held : Bool}
theorem ints_in {k : IntKind} {t e : TypeId} {fuel : Nat} {cs : List Value} {x : DataW H × List MemPlace} (ht : Tryz.prog.underlying t = some (.slice e)) (he : Tryz.prog.underlying e = some (.int k)) (hc : Tryz.prog.cellsOf e = 1) (hby : 1 ≤ Tryz.prog.bytesOf e)
  (h : DataW.trod enc Tryz.prog W 0 sp held fuel t cs = some x) (hw : ∀ n ∈ x.1.weights Tryz.prog t, n ≤ reachBytes) :
  ∃ (s : Sl) (l : List Int), cs = [.slice s.a s.n s.c] ∧ IntsIn k W.heap.size W s l ∧ (∀ z ∈ l, (Lit.int k z).wf = true) := by
 rcases open_ints ht he hc h with ⟨rfl, rfl⟩ | ⟨a, len, cap, zs, rfl, hb, hl, hm, hlen, rfl, hcell, hwf⟩
 ·exact ⟨⟨none, 0, 0⟩, [], rfl, ⟨rfl, by simp, Or.inl rfl⟩, by simp⟩
 ·have hle : len ≤ zs.length := by rw [hlen]; split <;> omega
  have hwt := (nM ht hw).1
  refine ⟨⟨some a, len, cap⟩, zs.take len, rfl, ⟨by simp; omega, ?_, ?_⟩, fun z hz => hwf z (List.mem_of_mem_take hz)⟩
  ·have h1 : (lits (H := H) k (zs.take len)).length = min len zs.length := by simp [lits]
   rw [h1] at hwt
   have h2 : min len zs.length ≤ (min len zs.length + (lits (H := H) k (zs.drop len)).length) * Tryz.prog.bytesOf e := by
    refine Nat.le_trans ?_ (Nat.le_mul_of_pos_right _ (by omega)); omega
   unfold reachBytes at hwt
   rw [List.length_take]
   omega
  ·by_cases h0 : len = 0
   ·left; rw [h0]; rfl
   ·right
    have hc0 := hcell 0 (by omega)
    obtain ⟨hs, hlt⟩ := zN hc0
    have ea := oC (a := a) hs
    refine ⟨a.block, a.off, by rw [← ea], hlt, fun i hi => ?_⟩
    rw [List.length_take] at hi
    have := hcell i (by omega)
    rw [ea, add_plain] at this
    have e : zs.getD i 0 = (zs.take len).getD i 0 := by
     simp only [List.getD_eq_getElem?_getD, List.getElem?_take]
     rw [if_pos (by omega)]
    rw [e] at this
    exact this
end
open Go.RowKit Go.ChangeShapes Go.WideShapes Go.Deep
theorem list13 {α : Type} {l : List α} (h : l.length = 13) : ∃ c0 c1 c2 c3 c4 c5 c6 c7 c8 c9 c10 c11 c12, l = [c0, c1, c2, c3, c4, c5, c6, c7, c8, c9, c10, c11, c12] := by
 match l, h with
 | [c0, c1, c2, c3, c4, c5, c6, c7, c8, c9, c10, c11, c12], _ => exact ⟨c0, c1, c2, c3, c4, c5, c6, c7, c8, c9, c10, c11, c12, rfl⟩
theorem xI : Tryz.prog.cellsOf 3 = 1 := by kernel_rfl
theorem cells_kind : Tryz.prog.cellsOf 37 = 1 := by kernel_rfl
theorem gP : Tryz.prog.cellsOf 38 = 1 := by kernel_rfl
theorem dX : Tryz.prog.cellsOf 4 = 1 := by kernel_rfl
theorem aO : Tryz.prog.cellsOf 23 = 1 := by kernel_rfl
theorem cells_ev : Tryz.prog.cellsOf 40 = 13 := by kernel_rfl
theorem aF : 1 ≤ Tryz.prog.bytesOf 3 := of_decide_eq_true (by kernel_rfl)
theorem bytes_ev : 1 ≤ Tryz.prog.bytesOf 40 := of_decide_eq_true (by kernel_rfl)
theorem bytes_ints : 1 ≤ Tryz.prog.bytesOf 23 := of_decide_eq_true (by kernel_rfl)
theorem jE {n : Int} (h : (Lit.int .i64 n).wf = true) : -9223372036854775808 ≤ n ∧ n ≤ 9223372036854775807 := by
 simp only [Lit.wf, Bool.and_eq_true, decide_eq_true_eq] at h
 have e1 : IntKind.i64.min = -9223372036854775808 := by decide
 have e2 : IntKind.i64.max = 9223372036854775807 := by decide
 omega
theorem rL {n : Int} (h : (Lit.int .u32 n).wf = true) : 0 ≤ n ∧ n < 4294967296 := by
 simp only [Lit.wf, Bool.and_eq_true, decide_eq_true_eq] at h
 have e1 : IntKind.u32.min = 0 := by decide
 have e2 : IntKind.u32.max = 4294967295 := by decide
 omega
theorem zW {α : Type} {l : List α} {i : Nat} {x : α} (h : l[i]? = some x) : (l.drop i).take 1 = [x] := by
 obtain ⟨hi, rfl⟩ := List.getElem?_eq_some_iff.1 h
 rw [List.drop_eq_getElem_cons hi]; rfl
theorem xT {α : Type} {l : List α} {n : Nat} (h : l.length = n) (i : Nat) (hi : i < n) : ∃ x, l[i]? = some x := ⟨l[i], List.getElem?_eq_getElem (by omega)⟩
section
variable {H : Type} {enc : TypeId × Value → H} {W : World} {sp : Nat → Bool} {held : Bool}
end
open Go.RowKit Go.ChangeShapes Go.WideShapes Go.Deep
def bound60 : Nat := 1152921504606846976
def Ev.ok (e : Ev) : Prop := e.wf ∧ e.addrs.length ≤ 1152921504606846976 ∧ e.datas.length ≤ 1152921504606846976 ∧ e.ctrls.length ≤ 1152921504606846976 ∧ e.av.n = e.addrs.length ∧ e.dv.n = e.datas.length ∧ e.cv.n = e.ctrls.length
def Ex.ok (x : Ex) : Prop := x.evs.length ≤ 1152921504606846976 ∧ (∀ e ∈ x.evs, e.ok) ∧ x.from_.length ≤ 1152921504606846976 ∧ x.order.length ≤ 1152921504606846976 ∧ ∀ r ∈ x.order, r.2.length ≤ 1152921504606846976
section
variable {H : Type} {enc : TypeId × Value → H} {W : World} {sp : Nat → Bool} {held : Bool}
theorem bY {k : IntKind} {t e : TypeId} {fuel : Nat} {cs : List Value} {x : DataW H × List MemPlace} (ht : Tryz.prog.underlying t = some (.slice e)) (he : Tryz.prog.underlying e = some (.int k)) (hc : Tryz.prog.cellsOf e = 1) (hby : 1 ≤ Tryz.prog.bytesOf e)
  (h : DataW.trod enc Tryz.prog W 0 sp held fuel t cs = some x) (hw : ∀ n ∈ x.1.weights Tryz.prog t, n ≤ reachBytes) :
  ∃ (v : Value) (l : List Int), cs = [v] ∧ Rep (allM W) (.sl 1 (l.map fun n => [TV.c (.int k n)])) v ∧ l.length ≤ 1152921504606846976 ∧ (∀ z ∈ l, (Lit.int k z).wf = true) := by
 obtain ⟨s, l, e1, e2, e3⟩ := ints_in ht he hc hby h hw
 refine ⟨_, l, e1, e2.rep ?_, e2.2.1, e3⟩
 rcases open_ints ht he hc h with ⟨rfl, rfl⟩ | ⟨a, len, cap, zs, rfl, hb, hl, _⟩
 ·simp only [List.cons.injEq, Value.slice.injEq, and_true] at e1; omega
 ·simp only [List.cons.injEq, Value.slice.injEq, and_true] at e1; omega
theorem evt_rep {fuel : Nat} {cs : List Value} {x : DataW H × List MemPlace} (hlen : cs.length = 13) (h : DataW.trod enc Tryz.prog W 0 sp held fuel 40 cs = some x) (hw : ∀ n ∈ x.1.weights Tryz.prog 40, n ≤ reachBytes) :
  ∃ e : Ev, (∀ (j : Nat) (t : TV), (evTV e)[j]? = some t → ∃ v, cs[j]? = some v ∧ Rep (allM W) t v) ∧ e.ok := by
 obtain ⟨xs, n, _, rfl, _, hxl, hf⟩ := DataW.trod_struct Tryz.underlying40 h
 obtain ⟨c0, c1, c2, c3, c4, c5, c6, c7, c8, c9, c10, c11, c12, rfl⟩ := list13 hlen
 have hxl : xs.length = 13 := hxl
 have wx : ∀ (i : Nat) (y : DataW H × List MemPlace), xs[i]? = some y → (xs.map (·.1))[i]? = some y.1 := fun i y hy => by simp [hy]
 obtain ⟨x0, g0⟩ := xT hxl 0 (by decide)
 have t0 := hf 0 ⟨"Hart", 3, 0, false, "", "", 0⟩ rfl
 rw [g0] at t0
 rw [xI, zW (i := 0) rfl] at t0
 obtain ⟨x1, g1⟩ := xT hxl 1 (by decide)
 have t1 := hf 1 ⟨"Kind", 37, 1, false, "", "", 8⟩ rfl
 rw [g1] at t1
 rw [cells_kind, zW (i := 1) rfl] at t1
 obtain ⟨x2, g2⟩ := xT hxl 2 (by decide)
 have t2 := hf 2 ⟨"Addr", 38, 2, false, "", "", 16⟩ rfl
 rw [g2] at t2
 rw [gP, zW (i := 2) rfl] at t2
 obtain ⟨x3, g3⟩ := xT hxl 3 (by decide)
 have t3 := hf 3 ⟨"Value", 38, 3, false, "", "", 20⟩ rfl
 rw [g3] at t3
 rw [gP, zW (i := 3) rfl] at t3
 obtain ⟨x4, g4⟩ := xT hxl 4 (by decide)
 have t4 := hf 4 ⟨"ReadValue", 38, 4, false, "", "", 24⟩ rfl
 rw [g4] at t4
 rw [gP, zW (i := 4) rfl] at t4
 obtain ⟨x5, g5⟩ := xT hxl 5 (by decide)
 have t5 := hf 5 ⟨"Aq", 4, 5, false, "", "", 28⟩ rfl
 rw [g5] at t5
 rw [dX, zW (i := 5) rfl] at t5
 obtain ⟨x6, g6⟩ := xT hxl 6 (by decide)
 have t6 := hf 6 ⟨"Rl", 4, 6, false, "", "", 29⟩ rfl
 rw [g6] at t6
 rw [dX, zW (i := 6) rfl] at t6
 obtain ⟨x7, g7⟩ := xT hxl 7 (by decide)
 have t7 := hf 7 ⟨"Pred", 3, 7, false, "", "", 32⟩ rfl
 rw [g7] at t7
 rw [xI, zW (i := 7) rfl] at t7
 obtain ⟨x8, g8⟩ := xT hxl 8 (by decide)
 have t8 := hf 8 ⟨"Succ", 3, 8, false, "", "", 40⟩ rfl
 rw [g8] at t8
 rw [xI, zW (i := 8) rfl] at t8
 obtain ⟨x9, g9⟩ := xT hxl 9 (by decide)
 have t9 := hf 9 ⟨"Reserved", 4, 9, false, "", "", 48⟩ rfl
 rw [g9] at t9
 rw [dX, zW (i := 9) rfl] at t9
 obtain ⟨x10, g10⟩ := xT hxl 10 (by decide)
 have t10 := hf 10 ⟨"Addrs", 23, 10, false, "", "", 56⟩ rfl
 rw [g10] at t10
 rw [aO, zW (i := 10) rfl] at t10
 obtain ⟨x11, g11⟩ := xT hxl 11 (by decide)
 have t11 := hf 11 ⟨"Datas", 23, 11, false, "", "", 80⟩ rfl
 rw [g11] at t11
 rw [aO, zW (i := 11) rfl] at t11
 obtain ⟨x12, g12⟩ := xT hxl 12 (by decide)
 have t12 := hf 12 ⟨"Ctrls", 23, 12, false, "", "", 104⟩ rfl
 rw [g12] at t12
 rw [aO, zW (i := 12) rfl] at t12
 obtain ⟨z0, e0, _, w0⟩ := DataW.trod_int Tryz.underlying3 t0
 obtain ⟨z1, e1, _, w1⟩ := DataW.trod_int Tryz.underlying37 t1
 obtain ⟨z2, e2, _, w2⟩ := DataW.trod_int Tryz.underlying38 t2
 obtain ⟨z3, e3, _, w3⟩ := DataW.trod_int Tryz.underlying38 t3
 obtain ⟨z4, e4, _, w4⟩ := DataW.trod_int Tryz.underlying38 t4
 obtain ⟨z5, e5, _⟩ := DataW.trod_bool Tryz.underlying4 t5
 obtain ⟨z6, e6, _⟩ := DataW.trod_bool Tryz.underlying4 t6
 obtain ⟨z7, e7, _, w7⟩ := DataW.trod_int Tryz.underlying3 t7
 obtain ⟨z8, e8, _, w8⟩ := DataW.trod_int Tryz.underlying3 t8
 obtain ⟨z9, e9, _⟩ := DataW.trod_bool Tryz.underlying4 t9
 obtain ⟨v10, l10, e10, i10, n10⟩ := bY Tryz.underlying23 Tryz.underlying3 xI aF t10 (zU Tryz.underlying40 hw (i := 10) rfl (wx _ _ g10))
 obtain ⟨v11, l11, e11, i11, n11⟩ := bY Tryz.underlying23 Tryz.underlying3 xI aF t11 (zU Tryz.underlying40 hw (i := 11) rfl (wx _ _ g11))
 obtain ⟨v12, l12, e12, i12, n12⟩ := bY Tryz.underlying23 Tryz.underlying3 xI aF t12 (zU Tryz.underlying40 hw (i := 12) rfl (wx _ _ g12))
 simp only [List.cons.injEq, and_true] at e0 e1 e2 e3 e4 e5 e6 e7 e8 e9 e10 e11 e12
 refine ⟨⟨z0, z1, z2, z3, z4, z5, z6, z7, z8, z9, ⟨none, l10.length, 0⟩, ⟨none, l11.length, 0⟩, ⟨none, l12.length, 0⟩, l10, l11, l12⟩, ?_, ⟨jE w0, jE w1, rL w2, rL w3, rL w4, jE w7, jE w8⟩, n10.1, n11.1, n12.1, rfl, rfl, rfl⟩
 rw [e0, e1, e2, e3, e4, e5, e6, e7, e8, e9, e10, e11, e12]
 intro j t ht
 match j, ht with
 | 0, ht => cases ht; exact ⟨_, rfl, xV rfl⟩
 | 1, ht => cases ht; exact ⟨_, rfl, xV rfl⟩
 | 2, ht => cases ht; exact ⟨_, rfl, xV rfl⟩
 | 3, ht => cases ht; exact ⟨_, rfl, xV rfl⟩
 | 4, ht => cases ht; exact ⟨_, rfl, xV rfl⟩
 | 5, ht => cases ht; exact ⟨_, rfl, xV rfl⟩
 | 6, ht => cases ht; exact ⟨_, rfl, xV rfl⟩
 | 7, ht => cases ht; exact ⟨_, rfl, xV rfl⟩
 | 8, ht => cases ht; exact ⟨_, rfl, xV rfl⟩
 | 9, ht => cases ht; exact ⟨_, rfl, xV rfl⟩
 | 10, ht => cases ht; exact ⟨_, rfl, i10⟩
 | 11, ht => cases ht; exact ⟨_, rfl, i11⟩
 | 12, ht => cases ht; exact ⟨_, rfl, i12⟩
 | n + 13, ht => cases ht
theorem evts_rep {fuel : Nat} {cs : List Value} {x : DataW H × List MemPlace} (h : DataW.trod enc Tryz.prog W 0 sp held fuel 22 cs = some x) (hw : ∀ n ∈ x.1.weights Tryz.prog 22, n ≤ reachBytes) :
  ∃ (v : Value) (l : List Ev), cs = [v] ∧ Rep (allM W) (evsTV l) v ∧ l.length ≤ 1152921504606846976 ∧ ∀ e ∈ l, e.ok := by
 rcases open_slice Tryz.underlying22 h with ⟨rfl, rfl⟩ | ⟨a, len, cap, m, n, D, Pl, rfl, hb, hl, hm, hmm, rfl, hx⟩
 ·exact ⟨_, [], rfl, by unfold evsTV; rw [Rep]; exact ⟨none, 0, rfl, Nat.le_refl _, Or.inl rfl⟩, by simp, by simp⟩
 ·have hle : len ≤ m := by rw [hmm]; split <;> omega
  obtain ⟨hwt, hwe⟩ := nM Tryz.underlying22 hw
  rw [cells_ev] at hx
  obtain ⟨E, hE⟩ := choose_lt (α := Ev) (n := len) (p := fun i e => e.ok ∧ ∀ (j : Nat) (t : TV), (evTV e)[j]? = some t → ∃ v, W.cell? (a.add (i * 13 + j)) = some v ∧ Rep (allM W) t v) (fun i hi => by
   obtain ⟨cs', h1, h2⟩ := hx i (by omega)
   obtain ⟨_, h3, h4⟩ := World.cells?_some h1
   obtain ⟨e, he, hok⟩ := evt_rep h3 h2 (hwe _ (by simp only [List.mem_map, List.mem_range]; exact ⟨i, hi, rfl⟩))
   refine ⟨e, hok, fun j t hj => ?_⟩
   have hj13 : j < 13 := (List.getElem?_eq_some_iff.1 hj).1
   obtain ⟨v, h5, h6⟩ := he j t hj
   have := h4 j hj13
   rw [add_add, h5] at this
   exact ⟨v, this, h6⟩)
  have hL : ((List.range len).map E).length = len := by simp
  refine ⟨_, (List.range len).map E, rfl, ?_, ?_, ?_⟩
  ·unfold evsTV
   rw [Rep]
   refine ⟨some a, cap, by simp, by simpa using hl, ?_⟩
   by_cases h0 : len = 0
   ·left; subst h0; simp
   ·right
    obtain ⟨_, g0⟩ := hE 0 (by omega)
    obtain ⟨v0, g0, _⟩ := g0 0 _ rfl
    obtain ⟨hs, _⟩ := zN g0
    have ea := oC (a := a) hs
    refine ⟨a.block, a.off, by rw [← ea], RepR.of_get fun i r hi => ?_⟩
    rw [List.getElem?_map] at hi
    obtain ⟨e, he, rfl⟩ := Option.map_eq_some_iff.1 hi
    obtain ⟨hlt, rfl⟩ := List.getElem?_eq_some_iff.1 he
    rw [hL] at hlt
    simp only [List.getElem_map, List.getElem_range]
    refine ⟨rfl, RepC.of_get fun o t ht => ?_⟩
    obtain ⟨v, g1, g2⟩ := (hE i hlt).2 o t ht
    rw [ea, add_plain] at g1
    exact ⟨v, by rw [Nat.add_assoc]; exact g1, g2⟩
  ·rw [hL]
   simp only [List.length_map, List.length_range] at hwt
   have h2 : len ≤ (len + (m - len)) * Tryz.prog.bytesOf 40 := by
    refine Nat.le_trans ?_ (Nat.le_mul_of_pos_right _ (by have := bytes_ev; omega)); omega
   unfold reachBytes at hwt
   omega
  ·intro e he
   obtain ⟨i, hi, rfl⟩ := List.mem_map.1 he
   exact (hE i (List.mem_range.1 hi)).1
theorem rows_rep {fuel : Nat} {cs : List Value} {x : DataW H × List MemPlace} (h : DataW.trod enc Tryz.prog W 0 sp held fuel 24 cs = some x) (hw : ∀ n ∈ x.1.weights Tryz.prog 24, n ≤ reachBytes) :
  ∃ (v : Value) (l : List (Sl × List Int)), cs = [v] ∧ Rep (allM W) (rowsTV l) v ∧ l.length ≤ 1152921504606846976 ∧ ∀ r ∈ l, r.2.length ≤ 1152921504606846976 := by
 rcases open_slice1 Tryz.underlying24 aO h with ⟨rfl, rfl⟩ | ⟨a, len, cap, m, n, V, D, Pl, rfl, hb, hl, hm, hmm, rfl, hx⟩
 ·exact ⟨_, [], rfl, by unfold rowsTV; rw [Rep]; exact ⟨none, 0, rfl, Nat.le_refl _, Or.inl rfl⟩, by simp, by simp⟩
 ·have hle : len ≤ m := by rw [hmm]; split <;> omega
  obtain ⟨hwt, hwe⟩ := nM Tryz.underlying24 hw
  obtain ⟨E, hE⟩ := choose_lt (α := Sl × List Int) (n := len) (p := fun i r => r.2.length ≤ 1152921504606846976 ∧ ∃ v, W.cell? (a.add i) = some v ∧ Rep (allM W) (ints r.2) v) (fun i hi => by
   obtain ⟨h1, h2⟩ := hx i (by omega)
   obtain ⟨v, l, e1, e2, e3, _⟩ := bY Tryz.underlying23 Tryz.underlying3 xI aF h2 (hwe _ (by simp only [List.mem_map, List.mem_range]; exact ⟨i, hi, rfl⟩))
   simp only [List.cons.injEq, and_true] at e1
   rw [e1] at h1
   exact ⟨(⟨none, l.length, 0⟩, l), e3, v, h1, e2⟩)
  have hL : ((List.range len).map E).length = len := by simp
  refine ⟨_, (List.range len).map E, rfl, ?_, ?_, ?_⟩
  ·unfold rowsTV
   rw [Rep]
   refine ⟨some a, cap, by simp, by simpa using hl, ?_⟩
   by_cases h0 : len = 0
   ·left; subst h0; simp
   ·right
    obtain ⟨_, v0, g0, _⟩ := hE 0 (by omega)
    obtain ⟨hs, _⟩ := zN g0
    have ea := oC (a := a) hs
    refine ⟨a.block, a.off, by rw [← ea], RepR.of_get fun i r hi => ?_⟩
    rw [List.getElem?_map] at hi
    obtain ⟨e, he, rfl⟩ := Option.map_eq_some_iff.1 hi
    obtain ⟨hlt, rfl⟩ := List.getElem?_eq_some_iff.1 he
    rw [hL] at hlt
    simp only [List.getElem_map, List.getElem_range]
    refine ⟨rfl, RepC.of_get fun o t ht => ?_⟩
    cases o with
    | succ o => simp [intRow] at ht
    | zero =>
     simp [intRow] at ht
     subst ht
     obtain ⟨v, g1, g2⟩ := (hE i hlt).2
     rw [ea, add_plain] at g1
     exact ⟨v, by simpa [allM] using g1, g2⟩
  ·rw [hL]
   simp only [List.length_map, List.length_range] at hwt
   have h2 : len ≤ (len + (m - len)) * Tryz.prog.bytesOf 23 := by
    refine Nat.le_trans ?_ (Nat.le_mul_of_pos_right _ (by have := bytes_ints; omega)); omega
   unfold reachBytes at hwt
   omega
  ·intro e he
   obtain ⟨i, hi, rfl⟩ := List.mem_map.1 he
   exact (hE i (List.mem_range.1 hi)).1
set_option maxRecDepth 100000 in
theorem exec_rep {r : Reach} {b0 : Nat} {v : Value} {d : DataW H} {p : List MemPlace} (hv : Value.okWide Tryz.prog W r b0 26 v) (h : DataW.Trod enc Tryz.prog W 0 sp held 26 v d p) (hw : ∀ n ∈ d.weights Tryz.prog 26, n ≤ reachBytes) :
  ∃ x : Ex, RepO (allG W) (exOV x) v ∧ x.ok := by
 obtain ⟨v0, v1, v2, y0, y1, y2, n, rfl, rfl, rfl, h0, h1, h2⟩ := Go.Joins.open_agg3 Tryz.underlying26 (by kernel_rfl) (by kernel_rfl) hv h
 obtain ⟨s0, l0, e0, i0, n0, m0⟩ := evts_rep h0 (zU Tryz.underlying26 hw (i := 0) rfl rfl)
 obtain ⟨s1, l1, e1, i1, n1, _⟩ := bY Tryz.underlying23 Tryz.underlying3 xI aF h1 (zU Tryz.underlying26 hw (i := 1) rfl rfl)
 obtain ⟨s2, l2, e2, i2, n2, m2⟩ := rows_rep h2 (zU Tryz.underlying26 hw (i := 2) rfl rfl)
 simp only [List.cons.injEq, and_true] at e0 e1 e2
 refine ⟨⟨default, default, default, l0, l1, l2⟩, ?_, n0, m0, n1, n2, m2⟩
 unfold exOV
 rw [RepO]
 refine ⟨_, rfl, ?_⟩
 rw [e0, e1, e2, RepOL]
 refine ⟨_, _, rfl, by rw [RepO]; exact i0, ?_⟩
 rw [RepOL]
 refine ⟨_, _, rfl, by rw [RepO]; exact i1, ?_⟩
 rw [RepOL]
 exact ⟨_, _, rfl, by rw [RepO]; exact i2, by rw [RepOL]⟩
end
theorem FnR.calls {f : FuncId} {args : List OV} {b : Bool} (h : Pure Tryz.prog f args (.bool b)) {w : World} {vs : List Value} (hv : RepOL (allG w) args vs) :
  Calls Tryz.prog f vs.toArray w fun e w' => e = .returned (.bool b) ∧ Below w.heap.size w w' :=
 (h.2 (allG w) w vs 0 hv (WRel.all w 0)).mono fun e w' ⟨x, G', r, σ', h1, h2, h3, h4, h5⟩ => by
  subst h2
  rw [vJ h4] at h1
  exact ⟨h1, ⟨h5.os, h5.tape, h5.output, h5.size, fun k hk => h5.keep k hk (fun e => e)⟩⟩
set_option maxRecDepth 100000
def atFrom (n : Int) : List Int → Nat → Int
 | [], _ => -1
 | a :: l, k => if a = n then k else atFrom n l (k + 1)
def atI (l : List Int) (n : Int) : Int := atFrom n l 0
theorem yH (l : List Int) (n : Int) (k : Nat) (h : k < l.length) : atFrom n (l.drop k) k = if l.getD k 0 = n then (k : Int) else atFrom n (l.drop (k + 1)) (k + 1) := by
 rw [List.drop_eq_getElem_cons h, atFrom, List.getD_eq_getElem?_getD, List.getElem?_eq_getElem h]; rfl
set_option maxHeartbeats 1000000 in
theorem at_p (l : List Int) (n : Int) (hl : l.length ≤ 1152921504606846976) : Pure E.P 33 [.d (ints l), .int .i64 n] (.int .i64 (atI l n)) := by
 refine fnA Tryz.func33 Tryz.ntmps33 ?_
 refine run ?_; refine aoR fun _ => ?_
 refine run ?_; refine aoR fun _ => ?_
 refine run ?_; rotate_left
 refine vC (X := Nat) (fun k => tmL [(0, .d (ints l)), (1, .int .i64 n), (5, .int .i64 k)]) (fun _ => stL []) (fun k => k ≤ l.length ∧ atI l n = atFrom n (l.drop k) k) (fun k => l.length - k) 0 ⟨Nat.zero_le _, rfl⟩ leP leP ?_
 intro k hk
 obtain ⟨hk, ht⟩ := hk
 refine run ?_; refine aoR fun _ => ?_
 refine run ?_; refine cnd ?_ ?_
 refine uP fun _ => ?_; try (exfalso; omega)
 refine run ?_; refine aoR fun _ => ?_
 refine run ?_; refine cnd ?_ ?_
 refine uP fun _ => ?_; try (exfalso; omega)
 refine run ?_; refine aoR fun _ => ?_
 refine run ?_; rotate_left
 refine uR fun _ => ?_; try (exfalso; omega)
 refine run ?_; refine aoR fun _ => ?_
 refine run ?_; rotate_left
 refine uR fun _ => ?_; try (exfalso; omega)
 refine run ?_; refine aoR fun _ => ?_
 refine run ?_; rotate_left
 ·refine wY rfl ?_
  rw [ht, yH l n k (by omega), if_pos (by assumption)]
 ·refine round (k + 1) ⟨by omega, ?_⟩ (by omega) leP leP
  rw [ht, yH l n k (by omega), if_neg (by assumption)]
 ·refine wY rfl ?_
  rw [ht, show k = l.length by omega, List.drop_length]; rfl
theorem fX (e : Ev) : Pure E.P 32 [evOV e] (.bool e.stB) := by
 refine fnA Tryz.func32 Tryz.ntmps32 ?_
 refine run ?_; refine aoR fun _ => ?_
 refine run ?_; refine aoR fun _ => ?_
 refine run ?_; rotate_left
 all_goals (refine vF rfl ?_; rw [Bool.eq_iff_iff]; simp_all [Ev.stB])
theorem jO (e : Ev) : Pure E.P 31 [evOV e] (.bool e.ldB) := by
 refine fnA Tryz.func31 Tryz.ntmps31 ?_
 refine run ?_; refine aoR fun _ => ?_
 refine run ?_; refine aoR fun _ => ?_
 refine run ?_; rotate_left
 all_goals (refine vF rfl ?_; rw [Bool.eq_iff_iff]; simp_all [Ev.ldB])
def Ev.rbareB (e : Ev) : Bool :=
 if e.kind < 1 ∨ 5 < e.kind ∨ e.pred < 0 ∨ 3 < e.pred ∨ e.succ < 0 ∨ 3 < e.succ then false
 else if e.kind ≠ 4 ∧ (e.pred ≠ 0 ∨ e.succ ≠ 0) ∨ (e.kind = 4 ∨ e.kind = 5) ∧ (e.aq = true ∨ e.rl = true) ∨ e.kind ≠ 1 ∧ e.kind ≠ 2 ∧ e.rsv = true then false
 else if e.stB = false ∧ e.val ≠ 0 ∨ e.ldB = false ∧ e.rval ≠ 0 ∨ e.kind = 4 ∧ e.addr ≠ 0 then false
 else (decide (e.kind = 2) || decide (e.kind = 3) || decide ((e.datas.length : Int) = 0)) && (decide (e.kind < 4) || decide ((e.addrs.length : Int) = 0)) && (decide (e.kind < 5) || decide ((e.ctrls.length : Int) = 0) && decide (e.hart = -1))
set_option maxHeartbeats 4000000 in
theorem sN (e : Ev) : Pure E.P 29 [evOV e] (.bool e.rbareB) := by
 refine fnA Tryz.func29 Tryz.ntmps29 ?_
 refine run ?_; refine aoR fun _ => ?_
 refine run ?_; refine aoR fun _ => ?_
 refine run ?_; refine aoR fun _ => ?_
 refine run ?_; refine cnd ?_ ?_
 refine wX (fun hc_ => ?_); (try simp only [nrm] at hc_)
 refine run ?_; refine aoR fun _ => ?_
 refine run ?_; rotate_left
 iterate 5 refine xA ?_
 iterate 6 refine uR fun _ => ?_; try (exfalso; omega)
 refine run ?_; refine aoR fun _ => ?_
 refine run ?_; refine cnd ?_ ?_
 refine wX (fun hc_ => ?_); (try simp only [nrm] at hc_)
 refine run ?_; refine aoR fun _ => ?_
 refine run ?_; rotate_left
 iterate 2 refine xA ?_
 iterate 3 (refine wN (fun hc_ => ?_); (try simp only [nrm] at hc_))
 refine run ?_; refine aoR fun _ => ?_
 refine run ?_
 apply uQ; exact rfl; exact .fn _ _ _; exact rfl; (exact fX _)
 refine run ?_
 apply spF; exact rfl
 intro hc_
 have hp_ := hc_; try simp only [nrm] at hp_
 apply vU; exact .plain rfl rfl; exact .fn _ _ _; exact wR; (exact jO _)
 refine run ?_; refine cnd ?_ ?_
 refine wX (fun hc_ => ?_); (try simp only [nrm] at hc_)
 refine run ?_; refine aoR fun _ => ?_
 refine run ?_; rotate_left
 iterate 2 refine xA ?_
 iterate 3 (refine wN (fun hc_ => ?_); (try simp only [nrm] at hc_))
 refine run ?_; refine aoR fun _ => ?_
 refine run ?_; rotate_left
 all_goals refine vF rfl ?_
 all_goals unfold Ev.rbareB
 all_goals first | grind | rw [if_neg (by grind), if_neg (by grind), if_neg (by grind)]
end Go.Proofs.YtnkocjkkefnelaaGreat
