/- Parts. -/
import Derived.Lib.SmallJoins
import Derived.WideKeyArgs
import Derived.Deep.SlicePairs
import Derived.SizedLaws
import Derived.ProofKit
import Derived.OpenShut
import Derived.Shelf.Small.Bits
import Derived.Shelf.Small.Wraps
import Derived.Shelf.Strconv.Itoa0
import Derived.Shelf.Sort.Plain
import Derived.Shelf.Slices.Turned
import Derived.Shelf.Slices.Equal
import Derived.Ground.Names2Prog
import Derived.Shelf.Slices.SearchI
import Derived.Shelf.Slices.In.SortNone
import Derived.Shelf.Slices.Empties2
import Derived.Test.YtnkocjkkefnelaaGreatProg
import Derived.Sort.WalkA
import Derived.Test.YtnkocjkkefnelaaGreatPs3
import Derived.Test.YtnkocjkkefnelaaGreatPs4
import Derived.Test.YtnkocjkkefnelaaGreatPs6
import Derived.Test.YtnkocjkkefnelaaGreatPs7
import Derived.Test.YtnkocjkkefnelaaGreatPs8
set_option linter.unusedVariables false
set_option linter.unusedSimpArgs false
set_option maxHeartbeats 4000000
set_option maxRecDepth 100000
namespace Go.Proofs.YtnkocjkkefnelaaGreat
open Go.RowKit
def evTV (e : Ev) : List TV := [.c (.int .i64 e.hart), .c (.int .i64 e.kind), .c (.int .u32 e.addr), .c (.int .u32 e.val), .c (.int .u32 e.rval), .c (.bool e.aq), .c (.bool e.rl), .c (.int .i64 e.pred), .c (.int .i64 e.succ), .c (.bool e.rsv), ints e.addrs, ints e.datas, ints e.ctrls]
def evOV (e : Ev) : OV := .ag ((evTV e).map .d)
def evsTV (l : List Ev) : TV := .sl 13 (l.map evTV)
def intRow (r : Sl × List Int) : List TV := [ints r.2]
def rowsTV (l : List (Sl × List Int)) : TV := .sl 1 (l.map intRow)
def exOV (x : Ex) : OV := .ag [.d (evsTV x.evs), .d (ints x.from_), .d (rowsTV x.order)]
def cellU (n : Int) : List TV := [.c (.int .u32 n)]
def words (l : List Int) : TV := .sl 1 (l.map cellU)
def allM (w : World) : Mem := fun b o => w.cell? ⟨b, o, none⟩
def allG (w : World) : Gh := ⟨allM w, fun _ _ => none⟩
theorem WRel.all (w : World) (N : Nat) : WRel ⟨w, fun _ => False, allG w, N⟩ (allG w) Store.nil w where
 mem _ _ _ h := h
 own k τ r hk := by cases hk
 inj k k' τ τ' β β' r r' hk := by cases hk
 keep _ _ _ := rfl
 size := Nat.le_refl _
 tape := rfl
 os := rfl
 output := rfl
 g0 := .refl _
 new _ _ _ h := Or.inl h
 bound := ⟨0, fun _ _ _ _ => rfl⟩
 low _ _ _ _ := rfl
theorem jR {M : Mem} {v : Value} (h : v.oneCell' = true) : Rep M (.c v) v := by rw [Rep]; exact ⟨rfl, h⟩
theorem IntsIn.rep {q : IntKind} {B : Nat} {w : World} {s : Sl} {l : List Int} (h : IntsIn q B w s l) (hc : s.n ≤ s.c) : Rep (allM w) (.sl 1 (l.map fun n => [TV.c (.int q n)])) (.slice s.a s.n s.c) := by
 obtain ⟨h1, h2, h3⟩ := h
 rw [Rep]
 refine ⟨s.a, s.c, by simp [h1], by simpa [h1] using hc, ?_⟩
 rcases h3 with rfl | ⟨b, off, h4, h5, h6⟩
 ·exact Or.inl rfl
 ·refine Or.inr ⟨b, off, h4, RepR.of_get fun i r hi => ?_⟩
  rw [List.getElem?_map] at hi
  obtain ⟨n, hn, rfl⟩ := Option.map_eq_some_iff.1 hi
  obtain ⟨hlt, rfl⟩ := List.getElem?_eq_some_iff.1 hn
  refine ⟨rfl, RepC.of_get fun o t ht => ?_⟩
  cases o with
  | succ o => simp at ht
  | zero =>
   simp at ht
   subst ht
   have := h6 i hlt
   rw [List.getD_eq_getElem?_getD, List.getElem?_eq_getElem hlt] at this
   exact ⟨_, by simpa [allM] using this, jR rfl⟩
def PairsZ (B : Nat) (w : World) (s : Sl) (l : List (Int × Int)) : Prop :=
 s.n = l.length ∧ l.length ≤ 1152921504606846976 ∧
 (l = [] ∨ ∃ b off, s.a = some ⟨b, off, none⟩ ∧ b < B ∧ ∀ k, k < l.length → w.cell? ⟨b, off + k * 2, none⟩ = some (.int .i64 (l.getD k (0, 0)).1) ∧ w.cell? ⟨b, off + k * 2 + 1, none⟩ = some (.int .i64 (l.getD k (0, 0)).2))
theorem PairsZ.below {B : Nat} {w w' : World} {s : Sl} {l : List (Int × Int)} (h : PairsZ B w s l) (hb : Below B w w') : PairsZ B w' s l := by
 obtain ⟨h1, h2, h3⟩ := h
 refine ⟨h1, h2, ?_⟩
 rcases h3 with h3 | ⟨b, off, h4, h5, h6⟩
 ·exact Or.inl h3
 ·exact Or.inr ⟨b, off, h4, h5, fun k hk => by rw [hb.cell (by exact h5), hb.cell (by exact h5)]; exact h6 k hk⟩
theorem PairsZ.mono {B B' : Nat} {w : World} {s : Sl} {l : List (Int × Int)} (h : PairsZ B w s l) (hB : B ≤ B') : PairsZ B' w s l := by
 obtain ⟨h1, h2, h3⟩ := h
 refine ⟨h1, h2, ?_⟩
 rcases h3 with h3 | ⟨b, off, h4, h5, h6⟩
 ·exact Or.inl h3
 ·exact Or.inr ⟨b, off, h4, by omega, h6⟩
def outB (n : Int) (p : Int × Int) : Bool := decide (p.1 < 0) || decide (n ≤ p.1) || decide (p.2 < 0) || decide (n ≤ p.2)
abbrev Gone := Nat → Bool
def updB (g : Gone) (p : Nat) : Gone := fun i => if i = p then true else g i
def ledB (l : List (Int × Int)) (g : Gone) (p : Nat) : Bool := l.any (fun q => (q.2 == (p : Int)) && !g q.1.toNat)
def takeP (l : List (Int × Int)) (g : Gone) (p : Nat) : Gone := if ledB l g p then g else updB g p
def passTo (l : List (Int × Int)) (g : Gone) (k : Nat) : Gone := (List.range k).foldl (takeP l) g
def roundsTo (l : List (Int × Int)) (n : Nat) : Nat → Gone
 | 0 => fun _ => false
 | r + 1 => passTo l (roundsTo l n r) n
def circleB (n : Nat) (l : List (Int × Int)) : Bool := (List.range n).any (fun p => !roundsTo l n n p)
theorem cE (l : List (Int × Int)) (g : Gone) (k : Nat) : passTo l g (k + 1) = takeP l (passTo l g k) k := by
 simp [passTo, List.range_succ, List.foldl_append]
theorem jJ (l : List (Int × Int)) (g : Gone) (p i : Nat) (h : g i = true) : takeP l g p i = true := by
 unfold takeP
 split
 ·exact h
 ·unfold updB; split
  ·rfl
  ·exact h
theorem passTo_mono (l : List (Int × Int)) (g : Gone) (k i : Nat) (h : g i = true) : passTo l g k i = true := by
 induction k with
 | zero => exact h
 | succ k ih => rw [cE]; exact jJ _ _ _ _ ih
open Go.RowKit Go.ChangeShapes Go.WideShapes Go.Deep
theorem below_sameAt {n : Nat} {W W' : World} {q : MemPlace} (h : Below n W W') (hq : q.block < n) : W.sameAt W' q := by
 cases q with
 | cell b o => exact World.cell?_of_block (w := W) (h.block b hq)
 | map b => exact h.block b hq
theorem lM {H : Type} {enc : TypeId × Value → H} {W W' : World} (hl : laidOutB Tryz.prog = true) (hb : Below W.heap.size W W') :
  ∀ {ts : List TypeId} {vs : List Value} {ds : List (DataW H)} {p : List MemPlace}, (∀ t ∈ ts, Tryz.prog.readableRec t = true ∧ t < Tryz.prog.types.size) → DataW.TrodAll enc Tryz.prog W 0 (fun _ => true) true ts vs ds p → (∀ q ∈ p, q.block < W.heap.size) →
   ∀ sp : Nat → Bool, (∀ q ∈ p, sp q.block = true) → DataW.TrodAll enc Tryz.prog W' 0 sp true ts vs ds p
 | [], vs, ds, p, _, h, _, sp, _ => by
  obtain ⟨rfl, rfl, rfl⟩ := trodAll_nil h
  exact trodAll_mk0
 | t :: ts, vs, ds, p, ht, h, hlt, sp, hsp => by
  obtain ⟨v, vs', d, ds', p0, p1, rfl, rfl, rfl, h0, r0⟩ := trodAll_cons h
  have h1 := WideElems.Trod_stays hl (ht t (by simp)).1 (ht t (by simp)).2 (W' := W') (sp' := sp) h0 (fun q hq => below_sameAt hb (hlt q (by simp [hq]))) (fun q hq => hsp q (by simp [hq]))
  exact trodAll_cons_mk h1 (lM hl hb (fun t' ht' => ht t' (by simp [ht'])) r0 (fun q hq => hlt q (by simp [hq])) sp (fun q hq => hsp q (by simp [hq])))
theorem laid_ok : laidOutB Tryz.prog = true := by kernel_rfl
theorem fT {W : World} {a : Addr} {v : Value} (h : W.cell? a = some v) : a.spot = none ∧ a.block < W.heap.size := by
 unfold World.cell? at h
 cases hb : W.heap[a.block]? with
 | none => rw [hb] at h; cases h
 | some o =>
  refine ⟨?_, (Array.getElem?_eq_some_iff.1 hb).1⟩
  rw [hb] at h
  cases o with
  | cells c t fr =>
   simp only at h
   cases hs : a.spot with
   | none => rfl
   | some _ => rw [hs] at h; simp at h
  | _ => cases h
section
variable {H : Type} {enc : TypeId × Value → H} {W : World} {sp : Nat → Bool} {held : Bool}
end
open Go.RowKit Go.ChangeShapes Go.WideShapes Go.Deep
section
variable {H : Type} {enc : TypeId × Value → H} {W : World} {sp : Nat → Bool} {held : Bool}
end
open Go.RowKit Go.ChangeShapes Go.WideShapes Go.Deep
def bound60 : Nat := 1152921504606846976
def Ev.ok (e : Ev) : Prop := e.wf ∧ e.addrs.length ≤ 1152921504606846976 ∧ e.datas.length ≤ 1152921504606846976 ∧ e.ctrls.length ≤ 1152921504606846976 ∧ e.av.n = e.addrs.length ∧ e.dv.n = e.datas.length ∧ e.cv.n = e.ctrls.length
def Ex.ok (x : Ex) : Prop := x.evs.length ≤ 1152921504606846976 ∧ (∀ e ∈ x.evs, e.ok) ∧ x.from_.length ≤ 1152921504606846976 ∧ x.order.length ≤ 1152921504606846976 ∧ ∀ r ∈ x.order, r.2.length ≤ 1152921504606846976
section
variable {H : Type} {enc : TypeId × Value → H} {W : World} {sp : Nat → Bool} {held : Bool}
end
theorem FnR.calls {f : FuncId} {args : List OV} {b : Bool} (h : Pure Tryz.prog f args (.bool b)) {w : World} {vs : List Value} (hv : RepOL (allG w) args vs) :
  Calls Tryz.prog f vs.toArray w fun e w' => e = .returned (.bool b) ∧ Below w.heap.size w w' :=
 (h.2 (allG w) w vs 0 hv (WRel.all w 0)).mono fun e w' ⟨x, G', r, σ', h1, h2, h3, h4, h5⟩ => by
  subst h2
  rw [vR h4] at h1
  exact ⟨h1, ⟨h5.os, h5.tape, h5.output, h5.size, fun k hk => h5.keep k hk (fun e => e)⟩⟩
set_option maxHeartbeats 4000000
set_option maxRecDepth 100000
def atFrom (n : Int) : List Int → Nat → Int
 | [], _ => -1
 | a :: l, k => if a = n then k else atFrom n l (k + 1)
def atI (l : List Int) (n : Int) : Int := atFrom n l 0
theorem yS (l : List Int) (n : Int) (k : Nat) (h : k < l.length) : atFrom n (l.drop k) k = if l.getD k 0 = n then (k : Int) else atFrom n (l.drop (k + 1)) (k + 1) := by
 rw [List.drop_eq_getElem_cons h, atFrom, List.getD_eq_getElem?_getD, List.getElem?_eq_getElem h]; rfl
set_option maxHeartbeats 1000000 in
theorem lH (l : List Int) (n : Int) (hl : l.length ≤ 1152921504606846976) : Pure E.P 33 [.d (ints l), .int .i64 n] (.int .i64 (atI l n)) := by
 refine fnA Tryz.func33 Tryz.ntmps33 ?_
 refine run ?_; refine aoR fun _ => ?_
 refine run ?_; refine aoR fun _ => ?_
 refine run ?_; rotate_left
 refine uT (X := Nat) (fun k => tmL [(0, .d (ints l)), (1, .int .i64 n), (5, .int .i64 k)]) (fun _ => stL []) (fun k => k ≤ l.length ∧ atI l n = atFrom n (l.drop k) k) (fun k => l.length - k) 0 ⟨Nat.zero_le _, rfl⟩ leP leP ?_
 intro k hk
 obtain ⟨hk, ht⟩ := hk
 refine run ?_; refine aoR fun _ => ?_
 refine run ?_; refine cnd ?_ ?_
 refine uF fun _ => ?_; try omega
 refine run ?_; refine aoR fun _ => ?_
 refine run ?_; refine cnd ?_ ?_
 refine uF fun _ => ?_; try omega
 refine run ?_; refine aoR fun _ => ?_
 refine run ?_; rotate_left
 refine uI fun _ => ?_; try omega
 refine run ?_; refine aoR fun _ => ?_
 refine run ?_; rotate_left
 refine uI fun _ => ?_; try omega
 refine run ?_; refine aoR fun _ => ?_
 refine run ?_; rotate_left
 ·refine wG rfl ?_
  rw [ht, yS l n k (by omega), if_pos (by assumption)]
 ·refine round (k + 1) ⟨by omega, ?_⟩ (by omega) leP leP
  rw [ht, yS l n k (by omega), if_neg (by assumption)]
 ·refine wG rfl ?_
  rw [ht, show k = l.length by omega, List.drop_length]; rfl
theorem wO (e : Ev) : Pure E.P 32 [evOV e] (.bool e.stB) := by
 refine fnA Tryz.func32 Tryz.ntmps32 ?_
 refine run ?_; refine aoR fun _ => ?_
 refine run ?_; refine aoR fun _ => ?_
 refine run ?_; rotate_left
 all_goals (refine uU rfl ?_; rw [Bool.eq_iff_iff]; simp_all [Ev.stB])
theorem yP (e : Ev) : Pure E.P 31 [evOV e] (.bool e.ldB) := by
 refine fnA Tryz.func31 Tryz.ntmps31 ?_
 refine run ?_; refine aoR fun _ => ?_
 refine run ?_; refine aoR fun _ => ?_
 refine run ?_; rotate_left
 all_goals (refine uU rfl ?_; rw [Bool.eq_iff_iff]; simp_all [Ev.ldB])
def Ev.rbareB (e : Ev) : Bool :=
 if e.kind < 1 ∨ 5 < e.kind ∨ e.pred < 0 ∨ 3 < e.pred ∨ e.succ < 0 ∨ 3 < e.succ then false
 else if e.kind ≠ 4 ∧ (e.pred ≠ 0 ∨ e.succ ≠ 0) ∨ (e.kind = 4 ∨ e.kind = 5) ∧ (e.aq = true ∨ e.rl = true) ∨ e.kind ≠ 1 ∧ e.kind ≠ 2 ∧ e.rsv = true then false
 else if e.stB = false ∧ e.val ≠ 0 ∨ e.ldB = false ∧ e.rval ≠ 0 ∨ e.kind = 4 ∧ e.addr ≠ 0 then false
 else (decide (e.kind = 2) || decide (e.kind = 3) || decide ((e.datas.length : Int) = 0)) && (decide (e.kind < 4) || decide ((e.addrs.length : Int) = 0)) && (decide (e.kind < 5) || decide ((e.ctrls.length : Int) = 0) && decide (e.hart = -1))
set_option maxHeartbeats 4000000 in
theorem rO (e : Ev) : Pure E.P 29 [evOV e] (.bool e.rbareB) := by
 refine fnA Tryz.func29 Tryz.ntmps29 ?_
 refine run ?_; refine aoR fun _ => ?_
 refine run ?_; refine aoR fun _ => ?_
 refine run ?_; refine aoR fun _ => ?_
 refine run ?_; refine cnd ?_ ?_
 refine xJ (fun hc_ => ?_); (try simp only [nrm] at hc_)
 refine run ?_; refine aoR fun _ => ?_
 refine run ?_; rotate_left
 iterate 5 refine xP ?_
 iterate 6 refine uI fun _ => ?_; try omega
 refine run ?_; refine aoR fun _ => ?_
 refine run ?_; refine cnd ?_ ?_
 refine xJ (fun hc_ => ?_); (try simp only [nrm] at hc_)
 refine run ?_; refine aoR fun _ => ?_
 refine run ?_; rotate_left
 iterate 2 refine xP ?_
 iterate 3 (refine wK (fun hc_ => ?_); (try simp only [nrm] at hc_))
 refine run ?_; refine aoR fun _ => ?_
 refine run ?_
 apply uP; exact rfl; exact .fn _ _ _; exact rfl; (exact wO _)
 refine run ?_
 apply spF; exact rfl
 intro hc_
 have hp_ := hc_; try simp only [nrm] at hp_
 apply vD; exact .plain rfl rfl; exact .fn _ _ _; exact vY; (exact yP _)
 refine run ?_; refine cnd ?_ ?_
 refine xJ (fun hc_ => ?_); (try simp only [nrm] at hc_)
 refine run ?_; refine aoR fun _ => ?_
 refine run ?_; rotate_left
 iterate 2 refine xP ?_
 iterate 3 (refine wK (fun hc_ => ?_); (try simp only [nrm] at hc_))
 refine run ?_; refine aoR fun _ => ?_
 refine run ?_; rotate_left
 all_goals refine uU rfl ?_
 all_goals unfold Ev.rbareB
 all_goals first | grind | rw [if_neg (by grind), if_neg (by grind), if_neg (by grind)]
set_option maxHeartbeats 4000000
set_option maxRecDepth 100000
set_option maxHeartbeats 4000000 in
theorem jP (x : Ex) (n : Nat) (l : List Int) (hx : x.evs.length ≤ 1152921504606846976) (hn : n < x.evs.length) (hl : l.length ≤ 1152921504606846976) :
  Pure E.P 30 [exOV x, .int .i64 n, .d (ints l)] (.bool (hangsB x.evs n l)) := by
 refine fnA Tryz.func30 Tryz.ntmps30 ?_
 refine run ?_; refine aoR fun _ => ?_
 refine run ?_; refine aoR fun _ => ?_
 refine run ?_; rotate_left
 rename_i v0 v1
 refine uT (X := Nat) (fun k => tmL [(1, .int .i64 n), (2, .d (ints l)), (3, .lo 3 (v0, 0) 3 0 0), (7, .int .i64 k)]) (fun _ => stL [(3, ((v0, 0), ⟨3, [(exOV x).cells]⟩))]) (fun k => k ≤ l.length ∧ hangsTo x.evs n l k = true) (fun k => l.length - k) 0 ⟨Nat.zero_le _, rfl⟩ leP leP ?_
 intro k hk
 obtain ⟨hk, ht⟩ := hk
 refine run ?_; refine aoR fun _ => ?_
 refine run ?_; refine cnd ?_ ?_
 refine uF fun _ => ?_; try omega
 refine run ?_; refine aoR fun _ => ?_
 refine run ?_
 refine uO (E := E) ?_ (fun _ => ?_); exact rfl
 refine run ?_
 apply dpF; exact rfl
 intro hc_
 have hp_ := hc_; try simp only [nrm] at hp_
 apply vD; exact .plain rfl rfl; exact .fn _ _ _; exact vY; (exact yP _)
 refine run ?_; refine cnd ?_ ?_
 refine xJ (fun hc_ => ?_); (try simp only [nrm] at hc_)
 refine run ?_; refine aoR fun _ => ?_
 refine run ?_; rotate_left
 iterate 4 refine xP ?_
 iterate 2 refine uI fun _ => ?_; try omega
 refine wK (fun hc_ => ?_); (try simp only [nrm] at hc_)
 refine wS (fun _ => ?_); (try omega)
 refine xR ?_
 refine wQ (fun _ => ?_)
 refine run ?_; refine aoR fun _ => ?_
 refine run ?_; rotate_left
 refine uI fun _ => ?_; try omega
 refine run ?_; refine aoR fun _ => ?_
 refine run ?_; rotate_left
 ·refine uU rfl ?_
  rename_i hc_ _
  refine (wL _ _ _ k (by omega) ?_).symm
  have e1 : ((k : Int) - 1).toNat = k - 1 := by omega
  simp only [Int.toNat_natCast, e1] at hc_
  unfold depOk
  grind
 ·refine round (k + 1) ⟨by omega, ?_⟩ (by omega) leP leP
  rw [bB, ht, Bool.true_and]
  rename_i h1 h2 hc_ h3 h4 h5
  have e1 : ((k : Int) - 1).toNat = k - 1 := by omega
  simp only [Int.toNat_natCast, e1] at *
  unfold depOk
  grind
 ·refine uU rfl ?_
  have : k = l.length := by omega
  subst this
  exact ht.symm
end Go.Proofs.YtnkocjkkefnelaaGreat
namespace Go.Proofs
open Go.Shelf
def Tryz.lays128_ren : Go.Shelf.Ren := ⟨fun | 128 => 122 | n => n, fun | 51 => 38 | 3 => 3 | 4 => 4 | 46 => 125 | 5 => 5 | 9 => 9 | n => n, fun | n => n⟩
theorem Tryz.lays128 : Go.Proofs.Lays.n128 Tryz.prog Tryz.lays128_ren := {
 mixed := by kernel_rfl
 f128 := Tryz.func122.trans (congrArg some (by kernel_rfl))
 t3 := Tryz.underlying3
 a3 := Tryz.isAgg3
 z3 := Tryz.sizeOf3
 v3 := Tryz.zeroValue3
 t4 := Tryz.underlying4
 a4 := Tryz.isAgg4
 z4 := Tryz.sizeOf4
 v4 := Tryz.zeroValue4
 t5 := Tryz.underlying5
 a5 := Tryz.isAgg5
 z5 := Tryz.sizeOf5
 v5 := Tryz.zeroValue5
 t9 := Tryz.underlying9
 a9 := Tryz.isAgg9
 z9 := Tryz.sizeOf9
 v9 := Tryz.zeroValue9
 t46 := Tryz.underlying125
 a46 := Tryz.isAgg125
 z46 := Tryz.sizeOf125
 v46 := Tryz.zeroValue125
 t51 := Tryz.underlying38
 a51 := Tryz.isAgg38
 z51 := Tryz.sizeOf38
 v51 := Tryz.zeroValue38 }
theorem Tryz.bits_Len32 (x : Int) (w : World) (h0 : 0 ≤ x) (h1 : x ≤ 4294967295) :
  Calls Tryz.prog 122 #[.int .u32 x] w fun e w' => e = .returned (.int .i64 (Lib.bitLen x.toNat)) ∧ w' = w := Any.bits_Len32 Tryz.lays128 x w h0 h1
def Tryz.lays125_ren : Go.Shelf.Ren := ⟨fun | 125 => 101 | 128 => 122 | 129 => 123 | n => n, fun | 46 => 125 | 3 => 3 | 51 => 38 | 53 => 142 | 4 => 4 | 5 => 5 | 9 => 9 | n => n, fun | n => n⟩
theorem Tryz.lays125 : Go.Proofs.Lays.n125 Tryz.prog Tryz.lays125_ren := {
 mixed := by kernel_rfl
 f125 := Tryz.func101.trans (congrArg some (by kernel_rfl))
 f128 := Tryz.func122.trans (congrArg some (by kernel_rfl))
 f129 := Tryz.func123.trans (congrArg some (by kernel_rfl))
 t3 := Tryz.underlying3
 a3 := Tryz.isAgg3
 z3 := Tryz.sizeOf3
 v3 := Tryz.zeroValue3
 t4 := Tryz.underlying4
 a4 := Tryz.isAgg4
 z4 := Tryz.sizeOf4
 v4 := Tryz.zeroValue4
 t5 := Tryz.underlying5
 a5 := Tryz.isAgg5
 z5 := Tryz.sizeOf5
 v5 := Tryz.zeroValue5
 t9 := Tryz.underlying9
 a9 := Tryz.isAgg9
 z9 := Tryz.sizeOf9
 v9 := Tryz.zeroValue9
 t46 := Tryz.underlying125
 a46 := Tryz.isAgg125
 z46 := Tryz.sizeOf125
 v46 := Tryz.zeroValue125
 t51 := Tryz.underlying38
 a51 := Tryz.isAgg38
 z51 := Tryz.sizeOf38
 v51 := Tryz.zeroValue38
 t53 := Tryz.underlying142
 a53 := Tryz.isAgg142
 z53 := Tryz.sizeOf142
 v53 := Tryz.zeroValue142 }
theorem Tryz.bits_Len (x : Int) (w : World) (h0 : 0 ≤ x) (h1 : x ≤ 18446744073709551615) :
  Calls Tryz.prog 101 #[.int .u64 x] w fun e w' => e = .returned (.int .i64 (Lib.bitLen x.toNat)) ∧ w' = w := Any.bits_Len Tryz.lays125 x w h0 h1
def Tryz.lays215_ren : Go.Shelf.Ren := ⟨fun | 215 => 162 | n => n, fun | 3 => 3 | 4 => 4 | n => n, fun | n => n⟩
theorem Tryz.lays215 : Go.Proofs.Lays.n215 Tryz.prog Tryz.lays215_ren := {
 mixed := by kernel_rfl
 f215 := Tryz.func162.trans (congrArg some (by kernel_rfl))
 t3 := Tryz.underlying3
 a3 := Tryz.isAgg3
 z3 := Tryz.sizeOf3
 v3 := Tryz.zeroValue3
 t4 := Tryz.underlying4
 a4 := Tryz.isAgg4
 z4 := Tryz.sizeOf4
 v4 := Tryz.zeroValue4 }
open Go.RowKit in
theorem Tryz.cmp_isNaN_int (x : Int) (w : World) :
  Calls Tryz.prog 162 #[.int .i64 x] w fun e w' => e = .returned (.bool false) ∧ w' = w := Any.cmp_isNaN_int Tryz.lays215 x w
def Tryz.lays129_ren : Go.Shelf.Ren := ⟨fun | 129 => 123 | n => n, fun | 53 => 142 | 3 => 3 | 4 => 4 | 46 => 125 | 5 => 5 | 9 => 9 | n => n, fun | n => n⟩
theorem Tryz.lays129 : Go.Proofs.Lays.n129 Tryz.prog Tryz.lays129_ren := {
 mixed := by kernel_rfl
 f129 := Tryz.func123.trans (congrArg some (by kernel_rfl))
 t3 := Tryz.underlying3
 a3 := Tryz.isAgg3
 z3 := Tryz.sizeOf3
 v3 := Tryz.zeroValue3
 t4 := Tryz.underlying4
 a4 := Tryz.isAgg4
 z4 := Tryz.sizeOf4
 v4 := Tryz.zeroValue4
 t5 := Tryz.underlying5
 a5 := Tryz.isAgg5
 z5 := Tryz.sizeOf5
 v5 := Tryz.zeroValue5
 t9 := Tryz.underlying9
 a9 := Tryz.isAgg9
 z9 := Tryz.sizeOf9
 v9 := Tryz.zeroValue9
 t46 := Tryz.underlying125
 a46 := Tryz.isAgg125
 z46 := Tryz.sizeOf125
 v46 := Tryz.zeroValue125
 t53 := Tryz.underlying142
 a53 := Tryz.isAgg142
 z53 := Tryz.sizeOf142
 v53 := Tryz.zeroValue142 }
theorem Tryz.bits_Len64 (x : Int) (w : World) (h0 : 0 ≤ x) (h1 : x ≤ 18446744073709551615) :
  Calls Tryz.prog 123 #[.int .u64 x] w fun e w' => e = .returned (.int .i64 (Lib.bitLen x.toNat)) ∧ w' = w := Any.bits_Len64 Tryz.lays129 x w h0 h1
def Tryz.lays189_ren : Go.Shelf.Ren := ⟨fun | 189 => 71 | 125 => 101 | 257 => 100 | 128 => 122 | 129 => 123 | 294 => 113 | 295 => 114 | 296 => 115 | 297 => 116 | 298 => 117 | 299 => 118 | 216 => 119 | 300 => 120 | 301 => 121 | 328 => 157 | 329 => 158 | 330 => 159 | 331 => 160 | 332 => 161 | 215 => 162 | 343 => 176 | n => n, fun | 28 => 23 | 3 => 3 | 46 => 125 | 0 => 0 | 51 => 38 | 53 => 142 | 4 => 4 | 183 => 135 | 182 => 134 | 131 => 89 | 5 => 5 | 9 => 9 | 218 => 153 | 222 => 157 | 228 => 170 | 229 => 171 | n => n, fun | n => n⟩
theorem Tryz.lays189 : Go.Proofs.Lays.n189 Tryz.prog Tryz.lays189_ren := {
 mixed := by kernel_rfl
 f125 := Tryz.func101.trans (congrArg some (by kernel_rfl))
 f128 := Tryz.func122.trans (congrArg some (by kernel_rfl))
 f129 := Tryz.func123.trans (congrArg some (by kernel_rfl))
 f189 := Tryz.func71.trans (congrArg some (by kernel_rfl))
 f215 := Tryz.func162.trans (congrArg some (by kernel_rfl))
 f216 := Tryz.func119.trans (congrArg some (by kernel_rfl))
 f257 := Tryz.func100.trans (congrArg some (by kernel_rfl))
 f294 := Tryz.func113.trans (congrArg some (by kernel_rfl))
 f295 := Tryz.func114.trans (congrArg some (by kernel_rfl))
 f296 := Tryz.func115.trans (congrArg some (by kernel_rfl))
 f297 := Tryz.func116.trans (congrArg some (by kernel_rfl))
 f298 := Tryz.func117.trans (congrArg some (by kernel_rfl))
 f299 := Tryz.func118.trans (congrArg some (by kernel_rfl))
 f300 := Tryz.func120.trans (congrArg some (by kernel_rfl))
 f301 := Tryz.func121.trans (congrArg some (by kernel_rfl))
 f328 := Tryz.func157.trans (congrArg some (by kernel_rfl))
 f329 := Tryz.func158.trans (congrArg some (by kernel_rfl))
 f330 := Tryz.func159.trans (congrArg some (by kernel_rfl))
 f331 := Tryz.func160.trans (congrArg some (by kernel_rfl))
 f332 := Tryz.func161.trans (congrArg some (by kernel_rfl))
 f343 := Tryz.func176.trans (congrArg some (by kernel_rfl))
 t0 := Tryz.underlying0
 a0 := Tryz.isAgg0
 z0 := Tryz.sizeOf0
 v0 := Tryz.zeroValue0
 t3 := Tryz.underlying3
 a3 := Tryz.isAgg3
 z3 := Tryz.sizeOf3
 v3 := Tryz.zeroValue3
 t4 := Tryz.underlying4
 a4 := Tryz.isAgg4
 z4 := Tryz.sizeOf4
 v4 := Tryz.zeroValue4
 t5 := Tryz.underlying5
 a5 := Tryz.isAgg5
 z5 := Tryz.sizeOf5
 v5 := Tryz.zeroValue5
 t9 := Tryz.underlying9
 a9 := Tryz.isAgg9
 z9 := Tryz.sizeOf9
 v9 := Tryz.zeroValue9
 t28 := Tryz.underlying23
 a28 := Tryz.isAgg23
 z28 := Tryz.sizeOf23
 v28 := Tryz.zeroValue23
 t46 := Tryz.underlying125
 a46 := Tryz.isAgg125
 z46 := Tryz.sizeOf125
 v46 := Tryz.zeroValue125
 t51 := Tryz.underlying38
 a51 := Tryz.isAgg38
 z51 := Tryz.sizeOf38
 v51 := Tryz.zeroValue38
 t53 := Tryz.underlying142
 a53 := Tryz.isAgg142
 z53 := Tryz.sizeOf142
 v53 := Tryz.zeroValue142
 t131 := Tryz.underlying89
 a131 := Tryz.isAgg89
 z131 := Tryz.sizeOf89
 v131 := Tryz.zeroValue89
 t182 := Tryz.underlying134
 a182 := Tryz.isAgg134
 z182 := Tryz.sizeOf134
 v182 := Tryz.zeroValue134
 t183 := Tryz.underlying135
 a183 := Tryz.isAgg135
 z183 := Tryz.sizeOf135
 v183 := Tryz.zeroValue135
 t218 := Tryz.underlying153
 a218 := Tryz.isAgg153
 z218 := Tryz.sizeOf153
 v218 := Tryz.zeroValue153
 t222 := Tryz.underlying157
 a222 := Tryz.isAgg157
 z222 := Tryz.sizeOf157
 v222 := Tryz.zeroValue157
 t228 := Tryz.underlying170
 a228 := Tryz.isAgg170
 z228 := Tryz.sizeOf170
 v228 := Tryz.zeroValue170
 t229 := Tryz.underlying171
 a229 := Tryz.isAgg171
 z229 := Tryz.sizeOf171
 v229 := Tryz.zeroValue171 }
open Go.Sort Go.RowKit in
theorem Tryz.slices_Sort_int (blk off cap : Nat) (zs : List Int) (w : World) (hH : Holds (Value.int .i64) w blk off zs.toArray) (hblk : blk < w.heap.size) (hsz : zs.length < 4611686018427387904) :
  Calls Tryz.prog 71 #[.slice (some ⟨blk, off, none⟩) zs.length cap] w fun e w' =>
   e = .returned (.tuple #[]) ∧ ∃ n os, w' = grow (putRow (Value.int .i64) (Sort.ahead w n) blk off (zs.mergeSort fun x y => decide (x ≤ y)).toArray) os := Any.slices_Sort_int Tryz.lays189 blk off cap zs w hH hblk hsz
def Tryz.lays108_ren : Go.Shelf.Ren := ⟨fun | 108 => 62 | n => n, fun | 28 => 23 | 3 => 3 | 0 => 0 | 4 => 4 | n => n, fun | n => n⟩
theorem Tryz.lays108 : Go.Proofs.Lays.n108 Tryz.prog Tryz.lays108_ren := {
 mixed := by kernel_rfl
 f108 := Tryz.func62.trans (congrArg some (by kernel_rfl))
 t0 := Tryz.underlying0
 a0 := Tryz.isAgg0
 z0 := Tryz.sizeOf0
 v0 := Tryz.zeroValue0
 t3 := Tryz.underlying3
 a3 := Tryz.isAgg3
 z3 := Tryz.sizeOf3
 v3 := Tryz.zeroValue3
 t4 := Tryz.underlying4
 a4 := Tryz.isAgg4
 z4 := Tryz.sizeOf4
 v4 := Tryz.zeroValue4
 t28 := Tryz.underlying23
 a28 := Tryz.isAgg23
 z28 := Tryz.sizeOf23
 v28 := Tryz.zeroValue23 }
open Go.Lib in
theorem Tryz.slices_Index_int (b off n c : Nat) (zs : List Int) (x : Int) (w : World) (hz : n ≤ zs.length) (hbig : n ≤ 9223372036854775807) (hc : ∀ j, j < zs.length → w.cell? ⟨b, off + j, none⟩ = some (.int .i64 (zs.getD j 0))) :
  Calls Tryz.prog 62 #[.slice (some ⟨b, off, none⟩) n c, .int .i64 x] w fun e w' => e = .returned (.int .i64 (Lib.idxOf (zs.take n) x)) ∧ w' = w := Any.slices_Index_int Tryz.lays108 b off n c zs x w hz hbig hc
open Go.Lib in
theorem Tryz.slices_Index_int_empty (a : Option Addr) (c : Nat) (x : Int) (w : World) :
  Calls Tryz.prog 62 #[.slice a 0 c, .int .i64 x] w fun e w' => e = .returned (.int .i64 (Lib.idxOf [] x)) ∧ w' = w := Any.slices_Index_int_empty Tryz.lays108 a c x w
def Tryz.lays107_ren : Go.Shelf.Ren := ⟨fun | 107 => 142 | 108 => 62 | n => n, fun | 28 => 23 | 3 => 3 | 4 => 4 | 0 => 0 | n => n, fun | n => n⟩
theorem Tryz.lays107 : Go.Proofs.Lays.n107 Tryz.prog Tryz.lays107_ren := {
 mixed := by kernel_rfl
 f107 := Tryz.func142.trans (congrArg some (by kernel_rfl))
 f108 := Tryz.func62.trans (congrArg some (by kernel_rfl))
 t0 := Tryz.underlying0
 a0 := Tryz.isAgg0
 z0 := Tryz.sizeOf0
 v0 := Tryz.zeroValue0
 t3 := Tryz.underlying3
 a3 := Tryz.isAgg3
 z3 := Tryz.sizeOf3
 v3 := Tryz.zeroValue3
 t4 := Tryz.underlying4
 a4 := Tryz.isAgg4
 z4 := Tryz.sizeOf4
 v4 := Tryz.zeroValue4
 t28 := Tryz.underlying23
 a28 := Tryz.isAgg23
 z28 := Tryz.sizeOf23
 v28 := Tryz.zeroValue23 }
open Go.Lib in
theorem Tryz.slices_Contains_int (b off n c : Nat) (zs : List Int) (x : Int) (w : World) (hz : n ≤ zs.length) (hbig : n ≤ 9223372036854775807) (hc : ∀ j, j < zs.length → w.cell? ⟨b, off + j, none⟩ = some (.int .i64 (zs.getD j 0))) :
  Calls Tryz.prog 142 #[.slice (some ⟨b, off, none⟩) n c, .int .i64 x] w fun e w' => e = .returned (.bool ((zs.take n).contains x)) ∧ w' = w := Any.slices_Contains_int Tryz.lays107 b off n c zs x w hz hbig hc
open Go.Lib in
theorem Tryz.slices_Contains_int_empty (a : Option Addr) (c : Nat) (x : Int) (w : World) :
  Calls Tryz.prog 142 #[.slice a 0 c, .int .i64 x] w fun e w' => e = .returned (.bool false) ∧ w' = w := Any.slices_Contains_int_empty Tryz.lays107 a c x w
def Tryz.lays111_ren : Go.Shelf.Ren := ⟨fun | 111 => 80 | n => n, fun | 28 => 23 | 3 => 3 | 4 => 4 | 0 => 0 | n => n, fun | n => n⟩
theorem Tryz.lays111 : Go.Proofs.Lays.n111 Tryz.prog Tryz.lays111_ren := {
 mixed := by kernel_rfl
 f111 := Tryz.func80.trans (congrArg some (by kernel_rfl))
 t0 := Tryz.underlying0
 a0 := Tryz.isAgg0
 z0 := Tryz.sizeOf0
 v0 := Tryz.zeroValue0
 t3 := Tryz.underlying3
 a3 := Tryz.isAgg3
 z3 := Tryz.sizeOf3
 v3 := Tryz.zeroValue3
 t4 := Tryz.underlying4
 a4 := Tryz.isAgg4
 z4 := Tryz.sizeOf4
 v4 := Tryz.zeroValue4
 t28 := Tryz.underlying23
 a28 := Tryz.isAgg23
 z28 := Tryz.sizeOf23
 v28 := Tryz.zeroValue23 }
open Go.RowKit Go.Lib in
theorem Tryz.slices_Equal_int (b1 o1 n c b2 o2 m d : Nat) (xs ys : List Int) (w : World) (hx : n ≤ xs.length) (hy : m ≤ ys.length) (hbig : n ≤ 9223372036854775807) (hbig2 : m ≤ 9223372036854775807) (hc1 : ∀ j, j < xs.length → w.cell? ⟨b1, o1 + j, none⟩ = some (.int .i64 (xs.getD j 0))) (hc2 : ∀ j, j < ys.length → w.cell? ⟨b2, o2 + j, none⟩ = some (.int .i64 (ys.getD j 0))) :
  Calls Tryz.prog 80 #[.slice (some ⟨b1, o1, none⟩) n c, .slice (some ⟨b2, o2, none⟩) m d] w fun e w' => e = .returned (.bool (xs.take n == ys.take m)) ∧ ∃ q, w' = w.drewN q := Any.slices_Equal_int Tryz.lays111 b1 o1 n c b2 o2 m d xs ys w hx hy hbig hbig2 hc1 hc2
open Go.RowKit Go.Lib in
theorem Tryz.slices_Equal_int_empty (a1 a2 : Option Addr) (c m d : Nat) (w : World) (hbig2 : m ≤ 9223372036854775807) :
  Calls Tryz.prog 80 #[.slice a1 0 c, .slice a2 m d] w fun e w' => e = .returned (.bool (decide (m = 0))) ∧ w' = w := Any.slices_Equal_int_empty Tryz.lays111 a1 a2 c m d w hbig2
def Tryz.laysNm237_ren : Go.Shelf.Ren := ⟨fun | 37 => 162 | n => n, fun | 3 => 3 | 4 => 4 | n => n, fun | n => n⟩
theorem Tryz.laysNm237 : Go.Proofs.Lays2.n37 Tryz.prog Tryz.laysNm237_ren := {
 mixed := by kernel_rfl
 f37 := Tryz.func162.trans (congrArg some (by kernel_rfl))
 t3 := Tryz.underlying3
 a3 := Tryz.isAgg3
 z3 := Tryz.sizeOf3
 v3 := Tryz.zeroValue3
 t4 := Tryz.underlying4
 a4 := Tryz.isAgg4
 z4 := Tryz.sizeOf4
 v4 := Tryz.zeroValue4 }
open Go.RowKit Go.Lib in
theorem Tryz.cmp_isNaN_int2 (x : Int) (w : World) :
  Calls Tryz.prog 162 #[.int .i64 x] w fun e w' => e = .returned (.bool false) ∧ w' = w := Any.cmp_isNaN_int2 Tryz.laysNm237 x w
def Tryz.laysNm231_ren : Go.Shelf.Ren := ⟨fun | 31 => 119 | 37 => 162 | n => n, fun | 3 => 3 | 4 => 4 | n => n, fun | n => n⟩
theorem Tryz.laysNm231 : Go.Proofs.Lays2.n31 Tryz.prog Tryz.laysNm231_ren := {
 mixed := by kernel_rfl
 f31 := Tryz.func119.trans (congrArg some (by kernel_rfl))
 f37 := Tryz.func162.trans (congrArg some (by kernel_rfl))
 t3 := Tryz.underlying3
 a3 := Tryz.isAgg3
 z3 := Tryz.sizeOf3
 v3 := Tryz.zeroValue3
 t4 := Tryz.underlying4
 a4 := Tryz.isAgg4
 z4 := Tryz.sizeOf4
 v4 := Tryz.zeroValue4 }
open Go.RowKit Go.Lib in
theorem Tryz.cmp_Less_int2 (x y : Int) (w : World) :
  Calls Tryz.prog 119 #[.int .i64 x, .int .i64 y] w fun e w' => e = .returned (.bool (decide (x < y))) ∧ w' = w := Any.cmp_Less_int2 Tryz.laysNm231 x y w
open Go.RowKit Go.Sort in
theorem Tryz.slices_Sort_int_none (p : Option Addr) (cap : Nat) (w : World) :
  Calls Tryz.prog 71 #[.slice p 0 cap] w fun e w' => e = .returned (.tuple #[]) ∧ w' = w := Any.slices_Sort_int_none Tryz.lays189 p cap w
open Go.RowKit Go.Lib in
theorem Tryz.slices_Equal_int_lens (a1 a2 : Option Addr) (n c m d : Nat) (w : World) (hnm : n ≠ m) :
  Calls Tryz.prog 80 #[.slice a1 n c, .slice a2 m d] w fun e w' => e = .returned (.bool false) ∧ w' = w := Any.slices_Equal_int_lens Tryz.lays111 a1 a2 n c m d w hnm
end Go.Proofs
namespace Go.Proofs.YtnkocjkkefnelaaGreat
open Go.RowKit Go.Sort
def sortMax : Nat := 12
abbrev encU : Int → Value := Value.int .u32
theorem isNaN_u (x : Int) (w : World) : Calls Tryz.prog 180 #[.int .u32 x] w fun e w' => e = .returned (.bool false) ∧ w' = w := by
 go_enter Tryz.func180, Tryz.ntmps180
 go_wp2
 go_ret
 exact ⟨by simp, rfl⟩
theorem vX (x y : Int) (w : World) : Calls Tryz.prog 169 #[.int .u32 x, .int .u32 y] w fun e w' => e = .returned (.bool (ltInt x y)) ∧ w' = w := by
 go_enter Tryz.func169, Tryz.ntmps169
 go_wp2_with (go_at_call 180; refine (isNaN_u _ _).mono ?_; rintro e w' ⟨rfl, rfl⟩)
 go_ret
 exact ⟨rfl, rfl⟩
theorem insertion_u (blk off cap a b : Nat) (d : Array Int) (w : World) (hH : Holds encU w blk off d) (hab : a ≤ b) (hb : b ≤ d.size) (hsz : d.size < 4611686018427387904) :
  Calls Tryz.prog 163 #[.slice (some ⟨blk, off, none⟩) d.size cap, .int .i64 a, .int .i64 b] w fun e w' =>
   e = .returned (.tuple #[]) ∧ ∃ n, w' = putRow encU (Sort.ahead w n) blk off (Sort.insertionSort ltInt d a b) := by
 go_enter Tryz.func163, Tryz.ntmps163
 go_wp2
 go_loopw [6] (fun vi wr => ∃ (i n : Nat) (dk : Array Int), vi = .int .i64 i ∧ a < i ∧ i ≤ b + 1 ∧ dk.size = d.size ∧ wr = putRow encU (Sort.ahead w n) blk off dk ∧
   insOuter ltInt a b i dk = insOuter ltInt a b (a + 1) d) (fun vi _ => b + 1 - (RowKit.intOf vi).toNat)
 case atStart => exact ⟨a + 1, 0, d, by go_num, by omega, by omega, rfl, (putRow_self _ _ _ _ _ hH).symm, rfl⟩
 case round =>
  obtain ⟨i, n, dk, rfl, hai, hib, hsk, hwr, hO⟩ := hrel
  have HO := Lib.hid hO
  clear hO
  by_cases hlt : i < b
  ·go_wp2
   go_loopw [7] (fun vj w2 => ∃ (j m : Nat) (dj : Array Int), vj = .int .i64 j ∧ a ≤ j ∧ j ≤ i ∧ dj.size = d.size ∧ w2 = putRow encU (Sort.ahead w m) blk off dj ∧
     insInner ltInt a j dj = insInner ltInt a i dk) (fun vj _ => (RowKit.intOf vj).toNat)
   case atStart => exact ⟨i, n, dk, rfl, by omega, Nat.le_refl _, hsk, rfl, rfl⟩
   case round =>
    obtain ⟨j, m, dj, rfl, haj, hji, hsj, hw2, hI⟩ := hrel
    obtain ⟨G, hG⟩ : ∃ G : Nat → Int, ∀ t, G t = dj[t]! := ⟨fun t => dj[t]!, fun _ => rfl⟩
    have hcw : ∀ t, t < d.size → wr.cell? ⟨blk, off + t, none⟩ = some (.int .u32 (G t)) := fun t ht => by
     rw [hw2, hG]; exact cell?_putRow _ _ _ _ d dj (holds_ahead _ _ _ _ _ _ hH) hsj t (by omega)
    have hfw : ∀ t, t < d.size → wr.frozen? ⟨blk, off + t, none⟩ = false := fun t ht => by
     rw [hw2, frozen?_putRow]; exact ((holds_ahead _ _ m _ _ _ hH) t ht).2
    have HW := Lib.hid hw2
    have HG := Lib.hid hG
    have HI := Lib.hid hI
    clear hw2 hG hI
    have OUT : Hid ((j ≤ a ∨ ltInt (G j) (G (j - 1)) = false) → ∀ q, wr.drewN q = putRow encU (Sort.ahead w (m + q)) blk off dj ∧ insOuter ltInt a b (i + 1) dj = insOuter ltInt a b (a + 1) d) := Lib.hid (fun hs q =>
     ⟨by rw [HW.out]; exact putRow_drewN _ _ _ _ _ _ _, by rw [← HO.out, insOuter_go _ _ _ _ _ hlt, ← HI.out, insInner_stop _ _ _ _ (by rw [← HG.out, ← HG.out]; exact hs)]⟩)
    by_cases hja : a < j
    ·cases hl : ltInt (G j) (G (j - 1)) with
     | true =>
      have HL := Lib.hid hl
      have LT := Lib.hid (fun w => vX (G j) (G (j - 1)) w)
      clear hl
      go_wp2
      go_quiet ((go_at_call 169; have t := LT.out; rw [HL.out] at t; refine Calls.quiet_of_same (t _)))
      go_wp2
      go_region
      all_goals go_wp2
      go_roundw
      case rel =>
       refine ⟨j - 1, m + (nq + 1), swp dj j (j - 1), by congr 1; omega, by omega, by omega, by rw [size_swp]; exact hsj, ?_, ?_⟩
       ·rw [HW.out, HG.out, HG.out]
        exact swap_worldA _ w m (nq + 1) blk off dj j (j - 1) (by omega) (by omega)
       ·rw [← HI.out, insInner_go ltInt a j dj hja (by rw [← HG.out, ← HG.out]; exact HL.out)]
      case measure => simp [RowKit.intOf]; omega
     | false =>
      have HL := Lib.hid hl
      have LT := Lib.hid (fun w => vX (G j) (G (j - 1)) w)
      clear hl
      go_wp2
      go_quiet ((go_at_call 169; have t := LT.out; rw [HL.out] at t; refine Calls.quiet_of_same (t _)))
      go_wp2
      go_roundw
      case rel => exact ⟨i + 1, m + nq, dj, by go_num, by omega, by omega, hsj, (OUT.out (Or.inr HL.out) nq).1, (OUT.out (Or.inr HL.out) nq).2⟩
      case measure => simp [RowKit.intOf]; omega
    ·have hja2 : decide (a < j) = false := by simpa using hja
     go_wp2
     go_quiet (fail)
     go_wp2
     go_roundw
     case rel => exact ⟨i + 1, m + nq, dj, by go_num, by omega, by omega, hsj, (OUT.out (Or.inl (by omega)) nq).1, (OUT.out (Or.inl (by omega)) nq).2⟩
     case measure => simp [RowKit.intOf]; omega
  ·go_wp2
   go_end0
   exact ⟨rfl, n, by unfold Sort.insertionSort; rw [← HO.out, insOuter_stop _ _ _ _ _ hlt]⟩
end Go.Proofs.YtnkocjkkefnelaaGreat
