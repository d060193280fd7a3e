/- Parts. -/
import Derived.Test.YtnkocjkkefnelaaGreatRows
import Derived.WalkKit
import Derived.WalkSpells
import Derived.WalkLawsBesides
import Derived.Deep.QuietTactic
import Derived.BigQuiet
import Derived.ProofKit
import Derived.Lib.Hide
import Derived.Deep.DeepCutAuto
import Derived.Lib.SmallJoins
import Derived.WideKeyArgs
import Derived.Deep.SlicePairs
import Derived.SizedLaws
import Derived.OpenShut
set_option linter.unusedVariables false
set_option linter.unusedSimpArgs false
set_option maxHeartbeats 4000000
namespace Go.Proofs.YtnkocjkkefnelaaGreat
open Go.RowKit
theorem uQ {a b : Bool} (h : a = b) : Ending.returned (.bool a) = .returned (.bool b) := by rw [h]
structure Over where
 n : Nat
 os : Array Obj
 deriving Inhabited
def vC (w : World) (p : Over) : World := { w with drawn := p.n, heap := w.heap ++ p.os }
theorem kB (w : World) (p : Over) (k : Nat) (h : k < w.heap.size) : (vC w p).heap[k]? = w.heap[k]? := by
 simp [vC, Array.getElem?_append, h]
theorem uH (w : World) (p : Over) {b o : Nat} {v : Value} (hb : b < w.heap.size) (h : w.cell? ⟨b, o, none⟩ = some v) : (vC w p).cell? ⟨b, o, none⟩ = some v := by
 rw [← h]; exact World.cell?_of_block (kB w p b hb)
theorem uU (w : World) (p : Over) : Below w.heap.size w (vC w p) :=
 ⟨rfl, rfl, rfl, by simp [vC], fun k hk => kB w p k hk⟩
theorem below_over {w w' : World} (h : Below w.heap.size w w') : ∃ p : Over, w' = vC w p := by
 refine ⟨⟨w'.drawn, w'.heap.extract w.heap.size w'.heap.size⟩, ?_⟩
 obtain ⟨h1, h2, h3, h4, h5⟩ := h
 cases w with | mk heap tape drawn os output =>
 cases w' with | mk heap' tape' drawn' os' output' =>
 simp only at h1 h2 h3 h4 h5
 subst h1 h2 h3
 simp only [vC, World.mk.injEq, and_true]
 apply Array.ext_getElem?
 intro i
 by_cases hi : i < heap.size
 ·rw [h5 i hi]; simp [Array.getElem?_append, hi]
 ·simp only [Array.getElem?_append, hi, if_false]
  rw [Array.getElem?_extract]
  split
  ·congr 1; omega
  ·rw [Array.getElem?_eq_none (by omega)]
theorem over_over (w : World) (p q : Over) : ∃ r : Over, vC (vC w p) q = vC w r :=
 ⟨⟨q.n, p.os ++ q.os⟩, by simp [vC, Array.append_assoc]⟩
theorem uJ {P : Program} {id : Nat} {Q : Exit → Act → World → Prop} {a : Act} {w : World} {l : List Oper} (hm : P.follows .mixedOrders = true) (hB : Region.lexB .any l.toArray = true)
  (h : wpQuiet P l.toArray (fun w' => ∃ p : Over, w' = vC w p) (fun a' => ∀ w', (∃ p : Over, w' = vC w p) → Q .normal a' w') l a) : (Code.region id l.toArray true).wp P Q a w :=
 wp_region_quiet (C := fun w' => ∃ p : Over, w' = vC w p) hm hB ⟨⟨w.drawn + 1, #[]⟩, by simp [vC]⟩ (by simpa using h)
theorem wH {w : World} {cs : Array Value} {t : TypeId} {X : World → Prop}
  (h : ∀ W, Below w.heap.size w W → w.heap.size < W.heap.size → (∀ j v, cs[j]? = some v → W.cell? ⟨w.heap.size, j, none⟩ = some v) → X W) : X (w.alloc (.cells cs t)) :=
 h _ ((Below.refl _ _).alloc (Nat.le_refl _) _) (by simp) (fun j v hj => by
  have hp : (w.alloc (.cells cs t)).heap[w.heap.size]? = some (.cells cs t) := by show (w.heap.push _)[w.heap.size]? = _; simp
  rw [← hj]; simp only [World.cell?, hp]; simp)
theorem vH {P : Program} {f : FuncId} {args : Array Value} {w : World} {p : Over} {v : Value}
  (h : Calls P f args (vC w p) fun e w' => e = .returned v ∧ Below (vC w p).heap.size (vC w p) w') : Calls P f args (vC w p) fun e w'' => e = .returned v ∧ ∃ q : Over, w'' = vC w q :=
 h.mono fun _ _ ⟨he, hb⟩ => ⟨he, by obtain ⟨q, rfl⟩ := below_over hb; exact over_over w p q⟩
structure Sl where
 a : Option Addr
 n : Nat
 c : Nat
 deriving Inhabited
def Sl.v (s : Sl) : Value := .slice s.a s.n s.c
structure Ev where
 hart : Int
 kind : Int
 addr : Int
 val : Int
 rval : Int
 aq : Bool
 rl : Bool
 pred : Int
 succ : Int
 rsv : Bool
 av : Sl
 dv : Sl
 cv : Sl
 addrs : List Int
 datas : List Int
 ctrls : List Int
 deriving Inhabited
def Ev.cells (e : Ev) : List Value := [.int .i64 e.hart, .int .i64 e.kind, .int .u32 e.addr, .int .u32 e.val, .int .u32 e.rval, .bool e.aq, .bool e.rl, .int .i64 e.pred, .int .i64 e.succ, .bool e.rsv, .slice e.av.a e.av.n e.av.c, .slice e.dv.a e.dv.n e.dv.c, .slice e.cv.a e.cv.n e.cv.c]
def Ev.agg (e : Ev) : Value := .agg #[.int .i64 e.hart, .int .i64 e.kind, .int .u32 e.addr, .int .u32 e.val, .int .u32 e.rval, .bool e.aq, .bool e.rl, .int .i64 e.pred, .int .i64 e.succ, .bool e.rsv, .slice e.av.a e.av.n e.av.c, .slice e.dv.a e.dv.n e.dv.c, .slice e.cv.a e.cv.n e.cv.c]
def Ev.small (e : Ev) : Prop := e.av.n ≤ 1152921504606846976 ∧ e.dv.n ≤ 1152921504606846976 ∧ e.cv.n ≤ 1152921504606846976
def Ev.stB (e : Ev) : Bool := e.kind == 2 || e.kind == 3 || e.kind == 5
def Ev.ldB (e : Ev) : Bool := e.kind == 1 || e.kind == 3
def Ev.bareB (e : Ev) : Bool :=
 if e.kind = 5 then e.hart == -1 && e.rval == 0 && !(decide (0 < e.av.n + e.dv.n + e.cv.n)) && !(e.pred != 0 || e.succ != 0) && !(e.aq || e.rl || e.rsv)
 else if e.kind = 1 then e.val == 0 && !(e.pred != 0 || e.succ != 0) && e.dv.n == 0
 else if e.kind = 2 then e.rval == 0 && !(e.pred != 0 || e.succ != 0)
 else if e.kind = 3 then !(e.pred != 0 || e.succ != 0) && !e.rsv
 else if e.kind = 4 then e.addr == 0 && e.val == 0 && e.rval == 0 && !(e.aq || e.rl || e.rsv) && e.av.n + e.dv.n == 0 && decide (0 ≤ e.pred) && decide (e.pred ≤ 3) && decide (0 ≤ e.succ) && decide (e.succ ≤ 3)
 else false
theorem mK (e : Ev) (w : World) :
  Calls Tryz.prog 79 #[e.agg] w fun o w' => o = .returned (.bool e.stB) ∧ Below w.heap.size w w' := by
 obtain ⟨hart, kind, addr, val, rval, aq, rl, pred, succ, rsv, av, dv, cv, _, _, _⟩ := e
 unfold Ev.agg Ev.stB
 dsimp only
 go_enter Tryz.func79, Tryz.ntmps79
 go_wp2
 all_goals
  go_ret
  exact ⟨uQ (by simp_all), (Below.refl _ _).alloc (Nat.le_refl _) _⟩
theorem gL (e : Ev) (w : World) :
  Calls Tryz.prog 78 #[e.agg] w fun o w' => o = .returned (.bool e.ldB) ∧ Below w.heap.size w w' := by
 obtain ⟨hart, kind, addr, val, rval, aq, rl, pred, succ, rsv, av, dv, cv, _, _, _⟩ := e
 unfold Ev.agg Ev.ldB
 dsimp only
 go_enter Tryz.func78, Tryz.ntmps78
 go_wp2
 all_goals
  go_ret
  exact ⟨uQ (by simp_all), (Below.refl _ _).alloc (Nat.le_refl _) _⟩
theorem bare_eq (e : Ev) : e.bareB =
  if e.kind == 5 then e.hart == -1 && e.rval == 0 && !(decide (0 < (e.av.n : Int) + e.dv.n + e.cv.n)) && !(e.pred != 0 || e.succ != 0) && !(e.aq || e.rl || e.rsv)
  else if e.kind == 1 then e.val == 0 && !(e.pred != 0 || e.succ != 0) && (e.dv.n : Int) == 0
  else if e.kind == 2 then e.rval == 0 && !(e.pred != 0 || e.succ != 0)
  else if e.kind == 3 then !(e.pred != 0 || e.succ != 0) && !e.rsv
  else if e.kind == 4 then e.addr == 0 && e.val == 0 && e.rval == 0 && !(e.aq || e.rl || e.rsv) && ((e.av.n : Int) + e.dv.n == 0) && decide (0 ≤ e.pred) && decide (e.pred ≤ 3) && decide (0 ≤ e.succ) && decide (e.succ ≤ 3)
  else false := by
 have h1 : decide (0 < e.av.n + e.dv.n + e.cv.n) = decide (0 < (e.av.n : Int) + e.dv.n + e.cv.n) := by congr 1; apply propext; omega
 have h2 : (e.dv.n == 0) = ((e.dv.n : Int) == 0) := by rw [Bool.eq_iff_iff]; simp
 have h3 : (e.av.n + e.dv.n == 0) = ((e.av.n : Int) + e.dv.n == 0) := by rw [Bool.eq_iff_iff]; simp; omega
 unfold Ev.bareB
 rw [h1, h2, h3]
 simp only [beq_iff_eq]
set_option maxRecDepth 100000 in
set_option maxHeartbeats 1000000 in
theorem bare_c (e : Ev) (hs : e.small) (w : World) :
  Calls Tryz.prog 76 #[e.agg] w fun o w' => o = .returned (.bool e.bareB) ∧ Below w.heap.size w w' := by
 rw [bare_eq]
 obtain ⟨hart, kind, addr, val, rval, aq, rl, pred, succ, rsv, ⟨aa, an, ac⟩, ⟨da, dn, dc⟩, ⟨ca, cn, cc⟩, _, _, _⟩ := e
 unfold Ev.small at hs
 unfold Ev.agg
 dsimp only at hs ⊢
 obtain ⟨h1, h2, h3⟩ := hs
 obtain ⟨k5, hk5⟩ : ∃ bool_ : Bool, (kind == 5) = bool_ := ⟨_, rfl⟩
 obtain ⟨k1, hk1⟩ : ∃ bool_ : Bool, (kind == 1) = bool_ := ⟨_, rfl⟩
 obtain ⟨k2, hk2⟩ : ∃ bool_ : Bool, (kind == 2) = bool_ := ⟨_, rfl⟩
 obtain ⟨k3, hk3⟩ : ∃ bool_ : Bool, (kind == 3) = bool_ := ⟨_, rfl⟩
 obtain ⟨k4, hk4⟩ : ∃ bool_ : Bool, (kind == 4) = bool_ := ⟨_, rfl⟩
 obtain ⟨hm, hhm⟩ : ∃ bool_ : Bool, (hart == -1) = bool_ := ⟨_, rfl⟩
 obtain ⟨r0, hr0⟩ : ∃ bool_ : Bool, (rval == 0) = bool_ := ⟨_, rfl⟩
 obtain ⟨v0, hv0⟩ : ∃ bool_ : Bool, (val == 0) = bool_ := ⟨_, rfl⟩
 obtain ⟨a0, ha0⟩ : ∃ bool_ : Bool, (addr == 0) = bool_ := ⟨_, rfl⟩
 obtain ⟨dp, hdp⟩ : ∃ bool_ : Bool, decide (0 < (an : Int) + dn + cn) = bool_ := ⟨_, rfl⟩
 obtain ⟨p0, hp0⟩ : ∃ bool_ : Bool, (pred != 0) = bool_ := ⟨_, rfl⟩
 obtain ⟨s0, hs0⟩ : ∃ bool_ : Bool, (succ != 0) = bool_ := ⟨_, rfl⟩
 obtain ⟨d0, hd0⟩ : ∃ bool_ : Bool, ((dn : Int) == 0) = bool_ := ⟨_, rfl⟩
 obtain ⟨ad, had⟩ : ∃ bool_ : Bool, ((an : Int) + dn == 0) = bool_ := ⟨_, rfl⟩
 obtain ⟨pg, hpg⟩ : ∃ bool_ : Bool, decide (0 ≤ pred) = bool_ := ⟨_, rfl⟩
 obtain ⟨pl, hpl⟩ : ∃ bool_ : Bool, decide (pred ≤ 3) = bool_ := ⟨_, rfl⟩
 obtain ⟨sg, hsg⟩ : ∃ bool_ : Bool, decide (0 ≤ succ) = bool_ := ⟨_, rfl⟩
 obtain ⟨sl, hsl⟩ : ∃ bool_ : Bool, decide (succ ≤ 3) = bool_ := ⟨_, rfl⟩
 rw [hk5, hk1, hk2, hk3, hk4, hhm, hr0, hv0, ha0, hdp, hp0, hs0, hd0, had, hpg, hpl, hsg, hsl]
 obtain ⟨res, hres⟩ : ∃ x : Bool, (if k5 then hm && r0 && !dp && !(p0 || s0) && !(aq || rl || rsv) else if k1 then v0 && !(p0 || s0) && d0 else if k2 then r0 && !(p0 || s0) else if k3 then !(p0 || s0) && !rsv else if k4 then a0 && v0 && r0 && !(aq || rl || rsv) && ad && pg && pl && sg && sl else false) = x := ⟨_, rfl⟩
 rw [hres]
 have RES := Lib.hid hres
 clear hres
 go_enter Tryz.func76, Tryz.ntmps76
 go_upto_region 0 with (fail)
 go_cut [0, 1] (fun s0 s1 wx => s1 = .pointer (some ⟨w.heap.size, 0, none⟩) ∧ Below w.heap.size w wx ∧ wx.cell? ⟨w.heap.size, 0, none⟩ = some (Value.int IntKind.i64 hart) ∧ wx.cell? ⟨w.heap.size, 1, none⟩ = some (Value.int IntKind.i64 kind) ∧ wx.cell? ⟨w.heap.size, 2, none⟩ = some (Value.int IntKind.u32 addr) ∧ wx.cell? ⟨w.heap.size, 3, none⟩ = some (Value.int IntKind.u32 val) ∧ wx.cell? ⟨w.heap.size, 4, none⟩ = some (Value.int IntKind.u32 rval) ∧ wx.cell? ⟨w.heap.size, 5, none⟩ = some (Value.bool aq) ∧ wx.cell? ⟨w.heap.size, 6, none⟩ = some (Value.bool rl) ∧ wx.cell? ⟨w.heap.size, 7, none⟩ = some (Value.int IntKind.i64 pred) ∧ wx.cell? ⟨w.heap.size, 8, none⟩ = some (Value.int IntKind.i64 succ) ∧ wx.cell? ⟨w.heap.size, 9, none⟩ = some (Value.bool rsv) ∧ wx.cell? ⟨w.heap.size, 10, none⟩ = some (Value.slice aa an ac) ∧ wx.cell? ⟨w.heap.size, 11, none⟩ = some (Value.slice da dn dc) ∧ wx.cell? ⟨w.heap.size, 12, none⟩ = some (Value.slice ca cn cc))
 case first =>
  go_wp2_with fail
  go_meet
  exact ⟨rfl, (Below.refl _ _).alloc (Nat.le_refl _) _, by simp, by simp, by simp, by simp, by simp, by simp, by simp, by simp, by simp, by simp, by simp, by simp, by simp⟩
 case rest =>
 obtain ⟨rfl, hb, c0, c1, c2, c3, c4, c5, c6, c7, c8, c9, c10, c11, c12⟩ := hcut
 go_upto_region 2 with (fail)
 go_cut [4] (fun s4 wx => s4 = .bool (p0 || s0) ∧ wx = wc)
 case first =>
  go_wp2_with fail
  all_goals (go_meet; exact ⟨by simp_all, rfl⟩)
 case rest =>
  obtain ⟨rfl, rfl⟩ := hcut
  go_upto_region 3 with (fail)
  go_cut [5] (fun s5 wx => s5 = .bool (aq || rl || rsv) ∧ wx = wc)
  case first =>
   go_wp2_with fail
   all_goals (go_meet; exact ⟨by simp_all, rfl⟩)
  case rest =>
   obtain ⟨rfl, rfl⟩ := hcut
   generalize (p0 || s0) = fence at *
   generalize (aq || rl || rsv) = ord at *
   go_wp2
   all_goals
    go_ret
    exact ⟨uQ (by rw [← RES.out]; simp_all), hb⟩
def IntsIn (q : IntKind) (B : Nat) (w : World) (s : Sl) (xs : List Int) : Prop :=
 s.n = xs.length ∧ xs.length ≤ 1152921504606846976 ∧
 (xs = [] ∨ ∃ b off, s.a = some ⟨b, off, none⟩ ∧ b < B ∧ ∀ k, k < xs.length → w.cell? ⟨b, off + k, none⟩ = some (.int q (xs.getD k 0)))
theorem IntsIn.below {q : IntKind} {B : Nat} {w w' : World} {s : Sl} {xs : List Int} (h : IntsIn q B w s xs) (hb : Below B w w') : IntsIn q B w' s xs := by
 obtain ⟨h1, h2, h3⟩ := h
 refine ⟨h1, h2, ?_⟩
 rcases h3 with h3 | ⟨b, off, h4, h5, h6⟩
 ·exact Or.inl h3
 ·exact Or.inr ⟨b, off, h4, h5, fun k hk => by rw [hb.cell (by exact h5)]; exact h6 k hk⟩
theorem IntsIn.mono {q : IntKind} {B B' : Nat} {w : World} {s : Sl} {xs : List Int} (h : IntsIn q B w s xs) (hB : B ≤ B') : IntsIn q B' w s xs := by
 obtain ⟨h1, h2, h3⟩ := h
 refine ⟨h1, h2, ?_⟩
 rcases h3 with h3 | ⟨b, off, h4, h5, h6⟩
 ·exact Or.inl h3
 ·exact Or.inr ⟨b, off, h4, by omega, h6⟩
def Ev.wf (e : Ev) : Prop := (-9223372036854775808 ≤ e.hart ∧ e.hart ≤ 9223372036854775807) ∧ (-9223372036854775808 ≤ e.kind ∧ e.kind ≤ 9223372036854775807) ∧ (0 ≤ e.addr ∧ e.addr < 4294967296) ∧ (0 ≤ e.val ∧ e.val < 4294967296) ∧
 (0 ≤ e.rval ∧ e.rval < 4294967296) ∧ (-9223372036854775808 ≤ e.pred ∧ e.pred ≤ 9223372036854775807) ∧ (-9223372036854775808 ≤ e.succ ∧ e.succ ≤ 9223372036854775807)
def Ev.okIn (B : Nat) (w : World) (e : Ev) : Prop :=
 IntsIn .i64 B w e.av e.addrs ∧ IntsIn .i64 B w e.dv e.datas ∧ IntsIn .i64 B w e.cv e.ctrls ∧ e.wf
theorem Ev.okIn.below {B : Nat} {w w' : World} {e : Ev} (h : e.okIn B w) (hb : Below B w w') : e.okIn B w' := ⟨h.1.below hb, h.2.1.below hb, h.2.2.1.below hb, h.2.2.2⟩
theorem Ev.okIn.small {B : Nat} {w : World} {e : Ev} (h : e.okIn B w) : e.small := by
 obtain ⟨⟨a1, a2, _⟩, ⟨b1, b2, _⟩, ⟨c1, c2, _⟩, _⟩ := h
 exact ⟨by omega, by omega, by omega⟩
def EvCells (w : World) (b o : Nat) (e : Ev) : Prop := w.cell? ⟨b, o, none⟩ = some (Value.int IntKind.i64 e.hart) ∧ w.cell? ⟨b, o + 1, none⟩ = some (Value.int IntKind.i64 e.kind) ∧ w.cell? ⟨b, o + 2, none⟩ = some (Value.int IntKind.u32 e.addr) ∧ w.cell? ⟨b, o + 3, none⟩ = some (Value.int IntKind.u32 e.val) ∧ w.cell? ⟨b, o + 4, none⟩ = some (Value.int IntKind.u32 e.rval) ∧ w.cell? ⟨b, o + 5, none⟩ = some (Value.bool e.aq) ∧ w.cell? ⟨b, o + 6, none⟩ = some (Value.bool e.rl) ∧ w.cell? ⟨b, o + 7, none⟩ = some (Value.int IntKind.i64 e.pred) ∧ w.cell? ⟨b, o + 8, none⟩ = some (Value.int IntKind.i64 e.succ) ∧ w.cell? ⟨b, o + 9, none⟩ = some (Value.bool e.rsv) ∧ w.cell? ⟨b, o + 10, none⟩ = some (Value.slice e.av.a e.av.n e.av.c) ∧ w.cell? ⟨b, o + 11, none⟩ = some (Value.slice e.dv.a e.dv.n e.dv.c) ∧ w.cell? ⟨b, o + 12, none⟩ = some (Value.slice e.cv.a e.cv.n e.cv.c)
def EvsIn (B : Nat) (w : World) (s : Sl) (es : List Ev) : Prop :=
 s.n = es.length ∧ es.length ≤ 1152921504606846976 ∧ (∀ e ∈ es, e.okIn B w) ∧
 (es = [] ∨ ∃ b off, s.a = some ⟨b, off, none⟩ ∧ b < B ∧ ∀ k, k < es.length → EvCells w b (off + k * 13) (es.getD k default))
theorem EvCells.below {B : Nat} {w w' : World} {b o : Nat} {e : Ev} (h : EvCells w b o e) (hb : Below B w w') (hB : b < B) : EvCells w' b o e := by
 unfold EvCells at *
 simp only [show ∀ j, w'.cell? ⟨b, j, none⟩ = w.cell? ⟨b, j, none⟩ from fun j => hb.cell (p := ⟨b, j, none⟩) hB]
 exact h
theorem EvsIn.below {B : Nat} {w w' : World} {s : Sl} {es : List Ev} (h : EvsIn B w s es) (hb : Below B w w') : EvsIn B w' s es := by
 obtain ⟨h1, h2, h3, h4⟩ := h
 refine ⟨h1, h2, fun e he => (h3 e he).below hb, ?_⟩
 rcases h4 with h4 | ⟨b, off, h4, h5, h6⟩
 ·exact Or.inl h4
 ·exact Or.inr ⟨b, off, h4, h5, fun k hk => (h6 k hk).below hb h5⟩
theorem EvsIn.mono {B B' : Nat} {w : World} {s : Sl} {es : List Ev} (h : EvsIn B w s es) (hB : B ≤ B') : EvsIn B' w s es := by
 obtain ⟨h1, h2, h3, h4⟩ := h
 refine ⟨h1, h2, fun e he => ⟨(h3 e he).1.mono hB, (h3 e he).2.1.mono hB, (h3 e he).2.2.1.mono hB, (h3 e he).2.2.2⟩, ?_⟩
 rcases h4 with h4 | ⟨b, off, h4, h5, h6⟩
 ·exact Or.inl h4
 ·exact Or.inr ⟨b, off, h4, by omega, h6⟩
def RowsIn (B : Nat) (w : World) (s : Sl) (rows : List (Sl × List Int)) : Prop :=
 s.n = rows.length ∧ rows.length ≤ 1152921504606846976 ∧ (∀ r ∈ rows, IntsIn .i64 B w r.1 r.2) ∧
 (rows = [] ∨ ∃ b off, s.a = some ⟨b, off, none⟩ ∧ b < B ∧ ∀ k, k < rows.length → w.cell? ⟨b, off + k, none⟩ = some (rows.getD k default).1.v)
theorem RowsIn.below {B : Nat} {w w' : World} {s : Sl} {rows : List (Sl × List Int)} (h : RowsIn B w s rows) (hb : Below B w w') : RowsIn B w' s rows := by
 obtain ⟨h1, h2, h3, h4⟩ := h
 refine ⟨h1, h2, fun e he => (h3 e he).below hb, ?_⟩
 rcases h4 with h4 | ⟨b, off, h4, h5, h6⟩
 ·exact Or.inl h4
 ·exact Or.inr ⟨b, off, h4, h5, fun k hk => by rw [hb.cell (by exact h5)]; exact h6 k hk⟩
structure Ex where
 es : Sl
 fs : Sl
 os : Sl
 evs : List Ev
 from_ : List Int
 order : List (Sl × List Int)
 deriving Inhabited
def Ex.agg (x : Ex) : Value := .agg #[.slice x.es.a x.es.n x.es.c, .slice x.fs.a x.fs.n x.fs.c, .slice x.os.a x.os.n x.os.c]
def Ex.inW (B : Nat) (w : World) (x : Ex) : Prop := EvsIn B w x.es x.evs ∧ IntsIn .i64 B w x.fs x.from_ ∧ RowsIn B w x.os x.order
theorem Ex.inW.below {B : Nat} {w w' : World} {x : Ex} (h : x.inW B w) (hb : Below B w w') : x.inW B w' := ⟨h.1.below hb, h.2.1.below hb, h.2.2.below hb⟩
def depOk (es : List Ev) (n : Nat) (l : List Int) (i : Nat) : Bool :=
  !(decide (l.getD i 0 < 0)) && !(decide ((n : Int) ≤ l.getD i 0)) && !(decide (0 < i) && decide (l.getD i 0 ≤ l.getD (i - 1) 0)) &&
    !((es.getD (l.getD i 0).toNat default).hart != (es.getD n default).hart) && (es.getD (l.getD i 0).toNat default).ldB
def hangsTo (es : List Ev) (n : Nat) (l : List Int) (k : Nat) : Bool := (List.range k).all (depOk es n l)
def hangsB (es : List Ev) (n : Nat) (l : List Int) : Bool := hangsTo es n l l.length
theorem dY (es : List Ev) (n : Nat) (l : List Int) (k : Nat) : hangsTo es n l (k + 1) = (hangsTo es n l k && depOk es n l k) := by
 simp [hangsTo, List.range_succ]
theorem wJ (es : List Ev) (n : Nat) (l : List Int) (k : Nat) (hk : k < l.length) (h : depOk es n l k = false) : hangsB es n l = false := by
 unfold hangsB hangsTo
 rw [List.all_eq_false]
 exact ⟨k, by simpa using hk, by simp [h]⟩
set_option maxRecDepth 100000 in
set_option maxHeartbeats 1000000 in
theorem hangs_c (x : Ex) (n : Nat) (s : Sl) (l : List Int) (w : World) (hx : EvsIn w.heap.size w x.es x.evs) (hl : IntsIn .i64 w.heap.size w s l) (hn : n < x.evs.length) :
  Calls Tryz.prog 77 #[x.agg, .int .i64 n, .slice s.a s.n s.c] w fun o w' => o = .returned (.bool (hangsB x.evs n l)) ∧ Below w.heap.size w w' := by
 obtain ⟨⟨ea, en, ec⟩, ⟨fa, fn, fc⟩, ⟨oa, on, oc⟩, evs, from_, order⟩ := x
 obtain ⟨la, ln, lc⟩ := s
 obtain ⟨h1, h2, h3, h4⟩ := hx
 obtain ⟨g1, g2, g3⟩ := hl
 dsimp only at h1 h2 h3 h4 g1 g2 g3 hn
 unfold Ex.agg
 dsimp only
 subst h1 g1
 have h4' : ∃ b off, ea = some ⟨b, off, none⟩ ∧ b < w.heap.size ∧ ∀ k, k < evs.length → EvCells w b (off + k * 13) (evs.getD k default) := by
  rcases h4 with h4 | h4
  ·subst h4; simp at hn
  ·exact h4
 obtain ⟨b, off, rfl, hbB, hcell⟩ := h4'
 clear h4
 obtain ⟨res, hres⟩ : ∃ x : Bool, hangsB evs n l = x := ⟨_, rfl⟩
 rw [hres]
 have RES := Lib.hid hres
 clear hres
 go_enter Tryz.func77, Tryz.ntmps77
 go_upto_region 0 with (fail)
 go_cut [0, 3] (fun s0 s3 wx => s3 = .pointer (some ⟨w.heap.size, 0, none⟩) ∧ Below w.heap.size w wx ∧ w.heap.size < wx.heap.size ∧ wx.cell? ⟨w.heap.size, 0, none⟩ = some (.slice (some ⟨b, off, none⟩) evs.length ec))
 case first =>
  go_wp2_with fail
  go_meet
  exact ⟨rfl, (Below.refl _ _).alloc (Nat.le_refl _) _, by simp, by simp⟩
 case rest =>
 obtain ⟨rfl, hb, hsz, c0⟩ := hcut
 have hw : ∀ b o, b < w.heap.size → wc.cell? ⟨b, o, none⟩ = w.cell? ⟨b, o, none⟩ := fun b o h => hb.cell (p := ⟨b, o, none⟩) h
 go_wp2
 go_loopw [11] (fun i wr => ∃ k : Nat, k ≤ l.length ∧ i = .int .i64 k ∧ hangsTo evs n l k = true ∧ Below wc.heap.size wc wr) (fun i _ => l.length - (intOf i).toNat)
 case atStart => exact ⟨0, by omega, rfl, rfl, Below.refl _ _⟩
 case round =>
  obtain ⟨k, hk, rfl, hto, hbr⟩ := hrel
  have HTO := Lib.hid hto
  clear hto
  by_cases hlt : k < l.length
  ·have hl' : ∃ lb lo, la = some ⟨lb, lo, none⟩ ∧ lb < w.heap.size ∧ ∀ k, k < l.length → w.cell? ⟨lb, lo + k, none⟩ = some (.int .i64 (l.getD k 0)) := by
    rcases g3 with g3 | g3
    ·subst g3; simp at hlt
    ·exact g3
   obtain ⟨lb, lo, rfl, hlB, hlc⟩ := hl'
   have hwr : ∀ b o, b < w.heap.size → wr.cell? ⟨b, o, none⟩ = w.cell? ⟨b, o, none⟩ := fun b o h => (hbr.cell (p := ⟨b, o, none⟩) (by show b < _; omega)).trans (hw b o h)
   have c0r : wr.cell? ⟨w.heap.size, 0, none⟩ = some (.slice (some ⟨b, off, none⟩) evs.length ec) := (hbr.cell (p := ⟨w.heap.size, 0, none⟩) hsz).trans c0
   obtain ⟨d, hd⟩ : ∃ d, l.getD k 0 = d := ⟨_, rfl⟩
   have ck : wr.cell? ⟨lb, lo + k, none⟩ = some (.int .i64 d) := by rw [hwr _ _ hlB, hlc k hlt, hd]
   have HD := Lib.hid hd
   have HW := Lib.hid hw
   have HC := Lib.hid hcell
   have HLC := Lib.hid hlc
   have HWR := Lib.hid hwr
   clear hw hcell hlc hwr hd g3
   have c0o : ∀ p, (vC wr p).cell? ⟨w.heap.size, 0, none⟩ = some (.slice (some ⟨b, off, none⟩) evs.length ec) := fun p => uH wr p (by have := hbr.size; omega) c0r
   by_cases hd0 : d < 0
   ·have F : Hid (res = false) := Lib.hid (by rw [← RES.out]; exact wJ _ _ _ _ hlt (by unfold depOk; rw [HD.out]; simp [hd0]))
    go_wp2
    refine uJ (by kernel_rfl) (by kernel_rfl) ?_
    repeat (go_big_quiet_step (fail))
    refine wpQuiet_nil ?_
    intro wq hwq
    obtain ⟨pq, hwq2⟩ := hwq
    have hbq : Below wr.heap.size wr wq := by rw [hwq2]; exact uU wr pq
    clear hwq2
    go_wp2
    go_ret
    exact ⟨uQ F.out.symm, hb.trans ((hbr.trans (hbq.mono hbr.size)).mono (by omega))⟩
   have b1 : decide (d < 0) = false := by simpa using hd0
   by_cases hdn : (n : Int) ≤ d
   ·have F : Hid (res = false) := Lib.hid (by rw [← RES.out]; exact wJ _ _ _ _ hlt (by unfold depOk; rw [HD.out]; simp [hdn]))
    go_wp2
    refine uJ (by kernel_rfl) (by kernel_rfl) ?_
    repeat (go_big_quiet_step (fail))
    refine wpQuiet_nil ?_
    intro wq hwq
    obtain ⟨pq, hwq2⟩ := hwq
    have hbq : Below wr.heap.size wr wq := by rw [hwq2]; exact uU wr pq
    clear hwq2
    go_wp2
    go_ret
    exact ⟨uQ F.out.symm, hb.trans ((hbr.trans (hbq.mono hbr.size)).mono (by omega))⟩
   have b2 : decide ((n : Int) ≤ d) = false := by simpa using hdn
   obtain ⟨dn, rfl⟩ : ∃ dn : Nat, d = dn := ⟨d.toNat, by omega⟩
   have hdlt : dn < evs.length := by omega
   have b3 : decide (n ≤ dn) = false := by simp; omega
   have b4 : decide ((dn : Int) < 0) = false := by simp
   obtain ⟨E, hE⟩ : ∃ E, evs.getD dn default = E := ⟨_, rfl⟩
   obtain ⟨N, hN⟩ : ∃ N, evs.getD n default = N := ⟨_, rfl⟩
   have eD := (((HC.out dn hdlt).below hb hbB).below hbr (show b < wc.heap.size by omega))
   rw [hE] at eD
   have eN := (((HC.out n hn).below hb hbB).below hbr (show b < wc.heap.size by omega)).1
   rw [hN] at eN
   have hbs : b < wr.heap.size := by have := hbr.size; omega
   have oD : ∀ p, EvCells (vC wr p) b (off + dn * 13) E := fun p => eD.below (uU wr p) hbs
   have o2 : ∀ p, (vC wr p).cell? ⟨b, off + n * 13, none⟩ = some (.int .i64 N.hart) := fun p => uH wr p hbs eN
   clear eD eN
   unfold EvCells at oD
   have o1 : ∀ p, (vC wr p).cell? ⟨b, off + dn * 13, none⟩ = some (.int .i64 E.hart) := fun p => (oD p).1
   have p1 := fun p => (oD p).2.1
   have p2 := fun p => (oD p).2.2.1
   have p3 := fun p => (oD p).2.2.2.1
   have p4 := fun p => (oD p).2.2.2.2.1
   have p5 := fun p => (oD p).2.2.2.2.2.1
   have p6 := fun p => (oD p).2.2.2.2.2.2.1
   have p7 := fun p => (oD p).2.2.2.2.2.2.2.1
   have p8 := fun p => (oD p).2.2.2.2.2.2.2.2.1
   have p9 := fun p => (oD p).2.2.2.2.2.2.2.2.2.1
   have p10 := fun p => (oD p).2.2.2.2.2.2.2.2.2.2.1
   have p11 := fun p => (oD p).2.2.2.2.2.2.2.2.2.2.2.1
   have p12 := fun p => (oD p).2.2.2.2.2.2.2.2.2.2.2.2
   clear oD
   have HE := Lib.hid hE
   have HN := Lib.hid hN
   clear hE hN
   by_cases hk0 : 0 < k
   ·have ckp : ∀ p, (vC wr p).cell? ⟨lb, lo + (k - 1), none⟩ = some (.int .i64 (l.getD (k - 1) 0)) := fun p => uH wr p (by have := hbr.size; omega) (by rw [HWR.out _ _ hlB, HLC.out (k - 1) (by omega)])
    obtain ⟨pv, hpv⟩ : ∃ pv, l.getD (k - 1) 0 = pv := ⟨_, rfl⟩
    rw [hpv] at ckp
    have HPV := Lib.hid hpv
    clear hpv
    by_cases hge : (dn : Int) ≤ pv
    ·have F : Hid (res = false) := Lib.hid (by rw [← RES.out]; exact wJ _ _ _ _ hlt (by unfold depOk; rw [HD.out, HPV.out]; simp [hk0, hge]))
     go_wp2
     refine uJ (by kernel_rfl) (by kernel_rfl) ?_
     repeat (go_big_quiet_step (fail))
     refine wpQuiet_nil ?_
     intro wq hwq
     obtain ⟨pq, hwq2⟩ := hwq
     have hbq : Below wr.heap.size wr wq := by rw [hwq2]; exact uU wr pq
     clear hwq2
     go_wp2
     go_ret
     exact ⟨uQ F.out.symm, hb.trans ((hbr.trans (hbq.mono hbr.size)).mono (by omega))⟩
    have b5 : decide ((dn : Int) ≤ pv) = false := by simpa using hge
    by_cases hh : (E.hart != N.hart) = true
    ·have F : Hid (res = false) := Lib.hid (by rw [← RES.out]; exact wJ _ _ _ _ hlt (by unfold depOk; rw [HD.out, HPV.out, Int.toNat_natCast, HE.out, HN.out, hh]; simp))
     go_wp2
     refine uJ (by kernel_rfl) (by kernel_rfl) ?_
     repeat (go_big_quiet_step (fail))
     refine wpQuiet_nil ?_
     intro wq hwq
     obtain ⟨pq, hwq2⟩ := hwq
     have hbq : Below wr.heap.size wr wq := by rw [hwq2]; exact uU wr pq
     clear hwq2
     go_wp2
     go_ret
     exact ⟨uQ F.out.symm, hb.trans ((hbr.trans (hbq.mono hbr.size)).mono (by omega))⟩
    have hh' : (E.hart != N.hart) = false := by simpa using hh
    clear hh
    have LD := Lib.hid (fun w => gL E w)
    by_cases hL : E.ldB = true
    ·have D : Hid (depOk evs n l k = true) := Lib.hid (by unfold depOk; rw [HD.out, HPV.out, Int.toNat_natCast, HE.out, HN.out, hh', hL]; simp; omega)
     have LL := Lib.hid hL
     clear hL
     go_wp2
     refine uJ (by kernel_rfl) (by kernel_rfl) ?_
     repeat (go_big_quiet_step (((go_at_call 78; refine vH (?_ : Calls _ _ _ _ fun e w' => e = .returned (.bool true) ∧ _); have t := LD.out; rw [LL.out] at t; exact t _))))
     refine wpQuiet_nil ?_
     intro wq hwq
     obtain ⟨pq, hwq2⟩ := hwq
     have hbq : Below wr.heap.size wr wq := by rw [hwq2]; exact uU wr pq
     clear hwq2
     go_wp2
     go_roundw
     case rel => exact ⟨k + 1, by omega, by go_num, by rw [dY, HTO.out, D.out]; rfl, hbr.trans (hbq.mono hbr.size)⟩
     case measure => simp [intOf]; omega
    ·have hL' : E.ldB = false := by simpa using hL
     have F : Hid (res = false) := Lib.hid (by rw [← RES.out]; exact wJ _ _ _ _ hlt (by unfold depOk; rw [HD.out, HPV.out, Int.toNat_natCast, HE.out, HN.out, hL']; simp))
     have LL := Lib.hid hL'
     clear hL hL'
     go_wp2
     refine uJ (by kernel_rfl) (by kernel_rfl) ?_
     repeat (go_big_quiet_step (((go_at_call 78; refine vH (?_ : Calls _ _ _ _ fun e w' => e = .returned (.bool false) ∧ _); have t := LD.out; rw [LL.out] at t; exact t _))))
     refine wpQuiet_nil ?_
     intro wq hwq
     obtain ⟨pq, hwq2⟩ := hwq
     have hbq : Below wr.heap.size wr wq := by rw [hwq2]; exact uU wr pq
     clear hwq2
     go_wp2
     go_ret
     exact ⟨uQ F.out.symm, hb.trans ((hbr.trans (hbq.mono hbr.size)).mono (by omega))⟩
   ·have hkz : ¬ (0 < k) := hk0
    by_cases hh : (E.hart != N.hart) = true
    ·have F : Hid (res = false) := Lib.hid (by rw [← RES.out]; exact wJ _ _ _ _ hlt (by unfold depOk; rw [HD.out, Int.toNat_natCast, HE.out, HN.out, hh]; simp))
     go_wp2
     refine uJ (by kernel_rfl) (by kernel_rfl) ?_
     repeat (go_big_quiet_step (fail))
     refine wpQuiet_nil ?_
     intro wq hwq
     obtain ⟨pq, hwq2⟩ := hwq
     have hbq : Below wr.heap.size wr wq := by rw [hwq2]; exact uU wr pq
     clear hwq2
     go_wp2
     go_ret
     exact ⟨uQ F.out.symm, hb.trans ((hbr.trans (hbq.mono hbr.size)).mono (by omega))⟩
    have hh' : (E.hart != N.hart) = false := by simpa using hh
    clear hh
    have LD := Lib.hid (fun w => gL E w)
    by_cases hL : E.ldB = true
    ·have D : Hid (depOk evs n l k = true) := Lib.hid (by unfold depOk; rw [HD.out, Int.toNat_natCast, HE.out, HN.out, hh', hL]; simp [hkz]; omega)
     have LL := Lib.hid hL
     clear hL
     go_wp2
     refine uJ (by kernel_rfl) (by kernel_rfl) ?_
     repeat (go_big_quiet_step (((go_at_call 78; refine vH (?_ : Calls _ _ _ _ fun e w' => e = .returned (.bool true) ∧ _); have t := LD.out; rw [LL.out] at t; exact t _))))
     refine wpQuiet_nil ?_
     intro wq hwq
     obtain ⟨pq, hwq2⟩ := hwq
     have hbq : Below wr.heap.size wr wq := by rw [hwq2]; exact uU wr pq
     clear hwq2
     go_wp2
     go_roundw
     case rel => exact ⟨k + 1, by omega, by go_num, by rw [dY, HTO.out, D.out]; rfl, hbr.trans (hbq.mono hbr.size)⟩
     case measure => simp [intOf]; omega
    ·have hL' : E.ldB = false := by simpa using hL
     have F : Hid (res = false) := Lib.hid (by rw [← RES.out]; exact wJ _ _ _ _ hlt (by unfold depOk; rw [HD.out, Int.toNat_natCast, HE.out, HN.out, hL']; simp))
     have LL := Lib.hid hL'
     clear hL hL'
     go_wp2
     refine uJ (by kernel_rfl) (by kernel_rfl) ?_
     repeat (go_big_quiet_step (((go_at_call 78; refine vH (?_ : Calls _ _ _ _ fun e w' => e = .returned (.bool false) ∧ _); have t := LD.out; rw [LL.out] at t; exact t _))))
     refine wpQuiet_nil ?_
     intro wq hwq
     obtain ⟨pq, hwq2⟩ := hwq
     have hbq : Below wr.heap.size wr wq := by rw [hwq2]; exact uU wr pq
     clear hwq2
     go_wp2
     go_ret
     exact ⟨uQ F.out.symm, hb.trans ((hbr.trans (hbq.mono hbr.size)).mono (by omega))⟩
  ·have hke : k = l.length := by omega
   have F : Hid (res = true) := Lib.hid (by rw [← RES.out]; unfold hangsB; rw [← hke]; exact HTO.out)
   clear hke
   go_wp2
   go_ret
   exact ⟨uQ F.out.symm, hb.trans (hbr.mono (by omega))⟩
def PairsZ (B : Nat) (w : World) (s : Sl) (l : List (Int × Int)) : Prop :=
 s.n = l.length ∧ l.length ≤ 1152921504606846976 ∧
 (l = [] ∨ ∃ b off, s.a = some ⟨b, off, none⟩ ∧ b < B ∧ ∀ k, k < l.length → w.cell? ⟨b, off + k * 2, none⟩ = some (.int .i64 (l.getD k (0, 0)).1) ∧ w.cell? ⟨b, off + k * 2 + 1, none⟩ = some (.int .i64 (l.getD k (0, 0)).2))
theorem PairsZ.below {B : Nat} {w w' : World} {s : Sl} {l : List (Int × Int)} (h : PairsZ B w s l) (hb : Below B w w') : PairsZ B w' s l := by
 obtain ⟨h1, h2, h3⟩ := h
 refine ⟨h1, h2, ?_⟩
 rcases h3 with h3 | ⟨b, off, h4, h5, h6⟩
 ·exact Or.inl h3
 ·exact Or.inr ⟨b, off, h4, h5, fun k hk => by rw [hb.cell (by exact h5), hb.cell (by exact h5)]; exact h6 k hk⟩
theorem PairsZ.mono {B B' : Nat} {w : World} {s : Sl} {l : List (Int × Int)} (h : PairsZ B w s l) (hB : B ≤ B') : PairsZ B' w s l := by
 obtain ⟨h1, h2, h3⟩ := h
 refine ⟨h1, h2, ?_⟩
 rcases h3 with h3 | ⟨b, off, h4, h5, h6⟩
 ·exact Or.inl h3
 ·exact Or.inr ⟨b, off, h4, by omega, h6⟩
def outB (n : Int) (p : Int × Int) : Bool := decide (p.1 < 0) || decide (n ≤ p.1) || decide (p.2 < 0) || decide (n ≤ p.2)
abbrev Gone := Nat → Bool
def updB (g : Gone) (p : Nat) : Gone := fun i => if i = p then true else g i
def ledB (l : List (Int × Int)) (g : Gone) (p : Nat) : Bool := l.any (fun q => (q.2 == (p : Int)) && !g q.1.toNat)
def takeP (l : List (Int × Int)) (g : Gone) (p : Nat) : Gone := if ledB l g p then g else updB g p
def passTo (l : List (Int × Int)) (g : Gone) (k : Nat) : Gone := (List.range k).foldl (takeP l) g
def roundsTo (l : List (Int × Int)) (n : Nat) : Nat → Gone
 | 0 => fun _ => false
 | r + 1 => passTo l (roundsTo l n r) n
def circleB (n : Nat) (l : List (Int × Int)) : Bool := (List.range n).any (fun p => !roundsTo l n n p)
theorem aY (l : List (Int × Int)) (g : Gone) (k : Nat) : passTo l g (k + 1) = takeP l (passTo l g k) k := by
 simp [passTo, List.range_succ, List.foldl_append]
theorem gU (l : List (Int × Int)) (g : Gone) (p i : Nat) (h : g i = true) : takeP l g p i = true := by
 unfold takeP
 split
 ·exact h
 ·unfold updB; split
  ·rfl
  ·exact h
theorem passTo_mono (l : List (Int × Int)) (g : Gone) (k i : Nat) (h : g i = true) : passTo l g k i = true := by
 induction k with
 | zero => exact h
 | succ k ih => rw [aY]; exact gU _ _ _ _ ih
open Go.RowKit Go.ChangeShapes Go.WideShapes Go.Deep
theorem below_sameAt {n : Nat} {W W' : World} {q : MemPlace} (h : Below n W W') (hq : q.block < n) : W.sameAt W' q := by
 cases q with
 | cell b o => exact World.cell?_of_block (w := W) (h.block b hq)
 | map b => exact h.block b hq
theorem jS {H : Type} {enc : TypeId × Value → H} {W W' : World} (hl : laidOutB Tryz.prog = true) (hb : Below W.heap.size W W') :
  ∀ {ts : List TypeId} {vs : List Value} {ds : List (DataW H)} {p : List MemPlace}, (∀ t ∈ ts, Tryz.prog.readableRec t = true ∧ t < Tryz.prog.types.size) → DataW.TrodAll enc Tryz.prog W 0 (fun _ => true) true ts vs ds p → (∀ q ∈ p, q.block < W.heap.size) →
   ∀ sp : Nat → Bool, (∀ q ∈ p, sp q.block = true) → DataW.TrodAll enc Tryz.prog W' 0 sp true ts vs ds p
 | [], vs, ds, p, _, h, _, sp, _ => by
  obtain ⟨rfl, rfl, rfl⟩ := trodAll_nil h
  exact trodAll_mk0
 | t :: ts, vs, ds, p, ht, h, hlt, sp, hsp => by
  obtain ⟨v, vs', d, ds', p0, p1, rfl, rfl, rfl, h0, r0⟩ := trodAll_cons h
  have h1 := WideElems.Trod_stays hl (ht t (by simp)).1 (ht t (by simp)).2 (W' := W') (sp' := sp) h0 (fun q hq => below_sameAt hb (hlt q (by simp [hq]))) (fun q hq => hsp q (by simp [hq]))
  exact trodAll_cons_mk h1 (jS hl hb (fun t' ht' => ht t' (by simp [ht'])) r0 (fun q hq => hlt q (by simp [hq])) sp (fun q hq => hsp q (by simp [hq])))
theorem laid_ok : laidOutB Tryz.prog = true := by kernel_rfl
theorem jP {H : Type} {P : Program} {e : TypeId} : ∀ {es : List (DataW H)} {d : DataW H}, d ∈ es → ∀ n ∈ d.weights P e, n ∈ DataW.weightsAll P e es
 | [], _, h, _, _ => by cases h
 | x :: es, d, h, n, hn => by
  simp only [DataW.weightsAll, List.mem_append]
  rcases List.mem_cons.1 h with rfl | h
  ·exact Or.inl hn
  ·exact Or.inr (jP h n hn)
theorem w_slice {H : Type} {P : Program} {t e : TypeId} {es sp : List (DataW H)} (ht : P.underlying t = some (.slice e)) (h : ∀ n ∈ (DataW.slice es sp).weights P t, n ≤ reachBytes) :
  (es.length + sp.length) * P.bytesOf e ≤ reachBytes ∧ ∀ d ∈ es, ∀ n ∈ d.weights P e, n ≤ reachBytes := by
 unfold DataW.weights at h
 rw [ht] at h
 refine ⟨h _ (by simp), fun d hd n hn => h n ?_⟩
 simp only [List.mem_cons, List.mem_append]
 exact Or.inr (Or.inl (jP hd n hn))
theorem w_arg {H : Type} {P : Program} {ts : List TypeId} {ds : List (DataW H)} (h : (DataW.weightsEach P ts ds).all (· ≤ reachBytes) = true) {j : Nat} {t : TypeId} {d : DataW H} (ht : ts[j]? = some t) (hd : ds[j]? = some d) : ∀ n ∈ d.weights P t, n ≤ reachBytes := by
 intro n hn
 have := List.all_eq_true.1 h n (DataW.weights_mem_each ht hd n hn)
 simpa using this
theorem cE {W : World} {a : Addr} {v : Value} (h : W.cell? a = some v) : a.spot = none ∧ a.block < W.heap.size := by
 unfold World.cell? at h
 cases hb : W.heap[a.block]? with
 | none => rw [hb] at h; cases h
 | some o =>
  refine ⟨?_, (Array.getElem?_eq_some_iff.1 hb).1⟩
  rw [hb] at h
  cases o with
  | cells c t fr =>
   simp only at h
   cases hs : a.spot with
   | none => rfl
   | some _ => rw [hs] at h; simp at h
  | _ => cases h
theorem addr_eq {a : Addr} (h : a.spot = none) : a = ⟨a.block, a.off, none⟩ := by cases a; simp at h; subst h; rfl
section
variable {H : Type} {enc : TypeId × Value → H} {W : World} {sp : Nat → Bool} {held : Bool}
end
open Go.RowKit Go.ChangeShapes Go.WideShapes Go.Deep
theorem cells_u32 : Tryz.prog.cellsOf 38 = 1 := by kernel_rfl
theorem cells_bool : Tryz.prog.cellsOf 4 = 1 := by kernel_rfl
theorem wf_u32 {n : Int} (h : (Lit.int .u32 n).wf = true) : 0 ≤ n ∧ n < 4294967296 := by
 simp only [Lit.wf, Bool.and_eq_true, decide_eq_true_eq] at h
 have e1 : IntKind.u32.min = 0 := by decide
 have e2 : IntKind.u32.max = 4294967295 := by decide
 omega
theorem qK {α : Type} {l : List α} {i : Nat} {x : α} (h : l[i]? = some x) : (l.drop i).take 1 = [x] := by
 obtain ⟨hi, rfl⟩ := List.getElem?_eq_some_iff.1 h
 rw [List.drop_eq_getElem_cons hi]; rfl
theorem oM {α : Type} {l : List α} {n : Nat} (h : l.length = n) (i : Nat) (hi : i < n) : ∃ x, l[i]? = some x := ⟨l[i], List.getElem?_eq_getElem (by omega)⟩
section
variable {H : Type} {enc : TypeId × Value → H} {W : World} {sp : Nat → Bool} {held : Bool}
end
end Go.Proofs.YtnkocjkkefnelaaGreat
