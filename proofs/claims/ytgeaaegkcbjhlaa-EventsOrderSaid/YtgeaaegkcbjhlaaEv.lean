/- Events as the program has them: which store, which load; whether one is bare. -/
import Derived.Test.YtgeaaegkcbjhlaaBase
import Derived.Deep.DeepCutAuto
namespace Go.Proofs.Ytgeaaegkcbjhlaa
open Go.RowKit

/-- A slice value: where it lies, its length, its room. -/
structure Sl where
  a : Option Addr
  n : Nat
  c : Nat
  deriving Inhabited
def Sl.v (s : Sl) : Value := .slice s.a s.n s.c

/-- An event: its numbers, and its three lists as slice values with what they hold. -/
structure Ev where
  hart : Int
  kind : Int
  addr : Int
  val : Int
  rval : Int
  aq : Bool
  rl : Bool
  pred : Int
  succ : Int
  rsv : Bool
  av : Sl
  dv : Sl
  cv : Sl
  addrs : List Int
  datas : List Int
  ctrls : List Int
  deriving Inhabited

def Ev.cells (e : Ev) : List Value := [.int .i64 e.hart, .int .i64 e.kind, .int .u32 e.addr, .int .u32 e.val, .int .u32 e.rval, .bool e.aq, .bool e.rl, .int .i64 e.pred, .int .i64 e.succ, .bool e.rsv, .slice e.av.a e.av.n e.av.c, .slice e.dv.a e.dv.n e.dv.c, .slice e.cv.a e.cv.n e.cv.c]
def Ev.agg (e : Ev) : Value := .agg #[.int .i64 e.hart, .int .i64 e.kind, .int .u32 e.addr, .int .u32 e.val, .int .u32 e.rval, .bool e.aq, .bool e.rl, .int .i64 e.pred, .int .i64 e.succ, .bool e.rsv, .slice e.av.a e.av.n e.av.c, .slice e.dv.a e.dv.n e.dv.c, .slice e.cv.a e.cv.n e.cv.c]
/-- its lists are short -/
def Ev.small (e : Ev) : Prop := e.av.n ≤ 1152921504606846976 ∧ e.dv.n ≤ 1152921504606846976 ∧ e.cv.n ≤ 1152921504606846976
def Ev.stB (e : Ev) : Bool := e.kind == 2 || e.kind == 3 || e.kind == 5
def Ev.ldB (e : Ev) : Bool := e.kind == 1 || e.kind == 3
def Ev.bareB (e : Ev) : Bool :=
  if e.kind = 5 then e.hart == -1 && e.rval == 0 && !(decide (0 < e.av.n + e.dv.n + e.cv.n)) && !(e.pred != 0 || e.succ != 0) && !(e.aq || e.rl || e.rsv)
  else if e.kind = 1 then e.val == 0 && !(e.pred != 0 || e.succ != 0) && e.dv.n == 0
  else if e.kind = 2 then e.rval == 0 && !(e.pred != 0 || e.succ != 0)
  else if e.kind = 3 then !(e.pred != 0 || e.succ != 0) && !e.rsv
  else if e.kind = 4 then e.addr == 0 && e.val == 0 && e.rval == 0 && !(e.aq || e.rl || e.rsv) && e.av.n + e.dv.n == 0 && decide (0 ≤ e.pred) && decide (e.pred ≤ 3) && decide (0 ≤ e.succ) && decide (e.succ ≤ 3)
  else false

theorem stores_c (e : Ev) (w : World) :
    Calls Try.prog 17 #[e.agg] w fun o w' => o = .returned (.bool e.stB) ∧ Below w.heap.size w w' := by
  obtain ⟨hart, kind, addr, val, rval, aq, rl, pred, succ, rsv, av, dv, cv, _, _, _⟩ := e
  unfold Ev.agg Ev.stB
  dsimp only
  go_enter Try.func17, Try.ntmps17
  go_wp2
  all_goals
    go_ret
    exact ⟨ret_bool (by simp_all), (Below.refl _ _).alloc (Nat.le_refl _) _⟩
theorem loads_c (e : Ev) (w : World) :
    Calls Try.prog 19 #[e.agg] w fun o w' => o = .returned (.bool e.ldB) ∧ Below w.heap.size w w' := by
  obtain ⟨hart, kind, addr, val, rval, aq, rl, pred, succ, rsv, av, dv, cv, _, _, _⟩ := e
  unfold Ev.agg Ev.ldB
  dsimp only
  go_enter Try.func19, Try.ntmps19
  go_wp2
  all_goals
    go_ret
    exact ⟨ret_bool (by simp_all), (Below.refl _ _).alloc (Nat.le_refl _) _⟩
theorem bare_eq (e : Ev) : e.bareB =
    if e.kind == 5 then e.hart == -1 && e.rval == 0 && !(decide (0 < (e.av.n : Int) + e.dv.n + e.cv.n)) && !(e.pred != 0 || e.succ != 0) && !(e.aq || e.rl || e.rsv)
    else if e.kind == 1 then e.val == 0 && !(e.pred != 0 || e.succ != 0) && (e.dv.n : Int) == 0
    else if e.kind == 2 then e.rval == 0 && !(e.pred != 0 || e.succ != 0)
    else if e.kind == 3 then !(e.pred != 0 || e.succ != 0) && !e.rsv
    else if e.kind == 4 then e.addr == 0 && e.val == 0 && e.rval == 0 && !(e.aq || e.rl || e.rsv) && ((e.av.n : Int) + e.dv.n == 0) && decide (0 ≤ e.pred) && decide (e.pred ≤ 3) && decide (0 ≤ e.succ) && decide (e.succ ≤ 3)
    else false := by
  have h1 : decide (0 < e.av.n + e.dv.n + e.cv.n) = decide (0 < (e.av.n : Int) + e.dv.n + e.cv.n) := by congr 1; apply propext; omega
  have h2 : (e.dv.n == 0) = ((e.dv.n : Int) == 0) := by rw [Bool.eq_iff_iff]; simp
  have h3 : (e.av.n + e.dv.n == 0) = ((e.av.n : Int) + e.dv.n == 0) := by rw [Bool.eq_iff_iff]; simp; omega
  unfold Ev.bareB
  rw [h1, h2, h3]
  simp only [beq_iff_eq]

set_option maxRecDepth 100000 in
set_option maxHeartbeats 1000000 in
theorem bare_c (e : Ev) (hs : e.small) (w : World) :
    Calls Try.prog 49 #[e.agg] w fun o w' => o = .returned (.bool e.bareB) ∧ Below w.heap.size w w' := by
  rw [bare_eq]
  obtain ⟨hart, kind, addr, val, rval, aq, rl, pred, succ, rsv, ⟨aa, an, ac⟩, ⟨da, dn, dc⟩, ⟨ca, cn, cc⟩, _, _, _⟩ := e
  unfold Ev.small at hs
  unfold Ev.agg
  dsimp only at hs ⊢
  obtain ⟨h1, h2, h3⟩ := hs
  obtain ⟨k5, hk5⟩ : ∃ bool_ : Bool, (kind == 5) = bool_ := ⟨_, rfl⟩
  obtain ⟨k1, hk1⟩ : ∃ bool_ : Bool, (kind == 1) = bool_ := ⟨_, rfl⟩
  obtain ⟨k2, hk2⟩ : ∃ bool_ : Bool, (kind == 2) = bool_ := ⟨_, rfl⟩
  obtain ⟨k3, hk3⟩ : ∃ bool_ : Bool, (kind == 3) = bool_ := ⟨_, rfl⟩
  obtain ⟨k4, hk4⟩ : ∃ bool_ : Bool, (kind == 4) = bool_ := ⟨_, rfl⟩
  obtain ⟨hm, hhm⟩ : ∃ bool_ : Bool, (hart == -1) = bool_ := ⟨_, rfl⟩
  obtain ⟨r0, hr0⟩ : ∃ bool_ : Bool, (rval == 0) = bool_ := ⟨_, rfl⟩
  obtain ⟨v0, hv0⟩ : ∃ bool_ : Bool, (val == 0) = bool_ := ⟨_, rfl⟩
  obtain ⟨a0, ha0⟩ : ∃ bool_ : Bool, (addr == 0) = bool_ := ⟨_, rfl⟩
  obtain ⟨dp, hdp⟩ : ∃ bool_ : Bool, decide (0 < (an : Int) + dn + cn) = bool_ := ⟨_, rfl⟩
  obtain ⟨p0, hp0⟩ : ∃ bool_ : Bool, (pred != 0) = bool_ := ⟨_, rfl⟩
  obtain ⟨s0, hs0⟩ : ∃ bool_ : Bool, (succ != 0) = bool_ := ⟨_, rfl⟩
  obtain ⟨d0, hd0⟩ : ∃ bool_ : Bool, ((dn : Int) == 0) = bool_ := ⟨_, rfl⟩
  obtain ⟨ad, had⟩ : ∃ bool_ : Bool, ((an : Int) + dn == 0) = bool_ := ⟨_, rfl⟩
  obtain ⟨pg, hpg⟩ : ∃ bool_ : Bool, decide (0 ≤ pred) = bool_ := ⟨_, rfl⟩
  obtain ⟨pl, hpl⟩ : ∃ bool_ : Bool, decide (pred ≤ 3) = bool_ := ⟨_, rfl⟩
  obtain ⟨sg, hsg⟩ : ∃ bool_ : Bool, decide (0 ≤ succ) = bool_ := ⟨_, rfl⟩
  obtain ⟨sl, hsl⟩ : ∃ bool_ : Bool, decide (succ ≤ 3) = bool_ := ⟨_, rfl⟩
  rw [hk5, hk1, hk2, hk3, hk4, hhm, hr0, hv0, ha0, hdp, hp0, hs0, hd0, had, hpg, hpl, hsg, hsl]
  obtain ⟨res, hres⟩ : ∃ x : Bool, (if k5 then hm && r0 && !dp && !(p0 || s0) && !(aq || rl || rsv) else if k1 then v0 && !(p0 || s0) && d0 else if k2 then r0 && !(p0 || s0) else if k3 then !(p0 || s0) && !rsv else if k4 then a0 && v0 && r0 && !(aq || rl || rsv) && ad && pg && pl && sg && sl else false) = x := ⟨_, rfl⟩
  rw [hres]
  have RES := Lib.hid hres
  clear hres
  go_enter Try.func49, Try.ntmps49
  go_upto_region 0 with (fail)
  go_cut [0, 1] (fun s0 s1 wx => s1 = .pointer (some ⟨w.heap.size, 0, none⟩) ∧ Below w.heap.size w wx ∧ wx.cell? ⟨w.heap.size, 0, none⟩ = some (Value.int IntKind.i64 hart) ∧ wx.cell? ⟨w.heap.size, 1, none⟩ = some (Value.int IntKind.i64 kind) ∧ wx.cell? ⟨w.heap.size, 2, none⟩ = some (Value.int IntKind.u32 addr) ∧ wx.cell? ⟨w.heap.size, 3, none⟩ = some (Value.int IntKind.u32 val) ∧ wx.cell? ⟨w.heap.size, 4, none⟩ = some (Value.int IntKind.u32 rval) ∧ wx.cell? ⟨w.heap.size, 5, none⟩ = some (Value.bool aq) ∧ wx.cell? ⟨w.heap.size, 6, none⟩ = some (Value.bool rl) ∧ wx.cell? ⟨w.heap.size, 7, none⟩ = some (Value.int IntKind.i64 pred) ∧ wx.cell? ⟨w.heap.size, 8, none⟩ = some (Value.int IntKind.i64 succ) ∧ wx.cell? ⟨w.heap.size, 9, none⟩ = some (Value.bool rsv) ∧ wx.cell? ⟨w.heap.size, 10, none⟩ = some (Value.slice aa an ac) ∧ wx.cell? ⟨w.heap.size, 11, none⟩ = some (Value.slice da dn dc) ∧ wx.cell? ⟨w.heap.size, 12, none⟩ = some (Value.slice ca cn cc))
  case first =>
    go_wp2_with fail
    go_meet
    exact ⟨rfl, (Below.refl _ _).alloc (Nat.le_refl _) _, by simp, by simp, by simp, by simp, by simp, by simp, by simp, by simp, by simp, by simp, by simp, by simp, by simp⟩
  case rest =>
  obtain ⟨rfl, hb, c0, c1, c2, c3, c4, c5, c6, c7, c8, c9, c10, c11, c12⟩ := hcut
  go_upto_region 2 with (fail)
  go_cut [4] (fun s4 wx => s4 = .bool (p0 || s0) ∧ wx = wc)
  case first =>
    go_wp2_with fail
    all_goals (go_meet; exact ⟨by simp_all, rfl⟩)
  case rest =>
    obtain ⟨rfl, rfl⟩ := hcut
    go_upto_region 3 with (fail)
    go_cut [5] (fun s5 wx => s5 = .bool (aq || rl || rsv) ∧ wx = wc)
    case first =>
      go_wp2_with fail
      all_goals (go_meet; exact ⟨by simp_all, rfl⟩)
    case rest =>
      obtain ⟨rfl, rfl⟩ := hcut
      generalize (p0 || s0) = fence at *
      generalize (aq || rl || rsv) = ord at *
      go_wp2
      all_goals
        go_ret
        exact ⟨ret_bool (by rw [← RES.out]; simp_all), hb⟩
end Go.Proofs.Ytgeaaegkcbjhlaa
