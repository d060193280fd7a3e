/- Whether From may be: each event that loads reads from another one that stores, of its address, whose value is its own. -/
import Derived.Test.YtgeaaegkcbjhlaaEvent
namespace Go.Proofs.Ytgeaaegkcbjhlaa
open Go.RowKit

/-- the store that an event names, where it names one -/
def srcOk (es : List Ev) (e : Ev) (f : Int) : Bool :=
  (es.getD f.toNat default).stB && !((es.getD f.toNat default).addr != e.addr) && !((es.getD f.toNat default).val != e.rval)
def fromOk (es : List Ev) (fs : List Int) (k : Nat) : Bool :=
  (!(es.getD k default).ldB && (fs.getD k 0 == -1)) ||
  ((es.getD k default).ldB && !(fs.getD k 0 == (k : Int)) && !(decide (fs.getD k 0 < 0)) && !(decide ((es.length : Int) ≤ fs.getD k 0)) && srcOk es (es.getD k default) (fs.getD k 0))
def fromTo (es : List Ev) (fs : List Int) (k : Nat) : Bool := (List.range k).all (fromOk es fs)
def fromB (es : List Ev) (fs : List Int) : Bool := decide (fs.length = es.length) && fromTo es fs fs.length
theorem fromTo_succ (es : List Ev) (fs : List Int) (k : Nat) : fromTo es fs (k + 1) = (fromTo es fs k && fromOk es fs k) := by
  simp [fromTo, List.range_succ]
theorem fromTo_false (es : List Ev) (fs : List Int) (k : Nat) (hk : k < fs.length) (h : fromOk es fs k = false) : fromB es fs = false := by
  have : fromTo es fs fs.length = false := by
    unfold fromTo
    rw [List.all_eq_false]
    exact ⟨k, by simpa using hk, by simp [h]⟩
  unfold fromB; rw [this]; simp

set_option maxRecDepth 100000 in
set_option maxHeartbeats 1000000 in
/-- the lengths part -/
theorem from_len_c (x : Ex) (w : World) (hx : x.inW w.heap.size w) (hlen : x.from_.length ≠ x.evs.length) :
    Calls Try.prog 28 #[x.agg] w fun o w' => o = .returned (.bool false) ∧ Below w.heap.size w w' := by
  obtain ⟨en, esm, _⟩ := hx.1
  obtain ⟨fn, fsm, _⟩ := hx.2.1
  have XA : Hid (x.agg = .agg #[.slice x.es.a x.evs.length x.es.c, .slice x.fs.a x.from_.length x.fs.c, .slice x.os.a x.os.n x.os.c]) := Lib.hid (by unfold Ex.agg; rw [en, fn])
  rw [XA.out]
  clear en fn hx
  have hl1 : ((x.from_.length : Int) != (x.evs.length : Int)) = true := by simp; omega
  have hl2 : (x.from_.length != x.evs.length) = true := by simp; omega
  clear hlen
  go_enter Try.func28, Try.ntmps28
  go_wp2
  go_ret
  exact ⟨rfl, (Below.refl _ _).alloc (Nat.le_refl _) _⟩

set_option maxRecDepth 100000 in
set_option maxHeartbeats 1000000 in
/-- no events at all -/
theorem from_none_c (x : Ex) (w : World) (hx : x.inW w.heap.size w) (h0 : x.from_ = []) (h1 : x.evs = []) :
    Calls Try.prog 28 #[x.agg] w fun o w' => o = .returned (.bool true) ∧ Below w.heap.size w w' := by
  obtain ⟨en, _, _⟩ := hx.1
  obtain ⟨fn, _, _⟩ := hx.2.1
  have XA : Hid (x.agg = .agg #[.slice x.es.a 0 x.es.c, .slice x.fs.a 0 x.fs.c, .slice x.os.a x.os.n x.os.c]) := Lib.hid (by unfold Ex.agg; rw [en, fn, h0, h1]; rfl)
  rw [XA.out]
  clear en fn hx h0 h1
  go_enter Try.func28, Try.ntmps28
  go_wp2
  go_loopw [16] (fun i wr => i = .int .i64 0 ∧ Below w.heap.size w wr) (fun _ _ => 0)
  case atStart => exact ⟨rfl, (Below.refl _ _).alloc (Nat.le_refl _) _⟩
  case round =>
    obtain ⟨rfl, hbr⟩ := hrel
    go_wp2
    go_ret
    exact ⟨rfl, hbr⟩

set_option maxRecDepth 100000 in
set_option maxHeartbeats 2000000 in
theorem from_some_c (x : Ex) (w : World) (hx : x.inW w.heap.size w) (hlen : x.from_.length = x.evs.length) (hne : x.evs ≠ []) :
    Calls Try.prog 28 #[x.agg] w fun o w' => o = .returned (.bool (fromB x.evs x.from_)) ∧ Below w.heap.size w w' := by
  obtain ⟨en, esm, _, ecl⟩ := hx.1
  obtain ⟨fn, fsm, fcl⟩ := hx.2.1
  obtain ⟨res, hres⟩ : ∃ z : Bool, fromB x.evs x.from_ = z := ⟨_, rfl⟩
  rw [hres]
  have RES := Lib.hid hres
  clear hres
  have hne2 : x.from_ ≠ [] := by intro h; rw [h] at hlen; exact hne (List.length_eq_zero_iff.1 hlen.symm)
  obtain ⟨fb, fo, hfa, hfB, hfc⟩ := fcl.resolve_left hne2
  obtain ⟨b, off, hea, hbB, hcl⟩ := ecl.resolve_left hne
  have XA : Hid (x.agg = .agg #[.slice (some ⟨b, off, none⟩) x.evs.length x.es.c, .slice (some ⟨fb, fo, none⟩) x.from_.length x.fs.c, .slice x.os.a x.os.n x.os.c]) := Lib.hid (by unfold Ex.agg; rw [en, fn, hfa, hea])
  rw [XA.out]
  clear en fn hfa hea hne hne2 ecl fcl hx
  have HFC := Lib.hid hfc
  have HCL := Lib.hid hcl
  have HLEN := Lib.hid hlen
  have hl1 : ((x.from_.length : Int) != (x.evs.length : Int)) = false := by simp; omega
  have hl2 : (x.from_.length != x.evs.length) = false := by simp; omega
  have hle : x.from_.length ≤ x.evs.length := by omega
  clear hlen hfc hcl
  go_enter Try.func28, Try.ntmps28
  go_upto_region 1 with (fail)
  refine alloc_opaque (X := fun W => Code.wp _ _ _ _ W) ?_
  intro wc hb hsz hcs
  have c0 : wc.cell? ⟨w.heap.size, 0, none⟩ = some (.slice (some ⟨b, off, none⟩) x.evs.length x.es.c) := hcs 0 _ rfl
  have c1 : wc.cell? ⟨w.heap.size, 1, none⟩ = some (.slice (some ⟨fb, fo, none⟩) x.from_.length x.fs.c) := hcs 1 _ rfl
  clear hcs
  go_wp2
  go_loopw [16] (fun i wr => ∃ k : Nat, k ≤ x.from_.length ∧ i = .int .i64 k ∧ fromTo x.evs x.from_ k = true ∧ Below wc.heap.size wc wr) (fun i _ => x.from_.length - (intOf i).toNat)
  case atStart => exact ⟨0, by omega, rfl, rfl, Below.refl _ _⟩
  case round =>
    obtain ⟨k, hk, rfl, hto, hbr⟩ := hrel
    have HTO := Lib.hid hto
    clear hto
    by_cases hlt : k < x.from_.length
    · have hke : k < x.evs.length := by omega
      have hwr : ∀ b o, b < w.heap.size → wr.cell? ⟨b, o, none⟩ = w.cell? ⟨b, o, none⟩ := fun b o h => (hbr.cell (p := ⟨b, o, none⟩) (by show b < _; omega)).trans (hb.cell (p := ⟨b, o, none⟩) h)
      obtain ⟨f, hf⟩ : ∃ f, x.from_.getD k 0 = f := ⟨_, rfl⟩
      have ck : wr.cell? ⟨fb, fo + k, none⟩ = some (.int .i64 f) := by rw [hwr _ _ hfB, HFC.out k hlt, hf]
      have c0r : wr.cell? ⟨w.heap.size, 0, none⟩ = some (.slice (some ⟨b, off, none⟩) x.evs.length x.es.c) := (hbr.cell (p := ⟨w.heap.size, 0, none⟩) hsz).trans c0
      obtain ⟨E, hE⟩ : ∃ E, x.evs.getD k default = E := ⟨_, rfl⟩
      have hcE := ((HCL.out k hke).below hb hbB).below hbr (show b < wc.heap.size by omega)
      rw [hE] at hcE
      unfold EvCells at hcE
      obtain ⟨q0, q1, q2, q3, q4, q5, q6, q7, q8, q9, q10, q11, q12⟩ := hcE
      have HF := Lib.hid hf
      have HE := Lib.hid hE
      have HWR := Lib.hid hwr
      clear hf hE hwr
      go_upto_region 7 with (fail)
      refine alloc_opaque (X := fun W => Code.wp _ _ _ _ W) ?_
      intro w1 hb1 hs1 hcs1
      have t0 : (w1).cell? ⟨wr.heap.size, 0, none⟩ = some (Value.int IntKind.i64 E.hart) := hcs1 0 _ rfl
      have t1 : (w1).cell? ⟨wr.heap.size, 1, none⟩ = some (Value.int IntKind.i64 E.kind) := hcs1 1 _ rfl
      have t2 : (w1).cell? ⟨wr.heap.size, 2, none⟩ = some (Value.int IntKind.u32 E.addr) := hcs1 2 _ rfl
      have t3 : (w1).cell? ⟨wr.heap.size, 3, none⟩ = some (Value.int IntKind.u32 E.val) := hcs1 3 _ rfl
      have t4 : (w1).cell? ⟨wr.heap.size, 4, none⟩ = some (Value.int IntKind.u32 E.rval) := hcs1 4 _ rfl
      have t5 : (w1).cell? ⟨wr.heap.size, 5, none⟩ = some (Value.bool E.aq) := hcs1 5 _ rfl
      have t6 : (w1).cell? ⟨wr.heap.size, 6, none⟩ = some (Value.bool E.rl) := hcs1 6 _ rfl
      have t7 : (w1).cell? ⟨wr.heap.size, 7, none⟩ = some (Value.int IntKind.i64 E.pred) := hcs1 7 _ rfl
      have t8 : (w1).cell? ⟨wr.heap.size, 8, none⟩ = some (Value.int IntKind.i64 E.succ) := hcs1 8 _ rfl
      have t9 : (w1).cell? ⟨wr.heap.size, 9, none⟩ = some (Value.bool E.rsv) := hcs1 9 _ rfl
      have t10 : (w1).cell? ⟨wr.heap.size, 10, none⟩ = some (Value.slice E.av.a E.av.n E.av.c) := hcs1 10 _ rfl
      have t11 : (w1).cell? ⟨wr.heap.size, 11, none⟩ = some (Value.slice E.dv.a E.dv.n E.dv.c) := hcs1 11 _ rfl
      have t12 : (w1).cell? ⟨wr.heap.size, 12, none⟩ = some (Value.slice E.cv.a E.cv.n E.cv.c) := hcs1 12 _ rfl
      clear hcs1 q0 q1 q2 q3 q4 q5 q6 q7 q8 q9 q10 q11 q12
      have hz1 := hbr.size
      have d0 : w1.cell? ⟨w.heap.size, 0, none⟩ = some (.slice (some ⟨b, off, none⟩) x.evs.length x.es.c) := (hb1.cell (p := ⟨w.heap.size, 0, none⟩) (by show w.heap.size < _; omega)).trans c0r
      clear c0r ck
      go_wp2_with fail
      refine (loads_c E w1).mono ?_; rintro o w2 ⟨rfl, hb2⟩
      have LC := Lib.hid (fun w => loads_c E w)
      have hz2 := hb2.size
      have r2 : ∀ b o, b < (w1).heap.size → (w2).cell? ⟨b, o, none⟩ = (w1).cell? ⟨b, o, none⟩ := fun b o hh => (hb2).cell (p := ⟨b, o, none⟩) hh
      have HWB : Hid (∀ W, Below w2.heap.size w2 W → Below w.heap.size w W ∧ Below wc.heap.size wc W) := Lib.hid (fun W h => ⟨hb.trans ((((hbr.mono (by omega)).trans (hb1.mono (by omega))).trans (hb2.mono (by omega))).trans (h.mono (by omega))), ((hbr.trans (hb1.mono (by omega))).trans (hb2.mono (by omega))).trans (h.mono (by omega))⟩)
      have o0 : ∀ p, (over w2 p).cell? ⟨w.heap.size, 0, none⟩ = some (.slice (some ⟨b, off, none⟩) x.evs.length x.es.c) := fun p => over_cell w2 p (by omega) ((r2 _ _ (by omega)).trans d0)
      cases hld : E.ldB with
      | false =>
        have LD := Lib.hid hld
        clear hld
        by_cases hf1 : f = -1
        · subst hf1
          have D : Hid (fromOk x.evs x.from_ k = true) := Lib.hid (by unfold fromOk; rw [HE.out, HF.out, LD.out]; simp)
          go_wp2
          go_roundw
          case rel => first | exact ⟨k + 1, by omega, by go_num, by rw [fromTo_succ, HTO.out, D.out]; rfl, (HWB.out w2 (Below.refl _ _)).2⟩ | ((repeat apply Exists.intro); exact ⟨⟨k + 1, by omega, by go_num, by rw [fromTo_succ, HTO.out, D.out]; rfl, (HWB.out w2 (Below.refl _ _)).2⟩, rfl⟩)
          case measure => simp [intOf]; omega
        · have F : Hid (res = false) := Lib.hid (by rw [← RES.out]; exact fromTo_false _ _ _ hlt (by unfold fromOk; rw [HE.out, HF.out, LD.out]; simp [hf1]))
          have hf2 : (f == -1) = false := by simpa using hf1
          clear hf1
          have z0 := (r2 _ _ hs1).trans t0
          have z1 := (r2 _ _ hs1).trans t1
          have z2 := (r2 _ _ hs1).trans t2
          have z3 := (r2 _ _ hs1).trans t3
          have z4 := (r2 _ _ hs1).trans t4
          have z5 := (r2 _ _ hs1).trans t5
          have z6 := (r2 _ _ hs1).trans t6
          have z7 := (r2 _ _ hs1).trans t7
          have z8 := (r2 _ _ hs1).trans t8
          have z9 := (r2 _ _ hs1).trans t9
          have z10 := (r2 _ _ hs1).trans t10
          have z11 := (r2 _ _ hs1).trans t11
          have z12 := (r2 _ _ hs1).trans t12
          have y0 : ∀ p, (over w2 p).cell? ⟨wr.heap.size, 0, none⟩ = some (Value.int IntKind.i64 E.hart) := fun p => over_cell w2 p (show wr.heap.size < w2.heap.size by omega) z0
          have y1 : ∀ p, (over w2 p).cell? ⟨wr.heap.size, 1, none⟩ = some (Value.int IntKind.i64 E.kind) := fun p => over_cell w2 p (show wr.heap.size < w2.heap.size by omega) z1
          have y2 : ∀ p, (over w2 p).cell? ⟨wr.heap.size, 2, none⟩ = some (Value.int IntKind.u32 E.addr) := fun p => over_cell w2 p (show wr.heap.size < w2.heap.size by omega) z2
          have y3 : ∀ p, (over w2 p).cell? ⟨wr.heap.size, 3, none⟩ = some (Value.int IntKind.u32 E.val) := fun p => over_cell w2 p (show wr.heap.size < w2.heap.size by omega) z3
          have y4 : ∀ p, (over w2 p).cell? ⟨wr.heap.size, 4, none⟩ = some (Value.int IntKind.u32 E.rval) := fun p => over_cell w2 p (show wr.heap.size < w2.heap.size by omega) z4
          have y5 : ∀ p, (over w2 p).cell? ⟨wr.heap.size, 5, none⟩ = some (Value.bool E.aq) := fun p => over_cell w2 p (show wr.heap.size < w2.heap.size by omega) z5
          have y6 : ∀ p, (over w2 p).cell? ⟨wr.heap.size, 6, none⟩ = some (Value.bool E.rl) := fun p => over_cell w2 p (show wr.heap.size < w2.heap.size by omega) z6
          have y7 : ∀ p, (over w2 p).cell? ⟨wr.heap.size, 7, none⟩ = some (Value.int IntKind.i64 E.pred) := fun p => over_cell w2 p (show wr.heap.size < w2.heap.size by omega) z7
          have y8 : ∀ p, (over w2 p).cell? ⟨wr.heap.size, 8, none⟩ = some (Value.int IntKind.i64 E.succ) := fun p => over_cell w2 p (show wr.heap.size < w2.heap.size by omega) z8
          have y9 : ∀ p, (over w2 p).cell? ⟨wr.heap.size, 9, none⟩ = some (Value.bool E.rsv) := fun p => over_cell w2 p (show wr.heap.size < w2.heap.size by omega) z9
          have y10 : ∀ p, (over w2 p).cell? ⟨wr.heap.size, 10, none⟩ = some (Value.slice E.av.a E.av.n E.av.c) := fun p => over_cell w2 p (show wr.heap.size < w2.heap.size by omega) z10
          have y11 : ∀ p, (over w2 p).cell? ⟨wr.heap.size, 11, none⟩ = some (Value.slice E.dv.a E.dv.n E.dv.c) := fun p => over_cell w2 p (show wr.heap.size < w2.heap.size by omega) z11
          have y12 : ∀ p, (over w2 p).cell? ⟨wr.heap.size, 12, none⟩ = some (Value.slice E.cv.a E.cv.n E.cv.c) := fun p => over_cell w2 p (show wr.heap.size < w2.heap.size by omega) z12
          clear z0 z1 z2 z3 z4 z5 z6 z7 z8 z9 z10 z11 z12
          go_wp2
          refine wp_region_over (by kernel_rfl) (by kernel_rfl) ?_
          repeat (go_big_quiet_step (((go_at_call 19; refine quiet_over (?_ : Calls _ _ _ _ fun e w' => e = .returned (.bool false) ∧ _); have t := LC.out; rw [LD.out] at t; exact t _))))
          refine wpQuiet_nil ?_
          intro wq hwq
          obtain ⟨pq, hwq2⟩ := hwq
          have hbq : Below (w2).heap.size (w2) wq := by rw [hwq2]; exact over_below (w2) pq
          clear hwq2
          go_wp2
          go_ret
          exact ⟨ret_bool F.out.symm, (HWB.out wq hbq).1⟩
      | true =>
        have LD := Lib.hid hld
        clear hld
        have z0 := (r2 _ _ hs1).trans t0
        have z1 := (r2 _ _ hs1).trans t1
        have z2 := (r2 _ _ hs1).trans t2
        have z3 := (r2 _ _ hs1).trans t3
        have z4 := (r2 _ _ hs1).trans t4
        have z5 := (r2 _ _ hs1).trans t5
        have z6 := (r2 _ _ hs1).trans t6
        have z7 := (r2 _ _ hs1).trans t7
        have z8 := (r2 _ _ hs1).trans t8
        have z9 := (r2 _ _ hs1).trans t9
        have z10 := (r2 _ _ hs1).trans t10
        have z11 := (r2 _ _ hs1).trans t11
        have z12 := (r2 _ _ hs1).trans t12
        have y0 : ∀ p, (over w2 p).cell? ⟨wr.heap.size, 0, none⟩ = some (Value.int IntKind.i64 E.hart) := fun p => over_cell w2 p (show wr.heap.size < w2.heap.size by omega) z0
        have y1 : ∀ p, (over w2 p).cell? ⟨wr.heap.size, 1, none⟩ = some (Value.int IntKind.i64 E.kind) := fun p => over_cell w2 p (show wr.heap.size < w2.heap.size by omega) z1
        have y2 : ∀ p, (over w2 p).cell? ⟨wr.heap.size, 2, none⟩ = some (Value.int IntKind.u32 E.addr) := fun p => over_cell w2 p (show wr.heap.size < w2.heap.size by omega) z2
        have y3 : ∀ p, (over w2 p).cell? ⟨wr.heap.size, 3, none⟩ = some (Value.int IntKind.u32 E.val) := fun p => over_cell w2 p (show wr.heap.size < w2.heap.size by omega) z3
        have y4 : ∀ p, (over w2 p).cell? ⟨wr.heap.size, 4, none⟩ = some (Value.int IntKind.u32 E.rval) := fun p => over_cell w2 p (show wr.heap.size < w2.heap.size by omega) z4
        have y5 : ∀ p, (over w2 p).cell? ⟨wr.heap.size, 5, none⟩ = some (Value.bool E.aq) := fun p => over_cell w2 p (show wr.heap.size < w2.heap.size by omega) z5
        have y6 : ∀ p, (over w2 p).cell? ⟨wr.heap.size, 6, none⟩ = some (Value.bool E.rl) := fun p => over_cell w2 p (show wr.heap.size < w2.heap.size by omega) z6
        have y7 : ∀ p, (over w2 p).cell? ⟨wr.heap.size, 7, none⟩ = some (Value.int IntKind.i64 E.pred) := fun p => over_cell w2 p (show wr.heap.size < w2.heap.size by omega) z7
        have y8 : ∀ p, (over w2 p).cell? ⟨wr.heap.size, 8, none⟩ = some (Value.int IntKind.i64 E.succ) := fun p => over_cell w2 p (show wr.heap.size < w2.heap.size by omega) z8
        have y9 : ∀ p, (over w2 p).cell? ⟨wr.heap.size, 9, none⟩ = some (Value.bool E.rsv) := fun p => over_cell w2 p (show wr.heap.size < w2.heap.size by omega) z9
        have y10 : ∀ p, (over w2 p).cell? ⟨wr.heap.size, 10, none⟩ = some (Value.slice E.av.a E.av.n E.av.c) := fun p => over_cell w2 p (show wr.heap.size < w2.heap.size by omega) z10
        have y11 : ∀ p, (over w2 p).cell? ⟨wr.heap.size, 11, none⟩ = some (Value.slice E.dv.a E.dv.n E.dv.c) := fun p => over_cell w2 p (show wr.heap.size < w2.heap.size by omega) z11
        have y12 : ∀ p, (over w2 p).cell? ⟨wr.heap.size, 12, none⟩ = some (Value.slice E.cv.a E.cv.n E.cv.c) := fun p => over_cell w2 p (show wr.heap.size < w2.heap.size by omega) z12
        clear z0 z1 z2 z3 z4 z5 z6 z7 z8 z9 z10 z11 z12
        by_cases hfk : f = (k : Int)
        · have hb1' : (f == (k : Int)) = true := by simpa using hfk
          have F : Hid (res = false) := Lib.hid (by rw [← RES.out]; exact fromTo_false _ _ _ hlt (by unfold fromOk; rw [HE.out, HF.out, LD.out]; simp [hfk]))
          go_wp2
          refine wp_region_over (by kernel_rfl) (by kernel_rfl) ?_
          repeat (go_big_quiet_step (((go_at_call 19; refine quiet_over (?_ : Calls _ _ _ _ fun e w' => e = .returned (.bool true) ∧ _); have t := LC.out; rw [LD.out] at t; exact t _))))
          refine wpQuiet_nil ?_
          intro wq hwq
          obtain ⟨pq, hwq2⟩ := hwq
          have hbq : Below (w2).heap.size (w2) wq := by rw [hwq2]; exact over_below (w2) pq
          clear hwq2
          go_wp2
          go_ret
          exact ⟨ret_bool F.out.symm, (HWB.out wq hbq).1⟩
        have hb1' : (f == (k : Int)) = false := by simpa using hfk
        by_cases hf0 : f < 0
        · have F : Hid (res = false) := Lib.hid (by rw [← RES.out]; exact fromTo_false _ _ _ hlt (by unfold fromOk; rw [HE.out, HF.out, LD.out]; simp [hf0]))
          go_wp2
          refine wp_region_over (by kernel_rfl) (by kernel_rfl) ?_
          repeat (go_big_quiet_step (((go_at_call 19; refine quiet_over (?_ : Calls _ _ _ _ fun e w' => e = .returned (.bool true) ∧ _); have t := LC.out; rw [LD.out] at t; exact t _))))
          refine wpQuiet_nil ?_
          intro wq hwq
          obtain ⟨pq, hwq2⟩ := hwq
          have hbq : Below (w2).heap.size (w2) wq := by rw [hwq2]; exact over_below (w2) pq
          clear hwq2
          go_wp2
          go_ret
          exact ⟨ret_bool F.out.symm, (HWB.out wq hbq).1⟩
        have hb2' : decide (f < 0) = false := by simpa using hf0
        by_cases hfn : (x.evs.length : Int) ≤ f
        · have F : Hid (res = false) := Lib.hid (by rw [← RES.out]; exact fromTo_false _ _ _ hlt (by unfold fromOk; rw [HE.out, HF.out, LD.out]; simp [hfn]))
          go_wp2
          refine wp_region_over (by kernel_rfl) (by kernel_rfl) ?_
          repeat (go_big_quiet_step (((go_at_call 19; refine quiet_over (?_ : Calls _ _ _ _ fun e w' => e = .returned (.bool true) ∧ _); have t := LC.out; rw [LD.out] at t; exact t _))))
          refine wpQuiet_nil ?_
          intro wq hwq
          obtain ⟨pq, hwq2⟩ := hwq
          have hbq : Below (w2).heap.size (w2) wq := by rw [hwq2]; exact over_below (w2) pq
          clear hwq2
          go_wp2
          go_ret
          exact ⟨ret_bool F.out.symm, (HWB.out wq hbq).1⟩
        have hb3' : decide ((x.evs.length : Int) ≤ f) = false := by simpa using hfn
        obtain ⟨fn, rfl⟩ : ∃ fn : Nat, f = fn := ⟨f.toNat, by omega⟩
        have hflt : fn < x.evs.length := by omega
        have hb4' : decide (x.evs.length ≤ fn) = false := by simp; omega
        have hb5' : ((fn : Int) < 0) = False := by simp
        obtain ⟨G, hG⟩ : ∃ G, x.evs.getD fn default = G := ⟨_, rfl⟩
        have hcG := (HCL.out fn hflt).below (HWB.out w2 (Below.refl _ _)).1 hbB
        rw [hG] at hcG
        have HG := Lib.hid hG
        clear hG
        have gX : ∀ p, EvCells (over w2 p) b (off + fn * 13) G := fun p => (hcG).below (over_below w2 p) (show b < w2.heap.size by omega)
        unfold EvCells at gX
        have g0 : ∀ p, (over w2 p).cell? ⟨b, (off + fn * 13), none⟩ = some (Value.int IntKind.i64 G.hart) := fun p => (gX p).1
        have g1 : ∀ p, (over w2 p).cell? ⟨b, (off + fn * 13) + 1, none⟩ = some (Value.int IntKind.i64 G.kind) := fun p => (gX p).2.1
        have g2 : ∀ p, (over w2 p).cell? ⟨b, (off + fn * 13) + 2, none⟩ = some (Value.int IntKind.u32 G.addr) := fun p => (gX p).2.2.1
        have g3 : ∀ p, (over w2 p).cell? ⟨b, (off + fn * 13) + 3, none⟩ = some (Value.int IntKind.u32 G.val) := fun p => (gX p).2.2.2.1
        have g4 : ∀ p, (over w2 p).cell? ⟨b, (off + fn * 13) + 4, none⟩ = some (Value.int IntKind.u32 G.rval) := fun p => (gX p).2.2.2.2.1
        have g5 : ∀ p, (over w2 p).cell? ⟨b, (off + fn * 13) + 5, none⟩ = some (Value.bool G.aq) := fun p => (gX p).2.2.2.2.2.1
        have g6 : ∀ p, (over w2 p).cell? ⟨b, (off + fn * 13) + 6, none⟩ = some (Value.bool G.rl) := fun p => (gX p).2.2.2.2.2.2.1
        have g7 : ∀ p, (over w2 p).cell? ⟨b, (off + fn * 13) + 7, none⟩ = some (Value.int IntKind.i64 G.pred) := fun p => (gX p).2.2.2.2.2.2.2.1
        have g8 : ∀ p, (over w2 p).cell? ⟨b, (off + fn * 13) + 8, none⟩ = some (Value.int IntKind.i64 G.succ) := fun p => (gX p).2.2.2.2.2.2.2.2.1
        have g9 : ∀ p, (over w2 p).cell? ⟨b, (off + fn * 13) + 9, none⟩ = some (Value.bool G.rsv) := fun p => (gX p).2.2.2.2.2.2.2.2.2.1
        have g10 : ∀ p, (over w2 p).cell? ⟨b, (off + fn * 13) + 10, none⟩ = some (Value.slice G.av.a G.av.n G.av.c) := fun p => (gX p).2.2.2.2.2.2.2.2.2.2.1
        have g11 : ∀ p, (over w2 p).cell? ⟨b, (off + fn * 13) + 11, none⟩ = some (Value.slice G.dv.a G.dv.n G.dv.c) := fun p => (gX p).2.2.2.2.2.2.2.2.2.2.2.1
        have g12 : ∀ p, (over w2 p).cell? ⟨b, (off + fn * 13) + 12, none⟩ = some (Value.slice G.cv.a G.cv.n G.cv.c) := fun p => (gX p).2.2.2.2.2.2.2.2.2.2.2.2
        clear gX
        have SC := Lib.hid (fun w => stores_c G w)
        have HFK := Lib.hid hfk
        clear hfk
        cases hst : G.stB with
        | false =>
          have ST := Lib.hid hst
          clear hst
          have F : Hid (res = false) := Lib.hid (by rw [← RES.out]; exact fromTo_false _ _ _ hlt (by unfold fromOk srcOk; rw [HE.out, HF.out, LD.out, Int.toNat_natCast, HG.out, ST.out]; simp))
          go_wp2
          refine wp_region_over (by kernel_rfl) (by kernel_rfl) ?_
          repeat (go_big_quiet_step ((first | (go_at_call 19; refine quiet_over (?_ : Calls _ _ _ _ fun e w' => e = .returned (.bool true) ∧ _); have t := LC.out; rw [LD.out] at t; exact t _) | (go_at_call 17; refine quiet_over (?_ : Calls _ _ _ _ fun e w' => e = .returned (.bool false) ∧ _); have t := SC.out; rw [ST.out] at t; exact t _))))
          refine wpQuiet_nil ?_
          intro wq hwq
          obtain ⟨pq, hwq2⟩ := hwq
          have hbq : Below (w2).heap.size (w2) wq := by rw [hwq2]; exact over_below (w2) pq
          clear hwq2
          go_wp2
          go_ret
          exact ⟨ret_bool F.out.symm, (HWB.out wq hbq).1⟩
        | true =>
        have ST := Lib.hid hst
        clear hst
        obtain ⟨ba, hba⟩ : ∃ bool_ : Bool, (G.addr != E.addr) = bool_ := ⟨_, rfl⟩
        obtain ⟨bv, hbv⟩ : ∃ bool_ : Bool, (G.val != E.rval) = bool_ := ⟨_, rfl⟩
        have BA := Lib.hid hba
        have BV := Lib.hid hbv
        cases ba with
        | true =>
          have F : Hid (res = false) := Lib.hid (by rw [← RES.out]; exact fromTo_false _ _ _ hlt (by unfold fromOk srcOk; rw [HE.out, HF.out, LD.out, Int.toNat_natCast, HG.out, ST.out, BA.out]; simp))
          go_wp2
          refine wp_region_over (by kernel_rfl) (by kernel_rfl) ?_
          repeat (go_big_quiet_step ((first | (go_at_call 19; refine quiet_over (?_ : Calls _ _ _ _ fun e w' => e = .returned (.bool true) ∧ _); have t := LC.out; rw [LD.out] at t; exact t _) | (go_at_call 17; refine quiet_over (?_ : Calls _ _ _ _ fun e w' => e = .returned (.bool true) ∧ _); have t := SC.out; rw [ST.out] at t; exact t _))))
          refine wpQuiet_nil ?_
          intro wq hwq
          obtain ⟨pq, hwq2⟩ := hwq
          have hbq : Below (w2).heap.size (w2) wq := by rw [hwq2]; exact over_below (w2) pq
          clear hwq2
          go_wp2
          go_ret
          exact ⟨ret_bool F.out.symm, (HWB.out wq hbq).1⟩
        | false =>
        cases bv with
        | true =>
          have F : Hid (res = false) := Lib.hid (by rw [← RES.out]; exact fromTo_false _ _ _ hlt (by unfold fromOk srcOk; rw [HE.out, HF.out, LD.out, Int.toNat_natCast, HG.out, ST.out, BA.out, BV.out]; simp))
          go_wp2
          refine wp_region_over (by kernel_rfl) (by kernel_rfl) ?_
          repeat (go_big_quiet_step ((first | (go_at_call 19; refine quiet_over (?_ : Calls _ _ _ _ fun e w' => e = .returned (.bool true) ∧ _); have t := LC.out; rw [LD.out] at t; exact t _) | (go_at_call 17; refine quiet_over (?_ : Calls _ _ _ _ fun e w' => e = .returned (.bool true) ∧ _); have t := SC.out; rw [ST.out] at t; exact t _))))
          refine wpQuiet_nil ?_
          intro wq hwq
          obtain ⟨pq, hwq2⟩ := hwq
          have hbq : Below (w2).heap.size (w2) wq := by rw [hwq2]; exact over_below (w2) pq
          clear hwq2
          go_wp2
          go_ret
          exact ⟨ret_bool F.out.symm, (HWB.out wq hbq).1⟩
        | false =>
          have D : Hid (fromOk x.evs x.from_ k = true) := Lib.hid (by unfold fromOk srcOk; rw [HE.out, HF.out, LD.out, Int.toNat_natCast, HG.out, ST.out, BA.out, BV.out]; have := HFK.out; simp; omega)
          go_wp2
          refine wp_region_over (by kernel_rfl) (by kernel_rfl) ?_
          repeat (go_big_quiet_step ((first | (go_at_call 19; refine quiet_over (?_ : Calls _ _ _ _ fun e w' => e = .returned (.bool true) ∧ _); have t := LC.out; rw [LD.out] at t; exact t _) | (go_at_call 17; refine quiet_over (?_ : Calls _ _ _ _ fun e w' => e = .returned (.bool true) ∧ _); have t := SC.out; rw [ST.out] at t; exact t _))))
          refine wpQuiet_nil ?_
          intro wq hwq
          obtain ⟨pq, hwq2⟩ := hwq
          have hbq : Below (w2).heap.size (w2) wq := by rw [hwq2]; exact over_below (w2) pq
          clear hwq2
          go_wp2
          go_roundw
          case rel => first | exact ⟨k + 1, by omega, by go_num, by rw [fromTo_succ, HTO.out, D.out]; rfl, (HWB.out wq hbq).2⟩ | ((repeat apply Exists.intro); exact ⟨⟨k + 1, by omega, by go_num, by rw [fromTo_succ, HTO.out, D.out]; rfl, (HWB.out wq hbq).2⟩, rfl⟩)
          case measure => simp [intOf]; omega
    · have hke : k = x.from_.length := by omega
      have F : Hid (res = true) := Lib.hid (by rw [← RES.out]; unfold fromB; rw [← hke, HTO.out]; have := HLEN.out; simp; omega)
      clear hke
      go_wp2
      go_ret
      exact ⟨ret_bool F.out.symm, hb.trans (hbr.mono (by omega))⟩

theorem from_c (x : Ex) (w : World) (hx : x.inW w.heap.size w) :
    Calls Try.prog 28 #[x.agg] w fun o w' => o = .returned (.bool (fromB x.evs x.from_)) ∧ Below w.heap.size w w' := by
  by_cases hlen : x.from_.length = x.evs.length
  · by_cases hne : x.evs = []
    · have h0 : x.from_ = [] := by rw [hne] at hlen; exact List.length_eq_zero_iff.1 hlen
      have : fromB x.evs x.from_ = true := by rw [hne, h0]; rfl
      rw [this]; exact from_none_c x w hx h0 hne
    · exact from_some_c x w hx hlen hne
  · have : fromB x.evs x.from_ = false := by unfold fromB; simp [hlen]
    rw [this]; exact from_len_c x w hx hlen
end Go.Proofs.Ytgeaaegkcbjhlaa
