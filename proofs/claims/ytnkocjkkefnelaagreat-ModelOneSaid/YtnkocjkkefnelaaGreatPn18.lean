/- Parts. -/
import Derived.WalkMore
import Derived.ScopeJumps
import Derived.Test.YtnkocjkkefnelaaGreatPn17
set_option linter.unusedVariables false
set_option linter.unusedSimpArgs false
set_option maxHeartbeats 4000000
namespace Go.Proofs.YtnkocjkkefnelaaGreat
open Go.RowKit
def srcOk (es : List Ev) (e : Ev) (f : Int) : Bool :=
 (es.getD f.toNat default).stB && !((es.getD f.toNat default).addr != e.addr) && !((es.getD f.toNat default).val != e.rval)
def fromOk (es : List Ev) (fs : List Int) (k : Nat) : Bool :=
 (!(es.getD k default).ldB && (fs.getD k 0 == -1)) ||
 ((es.getD k default).ldB && !(fs.getD k 0 == (k : Int)) && !(decide (fs.getD k 0 < 0)) && !(decide ((es.length : Int) ≤ fs.getD k 0)) && srcOk es (es.getD k default) (fs.getD k 0))
def fromTo (es : List Ev) (fs : List Int) (k : Nat) : Bool := (List.range k).all (fromOk es fs)
def fromB (es : List Ev) (fs : List Int) : Bool := decide (fs.length = es.length) && fromTo es fs fs.length
theorem zH (es : List Ev) (fs : List Int) (k : Nat) : fromTo es fs (k + 1) = (fromTo es fs k && fromOk es fs k) := by
 simp [fromTo, List.range_succ]
theorem wP (es : List Ev) (fs : List Int) (k : Nat) (hk : k < fs.length) (h : fromOk es fs k = false) : fromB es fs = false := by
 have : fromTo es fs fs.length = false := by
  unfold fromTo
  rw [List.all_eq_false]
  exact ⟨k, by simpa using hk, by simp [h]⟩
 unfold fromB; rw [this]; simp
set_option maxRecDepth 100000 in
set_option maxHeartbeats 1000000 in
theorem from_len_c (x : Ex) (w : World) (hx : x.inW w.heap.size w) (hlen : x.from_.length ≠ x.evs.length) :
  Calls Tryz.prog 53 #[x.agg] w fun o w' => o = .returned (.bool false) ∧ Below w.heap.size w w' := by
 obtain ⟨en, esm, _⟩ := hx.1
 obtain ⟨fn, fsm, _⟩ := hx.2.1
 have XA : Hid (x.agg = .agg #[.slice x.es.a x.evs.length x.es.c, .slice x.fs.a x.from_.length x.fs.c, .slice x.os.a x.os.n x.os.c]) := Lib.hid (by unfold Ex.agg; rw [en, fn])
 rw [XA.out]
 clear en fn hx
 have hl1 : ((x.from_.length : Int) != (x.evs.length : Int)) = true := by simp; omega
 have hl2 : (x.from_.length != x.evs.length) = true := by simp; omega
 clear hlen
 go_enter Tryz.func53, Tryz.ntmps53
 go_wp2
 go_ret
 exact ⟨rfl, (Below.refl _ _).alloc (Nat.le_refl _) _⟩
set_option maxRecDepth 100000 in
set_option maxHeartbeats 1000000 in
theorem from_none_c (x : Ex) (w : World) (hx : x.inW w.heap.size w) (h0 : x.from_ = []) (h1 : x.evs = []) :
  Calls Tryz.prog 53 #[x.agg] w fun o w' => o = .returned (.bool true) ∧ Below w.heap.size w w' := by
 obtain ⟨en, _, _⟩ := hx.1
 obtain ⟨fn, _, _⟩ := hx.2.1
 have XA : Hid (x.agg = .agg #[.slice x.es.a 0 x.es.c, .slice x.fs.a 0 x.fs.c, .slice x.os.a x.os.n x.os.c]) := Lib.hid (by unfold Ex.agg; rw [en, fn, h0, h1]; rfl)
 rw [XA.out]
 clear en fn hx h0 h1
 go_enter Tryz.func53, Tryz.ntmps53
 go_wp2
 go_loopw [16] (fun i wr => i = .int .i64 0 ∧ Below w.heap.size w wr) (fun _ _ => 0)
 case atStart => exact ⟨rfl, (Below.refl _ _).alloc (Nat.le_refl _) _⟩
 case round =>
  obtain ⟨rfl, hbr⟩ := hrel
  go_wp2
  go_ret
  exact ⟨rfl, hbr⟩
set_option maxRecDepth 100000 in
set_option maxHeartbeats 2000000 in
theorem from_some_c (x : Ex) (w : World) (hx : x.inW w.heap.size w) (hlen : x.from_.length = x.evs.length) (hne : x.evs ≠ []) :
  Calls Tryz.prog 53 #[x.agg] w fun o w' => o = .returned (.bool (fromB x.evs x.from_)) ∧ Below w.heap.size w w' := by
 obtain ⟨en, esm, _, ecl⟩ := hx.1
 obtain ⟨fn, fsm, fcl⟩ := hx.2.1
 obtain ⟨res, hres⟩ : ∃ z : Bool, fromB x.evs x.from_ = z := ⟨_, rfl⟩
 rw [hres]
 have RES := Lib.hid hres
 clear hres
 have hne2 : x.from_ ≠ [] := by intro h; rw [h] at hlen; exact hne (List.length_eq_zero_iff.1 hlen.symm)
 obtain ⟨fb, fo, hfa, hfB, hfc⟩ := fcl.resolve_left hne2
 obtain ⟨b, off, hea, hbB, hcl⟩ := ecl.resolve_left hne
 have XA : Hid (x.agg = .agg #[.slice (some ⟨b, off, none⟩) x.evs.length x.es.c, .slice (some ⟨fb, fo, none⟩) x.from_.length x.fs.c, .slice x.os.a x.os.n x.os.c]) := Lib.hid (by unfold Ex.agg; rw [en, fn, hfa, hea])
 rw [XA.out]
 clear en fn hfa hea hne hne2 ecl fcl hx
 have HFC := Lib.hid hfc
 have HCL := Lib.hid hcl
 have HLEN := Lib.hid hlen
 have hl1 : ((x.from_.length : Int) != (x.evs.length : Int)) = false := by simp; omega
 have hl2 : (x.from_.length != x.evs.length) = false := by simp; omega
 have hle : x.from_.length ≤ x.evs.length := by omega
 clear hlen hfc hcl
 go_enter Tryz.func53, Tryz.ntmps53
 go_upto_region 1 with (fail)
 refine wH (X := fun W => Code.wp _ _ _ _ W) ?_
 intro wc hb hsz hcs
 have c0 : wc.cell? ⟨w.heap.size, 0, none⟩ = some (.slice (some ⟨b, off, none⟩) x.evs.length x.es.c) := hcs 0 _ rfl
 have c1 : wc.cell? ⟨w.heap.size, 1, none⟩ = some (.slice (some ⟨fb, fo, none⟩) x.from_.length x.fs.c) := hcs 1 _ rfl
 clear hcs
 go_wp2
 go_loopw [16] (fun i wr => ∃ k : Nat, k ≤ x.from_.length ∧ i = .int .i64 k ∧ fromTo x.evs x.from_ k = true ∧ Below wc.heap.size wc wr) (fun i _ => x.from_.length - (intOf i).toNat)
 case atStart => exact ⟨0, by omega, rfl, rfl, Below.refl _ _⟩
 case round =>
  obtain ⟨k, hk, rfl, hto, hbr⟩ := hrel
  have HTO := Lib.hid hto
  clear hto
  by_cases hlt : k < x.from_.length
  ·have hke : k < x.evs.length := by omega
   have hwr : ∀ b o, b < w.heap.size → wr.cell? ⟨b, o, none⟩ = w.cell? ⟨b, o, none⟩ := fun b o h => (hbr.cell (p := ⟨b, o, none⟩) (by show b < _; omega)).trans (hb.cell (p := ⟨b, o, none⟩) h)
   obtain ⟨f, hf⟩ : ∃ f, x.from_.getD k 0 = f := ⟨_, rfl⟩
   have ck : wr.cell? ⟨fb, fo + k, none⟩ = some (.int .i64 f) := by rw [hwr _ _ hfB, HFC.out k hlt, hf]
   have c0r : wr.cell? ⟨w.heap.size, 0, none⟩ = some (.slice (some ⟨b, off, none⟩) x.evs.length x.es.c) := (hbr.cell (p := ⟨w.heap.size, 0, none⟩) hsz).trans c0
   obtain ⟨E, hE⟩ : ∃ E, x.evs.getD k default = E := ⟨_, rfl⟩
   have hcE := ((HCL.out k hke).below hb hbB).below hbr (show b < wc.heap.size by omega)
   rw [hE] at hcE
   unfold EvCells at hcE
   obtain ⟨q0, q1, q2, q3, q4, q5, q6, q7, q8, q9, q10, q11, q12⟩ := hcE
   have HF := Lib.hid hf
   have HE := Lib.hid hE
   have HWR := Lib.hid hwr
   clear hf hE hwr
   go_upto_region 7 with (fail)
   refine wH (X := fun W => Code.wp _ _ _ _ W) ?_
   intro w1 hb1 hs1 hcs1
   have t0 : (w1).cell? ⟨wr.heap.size, 0, none⟩ = some (Value.int IntKind.i64 E.hart) := hcs1 0 _ rfl
   have t1 : (w1).cell? ⟨wr.heap.size, 1, none⟩ = some (Value.int IntKind.i64 E.kind) := hcs1 1 _ rfl
   have t2 : (w1).cell? ⟨wr.heap.size, 2, none⟩ = some (Value.int IntKind.u32 E.addr) := hcs1 2 _ rfl
   have t3 : (w1).cell? ⟨wr.heap.size, 3, none⟩ = some (Value.int IntKind.u32 E.val) := hcs1 3 _ rfl
   have t4 : (w1).cell? ⟨wr.heap.size, 4, none⟩ = some (Value.int IntKind.u32 E.rval) := hcs1 4 _ rfl
   have t5 : (w1).cell? ⟨wr.heap.size, 5, none⟩ = some (Value.bool E.aq) := hcs1 5 _ rfl
   have t6 : (w1).cell? ⟨wr.heap.size, 6, none⟩ = some (Value.bool E.rl) := hcs1 6 _ rfl
   have t7 : (w1).cell? ⟨wr.heap.size, 7, none⟩ = some (Value.int IntKind.i64 E.pred) := hcs1 7 _ rfl
   have t8 : (w1).cell? ⟨wr.heap.size, 8, none⟩ = some (Value.int IntKind.i64 E.succ) := hcs1 8 _ rfl
   have t9 : (w1).cell? ⟨wr.heap.size, 9, none⟩ = some (Value.bool E.rsv) := hcs1 9 _ rfl
   have t10 : (w1).cell? ⟨wr.heap.size, 10, none⟩ = some (Value.slice E.av.a E.av.n E.av.c) := hcs1 10 _ rfl
   have t11 : (w1).cell? ⟨wr.heap.size, 11, none⟩ = some (Value.slice E.dv.a E.dv.n E.dv.c) := hcs1 11 _ rfl
   have t12 : (w1).cell? ⟨wr.heap.size, 12, none⟩ = some (Value.slice E.cv.a E.cv.n E.cv.c) := hcs1 12 _ rfl
   clear hcs1 q0 q1 q2 q3 q4 q5 q6 q7 q8 q9 q10 q11 q12
   have hz1 := hbr.size
   have d0 : w1.cell? ⟨w.heap.size, 0, none⟩ = some (.slice (some ⟨b, off, none⟩) x.evs.length x.es.c) := (hb1.cell (p := ⟨w.heap.size, 0, none⟩) (by show w.heap.size < _; omega)).trans c0r
   clear c0r ck
   go_wp2_with fail
   refine (gL E w1).mono ?_; rintro o w2 ⟨rfl, hb2⟩
   have LC := Lib.hid (fun w => gL E w)
   have hz2 := hb2.size
   have r2 : ∀ b o, b < (w1).heap.size → (w2).cell? ⟨b, o, none⟩ = (w1).cell? ⟨b, o, none⟩ := fun b o hh => (hb2).cell (p := ⟨b, o, none⟩) hh
   have HWB : Hid (∀ W, Below w2.heap.size w2 W → Below w.heap.size w W ∧ Below wc.heap.size wc W) := Lib.hid (fun W h => ⟨hb.trans ((((hbr.mono (by omega)).trans (hb1.mono (by omega))).trans (hb2.mono (by omega))).trans (h.mono (by omega))), ((hbr.trans (hb1.mono (by omega))).trans (hb2.mono (by omega))).trans (h.mono (by omega))⟩)
   have o0 : ∀ p, (vC w2 p).cell? ⟨w.heap.size, 0, none⟩ = some (.slice (some ⟨b, off, none⟩) x.evs.length x.es.c) := fun p => uH w2 p (by omega) ((r2 _ _ (by omega)).trans d0)
   cases hld : E.ldB with
   | false =>
    have LD := Lib.hid hld
    clear hld
    by_cases hf1 : f = -1
    ·subst hf1
     have D : Hid (fromOk x.evs x.from_ k = true) := Lib.hid (by unfold fromOk; rw [HE.out, HF.out, LD.out]; simp)
     go_wp2
     go_roundw
     case rel => first | exact ⟨k + 1, by omega, by go_num, by rw [zH, HTO.out, D.out]; rfl, (HWB.out w2 (Below.refl _ _)).2⟩ | ((repeat apply Exists.intro); exact ⟨⟨k + 1, by omega, by go_num, by rw [zH, HTO.out, D.out]; rfl, (HWB.out w2 (Below.refl _ _)).2⟩, rfl⟩)
     case measure => simp [intOf]; omega
    ·have F : Hid (res = false) := Lib.hid (by rw [← RES.out]; exact wP _ _ _ hlt (by unfold fromOk; rw [HE.out, HF.out, LD.out]; simp [hf1]))
     have hf2 : (f == -1) = false := by simpa using hf1
     clear hf1
     have z0 := (r2 _ _ hs1).trans t0
     have z1 := (r2 _ _ hs1).trans t1
     have z2 := (r2 _ _ hs1).trans t2
     have z3 := (r2 _ _ hs1).trans t3
     have z4 := (r2 _ _ hs1).trans t4
     have z5 := (r2 _ _ hs1).trans t5
     have z6 := (r2 _ _ hs1).trans t6
     have z7 := (r2 _ _ hs1).trans t7
     have z8 := (r2 _ _ hs1).trans t8
     have z9 := (r2 _ _ hs1).trans t9
     have z10 := (r2 _ _ hs1).trans t10
     have z11 := (r2 _ _ hs1).trans t11
     have z12 := (r2 _ _ hs1).trans t12
     have y0 : ∀ p, (vC w2 p).cell? ⟨wr.heap.size, 0, none⟩ = some (Value.int IntKind.i64 E.hart) := fun p => uH w2 p (show wr.heap.size < w2.heap.size by omega) z0
     have y1 : ∀ p, (vC w2 p).cell? ⟨wr.heap.size, 1, none⟩ = some (Value.int IntKind.i64 E.kind) := fun p => uH w2 p (show wr.heap.size < w2.heap.size by omega) z1
     have y2 : ∀ p, (vC w2 p).cell? ⟨wr.heap.size, 2, none⟩ = some (Value.int IntKind.u32 E.addr) := fun p => uH w2 p (show wr.heap.size < w2.heap.size by omega) z2
     have y3 : ∀ p, (vC w2 p).cell? ⟨wr.heap.size, 3, none⟩ = some (Value.int IntKind.u32 E.val) := fun p => uH w2 p (show wr.heap.size < w2.heap.size by omega) z3
     have y4 : ∀ p, (vC w2 p).cell? ⟨wr.heap.size, 4, none⟩ = some (Value.int IntKind.u32 E.rval) := fun p => uH w2 p (show wr.heap.size < w2.heap.size by omega) z4
     have y5 : ∀ p, (vC w2 p).cell? ⟨wr.heap.size, 5, none⟩ = some (Value.bool E.aq) := fun p => uH w2 p (show wr.heap.size < w2.heap.size by omega) z5
     have y6 : ∀ p, (vC w2 p).cell? ⟨wr.heap.size, 6, none⟩ = some (Value.bool E.rl) := fun p => uH w2 p (show wr.heap.size < w2.heap.size by omega) z6
     have y7 : ∀ p, (vC w2 p).cell? ⟨wr.heap.size, 7, none⟩ = some (Value.int IntKind.i64 E.pred) := fun p => uH w2 p (show wr.heap.size < w2.heap.size by omega) z7
     have y8 : ∀ p, (vC w2 p).cell? ⟨wr.heap.size, 8, none⟩ = some (Value.int IntKind.i64 E.succ) := fun p => uH w2 p (show wr.heap.size < w2.heap.size by omega) z8
     have y9 : ∀ p, (vC w2 p).cell? ⟨wr.heap.size, 9, none⟩ = some (Value.bool E.rsv) := fun p => uH w2 p (show wr.heap.size < w2.heap.size by omega) z9
     have y10 : ∀ p, (vC w2 p).cell? ⟨wr.heap.size, 10, none⟩ = some (Value.slice E.av.a E.av.n E.av.c) := fun p => uH w2 p (show wr.heap.size < w2.heap.size by omega) z10
     have y11 : ∀ p, (vC w2 p).cell? ⟨wr.heap.size, 11, none⟩ = some (Value.slice E.dv.a E.dv.n E.dv.c) := fun p => uH w2 p (show wr.heap.size < w2.heap.size by omega) z11
     have y12 : ∀ p, (vC w2 p).cell? ⟨wr.heap.size, 12, none⟩ = some (Value.slice E.cv.a E.cv.n E.cv.c) := fun p => uH w2 p (show wr.heap.size < w2.heap.size by omega) z12
     clear z0 z1 z2 z3 z4 z5 z6 z7 z8 z9 z10 z11 z12
     go_wp2
     refine uJ (by kernel_rfl) (by kernel_rfl) ?_
     repeat (go_big_quiet_step (((go_at_call 78; refine vH (?_ : Calls _ _ _ _ fun e w' => e = .returned (.bool false) ∧ _); have t := LC.out; rw [LD.out] at t; exact t _))))
     refine wpQuiet_nil ?_
     intro wq hwq
     obtain ⟨pq, hwq2⟩ := hwq
     have hbq : Below (w2).heap.size (w2) wq := by rw [hwq2]; exact uU (w2) pq
     clear hwq2
     go_wp2
     go_ret
     exact ⟨uQ F.out.symm, (HWB.out wq hbq).1⟩
   | true =>
    have LD := Lib.hid hld
    clear hld
    have z0 := (r2 _ _ hs1).trans t0
    have z1 := (r2 _ _ hs1).trans t1
    have z2 := (r2 _ _ hs1).trans t2
    have z3 := (r2 _ _ hs1).trans t3
    have z4 := (r2 _ _ hs1).trans t4
    have z5 := (r2 _ _ hs1).trans t5
    have z6 := (r2 _ _ hs1).trans t6
    have z7 := (r2 _ _ hs1).trans t7
    have z8 := (r2 _ _ hs1).trans t8
    have z9 := (r2 _ _ hs1).trans t9
    have z10 := (r2 _ _ hs1).trans t10
    have z11 := (r2 _ _ hs1).trans t11
    have z12 := (r2 _ _ hs1).trans t12
    have y0 : ∀ p, (vC w2 p).cell? ⟨wr.heap.size, 0, none⟩ = some (Value.int IntKind.i64 E.hart) := fun p => uH w2 p (show wr.heap.size < w2.heap.size by omega) z0
    have y1 : ∀ p, (vC w2 p).cell? ⟨wr.heap.size, 1, none⟩ = some (Value.int IntKind.i64 E.kind) := fun p => uH w2 p (show wr.heap.size < w2.heap.size by omega) z1
    have y2 : ∀ p, (vC w2 p).cell? ⟨wr.heap.size, 2, none⟩ = some (Value.int IntKind.u32 E.addr) := fun p => uH w2 p (show wr.heap.size < w2.heap.size by omega) z2
    have y3 : ∀ p, (vC w2 p).cell? ⟨wr.heap.size, 3, none⟩ = some (Value.int IntKind.u32 E.val) := fun p => uH w2 p (show wr.heap.size < w2.heap.size by omega) z3
    have y4 : ∀ p, (vC w2 p).cell? ⟨wr.heap.size, 4, none⟩ = some (Value.int IntKind.u32 E.rval) := fun p => uH w2 p (show wr.heap.size < w2.heap.size by omega) z4
    have y5 : ∀ p, (vC w2 p).cell? ⟨wr.heap.size, 5, none⟩ = some (Value.bool E.aq) := fun p => uH w2 p (show wr.heap.size < w2.heap.size by omega) z5
    have y6 : ∀ p, (vC w2 p).cell? ⟨wr.heap.size, 6, none⟩ = some (Value.bool E.rl) := fun p => uH w2 p (show wr.heap.size < w2.heap.size by omega) z6
    have y7 : ∀ p, (vC w2 p).cell? ⟨wr.heap.size, 7, none⟩ = some (Value.int IntKind.i64 E.pred) := fun p => uH w2 p (show wr.heap.size < w2.heap.size by omega) z7
    have y8 : ∀ p, (vC w2 p).cell? ⟨wr.heap.size, 8, none⟩ = some (Value.int IntKind.i64 E.succ) := fun p => uH w2 p (show wr.heap.size < w2.heap.size by omega) z8
    have y9 : ∀ p, (vC w2 p).cell? ⟨wr.heap.size, 9, none⟩ = some (Value.bool E.rsv) := fun p => uH w2 p (show wr.heap.size < w2.heap.size by omega) z9
    have y10 : ∀ p, (vC w2 p).cell? ⟨wr.heap.size, 10, none⟩ = some (Value.slice E.av.a E.av.n E.av.c) := fun p => uH w2 p (show wr.heap.size < w2.heap.size by omega) z10
    have y11 : ∀ p, (vC w2 p).cell? ⟨wr.heap.size, 11, none⟩ = some (Value.slice E.dv.a E.dv.n E.dv.c) := fun p => uH w2 p (show wr.heap.size < w2.heap.size by omega) z11
    have y12 : ∀ p, (vC w2 p).cell? ⟨wr.heap.size, 12, none⟩ = some (Value.slice E.cv.a E.cv.n E.cv.c) := fun p => uH w2 p (show wr.heap.size < w2.heap.size by omega) z12
    clear z0 z1 z2 z3 z4 z5 z6 z7 z8 z9 z10 z11 z12
    by_cases hfk : f = (k : Int)
    ·have hb1' : (f == (k : Int)) = true := by simpa using hfk
     have F : Hid (res = false) := Lib.hid (by rw [← RES.out]; exact wP _ _ _ hlt (by unfold fromOk; rw [HE.out, HF.out, LD.out]; simp [hfk]))
     go_wp2
     refine uJ (by kernel_rfl) (by kernel_rfl) ?_
     repeat (go_big_quiet_step (((go_at_call 78; refine vH (?_ : Calls _ _ _ _ fun e w' => e = .returned (.bool true) ∧ _); have t := LC.out; rw [LD.out] at t; exact t _))))
     refine wpQuiet_nil ?_
     intro wq hwq
     obtain ⟨pq, hwq2⟩ := hwq
     have hbq : Below (w2).heap.size (w2) wq := by rw [hwq2]; exact uU (w2) pq
     clear hwq2
     go_wp2
     go_ret
     exact ⟨uQ F.out.symm, (HWB.out wq hbq).1⟩
    have hb1' : (f == (k : Int)) = false := by simpa using hfk
    by_cases hf0 : f < 0
    ·have F : Hid (res = false) := Lib.hid (by rw [← RES.out]; exact wP _ _ _ hlt (by unfold fromOk; rw [HE.out, HF.out, LD.out]; simp [hf0]))
     go_wp2
     refine uJ (by kernel_rfl) (by kernel_rfl) ?_
     repeat (go_big_quiet_step (((go_at_call 78; refine vH (?_ : Calls _ _ _ _ fun e w' => e = .returned (.bool true) ∧ _); have t := LC.out; rw [LD.out] at t; exact t _))))
     refine wpQuiet_nil ?_
     intro wq hwq
     obtain ⟨pq, hwq2⟩ := hwq
     have hbq : Below (w2).heap.size (w2) wq := by rw [hwq2]; exact uU (w2) pq
     clear hwq2
     go_wp2
     go_ret
     exact ⟨uQ F.out.symm, (HWB.out wq hbq).1⟩
    have hb2' : decide (f < 0) = false := by simpa using hf0
    by_cases hfn : (x.evs.length : Int) ≤ f
    ·have F : Hid (res = false) := Lib.hid (by rw [← RES.out]; exact wP _ _ _ hlt (by unfold fromOk; rw [HE.out, HF.out, LD.out]; simp [hfn]))
     go_wp2
     refine uJ (by kernel_rfl) (by kernel_rfl) ?_
     repeat (go_big_quiet_step (((go_at_call 78; refine vH (?_ : Calls _ _ _ _ fun e w' => e = .returned (.bool true) ∧ _); have t := LC.out; rw [LD.out] at t; exact t _))))
     refine wpQuiet_nil ?_
     intro wq hwq
     obtain ⟨pq, hwq2⟩ := hwq
     have hbq : Below (w2).heap.size (w2) wq := by rw [hwq2]; exact uU (w2) pq
     clear hwq2
     go_wp2
     go_ret
     exact ⟨uQ F.out.symm, (HWB.out wq hbq).1⟩
    have hb3' : decide ((x.evs.length : Int) ≤ f) = false := by simpa using hfn
    obtain ⟨fn, rfl⟩ : ∃ fn : Nat, f = fn := ⟨f.toNat, by omega⟩
    have hflt : fn < x.evs.length := by omega
    have hb4' : decide (x.evs.length ≤ fn) = false := by simp; omega
    have hb5' : ((fn : Int) < 0) = False := by simp
    obtain ⟨G, hG⟩ : ∃ G, x.evs.getD fn default = G := ⟨_, rfl⟩
    have hcG := (HCL.out fn hflt).below (HWB.out w2 (Below.refl _ _)).1 hbB
    rw [hG] at hcG
    have HG := Lib.hid hG
    clear hG
    have gX : ∀ p, EvCells (vC w2 p) b (off + fn * 13) G := fun p => (hcG).below (uU w2 p) (show b < w2.heap.size by omega)
    unfold EvCells at gX
    have g0 : ∀ p, (vC w2 p).cell? ⟨b, (off + fn * 13), none⟩ = some (Value.int IntKind.i64 G.hart) := fun p => (gX p).1
    have g1 : ∀ p, (vC w2 p).cell? ⟨b, (off + fn * 13) + 1, none⟩ = some (Value.int IntKind.i64 G.kind) := fun p => (gX p).2.1
    have g2 : ∀ p, (vC w2 p).cell? ⟨b, (off + fn * 13) + 2, none⟩ = some (Value.int IntKind.u32 G.addr) := fun p => (gX p).2.2.1
    have g3 : ∀ p, (vC w2 p).cell? ⟨b, (off + fn * 13) + 3, none⟩ = some (Value.int IntKind.u32 G.val) := fun p => (gX p).2.2.2.1
    have g4 : ∀ p, (vC w2 p).cell? ⟨b, (off + fn * 13) + 4, none⟩ = some (Value.int IntKind.u32 G.rval) := fun p => (gX p).2.2.2.2.1
    have g5 : ∀ p, (vC w2 p).cell? ⟨b, (off + fn * 13) + 5, none⟩ = some (Value.bool G.aq) := fun p => (gX p).2.2.2.2.2.1
    have g6 : ∀ p, (vC w2 p).cell? ⟨b, (off + fn * 13) + 6, none⟩ = some (Value.bool G.rl) := fun p => (gX p).2.2.2.2.2.2.1
    have g7 : ∀ p, (vC w2 p).cell? ⟨b, (off + fn * 13) + 7, none⟩ = some (Value.int IntKind.i64 G.pred) := fun p => (gX p).2.2.2.2.2.2.2.1
    have g8 : ∀ p, (vC w2 p).cell? ⟨b, (off + fn * 13) + 8, none⟩ = some (Value.int IntKind.i64 G.succ) := fun p => (gX p).2.2.2.2.2.2.2.2.1
    have g9 : ∀ p, (vC w2 p).cell? ⟨b, (off + fn * 13) + 9, none⟩ = some (Value.bool G.rsv) := fun p => (gX p).2.2.2.2.2.2.2.2.2.1
    have g10 : ∀ p, (vC w2 p).cell? ⟨b, (off + fn * 13) + 10, none⟩ = some (Value.slice G.av.a G.av.n G.av.c) := fun p => (gX p).2.2.2.2.2.2.2.2.2.2.1
    have g11 : ∀ p, (vC w2 p).cell? ⟨b, (off + fn * 13) + 11, none⟩ = some (Value.slice G.dv.a G.dv.n G.dv.c) := fun p => (gX p).2.2.2.2.2.2.2.2.2.2.2.1
    have g12 : ∀ p, (vC w2 p).cell? ⟨b, (off + fn * 13) + 12, none⟩ = some (Value.slice G.cv.a G.cv.n G.cv.c) := fun p => (gX p).2.2.2.2.2.2.2.2.2.2.2.2
    clear gX
    have SC := Lib.hid (fun w => mK G w)
    have HFK := Lib.hid hfk
    clear hfk
    cases hst : G.stB with
    | false =>
     have ST := Lib.hid hst
     clear hst
     have F : Hid (res = false) := Lib.hid (by rw [← RES.out]; exact wP _ _ _ hlt (by unfold fromOk srcOk; rw [HE.out, HF.out, LD.out, Int.toNat_natCast, HG.out, ST.out]; simp))
     go_wp2
     refine uJ (by kernel_rfl) (by kernel_rfl) ?_
     repeat (go_big_quiet_step ((first | (go_at_call 78; refine vH (?_ : Calls _ _ _ _ fun e w' => e = .returned (.bool true) ∧ _); have t := LC.out; rw [LD.out] at t; exact t _) | (go_at_call 79; refine vH (?_ : Calls _ _ _ _ fun e w' => e = .returned (.bool false) ∧ _); have t := SC.out; rw [ST.out] at t; exact t _))))
     refine wpQuiet_nil ?_
     intro wq hwq
     obtain ⟨pq, hwq2⟩ := hwq
     have hbq : Below (w2).heap.size (w2) wq := by rw [hwq2]; exact uU (w2) pq
     clear hwq2
     go_wp2
     go_ret
     exact ⟨uQ F.out.symm, (HWB.out wq hbq).1⟩
    | true =>
    have ST := Lib.hid hst
    clear hst
    obtain ⟨ba, hba⟩ : ∃ bool_ : Bool, (G.addr != E.addr) = bool_ := ⟨_, rfl⟩
    obtain ⟨bv, hbv⟩ : ∃ bool_ : Bool, (G.val != E.rval) = bool_ := ⟨_, rfl⟩
    have BA := Lib.hid hba
    have BV := Lib.hid hbv
    cases ba with
    | true =>
     have F : Hid (res = false) := Lib.hid (by rw [← RES.out]; exact wP _ _ _ hlt (by unfold fromOk srcOk; rw [HE.out, HF.out, LD.out, Int.toNat_natCast, HG.out, ST.out, BA.out]; simp))
     go_wp2
     refine uJ (by kernel_rfl) (by kernel_rfl) ?_
     repeat (go_big_quiet_step ((first | (go_at_call 78; refine vH (?_ : Calls _ _ _ _ fun e w' => e = .returned (.bool true) ∧ _); have t := LC.out; rw [LD.out] at t; exact t _) | (go_at_call 79; refine vH (?_ : Calls _ _ _ _ fun e w' => e = .returned (.bool true) ∧ _); have t := SC.out; rw [ST.out] at t; exact t _))))
     refine wpQuiet_nil ?_
     intro wq hwq
     obtain ⟨pq, hwq2⟩ := hwq
     have hbq : Below (w2).heap.size (w2) wq := by rw [hwq2]; exact uU (w2) pq
     clear hwq2
     go_wp2
     go_ret
     exact ⟨uQ F.out.symm, (HWB.out wq hbq).1⟩
    | false =>
    cases bv with
    | true =>
     have F : Hid (res = false) := Lib.hid (by rw [← RES.out]; exact wP _ _ _ hlt (by unfold fromOk srcOk; rw [HE.out, HF.out, LD.out, Int.toNat_natCast, HG.out, ST.out, BA.out, BV.out]; simp))
     go_wp2
     refine uJ (by kernel_rfl) (by kernel_rfl) ?_
     repeat (go_big_quiet_step ((first | (go_at_call 78; refine vH (?_ : Calls _ _ _ _ fun e w' => e = .returned (.bool true) ∧ _); have t := LC.out; rw [LD.out] at t; exact t _) | (go_at_call 79; refine vH (?_ : Calls _ _ _ _ fun e w' => e = .returned (.bool true) ∧ _); have t := SC.out; rw [ST.out] at t; exact t _))))
     refine wpQuiet_nil ?_
     intro wq hwq
     obtain ⟨pq, hwq2⟩ := hwq
     have hbq : Below (w2).heap.size (w2) wq := by rw [hwq2]; exact uU (w2) pq
     clear hwq2
     go_wp2
     go_ret
     exact ⟨uQ F.out.symm, (HWB.out wq hbq).1⟩
    | false =>
     have D : Hid (fromOk x.evs x.from_ k = true) := Lib.hid (by unfold fromOk srcOk; rw [HE.out, HF.out, LD.out, Int.toNat_natCast, HG.out, ST.out, BA.out, BV.out]; have := HFK.out; simp; omega)
     go_wp2
     refine uJ (by kernel_rfl) (by kernel_rfl) ?_
     repeat (go_big_quiet_step ((first | (go_at_call 78; refine vH (?_ : Calls _ _ _ _ fun e w' => e = .returned (.bool true) ∧ _); have t := LC.out; rw [LD.out] at t; exact t _) | (go_at_call 79; refine vH (?_ : Calls _ _ _ _ fun e w' => e = .returned (.bool true) ∧ _); have t := SC.out; rw [ST.out] at t; exact t _))))
     refine wpQuiet_nil ?_
     intro wq hwq
     obtain ⟨pq, hwq2⟩ := hwq
     have hbq : Below (w2).heap.size (w2) wq := by rw [hwq2]; exact uU (w2) pq
     clear hwq2
     go_wp2
     go_roundw
     case rel => first | exact ⟨k + 1, by omega, by go_num, by rw [zH, HTO.out, D.out]; rfl, (HWB.out wq hbq).2⟩ | ((repeat apply Exists.intro); exact ⟨⟨k + 1, by omega, by go_num, by rw [zH, HTO.out, D.out]; rfl, (HWB.out wq hbq).2⟩, rfl⟩)
     case measure => simp [intOf]; omega
  ·have hke : k = x.from_.length := by omega
   have F : Hid (res = true) := Lib.hid (by rw [← RES.out]; unfold fromB; rw [← hke, HTO.out]; have := HLEN.out; simp; omega)
   clear hke
   go_wp2
   go_ret
   exact ⟨uQ F.out.symm, hb.trans (hbr.mono (by omega))⟩
theorem from_c (x : Ex) (w : World) (hx : x.inW w.heap.size w) :
  Calls Tryz.prog 53 #[x.agg] w fun o w' => o = .returned (.bool (fromB x.evs x.from_)) ∧ Below w.heap.size w w' := by
 by_cases hlen : x.from_.length = x.evs.length
 ·by_cases hne : x.evs = []
  ·have h0 : x.from_ = [] := by rw [hne] at hlen; exact List.length_eq_zero_iff.1 hlen
   have : fromB x.evs x.from_ = true := by rw [hne, h0]; rfl
   rw [this]; exact from_none_c x w hx h0 hne
  ·exact from_some_c x w hx hlen hne
 ·have : fromB x.evs x.from_ = false := by unfold fromB; simp [hlen]
  rw [this]; exact from_len_c x w hx hlen
open Go.RowKit Go.Maps Go.Sort
def evsTo (es : List Ev) (ad : List Int) (k : Nat) : Bool := (List.range k).all (evOk es ad)
theorem iQ (es : List Ev) (ad : List Int) (k : Nat) : evsTo es ad (k + 1) = (evsTo es ad k && evOk es ad k) := by
 simp [evsTo, List.range_succ]
theorem evsTo_false (es : List Ev) (ad : List Int) (k : Nat) (hk : k < es.length) (h : evOk es ad k = false) : evsTo es ad es.length = false := by
 unfold evsTo
 rw [List.all_eq_false]
 exact ⟨k, by simpa using hk, by simp [h]⟩
def checkI (x : Ex) : Int :=
 if 64 < x.evs.length then 3 else
 if evsTo x.evs (addrsTo x.evs) x.evs.length = false then 160 else
 if fromB x.evs x.from_ = false then 161 else
 if orderB x.evs (addrsTo x.evs) x.order = false then 162 else 0
theorem RowsIn.mono {B B' : Nat} {w : World} {s : Sl} {rows : List (Sl × List Int)} (h : RowsIn B w s rows) (hB : B ≤ B') : RowsIn B' w s rows := by
 obtain ⟨h1, h2, h3, h4⟩ := h
 refine ⟨h1, h2, fun r hr => (h3 r hr).mono hB, ?_⟩
 rcases h4 with h4 | ⟨b, off, h4, h5, h6⟩
 ·exact Or.inl h4
 ·exact Or.inr ⟨b, off, h4, by omega, h6⟩
theorem Ex.inW.mono {B B' : Nat} {w : World} {x : Ex} (h : x.inW B w) (hB : B ≤ B') : x.inW B' w := ⟨h.1.mono hB, h.2.1.mono hB, h.2.2.mono hB⟩
theorem Ex.inW.later {w w' : World} {x : Ex} (h : x.inW w.heap.size w) (hb : Below w.heap.size w w') : x.inW w'.heap.size w' := Ex.inW.mono (h.below hb) hb.size
theorem ret_num {a b : Int} (h : a = b) : Ending.returned (.int .i64 a) = Ending.returned (.int .i64 b) := by rw [h]
set_option maxRecDepth 100000 in
set_option maxHeartbeats 1000000 in
theorem check_long_c (x : Ex) (w : World) (hx : x.inW w.heap.size w) (h : 64 < x.evs.length) :
  Calls Tryz.prog 35 #[x.agg] w fun o w' => o = .returned (.int .i64 3) ∧ Below w.heap.size w w' := by
 obtain ⟨en, esm, _⟩ := hx.1
 have XA : Hid (x.agg = .agg #[.slice x.es.a x.evs.length x.es.c, .slice x.fs.a x.fs.n x.fs.c, .slice x.os.a x.os.n x.os.c]) := Lib.hid (by unfold Ex.agg; rw [en])
 rw [XA.out]
 clear en hx
 have h2 : (64 : Int) < (x.evs.length : Int) := by omega
 go_enter Tryz.func35, Tryz.ntmps35
 go_wp2
 go_step3
 go_wp2
 simp only [Exit.noGoto_ret]
 go_ret
 exact ⟨rfl, (Below.refl _ _).alloc (Nat.le_refl _) _⟩
set_option maxRecDepth 100000 in
set_option maxHeartbeats 4000000 in
theorem check_short_c (x : Ex) (w : World) (hx : x.inW w.heap.size w) (h64 : x.evs.length ≤ 64) (hrows : ∀ r ∈ x.order, r.2.length ≤ 65536) :
  Calls Tryz.prog 35 #[x.agg] w fun o w' => o = .returned (.int .i64 (checkI x)) ∧ Below w.heap.size w w' := by
 obtain ⟨⟨ea, en, ec⟩, ⟨fa, fn, fc⟩, ⟨oa, on, oc⟩, evs, from_, rows⟩ := x
 have e1 : en = evs.length := hx.1.1
 subst e1
 have HX := Lib.hid hx
 have H64 := Lib.hid h64
 unfold Ex.agg
 dsimp only at h64 hrows ⊢
 have AC : Hid (∀ W, Below w.heap.size w W → Calls Tryz.prog 51 #[.agg #[.slice ea evs.length ec, .slice fa fn fc, .slice oa on oc]] W fun o w' => ∃ s : Sl, o = .returned (.slice s.a s.n s.c) ∧ IntsIn .u32 w'.heap.size w' s (addrsTo evs) ∧ Below W.heap.size W w') :=
  Lib.hid (fun W hb => addrs_c _ W ((HX.out.1.below hb).mono hb.size) h64)
 have EC : Hid (∀ (W : World) (n : Nat) (s : Sl), Below w.heap.size w W → IntsIn .u32 W.heap.size W s (addrsTo evs) → n < evs.length → Calls Tryz.prog 52 #[.agg #[.slice ea evs.length ec, .slice fa fn fc, .slice oa on oc], .int .i64 n, .int .i64 (addrsTo evs).length, .slice s.a s.n s.c] W fun o w' => o = .returned (.bool (evOk evs (addrsTo evs) n)) ∧ Below W.heap.size W w') :=
  Lib.hid (fun W n s hb hi hn => event_c _ n s _ W (Ex.inW.later HX.out hb) hi hn)
 have FC : Hid (∀ (W : World), Below w.heap.size w W → Calls Tryz.prog 53 #[.agg #[.slice ea evs.length ec, .slice fa fn fc, .slice oa on oc]] W fun o w' => o = .returned (.bool (fromB evs from_)) ∧ Below W.heap.size W w') :=
  Lib.hid (fun W hb => from_c _ W (Ex.inW.later HX.out hb))
 have OC : Hid (∀ (W : World) (s : Sl), Below w.heap.size w W → IntsIn .u32 W.heap.size W s (addrsTo evs) → Calls Tryz.prog 54 #[.agg #[.slice ea evs.length ec, .slice fa fn fc, .slice oa on oc], .slice s.a s.n s.c] W fun o w' => o = .returned (.bool (orderB evs (addrsTo evs) rows)) ∧ Below W.heap.size W w') :=
  Lib.hid (fun W s hb hi => order_c _ s _ W (Ex.inW.later HX.out hb) hi h64 hrows)
 obtain ⟨res, hres⟩ : ∃ z : Int, checkI ⟨⟨ea, evs.length, ec⟩, ⟨fa, fn, fc⟩, ⟨oa, on, oc⟩, evs, from_, rows⟩ = z := ⟨_, rfl⟩
 rw [hres]
 have RES : Hid ((if evsTo evs (addrsTo evs) evs.length = false then (160 : Int) else if fromB evs from_ = false then 161 else if orderB evs (addrsTo evs) rows = false then 162 else 0) = res) := Lib.hid (by
  rw [← hres]; unfold checkI; rw [if_neg (show ¬ 64 < evs.length by omega)])
 have hal := yB evs
 clear hres hx hrows
 go_enter Tryz.func35, Tryz.ntmps35
 go_upto_region 1 with (fail)
 refine wH (X := fun W => Code.wp _ _ _ _ W) ?_
 intro wc hb hsz hcs
 have c0 : wc.cell? ⟨w.heap.size, 0, none⟩ = some (.slice ea evs.length ec) := hcs 0 _ rfl
 have c1 : wc.cell? ⟨w.heap.size, 1, none⟩ = some (.slice fa fn fc) := hcs 1 _ rfl
 have c2 : wc.cell? ⟨w.heap.size, 2, none⟩ = some (.slice oa on oc) := hcs 2 _ rfl
 clear hcs
 refine wp_scope_jumps 0 (fun a' w' => Below w.heap.size w w' ∧ ∃ u3 u4 u5 u6 u7 u8 u9 u10 u11 u12 u13 u14 u15 u16 u17 u18 u19 u20 u21 u22 u23 u24 u25 u26 u27 u28 u29 u30 u31 u32 u33 u34 u35 u36 u37 u38 u39 : Value, a' = { tmps := #[.agg #[.slice ea evs.length ec, .slice fa fn fc, .slice oa on oc], .pointer (some ⟨w.heap.size, 0, none⟩), .int .i64 res, u3, u4, u5, u6, u7, u8, u9, u10, u11, u12, u13, u14, u15, u16, u17, u18, u19, u20, u21, u22, u23, u24, u25, u26, u27, u28, u29, u30, u31, u32, u33, u34, u35, u36, u37, u38, u39], defers := [] }) (fun _ _ => 0) rfl ?first ?pass
 case pass =>
  rintro a' w' ⟨hb9, u3, u4, u5, u6, u7, u8, u9, u10, u11, u12, u13, u14, u15, u16, u17, u18, u19, u20, u21, u22, u23, u24, u25, u26, u27, u28, u29, u30, u31, u32, u33, u34, u35, u36, u37, u38, u39, rfl⟩
  go_wp2
  simp only [Exit.jump]
  go_ret
  exact ⟨rfl, hb9⟩
 case first =>
 go_wp2_with fail
 refine (AC.out wc hb).mono ?_; rintro o w1 ⟨⟨sa, sn, sc⟩, rfl, hi1, hb1⟩
 have hsn : sn = (addrsTo evs).length := hi1.1
 subst hsn
 have d0 : w1.cell? ⟨w.heap.size, 0, none⟩ = some (.slice ea evs.length ec) := (hb1.cell (p := ⟨w.heap.size, 0, none⟩) hsz).trans c0
 have d1 : w1.cell? ⟨w.heap.size, 1, none⟩ = some (.slice fa fn fc) := (hb1.cell (p := ⟨w.heap.size, 1, none⟩) hsz).trans c1
 have d2 : w1.cell? ⟨w.heap.size, 2, none⟩ = some (.slice oa on oc) := (hb1.cell (p := ⟨w.heap.size, 2, none⟩) hsz).trans c2
 have HB1 : Hid (∀ W, Below w1.heap.size w1 W → Below w.heap.size w W) := Lib.hid (fun W h => hb.trans ((hb1.mono (by omega)).trans (h.mono (by have := hb1.size; omega))))
 have HI1 := Lib.hid hi1
 have hz1 : w.heap.size < w1.heap.size := by have := hb1.size; omega
 obtain ⟨al, hal2⟩ : ∃ al, (addrsTo evs).length = al := ⟨_, rfl⟩
 have HAL := Lib.hid hal2
 rw [hal2] at EC hal ⊢
 clear c0 c1 c2 hi1 hb1 hb hal2
 have hal3 : decide ((evs.length : Int) < (al : Int)) = false := decide_eq_false (by omega)
 have hal4 : decide (evs.length < al) = false := decide_eq_false (by omega)
 go_wp2
 go_loopw [21] (fun i wr => ∃ k : Nat, k ≤ evs.length ∧ i = .int .i64 k ∧ evsTo evs (addrsTo evs) k = true ∧ Below w1.heap.size w1 wr) (fun i _ => evs.length - (intOf i).toNat)
 case atStart => exact ⟨0, by omega, rfl, rfl, Below.refl _ _⟩
 case round =>
  obtain ⟨k, hk, rfl, hto, hbr⟩ := hrel
  have HTO := Lib.hid hto
  clear hto
  have f0 : wr.cell? ⟨w.heap.size, 0, none⟩ = some (.slice ea evs.length ec) := (hbr.cell (p := ⟨w.heap.size, 0, none⟩) hz1).trans d0
  have f1 : wr.cell? ⟨w.heap.size, 1, none⟩ = some (.slice fa fn fc) := (hbr.cell (p := ⟨w.heap.size, 1, none⟩) hz1).trans d1
  have f2 : wr.cell? ⟨w.heap.size, 2, none⟩ = some (.slice oa on oc) := (hbr.cell (p := ⟨w.heap.size, 2, none⟩) hz1).trans d2
  have hzr := hbr.size
  by_cases hlt : k < evs.length
  ·obtain ⟨be, hbe⟩ : ∃ bool_ : Bool, (evOk evs (addrsTo evs) k) = bool_ := ⟨_, rfl⟩
   have BE := Lib.hid hbe
   have ctr : Hid (Calls Tryz.prog 52 #[.agg #[.slice ea evs.length ec, .slice fa fn fc, .slice oa on oc], .int .i64 k, .int .i64 al, .slice sa al sc] wr fun o w' => o = .returned (.bool be) ∧ Below wr.heap.size wr w') := Lib.hid (by
    have t := EC.out wr k ⟨sa, al, sc⟩ (HB1.out _ hbr) (by have t2 := (HI1.out.below hbr).mono hzr; rw [HAL.out] at t2; exact t2) hlt
    rw [hbe] at t; exact t)
   clear hbe
   cases be with
   | true =>
    go_wp2_with (go_at_call 52; refine ctr.out.mono ?_; rintro o w2 ⟨rfl, hb2⟩)
    go_roundw
    case rel => first | exact ⟨k + 1, by omega, by go_num, by rw [iQ, HTO.out, BE.out]; rfl, hbr.trans (hb2.mono hzr)⟩ | ((repeat apply Exists.intro); exact ⟨⟨k + 1, by omega, by go_num, by rw [iQ, HTO.out, BE.out]; rfl, hbr.trans (hb2.mono hzr)⟩, rfl⟩)
    case measure => simp [intOf]; omega
   | false =>
    have F : Hid ((160 : Int) = res) := Lib.hid (by rw [← RES.out, if_pos (evsTo_false _ _ _ hlt BE.out)])
    go_wp2_with (go_at_call 52; refine ctr.out.mono ?_; rintro o w2 ⟨rfl, hb2⟩)
    go_step3
    refine ⟨rfl, HB1.out _ (hbr.trans (hb2.mono hzr)), ?_⟩
    rw [← F.out]
    repeat apply Exists.intro
    rfl
  ·have hke : k = evs.length := by omega
   have ET : Hid (evsTo evs (addrsTo evs) evs.length = true) := Lib.hid (by have := HTO.out; rw [hke] at this; exact this)
   have fctr : Hid (Calls Tryz.prog 53 #[.agg #[.slice ea evs.length ec, .slice fa fn fc, .slice oa on oc]] wr fun o w' => o = .returned (.bool (fromB evs from_)) ∧ Below wr.heap.size wr w') := Lib.hid (FC.out wr (HB1.out _ hbr))
   have octr : Hid (∀ W, Below wr.heap.size wr W → Calls Tryz.prog 54 #[.agg #[.slice ea evs.length ec, .slice fa fn fc, .slice oa on oc], .slice sa al sc] W fun o w' => o = .returned (.bool (orderB evs (addrsTo evs) rows)) ∧ Below W.heap.size W w') := Lib.hid (fun W hW => by
    have t := OC.out W ⟨sa, al, sc⟩ (HB1.out _ (hbr.trans (hW.mono hzr))) (by have t2 := (HI1.out.below (hbr.trans (hW.mono hzr))).mono (by have := hW.size; omega : w1.heap.size ≤ W.heap.size); rw [HAL.out] at t2; exact t2)
    exact t)
   clear hke
   obtain ⟨fb, hfb⟩ : ∃ bool_ : Bool, (fromB evs from_) = bool_ := ⟨_, rfl⟩
   have FB := Lib.hid hfb
   rw [hfb] at fctr
   clear hfb
   cases fb with
   | false =>
    have F : Hid ((161 : Int) = res) := Lib.hid (by rw [← RES.out, if_neg (by rw [ET.out]; simp), if_pos FB.out])
    go_wp2_with (go_at_call 53; refine fctr.out.mono ?_; rintro o w2 ⟨rfl, hb2⟩)
    go_step3
    refine ⟨rfl, HB1.out _ (hbr.trans (hb2.mono hzr)), ?_⟩
    rw [← F.out]
    repeat apply Exists.intro
    rfl
   | true =>
    obtain ⟨ob, hob⟩ : ∃ bool_ : Bool, (orderB evs (addrsTo evs) rows) = bool_ := ⟨_, rfl⟩
    have OB := Lib.hid hob
    rw [hob] at octr
    clear hob
    cases ob with
    | false =>
     have F : Hid ((162 : Int) = res) := Lib.hid (by rw [← RES.out, if_neg (by rw [ET.out]; simp), if_neg (by rw [FB.out]; simp), if_pos OB.out])
     go_wp2_with fail
     refine fctr.out.mono ?_; rintro o w2 ⟨rfl, hb2⟩
     have g0 : w2.cell? ⟨w.heap.size, 0, none⟩ = some (.slice ea evs.length ec) := (hb2.cell (p := ⟨w.heap.size, 0, none⟩) (by show w.heap.size < _; omega)).trans f0
     have g1 : w2.cell? ⟨w.heap.size, 1, none⟩ = some (.slice fa fn fc) := (hb2.cell (p := ⟨w.heap.size, 1, none⟩) (by show w.heap.size < _; omega)).trans f1
     have g2 : w2.cell? ⟨w.heap.size, 2, none⟩ = some (.slice oa on oc) := (hb2.cell (p := ⟨w.heap.size, 2, none⟩) (by show w.heap.size < _; omega)).trans f2
     have octr2 := Lib.hid (octr.out w2 hb2)
     go_wp2_with fail
     refine octr2.out.mono ?_; rintro o w3 ⟨rfl, hb3⟩
     go_wp2
     go_step3
     refine ⟨rfl, HB1.out _ ((hbr.trans (hb2.mono hzr)).trans (hb3.mono (by have := hb2.size; omega))), ?_⟩
     rw [← F.out]
     repeat apply Exists.intro
     rfl
    | true =>
     have F : Hid ((0 : Int) = res) := Lib.hid (by rw [← RES.out, if_neg (by rw [ET.out]; simp), if_neg (by rw [FB.out]; simp), if_neg (by rw [OB.out]; simp)])
     go_wp2_with fail
     refine fctr.out.mono ?_; rintro o w2 ⟨rfl, hb2⟩
     have g0 : w2.cell? ⟨w.heap.size, 0, none⟩ = some (.slice ea evs.length ec) := (hb2.cell (p := ⟨w.heap.size, 0, none⟩) (by show w.heap.size < _; omega)).trans f0
     have g1 : w2.cell? ⟨w.heap.size, 1, none⟩ = some (.slice fa fn fc) := (hb2.cell (p := ⟨w.heap.size, 1, none⟩) (by show w.heap.size < _; omega)).trans f1
     have g2 : w2.cell? ⟨w.heap.size, 2, none⟩ = some (.slice oa on oc) := (hb2.cell (p := ⟨w.heap.size, 2, none⟩) (by show w.heap.size < _; omega)).trans f2
     have octr2 := Lib.hid (octr.out w2 hb2)
     go_wp2_with fail
     refine octr2.out.mono ?_; rintro o w3 ⟨rfl, hb3⟩
     go_wp2
     simp only [Exit.jump]
     go_ret
     exact ⟨ret_num F.out, HB1.out _ ((hbr.trans (hb2.mono hzr)).trans (hb3.mono (by have := hb2.size; omega)))⟩
theorem check_c (x : Ex) (w : World) (hx : x.inW w.heap.size w) (hrows : ∀ r ∈ x.order, r.2.length ≤ 65536) :
  Calls Tryz.prog 35 #[x.agg] w fun o w' => o = .returned (.int .i64 (checkI x)) ∧ Below w.heap.size w w' := by
 by_cases h : 64 < x.evs.length
 ·refine (check_long_c x w hx h).mono ?_
  rintro o w' ⟨rfl, hb⟩
  exact ⟨by unfold checkI; rw [if_pos h], hb⟩
 ·exact check_short_c x w hx (by omega) hrows
end Go.Proofs.YtnkocjkkefnelaaGreat
