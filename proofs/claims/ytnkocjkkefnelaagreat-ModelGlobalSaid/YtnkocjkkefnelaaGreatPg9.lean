/- Parts. -/
import Derived.Shelf.SlSortCmp.WholeK
import Derived.Shelf.SlGeneric
import Derived.Ground.SlsfProg
import Derived.Test.YtnkocjkkefnelaaGreatProg
import Derived.RangeFuncNested
import Derived.Shelf.SlSortCmp.NoneTotal
import Derived.Test.YtnkocjkkefnelaaGreatPg8
set_option linter.unusedVariables false
set_option linter.unusedSimpArgs false
set_option maxHeartbeats 4000000
namespace Go.Proofs.YtnkocjkkefnelaaGreat
open Go.RowKit
def IntsIn (q : IntKind) (B : Nat) (w : World) (s : Sl) (xs : List Int) : Prop :=
 s.n = xs.length ∧ xs.length ≤ 1152921504606846976 ∧
 (xs = [] ∨ ∃ b off, s.a = some ⟨b, off, none⟩ ∧ b < B ∧ ∀ k, k < xs.length → w.cell? ⟨b, off + k, none⟩ = some (.int q (xs.getD k 0)))
theorem IntsIn.below {q : IntKind} {B : Nat} {w w' : World} {s : Sl} {xs : List Int} (h : IntsIn q B w s xs) (hb : Below B w w') : IntsIn q B w' s xs := by
 obtain ⟨h1, h2, h3⟩ := h
 refine ⟨h1, h2, ?_⟩
 rcases h3 with h3 | ⟨b, off, h4, h5, h6⟩
 ·exact Or.inl h3
 ·exact Or.inr ⟨b, off, h4, h5, fun k hk => by rw [hb.cell (by exact h5)]; exact h6 k hk⟩
theorem IntsIn.mono {q : IntKind} {B B' : Nat} {w : World} {s : Sl} {xs : List Int} (h : IntsIn q B w s xs) (hB : B ≤ B') : IntsIn q B' w s xs := by
 obtain ⟨h1, h2, h3⟩ := h
 refine ⟨h1, h2, ?_⟩
 rcases h3 with h3 | ⟨b, off, h4, h5, h6⟩
 ·exact Or.inl h3
 ·exact Or.inr ⟨b, off, h4, by omega, h6⟩
def Ev.wf (e : Ev) : Prop := (-9223372036854775808 ≤ e.hart ∧ e.hart ≤ 9223372036854775807) ∧ (-9223372036854775808 ≤ e.kind ∧ e.kind ≤ 9223372036854775807) ∧ (0 ≤ e.addr ∧ e.addr < 4294967296) ∧ (0 ≤ e.val ∧ e.val < 4294967296) ∧
 (0 ≤ e.rval ∧ e.rval < 4294967296) ∧ (-9223372036854775808 ≤ e.pred ∧ e.pred ≤ 9223372036854775807) ∧ (-9223372036854775808 ≤ e.succ ∧ e.succ ≤ 9223372036854775807)
def Ev.okIn (B : Nat) (w : World) (e : Ev) : Prop :=
 IntsIn .i64 B w e.av e.addrs ∧ IntsIn .i64 B w e.dv e.datas ∧ IntsIn .i64 B w e.cv e.ctrls ∧ e.wf
theorem Ev.okIn.below {B : Nat} {w w' : World} {e : Ev} (h : e.okIn B w) (hb : Below B w w') : e.okIn B w' := ⟨h.1.below hb, h.2.1.below hb, h.2.2.1.below hb, h.2.2.2⟩
theorem Ev.okIn.small {B : Nat} {w : World} {e : Ev} (h : e.okIn B w) : e.small := by
 obtain ⟨⟨a1, a2, _⟩, ⟨b1, b2, _⟩, ⟨c1, c2, _⟩, _⟩ := h
 exact ⟨by omega, by omega, by omega⟩
def EvCells (w : World) (b o : Nat) (e : Ev) : Prop := w.cell? ⟨b, o, none⟩ = some (Value.int IntKind.i64 e.hart) ∧ w.cell? ⟨b, o + 1, none⟩ = some (Value.int IntKind.i64 e.kind) ∧ w.cell? ⟨b, o + 2, none⟩ = some (Value.int IntKind.u32 e.addr) ∧ w.cell? ⟨b, o + 3, none⟩ = some (Value.int IntKind.u32 e.val) ∧ w.cell? ⟨b, o + 4, none⟩ = some (Value.int IntKind.u32 e.rval) ∧ w.cell? ⟨b, o + 5, none⟩ = some (Value.bool e.aq) ∧ w.cell? ⟨b, o + 6, none⟩ = some (Value.bool e.rl) ∧ w.cell? ⟨b, o + 7, none⟩ = some (Value.int IntKind.i64 e.pred) ∧ w.cell? ⟨b, o + 8, none⟩ = some (Value.int IntKind.i64 e.succ) ∧ w.cell? ⟨b, o + 9, none⟩ = some (Value.bool e.rsv) ∧ w.cell? ⟨b, o + 10, none⟩ = some (Value.slice e.av.a e.av.n e.av.c) ∧ w.cell? ⟨b, o + 11, none⟩ = some (Value.slice e.dv.a e.dv.n e.dv.c) ∧ w.cell? ⟨b, o + 12, none⟩ = some (Value.slice e.cv.a e.cv.n e.cv.c)
def EvsIn (B : Nat) (w : World) (s : Sl) (es : List Ev) : Prop :=
 s.n = es.length ∧ es.length ≤ 1152921504606846976 ∧ (∀ e ∈ es, e.okIn B w) ∧
 (es = [] ∨ ∃ b off, s.a = some ⟨b, off, none⟩ ∧ b < B ∧ ∀ k, k < es.length → EvCells w b (off + k * 13) (es.getD k default))
theorem EvCells.below {B : Nat} {w w' : World} {b o : Nat} {e : Ev} (h : EvCells w b o e) (hb : Below B w w') (hB : b < B) : EvCells w' b o e := by
 unfold EvCells at *
 simp only [show ∀ j, w'.cell? ⟨b, j, none⟩ = w.cell? ⟨b, j, none⟩ from fun j => hb.cell (p := ⟨b, j, none⟩) hB]
 exact h
theorem EvsIn.below {B : Nat} {w w' : World} {s : Sl} {es : List Ev} (h : EvsIn B w s es) (hb : Below B w w') : EvsIn B w' s es := by
 obtain ⟨h1, h2, h3, h4⟩ := h
 refine ⟨h1, h2, fun e he => (h3 e he).below hb, ?_⟩
 rcases h4 with h4 | ⟨b, off, h4, h5, h6⟩
 ·exact Or.inl h4
 ·exact Or.inr ⟨b, off, h4, h5, fun k hk => (h6 k hk).below hb h5⟩
theorem EvsIn.mono {B B' : Nat} {w : World} {s : Sl} {es : List Ev} (h : EvsIn B w s es) (hB : B ≤ B') : EvsIn B' w s es := by
 obtain ⟨h1, h2, h3, h4⟩ := h
 refine ⟨h1, h2, fun e he => ⟨(h3 e he).1.mono hB, (h3 e he).2.1.mono hB, (h3 e he).2.2.1.mono hB, (h3 e he).2.2.2⟩, ?_⟩
 rcases h4 with h4 | ⟨b, off, h4, h5, h6⟩
 ·exact Or.inl h4
 ·exact Or.inr ⟨b, off, h4, by omega, h6⟩
def RowsIn (B : Nat) (w : World) (s : Sl) (rows : List (Sl × List Int)) : Prop :=
 s.n = rows.length ∧ rows.length ≤ 1152921504606846976 ∧ (∀ r ∈ rows, IntsIn .i64 B w r.1 r.2) ∧
 (rows = [] ∨ ∃ b off, s.a = some ⟨b, off, none⟩ ∧ b < B ∧ ∀ k, k < rows.length → w.cell? ⟨b, off + k, none⟩ = some (rows.getD k default).1.v)
theorem RowsIn.below {B : Nat} {w w' : World} {s : Sl} {rows : List (Sl × List Int)} (h : RowsIn B w s rows) (hb : Below B w w') : RowsIn B w' s rows := by
 obtain ⟨h1, h2, h3, h4⟩ := h
 refine ⟨h1, h2, fun e he => (h3 e he).below hb, ?_⟩
 rcases h4 with h4 | ⟨b, off, h4, h5, h6⟩
 ·exact Or.inl h4
 ·exact Or.inr ⟨b, off, h4, h5, fun k hk => by rw [hb.cell (by exact h5)]; exact h6 k hk⟩
structure Ex where
 es : Sl
 fs : Sl
 os : Sl
 evs : List Ev
 from_ : List Int
 order : List (Sl × List Int)
 deriving Inhabited
def Ex.agg (x : Ex) : Value := .agg #[.slice x.es.a x.es.n x.es.c, .slice x.fs.a x.fs.n x.fs.c, .slice x.os.a x.os.n x.os.c]
def Ex.inW (B : Nat) (w : World) (x : Ex) : Prop := EvsIn B w x.es x.evs ∧ IntsIn .i64 B w x.fs x.from_ ∧ RowsIn B w x.os x.order
theorem Ex.inW.below {B : Nat} {w w' : World} {x : Ex} (h : x.inW B w) (hb : Below B w w') : x.inW B w' := ⟨h.1.below hb, h.2.1.below hb, h.2.2.below hb⟩
def depOk (es : List Ev) (n : Nat) (l : List Int) (i : Nat) : Bool :=
  !(decide (l.getD i 0 < 0)) && !(decide ((n : Int) ≤ l.getD i 0)) && !(decide (0 < i) && decide (l.getD i 0 ≤ l.getD (i - 1) 0)) &&
    !((es.getD (l.getD i 0).toNat default).hart != (es.getD n default).hart) && (es.getD (l.getD i 0).toNat default).ldB
def hangsTo (es : List Ev) (n : Nat) (l : List Int) (k : Nat) : Bool := (List.range k).all (depOk es n l)
def hangsB (es : List Ev) (n : Nat) (l : List Int) : Bool := hangsTo es n l l.length
theorem aH (es : List Ev) (n : Nat) (l : List Int) (k : Nat) : hangsTo es n l (k + 1) = (hangsTo es n l k && depOk es n l k) := by
 simp [hangsTo, List.range_succ]
theorem wG (es : List Ev) (n : Nat) (l : List Int) (k : Nat) (hk : k < l.length) (h : depOk es n l k = false) : hangsB es n l = false := by
 unfold hangsB hangsTo
 rw [List.all_eq_false]
 exact ⟨k, by simpa using hk, by simp [h]⟩
set_option maxRecDepth 100000 in
set_option maxHeartbeats 1000000 in
theorem hangs_c (x : Ex) (n : Nat) (s : Sl) (l : List Int) (w : World) (hx : EvsIn w.heap.size w x.es x.evs) (hl : IntsIn .i64 w.heap.size w s l) (hn : n < x.evs.length) :
  Calls Tryz.prog 77 #[x.agg, .int .i64 n, .slice s.a s.n s.c] w fun o w' => o = .returned (.bool (hangsB x.evs n l)) ∧ Below w.heap.size w w' := by
 obtain ⟨⟨ea, en, ec⟩, ⟨fa, fn, fc⟩, ⟨oa, on, oc⟩, evs, from_, order⟩ := x
 obtain ⟨la, ln, lc⟩ := s
 obtain ⟨h1, h2, h3, h4⟩ := hx
 obtain ⟨g1, g2, g3⟩ := hl
 dsimp only at h1 h2 h3 h4 g1 g2 g3 hn
 unfold Ex.agg
 dsimp only
 subst h1 g1
 have h4' : ∃ b off, ea = some ⟨b, off, none⟩ ∧ b < w.heap.size ∧ ∀ k, k < evs.length → EvCells w b (off + k * 13) (evs.getD k default) := by
  rcases h4 with h4 | h4
  ·subst h4; simp at hn
  ·exact h4
 obtain ⟨b, off, rfl, hbB, hcell⟩ := h4'
 clear h4
 obtain ⟨res, hres⟩ : ∃ x : Bool, hangsB evs n l = x := ⟨_, rfl⟩
 rw [hres]
 have RES := Lib.hid hres
 clear hres
 go_enter Tryz.func77, Tryz.ntmps77
 go_upto_region 0 with (fail)
 go_cut [0, 3] (fun s0 s3 wx => s3 = .pointer (some ⟨w.heap.size, 0, none⟩) ∧ Below w.heap.size w wx ∧ w.heap.size < wx.heap.size ∧ wx.cell? ⟨w.heap.size, 0, none⟩ = some (.slice (some ⟨b, off, none⟩) evs.length ec))
 case first =>
  go_wp2_with fail
  go_meet
  exact ⟨rfl, (Below.refl _ _).alloc (Nat.le_refl _) _, by simp, by simp⟩
 case rest =>
 obtain ⟨rfl, hb, hsz, c0⟩ := hcut
 have hw : ∀ b o, b < w.heap.size → wc.cell? ⟨b, o, none⟩ = w.cell? ⟨b, o, none⟩ := fun b o h => hb.cell (p := ⟨b, o, none⟩) h
 go_wp2
 go_loopw [11] (fun i wr => ∃ k : Nat, k ≤ l.length ∧ i = .int .i64 k ∧ hangsTo evs n l k = true ∧ Below wc.heap.size wc wr) (fun i _ => l.length - (intOf i).toNat)
 case atStart => exact ⟨0, by omega, rfl, rfl, Below.refl _ _⟩
 case round =>
  obtain ⟨k, hk, rfl, hto, hbr⟩ := hrel
  have HTO := Lib.hid hto
  clear hto
  by_cases hlt : k < l.length
  ·have hl' : ∃ lb lo, la = some ⟨lb, lo, none⟩ ∧ lb < w.heap.size ∧ ∀ k, k < l.length → w.cell? ⟨lb, lo + k, none⟩ = some (.int .i64 (l.getD k 0)) := by
    rcases g3 with g3 | g3
    ·subst g3; simp at hlt
    ·exact g3
   obtain ⟨lb, lo, rfl, hlB, hlc⟩ := hl'
   have hwr : ∀ b o, b < w.heap.size → wr.cell? ⟨b, o, none⟩ = w.cell? ⟨b, o, none⟩ := fun b o h => (hbr.cell (p := ⟨b, o, none⟩) (by show b < _; omega)).trans (hw b o h)
   have c0r : wr.cell? ⟨w.heap.size, 0, none⟩ = some (.slice (some ⟨b, off, none⟩) evs.length ec) := (hbr.cell (p := ⟨w.heap.size, 0, none⟩) hsz).trans c0
   obtain ⟨d, hd⟩ : ∃ d, l.getD k 0 = d := ⟨_, rfl⟩
   have ck : wr.cell? ⟨lb, lo + k, none⟩ = some (.int .i64 d) := by rw [hwr _ _ hlB, hlc k hlt, hd]
   have HD := Lib.hid hd
   have HW := Lib.hid hw
   have HC := Lib.hid hcell
   have HLC := Lib.hid hlc
   have HWR := Lib.hid hwr
   clear hw hcell hlc hwr hd g3
   have c0o : ∀ p, (vL wr p).cell? ⟨w.heap.size, 0, none⟩ = some (.slice (some ⟨b, off, none⟩) evs.length ec) := fun p => uN wr p (by have := hbr.size; omega) c0r
   by_cases hd0 : d < 0
   ·have F : Hid (res = false) := Lib.hid (by rw [← RES.out]; exact wG _ _ _ _ hlt (by unfold depOk; rw [HD.out]; simp [hd0]))
    go_wp2
    refine uP (by kernel_rfl) (by kernel_rfl) ?_
    repeat (go_big_quiet_step (fail))
    refine wpQuiet_nil ?_
    intro wq hwq
    obtain ⟨pq, hwq2⟩ := hwq
    have hbq : Below wr.heap.size wr wq := by rw [hwq2]; exact vD wr pq
    clear hwq2
    go_wp2
    go_ret
    exact ⟨uW F.out.symm, hb.trans ((hbr.trans (hbq.mono hbr.size)).mono (by omega))⟩
   have b1 : decide (d < 0) = false := by simpa using hd0
   by_cases hdn : (n : Int) ≤ d
   ·have F : Hid (res = false) := Lib.hid (by rw [← RES.out]; exact wG _ _ _ _ hlt (by unfold depOk; rw [HD.out]; simp [hdn]))
    go_wp2
    refine uP (by kernel_rfl) (by kernel_rfl) ?_
    repeat (go_big_quiet_step (fail))
    refine wpQuiet_nil ?_
    intro wq hwq
    obtain ⟨pq, hwq2⟩ := hwq
    have hbq : Below wr.heap.size wr wq := by rw [hwq2]; exact vD wr pq
    clear hwq2
    go_wp2
    go_ret
    exact ⟨uW F.out.symm, hb.trans ((hbr.trans (hbq.mono hbr.size)).mono (by omega))⟩
   have b2 : decide ((n : Int) ≤ d) = false := by simpa using hdn
   obtain ⟨dn, rfl⟩ : ∃ dn : Nat, d = dn := ⟨d.toNat, by omega⟩
   have hdlt : dn < evs.length := by omega
   have b3 : decide (n ≤ dn) = false := by simp; omega
   have b4 : decide ((dn : Int) < 0) = false := by simp
   obtain ⟨E, hE⟩ : ∃ E, evs.getD dn default = E := ⟨_, rfl⟩
   obtain ⟨N, hN⟩ : ∃ N, evs.getD n default = N := ⟨_, rfl⟩
   have eD := (((HC.out dn hdlt).below hb hbB).below hbr (show b < wc.heap.size by omega))
   rw [hE] at eD
   have eN := (((HC.out n hn).below hb hbB).below hbr (show b < wc.heap.size by omega)).1
   rw [hN] at eN
   have hbs : b < wr.heap.size := by have := hbr.size; omega
   have oD : ∀ p, EvCells (vL wr p) b (off + dn * 13) E := fun p => eD.below (vD wr p) hbs
   have o2 : ∀ p, (vL wr p).cell? ⟨b, off + n * 13, none⟩ = some (.int .i64 N.hart) := fun p => uN wr p hbs eN
   clear eD eN
   unfold EvCells at oD
   have o1 : ∀ p, (vL wr p).cell? ⟨b, off + dn * 13, none⟩ = some (.int .i64 E.hart) := fun p => (oD p).1
   have p1 := fun p => (oD p).2.1
   have p2 := fun p => (oD p).2.2.1
   have p3 := fun p => (oD p).2.2.2.1
   have p4 := fun p => (oD p).2.2.2.2.1
   have p5 := fun p => (oD p).2.2.2.2.2.1
   have p6 := fun p => (oD p).2.2.2.2.2.2.1
   have p7 := fun p => (oD p).2.2.2.2.2.2.2.1
   have p8 := fun p => (oD p).2.2.2.2.2.2.2.2.1
   have p9 := fun p => (oD p).2.2.2.2.2.2.2.2.2.1
   have p10 := fun p => (oD p).2.2.2.2.2.2.2.2.2.2.1
   have p11 := fun p => (oD p).2.2.2.2.2.2.2.2.2.2.2.1
   have p12 := fun p => (oD p).2.2.2.2.2.2.2.2.2.2.2.2
   clear oD
   have HE := Lib.hid hE
   have HN := Lib.hid hN
   clear hE hN
   by_cases hk0 : 0 < k
   ·have ckp : ∀ p, (vL wr p).cell? ⟨lb, lo + (k - 1), none⟩ = some (.int .i64 (l.getD (k - 1) 0)) := fun p => uN wr p (by have := hbr.size; omega) (by rw [HWR.out _ _ hlB, HLC.out (k - 1) (by omega)])
    obtain ⟨pv, hpv⟩ : ∃ pv, l.getD (k - 1) 0 = pv := ⟨_, rfl⟩
    rw [hpv] at ckp
    have HPV := Lib.hid hpv
    clear hpv
    by_cases hge : (dn : Int) ≤ pv
    ·have F : Hid (res = false) := Lib.hid (by rw [← RES.out]; exact wG _ _ _ _ hlt (by unfold depOk; rw [HD.out, HPV.out]; simp [hk0, hge]))
     go_wp2
     refine uP (by kernel_rfl) (by kernel_rfl) ?_
     repeat (go_big_quiet_step (fail))
     refine wpQuiet_nil ?_
     intro wq hwq
     obtain ⟨pq, hwq2⟩ := hwq
     have hbq : Below wr.heap.size wr wq := by rw [hwq2]; exact vD wr pq
     clear hwq2
     go_wp2
     go_ret
     exact ⟨uW F.out.symm, hb.trans ((hbr.trans (hbq.mono hbr.size)).mono (by omega))⟩
    have b5 : decide ((dn : Int) ≤ pv) = false := by simpa using hge
    by_cases hh : (E.hart != N.hart) = true
    ·have F : Hid (res = false) := Lib.hid (by rw [← RES.out]; exact wG _ _ _ _ hlt (by unfold depOk; rw [HD.out, HPV.out, Int.toNat_natCast, HE.out, HN.out, hh]; simp))
     go_wp2
     refine uP (by kernel_rfl) (by kernel_rfl) ?_
     repeat (go_big_quiet_step (fail))
     refine wpQuiet_nil ?_
     intro wq hwq
     obtain ⟨pq, hwq2⟩ := hwq
     have hbq : Below wr.heap.size wr wq := by rw [hwq2]; exact vD wr pq
     clear hwq2
     go_wp2
     go_ret
     exact ⟨uW F.out.symm, hb.trans ((hbr.trans (hbq.mono hbr.size)).mono (by omega))⟩
    have hh' : (E.hart != N.hart) = false := by simpa using hh
    clear hh
    have LD := Lib.hid (fun w => iA E w)
    by_cases hL : E.ldB = true
    ·have D : Hid (depOk evs n l k = true) := Lib.hid (by unfold depOk; rw [HD.out, HPV.out, Int.toNat_natCast, HE.out, HN.out, hh', hL]; simp; omega)
     have LL := Lib.hid hL
     clear hL
     go_wp2
     refine uP (by kernel_rfl) (by kernel_rfl) ?_
     repeat (go_big_quiet_step (((go_at_call 78; refine vM (?_ : Calls _ _ _ _ fun e w' => e = .returned (.bool true) ∧ _); have t := LD.out; rw [LL.out] at t; exact t _))))
     refine wpQuiet_nil ?_
     intro wq hwq
     obtain ⟨pq, hwq2⟩ := hwq
     have hbq : Below wr.heap.size wr wq := by rw [hwq2]; exact vD wr pq
     clear hwq2
     go_wp2
     go_roundw
     case rel => exact ⟨k + 1, by omega, by go_num, by rw [aH, HTO.out, D.out]; rfl, hbr.trans (hbq.mono hbr.size)⟩
     case measure => simp [intOf]; omega
    ·have hL' : E.ldB = false := by simpa using hL
     have F : Hid (res = false) := Lib.hid (by rw [← RES.out]; exact wG _ _ _ _ hlt (by unfold depOk; rw [HD.out, HPV.out, Int.toNat_natCast, HE.out, HN.out, hL']; simp))
     have LL := Lib.hid hL'
     clear hL hL'
     go_wp2
     refine uP (by kernel_rfl) (by kernel_rfl) ?_
     repeat (go_big_quiet_step (((go_at_call 78; refine vM (?_ : Calls _ _ _ _ fun e w' => e = .returned (.bool false) ∧ _); have t := LD.out; rw [LL.out] at t; exact t _))))
     refine wpQuiet_nil ?_
     intro wq hwq
     obtain ⟨pq, hwq2⟩ := hwq
     have hbq : Below wr.heap.size wr wq := by rw [hwq2]; exact vD wr pq
     clear hwq2
     go_wp2
     go_ret
     exact ⟨uW F.out.symm, hb.trans ((hbr.trans (hbq.mono hbr.size)).mono (by omega))⟩
   ·have hkz : ¬ (0 < k) := hk0
    by_cases hh : (E.hart != N.hart) = true
    ·have F : Hid (res = false) := Lib.hid (by rw [← RES.out]; exact wG _ _ _ _ hlt (by unfold depOk; rw [HD.out, Int.toNat_natCast, HE.out, HN.out, hh]; simp))
     go_wp2
     refine uP (by kernel_rfl) (by kernel_rfl) ?_
     repeat (go_big_quiet_step (fail))
     refine wpQuiet_nil ?_
     intro wq hwq
     obtain ⟨pq, hwq2⟩ := hwq
     have hbq : Below wr.heap.size wr wq := by rw [hwq2]; exact vD wr pq
     clear hwq2
     go_wp2
     go_ret
     exact ⟨uW F.out.symm, hb.trans ((hbr.trans (hbq.mono hbr.size)).mono (by omega))⟩
    have hh' : (E.hart != N.hart) = false := by simpa using hh
    clear hh
    have LD := Lib.hid (fun w => iA E w)
    by_cases hL : E.ldB = true
    ·have D : Hid (depOk evs n l k = true) := Lib.hid (by unfold depOk; rw [HD.out, Int.toNat_natCast, HE.out, HN.out, hh', hL]; simp [hkz]; omega)
     have LL := Lib.hid hL
     clear hL
     go_wp2
     refine uP (by kernel_rfl) (by kernel_rfl) ?_
     repeat (go_big_quiet_step (((go_at_call 78; refine vM (?_ : Calls _ _ _ _ fun e w' => e = .returned (.bool true) ∧ _); have t := LD.out; rw [LL.out] at t; exact t _))))
     refine wpQuiet_nil ?_
     intro wq hwq
     obtain ⟨pq, hwq2⟩ := hwq
     have hbq : Below wr.heap.size wr wq := by rw [hwq2]; exact vD wr pq
     clear hwq2
     go_wp2
     go_roundw
     case rel => exact ⟨k + 1, by omega, by go_num, by rw [aH, HTO.out, D.out]; rfl, hbr.trans (hbq.mono hbr.size)⟩
     case measure => simp [intOf]; omega
    ·have hL' : E.ldB = false := by simpa using hL
     have F : Hid (res = false) := Lib.hid (by rw [← RES.out]; exact wG _ _ _ _ hlt (by unfold depOk; rw [HD.out, Int.toNat_natCast, HE.out, HN.out, hL']; simp))
     have LL := Lib.hid hL'
     clear hL hL'
     go_wp2
     refine uP (by kernel_rfl) (by kernel_rfl) ?_
     repeat (go_big_quiet_step (((go_at_call 78; refine vM (?_ : Calls _ _ _ _ fun e w' => e = .returned (.bool false) ∧ _); have t := LD.out; rw [LL.out] at t; exact t _))))
     refine wpQuiet_nil ?_
     intro wq hwq
     obtain ⟨pq, hwq2⟩ := hwq
     have hbq : Below wr.heap.size wr wq := by rw [hwq2]; exact vD wr pq
     clear hwq2
     go_wp2
     go_ret
     exact ⟨uW F.out.symm, hb.trans ((hbr.trans (hbq.mono hbr.size)).mono (by omega))⟩
  ·have hke : k = l.length := by omega
   have F : Hid (res = true) := Lib.hid (by rw [← RES.out]; unfold hangsB; rw [← hke]; exact HTO.out)
   clear hke
   go_wp2
   go_ret
   exact ⟨uW F.out.symm, hb.trans (hbr.mono (by omega))⟩
end Go.Proofs.YtnkocjkkefnelaaGreat
namespace Go.Proofs
open Go.Shelf
def Tryz.sortPairs_ren : Go.Shelf.Ren := ⟨fun | 6 => 95 | 15 => 101 | 14 => 112 | 28 => 122 | 29 => 123 | 20 => 149 | 21 => 150 | 22 => 151 | 23 => 152 | 24 => 153 | 25 => 154 | 26 => 155 | 27 => 156 | 46 => 173 | 47 => 158 | 48 => 159 | 49 => 174 | 50 => 175 | 57 => 182 | n => n, fun | 22 => 51 | 24 => 73 | 25 => 98 | 3 => 3 | 39 => 125 | 0 => 0 | 53 => 38 | 55 => 142 | 4 => 4 | 46 => 135 | 45 => 134 | 50 => 89 | 5 => 5 | 9 => 9 | 66 => 153 | 70 => 157 | 76 => 170 | 77 => 171 | n => n, fun | n => n⟩
theorem Tryz.sortPairs : Go.Proofs.SlLaysF0.n6 Tryz.prog Tryz.sortPairs_ren := {
 mixed := by kernel_rfl
 f6 := ⟨Tryz.f95.name, by decide, Tryz.func95.trans (congrArg some (by kernel_rfl))⟩
 f14 := ⟨Tryz.f112.name, by decide, Tryz.func112.trans (congrArg some (by kernel_rfl))⟩
 f15 := Tryz.func101.trans (congrArg some (by kernel_rfl))
 f20 := ⟨Tryz.f149.name, by decide, Tryz.func149.trans (congrArg some (by kernel_rfl))⟩
 f21 := ⟨Tryz.f150.name, by decide, Tryz.func150.trans (congrArg some (by kernel_rfl))⟩
 f22 := ⟨Tryz.f151.name, by decide, Tryz.func151.trans (congrArg some (by kernel_rfl))⟩
 f23 := ⟨Tryz.f152.name, by decide, Tryz.func152.trans (congrArg some (by kernel_rfl))⟩
 f24 := ⟨Tryz.f153.name, by decide, Tryz.func153.trans (congrArg some (by kernel_rfl))⟩
 f25 := ⟨Tryz.f154.name, by decide, Tryz.func154.trans (congrArg some (by kernel_rfl))⟩
 f26 := ⟨Tryz.f155.name, by decide, Tryz.func155.trans (congrArg some (by kernel_rfl))⟩
 f27 := ⟨Tryz.f156.name, by decide, Tryz.func156.trans (congrArg some (by kernel_rfl))⟩
 f28 := Tryz.func122.trans (congrArg some (by kernel_rfl))
 f29 := Tryz.func123.trans (congrArg some (by kernel_rfl))
 f46 := ⟨Tryz.f173.name, by decide, Tryz.func173.trans (congrArg some (by kernel_rfl))⟩
 f47 := Tryz.func158.trans (congrArg some (by kernel_rfl))
 f48 := Tryz.func159.trans (congrArg some (by kernel_rfl))
 f49 := ⟨Tryz.f174.name, by decide, Tryz.func174.trans (congrArg some (by kernel_rfl))⟩
 f50 := ⟨Tryz.f175.name, by decide, Tryz.func175.trans (congrArg some (by kernel_rfl))⟩
 f57 := ⟨Tryz.f182.name, by decide, Tryz.func182.trans (congrArg some (by kernel_rfl))⟩
 t0 := Tryz.underlying0
 a0 := Tryz.isAgg0
 z0 := Tryz.sizeOf0
 v0 := Tryz.zeroValue0
 t3 := Tryz.underlying3
 a3 := Tryz.isAgg3
 z3 := Tryz.sizeOf3
 v3 := Tryz.zeroValue3
 t4 := Tryz.underlying4
 a4 := Tryz.isAgg4
 z4 := Tryz.sizeOf4
 v4 := Tryz.zeroValue4
 t5 := Tryz.underlying5
 a5 := Tryz.isAgg5
 z5 := Tryz.sizeOf5
 v5 := Tryz.zeroValue5
 t9 := Tryz.underlying9
 a9 := Tryz.isAgg9
 z9 := Tryz.sizeOf9
 v9 := Tryz.zeroValue9
 t22 := Tryz.underlying51
 a22 := Tryz.isAgg51
 z22 := Tryz.sizeOf51
 v22 := Tryz.zeroValue51
 t25 := Tryz.underlying98
 a25 := Tryz.isAgg98
 z25 := Tryz.sizeOf98
 v25 := Tryz.zeroValue98
 t39 := Tryz.underlying125
 a39 := Tryz.isAgg125
 z39 := Tryz.sizeOf125
 v39 := Tryz.zeroValue125
 t45 := Tryz.underlying134
 a45 := Tryz.isAgg134
 z45 := Tryz.sizeOf134
 v45 := Tryz.zeroValue134
 t46 := Tryz.underlying135
 a46 := Tryz.isAgg135
 z46 := Tryz.sizeOf135
 v46 := Tryz.zeroValue135
 t50 := Tryz.underlying89
 a50 := Tryz.isAgg89
 z50 := Tryz.sizeOf89
 v50 := Tryz.zeroValue89
 t53 := Tryz.underlying38
 a53 := Tryz.isAgg38
 z53 := Tryz.sizeOf38
 v53 := Tryz.zeroValue38
 t55 := Tryz.underlying142
 a55 := Tryz.isAgg142
 z55 := Tryz.sizeOf142
 v55 := Tryz.zeroValue142
 t66 := Tryz.underlying153
 a66 := Tryz.isAgg153
 z66 := Tryz.sizeOf153
 v66 := Tryz.zeroValue153
 t70 := Tryz.underlying157
 a70 := Tryz.isAgg157
 z70 := Tryz.sizeOf157
 v70 := Tryz.zeroValue157
 t76 := Tryz.underlying170
 a76 := Tryz.isAgg170
 z76 := Tryz.sizeOf170
 v76 := Tryz.zeroValue170
 t77 := Tryz.underlying171
 a77 := Tryz.isAgg171
 z77 := Tryz.sizeOf171
 v77 := Tryz.zeroValue171 }
end Go.Proofs
namespace Go.Proofs.YtnkocjkkefnelaaGreat
open Go.RowKit Go.Shelf Go.Maps Go.Sort
abbrev P2 := Fin 65536 × Fin 65536
def encP (x : P2) : List Value := [.int .i64 (x.1.val : Int), .int .i64 (x.2.val : Int)]
def aggP (x : P2) : Value := .agg #[.int .i64 (x.1.val : Int), .int .i64 (x.2.val : Int)]
def cmpP (x y : P2) : Int := if x.1.val = y.1.val then (x.2.val : Int) - (y.2.val : Int) else (x.1.val : Int) - (y.1.val : Int)
def ltP (x y : P2) : Bool := decide (x.1.val < y.1.val ∨ (x.1.val = y.1.val ∧ x.2.val < y.2.val))
theorem yU (x y : P2) : ltOf cmpP x y = ltP x y := by
 unfold ltOf ltP cmpP
 by_cases h : x.1.val = y.1.val
 ·rw [if_pos h]
  refine decide_eq_decide.2 ?_
  omega
 ·rw [if_neg h]
  refine decide_eq_decide.2 ?_
  omega
theorem swoP : SWO (ltOf cmpP) where
 irrefl x := by rw [yU]; simp [ltP]
 trans x y z h1 h2 := by rw [yU] at *; simp only [ltP, decide_eq_true_eq] at *; omega
 ntrans x y z h1 h2 := by rw [yU] at *; simp only [ltP, decide_eq_false_iff_not] at *; omega
set_option maxHeartbeats 1000000 in
theorem cmpP_c (x y : P2) (W : World) : Calls Tryz.prog 106 #[aggP x, aggP y] W fun e w' => e = .returned (.int .i64 (cmpP x y)) ∧ ∃ q os', w' = grow (W.drewN q) os' := by
 obtain ⟨⟨a, ha⟩, ⟨b, hb⟩⟩ := x
 obtain ⟨⟨c, hc⟩, ⟨d, hd⟩⟩ := y
 unfold aggP cmpP
 dsimp only
 by_cases h : a = c
 ·rw [if_pos h]
  subst h
  have h1 : ((a : Int) != (a : Int)) = false := by simp
  go_enter Tryz.func106, Tryz.ntmps106
  go_wp2
  go_ret
  exact ⟨rfl, 0, _, by rw [alloc_eq_grow, alloc_eq_grow, grow_grow]; rfl⟩
 ·rw [if_neg h]
  have h1 : ((a : Int) != (c : Int)) = true := by simp; omega
  have h2 : (a != c) = true := by simpa using h
  clear h
  go_enter Tryz.func106, Tryz.ntmps106
  go_wp2
  go_ret
  exact ⟨rfl, 0, _, by rw [alloc_eq_grow, alloc_eq_grow, grow_grow]; rfl⟩
theorem cmpLaysP (blk off size : Nat) (w : World) : CmpLays Tryz.prog 106 #[] encP 2 cmpP blk off size w :=
 fun _ _ _ _ x y => cmpP_c x y _
theorem sortPairs_c (blk off cap : Nat) (d : Array P2) (w : World) (hH : HoldsK encP 2 w blk off d) (hblk : blk < w.heap.size) (hsz : d.size < 4611686018427387904) :
  Calls Tryz.prog 95 #[.slice (some ⟨blk, off, none⟩) d.size cap, .func (.func 106) #[] #[]] w fun e w' => e = .returned (.tuple #[]) ∧ ∃ d' n os, PermIn 0 d.size d d' ∧ SortedIn ltP 0 d.size d' ∧ w' = sortWorldK encP 2 w blk off n d' os := by
 have h := AnyQ.slices_SortFunc Tryz.sortPairs 2 Tryz.isAgg73 Tryz.sizeOf73 encP (fun _ => rfl) (fun x v hv => by simp [encP] at hv; rcases hv with rfl | rfl <;> rfl) cmpP swoP 106 #[] blk off cap d w (enters_of Tryz.func106 (by kernel_rfl) rfl) (cmpLaysP blk off d.size w) hH hblk hsz
 refine Calls.mono h ?_
 rintro e w' ⟨he, d', n, os, hp, hs, hw⟩
 exact ⟨he, d', n, os, hp, fun i j h1 h2 h3 => by rw [← yU]; exact hs i j h1 h2 h3, hw⟩
theorem aZ (p : Option Addr) (cap : Nat) (fv : Value) (w : World) :
  Calls Tryz.prog 95 #[.slice p 0 cap, fv] w fun e w' => e = .returned (.tuple #[]) ∧ w' = w := AnyF.slices_SortFunc_none Tryz.sortPairs p cap fv w
open Go.RowKit Go.Shelf Go.Maps Go.Sort
def flatP (l : List P2) : List Value := l.flatMap encP
theorem flatP_snoc (l : List P2) (x : P2) : flatP (l ++ [x]) = flatP l ++ [.int .i64 (x.1.val : Int), .int .i64 (x.2.val : Int)] := by
 simp [flatP, encP, List.flatMap_append]
theorem eL (l : List P2) : (flatP l).length = l.length * 2 := by
 unfold flatP
 induction l with
 | nil => rfl
 | cons x r ih => simp [encP, ih]; omega
theorem rY : (Tryz.prog.info? 73).map (fun i => (i.zero, i.size, i.bytes)) = some (some (.agg #[.int .i64 0, .int .i64 0]), 2, 16) := by kernel_rfl
theorem cell_two_at {W : World} {p : Nat} {u v : Value} {t : TypeId} (h : W.heap[p]? = some (.cells #[u, v] t (0, 0))) : W.cell? ⟨p, 0, none⟩ = some u ∧ W.cell? ⟨p, 1, none⟩ = some v := by
 constructor <;> simp [World.cell?, h]
theorem cell_two_new' (W : World) (u v : Value) (t : TypeId) : ∀ j x, [u, v][j]? = some x → (W.alloc (.cells #[u, v] t)).cell? ((⟨W.heap.size, 0, none⟩ : Addr).add j) = some x := by
 intro j x h
 match j, h with
 | 0, h => simp at h; subst h; simp [Addr.add]
 | 1, h => simp at h; subst h; simp [Addr.add]
set_option maxRecDepth 100000 in
set_option maxHeartbeats 2000000 in
theorem append_p (F : Fence) (hF : ∀ f, F.fn f) (n : Nat) (hro : F.round = none) (hn : 2 ≤ n) (g : Nat) (lb : Array Value) (eg : ∀ args w, (callFunc g args).run Tryz.prog w = .ok (.enter g args) w)
  (Kp : World → World → Prop) (S Sp : List P2 → Prop) (N : Nat) (hN : N ≤ 4294967296) (w : World)
  (hKt : ∀ {A B C : World}, Kp A B → Kp B C → Kp A C) (hKb : ∀ (W : World) (l : Nat) (o o' : Obj), w.heap.size ≤ l → W.heap[l]? = some o → o.isCells = false → o.isWalk = false → Kp W (W.putObj l o'))
  (hKo : ∀ W W', KeepsOthers W W' → Below w.heap.size W W' → Kp W W')
  (hseq : SeqStopsK F (n - 1) Tryz.prog g lb (fun x : P2 => #[.agg #[.int .i64 (x.1.val : Int), .int .i64 (x.2.val : Int)]]) Kp S Sp N w) :
  CallsIn F n Tryz.prog 111 #[.slice none 0 0, .func (.func g) #[] lb] w fun e w' => ∃ (v : Value) (ss : List P2), e = .returned v ∧ S ss ∧ ss.length ≤ N ∧ w'.ownsRow w.heap.size 73 2 v ss.length (flatP ss) ∧ (v = .slice none 0 0 ↔ ss = []) ∧ Below w.heap.size w w' := by
 have h1 : 1 ≤ n := by omega
 obtain ⟨i0, hi, jz0, jz1, jz2⟩ := info_parts rY
 refine callsIn_of_wp_marks Tryz.func111 rfl (hF _) ?_ hro
 simp only [Tryz.ntmps111, List.size_toArray, List.length_cons, List.length_nil, Nat.reduceAdd, Nat.reduceSub, Array.replicate_succ, Array.replicate_zero, List.push_toArray, List.append_toArray, List.nil_append, List.cons_append]
 gi_wp2
 have bO := Boxed.new w 51 (.slice none 0 0)
 have hB0 : Below w.heap.size w (w.alloc (.cells #[.slice none 0 0] 51)) := (Below.refl _ w).alloc (Nat.le_refl _) _
 refine wpIn_rangeFunc_ownH hro h1 (gf := g) (lb := lb) rfl (hF _) eg (N := N) hseq hKt (fun W l o o' hl h1 h2 h3 => hKb W l o o' (by simp at hl; omega) h1 h2 h3) hB0 (fun _ => rfl)
  (fun pre W => ((∃ v, Boxed W w.heap.size 51 v ∧ W.ownsRow w.heap.size 73 2 v pre.length (flatP pre) ∧ (v = .slice none 0 0 ↔ pre = [])) ∧ Below w.heap.size w W) ∧ pre.length ≤ N)
  (fun _ _ _ => False)
  (OwnFrom.and (OwnFrom.and (Own.from (holdsRow_own w.heap.size w.heap.size 51 73 2 (fun pre : List P2 => pre.length) (fun pre => flatP pre) (fun pre v => v = .slice none 0 0 ↔ pre = [])) _) (ownFrom_below (Nat.le_refl _) (by simp))) (fun _ _ _ _ hs _ _ => hs))
  (fun _ _ _ _ _ hs _ _ => hs)
  ⟨⟨⟨_, bO, World.ownsRow_nil _ _ _ _, by simp⟩, hB0⟩, by simp⟩
  (fun x a' W => ∃ p, w.heap.size ≤ p ∧ W.heap[p]? = some (.cells #[.int .i64 (x.1.val : Int), .int .i64 (x.2.val : Int)] 73 (0, 0)) ∧ a' = { tmps := #[.slice none 0 0, .func (.func g) #[] lb, .pointer (some ⟨w.heap.size, 0, none⟩), undef, .slice none 0 0, .pointer (some ⟨p, 0, none⟩), .func (.func g) #[] lb, .agg #[.int .i64 (x.1.val : Int), .int .i64 (x.2.val : Int)], undef, undef, undef, undef, undef], defers := [] }) ?hAx ?assign ?body ?done ?stop
 case hAx =>
  rintro x a' _ W W' row ⟨p, hp, hpc, he⟩ hg hr
  refine ⟨p, hp, (hg.block p (Array.getElem?_eq_some_iff.1 hpc).1 ?_).trans hpc, he⟩
  intro e
  obtain ⟨_, o, ho, hc⟩ := hr p e.symm
  rw [hpc] at ho; cases ho; cases hc
 case assign =>
  intro l pre x W K hI hK
  gi_wp2_with (rw [Oper.semAt_eq _ _ _ (fun c h => by cases h)]; go_simp; try go_bits)
  obtain ⟨⟨⟨v, hv, hrow, hnil⟩, hB⟩, hl⟩ := hI
  refine hK _ _ ((KeepsOthers.alloc _ _).from _) (hKo _ _ (KeepsOthers.alloc _ _) ((Below.refl _ _).alloc hB.size _)) ⟨⟨⟨v, hv.alloc _, hrow.alloc _, hnil⟩, hB.alloc hB.size _⟩, hl⟩ ⟨W.heap.size, hB.size, World.alloc_heap_new W _, rfl⟩
 case body =>
  rintro l pre x a' W hl9 hr9 ⟨⟨⟨v, hv, hrow, hnil⟩, hB⟩, _⟩ ⟨p, hp, hpc, rfl⟩ hlt
  have hc := hv.cell
  obtain ⟨hp0, hp1⟩ := cell_two_at hpc
  gi_wp2_with (first | (gi_at_builtin; refine wpListIn_append_own _ rfl _ _ 51 rfl w.heap.size 73 i0 (.agg #[.int .i64 0, .int .i64 0]) 2 16 Tryz.underlying51 hi jz0 jz1 jz2 rfl (by decide) _ _ _ rfl (hrow.alloc _) ⟨W.heap.size, 0, none⟩ 1 1 [.int .i64 (x.1.val : Int), .int .i64 (x.2.val : Int)] rfl rfl (cell_two_new' _ _ _ _) (by simp [Value.oneCell']) (by unfold maxLen; omega) (by omega) (by have := hB.size; simp; omega) ?_; intro v' w1 hown' hgrow _; obtain ⟨g', cap', rfl⟩ := ownsRow_succ hown'; obtain ⟨hv1, hv2, hr2, hk2, hb2⟩ := hv.appended (by decide) hrow hB.size (Nat.le_refl _) hown' hgrow; have hc1 := hv1.cell; have hf1 := hv1.frozen; go_frame) | (rw [Oper.semAt_eq _ _ _ (fun c h => by cases h)]; go_simp; try go_bits))
  exact ⟨hk2.from _, hKo _ _ hk2 hb2, ⟨⟨_, hv2, by rw [flatP_snoc]; simpa using hr2, by simp⟩, hB.trans hb2⟩, by simp; omega⟩
 case done =>
  rintro D ys W hD hS ⟨⟨⟨v, hv, hrow, hnil⟩, hB⟩, hlen⟩ hK
  have hc := hv.cell
  gi_wp2
  refine ⟨by simp, .inl ⟨_, _, rfl, run_takeDeferred hK, ?_⟩⟩
  exact ⟨_, results_tmp rfl _ _ _, v, ys, rfl, hS, hlen, ownsRow_putObj hrow _ hK rfl, hnil, hB.trans (belowK_b (w := w) (Nat.le_refl _) W D _ _ (by simp at hD; omega) hK rfl rfl)⟩
 case stop =>
  rintro D c pre W _ _ h _
  exact h.elim
set_option maxHeartbeats 1000000 in
theorem collect_p (F : Fence) (hF : ∀ f, F.fn f) (n : Nat) (hro : F.round = none) (hn : 3 ≤ n) (g : Nat) (lb : Array Value) (eg : ∀ args w, (callFunc g args).run Tryz.prog w = .ok (.enter g args) w)
  (Kp : World → World → Prop) (S Sp : List P2 → Prop) (N : Nat) (hN : N ≤ 4294967296) (w : World)
  (hKt : ∀ {A B C : World}, Kp A B → Kp B C → Kp A C) (hKb : ∀ (W : World) (l : Nat) (o o' : Obj), w.heap.size ≤ l → W.heap[l]? = some o → o.isCells = false → o.isWalk = false → Kp W (W.putObj l o'))
  (hKo : ∀ W W', KeepsOthers W W' → Below w.heap.size W W' → Kp W W')
  (hseq : SeqStopsK F (n - 1 - 1) Tryz.prog g lb (fun x : P2 => #[.agg #[.int .i64 (x.1.val : Int), .int .i64 (x.2.val : Int)]]) Kp S Sp N w) :
  CallsIn F n Tryz.prog 94 #[.func (.func g) #[] lb] w fun e w' => ∃ (v : Value) (ss : List P2), e = .returned v ∧ S ss ∧ ss.length ≤ N ∧ w'.ownsRow w.heap.size 73 2 v ss.length (flatP ss) ∧ (v = .slice none 0 0 ↔ ss = []) ∧ Below w.heap.size w w' := by
 have h1 : 1 ≤ n := by omega
 refine callsIn_of_wp Tryz.func94 rfl (hF _) ?_ hro
 simp only [Tryz.ntmps94, List.size_toArray, List.length_cons, List.length_nil, Nat.reduceAdd, Nat.reduceSub, Array.replicate_succ, Array.replicate_zero, List.push_toArray, List.append_toArray, List.nil_append, List.cons_append]
 gi_wp2_with (gi_at_call 111; refine (append_p F hF (n - 1) hro (by omega) g lb eg Kp S Sp N hN _ hKt hKb hKo hseq).mono ?_; rintro e w' ⟨v, ss, rfl, hS, hlen, hrow, hnil, hb⟩)
 go_ret
 exact ⟨v, ss, rfl, hS, hlen, hrow, hnil, hb⟩
open Go.RowKit Go.Shelf Go.Maps Go.Sort
theorem zY : ∀ (l : List P2) (t : Nat), t < l.length * 2 → (flatP l)[t]? = some ((encP (l.getD (t / 2) default))[t % 2]!)
 | [], t, h => by simp at h
 | x :: r, 0, _ => by simp [flatP, encP]
 | x :: r, 1, _ => by simp [flatP, encP]
 | x :: r, t + 2, h => by
  have ih := zY r t (by simp at h; omega)
  have e1 : (t + 2) / 2 = t / 2 + 1 := by omega
  have e2 : (t + 2) % 2 = t % 2 := by omega
  rw [e1, e2, List.getD_cons_succ, ← ih]
  simp [flatP, encP]
theorem yP (l : List P2) : (flatK encP 2 l.toArray).toList = flatP l := by
 apply List.ext_getElem?
 intro t
 by_cases h : t < l.length * 2
 ·rw [zY l t h]
  have h2 : t / 2 < l.length := by omega
  simp [flatK, h, List.getD, h2]
 ·rw [List.getElem?_eq_none (by simp; omega), List.getElem?_eq_none (by rw [eL]; omega)]
theorem aU {w : World} {g : Nat} {cur : Array Value} {e : TypeId} {F : Array Value} (hb : w.heap[g]? = some (.cells cur e (0, 0))) (ht : cur.toList.take F.size = F.toList) : Holds id w g 0 F := by
 intro j hj
 refine ⟨?_, by simp [World.frozen?, hb]⟩
 have h1 : (cur.toList.take F.size)[j]? = F.toList[j]? := by rw [ht]
 rw [List.getElem?_take_of_lt hj] at h1
 simp only [World.cell?, hb, Nat.zero_add]
 simp only [Option.isSome_none, Bool.false_eq_true, if_false]
 rw [← Array.getElem?_toList, h1]
 simp [hj]
theorem eG {w : World} {g n : Nat} {os : Array Obj} {cur : Array Value} {e : TypeId} {fr : Nat × Nat} (F : Array Value) (hb : w.heap[g]? = some (.cells cur e fr)) :
  (grow (putRow id (Sort.ahead w n) g 0 F) os).heap[g]? = some (.cells (putCells id 0 F cur) e fr) := by
 have hg : g < w.heap.size := (Array.getElem?_eq_some_iff.1 hb).1
 rw [heap_grow_old _ _ (by simpa using hg)]
 simp [putRow, mapBlock, Sort.ahead, Array.getElem?_modify, hb, onCells]
theorem aV {w : World} {g n : Nat} {os : Array Obj} (F : Array Value) : w.grownBy (grow (putRow id (Sort.ahead w n) g 0 F) os) (some g) := by
 refine ⟨rfl, rfl, rfl, by simp, fun k hk hne => ?_⟩
 rw [heap_grow_old _ _ (by simpa using hk)]
 have : g ≠ k := fun e => hne (by rw [e])
 simp [putRow, mapBlock, Sort.ahead, Array.getElem?_modify, this]
theorem aX (cur F : Array Value) (h : F.size ≤ cur.size) : (putCells id 0 F cur).toList.take F.size = F.toList := by
 apply List.ext_getElem?
 intro j
 by_cases hj : j < F.size
 ·rw [List.getElem?_take_of_lt hj, Array.getElem?_toList]
  simp [putCells, hj, show j < cur.size by omega]
 ·rw [List.getElem?_take_eq_none (by omega), List.getElem?_eq_none (by simp; omega)]
theorem ownsRow_sortedV {w : World} {base g cap n k : Nat} {e : TypeId} {os : Array Obj} {cur F : Array Value} (hl : F.size = k * 2) (hbase : base ≤ g) (hb : w.heap[g]? = some (.cells cur e (0, 0)))
  (h1 : k ≤ cap) (h2 : cap ≤ maxLen) (h3 : cur.size = cap * 2) :
  (grow (putRow id (Sort.ahead w n) g 0 F) os).ownsRow base e 2 (.slice (some ⟨g, 0, none⟩) k cap) k F.toList :=
 ⟨by simp [hl], .inr ⟨g, cap, _, rfl, hbase, eG _ hb, h1, h2, by simp [putCells, h3], by rw [← hl]; exact aX cur F (by omega)⟩⟩
def sortP (l : List P2) : List P2 := l.mergeSort (fun x y => !ltP y x)
theorem dV (d d' : Array P2) (hp : PermIn 0 d.size d d') (hs : SortedIn ltP 0 d.size d') : d'.toList = sortP d.toList := by
 have e : ltOf cmpP = ltP := by funext x y; exact yU x y
 have sw : SWO ltP := by rw [← e]; exact swoP
 exact sorted_unique_holds sw (fun x y h1 h2 => by
  simp only [ltP, decide_eq_false_iff_not] at h1 h2
  have a : x.1 = y.1 := Fin.ext (by omega)
  have b : x.2 = y.2 := Fin.ext (by omega)
  exact Prod.ext a b) d d' hp hs
def PairsIn (B : Nat) (w : World) (s : Sl) (l : List P2) : Prop :=
 s.n = l.length ∧ l.length ≤ 1152921504606846976 ∧
 (l = [] ∨ ∃ b off, s.a = some ⟨b, off, none⟩ ∧ b < B ∧ ∀ k, k < l.length → w.cell? ⟨b, off + k * 2, none⟩ = some (.int .i64 ((l.getD k default).1.val : Int)) ∧ w.cell? ⟨b, off + k * 2 + 1, none⟩ = some (.int .i64 ((l.getD k default).2.val : Int)))
theorem PairsIn.below {B : Nat} {w w' : World} {s : Sl} {l : List P2} (h : PairsIn B w s l) (hb : Below B w w') : PairsIn B w' s l := by
 obtain ⟨h1, h2, h3⟩ := h
 refine ⟨h1, h2, ?_⟩
 rcases h3 with h3 | ⟨b, off, h4, h5, h6⟩
 ·exact Or.inl h3
 ·exact Or.inr ⟨b, off, h4, h5, fun k hk => by rw [hb.cell (by exact h5), hb.cell (by exact h5)]; exact h6 k hk⟩
theorem PairsIn.mono {B B' : Nat} {w : World} {s : Sl} {l : List P2} (h : PairsIn B w s l) (hB : B ≤ B') : PairsIn B' w s l := by
 obtain ⟨h1, h2, h3⟩ := h
 refine ⟨h1, h2, ?_⟩
 rcases h3 with h3 | ⟨b, off, h4, h5, h6⟩
 ·exact Or.inl h3
 ·exact Or.inr ⟨b, off, h4, by omega, h6⟩
end Go.Proofs.YtnkocjkkefnelaaGreat
