/- Parts. -/
import Derived.RangeFuncBox
import Derived.Test.YtnkocjkkefnelaaGreatPn1
import Derived.Test.YtnkocjkkefnelaaGreatPn13
import Derived.Test.YtnkocjkkefnelaaGreatPn16
set_option linter.unusedVariables false
set_option linter.unusedSimpArgs false
set_option maxHeartbeats 4000000
namespace Go.Proofs.YtnkocjkkefnelaaGreat
open Go.RowKit Go.Maps Go.Sort
theorem sorts_u (m : Nat) : Sorts_u Fence.wide m :=
 ⟨fun blk off cap ss W hH hblk hsz => callsIn_wide.2 (slices_Sort_u blk off cap ss W hH hblk hsz), fun p cap W => callsIn_wide.2 (Sort_u_nil p cap W)⟩
theorem addrs_c (x : Ex) (w : World) (hx : EvsIn w.heap.size w x.es x.evs) (hlen : x.evs.length ≤ 64) :
  Calls Tryz.prog 51 #[x.agg] w fun o w' => ∃ s : Sl, o = .returned (.slice s.a s.n s.c) ∧ IntsIn .u32 w'.heap.size w' s (addrsTo x.evs) ∧ Below w.heap.size w w' :=
 addresses_c sorts_u x w hx hlen
theorem IntsIn.row {B : Nat} {w : World} {s : Sl} {l : List Int} (h : IntsIn .i64 B w s l) : RowOf B w (.slice s.a s.n s.c) l := by
 obtain ⟨h1, h2, h3⟩ := h
 rcases h3 with h3 | ⟨b, off, h4, h5, h6⟩
 ·subst h3
  exact Or.inl ⟨⟨s.a, s.c, by rw [h1]; rfl⟩, rfl⟩
 ·exact Or.inr ⟨b, off, s.c, by rw [h4, h1], h5, h6⟩
theorem qJ (a : Option Addr) (n c : Nat) (w : World) :
  Calls Tryz.prog 81 #[.slice a n c] w fun e w' => e = .returned (.func (.func 105) #[] #[.pointer (some ⟨w.heap.size, 0, none⟩)]) ∧ w' = w.alloc (.cells #[.slice a n c] 23) :=
 callsIn_wide.1 (values_i Fence.wide (fun _ => trivial) 0 rfl a n c w)
theorem enters_vals : ∀ args w, (callFunc 105 args).run Tryz.prog w = .ok (.enter 105 args) w := enters_of Tryz.func105 (by kernel_rfl) rfl
def sortI (l : List Int) : List Int := l.mergeSort (fun x y => decide (x ≤ y))
theorem sortedVals_c (Bs : Nat) (s : Sl) (l : List Int) (w : World) (hBs : Bs < w.heap.size) (hc : w.cell? ⟨Bs, 0, none⟩ = some (.slice s.a s.n s.c)) (hl : IntsIn .i64 w.heap.size w s l) (hlen : l.length ≤ 65536) :
  Calls Tryz.prog 48 #[.func (.func 105) #[] #[.pointer (some ⟨Bs, 0, none⟩)]] w fun e w' => ∃ s' : Sl, e = .returned (.slice s'.a s'.n s'.c) ∧ IntsIn .i64 w'.heap.size w' s' (sortI l) ∧ Below w.heap.size w w' := by
 refine callsIn_wide.1 ((sorted_i Fence.wide (fun _ => trivial) 5 rfl (by omega) (sorts_i _) _ _ enters_vals (Below w.heap.size) (fun ys => ys = l) (fun _ => True) l.length (by unfold maxLen; omega) (by omega) w belowK_t (belowK_b (Nat.le_refl _)) (fun _ _ _ h => h)
  (values_stops Fence.wide (fun _ => trivial) _ rfl (by omega) Bs w.heap.size (.slice s.a s.n s.c) l (by omega) w hBs (Nat.le_refl _) hc hl.row)).mono ?_)
 rintro e w' ⟨v, ss, rfl, rfl, _, hrow, hnil, hb⟩
 have e2 : (sortI ss).length = ss.length := List.length_mergeSort ss
 rw [← e2] at hrow
 obtain ⟨s', hv, hi⟩ := hZ .i64 (l := sortI ss) (by rw [e2]; omega) hrow
 exact ⟨s', by rw [hv], hi, hb⟩
theorem equal_c (s1 s2 : Sl) (l1 l2 : List Int) (B1 B2 : Nat) (w : World) (h1 : IntsIn .i64 B1 w s1 l1) (h2 : IntsIn .i64 B2 w s2 l2) :
  Calls Tryz.prog 80 #[.slice s1.a s1.n s1.c, .slice s2.a s2.n s2.c] w fun e w' => e = .returned (.bool (l1 == l2)) ∧ ∃ q, w' = w.drewN q := by
 obtain ⟨a1, b1, c1⟩ := h1
 obtain ⟨a2, b2, c2⟩ := h2
 by_cases hn : l1.length = l2.length
 ·rcases c1 with c1 | ⟨p1, o1, c1, _, d1⟩
  ·subst c1
   have : l2 = [] := List.length_eq_zero_iff.1 hn.symm
   subst this
   rw [a1, a2]
   refine (Tryz.slices_Equal_int_empty s1.a s2.a s1.c 0 s2.c w (by omega)).mono ?_
   rintro e w' ⟨rfl, rfl⟩
   exact ⟨rfl, 0, rfl⟩
  ·rcases c2 with c2 | ⟨p2, o2, c2, _, d2⟩
   ·subst c2
    have : l1 = [] := List.length_eq_zero_iff.1 hn
    subst this
    rw [a1, a2]
    refine (Tryz.slices_Equal_int_empty s1.a s2.a s1.c 0 s2.c w (by omega)).mono ?_
    rintro e w' ⟨rfl, rfl⟩
    exact ⟨rfl, 0, rfl⟩
   ·rw [a1, a2, c1, c2]
    refine (Tryz.slices_Equal_int p1 o1 l1.length s1.c p2 o2 l2.length s2.c l1 l2 w (Nat.le_refl _) (Nat.le_refl _) (by omega) (by omega) d1 d2).mono ?_
    rintro e w' ⟨rfl, h⟩
    exact ⟨by rw [List.take_length, List.take_length], h⟩
 ·rw [a1, a2]
  refine (Tryz.slices_Equal_int_lens s1.a s2.a l1.length s1.c l2.length s2.c w hn).mono ?_
  rintro e w' ⟨rfl, rfl⟩
  refine ⟨?_, 0, rfl⟩
  have : l1 ≠ l2 := fun h => hn (by rw [h])
  rw [show (l1 == l2) = false by simpa using this]
def wantTo (es : List Ev) (a : Int) (k : Nat) : List Int := ((List.range k).filter (fun n => (es.getD n default).stB && ((es.getD n default).addr == a))).map Int.ofNat
def rowOk (es : List Ev) (ad : List Int) (i : Nat) (l : List Int) : Bool := !(l.length == 0) && !(l.getD 0 0 != (i : Int)) && (sortI l == wantTo es (ad.getD i 0) es.length)
def rowsTo (es : List Ev) (ad : List Int) (rows : List (Sl × List Int)) (k : Nat) : Bool := (List.range k).all (fun i => rowOk es ad i (rows.getD i default).2)
def orderB (es : List Ev) (ad : List Int) (rows : List (Sl × List Int)) : Bool := decide (rows.length = ad.length) && rowsTo es ad rows rows.length
theorem fZ (es : List Ev) (ad : List Int) (rows : List (Sl × List Int)) (k : Nat) : rowsTo es ad rows (k + 1) = (rowsTo es ad rows k && rowOk es ad k (rows.getD k default).2) := by
 simp [rowsTo, List.range_succ]
theorem zZ (es : List Ev) (ad : List Int) (rows : List (Sl × List Int)) (k : Nat) (hk : k < rows.length) (h : rowOk es ad k (rows.getD k default).2 = false) : orderB es ad rows = false := by
 unfold orderB rowsTo
 rw [Bool.and_eq_false_iff]
 right
 rw [List.all_eq_false]
 exact ⟨k, by simpa using hk, by simpa using h⟩
theorem fT (es : List Ev) (a : Int) (k : Nat) : wantTo es a (k + 1) = if ((es.getD k default).stB && ((es.getD k default).addr == a)) = true then wantTo es a k ++ [(k : Int)] else wantTo es a k := by
 unfold wantTo
 rw [List.range_succ, List.filter_append, List.map_append]
 simp only [List.filter_cons, List.filter_nil]
 cases h : ((es.getD k default).stB && ((es.getD k default).addr == a))
 ·simp only [Bool.false_eq_true, if_false, List.map_nil, List.append_nil]
 ·simp only [if_true, List.map_cons, List.map_nil]; rfl
theorem gS (es : List Ev) (a : Int) (k : Nat) : (wantTo es a k).length ≤ k := by
 unfold wantTo
 rw [List.length_map]
 refine Nat.le_trans (List.length_filter_le _ _) (by simp)
theorem wI {n₀ base k size : Nat} {e : TypeId} {v : Value} {xs : List Value} {w w' : World} (h : w.ownsRow base e size v k xs) (hb : Below n₀ w w') (hlt : w.heap.size ≤ n₀) : w'.ownsRow base e size v k xs := by
 refine ⟨h.1, ?_⟩
 rcases h.2 with hn | ⟨g, cap, cur, hv, hg, hbg, rest⟩
 ·exact .inl hn
 ·exact .inr ⟨g, cap, cur, hv, hg, (hb.block g (by have := (Array.getElem?_eq_some_iff.1 hbg).1; omega)).trans hbg, rest⟩
open Go.RowKit Go.Maps Go.Sort
set_option maxRecDepth 100000 in
set_option maxHeartbeats 1000000 in
theorem order_len_c (x : Ex) (s : Sl) (ad : List Int) (w : World) (hx : x.inW w.heap.size w) (hl : IntsIn .u32 w.heap.size w s ad) (hlen : x.order.length ≠ ad.length) :
  Calls Tryz.prog 54 #[x.agg, .slice s.a s.n s.c] w fun o w' => o = .returned (.bool false) ∧ Below w.heap.size w w' := by
 obtain ⟨on, osm, _⟩ := hx.2.2
 obtain ⟨sn, ssm, _⟩ := hl
 have XA : Hid (x.agg = .agg #[.slice x.es.a x.es.n x.es.c, .slice x.fs.a x.fs.n x.fs.c, .slice x.os.a x.order.length x.os.c]) := Lib.hid (by unfold Ex.agg; rw [on])
 rw [XA.out, sn]
 clear on sn hx
 have hl1 : ((x.order.length : Int) != (ad.length : Int)) = true := by simp; omega
 have hl2 : (x.order.length != ad.length) = true := by simp; omega
 clear hlen
 go_enter Tryz.func54, Tryz.ntmps54
 go_wp2
 go_ret
 exact ⟨rfl, (Below.refl _ _).alloc (Nat.le_refl _) _⟩
set_option maxRecDepth 100000 in
set_option maxHeartbeats 4000000 in
theorem order_eq_c (x : Ex) (s : Sl) (ad : List Int) (w : World) (hx : x.inW w.heap.size w) (hl : IntsIn .u32 w.heap.size w s ad) (hlen : x.order.length = ad.length) (h64 : x.evs.length ≤ 64) (hrows : ∀ r ∈ x.order, r.2.length ≤ 65536) :
  Calls Tryz.prog 54 #[x.agg, .slice s.a s.n s.c] w fun o w' => o = .returned (.bool (orderB x.evs ad x.order)) ∧ Below w.heap.size w w' := by
 obtain ⟨⟨ea, en, ec⟩, ⟨fa, fn, fc⟩, ⟨oa, on, oc⟩, evs, from_, rows⟩ := x
 obtain ⟨sa, sn, sc⟩ := s
 obtain ⟨⟨e1, esm, hev, ecl⟩, _, ⟨o1, osm, hrow, ocl⟩⟩ := hx
 obtain ⟨s1, ssm, scl⟩ := hl
 dsimp only at e1 esm hev ecl o1 osm hrow ocl s1 ssm scl hlen h64 hrows
 subst e1 o1 s1
 unfold Ex.agg
 dsimp only
 obtain ⟨res, hres⟩ : ∃ z : Bool, orderB evs ad rows = z := ⟨_, rfl⟩
 rw [hres]
 have RES := Lib.hid hres
 clear hres
 have hl1 : ((rows.length : Int) != (ad.length : Int)) = false := by simp; omega
 have hl2 : (rows.length != ad.length) = false := by simp; omega
 have hle : rows.length ≤ ad.length := by omega
 have HLEN := Lib.hid hlen
 have HCL := Lib.hid ecl
 have OCL := Lib.hid ocl
 have SCL := Lib.hid scl
 have HROW := Lib.hid hrow
 have HRS := Lib.hid hrows
 clear hlen ecl ocl scl hrow hrows hev
 obtain ⟨i0, hi, jz0, jz1, jz2⟩ := info_parts oP
 go_enter Tryz.func54, Tryz.ntmps54
 go_upto_region 1 with (fail)
 refine wH (X := fun W => Code.wp _ _ _ _ W) ?_
 intro wc hb hsz hcs
 have c0 : wc.cell? ⟨w.heap.size, 0, none⟩ = some (.slice ea evs.length ec) := hcs 0 _ rfl
 have c2 : wc.cell? ⟨w.heap.size, 2, none⟩ = some (.slice oa rows.length oc) := hcs 2 _ rfl
 clear hcs
 go_wp2
 go_loopw [19] (fun i wr => ∃ k : Nat, k ≤ rows.length ∧ i = .int .i64 k ∧ rowsTo evs ad rows k = true ∧ Below wc.heap.size wc wr) (fun i _ => rows.length - (intOf i).toNat)
 case atStart => exact ⟨0, by omega, rfl, rfl, Below.refl _ _⟩
 case round =>
  rename World => wo
  obtain ⟨k, hk, rfl, hto, hbr⟩ := hrel
  have HTO := Lib.hid hto
  clear hto
  have hzr := hbr.size
  by_cases hlt : k < rows.length
  ·have hlt2 : k < ad.length := by omega
   obtain ⟨ob, oo, rfl, hob, hoc⟩ := OCL.out.resolve_left (by intro h; rw [h] at hlt; simp at hlt)
   obtain ⟨ab, ao, rfl, hab, hac⟩ := SCL.out.resolve_left (by intro h; rw [h] at hlt2; simp at hlt2)
   obtain ⟨⟨⟨ra, rn, rc⟩, l⟩, hR⟩ : ∃ R, rows.getD k default = R := ⟨_, rfl⟩
   have hmem : (⟨⟨ra, rn, rc⟩, l⟩ : Sl × List Int) ∈ rows := by rw [← hR, List.getD_eq_getElem?_getD, List.getElem?_eq_getElem hlt]; exact List.getElem_mem hlt
   have hlI := HROW.out _ hmem
   have hl65 := HRS.out _ hmem
   dsimp only at hlI hl65
   have hrn : rn = l.length := hlI.1
   subst hrn
   have hbw : Below w.heap.size w wo := hb.trans (hbr.mono (by omega))
   have ck : wo.cell? ⟨ob, oo + k, none⟩ = some (.slice ra l.length rc) := by
    rw [hbw.cell (p := ⟨ob, oo + k, none⟩) hob, hoc k hlt, hR]; rfl
   obtain ⟨A, hA⟩ : ∃ A, ad.getD k 0 = A := ⟨_, rfl⟩
   have ca : wo.cell? ⟨ab, ao + k, none⟩ = some (.int .u32 A) := by rw [hbw.cell (p := ⟨ab, ao + k, none⟩) hab, hac k hlt2, hA]
   have c0r : wo.cell? ⟨w.heap.size, 0, none⟩ = some (.slice ea evs.length ec) := (hbr.cell (p := ⟨w.heap.size, 0, none⟩) hsz).trans c0
   have c2r : wo.cell? ⟨w.heap.size, 2, none⟩ = some (.slice (some ⟨ob, oo, none⟩) rows.length oc) := (hbr.cell (p := ⟨w.heap.size, 2, none⟩) hsz).trans c2
   have RK : Hid (rowOk evs ad k (rows.getD k default).2 = (!(l.length == 0) && !(l.getD 0 0 != (k : Int)) && (sortI l == wantTo evs A evs.length))) := Lib.hid (by rw [hR]; unfold rowOk; rw [hA])
   have LI := Lib.hid hlI
   have HBW := Lib.hid hbw
   clear hR hA hac hoc hmem hlI hbw
   go_wp2
   go_loopw [27, 7] (fun i v w2 => ∃ m : Nat, m ≤ evs.length ∧ i = .int .i64 m ∧ w2.ownsRow wo.heap.size 3 1 v (wantTo evs A m).length ((wantTo evs A m).map (Value.int .i64)) ∧ Below wo.heap.size wo w2) (fun i _ _ => evs.length - (intOf i).toNat)
   case atStart => exact ⟨0, by omega, rfl, World.ownsRow_nil _ _ _ _, Below.refl _ _⟩
   case round =>
    obtain ⟨m, hm, rfl, hrow, hb2⟩ := hrel
    have hz2 := hb2.size
    by_cases hmt : m < evs.length
    ·obtain ⟨b, off, rfl, hbB, hcl⟩ := HCL.out.resolve_left (by intro h; rw [h] at hmt; simp at hmt)
     obtain ⟨E, hE⟩ : ∃ E, evs.getD m default = E := ⟨_, rfl⟩
     have hcE := (((hcl m hmt).below HBW.out hbB)).below hb2 (show b < wo.heap.size by omega)
     rw [hE] at hcE
     unfold EvCells at hcE
     obtain ⟨q0, q1, q2, q3, q4, q5, q6, q7, q8, q9, q10, q11, q12⟩ := hcE
     have HW : Hid (wantTo evs A (m + 1) = if (E.stB && (E.addr == A)) = true then wantTo evs A m ++ [(m : Int)] else wantTo evs A m) := Lib.hid (by rw [fT, hE])
     have c0m : wr.cell? ⟨w.heap.size, 0, none⟩ = some (.slice (some ⟨b, off, none⟩) evs.length ec) := (hb2.cell (p := ⟨w.heap.size, 0, none⟩) (by show w.heap.size < _; omega)).trans c0r
     have cam : wr.cell? ⟨ab, ao + k, none⟩ = some (.int .u32 A) := (hb2.cell (p := ⟨ab, ao + k, none⟩) (by show ab < _; omega)).trans ca
     have hwl := gS evs A m
     clear hE hcl
     have HRW := Lib.hid hrow
     have HB2 := Lib.hid hb2
     clear hrow
     go_upto_region 10 with (fail)
     refine wH (X := fun W => Code.wp _ _ _ _ W) ?_
     intro w3 hb3 hs3 hcs3
     have t0 : (w3).cell? ⟨wr.heap.size, 0, none⟩ = some (Value.int IntKind.i64 E.hart) := hcs3 0 _ rfl
     have t1 : (w3).cell? ⟨wr.heap.size, 1, none⟩ = some (Value.int IntKind.i64 E.kind) := hcs3 1 _ rfl
     have t2 : (w3).cell? ⟨wr.heap.size, 2, none⟩ = some (Value.int IntKind.u32 E.addr) := hcs3 2 _ rfl
     have t3 : (w3).cell? ⟨wr.heap.size, 3, none⟩ = some (Value.int IntKind.u32 E.val) := hcs3 3 _ rfl
     have t4 : (w3).cell? ⟨wr.heap.size, 4, none⟩ = some (Value.int IntKind.u32 E.rval) := hcs3 4 _ rfl
     have t5 : (w3).cell? ⟨wr.heap.size, 5, none⟩ = some (Value.bool E.aq) := hcs3 5 _ rfl
     have t6 : (w3).cell? ⟨wr.heap.size, 6, none⟩ = some (Value.bool E.rl) := hcs3 6 _ rfl
     have t7 : (w3).cell? ⟨wr.heap.size, 7, none⟩ = some (Value.int IntKind.i64 E.pred) := hcs3 7 _ rfl
     have t8 : (w3).cell? ⟨wr.heap.size, 8, none⟩ = some (Value.int IntKind.i64 E.succ) := hcs3 8 _ rfl
     have t9 : (w3).cell? ⟨wr.heap.size, 9, none⟩ = some (Value.bool E.rsv) := hcs3 9 _ rfl
     have t10 : (w3).cell? ⟨wr.heap.size, 10, none⟩ = some (Value.slice E.av.a E.av.n E.av.c) := hcs3 10 _ rfl
     have t11 : (w3).cell? ⟨wr.heap.size, 11, none⟩ = some (Value.slice E.dv.a E.dv.n E.dv.c) := hcs3 11 _ rfl
     have t12 : (w3).cell? ⟨wr.heap.size, 12, none⟩ = some (Value.slice E.cv.a E.cv.n E.cv.c) := hcs3 12 _ rfl
     clear hcs3 q0 q1 q2 q3 q4 q5 q6 q7 q8 q9 q10 q11 q12
     have r3 : ∀ p, (vC w3 p).cell? ⟨ab, ao + k, none⟩ = some (.int .u32 A) := fun p => uH w3 p (by omega) ((hb3.cell (p := ⟨ab, ao + k, none⟩) (by show ab < _; omega)).trans cam)
     clear c0m cam
     have SC := Lib.hid (fun w => mK E w)
     have y0 : ∀ p, (vC w3 p).cell? ⟨wr.heap.size, 0, none⟩ = some (Value.int IntKind.i64 E.hart) := fun p => uH w3 p hs3 t0
     have y1 : ∀ p, (vC w3 p).cell? ⟨wr.heap.size, 1, none⟩ = some (Value.int IntKind.i64 E.kind) := fun p => uH w3 p hs3 t1
     have y2 : ∀ p, (vC w3 p).cell? ⟨wr.heap.size, 2, none⟩ = some (Value.int IntKind.u32 E.addr) := fun p => uH w3 p hs3 t2
     have y3 : ∀ p, (vC w3 p).cell? ⟨wr.heap.size, 3, none⟩ = some (Value.int IntKind.u32 E.val) := fun p => uH w3 p hs3 t3
     have y4 : ∀ p, (vC w3 p).cell? ⟨wr.heap.size, 4, none⟩ = some (Value.int IntKind.u32 E.rval) := fun p => uH w3 p hs3 t4
     have y5 : ∀ p, (vC w3 p).cell? ⟨wr.heap.size, 5, none⟩ = some (Value.bool E.aq) := fun p => uH w3 p hs3 t5
     have y6 : ∀ p, (vC w3 p).cell? ⟨wr.heap.size, 6, none⟩ = some (Value.bool E.rl) := fun p => uH w3 p hs3 t6
     have y7 : ∀ p, (vC w3 p).cell? ⟨wr.heap.size, 7, none⟩ = some (Value.int IntKind.i64 E.pred) := fun p => uH w3 p hs3 t7
     have y8 : ∀ p, (vC w3 p).cell? ⟨wr.heap.size, 8, none⟩ = some (Value.int IntKind.i64 E.succ) := fun p => uH w3 p hs3 t8
     have y9 : ∀ p, (vC w3 p).cell? ⟨wr.heap.size, 9, none⟩ = some (Value.bool E.rsv) := fun p => uH w3 p hs3 t9
     have y10 : ∀ p, (vC w3 p).cell? ⟨wr.heap.size, 10, none⟩ = some (Value.slice E.av.a E.av.n E.av.c) := fun p => uH w3 p hs3 t10
     have y11 : ∀ p, (vC w3 p).cell? ⟨wr.heap.size, 11, none⟩ = some (Value.slice E.dv.a E.dv.n E.dv.c) := fun p => uH w3 p hs3 t11
     have y12 : ∀ p, (vC w3 p).cell? ⟨wr.heap.size, 12, none⟩ = some (Value.slice E.cv.a E.cv.n E.cv.c) := fun p => uH w3 p hs3 t12
     clear t0 t1 t2 t3 t4 t5 t6 t7 t8 t9 t10 t11 t12
     have hrow3 := wI HRW.out hb3 (Nat.le_refl _)
     have HB3 : Hid (∀ W, Below w3.heap.size w3 W → Below wo.heap.size wo W) := Lib.hid (fun W h => hb2.trans ((hb3.mono hz2).trans (h.mono (by omega))))
     cases hst : E.stB with
     | false =>
      have ST := Lib.hid hst
      clear hst
      go_wp2
      refine uJ (by kernel_rfl) (by kernel_rfl) ?_
      repeat (go_big_quiet_step (((go_at_call 79; refine vH (?_ : Calls _ _ _ _ fun e w' => e = .returned (.bool false) ∧ _); have t := SC.out; rw [ST.out] at t; exact t _))))
      refine wpQuiet_nil ?_
      intro wq hwq
      obtain ⟨pq, hwq2⟩ := hwq
      have hbq : Below (w3).heap.size (w3) wq := by rw [hwq2]; exact uU (w3) pq
      clear hwq2
      go_wp2
      go_roundw
      case rel => first | exact ⟨m + 1, by omega, by go_num, by rw [HW.out, ST.out]; exact wI hrow3 hbq (Nat.le_refl _), HB3.out wq hbq⟩ | ((repeat apply Exists.intro); exact ⟨⟨m + 1, by omega, by go_num, by rw [HW.out, ST.out]; exact wI hrow3 hbq (Nat.le_refl _), HB3.out wq hbq⟩, rfl⟩)
      case measure => simp [intOf]; omega
     | true =>
      have ST := Lib.hid hst
      clear hst
      obtain ⟨bA, hbA⟩ : ∃ bool_ : Bool, (E.addr == A) = bool_ := ⟨_, rfl⟩
      have BA := Lib.hid hbA
      cases bA with
      | false =>
       go_wp2
       refine uJ (by kernel_rfl) (by kernel_rfl) ?_
       repeat (go_big_quiet_step (((go_at_call 79; refine vH (?_ : Calls _ _ _ _ fun e w' => e = .returned (.bool true) ∧ _); have t := SC.out; rw [ST.out] at t; exact t _))))
       refine wpQuiet_nil ?_
       intro wq hwq
       obtain ⟨pq, hwq2⟩ := hwq
       have hbq : Below (w3).heap.size (w3) wq := by rw [hwq2]; exact uU (w3) pq
       clear hwq2
       go_wp2
       go_roundw
       case rel => first | exact ⟨m + 1, by omega, by go_num, by rw [HW.out, ST.out, BA.out]; exact wI hrow3 hbq (Nat.le_refl _), HB3.out wq hbq⟩ | ((repeat apply Exists.intro); exact ⟨⟨m + 1, by omega, by go_num, by rw [HW.out, ST.out, BA.out]; exact wI hrow3 hbq (Nat.le_refl _), HB3.out wq hbq⟩, rfl⟩)
       case measure => simp [intOf]; omega
      | true =>
       go_wp2
       refine uJ (by kernel_rfl) (by kernel_rfl) ?_
       repeat (go_big_quiet_step (((go_at_call 79; refine vH (?_ : Calls _ _ _ _ fun e w' => e = .returned (.bool true) ∧ _); have t := SC.out; rw [ST.out] at t; exact t _))))
       refine wpQuiet_nil ?_
       intro wq hwq
       obtain ⟨pq, hwq2⟩ := hwq
       have hbq : Below (w3).heap.size (w3) wq := by rw [hwq2]; exact uU (w3) pq
       clear hwq2
       have hrowq := wI hrow3 hbq (Nat.le_refl _)
       have hzq : wo.heap.size ≤ wq.heap.size := (HB3.out wq hbq).size
       go_wp2_with (first
        | (at_builtin; refine wpList_append_own _ rfl _ _ 23 rfl wo.heap.size 3 i0 (.int .i64 0) 1 8 Tryz.underlying23 hi jz0 jz1 jz2 rfl (by decide) _ _ _ rfl (hrowq.alloc _) ⟨wq.heap.size, 0, none⟩ 1 1 [.int .i64 (m : Int)] rfl rfl (cell_one_new _ _ _) (by simp [Value.oneCell']) (by unfold maxLen; omega) (by omega) (by simp; omega) ?_; intro v' w5 hown' hgrow5 hnil5; obtain ⟨g', cap', rfl⟩ := ownsRow_succ hown')
        | go_in)
       go_roundw
       case rel => first | exact ⟨m + 1, by omega, by go_num, by rw [HW.out, ST.out, BA.out]; simpa using hown', (((HB3.out wq hbq).alloc hzq _).grown hgrow5 (by simp; omega) (fun k e => (hrowq.lt k e).1))⟩ | ((repeat apply Exists.intro); exact ⟨⟨m + 1, by omega, by go_num, by rw [HW.out, ST.out, BA.out]; simpa using hown', (((HB3.out wq hbq).alloc hzq _).grown hgrow5 (by simp; omega) (fun k e => (hrowq.lt k e).1))⟩, rfl⟩)
       case measure => simp [intOf]; omega
    ·have hme : m = evs.length := by omega
     have HRW := Lib.hid hrow
     subst hme
     obtain ⟨⟨va, vn, vc⟩, hv2, hi2⟩ := hZ .i64 (by have := gS evs A evs.length; omega) hrow
     dsimp only at hv2
     subst hv2
     clear hrow HRW
     have HB5 : Hid (∀ W, Below wr.heap.size wr W → Below w.heap.size w W ∧ Below wc.heap.size wc W) := Lib.hid (fun W h => ⟨(HBW.out.trans (hb2.mono (by have := HBW.out.size; omega))).trans (h.mono (by have := HBW.out.size; omega)), (hbr.trans (hb2.mono hzr)).trans (h.mono (by omega))⟩)
     by_cases hl0 : l.length = 0
     ·have F : Hid (res = false) := Lib.hid (by rw [← RES.out]; exact zZ _ _ _ _ hlt (by rw [RK.out]; simp [hl0]))
      have g1 : ((l.length : Int) == 0) = true := by simp [hl0]
      have g2 : (l.length == 0) = true := by simp [hl0]
      go_wp2
      go_ret
      exact ⟨uQ F.out.symm, (HB5.out _ (Below.refl _ _)).1⟩
     have g1 : ((l.length : Int) == 0) = false := beq_eq_false_iff_ne.2 (by omega)
     have g2 : (l.length == 0) = false := beq_eq_false_iff_ne.2 (by omega)
     have gpos : 0 < l.length := by omega
     obtain ⟨lb, lo, rfl, hlb, hlc⟩ : ∃ lb lo, ra = some ⟨lb, lo, none⟩ ∧ lb < w.heap.size ∧ ∀ j, j < l.length → w.cell? ⟨lb, lo + j, none⟩ = some (.int .i64 (l.getD j 0)) := LI.out.2.2.resolve_left (by intro h; rw [h] at hl0; simp at hl0)
     obtain ⟨z, hz⟩ : ∃ z, l.getD 0 0 = z := ⟨_, rfl⟩
     have cz : wr.cell? ⟨lb, lo, none⟩ = some (.int .i64 z) := by rw [(HB5.out wr (Below.refl _ _)).1.cell (p := ⟨lb, lo, none⟩) hlb, ← hz]; exact hlc 0 gpos
     have HZ := Lib.hid hz
     clear hz hlc
     obtain ⟨bz, hbz⟩ : ∃ bool_ : Bool, (z != (k : Int)) = bool_ := ⟨_, rfl⟩
     have BZ := Lib.hid hbz
     cases bz with
     | true =>
      have F : Hid (res = false) := Lib.hid (by rw [← RES.out]; exact zZ _ _ _ _ hlt (by rw [RK.out, HZ.out, BZ.out]; simp))
      go_wp2
      go_ret
      exact ⟨uQ F.out.symm, (HB5.out _ (Below.refl _ _)).1⟩
     | false =>
      have hli5 : IntsIn .i64 wr.heap.size wr ⟨some ⟨lb, lo, none⟩, l.length, rc⟩ l := (LI.out.below (HB5.out wr (Below.refl _ _)).1).mono (by have := (HB5.out wr (Below.refl _ _)).1.size; omega)
      have ctr : Hid (∀ W5, W5 = wr.alloc (.cells #[.slice (some ⟨lb, lo, none⟩) l.length rc] 23) → Calls Tryz.prog 48 #[.func (.func 105) #[] #[.pointer (some ⟨wr.heap.size, 0, none⟩)]] W5 fun e w' =>
        ∃ s' : Sl, e = .returned (.slice s'.a s'.n s'.c) ∧ IntsIn .i64 w'.heap.size w' s' (sortI l) ∧ Below W5.heap.size W5 w') := Lib.hid (fun W5 h => by
       subst h
       exact sortedVals_c wr.heap.size ⟨some ⟨lb, lo, none⟩, l.length, rc⟩ l _ (by simp) (by simp) ((hli5.below ((Below.refl _ _).alloc (Nat.le_refl _) _)).mono (by simp)) hl65)
      obtain ⟨be, hbe⟩ : ∃ bool_ : Bool, (sortI l == wantTo evs A evs.length) = bool_ := ⟨_, rfl⟩
      have BE := Lib.hid hbe
      have EQ : Hid (∀ (s' : Sl) (W5 W6 : World), W5 = wr.alloc (.cells #[.slice (some ⟨lb, lo, none⟩) l.length rc] 23) → Below W5.heap.size W5 W6 → IntsIn .i64 W6.heap.size W6 s' (sortI l) → Calls Tryz.prog 80 #[.slice s'.a s'.n s'.c, .slice va vn vc] W6 fun e w' => e = .returned (.bool be) ∧ Below wr.heap.size wr w') := Lib.hid (fun s' W5 W6 h5 hb6 hi6 => by
       subst h5
       have hb7 : Below wr.heap.size wr W6 := ((Below.refl wr.heap.size wr).alloc (Nat.le_refl _) _).trans (hb6.mono (by simp))
       refine (equal_c s' ⟨va, vn, vc⟩ (sortI l) (wantTo evs A evs.length) _ _ W6 hi6 (hi2.below hb7)).mono ?_
       rintro e w' ⟨rfl, q, rfl⟩
       exact ⟨by rw [BE.out], hb7.trans ⟨rfl, rfl, rfl, Nat.le_refl _, fun _ _ => rfl⟩⟩)
      clear hli5 hi2 hbe
      cases be with
      | true =>
       have D : Hid (rowOk evs ad k (rows.getD k default).2 = true) := Lib.hid (by rw [RK.out, HZ.out, BZ.out, BE.out, g2]; rfl)
       go_wp2_with (first
        | (go_at_call 81; refine (qJ _ _ _ _).mono ?_; rintro e w5 ⟨rfl, rfl⟩)
        | (go_at_call 48; refine (ctr.out _ rfl).mono ?_; rintro e w6 ⟨⟨sa6, sn6, sc6⟩, rfl, hi6, hb6⟩)
        | (go_at_call 80; refine (EQ.out ⟨sa6, sn6, sc6⟩ _ _ rfl hb6 hi6).mono ?_; rintro e w7 ⟨rfl, hb7⟩))
       go_roundw
       case rel => first | exact ⟨k + 1, by omega, by go_num, by rw [fZ, HTO.out, D.out]; rfl, (HB5.out _ hb7).2⟩ | ((repeat apply Exists.intro); exact ⟨⟨k + 1, by omega, by go_num, by rw [fZ, HTO.out, D.out]; rfl, (HB5.out _ hb7).2⟩, rfl⟩)
       case measure => simp [intOf]; omega
      | false =>
       have F : Hid (res = false) := Lib.hid (by rw [← RES.out]; exact zZ _ _ _ _ hlt (by rw [RK.out, BE.out]; simp))
       go_wp2_with (first
        | (go_at_call 81; refine (qJ _ _ _ _).mono ?_; rintro e w5 ⟨rfl, rfl⟩)
        | (go_at_call 48; refine (ctr.out _ rfl).mono ?_; rintro e w6 ⟨⟨sa6, sn6, sc6⟩, rfl, hi6, hb6⟩)
        | (go_at_call 80; refine (EQ.out ⟨sa6, sn6, sc6⟩ _ _ rfl hb6 hi6).mono ?_; rintro e w7 ⟨rfl, hb7⟩))
       go_ret
       exact ⟨uQ F.out.symm, (HB5.out _ hb7).1⟩
  ·have hke : k = rows.length := by omega
   have F : Hid (res = true) := Lib.hid (by rw [← RES.out]; unfold orderB; rw [← hke, HTO.out]; have := HLEN.out; simp; omega)
   clear hke
   go_wp2
   go_ret
   exact ⟨uQ F.out.symm, hb.trans (hbr.mono (by omega))⟩
theorem order_c (x : Ex) (s : Sl) (ad : List Int) (w : World) (hx : x.inW w.heap.size w) (hl : IntsIn .u32 w.heap.size w s ad) (h64 : x.evs.length ≤ 64) (hrows : ∀ r ∈ x.order, r.2.length ≤ 65536) :
  Calls Tryz.prog 54 #[x.agg, .slice s.a s.n s.c] w fun o w' => o = .returned (.bool (orderB x.evs ad x.order)) ∧ Below w.heap.size w w' := by
 by_cases h : x.order.length = ad.length
 ·exact order_eq_c x s ad w hx hl h h64 hrows
 ·refine (order_len_c x s ad w hx hl h).mono ?_
  rintro o w' ⟨rfl, hb⟩
  exact ⟨by unfold orderB; simp [h], hb⟩
def evPre (es : List Ev) (n : Nat) : Bool :=
 (es.getD n default).bareB && ((es.getD n default).addr % 4 == 0) && hangsB es n (es.getD n default).addrs && hangsB es n (es.getD n default).datas && hangsB es n (es.getD n default).ctrls
def evOk (es : List Ev) (ad : List Int) (n : Nat) : Bool :=
 evPre es n && (if n < ad.length then (es.getD n default).kind == 5 && ((es.getD n default).addr == ad.getD n 0)
  else (es.getD n default).kind != 5 && decide (0 ≤ (es.getD n default).hart) && decide ((es.getD n default).hart < 4) && ((n : Int) == ad.length || decide ((es.getD (n - 1) default).hart ≤ (es.getD n default).hart)))
set_option maxRecDepth 100000 in
set_option maxHeartbeats 1000000 in
theorem event_c (x : Ex) (n : Nat) (s : Sl) (ad : List Int) (w : World) (hx : x.inW w.heap.size w) (hl : IntsIn .u32 w.heap.size w s ad) (hn : n < x.evs.length) :
  Calls Tryz.prog 52 #[x.agg, .int .i64 n, .int .i64 ad.length, .slice s.a s.n s.c] w fun o w' => o = .returned (.bool (evOk x.evs ad n)) ∧ Below w.heap.size w w' := by
 have HX := Lib.hid hx
 have HXE := Lib.hid hx.1
 have hsm : x.evs.length ≤ 1152921504606846976 := hx.1.2.1
 obtain ⟨E, hE⟩ : ∃ E, x.evs.getD n default = E := ⟨_, rfl⟩
 have hmem : E ∈ x.evs := by rw [← hE, List.getD_eq_getElem?_getD, List.getElem?_eq_getElem hn]; simp
 have hok := hx.1.2.2.1 E hmem
 have HOK := Lib.hid hok
 have h4 : ∃ b off, x.es.a = some ⟨b, off, none⟩ ∧ b < w.heap.size ∧ ∀ k, k < x.evs.length → EvCells w b (off + k * 13) (x.evs.getD k default) := by
  rcases hx.1.2.2.2 with h4 | h4
  ·rw [h4] at hn; simp at hn
  ·exact h4
 obtain ⟨b, off, hea, hbB, hcell⟩ := h4
 have hen := hx.1.1
 have hcn := hcell n hn
 rw [hE] at hcn
 have HC := Lib.hid hcell
 clear hcell hx hok hmem
 obtain ⟨res, hres⟩ : ∃ z : Bool, evOk x.evs ad n = z := ⟨_, rfl⟩
 rw [hres]
 have RES := Lib.hid hres
 have HE := Lib.hid hE
 clear hres hE
 obtain ⟨g1, g2, g3⟩ := hl
 have XA : Hid (x.agg = .agg #[.slice (some ⟨b, off, none⟩) x.evs.length x.es.c, .slice x.fs.a x.fs.n x.fs.c, .slice x.os.a x.os.n x.os.c]) := Lib.hid (by unfold Ex.agg; rw [hea, hen])
 rw [XA.out]
 clear hea hen
 unfold EvCells at hcn
 obtain ⟨c1, c2, c3, c4, c5, c6, c7, c8, c9, c10, c11, c12, c13⟩ := hcn
 go_enter Tryz.func52, Tryz.ntmps52
 go_upto_region 1 with (fail)
 go_cut [0, 9] (fun s0 s9 wx => s9 = .pointer (some ⟨w.heap.size + 1, 0, none⟩) ∧ Below w.heap.size w wx ∧ w.heap.size + 1 < wx.heap.size ∧ wx.cell? ⟨w.heap.size, 0, none⟩ = some (.slice (some ⟨b, off, none⟩) x.evs.length x.es.c) ∧
  wx.cell? ⟨w.heap.size, 1, none⟩ = some (.slice x.fs.a x.fs.n x.fs.c) ∧ wx.cell? ⟨w.heap.size, 2, none⟩ = some (.slice x.os.a x.os.n x.os.c) ∧ wx.cell? ⟨w.heap.size + 1, 0, none⟩ = some (Value.int IntKind.i64 E.hart) ∧ wx.cell? ⟨w.heap.size + 1, 1, none⟩ = some (Value.int IntKind.i64 E.kind) ∧ wx.cell? ⟨w.heap.size + 1, 2, none⟩ = some (Value.int IntKind.u32 E.addr) ∧ wx.cell? ⟨w.heap.size + 1, 3, none⟩ = some (Value.int IntKind.u32 E.val) ∧ wx.cell? ⟨w.heap.size + 1, 4, none⟩ = some (Value.int IntKind.u32 E.rval) ∧ wx.cell? ⟨w.heap.size + 1, 5, none⟩ = some (Value.bool E.aq) ∧ wx.cell? ⟨w.heap.size + 1, 6, none⟩ = some (Value.bool E.rl) ∧ wx.cell? ⟨w.heap.size + 1, 7, none⟩ = some (Value.int IntKind.i64 E.pred) ∧ wx.cell? ⟨w.heap.size + 1, 8, none⟩ = some (Value.int IntKind.i64 E.succ) ∧ wx.cell? ⟨w.heap.size + 1, 9, none⟩ = some (Value.bool E.rsv) ∧ wx.cell? ⟨w.heap.size + 1, 10, none⟩ = some (Value.slice E.av.a E.av.n E.av.c) ∧ wx.cell? ⟨w.heap.size + 1, 11, none⟩ = some (Value.slice E.dv.a E.dv.n E.dv.c) ∧ wx.cell? ⟨w.heap.size + 1, 12, none⟩ = some (Value.slice E.cv.a E.cv.n E.cv.c))
 case first =>
  go_wp2_with fail
  go_meet
  refine ⟨rfl, ((Below.refl _ _).alloc (Nat.le_refl _) _).alloc (by simp) _, by simp, by simp, by simp, by simp, ?_⟩
  simp
 case rest =>
 obtain ⟨rfl, hb, hsz, b0, b1, b2, q0, q1, q2, q3, q4, q5, q6, q7, q8, q9, q10, q11, q12⟩ := hcut
 clear c1 c2 c3 c4 c5 c6 c7 c8 c9 c10 c11 c12 c13
 have hB0 : w.heap.size < wc.heap.size := by omega
 have HS := Lib.hid HOK.out.small
 have HW : Hid (∀ W, Below wc.heap.size wc W → Below w.heap.size w W ∧ w.heap.size ≤ W.heap.size) := Lib.hid (fun W h => ⟨hb.trans (h.mono (by omega)), by have := h.size; omega⟩)
 have CH : Hid (∀ (sl : Sl) (l : List Int), IntsIn .i64 w.heap.size w sl l → ∀ W, Below wc.heap.size wc W → Calls Tryz.prog 77 #[.agg #[.slice (some ⟨b, off, none⟩) x.evs.length x.es.c, .slice x.fs.a x.fs.n x.fs.c, .slice x.os.a x.os.n x.os.c], .int .i64 n, .slice sl.a sl.n sl.c] W
   fun o w' => o = .returned (.bool (hangsB x.evs n l)) ∧ Below W.heap.size W w') := Lib.hid (fun sl l hsl W hW => by
  rw [← XA.out]
  exact hangs_c x n sl l W ((HXE.out.below (HW.out W hW).1).mono (HW.out W hW).2) ((hsl.below (HW.out W hW).1).mono (HW.out W hW).2) hn)
 have RV : Hid (res = (E.bareB && (E.addr % 4 == 0) && hangsB x.evs n E.addrs && hangsB x.evs n E.datas && hangsB x.evs n E.ctrls && (if n < ad.length then E.kind == 5 && (E.addr == ad.getD n 0)
  else E.kind != 5 && decide (0 ≤ E.hart) && decide (E.hart < 4) && ((n : Int) == ad.length || decide ((x.evs.getD (n - 1) default).hart ≤ E.hart))))) := Lib.hid (by rw [← RES.out]; unfold evOk evPre; rw [HE.out])
 go_wp2_with fail
 refine (bare_c E HS.out _).mono ?_; rintro o w1 ⟨rfl, hb1⟩
 generalize hbb : E.bareB = bb at *
 have BB := Lib.hid hbb
 clear hbb
 have r1 : ∀ b o, b < (wc).heap.size → (w1).cell? ⟨b, o, none⟩ = (wc).cell? ⟨b, o, none⟩ := fun b o hh => (hb1).cell (p := ⟨b, o, none⟩) hh
 cases bb with
 | false =>
  go_wp2
  go_ret
  exact ⟨uQ (by rw [RV.out]; simp), hb.trans (hb1.mono (by omega))⟩
 | true =>
 have eAd := HOK.out.2.2.2.2.2.1.1
 have eA := Lib.hid HOK.out.1
 have eD := Lib.hid HOK.out.2.1
 have eC := Lib.hid HOK.out.2.2.1
 obtain ⟨ra, hra⟩ : ∃ bool_ : Bool, (E.addr % 4 != 0) = bool_ := ⟨_, rfl⟩
 have RA : Hid ((E.addr % 4 == 0) = !ra) := Lib.hid (by rw [← hra]; simp [bne])
 have tz : E.addr.tmod 4 = E.addr % 4 := Int.tmod_eq_emod_of_nonneg eAd
 cases ra with
 | true =>
  go_wp2
  go_ret
  exact ⟨uQ (by rw [RV.out, RA.out]; simp), hb.trans (hb1.mono (by omega))⟩
 | false =>
 go_wp2_with fail
 refine (CH.out E.av _ eA.out w1 hb1).mono ?_; rintro o w2 ⟨rfl, hb2⟩
 have hc2 := hb1.trans (hb2.mono hb1.size)
 have r2 : ∀ b o, b < (wc).heap.size → (w2).cell? ⟨b, o, none⟩ = (wc).cell? ⟨b, o, none⟩ := fun b o hh => (hc2).cell (p := ⟨b, o, none⟩) hh
 generalize hhA : hangsB x.evs n E.addrs = hA at *
 clear hhA
 cases hA with
 | false =>
  go_wp2
  go_ret
  exact ⟨uQ (by rw [RV.out]; simp), hb.trans (hc2.mono (by omega))⟩
 | true =>
 go_wp2_with fail
 refine (CH.out E.dv _ eD.out w2 hc2).mono ?_; rintro o w3 ⟨rfl, hb3⟩
 have hc3 := hc2.trans (hb3.mono hc2.size)
 clear r1 r2
 have r3 : ∀ b o, b < (wc).heap.size → (w3).cell? ⟨b, o, none⟩ = (wc).cell? ⟨b, o, none⟩ := fun b o hh => (hc3).cell (p := ⟨b, o, none⟩) hh
 generalize hhD : hangsB x.evs n E.datas = hD at *
 clear hhD
 cases hD with
 | false =>
  go_wp2
  go_ret
  exact ⟨uQ (by rw [RV.out]; simp), hb.trans (hc3.mono (by omega))⟩
 | true =>
 go_wp2_with fail
 refine (CH.out E.cv _ eC.out w3 hc3).mono ?_; rintro o w4 ⟨rfl, hb4⟩
 have hc4 := hc3.trans (hb4.mono hc3.size)
 clear r3
 generalize hhC : hangsB x.evs n E.ctrls = hC at *
 clear hhC
 cases hC with
 | false =>
  have r4 : ∀ b o, b < (wc).heap.size → (w4).cell? ⟨b, o, none⟩ = (wc).cell? ⟨b, o, none⟩ := fun b o hh => (hc4).cell (p := ⟨b, o, none⟩) hh
  go_wp2
  go_ret
  exact ⟨uQ (by rw [RV.out]; simp), hb.trans (hc4.mono (by omega))⟩
 | true =>
 have HB4 := (HW.out w4 hc4)
 have o0 : ∀ p, (vC w4 p).cell? ⟨w.heap.size + 1, 0, none⟩ = some (.int .i64 E.hart) := fun p => uH w4 p (by have := hc4.size; omega) ((hc4.cell (p := ⟨w.heap.size + 1, 0, none⟩) hsz).trans q0)
 have o1 : ∀ p, (vC w4 p).cell? ⟨w.heap.size + 1, 1, none⟩ = some (.int .i64 E.kind) := fun p => uH w4 p (by have := hc4.size; omega) ((hc4.cell (p := ⟨w.heap.size + 1, 1, none⟩) hsz).trans q1)
 have o2 : ∀ p, (vC w4 p).cell? ⟨w.heap.size + 1, 2, none⟩ = some (.int .u32 E.addr) := fun p => uH w4 p (by have := hc4.size; omega) ((hc4.cell (p := ⟨w.heap.size + 1, 2, none⟩) hsz).trans q2)
 have o3 : ∀ p, (vC w4 p).cell? ⟨w.heap.size, 0, none⟩ = some (.slice (some ⟨b, off, none⟩) x.evs.length x.es.c) := fun p => uH w4 p (by have := hc4.size; omega) ((hc4.cell (p := ⟨w.heap.size, 0, none⟩) hB0).trans b0)
 have HBW := Lib.hid (hb.trans (hc4.mono (Nat.le_of_lt hB0)))
 have G2 : w4.heap.size ≥ w.heap.size := HB4.2
 by_cases hlt : n < ad.length
 ·obtain ⟨lb, lo, hla, hlB, hlc⟩ : ∃ lb lo, s.a = some ⟨lb, lo, none⟩ ∧ lb < w.heap.size ∧ ∀ k, k < ad.length → w.cell? ⟨lb, lo + k, none⟩ = some (.int .u32 (ad.getD k 0)) := by
   rcases g3 with g3 | g3
   ·rw [g3] at hlt; simp at hlt
   ·exact g3
  clear g3
  obtain ⟨av, hav⟩ : ∃ av, ad.getD n 0 = av := ⟨_, rfl⟩
  have o4 : ∀ p, (vC w4 p).cell? ⟨lb, lo + n, none⟩ = some (.int .u32 av) := fun p => uH w4 p (by omega) ((HB4.1.cell (p := ⟨lb, lo + n, none⟩) hlB).trans (by rw [hlc n hlt, hav]))
  have HAV := Lib.hid hav
  clear hav hlc
  obtain ⟨k5, hk5⟩ : ∃ bool_ : Bool, (E.kind == 5) = bool_ := ⟨_, rfl⟩
  obtain ⟨ae, hae⟩ : ∃ bool_ : Bool, (E.addr == av) = bool_ := ⟨_, rfl⟩
  have RV2 : Hid (res = (k5 && ae)) := Lib.hid (by rw [RV.out, RA.out, if_pos hlt, HAV.out, hk5, hae]; simp)
  have K5 := Lib.hid hk5
  have AE := Lib.hid hae
  cases k5 with
  | false =>
   go_wp2
   refine uJ (by kernel_rfl) (by kernel_rfl) ?_
   repeat (go_big_quiet_step (fail))
   refine wpQuiet_nil ?_
   intro wq hwq
   obtain ⟨pq, hwq2⟩ := hwq
   have hbq : Below (w4).heap.size (w4) wq := by rw [hwq2]; exact uU (w4) pq
   clear hwq2
   go_wp2
   go_ret
   exact ⟨uQ (by rw [RV2.out]; simp), HBW.out.trans (hbq.mono G2)⟩
  | true =>
   go_wp2
   refine uJ (by kernel_rfl) (by kernel_rfl) ?_
   repeat (go_big_quiet_step (fail))
   refine wpQuiet_nil ?_
   intro wq hwq
   obtain ⟨pq, hwq2⟩ := hwq
   have hbq : Below (w4).heap.size (w4) wq := by rw [hwq2]; exact uU (w4) pq
   clear hwq2
   go_wp2
   go_ret
   exact ⟨uQ (by rw [RV2.out]; simp), HBW.out.trans (hbq.mono G2)⟩
 ·clear g3
  obtain ⟨ln, hln⟩ : ∃ ln, ad.length = ln := ⟨_, rfl⟩
  rw [hln] at hlt g2 ⊢
  have HLN := Lib.hid hln
  clear hln
  obtain ⟨k6, hk6⟩ : ∃ bool_ : Bool, (E.kind != 5) = bool_ := ⟨_, rfl⟩
  obtain ⟨h0, hh0⟩ : ∃ bool_ : Bool, decide (0 ≤ E.hart) = bool_ := ⟨_, rfl⟩
  obtain ⟨h4, hh4⟩ : ∃ bool_ : Bool, decide (E.hart < 4) = bool_ := ⟨_, rfl⟩
  have RV1 : Hid (res = (k6 && h0 && h4 && ((n : Int) == ln || decide ((x.evs.getD (n - 1) default).hart ≤ E.hart)))) := Lib.hid (by rw [RV.out, RA.out, HLN.out, if_neg hlt, hk6, hh0, hh4]; simp)
  cases k6 with
  | false =>
   go_wp2
   refine uJ (by kernel_rfl) (by kernel_rfl) ?_
   repeat (go_big_quiet_step (fail))
   refine wpQuiet_nil ?_
   intro wq hwq
   obtain ⟨pq, hwq2⟩ := hwq
   have hbq : Below (w4).heap.size (w4) wq := by rw [hwq2]; exact uU (w4) pq
   clear hwq2
   go_wp2
   go_ret
   exact ⟨uQ (by rw [RV1.out]; simp), HBW.out.trans (hbq.mono G2)⟩
  | true =>
  cases h0 with
  | false =>
   go_wp2
   refine uJ (by kernel_rfl) (by kernel_rfl) ?_
   repeat (go_big_quiet_step (fail))
   refine wpQuiet_nil ?_
   intro wq hwq
   obtain ⟨pq, hwq2⟩ := hwq
   have hbq : Below (w4).heap.size (w4) wq := by rw [hwq2]; exact uU (w4) pq
   clear hwq2
   go_wp2
   go_ret
   exact ⟨uQ (by rw [RV1.out]; simp), HBW.out.trans (hbq.mono G2)⟩
  | true =>
  cases h4 with
  | false =>
   go_wp2
   refine uJ (by kernel_rfl) (by kernel_rfl) ?_
   repeat (go_big_quiet_step (fail))
   refine wpQuiet_nil ?_
   intro wq hwq
   obtain ⟨pq, hwq2⟩ := hwq
   have hbq : Below (w4).heap.size (w4) wq := by rw [hwq2]; exact uU (w4) pq
   clear hwq2
   go_wp2
   go_ret
   exact ⟨uQ (by rw [RV1.out]; simp), HBW.out.trans (hbq.mono G2)⟩
  | true =>
  by_cases heq : n = ln
  ·have F : Hid (res = true) := Lib.hid (by rw [RV1.out, heq]; simp)
   subst heq
   go_wp2
   refine uJ (by kernel_rfl) (by kernel_rfl) ?_
   repeat (go_big_quiet_step (fail))
   refine wpQuiet_nil ?_
   intro wq hwq
   obtain ⟨pq, hwq2⟩ := hwq
   have hbq : Below (w4).heap.size (w4) wq := by rw [hwq2]; exact uU (w4) pq
   clear hwq2
   go_wp2
   go_ret
   exact ⟨uQ (by rw [F.out]), HBW.out.trans (hbq.mono G2)⟩
  ·have hn1 : n - 1 < x.evs.length := by omega
   have hn0 : ln < n := by omega
   have hne : ((n : Int) == (ln : Int)) = false := by simp; omega
   have hne2 : (n == ln) = false := by simpa using heq
   obtain ⟨ph, hph⟩ : ∃ ph, (x.evs.getD (n - 1) default).hart = ph := ⟨_, rfl⟩
   have o5 : ∀ p, (vC w4 p).cell? ⟨b, off + (n - 1) * 13, none⟩ = some (.int .i64 ph) := fun p => uH w4 p (by omega) ((HB4.1.cell (p := ⟨b, _, none⟩) hbB).trans (by rw [(HC.out (n - 1) hn1).1, hph]))
   have HPH := Lib.hid hph
   clear hph heq
   go_wp2
   refine uJ (by kernel_rfl) (by kernel_rfl) ?_
   repeat (go_big_quiet_step (fail))
   refine wpQuiet_nil ?_
   intro wq hwq
   obtain ⟨pq, hwq2⟩ := hwq
   have hbq : Below (w4).heap.size (w4) wq := by rw [hwq2]; exact uU (w4) pq
   clear hwq2
   go_wp2
   go_ret
   exact ⟨uQ (by rw [RV1.out, HPH.out, hne]; simp), HBW.out.trans (hbq.mono G2)⟩
end Go.Proofs.YtnkocjkkefnelaaGreat
