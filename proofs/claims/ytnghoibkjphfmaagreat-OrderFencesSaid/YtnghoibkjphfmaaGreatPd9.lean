/- Whether Order may be. -/
import Derived.RangeFuncBox
import Derived.WalkMore
import Derived.ScopeJumps
import Derived.Test.YtnghoibkjphfmaaGreatPd3
import Derived.Test.YtnghoibkjphfmaaGreatPd5
import Derived.Test.YtnghoibkjphfmaaGreatPd7
import Derived.Test.YtnghoibkjphfmaaGreatPd8
namespace Go.Proofs.YtnghoibkjphfmaaGreat
open Go.RowKit Go.Maps Go.Sort
set_option maxRecDepth 100000 in
set_option maxHeartbeats 1000000 in
theorem order_len_c (x : Ex) (s : Sl) (ad : List Int) (w : World) (hx : x.inW w.heap.size w) (hl : IntsIn .u32 w.heap.size w s ad) (hlen : x.order.length ≠ ad.length) :
    Calls Tryz.prog 49 #[x.agg, .slice s.a s.n s.c] w fun o w' => o = .returned (.bool false) ∧ Below w.heap.size w w' := by
  obtain ⟨on, osm, _⟩ := hx.2.2
  obtain ⟨sn, ssm, _⟩ := hl
  have XA : Hid (x.agg = .agg #[.slice x.es.a x.es.n x.es.c, .slice x.fs.a x.fs.n x.fs.c, .slice x.os.a x.order.length x.os.c]) := Lib.hid (by unfold Ex.agg; rw [on])
  rw [XA.out, sn]
  clear on sn hx
  have hl1 : ((x.order.length : Int) != (ad.length : Int)) = true := by simp; omega
  have hl2 : (x.order.length != ad.length) = true := by simp; omega
  clear hlen
  go_enter Tryz.func49, Tryz.ntmps49
  go_wp2
  go_ret
  exact ⟨rfl, (Below.refl _ _).alloc (Nat.le_refl _) _⟩
set_option maxRecDepth 100000 in
set_option maxHeartbeats 4000000 in
theorem order_eq_c (x : Ex) (s : Sl) (ad : List Int) (w : World) (hx : x.inW w.heap.size w) (hl : IntsIn .u32 w.heap.size w s ad) (hlen : x.order.length = ad.length) (h64 : x.evs.length ≤ 64) (hrows : ∀ r ∈ x.order, r.2.length ≤ 65536) :
    Calls Tryz.prog 49 #[x.agg, .slice s.a s.n s.c] w fun o w' => o = .returned (.bool (orderB x.evs ad x.order)) ∧ Below w.heap.size w w' := by
  obtain ⟨⟨ea, en, ec⟩, ⟨fa, fn, fc⟩, ⟨oa, on, oc⟩, evs, from_, rows⟩ := x
  obtain ⟨sa, sn, sc⟩ := s
  obtain ⟨⟨e1, esm, hev, ecl⟩, _, ⟨o1, osm, hrow, ocl⟩⟩ := hx
  obtain ⟨s1, ssm, scl⟩ := hl
  dsimp only at e1 esm hev ecl o1 osm hrow ocl s1 ssm scl hlen h64 hrows
  subst e1 o1 s1
  unfold Ex.agg
  dsimp only
  obtain ⟨res, hres⟩ : ∃ z : Bool, orderB evs ad rows = z := ⟨_, rfl⟩
  rw [hres]
  have RES := Lib.hid hres
  clear hres
  have hl1 : ((rows.length : Int) != (ad.length : Int)) = false := by simp; omega
  have hl2 : (rows.length != ad.length) = false := by simp; omega
  have hle : rows.length ≤ ad.length := by omega
  have HLEN := Lib.hid hlen
  have HCL := Lib.hid ecl
  have OCL := Lib.hid ocl
  have SCL := Lib.hid scl
  have HROW := Lib.hid hrow
  have HRS := Lib.hid hrows
  clear hlen ecl ocl scl hrow hrows hev
  obtain ⟨i0, hi, jz0, jz1, jz2⟩ := info_parts info_i
  go_enter Tryz.func49, Tryz.ntmps49
  go_upto_region 1 with (fail)
  refine alloc_opaque (X := fun W => Code.wp _ _ _ _ W) ?_
  intro wc hb hsz hcs
  have c0 : wc.cell? ⟨w.heap.size, 0, none⟩ = some (.slice ea evs.length ec) := hcs 0 _ rfl
  have c2 : wc.cell? ⟨w.heap.size, 2, none⟩ = some (.slice oa rows.length oc) := hcs 2 _ rfl
  clear hcs
  go_wp2
  go_loopw [19] (fun i wr => ∃ k : Nat, k ≤ rows.length ∧ i = .int .i64 k ∧ rowsTo evs ad rows k = true ∧ Below wc.heap.size wc wr) (fun i _ => rows.length - (intOf i).toNat)
  case atStart => exact ⟨0, by omega, rfl, rfl, Below.refl _ _⟩
  case round =>
    rename World => wo
    obtain ⟨k, hk, rfl, hto, hbr⟩ := hrel
    have HTO := Lib.hid hto
    clear hto
    have hzr := hbr.size
    by_cases hlt : k < rows.length
    · have hlt2 : k < ad.length := by omega
      obtain ⟨ob, oo, rfl, hob, hoc⟩ := OCL.out.resolve_left (by intro h; rw [h] at hlt; simp at hlt)
      obtain ⟨ab, ao, rfl, hab, hac⟩ := SCL.out.resolve_left (by intro h; rw [h] at hlt2; simp at hlt2)
      obtain ⟨⟨⟨ra, rn, rc⟩, l⟩, hR⟩ : ∃ R, rows.getD k default = R := ⟨_, rfl⟩
      have hmem : (⟨⟨ra, rn, rc⟩, l⟩ : Sl × List Int) ∈ rows := by rw [← hR, List.getD_eq_getElem?_getD, List.getElem?_eq_getElem hlt]; exact List.getElem_mem hlt
      have hlI := HROW.out _ hmem
      have hl65 := HRS.out _ hmem
      dsimp only at hlI hl65
      have hrn : rn = l.length := hlI.1
      subst hrn
      have hbw : Below w.heap.size w wo := hb.trans (hbr.mono (by omega))
      have ck : wo.cell? ⟨ob, oo + k, none⟩ = some (.slice ra l.length rc) := by
        rw [hbw.cell (p := ⟨ob, oo + k, none⟩) hob, hoc k hlt, hR]; rfl
      obtain ⟨A, hA⟩ : ∃ A, ad.getD k 0 = A := ⟨_, rfl⟩
      have ca : wo.cell? ⟨ab, ao + k, none⟩ = some (.int .u32 A) := by rw [hbw.cell (p := ⟨ab, ao + k, none⟩) hab, hac k hlt2, hA]
      have c0r : wo.cell? ⟨w.heap.size, 0, none⟩ = some (.slice ea evs.length ec) := (hbr.cell (p := ⟨w.heap.size, 0, none⟩) hsz).trans c0
      have c2r : wo.cell? ⟨w.heap.size, 2, none⟩ = some (.slice (some ⟨ob, oo, none⟩) rows.length oc) := (hbr.cell (p := ⟨w.heap.size, 2, none⟩) hsz).trans c2
      have RK : Hid (rowOk evs ad k (rows.getD k default).2 = (!(l.length == 0) && !(l.getD 0 0 != (k : Int)) && (sortI l == wantTo evs A evs.length))) := Lib.hid (by rw [hR]; unfold rowOk; rw [hA])
      have LI := Lib.hid hlI
      have HBW := Lib.hid hbw
      clear hR hA hac hoc hmem hlI hbw
      go_wp2
      go_loopw [27, 7] (fun i v w2 => ∃ m : Nat, m ≤ evs.length ∧ i = .int .i64 m ∧ w2.ownsRow wo.heap.size 3 1 v (wantTo evs A m).length ((wantTo evs A m).map (Value.int .i64)) ∧ Below wo.heap.size wo w2) (fun i _ _ => evs.length - (intOf i).toNat)
      case atStart => exact ⟨0, by omega, rfl, World.ownsRow_nil _ _ _ _, Below.refl _ _⟩
      case round =>
        obtain ⟨m, hm, rfl, hrow, hb2⟩ := hrel
        have hz2 := hb2.size
        by_cases hmt : m < evs.length
        · obtain ⟨b, off, rfl, hbB, hcl⟩ := HCL.out.resolve_left (by intro h; rw [h] at hmt; simp at hmt)
          obtain ⟨E, hE⟩ : ∃ E, evs.getD m default = E := ⟨_, rfl⟩
          have hcE := (((hcl m hmt).below HBW.out hbB)).below hb2 (show b < wo.heap.size by omega)
          rw [hE] at hcE
          unfold EvCells at hcE
          obtain ⟨q0, q1, q2, q3, q4, q5, q6, q7, q8, q9, q10, q11, q12⟩ := hcE
          have HW : Hid (wantTo evs A (m + 1) = if (E.stB && (E.addr == A)) = true then wantTo evs A m ++ [(m : Int)] else wantTo evs A m) := Lib.hid (by rw [wantTo_succ, hE])
          have c0m : wr.cell? ⟨w.heap.size, 0, none⟩ = some (.slice (some ⟨b, off, none⟩) evs.length ec) := (hb2.cell (p := ⟨w.heap.size, 0, none⟩) (by show w.heap.size < _; omega)).trans c0r
          have cam : wr.cell? ⟨ab, ao + k, none⟩ = some (.int .u32 A) := (hb2.cell (p := ⟨ab, ao + k, none⟩) (by show ab < _; omega)).trans ca
          have hwl := wantTo_len evs A m
          clear hE hcl
          have HRW := Lib.hid hrow
          have HB2 := Lib.hid hb2
          clear hrow
          go_upto_region 10 with (fail)
          refine alloc_opaque (X := fun W => Code.wp _ _ _ _ W) ?_
          intro w3 hb3 hs3 hcs3
          have t0 : (w3).cell? ⟨wr.heap.size, 0, none⟩ = some (Value.int IntKind.i64 E.hart) := hcs3 0 _ rfl
          have t1 : (w3).cell? ⟨wr.heap.size, 1, none⟩ = some (Value.int IntKind.i64 E.kind) := hcs3 1 _ rfl
          have t2 : (w3).cell? ⟨wr.heap.size, 2, none⟩ = some (Value.int IntKind.u32 E.addr) := hcs3 2 _ rfl
          have t3 : (w3).cell? ⟨wr.heap.size, 3, none⟩ = some (Value.int IntKind.u32 E.val) := hcs3 3 _ rfl
          have t4 : (w3).cell? ⟨wr.heap.size, 4, none⟩ = some (Value.int IntKind.u32 E.rval) := hcs3 4 _ rfl
          have t5 : (w3).cell? ⟨wr.heap.size, 5, none⟩ = some (Value.bool E.aq) := hcs3 5 _ rfl
          have t6 : (w3).cell? ⟨wr.heap.size, 6, none⟩ = some (Value.bool E.rl) := hcs3 6 _ rfl
          have t7 : (w3).cell? ⟨wr.heap.size, 7, none⟩ = some (Value.int IntKind.i64 E.pred) := hcs3 7 _ rfl
          have t8 : (w3).cell? ⟨wr.heap.size, 8, none⟩ = some (Value.int IntKind.i64 E.succ) := hcs3 8 _ rfl
          have t9 : (w3).cell? ⟨wr.heap.size, 9, none⟩ = some (Value.bool E.rsv) := hcs3 9 _ rfl
          have t10 : (w3).cell? ⟨wr.heap.size, 10, none⟩ = some (Value.slice E.av.a E.av.n E.av.c) := hcs3 10 _ rfl
          have t11 : (w3).cell? ⟨wr.heap.size, 11, none⟩ = some (Value.slice E.dv.a E.dv.n E.dv.c) := hcs3 11 _ rfl
          have t12 : (w3).cell? ⟨wr.heap.size, 12, none⟩ = some (Value.slice E.cv.a E.cv.n E.cv.c) := hcs3 12 _ rfl
          clear hcs3 q0 q1 q2 q3 q4 q5 q6 q7 q8 q9 q10 q11 q12
          have r3 : ∀ p, (over w3 p).cell? ⟨ab, ao + k, none⟩ = some (.int .u32 A) := fun p => over_cell w3 p (by omega) ((hb3.cell (p := ⟨ab, ao + k, none⟩) (by show ab < _; omega)).trans cam)
          clear c0m cam
          have SC := Lib.hid (fun w => stores_c E w)
          have y0 : ∀ p, (over w3 p).cell? ⟨wr.heap.size, 0, none⟩ = some (Value.int IntKind.i64 E.hart) := fun p => over_cell w3 p hs3 t0
          have y1 : ∀ p, (over w3 p).cell? ⟨wr.heap.size, 1, none⟩ = some (Value.int IntKind.i64 E.kind) := fun p => over_cell w3 p hs3 t1
          have y2 : ∀ p, (over w3 p).cell? ⟨wr.heap.size, 2, none⟩ = some (Value.int IntKind.u32 E.addr) := fun p => over_cell w3 p hs3 t2
          have y3 : ∀ p, (over w3 p).cell? ⟨wr.heap.size, 3, none⟩ = some (Value.int IntKind.u32 E.val) := fun p => over_cell w3 p hs3 t3
          have y4 : ∀ p, (over w3 p).cell? ⟨wr.heap.size, 4, none⟩ = some (Value.int IntKind.u32 E.rval) := fun p => over_cell w3 p hs3 t4
          have y5 : ∀ p, (over w3 p).cell? ⟨wr.heap.size, 5, none⟩ = some (Value.bool E.aq) := fun p => over_cell w3 p hs3 t5
          have y6 : ∀ p, (over w3 p).cell? ⟨wr.heap.size, 6, none⟩ = some (Value.bool E.rl) := fun p => over_cell w3 p hs3 t6
          have y7 : ∀ p, (over w3 p).cell? ⟨wr.heap.size, 7, none⟩ = some (Value.int IntKind.i64 E.pred) := fun p => over_cell w3 p hs3 t7
          have y8 : ∀ p, (over w3 p).cell? ⟨wr.heap.size, 8, none⟩ = some (Value.int IntKind.i64 E.succ) := fun p => over_cell w3 p hs3 t8
          have y9 : ∀ p, (over w3 p).cell? ⟨wr.heap.size, 9, none⟩ = some (Value.bool E.rsv) := fun p => over_cell w3 p hs3 t9
          have y10 : ∀ p, (over w3 p).cell? ⟨wr.heap.size, 10, none⟩ = some (Value.slice E.av.a E.av.n E.av.c) := fun p => over_cell w3 p hs3 t10
          have y11 : ∀ p, (over w3 p).cell? ⟨wr.heap.size, 11, none⟩ = some (Value.slice E.dv.a E.dv.n E.dv.c) := fun p => over_cell w3 p hs3 t11
          have y12 : ∀ p, (over w3 p).cell? ⟨wr.heap.size, 12, none⟩ = some (Value.slice E.cv.a E.cv.n E.cv.c) := fun p => over_cell w3 p hs3 t12
          clear t0 t1 t2 t3 t4 t5 t6 t7 t8 t9 t10 t11 t12
          have hrow3 := ownsRow_below HRW.out hb3 (Nat.le_refl _)
          have HB3 : Hid (∀ W, Below w3.heap.size w3 W → Below wo.heap.size wo W) := Lib.hid (fun W h => hb2.trans ((hb3.mono hz2).trans (h.mono (by omega))))
          cases hst : E.stB with
          | false =>
            have ST := Lib.hid hst
            clear hst
            go_wp2
            refine wp_region_over (by kernel_rfl) (by kernel_rfl) ?_
            repeat (go_big_quiet_step (((go_at_call 57; refine quiet_over (?_ : Calls _ _ _ _ fun e w' => e = .returned (.bool false) ∧ _); have t := SC.out; rw [ST.out] at t; exact t _))))
            refine wpQuiet_nil ?_
            intro wq hwq
            obtain ⟨pq, hwq2⟩ := hwq
            have hbq : Below (w3).heap.size (w3) wq := by rw [hwq2]; exact over_below (w3) pq
            clear hwq2
            go_wp2
            go_roundw
            case rel => first | exact ⟨m + 1, by omega, by go_num, by rw [HW.out, ST.out]; exact ownsRow_below hrow3 hbq (Nat.le_refl _), HB3.out wq hbq⟩ | ((repeat apply Exists.intro); exact ⟨⟨m + 1, by omega, by go_num, by rw [HW.out, ST.out]; exact ownsRow_below hrow3 hbq (Nat.le_refl _), HB3.out wq hbq⟩, rfl⟩)
            case measure => simp [intOf]; omega
          | true =>
            have ST := Lib.hid hst
            clear hst
            obtain ⟨bA, hbA⟩ : ∃ bool_ : Bool, (E.addr == A) = bool_ := ⟨_, rfl⟩
            have BA := Lib.hid hbA
            cases bA with
            | false =>
              go_wp2
              refine wp_region_over (by kernel_rfl) (by kernel_rfl) ?_
              repeat (go_big_quiet_step (((go_at_call 57; refine quiet_over (?_ : Calls _ _ _ _ fun e w' => e = .returned (.bool true) ∧ _); have t := SC.out; rw [ST.out] at t; exact t _))))
              refine wpQuiet_nil ?_
              intro wq hwq
              obtain ⟨pq, hwq2⟩ := hwq
              have hbq : Below (w3).heap.size (w3) wq := by rw [hwq2]; exact over_below (w3) pq
              clear hwq2
              go_wp2
              go_roundw
              case rel => first | exact ⟨m + 1, by omega, by go_num, by rw [HW.out, ST.out, BA.out]; exact ownsRow_below hrow3 hbq (Nat.le_refl _), HB3.out wq hbq⟩ | ((repeat apply Exists.intro); exact ⟨⟨m + 1, by omega, by go_num, by rw [HW.out, ST.out, BA.out]; exact ownsRow_below hrow3 hbq (Nat.le_refl _), HB3.out wq hbq⟩, rfl⟩)
              case measure => simp [intOf]; omega
            | true =>
              go_wp2
              refine wp_region_over (by kernel_rfl) (by kernel_rfl) ?_
              repeat (go_big_quiet_step (((go_at_call 57; refine quiet_over (?_ : Calls _ _ _ _ fun e w' => e = .returned (.bool true) ∧ _); have t := SC.out; rw [ST.out] at t; exact t _))))
              refine wpQuiet_nil ?_
              intro wq hwq
              obtain ⟨pq, hwq2⟩ := hwq
              have hbq : Below (w3).heap.size (w3) wq := by rw [hwq2]; exact over_below (w3) pq
              clear hwq2
              have hrowq := ownsRow_below hrow3 hbq (Nat.le_refl _)
              have hzq : wo.heap.size ≤ wq.heap.size := (HB3.out wq hbq).size
              go_wp2_with (first
                | (at_builtin; refine wpList_append_own _ rfl _ _ 23 rfl wo.heap.size 3 i0 (.int .i64 0) 1 8 Tryz.underlying23 hi jz0 jz1 jz2 rfl (by decide) _ _ _ rfl (hrowq.alloc _) ⟨wq.heap.size, 0, none⟩ 1 1 [.int .i64 (m : Int)] rfl rfl (cell_one_new _ _ _) (by simp [Value.oneCell']) (by unfold maxLen; omega) (by omega) (by simp; omega) ?_; intro v' w5 hown' hgrow5 hnil5; obtain ⟨g', cap', rfl⟩ := ownsRow_succ hown')
                | go_in)
              go_roundw
              case rel => first | exact ⟨m + 1, by omega, by go_num, by rw [HW.out, ST.out, BA.out]; simpa using hown', (((HB3.out wq hbq).alloc hzq _).grown hgrow5 (by simp; omega) (fun k e => (hrowq.lt k e).1))⟩ | ((repeat apply Exists.intro); exact ⟨⟨m + 1, by omega, by go_num, by rw [HW.out, ST.out, BA.out]; simpa using hown', (((HB3.out wq hbq).alloc hzq _).grown hgrow5 (by simp; omega) (fun k e => (hrowq.lt k e).1))⟩, rfl⟩)
              case measure => simp [intOf]; omega
        · have hme : m = evs.length := by omega
          have HRW := Lib.hid hrow
          subst hme
          obtain ⟨⟨va, vn, vc⟩, hv2, hi2⟩ := row_ints .i64 (by have := wantTo_len evs A evs.length; omega) hrow
          dsimp only at hv2
          subst hv2
          clear hrow HRW
          have HB5 : Hid (∀ W, Below wr.heap.size wr W → Below w.heap.size w W ∧ Below wc.heap.size wc W) := Lib.hid (fun W h => ⟨(HBW.out.trans (hb2.mono (by have := HBW.out.size; omega))).trans (h.mono (by have := HBW.out.size; omega)), (hbr.trans (hb2.mono hzr)).trans (h.mono (by omega))⟩)
          by_cases hl0 : l.length = 0
          · have F : Hid (res = false) := Lib.hid (by rw [← RES.out]; exact rowsTo_false _ _ _ _ hlt (by rw [RK.out]; simp [hl0]))
            have g1 : ((l.length : Int) == 0) = true := by simp [hl0]
            have g2 : (l.length == 0) = true := by simp [hl0]
            go_wp2
            go_ret
            exact ⟨ret_bool F.out.symm, (HB5.out _ (Below.refl _ _)).1⟩
          have g1 : ((l.length : Int) == 0) = false := beq_eq_false_iff_ne.2 (by omega)
          have g2 : (l.length == 0) = false := beq_eq_false_iff_ne.2 (by omega)
          have gpos : 0 < l.length := by omega
          obtain ⟨lb, lo, rfl, hlb, hlc⟩ : ∃ lb lo, ra = some ⟨lb, lo, none⟩ ∧ lb < w.heap.size ∧ ∀ j, j < l.length → w.cell? ⟨lb, lo + j, none⟩ = some (.int .i64 (l.getD j 0)) := LI.out.2.2.resolve_left (by intro h; rw [h] at hl0; simp at hl0)
          obtain ⟨z, hz⟩ : ∃ z, l.getD 0 0 = z := ⟨_, rfl⟩
          have cz : wr.cell? ⟨lb, lo, none⟩ = some (.int .i64 z) := by rw [(HB5.out wr (Below.refl _ _)).1.cell (p := ⟨lb, lo, none⟩) hlb, ← hz]; exact hlc 0 gpos
          have HZ := Lib.hid hz
          clear hz hlc
          obtain ⟨bz, hbz⟩ : ∃ bool_ : Bool, (z != (k : Int)) = bool_ := ⟨_, rfl⟩
          have BZ := Lib.hid hbz
          cases bz with
          | true =>
            have F : Hid (res = false) := Lib.hid (by rw [← RES.out]; exact rowsTo_false _ _ _ _ hlt (by rw [RK.out, HZ.out, BZ.out]; simp))
            go_wp2
            go_ret
            exact ⟨ret_bool F.out.symm, (HB5.out _ (Below.refl _ _)).1⟩
          | false =>
            have hli5 : IntsIn .i64 wr.heap.size wr ⟨some ⟨lb, lo, none⟩, l.length, rc⟩ l := (LI.out.below (HB5.out wr (Below.refl _ _)).1).mono (by have := (HB5.out wr (Below.refl _ _)).1.size; omega)
            have ctr : Hid (∀ W5, W5 = wr.alloc (.cells #[.slice (some ⟨lb, lo, none⟩) l.length rc] 23) → Calls Tryz.prog 84 #[.func (.func 95) #[] #[.pointer (some ⟨wr.heap.size, 0, none⟩)]] W5 fun e w' =>
                ∃ s' : Sl, e = .returned (.slice s'.a s'.n s'.c) ∧ IntsIn .i64 w'.heap.size w' s' (sortI l) ∧ Below W5.heap.size W5 w') := Lib.hid (fun W5 h => by
              subst h
              exact sortedVals_c wr.heap.size ⟨some ⟨lb, lo, none⟩, l.length, rc⟩ l _ (by simp) (by simp) ((hli5.below ((Below.refl _ _).alloc (Nat.le_refl _) _)).mono (by simp)) hl65)
            obtain ⟨be, hbe⟩ : ∃ bool_ : Bool, (sortI l == wantTo evs A evs.length) = bool_ := ⟨_, rfl⟩
            have BE := Lib.hid hbe
            have EQ : Hid (∀ (s' : Sl) (W5 W6 : World), W5 = wr.alloc (.cells #[.slice (some ⟨lb, lo, none⟩) l.length rc] 23) → Below W5.heap.size W5 W6 → IntsIn .i64 W6.heap.size W6 s' (sortI l) → Calls Tryz.prog 83 #[.slice s'.a s'.n s'.c, .slice va vn vc] W6 fun e w' => e = .returned (.bool be) ∧ Below wr.heap.size wr w') := Lib.hid (fun s' W5 W6 h5 hb6 hi6 => by
              subst h5
              have hb7 : Below wr.heap.size wr W6 := ((Below.refl wr.heap.size wr).alloc (Nat.le_refl _) _).trans (hb6.mono (by simp))
              refine (equal_c s' ⟨va, vn, vc⟩ (sortI l) (wantTo evs A evs.length) _ _ W6 hi6 (hi2.below hb7)).mono ?_
              rintro e w' ⟨rfl, q, rfl⟩
              exact ⟨by rw [BE.out], hb7.trans ⟨rfl, rfl, rfl, Nat.le_refl _, fun _ _ => rfl⟩⟩)
            clear hli5 hi2 hbe
            cases be with
            | true =>
              have D : Hid (rowOk evs ad k (rows.getD k default).2 = true) := Lib.hid (by rw [RK.out, HZ.out, BZ.out, BE.out, g2]; rfl)
              go_wp2_with (first
                | (go_at_call 85; refine (vals_c _ _ _ _).mono ?_; rintro e w5 ⟨rfl, rfl⟩)
                | (go_at_call 84; refine (ctr.out _ rfl).mono ?_; rintro e w6 ⟨⟨sa6, sn6, sc6⟩, rfl, hi6, hb6⟩)
                | (go_at_call 83; refine (EQ.out ⟨sa6, sn6, sc6⟩ _ _ rfl hb6 hi6).mono ?_; rintro e w7 ⟨rfl, hb7⟩))
              go_roundw
              case rel => first | exact ⟨k + 1, by omega, by go_num, by rw [rowsTo_succ, HTO.out, D.out]; rfl, (HB5.out _ hb7).2⟩ | ((repeat apply Exists.intro); exact ⟨⟨k + 1, by omega, by go_num, by rw [rowsTo_succ, HTO.out, D.out]; rfl, (HB5.out _ hb7).2⟩, rfl⟩)
              case measure => simp [intOf]; omega
            | false =>
              have F : Hid (res = false) := Lib.hid (by rw [← RES.out]; exact rowsTo_false _ _ _ _ hlt (by rw [RK.out, BE.out]; simp))
              go_wp2_with (first
                | (go_at_call 85; refine (vals_c _ _ _ _).mono ?_; rintro e w5 ⟨rfl, rfl⟩)
                | (go_at_call 84; refine (ctr.out _ rfl).mono ?_; rintro e w6 ⟨⟨sa6, sn6, sc6⟩, rfl, hi6, hb6⟩)
                | (go_at_call 83; refine (EQ.out ⟨sa6, sn6, sc6⟩ _ _ rfl hb6 hi6).mono ?_; rintro e w7 ⟨rfl, hb7⟩))
              go_ret
              exact ⟨ret_bool F.out.symm, (HB5.out _ hb7).1⟩
    · have hke : k = rows.length := by omega
      have F : Hid (res = true) := Lib.hid (by rw [← RES.out]; unfold orderB; rw [← hke, HTO.out]; have := HLEN.out; simp; omega)
      clear hke
      go_wp2
      go_ret
      exact ⟨ret_bool F.out.symm, hb.trans (hbr.mono (by omega))⟩
theorem order_c (x : Ex) (s : Sl) (ad : List Int) (w : World) (hx : x.inW w.heap.size w) (hl : IntsIn .u32 w.heap.size w s ad) (h64 : x.evs.length ≤ 64) (hrows : ∀ r ∈ x.order, r.2.length ≤ 65536) :
    Calls Tryz.prog 49 #[x.agg, .slice s.a s.n s.c] w fun o w' => o = .returned (.bool (orderB x.evs ad x.order)) ∧ Below w.heap.size w w' := by
  by_cases h : x.order.length = ad.length
  · exact order_eq_c x s ad w hx hl h h64 hrows
  · refine (order_len_c x s ad w hx hl h).mono ?_
    rintro o w' ⟨rfl, hb⟩
    exact ⟨by unfold orderB; simp [h], hb⟩
end Go.Proofs.YtnghoibkjphfmaaGreat
/- Whether an event may be where it stands, behind so many EvBegin. -/
namespace Go.Proofs.YtnghoibkjphfmaaGreat
open Go.RowKit
/-- the first line of the check: bare, an address that is a multiple of 4, lists that may be -/
def evPre (es : List Ev) (n : Nat) : Bool :=
  (es.getD n default).bareB && ((es.getD n default).addr % 4 == 0) && hangsB es n (es.getD n default).addrs && hangsB es n (es.getD n default).datas && hangsB es n (es.getD n default).ctrls
def evOk (es : List Ev) (ad : List Int) (n : Nat) : Bool :=
  evPre es n && (if n < ad.length then (es.getD n default).kind == 5 && ((es.getD n default).addr == ad.getD n 0)
    else (es.getD n default).kind != 5 && decide (0 ≤ (es.getD n default).hart) && decide ((es.getD n default).hart < 4) && ((n : Int) == ad.length || decide ((es.getD (n - 1) default).hart ≤ (es.getD n default).hart)))
set_option maxRecDepth 100000 in
set_option maxHeartbeats 1000000 in
theorem event_c (x : Ex) (n : Nat) (s : Sl) (ad : List Int) (w : World) (hx : x.inW w.heap.size w) (hl : IntsIn .u32 w.heap.size w s ad) (hn : n < x.evs.length) :
    Calls Tryz.prog 47 #[x.agg, .int .i64 n, .int .i64 ad.length, .slice s.a s.n s.c] w fun o w' => o = .returned (.bool (evOk x.evs ad n)) ∧ Below w.heap.size w w' := by
  have HX := Lib.hid hx
  have HXE := Lib.hid hx.1
  have hsm : x.evs.length ≤ 1152921504606846976 := hx.1.2.1
  obtain ⟨E, hE⟩ : ∃ E, x.evs.getD n default = E := ⟨_, rfl⟩
  have hmem : E ∈ x.evs := by rw [← hE, List.getD_eq_getElem?_getD, List.getElem?_eq_getElem hn]; simp
  have hok := hx.1.2.2.1 E hmem
  have HOK := Lib.hid hok
  have h4 : ∃ b off, x.es.a = some ⟨b, off, none⟩ ∧ b < w.heap.size ∧ ∀ k, k < x.evs.length → EvCells w b (off + k * 13) (x.evs.getD k default) := by
    rcases hx.1.2.2.2 with h4 | h4
    · rw [h4] at hn; simp at hn
    · exact h4
  obtain ⟨b, off, hea, hbB, hcell⟩ := h4
  have hen := hx.1.1
  have hcn := hcell n hn
  rw [hE] at hcn
  have HC := Lib.hid hcell
  clear hcell hx hok hmem
  obtain ⟨res, hres⟩ : ∃ z : Bool, evOk x.evs ad n = z := ⟨_, rfl⟩
  rw [hres]
  have RES := Lib.hid hres
  have HE := Lib.hid hE
  clear hres hE
  obtain ⟨g1, g2, g3⟩ := hl
  have XA : Hid (x.agg = .agg #[.slice (some ⟨b, off, none⟩) x.evs.length x.es.c, .slice x.fs.a x.fs.n x.fs.c, .slice x.os.a x.os.n x.os.c]) := Lib.hid (by unfold Ex.agg; rw [hea, hen])
  rw [XA.out]
  clear hea hen
  unfold EvCells at hcn
  obtain ⟨c1, c2, c3, c4, c5, c6, c7, c8, c9, c10, c11, c12, c13⟩ := hcn
  go_enter Tryz.func47, Tryz.ntmps47
  go_upto_region 1 with (fail)
  go_cut [0, 9] (fun s0 s9 wx => s9 = .pointer (some ⟨w.heap.size + 1, 0, none⟩) ∧ Below w.heap.size w wx ∧ w.heap.size + 1 < wx.heap.size ∧ wx.cell? ⟨w.heap.size, 0, none⟩ = some (.slice (some ⟨b, off, none⟩) x.evs.length x.es.c) ∧
    wx.cell? ⟨w.heap.size, 1, none⟩ = some (.slice x.fs.a x.fs.n x.fs.c) ∧ wx.cell? ⟨w.heap.size, 2, none⟩ = some (.slice x.os.a x.os.n x.os.c) ∧ wx.cell? ⟨w.heap.size + 1, 0, none⟩ = some (Value.int IntKind.i64 E.hart) ∧ wx.cell? ⟨w.heap.size + 1, 1, none⟩ = some (Value.int IntKind.i64 E.kind) ∧ wx.cell? ⟨w.heap.size + 1, 2, none⟩ = some (Value.int IntKind.u32 E.addr) ∧ wx.cell? ⟨w.heap.size + 1, 3, none⟩ = some (Value.int IntKind.u32 E.val) ∧ wx.cell? ⟨w.heap.size + 1, 4, none⟩ = some (Value.int IntKind.u32 E.rval) ∧ wx.cell? ⟨w.heap.size + 1, 5, none⟩ = some (Value.bool E.aq) ∧ wx.cell? ⟨w.heap.size + 1, 6, none⟩ = some (Value.bool E.rl) ∧ wx.cell? ⟨w.heap.size + 1, 7, none⟩ = some (Value.int IntKind.i64 E.pred) ∧ wx.cell? ⟨w.heap.size + 1, 8, none⟩ = some (Value.int IntKind.i64 E.succ) ∧ wx.cell? ⟨w.heap.size + 1, 9, none⟩ = some (Value.bool E.rsv) ∧ wx.cell? ⟨w.heap.size + 1, 10, none⟩ = some (Value.slice E.av.a E.av.n E.av.c) ∧ wx.cell? ⟨w.heap.size + 1, 11, none⟩ = some (Value.slice E.dv.a E.dv.n E.dv.c) ∧ wx.cell? ⟨w.heap.size + 1, 12, none⟩ = some (Value.slice E.cv.a E.cv.n E.cv.c))
  case first =>
    go_wp2_with fail
    go_meet
    refine ⟨rfl, ((Below.refl _ _).alloc (Nat.le_refl _) _).alloc (by simp) _, by simp, by simp, by simp, by simp, ?_⟩
    simp
  case rest =>
  obtain ⟨rfl, hb, hsz, b0, b1, b2, q0, q1, q2, q3, q4, q5, q6, q7, q8, q9, q10, q11, q12⟩ := hcut
  clear c1 c2 c3 c4 c5 c6 c7 c8 c9 c10 c11 c12 c13
  have hB0 : w.heap.size < wc.heap.size := by omega
  have HS := Lib.hid HOK.out.small
  have HW : Hid (∀ W, Below wc.heap.size wc W → Below w.heap.size w W ∧ w.heap.size ≤ W.heap.size) := Lib.hid (fun W h => ⟨hb.trans (h.mono (by omega)), by have := h.size; omega⟩)
  have CH : Hid (∀ (sl : Sl) (l : List Int), IntsIn .i64 w.heap.size w sl l → ∀ W, Below wc.heap.size wc W → Calls Tryz.prog 82 #[.agg #[.slice (some ⟨b, off, none⟩) x.evs.length x.es.c, .slice x.fs.a x.fs.n x.fs.c, .slice x.os.a x.os.n x.os.c], .int .i64 n, .slice sl.a sl.n sl.c] W
      fun o w' => o = .returned (.bool (hangsB x.evs n l)) ∧ Below W.heap.size W w') := Lib.hid (fun sl l hsl W hW => by
    rw [← XA.out]
    exact hangs_c x n sl l W ((HXE.out.below (HW.out W hW).1).mono (HW.out W hW).2) ((hsl.below (HW.out W hW).1).mono (HW.out W hW).2) hn)
  have RV : Hid (res = (E.bareB && (E.addr % 4 == 0) && hangsB x.evs n E.addrs && hangsB x.evs n E.datas && hangsB x.evs n E.ctrls && (if n < ad.length then E.kind == 5 && (E.addr == ad.getD n 0)
    else E.kind != 5 && decide (0 ≤ E.hart) && decide (E.hart < 4) && ((n : Int) == ad.length || decide ((x.evs.getD (n - 1) default).hart ≤ E.hart))))) := Lib.hid (by rw [← RES.out]; unfold evOk evPre; rw [HE.out])
  go_wp2_with fail
  refine (bare_c E HS.out _).mono ?_; rintro o w1 ⟨rfl, hb1⟩
  generalize hbb : E.bareB = bb at *
  have BB := Lib.hid hbb
  clear hbb
  have r1 : ∀ b o, b < (wc).heap.size → (w1).cell? ⟨b, o, none⟩ = (wc).cell? ⟨b, o, none⟩ := fun b o hh => (hb1).cell (p := ⟨b, o, none⟩) hh
  cases bb with
  | false =>
    go_wp2
    go_ret
    exact ⟨ret_bool (by rw [RV.out]; simp), hb.trans (hb1.mono (by omega))⟩
  | true =>
  have eAd := HOK.out.2.2.2.2.2.1.1
  have eA := Lib.hid HOK.out.1
  have eD := Lib.hid HOK.out.2.1
  have eC := Lib.hid HOK.out.2.2.1
  obtain ⟨ra, hra⟩ : ∃ bool_ : Bool, (E.addr % 4 != 0) = bool_ := ⟨_, rfl⟩
  have RA : Hid ((E.addr % 4 == 0) = !ra) := Lib.hid (by rw [← hra]; simp [bne])
  have tz : E.addr.tmod 4 = E.addr % 4 := Int.tmod_eq_emod_of_nonneg eAd
  cases ra with
  | true =>
    go_wp2
    go_ret
    exact ⟨ret_bool (by rw [RV.out, RA.out]; simp), hb.trans (hb1.mono (by omega))⟩
  | false =>
  go_wp2_with fail
  refine (CH.out E.av _ eA.out w1 hb1).mono ?_; rintro o w2 ⟨rfl, hb2⟩
  have hc2 := hb1.trans (hb2.mono hb1.size)
  have r2 : ∀ b o, b < (wc).heap.size → (w2).cell? ⟨b, o, none⟩ = (wc).cell? ⟨b, o, none⟩ := fun b o hh => (hc2).cell (p := ⟨b, o, none⟩) hh
  generalize hhA : hangsB x.evs n E.addrs = hA at *
  clear hhA
  cases hA with
  | false =>
    go_wp2
    go_ret
    exact ⟨ret_bool (by rw [RV.out]; simp), hb.trans (hc2.mono (by omega))⟩
  | true =>
  go_wp2_with fail
  refine (CH.out E.dv _ eD.out w2 hc2).mono ?_; rintro o w3 ⟨rfl, hb3⟩
  have hc3 := hc2.trans (hb3.mono hc2.size)
  clear r1 r2
  have r3 : ∀ b o, b < (wc).heap.size → (w3).cell? ⟨b, o, none⟩ = (wc).cell? ⟨b, o, none⟩ := fun b o hh => (hc3).cell (p := ⟨b, o, none⟩) hh
  generalize hhD : hangsB x.evs n E.datas = hD at *
  clear hhD
  cases hD with
  | false =>
    go_wp2
    go_ret
    exact ⟨ret_bool (by rw [RV.out]; simp), hb.trans (hc3.mono (by omega))⟩
  | true =>
  go_wp2_with fail
  refine (CH.out E.cv _ eC.out w3 hc3).mono ?_; rintro o w4 ⟨rfl, hb4⟩
  have hc4 := hc3.trans (hb4.mono hc3.size)
  clear r3
  generalize hhC : hangsB x.evs n E.ctrls = hC at *
  clear hhC
  cases hC with
  | false =>
    have r4 : ∀ b o, b < (wc).heap.size → (w4).cell? ⟨b, o, none⟩ = (wc).cell? ⟨b, o, none⟩ := fun b o hh => (hc4).cell (p := ⟨b, o, none⟩) hh
    go_wp2
    go_ret
    exact ⟨ret_bool (by rw [RV.out]; simp), hb.trans (hc4.mono (by omega))⟩
  | true =>
  have HB4 := (HW.out w4 hc4)
  have o0 : ∀ p, (over w4 p).cell? ⟨w.heap.size + 1, 0, none⟩ = some (.int .i64 E.hart) := fun p => over_cell w4 p (by have := hc4.size; omega) ((hc4.cell (p := ⟨w.heap.size + 1, 0, none⟩) hsz).trans q0)
  have o1 : ∀ p, (over w4 p).cell? ⟨w.heap.size + 1, 1, none⟩ = some (.int .i64 E.kind) := fun p => over_cell w4 p (by have := hc4.size; omega) ((hc4.cell (p := ⟨w.heap.size + 1, 1, none⟩) hsz).trans q1)
  have o2 : ∀ p, (over w4 p).cell? ⟨w.heap.size + 1, 2, none⟩ = some (.int .u32 E.addr) := fun p => over_cell w4 p (by have := hc4.size; omega) ((hc4.cell (p := ⟨w.heap.size + 1, 2, none⟩) hsz).trans q2)
  have o3 : ∀ p, (over w4 p).cell? ⟨w.heap.size, 0, none⟩ = some (.slice (some ⟨b, off, none⟩) x.evs.length x.es.c) := fun p => over_cell w4 p (by have := hc4.size; omega) ((hc4.cell (p := ⟨w.heap.size, 0, none⟩) hB0).trans b0)
  have HBW := Lib.hid (hb.trans (hc4.mono (Nat.le_of_lt hB0)))
  have G2 : w4.heap.size ≥ w.heap.size := HB4.2
  by_cases hlt : n < ad.length
  · obtain ⟨lb, lo, hla, hlB, hlc⟩ : ∃ lb lo, s.a = some ⟨lb, lo, none⟩ ∧ lb < w.heap.size ∧ ∀ k, k < ad.length → w.cell? ⟨lb, lo + k, none⟩ = some (.int .u32 (ad.getD k 0)) := by
      rcases g3 with g3 | g3
      · rw [g3] at hlt; simp at hlt
      · exact g3
    clear g3
    obtain ⟨av, hav⟩ : ∃ av, ad.getD n 0 = av := ⟨_, rfl⟩
    have o4 : ∀ p, (over w4 p).cell? ⟨lb, lo + n, none⟩ = some (.int .u32 av) := fun p => over_cell w4 p (by omega) ((HB4.1.cell (p := ⟨lb, lo + n, none⟩) hlB).trans (by rw [hlc n hlt, hav]))
    have HAV := Lib.hid hav
    clear hav hlc
    obtain ⟨k5, hk5⟩ : ∃ bool_ : Bool, (E.kind == 5) = bool_ := ⟨_, rfl⟩
    obtain ⟨ae, hae⟩ : ∃ bool_ : Bool, (E.addr == av) = bool_ := ⟨_, rfl⟩
    have RV2 : Hid (res = (k5 && ae)) := Lib.hid (by rw [RV.out, RA.out, if_pos hlt, HAV.out, hk5, hae]; simp)
    have K5 := Lib.hid hk5
    have AE := Lib.hid hae
    cases k5 with
    | false =>
      go_wp2
      refine wp_region_over (by kernel_rfl) (by kernel_rfl) ?_
      repeat (go_big_quiet_step (fail))
      refine wpQuiet_nil ?_
      intro wq hwq
      obtain ⟨pq, hwq2⟩ := hwq
      have hbq : Below (w4).heap.size (w4) wq := by rw [hwq2]; exact over_below (w4) pq
      clear hwq2
      go_wp2
      go_ret
      exact ⟨ret_bool (by rw [RV2.out]; simp), HBW.out.trans (hbq.mono G2)⟩
    | true =>
      go_wp2
      refine wp_region_over (by kernel_rfl) (by kernel_rfl) ?_
      repeat (go_big_quiet_step (fail))
      refine wpQuiet_nil ?_
      intro wq hwq
      obtain ⟨pq, hwq2⟩ := hwq
      have hbq : Below (w4).heap.size (w4) wq := by rw [hwq2]; exact over_below (w4) pq
      clear hwq2
      go_wp2
      go_ret
      exact ⟨ret_bool (by rw [RV2.out]; simp), HBW.out.trans (hbq.mono G2)⟩
  · clear g3
    obtain ⟨ln, hln⟩ : ∃ ln, ad.length = ln := ⟨_, rfl⟩
    rw [hln] at hlt g2 ⊢
    have HLN := Lib.hid hln
    clear hln
    obtain ⟨k6, hk6⟩ : ∃ bool_ : Bool, (E.kind != 5) = bool_ := ⟨_, rfl⟩
    obtain ⟨h0, hh0⟩ : ∃ bool_ : Bool, decide (0 ≤ E.hart) = bool_ := ⟨_, rfl⟩
    obtain ⟨h4, hh4⟩ : ∃ bool_ : Bool, decide (E.hart < 4) = bool_ := ⟨_, rfl⟩
    have RV1 : Hid (res = (k6 && h0 && h4 && ((n : Int) == ln || decide ((x.evs.getD (n - 1) default).hart ≤ E.hart)))) := Lib.hid (by rw [RV.out, RA.out, HLN.out, if_neg hlt, hk6, hh0, hh4]; simp)
    cases k6 with
    | false =>
      go_wp2
      refine wp_region_over (by kernel_rfl) (by kernel_rfl) ?_
      repeat (go_big_quiet_step (fail))
      refine wpQuiet_nil ?_
      intro wq hwq
      obtain ⟨pq, hwq2⟩ := hwq
      have hbq : Below (w4).heap.size (w4) wq := by rw [hwq2]; exact over_below (w4) pq
      clear hwq2
      go_wp2
      go_ret
      exact ⟨ret_bool (by rw [RV1.out]; simp), HBW.out.trans (hbq.mono G2)⟩
    | true =>
    cases h0 with
    | false =>
      go_wp2
      refine wp_region_over (by kernel_rfl) (by kernel_rfl) ?_
      repeat (go_big_quiet_step (fail))
      refine wpQuiet_nil ?_
      intro wq hwq
      obtain ⟨pq, hwq2⟩ := hwq
      have hbq : Below (w4).heap.size (w4) wq := by rw [hwq2]; exact over_below (w4) pq
      clear hwq2
      go_wp2
      go_ret
      exact ⟨ret_bool (by rw [RV1.out]; simp), HBW.out.trans (hbq.mono G2)⟩
    | true =>
    cases h4 with
    | false =>
      go_wp2
      refine wp_region_over (by kernel_rfl) (by kernel_rfl) ?_
      repeat (go_big_quiet_step (fail))
      refine wpQuiet_nil ?_
      intro wq hwq
      obtain ⟨pq, hwq2⟩ := hwq
      have hbq : Below (w4).heap.size (w4) wq := by rw [hwq2]; exact over_below (w4) pq
      clear hwq2
      go_wp2
      go_ret
      exact ⟨ret_bool (by rw [RV1.out]; simp), HBW.out.trans (hbq.mono G2)⟩
    | true =>
    by_cases heq : n = ln
    · have F : Hid (res = true) := Lib.hid (by rw [RV1.out, heq]; simp)
      subst heq
      go_wp2
      refine wp_region_over (by kernel_rfl) (by kernel_rfl) ?_
      repeat (go_big_quiet_step (fail))
      refine wpQuiet_nil ?_
      intro wq hwq
      obtain ⟨pq, hwq2⟩ := hwq
      have hbq : Below (w4).heap.size (w4) wq := by rw [hwq2]; exact over_below (w4) pq
      clear hwq2
      go_wp2
      go_ret
      exact ⟨ret_bool (by rw [F.out]), HBW.out.trans (hbq.mono G2)⟩
    · have hn1 : n - 1 < x.evs.length := by omega
      have hn0 : ln < n := by omega
      have hne : ((n : Int) == (ln : Int)) = false := by simp; omega
      have hne2 : (n == ln) = false := by simpa using heq
      obtain ⟨ph, hph⟩ : ∃ ph, (x.evs.getD (n - 1) default).hart = ph := ⟨_, rfl⟩
      have o5 : ∀ p, (over w4 p).cell? ⟨b, off + (n - 1) * 13, none⟩ = some (.int .i64 ph) := fun p => over_cell w4 p (by omega) ((HB4.1.cell (p := ⟨b, _, none⟩) hbB).trans (by rw [(HC.out (n - 1) hn1).1, hph]))
      have HPH := Lib.hid hph
      clear hph heq
      go_wp2
      refine wp_region_over (by kernel_rfl) (by kernel_rfl) ?_
      repeat (go_big_quiet_step (fail))
      refine wpQuiet_nil ?_
      intro wq hwq
      obtain ⟨pq, hwq2⟩ := hwq
      have hbq : Below (w4).heap.size (w4) wq := by rw [hwq2]; exact over_below (w4) pq
      clear hwq2
      go_wp2
      go_ret
      exact ⟨ret_bool (by rw [RV1.out, HPH.out, hne]; simp), HBW.out.trans (hbq.mono G2)⟩
end Go.Proofs.YtnghoibkjphfmaaGreat
/- Whether From may be: each event that loads reads from another one that stores, of its address, whose value is its own. -/
namespace Go.Proofs.YtnghoibkjphfmaaGreat
open Go.RowKit
/-- the store that an event names, where it names one -/
def srcOk (es : List Ev) (e : Ev) (f : Int) : Bool :=
  (es.getD f.toNat default).stB && !((es.getD f.toNat default).addr != e.addr) && !((es.getD f.toNat default).val != e.rval)
def fromOk (es : List Ev) (fs : List Int) (k : Nat) : Bool :=
  (!(es.getD k default).ldB && (fs.getD k 0 == -1)) ||
  ((es.getD k default).ldB && !(fs.getD k 0 == (k : Int)) && !(decide (fs.getD k 0 < 0)) && !(decide ((es.length : Int) ≤ fs.getD k 0)) && srcOk es (es.getD k default) (fs.getD k 0))
def fromTo (es : List Ev) (fs : List Int) (k : Nat) : Bool := (List.range k).all (fromOk es fs)
def fromB (es : List Ev) (fs : List Int) : Bool := decide (fs.length = es.length) && fromTo es fs fs.length
theorem fromTo_succ (es : List Ev) (fs : List Int) (k : Nat) : fromTo es fs (k + 1) = (fromTo es fs k && fromOk es fs k) := by
  simp [fromTo, List.range_succ]
theorem fromTo_false (es : List Ev) (fs : List Int) (k : Nat) (hk : k < fs.length) (h : fromOk es fs k = false) : fromB es fs = false := by
  have : fromTo es fs fs.length = false := by
    unfold fromTo
    rw [List.all_eq_false]
    exact ⟨k, by simpa using hk, by simp [h]⟩
  unfold fromB; rw [this]; simp
set_option maxRecDepth 100000 in
set_option maxHeartbeats 1000000 in
/-- the lengths part -/
theorem from_len_c (x : Ex) (w : World) (hx : x.inW w.heap.size w) (hlen : x.from_.length ≠ x.evs.length) :
    Calls Tryz.prog 48 #[x.agg] w fun o w' => o = .returned (.bool false) ∧ Below w.heap.size w w' := by
  obtain ⟨en, esm, _⟩ := hx.1
  obtain ⟨fn, fsm, _⟩ := hx.2.1
  have XA : Hid (x.agg = .agg #[.slice x.es.a x.evs.length x.es.c, .slice x.fs.a x.from_.length x.fs.c, .slice x.os.a x.os.n x.os.c]) := Lib.hid (by unfold Ex.agg; rw [en, fn])
  rw [XA.out]
  clear en fn hx
  have hl1 : ((x.from_.length : Int) != (x.evs.length : Int)) = true := by simp; omega
  have hl2 : (x.from_.length != x.evs.length) = true := by simp; omega
  clear hlen
  go_enter Tryz.func48, Tryz.ntmps48
  go_wp2
  go_ret
  exact ⟨rfl, (Below.refl _ _).alloc (Nat.le_refl _) _⟩
set_option maxRecDepth 100000 in
set_option maxHeartbeats 1000000 in
/-- no events at all -/
theorem from_none_c (x : Ex) (w : World) (hx : x.inW w.heap.size w) (h0 : x.from_ = []) (h1 : x.evs = []) :
    Calls Tryz.prog 48 #[x.agg] w fun o w' => o = .returned (.bool true) ∧ Below w.heap.size w w' := by
  obtain ⟨en, _, _⟩ := hx.1
  obtain ⟨fn, _, _⟩ := hx.2.1
  have XA : Hid (x.agg = .agg #[.slice x.es.a 0 x.es.c, .slice x.fs.a 0 x.fs.c, .slice x.os.a x.os.n x.os.c]) := Lib.hid (by unfold Ex.agg; rw [en, fn, h0, h1]; rfl)
  rw [XA.out]
  clear en fn hx h0 h1
  go_enter Tryz.func48, Tryz.ntmps48
  go_wp2
  go_loopw [16] (fun i wr => i = .int .i64 0 ∧ Below w.heap.size w wr) (fun _ _ => 0)
  case atStart => exact ⟨rfl, (Below.refl _ _).alloc (Nat.le_refl _) _⟩
  case round =>
    obtain ⟨rfl, hbr⟩ := hrel
    go_wp2
    go_ret
    exact ⟨rfl, hbr⟩
set_option maxRecDepth 100000 in
set_option maxHeartbeats 2000000 in
theorem from_some_c (x : Ex) (w : World) (hx : x.inW w.heap.size w) (hlen : x.from_.length = x.evs.length) (hne : x.evs ≠ []) :
    Calls Tryz.prog 48 #[x.agg] w fun o w' => o = .returned (.bool (fromB x.evs x.from_)) ∧ Below w.heap.size w w' := by
  obtain ⟨en, esm, _, ecl⟩ := hx.1
  obtain ⟨fn, fsm, fcl⟩ := hx.2.1
  obtain ⟨res, hres⟩ : ∃ z : Bool, fromB x.evs x.from_ = z := ⟨_, rfl⟩
  rw [hres]
  have RES := Lib.hid hres
  clear hres
  have hne2 : x.from_ ≠ [] := by intro h; rw [h] at hlen; exact hne (List.length_eq_zero_iff.1 hlen.symm)
  obtain ⟨fb, fo, hfa, hfB, hfc⟩ := fcl.resolve_left hne2
  obtain ⟨b, off, hea, hbB, hcl⟩ := ecl.resolve_left hne
  have XA : Hid (x.agg = .agg #[.slice (some ⟨b, off, none⟩) x.evs.length x.es.c, .slice (some ⟨fb, fo, none⟩) x.from_.length x.fs.c, .slice x.os.a x.os.n x.os.c]) := Lib.hid (by unfold Ex.agg; rw [en, fn, hfa, hea])
  rw [XA.out]
  clear en fn hfa hea hne hne2 ecl fcl hx
  have HFC := Lib.hid hfc
  have HCL := Lib.hid hcl
  have HLEN := Lib.hid hlen
  have hl1 : ((x.from_.length : Int) != (x.evs.length : Int)) = false := by simp; omega
  have hl2 : (x.from_.length != x.evs.length) = false := by simp; omega
  have hle : x.from_.length ≤ x.evs.length := by omega
  clear hlen hfc hcl
  go_enter Tryz.func48, Tryz.ntmps48
  go_upto_region 1 with (fail)
  refine alloc_opaque (X := fun W => Code.wp _ _ _ _ W) ?_
  intro wc hb hsz hcs
  have c0 : wc.cell? ⟨w.heap.size, 0, none⟩ = some (.slice (some ⟨b, off, none⟩) x.evs.length x.es.c) := hcs 0 _ rfl
  have c1 : wc.cell? ⟨w.heap.size, 1, none⟩ = some (.slice (some ⟨fb, fo, none⟩) x.from_.length x.fs.c) := hcs 1 _ rfl
  clear hcs
  go_wp2
  go_loopw [16] (fun i wr => ∃ k : Nat, k ≤ x.from_.length ∧ i = .int .i64 k ∧ fromTo x.evs x.from_ k = true ∧ Below wc.heap.size wc wr) (fun i _ => x.from_.length - (intOf i).toNat)
  case atStart => exact ⟨0, by omega, rfl, rfl, Below.refl _ _⟩
  case round =>
    obtain ⟨k, hk, rfl, hto, hbr⟩ := hrel
    have HTO := Lib.hid hto
    clear hto
    by_cases hlt : k < x.from_.length
    · have hke : k < x.evs.length := by omega
      have hwr : ∀ b o, b < w.heap.size → wr.cell? ⟨b, o, none⟩ = w.cell? ⟨b, o, none⟩ := fun b o h => (hbr.cell (p := ⟨b, o, none⟩) (by show b < _; omega)).trans (hb.cell (p := ⟨b, o, none⟩) h)
      obtain ⟨f, hf⟩ : ∃ f, x.from_.getD k 0 = f := ⟨_, rfl⟩
      have ck : wr.cell? ⟨fb, fo + k, none⟩ = some (.int .i64 f) := by rw [hwr _ _ hfB, HFC.out k hlt, hf]
      have c0r : wr.cell? ⟨w.heap.size, 0, none⟩ = some (.slice (some ⟨b, off, none⟩) x.evs.length x.es.c) := (hbr.cell (p := ⟨w.heap.size, 0, none⟩) hsz).trans c0
      obtain ⟨E, hE⟩ : ∃ E, x.evs.getD k default = E := ⟨_, rfl⟩
      have hcE := ((HCL.out k hke).below hb hbB).below hbr (show b < wc.heap.size by omega)
      rw [hE] at hcE
      unfold EvCells at hcE
      obtain ⟨q0, q1, q2, q3, q4, q5, q6, q7, q8, q9, q10, q11, q12⟩ := hcE
      have HF := Lib.hid hf
      have HE := Lib.hid hE
      have HWR := Lib.hid hwr
      clear hf hE hwr
      go_upto_region 7 with (fail)
      refine alloc_opaque (X := fun W => Code.wp _ _ _ _ W) ?_
      intro w1 hb1 hs1 hcs1
      have t0 : (w1).cell? ⟨wr.heap.size, 0, none⟩ = some (Value.int IntKind.i64 E.hart) := hcs1 0 _ rfl
      have t1 : (w1).cell? ⟨wr.heap.size, 1, none⟩ = some (Value.int IntKind.i64 E.kind) := hcs1 1 _ rfl
      have t2 : (w1).cell? ⟨wr.heap.size, 2, none⟩ = some (Value.int IntKind.u32 E.addr) := hcs1 2 _ rfl
      have t3 : (w1).cell? ⟨wr.heap.size, 3, none⟩ = some (Value.int IntKind.u32 E.val) := hcs1 3 _ rfl
      have t4 : (w1).cell? ⟨wr.heap.size, 4, none⟩ = some (Value.int IntKind.u32 E.rval) := hcs1 4 _ rfl
      have t5 : (w1).cell? ⟨wr.heap.size, 5, none⟩ = some (Value.bool E.aq) := hcs1 5 _ rfl
      have t6 : (w1).cell? ⟨wr.heap.size, 6, none⟩ = some (Value.bool E.rl) := hcs1 6 _ rfl
      have t7 : (w1).cell? ⟨wr.heap.size, 7, none⟩ = some (Value.int IntKind.i64 E.pred) := hcs1 7 _ rfl
      have t8 : (w1).cell? ⟨wr.heap.size, 8, none⟩ = some (Value.int IntKind.i64 E.succ) := hcs1 8 _ rfl
      have t9 : (w1).cell? ⟨wr.heap.size, 9, none⟩ = some (Value.bool E.rsv) := hcs1 9 _ rfl
      have t10 : (w1).cell? ⟨wr.heap.size, 10, none⟩ = some (Value.slice E.av.a E.av.n E.av.c) := hcs1 10 _ rfl
      have t11 : (w1).cell? ⟨wr.heap.size, 11, none⟩ = some (Value.slice E.dv.a E.dv.n E.dv.c) := hcs1 11 _ rfl
      have t12 : (w1).cell? ⟨wr.heap.size, 12, none⟩ = some (Value.slice E.cv.a E.cv.n E.cv.c) := hcs1 12 _ rfl
      clear hcs1 q0 q1 q2 q3 q4 q5 q6 q7 q8 q9 q10 q11 q12
      have hz1 := hbr.size
      have d0 : w1.cell? ⟨w.heap.size, 0, none⟩ = some (.slice (some ⟨b, off, none⟩) x.evs.length x.es.c) := (hb1.cell (p := ⟨w.heap.size, 0, none⟩) (by show w.heap.size < _; omega)).trans c0r
      clear c0r ck
      go_wp2_with fail
      refine (loads_c E w1).mono ?_; rintro o w2 ⟨rfl, hb2⟩
      have LC := Lib.hid (fun w => loads_c E w)
      have hz2 := hb2.size
      have r2 : ∀ b o, b < (w1).heap.size → (w2).cell? ⟨b, o, none⟩ = (w1).cell? ⟨b, o, none⟩ := fun b o hh => (hb2).cell (p := ⟨b, o, none⟩) hh
      have HWB : Hid (∀ W, Below w2.heap.size w2 W → Below w.heap.size w W ∧ Below wc.heap.size wc W) := Lib.hid (fun W h => ⟨hb.trans ((((hbr.mono (by omega)).trans (hb1.mono (by omega))).trans (hb2.mono (by omega))).trans (h.mono (by omega))), ((hbr.trans (hb1.mono (by omega))).trans (hb2.mono (by omega))).trans (h.mono (by omega))⟩)
      have o0 : ∀ p, (over w2 p).cell? ⟨w.heap.size, 0, none⟩ = some (.slice (some ⟨b, off, none⟩) x.evs.length x.es.c) := fun p => over_cell w2 p (by omega) ((r2 _ _ (by omega)).trans d0)
      cases hld : E.ldB with
      | false =>
        have LD := Lib.hid hld
        clear hld
        by_cases hf1 : f = -1
        · subst hf1
          have D : Hid (fromOk x.evs x.from_ k = true) := Lib.hid (by unfold fromOk; rw [HE.out, HF.out, LD.out]; simp)
          go_wp2
          go_roundw
          case rel => first | exact ⟨k + 1, by omega, by go_num, by rw [fromTo_succ, HTO.out, D.out]; rfl, (HWB.out w2 (Below.refl _ _)).2⟩ | ((repeat apply Exists.intro); exact ⟨⟨k + 1, by omega, by go_num, by rw [fromTo_succ, HTO.out, D.out]; rfl, (HWB.out w2 (Below.refl _ _)).2⟩, rfl⟩)
          case measure => simp [intOf]; omega
        · have F : Hid (res = false) := Lib.hid (by rw [← RES.out]; exact fromTo_false _ _ _ hlt (by unfold fromOk; rw [HE.out, HF.out, LD.out]; simp [hf1]))
          have hf2 : (f == -1) = false := by simpa using hf1
          clear hf1
          have z0 := (r2 _ _ hs1).trans t0
          have z1 := (r2 _ _ hs1).trans t1
          have z2 := (r2 _ _ hs1).trans t2
          have z3 := (r2 _ _ hs1).trans t3
          have z4 := (r2 _ _ hs1).trans t4
          have z5 := (r2 _ _ hs1).trans t5
          have z6 := (r2 _ _ hs1).trans t6
          have z7 := (r2 _ _ hs1).trans t7
          have z8 := (r2 _ _ hs1).trans t8
          have z9 := (r2 _ _ hs1).trans t9
          have z10 := (r2 _ _ hs1).trans t10
          have z11 := (r2 _ _ hs1).trans t11
          have z12 := (r2 _ _ hs1).trans t12
          have y0 : ∀ p, (over w2 p).cell? ⟨wr.heap.size, 0, none⟩ = some (Value.int IntKind.i64 E.hart) := fun p => over_cell w2 p (show wr.heap.size < w2.heap.size by omega) z0
          have y1 : ∀ p, (over w2 p).cell? ⟨wr.heap.size, 1, none⟩ = some (Value.int IntKind.i64 E.kind) := fun p => over_cell w2 p (show wr.heap.size < w2.heap.size by omega) z1
          have y2 : ∀ p, (over w2 p).cell? ⟨wr.heap.size, 2, none⟩ = some (Value.int IntKind.u32 E.addr) := fun p => over_cell w2 p (show wr.heap.size < w2.heap.size by omega) z2
          have y3 : ∀ p, (over w2 p).cell? ⟨wr.heap.size, 3, none⟩ = some (Value.int IntKind.u32 E.val) := fun p => over_cell w2 p (show wr.heap.size < w2.heap.size by omega) z3
          have y4 : ∀ p, (over w2 p).cell? ⟨wr.heap.size, 4, none⟩ = some (Value.int IntKind.u32 E.rval) := fun p => over_cell w2 p (show wr.heap.size < w2.heap.size by omega) z4
          have y5 : ∀ p, (over w2 p).cell? ⟨wr.heap.size, 5, none⟩ = some (Value.bool E.aq) := fun p => over_cell w2 p (show wr.heap.size < w2.heap.size by omega) z5
          have y6 : ∀ p, (over w2 p).cell? ⟨wr.heap.size, 6, none⟩ = some (Value.bool E.rl) := fun p => over_cell w2 p (show wr.heap.size < w2.heap.size by omega) z6
          have y7 : ∀ p, (over w2 p).cell? ⟨wr.heap.size, 7, none⟩ = some (Value.int IntKind.i64 E.pred) := fun p => over_cell w2 p (show wr.heap.size < w2.heap.size by omega) z7
          have y8 : ∀ p, (over w2 p).cell? ⟨wr.heap.size, 8, none⟩ = some (Value.int IntKind.i64 E.succ) := fun p => over_cell w2 p (show wr.heap.size < w2.heap.size by omega) z8
          have y9 : ∀ p, (over w2 p).cell? ⟨wr.heap.size, 9, none⟩ = some (Value.bool E.rsv) := fun p => over_cell w2 p (show wr.heap.size < w2.heap.size by omega) z9
          have y10 : ∀ p, (over w2 p).cell? ⟨wr.heap.size, 10, none⟩ = some (Value.slice E.av.a E.av.n E.av.c) := fun p => over_cell w2 p (show wr.heap.size < w2.heap.size by omega) z10
          have y11 : ∀ p, (over w2 p).cell? ⟨wr.heap.size, 11, none⟩ = some (Value.slice E.dv.a E.dv.n E.dv.c) := fun p => over_cell w2 p (show wr.heap.size < w2.heap.size by omega) z11
          have y12 : ∀ p, (over w2 p).cell? ⟨wr.heap.size, 12, none⟩ = some (Value.slice E.cv.a E.cv.n E.cv.c) := fun p => over_cell w2 p (show wr.heap.size < w2.heap.size by omega) z12
          clear z0 z1 z2 z3 z4 z5 z6 z7 z8 z9 z10 z11 z12
          go_wp2
          refine wp_region_over (by kernel_rfl) (by kernel_rfl) ?_
          repeat (go_big_quiet_step (((go_at_call 59; refine quiet_over (?_ : Calls _ _ _ _ fun e w' => e = .returned (.bool false) ∧ _); have t := LC.out; rw [LD.out] at t; exact t _))))
          refine wpQuiet_nil ?_
          intro wq hwq
          obtain ⟨pq, hwq2⟩ := hwq
          have hbq : Below (w2).heap.size (w2) wq := by rw [hwq2]; exact over_below (w2) pq
          clear hwq2
          go_wp2
          go_ret
          exact ⟨ret_bool F.out.symm, (HWB.out wq hbq).1⟩
      | true =>
        have LD := Lib.hid hld
        clear hld
        have z0 := (r2 _ _ hs1).trans t0
        have z1 := (r2 _ _ hs1).trans t1
        have z2 := (r2 _ _ hs1).trans t2
        have z3 := (r2 _ _ hs1).trans t3
        have z4 := (r2 _ _ hs1).trans t4
        have z5 := (r2 _ _ hs1).trans t5
        have z6 := (r2 _ _ hs1).trans t6
        have z7 := (r2 _ _ hs1).trans t7
        have z8 := (r2 _ _ hs1).trans t8
        have z9 := (r2 _ _ hs1).trans t9
        have z10 := (r2 _ _ hs1).trans t10
        have z11 := (r2 _ _ hs1).trans t11
        have z12 := (r2 _ _ hs1).trans t12
        have y0 : ∀ p, (over w2 p).cell? ⟨wr.heap.size, 0, none⟩ = some (Value.int IntKind.i64 E.hart) := fun p => over_cell w2 p (show wr.heap.size < w2.heap.size by omega) z0
        have y1 : ∀ p, (over w2 p).cell? ⟨wr.heap.size, 1, none⟩ = some (Value.int IntKind.i64 E.kind) := fun p => over_cell w2 p (show wr.heap.size < w2.heap.size by omega) z1
        have y2 : ∀ p, (over w2 p).cell? ⟨wr.heap.size, 2, none⟩ = some (Value.int IntKind.u32 E.addr) := fun p => over_cell w2 p (show wr.heap.size < w2.heap.size by omega) z2
        have y3 : ∀ p, (over w2 p).cell? ⟨wr.heap.size, 3, none⟩ = some (Value.int IntKind.u32 E.val) := fun p => over_cell w2 p (show wr.heap.size < w2.heap.size by omega) z3
        have y4 : ∀ p, (over w2 p).cell? ⟨wr.heap.size, 4, none⟩ = some (Value.int IntKind.u32 E.rval) := fun p => over_cell w2 p (show wr.heap.size < w2.heap.size by omega) z4
        have y5 : ∀ p, (over w2 p).cell? ⟨wr.heap.size, 5, none⟩ = some (Value.bool E.aq) := fun p => over_cell w2 p (show wr.heap.size < w2.heap.size by omega) z5
        have y6 : ∀ p, (over w2 p).cell? ⟨wr.heap.size, 6, none⟩ = some (Value.bool E.rl) := fun p => over_cell w2 p (show wr.heap.size < w2.heap.size by omega) z6
        have y7 : ∀ p, (over w2 p).cell? ⟨wr.heap.size, 7, none⟩ = some (Value.int IntKind.i64 E.pred) := fun p => over_cell w2 p (show wr.heap.size < w2.heap.size by omega) z7
        have y8 : ∀ p, (over w2 p).cell? ⟨wr.heap.size, 8, none⟩ = some (Value.int IntKind.i64 E.succ) := fun p => over_cell w2 p (show wr.heap.size < w2.heap.size by omega) z8
        have y9 : ∀ p, (over w2 p).cell? ⟨wr.heap.size, 9, none⟩ = some (Value.bool E.rsv) := fun p => over_cell w2 p (show wr.heap.size < w2.heap.size by omega) z9
        have y10 : ∀ p, (over w2 p).cell? ⟨wr.heap.size, 10, none⟩ = some (Value.slice E.av.a E.av.n E.av.c) := fun p => over_cell w2 p (show wr.heap.size < w2.heap.size by omega) z10
        have y11 : ∀ p, (over w2 p).cell? ⟨wr.heap.size, 11, none⟩ = some (Value.slice E.dv.a E.dv.n E.dv.c) := fun p => over_cell w2 p (show wr.heap.size < w2.heap.size by omega) z11
        have y12 : ∀ p, (over w2 p).cell? ⟨wr.heap.size, 12, none⟩ = some (Value.slice E.cv.a E.cv.n E.cv.c) := fun p => over_cell w2 p (show wr.heap.size < w2.heap.size by omega) z12
        clear z0 z1 z2 z3 z4 z5 z6 z7 z8 z9 z10 z11 z12
        by_cases hfk : f = (k : Int)
        · have hb1' : (f == (k : Int)) = true := by simpa using hfk
          have F : Hid (res = false) := Lib.hid (by rw [← RES.out]; exact fromTo_false _ _ _ hlt (by unfold fromOk; rw [HE.out, HF.out, LD.out]; simp [hfk]))
          go_wp2
          refine wp_region_over (by kernel_rfl) (by kernel_rfl) ?_
          repeat (go_big_quiet_step (((go_at_call 59; refine quiet_over (?_ : Calls _ _ _ _ fun e w' => e = .returned (.bool true) ∧ _); have t := LC.out; rw [LD.out] at t; exact t _))))
          refine wpQuiet_nil ?_
          intro wq hwq
          obtain ⟨pq, hwq2⟩ := hwq
          have hbq : Below (w2).heap.size (w2) wq := by rw [hwq2]; exact over_below (w2) pq
          clear hwq2
          go_wp2
          go_ret
          exact ⟨ret_bool F.out.symm, (HWB.out wq hbq).1⟩
        have hb1' : (f == (k : Int)) = false := by simpa using hfk
        by_cases hf0 : f < 0
        · have F : Hid (res = false) := Lib.hid (by rw [← RES.out]; exact fromTo_false _ _ _ hlt (by unfold fromOk; rw [HE.out, HF.out, LD.out]; simp [hf0]))
          go_wp2
          refine wp_region_over (by kernel_rfl) (by kernel_rfl) ?_
          repeat (go_big_quiet_step (((go_at_call 59; refine quiet_over (?_ : Calls _ _ _ _ fun e w' => e = .returned (.bool true) ∧ _); have t := LC.out; rw [LD.out] at t; exact t _))))
          refine wpQuiet_nil ?_
          intro wq hwq
          obtain ⟨pq, hwq2⟩ := hwq
          have hbq : Below (w2).heap.size (w2) wq := by rw [hwq2]; exact over_below (w2) pq
          clear hwq2
          go_wp2
          go_ret
          exact ⟨ret_bool F.out.symm, (HWB.out wq hbq).1⟩
        have hb2' : decide (f < 0) = false := by simpa using hf0
        by_cases hfn : (x.evs.length : Int) ≤ f
        · have F : Hid (res = false) := Lib.hid (by rw [← RES.out]; exact fromTo_false _ _ _ hlt (by unfold fromOk; rw [HE.out, HF.out, LD.out]; simp [hfn]))
          go_wp2
          refine wp_region_over (by kernel_rfl) (by kernel_rfl) ?_
          repeat (go_big_quiet_step (((go_at_call 59; refine quiet_over (?_ : Calls _ _ _ _ fun e w' => e = .returned (.bool true) ∧ _); have t := LC.out; rw [LD.out] at t; exact t _))))
          refine wpQuiet_nil ?_
          intro wq hwq
          obtain ⟨pq, hwq2⟩ := hwq
          have hbq : Below (w2).heap.size (w2) wq := by rw [hwq2]; exact over_below (w2) pq
          clear hwq2
          go_wp2
          go_ret
          exact ⟨ret_bool F.out.symm, (HWB.out wq hbq).1⟩
        have hb3' : decide ((x.evs.length : Int) ≤ f) = false := by simpa using hfn
        obtain ⟨fn, rfl⟩ : ∃ fn : Nat, f = fn := ⟨f.toNat, by omega⟩
        have hflt : fn < x.evs.length := by omega
        have hb4' : decide (x.evs.length ≤ fn) = false := by simp; omega
        have hb5' : ((fn : Int) < 0) = False := by simp
        obtain ⟨G, hG⟩ : ∃ G, x.evs.getD fn default = G := ⟨_, rfl⟩
        have hcG := (HCL.out fn hflt).below (HWB.out w2 (Below.refl _ _)).1 hbB
        rw [hG] at hcG
        have HG := Lib.hid hG
        clear hG
        have gX : ∀ p, EvCells (over w2 p) b (off + fn * 13) G := fun p => (hcG).below (over_below w2 p) (show b < w2.heap.size by omega)
        unfold EvCells at gX
        have g0 : ∀ p, (over w2 p).cell? ⟨b, (off + fn * 13), none⟩ = some (Value.int IntKind.i64 G.hart) := fun p => (gX p).1
        have g1 : ∀ p, (over w2 p).cell? ⟨b, (off + fn * 13) + 1, none⟩ = some (Value.int IntKind.i64 G.kind) := fun p => (gX p).2.1
        have g2 : ∀ p, (over w2 p).cell? ⟨b, (off + fn * 13) + 2, none⟩ = some (Value.int IntKind.u32 G.addr) := fun p => (gX p).2.2.1
        have g3 : ∀ p, (over w2 p).cell? ⟨b, (off + fn * 13) + 3, none⟩ = some (Value.int IntKind.u32 G.val) := fun p => (gX p).2.2.2.1
        have g4 : ∀ p, (over w2 p).cell? ⟨b, (off + fn * 13) + 4, none⟩ = some (Value.int IntKind.u32 G.rval) := fun p => (gX p).2.2.2.2.1
        have g5 : ∀ p, (over w2 p).cell? ⟨b, (off + fn * 13) + 5, none⟩ = some (Value.bool G.aq) := fun p => (gX p).2.2.2.2.2.1
        have g6 : ∀ p, (over w2 p).cell? ⟨b, (off + fn * 13) + 6, none⟩ = some (Value.bool G.rl) := fun p => (gX p).2.2.2.2.2.2.1
        have g7 : ∀ p, (over w2 p).cell? ⟨b, (off + fn * 13) + 7, none⟩ = some (Value.int IntKind.i64 G.pred) := fun p => (gX p).2.2.2.2.2.2.2.1
        have g8 : ∀ p, (over w2 p).cell? ⟨b, (off + fn * 13) + 8, none⟩ = some (Value.int IntKind.i64 G.succ) := fun p => (gX p).2.2.2.2.2.2.2.2.1
        have g9 : ∀ p, (over w2 p).cell? ⟨b, (off + fn * 13) + 9, none⟩ = some (Value.bool G.rsv) := fun p => (gX p).2.2.2.2.2.2.2.2.2.1
        have g10 : ∀ p, (over w2 p).cell? ⟨b, (off + fn * 13) + 10, none⟩ = some (Value.slice G.av.a G.av.n G.av.c) := fun p => (gX p).2.2.2.2.2.2.2.2.2.2.1
        have g11 : ∀ p, (over w2 p).cell? ⟨b, (off + fn * 13) + 11, none⟩ = some (Value.slice G.dv.a G.dv.n G.dv.c) := fun p => (gX p).2.2.2.2.2.2.2.2.2.2.2.1
        have g12 : ∀ p, (over w2 p).cell? ⟨b, (off + fn * 13) + 12, none⟩ = some (Value.slice G.cv.a G.cv.n G.cv.c) := fun p => (gX p).2.2.2.2.2.2.2.2.2.2.2.2
        clear gX
        have SC := Lib.hid (fun w => stores_c G w)
        have HFK := Lib.hid hfk
        clear hfk
        cases hst : G.stB with
        | false =>
          have ST := Lib.hid hst
          clear hst
          have F : Hid (res = false) := Lib.hid (by rw [← RES.out]; exact fromTo_false _ _ _ hlt (by unfold fromOk srcOk; rw [HE.out, HF.out, LD.out, Int.toNat_natCast, HG.out, ST.out]; simp))
          go_wp2
          refine wp_region_over (by kernel_rfl) (by kernel_rfl) ?_
          repeat (go_big_quiet_step ((first | (go_at_call 59; refine quiet_over (?_ : Calls _ _ _ _ fun e w' => e = .returned (.bool true) ∧ _); have t := LC.out; rw [LD.out] at t; exact t _) | (go_at_call 57; refine quiet_over (?_ : Calls _ _ _ _ fun e w' => e = .returned (.bool false) ∧ _); have t := SC.out; rw [ST.out] at t; exact t _))))
          refine wpQuiet_nil ?_
          intro wq hwq
          obtain ⟨pq, hwq2⟩ := hwq
          have hbq : Below (w2).heap.size (w2) wq := by rw [hwq2]; exact over_below (w2) pq
          clear hwq2
          go_wp2
          go_ret
          exact ⟨ret_bool F.out.symm, (HWB.out wq hbq).1⟩
        | true =>
        have ST := Lib.hid hst
        clear hst
        obtain ⟨ba, hba⟩ : ∃ bool_ : Bool, (G.addr != E.addr) = bool_ := ⟨_, rfl⟩
        obtain ⟨bv, hbv⟩ : ∃ bool_ : Bool, (G.val != E.rval) = bool_ := ⟨_, rfl⟩
        have BA := Lib.hid hba
        have BV := Lib.hid hbv
        cases ba with
        | true =>
          have F : Hid (res = false) := Lib.hid (by rw [← RES.out]; exact fromTo_false _ _ _ hlt (by unfold fromOk srcOk; rw [HE.out, HF.out, LD.out, Int.toNat_natCast, HG.out, ST.out, BA.out]; simp))
          go_wp2
          refine wp_region_over (by kernel_rfl) (by kernel_rfl) ?_
          repeat (go_big_quiet_step ((first | (go_at_call 59; refine quiet_over (?_ : Calls _ _ _ _ fun e w' => e = .returned (.bool true) ∧ _); have t := LC.out; rw [LD.out] at t; exact t _) | (go_at_call 57; refine quiet_over (?_ : Calls _ _ _ _ fun e w' => e = .returned (.bool true) ∧ _); have t := SC.out; rw [ST.out] at t; exact t _))))
          refine wpQuiet_nil ?_
          intro wq hwq
          obtain ⟨pq, hwq2⟩ := hwq
          have hbq : Below (w2).heap.size (w2) wq := by rw [hwq2]; exact over_below (w2) pq
          clear hwq2
          go_wp2
          go_ret
          exact ⟨ret_bool F.out.symm, (HWB.out wq hbq).1⟩
        | false =>
        cases bv with
        | true =>
          have F : Hid (res = false) := Lib.hid (by rw [← RES.out]; exact fromTo_false _ _ _ hlt (by unfold fromOk srcOk; rw [HE.out, HF.out, LD.out, Int.toNat_natCast, HG.out, ST.out, BA.out, BV.out]; simp))
          go_wp2
          refine wp_region_over (by kernel_rfl) (by kernel_rfl) ?_
          repeat (go_big_quiet_step ((first | (go_at_call 59; refine quiet_over (?_ : Calls _ _ _ _ fun e w' => e = .returned (.bool true) ∧ _); have t := LC.out; rw [LD.out] at t; exact t _) | (go_at_call 57; refine quiet_over (?_ : Calls _ _ _ _ fun e w' => e = .returned (.bool true) ∧ _); have t := SC.out; rw [ST.out] at t; exact t _))))
          refine wpQuiet_nil ?_
          intro wq hwq
          obtain ⟨pq, hwq2⟩ := hwq
          have hbq : Below (w2).heap.size (w2) wq := by rw [hwq2]; exact over_below (w2) pq
          clear hwq2
          go_wp2
          go_ret
          exact ⟨ret_bool F.out.symm, (HWB.out wq hbq).1⟩
        | false =>
          have D : Hid (fromOk x.evs x.from_ k = true) := Lib.hid (by unfold fromOk srcOk; rw [HE.out, HF.out, LD.out, Int.toNat_natCast, HG.out, ST.out, BA.out, BV.out]; have := HFK.out; simp; omega)
          go_wp2
          refine wp_region_over (by kernel_rfl) (by kernel_rfl) ?_
          repeat (go_big_quiet_step ((first | (go_at_call 59; refine quiet_over (?_ : Calls _ _ _ _ fun e w' => e = .returned (.bool true) ∧ _); have t := LC.out; rw [LD.out] at t; exact t _) | (go_at_call 57; refine quiet_over (?_ : Calls _ _ _ _ fun e w' => e = .returned (.bool true) ∧ _); have t := SC.out; rw [ST.out] at t; exact t _))))
          refine wpQuiet_nil ?_
          intro wq hwq
          obtain ⟨pq, hwq2⟩ := hwq
          have hbq : Below (w2).heap.size (w2) wq := by rw [hwq2]; exact over_below (w2) pq
          clear hwq2
          go_wp2
          go_roundw
          case rel => first | exact ⟨k + 1, by omega, by go_num, by rw [fromTo_succ, HTO.out, D.out]; rfl, (HWB.out wq hbq).2⟩ | ((repeat apply Exists.intro); exact ⟨⟨k + 1, by omega, by go_num, by rw [fromTo_succ, HTO.out, D.out]; rfl, (HWB.out wq hbq).2⟩, rfl⟩)
          case measure => simp [intOf]; omega
    · have hke : k = x.from_.length := by omega
      have F : Hid (res = true) := Lib.hid (by rw [← RES.out]; unfold fromB; rw [← hke, HTO.out]; have := HLEN.out; simp; omega)
      clear hke
      go_wp2
      go_ret
      exact ⟨ret_bool F.out.symm, hb.trans (hbr.mono (by omega))⟩
theorem from_c (x : Ex) (w : World) (hx : x.inW w.heap.size w) :
    Calls Tryz.prog 48 #[x.agg] w fun o w' => o = .returned (.bool (fromB x.evs x.from_)) ∧ Below w.heap.size w w' := by
  by_cases hlen : x.from_.length = x.evs.length
  · by_cases hne : x.evs = []
    · have h0 : x.from_ = [] := by rw [hne] at hlen; exact List.length_eq_zero_iff.1 hlen
      have : fromB x.evs x.from_ = true := by rw [hne, h0]; rfl
      rw [this]; exact from_none_c x w hx h0 hne
    · exact from_some_c x w hx hlen hne
  · have : fromB x.evs x.from_ = false := by unfold fromB; simp [hlen]
    rw [this]; exact from_len_c x w hx hlen
end Go.Proofs.YtnghoibkjphfmaaGreat
/- Whether an execution may be, or why not. -/
namespace Go.Proofs.YtnghoibkjphfmaaGreat
open Go.RowKit Go.Maps Go.Sort
def evsTo (es : List Ev) (ad : List Int) (k : Nat) : Bool := (List.range k).all (evOk es ad)
theorem evsTo_succ (es : List Ev) (ad : List Int) (k : Nat) : evsTo es ad (k + 1) = (evsTo es ad k && evOk es ad k) := by
  simp [evsTo, List.range_succ]
theorem evsTo_false (es : List Ev) (ad : List Int) (k : Nat) (hk : k < es.length) (h : evOk es ad k = false) : evsTo es ad es.length = false := by
  unfold evsTo
  rw [List.all_eq_false]
  exact ⟨k, by simpa using hk, by simp [h]⟩
/-- what Check answers -/
def checkI (x : Ex) : Int :=
  if 64 < x.evs.length then 3 else
  if evsTo x.evs (addrsTo x.evs) x.evs.length = false then 160 else
  if fromB x.evs x.from_ = false then 161 else
  if orderB x.evs (addrsTo x.evs) x.order = false then 162 else 0
theorem RowsIn.mono {B B' : Nat} {w : World} {s : Sl} {rows : List (Sl × List Int)} (h : RowsIn B w s rows) (hB : B ≤ B') : RowsIn B' w s rows := by
  obtain ⟨h1, h2, h3, h4⟩ := h
  refine ⟨h1, h2, fun r hr => (h3 r hr).mono hB, ?_⟩
  rcases h4 with h4 | ⟨b, off, h4, h5, h6⟩
  · exact Or.inl h4
  · exact Or.inr ⟨b, off, h4, by omega, h6⟩
theorem Ex.inW.mono {B B' : Nat} {w : World} {x : Ex} (h : x.inW B w) (hB : B ≤ B') : x.inW B' w := ⟨h.1.mono hB, h.2.1.mono hB, h.2.2.mono hB⟩
theorem Ex.inW.later {w w' : World} {x : Ex} (h : x.inW w.heap.size w) (hb : Below w.heap.size w w') : x.inW w'.heap.size w' := Ex.inW.mono (h.below hb) hb.size
theorem ret_num {a b : Int} (h : a = b) : Ending.returned (.int .i64 a) = Ending.returned (.int .i64 b) := by rw [h]
set_option maxRecDepth 100000 in
set_option maxHeartbeats 1000000 in
theorem check_long_c (x : Ex) (w : World) (hx : x.inW w.heap.size w) (h : 64 < x.evs.length) :
    Calls Tryz.prog 26 #[x.agg] w fun o w' => o = .returned (.int .i64 3) ∧ Below w.heap.size w w' := by
  obtain ⟨en, esm, _⟩ := hx.1
  have XA : Hid (x.agg = .agg #[.slice x.es.a x.evs.length x.es.c, .slice x.fs.a x.fs.n x.fs.c, .slice x.os.a x.os.n x.os.c]) := Lib.hid (by unfold Ex.agg; rw [en])
  rw [XA.out]
  clear en hx
  have h2 : (64 : Int) < (x.evs.length : Int) := by omega
  go_enter Tryz.func26, Tryz.ntmps26
  go_wp2
  go_step3
  go_wp2
  simp only [Exit.noGoto_ret]
  go_ret
  exact ⟨rfl, (Below.refl _ _).alloc (Nat.le_refl _) _⟩
set_option maxRecDepth 100000 in
set_option maxHeartbeats 4000000 in
theorem check_short_c (x : Ex) (w : World) (hx : x.inW w.heap.size w) (h64 : x.evs.length ≤ 64) (hrows : ∀ r ∈ x.order, r.2.length ≤ 65536) :
    Calls Tryz.prog 26 #[x.agg] w fun o w' => o = .returned (.int .i64 (checkI x)) ∧ Below w.heap.size w w' := by
  obtain ⟨⟨ea, en, ec⟩, ⟨fa, fn, fc⟩, ⟨oa, on, oc⟩, evs, from_, rows⟩ := x
  have e1 : en = evs.length := hx.1.1
  subst e1
  have HX := Lib.hid hx
  have H64 := Lib.hid h64
  unfold Ex.agg
  dsimp only at h64 hrows ⊢
  have AC : Hid (∀ W, Below w.heap.size w W → Calls Tryz.prog 46 #[.agg #[.slice ea evs.length ec, .slice fa fn fc, .slice oa on oc]] W fun o w' => ∃ s : Sl, o = .returned (.slice s.a s.n s.c) ∧ IntsIn .u32 w'.heap.size w' s (addrsTo evs) ∧ Below W.heap.size W w') :=
    Lib.hid (fun W hb => addrs_c _ W ((HX.out.1.below hb).mono hb.size) h64)
  have EC : Hid (∀ (W : World) (n : Nat) (s : Sl), Below w.heap.size w W → IntsIn .u32 W.heap.size W s (addrsTo evs) → n < evs.length → Calls Tryz.prog 47 #[.agg #[.slice ea evs.length ec, .slice fa fn fc, .slice oa on oc], .int .i64 n, .int .i64 (addrsTo evs).length, .slice s.a s.n s.c] W fun o w' => o = .returned (.bool (evOk evs (addrsTo evs) n)) ∧ Below W.heap.size W w') :=
    Lib.hid (fun W n s hb hi hn => event_c _ n s _ W (Ex.inW.later HX.out hb) hi hn)
  have FC : Hid (∀ (W : World), Below w.heap.size w W → Calls Tryz.prog 48 #[.agg #[.slice ea evs.length ec, .slice fa fn fc, .slice oa on oc]] W fun o w' => o = .returned (.bool (fromB evs from_)) ∧ Below W.heap.size W w') :=
    Lib.hid (fun W hb => from_c _ W (Ex.inW.later HX.out hb))
  have OC : Hid (∀ (W : World) (s : Sl), Below w.heap.size w W → IntsIn .u32 W.heap.size W s (addrsTo evs) → Calls Tryz.prog 49 #[.agg #[.slice ea evs.length ec, .slice fa fn fc, .slice oa on oc], .slice s.a s.n s.c] W fun o w' => o = .returned (.bool (orderB evs (addrsTo evs) rows)) ∧ Below W.heap.size W w') :=
    Lib.hid (fun W s hb hi => order_c _ s _ W (Ex.inW.later HX.out hb) hi h64 hrows)
  obtain ⟨res, hres⟩ : ∃ z : Int, checkI ⟨⟨ea, evs.length, ec⟩, ⟨fa, fn, fc⟩, ⟨oa, on, oc⟩, evs, from_, rows⟩ = z := ⟨_, rfl⟩
  rw [hres]
  have RES : Hid ((if evsTo evs (addrsTo evs) evs.length = false then (160 : Int) else if fromB evs from_ = false then 161 else if orderB evs (addrsTo evs) rows = false then 162 else 0) = res) := Lib.hid (by
    rw [← hres]; unfold checkI; rw [if_neg (show ¬ 64 < evs.length by omega)])
  have hal := addrsTo_len evs
  clear hres hx hrows
  go_enter Tryz.func26, Tryz.ntmps26
  go_upto_region 1 with (fail)
  refine alloc_opaque (X := fun W => Code.wp _ _ _ _ W) ?_
  intro wc hb hsz hcs
  have c0 : wc.cell? ⟨w.heap.size, 0, none⟩ = some (.slice ea evs.length ec) := hcs 0 _ rfl
  have c1 : wc.cell? ⟨w.heap.size, 1, none⟩ = some (.slice fa fn fc) := hcs 1 _ rfl
  have c2 : wc.cell? ⟨w.heap.size, 2, none⟩ = some (.slice oa on oc) := hcs 2 _ rfl
  clear hcs
  refine wp_scope_jumps 0 (fun a' w' => Below w.heap.size w w' ∧ ∃ u3 u4 u5 u6 u7 u8 u9 u10 u11 u12 u13 u14 u15 u16 u17 u18 u19 u20 u21 u22 u23 u24 u25 u26 u27 u28 u29 u30 u31 u32 u33 u34 u35 u36 u37 u38 u39 : Value, a' = { tmps := #[.agg #[.slice ea evs.length ec, .slice fa fn fc, .slice oa on oc], .pointer (some ⟨w.heap.size, 0, none⟩), .int .i64 res, u3, u4, u5, u6, u7, u8, u9, u10, u11, u12, u13, u14, u15, u16, u17, u18, u19, u20, u21, u22, u23, u24, u25, u26, u27, u28, u29, u30, u31, u32, u33, u34, u35, u36, u37, u38, u39], defers := [] }) (fun _ _ => 0) rfl ?first ?pass
  case pass =>
    rintro a' w' ⟨hb9, u3, u4, u5, u6, u7, u8, u9, u10, u11, u12, u13, u14, u15, u16, u17, u18, u19, u20, u21, u22, u23, u24, u25, u26, u27, u28, u29, u30, u31, u32, u33, u34, u35, u36, u37, u38, u39, rfl⟩
    go_wp2
    simp only [Exit.jump]
    go_ret
    exact ⟨rfl, hb9⟩
  case first =>
  go_wp2_with fail
  refine (AC.out wc hb).mono ?_; rintro o w1 ⟨⟨sa, sn, sc⟩, rfl, hi1, hb1⟩
  have hsn : sn = (addrsTo evs).length := hi1.1
  subst hsn
  have d0 : w1.cell? ⟨w.heap.size, 0, none⟩ = some (.slice ea evs.length ec) := (hb1.cell (p := ⟨w.heap.size, 0, none⟩) hsz).trans c0
  have d1 : w1.cell? ⟨w.heap.size, 1, none⟩ = some (.slice fa fn fc) := (hb1.cell (p := ⟨w.heap.size, 1, none⟩) hsz).trans c1
  have d2 : w1.cell? ⟨w.heap.size, 2, none⟩ = some (.slice oa on oc) := (hb1.cell (p := ⟨w.heap.size, 2, none⟩) hsz).trans c2
  have HB1 : Hid (∀ W, Below w1.heap.size w1 W → Below w.heap.size w W) := Lib.hid (fun W h => hb.trans ((hb1.mono (by omega)).trans (h.mono (by have := hb1.size; omega))))
  have HI1 := Lib.hid hi1
  have hz1 : w.heap.size < w1.heap.size := by have := hb1.size; omega
  obtain ⟨al, hal2⟩ : ∃ al, (addrsTo evs).length = al := ⟨_, rfl⟩
  have HAL := Lib.hid hal2
  rw [hal2] at EC hal ⊢
  clear c0 c1 c2 hi1 hb1 hb hal2
  have hal3 : decide ((evs.length : Int) < (al : Int)) = false := decide_eq_false (by omega)
  have hal4 : decide (evs.length < al) = false := decide_eq_false (by omega)
  go_wp2
  go_loopw [21] (fun i wr => ∃ k : Nat, k ≤ evs.length ∧ i = .int .i64 k ∧ evsTo evs (addrsTo evs) k = true ∧ Below w1.heap.size w1 wr) (fun i _ => evs.length - (intOf i).toNat)
  case atStart => exact ⟨0, by omega, rfl, rfl, Below.refl _ _⟩
  case round =>
    obtain ⟨k, hk, rfl, hto, hbr⟩ := hrel
    have HTO := Lib.hid hto
    clear hto
    have f0 : wr.cell? ⟨w.heap.size, 0, none⟩ = some (.slice ea evs.length ec) := (hbr.cell (p := ⟨w.heap.size, 0, none⟩) hz1).trans d0
    have f1 : wr.cell? ⟨w.heap.size, 1, none⟩ = some (.slice fa fn fc) := (hbr.cell (p := ⟨w.heap.size, 1, none⟩) hz1).trans d1
    have f2 : wr.cell? ⟨w.heap.size, 2, none⟩ = some (.slice oa on oc) := (hbr.cell (p := ⟨w.heap.size, 2, none⟩) hz1).trans d2
    have hzr := hbr.size
    by_cases hlt : k < evs.length
    · obtain ⟨be, hbe⟩ : ∃ bool_ : Bool, (evOk evs (addrsTo evs) k) = bool_ := ⟨_, rfl⟩
      have BE := Lib.hid hbe
      have ctr : Hid (Calls Tryz.prog 47 #[.agg #[.slice ea evs.length ec, .slice fa fn fc, .slice oa on oc], .int .i64 k, .int .i64 al, .slice sa al sc] wr fun o w' => o = .returned (.bool be) ∧ Below wr.heap.size wr w') := Lib.hid (by
        have t := EC.out wr k ⟨sa, al, sc⟩ (HB1.out _ hbr) (by have t2 := (HI1.out.below hbr).mono hzr; rw [HAL.out] at t2; exact t2) hlt
        rw [hbe] at t; exact t)
      clear hbe
      cases be with
      | true =>
        go_wp2_with (go_at_call 47; refine ctr.out.mono ?_; rintro o w2 ⟨rfl, hb2⟩)
        go_roundw
        case rel => first | exact ⟨k + 1, by omega, by go_num, by rw [evsTo_succ, HTO.out, BE.out]; rfl, hbr.trans (hb2.mono hzr)⟩ | ((repeat apply Exists.intro); exact ⟨⟨k + 1, by omega, by go_num, by rw [evsTo_succ, HTO.out, BE.out]; rfl, hbr.trans (hb2.mono hzr)⟩, rfl⟩)
        case measure => simp [intOf]; omega
      | false =>
        have F : Hid ((160 : Int) = res) := Lib.hid (by rw [← RES.out, if_pos (evsTo_false _ _ _ hlt BE.out)])
        go_wp2_with (go_at_call 47; refine ctr.out.mono ?_; rintro o w2 ⟨rfl, hb2⟩)
        go_step3
        refine ⟨rfl, HB1.out _ (hbr.trans (hb2.mono hzr)), ?_⟩
        rw [← F.out]
        repeat apply Exists.intro
        rfl
    · have hke : k = evs.length := by omega
      have ET : Hid (evsTo evs (addrsTo evs) evs.length = true) := Lib.hid (by have := HTO.out; rw [hke] at this; exact this)
      have fctr : Hid (Calls Tryz.prog 48 #[.agg #[.slice ea evs.length ec, .slice fa fn fc, .slice oa on oc]] wr fun o w' => o = .returned (.bool (fromB evs from_)) ∧ Below wr.heap.size wr w') := Lib.hid (FC.out wr (HB1.out _ hbr))
      have octr : Hid (∀ W, Below wr.heap.size wr W → Calls Tryz.prog 49 #[.agg #[.slice ea evs.length ec, .slice fa fn fc, .slice oa on oc], .slice sa al sc] W fun o w' => o = .returned (.bool (orderB evs (addrsTo evs) rows)) ∧ Below W.heap.size W w') := Lib.hid (fun W hW => by
        have t := OC.out W ⟨sa, al, sc⟩ (HB1.out _ (hbr.trans (hW.mono hzr))) (by have t2 := (HI1.out.below (hbr.trans (hW.mono hzr))).mono (by have := hW.size; omega : w1.heap.size ≤ W.heap.size); rw [HAL.out] at t2; exact t2)
        exact t)
      clear hke
      obtain ⟨fb, hfb⟩ : ∃ bool_ : Bool, (fromB evs from_) = bool_ := ⟨_, rfl⟩
      have FB := Lib.hid hfb
      rw [hfb] at fctr
      clear hfb
      cases fb with
      | false =>
        have F : Hid ((161 : Int) = res) := Lib.hid (by rw [← RES.out, if_neg (by rw [ET.out]; simp), if_pos FB.out])
        go_wp2_with (go_at_call 48; refine fctr.out.mono ?_; rintro o w2 ⟨rfl, hb2⟩)
        go_step3
        refine ⟨rfl, HB1.out _ (hbr.trans (hb2.mono hzr)), ?_⟩
        rw [← F.out]
        repeat apply Exists.intro
        rfl
      | true =>
        obtain ⟨ob, hob⟩ : ∃ bool_ : Bool, (orderB evs (addrsTo evs) rows) = bool_ := ⟨_, rfl⟩
        have OB := Lib.hid hob
        rw [hob] at octr
        clear hob
        cases ob with
        | false =>
          have F : Hid ((162 : Int) = res) := Lib.hid (by rw [← RES.out, if_neg (by rw [ET.out]; simp), if_neg (by rw [FB.out]; simp), if_pos OB.out])
          go_wp2_with fail
          refine fctr.out.mono ?_; rintro o w2 ⟨rfl, hb2⟩
          have g0 : w2.cell? ⟨w.heap.size, 0, none⟩ = some (.slice ea evs.length ec) := (hb2.cell (p := ⟨w.heap.size, 0, none⟩) (by show w.heap.size < _; omega)).trans f0
          have g1 : w2.cell? ⟨w.heap.size, 1, none⟩ = some (.slice fa fn fc) := (hb2.cell (p := ⟨w.heap.size, 1, none⟩) (by show w.heap.size < _; omega)).trans f1
          have g2 : w2.cell? ⟨w.heap.size, 2, none⟩ = some (.slice oa on oc) := (hb2.cell (p := ⟨w.heap.size, 2, none⟩) (by show w.heap.size < _; omega)).trans f2
          have octr2 := Lib.hid (octr.out w2 hb2)
          go_wp2_with fail
          refine octr2.out.mono ?_; rintro o w3 ⟨rfl, hb3⟩
          go_wp2
          go_step3
          refine ⟨rfl, HB1.out _ ((hbr.trans (hb2.mono hzr)).trans (hb3.mono (by have := hb2.size; omega))), ?_⟩
          rw [← F.out]
          repeat apply Exists.intro
          rfl
        | true =>
          have F : Hid ((0 : Int) = res) := Lib.hid (by rw [← RES.out, if_neg (by rw [ET.out]; simp), if_neg (by rw [FB.out]; simp), if_neg (by rw [OB.out]; simp)])
          go_wp2_with fail
          refine fctr.out.mono ?_; rintro o w2 ⟨rfl, hb2⟩
          have g0 : w2.cell? ⟨w.heap.size, 0, none⟩ = some (.slice ea evs.length ec) := (hb2.cell (p := ⟨w.heap.size, 0, none⟩) (by show w.heap.size < _; omega)).trans f0
          have g1 : w2.cell? ⟨w.heap.size, 1, none⟩ = some (.slice fa fn fc) := (hb2.cell (p := ⟨w.heap.size, 1, none⟩) (by show w.heap.size < _; omega)).trans f1
          have g2 : w2.cell? ⟨w.heap.size, 2, none⟩ = some (.slice oa on oc) := (hb2.cell (p := ⟨w.heap.size, 2, none⟩) (by show w.heap.size < _; omega)).trans f2
          have octr2 := Lib.hid (octr.out w2 hb2)
          go_wp2_with fail
          refine octr2.out.mono ?_; rintro o w3 ⟨rfl, hb3⟩
          go_wp2
          simp only [Exit.jump]
          go_ret
          exact ⟨ret_num F.out, HB1.out _ ((hbr.trans (hb2.mono hzr)).trans (hb3.mono (by have := hb2.size; omega)))⟩
theorem check_c (x : Ex) (w : World) (hx : x.inW w.heap.size w) (hrows : ∀ r ∈ x.order, r.2.length ≤ 65536) :
    Calls Tryz.prog 26 #[x.agg] w fun o w' => o = .returned (.int .i64 (checkI x)) ∧ Below w.heap.size w w' := by
  by_cases h : 64 < x.evs.length
  · refine (check_long_c x w hx h).mono ?_
    rintro o w' ⟨rfl, hb⟩
    exact ⟨by unfold checkI; rw [if_pos h], hb⟩
  · exact check_short_c x w hx (by omega) hrows
end Go.Proofs.YtnghoibkjphfmaaGreat
/- The reference's functions of layer 6, walked in plain data: the small ones. -/
set_option maxRecDepth 100000
set_option linter.unusedVariables false
set_option linter.unusedSimpArgs false
namespace Go.Proofs.YtnghoibkjphfmaaGreat
open Go.RowKit
/-- where a number stands in a list from place k on -/
def atFrom (n : Int) : List Int → Nat → Int
  | [], _ => -1
  | a :: l, k => if a = n then k else atFrom n l (k + 1)
def atI (l : List Int) (n : Int) : Int := atFrom n l 0
theorem atFrom_drop (l : List Int) (n : Int) (k : Nat) (h : k < l.length) : atFrom n (l.drop k) k = if l.getD k 0 = n then (k : Int) else atFrom n (l.drop (k + 1)) (k + 1) := by
  rw [List.drop_eq_getElem_cons h, atFrom, List.getD_eq_getElem?_getD, List.getElem?_eq_getElem h]; rfl
set_option maxHeartbeats 1000000 in
theorem at_p (l : List Int) (n : Int) (hl : l.length ≤ 1152921504606846976) : Pure E.P 35 [.d (ints l), .int .i64 n] (.int .i64 (atI l n)) := by
  refine fn_of_awp Tryz.func35 (by decide) rfl Tryz.ntmps35 (Nat.le_of_ble_eq_true rfl) rfl ?_
  refine awp_seq ?_
  (refine ao_region ?_ (fun _ => ?_); exact rfl)
  refine q12 ?_; refine ao_nil ?_; refine then_n ?_
  iterate 2 refine awp_seq ?_
  (refine ao_region ?_ (fun _ => ?_); exact rfl)
  refine q12 ?_; refine ao_nil ?_; refine then_n ?_; refine awp_block ?_
  rotate_left
  refine awp_loop (X := Nat) (fun k => tmL [(0, .d (ints l)), (1, .int .i64 n), (5, .int .i64 k)]) (fun _ => stL []) (fun k => k ≤ l.length ∧ atI l n = atFrom n (l.drop k) k) (fun k => l.length - k) 0 ⟨Nat.zero_le _, rfl⟩ (by repeat' (first | exact le_nil _ | exact sle_nil _ | refine le_cons rfl ?_ | refine sle_cons rfl ?_)) (by repeat' (first | exact le_nil _ | exact sle_nil _ | refine le_cons rfl ?_ | refine sle_cons rfl ?_)) ?_
  intro k hk
  obtain ⟨hk, ht⟩ := hk
  iterate 2 refine awp_seq ?_
  (refine ao_region ?_ (fun _ => ?_); exact rfl)
  iterate 2 refine q11 ?_
  refine q13 ?_; refine q37 ?_; refine ao_nil ?_; refine then_n ?_
  (apply awp_cond; exact rfl)
  (refine im_dt (fun _ => ?_); (try (exfalso; omega)))
  refine awp_skip ?_; refine then_n ?_; refine awp_seq ?_; refine awp_block ?_; refine awp_seq ?_
  (refine ao_region ?_ (fun _ => ?_); exact rfl)
  iterate 2 refine q11 ?_
  refine q17 ?_; refine q23 ?_; refine q11 ?_; refine q46 ?_; refine ao_nil ?_; refine then_n ?_
  (apply awp_cond; exact rfl)
  (refine im_dt (fun _ => ?_); (try (exfalso; omega)))
  refine awp_seq ?_
  (refine ao_region ?_ (fun _ => ?_); exact rfl)
  refine q11 ?_; refine q12 ?_; refine ao_nil ?_; refine then_n ?_; refine awp_ret ?_; refine blk_r ?_
  iterate 2 refine then_r ?_
  refine blk_r ?_; refine then_r ?_
  rotate_left
  (refine im_df (fun _ => ?_); (try (exfalso; omega)))
  refine awp_skip ?_; refine blk_n ?_; refine then_n ?_
  (refine ao_region ?_ (fun _ => ?_); exact rfl)
  refine q11 ?_; refine q36 ?_; refine q12 ?_; refine ao_nil ?_; refine then_n ?_
  rotate_left
  (refine im_df (fun _ => ?_); (try (exfalso; omega)))
  refine awp_exit ?_
  iterate 2 refine then_x ?_
  refine blk_x ?_; refine then_n ?_; refine awp_seq ?_
  (refine ao_region ?_ (fun _ => ?_); exact rfl)
  refine q12 ?_; refine ao_nil ?_; refine then_n ?_; refine awp_ret ?_
  rotate_left
  · refine done_i rfl ?_
    rw [ht, atFrom_drop l n k (by omega), if_pos (by assumption)]
  · refine round (k + 1) ⟨by omega, ?_⟩ (by omega) (by repeat' (first | exact le_nil _ | exact sle_nil _ | refine le_cons rfl ?_ | refine sle_cons rfl ?_)) (by repeat' (first | exact le_nil _ | exact sle_nil _ | refine le_cons rfl ?_ | refine sle_cons rfl ?_))
    rw [ht, atFrom_drop l n k (by omega), if_neg (by assumption)]
  · refine done_i rfl ?_
    rw [ht, show k = l.length by omega, List.drop_length]; rfl
theorem rstores_p (e : Ev) : Pure E.P 34 [evOV e] (.bool e.stB) := by
  refine fn_of_awp Tryz.func34 (by decide) rfl Tryz.ntmps34 (Nat.le_of_ble_eq_true rfl) rfl ?_
  refine awp_seq ?_
  (refine ao_region ?_ (fun _ => ?_); exact rfl)
  refine q40 ?_; refine q12 ?_; refine ao_nil ?_; refine then_n ?_; refine awp_seq ?_
  (refine ao_region ?_ (fun _ => ?_); exact rfl)
  refine q28 ?_; refine q31 ?_; refine q46 ?_; refine q11 ?_
  (apply spec_f; exact rfl; exact rfl)
  (refine im_any fun hc_ => ?_; try have hc1_ := (band hc_).1)
  refine q2
  (apply spec_f; exact rfl; exact rfl)
  (refine im_any fun hc_ => ?_; try have hc1_ := (band hc_).1)
  refine q3
  (apply spec_f; exact rfl; exact rfl)
  (refine im_any fun hc_ => ?_; try have hc1_ := (band hc_).1)
  refine q7; refine q0 ?_; refine q11 ?_
  (apply spec_f; exact rfl; exact rfl)
  (refine im_any fun hc_ => ?_; try have hc1_ := (band hc_).1)
  refine q2
  (apply spec_f; exact rfl; exact rfl)
  (refine im_any fun hc_ => ?_; try have hc1_ := (band hc_).1)
  refine q3
  (apply spec_f; exact rfl; exact rfl)
  (refine im_any fun hc_ => ?_; try have hc1_ := (band hc_).1)
  refine q7; refine q0 ?_; refine q12 ?_; refine ao_nil ?_; refine then_n ?_; refine awp_ret ?_
  rotate_left
  all_goals (refine done_b rfl ?_; rw [Bool.eq_iff_iff]; simp_all [Ev.stB])
theorem rloads_p (e : Ev) : Pure E.P 33 [evOV e] (.bool e.ldB) := by
  refine fn_of_awp Tryz.func33 (by decide) rfl Tryz.ntmps33 (Nat.le_of_ble_eq_true rfl) rfl ?_
  refine awp_seq ?_
  (refine ao_region ?_ (fun _ => ?_); exact rfl)
  refine q40 ?_; refine q12 ?_; refine ao_nil ?_; refine then_n ?_; refine awp_seq ?_
  (refine ao_region ?_ (fun _ => ?_); exact rfl)
  refine q28 ?_; refine q31 ?_; refine q46 ?_; refine q11 ?_
  (apply spec_f; exact rfl; exact rfl)
  (refine im_any fun hc_ => ?_; try have hc1_ := (band hc_).1)
  refine q2
  (apply spec_f; exact rfl; exact rfl)
  (refine im_any fun hc_ => ?_; try have hc1_ := (band hc_).1)
  refine q3
  (apply spec_f; exact rfl; exact rfl)
  (refine im_any fun hc_ => ?_; try have hc1_ := (band hc_).1)
  refine q7; refine q0 ?_; refine q12 ?_; refine ao_nil ?_; refine then_n ?_; refine awp_ret ?_
  rotate_left
  all_goals (refine done_b rfl ?_; rw [Bool.eq_iff_iff]; simp_all [Ev.ldB])
/-- is an event zero but for what its kind names? (the reference's words) -/
def Ev.rbareB (e : Ev) : Bool :=
  if e.kind < 1 ∨ 5 < e.kind ∨ e.pred < 0 ∨ 3 < e.pred ∨ e.succ < 0 ∨ 3 < e.succ then false
  else if e.kind ≠ 4 ∧ (e.pred ≠ 0 ∨ e.succ ≠ 0) ∨ (e.kind = 4 ∨ e.kind = 5) ∧ (e.aq = true ∨ e.rl = true) ∨ e.kind ≠ 1 ∧ e.kind ≠ 2 ∧ e.rsv = true then false
  else if e.stB = false ∧ e.val ≠ 0 ∨ e.ldB = false ∧ e.rval ≠ 0 ∨ e.kind = 4 ∧ e.addr ≠ 0 then false
  else (decide (e.kind = 2) || decide (e.kind = 3) || decide ((e.datas.length : Int) = 0)) && (decide (e.kind < 4) || decide ((e.addrs.length : Int) = 0)) && (decide (e.kind < 5) || decide ((e.ctrls.length : Int) = 0) && decide (e.hart = -1))
set_option maxHeartbeats 4000000 in
theorem rbare_p (e : Ev) : Pure E.P 31 [evOV e] (.bool e.rbareB) := by
  refine fn_of_awp Tryz.func31 (by decide) rfl Tryz.ntmps31 (Nat.le_of_ble_eq_true rfl) rfl ?_
  refine awp_seq ?_
  (refine ao_region ?_ (fun _ => ?_); exact rfl)
  refine q40 ?_; refine q12 ?_; refine ao_nil ?_; refine then_n ?_; refine awp_seq ?_
  (refine ao_region ?_ (fun _ => ?_); exact rfl)
  refine q28 ?_; refine q31 ?_; refine q12 ?_; refine ao_nil ?_; refine then_n ?_
  iterate 2 refine awp_seq ?_
  (refine ao_region ?_ (fun _ => ?_); exact rfl)
  refine q11 ?_; refine q37 ?_; refine q11 ?_
  (apply spec_f; exact rfl; exact rfl)
  (refine im_any fun hc_ => ?_; try have hc1_ := (band hc_).1)
  refine q1
  (apply spec_f; exact rfl; exact rfl)
  (refine im_any fun hc_ => ?_; try have hc1_ := (band hc_).1)
  refine q35; refine q0 ?_; refine q11 ?_
  (apply spec_f; exact rfl; exact rfl)
  (refine im_any fun hc_ => ?_; try have hc1_ := (band hc_).1)
  refine q2
  (apply spec_f; exact rfl; exact rfl)
  (refine im_any fun hc_ => ?_; try have hc1_ := (band hc_).1)
  refine q3
  (apply spec_f; exact rfl; exact rfl)
  (refine im_any fun hc_ => ?_; try have hc1_ := (band hc_).1)
  refine q22; refine q0 ?_; refine q11 ?_
  (apply spec_f; exact rfl; exact rfl)
  (refine im_any fun hc_ => ?_; try have hc1_ := (band hc_).1)
  refine q2
  (apply spec_f; exact rfl; exact rfl)
  (refine im_any fun hc_ => ?_; try have hc1_ := (band hc_).1)
  refine q3
  (apply spec_f; exact rfl; exact rfl)
  (refine im_any fun hc_ => ?_; try have hc1_ := (band hc_).1)
  refine q35; refine q0 ?_; refine q11 ?_
  (apply spec_f; exact rfl; exact rfl)
  (refine im_any fun hc_ => ?_; try have hc1_ := (band hc_).1)
  refine q2
  (apply spec_f; exact rfl; exact rfl)
  (refine im_any fun hc_ => ?_; try have hc1_ := (band hc_).1)
  refine q3
  (apply spec_f; exact rfl; exact rfl)
  (refine im_any fun hc_ => ?_; try have hc1_ := (band hc_).1)
  refine q22; refine q0 ?_; refine q11 ?_
  (apply spec_f; exact rfl; exact rfl)
  (refine im_any fun hc_ => ?_; try have hc1_ := (band hc_).1)
  refine q2
  (apply spec_f; exact rfl; exact rfl)
  (refine im_any fun hc_ => ?_; try have hc1_ := (band hc_).1)
  refine q3
  (apply spec_f; exact rfl; exact rfl)
  (refine im_any fun hc_ => ?_; try have hc1_ := (band hc_).1)
  refine q35; refine q0 ?_; refine ao_nil ?_; refine then_n ?_
  (apply awp_cond; exact rfl)
  (refine im_ot (fun hc_ => ?_); (try simp only [Bool.not_eq_true', Bool.not_eq_false', Bool.or_eq_true, Bool.and_eq_true, Bool.or_eq_false_iff, Bool.and_eq_false_iff, decide_eq_true_eq, decide_eq_false_iff_not, Decidable.not_not, Int.not_lt, Int.not_le, Bool.not_true, Bool.not_false, Bool.true_and, Bool.and_true, Bool.false_or, Bool.or_false, Bool.true_or, Bool.false_and, bne_eq_false_iff_eq, bne_iff_ne, beq_iff_eq, beq_eq_false_iff_ne, decide_eq_decide] at hc_))
  refine awp_seq ?_
  (refine ao_region ?_ (fun _ => ?_); exact rfl)
  refine q12 ?_; refine ao_nil ?_; refine then_n ?_; refine awp_ret ?_; refine then_r ?_
  rotate_left
  iterate 5 refine im_of ?_
  iterate 6 (refine im_df (fun _ => ?_); (try (exfalso; omega)))
  refine awp_skip ?_; refine then_n ?_
  iterate 2 refine awp_seq ?_
  (refine ao_region ?_ (fun _ => ?_); exact rfl)
  refine q11 ?_; refine q44 ?_; refine q11 ?_
  (apply spec_t; exact rfl; exact rfl)
  (refine im_any fun hc_ => ?_; try have hc1_ := (band hc_).1)
  refine q2
  (apply spec_t; exact rfl; exact rfl)
  (refine im_any fun hc_ => ?_; try have hc1_ := (band hc_).1)
  refine q3
  (apply spec_t; exact rfl; exact rfl)
  (refine im_any fun hc_ => ?_; try have hc1_ := (band hc_).1)
  refine q26
  (apply spec_t; exact rfl; exact rfl)
  (refine im_any fun hc_ => ?_; try have hc1_ := (band hc_).1)
  refine q1
  (apply spec_mf; exact rfl; exact rfl)
  (refine im_any fun hc_ => ?_; try have hc1_ := (band hc_).1)
  refine q2
  (apply spec_mf; exact rfl; exact rfl)
  (refine im_any fun hc_ => ?_; try have hc1_ := (band hc_).1)
  refine q3
  (apply spec_mf; exact rfl; exact rfl)
  (refine im_any fun hc_ => ?_; try have hc1_ := (band hc_).1)
  refine q26
  (apply spec_t; exact rfl; exact rfl)
  (refine im_any fun hc_ => ?_; try have hc1_ := (band hc_).1)
  refine q24; refine q4 ?_; refine q11 ?_
  (apply spec_f; exact rfl; exact rfl)
  (refine im_any fun hc_ => ?_; try have hc1_ := (band hc_).1)
  refine q1
  (apply spec_f; exact rfl; exact rfl)
  (refine im_any fun hc_ => ?_; try have hc1_ := (band hc_).1)
  refine q7
  (apply spec_f; exact rfl; exact rfl)
  (refine im_any fun hc_ => ?_; try have hc1_ := (band hc_).1)
  refine q1
  (apply spec_mf; exact rfl; exact rfl)
  (refine im_any fun hc_ => ?_; try have hc1_ := (band hc_).1)
  refine q1
  (apply spec_mf; exact rfl; exact rfl)
  (refine im_any fun hc_ => ?_; try have hc1_ := (band hc_).1)
  refine q7
  (apply spec_f; exact rfl; exact rfl)
  (refine im_any fun hc_ => ?_; try have hc1_ := (band hc_).1)
  refine q24
  (apply spec_f; exact rfl; exact rfl)
  (refine im_any fun hc_ => ?_; try have hc1_ := (band hc_).1)
  refine q1
  (apply spec_mt; exact rfl; exact rfl)
  (refine im_any fun hc_ => ?_; try have hc1_ := (band hc_).1)
  refine q2
  (apply spec_mt; exact rfl; exact rfl)
  (refine im_any fun hc_ => ?_; try have hc1_ := (band hc_).1)
  refine q3
  (apply spec_mt; exact rfl; exact rfl)
  (refine im_any fun hc_ => ?_; try have hc1_ := (band hc_).1)
  refine q1
  (apply spec_mf; exact rfl; exact rfl)
  (refine im_any fun hc_ => ?_; try have hc1_ := (band hc_).1)
  refine q2
  (apply spec_mf; exact rfl; exact rfl)
  (refine im_any fun hc_ => ?_; try have hc1_ := (band hc_).1)
  refine q3
  (apply spec_mt; exact rfl; exact rfl)
  (refine im_any fun hc_ => ?_; try have hc1_ := (band hc_).1)
  refine q24
  (apply spec_f; exact rfl; exact rfl)
  (refine im_any fun hc_ => ?_; try have hc1_ := (band hc_).1)
  refine q10; refine q0 ?_; refine q11 ?_
  (apply spec_f; exact rfl; exact rfl)
  (refine im_any fun hc_ => ?_; try have hc1_ := (band hc_).1)
  refine q1
  (apply spec_f; exact rfl; exact rfl)
  (refine im_any fun hc_ => ?_; try have hc1_ := (band hc_).1)
  refine q26
  (apply spec_f; exact rfl; exact rfl)
  (refine im_any fun hc_ => ?_; try have hc1_ := (band hc_).1)
  refine q1
  (apply spec_mt; exact rfl; exact rfl)
  (refine im_any fun hc_ => ?_; try have hc1_ := (band hc_).1)
  refine q1
  (apply spec_mt; exact rfl; exact rfl)
  (refine im_any fun hc_ => ?_; try have hc1_ := (band hc_).1)
  refine q26
  (apply spec_f; exact rfl; exact rfl)
  (refine im_any fun hc_ => ?_; try have hc1_ := (band hc_).1)
  refine q10
  (apply spec_f; exact rfl; exact rfl)
  (refine im_any fun hc_ => ?_; try have hc1_ := (band hc_).1)
  refine q1
  (apply spec_mt; exact rfl; exact rfl)
  (refine im_any fun hc_ => ?_; try have hc1_ := (band hc_).1)
  refine q2
  (apply spec_mt; exact rfl; exact rfl)
  (refine im_any fun hc_ => ?_; try have hc1_ := (band hc_).1)
  refine q3
  (apply spec_f; exact rfl; exact rfl)
  (refine im_any fun hc_ => ?_; try have hc1_ := (band hc_).1)
  refine q10; refine q0 ?_; refine ao_nil ?_; refine then_n ?_
  (apply awp_cond; exact rfl)
  (refine im_ot (fun hc_ => ?_); (try simp only [Bool.not_eq_true', Bool.not_eq_false', Bool.or_eq_true, Bool.and_eq_true, Bool.or_eq_false_iff, Bool.and_eq_false_iff, decide_eq_true_eq, decide_eq_false_iff_not, Decidable.not_not, Int.not_lt, Int.not_le, Bool.not_true, Bool.not_false, Bool.true_and, Bool.and_true, Bool.false_or, Bool.or_false, Bool.true_or, Bool.false_and, bne_eq_false_iff_eq, bne_iff_ne, beq_iff_eq, beq_eq_false_iff_ne, decide_eq_decide] at hc_))
  refine awp_seq ?_
  (refine ao_region ?_ (fun _ => ?_); exact rfl)
  refine q12 ?_; refine ao_nil ?_; refine then_n ?_; refine awp_ret ?_; refine then_r ?_
  rotate_left
  iterate 2 refine im_of ?_
  iterate 3 (refine im_af (fun hc_ => ?_); (try simp only [Bool.not_eq_true', Bool.not_eq_false', Bool.or_eq_true, Bool.and_eq_true, Bool.or_eq_false_iff, Bool.and_eq_false_iff, decide_eq_true_eq, decide_eq_false_iff_not, Decidable.not_not, Int.not_lt, Int.not_le, Bool.not_true, Bool.not_false, Bool.true_and, Bool.and_true, Bool.false_or, Bool.or_false, Bool.true_or, Bool.false_and, bne_eq_false_iff_eq, bne_iff_ne, beq_iff_eq, beq_eq_false_iff_ne, decide_eq_decide] at hc_))
  refine awp_skip ?_; refine then_n ?_
  iterate 2 refine awp_seq ?_
  (refine ao_region ?_ (fun _ => ?_); exact rfl)
  (apply S_load_loA; exact rfl; exact rfl; exact rfl; exact rfl; exact rfl; exact Nat.le_of_ble_eq_true rfl)
  ((first
    | ((with_reducible apply S_call); exact rfl; exact .fn _ _ _; exact rfl; (first | exact rstores_p _ | exact rloads_p _))
    | ((with_reducible apply D_call); exact rfl; exact .fn _ _ _; exact rfl; (first | exact rstores_p _ | exact rloads_p _))))
  (apply S_not; exact rfl)
  refine q11 ?_
  (apply spec_t; exact rfl; exact rfl)
  (refine im_any fun hc_ => ?_; try have hc1_ := (band hc_).1)
  refine q2
  (apply spec_t; exact rfl; exact rfl)
  (refine im_any fun hc_ => ?_; try have hc1_ := (band hc_).1)
  refine q3
  (apply spec_t; exact rfl; exact rfl)
  (refine im_any fun hc_ => ?_; try have hc1_ := (band hc_).1)
  refine q26; refine q4 ?_; refine q11 ?_
  (apply spec_f; exact rfl; exact rfl)
  (refine im_any fun hc_ => ?_; try have hc1_ := (band hc_).1)
  refine q27
  (apply spec_f; exact rfl; exact rfl)
  (refine im_any fun hc_ => ?_; try have hc1_ := (band hc_).1)
  ((have hp_ := hc_; (try simp only [Bool.not_eq_true', Bool.not_eq_false', Bool.or_eq_true, Bool.and_eq_true, Bool.or_eq_false_iff, Bool.and_eq_false_iff, decide_eq_true_eq, decide_eq_false_iff_not, Decidable.not_not, Int.not_lt, Int.not_le, Bool.not_true, Bool.not_false, Bool.true_and, Bool.and_true, Bool.false_or, Bool.or_false, Bool.true_or, Bool.false_and, bne_eq_false_iff_eq, bne_iff_ne, beq_iff_eq, beq_eq_false_iff_ne, decide_eq_decide] at hp_)))
  ((apply M_call; exact .plain rfl rfl; exact .fn _ _ _; (repeat (first | exact EvsM.nil | (apply EvsM.cons; first | (refine EvM.mb _ rfl ?_; first | assumption | exact rfl) | exact EvM.plain rfl rfl))); (first | exact rstores_p _ | exact rloads_p _)))
  (apply spec_f; exact rfl; exact rfl)
  (refine im_any fun hc_ => ?_; try have hc1_ := (band hc_).1)
  refine q42
  (apply spec_f; exact rfl; exact rfl)
  (refine im_any fun hc_ => ?_; try have hc1_ := (band hc_).1)
  refine q1
  (apply spec_mt; exact rfl; exact rfl)
  (refine im_any fun hc_ => ?_; try have hc1_ := (band hc_).1)
  refine q2
  (apply spec_mt; exact rfl; exact rfl)
  (refine im_any fun hc_ => ?_; try have hc1_ := (band hc_).1)
  refine q3
  (apply spec_mt; exact rfl; exact rfl)
  (refine im_any fun hc_ => ?_; try have hc1_ := (band hc_).1)
  refine q26
  (apply spec_f; exact rfl; exact rfl)
  (refine im_any fun hc_ => ?_; try have hc1_ := (band hc_).1)
  refine q10; refine q0 ?_; refine q11 ?_
  (apply spec_f; exact rfl; exact rfl)
  (refine im_any fun hc_ => ?_; try have hc1_ := (band hc_).1)
  refine q1
  (apply spec_f; exact rfl; exact rfl)
  (refine im_any fun hc_ => ?_; try have hc1_ := (band hc_).1)
  refine q7
  (apply spec_f; exact rfl; exact rfl)
  (refine im_any fun hc_ => ?_; try have hc1_ := (band hc_).1)
  refine q1
  (apply spec_mt; exact rfl; exact rfl)
  (refine im_any fun hc_ => ?_; try have hc1_ := (band hc_).1)
  refine q2
  (apply spec_mt; exact rfl; exact rfl)
  (refine im_any fun hc_ => ?_; try have hc1_ := (band hc_).1)
  refine q3
  (apply spec_mt; exact rfl; exact rfl)
  (refine im_any fun hc_ => ?_; try have hc1_ := (band hc_).1)
  refine q26
  (apply spec_f; exact rfl; exact rfl)
  (refine im_any fun hc_ => ?_; try have hc1_ := (band hc_).1)
  refine q10; refine q0 ?_; refine ao_nil ?_; refine then_n ?_
  (apply awp_cond; exact rfl)
  (refine im_ot (fun hc_ => ?_); (try simp only [Bool.not_eq_true', Bool.not_eq_false', Bool.or_eq_true, Bool.and_eq_true, Bool.or_eq_false_iff, Bool.and_eq_false_iff, decide_eq_true_eq, decide_eq_false_iff_not, Decidable.not_not, Int.not_lt, Int.not_le, Bool.not_true, Bool.not_false, Bool.true_and, Bool.and_true, Bool.false_or, Bool.or_false, Bool.true_or, Bool.false_and, bne_eq_false_iff_eq, bne_iff_ne, beq_iff_eq, beq_eq_false_iff_ne, decide_eq_decide] at hc_))
  refine awp_seq ?_
  (refine ao_region ?_ (fun _ => ?_); exact rfl)
  refine q12 ?_; refine ao_nil ?_; refine then_n ?_; refine awp_ret ?_; refine then_r ?_
  rotate_left
  iterate 2 refine im_of ?_
  iterate 3 (refine im_af (fun hc_ => ?_); (try simp only [Bool.not_eq_true', Bool.not_eq_false', Bool.or_eq_true, Bool.and_eq_true, Bool.or_eq_false_iff, Bool.and_eq_false_iff, decide_eq_true_eq, decide_eq_false_iff_not, Decidable.not_not, Int.not_lt, Int.not_le, Bool.not_true, Bool.not_false, Bool.true_and, Bool.and_true, Bool.false_or, Bool.or_false, Bool.true_or, Bool.false_and, bne_eq_false_iff_eq, bne_iff_ne, beq_iff_eq, beq_eq_false_iff_ne, decide_eq_decide] at hc_))
  refine awp_skip ?_; refine then_n ?_; refine awp_seq ?_
  (refine ao_region ?_ (fun _ => ?_); exact rfl)
  refine q11 ?_; refine q46 ?_; refine q11 ?_
  (apply spec_f; exact rfl; exact rfl)
  (refine im_any fun hc_ => ?_; try have hc1_ := (band hc_).1)
  refine q1
  (apply spec_f; exact rfl; exact rfl)
  (refine im_any fun hc_ => ?_; try have hc1_ := (band hc_).1)
  refine q7; refine q0 ?_; refine q11 ?_
  (apply spec_f; exact rfl; exact rfl)
  (refine im_any fun hc_ => ?_; try have hc1_ := (band hc_).1)
  refine q2
  (apply spec_f; exact rfl; exact rfl)
  (refine im_any fun hc_ => ?_; try have hc1_ := (band hc_).1)
  refine q3
  (apply spec_f; exact rfl; exact rfl)
  (refine im_any fun hc_ => ?_; try have hc1_ := (band hc_).1)
  refine q18
  (apply spec_f; exact rfl; exact rfl)
  (refine im_any fun hc_ => ?_; try have hc1_ := (band hc_).1)
  refine q7; refine q0 ?_; refine q11 ?_
  (apply spec_t; exact rfl; exact rfl)
  (refine im_any fun hc_ => ?_; try have hc1_ := (band hc_).1)
  refine q1
  (apply spec_t; exact rfl; exact rfl)
  (refine im_any fun hc_ => ?_; try have hc1_ := (band hc_).1)
  refine q22
  (apply spec_t; exact rfl; exact rfl)
  (refine im_any fun hc_ => ?_; try have hc1_ := (band hc_).1)
  refine q1
  (apply spec_mf; exact rfl; exact rfl)
  (refine im_any fun hc_ => ?_; try have hc1_ := (band hc_).1)
  refine q2
  (apply spec_mf; exact rfl; exact rfl)
  (refine im_any fun hc_ => ?_; try have hc1_ := (band hc_).1)
  refine q3
  (apply spec_mf; exact rfl; exact rfl)
  (refine im_any fun hc_ => ?_; try have hc1_ := (band hc_).1)
  refine q18
  (apply spec_mf; exact rfl; exact rfl)
  (refine im_any fun hc_ => ?_; try have hc1_ := (band hc_).1)
  refine q7
  (apply spec_t; exact rfl; exact rfl)
  (refine im_any fun hc_ => ?_; try have hc1_ := (band hc_).1)
  refine q24; refine q4 ?_; refine q11 ?_
  (apply spec_t; exact rfl; exact rfl)
  (refine im_any fun hc_ => ?_; try have hc1_ := (band hc_).1)
  refine q1
  (apply spec_t; exact rfl; exact rfl)
  (refine im_any fun hc_ => ?_; try have hc1_ := (band hc_).1)
  refine q22
  (apply spec_t; exact rfl; exact rfl)
  (refine im_any fun hc_ => ?_; try have hc1_ := (band hc_).1)
  refine q1
  (apply spec_mf; exact rfl; exact rfl)
  (refine im_any fun hc_ => ?_; try have hc1_ := (band hc_).1)
  refine q2
  (apply spec_mf; exact rfl; exact rfl)
  (refine im_any fun hc_ => ?_; try have hc1_ := (band hc_).1)
  refine q3
  (apply spec_mf; exact rfl; exact rfl)
  (refine im_any fun hc_ => ?_; try have hc1_ := (band hc_).1)
  refine q18
  (apply spec_mf; exact rfl; exact rfl)
  (refine im_any fun hc_ => ?_; try have hc1_ := (band hc_).1)
  refine q7
  (apply spec_mf; exact rfl; exact rfl)
  (refine im_any fun hc_ => ?_; try have hc1_ := (band hc_).1)
  refine q1
  (apply spec_mt; exact rfl; exact rfl)
  (refine im_any fun hc_ => ?_; try have hc1_ := (band hc_).1)
  refine q2
  (apply spec_mt; exact rfl; exact rfl)
  (refine im_any fun hc_ => ?_; try have hc1_ := (band hc_).1)
  refine q3
  (apply spec_mt; exact rfl; exact rfl)
  (refine im_any fun hc_ => ?_; try have hc1_ := (band hc_).1)
  refine q7
  (apply spec_mf; exact rfl; exact rfl)
  (refine im_any fun hc_ => ?_; try have hc1_ := (band hc_).1)
  refine q10
  (apply spec_t; exact rfl; exact rfl)
  (refine im_any fun hc_ => ?_; try have hc1_ := (band hc_).1)
  refine q24; refine q4 ?_; refine q12 ?_; refine ao_nil ?_; refine then_n ?_; refine awp_ret ?_
  rotate_left
  all_goals refine done_b rfl ?_
  all_goals unfold Ev.rbareB
  all_goals first | grind | rw [if_neg (by grind), if_neg (by grind), if_neg (by grind)]
end Go.Proofs.YtnghoibkjphfmaaGreat
/- From plain data back to the elder ground: an execution told in plain data lies in memory as the elder walks want it. -/
set_option maxRecDepth 100000
set_option linter.unusedVariables false
namespace Go.Proofs.YtnghoibkjphfmaaGreat
open Go.RowKit Go.ChangeShapes Go.WideShapes Go.Deep
section
variable {M : Mem} {w : World} (hm : ∀ b o v, M b o = some v → w.cell? ⟨b, o, none⟩ = some v)
include hm
theorem ints_back {q : IntKind} {l : List Int} {v : Value} (h : Rep M (.sl 1 (l.map fun n => [TV.c (.int q n)])) v) (hl : l.length ≤ 1152921504606846976) : ∃ s : Sl, v = .slice s.a s.n s.c ∧ IntsIn q w.heap.size w s l := by
  rw [Rep] at h
  obtain ⟨a, c, h1, h2, h3⟩ := h
  rw [List.length_map] at h1
  refine ⟨⟨a, l.length, c⟩, h1, rfl, hl, ?_⟩
  rcases h3 with h3 | ⟨b, off, h4, h5⟩
  · exact Or.inl (List.map_eq_nil_iff.1 h3)
  · have get : ∀ k, k < l.length → w.cell? ⟨b, off + k, none⟩ = some (.int q (l.getD k 0)) := fun k hk => by
      obtain ⟨_, g2⟩ := h5.get (get_map (f := fun n => [TV.c (.int q n)]) hk 0)
      obtain ⟨u, g3, g4⟩ := g2.get (o := 0) rfl
      rw [Rep] at g4
      rw [g4.1, Nat.mul_one, Nat.add_zero] at g3
      exact hm _ _ _ g3
    by_cases hz : l = []
    · exact Or.inl hz
    · exact Or.inr ⟨b, off, h4, (cell_lt (get 0 (List.length_pos_iff.2 hz))).2, get⟩
/-- the same event, with slices -/
def Ev.like (e e' : Ev) : Prop := ∃ a d c : Sl, e' = { e with av := a, dv := d, cv := c } ∧ a.n = e.addrs.length ∧ d.n = e.datas.length ∧ c.n = e.ctrls.length
theorem ev_back {e : Ev} (hok : e.ok) {b o : Nat} (h : RepC M (evTV e) b o) : ∃ e', e.like e' ∧ EvCells w b o e' ∧ e'.okIn w.heap.size w := by
  have cl : ∀ i v, (evTV e)[i]? = some (.c v) → w.cell? ⟨b, o + i, none⟩ = some v := fun i v hi => by
    obtain ⟨u, g3, g4⟩ := h.get hi
    rw [Rep] at g4
    rw [g4.1] at g3
    exact hm _ _ _ g3
  have cs : ∀ i l, (evTV e)[i]? = some (ints l) → l.length ≤ 1152921504606846976 → ∃ s : Sl, w.cell? ⟨b, o + i, none⟩ = some (.slice s.a s.n s.c) ∧ IntsIn .i64 w.heap.size w s l := fun i l hi hl => by
    obtain ⟨u, g3, g4⟩ := h.get hi
    obtain ⟨s, rfl, hs⟩ := ints_back hm (q := .i64) g4 hl
    exact ⟨s, hm _ _ _ g3, hs⟩
  obtain ⟨w1, n1, n2, n3, _⟩ := hok
  obtain ⟨sa, a1, a2⟩ := cs 10 e.addrs rfl n1
  obtain ⟨sd, d1, d2⟩ := cs 11 e.datas rfl n2
  obtain ⟨sc, c1, c2⟩ := cs 12 e.ctrls rfl n3
  refine ⟨{ e with av := sa, dv := sd, cv := sc }, ⟨sa, sd, sc, rfl, a2.1, d2.1, c2.1⟩, ?_, a2, d2, c2, w1⟩
  exact ⟨cl 0 _ rfl, cl 1 _ rfl, cl 2 _ rfl, cl 3 _ rfl, cl 4 _ rfl, cl 5 _ rfl, cl 6 _ rfl, cl 7 _ rfl, cl 8 _ rfl, cl 9 _ rfl, a1, d1, c1⟩
theorem evs_back {es : List Ev} {v : Value} (h : Rep M (evsTV es) v) (hl : es.length ≤ 1152921504606846976) (hok : ∀ e ∈ es, e.ok) :
    ∃ (s : Sl) (es' : List Ev), v = .slice s.a s.n s.c ∧ EvsIn w.heap.size w s es' ∧ es'.length = es.length ∧ ∀ i, i < es.length → (es.getD i default).like (es'.getD i default) := by
  unfold evsTV at h
  rw [Rep] at h
  obtain ⟨a, c, h1, h2, h3⟩ := h
  rw [List.length_map] at h1
  rcases h3 with h3 | ⟨b, off, h4, h5⟩
  · have : es = [] := List.map_eq_nil_iff.1 h3
    subst this
    exact ⟨⟨a, 0, c⟩, [], h1, ⟨rfl, by simp, by simp, Or.inl rfl⟩, rfl, fun i hi => by simp at hi⟩
  · obtain ⟨E, hE⟩ := choose_lt (α := Ev) (n := es.length) (p := fun i e' => (es.getD i default).like e' ∧ EvCells w b (off + i * 13) e' ∧ e'.okIn w.heap.size w) (fun i hi => by
      obtain ⟨_, g2⟩ := h5.get (get_map (f := evTV) hi default)
      refine ev_back hm (hok _ ?_) g2
      rw [List.getD_eq_getElem?_getD, List.getElem?_eq_getElem hi]
      exact List.getElem_mem hi)
    have hL : ((List.range es.length).map E).length = es.length := by simp
    have hg : ∀ i, i < es.length → ((List.range es.length).map E).getD i default = E i := fun i hi => by
      rw [List.getD_eq_getElem?_getD, List.getElem?_eq_getElem (by omega)]
      simp
    refine ⟨⟨a, es.length, c⟩, (List.range es.length).map E, h1, ⟨hL.symm, by omega, fun e he => ?_, ?_⟩, hL, fun i hi => by rw [hg i hi]; exact (hE i hi).1⟩
    · obtain ⟨i, hi, rfl⟩ := List.mem_map.1 he
      exact (hE i (List.mem_range.1 hi)).2.2
    · by_cases hz : es.length = 0
      · left; rw [hz]; rfl
      · right
        have c0 := (hE 0 (by omega)).2.1.1
        exact ⟨b, off, h4, (cell_lt c0).2, fun k hk => by rw [hg k (by omega)]; exact (hE k (by omega)).2.1⟩
theorem rows_back {l : List (Sl × List Int)} {v : Value} (h : Rep M (rowsTV l) v) (hl : l.length ≤ 1152921504606846976) (hok : ∀ r ∈ l, r.2.length ≤ 1152921504606846976) :
    ∃ (s : Sl) (l' : List (Sl × List Int)), v = .slice s.a s.n s.c ∧ RowsIn w.heap.size w s l' ∧ l'.length = l.length ∧ ∀ i, i < l.length → (l'.getD i default).2 = (l.getD i default).2 := by
  unfold rowsTV at h
  rw [Rep] at h
  obtain ⟨a, c, h1, h2, h3⟩ := h
  rw [List.length_map] at h1
  rcases h3 with h3 | ⟨b, off, h4, h5⟩
  · have : l = [] := List.map_eq_nil_iff.1 h3
    subst this
    exact ⟨⟨a, 0, c⟩, [], h1, ⟨rfl, by simp, by simp, Or.inl rfl⟩, rfl, fun i hi => by simp at hi⟩
  · obtain ⟨E, hE⟩ := choose_lt (α := Sl × List Int) (n := l.length) (p := fun i r => r.2 = (l.getD i default).2 ∧ w.cell? ⟨b, off + i, none⟩ = some r.1.v ∧ IntsIn .i64 w.heap.size w r.1 r.2) (fun i hi => by
      obtain ⟨_, g2⟩ := h5.get (get_map (f := intRow) hi default)
      obtain ⟨u, g3, g4⟩ := g2.get (o := 0) rfl
      obtain ⟨s, rfl, hs⟩ := ints_back hm (q := .i64) g4 (by
        apply hok
        rw [List.getD_eq_getElem?_getD, List.getElem?_eq_getElem hi]
        exact List.getElem_mem hi)
      rw [Nat.mul_one, Nat.add_zero] at g3
      exact ⟨(s, (l.getD i default).2), rfl, hm _ _ _ g3, hs⟩)
    have hL : ((List.range l.length).map E).length = l.length := by simp
    have hg : ∀ i, i < l.length → ((List.range l.length).map E).getD i default = E i := fun i hi => by
      rw [List.getD_eq_getElem?_getD, List.getElem?_eq_getElem (by omega)]
      simp
    refine ⟨⟨a, l.length, c⟩, (List.range l.length).map E, h1, ⟨hL.symm, by omega, fun r hr => ?_, ?_⟩, hL, fun i hi => by rw [hg i hi]; exact (hE i hi).1⟩
    · obtain ⟨i, hi, rfl⟩ := List.mem_map.1 hr
      exact (hE i (List.mem_range.1 hi)).2.2
    · by_cases hz : l.length = 0
      · left; rw [hz]; rfl
      · right
        have c0 := (hE 0 (by omega)).2.1
        exact ⟨b, off, h4, (cell_lt c0).2, fun k hk => by rw [hg k (by omega)]; exact (hE k (by omega)).2.1⟩
end
/-! ### Check does not look at where slices lie -/
def Sl.core (s : Sl) : Sl := ⟨none, s.n, 0⟩
def Ev.core (e : Ev) : Ev := { e with av := e.av.core, dv := e.dv.core, cv := e.cv.core }
theorem getD_core (es : List Ev) (i : Nat) : (es.map Ev.core).getD i default = (es.getD i default).core := by
  rw [List.getD_eq_getElem?_getD, List.getD_eq_getElem?_getD, List.getElem?_map]
  cases es[i]? <;> rfl
def Ex.core (x : Ex) : Ex := ⟨default, default, default, x.evs.map Ev.core, x.from_, x.order.map fun r => (default, r.2)⟩
theorem addrs_core (es : List Ev) : addrsTo (es.map Ev.core) = addrsTo es := by
  unfold addrsTo
  rw [List.foldl_map]
  rfl
theorem hangs_core (es : List Ev) (n : Nat) (l : List Int) : hangsB (es.map Ev.core) n l = hangsB es n l := by
  unfold hangsB hangsTo
  congr 1
  funext i
  unfold depOk
  simp only [getD_core]
  rfl
theorem evOk_core (es : List Ev) (ad : List Int) : evOk (es.map Ev.core) ad = evOk es ad := by
  funext n
  unfold evOk evPre
  simp only [getD_core, hangs_core]
  rfl
theorem evsTo_core (es : List Ev) (ad : List Int) (k : Nat) : evsTo (es.map Ev.core) ad k = evsTo es ad k := by
  unfold evsTo
  rw [evOk_core]
theorem fromOk_core (es : List Ev) (fs : List Int) : fromOk (es.map Ev.core) fs = fromOk es fs := by
  funext n
  unfold fromOk srcOk
  simp only [getD_core, List.length_map]
  rfl
theorem fromB_core (es : List Ev) (fs : List Int) : fromB (es.map Ev.core) fs = fromB es fs := by
  unfold fromB fromTo
  rw [fromOk_core, List.length_map]
theorem want_core (es : List Ev) (a : Int) (k : Nat) : wantTo (es.map Ev.core) a k = wantTo es a k := by
  unfold wantTo
  simp only [getD_core]
  rfl
theorem order_core (es : List Ev) (ad : List Int) (rows : List (Sl × List Int)) : orderB (es.map Ev.core) ad (rows.map fun r => (default, r.2)) = orderB es ad rows := by
  unfold orderB rowsTo
  rw [List.length_map]
  congr 2
  funext i
  unfold rowOk
  rw [want_core, List.length_map]
  have : ((rows.map fun r => ((default : Sl), r.2)).getD i default).2 = (rows.getD i default).2 := by
    rw [List.getD_eq_getElem?_getD, List.getD_eq_getElem?_getD, List.getElem?_map]
    cases rows[i]? <;> rfl
  rw [this]
theorem check_core (x : Ex) : checkI x.core = checkI x := by
  unfold checkI Ex.core
  dsimp only
  rw [addrs_core, List.length_map, evsTo_core, fromB_core, order_core]
theorem like_core {e e' : Ev} (h : e.like e') (hc : e.av.n = e.addrs.length ∧ e.dv.n = e.datas.length ∧ e.cv.n = e.ctrls.length) : e'.core = e.core := by
  obtain ⟨a, d, c, rfl, h1, h2, h3⟩ := h
  unfold Ev.core Sl.core
  dsimp only
  rw [h1, h2, h3, hc.1, hc.2.1, hc.2.2]
theorem list_ext_getD {α : Type} (d : α) {l l' : List α} (hl : l.length = l'.length) (h : ∀ i, i < l.length → l.getD i d = l'.getD i d) : l = l' := by
  apply List.ext_getElem hl
  intro i h1 h2
  have := h i h1
  rw [List.getD_eq_getElem?_getD, List.getD_eq_getElem?_getD, List.getElem?_eq_getElem h1, List.getElem?_eq_getElem h2] at this
  exact this
theorem Ev.ok.bare {e : Ev} (h : e.ok) : e.bareB = e.rbareB := by
  obtain ⟨_, _, _, _, h1, h2, h3⟩ := h
  unfold Ev.bareB Ev.rbareB Ev.stB Ev.ldB
  rw [h1, h2, h3]
  obtain ⟨hart, kind, addr, val, rval, aq, rl, pred, succ, rsv, av, dv, cv, l1, l2, l3⟩ := e
  dsimp only
  generalize l1.length = a
  generalize l2.length = d
  generalize l3.length = c
  rw [Bool.eq_iff_iff]
  by_cases k5 : kind = 5
  · subst k5; cases aq <;> cases rl <;> cases rsv <;> simp <;> omega
  by_cases k4 : kind = 4
  · subst k4; cases aq <;> cases rl <;> cases rsv <;> simp <;> omega
  by_cases k3 : kind = 3
  · subst k3; cases aq <;> cases rl <;> cases rsv <;> simp <;> omega
  by_cases k2 : kind = 2
  · subst k2; cases aq <;> cases rl <;> cases rsv <;> simp <;> omega
  by_cases k1 : kind = 1
  · subst k1; cases aq <;> cases rl <;> cases rsv <;> simp <;> omega
  rw [if_neg k5, if_neg k1, if_neg k2, if_neg k3, if_neg k4]
  have : kind < 1 ∨ 5 < kind := by omega
  rcases this with h | h <;> simp [h]
theorem ex_back {M : Mem} {w : World} (hm : ∀ b o v, M b o = some v → w.cell? ⟨b, o, none⟩ = some v) {G : Gh} (hG : G.M = M) {x : Ex} {v : Value} (h : RepO G (exOV x) v) (hx : x.ok) :
    ∃ x' : Ex, v = x'.agg ∧ x'.inW w.heap.size w ∧ x'.core = x.core := by
  obtain ⟨h1, h2, h3, h4, h5⟩ := hx
  unfold exOV at h
  rw [RepO] at h
  obtain ⟨vs, hv, h⟩ := h
  rw [RepOL] at h
  obtain ⟨v0, us, e0, r0, h⟩ := h
  rw [RepOL] at h
  obtain ⟨v1, us1, e1, r1, h⟩ := h
  rw [RepOL] at h
  obtain ⟨v2, us2, e2, r2, h⟩ := h
  rw [RepOL] at h
  rw [RepO, hG] at r0 r1 r2
  obtain ⟨s0, es', rfl, g1, g2, g3⟩ := evs_back hm r0 h1 h2
  obtain ⟨s1, rfl, g4⟩ := ints_back hm (q := .i64) r1 h3
  obtain ⟨s2, l', rfl, g5, g6, g7⟩ := rows_back hm r2 h4 h5
  refine ⟨⟨s0, s1, s2, es', x.from_, l'⟩, ?_, ⟨g1, g4, g5⟩, ?_⟩
  · rw [hv]; unfold Ex.agg
    congr 1
    apply Array.ext'
    rw [e0, e1, e2, h]
  · unfold Ex.core
    dsimp only
    congr 1
    · apply list_ext_getD default (by simpa using g2)
      intro i hi
      rw [List.length_map] at hi
      rw [getD_core, getD_core]
      refine like_core (g3 i (by omega)) ?_
      have := h2 (x.evs.getD i default) (by
        rw [List.getD_eq_getElem?_getD, List.getElem?_eq_getElem (by omega)]
        exact List.getElem_mem _)
      exact this.2.2.2.2
    · apply list_ext_getD default (by simpa using g6)
      intro i hi
      rw [List.length_map] at hi
      have e : ∀ rows : List (Sl × List Int), (rows.map fun r => ((default : Sl), r.2)).getD i default = (default, (rows.getD i default).2) := fun rows => by
        rw [List.getD_eq_getElem?_getD, List.getD_eq_getElem?_getD, List.getElem?_map]
        cases rows[i]? <;> rfl
      rw [e, e, g7 i (by omega)]
/-- A function's contract in plain data, from the elder ground: a number, or a truth value. -/
theorem pure_of {P : Program} {f : FuncId} {args : List OV} {l : Value} (hE : Enters P f) (hl : l.oneCell' = true)
    (h : ∀ (G : Gh) (w : World) (vs : List Value), RepOL G args vs → (∀ b o v, G.M b o = some v → w.cell? ⟨b, o, none⟩ = some v) → Calls P f vs.toArray w fun e w' => e = .returned l ∧ Below w.heap.size w w') : Pure P f args (.d (.c l)) :=
  ⟨hE, fun G w vs N hr hw => (h G w vs hr hw.mem).mono fun e w' ⟨h1, h2⟩ => ⟨l, G, .d (.c l), Store.nil, h1, rfl, Gh.le.refl G, by rw [RepO]; exact rep_c2 hl, hw.below h2⟩⟩
/-- events.Check, in plain data -/
theorem check_p (x : Ex) (hx : x.ok) (hrows : ∀ r ∈ x.order, r.2.length ≤ 65536) : Pure E.P 26 [exOV x] (.int .i64 (checkI x)) := by
  refine pure_of ⟨_, Tryz.func26, by decide, rfl⟩ rfl fun G w vs hr hm => ?_
  rw [RepOL] at hr
  obtain ⟨v, us, rfl, r0, hr⟩ := hr
  rw [RepOL] at hr
  subst hr
  obtain ⟨x', rfl, h1, h2⟩ := ex_back hm rfl r0 hx
  have := check_c x' w h1 (fun r hr => ?_)
  · rw [← check_core x', h2, check_core] at this
    exact this
  · have e : (default, r.2) ∈ x'.core.order := List.mem_map.2 ⟨r, hr, rfl⟩
    rw [h2] at e
    obtain ⟨r', hr', e'⟩ := List.mem_map.1 e
    have := hrows r' hr'
    rw [Prod.mk.injEq] at e'
    rw [← e'.2]; exact this
end Go.Proofs.YtnghoibkjphfmaaGreat
/- Executions and pairs as rows of plain data; an iterator's next value. -/
set_option linter.unusedVariables false
set_option linter.unusedSimpArgs false
namespace Go.Proofs.YtnghoibkjphfmaaGreat
open Go.RowKit
def pairTV (p : Int × Int) : List TV := [.c (.int .i64 p.1), .c (.int .i64 p.2)]
def pairsTV (l : List (Int × Int)) : TV := .sl 2 (l.map pairTV)
def exRow (x : Ex) : List TV := [evsTV x.evs, ints x.from_, rowsTV x.order]
theorem next_pair {l pre r : List (Int × Int)} {p : Int × Int} (h : l = pre ++ [p] ++ r) : pre.length < l.length ∧ (pairYs l).getD pre.length [] = [.ag (pairO' p)] := by
  have hlt : pre.length < l.length := by rw [h]; simp
  refine ⟨hlt, ?_⟩
  rw [pairYs_get l hlt, h]
  simp [List.getD]
/-- a small execution, as check takes it -/
def Ex.fit (x : Ex) : Prop := x.ok ∧ ∀ r ∈ x.order, r.2.length ≤ 65536
theorem seq_next {P : Program} {Y : YJ} {k m : Nat} {τ : Stamp} {st : Bool} {J : Nat → Rows → Prop} {L : List (Int × Int)} (h1 : st = false → m = L.length)
    (hy : ∀ i l0, i < m → J i l0 → YieldW P Y k τ i (i + 1) ((pairYs L).getD i []) l0 (J (i + 1)) (!(st && i + 1 == m))) {pre r : List (Int × Int)} {p : Int × Int} {l : Rows} (hL : L = pre ++ [p] ++ r) (hst : st = true → pre.length < m) (hJ : J pre.length l) :
    pre.length < m ∧ YieldW P Y k τ pre.length (pre.length + 1) [.ag (pairO' p)] l (J (pre.length + 1)) (!(st && pre.length + 1 == m)) := by
  obtain ⟨e1, e2⟩ := next_pair hL
  have hlm : pre.length < m := by
    cases st with
    | true => exact hst rfl
    | false => rw [h1 rfl]; exact e1
  have := hy _ l hlm hJ
  rw [e2] at this
  exact ⟨hlm, this⟩
theorem seq_go {st : Bool} {m i : Nat} (h1 : i < m) (h2 : (!(st && i + 1 == m)) = true) (h3 : st = true) : i + 1 < m := by
  subst h3
  simp at h2; omega
theorem seq_stop {st : Bool} {m i : Nat} (h : (!(st && i + 1 == m)) = false) : i + 1 = m := by
  simp at h; exact h.2
theorem pair_fz (l : List (Int × Int)) : FzR (l.map pairO') (l.map pairTV) := by
  induction l with
  | nil => exact FzR.nil
  | cons p l ih => exact FzR.cons (FzC.cons (FzC.cons FzC.nil)) ih
end Go.Proofs.YtnghoibkjphfmaaGreat
/- Pairs held against each other, in plain data. -/
set_option maxRecDepth 100000
set_option linter.unusedVariables false
set_option linter.unusedSimpArgs false
namespace Go.Proofs.YtnghoibkjphfmaaGreat
open Go.RowKit
theorem eqPair_run (a b c d : Int) (w : World) : (Op.equalIn 10000 37 (.agg #[.int .i64 a, .int .i64 b]) (.agg #[.int .i64 c, .int .i64 d])).run Tryz.prog w = .ok (a == c && b == d) w := by
  rw [run_equalIn_agg w 9999 37 _ _ (by kernel_rfl) (by kernel_rfl)]
  obtain ⟨f, g, h, hf, hg, tf, tg, of, og⟩ : ∃ f g : Field, (Program.fieldsOf Tryz.prog 37).toList = [f, g] ∧ f.name ≠ "_" ∧ g.name ≠ "_" ∧ f.type = 3 ∧ g.type = 3 ∧ f.offset = 0 ∧ g.offset = 1 := ⟨_, _, rfl, by decide, by decide, rfl, rfl, rfl, rfl⟩
  rw [h]
  unfold Op.eqFields Op.eqFields Op.eqFields
  rw [if_pos hf, if_pos hg, tf, tg, of, og]
  have ha : (isAgg 3).run Tryz.prog w = .ok false w := Tryz.isAgg3 w
  have hp1 : ∀ (x y : Int), (part 3 #[.int .i64 x, .int .i64 y] 0).run Tryz.prog w = .ok (.int .i64 x) w := fun x y => by
    simp [part, ha]
  have hp2 : ∀ (x y : Int), (part 3 #[.int .i64 x, .int .i64 y] 1).run Tryz.prog w = .ok (.int .i64 y) w := fun x y => by
    simp [part, ha]
  have hi : ∀ x y : Int, (Op.equalIn 9999 3 (.int .i64 x) (.int .i64 y)).run Tryz.prog w = .ok (x == y) w := fun x y => run_equalIn_int w 9998 3 .i64 .i64 x y Tryz.underlying3
  simp only [Sem.run_bind, hp1, hp2, hi, Result.andThen_ok]
  cases hx : (a == c) with
  | false => simp
  | true => 
    simp only [Bool.not_true, Bool.false_eq_true, if_false, Sem.run_bind, hp1, hp2, hi, Result.andThen_ok, Bool.true_and]
    cases hy : (b == d) <;> simp
section
variable {v j : Nat} {ops : Array Oper} {K : Tm → Store → Prop} {KD : List Foot → Tm → Store → Prop} {acc : List Foot} {rest : List Oper} {tm : Tm} {σ : Store} {dst : Option Tmp} {ty : TypeId} {pos : String} {af : Array Edge} {gd : Option (Nat × Bool)}
theorem pair_val {G : Gh} {p : Int × Int} {u : Value} (h : RepO G (.ag (pairO' p)) u) : u = .agg #[.int .i64 p.1, .int .i64 p.2] := by
  rw [RepO] at h
  obtain ⟨cs, rfl, h⟩ := h
  unfold pairO' at h
  rw [RepOL] at h
  obtain ⟨a, l, e1, h1, h⟩ := h
  rw [RepOL] at h
  obtain ⟨b, l2, rfl, h2, h⟩ := h
  rw [RepOL] at h
  subst h
  have := rep_c h1
  have := rep_c h2
  subst a b
  rw [show cs = cs.toList.toArray by simp, e1]
theorem Y_neqP {x y : Operand} {T' : TypeId} {p q : Int × Int} (hx : ev tm x = some (.ag (pairO' p))) (hy : ev tm y = some (.ag (pairO' q))) :
    YL E.P v j ⟨dst, .binOp .neq 37 x y T', ty, pos, af, gd⟩ tm σ [] (.bool (!(p.1 == q.1 && p.2 == q.2))) [] := Y_bin' hx hy (fun M u w' w hu hv => by
  rw [pair_val hu, pair_val hv]
  exact ⟨run_eqGuard_agg w _ _ _ _ _ _ (by kernel_rfl), by
    rw [run_neq_struct, show E.P = Tryz.prog from rfl, eqPair_run]; rfl⟩) rfl
theorem Y_eqlP {x y : Operand} {T' : TypeId} {p q : Int × Int} (hx : ev tm x = some (.ag (pairO' p))) (hy : ev tm y = some (.ag (pairO' q))) :
    YL E.P v j ⟨dst, .binOp .eql 37 x y T', ty, pos, af, gd⟩ tm σ [] (.bool (p.1 == q.1 && p.2 == q.2)) [] := Y_bin' hx hy (fun M u w' w hu hv => by
  rw [pair_val hu, pair_val hv]
  exact ⟨run_eqGuard_agg w _ _ _ _ _ _ (by kernel_rfl), by
    rw [run_eql_struct, show E.P = Tryz.prog from rfl, eqPair_run]; rfl⟩) rfl
theorem M_eqlP {x y : Operand} {T' : TypeId} (p q : Int × Int) (hx : EvM tm x (.ag (pairO' p))) (hy : EvM tm y (.ag (pairO' q))) : YL E.P v j ⟨dst, .binOp .eql 37 x y T', ty, pos, af, gd⟩ tm σ [] (.bool (p.1 == q.1 && p.2 == q.2)) [] := (Y_eqlP hx.st hy.st).strip
theorem D_neqP {x y : Operand} {T' : TypeId} (p q : Int × Int) (hx : ev tm x = some (.ag (pairO' p))) (hy : ev tm y = some (.ag (pairO' q))) (hcont : DO E.P v ops KD (j + 1) rest (tm.putO dst (.bool (!(p.1 == q.1 && p.2 == q.2)))) (σ.apply []) (Foot.mk [] (wkeys []) :: acc)) : DO E.P v ops KD j (⟨dst, .binOp .neq 37 x y T', ty, pos, af, none⟩ :: rest) tm σ acc := do_step (Y_neqP hx hy) hcont
end
end Go.Proofs.YtnghoibkjphfmaaGreat
/- What an execution that may be is. Plain. -/
namespace Go.Proofs.YtnghoibkjphfmaaGreat
theorem check_zero {x : Ex} (h : checkI x = 0) : x.evs.length ≤ 64 ∧ evsTo x.evs (addrsTo x.evs) x.evs.length = true ∧ fromB x.evs x.from_ = true ∧ orderB x.evs (addrsTo x.evs) x.order = true := by
  unfold checkI at h
  by_cases h1 : 64 < x.evs.length
  · rw [if_pos h1] at h; omega
  rw [if_neg h1] at h
  cases h2 : evsTo x.evs (addrsTo x.evs) x.evs.length with
  | false => rw [h2] at h; simp at h
  | true =>
  cases h3 : fromB x.evs x.from_ with
  | false => rw [h2, h3] at h; simp at h
  | true =>
  cases h4 : orderB x.evs (addrsTo x.evs) x.order with
  | false => rw [h2, h3, h4] at h; simp at h
  | true => exact ⟨by omega, rfl, rfl, rfl⟩
theorem from_len {es : List Ev} {fs : List Int} (h : fromB es fs = true) : fs.length = es.length := by
  unfold fromB at h
  simp only [Bool.and_eq_true, decide_eq_true_eq] at h
  exact h.1
theorem from_at {es : List Ev} {fs : List Int} (h : fromB es fs = true) {k : Nat} (hk : k < fs.length) : fromOk es fs k = true := by
  unfold fromB fromTo at h
  simp only [Bool.and_eq_true, List.all_eq_true, List.mem_range] at h
  exact h.2 k hk
end Go.Proofs.YtnghoibkjphfmaaGreat
/- Relations as lists of pairs: all pairs of places, one behind the other, of which it is so; program order. Plain. -/
set_option linter.unusedVariables false
namespace Go.Proofs.YtnghoibkjphfmaaGreat
theorem nonneg_nat {a : Int} (h : 0 ≤ a) : ∃ n : Nat, a = n := ⟨a.toNat, (Int.toNat_of_nonneg h).symm⟩
def refPairs (n : Nat) (f : Nat → Nat → Bool) : List (Int × Int) := (List.range n).flatMap fun a => ((List.range n).filter (f a)).map fun (b : Nat) => (((a : Nat) : Int), ((b : Nat) : Int))
theorem mem_refPairs {n : Nat} {f : Nat → Nat → Bool} {p : Int × Int} : p ∈ refPairs n f ↔ ∃ a b : Nat, a < n ∧ b < n ∧ f a b = true ∧ p = ((a : Int), (b : Int)) := by
  unfold refPairs
  constructor
  · intro h
    obtain ⟨a, h1, h2⟩ := List.mem_flatMap.1 h
    obtain ⟨b, h3, rfl⟩ := List.mem_map.1 h2
    obtain ⟨h4, h5⟩ := List.mem_filter.1 h3
    exact ⟨a, b, List.mem_range.1 h1, List.mem_range.1 h4, h5, rfl⟩
  · rintro ⟨a, b, h1, h2, h3, rfl⟩
    exact List.mem_flatMap.2 ⟨a, List.mem_range.2 h1, List.mem_map.2 ⟨b, List.mem_filter.2 ⟨List.mem_range.2 h2, h3⟩, rfl⟩⟩
theorem ltZ_iff {x y : Int × Int} : ltZ x y = true ↔ x.1 < y.1 ∨ (x.1 = y.1 ∧ x.2 < y.2) := by simp [ltZ]
theorem refPairs_lt (n : Nat) (f : Nat → Nat → Bool) : (refPairs n f).Pairwise fun x y => ltZ x y = true := by
  unfold refPairs
  rw [List.pairwise_flatMap]
  refine ⟨fun a _ => ?_, ?_⟩
  · refine List.Pairwise.map _ (R := (· < ·)) (fun b c h => ?_) (List.Pairwise.filter _ List.pairwise_lt_range)
    rw [ltZ_iff]; right; exact ⟨rfl, by dsimp only; omega⟩
  · refine List.Pairwise.imp (fun {a b} h => ?_) List.pairwise_lt_range
    intro x hx y hy
    obtain ⟨c, _, rfl⟩ := List.mem_map.1 hx
    obtain ⟨d, _, rfl⟩ := List.mem_map.1 hy
    rw [ltZ_iff]; left; dsimp only; omega
theorem sortZ_eq {L : List (Int × Int)} {n : Nat} {f : Nat → Nat → Bool} (hnd : L.Nodup) (hm : ∀ p, p ∈ L ↔ p ∈ refPairs n f) : sortZ L = refPairs n f := by
  have hlt := refPairs_lt n f
  have hnd2 : (refPairs n f).Nodup := hlt.imp fun {x y} h e => by subst e; rw [ltZ_iff] at h; omega
  refine List.Perm.eq_of_pairwise (le := fun x y => (!ltZ y x) = true) (fun x y _ _ h1 h2 => ?_) (List.pairwise_mergeSort (fun a b c h1 h2 => ?_) (fun a b => ?_) L) (hlt.imp fun {x y} h => ?_) ((List.mergeSort_perm L _).trans ((List.perm_ext_iff_of_nodup hnd hnd2).2 hm))
  · simp only [Bool.not_eq_true', Bool.eq_false_iff, ne_eq, ltZ_iff] at h1 h2
    exact Prod.ext (by omega) (by omega)
  · simp only [Bool.not_eq_true', Bool.eq_false_iff, ne_eq, ltZ_iff] at *
    omega
  · simp only [Bool.or_eq_true, Bool.not_eq_true', Bool.eq_false_iff, ne_eq, ltZ_iff]
    omega
  · simp only [Bool.not_eq_true', Bool.eq_false_iff, ne_eq, ltZ_iff] at *
    omega
/-! ### program order -/
def isPo (x : Ex) (a b : Nat) : Bool := decide (a < b) && decide (0 ≤ (x.evs.getD a default).hart) && decide ((x.evs.getD a default).hart = (x.evs.getD b default).hart)
def poRow (x : Ex) (a b : Nat) : List (Int × Int) := ((List.range b).filter (isPo x a)).map fun (b : Nat) => (((a : Nat) : Int), ((b : Nat) : Int))
def poTo (x : Ex) (a : Nat) : List (Int × Int) := (List.range a).flatMap fun a => poRow x a x.evs.length
def poAt (x : Ex) (a b : Nat) : List (Int × Int) := poTo x a ++ poRow x a b
def poZ (x : Ex) : List (Int × Int) := poTo x x.evs.length
theorem poZ_ref (x : Ex) : poZ x = refPairs x.evs.length (isPo x) := rfl
theorem po_sorted (x : Ex) : sortZ (poZ x) = refPairs x.evs.length (isPo x) := by
  have hlt := refPairs_lt x.evs.length (isPo x)
  exact sortZ_eq (by rw [poZ_ref]; exact hlt.imp fun {x y} h e => by subst e; rw [ltZ_iff] at h; omega) fun p => by rw [poZ_ref]
theorem poTo_succ (x : Ex) (a : Nat) : poTo x (a + 1) = poTo x a ++ poRow x a x.evs.length := by
  simp [poTo, List.range_succ, List.flatMap_append]
theorem poAt_zero (x : Ex) (a : Nat) : poAt x a (a + 1) = poTo x a := by
  unfold poAt poRow
  rw [List.filter_eq_nil_iff.2, List.map_nil, List.append_nil]
  intro b hb
  have := List.mem_range.1 hb
  unfold isPo
  rw [show decide (a < b) = false by simp; omega]
  simp
theorem poRow_yes {x : Ex} {a b : Nat} (h : isPo x a b = true) : poRow x a (b + 1) = poRow x a b ++ [((a : Int), (b : Int))] := by
  unfold poRow
  rw [List.range_succ, List.filter_append, List.filter_cons, if_pos h, List.filter_nil, List.map_append]; rfl
theorem poRow_no {x : Ex} {a b : Nat} (h : ¬ isPo x a b = true) : poRow x a (b + 1) = poRow x a b := by
  unfold poRow
  rw [List.range_succ, List.filter_append, List.filter_cons, if_neg h, List.filter_nil, List.append_nil]
theorem poAt_yes {x : Ex} {a b : Nat} (h : isPo x a b = true) : poAt x a (b + 1) = poAt x a b ++ [((a : Int), (b : Int))] := by
  unfold poAt; rw [poRow_yes h, List.append_assoc]
theorem poAt_no {x : Ex} {a b : Nat} (h : ¬ isPo x a b = true) : poAt x a (b + 1) = poAt x a b := by
  unfold poAt; rw [poRow_no h]
theorem poAt_end (x : Ex) (a : Nat) : poAt x a x.evs.length = poTo x (a + 1) := by rw [poTo_succ]; rfl
theorem poRow_pre (x : Ex) (a : Nat) : ∀ {b c : Nat}, b ≤ c → ∃ r, poRow x a c = poRow x a b ++ r := fun {b c} h => by
  induction c with
  | zero => have : b = 0 := by omega
            subst this; exact ⟨[], by simp⟩
  | succ c ih =>
    by_cases e : b = c + 1
    · subst e; exact ⟨[], by simp⟩
    · obtain ⟨r, hr⟩ := ih (by omega)
      by_cases hc : isPo x a c = true
      · exact ⟨_, by rw [poRow_yes hc, hr, List.append_assoc]⟩
      · exact ⟨r, by rw [poRow_no hc, hr]⟩
theorem poTo_pre (x : Ex) : ∀ {a c : Nat}, a ≤ c → ∃ r, poTo x c = poTo x a ++ r := fun {a c} h => by
  induction c with
  | zero => have : a = 0 := by omega
            subst this; exact ⟨[], by simp⟩
  | succ c ih =>
    by_cases e : a = c + 1
    · subst e; exact ⟨[], by simp⟩
    · obtain ⟨r, hr⟩ := ih (by omega)
      exact ⟨_, by rw [poTo_succ, hr, List.append_assoc]⟩
theorem poAt_in {x : Ex} {a b : Nat} (ha : a < x.evs.length) (hb : b < x.evs.length) (h : isPo x a b = true) : ∃ q, poZ x = poAt x a b ++ [((a : Int), (b : Int))] ++ q := by
  obtain ⟨q1, h1⟩ := poTo_pre x (show a + 1 ≤ x.evs.length from ha)
  obtain ⟨q2, h2⟩ := poRow_pre x a (show b + 1 ≤ x.evs.length from hb)
  rw [← poAt_yes h]
  unfold poZ poAt
  rw [h1, poTo_succ, h2]
  exact ⟨q2 ++ q1, by simp only [List.append_assoc]⟩
theorem poZ_small {x : Ex} (h : x.evs.length ≤ 65536) : smallP (poZ x) := fun p hp => by
  rw [poZ_ref] at hp
  obtain ⟨a, b, h1, h2, _, rfl⟩ := mem_refPairs.1 hp
  dsimp only
  omega
theorem poTo_len (x : Ex) : ∀ a, (poTo x a).length ≤ a * x.evs.length
  | 0 => by simp [poTo]
  | a + 1 => by
    rw [poTo_succ, List.length_append, Nat.succ_mul]
    have h1 := poTo_len x a
    have h2 : (poRow x a x.evs.length).length ≤ x.evs.length := by
      unfold poRow
      rw [List.length_map]
      exact Nat.le_trans (List.length_filter_le _ _) (by simp)
    omega
end Go.Proofs.YtnghoibkjphfmaaGreat
