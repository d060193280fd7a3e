/- Whether an event may be where it stands, behind so many EvBegin. -/
import Derived.Test.YtgeaaegkcbjhlaaMem
namespace Go.Proofs.Ytgeaaegkcbjhlaa
open Go.RowKit

/-- the first line of the check: bare, an address that is a multiple of 4, lists that may be -/
def evPre (es : List Ev) (n : Nat) : Bool :=
  (es.getD n default).bareB && ((es.getD n default).addr % 4 == 0) && hangsB es n (es.getD n default).addrs && hangsB es n (es.getD n default).datas && hangsB es n (es.getD n default).ctrls
def evOk (es : List Ev) (ad : List Int) (n : Nat) : Bool :=
  evPre es n && (if n < ad.length then (es.getD n default).kind == 5 && ((es.getD n default).addr == ad.getD n 0)
    else (es.getD n default).kind != 5 && decide (0 ≤ (es.getD n default).hart) && decide ((es.getD n default).hart < 4) && ((n : Int) == ad.length || decide ((es.getD (n - 1) default).hart ≤ (es.getD n default).hart)))

theorem cells_all {w : World} {B : Nat} {e : Ev} (h : EvCells w B 0 e) : EvCells w B 0 e := h

set_option maxRecDepth 100000 in
set_option maxHeartbeats 1000000 in
theorem event_c (x : Ex) (n : Nat) (s : Sl) (ad : List Int) (w : World) (hx : x.inW w.heap.size w) (hl : IntsIn .u32 w.heap.size w s ad) (hn : n < x.evs.length) :
    Calls Try.prog 27 #[x.agg, .int .i64 n, .int .i64 ad.length, .slice s.a s.n s.c] w fun o w' => o = .returned (.bool (evOk x.evs ad n)) ∧ Below w.heap.size w w' := by
  have HX := Lib.hid hx
  have HXE := Lib.hid hx.1
  have hsm : x.evs.length ≤ 1152921504606846976 := hx.1.2.1
  obtain ⟨E, hE⟩ : ∃ E, x.evs.getD n default = E := ⟨_, rfl⟩
  have hmem : E ∈ x.evs := by rw [← hE, List.getD_eq_getElem?_getD, List.getElem?_eq_getElem hn]; simp
  have hok := hx.1.2.2.1 E hmem
  have HOK := Lib.hid hok
  have h4 : ∃ b off, x.es.a = some ⟨b, off, none⟩ ∧ b < w.heap.size ∧ ∀ k, k < x.evs.length → EvCells w b (off + k * 13) (x.evs.getD k default) := by
    rcases hx.1.2.2.2 with h4 | h4
    · rw [h4] at hn; simp at hn
    · exact h4
  obtain ⟨b, off, hea, hbB, hcell⟩ := h4
  have hen := hx.1.1
  have hcn := hcell n hn
  rw [hE] at hcn
  have HC := Lib.hid hcell
  clear hcell hx hok hmem
  obtain ⟨res, hres⟩ : ∃ z : Bool, evOk x.evs ad n = z := ⟨_, rfl⟩
  rw [hres]
  have RES := Lib.hid hres
  have HE := Lib.hid hE
  clear hres hE
  obtain ⟨g1, g2, g3⟩ := hl
  have XA : Hid (x.agg = .agg #[.slice (some ⟨b, off, none⟩) x.evs.length x.es.c, .slice x.fs.a x.fs.n x.fs.c, .slice x.os.a x.os.n x.os.c]) := Lib.hid (by unfold Ex.agg; rw [hea, hen])
  rw [XA.out]
  clear hea hen
  unfold EvCells at hcn
  obtain ⟨c1, c2, c3, c4, c5, c6, c7, c8, c9, c10, c11, c12, c13⟩ := hcn
  go_enter Try.func27, Try.ntmps27
  go_upto_region 1 with (fail)
  go_cut [0, 9] (fun s0 s9 wx => s9 = .pointer (some ⟨w.heap.size + 1, 0, none⟩) ∧ Below w.heap.size w wx ∧ w.heap.size + 1 < wx.heap.size ∧ wx.cell? ⟨w.heap.size, 0, none⟩ = some (.slice (some ⟨b, off, none⟩) x.evs.length x.es.c) ∧
    wx.cell? ⟨w.heap.size, 1, none⟩ = some (.slice x.fs.a x.fs.n x.fs.c) ∧ wx.cell? ⟨w.heap.size, 2, none⟩ = some (.slice x.os.a x.os.n x.os.c) ∧ wx.cell? ⟨w.heap.size + 1, 0, none⟩ = some (Value.int IntKind.i64 E.hart) ∧ wx.cell? ⟨w.heap.size + 1, 1, none⟩ = some (Value.int IntKind.i64 E.kind) ∧ wx.cell? ⟨w.heap.size + 1, 2, none⟩ = some (Value.int IntKind.u32 E.addr) ∧ wx.cell? ⟨w.heap.size + 1, 3, none⟩ = some (Value.int IntKind.u32 E.val) ∧ wx.cell? ⟨w.heap.size + 1, 4, none⟩ = some (Value.int IntKind.u32 E.rval) ∧ wx.cell? ⟨w.heap.size + 1, 5, none⟩ = some (Value.bool E.aq) ∧ wx.cell? ⟨w.heap.size + 1, 6, none⟩ = some (Value.bool E.rl) ∧ wx.cell? ⟨w.heap.size + 1, 7, none⟩ = some (Value.int IntKind.i64 E.pred) ∧ wx.cell? ⟨w.heap.size + 1, 8, none⟩ = some (Value.int IntKind.i64 E.succ) ∧ wx.cell? ⟨w.heap.size + 1, 9, none⟩ = some (Value.bool E.rsv) ∧ wx.cell? ⟨w.heap.size + 1, 10, none⟩ = some (Value.slice E.av.a E.av.n E.av.c) ∧ wx.cell? ⟨w.heap.size + 1, 11, none⟩ = some (Value.slice E.dv.a E.dv.n E.dv.c) ∧ wx.cell? ⟨w.heap.size + 1, 12, none⟩ = some (Value.slice E.cv.a E.cv.n E.cv.c))
  case first =>
    go_wp2_with fail
    go_meet
    refine ⟨rfl, ((Below.refl _ _).alloc (Nat.le_refl _) _).alloc (by simp) _, by simp, by simp, by simp, by simp, ?_⟩
    simp
  case rest =>
  obtain ⟨rfl, hb, hsz, b0, b1, b2, q0, q1, q2, q3, q4, q5, q6, q7, q8, q9, q10, q11, q12⟩ := hcut
  clear c1 c2 c3 c4 c5 c6 c7 c8 c9 c10 c11 c12 c13
  have hB0 : w.heap.size < wc.heap.size := by omega
  have HS := Lib.hid HOK.out.small
  have HW : Hid (∀ W, Below wc.heap.size wc W → Below w.heap.size w W ∧ w.heap.size ≤ W.heap.size) := Lib.hid (fun W h => ⟨hb.trans (h.mono (by omega)), by have := h.size; omega⟩)
  have CH : Hid (∀ (sl : Sl) (l : List Int), IntsIn .i64 w.heap.size w sl l → ∀ W, Below wc.heap.size wc W → Calls Try.prog 50 #[.agg #[.slice (some ⟨b, off, none⟩) x.evs.length x.es.c, .slice x.fs.a x.fs.n x.fs.c, .slice x.os.a x.os.n x.os.c], .int .i64 n, .slice sl.a sl.n sl.c] W
      fun o w' => o = .returned (.bool (hangsB x.evs n l)) ∧ Below W.heap.size W w') := Lib.hid (fun sl l hsl W hW => by
    rw [← XA.out]
    exact hangs_c x n sl l W ((HXE.out.below (HW.out W hW).1).mono (HW.out W hW).2) ((hsl.below (HW.out W hW).1).mono (HW.out W hW).2) hn)
  have RV : Hid (res = (E.bareB && (E.addr % 4 == 0) && hangsB x.evs n E.addrs && hangsB x.evs n E.datas && hangsB x.evs n E.ctrls && (if n < ad.length then E.kind == 5 && (E.addr == ad.getD n 0)
    else E.kind != 5 && decide (0 ≤ E.hart) && decide (E.hart < 4) && ((n : Int) == ad.length || decide ((x.evs.getD (n - 1) default).hart ≤ E.hart))))) := Lib.hid (by rw [← RES.out]; unfold evOk evPre; rw [HE.out])
  go_wp2_with fail
  refine (bare_c E HS.out _).mono ?_; rintro o w1 ⟨rfl, hb1⟩
  generalize hbb : E.bareB = bb at *
  have BB := Lib.hid hbb
  clear hbb
  have r1 : ∀ b o, b < (wc).heap.size → (w1).cell? ⟨b, o, none⟩ = (wc).cell? ⟨b, o, none⟩ := fun b o hh => (hb1).cell (p := ⟨b, o, none⟩) hh
  cases bb with
  | false =>
    go_wp2
    go_ret
    exact ⟨ret_bool (by rw [RV.out]; simp), hb.trans (hb1.mono (by omega))⟩
  | true =>
  have eAd := HOK.out.2.2.2.2.2.1.1
  have eA := Lib.hid HOK.out.1
  have eD := Lib.hid HOK.out.2.1
  have eC := Lib.hid HOK.out.2.2.1
  obtain ⟨ra, hra⟩ : ∃ bool_ : Bool, (E.addr % 4 != 0) = bool_ := ⟨_, rfl⟩
  have RA : Hid ((E.addr % 4 == 0) = !ra) := Lib.hid (by rw [← hra]; simp [bne])
  have tz : E.addr.tmod 4 = E.addr % 4 := Int.tmod_eq_emod_of_nonneg eAd
  cases ra with
  | true =>
    go_wp2
    go_ret
    exact ⟨ret_bool (by rw [RV.out, RA.out]; simp), hb.trans (hb1.mono (by omega))⟩
  | false =>
  go_wp2_with fail
  refine (CH.out E.av _ eA.out w1 hb1).mono ?_; rintro o w2 ⟨rfl, hb2⟩
  have hc2 := hb1.trans (hb2.mono hb1.size)
  have r2 : ∀ b o, b < (wc).heap.size → (w2).cell? ⟨b, o, none⟩ = (wc).cell? ⟨b, o, none⟩ := fun b o hh => (hc2).cell (p := ⟨b, o, none⟩) hh
  generalize hhA : hangsB x.evs n E.addrs = hA at *
  clear hhA
  cases hA with
  | false =>
    go_wp2
    go_ret
    exact ⟨ret_bool (by rw [RV.out]; simp), hb.trans (hc2.mono (by omega))⟩
  | true =>
  go_wp2_with fail
  refine (CH.out E.dv _ eD.out w2 hc2).mono ?_; rintro o w3 ⟨rfl, hb3⟩
  have hc3 := hc2.trans (hb3.mono hc2.size)
  clear r1 r2
  have r3 : ∀ b o, b < (wc).heap.size → (w3).cell? ⟨b, o, none⟩ = (wc).cell? ⟨b, o, none⟩ := fun b o hh => (hc3).cell (p := ⟨b, o, none⟩) hh
  generalize hhD : hangsB x.evs n E.datas = hD at *
  clear hhD
  cases hD with
  | false =>
    go_wp2
    go_ret
    exact ⟨ret_bool (by rw [RV.out]; simp), hb.trans (hc3.mono (by omega))⟩
  | true =>
  go_wp2_with fail
  refine (CH.out E.cv _ eC.out w3 hc3).mono ?_; rintro o w4 ⟨rfl, hb4⟩
  have hc4 := hc3.trans (hb4.mono hc3.size)
  clear r3
  generalize hhC : hangsB x.evs n E.ctrls = hC at *
  clear hhC
  cases hC with
  | false =>
    have r4 : ∀ b o, b < (wc).heap.size → (w4).cell? ⟨b, o, none⟩ = (wc).cell? ⟨b, o, none⟩ := fun b o hh => (hc4).cell (p := ⟨b, o, none⟩) hh
    go_wp2
    go_ret
    exact ⟨ret_bool (by rw [RV.out]; simp), hb.trans (hc4.mono (by omega))⟩
  | true =>
  have HB4 := (HW.out w4 hc4)
  have o0 : ∀ p, (over w4 p).cell? ⟨w.heap.size + 1, 0, none⟩ = some (.int .i64 E.hart) := fun p => over_cell w4 p (by have := hc4.size; omega) ((hc4.cell (p := ⟨w.heap.size + 1, 0, none⟩) hsz).trans q0)
  have o1 : ∀ p, (over w4 p).cell? ⟨w.heap.size + 1, 1, none⟩ = some (.int .i64 E.kind) := fun p => over_cell w4 p (by have := hc4.size; omega) ((hc4.cell (p := ⟨w.heap.size + 1, 1, none⟩) hsz).trans q1)
  have o2 : ∀ p, (over w4 p).cell? ⟨w.heap.size + 1, 2, none⟩ = some (.int .u32 E.addr) := fun p => over_cell w4 p (by have := hc4.size; omega) ((hc4.cell (p := ⟨w.heap.size + 1, 2, none⟩) hsz).trans q2)
  have o3 : ∀ p, (over w4 p).cell? ⟨w.heap.size, 0, none⟩ = some (.slice (some ⟨b, off, none⟩) x.evs.length x.es.c) := fun p => over_cell w4 p (by have := hc4.size; omega) ((hc4.cell (p := ⟨w.heap.size, 0, none⟩) hB0).trans b0)
  have HBW := Lib.hid (hb.trans (hc4.mono (Nat.le_of_lt hB0)))
  have G2 : w4.heap.size ≥ w.heap.size := HB4.2
  by_cases hlt : n < ad.length
  · obtain ⟨lb, lo, hla, hlB, hlc⟩ : ∃ lb lo, s.a = some ⟨lb, lo, none⟩ ∧ lb < w.heap.size ∧ ∀ k, k < ad.length → w.cell? ⟨lb, lo + k, none⟩ = some (.int .u32 (ad.getD k 0)) := by
      rcases g3 with g3 | g3
      · rw [g3] at hlt; simp at hlt
      · exact g3
    clear g3
    obtain ⟨av, hav⟩ : ∃ av, ad.getD n 0 = av := ⟨_, rfl⟩
    have o4 : ∀ p, (over w4 p).cell? ⟨lb, lo + n, none⟩ = some (.int .u32 av) := fun p => over_cell w4 p (by omega) ((HB4.1.cell (p := ⟨lb, lo + n, none⟩) hlB).trans (by rw [hlc n hlt, hav]))
    have HAV := Lib.hid hav
    clear hav hlc
    obtain ⟨k5, hk5⟩ : ∃ bool_ : Bool, (E.kind == 5) = bool_ := ⟨_, rfl⟩
    obtain ⟨ae, hae⟩ : ∃ bool_ : Bool, (E.addr == av) = bool_ := ⟨_, rfl⟩
    have RV2 : Hid (res = (k5 && ae)) := Lib.hid (by rw [RV.out, RA.out, if_pos hlt, HAV.out, hk5, hae]; simp)
    have K5 := Lib.hid hk5
    have AE := Lib.hid hae
    cases k5 with
    | false =>
      go_wp2
      refine wp_region_over (by kernel_rfl) (by kernel_rfl) ?_
      repeat (go_big_quiet_step (fail))
      refine wpQuiet_nil ?_
      intro wq hwq
      obtain ⟨pq, hwq2⟩ := hwq
      have hbq : Below (w4).heap.size (w4) wq := by rw [hwq2]; exact over_below (w4) pq
      clear hwq2
      go_wp2
      go_ret
      exact ⟨ret_bool (by rw [RV2.out]; simp), HBW.out.trans (hbq.mono G2)⟩
    | true =>
      go_wp2
      refine wp_region_over (by kernel_rfl) (by kernel_rfl) ?_
      repeat (go_big_quiet_step (fail))
      refine wpQuiet_nil ?_
      intro wq hwq
      obtain ⟨pq, hwq2⟩ := hwq
      have hbq : Below (w4).heap.size (w4) wq := by rw [hwq2]; exact over_below (w4) pq
      clear hwq2
      go_wp2
      go_ret
      exact ⟨ret_bool (by rw [RV2.out]; simp), HBW.out.trans (hbq.mono G2)⟩
  · clear g3
    obtain ⟨ln, hln⟩ : ∃ ln, ad.length = ln := ⟨_, rfl⟩
    rw [hln] at hlt g2 ⊢
    have HLN := Lib.hid hln
    clear hln
    obtain ⟨k6, hk6⟩ : ∃ bool_ : Bool, (E.kind != 5) = bool_ := ⟨_, rfl⟩
    obtain ⟨h0, hh0⟩ : ∃ bool_ : Bool, decide (0 ≤ E.hart) = bool_ := ⟨_, rfl⟩
    obtain ⟨h4, hh4⟩ : ∃ bool_ : Bool, decide (E.hart < 4) = bool_ := ⟨_, rfl⟩
    have RV1 : Hid (res = (k6 && h0 && h4 && ((n : Int) == ln || decide ((x.evs.getD (n - 1) default).hart ≤ E.hart)))) := Lib.hid (by rw [RV.out, RA.out, HLN.out, if_neg hlt, hk6, hh0, hh4]; simp)
    cases k6 with
    | false =>
      go_wp2
      refine wp_region_over (by kernel_rfl) (by kernel_rfl) ?_
      repeat (go_big_quiet_step (fail))
      refine wpQuiet_nil ?_
      intro wq hwq
      obtain ⟨pq, hwq2⟩ := hwq
      have hbq : Below (w4).heap.size (w4) wq := by rw [hwq2]; exact over_below (w4) pq
      clear hwq2
      go_wp2
      go_ret
      exact ⟨ret_bool (by rw [RV1.out]; simp), HBW.out.trans (hbq.mono G2)⟩
    | true =>
    cases h0 with
    | false =>
      go_wp2
      refine wp_region_over (by kernel_rfl) (by kernel_rfl) ?_
      repeat (go_big_quiet_step (fail))
      refine wpQuiet_nil ?_
      intro wq hwq
      obtain ⟨pq, hwq2⟩ := hwq
      have hbq : Below (w4).heap.size (w4) wq := by rw [hwq2]; exact over_below (w4) pq
      clear hwq2
      go_wp2
      go_ret
      exact ⟨ret_bool (by rw [RV1.out]; simp), HBW.out.trans (hbq.mono G2)⟩
    | true =>
    cases h4 with
    | false =>
      go_wp2
      refine wp_region_over (by kernel_rfl) (by kernel_rfl) ?_
      repeat (go_big_quiet_step (fail))
      refine wpQuiet_nil ?_
      intro wq hwq
      obtain ⟨pq, hwq2⟩ := hwq
      have hbq : Below (w4).heap.size (w4) wq := by rw [hwq2]; exact over_below (w4) pq
      clear hwq2
      go_wp2
      go_ret
      exact ⟨ret_bool (by rw [RV1.out]; simp), HBW.out.trans (hbq.mono G2)⟩
    | true =>
    by_cases heq : n = ln
    · have F : Hid (res = true) := Lib.hid (by rw [RV1.out, heq]; simp)
      subst heq
      go_wp2
      refine wp_region_over (by kernel_rfl) (by kernel_rfl) ?_
      repeat (go_big_quiet_step (fail))
      refine wpQuiet_nil ?_
      intro wq hwq
      obtain ⟨pq, hwq2⟩ := hwq
      have hbq : Below (w4).heap.size (w4) wq := by rw [hwq2]; exact over_below (w4) pq
      clear hwq2
      go_wp2
      go_ret
      exact ⟨ret_bool (by rw [F.out]), HBW.out.trans (hbq.mono G2)⟩
    · have hn1 : n - 1 < x.evs.length := by omega
      have hn0 : ln < n := by omega
      have hne : ((n : Int) == (ln : Int)) = false := by simp; omega
      have hne2 : (n == ln) = false := by simpa using heq
      obtain ⟨ph, hph⟩ : ∃ ph, (x.evs.getD (n - 1) default).hart = ph := ⟨_, rfl⟩
      have o5 : ∀ p, (over w4 p).cell? ⟨b, off + (n - 1) * 13, none⟩ = some (.int .i64 ph) := fun p => over_cell w4 p (by omega) ((HB4.1.cell (p := ⟨b, _, none⟩) hbB).trans (by rw [(HC.out (n - 1) hn1).1, hph]))
      have HPH := Lib.hid hph
      clear hph heq
      go_wp2
      refine wp_region_over (by kernel_rfl) (by kernel_rfl) ?_
      repeat (go_big_quiet_step (fail))
      refine wpQuiet_nil ?_
      intro wq hwq
      obtain ⟨pq, hwq2⟩ := hwq
      have hbq : Below (w4).heap.size (w4) wq := by rw [hwq2]; exact over_below (w4) pq
      clear hwq2
      go_wp2
      go_ret
      exact ⟨ret_bool (by rw [RV1.out, HPH.out, hne]; simp), HBW.out.trans (hbq.mono G2)⟩
end Go.Proofs.Ytgeaaegkcbjhlaa
