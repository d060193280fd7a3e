/- Whether an execution may be, or why not. -/
import Derived.Test.YtgeaaegkcbjhlaaOrder
import Derived.Test.YtgeaaegkcbjhlaaFrom
import Derived.WalkMore
import Derived.ScopeJumps
namespace Go.Proofs.Ytgeaaegkcbjhlaa

open Go.RowKit Go.Maps Go.Sort

def evsTo (es : List Ev) (ad : List Int) (k : Nat) : Bool := (List.range k).all (evOk es ad)
theorem evsTo_succ (es : List Ev) (ad : List Int) (k : Nat) : evsTo es ad (k + 1) = (evsTo es ad k && evOk es ad k) := by
  simp [evsTo, List.range_succ]
theorem evsTo_false (es : List Ev) (ad : List Int) (k : Nat) (hk : k < es.length) (h : evOk es ad k = false) : evsTo es ad es.length = false := by
  unfold evsTo
  rw [List.all_eq_false]
  exact ⟨k, by simpa using hk, by simp [h]⟩
/-- what Check answers -/
def checkI (x : Ex) : Int :=
  if 64 < x.evs.length then 3 else
  if evsTo x.evs (addrsTo x.evs) x.evs.length = false then 160 else
  if fromB x.evs x.from_ = false then 161 else
  if orderB x.evs (addrsTo x.evs) x.order = false then 162 else 0
theorem RowsIn.mono {B B' : Nat} {w : World} {s : Sl} {rows : List (Sl × List Int)} (h : RowsIn B w s rows) (hB : B ≤ B') : RowsIn B' w s rows := by
  obtain ⟨h1, h2, h3, h4⟩ := h
  refine ⟨h1, h2, fun r hr => (h3 r hr).mono hB, ?_⟩
  rcases h4 with h4 | ⟨b, off, h4, h5, h6⟩
  · exact Or.inl h4
  · exact Or.inr ⟨b, off, h4, by omega, h6⟩
theorem Ex.inW.mono {B B' : Nat} {w : World} {x : Ex} (h : x.inW B w) (hB : B ≤ B') : x.inW B' w := ⟨h.1.mono hB, h.2.1.mono hB, h.2.2.mono hB⟩
theorem Ex.inW.later {w w' : World} {x : Ex} (h : x.inW w.heap.size w) (hb : Below w.heap.size w w') : x.inW w'.heap.size w' := Ex.inW.mono (h.below hb) hb.size
theorem ret_num {a b : Int} (h : a = b) : Ending.returned (.int .i64 a) = Ending.returned (.int .i64 b) := by rw [h]

set_option maxRecDepth 100000 in
set_option maxHeartbeats 1000000 in
theorem check_long_c (x : Ex) (w : World) (hx : x.inW w.heap.size w) (h : 64 < x.evs.length) :
    Calls Try.prog 11 #[x.agg] w fun o w' => o = .returned (.int .i64 3) ∧ Below w.heap.size w w' := by
  obtain ⟨en, esm, _⟩ := hx.1
  have XA : Hid (x.agg = .agg #[.slice x.es.a x.evs.length x.es.c, .slice x.fs.a x.fs.n x.fs.c, .slice x.os.a x.os.n x.os.c]) := Lib.hid (by unfold Ex.agg; rw [en])
  rw [XA.out]
  clear en hx
  have h2 : (64 : Int) < (x.evs.length : Int) := by omega
  go_enter Try.func11, Try.ntmps11
  go_wp2
  go_step3
  go_wp2
  simp only [Exit.noGoto_ret]
  go_ret
  exact ⟨rfl, (Below.refl _ _).alloc (Nat.le_refl _) _⟩

set_option maxRecDepth 100000 in
set_option maxHeartbeats 4000000 in
theorem check_short_c (x : Ex) (w : World) (hx : x.inW w.heap.size w) (h64 : x.evs.length ≤ 64) (hrows : ∀ r ∈ x.order, r.2.length ≤ 65536) :
    Calls Try.prog 11 #[x.agg] w fun o w' => o = .returned (.int .i64 (checkI x)) ∧ Below w.heap.size w w' := by
  obtain ⟨⟨ea, en, ec⟩, ⟨fa, fn, fc⟩, ⟨oa, on, oc⟩, evs, from_, rows⟩ := x
  have e1 : en = evs.length := hx.1.1
  subst e1
  have HX := Lib.hid hx
  have H64 := Lib.hid h64
  unfold Ex.agg
  dsimp only at h64 hrows ⊢
  have AC : Hid (∀ W, Below w.heap.size w W → Calls Try.prog 26 #[.agg #[.slice ea evs.length ec, .slice fa fn fc, .slice oa on oc]] W fun o w' => ∃ s : Sl, o = .returned (.slice s.a s.n s.c) ∧ IntsIn .u32 w'.heap.size w' s (addrsTo evs) ∧ Below W.heap.size W w') :=
    Lib.hid (fun W hb => addrs_c _ W ((HX.out.1.below hb).mono hb.size) h64)
  have EC : Hid (∀ (W : World) (n : Nat) (s : Sl), Below w.heap.size w W → IntsIn .u32 W.heap.size W s (addrsTo evs) → n < evs.length → Calls Try.prog 27 #[.agg #[.slice ea evs.length ec, .slice fa fn fc, .slice oa on oc], .int .i64 n, .int .i64 (addrsTo evs).length, .slice s.a s.n s.c] W fun o w' => o = .returned (.bool (evOk evs (addrsTo evs) n)) ∧ Below W.heap.size W w') :=
    Lib.hid (fun W n s hb hi hn => event_c _ n s _ W (Ex.inW.later HX.out hb) hi hn)
  have FC : Hid (∀ (W : World), Below w.heap.size w W → Calls Try.prog 28 #[.agg #[.slice ea evs.length ec, .slice fa fn fc, .slice oa on oc]] W fun o w' => o = .returned (.bool (fromB evs from_)) ∧ Below W.heap.size W w') :=
    Lib.hid (fun W hb => from_c _ W (Ex.inW.later HX.out hb))
  have OC : Hid (∀ (W : World) (s : Sl), Below w.heap.size w W → IntsIn .u32 W.heap.size W s (addrsTo evs) → Calls Try.prog 29 #[.agg #[.slice ea evs.length ec, .slice fa fn fc, .slice oa on oc], .slice s.a s.n s.c] W fun o w' => o = .returned (.bool (orderB evs (addrsTo evs) rows)) ∧ Below W.heap.size W w') :=
    Lib.hid (fun W s hb hi => order_c _ s _ W (Ex.inW.later HX.out hb) hi h64 hrows)
  obtain ⟨res, hres⟩ : ∃ z : Int, checkI ⟨⟨ea, evs.length, ec⟩, ⟨fa, fn, fc⟩, ⟨oa, on, oc⟩, evs, from_, rows⟩ = z := ⟨_, rfl⟩
  rw [hres]
  have RES : Hid ((if evsTo evs (addrsTo evs) evs.length = false then (160 : Int) else if fromB evs from_ = false then 161 else if orderB evs (addrsTo evs) rows = false then 162 else 0) = res) := Lib.hid (by
    rw [← hres]; unfold checkI; rw [if_neg (show ¬ 64 < evs.length by omega)])
  have hal := addrsTo_len evs
  clear hres hx hrows
  go_enter Try.func11, Try.ntmps11
  go_upto_region 1 with (fail)
  refine alloc_opaque (X := fun W => Code.wp _ _ _ _ W) ?_
  intro wc hb hsz hcs
  have c0 : wc.cell? ⟨w.heap.size, 0, none⟩ = some (.slice ea evs.length ec) := hcs 0 _ rfl
  have c1 : wc.cell? ⟨w.heap.size, 1, none⟩ = some (.slice fa fn fc) := hcs 1 _ rfl
  have c2 : wc.cell? ⟨w.heap.size, 2, none⟩ = some (.slice oa on oc) := hcs 2 _ rfl
  clear hcs
  refine wp_scope_jumps 0 (fun a' w' => Below w.heap.size w w' ∧ ∃ u3 u4 u5 u6 u7 u8 u9 u10 u11 u12 u13 u14 u15 u16 u17 u18 u19 u20 u21 u22 u23 u24 u25 u26 u27 u28 u29 u30 u31 u32 u33 u34 u35 u36 u37 u38 u39 : Value, a' = { tmps := #[.agg #[.slice ea evs.length ec, .slice fa fn fc, .slice oa on oc], .pointer (some ⟨w.heap.size, 0, none⟩), .int .i64 res, u3, u4, u5, u6, u7, u8, u9, u10, u11, u12, u13, u14, u15, u16, u17, u18, u19, u20, u21, u22, u23, u24, u25, u26, u27, u28, u29, u30, u31, u32, u33, u34, u35, u36, u37, u38, u39], defers := [] }) (fun _ _ => 0) rfl ?first ?pass
  case pass =>
    rintro a' w' ⟨hb9, u3, u4, u5, u6, u7, u8, u9, u10, u11, u12, u13, u14, u15, u16, u17, u18, u19, u20, u21, u22, u23, u24, u25, u26, u27, u28, u29, u30, u31, u32, u33, u34, u35, u36, u37, u38, u39, rfl⟩
    go_wp2
    simp only [Exit.jump]
    go_ret
    exact ⟨rfl, hb9⟩
  case first =>
  go_wp2_with fail
  refine (AC.out wc hb).mono ?_; rintro o w1 ⟨⟨sa, sn, sc⟩, rfl, hi1, hb1⟩
  have hsn : sn = (addrsTo evs).length := hi1.1
  subst hsn
  have d0 : w1.cell? ⟨w.heap.size, 0, none⟩ = some (.slice ea evs.length ec) := (hb1.cell (p := ⟨w.heap.size, 0, none⟩) hsz).trans c0
  have d1 : w1.cell? ⟨w.heap.size, 1, none⟩ = some (.slice fa fn fc) := (hb1.cell (p := ⟨w.heap.size, 1, none⟩) hsz).trans c1
  have d2 : w1.cell? ⟨w.heap.size, 2, none⟩ = some (.slice oa on oc) := (hb1.cell (p := ⟨w.heap.size, 2, none⟩) hsz).trans c2
  have HB1 : Hid (∀ W, Below w1.heap.size w1 W → Below w.heap.size w W) := Lib.hid (fun W h => hb.trans ((hb1.mono (by omega)).trans (h.mono (by have := hb1.size; omega))))
  have HI1 := Lib.hid hi1
  have hz1 : w.heap.size < w1.heap.size := by have := hb1.size; omega
  obtain ⟨al, hal2⟩ : ∃ al, (addrsTo evs).length = al := ⟨_, rfl⟩
  have HAL := Lib.hid hal2
  rw [hal2] at EC hal ⊢
  clear c0 c1 c2 hi1 hb1 hb hal2
  have hal3 : decide ((evs.length : Int) < (al : Int)) = false := decide_eq_false (by omega)
  have hal4 : decide (evs.length < al) = false := decide_eq_false (by omega)
  go_wp2
  go_loopw [21] (fun i wr => ∃ k : Nat, k ≤ evs.length ∧ i = .int .i64 k ∧ evsTo evs (addrsTo evs) k = true ∧ Below w1.heap.size w1 wr) (fun i _ => evs.length - (intOf i).toNat)
  case atStart => exact ⟨0, by omega, rfl, rfl, Below.refl _ _⟩
  case round =>
    obtain ⟨k, hk, rfl, hto, hbr⟩ := hrel
    have HTO := Lib.hid hto
    clear hto
    have f0 : wr.cell? ⟨w.heap.size, 0, none⟩ = some (.slice ea evs.length ec) := (hbr.cell (p := ⟨w.heap.size, 0, none⟩) hz1).trans d0
    have f1 : wr.cell? ⟨w.heap.size, 1, none⟩ = some (.slice fa fn fc) := (hbr.cell (p := ⟨w.heap.size, 1, none⟩) hz1).trans d1
    have f2 : wr.cell? ⟨w.heap.size, 2, none⟩ = some (.slice oa on oc) := (hbr.cell (p := ⟨w.heap.size, 2, none⟩) hz1).trans d2
    have hzr := hbr.size
    by_cases hlt : k < evs.length
    · obtain ⟨be, hbe⟩ : ∃ bool_ : Bool, (evOk evs (addrsTo evs) k) = bool_ := ⟨_, rfl⟩
      have BE := Lib.hid hbe
      have ctr : Hid (Calls Try.prog 27 #[.agg #[.slice ea evs.length ec, .slice fa fn fc, .slice oa on oc], .int .i64 k, .int .i64 al, .slice sa al sc] wr fun o w' => o = .returned (.bool be) ∧ Below wr.heap.size wr w') := Lib.hid (by
        have t := EC.out wr k ⟨sa, al, sc⟩ (HB1.out _ hbr) (by have t2 := (HI1.out.below hbr).mono hzr; rw [HAL.out] at t2; exact t2) hlt
        rw [hbe] at t; exact t)
      clear hbe
      cases be with
      | true =>
        go_wp2_with (go_at_call 27; refine ctr.out.mono ?_; rintro o w2 ⟨rfl, hb2⟩)
        go_roundw
        case rel => first | exact ⟨k + 1, by omega, by go_num, by rw [evsTo_succ, HTO.out, BE.out]; rfl, hbr.trans (hb2.mono hzr)⟩ | ((repeat apply Exists.intro); exact ⟨⟨k + 1, by omega, by go_num, by rw [evsTo_succ, HTO.out, BE.out]; rfl, hbr.trans (hb2.mono hzr)⟩, rfl⟩)
        case measure => simp [intOf]; omega
      | false =>
        have F : Hid ((160 : Int) = res) := Lib.hid (by rw [← RES.out, if_pos (evsTo_false _ _ _ hlt BE.out)])
        go_wp2_with (go_at_call 27; refine ctr.out.mono ?_; rintro o w2 ⟨rfl, hb2⟩)
        go_step3
        refine ⟨rfl, HB1.out _ (hbr.trans (hb2.mono hzr)), ?_⟩
        rw [← F.out]
        repeat apply Exists.intro
        rfl
    · have hke : k = evs.length := by omega
      have ET : Hid (evsTo evs (addrsTo evs) evs.length = true) := Lib.hid (by have := HTO.out; rw [hke] at this; exact this)
      have fctr : Hid (Calls Try.prog 28 #[.agg #[.slice ea evs.length ec, .slice fa fn fc, .slice oa on oc]] wr fun o w' => o = .returned (.bool (fromB evs from_)) ∧ Below wr.heap.size wr w') := Lib.hid (FC.out wr (HB1.out _ hbr))
      have octr : Hid (∀ W, Below wr.heap.size wr W → Calls Try.prog 29 #[.agg #[.slice ea evs.length ec, .slice fa fn fc, .slice oa on oc], .slice sa al sc] W fun o w' => o = .returned (.bool (orderB evs (addrsTo evs) rows)) ∧ Below W.heap.size W w') := Lib.hid (fun W hW => by
        have t := OC.out W ⟨sa, al, sc⟩ (HB1.out _ (hbr.trans (hW.mono hzr))) (by have t2 := (HI1.out.below (hbr.trans (hW.mono hzr))).mono (by have := hW.size; omega : w1.heap.size ≤ W.heap.size); rw [HAL.out] at t2; exact t2)
        exact t)
      clear hke
      obtain ⟨fb, hfb⟩ : ∃ bool_ : Bool, (fromB evs from_) = bool_ := ⟨_, rfl⟩
      have FB := Lib.hid hfb
      rw [hfb] at fctr
      clear hfb
      cases fb with
      | false =>
        have F : Hid ((161 : Int) = res) := Lib.hid (by rw [← RES.out, if_neg (by rw [ET.out]; simp), if_pos FB.out])
        go_wp2_with (go_at_call 28; refine fctr.out.mono ?_; rintro o w2 ⟨rfl, hb2⟩)
        go_step3
        refine ⟨rfl, HB1.out _ (hbr.trans (hb2.mono hzr)), ?_⟩
        rw [← F.out]
        repeat apply Exists.intro
        rfl
      | true =>
        obtain ⟨ob, hob⟩ : ∃ bool_ : Bool, (orderB evs (addrsTo evs) rows) = bool_ := ⟨_, rfl⟩
        have OB := Lib.hid hob
        rw [hob] at octr
        clear hob
        cases ob with
        | false =>
          have F : Hid ((162 : Int) = res) := Lib.hid (by rw [← RES.out, if_neg (by rw [ET.out]; simp), if_neg (by rw [FB.out]; simp), if_pos OB.out])
          go_wp2_with fail
          refine fctr.out.mono ?_; rintro o w2 ⟨rfl, hb2⟩
          have g0 : w2.cell? ⟨w.heap.size, 0, none⟩ = some (.slice ea evs.length ec) := (hb2.cell (p := ⟨w.heap.size, 0, none⟩) (by show w.heap.size < _; omega)).trans f0
          have g1 : w2.cell? ⟨w.heap.size, 1, none⟩ = some (.slice fa fn fc) := (hb2.cell (p := ⟨w.heap.size, 1, none⟩) (by show w.heap.size < _; omega)).trans f1
          have g2 : w2.cell? ⟨w.heap.size, 2, none⟩ = some (.slice oa on oc) := (hb2.cell (p := ⟨w.heap.size, 2, none⟩) (by show w.heap.size < _; omega)).trans f2
          have octr2 := Lib.hid (octr.out w2 hb2)
          go_wp2_with fail
          refine octr2.out.mono ?_; rintro o w3 ⟨rfl, hb3⟩
          go_wp2
          go_step3
          refine ⟨rfl, HB1.out _ ((hbr.trans (hb2.mono hzr)).trans (hb3.mono (by have := hb2.size; omega))), ?_⟩
          rw [← F.out]
          repeat apply Exists.intro
          rfl
        | true =>
          have F : Hid ((0 : Int) = res) := Lib.hid (by rw [← RES.out, if_neg (by rw [ET.out]; simp), if_neg (by rw [FB.out]; simp), if_neg (by rw [OB.out]; simp)])
          go_wp2_with fail
          refine fctr.out.mono ?_; rintro o w2 ⟨rfl, hb2⟩
          have g0 : w2.cell? ⟨w.heap.size, 0, none⟩ = some (.slice ea evs.length ec) := (hb2.cell (p := ⟨w.heap.size, 0, none⟩) (by show w.heap.size < _; omega)).trans f0
          have g1 : w2.cell? ⟨w.heap.size, 1, none⟩ = some (.slice fa fn fc) := (hb2.cell (p := ⟨w.heap.size, 1, none⟩) (by show w.heap.size < _; omega)).trans f1
          have g2 : w2.cell? ⟨w.heap.size, 2, none⟩ = some (.slice oa on oc) := (hb2.cell (p := ⟨w.heap.size, 2, none⟩) (by show w.heap.size < _; omega)).trans f2
          have octr2 := Lib.hid (octr.out w2 hb2)
          go_wp2_with fail
          refine octr2.out.mono ?_; rintro o w3 ⟨rfl, hb3⟩
          go_wp2
          simp only [Exit.jump]
          go_ret
          exact ⟨ret_num F.out, HB1.out _ ((hbr.trans (hb2.mono hzr)).trans (hb3.mono (by have := hb2.size; omega)))⟩

theorem check_c (x : Ex) (w : World) (hx : x.inW w.heap.size w) (hrows : ∀ r ∈ x.order, r.2.length ≤ 65536) :
    Calls Try.prog 11 #[x.agg] w fun o w' => o = .returned (.int .i64 (checkI x)) ∧ Below w.heap.size w w' := by
  by_cases h : 64 < x.evs.length
  · refine (check_long_c x w hx h).mono ?_
    rintro o w' ⟨rfl, hb⟩
    exact ⟨by unfold checkI; rw [if_pos h], hb⟩
  · exact check_short_c x w hx (by omega) hrows
end Go.Proofs.Ytgeaaegkcbjhlaa
