/- Parts. -/
import Derived.WalkMore
import Derived.ScopeJumps
import Derived.Test.YtnkocjkkefnelaaGreatPx3
import Derived.Test.YtnkocjkkefnelaaGreatPx5
import Derived.Test.YtnkocjkkefnelaaGreatPx8
import Derived.Test.YtnkocjkkefnelaaGreatPx9
set_option linter.unusedVariables false
set_option linter.unusedSimpArgs false
namespace Go.Proofs.YtnkocjkkefnelaaGreat
open Go.RowKit Go.Maps Go.Sort
def evsTo (es : List Ev) (ad : List Int) (k : Nat) : Bool := (List.range k).all (evOk es ad)
theorem dC (es : List Ev) (ad : List Int) (k : Nat) : evsTo es ad (k + 1) = (evsTo es ad k && evOk es ad k) := by
 simp [evsTo, List.range_succ]
theorem gJ (es : List Ev) (ad : List Int) (k : Nat) (hk : k < es.length) (h : evOk es ad k = false) : evsTo es ad es.length = false := by
 unfold evsTo
 rw [List.all_eq_false]
 exact ⟨k, by simpa using hk, by simp [h]⟩
def checkI (x : Ex) : Int :=
 if 64 < x.evs.length then 3 else
 if evsTo x.evs (addrsTo x.evs) x.evs.length = false then 160 else
 if fromB x.evs x.from_ = false then 161 else
 if orderB x.evs (addrsTo x.evs) x.order = false then 162 else 0
theorem RowsIn.mono {B B' : Nat} {w : World} {s : Sl} {rows : List (Sl × List Int)} (h : RowsIn B w s rows) (hB : B ≤ B') : RowsIn B' w s rows := by
 obtain ⟨h1, h2, h3, h4⟩ := h
 refine ⟨h1, h2, fun r hr => (h3 r hr).mono hB, ?_⟩
 rcases h4 with h4 | ⟨b, off, h4, h5, h6⟩
 ·exact Or.inl h4
 ·exact Or.inr ⟨b, off, h4, by omega, h6⟩
theorem Ex.inW.mono {B B' : Nat} {w : World} {x : Ex} (h : x.inW B w) (hB : B ≤ B') : x.inW B' w := ⟨h.1.mono hB, h.2.1.mono hB, h.2.2.mono hB⟩
theorem Ex.inW.later {w w' : World} {x : Ex} (h : x.inW w.heap.size w) (hb : Below w.heap.size w w') : x.inW w'.heap.size w' := Ex.inW.mono (h.below hb) hb.size
theorem ret_num {a b : Int} (h : a = b) : Ending.returned (.int .i64 a) = Ending.returned (.int .i64 b) := by rw [h]
set_option maxRecDepth 100000 in
set_option maxHeartbeats 1000000 in
theorem check_long_c (x : Ex) (w : World) (hx : x.inW w.heap.size w) (h : 64 < x.evs.length) :
  Calls Tryz.prog 35 #[x.agg] w fun o w' => o = .returned (.int .i64 3) ∧ Below w.heap.size w w' := by
 obtain ⟨en, esm, _⟩ := hx.1
 have XA : Hid (x.agg = .agg #[.slice x.es.a x.evs.length x.es.c, .slice x.fs.a x.fs.n x.fs.c, .slice x.os.a x.os.n x.os.c]) := Lib.hid (by unfold Ex.agg; rw [en])
 rw [XA.out]
 clear en hx
 have h2 : (64 : Int) < (x.evs.length : Int) := by omega
 go_enter Tryz.func35, Tryz.ntmps35
 go_wp2
 go_step3
 go_wp2
 simp only [Exit.noGoto_ret]
 go_ret
 exact ⟨rfl, (Below.refl _ _).alloc (Nat.le_refl _) _⟩
set_option maxRecDepth 100000 in
set_option maxHeartbeats 4000000 in
theorem check_short_c (x : Ex) (w : World) (hx : x.inW w.heap.size w) (h64 : x.evs.length ≤ 64) (hrows : ∀ r ∈ x.order, r.2.length ≤ 65536) :
  Calls Tryz.prog 35 #[x.agg] w fun o w' => o = .returned (.int .i64 (checkI x)) ∧ Below w.heap.size w w' := by
 obtain ⟨⟨ea, en, ec⟩, ⟨fa, fn, fc⟩, ⟨oa, on, oc⟩, evs, from_, rows⟩ := x
 have e1 : en = evs.length := hx.1.1
 subst e1
 have HX := Lib.hid hx
 have H64 := Lib.hid h64
 unfold Ex.agg
 dsimp only at h64 hrows ⊢
 have AC : Hid (∀ W, Below w.heap.size w W → Calls Tryz.prog 51 #[.agg #[.slice ea evs.length ec, .slice fa fn fc, .slice oa on oc]] W fun o w' => ∃ s : Sl, o = .returned (.slice s.a s.n s.c) ∧ IntsIn .u32 w'.heap.size w' s (addrsTo evs) ∧ Below W.heap.size W w') :=
  Lib.hid (fun W hb => addrs_c _ W ((HX.out.1.below hb).mono hb.size) h64)
 have EC : Hid (∀ (W : World) (n : Nat) (s : Sl), Below w.heap.size w W → IntsIn .u32 W.heap.size W s (addrsTo evs) → n < evs.length → Calls Tryz.prog 52 #[.agg #[.slice ea evs.length ec, .slice fa fn fc, .slice oa on oc], .int .i64 n, .int .i64 (addrsTo evs).length, .slice s.a s.n s.c] W fun o w' => o = .returned (.bool (evOk evs (addrsTo evs) n)) ∧ Below W.heap.size W w') :=
  Lib.hid (fun W n s hb hi hn => event_c _ n s _ W (Ex.inW.later HX.out hb) hi hn)
 have FC : Hid (∀ (W : World), Below w.heap.size w W → Calls Tryz.prog 53 #[.agg #[.slice ea evs.length ec, .slice fa fn fc, .slice oa on oc]] W fun o w' => o = .returned (.bool (fromB evs from_)) ∧ Below W.heap.size W w') :=
  Lib.hid (fun W hb => from_c _ W (Ex.inW.later HX.out hb))
 have OC : Hid (∀ (W : World) (s : Sl), Below w.heap.size w W → IntsIn .u32 W.heap.size W s (addrsTo evs) → Calls Tryz.prog 54 #[.agg #[.slice ea evs.length ec, .slice fa fn fc, .slice oa on oc], .slice s.a s.n s.c] W fun o w' => o = .returned (.bool (orderB evs (addrsTo evs) rows)) ∧ Below W.heap.size W w') :=
  Lib.hid (fun W s hb hi => order_c _ s _ W (Ex.inW.later HX.out hb) hi h64 hrows)
 obtain ⟨res, hres⟩ : ∃ z : Int, checkI ⟨⟨ea, evs.length, ec⟩, ⟨fa, fn, fc⟩, ⟨oa, on, oc⟩, evs, from_, rows⟩ = z := ⟨_, rfl⟩
 rw [hres]
 have RES : Hid ((if evsTo evs (addrsTo evs) evs.length = false then (160 : Int) else if fromB evs from_ = false then 161 else if orderB evs (addrsTo evs) rows = false then 162 else 0) = res) := Lib.hid (by
  rw [← hres]; unfold checkI; rw [if_neg (show ¬ 64 < evs.length by omega)])
 have hal := yD evs
 clear hres hx hrows
 go_enter Tryz.func35, Tryz.ntmps35
 go_upto_region 1 with (fail)
 refine wU (X := fun W => Code.wp _ _ _ _ W) ?_
 intro wc hb hsz hcs
 have c0 : wc.cell? ⟨w.heap.size, 0, none⟩ = some (.slice ea evs.length ec) := hcs 0 _ rfl
 have c1 : wc.cell? ⟨w.heap.size, 1, none⟩ = some (.slice fa fn fc) := hcs 1 _ rfl
 have c2 : wc.cell? ⟨w.heap.size, 2, none⟩ = some (.slice oa on oc) := hcs 2 _ rfl
 clear hcs
 refine wp_scope_jumps 0 (fun a' w' => Below w.heap.size w w' ∧ ∃ u3 u4 u5 u6 u7 u8 u9 u10 u11 u12 u13 u14 u15 u16 u17 u18 u19 u20 u21 u22 u23 u24 u25 u26 u27 u28 u29 u30 u31 u32 u33 u34 u35 u36 u37 u38 u39 : Value, a' = { tmps := #[.agg #[.slice ea evs.length ec, .slice fa fn fc, .slice oa on oc], .pointer (some ⟨w.heap.size, 0, none⟩), .int .i64 res, u3, u4, u5, u6, u7, u8, u9, u10, u11, u12, u13, u14, u15, u16, u17, u18, u19, u20, u21, u22, u23, u24, u25, u26, u27, u28, u29, u30, u31, u32, u33, u34, u35, u36, u37, u38, u39], defers := [] }) (fun _ _ => 0) rfl ?first ?pass
 case pass =>
  rintro a' w' ⟨hb9, u3, u4, u5, u6, u7, u8, u9, u10, u11, u12, u13, u14, u15, u16, u17, u18, u19, u20, u21, u22, u23, u24, u25, u26, u27, u28, u29, u30, u31, u32, u33, u34, u35, u36, u37, u38, u39, rfl⟩
  go_wp2
  simp only [Exit.jump]
  go_ret
  exact ⟨rfl, hb9⟩
 case first =>
 go_wp2_with fail
 refine (AC.out wc hb).mono ?_; rintro o w1 ⟨⟨sa, sn, sc⟩, rfl, hi1, hb1⟩
 have hsn : sn = (addrsTo evs).length := hi1.1
 subst hsn
 have d0 : w1.cell? ⟨w.heap.size, 0, none⟩ = some (.slice ea evs.length ec) := (hb1.cell (p := ⟨w.heap.size, 0, none⟩) hsz).trans c0
 have d1 : w1.cell? ⟨w.heap.size, 1, none⟩ = some (.slice fa fn fc) := (hb1.cell (p := ⟨w.heap.size, 1, none⟩) hsz).trans c1
 have d2 : w1.cell? ⟨w.heap.size, 2, none⟩ = some (.slice oa on oc) := (hb1.cell (p := ⟨w.heap.size, 2, none⟩) hsz).trans c2
 have HB1 : Hid (∀ W, Below w1.heap.size w1 W → Below w.heap.size w W) := Lib.hid (fun W h => hb.trans ((hb1.mono (by omega)).trans (h.mono (by have := hb1.size; omega))))
 have HI1 := Lib.hid hi1
 have hz1 : w.heap.size < w1.heap.size := by have := hb1.size; omega
 obtain ⟨al, hal2⟩ : ∃ al, (addrsTo evs).length = al := ⟨_, rfl⟩
 have HAL := Lib.hid hal2
 rw [hal2] at EC hal ⊢
 clear c0 c1 c2 hi1 hb1 hb hal2
 have hal3 : decide ((evs.length : Int) < (al : Int)) = false := decide_eq_false (by omega)
 have hal4 : decide (evs.length < al) = false := decide_eq_false (by omega)
 go_wp2
 go_loopw [21] (fun i wr => ∃ k : Nat, k ≤ evs.length ∧ i = .int .i64 k ∧ evsTo evs (addrsTo evs) k = true ∧ Below w1.heap.size w1 wr) (fun i _ => evs.length - (intOf i).toNat)
 case atStart => exact ⟨0, by omega, rfl, rfl, Below.refl _ _⟩
 case round =>
  obtain ⟨k, hk, rfl, hto, hbr⟩ := hrel
  have HTO := Lib.hid hto
  clear hto
  have f0 : wr.cell? ⟨w.heap.size, 0, none⟩ = some (.slice ea evs.length ec) := (hbr.cell (p := ⟨w.heap.size, 0, none⟩) hz1).trans d0
  have f1 : wr.cell? ⟨w.heap.size, 1, none⟩ = some (.slice fa fn fc) := (hbr.cell (p := ⟨w.heap.size, 1, none⟩) hz1).trans d1
  have f2 : wr.cell? ⟨w.heap.size, 2, none⟩ = some (.slice oa on oc) := (hbr.cell (p := ⟨w.heap.size, 2, none⟩) hz1).trans d2
  have hzr := hbr.size
  by_cases hlt : k < evs.length
  ·obtain ⟨be, hbe⟩ : ∃ bool_ : Bool, (evOk evs (addrsTo evs) k) = bool_ := ⟨_, rfl⟩
   have BE := Lib.hid hbe
   have ctr : Hid (Calls Tryz.prog 52 #[.agg #[.slice ea evs.length ec, .slice fa fn fc, .slice oa on oc], .int .i64 k, .int .i64 al, .slice sa al sc] wr fun o w' => o = .returned (.bool be) ∧ Below wr.heap.size wr w') := Lib.hid (by
    have t := EC.out wr k ⟨sa, al, sc⟩ (HB1.out _ hbr) (by have t2 := (HI1.out.below hbr).mono hzr; rw [HAL.out] at t2; exact t2) hlt
    rw [hbe] at t; exact t)
   clear hbe
   cases be with
   | true =>
    go_wp2_with (go_at_call 52; refine ctr.out.mono ?_; rintro o w2 ⟨rfl, hb2⟩)
    go_roundw
    case rel => first | exact ⟨k + 1, by omega, by go_num, by rw [dC, HTO.out, BE.out]; rfl, hbr.trans (hb2.mono hzr)⟩ | ((repeat apply Exists.intro); exact ⟨⟨k + 1, by omega, by go_num, by rw [dC, HTO.out, BE.out]; rfl, hbr.trans (hb2.mono hzr)⟩, rfl⟩)
    case measure => simp [intOf]; omega
   | false =>
    have F : Hid ((160 : Int) = res) := Lib.hid (by rw [← RES.out, if_pos (gJ _ _ _ hlt BE.out)])
    go_wp2_with (go_at_call 52; refine ctr.out.mono ?_; rintro o w2 ⟨rfl, hb2⟩)
    go_step3
    refine ⟨rfl, HB1.out _ (hbr.trans (hb2.mono hzr)), ?_⟩
    rw [← F.out]
    repeat apply Exists.intro
    rfl
  ·have hke : k = evs.length := by omega
   have ET : Hid (evsTo evs (addrsTo evs) evs.length = true) := Lib.hid (by have := HTO.out; rw [hke] at this; exact this)
   have fctr : Hid (Calls Tryz.prog 53 #[.agg #[.slice ea evs.length ec, .slice fa fn fc, .slice oa on oc]] wr fun o w' => o = .returned (.bool (fromB evs from_)) ∧ Below wr.heap.size wr w') := Lib.hid (FC.out wr (HB1.out _ hbr))
   have octr : Hid (∀ W, Below wr.heap.size wr W → Calls Tryz.prog 54 #[.agg #[.slice ea evs.length ec, .slice fa fn fc, .slice oa on oc], .slice sa al sc] W fun o w' => o = .returned (.bool (orderB evs (addrsTo evs) rows)) ∧ Below W.heap.size W w') := Lib.hid (fun W hW => by
    have t := OC.out W ⟨sa, al, sc⟩ (HB1.out _ (hbr.trans (hW.mono hzr))) (by have t2 := (HI1.out.below (hbr.trans (hW.mono hzr))).mono (by have := hW.size; omega : w1.heap.size ≤ W.heap.size); rw [HAL.out] at t2; exact t2)
    exact t)
   clear hke
   obtain ⟨fb, hfb⟩ : ∃ bool_ : Bool, (fromB evs from_) = bool_ := ⟨_, rfl⟩
   have FB := Lib.hid hfb
   rw [hfb] at fctr
   clear hfb
   cases fb with
   | false =>
    have F : Hid ((161 : Int) = res) := Lib.hid (by rw [← RES.out, if_neg (by rw [ET.out]; simp), if_pos FB.out])
    go_wp2_with (go_at_call 53; refine fctr.out.mono ?_; rintro o w2 ⟨rfl, hb2⟩)
    go_step3
    refine ⟨rfl, HB1.out _ (hbr.trans (hb2.mono hzr)), ?_⟩
    rw [← F.out]
    repeat apply Exists.intro
    rfl
   | true =>
    obtain ⟨ob, hob⟩ : ∃ bool_ : Bool, (orderB evs (addrsTo evs) rows) = bool_ := ⟨_, rfl⟩
    have OB := Lib.hid hob
    rw [hob] at octr
    clear hob
    cases ob with
    | false =>
     have F : Hid ((162 : Int) = res) := Lib.hid (by rw [← RES.out, if_neg (by rw [ET.out]; simp), if_neg (by rw [FB.out]; simp), if_pos OB.out])
     go_wp2_with fail
     refine fctr.out.mono ?_; rintro o w2 ⟨rfl, hb2⟩
     have g0 : w2.cell? ⟨w.heap.size, 0, none⟩ = some (.slice ea evs.length ec) := (hb2.cell (p := ⟨w.heap.size, 0, none⟩) (by show w.heap.size < _; omega)).trans f0
     have g1 : w2.cell? ⟨w.heap.size, 1, none⟩ = some (.slice fa fn fc) := (hb2.cell (p := ⟨w.heap.size, 1, none⟩) (by show w.heap.size < _; omega)).trans f1
     have g2 : w2.cell? ⟨w.heap.size, 2, none⟩ = some (.slice oa on oc) := (hb2.cell (p := ⟨w.heap.size, 2, none⟩) (by show w.heap.size < _; omega)).trans f2
     have octr2 := Lib.hid (octr.out w2 hb2)
     go_wp2_with fail
     refine octr2.out.mono ?_; rintro o w3 ⟨rfl, hb3⟩
     go_wp2
     go_step3
     refine ⟨rfl, HB1.out _ ((hbr.trans (hb2.mono hzr)).trans (hb3.mono (by have := hb2.size; omega))), ?_⟩
     rw [← F.out]
     repeat apply Exists.intro
     rfl
    | true =>
     have F : Hid ((0 : Int) = res) := Lib.hid (by rw [← RES.out, if_neg (by rw [ET.out]; simp), if_neg (by rw [FB.out]; simp), if_neg (by rw [OB.out]; simp)])
     go_wp2_with fail
     refine fctr.out.mono ?_; rintro o w2 ⟨rfl, hb2⟩
     have g0 : w2.cell? ⟨w.heap.size, 0, none⟩ = some (.slice ea evs.length ec) := (hb2.cell (p := ⟨w.heap.size, 0, none⟩) (by show w.heap.size < _; omega)).trans f0
     have g1 : w2.cell? ⟨w.heap.size, 1, none⟩ = some (.slice fa fn fc) := (hb2.cell (p := ⟨w.heap.size, 1, none⟩) (by show w.heap.size < _; omega)).trans f1
     have g2 : w2.cell? ⟨w.heap.size, 2, none⟩ = some (.slice oa on oc) := (hb2.cell (p := ⟨w.heap.size, 2, none⟩) (by show w.heap.size < _; omega)).trans f2
     have octr2 := Lib.hid (octr.out w2 hb2)
     go_wp2_with fail
     refine octr2.out.mono ?_; rintro o w3 ⟨rfl, hb3⟩
     go_wp2
     simp only [Exit.jump]
     go_ret
     exact ⟨ret_num F.out, HB1.out _ ((hbr.trans (hb2.mono hzr)).trans (hb3.mono (by have := hb2.size; omega)))⟩
theorem check_c (x : Ex) (w : World) (hx : x.inW w.heap.size w) (hrows : ∀ r ∈ x.order, r.2.length ≤ 65536) :
  Calls Tryz.prog 35 #[x.agg] w fun o w' => o = .returned (.int .i64 (checkI x)) ∧ Below w.heap.size w w' := by
 by_cases h : 64 < x.evs.length
 ·refine (check_long_c x w hx h).mono ?_
  rintro o w' ⟨rfl, hb⟩
  exact ⟨by unfold checkI; rw [if_pos h], hb⟩
 ·exact check_short_c x w hx (by omega) hrows
set_option maxRecDepth 100000
def atFrom (n : Int) : List Int → Nat → Int
 | [], _ => -1
 | a :: l, k => if a = n then k else atFrom n l (k + 1)
def atI (l : List Int) (n : Int) : Int := atFrom n l 0
theorem yU (l : List Int) (n : Int) (k : Nat) (h : k < l.length) : atFrom n (l.drop k) k = if l.getD k 0 = n then (k : Int) else atFrom n (l.drop (k + 1)) (k + 1) := by
 rw [List.drop_eq_getElem_cons h, atFrom, List.getD_eq_getElem?_getD, List.getElem?_eq_getElem h]; rfl
set_option maxHeartbeats 1000000 in
theorem jP (l : List Int) (n : Int) (hl : l.length ≤ 1152921504606846976) : Pure E.P 33 [.d (ints l), .int .i64 n] (.int .i64 (atI l n)) := by
 refine fnA Tryz.func33 Tryz.ntmps33 ?_
 refine uB (aoR fun _ => ?_)
 refine q12 (uC (uA ?_))
 iterate 2 refine uB ?_
 refine aoR fun _ => ?_; refine q12 (uC (uA (uG ?_)))
 rotate_left
 refine uZ (X := Nat) (fun k => tmL [(0, .d (ints l)), (1, .int .i64 n), (5, .int .i64 k)]) (fun _ => stL []) (fun k => k ≤ l.length ∧ atI l n = atFrom n (l.drop k) k) (fun k => l.length - k) 0 ⟨Nat.zero_le _, rfl⟩ leP leP ?_
 intro k hk
 obtain ⟨hk, ht⟩ := hk
 iterate 2 refine uB ?_
 refine aoR fun _ => ?_
 iterate 2 refine q11 ?_
 refine q13 ?_; refine q37 (uC (uA ?_)); refine cnd ?_ ?_
 refine uK fun _ => ?_; try (exfalso; omega)
 refine uF (uA (uB (uG (uB (aoR fun _ => ?_)))))
 iterate 2 refine q11 ?_
 refine q17 ?_; refine q23 ?_; refine q11 ?_; refine q46 (uC (uA ?_)); refine cnd ?_ ?_
 refine uK fun _ => ?_; try (exfalso; omega)
 refine uB (aoR fun _ => ?_)
 refine q11 ?_; refine q12 (uC (uA ?_)); refine uH ?_; refine vL ?_
 iterate 2 refine uO ?_
 refine vL ?_; refine uO ?_; rotate_left
 refine uL fun _ => ?_; try (exfalso; omega)
 refine uF ?_; refine vJ ?_; refine uA (aoR fun _ => ?_)
 refine q11 ?_; refine q36 ?_; refine q12 (uC (uA ?_)); rotate_left
 refine uL fun _ => ?_; try (exfalso; omega)
 refine uS ?_
 iterate 2 refine vE ?_
 refine vT ?_; refine uA (uB (aoR fun _ => ?_))
 refine q12 (uC (uA ?_)); refine uH ?_; rotate_left
 ·refine wK rfl ?_
  rw [ht, yU l n k (by omega), if_pos (by assumption)]
 ·refine round (k + 1) ⟨by omega, ?_⟩ (by omega) leP leP
  rw [ht, yU l n k (by omega), if_neg (by assumption)]
 ·refine wK rfl ?_
  rw [ht, show k = l.length by omega, List.drop_length]; rfl
theorem wP (e : Ev) : Pure E.P 32 [evOV e] (.bool e.stB) := by
 refine fnA Tryz.func32 Tryz.ntmps32 ?_
 refine uB (aoR fun _ => ?_)
 refine q40 ?_; refine q12 (uC (uA (uB (aoR fun _ => ?_))))
 refine q28 ?_; refine q16 ?_; refine q46 ?_; refine q11 ?_
 apply spF; exact rfl
 intro hc_; refine q2
 apply spF; exact rfl
 intro hc_; refine q3
 apply spF; exact rfl
 intro hc_; refine q7; refine q0 ?_; refine q11 ?_
 apply spF; exact rfl
 intro hc_; refine q2
 apply spF; exact rfl
 intro hc_; refine q3
 apply spF; exact rfl
 intro hc_; refine q7; refine q0 ?_; refine q12 (uC ?_); refine uA ?_; refine uH ?_
 rotate_left
 all_goals (refine uX rfl ?_; rw [Bool.eq_iff_iff]; simp_all [Ev.stB])
theorem yR (e : Ev) : Pure E.P 31 [evOV e] (.bool e.ldB) := by
 refine fnA Tryz.func31 Tryz.ntmps31 ?_
 refine uB (aoR fun _ => ?_)
 refine q40 ?_; refine q12 (uC (uA (uB (aoR fun _ => ?_))))
 refine q28 ?_; refine q16 ?_; refine q46 ?_; refine q11 ?_
 apply spF; exact rfl
 intro hc_; refine q2
 apply spF; exact rfl
 intro hc_; refine q3
 apply spF; exact rfl
 intro hc_; refine q7; refine q0 ?_; refine q12 (uC ?_); refine uA ?_; refine uH ?_
 rotate_left
 all_goals (refine uX rfl ?_; rw [Bool.eq_iff_iff]; simp_all [Ev.ldB])
def Ev.rbareB (e : Ev) : Bool :=
 if e.kind < 1 ∨ 5 < e.kind ∨ e.pred < 0 ∨ 3 < e.pred ∨ e.succ < 0 ∨ 3 < e.succ then false
 else if e.kind ≠ 4 ∧ (e.pred ≠ 0 ∨ e.succ ≠ 0) ∨ (e.kind = 4 ∨ e.kind = 5) ∧ (e.aq = true ∨ e.rl = true) ∨ e.kind ≠ 1 ∧ e.kind ≠ 2 ∧ e.rsv = true then false
 else if e.stB = false ∧ e.val ≠ 0 ∨ e.ldB = false ∧ e.rval ≠ 0 ∨ e.kind = 4 ∧ e.addr ≠ 0 then false
 else (decide (e.kind = 2) || decide (e.kind = 3) || decide ((e.datas.length : Int) = 0)) && (decide (e.kind < 4) || decide ((e.addrs.length : Int) = 0)) && (decide (e.kind < 5) || decide ((e.ctrls.length : Int) = 0) && decide (e.hart = -1))
set_option maxHeartbeats 4000000 in
theorem pM (e : Ev) : Pure E.P 29 [evOV e] (.bool e.rbareB) := by
 refine fnA Tryz.func29 Tryz.ntmps29 ?_
 refine uB (aoR fun _ => ?_)
 refine q40 ?_; refine q12 (uC (uA (uB (aoR fun _ => ?_))))
 refine q28 ?_; refine q16 ?_; refine q12 (uC (uA ?_))
 iterate 2 refine uB ?_
 refine aoR fun _ => ?_; refine q11 ?_; refine q37 ?_; refine q11 ?_
 apply spF; exact rfl
 intro hc_; refine q1
 apply spF; exact rfl
 intro hc_; refine q35; refine q0 ?_; refine q11 ?_
 apply spF; exact rfl
 intro hc_; refine q2
 apply spF; exact rfl
 intro hc_; refine q3
 apply spF; exact rfl
 intro hc_; refine q22; refine q0 ?_; refine q11 ?_
 apply spF; exact rfl
 intro hc_; refine q2
 apply spF; exact rfl
 intro hc_; refine q3
 apply spF; exact rfl
 intro hc_; refine q35; refine q0 ?_; refine q11 ?_
 apply spF; exact rfl
 intro hc_; refine q2
 apply spF; exact rfl
 intro hc_; refine q3
 apply spF; exact rfl
 intro hc_; refine q22; refine q0 ?_; refine q11 ?_
 apply spF; exact rfl
 intro hc_; refine q2
 apply spF; exact rfl
 intro hc_; refine q3
 apply spF; exact rfl
 intro hc_; refine q35; refine q0 (uC ?_); refine uA ?_
 refine cnd ?_ ?_
 refine wZ (fun hc_ => ?_); (try simp only [nrm] at hc_)
 refine uB (aoR fun _ => ?_)
 refine q12 (uC (uA ?_)); refine uH ?_; refine uO ?_; rotate_left
 iterate 5 refine xC ?_
 iterate 6 refine uL fun _ => ?_; try (exfalso; omega)
 refine uF (uA ?_)
 iterate 2 refine uB ?_
 refine aoR fun _ => ?_; refine q11 ?_; refine q44 ?_; refine q11 ?_
 apply spT; exact rfl
 intro hc_; refine q2
 apply spT; exact rfl
 intro hc_; refine q3
 apply spT; exact rfl
 intro hc_; refine q26
 apply spT; exact rfl
 intro hc_; refine q1
 apply vW; exact rfl; exact rfl
 intro hc_; refine q2
 apply vW; exact rfl; exact rfl
 intro hc_; refine q3
 apply vW; exact rfl; exact rfl
 intro hc_; refine q26
 apply spT; exact rfl
 intro hc_; refine q24; refine q4 ?_; refine q11 ?_
 apply spF; exact rfl
 intro hc_; refine q1
 apply spF; exact rfl
 intro hc_; refine q7
 apply spF; exact rfl
 intro hc_; refine q1
 apply vW; exact rfl; exact rfl
 intro hc_; refine q1
 apply vW; exact rfl; exact rfl
 intro hc_; refine q7
 apply spF; exact rfl
 intro hc_; refine q24
 apply spF; exact rfl
 intro hc_; refine q1
 apply uU; exact rfl; exact rfl
 intro hc_; refine q2
 apply uU; exact rfl; exact rfl
 intro hc_; refine q3
 apply uU; exact rfl; exact rfl
 intro hc_; refine q1
 apply vW; exact rfl; exact rfl
 intro hc_; refine q2
 apply vW; exact rfl; exact rfl
 intro hc_; refine q3
 apply uU; exact rfl; exact rfl
 intro hc_; refine q24
 apply spF; exact rfl
 intro hc_; refine q10; refine q0 ?_; refine q11 ?_
 apply spF; exact rfl
 intro hc_; refine q1
 apply spF; exact rfl
 intro hc_; refine q26
 apply spF; exact rfl
 intro hc_; refine q1
 apply uU; exact rfl; exact rfl
 intro hc_; refine q1
 apply uU; exact rfl; exact rfl
 intro hc_; refine q26
 apply spF; exact rfl
 intro hc_; refine q10
 apply spF; exact rfl
 intro hc_; refine q1
 apply uU; exact rfl; exact rfl
 intro hc_; refine q2
 apply uU; exact rfl; exact rfl
 intro hc_; refine q3
 apply spF; exact rfl
 intro hc_; refine q10; refine q0 (uC ?_); refine uA ?_
 refine cnd ?_ ?_
 refine wZ (fun hc_ => ?_); (try simp only [nrm] at hc_)
 refine uB (aoR fun _ => ?_)
 refine q12 (uC (uA ?_)); refine uH ?_; refine uO ?_; rotate_left
 iterate 2 refine xC ?_
 iterate 3 (refine wS (fun hc_ => ?_); (try simp only [nrm] at hc_))
 refine uF (uA ?_)
 iterate 2 refine uB ?_
 refine aoR fun _ => ?_; refine q14 ?_
 apply uQ; exact rfl; exact .fn _ _ _; exact rfl; (exact wP _)
 apply yE; exact rfl
 refine q11 ?_
 apply spT; exact rfl
 intro hc_; refine q2
 apply spT; exact rfl
 intro hc_; refine q3
 apply spT; exact rfl
 intro hc_; refine q26; refine q4 ?_; refine q11 ?_
 apply spF; exact rfl
 intro hc_; refine q27
 apply spF; exact rfl
 intro hc_
 have hp_ := hc_; try simp only [nrm] at hp_
 apply vK; exact .plain rfl rfl; exact .fn _ _ _; exact wD; (exact yR _)
 apply spF; exact rfl
 intro hc_; refine q42
 apply spF; exact rfl
 intro hc_; refine q1
 apply uU; exact rfl; exact rfl
 intro hc_; refine q2
 apply uU; exact rfl; exact rfl
 intro hc_; refine q3
 apply uU; exact rfl; exact rfl
 intro hc_; refine q26
 apply spF; exact rfl
 intro hc_; refine q10; refine q0 ?_; refine q11 ?_
 apply spF; exact rfl
 intro hc_; refine q1
 apply spF; exact rfl
 intro hc_; refine q7
 apply spF; exact rfl
 intro hc_; refine q1
 apply uU; exact rfl; exact rfl
 intro hc_; refine q2
 apply uU; exact rfl; exact rfl
 intro hc_; refine q3
 apply uU; exact rfl; exact rfl
 intro hc_; refine q26
 apply spF; exact rfl
 intro hc_; refine q10; refine q0 (uC ?_); refine uA ?_
 refine cnd ?_ ?_
 refine wZ (fun hc_ => ?_); (try simp only [nrm] at hc_)
 refine uB (aoR fun _ => ?_)
 refine q12 (uC (uA ?_)); refine uH ?_; refine uO ?_; rotate_left
 iterate 2 refine xC ?_
 iterate 3 (refine wS (fun hc_ => ?_); (try simp only [nrm] at hc_))
 refine uF (uA (uB (aoR fun _ => ?_)))
 refine q11 ?_; refine q46 ?_; refine q11 ?_
 apply spF; exact rfl
 intro hc_; refine q1
 apply spF; exact rfl
 intro hc_; refine q7; refine q0 ?_; refine q11 ?_
 apply spF; exact rfl
 intro hc_; refine q2
 apply spF; exact rfl
 intro hc_; refine q3
 apply spF; exact rfl
 intro hc_; refine q18
 apply spF; exact rfl
 intro hc_; refine q7; refine q0 ?_; refine q11 ?_
 apply spT; exact rfl
 intro hc_; refine q1
 apply spT; exact rfl
 intro hc_; refine q22
 apply spT; exact rfl
 intro hc_; refine q1
 apply vW; exact rfl; exact rfl
 intro hc_; refine q2
 apply vW; exact rfl; exact rfl
 intro hc_; refine q3
 apply vW; exact rfl; exact rfl
 intro hc_; refine q18
 apply vW; exact rfl; exact rfl
 intro hc_; refine q7
 apply spT; exact rfl
 intro hc_; refine q24; refine q4 ?_; refine q11 ?_
 apply spT; exact rfl
 intro hc_; refine q1
 apply spT; exact rfl
 intro hc_; refine q22
 apply spT; exact rfl
 intro hc_; refine q1
 apply vW; exact rfl; exact rfl
 intro hc_; refine q2
 apply vW; exact rfl; exact rfl
 intro hc_; refine q3
 apply vW; exact rfl; exact rfl
 intro hc_; refine q18
 apply vW; exact rfl; exact rfl
 intro hc_; refine q7
 apply vW; exact rfl; exact rfl
 intro hc_; refine q1
 apply uU; exact rfl; exact rfl
 intro hc_; refine q2
 apply uU; exact rfl; exact rfl
 intro hc_; refine q3
 apply uU; exact rfl; exact rfl
 intro hc_; refine q7
 apply vW; exact rfl; exact rfl
 intro hc_; refine q10
 apply spT; exact rfl
 intro hc_; refine q24; refine q4 ?_; refine q12 (uC ?_); refine uA ?_; refine uH ?_
 rotate_left
 all_goals refine uX rfl ?_
 all_goals unfold Ev.rbareB
 all_goals first | grind | rw [if_neg (by grind), if_neg (by grind), if_neg (by grind)]
set_option maxRecDepth 100000
open Go.RowKit Go.ChangeShapes Go.WideShapes Go.Deep
section
variable {M : Mem} {w : World} (hm : ∀ b o v, M b o = some v → w.cell? ⟨b, o, none⟩ = some v)
include hm
theorem fH {q : IntKind} {l : List Int} {v : Value} (h : Rep M (.sl 1 (l.map fun n => [TV.c (.int q n)])) v) (hl : l.length ≤ 1152921504606846976) : ∃ s : Sl, v = .slice s.a s.n s.c ∧ IntsIn q w.heap.size w s l := by
 rw [Rep] at h
 obtain ⟨a, c, h1, h2, h3⟩ := h
 rw [List.length_map] at h1
 refine ⟨⟨a, l.length, c⟩, h1, rfl, hl, ?_⟩
 rcases h3 with h3 | ⟨b, off, h4, h5⟩
 ·exact Or.inl (List.map_eq_nil_iff.1 h3)
 ·have get : ∀ k, k < l.length → w.cell? ⟨b, off + k, none⟩ = some (.int q (l.getD k 0)) := fun k hk => by
   obtain ⟨_, g2⟩ := h5.get (uW (f := fun n => [TV.c (.int q n)]) hk 0)
   obtain ⟨u, g3, g4⟩ := g2.get (o := 0) rfl
   rw [Rep] at g4
   rw [g4.1, Nat.mul_one, Nat.add_zero] at g3
   exact hm _ _ _ g3
  by_cases hz : l = []
  ·exact Or.inl hz
  ·exact Or.inr ⟨b, off, h4, (zV (get 0 (List.length_pos_iff.2 hz))).2, get⟩
def Ev.like (e e' : Ev) : Prop := ∃ a d c : Sl, e' = { e with av := a, dv := d, cv := c } ∧ a.n = e.addrs.length ∧ d.n = e.datas.length ∧ c.n = e.ctrls.length
theorem ev_back {e : Ev} (hok : e.ok) {b o : Nat} (h : RepC M (evTV e) b o) : ∃ e', e.like e' ∧ EvCells w b o e' ∧ e'.okIn w.heap.size w := by
 have cl : ∀ i v, (evTV e)[i]? = some (.c v) → w.cell? ⟨b, o + i, none⟩ = some v := fun i v hi => by
  obtain ⟨u, g3, g4⟩ := h.get hi
  rw [Rep] at g4
  rw [g4.1] at g3
  exact hm _ _ _ g3
 have cs : ∀ i l, (evTV e)[i]? = some (ints l) → l.length ≤ 1152921504606846976 → ∃ s : Sl, w.cell? ⟨b, o + i, none⟩ = some (.slice s.a s.n s.c) ∧ IntsIn .i64 w.heap.size w s l := fun i l hi hl => by
  obtain ⟨u, g3, g4⟩ := h.get hi
  obtain ⟨s, rfl, hs⟩ := fH hm (q := .i64) g4 hl
  exact ⟨s, hm _ _ _ g3, hs⟩
 obtain ⟨w1, n1, n2, n3, _⟩ := hok
 obtain ⟨sa, a1, a2⟩ := cs 10 e.addrs rfl n1
 obtain ⟨sd, d1, d2⟩ := cs 11 e.datas rfl n2
 obtain ⟨sc, c1, c2⟩ := cs 12 e.ctrls rfl n3
 refine ⟨{ e with av := sa, dv := sd, cv := sc }, ⟨sa, sd, sc, rfl, a2.1, d2.1, c2.1⟩, ?_, a2, d2, c2, w1⟩
 exact ⟨cl 0 _ rfl, cl 1 _ rfl, cl 2 _ rfl, cl 3 _ rfl, cl 4 _ rfl, cl 5 _ rfl, cl 6 _ rfl, cl 7 _ rfl, cl 8 _ rfl, cl 9 _ rfl, a1, d1, c1⟩
theorem evs_back {es : List Ev} {v : Value} (h : Rep M (evsTV es) v) (hl : es.length ≤ 1152921504606846976) (hok : ∀ e ∈ es, e.ok) :
  ∃ (s : Sl) (es' : List Ev), v = .slice s.a s.n s.c ∧ EvsIn w.heap.size w s es' ∧ es'.length = es.length ∧ ∀ i, i < es.length → (es.getD i default).like (es'.getD i default) := by
 unfold evsTV at h
 rw [Rep] at h
 obtain ⟨a, c, h1, h2, h3⟩ := h
 rw [List.length_map] at h1
 rcases h3 with h3 | ⟨b, off, h4, h5⟩
 ·have : es = [] := List.map_eq_nil_iff.1 h3
  subst this
  exact ⟨⟨a, 0, c⟩, [], h1, ⟨rfl, by simp, by simp, Or.inl rfl⟩, rfl, fun i hi => by simp at hi⟩
 ·obtain ⟨E, hE⟩ := choose_lt (α := Ev) (n := es.length) (p := fun i e' => (es.getD i default).like e' ∧ EvCells w b (off + i * 13) e' ∧ e'.okIn w.heap.size w) (fun i hi => by
   obtain ⟨_, g2⟩ := h5.get (uW (f := evTV) hi default)
   refine ev_back hm (hok _ ?_) g2
   rw [List.getD_eq_getElem?_getD, List.getElem?_eq_getElem hi]
   exact List.getElem_mem hi)
  have hL : ((List.range es.length).map E).length = es.length := by simp
  have hg : ∀ i, i < es.length → ((List.range es.length).map E).getD i default = E i := fun i hi => by
   rw [List.getD_eq_getElem?_getD, List.getElem?_eq_getElem (by omega)]
   simp
  refine ⟨⟨a, es.length, c⟩, (List.range es.length).map E, h1, ⟨hL.symm, by omega, fun e he => ?_, ?_⟩, hL, fun i hi => by rw [hg i hi]; exact (hE i hi).1⟩
  ·obtain ⟨i, hi, rfl⟩ := List.mem_map.1 he
   exact (hE i (List.mem_range.1 hi)).2.2
  ·by_cases hz : es.length = 0
   ·left; rw [hz]; rfl
   ·right
    have c0 := (hE 0 (by omega)).2.1.1
    exact ⟨b, off, h4, (zV c0).2, fun k hk => by rw [hg k (by omega)]; exact (hE k (by omega)).2.1⟩
theorem rows_back {l : List (Sl × List Int)} {v : Value} (h : Rep M (rowsTV l) v) (hl : l.length ≤ 1152921504606846976) (hok : ∀ r ∈ l, r.2.length ≤ 1152921504606846976) :
  ∃ (s : Sl) (l' : List (Sl × List Int)), v = .slice s.a s.n s.c ∧ RowsIn w.heap.size w s l' ∧ l'.length = l.length ∧ ∀ i, i < l.length → (l'.getD i default).2 = (l.getD i default).2 := by
 unfold rowsTV at h
 rw [Rep] at h
 obtain ⟨a, c, h1, h2, h3⟩ := h
 rw [List.length_map] at h1
 rcases h3 with h3 | ⟨b, off, h4, h5⟩
 ·have : l = [] := List.map_eq_nil_iff.1 h3
  subst this
  exact ⟨⟨a, 0, c⟩, [], h1, ⟨rfl, by simp, by simp, Or.inl rfl⟩, rfl, fun i hi => by simp at hi⟩
 ·obtain ⟨E, hE⟩ := choose_lt (α := Sl × List Int) (n := l.length) (p := fun i r => r.2 = (l.getD i default).2 ∧ w.cell? ⟨b, off + i, none⟩ = some r.1.v ∧ IntsIn .i64 w.heap.size w r.1 r.2) (fun i hi => by
   obtain ⟨_, g2⟩ := h5.get (uW (f := intRow) hi default)
   obtain ⟨u, g3, g4⟩ := g2.get (o := 0) rfl
   obtain ⟨s, rfl, hs⟩ := fH hm (q := .i64) g4 (by
    apply hok
    rw [List.getD_eq_getElem?_getD, List.getElem?_eq_getElem hi]
    exact List.getElem_mem hi)
   rw [Nat.mul_one, Nat.add_zero] at g3
   exact ⟨(s, (l.getD i default).2), rfl, hm _ _ _ g3, hs⟩)
  have hL : ((List.range l.length).map E).length = l.length := by simp
  have hg : ∀ i, i < l.length → ((List.range l.length).map E).getD i default = E i := fun i hi => by
   rw [List.getD_eq_getElem?_getD, List.getElem?_eq_getElem (by omega)]
   simp
  refine ⟨⟨a, l.length, c⟩, (List.range l.length).map E, h1, ⟨hL.symm, by omega, fun r hr => ?_, ?_⟩, hL, fun i hi => by rw [hg i hi]; exact (hE i hi).1⟩
  ·obtain ⟨i, hi, rfl⟩ := List.mem_map.1 hr
   exact (hE i (List.mem_range.1 hi)).2.2
  ·by_cases hz : l.length = 0
   ·left; rw [hz]; rfl
   ·right
    have c0 := (hE 0 (by omega)).2.1
    exact ⟨b, off, h4, (zV c0).2, fun k hk => by rw [hg k (by omega)]; exact (hE k (by omega)).2.1⟩
end
def Sl.core (s : Sl) : Sl := ⟨none, s.n, 0⟩
def Ev.core (e : Ev) : Ev := { e with av := e.av.core, dv := e.dv.core, cv := e.cv.core }
theorem zH (es : List Ev) (i : Nat) : (es.map Ev.core).getD i default = (es.getD i default).core := by
 rw [List.getD_eq_getElem?_getD, List.getD_eq_getElem?_getD, List.getElem?_map]
 cases es[i]? <;> rfl
def Ex.core (x : Ex) : Ex := ⟨default, default, default, x.evs.map Ev.core, x.from_, x.order.map fun r => (default, r.2)⟩
theorem addrs_core (es : List Ev) : addrsTo (es.map Ev.core) = addrsTo es := by
 unfold addrsTo
 rw [List.foldl_map]
 rfl
theorem hangs_core (es : List Ev) (n : Nat) (l : List Int) : hangsB (es.map Ev.core) n l = hangsB es n l := by
 unfold hangsB hangsTo
 congr 1
 funext i
 unfold depOk
 simp only [zH]
 rfl
theorem evOk_core (es : List Ev) (ad : List Int) : evOk (es.map Ev.core) ad = evOk es ad := by
 funext n
 unfold evOk evPre
 simp only [zH, hangs_core]
 rfl
theorem evsTo_core (es : List Ev) (ad : List Int) (k : Nat) : evsTo (es.map Ev.core) ad k = evsTo es ad k := by
 unfold evsTo
 rw [evOk_core]
theorem fromOk_core (es : List Ev) (fs : List Int) : fromOk (es.map Ev.core) fs = fromOk es fs := by
 funext n
 unfold fromOk srcOk
 simp only [zH, List.length_map]
 rfl
theorem fromB_core (es : List Ev) (fs : List Int) : fromB (es.map Ev.core) fs = fromB es fs := by
 unfold fromB fromTo
 rw [fromOk_core, List.length_map]
theorem want_core (es : List Ev) (a : Int) (k : Nat) : wantTo (es.map Ev.core) a k = wantTo es a k := by
 unfold wantTo
 simp only [zH]
 rfl
theorem order_core (es : List Ev) (ad : List Int) (rows : List (Sl × List Int)) : orderB (es.map Ev.core) ad (rows.map fun r => (default, r.2)) = orderB es ad rows := by
 unfold orderB rowsTo
 rw [List.length_map]
 congr 2
 funext i
 unfold rowOk
 rw [want_core, List.length_map]
 have : ((rows.map fun r => ((default : Sl), r.2)).getD i default).2 = (rows.getD i default).2 := by
  rw [List.getD_eq_getElem?_getD, List.getD_eq_getElem?_getD, List.getElem?_map]
  cases rows[i]? <;> rfl
 rw [this]
theorem jA (x : Ex) : checkI x.core = checkI x := by
 unfold checkI Ex.core
 dsimp only
 rw [addrs_core, List.length_map, evsTo_core, fromB_core, order_core]
theorem like_core {e e' : Ev} (h : e.like e') (hc : e.av.n = e.addrs.length ∧ e.dv.n = e.datas.length ∧ e.cv.n = e.ctrls.length) : e'.core = e.core := by
 obtain ⟨a, d, c, rfl, h1, h2, h3⟩ := h
 unfold Ev.core Sl.core
 dsimp only
 rw [h1, h2, h3, hc.1, hc.2.1, hc.2.2]
theorem cT {α : Type} (d : α) {l l' : List α} (hl : l.length = l'.length) (h : ∀ i, i < l.length → l.getD i d = l'.getD i d) : l = l' := by
 apply List.ext_getElem hl
 intro i h1 h2
 have := h i h1
 rw [List.getD_eq_getElem?_getD, List.getD_eq_getElem?_getD, List.getElem?_eq_getElem h1, List.getElem?_eq_getElem h2] at this
 exact this
theorem Ev.ok.bare {e : Ev} (h : e.ok) : e.bareB = e.rbareB := by
 obtain ⟨_, _, _, _, h1, h2, h3⟩ := h
 unfold Ev.bareB Ev.rbareB Ev.stB Ev.ldB
 rw [h1, h2, h3]
 obtain ⟨hart, kind, addr, val, rval, aq, rl, pred, succ, rsv, av, dv, cv, l1, l2, l3⟩ := e
 dsimp only
 generalize l1.length = a
 generalize l2.length = d
 generalize l3.length = c
 rw [Bool.eq_iff_iff]
 by_cases k5 : kind = 5
 ·subst k5; cases aq <;> cases rl <;> cases rsv <;> simp <;> omega
 by_cases k4 : kind = 4
 ·subst k4; cases aq <;> cases rl <;> cases rsv <;> simp <;> omega
 by_cases k3 : kind = 3
 ·subst k3; cases aq <;> cases rl <;> cases rsv <;> simp <;> omega
 by_cases k2 : kind = 2
 ·subst k2; cases aq <;> cases rl <;> cases rsv <;> simp <;> omega
 by_cases k1 : kind = 1
 ·subst k1; cases aq <;> cases rl <;> cases rsv <;> simp <;> omega
 rw [if_neg k5, if_neg k1, if_neg k2, if_neg k3, if_neg k4]
 have : kind < 1 ∨ 5 < kind := by omega
 rcases this with h | h <;> simp [h]
theorem ex_back {M : Mem} {w : World} (hm : ∀ b o v, M b o = some v → w.cell? ⟨b, o, none⟩ = some v) {G : Gh} (hG : G.M = M) {x : Ex} {v : Value} (h : RepO G (exOV x) v) (hx : x.ok) :
  ∃ x' : Ex, v = x'.agg ∧ x'.inW w.heap.size w ∧ x'.core = x.core := by
 obtain ⟨h1, h2, h3, h4, h5⟩ := hx
 unfold exOV at h
 rw [RepO] at h
 obtain ⟨vs, hv, h⟩ := h
 rw [RepOL] at h
 obtain ⟨v0, us, e0, r0, h⟩ := h
 rw [RepOL] at h
 obtain ⟨v1, us1, e1, r1, h⟩ := h
 rw [RepOL] at h
 obtain ⟨v2, us2, e2, r2, h⟩ := h
 rw [RepOL] at h
 rw [RepO, hG] at r0 r1 r2
 obtain ⟨s0, es', rfl, g1, g2, g3⟩ := evs_back hm r0 h1 h2
 obtain ⟨s1, rfl, g4⟩ := fH hm (q := .i64) r1 h3
 obtain ⟨s2, l', rfl, g5, g6, g7⟩ := rows_back hm r2 h4 h5
 refine ⟨⟨s0, s1, s2, es', x.from_, l'⟩, ?_, ⟨g1, g4, g5⟩, ?_⟩
 ·rw [hv]; unfold Ex.agg
  congr 1
  apply Array.ext'
  rw [e0, e1, e2, h]
 ·unfold Ex.core
  dsimp only
  congr 1
  ·apply cT default (by simpa using g2)
   intro i hi
   rw [List.length_map] at hi
   rw [zH, zH]
   refine like_core (g3 i (by omega)) ?_
   have := h2 (x.evs.getD i default) (by
    rw [List.getD_eq_getElem?_getD, List.getElem?_eq_getElem (by omega)]
    exact List.getElem_mem _)
   exact this.2.2.2.2
  ·apply cT default (by simpa using g6)
   intro i hi
   rw [List.length_map] at hi
   have e : ∀ rows : List (Sl × List Int), (rows.map fun r => ((default : Sl), r.2)).getD i default = (default, (rows.getD i default).2) := fun rows => by
    rw [List.getD_eq_getElem?_getD, List.getD_eq_getElem?_getD, List.getElem?_map]
    cases rows[i]? <;> rfl
   rw [e, e, g7 i (by omega)]
theorem pO {P : Program} {f : FuncId} {args : List OV} {l : Value} (hE : Enters P f) (hl : l.oneCell' = true)
  (h : ∀ (G : Gh) (w : World) (vs : List Value), RepOL G args vs → (∀ b o v, G.M b o = some v → w.cell? ⟨b, o, none⟩ = some v) → Calls P f vs.toArray w fun e w' => e = .returned l ∧ Below w.heap.size w w') : Pure P f args (.d (.c l)) :=
 ⟨hE, fun G w vs N hr hw => (h G w vs hr hw.mem).mono fun e w' ⟨h1, h2⟩ => ⟨l, G, .d (.c l), Store.nil, h1, rfl, Gh.le.refl G, by rw [RepO]; exact yV hl, hw.below h2⟩⟩
theorem zA (x : Ex) (hx : x.ok) (hrows : ∀ r ∈ x.order, r.2.length ≤ 65536) : Pure E.P 35 [exOV x] (.int .i64 (checkI x)) := by
 refine pO ⟨_, Tryz.func35, by decide, rfl⟩ rfl fun G w vs hr hm => ?_
 rw [RepOL] at hr
 obtain ⟨v, us, rfl, r0, hr⟩ := hr
 rw [RepOL] at hr
 subst hr
 obtain ⟨x', rfl, h1, h2⟩ := ex_back hm rfl r0 hx
 have := check_c x' w h1 (fun r hr => ?_)
 ·rw [← jA x', h2, jA] at this
  exact this
 ·have e : (default, r.2) ∈ x'.core.order := List.mem_map.2 ⟨r, hr, rfl⟩
  rw [h2] at e
  obtain ⟨r', hr', e'⟩ := List.mem_map.1 e
  have := hrows r' hr'
  rw [Prod.mk.injEq] at e'
  rw [← e'.2]; exact this
def pairTV (p : Int × Int) : List TV := [.c (.int .i64 p.1), .c (.int .i64 p.2)]
def pairsTV (l : List (Int × Int)) : TV := .sl 2 (l.map pairTV)
def exRow (x : Ex) : List TV := [evsTV x.evs, ints x.from_, rowsTV x.order]
theorem kN {l pre r : List (Int × Int)} {p : Int × Int} (h : l = pre ++ [p] ++ r) : pre.length < l.length ∧ (pairYs l).getD pre.length [] = [.ag (pairO' p)] := by
 have hlt : pre.length < l.length := by rw [h]; simp
 refine ⟨hlt, ?_⟩
 rw [cZ l hlt, h]
 simp [List.getD]
def Ex.fit (x : Ex) : Prop := x.ok ∧ ∀ r ∈ x.order, r.2.length ≤ 65536
theorem iB {P : Program} {Y : YJ} {k m : Nat} {τ : Stamp} {st : Bool} {J : Nat → Rows → Prop} {L : List (Int × Int)} (h1 : st = false → m = L.length)
  (hy : ∀ i l0, i < m → J i l0 → YieldW P Y k τ i (i + 1) ((pairYs L).getD i []) l0 (J (i + 1)) (!(st && i + 1 == m))) {pre r : List (Int × Int)} {p : Int × Int} {l : Rows} (hL : L = pre ++ [p] ++ r) (hst : st = true → pre.length < m) (hJ : J pre.length l) :
  pre.length < m ∧ YieldW P Y k τ pre.length (pre.length + 1) [.ag (pairO' p)] l (J (pre.length + 1)) (!(st && pre.length + 1 == m)) := by
 obtain ⟨e1, e2⟩ := kN hL
 have hlm : pre.length < m := by
  cases st with
  | true => exact hst rfl
  | false => rw [h1 rfl]; exact e1
 have := hy _ l hlm hJ
 rw [e2] at this
 exact ⟨hlm, this⟩
theorem lQ {st : Bool} {m i : Nat} (h1 : i < m) (h2 : (!(st && i + 1 == m)) = true) (h3 : st = true) : i + 1 < m := by
 subst h3
 simp at h2; omega
theorem dS {st : Bool} {m i : Nat} (h : (!(st && i + 1 == m)) = false) : i + 1 = m := by
 simp at h; exact h.2
theorem yP (l : List (Int × Int)) : FzR (l.map pairO') (l.map pairTV) := by
 induction l with
 | nil => exact FzR.nil
 | cons p l ih => exact FzR.cons (FzC.cons (FzC.cons FzC.nil)) ih
theorem qM {k s : Nat} {τ : Stamp} {rows : List (List TV)} {l : Rows} (hbig : ∀ e ∈ l, 1000 ≤ e.1) (hk : k < 1000) {σ : Store} (h : ∀ j, j ≠ k → σ j = stL l j) : FrozS k τ s rows σ (stL l) := fun j τ' r' hj => by
 have hne : j ≠ k := fun e => by
  subst e
  obtain ⟨e, he, h2⟩ := List.mem_map.1 (gN hj)
  have := hbig e he
  omega
 exact ⟨hne, r', by rw [h j hne]; exact hj, rfl, rfl, fun i row' hi => ⟨row', hi, rfl, fun o y' ho => ⟨y', ho, .same _⟩⟩⟩
theorem le_app {l : Rows} (hbig : ∀ e ∈ l, 1000 ≤ e.1) {σ : Store} {δ : Diff} (hd : (δ.all fun e => Nat.blt e.1 1000) = true) (h : (stL l).le σ) : (stL l).le (σ.apply δ) := fun k x hx => by
 rw [wJ (fun hk => ?_)]
 ·exact h k x hx
 ·obtain ⟨e, he, h2⟩ := List.mem_map.1 (gN hx)
  have h3 := hbig e he
  have : ∀ δ : Diff, k ∈ wkeys δ → ∃ y, (k, y) ∈ δ := fun δ => by
   induction δ with
   | nil => intro h; cases h
   | cons a δ ih =>
    obtain ⟨a, y⟩ := a
    intro h
    simp only [wkeys, List.mem_cons] at h
    rcases h with rfl | h
    ·exact ⟨y, by simp⟩
    ·obtain ⟨y', h'⟩ := ih h; exact ⟨y', by simp [h']⟩
  obtain ⟨y, hy⟩ := this δ hk
  have := List.all_eq_true.1 hd _ hy
  simp at this
  omega
set_option maxRecDepth 100000
section
variable {v j : Nat} {ops : Array Oper} {K : Tm → Store → Prop} {KD : List Foot → Tm → Store → Prop} {acc : List Foot} {rest : List Oper} {tm : Tm} {σ : Store} {dst : Option Tmp} {ty : TypeId} {pos : String} {af : Array Edge} {gd : Option (Nat × Bool)}
end
theorem vO {x : Ex} (h : checkI x = 0) : x.evs.length ≤ 64 ∧ evsTo x.evs (addrsTo x.evs) x.evs.length = true ∧ fromB x.evs x.from_ = true ∧ orderB x.evs (addrsTo x.evs) x.order = true := by
 unfold checkI at h
 by_cases h1 : 64 < x.evs.length
 ·rw [if_pos h1] at h; omega
 rw [if_neg h1] at h
 cases h2 : evsTo x.evs (addrsTo x.evs) x.evs.length with
 | false => rw [h2] at h; simp at h
 | true =>
 cases h3 : fromB x.evs x.from_ with
 | false => rw [h2, h3] at h; simp at h
 | true =>
 cases h4 : orderB x.evs (addrsTo x.evs) x.order with
 | false => rw [h2, h3, h4] at h; simp at h
 | true => exact ⟨by omega, rfl, rfl, rfl⟩
theorem yS {es : List Ev} {fs : List Int} (h : fromB es fs = true) : fs.length = es.length := by
 unfold fromB at h
 simp only [Bool.and_eq_true, decide_eq_true_eq] at h
 exact h.1
theorem pW {es : List Ev} {fs : List Int} (h : fromB es fs = true) {k : Nat} (hk : k < fs.length) : fromOk es fs k = true := by
 unfold fromB fromTo at h
 simp only [Bool.and_eq_true, List.all_eq_true, List.mem_range] at h
 exact h.2 k hk
theorem pV {es : List Ev} {fs : List Int} (h : fromB es fs = true) (k : Nat) : fs.getD k 0 < (es.length : Int) + 1 := by
 by_cases hk : k < fs.length
 ·have := pW h hk
  unfold fromOk at this
  simp only [Bool.or_eq_true, Bool.and_eq_true, Bool.not_eq_true', beq_iff_eq, decide_eq_false_iff_not] at this
  omega
 ·rw [List.getD_eq_getElem?_getD, List.getElem?_eq_none (by omega)]
  simp only [Option.getD_none]
  omega
theorem zL {a : Int} (h : 0 ≤ a) : ∃ n : Nat, a = n := ⟨a.toNat, (Int.toNat_of_nonneg h).symm⟩
def refPairs (n : Nat) (f : Nat → Nat → Bool) : List (Int × Int) := (List.range n).flatMap fun a => ((List.range n).filter (f a)).map fun (b : Nat) => (((a : Nat) : Int), ((b : Nat) : Int))
theorem vH {n : Nat} {f : Nat → Nat → Bool} {p : Int × Int} : p ∈ refPairs n f ↔ ∃ a b : Nat, a < n ∧ b < n ∧ f a b = true ∧ p = ((a : Int), (b : Int)) := by
 unfold refPairs
 constructor
 ·intro h
  obtain ⟨a, h1, h2⟩ := List.mem_flatMap.1 h
  obtain ⟨b, h3, rfl⟩ := List.mem_map.1 h2
  obtain ⟨h4, h5⟩ := List.mem_filter.1 h3
  exact ⟨a, b, List.mem_range.1 h1, List.mem_range.1 h4, h5, rfl⟩
 ·rintro ⟨a, b, h1, h2, h3, rfl⟩
  exact List.mem_flatMap.2 ⟨a, List.mem_range.2 h1, List.mem_map.2 ⟨b, List.mem_filter.2 ⟨List.mem_range.2 h2, h3⟩, rfl⟩⟩
theorem yY {x y : Int × Int} : ltZ x y = true ↔ x.1 < y.1 ∨ (x.1 = y.1 ∧ x.2 < y.2) := by simp [ltZ]
theorem bP (n : Nat) (f : Nat → Nat → Bool) : (refPairs n f).Pairwise fun x y => ltZ x y = true := by
 unfold refPairs
 rw [List.pairwise_flatMap]
 refine ⟨fun a _ => ?_, ?_⟩
 ·refine List.Pairwise.map _ (R := (· < ·)) (fun b c h => ?_) (List.Pairwise.filter _ List.pairwise_lt_range)
  rw [yY]; right; exact ⟨rfl, by dsimp only; omega⟩
 ·refine List.Pairwise.imp (fun {a b} h => ?_) List.pairwise_lt_range
  intro x hx y hy
  obtain ⟨c, _, rfl⟩ := List.mem_map.1 hx
  obtain ⟨d, _, rfl⟩ := List.mem_map.1 hy
  rw [yY]; left; dsimp only; omega
theorem bI {L : List (Int × Int)} {n : Nat} {f : Nat → Nat → Bool} (hnd : L.Nodup) (hm : ∀ p, p ∈ L ↔ p ∈ refPairs n f) : sortZ L = refPairs n f := by
 have hlt := bP n f
 have hnd2 : (refPairs n f).Nodup := hlt.imp fun {x y} h e => by subst e; rw [yY] at h; omega
 refine List.Perm.eq_of_pairwise (le := fun x y => (!ltZ y x) = true) (fun x y _ _ h1 h2 => ?_) (List.pairwise_mergeSort (fun a b c h1 h2 => ?_) (fun a b => ?_) L) (hlt.imp fun {x y} h => ?_) ((List.mergeSort_perm L _).trans ((List.perm_ext_iff_of_nodup hnd hnd2).2 hm))
 ·simp only [Bool.not_eq_true', Bool.eq_false_iff, ne_eq, yY] at h1 h2
  exact Prod.ext (by omega) (by omega)
 ·simp only [Bool.not_eq_true', Bool.eq_false_iff, ne_eq, yY] at *
  omega
 ·simp only [Bool.or_eq_true, Bool.not_eq_true', Bool.eq_false_iff, ne_eq, yY]
  omega
 ·simp only [Bool.not_eq_true', Bool.eq_false_iff, ne_eq, yY] at *
  omega
def isPo (x : Ex) (a b : Nat) : Bool := decide (a < b) && decide (0 ≤ (x.evs.getD a default).hart) && decide ((x.evs.getD a default).hart = (x.evs.getD b default).hart)
def poRow (x : Ex) (a b : Nat) : List (Int × Int) := ((List.range b).filter (isPo x a)).map fun (b : Nat) => (((a : Nat) : Int), ((b : Nat) : Int))
def poTo (x : Ex) (a : Nat) : List (Int × Int) := (List.range a).flatMap fun a => poRow x a x.evs.length
def poAt (x : Ex) (a b : Nat) : List (Int × Int) := poTo x a ++ poRow x a b
def poZ (x : Ex) : List (Int × Int) := poTo x x.evs.length
theorem gO (x : Ex) : poZ x = refPairs x.evs.length (isPo x) := rfl
theorem po_sorted (x : Ex) : sortZ (poZ x) = refPairs x.evs.length (isPo x) := by
 have hlt := bP x.evs.length (isPo x)
 exact bI (by rw [gO]; exact hlt.imp fun {x y} h e => by subst e; rw [yY] at h; omega) fun p => by rw [gO]
theorem cF (x : Ex) (a : Nat) : poTo x (a + 1) = poTo x a ++ poRow x a x.evs.length := by
 simp [poTo, List.range_succ, List.flatMap_append]
theorem kG (x : Ex) (a : Nat) : poAt x a (a + 1) = poTo x a := by
 unfold poAt poRow
 rw [List.filter_eq_nil_iff.2, List.map_nil, List.append_nil]
 intro b hb
 have := List.mem_range.1 hb
 unfold isPo
 rw [show decide (a < b) = false by simp; omega]
 simp
theorem kF {x : Ex} {a b : Nat} (h : isPo x a b = true) : poRow x a (b + 1) = poRow x a b ++ [((a : Int), (b : Int))] := by
 unfold poRow
 rw [List.range_succ, List.filter_append, List.filter_cons, if_pos h, List.filter_nil, List.map_append]; rfl
theorem nD {x : Ex} {a b : Nat} (h : ¬ isPo x a b = true) : poRow x a (b + 1) = poRow x a b := by
 unfold poRow
 rw [List.range_succ, List.filter_append, List.filter_cons, if_neg h, List.filter_nil, List.append_nil]
theorem nE {x : Ex} {a b : Nat} (h : isPo x a b = true) : poAt x a (b + 1) = poAt x a b ++ [((a : Int), (b : Int))] := by
 unfold poAt; rw [kF h, List.append_assoc]
theorem poAt_no {x : Ex} {a b : Nat} (h : ¬ isPo x a b = true) : poAt x a (b + 1) = poAt x a b := by
 unfold poAt; rw [nD h]
theorem poAt_end (x : Ex) (a : Nat) : poAt x a x.evs.length = poTo x (a + 1) := by rw [cF]; rfl
theorem poRow_pre (x : Ex) (a : Nat) : ∀ {b c : Nat}, b ≤ c → ∃ r, poRow x a c = poRow x a b ++ r := fun {b c} h => by
  induction c with
  | zero => have : b = 0 := by omega
            subst this; exact ⟨[], by simp⟩
  | succ c ih =>
    by_cases e : b = c + 1
    · subst e; exact ⟨[], by simp⟩
    · obtain ⟨r, hr⟩ := ih (by omega)
      by_cases hc : isPo x a c = true
      · exact ⟨_, by rw [kF hc, hr, List.append_assoc]⟩
      · exact ⟨r, by rw [nD hc, hr]⟩
theorem poTo_pre (x : Ex) : ∀ {a c : Nat}, a ≤ c → ∃ r, poTo x c = poTo x a ++ r := fun {a c} h => by
  induction c with
  | zero => have : a = 0 := by omega
            subst this; exact ⟨[], by simp⟩
  | succ c ih =>
    by_cases e : a = c + 1
    · subst e; exact ⟨[], by simp⟩
    · obtain ⟨r, hr⟩ := ih (by omega)
      exact ⟨_, by rw [cF, hr, List.append_assoc]⟩
theorem poAt_in {x : Ex} {a b : Nat} (ha : a < x.evs.length) (hb : b < x.evs.length) (h : isPo x a b = true) : ∃ q, poZ x = poAt x a b ++ [((a : Int), (b : Int))] ++ q := by
 obtain ⟨q1, h1⟩ := poTo_pre x (show a + 1 ≤ x.evs.length from ha)
 obtain ⟨q2, h2⟩ := poRow_pre x a (show b + 1 ≤ x.evs.length from hb)
 rw [← nE h]
 unfold poZ poAt
 rw [h1, cF, h2]
 exact ⟨q2 ++ q1, by simp only [List.append_assoc]⟩
theorem poZ_small {x : Ex} (h : x.evs.length ≤ 65536) : smallP (poZ x) := fun p hp => by
 rw [gO] at hp
 obtain ⟨a, b, h1, h2, _, rfl⟩ := vH.1 hp
 dsimp only
 omega
theorem iH (x : Ex) : ∀ a, (poTo x a).length ≤ a * x.evs.length
 | 0 => by simp [poTo]
 | a + 1 => by
  rw [cF, List.length_append, Nat.succ_mul]
  have h1 := iH x a
  have h2 : (poRow x a x.evs.length).length ≤ x.evs.length := by
   unfold poRow
   rw [List.length_map]
   exact Nat.le_trans (List.length_filter_le _ _) (by simp)
  omega
set_option maxRecDepth 100000
def eqTo {α : Type} [Inhabited α] (f : α → α → Bool) (a b : List α) (k : Nat) : Bool := (List.range k).all fun i => f (a.getD i default) (b.getD i default)
def eqL {α : Type} [Inhabited α] (f : α → α → Bool) (a b : List α) : Bool := decide (a.length = b.length) && eqTo f a b a.length
def intB (a b : Int) : Bool := decide (a = b)
def eqI (a b : List Int) : Bool := eqL intB a b
def pairB (a b : Int × Int) : Bool := a.1 == b.1 && a.2 == b.2
def eqP (a b : List (Int × Int)) : Bool := eqL pairB a b
theorem rL (x : Ex) (hx : x.evs.length ≤ 65536) (a b : Nat) (ha : a < x.evs.length) (hb : b < x.evs.length) : Pure E.P 44 [exOV x, .int .i64 a, .int .i64 b] (.bool (isPo x a b)) := by
 refine fnA Tryz.func44 Tryz.ntmps44 ?_
 refine uB (aoR fun _ => ?_)
 refine q40 ?_; refine q12 (uC (uA (uB ?_)))
 refine vB (E := E) ?_ (fun _ => ?_); exact rfl
 iterate 2 refine q38 ?_
 apply oS; exact rfl; exact rfl
 refine q38 ?_
 apply dpT; exact rfl
 intro hc_; refine q2
 apply dpT; exact rfl
 intro hc_; refine q3
 apply dpT; exact rfl
 intro hc_; refine q1
 apply dpT; exact rfl
 intro hc_
 have hp_ := hc_; try simp only [nrm] at hp_
 refine q5
 apply dpT; exact rfl
 intro hc_; refine q8
 apply dpT; exact rfl
 intro hc_; refine q6
 apply dpT; exact rfl
 intro hc_; refine q21; refine q9 ?_; refine q38 ?_
 apply dpT; exact rfl
 intro hc_; refine q2
 apply dpT; exact rfl
 intro hc_; refine q3
 apply dpT; exact rfl
 intro hc_; refine q1
 apply dpT; exact rfl
 intro hc_
 have hp_ := hc_; try simp only [nrm] at hp_
 refine q5
 apply dpT; exact rfl
 intro hc_; refine q8
 apply dpT; exact rfl
 intro hc_; refine q6
 apply dpT; exact rfl
 intro hc_; refine q2
 apply dpT; exact rfl
 intro hc_; refine q3
 apply dpT; exact rfl
 intro hc_; refine q1
 apply dpT; exact rfl
 intro hc_
 have hp_ := hc_; try simp only [nrm] at hp_
 refine q5
 apply dpT; exact rfl
 intro hc_; refine q8
 apply dpT; exact rfl
 intro hc_; refine q6
 apply dpT; exact rfl
 intro hc_; refine q7; refine q9 ?_
 apply wW; exact rfl
 refine vX ?_ ?_; (first | ((try dsimp only [wkeys]); decide +kernel) | exact rfl)
 refine uA ?_; refine uH ?_; rotate_left
 refine uX rfl ?_
 rw [Bool.eq_iff_iff]
 unfold isPo
 simp only [Bool.and_eq_true, decide_eq_true_eq, Int.toNat_natCast, Int.ofNat_lt]
def accB (e : Ev) : Bool := decide (0 ≤ e.hart) && !decide (e.kind = 4)
def pairOf (x : Ex) (a b : Nat) : Bool := accB (x.evs.getD a default) && accB (x.evs.getD b default) && decide (a < b) && decide ((x.evs.getD a default).hart = (x.evs.getD b default).hart)
def oneB (e f : Ev) : Bool := decide (e.addr = f.addr)
def someB (a b : Nat) (f : Nat → Bool) : Bool := (List.range b).any fun n => decide (a < n) && f n
def inB (s : Int) (e : Ev) : Bool := (decide (s = 1) || decide (s = 3)) && e.stB || (decide (s = 2) || decide (s = 3)) && e.ldB
def strongB (e : Ev) : Bool := (e.aq || e.rl) && (decide (e.kind = 3) || e.rsv)
def hasB (l : List Int) (a : Nat) : Bool := decide (0 ≤ atI l a)
def pairTo (es : List Ev) (f : Ev) : Nat → Int
 | 0 => -1
 | k + 1 =>
  if (es.getD k default).hart = f.hart then
   if (es.getD k default).rsv = true then (if (es.getD k default).kind = 2 then -1 else if (es.getD k default).addr = f.addr then (k : Int) else -1)
   else pairTo es f k
  else -1
def pairedI (x : Ex) (b : Nat) : Int := if (x.evs.getD b default).kind = 2 ∧ (x.evs.getD b default).rsv = true then pairTo x.evs (x.evs.getD b default) b else -1
def rule2 (x : Ex) (a b : Nat) : Bool := (x.evs.getD a default).ldB && (x.evs.getD b default).ldB && oneB (x.evs.getD a default) (x.evs.getD b default) && !decide (x.from_.getD a 0 = x.from_.getD b 0) && !someB a b (fun n => (x.evs.getD n default).stB && decide ((x.evs.getD n default).addr = (x.evs.getD a default).addr))
def rule3 (x : Ex) (a b : Nat) : Bool := (decide ((x.evs.getD a default).kind = 3) || decide ((x.evs.getD a default).kind = 2) && (x.evs.getD a default).rsv) && decide (x.from_.getD b 0 = (a : Int))
def hit4 (x : Ex) (a b n : Nat) : Bool := decide ((x.evs.getD n default).kind = 4) && inB (x.evs.getD n default).pred (x.evs.getD a default) && inB (x.evs.getD n default).succ (x.evs.getD b default)
def hit12 (x : Ex) (a b n : Nat) : Bool := (x.evs.getD n default).stB && decide (x.from_.getD b 0 = (n : Int)) && (hasB (x.evs.getD n default).addrs a || hasB (x.evs.getD n default).datas a)
def hit13 (x : Ex) (a n : Nat) : Bool := hasB (x.evs.getD n default).addrs a
def ruleR (x : Ex) (r : Int) (a b : Nat) : Bool :=
 if r = 1 then (x.evs.getD b default).stB && oneB (x.evs.getD a default) (x.evs.getD b default)
 else if r = 2 then rule2 x a b
 else if r = 3 then rule3 x a b
 else if r = 4 then someB a b (hit4 x a b)
 else if r = 5 then (x.evs.getD a default).aq
 else if r = 6 then (x.evs.getD b default).rl
 else if r = 7 then strongB (x.evs.getD a default) && strongB (x.evs.getD b default)
 else if r = 8 then decide (pairedI x b = (a : Int))
 else if r = 9 then hasB (x.evs.getD b default).addrs a
 else if r = 10 then hasB (x.evs.getD b default).datas a
 else if r = 11 then (x.evs.getD b default).stB && hasB (x.evs.getD b default).ctrls a
 else if r = 12 then (x.evs.getD b default).ldB && someB a b (hit12 x a b)
 else if r = 13 then (x.evs.getD b default).stB && someB a b (hit13 x a)
 else false
def ruleB (x : Ex) (r : Int) (a b : Nat) : Bool := pairOf x a b && ruleR x r a b
def rs13 : List Int := [1, 2, 3, 4, 5, 6, 7, 8, 9, 10, 11, 12, 13]
def heldL (x : Ex) (a b : Nat) : List Int := rs13.filter fun r => ruleR x r a b
def isPpo (x : Ex) (a b : Nat) : Bool := rs13.any fun r => ruleB x r a b
theorem pairOf_po {x : Ex} {a b : Nat} (h : pairOf x a b = true) : isPo x a b = true := by
 unfold pairOf accB at h
 unfold isPo
 simp only [Bool.and_eq_true, decide_eq_true_eq] at h ⊢
 exact ⟨⟨h.1.2, h.1.1.1.1⟩, h.2⟩
theorem pairOf_eq (x : Ex) (a b : Nat) : pairOf x a b = (isPo x a b && !decide ((x.evs.getD a default).kind = 4) && !decide ((x.evs.getD b default).kind = 4)) := by
 rw [Bool.eq_iff_iff]
 unfold pairOf accB isPo
 simp only [Bool.and_eq_true, decide_eq_true_eq]
 constructor
 ·rintro ⟨⟨⟨⟨h1, h2⟩, h3, h4⟩, h5⟩, h6⟩; exact ⟨⟨⟨⟨h5, h1⟩, h6⟩, h2⟩, h4⟩
 ·rintro ⟨⟨⟨⟨h5, h1⟩, h6⟩, h2⟩, h4⟩; exact ⟨⟨⟨⟨h1, h2⟩, by rw [← h6]; exact h1, h4⟩, h5⟩, h6⟩
theorem nT (x : Ex) (a b : Nat) : isPpo x a b = (pairOf x a b && decide (0 < (heldL x a b).length)) := by
 unfold isPpo heldL ruleB
 cases pairOf x a b with
 | false => simp
 | true =>
  simp only [Bool.true_and]
  rw [Bool.eq_iff_iff, List.any_eq_true, decide_eq_true_eq]
  constructor
  ·rintro ⟨r, h1, h2⟩
   exact List.length_pos_iff.2 (List.ne_nil_of_mem (List.mem_filter.2 ⟨h1, h2⟩))
  ·intro h
   obtain ⟨r, hr⟩ := List.exists_mem_of_length_pos h
   exact ⟨r, (List.mem_filter.1 hr).1, (List.mem_filter.1 hr).2⟩
theorem eL {α β : Type} {f g : α → List β} : ∀ {l : List α}, (∀ a ∈ l, f a = g a) → l.flatMap f = l.flatMap g
 | [], _ => rfl
 | a :: l, h => by rw [List.flatMap_cons, List.flatMap_cons, h a (by simp), eL fun b hb => h b (by simp [hb])]
theorem filter_refPairs (n : Nat) (f g : Nat → Nat → Bool) (h : Int × Int → Bool) (hh : ∀ a b : Nat, a < n → b < n → f a b = true → h ((a : Int), (b : Int)) = g a b) (hg : ∀ a b, g a b = true → f a b = true) : (refPairs n f).filter h = refPairs n g := by
 unfold refPairs
 rw [List.filter_flatMap]
 refine eL fun a ha => ?_
 rw [List.filter_map]
 refine congrArg _ ?_
 rw [List.filter_filter]
 refine List.filter_congr fun b hb => ?_
 have ha := List.mem_range.1 ha
 have hb := List.mem_range.1 hb
 cases hf : f a b with
 | false =>
  cases hq : g a b with
  | false => simp
  | true => rw [hg a b hq] at hf; cases hf
 | true => simp [hh a b ha hb hf]
theorem ppo_list (x : Ex) : (refPairs x.evs.length (isPo x)).filter (fun p => pairOf x p.1.toNat p.2.toNat && decide (0 < (heldL x p.1.toNat p.2.toNat).length)) = refPairs x.evs.length (isPpo x) :=
 filter_refPairs _ _ _ _ (fun a b _ _ _ => by rw [nT]; simp only [Int.toNat_natCast]) fun a b h => by
  rw [nT] at h
  simp only [Bool.and_eq_true] at h
  exact pairOf_po h.1
theorem aM {a b : Nat} {f : Nat → Bool} (h : b ≤ a + 1) : someB a b f = false := by
 unfold someB
 rw [List.any_eq_false]
 intro n hn
 have := List.mem_range.1 hn
 rw [show decide (a < n) = false by simp; omega]; simp
theorem cX {a b : Nat} {f : Nat → Bool} (h : a < b) : someB a (b + 1) f = (someB a b f || f b) := by
 unfold someB
 rw [List.range_succ, List.any_append]
 simp [h]
theorem jX {a b n : Nat} {f : Nat → Bool} (h1 : a < n) (h2 : n < b) (h : f n = true) : someB a b f = true := by
 unfold someB
 exact List.any_eq_true.2 ⟨n, List.mem_range.2 h2, by simp [h1, h]⟩
theorem bK {a b : Nat} {f g : Nat → Bool} (h : ∀ n, a < n → n < b → f n = g n) : someB a b f = someB a b g := by
 unfold someB
 rw [Bool.eq_iff_iff]
 simp only [List.any_eq_true, List.mem_range, Bool.and_eq_true, decide_eq_true_eq]
 exact ⟨fun ⟨n, h1, h2, h3⟩ => ⟨n, h1, h2, by rw [← h n h2 h1]; exact h3⟩, fun ⟨n, h1, h2, h3⟩ => ⟨n, h1, h2, by rw [h n h2 h1]; exact h3⟩⟩
def pairTP (es : List Ev) (f : Ev) : Nat → Int × Bool
 | 0 => (0, false)
 | k + 1 =>
  if (es.getD k default).hart = f.hart then
   if (es.getD k default).rsv = true then ((k : Int), decide ((es.getD k default).kind = 1) && decide ((es.getD k default).addr = f.addr))
   else pairTP es f k
  else (0, false)
def pairedZ (x : Ex) (b : Nat) : Int × Bool := if (x.evs.getD b default).kind = 2 ∧ (x.evs.getD b default).rsv = true then pairTP x.evs (x.evs.getD b default) b else (0, false)
theorem kJ {es : List Ev} {f : Ev} (h : ∀ i, (es.getD i default).rsv = true → (es.getD i default).kind = 1 ∨ (es.getD i default).kind = 2) : ∀ k, (pairTP es f k).2 = decide (0 ≤ pairTo es f k) ∧ ((pairTP es f k).2 = true → (pairTP es f k).1 = pairTo es f k)
 | 0 => by simp [pairTP, pairTo]
 | k + 1 => by
  have ih := kJ (f := f) h k
  have hq := h k
  unfold pairTP pairTo
  generalize es.getD k default = g at hq ⊢
  by_cases h1 : g.hart = f.hart
  ·rw [if_pos h1, if_pos h1]
   by_cases h2 : g.rsv = true
   ·rw [if_pos h2, if_pos h2]
    rcases hq h2 with h3 | h3
    ·rw [h3]
     by_cases h4 : g.addr = f.addr
     ·rw [if_neg (by decide), if_pos h4]; simp [h4]
     ·rw [if_neg (by decide), if_neg h4]; simp [h4]
    ·rw [h3]; simp
   ·rw [if_neg h2, if_neg h2]; exact ih
  ·rw [if_neg h1, if_neg h1]; simp
theorem iJ {x : Ex} (h : ∀ i, (x.evs.getD i default).rsv = true → (x.evs.getD i default).kind = 1 ∨ (x.evs.getD i default).kind = 2) (b : Nat) : (pairedZ x b).2 = decide (0 ≤ pairedI x b) ∧ ((pairedZ x b).2 = true → (pairedZ x b).1 = pairedI x b) := by
 unfold pairedZ pairedI
 by_cases h1 : (x.evs.getD b default).kind = 2 ∧ (x.evs.getD b default).rsv = true
 ·rw [if_pos h1, if_pos h1]; exact kJ h b
 ·rw [if_neg h1, if_neg h1]; simp
theorem pairedZ_rule {x : Ex} (h : ∀ i, (x.evs.getD i default).rsv = true → (x.evs.getD i default).kind = 1 ∨ (x.evs.getD i default).kind = 2) (a b : Nat) : ((pairedZ x b).2 && decide ((pairedZ x b).1 = (a : Int))) = decide (pairedI x b = (a : Int)) := by
 obtain ⟨h1, h2⟩ := iJ h b
 cases h3 : (pairedZ x b).2 with
 | true => rw [h2 h3]; simp
 | false =>
  rw [h3] at h1
  have : ¬ 0 ≤ pairedI x b := by simpa using h1.symm
  simp only [Bool.false_and]
  exact (decide_eq_false (by omega)).symm
theorem held_eq (x : Ex) (a b : Nat) : ((List.range 14).filter fun (r : Nat) => decide (1 ≤ r) && ruleR x (r : Int) a b).map (fun (r : Nat) => (r : Int)) = heldL x a b := by
 have e : (List.range 14).map (fun (r : Nat) => (r : Int)) = 0 :: rs13 := by decide
 have h := List.filter_map (f := fun (r : Nat) => (r : Int)) (p := fun z : Int => decide (1 ≤ z) && ruleR x z a b) (l := List.range 14)
 rw [e] at h
 unfold heldL
 have h2 : ((List.range 14).filter ((fun z : Int => decide (1 ≤ z) && ruleR x z a b) ∘ fun (r : Nat) => (r : Int))) = (List.range 14).filter fun (r : Nat) => decide (1 ≤ r) && ruleR x (r : Int) a b := by
  refine List.filter_congr fun r _ => ?_
  show (decide ((1 : Int) ≤ (r : Int)) && ruleR x r a b) = _
  congr 1
  exact decide_eq_decide.2 (by omega)
 rw [h2] at h
 rw [← h, List.filter_cons, if_neg (by simp)]
 refine List.filter_congr fun r hr => ?_
 have : (1 : Int) ≤ r := by
  unfold rs13 at hr
  simp only [List.mem_cons, List.not_mem_nil, or_false] at hr
  omega
 simp [this]
set_option maxRecDepth 100000
theorem kV (e : Ev) : Pure E.P 79 [evOV e] (.bool e.stB) := by
 refine fnA Tryz.func79 Tryz.ntmps79 ?_
 refine uB (aoR fun _ => ?_)
 refine q40 ?_; refine q12 (uC (uA (uB (aoR fun _ => ?_))))
 refine q28 ?_; refine q16 ?_; refine q46 ?_; refine q11 ?_
 apply spF; exact rfl
 intro hc_; refine q2
 apply spF; exact rfl
 intro hc_; refine q3
 apply spF; exact rfl
 intro hc_; refine q7; refine q0 ?_; refine q11 ?_
 apply spF; exact rfl
 intro hc_; refine q2
 apply spF; exact rfl
 intro hc_; refine q3
 apply spF; exact rfl
 intro hc_; refine q7; refine q0 ?_; refine q12 (uC ?_); refine uA ?_; refine uH ?_
 rotate_left
 all_goals (refine uX rfl ?_; rw [Bool.eq_iff_iff]; simp_all [Ev.stB])
theorem nZ (e : Ev) : Pure E.P 78 [evOV e] (.bool e.ldB) := by
 refine fnA Tryz.func78 Tryz.ntmps78 ?_
 refine uB (aoR fun _ => ?_)
 refine q40 ?_; refine q12 (uC (uA (uB (aoR fun _ => ?_))))
 refine q28 ?_; refine q16 ?_; refine q46 ?_; refine q11 ?_
 apply spF; exact rfl
 intro hc_; refine q2
 apply spF; exact rfl
 intro hc_; refine q3
 apply spF; exact rfl
 intro hc_; refine q7; refine q0 ?_; refine q12 (uC ?_); refine uA ?_; refine uH ?_
 rotate_left
 all_goals (refine uX rfl ?_; rw [Bool.eq_iff_iff]; simp_all [Ev.ldB])
theorem mS (e : Ev) : Pure E.P 139 [evOV e] (.bool (strongB e)) := by
 refine fnA Tryz.func139 Tryz.ntmps139 ?_
 refine uB (aoR fun _ => ?_)
 refine q40 ?_; refine q12 (uC (uA (uB (aoR fun _ => ?_))))
 refine q28 ?_; refine q16 ?_; refine q11 ?_
 apply spF; exact rfl
 intro hc_; refine q2
 apply spF; exact rfl
 intro hc_; refine q3; refine q0 ?_; refine q11 ?_
 apply spT; exact rfl
 intro hc_; refine q2
 apply spT; exact rfl
 intro hc_; refine q3
 apply spT; exact rfl
 intro hc_; refine q7
 apply spT; exact rfl
 intro hc_; refine q1
 apply vW; exact rfl; exact rfl
 intro hc_; refine q2
 apply vW; exact rfl; exact rfl
 intro hc_; refine q3
 apply spT; exact rfl
 intro hc_; refine q24; refine q4 ?_; refine q12 (uC ?_); refine uA ?_; refine uH ?_
 rotate_left
 all_goals (refine uX rfl ?_; rw [Bool.eq_iff_iff]; simp_all [strongB])
theorem kA (e : Ev) : Pure E.P 97 [evOV e] (.bool (strongB e)) := by
 refine fnA Tryz.func97 Tryz.ntmps97 ?_
 refine uB (aoR fun _ => ?_)
 refine q40 ?_; refine q12 (uC (uA (uB (aoR fun _ => ?_))))
 refine q28 ?_; refine q16 ?_; refine q11 ?_
 apply spF; exact rfl
 intro hc_; refine q2
 apply spF; exact rfl
 intro hc_; refine q3; refine q0 ?_; refine q11 ?_
 apply spT; exact rfl
 intro hc_; refine q2
 apply spT; exact rfl
 intro hc_; refine q3
 apply spT; exact rfl
 intro hc_; refine q7
 apply spT; exact rfl
 intro hc_; refine q1
 apply vW; exact rfl; exact rfl
 intro hc_; refine q2
 apply vW; exact rfl; exact rfl
 intro hc_; refine q3
 apply spT; exact rfl
 intro hc_; refine q24; refine q4 ?_; refine q12 (uC ?_); refine uA ?_; refine uH ?_
 rotate_left
 all_goals (refine uX rfl ?_; rw [Bool.eq_iff_iff]; simp_all [strongB])
theorem oJ (x : Ex) (n : Nat) (hx : x.evs.length ≤ 65536) (hn : n < x.evs.length) : Pure E.P 109 [exOV x, .int .i64 n] (.bool (accB (x.evs.getD n default))) := by
 refine fnA Tryz.func109 Tryz.ntmps109 ?_
 refine uB (aoR fun _ => ?_)
 refine q40 ?_; refine q12 (uC (uA (uB (aoR fun _ => ?_))))
 refine q11 ?_
 apply cV; exact rfl; exact rfl
 refine q11 ?_
 apply spT; exact rfl
 intro hc_; refine q1
 apply spT; exact rfl
 intro hc_; refine q2
 apply spT; exact rfl
 intro hc_; refine q2
 apply spT; exact rfl
 intro hc_; refine q3
 apply spT; exact rfl
 intro hc_; refine q18
 apply spT; exact rfl
 intro hc_; refine q22; refine q4 ?_; refine q11 ?_
 apply spT; exact rfl
 intro hc_; refine q2
 apply spT; exact rfl
 intro hc_; refine q2
 apply spT; exact rfl
 intro hc_; refine q3
 apply spT; exact rfl
 intro hc_; refine q1
 apply spT; exact rfl
 intro hc_
 have hp_ := hc_; try simp only [nrm] at hp_
 refine q5
 apply spT; exact rfl
 intro hc_; refine q8
 apply spT; exact rfl
 intro hc_; refine q6
 apply spT; exact rfl
 intro hc_; refine q21; refine q4 ?_; refine q11 ?_
 apply spT; exact rfl
 intro hc_; refine q2
 apply spT; exact rfl
 intro hc_; refine q2
 apply spT; exact rfl
 intro hc_; refine q3
 apply spT; exact rfl
 intro hc_; refine q1
 apply spT; exact rfl
 intro hc_
 have hp_ := hc_; try simp only [nrm] at hp_
 refine q5
 apply spT; exact rfl
 intro hc_; refine q8
 apply spT; exact rfl
 intro hc_; refine q6
 apply spT; exact rfl
 intro hc_; refine q26; refine q4 ?_; refine q12 (uC ?_); refine uA ?_; refine uH ?_
 rotate_left
 all_goals (refine uX rfl ?_; rw [Bool.eq_iff_iff]; simp_all [accB])
theorem index_p (l : List Int) (n : Int) (hl : l.length ≤ 1152921504606846976) : Pure E.P 62 [.d (ints l), .int .i64 n] (.int .i64 (atI l n)) := by
 refine fnA Tryz.func62 Tryz.ntmps62 ?_
 refine uB (aoR fun _ => ?_)
 refine q12 (uC (uA ?_))
 iterate 2 refine uB ?_
 refine aoR fun _ => ?_; refine q11 ?_; refine q13 ?_; refine q11 (uC (uA (uG ?_)))
 rotate_left
 refine uZ (X := Nat) (fun k => tmL [(0, .d (ints l)), (1, .int .i64 n), (6, .d (ints l)), (7, .int .i64 l.length), (8, .int .i64 k)]) (fun _ => stL []) (fun k => k ≤ l.length ∧ atI l n = atFrom n (l.drop k) k) (fun k => l.length - k) 0 ⟨Nat.zero_le _, rfl⟩ leP leP ?_
 intro k hk
 obtain ⟨hk, ht⟩ := hk
 refine uB (aoR fun _ => ?_)
 refine q37 (uC (uA (uB ?_))); refine cnd ?_ ?_
 refine uK fun _ => ?_; try (exfalso; omega)
 refine uF (uA (uB (uG (uB (aoR fun _ => ?_)))))
 refine q11 ?_; refine q12 (uC (uA (uB (aoR fun _ => ?_))))
 iterate 3 refine q11 ?_
 refine q17 ?_; refine q23 ?_; refine q46 (uC (uA ?_)); refine cnd ?_ ?_
 refine uK fun _ => ?_; try (exfalso; omega)
 refine uB (aoR fun _ => ?_)
 refine q11 ?_; refine q12 (uC (uA ?_)); refine uH ?_; refine vL ?_
 iterate 2 refine uO ?_
 refine vL ?_; refine uO ?_; rotate_left
 refine uL fun _ => ?_; try (exfalso; omega)
 refine uF ?_; refine vJ ?_; refine uA (aoR fun _ => ?_)
 refine q36 ?_; refine q11 (uC (uA ?_)); rotate_left
 refine uL fun _ => ?_; try (exfalso; omega)
 refine uS ?_
 iterate 2 refine vE ?_
 refine vT ?_; refine uA (uB (aoR fun _ => ?_))
 refine q12 (uC (uA ?_)); refine uH ?_; rotate_left
 ·refine wK rfl ?_
  rename_i h _
  rw [Int.toNat_natCast] at h
  rw [ht, yU l n k (by omega), if_pos h.symm]
 ·rename_i h _
  rw [Int.toNat_natCast] at h
  refine vI (k + 1) ⟨by omega, ?_⟩ (by omega) leP leP
  rw [ht, yU l n k (by omega), if_neg (fun e => h e.symm)]
 ·refine wK rfl ?_
  rw [ht, show k = l.length by omega, List.drop_length]; rfl
theorem yM (l : List Int) (n : Nat) (hl : l.length ≤ 1152921504606846976) : Pure E.P 142 [.d (ints l), .int .i64 n] (.bool (hasB l n)) := by
 refine fnA Tryz.func142 Tryz.ntmps142 ?_
 refine uB (aoR fun _ => ?_)
 refine q12 (uC (uA (uB (aoR fun _ => ?_))))
 iterate 2 refine q11 ?_
 apply uQ; exact rfl; exact .fn _ _ _; exact rfl; (exact index_p _ _ hl)
 apply cV; exact rfl; exact rfl
 refine q12 (uC (uA ?_)); refine uH ?_; rotate_left
 all_goals (refine uX rfl ?_; rfl)
theorem pair_p (x : Ex) (a b : Nat) (hx : x.evs.length ≤ 65536) (ha : a < x.evs.length) (hb : b < x.evs.length) : Pure E.P 92 [exOV x, .int .i64 a, .int .i64 b] (.bool (pairOf x a b)) := by
 refine fnA Tryz.func92 Tryz.ntmps92 ?_
 refine uB (aoR fun _ => ?_)
 refine q40 ?_; refine q12 (uC (uA (uB ?_)))
 refine vB (E := E) ?_ (fun _ => ?_); exact rfl
 refine q57 ?_; refine q38 ?_
 apply xG; exact rfl; exact .fn _ _ _; exact rfl; (exact oJ _ _ hx (by omega))
 refine q38 ?_
 apply dpT; exact rfl
 intro hc_; refine q27
 apply dpT; exact rfl
 intro hc_; refine q1
 apply dpT; exact rfl
 intro hc_
 have hp_ := hc_; try simp only [nrm] at hp_
 apply vK; exact .plain rfl rfl; exact .fn _ _ _; exact wD; (exact oJ _ _ hx (by omega))
 refine q9 ?_; refine q38 ?_
 apply dpT; exact rfl
 intro hc_; refine q1
 apply dpT; exact rfl
 intro hc_; refine q1
 apply dpT; exact rfl
 intro hc_; refine q22; refine q9 ?_; refine q38 ?_
 apply dpT; exact rfl
 intro hc_; refine q2
 apply dpT; exact rfl
 intro hc_; refine q2
 apply dpT; exact rfl
 intro hc_; refine q3
 apply dpT; exact rfl
 intro hc_; refine q1
 apply dpT; exact rfl
 intro hc_
 have hp_ := hc_; try simp only [nrm] at hp_
 refine q5
 apply dpT; exact rfl
 intro hc_; refine q8
 apply dpT; exact rfl
 intro hc_; refine q6
 apply dpT; exact rfl
 intro hc_; refine q2
 apply dpT; exact rfl
 intro hc_; refine q2
 apply dpT; exact rfl
 intro hc_; refine q3
 apply dpT; exact rfl
 intro hc_; refine q1
 apply dpT; exact rfl
 intro hc_
 have hp_ := hc_; try simp only [nrm] at hp_
 refine q5
 apply dpT; exact rfl
 intro hc_; refine q8
 apply dpT; exact rfl
 intro hc_; refine q6
 apply dpT; exact rfl
 intro hc_; refine q7; refine q9 ?_
 apply wW; exact rfl
 refine vX ?_ ?_; (first | ((try dsimp only [wkeys]); decide +kernel) | exact rfl)
 refine uA ?_; refine uH ?_; rotate_left
 all_goals (refine uX rfl ?_; rw [Bool.eq_iff_iff]; simp_all [pairOf])
theorem bit_0 (s : Int) (h0 : 0 ≤ s) (h3 : s ≤ 3) : IntKind.i64.wrap ↑(BitVec.ofInt IntKind.i64.bits s &&& BitVec.ofInt IntKind.i64.bits 1).toNat = 0 ↔ ¬ (s = 1 ∨ s = 3) := by
 obtain rfl | rfl | rfl | rfl : s = 0 ∨ s = 1 ∨ s = 2 ∨ s = 3 := by omega
 all_goals decide +kernel
theorem bit_1 (s : Int) (h0 : 0 ≤ s) (h3 : s ≤ 3) : IntKind.i64.wrap ↑(BitVec.ofInt IntKind.i64.bits s &&& BitVec.ofInt IntKind.i64.bits 2).toNat = 0 ↔ ¬ (s = 2 ∨ s = 3) := by
 obtain rfl | rfl | rfl | rfl : s = 0 ∨ s = 1 ∨ s = 2 ∨ s = 3 := by omega
 all_goals decide +kernel
theorem in_p (s : Int) (e : Ev) (h0 : 0 ≤ s) (h3 : s ≤ 3) : Pure E.P 135 [.int .i64 s, evOV e] (.bool (inB s e)) := by
 have b0 := bit_0 s h0 h3
 have b1 := bit_1 s h0 h3
 refine fnA Tryz.func135 Tryz.ntmps135 ?_
 refine uB (aoR fun _ => ?_)
 refine q40 ?_; refine q12 (uC (uA (uB (aoR fun _ => ?_))))
 refine q11 ?_
 apply rD; exact rfl; exact rfl
 refine q44 ?_; refine q11 ?_
 apply uI; exact rfl; exact rfl
 refine wR (fun _ => ?_); (try (exfalso; omega))
 refine q14 ?_
 apply uI; exact rfl; exact rfl
 refine uM ?_
 apply uQ; exact rfl; exact .fn _ _ _; exact rfl; (exact kV _)
 refine q4 ?_; refine q11 ?_
 apply vP; exact rfl; exact rfl
 refine wS (fun hc_ => ?_); (try simp only [nrm] at hc_)
 refine q11 ?_
 apply vP; exact rfl; exact rfl
 refine uJ ?_
 apply rD; exact rfl; exact rfl
 apply vP; exact rfl; exact rfl
 refine uJ ?_; refine q44 ?_
 apply vP; exact rfl; exact rfl
 refine uJ ?_; refine q11 ?_
 apply uI; exact rfl; exact rfl
 refine wR (fun _ => ?_); (try (exfalso; omega))
 refine q14 ?_
 apply uI; exact rfl; exact rfl
 refine uM ?_
 apply uQ; exact rfl; exact .fn _ _ _; exact rfl; (exact nZ _)
 apply vP; exact rfl; exact rfl
 refine uJ ?_; refine q4 ?_; refine q0 ?_; refine q12 (uC (uA ?_)); refine uH ?_; rotate_left
 exact uN
 exact wA
 refine wN (fun _ => ?_); (try (exfalso; omega))
 apply uI; exact rfl; exact rfl
 exact uN
 refine uJ ?_
 apply vP; exact rfl; exact rfl
 refine uJ ?_
 apply wI; exact rfl
 apply xL; exact rfl
 refine q0 ?_; refine q12 (uC (uA ?_)); refine uH ?_; rotate_left
 iterate 4 exact uN
 refine xH ?_; refine uM ?_
 refine xB (fun _ => ?_)
 apply vP; exact rfl; exact rfl
 exact wA
 refine uM ?_
 apply vP; exact rfl; exact rfl
 exact wA
 refine uM ?_
 apply vP; exact rfl; exact rfl
 exact wA
 refine uM ?_
 iterate 2 (apply guard_u; exact rfl; exact rfl)
 apply vP; exact rfl; exact rfl
 exact wA
 refine uM ?_
 apply wI; exact rfl
 apply iI; exact rfl
 refine q12 (uC (uA ?_)); refine uH ?_; rotate_left
 exact wA
 refine wN (fun _ => ?_); (try (exfalso; omega))
 apply uI; exact rfl; exact rfl
 exact uN
 refine uJ ?_
 apply wI; exact rfl
 apply xL; exact rfl
 refine q11 ?_
 apply vP; exact rfl; exact rfl
 refine uJ ?_; refine q11 ?_
 apply vP; exact rfl; exact rfl
 refine uJ ?_
 apply rD; exact rfl; exact rfl
 apply vP; exact rfl; exact rfl
 refine uJ ?_; refine q44 ?_
 apply vP; exact rfl; exact rfl
 refine uJ ?_; refine q11 ?_
 apply uI; exact rfl; exact rfl
 refine wR (fun _ => ?_); (try (exfalso; omega))
 refine q14 ?_
 apply uI; exact rfl; exact rfl
 refine uM ?_
 apply uQ; exact rfl; exact .fn _ _ _; exact rfl; (exact nZ _)
 apply vP; exact rfl; exact rfl
 refine uJ ?_; refine q4 ?_; refine q0 ?_; refine q12 (uC (uA ?_)); refine uH ?_; rotate_left
 exact uN
 exact wA
 refine wN (fun _ => ?_); (try (exfalso; omega))
 apply uI; exact rfl; exact rfl
 exact uN
 refine uJ ?_
 apply vP; exact rfl; exact rfl
 refine uJ ?_
 apply wI; exact rfl
 apply xL; exact rfl
 refine q0 ?_; refine q12 (uC (uA ?_)); refine uH ?_; rotate_left
 iterate 5 exact uN
 all_goals
  refine uX rfl ?_
  rw [Bool.eq_iff_iff]
  simp only [b0, b1] at *
  first | (simp_all [inB]; done) | (simp_all [inB]; grind)
theorem rM (s : Int) (e : Ev) (h0 : 0 ≤ s) (h3 : s ≤ 3) : Pure E.P 98 [.int .i64 s, evOV e] (.bool (inB s e)) := by
 refine fnA Tryz.func98 Tryz.ntmps98 ?_
 refine uB (aoR fun _ => ?_)
 refine q40 ?_; refine q12 (uC (uA (uB (aoR fun _ => ?_))))
 refine q11 ?_
 apply S_rem; exact rfl; exact rfl; (first | decide | omega)
 refine q46 ?_; refine q11 ?_
 apply spT; exact rfl
 intro hc_; refine q27
 apply spT; exact rfl
 intro hc_
 have hp_ := hc_; try simp only [nrm] at hp_
 apply vK; exact .plain rfl rfl; exact .fn _ _ _; exact wD; (exact wP _)
 refine q4 ?_; refine q11 ?_
 apply spF; exact rfl
 intro hc_; refine q1
 apply spF; exact rfl
 intro hc_; refine q21
 apply spF; exact rfl
 intro hc_; refine q1
 apply uU; exact rfl; exact rfl
 intro hc_; refine q27
 apply uU; exact rfl; exact rfl
 intro hc_
 have hp_ := hc_; try simp only [nrm] at hp_
 apply vK; exact .plain rfl rfl; exact .fn _ _ _; exact wD; (exact yR _)
 apply spF; exact rfl
 intro hc_; refine q10; refine q0 ?_; refine q12 (uC ?_); refine uA ?_; refine uH ?_
 rotate_left
 all_goals
  refine uX rfl ?_
  obtain rfl | rfl | rfl | rfl : s = 0 ∨ s = 1 ∨ s = 2 ∨ s = 3 := by omega
  all_goals simp [inB]
set_option maxRecDepth 100000
def btwYs (x : Ex) (a b : Nat) : List (List OV) := (List.range (b - (a + 1))).map fun i => [.int .i64 ((a + 1 + i : Nat) : Int), evOV (x.evs.getD (a + 1 + i) default)]
theorem eR (x : Ex) (a b : Nat) : (btwYs x a b).length = b - (a + 1) := by simp [btwYs]
theorem eS (x : Ex) (a b i : Nat) (h : i < b - (a + 1)) : (btwYs x a b).getD i [] = [.int .i64 ((a + 1 + i : Nat) : Int), evOV (x.evs.getD (a + 1 + i) default)] := by
 unfold btwYs
 rw [List.getD_eq_getElem?_getD, List.getElem?_map, List.getElem?_range h]; rfl
theorem qQ (x : Ex) (a b : Nat) (hx : x.evs.length ≤ 65536) (hb : b < x.evs.length) (ha : a ≤ 65536) : SeqW E.P 181 [] [.d (.pt [.c (.int .i64 a)] 0), .d (.pt [.c (.int .i64 b)] 0), .d (.pt (exRow x) 0)] (btwYs x a b) := by
 intro Y k τ J m st hm h1 h2 hnd hbig hy l0 hl0
 rw [eR] at hm h1
 refine yL Tryz.func181 (by decide) rfl Tryz.ntmps181 (Nat.le_of_ble_eq_true rfl) rfl ?_
 refine uB (aoR fun _ => ?_)
 refine q23 ?_; refine q36 ?_; refine q12 (uC (uA (uG ?_))); rotate_left
 refine uZ (X := Nat × Rows) (fun p => tmL [(0, .yl k τ), (2, .d (.pt [.c (.int .i64 b)] 0)), (3, .d (.pt (exRow x) 0)), (5, .int .i64 ((a + 1 + p.1 : Nat) : Int)), (GS, .gh p.1 Y)]) (fun p => stL p.2)
  (fun p => p.1 ≤ b - (a + 1) ∧ J p.1 p.2 ∧ (st = true → p.1 < m)) (fun p => b - (a + 1) - p.1) (0, l0) ⟨Nat.zero_le _, hl0, h2⟩ leP (fun _ _ h => h) ?_
 rintro ⟨i, l⟩ ⟨hi, hJ, hst⟩
 dsimp only at hi hJ hst ⊢
 by_cases hlt : i < b - (a + 1)
 rotate_left
 ·have hme : i = m := by
   cases st with
   | true => have h9 := hst rfl; omega
   | false => have := h1 rfl; omega
  iterate 2 refine uB ?_
  refine aoR fun _ => ?_; refine q11 ?_; refine q23 ?_; refine q37 (uC (uA ?_))
  refine cnd ?_ ?_
  refine uK fun _ => ?_; try (exfalso; omega)
  refine uL fun _ => ?_; try (exfalso; omega)
  refine uS ?_
  iterate 2 refine vE ?_
  refine vT ?_; rotate_left
  subst hme
  exact ⟨Or.inl rfl, rfl, l, hJ, fun _ _ h => h⟩
 have hlm : i < m := by
  cases st with
  | true => exact hst rfl
  | false => rw [h1 rfl]; exact hlt
 have hY := hy i l hlm hJ
 rw [eS x a b i hlt] at hY
 rcases Bool.eq_false_or_eq_true (!(st && i + 1 == m)) with hans | hans
 ·rw [hans] at hY
  iterate 2 refine uB ?_
  refine aoR fun _ => ?_; refine q11 ?_; refine q23 ?_; refine q37 (uC (uA ?_))
  refine cnd ?_ ?_
  refine uK fun _ => ?_; try (exfalso; omega)
  refine uF (uA (uB (uG (uB (aoR fun _ => ?_)))))
  iterate 2 refine q11 ?_
  iterate 2 refine q32 ?_
  refine q23 ?_; refine q11 ?_; refine q17 ?_; refine q33 ?_
  apply zW; exact rfl; exact rfl; exact rfl; exact hY; exact (fun _ _ h => h); exact hnd _; (intro l1 hl1)
  apply yE; exact rfl
  refine uC (uA ?_); refine cnd ?_ ?_; refine bW ?_
  exact wA
  refine xS ?_; refine uM ?_; refine uF ?_; refine vJ ?_; refine uA (aoR fun _ => ?_)
  refine q11 ?_; refine q36 ?_; refine q12 (uC (uA ?_)); rotate_left
  refine uL fun _ => ?_; try (exfalso; omega)
  exact ⟨(i + 1, l1), ⟨show i + 1 ≤ _ by omega, hl1, lQ hlm hans⟩, show b - (a + 1) - (i + 1) < b - (a + 1) - i by omega, leP, aA (hnd _ _ hl1)⟩
 ·rw [hans] at hY
  rw [dS hans] at hY
  iterate 2 refine uB ?_
  refine aoR fun _ => ?_; refine q11 ?_; refine q23 ?_; refine q37 (uC (uA ?_))
  refine cnd ?_ ?_
  refine uK fun _ => ?_; try (exfalso; omega)
  refine uF (uA (uB (uG (uB (aoR fun _ => ?_)))))
  iterate 2 refine q11 ?_
  iterate 2 refine q32 ?_
  refine q23 ?_; refine q11 ?_; refine q17 ?_; refine q33 ?_
  apply zW; exact rfl; exact rfl; exact rfl; exact hY; exact (fun _ _ h => h); exact hnd _; (intro l1 hl1)
  apply yE; exact rfl
  refine uC (uA ?_); refine cnd ?_ ?_; refine bW ?_; refine uJ ?_; refine uH ?_; refine vL ?_
  iterate 2 refine uO ?_
  refine vL ?_; rotate_left
  refine xS ?_
  exact uN
  refine uL fun _ => ?_; try (exfalso; omega)
  exact ⟨Or.inr rfl, rfl, l1, hl1, aA (hnd _ _ hl1)⟩
theorem between_p (x : Ex) (a b : Nat) : Pure E.P 172 [exOV x, .int .i64 a, .int .i64 b] (.fn 181 [] [.d (.pt [.c (.int .i64 a)] 0), .d (.pt [.c (.int .i64 b)] 0), .d (.pt (exRow x) 0)]) := by
 have f3 : Frozen 3 := ⟨trivial⟩
 have f4 : Frozen 4 := ⟨trivial⟩
 have f5 : Frozen 5 := ⟨trivial⟩
 refine fnA Tryz.func172 Tryz.ntmps172 ?_
 refine uB (aoR fun _ => ?_)
 iterate 3 refine q34 ?_
 refine q12 (uC (uA (uB (aoR fun _ => ?_))))
 apply wE; exact rfl; exact rfl
 refine q12 (uC (uA ?_)); refine uH ?_; rotate_left
 exact fJ rfl rfl
theorem kT {a : Nat} {h : Nat → Bool} : ∀ {b : Nat}, someB a b h = true → ∃ n, a < n ∧ n < b ∧ h n = true ∧ ∀ k, a < k → k < n → h k = false
 | 0, e => by rw [aM (by omega)] at e; cases e
 | b + 1, e => by
  by_cases hab : a < b
  ·rw [cX hab] at e
   cases hs : someB a b h with
   | true =>
    obtain ⟨n, h1, h2, h3⟩ := kT hs
    exact ⟨n, h1, by omega, h3⟩
   | false =>
    rw [hs, Bool.false_or] at e
    refine ⟨b, hab, by omega, e, fun k h1 h2 => ?_⟩
    cases hk : h k with
    | false => rfl
    | true => rw [jX h1 h2 hk] at hs; cases hs
  ·rw [aM (by omega)] at e; cases e
theorem lP (x : Ex) (a b : Nat) (f : FuncId) (ca : List TV) (h : Nat → Bool) (hx : x.evs.length ≤ 65536) (hb : b < x.evs.length) (ha : a ≤ 65536) (hh : ∀ n : Nat, a < n → n < b → Pure E.P f ([.int .i64 n, evOV (x.evs.getD n default)] ++ ca.map .d) (.bool (h n))) :
  Pure E.P 130 [exOV x, .int .i64 a, .int .i64 b, .fn f [] (ca.map .d)] (.bool (someB a b h)) := by
 have f4 : Frozen 4 := ⟨trivial⟩
 have f7 : Frozen 7 := ⟨trivial⟩
 have k9 : KeyOf 9 1009 := ⟨trivial⟩
 refine fnA Tryz.func130 Tryz.ntmps130 ?_
 refine uB (aoR fun _ => ?_)
 iterate 2 refine q34 ?_
 refine q12 (uC (uA ?_)); refine fQ ?_; refine uB (aoR fun _ => ?_)
 apply oQ; assumption; exact rfl
 refine q15 (uC (uA (uB ?_))); refine fS ?_; refine uA ?_
 iterate 2 refine uB ?_
 refine aoR fun _ => ?_; refine q33 ?_
 iterate 2 refine q11 ?_
 apply uQ; exact rfl; exact .fn _ _ _; exact rfl; exact between_p x a b
 refine uC (uA (uG ?_)); rotate_left
 rename_i v9 _
 cases hs : someB a b h with
 | false =>
  obtain ⟨m, hm⟩ : ∃ m, m = b - (a + 1) := ⟨_, rfl⟩
  have hI : ∀ i, i < m → h (a + 1 + i) = (false && decide (i + 1 = m)) := fun i hi => by
   cases hk : h (a + 1 + i) with
   | false => rfl
   | true => rw [jX (by omega) (by omega) hk] at hs; cases hs
  refine fR (X := Bool) rfl (.fn _ _ _) (qQ x a b hx hb ha) (fun q => [(1009, ((v9, 0), ⟨1, [[.bool q]]⟩))]) (fun i q => q = (false && decide (i = m))) false (by simp <;> omega) m .normal rfl (by rw [eR]; omega) (fun e => by rw [eR]; first | omega | cases e) (fun e => by first | omega | exact (e rfl).elim)
    (tmL [(7, .d (.pt [.fn f [] ca] 0)), (9, .lo 1009 (v9, 0) 1 0 0)]) leP rfl (by decide) (fun i hi => by rw [eS _ _ _ _ (by omega)]; rfl) leP (fun p => by simp) (fun p => by simp) ?_ ?_
  ·rintro i q hi rfl
   rw [eS _ _ _ _ (by omega)]
   have hc := hh (a + 1 + i) (by omega) (by omega)
   refine uB (aoR fun _ => ?_)
   refine q12 (uC (uA (aoR fun _ => ?_)))
   apply vQ; exact rfl
   refine q15 (uC ?_); rotate_left
   refine ⟨rfl, ?_⟩
   by_cases hlast : i + 1 = m
   ·have hv : h (a + 1 + i) = false := by rw [hI i hi]; simp [hlast]
    rw [hv] at hc
    refine uG (uB (aoR fun _ => ?_))
    refine q23 ?_; refine q11 ?_; refine q14 ?_
    apply uQ; exact rfl; exact .d _ _ _; exact rfl; exact hc
    refine q15 (uC (uA (uB (aoR fun _ => ?_))))
    refine q16 (uC (uA ?_)); refine cnd ?_ ?_
    exact uN
    refine uJ ?_; refine uF ?_; refine vJ ?_; rotate_left
    exact ⟨by rw [show (i + 1 == m) = true by simpa using hlast]; rfl, false, by simp [hlast], leP⟩
   ·have hv : h (a + 1 + i) = false := by rw [hI i hi]; simp [hlast]
    rw [hv] at hc
    refine uG (uB (aoR fun _ => ?_))
    refine q23 ?_; refine q11 ?_; refine q14 ?_
    apply uQ; exact rfl; exact .d _ _ _; exact rfl; exact hc
    refine q15 (uC (uA (uB (aoR fun _ => ?_))))
    refine q16 (uC (uA ?_)); refine cnd ?_ ?_
    exact uN
    refine uJ ?_; refine uF ?_; refine vJ ?_; rotate_left
    exact ⟨by rw [show (i + 1 == m) = false by simpa using hlast]; rfl, false, by simp [hlast], leP⟩
  ·rintro q rfl
   refine vJ ?_; refine uA (uB (aoR fun _ => ?_))
   refine q16 ?_; refine q12 (uC (uA ?_)); refine uH ?_; refine rF ?_; rotate_left
   exact uX rfl (by simp)
 | true =>
  obtain ⟨n, h1, h2, h3, h4⟩ := kT hs
  obtain ⟨m, hm⟩ : ∃ m, m = n - a := ⟨_, rfl⟩
  have hI : ∀ i, i < m → h (a + 1 + i) = (true && decide (i + 1 = m)) := fun i hi => by
   by_cases e : i + 1 = m
   ·rw [show a + 1 + i = n by omega, h3]; simp [e]
   ·rw [h4 _ (by omega) (by omega)]; simp [e]
  refine fR (X := Bool) rfl (.fn _ _ _) (qQ x a b hx hb ha) (fun q => [(1009, ((v9, 0), ⟨1, [[.bool q]]⟩))]) (fun i q => q = (true && decide (i = m))) false (by simp <;> omega) m (.exit 0) rfl (by rw [eR]; omega) (fun e => by rw [eR]; first | omega | cases e) (fun e => by first | omega | exact (e rfl).elim)
    (tmL [(7, .d (.pt [.fn f [] ca] 0)), (9, .lo 1009 (v9, 0) 1 0 0)]) leP rfl (by decide) (fun i hi => by rw [eS _ _ _ _ (by omega)]; rfl) leP (fun p => by simp) (fun p => by simp) ?_ ?_
  ·rintro i q hi rfl
   rw [eS _ _ _ _ (by omega)]
   have hc := hh (a + 1 + i) (by omega) (by omega)
   refine uB (aoR fun _ => ?_)
   refine q12 (uC (uA (aoR fun _ => ?_)))
   apply vQ; exact rfl
   refine q15 (uC ?_); rotate_left
   refine ⟨rfl, ?_⟩
   by_cases hlast : i + 1 = m
   ·have hv : h (a + 1 + i) = true := by rw [hI i hi]; simp [hlast]
    rw [hv] at hc
    refine uG (uB (aoR fun _ => ?_))
    refine q23 ?_; refine q11 ?_; refine q14 ?_
    apply uQ; exact rfl; exact .d _ _ _; exact rfl; exact hc
    refine q15 (uC (uA (uB (aoR fun _ => ?_))))
    refine q16 (uC (uA ?_)); refine cnd ?_ ?_; refine uM ?_; refine uS ?_
    refine jC ?_ ?_; exact rfl
    rotate_left
    exact wA
    exact ⟨by rw [show (i + 1 == m) = true by simpa using hlast]; rfl, true, by simp [hlast], leP⟩
   ·have hv : h (a + 1 + i) = false := by rw [hI i hi]; simp [hlast]
    rw [hv] at hc
    refine uG (uB (aoR fun _ => ?_))
    refine q23 ?_; refine q11 ?_; refine q14 ?_
    apply uQ; exact rfl; exact .d _ _ _; exact rfl; exact hc
    refine q15 (uC (uA (uB (aoR fun _ => ?_))))
    refine q16 (uC (uA ?_)); refine cnd ?_ ?_
    exact uN
    refine uJ ?_; refine uF ?_; refine vJ ?_; rotate_left
    exact ⟨by rw [show (i + 1 == m) = false by simpa using hlast]; rfl, false, by simp [hlast], leP⟩
  ·rintro q rfl
   refine vT ?_; refine uA (uB (aoR fun _ => ?_))
   refine q16 ?_; refine q12 (uC (uA ?_)); refine uH ?_; refine rF ?_; rotate_left
   exact uX rfl (by simp)
end Go.Proofs.YtnkocjkkefnelaaGreat
