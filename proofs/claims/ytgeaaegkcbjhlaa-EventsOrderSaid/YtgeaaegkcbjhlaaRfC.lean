/- Rf: what it answers. -/
import Derived.Test.YtgeaaegkcbjhlaaRf
namespace Go.Proofs.Ytgeaaegkcbjhlaa
open Go.RowKit Go.Shelf Go.Maps Go.Sort

theorem check_zero {x : Ex} (h : checkI x = 0) : x.evs.length ≤ 64 ∧ evsTo x.evs (addrsTo x.evs) x.evs.length = true ∧ fromB x.evs x.from_ = true ∧ orderB x.evs (addrsTo x.evs) x.order = true := by
  unfold checkI at h
  by_cases h1 : 64 < x.evs.length
  · rw [if_pos h1] at h; omega
  rw [if_neg h1] at h
  cases h2 : evsTo x.evs (addrsTo x.evs) x.evs.length with
  | false => rw [h2] at h; simp at h
  | true =>
  cases h3 : fromB x.evs x.from_ with
  | false => rw [h2, h3] at h; simp at h
  | true =>
  cases h4 : orderB x.evs (addrsTo x.evs) x.order with
  | false => rw [h2, h3, h4] at h; simp at h
  | true => exact ⟨by omega, rfl, rfl, rfl⟩
theorem from_len {es : List Ev} {fs : List Int} (h : fromB es fs = true) : fs.length = es.length := by
  unfold fromB at h
  simp only [Bool.and_eq_true, decide_eq_true_eq] at h
  exact h.1
theorem from_at {es : List Ev} {fs : List Int} (h : fromB es fs = true) {k : Nat} (hk : k < fs.length) : fromOk es fs k = true := by
  unfold fromB fromTo at h
  simp only [Bool.and_eq_true, List.all_eq_true, List.mem_range] at h
  exact h.2 k hk
theorem from_lt {es : List Ev} {fs : List Int} (h : fromB es fs = true) (k : Nat) : fs.getD k 0 < (es.length : Int) + 1 := by
  by_cases hk : k < fs.length
  · have := from_at h hk
    unfold fromOk at this
    simp only [Bool.or_eq_true, Bool.and_eq_true, Bool.not_eq_true', beq_iff_eq, decide_eq_false_iff_not] at this
    omega
  · rw [List.getD_eq_getElem?_getD, List.getElem?_eq_none (by omega)]
    simp only [Option.getD_none]
    omega

def rfAns (x : Ex) : List P2 := if checkI x = 0 then sortP (rfL x.from_) else []

set_option maxRecDepth 100000 in
set_option maxHeartbeats 2000000 in
theorem rf_c (x : Ex) (w : World) (hx : x.inW w.heap.size w) (hrows : ∀ r ∈ x.order, r.2.length ≤ 65536) :
    Calls Try.prog 25 #[x.agg] w fun o w' => ∃ s : Sl, o = .returned (.slice s.a s.n s.c) ∧ PairsIn w'.heap.size w' s (rfAns x) ∧ Below w.heap.size w w' := by
  have CC : Hid (∀ W, Below w.heap.size w W → Calls Try.prog 11 #[.agg #[.slice x.es.a x.es.n x.es.c, .slice x.fs.a x.fs.n x.fs.c, .slice x.os.a x.os.n x.os.c]] W fun o w' => o = .returned (.int .i64 (checkI x)) ∧ Below W.heap.size W w') := Lib.hid (fun W hb => check_c x W (Ex.inW.later hx hb) hrows)
  have HF := Lib.hid hx.2.1
  unfold Ex.agg
  clear hx hrows
  by_cases h0 : checkI x = 0
  · have hr : rfAns x = sortP (rfL x.from_) := by unfold rfAns; rw [if_pos h0]
    obtain ⟨h64, _, hfb, _⟩ := check_zero h0
    have hl := from_len hfb
    have FB := Lib.hid hfb
    rw [hr]
    clear hr hfb
    rw [h0] at CC
    have h1 : ((0 : Int) != 0) = false := rfl
    go_enter Try.func25, Try.ntmps25
    go_upto_region 1 with (fail)
    refine alloc_opaque (X := fun W => Code.wp _ _ _ _ W) ?_
    intro wc hb hsz hcs
    have c0 : wc.cell? ⟨w.heap.size, 0, none⟩ = some (.slice x.es.a x.es.n x.es.c) := hcs 0 _ rfl
    have c1 : wc.cell? ⟨w.heap.size, 1, none⟩ = some (.slice x.fs.a x.fs.n x.fs.c) := hcs 1 _ rfl
    have c2 : wc.cell? ⟨w.heap.size, 2, none⟩ = some (.slice x.os.a x.os.n x.os.c) := hcs 2 _ rfl
    clear hcs
    go_wp2_with fail
    refine (CC.out wc hb).mono ?_; rintro o w1 ⟨rfl, hb1⟩
    have hbw : Below w.heap.size w w1 := hb.trans (hb1.mono (by omega))
    have ctr := Lib.hid (rfPairs_c w.heap.size x.fs x.from_ (by omega) (fun k => by have := from_lt FB.out k; omega) w1 (by have := hb1.size; omega) ((hb1.cell (p := ⟨w.heap.size, 1, none⟩) hsz).trans c1) ((HF.out.below hbw).mono hbw.size))
    go_wp2_with fail
    refine ctr.out.mono ?_; rintro o w2 ⟨s', rfl, hi, hb2⟩
    go_wp2
    go_ret
    exact ⟨s', rfl, hi, hbw.trans (hb2.mono hbw.size)⟩
  · have hr : rfAns x = [] := by unfold rfAns; rw [if_neg h0]
    rw [hr]
    obtain ⟨c, hc⟩ : ∃ c, checkI x = c := ⟨_, rfl⟩
    rw [hc] at CC h0
    have h1 : (c != 0) = true := by simpa using h0
    clear hr hc h0
    go_enter Try.func25, Try.ntmps25
    go_upto_region 1 with (fail)
    refine alloc_opaque (X := fun W => Code.wp _ _ _ _ W) ?_
    intro wc hb hsz hcs
    have c0 : wc.cell? ⟨w.heap.size, 0, none⟩ = some (.slice x.es.a x.es.n x.es.c) := hcs 0 _ rfl
    have c1 : wc.cell? ⟨w.heap.size, 1, none⟩ = some (.slice x.fs.a x.fs.n x.fs.c) := hcs 1 _ rfl
    have c2 : wc.cell? ⟨w.heap.size, 2, none⟩ = some (.slice x.os.a x.os.n x.os.c) := hcs 2 _ rfl
    clear hcs
    go_wp2_with fail
    refine (CC.out wc hb).mono ?_; rintro o w1 ⟨rfl, hb1⟩
    have hbw : Below w.heap.size w w1 := hb.trans (hb1.mono (by omega))
    go_wp2
    go_ret
    exact ⟨⟨none, 0, 0⟩, rfl, ⟨rfl, by simp, Or.inl rfl⟩, hbw⟩
end Go.Proofs.Ytgeaaegkcbjhlaa
