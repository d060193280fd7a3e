/- What lies in memory below a block's number: a list of numbers, a list of events; an execution. -/
import Derived.Lib.SmallJoins
import Derived.WideKeyArgs
import Derived.Deep.SlicePairs
import Derived.SizedLaws
import Derived.ProofKit
import Derived.OpenShut
import Derived.Test.YtnghoibkjphfmaaGreatPd4
namespace Go.Proofs.YtnghoibkjphfmaaGreat
open Go.RowKit
/-- Below block B, the slice s holds these integers (of kind q). -/
def IntsIn (q : IntKind) (B : Nat) (w : World) (s : Sl) (xs : List Int) : Prop :=
  s.n = xs.length ∧ xs.length ≤ 1152921504606846976 ∧
  (xs = [] ∨ ∃ b off, s.a = some ⟨b, off, none⟩ ∧ b < B ∧ ∀ k, k < xs.length → w.cell? ⟨b, off + k, none⟩ = some (.int q (xs.getD k 0)))
theorem IntsIn.below {q : IntKind} {B : Nat} {w w' : World} {s : Sl} {xs : List Int} (h : IntsIn q B w s xs) (hb : Below B w w') : IntsIn q B w' s xs := by
  obtain ⟨h1, h2, h3⟩ := h
  refine ⟨h1, h2, ?_⟩
  rcases h3 with h3 | ⟨b, off, h4, h5, h6⟩
  · exact Or.inl h3
  · exact Or.inr ⟨b, off, h4, h5, fun k hk => by rw [hb.cell (by exact h5)]; exact h6 k hk⟩
theorem IntsIn.mono {q : IntKind} {B B' : Nat} {w : World} {s : Sl} {xs : List Int} (h : IntsIn q B w s xs) (hB : B ≤ B') : IntsIn q B' w s xs := by
  obtain ⟨h1, h2, h3⟩ := h
  refine ⟨h1, h2, ?_⟩
  rcases h3 with h3 | ⟨b, off, h4, h5, h6⟩
  · exact Or.inl h3
  · exact Or.inr ⟨b, off, h4, by omega, h6⟩
/-- an event's numbers fit their kinds -/
def Ev.wf (e : Ev) : Prop := (-9223372036854775808 ≤ e.hart ∧ e.hart ≤ 9223372036854775807) ∧ (-9223372036854775808 ≤ e.kind ∧ e.kind ≤ 9223372036854775807) ∧ (0 ≤ e.addr ∧ e.addr < 4294967296) ∧ (0 ≤ e.val ∧ e.val < 4294967296) ∧
  (0 ≤ e.rval ∧ e.rval < 4294967296) ∧ (-9223372036854775808 ≤ e.pred ∧ e.pred ≤ 9223372036854775807) ∧ (-9223372036854775808 ≤ e.succ ∧ e.succ ≤ 9223372036854775807)
/-- an event's own lists lie in memory -/
def Ev.okIn (B : Nat) (w : World) (e : Ev) : Prop :=
  IntsIn .i64 B w e.av e.addrs ∧ IntsIn .i64 B w e.dv e.datas ∧ IntsIn .i64 B w e.cv e.ctrls ∧ e.wf
theorem Ev.okIn.below {B : Nat} {w w' : World} {e : Ev} (h : e.okIn B w) (hb : Below B w w') : e.okIn B w' := ⟨h.1.below hb, h.2.1.below hb, h.2.2.1.below hb, h.2.2.2⟩
theorem Ev.okIn.small {B : Nat} {w : World} {e : Ev} (h : e.okIn B w) : e.small := by
  obtain ⟨⟨a1, a2, _⟩, ⟨b1, b2, _⟩, ⟨c1, c2, _⟩, _⟩ := h
  exact ⟨by omega, by omega, by omega⟩
/-- an event's cells from a place on -/
def EvCells (w : World) (b o : Nat) (e : Ev) : Prop := w.cell? ⟨b, o, none⟩ = some (Value.int IntKind.i64 e.hart) ∧ w.cell? ⟨b, o + 1, none⟩ = some (Value.int IntKind.i64 e.kind) ∧ w.cell? ⟨b, o + 2, none⟩ = some (Value.int IntKind.u32 e.addr) ∧ w.cell? ⟨b, o + 3, none⟩ = some (Value.int IntKind.u32 e.val) ∧ w.cell? ⟨b, o + 4, none⟩ = some (Value.int IntKind.u32 e.rval) ∧ w.cell? ⟨b, o + 5, none⟩ = some (Value.bool e.aq) ∧ w.cell? ⟨b, o + 6, none⟩ = some (Value.bool e.rl) ∧ w.cell? ⟨b, o + 7, none⟩ = some (Value.int IntKind.i64 e.pred) ∧ w.cell? ⟨b, o + 8, none⟩ = some (Value.int IntKind.i64 e.succ) ∧ w.cell? ⟨b, o + 9, none⟩ = some (Value.bool e.rsv) ∧ w.cell? ⟨b, o + 10, none⟩ = some (Value.slice e.av.a e.av.n e.av.c) ∧ w.cell? ⟨b, o + 11, none⟩ = some (Value.slice e.dv.a e.dv.n e.dv.c) ∧ w.cell? ⟨b, o + 12, none⟩ = some (Value.slice e.cv.a e.cv.n e.cv.c)
/-- Below block B, the slice s holds these events. -/
def EvsIn (B : Nat) (w : World) (s : Sl) (es : List Ev) : Prop :=
  s.n = es.length ∧ es.length ≤ 1152921504606846976 ∧ (∀ e ∈ es, e.okIn B w) ∧
  (es = [] ∨ ∃ b off, s.a = some ⟨b, off, none⟩ ∧ b < B ∧ ∀ k, k < es.length → EvCells w b (off + k * 13) (es.getD k default))
theorem EvCells.below {B : Nat} {w w' : World} {b o : Nat} {e : Ev} (h : EvCells w b o e) (hb : Below B w w') (hB : b < B) : EvCells w' b o e := by
  unfold EvCells at *
  simp only [show ∀ j, w'.cell? ⟨b, j, none⟩ = w.cell? ⟨b, j, none⟩ from fun j => hb.cell (p := ⟨b, j, none⟩) hB]
  exact h
theorem EvsIn.below {B : Nat} {w w' : World} {s : Sl} {es : List Ev} (h : EvsIn B w s es) (hb : Below B w w') : EvsIn B w' s es := by
  obtain ⟨h1, h2, h3, h4⟩ := h
  refine ⟨h1, h2, fun e he => (h3 e he).below hb, ?_⟩
  rcases h4 with h4 | ⟨b, off, h4, h5, h6⟩
  · exact Or.inl h4
  · exact Or.inr ⟨b, off, h4, h5, fun k hk => (h6 k hk).below hb h5⟩
theorem EvsIn.mono {B B' : Nat} {w : World} {s : Sl} {es : List Ev} (h : EvsIn B w s es) (hB : B ≤ B') : EvsIn B' w s es := by
  obtain ⟨h1, h2, h3, h4⟩ := h
  refine ⟨h1, h2, fun e he => ⟨(h3 e he).1.mono hB, (h3 e he).2.1.mono hB, (h3 e he).2.2.1.mono hB, (h3 e he).2.2.2⟩, ?_⟩
  rcases h4 with h4 | ⟨b, off, h4, h5, h6⟩
  · exact Or.inl h4
  · exact Or.inr ⟨b, off, h4, by omega, h6⟩
/-- the lists of coherence order: slices of slices -/
def RowsIn (B : Nat) (w : World) (s : Sl) (rows : List (Sl × List Int)) : Prop :=
  s.n = rows.length ∧ rows.length ≤ 1152921504606846976 ∧ (∀ r ∈ rows, IntsIn .i64 B w r.1 r.2) ∧
  (rows = [] ∨ ∃ b off, s.a = some ⟨b, off, none⟩ ∧ b < B ∧ ∀ k, k < rows.length → w.cell? ⟨b, off + k, none⟩ = some (rows.getD k default).1.v)
theorem RowsIn.below {B : Nat} {w w' : World} {s : Sl} {rows : List (Sl × List Int)} (h : RowsIn B w s rows) (hb : Below B w w') : RowsIn B w' s rows := by
  obtain ⟨h1, h2, h3, h4⟩ := h
  refine ⟨h1, h2, fun e he => (h3 e he).below hb, ?_⟩
  rcases h4 with h4 | ⟨b, off, h4, h5, h6⟩
  · exact Or.inl h4
  · exact Or.inr ⟨b, off, h4, h5, fun k hk => by rw [hb.cell (by exact h5)]; exact h6 k hk⟩
/-- An execution: its three slices, and what they hold. -/
structure Ex where
  es : Sl
  fs : Sl
  os : Sl
  evs : List Ev
  from_ : List Int
  order : List (Sl × List Int)
  deriving Inhabited
def Ex.agg (x : Ex) : Value := .agg #[.slice x.es.a x.es.n x.es.c, .slice x.fs.a x.fs.n x.fs.c, .slice x.os.a x.os.n x.os.c]
def Ex.inW (B : Nat) (w : World) (x : Ex) : Prop := EvsIn B w x.es x.evs ∧ IntsIn .i64 B w x.fs x.from_ ∧ RowsIn B w x.os x.order
theorem Ex.inW.below {B : Nat} {w w' : World} {x : Ex} (h : x.inW B w) (hb : Below B w w') : x.inW B w' := ⟨h.1.below hb, h.2.1.below hb, h.2.2.below hb⟩
/-! ### whether an event may hang on those -/
def depOk (es : List Ev) (n : Nat) (l : List Int) (i : Nat) : Bool :=
  !(decide (l.getD i 0 < 0)) && !(decide ((n : Int) ≤ l.getD i 0)) && !(decide (0 < i) && decide (l.getD i 0 ≤ l.getD (i - 1) 0)) &&
    !((es.getD (l.getD i 0).toNat default).hart != (es.getD n default).hart) && (es.getD (l.getD i 0).toNat default).ldB
def hangsTo (es : List Ev) (n : Nat) (l : List Int) (k : Nat) : Bool := (List.range k).all (depOk es n l)
def hangsB (es : List Ev) (n : Nat) (l : List Int) : Bool := hangsTo es n l l.length
theorem hangsTo_succ (es : List Ev) (n : Nat) (l : List Int) (k : Nat) : hangsTo es n l (k + 1) = (hangsTo es n l k && depOk es n l k) := by
  simp [hangsTo, List.range_succ]
theorem hangsTo_false (es : List Ev) (n : Nat) (l : List Int) (k : Nat) (hk : k < l.length) (h : depOk es n l k = false) : hangsB es n l = false := by
  unfold hangsB hangsTo
  rw [List.all_eq_false]
  exact ⟨k, by simpa using hk, by simp [h]⟩
set_option maxRecDepth 100000 in
set_option maxHeartbeats 1000000 in
theorem hangs_c (x : Ex) (n : Nat) (s : Sl) (l : List Int) (w : World) (hx : EvsIn w.heap.size w x.es x.evs) (hl : IntsIn .i64 w.heap.size w s l) (hn : n < x.evs.length) :
    Calls Tryz.prog 82 #[x.agg, .int .i64 n, .slice s.a s.n s.c] w fun o w' => o = .returned (.bool (hangsB x.evs n l)) ∧ Below w.heap.size w w' := by
  obtain ⟨⟨ea, en, ec⟩, ⟨fa, fn, fc⟩, ⟨oa, on, oc⟩, evs, from_, order⟩ := x
  obtain ⟨la, ln, lc⟩ := s
  obtain ⟨h1, h2, h3, h4⟩ := hx
  obtain ⟨g1, g2, g3⟩ := hl
  dsimp only at h1 h2 h3 h4 g1 g2 g3 hn
  unfold Ex.agg
  dsimp only
  subst h1 g1
  have h4' : ∃ b off, ea = some ⟨b, off, none⟩ ∧ b < w.heap.size ∧ ∀ k, k < evs.length → EvCells w b (off + k * 13) (evs.getD k default) := by
    rcases h4 with h4 | h4
    · subst h4; simp at hn
    · exact h4
  obtain ⟨b, off, rfl, hbB, hcell⟩ := h4'
  clear h4
  obtain ⟨res, hres⟩ : ∃ x : Bool, hangsB evs n l = x := ⟨_, rfl⟩
  rw [hres]
  have RES := Lib.hid hres
  clear hres
  go_enter Tryz.func82, Tryz.ntmps82
  go_upto_region 0 with (fail)
  go_cut [0, 3] (fun s0 s3 wx => s3 = .pointer (some ⟨w.heap.size, 0, none⟩) ∧ Below w.heap.size w wx ∧ w.heap.size < wx.heap.size ∧ wx.cell? ⟨w.heap.size, 0, none⟩ = some (.slice (some ⟨b, off, none⟩) evs.length ec))
  case first =>
    go_wp2_with fail
    go_meet
    exact ⟨rfl, (Below.refl _ _).alloc (Nat.le_refl _) _, by simp, by simp⟩
  case rest =>
  obtain ⟨rfl, hb, hsz, c0⟩ := hcut
  have hw : ∀ b o, b < w.heap.size → wc.cell? ⟨b, o, none⟩ = w.cell? ⟨b, o, none⟩ := fun b o h => hb.cell (p := ⟨b, o, none⟩) h
  go_wp2
  go_loopw [11] (fun i wr => ∃ k : Nat, k ≤ l.length ∧ i = .int .i64 k ∧ hangsTo evs n l k = true ∧ Below wc.heap.size wc wr) (fun i _ => l.length - (intOf i).toNat)
  case atStart => exact ⟨0, by omega, rfl, rfl, Below.refl _ _⟩
  case round =>
    obtain ⟨k, hk, rfl, hto, hbr⟩ := hrel
    have HTO := Lib.hid hto
    clear hto
    by_cases hlt : k < l.length
    · have hl' : ∃ lb lo, la = some ⟨lb, lo, none⟩ ∧ lb < w.heap.size ∧ ∀ k, k < l.length → w.cell? ⟨lb, lo + k, none⟩ = some (.int .i64 (l.getD k 0)) := by
        rcases g3 with g3 | g3
        · subst g3; simp at hlt
        · exact g3
      obtain ⟨lb, lo, rfl, hlB, hlc⟩ := hl'
      have hwr : ∀ b o, b < w.heap.size → wr.cell? ⟨b, o, none⟩ = w.cell? ⟨b, o, none⟩ := fun b o h => (hbr.cell (p := ⟨b, o, none⟩) (by show b < _; omega)).trans (hw b o h)
      have c0r : wr.cell? ⟨w.heap.size, 0, none⟩ = some (.slice (some ⟨b, off, none⟩) evs.length ec) := (hbr.cell (p := ⟨w.heap.size, 0, none⟩) hsz).trans c0
      obtain ⟨d, hd⟩ : ∃ d, l.getD k 0 = d := ⟨_, rfl⟩
      have ck : wr.cell? ⟨lb, lo + k, none⟩ = some (.int .i64 d) := by rw [hwr _ _ hlB, hlc k hlt, hd]
      have HD := Lib.hid hd
      have HW := Lib.hid hw
      have HC := Lib.hid hcell
      have HLC := Lib.hid hlc
      have HWR := Lib.hid hwr
      clear hw hcell hlc hwr hd g3
      have c0o : ∀ p, (over wr p).cell? ⟨w.heap.size, 0, none⟩ = some (.slice (some ⟨b, off, none⟩) evs.length ec) := fun p => over_cell wr p (by have := hbr.size; omega) c0r
      by_cases hd0 : d < 0
      · have F : Hid (res = false) := Lib.hid (by rw [← RES.out]; exact hangsTo_false _ _ _ _ hlt (by unfold depOk; rw [HD.out]; simp [hd0]))
        go_wp2
        refine wp_region_over (by kernel_rfl) (by kernel_rfl) ?_
        repeat (go_big_quiet_step (fail))
        refine wpQuiet_nil ?_
        intro wq hwq
        obtain ⟨pq, hwq2⟩ := hwq
        have hbq : Below wr.heap.size wr wq := by rw [hwq2]; exact over_below wr pq
        clear hwq2
        go_wp2
        go_ret
        exact ⟨ret_bool F.out.symm, hb.trans ((hbr.trans (hbq.mono hbr.size)).mono (by omega))⟩
      have b1 : decide (d < 0) = false := by simpa using hd0
      by_cases hdn : (n : Int) ≤ d
      · have F : Hid (res = false) := Lib.hid (by rw [← RES.out]; exact hangsTo_false _ _ _ _ hlt (by unfold depOk; rw [HD.out]; simp [hdn]))
        go_wp2
        refine wp_region_over (by kernel_rfl) (by kernel_rfl) ?_
        repeat (go_big_quiet_step (fail))
        refine wpQuiet_nil ?_
        intro wq hwq
        obtain ⟨pq, hwq2⟩ := hwq
        have hbq : Below wr.heap.size wr wq := by rw [hwq2]; exact over_below wr pq
        clear hwq2
        go_wp2
        go_ret
        exact ⟨ret_bool F.out.symm, hb.trans ((hbr.trans (hbq.mono hbr.size)).mono (by omega))⟩
      have b2 : decide ((n : Int) ≤ d) = false := by simpa using hdn
      obtain ⟨dn, rfl⟩ : ∃ dn : Nat, d = dn := ⟨d.toNat, by omega⟩
      have hdlt : dn < evs.length := by omega
      have b3 : decide (n ≤ dn) = false := by simp; omega
      have b4 : decide ((dn : Int) < 0) = false := by simp
      obtain ⟨E, hE⟩ : ∃ E, evs.getD dn default = E := ⟨_, rfl⟩
      obtain ⟨N, hN⟩ : ∃ N, evs.getD n default = N := ⟨_, rfl⟩
      have eD := (((HC.out dn hdlt).below hb hbB).below hbr (show b < wc.heap.size by omega))
      rw [hE] at eD
      have eN := (((HC.out n hn).below hb hbB).below hbr (show b < wc.heap.size by omega)).1
      rw [hN] at eN
      have hbs : b < wr.heap.size := by have := hbr.size; omega
      have oD : ∀ p, EvCells (over wr p) b (off + dn * 13) E := fun p => eD.below (over_below wr p) hbs
      have o2 : ∀ p, (over wr p).cell? ⟨b, off + n * 13, none⟩ = some (.int .i64 N.hart) := fun p => over_cell wr p hbs eN
      clear eD eN
      unfold EvCells at oD
      have o1 : ∀ p, (over wr p).cell? ⟨b, off + dn * 13, none⟩ = some (.int .i64 E.hart) := fun p => (oD p).1
      have p1 := fun p => (oD p).2.1
      have p2 := fun p => (oD p).2.2.1
      have p3 := fun p => (oD p).2.2.2.1
      have p4 := fun p => (oD p).2.2.2.2.1
      have p5 := fun p => (oD p).2.2.2.2.2.1
      have p6 := fun p => (oD p).2.2.2.2.2.2.1
      have p7 := fun p => (oD p).2.2.2.2.2.2.2.1
      have p8 := fun p => (oD p).2.2.2.2.2.2.2.2.1
      have p9 := fun p => (oD p).2.2.2.2.2.2.2.2.2.1
      have p10 := fun p => (oD p).2.2.2.2.2.2.2.2.2.2.1
      have p11 := fun p => (oD p).2.2.2.2.2.2.2.2.2.2.2.1
      have p12 := fun p => (oD p).2.2.2.2.2.2.2.2.2.2.2.2
      clear oD
      have HE := Lib.hid hE
      have HN := Lib.hid hN
      clear hE hN
      by_cases hk0 : 0 < k
      · have ckp : ∀ p, (over wr p).cell? ⟨lb, lo + (k - 1), none⟩ = some (.int .i64 (l.getD (k - 1) 0)) := fun p => over_cell wr p (by have := hbr.size; omega) (by rw [HWR.out _ _ hlB, HLC.out (k - 1) (by omega)])
        obtain ⟨pv, hpv⟩ : ∃ pv, l.getD (k - 1) 0 = pv := ⟨_, rfl⟩
        rw [hpv] at ckp
        have HPV := Lib.hid hpv
        clear hpv
        by_cases hge : (dn : Int) ≤ pv
        · have F : Hid (res = false) := Lib.hid (by rw [← RES.out]; exact hangsTo_false _ _ _ _ hlt (by unfold depOk; rw [HD.out, HPV.out]; simp [hk0, hge]))
          go_wp2
          refine wp_region_over (by kernel_rfl) (by kernel_rfl) ?_
          repeat (go_big_quiet_step (fail))
          refine wpQuiet_nil ?_
          intro wq hwq
          obtain ⟨pq, hwq2⟩ := hwq
          have hbq : Below wr.heap.size wr wq := by rw [hwq2]; exact over_below wr pq
          clear hwq2
          go_wp2
          go_ret
          exact ⟨ret_bool F.out.symm, hb.trans ((hbr.trans (hbq.mono hbr.size)).mono (by omega))⟩
        have b5 : decide ((dn : Int) ≤ pv) = false := by simpa using hge
        by_cases hh : (E.hart != N.hart) = true
        · have F : Hid (res = false) := Lib.hid (by rw [← RES.out]; exact hangsTo_false _ _ _ _ hlt (by unfold depOk; rw [HD.out, HPV.out, Int.toNat_natCast, HE.out, HN.out, hh]; simp))
          go_wp2
          refine wp_region_over (by kernel_rfl) (by kernel_rfl) ?_
          repeat (go_big_quiet_step (fail))
          refine wpQuiet_nil ?_
          intro wq hwq
          obtain ⟨pq, hwq2⟩ := hwq
          have hbq : Below wr.heap.size wr wq := by rw [hwq2]; exact over_below wr pq
          clear hwq2
          go_wp2
          go_ret
          exact ⟨ret_bool F.out.symm, hb.trans ((hbr.trans (hbq.mono hbr.size)).mono (by omega))⟩
        have hh' : (E.hart != N.hart) = false := by simpa using hh
        clear hh
        have LD := Lib.hid (fun w => loads_c E w)
        by_cases hL : E.ldB = true
        · have D : Hid (depOk evs n l k = true) := Lib.hid (by unfold depOk; rw [HD.out, HPV.out, Int.toNat_natCast, HE.out, HN.out, hh', hL]; simp; omega)
          have LL := Lib.hid hL
          clear hL
          go_wp2
          refine wp_region_over (by kernel_rfl) (by kernel_rfl) ?_
          repeat (go_big_quiet_step (((go_at_call 59; refine quiet_over (?_ : Calls _ _ _ _ fun e w' => e = .returned (.bool true) ∧ _); have t := LD.out; rw [LL.out] at t; exact t _))))
          refine wpQuiet_nil ?_
          intro wq hwq
          obtain ⟨pq, hwq2⟩ := hwq
          have hbq : Below wr.heap.size wr wq := by rw [hwq2]; exact over_below wr pq
          clear hwq2
          go_wp2
          go_roundw
          case rel => exact ⟨k + 1, by omega, by go_num, by rw [hangsTo_succ, HTO.out, D.out]; rfl, hbr.trans (hbq.mono hbr.size)⟩
          case measure => simp [intOf]; omega
        · have hL' : E.ldB = false := by simpa using hL
          have F : Hid (res = false) := Lib.hid (by rw [← RES.out]; exact hangsTo_false _ _ _ _ hlt (by unfold depOk; rw [HD.out, HPV.out, Int.toNat_natCast, HE.out, HN.out, hL']; simp))
          have LL := Lib.hid hL'
          clear hL hL'
          go_wp2
          refine wp_region_over (by kernel_rfl) (by kernel_rfl) ?_
          repeat (go_big_quiet_step (((go_at_call 59; refine quiet_over (?_ : Calls _ _ _ _ fun e w' => e = .returned (.bool false) ∧ _); have t := LD.out; rw [LL.out] at t; exact t _))))
          refine wpQuiet_nil ?_
          intro wq hwq
          obtain ⟨pq, hwq2⟩ := hwq
          have hbq : Below wr.heap.size wr wq := by rw [hwq2]; exact over_below wr pq
          clear hwq2
          go_wp2
          go_ret
          exact ⟨ret_bool F.out.symm, hb.trans ((hbr.trans (hbq.mono hbr.size)).mono (by omega))⟩
      · have hkz : ¬ (0 < k) := hk0
        by_cases hh : (E.hart != N.hart) = true
        · have F : Hid (res = false) := Lib.hid (by rw [← RES.out]; exact hangsTo_false _ _ _ _ hlt (by unfold depOk; rw [HD.out, Int.toNat_natCast, HE.out, HN.out, hh]; simp))
          go_wp2
          refine wp_region_over (by kernel_rfl) (by kernel_rfl) ?_
          repeat (go_big_quiet_step (fail))
          refine wpQuiet_nil ?_
          intro wq hwq
          obtain ⟨pq, hwq2⟩ := hwq
          have hbq : Below wr.heap.size wr wq := by rw [hwq2]; exact over_below wr pq
          clear hwq2
          go_wp2
          go_ret
          exact ⟨ret_bool F.out.symm, hb.trans ((hbr.trans (hbq.mono hbr.size)).mono (by omega))⟩
        have hh' : (E.hart != N.hart) = false := by simpa using hh
        clear hh
        have LD := Lib.hid (fun w => loads_c E w)
        by_cases hL : E.ldB = true
        · have D : Hid (depOk evs n l k = true) := Lib.hid (by unfold depOk; rw [HD.out, Int.toNat_natCast, HE.out, HN.out, hh', hL]; simp [hkz]; omega)
          have LL := Lib.hid hL
          clear hL
          go_wp2
          refine wp_region_over (by kernel_rfl) (by kernel_rfl) ?_
          repeat (go_big_quiet_step (((go_at_call 59; refine quiet_over (?_ : Calls _ _ _ _ fun e w' => e = .returned (.bool true) ∧ _); have t := LD.out; rw [LL.out] at t; exact t _))))
          refine wpQuiet_nil ?_
          intro wq hwq
          obtain ⟨pq, hwq2⟩ := hwq
          have hbq : Below wr.heap.size wr wq := by rw [hwq2]; exact over_below wr pq
          clear hwq2
          go_wp2
          go_roundw
          case rel => exact ⟨k + 1, by omega, by go_num, by rw [hangsTo_succ, HTO.out, D.out]; rfl, hbr.trans (hbq.mono hbr.size)⟩
          case measure => simp [intOf]; omega
        · have hL' : E.ldB = false := by simpa using hL
          have F : Hid (res = false) := Lib.hid (by rw [← RES.out]; exact hangsTo_false _ _ _ _ hlt (by unfold depOk; rw [HD.out, Int.toNat_natCast, HE.out, HN.out, hL']; simp))
          have LL := Lib.hid hL'
          clear hL hL'
          go_wp2
          refine wp_region_over (by kernel_rfl) (by kernel_rfl) ?_
          repeat (go_big_quiet_step (((go_at_call 59; refine quiet_over (?_ : Calls _ _ _ _ fun e w' => e = .returned (.bool false) ∧ _); have t := LD.out; rw [LL.out] at t; exact t _))))
          refine wpQuiet_nil ?_
          intro wq hwq
          obtain ⟨pq, hwq2⟩ := hwq
          have hbq : Below wr.heap.size wr wq := by rw [hwq2]; exact over_below wr pq
          clear hwq2
          go_wp2
          go_ret
          exact ⟨ret_bool F.out.symm, hb.trans ((hbr.trans (hbq.mono hbr.size)).mono (by omega))⟩
    · have hke : k = l.length := by omega
      have F : Hid (res = true) := Lib.hid (by rw [← RES.out]; unfold hangsB; rw [← hke]; exact HTO.out)
      clear hke
      go_wp2
      go_ret
      exact ⟨ret_bool F.out.symm, hb.trans (hbr.mono (by omega))⟩
end Go.Proofs.YtnghoibkjphfmaaGreat
/- Pairs of ints in memory; the taking away of places, plain. -/
namespace Go.Proofs.YtnghoibkjphfmaaGreat
open Go.RowKit
/-- Below block B, the slice s holds these pairs of ints. -/
def PairsZ (B : Nat) (w : World) (s : Sl) (l : List (Int × Int)) : Prop :=
  s.n = l.length ∧ l.length ≤ 1152921504606846976 ∧
  (l = [] ∨ ∃ b off, s.a = some ⟨b, off, none⟩ ∧ b < B ∧ ∀ k, k < l.length → w.cell? ⟨b, off + k * 2, none⟩ = some (.int .i64 (l.getD k (0, 0)).1) ∧ w.cell? ⟨b, off + k * 2 + 1, none⟩ = some (.int .i64 (l.getD k (0, 0)).2))
theorem PairsZ.below {B : Nat} {w w' : World} {s : Sl} {l : List (Int × Int)} (h : PairsZ B w s l) (hb : Below B w w') : PairsZ B w' s l := by
  obtain ⟨h1, h2, h3⟩ := h
  refine ⟨h1, h2, ?_⟩
  rcases h3 with h3 | ⟨b, off, h4, h5, h6⟩
  · exact Or.inl h3
  · exact Or.inr ⟨b, off, h4, h5, fun k hk => by rw [hb.cell (by exact h5), hb.cell (by exact h5)]; exact h6 k hk⟩
theorem PairsZ.mono {B B' : Nat} {w : World} {s : Sl} {l : List (Int × Int)} (h : PairsZ B w s l) (hB : B ≤ B') : PairsZ B' w s l := by
  obtain ⟨h1, h2, h3⟩ := h
  refine ⟨h1, h2, ?_⟩
  rcases h3 with h3 | ⟨b, off, h4, h5, h6⟩
  · exact Or.inl h3
  · exact Or.inr ⟨b, off, h4, by omega, h6⟩
def outB (n : Int) (p : Int × Int) : Bool := decide (p.1 < 0) || decide (n ≤ p.1) || decide (p.2 < 0) || decide (n ≤ p.2)
abbrev Gone := Nat → Bool
def updB (g : Gone) (p : Nat) : Gone := fun i => if i = p then true else g i
/-- does an arrow lead to a place, from a place that is there? -/
def ledB (l : List (Int × Int)) (g : Gone) (p : Nat) : Bool := l.any (fun q => (q.2 == (p : Int)) && !g q.1.toNat)
def takeP (l : List (Int × Int)) (g : Gone) (p : Nat) : Gone := if ledB l g p then g else updB g p
def passTo (l : List (Int × Int)) (g : Gone) (k : Nat) : Gone := (List.range k).foldl (takeP l) g
def roundsTo (l : List (Int × Int)) (n : Nat) : Nat → Gone
  | 0 => fun _ => false
  | r + 1 => passTo l (roundsTo l n r) n
def circleB (n : Nat) (l : List (Int × Int)) : Bool := (List.range n).any (fun p => !roundsTo l n n p)
end Go.Proofs.YtnghoibkjphfmaaGreat
/- The frames of the laws over executions and pairs: each argument is opened once into what the walks speak of; nothing that was there is written, so each argument reads behind the call as it read before. -/
namespace Go.Proofs.YtnghoibkjphfmaaGreat
open Go.RowKit Go.ChangeShapes Go.WideShapes Go.Deep
theorem below_sameAt {n : Nat} {W W' : World} {q : MemPlace} (h : Below n W W') (hq : q.block < n) : W.sameAt W' q := by
  cases q with
  | cell b o => exact World.cell?_of_block (w := W) (h.block b hq)
  | map b => exact h.block b hq
theorem stays_all {H : Type} {enc : TypeId × Value → H} {W W' : World} (hl : laidOutB Tryz.prog = true) (hb : Below W.heap.size W W') :
    ∀ {ts : List TypeId} {vs : List Value} {ds : List (DataW H)} {p : List MemPlace}, (∀ t ∈ ts, Tryz.prog.readableRec t = true ∧ t < Tryz.prog.types.size) → DataW.TrodAll enc Tryz.prog W 0 (fun _ => true) true ts vs ds p → (∀ q ∈ p, q.block < W.heap.size) →
      ∀ sp : Nat → Bool, (∀ q ∈ p, sp q.block = true) → DataW.TrodAll enc Tryz.prog W' 0 sp true ts vs ds p
  | [], vs, ds, p, _, h, _, sp, _ => by
    obtain ⟨rfl, rfl, rfl⟩ := trodAll_nil h
    exact trodAll_mk0
  | t :: ts, vs, ds, p, ht, h, hlt, sp, hsp => by
    obtain ⟨v, vs', d, ds', p0, p1, rfl, rfl, rfl, h0, r0⟩ := trodAll_cons h
    have h1 := WideElems.Trod_stays hl (ht t (by simp)).1 (ht t (by simp)).2 (W' := W') (sp' := sp) h0 (fun q hq => below_sameAt hb (hlt q (by simp [hq]))) (fun q hq => hsp q (by simp [hq]))
    exact trodAll_cons_mk h1 (stays_all hl hb (fun t' ht' => ht t' (by simp [ht'])) r0 (fun q hq => hlt q (by simp [hq])) sp (fun q hq => hsp q (by simp [hq])))
theorem laid_ok : laidOutB Tryz.prog = true := by kernel_rfl
/-! ### sizes of what lies down in a datum -/
theorem w_mem_all {H : Type} {P : Program} {e : TypeId} : ∀ {es : List (DataW H)} {d : DataW H}, d ∈ es → ∀ n ∈ d.weights P e, n ∈ DataW.weightsAll P e es
  | [], _, h, _, _ => by cases h
  | x :: es, d, h, n, hn => by
    simp only [DataW.weightsAll, List.mem_append]
    rcases List.mem_cons.1 h with rfl | h
    · exact Or.inl hn
    · exact Or.inr (w_mem_all h n hn)
theorem w_slice {H : Type} {P : Program} {t e : TypeId} {es sp : List (DataW H)} (ht : P.underlying t = some (.slice e)) (h : ∀ n ∈ (DataW.slice es sp).weights P t, n ≤ reachBytes) :
    (es.length + sp.length) * P.bytesOf e ≤ reachBytes ∧ ∀ d ∈ es, ∀ n ∈ d.weights P e, n ≤ reachBytes := by
  unfold DataW.weights at h
  rw [ht] at h
  refine ⟨h _ (by simp), fun d hd n hn => h n ?_⟩
  simp only [List.mem_cons, List.mem_append]
  exact Or.inr (Or.inl (w_mem_all hd n hn))
theorem w_arg {H : Type} {P : Program} {ts : List TypeId} {ds : List (DataW H)} (h : (DataW.weightsEach P ts ds).all (· ≤ reachBytes) = true) {j : Nat} {t : TypeId} {d : DataW H} (ht : ts[j]? = some t) (hd : ds[j]? = some d) : ∀ n ∈ d.weights P t, n ≤ reachBytes := by
  intro n hn
  have := List.all_eq_true.1 h n (DataW.weights_mem_each ht hd n hn)
  simpa using this
theorem cell_lt {W : World} {a : Addr} {v : Value} (h : W.cell? a = some v) : a.spot = none ∧ a.block < W.heap.size := by
  unfold World.cell? at h
  cases hb : W.heap[a.block]? with
  | none => rw [hb] at h; cases h
  | some o =>
    refine ⟨?_, (Array.getElem?_eq_some_iff.1 hb).1⟩
    rw [hb] at h
    cases o with
    | cells c t fr =>
      simp only at h
      cases hs : a.spot with
      | none => rfl
      | some _ => rw [hs] at h; simp at h
    | _ => cases h
theorem addr_eq {a : Addr} (h : a.spot = none) : a = ⟨a.block, a.off, none⟩ := by cases a; simp at h; subst h; rfl
section
variable {H : Type} {enc : TypeId × Value → H} {W : World} {sp : Nat → Bool} {held : Bool}
theorem ints_in {k : IntKind} {t e : TypeId} {fuel : Nat} {cs : List Value} {x : DataW H × List MemPlace} (ht : Tryz.prog.underlying t = some (.slice e)) (he : Tryz.prog.underlying e = some (.int k)) (hc : Tryz.prog.cellsOf e = 1) (hby : 1 ≤ Tryz.prog.bytesOf e)
    (h : DataW.trod enc Tryz.prog W 0 sp held fuel t cs = some x) (hw : ∀ n ∈ x.1.weights Tryz.prog t, n ≤ reachBytes) :
    ∃ (s : Sl) (l : List Int), cs = [.slice s.a s.n s.c] ∧ IntsIn k W.heap.size W s l ∧ (∀ z ∈ l, (Lit.int k z).wf = true) := by
  rcases open_ints ht he hc h with ⟨rfl, rfl⟩ | ⟨a, len, cap, zs, rfl, hb, hl, hm, hlen, rfl, hcell, hwf⟩
  · exact ⟨⟨none, 0, 0⟩, [], rfl, ⟨rfl, by simp, Or.inl rfl⟩, by simp⟩
  · have hle : len ≤ zs.length := by rw [hlen]; split <;> omega
    have hwt := (w_slice ht hw).1
    refine ⟨⟨some a, len, cap⟩, zs.take len, rfl, ⟨by simp; omega, ?_, ?_⟩, fun z hz => hwf z (List.mem_of_mem_take hz)⟩
    · have h1 : (lits (H := H) k (zs.take len)).length = min len zs.length := by simp [lits]
      rw [h1] at hwt
      have h2 : min len zs.length ≤ (min len zs.length + (lits (H := H) k (zs.drop len)).length) * Tryz.prog.bytesOf e := by
        refine Nat.le_trans ?_ (Nat.le_mul_of_pos_right _ (by omega)); omega
      unfold reachBytes at hwt
      rw [List.length_take]
      omega
    · by_cases h0 : len = 0
      · left; rw [h0]; rfl
      · right
        have hc0 := hcell 0 (by omega)
        obtain ⟨hs, hlt⟩ := cell_lt hc0
        have ea := addr_eq (a := a) hs
        refine ⟨a.block, a.off, by rw [← ea], hlt, fun i hi => ?_⟩
        rw [List.length_take] at hi
        have := hcell i (by omega)
        rw [ea, add_plain] at this
        have e : zs.getD i 0 = (zs.take len).getD i 0 := by
          simp only [List.getD_eq_getElem?_getD, List.getElem?_take]
          rw [if_pos (by omega)]
        rw [e] at this
        exact this
end
end Go.Proofs.YtnghoibkjphfmaaGreat
/- An execution that came in, opened. -/
namespace Go.Proofs.YtnghoibkjphfmaaGreat
open Go.RowKit Go.ChangeShapes Go.WideShapes Go.Deep
theorem cells_int : Tryz.prog.cellsOf 3 = 1 := by kernel_rfl
theorem bytes_int : 1 ≤ Tryz.prog.bytesOf 3 := of_decide_eq_true (by kernel_rfl)
theorem wf_i64 {n : Int} (h : (Lit.int .i64 n).wf = true) : -9223372036854775808 ≤ n ∧ n ≤ 9223372036854775807 := by
  simp only [Lit.wf, Bool.and_eq_true, decide_eq_true_eq] at h
  have e1 : IntKind.i64.min = -9223372036854775808 := by decide
  have e2 : IntKind.i64.max = 9223372036854775807 := by decide
  omega
section
variable {H : Type} {enc : TypeId × Value → H} {W : World} {sp : Nat → Bool} {held : Bool}
end
end Go.Proofs.YtnghoibkjphfmaaGreat
