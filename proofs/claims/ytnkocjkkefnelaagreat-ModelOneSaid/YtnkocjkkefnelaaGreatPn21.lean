/- Parts. -/
import Derived.WalkArith
import Derived.Maps.AppendAt
import Derived.Deep.RegionHeld3
import Derived.Deep.AppendLies
import Derived.RangeFuncBox
import Derived.Maps.GroupsBeside
import Derived.Test.YtnkocjkkefnelaaGreatPn17
import Derived.Test.YtnkocjkkefnelaaGreatPn19
import Derived.Test.YtnkocjkkefnelaaGreatPn20
set_option linter.unusedVariables false
set_option linter.unusedSimpArgs false
set_option maxHeartbeats 4000000
namespace Go.Proofs.YtnkocjkkefnelaaGreat
open Go.RowKit Go.Maps
open Go.WideElems (Fit rd rg pl rd_key)
theorem gA {α β : Type} (f : α → β) : ∀ (l : List α), (l.map f).Pairwise (fun p q => p ≠ q) → ∀ x ∈ l, ∀ y ∈ l, f x = f y → x = y
 | [], _, x, hx, _, _, _ => by simp at hx
 | z :: r, h, x, hx, y, hy, e => by
  rw [List.map_cons, List.pairwise_cons] at h
  rcases List.mem_cons.1 hx with rfl | hx2
  ·rcases List.mem_cons.1 hy with rfl | hy
   ·rfl
   ·exact absurd e (h.1 _ (List.mem_map_of_mem hy))
  ·rcases List.mem_cons.1 hy with hy | hy
   ·subst hy; exact absurd e.symm (h.1 _ (List.mem_map_of_mem hx2))
   ·exact gA f r h.2 x hx2 y hy e
theorem fD {H : Type} {P : Program} {t k E : TypeId} {w w' : World} {b : Nat} {es : Array MapEntry} {clock : Nat} {R : Value → Option (DataW H × List MemPlace)} {key z v : Value} {kl : Lit} (K : Keyed P k) (ht : P.underlying t = some (.map k E))
  (hz : ∀ w, (zeroValue E).run P w = .ok z w) (hb : w.heap[b]? = some (.map es clock)) (hb' : w'.heap[b]? = some (.map es clock)) (F : Fit P k R es clock) (hkey : keyOf P k key = some kl)
  (hrun : (Instr.lookup t (.map (some b)) key false).run P w = .ok v w) : (Instr.lookup t (.map (some b)) key false).run P w' = .ok v w' := by
 rcases Maps.fit_look false K ht (hz w) hb F hkey with ⟨h1, h2, _⟩ | ⟨e0, y0, hm0, hk0, h1, hR0, hat0, _⟩
 ·rcases Maps.fit_look false K ht (hz w') hb' F hkey with ⟨g1, _, _⟩ | ⟨e1, y1, hm1, hk1, g1, _⟩
  ·rw [hrun] at h1
   simp only [Bool.false_eq_true, if_false] at h1 g1
   injection h1 with h1 _
   rw [g1, h1]
  ·exact absurd hk1 (h2 e1 hm1)
 ·rcases Maps.fit_look false K ht (hz w') hb' F hkey with ⟨_, g2, _⟩ | ⟨e1, y1, hm1, hk1, g1, hR1, hat1, _⟩
  ·exact absurd hk0 (g2 e0 hm0)
  ·have ap := fit_apart K F
   have hpair : (es.toList.map fun x => (rg P k R x).1).Pairwise (fun p q => p ≠ q) := by
    rw [List.pairwise_map] at ap ⊢
    exact ap
   have he : e0 = e1 := by
    refine gA _ _ hpair e0 hm0 e1 hm1 ?_
    obtain ⟨u0, hu0⟩ := F.reads e0 hm0
    obtain ⟨u1, hu1⟩ := F.reads e1 hm1
    have k0 := rd_key hu0
    have k1 := rd_key hu1
    rw [hk0, hkey] at k0
    rw [hk1, hkey] at k1
    show (rg P k R e0).1 = (rg P k R e1).1
    unfold rg
    rw [hu0, hu1]
    injection k0 with k0
    injection k1 with k1
    show u0.1 = u1.1
    rw [← k0, ← k1]
   rw [hrun] at h1
   simp only [Bool.false_eq_true, if_false] at h1 g1
   injection h1 with h1 _
   rw [g1, h1, he]
open Go.RowKit Go.Maps Go.ChangeMaps
open Go.ChangeShapes (lits)
def itemsD : DataW Unit → List (DataW Unit)
 | .slice es _ => es
 | _ => []
def nxTo (l : List (Int × Int)) (k : Nat) (a : Int) : List Int := ((l.take k).filter (fun p => p.1 == a)).map (·.2)
theorem nxTo_succ (l : List (Int × Int)) {k : Nat} (hk : k < l.length) (a : Int) : nxTo l (k + 1) a = if (l.getD k (0, 0)).1 == a then nxTo l k a ++ [(l.getD k (0, 0)).2] else nxTo l k a := by
 unfold nxTo
 rw [List.take_succ_eq_append_getElem hk, List.getD_eq_getElem?_getD, List.getElem?_eq_getElem hk, Option.getD_some, List.filter_append, List.map_append]
 simp only [List.filter_cons, List.filter_nil]
 split <;> simp
def Grp (D : DataW Unit) (l : List (Int × Int)) (k : Nat) : Prop := ∀ a : Nat, a < 64 → itemsD (D.atKey (.int .i64 (a : Int)) .nil) = lits .i64 (nxTo l k a)
theorem groups_alloc {b nn base : Nat} {D : DataW Unit} {w : World} (h : w.ownsGroups Tryz.prog 3 base 3 .i64 b nn D) (o : Obj) : (w.alloc o).ownsGroups Tryz.prog 3 base 3 .i64 b nn D :=
 h.kept (World.grownBy_alloc w o none) (by simp) (fun es clock hb x hx => by cases x.val.ownBlock <;> simp)
theorem mF (w : World) : (zeroValue 23).run Tryz.prog w = .ok (.slice none 0 0) w := by kernel_rfl
theorem iI : ∀ (x y : List Int), lits (H := Unit) .i64 x = lits .i64 y → x = y
 | [], [], _ => rfl
 | [], b :: y, h => by simp [lits] at h
 | a :: x, [], h => by simp [lits] at h
 | a :: x, b :: y, h => by
  simp only [lits, List.map_cons, List.cons.injEq, DataW.lit.injEq, Lit.int.injEq, true_and] at h
  rw [h.1, iI x y h.2]
theorem Grp.step {D : DataW Unit} {l : List (Int × Int)} {k a : Nat} {pb : Int} {z0 : List Int} {d : DataW Unit} (h : Grp D l k) (hm : IsMap D) (ha : a < 64) (hN : ∀ c : Int, nxTo l (k + 1) c = if ((a : Int) == c) = true then nxTo l k c ++ [pb] else nxTo l k c)
  (hz : itemsD (D.atKey (.int .i64 (a : Int)) .nil) = lits .i64 z0) (hd : d = .slice (lits .i64 (z0 ++ [pb])) []) : Grp (D.put (.int .i64 (a : Int)) d) l (k + 1) := by
 intro c hc
 rw [hN c]
 by_cases he : c = a
 ·subst he
  rw [if_pos (by simp), atKey_put_same hm (show WideAt.IsKeyLit (Lit.int .i64 (c : Int)) from trivial), hd]
  have e : z0 = nxTo l k c := iI _ _ (hz.symm.trans (h c hc))
  rw [← e]; rfl
 ·rw [if_neg (by simp; omega), atKey_put_other (by intro e; injection e with _ e2; omega)]
  exact h c hc
def nxF (l : List (Int × Int)) (a : Nat) : List Nat := (nxTo l l.length (a : Int)).map Int.toNat
def acyB (n : Nat) (l : List (Int × Int)) : Bool := (dfsL (dfs (nxF l) 65) (fun _ => 0) (List.range n)).1
theorem bT (st : St) : ∀ n, whites n st ≤ n
 | 0 => Nat.le_refl _
 | n + 1 => by
  have := bT st n
  unfold whites
  split <;> omega
theorem nxTo_in {n : Int} {l : List (Int × Int)} (h : l.any (outB n) = false) (hn : n ≤ 64) (a : Int) : ∀ z ∈ nxTo l l.length a, 0 ≤ z ∧ z < 64 := by
 intro z hz
 unfold nxTo at hz
 rw [List.take_length] at hz
 obtain ⟨p, hp, rfl⟩ := List.mem_map.1 hz
 have hp2 := (List.mem_filter.1 hp).1
 rw [List.any_eq_false] at h
 have := h p hp2
 unfold outB at this
 simp only [Bool.or_eq_true, decide_eq_true_eq, not_or] at this
 omega
theorem nxTo_len (l : List (Int × Int)) (a : Int) : (nxTo l l.length a).length ≤ l.length := by
 unfold nxTo
 rw [List.length_map, List.take_length]
 exact List.length_filter_le _ _
theorem getD_toNat (zs : List Int) (h : ∀ z ∈ zs, 0 ≤ z) (k : Nat) (hk : k < zs.length) : (((zs.map Int.toNat).getD k 0 : Nat) : Int) = zs.getD k 0 := by
 have hm := h zs[k] (List.getElem_mem hk)
 simp [List.getD, hk]
 omega
theorem ground_of (n : Int) (l : List (Int × Int)) (hok : l.any (outB n) = false) (hn : n ≤ 64) (hlen : l.length ≤ 4096) (wo W0 : World) (mt ms : Nat) (D : DataW Unit) (hown : wo.ownsGroups Tryz.prog 3 (mt + 1) 3 .i64 mt l.length D) (hD : Grp D l l.length)
  (hbx : Boxed wo (mt + 1) 112 (.map (some mt))) (hms : wo.heap.size = ms) (hk : ∀ k, k < wo.heap.size → W0.heap[k]? = wo.heap[k]?)
  (h8 : Boxed W0 (ms + 1) 78 (.map (some ms)))
  (h9 : Boxed W0 (ms + 1 + 1) 101 (.func (.func 89) #[] #[.pointer (some ⟨ms + 1, 0, none⟩), .pointer (some ⟨mt + 1, 0, none⟩), .pointer (some ⟨ms + 1 + 1, 0, none⟩)])) :
  Ground (nxF l) W0 (ms + 1) (mt + 1) (ms + 1 + 1) ms mt := by
 have hbl := hbx.lt
 have hin := nxTo_in hok hn
 refine ⟨h8.cell, ?_, h9.cell, by omega, by omega, by omega, by omega, ?_, ?_, ?_, ?_⟩
 ·have : Boxed W0 (mt + 1) 112 (.map (some mt)) := (hk _ hbl).trans hbx
  exact this.cell
 ·have := h8.lt; omega
 ·intro a ha b hb
  unfold nxF at hb
  obtain ⟨z, hz, rfl⟩ := List.mem_map.1 hb
  have := hin _ z hz
  omega
 ·intro a
  unfold nxF
  rw [List.length_map]
  have := nxTo_len l (a : Int)
  omega
 ·intro a ha
  obtain ⟨v0, z0, run0, at0, oi0, zl0, _⟩ := hown.at nE Tryz.underlying112 (mF _) (by unfold maxLen; omega) (nF ha)
  obtain ⟨es, clock, hes, F, _⟩ := hown
  have ez : z0 = nxTo l l.length (a : Int) := by
   refine iI _ _ (Eq.trans ?_ (hD a ha))
   rw [at0]
   rcases oi0.datum (H := Unit) with ⟨e1, e2⟩ | e1
   ·rw [e1, e2]; rfl
   ·rw [e1]; rfl
  have hes0 : W0.heap[mt]? = some (.map es clock) := (hk mt (by omega)).trans hes
  have look : ∀ w' : World, w'.heap[mt]? = W0.heap[mt]? → (Instr.lookup 112 (.map (some mt)) (.int .i64 (a : Int)) false).run Tryz.prog w' = .ok v0 w' := fun w' hw' =>
   fD nE Tryz.underlying112 mF hes (hw'.trans hes0) F (nF ha) run0
  have hl0 : (nxF l a).length = z0.length := by unfold nxF; rw [List.length_map, ez]
  have hpos : ∀ z ∈ z0, 0 ≤ z := fun z hz => by rw [ez] at hz; exact (hin _ z hz).1
  rcases oi0.1.2 with ⟨rfl, hz⟩ | ⟨g, cap, cur, rfl, hbase, hgb, r1, r2, r3, r4⟩
  ·have hz2 : z0 = [] := List.length_eq_zero_iff.1 hz
   exact ⟨⟨none, 0, 0⟩, look, by rw [hl0, hz2]; rfl, Or.inl (by unfold nxF; rw [← ez, hz2]; rfl)⟩
  ·have hgl : g < wo.heap.size := (Array.getElem?_eq_some_iff.1 hgb).1
   refine ⟨⟨some ⟨g, 0, none⟩, z0.length, cap⟩, look, hl0.symm, Or.inr ⟨g, 0, rfl, by omega, fun k hk1 => ?_⟩⟩
   rw [hl0] at hk1
   have hc : W0.cell? ⟨g, 0 + k, none⟩ = wo.cell? ⟨g, 0 + k, none⟩ := World.cell?_of_block (hk g hgl)
   have hH := (xD (Value.int .i64) hgb (by simpa using r4) k (by simpa using hk1)).1
   rw [hc, hH]
   have e : nxF l a = z0.map Int.toNat := by unfold nxF; rw [← ez]
   rw [e, getD_toNat z0 hpos k hk1]
   simp [List.getD, hk1]
def badB (n : Int) (l : List (Int × Int)) : Bool := decide (n < 0) || decide (64 < n) || l.any (outB n)
set_option maxRecDepth 100000 in
set_option maxHeartbeats 2000000 in
theorem acyclic_bad_c (n : Int) (s : Sl) (l : List (Int × Int)) (w : World) (hl : PairsZ w.heap.size w s l) (hbad : badB n l = true) :
  Calls Tryz.prog 59 #[.int .i64 n, .slice s.a s.n s.c] w fun e w' => e = .returned (.bool false) ∧ Below w.heap.size w w' := by
 have hl1 : PairsZ (w.alloc (.cells #[.int .i64 n] 3)).heap.size (w.alloc (.cells #[.int .i64 n] 3)) s l := (hl.below ((Below.refl _ _).alloc (Nat.le_refl _) _)).mono (by simp)
 have ctr := Lib.hid (iU n w.heap.size s l _ (by simp) (by simp) hl1)
 have hb0 : Below w.heap.size w (w.alloc (.cells #[.int .i64 n] 3)) := (Below.refl _ _).alloc (Nat.le_refl _) _
 clear hl hl1
 cases h1 : decide (n < 0) with
 | true =>
  go_enter Tryz.func59, Tryz.ntmps59
  go_wp2
  go_ret
  exact ⟨rfl, hb0⟩
 | false =>
 cases h2 : decide (64 < n) with
 | true =>
  go_enter Tryz.func59, Tryz.ntmps59
  go_wp2
  go_ret
  exact ⟨rfl, hb0⟩
 | false =>
  have h3 : l.any (outB n) = true := by unfold badB at hbad; rw [h1, h2] at hbad; exact hbad
  rw [h3] at ctr
  clear hbad h3
  go_enter Tryz.func59, Tryz.ntmps59
  go_wp2_with (go_at_call 87; refine ctr.out.mono ?_; rintro o w2 ⟨rfl, hb2⟩)
  go_ret
  exact ⟨rfl, hb0.trans (hb2.mono (by simp))⟩
set_option maxRecDepth 100000 in
set_option maxHeartbeats 4000000 in
theorem acyclic_good_c (n : Nat) (s : Sl) (l : List (Int × Int)) (w : World) (hl : PairsZ w.heap.size w s l) (hn : n ≤ 64) (hok : l.any (outB n) = false) (hlen : l.length ≤ 4096) :
    Calls Tryz.prog 59 #[.int .i64 (n : Int), .slice s.a s.n s.c] w fun e w' => e = .returned (.bool (acyB n l)) ∧ Below w.heap.size w w' := by
  obtain ⟨res, hres⟩ : ∃ z : Bool, acyB n l = z := ⟨_, rfl⟩
  rw [hres]
  have RES := Lib.hid hres
  clear hres
  have hl1 : PairsZ (w.alloc (.cells #[.int .i64 (n : Int)] 3)).heap.size (w.alloc (.cells #[.int .i64 (n : Int)] 3)) s l := (hl.below ((Below.refl _ _).alloc (Nat.le_refl _) _)).mono (by simp)
  have ctr := Lib.hid (iU n w.heap.size s l _ (by simp) (by simp) hl1)
  have hb0 : Below w.heap.size w (w.alloc (.cells #[.int .i64 (n : Int)] 3)) := (Below.refl _ _).alloc (Nat.le_refl _) _
  rw [hok] at ctr
  obtain ⟨sa, sn, sc⟩ := s
  obtain ⟨hsn, hls, hrow⟩ := hl
  dsimp only at hsn hrow
  subst hsn
  have HROW := Lib.hid hrow
  have HOK := Lib.hid hok
  clear hl1 hrow hok
  have hmm := @run_makeMap Tryz.prog
  obtain ⟨i0, hi, jz0, jz1, jz2⟩ := info_parts oP
  have h1 : decide ((n : Int) < 0) = false := decide_eq_false (by omega)
  have h2 : decide ((64 : Int) < (n : Int)) = false := decide_eq_false (by omega)
  have h3 : decide (64 < n) = false := decide_eq_false (by omega)
  go_enter Tryz.func59, Tryz.ntmps59
  go_upto_region 3 with (go_at_call 87; refine ctr.out.mono ?_; rintro o w2 ⟨rfl, hb2⟩)
  have hbw : Below w.heap.size w w2 := hb0.trans (hb2.mono (by simp))
  have cn : w2.cell? ⟨w.heap.size, 0, none⟩ = some (.int .i64 (n : Int)) := (hb2.cell (p := ⟨w.heap.size, 0, none⟩) (by simp)).trans (by simp)
  have hz2 : w.heap.size < w2.heap.size := by have := hb2.size; simp at this; omega
  clear hb0 hb2 ctr h1 h2 h3
  go_wp2
  go_loopw [25] (fun i wr => ∃ (k : Nat) (D : DataW Unit), k ≤ l.length ∧ i = .int .i64 k ∧ wr.ownsGroups Tryz.prog 3 (w2.heap.size + 1) 3 .i64 w2.heap.size k D ∧ Grp D l k ∧ Boxed wr (w2.heap.size + 1) 112 (.map (some w2.heap.size)) ∧ Below w2.heap.size w2 wr) (fun i _ => l.length - (intOf i).toNat)
  case atStart =>
    refine ⟨0, .map [], by omega, rfl, groups_alloc (World.ownsGroups_made w2 _ _ _ _) _, fun a ha => rfl, ?_, ((Below.refl _ _).alloc (Nat.le_refl _) _).alloc (by simp) _⟩
    have := Boxed.new (w2.alloc (.map #[] 0)) 112 (.map (some w2.heap.size))
    rwa [World.size_alloc] at this
  case round =>
    obtain ⟨k, D, hk, rfl, hown, hD, hbx, hbr⟩ := hrel
    rename World => wo
    have HD := Lib.hid hD
    clear hD hmm
    by_cases hlt : k < l.length
    · obtain ⟨b, off, rfl, hbB, hcl⟩ := HROW.out.resolve_left (by intro h; rw [h] at hlt; simp at hlt)
      obtain ⟨⟨pa, pb⟩, hp⟩ : ∃ p, l.getD k (0, 0) = p := ⟨_, rfl⟩
      have cc := hcl k hlt
      rw [hp] at cc
      dsimp only at cc
      have hbw2 := hbw.trans (hbr.mono (by omega))
      have q0 : wo.cell? ⟨b, off + k * 2, none⟩ = some (.int .i64 pa) := by rw [hbw2.cell (p := ⟨b, off + k * 2, none⟩) hbB]; exact cc.1
      have q1 : wo.cell? ⟨b, off + k * 2 + 1, none⟩ = some (.int .i64 pb) := by rw [hbw2.cell (p := ⟨b, off + k * 2 + 1, none⟩) hbB]; exact cc.2
      have hin : 0 ≤ pa ∧ pa < 64 ∧ 0 ≤ pb ∧ pb < 64 := by
        have hx : outB n (pa, pb) = false := by
          have := HOK.out
          rw [List.any_eq_false] at this
          have h2 := this (pa, pb) (by rw [← hp, List.getD_eq_getElem?_getD, List.getElem?_eq_getElem hlt]; exact List.getElem_mem hlt)
          simpa using h2
        unfold outB at hx
        simp only [Bool.or_eq_false_iff, decide_eq_false_iff_not] at hx
        omega
      obtain ⟨a, rfl⟩ : ∃ a : Nat, pa = a := ⟨pa.toNat, by omega⟩
      have HN := Lib.hid (nxTo_succ l hlt)
      rw [hp] at HN
      clear hcl cc hp
      obtain ⟨v0, z0, run0, at0, oi0, zl0, back0⟩ := hown.at nE Tryz.underlying112 (mF _) (by unfold maxLen; omega) (nF (show a < 64 by omega))
      obtain ⟨es, clock, hes, F, _, hDm, _⟩ := hown
      have ISM : Hid (IsMap D) := Lib.hid ⟨_, hDm⟩
      have AT0 := Lib.hid at0
      clear hDm at0
      have hmlt : w2.heap.size < wo.heap.size := (Array.getElem?_eq_some_iff.1 hes).1
      have nbox : some (w2.heap.size + 1) ≠ v0.ownBlock := hbx.not_row (by decide) oi0.1
      have npair : some wo.heap.size ≠ v0.ownBlock := fun e => by have := (oi0.1.lt _ e.symm).2; omega
      have wfb : (Lit.int .i64 pb).wf = true := by
        obtain ⟨pn, rfl⟩ : ∃ pn : Nat, pb = pn := ⟨pb.toNat, by omega⟩
        simp only [Lit.wf, Bool.and_eq_true, decide_eq_true_eq]
        have e1 : IntKind.i64.min = -9223372036854775808 := by decide
        have e2 : IntKind.i64.max = 9223372036854775807 := by decide
        omega
      go_upto_region 7 with (fail)
      refine wH (X := fun W => Code.wp _ _ _ _ W) ?_
      intro w3 hb3 hs3 hcs3
      have t0 : w3.cell? ⟨wo.heap.size, 0, none⟩ = some (.int .i64 (a : Int)) := hcs3 0 _ rfl
      have t1 : w3.cell? ⟨wo.heap.size, 1, none⟩ = some (.int .i64 pb) := hcs3 1 _ rfl
      have tb : w3.cell? ⟨w2.heap.size + 1, 0, none⟩ = some (.map (some w2.heap.size)) := (hb3.cell (p := ⟨w2.heap.size + 1, 0, none⟩) hbx.lt).trans hbx.cell
      have hg3 : wo.grownBy w3 none := ⟨hb3.os, hb3.tape, hb3.output, hb3.size, fun k hk _ => hb3.block k hk⟩
      have hes3 : w3.drew.heap[w2.heap.size]? = some (.map es clock) := (hb3.block _ hmlt).trans hes
      have runA := fD nE Tryz.underlying112 mF hes hes3 F (nF (show a < 64 by omega)) run0
      have runB := fD (w' := (w3.alloc (.cells #[.int .i64 pb] 3)).drew) nE Tryz.underlying112 mF hes ((Below.heap_alloc _ _ _ (by show w2.heap.size < w3.heap.size; omega)).trans hes3) F (nF (show a < 64 by omega)) run0
      have row3 : w3.drew.ownsRow (w2.heap.size + 1) 3 1 v0 z0.length (z0.map (Value.int .i64)) := wI oi0.1 hb3.drew (Nat.le_refl _)
      have hz3 : w2.heap.size + 1 ≤ w3.heap.size := by omega
      have hg3d : wo.grownBy w3.drew v0.ownBlock := ⟨hb3.drew.os, hb3.drew.tape, hb3.drew.output, hb3.drew.size, fun k hk _ => hb3.drew.block k hk⟩
      have nmap : some wo.heap.size ≠ some w2.heap.size := by intro e; injection e with e; omega
      clear hcs3 F hes hes3 run0
      go_region_held3 (fun w' => w'.cell? ⟨w2.heap.size + 1, 0, none⟩ = some (.map (some w2.heap.size)) ∧ w'.cell? ⟨wo.heap.size, 0, none⟩ = some (.int .i64 (a : Int)) ∧ w'.cell? ⟨wo.heap.size, 1, none⟩ = some (.int .i64 pb))
        (first
          | go_keep
          | (go_split_ands
             refine ⟨?_, ?_, ?_⟩
             · exact hgrow5.cell (by assumption) nbox
             · exact hgrow5.cell (by assumption) npair
             · exact hgrow5.cell (by assumption) npair)
          | (go_split_ands
             refine ⟨?_, ?_, ?_⟩
             · exact hgrow6.cell (by assumption) (by simp)
             · exact hgrow6.cell (by assumption) nmap
             · exact hgrow6.cell (by assumption) nmap))
        ((refine step_append_lies _ (by rfl) _ _ _ (by rfl) (w2.heap.size + 1) 3 i0 (.int .i64 0) 1 8 Tryz.underlying23 hi jz0 jz1 jz2 rfl (by omega) v0 z0.length (z0.map (Value.int .i64)) (by rfl) (row3.alloc _)
            ⟨w3.heap.size, 0, none⟩ 1 1 [.int .i64 pb] (by rfl) (by rfl) (World.news_of_block (cs := #[.int .i64 pb]) (t := 3) (fr := (0, 0)) (heap_alloc_new w3.drew _)) (by simp [Value.oneCell'])
            (by omega) (by unfold maxLen; omega) (by omega) (by simp; omega) (w3.heap.size + 1) (by simp) ?_; intro gg cap w5 hown5 hgrow5 hat5 hlt5
          obtain ⟨w6, run6, hown6, hgrow6⟩ := back0 w5 (.slice (some ⟨gg, 0, none⟩) (z0.length + 1) cap) (z0 ++ [pb]) (hg3d.trans ((World.grownBy_alloc _ _ _).trans hgrow5)) (oi0.appended hown5 wfb) (by simp; omega) (hat5.imp (fun h => h.symm) (fun h => ⟨gg, rfl, by omega⟩))))
      all_goals
        go_wp2
        go_roundw
        case rel =>
          have hgrp : Grp (D.put (.int .i64 (a : Int)) (rowDatum .i64 (.slice (some ⟨gg, 0, none⟩) (z0.length + 1) cap) (z0 ++ [pb]))) l (k + 1) := HD.out.step ISM.out (by omega) HN.out (by
            rw [AT0.out]
            rcases oi0.datum (H := Unit) with ⟨e1, e2⟩ | e1
            · rw [e1, e2]; rfl
            · rw [e1]; rfl) ((oi0.appended hown5 wfb).datum_pos (by simp))
          have hbx6 : Boxed w6 (w2.heap.size + 1) 112 (.map (some w2.heap.size)) := (((hbx.kept hg3d nbox).alloc _).kept hgrow5 nbox).kept hgrow6 (by simp)
          have hbr6 : Below w2.heap.size w2 w6 := hbr.groups oi0 (hg3d.trans ((World.grownBy_alloc _ _ _).trans hgrow5)) hgrow6 hbr.size (by omega) (Nat.le_refl _)
          first | exact ⟨k + 1, _, by omega, by go_num, hown6, hgrp, hbx6, hbr6⟩ | ((repeat apply Exists.intro); exact ⟨⟨k + 1, _, by omega, by go_num, hown6, hgrp, hbx6, hbr6⟩, rfl⟩)
        case measure => simp [intOf]; omega
    · have hke : k = l.length := by omega
      subst hke
      have hmm := @run_makeMap Tryz.prog
      have bN := Boxed.new ((wo.alloc (.map #[] 0)).alloc (.cells #[.map (some wo.heap.size)] 78)) 101 .nilFunc
      rw [World.size_alloc, World.size_alloc] at bN
      have nc := bN.cell
      have nf := bN.frozen
      have bS := (Boxed.new (wo.alloc (.map #[] 0)) 78 (.map (some wo.heap.size))).alloc (.cells #[.nilFunc] 101)
      rw [World.size_alloc] at bS
      have hgn : wo.grownBy (((wo.alloc (.map #[] 0)).alloc (.cells #[.map (some wo.heap.size)] 78)).alloc (.cells #[.nilFunc] 101)) none := ((World.grownBy_alloc _ _ _).trans (World.grownBy_alloc _ _ _)).trans (World.grownBy_alloc _ _ _)
      have ownS : (((wo.alloc (.map #[] 0)).alloc (.cells #[.map (some wo.heap.size)] 78)).alloc (.cells #[.nilFunc] 101)).ownsMap Tryz.prog 3 (plainElem Tryz.prog 3) wo.heap.size 0 (.map [] : DataW Unit) := ((World.ownsMap_made wo _ _ _).alloc _).alloc _
      have szW : (((wo.alloc (.map #[] 0)).alloc (.cells #[.map (some wo.heap.size)] 78)).alloc (.cells #[.nilFunc] 101)).heap.size = wo.heap.size + 3 := by simp
      go_upto_region 11 with (fail)
      obtain ⟨W1, hW1⟩ : ∃ W1, (((wo.alloc (.map #[] 0)).alloc (.cells #[.map (some wo.heap.size)] 78)).alloc (.cells #[.nilFunc] 101)) = W1 := ⟨_, rfl⟩
      rw [hW1] at bN nc nf bS hgn ownS szW
      rw [hW1]
      clear hW1 hmm
      have hsf := fun (a : Addr) (c : Array Value) (w : World) => run_store Tryz.prog w a (.func (.func 89) #[] c) .plain rfl
      go_upto_region 12 with (fail)
      have sC : Boxed (W1.setCell ⟨wo.heap.size + 1 + 1, 0, none⟩ (.func (.func 89) #[] #[.pointer (some ⟨wo.heap.size + 1, 0, none⟩), .pointer (some ⟨w2.heap.size + 1, 0, none⟩), .pointer (some ⟨wo.heap.size + 1 + 1, 0, none⟩)])) (wo.heap.size + 1 + 1) 101 (.func (.func 89) #[] #[.pointer (some ⟨wo.heap.size + 1, 0, none⟩), .pointer (some ⟨w2.heap.size + 1, 0, none⟩), .pointer (some ⟨wo.heap.size + 1 + 1, 0, none⟩)]) := bN.set _
      have gC := grownBy_setCell' W1 (wo.heap.size + 1 + 1) (.func (.func 89) #[] #[.pointer (some ⟨wo.heap.size + 1, 0, none⟩), .pointer (some ⟨w2.heap.size + 1, 0, none⟩), .pointer (some ⟨wo.heap.size + 1 + 1, 0, none⟩)])
      obtain ⟨W0, hW0⟩ : ∃ W0, W1.setCell ⟨wo.heap.size + 1 + 1, 0, none⟩ (.func (.func 89) #[] #[.pointer (some ⟨wo.heap.size + 1, 0, none⟩), .pointer (some ⟨w2.heap.size + 1, 0, none⟩), .pointer (some ⟨wo.heap.size + 1 + 1, 0, none⟩)]) = W0 := ⟨_, rfl⟩
      rw [hW0] at sC gC
      rw [hW0]
      clear hW0 hsf nc nf bN
      have hbl := hbx.lt
      have hz20 : w2.heap.size ≤ wo.heap.size := hbr.size
      have hkW : ∀ k, k < wo.heap.size → W0.heap[k]? = wo.heap[k]? := fun k hk1 => (gC.block k (by omega) (by intro e; injection e with e; omega)).trans (hgn.block k hk1 (by simp))
      have G := ground_of n l HOK.out (by omega) hlen wo W0 w2.heap.size wo.heap.size D hown HD.out hbx rfl hkW (bS.kept gC (by intro e; injection e with e; omega)) sC
      have DC := Lib.hid (dfs_c (nxF l) W0 _ _ _ _ _ G)
      have cn0 : W0.cell? ⟨w.heap.size, 0, none⟩ = some (.int .i64 (n : Int)) := (World.cell?_of_block (hkW _ (by show w.heap.size < _; omega))).trans ((hbr.cell (p := ⟨w.heap.size, 0, none⟩) (by exact hz2)).trans cn)
      have AT0 : At W0 wo.heap.size 128 (fun _ => 0) W0 := ⟨World.grownBy.refl _ _, fun _ => Nat.zero_le _, 0, .map [], ownS.kept gC (by intro e; injection e with e; omega), fun i hi => rfl, by have := bT (fun _ => 0) 64; omega⟩
      have HB0 : Hid (∀ W, W0.grownBy W (some wo.heap.size) → Below w.heap.size w W) := Lib.hid (fun W h => hbw.trans ((((hbr.grown hgn (by omega) (fun k e => by cases e)).grown gC (by omega) (fun k e => by injection e with e; omega)).grown h (by have := gC.size; omega) (fun k e => by injection e with e; omega)).mono (by omega)))
      have G9 := Lib.hid G.h9
      clear G hkW hbx hbl gC sC bS ownS hgn hown
      go_wp2
      go_loopw [44] (fun i wr => ∃ (k : Nat) (st : St), k ≤ n ∧ i = .int .i64 k ∧ At W0 wo.heap.size 128 st wr ∧ dfsL (dfs (nxF l) 65) st ((List.range n).drop k) = dfsL (dfs (nxF l) 65) (fun _ => 0) (List.range n)) (fun i _ => n - (intOf i).toNat)
      case atStart => exact ⟨0, _, by omega, rfl, AT0, rfl⟩
      case round =>
        obtain ⟨k2, st, hk2, rfl, hAt, hL⟩ := hrel
        have hgk := hAt.1
        have ATK := Lib.hid hAt
        have HL := Lib.hid hL
        have c9 := hgk.cell G9.out (by intro e; injection e with e; exact absurd e (by show wo.heap.size + 1 + 1 ≠ wo.heap.size; omega))
        clear hAt hL
        by_cases hlt2 : k2 < n
        · have ctr := Lib.hid (DC.out 65 st k2 wr 128 (by omega) (by have := bT st 64; omega) ATK.out (by omega))
          have HD2 : Hid (dfsL (dfs (nxF l) 65) st ((List.range n).drop k2) = if (dfs (nxF l) 65 st k2).1 = true then dfsL (dfs (nxF l) 65) (dfs (nxF l) 65 st k2).2 ((List.range n).drop (k2 + 1)) else (false, (dfs (nxF l) 65 st k2).2)) := Lib.hid (by
            rw [kK _ _ _ (by simpa using hlt2)]; simp [List.getD, hlt2])
          obtain ⟨⟨r, stn⟩, hr⟩ : ∃ r, dfs (nxF l) 65 st k2 = r := ⟨_, rfl⟩
          rw [hr] at ctr HD2
          clear hr
          cases r with
          | true =>
            go_wp2_with (go_at_call 89; refine ctr.out.mono ?_; rintro o w9 ⟨rfl, hAt2, hw9⟩)
            go_roundw
            case rel => first | exact ⟨k2 + 1, stn, by omega, by go_num, hAt2, by rw [← HL.out, HD2.out]; rfl⟩ | ((repeat apply Exists.intro); exact ⟨⟨k2 + 1, stn, by omega, by go_num, hAt2, by rw [← HL.out, HD2.out]; rfl⟩, rfl⟩)
            case measure => simp [intOf]; omega
          | false =>
            have FD : Hid (res = false) := Lib.hid (by rw [← RES.out]; unfold acyB; rw [← HL.out, HD2.out]; rfl)
            go_wp2_with (go_at_call 89; refine ctr.out.mono ?_; rintro o w9 ⟨rfl, hAt2, hw9⟩)
            go_ret
            exact ⟨uQ FD.out.symm, HB0.out _ hAt2.1⟩
        · have hke2 : k2 = n := by omega
          have FD : Hid (res = true) := Lib.hid (by rw [← RES.out]; unfold acyB; rw [← HL.out, hke2, List.drop_of_length_le (by simp)]; rfl)
          go_wp2
          go_ret
          exact ⟨uQ FD.out.symm, HB0.out _ ATK.out.1⟩
def acyI (n : Int) (l : List (Int × Int)) : Bool := !badB n l && acyB n.toNat l
theorem acyclic_c (n : Int) (s : Sl) (l : List (Int × Int)) (w : World) (hl : PairsZ w.heap.size w s l) (hlen : l.length ≤ 4096) :
  Calls Tryz.prog 59 #[.int .i64 n, .slice s.a s.n s.c] w fun e w' => e = .returned (.bool (acyI n l)) ∧ Below w.heap.size w w' := by
 unfold acyI
 cases hb : badB n l with
 | true => exact acyclic_bad_c n s l w hl hb
 | false =>
  have hb2 := hb
  unfold badB at hb2
  simp only [Bool.or_eq_false_iff, decide_eq_false_iff_not] at hb2
  obtain ⟨⟨h1, h2⟩, h3⟩ := hb2
  obtain ⟨m, rfl⟩ : ∃ m : Nat, n = m := ⟨n.toNat, by omega⟩
  exact acyclic_good_c m s l w hl (by omega) h3 hlen
open Go.RowKit Go.ChangeShapes Go.WideShapes Go.Deep
theorem pairs_back {M : Mem} {w : World} (hm : ∀ b o v, M b o = some v → w.cell? ⟨b, o, none⟩ = some v) {l : List (Int × Int)} {v : Value} (h : Rep M (pairsTV l) v) (hl : l.length ≤ 1152921504606846976) : ∃ s : Sl, v = .slice s.a s.n s.c ∧ PairsZ w.heap.size w s l := by
 unfold pairsTV at h
 rw [Rep] at h
 obtain ⟨a, c, h1, h2, h3⟩ := h
 rw [List.length_map] at h1
 refine ⟨⟨a, l.length, c⟩, h1, rfl, hl, ?_⟩
 rcases h3 with h3 | ⟨b, off, h4, h5⟩
 ·exact Or.inl (List.map_eq_nil_iff.1 h3)
 ·have get : ∀ k, k < l.length → w.cell? ⟨b, off + k * 2, none⟩ = some (.int .i64 (l.getD k (0, 0)).1) ∧ w.cell? ⟨b, off + k * 2 + 1, none⟩ = some (.int .i64 (l.getD k (0, 0)).2) := fun k hk => by
   obtain ⟨_, g2⟩ := h5.get (uY (f := pairTV) hk (0, 0))
   obtain ⟨u, g3, g4⟩ := g2.get (o := 0) rfl
   obtain ⟨u', g5, g6⟩ := g2.get (o := 1) rfl
   rw [Rep] at g4 g6
   rw [g4.1] at g3
   rw [g6.1] at g5
   exact ⟨hm _ _ _ g3, hm _ _ _ g5⟩
  by_cases hz : l = []
  ·exact Or.inl hz
  ·exact Or.inr ⟨b, off, h4, (cE (get 0 (List.length_pos_iff.2 hz)).1).2, get⟩
theorem kQ (n : Int) (l : List (Int × Int)) (hl : l.length ≤ 4096) : Pure E.P 59 [.int .i64 n, .d (pairsTV l)] (.bool (acyI n l)) := by
 refine pQ ⟨_, Tryz.func59, by decide, rfl⟩ rfl fun G w vs hr hm => ?_
 rw [RepOL] at hr
 obtain ⟨v, us, rfl, r0, hr⟩ := hr
 rw [RepOL] at hr
 obtain ⟨v1, us1, rfl, r1, hr⟩ := hr
 rw [RepOL] at hr
 subst hr
 have e0 := vO r0
 subst e0
 rw [RepO] at r1
 obtain ⟨s, rfl, hs⟩ := pairs_back hm r1 (by omega)
 exact acyclic_c n s l w hs hl
end Go.Proofs.YtnkocjkkefnelaaGreat
