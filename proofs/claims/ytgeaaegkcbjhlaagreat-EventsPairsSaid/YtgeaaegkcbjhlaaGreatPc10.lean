/- Acyclic: has a graph no circle? -/
import Derived.WalkArith
import Derived.Maps.AppendAt
import Derived.Deep.RegionHeld3
import Derived.Deep.AppendLies
import Derived.RangeFuncBox
import Derived.Maps.GroupsBeside
import Derived.Test.YtgeaaegkcbjhlaaGreatPc3
import Derived.Test.YtgeaaegkcbjhlaaGreatPc8
import Derived.Test.YtgeaaegkcbjhlaaGreatPc9
namespace Go.Proofs.YtgeaaegkcbjhlaaGreat
open Go.RowKit Go.Maps Go.ChangeMaps
open Go.ChangeShapes (lits)
def itemsD : DataW Unit → List (DataW Unit)
  | .slice es _ => es
  | _ => []
/-- where the first k arrows lead from a place -/
def nxTo (l : List (Int × Int)) (k : Nat) (a : Int) : List Int := ((l.take k).filter (fun p => p.1 == a)).map (·.2)
theorem nxTo_succ (l : List (Int × Int)) {k : Nat} (hk : k < l.length) (a : Int) : nxTo l (k + 1) a = if (l.getD k (0, 0)).1 == a then nxTo l k a ++ [(l.getD k (0, 0)).2] else nxTo l k a := by
  unfold nxTo
  rw [List.take_succ_eq_append_getElem hk, List.getD_eq_getElem?_getD, List.getElem?_eq_getElem hk, Option.getD_some, List.filter_append, List.map_append]
  simp only [List.filter_cons, List.filter_nil]
  split <;> simp
def Grp (D : DataW Unit) (l : List (Int × Int)) (k : Nat) : Prop := ∀ a : Nat, a < 64 → itemsD (D.atKey (.int .i64 (a : Int)) .nil) = lits .i64 (nxTo l k a)
theorem groups_alloc {b nn base : Nat} {D : DataW Unit} {w : World} (h : w.ownsGroups Tryz.prog 3 base 3 .i64 b nn D) (o : Obj) : (w.alloc o).ownsGroups Tryz.prog 3 base 3 .i64 b nn D :=
  h.kept (World.grownBy_alloc w o none) (by simp) (fun es clock hb x hx => by cases x.val.ownBlock <;> simp)
theorem zeroS (w : World) : (zeroValue 23).run Tryz.prog w = .ok (.slice none 0 0) w := by kernel_rfl
theorem lits_inj : ∀ (x y : List Int), lits (H := Unit) .i64 x = lits .i64 y → x = y
  | [], [], _ => rfl
  | [], b :: y, h => by simp [lits] at h
  | a :: x, [], h => by simp [lits] at h
  | a :: x, b :: y, h => by
    simp only [lits, List.map_cons, List.cons.injEq, DataW.lit.injEq, Lit.int.injEq, true_and] at h
    rw [h.1, lits_inj x y h.2]
theorem Grp.step {D : DataW Unit} {l : List (Int × Int)} {k a : Nat} {pb : Int} {z0 : List Int} {d : DataW Unit} (h : Grp D l k) (hm : IsMap D) (ha : a < 64) (hN : ∀ c : Int, nxTo l (k + 1) c = if ((a : Int) == c) = true then nxTo l k c ++ [pb] else nxTo l k c)
    (hz : itemsD (D.atKey (.int .i64 (a : Int)) .nil) = lits .i64 z0) (hd : d = .slice (lits .i64 (z0 ++ [pb])) []) : Grp (D.put (.int .i64 (a : Int)) d) l (k + 1) := by
  intro c hc
  rw [hN c]
  by_cases he : c = a
  · subst he
    rw [if_pos (by simp), atKey_put_same hm (show WideAt.IsKeyLit (Lit.int .i64 (c : Int)) from trivial), hd]
    have e : z0 = nxTo l k c := lits_inj _ _ (hz.symm.trans (h c hc))
    rw [← e]; rfl
  · rw [if_neg (by simp; omega), atKey_put_other (by intro e; injection e with _ e2; omega)]
    exact h c hc
def nxF (l : List (Int × Int)) (a : Nat) : List Nat := (nxTo l l.length (a : Int)).map Int.toNat
/-- no circle is found from the first n places on -/
def acyB (n : Nat) (l : List (Int × Int)) : Bool := (dfsL (dfs (nxF l) 65) (fun _ => 0) (List.range n)).1
theorem whites_le (st : St) : ∀ n, whites n st ≤ n
  | 0 => Nat.le_refl _
  | n + 1 => by
    have := whites_le st n
    unfold whites
    split <;> omega
theorem nxTo_in {n : Int} {l : List (Int × Int)} (h : l.any (outB n) = false) (hn : n ≤ 64) (a : Int) : ∀ z ∈ nxTo l l.length a, 0 ≤ z ∧ z < 64 := by
  intro z hz
  unfold nxTo at hz
  rw [List.take_length] at hz
  obtain ⟨p, hp, rfl⟩ := List.mem_map.1 hz
  have hp2 := (List.mem_filter.1 hp).1
  rw [List.any_eq_false] at h
  have := h p hp2
  unfold outB at this
  simp only [Bool.or_eq_true, decide_eq_true_eq, not_or] at this
  omega
theorem nxTo_len (l : List (Int × Int)) (a : Int) : (nxTo l l.length a).length ≤ l.length := by
  unfold nxTo
  rw [List.length_map, List.take_length]
  exact List.length_filter_le _ _
theorem getD_toNat (zs : List Int) (h : ∀ z ∈ zs, 0 ≤ z) (k : Nat) (hk : k < zs.length) : (((zs.map Int.toNat).getD k 0 : Nat) : Int) = zs.getD k 0 := by
  have hm := h zs[k] (List.getElem_mem hk)
  simp [List.getD, hk]
  omega
theorem ground_of (n : Int) (l : List (Int × Int)) (hok : l.any (outB n) = false) (hn : n ≤ 64) (hlen : l.length ≤ 4096) (wo W0 : World) (mt ms : Nat) (D : DataW Unit) (hown : wo.ownsGroups Tryz.prog 3 (mt + 1) 3 .i64 mt l.length D) (hD : Grp D l l.length)
    (hbx : Boxed wo (mt + 1) 55 (.map (some mt))) (hms : wo.heap.size = ms) (hk : ∀ k, k < wo.heap.size → W0.heap[k]? = wo.heap[k]?)
    (h8 : Boxed W0 (ms + 1) 56 (.map (some ms)))
    (h9 : Boxed W0 (ms + 1 + 1) 57 (.func (.func 37) #[] #[.pointer (some ⟨ms + 1, 0, none⟩), .pointer (some ⟨mt + 1, 0, none⟩), .pointer (some ⟨ms + 1 + 1, 0, none⟩)])) :
    Ground (nxF l) W0 (ms + 1) (mt + 1) (ms + 1 + 1) ms mt := by
  have hbl := hbx.lt
  have hin := nxTo_in hok hn
  refine ⟨h8.cell, ?_, h9.cell, by omega, by omega, by omega, by omega, ?_, ?_, ?_, ?_⟩
  · have : Boxed W0 (mt + 1) 55 (.map (some mt)) := (hk _ hbl).trans hbx
    exact this.cell
  · have := h8.lt; omega
  · intro a ha b hb
    unfold nxF at hb
    obtain ⟨z, hz, rfl⟩ := List.mem_map.1 hb
    have := hin _ z hz
    omega
  · intro a
    unfold nxF
    rw [List.length_map]
    have := nxTo_len l (a : Int)
    omega
  · intro a ha
    obtain ⟨v0, z0, run0, at0, oi0, zl0, _⟩ := hown.at lawI Tryz.underlying55 (zeroS _) (by unfold maxLen; omega) (keyI ha)
    obtain ⟨es, clock, hes, F, _⟩ := hown
    have ez : z0 = nxTo l l.length (a : Int) := by
      refine lits_inj _ _ (Eq.trans ?_ (hD a ha))
      rw [at0]
      rcases oi0.datum (H := Unit) with ⟨e1, e2⟩ | e1
      · rw [e1, e2]; rfl
      · rw [e1]; rfl
    have hes0 : W0.heap[mt]? = some (.map es clock) := (hk mt (by omega)).trans hes
    have look : ∀ w' : World, w'.heap[mt]? = W0.heap[mt]? → (Instr.lookup 55 (.map (some mt)) (.int .i64 (a : Int)) false).run Tryz.prog w' = .ok v0 w' := fun w' hw' =>
      look_same lawI Tryz.underlying55 zeroS hes (hw'.trans hes0) F (keyI ha) run0
    have hl0 : (nxF l a).length = z0.length := by unfold nxF; rw [List.length_map, ez]
    have hpos : ∀ z ∈ z0, 0 ≤ z := fun z hz => by rw [ez] at hz; exact (hin _ z hz).1
    rcases oi0.1.2 with ⟨rfl, hz⟩ | ⟨g, cap, cur, rfl, hbase, hgb, r1, r2, r3, r4⟩
    · have hz2 : z0 = [] := List.length_eq_zero_iff.1 hz
      exact ⟨⟨none, 0, 0⟩, look, by rw [hl0, hz2]; rfl, Or.inl (by unfold nxF; rw [← ez, hz2]; rfl)⟩
    · have hgl : g < wo.heap.size := (Array.getElem?_eq_some_iff.1 hgb).1
      refine ⟨⟨some ⟨g, 0, none⟩, z0.length, cap⟩, look, hl0.symm, Or.inr ⟨g, 0, rfl, by omega, fun k hk1 => ?_⟩⟩
      rw [hl0] at hk1
      have hc : W0.cell? ⟨g, 0 + k, none⟩ = wo.cell? ⟨g, 0 + k, none⟩ := World.cell?_of_block (hk g hgl)
      have hH := (holds_of_blockE (Value.int .i64) hgb (by simpa using r4) k (by simpa using hk1)).1
      rw [hc, hH]
      have e : nxF l a = z0.map Int.toNat := by unfold nxF; rw [← ez]
      rw [e, getD_toNat z0 hpos k hk1]
      simp [List.getD, hk1]
/-- arrows that lead out, or places that are too many -/
def badB (n : Int) (l : List (Int × Int)) : Bool := decide (n < 0) || decide (64 < n) || l.any (outB n)
set_option maxRecDepth 100000 in
set_option maxHeartbeats 2000000 in
theorem acyclic_bad_c (n : Int) (s : Sl) (l : List (Int × Int)) (w : World) (hl : PairsZ w.heap.size w s l) (hbad : badB n l = true) :
    Calls Tryz.prog 14 #[.int .i64 n, .slice s.a s.n s.c] w fun e w' => e = .returned (.bool false) ∧ Below w.heap.size w w' := by
  have hl1 : PairsZ (w.alloc (.cells #[.int .i64 n] 3)).heap.size (w.alloc (.cells #[.int .i64 n] 3)) s l := (hl.below ((Below.refl _ _).alloc (Nat.le_refl _) _)).mono (by simp)
  have ctr := Lib.hid (contains_c n w.heap.size s l _ (by simp) (by simp) hl1)
  have hb0 : Below w.heap.size w (w.alloc (.cells #[.int .i64 n] 3)) := (Below.refl _ _).alloc (Nat.le_refl _) _
  clear hl hl1
  cases h1 : decide (n < 0) with
  | true =>
    go_enter Tryz.func14, Tryz.ntmps14
    go_wp2
    go_ret
    exact ⟨rfl, hb0⟩
  | false =>
  cases h2 : decide (64 < n) with
  | true =>
    go_enter Tryz.func14, Tryz.ntmps14
    go_wp2
    go_ret
    exact ⟨rfl, hb0⟩
  | false =>
    have h3 : l.any (outB n) = true := by unfold badB at hbad; rw [h1, h2] at hbad; exact hbad
    rw [h3] at ctr
    clear hbad h3
    go_enter Tryz.func14, Tryz.ntmps14
    go_wp2_with (go_at_call 35; refine ctr.out.mono ?_; rintro o w2 ⟨rfl, hb2⟩)
    go_ret
    exact ⟨rfl, hb0.trans (hb2.mono (by simp))⟩
set_option maxRecDepth 100000 in
set_option maxHeartbeats 4000000 in
theorem acyclic_good_c (n : Nat) (s : Sl) (l : List (Int × Int)) (w : World) (hl : PairsZ w.heap.size w s l) (hn : n ≤ 64) (hok : l.any (outB n) = false) (hlen : l.length ≤ 4096) :
    Calls Tryz.prog 14 #[.int .i64 (n : Int), .slice s.a s.n s.c] w fun e w' => e = .returned (.bool (acyB n l)) ∧ Below w.heap.size w w' := by
  obtain ⟨res, hres⟩ : ∃ z : Bool, acyB n l = z := ⟨_, rfl⟩
  rw [hres]
  have RES := Lib.hid hres
  clear hres
  have hl1 : PairsZ (w.alloc (.cells #[.int .i64 (n : Int)] 3)).heap.size (w.alloc (.cells #[.int .i64 (n : Int)] 3)) s l := (hl.below ((Below.refl _ _).alloc (Nat.le_refl _) _)).mono (by simp)
  have ctr := Lib.hid (contains_c n w.heap.size s l _ (by simp) (by simp) hl1)
  have hb0 : Below w.heap.size w (w.alloc (.cells #[.int .i64 (n : Int)] 3)) := (Below.refl _ _).alloc (Nat.le_refl _) _
  rw [hok] at ctr
  obtain ⟨sa, sn, sc⟩ := s
  obtain ⟨hsn, hls, hrow⟩ := hl
  dsimp only at hsn hrow
  subst hsn
  have HROW := Lib.hid hrow
  have HOK := Lib.hid hok
  clear hl1 hrow hok
  have hmm := @run_makeMap Tryz.prog
  obtain ⟨i0, hi, jz0, jz1, jz2⟩ := info_parts info_i
  have h1 : decide ((n : Int) < 0) = false := decide_eq_false (by omega)
  have h2 : decide ((64 : Int) < (n : Int)) = false := decide_eq_false (by omega)
  have h3 : decide (64 < n) = false := decide_eq_false (by omega)
  go_enter Tryz.func14, Tryz.ntmps14
  go_upto_region 3 with (go_at_call 35; refine ctr.out.mono ?_; rintro o w2 ⟨rfl, hb2⟩)
  have hbw : Below w.heap.size w w2 := hb0.trans (hb2.mono (by simp))
  have cn : w2.cell? ⟨w.heap.size, 0, none⟩ = some (.int .i64 (n : Int)) := (hb2.cell (p := ⟨w.heap.size, 0, none⟩) (by simp)).trans (by simp)
  have hz2 : w.heap.size < w2.heap.size := by have := hb2.size; simp at this; omega
  clear hb0 hb2 ctr h1 h2 h3
  go_wp2
  go_loopw [25] (fun i wr => ∃ (k : Nat) (D : DataW Unit), k ≤ l.length ∧ i = .int .i64 k ∧ wr.ownsGroups Tryz.prog 3 (w2.heap.size + 1) 3 .i64 w2.heap.size k D ∧ Grp D l k ∧ Boxed wr (w2.heap.size + 1) 55 (.map (some w2.heap.size)) ∧ Below w2.heap.size w2 wr) (fun i _ => l.length - (intOf i).toNat)
  case atStart =>
    refine ⟨0, .map [], by omega, rfl, groups_alloc (World.ownsGroups_made w2 _ _ _ _) _, fun a ha => rfl, ?_, ((Below.refl _ _).alloc (Nat.le_refl _) _).alloc (by simp) _⟩
    have := Boxed.new (w2.alloc (.map #[] 0)) 55 (.map (some w2.heap.size))
    rwa [World.size_alloc] at this
  case round =>
    obtain ⟨k, D, hk, rfl, hown, hD, hbx, hbr⟩ := hrel
    rename World => wo
    have HD := Lib.hid hD
    clear hD hmm
    by_cases hlt : k < l.length
    · obtain ⟨b, off, rfl, hbB, hcl⟩ := HROW.out.resolve_left (by intro h; rw [h] at hlt; simp at hlt)
      obtain ⟨⟨pa, pb⟩, hp⟩ : ∃ p, l.getD k (0, 0) = p := ⟨_, rfl⟩
      have cc := hcl k hlt
      rw [hp] at cc
      dsimp only at cc
      have hbw2 := hbw.trans (hbr.mono (by omega))
      have q0 : wo.cell? ⟨b, off + k * 2, none⟩ = some (.int .i64 pa) := by rw [hbw2.cell (p := ⟨b, off + k * 2, none⟩) hbB]; exact cc.1
      have q1 : wo.cell? ⟨b, off + k * 2 + 1, none⟩ = some (.int .i64 pb) := by rw [hbw2.cell (p := ⟨b, off + k * 2 + 1, none⟩) hbB]; exact cc.2
      have hin : 0 ≤ pa ∧ pa < 64 ∧ 0 ≤ pb ∧ pb < 64 := by
        have hx : outB n (pa, pb) = false := by
          have := HOK.out
          rw [List.any_eq_false] at this
          have h2 := this (pa, pb) (by rw [← hp, List.getD_eq_getElem?_getD, List.getElem?_eq_getElem hlt]; exact List.getElem_mem hlt)
          simpa using h2
        unfold outB at hx
        simp only [Bool.or_eq_false_iff, decide_eq_false_iff_not] at hx
        omega
      obtain ⟨a, rfl⟩ : ∃ a : Nat, pa = a := ⟨pa.toNat, by omega⟩
      have HN := Lib.hid (nxTo_succ l hlt)
      rw [hp] at HN
      clear hcl cc hp
      obtain ⟨v0, z0, run0, at0, oi0, zl0, back0⟩ := hown.at lawI Tryz.underlying55 (zeroS _) (by unfold maxLen; omega) (keyI (show a < 64 by omega))
      obtain ⟨es, clock, hes, F, _, hDm, _⟩ := hown
      have ISM : Hid (IsMap D) := Lib.hid ⟨_, hDm⟩
      have AT0 := Lib.hid at0
      clear hDm at0
      have hmlt : w2.heap.size < wo.heap.size := (Array.getElem?_eq_some_iff.1 hes).1
      have nbox : some (w2.heap.size + 1) ≠ v0.ownBlock := hbx.not_row (by decide) oi0.1
      have npair : some wo.heap.size ≠ v0.ownBlock := fun e => by have := (oi0.1.lt _ e.symm).2; omega
      have wfb : (Lit.int .i64 pb).wf = true := by
        obtain ⟨pn, rfl⟩ : ∃ pn : Nat, pb = pn := ⟨pb.toNat, by omega⟩
        simp only [Lit.wf, Bool.and_eq_true, decide_eq_true_eq]
        have e1 : IntKind.i64.min = -9223372036854775808 := by decide
        have e2 : IntKind.i64.max = 9223372036854775807 := by decide
        omega
      go_upto_region 7 with (fail)
      refine alloc_opaque (X := fun W => Code.wp _ _ _ _ W) ?_
      intro w3 hb3 hs3 hcs3
      have t0 : w3.cell? ⟨wo.heap.size, 0, none⟩ = some (.int .i64 (a : Int)) := hcs3 0 _ rfl
      have t1 : w3.cell? ⟨wo.heap.size, 1, none⟩ = some (.int .i64 pb) := hcs3 1 _ rfl
      have tb : w3.cell? ⟨w2.heap.size + 1, 0, none⟩ = some (.map (some w2.heap.size)) := (hb3.cell (p := ⟨w2.heap.size + 1, 0, none⟩) hbx.lt).trans hbx.cell
      have hg3 : wo.grownBy w3 none := ⟨hb3.os, hb3.tape, hb3.output, hb3.size, fun k hk _ => hb3.block k hk⟩
      have hes3 : w3.drew.heap[w2.heap.size]? = some (.map es clock) := (hb3.block _ hmlt).trans hes
      have runA := look_same lawI Tryz.underlying55 zeroS hes hes3 F (keyI (show a < 64 by omega)) run0
      have runB := look_same (w' := (w3.alloc (.cells #[.int .i64 pb] 3)).drew) lawI Tryz.underlying55 zeroS hes ((Below.heap_alloc _ _ _ (by show w2.heap.size < w3.heap.size; omega)).trans hes3) F (keyI (show a < 64 by omega)) run0
      have row3 : w3.drew.ownsRow (w2.heap.size + 1) 3 1 v0 z0.length (z0.map (Value.int .i64)) := ownsRow_below oi0.1 hb3.drew (Nat.le_refl _)
      have hz3 : w2.heap.size + 1 ≤ w3.heap.size := by omega
      have hg3d : wo.grownBy w3.drew v0.ownBlock := ⟨hb3.drew.os, hb3.drew.tape, hb3.drew.output, hb3.drew.size, fun k hk _ => hb3.drew.block k hk⟩
      have nmap : some wo.heap.size ≠ some w2.heap.size := by intro e; injection e with e; omega
      clear hcs3 F hes hes3 run0
      go_region_held3 (fun w' => w'.cell? ⟨w2.heap.size + 1, 0, none⟩ = some (.map (some w2.heap.size)) ∧ w'.cell? ⟨wo.heap.size, 0, none⟩ = some (.int .i64 (a : Int)) ∧ w'.cell? ⟨wo.heap.size, 1, none⟩ = some (.int .i64 pb))
        (first
          | go_keep
          | (go_split_ands
             refine ⟨?_, ?_, ?_⟩
             · exact hgrow5.cell (by assumption) nbox
             · exact hgrow5.cell (by assumption) npair
             · exact hgrow5.cell (by assumption) npair)
          | (go_split_ands
             refine ⟨?_, ?_, ?_⟩
             · exact hgrow6.cell (by assumption) (by simp)
             · exact hgrow6.cell (by assumption) nmap
             · exact hgrow6.cell (by assumption) nmap))
        ((refine step_append_lies _ (by rfl) _ _ _ (by rfl) (w2.heap.size + 1) 3 i0 (.int .i64 0) 1 8 Tryz.underlying23 hi jz0 jz1 jz2 rfl (by omega) v0 z0.length (z0.map (Value.int .i64)) (by rfl) (row3.alloc _)
            ⟨w3.heap.size, 0, none⟩ 1 1 [.int .i64 pb] (by rfl) (by rfl) (World.news_of_block (cs := #[.int .i64 pb]) (t := 3) (fr := (0, 0)) (heap_alloc_new w3.drew _)) (by simp [Value.oneCell'])
            (by omega) (by unfold maxLen; omega) (by omega) (by simp; omega) (w3.heap.size + 1) (by simp) ?_; intro gg cap w5 hown5 hgrow5 hat5 hlt5
          obtain ⟨w6, run6, hown6, hgrow6⟩ := back0 w5 (.slice (some ⟨gg, 0, none⟩) (z0.length + 1) cap) (z0 ++ [pb]) (hg3d.trans ((World.grownBy_alloc _ _ _).trans hgrow5)) (oi0.appended hown5 wfb) (by simp; omega) (hat5.imp (fun h => h.symm) (fun h => ⟨gg, rfl, by omega⟩))))
      all_goals
        go_wp2
        go_roundw
        case rel =>
          have hgrp : Grp (D.put (.int .i64 (a : Int)) (rowDatum .i64 (.slice (some ⟨gg, 0, none⟩) (z0.length + 1) cap) (z0 ++ [pb]))) l (k + 1) := HD.out.step ISM.out (by omega) HN.out (by
            rw [AT0.out]
            rcases oi0.datum (H := Unit) with ⟨e1, e2⟩ | e1
            · rw [e1, e2]; rfl
            · rw [e1]; rfl) ((oi0.appended hown5 wfb).datum_pos (by simp))
          have hbx6 : Boxed w6 (w2.heap.size + 1) 55 (.map (some w2.heap.size)) := (((hbx.kept hg3d nbox).alloc _).kept hgrow5 nbox).kept hgrow6 (by simp)
          have hbr6 : Below w2.heap.size w2 w6 := hbr.groups oi0 (hg3d.trans ((World.grownBy_alloc _ _ _).trans hgrow5)) hgrow6 hbr.size (by omega) (Nat.le_refl _)
          first | exact ⟨k + 1, _, by omega, by go_num, hown6, hgrp, hbx6, hbr6⟩ | ((repeat apply Exists.intro); exact ⟨⟨k + 1, _, by omega, by go_num, hown6, hgrp, hbx6, hbr6⟩, rfl⟩)
        case measure => simp [intOf]; omega
    · have hke : k = l.length := by omega
      subst hke
      have hmm := @run_makeMap Tryz.prog
      have bN := Boxed.new ((wo.alloc (.map #[] 0)).alloc (.cells #[.map (some wo.heap.size)] 56)) 57 .nilFunc
      rw [World.size_alloc, World.size_alloc] at bN
      have nc := bN.cell
      have nf := bN.frozen
      have bS := (Boxed.new (wo.alloc (.map #[] 0)) 56 (.map (some wo.heap.size))).alloc (.cells #[.nilFunc] 57)
      rw [World.size_alloc] at bS
      have hgn : wo.grownBy (((wo.alloc (.map #[] 0)).alloc (.cells #[.map (some wo.heap.size)] 56)).alloc (.cells #[.nilFunc] 57)) none := ((World.grownBy_alloc _ _ _).trans (World.grownBy_alloc _ _ _)).trans (World.grownBy_alloc _ _ _)
      have ownS : (((wo.alloc (.map #[] 0)).alloc (.cells #[.map (some wo.heap.size)] 56)).alloc (.cells #[.nilFunc] 57)).ownsMap Tryz.prog 3 (plainElem Tryz.prog 3) wo.heap.size 0 (.map [] : DataW Unit) := ((World.ownsMap_made wo _ _ _).alloc _).alloc _
      have szW : (((wo.alloc (.map #[] 0)).alloc (.cells #[.map (some wo.heap.size)] 56)).alloc (.cells #[.nilFunc] 57)).heap.size = wo.heap.size + 3 := by simp
      go_upto_region 11 with (fail)
      obtain ⟨W1, hW1⟩ : ∃ W1, (((wo.alloc (.map #[] 0)).alloc (.cells #[.map (some wo.heap.size)] 56)).alloc (.cells #[.nilFunc] 57)) = W1 := ⟨_, rfl⟩
      rw [hW1] at bN nc nf bS hgn ownS szW
      rw [hW1]
      clear hW1 hmm
      have hsf := fun (a : Addr) (c : Array Value) (w : World) => run_store Tryz.prog w a (.func (.func 37) #[] c) .plain rfl
      go_upto_region 12 with (fail)
      have sC : Boxed (W1.setCell ⟨wo.heap.size + 1 + 1, 0, none⟩ (.func (.func 37) #[] #[.pointer (some ⟨wo.heap.size + 1, 0, none⟩), .pointer (some ⟨w2.heap.size + 1, 0, none⟩), .pointer (some ⟨wo.heap.size + 1 + 1, 0, none⟩)])) (wo.heap.size + 1 + 1) 57 (.func (.func 37) #[] #[.pointer (some ⟨wo.heap.size + 1, 0, none⟩), .pointer (some ⟨w2.heap.size + 1, 0, none⟩), .pointer (some ⟨wo.heap.size + 1 + 1, 0, none⟩)]) := bN.set _
      have gC := grownBy_setCell' W1 (wo.heap.size + 1 + 1) (.func (.func 37) #[] #[.pointer (some ⟨wo.heap.size + 1, 0, none⟩), .pointer (some ⟨w2.heap.size + 1, 0, none⟩), .pointer (some ⟨wo.heap.size + 1 + 1, 0, none⟩)])
      obtain ⟨W0, hW0⟩ : ∃ W0, W1.setCell ⟨wo.heap.size + 1 + 1, 0, none⟩ (.func (.func 37) #[] #[.pointer (some ⟨wo.heap.size + 1, 0, none⟩), .pointer (some ⟨w2.heap.size + 1, 0, none⟩), .pointer (some ⟨wo.heap.size + 1 + 1, 0, none⟩)]) = W0 := ⟨_, rfl⟩
      rw [hW0] at sC gC
      rw [hW0]
      clear hW0 hsf nc nf bN
      have hbl := hbx.lt
      have hz20 : w2.heap.size ≤ wo.heap.size := hbr.size
      have hkW : ∀ k, k < wo.heap.size → W0.heap[k]? = wo.heap[k]? := fun k hk1 => (gC.block k (by omega) (by intro e; injection e with e; omega)).trans (hgn.block k hk1 (by simp))
      have G := ground_of n l HOK.out (by omega) hlen wo W0 w2.heap.size wo.heap.size D hown HD.out hbx rfl hkW (bS.kept gC (by intro e; injection e with e; omega)) sC
      have DC := Lib.hid (dfs_c (nxF l) W0 _ _ _ _ _ G)
      have cn0 : W0.cell? ⟨w.heap.size, 0, none⟩ = some (.int .i64 (n : Int)) := (World.cell?_of_block (hkW _ (by show w.heap.size < _; omega))).trans ((hbr.cell (p := ⟨w.heap.size, 0, none⟩) (by exact hz2)).trans cn)
      have AT0 : At W0 wo.heap.size 128 (fun _ => 0) W0 := ⟨World.grownBy.refl _ _, fun _ => Nat.zero_le _, 0, .map [], ownS.kept gC (by intro e; injection e with e; omega), fun i hi => rfl, by have := whites_le (fun _ => 0) 64; omega⟩
      have HB0 : Hid (∀ W, W0.grownBy W (some wo.heap.size) → Below w.heap.size w W) := Lib.hid (fun W h => hbw.trans ((((hbr.grown hgn (by omega) (fun k e => by cases e)).grown gC (by omega) (fun k e => by injection e with e; omega)).grown h (by have := gC.size; omega) (fun k e => by injection e with e; omega)).mono (by omega)))
      have G9 := Lib.hid G.h9
      clear G hkW hbx hbl gC sC bS ownS hgn hown
      go_wp2
      go_loopw [44] (fun i wr => ∃ (k : Nat) (st : St), k ≤ n ∧ i = .int .i64 k ∧ At W0 wo.heap.size 128 st wr ∧ dfsL (dfs (nxF l) 65) st ((List.range n).drop k) = dfsL (dfs (nxF l) 65) (fun _ => 0) (List.range n)) (fun i _ => n - (intOf i).toNat)
      case atStart => exact ⟨0, _, by omega, rfl, AT0, rfl⟩
      case round =>
        obtain ⟨k2, st, hk2, rfl, hAt, hL⟩ := hrel
        have hgk := hAt.1
        have ATK := Lib.hid hAt
        have HL := Lib.hid hL
        have c9 := hgk.cell G9.out (by intro e; injection e with e; exact absurd e (by show wo.heap.size + 1 + 1 ≠ wo.heap.size; omega))
        clear hAt hL
        by_cases hlt2 : k2 < n
        · have ctr := Lib.hid (DC.out 65 st k2 wr 128 (by omega) (by have := whites_le st 64; omega) ATK.out (by omega))
          have HD2 : Hid (dfsL (dfs (nxF l) 65) st ((List.range n).drop k2) = if (dfs (nxF l) 65 st k2).1 = true then dfsL (dfs (nxF l) 65) (dfs (nxF l) 65 st k2).2 ((List.range n).drop (k2 + 1)) else (false, (dfs (nxF l) 65 st k2).2)) := Lib.hid (by
            rw [dfsL_drop _ _ _ (by simpa using hlt2)]; simp [List.getD, hlt2])
          obtain ⟨⟨r, stn⟩, hr⟩ : ∃ r, dfs (nxF l) 65 st k2 = r := ⟨_, rfl⟩
          rw [hr] at ctr HD2
          clear hr
          cases r with
          | true =>
            go_wp2_with (go_at_call 37; refine ctr.out.mono ?_; rintro o w9 ⟨rfl, hAt2, hw9⟩)
            go_roundw
            case rel => first | exact ⟨k2 + 1, stn, by omega, by go_num, hAt2, by rw [← HL.out, HD2.out]; rfl⟩ | ((repeat apply Exists.intro); exact ⟨⟨k2 + 1, stn, by omega, by go_num, hAt2, by rw [← HL.out, HD2.out]; rfl⟩, rfl⟩)
            case measure => simp [intOf]; omega
          | false =>
            have FD : Hid (res = false) := Lib.hid (by rw [← RES.out]; unfold acyB; rw [← HL.out, HD2.out]; rfl)
            go_wp2_with (go_at_call 37; refine ctr.out.mono ?_; rintro o w9 ⟨rfl, hAt2, hw9⟩)
            go_ret
            exact ⟨ret_bool FD.out.symm, HB0.out _ hAt2.1⟩
        · have hke2 : k2 = n := by omega
          have FD : Hid (res = true) := Lib.hid (by rw [← RES.out]; unfold acyB; rw [← HL.out, hke2, List.drop_of_length_le (by simp)]; rfl)
          go_wp2
          go_ret
          exact ⟨ret_bool FD.out.symm, HB0.out _ ATK.out.1⟩
/-- what Acyclic answers -/
def acyI (n : Int) (l : List (Int × Int)) : Bool := !badB n l && acyB n.toNat l
theorem acyclic_c (n : Int) (s : Sl) (l : List (Int × Int)) (w : World) (hl : PairsZ w.heap.size w s l) (hlen : l.length ≤ 4096) :
    Calls Tryz.prog 14 #[.int .i64 n, .slice s.a s.n s.c] w fun e w' => e = .returned (.bool (acyI n l)) ∧ Below w.heap.size w w' := by
  unfold acyI
  cases hb : badB n l with
  | true => exact acyclic_bad_c n s l w hl hb
  | false =>
    have hb2 := hb
    unfold badB at hb2
    simp only [Bool.or_eq_false_iff, decide_eq_false_iff_not] at hb2
    obtain ⟨⟨h1, h2⟩, h3⟩ := hb2
    obtain ⟨m, rfl⟩ : ∃ m : Nat, n = m := ⟨n.toNat, by omega⟩
    exact acyclic_good_c m s l w hl (by omega) h3 hlen
end Go.Proofs.YtgeaaegkcbjhlaaGreat
/- Pairs as plain data; Acyclic in plain data. -/
set_option linter.unusedVariables false
namespace Go.Proofs.YtgeaaegkcbjhlaaGreat
open Go.RowKit Go.ChangeShapes Go.WideShapes Go.Deep
end Go.Proofs.YtgeaaegkcbjhlaaGreat
/- Fr$1, Fr, in plain data. -/
set_option maxRecDepth 100000
set_option linter.unusedVariables false
set_option linter.unusedSimpArgs false
namespace Go.Proofs.YtgeaaegkcbjhlaaGreat
open Go.RowKit
def frB (r c : Int × Int) : Bool := c.1 == r.1 && c.2 != r.2
def fr1 (r : Int × Int) (co : List (Int × Int)) : List (Int × Int) := (co.filter (frB r)).map fun c => (r.2, c.2)
def frTo (rf co : List (Int × Int)) (i : Nat) : List (Int × Int) := (rf.take i).flatMap fun r => fr1 r co
def frAt (rf co : List (Int × Int)) (i : Nat) (r : Int × Int) (j : Nat) : List (Int × Int) := frTo rf co i ++ fr1 r (co.take j)
def frZ (rf co : List (Int × Int)) : List (Int × Int) := frTo rf co rf.length
theorem frAt_zero (rf co : List (Int × Int)) (i : Nat) (r : Int × Int) : frAt rf co i r 0 = frTo rf co i := by simp [frAt, fr1]
theorem frTo_succ (rf co : List (Int × Int)) (i : Nat) (h : i < rf.length) : frTo rf co (i + 1) = frTo rf co i ++ fr1 (rf.getD i default) co := by
  unfold frTo
  rw [take_get' rf default i h, List.flatMap_append]
  simp
theorem frAt_end (rf co : List (Int × Int)) (i : Nat) (h : i < rf.length) : frAt rf co i (rf.getD i default) co.length = frTo rf co (i + 1) := by
  rw [frTo_succ rf co i h, frAt, List.take_length]
theorem frAt_yes (rf co : List (Int × Int)) (i : Nat) (r : Int × Int) (j : Nat) (h : j < co.length) (hb : frB r (co.getD j default) = true) : frAt rf co i r (j + 1) = frAt rf co i r j ++ [(r.2, (co.getD j default).2)] := by
  unfold frAt fr1
  rw [take_get' co default j h, List.filter_append, List.filter_cons, if_pos hb, List.filter_nil, List.map_append, List.append_assoc]
  rfl
theorem frAt_no (rf co : List (Int × Int)) (i : Nat) (r : Int × Int) (j : Nat) (h : j < co.length) (hb : ¬ frB r (co.getD j default) = true) : frAt rf co i r (j + 1) = frAt rf co i r j := by
  unfold frAt fr1
  rw [take_get' co default j h, List.filter_append, List.filter_cons, if_neg hb, List.filter_nil, List.append_nil]
theorem frTo_pre (rf co : List (Int × Int)) : ∀ {a b : Nat}, a ≤ b → b ≤ rf.length → ∃ q, frTo rf co b = frTo rf co a ++ q := fun {a b} h hb => by
  induction b with
  | zero => have : a = 0 := by omega
            subst this; exact ⟨[], by simp⟩
  | succ b ih =>
    by_cases e : a = b + 1
    · subst e; exact ⟨[], by simp⟩
    · obtain ⟨r, hr⟩ := ih (by omega) (by omega)
      exact ⟨_, by rw [frTo_succ rf co b (by omega), hr, List.append_assoc]⟩
theorem fr1_pre (r : Int × Int) (co : List (Int × Int)) (j : Nat) : ∃ q, fr1 r co = fr1 r (co.take j) ++ q := by
  unfold fr1
  exact ⟨((co.drop j).filter (frB r)).map (fun c => (r.2, c.2)), by rw [← List.map_append, ← List.filter_append, List.take_append_drop]⟩
theorem frAt_in (rf co : List (Int × Int)) (i j : Nat) (hi : i < rf.length) (h : j < co.length) (hb : frB (rf.getD i default) (co.getD j default) = true) :
    ∃ q, frZ rf co = frAt rf co i (rf.getD i default) j ++ [((rf.getD i default).2, (co.getD j default).2)] ++ q := by
  obtain ⟨q1, h1⟩ := frTo_pre rf co (show i + 1 ≤ rf.length from hi) (Nat.le_refl _)
  obtain ⟨q2, h2⟩ := fr1_pre (rf.getD i default) co (j + 1)
  rw [← frAt_yes rf co i _ j h hb]
  unfold frZ
  rw [h1, frTo_succ rf co i hi, h2]
  unfold frAt
  exact ⟨q2 ++ q1, by simp only [List.append_assoc]⟩
set_option maxHeartbeats 4000000 in
theorem fr1_s (x : Ex) (hx : x.fit) (co : List (Int × Int)) (hco : co.length ≤ 1048576) : SeqW E.P 19 [] [.d (.pt (exRow x) 0), .d (.pt [pairsTV co] 0)] (pairYs (frZ (rfF x) co)) := by
  intro Y k τ J m st hm h1 h2 hnd hbig hy l0 hl0
  have hlen : (pairYs (frZ (rfF x) co)).length = (frZ (rfF x) co).length := by simp [pairYs]
  rw [hlen] at hm h1
  have hrl : (rfF x).length ≤ 1048576 := by
    unfold rfF
    split
    · rename_i hc
      obtain ⟨h1, _, h3, _⟩ := check_zero hc
      have := from_len h3
      have := rfZ_len x.from_ x.from_.length
      rw [sortZ_length]; omega
    · simp
  have hrf := rf_s x hx
  generalize rfF x = rf at hm h1 hy hrl hlen hrf
  have hfz := pair_fz
  have f9 : Frozen 9 := ⟨trivial⟩
  refine fny_of_awp Tryz.func19 (by decide) rfl Tryz.ntmps19 (Nat.le_of_ble_eq_true rfl) rfl ?_
  refine awp_seq ?_
  (refine ao_region ?_ (fun _ => ?_); exact rfl)
  refine q33 ?_
  ((first | (apply S_ownF; assumption; exact rfl; exact .fn _ _ _; exact rfl; exact hrf; exact hfz _; exact rfl)))
  refine q13 ?_; refine q11 ?_; refine ao_nil ?_; refine then_n ?_; refine awp_block ?_
  rotate_left
  refine awp_loop (X := Nat × Rows) (fun p => tmL [(0, .yl k τ), (2, .d (.pt [pairsTV co] 0)), (9, .d (pairsTV rf)), (10, .int .i64 rf.length), (11, .int .i64 p.1), (GS, .gh (frTo rf co p.1).length Y)]) (fun p => stL p.2)
    (fun p => p.1 ≤ rf.length ∧ J (frTo rf co p.1).length p.2 ∧ (st = true → (frTo rf co p.1).length < m)) (fun p => rf.length - p.1) (0, l0) ⟨Nat.zero_le _, hl0, h2⟩ (by repeat' (first | exact le_nil _ | exact sle_nil _ | refine le_cons rfl ?_ | refine sle_cons rfl ?_)) (by repeat (first | exact fun _ _ h => h | refine le_app (hbig _ _ hl0) rfl ?_)) ?_
  rintro ⟨i, l⟩ ⟨hi, hJ, hst⟩
  dsimp only at hi hJ hst ⊢
  by_cases hlt : i < rf.length
  rotate_left
  · have hbe : i = rf.length := by omega
    subst hbe
    have hme : (frTo rf co rf.length).length = m := by
      cases st with
      | true => have h9 := hst rfl; have h8 : (frZ rf co).length = (frTo rf co rf.length).length := rfl; omega
      | false => exact (h1 rfl).symm
    rw [hme] at hJ ⊢
    refine awp_seq ?_
    (refine ao_region ?_ (fun _ => ?_); exact rfl)
    refine q37 ?_; refine ao_nil ?_; refine then_n ?_; refine awp_seq ?_
    (apply awp_cond; exact rfl)
    (refine im_dt (fun _ => ?_); (try (exfalso; omega)))
    (refine im_df (fun _ => ?_); (try (exfalso; omega)))
    refine awp_exit ?_
    iterate 2 refine then_x ?_
    refine blk_x ?_
    rotate_left
    exact ⟨Or.inl rfl, rfl, l, hJ, fun _ _ h => h⟩
  refine awp_seq ?_
  (refine ao_region ?_ (fun _ => ?_); exact rfl)
  refine q37 ?_; refine ao_nil ?_
  rotate_left
  refine then_n ?_; refine awp_seq ?_
  (apply awp_cond; exact rfl)
  (refine im_dt (fun _ => ?_); (try (exfalso; omega)))
  refine awp_skip ?_
  rotate_left
  (refine im_df (fun _ => ?_); (try (exfalso; omega)))
  refine then_n ?_; refine awp_seq ?_; refine awp_block ?_; refine awp_seq ?_
  (refine ao_region ?_ (fun _ => ?_); exact rfl)
  refine q17 ?_; refine q33 ?_
  (apply S_alloc; exact rfl)
  refine q15 ?_; refine ao_nil ?_
  rotate_left
  refine then_n ?_
  rename_i v5
  generalize hr : rf.getD i default = r
  have hT : rf.getD (i : Int).toNat default = r := hr
  rw [hT]
  refine awp_freeze 5 (v5, 2) 2 [pairTV r] (tmL [(0, .yl k τ), (2, .d (.pt [pairsTV co] 0)), (9, .d (pairsTV rf)), (10, .int .i64 rf.length), (11, .int .i64 i), (5, .d (.pt (pairTV r) 0)), (GS, .gh (frTo rf co i).length Y)]) (stL l) rfl (by repeat' (first | exact fz_nil | refine fz_cons rfl (.same _) ?_ | refine fz_cons rfl (.lo 0 0 _ rfl) ?_)) (fs_abs (hbig _ _ hJ) (by decide) (fun j hj => by show (Store.put (Store.put _ _ _) _ _) j = _; rw [Store.put_ne _ _ hj, Store.put_ne _ _ hj]; rfl)) ?_
  refine awp_seq ?_
  (refine ao_region ?_ (fun _ => ?_); exact rfl)
  refine q23 ?_; refine q13 ?_; refine q11 ?_; refine ao_nil ?_; refine then_n ?_; refine awp_block ?_
  rotate_left
  have hin := fun j => frAt_in rf co i j hlt
  have hnx := frAt_end rf co i hlt
  rw [hr] at hin hnx
  refine awp_loop (X := Nat × Rows) (fun p => tmL [(0, .yl k τ), (2, .d (.pt [pairsTV co] 0)), (9, .d (pairsTV rf)), (10, .int .i64 rf.length), (11, .int .i64 i), (5, .d (.pt (pairTV r) 0)), (15, .d (pairsTV co)), (16, .int .i64 co.length), (17, .int .i64 p.1), (GS, .gh (frAt rf co i r p.1).length Y)]) (fun p => stL p.2)
    (fun p => p.1 ≤ co.length ∧ J (frAt rf co i r p.1).length p.2 ∧ (st = true → (frAt rf co i r p.1).length < m)) (fun p => co.length - p.1) (0, l) ⟨Nat.zero_le _, by dsimp only; rw [frAt_zero]; exact hJ, by dsimp only; rw [frAt_zero]; exact hst⟩ (by dsimp only; rw [frAt_zero]; exact (by repeat' (first | exact le_nil _ | exact sle_nil _ | refine le_cons rfl ?_ | refine sle_cons rfl ?_))) (fun _ _ h => h) ?_
  clear hJ hst l
  rintro ⟨j, l⟩ ⟨hj, hJ, hst⟩
  dsimp only at hj hJ hst ⊢
  by_cases hlt2 : j < co.length
  rotate_left
  · have hbe : j = co.length := by omega
    subst hbe
    rw [hnx] at hJ hst ⊢
    refine awp_seq ?_
    (refine ao_region ?_ (fun _ => ?_); exact rfl)
    refine q37 ?_; refine ao_nil ?_; refine then_n ?_; refine awp_seq ?_
    (apply awp_cond; exact rfl)
    (refine im_dt (fun _ => ?_); (try (exfalso; omega)))
    (refine im_df (fun _ => ?_); (try (exfalso; omega)))
    refine awp_exit ?_
    iterate 2 refine then_x ?_
    refine blk_x ?_; refine blk_n ?_; refine then_n ?_
    (refine ao_region ?_ (fun _ => ?_); exact rfl)
    refine q36 ?_; refine q11 ?_; refine ao_nil ?_; refine then_n ?_
    rotate_left
    exact ⟨(i + 1, l), ⟨show i + 1 ≤ _ by omega, hJ, hst⟩, show rf.length - (i + 1) < rf.length - i by omega, (by repeat' (first | exact le_nil _ | exact sle_nil _ | refine le_cons rfl ?_ | refine sle_cons rfl ?_)), fun _ _ h => h⟩
  refine awp_seq ?_
  (refine ao_region ?_ (fun _ => ?_); exact rfl)
  refine q37 ?_; refine ao_nil ?_
  rotate_left
  refine then_n ?_; refine awp_seq ?_
  (apply awp_cond; exact rfl)
  (refine im_dt (fun _ => ?_); (try (exfalso; omega)))
  refine awp_skip ?_
  rotate_left
  (refine im_df (fun _ => ?_); (try (exfalso; omega)))
  refine then_n ?_; refine awp_seq ?_; refine awp_block ?_; refine awp_seq ?_
  (refine ao_region ?_ (fun _ => ?_); exact rfl)
  refine q17 ?_; refine q33 ?_
  (apply S_alloc; exact rfl)
  refine q15 ?_; refine ao_nil ?_
  rotate_left
  refine then_n ?_
  rename_i v7
  generalize hc : co.getD j default = c at hin
  have hT : co.getD (j : Int).toNat default = c := hc
  rw [hT]
  refine awp_freeze 7 (v7, 2) 2 [pairTV c] (tmL [(0, .yl k τ), (2, .d (.pt [pairsTV co] 0)), (9, .d (pairsTV rf)), (10, .int .i64 rf.length), (11, .int .i64 i), (5, .d (.pt (pairTV r) 0)), (15, .d (pairsTV co)), (16, .int .i64 co.length), (17, .int .i64 j), (7, .d (.pt (pairTV c) 0)), (GS, .gh (frAt rf co i r j).length Y)]) (stL l) rfl (by repeat' (first | exact fz_nil | refine fz_cons rfl (.same _) ?_ | refine fz_cons rfl (.lo 0 0 _ rfl) ?_)) (fs_abs (hbig _ _ hJ) (by decide) (fun j hj => by show (Store.put (Store.put _ _ _) _ _) j = _; rw [Store.put_ne _ _ hj, Store.put_ne _ _ hj]; rfl)) ?_
  by_cases hb : frB r c = true
  · obtain ⟨q, hq⟩ := hin j hlt2 (by rw [hc]; exact hb)
    rw [hc] at hq
    obtain ⟨hlm, hY⟩ := seq_next h1 hy hq hst hJ
    have hlen1 : (frAt rf co i r (j + 1)).length = (frAt rf co i r j).length + 1 := by rw [frAt_yes rf co i r j hlt2 (by rw [hc]; exact hb)]; simp
    have hb1 : c.1 = r.1 ∧ c.2 ≠ r.2 := by simpa [frB] using hb
    obtain ⟨hb1, hb2⟩ := hb1
    rcases Bool.eq_false_or_eq_true (!(st && (frAt rf co i r j).length + 1 == m)) with hans | hans
    · rw [hans] at hY
      refine awp_seq ?_
      (refine ao_region ?_ (fun _ => ?_); exact rfl)
      refine q32 ?_; refine q23 ?_; refine q32 ?_; refine q23 ?_; refine q46 ?_; refine q11 ?_
      (apply guard_t; exact rfl; exact rfl)
      (refine im_dt (fun _ => ?_); (try (exfalso; omega)))
      refine q32 ?_
      (apply guard_t; exact rfl; exact rfl)
      refine im_tt ?_; refine q23 ?_
      (apply guard_t; exact rfl; exact rfl)
      refine im_tt ?_; refine q32 ?_
      (apply guard_t; exact rfl; exact rfl)
      refine im_tt ?_; refine q23 ?_
      (apply guard_t; exact rfl; exact rfl)
      refine im_tt ?_; refine q44 ?_; refine q4 ?_; refine q11 ?_
      (apply guard_t; exact rfl; exact rfl)
      refine im_at ?_; refine im_tt ?_
      (refine im_nt (fun _ => ?_); (try (exfalso; omega)))
      refine q11 ?_
      (apply guard_t; exact rfl; exact rfl)
      refine im_tt ?_; refine q32 ?_
      (apply guard_t; exact rfl; exact rfl)
      refine im_tt ?_; refine q23 ?_
      (apply guard_t; exact rfl; exact rfl)
      refine im_tt ?_; refine q32 ?_
      (apply guard_t; exact rfl; exact rfl)
      refine im_tt ?_; refine q23 ?_
      (apply guard_t; exact rfl; exact rfl)
      refine im_tt ?_; refine q54 ?_
      (apply guard_t; exact rfl; exact rfl)
      refine im_tt ?_
      ((apply S_yield; exact rfl; exact rfl; exact rfl; exact hY; exact (fun _ _ h => h); exact hnd _; (intro l1 hl1)))
      (apply guard_t; exact rfl; exact rfl)
      refine im_tt ?_
      (apply S_not; exact rfl)
      refine q4 ?_; refine ao_nil ?_; refine then_n ?_
      (apply awp_cond; exact rfl)
      refine im_at ?_; refine im_tt ?_; refine im_bt ?_
      exact im_tf
      (refine im_af (fun hc_ => ?_); (try simp only [Bool.not_eq_true', Bool.not_eq_false', Bool.or_eq_true, Bool.and_eq_true, Bool.or_eq_false_iff, Bool.and_eq_false_iff, decide_eq_true_eq, decide_eq_false_iff_not, Decidable.not_not, Int.not_lt, Int.not_le, Bool.not_true, Bool.not_false, Bool.true_and, Bool.and_true, Bool.false_or, Bool.or_false, Bool.true_or, Bool.false_and, bne_eq_false_iff_eq, bne_iff_ne, beq_iff_eq, beq_eq_false_iff_ne, decide_eq_decide] at hc_))
      refine awp_skip ?_; refine blk_n ?_; refine then_n ?_
      (refine ao_region ?_ (fun _ => ?_); exact rfl)
      refine q36 ?_; refine q11 ?_; refine ao_nil ?_; refine then_n ?_
      rotate_left
      iterate 7 exact im_tf
      (refine im_af (fun hc_ => ?_); (try simp only [Bool.not_eq_true', Bool.not_eq_false', Bool.or_eq_true, Bool.and_eq_true, Bool.or_eq_false_iff, Bool.and_eq_false_iff, decide_eq_true_eq, decide_eq_false_iff_not, Decidable.not_not, Int.not_lt, Int.not_le, Bool.not_true, Bool.not_false, Bool.true_and, Bool.and_true, Bool.false_or, Bool.or_false, Bool.true_or, Bool.false_and, bne_eq_false_iff_eq, bne_iff_ne, beq_iff_eq, beq_eq_false_iff_ne, decide_eq_decide] at hc_))
      (apply guard_t; exact rfl; exact rfl)
      exact im_ft
      refine im_ff ?_
      (apply guard_t; exact rfl; exact rfl)
      exact im_ft
      refine im_ff ?_
      (apply guard_t; exact rfl; exact rfl)
      exact im_ft
      refine im_ff ?_
      (apply guard_t; exact rfl; exact rfl)
      exact im_ft
      refine im_ff ?_
      (apply guard_t; exact rfl; exact rfl)
      exact im_ft
      refine im_ff ?_
      (apply guard_t; exact rfl; exact rfl)
      exact im_ft
      refine im_ff ?_
      (apply guard_t; exact rfl; exact rfl)
      exact im_ft
      refine im_ff ?_
      (apply S_pick_v; exact rfl)
      (apply pick_f; exact rfl)
      refine ao_nil ?_; refine then_n ?_
      (apply awp_cond; exact rfl)
      exact im_ft
      refine im_ff ?_; refine awp_skip ?_; refine blk_n ?_; refine then_n ?_
      (refine ao_region ?_ (fun _ => ?_); exact rfl)
      refine q36 ?_; refine q11 ?_; refine ao_nil ?_; refine then_n ?_
      rotate_left
      iterate 4 exact im_tf
      (refine im_df (fun _ => ?_); (try (exfalso; omega)))
      · refine ⟨(j + 1, l1), ⟨show j + 1 ≤ _ by omega, ?_, ?_⟩, show co.length - (j + 1) < co.length - j by omega, ?_, out_le (hnd _ _ hl1)⟩
        · dsimp only; rw [hlen1]; exact hl1
        · dsimp only; rw [hlen1]; exact seq_go hlm hans
        · dsimp only; rw [hlen1]; exact (by repeat' (first | exact le_nil _ | exact sle_nil _ | refine le_cons rfl ?_ | refine sle_cons rfl ?_))
      · exfalso
        rcases hc_ with h9 | h9
        · cases h9
        · exact hb2 h9
    · rw [hans] at hY
      rw [seq_stop hans] at hY
      refine awp_seq ?_
      (refine ao_region ?_ (fun _ => ?_); exact rfl)
      refine q32 ?_; refine q23 ?_; refine q32 ?_; refine q23 ?_; refine q46 ?_; refine q11 ?_
      (apply guard_t; exact rfl; exact rfl)
      (refine im_dt (fun _ => ?_); (try (exfalso; omega)))
      refine q32 ?_
      (apply guard_t; exact rfl; exact rfl)
      refine im_tt ?_; refine q23 ?_
      (apply guard_t; exact rfl; exact rfl)
      refine im_tt ?_; refine q32 ?_
      (apply guard_t; exact rfl; exact rfl)
      refine im_tt ?_; refine q23 ?_
      (apply guard_t; exact rfl; exact rfl)
      refine im_tt ?_; refine q44 ?_; refine q4 ?_; refine q11 ?_
      (apply guard_t; exact rfl; exact rfl)
      refine im_at ?_; refine im_tt ?_
      (refine im_nt (fun _ => ?_); (try (exfalso; omega)))
      refine q11 ?_
      (apply guard_t; exact rfl; exact rfl)
      refine im_tt ?_; refine q32 ?_
      (apply guard_t; exact rfl; exact rfl)
      refine im_tt ?_; refine q23 ?_
      (apply guard_t; exact rfl; exact rfl)
      refine im_tt ?_; refine q32 ?_
      (apply guard_t; exact rfl; exact rfl)
      refine im_tt ?_; refine q23 ?_
      (apply guard_t; exact rfl; exact rfl)
      refine im_tt ?_; refine q54 ?_
      (apply guard_t; exact rfl; exact rfl)
      refine im_tt ?_
      ((apply S_yield; exact rfl; exact rfl; exact rfl; exact hY; exact (fun _ _ h => h); exact hnd _; (intro l1 hl1)))
      (apply guard_t; exact rfl; exact rfl)
      refine im_tt ?_
      (apply S_not; exact rfl)
      refine q0 ?_; refine ao_nil ?_; refine then_n ?_
      (apply awp_cond; exact rfl)
      (refine im_ot (fun hc_ => ?_); (try simp only [Bool.not_eq_true', Bool.not_eq_false', Bool.or_eq_true, Bool.and_eq_true, Bool.or_eq_false_iff, Bool.and_eq_false_iff, decide_eq_true_eq, decide_eq_false_iff_not, Decidable.not_not, Int.not_lt, Int.not_le, Bool.not_true, Bool.not_false, Bool.true_and, Bool.and_true, Bool.false_or, Bool.or_false, Bool.true_or, Bool.false_and, bne_eq_false_iff_eq, bne_iff_ne, beq_iff_eq, beq_eq_false_iff_ne, decide_eq_decide] at hc_))
      refine awp_ret ?_; refine blk_r ?_
      iterate 2 refine then_r ?_
      iterate 2 refine blk_r ?_
      iterate 2 refine then_r ?_
      refine blk_r ?_
      rotate_left
      refine im_of ?_
      iterate 8 exact im_tf
      (refine im_af (fun hc_ => ?_); (try simp only [Bool.not_eq_true', Bool.not_eq_false', Bool.or_eq_true, Bool.and_eq_true, Bool.or_eq_false_iff, Bool.and_eq_false_iff, decide_eq_true_eq, decide_eq_false_iff_not, Decidable.not_not, Int.not_lt, Int.not_le, Bool.not_true, Bool.not_false, Bool.true_and, Bool.and_true, Bool.false_or, Bool.or_false, Bool.true_or, Bool.false_and, bne_eq_false_iff_eq, bne_iff_ne, beq_iff_eq, beq_eq_false_iff_ne, decide_eq_decide] at hc_))
      (apply guard_t; exact rfl; exact rfl)
      exact im_ft
      refine im_ff ?_
      (apply guard_t; exact rfl; exact rfl)
      exact im_ft
      refine im_ff ?_
      (apply guard_t; exact rfl; exact rfl)
      exact im_ft
      refine im_ff ?_
      (apply guard_t; exact rfl; exact rfl)
      exact im_ft
      refine im_ff ?_
      (apply guard_t; exact rfl; exact rfl)
      exact im_ft
      refine im_ff ?_
      (apply guard_t; exact rfl; exact rfl)
      exact im_ft
      refine im_ff ?_
      (apply guard_t; exact rfl; exact rfl)
      exact im_ft
      refine im_ff ?_
      (apply S_pick_v; exact rfl)
      (apply pick_f; exact rfl)
      refine ao_nil ?_; refine then_n ?_
      (apply awp_cond; exact rfl)
      exact im_ft
      refine im_ff ?_; refine awp_skip ?_; refine blk_n ?_; refine then_n ?_
      (refine ao_region ?_ (fun _ => ?_); exact rfl)
      refine q36 ?_; refine q11 ?_; refine ao_nil ?_; refine then_n ?_
      rotate_left
      iterate 4 exact im_tf
      (refine im_df (fun _ => ?_); (try (exfalso; omega)))
      · exact ⟨Or.inr rfl, rfl, l1, hl1, out_le (hnd _ _ hl1)⟩
      · exfalso
        rcases hc_ with h9 | h9
        · cases h9
        · exact hb2 h9
  · have hlen1 : (frAt rf co i r (j + 1)) = (frAt rf co i r j) := frAt_no rf co i r j hlt2 (by rw [hc]; exact hb)
    have hb1 : c.1 = r.1 → c.2 = r.2 := by simpa [frB] using hb
    refine awp_seq ?_
    (refine ao_region ?_ (fun _ => ?_); exact rfl)
    refine q32 ?_; refine q23 ?_; refine q32 ?_; refine q23 ?_; refine q46 ?_; refine q11 ?_
    (apply guard_t; exact rfl; exact rfl)
    (refine im_dt (fun _ => ?_); (try (exfalso; omega)))
    refine q32 ?_
    (apply guard_t; exact rfl; exact rfl)
    refine im_tt ?_; refine q23 ?_
    (apply guard_t; exact rfl; exact rfl)
    refine im_tt ?_; refine q32 ?_
    (apply guard_t; exact rfl; exact rfl)
    refine im_tt ?_; refine q23 ?_
    (apply guard_t; exact rfl; exact rfl)
    refine im_tt ?_; refine q44 ?_; refine q4 ?_; refine q11 ?_
    (apply guard_t; exact rfl; exact rfl)
    refine im_at ?_; refine im_tt ?_
    (refine im_nt (fun _ => ?_); (try (exfalso; omega)))
    (refine im_af (fun hc_ => ?_); (try simp only [Bool.not_eq_true', Bool.not_eq_false', Bool.or_eq_true, Bool.and_eq_true, Bool.or_eq_false_iff, Bool.and_eq_false_iff, decide_eq_true_eq, decide_eq_false_iff_not, Decidable.not_not, Int.not_lt, Int.not_le, Bool.not_true, Bool.not_false, Bool.true_and, Bool.and_true, Bool.false_or, Bool.or_false, Bool.true_or, Bool.false_and, bne_eq_false_iff_eq, bne_iff_ne, beq_iff_eq, beq_eq_false_iff_ne, decide_eq_decide] at hc_))
    (apply guard_t; exact rfl; exact rfl)
    exact im_ft
    refine im_ff ?_
    (apply guard_t; exact rfl; exact rfl)
    exact im_ft
    refine im_ff ?_
    (apply guard_t; exact rfl; exact rfl)
    exact im_ft
    refine im_ff ?_
    (apply guard_t; exact rfl; exact rfl)
    exact im_ft
    refine im_ff ?_
    (apply guard_t; exact rfl; exact rfl)
    exact im_ft
    refine im_ff ?_
    (apply guard_t; exact rfl; exact rfl)
    exact im_ft
    refine im_ff ?_
    (apply guard_t; exact rfl; exact rfl)
    exact im_ft
    refine im_ff ?_
    (apply S_pick_v; exact rfl)
    (apply pick_f; exact rfl)
    refine ao_nil ?_; refine then_n ?_
    (apply awp_cond; exact rfl)
    exact im_ft
    refine im_ff ?_; refine awp_skip ?_; refine blk_n ?_; refine then_n ?_
    (refine ao_region ?_ (fun _ => ?_); exact rfl)
    refine q36 ?_; refine q11 ?_; refine ao_nil ?_; refine then_n ?_
    rotate_left
    iterate 4 exact im_tf
    (refine im_df (fun _ => ?_); (try (exfalso; omega)))
    (apply guard_t; exact rfl; exact rfl)
    exact im_ft
    refine im_ff ?_
    (apply guard_t; exact rfl; exact rfl)
    exact im_ft
    refine im_ff ?_
    (apply guard_t; exact rfl; exact rfl)
    exact im_ft
    refine im_ff ?_
    (apply guard_t; exact rfl; exact rfl)
    exact im_ft
    refine im_ff ?_
    (apply S_pick_v; exact rfl)
    (apply pick_f; exact rfl)
    refine q11 ?_
    (apply guard_t; exact rfl; exact rfl)
    exact im_ft
    refine im_ff ?_
    (apply guard_t; exact rfl; exact rfl)
    exact im_ft
    refine im_ff ?_
    (apply guard_t; exact rfl; exact rfl)
    exact im_ft
    refine im_ff ?_
    (apply guard_t; exact rfl; exact rfl)
    exact im_ft
    refine im_ff ?_
    (apply guard_t; exact rfl; exact rfl)
    exact im_ft
    refine im_ff ?_
    (apply guard_t; exact rfl; exact rfl)
    exact im_ft
    refine im_ff ?_
    (apply guard_t; exact rfl; exact rfl)
    exact im_ft
    refine im_ff ?_
    (apply guard_t; exact rfl; exact rfl)
    exact im_ft
    refine im_ff ?_
    (apply S_pick_v; exact rfl)
    (apply pick_f; exact rfl)
    refine ao_nil ?_; refine then_n ?_
    (apply awp_cond; exact rfl)
    exact im_ft
    refine im_ff ?_; refine awp_skip ?_; refine blk_n ?_; refine then_n ?_
    (refine ao_region ?_ (fun _ => ?_); exact rfl)
    refine q36 ?_; refine q11 ?_; refine ao_nil ?_; refine then_n ?_
    rotate_left
    all_goals
      refine ⟨(j + 1, l), ⟨show j + 1 ≤ _ by omega, ?_, ?_⟩, show co.length - (j + 1) < co.length - j by omega, ?_, (fun _ _ h => h)⟩
      · dsimp only; rw [hlen1]; exact hJ
      · dsimp only; rw [hlen1]; exact hst
      · dsimp only; rw [hlen1]; exact (by repeat' (first | exact le_nil _ | exact sle_nil _ | refine le_cons rfl ?_ | refine sle_cons rfl ?_))
def frF (x : Ex) : List (Int × Int) := sortZ (frZ (rfF x) (coF x))
theorem frZ_small {rf co : List (Int × Int)} (h1 : smallP rf) (h2 : smallP co) : smallP (frZ rf co) := fun p hp => by
  unfold frZ frTo fr1 at hp
  obtain ⟨r, hr, h3⟩ := List.mem_flatMap.1 hp
  obtain ⟨c, hc, rfl⟩ := List.mem_map.1 h3
  have a1 := h1 r (List.mem_of_mem_take hr)
  have a2 := h2 c (List.mem_filter.1 hc).1
  dsimp only
  omega
theorem frTo_len (rf co : List (Int × Int)) : ∀ i, i ≤ rf.length → (frTo rf co i).length ≤ i * co.length
  | 0, _ => by simp [frTo]
  | i + 1, h => by
    rw [frTo_succ rf co i h, List.length_append, Nat.succ_mul]
    have := frTo_len rf co i (by omega)
    have : (fr1 (rf.getD i default) co).length ≤ co.length := by
      unfold fr1
      rw [List.length_map]
      exact List.length_filter_le _ _
    omega
theorem smallP_nil : smallP [] := fun p hp => by cases hp
theorem rf_facts (x : Ex) : smallP (rfF x) ∧ (rfF x).length ≤ 64 := by
  unfold rfF
  split
  · rename_i hc
    obtain ⟨h1, h2, h3, h4⟩ := check_zero hc
    have hfl := from_len h3
    have hln := rfZ_len x.from_ x.from_.length
    exact ⟨smallP_sort (rfZ_small (fun i => by have := from_lt h3 i; omega) (by omega)), by rw [sortZ_length]; omega⟩
  · exact ⟨smallP_nil, by simp⟩
theorem co_facts (x : Ex) : smallP (coF x) ∧ (coF x).length ≤ 262144 := by
  unfold coF
  split
  · rename_i hc
    obtain ⟨h1, h2, h3, h4⟩ := check_zero hc
    exact ⟨smallP_sort (coZ_small h4 (by omega)), by rw [sortZ_length]; exact coZ_len hc⟩
  · exact ⟨smallP_nil, by simp⟩
set_option maxHeartbeats 4000000 in
theorem fr_s (x : Ex) (hx : x.fit) : Own E.P 9 [exOV x] 2 ((frF x).map pairO') := by
  obtain ⟨a1, a2⟩ := rf_facts x
  obtain ⟨b1, b2⟩ := co_facts x
  have hsm := frZ_small a1 b1
  have hln : (frZ (rfF x) (coF x)).length ≤ 1073741824 := by
    have := frTo_len (rfF x) (coF x) (rfF x).length (Nat.le_refl _)
    have h9 : (rfF x).length * (coF x).length ≤ 64 * 262144 := Nat.mul_le_mul a2 b2
    unfold frZ
    omega
  have hfr := fr1_s x hx (coF x) (by omega)
  have hco := co_s x hx
  unfold frF
  have hfz := pair_fz
  have f5 : Frozen 5 := ⟨trivial⟩
  refine fn_of_awp Tryz.func9 (by decide) rfl Tryz.ntmps9 (Nat.le_of_ble_eq_true rfl) rfl ?_
  refine awp_seq ?_
  (refine ao_region ?_ (fun _ => ?_); exact rfl)
  refine q40 ?_; refine q51 ?_; refine ao_nil ?_
  rotate_left
  refine then_n ?_
  rename_i v0
  refine awp_freeze 1 (v0, 0) 3 [exRow x] (tmL [(1, .d (.pt (exRow x) 0))]) (stL []) rfl (fz_cons rfl (.lo 0 0 _ rfl) fz_nil) (by repeat' (first | exact fz_nil | exact fs_nil | (refine fz_cons rfl (froz_os ?_) ?_; (first | rfl | (simp; done))) | refine fz_cons rfl (.same _) ?_ | refine fs_cons (by decide) rfl (.same _) ?_)) ?_
  refine awp_seq ?_
  (refine ao_region ?_ (fun _ => ?_); exact rfl)
  refine q33 ?_
  ((first | (apply S_ownF; assumption; exact rfl; exact .fn _ _ _; exact rfl; exact hco; exact hfz _; exact rfl)))
  (apply S_alloc; exact rfl)
  refine q15 ?_; refine ao_nil ?_
  rotate_left
  refine then_n ?_
  rename_i v1
  refine awp_freeze 3 (v1, 2) 1 [[pairsTV (coF x)]] (tmL [(1, .d (.pt (exRow x) 0)), (3, .d (.pt [pairsTV (coF x)] 0))]) (stL []) rfl (by repeat' (first | exact fz_nil | refine fz_cons rfl (.same _) ?_ | refine fz_cons rfl (.lo 0 0 _ rfl) ?_)) (by repeat' (first | exact fz_nil | exact fs_nil | (refine fz_cons rfl (froz_os ?_) ?_; (first | rfl | (simp; done))) | refine fz_cons rfl (.same _) ?_ | refine fs_cons (by decide) rfl (.same _) ?_)) ?_
  refine awp_seq ?_
  (refine ao_region ?_ (fun _ => ?_); exact rfl)
  (apply S_makeFunc; exact rfl; exact rfl)
  ((first | (apply S_own; exact rfl; exact .fn _ _ _; exact rfl; exact pairs_s (.fn _ _ _) _ hsm hln hfr)))
  (apply S_ren; exact rfl; exact rfl)
  refine ao_nil ?_; refine then_n ?_; refine awp_ret ?_
  rotate_left
  exact own_done (d := 2) rfl rfl rfl rfl
end Go.Proofs.YtgeaaegkcbjhlaaGreat
/- The relations of layer 6 as the reference tells them: all pairs of places, one behind the other, of which it is so. Plain. -/
set_option linter.unusedVariables false
namespace Go.Proofs.YtgeaaegkcbjhlaaGreat
/-! ### what is read -/
theorem rfZ_nodup (zs : List Int) : ∀ k, (rfZ zs k).Nodup
  | 0 => by simp [rfZ]
  | k + 1 => by
    by_cases h : 0 ≤ zs.getD k 0
    · rw [rfZ_yes h, List.nodup_append]
      refine ⟨rfZ_nodup zs k, by simp, fun p hp q hq e => ?_⟩
      simp only [List.mem_singleton] at hq
      subst hq
      subst e
      obtain ⟨n, h1, _, _, h4⟩ := mem_rfZ.1 hp
      omega
    · rw [rfZ_no h]; exact rfZ_nodup zs k
def isRf (x : Ex) (a b : Nat) : Bool := (x.evs.getD b default).ldB && decide (x.from_.getD b 0 = (a : Int))
theorem from_ld {es : List Ev} {fs : List Int} (h : fromB es fs = true) {k : Nat} (hk : k < es.length) : ((es.getD k default).ldB = true ↔ 0 ≤ fs.getD k 0) ∧ ((es.getD k default).ldB = true → fs.getD k 0 < es.length ∧ fs.getD k 0 ≠ k ∧ (es.getD (fs.getD k 0).toNat default).stB = true ∧ (es.getD (fs.getD k 0).toNat default).addr = (es.getD k default).addr) := by
  have h1 := from_at h (k := k) (by rw [from_len h]; exact hk)
  unfold fromOk at h1
  cases hl : (es.getD k default).ldB with
  | false =>
    rw [hl] at h1
    simp only [Bool.not_false, Bool.true_and, Bool.false_and, Bool.or_false, beq_iff_eq] at h1
    exact ⟨⟨fun e => (by cases e), fun e => (by omega)⟩, fun e => (by cases e)⟩
  | true =>
    rw [hl] at h1
    simp only [Bool.not_true, Bool.false_and, Bool.false_or, Bool.true_and, Bool.and_eq_true, Bool.not_eq_true', beq_eq_false_iff_ne, decide_eq_false_iff_not] at h1
    obtain ⟨⟨⟨a1, a2⟩, a3⟩, a4⟩ := h1
    unfold srcOk at a4
    simp only [Bool.and_eq_true] at a4
    exact ⟨⟨fun _ => (by omega), fun _ => rfl⟩, fun _ => ⟨by omega, a1, a4.1.1, by simpa using a4.1.2⟩⟩
/-! ### coherence order -/
theorem coIn_nodup {l : List Int} (h : l.Nodup) : ∀ i, i ≤ l.length → (coIn l i).Nodup
  | 0, _ => by simp [coIn]
  | i + 1, hi => by
    rw [coIn_succ, List.nodup_append]
    refine ⟨coIn_nodup h i (by omega), ?_, fun p hp q hq e => ?_⟩
    · refine List.Pairwise.map _ (R := (· ≠ ·)) (fun a b hab e => hab (by simpa using e)) (List.Pairwise.sublist (List.drop_sublist _ _) h)
    · subst e
      obtain ⟨b, _, rfl⟩ := List.mem_map.1 hq
      unfold coIn at hp
      obtain ⟨j, h1, h2⟩ := List.mem_flatMap.1 hp
      obtain ⟨c, _, h4⟩ := List.mem_map.1 h2
      have hj := List.mem_range.1 h1
      have := nodup_at h (i := j) (j := i) (by omega) (by omega) (by simpa using congrArg Prod.fst h4)
      omega
theorem coZ_nodup {es : List Ev} {o : List (Sl × List Int)} (h : orderB es (addrsTo es) o = true) : (coZ o).Nodup := by
  unfold coZ coTo
  rw [List.take_length]
  unfold List.Nodup
  rw [List.pairwise_flatMap]
  refine ⟨fun l hl => ?_, ?_⟩
  · obtain ⟨r, hr, e⟩ := List.getElem_of_mem hl
    have := row_nodup h hr
    rw [List.getD_eq_getElem?_getD, List.getElem?_eq_getElem hr, Option.getD_some, e] at this
    exact coIn_nodup this _ (Nat.le_refl _)
  · rw [List.pairwise_iff_getElem]
    intro i j hi hj hij p hp q hq e
    subst e
    have e1 := (coIn_mem hp (Nat.le_refl _)).1
    have e2 := (coIn_mem hq (Nat.le_refl _)).1
    have g1 : o[i] = o.getD i default := by rw [List.getD_eq_getElem?_getD, List.getElem?_eq_getElem hi]; rfl
    have g2 : o[j] = o.getD j default := by rw [List.getD_eq_getElem?_getD, List.getElem?_eq_getElem hj]; rfl
    rw [g1] at e1
    rw [g2] at e2
    obtain ⟨a, ha, ea⟩ := mem_at e1
    obtain ⟨b, hb, eb⟩ := mem_at e2
    have hp0 := want_lt ((order_mem h hi).1 e1)
    have r1 := row_at h hi ha (a := p.1.toNat) (by rw [ea]; omega)
    have r2 := row_at h hj hb (a := p.1.toNat) (by rw [eb]; omega)
    have := row_same h hi hj (r1.2.2.symm.trans r2.2.2)
    omega
/-! ### what comes behind what is read -/
theorem fr1_nodup {co : List (Int × Int)} (h : co.Nodup) (r : Int × Int) : (fr1 r co).Nodup := by
  unfold fr1
  refine List.Pairwise.map _ (R := fun c d => c ≠ d ∧ c.1 = r.1 ∧ d.1 = r.1) (fun c d hcd e => hcd.1 (Prod.ext (by rw [hcd.2.1, hcd.2.2]) (by simpa using e))) ?_
  refine (List.Pairwise.filter _ h).imp_of_mem fun {c d} hc hd hne => ?_
  have h1 := (List.mem_filter.1 hc).2
  have h2 := (List.mem_filter.1 hd).2
  simp only [frB, Bool.and_eq_true, beq_iff_eq] at h1 h2
  exact ⟨hne, h1.1, h2.1⟩
theorem frZ_nodup {rf co : List (Int × Int)} (hr : rf.Pairwise fun r s => r.2 ≠ s.2) (hc : co.Nodup) : (frZ rf co).Nodup := by
  unfold frZ frTo
  rw [List.take_length]
  unfold List.Nodup
  rw [List.pairwise_flatMap]
  refine ⟨fun r _ => fr1_nodup hc r, hr.imp fun {r s} hrs p hp q hq e => ?_⟩
  subst e
  unfold fr1 at hp hq
  obtain ⟨c, _, rfl⟩ := List.mem_map.1 hp
  obtain ⟨d, _, h2⟩ := List.mem_map.1 hq
  exact hrs (by simpa using (congrArg Prod.fst h2).symm)
/-! ### the three relations -/
theorem rf_ref {x : Ex} (hc : checkI x = 0) : rfF x = refPairs x.evs.length (isRf x) := by
  obtain ⟨h1, h2, h3, h4⟩ := check_zero hc
  have hl := from_len h3
  rw [rfF, if_pos hc]
  refine sortZ_eq (rfZ_nodup _ _) fun p => ?_
  obtain ⟨a, b⟩ := p
  rw [mem_rfZ, mem_refPairs]
  constructor
  · rintro ⟨n, g1, g2, rfl, rfl⟩
    obtain ⟨e1, e2⟩ := from_ld h3 (k := n) (by omega)
    obtain ⟨m, hm⟩ := nonneg_nat g2
    have := e2 (e1.2 g2)
    exact ⟨m, n, by omega, by omega, by unfold isRf; rw [e1.2 g2, hm]; simp, by rw [hm]⟩
  · rintro ⟨m, n, g1, g2, g3, g4⟩
    unfold isRf at g3
    simp only [Bool.and_eq_true, decide_eq_true_eq] at g3
    cases g4
    exact ⟨n, by omega, ((from_ld h3 g2).1.1 g3.1), g3.2.symm, rfl⟩
/-- where an event stands in coherence order -/
def coB (x : Ex) (a b : Nat) : Bool := decide (((a : Int), (b : Int)) ∈ coZ x.order)
theorem co_ref {x : Ex} (hc : checkI x = 0) : coF x = refPairs x.evs.length (coB x) := by
  obtain ⟨h1, h2, h3, h4⟩ := check_zero hc
  rw [coF, if_pos hc]
  refine sortZ_eq (coZ_nodup h4) fun p => ?_
  obtain ⟨a, b⟩ := p
  rw [mem_refPairs]
  constructor
  · intro h
    obtain ⟨g1, g2, g3, g4⟩ := coZ_small h4 (by omega) _ h
    dsimp only at g1 g2 g3 g4
    obtain ⟨m, rfl⟩ := nonneg_nat g1
    obtain ⟨n, rfl⟩ := nonneg_nat g3
    obtain ⟨e1, e2, _⟩ := co_is h4 h
    exact ⟨m, n, e1, e2, by simpa [coB] using h, rfl⟩
  · rintro ⟨m, n, _, _, g3, g4⟩
    cases g4
    simpa [coB] using g3
def frBr (x : Ex) (a b : Nat) : Bool := !(a == b) && (x.evs.getD a default).ldB && coB x (x.from_.getD a 0).toNat b
theorem fr_ref {x : Ex} (hc : checkI x = 0) : frF x = refPairs x.evs.length (frBr x) := by
  obtain ⟨h1, h2, h3, h4⟩ := check_zero hc
  have hl := from_len h3
  have hcn : (coF x).Nodup := by rw [coF, if_pos hc]; exact (List.mergeSort_perm _ _).nodup_iff.2 (coZ_nodup h4)
  have hrp : (rfF x).Pairwise fun r s => r.2 ≠ s.2 := by
    rw [rf_ref hc]
    have hlt := refPairs_lt x.evs.length (isRf x)
    refine hlt.imp_of_mem fun {r s} hr hs h e => ?_
    obtain ⟨a, b, _, _, g1, rfl⟩ := mem_refPairs.1 hr
    obtain ⟨c, d, _, _, g2, rfl⟩ := mem_refPairs.1 hs
    dsimp only at e
    have : b = d := by omega
    subst this
    unfold isRf at g1 g2
    simp only [Bool.and_eq_true, decide_eq_true_eq] at g1 g2
    rw [ltZ_iff] at h
    dsimp only at h
    omega
  rw [frF]
  refine sortZ_eq (frZ_nodup hrp hcn) fun p => ?_
  rw [mem_refPairs]
  unfold frZ frTo
  rw [List.take_length, List.mem_flatMap]
  constructor
  · rintro ⟨r, hr, hp⟩
    unfold fr1 at hp
    obtain ⟨c, g1, rfl⟩ := List.mem_map.1 hp
    obtain ⟨g2, g3⟩ := List.mem_filter.1 g1
    rw [rf_ref hc] at hr
    rw [co_ref hc] at g2
    obtain ⟨a, b, e1, e2, e3, rfl⟩ := mem_refPairs.1 hr
    obtain ⟨c, d, f1, f2, f3, rfl⟩ := mem_refPairs.1 g2
    simp only [frB, Bool.and_eq_true, beq_iff_eq, bne_iff_ne] at g3
    unfold isRf at e3
    simp only [Bool.and_eq_true, decide_eq_true_eq] at e3
    have hca : c = a := by omega
    subst hca
    refine ⟨b, d, e2, f2, ?_, rfl⟩
    unfold frBr
    rw [e3.1, e3.2, Int.toNat_natCast, f3]
    have : b ≠ d := by omega
    simp [this]
  · rintro ⟨b, d, e2, f2, g, rfl⟩
    unfold frBr at g
    simp only [Bool.and_eq_true, Bool.not_eq_true', beq_eq_false_iff_ne] at g
    obtain ⟨⟨g1, g2⟩, g3⟩ := g
    obtain ⟨q1, q2⟩ := from_ld h3 e2
    obtain ⟨a, ha⟩ := nonneg_nat (q1.1 g2)
    have q3 := q2 g2
    rw [ha, Int.toNat_natCast] at g3
    refine ⟨((a : Int), (b : Int)), by rw [rf_ref hc]; exact mem_refPairs.2 ⟨a, b, by omega, e2, by unfold isRf; rw [g2, ha]; simp, rfl⟩, ?_⟩
    unfold fr1
    refine List.mem_map.2 ⟨((a : Int), (d : Int)), List.mem_filter.2 ⟨by rw [co_ref hc]; exact mem_refPairs.2 ⟨a, d, by omega, f2, g3, rfl⟩, ?_⟩, rfl⟩
    have : (d : Int) ≠ b := by omega
    simp [frB, this]
/-! ### where an event stands -/
def placeFrom : List (Sl × List Int) → Int → Int
  | [], _ => -1
  | r :: o, n => if 0 ≤ atI r.2 n then atI r.2 n else placeFrom o n
theorem atFrom_no {n : Int} : ∀ {l : List Int} {k : Nat}, n ∉ l → atFrom n l k = -1
  | [], k, _ => rfl
  | a :: l, k, h => by
    simp only [List.mem_cons, not_or] at h
    rw [atFrom, if_neg (Ne.symm h.1)]
    exact atFrom_no h.2
theorem atFrom_yes {n : Int} : ∀ {l : List Int} {k i : Nat}, l.Nodup → i < l.length → l.getD i 0 = n → atFrom n l k = ((k + i : Nat) : Int)
  | [], k, i, _, h, _ => by simp at h
  | a :: l, k, 0, _, _, h => by
    have : a = n := h
    rw [atFrom, if_pos this]; simp
  | a :: l, k, i + 1, hn, h, he => by
    have h1 : l.getD i 0 = n := he
    have h2 : i < l.length := by simpa using h
    have h3 : n ∈ l := h1 ▸ at_mem h2
    have h4 : a ≠ n := fun e => (List.nodup_cons.1 hn).1 (e ▸ h3)
    rw [atFrom, if_neg h4, atFrom_yes (List.nodup_cons.1 hn).2 h2 h1]
    congr 1; omega
theorem place_at {n : Int} : ∀ {o : List (Sl × List Int)} {r i : Nat}, r < o.length → (∀ k, k < r → n ∉ (o.getD k default).2) → (o.getD r default).2.Nodup → i < (o.getD r default).2.length → (o.getD r default).2.getD i 0 = n → placeFrom o n = i
  | [], r, i, h, _, _, _, _ => by simp at h
  | q :: o, 0, i, _, _, hn, hi, he => by
    have e : atI q.2 n = i := by
      have := atFrom_yes (k := 0) hn hi he
      rw [Nat.zero_add] at this; exact this
    rw [placeFrom, e, if_pos (Int.natCast_nonneg i)]
  | q :: o, r + 1, i, h, hk, hn, hi, he => by
    have e : atI q.2 n = -1 := atFrom_no (hk 0 (by omega))
    rw [placeFrom, e, if_neg (by omega)]
    exact place_at (by simpa using h) (fun k hk' => hk (k + 1) (by omega)) hn hi he
def isCoB (x : Ex) (a b : Nat) : Bool := (x.evs.getD a default).stB && (x.evs.getD b default).stB && decide ((x.evs.getD a default).addr = (x.evs.getD b default).addr) && decide (placeFrom x.order a < placeFrom x.order b)
theorem place_row {es : List Ev} {o : List (Sl × List Int)} (h : orderB es (addrsTo es) o = true) {r i a : Nat} (hr : r < o.length) (hi : i < (o.getD r default).2.length) (he : (o.getD r default).2.getD i 0 = (a : Int)) : placeFrom o a = i := by
  refine place_at hr (fun k hk hm => ?_) (row_nodup h hr) hi he
  obtain ⟨j, hj, ej⟩ := mem_at hm
  have e1 := (row_at h hr hi he).2.2
  have e2 := (row_at h (show k < o.length by omega) hj ej).2.2
  have := row_same h hr (by omega) (e1.symm.trans e2)
  omega
theorem place_lt {es : List Ev} {o : List (Sl × List Int)} (h : orderB es (addrsTo es) o = true) {a b : Nat} (hp : ((a : Int), (b : Int)) ∈ coZ o) : placeFrom o a < placeFrom o b := by
  obtain ⟨r, i, j, hr, h2, h3, h4, h5⟩ := co_rowOf hp
  rw [place_row h hr (by omega) h4, place_row h hr h3 h5]
  omega
theorem co_isB {x : Ex} (hc : checkI x = 0) {a b : Nat} (ha : a < x.evs.length) (hb : b < x.evs.length) : coB x a b = isCoB x a b := by
  have ho := (check_zero hc).2.2.2
  rw [Bool.eq_iff_iff]
  unfold coB isCoB
  simp only [Bool.and_eq_true, decide_eq_true_eq]
  constructor
  · intro h
    obtain ⟨_, _, _, g1, g2, g3⟩ := co_is ho h
    exact ⟨⟨⟨g1, g2⟩, g3⟩, place_lt ho h⟩
  · rintro ⟨⟨⟨g1, g2⟩, g3⟩, g4⟩
    have hne : a ≠ b := fun e => by subst e; omega
    rcases co_or ho ha hb hne ⟨g1, g2, g3⟩ with h | h
    · exact h
    · have := place_lt ho h; omega
end Go.Proofs.YtgeaaegkcbjhlaaGreat
