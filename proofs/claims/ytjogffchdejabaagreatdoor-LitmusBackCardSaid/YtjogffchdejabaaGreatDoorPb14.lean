/- Parts. -/
import Derived.Test.YtjogffchdejabaaGreatDoorPb3
import Derived.Test.YtjogffchdejabaaGreatDoorPb4
import Derived.Test.YtjogffchdejabaaGreatDoorPb9
import Derived.Test.YtjogffchdejabaaGreatDoorPb10
import Derived.Test.YtjogffchdejabaaGreatDoorPb13
set_option linter.unusedVariables false
set_option linter.unusedSimpArgs false
set_option maxHeartbeats 4000000
namespace Go.Proofs.YtjogffchdejabaaGreatDoor
open Go.RowKit
section
open Go.Shelf Go.RowKit Go.Sort Go.Lib
def Lay9 (w : World) : Prop := KN (allM w)
theorem qA {f : FuncId} {args : List OV} {x : Value} (h : Pure Tryz.prog f args (.d (.c x))) {w : World} (hP : Lay9 w) {vs : List Value} (hv : RepOL (allG w hP) args vs) :
  Calls Tryz.prog f vs.toArray w fun e w' => e = .returned x ∧ Below w.heap.size w w' :=
 (h.2 (allG w hP) w vs 0 hv (WRel.all w hP 0)).mono fun e w' ⟨y, G', r, σ', h1, h2, h3, h4, h5⟩ => by
  subst h2
  rw [uT h4] at h1
  exact ⟨h1, ⟨h5.os, h5.tape, h5.output, h5.size, fun k hk => h5.keep k hk (fun e => e)⟩⟩
theorem kJ {w w' : World} (hb : Below w.heap.size w w') : (allM w).le (allM w') := fun b o v h => by
 have h0 : w.cell? ⟨b, o, none⟩ = some v := h
 exact (hb.cell (p := ⟨b, o, none⟩) (World.block_lt_of_cell? w ⟨b, o, none⟩ h0)).trans h0
theorem Lay9.below {w w' : World} (h : Lay9 w) (hb : Below w.heap.size w w') : Lay9 w' := KN.mono h (kJ hb)
theorem check_c {t : Ts} {w : World} (hP : Lay9 w) {sl : Value} (hr : Rep (allM w) (.sl 1 (t.map catRowT)) sl) : Calls Tryz.prog 20 #[.agg #[sl]] w fun e w' => e = .returned (.int .i64 (checkT t)) ∧ Below w.heap.size w w' :=
 qA (fL t) hP (vs := [.agg #[sl]]) (by
  rw [RepOL]
  refine ⟨_, _, rfl, ?_, by rw [RepOL]⟩
  unfold testOV
  rw [RepO]
  refine ⟨_, rfl, ?_⟩
  rw [RepOL]
  exact ⟨_, _, rfl, by rw [RepO]; exact hr, by rw [RepOL]⟩)
def stV (s : Stp) : Value := .agg #[.int .i64 s.kind, .int .i64 s.reg, .int .i64 s.var, .int .u32 s.num, .int .i64 s.data, .int .i64 s.byr, .bool s.aq, .bool s.rl, .int .i64 s.pred, .int .i64 s.succ]
theorem rep_stV (G : Gh) (s : Stp) : RepO G (stOV s) (stV s) := by
 unfold stOV stTV stV
 rw [RepO]
 refine ⟨_, rfl, ?_⟩
 simp only [List.map_cons, List.map_nil]
 repeat' (first | (rw [RepOL]; refine ⟨_, _, rfl, vO rfl, ?_⟩) | rw [RepOL])
theorem line_c {s : Stp} (hr : s.right = true) (hn : s.n32) {w : World} (hP : Lay9 w) : Calls Tryz.prog 67 #[stV s] w fun e w' => e = .returned (.string ⟨(lineB s).toArray⟩) ∧ Below w.heap.size w w' :=
 qA (line_p tK s hr hn) hP (vs := [stV s]) (by
  rw [RepOL]
  exact ⟨_, _, rfl, rep_stV _ s, by rw [RepOL]⟩)
def StepsAt (w : World) (l : List Stp) (v : Value) : Prop := ∃ a c, v = .slice a l.length c ∧ (l = [] ∨ ∃ b off, a = some ⟨b, off, none⟩ ∧ b < w.heap.size ∧ ∀ k, k < l.length → ∀ o, o < 10 → w.cell? ⟨b, off + k * 10 + o, none⟩ = some (match stV (l.getD k default) with | .agg cs => cs.getD o undef | x => x))
def ThreadsAt (w : World) (t : Ts) (v : Value) : Prop := ∃ a c, v = .slice a t.length c ∧ (t = [] ∨ ∃ b off, a = some ⟨b, off, none⟩ ∧ b < w.heap.size ∧ ∀ i, i < t.length → ∃ v, w.cell? ⟨b, off + i, none⟩ = some v ∧ StepsAt w (t.getD i []) v)
theorem stepsAt_of {w : World} {l : List Stp} {v : Value} (h : Rep (allM w) (.sl 10 (l.map stTV)) v) : StepsAt w l v := by
 rw [Rep] at h
 obtain ⟨a, c, rfl, h1, h2⟩ := h
 refine ⟨a, c, by rw [List.length_map], ?_⟩
 rcases h2 with h2 | ⟨b, off, rfl, h3⟩
 ·exact Or.inl (List.map_eq_nil_iff.1 h2)
 ·cases l with
  | nil => exact Or.inl rfl
  | cons s0 l0 =>
   have key : ∀ k, k < (s0 :: l0).length → ∀ o, o < 10 → w.cell? ⟨b, off + k * 10 + o, none⟩ = some (match stV ((s0 :: l0).getD k default) with | .agg cs => cs.getD o undef | x => x) := fun k hk o ho => by
    have h4 : ((s0 :: l0).map stTV)[k]? = some (stTV ((s0 :: l0).getD k default)) := by
     rw [List.getElem?_map, List.getD_eq_getElem?_getD, List.getElem?_eq_getElem hk]; rfl
    obtain ⟨_, h5⟩ := h3.get h4
    generalize (s0 :: l0).getD k default = s at h5 ⊢
    have h6 : ∃ x, (stTV s)[o]? = some (.c x) ∧ x.oneCell' = true ∧ (match stV s with | .agg cs => cs.getD o undef | x => x) = x := by
     rcases (by omega : o = 0 ∨ o = 1 ∨ o = 2 ∨ o = 3 ∨ o = 4 ∨ o = 5 ∨ o = 6 ∨ o = 7 ∨ o = 8 ∨ o = 9) with rfl | rfl | rfl | rfl | rfl | rfl | rfl | rfl | rfl | rfl <;> exact ⟨_, rfl, rfl, rfl⟩
    obtain ⟨x, h7, _, h8⟩ := h6
    obtain ⟨v, h9, h10⟩ := h5.get h7
    rw [Rep] at h10
    rw [h8, ← h10.1]
    exact h9
   exact Or.inr ⟨b, off, rfl, World.block_lt_of_cell? w ⟨b, off + 0 * 10 + 0, none⟩ (key 0 (by simp) 0 (by omega)), key⟩
theorem threadsAt_of {w : World} {t : Ts} {v : Value} (h : Rep (allM w) (.sl 1 (t.map catRowT)) v) : ThreadsAt w t v := by
 rw [Rep] at h
 obtain ⟨a, c, rfl, h1, h2⟩ := h
 refine ⟨a, c, by rw [List.length_map], ?_⟩
 rcases h2 with h2 | ⟨b, off, rfl, h3⟩
 ·exact Or.inl (List.map_eq_nil_iff.1 h2)
 ·cases t with
  | nil => exact Or.inl rfl
  | cons s0 l0 =>
   have key : ∀ i, i < (s0 :: l0).length → ∃ v, w.cell? ⟨b, off + i, none⟩ = some v ∧ StepsAt w ((s0 :: l0).getD i []) v := fun i hi => by
    have h4 : ((s0 :: l0).map catRowT)[i]? = some (catRowT ((s0 :: l0).getD i [])) := by
     rw [List.getElem?_map, List.getD_eq_getElem?_getD, List.getElem?_eq_getElem hi]; rfl
    obtain ⟨_, h5⟩ := h3.get h4
    obtain ⟨v, h9, h10⟩ := h5.get (o := 0) (t := stsTV ((s0 :: l0).getD i [])) rfl
    rw [Nat.mul_one, Nat.add_zero] at h9
    exact ⟨v, h9, stepsAt_of h10⟩
   obtain ⟨v, h, _⟩ := key 0 (by simp)
   exact Or.inr ⟨b, off, rfl, World.block_lt_of_cell? w ⟨b, off + 0, none⟩ h, key⟩
theorem StepsAt.below {w w' : World} {l : List Stp} {v : Value} {B : Nat} (h : StepsAt w l v) (hB : w.heap.size ≤ B) (hb : Below B w w') : StepsAt w' l v := by
 obtain ⟨a, c, h1, h2⟩ := h
 refine ⟨a, c, h1, h2.imp id fun ⟨b, off, h3, h4, h5⟩ => ⟨b, off, h3, ?_, fun k hk o ho => ?_⟩⟩
 ·have := hb.size; omega
 ·rw [hb.cell (p := ⟨b, off + k * 10 + o, none⟩) (show b < B by omega)]; exact h5 k hk o ho
theorem ThreadsAt.below {w w' : World} {t : Ts} {v : Value} {B : Nat} (h : ThreadsAt w t v) (hB : w.heap.size ≤ B) (hb : Below B w w') : ThreadsAt w' t v := by
 obtain ⟨a, c, h1, h2⟩ := h
 refine ⟨a, c, h1, h2.imp id fun ⟨b, off, h3, h4, h5⟩ => ⟨b, off, h3, ?_, fun i hi => ?_⟩⟩
 ·have := hb.size; omega
 ·obtain ⟨v, h6, h7⟩ := h5 i hi
  exact ⟨v, by rw [hb.cell (p := ⟨b, off + i, none⟩) (show b < B by omega)]; exact h6, h7.below hB hb⟩
theorem printT_take (t : Ts) (i : Nat) (hi : i < t.length) : printT (t.take (i + 1)) = printT (t.take i) ++ threadB (t.getD i []) := by
 unfold printT
 rw [List.take_succ_eq_append_getElem hi, List.map_append, List.flatten_append, List.getD_eq_getElem?_getD, List.getElem?_eq_getElem hi]
 simp
def linesB (l : List Stp) : Bt := (l.map fun s => lineB s ++ [10]).flatten
theorem linesB_take (l : List Stp) (k : Nat) (hk : k < l.length) : linesB (l.take (k + 1)) = linesB (l.take k) ++ (lineB (l.getD k default) ++ [10]) := by
 unfold linesB
 rw [List.take_succ_eq_append_getElem hk, List.map_append, List.flatten_append, List.getD_eq_getElem?_getD, List.getElem?_eq_getElem hk]
 simp
abbrev BldAt (b : Nat) (l : Bt) (w : World) : Prop := Lib.IsBuilder 121 5 b b (Lib.byteCells l) w
theorem mA {b : Nat} {l : Bt} {w w' : World} (h : BldAt b l w) (hb : Below w.heap.size w w') : BldAt b l w' := by
 have key : ∀ p, Lib.BuilderAt 121 5 b b p (Lib.byteCells l) w → Lib.BuilderAt 121 5 b b p (Lib.byteCells l) w' := fun p h => by
  have hlt := h.lt
  obtain ⟨h1, v, h2, h3, h4⟩ := h
  refine ⟨h1, v, (hb.block b hlt).trans h2, ?_, h4⟩
  refine ⟨h3.1, h3.2.imp id fun ⟨g, cap, cur, g1, g2, g3, g4⟩ => ⟨g, cap, cur, g1, g2, ?_, g4⟩⟩
  exact (hb.block g (Array.getElem?_eq_some_iff.1 g3).1).trans g3
 exact h.imp (key _) (key _)
theorem tT {b : Nat} {l : Bt} {w : World} (h : BldAt b l w) : b < w.heap.size := by
 rcases h with h | h <;> exact h.lt
theorem strCells_bs (l : Bt) : Lib.strCells ⟨l.toArray⟩ = Lib.byteCells l := by simp [Lib.strCells, Lib.byteCells]
theorem qI {b : Nat} {l s : Bt} {w : World} (h : BldAt b l w) (hlen : l.length + s.length ≤ 100000) (hBw : b ≤ w.heap.size) :
  Calls Tryz.prog 66 #[.pointer (some ⟨b, 0, none⟩), .string ⟨s.toArray⟩] w fun e w' => e = .returned (.tuple #[.int .i64 s.length, .nilIface]) ∧ BldAt b (l ++ s) w' ∧ Below b w w' := by
 refine (write_c b b (Lib.byteCells l) ⟨s.toArray⟩ w h ?_ hBw).mono fun e w' ⟨h1, h2, h3⟩ => ⟨?_, ?_, h3⟩
 ·simp [Lib.byteCells, ByteArray.size]; omega
 ·rw [h1]; simp [ByteArray.size]
 ·rw [strCells_bs] at h2
  have e : Lib.byteCells (l ++ s) = Lib.byteCells l ++ Lib.byteCells s := by simp [Lib.byteCells]
  show Lib.IsBuilder _ _ _ _ _ _
  rw [e]
  exact Or.inr h2
set_option maxRecDepth 100000 in
set_option maxHeartbeats 4000000 in
theorem print_c (t : Ts) (hc : checkT t = 0) (hn : n32T t) (w : World) (a : Option Addr) (c : Nat) (hP : Lay9 w) (hrep : Rep (allM w) (.sl 1 (t.map catRowT)) (.slice a t.length c)) :
  Calls Tryz.prog 32 #[.agg #[.slice a t.length c]] w fun e w' => e = .returned (.tuple #[.string ⟨(printT t).toArray⟩, .int .i64 0]) ∧ Below w.heap.size w w' := by
 obtain ⟨hk1, hk4, hok⟩ := dA hc
 have e1 : ∀ args w, (callFunc 20 args).run Tryz.prog w = .ok (.enter 20 args) w := enters_of Tryz.func20 (by kernel_rfl) rfl
 have e2 : ∀ args w, (callFunc 66 args).run Tryz.prog w = .ok (.enter 66 args) w := enters_of Tryz.func66 (by kernel_rfl) rfl
 have e3 : ∀ args w, (callFunc 68 args).run Tryz.prog w = .ok (.enter 68 args) w := enters_of Tryz.func68 (by kernel_rfl) rfl
 have e4 : ∀ args w, (callFunc 67 args).run Tryz.prog w = .ok (.enter 67 args) w := enters_of Tryz.func67 (by kernel_rfl) rfl
 have hT0 := threadsAt_of hrep
 have hb0 : Below w.heap.size w (w.alloc (.cells #[.slice a t.length c] 27)) := (Below.refl _ _).alloc (Nat.le_refl _) _
 have CC : Hid (Calls Tryz.prog 20 #[.agg #[.slice a t.length c]] (w.alloc (.cells #[.slice a t.length c] 27)) fun e w' => e = .returned (.int .i64 0) ∧ Below (w.alloc (.cells #[.slice a t.length c] 27)).heap.size (w.alloc (.cells #[.slice a t.length c] 27)) w') := Lib.hid (by
  have := check_c (hP.below hb0) (hrep.mono (kJ hb0) _ _)
  rw [hc] at this
  exact this)
 have HT := Lib.hid hT0
 have HOK := Lib.hid hok
 have HN := Lib.hid hn
 have HP := Lib.hid hP
 clear hrep hT0 hb0 hok hn hP hc
 go_enter Tryz.func32, Tryz.ntmps32
 go_wp2_with (go_at_call 20; refine CC.out.mono ?_)
 rintro e w1 ⟨rfl, hb1⟩
 have d0 : w1.cell? ⟨w.heap.size, 0, none⟩ = some (.slice a t.length c) := (hb1.cell (p := ⟨w.heap.size, 0, none⟩) (by simp)).trans (by rw [World.cell?_alloc_new]; rfl)
 have z1 : w.heap.size < w1.heap.size := by
  have := hb1.size
  simp at this
  omega
 have HB1 : Hid (Below w.heap.size w w1) := Lib.hid (((Below.refl w.heap.size w).alloc (Nat.le_refl _) _).trans (hb1.mono (by simp)))
 clear hb1
 go_wp2
 have HT1 : Hid (ThreadsAt w1 t (.slice a t.length c)) := Lib.hid (HT.out.below (Nat.le_refl _) HB1.out)
 have HP1 : Hid (Lay9 w1) := Lib.hid (HP.out.below HB1.out)
 go_loopw [18] (fun i wr => ∃ k : Nat, k ≤ t.length ∧ i = .int .i64 k ∧ BldAt w1.heap.size (printT (t.take k)) wr ∧ Below w1.heap.size w1 wr) (fun i _ => t.length - (intOf i).toNat)
 case atStart => exact ⟨0, by omega, rfl, Lib.fresh_isBuilder _ _ w1, (Below.refl _ _).alloc (Nat.le_refl _) _⟩
 case round =>
  obtain ⟨k, hk, rfl, hg, hb⟩ := hrel
  rename World => wo
  have hzo := hb.size
  have d1 : wo.cell? ⟨w.heap.size, 0, none⟩ = some (.slice a t.length c) := (hb.cell (p := ⟨w.heap.size, 0, none⟩) z1).trans d0
  have hlenA : (printT (t.take k)).length ≤ 12180 := by
   have := dQ (t.take k) fun x hx => ⟨(HOK.out x (List.mem_of_mem_take hx)).1, fun s hs => ⟨(HOK.out x (List.mem_of_mem_take hx)).2 s hs, HN.out x (List.mem_of_mem_take hx) s hs⟩⟩
   rw [List.length_take] at this
   omega
  by_cases hlt : k < t.length
  ·obtain ⟨b, off, hab, hbw, hrow⟩ : ∃ b off, a = some ⟨b, off, none⟩ ∧ b < w1.heap.size ∧ ∀ i, i < t.length → ∃ v, w1.cell? ⟨b, off + i, none⟩ = some v ∧ StepsAt w1 (t.getD i []) v := by
    obtain ⟨a', c', h1, h2⟩ := HT1.out
    cases h1
    rcases h2 with rfl | h2
    ·cases hlt
    ·exact h2
   subst hab
   obtain ⟨v, hv, hsv⟩ := hrow k hlt
   have q0 : wo.cell? ⟨b, off + k, none⟩ = some v := (hb.cell (p := ⟨b, off + k, none⟩) hbw).trans hv
   obtain ⟨l, hl⟩ : ∃ l, t.getD k [] = l := ⟨_, rfl⟩
   rw [hl] at hsv
   have hmem : l ∈ t := by rw [← hl, List.getD_eq_getElem?_getD, List.getElem?_eq_getElem hlt]; exact List.getElem_mem hlt
   have HL : Hid (l.length ≤ 16 ∧ ∀ s ∈ l, s.right = true ∧ s.n32) := Lib.hid ⟨(HOK.out l hmem).1, fun s hs => ⟨(HOK.out l hmem).2 s hs, HN.out l hmem s hs⟩⟩
   have HTK : Hid (printT (t.take (k + 1)) = printT (t.take k) ++ (wHart ++ [10]) ++ linesB l) := Lib.hid (by rw [printT_take t k hlt, hl]; simp [threadB, linesB])
   have hW := qI (s := wHart ++ [10]) hg (by simp [wHart]; omega) (Nat.le_of_lt (tT hg))
   have HW := Lib.hid hW
   have HB := Lib.hid hb
   obtain ⟨a2, c2, rfl, hsteps⟩ := hsv
   have HS := Lib.hid hsteps
   clear hrow hW hb hg hsteps hl hmem hv
   go_wp2_with (go_at_call 66; refine HW.out.mono ?_; rintro e w2 ⟨rfl, hg2, hb2⟩)
   have HB2 : Hid (Below w1.heap.size w1 w2) := Lib.hid (HB.out.trans hb2)
   clear hb2 HW HB
   go_loopw [25] (fun i wi => ∃ m : Nat, m ≤ l.length ∧ i = .int .i64 m ∧ BldAt w1.heap.size (printT (t.take k) ++ (wHart ++ [10]) ++ linesB (l.take m)) wi ∧ Below w1.heap.size w1 wi) (fun i _ => l.length - (intOf i).toNat)
   case atStart => exact ⟨0, by omega, rfl, by simpa [linesB] using hg2, HB2.out⟩
   case round =>
    obtain ⟨m, hm, rfl, hgm, hbm⟩ := hrel
    rename World => wi
    have hzi := hbm.size
    have hlenM : (printT (t.take k) ++ (wHart ++ [10]) ++ linesB (l.take m)).length ≤ 20000 := by
     have h1 := gD (l.take m) fun s hs => HL.out.2 s (List.mem_of_mem_take hs)
     rw [List.length_take] at h1
     have h2 := HL.out.1
     simp only [List.length_append, wHart, List.length_cons, List.length_nil]
     unfold linesB
     omega
    by_cases hlm : m < l.length
    ·obtain ⟨b2, off2, hab2, hb2w, hcell⟩ := HS.out.resolve_left (by intro h; rw [h] at hlm; cases hlm)
     subst hab2
     obtain ⟨s, hs⟩ : ∃ s, l.getD m default = s := ⟨_, rfl⟩
     have hsm : s ∈ l := by rw [← hs, List.getD_eq_getElem?_getD, List.getElem?_eq_getElem hlm]; exact List.getElem_mem hlm
     have p0 : wi.cell? ⟨b2, off2 + m * 10, none⟩ = some (.int .i64 s.kind) := (hbm.cell (p := ⟨b2, off2 + m * 10, none⟩) hb2w).trans (by have := hcell m hlm 0 (by omega); rw [hs] at this; exact this)
     have p1 : wi.cell? ⟨b2, off2 + m * 10 + 1, none⟩ = some (.int .i64 s.reg) := (hbm.cell (p := ⟨b2, off2 + m * 10 + 1, none⟩) hb2w).trans (by have := hcell m hlm 1 (by omega); rw [hs] at this; exact this)
     have p2 : wi.cell? ⟨b2, off2 + m * 10 + 2, none⟩ = some (.int .i64 s.var) := (hbm.cell (p := ⟨b2, off2 + m * 10 + 2, none⟩) hb2w).trans (by have := hcell m hlm 2 (by omega); rw [hs] at this; exact this)
     have p3 : wi.cell? ⟨b2, off2 + m * 10 + 3, none⟩ = some (.int .u32 s.num) := (hbm.cell (p := ⟨b2, off2 + m * 10 + 3, none⟩) hb2w).trans (by have := hcell m hlm 3 (by omega); rw [hs] at this; exact this)
     have p4 : wi.cell? ⟨b2, off2 + m * 10 + 4, none⟩ = some (.int .i64 s.data) := (hbm.cell (p := ⟨b2, off2 + m * 10 + 4, none⟩) hb2w).trans (by have := hcell m hlm 4 (by omega); rw [hs] at this; exact this)
     have p5 : wi.cell? ⟨b2, off2 + m * 10 + 5, none⟩ = some (.int .i64 s.byr) := (hbm.cell (p := ⟨b2, off2 + m * 10 + 5, none⟩) hb2w).trans (by have := hcell m hlm 5 (by omega); rw [hs] at this; exact this)
     have p6 : wi.cell? ⟨b2, off2 + m * 10 + 6, none⟩ = some (.bool s.aq) := (hbm.cell (p := ⟨b2, off2 + m * 10 + 6, none⟩) hb2w).trans (by have := hcell m hlm 6 (by omega); rw [hs] at this; exact this)
     have p7 : wi.cell? ⟨b2, off2 + m * 10 + 7, none⟩ = some (.bool s.rl) := (hbm.cell (p := ⟨b2, off2 + m * 10 + 7, none⟩) hb2w).trans (by have := hcell m hlm 7 (by omega); rw [hs] at this; exact this)
     have p8 : wi.cell? ⟨b2, off2 + m * 10 + 8, none⟩ = some (.int .i64 s.pred) := (hbm.cell (p := ⟨b2, off2 + m * 10 + 8, none⟩) hb2w).trans (by have := hcell m hlm 8 (by omega); rw [hs] at this; exact this)
     have p9 : wi.cell? ⟨b2, off2 + m * 10 + 9, none⟩ = some (.int .i64 s.succ) := (hbm.cell (p := ⟨b2, off2 + m * 10 + 9, none⟩) hb2w).trans (by have := hcell m hlm 9 (by omega); rw [hs] at this; exact this)
     have hb3 : Below wi.heap.size wi (wi.alloc (.cells #[.int .i64 s.kind, .int .i64 s.reg, .int .i64 s.var, .int .u32 s.num, .int .i64 s.data, .int .i64 s.byr, .bool s.aq, .bool s.rl, .int .i64 s.pred, .int .i64 s.succ] 47)) := (Below.refl _ _).alloc (Nat.le_refl _) _
     have HLC : Hid (Calls Tryz.prog 67 #[.agg #[.int .i64 s.kind, .int .i64 s.reg, .int .i64 s.var, .int .u32 s.num, .int .i64 s.data, .int .i64 s.byr, .bool s.aq, .bool s.rl, .int .i64 s.pred, .int .i64 s.succ]] (wi.alloc (.cells #[.int .i64 s.kind, .int .i64 s.reg, .int .i64 s.var, .int .u32 s.num, .int .i64 s.data, .int .i64 s.byr, .bool s.aq, .bool s.rl, .int .i64 s.pred, .int .i64 s.succ] 47)) fun e w' => e = .returned (.string ⟨(lineB s).toArray⟩) ∧ Below (wi.alloc (.cells #[.int .i64 s.kind, .int .i64 s.reg, .int .i64 s.var, .int .u32 s.num, .int .i64 s.data, .int .i64 s.byr, .bool s.aq, .bool s.rl, .int .i64 s.pred, .int .i64 s.succ] 47)).heap.size (wi.alloc (.cells #[.int .i64 s.kind, .int .i64 s.reg, .int .i64 s.var, .int .u32 s.num, .int .i64 s.data, .int .i64 s.byr, .bool s.aq, .bool s.rl, .int .i64 s.pred, .int .i64 s.succ] 47)) w') :=
      Lib.hid (line_c (HL.out.2 s hsm).1 (HL.out.2 s hsm).2 ((HP1.out.below hbm).below hb3))
     have h16 := HL.out.1
     have hll := oN (HL.out.2 s hsm).1 (HL.out.2 s hsm).2
     have HG3 : Hid (BldAt w1.heap.size (printT (t.take k) ++ (wHart ++ [10]) ++ linesB (l.take m)) (wi.alloc (.cells #[.int .i64 s.kind, .int .i64 s.reg, .int .i64 s.var, .int .u32 s.num, .int .i64 s.data, .int .i64 s.byr, .bool s.aq, .bool s.rl, .int .i64 s.pred, .int .i64 s.succ] 47))) := Lib.hid (mA hgm hb3)
     have HBM := Lib.hid hbm
     have HMT : Hid (linesB (l.take (m + 1)) = linesB (l.take m) ++ (lineB s ++ [10])) := Lib.hid (by rw [linesB_take l m hlm, hs])
     clear hcell hs hb3 hgm hbm
     go_wp2_with (go_at_call 67; refine HLC.out.mono ?_)
     rintro e w4 ⟨rfl, hb4⟩
     have hg4 := mA HG3.out hb4
     have HW4 := Lib.hid (qI (s := lineB s ++ [10]) hg4 (by simp only [List.length_append, List.length_cons, List.length_nil] at hlenM ⊢; omega) (Nat.le_of_lt (tT hg4)))
     have HB4 : Hid (Below w1.heap.size w1 w4) := Lib.hid ((HBM.out.trans ((Below.refl _ wi).alloc hzi _)).trans (hb4.mono (by simp; omega)))
     clear hb4 hg4 HG3 HLC
     go_wp2_with (go_at_call 66; refine HW4.out.mono ?_)
     rintro e w5 ⟨rfl, hg5, hb5⟩
     clear HW4 p0 p1 p2 p3 p4 p5 p6 p7 p8 p9
     go_wp2
     go_roundw
     case rel => exact ⟨m + 1, by omega, by go_num, by rw [HMT.out, ← List.append_assoc]; exact hg5, HB4.out.trans hb5⟩
     case measure => simp [intOf]; omega
    ·have hme : m = l.length := by omega
     subst hme
     rw [List.take_length] at hgm
     go_wp2
     go_roundw
     case rel => exact ⟨k + 1, by omega, by go_num, by rw [HTK.out]; exact hgm, hbm⟩
     case measure => simp [intOf]; omega
  ·have hke : k = t.length := by omega
   subst hke
   rw [List.take_length] at hg
   have hne : printT t ≠ [] := by
    cases t with
    | nil => simp at hk1
    | cons l t => simp [printT, threadB]
   have HS := Lib.hid (Tryz.Builder_String w1.heap.size w1.heap.size (printT t) wo hg hne)
   have HB := Lib.hid hb
   clear hg hb
   go_wp2_with (go_at_call 68; refine HS.out.mono ?_)
   rintro e w2 ⟨rfl, hb2⟩
   go_wp2
   go_ret2
   exact ⟨rfl, HB1.out.trans ((HB.out.trans hb2).mono (Nat.le_of_lt z1))⟩
theorem mO (t : Ts) (hc : checkT t = 0) (hn : n32T t) : Pure E.P 32 [testOV t] (.tu [.bs (printT t), .int .i64 0]) :=
  ⟨⟨_, Tryz.func32, by decide, rfl⟩, fun G w vs N hr hw => by
    rw [RepOL] at hr
    obtain ⟨v, us, rfl, r0, hr⟩ := hr
    rw [RepOL] at hr
    subst hr
    unfold testOV at r0
    rw [RepO] at r0
    obtain ⟨cs, rfl, r0⟩ := r0
    rw [RepOL] at r0
    obtain ⟨v, us, hcs, r1, hr⟩ := r0
    rw [RepOL] at hr
    subst hr
    rw [RepO] at r1
    have r2 := r1
    rw [Rep] at r2
    obtain ⟨a, c, rfl, _⟩ := r2
    obtain rfl : cs = #[.slice a (t.map catRowT).length c] := by rw [← Array.toArray_toList (xs := cs), hcs]
    have hP : Lay9 w := KN.mono G.kn fun b o v h => hw.mem b o v h
    rw [List.length_map] at r1 ⊢
    refine (print_c t hc hn w a c hP (r1.mono (fun b o v h => hw.mem b o v h) _ _)).mono fun e w' ⟨h1, h2⟩ => ⟨_, G, _, Store.nil, h1, rfl, Gh.le.refl G, ?_, hw.below h2⟩
    rw [RepO]
    refine ⟨_, rfl, ?_⟩
    rw [RepOL]
    refine ⟨_, _, rfl, vO rfl, ?_⟩
    rw [RepOL]
    exact ⟨_, _, rfl, vO rfl, by rw [RepOL]⟩⟩
set_option maxHeartbeats 1000000 in
theorem printNo_p (t : Ts) (hc : ¬ checkT t = 0) : Pure E.P 32 [testOV t] (.tu [.bs [], .int .i64 (checkT t)]) := by
 have f1 : Frozen 1 := ⟨trivial⟩
 have c1 := fL t
 refine FnW.toR ?_
 refine yI (vs := [.tmp 2, .tmp 3]) Tryz.func32 (by decide) rfl Tryz.ntmps32 (Nat.le_of_ble_eq_true rfl) rfl ?_
 refine run ?_; refine aoR fun _ => ?_
 refine run ?_; refine aoR fun _ => ?_
 refine run ?_
 apply uA; exact rfl; exact .fn _ _ _; exact rfl; exact c1
 refine run ?_; refine aoR fun _ => ?_
 refine run ?_; refine cnd ?_ ?_
 refine bS (fun _ => ?_); (try omega)
 refine run ?_; refine aoR fun _ => ?_
 refine run ?_; rotate_left
 refine yX (fun _ => ?_); (try omega)
 all_goals exact tmpN2 rfl rfl rfl
end
end Go.Proofs.YtjogffchdejabaaGreatDoor
