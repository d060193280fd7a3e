/- Parts. -/
import Derived.Lib.ItoaMem
import Derived.WalkKit
import Derived.BigCall
import Derived.BigGuard
import Derived.Shelf.Strings.Builder1
import Derived.RangeFuncNested
import Derived.RecoverIn
import Derived.Lib.ItoaLen
import Derived.Lib.ParseIntBCases
import Derived.Maps.OwnSet
import Derived.Maps.OwnOps
import Derived.WideKeyEntry
import Derived.Test.YtjogffchdejabaaGreatDoorPt3
import Derived.Test.YtjogffchdejabaaGreatDoorPt4
import Derived.Test.YtjogffchdejabaaGreatDoorPt5
import Derived.Test.YtjogffchdejabaaGreatDoorPt6
set_option linter.unusedVariables false
set_option linter.unusedSimpArgs false
set_option maxHeartbeats 4000000
namespace Go.Proofs.YtjogffchdejabaaGreatDoor
open Go.Shelf Go.RowKit Go.Sort Go.Lib
def Pow10 (w : World) : Prop := ∀ i : Nat, i < 20 → w.cell? ⟨1, i, none⟩ = some (.int .u64 ((10 ^ i : Nat) : Int))
theorem Pow10.alloc {w : World} (h : Pow10 w) (o : Obj) : Pow10 (w.alloc o) := fun i hi => by
 have h0 := h i hi
 have hlt := World.block_lt_of_cell? w ⟨1, i, none⟩ h0
 exact (((Below.refl w.heap.size w).alloc (Nat.le_refl _) o).cell (p := ⟨1, i, none⟩) hlt).trans h0
theorem holds0 (w : World) (T : TypeId) (nd : Nat) (hs : nd ≤ 24) : Holds (fun (b : UInt8) => Value.int .u8 (b.toNat : Int)) (w.alloc (.cells Lib.zeros24 T)) w.heap.size 0 (Array.replicate nd (0 : UInt8)) := fun j hj => by
 have hj' : j < nd := by simpa using hj
 refine ⟨?_, World.frozen?_alloc_new _ _ _ _⟩
 rw [World.cell?_alloc_new, Lib.zeros24_at _ (by omega), getElem!_pos _ j hj]
 simp
theorem fin0 (w : World) (o : Obj) (dk : Array UInt8) (k : Nat) : ∃ os, (putRow (fun (b : UInt8) => Value.int .u8 (b.toNat : Int)) (w.alloc o) w.heap.size 0 dk).drewN k = grow (w.drewN k) os := by
 rw [alloc_eq_grow]
 obtain ⟨os', _, e⟩ := putRow_grow_new (fun (b : UInt8) => Value.int .u8 (b.toNat : Int)) w #[o] w.heap.size 0 dk (Nat.le_refl _)
 exact ⟨os', by rw [e]; rfl⟩
theorem eE : Tryz.prog.follows .mixedOrders = true := by kernel_rfl
set_option maxHeartbeats 2000000 in
set_option maxRecDepth 100000 in
theorem numDigits_c (u : Nat) (h1 : 1 ≤ u) (h2 : u < 18446744073709551616) (w : World) (hP : Pow10 w) :
  Calls Tryz.prog 228 #[.int .u64 u] w fun e w' => e = .returned (.int .i64 (Lib.nDigits u)) ∧ w' = w := by
 have mixed := eE
 have e1 : ∀ args w, (callFunc 170 args).run Tryz.prog w = .ok (.enter 170 args) w := enters_of Tryz.func170 (by kernel_rfl) rfl
 have e2 : ∀ args w, (callFunc 266 args).run Tryz.prog w = .ok (.enter 266 args) w := enters_of Tryz.func266 (by kernel_rfl) rfl
 have e3 : ∀ args w, (callFunc 267 args).run Tryz.prog w = .ok (.enter 267 args) w := enters_of Tryz.func267 (by kernel_rfl) rfl
 obtain ⟨hnd, h19⟩ := Lib.numDigits_eq u h1 h2
 have hL : Lib.bitLen u ≤ 64 := Lib.bitLen_le u 64 (Nat.le_refl _) h2
 have hcell := hP (Lib.l10 (Lib.bitLen u)) (by omega)
 have hto : ((u : Int)).toNat = u := by omega
 generalize hq : Lib.l10 (Lib.bitLen u) = q at hnd h19 hcell
 generalize hT : 10 ^ q = T at hnd hcell
 have h20 : q < 20 := by omega
 have Hnd := Lib.hid hnd
 clear hnd hP
 go_enter Tryz.func228, Tryz.ntmps228
 go_wp2_with (first
  | (go_at_fn 170; refine (Tryz.bits_Len64 _ _ (by omega) (by omega)).mono ?_; rintro e w' ⟨rfl, rfl⟩)
  | (go_at_fn 266; refine (Tryz.internal_strconv_log10Pow2 _ (by first | exact hL | (rw [hto]; exact hL)) _).mono ?_; rintro e w' ⟨rfl, rfl⟩)
  | (go_at_fn 267; refine (Tryz.internal_strconv_bool2_int _ _).mono ?_; rintro e w' ⟨rfl, rfl⟩))
 all_goals go_ret
 all_goals (
  refine ⟨?_, rfl⟩
  have hnd := Hnd.out
  congr 2
  split at hnd <;> simp_all <;> omega)
set_option maxHeartbeats 6400000 in
set_option maxRecDepth 100000 in
theorem fmtU_c (u : Nat) (hu64 : u < 18446744073709551616) (w : World) (hP : Pow10 w) :
  Calls Tryz.prog 187 #[.int .u64 u, .int .i64 10] w fun e w' => e = .returned (.string ⟨(Lib.decDigits u).toArray⟩) ∧ ∃ k os, w' = grow (w.drewN k) os := by
 have mixed := eE
 have e1 : ∀ args w, (callFunc 227 args).run Tryz.prog w = .ok (.enter 227 args) w := enters_of Tryz.func227 (by kernel_rfl) rfl
 have e2 : ∀ args w, (callFunc 228 args).run Tryz.prog w = .ok (.enter 228 args) w := enters_of Tryz.func228 (by kernel_rfl) rfl
 have e3 : ∀ args w, (callFunc 229 args).run Tryz.prog w = .ok (.enter 229 args) w := enters_of Tryz.func229 (by kernel_rfl) rfl
 by_cases hs : u < 100
 ·go_enter Tryz.func187, Tryz.ntmps187
  go_wp2_with (go_at_fn 227; refine (Tryz.internal_strconv_small u hs _).mono ?_; rintro e w' ⟨rfl, rfl⟩)
  go_ret
  exact ⟨rfl, 0, #[], by simp [World.drewN_zero]⟩
 ·have hu1 : 1 ≤ u := by omega
  have hnd20 : Lib.nDigits u ≤ 20 := by have := Lib.numDigits_eq u hu1 hu64; split at this <;> omega
  have hal : Tryz.prog.arrayLen 276 = 24 := by kernel_rfl
  have hsl1 : ∀ W, (Instr.sliceAt 276 (.pointer (some ⟨w.heap.size, 0, none⟩)) none (some (.int .i64 (Lib.nDigits u : Int))) none).run Tryz.prog W = .ok (.slice (some ⟨w.heap.size, 0, none⟩) (Lib.nDigits u) 24) W := fun W => by
   rw [run_sliceAt_array_h W 276 ⟨w.heap.size, 0, none⟩ (by kernel_rfl) .i64 (Lib.nDigits u : Int) (by omega) (by rw [hal]; omega)]
   go_simp
  have hH0 := holds0 w 276 (Lib.nDigits u) (by omega)
  have hfmt := Tryz.internal_strconv_formatBase10 w.heap.size 0 24 u (Array.replicate (Lib.nDigits u) 0) (w.alloc (.cells Lib.zeros24 276)) hH0 (by rw [Array.size_replicate]; exact Lib.lt_pow_nDigits u) hu64 (by rw [Array.size_replicate]; omega)
  rw [Array.size_replicate] at hfmt
  have HH0 := Lib.hid hH0
  have hP' := hP.alloc (.cells Lib.zeros24 276)
  clear hH0 hal
  go_enter Tryz.func187, Tryz.ntmps187
  go_wp2_with (first
   | (go_at_fn 228; refine (numDigits_c u hu1 hu64 _ hP').mono ?_; rintro e w' ⟨rfl, rfl⟩))
  go_at_fn 229
  refine hfmt.mono ?_
  rintro e w' ⟨rfl, k, v', dk, rfl, hF⟩
  have hcv : (convert 119 9 (.slice (some ⟨w.heap.size, 0, none⟩) (Lib.nDigits u) 24)).run Tryz.prog ((putRow (fun (b : UInt8) => Value.int .u8 (b.toNat : Int)) (w.alloc (.cells Lib.zeros24 276)) w.heap.size 0 dk).drewN k) = .ok (.string ⟨(Lib.decDigits u).toArray⟩) ((putRow (fun (b : UInt8) => Value.int .u8 (b.toNat : Int)) (w.alloc (.cells Lib.zeros24 276)) w.heap.size 0 dk).drewN k) := by
   have h := run_convert_bytes_back (P := Tryz.prog) ((putRow (fun (b : UInt8) => Value.int .u8 (b.toNat : Int)) (w.alloc (.cells Lib.zeros24 276)) w.heap.size 0 dk).drewN k) 119 9 5 ⟨w.heap.size, 0, none⟩ 24 (Lib.decDigits u) Tryz.underlying119 Tryz.underlying5 Tryz.underlying9 (fun j hj => by
    rw [Lib.row_is_numeral hF j hj, Lib.add_plain, World.cell?_drewN]
    exact cell?_putRow (fun (b : UInt8) => Value.int .u8 (b.toNat : Int)) _ w.heap.size 0 _ dk HH0.out (by rw [hF.size, Array.size_replicate]) j (by rw [hF.size]; rw [Lib.decDigits_length] at hj; exact hj))
   rw [Lib.decDigits_length] at h
   exact h
  go_wp2
  go_ret
  obtain ⟨os, eo⟩ := fin0 w (.cells Lib.zeros24 276) dk k
  exact ⟨rfl, k, os, eo⟩
set_option maxRecDepth 100000 in
theorem fmt_c (u : Nat) (hu64 : u < 18446744073709551616) (w : World) (hP : Pow10 w) :
  Calls Tryz.prog 127 #[.int .u64 u, .int .i64 10] w fun e w' => e = .returned (.string ⟨(Lib.decDigits u).toArray⟩) ∧ ∃ k os, w' = grow (w.drewN k) os := by
 have e1 : ∀ args w, (callFunc 187 args).run Tryz.prog w = .ok (.enter 187 args) w := enters_of Tryz.func187 (by kernel_rfl) rfl
 go_enter Tryz.func127, Tryz.ntmps127
 go_wp2_with (go_at_fn 187; refine (fmtU_c u hu64 _ hP).mono ?_; rintro e w' ⟨rfl, k, os, rfl⟩)
 go_ret
 exact ⟨rfl, k, os, rfl⟩
theorem below_grow (w : World) (k : Nat) (os : Array Obj) : Below w.heap.size w (grow (w.drewN k) os) := by
 refine ⟨?_, ?_, ?_, ?_, fun b hb => ?_⟩
 ·simp [grow, World.drewN]
 ·simp [grow, World.drewN]
 ·simp [grow, World.drewN]
 ·simp [grow]
 ·simp [grow, Array.getElem?_append_left, hb]
theorem kO {P : Program} {f : FuncId} {args : List OV} {l : Value} (hE : Enters P f) (hl : l.oneCell' = true)
  (h : ∀ (G : Gh) (w : World) (vs : List Value), RepOL G args vs → (∀ b o v, G.M b o = some v → w.cell? ⟨b, o, none⟩ = some v) → Calls P f vs.toArray w fun e w' => e = .returned l ∧ Below w.heap.size w w') : Pure P f args (.d (.c l)) :=
 ⟨hE, fun G w vs N hr hw => (h G w vs hr hw.mem).mono fun e w' ⟨h1, h2⟩ => ⟨l, G, .d (.c l), Store.nil, h1, rfl, Gh.le.refl G, by rw [RepO]; exact xB hl, hw.below h2⟩⟩
theorem oF (n : Int) (h0 : 0 ≤ n) (h1 : n ≤ 18446744073709551615) : Pure E.P 127 [.int .u64 n, .int .i64 10] (.bs (decDigits n.toNat)) := kO ⟨_, Tryz.func127, by decide, rfl⟩ rfl fun G w vs hr hm => by
 rw [RepOL] at hr
 obtain ⟨v, us, rfl, r0, hr⟩ := hr
 rw [RepOL] at hr
 obtain ⟨v2, us, rfl, r2, hr⟩ := hr
 rw [RepOL] at hr
 subst hr
 rw [vA r0, vA r2]
 have e : n = (n.toNat : Int) := by omega
 rw [e]
 refine (fmt_c n.toNat (by omega) w fun i hi => hm _ _ _ (G.kn i hi)).mono fun e w' ⟨h1, k, os, h2⟩ => ⟨h1, ?_⟩
 subst h2
 exact below_grow w k os
theorem itoa_p (n : Nat) (h : n < 100) : Pure E.P 136 [.int .i64 n] (.bs (decDigits n)) := kO ⟨_, Tryz.func136, by decide, rfl⟩ rfl fun G w vs hr hm => by
 rw [RepOL] at hr
 obtain ⟨v, us, rfl, r0, hr⟩ := hr
 rw [RepOL] at hr
 subst hr
 rw [vA r0]
 refine (Tryz.strconv_Itoa_small n h w).mono fun e w' ⟨h1, h2⟩ => ⟨h1, ?_⟩
 subst h2
 exact Below.refl _ _
open Go.Shelf Go.RowKit Go.Sort Go.Lib
theorem lX : (Tryz.prog.info? 121).map (·.size) = some 2 := by kernel_rfl
theorem liesB72 : liesAt Tryz.prog Tryz.prog.depth 121 (2 / Tryz.prog.cellsOf 121) 0 121 1 = true := by kernel_rfl
theorem infoB5 : (Tryz.prog.info? 5).map (fun i => (i.zero, i.size, i.bytes)) = some (some (.int .u8 0), 1, 1) := by kernel_rfl
set_option maxHeartbeats 1000000 in
set_option maxRecDepth 100000 in
theorem ccUsed (b : Nat) (w : World) (h0 : w.cell? ⟨b, 0, none⟩ = some (.pointer (some ⟨b, 0, none⟩))) :
  Calls Tryz.prog 126 #[.pointer (some ⟨b, 0, none⟩)] w fun e w' => e = .returned (.tuple #[]) ∧ w' = w := by
 obtain ⟨j, hj, _⟩ := Option.map_eq_some_iff.1 lX
 have mixed := eE
 go_enter Tryz.func126, Tryz.ntmps126
 go_wp2
 rw [Lib.run_neq_ptr_same w _ Tryz.underlying118 hj]
 go_wp2
 go_end0
 exact ⟨rfl, rfl⟩
set_option maxHeartbeats 1000000 in
set_option maxRecDepth 100000 in
theorem ccFresh (b : Nat) (w : World) (h0 : w.cell? ⟨b, 0, none⟩ = some (.pointer none)) (hsh : w.shape? b = some (121, 2)) (hfz : w.frozen? ⟨b, 0, none⟩ = false) :
  Calls Tryz.prog 126 #[.pointer (some ⟨b, 0, none⟩)] w fun e w' => e = .returned (.tuple #[]) ∧ w' = w.setCell ⟨b, 0, none⟩ (.pointer (some ⟨b, 0, none⟩)) := by
 obtain ⟨j, hj, hjs⟩ := Option.map_eq_some_iff.1 lX
 have mixed := eE
 go_enter Tryz.func126, Tryz.ntmps126
 go_wp2
 rw [Lib.run_to_unsafe w ⟨b, 0, none⟩ Tryz.underlying118 Tryz.underlying235 hj (by rw [hjs]; decide) hsh (Nat.zero_lt_succ 1)]
 simp only [Result.andThen]
 rw [Oper.upon_value]
 go_wp2
 rw [run_callFunc_extern Tryz.func186 (by kernel_rfl) (by kernel_rfl) (by kernel_rfl) (e := Extern.AbiNoEscape.same) (by kernel_rfl)]
 rw [Lib.run_noEscape]
 simp only [Result.andThen]
 rw [Oper.upon_value]
 go_wp2
 rw [Lib.run_from_unsafe w ⟨b, 0, none⟩ Tryz.underlying235 Tryz.underlying118 hj hsh liesB72]
 simp only [Result.andThen]
 rw [Oper.upon_value]
 go_wp2
 go_end0
 exact ⟨rfl, rfl⟩
theorem cc_c (B b : Nat) (bs : List Value) (w : World) (h : Lib.IsBuilder 121 5 B b bs w) :
  Calls Tryz.prog 126 #[.pointer (some ⟨b, 0, none⟩)] w fun e w' => e = .returned (.tuple #[]) ∧ (Lib.BuilderAt 121 5 B b (.pointer (some ⟨b, 0, none⟩)) bs w' ∧ Below B w w') := by
 rcases h with h | h
 ·refine (ccFresh b w h.cell0 h.shape h.frozen0).mono ?_
  rintro e w' ⟨rfl, rfl⟩
  exact ⟨rfl, h.used _, (Below.refl B w).setCell (p := ⟨b, 0, none⟩) h.1 _⟩
 ·refine (ccUsed b w h.cell0).mono ?_
  rintro e w' ⟨rfl, rfl⟩
  exact ⟨rfl, h, Below.refl B _⟩
set_option maxHeartbeats 2000000 in
set_option maxRecDepth 100000 in
theorem write_c (B b : Nat) (bs : List Value) (s : ByteArray) (w : World) (h : Lib.IsBuilder 121 5 B b bs w) (hlen : bs.length + s.size ≤ 140737488355328) (hBw : B ≤ w.heap.size) :
  Calls Tryz.prog 66 #[.pointer (some ⟨b, 0, none⟩), .string s] w fun e w' => e = .returned (.tuple #[.int .i64 s.size, .nilIface]) ∧ (Lib.BuilderAt 121 5 B b (.pointer (some ⟨b, 0, none⟩)) (bs ++ Lib.strCells s) w' ∧ Below B w w') := by
 obtain ⟨i0, hi, hz0, hz1, hz2⟩ := info_parts infoB5
 have mixed := eE
 have e240 : ∀ args w, (callFunc 126 args).run Tryz.prog w = .ok (.enter 126 args) w := enters_of Tryz.func126 (by kernel_rfl) rfl
 go_enter Tryz.func66, Tryz.ntmps66
 go_wp2_with (go_at_fn 126; refine (cc_c B b bs _ h).mono ?_)
 rintro e w1 ⟨rfl, h1, hb1⟩
 obtain ⟨hB, v, hbk, hown, hne⟩ := h1
 have c0 : w1.cell? ⟨b, 0, none⟩ = some (.pointer (some ⟨b, 0, none⟩)) := by rw [Lib.cell_of_heap hbk]; rfl
 have c1 : w1.cell? ⟨b, 1, none⟩ = some v := by rw [Lib.cell_of_heap hbk]; rfl
 go_wp2_with (at_builtin; refine Lib.wpList_append_own_string _ rfl _ _ 119 9 rfl B 5 i0 Tryz.underlying119 Tryz.underlying9 hi hz0 hz1 hz2 _ _ _ rfl hown s rfl ?c3 ?c4 ?c5 ?_)
 case c3 => unfold maxLen; omega
 case c4 => omega
 case c5 => have := hb1.size; omega
 intro v' w2 hown' hgrow _
 have hlt : b < w1.heap.size := by
  rcases Nat.lt_or_ge b w1.heap.size with h' | h'
  ·exact h'
  ·simp [Array.getElem?_eq_none h'] at hbk
 have hb2 : w2.heap[b]? = some (.cells #[.pointer (some ⟨b, 0, none⟩), v] 121 (0, 0)) := by
  rw [hgrow.block b hlt (fun e => hne e.symm)]
  exact hbk
 have d0 : w2.cell? ⟨b, 0, none⟩ = some (.pointer (some ⟨b, 0, none⟩)) := by rw [Lib.cell_of_heap hb2]; rfl
 have d1 : w2.cell? ⟨b, 1, none⟩ = some v := by rw [Lib.cell_of_heap hb2]; rfl
 have f1 : w2.frozen? ⟨b, 1, none⟩ = false := Lib.frozen_of_heap hb2 1
 obtain ⟨ao, n', cap, rfl⟩ : ∃ ao n' cap, v' = .slice ao n' cap := by
  rcases hown'.2 with ⟨hv, _⟩ | ⟨g, cap, cur, hv, _⟩
  ·exact ⟨_, _, _, hv⟩
  ·exact ⟨_, _, _, hv⟩
 go_wp2
 go_ret2
 refine ⟨rfl, ?_, ?_⟩
 ·exact Lib.BuilderAt.put (T := 121) (e := 5) hB hb2 (bs' := bs ++ Lib.strCells s) (by simpa [Lib.strCells_length] using hown') (by decide)
 ·exact (hb1.grown hgrow (by have := hb1.size; omega) (fun k hk => (hown.lt k hk).1)).setCell (p := ⟨b, 1, none⟩) hB _
abbrev Rows := List (Nat × (Stamp × Row))
def YBlks (Y : YJ) (G : Gh) (l : Rows) (b : Nat) : Prop := Blks G (stL l) b ∨ Y.D b
def YieldW (P : Program) (Y : YJ) (k : Nat) (τ : Stamp) (i i' : Nat) (args : List OV) (l0 : Rows) (R1 : Rows → Prop) (ans : Bool) : Prop :=
 ∀ (G : Gh) (w : World) (vs : List Value) (N : Nat) (β : Blk), Y.g.le G → G.μ k τ = some (some β) → Y.J i w → RepOL G args vs → WRel ⟨w, YBlks Y G l0, G, N⟩ G (stL l0) w →
  YieldAt Fence.wide 0 P β.b vs.toArray w (fun e w' => e = .returned (.bool ans) ∧ ∃ l1, R1 l1 ∧ ∃ G' σ', (stL l1).le σ' ∧ G.le G' ∧ WRel ⟨w, YBlks Y G l0, G, N⟩ G' σ' w' ∧ Y.J i' w')
def FnY (P : Program) (f : FuncId) (args : List OV) (Y : YJ) (i i' : Nat) (l0 : Rows) (R1 : Rows → Prop) : Prop :=
 Enters P f ∧ ∀ (G : Gh) (w : World) (vs : List Value) (N : Nat), Y.g.le G → Y.J i w → RepOL G args vs → WRel ⟨w, YBlks Y G l0, G, N⟩ G (stL l0) w →
  Calls P f vs.toArray w (fun e w' => (∃ x, e = .returned x) ∧ ∃ l1, R1 l1 ∧ ∃ G' σ', (stL l1).le σ' ∧ G.le G' ∧ WRel ⟨w, YBlks Y G l0, G, N⟩ G' σ' w' ∧ Y.J i' w')
def SeqW (P : Program) (f : FuncId) (fi ca : List OV) (ys : List (List OV)) : Prop :=
 ∀ (Y : YJ) (k : Nat) (τ : Stamp) (J : Nat → Rows → Prop) (m : Nat) (st : Bool), m ≤ ys.length → (st = false → m = ys.length) → (st = true → 0 < m) →
  (∀ i l, J i l → (l.map (·.1)).Nodup) → (∀ i l, J i l → ∀ e ∈ l, 1000 ≤ e.1) →
  (∀ i l0, i < m → J i l0 → YieldW P Y k τ i (i + 1) (ys.getD i []) l0 (J (i + 1)) (!(st && i + 1 == m))) → ∀ l0, J 0 l0 → FnY P f (fi ++ [.yl k τ] ++ ca) Y 0 m l0 (J m)
section
variable {E : Env} {v j : Nat} {ops : Array Oper} {K : Tm → Store → Prop} {rest : List Oper} {tm : Tm} {σ : Store} {dst : Option Tmp} {ty : TypeId} {pos : String} {af : Array Edge}
end
def DoneY (Y : YJ) (i' : Nat) (R1 : Rows → Prop) (e : Exit) (tm : Tm) (σ : Store) : Prop := (e = .normal ∨ e = .ret) ∧ tm GS = some (.gh i' Y) ∧ ∃ l1, R1 l1 ∧ (stL l1).le σ
def Tm.puts (tm : Tm) : List Tmp → List OV → Tm
 | p :: ps, y :: ys => Tm.puts (tm.put p y) ps ys
 | _, _ => tm
def setAll (tmps : Array Value) : List Tmp → List Value → Array Value
 | p :: ps, v :: vs => setAll (tmps.setIfInBounds p v) ps vs
 | _, _ => tmps
theorem WRel.allocNon {Γ : Ctx} {G : Gh} {σ : Store} {w : World} (h : WRel Γ G σ w) (o : Obj) : WRel Γ G σ (w.alloc o) := by
 have old : ∀ b, b < w.heap.size → (w.alloc o).heap[b]? = w.heap[b]? := fun b hb => by
  show (w.heap.push o)[b]? = _
  rw [Array.getElem?_push_lt hb, Array.getElem?_eq_getElem hb]
 exact {
  mem := fun b i v hm => by
   have h1 := h.mem b i v hm
   obtain ⟨o2, h2, h3⟩ := cells_of_cell h1
   rw [World.cell?_of_block (w := w) (old b (Array.getElem?_eq_some_iff.1 h2).1)]; exact h1
  own := fun k τ r hk => (h.own k τ r hk).imp id fun ⟨β, h1, h2, h3, h4⟩ => ⟨β, h1, h2.of_heap (old β.b h2.lt), h3, h4⟩
  inj := h.inj
  keep := fun b hb hS => (old b (Nat.lt_of_lt_of_le hb h.size)).trans (h.keep b hb hS)
  size := Nat.le_trans h.size (by rw [World.size_alloc]; omega)
  tape := h.tape
  os := h.os
  output := h.output
  g0 := h.g0
  new := h.new
  bound := h.bound
  low := h.low }
def jumpOf : Exit → Option Code
 | .ret => some .ret
 | .exit id => some (.exit id)
 | .goto t => some (.goto t)
 | _ => none
def plainX : Exit → Bool
 | .normal => true
 | .ret => true
 | .exit _ => true
 | .goto _ => true
 | _ => false
def RoundQ {X : Type} (ex : Exit) (last : Bool) (I : X → Prop) (S : X → Rows) (e : Exit) (_ : Tm) (σ : Store) : Prop := e = (bif last then ex else .normal) ∧ ∃ x, I x ∧ (stL (S x)).le σ
abbrev recAt (fn : FuncId) (tmps : Array Value) (ps : List Tmp) (assign body : Code) (dd : Nat) (ex : Exit) (m j : Nat) : Loop :=
 { state := bif (jumpOf ex).isSome && j == m then .done else .ready, pending := bif (jumpOf ex).isSome && j == m then jumpOf ex else none, fn, tmps, params := ps.toArray, assign, body, defers := dd }
def rangeYJ (G1 : Gh) (l : Nat) (rc : Nat → Loop) : YJ where
 g := G1
 J j w := w.heap[l]? = some (.loop (rc j))
 D b := b = l
 st _ _ _ h hb := (hb l rfl).trans h
 nc _ _ _ h hb := by subst hb; exact ⟨_, h, rfl⟩
section
variable {P : Program} {b : Frame} {a : Act} {k : List Item} {cs : List Frame} {w : World}
theorem wQ {c : Code} : step P (lone (b.atR a (.code (.scope c) :: k)) cs w) = .next (lone (b.atR a (.code c :: .inScope c :: k)) cs w) :=
 step_lone_go (by simp [stepG, stepG.exec, Frame.atR])
theorem stepR_inScope {c : Code} : step P (lone (b.atR a (.inScope c :: k)) cs w) = .next (lone (b.atR a k) cs w) :=
 step_lone_go (by simp [stepG, stepG.exec, Frame.atR])
end
theorem wpIn_scope {F : Fence} {n : Nat} {P : Program} {Q : Exit → Act → World → Prop} {a : Act} {w : World} {c : Code} (h : c.wpIn F n P (Exit.noGoto Q) a w) : (Code.scope c).wpIn F n P Q a w := by
 intro b k cs hro hb hr
 have h0 : (lone (b.atR a (.code (.scope c) :: k)) cs w).fenced P F := fenced_calm hb hr rfl
 obtain ⟨e, a₁, w₁, hq, harr⟩ := h b (.inScope c :: k) cs hro hb hr
 cases e with
 | normal => exact ⟨.normal, a₁, w₁, hq, .head h0 wQ (StepsIn.trans harr (.one (fenced_calm hb hr rfl) stepR_inScope))⟩
 | exit id' =>
  have hx : exitTo id' (.inScope c :: k) = exitTo id' k := by simp [exitTo]
  exact ⟨.exit id', a₁, w₁, hq, fun k' hk => .head h0 wQ (harr.1 k' (by rw [hx]; exact hk)),
   fun hr' hk => let ⟨k₁, h1, h2⟩ := harr.2 hr' (by rw [hx]; exact hk); ⟨k₁, h1, .head h0 wQ h2⟩⟩
 | goto l => exact hq.elim
 | ret => exact ⟨_, a₁, w₁, hq, .of_steps (.one h0 wQ) harr⟩
 | panic ch => exact ⟨_, a₁, w₁, hq, .of_steps (.one h0 wQ) harr⟩
 | outgrown => exact ⟨_, a₁, w₁, hq, .of_steps (.one h0 wQ) harr⟩
def NoGoto (Q : Exit → Tm → Store → Prop) : Exit → Tm → Store → Prop
 | .goto _, _, _ => False
 | e, tm, σ => Q e tm σ
theorem awp_scope {P : Program} {n : Nat} {c : Code} {Q : Exit → Tm → Store → Prop} {tm : Tm} {σ : Store} (h : awp P n c (NoGoto Q) tm σ) : awp P n (.scope c) Q tm σ := fun C ro G a w hro hs =>
 wpIn_scope (wpIn_mono (h C ro G a w hro hs) fun e a w ⟨C', G, tm, σ, h0, h1, h2⟩ => by
  cases e <;> first | exact h2.elim | exact ⟨C', G, tm, σ, h0, h1, h2⟩)
theorem ng_n {Q : Exit → Tm → Store → Prop} {tm : Tm} {σ : Store} (h : Q .normal tm σ) : NoGoto Q .normal tm σ := h
theorem ng_r {Q : Exit → Tm → Store → Prop} {tm : Tm} {σ : Store} (h : Q .ret tm σ) : NoGoto Q .ret tm σ := h
theorem ng_x {Q : Exit → Tm → Store → Prop} {id : Nat} {tm : Tm} {σ : Store} (h : Q (.exit id) tm σ) : NoGoto Q (.exit id) tm σ := h
def RoundG {X : Type} (ex : Exit) (last : Bool) (I : X → Prop) (S : X → Rows) (Yo : YJ) (z : Nat) (e : Exit) (tm : Tm) (σ : Store) : Prop := e = (bif last then ex else .normal) ∧ tm GS = some (.gh z Yo) ∧ ∃ x, I x ∧ (stL (S x)).le σ
def rangeYG (G1 : Gh) (l : Nat) (rc : Nat → Loop) (Yo : YJ) (zf : Nat → Nat) : YJ where
 g := G1
 J j w := w.heap[l]? = some (.loop (rc j)) ∧ Yo.J (zf j) w
 D b := b = l ∨ Yo.D b
 st _ w w' h hb := ⟨(hb l (Or.inl rfl)).trans h.1, Yo.st _ w w' h.2 fun b hb' => hb b (Or.inr hb')⟩
 nc _ w b h hb := by
  rcases hb with rfl | hb
  ·exact ⟨_, h.1, rfl⟩
  ·exact Yo.nc _ w b h.2 hb
def FnYA (P : Program) (f : FuncId) (args : List OV) (Y : YJ) (i i' : Nat) (l0 : Rows) (r : OV) (R1 : Rows → Prop) : Prop :=
 Enters P f ∧ ∀ (G : Gh) (w : World) (vs : List Value) (N : Nat), Y.g.le G → Y.J i w → RepOL G args vs → WRel ⟨w, YBlks Y G l0, G, N⟩ G (stL l0) w →
  Calls P f vs.toArray w (fun e w' => ∃ x, e = .returned x ∧ ∃ l1, R1 l1 ∧ ∃ G' σ', (stL l1).le σ' ∧ G.le G' ∧ RepO G' r x ∧ WRel ⟨w, YBlks Y G l0, G, N⟩ G' σ' w' ∧ Y.J i' w')
section
variable {P : Program} {v j : Nat} {tm : Tm} {σ : Store} {dst : Option Tmp} {ty : TypeId} {pos : String} {af : Array Edge} {gd : Option (Nat × Bool)}
end
section
variable {E : Env} {v j : Nat} {ops : Array Oper} {K : Tm → Store → Prop} {rest : List Oper} {tm : Tm} {σ : Store} {dst : Option Tmp} {ty : TypeId} {pos : String} {af : Array Edge}
end
def DoneYA (Y : YJ) (i' t : Nat) (r : OV) (R1 : Rows → Prop) (e : Exit) (tm : Tm) (σ : Store) : Prop := (e = .normal ∨ e = .ret) ∧ tm GS = some (.gh i' Y) ∧ tm t = some r ∧ ∃ l1, R1 l1 ∧ (stL l1).le σ
section
variable {F : Fence} {n : Nat} {P : Program}
end
def FnP (P : Program) (f : FuncId) (args : List OV) (l0 : Rows) (ch : List PanicEntry) (R1 : Rows → Prop) : Prop :=
 Enters P f ∧ ∀ (G : Gh) (w : World) (vs : List Value) (N : Nat), RepOL G args vs → WRel ⟨w, Blks G (stL l0), G, N⟩ G (stL l0) w →
  Calls P f vs.toArray w (fun e w' => e = .panicked ch ∧ ∃ l1, R1 l1 ∧ ∃ G' σ', (stL l1).le σ' ∧ G.le G' ∧ WRel ⟨w, Blks G (stL l0), G, N⟩ G' σ' w')
def PanK (P : Program) (ch : List PanicEntry) (Q : Exit → Tm → Store → Prop) (x : Operand) (xs : List Operand) (tm : Tm) (σ : Store) : Prop :=
 ∃ y f fi ca ys l0, ∃ R1 : Rows → Prop, ev tm x = some y ∧ IsFn y f fi ca ∧ evs tm xs = some ys ∧ FnP P f (fi ++ ys ++ ca) l0 ch R1 ∧ (stL l0).le σ ∧ (∀ l1, R1 l1 → (l1.map (·.1)).Nodup) ∧ ∀ l1, R1 l1 → Q (.panic ch) tm ((σ.apply (dels l0)).apply (outD l1))
def MarksOut (P : Program) (K : World → Prop) : List Deferred → World → Prop
 | [], w => K w
 | d :: ds, w => ∃ r w', d.target = .collected r ∧ (Instr.takeDeferred r).run P w = .ok [] w' ∧ MarksOut P K ds w'
def PostD (P : Program) (fn : Func) (c0 : Frame) (cs : List Frame) (R : Ending → FrameMode → World → Prop) (e : Exit) (a : Act) (cs' : List Frame) (w : World) : Prop :=
 (e = .normal ∨ e = .ret) ∧ ∃ u', cs' = { c0 with mode := u' } :: cs ∧ MarksOut P (fun w' => ∃ v, (results fn a.tmps).run P w' = .ok v w' ∧ R (.returned v) u' w') a.defers w
def FnD (P : Program) (f : FuncId) (args : List OV) (u : FrameMode) (l0 : Rows) (u' : FrameMode) (R1 : Rows → Prop) : Prop :=
 Enters P f ∧ ∀ (G : Gh) (w : World) (vs : List Value) (N : Nat), RepOL G args vs → WRel ⟨w, Blks G (stL l0), G, N⟩ G (stL l0) w →
  CallsDIn Fence.wide 0 P f vs.toArray u w (fun e u2 w' => (∃ x, e = .returned x) ∧ u2 = u' ∧ ∃ l1, R1 l1 ∧ ∃ G' σ', (stL l1).le σ' ∧ G.le G' ∧ WRel ⟨w, Blks G (stL l0), G, N⟩ G' σ' w')
def Done1 (R1 : Rows → Prop) (e : Exit) (_ : Tm) (σ : Store) : Prop := (e = .normal ∨ e = .ret) ∧ ∃ l1, R1 l1 ∧ (stL l1).le σ
theorem SRel.enter {P : Program} {fn : Func} {n : Nat} {args : List OV} {vs : List Value} {G : Gh} {w : World} {Γ : Ctx} {σ : Store} (hn : fn.ntmps = n) (hl : args.length ≤ n) (hv : RepOL G args vs) (hw : WRel Γ G σ w) (hΓ : Γ.w0 = w) :
  SRel n ⟨Γ, fun _ => none, [], none, w.heap.size, fun _ => False, fun _ h => h.elim, by rw [hΓ]; exact Nat.le_refl _, []⟩ G (Tm.ini args) σ { tmps := vs.toArray ++ Array.replicate (fn.ntmps - vs.toArray.size) undef, defers := [] } w := by
 have hlen := hv.length
 refine ⟨by simp; omega, rfl, fun t y hy => Or.inr ?_, hw, fun b o hb => (by cases hb), ⟨by simp, fun d hd => (by cases hd), fun l hl => (by cases hl)⟩, fun i Y hi => by cases hi⟩
 obtain ⟨x, h1, h2⟩ := hv.get (Tm.ini_get hy)
 refine ⟨x, ?_, h2⟩
 have hlt : t < vs.length := by
  rcases Nat.lt_or_ge t vs.length with hh | hh
  ·exact hh
  ·rw [List.getElem?_eq_none hh] at h1; cases h1
 rw [Array.getElem?_append_left (by simpa using hlt)]
 simpa using h1
def Recovers : FrameMode → Value → FrameMode → Prop
 | .returning, v, u => v = .nilIface ∧ u = .returning
 | .panicking ({ v := x, recovered := false, goexit := false } :: older), v, u => v = x ∧ u = .panicking ({ v := x, recovered := true } :: older)
 | _, _, _ => False
inductive ResC (E : Env) (tm : Tm) (σ : Store) : ResultVar → OV → Prop where
 | one {v : ResultVar} {r : OV} (h : ResAt E tm σ v r) : ResC E tm σ v r
 | cell {t T : Nat} {te : TE} {k : Nat} {τ : Stamp} {s : Nat} {y : OV} {row : List OV} {rest : List (List OV)} (hT : E.tab T = some te) (ha : te.k.isAgg = false) (ht : tm t = some (.lo k τ s 0 0)) (hk : σ k = some (τ, ⟨s, (y :: row) :: rest⟩)) : ResC E tm σ (.cell t T) y
inductive ResCs (E : Env) (tm : Tm) (σ : Store) : List ResultVar → List OV → Prop where
 | nil : ResCs E tm σ [] []
 | cons {v : ResultVar} {r : OV} {vs : List ResultVar} {rs : List OV} (h : ResC E tm σ v r) (hl : ResCs E tm σ vs rs) : ResCs E tm σ (v :: vs) (r :: rs)
def EndF (Γ : Ctx) (Rr : OV → Store → Prop) (Rp : List PanicEntry → Store → Prop) (e : Ending) (w' : World) : Prop :=
 (∃ x r G' σ', e = .returned x ∧ RepO G' r x ∧ Rr r σ' ∧ Γ.G0.le G' ∧ WRel Γ G' σ' w') ∨ ∃ ch G' σ', e = .panicked ch ∧ Rp ch σ' ∧ Γ.G0.le G' ∧ WRel Γ G' σ' w'
def awpF (E : Env) (n : Nat) (fn : Func) (c : Code) (Rr : OV → Store → Prop) (Rp : List PanicEntry → Store → Prop) (tm : Tm) (σ : Store) : Prop :=
 ∀ (Γ : Ctx) (C : Cx) (G : Gh) (a : Act) (w : World), C.Γ = Γ → C.base = Γ.w0.heap.size → C.d0 = [] → C.ro = none → SRel n C G tm σ a w → c.wpIn Fence.wide 0 E.P (bodyPostM Fence.wide 0 E.P fn (EndF Γ Rr Rp)) a w
def modeOf : Exit → Option FrameMode
 | .normal => some .returning
 | .ret => some .returning
 | .panic ch => some (.panicking ch)
 | _ => none
def FinM (E : Env) (vs : List ResultVar) (Rr : OV → Store → Prop) (Rp : List PanicEntry → Store → Prop) : FrameMode → Tm → Store → Prop
 | .returning, tm, σ => tm GS = none ∧ ∃ rs, ResCs E tm σ vs rs ∧ Rr (packO rs) σ
 | .panicking ch, _, σ => Rp ch σ
 | .run, _, _ => False
def Fin0 (E : Env) (vs : List ResultVar) (Rr : OV → Store → Prop) (Rp : List PanicEntry → Store → Prop) (e : Exit) (tm : Tm) (σ : Store) : Prop := ∃ u, modeOf e = some u ∧ FinM E vs Rr Rp u tm σ
def FinD (E : Env) (vs : List ResultVar) (g : FuncId) (ca : List OV) (Rr : OV → Store → Prop) (Rp : List PanicEntry → Store → Prop) (e : Exit) (tm : Tm) (σ : Store) : Prop :=
 ∃ u, modeOf e = some u ∧ ∃ l0 u', ∃ R1 : Rows → Prop, FnD E.P g ca u l0 u' R1 ∧ (stL l0).le σ ∧ (∀ l1, R1 l1 → (l1.map (·.1)).Nodup) ∧ ∀ l1, R1 l1 → FinM E vs Rr Rp (settle u') tm ((σ.apply (dels l0)).apply (outD l1))
section
variable {E : Env} {n : Nat} {fn : Func} {vs : List ResultVar} {Rr : OV → Store → Prop} {Rp : List PanicEntry → Store → Prop}
end
section
variable {E : Env} {v j : Nat} {ops : Array Oper} {K : Tm → Store → Prop} {KD : List Foot → Tm → Store → Prop} {acc : List Foot} {rest : List Oper} {tm : Tm} {σ : Store} {ty : TypeId} {pos : String} {af : Array Edge}
theorem nW {dst : Option Tmp} {T T' : TypeId} {x y : Operand} {a b : List UInt8} (hx : ev tm x = some (.bs a)) (hy : ev tm y = some (.bs b)) (hcont : AO E.P v ops K (j + 1) rest (tm.putO dst (.bool (decide (a = b)))) (σ.apply [])) : AO E.P v ops K j (⟨dst, .binOp .eql T x y T', ty, pos, af, none⟩ :: rest) tm σ := uG (Y_eqlL hx hy) hcont
theorem uJ {dst : Option Tmp} {T T' : TypeId} {x y : Operand} {a b : List UInt8} (hx : ev tm x = some (.bs a)) (hy : ev tm y = some (.bs b)) (hl : a.length + b.length ≤ 1152921504606846976) (hcont : AO E.P v ops K (j + 1) rest (tm.putO dst (.bs (a ++ b))) (σ.apply [])) : AO E.P v ops K j (⟨dst, .binOp .add T x y T', ty, pos, af, none⟩ :: rest) tm σ := uG (nT hx hy hl) hcont
theorem uM {dst : Option Tmp} {T T' : TypeId} {x y : Operand} {a b : List UInt8} (hx : ev tm x = some (.bs a)) (hy : ev tm y = some (.bs b)) (hl : a.length + b.length ≤ 1152921504606846976) (hcont : DO E.P v ops KD (j + 1) rest (tm.putO dst (.bs (a ++ b))) (σ.apply []) (Foot.mk [] (wkeys []) :: acc)) : DO E.P v ops KD j (⟨dst, .binOp .add T x y T', ty, pos, af, none⟩ :: rest) tm σ acc := vZ (nT hx hy hl) hcont
theorem xJ {dst : Option Tmp} {T : TypeId} {te : TE} {x : Operand} {lo hi : Option Operand} {l h : Nat} {a : List UInt8} (hT : E.tab T = some te) (hk : te.k = .sc .string) (hx : ev tm x = some (.bs a)) (hlo : Bnd tm lo 0 l) (hhi : Bnd tm hi a.length h) (h1 : l ≤ h) (h2 : h ≤ a.length) (hcont : AO E.P v ops K (j + 1) rest (tm.putO dst (.bs ((a.drop l).take (h - l)))) (σ.apply [])) : AO E.P v ops K j (⟨dst, .slice T x lo hi none, ty, pos, af, none⟩ :: rest) tm σ := uG (Y_sliceL hT hk hx hlo hhi h1 h2) hcont
end
structure Stp where
 kind : Int
 reg : Int
 var : Int
 num : Int
 data : Int
 byr : Int
 aq : Bool
 rl : Bool
 pred : Int
 succ : Int
 deriving DecidableEq, Inhabited
def Stp.acc (s : Stp) : Bool := decide (1 ≤ s.kind) && decide (s.kind ≤ 4)
def Stp.lds (s : Stp) : Bool := s.acc && !decide (s.kind = 2)
def Stp.sts (s : Stp) : Bool := s.acc && !decide (s.kind = 1)
def Stp.bare (s : Stp) : Stp := ⟨s.kind, bif s.lds || decide (s.kind = 6) then s.reg else 0, bif s.acc then s.var else 0, bif s.sts then s.num else 0, bif s.sts then s.data else 0, bif s.acc then s.byr else 0, bif s.acc then s.aq else false, bif s.acc then s.rl else false, bif decide (s.kind = 5) then s.pred else 0, bif decide (s.kind = 5) then s.succ else 0⟩
def inR (n a b : Int) : Bool := decide (a ≤ n) && decide (n ≤ b)
def Stp.right (s : Stp) : Bool :=
 if !decide (s = s.bare) || !inR s.kind 1 6 then false
 else if s.kind = 5 then inR s.pred 1 3 && inR s.succ 1 3
 else if (decide (s.kind = 6) || s.lds) && !inR s.reg 1 4 then false
 else inR s.var 0 3 && inR s.byr 0 4 && inR s.data 0 4 && (decide (s.data = 0) || decide (s.num = 0))
theorem uU {P : Program} {n : Nat} {c d : Code} {Q : Exit → Tm → Store → Prop} {tm : Tm} {σ : Store} {X : Type} (T : X → Tm) (S : X → Store) (h1 : awp P n c (fun e tm' σ' => e = .normal ∧ ∃ y, (T y).le tm' ∧ (S y).le σ') tm σ) (h2 : ∀ y, awp P n d Q (T y) (S y)) : awp P n (.seq c d) Q tm σ :=
 vU (awp_mono h1 fun e tm' σ' ⟨he, y, ht, hs⟩ => by subst he; exact wC (awp_le _ _ ht hs (h2 y)))
theorem wT {X : Type} {T : X → Tm} {S : X → Store} {tm : Tm} {σ : Store} (y : X) (ht : (T y).le tm) (hs : (S y).le σ) : Exit.normal = .normal ∧ ∃ y, (T y).le tm ∧ (S y).le σ := ⟨rfl, y, ht, hs⟩
set_option maxRecDepth 100000
def stTV (s : Stp) : List TV := [.c (.int .i64 s.kind), .c (.int .i64 s.reg), .c (.int .i64 s.var), .c (.int .u32 s.num), .c (.int .i64 s.data), .c (.int .i64 s.byr), .c (.bool s.aq), .c (.bool s.rl), .c (.int .i64 s.pred), .c (.int .i64 s.succ)]
def stOV (s : Stp) : OV := .ag ((stTV s).map .d)
set_option maxHeartbeats 1000000 in
theorem aP (s : Stp) : Pure E.P 48 [stOV s] (.bool s.acc) := by
 have f1 : Frozen 1 := ⟨trivial⟩
 refine fnA Tryz.func48 Tryz.ntmps48 ?_
 refine vU (aoR fun _ => ?_)
 refine q34 ?_; refine q12 (wE (wC (vU (aoR fun _ => ?_))))
 refine q32 ?_; refine q23 ?_
 apply oN; exact rfl; exact rfl
 refine q11 ?_
 apply spT; exact rfl
 intro hc_; refine q8
 apply spT; exact rfl
 intro hc_; refine q6
 apply spT; exact rfl
 intro hc_
 apply nZ; exact evm; exact evm
 refine q4 ?_; refine q12 (wE (wC ?_)); refine aM ?_; rotate_left
 all_goals exact uQ rfl rfl
set_option maxHeartbeats 1000000 in
theorem iH (s : Stp) : Pure E.P 114 [stOV s] (.bool s.lds) := by
 have f1 : Frozen 1 := ⟨trivial⟩
 have c1 := aP s
 refine fnA Tryz.func114 Tryz.ntmps114 ?_
 refine vU (aoR fun _ => ?_)
 refine q34 ?_; refine q12 (wE (wC (vU (aoR fun _ => ?_))))
 refine q33 ?_
 apply uD; exact rfl; exact .fn _ _ _; exact rfl; exact c1
 refine q11 ?_
 apply spT; exact rfl
 intro hc_; refine q8
 apply spT; exact rfl
 intro hc_; refine q6
 apply spT; exact rfl
 intro hc_; refine q26; refine q4 ?_; refine q12 (wE ?_); refine wC ?_; refine aM ?_
 rotate_left
 all_goals exact uQ rfl rfl
set_option maxHeartbeats 1000000 in
theorem dS (s : Stp) : Pure E.P 116 [stOV s] (.bool s.sts) := by
 have f1 : Frozen 1 := ⟨trivial⟩
 have c1 := aP s
 refine fnA Tryz.func116 Tryz.ntmps116 ?_
 refine vU (aoR fun _ => ?_)
 refine q34 ?_; refine q12 (wE (wC (vU (aoR fun _ => ?_))))
 refine q33 ?_
 apply uD; exact rfl; exact .fn _ _ _; exact rfl; exact c1
 refine q11 ?_
 apply spT; exact rfl
 intro hc_; refine q8
 apply spT; exact rfl
 intro hc_; refine q6
 apply spT; exact rfl
 intro hc_; refine q26; refine q4 ?_; refine q12 (wE ?_); refine wC ?_; refine aM ?_
 rotate_left
 all_goals exact uQ rfl rfl
set_option maxHeartbeats 1000000 in
theorem in9_p (n a b : Int) : Pure E.P 112 [.int .i64 n, .int .i64 a, .int .i64 b] (.bool (inR n a b)) := by
 refine fnA Tryz.func112 Tryz.ntmps112 ?_
 refine vU (aoR fun _ => ?_)
 refine q12 (wE (wC (vU (aoR fun _ => ?_))))
 iterate 2 refine q11 ?_
 apply oM; exact rfl; exact rfl
 refine q11 ?_
 apply spT; exact rfl
 intro hc_; refine q1
 apply spT; exact rfl
 intro hc_; refine q1
 apply spT; exact rfl
 intro hc_
 apply nZ; exact evm; exact evm
 refine q4 ?_; refine q12 (wE (wC ?_)); refine aM ?_; rotate_left
 all_goals exact uQ rfl rfl
def zSt : Stp := ⟨0, 0, 0, 0, 0, 0, false, false, 0, 0⟩
def Stp.b1 (s : Stp) : Stp := { zSt with kind := s.kind, reg := bif s.lds || decide (s.kind = 6) then s.reg else 0 }
def Stp.b2 (s : Stp) : Stp := { s.b1 with num := bif s.sts then s.num else 0, data := bif s.sts then s.data else 0 }
def Stp.b3 (s : Stp) : Stp := { s.b2 with var := bif s.acc then s.var else 0, byr := bif s.acc then s.byr else 0, aq := bif s.acc then s.aq else false, rl := bif s.acc then s.rl else false }
set_option maxHeartbeats 4000000 in
theorem bare_p (s : Stp) : Pure E.P 113 [stOV s] (stOV s.bare) := by
 have f1 : Frozen 1 := ⟨trivial⟩
 have c1 := aP s
 have c2 := iH s
 have c3 := dS s
 refine FnW.toR ?_
 refine bB (vs := [.cell 2 47]) Tryz.func113 (by decide) rfl Tryz.ntmps113 (Nat.le_of_ble_eq_true rfl) rfl ?_
 refine vU (aoR fun _ => ?_)
 refine q34 ?_
 apply jC; exact rfl
 refine wE ?_; rotate_left
 refine wC ?_
 rename_i v0
 refine vU (aoR fun _ => ?_)
 refine q32 ?_; refine q23 ?_; refine q54 ?_
 apply jC; exact rfl
 refine q15 (wE ?_); rotate_left
 refine wC ?_
 rename_i v1
 refine uU (X := Unit) (fun _ => tmL [(1, .d (.pt (stTV s) 0)), (2, .lo 2 (v0, 1) 10 0 0), (3, .lo 3 (v1, 3) 10 0 0)]) (fun _ => stL [(2, ((v0, 1), ⟨10, [(stTV zSt).map .d]⟩)), (3, ((v1, 3), ⟨10, [(stTV s.b1).map .d]⟩))]) ?_ fun _ => ?_
 ·refine vU (aoR fun _ => ?_)
  refine q33 ?_
  apply uD; exact rfl; exact .fn _ _ _; exact rfl; exact c2
  refine q11 ?_
  apply spF; exact rfl
  intro hc_; refine q8
  apply spF; exact rfl
  intro hc_; refine q6
  apply spF; exact rfl
  intro hc_; refine q7; refine q0 (wE ?_); refine wC ?_
  refine cnd ?_ ?_
  refine yR (fun hc_ => ?_); (try simp only [nrm] at hc_)
  refine aoR fun _ => ?_; refine q32 ?_; refine q23 ?_; refine q28 ?_; refine q15 (wE ?_)
  rotate_left; refine yS ?_
  refine vS (fun _ => ?_)
  refine uC fun _ => ?_; try omega
  refine zR ?_; rotate_left
  all_goals exact wT () leP (uP rfl (uN rfl (by first | (rw [show s.b1 = { zSt with kind := s.kind, reg := s.reg } from by (unfold Stp.b1; cases h1 : s.lds <;> by_cases h2 : s.kind = 6 <;> simp_all [zSt])]; (first | done | rfl)) | (rw [show s.b1 = { zSt with kind := s.kind } from by (unfold Stp.b1; cases h1 : s.lds <;> by_cases h2 : s.kind = 6 <;> simp_all [zSt])]; (first | done | rfl))) (vB _)))
 refine uU (X := Unit) (fun _ => tmL [(1, .d (.pt (stTV s) 0)), (2, .lo 2 (v0, 1) 10 0 0), (3, .lo 3 (v1, 3) 10 0 0)]) (fun _ => stL [(2, ((v0, 1), ⟨10, [(stTV zSt).map .d]⟩)), (3, ((v1, 3), ⟨10, [(stTV s.b2).map .d]⟩))]) ?_ fun _ => ?_
 ·refine vU (aoR fun _ => ?_)
  refine q33 ?_
  apply uD; exact rfl; exact .fn _ _ _; exact rfl; exact c3
  refine wE (wC ?_); refine cnd ?_ ?_
  refine vQ (fun _ => ?_)
  refine uF (E := E) ?_ (fun _ => ?_); exact rfl
  refine q52 ?_; refine q50 ?_; refine q52 ?_; refine q50 ?_; refine q56 ?_
  apply xN; exact rfl; exact rfl; exact rfl; exact rfl; exact rfl; exact rfl; (first | exact rfl | exact uH (by omega) (0 : Int) | exact uH (by omega) default | exact vD (by omega) (by omega) (0 : Int) | assumption); exact Nat.le_of_ble_eq_true rfl
  refine q56 ?_
  apply xN; exact rfl; exact rfl; exact rfl; exact rfl; exact rfl; exact rfl; (first | exact rfl | exact uH (by omega) (0 : Int) | exact uH (by omega) default | exact vD (by omega) (by omega) (0 : Int) | assumption); exact Nat.le_of_ble_eq_true rfl
  refine iV ?_ ?_; (first | ((try dsimp only [wkeys]); decide +kernel) | exact rfl)
  rotate_left
  refine vS (fun _ => ?_)
  refine zR ?_; rotate_left
  all_goals exact wT () leP (uP rfl (uN rfl (by first | (rw [show s.b2 = { s.b1 with num := s.num, data := s.data } from by (unfold Stp.b2; cases h1 : s.sts <;> simp_all [Stp.b1, zSt])]; (first | done | rfl)) | (rw [show s.b2 = s.b1 from by (unfold Stp.b2; cases h1 : s.sts <;> simp_all [Stp.b1, zSt])]; (first | done | rfl))) (vB _)))
 refine uU (X := Unit) (fun _ => tmL [(1, .d (.pt (stTV s) 0)), (2, .lo 2 (v0, 1) 10 0 0), (3, .lo 3 (v1, 3) 10 0 0)]) (fun _ => stL [(2, ((v0, 1), ⟨10, [(stTV zSt).map .d]⟩)), (3, ((v1, 3), ⟨10, [(stTV s.b3).map .d]⟩))]) ?_ fun _ => ?_
 ·refine vU (aoR fun _ => ?_)
  refine q33 ?_
  apply uD; exact rfl; exact .fn _ _ _; exact rfl; exact c1
  refine wE (wC ?_); refine cnd ?_ ?_
  refine vQ (fun _ => ?_)
  refine uF (E := E) ?_ (fun _ => ?_); exact rfl
  refine q52 ?_; refine q50 ?_; refine q52 ?_; refine q50 ?_; refine q52 ?_; refine q50 ?_; refine q52 ?_; refine q50 ?_; refine q56 ?_
  apply xN; exact rfl; exact rfl; exact rfl; exact rfl; exact rfl; exact rfl; (first | exact rfl | exact uH (by omega) (0 : Int) | exact uH (by omega) default | exact vD (by omega) (by omega) (0 : Int) | assumption); exact Nat.le_of_ble_eq_true rfl
  refine q56 ?_
  apply xN; exact rfl; exact rfl; exact rfl; exact rfl; exact rfl; exact rfl; (first | exact rfl | exact uH (by omega) (0 : Int) | exact uH (by omega) default | exact vD (by omega) (by omega) (0 : Int) | assumption); exact Nat.le_of_ble_eq_true rfl
  refine q56 ?_
  apply xN; exact rfl; exact rfl; exact rfl; exact rfl; exact rfl; exact rfl; (first | exact rfl | exact uH (by omega) (0 : Int) | exact uH (by omega) default | exact vD (by omega) (by omega) (0 : Int) | assumption); exact Nat.le_of_ble_eq_true rfl
  refine q56 ?_
  apply xN; exact rfl; exact rfl; exact rfl; exact rfl; exact rfl; exact rfl; (first | exact rfl | exact uH (by omega) (0 : Int) | exact uH (by omega) default | exact vD (by omega) (by omega) (0 : Int) | assumption); exact Nat.le_of_ble_eq_true rfl
  refine iV ?_ ?_; (first | ((try dsimp only [wkeys]); decide +kernel) | exact rfl)
  rotate_left
  refine vS (fun _ => ?_)
  refine zR ?_; rotate_left
  all_goals exact wT () leP (uP rfl (uN rfl (by first | (rw [show s.b3 = { s.b2 with var := s.var, byr := s.byr, aq := s.aq, rl := s.rl } from by (unfold Stp.b3; cases h1 : s.acc <;> simp_all [Stp.b2, Stp.b1, zSt])]; (first | done | rfl)) | (rw [show s.b3 = s.b2 from by (unfold Stp.b3; cases h1 : s.acc <;> simp_all [Stp.b2, Stp.b1, zSt])]; (first | done | rfl))) (vB _)))
 refine uU (X := Unit) (fun _ => tmL [(1, .d (.pt (stTV s) 0)), (2, .lo 2 (v0, 1) 10 0 0), (3, .lo 3 (v1, 3) 10 0 0)]) (fun _ => stL [(2, ((v0, 1), ⟨10, [(stTV zSt).map .d]⟩)), (3, ((v1, 3), ⟨10, [(stTV s.bare).map .d]⟩))]) ?_ fun _ => ?_
 ·refine vU (aoR fun _ => ?_)
  refine q32 ?_; refine q23 ?_; refine q46 (wE (wC ?_)); refine cnd ?_ ?_
  refine uB fun _ => ?_; try omega
  refine uF (E := E) ?_ (fun _ => ?_); exact rfl
  refine q52 ?_; refine q50 ?_; refine q52 ?_; refine q50 ?_; refine q56 ?_
  apply xN; exact rfl; exact rfl; exact rfl; exact rfl; exact rfl; exact rfl; (first | exact rfl | exact uH (by omega) (0 : Int) | exact uH (by omega) default | exact vD (by omega) (by omega) (0 : Int) | assumption); exact Nat.le_of_ble_eq_true rfl
  refine q56 ?_
  apply xN; exact rfl; exact rfl; exact rfl; exact rfl; exact rfl; exact rfl; (first | exact rfl | exact uH (by omega) (0 : Int) | exact uH (by omega) default | exact vD (by omega) (by omega) (0 : Int) | assumption); exact Nat.le_of_ble_eq_true rfl
  refine iV ?_ ?_; (first | ((try dsimp only [wkeys]); decide +kernel) | exact rfl)
  rotate_left
  refine uC fun _ => ?_; try omega
  refine zR ?_; rotate_left
  all_goals exact wT () leP (uP rfl (uN rfl (by first | (rw [show s.bare = { s.b3 with pred := s.pred, succ := s.succ } from by (unfold Stp.bare; by_cases h2 : s.kind = 5 <;> simp_all [Stp.b3, Stp.b2, Stp.b1, zSt])]; (first | done | rfl)) | (rw [show s.bare = s.b3 from by (unfold Stp.bare; by_cases h2 : s.kind = 5 <;> simp_all [Stp.b3, Stp.b2, Stp.b1, zSt])]; (first | done | rfl))) (vB _)))
 refine vU (aoR fun _ => ?_)
 refine q14 ?_; refine q15 (wE (wC ?_)); refine aM ?_; rotate_left
 exact oG rfl rfl rfl rfl rfl rfl
set_option maxRecDepth 100000
inductive EqF (P : Program) (d : Nat) (xs ys : Array Value) (w : World) : List (Nat × Nat) → Bool → Prop where
 | nil : EqF P d xs ys w [] true
 | cons {T o : Nat} {L : List (Nat × Nat)} {x y : Value} {b c : Bool} (h1 : (part T xs o).run P w = .ok x w) (h2 : (part T ys o).run P w = .ok y w) (he : (Op.equalIn d T x y).run P w = .ok b w) (hr : EqF P d xs ys w L c) : EqF P d xs ys w ((T, o) :: L) (b && c)
theorem eqF_run {P : Program} {d : Nat} {xs ys : Array Value} {w : World} {L : List (Nat × Nat)} {b : Bool} (h : EqF P d xs ys w L b) : ∀ fs : List Field, fs.map (fun f => (decide (f.name = "_"), f.type, f.offset)) = L.map (fun p => (false, p.1, p.2)) → (Op.eqFields d xs ys fs).run P w = .ok b w := by
 induction h with
 | nil =>
  intro fs e
  cases fs with
  | nil => unfold Op.eqFields; simp
  | cons f fs => simp at e
 | @cons T o L x y b c h1 h2 he hr ih =>
  intro fs e
  cases fs with
  | nil => simp at e
  | cons f fs =>
   simp only [List.map_cons, List.cons.injEq, Prod.mk.injEq, decide_eq_false_iff_not] at e
   obtain ⟨⟨e1, e2, e3⟩, e4⟩ := e
   subst e2 e3
   unfold Op.eqFields
   rw [if_pos e1]
   simp only [Sem.run_bind, h1, h2, he, Result.andThen_ok]
   cases b with
   | false => simp
   | true => simp only [Bool.not_true, Bool.false_eq_true, if_false, ih fs e4, Bool.true_and]
def eqSt (s t : Stp) : Bool := s.kind == t.kind && (s.reg == t.reg && (s.var == t.var && (s.num == t.num && (s.data == t.data && (s.byr == t.byr && (s.aq == t.aq && (s.rl == t.rl && (s.pred == t.pred && (s.succ == t.succ && true)))))))))
theorem kE (s t : Stp) : eqSt s t = decide (s = t) := by
 obtain ⟨a0, a1, a2, a3, a4, a5, a6, a7, a8, a9⟩ := s
 obtain ⟨b0, b1, b2, b3, b4, b5, b6, b7, b8, b9⟩ := t
 rw [Bool.eq_iff_iff]
 simp [eqSt]
def stVal (s : Stp) : Value := .agg #[.int .i64 s.kind, .int .i64 s.reg, .int .i64 s.var, .int .u32 s.num, .int .i64 s.data, .int .i64 s.byr, .bool s.aq, .bool s.rl, .int .i64 s.pred, .int .i64 s.succ]
theorem kD (s t : Stp) (w : World) : (Op.equalIn 10000 47 (stVal s) (stVal t)).run Tryz.prog w = .ok (eqSt s t) w := by
 unfold stVal
 rw [run_equalIn_agg w 9999 47 _ _ (by kernel_rfl) (by kernel_rfl)]
 have hi : ∀ x y : Int, (Op.equalIn 9999 3 (.int .i64 x) (.int .i64 y)).run Tryz.prog w = .ok (x == y) w := fun x y => run_equalIn_int w 9998 3 .i64 .i64 x y Tryz.underlying3
 have hk : ∀ x y : Int, (Op.equalIn 9999 45 (.int .i64 x) (.int .i64 y)).run Tryz.prog w = .ok (x == y) w := fun x y => run_equalIn_int w 9998 45 .i64 .i64 x y Tryz.underlying45
 have hu : ∀ x y : Int, (Op.equalIn 9999 34 (.int .u32 x) (.int .u32 y)).run Tryz.prog w = .ok (x == y) w := fun x y => run_equalIn_int w 9998 34 .u32 .u32 x y Tryz.underlying34
 have hb : ∀ x y : Bool, (Op.equalIn 9999 4 (.bool x) (.bool y)).run Tryz.prog w = .ok (x == y) w := fun x y => by cases x <;> cases y <;> kernel_rfl
 unfold eqSt
 obtain ⟨a0, a1, a2, a3, a4, a5, a6, a7, a8, a9⟩ := s
 obtain ⟨b0, b1, b2, b3, b4, b5, b6, b7, b8, b9⟩ := t
 dsimp only
 refine eqF_run (L := [(45, 0), (3, 1), (3, 2), (34, 3), (3, 4), (3, 5), (4, 6), (4, 7), (3, 8), (3, 9)]) ?_ _ (by kernel_rfl)
 refine .cons (by kernel_rfl) (by kernel_rfl) (hk a0 b0) ?_; refine .cons (by kernel_rfl) (by kernel_rfl) (hi a1 b1) ?_
 refine .cons (by kernel_rfl) (by kernel_rfl) (hi a2 b2) ?_; refine .cons (by kernel_rfl) (by kernel_rfl) (hu a3 b3) ?_
 refine .cons (by kernel_rfl) (by kernel_rfl) (hi a4 b4) ?_; refine .cons (by kernel_rfl) (by kernel_rfl) (hi a5 b5) ?_
 refine .cons (by kernel_rfl) (by kernel_rfl) (hb a6 b6) ?_; refine .cons (by kernel_rfl) (by kernel_rfl) (hb a7 b7) ?_
 refine .cons (by kernel_rfl) (by kernel_rfl) (hi a8 b8) ?_; refine .cons (by kernel_rfl) (by kernel_rfl) (hi a9 b9) ?_
 exact .nil
theorem eV {G : Gh} : ∀ {vs : List Value} {us : List Value}, RepOL G (vs.map fun v => OV.d (.c v)) us → us = vs
 | [], us, h => by rw [List.map_nil, RepOL] at h; exact h
 | v :: vs, us, h => by
  rw [List.map_cons, RepOL] at h
  obtain ⟨a, l, rfl, h1, h2⟩ := h
  rw [vA h1, eV h2]
theorem gV {G : Gh} {s : Stp} {u : Value} (h : RepO G (stOV s) u) : u = stVal s := by
 unfold stOV at h
 rw [RepO] at h
 obtain ⟨cs, rfl, h⟩ := h
 have := eV (vs := [.int .i64 s.kind, .int .i64 s.reg, .int .i64 s.var, .int .u32 s.num, .int .i64 s.data, .int .i64 s.byr, .bool s.aq, .bool s.rl, .int .i64 s.pred, .int .i64 s.succ]) h
 rw [show cs = cs.toList.toArray by simp, this]; rfl
section
variable {v j : Nat} {tm : Tm} {σ : Store} {dst : Option Tmp} {ty : TypeId} {pos : String} {af : Array Edge} {gd : Option (Nat × Bool)}
theorem Y_neqT {x y : Operand} {T' : TypeId} (p q : Stp) (hx : ev tm x = some (stOV p)) (hy : ev tm y = some (stOV q)) : YL E.P v j ⟨dst, .binOp .neq 47 x y T', ty, pos, af, gd⟩ tm σ [] (.bool (!decide (p = q))) [] := jA hx hy (fun M u w' w hu hv => by
 rw [gV hu, gV hv, ← kE]
 exact ⟨run_eqGuard_agg w _ _ _ _ _ _ (by kernel_rfl), by
  show (binOp .neq 47 (.agg _) (.agg _)).run E.P w = _
  rw [run_neq_struct, show E.P = Tryz.prog from rfl]
  exact congrArg (fun r => Result.andThen r fun (b : Bool) w' => Result.ok (Value.bool (!b)) w') (kD p q w)⟩) rfl
theorem Y_eqlT {x y : Operand} {T' : TypeId} (p q : Stp) (hx : ev tm x = some (stOV p)) (hy : ev tm y = some (stOV q)) : YL E.P v j ⟨dst, .binOp .eql 47 x y T', ty, pos, af, gd⟩ tm σ [] (.bool (decide (p = q))) [] := jA hx hy (fun M u w' w hu hv => by
 rw [gV hu, gV hv, ← kE]
 exact ⟨run_eqGuard_agg w _ _ _ _ _ _ (by kernel_rfl), by
  show (binOp .eql 47 (.agg _) (.agg _)).run E.P w = _
  rw [run_eql_struct, show E.P = Tryz.prog from rfl]
  exact congrArg (fun r => Result.andThen r fun (b : Bool) w' => Result.ok (Value.bool b) w') (kD p q w)⟩) rfl
end
section
variable {v j : Nat} {ops : Array Oper} {K : Tm → Store → Prop} {KD : List Foot → Tm → Store → Prop} {acc : List Foot} {rest : List Oper} {tm : Tm} {σ : Store} {ty : TypeId} {pos : String} {af : Array Edge}
theorem fK {dst : Option Tmp} {x y : Operand} {T' : TypeId} (p q : Stp) (hx : ev tm x = some (stOV p)) (hy : ev tm y = some (stOV q)) (hcont : DO E.P v ops KD (j + 1) rest (tm.putO dst (.bool (!decide (p = q)))) (σ.apply []) (Foot.mk [] (wkeys []) :: acc)) : DO E.P v ops KD j (⟨dst, .binOp .neq 47 x y T', ty, pos, af, none⟩ :: rest) tm σ acc := vZ (Y_neqT p q hx hy) hcont
theorem cR {dst : Option Tmp} {x y : Operand} {T' : TypeId} (p q : Stp) (hx : ev tm x = some (stOV p)) (hy : ev tm y = some (stOV q)) (hcont : AO E.P v ops K (j + 1) rest (tm.putO dst (.bool (decide (p = q)))) (σ.apply [])) : AO E.P v ops K j (⟨dst, .binOp .eql 47 x y T', ty, pos, af, none⟩ :: rest) tm σ := uG (Y_eqlT p q hx hy) hcont
end
set_option maxRecDepth 100000
section
variable {s : Stp} (h0 : s = s.bare) (h1 : inR s.kind 1 6 = true)
include h0 h1
theorem right2 (h5 : s.kind = 5) : (inR s.pred 1 3 && inR s.succ 1 3) = s.right := by
 unfold Stp.right
 rw [if_neg (by rw [decide_eq_true h0, h1]; decide), if_pos h5]
theorem right3 (h5 : ¬ s.kind = 5) (hc : s.kind = 6 ∨ s.lds = true) (h6 : inR s.reg 1 4 = false) : false = s.right := by
 unfold Stp.right
 rw [if_neg (by rw [decide_eq_true h0, h1]; decide), if_neg h5, if_pos (by rw [h6]; simpa using hc)]
theorem right4 (h5 : ¬ s.kind = 5) (h6 : inR s.reg 1 4 = true) : (inR s.var 0 3 && inR s.byr 0 4 && inR s.data 0 4 && (decide (s.data = 0) || decide (s.num = 0))) = s.right := by
 unfold Stp.right
 rw [if_neg (by rw [decide_eq_true h0, h1]; decide), if_neg h5, if_neg (by rw [h6]; simp)]
theorem right5 (h5 : ¬ s.kind = 5) (h6 : ¬ s.kind = 6) (h7 : s.lds = false) : (inR s.var 0 3 && inR s.byr 0 4 && inR s.data 0 4 && (decide (s.data = 0) || decide (s.num = 0))) = s.right := by
 unfold Stp.right
 rw [if_neg (by rw [decide_eq_true h0, h1]; decide), if_neg h5, if_neg (by rw [h7, decide_eq_false h6]; simp)]
end
theorem mX {s : Stp} (h : ¬ s = s.bare ∨ inR s.kind 1 6 = false) : false = s.right := by
 unfold Stp.right
 rw [if_pos (by rcases h with h | h <;> simp [h])]
set_option maxHeartbeats 4000000 in
theorem right9_p (s : Stp) : Pure E.P 47 [stOV s] (.bool s.right) := by
 have f1 : Frozen 1 := ⟨trivial⟩
 have c2 := bare_p s
 have c3 := iH s
 have ci := fun n a b => in9_p n a b
 refine fnA Tryz.func47 Tryz.ntmps47 ?_
 refine run ?_; refine aoR fun _ => ?_
 refine run ?_; refine aoR fun _ => ?_
 refine run ?_
 refine uF (E := E) ?_ (fun _ => ?_); exact rfl
 refine run ?_
 apply vK; exact rfl; exact .fn _ _ _; exact rfl; (exact c2)
 apply fK s s.bare; exact rfl; exact rfl
 refine run ?_
 apply dpF; exact rfl
 intro hc_
 have hp_ := hc_; try simp only [nrm] at hp_
 apply uI; ((refine EvM.mb _ rfl ?_; assumption)); exact .fn _ _ _; exact vF; (exact ci _ _ _)
 refine run ?_; refine cnd ?_ ?_
 refine yR (fun hc_ => ?_); (try simp only [nrm] at hc_)
 refine run ?_; refine aoR fun _ => ?_
 refine run ?_; rotate_left
 refine yS ?_
 refine wY (fun _ => ?_); (try omega)
 refine wD ?_
 refine vQ (fun _ => ?_)
 refine run ?_; refine aoR fun _ => ?_
 refine run ?_; refine cnd ?_ ?_
 refine uB fun _ => ?_; try omega
 refine run ?_; refine aoR fun _ => ?_
 refine run ?_
 apply uD; exact rfl; exact .fn _ _ _; exact rfl; (exact ci _ _ _)
 refine run ?_
 apply spT; exact rfl
 intro hc_
 have hp_ := hc_; try simp only [nrm] at hp_
 apply uI; ((refine EvM.mb _ rfl ?_; assumption)); exact .fn _ _ _; exact vF; (exact ci _ _ _)
 refine run ?_; rotate_left
 refine uC fun _ => ?_; try omega
 refine run ?_; refine aoR fun _ => ?_
 refine run ?_
 apply spF; exact rfl
 intro hc_
 have hp_ := hc_; try simp only [nrm] at hp_
 apply uI; (exact EvM.plain rfl rfl); exact .fn _ _ _; exact vF; (exact c3)
 refine run ?_; refine cnd ?_ ?_
 refine yR (fun hc_ => ?_); (try simp only [nrm] at hc_)
 refine run ?_; refine aoR fun _ => ?_
 refine run ?_
 apply uD; exact rfl; exact .fn _ _ _; exact rfl; (exact ci _ _ _)
 refine run ?_; refine cnd ?_ ?_; refine zM ?_
 refine vS (fun _ => ?_)
 refine run ?_; refine aoR fun _ => ?_
 refine run ?_; rotate_left
 refine wD ?_
 refine vQ (fun _ => ?_)
 refine run ?_; refine aoR fun _ => ?_
 refine run ?_
 apply uD; exact rfl; exact .fn _ _ _; exact rfl; (exact ci _ _ _)
 refine run ?_
 apply spT; exact rfl
 intro hc_
 have hp_ := hc_; try simp only [nrm] at hp_
 apply uI; ((refine EvM.mb _ rfl ?_; assumption)); exact .fn _ _ _; exact vF; (exact ci _ _ _)
 refine run ?_
 apply spT; exact rfl
 intro hc_
 have hp_ := hc_; try simp only [nrm] at hp_
 apply uI; ((refine EvM.mb _ rfl ?_; assumption)); exact .fn _ _ _; exact vF; (exact ci _ _ _)
 refine run ?_; rotate_left
 refine yS ?_
 refine uC fun _ => ?_; try omega
 refine vS (fun _ => ?_)
 refine run ?_; refine aoR fun _ => ?_
 refine run ?_
 apply uD; exact rfl; exact .fn _ _ _; exact rfl; (exact ci _ _ _)
 refine run ?_
 apply spT; exact rfl
 intro hc_
 have hp_ := hc_; try simp only [nrm] at hp_
 apply uI; ((refine EvM.mb _ rfl ?_; assumption)); exact .fn _ _ _; exact vF; (exact ci _ _ _)
 refine run ?_
 apply spT; exact rfl
 intro hc_
 have hp_ := hc_; try simp only [nrm] at hp_
 apply uI; ((refine EvM.mb _ rfl ?_; assumption)); exact .fn _ _ _; exact vF; (exact ci _ _ _)
 refine run ?_; rotate_left
 all_goals exact uQ rfl (by first | exact mX (by assumption) | exact right2 (by assumption) (by assumption) (by assumption) | exact right3 (by assumption) (by assumption) (by assumption) (by assumption) (by assumption) | exact right4 (by assumption) (by assumption) (by assumption) (by assumption) | exact right5 (by assumption) (by assumption) (by assumption) (by assumption) (by assumption))
open Go.Lib
abbrev Bt := List UInt8
def wFence : Bt := [102, 101, 110, 99, 101]
def wIf : Bt := [105, 102]
def wSwap : Bt := [115, 119, 97, 112]
def wAdd : Bt := [97, 100, 100]
def wEq : Bt := [61]
def wBy : Bt := [98, 121]
def wAq : Bt := [97, 113]
def wRl : Bt := [114, 108]
def wHart : Bt := [104, 97, 114, 116]
def regW (n : Int) : Bt := [114, UInt8.ofNat (48 + n.toNat)]
def nameW (n : Int) : Bt := [[120], [121], [122], [119]].getD n.toNat []
def setW (n : Int) : Bt := [[], [119], [114], [114, 119]].getD n.toNat []
def valW (d n : Int) : Bt := if 0 < d then regW d else decDigits n.toNat
def tailW (b : Int) (aq rl : Bool) : List Bt := (if 0 < b then [wBy, regW b] else []) ++ ((if aq then [wAq] else []) ++ (if rl then [wRl] else []))
def wordsOf (s : Stp) : List Bt :=
 if s.kind = 5 then [wFence, setW s.pred, setW s.succ]
 else if s.kind = 6 then [wIf, regW s.reg]
 else (if s.kind = 1 then [regW s.reg, wEq, nameW s.var]
  else if s.kind = 2 then [nameW s.var, wEq, valW s.data s.num]
  else if s.kind = 3 then [regW s.reg, wEq, wSwap, nameW s.var, valW s.data s.num]
  else [regW s.reg, wEq, wAdd, nameW s.var, valW s.data s.num]) ++ tailW s.byr s.aq s.rl
def joinC (c : UInt8) : List Bt → Bt
 | [] => []
 | [w] => w
 | w :: v :: ws => w ++ c :: joinC c (v :: ws)
def consW (x : UInt8) : List Bt → List Bt
 | [] => [[x]]
 | w :: ws => (x :: w) :: ws
def splitC (c : UInt8) : Bt → List Bt
 | [] => [[]]
 | x :: l => if x = c then [] :: splitC c l else consW x (splitC c l)
def regOf (w : Bt) : Option Int := if w = regW 1 then some 1 else if w = regW 2 then some 2 else if w = regW 3 then some 3 else if w = regW 4 then some 4 else none
def nameOf (w : Bt) : Option Int := if w = nameW 0 then some 0 else if w = nameW 1 then some 1 else if w = nameW 2 then some 2 else if w = nameW 3 then some 3 else none
def setOf (w : Bt) : Option Int := if w = setW 1 then some 1 else if w = setW 2 then some 2 else if w = setW 3 then some 3 else none
def numOf (w : Bt) : Option Nat :=
 if w = [] then none else
 match parseUintM 4294967295 0 w with
 | .ok u => if decDigits u = w then some u else none
 | _ => none
def operOf (w : Bt) : Option (Int × Int) :=
 if w.head? = some 114 then (regOf w).map fun n => (n, 0) else (numOf w).map fun n : Nat => (0, (n : Int))
def sufBy : List Bt → Option (Int × List Bt)
 | a :: b :: r => if a = wBy then (regOf b).map fun n => (n, r) else some (0, a :: b :: r)
 | ws => some (0, ws)
def sufAq (w : Bt) : List Bt → Bool × List Bt
 | a :: r => if a = w then (true, r) else (false, a :: r)
 | [] => (false, [])
def suffOf (ws : List Bt) : Option (Int × Bool × Bool) :=
 (sufBy ws).bind fun p => if (sufAq wRl (sufAq wAq p.2).2).2 = [] then some (p.1, (sufAq wAq p.2).1, (sufAq wRl (sufAq wAq p.2).2).1) else none
def fenceOf : List Bt → Option Stp
 | [_, a, b] => (setOf a).bind fun p => (setOf b).map fun q => ⟨5, 0, 0, 0, 0, 0, false, false, p, q⟩
 | _ => none
def ifOf : List Bt → Option Stp
 | [_, a] => (regOf a).map fun n => ⟨6, n, 0, 0, 0, 0, false, false, 0, 0⟩
 | _ => none
def bothOf (k : Int) : List Bt → Option Stp
 | r :: _ :: _ :: v :: o :: ws => (regOf r).bind fun r => (nameOf v).bind fun v => (operOf o).bind fun o => (suffOf ws).map fun x => ⟨k, r, v, o.2, o.1, x.1, x.2.1, x.2.2, 0, 0⟩
 | _ => none
def loadOf : List Bt → Option Stp
 | r :: _ :: v :: ws => (regOf r).bind fun r => (nameOf v).bind fun v => (suffOf ws).map fun x => ⟨1, r, v, 0, 0, x.1, x.2.1, x.2.2, 0, 0⟩
 | _ => none
def storeOf : List Bt → Option Stp
 | v :: _ :: o :: ws => (nameOf v).bind fun v => (operOf o).bind fun o => (suffOf ws).map fun x => ⟨2, 0, v, o.2, o.1, x.1, x.2.1, x.2.2, 0, 0⟩
 | _ => none
def stepW (ws : List Bt) : Option Stp :=
 if ws.getD 0 [] = wFence then fenceOf ws
 else if ws.getD 0 [] = wIf then ifOf ws
 else if ¬ (3 ≤ ws.length ∧ ws.getD 1 [] = wEq) then none
 else if ws.getD 2 [] = wSwap then bothOf 3 ws
 else if ws.getD 2 [] = wAdd then bothOf 4 ws
 else if (ws.getD 0 []).head? = some 114 then loadOf ws
 else storeOf ws
theorem four {n : Int} (h : 1 ≤ n ∧ n ≤ 4) : n = 1 ∨ n = 2 ∨ n = 3 ∨ n = 4 := by omega
open Go.Lib
def Stp.n32 (s : Stp) : Prop := 0 ≤ s.num ∧ s.num ≤ 4294967295
theorem valW_dec (n : Int) : valW 0 n = decDigits n.toNat := rfl
theorem bF {d : Int} (n : Int) (h : 0 < d) : valW d n = regW d := if_pos h
theorem right_fence {p q : Int} (hp : 1 ≤ p ∧ p ≤ 3) (hq : 1 ≤ q ∧ q ≤ 3) : (⟨5, 0, 0, 0, 0, 0, false, false, p, q⟩ : Stp).right = true := by
 simp [Stp.right, Stp.bare, Stp.lds, Stp.sts, Stp.acc, inR]; omega
theorem right_if {n : Int} (h : 1 ≤ n ∧ n ≤ 4) : (⟨6, n, 0, 0, 0, 0, false, false, 0, 0⟩ : Stp).right = true := by
 simp [Stp.right, Stp.bare, Stp.lds, Stp.sts, Stp.acc, inR]; omega
theorem right_load {r v b : Int} {a l : Bool} (hr : 1 ≤ r ∧ r ≤ 4) (hv : 0 ≤ v ∧ v ≤ 3) (hb : 0 ≤ b ∧ b ≤ 4) : (⟨1, r, v, 0, 0, b, a, l, 0, 0⟩ : Stp).right = true := by
 simp [Stp.right, Stp.bare, Stp.lds, Stp.sts, Stp.acc, inR]; omega
theorem right_store {v n d b : Int} {a l : Bool} (hv : 0 ≤ v ∧ v ≤ 3) (hb : 0 ≤ b ∧ b ≤ 4) (hd : 0 ≤ d ∧ d ≤ 4) (h0 : d = 0 ∨ n = 0) : (⟨2, 0, v, n, d, b, a, l, 0, 0⟩ : Stp).right = true := by
 simp [Stp.right, Stp.bare, Stp.lds, Stp.sts, Stp.acc, inR]; omega
theorem right_both {k r v n d b : Int} {a l : Bool} (hk : k = 3 ∨ k = 4) (hr : 1 ≤ r ∧ r ≤ 4) (hv : 0 ≤ v ∧ v ≤ 3) (hb : 0 ≤ b ∧ b ≤ 4) (hd : 0 ≤ d ∧ d ≤ 4) (h0 : d = 0 ∨ n = 0) : (⟨k, r, v, n, d, b, a, l, 0, 0⟩ : Stp).right = true := by
 rcases hk with rfl | rfl <;> (simp [Stp.right, Stp.bare, Stp.lds, Stp.sts, Stp.acc, inR]; omega)
inductive Shape : Stp → Prop where
 | fence (p q : Int) (hp : 1 ≤ p ∧ p ≤ 3) (hq : 1 ≤ q ∧ q ≤ 3) : Shape ⟨5, 0, 0, 0, 0, 0, false, false, p, q⟩
 | cond (n : Int) (h : 1 ≤ n ∧ n ≤ 4) : Shape ⟨6, n, 0, 0, 0, 0, false, false, 0, 0⟩
 | load (r v b : Int) (a l : Bool) (hr : 1 ≤ r ∧ r ≤ 4) (hv : 0 ≤ v ∧ v ≤ 3) (hb : 0 ≤ b ∧ b ≤ 4) : Shape ⟨1, r, v, 0, 0, b, a, l, 0, 0⟩
 | store (v n d b : Int) (a l : Bool) (hv : 0 ≤ v ∧ v ≤ 3) (hb : 0 ≤ b ∧ b ≤ 4) (hd : 0 ≤ d ∧ d ≤ 4) (h0 : d = 0 ∨ n = 0) : Shape ⟨2, 0, v, n, d, b, a, l, 0, 0⟩
 | both (k r v n d b : Int) (a l : Bool) (hk : k = 3 ∨ k = 4) (hr : 1 ≤ r ∧ r ≤ 4) (hv : 0 ≤ v ∧ v ≤ 3) (hb : 0 ≤ b ∧ b ≤ 4) (hd : 0 ≤ d ∧ d ≤ 4) (h0 : d = 0 ∨ n = 0) : Shape ⟨k, r, v, n, d, b, a, l, 0, 0⟩
theorem Shape.right {s : Stp} (h : Shape s) : s.right = true := by
 cases h with
 | fence p q hp hq => exact right_fence hp hq
 | cond n h => exact right_if h
 | load r v b a l hr hv hb => exact right_load hr hv hb
 | store v n d b a l hv hb hd h0 => exact right_store hv hb hd h0
 | both k r v n d b a l hk hr hv hb hd h0 => exact right_both hk hr hv hb hd h0
theorem zJ {s : Stp} (h : s.right = true) : Shape s := by
 obtain ⟨k, r, v, n, d, b, a, l, p, q⟩ := s
 unfold Stp.right at h
 split at h
 ·cases h
 ·rename_i hc
  simp only [Bool.or_eq_true, Bool.not_eq_true', decide_eq_false_iff_not, not_or, Classical.not_not] at hc
  obtain ⟨hb, hk⟩ := hc
  have hk' : 1 ≤ k ∧ k ≤ 6 := by simpa [inR] using hk
  rcases (by omega : k = 1 ∨ k = 2 ∨ k = 3 ∨ k = 4 ∨ k = 5 ∨ k = 6) with rfl | rfl | rfl | rfl | rfl | rfl <;>
   simp [Stp.bare, Stp.lds, Stp.sts, Stp.acc, inR] at hb h
  ·obtain ⟨rfl, rfl, rfl, rfl⟩ := hb
   exact .load _ _ _ _ _ (by omega) (by omega) (by omega)
  ·obtain ⟨rfl, rfl, rfl⟩ := hb
   exact .store _ _ _ _ _ _ (by omega) (by omega) (by omega) (by omega)
  ·obtain ⟨rfl, rfl⟩ := hb
   exact .both _ _ _ _ _ _ _ _ (Or.inl rfl) (by omega) (by omega) (by omega) (by omega) (by omega)
  ·obtain ⟨rfl, rfl⟩ := hb
   exact .both _ _ _ _ _ _ _ _ (Or.inr rfl) (by omega) (by omega) (by omega) (by omega) (by omega)
  ·obtain ⟨rfl, rfl, rfl, rfl, rfl, rfl, rfl⟩ := hb
   exact .fence _ _ (by omega) (by omega)
  ·obtain ⟨rfl, rfl, rfl, rfl, rfl, rfl, rfl, rfl⟩ := hb
   exact .cond _ (by omega)
def lineB (s : Stp) : Bt := joinC 32 (wordsOf s)
def stepB (l : Bt) : Option Stp := stepW (splitC 32 l)
abbrev Ts := List (List Stp)
def capI (n : Int) : Int := if 10001 < n then 10001 else n
def sStep (p : List Int × Int) (s : Stp) : List Int × Int := bif s.sts then (p.1.set s.var.toNat (p.1.getD s.var.toNat 0 + 1), capI (p.2 * (p.1.getD s.var.toNat 0 + 1))) else p
def lStep (m : List Int) (n : Int) (s : Stp) : Int := bif s.lds && s.sts then capI (n * m.getD s.var.toNat 0) else bif s.lds then capI (n * (m.getD s.var.toNat 0 + 1)) else n
def sAll (l : List Stp) : List Int × Int := l.foldl sStep ([0, 0, 0, 0], 1)
def waysT (t : Ts) : Int := t.flatten.foldl (lStep (sAll t.flatten).1) (sAll t.flatten).2
def accs (l : List Stp) : Nat := (l.filter Stp.acc).length
def threadOk (l : List Stp) : Bool := decide (l.length ≤ 16) && l.all Stp.right
def checkT (t : Ts) : Int :=
 if t.length < 1 ∨ 4 < t.length then 2
 else if t.all threadOk = false then 2
 else if 8 < accs t.flatten ∨ 10000 < waysT t then 2 else 0
open Go.Lib
def cutC (c : UInt8) : Bt → Bt × Bt × Bool
 | [] => ([], [], false)
 | x :: l => if x = c then ([], l, true) else (x :: (cutC c l).1, (cutC c l).2)
def threadB (l : List Stp) : Bt := wHart ++ 10 :: (l.map fun s => lineB s ++ [10]).flatten
def printT (t : Ts) : Bt := (t.map threadB).flatten
def addS (t : Ts) (s : Stp) : Ts := t.set (t.length - 1) (t.getD (t.length - 1) [] ++ [s])
def parseGo : Nat → Bt → Ts → Int → Ts × Int × Int
 | 0, _, _, _ => ([], 0, 0)
 | f + 1, text, t, n =>
  if text = [] then (if checkT t = 0 then (t, 0, 0) else ([], 0, 190))
  else if (cutC 10 text).2.2 = true ∧ (cutC 10 text).1 = wHart ∧ t.length < 4 then parseGo f (cutC 10 text).2.1 (t ++ [[]]) (n + 1)
  else match stepB (cutC 10 text).1 with
   | none => ([], n, 190)
   | some s => if (cutC 10 text).2.2 = false ∨ t.length = 0 ∨ (t.getD (t.length - 1) []).length = 16 then ([], n, 190) else parseGo f (cutC 10 text).2.1 (addS t s) (n + 1)
def parseT (text : Bt) : Ts × Int × Int := if 1048576 < text.length then ([], 0, 3) else parseGo (text.length + 1) text [] 1
def n32T (t : Ts) : Prop := ∀ l ∈ t, ∀ s ∈ l, Stp.n32 s
def sizeTs : Ts → Nat
 | [] => 0
 | l :: t => 1 + l.length + sizeTs t
theorem cK {t : Ts} (h : checkT t = 0) : 1 ≤ t.length ∧ t.length ≤ 4 ∧ ∀ l ∈ t, l.length ≤ 16 ∧ ∀ s ∈ l, s.right = true := by
 unfold checkT at h
 split at h
 ·cases h
 ·rename_i h1
  split at h
  ·cases h
  ·rename_i h2
   refine ⟨by omega, by omega, fun l hl => ?_⟩
   have := List.all_eq_true.1 (by simpa using h2 : t.all threadOk = true) l hl
   unfold threadOk at this
   simp only [Bool.and_eq_true, decide_eq_true_eq] at this
   exact ⟨this.1, List.all_eq_true.1 this.2⟩
theorem vH (n : Int) : (regW n).length = 2 := rfl
theorem wB (n : Int) : (nameW n).length ≤ 1 := by
 unfold nameW
 rcases n.toNat with _ | _ | _ | _ | k <;> simp
theorem yL (n : Int) : (setW n).length ≤ 2 := by
 unfold setW
 rcases n.toNat with _ | _ | _ | _ | k <;> simp
theorem mH (n : Nat) (h : n ≤ 4294967295) : (decDigits n).length ≤ 20 := by
 rw [decDigits_length]; exact nDigits_le20 n (by omega)
theorem xE {d n : Int} (hn : 0 ≤ n ∧ n ≤ 4294967295) : (valW d n).length ≤ 20 := by
 unfold valW
 split
 ·rw [vH]; omega
 ·exact mH _ (by omega)
theorem gB (c : UInt8) : ∀ ws : List Bt, (∀ w ∈ ws, w.length ≤ 20) → (joinC c ws).length ≤ 21 * ws.length
 | [], _ => by simp [joinC]
 | [w], h => by have := h w (by simp); simp [joinC]; omega
 | w :: v :: ws, h => by
  have ih := gB c (v :: ws) fun x hx => h x (by simp [hx])
  have h0 := h w (by simp)
  rw [joinC, List.length_append, List.length_cons]
  simp only [List.length_cons] at ih ⊢
  omega
theorem cC (b : Int) (a r : Bool) : (tailW b a r).length ≤ 4 ∧ ∀ w ∈ tailW b a r, w.length ≤ 20 := by
 unfold tailW
 by_cases h : 0 < b <;> cases a <;> cases r <;> simp [h, wBy, wAq, wRl, regW]
theorem words_len {s : Stp} (h : s.right = true) (hn : s.n32) : (wordsOf s).length ≤ 9 ∧ ∀ w ∈ wordsOf s, w.length ≤ 20 := by
 have reg := vH
 have name : ∀ n, (nameW n).length ≤ 20 := fun n => by have := wB n; omega
 have lit : ∀ w : Bt, w ∈ [wFence, wIf, wSwap, wAdd, wEq] → w.length ≤ 20 := by decide
 cases zJ h with
 | fence p q hp hq =>
  refine ⟨(by decide : 3 ≤ 9), ?_⟩
  show ∀ w ∈ [wFence, setW p, setW q], _
  simp only [List.forall_mem_cons, List.not_mem_nil, false_implies, implies_true, and_true]
  have h3 := yL p
  have h4 := yL q
  exact ⟨lit _ (by simp), by omega, by omega⟩
 | cond n hc =>
  refine ⟨(by decide : 2 ≤ 9), ?_⟩
  show ∀ w ∈ [wIf, regW n], _
  simp only [List.forall_mem_cons, List.not_mem_nil, false_implies, implies_true, and_true]
  exact ⟨lit _ (by simp), by rw [reg]; omega⟩
 | load r v b a l hr hv hb =>
  have ht := cC b a l
  refine ⟨?_, ?_⟩
  ·show (regW r :: wEq :: nameW v :: tailW b a l).length ≤ 9
   simp only [List.length_cons]; omega
  ·show ∀ w ∈ regW r :: wEq :: nameW v :: tailW b a l, _
   simp only [List.forall_mem_cons]
   exact ⟨by rw [reg]; omega, lit _ (by simp), name v, ht.2⟩
 | store v n d b a l hv hb hd h0 =>
  have ht := cC b a l
  refine ⟨?_, ?_⟩
  ·show (nameW v :: wEq :: valW d n :: tailW b a l).length ≤ 9
   simp only [List.length_cons]; omega
  ·show ∀ w ∈ nameW v :: wEq :: valW d n :: tailW b a l, _
   simp only [List.forall_mem_cons]
   exact ⟨name v, lit _ (by simp), xE hn, ht.2⟩
 | both k r v n d b a l hk hr hv hb hd h0 =>
  have ht := cC b a l
  rcases hk with rfl | rfl
  ·refine ⟨?_, ?_⟩
   ·show (regW r :: wEq :: wSwap :: nameW v :: valW d n :: tailW b a l).length ≤ 9
    simp only [List.length_cons]; omega
   ·show ∀ w ∈ regW r :: wEq :: wSwap :: nameW v :: valW d n :: tailW b a l, _
    simp only [List.forall_mem_cons]
    exact ⟨by rw [reg]; omega, lit _ (by simp), lit _ (by simp), name v, xE hn, ht.2⟩
  ·refine ⟨?_, ?_⟩
   ·show (regW r :: wEq :: wAdd :: nameW v :: valW d n :: tailW b a l).length ≤ 9
    simp only [List.length_cons]; omega
   ·show ∀ w ∈ regW r :: wEq :: wAdd :: nameW v :: valW d n :: tailW b a l, _
    simp only [List.forall_mem_cons]
    exact ⟨by rw [reg]; omega, lit _ (by simp), lit _ (by simp), name v, xE hn, ht.2⟩
theorem eF {s : Stp} (h : s.right = true) (hn : s.n32) : (lineB s).length ≤ 189 := by
 obtain ⟨h1, h2⟩ := words_len h hn
 have := gB 32 _ h2
 unfold lineB
 omega
theorem aI : ∀ l : List Stp, (∀ s ∈ l, s.right = true ∧ s.n32) → ((l.map fun s => lineB s ++ [10]).flatten).length ≤ 190 * l.length
 | [], _ => by simp
 | s :: l, h => by
  have ih := aI l fun x hx => h x (by simp [hx])
  have h0 := eF (h s (by simp)).1 (h s (by simp)).2
  rw [List.map_cons, List.flatten_cons, List.length_append, List.length_append, List.length_cons]
  simp only [List.length_cons, List.length_nil]
  omega
theorem threadB_len {l : List Stp} (h16 : l.length ≤ 16) (h : ∀ s ∈ l, s.right = true ∧ s.n32) : (threadB l).length ≤ 3045 := by
 have := aI l h
 unfold threadB
 rw [List.length_append, List.length_cons]
 have e : wHart.length = 4 := rfl
 omega
theorem aX : ∀ t : Ts, (∀ l ∈ t, l.length ≤ 16 ∧ ∀ s ∈ l, s.right = true ∧ s.n32) → (printT t).length ≤ 3045 * t.length
 | [], _ => by simp [printT]
 | l :: t, h => by
  have ih := aX t fun x hx => h x (by simp [hx])
  have h0 := threadB_len (h l (by simp)).1 (h l (by simp)).2
  have e : printT (l :: t) = threadB l ++ printT t := rfl
  rw [e, List.length_append, List.length_cons]
  omega
set_option maxRecDepth 100000
section
variable {E : Env} {v j : Nat} {ops : Array Oper} {K : Tm → Store → Prop} {rest : List Oper} {tm : Tm} {σ : Store} {dst : Option Tmp} {ty : TypeId} {pos : String} {af : Array Edge}
theorem mN {S T : TypeId} {x : Operand} {k : IntKind} {n : Int} {se te : TE} (hS : E.tab S = some se) (hT : E.tab T = some te) (hk : te.k = .sc (.int .u64)) (hs : se.k = .sc (.int k)) (hx : ev tm x = some (.int k n)) (h : 0 ≤ n ∧ n ≤ 18446744073709551615)
  (hc : AO E.P v ops K (j + 1) rest (tm.putO dst (.int .u64 n)) σ) : AO E.P v ops K j (⟨dst, .convert S T x, ty, pos, af, none⟩ :: rest) tm σ := by
 have e : IntKind.u64.wrap n = n := by rw [IntKind.wrap_u64]; omega
 refine uG (Y_conv hS hT hk hs hx) ?_
 rw [e]; exact hc
end
set_option maxHeartbeats 1000000 in
theorem fU {n : Int} (h : 1 ≤ n ∧ n ≤ 4) : Pure E.P 128 [.int .i64 n] (.bs (regW n)) := by
 rcases four h with rfl | rfl | rfl | rfl
 ·refine fnA Tryz.func128 Tryz.ntmps128 ?_
  refine run ?_; refine aoR fun _ => ?_
  refine run ?_; refine aoR fun _ => ?_
  refine run ?_
  (apply xJ; exact rfl; exact rfl; exact rfl; (exact ⟨_, _, rfl, by omega, rfl⟩); (exact ⟨_, _, rfl, by omega, rfl⟩); (decide); (decide))
  refine run ?_; rotate_left
  all_goals exact uK rfl rfl
 ·refine fnA Tryz.func128 Tryz.ntmps128 ?_
  refine run ?_; refine aoR fun _ => ?_
  refine run ?_; refine aoR fun _ => ?_
  refine run ?_
  (apply xJ; exact rfl; exact rfl; exact rfl; (exact ⟨_, _, rfl, by omega, rfl⟩); (exact ⟨_, _, rfl, by omega, rfl⟩); (decide); (decide))
  refine run ?_; rotate_left
  all_goals exact uK rfl rfl
 ·refine fnA Tryz.func128 Tryz.ntmps128 ?_
  refine run ?_; refine aoR fun _ => ?_
  refine run ?_; refine aoR fun _ => ?_
  refine run ?_
  (apply xJ; exact rfl; exact rfl; exact rfl; (exact ⟨_, _, rfl, by omega, rfl⟩); (exact ⟨_, _, rfl, by omega, rfl⟩); (decide); (decide))
  refine run ?_; rotate_left
  all_goals exact uK rfl rfl
 ·refine fnA Tryz.func128 Tryz.ntmps128 ?_
  refine run ?_; refine aoR fun _ => ?_
  refine run ?_; refine aoR fun _ => ?_
  refine run ?_
  (apply xJ; exact rfl; exact rfl; exact rfl; (exact ⟨_, _, rfl, by omega, rfl⟩); (exact ⟨_, _, rfl, by omega, rfl⟩); (decide); (decide))
  refine run ?_; rotate_left
  all_goals exact uK rfl rfl
set_option maxHeartbeats 1000000 in
theorem iD {n : Int} (h : 0 ≤ n ∧ n ≤ 3) : Pure E.P 130 [.int .i64 n] (.bs (nameW n)) := by
 rcases (by omega : n = 0 ∨ n = 1 ∨ n = 2 ∨ n = 3) with rfl | rfl | rfl | rfl
 ·refine fnA Tryz.func130 Tryz.ntmps130 ?_
  refine run ?_; refine aoR fun _ => ?_
  refine run ?_; refine aoR fun _ => ?_
  refine run ?_
  (apply xJ; exact rfl; exact rfl; exact rfl; (exact ⟨_, _, rfl, by omega, rfl⟩); (exact ⟨_, _, rfl, by omega, rfl⟩); (decide); (decide))
  refine run ?_; rotate_left
  all_goals exact uK rfl rfl
 ·refine fnA Tryz.func130 Tryz.ntmps130 ?_
  refine run ?_; refine aoR fun _ => ?_
  refine run ?_; refine aoR fun _ => ?_
  refine run ?_
  (apply xJ; exact rfl; exact rfl; exact rfl; (exact ⟨_, _, rfl, by omega, rfl⟩); (exact ⟨_, _, rfl, by omega, rfl⟩); (decide); (decide))
  refine run ?_; rotate_left
  all_goals exact uK rfl rfl
 ·refine fnA Tryz.func130 Tryz.ntmps130 ?_
  refine run ?_; refine aoR fun _ => ?_
  refine run ?_; refine aoR fun _ => ?_
  refine run ?_
  (apply xJ; exact rfl; exact rfl; exact rfl; (exact ⟨_, _, rfl, by omega, rfl⟩); (exact ⟨_, _, rfl, by omega, rfl⟩); (decide); (decide))
  refine run ?_; rotate_left
  all_goals exact uK rfl rfl
 ·refine fnA Tryz.func130 Tryz.ntmps130 ?_
  refine run ?_; refine aoR fun _ => ?_
  refine run ?_; refine aoR fun _ => ?_
  refine run ?_
  (apply xJ; exact rfl; exact rfl; exact rfl; (exact ⟨_, _, rfl, by omega, rfl⟩); (exact ⟨_, _, rfl, by omega, rfl⟩); (decide); (decide))
  refine run ?_; rotate_left
  all_goals exact uK rfl rfl
abbrev strTV (v : Bt) : TV := .c (.string ⟨v.toArray⟩)
def setsTV : List TV := [strTV [], strTV [119], strTV [114], strTV [114, 119]]
set_option maxHeartbeats 1000000 in
theorem line1_p (s : Stp) (hr : 1 ≤ s.reg ∧ s.reg ≤ 4) (hv : 0 ≤ s.var ∧ s.var ≤ 3) : Pure E.P 129 [.d (.pt (stTV s) 0)] (.bs (regW s.reg ++ [32, 61, 32] ++ nameW s.var)) := by
 have c1 := fU hr
 have c2 := iD hv
 have l1 := vH s.reg
 have l2 := wB s.var
 refine fnA Tryz.func129 Tryz.ntmps129 ?_
 refine run ?_; refine aoR fun _ => ?_
 refine run ?_
 refine uF (E := E) ?_ (fun _ => ?_); exact rfl
 refine run ?_
 apply vK; exact rfl; exact .fn _ _ _; exact rfl; (exact c1)
 apply uM; exact rfl; exact rfl; (((simp only [List.length_append, List.length_cons, List.length_nil]); omega))
 refine run ?_
 apply vK; exact rfl; exact .fn _ _ _; exact rfl; (exact c2)
 apply uM; exact rfl; exact rfl; (((simp only [List.length_append, List.length_cons, List.length_nil]); omega))
 refine run ?_; rotate_left
 all_goals exact uK rfl rfl
set_option maxHeartbeats 1000000 in
theorem line2_p (s : Stp) (v : Bt) (hl : v.length ≤ 20) (hv : 0 ≤ s.var ∧ s.var ≤ 3) : Pure E.P 131 [.d (.pt (stTV s) 0), .d (.pt [strTV v] 0)] (.bs (nameW s.var ++ [32, 61, 32] ++ v)) := by
 have c2 := iD hv
 have l2 := wB s.var
 refine fnA Tryz.func131 Tryz.ntmps131 ?_
 refine run ?_; refine aoR fun _ => ?_
 refine run ?_
 refine uF (E := E) ?_ (fun _ => ?_); exact rfl
 refine run ?_
 apply vK; exact rfl; exact .fn _ _ _; exact rfl; (exact c2)
 apply uM; exact rfl; exact rfl; (((simp only [List.length_append, List.length_cons, List.length_nil]); omega))
 refine run ?_
 apply uM; exact rfl; exact rfl; (((simp only [List.length_append, List.length_cons, List.length_nil]); omega))
 refine run ?_; rotate_left
 all_goals exact uK rfl rfl
set_option maxHeartbeats 1000000 in
theorem line3_p (s : Stp) (v : Bt) (hl : v.length ≤ 20) (hr : 1 ≤ s.reg ∧ s.reg ≤ 4) (hv : 0 ≤ s.var ∧ s.var ≤ 3) : Pure E.P 132 [.d (.pt (stTV s) 0), .d (.pt [strTV v] 0)] (.bs (regW s.reg ++ [32, 61, 32, 115, 119, 97, 112, 32] ++ nameW s.var ++ [32] ++ v)) := by
 have c1 := fU hr
 have c2 := iD hv
 have l1 := vH s.reg
 have l2 := wB s.var
 refine fnA Tryz.func132 Tryz.ntmps132 ?_
 refine run ?_; refine aoR fun _ => ?_
 refine run ?_
 refine uF (E := E) ?_ (fun _ => ?_); exact rfl
 refine run ?_
 apply vK; exact rfl; exact .fn _ _ _; exact rfl; (exact c1)
 apply uM; exact rfl; exact rfl; (((simp only [List.length_append, List.length_cons, List.length_nil]); omega))
 refine run ?_
 apply vK; exact rfl; exact .fn _ _ _; exact rfl; (exact c2)
 iterate 2 (apply uM; exact rfl; exact rfl; (((simp only [List.length_append, List.length_cons, List.length_nil]); omega)))
 refine run ?_
 apply uM; exact rfl; exact rfl; (((simp only [List.length_append, List.length_cons, List.length_nil]); omega))
 refine run ?_; rotate_left
 all_goals exact uK rfl rfl
set_option maxHeartbeats 1000000 in
theorem line4_p (s : Stp) (v : Bt) (hl : v.length ≤ 20) (hr : 1 ≤ s.reg ∧ s.reg ≤ 4) (hv : 0 ≤ s.var ∧ s.var ≤ 3) : Pure E.P 133 [.d (.pt (stTV s) 0), .d (.pt [strTV v] 0)] (.bs (regW s.reg ++ [32, 61, 32, 97, 100, 100, 32] ++ nameW s.var ++ [32] ++ v)) := by
 have c1 := fU hr
 have c2 := iD hv
 have l1 := vH s.reg
 have l2 := wB s.var
 refine fnA Tryz.func133 Tryz.ntmps133 ?_
 refine run ?_; refine aoR fun _ => ?_
 refine run ?_
 refine uF (E := E) ?_ (fun _ => ?_); exact rfl
 refine run ?_
 apply vK; exact rfl; exact .fn _ _ _; exact rfl; (exact c1)
 apply uM; exact rfl; exact rfl; (((simp only [List.length_append, List.length_cons, List.length_nil]); omega))
 refine run ?_
 apply vK; exact rfl; exact .fn _ _ _; exact rfl; (exact c2)
 iterate 2 (apply uM; exact rfl; exact rfl; (((simp only [List.length_append, List.length_cons, List.length_nil]); omega)))
 refine run ?_
 apply uM; exact rfl; exact rfl; (((simp only [List.length_append, List.length_cons, List.length_nil]); omega))
 refine run ?_; rotate_left
 all_goals exact uK rfl rfl
def fenceTV (p q : Int) : List TV := [.c (.int .i64 5), .c (.int .i64 0), .c (.int .i64 0), .c (.int .u32 0), .c (.int .i64 0), .c (.int .i64 0), .c (.bool false), .c (.bool false), .c (.int .i64 p), .c (.int .i64 q)]
set_option maxHeartbeats 4000000 in
theorem line5_p (p q : Int) (hp : 1 ≤ p ∧ p ≤ 3) (hq : 1 ≤ q ∧ q ≤ 3) : Pure E.P 134 [.d (.pt setsTV 0), .d (.pt (fenceTV p q) 0)] (.bs ([102, 101, 110, 99, 101, 32] ++ setW p ++ [32] ++ setW q)) := by
 rcases (by omega : p = 1 ∨ p = 2 ∨ p = 3) with rfl | rfl | rfl
 ·rcases (by omega : q = 1 ∨ q = 2 ∨ q = 3) with rfl | rfl | rfl
  ·refine fnA Tryz.func134 Tryz.ntmps134 ?_
   refine run ?_; refine aoR fun _ => ?_
   refine run ?_
   refine uF (E := E) ?_ (fun _ => ?_); exact rfl
   refine run ?_
   iterate 2 (apply uM; exact rfl; exact rfl; (((simp only [List.length_append, List.length_cons, List.length_nil]); omega)))
   refine run ?_
   apply uM; exact rfl; exact rfl; (((simp only [List.length_append, List.length_cons, List.length_nil]); omega))
   refine run ?_; rotate_left
   all_goals exact uK rfl rfl
  ·refine fnA Tryz.func134 Tryz.ntmps134 ?_
   refine run ?_; refine aoR fun _ => ?_
   refine run ?_
   refine uF (E := E) ?_ (fun _ => ?_); exact rfl
   refine run ?_
   iterate 2 (apply uM; exact rfl; exact rfl; (((simp only [List.length_append, List.length_cons, List.length_nil]); omega)))
   refine run ?_
   apply uM; exact rfl; exact rfl; (((simp only [List.length_append, List.length_cons, List.length_nil]); omega))
   refine run ?_; rotate_left
   all_goals exact uK rfl rfl
  ·refine fnA Tryz.func134 Tryz.ntmps134 ?_
   refine run ?_; refine aoR fun _ => ?_
   refine run ?_
   refine uF (E := E) ?_ (fun _ => ?_); exact rfl
   refine run ?_
   iterate 2 (apply uM; exact rfl; exact rfl; (((simp only [List.length_append, List.length_cons, List.length_nil]); omega)))
   refine run ?_
   apply uM; exact rfl; exact rfl; (((simp only [List.length_append, List.length_cons, List.length_nil]); omega))
   refine run ?_; rotate_left
   all_goals exact uK rfl rfl
 ·rcases (by omega : q = 1 ∨ q = 2 ∨ q = 3) with rfl | rfl | rfl
  ·refine fnA Tryz.func134 Tryz.ntmps134 ?_
   refine run ?_; refine aoR fun _ => ?_
   refine run ?_
   refine uF (E := E) ?_ (fun _ => ?_); exact rfl
   refine run ?_
   iterate 2 (apply uM; exact rfl; exact rfl; (((simp only [List.length_append, List.length_cons, List.length_nil]); omega)))
   refine run ?_
   apply uM; exact rfl; exact rfl; (((simp only [List.length_append, List.length_cons, List.length_nil]); omega))
   refine run ?_; rotate_left
   all_goals exact uK rfl rfl
  ·refine fnA Tryz.func134 Tryz.ntmps134 ?_
   refine run ?_; refine aoR fun _ => ?_
   refine run ?_
   refine uF (E := E) ?_ (fun _ => ?_); exact rfl
   refine run ?_
   iterate 2 (apply uM; exact rfl; exact rfl; (((simp only [List.length_append, List.length_cons, List.length_nil]); omega)))
   refine run ?_
   apply uM; exact rfl; exact rfl; (((simp only [List.length_append, List.length_cons, List.length_nil]); omega))
   refine run ?_; rotate_left
   all_goals exact uK rfl rfl
  ·refine fnA Tryz.func134 Tryz.ntmps134 ?_
   refine run ?_; refine aoR fun _ => ?_
   refine run ?_
   refine uF (E := E) ?_ (fun _ => ?_); exact rfl
   refine run ?_
   iterate 2 (apply uM; exact rfl; exact rfl; (((simp only [List.length_append, List.length_cons, List.length_nil]); omega)))
   refine run ?_
   apply uM; exact rfl; exact rfl; (((simp only [List.length_append, List.length_cons, List.length_nil]); omega))
   refine run ?_; rotate_left
   all_goals exact uK rfl rfl
 ·rcases (by omega : q = 1 ∨ q = 2 ∨ q = 3) with rfl | rfl | rfl
  ·refine fnA Tryz.func134 Tryz.ntmps134 ?_
   refine run ?_; refine aoR fun _ => ?_
   refine run ?_
   refine uF (E := E) ?_ (fun _ => ?_); exact rfl
   refine run ?_
   iterate 2 (apply uM; exact rfl; exact rfl; (((simp only [List.length_append, List.length_cons, List.length_nil]); omega)))
   refine run ?_
   apply uM; exact rfl; exact rfl; (((simp only [List.length_append, List.length_cons, List.length_nil]); omega))
   refine run ?_; rotate_left
   all_goals exact uK rfl rfl
  ·refine fnA Tryz.func134 Tryz.ntmps134 ?_
   refine run ?_; refine aoR fun _ => ?_
   refine run ?_
   refine uF (E := E) ?_ (fun _ => ?_); exact rfl
   refine run ?_
   iterate 2 (apply uM; exact rfl; exact rfl; (((simp only [List.length_append, List.length_cons, List.length_nil]); omega)))
   refine run ?_
   apply uM; exact rfl; exact rfl; (((simp only [List.length_append, List.length_cons, List.length_nil]); omega))
   refine run ?_; rotate_left
   all_goals exact uK rfl rfl
  ·refine fnA Tryz.func134 Tryz.ntmps134 ?_
   refine run ?_; refine aoR fun _ => ?_
   refine run ?_
   refine uF (E := E) ?_ (fun _ => ?_); exact rfl
   refine run ?_
   iterate 2 (apply uM; exact rfl; exact rfl; (((simp only [List.length_append, List.length_cons, List.length_nil]); omega)))
   refine run ?_
   apply uM; exact rfl; exact rfl; (((simp only [List.length_append, List.length_cons, List.length_nil]); omega))
   refine run ?_; rotate_left
   all_goals exact uK rfl rfl
set_option maxHeartbeats 1000000 in
theorem line6_p (s : Stp) (hr : 1 ≤ s.reg ∧ s.reg ≤ 4) : Pure E.P 135 [.d (.pt (stTV s) 0)] (.bs ([105, 102, 32] ++ regW s.reg)) := by
 have c1 := fU hr
 have l1 := vH s.reg
 refine fnA Tryz.func135 Tryz.ntmps135 ?_
 refine run ?_; refine aoR fun _ => ?_
 refine run ?_; refine aoR fun _ => ?_
 refine run ?_
 apply uD; exact rfl; exact .fn _ _ _; exact rfl; (exact c1)
 apply uJ; exact rfl; exact rfl; (((simp only [List.length_append, List.length_cons, List.length_nil]); omega))
 refine run ?_; rotate_left
 all_goals exact uK rfl rfl
open Go.RowKit Go.Maps Go.ChangeMaps
def mapY (P : Program) (k e : TypeId) (g : Gh) (b : Nat) (Jm : Nat → Nat → DataW Unit → Prop) : YJ where
 g := g
 J i w := ∃ nn D, Jm i nn D ∧ w.ownsMap P k (plainElem P e) b nn D
 D x := x = b
 st i w w' := fun ⟨nn, D, h1, es, clock, hb, r⟩ h => ⟨nn, D, h1, es, clock, (h b rfl).trans hb, r⟩
 nc i w x := fun ⟨nn, D, _, es, clock, hb, _⟩ hx => ⟨.map es clock, by rw [show x = b from hx]; exact hb, rfl⟩
def objY (g : Gh) (b : Nat) (o : Obj) (ho : o.isCells = false) : YJ where
 g := g
 J _ w := w.heap[b]? = some o
 D x := x = b
 st i w w' := fun h h' => (h' b rfl).trans h
 nc i w x := fun h hx => ⟨o, by rw [show x = b from hx]; exact h, ho⟩
section
variable {P : Program} {v j : Nat} {tm : Tm} {σ : Store} {dst : Option Tmp} {ty : TypeId} {pos : String} {af : Array Edge} {gd : Option (Nat × Bool)}
def OpKJ (P : Program) (v j : Nat) (o : Oper) (tm : Tm) (σ : Store) (Jw : World → Prop) (K : OV → Store → Prop) : Prop :=
 ∀ (Γ : Ctx) (G : Gh) (ρ : Operand → Value) (w : World), Γ.N ≤ v → (∀ k, G.μ k (v, j) = none) → (∀ x ∈ o.op.operands, ∀ y, ev tm x = some y → RepO G y (ρ x)) → WRel Γ G σ w → Jw w →
  NextK P Γ G v j K ((execOp ρ o).run P w)
theorem OpKJ.ok {o : Oper} {Jw : World → Prop} {K : OV → Store → Prop} (hJw : ∀ (n : Nat) (C : Cx) (G : Gh) (a : Act) (w : World), SRel n C G tm σ a w → Jw w) (h : OpKJ P v j o tm σ Jw K) : OpOk P v j o tm σ K := fun n C G a w ro next Q hd hro hN hfr hs hk => by
 have hst := hs.w.startW (σ0 := σ) (fun _ _ e => e) C.Γ.N
 have h1 := h ⟨w, Blks G σ, G, C.Γ.N⟩ G a.eval w hN hfr (fun x _ y hy => zO hs.tm hy) hst (hJw n C G a w hs)
 have lv : ∀ x w', LeavesK ⟨w, Blks G σ, G, C.Γ.N⟩ G v j K x w' → next (a.put o.dst x) w' := fun x w' ⟨G', r, σ', g1, g2, g3, g4, g5⟩ => by
  refine hk C G' (tm.putO o.dst r) σ' _ w' (.refl C) g1 g2 ⟨by rw [Act.put_size, hs.size], by rw [Act.put_defers, hs.defers], (hs.tm.mono g1).put g3 o.dst (by rw [hs.size]; exact fun d e => (hd d e).1), hs.w.backX (fun _ _ e => e) g4 (Nat.le_refl _) (fun k τ r hr => Or.inr hr), fun b ob hb => ?_, hs.marks, fun i Y hi => ?_⟩ ⟨r, rfl, g5⟩
  ·obtain ⟨e1, e2⟩ := hs.fix b ob hb
   exact ⟨(g4.keep b (Array.getElem?_eq_some_iff.1 e1).1 (hs.fix.not_own hs.w hb)).trans e1, e2⟩
  ·obtain ⟨hJ, hJg, hJf⟩ := hs.gh i Y ((xW hd r).symm.trans hi)
   refine ⟨Y.st i w w' hJ fun b hb => ?_, hJg.trans g1, hJf⟩
   obtain ⟨ob, e1, e2⟩ := Y.nc i w b hJ hb
   refine g4.keep b (Array.getElem?_eq_some_iff.1 e1).1 fun ⟨k, τ, r', β, f1, f2, f3⟩ => ?_
   obtain ⟨cs, f4, _⟩ := hs.w.blk f1 f2
   rw [f3, e1] at f4
   cases f4; cases e2
 have hsem : o.semAt ro a.eval = execOp a.eval o := by
  refine Oper.semAt_eq ro a.eval o fun c hc => ?_
  have e : execOp a.eval o = (do pure (.defer (← resolve a.eval c o.type)) : Sem Next) := by
   simp only [execOp, hc]
  rw [e] at h1
  simp only [Sem.run_bind] at h1
  cases hr : (resolve a.eval c o.type).run P w with
  | ok d w' => rw [hr] at h1; simp [NextK] at h1
  | halt x w' => rw [hr] at h1; simp [NextK] at h1
 unfold Oper.wpIn
 refine ⟨fun _ _ => trivial, ?_⟩
 rw [show (wideR ro).round = ro from rfl, hsem]
 generalize (execOp a.eval o).run P w = r at *
 cases r with
 | ok nx w' =>
  cases nx <;> simp only [NextK] at h1 <;> simp only [Oper.uponIn]
  case value x => exact lv _ _ h1
  case skip => exact lv _ _ h1
  case enter f args =>
   refine ⟨fun e => (by cases e), ?_⟩
   exact (show CallsIn (wideR ro) (0 - 1) P f args w' _ from callsIn_wide.2 (h1.mono fun e w'' ⟨x, h2, h3⟩ => by subst h2; exact lv _ _ h3))
 | halt x w' => simp only [NextK] at h1
def IsKeyV (P : Program) (k : TypeId) (y : OV) (kl : Lit) : Prop := ∀ (G : Gh) (u : Value), RepO G y u → keyOf P k u = some kl
def FnM (P : Program) (f : FuncId) (args : List OV) (Jw : World → Prop) (R : OV → Store → Prop) : Prop :=
 Enters P f ∧ ∀ (G : Gh) (w : World) (vs : List Value) (N : Nat), Jw w → RepOL G args vs → WRel ⟨w, fun _ => False, G, N⟩ G Store.nil w →
  Calls P f vs.toArray w (fun e w' => ∃ x G' r σ', e = .returned x ∧ R r σ' ∧ G.le G' ∧ RepO G' r x ∧ WRel ⟨w, fun _ => False, G, N⟩ G' σ' w')
end
section
variable {P : Program} {v j : Nat} {ops : Array Oper} {Q : Tm → Store → Prop} {rest : List Oper} {tm : Tm} {σ : Store} {dst : Option Tmp} {ty : TypeId} {pos : String} {af : Array Edge}
end
def Tm.sub (tx tm : Tm) : Prop := ∀ t y, tx t = some y → (t ≠ GS ∧ ∃ i Y, y = .gh i Y) ∨ tm t = some y
theorem SRel.sub {n : Nat} {C : Cx} {G : Gh} {tm tx : Tm} {σ : Store} {a : Act} {w : World} (hs : SRel n C G tm σ a w) (h : tx.sub tm) : SRel n C G tx σ a w :=
 ⟨hs.size, hs.defers, fun t y ht => by
  rcases h t y ht with ⟨_, i, Y, rfl⟩ | h1
  ·exact Or.inl ⟨i, Y, rfl⟩
  ·exact hs.tm t y h1, hs.w, hs.fix, hs.marks, fun i Y hi => by
  rcases h GS _ hi with ⟨h1, _⟩ | h1
  ·exact (h1 rfl).elim
  ·exact hs.gh i Y h1⟩
def anyT (P : Program) (v : Nat) (ops : Array Oper) (Q : Tm → Store → Prop) : Nat → Array Bool → Tm → Store → Prop
 | 0, listed, tm, σ => Region.ready .any ops listed = [] ∧ Q tm σ
 | fuel + 1, listed, tm, σ => (Region.ready .any ops listed = [] → Q tm σ) ∧ ∀ i ∈ Region.ready .any ops listed, ∃ o, ops[i]? = some o ∧ o.guard = none ∧ OpT P v i o tm σ (anyT P v ops Q fuel (listed.setIfInBounds i true))
open Go.RowKit Go.Maps Go.ChangeMaps
def FE (M : Mem) : List (Value × TV) → List MapEntry → Prop
 | [], es => es = []
 | (k, t) :: L, es => ∃ v c es', es = ⟨k, v, c⟩ :: es' ∧ Rep M t v ∧ FE M L es'
theorem FE.mono {M M' : Mem} (h : M.le M') : ∀ (L : List (Value × TV)) (es : List MapEntry), FE M L es → FE M' L es
 | [], _, e => e
 | (k, t) :: L, es, ⟨v, c, es', e1, e2, e3⟩ => ⟨v, c, es', e1, Rep.mono h t v e2, FE.mono h L es' e3⟩
theorem FE.snoc {M : Mem} : ∀ {L : List (Value × TV)} {es : List MapEntry} {k v : Value} {t : TV} (c : Nat), FE M L es → Rep M t v → FE M (L ++ [(k, t)]) (es ++ [⟨k, v, c⟩])
 | [], _, k, v, t, c, rfl, h => ⟨v, c, [], rfl, h, rfl⟩
 | (k0, t0) :: L, _, k, v, t, c, ⟨v0, c0, es', rfl, e2, e3⟩, h => ⟨v0, c0, es' ++ [⟨k, v, c⟩], rfl, e2, FE.snoc c e3 h⟩
def lookV (kd : TypeDesc) (k : Value) : List (Value × TV) → Option (Option TV)
 | [] => some none
 | (k', t) :: L => match Instr.sameNow kd k k' with
  | some true => some (some t)
  | some false => lookV kd k L
  | none => none
theorem FE.find {M : Mem} {kd : TypeDesc} {k : Value} : ∀ {L : List (Value × TV)} {es : List MapEntry} {r : Option TV} (i : Nat), FE M L es → lookV kd k L = some r →
  match r with
  | none => Instr.findNow kd k es i = some none
  | some t => ∃ j v, Instr.findNow kd k es i = some (some (j, v)) ∧ Rep M t v
 | [], _, r, i, rfl, h => by cases h; rfl
 | (k0, t0) :: L, _, r, i, ⟨v0, c0, es', rfl, e2, e3⟩, h => by
  unfold lookV at h
  cases hs : Instr.sameNow kd k k0 with
  | none => rw [hs] at h; cases h
  | some b =>
   rw [hs] at h
   cases b with
   | true =>
    cases h
    exact ⟨i, v0, by simp [Instr.findNow, hs], e2⟩
   | false =>
    have := FE.find (i + 1) e3 h
    cases r with
    | none => simpa [Instr.findNow, hs] using this
    | some t => simpa [Instr.findNow, hs] using this
def fnmY (g : Gh) (b : Nat) (L : List (Value × TV)) : YJ where
 g := g
 J i w := ∃ es clock, w.heap[b]? = some (.map es clock) ∧ FE g.M L es.toList
 D x := x = b
 st i w w' := fun ⟨es, clock, h, r⟩ h' => ⟨es, clock, (h' b rfl).trans h, r⟩
 nc i w x := fun ⟨es, clock, h, _⟩ hx => ⟨.map es clock, by rw [show x = b from hx]; exact h, rfl⟩
inductive PKey (P : Program) (kt : TypeId) : TypeDesc → Value → Prop where
 | int {q : IntKind} {c : Int} (h : P.underlying kt = some (.int q)) : PKey P kt (.int q) (.int q c)
 | str {s : ByteArray} (h : P.underlying kt = some .string) : PKey P kt .string (.string s)
theorem PKey.desc {P : Program} {kt : TypeId} {kd : TypeDesc} {k : Value} (h : PKey P kt kd k) : P.underlying kt = some kd := by cases h <;> assumption
theorem PKey.check {P : Program} {kt : TypeId} {kd : TypeDesc} {k : Value} (h : PKey P kt kd k) (em : Bool) (w : World) : (Instr.checkKey em 10000 kt k).run P w = .ok () w := by
 cases h with
 | int h =>
  show (Instr.checkKey em (9999 + 1) kt _).run P w = _
  unfold Instr.checkKey
  simp only [Sem.run_bind, run_underlying h, Result.andThen_ok, Sem.run_pure]
 | str h =>
  show (Instr.checkKey em (9999 + 1) kt _).run P w = _
  unfold Instr.checkKey
  simp only [Sem.run_bind, run_underlying h, Result.andThen_ok, Sem.run_pure]
theorem cX {P : Program} {w : World} {b : Nat} {es : Array MapEntry} {c : Nat} (hb : w.heap[b]? = some (.map es c)) : (getObj b).run P w = .ok (.map es c) w := by
 simp [getObj, Sem.run, hb]
section
variable {P : Program} {v j : Nat} {tm : Tm} {σ : Store} {dst : Option Tmp} {ty : TypeId} {pos : String} {af : Array Edge} {gd : Option (Nat × Bool)}
theorem makeF_ok {T : TypeId} {K : Tm → Store → Prop} (hK : ∀ g b, K ((tm.putO dst (.d (.c (.map (some b))))).put GS (.gh 0 (fnmY g b []))) σ) :
  OpT P v j ⟨dst, .makeMap T none, ty, pos, af, gd⟩ tm σ K := fun n C G a w ro next Q hd hro hN hfr hs hk => by
 have old : ∀ b, b < w.heap.size → (w.alloc (.map #[] 0)).heap[b]? = w.heap[b]? := fun b hb => by
  show (w.heap.push _)[b]? = _
  rw [Array.getElem?_push_lt hb, Array.getElem?_eq_getElem hb]
 unfold Oper.wpIn
 refine ⟨fun _ _ => trivial, ?_⟩
 rw [show (wideR ro).round = ro from rfl, Oper.semAt_eq ro a.eval _ (fun c hc => by cases hc)]
 have hrun : (execOp a.eval ⟨dst, .makeMap T none, ty, pos, af, gd⟩).run P w = .ok (.value (.map (some w.heap.size))) (w.alloc (.map #[] 0)) := by
  simp [execOp, run_makeMap, Result.andThen]
 rw [hrun]
 have hsz : C.Γ.w0.heap.size ≤ w.heap.size := hs.w.size
 refine hk ⟨C.Γ, C.fix, C.defs, C.ro, C.base, fun b => C.dD b ∨ b = w.heap.size, fun b hb => hb.elim (C.dok b) fun e => Or.inl (by rw [e]; exact hsz), C.bok, C.d0⟩ G _ σ _ _ ⟨rfl, rfl, rfl, fun b h => Or.inl h, fun _ _ h => h, rfl⟩ (.refl G) (fun _ _ _ _ _ => rfl)
  ⟨by rw [Act.put_size, hs.size], by rw [Act.put_defers, hs.defers], fun t y ht => ?_, hs.w.allocNon _, fun b' ob' hb' => ?_, hs.marks, fun i2 Y2 hi => ?_⟩ (hK G w.heap.size)
 ·by_cases hn' : t = GS
  ·subst hn'
   rw [Tm.put_self] at ht
   exact Or.inl ⟨_, _, (Option.some.inj ht).symm⟩
  ·rw [Tm.put_ne _ _ hn'] at ht
   exact (hs.tm.mono (.refl G)).put (by rw [RepO, Rep]; exact ⟨rfl, rfl⟩) dst (by rw [hs.size]; exact fun d e => (hd d e).1) t y ht
 ·obtain ⟨q1, q2⟩ := hs.fix b' ob' hb'
  exact ⟨(old b' (Array.getElem?_eq_some_iff.1 q1).1).trans q1, q2⟩
 ·rw [Tm.put_self] at hi
  cases hi
  refine ⟨(show ∃ es clock, (w.alloc (.map #[] 0)).heap[w.heap.size]? = some (.map es clock) ∧ FE G.M [] es.toList from ⟨#[], 0, by show (w.heap.push _)[w.heap.size]? = _; simp, rfl⟩), (show G.le G from .refl G), fun b' ob' hb' hD' => ?_, fun b' hb' => Or.inr (show b' = w.heap.size from hb')⟩
  have := (Array.getElem?_eq_some_iff.1 (hs.fix b' ob' hb').1).1
  have h9 : b' = w.heap.size := hD'
  omega
theorem insF_ok {o : Oper} {T kt e : TypeId} {kd : TypeDesc} {K : Tm → Store → Prop} {m x z : Operand} {i b : Nat} {g : Gh} {k : Value} {t : TV} {y : OV} {L : List (Value × TV)} (ho : o = ⟨dst, .insert T m x z, ty, pos, af, gd⟩ ∨ o = ⟨dst, .mapUpdate T m x z, ty, pos, af, gd⟩) (hT : P.underlying T = some (.map kt e))
  (hm : ev tm m = some (.d (.c (.map (some b))))) (hx : ev tm x = some (.d (.c k))) (hk : PKey P kt kd k) (hz : ev tm z = some y) (hy : y.toTV = some t) (hg : tm GS = some (.gh i (fnmY g b L))) (hn : lookV kd k L = some none)
  (hK : ∀ g', K ((tm.putO dst .un).put GS (.gh 0 (fnmY g' b (L ++ [(k, t)])))) σ) : OpT P v j o tm σ K := fun n C G a w ro next Q hd hro hN hfr hs hkk => by
 have hdst : o.dst = dst := by rcases ho with rfl | rfl <;> rfl
 obtain ⟨⟨es, clock, hb, hE⟩, hJg, hJf1, hJf2⟩ := hs.gh i _ hg
 have hbD : (fnmY g b L).D b := rfl
 have hS : C.Γ.w0.heap.size ≤ b ∨ C.Γ.S b := C.dok b (hJf2 b hbD)
 have r1 := vA (zO hs.tm hm)
 have r2 := vA (zO hs.tm hx)
 have r3 : Rep G.M t (a.eval z) := OV.toTV_rep y t _ hy (zO hs.tm hz)
 have hf := FE.find 0 hE hn
 have hrun : (execOp a.eval o).run P w = .ok .skip (w.putObj b (.map (es.push ⟨k, a.eval z, clock⟩) (clock + 1))) := by
  have hu : (Instr.mapUpdate T (a.eval m) (a.eval x) (a.eval z)).run P w = .ok () (w.putObj b (.map (es.push ⟨k, a.eval z, clock⟩) (clock + 1))) := by
   have hfk : (Instr.findKey kt k es.toList).run P w = .ok none w := by
    simp only [Instr.findKey, Sem.run_bind, run_underlying hk.desc, Result.andThen_ok, hf, Sem.run_pure]
   have hset : (setObj b (.map (es.push ⟨k, a.eval z, clock⟩) (clock + 1))).run P w = .ok () (w.putObj b (.map (es.push ⟨k, a.eval z, clock⟩) (clock + 1))) := by
    simp [setObj, Sem.run, hb, World.putObj]
   simp only [Instr.mapUpdate, r1, r2, Sem.run_bind, run_underlying hT, Result.andThen_ok, cX hb, hk.check, hfk, hset]
  rcases ho with rfl | rfl <;> simp only [execOp, Sem.run_bind, hu, Result.andThen_ok, Sem.run_pure]
 have hE' : FE G.M (L ++ [(k, t)]) (es.push ⟨k, a.eval z, clock⟩).toList := by
  rw [Array.toList_push]
  exact FE.snoc clock (FE.mono hJg.1 L _ hE) r3
 have nx : next (a.put o.dst undef) (w.putObj b (.map (es.push ⟨k, a.eval z, clock⟩) (clock + 1))) := by
  rw [hdst]
  rw [hdst] at hd
  refine hkk C G _ σ _ _ (.refl C) (.refl G) (fun _ _ _ _ _ => rfl) ⟨by rw [Act.put_size, hs.size], by rw [Act.put_defers, hs.defers], fun t y ht => ?_, hs.w.putNon hb rfl hS, fun b' ob' hb' => ?_, hs.marks, fun i2 Y2 hi => ?_⟩ (hK G)
  ·by_cases hn' : t = GS
   ·subst hn'
    rw [Tm.put_self] at ht
    exact Or.inl ⟨_, _, (Option.some.inj ht).symm⟩
   ·rw [Tm.put_ne _ _ hn'] at ht
    exact (hs.tm.mono (.refl G)).put (kN G) dst (by rw [hs.size]; exact fun d e => (hd d e).1) t y ht
  ·obtain ⟨q1, q2⟩ := hs.fix b' ob' hb'
   exact ⟨(World.putObj_heap_other fun e => hJf1 b' ob' hb' (by rw [e]; exact hbD)).trans q1, q2⟩
  ·rw [Tm.put_self] at hi
   cases hi
   refine ⟨⟨_, _, World.putObj_heap_same (Array.getElem?_eq_some_iff.1 hb).1, hE'⟩, Gh.le.refl G, fun b' ob' hb' hD' => hJf1 b' ob' hb' hD', fun b' hb' => hJf2 b' hb'⟩
 unfold Oper.wpIn
 refine ⟨fun _ _ => trivial, ?_⟩
 rw [show (wideR ro).round = ro from rfl, Oper.semAt_eq ro a.eval o fun c hc => by rcases ho with rfl | rfl <;> cases hc]
 rw [hrun]; exact nx
theorem still_ok {o : Oper} {K : OV → Store → Prop} (hdf : ∀ c, o.op ≠ .defer c) (h : ∀ (n : Nat) (C : Cx) (G : Gh) (a : Act) (w : World), SRel n C G tm σ a w → ∃ x r, (execOp a.eval o).run P w = .ok (.value x) w ∧ RepO G r x ∧ K r σ) : OpOk P v j o tm σ K := fun n C G a w ro next Q hd hro hN hfr hs hkk => by
 obtain ⟨x, r, h1, h2, h3⟩ := h n C G a w hs
 unfold Oper.wpIn
 refine ⟨fun _ _ => trivial, ?_⟩
 rw [show (wideR ro).round = ro from rfl, Oper.semAt_eq ro a.eval o fun c hc => (hdf c hc).elim, h1]
 exact hkk C G (tm.putO o.dst r) σ _ w (.refl C) (.refl G) (fun _ _ _ _ _ => rfl) ⟨by rw [Act.put_size, hs.size], by rw [Act.put_defers, hs.defers], (hs.tm.mono (.refl G)).put h2 o.dst (by rw [hs.size]; exact fun d e => (hd d e).1), hs.w, hs.fix, hs.marks, fun i Y hi => hs.gh i Y ((xW hd r).symm.trans hi)⟩ ⟨r, rfl, h3⟩
theorem lookF_ok {T kt e : TypeId} {kd : TypeDesc} {K : OV → Store → Prop} {m x : Operand} {i b : Nat} {g : Gh} {k : Value} {t : TV} {L : List (Value × TV)} (hT : P.underlying T = some (.map kt e))
  (hm : ev tm m = some (.d (.c (.map (some b))))) (hx : ev tm x = some (.d (.c k))) (hk : PKey P kt kd k) (hg : tm GS = some (.gh i (fnmY g b L))) (hn : lookV kd k L = some (some t))
  (hK : K (.d t) σ) : OpOk P v j ⟨dst, .lookup T m x false, ty, pos, af, gd⟩ tm σ K := still_ok (fun c h => by cases h) fun n C G a w hs => by
 obtain ⟨⟨es, clock, hb, hE⟩, hJg, _⟩ := hs.gh i _ hg
 have r1 := vA (zO hs.tm hm)
 have r2 := vA (zO hs.tm hx)
 obtain ⟨q, u, hf, hu⟩ := FE.find 0 hE hn
 have hfk : (Instr.findKey kt k es.toList).run P w = .ok (some (q, u)) w := by
  simp only [Instr.findKey, Sem.run_bind, run_underlying hk.desc, Result.andThen_ok, hf, Sem.run_pure]
 exact ⟨u, .d t, by simp only [execOp, Instr.lookup, r1, r2, Sem.run_bind, run_underlying hT, Result.andThen_ok, cX hb, hk.check, hfk, Sem.run_pure]; rfl, by rw [RepO]; exact Rep.mono hJg.1 t u hu, hK⟩
end
section
variable {P : Program} {v j : Nat} {ops : Array Oper} {Q : Tm → Store → Prop} {rest : List Oper} {tm : Tm} {σ : Store} {dst : Option Tmp} {ty : TypeId} {pos : String} {af : Array Edge}
theorem S_makeF {T : TypeId} (h : ∀ g b, AO P v ops Q (j + 1) rest ((tm.putO dst (.d (.c (.map (some b))))).put GS (.gh 0 (fnmY g b []))) σ) : AO P v ops Q j (⟨dst, .makeMap T none, ty, pos, af, none⟩ :: rest) tm σ := ao_t (makeF_ok h)
theorem cQ {T kt e : TypeId} {kd : TypeDesc} {m x z : Operand} {i b : Nat} {g : Gh} {k : Value} {t : TV} {y : OV} {L : List (Value × TV)} (hT : P.underlying T = some (.map kt e)) (hm : ev tm m = some (.d (.c (.map (some b))))) (hx : ev tm x = some (.d (.c k))) (hk : PKey P kt kd k) (hz : ev tm z = some y) (hy : y.toTV = some t) (hg : tm GS = some (.gh i (fnmY g b L))) (hn : lookV kd k L = some none)
  (h : ∀ g', AO P v ops Q (j + 1) rest ((tm.putO dst .un).put GS (.gh 0 (fnmY g' b (L ++ [(k, t)])))) σ) : AO P v ops Q j (⟨dst, .insert T m x z, ty, pos, af, none⟩ :: rest) tm σ := ao_t (insF_ok (Or.inl rfl) hT hm hx hk hz hy hg hn h)
theorem aQ {T kt e : TypeId} {kd : TypeDesc} {m x : Operand} {i b : Nat} {g : Gh} {k : Value} {t : TV} {L : List (Value × TV)} (hT : P.underlying T = some (.map kt e)) (hm : ev tm m = some (.d (.c (.map (some b))))) (hx : ev tm x = some (.d (.c k))) (hk : PKey P kt kd k) (hg : tm GS = some (.gh i (fnmY g b L))) (hn : lookV kd k L = some (some t))
  (h : AO P v ops Q (j + 1) rest (tm.putO dst (.d t)) σ) : AO P v ops Q j (⟨dst, .lookup T m x false, ty, pos, af, none⟩ :: rest) tm σ := ao_ok (lookF_ok hT hm hx hk hg hn h)
end
end Go.Proofs.YtjogffchdejabaaGreatDoor
