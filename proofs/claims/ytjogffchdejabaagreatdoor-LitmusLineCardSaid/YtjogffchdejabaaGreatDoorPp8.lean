/- Parts. -/
import Derived.Lib.ItoaMem
import Derived.WalkKit
import Derived.BigCall
import Derived.BigGuard
import Derived.RangeFuncNested
import Derived.RecoverIn
import Derived.Lib.ItoaLen
import Derived.Lib.ParseIntBCases
import Derived.Test.YtjogffchdejabaaGreatDoorPp3
import Derived.Test.YtjogffchdejabaaGreatDoorPp4
import Derived.Test.YtjogffchdejabaaGreatDoorPp5
import Derived.Test.YtjogffchdejabaaGreatDoorPp6
import Derived.Test.YtjogffchdejabaaGreatDoorPp7
set_option linter.unusedVariables false
set_option linter.unusedSimpArgs false
set_option maxHeartbeats 4000000
namespace Go.Proofs.YtjogffchdejabaaGreatDoor
open Go.RowKit
section
open Go.Shelf Go.RowKit Go.Sort Go.Lib
def Pow10 (w : World) : Prop := ∀ i : Nat, i < 20 → w.cell? ⟨1, i, none⟩ = some (.int .u64 ((10 ^ i : Nat) : Int))
theorem Pow10.alloc {w : World} (h : Pow10 w) (o : Obj) : Pow10 (w.alloc o) := fun i hi => by
 have h0 := h i hi
 have hlt := World.block_lt_of_cell? w ⟨1, i, none⟩ h0
 exact (((Below.refl w.heap.size w).alloc (Nat.le_refl _) o).cell (p := ⟨1, i, none⟩) hlt).trans h0
theorem holds0 (w : World) (T : TypeId) (nd : Nat) (hs : nd ≤ 24) : Holds (fun (b : UInt8) => Value.int .u8 (b.toNat : Int)) (w.alloc (.cells Lib.zeros24 T)) w.heap.size 0 (Array.replicate nd (0 : UInt8)) := fun j hj => by
 have hj' : j < nd := by simpa using hj
 refine ⟨?_, World.frozen?_alloc_new _ _ _ _⟩
 rw [World.cell?_alloc_new, Lib.zeros24_at _ (by omega), getElem!_pos _ j hj]
 simp
theorem fin0 (w : World) (o : Obj) (dk : Array UInt8) (k : Nat) : ∃ os, (putRow (fun (b : UInt8) => Value.int .u8 (b.toNat : Int)) (w.alloc o) w.heap.size 0 dk).drewN k = grow (w.drewN k) os := by
 rw [alloc_eq_grow]
 obtain ⟨os', _, e⟩ := putRow_grow_new (fun (b : UInt8) => Value.int .u8 (b.toNat : Int)) w #[o] w.heap.size 0 dk (Nat.le_refl _)
 exact ⟨os', by rw [e]; rfl⟩
theorem tD : Tryz.prog.follows .mixedOrders = true := by kernel_rfl
set_option maxHeartbeats 2000000 in
set_option maxRecDepth 100000 in
theorem numDigits_c (u : Nat) (h1 : 1 ≤ u) (h2 : u < 18446744073709551616) (w : World) (hP : Pow10 w) :
  Calls Tryz.prog 228 #[.int .u64 u] w fun e w' => e = .returned (.int .i64 (Lib.nDigits u)) ∧ w' = w := by
 have mixed := tD
 have e1 : ∀ args w, (callFunc 170 args).run Tryz.prog w = .ok (.enter 170 args) w := enters_of Tryz.func170 (by kernel_rfl) rfl
 have e2 : ∀ args w, (callFunc 266 args).run Tryz.prog w = .ok (.enter 266 args) w := enters_of Tryz.func266 (by kernel_rfl) rfl
 have e3 : ∀ args w, (callFunc 267 args).run Tryz.prog w = .ok (.enter 267 args) w := enters_of Tryz.func267 (by kernel_rfl) rfl
 obtain ⟨hnd, h19⟩ := Lib.numDigits_eq u h1 h2
 have hL : Lib.bitLen u ≤ 64 := Lib.bitLen_le u 64 (Nat.le_refl _) h2
 have hcell := hP (Lib.l10 (Lib.bitLen u)) (by omega)
 have hto : ((u : Int)).toNat = u := by omega
 generalize hq : Lib.l10 (Lib.bitLen u) = q at hnd h19 hcell
 generalize hT : 10 ^ q = T at hnd hcell
 have h20 : q < 20 := by omega
 have Hnd := Lib.hid hnd
 clear hnd hP
 go_enter Tryz.func228, Tryz.ntmps228
 go_wp2_with (first
  | (go_at_fn 170; refine (Tryz.bits_Len64 _ _ (by omega) (by omega)).mono ?_; rintro e w' ⟨rfl, rfl⟩)
  | (go_at_fn 266; refine (Tryz.internal_strconv_log10Pow2 _ (by first | exact hL | (rw [hto]; exact hL)) _).mono ?_; rintro e w' ⟨rfl, rfl⟩)
  | (go_at_fn 267; refine (Tryz.internal_strconv_bool2_int _ _).mono ?_; rintro e w' ⟨rfl, rfl⟩))
 all_goals go_ret
 all_goals (
  refine ⟨?_, rfl⟩
  have hnd := Hnd.out
  congr 2
  split at hnd <;> simp_all <;> omega)
set_option maxHeartbeats 6400000 in
set_option maxRecDepth 100000 in
theorem fmtU_c (u : Nat) (hu64 : u < 18446744073709551616) (w : World) (hP : Pow10 w) :
  Calls Tryz.prog 187 #[.int .u64 u, .int .i64 10] w fun e w' => e = .returned (.string ⟨(Lib.decDigits u).toArray⟩) ∧ ∃ k os, w' = grow (w.drewN k) os := by
 have mixed := tD
 have e1 : ∀ args w, (callFunc 227 args).run Tryz.prog w = .ok (.enter 227 args) w := enters_of Tryz.func227 (by kernel_rfl) rfl
 have e2 : ∀ args w, (callFunc 228 args).run Tryz.prog w = .ok (.enter 228 args) w := enters_of Tryz.func228 (by kernel_rfl) rfl
 have e3 : ∀ args w, (callFunc 229 args).run Tryz.prog w = .ok (.enter 229 args) w := enters_of Tryz.func229 (by kernel_rfl) rfl
 by_cases hs : u < 100
 ·go_enter Tryz.func187, Tryz.ntmps187
  go_wp2_with (go_at_fn 227; refine (Tryz.internal_strconv_small u hs _).mono ?_; rintro e w' ⟨rfl, rfl⟩)
  go_ret
  exact ⟨rfl, 0, #[], by simp [World.drewN_zero]⟩
 ·have hu1 : 1 ≤ u := by omega
  have hnd20 : Lib.nDigits u ≤ 20 := by have := Lib.numDigits_eq u hu1 hu64; split at this <;> omega
  have hal : Tryz.prog.arrayLen 276 = 24 := by kernel_rfl
  have hsl1 : ∀ W, (Instr.sliceAt 276 (.pointer (some ⟨w.heap.size, 0, none⟩)) none (some (.int .i64 (Lib.nDigits u : Int))) none).run Tryz.prog W = .ok (.slice (some ⟨w.heap.size, 0, none⟩) (Lib.nDigits u) 24) W := fun W => by
   rw [run_sliceAt_array_h W 276 ⟨w.heap.size, 0, none⟩ (by kernel_rfl) .i64 (Lib.nDigits u : Int) (by omega) (by rw [hal]; omega)]
   go_simp
  have hH0 := holds0 w 276 (Lib.nDigits u) (by omega)
  have hfmt := Tryz.internal_strconv_formatBase10 w.heap.size 0 24 u (Array.replicate (Lib.nDigits u) 0) (w.alloc (.cells Lib.zeros24 276)) hH0 (by rw [Array.size_replicate]; exact Lib.lt_pow_nDigits u) hu64 (by rw [Array.size_replicate]; omega)
  rw [Array.size_replicate] at hfmt
  have HH0 := Lib.hid hH0
  have hP' := hP.alloc (.cells Lib.zeros24 276)
  clear hH0 hal
  go_enter Tryz.func187, Tryz.ntmps187
  go_wp2_with (first
   | (go_at_fn 228; refine (numDigits_c u hu1 hu64 _ hP').mono ?_; rintro e w' ⟨rfl, rfl⟩))
  go_at_fn 229
  refine hfmt.mono ?_
  rintro e w' ⟨rfl, k, v', dk, rfl, hF⟩
  have hcv : (convert 119 9 (.slice (some ⟨w.heap.size, 0, none⟩) (Lib.nDigits u) 24)).run Tryz.prog ((putRow (fun (b : UInt8) => Value.int .u8 (b.toNat : Int)) (w.alloc (.cells Lib.zeros24 276)) w.heap.size 0 dk).drewN k) = .ok (.string ⟨(Lib.decDigits u).toArray⟩) ((putRow (fun (b : UInt8) => Value.int .u8 (b.toNat : Int)) (w.alloc (.cells Lib.zeros24 276)) w.heap.size 0 dk).drewN k) := by
   have h := run_convert_bytes_back (P := Tryz.prog) ((putRow (fun (b : UInt8) => Value.int .u8 (b.toNat : Int)) (w.alloc (.cells Lib.zeros24 276)) w.heap.size 0 dk).drewN k) 119 9 5 ⟨w.heap.size, 0, none⟩ 24 (Lib.decDigits u) Tryz.underlying119 Tryz.underlying5 Tryz.underlying9 (fun j hj => by
    rw [Lib.row_is_numeral hF j hj, Lib.add_plain, World.cell?_drewN]
    exact cell?_putRow (fun (b : UInt8) => Value.int .u8 (b.toNat : Int)) _ w.heap.size 0 _ dk HH0.out (by rw [hF.size, Array.size_replicate]) j (by rw [hF.size]; rw [Lib.decDigits_length] at hj; exact hj))
   rw [Lib.decDigits_length] at h
   exact h
  go_wp2
  go_ret
  obtain ⟨os, eo⟩ := fin0 w (.cells Lib.zeros24 276) dk k
  exact ⟨rfl, k, os, eo⟩
set_option maxRecDepth 100000 in
theorem fmt_c (u : Nat) (hu64 : u < 18446744073709551616) (w : World) (hP : Pow10 w) :
  Calls Tryz.prog 127 #[.int .u64 u, .int .i64 10] w fun e w' => e = .returned (.string ⟨(Lib.decDigits u).toArray⟩) ∧ ∃ k os, w' = grow (w.drewN k) os := by
 have e1 : ∀ args w, (callFunc 187 args).run Tryz.prog w = .ok (.enter 187 args) w := enters_of Tryz.func187 (by kernel_rfl) rfl
 go_enter Tryz.func127, Tryz.ntmps127
 go_wp2_with (go_at_fn 187; refine (fmtU_c u hu64 _ hP).mono ?_; rintro e w' ⟨rfl, k, os, rfl⟩)
 go_ret
 exact ⟨rfl, k, os, rfl⟩
theorem below_grow (w : World) (k : Nat) (os : Array Obj) : Below w.heap.size w (grow (w.drewN k) os) := by
 refine ⟨?_, ?_, ?_, ?_, fun b hb => ?_⟩
 ·simp [grow, World.drewN]
 ·simp [grow, World.drewN]
 ·simp [grow, World.drewN]
 ·simp [grow]
 ·simp [grow, Array.getElem?_append_left, hb]
theorem gE {P : Program} {f : FuncId} {args : List OV} {l : Value} (hE : Enters P f) (hl : l.oneCell' = true)
  (h : ∀ (G : Gh) (w : World) (vs : List Value), RepOL G args vs → (∀ b o v, G.M b o = some v → w.cell? ⟨b, o, none⟩ = some v) → Calls P f vs.toArray w fun e w' => e = .returned l ∧ Below w.heap.size w w') : Pure P f args (.d (.c l)) :=
 ⟨hE, fun G w vs N hr hw => (h G w vs hr hw.mem).mono fun e w' ⟨h1, h2⟩ => ⟨l, G, .d (.c l), Store.nil, h1, rfl, Gh.le.refl G, by rw [RepO]; exact wE hl, hw.below h2⟩⟩
theorem tQ (n : Int) (h0 : 0 ≤ n) (h1 : n ≤ 18446744073709551615) : Pure E.P 127 [.int .u64 n, .int .i64 10] (.bs (decDigits n.toNat)) := gE ⟨_, Tryz.func127, by decide, rfl⟩ rfl fun G w vs hr hm => by
 rw [RepOL] at hr
 obtain ⟨v, us, rfl, r0, hr⟩ := hr
 rw [RepOL] at hr
 obtain ⟨v2, us, rfl, r2, hr⟩ := hr
 rw [RepOL] at hr
 subst hr
 rw [vA r0, vA r2]
 have e : n = (n.toNat : Int) := by omega
 rw [e]
 refine (fmt_c n.toNat (by omega) w fun i hi => hm _ _ _ (G.kn.1 i hi)).mono fun e w' ⟨h1, k, os, h2⟩ => ⟨h1, ?_⟩
 subst h2
 exact below_grow w k os
theorem tM (n : Nat) (h : n < 100) : Pure E.P 136 [.int .i64 n] (.bs (decDigits n)) := gE ⟨_, Tryz.func136, by decide, rfl⟩ rfl fun G w vs hr hm => by
 rw [RepOL] at hr
 obtain ⟨v, us, rfl, r0, hr⟩ := hr
 rw [RepOL] at hr
 subst hr
 rw [vA r0]
 refine (Tryz.strconv_Itoa_small n h w).mono fun e w' ⟨h1, h2⟩ => ⟨h1, ?_⟩
 subst h2
 exact Below.refl _ _
end
variable {σ : Store} {τ : Stamp} {Γ : Ctx} {G : Gh} {w : World} {c rest : Code} {F : Fence} {P : Program} {Q : Exit → Tm → Store → Prop} {a : List UInt8} {tm : Tm} {id : Nat} {K : Act → World → Prop} {l : List Oper} {x y : Operand} {xs : List Operand} {ty T' : TypeId} {pos : String} {af : Array Edge} {ch : List PanicEntry} {f : FuncId} {R : Ending → FrameMode → World → Prop} {args : List OV} {e : Exit} {te : TE} {gd : Option (Nat × Bool)} {X : Type}
abbrev Rows := List (Nat × (Stamp × Row))
variable {R1 : Rows → Prop}
theorem eJ {σ1 : Store} {l0 l1 : Rows} (hn : (l1.map (·.1)).Nodup) (g1 : (stL l1).le σ1) {k : Nat} {r : Row} (hr : ((σ.apply (dels l0)).apply (outD l1)) k = some (τ, r)) : ((stL l0) k = none ∧ σ k = some (τ, r)) ∨ σ1 k = some (τ, r) := by
 rw [bY l1 _ k hn] at hr
 cases h8 : stL l1 k with
 | some x => rw [h8] at hr; cases hr; exact Or.inr (g1 _ _ h8)
 | none =>
  rw [h8, eO] at hr
  cases h9 : stL l0 k with
  | some x => rw [h9] at hr; cases hr
  | none => rw [h9] at hr; exact Or.inl ⟨rfl, hr⟩
section
variable {E : Env} {v j : Nat} {ops : Array Oper} {K : Tm → Store → Prop} {rest : List Oper} {tm : Tm} {σ : Store} {dst : Option Tmp} {ty : TypeId} {pos : String} {af : Array Edge}
end
theorem WRel.allocNon (h : WRel Γ G σ w) (o : Obj) : WRel Γ G σ (w.alloc o) := by
 have old : ∀ b, b < w.heap.size → (w.alloc o).heap[b]? = w.heap[b]? := fun b hb => by
  show (w.heap.push o)[b]? = _
  rw [Array.getElem?_push_lt hb, Array.getElem?_eq_getElem hb]
 exact {
  mem := fun b i v hm => by
   have h1 := h.mem b i v hm
   obtain ⟨o2, h2, h3⟩ := cells_of_cell h1
   rw [World.cell?_of_block (w := w) (old b (Array.getElem?_eq_some_iff.1 h2).1)]; exact h1
  own := fun k τ r hk => (h.own k τ r hk).imp id fun ⟨β, h1, h2, h3, h4⟩ => ⟨β, h1, h2.of_heap (old β.b h2.lt), h3, h4⟩
  inj := h.inj
  keep := fun b hb hS => (old b (Nat.lt_of_lt_of_le hb h.size)).trans (h.keep b hb hS)
  size := Nat.le_trans h.size (by rw [World.size_alloc]; omega)
  tape := h.tape
  os := h.os
  output := h.output
  g0 := h.g0
  new := h.new
  bound := h.bound
  low := h.low }
section
variable {P : Program} {b : Frame} {a : Act} {k : List Item} {cs : List Frame} {w : World}
theorem yL : step P (lone (b.atR a (.code (.scope c) :: k)) cs w) = .next (lone (b.atR a (.code c :: .inScope c :: k)) cs w) :=
 step_lone_go (by simp [stepG, stepG.exec, Frame.atR])
theorem stepR_inScope : step P (lone (b.atR a (.inScope c :: k)) cs w) = .next (lone (b.atR a k) cs w) :=
 step_lone_go (by simp [stepG, stepG.exec, Frame.atR])
end
theorem wpIn_scope {n : Nat} {Q : Exit → Act → World → Prop} {a : Act} (h : c.wpIn F n P (Exit.noGoto Q) a w) : (Code.scope c).wpIn F n P Q a w := by
 intro b k cs hro hb hr
 have h0 : (lone (b.atR a (.code (.scope c) :: k)) cs w).fenced P F := fenced_calm hb hr rfl
 obtain ⟨e, a₁, w₁, hq, harr⟩ := h b (.inScope c :: k) cs hro hb hr
 cases e with
 | normal => exact ⟨.normal, a₁, w₁, hq, .head h0 yL (StepsIn.trans harr (.one (fenced_calm hb hr rfl) stepR_inScope))⟩
 | exit id' =>
  have hx : exitTo id' (.inScope c :: k) = exitTo id' k := by simp [exitTo]
  exact ⟨.exit id', a₁, w₁, hq, fun k' hk => .head h0 yL (harr.1 k' (by rw [hx]; exact hk)),
   fun hr' hk => let ⟨k₁, h1, h2⟩ := harr.2 hr' (by rw [hx]; exact hk); ⟨k₁, h1, .head h0 yL h2⟩⟩
 | goto l => exact hq.elim
 | ret => exact ⟨_, a₁, w₁, hq, .of_steps (.one h0 yL) harr⟩
 | panic ch => exact ⟨_, a₁, w₁, hq, .of_steps (.one h0 yL) harr⟩
 | outgrown => exact ⟨_, a₁, w₁, hq, .of_steps (.one h0 yL) harr⟩
def NoGoto (Q : Exit → Tm → Store → Prop) : Exit → Tm → Store → Prop
 | .goto _, _, _ => False
 | e, tm, σ => Q e tm σ
theorem awp_scope {n : Nat} (h : awp P n c (NoGoto Q) tm σ) : awp P n (.scope c) Q tm σ := fun C ro G a w hro hs =>
 wpIn_scope (wpIn_mono (h C ro G a w hro hs) fun e a w ⟨C', G, tm, σ, h0, h1, h2⟩ => by
  cases e <;> first | exact h2.elim | exact ⟨C', G, tm, σ, h0, h1, h2⟩)
theorem ng_n (h : Q .normal tm σ) : NoGoto Q .normal tm σ := h
theorem ng_r (h : Q .ret tm σ) : NoGoto Q .ret tm σ := h
theorem ng_x (h : Q (.exit id) tm σ) : NoGoto Q (.exit id) tm σ := h
section
variable {P : Program} {v j : Nat} {tm : Tm} {σ : Store} {dst : Option Tmp} {ty : TypeId} {pos : String} {af : Array Edge} {gd : Option (Nat × Bool)}
end
section
variable {E : Env} {v j : Nat} {ops : Array Oper} {K : Tm → Store → Prop} {rest : List Oper} {tm : Tm} {σ : Store} {dst : Option Tmp} {ty : TypeId} {pos : String} {af : Array Edge}
end
section
variable {F : Fence} {n : Nat} {P : Program}
theorem uponIn_Q {o : Oper} {a : Act} {Q1 Q : Exit → Act → World → Prop} {r : Result Next} (hp : ∀ c a w, Q1 (.panic c) a w → Q (.panic c) a w) (ho : LetsOut Q1 → LetsOut Q) (h : o.uponIn F n P a K Q1 r) : o.uponIn F n P a K Q r := by
 cases r with
 | ok nx w =>
  cases nx with
  | enter f args => exact ⟨h.1, h.2.mono fun e w' he => by
    cases e with
    | returned v => exact he
    | panicked c => exact hp _ _ _ he
    | outgrown => exact ho he⟩
  | round l f tmps assign body => exact ⟨h.1, h.2.mono fun e w' he => by
    cases e with
    | returned v => exact he
    | panicked c => exact hp _ _ _ he
    | outgrown => exact ho he⟩
  | _ => exact h
 | halt x w =>
  cases x with
  | panic v => exact hp _ _ _ h
  | _ => exact h
theorem bL {ops : Array Oper} {Q : Exit → Act → World → Prop} {l2 : List Oper} : ∀ (l1 : List Oper) (a : Act) (w : World), wpListIn F n P ops (Exit.then (wpListIn F n P ops Q l2) Q) l1 a w → wpListIn F n P ops Q (l1 ++ l2) a w
 | [], a, w, h => h
 | o :: l1, a, w, h => by
  rw [List.cons_append]
  unfold wpListIn at h ⊢
  split at h
  ·rename_i hc
   rw [if_pos hc]
   refine Oper.wpIn_mono (fun a w h => bL l1 a w h) ⟨h.1, uponIn_Q (fun c a w h => h) (fun h => h) h.2⟩
  ·rename_i hc
   rw [if_neg hc]
   exact ⟨h.1, bL l1 _ w h.2⟩
end
def FnP (P : Program) (f : FuncId) (args : List OV) (l0 : Rows) (ch : List PanicEntry) (R1 : Rows → Prop) : Prop :=
 Enters P f ∧ ∀ (G : Gh) (w : World) (vs : List Value) (N : Nat), RepOL G args vs → WRel ⟨w, Blks G (stL l0), G, N⟩ G (stL l0) w →
  Calls P f vs.toArray w (fun e w' => e = .panicked ch ∧ ∃ l1, R1 l1 ∧ ∃ G' σ', (stL l1).le σ' ∧ G.le G' ∧ WRel ⟨w, Blks G (stL l0), G, N⟩ G' σ' w')
def PanK (P : Program) (ch : List PanicEntry) (Q : Exit → Tm → Store → Prop) (x : Operand) (xs : List Operand) (tm : Tm) (σ : Store) : Prop :=
 ∃ y f fi ca ys l0, ∃ R1 : Rows → Prop, ev tm x = some y ∧ IsFn y f fi ca ∧ evs tm xs = some ys ∧ FnP P f (fi ++ ys ++ ca) l0 ch R1 ∧ (stL l0).le σ ∧ (∀ l1, R1 l1 → (l1.map (·.1)).Nodup) ∧ ∀ l1, R1 l1 → Q (.panic ch) tm ((σ.apply (dels l0)).apply (outD l1))
theorem uN {n : Nat} (k : Nat) {tys : Array TypeId} {dst : Option Tmp} (hn : dstsLt n l = true) (ho : l[k]? = some ⟨dst, .call { callee := .value x, args := xs.toArray, argTypes := tys }, ty, pos, af, none⟩) (h : ∀ v, AO P v l.toArray (PanK P ch Q x xs) 0 (l.take k) tm σ) : awp P n (.region id l.toArray false) Q tm σ := fun C ro G a w hro hs => by
 obtain ⟨v, hv, hf⟩ := hs.w.free
 refine wpIn_region_lit ?_
 have hl : l = l.take k ++ ⟨dst, .call { callee := .value x, args := xs.toArray, argTypes := tys }, ty, pos, af, none⟩ :: l.drop (k + 1) := by
  obtain ⟨hk, e⟩ := List.getElem?_eq_some_iff.1 ho
  rw [← e, List.getElem_cons_drop hk, List.take_append_drop]
 have hn' : dstsLt n (l.take k) = true := by
  simp only [dstsLt, Bool.and_eq_true] at hn ⊢
  exact ⟨hn.1, List.all_eq_true.2 fun o ho => List.all_eq_true.1 hn.2 o (List.mem_of_mem_take ho)⟩
 have key : wpListIn (wideR ro) 0 P l.toArray (Lift n C Q) (l.take k ++ ⟨dst, .call { callee := .value x, args := xs.toArray, argTypes := tys }, ty, pos, af, none⟩ :: l.drop (k + 1)) a w := by
  refine bL _ a w (zE (fun C' G' tm' σ' a' w' hC hs' hp => ?_) (l.take k) 0 C G tm σ a w (.refl C) hro hv hn' (fun k i _ => hf k i) hs (h v).out)
  obtain ⟨y, f, fi, ca, ys, l0, R1, hx, hfn, ha, hc, hle, hnd, hQ⟩ := hp
  show wpListIn _ 0 P _ _ (_ :: _) a' w'
  unfold wpListIn
  rw [if_pos (by simp [Region.wanted])]
  obtain ⟨vs, us, h1, h2, h3⟩ := hfn.rep (yG hs'.tm hx)
  have h4 := bW ha fun z _ y hy => yG hs'.tm hy
  have h5 := hc.2 G' w' (vs.toList ++ xs.map a'.eval ++ us.toList) (v + 1) ((h2.append h4).append h3) (hs'.w.startW hle (v + 1))
  have e : (vs.toList ++ xs.map a'.eval ++ us.toList).toArray = vs ++ (xs.map a'.eval).toArray ++ us := by simp
  rw [e] at h5
  unfold Oper.wpIn
  refine ⟨fun _ _ => trivial, ?_⟩
  rw [show (wideR ro).round = ro from rfl, Oper.semAt_eq ro a'.eval _ (fun c hc => by cases hc), fC h1 hc.1]
  simp only [Oper.uponIn]
  refine ⟨fun e => (by cases e), ?_⟩
  refine (show CallsIn (wideR ro) (0 - 1) P f _ w' _ from callsIn_wide.2 (h5.mono fun e w2 ⟨he, l1, hl1, G2, σ2, g1, g2, g3⟩ => ?_))
  subst he
  have hst := hs'.w.startW hle (v + 1)
  have hN : C'.Γ.N ≤ v := by rw [hC.N]; exact hv
  refine ⟨C', G2, tm', (σ'.apply (dels l0)).apply (outD l1), hC, ⟨hs'.size, hs'.defers, hs'.tm.mono g2, hs'.w.backX hle g3 (Nat.le_succ_of_le hN) (fun k τ r hr => eJ (hnd l1 hl1) g1 hr), fun b o hb => ?_, hs'.marks, fun i Y hi => ?_⟩, hQ l1 hl1⟩
  ·obtain ⟨e1, e2⟩ := hs'.fix b o hb
   exact ⟨(g3.keep b (Array.getElem?_eq_some_iff.1 e1).1 (hs'.fix.not_own hst hb)).trans e1, e2⟩
  ·obtain ⟨e1, e2, e3, e4⟩ := hs'.gh i Y hi
   refine ⟨Y.st i _ _ e1 fun b hb => ?_, e2.trans g2, e3, e4⟩
   obtain ⟨o, f1, f2⟩ := Y.nc i _ b e1 hb
   refine g3.keep b (Array.getElem?_eq_some_iff.1 f1).1 fun ⟨k, τ, r, β, q1, q2, q3⟩ => ?_
   obtain ⟨cs, f4, _⟩ := hst.blk q1 q2
   rw [q3, f1] at f4
   cases f4; cases f2
 rwa [← hl] at key
theorem wS {y : OV} {fi ca ys : List OV} {l0 : Rows} (hx : ev tm x = some y) (hf : IsFn y f fi ca) (ha : evs tm xs = some ys) (hc : FnP P f (fi ++ ys ++ ca) l0 ch R1) (hle : (stL l0).le σ) (hn : ∀ l1, R1 l1 → (l1.map (·.1)).Nodup) (hq : ∀ l1, R1 l1 → Q (.panic ch) tm ((σ.apply (dels l0)).apply (outD l1))) : PanK P ch Q x xs tm σ := ⟨y, f, fi, ca, ys, l0, R1, hx, hf, ha, hc, hle, hn, hq⟩
theorem fJ {P : Program} {fn : Func} {tmps : Array Value} {R : Ending → World → Prop} {Γ : Ctx} {G : Gh} {σ : Store} {u : FrameMode} (hu : u ≠ .run) (rest : List Deferred) : ∀ (ds : List Deferred) (w : World), (ds.map (·.target)).Nodup → (∀ d ∈ ds, ∃ r, d.target = .collected r ∧ Γ.w0.heap.size ≤ r ∧ w.heap[r]? = some (.deferred (some []))) → WRel Γ G σ w →
  (∀ w', WRel Γ G σ w' → LeavesInM Fence.wide 0 P fn tmps R rest u w') → LeavesInM Fence.wide 0 P fn tmps R (ds ++ rest) u w
 | [], w, _, _, hw, hr => hr w hw
 | d :: ds, w, hn, hm, hw, hr => by
  obtain ⟨r, h1, h2, h3⟩ := hm d (by simp)
  refine ⟨hu, .inl ⟨r, _, h1, run_takeDeferred h3, fJ hu rest ds _ (List.nodup_cons.1 hn).2 (fun d' hd' => ?_) (hw.putNon h3 rfl (Or.inl h2)) hr⟩⟩
  obtain ⟨r', g1, g2, g3⟩ := hm d' (by simp [hd'])
  refine ⟨r', g1, g2, (World.putObj_heap_other fun e => ?_).trans g3⟩
  subst e
  exact (List.nodup_cons.1 hn).1 (List.mem_map.2 ⟨d', hd', g1.trans h1.symm⟩)
def MarksOut (P : Program) (K : World → Prop) : List Deferred → World → Prop
 | [], w => K w
 | d :: ds, w => ∃ r w', d.target = .collected r ∧ (Instr.takeDeferred r).run P w = .ok [] w' ∧ MarksOut P K ds w'
theorem hZ {F : Fence} {n : Nat} {P : Program} {K : World → Prop} : ∀ (ds : List Deferred) (w : World) (fr : Frame) (cs : List Frame), fr.mode ≠ .run → fr.defers = ds → F.fn fr.fn → F.room (cs.length + 1 + n) → MarksOut P K ds w →
  ∃ w', K w' ∧ StepsIn (Machine.fenced P F) P (lone fr cs w) (lone { fr with defers := [] } cs w')
 | [], w, fr, cs, _, hd, _, _, h => ⟨w, h, by
   have : ({ fr with defers := [] } : Frame) = fr := by cases fr; simp_all
   rw [this]; exact StepsIn.refl _⟩
 | d :: ds, w, fr, cs, hm, hd, hb, hroom, ⟨r, w', h1, h2, h3⟩ => by
  have i1 : (lone fr cs w).fenced P F := fenced_out hb hroom hm hd (fun g hg => by rw [h1] at hg; simp [Target.leads] at hg)
  obtain ⟨w2, g1, g2⟩ := hZ ds w' { fr with defers := [] ++ ds } cs hm rfl hb hroom h3
  exact ⟨w2, g1, StepsIn.trans (.one i1 (step_collected hm hd h1 h2)) g2⟩
def PostD (P : Program) (fn : Func) (c0 : Frame) (cs : List Frame) (R : Ending → FrameMode → World → Prop) (e : Exit) (a : Act) (cs' : List Frame) (w : World) : Prop :=
 (e = .normal ∨ e = .ret) ∧ ∃ u', cs' = { c0 with mode := u' } :: cs ∧ MarksOut P (fun w' => ∃ v, (results fn a.tmps).run P w' = .ok v w' ∧ R (.returned v) u' w') a.defers w
theorem callsD_marks {n : Nat} {fn : Func} {args : Array Value} {u : FrameMode} (hf : P.funcs[f]? = some fn) (hb : fn.body = some c) (hF : F.fn f) (h : ∀ (c0 : Frame) (cs : List Frame), c0.mode = u → c.wpSIn F n P (PostD P fn c0 cs R) { tmps := args ++ Array.replicate (fn.ntmps - args.size) undef, defers := [] } (c0 :: cs) w) : CallsDIn F n P f args u w R := by
 refine ⟨hF, fun c0 cs hu hroom => ?_⟩
 let b : Frame := { (default : Frame) with fn := f, kind := .deferred, roundOf := none }
 have henter : Frame.enter P f args .deferred =
   b.atR { tmps := args ++ Array.replicate (fn.ntmps - args.size) undef, defers := [] } [.code c] := by
  simp [Frame.enter, Frame.atR, hf, hb, b]
 obtain ⟨e, a', cs', w', hl, ⟨he, u', rfl, hm⟩, harr⟩ := h c0 cs hu b [] rfl rfl hF hroom
 rw [← henter] at harr
 have key : ∀ todo, StepsIn (Machine.fenced P F) P (lone (Frame.enter P f args .deferred) (c0 :: cs) w) (lone { b.atR a' todo with mode := .returning } ({ c0 with mode := u' } :: cs) w') →
   ∃ e u' w' fr, R e u' w' ∧ ComesIn (Machine.fenced P F) P (lone (Frame.enter P f args .deferred) (c0 :: cs) w) (lone fr ({ c0 with mode := u' } :: cs) w') e ∧ fr.kind = .deferred ∧ fr.fn = f ∧ fr.going P w' e := fun todo hs => by
  obtain ⟨w2, ⟨v, h1, h2⟩, h3⟩ := hZ (F := F) (n := n) (P := P) a'.defers w' { b.atR a' todo with mode := .returning } ({ c0 with mode := u' } :: cs) (by simp) rfl hF (by simpa using hroom) hm
  exact ⟨.returned v, u', w2, _, h2, StepsIn.trans hs h3, rfl, rfl, rfl, rfl, fn, hf, h1⟩
 rcases he with rfl | rfl
 ·exact key [] (StepsIn.trans harr (.one (fenced_calm (fr := b.atR a' []) hF (by simpa using hroom) rfl) (stepR_end rfl)))
 ·obtain ⟨todo, hs⟩ := harr.1 rfl
  exact key todo hs
def FnD (P : Program) (f : FuncId) (args : List OV) (u : FrameMode) (l0 : Rows) (u' : FrameMode) (R1 : Rows → Prop) : Prop :=
 Enters P f ∧ ∀ (G : Gh) (w : World) (vs : List Value) (N : Nat), RepOL G args vs → WRel ⟨w, Blks G (stL l0), G, N⟩ G (stL l0) w →
  CallsDIn Fence.wide 0 P f vs.toArray u w (fun e u2 w' => (∃ x, e = .returned x) ∧ u2 = u' ∧ ∃ l1, R1 l1 ∧ ∃ G' σ', (stL l1).le σ' ∧ G.le G' ∧ WRel ⟨w, Blks G (stL l0), G, N⟩ G' σ' w')
def Done1 (R1 : Rows → Prop) (e : Exit) (_ : Tm) (σ : Store) : Prop := (e = .normal ∨ e = .ret) ∧ ∃ l1, R1 l1 ∧ (stL l1).le σ
theorem lY {P : Program} {Γ : Ctx} {G : Gh} {σ : Store} {K : World → Prop} : ∀ (ds : List Deferred) (w : World), (ds.map (·.target)).Nodup → (∀ d ∈ ds, ∃ r, d.target = .collected r ∧ Γ.w0.heap.size ≤ r ∧ w.heap[r]? = some (.deferred (some []))) → WRel Γ G σ w →
  (∀ w', WRel Γ G σ w' → K w') → MarksOut P K ds w
 | [], w, _, _, hw, hr => hr w hw
 | d :: ds, w, hn, hm, hw, hr => by
  obtain ⟨r, h1, h2, h3⟩ := hm d (by simp)
  refine ⟨r, _, h1, run_takeDeferred h3, lY ds _ (List.nodup_cons.1 hn).2 (fun d' hd' => ?_) (hw.putNon h3 rfl (Or.inl h2)) hr⟩
  obtain ⟨r', g1, g2, g3⟩ := hm d' (by simp [hd'])
  refine ⟨r', g1, g2, (World.putObj_heap_other fun e => ?_).trans g3⟩
  subst e
  exact (List.nodup_cons.1 hn).1 (List.mem_map.2 ⟨d', hd', g1.trans h1.symm⟩)
theorem SRel.enter {P : Program} {fn : Func} {n : Nat} {vs : List Value} (hn : fn.ntmps = n) (hl : args.length ≤ n) (hv : RepOL G args vs) (hw : WRel Γ G σ w) (hΓ : Γ.w0 = w) :
  SRel n ⟨Γ, fun _ => none, [], none, w.heap.size, fun _ => False, fun _ h => h.elim, by rw [hΓ]; exact Nat.le_refl _, []⟩ G (Tm.ini args) σ { tmps := vs.toArray ++ Array.replicate (fn.ntmps - vs.toArray.size) undef, defers := [] } w := by
 have hlen := hv.length
 refine ⟨by simp; omega, rfl, fun t y hy => Or.inr ?_, hw, fun b o hb => (by cases hb), ⟨by simp, fun d hd => (by cases hd), fun l hl => (by cases hl)⟩, fun i Y hi => by cases hi⟩
 obtain ⟨x, h1, h2⟩ := hv.get (Tm.ini_get hy)
 refine ⟨x, ?_, h2⟩
 have hlt : t < vs.length := by
  rcases Nat.lt_or_ge t vs.length with hh | hh
  ·exact hh
  ·rw [List.getElem?_eq_none hh] at h1; cases h1
 rw [Array.getElem?_append_left (by simpa using hlt)]
 simpa using h1
theorem post_d {fn : Func} {n : Nat} {u u' : FrameMode} {c0 : Frame} {cs : List Frame} {N : Nat} {l0 : Rows} {C' : Cx} {a : Act} {w' : World} (hr : fn.results = #[]) (hΓ : Γ = ⟨w, Blks G (stL l0), G, N⟩) (hb : C'.base = w.heap.size) (hd0 : C'.d0 = []) (hC : C'.Γ = Γ) {G' : Gh} (hs : SRel n C' G' tm σ a w') (hd : Done1 R1 e tm σ) :
  PostD P fn c0 cs (fun e u2 w' => (∃ x, e = .returned x) ∧ u2 = u' ∧ ∃ l1, R1 l1 ∧ ∃ G' σ', (stL l1).le σ' ∧ G.le G' ∧ WRel ⟨w, Blks G (stL l0), G, N⟩ G' σ' w') e a ({ c0 with mode := u' } :: cs) w' := by
 obtain ⟨he, l1, h1, h2⟩ := hd
 refine ⟨he, u', rfl, ?_⟩
 rw [hs.defers, hd0, List.append_nil]
 have hw' : WRel ⟨w, Blks G (stL l0), G, N⟩ G' σ w' := by rw [← hΓ, ← hC]; exact hs.w
 refine lY (Γ := ⟨w, Blks G (stL l0), G, N⟩) _ _ hs.marks.1 (fun d hd' => ?_) hw' fun w2 hw2 => ⟨.tuple #[], by simp [results, hr], ⟨_, rfl⟩, rfl, l1, h1, G', σ, h2, hw2.g0, hw2⟩
 obtain ⟨r, g1, g2, g3⟩ := hs.marks.2.1 d hd'
 rw [hb] at g2
 exact ⟨r, g1, g2, (hs.fix r _ g3).1⟩
def Recovers : FrameMode → Value → FrameMode → Prop
 | .returning, v, u => v = .nilIface ∧ u = .returning
 | .panicking ({ v := x, recovered := false, goexit := false } :: older), v, u => v = x ∧ u = .panicking ({ v := x, recovered := true } :: older)
 | _, _, _ => False
theorem sA {fn : Func} {d : Nat} {n : Nat} {u u' : FrameMode} {v : Value} {l0 : Rows} (hf : P.funcs[f]? = some fn) (hname : (fn.name == "runtime.NumGoroutine") = false) (hb : fn.body = some (.seq (.region id #[⟨some d, .call { callee := .builtin .recover, args := #[], argTypes := #[] }, ty, pos, #[], none⟩] false) rest)) (hn : fn.ntmps = n) (hl : args.length ≤ n) (hr : fn.results = #[]) (hd : d < n) (hg : d ≠ GS) (hv1 : v.oneCell' = true) (hu : Recovers u v u') (h : awp P n rest (Done1 R1) ((Tm.ini args).put d (.d (.c v))) (stL l0)) : FnD P f args u l0 u' R1 := by
 refine ⟨⟨fn, hf, hname, by rw [hb]; rfl⟩, fun G w vs N hv hw => callsD_marks hf hb trivial fun c0 cs hu0 => ?_⟩
 have he := SRel.enter (P := P) (fn := fn) hn hl hv hw rfl
 refine wpSIn_seq (wpSIn_region ?_)
 have hs : ∀ cs' : List Frame, rest.wpSIn Fence.wide 0 P (PostD P fn c0 cs (fun e u2 w' => (∃ x, e = .returned x) ∧ u2 = u' ∧ ∃ l1, R1 l1 ∧ ∃ G' σ', (stL l1).le σ' ∧ G.le G' ∧ WRel ⟨w, Blks G (stL l0), G, N⟩ G' σ' w')) (Act.put { tmps := vs.toArray ++ Array.replicate (fn.ntmps - vs.toArray.size) undef, defers := [] } (some d) v) ({ c0 with mode := u' } :: cs) w := fun _ => by
  refine wpSIn_of_wpIn rfl (wpIn_mono (h _ none G _ w rfl ⟨by rw [Act.put_size]; exact he.size, by rw [Act.put_defers]; exact he.defers, he.tm.put (y := .d (.c v)) (wE hv1) (some d) (by rw [he.size]; exact fun d' e => by cases e; exact hd), he.w, he.fix, he.marks, fun i Y hi => by
   rw [Tm.put_ne _ _ (Ne.symm hg)] at hi; exact he.gh i Y hi⟩) fun e a w' ⟨C', G', tm, σ, hC, hs, hd⟩ => ?_)
  exact post_d (P := P) (fn := fn) (u := u) (u' := u') (c0 := c0) (cs := cs) hr rfl hC.base hC.d0 hC.Γ hs hd
 have hrange : List.range (#[(⟨some d, .call { callee := .builtin .recover, args := #[], argTypes := #[] }, ty, pos, #[], none⟩ : Oper)]).size = [0] := rfl
 rw [hrange]
 unfold wpOpsSIn
 have hrun : ∀ (ρ : Operand → Value), (execOp ρ ⟨some d, .call { callee := .builtin .recover, args := #[], argTypes := #[] }, ty, pos, #[], none⟩).run P w = .ok .recover w := fun ρ => rfl
 simp only [List.getElem?_toArray, List.getElem?_cons_zero, Region.wanted, if_true, hrun]
 refine ⟨fun _ _ => trivial, ?_⟩
 cases u with
 | run => exact hu.elim
 | returning =>
  obtain ⟨rfl, rfl⟩ := hu
  have e : recoverD (c0 :: cs) = none := by simp [recoverD, hu0]
  rw [e]
  have hc : ({ c0 with mode := .returning } : Frame) = c0 := by rw [← hu0]
  have := hs []
  rw [hc] at this
  exact this
 | panicking ch =>
  match ch, hu, hu0 with
  | { v := x, recovered := false, goexit := false } :: older, hu, hu0 =>
   obtain ⟨rfl, rfl⟩ := hu
   have e : recoverD (c0 :: cs) = some (v, { c0 with mode := .panicking ({ v := v, recovered := true } :: older) } :: cs) := by simp [recoverD, hu0]
   rw [e]
   exact hs []
theorem ld_lo1 {E : Env} (hw : WRel Γ G σ w) {T : TypeId} {k : Nat} {s : Nat} {rows : List (List OV)} {row : List OV} {y : OV} {x : Value} (hT : E.tab T = some te) (hx : RepO G (.lo k τ s 0 0) x) (hs : σ k = some (τ, ⟨s, rows⟩)) (hr : rows[0]? = some row) (hy : row[0]? = some y) (ha : te.k.isAgg = false) : ∃ v, (do loadVar T (← asAddr x) : Sem Value).run E.P w = .ok v w ∧ RepO G y v := by
 rw [RepO] at hx
 obtain ⟨β, hμ, h1⟩ := hx
 obtain ⟨cs, h2, h3, h4, h5⟩ := hw.blk hs hμ
 obtain ⟨v, h6, h7⟩ := (h5 0 row hr).2 0 y hy
 have hc : w.cell? ⟨β.b, 0 * s + 0, none⟩ = some v := by simpa [World.cell?, h2] using h6
 exact ⟨v, by simp only [h1, asAddr, loadVar, Sem.run_bind, Sem.run_pure, run_isAgg (E.ok T te hT), ha, Result.andThen_ok, Bool.false_eq_true, if_false, run_load, hc], h7⟩
inductive ResC (E : Env) (tm : Tm) (σ : Store) : ResultVar → OV → Prop where
 | one {v : ResultVar} {r : OV} (h : ResAt E tm σ v r) : ResC E tm σ v r
 | cell {t T : Nat} {te : TE} {k : Nat} {τ : Stamp} {s : Nat} {y : OV} {row : List OV} {rest : List (List OV)} (hT : E.tab T = some te) (ha : te.k.isAgg = false) (ht : tm t = some (.lo k τ s 0 0)) (hk : σ k = some (τ, ⟨s, (y :: row) :: rest⟩)) : ResC E tm σ (.cell t T) y
inductive ResCs (E : Env) (tm : Tm) (σ : Store) : List ResultVar → List OV → Prop where
 | nil : ResCs E tm σ [] []
 | cons {v : ResultVar} {r : OV} {vs : List ResultVar} {rs : List OV} (h : ResC E tm σ v r) (hl : ResCs E tm σ vs rs) : ResCs E tm σ (v :: vs) (r :: rs)
theorem res_c {E : Env} {n : Nat} {C : Cx} {a : Act} (hs : SRel n C G tm σ a w) {vs : List ResultVar} {rs : List OV} (h : ResCs E tm σ vs rs) : ∃ xs, (vs.mapM (resOne a.tmps)).run E.P w = .ok xs w ∧ RepOL G rs xs := by
 induction h with
 | nil => exact ⟨[], by simp, by rw [RepOL]⟩
 | cons h hl ih =>
  obtain ⟨xs, h5, h6⟩ := ih
  obtain ⟨x, h3, h4⟩ : ∃ x, (resOne a.tmps _).run E.P w = .ok x w ∧ RepO G _ x := by
   cases h with
   | one h => exact rK hs h
   | cell hT ha ht hk => exact ld_lo1 hs.w hT (hs.tm.val ht) hk rfl rfl ha
  exact ⟨x :: xs, by simp [List.mapM_cons, h3, h5], by rw [RepOL]; exact ⟨x, xs, rfl, h4, h6⟩⟩
def EndF (Γ : Ctx) (Rr : OV → Store → Prop) (Rp : List PanicEntry → Store → Prop) (e : Ending) (w' : World) : Prop :=
 (∃ x r G' σ', e = .returned x ∧ RepO G' r x ∧ Rr r σ' ∧ Γ.G0.le G' ∧ WRel Γ G' σ' w') ∨ ∃ ch G' σ', e = .panicked ch ∧ Rp ch σ' ∧ Γ.G0.le G' ∧ WRel Γ G' σ' w'
def awpF (E : Env) (n : Nat) (fn : Func) (c : Code) (Rr : OV → Store → Prop) (Rp : List PanicEntry → Store → Prop) (tm : Tm) (σ : Store) : Prop :=
 ∀ (Γ : Ctx) (C : Cx) (G : Gh) (a : Act) (w : World), C.Γ = Γ → C.base = Γ.w0.heap.size → C.d0 = [] → C.ro = none → SRel n C G tm σ a w → c.wpIn Fence.wide 0 E.P (bodyPostM Fence.wide 0 E.P fn (EndF Γ Rr Rp)) a w
def modeOf : Exit → Option FrameMode
 | .normal => some .returning
 | .ret => some .returning
 | .panic ch => some (.panicking ch)
 | _ => none
def FinM (E : Env) (vs : List ResultVar) (Rr : OV → Store → Prop) (Rp : List PanicEntry → Store → Prop) : FrameMode → Tm → Store → Prop
 | .returning, tm, σ => tm GS = none ∧ ∃ rs, ResCs E tm σ vs rs ∧ Rr (packO rs) σ
 | .panicking ch, _, σ => Rp ch σ
 | .run, _, _ => False
def Fin0 (E : Env) (vs : List ResultVar) (Rr : OV → Store → Prop) (Rp : List PanicEntry → Store → Prop) (e : Exit) (tm : Tm) (σ : Store) : Prop := ∃ u, modeOf e = some u ∧ FinM E vs Rr Rp u tm σ
def FinD (E : Env) (vs : List ResultVar) (g : FuncId) (ca : List OV) (Rr : OV → Store → Prop) (Rp : List PanicEntry → Store → Prop) (e : Exit) (tm : Tm) (σ : Store) : Prop :=
 ∃ u, modeOf e = some u ∧ ∃ l0 u', ∃ R1 : Rows → Prop, FnD E.P g ca u l0 u' R1 ∧ (stL l0).le σ ∧ (∀ l1, R1 l1 → (l1.map (·.1)).Nodup) ∧ ∀ l1, R1 l1 → FinM E vs Rr Rp (settle u') tm ((σ.apply (dels l0)).apply (outD l1))
section
variable {E : Env} {n : Nat} {fn : Func} {vs : List ResultVar} {Rr : OV → Store → Prop} {Rp : List PanicEntry → Store → Prop}
theorem nL {a : Act} {u : FrameMode} (hr : fn.results = vs.toArray) (hsz : a.tmps.size = n) (ht : TRel G tm a.tmps) (hw : WRel Γ G σ w) (h : FinM E vs Rr Rp u tm σ) : LeavesInM Fence.wide 0 E.P fn a.tmps (EndF Γ Rr Rp) [] u w := by
 cases u with
 | run => exact h.elim
 | panicking ch => exact Or.inr ⟨ch, G, σ, rfl, h, hw.g0, hw⟩
 | returning =>
  obtain ⟨hg, rs, h1, h2⟩ := h
  have hs : SRel n ⟨Γ, fun _ => none, [], none, 0, fun _ => False, fun _ h => h.elim, Nat.zero_le _, []⟩ G tm σ { tmps := a.tmps, defers := [] } w :=
   ⟨hsz, rfl, ht, hw, fun b o hb => (by cases hb), ⟨by simp, fun d hd => (by cases hd), fun l hl => (by cases hl)⟩, fun i Y hi => by rw [hg] at hi; cases hi⟩
  obtain ⟨xs, h3, h4⟩ := res_c hs h1
  refine ⟨resVal xs, results_run hr _ h3, Or.inl ⟨resVal xs, packO rs, G, σ, rfl, ?_, h2, hw.g0, hw⟩⟩
  cases rs with
  | nil => rw [RepOL] at h4; subst h4; simp only [packO]; rw [RepO]; exact ⟨#[], rfl, by rw [RepOL]⟩
  | cons r rs =>
   rw [RepOL] at h4
   obtain ⟨x, xs', rfl, h5, h6⟩ := h4
   cases rs with
   | nil => rw [RepOL] at h6; subst h6; exact h5
   | cons r' rs =>
    have h7 := h6
    rw [RepOL] at h6
    obtain ⟨x', xs2, rfl, _, _⟩ := h6
    simp only [packO]
    rw [RepO]
    exact ⟨(x :: x' :: xs2).toArray, by simp [resVal], by rw [RepOL]; exact ⟨_, _, rfl, h5, h7⟩⟩
theorem FinM.ne_run {u : FrameMode} (h : FinM E vs Rr Rp u tm σ) : u ≠ .run := fun e => by subst e; exact h
theorem gG {u : FrameMode} {a : Act} (hu : modeOf e = some u) (h : LeavesInM Fence.wide 0 E.P fn a.tmps (EndF Γ Rr Rp) a.defers u w) : bodyPostM Fence.wide 0 E.P fn (EndF Γ Rr Rp) e a w := by
 cases e <;> simp only [modeOf, Option.some.injEq, reduceCtorEq] at hu <;> subst hu <;> exact h
theorem lV {u : FrameMode} (hu : modeOf e = some u) : u ≠ .run := fun e' => by
 subst e'
 cases e <;> simp [modeOf] at hu
theorem wX (hr : fn.results = vs.toArray) (h : awp E.P n c (Fin0 E vs Rr Rp) tm σ) : awpF E n fn c Rr Rp tm σ := fun Γ C G a w hΓ hb hd hro hs => by
 refine wpIn_mono (h C none G a w hro hs) fun e a w' ⟨C', G', tm', σ', hC, hs', u, hu, hf⟩ => gG hu ?_
 rw [hs'.defers, hC.d0.trans hd]
 have hw' : WRel Γ G' σ' w' := by rw [← hΓ]; exact hC.back _ _ _ hs'.w
 refine fJ hf.ne_run [] _ _ hs'.marks.1 (fun d hd' => ?_) hw' fun w2 hw2 => nL hr hs'.size hs'.tm hw2 hf
 obtain ⟨r, g1, g2, g3⟩ := hs'.marks.2.1 d hd'
 rw [hC.base, hb] at g2
 exact ⟨r, g1, g2, (hs'.fix r _ g3).1⟩
theorem awpF_seq {x y : Code} (hr : fn.results = vs.toArray) (h : awp E.P n x (Then (awpF E n fn y Rr Rp) (Fin0 E vs Rr Rp)) tm σ) : awpF E n fn (.seq x y) Rr Rp tm σ := fun Γ C G a w hΓ hb hd hro hs => by
 refine wpIn_seq (wpIn_mono (h C none G a w hro hs) fun e a w' ⟨C', G', tm', σ', hC, hs', hq⟩ => ?_)
 cases e with
 | normal => exact hq Γ C' G' a w' (hC.Γ.trans hΓ) (hC.base.trans hb) (hC.d0.trans hd) (hC.ro.trans hro) hs'
 | exit _ | goto _ | outgrown => obtain ⟨u, hu, hf⟩ := (show Fin0 E vs Rr Rp _ tm' σ' from hq); cases hu
 | ret | panic _ =>
  obtain ⟨u, hu, hf⟩ := (show Fin0 E vs Rr Rp _ tm' σ' from hq)
  refine gG (a := a) (w := w') hu ?_
  rw [hs'.defers, hC.d0.trans hd]
  have hw' : WRel Γ G' σ' w' := by rw [← hΓ]; exact hC.back _ _ _ hs'.w
  refine fJ hf.ne_run [] _ _ hs'.marks.1 (fun d hd' => ?_) hw' fun w2 hw2 => nL hr hs'.size hs'.tm hw2 hf
  obtain ⟨r, g1, g2, g3⟩ := hs'.marks.2.1 d hd'
  rw [hC.base, hb] at g2
  exact ⟨r, g1, g2, (hs'.fix r _ g3).1⟩
theorem awpF_defer (k : Nat) {d : Nat} (hr : fn.results = vs.toArray) (hn : dstsLt n l = true) (ho : l[k]? = some ⟨none, .defer { callee := .value (.tmp d), args := #[], argTypes := #[] }, ty, pos, af, none⟩) (hk : l.length = k + 1) (h : ∀ v, AO E.P v l.toArray (fun tm' σ' => ∃ g ca, tm' d = some (.fn g [] ca) ∧ tm' GS = none ∧ awp E.P n rest (FinD E vs g ca Rr Rp) tm' σ') 0 (l.take k) tm σ) : awpF E n fn (.seq (.region id l.toArray false) rest) Rr Rp tm σ := fun Γ C G a w hΓ hb hd0 hro hs => by
 obtain ⟨v, hv, hf⟩ := hs.w.free
 refine wpIn_seq (wpIn_region_lit ?_)
 have hl : l = l.take k ++ [⟨none, .defer { callee := .value (.tmp d), args := #[], argTypes := #[] }, ty, pos, af, none⟩] := by
  obtain ⟨hk', e⟩ := List.getElem?_eq_some_iff.1 ho
  have h1 : l = l.take (k + 1) := by rw [← hk, List.take_length]
  rw [← e]
  refine h1.trans ?_
  rw [List.take_add_one, List.getElem?_eq_getElem hk']; rfl
 have hn' : dstsLt n (l.take k) = true := by
  simp only [dstsLt, Bool.and_eq_true] at hn ⊢
  exact ⟨hn.1, List.all_eq_true.2 fun o ho => List.all_eq_true.1 hn.2 o (List.mem_of_mem_take ho)⟩
 have key : wpListIn Fence.wide 0 E.P l.toArray (Exit.then (rest.wpIn Fence.wide 0 E.P (bodyPostM Fence.wide 0 E.P fn (EndF Γ Rr Rp))) (bodyPostM Fence.wide 0 E.P fn (EndF Γ Rr Rp))) (l.take k ++ [⟨none, .defer { callee := .value (.tmp d), args := #[], argTypes := #[] }, ty, pos, af, none⟩]) a w := by
  refine bL _ a w (zE (ro := none) (fun C' G' tm' σ' a' w' hC hs' ⟨g, ca, htd, htg, hrest⟩ => ?_) (l.take k) 0 C G tm σ a w (.refl C) hro hv hn' (fun k i _ => hf k i) hs (h v).out)
  show wpListIn _ 0 _ _ _ [_] a' w'
  unfold wpListIn
  rw [if_pos (by simp [Region.wanted])]
  have hcl := hs'.tm.val htd
  rw [RepO] at hcl
  obtain ⟨fs, us, hx, h2, h3⟩ := hcl
  rw [RepOL] at h2
  have hfs : fs = #[] := by simpa using h2
  subst hfs
  unfold Oper.wpIn
  refine ⟨fun _ _ => trivial, ?_⟩
  rw [show Fence.wide.round = none from rfl, Oper.semAt_none]
  have hrun : (execOp a'.eval ⟨none, .defer { callee := .value (.tmp d), args := #[], argTypes := #[] }, ty, pos, af, none⟩).run E.P w' = .ok (.defer { target := .fn (.func g) us, args := #[] }) w' := by
   have e1 : a'.eval (.tmp d) = .func (.func g) #[] us := by
    rw [← hx]; rfl
   simp only [execOp, resolve, e1, Deferred.ofValue, Sem.run_bind, Sem.run_pure, Result.andThen_ok]
   simp
  rw [hrun, Oper.uponIn_defer]
  show rest.wpIn Fence.wide 0 E.P _ _ w'
  let C2 : Cx := ⟨⟨w', Blks G' σ', G', C'.Γ.N⟩, C'.fix, [], none, w'.heap.size, fun _ => False, fun _ h => h.elim, Nat.le_refl _, { target := .fn (.func g) us, args := #[] } :: C'.defs⟩
  have hs2 : SRel n C2 G' tm' σ' { a' with defers := { target := .fn (.func g) us, args := #[] } :: a'.defers } w' := by
   refine ⟨hs'.size, ?_, hs'.tm, hs'.w.startW (fun _ _ e => e) _, hs'.fix, ⟨by simp [C2], fun d hd => (by cases hd), fun l hl => (by cases hl)⟩, fun i Y hi => by rw [htg] at hi; cases hi⟩
   show _ :: a'.defers = [] ++ (_ :: C'.defs)
   rw [hs'.defers, hC.d0.trans hd0, List.append_nil]; rfl
  refine wpIn_mono (hrest C2 none G' _ w' rfl hs2) fun e a3 w3 ⟨C3, G3, tm3, σ3, hC3, hs3, u, hu, l0, u', R1, hD, hle, hnd, hfin⟩ => gG hu ?_
  have hw3 : WRel C2.Γ G3 σ3 w3 := hC3.back _ _ _ hs3.w
  rw [hs3.defers, hC3.d0]
  refine fJ (lV hu) _ _ _ hs3.marks.1 (fun dd hd' => ?_) hw3 fun w4 hw4 => ?_
  ·obtain ⟨r, g1, g2, g3⟩ := hs3.marks.2.1 dd hd'
   rw [hC3.base] at g2
   exact ⟨r, g1, g2, (hs3.fix r _ g3).1⟩
  have hG : G'.le G3 := hw3.g0
  have hrep : RepOL G3 ca us.toList := h3.mono hG
  refine ⟨lV hu, Or.inr ⟨fun h => (by cases h), _, us, g, us, rfl, ?_, fun _ _ => trivial, ?_⟩⟩
  ·obtain ⟨fn', q1, q2, q3⟩ := hD.1
   simp only [invoke, callFunc, Sem.run_bind, Sem.run_pure, Result.andThen_ok, run_program, q1, q2, q3, Bool.false_eq_true, if_false]
   simp
  have hst := hw4.startW hle C'.Γ.N
  have hcall := hD.2 G3 w4 us.toList C'.Γ.N hrep hst
  rw [show us.toList.toArray = us from rfl] at hcall
  refine CallsDIn.mono hcall fun e u2 w5 ⟨⟨x, hx⟩, hu2, l1, hl1, G4, σ4, g1, g2, g3⟩ => ?_
  subst hx; subst hu2
  have hf5 := hfin l1 hl1
  have hw5 : WRel C2.Γ G4 ((σ3.apply (dels l0)).apply (outD l1)) w5 := hw4.backX hle g3 (Nat.le_refl _) fun k τ r hr => eJ (hnd l1 hl1) g1 hr
  have hw6 : WRel Γ G4 ((σ3.apply (dels l0)).apply (outD l1)) w5 := by
   rw [← hΓ, ← hC.Γ]
   exact hs'.w.backX (σ0 := σ') (fun _ _ e => e) hw5 (Nat.le_refl _) fun k τ r hr => Or.inr hr
  show LeavesInM Fence.wide 0 E.P fn a3.tmps (EndF Γ Rr Rp) C'.defs (settle u2) w5
  have := fJ (P := E.P) (fn := fn) (tmps := a3.tmps) (R := EndF Γ Rr Rp) hf5.ne_run [] C'.defs w5 hs'.marks.1 (fun dd hd' => ?_) hw6 fun w7 hw7 => nL hr hs3.size (hs3.tm.mono g2) hw7 hf5
  ·rwa [List.append_nil] at this
  ·obtain ⟨r, q1, q2, q3⟩ := hs'.marks.2.1 dd hd'
   rw [hC.base, hb] at q2
   obtain ⟨q4, q5⟩ := hs'.fix r _ q3
   exact ⟨r, q1, q2, (hw5.keep r (Array.getElem?_eq_some_iff.1 q4).1 (hs'.fix.not_own hs'.w q3)).trans q4⟩
 rwa [← hl] at key
theorem fnw_of_awpF {σ0 : Store} (hf : E.P.funcs[f]? = some fn) (hname : (fn.name == "runtime.NumGoroutine") = false) (hb : fn.body = some c) (hn : fn.ntmps = n) (hl : args.length ≤ n) (h : awpF E n fn c Rr (fun _ _ => False) (Tm.ini args) σ0) : FnW E.P f args σ0 Rr :=
  ⟨⟨fn, hf, hname, by rw [hb]; rfl⟩, fun G w vs N hv hw => (callsIn_wide (n := 0)).1 ((callsIn_of_wp_marks hf hb trivial (h ⟨w, Blks G σ0, G, N⟩ _ G _ w rfl rfl rfl rfl (SRel.enter (P := E.P) hn hl hv hw rfl))).mono fun e w' h => by
    rcases h with ⟨x, r, G', σ', h1, h2, h3, h4, h5⟩ | ⟨ch, G', σ', h1, h2, _⟩
    · exact ⟨x, G', r, σ', h1, h3, h4, h2, h5⟩
    · exact h2.elim)⟩
theorem vO {l0 : Rows} (hf : E.P.funcs[f]? = some fn) (hname : (fn.name == "runtime.NumGoroutine") = false) (hb : fn.body = some c) (hn : fn.ntmps = n) (hl : args.length ≤ n) (h : awpF E n fn c (fun _ _ => False) (fun c σ => c = ch ∧ ∃ l1, R1 l1 ∧ (stL l1).le σ) (Tm.ini args) (stL l0)) : FnP E.P f args l0 ch R1 :=
  ⟨⟨fn, hf, hname, by rw [hb]; rfl⟩, fun G w vs N hv hw => (callsIn_wide (n := 0)).1 ((callsIn_of_wp_marks hf hb trivial (h ⟨w, Blks G (stL l0), G, N⟩ _ G _ w rfl rfl rfl rfl (SRel.enter (P := E.P) hn hl hv hw rfl))).mono fun e w' h => by
    rcases h with ⟨x, r, G', σ', h1, h2, h3, h4, h5⟩ | ⟨c, G', σ', h1, ⟨rfl, l1, h2, h3⟩, h4, h5⟩
    · exact h3.elim
    · exact ⟨h1, l1, h2, G', σ', h3, h4, h5⟩)⟩
end
section
variable {E : Env} {v j : Nat} {ops : Array Oper} {K : Tm → Store → Prop} {KD : List Foot → Tm → Store → Prop} {acc : List Foot} {rest : List Oper} {tm : Tm} {σ : Store} {ty : TypeId} {pos : String} {af : Array Edge}
theorem xG {dst : Option Tmp} {T : TypeId} {b : List UInt8} (hx : ev tm x = some (.bs a)) (hy : ev tm y = some (.bs b)) (hcont : AO E.P v ops K (j + 1) rest (tm.putO dst (.bool (decide (a = b)))) (σ.apply [])) : AO E.P v ops K j (⟨dst, .binOp .eql T x y T', ty, pos, af, none⟩ :: rest) tm σ := uQ (qS hx hy) hcont
theorem qZ {dst : Option Tmp} {T : TypeId} {b : List UInt8} (hx : ev tm x = some (.bs a)) (hy : ev tm y = some (.bs b)) (hcont : DO E.P v ops KD (j + 1) rest (tm.putO dst (.bool (decide (a = b)))) (σ.apply []) (Foot.mk [] (wkeys []) :: acc)) : DO E.P v ops KD j (⟨dst, .binOp .eql T x y T', ty, pos, af, none⟩ :: rest) tm σ acc := xA (qS hx hy) hcont
theorem vC {dst : Option Tmp} {T : TypeId} {b : List UInt8} (hx : EvM tm x (.bs a)) (hy : EvM tm y (.bs b)) : YL E.P v j ⟨dst, .binOp .eql T x y T', ty, pos, af, gd⟩ tm σ [] (.bool (decide (a = b))) [] := (qS hx.st hy.st).strip
theorem cO {dst : Option Tmp} {T : TypeId} {b : List UInt8} (hx : ev tm x = some (.bs a)) (hy : ev tm y = some (.bs b)) (hcont : AO E.P v ops K (j + 1) rest (tm.putO dst (.bool (!decide (a = b)))) (σ.apply [])) : AO E.P v ops K j (⟨dst, .binOp .neq T x y T', ty, pos, af, none⟩ :: rest) tm σ := uQ (uAG hx hy) hcont
theorem xO {dst : Option Tmp} {T : TypeId} {b : List UInt8} (hx : EvM tm x (.bs a)) (hy : EvM tm y (.bs b)) : YL E.P v j ⟨dst, .binOp .neq T x y T', ty, pos, af, gd⟩ tm σ [] (.bool (!decide (a = b))) [] := (uAG hx.st hy.st).strip
theorem vF {dst : Option Tmp} {T : TypeId} {b : List UInt8} (hx : ev tm x = some (.bs a)) (hy : ev tm y = some (.bs b)) (hl : a.length + b.length ≤ 1152921504606846976) (hcont : AO E.P v ops K (j + 1) rest (tm.putO dst (.bs (a ++ b))) (σ.apply [])) : AO E.P v ops K j (⟨dst, .binOp .add T x y T', ty, pos, af, none⟩ :: rest) tm σ := uQ (uAJ hx hy hl) hcont
theorem yX {dst : Option Tmp} {T : TypeId} {b : List UInt8} (hx : ev tm x = some (.bs a)) (hy : ev tm y = some (.bs b)) (hl : a.length + b.length ≤ 1152921504606846976) (hcont : DO E.P v ops KD (j + 1) rest (tm.putO dst (.bs (a ++ b))) (σ.apply []) (Foot.mk [] (wkeys []) :: acc)) : DO E.P v ops KD j (⟨dst, .binOp .add T x y T', ty, pos, af, none⟩ :: rest) tm σ acc := xA (uAJ hx hy hl) hcont
theorem vS {dst : Option Tmp} {T : TypeId} (hT : E.tab T = some te) (hk : te.k = .sc .string) (hx : ev tm x = some (.bs a)) (hcont : AO E.P v ops K (j + 1) rest (tm.putO dst (.int .i64 a.length)) (σ.apply [])) : AO E.P v ops K j (⟨dst, .call { callee := .builtin .len, args := #[x], argTypes := #[T] }, ty, pos, af, none⟩ :: rest) tm σ := uQ (qR hT hk hx) hcont
theorem qY {dst : Option Tmp} {T : TypeId} (hT : E.tab T = some te) (hk : te.k = .sc .string) (hx : ev tm x = some (.bs a)) (hcont : DO E.P v ops KD (j + 1) rest (tm.putO dst (.int .i64 a.length)) (σ.apply []) (Foot.mk [] (wkeys []) :: acc)) : DO E.P v ops KD j (⟨dst, .call { callee := .builtin .len, args := #[x], argTypes := #[T] }, ty, pos, af, none⟩ :: rest) tm σ acc := xA (qR hT hk hx) hcont
theorem kY {dst : Option Tmp} {T : TypeId} (hT : E.tab T = some te) (hk : te.k = .sc .string) (hx : EvM tm x (.bs a)) : YL E.P v j ⟨dst, .call { callee := .builtin .len, args := #[x], argTypes := #[T] }, ty, pos, af, gd⟩ tm σ [] (.int .i64 a.length) [] := (qR hT hk hx.st).strip
theorem gA {dst : Option Tmp} {T : TypeId} {ix : Operand} {k : IntKind} {i : Int} (hT : E.tab T = some te) (hk : te.k = .sc .string) (hx : ev tm x = some (.bs a)) (hi : ev tm ix = some (.int k i)) (hin : 0 ≤ i ∧ i < a.length) (hcont : AO E.P v ops K (j + 1) rest (tm.putO dst (.int .u8 (a.getD i.toNat 0).toNat)) (σ.apply [])) : AO E.P v ops K j (⟨dst, .index T x ix, ty, pos, af, none⟩ :: rest) tm σ := uQ (Y_indexL hT hk hx hi hin) hcont
theorem wN {dst : Option Tmp} {T : TypeId} {lo hi : Option Operand} {l h : Nat} (hT : E.tab T = some te) (hk : te.k = .sc .string) (hx : ev tm x = some (.bs a)) (hlo : Bnd tm lo 0 l) (hhi : Bnd tm hi a.length h) (h1 : l ≤ h) (h2 : h ≤ a.length) (hcont : AO E.P v ops K (j + 1) rest (tm.putO dst (.bs ((a.drop l).take (h - l)))) (σ.apply [])) : AO E.P v ops K j (⟨dst, .slice T x lo hi none, ty, pos, af, none⟩ :: rest) tm σ := uQ (qA hT hk hx hlo hhi h1 h2) hcont
theorem gB {dst : Option Tmp} {T : TypeId} {lo hi : Option Operand} {l h : Nat} (hT : E.tab T = some te) (hk : te.k = .sc .string) (hx : ev tm x = some (.bs a)) (hlo : Bnd tm lo 0 l) (hhi : Bnd tm hi a.length h) (h1 : l ≤ h) (h2 : h ≤ a.length) (hcont : DO E.P v ops KD (j + 1) rest (tm.putO dst (.bs ((a.drop l).take (h - l)))) (σ.apply []) (Foot.mk [] (wkeys []) :: acc)) : DO E.P v ops KD j (⟨dst, .slice T x lo hi none, ty, pos, af, none⟩ :: rest) tm σ acc := xA (qA hT hk hx hlo hhi h1 h2) hcont
end
structure Stp where
 kind : Int
 reg : Int
 var : Int
 num : Int
 data : Int
 byr : Int
 aq : Bool
 rl : Bool
 pred : Int
 succ : Int
 deriving DecidableEq, Inhabited
variable {s : Stp}
def Stp.acc (s : Stp) : Bool := decide (1 ≤ s.kind) && decide (s.kind ≤ 4)
def Stp.lds (s : Stp) : Bool := s.acc && !decide (s.kind = 2)
def Stp.sts (s : Stp) : Bool := s.acc && !decide (s.kind = 1)
def Stp.bare (s : Stp) : Stp := ⟨s.kind, bif s.lds || decide (s.kind = 6) then s.reg else 0, bif s.acc then s.var else 0, bif s.sts then s.num else 0, bif s.sts then s.data else 0, bif s.acc then s.byr else 0, bif s.acc then s.aq else false, bif s.acc then s.rl else false, bif decide (s.kind = 5) then s.pred else 0, bif decide (s.kind = 5) then s.succ else 0⟩
def inR (n a b : Int) : Bool := decide (a ≤ n) && decide (n ≤ b)
def Stp.right (s : Stp) : Bool :=
 if !decide (s = s.bare) || !inR s.kind 1 6 then false
 else if s.kind = 5 then inR s.pred 1 3 && inR s.succ 1 3
 else if (decide (s.kind = 6) || s.lds) && !inR s.reg 1 4 then false
 else inR s.var 0 3 && inR s.byr 0 4 && inR s.data 0 4 && (decide (s.data = 0) || decide (s.num = 0))
theorem uR {n : Nat} {d : Code} (T : X → Tm) (S : X → Store) (h1 : awp P n c (fun e tm' σ' => e = .normal ∧ ∃ y, (T y).le tm' ∧ (S y).le σ') tm σ) (h2 : ∀ y, awp P n d Q (T y) (S y)) : awp P n (.seq c d) Q tm σ :=
 uD (awp_mono h1 fun e tm' σ' ⟨he, y, ht, hs⟩ => by subst he; exact uA (cI _ _ ht hs (h2 y)))
theorem wA {T : X → Tm} {S : X → Store} (y : X) (ht : (T y).le tm) (hs : (S y).le σ) : Exit.normal = .normal ∧ ∃ y, (T y).le tm ∧ (S y).le σ := ⟨rfl, y, ht, hs⟩
set_option maxRecDepth 100000
def stTV (s : Stp) : List TV := [.c (.int .i64 s.kind), .c (.int .i64 s.reg), .c (.int .i64 s.var), .c (.int .u32 s.num), .c (.int .i64 s.data), .c (.int .i64 s.byr), .c (.bool s.aq), .c (.bool s.rl), .c (.int .i64 s.pred), .c (.int .i64 s.succ)]
def stOV (s : Stp) : OV := .ag ((stTV s).map .d)
set_option maxHeartbeats 1000000 in
theorem dN (s : Stp) : Pure E.P 48 [stOV s] (.bool s.acc) := by
 have f1 : Frozen 1 := ⟨trivial⟩
 refine fnA Tryz.func48 Tryz.ntmps48 ?_
 refine uD (aoR fun _ => ?_)
 refine q34 ?_; refine q12 (vH (uA (uD (aoR fun _ => ?_))))
 refine q32 ?_; refine q23 ?_
 apply uQ; apply uBI; exact rfl; exact rfl
 refine q11 ?_
 apply spT; exact rfl
 intro hc_; refine q8
 apply spT; exact rfl
 intro hc_; refine q6
 apply spT; exact rfl
 intro hc_
 apply uAN; exact evm; exact evm
 refine q4 ?_; refine q12 (vH (uA ?_)); refine zW ?_; rotate_left
 all_goals exact vX rfl rfl
set_option maxHeartbeats 1000000 in
theorem nG (s : Stp) : Pure E.P 114 [stOV s] (.bool s.lds) := by
 have f1 : Frozen 1 := ⟨trivial⟩
 have c1 := dN s
 refine fnA Tryz.func114 Tryz.ntmps114 ?_
 refine uD (aoR fun _ => ?_)
 refine q34 ?_; refine q12 (vH (uA (uD (aoR fun _ => ?_))))
 refine q33 ?_
 apply uE; exact rfl; exact .fn _ _ _; exact rfl; exact c1
 refine q11 ?_
 apply spT; exact rfl
 intro hc_; refine q8
 apply spT; exact rfl
 intro hc_; refine q6
 apply spT; exact rfl
 intro hc_; refine q26; refine q4 ?_; refine q12 (vH ?_); refine uA ?_; refine zW ?_
 rotate_left
 all_goals exact vX rfl rfl
set_option maxHeartbeats 1000000 in
theorem jE (s : Stp) : Pure E.P 116 [stOV s] (.bool s.sts) := by
 have f1 : Frozen 1 := ⟨trivial⟩
 have c1 := dN s
 refine fnA Tryz.func116 Tryz.ntmps116 ?_
 refine uD (aoR fun _ => ?_)
 refine q34 ?_; refine q12 (vH (uA (uD (aoR fun _ => ?_))))
 refine q33 ?_
 apply uE; exact rfl; exact .fn _ _ _; exact rfl; exact c1
 refine q11 ?_
 apply spT; exact rfl
 intro hc_; refine q8
 apply spT; exact rfl
 intro hc_; refine q6
 apply spT; exact rfl
 intro hc_; refine q26; refine q4 ?_; refine q12 (vH ?_); refine uA ?_; refine zW ?_
 rotate_left
 all_goals exact vX rfl rfl
set_option maxHeartbeats 1000000 in
theorem in9_p (n a b : Int) : Pure E.P 112 [.int .i64 n, .int .i64 a, .int .i64 b] (.bool (inR n a b)) := by
 refine fnA Tryz.func112 Tryz.ntmps112 ?_
 refine uD (aoR fun _ => ?_)
 refine q12 (vH (uA (uD (aoR fun _ => ?_))))
 iterate 2 refine q11 ?_
 apply uQ; apply sO; exact rfl; exact rfl
 refine q11 ?_
 apply spT; exact rfl
 intro hc_; refine q1
 apply spT; exact rfl
 intro hc_; refine q1
 apply spT; exact rfl
 intro hc_
 apply uAN; exact evm; exact evm
 refine q4 ?_; refine q12 (vH (uA ?_)); refine zW ?_; rotate_left
 all_goals exact vX rfl rfl
def zSt : Stp := ⟨0, 0, 0, 0, 0, 0, false, false, 0, 0⟩
def Stp.b1 (s : Stp) : Stp := { zSt with kind := s.kind, reg := bif s.lds || decide (s.kind = 6) then s.reg else 0 }
def Stp.b2 (s : Stp) : Stp := { s.b1 with num := bif s.sts then s.num else 0, data := bif s.sts then s.data else 0 }
def Stp.b3 (s : Stp) : Stp := { s.b2 with var := bif s.acc then s.var else 0, byr := bif s.acc then s.byr else 0, aq := bif s.acc then s.aq else false, rl := bif s.acc then s.rl else false }
set_option maxHeartbeats 4000000 in
theorem bare_p (s : Stp) : Pure E.P 113 [stOV s] (stOV s.bare) := by
 have f1 : Frozen 1 := ⟨trivial⟩
 have c1 := dN s
 have c2 := nG s
 have c3 := jE s
 refine FnW.toR ?_
 refine xL (vs := [.cell 2 47]) Tryz.func113 (by decide) rfl Tryz.ntmps113 (Nat.le_of_ble_eq_true rfl) rfl ?_
 refine uD (aoR fun _ => ?_)
 refine q34 ?_
 apply uQ; apply nZ; exact rfl
 refine vH ?_; rotate_left
 refine uA ?_
 rename_i v0
 refine uD (aoR fun _ => ?_)
 refine q32 ?_; refine q23 ?_; refine q54 ?_
 apply uQ; apply nZ; exact rfl
 refine q15 (vH ?_); rotate_left
 refine uA ?_
 rename_i v1
 refine uR (X := Unit) (fun _ => tmL [(1, .d (.pt (stTV s) 0)), (2, .lo 2 (v0, 1) 10 0 0), (3, .lo 3 (v1, 3) 10 0 0)]) (fun _ => stL [(2, ((v0, 1), ⟨10, [(stTV zSt).map .d]⟩)), (3, ((v1, 3), ⟨10, [(stTV s.b1).map .d]⟩))]) ?_ fun _ => ?_
 ·refine uD (aoR fun _ => ?_)
  refine q33 ?_
  apply uE; exact rfl; exact .fn _ _ _; exact rfl; exact c2
  refine q11 ?_
  apply spF; exact rfl
  intro hc_; refine q8
  apply spF; exact rfl
  intro hc_; refine q6
  apply spF; exact rfl
  intro hc_; refine q7; refine q0 (vH ?_); refine uA ?_
  refine cnd ?_ ?_
  refine zR (fun hc_ => ?_); (try simp only [nrm] at hc_)
  refine aoR fun _ => ?_; refine q32 ?_; refine q23 ?_; refine q28 ?_; refine q15 (vH ?_)
  rotate_left; refine zS ?_
  refine vY (fun _ => ?_)
  refine uG fun _ => ?_; try omega
  refine vM ?_; rotate_left
  all_goals exact wA () leP (uY rfl (uP rfl (by first | (rw [show s.b1 = { zSt with kind := s.kind, reg := s.reg } from by (unfold Stp.b1; cases h1 : s.lds <;> by_cases h2 : s.kind = 6 <;> simp_all [zSt])]; (first | done | rfl)) | (rw [show s.b1 = { zSt with kind := s.kind } from by (unfold Stp.b1; cases h1 : s.lds <;> by_cases h2 : s.kind = 6 <;> simp_all [zSt])]; (first | done | rfl))) (uS _)))
 refine uR (X := Unit) (fun _ => tmL [(1, .d (.pt (stTV s) 0)), (2, .lo 2 (v0, 1) 10 0 0), (3, .lo 3 (v1, 3) 10 0 0)]) (fun _ => stL [(2, ((v0, 1), ⟨10, [(stTV zSt).map .d]⟩)), (3, ((v1, 3), ⟨10, [(stTV s.b2).map .d]⟩))]) ?_ fun _ => ?_
 ·refine uD (aoR fun _ => ?_)
  refine q33 ?_
  apply uE; exact rfl; exact .fn _ _ _; exact rfl; exact c3
  refine vH (uA ?_); refine cnd ?_ ?_
  refine vV (fun _ => ?_)
  refine uJ (E := E) ?_ (fun _ => ?_); exact rfl
  refine q52 ?_; refine q50 ?_; refine q52 ?_; refine q50 ?_; refine q56 ?_
  apply yB; exact rfl; exact rfl; exact rfl; exact rfl; exact rfl; exact rfl; (first | exact rfl | exact uW (by omega) (0 : Int) | exact uW (by omega) default | exact wK (by omega) (by omega) (0 : Int) | assumption); exact Nat.le_of_ble_eq_true rfl
  refine q56 ?_
  apply yB; exact rfl; exact rfl; exact rfl; exact rfl; exact rfl; exact rfl; (first | exact rfl | exact uW (by omega) (0 : Int) | exact uW (by omega) default | exact wK (by omega) (by omega) (0 : Int) | assumption); exact Nat.le_of_ble_eq_true rfl
  refine nS ?_ ?_; (first | ((try dsimp only [wkeys]); decide +kernel) | exact rfl)
  rotate_left
  refine vY (fun _ => ?_)
  refine vM ?_; rotate_left
  all_goals exact wA () leP (uY rfl (uP rfl (by first | (rw [show s.b2 = { s.b1 with num := s.num, data := s.data } from by (unfold Stp.b2; cases h1 : s.sts <;> simp_all [Stp.b1, zSt])]; (first | done | rfl)) | (rw [show s.b2 = s.b1 from by (unfold Stp.b2; cases h1 : s.sts <;> simp_all [Stp.b1, zSt])]; (first | done | rfl))) (uS _)))
 refine uR (X := Unit) (fun _ => tmL [(1, .d (.pt (stTV s) 0)), (2, .lo 2 (v0, 1) 10 0 0), (3, .lo 3 (v1, 3) 10 0 0)]) (fun _ => stL [(2, ((v0, 1), ⟨10, [(stTV zSt).map .d]⟩)), (3, ((v1, 3), ⟨10, [(stTV s.b3).map .d]⟩))]) ?_ fun _ => ?_
 ·refine uD (aoR fun _ => ?_)
  refine q33 ?_
  apply uE; exact rfl; exact .fn _ _ _; exact rfl; exact c1
  refine vH (uA ?_); refine cnd ?_ ?_
  refine vV (fun _ => ?_)
  refine uJ (E := E) ?_ (fun _ => ?_); exact rfl
  refine q52 ?_; refine q50 ?_; refine q52 ?_; refine q50 ?_; refine q52 ?_; refine q50 ?_; refine q52 ?_; refine q50 ?_; refine q56 ?_
  apply yB; exact rfl; exact rfl; exact rfl; exact rfl; exact rfl; exact rfl; (first | exact rfl | exact uW (by omega) (0 : Int) | exact uW (by omega) default | exact wK (by omega) (by omega) (0 : Int) | assumption); exact Nat.le_of_ble_eq_true rfl
  refine q56 ?_
  apply yB; exact rfl; exact rfl; exact rfl; exact rfl; exact rfl; exact rfl; (first | exact rfl | exact uW (by omega) (0 : Int) | exact uW (by omega) default | exact wK (by omega) (by omega) (0 : Int) | assumption); exact Nat.le_of_ble_eq_true rfl
  refine q56 ?_
  apply yB; exact rfl; exact rfl; exact rfl; exact rfl; exact rfl; exact rfl; (first | exact rfl | exact uW (by omega) (0 : Int) | exact uW (by omega) default | exact wK (by omega) (by omega) (0 : Int) | assumption); exact Nat.le_of_ble_eq_true rfl
  refine q56 ?_
  apply yB; exact rfl; exact rfl; exact rfl; exact rfl; exact rfl; exact rfl; (first | exact rfl | exact uW (by omega) (0 : Int) | exact uW (by omega) default | exact wK (by omega) (by omega) (0 : Int) | assumption); exact Nat.le_of_ble_eq_true rfl
  refine nS ?_ ?_; (first | ((try dsimp only [wkeys]); decide +kernel) | exact rfl)
  rotate_left
  refine vY (fun _ => ?_)
  refine vM ?_; rotate_left
  all_goals exact wA () leP (uY rfl (uP rfl (by first | (rw [show s.b3 = { s.b2 with var := s.var, byr := s.byr, aq := s.aq, rl := s.rl } from by (unfold Stp.b3; cases h1 : s.acc <;> simp_all [Stp.b2, Stp.b1, zSt])]; (first | done | rfl)) | (rw [show s.b3 = s.b2 from by (unfold Stp.b3; cases h1 : s.acc <;> simp_all [Stp.b2, Stp.b1, zSt])]; (first | done | rfl))) (uS _)))
 refine uR (X := Unit) (fun _ => tmL [(1, .d (.pt (stTV s) 0)), (2, .lo 2 (v0, 1) 10 0 0), (3, .lo 3 (v1, 3) 10 0 0)]) (fun _ => stL [(2, ((v0, 1), ⟨10, [(stTV zSt).map .d]⟩)), (3, ((v1, 3), ⟨10, [(stTV s.bare).map .d]⟩))]) ?_ fun _ => ?_
 ·refine uD (aoR fun _ => ?_)
  refine q32 ?_; refine q23 ?_; refine q46 (vH (uA ?_)); refine cnd ?_ ?_
  refine uF fun _ => ?_; try omega
  refine uJ (E := E) ?_ (fun _ => ?_); exact rfl
  refine q52 ?_; refine q50 ?_; refine q52 ?_; refine q50 ?_; refine q56 ?_
  apply yB; exact rfl; exact rfl; exact rfl; exact rfl; exact rfl; exact rfl; (first | exact rfl | exact uW (by omega) (0 : Int) | exact uW (by omega) default | exact wK (by omega) (by omega) (0 : Int) | assumption); exact Nat.le_of_ble_eq_true rfl
  refine q56 ?_
  apply yB; exact rfl; exact rfl; exact rfl; exact rfl; exact rfl; exact rfl; (first | exact rfl | exact uW (by omega) (0 : Int) | exact uW (by omega) default | exact wK (by omega) (by omega) (0 : Int) | assumption); exact Nat.le_of_ble_eq_true rfl
  refine nS ?_ ?_; (first | ((try dsimp only [wkeys]); decide +kernel) | exact rfl)
  rotate_left
  refine uG fun _ => ?_; try omega
  refine vM ?_; rotate_left
  all_goals exact wA () leP (uY rfl (uP rfl (by first | (rw [show s.bare = { s.b3 with pred := s.pred, succ := s.succ } from by (unfold Stp.bare; by_cases h2 : s.kind = 5 <;> simp_all [Stp.b3, Stp.b2, Stp.b1, zSt])]; (first | done | rfl)) | (rw [show s.bare = s.b3 from by (unfold Stp.bare; by_cases h2 : s.kind = 5 <;> simp_all [Stp.b3, Stp.b2, Stp.b1, zSt])]; (first | done | rfl))) (uS _)))
 refine uD (aoR fun _ => ?_)
 refine q14 ?_; refine q15 (vH (uA ?_)); refine zW ?_; rotate_left
 exact uAZ rfl rfl rfl rfl rfl rfl
set_option maxRecDepth 100000
inductive EqF (P : Program) (d : Nat) (xs ys : Array Value) (w : World) : List (Nat × Nat) → Bool → Prop where
 | nil : EqF P d xs ys w [] true
 | cons {T o : Nat} {L : List (Nat × Nat)} {x y : Value} {b c : Bool} (h1 : (part T xs o).run P w = .ok x w) (h2 : (part T ys o).run P w = .ok y w) (he : (Op.equalIn d T x y).run P w = .ok b w) (hr : EqF P d xs ys w L c) : EqF P d xs ys w ((T, o) :: L) (b && c)
theorem eqF_run {d : Nat} {xs ys : Array Value} {L : List (Nat × Nat)} {b : Bool} (h : EqF P d xs ys w L b) : ∀ fs : List Field, fs.map (fun f => (decide (f.name = "_"), f.type, f.offset)) = L.map (fun p => (false, p.1, p.2)) → (Op.eqFields d xs ys fs).run P w = .ok b w := by
 induction h with
 | nil =>
  intro fs e
  cases fs with
  | nil => unfold Op.eqFields; simp
  | cons f fs => simp at e
 | @cons T o L x y b c h1 h2 he hr ih =>
  intro fs e
  cases fs with
  | nil => simp at e
  | cons f fs =>
   simp only [List.map_cons, List.cons.injEq, Prod.mk.injEq, decide_eq_false_iff_not] at e
   obtain ⟨⟨e1, e2, e3⟩, e4⟩ := e
   subst e2 e3
   unfold Op.eqFields
   rw [if_pos e1]
   simp only [Sem.run_bind, h1, h2, he, Result.andThen_ok]
   cases b with
   | false => simp
   | true => simp only [Bool.not_true, Bool.false_eq_true, if_false, ih fs e4, Bool.true_and]
def eqSt (s t : Stp) : Bool := s.kind == t.kind && (s.reg == t.reg && (s.var == t.var && (s.num == t.num && (s.data == t.data && (s.byr == t.byr && (s.aq == t.aq && (s.rl == t.rl && (s.pred == t.pred && (s.succ == t.succ && true)))))))))
theorem pN (s t : Stp) : eqSt s t = decide (s = t) := by
 obtain ⟨a0, a1, a2, a3, a4, a5, a6, a7, a8, a9⟩ := s
 obtain ⟨b0, b1, b2, b3, b4, b5, b6, b7, b8, b9⟩ := t
 rw [Bool.eq_iff_iff]
 simp [eqSt]
def stVal (s : Stp) : Value := .agg #[.int .i64 s.kind, .int .i64 s.reg, .int .i64 s.var, .int .u32 s.num, .int .i64 s.data, .int .i64 s.byr, .bool s.aq, .bool s.rl, .int .i64 s.pred, .int .i64 s.succ]
theorem pM (s t : Stp) (w : World) : (Op.equalIn 10000 47 (stVal s) (stVal t)).run Tryz.prog w = .ok (eqSt s t) w := by
 unfold stVal
 rw [run_equalIn_agg w 9999 47 _ _ (by kernel_rfl) (by kernel_rfl)]
 have hi : ∀ x y : Int, (Op.equalIn 9999 3 (.int .i64 x) (.int .i64 y)).run Tryz.prog w = .ok (x == y) w := fun x y => run_equalIn_int w 9998 3 .i64 .i64 x y Tryz.underlying3
 have hk : ∀ x y : Int, (Op.equalIn 9999 45 (.int .i64 x) (.int .i64 y)).run Tryz.prog w = .ok (x == y) w := fun x y => run_equalIn_int w 9998 45 .i64 .i64 x y Tryz.underlying45
 have hu : ∀ x y : Int, (Op.equalIn 9999 34 (.int .u32 x) (.int .u32 y)).run Tryz.prog w = .ok (x == y) w := fun x y => run_equalIn_int w 9998 34 .u32 .u32 x y Tryz.underlying34
 have hb : ∀ x y : Bool, (Op.equalIn 9999 4 (.bool x) (.bool y)).run Tryz.prog w = .ok (x == y) w := fun x y => by cases x <;> cases y <;> kernel_rfl
 unfold eqSt
 obtain ⟨a0, a1, a2, a3, a4, a5, a6, a7, a8, a9⟩ := s
 obtain ⟨b0, b1, b2, b3, b4, b5, b6, b7, b8, b9⟩ := t
 dsimp only
 refine eqF_run (L := [(45, 0), (3, 1), (3, 2), (34, 3), (3, 4), (3, 5), (4, 6), (4, 7), (3, 8), (3, 9)]) ?_ _ (by kernel_rfl)
 refine .cons (by kernel_rfl) (by kernel_rfl) (hk a0 b0) ?_; refine .cons (by kernel_rfl) (by kernel_rfl) (hi a1 b1) ?_
 refine .cons (by kernel_rfl) (by kernel_rfl) (hi a2 b2) ?_; refine .cons (by kernel_rfl) (by kernel_rfl) (hu a3 b3) ?_
 refine .cons (by kernel_rfl) (by kernel_rfl) (hi a4 b4) ?_; refine .cons (by kernel_rfl) (by kernel_rfl) (hi a5 b5) ?_
 refine .cons (by kernel_rfl) (by kernel_rfl) (hb a6 b6) ?_; refine .cons (by kernel_rfl) (by kernel_rfl) (hb a7 b7) ?_
 refine .cons (by kernel_rfl) (by kernel_rfl) (hi a8 b8) ?_; refine .cons (by kernel_rfl) (by kernel_rfl) (hi a9 b9) ?_
 exact .nil
theorem kL {G : Gh} : ∀ {vs : List Value} {us : List Value}, RepOL G (vs.map fun v => OV.d (.c v)) us → us = vs
 | [], us, h => by rw [List.map_nil, RepOL] at h; exact h
 | v :: vs, us, h => by
  rw [List.map_cons, RepOL] at h
  obtain ⟨a, l, rfl, h1, h2⟩ := h
  rw [vA h1, kL h2]
theorem mT {u : Value} (h : RepO G (stOV s) u) : u = stVal s := by
 unfold stOV at h
 rw [RepO] at h
 obtain ⟨cs, rfl, h⟩ := h
 have := kL (vs := [.int .i64 s.kind, .int .i64 s.reg, .int .i64 s.var, .int .u32 s.num, .int .i64 s.data, .int .i64 s.byr, .bool s.aq, .bool s.rl, .int .i64 s.pred, .int .i64 s.succ]) h
 rw [show cs = cs.toList.toArray by simp, this]; rfl
section
variable {v j : Nat} {tm : Tm} {σ : Store} {dst : Option Tmp} {ty : TypeId} {pos : String} {af : Array Edge} {gd : Option (Nat × Bool)}
theorem Y_neqT (p q : Stp) (hx : ev tm x = some (stOV p)) (hy : ev tm y = some (stOV q)) : YL E.P v j ⟨dst, .binOp .neq 47 x y T', ty, pos, af, gd⟩ tm σ [] (.bool (!decide (p = q))) [] := qV hx hy (fun M u w' w hu hv => by
 rw [mT hu, mT hv, ← pN]
 exact ⟨run_eqGuard_agg w _ _ _ _ _ _ (by kernel_rfl), by
  show (binOp .neq 47 (.agg _) (.agg _)).run E.P w = _
  rw [run_neq_struct, show E.P = Tryz.prog from rfl]
  exact congrArg (fun r => Result.andThen r fun (b : Bool) w' => Result.ok (Value.bool (!b)) w') (pM p q w)⟩) rfl
theorem Y_eqlT (p q : Stp) (hx : ev tm x = some (stOV p)) (hy : ev tm y = some (stOV q)) : YL E.P v j ⟨dst, .binOp .eql 47 x y T', ty, pos, af, gd⟩ tm σ [] (.bool (decide (p = q))) [] := qV hx hy (fun M u w' w hu hv => by
 rw [mT hu, mT hv, ← pN]
 exact ⟨run_eqGuard_agg w _ _ _ _ _ _ (by kernel_rfl), by
  show (binOp .eql 47 (.agg _) (.agg _)).run E.P w = _
  rw [run_eql_struct, show E.P = Tryz.prog from rfl]
  exact congrArg (fun r => Result.andThen r fun (b : Bool) w' => Result.ok (Value.bool b) w') (pM p q w)⟩) rfl
end
section
variable {v j : Nat} {ops : Array Oper} {K : Tm → Store → Prop} {KD : List Foot → Tm → Store → Prop} {acc : List Foot} {rest : List Oper} {tm : Tm} {σ : Store} {ty : TypeId} {pos : String} {af : Array Edge}
theorem qX {dst : Option Tmp} (p q : Stp) (hx : ev tm x = some (stOV p)) (hy : ev tm y = some (stOV q)) (hcont : DO E.P v ops KD (j + 1) rest (tm.putO dst (.bool (!decide (p = q)))) (σ.apply []) (Foot.mk [] (wkeys []) :: acc)) : DO E.P v ops KD j (⟨dst, .binOp .neq 47 x y T', ty, pos, af, none⟩ :: rest) tm σ acc := xA (Y_neqT p q hx hy) hcont
theorem gR {dst : Option Tmp} (p q : Stp) (hx : ev tm x = some (stOV p)) (hy : ev tm y = some (stOV q)) (hcont : AO E.P v ops K (j + 1) rest (tm.putO dst (.bool (decide (p = q)))) (σ.apply [])) : AO E.P v ops K j (⟨dst, .binOp .eql 47 x y T', ty, pos, af, none⟩ :: rest) tm σ := uQ (Y_eqlT p q hx hy) hcont
end
set_option maxRecDepth 100000
section
variable {s : Stp} (h0 : s = s.bare) (h1 : inR s.kind 1 6 = true)
include h0 h1
theorem right2 (h5 : s.kind = 5) : (inR s.pred 1 3 && inR s.succ 1 3) = s.right := by
 unfold Stp.right
 rw [if_neg (by rw [decide_eq_true h0, h1]; decide), if_pos h5]
theorem right3 (h5 : ¬ s.kind = 5) (hc : s.kind = 6 ∨ s.lds = true) (h6 : inR s.reg 1 4 = false) : false = s.right := by
 unfold Stp.right
 rw [if_neg (by rw [decide_eq_true h0, h1]; decide), if_neg h5, if_pos (by rw [h6]; simpa using hc)]
theorem right4 (h5 : ¬ s.kind = 5) (h6 : inR s.reg 1 4 = true) : (inR s.var 0 3 && inR s.byr 0 4 && inR s.data 0 4 && (decide (s.data = 0) || decide (s.num = 0))) = s.right := by
 unfold Stp.right
 rw [if_neg (by rw [decide_eq_true h0, h1]; decide), if_neg h5, if_neg (by rw [h6]; simp)]
theorem right5 (h5 : ¬ s.kind = 5) (h6 : ¬ s.kind = 6) (h7 : s.lds = false) : (inR s.var 0 3 && inR s.byr 0 4 && inR s.data 0 4 && (decide (s.data = 0) || decide (s.num = 0))) = s.right := by
 unfold Stp.right
 rw [if_neg (by rw [decide_eq_true h0, h1]; decide), if_neg h5, if_neg (by rw [h7, decide_eq_false h6]; simp)]
end
theorem sY (h : ¬ s = s.bare ∨ inR s.kind 1 6 = false) : false = s.right := by
 unfold Stp.right
 rw [if_pos (by rcases h with h | h <;> simp [h])]
set_option maxHeartbeats 4000000 in
theorem right9_p (s : Stp) : Pure E.P 47 [stOV s] (.bool s.right) := by
 have f1 : Frozen 1 := ⟨trivial⟩
 have c2 := bare_p s
 have c3 := nG s
 have ci := fun n a b => in9_p n a b
 refine fnA Tryz.func47 Tryz.ntmps47 ?_
 refine rZ ?_; refine aoR fun _ => ?_
 refine rZ ?_; refine aoR fun _ => ?_
 refine rZ ?_
 refine uJ (E := E) ?_ (fun _ => ?_); exact rfl
 refine rZ ?_
 apply vJ; exact rfl; exact .fn _ _ _; exact rfl; (exact c2)
 apply qX s s.bare; exact rfl; exact rfl
 refine rZ ?_
 apply dpF; exact rfl
 intro hc_
 have hp_ := hc_; try simp only [nrm] at hp_
 apply uZ; exact evm; exact .fn _ _ _; exact wP; (exact ci _ _ _)
 refine rZ ?_; refine cnd ?_ ?_
 refine zR (fun hc_ => ?_); (try simp only [nrm] at hc_)
 refine rZ ?_; refine aoR fun _ => ?_
 refine rZ ?_; rotate_left
 refine zS ?_
 refine aG (fun _ => ?_); (try omega)
 refine yS ?_
 refine vV (fun _ => ?_)
 refine rZ ?_; refine aoR fun _ => ?_
 refine rZ ?_; refine cnd ?_ ?_
 refine uF fun _ => ?_; try omega
 refine rZ ?_; refine aoR fun _ => ?_
 refine rZ ?_
 apply uE; exact rfl; exact .fn _ _ _; exact rfl; (exact ci _ _ _)
 refine rZ ?_
 apply spT; exact rfl
 intro hc_
 have hp_ := hc_; try simp only [nrm] at hp_
 apply uZ; exact evm; exact .fn _ _ _; exact wP; (exact ci _ _ _)
 refine rZ ?_; rotate_left
 refine uG fun _ => ?_; try omega
 refine rZ ?_; refine aoR fun _ => ?_
 refine rZ ?_
 apply spF; exact rfl
 intro hc_
 have hp_ := hc_; try simp only [nrm] at hp_
 apply uZ; exact evm; exact .fn _ _ _; exact wP; (exact c3)
 refine rZ ?_; refine cnd ?_ ?_
 refine zR (fun hc_ => ?_); (try simp only [nrm] at hc_)
 refine rZ ?_; refine aoR fun _ => ?_
 refine rZ ?_
 apply uE; exact rfl; exact .fn _ _ _; exact rfl; (exact ci _ _ _)
 refine rZ ?_; refine cnd ?_ ?_; refine zU ?_
 refine vY (fun _ => ?_)
 refine rZ ?_; refine aoR fun _ => ?_
 refine rZ ?_; rotate_left
 refine yS ?_
 refine vV (fun _ => ?_)
 refine rZ ?_; refine aoR fun _ => ?_
 refine rZ ?_
 apply uE; exact rfl; exact .fn _ _ _; exact rfl; (exact ci _ _ _)
 refine rZ ?_
 apply spT; exact rfl
 intro hc_
 have hp_ := hc_; try simp only [nrm] at hp_
 apply uZ; exact evm; exact .fn _ _ _; exact wP; (exact ci _ _ _)
 refine rZ ?_
 apply spT; exact rfl
 intro hc_
 have hp_ := hc_; try simp only [nrm] at hp_
 apply uZ; exact evm; exact .fn _ _ _; exact wP; (exact ci _ _ _)
 refine rZ ?_; rotate_left
 refine zS ?_
 refine uG fun _ => ?_; try omega
 refine vY (fun _ => ?_)
 refine rZ ?_; refine aoR fun _ => ?_
 refine rZ ?_
 apply uE; exact rfl; exact .fn _ _ _; exact rfl; (exact ci _ _ _)
 refine rZ ?_
 apply spT; exact rfl
 intro hc_
 have hp_ := hc_; try simp only [nrm] at hp_
 apply uZ; exact evm; exact .fn _ _ _; exact wP; (exact ci _ _ _)
 refine rZ ?_
 apply spT; exact rfl
 intro hc_
 have hp_ := hc_; try simp only [nrm] at hp_
 apply uZ; exact evm; exact .fn _ _ _; exact wP; (exact ci _ _ _)
 refine rZ ?_; rotate_left
 all_goals exact vX rfl (by first | exact sY (by assumption) | exact right2 (by assumption) (by assumption) (by assumption) | exact right3 (by assumption) (by assumption) (by assumption) (by assumption) (by assumption) | exact right4 (by assumption) (by assumption) (by assumption) (by assumption) | exact right5 (by assumption) (by assumption) (by assumption) (by assumption) (by assumption))
section
open Go.Lib
abbrev Bt := List UInt8
def wFence : Bt := [102, 101, 110, 99, 101]
def wIf : Bt := [105, 102]
def wSwap : Bt := [115, 119, 97, 112]
def wAdd : Bt := [97, 100, 100]
def wEq : Bt := [61]
def wBy : Bt := [98, 121]
def wAq : Bt := [97, 113]
def wRl : Bt := [114, 108]
def wHart : Bt := [104, 97, 114, 116]
def regW (n : Int) : Bt := [114, UInt8.ofNat (48 + n.toNat)]
def nameW (n : Int) : Bt := [[120], [121], [122], [119]].getD n.toNat []
def setW (n : Int) : Bt := [[], [119], [114], [114, 119]].getD n.toNat []
def valW (d n : Int) : Bt := if 0 < d then regW d else decDigits n.toNat
def tailW (b : Int) (aq rl : Bool) : List Bt := (if 0 < b then [wBy, regW b] else []) ++ ((if aq then [wAq] else []) ++ (if rl then [wRl] else []))
def wordsOf (s : Stp) : List Bt :=
 if s.kind = 5 then [wFence, setW s.pred, setW s.succ]
 else if s.kind = 6 then [wIf, regW s.reg]
 else (if s.kind = 1 then [regW s.reg, wEq, nameW s.var]
  else if s.kind = 2 then [nameW s.var, wEq, valW s.data s.num]
  else if s.kind = 3 then [regW s.reg, wEq, wSwap, nameW s.var, valW s.data s.num]
  else [regW s.reg, wEq, wAdd, nameW s.var, valW s.data s.num]) ++ tailW s.byr s.aq s.rl
def joinC (c : UInt8) : List Bt → Bt
 | [] => []
 | [w] => w
 | w :: v :: ws => w ++ c :: joinC c (v :: ws)
def consW (x : UInt8) : List Bt → List Bt
 | [] => [[x]]
 | w :: ws => (x :: w) :: ws
def splitC (c : UInt8) : Bt → List Bt
 | [] => [[]]
 | x :: l => if x = c then [] :: splitC c l else consW x (splitC c l)
theorem yM (c : UInt8) : ∀ l, splitC c l ≠ []
 | [] => by simp [splitC]
 | x :: l => by
  unfold splitC
  split
  ·simp
  ·cases splitC c l <;> simp [consW]
theorem jY {c : UInt8} {w : Bt} {ws : List Bt} (h : ws ≠ []) : joinC c (w :: ws) = w ++ c :: joinC c ws := by
 cases ws with
 | nil => exact absurd rfl h
 | cons v ws => rfl
theorem eG (c : UInt8) : ∀ l, joinC c (splitC c l) = l
 | [] => rfl
 | x :: l => by
  have ih := eG c l
  unfold splitC
  split
  ·rename_i h
   rw [jY (yM c l), ih, h]; rfl
  ·cases h : splitC c l with
   | nil => exact absurd h (yM c l)
   | cons w ws =>
    rw [h] at ih
    cases ws with
    | nil => simp only [joinC] at ih; simp [consW, joinC, ih]
    | cons v ws => simp only [joinC] at ih; simp [consW, joinC, ih]
theorem lF (c : UInt8) : ∀ (w l : Bt), c ∉ w → splitC c (w ++ c :: l) = w :: splitC c l
 | [], l, _ => by simp [splitC]
 | x :: w, l, h => by
  have hx : ¬ x = c := fun e => h (by simp [e])
  have ih := lF c w l (fun e => h (by simp [e]))
  rw [List.cons_append, splitC, if_neg hx, ih]; rfl
theorem lE (c : UInt8) : ∀ (w : Bt), c ∉ w → splitC c w = [w]
 | [], _ => rfl
 | x :: w, h => by
  have hx : ¬ x = c := fun e => h (by simp [e])
  rw [splitC, if_neg hx, lE c w (fun e => h (by simp [e]))]; rfl
theorem dY (c : UInt8) : ∀ ws : List Bt, ws ≠ [] → (∀ w ∈ ws, c ∉ w) → splitC c (joinC c ws) = ws
 | [], h, _ => absurd rfl h
 | [w], _, h => lE c w (h w (by simp))
 | w :: v :: ws, _, h => by
  rw [joinC, lF c w _ (h w (by simp)), dY c (v :: ws) (by simp) fun x hx => h x (by simp [hx])]
theorem dL {u : Nat} : ∀ b ∈ decDigits u, 48 ≤ b.toNat ∧ b.toNat ≤ 57 := by
 induction u using Nat.strongRecOn with
 | _ u ih =>
  intro b hb
  rw [decDigits] at hb
  have key : ∀ k, k < 10 → 48 ≤ (UInt8.ofNat (48 + k)).toNat ∧ (UInt8.ofNat (48 + k)).toNat ≤ 57 := fun k hk => by
   rw [UInt8.toNat_ofNat']; omega
  split at hb
  ·rename_i h
   rw [List.mem_singleton] at hb; subst hb; exact key u h
  ·rename_i h
   rcases List.mem_append.1 hb with h1 | h1
   ·exact ih (u / 10) (by omega) b h1
   ·rw [List.mem_singleton] at h1; subst h1; exact key _ (Nat.mod_lt _ (by decide))
theorem dec_ne (u : Nat) : decDigits u ≠ [] := by
 intro h
 have := decDigits_length u
 rw [h] at this
 have := nDigits_pos u
 simp at *; omega
theorem lQ (M : Nat) (hM : M ≤ 4294967295) : ∀ (l : Bt) (acc v : Nat) (r : Bt), parseUintM M acc l = .ok v → parseUintM M acc (l ++ r) = parseUintM M v r
 | [], acc, v, r, h => by rw [parseUintM] at h; cases h; rfl
 | c :: l, acc, v, r, h => by
  rw [List.cons_append, parseUintM]
  rw [parseUintM] at h
  split at h
  ·rename_i h1
   rw [if_pos h1]
   split at h
   ·cases h
   ·rename_i h2
    rw [if_neg h2]
    split at h
    ·cases h
    ·rename_i h3
     rw [if_neg h3]
     exact lQ M hM l _ v r h
  ·cases h
theorem parse_dec (M : Nat) (hM : M ≤ 4294967295) (u : Nat) (hu : u ≤ M) : parseUintM M 0 (decDigits u) = .ok u := by
 induction u using Nat.strongRecOn with
 | _ u ih =>
  have e : ∀ k, k < 10 → (UInt8.ofNat (48 + k)).toNat = 48 + k := fun k hk => by rw [UInt8.toNat_ofNat']; omega
  rw [decDigits]
  split
  ·rename_i h
   rw [parseUintM, e u h, if_pos (by omega), if_neg (by omega), if_neg (by omega), parseUintM]
   congr 1; omega
  ·rename_i h
   rw [lQ M hM _ 0 (u / 10) _ (ih (u / 10) (by omega) (by omega)), parseUintM, e _ (Nat.mod_lt _ (by decide)), if_pos (by omega), if_neg (by omega), if_neg (by omega), parseUintM]
   congr 1; omega
def regOf (w : Bt) : Option Int := if w = regW 1 then some 1 else if w = regW 2 then some 2 else if w = regW 3 then some 3 else if w = regW 4 then some 4 else none
def nameOf (w : Bt) : Option Int := if w = nameW 0 then some 0 else if w = nameW 1 then some 1 else if w = nameW 2 then some 2 else if w = nameW 3 then some 3 else none
def setOf (w : Bt) : Option Int := if w = setW 1 then some 1 else if w = setW 2 then some 2 else if w = setW 3 then some 3 else none
def numOf (w : Bt) : Option Nat :=
 if w = [] then none else
 match parseUintM 4294967295 0 w with
 | .ok u => if decDigits u = w then some u else none
 | _ => none
def operOf (w : Bt) : Option (Int × Int) :=
 if w.head? = some 114 then (regOf w).map fun n => (n, 0) else (numOf w).map fun n : Nat => (0, (n : Int))
def sufBy : List Bt → Option (Int × List Bt)
 | a :: b :: r => if a = wBy then (regOf b).map fun n => (n, r) else some (0, a :: b :: r)
 | ws => some (0, ws)
def sufAq (w : Bt) : List Bt → Bool × List Bt
 | a :: r => if a = w then (true, r) else (false, a :: r)
 | [] => (false, [])
def suffOf (ws : List Bt) : Option (Int × Bool × Bool) :=
 (sufBy ws).bind fun p => if (sufAq wRl (sufAq wAq p.2).2).2 = [] then some (p.1, (sufAq wAq p.2).1, (sufAq wRl (sufAq wAq p.2).2).1) else none
def fenceOf : List Bt → Option Stp
 | [_, a, b] => (setOf a).bind fun p => (setOf b).map fun q => ⟨5, 0, 0, 0, 0, 0, false, false, p, q⟩
 | _ => none
def ifOf : List Bt → Option Stp
 | [_, a] => (regOf a).map fun n => ⟨6, n, 0, 0, 0, 0, false, false, 0, 0⟩
 | _ => none
def bothOf (k : Int) : List Bt → Option Stp
 | r :: _ :: _ :: v :: o :: ws => (regOf r).bind fun r => (nameOf v).bind fun v => (operOf o).bind fun o => (suffOf ws).map fun x => ⟨k, r, v, o.2, o.1, x.1, x.2.1, x.2.2, 0, 0⟩
 | _ => none
def loadOf : List Bt → Option Stp
 | r :: _ :: v :: ws => (regOf r).bind fun r => (nameOf v).bind fun v => (suffOf ws).map fun x => ⟨1, r, v, 0, 0, x.1, x.2.1, x.2.2, 0, 0⟩
 | _ => none
def storeOf : List Bt → Option Stp
 | v :: _ :: o :: ws => (nameOf v).bind fun v => (operOf o).bind fun o => (suffOf ws).map fun x => ⟨2, 0, v, o.2, o.1, x.1, x.2.1, x.2.2, 0, 0⟩
 | _ => none
def stepW (ws : List Bt) : Option Stp :=
 if ws.getD 0 [] = wFence then fenceOf ws
 else if ws.getD 0 [] = wIf then ifOf ws
 else if ¬ (3 ≤ ws.length ∧ ws.getD 1 [] = wEq) then none
 else if ws.getD 2 [] = wSwap then bothOf 3 ws
 else if ws.getD 2 [] = wAdd then bothOf 4 ws
 else if (ws.getD 0 []).head? = some 114 then loadOf ws
 else storeOf ws
theorem yC {w : Bt} {n : Int} (h : regOf w = some n) : (1 ≤ n ∧ n ≤ 4) ∧ w = regW n := by
 unfold regOf at h
 (repeat' split at h) <;> cases h <;> (refine ⟨by decide, ?_⟩; assumption)
theorem aM {w : Bt} {n : Int} (h : nameOf w = some n) : (0 ≤ n ∧ n ≤ 3) ∧ w = nameW n := by
 unfold nameOf at h
 (repeat' split at h) <;> cases h <;> (refine ⟨by decide, ?_⟩; assumption)
theorem dZ {w : Bt} {n : Int} (h : setOf w = some n) : (1 ≤ n ∧ n ≤ 3) ∧ w = setW n := by
 unfold setOf at h
 (repeat' split at h) <;> cases h <;> (refine ⟨by decide, ?_⟩; assumption)
theorem sQ {n : Int} (h : 1 ≤ n ∧ n ≤ 4) : n = 1 ∨ n = 2 ∨ n = 3 ∨ n = 4 := by omega
theorem zA {n : Int} (h : 1 ≤ n ∧ n ≤ 4) : regOf (regW n) = some n := by
 rcases sQ h with rfl | rfl | rfl | rfl <;> decide
theorem yQ {n : Int} (h : 0 ≤ n ∧ n ≤ 3) : nameOf (nameW n) = some n := by
 rcases (by omega : n = 0 ∨ n = 1 ∨ n = 2 ∨ n = 3) with rfl | rfl | rfl | rfl <;> decide
theorem eA {n : Int} (h : 1 ≤ n ∧ n ≤ 3) : setOf (setW n) = some n := by
 rcases (by omega : n = 1 ∨ n = 2 ∨ n = 3) with rfl | rfl | rfl <;> decide
theorem jT {w : Bt} {n : Nat} (h : numOf w = some n) : n ≤ 4294967295 ∧ w = decDigits n := by
 unfold numOf at h
 split at h
 ·cases h
 ·split at h
  ·rename_i u hu
   split at h
   ·rename_i e
    cases h
    refine ⟨?_, e.symm⟩
    exact parseUintM_le _ _ 0 _ (by omega) hu
   ·cases h
  ·cases h
theorem numOf_dec {n : Nat} (h : n ≤ 4294967295) : numOf (decDigits n) = some n := by
 unfold numOf
 rw [if_neg (dec_ne n), parse_dec _ (Nat.le_refl _) n h]
 simp
end
end Go.Proofs.YtjogffchdejabaaGreatDoor
