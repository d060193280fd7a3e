/- Parts. -/
import Derived.Shelf.SlSortCmp.WholeK
import Derived.Shelf.SlGeneric
import Derived.Ground.SlsfProg
import Derived.Test.YtnkocjkkefnelaaGreatProg
import Derived.RangeFuncNested
import Derived.Shelf.SlSortCmp.NoneTotal
import Derived.Test.YtnkocjkkefnelaaGreatPn1
import Derived.Test.YtnkocjkkefnelaaGreatPn11
set_option linter.unusedVariables false
set_option linter.unusedSimpArgs false
set_option maxHeartbeats 4000000
namespace Go.Proofs.YtnkocjkkefnelaaGreat
open Go.RowKit Go.Shelf Go.Maps Go.Sort
theorem info_u : (Tryz.prog.info? 38).map (fun i => (i.zero, i.size, i.bytes)) = some (some (.int .u32 0), 1, 4) := by kernel_rfl
set_option maxRecDepth 100000 in
set_option maxHeartbeats 2000000 in
theorem append_u (F : Fence) (hF : ∀ f, F.fn f) (n : Nat) (hro : F.round = none) (hn : 2 ≤ n) (g : Nat) (lb : Array Value) (eg : ∀ args w, (callFunc g args).run Tryz.prog w = .ok (.enter g args) w)
  (Kp : World → World → Prop) (S Sp : List Int → Prop) (N : Nat) (hN : N ≤ maxLen) (hNb : N * 4 ≤ 140737488355328) (w : World)
  (hKt : ∀ {A B C : World}, Kp A B → Kp B C → Kp A C) (hKb : ∀ (W : World) (l : Nat) (o o' : Obj), w.heap.size ≤ l → W.heap[l]? = some o → o.isCells = false → o.isWalk = false → Kp W (W.putObj l o'))
  (hKo : ∀ W W', KeepsOthers W W' → Below w.heap.size W W' → Kp W W')
  (hseq : SeqStopsK F (n - 1) Tryz.prog g lb (fun x : Int => #[Value.int .u32 x]) Kp S Sp N w) :
  CallsIn F n Tryz.prog 124 #[.slice none 0 0, .func (.func g) #[] lb] w fun e w' => ∃ (v : Value) (ss : List Int), e = .returned v ∧ S ss ∧ ss.length ≤ N ∧ w'.ownsRow w.heap.size 38 1 v ss.length (ss.map (Value.int .u32)) ∧ (v = .slice none 0 0 ↔ ss = []) ∧ Below w.heap.size w w' := by
 have h1 : 1 ≤ n := by omega
 obtain ⟨i0, hi, hz0, hz1, hz2⟩ := info_parts info_u
 refine callsIn_of_wp_marks Tryz.func124 rfl (hF _) ?_ hro
 simp only [Tryz.ntmps124, List.size_toArray, List.length_cons, List.length_nil, Nat.reduceAdd, Nat.reduceSub, Array.replicate_succ, Array.replicate_zero, List.push_toArray, List.append_toArray, List.nil_append, List.cons_append]
 gi_wp2
 have bO := Boxed.new w 59 (.slice none 0 0)
 have hB0 : Below w.heap.size w (w.alloc (.cells #[.slice none 0 0] 59)) := (Below.refl _ w).alloc (Nat.le_refl _) _
 refine wpIn_rangeFunc_ownG hro h1 (gf := g) (lb := lb) rfl (hF _) eg (N := N) hseq hKt (fun W l o o' hl h1 h2 h3 => hKb W l o o' (by simp at hl; omega) h1 h2 h3) hB0 (fun _ => rfl)
  (fun pre W => ((∃ v, Boxed W w.heap.size 59 v ∧ W.ownsRow w.heap.size 38 1 v pre.length (pre.map (Value.int .u32)) ∧ (v = .slice none 0 0 ↔ pre = [])) ∧ Below w.heap.size w W) ∧ pre.length ≤ N)
  (fun _ _ _ => False)
  (OwnFrom.and (OwnFrom.and (Own.from (holdsRow_own w.heap.size w.heap.size 59 38 1 (fun pre : List Int => pre.length) (fun pre => pre.map (Value.int .u32)) (fun pre v => v = .slice none 0 0 ↔ pre = [])) _) (ownFrom_below (Nat.le_refl _) (by simp))) (fun _ _ _ _ hs _ _ => hs))
  (fun _ _ _ _ _ hs _ _ => hs)
  ⟨⟨⟨_, bO, World.ownsRow_nil _ _ _ _, by simp⟩, hB0⟩, by simp⟩
  (fun x => { tmps := #[.slice none 0 0, .func (.func g) #[] lb, .pointer (some ⟨w.heap.size, 0, none⟩), undef, .slice none 0 0, .int .u32 x, .func (.func g) #[] lb, .int .u32 x, undef, undef, undef, undef, undef], defers := [] }) ?assign ?body ?done ?stop
 case assign =>
  intro l x W K hK
  gi_wp2_with (rw [Oper.semAt_eq _ _ _ (fun c h => by cases h)]; go_simp; try go_bits)
  exact hK
 case body =>
  rintro l pre x W ⟨⟨⟨v, hv, hrow, hnil⟩, hB⟩, _⟩ hlt
  have hc := hv.cell
  gi_wp2_with (first | (gi_at_builtin; refine wpListIn_append_own _ rfl _ _ 59 rfl w.heap.size 38 i0 (.int .u32 0) 1 4 Tryz.underlying59 hi hz0 hz1 hz2 rfl (by decide) _ _ _ rfl (hrow.alloc _) ⟨W.heap.size, 0, none⟩ 1 1 [.int .u32 x] rfl rfl (cell_one_new _ _ _) (by simp [Value.oneCell']) (by omega) (by omega) (by have := hB.size; simp; omega) ?_; intro v' w1 hown' hgrow _; obtain ⟨g', cap', rfl⟩ := ownsRow_succ hown'; obtain ⟨hv1, hv2, hr2, hk2, hb2⟩ := hv.appended (by decide) hrow hB.size (Nat.le_refl _) hown' hgrow; have hc1 := hv1.cell; have hf1 := hv1.frozen; go_frame) | (rw [Oper.semAt_eq _ _ _ (fun c h => by cases h)]; go_simp; try go_bits))
  exact ⟨hk2.from _, hKo _ _ hk2 hb2, ⟨⟨_, hv2, by simpa using hr2, by simp⟩, hB.trans hb2⟩, by simp; omega⟩
 case done =>
  rintro D ys W hD hS ⟨⟨⟨v, hv, hrow, hnil⟩, hB⟩, hlen⟩ hK
  have hc := hv.cell
  gi_wp2
  refine ⟨by simp, .inl ⟨_, _, rfl, run_takeDeferred hK, ?_⟩⟩
  exact ⟨_, results_tmp rfl _ _ _, v, ys, rfl, hS, hlen, ownsRow_putObj hrow _ hK rfl, hnil, hB.trans (belowK_b (w := w) (Nat.le_refl _) W D _ _ (by simp at hD; omega) hK rfl rfl)⟩
 case stop =>
  rintro D c pre W _ _ h _
  exact h.elim
set_option maxHeartbeats 1000000 in
theorem collect_u (F : Fence) (hF : ∀ f, F.fn f) (n : Nat) (hro : F.round = none) (hn : 3 ≤ n) (g : Nat) (lb : Array Value) (eg : ∀ args w, (callFunc g args).run Tryz.prog w = .ok (.enter g args) w)
  (Kp : World → World → Prop) (S Sp : List Int → Prop) (N : Nat) (hN : N ≤ maxLen) (hNb : N * 4 ≤ 140737488355328) (w : World)
  (hKt : ∀ {A B C : World}, Kp A B → Kp B C → Kp A C) (hKb : ∀ (W : World) (l : Nat) (o o' : Obj), w.heap.size ≤ l → W.heap[l]? = some o → o.isCells = false → o.isWalk = false → Kp W (W.putObj l o'))
  (hKo : ∀ W W', KeepsOthers W W' → Below w.heap.size W W' → Kp W W')
  (hseq : SeqStopsK F (n - 1 - 1) Tryz.prog g lb (fun x : Int => #[Value.int .u32 x]) Kp S Sp N w) :
  CallsIn F n Tryz.prog 102 #[.func (.func g) #[] lb] w fun e w' => ∃ (v : Value) (ss : List Int), e = .returned v ∧ S ss ∧ ss.length ≤ N ∧ w'.ownsRow w.heap.size 38 1 v ss.length (ss.map (Value.int .u32)) ∧ (v = .slice none 0 0 ↔ ss = []) ∧ Below w.heap.size w w' := by
 have h1 : 1 ≤ n := by omega
 refine callsIn_of_wp Tryz.func102 rfl (hF _) ?_ hro
 simp only [Tryz.ntmps102, List.size_toArray, List.length_cons, List.length_nil, Nat.reduceAdd, Nat.reduceSub, Array.replicate_succ, Array.replicate_zero, List.push_toArray, List.append_toArray, List.nil_append, List.cons_append]
 gi_wp2_with (gi_at_call 124; refine (append_u F hF (n - 1) hro (by omega) g lb eg Kp S Sp N hN hNb _ hKt hKb hKo hseq).mono ?_; rintro e w' ⟨v, ss, rfl, hS, hlen, hrow, hnil, hb⟩)
 go_ret
 exact ⟨v, ss, rfl, hS, hlen, hrow, hnil, hb⟩
def Sorts_u (F : Fence) (m : Nat) : Prop :=
 (∀ (blk off cap : Nat) (ss : List Int) (W : World), Holds (Value.int .u32) W blk off ss.toArray → blk < W.heap.size → ss.length < 4611686018427387904 →
  CallsIn F m Tryz.prog 103 #[.slice (some ⟨blk, off, none⟩) ss.length cap] W fun e w' => e = .returned (.tuple #[]) ∧ ∃ k os, w' = grow (putRow (Value.int .u32) (Sort.ahead W k) blk off (ss.mergeSort fun x y => decide (x ≤ y)).toArray) os) ∧
 (∀ (p : Option Addr) (cap : Nat) (W : World), CallsIn F m Tryz.prog 103 #[.slice p 0 cap] W fun e w' => e = .returned (.tuple #[]) ∧ w' = W)
set_option maxRecDepth 100000 in
set_option maxHeartbeats 2000000 in
theorem sorted_u (F : Fence) (hF : ∀ f, F.fn f) (n : Nat) (hro : F.round = none) (hn : 4 ≤ n) (hsort : Sorts_u F (n - 1)) (g : Nat) (lb : Array Value) (eg : ∀ args w, (callFunc g args).run Tryz.prog w = .ok (.enter g args) w)
  (Kp : World → World → Prop) (S Sp : List Int → Prop) (N : Nat) (hN : N ≤ maxLen) (hNb : N * 4 ≤ 140737488355328) (w : World)
  (hKt : ∀ {A B C : World}, Kp A B → Kp B C → Kp A C) (hKb : ∀ (W : World) (l : Nat) (o o' : Obj), w.heap.size ≤ l → W.heap[l]? = some o → o.isCells = false → o.isWalk = false → Kp W (W.putObj l o'))
  (hKo : ∀ W W', KeepsOthers W W' → Below w.heap.size W W' → Kp W W')
  (hseq : SeqStopsK F (n - 1 - 1 - 1) Tryz.prog g lb (fun x : Int => #[Value.int .u32 x]) Kp S Sp N w) :
  CallsIn F n Tryz.prog 74 #[.func (.func g) #[] lb] w fun e w' => ∃ (v : Value) (ss : List Int), e = .returned v ∧ S ss ∧ ss.length ≤ N ∧
   w'.ownsRow w.heap.size 38 1 v ss.length ((ss.mergeSort (fun x y => decide (x ≤ y))).map (Value.int .u32)) ∧ (v = .slice none 0 0 ↔ ss = []) ∧ Below w.heap.size w w' := by
 have h1 : 1 ≤ n := by omega
 have hN2 : N < 4611686018427387904 := by omega
 refine callsIn_of_wp Tryz.func74 rfl (hF _) ?_ hro
 simp only [Tryz.ntmps74, List.size_toArray, List.length_cons, List.length_nil, Nat.reduceAdd, Nat.reduceSub, Array.replicate_succ, Array.replicate_zero, List.push_toArray, List.append_toArray, List.nil_append, List.cons_append]
 gi_wp2_with (gi_at_call 102; refine (collect_u F hF (n - 1) hro (by omega) g lb eg Kp S Sp N hN hNb _ hKt hKb hKo hseq).mono ?_; rintro e W ⟨v, ss, rfl, hS, hlen, hrow, hnil, hb⟩)
 rcases hrow.2 with ⟨rfl, hz⟩ | ⟨gb, cap, cur, rfl, hbase, hgb, r1, r2, r3, r4⟩
 ·have hss : ss = [] := List.eq_nil_of_length_eq_zero hz
  subst hss
  gi_wp2_with (gi_at_call 103; refine (hsort.2 none 0 W).mono ?_; rintro e w' ⟨rfl, rfl⟩)
  go_ret
  exact ⟨.slice none 0 0, [], rfl, hS, by simp, by simpa using hrow, by simp, hb⟩
 ·have hH : Holds (Value.int .u32) W gb 0 ss.toArray := xD _ hgb (by simpa using r4)
  have hgl : gb < W.heap.size := (Array.getElem?_eq_some_iff.1 hgb).1
  have cS := hsort.1 gb 0 cap ss W hH hgl (by omega)
  gi_wp2_with (gi_at_call 103; refine cS.mono ?_; rintro e w' ⟨rfl, nn, os, rfl⟩)
  go_ret
  exact ⟨_, ss, rfl, hS, hlen, aL _ (by simp) hbase hgb r1 r2 r3, hnil, hb.grown (aP _ _) hb.size (fun j hj => by cases hj; exact hbase)⟩
theorem oP : (Tryz.prog.info? 3).map (fun i => (i.zero, i.size, i.bytes)) = some (some (.int .i64 0), 1, 8) := by kernel_rfl
set_option maxRecDepth 100000 in
set_option maxHeartbeats 2000000 in
theorem append_i (F : Fence) (hF : ∀ f, F.fn f) (n : Nat) (hro : F.round = none) (hn : 2 ≤ n) (g : Nat) (lb : Array Value) (eg : ∀ args w, (callFunc g args).run Tryz.prog w = .ok (.enter g args) w)
  (Kp : World → World → Prop) (S Sp : List Int → Prop) (N : Nat) (hN : N ≤ maxLen) (hNb : N * 8 ≤ 140737488355328) (w : World)
  (hKt : ∀ {A B C : World}, Kp A B → Kp B C → Kp A C) (hKb : ∀ (W : World) (l : Nat) (o o' : Obj), w.heap.size ≤ l → W.heap[l]? = some o → o.isCells = false → o.isWalk = false → Kp W (W.putObj l o'))
  (hKo : ∀ W W', KeepsOthers W W' → Below w.heap.size W W' → Kp W W')
  (hseq : SeqStopsK F (n - 1) Tryz.prog g lb (fun x : Int => #[Value.int .i64 x]) Kp S Sp N w) :
  CallsIn F n Tryz.prog 99 #[.slice none 0 0, .func (.func g) #[] lb] w fun e w' => ∃ (v : Value) (ss : List Int), e = .returned v ∧ S ss ∧ ss.length ≤ N ∧ w'.ownsRow w.heap.size 3 1 v ss.length (ss.map (Value.int .i64)) ∧ (v = .slice none 0 0 ↔ ss = []) ∧ Below w.heap.size w w' := by
 have h1 : 1 ≤ n := by omega
 obtain ⟨i0, hi, hz0, hz1, hz2⟩ := info_parts oP
 refine callsIn_of_wp_marks Tryz.func99 rfl (hF _) ?_ hro
 simp only [Tryz.ntmps99, List.size_toArray, List.length_cons, List.length_nil, Nat.reduceAdd, Nat.reduceSub, Array.replicate_succ, Array.replicate_zero, List.push_toArray, List.append_toArray, List.nil_append, List.cons_append]
 gi_wp2
 have bO := Boxed.new w 23 (.slice none 0 0)
 have hB0 : Below w.heap.size w (w.alloc (.cells #[.slice none 0 0] 23)) := (Below.refl _ w).alloc (Nat.le_refl _) _
 refine wpIn_rangeFunc_ownG hro h1 (gf := g) (lb := lb) rfl (hF _) eg (N := N) hseq hKt (fun W l o o' hl h1 h2 h3 => hKb W l o o' (by simp at hl; omega) h1 h2 h3) hB0 (fun _ => rfl)
  (fun pre W => ((∃ v, Boxed W w.heap.size 23 v ∧ W.ownsRow w.heap.size 3 1 v pre.length (pre.map (Value.int .i64)) ∧ (v = .slice none 0 0 ↔ pre = [])) ∧ Below w.heap.size w W) ∧ pre.length ≤ N)
  (fun _ _ _ => False)
  (OwnFrom.and (OwnFrom.and (Own.from (holdsRow_own w.heap.size w.heap.size 23 3 1 (fun pre : List Int => pre.length) (fun pre => pre.map (Value.int .i64)) (fun pre v => v = .slice none 0 0 ↔ pre = [])) _) (ownFrom_below (Nat.le_refl _) (by simp))) (fun _ _ _ _ hs _ _ => hs))
  (fun _ _ _ _ _ hs _ _ => hs)
  ⟨⟨⟨_, bO, World.ownsRow_nil _ _ _ _, by simp⟩, hB0⟩, by simp⟩
  (fun x => { tmps := #[.slice none 0 0, .func (.func g) #[] lb, .pointer (some ⟨w.heap.size, 0, none⟩), undef, .slice none 0 0, .int .i64 x, .func (.func g) #[] lb, .int .i64 x, undef, undef, undef, undef, undef], defers := [] }) ?assign ?body ?done ?stop
 case assign =>
  intro l x W K hK
  gi_wp2_with (rw [Oper.semAt_eq _ _ _ (fun c h => by cases h)]; go_simp; try go_bits)
  exact hK
 case body =>
  rintro l pre x W ⟨⟨⟨v, hv, hrow, hnil⟩, hB⟩, _⟩ hlt
  have hc := hv.cell
  gi_wp2_with (first | (gi_at_builtin; refine wpListIn_append_own _ rfl _ _ 23 rfl w.heap.size 3 i0 (.int .i64 0) 1 8 Tryz.underlying23 hi hz0 hz1 hz2 rfl (by decide) _ _ _ rfl (hrow.alloc _) ⟨W.heap.size, 0, none⟩ 1 1 [.int .i64 x] rfl rfl (cell_one_new _ _ _) (by simp [Value.oneCell']) (by omega) (by omega) (by have := hB.size; simp; omega) ?_; intro v' w1 hown' hgrow _; obtain ⟨g', cap', rfl⟩ := ownsRow_succ hown'; obtain ⟨hv1, hv2, hr2, hk2, hb2⟩ := hv.appended (by decide) hrow hB.size (Nat.le_refl _) hown' hgrow; have hc1 := hv1.cell; have hf1 := hv1.frozen; go_frame) | (rw [Oper.semAt_eq _ _ _ (fun c h => by cases h)]; go_simp; try go_bits))
  exact ⟨hk2.from _, hKo _ _ hk2 hb2, ⟨⟨_, hv2, by simpa using hr2, by simp⟩, hB.trans hb2⟩, by simp; omega⟩
 case done =>
  rintro D ys W hD hS ⟨⟨⟨v, hv, hrow, hnil⟩, hB⟩, hlen⟩ hK
  have hc := hv.cell
  gi_wp2
  refine ⟨by simp, .inl ⟨_, _, rfl, run_takeDeferred hK, ?_⟩⟩
  exact ⟨_, results_tmp rfl _ _ _, v, ys, rfl, hS, hlen, ownsRow_putObj hrow _ hK rfl, hnil, hB.trans (belowK_b (w := w) (Nat.le_refl _) W D _ _ (by simp at hD; omega) hK rfl rfl)⟩
 case stop =>
  rintro D c pre W _ _ h _
  exact h.elim
set_option maxHeartbeats 1000000 in
theorem collect_i (F : Fence) (hF : ∀ f, F.fn f) (n : Nat) (hro : F.round = none) (hn : 3 ≤ n) (g : Nat) (lb : Array Value) (eg : ∀ args w, (callFunc g args).run Tryz.prog w = .ok (.enter g args) w)
  (Kp : World → World → Prop) (S Sp : List Int → Prop) (N : Nat) (hN : N ≤ maxLen) (hNb : N * 8 ≤ 140737488355328) (w : World)
  (hKt : ∀ {A B C : World}, Kp A B → Kp B C → Kp A C) (hKb : ∀ (W : World) (l : Nat) (o o' : Obj), w.heap.size ≤ l → W.heap[l]? = some o → o.isCells = false → o.isWalk = false → Kp W (W.putObj l o'))
  (hKo : ∀ W W', KeepsOthers W W' → Below w.heap.size W W' → Kp W W')
  (hseq : SeqStopsK F (n - 1 - 1) Tryz.prog g lb (fun x : Int => #[Value.int .i64 x]) Kp S Sp N w) :
  CallsIn F n Tryz.prog 70 #[.func (.func g) #[] lb] w fun e w' => ∃ (v : Value) (ss : List Int), e = .returned v ∧ S ss ∧ ss.length ≤ N ∧ w'.ownsRow w.heap.size 3 1 v ss.length (ss.map (Value.int .i64)) ∧ (v = .slice none 0 0 ↔ ss = []) ∧ Below w.heap.size w w' := by
 have h1 : 1 ≤ n := by omega
 refine callsIn_of_wp Tryz.func70 rfl (hF _) ?_ hro
 simp only [Tryz.ntmps70, List.size_toArray, List.length_cons, List.length_nil, Nat.reduceAdd, Nat.reduceSub, Array.replicate_succ, Array.replicate_zero, List.push_toArray, List.append_toArray, List.nil_append, List.cons_append]
 gi_wp2_with (gi_at_call 99; refine (append_i F hF (n - 1) hro (by omega) g lb eg Kp S Sp N hN hNb _ hKt hKb hKo hseq).mono ?_; rintro e w' ⟨v, ss, rfl, hS, hlen, hrow, hnil, hb⟩)
 go_ret
 exact ⟨v, ss, rfl, hS, hlen, hrow, hnil, hb⟩
def Sorts_i (F : Fence) (m : Nat) : Prop :=
 (∀ (blk off cap : Nat) (ss : List Int) (W : World), Holds (Value.int .i64) W blk off ss.toArray → blk < W.heap.size → ss.length < 4611686018427387904 →
  CallsIn F m Tryz.prog 71 #[.slice (some ⟨blk, off, none⟩) ss.length cap] W fun e w' => e = .returned (.tuple #[]) ∧ ∃ k os, w' = grow (putRow (Value.int .i64) (Sort.ahead W k) blk off (ss.mergeSort fun x y => decide (x ≤ y)).toArray) os) ∧
 (∀ (p : Option Addr) (cap : Nat) (W : World), CallsIn F m Tryz.prog 71 #[.slice p 0 cap] W fun e w' => e = .returned (.tuple #[]) ∧ w' = W)
set_option maxRecDepth 100000 in
set_option maxHeartbeats 2000000 in
theorem sorted_i (F : Fence) (hF : ∀ f, F.fn f) (n : Nat) (hro : F.round = none) (hn : 4 ≤ n) (hsort : Sorts_i F (n - 1)) (g : Nat) (lb : Array Value) (eg : ∀ args w, (callFunc g args).run Tryz.prog w = .ok (.enter g args) w)
  (Kp : World → World → Prop) (S Sp : List Int → Prop) (N : Nat) (hN : N ≤ maxLen) (hNb : N * 8 ≤ 140737488355328) (w : World)
  (hKt : ∀ {A B C : World}, Kp A B → Kp B C → Kp A C) (hKb : ∀ (W : World) (l : Nat) (o o' : Obj), w.heap.size ≤ l → W.heap[l]? = some o → o.isCells = false → o.isWalk = false → Kp W (W.putObj l o'))
  (hKo : ∀ W W', KeepsOthers W W' → Below w.heap.size W W' → Kp W W')
  (hseq : SeqStopsK F (n - 1 - 1 - 1) Tryz.prog g lb (fun x : Int => #[Value.int .i64 x]) Kp S Sp N w) :
  CallsIn F n Tryz.prog 48 #[.func (.func g) #[] lb] w fun e w' => ∃ (v : Value) (ss : List Int), e = .returned v ∧ S ss ∧ ss.length ≤ N ∧
   w'.ownsRow w.heap.size 3 1 v ss.length ((ss.mergeSort (fun x y => decide (x ≤ y))).map (Value.int .i64)) ∧ (v = .slice none 0 0 ↔ ss = []) ∧ Below w.heap.size w w' := by
 have h1 : 1 ≤ n := by omega
 have hN2 : N < 4611686018427387904 := by omega
 refine callsIn_of_wp Tryz.func48 rfl (hF _) ?_ hro
 simp only [Tryz.ntmps48, List.size_toArray, List.length_cons, List.length_nil, Nat.reduceAdd, Nat.reduceSub, Array.replicate_succ, Array.replicate_zero, List.push_toArray, List.append_toArray, List.nil_append, List.cons_append]
 gi_wp2_with (gi_at_call 70; refine (collect_i F hF (n - 1) hro (by omega) g lb eg Kp S Sp N hN hNb _ hKt hKb hKo hseq).mono ?_; rintro e W ⟨v, ss, rfl, hS, hlen, hrow, hnil, hb⟩)
 rcases hrow.2 with ⟨rfl, hz⟩ | ⟨gb, cap, cur, rfl, hbase, hgb, r1, r2, r3, r4⟩
 ·have hss : ss = [] := List.eq_nil_of_length_eq_zero hz
  subst hss
  gi_wp2_with (gi_at_call 71; refine (hsort.2 none 0 W).mono ?_; rintro e w' ⟨rfl, rfl⟩)
  go_ret
  exact ⟨.slice none 0 0, [], rfl, hS, by simp, by simpa using hrow, by simp, hb⟩
 ·have hH : Holds (Value.int .i64) W gb 0 ss.toArray := xD _ hgb (by simpa using r4)
  have hgl : gb < W.heap.size := (Array.getElem?_eq_some_iff.1 hgb).1
  have cS := hsort.1 gb 0 cap ss W hH hgl (by omega)
  gi_wp2_with (gi_at_call 71; refine cS.mono ?_; rintro e w' ⟨rfl, nn, os, rfl⟩)
  go_ret
  exact ⟨_, ss, rfl, hS, hlen, aL _ (by simp) hbase hgb r1 r2 r3, hnil, hb.grown (aP _ _) hb.size (fun j hj => by cases hj; exact hbase)⟩
theorem sorts_i (m : Nat) : Sorts_i Fence.wide m :=
 ⟨fun blk off cap ss W hH hblk hsz => callsIn_wide.2 (Tryz.slices_Sort_int blk off cap ss W hH hblk hsz), fun p cap W => callsIn_wide.2 (Tryz.slices_Sort_int_none p cap W)⟩
end Go.Proofs.YtnkocjkkefnelaaGreat
namespace Go.Proofs
open Go.Shelf
def Tryz.sortPairs_ren : Go.Shelf.Ren := ⟨fun | 6 => 95 | 15 => 101 | 14 => 112 | 28 => 122 | 29 => 123 | 20 => 149 | 21 => 150 | 22 => 151 | 23 => 152 | 24 => 153 | 25 => 154 | 26 => 155 | 27 => 156 | 46 => 173 | 47 => 158 | 48 => 159 | 49 => 174 | 50 => 175 | 57 => 182 | n => n, fun | 22 => 51 | 24 => 73 | 25 => 98 | 3 => 3 | 39 => 125 | 0 => 0 | 53 => 38 | 55 => 142 | 4 => 4 | 46 => 135 | 45 => 134 | 50 => 89 | 5 => 5 | 9 => 9 | 66 => 153 | 70 => 157 | 76 => 170 | 77 => 171 | n => n, fun | n => n⟩
theorem Tryz.sortPairs : Go.Proofs.SlLaysF0.n6 Tryz.prog Tryz.sortPairs_ren := {
 mixed := by kernel_rfl
 f6 := ⟨Tryz.f95.name, by decide, Tryz.func95.trans (congrArg some (by kernel_rfl))⟩
 f14 := ⟨Tryz.f112.name, by decide, Tryz.func112.trans (congrArg some (by kernel_rfl))⟩
 f15 := Tryz.func101.trans (congrArg some (by kernel_rfl))
 f20 := ⟨Tryz.f149.name, by decide, Tryz.func149.trans (congrArg some (by kernel_rfl))⟩
 f21 := ⟨Tryz.f150.name, by decide, Tryz.func150.trans (congrArg some (by kernel_rfl))⟩
 f22 := ⟨Tryz.f151.name, by decide, Tryz.func151.trans (congrArg some (by kernel_rfl))⟩
 f23 := ⟨Tryz.f152.name, by decide, Tryz.func152.trans (congrArg some (by kernel_rfl))⟩
 f24 := ⟨Tryz.f153.name, by decide, Tryz.func153.trans (congrArg some (by kernel_rfl))⟩
 f25 := ⟨Tryz.f154.name, by decide, Tryz.func154.trans (congrArg some (by kernel_rfl))⟩
 f26 := ⟨Tryz.f155.name, by decide, Tryz.func155.trans (congrArg some (by kernel_rfl))⟩
 f27 := ⟨Tryz.f156.name, by decide, Tryz.func156.trans (congrArg some (by kernel_rfl))⟩
 f28 := Tryz.func122.trans (congrArg some (by kernel_rfl))
 f29 := Tryz.func123.trans (congrArg some (by kernel_rfl))
 f46 := ⟨Tryz.f173.name, by decide, Tryz.func173.trans (congrArg some (by kernel_rfl))⟩
 f47 := Tryz.func158.trans (congrArg some (by kernel_rfl))
 f48 := Tryz.func159.trans (congrArg some (by kernel_rfl))
 f49 := ⟨Tryz.f174.name, by decide, Tryz.func174.trans (congrArg some (by kernel_rfl))⟩
 f50 := ⟨Tryz.f175.name, by decide, Tryz.func175.trans (congrArg some (by kernel_rfl))⟩
 f57 := ⟨Tryz.f182.name, by decide, Tryz.func182.trans (congrArg some (by kernel_rfl))⟩
 t0 := Tryz.underlying0
 a0 := Tryz.isAgg0
 z0 := Tryz.sizeOf0
 v0 := Tryz.zeroValue0
 t3 := Tryz.underlying3
 a3 := Tryz.isAgg3
 z3 := Tryz.sizeOf3
 v3 := Tryz.zeroValue3
 t4 := Tryz.underlying4
 a4 := Tryz.isAgg4
 z4 := Tryz.sizeOf4
 v4 := Tryz.zeroValue4
 t5 := Tryz.underlying5
 a5 := Tryz.isAgg5
 z5 := Tryz.sizeOf5
 v5 := Tryz.zeroValue5
 t9 := Tryz.underlying9
 a9 := Tryz.isAgg9
 z9 := Tryz.sizeOf9
 v9 := Tryz.zeroValue9
 t22 := Tryz.underlying51
 a22 := Tryz.isAgg51
 z22 := Tryz.sizeOf51
 v22 := Tryz.zeroValue51
 t25 := Tryz.underlying98
 a25 := Tryz.isAgg98
 z25 := Tryz.sizeOf98
 v25 := Tryz.zeroValue98
 t39 := Tryz.underlying125
 a39 := Tryz.isAgg125
 z39 := Tryz.sizeOf125
 v39 := Tryz.zeroValue125
 t45 := Tryz.underlying134
 a45 := Tryz.isAgg134
 z45 := Tryz.sizeOf134
 v45 := Tryz.zeroValue134
 t46 := Tryz.underlying135
 a46 := Tryz.isAgg135
 z46 := Tryz.sizeOf135
 v46 := Tryz.zeroValue135
 t50 := Tryz.underlying89
 a50 := Tryz.isAgg89
 z50 := Tryz.sizeOf89
 v50 := Tryz.zeroValue89
 t53 := Tryz.underlying38
 a53 := Tryz.isAgg38
 z53 := Tryz.sizeOf38
 v53 := Tryz.zeroValue38
 t55 := Tryz.underlying142
 a55 := Tryz.isAgg142
 z55 := Tryz.sizeOf142
 v55 := Tryz.zeroValue142
 t66 := Tryz.underlying153
 a66 := Tryz.isAgg153
 z66 := Tryz.sizeOf153
 v66 := Tryz.zeroValue153
 t70 := Tryz.underlying157
 a70 := Tryz.isAgg157
 z70 := Tryz.sizeOf157
 v70 := Tryz.zeroValue157
 t76 := Tryz.underlying170
 a76 := Tryz.isAgg170
 z76 := Tryz.sizeOf170
 v76 := Tryz.zeroValue170
 t77 := Tryz.underlying171
 a77 := Tryz.isAgg171
 z77 := Tryz.sizeOf171
 v77 := Tryz.zeroValue171 }
end Go.Proofs
namespace Go.Proofs.YtnkocjkkefnelaaGreat
open Go.RowKit Go.Shelf Go.Maps Go.Sort
abbrev P2 := Fin 65536 × Fin 65536
def encP (x : P2) : List Value := [.int .i64 (x.1.val : Int), .int .i64 (x.2.val : Int)]
def aggP (x : P2) : Value := .agg #[.int .i64 (x.1.val : Int), .int .i64 (x.2.val : Int)]
def cmpP (x y : P2) : Int := if x.1.val = y.1.val then (x.2.val : Int) - (y.2.val : Int) else (x.1.val : Int) - (y.1.val : Int)
def ltP (x y : P2) : Bool := decide (x.1.val < y.1.val ∨ (x.1.val = y.1.val ∧ x.2.val < y.2.val))
theorem yN (x y : P2) : ltOf cmpP x y = ltP x y := by
 unfold ltOf ltP cmpP
 by_cases h : x.1.val = y.1.val
 ·rw [if_pos h]
  refine decide_eq_decide.2 ?_
  omega
 ·rw [if_neg h]
  refine decide_eq_decide.2 ?_
  omega
theorem swoP : SWO (ltOf cmpP) where
 irrefl x := by rw [yN]; simp [ltP]
 trans x y z h1 h2 := by rw [yN] at *; simp only [ltP, decide_eq_true_eq] at *; omega
 ntrans x y z h1 h2 := by rw [yN] at *; simp only [ltP, decide_eq_false_iff_not] at *; omega
set_option maxHeartbeats 1000000 in
theorem cmpP_c (x y : P2) (W : World) : Calls Tryz.prog 106 #[aggP x, aggP y] W fun e w' => e = .returned (.int .i64 (cmpP x y)) ∧ ∃ q os', w' = grow (W.drewN q) os' := by
 obtain ⟨⟨a, ha⟩, ⟨b, hb⟩⟩ := x
 obtain ⟨⟨c, hc⟩, ⟨d, hd⟩⟩ := y
 unfold aggP cmpP
 dsimp only
 by_cases h : a = c
 ·rw [if_pos h]
  subst h
  have h1 : ((a : Int) != (a : Int)) = false := by simp
  go_enter Tryz.func106, Tryz.ntmps106
  go_wp2
  go_ret
  exact ⟨rfl, 0, _, by rw [alloc_eq_grow, alloc_eq_grow, grow_grow]; rfl⟩
 ·rw [if_neg h]
  have h1 : ((a : Int) != (c : Int)) = true := by simp; omega
  have h2 : (a != c) = true := by simpa using h
  clear h
  go_enter Tryz.func106, Tryz.ntmps106
  go_wp2
  go_ret
  exact ⟨rfl, 0, _, by rw [alloc_eq_grow, alloc_eq_grow, grow_grow]; rfl⟩
theorem cmpLaysP (blk off size : Nat) (w : World) : CmpLays Tryz.prog 106 #[] encP 2 cmpP blk off size w :=
 fun _ _ _ _ x y => cmpP_c x y _
theorem sortPairs_c (blk off cap : Nat) (d : Array P2) (w : World) (hH : HoldsK encP 2 w blk off d) (hblk : blk < w.heap.size) (hsz : d.size < 4611686018427387904) :
  Calls Tryz.prog 95 #[.slice (some ⟨blk, off, none⟩) d.size cap, .func (.func 106) #[] #[]] w fun e w' => e = .returned (.tuple #[]) ∧ ∃ d' n os, PermIn 0 d.size d d' ∧ SortedIn ltP 0 d.size d' ∧ w' = sortWorldK encP 2 w blk off n d' os := by
 have h := AnyQ.slices_SortFunc Tryz.sortPairs 2 Tryz.isAgg73 Tryz.sizeOf73 encP (fun _ => rfl) (fun x v hv => by simp [encP] at hv; rcases hv with rfl | rfl <;> rfl) cmpP swoP 106 #[] blk off cap d w (enters_of Tryz.func106 (by kernel_rfl) rfl) (cmpLaysP blk off d.size w) hH hblk hsz
 refine Calls.mono h ?_
 rintro e w' ⟨he, d', n, os, hp, hs, hw⟩
 exact ⟨he, d', n, os, hp, fun i j h1 h2 h3 => by rw [← yN]; exact hs i j h1 h2 h3, hw⟩
theorem aT (p : Option Addr) (cap : Nat) (fv : Value) (w : World) :
  Calls Tryz.prog 95 #[.slice p 0 cap, fv] w fun e w' => e = .returned (.tuple #[]) ∧ w' = w := AnyF.slices_SortFunc_none Tryz.sortPairs p cap fv w
open Go.RowKit Go.Shelf Go.Maps Go.Sort
def flatP (l : List P2) : List Value := l.flatMap encP
theorem flatP_snoc (l : List P2) (x : P2) : flatP (l ++ [x]) = flatP l ++ [.int .i64 (x.1.val : Int), .int .i64 (x.2.val : Int)] := by
 simp [flatP, encP, List.flatMap_append]
theorem eB (l : List P2) : (flatP l).length = l.length * 2 := by
 unfold flatP
 induction l with
 | nil => rfl
 | cons x r ih => simp [encP, ih]; omega
theorem qS : (Tryz.prog.info? 73).map (fun i => (i.zero, i.size, i.bytes)) = some (some (.agg #[.int .i64 0, .int .i64 0]), 2, 16) := by kernel_rfl
theorem cell_two_at {W : World} {p : Nat} {u v : Value} {t : TypeId} (h : W.heap[p]? = some (.cells #[u, v] t (0, 0))) : W.cell? ⟨p, 0, none⟩ = some u ∧ W.cell? ⟨p, 1, none⟩ = some v := by
 constructor <;> simp [World.cell?, h]
theorem cell_two_new' (W : World) (u v : Value) (t : TypeId) : ∀ j x, [u, v][j]? = some x → (W.alloc (.cells #[u, v] t)).cell? ((⟨W.heap.size, 0, none⟩ : Addr).add j) = some x := by
 intro j x h
 match j, h with
 | 0, h => simp at h; subst h; simp [Addr.add]
 | 1, h => simp at h; subst h; simp [Addr.add]
set_option maxRecDepth 100000 in
set_option maxHeartbeats 2000000 in
theorem append_p (F : Fence) (hF : ∀ f, F.fn f) (n : Nat) (hro : F.round = none) (hn : 2 ≤ n) (g : Nat) (lb : Array Value) (eg : ∀ args w, (callFunc g args).run Tryz.prog w = .ok (.enter g args) w)
  (Kp : World → World → Prop) (S Sp : List P2 → Prop) (N : Nat) (hN : N ≤ 4294967296) (w : World)
  (hKt : ∀ {A B C : World}, Kp A B → Kp B C → Kp A C) (hKb : ∀ (W : World) (l : Nat) (o o' : Obj), w.heap.size ≤ l → W.heap[l]? = some o → o.isCells = false → o.isWalk = false → Kp W (W.putObj l o'))
  (hKo : ∀ W W', KeepsOthers W W' → Below w.heap.size W W' → Kp W W')
  (hseq : SeqStopsK F (n - 1) Tryz.prog g lb (fun x : P2 => #[.agg #[.int .i64 (x.1.val : Int), .int .i64 (x.2.val : Int)]]) Kp S Sp N w) :
  CallsIn F n Tryz.prog 111 #[.slice none 0 0, .func (.func g) #[] lb] w fun e w' => ∃ (v : Value) (ss : List P2), e = .returned v ∧ S ss ∧ ss.length ≤ N ∧ w'.ownsRow w.heap.size 73 2 v ss.length (flatP ss) ∧ (v = .slice none 0 0 ↔ ss = []) ∧ Below w.heap.size w w' := by
 have h1 : 1 ≤ n := by omega
 obtain ⟨i0, hi, jz0, jz1, jz2⟩ := info_parts qS
 refine callsIn_of_wp_marks Tryz.func111 rfl (hF _) ?_ hro
 simp only [Tryz.ntmps111, List.size_toArray, List.length_cons, List.length_nil, Nat.reduceAdd, Nat.reduceSub, Array.replicate_succ, Array.replicate_zero, List.push_toArray, List.append_toArray, List.nil_append, List.cons_append]
 gi_wp2
 have bO := Boxed.new w 51 (.slice none 0 0)
 have hB0 : Below w.heap.size w (w.alloc (.cells #[.slice none 0 0] 51)) := (Below.refl _ w).alloc (Nat.le_refl _) _
 refine wpIn_rangeFunc_ownH hro h1 (gf := g) (lb := lb) rfl (hF _) eg (N := N) hseq hKt (fun W l o o' hl h1 h2 h3 => hKb W l o o' (by simp at hl; omega) h1 h2 h3) hB0 (fun _ => rfl)
  (fun pre W => ((∃ v, Boxed W w.heap.size 51 v ∧ W.ownsRow w.heap.size 73 2 v pre.length (flatP pre) ∧ (v = .slice none 0 0 ↔ pre = [])) ∧ Below w.heap.size w W) ∧ pre.length ≤ N)
  (fun _ _ _ => False)
  (OwnFrom.and (OwnFrom.and (Own.from (holdsRow_own w.heap.size w.heap.size 51 73 2 (fun pre : List P2 => pre.length) (fun pre => flatP pre) (fun pre v => v = .slice none 0 0 ↔ pre = [])) _) (ownFrom_below (Nat.le_refl _) (by simp))) (fun _ _ _ _ hs _ _ => hs))
  (fun _ _ _ _ _ hs _ _ => hs)
  ⟨⟨⟨_, bO, World.ownsRow_nil _ _ _ _, by simp⟩, hB0⟩, by simp⟩
  (fun x a' W => ∃ p, w.heap.size ≤ p ∧ W.heap[p]? = some (.cells #[.int .i64 (x.1.val : Int), .int .i64 (x.2.val : Int)] 73 (0, 0)) ∧ a' = { tmps := #[.slice none 0 0, .func (.func g) #[] lb, .pointer (some ⟨w.heap.size, 0, none⟩), undef, .slice none 0 0, .pointer (some ⟨p, 0, none⟩), .func (.func g) #[] lb, .agg #[.int .i64 (x.1.val : Int), .int .i64 (x.2.val : Int)], undef, undef, undef, undef, undef], defers := [] }) ?hAx ?assign ?body ?done ?stop
 case hAx =>
  rintro x a' _ W W' row ⟨p, hp, hpc, he⟩ hg hr
  refine ⟨p, hp, (hg.block p (Array.getElem?_eq_some_iff.1 hpc).1 ?_).trans hpc, he⟩
  intro e
  obtain ⟨_, o, ho, hc⟩ := hr p e.symm
  rw [hpc] at ho; cases ho; cases hc
 case assign =>
  intro l pre x W K hI hK
  gi_wp2_with (rw [Oper.semAt_eq _ _ _ (fun c h => by cases h)]; go_simp; try go_bits)
  obtain ⟨⟨⟨v, hv, hrow, hnil⟩, hB⟩, hl⟩ := hI
  refine hK _ _ ((KeepsOthers.alloc _ _).from _) (hKo _ _ (KeepsOthers.alloc _ _) ((Below.refl _ _).alloc hB.size _)) ⟨⟨⟨v, hv.alloc _, hrow.alloc _, hnil⟩, hB.alloc hB.size _⟩, hl⟩ ⟨W.heap.size, hB.size, World.alloc_heap_new W _, rfl⟩
 case body =>
  rintro l pre x a' W hl9 hr9 ⟨⟨⟨v, hv, hrow, hnil⟩, hB⟩, _⟩ ⟨p, hp, hpc, rfl⟩ hlt
  have hc := hv.cell
  obtain ⟨hp0, hp1⟩ := cell_two_at hpc
  gi_wp2_with (first | (gi_at_builtin; refine wpListIn_append_own _ rfl _ _ 51 rfl w.heap.size 73 i0 (.agg #[.int .i64 0, .int .i64 0]) 2 16 Tryz.underlying51 hi jz0 jz1 jz2 rfl (by decide) _ _ _ rfl (hrow.alloc _) ⟨W.heap.size, 0, none⟩ 1 1 [.int .i64 (x.1.val : Int), .int .i64 (x.2.val : Int)] rfl rfl (cell_two_new' _ _ _ _) (by simp [Value.oneCell']) (by unfold maxLen; omega) (by omega) (by have := hB.size; simp; omega) ?_; intro v' w1 hown' hgrow _; obtain ⟨g', cap', rfl⟩ := ownsRow_succ hown'; obtain ⟨hv1, hv2, hr2, hk2, hb2⟩ := hv.appended (by decide) hrow hB.size (Nat.le_refl _) hown' hgrow; have hc1 := hv1.cell; have hf1 := hv1.frozen; go_frame) | (rw [Oper.semAt_eq _ _ _ (fun c h => by cases h)]; go_simp; try go_bits))
  exact ⟨hk2.from _, hKo _ _ hk2 hb2, ⟨⟨_, hv2, by rw [flatP_snoc]; simpa using hr2, by simp⟩, hB.trans hb2⟩, by simp; omega⟩
 case done =>
  rintro D ys W hD hS ⟨⟨⟨v, hv, hrow, hnil⟩, hB⟩, hlen⟩ hK
  have hc := hv.cell
  gi_wp2
  refine ⟨by simp, .inl ⟨_, _, rfl, run_takeDeferred hK, ?_⟩⟩
  exact ⟨_, results_tmp rfl _ _ _, v, ys, rfl, hS, hlen, ownsRow_putObj hrow _ hK rfl, hnil, hB.trans (belowK_b (w := w) (Nat.le_refl _) W D _ _ (by simp at hD; omega) hK rfl rfl)⟩
 case stop =>
  rintro D c pre W _ _ h _
  exact h.elim
set_option maxHeartbeats 1000000 in
theorem collect_p (F : Fence) (hF : ∀ f, F.fn f) (n : Nat) (hro : F.round = none) (hn : 3 ≤ n) (g : Nat) (lb : Array Value) (eg : ∀ args w, (callFunc g args).run Tryz.prog w = .ok (.enter g args) w)
  (Kp : World → World → Prop) (S Sp : List P2 → Prop) (N : Nat) (hN : N ≤ 4294967296) (w : World)
  (hKt : ∀ {A B C : World}, Kp A B → Kp B C → Kp A C) (hKb : ∀ (W : World) (l : Nat) (o o' : Obj), w.heap.size ≤ l → W.heap[l]? = some o → o.isCells = false → o.isWalk = false → Kp W (W.putObj l o'))
  (hKo : ∀ W W', KeepsOthers W W' → Below w.heap.size W W' → Kp W W')
  (hseq : SeqStopsK F (n - 1 - 1) Tryz.prog g lb (fun x : P2 => #[.agg #[.int .i64 (x.1.val : Int), .int .i64 (x.2.val : Int)]]) Kp S Sp N w) :
  CallsIn F n Tryz.prog 94 #[.func (.func g) #[] lb] w fun e w' => ∃ (v : Value) (ss : List P2), e = .returned v ∧ S ss ∧ ss.length ≤ N ∧ w'.ownsRow w.heap.size 73 2 v ss.length (flatP ss) ∧ (v = .slice none 0 0 ↔ ss = []) ∧ Below w.heap.size w w' := by
 have h1 : 1 ≤ n := by omega
 refine callsIn_of_wp Tryz.func94 rfl (hF _) ?_ hro
 simp only [Tryz.ntmps94, List.size_toArray, List.length_cons, List.length_nil, Nat.reduceAdd, Nat.reduceSub, Array.replicate_succ, Array.replicate_zero, List.push_toArray, List.append_toArray, List.nil_append, List.cons_append]
 gi_wp2_with (gi_at_call 111; refine (append_p F hF (n - 1) hro (by omega) g lb eg Kp S Sp N hN _ hKt hKb hKo hseq).mono ?_; rintro e w' ⟨v, ss, rfl, hS, hlen, hrow, hnil, hb⟩)
 go_ret
 exact ⟨v, ss, rfl, hS, hlen, hrow, hnil, hb⟩
open Go.RowKit Go.Shelf Go.Maps Go.Sort
theorem zV : ∀ (l : List P2) (t : Nat), t < l.length * 2 → (flatP l)[t]? = some ((encP (l.getD (t / 2) default))[t % 2]!)
 | [], t, h => by simp at h
 | x :: r, 0, _ => by simp [flatP, encP]
 | x :: r, 1, _ => by simp [flatP, encP]
 | x :: r, t + 2, h => by
  have ih := zV r t (by simp at h; omega)
  have e1 : (t + 2) / 2 = t / 2 + 1 := by omega
  have e2 : (t + 2) % 2 = t % 2 := by omega
  rw [e1, e2, List.getD_cons_succ, ← ih]
  simp [flatP, encP]
theorem yH (l : List P2) : (flatK encP 2 l.toArray).toList = flatP l := by
 apply List.ext_getElem?
 intro t
 by_cases h : t < l.length * 2
 ·rw [zV l t h]
  have h2 : t / 2 < l.length := by omega
  simp [flatK, h, List.getD, h2]
 ·rw [List.getElem?_eq_none (by simp; omega), List.getElem?_eq_none (by rw [eB]; omega)]
theorem aN {w : World} {g : Nat} {cur : Array Value} {e : TypeId} {F : Array Value} (hb : w.heap[g]? = some (.cells cur e (0, 0))) (ht : cur.toList.take F.size = F.toList) : Holds id w g 0 F := by
 intro j hj
 refine ⟨?_, by simp [World.frozen?, hb]⟩
 have h1 : (cur.toList.take F.size)[j]? = F.toList[j]? := by rw [ht]
 rw [List.getElem?_take_of_lt hj] at h1
 simp only [World.cell?, hb, Nat.zero_add]
 simp only [Option.isSome_none, Bool.false_eq_true, if_false]
 rw [← Array.getElem?_toList, h1]
 simp [hj]
theorem dX {w : World} {g n : Nat} {os : Array Obj} {cur : Array Value} {e : TypeId} {fr : Nat × Nat} (F : Array Value) (hb : w.heap[g]? = some (.cells cur e fr)) :
  (grow (putRow id (Sort.ahead w n) g 0 F) os).heap[g]? = some (.cells (putCells id 0 F cur) e fr) := by
 have hg : g < w.heap.size := (Array.getElem?_eq_some_iff.1 hb).1
 rw [heap_grow_old _ _ (by simpa using hg)]
 simp [putRow, mapBlock, Sort.ahead, Array.getElem?_modify, hb, onCells]
theorem aO {w : World} {g n : Nat} {os : Array Obj} (F : Array Value) : w.grownBy (grow (putRow id (Sort.ahead w n) g 0 F) os) (some g) := by
 refine ⟨rfl, rfl, rfl, by simp, fun k hk hne => ?_⟩
 rw [heap_grow_old _ _ (by simpa using hk)]
 have : g ≠ k := fun e => hne (by rw [e])
 simp [putRow, mapBlock, Sort.ahead, Array.getElem?_modify, this]
theorem aR (cur F : Array Value) (h : F.size ≤ cur.size) : (putCells id 0 F cur).toList.take F.size = F.toList := by
 apply List.ext_getElem?
 intro j
 by_cases hj : j < F.size
 ·rw [List.getElem?_take_of_lt hj, Array.getElem?_toList]
  simp [putCells, hj, show j < cur.size by omega]
 ·rw [List.getElem?_take_eq_none (by omega), List.getElem?_eq_none (by simp; omega)]
theorem ownsRow_sortedV {w : World} {base g cap n k : Nat} {e : TypeId} {os : Array Obj} {cur F : Array Value} (hl : F.size = k * 2) (hbase : base ≤ g) (hb : w.heap[g]? = some (.cells cur e (0, 0)))
  (h1 : k ≤ cap) (h2 : cap ≤ maxLen) (h3 : cur.size = cap * 2) :
  (grow (putRow id (Sort.ahead w n) g 0 F) os).ownsRow base e 2 (.slice (some ⟨g, 0, none⟩) k cap) k F.toList :=
 ⟨by simp [hl], .inr ⟨g, cap, _, rfl, hbase, dX _ hb, h1, h2, by simp [putCells, h3], by rw [← hl]; exact aR cur F (by omega)⟩⟩
def sortP (l : List P2) : List P2 := l.mergeSort (fun x y => !ltP y x)
theorem dN (d d' : Array P2) (hp : PermIn 0 d.size d d') (hs : SortedIn ltP 0 d.size d') : d'.toList = sortP d.toList := by
 have e : ltOf cmpP = ltP := by funext x y; exact yN x y
 have sw : SWO ltP := by rw [← e]; exact swoP
 exact sorted_unique_holds sw (fun x y h1 h2 => by
  simp only [ltP, decide_eq_false_iff_not] at h1 h2
  have a : x.1 = y.1 := Fin.ext (by omega)
  have b : x.2 = y.2 := Fin.ext (by omega)
  exact Prod.ext a b) d d' hp hs
def PairsIn (B : Nat) (w : World) (s : Sl) (l : List P2) : Prop :=
 s.n = l.length ∧ l.length ≤ 1152921504606846976 ∧
 (l = [] ∨ ∃ b off, s.a = some ⟨b, off, none⟩ ∧ b < B ∧ ∀ k, k < l.length → w.cell? ⟨b, off + k * 2, none⟩ = some (.int .i64 ((l.getD k default).1.val : Int)) ∧ w.cell? ⟨b, off + k * 2 + 1, none⟩ = some (.int .i64 ((l.getD k default).2.val : Int)))
theorem PairsIn.below {B : Nat} {w w' : World} {s : Sl} {l : List P2} (h : PairsIn B w s l) (hb : Below B w w') : PairsIn B w' s l := by
 obtain ⟨h1, h2, h3⟩ := h
 refine ⟨h1, h2, ?_⟩
 rcases h3 with h3 | ⟨b, off, h4, h5, h6⟩
 ·exact Or.inl h3
 ·exact Or.inr ⟨b, off, h4, h5, fun k hk => by rw [hb.cell (by exact h5), hb.cell (by exact h5)]; exact h6 k hk⟩
theorem PairsIn.mono {B B' : Nat} {w : World} {s : Sl} {l : List P2} (h : PairsIn B w s l) (hB : B ≤ B') : PairsIn B' w s l := by
 obtain ⟨h1, h2, h3⟩ := h
 refine ⟨h1, h2, ?_⟩
 rcases h3 with h3 | ⟨b, off, h4, h5, h6⟩
 ·exact Or.inl h3
 ·exact Or.inr ⟨b, off, h4, by omega, h6⟩
end Go.Proofs.YtnkocjkkefnelaaGreat
