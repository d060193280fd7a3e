/- Parts. -/
import Derived.Deep.DeepCutAuto
import Derived.Test.YtnkocjkkefnelaaGreatPg7
set_option linter.unusedVariables false
set_option linter.unusedSimpArgs false
set_option maxHeartbeats 4000000
namespace Go.Proofs.YtnkocjkkefnelaaGreat
open Go.RowKit Go.Shelf Go.Maps Go.Sort
theorem info_u : (Tryz.prog.info? 38).map (fun i => (i.zero, i.size, i.bytes)) = some (some (.int .u32 0), 1, 4) := by kernel_rfl
set_option maxRecDepth 100000 in
set_option maxHeartbeats 2000000 in
theorem append_u (F : Fence) (hF : ∀ f, F.fn f) (n : Nat) (hro : F.round = none) (hn : 2 ≤ n) (g : Nat) (lb : Array Value) (eg : ∀ args w, (callFunc g args).run Tryz.prog w = .ok (.enter g args) w)
  (Kp : World → World → Prop) (S Sp : List Int → Prop) (N : Nat) (hN : N ≤ maxLen) (hNb : N * 4 ≤ 140737488355328) (w : World)
  (hKt : ∀ {A B C : World}, Kp A B → Kp B C → Kp A C) (hKb : ∀ (W : World) (l : Nat) (o o' : Obj), w.heap.size ≤ l → W.heap[l]? = some o → o.isCells = false → o.isWalk = false → Kp W (W.putObj l o'))
  (hKo : ∀ W W', KeepsOthers W W' → Below w.heap.size W W' → Kp W W')
  (hseq : SeqStopsK F (n - 1) Tryz.prog g lb (fun x : Int => #[Value.int .u32 x]) Kp S Sp N w) :
  CallsIn F n Tryz.prog 124 #[.slice none 0 0, .func (.func g) #[] lb] w fun e w' => ∃ (v : Value) (ss : List Int), e = .returned v ∧ S ss ∧ ss.length ≤ N ∧ w'.ownsRow w.heap.size 38 1 v ss.length (ss.map (Value.int .u32)) ∧ (v = .slice none 0 0 ↔ ss = []) ∧ Below w.heap.size w w' := by
 have h1 : 1 ≤ n := by omega
 obtain ⟨i0, hi, hz0, hz1, hz2⟩ := info_parts info_u
 refine callsIn_of_wp_marks Tryz.func124 rfl (hF _) ?_ hro
 simp only [Tryz.ntmps124, List.size_toArray, List.length_cons, List.length_nil, Nat.reduceAdd, Nat.reduceSub, Array.replicate_succ, Array.replicate_zero, List.push_toArray, List.append_toArray, List.nil_append, List.cons_append]
 gi_wp2
 have bO := Boxed.new w 59 (.slice none 0 0)
 have hB0 : Below w.heap.size w (w.alloc (.cells #[.slice none 0 0] 59)) := (Below.refl _ w).alloc (Nat.le_refl _) _
 refine wpIn_rangeFunc_ownG hro h1 (gf := g) (lb := lb) rfl (hF _) eg (N := N) hseq hKt (fun W l o o' hl h1 h2 h3 => hKb W l o o' (by simp at hl; omega) h1 h2 h3) hB0 (fun _ => rfl)
  (fun pre W => ((∃ v, Boxed W w.heap.size 59 v ∧ W.ownsRow w.heap.size 38 1 v pre.length (pre.map (Value.int .u32)) ∧ (v = .slice none 0 0 ↔ pre = [])) ∧ Below w.heap.size w W) ∧ pre.length ≤ N)
  (fun _ _ _ => False)
  (OwnFrom.and (OwnFrom.and (Own.from (holdsRow_own w.heap.size w.heap.size 59 38 1 (fun pre : List Int => pre.length) (fun pre => pre.map (Value.int .u32)) (fun pre v => v = .slice none 0 0 ↔ pre = [])) _) (ownFrom_below (Nat.le_refl _) (by simp))) (fun _ _ _ _ hs _ _ => hs))
  (fun _ _ _ _ _ hs _ _ => hs)
  ⟨⟨⟨_, bO, World.ownsRow_nil _ _ _ _, by simp⟩, hB0⟩, by simp⟩
  (fun x => { tmps := #[.slice none 0 0, .func (.func g) #[] lb, .pointer (some ⟨w.heap.size, 0, none⟩), undef, .slice none 0 0, .int .u32 x, .func (.func g) #[] lb, .int .u32 x, undef, undef, undef, undef, undef], defers := [] }) ?assign ?body ?done ?stop
 case assign =>
  intro l x W K hK
  gi_wp2_with (rw [Oper.semAt_eq _ _ _ (fun c h => by cases h)]; go_simp; try go_bits)
  exact hK
 case body =>
  rintro l pre x W ⟨⟨⟨v, hv, hrow, hnil⟩, hB⟩, _⟩ hlt
  have hc := hv.cell
  gi_wp2_with (first | (gi_at_builtin; refine wpListIn_append_own _ rfl _ _ 59 rfl w.heap.size 38 i0 (.int .u32 0) 1 4 Tryz.underlying59 hi hz0 hz1 hz2 rfl (by decide) _ _ _ rfl (hrow.alloc _) ⟨W.heap.size, 0, none⟩ 1 1 [.int .u32 x] rfl rfl (cell_one_new _ _ _) (by simp [Value.oneCell']) (by omega) (by omega) (by have := hB.size; simp; omega) ?_; intro v' w1 hown' hgrow _; obtain ⟨g', cap', rfl⟩ := ownsRow_succ hown'; obtain ⟨hv1, hv2, hr2, hk2, hb2⟩ := hv.appended (by decide) hrow hB.size (Nat.le_refl _) hown' hgrow; have hc1 := hv1.cell; have hf1 := hv1.frozen; go_frame) | (rw [Oper.semAt_eq _ _ _ (fun c h => by cases h)]; go_simp; try go_bits))
  exact ⟨hk2.from _, hKo _ _ hk2 hb2, ⟨⟨_, hv2, by simpa using hr2, by simp⟩, hB.trans hb2⟩, by simp; omega⟩
 case done =>
  rintro D ys W hD hS ⟨⟨⟨v, hv, hrow, hnil⟩, hB⟩, hlen⟩ hK
  have hc := hv.cell
  gi_wp2
  refine ⟨by simp, .inl ⟨_, _, rfl, run_takeDeferred hK, ?_⟩⟩
  exact ⟨_, results_tmp rfl _ _ _, v, ys, rfl, hS, hlen, ownsRow_putObj hrow _ hK rfl, hnil, hB.trans (belowK_b (w := w) (Nat.le_refl _) W D _ _ (by simp at hD; omega) hK rfl rfl)⟩
 case stop =>
  rintro D c pre W _ _ h _
  exact h.elim
set_option maxHeartbeats 1000000 in
theorem collect_u (F : Fence) (hF : ∀ f, F.fn f) (n : Nat) (hro : F.round = none) (hn : 3 ≤ n) (g : Nat) (lb : Array Value) (eg : ∀ args w, (callFunc g args).run Tryz.prog w = .ok (.enter g args) w)
  (Kp : World → World → Prop) (S Sp : List Int → Prop) (N : Nat) (hN : N ≤ maxLen) (hNb : N * 4 ≤ 140737488355328) (w : World)
  (hKt : ∀ {A B C : World}, Kp A B → Kp B C → Kp A C) (hKb : ∀ (W : World) (l : Nat) (o o' : Obj), w.heap.size ≤ l → W.heap[l]? = some o → o.isCells = false → o.isWalk = false → Kp W (W.putObj l o'))
  (hKo : ∀ W W', KeepsOthers W W' → Below w.heap.size W W' → Kp W W')
  (hseq : SeqStopsK F (n - 1 - 1) Tryz.prog g lb (fun x : Int => #[Value.int .u32 x]) Kp S Sp N w) :
  CallsIn F n Tryz.prog 102 #[.func (.func g) #[] lb] w fun e w' => ∃ (v : Value) (ss : List Int), e = .returned v ∧ S ss ∧ ss.length ≤ N ∧ w'.ownsRow w.heap.size 38 1 v ss.length (ss.map (Value.int .u32)) ∧ (v = .slice none 0 0 ↔ ss = []) ∧ Below w.heap.size w w' := by
 have h1 : 1 ≤ n := by omega
 refine callsIn_of_wp Tryz.func102 rfl (hF _) ?_ hro
 simp only [Tryz.ntmps102, List.size_toArray, List.length_cons, List.length_nil, Nat.reduceAdd, Nat.reduceSub, Array.replicate_succ, Array.replicate_zero, List.push_toArray, List.append_toArray, List.nil_append, List.cons_append]
 gi_wp2_with (gi_at_call 124; refine (append_u F hF (n - 1) hro (by omega) g lb eg Kp S Sp N hN hNb _ hKt hKb hKo hseq).mono ?_; rintro e w' ⟨v, ss, rfl, hS, hlen, hrow, hnil, hb⟩)
 go_ret
 exact ⟨v, ss, rfl, hS, hlen, hrow, hnil, hb⟩
def Sorts_u (F : Fence) (m : Nat) : Prop :=
 (∀ (blk off cap : Nat) (ss : List Int) (W : World), Holds (Value.int .u32) W blk off ss.toArray → blk < W.heap.size → ss.length < 4611686018427387904 →
  CallsIn F m Tryz.prog 103 #[.slice (some ⟨blk, off, none⟩) ss.length cap] W fun e w' => e = .returned (.tuple #[]) ∧ ∃ k os, w' = grow (putRow (Value.int .u32) (Sort.ahead W k) blk off (ss.mergeSort fun x y => decide (x ≤ y)).toArray) os) ∧
 (∀ (p : Option Addr) (cap : Nat) (W : World), CallsIn F m Tryz.prog 103 #[.slice p 0 cap] W fun e w' => e = .returned (.tuple #[]) ∧ w' = W)
set_option maxRecDepth 100000 in
set_option maxHeartbeats 2000000 in
theorem sorted_u (F : Fence) (hF : ∀ f, F.fn f) (n : Nat) (hro : F.round = none) (hn : 4 ≤ n) (hsort : Sorts_u F (n - 1)) (g : Nat) (lb : Array Value) (eg : ∀ args w, (callFunc g args).run Tryz.prog w = .ok (.enter g args) w)
  (Kp : World → World → Prop) (S Sp : List Int → Prop) (N : Nat) (hN : N ≤ maxLen) (hNb : N * 4 ≤ 140737488355328) (w : World)
  (hKt : ∀ {A B C : World}, Kp A B → Kp B C → Kp A C) (hKb : ∀ (W : World) (l : Nat) (o o' : Obj), w.heap.size ≤ l → W.heap[l]? = some o → o.isCells = false → o.isWalk = false → Kp W (W.putObj l o'))
  (hKo : ∀ W W', KeepsOthers W W' → Below w.heap.size W W' → Kp W W')
  (hseq : SeqStopsK F (n - 1 - 1 - 1) Tryz.prog g lb (fun x : Int => #[Value.int .u32 x]) Kp S Sp N w) :
  CallsIn F n Tryz.prog 74 #[.func (.func g) #[] lb] w fun e w' => ∃ (v : Value) (ss : List Int), e = .returned v ∧ S ss ∧ ss.length ≤ N ∧
   w'.ownsRow w.heap.size 38 1 v ss.length ((ss.mergeSort (fun x y => decide (x ≤ y))).map (Value.int .u32)) ∧ (v = .slice none 0 0 ↔ ss = []) ∧ Below w.heap.size w w' := by
 have h1 : 1 ≤ n := by omega
 have hN2 : N < 4611686018427387904 := by omega
 refine callsIn_of_wp Tryz.func74 rfl (hF _) ?_ hro
 simp only [Tryz.ntmps74, List.size_toArray, List.length_cons, List.length_nil, Nat.reduceAdd, Nat.reduceSub, Array.replicate_succ, Array.replicate_zero, List.push_toArray, List.append_toArray, List.nil_append, List.cons_append]
 gi_wp2_with (gi_at_call 102; refine (collect_u F hF (n - 1) hro (by omega) g lb eg Kp S Sp N hN hNb _ hKt hKb hKo hseq).mono ?_; rintro e W ⟨v, ss, rfl, hS, hlen, hrow, hnil, hb⟩)
 rcases hrow.2 with ⟨rfl, hz⟩ | ⟨gb, cap, cur, rfl, hbase, hgb, r1, r2, r3, r4⟩
 ·have hss : ss = [] := List.eq_nil_of_length_eq_zero hz
  subst hss
  gi_wp2_with (gi_at_call 103; refine (hsort.2 none 0 W).mono ?_; rintro e w' ⟨rfl, rfl⟩)
  go_ret
  exact ⟨.slice none 0 0, [], rfl, hS, by simp, by simpa using hrow, by simp, hb⟩
 ·have hH : Holds (Value.int .u32) W gb 0 ss.toArray := xF _ hgb (by simpa using r4)
  have hgl : gb < W.heap.size := (Array.getElem?_eq_some_iff.1 hgb).1
  have cS := hsort.1 gb 0 cap ss W hH hgl (by omega)
  gi_wp2_with (gi_at_call 103; refine cS.mono ?_; rintro e w' ⟨rfl, nn, os, rfl⟩)
  go_ret
  exact ⟨_, ss, rfl, hS, hlen, aT _ (by simp) hbase hgb r1 r2 r3, hnil, hb.grown (aW _ _) hb.size (fun j hj => by cases hj; exact hbase)⟩
theorem pW : (Tryz.prog.info? 3).map (fun i => (i.zero, i.size, i.bytes)) = some (some (.int .i64 0), 1, 8) := by kernel_rfl
set_option maxRecDepth 100000 in
set_option maxHeartbeats 2000000 in
theorem append_i (F : Fence) (hF : ∀ f, F.fn f) (n : Nat) (hro : F.round = none) (hn : 2 ≤ n) (g : Nat) (lb : Array Value) (eg : ∀ args w, (callFunc g args).run Tryz.prog w = .ok (.enter g args) w)
  (Kp : World → World → Prop) (S Sp : List Int → Prop) (N : Nat) (hN : N ≤ maxLen) (hNb : N * 8 ≤ 140737488355328) (w : World)
  (hKt : ∀ {A B C : World}, Kp A B → Kp B C → Kp A C) (hKb : ∀ (W : World) (l : Nat) (o o' : Obj), w.heap.size ≤ l → W.heap[l]? = some o → o.isCells = false → o.isWalk = false → Kp W (W.putObj l o'))
  (hKo : ∀ W W', KeepsOthers W W' → Below w.heap.size W W' → Kp W W')
  (hseq : SeqStopsK F (n - 1) Tryz.prog g lb (fun x : Int => #[Value.int .i64 x]) Kp S Sp N w) :
  CallsIn F n Tryz.prog 99 #[.slice none 0 0, .func (.func g) #[] lb] w fun e w' => ∃ (v : Value) (ss : List Int), e = .returned v ∧ S ss ∧ ss.length ≤ N ∧ w'.ownsRow w.heap.size 3 1 v ss.length (ss.map (Value.int .i64)) ∧ (v = .slice none 0 0 ↔ ss = []) ∧ Below w.heap.size w w' := by
 have h1 : 1 ≤ n := by omega
 obtain ⟨i0, hi, hz0, hz1, hz2⟩ := info_parts pW
 refine callsIn_of_wp_marks Tryz.func99 rfl (hF _) ?_ hro
 simp only [Tryz.ntmps99, List.size_toArray, List.length_cons, List.length_nil, Nat.reduceAdd, Nat.reduceSub, Array.replicate_succ, Array.replicate_zero, List.push_toArray, List.append_toArray, List.nil_append, List.cons_append]
 gi_wp2
 have bO := Boxed.new w 23 (.slice none 0 0)
 have hB0 : Below w.heap.size w (w.alloc (.cells #[.slice none 0 0] 23)) := (Below.refl _ w).alloc (Nat.le_refl _) _
 refine wpIn_rangeFunc_ownG hro h1 (gf := g) (lb := lb) rfl (hF _) eg (N := N) hseq hKt (fun W l o o' hl h1 h2 h3 => hKb W l o o' (by simp at hl; omega) h1 h2 h3) hB0 (fun _ => rfl)
  (fun pre W => ((∃ v, Boxed W w.heap.size 23 v ∧ W.ownsRow w.heap.size 3 1 v pre.length (pre.map (Value.int .i64)) ∧ (v = .slice none 0 0 ↔ pre = [])) ∧ Below w.heap.size w W) ∧ pre.length ≤ N)
  (fun _ _ _ => False)
  (OwnFrom.and (OwnFrom.and (Own.from (holdsRow_own w.heap.size w.heap.size 23 3 1 (fun pre : List Int => pre.length) (fun pre => pre.map (Value.int .i64)) (fun pre v => v = .slice none 0 0 ↔ pre = [])) _) (ownFrom_below (Nat.le_refl _) (by simp))) (fun _ _ _ _ hs _ _ => hs))
  (fun _ _ _ _ _ hs _ _ => hs)
  ⟨⟨⟨_, bO, World.ownsRow_nil _ _ _ _, by simp⟩, hB0⟩, by simp⟩
  (fun x => { tmps := #[.slice none 0 0, .func (.func g) #[] lb, .pointer (some ⟨w.heap.size, 0, none⟩), undef, .slice none 0 0, .int .i64 x, .func (.func g) #[] lb, .int .i64 x, undef, undef, undef, undef, undef], defers := [] }) ?assign ?body ?done ?stop
 case assign =>
  intro l x W K hK
  gi_wp2_with (rw [Oper.semAt_eq _ _ _ (fun c h => by cases h)]; go_simp; try go_bits)
  exact hK
 case body =>
  rintro l pre x W ⟨⟨⟨v, hv, hrow, hnil⟩, hB⟩, _⟩ hlt
  have hc := hv.cell
  gi_wp2_with (first | (gi_at_builtin; refine wpListIn_append_own _ rfl _ _ 23 rfl w.heap.size 3 i0 (.int .i64 0) 1 8 Tryz.underlying23 hi hz0 hz1 hz2 rfl (by decide) _ _ _ rfl (hrow.alloc _) ⟨W.heap.size, 0, none⟩ 1 1 [.int .i64 x] rfl rfl (cell_one_new _ _ _) (by simp [Value.oneCell']) (by omega) (by omega) (by have := hB.size; simp; omega) ?_; intro v' w1 hown' hgrow _; obtain ⟨g', cap', rfl⟩ := ownsRow_succ hown'; obtain ⟨hv1, hv2, hr2, hk2, hb2⟩ := hv.appended (by decide) hrow hB.size (Nat.le_refl _) hown' hgrow; have hc1 := hv1.cell; have hf1 := hv1.frozen; go_frame) | (rw [Oper.semAt_eq _ _ _ (fun c h => by cases h)]; go_simp; try go_bits))
  exact ⟨hk2.from _, hKo _ _ hk2 hb2, ⟨⟨_, hv2, by simpa using hr2, by simp⟩, hB.trans hb2⟩, by simp; omega⟩
 case done =>
  rintro D ys W hD hS ⟨⟨⟨v, hv, hrow, hnil⟩, hB⟩, hlen⟩ hK
  have hc := hv.cell
  gi_wp2
  refine ⟨by simp, .inl ⟨_, _, rfl, run_takeDeferred hK, ?_⟩⟩
  exact ⟨_, results_tmp rfl _ _ _, v, ys, rfl, hS, hlen, ownsRow_putObj hrow _ hK rfl, hnil, hB.trans (belowK_b (w := w) (Nat.le_refl _) W D _ _ (by simp at hD; omega) hK rfl rfl)⟩
 case stop =>
  rintro D c pre W _ _ h _
  exact h.elim
set_option maxHeartbeats 1000000 in
theorem collect_i (F : Fence) (hF : ∀ f, F.fn f) (n : Nat) (hro : F.round = none) (hn : 3 ≤ n) (g : Nat) (lb : Array Value) (eg : ∀ args w, (callFunc g args).run Tryz.prog w = .ok (.enter g args) w)
  (Kp : World → World → Prop) (S Sp : List Int → Prop) (N : Nat) (hN : N ≤ maxLen) (hNb : N * 8 ≤ 140737488355328) (w : World)
  (hKt : ∀ {A B C : World}, Kp A B → Kp B C → Kp A C) (hKb : ∀ (W : World) (l : Nat) (o o' : Obj), w.heap.size ≤ l → W.heap[l]? = some o → o.isCells = false → o.isWalk = false → Kp W (W.putObj l o'))
  (hKo : ∀ W W', KeepsOthers W W' → Below w.heap.size W W' → Kp W W')
  (hseq : SeqStopsK F (n - 1 - 1) Tryz.prog g lb (fun x : Int => #[Value.int .i64 x]) Kp S Sp N w) :
  CallsIn F n Tryz.prog 70 #[.func (.func g) #[] lb] w fun e w' => ∃ (v : Value) (ss : List Int), e = .returned v ∧ S ss ∧ ss.length ≤ N ∧ w'.ownsRow w.heap.size 3 1 v ss.length (ss.map (Value.int .i64)) ∧ (v = .slice none 0 0 ↔ ss = []) ∧ Below w.heap.size w w' := by
 have h1 : 1 ≤ n := by omega
 refine callsIn_of_wp Tryz.func70 rfl (hF _) ?_ hro
 simp only [Tryz.ntmps70, List.size_toArray, List.length_cons, List.length_nil, Nat.reduceAdd, Nat.reduceSub, Array.replicate_succ, Array.replicate_zero, List.push_toArray, List.append_toArray, List.nil_append, List.cons_append]
 gi_wp2_with (gi_at_call 99; refine (append_i F hF (n - 1) hro (by omega) g lb eg Kp S Sp N hN hNb _ hKt hKb hKo hseq).mono ?_; rintro e w' ⟨v, ss, rfl, hS, hlen, hrow, hnil, hb⟩)
 go_ret
 exact ⟨v, ss, rfl, hS, hlen, hrow, hnil, hb⟩
def Sorts_i (F : Fence) (m : Nat) : Prop :=
 (∀ (blk off cap : Nat) (ss : List Int) (W : World), Holds (Value.int .i64) W blk off ss.toArray → blk < W.heap.size → ss.length < 4611686018427387904 →
  CallsIn F m Tryz.prog 71 #[.slice (some ⟨blk, off, none⟩) ss.length cap] W fun e w' => e = .returned (.tuple #[]) ∧ ∃ k os, w' = grow (putRow (Value.int .i64) (Sort.ahead W k) blk off (ss.mergeSort fun x y => decide (x ≤ y)).toArray) os) ∧
 (∀ (p : Option Addr) (cap : Nat) (W : World), CallsIn F m Tryz.prog 71 #[.slice p 0 cap] W fun e w' => e = .returned (.tuple #[]) ∧ w' = W)
set_option maxRecDepth 100000 in
set_option maxHeartbeats 2000000 in
theorem nN (F : Fence) (hF : ∀ f, F.fn f) (n : Nat) (hro : F.round = none) (hn : 4 ≤ n) (hsort : Sorts_i F (n - 1)) (g : Nat) (lb : Array Value) (eg : ∀ args w, (callFunc g args).run Tryz.prog w = .ok (.enter g args) w)
  (Kp : World → World → Prop) (S Sp : List Int → Prop) (N : Nat) (hN : N ≤ maxLen) (hNb : N * 8 ≤ 140737488355328) (w : World)
  (hKt : ∀ {A B C : World}, Kp A B → Kp B C → Kp A C) (hKb : ∀ (W : World) (l : Nat) (o o' : Obj), w.heap.size ≤ l → W.heap[l]? = some o → o.isCells = false → o.isWalk = false → Kp W (W.putObj l o'))
  (hKo : ∀ W W', KeepsOthers W W' → Below w.heap.size W W' → Kp W W')
  (hseq : SeqStopsK F (n - 1 - 1 - 1) Tryz.prog g lb (fun x : Int => #[Value.int .i64 x]) Kp S Sp N w) :
  CallsIn F n Tryz.prog 48 #[.func (.func g) #[] lb] w fun e w' => ∃ (v : Value) (ss : List Int), e = .returned v ∧ S ss ∧ ss.length ≤ N ∧
   w'.ownsRow w.heap.size 3 1 v ss.length ((ss.mergeSort (fun x y => decide (x ≤ y))).map (Value.int .i64)) ∧ (v = .slice none 0 0 ↔ ss = []) ∧ Below w.heap.size w w' := by
 have h1 : 1 ≤ n := by omega
 have hN2 : N < 4611686018427387904 := by omega
 refine callsIn_of_wp Tryz.func48 rfl (hF _) ?_ hro
 simp only [Tryz.ntmps48, List.size_toArray, List.length_cons, List.length_nil, Nat.reduceAdd, Nat.reduceSub, Array.replicate_succ, Array.replicate_zero, List.push_toArray, List.append_toArray, List.nil_append, List.cons_append]
 gi_wp2_with (gi_at_call 70; refine (collect_i F hF (n - 1) hro (by omega) g lb eg Kp S Sp N hN hNb _ hKt hKb hKo hseq).mono ?_; rintro e W ⟨v, ss, rfl, hS, hlen, hrow, hnil, hb⟩)
 rcases hrow.2 with ⟨rfl, hz⟩ | ⟨gb, cap, cur, rfl, hbase, hgb, r1, r2, r3, r4⟩
 ·have hss : ss = [] := List.eq_nil_of_length_eq_zero hz
  subst hss
  gi_wp2_with (gi_at_call 71; refine (hsort.2 none 0 W).mono ?_; rintro e w' ⟨rfl, rfl⟩)
  go_ret
  exact ⟨.slice none 0 0, [], rfl, hS, by simp, by simpa using hrow, by simp, hb⟩
 ·have hH : Holds (Value.int .i64) W gb 0 ss.toArray := xF _ hgb (by simpa using r4)
  have hgl : gb < W.heap.size := (Array.getElem?_eq_some_iff.1 hgb).1
  have cS := hsort.1 gb 0 cap ss W hH hgl (by omega)
  gi_wp2_with (gi_at_call 71; refine cS.mono ?_; rintro e w' ⟨rfl, nn, os, rfl⟩)
  go_ret
  exact ⟨_, ss, rfl, hS, hlen, aT _ (by simp) hbase hgb r1 r2 r3, hnil, hb.grown (aW _ _) hb.size (fun j hj => by cases hj; exact hbase)⟩
theorem qP (m : Nat) : Sorts_i Fence.wide m :=
 ⟨fun blk off cap ss W hH hblk hsz => callsIn_wide.2 (Tryz.slices_Sort_int blk off cap ss W hH hblk hsz), fun p cap W => callsIn_wide.2 (Tryz.slices_Sort_int_none p cap W)⟩
structure Sl where
 a : Option Addr
 n : Nat
 c : Nat
 deriving Inhabited
def Sl.v (s : Sl) : Value := .slice s.a s.n s.c
structure Ev where
 hart : Int
 kind : Int
 addr : Int
 val : Int
 rval : Int
 aq : Bool
 rl : Bool
 pred : Int
 succ : Int
 rsv : Bool
 av : Sl
 dv : Sl
 cv : Sl
 addrs : List Int
 datas : List Int
 ctrls : List Int
 deriving Inhabited
def Ev.cells (e : Ev) : List Value := [.int .i64 e.hart, .int .i64 e.kind, .int .u32 e.addr, .int .u32 e.val, .int .u32 e.rval, .bool e.aq, .bool e.rl, .int .i64 e.pred, .int .i64 e.succ, .bool e.rsv, .slice e.av.a e.av.n e.av.c, .slice e.dv.a e.dv.n e.dv.c, .slice e.cv.a e.cv.n e.cv.c]
def Ev.agg (e : Ev) : Value := .agg #[.int .i64 e.hart, .int .i64 e.kind, .int .u32 e.addr, .int .u32 e.val, .int .u32 e.rval, .bool e.aq, .bool e.rl, .int .i64 e.pred, .int .i64 e.succ, .bool e.rsv, .slice e.av.a e.av.n e.av.c, .slice e.dv.a e.dv.n e.dv.c, .slice e.cv.a e.cv.n e.cv.c]
def Ev.small (e : Ev) : Prop := e.av.n ≤ 1152921504606846976 ∧ e.dv.n ≤ 1152921504606846976 ∧ e.cv.n ≤ 1152921504606846976
def Ev.stB (e : Ev) : Bool := e.kind == 2 || e.kind == 3 || e.kind == 5
def Ev.ldB (e : Ev) : Bool := e.kind == 1 || e.kind == 3
def Ev.bareB (e : Ev) : Bool :=
 if e.kind = 5 then e.hart == -1 && e.rval == 0 && !(decide (0 < e.av.n + e.dv.n + e.cv.n)) && !(e.pred != 0 || e.succ != 0) && !(e.aq || e.rl || e.rsv)
 else if e.kind = 1 then e.val == 0 && !(e.pred != 0 || e.succ != 0) && e.dv.n == 0
 else if e.kind = 2 then e.rval == 0 && !(e.pred != 0 || e.succ != 0)
 else if e.kind = 3 then !(e.pred != 0 || e.succ != 0) && !e.rsv
 else if e.kind = 4 then e.addr == 0 && e.val == 0 && e.rval == 0 && !(e.aq || e.rl || e.rsv) && e.av.n + e.dv.n == 0 && decide (0 ≤ e.pred) && decide (e.pred ≤ 3) && decide (0 ≤ e.succ) && decide (e.succ ≤ 3)
 else false
theorem nK (e : Ev) (w : World) :
  Calls Tryz.prog 79 #[e.agg] w fun o w' => o = .returned (.bool e.stB) ∧ Below w.heap.size w w' := by
 obtain ⟨hart, kind, addr, val, rval, aq, rl, pred, succ, rsv, av, dv, cv, _, _, _⟩ := e
 unfold Ev.agg Ev.stB
 dsimp only
 go_enter Tryz.func79, Tryz.ntmps79
 go_wp2
 all_goals
  go_ret
  exact ⟨uW (by simp_all), (Below.refl _ _).alloc (Nat.le_refl _) _⟩
theorem iA (e : Ev) (w : World) :
  Calls Tryz.prog 78 #[e.agg] w fun o w' => o = .returned (.bool e.ldB) ∧ Below w.heap.size w w' := by
 obtain ⟨hart, kind, addr, val, rval, aq, rl, pred, succ, rsv, av, dv, cv, _, _, _⟩ := e
 unfold Ev.agg Ev.ldB
 dsimp only
 go_enter Tryz.func78, Tryz.ntmps78
 go_wp2
 all_goals
  go_ret
  exact ⟨uW (by simp_all), (Below.refl _ _).alloc (Nat.le_refl _) _⟩
theorem bare_eq (e : Ev) : e.bareB =
  if e.kind == 5 then e.hart == -1 && e.rval == 0 && !(decide (0 < (e.av.n : Int) + e.dv.n + e.cv.n)) && !(e.pred != 0 || e.succ != 0) && !(e.aq || e.rl || e.rsv)
  else if e.kind == 1 then e.val == 0 && !(e.pred != 0 || e.succ != 0) && (e.dv.n : Int) == 0
  else if e.kind == 2 then e.rval == 0 && !(e.pred != 0 || e.succ != 0)
  else if e.kind == 3 then !(e.pred != 0 || e.succ != 0) && !e.rsv
  else if e.kind == 4 then e.addr == 0 && e.val == 0 && e.rval == 0 && !(e.aq || e.rl || e.rsv) && ((e.av.n : Int) + e.dv.n == 0) && decide (0 ≤ e.pred) && decide (e.pred ≤ 3) && decide (0 ≤ e.succ) && decide (e.succ ≤ 3)
  else false := by
 have h1 : decide (0 < e.av.n + e.dv.n + e.cv.n) = decide (0 < (e.av.n : Int) + e.dv.n + e.cv.n) := by congr 1; apply propext; omega
 have h2 : (e.dv.n == 0) = ((e.dv.n : Int) == 0) := by rw [Bool.eq_iff_iff]; simp
 have h3 : (e.av.n + e.dv.n == 0) = ((e.av.n : Int) + e.dv.n == 0) := by rw [Bool.eq_iff_iff]; simp; omega
 unfold Ev.bareB
 rw [h1, h2, h3]
 simp only [beq_iff_eq]
set_option maxRecDepth 100000 in
set_option maxHeartbeats 1000000 in
theorem bare_c (e : Ev) (hs : e.small) (w : World) :
  Calls Tryz.prog 76 #[e.agg] w fun o w' => o = .returned (.bool e.bareB) ∧ Below w.heap.size w w' := by
 rw [bare_eq]
 obtain ⟨hart, kind, addr, val, rval, aq, rl, pred, succ, rsv, ⟨aa, an, ac⟩, ⟨da, dn, dc⟩, ⟨ca, cn, cc⟩, _, _, _⟩ := e
 unfold Ev.small at hs
 unfold Ev.agg
 dsimp only at hs ⊢
 obtain ⟨h1, h2, h3⟩ := hs
 obtain ⟨k5, hk5⟩ : ∃ bool_ : Bool, (kind == 5) = bool_ := ⟨_, rfl⟩
 obtain ⟨k1, hk1⟩ : ∃ bool_ : Bool, (kind == 1) = bool_ := ⟨_, rfl⟩
 obtain ⟨k2, hk2⟩ : ∃ bool_ : Bool, (kind == 2) = bool_ := ⟨_, rfl⟩
 obtain ⟨k3, hk3⟩ : ∃ bool_ : Bool, (kind == 3) = bool_ := ⟨_, rfl⟩
 obtain ⟨k4, hk4⟩ : ∃ bool_ : Bool, (kind == 4) = bool_ := ⟨_, rfl⟩
 obtain ⟨hm, hhm⟩ : ∃ bool_ : Bool, (hart == -1) = bool_ := ⟨_, rfl⟩
 obtain ⟨r0, hr0⟩ : ∃ bool_ : Bool, (rval == 0) = bool_ := ⟨_, rfl⟩
 obtain ⟨v0, hv0⟩ : ∃ bool_ : Bool, (val == 0) = bool_ := ⟨_, rfl⟩
 obtain ⟨a0, ha0⟩ : ∃ bool_ : Bool, (addr == 0) = bool_ := ⟨_, rfl⟩
 obtain ⟨dp, hdp⟩ : ∃ bool_ : Bool, decide (0 < (an : Int) + dn + cn) = bool_ := ⟨_, rfl⟩
 obtain ⟨p0, hp0⟩ : ∃ bool_ : Bool, (pred != 0) = bool_ := ⟨_, rfl⟩
 obtain ⟨s0, hs0⟩ : ∃ bool_ : Bool, (succ != 0) = bool_ := ⟨_, rfl⟩
 obtain ⟨d0, hd0⟩ : ∃ bool_ : Bool, ((dn : Int) == 0) = bool_ := ⟨_, rfl⟩
 obtain ⟨ad, had⟩ : ∃ bool_ : Bool, ((an : Int) + dn == 0) = bool_ := ⟨_, rfl⟩
 obtain ⟨pg, hpg⟩ : ∃ bool_ : Bool, decide (0 ≤ pred) = bool_ := ⟨_, rfl⟩
 obtain ⟨pl, hpl⟩ : ∃ bool_ : Bool, decide (pred ≤ 3) = bool_ := ⟨_, rfl⟩
 obtain ⟨sg, hsg⟩ : ∃ bool_ : Bool, decide (0 ≤ succ) = bool_ := ⟨_, rfl⟩
 obtain ⟨sl, hsl⟩ : ∃ bool_ : Bool, decide (succ ≤ 3) = bool_ := ⟨_, rfl⟩
 rw [hk5, hk1, hk2, hk3, hk4, hhm, hr0, hv0, ha0, hdp, hp0, hs0, hd0, had, hpg, hpl, hsg, hsl]
 obtain ⟨res, hres⟩ : ∃ x : Bool, (if k5 then hm && r0 && !dp && !(p0 || s0) && !(aq || rl || rsv) else if k1 then v0 && !(p0 || s0) && d0 else if k2 then r0 && !(p0 || s0) else if k3 then !(p0 || s0) && !rsv else if k4 then a0 && v0 && r0 && !(aq || rl || rsv) && ad && pg && pl && sg && sl else false) = x := ⟨_, rfl⟩
 rw [hres]
 have RES := Lib.hid hres
 clear hres
 go_enter Tryz.func76, Tryz.ntmps76
 go_upto_region 0 with (fail)
 go_cut [0, 1] (fun s0 s1 wx => s1 = .pointer (some ⟨w.heap.size, 0, none⟩) ∧ Below w.heap.size w wx ∧ wx.cell? ⟨w.heap.size, 0, none⟩ = some (Value.int IntKind.i64 hart) ∧ wx.cell? ⟨w.heap.size, 1, none⟩ = some (Value.int IntKind.i64 kind) ∧ wx.cell? ⟨w.heap.size, 2, none⟩ = some (Value.int IntKind.u32 addr) ∧ wx.cell? ⟨w.heap.size, 3, none⟩ = some (Value.int IntKind.u32 val) ∧ wx.cell? ⟨w.heap.size, 4, none⟩ = some (Value.int IntKind.u32 rval) ∧ wx.cell? ⟨w.heap.size, 5, none⟩ = some (Value.bool aq) ∧ wx.cell? ⟨w.heap.size, 6, none⟩ = some (Value.bool rl) ∧ wx.cell? ⟨w.heap.size, 7, none⟩ = some (Value.int IntKind.i64 pred) ∧ wx.cell? ⟨w.heap.size, 8, none⟩ = some (Value.int IntKind.i64 succ) ∧ wx.cell? ⟨w.heap.size, 9, none⟩ = some (Value.bool rsv) ∧ wx.cell? ⟨w.heap.size, 10, none⟩ = some (Value.slice aa an ac) ∧ wx.cell? ⟨w.heap.size, 11, none⟩ = some (Value.slice da dn dc) ∧ wx.cell? ⟨w.heap.size, 12, none⟩ = some (Value.slice ca cn cc))
 case first =>
  go_wp2_with fail
  go_meet
  exact ⟨rfl, (Below.refl _ _).alloc (Nat.le_refl _) _, by simp, by simp, by simp, by simp, by simp, by simp, by simp, by simp, by simp, by simp, by simp, by simp, by simp⟩
 case rest =>
 obtain ⟨rfl, hb, c0, c1, c2, c3, c4, c5, c6, c7, c8, c9, c10, c11, c12⟩ := hcut
 go_upto_region 2 with (fail)
 go_cut [4] (fun s4 wx => s4 = .bool (p0 || s0) ∧ wx = wc)
 case first =>
  go_wp2_with fail
  all_goals (go_meet; exact ⟨by simp_all, rfl⟩)
 case rest =>
  obtain ⟨rfl, rfl⟩ := hcut
  go_upto_region 3 with (fail)
  go_cut [5] (fun s5 wx => s5 = .bool (aq || rl || rsv) ∧ wx = wc)
  case first =>
   go_wp2_with fail
   all_goals (go_meet; exact ⟨by simp_all, rfl⟩)
  case rest =>
   obtain ⟨rfl, rfl⟩ := hcut
   generalize (p0 || s0) = fence at *
   generalize (aq || rl || rsv) = ord at *
   go_wp2
   all_goals
    go_ret
    exact ⟨uW (by rw [← RES.out]; simp_all), hb⟩
end Go.Proofs.YtnkocjkkefnelaaGreat
