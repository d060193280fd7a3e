/- slices.AppendSeq(nil, ..), Collect, Sorted, against whatever iterator value; at uint32 and at int. -/
import Derived.Deep.DeepCutAuto
import Derived.Maps.OwnOps
import Derived.Maps.OwnSet
import Derived.Maps.Views
import Derived.Sort.Walk7
import Derived.Shelf.Small.Bits
import Derived.Sort.WalkA6
import Derived.Sort.WalkB12
import Derived.Sort.WalkB3
import Derived.Sort.WalkC
import Derived.Test.YtnghoibkjphfmaaGreatPe3
namespace Go.Proofs.YtnghoibkjphfmaaGreat
open Go.RowKit Go.Shelf Go.Maps Go.Sort
/-! ### at uint32 -/
theorem info_u : (Tryz.prog.info? 39).map (fun i => (i.zero, i.size, i.bytes)) = some (some (.int .u32 0), 1, 4) := by kernel_rfl
set_option maxRecDepth 100000 in
set_option maxHeartbeats 2000000 in
theorem append_u (F : Fence) (hF : ∀ f, F.fn f) (n : Nat) (hro : F.round = none) (hn : 2 ≤ n) (g : Nat) (lb : Array Value) (eg : ∀ args w, (callFunc g args).run Tryz.prog w = .ok (.enter g args) w)
    (Kp : World → World → Prop) (S Sp : List Int → Prop) (N : Nat) (hN : N ≤ maxLen) (hNb : N * 4 ≤ 140737488355328) (w : World)
    (hKt : ∀ {A B C : World}, Kp A B → Kp B C → Kp A C) (hKb : ∀ (W : World) (l : Nat) (o o' : Obj), w.heap.size ≤ l → W.heap[l]? = some o → o.isCells = false → o.isWalk = false → Kp W (W.putObj l o'))
    (hKo : ∀ W W', KeepsOthers W W' → Below w.heap.size W W' → Kp W W')
    (hseq : SeqStopsK F (n - 1) Tryz.prog g lb (fun x : Int => #[Value.int .u32 x]) Kp S Sp N w) :
    CallsIn F n Tryz.prog 99 #[.slice none 0 0, .func (.func g) #[] lb] w fun e w' => ∃ (v : Value) (ss : List Int), e = .returned v ∧ S ss ∧ ss.length ≤ N ∧ w'.ownsRow w.heap.size 39 1 v ss.length (ss.map (Value.int .u32)) ∧ (v = .slice none 0 0 ↔ ss = []) ∧ Below w.heap.size w w' := by
  have h1 : 1 ≤ n := by omega
  obtain ⟨i0, hi, hz0, hz1, hz2⟩ := info_parts info_u
  refine callsIn_of_wp_marks Tryz.func99 rfl (hF _) ?_ hro
  simp only [Tryz.ntmps99, List.size_toArray, List.length_cons, List.length_nil, Nat.reduceAdd, Nat.reduceSub, Array.replicate_succ, Array.replicate_zero, List.push_toArray, List.append_toArray, List.nil_append, List.cons_append]
  gi_wp2
  have bO := Boxed.new w 65 (.slice none 0 0)
  have hB0 : Below w.heap.size w (w.alloc (.cells #[.slice none 0 0] 65)) := (Below.refl _ w).alloc (Nat.le_refl _) _
  refine wpIn_rangeFunc_ownG hro h1 (gf := g) (lb := lb) rfl (hF _) eg (N := N) hseq hKt (fun W l o o' hl h1 h2 h3 => hKb W l o o' (by simp at hl; omega) h1 h2 h3) hB0 (fun _ => rfl)
    (fun pre W => ((∃ v, Boxed W w.heap.size 65 v ∧ W.ownsRow w.heap.size 39 1 v pre.length (pre.map (Value.int .u32)) ∧ (v = .slice none 0 0 ↔ pre = [])) ∧ Below w.heap.size w W) ∧ pre.length ≤ N)
    (fun _ _ _ => False)
    (OwnFrom.and (OwnFrom.and (Own.from (holdsRow_own w.heap.size w.heap.size 65 39 1 (fun pre : List Int => pre.length) (fun pre => pre.map (Value.int .u32)) (fun pre v => v = .slice none 0 0 ↔ pre = [])) _) (ownFrom_below (Nat.le_refl _) (by simp))) (fun _ _ _ _ hs _ _ => hs))
    (fun _ _ _ _ _ hs _ _ => hs)
    ⟨⟨⟨_, bO, World.ownsRow_nil _ _ _ _, by simp⟩, hB0⟩, by simp⟩
    (fun x => { tmps := #[.slice none 0 0, .func (.func g) #[] lb, .pointer (some ⟨w.heap.size, 0, none⟩), undef, .slice none 0 0, .int .u32 x, .func (.func g) #[] lb, .int .u32 x, undef, undef, undef, undef, undef], defers := [] }) ?assign ?body ?done ?stop
  case assign =>
    intro l x W K hK
    gi_wp2_with (rw [Oper.semAt_eq _ _ _ (fun c h => by cases h)]; go_simp; try go_bits)
    exact hK
  case body =>
    rintro l pre x W ⟨⟨⟨v, hv, hrow, hnil⟩, hB⟩, _⟩ hlt
    have hc := hv.cell
    gi_wp2_with (first | (gi_at_builtin; refine wpListIn_append_own _ rfl _ _ 65 rfl w.heap.size 39 i0 (.int .u32 0) 1 4 Tryz.underlying65 hi hz0 hz1 hz2 rfl (by decide) _ _ _ rfl (hrow.alloc _) ⟨W.heap.size, 0, none⟩ 1 1 [.int .u32 x] rfl rfl (cell_one_new _ _ _) (by simp [Value.oneCell']) (by omega) (by omega) (by have := hB.size; simp; omega) ?_; intro v' w1 hown' hgrow _; obtain ⟨g', cap', rfl⟩ := ownsRow_succ hown'; obtain ⟨hv1, hv2, hr2, hk2, hb2⟩ := hv.appended (by decide) hrow hB.size (Nat.le_refl _) hown' hgrow; have hc1 := hv1.cell; have hf1 := hv1.frozen; go_frame) | (rw [Oper.semAt_eq _ _ _ (fun c h => by cases h)]; go_simp; try go_bits))
    exact ⟨hk2.from _, hKo _ _ hk2 hb2, ⟨⟨_, hv2, by simpa using hr2, by simp⟩, hB.trans hb2⟩, by simp; omega⟩
  case done =>
    rintro D ys W hD hS ⟨⟨⟨v, hv, hrow, hnil⟩, hB⟩, hlen⟩ hK
    have hc := hv.cell
    gi_wp2
    refine ⟨by simp, .inl ⟨_, _, rfl, run_takeDeferred hK, ?_⟩⟩
    exact ⟨_, results_tmp rfl _ _ _, v, ys, rfl, hS, hlen, ownsRow_putObj hrow _ hK rfl, hnil, hB.trans (belowK_b (w := w) (Nat.le_refl _) W D _ _ (by simp at hD; omega) hK rfl rfl)⟩
  case stop =>
    rintro D c pre W _ _ h _
    exact h.elim
set_option maxHeartbeats 1000000 in
theorem collect_u (F : Fence) (hF : ∀ f, F.fn f) (n : Nat) (hro : F.round = none) (hn : 3 ≤ n) (g : Nat) (lb : Array Value) (eg : ∀ args w, (callFunc g args).run Tryz.prog w = .ok (.enter g args) w)
    (Kp : World → World → Prop) (S Sp : List Int → Prop) (N : Nat) (hN : N ≤ maxLen) (hNb : N * 4 ≤ 140737488355328) (w : World)
    (hKt : ∀ {A B C : World}, Kp A B → Kp B C → Kp A C) (hKb : ∀ (W : World) (l : Nat) (o o' : Obj), w.heap.size ≤ l → W.heap[l]? = some o → o.isCells = false → o.isWalk = false → Kp W (W.putObj l o'))
    (hKo : ∀ W W', KeepsOthers W W' → Below w.heap.size W W' → Kp W W')
    (hseq : SeqStopsK F (n - 1 - 1) Tryz.prog g lb (fun x : Int => #[Value.int .u32 x]) Kp S Sp N w) :
    CallsIn F n Tryz.prog 90 #[.func (.func g) #[] lb] w fun e w' => ∃ (v : Value) (ss : List Int), e = .returned v ∧ S ss ∧ ss.length ≤ N ∧ w'.ownsRow w.heap.size 39 1 v ss.length (ss.map (Value.int .u32)) ∧ (v = .slice none 0 0 ↔ ss = []) ∧ Below w.heap.size w w' := by
  have h1 : 1 ≤ n := by omega
  refine callsIn_of_wp Tryz.func90 rfl (hF _) ?_ hro
  simp only [Tryz.ntmps90, List.size_toArray, List.length_cons, List.length_nil, Nat.reduceAdd, Nat.reduceSub, Array.replicate_succ, Array.replicate_zero, List.push_toArray, List.append_toArray, List.nil_append, List.cons_append]
  gi_wp2_with (gi_at_call 99; refine (append_u F hF (n - 1) hro (by omega) g lb eg Kp S Sp N hN hNb _ hKt hKb hKo hseq).mono ?_; rintro e w' ⟨v, ss, rfl, hS, hlen, hrow, hnil, hb⟩)
  go_ret
  exact ⟨v, ss, rfl, hS, hlen, hrow, hnil, hb⟩
def Sorts_u (F : Fence) (m : Nat) : Prop :=
  (∀ (blk off cap : Nat) (ss : List Int) (W : World), Holds (Value.int .u32) W blk off ss.toArray → blk < W.heap.size → ss.length < 4611686018427387904 →
    CallsIn F m Tryz.prog 91 #[.slice (some ⟨blk, off, none⟩) ss.length cap] W fun e w' => e = .returned (.tuple #[]) ∧ ∃ k os, w' = grow (putRow (Value.int .u32) (Sort.ahead W k) blk off (ss.mergeSort fun x y => decide (x ≤ y)).toArray) os) ∧
  (∀ (p : Option Addr) (cap : Nat) (W : World), CallsIn F m Tryz.prog 91 #[.slice p 0 cap] W fun e w' => e = .returned (.tuple #[]) ∧ w' = W)
set_option maxRecDepth 100000 in
set_option maxHeartbeats 2000000 in
theorem sorted_u (F : Fence) (hF : ∀ f, F.fn f) (n : Nat) (hro : F.round = none) (hn : 4 ≤ n) (hsort : Sorts_u F (n - 1)) (g : Nat) (lb : Array Value) (eg : ∀ args w, (callFunc g args).run Tryz.prog w = .ok (.enter g args) w)
    (Kp : World → World → Prop) (S Sp : List Int → Prop) (N : Nat) (hN : N ≤ maxLen) (hNb : N * 4 ≤ 140737488355328) (w : World)
    (hKt : ∀ {A B C : World}, Kp A B → Kp B C → Kp A C) (hKb : ∀ (W : World) (l : Nat) (o o' : Obj), w.heap.size ≤ l → W.heap[l]? = some o → o.isCells = false → o.isWalk = false → Kp W (W.putObj l o'))
    (hKo : ∀ W W', KeepsOthers W W' → Below w.heap.size W W' → Kp W W')
    (hseq : SeqStopsK F (n - 1 - 1 - 1) Tryz.prog g lb (fun x : Int => #[Value.int .u32 x]) Kp S Sp N w) :
    CallsIn F n Tryz.prog 79 #[.func (.func g) #[] lb] w fun e w' => ∃ (v : Value) (ss : List Int), e = .returned v ∧ S ss ∧ ss.length ≤ N ∧
      w'.ownsRow w.heap.size 39 1 v ss.length ((ss.mergeSort (fun x y => decide (x ≤ y))).map (Value.int .u32)) ∧ (v = .slice none 0 0 ↔ ss = []) ∧ Below w.heap.size w w' := by
  have h1 : 1 ≤ n := by omega
  have hN2 : N < 4611686018427387904 := by omega
  refine callsIn_of_wp Tryz.func79 rfl (hF _) ?_ hro
  simp only [Tryz.ntmps79, List.size_toArray, List.length_cons, List.length_nil, Nat.reduceAdd, Nat.reduceSub, Array.replicate_succ, Array.replicate_zero, List.push_toArray, List.append_toArray, List.nil_append, List.cons_append]
  gi_wp2_with (gi_at_call 90; refine (collect_u F hF (n - 1) hro (by omega) g lb eg Kp S Sp N hN hNb _ hKt hKb hKo hseq).mono ?_; rintro e W ⟨v, ss, rfl, hS, hlen, hrow, hnil, hb⟩)
  rcases hrow.2 with ⟨rfl, hz⟩ | ⟨gb, cap, cur, rfl, hbase, hgb, r1, r2, r3, r4⟩
  · have hss : ss = [] := List.eq_nil_of_length_eq_zero hz
    subst hss
    gi_wp2_with (gi_at_call 91; refine (hsort.2 none 0 W).mono ?_; rintro e w' ⟨rfl, rfl⟩)
    go_ret
    exact ⟨.slice none 0 0, [], rfl, hS, by simp, by simpa using hrow, by simp, hb⟩
  · have hH : Holds (Value.int .u32) W gb 0 ss.toArray := holds_of_blockE _ hgb (by simpa using r4)
    have hgl : gb < W.heap.size := (Array.getElem?_eq_some_iff.1 hgb).1
    have cS := hsort.1 gb 0 cap ss W hH hgl (by omega)
    gi_wp2_with (gi_at_call 91; refine cS.mono ?_; rintro e w' ⟨rfl, nn, os, rfl⟩)
    go_ret
    exact ⟨_, ss, rfl, hS, hlen, ownsRow_sortedE _ (by simp) hbase hgb r1 r2 r3, hnil, hb.grown (grownBy_sortedE _ _) hb.size (fun j hj => by cases hj; exact hbase)⟩
/-! ### at int -/
theorem info_i : (Tryz.prog.info? 3).map (fun i => (i.zero, i.size, i.bytes)) = some (some (.int .i64 0), 1, 8) := by kernel_rfl
set_option maxRecDepth 100000 in
set_option maxHeartbeats 2000000 in
theorem append_i (F : Fence) (hF : ∀ f, F.fn f) (n : Nat) (hro : F.round = none) (hn : 2 ≤ n) (g : Nat) (lb : Array Value) (eg : ∀ args w, (callFunc g args).run Tryz.prog w = .ok (.enter g args) w)
    (Kp : World → World → Prop) (S Sp : List Int → Prop) (N : Nat) (hN : N ≤ maxLen) (hNb : N * 8 ≤ 140737488355328) (w : World)
    (hKt : ∀ {A B C : World}, Kp A B → Kp B C → Kp A C) (hKb : ∀ (W : World) (l : Nat) (o o' : Obj), w.heap.size ≤ l → W.heap[l]? = some o → o.isCells = false → o.isWalk = false → Kp W (W.putObj l o'))
    (hKo : ∀ W W', KeepsOthers W W' → Below w.heap.size W W' → Kp W W')
    (hseq : SeqStopsK F (n - 1) Tryz.prog g lb (fun x : Int => #[Value.int .i64 x]) Kp S Sp N w) :
    CallsIn F n Tryz.prog 102 #[.slice none 0 0, .func (.func g) #[] lb] w fun e w' => ∃ (v : Value) (ss : List Int), e = .returned v ∧ S ss ∧ ss.length ≤ N ∧ w'.ownsRow w.heap.size 3 1 v ss.length (ss.map (Value.int .i64)) ∧ (v = .slice none 0 0 ↔ ss = []) ∧ Below w.heap.size w w' := by
  have h1 : 1 ≤ n := by omega
  obtain ⟨i0, hi, hz0, hz1, hz2⟩ := info_parts info_i
  refine callsIn_of_wp_marks Tryz.func102 rfl (hF _) ?_ hro
  simp only [Tryz.ntmps102, List.size_toArray, List.length_cons, List.length_nil, Nat.reduceAdd, Nat.reduceSub, Array.replicate_succ, Array.replicate_zero, List.push_toArray, List.append_toArray, List.nil_append, List.cons_append]
  gi_wp2
  have bO := Boxed.new w 23 (.slice none 0 0)
  have hB0 : Below w.heap.size w (w.alloc (.cells #[.slice none 0 0] 23)) := (Below.refl _ w).alloc (Nat.le_refl _) _
  refine wpIn_rangeFunc_ownG hro h1 (gf := g) (lb := lb) rfl (hF _) eg (N := N) hseq hKt (fun W l o o' hl h1 h2 h3 => hKb W l o o' (by simp at hl; omega) h1 h2 h3) hB0 (fun _ => rfl)
    (fun pre W => ((∃ v, Boxed W w.heap.size 23 v ∧ W.ownsRow w.heap.size 3 1 v pre.length (pre.map (Value.int .i64)) ∧ (v = .slice none 0 0 ↔ pre = [])) ∧ Below w.heap.size w W) ∧ pre.length ≤ N)
    (fun _ _ _ => False)
    (OwnFrom.and (OwnFrom.and (Own.from (holdsRow_own w.heap.size w.heap.size 23 3 1 (fun pre : List Int => pre.length) (fun pre => pre.map (Value.int .i64)) (fun pre v => v = .slice none 0 0 ↔ pre = [])) _) (ownFrom_below (Nat.le_refl _) (by simp))) (fun _ _ _ _ hs _ _ => hs))
    (fun _ _ _ _ _ hs _ _ => hs)
    ⟨⟨⟨_, bO, World.ownsRow_nil _ _ _ _, by simp⟩, hB0⟩, by simp⟩
    (fun x => { tmps := #[.slice none 0 0, .func (.func g) #[] lb, .pointer (some ⟨w.heap.size, 0, none⟩), undef, .slice none 0 0, .int .i64 x, .func (.func g) #[] lb, .int .i64 x, undef, undef, undef, undef, undef], defers := [] }) ?assign ?body ?done ?stop
  case assign =>
    intro l x W K hK
    gi_wp2_with (rw [Oper.semAt_eq _ _ _ (fun c h => by cases h)]; go_simp; try go_bits)
    exact hK
  case body =>
    rintro l pre x W ⟨⟨⟨v, hv, hrow, hnil⟩, hB⟩, _⟩ hlt
    have hc := hv.cell
    gi_wp2_with (first | (gi_at_builtin; refine wpListIn_append_own _ rfl _ _ 23 rfl w.heap.size 3 i0 (.int .i64 0) 1 8 Tryz.underlying23 hi hz0 hz1 hz2 rfl (by decide) _ _ _ rfl (hrow.alloc _) ⟨W.heap.size, 0, none⟩ 1 1 [.int .i64 x] rfl rfl (cell_one_new _ _ _) (by simp [Value.oneCell']) (by omega) (by omega) (by have := hB.size; simp; omega) ?_; intro v' w1 hown' hgrow _; obtain ⟨g', cap', rfl⟩ := ownsRow_succ hown'; obtain ⟨hv1, hv2, hr2, hk2, hb2⟩ := hv.appended (by decide) hrow hB.size (Nat.le_refl _) hown' hgrow; have hc1 := hv1.cell; have hf1 := hv1.frozen; go_frame) | (rw [Oper.semAt_eq _ _ _ (fun c h => by cases h)]; go_simp; try go_bits))
    exact ⟨hk2.from _, hKo _ _ hk2 hb2, ⟨⟨_, hv2, by simpa using hr2, by simp⟩, hB.trans hb2⟩, by simp; omega⟩
  case done =>
    rintro D ys W hD hS ⟨⟨⟨v, hv, hrow, hnil⟩, hB⟩, hlen⟩ hK
    have hc := hv.cell
    gi_wp2
    refine ⟨by simp, .inl ⟨_, _, rfl, run_takeDeferred hK, ?_⟩⟩
    exact ⟨_, results_tmp rfl _ _ _, v, ys, rfl, hS, hlen, ownsRow_putObj hrow _ hK rfl, hnil, hB.trans (belowK_b (w := w) (Nat.le_refl _) W D _ _ (by simp at hD; omega) hK rfl rfl)⟩
  case stop =>
    rintro D c pre W _ _ h _
    exact h.elim
set_option maxHeartbeats 1000000 in
theorem collect_i (F : Fence) (hF : ∀ f, F.fn f) (n : Nat) (hro : F.round = none) (hn : 3 ≤ n) (g : Nat) (lb : Array Value) (eg : ∀ args w, (callFunc g args).run Tryz.prog w = .ok (.enter g args) w)
    (Kp : World → World → Prop) (S Sp : List Int → Prop) (N : Nat) (hN : N ≤ maxLen) (hNb : N * 8 ≤ 140737488355328) (w : World)
    (hKt : ∀ {A B C : World}, Kp A B → Kp B C → Kp A C) (hKb : ∀ (W : World) (l : Nat) (o o' : Obj), w.heap.size ≤ l → W.heap[l]? = some o → o.isCells = false → o.isWalk = false → Kp W (W.putObj l o'))
    (hKo : ∀ W W', KeepsOthers W W' → Below w.heap.size W W' → Kp W W')
    (hseq : SeqStopsK F (n - 1 - 1) Tryz.prog g lb (fun x : Int => #[Value.int .i64 x]) Kp S Sp N w) :
    CallsIn F n Tryz.prog 93 #[.func (.func g) #[] lb] w fun e w' => ∃ (v : Value) (ss : List Int), e = .returned v ∧ S ss ∧ ss.length ≤ N ∧ w'.ownsRow w.heap.size 3 1 v ss.length (ss.map (Value.int .i64)) ∧ (v = .slice none 0 0 ↔ ss = []) ∧ Below w.heap.size w w' := by
  have h1 : 1 ≤ n := by omega
  refine callsIn_of_wp Tryz.func93 rfl (hF _) ?_ hro
  simp only [Tryz.ntmps93, List.size_toArray, List.length_cons, List.length_nil, Nat.reduceAdd, Nat.reduceSub, Array.replicate_succ, Array.replicate_zero, List.push_toArray, List.append_toArray, List.nil_append, List.cons_append]
  gi_wp2_with (gi_at_call 102; refine (append_i F hF (n - 1) hro (by omega) g lb eg Kp S Sp N hN hNb _ hKt hKb hKo hseq).mono ?_; rintro e w' ⟨v, ss, rfl, hS, hlen, hrow, hnil, hb⟩)
  go_ret
  exact ⟨v, ss, rfl, hS, hlen, hrow, hnil, hb⟩
def Sorts_i (F : Fence) (m : Nat) : Prop :=
  (∀ (blk off cap : Nat) (ss : List Int) (W : World), Holds (Value.int .i64) W blk off ss.toArray → blk < W.heap.size → ss.length < 4611686018427387904 →
    CallsIn F m Tryz.prog 94 #[.slice (some ⟨blk, off, none⟩) ss.length cap] W fun e w' => e = .returned (.tuple #[]) ∧ ∃ k os, w' = grow (putRow (Value.int .i64) (Sort.ahead W k) blk off (ss.mergeSort fun x y => decide (x ≤ y)).toArray) os) ∧
  (∀ (p : Option Addr) (cap : Nat) (W : World), CallsIn F m Tryz.prog 94 #[.slice p 0 cap] W fun e w' => e = .returned (.tuple #[]) ∧ w' = W)
set_option maxRecDepth 100000 in
set_option maxHeartbeats 2000000 in
theorem sorted_i (F : Fence) (hF : ∀ f, F.fn f) (n : Nat) (hro : F.round = none) (hn : 4 ≤ n) (hsort : Sorts_i F (n - 1)) (g : Nat) (lb : Array Value) (eg : ∀ args w, (callFunc g args).run Tryz.prog w = .ok (.enter g args) w)
    (Kp : World → World → Prop) (S Sp : List Int → Prop) (N : Nat) (hN : N ≤ maxLen) (hNb : N * 8 ≤ 140737488355328) (w : World)
    (hKt : ∀ {A B C : World}, Kp A B → Kp B C → Kp A C) (hKb : ∀ (W : World) (l : Nat) (o o' : Obj), w.heap.size ≤ l → W.heap[l]? = some o → o.isCells = false → o.isWalk = false → Kp W (W.putObj l o'))
    (hKo : ∀ W W', KeepsOthers W W' → Below w.heap.size W W' → Kp W W')
    (hseq : SeqStopsK F (n - 1 - 1 - 1) Tryz.prog g lb (fun x : Int => #[Value.int .i64 x]) Kp S Sp N w) :
    CallsIn F n Tryz.prog 84 #[.func (.func g) #[] lb] w fun e w' => ∃ (v : Value) (ss : List Int), e = .returned v ∧ S ss ∧ ss.length ≤ N ∧
      w'.ownsRow w.heap.size 3 1 v ss.length ((ss.mergeSort (fun x y => decide (x ≤ y))).map (Value.int .i64)) ∧ (v = .slice none 0 0 ↔ ss = []) ∧ Below w.heap.size w w' := by
  have h1 : 1 ≤ n := by omega
  have hN2 : N < 4611686018427387904 := by omega
  refine callsIn_of_wp Tryz.func84 rfl (hF _) ?_ hro
  simp only [Tryz.ntmps84, List.size_toArray, List.length_cons, List.length_nil, Nat.reduceAdd, Nat.reduceSub, Array.replicate_succ, Array.replicate_zero, List.push_toArray, List.append_toArray, List.nil_append, List.cons_append]
  gi_wp2_with (gi_at_call 93; refine (collect_i F hF (n - 1) hro (by omega) g lb eg Kp S Sp N hN hNb _ hKt hKb hKo hseq).mono ?_; rintro e W ⟨v, ss, rfl, hS, hlen, hrow, hnil, hb⟩)
  rcases hrow.2 with ⟨rfl, hz⟩ | ⟨gb, cap, cur, rfl, hbase, hgb, r1, r2, r3, r4⟩
  · have hss : ss = [] := List.eq_nil_of_length_eq_zero hz
    subst hss
    gi_wp2_with (gi_at_call 94; refine (hsort.2 none 0 W).mono ?_; rintro e w' ⟨rfl, rfl⟩)
    go_ret
    exact ⟨.slice none 0 0, [], rfl, hS, by simp, by simpa using hrow, by simp, hb⟩
  · have hH : Holds (Value.int .i64) W gb 0 ss.toArray := holds_of_blockE _ hgb (by simpa using r4)
    have hgl : gb < W.heap.size := (Array.getElem?_eq_some_iff.1 hgb).1
    have cS := hsort.1 gb 0 cap ss W hH hgl (by omega)
    gi_wp2_with (gi_at_call 94; refine cS.mono ?_; rintro e w' ⟨rfl, nn, os, rfl⟩)
    go_ret
    exact ⟨_, ss, rfl, hS, hlen, ownsRow_sortedE _ (by simp) hbase hgb r1 r2 r3, hnil, hb.grown (grownBy_sortedE _ _) hb.size (fun j hj => by cases hj; exact hbase)⟩
theorem sorts_i (m : Nat) : Sorts_i Fence.wide m :=
  ⟨fun blk off cap ss W hH hblk hsz => callsIn_wide.2 (Tryz.slices_Sort_int blk off cap ss W hH hblk hsz), fun p cap W => callsIn_wide.2 (Tryz.slices_Sort_int_none p cap W)⟩
end Go.Proofs.YtnghoibkjphfmaaGreat
/- Events as the program has them: which store, which load; whether one is bare. -/
namespace Go.Proofs.YtnghoibkjphfmaaGreat
open Go.RowKit
/-- A slice value: where it lies, its length, its room. -/
structure Sl where
  a : Option Addr
  n : Nat
  c : Nat
  deriving Inhabited
def Sl.v (s : Sl) : Value := .slice s.a s.n s.c
/-- An event: its numbers, and its three lists as slice values with what they hold. -/
structure Ev where
  hart : Int
  kind : Int
  addr : Int
  val : Int
  rval : Int
  aq : Bool
  rl : Bool
  pred : Int
  succ : Int
  rsv : Bool
  av : Sl
  dv : Sl
  cv : Sl
  addrs : List Int
  datas : List Int
  ctrls : List Int
  deriving Inhabited
def Ev.cells (e : Ev) : List Value := [.int .i64 e.hart, .int .i64 e.kind, .int .u32 e.addr, .int .u32 e.val, .int .u32 e.rval, .bool e.aq, .bool e.rl, .int .i64 e.pred, .int .i64 e.succ, .bool e.rsv, .slice e.av.a e.av.n e.av.c, .slice e.dv.a e.dv.n e.dv.c, .slice e.cv.a e.cv.n e.cv.c]
def Ev.agg (e : Ev) : Value := .agg #[.int .i64 e.hart, .int .i64 e.kind, .int .u32 e.addr, .int .u32 e.val, .int .u32 e.rval, .bool e.aq, .bool e.rl, .int .i64 e.pred, .int .i64 e.succ, .bool e.rsv, .slice e.av.a e.av.n e.av.c, .slice e.dv.a e.dv.n e.dv.c, .slice e.cv.a e.cv.n e.cv.c]
/-- its lists are short -/
def Ev.small (e : Ev) : Prop := e.av.n ≤ 1152921504606846976 ∧ e.dv.n ≤ 1152921504606846976 ∧ e.cv.n ≤ 1152921504606846976
def Ev.stB (e : Ev) : Bool := e.kind == 2 || e.kind == 3 || e.kind == 5
def Ev.ldB (e : Ev) : Bool := e.kind == 1 || e.kind == 3
def Ev.bareB (e : Ev) : Bool :=
  if e.kind = 5 then e.hart == -1 && e.rval == 0 && !(decide (0 < e.av.n + e.dv.n + e.cv.n)) && !(e.pred != 0 || e.succ != 0) && !(e.aq || e.rl || e.rsv)
  else if e.kind = 1 then e.val == 0 && !(e.pred != 0 || e.succ != 0) && e.dv.n == 0
  else if e.kind = 2 then e.rval == 0 && !(e.pred != 0 || e.succ != 0)
  else if e.kind = 3 then !(e.pred != 0 || e.succ != 0) && !e.rsv
  else if e.kind = 4 then e.addr == 0 && e.val == 0 && e.rval == 0 && !(e.aq || e.rl || e.rsv) && e.av.n + e.dv.n == 0 && decide (0 ≤ e.pred) && decide (e.pred ≤ 3) && decide (0 ≤ e.succ) && decide (e.succ ≤ 3)
  else false
theorem stores_c (e : Ev) (w : World) :
    Calls Tryz.prog 57 #[e.agg] w fun o w' => o = .returned (.bool e.stB) ∧ Below w.heap.size w w' := by
  obtain ⟨hart, kind, addr, val, rval, aq, rl, pred, succ, rsv, av, dv, cv, _, _, _⟩ := e
  unfold Ev.agg Ev.stB
  dsimp only
  go_enter Tryz.func57, Tryz.ntmps57
  go_wp2
  all_goals
    go_ret
    exact ⟨ret_bool (by simp_all), (Below.refl _ _).alloc (Nat.le_refl _) _⟩
theorem loads_c (e : Ev) (w : World) :
    Calls Tryz.prog 59 #[e.agg] w fun o w' => o = .returned (.bool e.ldB) ∧ Below w.heap.size w w' := by
  obtain ⟨hart, kind, addr, val, rval, aq, rl, pred, succ, rsv, av, dv, cv, _, _, _⟩ := e
  unfold Ev.agg Ev.ldB
  dsimp only
  go_enter Tryz.func59, Tryz.ntmps59
  go_wp2
  all_goals
    go_ret
    exact ⟨ret_bool (by simp_all), (Below.refl _ _).alloc (Nat.le_refl _) _⟩
theorem bare_eq (e : Ev) : e.bareB =
    if e.kind == 5 then e.hart == -1 && e.rval == 0 && !(decide (0 < (e.av.n : Int) + e.dv.n + e.cv.n)) && !(e.pred != 0 || e.succ != 0) && !(e.aq || e.rl || e.rsv)
    else if e.kind == 1 then e.val == 0 && !(e.pred != 0 || e.succ != 0) && (e.dv.n : Int) == 0
    else if e.kind == 2 then e.rval == 0 && !(e.pred != 0 || e.succ != 0)
    else if e.kind == 3 then !(e.pred != 0 || e.succ != 0) && !e.rsv
    else if e.kind == 4 then e.addr == 0 && e.val == 0 && e.rval == 0 && !(e.aq || e.rl || e.rsv) && ((e.av.n : Int) + e.dv.n == 0) && decide (0 ≤ e.pred) && decide (e.pred ≤ 3) && decide (0 ≤ e.succ) && decide (e.succ ≤ 3)
    else false := by
  have h1 : decide (0 < e.av.n + e.dv.n + e.cv.n) = decide (0 < (e.av.n : Int) + e.dv.n + e.cv.n) := by congr 1; apply propext; omega
  have h2 : (e.dv.n == 0) = ((e.dv.n : Int) == 0) := by rw [Bool.eq_iff_iff]; simp
  have h3 : (e.av.n + e.dv.n == 0) = ((e.av.n : Int) + e.dv.n == 0) := by rw [Bool.eq_iff_iff]; simp; omega
  unfold Ev.bareB
  rw [h1, h2, h3]
  simp only [beq_iff_eq]
set_option maxRecDepth 100000 in
set_option maxHeartbeats 1000000 in
theorem bare_c (e : Ev) (hs : e.small) (w : World) :
    Calls Tryz.prog 81 #[e.agg] w fun o w' => o = .returned (.bool e.bareB) ∧ Below w.heap.size w w' := by
  rw [bare_eq]
  obtain ⟨hart, kind, addr, val, rval, aq, rl, pred, succ, rsv, ⟨aa, an, ac⟩, ⟨da, dn, dc⟩, ⟨ca, cn, cc⟩, _, _, _⟩ := e
  unfold Ev.small at hs
  unfold Ev.agg
  dsimp only at hs ⊢
  obtain ⟨h1, h2, h3⟩ := hs
  obtain ⟨k5, hk5⟩ : ∃ bool_ : Bool, (kind == 5) = bool_ := ⟨_, rfl⟩
  obtain ⟨k1, hk1⟩ : ∃ bool_ : Bool, (kind == 1) = bool_ := ⟨_, rfl⟩
  obtain ⟨k2, hk2⟩ : ∃ bool_ : Bool, (kind == 2) = bool_ := ⟨_, rfl⟩
  obtain ⟨k3, hk3⟩ : ∃ bool_ : Bool, (kind == 3) = bool_ := ⟨_, rfl⟩
  obtain ⟨k4, hk4⟩ : ∃ bool_ : Bool, (kind == 4) = bool_ := ⟨_, rfl⟩
  obtain ⟨hm, hhm⟩ : ∃ bool_ : Bool, (hart == -1) = bool_ := ⟨_, rfl⟩
  obtain ⟨r0, hr0⟩ : ∃ bool_ : Bool, (rval == 0) = bool_ := ⟨_, rfl⟩
  obtain ⟨v0, hv0⟩ : ∃ bool_ : Bool, (val == 0) = bool_ := ⟨_, rfl⟩
  obtain ⟨a0, ha0⟩ : ∃ bool_ : Bool, (addr == 0) = bool_ := ⟨_, rfl⟩
  obtain ⟨dp, hdp⟩ : ∃ bool_ : Bool, decide (0 < (an : Int) + dn + cn) = bool_ := ⟨_, rfl⟩
  obtain ⟨p0, hp0⟩ : ∃ bool_ : Bool, (pred != 0) = bool_ := ⟨_, rfl⟩
  obtain ⟨s0, hs0⟩ : ∃ bool_ : Bool, (succ != 0) = bool_ := ⟨_, rfl⟩
  obtain ⟨d0, hd0⟩ : ∃ bool_ : Bool, ((dn : Int) == 0) = bool_ := ⟨_, rfl⟩
  obtain ⟨ad, had⟩ : ∃ bool_ : Bool, ((an : Int) + dn == 0) = bool_ := ⟨_, rfl⟩
  obtain ⟨pg, hpg⟩ : ∃ bool_ : Bool, decide (0 ≤ pred) = bool_ := ⟨_, rfl⟩
  obtain ⟨pl, hpl⟩ : ∃ bool_ : Bool, decide (pred ≤ 3) = bool_ := ⟨_, rfl⟩
  obtain ⟨sg, hsg⟩ : ∃ bool_ : Bool, decide (0 ≤ succ) = bool_ := ⟨_, rfl⟩
  obtain ⟨sl, hsl⟩ : ∃ bool_ : Bool, decide (succ ≤ 3) = bool_ := ⟨_, rfl⟩
  rw [hk5, hk1, hk2, hk3, hk4, hhm, hr0, hv0, ha0, hdp, hp0, hs0, hd0, had, hpg, hpl, hsg, hsl]
  obtain ⟨res, hres⟩ : ∃ x : Bool, (if k5 then hm && r0 && !dp && !(p0 || s0) && !(aq || rl || rsv) else if k1 then v0 && !(p0 || s0) && d0 else if k2 then r0 && !(p0 || s0) else if k3 then !(p0 || s0) && !rsv else if k4 then a0 && v0 && r0 && !(aq || rl || rsv) && ad && pg && pl && sg && sl else false) = x := ⟨_, rfl⟩
  rw [hres]
  have RES := Lib.hid hres
  clear hres
  go_enter Tryz.func81, Tryz.ntmps81
  go_upto_region 0 with (fail)
  go_cut [0, 1] (fun s0 s1 wx => s1 = .pointer (some ⟨w.heap.size, 0, none⟩) ∧ Below w.heap.size w wx ∧ wx.cell? ⟨w.heap.size, 0, none⟩ = some (Value.int IntKind.i64 hart) ∧ wx.cell? ⟨w.heap.size, 1, none⟩ = some (Value.int IntKind.i64 kind) ∧ wx.cell? ⟨w.heap.size, 2, none⟩ = some (Value.int IntKind.u32 addr) ∧ wx.cell? ⟨w.heap.size, 3, none⟩ = some (Value.int IntKind.u32 val) ∧ wx.cell? ⟨w.heap.size, 4, none⟩ = some (Value.int IntKind.u32 rval) ∧ wx.cell? ⟨w.heap.size, 5, none⟩ = some (Value.bool aq) ∧ wx.cell? ⟨w.heap.size, 6, none⟩ = some (Value.bool rl) ∧ wx.cell? ⟨w.heap.size, 7, none⟩ = some (Value.int IntKind.i64 pred) ∧ wx.cell? ⟨w.heap.size, 8, none⟩ = some (Value.int IntKind.i64 succ) ∧ wx.cell? ⟨w.heap.size, 9, none⟩ = some (Value.bool rsv) ∧ wx.cell? ⟨w.heap.size, 10, none⟩ = some (Value.slice aa an ac) ∧ wx.cell? ⟨w.heap.size, 11, none⟩ = some (Value.slice da dn dc) ∧ wx.cell? ⟨w.heap.size, 12, none⟩ = some (Value.slice ca cn cc))
  case first =>
    go_wp2_with fail
    go_meet
    exact ⟨rfl, (Below.refl _ _).alloc (Nat.le_refl _) _, by simp, by simp, by simp, by simp, by simp, by simp, by simp, by simp, by simp, by simp, by simp, by simp, by simp⟩
  case rest =>
  obtain ⟨rfl, hb, c0, c1, c2, c3, c4, c5, c6, c7, c8, c9, c10, c11, c12⟩ := hcut
  go_upto_region 2 with (fail)
  go_cut [4] (fun s4 wx => s4 = .bool (p0 || s0) ∧ wx = wc)
  case first =>
    go_wp2_with fail
    all_goals (go_meet; exact ⟨by simp_all, rfl⟩)
  case rest =>
    obtain ⟨rfl, rfl⟩ := hcut
    go_upto_region 3 with (fail)
    go_cut [5] (fun s5 wx => s5 = .bool (aq || rl || rsv) ∧ wx = wc)
    case first =>
      go_wp2_with fail
      all_goals (go_meet; exact ⟨by simp_all, rfl⟩)
    case rest =>
      obtain ⟨rfl, rfl⟩ := hcut
      generalize (p0 || s0) = fence at *
      generalize (aq || rl || rsv) = ord at *
      go_wp2
      all_goals
        go_ret
        exact ⟨ret_bool (by rw [← RES.out]; simp_all), hb⟩
end Go.Proofs.YtnghoibkjphfmaaGreat
/- What lies in memory below a block's number: a list of numbers, a list of events; an execution. -/
namespace Go.Proofs.YtnghoibkjphfmaaGreat
open Go.RowKit
/-- Below block B, the slice s holds these integers (of kind q). -/
def IntsIn (q : IntKind) (B : Nat) (w : World) (s : Sl) (xs : List Int) : Prop :=
  s.n = xs.length ∧ xs.length ≤ 1152921504606846976 ∧
  (xs = [] ∨ ∃ b off, s.a = some ⟨b, off, none⟩ ∧ b < B ∧ ∀ k, k < xs.length → w.cell? ⟨b, off + k, none⟩ = some (.int q (xs.getD k 0)))
theorem IntsIn.below {q : IntKind} {B : Nat} {w w' : World} {s : Sl} {xs : List Int} (h : IntsIn q B w s xs) (hb : Below B w w') : IntsIn q B w' s xs := by
  obtain ⟨h1, h2, h3⟩ := h
  refine ⟨h1, h2, ?_⟩
  rcases h3 with h3 | ⟨b, off, h4, h5, h6⟩
  · exact Or.inl h3
  · exact Or.inr ⟨b, off, h4, h5, fun k hk => by rw [hb.cell (by exact h5)]; exact h6 k hk⟩
theorem IntsIn.mono {q : IntKind} {B B' : Nat} {w : World} {s : Sl} {xs : List Int} (h : IntsIn q B w s xs) (hB : B ≤ B') : IntsIn q B' w s xs := by
  obtain ⟨h1, h2, h3⟩ := h
  refine ⟨h1, h2, ?_⟩
  rcases h3 with h3 | ⟨b, off, h4, h5, h6⟩
  · exact Or.inl h3
  · exact Or.inr ⟨b, off, h4, by omega, h6⟩
/-- an event's numbers fit their kinds -/
def Ev.wf (e : Ev) : Prop := (-9223372036854775808 ≤ e.hart ∧ e.hart ≤ 9223372036854775807) ∧ (-9223372036854775808 ≤ e.kind ∧ e.kind ≤ 9223372036854775807) ∧ (0 ≤ e.addr ∧ e.addr < 4294967296) ∧ (0 ≤ e.val ∧ e.val < 4294967296) ∧
  (0 ≤ e.rval ∧ e.rval < 4294967296) ∧ (-9223372036854775808 ≤ e.pred ∧ e.pred ≤ 9223372036854775807) ∧ (-9223372036854775808 ≤ e.succ ∧ e.succ ≤ 9223372036854775807)
/-- an event's own lists lie in memory -/
def Ev.okIn (B : Nat) (w : World) (e : Ev) : Prop :=
  IntsIn .i64 B w e.av e.addrs ∧ IntsIn .i64 B w e.dv e.datas ∧ IntsIn .i64 B w e.cv e.ctrls ∧ e.wf
theorem Ev.okIn.below {B : Nat} {w w' : World} {e : Ev} (h : e.okIn B w) (hb : Below B w w') : e.okIn B w' := ⟨h.1.below hb, h.2.1.below hb, h.2.2.1.below hb, h.2.2.2⟩
theorem Ev.okIn.small {B : Nat} {w : World} {e : Ev} (h : e.okIn B w) : e.small := by
  obtain ⟨⟨a1, a2, _⟩, ⟨b1, b2, _⟩, ⟨c1, c2, _⟩, _⟩ := h
  exact ⟨by omega, by omega, by omega⟩
/-- an event's cells from a place on -/
def EvCells (w : World) (b o : Nat) (e : Ev) : Prop := w.cell? ⟨b, o, none⟩ = some (Value.int IntKind.i64 e.hart) ∧ w.cell? ⟨b, o + 1, none⟩ = some (Value.int IntKind.i64 e.kind) ∧ w.cell? ⟨b, o + 2, none⟩ = some (Value.int IntKind.u32 e.addr) ∧ w.cell? ⟨b, o + 3, none⟩ = some (Value.int IntKind.u32 e.val) ∧ w.cell? ⟨b, o + 4, none⟩ = some (Value.int IntKind.u32 e.rval) ∧ w.cell? ⟨b, o + 5, none⟩ = some (Value.bool e.aq) ∧ w.cell? ⟨b, o + 6, none⟩ = some (Value.bool e.rl) ∧ w.cell? ⟨b, o + 7, none⟩ = some (Value.int IntKind.i64 e.pred) ∧ w.cell? ⟨b, o + 8, none⟩ = some (Value.int IntKind.i64 e.succ) ∧ w.cell? ⟨b, o + 9, none⟩ = some (Value.bool e.rsv) ∧ w.cell? ⟨b, o + 10, none⟩ = some (Value.slice e.av.a e.av.n e.av.c) ∧ w.cell? ⟨b, o + 11, none⟩ = some (Value.slice e.dv.a e.dv.n e.dv.c) ∧ w.cell? ⟨b, o + 12, none⟩ = some (Value.slice e.cv.a e.cv.n e.cv.c)
/-- Below block B, the slice s holds these events. -/
def EvsIn (B : Nat) (w : World) (s : Sl) (es : List Ev) : Prop :=
  s.n = es.length ∧ es.length ≤ 1152921504606846976 ∧ (∀ e ∈ es, e.okIn B w) ∧
  (es = [] ∨ ∃ b off, s.a = some ⟨b, off, none⟩ ∧ b < B ∧ ∀ k, k < es.length → EvCells w b (off + k * 13) (es.getD k default))
theorem EvCells.below {B : Nat} {w w' : World} {b o : Nat} {e : Ev} (h : EvCells w b o e) (hb : Below B w w') (hB : b < B) : EvCells w' b o e := by
  unfold EvCells at *
  simp only [show ∀ j, w'.cell? ⟨b, j, none⟩ = w.cell? ⟨b, j, none⟩ from fun j => hb.cell (p := ⟨b, j, none⟩) hB]
  exact h
theorem EvsIn.below {B : Nat} {w w' : World} {s : Sl} {es : List Ev} (h : EvsIn B w s es) (hb : Below B w w') : EvsIn B w' s es := by
  obtain ⟨h1, h2, h3, h4⟩ := h
  refine ⟨h1, h2, fun e he => (h3 e he).below hb, ?_⟩
  rcases h4 with h4 | ⟨b, off, h4, h5, h6⟩
  · exact Or.inl h4
  · exact Or.inr ⟨b, off, h4, h5, fun k hk => (h6 k hk).below hb h5⟩
theorem EvsIn.mono {B B' : Nat} {w : World} {s : Sl} {es : List Ev} (h : EvsIn B w s es) (hB : B ≤ B') : EvsIn B' w s es := by
  obtain ⟨h1, h2, h3, h4⟩ := h
  refine ⟨h1, h2, fun e he => ⟨(h3 e he).1.mono hB, (h3 e he).2.1.mono hB, (h3 e he).2.2.1.mono hB, (h3 e he).2.2.2⟩, ?_⟩
  rcases h4 with h4 | ⟨b, off, h4, h5, h6⟩
  · exact Or.inl h4
  · exact Or.inr ⟨b, off, h4, by omega, h6⟩
/-- the lists of coherence order: slices of slices -/
def RowsIn (B : Nat) (w : World) (s : Sl) (rows : List (Sl × List Int)) : Prop :=
  s.n = rows.length ∧ rows.length ≤ 1152921504606846976 ∧ (∀ r ∈ rows, IntsIn .i64 B w r.1 r.2) ∧
  (rows = [] ∨ ∃ b off, s.a = some ⟨b, off, none⟩ ∧ b < B ∧ ∀ k, k < rows.length → w.cell? ⟨b, off + k, none⟩ = some (rows.getD k default).1.v)
theorem RowsIn.below {B : Nat} {w w' : World} {s : Sl} {rows : List (Sl × List Int)} (h : RowsIn B w s rows) (hb : Below B w w') : RowsIn B w' s rows := by
  obtain ⟨h1, h2, h3, h4⟩ := h
  refine ⟨h1, h2, fun e he => (h3 e he).below hb, ?_⟩
  rcases h4 with h4 | ⟨b, off, h4, h5, h6⟩
  · exact Or.inl h4
  · exact Or.inr ⟨b, off, h4, h5, fun k hk => by rw [hb.cell (by exact h5)]; exact h6 k hk⟩
/-- An execution: its three slices, and what they hold. -/
structure Ex where
  es : Sl
  fs : Sl
  os : Sl
  evs : List Ev
  from_ : List Int
  order : List (Sl × List Int)
  deriving Inhabited
def Ex.agg (x : Ex) : Value := .agg #[.slice x.es.a x.es.n x.es.c, .slice x.fs.a x.fs.n x.fs.c, .slice x.os.a x.os.n x.os.c]
def Ex.inW (B : Nat) (w : World) (x : Ex) : Prop := EvsIn B w x.es x.evs ∧ IntsIn .i64 B w x.fs x.from_ ∧ RowsIn B w x.os x.order
theorem Ex.inW.below {B : Nat} {w w' : World} {x : Ex} (h : x.inW B w) (hb : Below B w w') : x.inW B w' := ⟨h.1.below hb, h.2.1.below hb, h.2.2.below hb⟩
/-! ### whether an event may hang on those -/
def depOk (es : List Ev) (n : Nat) (l : List Int) (i : Nat) : Bool :=
  !(decide (l.getD i 0 < 0)) && !(decide ((n : Int) ≤ l.getD i 0)) && !(decide (0 < i) && decide (l.getD i 0 ≤ l.getD (i - 1) 0)) &&
    !((es.getD (l.getD i 0).toNat default).hart != (es.getD n default).hart) && (es.getD (l.getD i 0).toNat default).ldB
def hangsTo (es : List Ev) (n : Nat) (l : List Int) (k : Nat) : Bool := (List.range k).all (depOk es n l)
def hangsB (es : List Ev) (n : Nat) (l : List Int) : Bool := hangsTo es n l l.length
theorem hangsTo_succ (es : List Ev) (n : Nat) (l : List Int) (k : Nat) : hangsTo es n l (k + 1) = (hangsTo es n l k && depOk es n l k) := by
  simp [hangsTo, List.range_succ]
theorem hangsTo_false (es : List Ev) (n : Nat) (l : List Int) (k : Nat) (hk : k < l.length) (h : depOk es n l k = false) : hangsB es n l = false := by
  unfold hangsB hangsTo
  rw [List.all_eq_false]
  exact ⟨k, by simpa using hk, by simp [h]⟩
set_option maxRecDepth 100000 in
set_option maxHeartbeats 1000000 in
theorem hangs_c (x : Ex) (n : Nat) (s : Sl) (l : List Int) (w : World) (hx : EvsIn w.heap.size w x.es x.evs) (hl : IntsIn .i64 w.heap.size w s l) (hn : n < x.evs.length) :
    Calls Tryz.prog 82 #[x.agg, .int .i64 n, .slice s.a s.n s.c] w fun o w' => o = .returned (.bool (hangsB x.evs n l)) ∧ Below w.heap.size w w' := by
  obtain ⟨⟨ea, en, ec⟩, ⟨fa, fn, fc⟩, ⟨oa, on, oc⟩, evs, from_, order⟩ := x
  obtain ⟨la, ln, lc⟩ := s
  obtain ⟨h1, h2, h3, h4⟩ := hx
  obtain ⟨g1, g2, g3⟩ := hl
  dsimp only at h1 h2 h3 h4 g1 g2 g3 hn
  unfold Ex.agg
  dsimp only
  subst h1 g1
  have h4' : ∃ b off, ea = some ⟨b, off, none⟩ ∧ b < w.heap.size ∧ ∀ k, k < evs.length → EvCells w b (off + k * 13) (evs.getD k default) := by
    rcases h4 with h4 | h4
    · subst h4; simp at hn
    · exact h4
  obtain ⟨b, off, rfl, hbB, hcell⟩ := h4'
  clear h4
  obtain ⟨res, hres⟩ : ∃ x : Bool, hangsB evs n l = x := ⟨_, rfl⟩
  rw [hres]
  have RES := Lib.hid hres
  clear hres
  go_enter Tryz.func82, Tryz.ntmps82
  go_upto_region 0 with (fail)
  go_cut [0, 3] (fun s0 s3 wx => s3 = .pointer (some ⟨w.heap.size, 0, none⟩) ∧ Below w.heap.size w wx ∧ w.heap.size < wx.heap.size ∧ wx.cell? ⟨w.heap.size, 0, none⟩ = some (.slice (some ⟨b, off, none⟩) evs.length ec))
  case first =>
    go_wp2_with fail
    go_meet
    exact ⟨rfl, (Below.refl _ _).alloc (Nat.le_refl _) _, by simp, by simp⟩
  case rest =>
  obtain ⟨rfl, hb, hsz, c0⟩ := hcut
  have hw : ∀ b o, b < w.heap.size → wc.cell? ⟨b, o, none⟩ = w.cell? ⟨b, o, none⟩ := fun b o h => hb.cell (p := ⟨b, o, none⟩) h
  go_wp2
  go_loopw [11] (fun i wr => ∃ k : Nat, k ≤ l.length ∧ i = .int .i64 k ∧ hangsTo evs n l k = true ∧ Below wc.heap.size wc wr) (fun i _ => l.length - (intOf i).toNat)
  case atStart => exact ⟨0, by omega, rfl, rfl, Below.refl _ _⟩
  case round =>
    obtain ⟨k, hk, rfl, hto, hbr⟩ := hrel
    have HTO := Lib.hid hto
    clear hto
    by_cases hlt : k < l.length
    · have hl' : ∃ lb lo, la = some ⟨lb, lo, none⟩ ∧ lb < w.heap.size ∧ ∀ k, k < l.length → w.cell? ⟨lb, lo + k, none⟩ = some (.int .i64 (l.getD k 0)) := by
        rcases g3 with g3 | g3
        · subst g3; simp at hlt
        · exact g3
      obtain ⟨lb, lo, rfl, hlB, hlc⟩ := hl'
      have hwr : ∀ b o, b < w.heap.size → wr.cell? ⟨b, o, none⟩ = w.cell? ⟨b, o, none⟩ := fun b o h => (hbr.cell (p := ⟨b, o, none⟩) (by show b < _; omega)).trans (hw b o h)
      have c0r : wr.cell? ⟨w.heap.size, 0, none⟩ = some (.slice (some ⟨b, off, none⟩) evs.length ec) := (hbr.cell (p := ⟨w.heap.size, 0, none⟩) hsz).trans c0
      obtain ⟨d, hd⟩ : ∃ d, l.getD k 0 = d := ⟨_, rfl⟩
      have ck : wr.cell? ⟨lb, lo + k, none⟩ = some (.int .i64 d) := by rw [hwr _ _ hlB, hlc k hlt, hd]
      have HD := Lib.hid hd
      have HW := Lib.hid hw
      have HC := Lib.hid hcell
      have HLC := Lib.hid hlc
      have HWR := Lib.hid hwr
      clear hw hcell hlc hwr hd g3
      have c0o : ∀ p, (over wr p).cell? ⟨w.heap.size, 0, none⟩ = some (.slice (some ⟨b, off, none⟩) evs.length ec) := fun p => over_cell wr p (by have := hbr.size; omega) c0r
      by_cases hd0 : d < 0
      · have F : Hid (res = false) := Lib.hid (by rw [← RES.out]; exact hangsTo_false _ _ _ _ hlt (by unfold depOk; rw [HD.out]; simp [hd0]))
        go_wp2
        refine wp_region_over (by kernel_rfl) (by kernel_rfl) ?_
        repeat (go_big_quiet_step (fail))
        refine wpQuiet_nil ?_
        intro wq hwq
        obtain ⟨pq, hwq2⟩ := hwq
        have hbq : Below wr.heap.size wr wq := by rw [hwq2]; exact over_below wr pq
        clear hwq2
        go_wp2
        go_ret
        exact ⟨ret_bool F.out.symm, hb.trans ((hbr.trans (hbq.mono hbr.size)).mono (by omega))⟩
      have b1 : decide (d < 0) = false := by simpa using hd0
      by_cases hdn : (n : Int) ≤ d
      · have F : Hid (res = false) := Lib.hid (by rw [← RES.out]; exact hangsTo_false _ _ _ _ hlt (by unfold depOk; rw [HD.out]; simp [hdn]))
        go_wp2
        refine wp_region_over (by kernel_rfl) (by kernel_rfl) ?_
        repeat (go_big_quiet_step (fail))
        refine wpQuiet_nil ?_
        intro wq hwq
        obtain ⟨pq, hwq2⟩ := hwq
        have hbq : Below wr.heap.size wr wq := by rw [hwq2]; exact over_below wr pq
        clear hwq2
        go_wp2
        go_ret
        exact ⟨ret_bool F.out.symm, hb.trans ((hbr.trans (hbq.mono hbr.size)).mono (by omega))⟩
      have b2 : decide ((n : Int) ≤ d) = false := by simpa using hdn
      obtain ⟨dn, rfl⟩ : ∃ dn : Nat, d = dn := ⟨d.toNat, by omega⟩
      have hdlt : dn < evs.length := by omega
      have b3 : decide (n ≤ dn) = false := by simp; omega
      have b4 : decide ((dn : Int) < 0) = false := by simp
      obtain ⟨E, hE⟩ : ∃ E, evs.getD dn default = E := ⟨_, rfl⟩
      obtain ⟨N, hN⟩ : ∃ N, evs.getD n default = N := ⟨_, rfl⟩
      have eD := (((HC.out dn hdlt).below hb hbB).below hbr (show b < wc.heap.size by omega))
      rw [hE] at eD
      have eN := (((HC.out n hn).below hb hbB).below hbr (show b < wc.heap.size by omega)).1
      rw [hN] at eN
      have hbs : b < wr.heap.size := by have := hbr.size; omega
      have oD : ∀ p, EvCells (over wr p) b (off + dn * 13) E := fun p => eD.below (over_below wr p) hbs
      have o2 : ∀ p, (over wr p).cell? ⟨b, off + n * 13, none⟩ = some (.int .i64 N.hart) := fun p => over_cell wr p hbs eN
      clear eD eN
      unfold EvCells at oD
      have o1 : ∀ p, (over wr p).cell? ⟨b, off + dn * 13, none⟩ = some (.int .i64 E.hart) := fun p => (oD p).1
      have p1 := fun p => (oD p).2.1
      have p2 := fun p => (oD p).2.2.1
      have p3 := fun p => (oD p).2.2.2.1
      have p4 := fun p => (oD p).2.2.2.2.1
      have p5 := fun p => (oD p).2.2.2.2.2.1
      have p6 := fun p => (oD p).2.2.2.2.2.2.1
      have p7 := fun p => (oD p).2.2.2.2.2.2.2.1
      have p8 := fun p => (oD p).2.2.2.2.2.2.2.2.1
      have p9 := fun p => (oD p).2.2.2.2.2.2.2.2.2.1
      have p10 := fun p => (oD p).2.2.2.2.2.2.2.2.2.2.1
      have p11 := fun p => (oD p).2.2.2.2.2.2.2.2.2.2.2.1
      have p12 := fun p => (oD p).2.2.2.2.2.2.2.2.2.2.2.2
      clear oD
      have HE := Lib.hid hE
      have HN := Lib.hid hN
      clear hE hN
      by_cases hk0 : 0 < k
      · have ckp : ∀ p, (over wr p).cell? ⟨lb, lo + (k - 1), none⟩ = some (.int .i64 (l.getD (k - 1) 0)) := fun p => over_cell wr p (by have := hbr.size; omega) (by rw [HWR.out _ _ hlB, HLC.out (k - 1) (by omega)])
        obtain ⟨pv, hpv⟩ : ∃ pv, l.getD (k - 1) 0 = pv := ⟨_, rfl⟩
        rw [hpv] at ckp
        have HPV := Lib.hid hpv
        clear hpv
        by_cases hge : (dn : Int) ≤ pv
        · have F : Hid (res = false) := Lib.hid (by rw [← RES.out]; exact hangsTo_false _ _ _ _ hlt (by unfold depOk; rw [HD.out, HPV.out]; simp [hk0, hge]))
          go_wp2
          refine wp_region_over (by kernel_rfl) (by kernel_rfl) ?_
          repeat (go_big_quiet_step (fail))
          refine wpQuiet_nil ?_
          intro wq hwq
          obtain ⟨pq, hwq2⟩ := hwq
          have hbq : Below wr.heap.size wr wq := by rw [hwq2]; exact over_below wr pq
          clear hwq2
          go_wp2
          go_ret
          exact ⟨ret_bool F.out.symm, hb.trans ((hbr.trans (hbq.mono hbr.size)).mono (by omega))⟩
        have b5 : decide ((dn : Int) ≤ pv) = false := by simpa using hge
        by_cases hh : (E.hart != N.hart) = true
        · have F : Hid (res = false) := Lib.hid (by rw [← RES.out]; exact hangsTo_false _ _ _ _ hlt (by unfold depOk; rw [HD.out, HPV.out, Int.toNat_natCast, HE.out, HN.out, hh]; simp))
          go_wp2
          refine wp_region_over (by kernel_rfl) (by kernel_rfl) ?_
          repeat (go_big_quiet_step (fail))
          refine wpQuiet_nil ?_
          intro wq hwq
          obtain ⟨pq, hwq2⟩ := hwq
          have hbq : Below wr.heap.size wr wq := by rw [hwq2]; exact over_below wr pq
          clear hwq2
          go_wp2
          go_ret
          exact ⟨ret_bool F.out.symm, hb.trans ((hbr.trans (hbq.mono hbr.size)).mono (by omega))⟩
        have hh' : (E.hart != N.hart) = false := by simpa using hh
        clear hh
        have LD := Lib.hid (fun w => loads_c E w)
        by_cases hL : E.ldB = true
        · have D : Hid (depOk evs n l k = true) := Lib.hid (by unfold depOk; rw [HD.out, HPV.out, Int.toNat_natCast, HE.out, HN.out, hh', hL]; simp; omega)
          have LL := Lib.hid hL
          clear hL
          go_wp2
          refine wp_region_over (by kernel_rfl) (by kernel_rfl) ?_
          repeat (go_big_quiet_step (((go_at_call 59; refine quiet_over (?_ : Calls _ _ _ _ fun e w' => e = .returned (.bool true) ∧ _); have t := LD.out; rw [LL.out] at t; exact t _))))
          refine wpQuiet_nil ?_
          intro wq hwq
          obtain ⟨pq, hwq2⟩ := hwq
          have hbq : Below wr.heap.size wr wq := by rw [hwq2]; exact over_below wr pq
          clear hwq2
          go_wp2
          go_roundw
          case rel => exact ⟨k + 1, by omega, by go_num, by rw [hangsTo_succ, HTO.out, D.out]; rfl, hbr.trans (hbq.mono hbr.size)⟩
          case measure => simp [intOf]; omega
        · have hL' : E.ldB = false := by simpa using hL
          have F : Hid (res = false) := Lib.hid (by rw [← RES.out]; exact hangsTo_false _ _ _ _ hlt (by unfold depOk; rw [HD.out, HPV.out, Int.toNat_natCast, HE.out, HN.out, hL']; simp))
          have LL := Lib.hid hL'
          clear hL hL'
          go_wp2
          refine wp_region_over (by kernel_rfl) (by kernel_rfl) ?_
          repeat (go_big_quiet_step (((go_at_call 59; refine quiet_over (?_ : Calls _ _ _ _ fun e w' => e = .returned (.bool false) ∧ _); have t := LD.out; rw [LL.out] at t; exact t _))))
          refine wpQuiet_nil ?_
          intro wq hwq
          obtain ⟨pq, hwq2⟩ := hwq
          have hbq : Below wr.heap.size wr wq := by rw [hwq2]; exact over_below wr pq
          clear hwq2
          go_wp2
          go_ret
          exact ⟨ret_bool F.out.symm, hb.trans ((hbr.trans (hbq.mono hbr.size)).mono (by omega))⟩
      · have hkz : ¬ (0 < k) := hk0
        by_cases hh : (E.hart != N.hart) = true
        · have F : Hid (res = false) := Lib.hid (by rw [← RES.out]; exact hangsTo_false _ _ _ _ hlt (by unfold depOk; rw [HD.out, Int.toNat_natCast, HE.out, HN.out, hh]; simp))
          go_wp2
          refine wp_region_over (by kernel_rfl) (by kernel_rfl) ?_
          repeat (go_big_quiet_step (fail))
          refine wpQuiet_nil ?_
          intro wq hwq
          obtain ⟨pq, hwq2⟩ := hwq
          have hbq : Below wr.heap.size wr wq := by rw [hwq2]; exact over_below wr pq
          clear hwq2
          go_wp2
          go_ret
          exact ⟨ret_bool F.out.symm, hb.trans ((hbr.trans (hbq.mono hbr.size)).mono (by omega))⟩
        have hh' : (E.hart != N.hart) = false := by simpa using hh
        clear hh
        have LD := Lib.hid (fun w => loads_c E w)
        by_cases hL : E.ldB = true
        · have D : Hid (depOk evs n l k = true) := Lib.hid (by unfold depOk; rw [HD.out, Int.toNat_natCast, HE.out, HN.out, hh', hL]; simp [hkz]; omega)
          have LL := Lib.hid hL
          clear hL
          go_wp2
          refine wp_region_over (by kernel_rfl) (by kernel_rfl) ?_
          repeat (go_big_quiet_step (((go_at_call 59; refine quiet_over (?_ : Calls _ _ _ _ fun e w' => e = .returned (.bool true) ∧ _); have t := LD.out; rw [LL.out] at t; exact t _))))
          refine wpQuiet_nil ?_
          intro wq hwq
          obtain ⟨pq, hwq2⟩ := hwq
          have hbq : Below wr.heap.size wr wq := by rw [hwq2]; exact over_below wr pq
          clear hwq2
          go_wp2
          go_roundw
          case rel => exact ⟨k + 1, by omega, by go_num, by rw [hangsTo_succ, HTO.out, D.out]; rfl, hbr.trans (hbq.mono hbr.size)⟩
          case measure => simp [intOf]; omega
        · have hL' : E.ldB = false := by simpa using hL
          have F : Hid (res = false) := Lib.hid (by rw [← RES.out]; exact hangsTo_false _ _ _ _ hlt (by unfold depOk; rw [HD.out, Int.toNat_natCast, HE.out, HN.out, hL']; simp))
          have LL := Lib.hid hL'
          clear hL hL'
          go_wp2
          refine wp_region_over (by kernel_rfl) (by kernel_rfl) ?_
          repeat (go_big_quiet_step (((go_at_call 59; refine quiet_over (?_ : Calls _ _ _ _ fun e w' => e = .returned (.bool false) ∧ _); have t := LD.out; rw [LL.out] at t; exact t _))))
          refine wpQuiet_nil ?_
          intro wq hwq
          obtain ⟨pq, hwq2⟩ := hwq
          have hbq : Below wr.heap.size wr wq := by rw [hwq2]; exact over_below wr pq
          clear hwq2
          go_wp2
          go_ret
          exact ⟨ret_bool F.out.symm, hb.trans ((hbr.trans (hbq.mono hbr.size)).mono (by omega))⟩
    · have hke : k = l.length := by omega
      have F : Hid (res = true) := Lib.hid (by rw [← RES.out]; unfold hangsB; rw [← hke]; exact HTO.out)
      clear hke
      go_wp2
      go_ret
      exact ⟨ret_bool F.out.symm, hb.trans (hbr.mono (by omega))⟩
end Go.Proofs.YtnghoibkjphfmaaGreat
/- The addresses that events have, rising. -/
namespace Go.Proofs.YtnghoibkjphfmaaGreat
open Go.RowKit Go.Maps Go.Sort
/-- a number into a rising list, once -/
def addIn (a : Int) : List Int → List Int
  | [] => [a]
  | x :: r => if x < a then x :: addIn a r else if x = a then x :: r else a :: x :: r
def addrsTo (es : List Ev) : List Int := es.foldl (fun l e => if e.kind = 4 then l else addIn e.addr l) []
theorem mem_addIn (a x : Int) : ∀ l, x ∈ addIn a l ↔ x = a ∨ x ∈ l
  | [] => by simp [addIn]
  | y :: r => by
    unfold addIn
    split
    · simp only [List.mem_cons, mem_addIn a x r]; exact or_left_comm
    · split
      · rename_i h1 h2; subst h2; simp
      · simp
theorem addIn_rising (a : Int) : ∀ l : List Int, l.Pairwise (· < ·) → (addIn a l).Pairwise (· < ·)
  | [], _ => by simp [addIn]
  | y :: r, h => by
    rw [List.pairwise_cons] at h
    unfold addIn
    split
    · rename_i h1
      rw [List.pairwise_cons]
      exact ⟨fun z hz => by rcases (mem_addIn a z r).1 hz with rfl | hz; exact h1; exact h.1 z hz, addIn_rising a r h.2⟩
    · split
      · exact List.pairwise_cons.2 h
      · rename_i h1 h2
        rw [List.pairwise_cons]
        exact ⟨fun z hz => by rcases List.mem_cons.1 hz with rfl | hz; omega; have := h.1 z hz; omega, List.pairwise_cons.2 h⟩
theorem addrsTo_snoc (es : List Ev) (e : Ev) : addrsTo (es ++ [e]) = if e.kind = 4 then addrsTo es else addIn e.addr (addrsTo es) := by
  simp [addrsTo, List.foldl_append]
theorem addrsTo_rising (es : List Ev) : (addrsTo es).Pairwise (· < ·) := by
  suffices h : ∀ (es : List Ev) (l : List Int), l.Pairwise (· < ·) → (es.foldl (fun l e => if e.kind = 4 then l else addIn e.addr l) l).Pairwise (· < ·) from h es [] (by simp)
  intro es
  induction es with
  | nil => intro l h; exact h
  | cons e r ih =>
    intro l h
    rw [List.foldl_cons]
    refine ih _ ?_
    split
    · exact h
    · exact addIn_rising _ _ h
theorem length_addIn (a : Int) : ∀ l : List Int, (addIn a l).length ≤ l.length + 1
  | [] => by simp [addIn]
  | y :: r => by
    unfold addIn
    split
    · simp; exact length_addIn a r
    · split <;> simp
theorem addrsTo_len (es : List Ev) : (addrsTo es).length ≤ es.length := by
  suffices h : ∀ (es : List Ev) (l : List Int), (es.foldl (fun l e => if e.kind = 4 then l else addIn e.addr l) l).length ≤ l.length + es.length from by simpa [addrsTo] using h es []
  intro es
  induction es with
  | nil => intro l; simp
  | cons e r ih =>
    intro l
    rw [List.foldl_cons]
    refine Nat.le_trans (ih _) ?_
    split
    · simp
    · have := length_addIn e.addr l
      simp; omega
/-- what is sorted and has the same members, each once, is the list -/
theorem sorted_same {ss l : List Int} (hn : ss.Nodup) (hl : l.Pairwise (· < ·)) (hm : ∀ x, x ∈ ss ↔ x ∈ l) : ss.mergeSort (fun x y => decide (x ≤ y)) = l := by
  have hp : ss.Perm l := (List.perm_ext_iff_of_nodup hn (hl.imp (fun h => by omega))).2 hm
  refine List.Perm.eq_of_pairwise (le := fun a b : Int => a ≤ b) (fun a b _ _ h1 h2 => by omega) ?_ (hl.imp (fun h => by omega)) ((List.mergeSort_perm ss _).trans hp)
  refine (List.pairwise_mergeSort (le := fun x y : Int => decide (x ≤ y)) (fun a b c h1 h2 => by simp at *; omega) (fun a b => by simp; omega) ss).imp ?_
  intro a b h; simpa using h
/-- the map holds the addresses -/
def Has (D : DataW Unit) (l : List Int) : Prop := ∀ x, has D (.int .u32 x) = true ↔ x ∈ l
theorem Has.put {D : DataW Unit} {l : List Int} (h : Has D l) (hm : IsMap D) (a : Int) (d : DataW Unit) : Has (D.put (.int .u32 a) d) (addIn a l) := by
  intro x
  rw [mem_addIn]
  by_cases hx : x = a
  · subst hx
    simp [has_put_same hm (show WideAt.IsKeyLit (Lit.int .u32 x) from trivial)]
  · rw [has_put_other (by simpa using hx), h x]
    simp [hx]
theorem zeroI (w : World) : (zeroValue 3).run Tryz.prog w = .ok (.int .i64 0) w := by kernel_rfl
theorem enters_keys : ∀ args w, (callFunc 92 args).run Tryz.prog w = .ok (.enter 92 args) w := enters_of Tryz.func92 (by kernel_rfl) rfl
/-- slices.Sorted(maps.Keys(m)), of a map of the call's own -/
theorem sortedKeys_c (hs : ∀ m, Sorts_u Fence.wide m) (b nn : Nat) (D : DataW Unit) (l : List Int) (w : World) (hown : w.ownsMap Tryz.prog 39 (plainElem Tryz.prog 3) b nn D) (hD : Has D l) (hr : l.Pairwise (· < ·)) (hn : nn ≤ 4294967296) (Bm : Nat) (hBm : Bm < w.heap.size) (hm : w.cell? ⟨Bm, 0, none⟩ = some (.map (some b))) :
    Calls Tryz.prog 79 #[.func (.func 92) #[] #[.pointer (some ⟨Bm, 0, none⟩)]] w fun e w' => ∃ v, e = .returned v ∧ w'.ownsRow w.heap.size 39 1 v l.length (l.map (Value.int .u32)) ∧ (v = .slice none 0 0 ↔ l = []) ∧ Below w.heap.size w w' := by
  refine callsIn_wide.1 ((sorted_u Fence.wide (fun _ => trivial) 5 rfl (by omega) (hs _) _ _ enters_keys KeepsWalks _ _ (Maps.size D) ?_ ?_ w walksK_t walksK_b (fun _ _ h _ => h.walks) (keys_stops Fence.wide (fun _ => trivial) _ rfl (by omega) Bm b nn D w hBm hm hown)).mono ?_)
  · have := hown.size_le
    unfold maxLen; omega
  · have := hown.size_le
    omega
  · rintro e w' ⟨v, ss, rfl, ⟨hnd, hk⟩, _, hrow, hnil, hb⟩
    have e1 := sorted_same hnd hr (fun x => by rw [hk x]; exact hD x)
    have e2 : ss.length = l.length := by rw [← e1, List.length_mergeSort]
    rw [e1, e2] at hrow
    refine ⟨v, rfl, hrow, ?_, hb⟩
    rw [hnil]
    constructor
    · intro h; subst h; exact List.length_eq_zero_iff.1 e2.symm
    · intro h; subst h; exact List.length_eq_zero_iff.1 e2
theorem u32_wf {a : Int} (h1 : 0 ≤ a) (h2 : a < 4294967296) : (Lit.int .u32 a).wf = true := by
  simp only [Lit.wf, Bool.and_eq_true, decide_eq_true_eq]
  have e1 : IntKind.u32.min = 0 := by decide
  have e2 : IntKind.u32.max = 4294967295 := by decide
  omega
theorem row_ints (q : IntKind) {w : World} {base : Nat} {e : TypeId} {v : Value} {l : List Int} (hl : l.length ≤ 1152921504606846976) (h : w.ownsRow base e 1 v l.length (l.map (Value.int q))) :
    ∃ s : Sl, v = .slice s.a s.n s.c ∧ IntsIn q w.heap.size w s l := by
  rcases h.2 with ⟨rfl, hz⟩ | ⟨gb, cap, cur, rfl, hbase, hgb, r1, r2, r3, r4⟩
  · have : l = [] := List.eq_nil_of_length_eq_zero hz
    subst this
    exact ⟨⟨none, 0, 0⟩, rfl, rfl, by simp, Or.inl rfl⟩
  · have hH : Holds (Value.int q) w gb 0 l.toArray := holds_of_blockE _ hgb (by simpa using r4)
    refine ⟨⟨some ⟨gb, 0, none⟩, l.length, cap⟩, rfl, rfl, hl, Or.inr ⟨gb, 0, rfl, (Array.getElem?_eq_some_iff.1 hgb).1, fun k hk => ?_⟩⟩
    have := (hH k (by simpa using hk)).1
    rw [this]
    simp [List.getD, hk]
theorem ownsMap_below {b nn n₀ : Nat} {D : DataW Unit} {w w' : World} (h : w.ownsMap Tryz.prog 39 (plainElem Tryz.prog 3) b nn D) (hb : Below n₀ w w') (hlt : b < n₀) : w'.ownsMap Tryz.prog 39 (plainElem Tryz.prog 3) b nn D := by
  obtain ⟨es, clock, hb', Ft, hs, hD⟩ := h
  exact ⟨es, clock, (hb.block b hlt).trans hb', Ft, hs, hD⟩
set_option maxRecDepth 100000 in
set_option maxHeartbeats 2000000 in
theorem addresses_c (hs : ∀ m, Sorts_u Fence.wide m) (x : Ex) (w : World) (hx : EvsIn w.heap.size w x.es x.evs) (hlen : x.evs.length ≤ 64) :
    Calls Tryz.prog 46 #[x.agg] w fun o w' => ∃ s : Sl, o = .returned (.slice s.a s.n s.c) ∧ IntsIn .u32 w'.heap.size w' s (addrsTo x.evs) ∧ Below w.heap.size w w' := by
  obtain ⟨⟨ea, en, ec⟩, ⟨fa, fn, fc⟩, ⟨oa, on, oc⟩, evs, from_, order⟩ := x
  obtain ⟨e1, esm, hev, ecl⟩ := hx
  dsimp only at e1 esm hev ecl hlen
  subst e1
  unfold Ex.agg
  dsimp only
  have hmm := @run_makeMap Tryz.prog
  have KS := Lib.hid (fun mb w => callsIn_wide.1 (keys_u Fence.wide (fun _ => trivial) 0 rfl mb w))
  go_enter Tryz.func46, Tryz.ntmps46
  go_upto_region 1 with (fail)
  refine alloc_opaque (X := fun W => Code.wp _ _ _ _ W) ?_
  intro wc hb hsz hcs
  have c0 : wc.cell? ⟨w.heap.size, 0, none⟩ = some (.slice ea evs.length ec) := hcs 0 _ rfl
  clear hcs
  have HEV := Lib.hid hev
  have HCL := Lib.hid ecl
  clear hev ecl
  go_wp2
  go_loopw [10] (fun i wr => ∃ (k nn : Nat) (D : DataW Unit), k ≤ evs.length ∧ i = .int .i64 k ∧ nn ≤ k ∧ wr.ownsMap Tryz.prog 39 (plainElem Tryz.prog 3) wc.heap.size nn D ∧ Has D (addrsTo (evs.take k)) ∧ Below wc.heap.size wc wr) (fun i _ => evs.length - (intOf i).toNat)
  case atStart => exact ⟨0, 0, .map [], by omega, rfl, by omega, World.ownsMap_made _ _ _ _, fun y => by simp [addrsTo, Maps.has], (Below.refl _ _).alloc (Nat.le_refl _) _⟩
  case round =>
    obtain ⟨k, nn, D, hk, rfl, hnn, hown, hD, hbr⟩ := hrel
    have c0r : wr.cell? ⟨w.heap.size, 0, none⟩ = some (.slice ea evs.length ec) := (hbr.cell (p := ⟨w.heap.size, 0, none⟩) hsz).trans c0
    have HD := Lib.hid hD
    clear hD hmm
    by_cases hlt : k < evs.length
    · obtain ⟨b, off, rfl, hbB, hcl⟩ := HCL.out.resolve_left (by intro h; rw [h] at hlt; simp at hlt)
      obtain ⟨E, hE⟩ : ∃ E, evs.getD k default = E := ⟨_, rfl⟩
      have hmem : E ∈ evs := by rw [← hE, List.getD_eq_getElem?_getD, List.getElem?_eq_getElem hlt]; exact List.getElem_mem hlt
      have hwf := (HEV.out E hmem).2.2.2
      have hcE := ((hcl k hlt).below hb hbB).below hbr (show b < wc.heap.size by omega)
      rw [hE] at hcE
      unfold EvCells at hcE
      obtain ⟨q0, q1, q2, q3, q4, q5, q6, q7, q8, q9, q10, q11, q12⟩ := hcE
      have HT : Hid (addrsTo (evs.take (k + 1)) = if E.kind = 4 then addrsTo (evs.take k) else addIn E.addr (addrsTo (evs.take k))) := Lib.hid (by
        rw [← addrsTo_snoc, List.take_succ_eq_append_getElem hlt, ← hE]; simp [List.getD, hlt])
      have hkey : keyOf Tryz.prog 39 (.int .u32 E.addr) = some (.int .u32 E.addr) := keyOf_int_mk Tryz.underlying39 (u32_wf hwf.2.2.1.1 hwf.2.2.1.2)
      clear hE hmem hwf hcl
      go_upto_region 5 with (fail)
      refine alloc_opaque (X := fun W => Code.wp _ _ _ _ W) ?_
      intro w1 hb1 hs1 hcs1
      have t0 : (w1).cell? ⟨wr.heap.size, 0, none⟩ = some (Value.int IntKind.i64 E.hart) := hcs1 0 _ rfl
      have t1 : (w1).cell? ⟨wr.heap.size, 1, none⟩ = some (Value.int IntKind.i64 E.kind) := hcs1 1 _ rfl
      have t2 : (w1).cell? ⟨wr.heap.size, 2, none⟩ = some (Value.int IntKind.u32 E.addr) := hcs1 2 _ rfl
      have t3 : (w1).cell? ⟨wr.heap.size, 3, none⟩ = some (Value.int IntKind.u32 E.val) := hcs1 3 _ rfl
      have t4 : (w1).cell? ⟨wr.heap.size, 4, none⟩ = some (Value.int IntKind.u32 E.rval) := hcs1 4 _ rfl
      have t5 : (w1).cell? ⟨wr.heap.size, 5, none⟩ = some (Value.bool E.aq) := hcs1 5 _ rfl
      have t6 : (w1).cell? ⟨wr.heap.size, 6, none⟩ = some (Value.bool E.rl) := hcs1 6 _ rfl
      have t7 : (w1).cell? ⟨wr.heap.size, 7, none⟩ = some (Value.int IntKind.i64 E.pred) := hcs1 7 _ rfl
      have t8 : (w1).cell? ⟨wr.heap.size, 8, none⟩ = some (Value.int IntKind.i64 E.succ) := hcs1 8 _ rfl
      have t9 : (w1).cell? ⟨wr.heap.size, 9, none⟩ = some (Value.bool E.rsv) := hcs1 9 _ rfl
      have t10 : (w1).cell? ⟨wr.heap.size, 10, none⟩ = some (Value.slice E.av.a E.av.n E.av.c) := hcs1 10 _ rfl
      have t11 : (w1).cell? ⟨wr.heap.size, 11, none⟩ = some (Value.slice E.dv.a E.dv.n E.dv.c) := hcs1 11 _ rfl
      have t12 : (w1).cell? ⟨wr.heap.size, 12, none⟩ = some (Value.slice E.cv.a E.cv.n E.cv.c) := hcs1 12 _ rfl
      clear hcs1 q0 q1 q2 q3 q4 q5 q6 q7 q8 q9 q10 q11 q12
      have hz1 := hbr.size
      have own1 : w1.ownsMap Tryz.prog 39 (plainElem Tryz.prog 3) wc.heap.size nn D := ownsMap_below hown hb1 hown.lt
      have hb2 : Below wc.heap.size wc w1 := hbr.trans (hb1.mono hz1)
      have OW := Lib.hid hown
      clear hown
      by_cases hf : (E.kind != 4) = true
      · have hne : E.kind ≠ 4 := by simpa using hf
        go_wp2_with (first
          | (at_lookup; refine wpList_lookup_own_int _ rfl _ _ 85 rfl 39 3 .i64 lawU Tryz.underlying85 Tryz.underlying3 (zeroI _) wc.heap.size nn _ rfl own1 _ _ rfl hkey ?_; intro c hat hwc)
          | (at_mapUpdate; refine wpList_mapUpdate_own _ rfl _ _ _ 85 rfl 39 3 lawU Tryz.underlying85 _ wc.heap.size nn _ rfl own1 (by unfold maxLen; omega) _ _ _ rfl rfl hkey _ [] (plainElem_int Tryz.underlying3 (wrap64_wf _)) ?_; intro w2 hown2 hgrow2)
          | go_in)
        go_roundw
        case rel => exact ⟨k + 1, nn + 1, _, by omega, by go_num, by omega, hown2, by rw [HT.out, if_neg hne]; exact HD.out.put own1.isMap _ _, hb2.grown hgrow2 hb2.size (fun j hj => by cases hj; exact Nat.le_refl _)⟩
        case measure => simp [intOf]; omega
      · have hf2 : (E.kind != 4) = false := by simpa using hf
        have he4 : E.kind = 4 := by simpa using hf2
        clear hf
        go_wp2
        go_roundw
        case rel => exact ⟨k + 1, nn, D, by omega, by go_num, by omega, own1, by rw [HT.out, if_pos he4]; exact HD.out, hb2⟩
        case measure => simp [intOf]; omega
    · have hk2 : k = evs.length := by omega
      have HL : Hid (addrsTo (evs.take k) = addrsTo evs) := Lib.hid (by rw [hk2, List.take_length])
      have hnotlt : ¬ k < evs.length := hlt
      have own1 : (wr.alloc (.cells #[.map (some wc.heap.size)] 85)).ownsMap Tryz.prog 39 (plainElem Tryz.prog 3) wc.heap.size nn D := hown.alloc _
      have ctr : Hid (Calls Tryz.prog 79 #[.func (.func 92) #[] #[.pointer (some ⟨wr.heap.size, 0, none⟩)]] (wr.alloc (.cells #[.map (some wc.heap.size)] 85)) fun e w' =>
          ∃ v, e = .returned v ∧ w'.ownsRow (wr.alloc (.cells #[.map (some wc.heap.size)] 85)).heap.size 39 1 v (addrsTo evs).length ((addrsTo evs).map (Value.int .u32)) ∧ (v = .slice none 0 0 ↔ addrsTo evs = []) ∧ Below (wr.alloc (.cells #[.map (some wc.heap.size)] 85)).heap.size (wr.alloc (.cells #[.map (some wc.heap.size)] 85)) w') := Lib.hid (sortedKeys_c hs wc.heap.size nn D (addrsTo evs) _ own1 (by rw [← HL.out]; exact HD.out) (addrsTo_rising evs) (by omega) wr.heap.size (by simp) (by simp))
      clear own1 hs
      go_wp2_with (first
        | (go_at_call 80; refine (KS.out _ _).mono ?_; rintro e w' ⟨rfl, rfl⟩)
        | (go_at_call 79; refine ctr.out.mono ?_; rintro e w5 ⟨v, rfl, hrow, hnil, hb5⟩))
      go_ret
      obtain ⟨s, hv, hi⟩ := row_ints .u32 (by have := addrsTo_len evs; omega) hrow
      refine ⟨s, by rw [hv]; rfl, hi, ?_⟩
      have hb6 : Below wr.heap.size wr w5 := ((Below.refl wr.heap.size wr).alloc (Nat.le_refl _) _).trans (hb5.mono (by simp))
      exact hb.trans ((hbr.trans (hb6.mono hbr.size)).mono (by omega))
end Go.Proofs.YtnghoibkjphfmaaGreat
/- The library's sort at uint32, a part of its walks: turned from the worked walks at int. -/
namespace Go.Proofs.YtnghoibkjphfmaaGreat
open Go.Sort Go.RowKit
theorem xorshift_Next_u (rb ro X : Nat) (hX : X < 18446744073709551616) (w : World) (hc : w.cell? ⟨rb, ro, none⟩ = some (.int .u64 X)) (hf : w.frozen? ⟨rb, ro, none⟩ = false) :
    Calls Tryz.prog 136 #[.pointer (some ⟨rb, ro, none⟩)] w fun e w' => e = .returned (.int .u64 (xorNextN X : Nat)) ∧ w' = (w.setCell ⟨rb, ro, none⟩ (.int .u64 (xorNextN X : Nat))).drewN 3 := by
  obtain ⟨A, hA⟩ : ∃ A : Nat, A = X ^^^ (X * 8192 % 18446744073709551616) := ⟨_, rfl⟩
  obtain ⟨B, hB⟩ : ∃ B : Nat, B = A ^^^ (A / 128) := ⟨_, rfl⟩
  obtain ⟨C, hC⟩ : ∃ C : Nat, C = B ^^^ (B * 131072 % 18446744073709551616) := ⟨_, rfl⟩
  have lA : A < 18446744073709551616 := by rw [hA]; exact Nat.xor_lt_two_pow (n := 64) (by omega) (by omega)
  have lB : B < 18446744073709551616 := by rw [hB]; exact Nat.xor_lt_two_pow (n := 64) (by omega) (by omega)
  have e1 : bits .xor .u64 (X : Int) (IntKind.u64.wrap ((X : Int) * 8192)) = (A : Int) := by
    rw [IntKind.wrap_u64, show ((X : Int) * 8192 % 18446744073709551616) = ((X * 8192 % 18446744073709551616 : Nat) : Int) by omega, bits_xor_u64_nat _ _ hX (by omega), hA]
  have e2 : bits .xor .u64 (A : Int) ((A : Int) / 128) = (B : Int) := by
    rw [show ((A : Int) / 128) = ((A / 128 : Nat) : Int) by omega, bits_xor_u64_nat _ _ lA (by omega), hB]
  have e3 : bits .xor .u64 (B : Int) (IntKind.u64.wrap ((B : Int) * 131072)) = (C : Int) := by
    rw [IntKind.wrap_u64, show ((B : Int) * 131072 % 18446744073709551616) = ((B * 131072 % 18446744073709551616 : Nat) : Int) by omega, bits_xor_u64_nat _ _ lB (by omega), hC]
  have hv : xorNextN X = C := by unfold xorNextN; simp only []; rw [← hA, ← hB, ← hC]
  rw [hv]
  clear hA hB hC hv
  have hss : ∀ v v', (w.setCell ⟨rb, ro, none⟩ v).setCell ⟨rb, ro, none⟩ v' = w.setCell ⟨rb, ro, none⟩ v' := setCell_setCell w rb ro
  go_enter Tryz.func136, Tryz.ntmps136
  go_wp2
  go_region
  all_goals go_wp2
  all_goals go_region
  all_goals go_wp2
  all_goals go_region
  all_goals go_wp2
  go_ret
  exact ⟨rfl, rfl⟩
theorem nextPowerOfTwo_u (n : Nat) (hn : n < 4611686018427387904) (w : World) :
    Calls Tryz.prog 135 #[.int .i64 n] w fun e w' => e = .returned (.int .u64 ((1 <<< bitsLen n : Nat) : Int)) ∧ w' = w := by
  have hLen : ∀ w, Calls Tryz.prog 101 #[.int .u64 (n : Int)] w fun e w' => e = .returned (.int .i64 (bitsLen n : Nat)) ∧ w' = w := fun w => by
    have h := Tryz.bits_Len (n : Int) w (by omega) (by omega)
    rwa [Int.toNat_natCast, bitLen_eq _ (by omega)] at h
  have hk : bitsLen n ≤ 62 := (bitsLen_le_iff n 62).2 (by omega)
  have hp := wrap_two_pow (bitsLen n) hk
  go_enter Tryz.func135, Tryz.ntmps135
  go_wp2_with (first | (go_at_call 101; refine (hLen _).mono ?_; rintro e w' ⟨rfl, rfl⟩))
  go_ret
  exact ⟨rfl, rfl⟩
set_option maxHeartbeats 1000000 in
set_option maxRecDepth 100000 in
theorem breakPatterns_u_go (blk off cap a L : Nat) (d : Array Int) (w : World) (hH : Holds encU w blk off d) (hblk : blk < w.heap.size) (hb : a + L ≤ d.size) (hsz : d.size < 4611686018427387904) (h8 : 8 ≤ L) :
    Calls Tryz.prog 108 #[.slice (some ⟨blk, off, none⟩) d.size cap, .int .i64 a, .int .i64 ((a + L : Nat) : Int)] w fun e w' =>
      e = .returned (.tuple #[]) ∧ ∃ n os, w' = grow (putRow encU (Sort.ahead w n) blk off (breakPatterns d a (a + L))) os := by
  rw [breakPatterns_eq d a L h8]
  obtain ⟨M, hM⟩ : ∃ M : Nat, M = 1 <<< bitsLen L := ⟨_, rfl⟩
  have hM1 : 1 ≤ M := by rw [hM, Nat.one_shiftLeft]; exact Nat.two_pow_pos _
  have hM2 : M ≤ 2 * L := by rw [hM, Nat.one_shiftLeft]; exact two_pow_bitsLen_le (by omega)
  have hNP : ∀ w, Calls Tryz.prog 135 #[.int .i64 (L : Int)] w fun e w' => e = .returned (.int .u64 (M : Int)) ∧ w' = w := by rw [hM]; exact fun w => nextPowerOfTwo_u L (by omega) w
  rw [← hM]
  clear hM
  have HH : Hid (Holds encU w blk off d) := hH
  have HST : Hid (w.alloc (Obj.cells #[.int .u64 (L : Int)] 133) = grow (putRow encU (Sort.ahead w 0) blk off d) #[Obj.cells #[.int .u64 ((UInt64.ofNat L).toNat : Int)] 133]) := by
    show _ = _
    rw [show Sort.ahead w 0 = w from rfl, putRow_self _ _ _ _ _ hH, alloc_eq_grow, show (UInt64.ofNat L).toNat = L from by simp; omega]
  clear hH
  go_enter Tryz.func108, Tryz.ntmps108
  go_wp2_with (first | (go_at_call 135; rw [show ((a : Int) + (L : Int) - (a : Int)) = (L : Int) by omega]; refine (hNP _).mono ?_; rintro e w' ⟨rfl, rfl⟩))
  go_loopw [9] (fun vi wr => ∃ (t n : Nat) (r : UInt64) (dk : Array Int), vi = .int .i64 ((a + L / 4 * 2 - 1 + t : Nat) : Int) ∧ t ≤ 3 ∧ dk.size = d.size ∧
      wr = grow (putRow encU (Sort.ahead w n) blk off dk) #[Obj.cells #[.int .u64 (r.toNat : Int)] 133] ∧
      bpRest a L M (a + L / 4 * 2 - 1) (3 - t) t (r, dk) = bpRest a L M (a + L / 4 * 2 - 1) 3 0 (UInt64.ofNat L, d)) (fun vi _ => a + L / 4 * 2 + 3 - (intOf vi).toNat)
  case atStart => exact ⟨0, 0, UInt64.ofNat L, d, by congr 1; omega, by omega, rfl, HST.out, rfl⟩
  case round =>
    obtain ⟨t, n, r, dk, rfl, ht, hsk, hw, hR⟩ := hrel
    obtain ⟨R, hRr⟩ : ∃ R : Nat, R = r.toNat := ⟨_, rfl⟩
    have lR : R < 18446744073709551616 := by rw [hRr]; exact r.toNat_lt
    obtain ⟨R', hR'⟩ : ∃ R' : Nat, R' = xorNextN R := ⟨_, rfl⟩
    have lR' : R' < 18446744073709551616 := by rw [hR']; exact xorNextN_lt R lR
    obtain ⟨O, hO⟩ : ∃ O : Nat, O = R' &&& (M - 1) := ⟨_, rfl⟩
    have lO : O ≤ M - 1 := by rw [hO]; exact Nat.and_le_right
    have eAnd : bits .and .u64 (R' : Int) ((M : Int) - 1) = (O : Int) := by
      rw [show ((M : Int) - 1) = ((M - 1 : Nat) : Int) by omega, bits_and_u64_nat _ _ lR' (by omega), hO]
    obtain ⟨G, hG⟩ : ∃ G : Nat → Int, ∀ x, G x = dk[x]! := ⟨fun x => dk[x]!, fun _ => rfl⟩
    have hz : (putRow encU (Sort.ahead w n) blk off dk).heap.size = w.heap.size := by simp
    have hcw : ∀ x, x < d.size → wr.cell? ⟨blk, off + x, none⟩ = some (.int .u32 (G x)) := fun x hx => by
      rw [hw, cell?_grow _ _ _ (by rw [hz]; exact hblk), hG]; exact cell?_putRow _ _ _ _ d dk (holds_ahead _ _ _ _ _ _ HH.out) hsk x (by omega)
    have hfw : ∀ x, x < d.size → wr.frozen? ⟨blk, off + x, none⟩ = false := fun x hx => by
      rw [hw, frozen?_grow _ _ _ (by rw [hz]; exact hblk), frozen?_putRow]; exact ((holds_ahead _ _ n _ _ _ HH.out) x hx).2
    have hcB : wr.cell? ⟨w.heap.size, 0, none⟩ = some (.int .u64 (R : Int)) := by rw [hw, hRr, ← hz]; exact grow_one_cell _ _ _
    have hfB : wr.frozen? ⟨w.heap.size, 0, none⟩ = false := by rw [hw, ← hz]; exact grow_one_frozen _ _ _
    have hNext : Calls Tryz.prog 136 #[.pointer (some ⟨w.heap.size, 0, none⟩)] wr fun e w' => e = .returned (.int .u64 (R' : Int)) ∧ w' = (wr.setCell ⟨w.heap.size, 0, none⟩ (.int .u64 (R' : Int))).drewN 3 := by
      rw [hR']; exact xorshift_Next_u _ _ R lR wr hcB hfB
    have HW : Hid (wr = grow (putRow encU (Sort.ahead w n) blk off dk) #[Obj.cells #[.int .u64 (r.toNat : Int)] 133]) := hw
    have HG : Hid (∀ x, G x = dk[x]!) := hG
    have HR : Hid (bpRest a L M (a + L / 4 * 2 - 1) (3 - t) t (r, dk) = bpRest a L M (a + L / 4 * 2 - 1) 3 0 (UInt64.ofNat L, d)) := hR
    have HN : Hid (R' = (xorNext r).toNat ∧ O = (xorNext r).toNat &&& (M - 1)) := by
      have e : R' = (xorNext r).toNat := by rw [hR', hRr, xorNext_toNat]
      exact ⟨e, by rw [hO, e]⟩
    clear hw hG hR hRr hR' hO
    go_wp2_with (first | (go_at_call 136; refine hNext.mono ?_; rintro e w' ⟨rfl, rfl⟩))
    ·
      have hLO : L ≤ O := by omega
      by_cases hEq : a + L / 4 * 2 - 1 + t = a + (O - L)
      all_goals
        go_region
        all_goals go_wp2
        go_roundw
        case rel =>
          refine ⟨t + 1, n + 4, xorNext r, swp dk (a + L / 4 * 2 - 1 + t) (a + (O - L)), by first | rfl | (congr 1 <;> omega), by omega, by rw [size_swp]; exact hsk, ?_, ?_⟩
          · (try rw [hEq])
            rw [HW.out, HN.out.1]
            simp only [HG.out]
            exact step_world encU w n 4 blk off dk _ _ hblk (by omega) (by omega) _ _ _
          · rw [← HR.out, bp_step a L M _ t r dk (O - L) (by omega) (by rw [← HN.out.2, if_pos (by omega)])]
        case measure => simp [intOf]; omega
    · have hLO : ¬ L ≤ O := by omega
      by_cases hEq : a + L / 4 * 2 - 1 + t = a + O
      all_goals
        go_region
        all_goals go_wp2
        go_roundw
        case rel =>
          refine ⟨t + 1, n + 4, xorNext r, swp dk (a + L / 4 * 2 - 1 + t) (a + O), by first | rfl | (congr 1 <;> omega), by omega, by rw [size_swp]; exact hsk, ?_, ?_⟩
          · (try rw [hEq])
            rw [HW.out, HN.out.1]
            simp only [HG.out]
            exact step_world encU w n 4 blk off dk _ _ hblk (by omega) (by omega) _ _ _
          · rw [← HR.out, bp_step a L M _ t r dk O (by omega) (by rw [← HN.out.2, if_neg (by omega)])]
        case measure => simp [intOf]; omega
    ·
      obtain rfl : t = 3 := by omega
      go_end0
      exact ⟨rfl, n, _, by rw [← HR.out, HW.out]; rfl⟩
theorem breakPatterns_u (blk off cap a b : Nat) (d : Array Int) (w : World) (hH : Holds encU w blk off d) (hblk : blk < w.heap.size) (hab : a ≤ b) (hb : b ≤ d.size) (hsz : d.size < 4611686018427387904) :
    Calls Tryz.prog 108 #[.slice (some ⟨blk, off, none⟩) d.size cap, .int .i64 a, .int .i64 b] w fun e w' =>
      e = .returned (.tuple #[]) ∧ ∃ n os, w' = grow (putRow encU (Sort.ahead w n) blk off (breakPatterns d a b)) os := by
  obtain ⟨L, rfl⟩ : ∃ L, b = a + L := ⟨b - a, by omega⟩
  by_cases h8 : 8 ≤ L
  · exact breakPatterns_u_go blk off cap a L d w hH hblk hb hsz h8
  · have hv : breakPatterns d a (a + L) = d := by unfold breakPatterns; simp only [Nat.add_sub_cancel_left]; rw [if_neg h8]
    rw [hv]
    have HST : Hid (w = grow (putRow encU (Sort.ahead w 0) blk off d) #[]) := by
      show _ = _
      rw [grow_empty, show Sort.ahead w 0 = w from rfl, putRow_self _ _ _ _ _ hH]
    clear hH
    go_enter Tryz.func108, Tryz.ntmps108
    go_wp2
    go_end0
    exact ⟨rfl, 0, #[], HST.out⟩
end Go.Proofs.YtnghoibkjphfmaaGreat
/- The library's sort at uint32, a part of its walks: turned from the worked walks at int. -/
namespace Go.Proofs.YtnghoibkjphfmaaGreat
open Go.Sort Go.RowKit
set_option maxHeartbeats 1600000 in
set_option maxRecDepth 100000 in
theorem partialInsertionSort_u (blk off cap a b : Nat) (d : Array Int) (w : World) (hH : Holds encU w blk off d) (hab : a < b) (hb : b ≤ d.size) (hsz : d.size < 4611686018427387904) :
    Calls Tryz.prog 111 #[.slice (some ⟨blk, off, none⟩) d.size cap, .int .i64 a, .int .i64 b] w fun e w' =>
      e = .returned (.bool (Sort.partialInsertionSort ltInt d a b).2) ∧ ∃ n, w' = putRow encU (Sort.ahead w n) blk off (Sort.partialInsertionSort ltInt d a b).1 := by
  have HH : Hid (Holds encU w blk off d) := hH
  have HST : Hid (w = putRow encU (Sort.ahead w 0) blk off d) := (putRow_self _ _ _ _ _ hH).symm
  clear hH
  go_enter Tryz.func111, Tryz.ntmps111
  go_wp2
  go_loopw [7, 8] (fun vi vs wr => ∃ (i s n : Nat) (dk : Array Int), vi = .int .i64 i ∧ vs = .int .i64 s ∧ s ≤ 5 ∧ a < i ∧ i ≤ b ∧ dk.size = d.size ∧ wr = putRow encU (Sort.ahead w n) blk off dk ∧
      partialIns ltInt a b (5 - s) i dk = partialIns ltInt a b 5 (a + 1) d) (fun _ vs _ => 5 - (intOf vs).toNat)
  case atStart => exact ⟨a + 1, 0, 0, d, by go_num, rfl, by omega, by omega, by omega, rfl, HST.out, rfl⟩
  case round =>
    obtain ⟨i, s, n, dk, rfl, rfl, hs5, hai, hib, hsk, hwr, hO⟩ := hrel
    have HO : Hid (partialIns ltInt a b (5 - s) i dk = partialIns ltInt a b 5 (a + 1) d) := hO
    clear hO
    go_wp2
    ·
      have hs : s < 5 := by omega
      go_loopw [7] (fun vi wr2 => ∃ (k m : Nat), vi = .int .i64 k ∧ i ≤ k ∧ k ≤ b ∧ wr2 = putRow encU (Sort.ahead w m) blk off dk ∧ scanSorted ltInt dk b k = scanSorted ltInt dk b i) (fun vi _ => b - (intOf vi).toNat)
      case atStart => exact ⟨i, n, rfl, Nat.le_refl _, hib, rfl, rfl⟩
      case round =>
        obtain ⟨k, m, rfl, hik, hkb, hw2, hS⟩ := hrel
        obtain ⟨G, hG⟩ : ∃ G : Nat → Int, ∀ t, G t = dk[t]! := ⟨fun t => dk[t]!, fun _ => rfl⟩
        have hcw : ∀ t, t < d.size → wr.cell? ⟨blk, off + t, none⟩ = some (.int .u32 (G t)) := fun t ht => by
          rw [hw2, hG]; exact cell?_putRow _ _ _ _ d dk (holds_ahead _ _ _ _ _ _ HH.out) hsk t (by omega)
        have hfw : ∀ t, t < d.size → wr.frozen? ⟨blk, off + t, none⟩ = false := fun t ht => by
          rw [hw2, frozen?_putRow]; exact ((holds_ahead _ _ m _ _ _ HH.out) t ht).2
        have HW : Hid (wr = putRow encU (Sort.ahead w m) blk off dk) := hw2
        have HG : Hid (∀ t, G t = dk[t]!) := hG
        have HS : Hid (scanSorted ltInt dk b k = scanSorted ltInt dk b i) := hS
        clear hw2 hG hS
        go_wp2
        by_cases hkb' : k < b
        · go_quiet (first | (go_at_call 112; refine Calls.quiet_of_same (less_u _ _ _)))
          go_wp2
          all_goals first
            | (at_end
               have hl : ltInt (G k) (G (k - 1)) = false := by
                 have h : (!ltInt (G k) (G (k - 1))) = true := by assumption
                 simpa using h
               go_roundw
               case rel => exact ⟨k + 1, m + nq, by go_num, by omega, by omega, by rw [HW.out]; exact putRow_drewN _ _ _ _ _ _ _, by rw [← HS.out, scanSorted_go ltInt dk b k hkb' (by rw [← HG.out, ← HG.out]; exact hl)]⟩
               case measure => simp [intOf]; omega)
            | (have hl : ltInt (G k) (G (k - 1)) = true := by
                 have h : (!ltInt (G k) (G (k - 1))) = false := by assumption
                 simpa using h
               have HK : Hid (scanSorted ltInt dk b i = k) := by
                 show scanSorted ltInt dk b i = k
                 rw [← HS.out, scanSorted_stop ltInt dk b k (Or.inr (by rw [← HG.out, ← HG.out]; exact hl))]
               first
                 | (at_ret
                    have hv : Sort.partialInsertionSort ltInt d a b = (dk, false) := by
                      unfold Sort.partialInsertionSort
                      rw [← HO.out, pi_short ltInt a b s i dk hs (by rw [HK.out]; omega) (by omega)]
                    rw [hv]
                    go_ret
                    exact ⟨rfl, m + nq, by rw [HW.out]; exact putRow_drewN _ _ _ _ _ _ _⟩)
                 | (at_region 11
                    have h50 : ¬ b - a < 50 := by omega
                    go_region
                    have hsw : ((wr.drewN (nq + 1)).setCell ⟨blk, off + k, none⟩ (.int .u32 (G (k - 1)))).setCell ⟨blk, off + (k - 1), none⟩ (.int .u32 (G k)) = putRow encU (Sort.ahead w (m + (nq + 1))) blk off (swp dk k (k - 1)) := by
                      rw [HW.out, HG.out, HG.out]
                      exact swap_worldA _ w m (nq + 1) blk off dk k (k - 1) (by omega) (by omega)
                    have hs1 : (swp dk k (k - 1)).size = d.size := by rw [size_swp]; exact hsk
                    go_wp2
                    all_goals first
                      | (at_loop
                         have hka : k - a ≥ 2 := by omega
                         go_loopw [9] (fun vj wr2 => ∃ (j m2 : Nat) (dj : Array Int), vj = .int .i64 j ∧ j ≤ k - 1 ∧ dj.size = d.size ∧ wr2 = putRow encU (Sort.ahead w m2) blk off dj ∧
                             shiftDown ltInt j dj = shiftDown ltInt (k - 1) (swp dk k (k - 1))) (fun vj _ => (intOf vj).toNat)
                         case atStart => exact ⟨k - 1, _, (swp dk k (k - 1)), by congr 1; omega, Nat.le_refl _, hs1, rfl, rfl⟩
                         case round =>
                           obtain ⟨j, m2, dj, rfl, hjk, hsj, hw2, hDn⟩ := hrel
                           obtain ⟨G, hG⟩ : ∃ G : Nat → Int, ∀ t, G t = dj[t]! := ⟨fun t => dj[t]!, fun _ => rfl⟩
                           have hcw : ∀ t, t < d.size → wr.cell? ⟨blk, off + t, none⟩ = some (.int .u32 (G t)) := fun t ht => by
                             rw [hw2, hG]; exact cell?_putRow _ _ _ _ d dj (holds_ahead _ _ _ _ _ _ HH.out) hsj t (by omega)
                           have hfw : ∀ t, t < d.size → wr.frozen? ⟨blk, off + t, none⟩ = false := fun t ht => by
                             rw [hw2, frozen?_putRow]; exact ((holds_ahead _ _ m2 _ _ _ HH.out) t ht).2
                           have HW : Hid (wr = putRow encU (Sort.ahead w m2) blk off dj) := hw2
                           have HG : Hid (∀ t, G t = dj[t]!) := hG
                           have HDn : Hid (shiftDown ltInt j dj = shiftDown ltInt (k - 1) (swp dk k (k - 1))) := hDn
                           clear hw2 hG hDn hsw
                           go_wp2
                           all_goals first
                             | (at_region 16
                                go_quiet (first | (go_at_call 112; refine Calls.quiet_of_same (less_u _ _ _)))
                                go_wp2
                                all_goals first
                                  | (at_region 17
                                     have hl : ltInt (G j) (G (j - 1)) = true := by
                                       have h : (!ltInt (G j) (G (j - 1))) = false := by assumption
                                       simpa using h
                                     go_region
                                     all_goals go_wp2
                                     go_roundw
                                     case rel =>
                                       refine ⟨j - 1, m2 + (nq + 1), swp dj j (j - 1), by congr 1; omega, by omega, by rw [size_swp]; exact hsj, ?_, ?_⟩
                                       · rw [HW.out, HG.out, HG.out]
                                         exact swap_worldA _ w m2 (nq + 1) blk off dj j (j - 1) (by omega) (by omega)
                                       · rw [← HDn.out, shiftDown_go ltInt j dj (by omega) (by rw [← HG.out, ← HG.out]; exact hl)]
                                     case measure => simp [intOf]; omega)
                                  | (-- break
                                     have hl : ltInt (G j) (G (j - 1)) = false := by
                                       have h : (!ltInt (G j) (G (j - 1))) = true := by assumption
                                       simpa using h
                                     have HD : Hid (fixDown ltInt a k (swp dk k (k - 1)) = dj) := by
                                       show fixDown ltInt a k (swp dk k (k - 1)) = dj
                                       unfold fixDown; rw [if_pos hka, ← HDn.out, shiftDown_stop ltInt j dj (Or.inr (by rw [← HG.out, ← HG.out]; exact hl))]
                                     first
                                       | (at_end
                                          go_roundw
                                          case rel =>
                                            refine ⟨k, s + 1, _, dj, rfl, by go_num, by omega, by omega, by omega, hsj, (by first | rfl | exact HW.out | (rw [HW.out]; exact putRow_drewN _ _ _ _ _ _ _)), ?_⟩
                                            rw [← HO.out, pi_go ltInt a b s i k dk hs HK.out (by omega) (by omega), HD.out, show fixUp ltInt b k dj = dj from by unfold fixUp; rw [if_neg (by omega)]]
                                          case measure => simp [intOf]; omega)
                                       | (at_loop
                                          go_loopw [10] (fun vj wr2 => ∃ (j m3 : Nat) (du : Array Int), vj = .int .i64 j ∧ k + 1 ≤ j ∧ j ≤ b ∧ du.size = d.size ∧ wr2 = putRow encU (Sort.ahead w m3) blk off du ∧
                                              shiftUp ltInt b j du = shiftUp ltInt b (k + 1) dj) (fun vj _ => b - (intOf vj).toNat)
                                          case atStart => exact ⟨k + 1, _, dj, by go_num, Nat.le_refl _, by omega, hsj, (by first | rfl | exact HW.out | (rw [HW.out]; exact putRow_drewN _ _ _ _ _ _ _)), rfl⟩
                                          case round =>
                                            obtain ⟨j, m3, du, rfl, hkj, hjb, hsu, hw3, hU⟩ := hrel
                                            obtain ⟨G, hG⟩ : ∃ G : Nat → Int, ∀ t, G t = du[t]! := ⟨fun t => du[t]!, fun _ => rfl⟩
                                            have hcw : ∀ t, t < d.size → wr.cell? ⟨blk, off + t, none⟩ = some (.int .u32 (G t)) := fun t ht => by
                                              rw [hw3, hG]; exact cell?_putRow _ _ _ _ d du (holds_ahead _ _ _ _ _ _ HH.out) hsu t (by omega)
                                            have hfw : ∀ t, t < d.size → wr.frozen? ⟨blk, off + t, none⟩ = false := fun t ht => by
                                              rw [hw3, frozen?_putRow]; exact ((holds_ahead _ _ m3 _ _ _ HH.out) t ht).2
                                            have HW : Hid (wr = putRow encU (Sort.ahead w m3) blk off du) := hw3
                                            have HG : Hid (∀ t, G t = du[t]!) := hG
                                            have HU : Hid (shiftUp ltInt b j du = shiftUp ltInt b (k + 1) dj) := hU
                                            clear hw3 hG hU
                                            go_wp2
                                            all_goals first
                                              | (at_region 22
                                                 go_quiet (first | (go_at_call 112; refine Calls.quiet_of_same (less_u _ _ _)))
                                                 go_wp2
                                                 all_goals first
                                                   | (at_region 23
                                                      have hl : ltInt (G j) (G (j - 1)) = true := by
                                                        have h : (!ltInt (G j) (G (j - 1))) = false := by assumption
                                                        simpa using h
                                                      go_region
                                                      all_goals go_wp2
                                                      go_roundw
                                                      case rel =>
                                                        refine ⟨j + 1, m3 + (nq + 1), swp du j (j - 1), by go_num, by omega, by omega, by rw [size_swp]; exact hsu, ?_, ?_⟩
                                                        · rw [HW.out, HG.out, HG.out]
                                                          exact swap_worldA _ w m3 (nq + 1) blk off du j (j - 1) (by omega) (by omega)
                                                        · rw [← HU.out, shiftUp_go ltInt b j du (by omega) (by rw [← HG.out, ← HG.out]; exact hl)]
                                                      case measure => simp [intOf]; omega)
                                                   | (at_end
                                                      have hl : ltInt (G j) (G (j - 1)) = false := by
                                                        have h : (!ltInt (G j) (G (j - 1))) = true := by assumption
                                                        simpa using h
                                                      go_roundw
                                                      case rel =>
                                                        refine ⟨k, s + 1, _, du, rfl, by go_num, by omega, by omega, by omega, hsu, (by first | rfl | exact HW.out | (rw [HW.out]; exact putRow_drewN _ _ _ _ _ _ _)), ?_⟩
                                                        rw [← HO.out, pi_go ltInt a b s i k dk hs HK.out (by omega) (by omega), HD.out, show fixUp ltInt b k dj = du from by unfold fixUp; rw [if_pos (by omega), ← HU.out, shiftUp_stop ltInt b j du (Or.inr (by rw [← HG.out, ← HG.out]; exact hl))]]
                                                      case measure => simp [intOf]; omega))
                                              | (at_end
                                                 go_roundw
                                                 case rel =>
                                                   refine ⟨k, s + 1, _, du, rfl, by go_num, by omega, by omega, by omega, hsu, (by first | rfl | exact HW.out | (rw [HW.out]; exact putRow_drewN _ _ _ _ _ _ _)), ?_⟩
                                                   rw [← HO.out, pi_go ltInt a b s i k dk hs HK.out (by omega) (by omega), HD.out, show fixUp ltInt b k dj = du from by unfold fixUp; rw [if_pos (by omega), ← HU.out, shiftUp_stop ltInt b j du (Or.inl (by omega))]]
                                                 case measure => simp [intOf]; omega))))
                             | (-- j < 1
                                have HD : Hid (fixDown ltInt a k (swp dk k (k - 1)) = dj) := by
                                  show fixDown ltInt a k (swp dk k (k - 1)) = dj
                                  unfold fixDown; rw [if_pos hka, ← HDn.out, shiftDown_stop ltInt j dj (Or.inl (by omega))]
                                first
                                  | (at_end
                                     go_roundw
                                     case rel =>
                                       refine ⟨k, s + 1, _, dj, rfl, by go_num, by omega, by omega, by omega, hsj, (by first | rfl | exact HW.out | (rw [HW.out]; exact putRow_drewN _ _ _ _ _ _ _)), ?_⟩
                                       rw [← HO.out, pi_go ltInt a b s i k dk hs HK.out (by omega) (by omega), HD.out, show fixUp ltInt b k dj = dj from by unfold fixUp; rw [if_neg (by omega)]]
                                     case measure => simp [intOf]; omega)
                                  | (at_loop
                                     go_loopw [10] (fun vj wr2 => ∃ (j m3 : Nat) (du : Array Int), vj = .int .i64 j ∧ k + 1 ≤ j ∧ j ≤ b ∧ du.size = d.size ∧ wr2 = putRow encU (Sort.ahead w m3) blk off du ∧
                                         shiftUp ltInt b j du = shiftUp ltInt b (k + 1) dj) (fun vj _ => b - (intOf vj).toNat)
                                     case atStart => exact ⟨k + 1, _, dj, by go_num, Nat.le_refl _, by omega, hsj, (by first | rfl | exact HW.out | (rw [HW.out]; exact putRow_drewN _ _ _ _ _ _ _)), rfl⟩
                                     case round =>
                                       obtain ⟨j, m3, du, rfl, hkj, hjb, hsu, hw3, hU⟩ := hrel
                                       obtain ⟨G, hG⟩ : ∃ G : Nat → Int, ∀ t, G t = du[t]! := ⟨fun t => du[t]!, fun _ => rfl⟩
                                       have hcw : ∀ t, t < d.size → wr.cell? ⟨blk, off + t, none⟩ = some (.int .u32 (G t)) := fun t ht => by
                                         rw [hw3, hG]; exact cell?_putRow _ _ _ _ d du (holds_ahead _ _ _ _ _ _ HH.out) hsu t (by omega)
                                       have hfw : ∀ t, t < d.size → wr.frozen? ⟨blk, off + t, none⟩ = false := fun t ht => by
                                         rw [hw3, frozen?_putRow]; exact ((holds_ahead _ _ m3 _ _ _ HH.out) t ht).2
                                       have HW : Hid (wr = putRow encU (Sort.ahead w m3) blk off du) := hw3
                                       have HG : Hid (∀ t, G t = du[t]!) := hG
                                       have HU : Hid (shiftUp ltInt b j du = shiftUp ltInt b (k + 1) dj) := hU
                                       clear hw3 hG hU
                                       go_wp2
                                       all_goals first
                                         | (at_region 22
                                            go_quiet (first | (go_at_call 112; refine Calls.quiet_of_same (less_u _ _ _)))
                                            go_wp2
                                            all_goals first
                                              | (at_region 23
                                                 have hl : ltInt (G j) (G (j - 1)) = true := by
                                                   have h : (!ltInt (G j) (G (j - 1))) = false := by assumption
                                                   simpa using h
                                                 go_region
                                                 all_goals go_wp2
                                                 go_roundw
                                                 case rel =>
                                                   refine ⟨j + 1, m3 + (nq + 1), swp du j (j - 1), by go_num, by omega, by omega, by rw [size_swp]; exact hsu, ?_, ?_⟩
                                                   · rw [HW.out, HG.out, HG.out]
                                                     exact swap_worldA _ w m3 (nq + 1) blk off du j (j - 1) (by omega) (by omega)
                                                   · rw [← HU.out, shiftUp_go ltInt b j du (by omega) (by rw [← HG.out, ← HG.out]; exact hl)]
                                                 case measure => simp [intOf]; omega)
                                              | (at_end
                                                 have hl : ltInt (G j) (G (j - 1)) = false := by
                                                   have h : (!ltInt (G j) (G (j - 1))) = true := by assumption
                                                   simpa using h
                                                 go_roundw
                                                 case rel =>
                                                   refine ⟨k, s + 1, _, du, rfl, by go_num, by omega, by omega, by omega, hsu, (by first | rfl | exact HW.out | (rw [HW.out]; exact putRow_drewN _ _ _ _ _ _ _)), ?_⟩
                                                   rw [← HO.out, pi_go ltInt a b s i k dk hs HK.out (by omega) (by omega), HD.out, show fixUp ltInt b k dj = du from by unfold fixUp; rw [if_pos (by omega), ← HU.out, shiftUp_stop ltInt b j du (Or.inr (by rw [← HG.out, ← HG.out]; exact hl))]]
                                                 case measure => simp [intOf]; omega))
                                         | (at_end
                                            go_roundw
                                            case rel =>
                                              refine ⟨k, s + 1, _, du, rfl, by go_num, by omega, by omega, by omega, hsu, (by first | rfl | exact HW.out | (rw [HW.out]; exact putRow_drewN _ _ _ _ _ _ _)), ?_⟩
                                              rw [← HO.out, pi_go ltInt a b s i k dk hs HK.out (by omega) (by omega), HD.out, show fixUp ltInt b k dj = du from by unfold fixUp; rw [if_pos (by omega), ← HU.out, shiftUp_stop ltInt b j du (Or.inl (by omega))]]
                                            case measure => simp [intOf]; omega))))
                      | (-- i - a < 2
                         have HD : Hid (fixDown ltInt a k (swp dk k (k - 1)) = (swp dk k (k - 1))) := by
                           show fixDown ltInt a k (swp dk k (k - 1)) = (swp dk k (k - 1))
                           unfold fixDown; rw [if_neg (by omega)]
                         first
                           | (at_end
                              go_roundw
                              case rel =>
                                refine ⟨k, s + 1, _, (swp dk k (k - 1)), rfl, by go_num, by omega, by omega, by omega, hs1, (by first | rfl | exact HW.out | (rw [HW.out]; exact putRow_drewN _ _ _ _ _ _ _)), ?_⟩
                                rw [← HO.out, pi_go ltInt a b s i k dk hs HK.out (by omega) (by omega), HD.out, show fixUp ltInt b k (swp dk k (k - 1)) = (swp dk k (k - 1)) from by unfold fixUp; rw [if_neg (by omega)]]
                              case measure => simp [intOf]; omega)
                           | (at_loop
                              go_loopw [10] (fun vj wr2 => ∃ (j m3 : Nat) (du : Array Int), vj = .int .i64 j ∧ k + 1 ≤ j ∧ j ≤ b ∧ du.size = d.size ∧ wr2 = putRow encU (Sort.ahead w m3) blk off du ∧
                                  shiftUp ltInt b j du = shiftUp ltInt b (k + 1) (swp dk k (k - 1))) (fun vj _ => b - (intOf vj).toNat)
                              case atStart => exact ⟨k + 1, _, (swp dk k (k - 1)), by go_num, Nat.le_refl _, by omega, hs1, (by first | rfl | exact HW.out | (rw [HW.out]; exact putRow_drewN _ _ _ _ _ _ _)), rfl⟩
                              case round =>
                                obtain ⟨j, m3, du, rfl, hkj, hjb, hsu, hw3, hU⟩ := hrel
                                obtain ⟨G, hG⟩ : ∃ G : Nat → Int, ∀ t, G t = du[t]! := ⟨fun t => du[t]!, fun _ => rfl⟩
                                have hcw : ∀ t, t < d.size → wr.cell? ⟨blk, off + t, none⟩ = some (.int .u32 (G t)) := fun t ht => by
                                  rw [hw3, hG]; exact cell?_putRow _ _ _ _ d du (holds_ahead _ _ _ _ _ _ HH.out) hsu t (by omega)
                                have hfw : ∀ t, t < d.size → wr.frozen? ⟨blk, off + t, none⟩ = false := fun t ht => by
                                  rw [hw3, frozen?_putRow]; exact ((holds_ahead _ _ m3 _ _ _ HH.out) t ht).2
                                have HW : Hid (wr = putRow encU (Sort.ahead w m3) blk off du) := hw3
                                have HG : Hid (∀ t, G t = du[t]!) := hG
                                have HU : Hid (shiftUp ltInt b j du = shiftUp ltInt b (k + 1) (swp dk k (k - 1))) := hU
                                clear hw3 hG hU
                                go_wp2
                                all_goals first
                                  | (at_region 22
                                     go_quiet (first | (go_at_call 112; refine Calls.quiet_of_same (less_u _ _ _)))
                                     go_wp2
                                     all_goals first
                                       | (at_region 23
                                          have hl : ltInt (G j) (G (j - 1)) = true := by
                                            have h : (!ltInt (G j) (G (j - 1))) = false := by assumption
                                            simpa using h
                                          go_region
                                          all_goals go_wp2
                                          go_roundw
                                          case rel =>
                                            refine ⟨j + 1, m3 + (nq + 1), swp du j (j - 1), by go_num, by omega, by omega, by rw [size_swp]; exact hsu, ?_, ?_⟩
                                            · rw [HW.out, HG.out, HG.out]
                                              exact swap_worldA _ w m3 (nq + 1) blk off du j (j - 1) (by omega) (by omega)
                                            · rw [← HU.out, shiftUp_go ltInt b j du (by omega) (by rw [← HG.out, ← HG.out]; exact hl)]
                                          case measure => simp [intOf]; omega)
                                       | (at_end
                                          have hl : ltInt (G j) (G (j - 1)) = false := by
                                            have h : (!ltInt (G j) (G (j - 1))) = true := by assumption
                                            simpa using h
                                          go_roundw
                                          case rel =>
                                            refine ⟨k, s + 1, _, du, rfl, by go_num, by omega, by omega, by omega, hsu, (by first | rfl | exact HW.out | (rw [HW.out]; exact putRow_drewN _ _ _ _ _ _ _)), ?_⟩
                                            rw [← HO.out, pi_go ltInt a b s i k dk hs HK.out (by omega) (by omega), HD.out, show fixUp ltInt b k (swp dk k (k - 1)) = du from by unfold fixUp; rw [if_pos (by omega), ← HU.out, shiftUp_stop ltInt b j du (Or.inr (by rw [← HG.out, ← HG.out]; exact hl))]]
                                          case measure => simp [intOf]; omega))
                                  | (at_end
                                     go_roundw
                                     case rel =>
                                       refine ⟨k, s + 1, _, du, rfl, by go_num, by omega, by omega, by omega, hsu, (by first | rfl | exact HW.out | (rw [HW.out]; exact putRow_drewN _ _ _ _ _ _ _)), ?_⟩
                                       rw [← HO.out, pi_go ltInt a b s i k dk hs HK.out (by omega) (by omega), HD.out, show fixUp ltInt b k (swp dk k (k - 1)) = du from by unfold fixUp; rw [if_pos (by omega), ← HU.out, shiftUp_stop ltInt b j du (Or.inl (by omega))]]
                                     case measure => simp [intOf]; omega)))))
        ·
          go_quiet (first | (go_at_call 112; refine Calls.quiet_of_same (less_u _ _ _)))
          go_wp2
          obtain rfl : k = b := by omega
          have hv : Sort.partialInsertionSort ltInt d a k = (dk, true) := by
            unfold Sort.partialInsertionSort
            rw [← HO.out, pi_true ltInt a k s i dk hs (by rw [← HS.out, scanSorted_stop ltInt dk k k (Or.inl (by omega))])]
          rw [hv]
          go_ret
          exact ⟨rfl, m + nq, by rw [HW.out]; exact putRow_drewN _ _ _ _ _ _ _⟩
    ·
      obtain rfl : s = 5 := by omega
      have hv : Sort.partialInsertionSort ltInt d a b = (dk, false) := by
        unfold Sort.partialInsertionSort
        rw [← HO.out, pi_end]
      rw [hv]
      go_ret
      exact ⟨rfl, n, rfl⟩
end Go.Proofs.YtnghoibkjphfmaaGreat
/- The library's sort at uint32, a part of its walks: turned from the worked walks at int. -/
namespace Go.Proofs.YtnghoibkjphfmaaGreat
open Go.Sort Go.RowKit
set_option maxHeartbeats 1600000 in
set_option maxRecDepth 1000000 in
theorem reverseRange_u (blk off cap : Nat) (d : Array Int) (a b : Nat) (w : World) (hH : Holds encU w blk off d) (hab : a ≤ b) (hb : b ≤ d.size) (hsz : d.size < 4611686018427387904) :
    Calls Tryz.prog 110 #[.slice (some ⟨blk, off, none⟩) d.size cap, .int .i64 a, .int .i64 b] w fun e w' => e = .returned (.tuple #[]) ∧ ∃ n, w' = putRow encU (Sort.ahead w n) blk off (reverseRange d a b) := by
  go_enter Tryz.func110, Tryz.ntmps110
  go_wp2
  go_loopg [6, 7] (b - a) (fun k s6 s7 wr => ∃ (i jn : Nat) (jz : Int) (dk : Array Int) (n : Nat), s6 = .int .i64 i ∧ s7 = .int .i64 jz ∧ ((i : Int) < jz → jz = jn ∧ jn < d.size) ∧ (¬ (i : Int) < jz → ¬ i < jn) ∧ jn - i ≤ k ∧
    dk.size = d.size ∧ wr = putRow encU (Sort.ahead w n) blk off dk ∧ reverseLoop i jn dk = reverseLoop a (b - 1) d)
  case atStart => exact ⟨a, b - 1, (b : Int) - 1, d, 0, rfl, rfl, fun h => ⟨by omega, by omega⟩, fun h => by omega, by omega, rfl, (putRow_self encU w blk off d hH).symm, rfl⟩
  case round =>
    obtain ⟨i, jn, jz, dk, n, rfl, rfl, h1, h2, hk, hds, hwr, heq⟩ := hrel
    by_cases hlt : (i : Int) < jz
    · obtain ⟨rfl, hjn⟩ := h1 hlt
      have hij : i < jn := by omega
      have hHk : Holds encU wr blk off dk := by rw [hwr]; exact holds_putRow encU _ blk off d dk (holds_ahead encU w n blk off d hH) hds
      obtain ⟨ci, fi⟩ := hHk i (by omega)
      obtain ⟨cj, fj⟩ := hHk jn (by omega)
      have A : Aside (wr = putRow encU (Sort.ahead w n) blk off dk) := hwr
      clear hwr hHk hH h1 h2
      go_wp2_with fail
      go_region
      go_wp2
      go_roundg (jn - 1 - (i + 1))
      case measure => omega
      case rel =>
        rw [reverseLoop, if_pos hij] at heq
        exact ⟨i + 1, jn - 1, (jn : Int) - 1, swp dk i jn, n + 1, by simp, rfl, fun h => ⟨by omega, by omega⟩, fun h => by omega, Nat.le_refl _, by rw [size_swp]; exact hds,
          swap_world encU (by omega) (by omega) A.out (by simp [encU, getElem!_pos, show jn < dk.size by omega]) rfl, heq⟩
    · have hnot := h2 hlt
      go_wp2
      go_end0
      refine ⟨rfl, n, ?_⟩
      rw [reverseLoop, if_neg hnot] at heq
      rw [reverseRange, ← heq]
set_option maxHeartbeats 3200000 in
set_option maxRecDepth 1000000 in
theorem siftDown_u (blk off len cap : Nat) (d : Array Int) (hlen : d.size = len) (lo hi first : Nat) (w : World) (hH : Holds encU w blk off d) (hlo : lo ≤ hi) (hb : first + hi ≤ d.size) (hsz : d.size < 4611686018427387904) :
    Calls Tryz.prog 134 #[.slice (some ⟨blk, off, none⟩) len cap, .int .i64 lo, .int .i64 hi, .int .i64 first] w fun e w' => e = .returned (.tuple #[]) ∧ ∃ n, w' = putRow encU (Sort.ahead w n) blk off (siftDown ltInt hi first lo d) := by
  subst hlen
  go_enter Tryz.func134, Tryz.ntmps134
  go_wp2
  go_loopg [8] (hi - lo) (fun k s8 wr => ∃ (root : Nat) (dk : Array Int) (n : Nat), s8 = .int .i64 root ∧ root ≤ hi ∧ hi - root ≤ k ∧ dk.size = d.size ∧ wr = putRow encU (Sort.ahead w n) blk off dk ∧ siftDown ltInt hi first root dk = siftDown ltInt hi first lo d)
  case atStart => exact ⟨lo, d, 0, rfl, hlo, Nat.le_refl _, rfl, (putRow_self encU w blk off d hH).symm, rfl⟩
  case round =>
    obtain ⟨root, dk, n, rfl, hr, hk, hds, hwr, heq⟩ := hrel
    have hHk : Holds encU wr blk off dk := by rw [hwr]; exact holds_putRow encU _ blk off d dk (holds_ahead encU w n blk off d hH) hds
    have hcw : ∀ t, t < d.size → wr.cell? ⟨blk, off + t, none⟩ = some (.int .u32 dk[t]!) := fun t ht => (hHk t (by omega)).1
    have hfw : ∀ t, t < d.size → wr.frozen? ⟨blk, off + t, none⟩ = false := fun t ht => (hHk t (by omega)).2
    have A : Aside (wr = putRow encU (Sort.ahead w n) blk off dk) := hwr
    clear hwr hH hHk
    by_cases h0 : hi ≤ 2 * root + 1
    ·
      have h0z : (hi : Int) ≤ 2 * (root : Int) + 1 := by omega
      go_wp2
      go_end0
      refine ⟨rfl, n, ?_⟩
      rw [A.out, ← heq, sd_end ltInt dk h0]
    ·
      have h0z : ¬ ((hi : Int) ≤ 2 * (root : Int) + 1) := by omega
      by_cases h1 : 2 * root + 2 < hi
      · have h1z : 2 * (root : Int) + 1 + 1 < (hi : Int) := by omega
        go_wp2_with fail
        go_big_quiet (first | (go_at_call 112; refine Calls.quiet_of_same (less_u _ _ _)))
        go_wp2_with fail
        ·
          have hL : ltInt dk[first + 2 * root + 1]! dk[first + 2 * root + 2]! = true := by assumption
          revert nq; intro nq1
          have hcw2 : ∀ t, t < d.size → (wr.drewN nq1).cell? ⟨blk, off + t, none⟩ = some (.int .u32 dk[t]!) := hcw
          have hfw2 : ∀ t, t < d.size → (wr.drewN nq1).frozen? ⟨blk, off + t, none⟩ = false := hfw
          have A2 : Aside (wr.drewN nq1 = putRow encU (Sort.ahead w (n + nq1)) blk off dk) := drewN_world encU A.out nq1
          clear hcw hfw A
          generalize wr.drewN nq1 = wr2 at hcw2 hfw2 A2 ⊢
          go_big_quiet (first | (go_at_call 112; refine Calls.quiet_of_same (less_u _ _ _)))
          go_wp2_with fail
          ·
            have hS : ltInt dk[first + root]! dk[first + 2 * root + 2]! = false := by
              have : (!ltInt dk[first + root]! dk[first + 2 * root + 2]!) = true := by assumption
              simpa using this
            (try simp only [Exit.inBlock, Exit.then]); refine bodyPost_ret (results_none rfl _ _ _) rfl ?_
            refine ⟨rfl, n + nq1 + nq, ?_⟩
            rw [drewN_world encU A2.out nq, ← heq, sd_right_stop ltInt dk h1 hL hS]
          ·
            have hG : ltInt dk[first + root]! dk[first + 2 * root + 2]! = true := by
              have : (!ltInt dk[first + root]! dk[first + 2 * root + 2]!) = false := by assumption
              simpa using this
            have hcw3 : ∀ t, t < d.size → (wr2.drewN nq).cell? ⟨blk, off + t, none⟩ = some (.int .u32 dk[t]!) := hcw2
            have hfw3 : ∀ t, t < d.size → (wr2.drewN nq).frozen? ⟨blk, off + t, none⟩ = false := hfw2
            have A3 : Aside (wr2.drewN nq = putRow encU (Sort.ahead w (n + nq1 + nq)) blk off dk) := drewN_world encU A2.out nq
            clear hcw2 hfw2 A2
            generalize wr2.drewN nq = wr3 at hcw3 hfw3 A3 ⊢
            go_region
            go_wp2
            go_roundg (hi - (2 * root + 2))
            case measure => omega
            case rel =>
              refine ⟨2 * root + 2, swp dk (first + root) (first + (2 * root + 1 + 1)), n + nq1 + nq + 1, by simp <;> omega, by omega, Nat.le_refl _, by rw [size_swp]; exact hds, swap_world encU (by omega) (by omega) A3.out rfl rfl, ?_⟩
              rw [← heq, sd_right_go ltInt dk h1 hL hG]
        ·
          have hL : ltInt dk[first + 2 * root + 1]! dk[first + 2 * root + 2]! = false := by assumption
          revert nq; intro nq1
          have hcw2 : ∀ t, t < d.size → (wr.drewN nq1).cell? ⟨blk, off + t, none⟩ = some (.int .u32 dk[t]!) := hcw
          have hfw2 : ∀ t, t < d.size → (wr.drewN nq1).frozen? ⟨blk, off + t, none⟩ = false := hfw
          have A2 : Aside (wr.drewN nq1 = putRow encU (Sort.ahead w (n + nq1)) blk off dk) := drewN_world encU A.out nq1
          clear hcw hfw A
          generalize wr.drewN nq1 = wr2 at hcw2 hfw2 A2 ⊢
          go_big_quiet (first | (go_at_call 112; refine Calls.quiet_of_same (less_u _ _ _)))
          go_wp2_with fail
          ·
            have hS : ltInt dk[first + root]! dk[first + 2 * root + 1]! = false := by
              have : (!ltInt dk[first + root]! dk[first + 2 * root + 1]!) = true := by assumption
              simpa using this
            (try simp only [Exit.inBlock, Exit.then]); refine bodyPost_ret (results_none rfl _ _ _) rfl ?_
            refine ⟨rfl, n + nq1 + nq, ?_⟩
            rw [drewN_world encU A2.out nq, ← heq, sd_left_stop ltInt dk (by omega) (fun _ => hL) hS]
          ·
            have hG : ltInt dk[first + root]! dk[first + 2 * root + 1]! = true := by
              have : (!ltInt dk[first + root]! dk[first + 2 * root + 1]!) = false := by assumption
              simpa using this
            have hcw3 : ∀ t, t < d.size → (wr2.drewN nq).cell? ⟨blk, off + t, none⟩ = some (.int .u32 dk[t]!) := hcw2
            have hfw3 : ∀ t, t < d.size → (wr2.drewN nq).frozen? ⟨blk, off + t, none⟩ = false := hfw2
            have A3 : Aside (wr2.drewN nq = putRow encU (Sort.ahead w (n + nq1 + nq)) blk off dk) := drewN_world encU A2.out nq
            clear hcw2 hfw2 A2
            generalize wr2.drewN nq = wr3 at hcw3 hfw3 A3 ⊢
            go_region
            go_wp2
            go_roundg (hi - (2 * root + 1))
            case measure => omega
            case rel =>
              refine ⟨2 * root + 1, swp dk (first + root) (first + (2 * root + 1)), n + nq1 + nq + 1, by simp <;> omega, by omega, Nat.le_refl _, by rw [size_swp]; exact hds, swap_world encU (by omega) (by omega) A3.out rfl rfl, ?_⟩
              rw [← heq, sd_left_go ltInt dk (by omega) (fun _ => hL) hG]
      ·
        have h1z : decide (2 * (root : Int) + 1 + 1 < (hi : Int)) = false := decide_eq_false (by omega)
        go_wp2_with fail
        go_big_quiet (first | (go_at_call 112; refine Calls.quiet_of_same (less_u _ _ _)))
        go_wp2_with fail
        revert nq; intro nq1
        have hcw2 : ∀ t, t < d.size → (wr.drewN nq1).cell? ⟨blk, off + t, none⟩ = some (.int .u32 dk[t]!) := hcw
        have hfw2 : ∀ t, t < d.size → (wr.drewN nq1).frozen? ⟨blk, off + t, none⟩ = false := hfw
        have A2 : Aside (wr.drewN nq1 = putRow encU (Sort.ahead w (n + nq1)) blk off dk) := drewN_world encU A.out nq1
        clear hcw hfw A
        generalize wr.drewN nq1 = wr2 at hcw2 hfw2 A2 ⊢
        go_big_quiet (first | (go_at_call 112; refine Calls.quiet_of_same (less_u _ _ _)))
        go_wp2_with fail
        ·
          have hS : ltInt dk[first + root]! dk[first + 2 * root + 1]! = false := by
            have : (!ltInt dk[first + root]! dk[first + 2 * root + 1]!) = true := by assumption
            simpa using this
          (try simp only [Exit.inBlock, Exit.then]); refine bodyPost_ret (results_none rfl _ _ _) rfl ?_
          refine ⟨rfl, n + nq1 + nq, ?_⟩
          rw [drewN_world encU A2.out nq, ← heq, sd_left_stop ltInt dk (by omega) (fun h => absurd h h1) hS]
        ·
          have hG : ltInt dk[first + root]! dk[first + 2 * root + 1]! = true := by
            have : (!ltInt dk[first + root]! dk[first + 2 * root + 1]!) = false := by assumption
            simpa using this
          have hcw3 : ∀ t, t < d.size → (wr2.drewN nq).cell? ⟨blk, off + t, none⟩ = some (.int .u32 dk[t]!) := hcw2
          have hfw3 : ∀ t, t < d.size → (wr2.drewN nq).frozen? ⟨blk, off + t, none⟩ = false := hfw2
          have A3 : Aside (wr2.drewN nq = putRow encU (Sort.ahead w (n + nq1 + nq)) blk off dk) := drewN_world encU A2.out nq
          clear hcw2 hfw2 A2
          generalize wr2.drewN nq = wr3 at hcw3 hfw3 A3 ⊢
          go_region
          go_wp2
          go_roundg (hi - (2 * root + 1))
          case measure => omega
          case rel =>
            refine ⟨2 * root + 1, swp dk (first + root) (first + (2 * root + 1)), n + nq1 + nq + 1, by simp <;> omega, by omega, Nat.le_refl _, by rw [size_swp]; exact hds, swap_world encU (by omega) (by omega) A3.out rfl rfl, ?_⟩
            rw [← heq, sd_left_go ltInt dk (by omega) (fun h => absurd h h1) hG]
set_option maxHeartbeats 3200000 in
set_option maxRecDepth 1000000 in
theorem heapSort_u (blk off len cap : Nat) (d : Array Int) (hlen : d.size = len) (a b : Nat) (w : World) (hH : Holds encU w blk off d) (hab : a ≤ b) (hb : b ≤ d.size) (hsz : d.size < 4611686018427387904) :
    Calls Tryz.prog 107 #[.slice (some ⟨blk, off, none⟩) len cap, .int .i64 a, .int .i64 b] w fun e w' => e = .returned (.tuple #[]) ∧ ∃ n, w' = putRow encU (Sort.ahead w n) blk off (heapSort ltInt d a b) := by
  subst hlen
  have ecast : ((b - a : Nat) : Int) = (b : Int) - (a : Int) := by omega
  go_enter Tryz.func107, Tryz.ntmps107
  go_wp2
  go_loopg [9] ((b - a - 1) / 2 + 1) (fun k s9 wr => s9 = .int .i64 ((k : Int) - 1) ∧ k ≤ (b - a - 1) / 2 + 1 ∧ ∃ (dk : Array Int) (n : Nat), dk.size = d.size ∧ wr = putRow encU (Sort.ahead w n) blk off dk ∧
    heapBuild ltInt (b - a) a k dk = heapBuild ltInt (b - a) a ((b - a - 1) / 2 + 1) d)
  case atStart => exact ⟨by rw [half_start hab], Nat.le_refl _, d, 0, rfl, (putRow_self encU w blk off d hH).symm, rfl⟩
  case round =>
    obtain ⟨rfl, hkk, dk, n, hds, hwr, heq⟩ := hrel
    have hHk : Holds encU wr blk off dk := by rw [hwr]; exact holds_putRow encU _ blk off d dk (holds_ahead encU w n blk off d hH) hds
    have A : Aside (wr = putRow encU (Sort.ahead w n) blk off dk) := hwr
    clear hwr
    cases gk with
    | zero =>
      have hB : dk = heapBuild ltInt (b - a) a ((b - a - 1) / 2 + 1) d := heq
      clear heq hHk hkk
      go_wp2
      go_loopg [10] (b - a) (fun k s10 wr2 => s10 = .int .i64 ((k : Int) - 1) ∧ k ≤ b - a ∧ ∃ (dj : Array Int) (n2 : Nat), dj.size = d.size ∧ wr2 = putRow encU (Sort.ahead w n2) blk off dj ∧ heapPop ltInt a k dj = heapPop ltInt a (b - a) dk)
      case atStart => exact ⟨by rw [ecast], Nat.le_refl _, dk, n, hds, A.out, rfl⟩
      case round =>
        obtain ⟨rfl, hkk, dj, n2, hdj, hwr2, heq2⟩ := hrel
        cases gk with
        | zero =>
          go_wp2
          go_end0
          refine ⟨rfl, n2, ?_⟩
          have e : dj = heapSort ltInt d a b := by rw [heapSort, ← hB, ← heq2]; rfl
          rw [← e]
        | succ k =>
          have hHj : Holds encU wr blk off dj := by rw [hwr2]; exact holds_putRow encU _ blk off d dj (holds_ahead encU w n2 blk off d hH) hdj
          have hcw : ∀ t, t < d.size → wr.cell? ⟨blk, off + t, none⟩ = some (.int .u32 dj[t]!) := fun t ht => (hHj t (by omega)).1
          have hfw : ∀ t, t < d.size → wr.frozen? ⟨blk, off + t, none⟩ = false := fun t ht => (hHj t (by omega)).2
          have A2 : Aside (wr = putRow encU (Sort.ahead w n2) blk off dj) := hwr2
          clear hwr2 hHj
          rcases Nat.eq_zero_or_pos k with hk0 | hkp
          · subst hk0
            go_wp2_with fail
            go_region
            go_wp2_with fail
            rw [swap_world encU (i := a) (j := a) (by omega) (by omega) A2.out rfl rfl]
            refine (siftDown_u blk off d.size cap (swp dj a (a)) (by rw [size_swp]; exact hdj) 0 0 a _ (holds_putRow encU _ blk off d _ (holds_ahead encU w (n2 + 1) blk off d hH) (by rw [size_swp]; exact hdj)) (Nat.zero_le _) (by rw [size_swp]; omega) (by rw [size_swp]; omega)).mono ?_
            rintro e w1 ⟨rfl, m, hw1⟩
            go_wp2
            go_roundg 0
            case measure => omega
            case rel =>
              refine ⟨by simp, by omega, siftDown ltInt 0 a 0 (swp dj a (a)), n2 + 1 + m, by rw [size_siftDown ltInt _ _ _ _ _ (Nat.le_refl _), size_swp]; exact hdj, ?_, heq2⟩
              first
                | rw [hw1, putRow_ahead_putRow encU w (n2 + 1) m blk off _ _ (size_siftDown ltInt _ _ _ _ _ (Nat.le_refl _))]
                | rw [putRow_ahead_putRow encU w (n2 + 1) m blk off _ _ (size_siftDown ltInt _ _ _ _ _ (Nat.le_refl _))]
          · skip
            go_wp2_with fail
            go_region
            go_wp2_with fail
            rw [swap_world encU (i := a) (j := a + k) (by omega) (by omega) A2.out rfl rfl]
            refine (siftDown_u blk off d.size cap (swp dj a (a + k)) (by rw [size_swp]; exact hdj) 0 k a _ (holds_putRow encU _ blk off d _ (holds_ahead encU w (n2 + 1) blk off d hH) (by rw [size_swp]; exact hdj)) (Nat.zero_le _) (by rw [size_swp]; omega) (by rw [size_swp]; omega)).mono ?_
            rintro e w1 ⟨rfl, m, hw1⟩
            go_wp2
            go_roundg k
            case measure => omega
            case rel =>
              refine ⟨by simp, by omega, siftDown ltInt k a 0 (swp dj a (a + k)), n2 + 1 + m, by rw [size_siftDown ltInt _ _ _ _ _ (Nat.le_refl _), size_swp]; exact hdj, ?_, heq2⟩
              first
                | rw [hw1, putRow_ahead_putRow encU w (n2 + 1) m blk off _ _ (size_siftDown ltInt _ _ _ _ _ (Nat.le_refl _))]
                | rw [putRow_ahead_putRow encU w (n2 + 1) m blk off _ _ (size_siftDown ltInt _ _ _ _ _ (Nat.le_refl _))]
    | succ k =>
      have hcall := siftDown_u blk off d.size cap dk hds k (b - a) a wr hHk (by omega) (by omega) (by omega)
      rw [ecast] at hcall
      go_wp2_with (go_at_call 134; refine hcall.mono ?_; rintro e w1 ⟨rfl, m, hw1⟩)
      go_roundg k
      case measure => omega
      case rel =>
        refine ⟨by simp, by omega, siftDown ltInt (b - a) a k dk, n + m, by rw [size_siftDown ltInt _ _ _ _ _ (Nat.le_refl _)]; exact hds, ?_, heq⟩
        rw [A.out, putRow_ahead_putRow encU w n m blk off dk _ (size_siftDown ltInt _ _ _ _ _ (Nat.le_refl _))]
end Go.Proofs.YtnghoibkjphfmaaGreat
/- The library's sort at uint32, a part of its walks: turned from the worked walks at int. -/
namespace Go.Proofs.YtnghoibkjphfmaaGreat
open Go.Sort Go.RowKit
set_option maxHeartbeats 6400000 in
set_option maxRecDepth 100000 in
theorem partitionEqual_u (blk off cap a b pivot : Nat) (d : Array Int) (w : World) (hH : Holds encU w blk off d) (hap : a ≤ pivot) (hpb : pivot < b) (hb : b ≤ d.size) (hsz : d.size < 4611686018427387904) :
    Calls Tryz.prog 113 #[.slice (some ⟨blk, off, none⟩) d.size cap, .int .i64 a, .int .i64 b, .int .i64 pivot] w fun e w' =>
      e = .returned (.int .i64 (Sort.partitionEqual Sort.ltInt d a b pivot).1) ∧ ∃ n, w' = (putRow encU w blk off (Sort.partitionEqual Sort.ltInt d a b pivot).2).drewN n := by
  have hla : a < d.size := by omega
  have hlp : pivot < d.size := by omega
  obtain ⟨G, hG⟩ : ∃ G : Nat → Int, ∀ j, G j = d[j]! := ⟨fun j => d[j]!, fun _ => rfl⟩
  have ca : w.cell? ⟨blk, off + a, none⟩ = some (.int .u32 (G a)) := by rw [hG]; exact (hH a hla).1
  have fa := (hH a hla).2
  have cp : w.cell? ⟨blk, off + pivot, none⟩ = some (.int .u32 (G pivot)) := by rw [hG]; exact (hH pivot hlp).1
  have fp := (hH pivot hlp).2
  obtain ⟨v', hy'⟩ := cell?_setCell_some (w := w) (p := ⟨blk, off + a, none⟩) (x := .int .u32 (G pivot)) (q := ⟨blk, off + pivot, none⟩) cp
  have AG : Hid (∀ j, G j = d[j]!) := hG
  have AH : Hid (Holds encU w blk off d) := hH
  clear hG hH
  go_enter Tryz.func113, Tryz.ntmps113
  go_wp2
  go_region
  go_wp2
  go_loopw [9, 10] (fun vi vj wr => ∃ (i j n : Nat) (dk : Array Int), vi = .int .i64 i ∧ vj = .int .i64 j ∧ a < i ∧ i ≤ j + 1 ∧ j < b ∧ dk.size = d.size ∧ wr = (putRow encU w blk off dk).drewN n ∧
      Sort.partEqLoop Sort.ltInt a i j dk = Sort.partEqLoop Sort.ltInt a (a + 1) (b - 1) (Sort.swp d a pivot))
    (fun vi vj _ => (intOf vj).toNat + 1 - (intOf vi).toNat)
  case atStart =>
    refine ⟨a + 1, b - 1, 1, Sort.swp d a pivot, by go_num, by go_num, by omega, by omega, by omega, size_swp _ _ _, ?_, rfl⟩
    have e := swap_worldC encU w blk off d 0 a pivot hla hlp
    rw [putRow_self _ w blk off d AH.out] at e
    rw [AG.out a, AG.out pivot]
    exact e
  case round =>
    obtain ⟨i, j, n, dk, rfl, rfl, hai, hij, hjb, hs, hw, heq⟩ := hrel
    clear ca fa cp fp hy' v' AG
    rename World => W1
    have hHk : Holds encU W1 blk off dk := by
      rw [hw]
      exact holds_putRow encU w blk off d dk AH.out hs
    obtain ⟨Gk, hG⟩ : ∃ Gk : Nat → Int, ∀ t, Gk t = dk[t]! := ⟨fun t => dk[t]!, fun _ => rfl⟩
    have hc : ∀ t, t < d.size → W1.cell? ⟨blk, off + t, none⟩ = some (.int .u32 (Gk t)) := fun t ht => by rw [hG]; exact (hHk t (by omega)).1
    have hf : ∀ t, t < d.size → W1.frozen? ⟨blk, off + t, none⟩ = false := fun t ht => (hHk t (by omega)).2
    have AG : Hid (∀ t, Gk t = dk[t]!) := hG
    have AW : Hid (W1 = (putRow encU w blk off dk).drewN n) := hw
    have AE : Hid (Sort.partEqLoop Sort.ltInt a i j dk = Sort.partEqLoop Sort.ltInt a (a + 1) (b - 1) (Sort.swp d a pivot)) := heq
    clear hG hw heq hHk
    go_wp2
    go_loopw [9] (fun vi w1 => ∃ (i' n1 : Nat), vi = .int .i64 i' ∧ i ≤ i' ∧ i' ≤ j + 1 ∧ w1 = W1.drewN n1 ∧
        Hid (Sort.scanUp (fun x => !Sort.ltInt dk[a]! x) dk j i' = Sort.scanUp (fun x => !Sort.ltInt dk[a]! x) dk j i))
      (fun vi _ => j + 1 - (intOf vi).toNat)
    case atStart => exact ⟨i, 0, rfl, Nat.le_refl _, hij, rfl, rfl⟩
    case round =>
      obtain ⟨i', n1, rfl, hii, hij', hw1, hsc⟩ := hrel
      have hcw : ∀ t, t < d.size → wr.cell? ⟨blk, off + t, none⟩ = some (.int .u32 (Gk t)) := fun t ht => by rw [hw1]; exact hc t ht
      have HW1 : Hid (wr = W1.drewN n1) := hw1
      clear hw1
      by_cases hle : i' ≤ j
      · go_wp2_with fail
        go_big_quiet (first | (go_at_call 112; refine Calls.quiet_of_same (less_u _ _ _)))
        go_wp2
        ·
          have ht : (!Sort.ltInt (Gk a) (Gk i')) = true := by assumption
          go_roundw
          case rel => exact ⟨i' + 1, n1 + nq, by go_num, by omega, by omega, by rw [HW1.out, World.drewN_drewN], (scanUp_go (fun x => !Sort.ltInt dk[a]! x) dk j i' hle (by rw [← AG.out a, ← AG.out i']; exact ht)).symm.trans hsc.out⟩
          case measure => simp [intOf]; omega
        ·
          have ht : (!Sort.ltInt (Gk a) (Gk i')) = false := by assumption
          have hi2 : Hid (i' = Sort.scanUp (fun x => !Sort.ltInt dk[a]! x) dk j i) := (scanUp_end (fun x => !Sort.ltInt dk[a]! x) dk j i' (Or.inr (by rw [← AG.out a, ← AG.out i']; exact ht))).symm.trans hsc.out
          clear ht
          have hw2 : wr.drewN nq = W1.drewN (n1 + nq) := by rw [HW1.out, World.drewN_drewN]
          clear hcw HW1 hsc
          go_loopw [10] (fun vj w2 => ∃ (j' n2 : Nat), vj = .int .i64 j' ∧ j' ≤ j ∧ i' ≤ j' + 1 ∧ w2 = W1.drewN n2 ∧
              Hid (Sort.scanDown (fun x => Sort.ltInt dk[a]! x) dk i' j' = Sort.scanDown (fun x => Sort.ltInt dk[a]! x) dk i' j))
            (fun vj _ => (intOf vj).toNat)
          case atStart => exact ⟨j, n1 + nq, rfl, Nat.le_refl _, hij', hw2, rfl⟩
          case round =>
            clear hw2
            obtain ⟨j', n2, rfl, hjj, hij2, hw2, hsd⟩ := hrel
            have hcw : ∀ t, t < d.size → wr.cell? ⟨blk, off + t, none⟩ = some (.int .u32 (Gk t)) := fun t ht => by rw [hw2]; exact hc t ht
            have HW2 : Hid (wr = W1.drewN n2) := hw2
            clear hw2
            by_cases hle2 : i' ≤ j'
            · go_wp2_with fail
              go_big_quiet (first | (go_at_call 112; refine Calls.quiet_of_same (less_u _ _ _)))
              go_wp2
              ·
                have ht : Sort.ltInt (Gk a) (Gk j') = true := by assumption
                go_roundw
                case rel => exact ⟨j' - 1, n2 + nq, by go_num, by omega, by omega, by rw [HW2.out, World.drewN_drewN], (scanDown_go (fun x => Sort.ltInt dk[a]! x) dk i' j' hle2 (by omega) (by rw [← AG.out a, ← AG.out j']; exact ht)).symm.trans hsd.out⟩
                case measure => simp [intOf]; omega
              ·
                have ht : Sort.ltInt (Gk a) (Gk j') = false := by assumption
                have hj2 : Hid (j' = Sort.scanDown (fun x => Sort.ltInt dk[a]! x) dk i' j) := (scanDown_end (fun x => Sort.ltInt dk[a]! x) dk i' j' (Or.inr (by rw [← AG.out a, ← AG.out j']; exact ht))).symm.trans hsd.out
                clear hcw hsd ht
                have hw3 : wr.drewN nq = W1.drewN (n2 + nq) := by rw [HW2.out, World.drewN_drewN]
                generalize wr.drewN nq = W3 at hw3 ⊢
                have hc3 : ∀ t, t < d.size → W3.cell? ⟨blk, off + t, none⟩ = some (.int .u32 (Gk t)) := fun t ht => by rw [hw3]; exact hc t ht
                have hf3 : ∀ t, t < d.size → W3.frozen? ⟨blk, off + t, none⟩ = false := fun t ht => by rw [hw3]; exact hf t ht
                have HW3 : Hid (W3 = W1.drewN (n2 + nq)) := hw3
                clear hw3
                obtain ⟨v3, hy3⟩ := cell?_setCell_some (w := W3) (p := ⟨blk, off + i', none⟩) (x := .int .u32 (Gk j')) (q := ⟨blk, off + j', none⟩) (hc3 j' (by omega))
                have hlt3 := scans_lt Sort.ltInt a i j dk (by omega) hi2.out hj2.out hle2
                go_wp2
                go_region
                all_goals go_wp2
                all_goals go_roundw
                case rel =>
                  refine ⟨i' + 1, j' - 1, n + (n2 + nq) + 1, Sort.swp dk i' j', by go_num, by go_num, by omega, by omega, by omega, by rw [size_swp]; exact hs, ?_, ?_⟩
                  · rw [HW3.out, AW.out, World.drewN_drewN, AG.out i', AG.out j']
                    exact swap_worldC encU w blk off dk _ i' j' (by omega) (by omega)
                  · rw [← AE.out]; exact (partEq_go Sort.ltInt a i j dk hi2.out hj2.out (by omega)).symm
                case measure => simp [intOf]; omega
            · go_wp2_with fail
              go_big_quiet (first | (go_at_call 112; refine Calls.quiet_of_same (less_u _ _ _)))
              have hj2 : Hid (j' = Sort.scanDown (fun x => Sort.ltInt dk[a]! x) dk i' j) := (scanDown_end (fun x => Sort.ltInt dk[a]! x) dk i' j' (Or.inl hle2)).symm.trans hsd.out
              clear hcw hsd
              have hw3 : wr.drewN nq = W1.drewN (n2 + nq) := by rw [HW2.out, World.drewN_drewN]
              generalize wr.drewN nq = W3 at hw3 ⊢
              have hc3 : ∀ t, t < d.size → W3.cell? ⟨blk, off + t, none⟩ = some (.int .u32 (Gk t)) := fun t ht => by rw [hw3]; exact hc t ht
              have hf3 : ∀ t, t < d.size → W3.frozen? ⟨blk, off + t, none⟩ = false := fun t ht => by rw [hw3]; exact hf t ht
              have HW3 : Hid (W3 = W1.drewN (n2 + nq)) := hw3
              clear hw3
              go_wp2
              go_ret
              have e := partEq_break Sort.ltInt a i j dk hi2.out hj2.out (by omega)
              refine ⟨?_, n + (n2 + nq), ?_⟩
              · unfold Sort.partitionEqual; rw [← AE.out, e]; rfl
              · unfold Sort.partitionEqual; rw [← AE.out, e, HW3.out, AW.out, World.drewN_drewN]
      · go_wp2_with fail
        go_big_quiet (first | (go_at_call 112; refine Calls.quiet_of_same (less_u _ _ _)))
        go_wp2
        have hi2 : Hid (i' = Sort.scanUp (fun x => !Sort.ltInt dk[a]! x) dk j i) := (scanUp_end (fun x => !Sort.ltInt dk[a]! x) dk j i' (Or.inl hle)).symm.trans hsc.out
        have hw2 : wr.drewN nq = W1.drewN (n1 + nq) := by rw [HW1.out, World.drewN_drewN]
        clear hcw HW1 hsc
        go_loopw [10] (fun vj w2 => ∃ (j' n2 : Nat), vj = .int .i64 j' ∧ j' ≤ j ∧ i' ≤ j' + 1 ∧ w2 = W1.drewN n2 ∧
            Hid (Sort.scanDown (fun x => Sort.ltInt dk[a]! x) dk i' j' = Sort.scanDown (fun x => Sort.ltInt dk[a]! x) dk i' j))
          (fun vj _ => (intOf vj).toNat)
        case atStart => exact ⟨j, n1 + nq, rfl, Nat.le_refl _, hij', hw2, rfl⟩
        case round =>
          clear hw2
          obtain ⟨j', n2, rfl, hjj, hij2, hw2, hsd⟩ := hrel
          have hcw : ∀ t, t < d.size → wr.cell? ⟨blk, off + t, none⟩ = some (.int .u32 (Gk t)) := fun t ht => by rw [hw2]; exact hc t ht
          have HW2 : Hid (wr = W1.drewN n2) := hw2
          clear hw2
          by_cases hle2 : i' ≤ j'
          · exfalso; omega
          · go_wp2_with fail
            go_big_quiet (first | (go_at_call 112; refine Calls.quiet_of_same (less_u _ _ _)))
            have hj2 : Hid (j' = Sort.scanDown (fun x => Sort.ltInt dk[a]! x) dk i' j) := (scanDown_end (fun x => Sort.ltInt dk[a]! x) dk i' j' (Or.inl hle2)).symm.trans hsd.out
            clear hcw hsd
            have hw3 : wr.drewN nq = W1.drewN (n2 + nq) := by rw [HW2.out, World.drewN_drewN]
            generalize wr.drewN nq = W3 at hw3 ⊢
            have hc3 : ∀ t, t < d.size → W3.cell? ⟨blk, off + t, none⟩ = some (.int .u32 (Gk t)) := fun t ht => by rw [hw3]; exact hc t ht
            have hf3 : ∀ t, t < d.size → W3.frozen? ⟨blk, off + t, none⟩ = false := fun t ht => by rw [hw3]; exact hf t ht
            have HW3 : Hid (W3 = W1.drewN (n2 + nq)) := hw3
            clear hw3
            go_wp2
            go_ret
            have e := partEq_break Sort.ltInt a i j dk hi2.out hj2.out (by omega)
            refine ⟨?_, n + (n2 + nq), ?_⟩
            · unfold Sort.partitionEqual; rw [← AE.out, e]; rfl
            · unfold Sort.partitionEqual; rw [← AE.out, e, HW3.out, AW.out, World.drewN_drewN]
theorem partitionEqualOrdered_u (blk off cap a b pivot : Nat) (d : Array Int) (w : World) (hH : Holds encU w blk off d) (hap : a ≤ pivot) (hpb : pivot < b) (hb : b ≤ d.size) (hsz : d.size < 4611686018427387904) :
    Calls Tryz.prog 113 #[.slice (some ⟨blk, off, none⟩) d.size cap, .int .i64 a, .int .i64 b, .int .i64 pivot] w fun e w' =>
      e = .returned (.int .i64 (Sort.partitionEqual Sort.ltInt d a b pivot).1) ∧ ∃ n, w' = putRow encU (Sort.ahead w n) blk off (Sort.partitionEqual Sort.ltInt d a b pivot).2 :=
  (partitionEqual_u blk off cap a b pivot d w hH hap hpb hb hsz).mono fun _ _ ⟨he, n, hw⟩ => ⟨he, n, hw⟩
end Go.Proofs.YtnghoibkjphfmaaGreat
