/- slices.AppendSeq(nil, ..), Collect, SortedFunc at pairs, against whatever iterator value; 'pairs'. -/
import Derived.Test.YtgeaaegkcbjhlaaPair
namespace Go.Proofs.Ytgeaaegkcbjhlaa
open Go.RowKit Go.Shelf Go.Maps Go.Sort


def flatP (l : List P2) : List Value := l.flatMap encP
theorem flatP_snoc (l : List P2) (x : P2) : flatP (l ++ [x]) = flatP l ++ [.int .i64 (x.1.val : Int), .int .i64 (x.2.val : Int)] := by
  simp [flatP, encP, List.flatMap_append]
theorem flatP_length (l : List P2) : (flatP l).length = l.length * 2 := by
  unfold flatP
  induction l with
  | nil => rfl
  | cons x r ih => simp [encP, ih]; omega
theorem info_p : (Try.prog.info? 34).map (fun i => (i.zero, i.size, i.bytes)) = some (some (.agg #[.int .i64 0, .int .i64 0]), 2, 16) := by kernel_rfl
theorem cell_two_at {W : World} {p : Nat} {u v : Value} {t : TypeId} (h : W.heap[p]? = some (.cells #[u, v] t (0, 0))) : W.cell? ⟨p, 0, none⟩ = some u ∧ W.cell? ⟨p, 1, none⟩ = some v := by
  constructor <;> simp [World.cell?, h]
theorem cell_two_new' (W : World) (u v : Value) (t : TypeId) : ∀ j x, [u, v][j]? = some x → (W.alloc (.cells #[u, v] t)).cell? ((⟨W.heap.size, 0, none⟩ : Addr).add j) = some x := by
  intro j x h
  match j, h with
  | 0, h => simp at h; subst h; simp [Addr.add]
  | 1, h => simp at h; subst h; simp [Addr.add]

set_option maxRecDepth 100000 in
set_option maxHeartbeats 2000000 in
theorem append_p (F : Fence) (hF : ∀ f, F.fn f) (n : Nat) (hro : F.round = none) (hn : 2 ≤ n) (g : Nat) (lb : Array Value) (eg : ∀ args w, (callFunc g args).run Try.prog w = .ok (.enter g args) w)
    (Kp : World → World → Prop) (S Sp : List P2 → Prop) (N : Nat) (hN : N ≤ 4294967296) (w : World)
    (hKt : ∀ {A B C : World}, Kp A B → Kp B C → Kp A C) (hKb : ∀ (W : World) (l : Nat) (o o' : Obj), w.heap.size ≤ l → W.heap[l]? = some o → o.isCells = false → o.isWalk = false → Kp W (W.putObj l o'))
    (hKo : ∀ W W', KeepsOthers W W' → Below w.heap.size W W' → Kp W W')
    (hseq : SeqStopsK F (n - 1) Try.prog g lb (fun x : P2 => #[.agg #[.int .i64 (x.1.val : Int), .int .i64 (x.2.val : Int)]]) Kp S Sp N w) :
    CallsIn F n Try.prog 69 #[.slice none 0 0, .func (.func g) #[] lb] w fun e w' => ∃ (v : Value) (ss : List P2), e = .returned v ∧ S ss ∧ ss.length ≤ N ∧ w'.ownsRow w.heap.size 34 2 v ss.length (flatP ss) ∧ (v = .slice none 0 0 ↔ ss = []) ∧ Below w.heap.size w w' := by
  have h1 : 1 ≤ n := by omega
  obtain ⟨i0, hi, jz0, jz1, jz2⟩ := info_parts info_p
  refine callsIn_of_wp_marks Try.func69 rfl (hF _) ?_ hro
  simp only [Try.ntmps69, List.size_toArray, List.length_cons, List.length_nil, Nat.reduceAdd, Nat.reduceSub, Array.replicate_succ, Array.replicate_zero, List.push_toArray, List.append_toArray, List.nil_append, List.cons_append]
  gi_wp2
  have bO := Boxed.new w 32 (.slice none 0 0)
  have hB0 : Below w.heap.size w (w.alloc (.cells #[.slice none 0 0] 32)) := (Below.refl _ w).alloc (Nat.le_refl _) _
  refine wpIn_rangeFunc_ownH hro h1 (gf := g) (lb := lb) rfl (hF _) eg (N := N) hseq hKt (fun W l o o' hl h1 h2 h3 => hKb W l o o' (by simp at hl; omega) h1 h2 h3) hB0 (fun _ => rfl)
    (fun pre W => ((∃ v, Boxed W w.heap.size 32 v ∧ W.ownsRow w.heap.size 34 2 v pre.length (flatP pre) ∧ (v = .slice none 0 0 ↔ pre = [])) ∧ Below w.heap.size w W) ∧ pre.length ≤ N)
    (fun _ _ _ => False)
    (OwnFrom.and (OwnFrom.and (Own.from (holdsRow_own w.heap.size w.heap.size 32 34 2 (fun pre : List P2 => pre.length) (fun pre => flatP pre) (fun pre v => v = .slice none 0 0 ↔ pre = [])) _) (ownFrom_below (Nat.le_refl _) (by simp))) (fun _ _ _ _ hs _ _ => hs))
    (fun _ _ _ _ _ hs _ _ => hs)
    ⟨⟨⟨_, bO, World.ownsRow_nil _ _ _ _, by simp⟩, hB0⟩, by simp⟩
    (fun x a' W => ∃ p, w.heap.size ≤ p ∧ W.heap[p]? = some (.cells #[.int .i64 (x.1.val : Int), .int .i64 (x.2.val : Int)] 34 (0, 0)) ∧ a' = { tmps := #[.slice none 0 0, .func (.func g) #[] lb, .pointer (some ⟨w.heap.size, 0, none⟩), undef, .slice none 0 0, .pointer (some ⟨p, 0, none⟩), .func (.func g) #[] lb, .agg #[.int .i64 (x.1.val : Int), .int .i64 (x.2.val : Int)], undef, undef, undef, undef, undef], defers := [] }) ?hAx ?assign ?body ?done ?stop
  case hAx =>
    rintro x a' _ W W' row ⟨p, hp, hpc, he⟩ hg hr
    refine ⟨p, hp, (hg.block p (Array.getElem?_eq_some_iff.1 hpc).1 ?_).trans hpc, he⟩
    intro e
    obtain ⟨_, o, ho, hc⟩ := hr p e.symm
    rw [hpc] at ho; cases ho; cases hc
  case assign =>
    intro l pre x W K hI hK
    gi_wp2_with (rw [Oper.semAt_eq _ _ _ (fun c h => by cases h)]; go_simp; try go_bits)
    obtain ⟨⟨⟨v, hv, hrow, hnil⟩, hB⟩, hl⟩ := hI
    refine hK _ _ ((KeepsOthers.alloc _ _).from _) (hKo _ _ (KeepsOthers.alloc _ _) ((Below.refl _ _).alloc hB.size _)) ⟨⟨⟨v, hv.alloc _, hrow.alloc _, hnil⟩, hB.alloc hB.size _⟩, hl⟩ ⟨W.heap.size, hB.size, World.alloc_heap_new W _, rfl⟩
  case body =>
    rintro l pre x a' W hl9 hr9 ⟨⟨⟨v, hv, hrow, hnil⟩, hB⟩, _⟩ ⟨p, hp, hpc, rfl⟩ hlt
    have hc := hv.cell
    obtain ⟨hp0, hp1⟩ := cell_two_at hpc
    gi_wp2_with (first | (gi_at_builtin; refine wpListIn_append_own _ rfl _ _ 32 rfl w.heap.size 34 i0 (.agg #[.int .i64 0, .int .i64 0]) 2 16 Try.underlying32 hi jz0 jz1 jz2 rfl (by decide) _ _ _ rfl (hrow.alloc _) ⟨W.heap.size, 0, none⟩ 1 1 [.int .i64 (x.1.val : Int), .int .i64 (x.2.val : Int)] rfl rfl (cell_two_new' _ _ _ _) (by simp [Value.oneCell']) (by unfold maxLen; omega) (by omega) (by have := hB.size; simp; omega) ?_; intro v' w1 hown' hgrow _; obtain ⟨g', cap', rfl⟩ := ownsRow_succ hown'; obtain ⟨hv1, hv2, hr2, hk2, hb2⟩ := hv.appended (by decide) hrow hB.size (Nat.le_refl _) hown' hgrow; have hc1 := hv1.cell; have hf1 := hv1.frozen; go_frame) | (rw [Oper.semAt_eq _ _ _ (fun c h => by cases h)]; go_simp; try go_bits))
    exact ⟨hk2.from _, hKo _ _ hk2 hb2, ⟨⟨_, hv2, by rw [flatP_snoc]; simpa using hr2, by simp⟩, hB.trans hb2⟩, by simp; omega⟩
  case done =>
    rintro D ys W hD hS ⟨⟨⟨v, hv, hrow, hnil⟩, hB⟩, hlen⟩ hK
    have hc := hv.cell
    gi_wp2
    refine ⟨by simp, .inl ⟨_, _, rfl, run_takeDeferred hK, ?_⟩⟩
    exact ⟨_, results_tmp rfl _ _ _, v, ys, rfl, hS, hlen, ownsRow_putObj hrow _ hK rfl, hnil, hB.trans (belowK_b (w := w) (Nat.le_refl _) W D _ _ (by simp at hD; omega) hK rfl rfl)⟩
  case stop =>
    rintro D c pre W _ _ h _
    exact h.elim

set_option maxHeartbeats 1000000 in
theorem collect_p (F : Fence) (hF : ∀ f, F.fn f) (n : Nat) (hro : F.round = none) (hn : 3 ≤ n) (g : Nat) (lb : Array Value) (eg : ∀ args w, (callFunc g args).run Try.prog w = .ok (.enter g args) w)
    (Kp : World → World → Prop) (S Sp : List P2 → Prop) (N : Nat) (hN : N ≤ 4294967296) (w : World)
    (hKt : ∀ {A B C : World}, Kp A B → Kp B C → Kp A C) (hKb : ∀ (W : World) (l : Nat) (o o' : Obj), w.heap.size ≤ l → W.heap[l]? = some o → o.isCells = false → o.isWalk = false → Kp W (W.putObj l o'))
    (hKo : ∀ W W', KeepsOthers W W' → Below w.heap.size W W' → Kp W W')
    (hseq : SeqStopsK F (n - 1 - 1) Try.prog g lb (fun x : P2 => #[.agg #[.int .i64 (x.1.val : Int), .int .i64 (x.2.val : Int)]]) Kp S Sp N w) :
    CallsIn F n Try.prog 62 #[.func (.func g) #[] lb] w fun e w' => ∃ (v : Value) (ss : List P2), e = .returned v ∧ S ss ∧ ss.length ≤ N ∧ w'.ownsRow w.heap.size 34 2 v ss.length (flatP ss) ∧ (v = .slice none 0 0 ↔ ss = []) ∧ Below w.heap.size w w' := by
  have h1 : 1 ≤ n := by omega
  refine callsIn_of_wp Try.func62 rfl (hF _) ?_ hro
  simp only [Try.ntmps62, List.size_toArray, List.length_cons, List.length_nil, Nat.reduceAdd, Nat.reduceSub, Array.replicate_succ, Array.replicate_zero, List.push_toArray, List.append_toArray, List.nil_append, List.cons_append]
  gi_wp2_with (gi_at_call 69; refine (append_p F hF (n - 1) hro (by omega) g lb eg Kp S Sp N hN _ hKt hKb hKo hseq).mono ?_; rintro e w' ⟨v, ss, rfl, hS, hlen, hrow, hnil, hb⟩)
  go_ret
  exact ⟨v, ss, rfl, hS, hlen, hrow, hnil, hb⟩
end Go.Proofs.Ytgeaaegkcbjhlaa
