/- Parts. -/
import Derived.RangeFuncNested
import Derived.Shelf.SlSortCmp.NoneTotal
import Derived.Test.YtnkocjkkefnelaaGreatPs4
import Derived.Test.YtnkocjkkefnelaaGreatPs6
import Derived.Test.YtnkocjkkefnelaaGreatPs7
import Derived.Test.YtnkocjkkefnelaaGreatPs9
import Derived.Test.YtnkocjkkefnelaaGreatPs10
import Derived.Test.YtnkocjkkefnelaaGreatPs16
import Derived.Test.YtnkocjkkefnelaaGreatPs18
set_option linter.unusedVariables false
set_option linter.unusedSimpArgs false
set_option maxHeartbeats 4000000
namespace Go.Proofs.YtnkocjkkefnelaaGreat
open Go.RowKit Go.Shelf Go.Maps Go.Sort
abbrev P2 := Fin 65536 × Fin 65536
def encP (x : P2) : List Value := [.int .i64 (x.1.val : Int), .int .i64 (x.2.val : Int)]
def aggP (x : P2) : Value := .agg #[.int .i64 (x.1.val : Int), .int .i64 (x.2.val : Int)]
def cmpP (x y : P2) : Int := if x.1.val = y.1.val then (x.2.val : Int) - (y.2.val : Int) else (x.1.val : Int) - (y.1.val : Int)
def ltP (x y : P2) : Bool := decide (x.1.val < y.1.val ∨ (x.1.val = y.1.val ∧ x.2.val < y.2.val))
theorem zF (x y : P2) : ltOf cmpP x y = ltP x y := by
 unfold ltOf ltP cmpP
 by_cases h : x.1.val = y.1.val
 ·rw [if_pos h]
  refine decide_eq_decide.2 ?_
  omega
 ·rw [if_neg h]
  refine decide_eq_decide.2 ?_
  omega
theorem swoP : SWO (ltOf cmpP) where
 irrefl x := by rw [zF]; simp [ltP]
 trans x y z h1 h2 := by rw [zF] at *; simp only [ltP, decide_eq_true_eq] at *; omega
 ntrans x y z h1 h2 := by rw [zF] at *; simp only [ltP, decide_eq_false_iff_not] at *; omega
set_option maxHeartbeats 1000000 in
theorem cmpP_c (x y : P2) (W : World) : Calls Tryz.prog 106 #[aggP x, aggP y] W fun e w' => e = .returned (.int .i64 (cmpP x y)) ∧ ∃ q os', w' = grow (W.drewN q) os' := by
 obtain ⟨⟨a, ha⟩, ⟨b, hb⟩⟩ := x
 obtain ⟨⟨c, hc⟩, ⟨d, hd⟩⟩ := y
 unfold aggP cmpP
 dsimp only
 by_cases h : a = c
 ·rw [if_pos h]
  subst h
  have h1 : ((a : Int) != (a : Int)) = false := by simp
  go_enter Tryz.func106, Tryz.ntmps106
  go_wp2
  go_ret
  exact ⟨rfl, 0, _, by rw [alloc_eq_grow, alloc_eq_grow, grow_grow]; rfl⟩
 ·rw [if_neg h]
  have h1 : ((a : Int) != (c : Int)) = true := by simp; omega
  have h2 : (a != c) = true := by simpa using h
  clear h
  go_enter Tryz.func106, Tryz.ntmps106
  go_wp2
  go_ret
  exact ⟨rfl, 0, _, by rw [alloc_eq_grow, alloc_eq_grow, grow_grow]; rfl⟩
theorem cmpLaysP (blk off size : Nat) (w : World) : CmpLays Tryz.prog 106 #[] encP 2 cmpP blk off size w :=
 fun _ _ _ _ x y => cmpP_c x y _
theorem sortPairs_c (blk off cap : Nat) (d : Array P2) (w : World) (hH : HoldsK encP 2 w blk off d) (hblk : blk < w.heap.size) (hsz : d.size < 4611686018427387904) :
  Calls Tryz.prog 95 #[.slice (some ⟨blk, off, none⟩) d.size cap, .func (.func 106) #[] #[]] w fun e w' => e = .returned (.tuple #[]) ∧ ∃ d' n os, PermIn 0 d.size d d' ∧ SortedIn ltP 0 d.size d' ∧ w' = sortWorldK encP 2 w blk off n d' os := by
 have h := AnyQ.slices_SortFunc Tryz.sortPairs 2 Tryz.isAgg73 Tryz.sizeOf73 encP (fun _ => rfl) (fun x v hv => by simp [encP] at hv; rcases hv with rfl | rfl <;> rfl) cmpP swoP 106 #[] blk off cap d w (enters_of Tryz.func106 (by kernel_rfl) rfl) (cmpLaysP blk off d.size w) hH hblk hsz
 refine Calls.mono h ?_
 rintro e w' ⟨he, d', n, os, hp, hs, hw⟩
 exact ⟨he, d', n, os, hp, fun i j h1 h2 h3 => by rw [← zF]; exact hs i j h1 h2 h3, hw⟩
theorem bY (p : Option Addr) (cap : Nat) (fv : Value) (w : World) :
  Calls Tryz.prog 95 #[.slice p 0 cap, fv] w fun e w' => e = .returned (.tuple #[]) ∧ w' = w := AnyF.slices_SortFunc_none Tryz.sortPairs p cap fv w
open Go.RowKit Go.Shelf Go.Maps Go.Sort
def flatP (l : List P2) : List Value := l.flatMap encP
theorem flatP_snoc (l : List P2) (x : P2) : flatP (l ++ [x]) = flatP l ++ [.int .i64 (x.1.val : Int), .int .i64 (x.2.val : Int)] := by
 simp [flatP, encP, List.flatMap_append]
theorem fO (l : List P2) : (flatP l).length = l.length * 2 := by
 unfold flatP
 induction l with
 | nil => rfl
 | cons x r ih => simp [encP, ih]; omega
theorem sX : (Tryz.prog.info? 73).map (fun i => (i.zero, i.size, i.bytes)) = some (some (.agg #[.int .i64 0, .int .i64 0]), 2, 16) := by kernel_rfl
theorem cell_two_at {W : World} {p : Nat} {u v : Value} {t : TypeId} (h : W.heap[p]? = some (.cells #[u, v] t (0, 0))) : W.cell? ⟨p, 0, none⟩ = some u ∧ W.cell? ⟨p, 1, none⟩ = some v := by
 constructor <;> simp [World.cell?, h]
theorem cell_two_new' (W : World) (u v : Value) (t : TypeId) : ∀ j x, [u, v][j]? = some x → (W.alloc (.cells #[u, v] t)).cell? ((⟨W.heap.size, 0, none⟩ : Addr).add j) = some x := by
 intro j x h
 match j, h with
 | 0, h => simp at h; subst h; simp [Addr.add]
 | 1, h => simp at h; subst h; simp [Addr.add]
set_option maxRecDepth 100000 in
set_option maxHeartbeats 2000000 in
theorem append_p (F : Fence) (hF : ∀ f, F.fn f) (n : Nat) (hro : F.round = none) (hn : 2 ≤ n) (g : Nat) (lb : Array Value) (eg : ∀ args w, (callFunc g args).run Tryz.prog w = .ok (.enter g args) w)
  (Kp : World → World → Prop) (S Sp : List P2 → Prop) (N : Nat) (hN : N ≤ 4294967296) (w : World)
  (hKt : ∀ {A B C : World}, Kp A B → Kp B C → Kp A C) (hKb : ∀ (W : World) (l : Nat) (o o' : Obj), w.heap.size ≤ l → W.heap[l]? = some o → o.isCells = false → o.isWalk = false → Kp W (W.putObj l o'))
  (hKo : ∀ W W', KeepsOthers W W' → Below w.heap.size W W' → Kp W W')
  (hseq : SeqStopsK F (n - 1) Tryz.prog g lb (fun x : P2 => #[.agg #[.int .i64 (x.1.val : Int), .int .i64 (x.2.val : Int)]]) Kp S Sp N w) :
  CallsIn F n Tryz.prog 111 #[.slice none 0 0, .func (.func g) #[] lb] w fun e w' => ∃ (v : Value) (ss : List P2), e = .returned v ∧ S ss ∧ ss.length ≤ N ∧ w'.ownsRow w.heap.size 73 2 v ss.length (flatP ss) ∧ (v = .slice none 0 0 ↔ ss = []) ∧ Below w.heap.size w w' := by
 have h1 : 1 ≤ n := by omega
 obtain ⟨i0, hi, jz0, jz1, jz2⟩ := info_parts sX
 refine callsIn_of_wp_marks Tryz.func111 rfl (hF _) ?_ hro
 simp only [Tryz.ntmps111, List.size_toArray, List.length_cons, List.length_nil, Nat.reduceAdd, Nat.reduceSub, Array.replicate_succ, Array.replicate_zero, List.push_toArray, List.append_toArray, List.nil_append, List.cons_append]
 gi_wp2
 have bO := Boxed.new w 51 (.slice none 0 0)
 have hB0 : Below w.heap.size w (w.alloc (.cells #[.slice none 0 0] 51)) := (Below.refl _ w).alloc (Nat.le_refl _) _
 refine wpIn_rangeFunc_ownH hro h1 (gf := g) (lb := lb) rfl (hF _) eg (N := N) hseq hKt (fun W l o o' hl h1 h2 h3 => hKb W l o o' (by simp at hl; omega) h1 h2 h3) hB0 (fun _ => rfl)
  (fun pre W => ((∃ v, Boxed W w.heap.size 51 v ∧ W.ownsRow w.heap.size 73 2 v pre.length (flatP pre) ∧ (v = .slice none 0 0 ↔ pre = [])) ∧ Below w.heap.size w W) ∧ pre.length ≤ N)
  (fun _ _ _ => False)
  (OwnFrom.and (OwnFrom.and (Own.from (holdsRow_own w.heap.size w.heap.size 51 73 2 (fun pre : List P2 => pre.length) (fun pre => flatP pre) (fun pre v => v = .slice none 0 0 ↔ pre = [])) _) (ownFrom_below (Nat.le_refl _) (by simp))) (fun _ _ _ _ hs _ _ => hs))
  (fun _ _ _ _ _ hs _ _ => hs)
  ⟨⟨⟨_, bO, World.ownsRow_nil _ _ _ _, by simp⟩, hB0⟩, by simp⟩
  (fun x a' W => ∃ p, w.heap.size ≤ p ∧ W.heap[p]? = some (.cells #[.int .i64 (x.1.val : Int), .int .i64 (x.2.val : Int)] 73 (0, 0)) ∧ a' = { tmps := #[.slice none 0 0, .func (.func g) #[] lb, .pointer (some ⟨w.heap.size, 0, none⟩), undef, .slice none 0 0, .pointer (some ⟨p, 0, none⟩), .func (.func g) #[] lb, .agg #[.int .i64 (x.1.val : Int), .int .i64 (x.2.val : Int)], undef, undef, undef, undef, undef], defers := [] }) ?hAx ?assign ?body ?done ?stop
 case hAx =>
  rintro x a' _ W W' row ⟨p, hp, hpc, he⟩ hg hr
  refine ⟨p, hp, (hg.block p (Array.getElem?_eq_some_iff.1 hpc).1 ?_).trans hpc, he⟩
  intro e
  obtain ⟨_, o, ho, hc⟩ := hr p e.symm
  rw [hpc] at ho; cases ho; cases hc
 case assign =>
  intro l pre x W K hI hK
  gi_wp2_with (rw [Oper.semAt_eq _ _ _ (fun c h => by cases h)]; go_simp; try go_bits)
  obtain ⟨⟨⟨v, hv, hrow, hnil⟩, hB⟩, hl⟩ := hI
  refine hK _ _ ((KeepsOthers.alloc _ _).from _) (hKo _ _ (KeepsOthers.alloc _ _) ((Below.refl _ _).alloc hB.size _)) ⟨⟨⟨v, hv.alloc _, hrow.alloc _, hnil⟩, hB.alloc hB.size _⟩, hl⟩ ⟨W.heap.size, hB.size, World.alloc_heap_new W _, rfl⟩
 case body =>
  rintro l pre x a' W hl9 hr9 ⟨⟨⟨v, hv, hrow, hnil⟩, hB⟩, _⟩ ⟨p, hp, hpc, rfl⟩ hlt
  have hc := hv.cell
  obtain ⟨hp0, hp1⟩ := cell_two_at hpc
  gi_wp2_with (first | (gi_at_builtin; refine wpListIn_append_own _ rfl _ _ 51 rfl w.heap.size 73 i0 (.agg #[.int .i64 0, .int .i64 0]) 2 16 Tryz.underlying51 hi jz0 jz1 jz2 rfl (by decide) _ _ _ rfl (hrow.alloc _) ⟨W.heap.size, 0, none⟩ 1 1 [.int .i64 (x.1.val : Int), .int .i64 (x.2.val : Int)] rfl rfl (cell_two_new' _ _ _ _) (by simp [Value.oneCell']) (by unfold maxLen; omega) (by omega) (by have := hB.size; simp; omega) ?_; intro v' w1 hown' hgrow _; obtain ⟨g', cap', rfl⟩ := ownsRow_succ hown'; obtain ⟨hv1, hv2, hr2, hk2, hb2⟩ := hv.appended (by decide) hrow hB.size (Nat.le_refl _) hown' hgrow; have hc1 := hv1.cell; have hf1 := hv1.frozen; go_frame) | (rw [Oper.semAt_eq _ _ _ (fun c h => by cases h)]; go_simp; try go_bits))
  exact ⟨hk2.from _, hKo _ _ hk2 hb2, ⟨⟨_, hv2, by rw [flatP_snoc]; simpa using hr2, by simp⟩, hB.trans hb2⟩, by simp; omega⟩
 case done =>
  rintro D ys W hD hS ⟨⟨⟨v, hv, hrow, hnil⟩, hB⟩, hlen⟩ hK
  have hc := hv.cell
  gi_wp2
  refine ⟨by simp, .inl ⟨_, _, rfl, run_takeDeferred hK, ?_⟩⟩
  exact ⟨_, results_tmp rfl _ _ _, v, ys, rfl, hS, hlen, ownsRow_putObj hrow _ hK rfl, hnil, hB.trans (belowK_b (w := w) (Nat.le_refl _) W D _ _ (by simp at hD; omega) hK rfl rfl)⟩
 case stop =>
  rintro D c pre W _ _ h _
  exact h.elim
set_option maxHeartbeats 1000000 in
theorem collect_p (F : Fence) (hF : ∀ f, F.fn f) (n : Nat) (hro : F.round = none) (hn : 3 ≤ n) (g : Nat) (lb : Array Value) (eg : ∀ args w, (callFunc g args).run Tryz.prog w = .ok (.enter g args) w)
  (Kp : World → World → Prop) (S Sp : List P2 → Prop) (N : Nat) (hN : N ≤ 4294967296) (w : World)
  (hKt : ∀ {A B C : World}, Kp A B → Kp B C → Kp A C) (hKb : ∀ (W : World) (l : Nat) (o o' : Obj), w.heap.size ≤ l → W.heap[l]? = some o → o.isCells = false → o.isWalk = false → Kp W (W.putObj l o'))
  (hKo : ∀ W W', KeepsOthers W W' → Below w.heap.size W W' → Kp W W')
  (hseq : SeqStopsK F (n - 1 - 1) Tryz.prog g lb (fun x : P2 => #[.agg #[.int .i64 (x.1.val : Int), .int .i64 (x.2.val : Int)]]) Kp S Sp N w) :
  CallsIn F n Tryz.prog 94 #[.func (.func g) #[] lb] w fun e w' => ∃ (v : Value) (ss : List P2), e = .returned v ∧ S ss ∧ ss.length ≤ N ∧ w'.ownsRow w.heap.size 73 2 v ss.length (flatP ss) ∧ (v = .slice none 0 0 ↔ ss = []) ∧ Below w.heap.size w w' := by
 have h1 : 1 ≤ n := by omega
 refine callsIn_of_wp Tryz.func94 rfl (hF _) ?_ hro
 simp only [Tryz.ntmps94, List.size_toArray, List.length_cons, List.length_nil, Nat.reduceAdd, Nat.reduceSub, Array.replicate_succ, Array.replicate_zero, List.push_toArray, List.append_toArray, List.nil_append, List.cons_append]
 gi_wp2_with (gi_at_call 111; refine (append_p F hF (n - 1) hro (by omega) g lb eg Kp S Sp N hN _ hKt hKb hKo hseq).mono ?_; rintro e w' ⟨v, ss, rfl, hS, hlen, hrow, hnil, hb⟩)
 go_ret
 exact ⟨v, ss, rfl, hS, hlen, hrow, hnil, hb⟩
open Go.RowKit Go.Shelf Go.Maps Go.Sort
theorem aP : ∀ (l : List P2) (t : Nat), t < l.length * 2 → (flatP l)[t]? = some ((encP (l.getD (t / 2) default))[t % 2]!)
 | [], t, h => by simp at h
 | x :: r, 0, _ => by simp [flatP, encP]
 | x :: r, 1, _ => by simp [flatP, encP]
 | x :: r, t + 2, h => by
  have ih := aP r t (by simp at h; omega)
  have e1 : (t + 2) / 2 = t / 2 + 1 := by omega
  have e2 : (t + 2) % 2 = t % 2 := by omega
  rw [e1, e2, List.getD_cons_succ, ← ih]
  simp [flatP, encP]
theorem yX (l : List P2) : (flatK encP 2 l.toArray).toList = flatP l := by
 apply List.ext_getElem?
 intro t
 by_cases h : t < l.length * 2
 ·rw [aP l t h]
  have h2 : t / 2 < l.length := by omega
  simp [flatK, h, List.getD, h2]
 ·rw [List.getElem?_eq_none (by simp; omega), List.getElem?_eq_none (by rw [fO]; omega)]
theorem bP {w : World} {g : Nat} {cur : Array Value} {e : TypeId} {F : Array Value} (hb : w.heap[g]? = some (.cells cur e (0, 0))) (ht : cur.toList.take F.size = F.toList) : Holds id w g 0 F := by
 intro j hj
 refine ⟨?_, by simp [World.frozen?, hb]⟩
 have h1 : (cur.toList.take F.size)[j]? = F.toList[j]? := by rw [ht]
 rw [List.getElem?_take_of_lt hj] at h1
 simp only [World.cell?, hb, Nat.zero_add]
 simp only [Option.isSome_none, Bool.false_eq_true, if_false]
 rw [← Array.getElem?_toList, h1]
 simp [hj]
theorem fL {w : World} {g n : Nat} {os : Array Obj} {cur : Array Value} {e : TypeId} {fr : Nat × Nat} (F : Array Value) (hb : w.heap[g]? = some (.cells cur e fr)) :
  (grow (putRow id (Sort.ahead w n) g 0 F) os).heap[g]? = some (.cells (putCells id 0 F cur) e fr) := by
 have hg : g < w.heap.size := (Array.getElem?_eq_some_iff.1 hb).1
 rw [heap_grow_old _ _ (by simpa using hg)]
 simp [putRow, mapBlock, Sort.ahead, Array.getElem?_modify, hb, onCells]
theorem bQ {w : World} {g n : Nat} {os : Array Obj} (F : Array Value) : w.grownBy (grow (putRow id (Sort.ahead w n) g 0 F) os) (some g) := by
 refine ⟨rfl, rfl, rfl, by simp, fun k hk hne => ?_⟩
 rw [heap_grow_old _ _ (by simpa using hk)]
 have : g ≠ k := fun e => hne (by rw [e])
 simp [putRow, mapBlock, Sort.ahead, Array.getElem?_modify, this]
theorem bW (cur F : Array Value) (h : F.size ≤ cur.size) : (putCells id 0 F cur).toList.take F.size = F.toList := by
 apply List.ext_getElem?
 intro j
 by_cases hj : j < F.size
 ·rw [List.getElem?_take_of_lt hj, Array.getElem?_toList]
  simp [putCells, hj, show j < cur.size by omega]
 ·rw [List.getElem?_take_eq_none (by omega), List.getElem?_eq_none (by simp; omega)]
theorem ownsRow_sortedV {w : World} {base g cap n k : Nat} {e : TypeId} {os : Array Obj} {cur F : Array Value} (hl : F.size = k * 2) (hbase : base ≤ g) (hb : w.heap[g]? = some (.cells cur e (0, 0)))
  (h1 : k ≤ cap) (h2 : cap ≤ maxLen) (h3 : cur.size = cap * 2) :
  (grow (putRow id (Sort.ahead w n) g 0 F) os).ownsRow base e 2 (.slice (some ⟨g, 0, none⟩) k cap) k F.toList :=
 ⟨by simp [hl], .inr ⟨g, cap, _, rfl, hbase, fL _ hb, h1, h2, by simp [putCells, h3], by rw [← hl]; exact bW cur F (by omega)⟩⟩
def sortP (l : List P2) : List P2 := l.mergeSort (fun x y => !ltP y x)
theorem eZ (d d' : Array P2) (hp : PermIn 0 d.size d d') (hs : SortedIn ltP 0 d.size d') : d'.toList = sortP d.toList := by
 have e : ltOf cmpP = ltP := by funext x y; exact zF x y
 have sw : SWO ltP := by rw [← e]; exact swoP
 exact sorted_unique_holds sw (fun x y h1 h2 => by
  simp only [ltP, decide_eq_false_iff_not] at h1 h2
  have a : x.1 = y.1 := Fin.ext (by omega)
  have b : x.2 = y.2 := Fin.ext (by omega)
  exact Prod.ext a b) d d' hp hs
def PairsIn (B : Nat) (w : World) (s : Sl) (l : List P2) : Prop :=
 s.n = l.length ∧ l.length ≤ 1152921504606846976 ∧
 (l = [] ∨ ∃ b off, s.a = some ⟨b, off, none⟩ ∧ b < B ∧ ∀ k, k < l.length → w.cell? ⟨b, off + k * 2, none⟩ = some (.int .i64 ((l.getD k default).1.val : Int)) ∧ w.cell? ⟨b, off + k * 2 + 1, none⟩ = some (.int .i64 ((l.getD k default).2.val : Int)))
theorem PairsIn.below {B : Nat} {w w' : World} {s : Sl} {l : List P2} (h : PairsIn B w s l) (hb : Below B w w') : PairsIn B w' s l := by
 obtain ⟨h1, h2, h3⟩ := h
 refine ⟨h1, h2, ?_⟩
 rcases h3 with h3 | ⟨b, off, h4, h5, h6⟩
 ·exact Or.inl h3
 ·exact Or.inr ⟨b, off, h4, h5, fun k hk => by rw [hb.cell (by exact h5), hb.cell (by exact h5)]; exact h6 k hk⟩
theorem PairsIn.mono {B B' : Nat} {w : World} {s : Sl} {l : List P2} (h : PairsIn B w s l) (hB : B ≤ B') : PairsIn B' w s l := by
 obtain ⟨h1, h2, h3⟩ := h
 refine ⟨h1, h2, ?_⟩
 rcases h3 with h3 | ⟨b, off, h4, h5, h6⟩
 ·exact Or.inl h3
 ·exact Or.inr ⟨b, off, h4, by omega, h6⟩
set_option maxHeartbeats 4000000
set_option maxRecDepth 100000
open Go.RowKit Go.Shelf Go.Maps Go.Sort
def smallP (l : List (Int × Int)) : Prop := ∀ p ∈ l, 0 ≤ p.1 ∧ p.1 < 65536 ∧ 0 ≤ p.2 ∧ p.2 < 65536
def toI (x : P2) : Int × Int := ((x.1.val : Int), (x.2.val : Int))
theorem oR : ∀ {l : List (Int × Int)}, smallP l → ∃ d : List P2, l = d.map toI
 | [], _ => ⟨[], rfl⟩
 | (a, b) :: l, h => by
  obtain ⟨d, hd⟩ := oR (l := l) fun p hp => h p (by simp [hp])
  obtain ⟨h1, h2, h3, h4⟩ := h (a, b) (by simp)
  dsimp only at h1 h2 h3 h4
  refine ⟨(⟨a.toNat, by omega⟩, ⟨b.toNat, by omega⟩) :: d, ?_⟩
  rw [List.map_cons, ← hd]
  refine congrArg (· :: l) ?_
  unfold toI
  dsimp only
  rw [Int.toNat_of_nonneg h1, Int.toNat_of_nonneg h3]
def ltZ (x y : Int × Int) : Bool := decide (x.1 < y.1 ∨ (x.1 = y.1 ∧ x.2 < y.2))
def sortZ (l : List (Int × Int)) : List (Int × Int) := l.mergeSort (fun x y => !ltZ y x)
theorem gH (d : List P2) : (sortP d).map toI = sortZ (d.map toI) := by
 unfold sortP sortZ
 refine List.map_mergeSort fun a _ b _ => ?_
 unfold ltP ltZ toI
 congr 1
 refine decide_eq_decide.2 ?_
 dsimp only
 omega
theorem pD {G : Gh} {p : Int × Int} {o : Nat} {y : OV} {v : Value} (hy : (pairO' p)[o]? = some y) (hv : RepO G y v) : v = (if o = 0 then Value.int .i64 p.1 else .int .i64 p.2) := by
 match o, hy with
 | 0, hy => simp [pairO'] at hy; subst hy; rw [RepO, Rep] at hv; exact hv.1
 | 1, hy => simp [pairO'] at hy; subst hy; rw [RepO, Rep] at hv; exact hv.1
theorem rowAt_flat {G : Gh} {cs : Array Value} {d : List P2} (h : RowAt G cs ⟨2, (d.map toI).map pairO'⟩) (hl : d.length * 2 ≤ cs.size) : cs.toList.take (d.length * 2) = flatP d := by
 apply List.ext_getElem?
 intro t
 by_cases ht : t < d.length * 2
 ·have hi : t / 2 < d.length := by omega
  rw [aP d t ht, List.getElem?_take_of_lt ht, Array.getElem?_toList]
  obtain ⟨_, h2⟩ := h (t / 2) (pairO' (toI (d.getD (t / 2) default))) (by simp [List.getD, hi])
  have hm : t % 2 = 0 ∨ t % 2 = 1 := by omega
  rcases hm with hm | hm
  ·obtain ⟨v, h3, h4⟩ := h2 0 _ rfl
   have h5 := pD (p := toI (d.getD (t / 2) default)) (o := 0) rfl h4
   dsimp only at h3
   rw [show t / 2 * 2 + 0 = t by omega] at h3
   rw [h3, h5, hm]; rfl
  ·obtain ⟨v, h3, h4⟩ := h2 1 _ rfl
   have h5 := pD (p := toI (d.getD (t / 2) default)) (o := 1) rfl h4
   dsimp only at h3
   rw [show t / 2 * 2 + 1 = t by omega] at h3
   rw [h3, h5, hm]; rfl
 ·rw [List.getElem?_take_eq_none (by omega), List.getElem?_eq_none (by rw [fO]; omega)]
theorem flat_rowAt {G : Gh} {cs : Array Value} {d : List P2} (h : cs.toList.take (d.length * 2) = flatP d) : RowAt G cs ⟨2, (d.map toI).map pairO'⟩ := fun i row hi => by
 have hlt : i < d.length := by
  rcases Nat.lt_or_ge i d.length with hh | hh
  ·exact hh
  ·rw [List.getElem?_eq_none (by simpa using hh)] at hi; cases hi
 have hrow : row = pairO' (toI (d.getD i default)) := by
  simp [List.getD, hlt] at hi ⊢; exact hi.symm
 subst hrow
 refine ⟨rfl, fun o y hy => ?_⟩
 have get : ∀ t, t < d.length * 2 → cs[t]? = some ((encP (d.getD (t / 2) default))[t % 2]!) := fun t ht => by
  rw [← aP d t ht, ← h, List.getElem?_take_of_lt ht, Array.getElem?_toList]
 have e0 := get (i * 2) (by omega)
 have e1 := get (i * 2 + 1) (by omega)
 rw [show i * 2 / 2 = i by omega, show i * 2 % 2 = 0 by omega] at e0
 rw [show (i * 2 + 1) / 2 = i by omega, show (i * 2 + 1) % 2 = 1 by omega] at e1
 match o, hy with
 | 0, hy => simp [pairO'] at hy; subst hy; exact ⟨_, e0, by rw [RepO, Rep]; exact ⟨rfl, rfl⟩⟩
 | 1, hy => simp [pairO'] at hy; subst hy; exact ⟨_, e1, by rw [RepO, Rep]; exact ⟨rfl, rfl⟩⟩
theorem yU (l : List (Int × Int)) : (sortZ l).length = l.length := List.length_mergeSort _
theorem sortFunc_w (k : Nat) (τ : Stamp) (l : List (Int × Int)) (hs : smallP l) (hl : l.length ≤ 1073741824) :
  FnW E.P 95 [.os k τ 2 l.length, .fn 106 [] []] (stL [(k, (τ, ⟨2, l.map pairO'⟩))]) (IsW (.tu []) (stL [(k, (τ, ⟨2, (sortZ l).map pairO'⟩))])) := by
 refine ⟨⟨_, Tryz.func95, by decide, rfl⟩, fun G w vs N hv hw => ?_⟩
 obtain ⟨d, rfl⟩ := oR hs
 rw [RepOL] at hv
 obtain ⟨x1, us, rfl, h1, hv⟩ := hv
 rw [RepOL] at hv
 obtain ⟨x2, us, rfl, h2, hv⟩ := hv
 rw [RepOL] at hv
 subst hv
 rw [RepO] at h2
 obtain ⟨f1, f2, rfl, hf1, hf2⟩ := h2
 rw [RepOL] at hf1 hf2
 have hf1 : f1 = #[] := Array.toList_eq_nil_iff.1 hf1
 have hf2 : f2 = #[] := Array.toList_eq_nil_iff.1 hf2
 subst hf1 hf2
 have hk : stL [(k, (τ, (⟨2, (d.map toI).map pairO'⟩ : Row)))] k = some (τ, ⟨2, (d.map toI).map pairO'⟩) := by simp [stL]
 have htu : RepO G (.tu []) (.tuple #[]) := by rw [RepO]; exact ⟨#[], rfl, by rw [RepOL]⟩
 rw [RepO] at h1
 rcases h1 with ⟨β, c, hμ, rfl, hc1, hc2, hc3⟩ | ⟨hμ, rfl, hn⟩
 ·obtain ⟨cs, hb, hsz, hrl, hrow⟩ := hw.blk hk hμ
  have hlen : (d.map toI).length = d.length := by simp
  rw [hlen] at hc1 ⊢
  simp only [List.length_map] at hrl
  have hflat := rowAt_flat hrow (by rw [hsz]; exact hrl)
  have hF : (flatK encP 2 d.toArray).size = d.length * 2 := by simp
  have hH : HoldsK encP 2 w β.b 0 d.toArray := bP hb (by rw [hF, yX]; exact hflat)
  have hlt : β.b < w.heap.size := (Array.getElem?_eq_some_iff.1 hb).1
  have cS := sortPairs_c β.b 0 c d.toArray w hH hlt (by simp; simp at hl; omega)
  rw [List.size_toArray] at cS
  refine cS.mono ?_
  rintro e w' ⟨rfl, d', nn, os, hp, hso, rfl⟩
  have hd : d'.size = d.length := by have := hp.1; simpa using this
  have hsort : d'.toList = sortP d := eZ d.toArray d' (by simpa using hp) (by simpa using hso)
  have hF2 : (flatK encP 2 d').size = d.length * 2 := by simp [hd]
  have hg := bQ (w := w) (g := β.b) (n := nn) (os := os) (flatK encP 2 d')
  have hb' := fL (n := nn) (os := os) (flatK encP 2 d') hb
  have hsd : (sortP d).length = d.length := by rw [← hsort]; simp [hd]
  have hpl : (putCells id 0 (flatK encP 2 d') cs).size = cs.size := by simp [putCells]
  refine ⟨_, G, .tu [], _, rfl, ⟨rfl, ?le⟩, .refl _, htu, hw.put (r' := ⟨2, (sortZ (d.map toI)).map pairO'⟩) hk hμ hg.size hg.tape hg.os hg.output (fun b hb1 hne => hg.block b hb1 (fun e => hne (Option.some.inj e))) ⟨_, hb', by rw [hpl, hsz], by rw [← gH]; simp [hsd]; omega, ?_⟩⟩
  case le =>
   intro t y hy
   unfold stL at hy
   cases hbq : Nat.beq t k with
   | true => rw [hbq] at hy; cases hy; rw [Nat.eq_of_beq_eq_true hbq]; exact Store.put_self _ _ _
   | false => rw [hbq] at hy; cases hy
  ·rw [← gH]
   refine flat_rowAt ?_
   rw [hsd, ← hF2, bW cs _ (by rw [hF2, hsz]; exact hrl), ← hsort, ← yX]
 ·have hd : d = [] := by
   have : d.length = 0 := by simpa using hn
   exact List.eq_nil_of_length_eq_zero this
  subst hd
  refine (bY none 0 (.func (.func 106) #[] #[]) w).mono ?_
  rintro e w' ⟨rfl, rfl⟩
  refine ⟨_, G, .tu [], _, rfl, ⟨rfl, ?_⟩, .refl _, htu, hw⟩
  have : sortZ (([] : List P2).map toI) = [] := by simp [sortZ]
  rw [this]
  exact fun t y h => h
theorem iH {l : List (Int × Int)} (h : smallP l) : smallP (sortZ l) := fun p hp => h p ((List.mergeSort_perm l _).mem_iff.1 hp)
set_option maxHeartbeats 4000000 in
theorem collect_s {y : OV} {f : FuncId} {fi ca : List OV} (hf : IsFn y f fi ca) (l : List (Int × Int)) (hl : l.length ≤ 1073741824) (hs : SeqW E.P f fi ca (pairYs l)) :
  Own E.P 94 [y] 2 (l.map pairO') := by
 refine fnA Tryz.func94 Tryz.ntmps94 ?_
 refine run ?_; refine aoR fun _ => ?_
 refine run ?_; refine aoR fun _ => ?_
 refine run ?_
 apply gD; exact rfl; exact .fn _ _ _; exact rfl; exact appendSeq_p hf l hl hs
 refine run ?_; rotate_left
 exact xA (d := 2) rfl rfl rfl rfl
theorem sortFunc_w' (k : Nat) (τ : Stamp) (l : List (Int × Int)) (hs : smallP l) (hl : l.length ≤ 1073741824) :
  FnW E.P 95 [.os k τ 2 (l.map pairO').length, .fn 106 [] []] (stL [(k, (τ, ⟨2, l.map pairO'⟩))]) (IsW (.tu []) (stL [(k, (τ, ⟨2, (sortZ l).map pairO'⟩))])) := by
 rw [List.length_map]; exact sortFunc_w k τ l hs hl
set_option maxHeartbeats 4000000 in
theorem sortedFunc_s {y : OV} {f : FuncId} {fi ca : List OV} (hf : IsFn y f fi ca) (l : List (Int × Int)) (hsm : smallP l) (hl : l.length ≤ 1073741824) (hs : SeqW E.P f fi ca (pairYs l)) :
  Own E.P 66 [y, .fn 106 [] []] 2 ((sortZ l).map pairO') := by
 refine fnA Tryz.func66 Tryz.ntmps66 ?_
 refine run ?_; refine aoR fun _ => ?_
 refine run ?_; refine aoR fun _ => ?_
 refine run ?_
 apply gD; exact rfl; exact .fn _ _ _; exact rfl; exact collect_s hf l hl hs
 refine run ?_; refine aoR fun _ => ?_
 refine run ?_
 apply S_callw; exact rfl; exact .fn _ _ _; exact rfl; exact sortFunc_w' _ _ l hsm hl; exact leP; exact rfl; simp
 refine run ?_; refine aoR fun _ => ?_
 refine run ?_; rotate_left
 refine xA (d := 4) rfl rfl rfl ?_
 simp [yU]
set_option maxHeartbeats 4000000 in
theorem jB {y : OV} {f : FuncId} {fi ca : List OV} (hf : IsFn y f fi ca) (l : List (Int × Int)) (hsm : smallP l) (hl : l.length ≤ 1073741824) (hs : SeqW E.P f fi ca (pairYs l)) :
  Own E.P 82 [y] 2 ((sortZ l).map pairO') := by
 refine fnA Tryz.func82 Tryz.ntmps82 ?_
 refine run ?_; refine aoR fun _ => ?_
 refine run ?_; refine aoR fun _ => ?_
 refine run ?_
 apply gD; exact rfl; exact .fn _ _ _; exact rfl; exact sortedFunc_s hf l hsm hl hs
 refine run ?_; rotate_left
 exact xA (d := 2) rfl rfl rfl rfl
set_option maxRecDepth 100000
open Go.RowKit Go.ChangeShapes Go.WideShapes Go.Deep
section
variable {M : Mem} {w : World} (hm : ∀ b o v, M b o = some v → w.cell? ⟨b, o, none⟩ = some v)
include hm
theorem gQ {q : IntKind} {l : List Int} {v : Value} (h : Rep M (.sl 1 (l.map fun n => [TV.c (.int q n)])) v) (hl : l.length ≤ 1152921504606846976) : ∃ s : Sl, v = .slice s.a s.n s.c ∧ IntsIn q w.heap.size w s l := by
 rw [Rep] at h
 obtain ⟨a, c, h1, h2, h3⟩ := h
 rw [List.length_map] at h1
 refine ⟨⟨a, l.length, c⟩, h1, rfl, hl, ?_⟩
 rcases h3 with h3 | ⟨b, off, h4, h5⟩
 ·exact Or.inl (List.map_eq_nil_iff.1 h3)
 ·have get : ∀ k, k < l.length → w.cell? ⟨b, off + k, none⟩ = some (.int q (l.getD k 0)) := fun k hk => by
   obtain ⟨_, g2⟩ := h5.get (vG (f := fun n => [TV.c (.int q n)]) hk 0)
   obtain ⟨u, g3, g4⟩ := g2.get (o := 0) rfl
   rw [Rep] at g4
   rw [g4.1, Nat.mul_one, Nat.add_zero] at g3
   exact hm _ _ _ g3
  by_cases hz : l = []
  ·exact Or.inl hz
  ·exact Or.inr ⟨b, off, h4, (fT (get 0 (List.length_pos_iff.2 hz))).2, get⟩
def Ev.like (e e' : Ev) : Prop := ∃ a d c : Sl, e' = { e with av := a, dv := d, cv := c } ∧ a.n = e.addrs.length ∧ d.n = e.datas.length ∧ c.n = e.ctrls.length
theorem ev_back {e : Ev} (hok : e.ok) {b o : Nat} (h : RepC M (evTV e) b o) : ∃ e', e.like e' ∧ EvCells w b o e' ∧ e'.okIn w.heap.size w := by
 have cl : ∀ i v, (evTV e)[i]? = some (.c v) → w.cell? ⟨b, o + i, none⟩ = some v := fun i v hi => by
  obtain ⟨u, g3, g4⟩ := h.get hi
  rw [Rep] at g4
  rw [g4.1] at g3
  exact hm _ _ _ g3
 have cs : ∀ i l, (evTV e)[i]? = some (ints l) → l.length ≤ 1152921504606846976 → ∃ s : Sl, w.cell? ⟨b, o + i, none⟩ = some (.slice s.a s.n s.c) ∧ IntsIn .i64 w.heap.size w s l := fun i l hi hl => by
  obtain ⟨u, g3, g4⟩ := h.get hi
  obtain ⟨s, rfl, hs⟩ := gQ hm (q := .i64) g4 hl
  exact ⟨s, hm _ _ _ g3, hs⟩
 obtain ⟨w1, n1, n2, n3, _⟩ := hok
 obtain ⟨sa, a1, a2⟩ := cs 10 e.addrs rfl n1
 obtain ⟨sd, d1, d2⟩ := cs 11 e.datas rfl n2
 obtain ⟨sc, c1, c2⟩ := cs 12 e.ctrls rfl n3
 refine ⟨{ e with av := sa, dv := sd, cv := sc }, ⟨sa, sd, sc, rfl, a2.1, d2.1, c2.1⟩, ?_, a2, d2, c2, w1⟩
 exact ⟨cl 0 _ rfl, cl 1 _ rfl, cl 2 _ rfl, cl 3 _ rfl, cl 4 _ rfl, cl 5 _ rfl, cl 6 _ rfl, cl 7 _ rfl, cl 8 _ rfl, cl 9 _ rfl, a1, d1, c1⟩
theorem evs_back {es : List Ev} {v : Value} (h : Rep M (evsTV es) v) (hl : es.length ≤ 1152921504606846976) (hok : ∀ e ∈ es, e.ok) :
  ∃ (s : Sl) (es' : List Ev), v = .slice s.a s.n s.c ∧ EvsIn w.heap.size w s es' ∧ es'.length = es.length ∧ ∀ i, i < es.length → (es.getD i default).like (es'.getD i default) := by
 unfold evsTV at h
 rw [Rep] at h
 obtain ⟨a, c, h1, h2, h3⟩ := h
 rw [List.length_map] at h1
 rcases h3 with h3 | ⟨b, off, h4, h5⟩
 ·have : es = [] := List.map_eq_nil_iff.1 h3
  subst this
  exact ⟨⟨a, 0, c⟩, [], h1, ⟨rfl, by simp, by simp, Or.inl rfl⟩, rfl, fun i hi => by simp at hi⟩
 ·obtain ⟨E, hE⟩ := choose_lt (α := Ev) (n := es.length) (p := fun i e' => (es.getD i default).like e' ∧ EvCells w b (off + i * 13) e' ∧ e'.okIn w.heap.size w) (fun i hi => by
   obtain ⟨_, g2⟩ := h5.get (vG (f := evTV) hi default)
   refine ev_back hm (hok _ ?_) g2
   rw [List.getD_eq_getElem?_getD, List.getElem?_eq_getElem hi]
   exact List.getElem_mem hi)
  have hL : ((List.range es.length).map E).length = es.length := by simp
  have hg : ∀ i, i < es.length → ((List.range es.length).map E).getD i default = E i := fun i hi => by
   rw [List.getD_eq_getElem?_getD, List.getElem?_eq_getElem (by omega)]
   simp
  refine ⟨⟨a, es.length, c⟩, (List.range es.length).map E, h1, ⟨hL.symm, by omega, fun e he => ?_, ?_⟩, hL, fun i hi => by rw [hg i hi]; exact (hE i hi).1⟩
  ·obtain ⟨i, hi, rfl⟩ := List.mem_map.1 he
   exact (hE i (List.mem_range.1 hi)).2.2
  ·by_cases hz : es.length = 0
   ·left; rw [hz]; rfl
   ·right
    have c0 := (hE 0 (by omega)).2.1.1
    exact ⟨b, off, h4, (fT c0).2, fun k hk => by rw [hg k (by omega)]; exact (hE k (by omega)).2.1⟩
theorem rows_back {l : List (Sl × List Int)} {v : Value} (h : Rep M (rowsTV l) v) (hl : l.length ≤ 1152921504606846976) (hok : ∀ r ∈ l, r.2.length ≤ 1152921504606846976) :
  ∃ (s : Sl) (l' : List (Sl × List Int)), v = .slice s.a s.n s.c ∧ RowsIn w.heap.size w s l' ∧ l'.length = l.length ∧ ∀ i, i < l.length → (l'.getD i default).2 = (l.getD i default).2 := by
 unfold rowsTV at h
 rw [Rep] at h
 obtain ⟨a, c, h1, h2, h3⟩ := h
 rw [List.length_map] at h1
 rcases h3 with h3 | ⟨b, off, h4, h5⟩
 ·have : l = [] := List.map_eq_nil_iff.1 h3
  subst this
  exact ⟨⟨a, 0, c⟩, [], h1, ⟨rfl, by simp, by simp, Or.inl rfl⟩, rfl, fun i hi => by simp at hi⟩
 ·obtain ⟨E, hE⟩ := choose_lt (α := Sl × List Int) (n := l.length) (p := fun i r => r.2 = (l.getD i default).2 ∧ w.cell? ⟨b, off + i, none⟩ = some r.1.v ∧ IntsIn .i64 w.heap.size w r.1 r.2) (fun i hi => by
   obtain ⟨_, g2⟩ := h5.get (vG (f := intRow) hi default)
   obtain ⟨u, g3, g4⟩ := g2.get (o := 0) rfl
   obtain ⟨s, rfl, hs⟩ := gQ hm (q := .i64) g4 (by
    apply hok
    rw [List.getD_eq_getElem?_getD, List.getElem?_eq_getElem hi]
    exact List.getElem_mem hi)
   rw [Nat.mul_one, Nat.add_zero] at g3
   exact ⟨(s, (l.getD i default).2), rfl, hm _ _ _ g3, hs⟩)
  have hL : ((List.range l.length).map E).length = l.length := by simp
  have hg : ∀ i, i < l.length → ((List.range l.length).map E).getD i default = E i := fun i hi => by
   rw [List.getD_eq_getElem?_getD, List.getElem?_eq_getElem (by omega)]
   simp
  refine ⟨⟨a, l.length, c⟩, (List.range l.length).map E, h1, ⟨hL.symm, by omega, fun r hr => ?_, ?_⟩, hL, fun i hi => by rw [hg i hi]; exact (hE i hi).1⟩
  ·obtain ⟨i, hi, rfl⟩ := List.mem_map.1 hr
   exact (hE i (List.mem_range.1 hi)).2.2
  ·by_cases hz : l.length = 0
   ·left; rw [hz]; rfl
   ·right
    have c0 := (hE 0 (by omega)).2.1
    exact ⟨b, off, h4, (fT c0).2, fun k hk => by rw [hg k (by omega)]; exact (hE k (by omega)).2.1⟩
end
def Sl.core (s : Sl) : Sl := ⟨none, s.n, 0⟩
def Ev.core (e : Ev) : Ev := { e with av := e.av.core, dv := e.dv.core, cv := e.cv.core }
theorem zG (es : List Ev) (i : Nat) : (es.map Ev.core).getD i default = (es.getD i default).core := by
 rw [List.getD_eq_getElem?_getD, List.getD_eq_getElem?_getD, List.getElem?_map]
 cases es[i]? <;> rfl
def Ex.core (x : Ex) : Ex := ⟨default, default, default, x.evs.map Ev.core, x.from_, x.order.map fun r => (default, r.2)⟩
theorem addrs_core (es : List Ev) : addrsTo (es.map Ev.core) = addrsTo es := by
 unfold addrsTo
 rw [List.foldl_map]
 rfl
theorem hangs_core (es : List Ev) (n : Nat) (l : List Int) : hangsB (es.map Ev.core) n l = hangsB es n l := by
 unfold hangsB hangsTo
 congr 1
 funext i
 unfold depOk
 simp only [zG]
 rfl
theorem evOk_core (es : List Ev) (ad : List Int) : evOk (es.map Ev.core) ad = evOk es ad := by
 funext n
 unfold evOk evPre
 simp only [zG, hangs_core]
 rfl
theorem evsTo_core (es : List Ev) (ad : List Int) (k : Nat) : evsTo (es.map Ev.core) ad k = evsTo es ad k := by
 unfold evsTo
 rw [evOk_core]
theorem fromOk_core (es : List Ev) (fs : List Int) : fromOk (es.map Ev.core) fs = fromOk es fs := by
 funext n
 unfold fromOk srcOk
 simp only [zG, List.length_map]
 rfl
theorem fromB_core (es : List Ev) (fs : List Int) : fromB (es.map Ev.core) fs = fromB es fs := by
 unfold fromB fromTo
 rw [fromOk_core, List.length_map]
theorem want_core (es : List Ev) (a : Int) (k : Nat) : wantTo (es.map Ev.core) a k = wantTo es a k := by
 unfold wantTo
 simp only [zG]
 rfl
theorem order_core (es : List Ev) (ad : List Int) (rows : List (Sl × List Int)) : orderB (es.map Ev.core) ad (rows.map fun r => (default, r.2)) = orderB es ad rows := by
 unfold orderB rowsTo
 rw [List.length_map]
 congr 2
 funext i
 unfold rowOk
 rw [want_core, List.length_map]
 have : ((rows.map fun r => ((default : Sl), r.2)).getD i default).2 = (rows.getD i default).2 := by
  rw [List.getD_eq_getElem?_getD, List.getD_eq_getElem?_getD, List.getElem?_map]
  cases rows[i]? <;> rfl
 rw [this]
theorem kL (x : Ex) : checkI x.core = checkI x := by
 unfold checkI Ex.core
 dsimp only
 rw [addrs_core, List.length_map, evsTo_core, fromB_core, order_core]
theorem like_core {e e' : Ev} (h : e.like e') (hc : e.av.n = e.addrs.length ∧ e.dv.n = e.datas.length ∧ e.cv.n = e.ctrls.length) : e'.core = e.core := by
 obtain ⟨a, d, c, rfl, h1, h2, h3⟩ := h
 unfold Ev.core Sl.core
 dsimp only
 rw [h1, h2, h3, hc.1, hc.2.1, hc.2.2]
theorem dS {α : Type} (d : α) {l l' : List α} (hl : l.length = l'.length) (h : ∀ i, i < l.length → l.getD i d = l'.getD i d) : l = l' := by
 apply List.ext_getElem hl
 intro i h1 h2
 have := h i h1
 rw [List.getD_eq_getElem?_getD, List.getD_eq_getElem?_getD, List.getElem?_eq_getElem h1, List.getElem?_eq_getElem h2] at this
 exact this
theorem Ev.ok.bare {e : Ev} (h : e.ok) : e.bareB = e.rbareB := by
 obtain ⟨_, _, _, _, h1, h2, h3⟩ := h
 unfold Ev.bareB Ev.rbareB Ev.stB Ev.ldB
 rw [h1, h2, h3]
 obtain ⟨hart, kind, addr, val, rval, aq, rl, pred, succ, rsv, av, dv, cv, l1, l2, l3⟩ := e
 dsimp only
 generalize l1.length = a
 generalize l2.length = d
 generalize l3.length = c
 rw [Bool.eq_iff_iff]
 by_cases k5 : kind = 5
 ·subst k5; cases aq <;> cases rl <;> cases rsv <;> simp <;> omega
 by_cases k4 : kind = 4
 ·subst k4; cases aq <;> cases rl <;> cases rsv <;> simp <;> omega
 by_cases k3 : kind = 3
 ·subst k3; cases aq <;> cases rl <;> cases rsv <;> simp <;> omega
 by_cases k2 : kind = 2
 ·subst k2; cases aq <;> cases rl <;> cases rsv <;> simp <;> omega
 by_cases k1 : kind = 1
 ·subst k1; cases aq <;> cases rl <;> cases rsv <;> simp <;> omega
 rw [if_neg k5, if_neg k1, if_neg k2, if_neg k3, if_neg k4]
 have : kind < 1 ∨ 5 < kind := by omega
 rcases this with h | h <;> simp [h]
theorem ex_back {M : Mem} {w : World} (hm : ∀ b o v, M b o = some v → w.cell? ⟨b, o, none⟩ = some v) {G : Gh} (hG : G.M = M) {x : Ex} {v : Value} (h : RepO G (exOV x) v) (hx : x.ok) :
  ∃ x' : Ex, v = x'.agg ∧ x'.inW w.heap.size w ∧ x'.core = x.core := by
 obtain ⟨h1, h2, h3, h4, h5⟩ := hx
 unfold exOV at h
 rw [RepO] at h
 obtain ⟨vs, hv, h⟩ := h
 rw [RepOL] at h
 obtain ⟨v0, us, e0, r0, h⟩ := h
 rw [RepOL] at h
 obtain ⟨v1, us1, e1, r1, h⟩ := h
 rw [RepOL] at h
 obtain ⟨v2, us2, e2, r2, h⟩ := h
 rw [RepOL] at h
 rw [RepO, hG] at r0 r1 r2
 obtain ⟨s0, es', rfl, g1, g2, g3⟩ := evs_back hm r0 h1 h2
 obtain ⟨s1, rfl, g4⟩ := gQ hm (q := .i64) r1 h3
 obtain ⟨s2, l', rfl, g5, g6, g7⟩ := rows_back hm r2 h4 h5
 refine ⟨⟨s0, s1, s2, es', x.from_, l'⟩, ?_, ⟨g1, g4, g5⟩, ?_⟩
 ·rw [hv]; unfold Ex.agg
  congr 1
  apply Array.ext'
  rw [e0, e1, e2, h]
 ·unfold Ex.core
  dsimp only
  congr 1
  ·apply dS default (by simpa using g2)
   intro i hi
   rw [List.length_map] at hi
   rw [zG, zG]
   refine like_core (g3 i (by omega)) ?_
   have := h2 (x.evs.getD i default) (by
    rw [List.getD_eq_getElem?_getD, List.getElem?_eq_getElem (by omega)]
    exact List.getElem_mem _)
   exact this.2.2.2.2
  ·apply dS default (by simpa using g6)
   intro i hi
   rw [List.length_map] at hi
   have e : ∀ rows : List (Sl × List Int), (rows.map fun r => ((default : Sl), r.2)).getD i default = (default, (rows.getD i default).2) := fun rows => by
    rw [List.getD_eq_getElem?_getD, List.getD_eq_getElem?_getD, List.getElem?_map]
    cases rows[i]? <;> rfl
   rw [e, e, g7 i (by omega)]
theorem rQ {P : Program} {f : FuncId} {args : List OV} {l : Value} (hE : Enters P f) (hl : l.oneCell' = true)
  (h : ∀ (G : Gh) (w : World) (vs : List Value), RepOL G args vs → (∀ b o v, G.M b o = some v → w.cell? ⟨b, o, none⟩ = some v) → Calls P f vs.toArray w fun e w' => e = .returned l ∧ Below w.heap.size w w') : Pure P f args (.d (.c l)) :=
 ⟨hE, fun G w vs N hr hw => (h G w vs hr hw.mem).mono fun e w' ⟨h1, h2⟩ => ⟨l, G, .d (.c l), Store.nil, h1, rfl, Gh.le.refl G, by rw [RepO]; exact jR hl, hw.below h2⟩⟩
theorem yY (x : Ex) (hx : x.ok) (hrows : ∀ r ∈ x.order, r.2.length ≤ 65536) : Pure E.P 35 [exOV x] (.int .i64 (checkI x)) := by
 refine rQ ⟨_, Tryz.func35, by decide, rfl⟩ rfl fun G w vs hr hm => ?_
 rw [RepOL] at hr
 obtain ⟨v, us, rfl, r0, hr⟩ := hr
 rw [RepOL] at hr
 subst hr
 obtain ⟨x', rfl, h1, h2⟩ := ex_back hm rfl r0 hx
 have := check_c x' w h1 (fun r hr => ?_)
 ·rw [← kL x', h2, kL] at this
  exact this
 ·have e : (default, r.2) ∈ x'.core.order := List.mem_map.2 ⟨r, hr, rfl⟩
  rw [h2] at e
  obtain ⟨r', hr', e'⟩ := List.mem_map.1 e
  have := hrows r' hr'
  rw [Prod.mk.injEq] at e'
  rw [← e'.2]; exact this
def pairTV (p : Int × Int) : List TV := [.c (.int .i64 p.1), .c (.int .i64 p.2)]
def pairsTV (l : List (Int × Int)) : TV := .sl 2 (l.map pairTV)
def exRow (x : Ex) : List TV := [evsTV x.evs, ints x.from_, rowsTV x.order]
theorem mG {l pre r : List (Int × Int)} {p : Int × Int} (h : l = pre ++ [p] ++ r) : pre.length < l.length ∧ (pairYs l).getD pre.length [] = [.ag (pairO' p)] := by
 have hlt : pre.length < l.length := by rw [h]; simp
 refine ⟨hlt, ?_⟩
 rw [dX l hlt, h]
 simp [List.getD]
def Ex.fit (x : Ex) : Prop := x.ok ∧ ∀ r ∈ x.order, r.2.length ≤ 65536
theorem jM {P : Program} {Y : YJ} {k m : Nat} {τ : Stamp} {st : Bool} {J : Nat → Rows → Prop} {L : List (Int × Int)} (h1 : st = false → m = L.length)
  (hy : ∀ i l0, i < m → J i l0 → YieldW P Y k τ i (i + 1) ((pairYs L).getD i []) l0 (J (i + 1)) (!(st && i + 1 == m))) {pre r : List (Int × Int)} {p : Int × Int} {l : Rows} (hL : L = pre ++ [p] ++ r) (hst : st = true → pre.length < m) (hJ : J pre.length l) :
  pre.length < m ∧ YieldW P Y k τ pre.length (pre.length + 1) [.ag (pairO' p)] l (J (pre.length + 1)) (!(st && pre.length + 1 == m)) := by
 obtain ⟨e1, e2⟩ := mG hL
 have hlm : pre.length < m := by
  cases st with
  | true => exact hst rfl
  | false => rw [h1 rfl]; exact e1
 have := hy _ l hlm hJ
 rw [e2] at this
 exact ⟨hlm, this⟩
theorem nL {st : Bool} {m i : Nat} (h1 : i < m) (h2 : (!(st && i + 1 == m)) = true) (h3 : st = true) : i + 1 < m := by
 subst h3
 simp at h2; omega
theorem fA {st : Bool} {m i : Nat} (h : (!(st && i + 1 == m)) = false) : i + 1 = m := by
 simp at h; exact h.2
theorem yL (l : List (Int × Int)) : FzR (l.map pairO') (l.map pairTV) := by
 induction l with
 | nil => exact FzR.nil
 | cons p l ih => exact FzR.cons (FzC.cons (FzC.cons FzC.nil)) ih
theorem sZ {k s : Nat} {τ : Stamp} {rows : List (List TV)} {l : Rows} (hbig : ∀ e ∈ l, 1000 ≤ e.1) (hk : k < 1000) {σ : Store} (h : ∀ j, j ≠ k → σ j = stL l j) : FrozS k τ s rows σ (stL l) := fun j τ' r' hj => by
 have hne : j ≠ k := fun e => by
  subst e
  obtain ⟨e, he, h2⟩ := List.mem_map.1 (iZ hj)
  have := hbig e he
  omega
 exact ⟨hne, r', by rw [h j hne]; exact hj, rfl, rfl, fun i row' hi => ⟨row', hi, rfl, fun o y' ho => ⟨y', ho, .same _⟩⟩⟩
theorem le_app {l : Rows} (hbig : ∀ e ∈ l, 1000 ≤ e.1) {σ : Store} {δ : Diff} (hd : (δ.all fun e => Nat.blt e.1 1000) = true) (h : (stL l).le σ) : (stL l).le (σ.apply δ) := fun k x hx => by
 rw [wF (fun hk => ?_)]
 ·exact h k x hx
 ·obtain ⟨e, he, h2⟩ := List.mem_map.1 (iZ hx)
  have h3 := hbig e he
  have : ∀ δ : Diff, k ∈ wkeys δ → ∃ y, (k, y) ∈ δ := fun δ => by
   induction δ with
   | nil => intro h; cases h
   | cons a δ ih =>
    obtain ⟨a, y⟩ := a
    intro h
    simp only [wkeys, List.mem_cons] at h
    rcases h with rfl | h
    ·exact ⟨y, by simp⟩
    ·obtain ⟨y', h'⟩ := ih h; exact ⟨y', by simp [h']⟩
  obtain ⟨y, hy⟩ := this δ hk
  have := List.all_eq_true.1 hd _ hy
  simp at this
  omega
set_option maxRecDepth 100000
section
variable {v j : Nat} {ops : Array Oper} {K : Tm → Store → Prop} {KD : List Foot → Tm → Store → Prop} {acc : List Foot} {rest : List Oper} {tm : Tm} {σ : Store} {dst : Option Tmp} {ty : TypeId} {pos : String} {af : Array Edge} {gd : Option (Nat × Bool)}
end
theorem vI {x : Ex} (h : checkI x = 0) : x.evs.length ≤ 64 ∧ evsTo x.evs (addrsTo x.evs) x.evs.length = true ∧ fromB x.evs x.from_ = true ∧ orderB x.evs (addrsTo x.evs) x.order = true := by
 unfold checkI at h
 by_cases h1 : 64 < x.evs.length
 ·rw [if_pos h1] at h; omega
 rw [if_neg h1] at h
 cases h2 : evsTo x.evs (addrsTo x.evs) x.evs.length with
 | false => rw [h2] at h; simp at h
 | true =>
 cases h3 : fromB x.evs x.from_ with
 | false => rw [h2, h3] at h; simp at h
 | true =>
 cases h4 : orderB x.evs (addrsTo x.evs) x.order with
 | false => rw [h2, h3, h4] at h; simp at h
 | true => exact ⟨by omega, rfl, rfl, rfl⟩
theorem yQ {es : List Ev} {fs : List Int} (h : fromB es fs = true) : fs.length = es.length := by
 unfold fromB at h
 simp only [Bool.and_eq_true, decide_eq_true_eq] at h
 exact h.1
theorem rZ {es : List Ev} {fs : List Int} (h : fromB es fs = true) {k : Nat} (hk : k < fs.length) : fromOk es fs k = true := by
 unfold fromB fromTo at h
 simp only [Bool.and_eq_true, List.all_eq_true, List.mem_range] at h
 exact h.2 k hk
theorem rX {es : List Ev} {fs : List Int} (h : fromB es fs = true) (k : Nat) : fs.getD k 0 < (es.length : Int) + 1 := by
 by_cases hk : k < fs.length
 ·have := rZ h hk
  unfold fromOk at this
  simp only [Bool.or_eq_true, Bool.and_eq_true, Bool.not_eq_true', beq_iff_eq, decide_eq_false_iff_not] at this
  omega
 ·rw [List.getD_eq_getElem?_getD, List.getElem?_eq_none (by omega)]
  simp only [Option.getD_none]
  omega
end Go.Proofs.YtnkocjkkefnelaaGreat
