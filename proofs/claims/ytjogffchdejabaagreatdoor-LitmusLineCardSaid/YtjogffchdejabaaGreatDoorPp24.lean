/- Parts. -/
import Derived.RangeFuncNested
import Derived.Shelf.SlSortCmp.NoneTotal
import Derived.DeepKeys4
import Derived.WideKeyArgs2
import Derived.Test.YtjogffchdejabaaGreatDoorPp9
import Derived.Test.YtjogffchdejabaaGreatDoorPp21
import Derived.Test.YtjogffchdejabaaGreatDoorPp22
import Derived.Test.YtjogffchdejabaaGreatDoorPp23
set_option linter.unusedVariables false
set_option linter.unusedSimpArgs false
set_option maxHeartbeats 4000000
namespace Go.Proofs.YtjogffchdejabaaGreatDoor
section
open Go.RowKit Go.Shelf Go.Maps Go.Sort
abbrev P2 := Fin 65536 × Fin 65536
def encP (x : P2) : List Value := [.int .i64 (x.1.val : Int), .int .i64 (x.2.val : Int)]
def aggP (x : P2) : Value := .agg #[.int .i64 (x.1.val : Int), .int .i64 (x.2.val : Int)]
def cmpP (x y : P2) : Int := if x.1.val = y.1.val then (x.2.val : Int) - (y.2.val : Int) else (x.1.val : Int) - (y.1.val : Int)
def ltP (x y : P2) : Bool := decide (x.1.val < y.1.val ∨ (x.1.val = y.1.val ∧ x.2.val < y.2.val))
theorem bF (x y : P2) : ltOf cmpP x y = ltP x y := by
 unfold ltOf ltP cmpP
 by_cases h : x.1.val = y.1.val
 ·rw [if_pos h]
  refine decide_eq_decide.2 ?_
  omega
 ·rw [if_neg h]
  refine decide_eq_decide.2 ?_
  omega
theorem swoP : SWO (ltOf cmpP) where
 irrefl x := by rw [bF]; simp [ltP]
 trans x y z h1 h2 := by rw [bF] at *; simp only [ltP, decide_eq_true_eq] at *; omega
 ntrans x y z h1 h2 := by rw [bF] at *; simp only [ltP, decide_eq_false_iff_not] at *; omega
theorem sortPairs_none (p : Option Addr) (cap : Nat) (fv : Value) (w : World) :
  Calls Tryz.prog 263 #[.slice p 0 cap, fv] w fun e w' => e = .returned (.tuple #[]) ∧ w' = w := AnyF.slices_SortFunc_none Tryz.sortPairs p cap fv w
end
section
open Go.RowKit Go.Shelf Go.Maps Go.Sort
def flatP (l : List P2) : List Value := l.flatMap encP
theorem flatP_snoc (l : List P2) (x : P2) : flatP (l ++ [x]) = flatP l ++ [.int .i64 (x.1.val : Int), .int .i64 (x.2.val : Int)] := by
 simp [flatP, encP, List.flatMap_append]
theorem fO (l : List P2) : (flatP l).length = l.length * 2 := by
 unfold flatP
 induction l with
 | nil => rfl
 | cons x r ih => simp [encP, ih]; omega
theorem info_p : (Tryz.prog.info? 229).map (fun i => (i.zero, i.size, i.bytes)) = some (some (.agg #[.int .i64 0, .int .i64 0]), 2, 16) := by kernel_rfl
theorem cell_two_at {W : World} {p : Nat} {u v : Value} {t : TypeId} (h : W.heap[p]? = some (.cells #[u, v] t (0, 0))) : W.cell? ⟨p, 0, none⟩ = some u ∧ W.cell? ⟨p, 1, none⟩ = some v := by
 constructor <;> simp [World.cell?, h]
theorem cell_two_new' (W : World) (u v : Value) (t : TypeId) : ∀ j x, [u, v][j]? = some x → (W.alloc (.cells #[u, v] t)).cell? ((⟨W.heap.size, 0, none⟩ : Addr).add j) = some x := by
 intro j x h
 match j, h with
 | 0, h => simp at h; subst h; simp [Addr.add]
 | 1, h => simp at h; subst h; simp [Addr.add]
set_option maxRecDepth 100000 in
set_option maxHeartbeats 2000000 in
theorem append_p (F : Fence) (hF : ∀ f, F.fn f) (n : Nat) (hro : F.round = none) (hn : 2 ≤ n) (g : Nat) (lb : Array Value) (eg : ∀ args w, (callFunc g args).run Tryz.prog w = .ok (.enter g args) w)
  (Kp : World → World → Prop) (S Sp : List P2 → Prop) (N : Nat) (hN : N ≤ 4294967296) (w : World)
  (hKt : ∀ {A B C : World}, Kp A B → Kp B C → Kp A C) (hKb : ∀ (W : World) (l : Nat) (o o' : Obj), w.heap.size ≤ l → W.heap[l]? = some o → o.isCells = false → o.isWalk = false → Kp W (W.putObj l o'))
  (hKo : ∀ W W', KeepsOthers W W' → Below w.heap.size W W' → Kp W W')
  (hseq : SeqStopsK F (n - 1) Tryz.prog g lb (fun x : P2 => #[.agg #[.int .i64 (x.1.val : Int), .int .i64 (x.2.val : Int)]]) Kp S Sp N w) :
  CallsIn F n Tryz.prog 282 #[.slice none 0 0, .func (.func g) #[] lb] w fun e w' => ∃ (v : Value) (ss : List P2), e = .returned v ∧ S ss ∧ ss.length ≤ N ∧ w'.ownsRow w.heap.size 229 2 v ss.length (flatP ss) ∧ (v = .slice none 0 0 ↔ ss = []) ∧ Below w.heap.size w w' := by
 have h1 : 1 ≤ n := by omega
 obtain ⟨i0, hi, jz0, jz1, jz2⟩ := info_parts info_p
 refine callsIn_of_wp_marks Tryz.func282 rfl (hF _) ?_ hro
 simp only [Tryz.ntmps282, List.size_toArray, List.length_cons, List.length_nil, Nat.reduceAdd, Nat.reduceSub, Array.replicate_succ, Array.replicate_zero, List.push_toArray, List.append_toArray, List.nil_append, List.cons_append]
 gi_wp2
 have bO := Boxed.new w 180 (.slice none 0 0)
 have hB0 : Below w.heap.size w (w.alloc (.cells #[.slice none 0 0] 180)) := (Below.refl _ w).alloc (Nat.le_refl _) _
 refine wpIn_rangeFunc_ownH hro h1 (gf := g) (lb := lb) rfl (hF _) eg (N := N) hseq hKt (fun W l o o' hl h1 h2 h3 => hKb W l o o' (by simp at hl; omega) h1 h2 h3) hB0 (fun _ => rfl)
  (fun pre W => ((∃ v, Boxed W w.heap.size 180 v ∧ W.ownsRow w.heap.size 229 2 v pre.length (flatP pre) ∧ (v = .slice none 0 0 ↔ pre = [])) ∧ Below w.heap.size w W) ∧ pre.length ≤ N)
  (fun _ _ _ => False)
  (OwnFrom.and (OwnFrom.and (Own.from (holdsRow_own w.heap.size w.heap.size 180 229 2 (fun pre : List P2 => pre.length) (fun pre => flatP pre) (fun pre v => v = .slice none 0 0 ↔ pre = [])) _) (ownFrom_below (Nat.le_refl _) (by simp))) (fun _ _ _ _ hs _ _ => hs))
  (fun _ _ _ _ _ hs _ _ => hs)
  ⟨⟨⟨_, bO, World.ownsRow_nil _ _ _ _, by simp⟩, hB0⟩, by simp⟩
  (fun x a' W => ∃ p, w.heap.size ≤ p ∧ W.heap[p]? = some (.cells #[.int .i64 (x.1.val : Int), .int .i64 (x.2.val : Int)] 229 (0, 0)) ∧ a' = { tmps := #[.slice none 0 0, .func (.func g) #[] lb, .pointer (some ⟨w.heap.size, 0, none⟩), undef, .slice none 0 0, .pointer (some ⟨p, 0, none⟩), .func (.func g) #[] lb, .agg #[.int .i64 (x.1.val : Int), .int .i64 (x.2.val : Int)], undef, undef, undef, undef, undef], defers := [] }) ?hAx ?assign ?body ?done ?stop
 case hAx =>
  rintro x a' _ W W' row ⟨p, hp, hpc, he⟩ hg hr
  refine ⟨p, hp, (hg.block p (Array.getElem?_eq_some_iff.1 hpc).1 ?_).trans hpc, he⟩
  intro e
  obtain ⟨_, o, ho, hc⟩ := hr p e.symm
  rw [hpc] at ho; cases ho; cases hc
 case assign =>
  intro l pre x W K hI hK
  gi_wp2_with (rw [Oper.semAt_eq _ _ _ (fun c h => by cases h)]; go_simp; try go_bits)
  obtain ⟨⟨⟨v, hv, hrow, hnil⟩, hB⟩, hl⟩ := hI
  refine hK _ _ ((KeepsOthers.alloc _ _).from _) (hKo _ _ (KeepsOthers.alloc _ _) ((Below.refl _ _).alloc hB.size _)) ⟨⟨⟨v, hv.alloc _, hrow.alloc _, hnil⟩, hB.alloc hB.size _⟩, hl⟩ ⟨W.heap.size, hB.size, World.alloc_heap_new W _, rfl⟩
 case body =>
  rintro l pre x a' W hl9 hr9 ⟨⟨⟨v, hv, hrow, hnil⟩, hB⟩, _⟩ ⟨p, hp, hpc, rfl⟩ hlt
  have hc := hv.cell
  obtain ⟨hp0, hp1⟩ := cell_two_at hpc
  gi_wp2_with (first | (gi_at_builtin; refine wpListIn_append_own _ rfl _ _ 180 rfl w.heap.size 229 i0 (.agg #[.int .i64 0, .int .i64 0]) 2 16 Tryz.underlying180 hi jz0 jz1 jz2 rfl (by decide) _ _ _ rfl (hrow.alloc _) ⟨W.heap.size, 0, none⟩ 1 1 [.int .i64 (x.1.val : Int), .int .i64 (x.2.val : Int)] rfl rfl (cell_two_new' _ _ _ _) (by simp [Value.oneCell']) (by unfold maxLen; omega) (by omega) (by have := hB.size; simp; omega) ?_; intro v' w1 hown' hgrow _; obtain ⟨g', cap', rfl⟩ := ownsRow_succ hown'; obtain ⟨hv1, hv2, hr2, hk2, hb2⟩ := hv.appended (by decide) hrow hB.size (Nat.le_refl _) hown' hgrow; have hc1 := hv1.cell; have hf1 := hv1.frozen; go_frame) | (rw [Oper.semAt_eq _ _ _ (fun c h => by cases h)]; go_simp; try go_bits))
  exact ⟨hk2.from _, hKo _ _ hk2 hb2, ⟨⟨_, hv2, by rw [flatP_snoc]; simpa using hr2, by simp⟩, hB.trans hb2⟩, by simp; omega⟩
 case done =>
  rintro D ys W hD hS ⟨⟨⟨v, hv, hrow, hnil⟩, hB⟩, hlen⟩ hK
  have hc := hv.cell
  gi_wp2
  refine ⟨by simp, .inl ⟨_, _, rfl, run_takeDeferred hK, ?_⟩⟩
  exact ⟨_, results_tmp rfl _ _ _, v, ys, rfl, hS, hlen, ownsRow_putObj hrow _ hK rfl, hnil, hB.trans (belowK_b (w := w) (Nat.le_refl _) W D _ _ (by simp at hD; omega) hK rfl rfl)⟩
 case stop =>
  rintro D c pre W _ _ h _
  exact h.elim
set_option maxHeartbeats 1000000 in
theorem collect_p (F : Fence) (hF : ∀ f, F.fn f) (n : Nat) (hro : F.round = none) (hn : 3 ≤ n) (g : Nat) (lb : Array Value) (eg : ∀ args w, (callFunc g args).run Tryz.prog w = .ok (.enter g args) w)
  (Kp : World → World → Prop) (S Sp : List P2 → Prop) (N : Nat) (hN : N ≤ 4294967296) (w : World)
  (hKt : ∀ {A B C : World}, Kp A B → Kp B C → Kp A C) (hKb : ∀ (W : World) (l : Nat) (o o' : Obj), w.heap.size ≤ l → W.heap[l]? = some o → o.isCells = false → o.isWalk = false → Kp W (W.putObj l o'))
  (hKo : ∀ W W', KeepsOthers W W' → Below w.heap.size W W' → Kp W W')
  (hseq : SeqStopsK F (n - 1 - 1) Tryz.prog g lb (fun x : P2 => #[.agg #[.int .i64 (x.1.val : Int), .int .i64 (x.2.val : Int)]]) Kp S Sp N w) :
  CallsIn F n Tryz.prog 262 #[.func (.func g) #[] lb] w fun e w' => ∃ (v : Value) (ss : List P2), e = .returned v ∧ S ss ∧ ss.length ≤ N ∧ w'.ownsRow w.heap.size 229 2 v ss.length (flatP ss) ∧ (v = .slice none 0 0 ↔ ss = []) ∧ Below w.heap.size w w' := by
 have h1 : 1 ≤ n := by omega
 refine callsIn_of_wp Tryz.func262 rfl (hF _) ?_ hro
 simp only [Tryz.ntmps262, List.size_toArray, List.length_cons, List.length_nil, Nat.reduceAdd, Nat.reduceSub, Array.replicate_succ, Array.replicate_zero, List.push_toArray, List.append_toArray, List.nil_append, List.cons_append]
 gi_wp2_with (gi_at_call 282; refine (append_p F hF (n - 1) hro (by omega) g lb eg Kp S Sp N hN _ hKt hKb hKo hseq).mono ?_; rintro e w' ⟨v, ss, rfl, hS, hlen, hrow, hnil, hb⟩)
 go_ret
 exact ⟨v, ss, rfl, hS, hlen, hrow, hnil, hb⟩
end
section
open Go.RowKit Go.Shelf Go.Maps Go.Sort
theorem mD : ∀ (l : List P2) (t : Nat), t < l.length * 2 → (flatP l)[t]? = some ((encP (l.getD (t / 2) default))[t % 2]!)
 | [], t, h => by simp at h
 | x :: r, 0, _ => by simp [flatP, encP]
 | x :: r, 1, _ => by simp [flatP, encP]
 | x :: r, t + 2, h => by
  have ih := mD r t (by simp at h; omega)
  have e1 : (t + 2) / 2 = t / 2 + 1 := by omega
  have e2 : (t + 2) % 2 = t % 2 := by omega
  rw [e1, e2, List.getD_cons_succ, ← ih]
  simp [flatP, encP]
theorem fP (l : List P2) : (flatK encP 2 l.toArray).toList = flatP l := by
 apply List.ext_getElem?
 intro t
 by_cases h : t < l.length * 2
 ·rw [mD l t h]
  have h2 : t / 2 < l.length := by omega
  simp [flatK, h, List.getD, h2]
 ·rw [List.getElem?_eq_none (by simp; omega), List.getElem?_eq_none (by rw [fO]; omega)]
theorem holds_of_blockV {w : World} {g : Nat} {cur : Array Value} {e : TypeId} {F : Array Value} (hb : w.heap[g]? = some (.cells cur e (0, 0))) (ht : cur.toList.take F.size = F.toList) : Holds id w g 0 F := by
 intro j hj
 refine ⟨?_, by simp [World.frozen?, hb]⟩
 have h1 : (cur.toList.take F.size)[j]? = F.toList[j]? := by rw [ht]
 rw [List.getElem?_take_of_lt hj] at h1
 simp only [World.cell?, hb, Nat.zero_add]
 simp only [Option.isSome_none, Bool.false_eq_true, if_false]
 rw [← Array.getElem?_toList, h1]
 simp [hj]
theorem heap_sortedV {w : World} {g n : Nat} {os : Array Obj} {cur : Array Value} {e : TypeId} {fr : Nat × Nat} (F : Array Value) (hb : w.heap[g]? = some (.cells cur e fr)) :
  (grow (putRow id (Sort.ahead w n) g 0 F) os).heap[g]? = some (.cells (putCells id 0 F cur) e fr) := by
 have hg : g < w.heap.size := (Array.getElem?_eq_some_iff.1 hb).1
 rw [heap_grow_old _ _ (by simpa using hg)]
 simp [putRow, mapBlock, Sort.ahead, Array.getElem?_modify, hb, onCells]
theorem grownBy_sortedV {w : World} {g n : Nat} {os : Array Obj} (F : Array Value) : w.grownBy (grow (putRow id (Sort.ahead w n) g 0 F) os) (some g) := by
 refine ⟨rfl, rfl, rfl, by simp, fun k hk hne => ?_⟩
 rw [heap_grow_old _ _ (by simpa using hk)]
 have : g ≠ k := fun e => hne (by rw [e])
 simp [putRow, mapBlock, Sort.ahead, Array.getElem?_modify, this]
theorem take_putCellsV (cur F : Array Value) (h : F.size ≤ cur.size) : (putCells id 0 F cur).toList.take F.size = F.toList := by
 apply List.ext_getElem?
 intro j
 by_cases hj : j < F.size
 ·rw [List.getElem?_take_of_lt hj, Array.getElem?_toList]
  simp [putCells, hj, show j < cur.size by omega]
 ·rw [List.getElem?_take_eq_none (by omega), List.getElem?_eq_none (by simp; omega)]
theorem ownsRow_sortedV {w : World} {base g cap n k : Nat} {e : TypeId} {os : Array Obj} {cur F : Array Value} (hl : F.size = k * 2) (hbase : base ≤ g) (hb : w.heap[g]? = some (.cells cur e (0, 0)))
  (h1 : k ≤ cap) (h2 : cap ≤ maxLen) (h3 : cur.size = cap * 2) :
  (grow (putRow id (Sort.ahead w n) g 0 F) os).ownsRow base e 2 (.slice (some ⟨g, 0, none⟩) k cap) k F.toList :=
 ⟨by simp [hl], .inr ⟨g, cap, _, rfl, hbase, heap_sortedV _ hb, h1, h2, by simp [putCells, h3], by rw [← hl]; exact take_putCellsV cur F (by omega)⟩⟩
def sortP (l : List P2) : List P2 := l.mergeSort (fun x y => !ltP y x)
theorem sortP_unique (d d' : Array P2) (hp : PermIn 0 d.size d d') (hs : SortedIn ltP 0 d.size d') : d'.toList = sortP d.toList := by
 have e : ltOf cmpP = ltP := by funext x y; exact bF x y
 have sw : SWO ltP := by rw [← e]; exact swoP
 exact sorted_unique_holds sw (fun x y h1 h2 => by
  simp only [ltP, decide_eq_false_iff_not] at h1 h2
  have a : x.1 = y.1 := Fin.ext (by omega)
  have b : x.2 = y.2 := Fin.ext (by omega)
  exact Prod.ext a b) d d' hp hs
def PairsIn (B : Nat) (w : World) (s : Sl) (l : List P2) : Prop :=
 s.n = l.length ∧ l.length ≤ 1152921504606846976 ∧
 (l = [] ∨ ∃ b off, s.a = some ⟨b, off, none⟩ ∧ b < B ∧ ∀ k, k < l.length → w.cell? ⟨b, off + k * 2, none⟩ = some (.int .i64 ((l.getD k default).1.val : Int)) ∧ w.cell? ⟨b, off + k * 2 + 1, none⟩ = some (.int .i64 ((l.getD k default).2.val : Int)))
theorem PairsIn.below {B : Nat} {w w' : World} {s : Sl} {l : List P2} (h : PairsIn B w s l) (hb : Below B w w') : PairsIn B w' s l := by
 obtain ⟨h1, h2, h3⟩ := h
 refine ⟨h1, h2, ?_⟩
 rcases h3 with h3 | ⟨b, off, h4, h5, h6⟩
 ·exact Or.inl h3
 ·exact Or.inr ⟨b, off, h4, h5, fun k hk => by rw [hb.cell (by exact h5), hb.cell (by exact h5)]; exact h6 k hk⟩
theorem PairsIn.mono {B B' : Nat} {w : World} {s : Sl} {l : List P2} (h : PairsIn B w s l) (hB : B ≤ B') : PairsIn B' w s l := by
 obtain ⟨h1, h2, h3⟩ := h
 refine ⟨h1, h2, ?_⟩
 rcases h3 with h3 | ⟨b, off, h4, h5, h6⟩
 ·exact Or.inl h3
 ·exact Or.inr ⟨b, off, h4, by omega, h6⟩
end
section
open Go.RowKit Go.Shelf Go.Maps Go.Sort
open Go.WideMaps (KeyLaw)
theorem pairLaid : laidOutB Tryz.prog = true := by kernel_rfl
theorem rQ : (229 : TypeId) < Tryz.prog.types.size := of_decide_eq_true (by kernel_rfl)
theorem pairLaw : KeyLaw Tryz.prog 229 := deep_law_laid pairLaid (m := 2) (by omega) rQ (by kernel_rfl) (by kernel_rfl)
theorem dE : Keyed Tryz.prog 229 := Keyed.of_law pairLaw
def kpL (p : Int × Int) : Lit := .string (keyBytes [.int .i64 p.1, .int .i64 p.2])
theorem dF : Tryz.prog.cellsOf 229 = 2 := by kernel_rfl
theorem mB : Tryz.prog.cellsOf 3 = 1 := by kernel_rfl
theorem oT : Tryz.prog.keyType 229 = true := by kernel_rfl
theorem tG {m : Nat} {u : Value} {ls : List Lit} (h : Tryz.prog.keyLits (m + 1) 3 [u] = some ls) : ∃ a, u = .int .i64 a := by
 cases u <;> simp [Program.keyLits, Tryz.underlying3] at h
 exact ⟨_, by rw [h.1.1]⟩
theorem sX : ∃ m, Tryz.prog.types.size = m + 1 := by
 obtain ⟨k, hk⟩ := Nat.exists_eq_add_of_lt rQ
 exact ⟨_, hk⟩
theorem keyPair {a b : Int} (ha : (Lit.int .i64 a).wf = true) (hb : (Lit.int .i64 b).wf = true) : keyOf Tryz.prog 229 (.agg #[.int .i64 a, .int .i64 b]) = some (kpL (a, b)) := by
 obtain ⟨m, hm⟩ := sX
 have hf : (Value.agg #[.int .i64 a, .int .i64 b]).formed Tryz.prog 229 = true := by simp [Value.formed, Tryz.underlying229, dF]
 have hl : Tryz.prog.keyLits (Tryz.prog.types.size + 1) 229 [.int .i64 a, .int .i64 b] = some [.int .i64 a, .int .i64 b] := by
  rw [hm]
  simp [Program.keyLits, Tryz.underlying229, Tryz.underlying3, dF, mB, ha, hb]
 simp only [keyOf, Tryz.underlying229, oT, hf, Value.cells, Bool.and_self, if_true]
 rw [hl]
 rfl
theorem keyPair_inv {v : Value} {kl : Lit} (h : keyOf Tryz.prog 229 v = some kl) : ∃ p : Int × Int, v = .agg #[.int .i64 p.1, .int .i64 p.2] := by
 obtain ⟨m, hm⟩ := sX
 simp only [keyOf, Tryz.underlying229, oT, Bool.true_and] at h
 split at h
 case isFalse => cases h
 rename_i hf
 obtain ⟨xs, rfl, hx⟩ : ∃ xs : Array Value, v = .agg xs ∧ xs.size = 2 := by
  cases v <;> simp [Value.formed, Tryz.underlying229, dF] at hf
  exact ⟨_, rfl, hf⟩
 obtain ⟨u, z, rfl⟩ : ∃ u z, xs = #[u, z] := by
  refine ⟨xs[0], xs[1], ?_⟩
  apply Array.ext
  ·simpa using hx
  ·intro i h1 h2
   match i, h2 with
   | 0, _ => rfl
   | 1, _ => rfl
 rw [hm] at h
 obtain ⟨ls, hls, _⟩ := Option.map_eq_some_iff.1 h
 simp only [Value.cells] at hls
 unfold Program.keyLits at hls
 simp only [Tryz.underlying229, dF] at hls
 split at hls
 case isFalse => cases hls
 obtain ⟨ls2, hls2, _⟩ := Option.map_eq_some_iff.1 hls
 simp [mB, Option.bind_eq_some_iff] at hls2
 obtain ⟨l1, h1, l2, ⟨l3, h2, _⟩, _⟩ := hls2
 obtain ⟨a, rfl⟩ := tG h1
 obtain ⟨b, rfl⟩ := tG h2
 exact ⟨(a, b), rfl⟩
theorem wfP (n : Fin 65536) : (Lit.int .i64 (n.val : Int)).wf = true := by
 have := n.isLt
 simp only [Lit.wf, IntKind.min, IntKind.max, IntKind.signed, IntKind.bits, Bool.and_eq_true, decide_eq_true_eq, if_true]
 omega
def kp (x : P2) : Lit := kpL ((x.1.val : Int), (x.2.val : Int))
theorem nH (x : P2) : keyOf Tryz.prog 229 (.agg #[.int .i64 (x.1.val : Int), .int .i64 (x.2.val : Int)]) = some (kp x) := keyPair (wfP _) (wfP _)
theorem nU {p : Int × Int} {x : P2} (h : Value.agg #[.int .i64 p.1, .int .i64 p.2] = .agg #[.int .i64 (x.1.val : Int), .int .i64 (x.2.val : Int)]) : p = ((x.1.val : Int), (x.2.val : Int)) := by
 simp at h
 exact Prod.ext h.1 h.2
theorem qM {x y : P2} (h : kp x = kp y) : x = y := by
 have := nU (p := ((x.1.val : Int), (x.2.val : Int))) (dE.inj (nH x) (h ▸ nH y))
 simp only [Prod.mk.injEq] at this
 exact Prod.ext (Fin.ext (by omega)) (Fin.ext (by omega))
def KeysP (D0 : DataW Unit) (ss : List P2) : Prop := ss.Nodup ∧ (∀ x ∈ ss, has D0 (kp x) = true) ∧ ∀ kl, has D0 kl = true → ∃ x ∈ ss, kl = kp x
def CollP (D0 : DataW Unit) (left : Lit → Bool) (ss : List P2) : Prop := ss.Nodup ∧ (∀ x ∈ ss, has D0 (kp x) = true ∧ left (kp x) = false) ∧ ∀ kl, has D0 kl = true → left kl = false → ∃ x ∈ ss, kl = kp x
theorem CollP.start (D0 : DataW Unit) : CollP D0 (has D0) [] := ⟨List.nodup_nil, fun x h => (by cases h), fun kl h1 h2 => (by rw [h1] at h2; cases h2)⟩
theorem mU {x y : P2} : (kp x).sameKey (kp y) = decide (x = y) := by
 unfold Lit.sameKey
 by_cases h : x = y
 ·subst h; simp [kp, kpL]
 ·have h2 : kp x ≠ kp y := fun e => h (qM e)
  rw [decide_eq_false h]
  unfold kp kpL at h2 ⊢
  simpa using h2
theorem CollP.step {D0 : DataW Unit} {left : Lit → Bool} {ss : List P2} (h : CollP D0 left ss) (hsm : ∀ kl, has D0 kl = true → ∃ x, kl = kp x) {x : P2} (hlk : left (kp x) = true) (hx : has D0 (kp x) = true) : CollP D0 (fun z => left z && !z.sameKey (kp x)) (ss ++ [x]) := by
 obtain ⟨h1, h2, h3⟩ := h
 have hnew : x ∉ ss := fun hm => by have := (h2 x hm).2; rw [hlk] at this; cases this
 refine ⟨List.nodup_append.2 ⟨h1, by simp, fun a ha b hb => by simp at hb; subst hb; exact fun e => hnew (e ▸ ha)⟩, fun y hy => ?_, fun kl hk hl => ?_⟩
 ·rcases List.mem_append.1 hy with hy | hy
  ·exact ⟨(h2 y hy).1, by simp [(h2 y hy).2]⟩
  ·have : y = x := by simpa using hy
   subst this
   refine ⟨hx, ?_⟩
   show (left (kp y) && !(kp y).sameKey (kp y)) = false
   rw [mU]; simp
 ·obtain ⟨y, rfl⟩ := hsm kl hk
  replace hl : (left (kp y) && !(kp y).sameKey (kp x)) = false := hl
  rw [mU] at hl
  by_cases e : y = x
  ·exact ⟨y, by simp [e], rfl⟩
  ·simp [e] at hl
   obtain ⟨z, hz, ez⟩ := h3 _ hk hl
   exact ⟨z, by simp [hz], ez⟩
theorem CollP.done {D0 : DataW Unit} {left : Lit → Bool} {ss : List P2} (h : CollP D0 left ss) (hl : ∀ kl, left kl = false) : KeysP D0 ss := ⟨h.1, fun x hx => (h.2.1 x hx).1, fun kl hk => h.2.2 kl hk (hl kl)⟩
set_option maxRecDepth 100000 in
set_option maxHeartbeats 1000000 in
theorem keys1_p (F : Fence) (hF : ∀ f, F.fn f) (n : Nat) (hro : F.round = none) (hn : 1 ≤ n) (l Bm of b nn : Nat) (D0 : DataW Unit) (hsm : ∀ kl, has D0 kl = true → ∃ x, kl = kp x) (J Jx : List P2 → World → Prop)
  (hY : ∀ pre (x : P2) W, J pre W → pre.length < Maps.size D0 → YieldAt F (n - 1) Tryz.prog l #[.agg #[.int .i64 (x.1.val : Int), .int .i64 (x.2.val : Int)]] W fun e W' =>
   (e = .returned (.bool true) ∧ J (pre ++ [x]) W' ∧ KeepsWalks W W') ∨ (e = .returned (.bool false) ∧ Jx (pre ++ [x]) W'))
  (W : World) (hJ : AbidesFrom W.heap.size J) (hm : W.cell? ⟨Bm, of, none⟩ = some (.map (some b))) (hown : W.ownsMap Tryz.prog 229 (plainElem Tryz.prog 3) b nn D0) (h0 : J [] W) :
  CallsIn F n Tryz.prog 264 #[.func (.yield l) #[] #[], .pointer (some ⟨Bm, of, none⟩)] W fun e W' => (∃ v, e = .returned v) ∧
   ((∃ ss : List P2, KeysP D0 ss ∧ J ss W') ∨ (∃ pre : List P2, True ∧ Jx pre W')) := by
 refine callsIn_of_wp Tryz.func264 rfl (hF _) ?_ hro
 simp only [Tryz.ntmps264, List.size_toArray, List.length_cons, List.length_nil, Nat.reduceAdd, Nat.reduceSub, Array.replicate_succ, Array.replicate_zero, List.push_toArray, List.append_toArray, List.nil_append, List.cons_append]
 gi_wp2_with (first
  | (gi_at_range; refine wpListIn_range_own _ rfl _ 267 rfl 229 3 dE Tryz.underlying267 _ b nn _ rfl hown ?_; intro w0 hrg0 hg0 hs0)
  | gi_in)
 go_frame
 gi_loopw [3] (fun _ wr => ∃ (left : Lit → Bool) (cnt : Nat) (ss : List P2), wr.ranges Tryz.prog 229 (plainElem Tryz.prog 3) b W.heap.size nn D0 left cnt ∧ ss.length + cnt ≤ Maps.size D0 ∧ CollP D0 left ss ∧ J ss wr)
  (fun _ wr => wr.rangeLeft b W.heap.size)
 case atStart =>
  exact ⟨_, _, [], hrg0, by simp, CollP.start D0, hJ [] W w0 none h0 hg0 (fun r e => by cases e)⟩
 case round =>
  obtain ⟨left, cnt, ss, hrg, hcs, hC, hJs⟩ := hrel
  gi_wp2_with (first
   | (gi_at_next; refine wpListIn_next_ranges _ rfl _ rfl 229 dE _ (fun p : Int × Int => Value.agg #[.int .i64 p.1, .int .i64 p.2]) (fun c : Int => Value.int .i64 c) (fun _ _ h => keyPair_inv h) (fun v y h => by obtain ⟨a, ha, _⟩ := plainElem_int_inv Tryz.underlying3 h; exact ⟨a, ha⟩) b W.heap.size nn _ _ _ rfl hrg ?_ ?_)
   | gi_in)
  ·intro hc0 hl0
   gi_wp2
   go_end0
   exact ⟨⟨_, rfl⟩, .inl ⟨ss, hC.done hl0, hJs⟩⟩
  ·intro xa xb c kl y1 y2 w2 cnt2 hkey hlk hRv hat hrg2 hlt hg2 hs2 hen
   have hhas : has D0 kl = true := has_true_of_atKey hat
   obtain ⟨x, rfl⟩ := hsm kl hhas
   have ex := nU (p := (xa, xb)) (dE.inj hkey (nH x))
   simp only [Prod.mk.injEq] at ex
   obtain ⟨rfl, rfl⟩ := ex
   have hJ2 : J ss w2 := hJ ss wr w2 (some W.heap.size) hJs hg2 (fun r e => by cases e; exact ⟨Nat.le_refl _, hrg.iter_walk⟩)
   have hJ2' := hJ ss w2 (w2.alloc (.cells #[.int .i64 (x.1.val : Int), .int .i64 (x.2.val : Int)] 229)) none hJ2 (World.grownBy_alloc _ _ none) (fun r e => by cases e)
   obtain ⟨fn, tmps, assign, body, hy, hR⟩ := hY ss x _ hJ2' (by omega)
   clear hs2
   gi_wp2
   refine hR.mono ?_
   rintro e W3 (⟨rfl, hJ3, hk3⟩ | ⟨rfl, hJx3⟩)
   ·gi_wp2
    have hrg3 := (hrg2.alloc _).of_walks hk3
    go_roundw
    case rel => exact ⟨_, cnt2, ss ++ [x], hrg3, by simp; omega, hC.step hsm hlk hhas, hJ3⟩
    case measure => rw [hrg3.left_eq, hrg.left_eq]; exact hlt
   ·gi_wp2
    refine bodyPost_ret (results_none rfl _ _ _) rfl ?_
    exact ⟨⟨_, rfl⟩, .inr ⟨_, trivial, hJx3⟩⟩
theorem keysP_stops (F : Fence) (hF : ∀ f, F.fn f) (n : Nat) (hro : F.round = none) (hn : 1 ≤ n) (Bm of b nn : Nat) (D0 : DataW Unit) (hsm : ∀ kl, has D0 kl = true → ∃ x, kl = kp x) (w : World) (hBm : Bm < w.heap.size)
  (hm : w.cell? ⟨Bm, of, none⟩ = some (.map (some b))) (hown : w.ownsMap Tryz.prog 229 (plainElem Tryz.prog 3) b nn D0) :
  SeqStopsK F n Tryz.prog 264 #[.pointer (some ⟨Bm, of, none⟩)] (fun x : P2 => #[.agg #[.int .i64 (x.1.val : Int), .int .i64 (x.2.val : Int)]]) KeepsWalks (KeysP D0) (fun _ => True) (Maps.size D0) w := fun l J Jx W hW hJ hJx hY h0 => by
 have hown' : W.ownsMap Tryz.prog 229 (plainElem Tryz.prog 3) b nn D0 := by
  have hbl := hown.lt
  obtain ⟨es, clock, hb, Ft, hs, hD⟩ := hown
  exact ⟨es, clock, (hW.block b hbl).trans hb, Ft, hs, hD⟩
 exact keys1_p F hF n hro hn l Bm of b nn D0 hsm J Jx hY W hJ ((hW.cell (p := ⟨Bm, of, none⟩) hBm).trans hm) hown' h0
set_option maxHeartbeats 1000000 in
theorem cmpA_c (x y : P2) (W : World) : Calls Tryz.prog 225 #[aggP x, aggP y] W fun e w' => e = .returned (.int .i64 (cmpP x y)) ∧ ∃ q os', w' = grow (W.drewN q) os' := by
 obtain ⟨⟨a, ha⟩, ⟨b, hb⟩⟩ := x
 obtain ⟨⟨c, hc⟩, ⟨d, hd⟩⟩ := y
 unfold aggP cmpP
 dsimp only
 by_cases h : a = c
 ·rw [if_pos h]
  subst h
  have h1 : ((a : Int) != (a : Int)) = false := by simp
  go_enter Tryz.func225, Tryz.ntmps225
  go_wp2
  go_ret
  exact ⟨rfl, 0, _, by rw [alloc_eq_grow, alloc_eq_grow, grow_grow]; rfl⟩
 ·rw [if_neg h]
  have h1 : ((a : Int) != (c : Int)) = true := by simp; omega
  have h2 : (a != c) = true := by simpa using h
  clear h
  go_enter Tryz.func225, Tryz.ntmps225
  go_wp2
  go_ret
  exact ⟨rfl, 0, _, by rw [alloc_eq_grow, alloc_eq_grow, grow_grow]; rfl⟩
theorem cmpLaysA (blk off size : Nat) (w : World) : CmpLays Tryz.prog 225 #[] encP 2 cmpP blk off size w :=
 fun _ _ _ _ x y => cmpA_c x y _
theorem sortPairsA_c (blk off cap : Nat) (d : Array P2) (w : World) (hH : HoldsK encP 2 w blk off d) (hblk : blk < w.heap.size) (hsz : d.size < 4611686018427387904) :
  Calls Tryz.prog 263 #[.slice (some ⟨blk, off, none⟩) d.size cap, .func (.func 225) #[] #[]] w fun e w' => e = .returned (.tuple #[]) ∧ ∃ d' n os, PermIn 0 d.size d d' ∧ SortedIn ltP 0 d.size d' ∧ w' = sortWorldK encP 2 w blk off n d' os := by
 have h := AnyQ.slices_SortFunc Tryz.sortPairs 2 Tryz.isAgg229 Tryz.sizeOf229 encP (fun _ => rfl) (fun x v hv => by simp [encP] at hv; rcases hv with rfl | rfl <;> rfl) cmpP swoP 225 #[] blk off cap d w (enters_of Tryz.func225 (by kernel_rfl) rfl) (cmpLaysA blk off d.size w) hH hblk hsz
 refine Calls.mono h ?_
 rintro e w' ⟨he, d', n, os, hp, hs, hw⟩
 exact ⟨he, d', n, os, hp, fun i j h1 h2 h3 => by rw [← bF]; exact hs i j h1 h2 h3, hw⟩
end
section
open Go.RowKit Go.Shelf Go.Maps Go.Sort
set_option maxRecDepth 100000 in
set_option maxHeartbeats 2000000 in
theorem sortedFuncA_pn (n : Nat) (hn : 4 ≤ n) (g : Nat) (lb : Array Value) (eg : ∀ args w, (callFunc g args).run Tryz.prog w = .ok (.enter g args) w)
  (Kp : World → World → Prop) (S Sp : List P2 → Prop) (N : Nat) (hN : N ≤ 4294967296) (w : World)
  (hKt : ∀ {A B C : World}, Kp A B → Kp B C → Kp A C) (hKb : ∀ (W : World) (l : Nat) (o o' : Obj), w.heap.size ≤ l → W.heap[l]? = some o → o.isCells = false → o.isWalk = false → Kp W (W.putObj l o'))
  (hKo : ∀ W W', KeepsOthers W W' → Below w.heap.size W W' → Kp W W')
  (hseq : SeqStopsK Fence.wide (n - 1 - 1 - 1) Tryz.prog g lb (fun x : P2 => #[.agg #[.int .i64 (x.1.val : Int), .int .i64 (x.2.val : Int)]]) Kp S Sp N w) :
  CallsIn Fence.wide n Tryz.prog 223 #[.func (.func g) #[] lb, .func (.func 225) #[] #[]] w fun e w' => ∃ (v : Value) (ss : List P2), e = .returned v ∧ S ss ∧ ss.length ≤ N ∧
   w'.ownsRow w.heap.size 229 2 v (sortP ss).length (flatP (sortP ss)) ∧ (ss = [] → v = .slice none 0 0) ∧ Below w.heap.size w w' := by
 have h1 : 1 ≤ n := by omega
 have hF : ∀ f, Fence.wide.fn f := fun _ => trivial
 have hro : Fence.wide.round = none := rfl
 refine callsIn_of_wp Tryz.func223 rfl (hF _) ?_ hro
 simp only [Tryz.ntmps223, List.size_toArray, List.length_cons, List.length_nil, Nat.reduceAdd, Nat.reduceSub, Array.replicate_succ, Array.replicate_zero, List.push_toArray, List.append_toArray, List.nil_append, List.cons_append]
 gi_wp2_with (gi_at_call 262; refine (collect_p Fence.wide (fun _ => trivial) (n - 1) rfl (by omega) g lb eg Kp S Sp N hN _ hKt hKb hKo hseq).mono ?_; rintro e W ⟨v, ss, rfl, hS, hlen, hrow, hnil, hb⟩)
 rcases hrow.2 with ⟨rfl, hz⟩ | ⟨gb, cap, cur, rfl, hbase, hgb, r1, r2, r3, r4⟩
 ·have hss : ss = [] := List.eq_nil_of_length_eq_zero hz
  subst hss
  have cS := (callsIn_wide (n := n - 1)).2 (sortPairs_none none 0 (.func (.func 225) #[] #[]) W)
  gi_wp2_with (gi_at_call 263; refine cS.mono ?_; rintro e w' ⟨rfl, rfl⟩)
  go_ret
  have e0 : sortP [] = [] := by simp [sortP]
  exact ⟨_, [], rfl, hS, by simp, by rw [e0]; exact World.ownsRow_nil _ _ _ _, fun _ => rfl, hb⟩
 ·have hF : (flatK encP 2 ss.toArray).size = ss.length * 2 := by simp
  have hH : HoldsK encP 2 W gb 0 ss.toArray := holds_of_blockV hgb (by rw [hF, fP]; exact r4)
  have hgl : gb < W.heap.size := (Array.getElem?_eq_some_iff.1 hgb).1
  have cS := (callsIn_wide (n := n - 1)).2 (sortPairsA_c gb 0 cap ss.toArray W hH hgl (by simp; omega))
  rw [List.size_toArray] at cS
  gi_wp2_with (gi_at_call 263; refine cS.mono ?_; rintro e w' ⟨rfl, d', nn, os, hp, hs, rfl⟩)
  go_ret
  have hd : d'.size = ss.length := by have := hp.1; simpa using this
  have hsort : d'.toList = sortP ss := sortP_unique ss.toArray d' (by simpa using hp) (by simpa using hs)
  have hF2 : (flatK encP 2 d').size = ss.length * 2 := by simp [hd]
  have hrow2 := ownsRow_sortedV (n := nn) (os := os) hF2 hbase hgb r1 r2 r3
  have e3 : (flatK encP 2 d').toList = flatP (sortP ss) := by rw [← hsort, ← fP]
  have e4 : ss.length = (sortP ss).length := by rw [← hsort]; simp [hd]
  rw [e3] at hrow2
  have hrow3 : (sortWorldK encP 2 W gb 0 nn d' os).ownsRow w.heap.size 229 2 (.slice (some ⟨gb, 0, none⟩) ss.length cap) (sortP ss).length (flatP (sortP ss)) := by rw [← e4]; exact hrow2
  exact ⟨_, ss, rfl, hS, hlen, hrow3, fun h => (by have := hnil.2 h; cases this), hb.grown (grownBy_sortedV _) hb.size (fun j hj => by cases hj; exact hbase)⟩
end
namespace Ev
open Go Go.RowKit Go.Maps Go.Sort
noncomputable def pairN (x : AV × AV × Nat) : Option Nat := match x.1 with
 | .agg [.int .i64 (.ofNat a), .int .i64 (.ofNat b)] => match x.2.1 with
  | .int .i64 (.ofNat m) => og (Nat.blt a 65536 && (Nat.blt b 65536 && Nat.blt m 4611686018427387904)) (some (Nat.add (Nat.mul a 65536) b))
  | _ => none
 | _ => none
noncomputable def flatN (l : List Nat) : List AV := @List.rec Nat (fun _ => List AV) [] (fun k _ ih => .int .i64 (.ofNat (Nat.div k 65536)) :: .int .i64 (.ofNat (Nat.mod k 65536)) :: ih) l
noncomputable def keysP (s : St) (es : List (AV × AV × Nat)) (c : Nat) : Option (AV × St) := ob (mapO pairN es) fun ks => og (Nat.ble (len es) 65536 && (stampsOk es c && riseN (sortN ks)))
 (@List.rec Nat (fun _ => Option (AV × St)) (some (.nils, s)) (fun _ _ _ => some (.sl s.c 0 2 (len ks) none, ⟨s.h.put s.c (.cells true (flatN (sortN ks))), Nat.succ s.c⟩)) ks)
noncomputable def oraP1 (s : St) (g bx c2 : Nat) : Option (AV × St) := og (Nat.beq g 264 && Nat.beq c2 225) (cellsOf s.h bx fun cs => match cs with
 | [.map i] => mapOf s.h i fun es c => keysP s es c
 | _ => none)
noncomputable def oraPairs : Ora := fun f args s => og (Nat.beq f 223) (match args with
 | [.fn g [] [.ptr bx 0], .fn c2 [] []] => oraP1 s g bx c2
 | _ => none)
def dec (k : Nat) : P2 := (⟨k / 65536 % 65536, Nat.mod_lt _ (Nat.zero_lt_succ _)⟩, ⟨k % 65536, Nat.mod_lt _ (Nat.zero_lt_succ _)⟩)
def aggN (k : Nat) : Value := .agg #[.int .i64 ((k / 65536 : Nat) : Int), .int .i64 ((k % 65536 : Nat) : Int)]
theorem sR {k : Nat} (h : k < 4294967296) : (dec k).1.val = k / 65536 := by
 show k / 65536 % 65536 = k / 65536
 omega
theorem tV (k : Nat) : (dec k).2.val = k % 65536 := rfl
theorem cL {k : Nat} (h : k < 4294967296) : aggN k = .agg #[.int .i64 ((dec k).1.val : Int), .int .i64 ((dec k).2.val : Int)] := by rw [sR h, tV]; rfl
theorem dec_inj {k k' : Nat} (h : k < 4294967296) (h' : k' < 4294967296) (e : dec k = dec k') : k = k' := by
 have e1 : (dec k).1.val = (dec k').1.val := by rw [e]
 have e2 : (dec k).2.val = (dec k').2.val := by rw [e]
 rw [sR h, sR h'] at e1
 rw [tV, tV] at e2
 omega
theorem sortP_same {ss l : List P2} (hn : ss.Nodup) (hl : l.Pairwise (fun x y => ltP x y = true)) (hm : ∀ x, x ∈ ss ↔ x ∈ l) : sortP ss = l := by
 have irr : ∀ x : P2, ltP x x = false := fun x => by simp [ltP]
 have hp : ss.Perm l := (List.perm_ext_iff_of_nodup hn (hl.imp (fun {a b} h e => by subst e; rw [irr] at h; cases h))).2 hm
 refine List.Perm.eq_of_pairwise (le := fun a b : P2 => ltP b a = false) (fun a b _ _ h1 h2 => ?_) ?_ (hl.imp fun {a b} h => ?_) ((List.mergeSort_perm ss _).trans hp)
 ·simp only [ltP, decide_eq_false_iff_not] at h1 h2
  exact Prod.ext (Fin.ext (by omega)) (Fin.ext (by omega))
 ·refine (List.pairwise_mergeSort (le := fun x y : P2 => !ltP y x) (fun a b c h1 h2 => ?_) (fun a b => ?_) ss).imp fun {a b} h => by simpa using h
  ·simp only [ltP, Bool.not_eq_true', decide_eq_false_iff_not] at *; omega
  ·simp only [ltP, Bool.or_eq_true, Bool.not_eq_true', decide_eq_false_iff_not]; omega
 ·simp only [ltP, decide_eq_true_eq, decide_eq_false_iff_not] at *; omega
theorem pairN_some {x : AV × AV × Nat} {k : Nat} (h : pairN x = some k) : ∃ m, x.1 = .agg [.int .i64 (.ofNat (k / 65536)), .int .i64 (.ofNat (k % 65536))] ∧ x.2.1 = .int .i64 (.ofNat m) ∧ k < 4294967296 ∧ m < 4611686018427387904 := by
 unfold pairN at h
 split at h
 ·rename_i a b e1
  split at h
  ·rename_i m e2
   obtain ⟨h1, h2⟩ := uM h
   cases h2
   obtain ⟨h3, h4⟩ := band h1
   obtain ⟨h5, h6⟩ := band h4
   have h3 := xW h3
   have h5 := xW h5
   refine ⟨m, ?_, e2, ?_, xW h6⟩
   ·rw [e1]
    rw [show Nat.add (Nat.mul a 65536) b / 65536 = a from by show (a * 65536 + b) / 65536 = a; omega, show Nat.add (Nat.mul a 65536) b % 65536 = b from by show (a * 65536 + b) % 65536 = b; omega]
   ·show a * 65536 + b < 4294967296
    omega
  ·cases h
 ·cases h
section
variable {w0 w : World} {π : Pl} {s : St}
theorem rep_agg2 {a b : Nat} {v : Value} (h : Rep π (.agg [.int .i64 (.ofNat a), .int .i64 (.ofNat b)]) v) : v = .agg #[.int .i64 (a : Int), .int .i64 (b : Int)] := by
 rw [Rep] at h
 obtain ⟨vs, rfl, h⟩ := h
 rw [RepL] at h
 obtain ⟨v1, us, e1, h1, h⟩ := h
 rw [RepL] at h
 obtain ⟨v2, us, rfl, h2, h⟩ := h
 rw [RepL] at h
 subst h
 have h1 := vD h1
 have h2 := vD h2
 subst h1 h2
 have : vs = #[.int .i64 (a : Int), .int .i64 (b : Int)] := Array.toList_inj.1 e1
 rw [this]
theorem lS : ∀ {es : List (AV × AV × Nat)} {ks : List Nat} {es' : List MapEntry}, mapO pairN es = some ks → RepE π es es' → es'.map (·.key) = ks.map aggN ∧ es'.map (·.born) = es.map (·.2.2) ∧ (∀ k ∈ ks, k < 4294967296) ∧ ∀ e ∈ es', ∃ k m : Nat, k < 4294967296 ∧ m < 4611686018427387904 ∧ e.key = aggN k ∧ e.val = .int .i64 (m : Int) ∧ k ∈ ks
 | [], ks, es', h, hr => by
  cases h
  have hr : es' = [] := hr
  subst hr
  exact ⟨rfl, rfl, fun k hk => (by cases hk), fun e he => (by cases he)⟩
 | x :: es, ks, es', h, hr => by
  obtain ⟨k, h1, h2⟩ := uB (show ob (pairN x) (fun x => ob (mapO pairN es) fun xs => some (x :: xs)) = some ks from h)
  obtain ⟨ks', h3, h4⟩ := uB h2
  cases h4
  obtain ⟨e, us, rfl, g1, g2, g3, g4⟩ := hr
  obtain ⟨m, e1, e2, e3, e4⟩ := pairN_some h1
  obtain ⟨q1, q2, q3, q4⟩ := lS h3 g4
  rw [e1] at g1
  rw [e2] at g2
  have g1 : e.key = aggN k := rep_agg2 g1
  have g2 := vD g2
  refine ⟨by rw [List.map_cons, List.map_cons, q1, g1], by rw [List.map_cons, List.map_cons, q2, g3], fun k' hk' => ?_, fun e' he' => ?_⟩
  ·rcases List.mem_cons.1 hk' with rfl | hk'
   ·exact e3
   ·exact q3 k' hk'
  ·rcases List.mem_cons.1 he' with rfl | he'
   ·exact ⟨k, m, e3, e4, g1, g2, by simp⟩
   ·obtain ⟨k2, m2, w1, w2, w3, w4, w5⟩ := q4 e' he'
    exact ⟨k2, m2, w1, w2, w3, w4, by simp [w5]⟩
theorem pairs_own {es : List (AV × AV × Nat)} {c b : Nat} {ks : List Nat} {es' : Array MapEntry} (hb : w.heap[b]? = some (.map es' c)) (hr : RepE π es es'.toList) (hks : mapO pairN es = some ks) (hlen : len es ≤ 65536) (hst : stampsOk es c = true) (hrise : riseN (sortN ks) = true) :
  ∃ D : DataW Unit, w.ownsMap Tryz.prog 229 (plainElem Tryz.prog 3) b 65536 D ∧ (∀ kl, has D kl = true ↔ ∃ k ∈ ks, kl = kp (dec k)) ∧ ∀ k ∈ ks, k < 4294967296 := by
 obtain ⟨q1, q2, q3, q4⟩ := lS hks hr
 obtain ⟨h1, h2⟩ := band hst
 have hsz : es'.size = es.length := by
  have : es'.toList.length = es.length := by
   have := congrArg List.length q2
   simpa using this
  simpa using this
 have hrd : ∀ x ∈ es'.toList, ∃ k m : Nat, k < 4294967296 ∧ x.key = aggN k ∧ k ∈ ks ∧ WideElems.rd (H := Unit) Tryz.prog 229 (plainElem Tryz.prog 3) x = some (kp (dec k), .lit (.int .i64 (m : Int))) := fun x hx => by
  obtain ⟨k, m, g1, g2, g3, g4, g5⟩ := q4 x hx
  refine ⟨k, m, g1, g3, g5, ?_⟩
  unfold WideElems.rd
  rw [g3, g4, plainElem_int Tryz.underlying3 (uAX g2), cL g1, nH]
  rfl
 refine ⟨.map ((es'.toList.map (WideElems.rg Tryz.prog 229 (plainElem Tryz.prog 3))).foldr DataW.insert []), ⟨es', c, hb, ⟨?_, ⟨?_, ?_, ?_⟩, ?_⟩, ?_, rfl⟩, fun kl => ?_, q3⟩
 ·rw [hsz, ← wJ]; unfold maxLen; omega
 ·intro x hx
  have hm : x.born ∈ es.map (·.2.2) := by rw [← q2]; exact List.mem_map.2 ⟨x, hx, rfl⟩
  obtain ⟨y, hy, hyb⟩ := List.mem_map.1 hm
  rw [← hyb]
  exact xW (wG h1 y hy)
 ·rw [q2, ← yR]; exact bP h2
 ·rw [q1]
  refine List.nodup_iff_pairwise_ne.2 ?_
  exact List.pairwise_map.2 ((List.nodup_iff_pairwise_ne.1 (bP hrise)).imp_of_mem fun {a b} ha hb hne e => hne (by
   rw [cL (q3 _ ha), cL (q3 _ hb)] at e
   have := nU (p := (((dec a).1.val : Int), ((dec a).2.val : Int))) e
   simp only [Prod.mk.injEq] at this
   exact dec_inj (q3 _ ha) (q3 _ hb) (Prod.ext (Fin.ext (by omega)) (Fin.ext (by omega)))))
 ·intro x hx
  obtain ⟨k, m, _, _, _, h⟩ := hrd x hx
  exact ⟨_, h⟩
 ·rw [hsz, ← wJ]; exact hlen
 ·show (((es'.toList.map (WideElems.rg Tryz.prog 229 (plainElem Tryz.prog 3))).foldr DataW.insert []).any fun p => p.1.sameKey kl) = true ↔ _
  rw [gP, List.any_map, List.any_eq_true]
  constructor
  ·rintro ⟨e, he, h⟩
   obtain ⟨k, m, g1, g2, g3, g4⟩ := hrd e he
   have hg : WideElems.rg (H := Unit) Tryz.prog 229 (plainElem Tryz.prog 3) e = (kp (dec k), .lit (.int .i64 (m : Int))) := by unfold WideElems.rg; rw [g4]; rfl
   simp only [Function.comp_apply, hg] at h
   refine ⟨k, g3, ?_⟩
   unfold kp kpL at h ⊢
   cases kl <;> first | (cases h; done) | skip
   have := beq_iff_eq.1 (show (_ == _) = true from h)
   rw [this]
  ·rintro ⟨k, hk, rfl⟩
   have hm : aggN k ∈ es'.toList.map (·.key) := by rw [q1]; exact List.mem_map.2 ⟨k, hk, rfl⟩
   obtain ⟨e, he, hek⟩ := List.mem_map.1 hm
   refine ⟨e, he, ?_⟩
   obtain ⟨k', m, g1, g2, g3, g4⟩ := hrd e he
   have hg : WideElems.rg (H := Unit) Tryz.prog 229 (plainElem Tryz.prog 3) e = (kp (dec k'), .lit (.int .i64 (m : Int))) := by unfold WideElems.rg; rw [g4]; rfl
   simp only [Function.comp_apply, hg]
   rw [mU]
   have hek : aggN k' = aggN k := g2.symm.trans hek
   rw [cL g1, cL (q3 k hk)] at hek
   have := nU (p := (((dec k').1.val : Int), ((dec k').2.val : Int))) hek
   simp only [Prod.mk.injEq] at this
   exact decide_eq_true (Prod.ext (Fin.ext (by omega)) (Fin.ext (by omega)))
theorem mE : ∀ (l : List Nat), (∀ k ∈ l, k < 4294967296) → RepL π (flatN l) (flatP (l.map dec))
 | [], _ => RepL.nil
 | k :: l, h => by
  show RepL π (.int .i64 (.ofNat (Nat.div k 65536)) :: .int .i64 (.ofNat (Nat.mod k 65536)) :: flatN l) _
  have hk := h k (by simp)
  have e : flatP ((k :: l).map dec) = .int .i64 ((dec k).1.val : Int) :: .int .i64 ((dec k).2.val : Int) :: flatP (l.map dec) := by simp [flatP, encP]
  rw [e]
  refine RepL.cons ?_ (RepL.cons ?_ (mE l fun k hk => h k (by simp [hk])))
  ·rw [Rep, sR hk]; rfl
  ·rw [Rep]; rfl
theorem oraPairs_ok : OraOk Tryz.prog oraPairs := fun f args s r h w0 π args' w ha hf hr => by
 obtain ⟨hfe, hm⟩ := uM h
 have hfe := beq_eq hfe
 subst hfe
 split at hm
 ·rename_i g bx c2
  obtain ⟨hg, hm2⟩ := uM hm
  obtain ⟨hg, hg2⟩ := band hg
  have hg := beq_eq hg
  have hg2 := beq_eq hg2
  subst hg hg2
  obtain ⟨wr, cs, h1, h2⟩ := wW hm2
  split at h2
  ·rename_i i
   obtain ⟨o, h3, h4⟩ := uB h2
   cases o <;> first | (cases h4; done) | skip
   rename_i es c
   obtain ⟨ks, h5, h6⟩ := uB h4
   obtain ⟨h7, h8⟩ := uM h6
   obtain ⟨g1, g2⟩ := band h7
   obtain ⟨g3, g4⟩ := band g2
   rw [RepL] at ha
   obtain ⟨v, us, e1, e2, e3⟩ := ha
   rw [RepL] at e3
   obtain ⟨vc, us', rfl, ec, e3⟩ := e3
   rw [RepL] at e3
   subst e3
   rw [Rep] at e2 ec
   obtain ⟨vs, us, rfl, e3, e4⟩ := e2
   obtain ⟨vs', us', rfl, c3, c4⟩ := ec
   have e3 : vs.toList = [] := List.eq_nil_of_length_eq_zero e3.length
   have c3 : vs'.toList = [] := List.eq_nil_of_length_eq_zero c3.length
   have c4 : us'.toList = [] := List.eq_nil_of_length_eq_zero c4.length
   have e4' : ∃ v us', us.toList = v :: us' ∧ Rep π (.ptr bx 0) v ∧ RepL π [] us' := by rw [RepL] at e4; exact e4
   obtain ⟨v2, us2, e5, e6, e7⟩ := e4'
   rw [RepL] at e7
   subst e7
   rw [Rep] at e6
   obtain ⟨L, hL, rfl⟩ := e6
   have evs : vs = #[] := Array.toList_inj.1 e3
   have evs' : vs' = #[] := Array.toList_inj.1 c3
   have eus' : us' = #[] := Array.toList_inj.1 c4
   have eus : us = #[.pointer (some ⟨L.b, L.o + 0, none⟩)] := Array.toList_inj.1 e5
   subst evs eus evs' eus'
   have ea : args' = #[.func (.func 264) #[] #[.pointer (some ⟨L.b, L.o + 0, none⟩)], .func (.func 225) #[] #[]] := Array.toList_inj.1 e1
   subst ea
   obtain ⟨ob1, m1, rcs, T1, fz1, rfl, m2, m3, m4, m5⟩ := hr.obj bx _ L h1 hL
   obtain ⟨mv, m6, m7⟩ := m5 0 _ rfl
   rw [Rep] at m7
   obtain ⟨M, hM, rfl⟩ := m7
   obtain ⟨ob2, m8, es', rfl, m9⟩ := hr.obj i _ M h3 hM
   obtain ⟨D, own, hasD, hks⟩ := pairs_own m8 m9 h5 (vQ g1) g3 g4
   have hgl : rcs[L.o]? = some (.map (some M.b)) := m6
   have hcell : w.cell? ⟨L.b, L.o + 0, none⟩ = some (.map (some M.b)) := by
    simp only [World.cell?, m1, Nat.add_zero]; simpa using hgl
   have hrise := dB g4
   have hks' : ∀ k ∈ sortN ks, k < 4294967296 := fun k hk => hks k ((xE ks).mem_iff.1 hk)
   have hpw : ((sortN ks).map dec).Pairwise (fun x y => ltP x y = true) := List.pairwise_map.2 (hrise.imp_of_mem fun {a b} ha hb hlt => by
    simp only [ltP, decide_eq_true_eq]
    rw [sR (hks' a ha), sR (hks' b hb), tV, tV]
    omega)
   have hsz : Maps.size D ≤ 4294967296 := by have := own.size_le; omega
   have hcall := callsIn_wide.1 (sortedFuncA_pn 4 (by omega) _ #[.pointer (some ⟨L.b, L.o + 0, none⟩)] (enters_of Tryz.func264 (by kernel_rfl) rfl) KeepsWalks (KeysP D) (fun _ => True) (Maps.size D) hsz w walksK_t walksK_b (fun _ _ h _ => h.walks)
    (keysP_stops Fence.wide (fun _ => trivial) 1 rfl (by omega) L.b (L.o + 0) M.b _ D (fun kl hk => by obtain ⟨k, _, e⟩ := (hasD kl).1 hk; exact ⟨_, e⟩) w (Array.getElem?_eq_some_iff.1 m1).1 hcell own))
   refine .inr ⟨⟨_, Tryz.func223, by kernel_rfl, by kernel_rfl⟩, hcall.mono fun e w' ⟨v, ss, he, ⟨hn1, hn2, hn3⟩, _, hrow, hnil, hbel⟩ => ?_⟩
   subst he
   have hsort : sortP ss = (sortN ks).map dec := sortP_same hn1 hpw fun x => by
    rw [List.mem_map]
    constructor
    ·intro hx
     obtain ⟨k, hk, e⟩ := (hasD _).1 (hn2 x hx)
     exact ⟨k, (xE ks).mem_iff.2 hk, (qM e).symm⟩
    ·rintro ⟨k, hk, rfl⟩
     obtain ⟨y, hy, e⟩ := hn3 _ ((hasD _).2 ⟨k, (xE ks).mem_iff.1 hk, rfl⟩)
     rw [qM e]; exact hy
   rw [hsort] at hrow
   have hrel : Rel w0 π s.h w' := ⟨fun i o L hi hL => let ⟨o', h1, h2⟩ := hr.obj i o L hi hL; ⟨o', (hbel.block _ (Array.getElem?_eq_some_iff.1 h1).1).trans h1, h2⟩, hr.own, hr.inj, fun b hb => (hbel.block b (Nat.lt_of_lt_of_le hb hr.size)).trans (hr.keep b hb), Nat.le_trans hr.size hbel.size, hbel.tape.trans hr.tape, hbel.os.trans hr.os, hbel.output.trans hr.output⟩
   have hlen : ((sortN ks).map dec).length = ks.length := by rw [List.length_map, (xE ks).length_eq]
   rw [hlen] at hrow
   cases ks with
   | nil =>
    cases (show some (AV.nils, s) = some r from h8)
    have hss : ss = [] := by
     cases ss with
     | nil => rfl
     | cons y ys =>
      obtain ⟨k, hk, _⟩ := (hasD _).1 (hn2 y (by simp))
      cases hk
    have hv := hnil hss
    exact ⟨π, ⟨.refl π, fun i _ h => ⟨h, rfl⟩, Nat.le_refl _, hf, hrel⟩, v, rfl, by show Rep π .nils v; rw [Rep]; exact hv⟩
   | cons k ks =>
    cases (show some (AV.sl s.c 0 2 (len (k :: ks)) none, (⟨s.h.put s.c (.cells true (flatN (sortN (k :: ks)))), Nat.succ s.c⟩ : St)) = some r from h8)
    rcases hrow.2 with ⟨_, hz⟩ | ⟨gb, cap, cur, rfl, hbase, hgb, r1, r2, r3, r4⟩
    ·cases hz
    ·have hc := zV hf
     have hflat := mE (π := π) (sortN (k :: ks)) hks'
     have hfl : (flatP ((sortN (k :: ks)).map dec)).length = (k :: ks).length * 2 := by rw [fO, hlen]
     have hat : ObjAt π ⟨gb, 0, cap * 2⟩ (.cells cur 229 (0, 0)) (.cells true (flatN (sortN (k :: ks)))) := by
      refine ⟨cur, _, _, rfl, r3, fun _ => rfl, ?_, fun j x hj => ?_⟩
      ·show 0 + (flatN (sortN (k :: ks))).length ≤ cap * 2
       rw [← hflat.length, hfl]; omega
      ·obtain ⟨v, e1, e2⟩ := hflat.get hj
       rw [← r4, List.getElem?_take] at e1
       split at e1
       ·exact ⟨v, by rw [Nat.zero_add, ← Array.getElem?_toList]; exact e1, e2⟩
       ·cases e1
     have hname := hrel.name (L := ⟨gb, 0, cap * 2⟩) (w' := w') hc hgb (fun _ _ _ => rfl) (Nat.le_refl _) rfl rfl rfl hat (Nat.le_trans hr.size hbase) fun j q N hj hN e => by
      have := hr.lt hj hN
      rw [e] at this
      exact absurd this (Nat.not_lt.2 hbase)
     refine ⟨_, Nx.new hf (h' := s.h) (fun _ _ => rfl) hname, _, rfl, ?_⟩
     show Rep _ (.sl s.c 0 2 (len (k :: ks)) none) _
     rw [Rep]
     refine ⟨⟨gb, 0, cap * 2⟩, cap, 0, Pl.upd_self _ _ _, ?_, ?_, fun c' h => (by cases h), .inr rfl, by simp⟩
     ·rw [wJ]
     ·rw [wJ]; exact r1
  ·cases h2
 ·cases hm
end
end Ev
namespace Ev
open Go
def i (n : Nat) : D1 := .lf (.int .i64 (.ofNat n))
def im : D1 := .lf (.int .i64 (.negSucc 0))
def u (n : Nat) : D1 := .lf (.int .u32 (.ofNat n))
def bt : D1 := .lf (.bool true)
def bf : D1 := .lf (.bool false)
def nl : D1 := .lf .nils
def I (n : Nat) : AV := .int .i64 (.ofNat n)
def Bt : AV := .bool true
def Bf : AV := .bool false
noncomputable def ora0 : Ora := orO oraB (orO oraKeys oraPairs)
theorem fG : OraOk Tryz.prog ora0 := gH oraB_ok (gH oraKeys_ok oraPairs_ok)
def fuel : Nat := 100000
def x0 : List D3 := [(.agg [(.sl 13 6 [im, (i 5), (u 0), (u 0), (u 0), bf, bf, (i 0), (i 0), bf, nl, nl, nl, im, (i 5), (u 4), (u 0), (u 0), bf, bf, (i 0), (i 0), bf, nl, nl, nl, (i 0), (i 2), (u 0), (u 1), (u 0), bf, bf, (i 0), (i 0), bf, nl, nl, nl, (i 0), (i 1), (u 4), (u 0), (u 0), bf, bf, (i 0), (i 0), bf, nl, nl, nl, (i 1), (i 2), (u 4), (u 1), (u 0), bf, bf, (i 0), (i 0), bf, nl, nl, nl, (i 1), (i 1), (u 0), (u 0), (u 0), bf, bf, (i 0), (i 0), bf, nl, nl, nl]), (.sl 1 6 [im, im, im, (i 1), im, (i 0)]), (.sl 1 2 [(.sl 1 2 [(I 0), (I 2)]), (.sl 1 2 [(I 1), (I 4)])])])]
def c0 : Ent := ⟨121, x0, I 0⟩
def a0 : Ent := ⟨24, x0, (.tup [Bt, (I 0)])⟩
def x1 : List D3 := [(.agg [(.sl 13 6 [im, (i 5), (u 0), (u 0), (u 0), bf, bf, (i 0), (i 0), bf, nl, nl, nl, im, (i 5), (u 4), (u 0), (u 0), bf, bf, (i 0), (i 0), bf, nl, nl, nl, (i 0), (i 2), (u 0), (u 1), (u 0), bf, bf, (i 0), (i 0), bf, nl, nl, nl, (i 0), (i 1), (u 4), (u 0), (u 0), bf, bf, (i 0), (i 0), bf, nl, nl, nl, (i 1), (i 2), (u 4), (u 1), (u 0), bf, bf, (i 0), (i 0), bf, nl, nl, nl, (i 1), (i 1), (u 0), (u 0), (u 1), bf, bf, (i 0), (i 0), bf, nl, nl, nl]), (.sl 1 6 [im, im, im, (i 1), im, (i 2)]), (.sl 1 2 [(.sl 1 2 [(I 0), (I 2)]), (.sl 1 2 [(I 1), (I 4)])])])]
def c1 : Ent := ⟨121, x1, I 0⟩
def a1 : Ent := ⟨24, x1, (.tup [Bt, (I 0)])⟩
def x2 : List D3 := [(.agg [(.sl 13 6 [im, (i 5), (u 0), (u 0), (u 0), bf, bf, (i 0), (i 0), bf, nl, nl, nl, im, (i 5), (u 4), (u 0), (u 0), bf, bf, (i 0), (i 0), bf, nl, nl, nl, (i 0), (i 2), (u 0), (u 1), (u 0), bf, bf, (i 0), (i 0), bf, nl, nl, nl, (i 0), (i 1), (u 4), (u 0), (u 1), bf, bf, (i 0), (i 0), bf, nl, nl, nl, (i 1), (i 2), (u 4), (u 1), (u 0), bf, bf, (i 0), (i 0), bf, nl, nl, nl, (i 1), (i 1), (u 0), (u 0), (u 0), bf, bf, (i 0), (i 0), bf, nl, nl, nl]), (.sl 1 6 [im, im, im, (i 4), im, (i 0)]), (.sl 1 2 [(.sl 1 2 [(I 0), (I 2)]), (.sl 1 2 [(I 1), (I 4)])])])]
def c2 : Ent := ⟨121, x2, I 0⟩
def a2 : Ent := ⟨24, x2, (.tup [Bt, (I 0)])⟩
def x3 : List D3 := [(.agg [(.sl 13 6 [im, (i 5), (u 0), (u 0), (u 0), bf, bf, (i 0), (i 0), bf, nl, nl, nl, im, (i 5), (u 4), (u 0), (u 0), bf, bf, (i 0), (i 0), bf, nl, nl, nl, (i 0), (i 2), (u 0), (u 1), (u 0), bf, bf, (i 0), (i 0), bf, nl, nl, nl, (i 0), (i 1), (u 4), (u 0), (u 1), bf, bf, (i 0), (i 0), bf, nl, nl, nl, (i 1), (i 2), (u 4), (u 1), (u 0), bf, bf, (i 0), (i 0), bf, nl, nl, nl, (i 1), (i 1), (u 0), (u 0), (u 1), bf, bf, (i 0), (i 0), bf, nl, nl, nl]), (.sl 1 6 [im, im, im, (i 4), im, (i 2)]), (.sl 1 2 [(.sl 1 2 [(I 0), (I 2)]), (.sl 1 2 [(I 1), (I 4)])])])]
def c3 : Ent := ⟨121, x3, I 0⟩
def a3 : Ent := ⟨24, x3, (.tup [Bt, (I 0)])⟩
def x4 : List D3 := [(.agg [(.sl 13 8 [im, (i 5), (u 0), (u 0), (u 0), bf, bf, (i 0), (i 0), bf, nl, nl, nl, im, (i 5), (u 4), (u 0), (u 0), bf, bf, (i 0), (i 0), bf, nl, nl, nl, (i 0), (i 2), (u 0), (u 1), (u 0), bf, bf, (i 0), (i 0), bf, nl, nl, nl, (i 0), (i 4), (u 0), (u 0), (u 0), bf, bf, (i 3), (i 3), bf, nl, nl, nl, (i 0), (i 1), (u 4), (u 0), (u 0), bf, bf, (i 0), (i 0), bf, nl, nl, nl, (i 1), (i 2), (u 4), (u 1), (u 0), bf, bf, (i 0), (i 0), bf, nl, nl, nl, (i 1), (i 4), (u 0), (u 0), (u 0), bf, bf, (i 3), (i 3), bf, nl, nl, nl, (i 1), (i 1), (u 0), (u 0), (u 0), bf, bf, (i 0), (i 0), bf, nl, nl, nl]), (.sl 1 8 [im, im, im, im, (i 1), im, im, (i 0)]), (.sl 1 2 [(.sl 1 2 [(I 0), (I 2)]), (.sl 1 2 [(I 1), (I 5)])])])]
def c4 : Ent := ⟨121, x4, I 0⟩
def a4 : Ent := ⟨24, x4, (.tup [Bf, (I 0)])⟩
def x5 : List D3 := [(.agg [(.sl 13 8 [im, (i 5), (u 0), (u 0), (u 0), bf, bf, (i 0), (i 0), bf, nl, nl, nl, im, (i 5), (u 4), (u 0), (u 0), bf, bf, (i 0), (i 0), bf, nl, nl, nl, (i 0), (i 2), (u 0), (u 1), (u 0), bf, bf, (i 0), (i 0), bf, nl, nl, nl, (i 0), (i 4), (u 0), (u 0), (u 0), bf, bf, (i 3), (i 3), bf, nl, nl, nl, (i 0), (i 1), (u 4), (u 0), (u 0), bf, bf, (i 0), (i 0), bf, nl, nl, nl, (i 1), (i 2), (u 4), (u 1), (u 0), bf, bf, (i 0), (i 0), bf, nl, nl, nl, (i 1), (i 4), (u 0), (u 0), (u 0), bf, bf, (i 3), (i 3), bf, nl, nl, nl, (i 1), (i 1), (u 0), (u 0), (u 1), bf, bf, (i 0), (i 0), bf, nl, nl, nl]), (.sl 1 8 [im, im, im, im, (i 1), im, im, (i 2)]), (.sl 1 2 [(.sl 1 2 [(I 0), (I 2)]), (.sl 1 2 [(I 1), (I 5)])])])]
def c5 : Ent := ⟨121, x5, I 0⟩
def a5 : Ent := ⟨24, x5, (.tup [Bt, (I 0)])⟩
def x6 : List D3 := [(.agg [(.sl 13 8 [im, (i 5), (u 0), (u 0), (u 0), bf, bf, (i 0), (i 0), bf, nl, nl, nl, im, (i 5), (u 4), (u 0), (u 0), bf, bf, (i 0), (i 0), bf, nl, nl, nl, (i 0), (i 2), (u 0), (u 1), (u 0), bf, bf, (i 0), (i 0), bf, nl, nl, nl, (i 0), (i 4), (u 0), (u 0), (u 0), bf, bf, (i 3), (i 3), bf, nl, nl, nl, (i 0), (i 1), (u 4), (u 0), (u 1), bf, bf, (i 0), (i 0), bf, nl, nl, nl, (i 1), (i 2), (u 4), (u 1), (u 0), bf, bf, (i 0), (i 0), bf, nl, nl, nl, (i 1), (i 4), (u 0), (u 0), (u 0), bf, bf, (i 3), (i 3), bf, nl, nl, nl, (i 1), (i 1), (u 0), (u 0), (u 0), bf, bf, (i 0), (i 0), bf, nl, nl, nl]), (.sl 1 8 [im, im, im, im, (i 5), im, im, (i 0)]), (.sl 1 2 [(.sl 1 2 [(I 0), (I 2)]), (.sl 1 2 [(I 1), (I 5)])])])]
def c6 : Ent := ⟨121, x6, I 0⟩
def a6 : Ent := ⟨24, x6, (.tup [Bt, (I 0)])⟩
def x7 : List D3 := [(.agg [(.sl 13 8 [im, (i 5), (u 0), (u 0), (u 0), bf, bf, (i 0), (i 0), bf, nl, nl, nl, im, (i 5), (u 4), (u 0), (u 0), bf, bf, (i 0), (i 0), bf, nl, nl, nl, (i 0), (i 2), (u 0), (u 1), (u 0), bf, bf, (i 0), (i 0), bf, nl, nl, nl, (i 0), (i 4), (u 0), (u 0), (u 0), bf, bf, (i 3), (i 3), bf, nl, nl, nl, (i 0), (i 1), (u 4), (u 0), (u 1), bf, bf, (i 0), (i 0), bf, nl, nl, nl, (i 1), (i 2), (u 4), (u 1), (u 0), bf, bf, (i 0), (i 0), bf, nl, nl, nl, (i 1), (i 4), (u 0), (u 0), (u 0), bf, bf, (i 3), (i 3), bf, nl, nl, nl, (i 1), (i 1), (u 0), (u 0), (u 1), bf, bf, (i 0), (i 0), bf, nl, nl, nl]), (.sl 1 8 [im, im, im, im, (i 5), im, im, (i 2)]), (.sl 1 2 [(.sl 1 2 [(I 0), (I 2)]), (.sl 1 2 [(I 1), (I 5)])])])]
def c7 : Ent := ⟨121, x7, I 0⟩
def a7 : Ent := ⟨24, x7, (.tup [Bt, (I 0)])⟩
def x8 : List D3 := [(.agg [(.sl 13 6 [im, (i 5), (u 0), (u 0), (u 0), bf, bf, (i 0), (i 0), bf, nl, nl, nl, im, (i 5), (u 4), (u 0), (u 0), bf, bf, (i 0), (i 0), bf, nl, nl, nl, (i 0), (i 1), (u 0), (u 0), (u 0), bf, bf, (i 0), (i 0), bf, nl, nl, nl, (i 0), (i 2), (u 4), (u 1), (u 0), bf, bf, (i 0), (i 0), bf, nl, nl, nl, (i 1), (i 1), (u 4), (u 0), (u 0), bf, bf, (i 0), (i 0), bf, nl, nl, nl, (i 1), (i 2), (u 0), (u 1), (u 0), bf, bf, (i 0), (i 0), bf, nl, nl, nl]), (.sl 1 6 [im, im, (i 0), im, (i 1), im]), (.sl 1 2 [(.sl 1 2 [(I 0), (I 5)]), (.sl 1 2 [(I 1), (I 3)])])])]
def a8 : Ent := ⟨24, x8, (.tup [Bt, (I 0)])⟩
def x9 : List D3 := [(.agg [(.sl 13 6 [im, (i 5), (u 0), (u 0), (u 0), bf, bf, (i 0), (i 0), bf, nl, nl, nl, im, (i 5), (u 4), (u 0), (u 0), bf, bf, (i 0), (i 0), bf, nl, nl, nl, (i 0), (i 1), (u 0), (u 0), (u 0), bf, bf, (i 0), (i 0), bf, nl, nl, nl, (i 0), (i 2), (u 4), (u 1), (u 0), bf, bf, (i 0), (i 0), bf, nl, nl, nl, (i 1), (i 1), (u 4), (u 0), (u 1), bf, bf, (i 0), (i 0), bf, nl, nl, nl, (i 1), (i 2), (u 0), (u 1), (u 0), bf, bf, (i 0), (i 0), bf, nl, nl, nl]), (.sl 1 6 [im, im, (i 0), im, (i 3), im]), (.sl 1 2 [(.sl 1 2 [(I 0), (I 5)]), (.sl 1 2 [(I 1), (I 3)])])])]
def c9 : Ent := ⟨121, x9, I 0⟩
def a9 : Ent := ⟨24, x9, (.tup [Bt, (I 0)])⟩
def x14 : List D3 := [(.agg [(.sl 13 6 [im, (i 5), (u 0), (u 0), (u 0), bf, bf, (i 0), (i 0), bf, nl, nl, nl, im, (i 5), (u 4), (u 0), (u 0), bf, bf, (i 0), (i 0), bf, nl, nl, nl, (i 0), (i 1), (u 0), (u 0), (u 0), bf, bf, (i 0), (i 0), bf, nl, nl, nl, (i 0), (i 2), (u 4), (u 0), (u 0), bf, bf, (i 0), (i 0), bf, nl, (.sl 1 1 [(I 2)]), nl, (i 1), (i 1), (u 4), (u 0), (u 0), bf, bf, (i 0), (i 0), bf, nl, nl, nl, (i 1), (i 2), (u 0), (u 0), (u 0), bf, bf, (i 0), (i 0), bf, nl, (.sl 1 1 [(I 4)]), nl]), (.sl 1 6 [im, im, (i 5), im, (i 1), im]), (.sl 1 2 [(.sl 1 2 [(I 0), (I 5)]), (.sl 1 2 [(I 1), (I 3)])])])]
def c14 : Ent := ⟨121, x14, I 0⟩
def x15 : List D3 := [(.agg [(.sl 13 6 [im, (i 5), (u 0), (u 0), (u 0), bf, bf, (i 0), (i 0), bf, nl, nl, nl, im, (i 5), (u 4), (u 0), (u 0), bf, bf, (i 0), (i 0), bf, nl, nl, nl, (i 0), (i 1), (u 0), (u 0), (u 0), bf, bf, (i 0), (i 0), bf, nl, nl, nl, (i 0), (i 2), (u 4), (u 1), (u 0), bf, bf, (i 0), (i 0), bf, nl, nl, (.sl 1 1 [(I 2)]), (i 1), (i 1), (u 4), (u 0), (u 0), bf, bf, (i 0), (i 0), bf, nl, nl, nl, (i 1), (i 2), (u 0), (u 1), (u 0), bf, bf, (i 0), (i 0), bf, nl, nl, (.sl 1 1 [(I 4)])]), (.sl 1 6 [im, im, (i 0), im, (i 1), im]), (.sl 1 2 [(.sl 1 2 [(I 0), (I 5)]), (.sl 1 2 [(I 1), (I 3)])])])]
def c15 : Ent := ⟨121, x15, I 0⟩
def x16 : List D3 := [(.agg [(.sl 13 6 [im, (i 5), (u 0), (u 0), (u 0), bf, bf, (i 0), (i 0), bf, nl, nl, nl, im, (i 5), (u 4), (u 0), (u 0), bf, bf, (i 0), (i 0), bf, nl, nl, nl, (i 0), (i 1), (u 0), (u 0), (u 0), bf, bf, (i 0), (i 0), bf, nl, nl, nl, (i 0), (i 2), (u 4), (u 1), (u 0), bf, bf, (i 0), (i 0), bf, nl, nl, (.sl 1 1 [(I 2)]), (i 1), (i 1), (u 4), (u 0), (u 1), bf, bf, (i 0), (i 0), bf, nl, nl, nl, (i 1), (i 2), (u 0), (u 1), (u 0), bf, bf, (i 0), (i 0), bf, nl, nl, (.sl 1 1 [(I 4)])]), (.sl 1 6 [im, im, (i 0), im, (i 3), im]), (.sl 1 2 [(.sl 1 2 [(I 0), (I 5)]), (.sl 1 2 [(I 1), (I 3)])])])]
def c16 : Ent := ⟨121, x16, I 0⟩
def x17 : List D3 := [(.agg [(.sl 13 6 [im, (i 5), (u 0), (u 0), (u 0), bf, bf, (i 0), (i 0), bf, nl, nl, nl, im, (i 5), (u 4), (u 0), (u 0), bf, bf, (i 0), (i 0), bf, nl, nl, nl, (i 0), (i 1), (u 0), (u 0), (u 1), bf, bf, (i 0), (i 0), bf, nl, nl, nl, (i 0), (i 2), (u 4), (u 1), (u 0), bf, bf, (i 0), (i 0), bf, nl, nl, (.sl 1 1 [(I 2)]), (i 1), (i 1), (u 4), (u 0), (u 0), bf, bf, (i 0), (i 0), bf, nl, nl, nl, (i 1), (i 2), (u 0), (u 1), (u 0), bf, bf, (i 0), (i 0), bf, nl, nl, (.sl 1 1 [(I 4)])]), (.sl 1 6 [im, im, (i 5), im, (i 1), im]), (.sl 1 2 [(.sl 1 2 [(I 0), (I 5)]), (.sl 1 2 [(I 1), (I 3)])])])]
def c17 : Ent := ⟨121, x17, I 0⟩
def x20 : List D3 := [(.agg [(.sl 13 6 [im, (i 5), (u 0), (u 0), (u 0), bf, bf, (i 0), (i 0), bf, nl, nl, nl, im, (i 5), (u 4), (u 0), (u 0), bf, bf, (i 0), (i 0), bf, nl, nl, nl, (i 0), (i 2), (u 0), (u 1), (u 0), bf, bf, (i 0), (i 0), bf, nl, nl, nl, (i 0), (i 2), (u 4), (u 1), (u 0), bf, bt, (i 0), (i 0), bf, nl, nl, nl, (i 1), (i 1), (u 4), (u 0), (u 0), bt, bf, (i 0), (i 0), bf, nl, nl, nl, (i 1), (i 1), (u 0), (u 0), (u 1), bf, bf, (i 0), (i 0), bf, nl, nl, nl]), (.sl 1 6 [im, im, im, im, (i 1), (i 2)]), (.sl 1 2 [(.sl 1 2 [(I 0), (I 2)]), (.sl 1 2 [(I 1), (I 3)])])])]
def a20 : Ent := ⟨24, x20, (.tup [Bt, (I 0)])⟩
def x21 : List D3 := [(.agg [(.sl 13 6 [im, (i 5), (u 0), (u 0), (u 0), bf, bf, (i 0), (i 0), bf, nl, nl, nl, im, (i 5), (u 4), (u 0), (u 0), bf, bf, (i 0), (i 0), bf, nl, nl, nl, (i 0), (i 2), (u 0), (u 1), (u 0), bf, bf, (i 0), (i 0), bf, nl, nl, nl, (i 0), (i 2), (u 4), (u 1), (u 0), bf, bt, (i 0), (i 0), bf, nl, nl, nl, (i 1), (i 1), (u 4), (u 0), (u 1), bt, bf, (i 0), (i 0), bf, nl, nl, nl, (i 1), (i 1), (u 0), (u 0), (u 0), bf, bf, (i 0), (i 0), bf, nl, nl, nl]), (.sl 1 6 [im, im, im, im, (i 3), (i 0)]), (.sl 1 2 [(.sl 1 2 [(I 0), (I 2)]), (.sl 1 2 [(I 1), (I 3)])])])]
def a21 : Ent := ⟨24, x21, (.tup [Bf, (I 0)])⟩
def x22 : List D3 := [(.agg [(.sl 13 6 [im, (i 5), (u 0), (u 0), (u 0), bf, bf, (i 0), (i 0), bf, nl, nl, nl, im, (i 5), (u 4), (u 0), (u 0), bf, bf, (i 0), (i 0), bf, nl, nl, nl, (i 0), (i 2), (u 0), (u 1), (u 0), bf, bf, (i 0), (i 0), bf, nl, nl, nl, (i 0), (i 2), (u 4), (u 1), (u 0), bf, bt, (i 0), (i 0), bf, nl, nl, nl, (i 1), (i 1), (u 4), (u 0), (u 1), bt, bf, (i 0), (i 0), bf, nl, nl, nl, (i 1), (i 1), (u 0), (u 0), (u 1), bf, bf, (i 0), (i 0), bf, nl, nl, nl]), (.sl 1 6 [im, im, im, im, (i 3), (i 2)]), (.sl 1 2 [(.sl 1 2 [(I 0), (I 2)]), (.sl 1 2 [(I 1), (I 3)])])])]
def a22 : Ent := ⟨24, x22, (.tup [Bt, (I 0)])⟩
def x24 : List D3 := [(.agg [(.sl 13 3 [im, (i 5), (u 0), (u 0), (u 0), bf, bf, (i 0), (i 0), bf, nl, nl, nl, (i 0), (i 3), (u 0), (u 1), (u 0), bf, bf, (i 0), (i 0), bf, nl, nl, nl, (i 1), (i 3), (u 0), (u 1), (u 0), bf, bf, (i 0), (i 0), bf, nl, nl, nl]), (.sl 1 3 [im, (i 0), (i 0)]), (.sl 1 1 [(.sl 1 3 [(I 0), (I 2), (I 1)])])])]
def a24 : Ent := ⟨24, x24, (.tup [Bf, (I 0)])⟩
def x25 : List D3 := [(.agg [(.sl 13 3 [im, (i 5), (u 0), (u 0), (u 0), bf, bf, (i 0), (i 0), bf, nl, nl, nl, (i 0), (i 3), (u 0), (u 1), (u 0), bf, bf, (i 0), (i 0), bf, nl, nl, nl, (i 1), (i 3), (u 0), (u 1), (u 1), bf, bf, (i 0), (i 0), bf, nl, nl, nl]), (.sl 1 3 [im, (i 0), (i 1)]), (.sl 1 1 [(.sl 1 3 [(I 0), (I 1), (I 2)])])])]
def a25 : Ent := ⟨24, x25, (.tup [Bt, (I 0)])⟩
def l0 : Ent := ⟨13, [(.one (.lf (.str [104, 97, 114, 116, 10, 120, 32, 61, 32, 49, 10, 114, 49, 32, 61, 32, 121, 10, 104, 97, 114, 116, 10, 121, 32, 61, 32, 49, 10, 114, 49, 32, 61, 32, 120, 10])))], (.tup [(.agg [Bt, Bt, Bt, Bt]), Bt])⟩
def l1 : Ent := ⟨13, [(.one (.lf (.str [104, 97, 114, 116, 10, 120, 32, 61, 32, 49, 10, 102, 101, 110, 99, 101, 32, 114, 119, 32, 114, 119, 10, 114, 49, 32, 61, 32, 121, 10, 104, 97, 114, 116, 10, 121, 32, 61, 32, 49, 10, 102, 101, 110, 99, 101, 32, 114, 119, 32, 114, 119, 10, 114, 49, 32, 61, 32, 120, 10])))], (.tup [(.agg [Bf, Bt, Bt, Bt]), Bt])⟩
def l2 : Ent := ⟨13, [(.one (.lf (.str [104, 97, 114, 116, 10, 114, 49, 32, 61, 32, 120, 10, 121, 32, 61, 32, 49, 10, 104, 97, 114, 116, 10, 114, 49, 32, 61, 32, 121, 10, 120, 32, 61, 32, 49, 10])))], (.tup [(.agg [Bt, Bt, Bt, Bt]), Bt])⟩
def l3 : Ent := ⟨13, [(.one (.lf (.str [104, 97, 114, 116, 10, 114, 49, 32, 61, 32, 120, 10, 121, 32, 61, 32, 114, 49, 10, 104, 97, 114, 116, 10, 114, 49, 32, 61, 32, 121, 10, 120, 32, 61, 32, 114, 49, 10])))], (.tup [(.agg [Bt, Bf, Bf, Bf]), Bt])⟩
end Ev
end Go.Proofs.YtjogffchdejabaaGreatDoor
