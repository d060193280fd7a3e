/- Parts. -/
import Derived.DeepKeys4
import Derived.WideKeyArgs2
import Derived.Maps.OwnSet
import Derived.Maps.OwnOps
import Derived.WideKeyEntry
import Derived.Test.YtnkocjkkefnelaaGreatPs18
import Derived.Test.YtnkocjkkefnelaaGreatPs19
set_option linter.unusedVariables false
set_option linter.unusedSimpArgs false
set_option maxHeartbeats 4000000
namespace Go.Proofs.YtnkocjkkefnelaaGreat
open Go.RowKit Go.Shelf Go.Maps Go.Sort
open Go.WideMaps (KeyLaw)
theorem pairLaid : laidOutB Tryz.prog = true := by kernel_rfl
theorem rR : (73 : TypeId) < Tryz.prog.types.size := of_decide_eq_true (by kernel_rfl)
theorem nO : KeyLaw Tryz.prog 73 := deep_law_laid pairLaid (m := 2) (by omega) rR (by kernel_rfl) (by kernel_rfl)
theorem dE : Keyed Tryz.prog 73 := Keyed.of_law nO
def kpL (p : Int × Int) : Lit := .string (keyBytes [.int .i64 p.1, .int .i64 p.2])
theorem dF : Tryz.prog.cellsOf 73 = 2 := by kernel_rfl
theorem mH : Tryz.prog.cellsOf 3 = 1 := by kernel_rfl
theorem pF : Tryz.prog.keyType 73 = true := by kernel_rfl
theorem sW {m : Nat} {u : Value} {ls : List Lit} (h : Tryz.prog.keyLits (m + 1) 3 [u] = some ls) : ∃ a, u = .int .i64 a := by
 cases u <;> simp [Program.keyLits, Tryz.underlying3] at h
 exact ⟨_, by rw [h.1.1]⟩
theorem sU : ∃ m, Tryz.prog.types.size = m + 1 := by
 obtain ⟨k, hk⟩ := Nat.exists_eq_add_of_lt rR
 exact ⟨_, hk⟩
theorem rV {a b : Int} (ha : (Lit.int .i64 a).wf = true) (hb : (Lit.int .i64 b).wf = true) : keyOf Tryz.prog 73 (.agg #[.int .i64 a, .int .i64 b]) = some (kpL (a, b)) := by
 obtain ⟨m, hm⟩ := sU
 have hf : (Value.agg #[.int .i64 a, .int .i64 b]).formed Tryz.prog 73 = true := by simp [Value.formed, Tryz.underlying73, dF]
 have hl : Tryz.prog.keyLits (Tryz.prog.types.size + 1) 73 [.int .i64 a, .int .i64 b] = some [.int .i64 a, .int .i64 b] := by
  rw [hm]
  simp [Program.keyLits, Tryz.underlying73, Tryz.underlying3, dF, mH, ha, hb]
 simp only [keyOf, Tryz.underlying73, pF, hf, Value.cells, Bool.and_self, if_true]
 rw [hl]
 rfl
theorem keyPair_inv {v : Value} {kl : Lit} (h : keyOf Tryz.prog 73 v = some kl) : ∃ p : Int × Int, v = .agg #[.int .i64 p.1, .int .i64 p.2] := by
 obtain ⟨m, hm⟩ := sU
 simp only [keyOf, Tryz.underlying73, pF, Bool.true_and] at h
 split at h
 case isFalse => cases h
 rename_i hf
 obtain ⟨xs, rfl, hx⟩ : ∃ xs : Array Value, v = .agg xs ∧ xs.size = 2 := by
  cases v <;> simp [Value.formed, Tryz.underlying73, dF] at hf
  exact ⟨_, rfl, hf⟩
 obtain ⟨u, z, rfl⟩ : ∃ u z, xs = #[u, z] := by
  refine ⟨xs[0], xs[1], ?_⟩
  apply Array.ext
  ·simpa using hx
  ·intro i h1 h2
   match i, h2 with
   | 0, _ => rfl
   | 1, _ => rfl
 rw [hm] at h
 obtain ⟨ls, hls, _⟩ := Option.map_eq_some_iff.1 h
 simp only [Value.cells] at hls
 unfold Program.keyLits at hls
 simp only [Tryz.underlying73, dF] at hls
 split at hls
 case isFalse => cases hls
 obtain ⟨ls2, hls2, _⟩ := Option.map_eq_some_iff.1 hls
 simp [mH, Option.bind_eq_some_iff] at hls2
 obtain ⟨l1, h1, l2, ⟨l3, h2, _⟩, _⟩ := hls2
 obtain ⟨a, rfl⟩ := sW h1
 obtain ⟨b, rfl⟩ := sW h2
 exact ⟨(a, b), rfl⟩
theorem wfP (n : Fin 65536) : (Lit.int .i64 (n.val : Int)).wf = true := by
 have := n.isLt
 simp only [Lit.wf, IntKind.min, IntKind.max, IntKind.signed, IntKind.bits, Bool.and_eq_true, decide_eq_true_eq, if_true]
 omega
def kp (x : P2) : Lit := kpL ((x.1.val : Int), (x.2.val : Int))
theorem qT (x : P2) : keyOf Tryz.prog 73 (.agg #[.int .i64 (x.1.val : Int), .int .i64 (x.2.val : Int)]) = some (kp x) := rV (wfP _) (wfP _)
theorem tG {p : Int × Int} {x : P2} (h : Value.agg #[.int .i64 p.1, .int .i64 p.2] = .agg #[.int .i64 (x.1.val : Int), .int .i64 (x.2.val : Int)]) : p = ((x.1.val : Int), (x.2.val : Int)) := by
 simp at h
 exact Prod.ext h.1 h.2
theorem qS {x y : P2} (h : kp x = kp y) : x = y := by
 have := tG (p := ((x.1.val : Int), (x.2.val : Int))) (dE.inj (qT x) (h ▸ qT y))
 simp only [Prod.mk.injEq] at this
 exact Prod.ext (Fin.ext (by omega)) (Fin.ext (by omega))
def KeysP (D0 : DataW Unit) (ss : List P2) : Prop := ss.Nodup ∧ (∀ x ∈ ss, has D0 (kp x) = true) ∧ ∀ kl, has D0 kl = true → ∃ x ∈ ss, kl = kp x
def CollP (D0 : DataW Unit) (left : Lit → Bool) (ss : List P2) : Prop := ss.Nodup ∧ (∀ x ∈ ss, has D0 (kp x) = true ∧ left (kp x) = false) ∧ ∀ kl, has D0 kl = true → left kl = false → ∃ x ∈ ss, kl = kp x
theorem CollP.start (D0 : DataW Unit) : CollP D0 (has D0) [] := ⟨List.nodup_nil, fun x h => (by cases h), fun kl h1 h2 => (by rw [h1] at h2; cases h2)⟩
theorem rK {x y : P2} : (kp x).sameKey (kp y) = decide (x = y) := by
 unfold Lit.sameKey
 by_cases h : x = y
 ·subst h; simp [kp, kpL]
 ·have h2 : kp x ≠ kp y := fun e => h (qS e)
  rw [decide_eq_false h]
  unfold kp kpL at h2 ⊢
  simpa using h2
theorem CollP.step {D0 : DataW Unit} {left : Lit → Bool} {ss : List P2} (h : CollP D0 left ss) (hsm : ∀ kl, has D0 kl = true → ∃ x, kl = kp x) {x : P2} (hlk : left (kp x) = true) (hx : has D0 (kp x) = true) : CollP D0 (fun z => left z && !z.sameKey (kp x)) (ss ++ [x]) := by
 obtain ⟨h1, h2, h3⟩ := h
 have hnew : x ∉ ss := fun hm => by have := (h2 x hm).2; rw [hlk] at this; cases this
 refine ⟨List.nodup_append.2 ⟨h1, by simp, fun a ha b hb => by simp at hb; subst hb; exact fun e => hnew (e ▸ ha)⟩, fun y hy => ?_, fun kl hk hl => ?_⟩
 ·rcases List.mem_append.1 hy with hy | hy
  ·exact ⟨(h2 y hy).1, by simp [(h2 y hy).2]⟩
  ·have : y = x := by simpa using hy
   subst this
   refine ⟨hx, ?_⟩
   show (left (kp y) && !(kp y).sameKey (kp y)) = false
   rw [rK]; simp
 ·obtain ⟨y, rfl⟩ := hsm kl hk
  replace hl : (left (kp y) && !(kp y).sameKey (kp x)) = false := hl
  rw [rK] at hl
  by_cases e : y = x
  ·exact ⟨y, by simp [e], rfl⟩
  ·simp [e] at hl
   obtain ⟨z, hz, ez⟩ := h3 _ hk hl
   exact ⟨z, by simp [hz], ez⟩
theorem CollP.done {D0 : DataW Unit} {left : Lit → Bool} {ss : List P2} (h : CollP D0 left ss) (hl : ∀ kl, left kl = false) : KeysP D0 ss := ⟨h.1, fun x hx => (h.2.1 x hx).1, fun kl hk => h.2.2 kl hk (hl kl)⟩
set_option maxRecDepth 100000 in
set_option maxHeartbeats 1000000 in
theorem keys1_p (F : Fence) (hF : ∀ f, F.fn f) (n : Nat) (hro : F.round = none) (hn : 1 ≤ n) (l Bm of b nn : Nat) (D0 : DataW Unit) (hsm : ∀ kl, has D0 kl = true → ∃ x, kl = kp x) (J Jx : List P2 → World → Prop)
  (hY : ∀ pre (x : P2) W, J pre W → pre.length < Maps.size D0 → YieldAt F (n - 1) Tryz.prog l #[.agg #[.int .i64 (x.1.val : Int), .int .i64 (x.2.val : Int)]] W fun e W' =>
   (e = .returned (.bool true) ∧ J (pre ++ [x]) W' ∧ KeepsWalks W W') ∨ (e = .returned (.bool false) ∧ Jx (pre ++ [x]) W'))
  (W : World) (hJ : AbidesFrom W.heap.size J) (hm : W.cell? ⟨Bm, of, none⟩ = some (.map (some b))) (hown : W.ownsMap Tryz.prog 73 (plainElem Tryz.prog 3) b nn D0) (h0 : J [] W) :
  CallsIn F n Tryz.prog 96 #[.func (.yield l) #[] #[], .pointer (some ⟨Bm, of, none⟩)] W fun e W' => (∃ v, e = .returned v) ∧
   ((∃ ss : List P2, KeysP D0 ss ∧ J ss W') ∨ (∃ pre : List P2, True ∧ Jx pre W')) := by
 refine callsIn_of_wp Tryz.func96 rfl (hF _) ?_ hro
 simp only [Tryz.ntmps96, List.size_toArray, List.length_cons, List.length_nil, Nat.reduceAdd, Nat.reduceSub, Array.replicate_succ, Array.replicate_zero, List.push_toArray, List.append_toArray, List.nil_append, List.cons_append]
 gi_wp2_with (first
  | (gi_at_range; refine wpListIn_range_own _ rfl _ 92 rfl 73 3 dE Tryz.underlying92 _ b nn _ rfl hown ?_; intro w0 hrg0 hg0 hs0)
  | gi_in)
 go_frame
 gi_loopw [3] (fun _ wr => ∃ (left : Lit → Bool) (cnt : Nat) (ss : List P2), wr.ranges Tryz.prog 73 (plainElem Tryz.prog 3) b W.heap.size nn D0 left cnt ∧ ss.length + cnt ≤ Maps.size D0 ∧ CollP D0 left ss ∧ J ss wr)
  (fun _ wr => wr.rangeLeft b W.heap.size)
 case atStart =>
  exact ⟨_, _, [], hrg0, by simp, CollP.start D0, hJ [] W w0 none h0 hg0 (fun r e => by cases e)⟩
 case round =>
  obtain ⟨left, cnt, ss, hrg, hcs, hC, hJs⟩ := hrel
  gi_wp2_with (first
   | (gi_at_next; refine wpListIn_next_ranges _ rfl _ rfl 73 dE _ (fun p : Int × Int => Value.agg #[.int .i64 p.1, .int .i64 p.2]) (fun c : Int => Value.int .i64 c) (fun _ _ h => keyPair_inv h) (fun v y h => by obtain ⟨a, ha, _⟩ := plainElem_int_inv Tryz.underlying3 h; exact ⟨a, ha⟩) b W.heap.size nn _ _ _ rfl hrg ?_ ?_)
   | gi_in)
  ·intro hc0 hl0
   gi_wp2
   go_end0
   exact ⟨⟨_, rfl⟩, .inl ⟨ss, hC.done hl0, hJs⟩⟩
  ·intro xa xb c kl y1 y2 w2 cnt2 hkey hlk hRv hat hrg2 hlt hg2 hs2 hen
   have hhas : has D0 kl = true := has_true_of_atKey hat
   obtain ⟨x, rfl⟩ := hsm kl hhas
   have ex := tG (p := (xa, xb)) (dE.inj hkey (qT x))
   simp only [Prod.mk.injEq] at ex
   obtain ⟨rfl, rfl⟩ := ex
   have hJ2 : J ss w2 := hJ ss wr w2 (some W.heap.size) hJs hg2 (fun r e => by cases e; exact ⟨Nat.le_refl _, hrg.iter_walk⟩)
   have hJ2' := hJ ss w2 (w2.alloc (.cells #[.int .i64 (x.1.val : Int), .int .i64 (x.2.val : Int)] 73)) none hJ2 (World.grownBy_alloc _ _ none) (fun r e => by cases e)
   obtain ⟨fn, tmps, assign, body, hy, hR⟩ := hY ss x _ hJ2' (by omega)
   clear hs2
   gi_wp2
   refine hR.mono ?_
   rintro e W3 (⟨rfl, hJ3, hk3⟩ | ⟨rfl, hJx3⟩)
   ·gi_wp2
    have hrg3 := (hrg2.alloc _).of_walks hk3
    go_roundw
    case rel => exact ⟨_, cnt2, ss ++ [x], hrg3, by simp; omega, hC.step hsm hlk hhas, hJ3⟩
    case measure => rw [hrg3.left_eq, hrg.left_eq]; exact hlt
   ·gi_wp2
    refine bodyPost_ret (results_none rfl _ _ _) rfl ?_
    exact ⟨⟨_, rfl⟩, .inr ⟨_, trivial, hJx3⟩⟩
theorem keysP_stops (F : Fence) (hF : ∀ f, F.fn f) (n : Nat) (hro : F.round = none) (hn : 1 ≤ n) (Bm of b nn : Nat) (D0 : DataW Unit) (hsm : ∀ kl, has D0 kl = true → ∃ x, kl = kp x) (w : World) (hBm : Bm < w.heap.size)
  (hm : w.cell? ⟨Bm, of, none⟩ = some (.map (some b))) (hown : w.ownsMap Tryz.prog 73 (plainElem Tryz.prog 3) b nn D0) :
  SeqStopsK F n Tryz.prog 96 #[.pointer (some ⟨Bm, of, none⟩)] (fun x : P2 => #[.agg #[.int .i64 (x.1.val : Int), .int .i64 (x.2.val : Int)]]) KeepsWalks (KeysP D0) (fun _ => True) (Maps.size D0) w := fun l J Jx W hW hJ hJx hY h0 => by
 have hown' : W.ownsMap Tryz.prog 73 (plainElem Tryz.prog 3) b nn D0 := by
  have hbl := hown.lt
  obtain ⟨es, clock, hb, Ft, hs, hD⟩ := hown
  exact ⟨es, clock, (hW.block b hbl).trans hb, Ft, hs, hD⟩
 exact keys1_p F hF n hro hn l Bm of b nn D0 hsm J Jx hY W hJ ((hW.cell (p := ⟨Bm, of, none⟩) hBm).trans hm) hown' h0
set_option maxHeartbeats 1000000 in
theorem cmpA_c (x y : P2) (W : World) : Calls Tryz.prog 68 #[aggP x, aggP y] W fun e w' => e = .returned (.int .i64 (cmpP x y)) ∧ ∃ q os', w' = grow (W.drewN q) os' := by
 obtain ⟨⟨a, ha⟩, ⟨b, hb⟩⟩ := x
 obtain ⟨⟨c, hc⟩, ⟨d, hd⟩⟩ := y
 unfold aggP cmpP
 dsimp only
 by_cases h : a = c
 ·rw [if_pos h]
  subst h
  have h1 : ((a : Int) != (a : Int)) = false := by simp
  go_enter Tryz.func68, Tryz.ntmps68
  go_wp2
  go_ret
  exact ⟨rfl, 0, _, by rw [alloc_eq_grow, alloc_eq_grow, grow_grow]; rfl⟩
 ·rw [if_neg h]
  have h1 : ((a : Int) != (c : Int)) = true := by simp; omega
  have h2 : (a != c) = true := by simpa using h
  clear h
  go_enter Tryz.func68, Tryz.ntmps68
  go_wp2
  go_ret
  exact ⟨rfl, 0, _, by rw [alloc_eq_grow, alloc_eq_grow, grow_grow]; rfl⟩
theorem cmpLaysA (blk off size : Nat) (w : World) : CmpLays Tryz.prog 68 #[] encP 2 cmpP blk off size w :=
 fun _ _ _ _ x y => cmpA_c x y _
theorem sortPairsA_c (blk off cap : Nat) (d : Array P2) (w : World) (hH : HoldsK encP 2 w blk off d) (hblk : blk < w.heap.size) (hsz : d.size < 4611686018427387904) :
  Calls Tryz.prog 95 #[.slice (some ⟨blk, off, none⟩) d.size cap, .func (.func 68) #[] #[]] w fun e w' => e = .returned (.tuple #[]) ∧ ∃ d' n os, PermIn 0 d.size d d' ∧ SortedIn ltP 0 d.size d' ∧ w' = sortWorldK encP 2 w blk off n d' os := by
 have h := AnyQ.slices_SortFunc Tryz.sortPairs 2 Tryz.isAgg73 Tryz.sizeOf73 encP (fun _ => rfl) (fun x v hv => by simp [encP] at hv; rcases hv with rfl | rfl <;> rfl) cmpP swoP 68 #[] blk off cap d w (enters_of Tryz.func68 (by kernel_rfl) rfl) (cmpLaysA blk off d.size w) hH hblk hsz
 refine Calls.mono h ?_
 rintro e w' ⟨he, d', n, os, hp, hs, hw⟩
 exact ⟨he, d', n, os, hp, fun i j h1 h2 h3 => by rw [← zF]; exact hs i j h1 h2 h3, hw⟩
set_option maxRecDepth 100000 in
set_option maxHeartbeats 2000000 in
theorem sortedFuncA_p (n : Nat) (hn : 4 ≤ n) (g : Nat) (lb : Array Value) (eg : ∀ args w, (callFunc g args).run Tryz.prog w = .ok (.enter g args) w)
  (Kp : World → World → Prop) (S Sp : List P2 → Prop) (N : Nat) (hN : N ≤ 4294967296) (w : World)
  (hKt : ∀ {A B C : World}, Kp A B → Kp B C → Kp A C) (hKb : ∀ (W : World) (l : Nat) (o o' : Obj), w.heap.size ≤ l → W.heap[l]? = some o → o.isCells = false → o.isWalk = false → Kp W (W.putObj l o'))
  (hKo : ∀ W W', KeepsOthers W W' → Below w.heap.size W W' → Kp W W')
  (hseq : SeqStopsK Fence.wide (n - 1 - 1 - 1) Tryz.prog g lb (fun x : P2 => #[.agg #[.int .i64 (x.1.val : Int), .int .i64 (x.2.val : Int)]]) Kp S Sp N w) :
  CallsIn Fence.wide n Tryz.prog 66 #[.func (.func g) #[] lb, .func (.func 68) #[] #[]] w fun e w' => ∃ (v : Value) (ss : List P2), e = .returned v ∧ S ss ∧ ss.length ≤ N ∧
   w'.ownsRow w.heap.size 73 2 v (sortP ss).length (flatP (sortP ss)) ∧ Below w.heap.size w w' := by
 have h1 : 1 ≤ n := by omega
 have hF : ∀ f, Fence.wide.fn f := fun _ => trivial
 have hro : Fence.wide.round = none := rfl
 refine callsIn_of_wp Tryz.func66 rfl (hF _) ?_ hro
 simp only [Tryz.ntmps66, List.size_toArray, List.length_cons, List.length_nil, Nat.reduceAdd, Nat.reduceSub, Array.replicate_succ, Array.replicate_zero, List.push_toArray, List.append_toArray, List.nil_append, List.cons_append]
 gi_wp2_with (gi_at_call 94; refine (collect_p Fence.wide (fun _ => trivial) (n - 1) rfl (by omega) g lb eg Kp S Sp N hN _ hKt hKb hKo hseq).mono ?_; rintro e W ⟨v, ss, rfl, hS, hlen, hrow, hnil, hb⟩)
 rcases hrow.2 with ⟨rfl, hz⟩ | ⟨gb, cap, cur, rfl, hbase, hgb, r1, r2, r3, r4⟩
 ·have hss : ss = [] := List.eq_nil_of_length_eq_zero hz
  subst hss
  have cS := (callsIn_wide (n := n - 1)).2 (bY none 0 (.func (.func 68) #[] #[]) W)
  gi_wp2_with (gi_at_call 95; refine cS.mono ?_; rintro e w' ⟨rfl, rfl⟩)
  go_ret
  have e0 : sortP [] = [] := by simp [sortP]
  exact ⟨_, [], rfl, hS, by simp, by rw [e0]; exact World.ownsRow_nil _ _ _ _, hb⟩
 ·have hF : (flatK encP 2 ss.toArray).size = ss.length * 2 := by simp
  have hH : HoldsK encP 2 W gb 0 ss.toArray := bP hgb (by rw [hF, yX]; exact r4)
  have hgl : gb < W.heap.size := (Array.getElem?_eq_some_iff.1 hgb).1
  have cS := (callsIn_wide (n := n - 1)).2 (sortPairsA_c gb 0 cap ss.toArray W hH hgl (by simp; omega))
  rw [List.size_toArray] at cS
  gi_wp2_with (gi_at_call 95; refine cS.mono ?_; rintro e w' ⟨rfl, d', nn, os, hp, hs, rfl⟩)
  go_ret
  have hd : d'.size = ss.length := by have := hp.1; simpa using this
  have hsort : d'.toList = sortP ss := eZ ss.toArray d' (by simpa using hp) (by simpa using hs)
  have hF2 : (flatK encP 2 d').size = ss.length * 2 := by simp [hd]
  have hrow2 := ownsRow_sortedV (n := nn) (os := os) hF2 hbase hgb r1 r2 r3
  have e3 : (flatK encP 2 d').toList = flatP (sortP ss) := by rw [← hsort, ← yX]
  have e4 : ss.length = (sortP ss).length := by rw [← hsort]; simp [hd]
  rw [e3] at hrow2
  have hrow3 : (sortWorldK encP 2 W gb 0 nn d' os).ownsRow w.heap.size 73 2 (.slice (some ⟨gb, 0, none⟩) ss.length cap) (sortP ss).length (flatP (sortP ss)) := by rw [← e4]; exact hrow2
  exact ⟨_, ss, rfl, hS, hlen, hrow3, hb.grown (bQ _) hb.size (fun j hj => by cases hj; exact hbase)⟩
open Go.RowKit Go.Maps Go.ChangeMaps
def mapY (P : Program) (k e : TypeId) (g : Gh) (b : Nat) (Jm : Nat → Nat → DataW Unit → Prop) : YJ where
 g := g
 J i w := ∃ nn D, Jm i nn D ∧ w.ownsMap P k (plainElem P e) b nn D
 D x := x = b
 st i w w' := fun ⟨nn, D, h1, es, clock, hb, r⟩ h => ⟨nn, D, h1, es, clock, (h b rfl).trans hb, r⟩
 nc i w x := fun ⟨nn, D, _, es, clock, hb, _⟩ hx => ⟨.map es clock, by rw [show x = b from hx]; exact hb, rfl⟩
def objY (g : Gh) (b : Nat) (o : Obj) (ho : o.isCells = false) : YJ where
 g := g
 J _ w := w.heap[b]? = some o
 D x := x = b
 st i w w' := fun h h' => (h' b rfl).trans h
 nc i w x := fun h hx => ⟨o, by rw [show x = b from hx]; exact h, ho⟩
section
variable {P : Program} {v j : Nat} {tm : Tm} {σ : Store} {dst : Option Tmp} {ty : TypeId} {pos : String} {af : Array Edge} {gd : Option (Nat × Bool)}
def OpKJ (P : Program) (v j : Nat) (o : Oper) (tm : Tm) (σ : Store) (Jw : World → Prop) (K : OV → Store → Prop) : Prop :=
 ∀ (Γ : Ctx) (G : Gh) (ρ : Operand → Value) (w : World), Γ.N ≤ v → (∀ k, G.μ k (v, j) = none) → (∀ x ∈ o.op.operands, ∀ y, ev tm x = some y → RepO G y (ρ x)) → WRel Γ G σ w → Jw w →
  NextK P Γ G v j K ((execOp ρ o).run P w)
theorem OpKJ.ok {o : Oper} {Jw : World → Prop} {K : OV → Store → Prop} (hJw : ∀ (n : Nat) (C : Cx) (G : Gh) (a : Act) (w : World), SRel n C G tm σ a w → Jw w) (h : OpKJ P v j o tm σ Jw K) : OpOk P v j o tm σ K := fun n C G a w ro next Q hd hro hN hfr hs hk => by
 have hst := hs.w.startW (σ0 := σ) (fun _ _ e => e) C.Γ.N
 have h1 := h ⟨w, Blks G σ, G, C.Γ.N⟩ G a.eval w hN hfr (fun x _ y hy => bC hs.tm hy) hst (hJw n C G a w hs)
 have lv : ∀ x w', LeavesK ⟨w, Blks G σ, G, C.Γ.N⟩ G v j K x w' → next (a.put o.dst x) w' := fun x w' ⟨G', r, σ', g1, g2, g3, g4, g5⟩ => by
  refine hk C G' (tm.putO o.dst r) σ' _ w' (.refl C) g1 g2 ⟨by rw [Act.put_size, hs.size], by rw [Act.put_defers, hs.defers], (hs.tm.mono g1).put g3 o.dst (by rw [hs.size]; exact fun d e => (hd d e).1), hs.w.backX (fun _ _ e => e) g4 (Nat.le_refl _) (fun k τ r hr => Or.inr hr), fun b ob hb => ?_, hs.marks, fun i Y hi => ?_⟩ ⟨r, rfl, g5⟩
  ·obtain ⟨e1, e2⟩ := hs.fix b ob hb
   exact ⟨(g4.keep b (Array.getElem?_eq_some_iff.1 e1).1 (hs.fix.not_own hs.w hb)).trans e1, e2⟩
  ·obtain ⟨hJ, hJg, hJf⟩ := hs.gh i Y ((yB hd r).symm.trans hi)
   refine ⟨Y.st i w w' hJ fun b hb => ?_, hJg.trans g1, hJf⟩
   obtain ⟨ob, e1, e2⟩ := Y.nc i w b hJ hb
   refine g4.keep b (Array.getElem?_eq_some_iff.1 e1).1 fun ⟨k, τ, r', β, f1, f2, f3⟩ => ?_
   obtain ⟨cs, f4, _⟩ := hs.w.blk f1 f2
   rw [f3, e1] at f4
   cases f4; cases e2
 have hsem : o.semAt ro a.eval = execOp a.eval o := by
  refine Oper.semAt_eq ro a.eval o fun c hc => ?_
  have e : execOp a.eval o = (do pure (.defer (← resolve a.eval c o.type)) : Sem Next) := by
   simp only [execOp, hc]
  rw [e] at h1
  simp only [Sem.run_bind] at h1
  cases hr : (resolve a.eval c o.type).run P w with
  | ok d w' => rw [hr] at h1; simp [NextK] at h1
  | halt x w' => rw [hr] at h1; simp [NextK] at h1
 unfold Oper.wpIn
 refine ⟨fun _ _ => trivial, ?_⟩
 rw [show (wideR ro).round = ro from rfl, hsem]
 generalize (execOp a.eval o).run P w = r at *
 cases r with
 | ok nx w' =>
  cases nx <;> simp only [NextK] at h1 <;> simp only [Oper.uponIn]
  case value x => exact lv _ _ h1
  case skip => exact lv _ _ h1
  case enter f args =>
   refine ⟨fun e => (by cases e), ?_⟩
   exact (show CallsIn (wideR ro) (0 - 1) P f args w' _ from callsIn_wide.2 (h1.mono fun e w'' ⟨x, h2, h3⟩ => by subst h2; exact lv _ _ h3))
 | halt x w' => simp only [NextK] at h1
theorem uAR {i : Nat} {Y : YJ} (hg : tm GS = some (.gh i Y)) (n : Nat) (C : Cx) (G : Gh) (a : Act) (w : World) (hs : SRel n C G tm σ a w) : Y.J i w := (hs.gh i Y hg).1
theorem rJ {o : Oper} {K : Tm → Store → Prop} {i : Nat} {Y : YJ} {b : Nat} (hdf : ∀ c, o.op ≠ .defer c) (hg : tm GS = some (.gh i Y)) (hD : ∀ x, Y.D x ↔ x = b)
  (h : ∀ (G : Gh) (ρ : Operand → Value) (w : World), (∀ x ∈ o.op.operands, ∀ y, ev tm x = some y → RepO G y (ρ x)) → Y.J i w →
   ∃ x r ob i' Y', ((execOp ρ o).run P w = .ok (.value x) (w.putObj b ob) ∨ ((execOp ρ o).run P w = .ok .skip (w.putObj b ob) ∧ x = undef)) ∧ RepO G r x ∧ Y'.J i' (w.putObj b ob) ∧ Y'.g = Y.g ∧ (∀ x, Y'.D x ↔ x = b) ∧ K ((tm.putO o.dst r).put GS (.gh i' Y')) σ) : OpT P v j o tm σ K := fun n C G a w ro next Q hd hro hN hfr hs hk => by
 obtain ⟨hJ, hJg, hJf1, hJf2⟩ := hs.gh i Y hg
 obtain ⟨x, r, ob, i', Y', h1, h2, h3, h4, h5, h6⟩ := h G a.eval w (fun x _ y hy => bC hs.tm hy) hJ
 have hbD : Y.D b := (hD b).2 rfl
 obtain ⟨o0, e1, e2⟩ := Y.nc i w b hJ hbD
 have hS : C.Γ.w0.heap.size ≤ b ∨ C.Γ.S b := C.dok b (hJf2 b hbD)
 have nx : next (a.put o.dst x) (w.putObj b ob) := by
  refine hk C G _ σ _ _ (.refl C) (.refl G) (fun _ _ _ _ _ => rfl) ⟨by rw [Act.put_size, hs.size], by rw [Act.put_defers, hs.defers], fun t y ht => ?_, hs.w.putNon e1 e2 hS, fun b' ob' hb' => ?_, hs.marks, fun i2 Y2 hi => ?_⟩ h6
  ·by_cases hn' : t = GS
   ·subst hn'
    rw [Tm.put_self] at ht
    exact Or.inl ⟨_, _, (Option.some.inj ht).symm⟩
   ·rw [Tm.put_ne _ _ hn'] at ht
    exact (hs.tm.mono (.refl G)).put h2 o.dst (by rw [hs.size]; exact fun d e => (hd d e).1) t y ht
  ·obtain ⟨q1, q2⟩ := hs.fix b' ob' hb'
   exact ⟨(World.putObj_heap_other fun e => hJf1 b' ob' hb' (by rw [e]; exact hbD)).trans q1, q2⟩
  ·rw [Tm.put_self] at hi
   cases hi
   exact ⟨h3, by rw [h4]; exact hJg, fun b' ob' hb' hD' => hJf1 b' ob' hb' ((hD b').2 ((h5 b').1 hD')), fun b' hb' => hJf2 b' ((hD b').2 ((h5 b').1 hb'))⟩
 unfold Oper.wpIn
 refine ⟨fun _ _ => trivial, ?_⟩
 rw [show (wideR ro).round = ro from rfl, Oper.semAt_eq ro a.eval o fun c hc => (hdf c hc).elim]
 rcases h1 with h1 | ⟨h1, rfl⟩
 ·rw [h1]; exact nx
 ·rw [h1]; exact nx
theorem makeMap_ok {T k e : TypeId} {Jm : Nat → Nat → DataW Unit → Prop} {K : Tm → Store → Prop} (h0 : Jm 0 0 (.map [])) (hK : ∀ g b, K ((tm.putO dst (.d (.c (.map (some b))))).put GS (.gh 0 (mapY P k e g b Jm))) σ) :
  OpT P v j ⟨dst, .makeMap T none, ty, pos, af, gd⟩ tm σ K := fun n C G a w ro next Q hd hro hN hfr hs hk => by
 have old : ∀ b, b < w.heap.size → (w.alloc (.map #[] 0)).heap[b]? = w.heap[b]? := fun b hb => by
  show (w.heap.push _)[b]? = _
  rw [Array.getElem?_push_lt hb, Array.getElem?_eq_getElem hb]
 unfold Oper.wpIn
 refine ⟨fun _ _ => trivial, ?_⟩
 rw [show (wideR ro).round = ro from rfl, Oper.semAt_eq ro a.eval _ (fun c hc => by cases hc)]
 have hrun : (execOp a.eval ⟨dst, .makeMap T none, ty, pos, af, gd⟩).run P w = .ok (.value (.map (some w.heap.size))) (w.alloc (.map #[] 0)) := by
  simp [execOp, run_makeMap, Result.andThen]
 rw [hrun]
 have hsz : C.Γ.w0.heap.size ≤ w.heap.size := hs.w.size
 refine hk ⟨C.Γ, C.fix, C.defs, C.ro, C.base, fun b => C.dD b ∨ b = w.heap.size, fun b hb => hb.elim (C.dok b) fun e => Or.inl (by rw [e]; exact hsz), C.bok⟩ G _ σ _ _ ⟨rfl, rfl, rfl, fun b h => Or.inl h, fun _ _ h => h⟩ (.refl G) (fun _ _ _ _ _ => rfl)
  ⟨by rw [Act.put_size, hs.size], by rw [Act.put_defers, hs.defers], fun t y ht => ?_, hs.w.allocNon _, fun b' ob' hb' => ?_, hs.marks, fun i2 Y2 hi => ?_⟩ (hK G w.heap.size)
 ·by_cases hn' : t = GS
  ·subst hn'
   rw [Tm.put_self] at ht
   exact Or.inl ⟨_, _, (Option.some.inj ht).symm⟩
  ·rw [Tm.put_ne _ _ hn'] at ht
   exact (hs.tm.mono (.refl G)).put (by rw [RepO, Rep]; exact ⟨rfl, rfl⟩) dst (by rw [hs.size]; exact fun d e => (hd d e).1) t y ht
 ·obtain ⟨q1, q2⟩ := hs.fix b' ob' hb'
  exact ⟨(old b' (Array.getElem?_eq_some_iff.1 q1).1).trans q1, q2⟩
 ·rw [Tm.put_self] at hi
  cases hi
  refine ⟨(show ∃ nn D, Jm 0 nn D ∧ World.ownsMap _ P k (plainElem P e) _ nn D from ⟨0, _, h0, World.ownsMap_made w P k _⟩), (show G.le G from .refl G), fun b' ob' hb' hD' => ?_, fun b' hb' => Or.inr (show b' = w.heap.size from hb')⟩
  have := (Array.getElem?_eq_some_iff.1 (hs.fix b' ob' hb').1).1
  have h9 : b' = w.heap.size := hD'
  omega
def IsKeyV (P : Program) (k : TypeId) (y : OV) (kl : Lit) : Prop := ∀ (G : Gh) (u : Value), RepO G y u → keyOf P k u = some kl
def FnM (P : Program) (f : FuncId) (args : List OV) (Jw : World → Prop) (R : OV → Store → Prop) : Prop :=
 Enters P f ∧ ∀ (G : Gh) (w : World) (vs : List Value) (N : Nat), Jw w → RepOL G args vs → WRel ⟨w, fun _ => False, G, N⟩ G Store.nil w →
  Calls P f vs.toArray w (fun e w' => ∃ x G' r σ', e = .returned x ∧ R r σ' ∧ G.le G' ∧ RepO G' r x ∧ WRel ⟨w, fun _ => False, G, N⟩ G' σ' w')
theorem callM_ok {x : Operand} {xs : List Operand} {tys : Array TypeId} {y : OV} {f : FuncId} {fi ca ys : List OV} {R K : OV → Store → Prop} {i : Nat} {Y : YJ} (hx : ev tm x = some y) (hf : IsFn y f fi ca) (ha : evs tm xs = some ys) (hg : tm GS = some (.gh i Y)) (hc : FnM P f (fi ++ ys ++ ca) (Y.J i) R)
  (hk : ∀ r σ', R r σ' → K r σ) : OpOk P v j ⟨dst, .call { callee := .value x, args := xs.toArray, argTypes := tys }, ty, pos, af, gd⟩ tm σ K := OpKJ.ok (Jw := Y.J i) (uAR hg) fun Γ G ρ w hv _ hρ hw hJ => by
 obtain ⟨vs, us, h1, h2, h3⟩ := hf.rep (hρ x (by simp [Op.operands, Call.operands]) y hx)
 have h4 := zY ha fun z hz => hρ z (by simp [Op.operands, Call.operands, hz])
 have h5 := hc.2 G w (vs.toList ++ xs.map ρ ++ us.toList) (v + 1) hJ ((h2.append h4).append h3) (hw.start (v + 1))
 have e : (vs.toList ++ xs.map ρ ++ us.toList).toArray = vs ++ (xs.map ρ).toArray ++ us := by simp
 rw [e] at h5
 rw [fC h1 hc.1]
 refine h5.mono fun e w' ⟨x, G', r, σ', h3, h4, h5, h6, h7⟩ => ⟨x, h3, G', r, σ, h5, fun k v' i hv' _ => h7.low k v' i (Nat.lt_succ_of_le hv'), h6, hw.back h7 (Nat.le_succ_of_le hv), hk r σ' h4⟩
theorem callY_ok {x : Operand} {xs : List Operand} {tys : Array TypeId} {y : OV} {f : FuncId} {fi ca ys : List OV} {K : Tm → Store → Prop} {i i' : Nat} {Y : YJ} (hx : ev tm x = some y) (hf : IsFn y f fi ca) (ha : evs tm xs = some ys) (hg : tm GS = some (.gh i Y)) (hc : FnY P f (fi ++ ys ++ ca) Y i i' [] (· = []))
  (hK : K ((tm.putO dst (.gh 0 Y)).put GS (.gh i' Y)) σ) : OpT P v j ⟨dst, .call { callee := .value x, args := xs.toArray, argTypes := tys }, ty, pos, af, gd⟩ tm σ K := fun n C G a w ro next Q hd hro hN hfr hs hk => by
 obtain ⟨vs, us, h1, h2, h3⟩ := hf.rep (bC hs.tm hx)
 have h4 := zY ha fun z _ y hy => bC hs.tm hy
 obtain ⟨hJ, hJg, hJf⟩ := hs.gh i Y hg
 have hst : WRel ⟨w, YBlks Y G [], G, v + 1⟩ G (stL []) w := hs.w.startY (l0 := []) (fun k x h => by cases h) Y (v + 1)
 have h5 := hc.2 G w (vs.toList ++ xs.map a.eval ++ us.toList) (v + 1) hJg hJ ((h2.append h4).append h3) hst
 have e : (vs.toList ++ xs.map a.eval ++ us.toList).toArray = vs ++ (xs.map a.eval).toArray ++ us := by simp
 rw [e] at h5
 unfold Oper.wpIn
 refine ⟨fun _ _ => trivial, ?_⟩
 rw [show (wideR ro).round = ro from rfl, Oper.semAt_eq ro a.eval _ (fun c hc => by cases hc), fC h1 hc.1]
 simp only [Oper.uponIn]
 refine ⟨fun e => (by cases e), ?_⟩
 refine (show CallsIn (wideR ro) (0 - 1) P f _ w _ from callsIn_wide.2 (h5.mono fun e w' ⟨⟨x, hx'⟩, l1, hl1, G', σ', g1, g2, g3, g4⟩ => ?_))
 subst hx' hl1
 have hJn : ∀ k τ r β, σ k = some (τ, r) → G.μ k τ = some (some β) → ¬ Y.D β.b := fun k τ r β h1 h2 hb => by
  obtain ⟨o, e1, e2⟩ := Y.nc i w _ hJ hb
  obtain ⟨cs, f4, _⟩ := hs.w.blk h1 h2
  rw [e1] at f4
  cases f4; cases e2
 have hnr : ∀ b o, C.fix b = some o → ¬ YBlks Y G [] b := fun b o hb hB => by
  rcases hB with hB | hB
  ·obtain ⟨k, τ, r, β, e, _⟩ := hB; cases e
  ·exact hJf.1 b o hb hB
 refine hk C G' _ σ (a.put dst x) w' (.refl C) g2 (fun k v' i hv' _ => g3.low k v' i (Nat.lt_succ_of_le hv')) ⟨by rw [Act.put_size, hs.size], by rw [Act.put_defers, hs.defers], fun t y ht => ?_, hs.w.backD (σ0 := stL []) (fun k x h => by cases h) g3 (Nat.le_succ_of_le hN) (fun k τ r hr => Or.inl ⟨rfl, hr⟩) (fun b hb => C.dok b (hJf.2 b hb)) (fun k τ r β _ h1 h2 => hJn k τ r β h1 h2), fun b o hb => ?_, hs.marks, fun i2 Y2 hi => ?_⟩ hK
 ·by_cases hn' : t = GS
  ·subst hn'
   rw [Tm.put_self] at ht
   exact Or.inl ⟨_, _, (Option.some.inj ht).symm⟩
  ·rw [Tm.put_ne _ _ hn'] at ht
   exact (hs.tm.mono g2).put (by rw [RepO]; trivial) dst (by rw [hs.size]; exact fun d e => (hd d e).1) t y ht
 ·obtain ⟨e1, e2⟩ := hs.fix b o hb
  exact ⟨(g3.keep b (Array.getElem?_eq_some_iff.1 e1).1 (hnr b o hb)).trans e1, e2⟩
 ·rw [Tm.put_self] at hi
  cases hi
  exact ⟨g4, hJg.trans g2, hJf⟩
end
section
variable {P : Program} {v j : Nat} {ops : Array Oper} {Q : Tm → Store → Prop} {rest : List Oper} {tm : Tm} {σ : Store} {dst : Option Tmp} {ty : TypeId} {pos : String} {af : Array Edge}
theorem S_makeMap {T k e : TypeId} (Jm : Nat → Nat → DataW Unit → Prop) (h0 : Jm 0 0 (.map [])) (h : ∀ g b, AO P v ops Q (j + 1) rest ((tm.putO dst (.d (.c (.map (some b))))).put GS (.gh 0 (mapY P k e g b Jm))) σ) : AO P v ops Q j (⟨dst, .makeMap T none, ty, pos, af, none⟩ :: rest) tm σ :=
 uAK (makeMap_ok h0 h)
theorem S_callM {x : Operand} {xs : List Operand} {tys : Array TypeId} {y : OV} {f : FuncId} {fi ca ys : List OV} {i : Nat} {Y : YJ} {r : OV} (hx : ev tm x = some y) (hf : IsFn y f fi ca) (ha : evs tm xs = some ys) (hg : tm GS = some (.gh i Y)) (hc : FnM P f (fi ++ ys ++ ca) (Y.J i) (fun r' _ => r' = r))
  (h : AO P v ops Q (j + 1) rest (tm.putO dst r) σ) : AO P v ops Q j (⟨dst, .call { callee := .value x, args := xs.toArray, argTypes := tys }, ty, pos, af, none⟩ :: rest) tm σ := ao_ok (callM_ok hx hf ha hg hc fun r' σ' e => by rw [e]; exact h)
theorem nZ {x : Operand} {xs : List Operand} {tys : Array TypeId} {y : OV} {f : FuncId} {fi ca ys : List OV} {i i' : Nat} {Y : YJ} (hx : ev tm x = some y) (hf : IsFn y f fi ca) (ha : evs tm xs = some ys) (hg : tm GS = some (.gh i Y)) (hc : FnY P f (fi ++ ys ++ ca) Y i i' [] (· = []))
  (h : AO P v ops Q (j + 1) rest ((tm.putO dst (.gh 0 Y)).put GS (.gh i' Y)) σ) : AO P v ops Q j (⟨dst, .call { callee := .value x, args := xs.toArray, argTypes := tys }, ty, pos, af, none⟩ :: rest) tm σ := uAK (callY_ok hx hf ha hg hc h)
end
def Tm.sub (tx tm : Tm) : Prop := ∀ t y, tx t = some y → (t ≠ GS ∧ ∃ i Y, y = .gh i Y) ∨ tm t = some y
theorem SRel.sub {n : Nat} {C : Cx} {G : Gh} {tm tx : Tm} {σ : Store} {a : Act} {w : World} (hs : SRel n C G tm σ a w) (h : tx.sub tm) : SRel n C G tx σ a w :=
 ⟨hs.size, hs.defers, fun t y ht => by
  rcases h t y ht with ⟨_, i, Y, rfl⟩ | h1
  ·exact Or.inl ⟨i, Y, rfl⟩
  ·exact hs.tm t y h1, hs.w, hs.fix, hs.marks, fun i Y hi => by
  rcases h GS _ hi with ⟨h1, _⟩ | h1
  ·exact (h1 rfl).elim
  ·exact hs.gh i Y h1⟩
def anyT (P : Program) (v : Nat) (ops : Array Oper) (Q : Tm → Store → Prop) : Nat → Array Bool → Tm → Store → Prop
 | 0, listed, tm, σ => Region.ready .any ops listed = [] ∧ Q tm σ
 | fuel + 1, listed, tm, σ => (Region.ready .any ops listed = [] → Q tm σ) ∧ ∀ i ∈ Region.ready .any ops listed, ∃ o, ops[i]? = some o ∧ o.guard = none ∧ OpT P v i o tm σ (anyT P v ops Q fuel (listed.setIfInBounds i true))
theorem kT {P : Program} {v n : Nat} {ops : Array Oper} {C0 : Cx} {ro : Option Nat} {Q : Tm → Store → Prop} {Q' : Exit → Act → World → Prop} (hn : dstsLt n ops.toList = true) (hQ : ∀ C G tm σ a w, C0.le C → SRel n C G tm σ a w → Q tm σ → Q' .normal a w) :
  ∀ (fuel : Nat) (listed : Array Bool) (C : Cx) (G : Gh) (tm : Tm) (σ : Store) (a : Act) (w : World), C0.le C → C.ro = ro → C.Γ.N ≤ v → (∀ k i, listed.getD i true = false → G.μ k (v, i) = none) → SRel n C G tm σ a w → anyT P v ops Q fuel listed tm σ → wpAnyIn (wideR ro) 0 P .any ops Q' fuel listed a w
 | 0, listed, C, G, tm, σ, a, w, hC, _, _, _, hs, h => ⟨h.1, hQ C G tm σ a w hC hs h.2⟩
 | fuel + 1, listed, C, G, tm, σ, a, w, hC, hro, hN, hf, hs, h => by
  refine ⟨fun h0 => hQ C G tm σ a w hC hs (h.1 h0), fun i hi => ?_⟩
  obtain ⟨o, ho, hgd, hT⟩ := h.2 i hi
  have hun := (mem_ready.1 hi).1
  unfold wpOpIn
  rw [ho]
  have hw : Region.wanted o (yielded ops a.tmps) = true := by unfold Region.wanted; rw [hgd]
  simp only [hw, if_true]
  have hd := wE hn (o := o) (by simpa using Array.mem_of_getElem? ho)
  refine hT n C G a w ro _ Q' hd hro hN (fun k => hf k i hun) hs fun C' G' tm1 σ' a' w' g0 g1 g2 g3 g4 => ?_
  refine kT hn hQ fuel _ C' G' tm1 σ' a' w' (hC.trans g0) (g0.ro.trans hro) (by rw [g0.N]; exact hN) (fun k i' hi' => ?_) g3 g4
  by_cases e : i = i'
  ·subst e
   rcases Nat.lt_or_ge i listed.size with h' | h'
   ·simp [h'] at hi'
   ·simp [Array.getElem?_eq_none h'] at hun
  ·rw [getD_set_ne true e] at hi'
   rw [g2 k v i' (Nat.le_refl _) (fun _ => Ne.symm e)]
   exact hf k i' hi'
theorem awp_any {E : Env} {n id : Nat} {l : List Oper} {Q : Exit → Tm → Store → Prop} {tm : Tm} {σ : Store} (hn : dstsLt n l = true)
  (h : ∀ v, anyT E.P v l.toArray (fun tm σ => ∃ tx, tx.sub tm ∧ Q .normal tx σ) l.length (Array.replicate l.length false) tm σ) : awp E.P n (.region id l.toArray true) Q tm σ := fun C ro G a w hro hs => by
 obtain ⟨v, hv, hf⟩ := hs.w.free
 refine wpIn_region_any E.mixed ?_
 have := kT (Q' := Lift n C Q) (C0 := C) (ro := ro) (by simpa using hn) (fun C' G tm σ a w h0 h1 ⟨tx, h2, h3⟩ => ⟨C', G, tx, σ, h0, h1.sub h2, h3⟩) _ _ C G tm σ a { w with drawn := w.drawn + 1 } (.refl C) hro hv (fun k i _ => hf k i) ⟨hs.size, hs.defers, hs.tm, hs.w.drawn _, hs.fix, hs.marks, fun i Y hi => ⟨Y.st i _ _ (hs.gh i Y hi).1 fun _ _ => rfl, (hs.gh i Y hi).2⟩⟩ (h v)
 simpa using this
end Go.Proofs.YtnkocjkkefnelaaGreat
