/- Parts. -/
import Derived.DeepKeys4
import Derived.WideKeyArgs2
import Derived.Test.YtnkocjkkefnelaaGreatPg9
set_option linter.unusedVariables false
set_option linter.unusedSimpArgs false
set_option maxHeartbeats 4000000
namespace Go.Proofs.YtnkocjkkefnelaaGreat
open Go.RowKit Go.Shelf Go.Maps Go.Sort
open Go.WideMaps (KeyLaw)
theorem pairLaid : laidOutB Tryz.prog = true := by kernel_rfl
theorem qW : (73 : TypeId) < Tryz.prog.types.size := of_decide_eq_true (by kernel_rfl)
theorem mO : KeyLaw Tryz.prog 73 := deep_law_laid pairLaid (m := 2) (by omega) qW (by kernel_rfl) (by kernel_rfl)
theorem cE : Keyed Tryz.prog 73 := Keyed.of_law mO
def kpL (p : Int × Int) : Lit := .string (keyBytes [.int .i64 p.1, .int .i64 p.2])
theorem cF : Tryz.prog.cellsOf 73 = 2 := by kernel_rfl
theorem lJ : Tryz.prog.cellsOf 3 = 1 := by kernel_rfl
theorem oB : Tryz.prog.keyType 73 = true := by kernel_rfl
theorem rX {m : Nat} {u : Value} {ls : List Lit} (h : Tryz.prog.keyLits (m + 1) 3 [u] = some ls) : ∃ a, u = .int .i64 a := by
 cases u <;> simp [Program.keyLits, Tryz.underlying3] at h
 exact ⟨_, by rw [h.1.1]⟩
theorem rU : ∃ m, Tryz.prog.types.size = m + 1 := by
 obtain ⟨k, hk⟩ := Nat.exists_eq_add_of_lt qW
 exact ⟨_, hk⟩
theorem qZ {a b : Int} (ha : (Lit.int .i64 a).wf = true) (hb : (Lit.int .i64 b).wf = true) : keyOf Tryz.prog 73 (.agg #[.int .i64 a, .int .i64 b]) = some (kpL (a, b)) := by
 obtain ⟨m, hm⟩ := rU
 have hf : (Value.agg #[.int .i64 a, .int .i64 b]).formed Tryz.prog 73 = true := by simp [Value.formed, Tryz.underlying73, cF]
 have hl : Tryz.prog.keyLits (Tryz.prog.types.size + 1) 73 [.int .i64 a, .int .i64 b] = some [.int .i64 a, .int .i64 b] := by
  rw [hm]
  simp [Program.keyLits, Tryz.underlying73, Tryz.underlying3, cF, lJ, ha, hb]
 simp only [keyOf, Tryz.underlying73, oB, hf, Value.cells, Bool.and_self, if_true]
 rw [hl]
 rfl
theorem keyPair_inv {v : Value} {kl : Lit} (h : keyOf Tryz.prog 73 v = some kl) : ∃ p : Int × Int, v = .agg #[.int .i64 p.1, .int .i64 p.2] := by
 obtain ⟨m, hm⟩ := rU
 simp only [keyOf, Tryz.underlying73, oB, Bool.true_and] at h
 split at h
 case isFalse => cases h
 rename_i hf
 obtain ⟨xs, rfl, hx⟩ : ∃ xs : Array Value, v = .agg xs ∧ xs.size = 2 := by
  cases v <;> simp [Value.formed, Tryz.underlying73, cF] at hf
  exact ⟨_, rfl, hf⟩
 obtain ⟨u, z, rfl⟩ : ∃ u z, xs = #[u, z] := by
  refine ⟨xs[0], xs[1], ?_⟩
  apply Array.ext
  ·simpa using hx
  ·intro i h1 h2
   match i, h2 with
   | 0, _ => rfl
   | 1, _ => rfl
 rw [hm] at h
 obtain ⟨ls, hls, _⟩ := Option.map_eq_some_iff.1 h
 simp only [Value.cells] at hls
 unfold Program.keyLits at hls
 simp only [Tryz.underlying73, cF] at hls
 split at hls
 case isFalse => cases hls
 obtain ⟨ls2, hls2, _⟩ := Option.map_eq_some_iff.1 hls
 simp [lJ, Option.bind_eq_some_iff] at hls2
 obtain ⟨l1, h1, l2, ⟨l3, h2, _⟩, _⟩ := hls2
 obtain ⟨a, rfl⟩ := rX h1
 obtain ⟨b, rfl⟩ := rX h2
 exact ⟨(a, b), rfl⟩
theorem wfP (n : Fin 65536) : (Lit.int .i64 (n.val : Int)).wf = true := by
 have := n.isLt
 simp only [Lit.wf, IntKind.min, IntKind.max, IntKind.signed, IntKind.bits, Bool.and_eq_true, decide_eq_true_eq, if_true]
 omega
def kp (x : P2) : Lit := kpL ((x.1.val : Int), (x.2.val : Int))
theorem pV (x : P2) : keyOf Tryz.prog 73 (.agg #[.int .i64 (x.1.val : Int), .int .i64 (x.2.val : Int)]) = some (kp x) := qZ (wfP _) (wfP _)
theorem sI {p : Int × Int} {x : P2} (h : Value.agg #[.int .i64 p.1, .int .i64 p.2] = .agg #[.int .i64 (x.1.val : Int), .int .i64 (x.2.val : Int)]) : p = ((x.1.val : Int), (x.2.val : Int)) := by
 simp at h
 exact Prod.ext h.1 h.2
theorem pU {x y : P2} (h : kp x = kp y) : x = y := by
 have := sI (p := ((x.1.val : Int), (x.2.val : Int))) (cE.inj (pV x) (h ▸ pV y))
 simp only [Prod.mk.injEq] at this
 exact Prod.ext (Fin.ext (by omega)) (Fin.ext (by omega))
def KeysP (D0 : DataW Unit) (ss : List P2) : Prop := ss.Nodup ∧ (∀ x ∈ ss, has D0 (kp x) = true) ∧ ∀ kl, has D0 kl = true → ∃ x ∈ ss, kl = kp x
def CollP (D0 : DataW Unit) (left : Lit → Bool) (ss : List P2) : Prop := ss.Nodup ∧ (∀ x ∈ ss, has D0 (kp x) = true ∧ left (kp x) = false) ∧ ∀ kl, has D0 kl = true → left kl = false → ∃ x ∈ ss, kl = kp x
theorem CollP.start (D0 : DataW Unit) : CollP D0 (has D0) [] := ⟨List.nodup_nil, fun x h => (by cases h), fun kl h1 h2 => (by rw [h1] at h2; cases h2)⟩
theorem qQ {x y : P2} : (kp x).sameKey (kp y) = decide (x = y) := by
 unfold Lit.sameKey
 by_cases h : x = y
 ·subst h; simp [kp, kpL]
 ·have h2 : kp x ≠ kp y := fun e => h (pU e)
  rw [decide_eq_false h]
  unfold kp kpL at h2 ⊢
  simpa using h2
theorem CollP.step {D0 : DataW Unit} {left : Lit → Bool} {ss : List P2} (h : CollP D0 left ss) (hsm : ∀ kl, has D0 kl = true → ∃ x, kl = kp x) {x : P2} (hlk : left (kp x) = true) (hx : has D0 (kp x) = true) : CollP D0 (fun z => left z && !z.sameKey (kp x)) (ss ++ [x]) := by
 obtain ⟨h1, h2, h3⟩ := h
 have hnew : x ∉ ss := fun hm => by have := (h2 x hm).2; rw [hlk] at this; cases this
 refine ⟨List.nodup_append.2 ⟨h1, by simp, fun a ha b hb => by simp at hb; subst hb; exact fun e => hnew (e ▸ ha)⟩, fun y hy => ?_, fun kl hk hl => ?_⟩
 ·rcases List.mem_append.1 hy with hy | hy
  ·exact ⟨(h2 y hy).1, by simp [(h2 y hy).2]⟩
  ·have : y = x := by simpa using hy
   subst this
   refine ⟨hx, ?_⟩
   show (left (kp y) && !(kp y).sameKey (kp y)) = false
   rw [qQ]; simp
 ·obtain ⟨y, rfl⟩ := hsm kl hk
  replace hl : (left (kp y) && !(kp y).sameKey (kp x)) = false := hl
  rw [qQ] at hl
  by_cases e : y = x
  ·exact ⟨y, by simp [e], rfl⟩
  ·simp [e] at hl
   obtain ⟨z, hz, ez⟩ := h3 _ hk hl
   exact ⟨z, by simp [hz], ez⟩
theorem CollP.done {D0 : DataW Unit} {left : Lit → Bool} {ss : List P2} (h : CollP D0 left ss) (hl : ∀ kl, left kl = false) : KeysP D0 ss := ⟨h.1, fun x hx => (h.2.1 x hx).1, fun kl hk => h.2.2 kl hk (hl kl)⟩
set_option maxRecDepth 100000 in
set_option maxHeartbeats 1000000 in
theorem keys1_p (F : Fence) (hF : ∀ f, F.fn f) (n : Nat) (hro : F.round = none) (hn : 1 ≤ n) (l Bm of b nn : Nat) (D0 : DataW Unit) (hsm : ∀ kl, has D0 kl = true → ∃ x, kl = kp x) (J Jx : List P2 → World → Prop)
  (hY : ∀ pre (x : P2) W, J pre W → pre.length < Maps.size D0 → YieldAt F (n - 1) Tryz.prog l #[.agg #[.int .i64 (x.1.val : Int), .int .i64 (x.2.val : Int)]] W fun e W' =>
   (e = .returned (.bool true) ∧ J (pre ++ [x]) W' ∧ KeepsWalks W W') ∨ (e = .returned (.bool false) ∧ Jx (pre ++ [x]) W'))
  (W : World) (hJ : AbidesFrom W.heap.size J) (hm : W.cell? ⟨Bm, of, none⟩ = some (.map (some b))) (hown : W.ownsMap Tryz.prog 73 (plainElem Tryz.prog 3) b nn D0) (h0 : J [] W) :
  CallsIn F n Tryz.prog 96 #[.func (.yield l) #[] #[], .pointer (some ⟨Bm, of, none⟩)] W fun e W' => (∃ v, e = .returned v) ∧
   ((∃ ss : List P2, KeysP D0 ss ∧ J ss W') ∨ (∃ pre : List P2, True ∧ Jx pre W')) := by
 refine callsIn_of_wp Tryz.func96 rfl (hF _) ?_ hro
 simp only [Tryz.ntmps96, List.size_toArray, List.length_cons, List.length_nil, Nat.reduceAdd, Nat.reduceSub, Array.replicate_succ, Array.replicate_zero, List.push_toArray, List.append_toArray, List.nil_append, List.cons_append]
 gi_wp2_with (first
  | (gi_at_range; refine wpListIn_range_own _ rfl _ 92 rfl 73 3 cE Tryz.underlying92 _ b nn _ rfl hown ?_; intro w0 hrg0 hg0 hs0)
  | gi_in)
 go_frame
 gi_loopw [3] (fun _ wr => ∃ (left : Lit → Bool) (cnt : Nat) (ss : List P2), wr.ranges Tryz.prog 73 (plainElem Tryz.prog 3) b W.heap.size nn D0 left cnt ∧ ss.length + cnt ≤ Maps.size D0 ∧ CollP D0 left ss ∧ J ss wr)
  (fun _ wr => wr.rangeLeft b W.heap.size)
 case atStart =>
  exact ⟨_, _, [], hrg0, by simp, CollP.start D0, hJ [] W w0 none h0 hg0 (fun r e => by cases e)⟩
 case round =>
  obtain ⟨left, cnt, ss, hrg, hcs, hC, hJs⟩ := hrel
  gi_wp2_with (first
   | (gi_at_next; refine wpListIn_next_ranges _ rfl _ rfl 73 cE _ (fun p : Int × Int => Value.agg #[.int .i64 p.1, .int .i64 p.2]) (fun c : Int => Value.int .i64 c) (fun _ _ h => keyPair_inv h) (fun v y h => by obtain ⟨a, ha, _⟩ := plainElem_int_inv Tryz.underlying3 h; exact ⟨a, ha⟩) b W.heap.size nn _ _ _ rfl hrg ?_ ?_)
   | gi_in)
  ·intro hc0 hl0
   gi_wp2
   go_end0
   exact ⟨⟨_, rfl⟩, .inl ⟨ss, hC.done hl0, hJs⟩⟩
  ·intro xa xb c kl y1 y2 w2 cnt2 hkey hlk hRv hat hrg2 hlt hg2 hs2 hen
   have hhas : has D0 kl = true := has_true_of_atKey hat
   obtain ⟨x, rfl⟩ := hsm kl hhas
   have ex := sI (p := (xa, xb)) (cE.inj hkey (pV x))
   simp only [Prod.mk.injEq] at ex
   obtain ⟨rfl, rfl⟩ := ex
   have hJ2 : J ss w2 := hJ ss wr w2 (some W.heap.size) hJs hg2 (fun r e => by cases e; exact ⟨Nat.le_refl _, hrg.iter_walk⟩)
   have hJ2' := hJ ss w2 (w2.alloc (.cells #[.int .i64 (x.1.val : Int), .int .i64 (x.2.val : Int)] 73)) none hJ2 (World.grownBy_alloc _ _ none) (fun r e => by cases e)
   obtain ⟨fn, tmps, assign, body, hy, hR⟩ := hY ss x _ hJ2' (by omega)
   clear hs2
   gi_wp2
   refine hR.mono ?_
   rintro e W3 (⟨rfl, hJ3, hk3⟩ | ⟨rfl, hJx3⟩)
   ·gi_wp2
    have hrg3 := (hrg2.alloc _).of_walks hk3
    go_roundw
    case rel => exact ⟨_, cnt2, ss ++ [x], hrg3, by simp; omega, hC.step hsm hlk hhas, hJ3⟩
    case measure => rw [hrg3.left_eq, hrg.left_eq]; exact hlt
   ·gi_wp2
    refine bodyPost_ret (results_none rfl _ _ _) rfl ?_
    exact ⟨⟨_, rfl⟩, .inr ⟨_, trivial, hJx3⟩⟩
theorem keysP_stops (F : Fence) (hF : ∀ f, F.fn f) (n : Nat) (hro : F.round = none) (hn : 1 ≤ n) (Bm of b nn : Nat) (D0 : DataW Unit) (hsm : ∀ kl, has D0 kl = true → ∃ x, kl = kp x) (w : World) (hBm : Bm < w.heap.size)
  (hm : w.cell? ⟨Bm, of, none⟩ = some (.map (some b))) (hown : w.ownsMap Tryz.prog 73 (plainElem Tryz.prog 3) b nn D0) :
  SeqStopsK F n Tryz.prog 96 #[.pointer (some ⟨Bm, of, none⟩)] (fun x : P2 => #[.agg #[.int .i64 (x.1.val : Int), .int .i64 (x.2.val : Int)]]) KeepsWalks (KeysP D0) (fun _ => True) (Maps.size D0) w := fun l J Jx W hW hJ hJx hY h0 => by
 have hown' : W.ownsMap Tryz.prog 73 (plainElem Tryz.prog 3) b nn D0 := by
  have hbl := hown.lt
  obtain ⟨es, clock, hb, Ft, hs, hD⟩ := hown
  exact ⟨es, clock, (hW.block b hbl).trans hb, Ft, hs, hD⟩
 exact keys1_p F hF n hro hn l Bm of b nn D0 hsm J Jx hY W hJ ((hW.cell (p := ⟨Bm, of, none⟩) hBm).trans hm) hown' h0
set_option maxHeartbeats 1000000 in
theorem cmpA_c (x y : P2) (W : World) : Calls Tryz.prog 68 #[aggP x, aggP y] W fun e w' => e = .returned (.int .i64 (cmpP x y)) ∧ ∃ q os', w' = grow (W.drewN q) os' := by
 obtain ⟨⟨a, ha⟩, ⟨b, hb⟩⟩ := x
 obtain ⟨⟨c, hc⟩, ⟨d, hd⟩⟩ := y
 unfold aggP cmpP
 dsimp only
 by_cases h : a = c
 ·rw [if_pos h]
  subst h
  have h1 : ((a : Int) != (a : Int)) = false := by simp
  go_enter Tryz.func68, Tryz.ntmps68
  go_wp2
  go_ret
  exact ⟨rfl, 0, _, by rw [alloc_eq_grow, alloc_eq_grow, grow_grow]; rfl⟩
 ·rw [if_neg h]
  have h1 : ((a : Int) != (c : Int)) = true := by simp; omega
  have h2 : (a != c) = true := by simpa using h
  clear h
  go_enter Tryz.func68, Tryz.ntmps68
  go_wp2
  go_ret
  exact ⟨rfl, 0, _, by rw [alloc_eq_grow, alloc_eq_grow, grow_grow]; rfl⟩
theorem cmpLaysA (blk off size : Nat) (w : World) : CmpLays Tryz.prog 68 #[] encP 2 cmpP blk off size w :=
 fun _ _ _ _ x y => cmpA_c x y _
theorem sortPairsA_c (blk off cap : Nat) (d : Array P2) (w : World) (hH : HoldsK encP 2 w blk off d) (hblk : blk < w.heap.size) (hsz : d.size < 4611686018427387904) :
  Calls Tryz.prog 95 #[.slice (some ⟨blk, off, none⟩) d.size cap, .func (.func 68) #[] #[]] w fun e w' => e = .returned (.tuple #[]) ∧ ∃ d' n os, PermIn 0 d.size d d' ∧ SortedIn ltP 0 d.size d' ∧ w' = sortWorldK encP 2 w blk off n d' os := by
 have h := AnyQ.slices_SortFunc Tryz.sortPairs 2 Tryz.isAgg73 Tryz.sizeOf73 encP (fun _ => rfl) (fun x v hv => by simp [encP] at hv; rcases hv with rfl | rfl <;> rfl) cmpP swoP 68 #[] blk off cap d w (enters_of Tryz.func68 (by kernel_rfl) rfl) (cmpLaysA blk off d.size w) hH hblk hsz
 refine Calls.mono h ?_
 rintro e w' ⟨he, d', n, os, hp, hs, hw⟩
 exact ⟨he, d', n, os, hp, fun i j h1 h2 h3 => by rw [← yU]; exact hs i j h1 h2 h3, hw⟩
set_option maxRecDepth 100000 in
set_option maxHeartbeats 2000000 in
theorem sortedFuncA_p (n : Nat) (hn : 4 ≤ n) (g : Nat) (lb : Array Value) (eg : ∀ args w, (callFunc g args).run Tryz.prog w = .ok (.enter g args) w)
  (Kp : World → World → Prop) (S Sp : List P2 → Prop) (N : Nat) (hN : N ≤ 4294967296) (w : World)
  (hKt : ∀ {A B C : World}, Kp A B → Kp B C → Kp A C) (hKb : ∀ (W : World) (l : Nat) (o o' : Obj), w.heap.size ≤ l → W.heap[l]? = some o → o.isCells = false → o.isWalk = false → Kp W (W.putObj l o'))
  (hKo : ∀ W W', KeepsOthers W W' → Below w.heap.size W W' → Kp W W')
  (hseq : SeqStopsK Fence.wide (n - 1 - 1 - 1) Tryz.prog g lb (fun x : P2 => #[.agg #[.int .i64 (x.1.val : Int), .int .i64 (x.2.val : Int)]]) Kp S Sp N w) :
  CallsIn Fence.wide n Tryz.prog 66 #[.func (.func g) #[] lb, .func (.func 68) #[] #[]] w fun e w' => ∃ (v : Value) (ss : List P2), e = .returned v ∧ S ss ∧ ss.length ≤ N ∧
   w'.ownsRow w.heap.size 73 2 v (sortP ss).length (flatP (sortP ss)) ∧ Below w.heap.size w w' := by
 have h1 : 1 ≤ n := by omega
 have hF : ∀ f, Fence.wide.fn f := fun _ => trivial
 have hro : Fence.wide.round = none := rfl
 refine callsIn_of_wp Tryz.func66 rfl (hF _) ?_ hro
 simp only [Tryz.ntmps66, List.size_toArray, List.length_cons, List.length_nil, Nat.reduceAdd, Nat.reduceSub, Array.replicate_succ, Array.replicate_zero, List.push_toArray, List.append_toArray, List.nil_append, List.cons_append]
 gi_wp2_with (gi_at_call 94; refine (collect_p Fence.wide (fun _ => trivial) (n - 1) rfl (by omega) g lb eg Kp S Sp N hN _ hKt hKb hKo hseq).mono ?_; rintro e W ⟨v, ss, rfl, hS, hlen, hrow, hnil, hb⟩)
 rcases hrow.2 with ⟨rfl, hz⟩ | ⟨gb, cap, cur, rfl, hbase, hgb, r1, r2, r3, r4⟩
 ·have hss : ss = [] := List.eq_nil_of_length_eq_zero hz
  subst hss
  have cS := (callsIn_wide (n := n - 1)).2 (aZ none 0 (.func (.func 68) #[] #[]) W)
  gi_wp2_with (gi_at_call 95; refine cS.mono ?_; rintro e w' ⟨rfl, rfl⟩)
  go_ret
  have e0 : sortP [] = [] := by simp [sortP]
  exact ⟨_, [], rfl, hS, by simp, by rw [e0]; exact World.ownsRow_nil _ _ _ _, hb⟩
 ·have hF : (flatK encP 2 ss.toArray).size = ss.length * 2 := by simp
  have hH : HoldsK encP 2 W gb 0 ss.toArray := aU hgb (by rw [hF, yP]; exact r4)
  have hgl : gb < W.heap.size := (Array.getElem?_eq_some_iff.1 hgb).1
  have cS := (callsIn_wide (n := n - 1)).2 (sortPairsA_c gb 0 cap ss.toArray W hH hgl (by simp; omega))
  rw [List.size_toArray] at cS
  gi_wp2_with (gi_at_call 95; refine cS.mono ?_; rintro e w' ⟨rfl, d', nn, os, hp, hs, rfl⟩)
  go_ret
  have hd : d'.size = ss.length := by have := hp.1; simpa using this
  have hsort : d'.toList = sortP ss := dV ss.toArray d' (by simpa using hp) (by simpa using hs)
  have hF2 : (flatK encP 2 d').size = ss.length * 2 := by simp [hd]
  have hrow2 := ownsRow_sortedV (n := nn) (os := os) hF2 hbase hgb r1 r2 r3
  have e3 : (flatK encP 2 d').toList = flatP (sortP ss) := by rw [← hsort, ← yP]
  have e4 : ss.length = (sortP ss).length := by rw [← hsort]; simp [hd]
  rw [e3] at hrow2
  have hrow3 : (sortWorldK encP 2 W gb 0 nn d' os).ownsRow w.heap.size 73 2 (.slice (some ⟨gb, 0, none⟩) ss.length cap) (sortP ss).length (flatP (sortP ss)) := by rw [← e4]; exact hrow2
  exact ⟨_, ss, rfl, hS, hlen, hrow3, hb.grown (aV _) hb.size (fun j hj => by cases hj; exact hbase)⟩
end Go.Proofs.YtnkocjkkefnelaaGreat
