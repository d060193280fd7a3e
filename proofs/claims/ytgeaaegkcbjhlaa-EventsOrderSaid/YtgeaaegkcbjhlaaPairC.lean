/- slices.SortedFunc at pairs; 'pairs'. -/
import Derived.Test.YtgeaaegkcbjhlaaPairB
namespace Go.Proofs.Ytgeaaegkcbjhlaa
open Go.RowKit Go.Shelf Go.Maps Go.Sort


theorem flatP_get : ∀ (l : List P2) (t : Nat), t < l.length * 2 → (flatP l)[t]? = some ((encP (l.getD (t / 2) default))[t % 2]!)
  | [], t, h => by simp at h
  | x :: r, 0, _ => by simp [flatP, encP]
  | x :: r, 1, _ => by simp [flatP, encP]
  | x :: r, t + 2, h => by
    have ih := flatP_get r t (by simp at h; omega)
    have e1 : (t + 2) / 2 = t / 2 + 1 := by omega
    have e2 : (t + 2) % 2 = t % 2 := by omega
    rw [e1, e2, List.getD_cons_succ, ← ih]
    simp [flatP, encP]
theorem flatK_toList (l : List P2) : (flatK encP 2 l.toArray).toList = flatP l := by
  apply List.ext_getElem?
  intro t
  by_cases h : t < l.length * 2
  · rw [flatP_get l t h]
    have h2 : t / 2 < l.length := by omega
    simp [flatK, h, List.getD, h2]
  · rw [List.getElem?_eq_none (by simp; omega), List.getElem?_eq_none (by rw [flatP_length]; omega)]

theorem holds_of_blockV {w : World} {g : Nat} {cur : Array Value} {e : TypeId} {F : Array Value} (hb : w.heap[g]? = some (.cells cur e (0, 0))) (ht : cur.toList.take F.size = F.toList) : Holds id w g 0 F := by
  intro j hj
  refine ⟨?_, by simp [World.frozen?, hb]⟩
  have h1 : (cur.toList.take F.size)[j]? = F.toList[j]? := by rw [ht]
  rw [List.getElem?_take_of_lt hj] at h1
  simp only [World.cell?, hb, Nat.zero_add]
  simp only [Option.isSome_none, Bool.false_eq_true, if_false]
  rw [← Array.getElem?_toList, h1]
  simp [hj]
theorem heap_sortedV {w : World} {g n : Nat} {os : Array Obj} {cur : Array Value} {e : TypeId} {fr : Nat × Nat} (F : Array Value) (hb : w.heap[g]? = some (.cells cur e fr)) :
    (grow (putRow id (Sort.ahead w n) g 0 F) os).heap[g]? = some (.cells (putCells id 0 F cur) e fr) := by
  have hg : g < w.heap.size := (Array.getElem?_eq_some_iff.1 hb).1
  rw [heap_grow_old _ _ (by simpa using hg)]
  simp [putRow, mapBlock, Sort.ahead, Array.getElem?_modify, hb, onCells]
theorem grownBy_sortedV {w : World} {g n : Nat} {os : Array Obj} (F : Array Value) : w.grownBy (grow (putRow id (Sort.ahead w n) g 0 F) os) (some g) := by
  refine ⟨rfl, rfl, rfl, by simp, fun k hk hne => ?_⟩
  rw [heap_grow_old _ _ (by simpa using hk)]
  have : g ≠ k := fun e => hne (by rw [e])
  simp [putRow, mapBlock, Sort.ahead, Array.getElem?_modify, this]
theorem take_putCellsV (cur F : Array Value) (h : F.size ≤ cur.size) : (putCells id 0 F cur).toList.take F.size = F.toList := by
  apply List.ext_getElem?
  intro j
  by_cases hj : j < F.size
  · rw [List.getElem?_take_of_lt hj, Array.getElem?_toList]
    simp [putCells, hj, show j < cur.size by omega]
  · rw [List.getElem?_take_eq_none (by omega), List.getElem?_eq_none (by simp; omega)]
theorem ownsRow_sortedV {w : World} {base g cap n k : Nat} {e : TypeId} {os : Array Obj} {cur F : Array Value} (hl : F.size = k * 2) (hbase : base ≤ g) (hb : w.heap[g]? = some (.cells cur e (0, 0)))
    (h1 : k ≤ cap) (h2 : cap ≤ maxLen) (h3 : cur.size = cap * 2) :
    (grow (putRow id (Sort.ahead w n) g 0 F) os).ownsRow base e 2 (.slice (some ⟨g, 0, none⟩) k cap) k F.toList :=
  ⟨by simp [hl], .inr ⟨g, cap, _, rfl, hbase, heap_sortedV _ hb, h1, h2, by simp [putCells, h3], by rw [← hl]; exact take_putCellsV cur F (by omega)⟩⟩

/-- pairs by rising places -/
def sortP (l : List P2) : List P2 := l.mergeSort (fun x y => !ltP y x)
theorem sortP_unique (d d' : Array P2) (hp : PermIn 0 d.size d d') (hs : SortedIn ltP 0 d.size d') : d'.toList = sortP d.toList := by
  have e : ltOf cmpP = ltP := by funext x y; exact ltOf_cmpP x y
  have sw : SWO ltP := by rw [← e]; exact swoP
  exact sorted_unique_holds sw (fun x y h1 h2 => by
    simp only [ltP, decide_eq_false_iff_not] at h1 h2
    have a : x.1 = y.1 := Fin.ext (by omega)
    have b : x.2 = y.2 := Fin.ext (by omega)
    exact Prod.ext a b) d d' hp hs

/-- Below block B, the slice s holds these pairs. -/
def PairsIn (B : Nat) (w : World) (s : Sl) (l : List P2) : Prop :=
  s.n = l.length ∧ l.length ≤ 1152921504606846976 ∧
  (l = [] ∨ ∃ b off, s.a = some ⟨b, off, none⟩ ∧ b < B ∧ ∀ k, k < l.length → w.cell? ⟨b, off + k * 2, none⟩ = some (.int .i64 ((l.getD k default).1.val : Int)) ∧ w.cell? ⟨b, off + k * 2 + 1, none⟩ = some (.int .i64 ((l.getD k default).2.val : Int)))
theorem PairsIn.below {B : Nat} {w w' : World} {s : Sl} {l : List P2} (h : PairsIn B w s l) (hb : Below B w w') : PairsIn B w' s l := by
  obtain ⟨h1, h2, h3⟩ := h
  refine ⟨h1, h2, ?_⟩
  rcases h3 with h3 | ⟨b, off, h4, h5, h6⟩
  · exact Or.inl h3
  · exact Or.inr ⟨b, off, h4, h5, fun k hk => by rw [hb.cell (by exact h5), hb.cell (by exact h5)]; exact h6 k hk⟩
theorem PairsIn.mono {B B' : Nat} {w : World} {s : Sl} {l : List P2} (h : PairsIn B w s l) (hB : B ≤ B') : PairsIn B' w s l := by
  obtain ⟨h1, h2, h3⟩ := h
  refine ⟨h1, h2, ?_⟩
  rcases h3 with h3 | ⟨b, off, h4, h5, h6⟩
  · exact Or.inl h3
  · exact Or.inr ⟨b, off, h4, by omega, h6⟩
theorem row_pairs {w : World} {base : Nat} {e : TypeId} {v : Value} {l : List P2} (hl : l.length ≤ 1152921504606846976) (h : w.ownsRow base e 2 v l.length (flatP l)) :
    ∃ s : Sl, v = .slice s.a s.n s.c ∧ PairsIn w.heap.size w s l := by
  rcases h.2 with ⟨rfl, hz⟩ | ⟨gb, cap, cur, rfl, hbase, hgb, r1, r2, r3, r4⟩
  · have : l = [] := List.eq_nil_of_length_eq_zero hz
    subst this
    exact ⟨⟨none, 0, 0⟩, rfl, rfl, by simp, Or.inl rfl⟩
  · refine ⟨⟨some ⟨gb, 0, none⟩, l.length, cap⟩, rfl, rfl, hl, Or.inr ⟨gb, 0, rfl, (Array.getElem?_eq_some_iff.1 hgb).1, fun k hk => ?_⟩⟩
    have hg : ∀ t, t < l.length * 2 → w.cell? ⟨gb, 0 + t, none⟩ = some ((encP (l.getD (t / 2) default))[t % 2]!) := by
      intro t ht
      have h1 : (cur.toList.take (l.length * 2))[t]? = (flatP l)[t]? := by rw [r4]
      rw [List.getElem?_take_of_lt ht, flatP_get l t ht] at h1
      simp only [World.cell?, hgb, Nat.zero_add]
      simp only [Option.isSome_none, Bool.false_eq_true, if_false]
      rw [← Array.getElem?_toList, h1]
    have a := hg (k * 2) (by omega)
    have b := hg (k * 2 + 1) (by omega)
    rw [show k * 2 / 2 = k by omega, show k * 2 % 2 = 0 by omega] at a
    rw [show (k * 2 + 1) / 2 = k by omega, show (k * 2 + 1) % 2 = 1 by omega] at b
    exact ⟨a, b⟩

set_option maxRecDepth 100000 in
set_option maxHeartbeats 2000000 in
theorem sortedFunc_p (n : Nat) (hn : 4 ≤ n) (g : Nat) (lb : Array Value) (eg : ∀ args w, (callFunc g args).run Try.prog w = .ok (.enter g args) w)
    (Kp : World → World → Prop) (S Sp : List P2 → Prop) (N : Nat) (hN : N ≤ 4294967296) (w : World)
    (hKt : ∀ {A B C : World}, Kp A B → Kp B C → Kp A C) (hKb : ∀ (W : World) (l : Nat) (o o' : Obj), w.heap.size ≤ l → W.heap[l]? = some o → o.isCells = false → o.isWalk = false → Kp W (W.putObj l o'))
    (hKo : ∀ W W', KeepsOthers W W' → Below w.heap.size W W' → Kp W W')
    (hseq : SeqStopsK Fence.wide (n - 1 - 1 - 1) Try.prog g lb (fun x : P2 => #[.agg #[.int .i64 (x.1.val : Int), .int .i64 (x.2.val : Int)]]) Kp S Sp N w) :
    CallsIn Fence.wide n Try.prog 54 #[.func (.func g) #[] lb, .func (.func 55) #[] #[]] w fun e w' => ∃ (s : Sl) (ss : List P2), e = .returned (.slice s.a s.n s.c) ∧ S ss ∧ ss.length ≤ N ∧
      PairsIn w'.heap.size w' s (sortP ss) ∧ Below w.heap.size w w' := by
  have h1 : 1 ≤ n := by omega
  have hF : ∀ f, Fence.wide.fn f := fun _ => trivial
  have hro : Fence.wide.round = none := rfl
  refine callsIn_of_wp Try.func54 rfl (hF _) ?_ hro
  simp only [Try.ntmps54, List.size_toArray, List.length_cons, List.length_nil, Nat.reduceAdd, Nat.reduceSub, Array.replicate_succ, Array.replicate_zero, List.push_toArray, List.append_toArray, List.nil_append, List.cons_append]
  gi_wp2_with (gi_at_call 62; refine (collect_p Fence.wide (fun _ => trivial) (n - 1) rfl (by omega) g lb eg Kp S Sp N hN _ hKt hKb hKo hseq).mono ?_; rintro e W ⟨v, ss, rfl, hS, hlen, hrow, hnil, hb⟩)
  rcases hrow.2 with ⟨rfl, hz⟩ | ⟨gb, cap, cur, rfl, hbase, hgb, r1, r2, r3, r4⟩
  · have hss : ss = [] := List.eq_nil_of_length_eq_zero hz
    subst hss
    have cS := (callsIn_wide (n := n - 1)).2 (sortPairs_none none 0 (.func (.func 55) #[] #[]) W)
    gi_wp2_with (gi_at_call 63; refine cS.mono ?_; rintro e w' ⟨rfl, rfl⟩)
    go_ret
    have e0 : sortP [] = [] := by simp [sortP]
    exact ⟨⟨none, 0, 0⟩, [], rfl, hS, by simp, ⟨by rw [e0]; rfl, by rw [e0]; simp, Or.inl e0⟩, hb⟩
  · have hF : (flatK encP 2 ss.toArray).size = ss.length * 2 := by simp
    have hH : HoldsK encP 2 W gb 0 ss.toArray := holds_of_blockV hgb (by rw [hF, flatK_toList]; exact r4)
    have hgl : gb < W.heap.size := (Array.getElem?_eq_some_iff.1 hgb).1
    have cS := (callsIn_wide (n := n - 1)).2 (sortPairs_c gb 0 cap ss.toArray W hH hgl (by simp; omega))
    rw [List.size_toArray] at cS
    gi_wp2_with (gi_at_call 63; refine cS.mono ?_; rintro e w' ⟨rfl, d', nn, os, hp, hs, rfl⟩)
    go_ret
    have hd : d'.size = ss.length := by have := hp.1; simpa using this
    have hsort : d'.toList = sortP ss := sortP_unique ss.toArray d' (by simpa using hp) (by simpa using hs)
    have hF2 : (flatK encP 2 d').size = ss.length * 2 := by simp [hd]
    have hrow2 := ownsRow_sortedV (n := nn) (os := os) hF2 hbase hgb r1 r2 r3
    have e3 : (flatK encP 2 d').toList = flatP (sortP ss) := by rw [← hsort, ← flatK_toList]
    have e4 : ss.length = (sortP ss).length := by rw [← hsort]; simp [hd]
    rw [e3] at hrow2
    have hrow3 : (sortWorldK encP 2 W gb 0 nn d' os).ownsRow w.heap.size 34 2 (.slice (some ⟨gb, 0, none⟩) ss.length cap) (sortP ss).length (flatP (sortP ss)) := by rw [← e4]; exact hrow2
    obtain ⟨s, hv, hi⟩ := row_pairs (by rw [← e4]; omega) hrow3
    exact ⟨s, ss, by rw [← hv]; rfl, hS, hlen, hi, hb.grown (grownBy_sortedV _) hb.size (fun j hj => by cases hj; exact hbase)⟩

set_option maxRecDepth 100000 in
theorem pairs_c (g : Nat) (lb : Array Value) (eg : ∀ args w, (callFunc g args).run Try.prog w = .ok (.enter g args) w)
    (Kp : World → World → Prop) (S Sp : List P2 → Prop) (N : Nat) (hN : N ≤ 4294967296) (w : World)
    (hKt : ∀ {A B C : World}, Kp A B → Kp B C → Kp A C) (hKb : ∀ (W : World) (l : Nat) (o o' : Obj), w.heap.size ≤ l → W.heap[l]? = some o → o.isCells = false → o.isWalk = false → Kp W (W.putObj l o'))
    (hKo : ∀ W W', KeepsOthers W W' → Below w.heap.size W W' → Kp W W')
    (m : Nat) (hseq : SeqStopsK Fence.wide (m + 1) Try.prog g lb (fun x : P2 => #[.agg #[.int .i64 (x.1.val : Int), .int .i64 (x.2.val : Int)]]) Kp S Sp N w) :
    Calls Try.prog 43 #[.func (.func g) #[] lb] w fun e w' => ∃ (s : Sl) (ss : List P2), e = .returned (.slice s.a s.n s.c) ∧ S ss ∧ ss.length ≤ N ∧ PairsIn w'.heap.size w' s (sortP ss) ∧ Below w.heap.size w w' := by
  have c := callsIn_wide.1 (sortedFunc_p (m + 4) (by omega) g lb eg Kp S Sp N hN w hKt hKb hKo hseq)
  go_enter Try.func43, Try.ntmps43
  go_wp2_with (go_at_call 54; refine c.mono ?_; rintro e w' ⟨s, ss, rfl, hS, hlen, hi, hb⟩)
  go_ret
  exact ⟨s, ss, rfl, hS, hlen, hi, hb⟩
end Go.Proofs.Ytgeaaegkcbjhlaa
