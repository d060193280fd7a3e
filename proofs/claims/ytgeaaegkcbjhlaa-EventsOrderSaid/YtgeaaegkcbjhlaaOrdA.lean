/- What the library's parts of 'order' do, in the terms of this work: sorted values of a row; are two rows the same. -/
import Derived.Test.YtgeaaegkcbjhlaaAddr
import Derived.Test.YtgeaaegkcbjhlaaSoH
namespace Go.Proofs.Ytgeaaegkcbjhlaa
open Go.RowKit Go.Maps Go.Sort

theorem sorts_u (m : Nat) : Sorts_u Fence.wide m :=
  ⟨fun blk off cap ss W hH hblk hsz => callsIn_wide.2 (slices_Sort_u blk off cap ss W hH hblk hsz), fun p cap W => callsIn_wide.2 (Sort_u_nil p cap W)⟩

theorem addrs_c (x : Ex) (w : World) (hx : EvsIn w.heap.size w x.es x.evs) (hlen : x.evs.length ≤ 64) :
    Calls Try.prog 26 #[x.agg] w fun o w' => ∃ s : Sl, o = .returned (.slice s.a s.n s.c) ∧ IntsIn .u32 w'.heap.size w' s (addrsTo x.evs) ∧ Below w.heap.size w w' :=
  addresses_c sorts_u x w hx hlen

theorem IntsIn.row {B : Nat} {w : World} {s : Sl} {l : List Int} (h : IntsIn .i64 B w s l) : RowOf B w (.slice s.a s.n s.c) l := by
  obtain ⟨h1, h2, h3⟩ := h
  rcases h3 with h3 | ⟨b, off, h4, h5, h6⟩
  · subst h3
    exact Or.inl ⟨⟨s.a, s.c, by rw [h1]; rfl⟩, rfl⟩
  · exact Or.inr ⟨b, off, s.c, by rw [h4, h1], h5, h6⟩

theorem vals_c (a : Option Addr) (n c : Nat) (w : World) :
    Calls Try.prog 52 #[.slice a n c] w fun e w' => e = .returned (.func (.func 61) #[] #[.pointer (some ⟨w.heap.size, 0, none⟩)]) ∧ w' = w.alloc (.cells #[.slice a n c] 23) :=
  callsIn_wide.1 (values_i Fence.wide (fun _ => trivial) 0 rfl a n c w)

theorem enters_vals : ∀ args w, (callFunc 61 args).run Try.prog w = .ok (.enter 61 args) w := enters_of Try.func61 (by kernel_rfl) rfl

/-- what is sorted -/
def sortI (l : List Int) : List Int := l.mergeSort (fun x y => decide (x ≤ y))

theorem sortedVals_c (Bs : Nat) (s : Sl) (l : List Int) (w : World) (hBs : Bs < w.heap.size) (hc : w.cell? ⟨Bs, 0, none⟩ = some (.slice s.a s.n s.c)) (hl : IntsIn .i64 w.heap.size w s l) (hlen : l.length ≤ 65536) :
    Calls Try.prog 51 #[.func (.func 61) #[] #[.pointer (some ⟨Bs, 0, none⟩)]] w fun e w' => ∃ s' : Sl, e = .returned (.slice s'.a s'.n s'.c) ∧ IntsIn .i64 w'.heap.size w' s' (sortI l) ∧ Below w.heap.size w w' := by
  refine callsIn_wide.1 ((sorted_i Fence.wide (fun _ => trivial) 5 rfl (by omega) (sorts_i _) _ _ enters_vals (Below w.heap.size) (fun ys => ys = l) (fun _ => True) l.length (by unfold maxLen; omega) (by omega) w belowK_t (belowK_b (Nat.le_refl _)) (fun _ _ _ h => h)
    (values_stops Fence.wide (fun _ => trivial) _ rfl (by omega) Bs w.heap.size (.slice s.a s.n s.c) l (by omega) w hBs (Nat.le_refl _) hc hl.row)).mono ?_)
  rintro e w' ⟨v, ss, rfl, rfl, _, hrow, hnil, hb⟩
  have e2 : (sortI ss).length = ss.length := List.length_mergeSort ss
  rw [← e2] at hrow
  obtain ⟨s', hv, hi⟩ := row_ints .i64 (l := sortI ss) (by rw [e2]; omega) hrow
  exact ⟨s', by rw [hv], hi, hb⟩

theorem equal_c (s1 s2 : Sl) (l1 l2 : List Int) (B1 B2 : Nat) (w : World) (h1 : IntsIn .i64 B1 w s1 l1) (h2 : IntsIn .i64 B2 w s2 l2) :
    Calls Try.prog 40 #[.slice s1.a s1.n s1.c, .slice s2.a s2.n s2.c] w fun e w' => e = .returned (.bool (l1 == l2)) ∧ ∃ q, w' = w.drewN q := by
  obtain ⟨a1, b1, c1⟩ := h1
  obtain ⟨a2, b2, c2⟩ := h2
  by_cases hn : l1.length = l2.length
  · rcases c1 with c1 | ⟨p1, o1, c1, _, d1⟩
    · subst c1
      have : l2 = [] := List.length_eq_zero_iff.1 hn.symm
      subst this
      rw [a1, a2]
      refine (Try.slices_Equal_int_empty s1.a s2.a s1.c 0 s2.c w (by omega)).mono ?_
      rintro e w' ⟨rfl, rfl⟩
      exact ⟨rfl, 0, rfl⟩
    · rcases c2 with c2 | ⟨p2, o2, c2, _, d2⟩
      · subst c2
        have : l1 = [] := List.length_eq_zero_iff.1 hn
        subst this
        rw [a1, a2]
        refine (Try.slices_Equal_int_empty s1.a s2.a s1.c 0 s2.c w (by omega)).mono ?_
        rintro e w' ⟨rfl, rfl⟩
        exact ⟨rfl, 0, rfl⟩
      · rw [a1, a2, c1, c2]
        refine (Try.slices_Equal_int p1 o1 l1.length s1.c p2 o2 l2.length s2.c l1 l2 w (Nat.le_refl _) (Nat.le_refl _) (by omega) (by omega) d1 d2).mono ?_
        rintro e w' ⟨rfl, h⟩
        exact ⟨by rw [List.take_length, List.take_length], h⟩
  · rw [a1, a2]
    refine (Try.slices_Equal_int_lens s1.a s2.a l1.length s1.c l2.length s2.c w hn).mono ?_
    rintro e w' ⟨rfl, rfl⟩
    refine ⟨?_, 0, rfl⟩
    have : l1 ≠ l2 := fun h => hn (by rw [h])
    rw [show (l1 == l2) = false by simpa using this]

/-! ### what coherence order may be -/
/-- the stores of an address -/
def wantTo (es : List Ev) (a : Int) (k : Nat) : List Int := ((List.range k).filter (fun n => (es.getD n default).stB && ((es.getD n default).addr == a))).map Int.ofNat
def rowOk (es : List Ev) (ad : List Int) (i : Nat) (l : List Int) : Bool := !(l.length == 0) && !(l.getD 0 0 != (i : Int)) && (sortI l == wantTo es (ad.getD i 0) es.length)
def rowsTo (es : List Ev) (ad : List Int) (rows : List (Sl × List Int)) (k : Nat) : Bool := (List.range k).all (fun i => rowOk es ad i (rows.getD i default).2)
def orderB (es : List Ev) (ad : List Int) (rows : List (Sl × List Int)) : Bool := decide (rows.length = ad.length) && rowsTo es ad rows rows.length
theorem rowsTo_succ (es : List Ev) (ad : List Int) (rows : List (Sl × List Int)) (k : Nat) : rowsTo es ad rows (k + 1) = (rowsTo es ad rows k && rowOk es ad k (rows.getD k default).2) := by
  simp [rowsTo, List.range_succ]
theorem rowsTo_false (es : List Ev) (ad : List Int) (rows : List (Sl × List Int)) (k : Nat) (hk : k < rows.length) (h : rowOk es ad k (rows.getD k default).2 = false) : orderB es ad rows = false := by
  unfold orderB rowsTo
  rw [Bool.and_eq_false_iff]
  right
  rw [List.all_eq_false]
  exact ⟨k, by simpa using hk, by simpa using h⟩
theorem wantTo_succ (es : List Ev) (a : Int) (k : Nat) : wantTo es a (k + 1) = if ((es.getD k default).stB && ((es.getD k default).addr == a)) = true then wantTo es a k ++ [(k : Int)] else wantTo es a k := by
  unfold wantTo
  rw [List.range_succ, List.filter_append, List.map_append]
  simp only [List.filter_cons, List.filter_nil]
  cases h : ((es.getD k default).stB && ((es.getD k default).addr == a))
  · simp only [Bool.false_eq_true, if_false, List.map_nil, List.append_nil]
  · simp only [if_true, List.map_cons, List.map_nil]; rfl
theorem wantTo_len (es : List Ev) (a : Int) (k : Nat) : (wantTo es a k).length ≤ k := by
  unfold wantTo
  rw [List.length_map]
  refine Nat.le_trans (List.length_filter_le _ _) (by simp)
theorem ownsRow_below {n₀ base k size : Nat} {e : TypeId} {v : Value} {xs : List Value} {w w' : World} (h : w.ownsRow base e size v k xs) (hb : Below n₀ w w') (hlt : w.heap.size ≤ n₀) : w'.ownsRow base e size v k xs := by
  refine ⟨h.1, ?_⟩
  rcases h.2 with hn | ⟨g, cap, cur, hv, hg, hbg, rest⟩
  · exact .inl hn
  · exact .inr ⟨g, cap, cur, hv, hg, (hb.block g (by have := (Array.getElem?_eq_some_iff.1 hbg).1; omega)).trans hbg, rest⟩
end Go.Proofs.Ytgeaaegkcbjhlaa
