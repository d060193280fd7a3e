/- An execution that may be, with one more event of a hart behind it. Plain. -/
import Derived.Test.YtnghoibkjphfmaaGreatPd4
import Derived.Test.YtnghoibkjphfmaaGreatPd7
import Derived.Test.YtnghoibkjphfmaaGreatPd9
namespace Go.Proofs.YtnghoibkjphfmaaGreat
theorem getD_snoc_lt {α : Type} {l : List α} {x d : α} {i : Nat} (h : i < l.length) : (l ++ [x]).getD i d = l.getD i d := by
  rw [List.getD_eq_getElem?_getD, List.getD_eq_getElem?_getD, List.getElem?_append_left h]
theorem getD_snoc_eq {α : Type} {l : List α} {x d : α} {i : Nat} (h : i = l.length) : (l ++ [x]).getD i d = x := by
  subst h
  rw [List.getD_eq_getElem?_getD, List.getElem?_append_right (Nat.le_refl _)]; simp
theorem hangs_snoc {es : List Ev} {e : Ev} {n : Nat} (hn : n < es.length) (l : List Int) : hangsB (es ++ [e]) n l = hangsB es n l := by
  unfold hangsB hangsTo
  rw [Bool.eq_iff_iff, List.all_eq_true, List.all_eq_true]
  refine forall_congr' fun i => forall_congr' fun _ => ?_
  unfold depOk
  by_cases h0 : l.getD i 0 < 0
  · rw [decide_eq_true h0]; simp
  by_cases h1 : (n : Int) ≤ l.getD i 0
  · rw [decide_eq_true h1]; simp
  rw [getD_snoc_lt (i := (l.getD i 0).toNat) (by omega), getD_snoc_lt hn]
theorem evPre_snoc {es : List Ev} {e : Ev} {n : Nat} (hn : n < es.length) : evPre (es ++ [e]) n = evPre es n := by
  unfold evPre
  rw [getD_snoc_lt hn, hangs_snoc hn, hangs_snoc hn, hangs_snoc hn]
theorem evOk_snoc {es : List Ev} {e : Ev} {ad : List Int} {n : Nat} (hn : n < es.length) : evOk (es ++ [e]) ad n = evOk es ad n := by
  unfold evOk
  rw [evPre_snoc hn, getD_snoc_lt hn, getD_snoc_lt (i := n - 1) (by omega)]
theorem addIn_mem {a : Int} : ∀ {l : List Int}, l.Pairwise (· < ·) → a ∈ l → addIn a l = l
  | [], _, h => by cases h
  | y :: r, hp, h => by
    rw [List.pairwise_cons] at hp
    unfold addIn
    rcases List.mem_cons.1 h with h | h
    · subst h
      split
      · omega
      · first | rfl | (split <;> first | rfl | omega)
    · have := hp.1 a h
      have ih := addIn_mem hp.2 h
      grind
theorem addrs_snoc {es : List Ev} {e : Ev} (h : e.kind ≠ 4 → e.addr ∈ addrsTo es) : addrsTo (es ++ [e]) = addrsTo es := by
  rw [addrsTo_snoc]
  split
  · rfl
  · rename_i h4; exact addIn_mem (addrsTo_rising es) (h h4)
theorem fromOk_snoc {es : List Ev} {e : Ev} {fs : List Int} {f : Int} {k : Nat} (hk : k < es.length) (hl : fs.length = es.length) (h : fromOk es fs k = true) : fromOk (es ++ [e]) (fs ++ [f]) k = true := by
  unfold fromOk at h ⊢
  rw [getD_snoc_lt hk, getD_snoc_lt (l := fs) (by omega)]
  simp only [Bool.or_eq_true, Bool.and_eq_true, Bool.not_eq_true', beq_iff_eq, decide_eq_false_iff_not, beq_eq_false_iff_ne] at h ⊢
  rcases h with h | ⟨⟨⟨⟨h1, h2⟩, h3⟩, h4⟩, h5⟩
  · exact Or.inl h
  · refine Or.inr ⟨⟨⟨⟨h1, h2⟩, h3⟩, by simp only [List.length_append, List.length_singleton]; omega⟩, ?_⟩
    unfold srcOk at h5 ⊢
    rw [getD_snoc_lt (by omega)]
    exact h5
theorem want_snoc {es : List Ev} {e : Ev} {a : Int} : wantTo (es ++ [e]) a (es ++ [e]).length = if (e.stB && (e.addr == a)) = true then wantTo es a es.length ++ [(es.length : Int)] else wantTo es a es.length := by
  rw [List.length_append, List.length_singleton, wantTo_succ, getD_snoc_eq rfl]
  have : wantTo (es ++ [e]) a es.length = wantTo es a es.length := by
    unfold wantTo
    congr 1
    refine List.filter_congr fun n hn => ?_
    rw [getD_snoc_lt (List.mem_range.1 hn)]
  rw [this]
theorem wantTo_lt (es : List Ev) (a : Int) : ∀ x ∈ wantTo es a es.length, x < (es.length : Int) := fun x hx => by
  unfold wantTo at hx
  obtain ⟨n, h1, rfl⟩ := List.mem_map.1 hx
  have := List.mem_range.1 (List.mem_filter.1 h1).1
  simp only [Int.ofNat_eq_natCast]; omega
theorem sortI_snoc {l w : List Int} {n : Int} (h : sortI l = w) (hw : ∀ x ∈ w, x < n) : sortI (l ++ [n]) = w ++ [n] := by
  have hp : (l ++ [n]).Perm (w ++ [n]) := List.Perm.append_right [n] (by rw [← h]; exact (List.mergeSort_perm l _).symm)
  have hs : w.Pairwise fun a b => decide (a ≤ b) = true := by
    rw [← h]; unfold sortI
    exact List.pairwise_mergeSort (fun a b c h1 h2 => by simp only [decide_eq_true_eq] at *; omega) (fun a b => by simp only [Bool.or_eq_true, decide_eq_true_eq]; omega) l
  have hs' : (w ++ [n]).Pairwise fun a b => decide (a ≤ b) = true := by
    rw [List.pairwise_append]
    exact ⟨hs, List.pairwise_singleton _ _, fun a ha b hb => by
      rw [List.mem_singleton.1 hb]; have := hw a ha; exact decide_eq_true (by omega)⟩
  have h2 : (sortI (l ++ [n])).Pairwise fun a b => decide (a ≤ b) = true := List.pairwise_mergeSort (fun a b c h1 h2 => by simp only [decide_eq_true_eq] at *; omega) (fun a b => by simp only [Bool.or_eq_true, decide_eq_true_eq]; omega) _
  exact ((List.mergeSort_perm (l ++ [n]) _).trans hp).eq_of_pairwise (fun a b _ _ h3 h4 => by simp only [decide_eq_true_eq] at *; omega) h2 hs'
/-- what the next event must be -/
structure Next (x : Ex) (e : Ev) (f : Int) : Prop where
  len : x.evs.length < 64
  k5 : e.kind ≠ 5
  bare : e.bareB = true
  a4 : e.addr % 4 = 0
  hangs : hangsB (x.evs ++ [e]) x.evs.length e.addrs = true ∧ hangsB (x.evs ++ [e]) x.evs.length e.datas = true ∧ hangsB (x.evs ++ [e]) x.evs.length e.ctrls = true
  hart : 0 ≤ e.hart ∧ e.hart < 4
  prev : x.evs.length = (addrsTo x.evs).length ∨ (x.evs.getD (x.evs.length - 1) default).hart ≤ e.hart
  addr : e.kind ≠ 4 → e.addr ∈ addrsTo x.evs
  src : (e.ldB = false ∧ f = -1) ∨ (e.ldB = true ∧ 0 ≤ f ∧ f < x.evs.length ∧ (x.evs.getD f.toNat default).stB = true ∧ (x.evs.getD f.toNat default).addr = e.addr ∧ (x.evs.getD f.toNat default).val = e.rval)
theorem check_of {x : Ex} (h1 : x.evs.length ≤ 64) (h2 : evsTo x.evs (addrsTo x.evs) x.evs.length = true) (h3 : fromB x.evs x.from_ = true) (h4 : orderB x.evs (addrsTo x.evs) x.order = true) : checkI x = 0 := by
  unfold checkI
  rw [if_neg (by omega), if_neg (by rw [h2]; decide), if_neg (by rw [h3]; decide), if_neg (by rw [h4]; decide)]
theorem check_snoc {x y : Ex} {e : Ev} {f : Int} (hc : checkI x = 0) (hn : Next x e f) (he : y.evs = x.evs ++ [e]) (hf : y.from_ = x.from_ ++ [f]) (hol : y.order.length = x.order.length)
    (ho : ∀ i, i < x.order.length → (y.order.getD i default).2 = if (e.stB && (e.addr == (addrsTo x.evs).getD i 0)) = true then (x.order.getD i default).2 ++ [(x.evs.length : Int)] else (x.order.getD i default).2) : checkI y = 0 ∧ addrsTo y.evs = addrsTo x.evs := by
  obtain ⟨h1, h2, h3, h4⟩ := check_zero hc
  have had : addrsTo y.evs = addrsTo x.evs := by rw [he]; exact addrs_snoc hn.addr
  refine ⟨check_of ?_ ?_ ?_ ?_, had⟩
  · rw [he, List.length_append, List.length_singleton]; have := hn.len; omega
  · rw [had, he]
    unfold evsTo at h2 ⊢
    rw [List.all_eq_true] at h2 ⊢
    intro n hnn
    rw [List.mem_range, List.length_append, List.length_singleton] at hnn
    rcases Nat.lt_or_ge n x.evs.length with hlt | hge
    · rw [evOk_snoc hlt]; exact h2 n (List.mem_range.2 hlt)
    · have e1 : n = x.evs.length := by omega
      subst e1
      have hal := addrsTo_len x.evs
      unfold evOk evPre
      rw [getD_snoc_eq rfl, hn.bare, hn.hangs.1, hn.hangs.2.1, hn.hangs.2.2, if_neg (by omega)]
      simp only [Bool.true_and, Bool.and_true, Bool.and_eq_true, beq_iff_eq, bne_iff_ne, decide_eq_true_eq, Bool.or_eq_true]
      refine ⟨hn.a4, ⟨⟨hn.k5, hn.hart.1⟩, hn.hart.2⟩, ?_⟩
      rcases hn.prev with hp | hp
      · left; omega
      · by_cases e2 : x.evs.length = (addrsTo x.evs).length
        · left; omega
        · right; rw [getD_snoc_lt (by omega)]; exact hp
  · have hl := from_len h3
    unfold fromB
    rw [he, hf]
    simp only [List.length_append, List.length_singleton, hl, decide_true, Bool.true_and]
    unfold fromTo
    rw [List.all_eq_true]
    intro k hk
    rw [List.mem_range] at hk
    rcases Nat.lt_or_ge k x.evs.length with hlt | hge
    · exact fromOk_snoc hlt hl (from_at h3 (by omega))
    · have e1 : k = x.evs.length := by omega
      subst e1
      unfold fromOk
      rw [getD_snoc_eq rfl, getD_snoc_eq (l := x.from_) hl.symm]
      rcases hn.src with ⟨g1, g2⟩ | ⟨g1, g2, g3, g4, g5, g6⟩
      · rw [g1, g2]; rfl
      · rw [g1]
        simp only [Bool.not_true, Bool.false_and, Bool.false_or, Bool.true_and, Bool.and_eq_true, Bool.not_eq_true', beq_eq_false_iff_ne, decide_eq_false_iff_not]
        refine ⟨⟨⟨by omega, by omega⟩, by simp only [List.length_append, List.length_singleton]; omega⟩, ?_⟩
        unfold srcOk
        rw [getD_snoc_lt (by omega), g4, g5, g6]
        simp
  · unfold orderB at h4 ⊢
    simp only [Bool.and_eq_true, decide_eq_true_eq] at h4 ⊢
    refine ⟨by rw [had, hol]; exact h4.1, ?_⟩
    have h5 := h4.2
    unfold rowsTo at h5 ⊢
    rw [List.all_eq_true] at h5 ⊢
    intro i hi
    rw [List.mem_range, hol] at hi
    have h6 := h5 i (List.mem_range.2 hi)
    have h7 := ho i hi
    rw [had]
    unfold rowOk at h6 ⊢
    simp only [Bool.and_eq_true, Bool.not_eq_true', beq_eq_false_iff_ne, bne_eq_false_iff_eq, beq_iff_eq] at h6 ⊢
    obtain ⟨⟨g1, g2⟩, g3⟩ := h6
    rw [he, want_snoc, h7]
    by_cases hs : (e.stB && (e.addr == (addrsTo x.evs).getD i 0)) = true
    · rw [if_pos hs, if_pos hs]
      refine ⟨⟨by simp, ?_⟩, sortI_snoc g3 (wantTo_lt _ _)⟩
      rw [getD_snoc_lt (by omega)]; exact g2
    · rw [if_neg hs, if_neg hs]
      exact ⟨⟨g1, g2⟩, g3⟩
theorem hangs_nil (es : List Ev) (n : Nat) : hangsB es n [] = true := rfl
end Go.Proofs.YtnghoibkjphfmaaGreat
/- The execution that OrderReserves builds: it may be. Plain. -/
namespace Go.Proofs.YtnghoibkjphfmaaGreat
/-- an event that hangs on none -/
def ev0 (hart kind addr val : Int) (rsv : Bool) : Ev := ⟨hart, kind, addr, val, 0, false, false, 0, 0, rsv, ⟨none, 0, 0⟩, ⟨none, 0, 0⟩, ⟨none, 0, 0⟩, [], [], []⟩
theorem ev0_ok {hart kind addr val : Int} {rsv : Bool} (h1 : -1 ≤ hart ∧ hart ≤ 3) (h2 : 0 ≤ kind ∧ kind ≤ 5) (h3 : 0 ≤ addr ∧ addr < 4294967296) (h4 : 0 ≤ val ∧ val < 4294967296) : (ev0 hart kind addr val rsv).ok := by
  unfold Ev.ok Ev.wf ev0
  exact ⟨⟨by dsimp only; omega, by dsimp only; omega, h3, h4, by dsimp only; omega, by dsimp only; omega, by dsimp only; omega⟩, Nat.zero_le _, Nat.zero_le _, Nat.zero_le _, rfl, rfl, rfl⟩
structure RvS where
  es : List Ev
  fs : List Int
  o0 : List Int
  o1 : List Int
def RvS.ex (s : RvS) : Ex := ⟨default, default, default, s.es, s.fs, [(default, s.o0), (default, s.o1)]⟩
def rvEv (i : Nat) (b : Int) : Ev := if b / 2 % 2 = 1 then ev0 0 2 (4 * (b % 2)) (1 + (i : Int)) (decide (b % 8 < 4)) else ev0 0 1 (4 * (b % 2)) 0 (decide (b % 8 < 4))
def rvStep (i : Nat) (b : Int) (s : RvS) : RvS :=
  ⟨s.es ++ [rvEv i b], s.fs ++ [if b / 2 % 2 = 1 then -1 else b % 2], if b / 2 % 2 = 1 ∧ b % 2 = 0 then s.o0 ++ [(s.es.length : Int)] else s.o0, if b / 2 % 2 = 1 ∧ b % 2 = 1 then s.o1 ++ [(s.es.length : Int)] else s.o1⟩
def rv0 : RvS := ⟨[ev0 (-1) 5 0 0 false, ev0 (-1) 5 4 0 false], [-1, -1], [0], [1]⟩
def rvTo (l : List Int) : Nat → RvS
  | 0 => rv0
  | i + 1 => rvStep i (l.getD i 0) (rvTo l i)
structure RvOk (s : RvS) (i : Nat) : Prop where
  check : checkI s.ex = 0
  ad : addrsTo s.es = [0, 4]
  len : s.es.length = i + 2
  fl : s.fs.length = i + 2
  l0 : s.o0.length ≤ i + 1
  l1 : s.o1.length ≤ i + 1
  e0 : s.es.getD 0 default = ev0 (-1) 5 0 0 false
  e1 : s.es.getD 1 default = ev0 (-1) 5 4 0 false
  hart : (s.es.getD (s.es.length - 1) default).hart ≤ 0
  ok : ∀ e ∈ s.es, e.ok
theorem rv_zero : RvOk rv0 0 := by
  refine ⟨?_, by decide, rfl, rfl, by decide, by decide, rfl, rfl, by decide, ?_⟩
  · refine check_of (by decide) (by decide) (by decide) ?_
    unfold orderB rowsTo
    rw [show List.range rv0.ex.order.length = [0, 1] from rfl]
    simp only [List.all_cons, List.all_nil, Bool.and_true]
    have h0 : sortI [0] = [0] := by unfold sortI; simp
    have h1 : sortI [1] = [1] := by unfold sortI; simp
    unfold rowOk
    rw [show (rv0.ex.order.getD 0 default).2 = [0] from rfl, show (rv0.ex.order.getD 1 default).2 = [1] from rfl, h0, h1]
    decide
  · intro e he
    simp only [rv0, List.mem_cons, List.not_mem_nil, or_false] at he
    rcases he with rfl | rfl <;> exact ev0_ok (by decide) (by decide) (by decide) (by decide)
theorem rv_succ {s : RvS} {i : Nat} {b : Int} (h : RvOk s i) (hi : i < 14) (hb : 0 ≤ b ∧ b < 256) : RvOk (rvStep i b s) (i + 1) := by
  have he : rvEv i b = ev0 0 (if b / 2 % 2 = 1 then 2 else 1) (4 * (b % 2)) (if b / 2 % 2 = 1 then 1 + (i : Int) else 0) (decide (b % 8 < 4)) := by unfold rvEv; split <;> rfl
  have hst : (rvEv i b).stB = decide (b / 2 % 2 = 1) := by rw [he]; unfold Ev.stB ev0; split <;> simp_all
  have hld : (rvEv i b).ldB = !decide (b / 2 % 2 = 1) := by rw [he]; unfold Ev.ldB ev0; split <;> simp_all
  have had : (rvEv i b).addr = 4 * (b % 2) := by rw [he]; rfl
  have h2 : b % 2 = 0 ∨ b % 2 = 1 := by omega
  have hn : Next s.ex (rvEv i b) (if b / 2 % 2 = 1 then -1 else b % 2) := by
    refine ⟨by show s.es.length < 64; rw [h.len]; omega, by rw [he]; unfold ev0; dsimp only; split <;> decide, ?_, by rw [had]; omega, ?_, by rw [he]; exact ⟨Int.le_refl 0, (by decide : (0 : Int) < 4)⟩, ?_, fun _ => ?_, ?_⟩
    · rw [he]; unfold Ev.bareB ev0; split <;> simp
    · rw [he]; exact ⟨hangs_nil _ _, hangs_nil _ _, hangs_nil _ _⟩
    · right
      rw [he]; exact h.hart
    · show _ ∈ addrsTo s.es
      rw [h.ad, had]
      rcases h2 with e | e <;> rw [e] <;> decide
    · by_cases hs : b / 2 % 2 = 1
      · left; rw [hld, if_pos hs]; simp [hs]
      · right
        rw [hld, if_neg hs]
        refine ⟨by simp [hs], by omega, by show b % 2 < (s.es.length : Int); rw [h.len]; omega, ?_⟩
        show ((s.es.getD (b % 2).toNat default).stB = true ∧ (s.es.getD (b % 2).toNat default).addr = (rvEv i b).addr ∧ (s.es.getD (b % 2).toNat default).val = (rvEv i b).rval)
        rw [had]
        have hr : (rvEv i b).rval = 0 := by rw [he]; rfl
        rw [hr]
        rcases h2 with e | e
        · rw [e, show (0 : Int).toNat = 0 from rfl, h.e0]; decide
        · rw [e, show (1 : Int).toNat = 1 from rfl, h.e1]; decide
  have hc := check_snoc (y := (rvStep i b s).ex) h.check hn rfl rfl rfl (fun k hk => by
    show ([(default, _), (default, _)].getD k (default : Sl × List Int)).2 = _
    have hsa : addrsTo s.ex.evs = [0, 4] := h.ad
    rw [hsa, hst, had]
    have hk2 : k = 0 ∨ k = 1 := by
      have : s.ex.order.length = 2 := rfl
      omega
    rcases hk2 with rfl | rfl
    · show (if b / 2 % 2 = 1 ∧ b % 2 = 0 then s.o0 ++ [(s.es.length : Int)] else s.o0) = if (decide (b / 2 % 2 = 1) && (4 * (b % 2) == 0)) = true then s.o0 ++ [(s.es.length : Int)] else s.o0
      simp only [Bool.and_eq_true, decide_eq_true_eq, beq_iff_eq]
      grind
    · show (if b / 2 % 2 = 1 ∧ b % 2 = 1 then s.o1 ++ [(s.es.length : Int)] else s.o1) = if (decide (b / 2 % 2 = 1) && (4 * (b % 2) == 4)) = true then s.o1 ++ [(s.es.length : Int)] else s.o1
      simp only [Bool.and_eq_true, decide_eq_true_eq, beq_iff_eq]
      grind)
  have hlen := h.len
  refine ⟨hc.1, hc.2.trans h.ad, ?_, ?_, ?_, ?_, ?_, ?_, ?_, ?_⟩
  · unfold rvStep; simp only [List.length_append, List.length_singleton]; omega
  · unfold rvStep; simp only [List.length_append, List.length_singleton]; have := h.fl; omega
  · unfold rvStep; dsimp only; have := h.l0; split <;> (try simp only [List.length_append, List.length_singleton]) <;> omega
  · unfold rvStep; dsimp only; have := h.l1; split <;> (try simp only [List.length_append, List.length_singleton]) <;> omega
  · show (s.es ++ [rvEv i b]).getD 0 default = _
    rw [getD_snoc_lt (by omega)]; exact h.e0
  · show (s.es ++ [rvEv i b]).getD 1 default = _
    rw [getD_snoc_lt (by omega)]; exact h.e1
  · show ((s.es ++ [rvEv i b]).getD ((s.es ++ [rvEv i b]).length - 1) default).hart ≤ 0
    rw [getD_snoc_eq (by simp), he]; exact Int.le_refl 0
  · intro e hm
    have hm' : e ∈ s.es ++ [rvEv i b] := hm
    rw [List.mem_append, List.mem_singleton] at hm'
    rcases hm' with hm' | hm'
    · exact h.ok e hm'
    · rw [hm', he]
      exact ev0_ok (by decide) (by split <;> decide) (by omega) (by split <;> omega)
theorem rv_ok (l : List Int) (hl : l.length ≤ 14) (hb : ∀ i, 0 ≤ l.getD i 0 ∧ l.getD i 0 < 256) : ∀ i, i ≤ l.length → RvOk (rvTo l i) i
  | 0, _ => rv_zero
  | i + 1, h => rv_succ (rv_ok l hl hb i (by omega)) (by omega) (hb i)
end Go.Proofs.YtnghoibkjphfmaaGreat
/- Rows that become plain, told cell by cell. -/
namespace Go.Proofs.YtnghoibkjphfmaaGreat
open Go.RowKit
section
variable {k s : Nat} {τ : Stamp} {rows : List (List TV)}
structure FrC (k : Nat) (τ : Stamp) (s : Nat) (rows : List (List TV)) (a b : List OV) : Prop where
  len : a.length = b.length
  cells : ∀ (o : Nat) (y' : OV), b[o]? = some y' → ∃ y : OV, a[o]? = some y ∧ Froz k τ s rows y y'
theorem frc_nil : FrC k τ s rows [] [] := ⟨rfl, fun o y' h => by simp at h⟩
theorem frc_cons {y y' : OV} {a b : List OV} (h : Froz k τ s rows y y') (hl : FrC k τ s rows a b) : FrC k τ s rows (y :: a) (y' :: b) :=
  ⟨by simp [hl.len], fun o z hz => by
    match o, hz with
    | 0, hz => cases hz; exact ⟨y, rfl, h⟩
    | o + 1, hz => exact hl.cells o z hz⟩
theorem frc_same {a : List OV} : FrC k τ s rows a a := ⟨rfl, fun _ y' h => ⟨y', h, .same y'⟩⟩
theorem frr_nil {q : Nat} : FrozR k τ s rows ⟨q, []⟩ ⟨q, []⟩ := FrozR.same _
theorem frr_cons {q : Nat} {a b : List OV} {l l' : List (List OV)} (h : FrC k τ s rows a b) (hl : FrozR k τ s rows ⟨q, l⟩ ⟨q, l'⟩) : FrozR k τ s rows ⟨q, a :: l⟩ ⟨q, b :: l'⟩ :=
  ⟨rfl, by simpa using hl.2.1, fun i row' hi => by
    match i, hi with
    | 0, hi => cases hi; exact ⟨a, rfl, h.len, h.cells⟩
    | i + 1, hi => exact hl.2.2 i row' hi⟩
theorem frr_set {q i : Nat} {a b : List OV} {l : List (List OV)} (h : FrC k τ s rows a b) : FrozR k τ s rows ⟨q, l.set i a⟩ ⟨q, l.set i b⟩ :=
  ⟨rfl, by simp, fun i' row' hi => by
    have hi' : (l.set i b)[i']? = some row' := hi
    by_cases e : i' = i
    · subst e
      have hlt : i' < l.length := by
        rcases Nat.lt_or_ge i' l.length with h | h
        · exact h
        · rw [List.getElem?_eq_none (by simpa using h)] at hi'; cases hi'
      rw [List.getElem?_set_self hlt] at hi'
      cases hi'
      exact ⟨a, List.getElem?_set_self hlt, h.len, h.cells⟩
    · rw [List.getElem?_set_ne (Ne.symm e)] at hi'
      exact ⟨row', by show (l.set i a)[i']? = _; rw [List.getElem?_set_ne (Ne.symm e)]; exact hi', rfl, fun _ y' h => ⟨y', h, .same y'⟩⟩⟩
/-- the rows of a store's rest stay -/
theorem fs_rest {σ : Store} {l : List (Nat × (Stamp × Row))} (h : ∀ j x, stL l j = some x → j ≠ k ∧ σ j = some x) : FrozS k τ s rows σ (stL l) := fun j τ' r' hj => ⟨(h j _ hj).1, r', (h j _ hj).2, FrozR.same _⟩
end
end Go.Proofs.YtnghoibkjphfmaaGreat
