/- The law's own known answer. -/
import Derived.Test.YtgeaaegkcbjhlaaGreatPc3
import Derived.Test.YtgeaaegkcbjhlaaGreatPc8
import Derived.Test.YtgeaaegkcbjhlaaGreatPc9
import Derived.Test.YtgeaaegkcbjhlaaGreatPc10
import Derived.Test.YtgeaaegkcbjhlaaGreatPc11
import Derived.Test.YtgeaaegkcbjhlaaGreatPc12
import Derived.Test.YtgeaaegkcbjhlaaGreatPc13
namespace Go.Proofs.YtgeaaegkcbjhlaaGreat
open Go.RowKit Go.Maps
def nilSl : Sl := ⟨none, 0, 0⟩
def ev0 (hart kind val rval : Int) : Ev := { (default : Ev) with hart := hart, kind := kind, val := val, rval := rval, av := nilSl, dv := nilSl, cv := nilSl }
def knEvs : List Ev := [ev0 (-1) 5 0 0, ev0 0 2 1 0, ev0 1 1 0 1]
def knX (B : Nat) : Ex := ⟨⟨some ⟨B, 0, none⟩, 3, 3⟩, ⟨some ⟨B + 1, 0, none⟩, 3, 3⟩, ⟨some ⟨B + 3, 0, none⟩, 1, 1⟩, knEvs, [-1, -1, 1], [(⟨some ⟨B + 2, 0, none⟩, 2, 2⟩, [0, 1])]⟩
def knC : Array Value := #[Value.int IntKind.i64 (-1), Value.int IntKind.i64 5, Value.int IntKind.u32 0, Value.int IntKind.u32 0, Value.int IntKind.u32 0, Value.bool false, Value.bool false, Value.int IntKind.i64 0, Value.int IntKind.i64 0, Value.bool false, Value.slice none 0 0, Value.slice none 0 0, Value.slice none 0 0, Value.int IntKind.i64 (0), Value.int IntKind.i64 2, Value.int IntKind.u32 0, Value.int IntKind.u32 1, Value.int IntKind.u32 0, Value.bool false, Value.bool false, Value.int IntKind.i64 0, Value.int IntKind.i64 0, Value.bool false, Value.slice none 0 0, Value.slice none 0 0, Value.slice none 0 0, Value.int IntKind.i64 (1), Value.int IntKind.i64 1, Value.int IntKind.u32 0, Value.int IntKind.u32 0, Value.int IntKind.u32 1, Value.bool false, Value.bool false, Value.int IntKind.i64 0, Value.int IntKind.i64 0, Value.bool false, Value.slice none 0 0, Value.slice none 0 0, Value.slice none 0 0]
def knW (w : World) : World :=
  ((((w.alloc (.cells knC 37)).alloc (.cells #[.int .i64 (-1), .int .i64 (-1), .int .i64 1] 3)).alloc (.cells #[.int .i64 0, .int .i64 1] 3)).alloc (.cells #[.slice (some ⟨w.heap.size + 1 + 1, 0, none⟩) 2 2] 23)).alloc
    (.cells #[.slice (some ⟨w.heap.size, 0, none⟩) 3 3, .slice (some ⟨w.heap.size + 1, 0, none⟩) 3 3, .slice (some ⟨w.heap.size + 1 + 1 + 1, 0, none⟩) 1 1] 26)
theorem knW_size (w : World) : (knW w).heap.size = w.heap.size + 5 := by simp [knW]
theorem knW_below (w : World) : Below w.heap.size w (knW w) := by
  unfold knW
  exact (((((Below.refl w.heap.size w).alloc (Nat.le_refl _) _).alloc (by simp) _).alloc (by simp <;> omega) _).alloc (by simp <;> omega) _).alloc (by simp <;> omega) _
theorem knW_0 (w : World) : (knW w).heap[w.heap.size]? = some (.cells knC 37 (0, 0)) := by
  unfold knW
  rw [Below.heap_alloc _ _ _ (by simp <;> omega), Below.heap_alloc _ _ _ (by simp <;> omega), Below.heap_alloc _ _ _ (by simp <;> omega), Below.heap_alloc _ _ _ (by simp)]
  exact World.alloc_heap_new w _
theorem knW_1 (w : World) : (knW w).heap[w.heap.size + 1]? = some (.cells #[.int .i64 (-1), .int .i64 (-1), .int .i64 1] 3 (0, 0)) := by
  unfold knW
  rw [Below.heap_alloc _ _ _ (by simp <;> omega), Below.heap_alloc _ _ _ (by simp <;> omega), Below.heap_alloc _ _ _ (by simp)]
  have := World.alloc_heap_new (w.alloc (.cells knC 37)) (.cells #[.int .i64 (-1), .int .i64 (-1), .int .i64 1] 3)
  rwa [World.size_alloc] at this
theorem knW_2 (w : World) : (knW w).heap[w.heap.size + 2]? = some (.cells #[.int .i64 0, .int .i64 1] 3 (0, 0)) := by
  unfold knW
  rw [Below.heap_alloc _ _ _ (by simp <;> omega), Below.heap_alloc _ _ _ (by simp)]
  have := World.alloc_heap_new ((w.alloc (.cells knC 37)).alloc (.cells #[.int .i64 (-1), .int .i64 (-1), .int .i64 1] 3)) (.cells #[.int .i64 0, .int .i64 1] 3)
  rwa [World.size_alloc, World.size_alloc] at this
theorem knW_3 (w : World) : (knW w).heap[w.heap.size + 3]? = some (.cells #[.slice (some ⟨w.heap.size + 1 + 1, 0, none⟩) 2 2] 23 (0, 0)) := by
  unfold knW
  rw [Below.heap_alloc _ _ _ (by simp)]
  have := World.alloc_heap_new (((w.alloc (.cells knC 37)).alloc (.cells #[.int .i64 (-1), .int .i64 (-1), .int .i64 1] 3)).alloc (.cells #[.int .i64 0, .int .i64 1] 3)) (.cells #[.slice (some ⟨w.heap.size + 1 + 1, 0, none⟩) 2 2] 23)
  rwa [World.size_alloc, World.size_alloc, World.size_alloc] at this
theorem cellOf {W : World} {b : Nat} {cs : Array Value} {t : TypeId} (h : W.heap[b]? = some (.cells cs t (0, 0))) (j : Nat) : W.cell? ⟨b, j, none⟩ = cs[j]? := by
  simp [World.cell?, h]
theorem knX_in (w : World) : (knX w.heap.size).inW (knW w).heap.size (knW w) := by
  have hs := knW_size w
  refine ⟨⟨rfl, by simp [knX, knEvs], ?_, Or.inr ⟨w.heap.size, 0, rfl, by omega, ?_⟩⟩, ⟨rfl, by simp [knX], Or.inr ⟨w.heap.size + 1, 0, rfl, by omega, ?_⟩⟩, ⟨rfl, by simp [knX], ?_, Or.inr ⟨w.heap.size + 3, 0, rfl, by omega, ?_⟩⟩⟩
  · intro e he
    have hn : ∀ B W, IntsIn .i64 B W nilSl [] := fun B W => ⟨rfl, by simp, Or.inl rfl⟩
    simp only [knX, knEvs, List.mem_cons, List.not_mem_nil, or_false] at he
    rcases he with rfl | rfl | rfl <;> exact ⟨hn _ _, hn _ _, hn _ _, by simp [ev0, Ev.wf]; decide⟩
  · intro k hk
    have hk3 : k < 3 := hk
    unfold EvCells
    simp only [cellOf (knW_0 w)]
    match k, hk3 with
    | 0, _ => refine ⟨?_, ?_, ?_, ?_, ?_, ?_, ?_, ?_, ?_, ?_, ?_, ?_, ?_⟩ <;> rfl
    | 1, _ => refine ⟨?_, ?_, ?_, ?_, ?_, ?_, ?_, ?_, ?_, ?_, ?_, ?_, ?_⟩ <;> rfl
    | 2, _ => refine ⟨?_, ?_, ?_, ?_, ?_, ?_, ?_, ?_, ?_, ?_, ?_, ?_, ?_⟩ <;> rfl
  · intro k hk
    have hk3 : k < 3 := hk
    simp only [cellOf (knW_1 w)]
    match k, hk3 with
    | 0, _ => rfl
    | 1, _ => rfl
    | 2, _ => rfl
  · intro r hr
    simp only [knX, List.mem_cons, List.not_mem_nil, or_false] at hr
    subst hr
    refine ⟨rfl, by simp, Or.inr ⟨w.heap.size + 2, 0, rfl, by omega, ?_⟩⟩
    intro k hk
    have hk3 : k < 2 := hk
    simp only [cellOf (knW_2 w)]
    match k, hk3 with
    | 0, _ => rfl
    | 1, _ => rfl
  · intro k hk
    have hk3 : k < 1 := hk
    simp only [cellOf (knW_3 w)]
    match k, hk3 with
    | 0, _ => rfl
theorem sort01 : sortI [0, 1] = [0, 1] := by
  unfold sortI
  exact List.mergeSort_of_pairwise (by decide)
theorem kn_ord : orderB knEvs [0] [((⟨none, 2, 2⟩ : Sl), [0, 1])] = true := by
  unfold orderB rowsTo rowOk
  simp only [List.length_cons, List.length_nil, List.range_succ, List.range_zero, List.nil_append, List.all_cons, List.all_nil, List.getD_cons_zero, sort01]
  decide
theorem kn_ad : addrsTo knEvs = [0] := by decide
theorem kn_ev : evsTo knEvs [0] 3 = true := by decide
theorem kn_from : fromB knEvs [-1, -1, 1] = true := by decide
theorem kn_check (B : Nat) : checkI (knX B) = 0 := by
  have h4 : orderB knEvs [0] [((⟨some ⟨B + 2, 0, none⟩, 2, 2⟩ : Sl), [0, 1])] = true := kn_ord
  unfold checkI knX
  simp only [kn_ad]
  rw [if_neg (by decide), if_neg (by rw [show knEvs.length = 3 from rfl, kn_ev]; simp), if_neg (by rw [kn_from]; simp), if_neg (by rw [h4]; simp)]
theorem sort1 (p : P2) : sortP [p] = [p] := by
  unfold sortP
  exact List.mergeSort_of_pairwise (by simp)
theorem kn_rf (B : Nat) : rfAns (knX B) = [mkP 1 2] := by
  unfold rfAns
  rw [if_pos (kn_check B)]
  have : rfL (knX B).from_ = [mkP 1 2] := by
    show rfL [-1, -1, 1] = _
    rfl
  rw [this, sort1]
theorem kn_acy : acyI 2 [(0, 1), (1, 0)] = false := by decide
theorem knW_4 (w : World) : (knW w).heap[w.heap.size + 4]? = some (.cells #[.slice (some ⟨w.heap.size, 0, none⟩) 3 3, .slice (some ⟨w.heap.size + 1, 0, none⟩) 3 3, .slice (some ⟨w.heap.size + 1 + 1 + 1, 0, none⟩) 1 1] 26 (0, 0)) := by
  unfold knW
  have := World.alloc_heap_new ((((w.alloc (.cells knC 37)).alloc (.cells #[.int .i64 (-1), .int .i64 (-1), .int .i64 1] 3)).alloc (.cells #[.int .i64 0, .int .i64 1] 3)).alloc (.cells #[.slice (some ⟨w.heap.size + 1 + 1, 0, none⟩) 2 2] 23))
    (.cells #[.slice (some ⟨w.heap.size, 0, none⟩) 3 3, .slice (some ⟨w.heap.size + 1, 0, none⟩) 3 3, .slice (some ⟨w.heap.size + 1 + 1 + 1, 0, none⟩) 1 1] 26)
  rwa [World.size_alloc, World.size_alloc, World.size_alloc, World.size_alloc] at this
theorem kn_rows (B : Nat) : ∀ r ∈ (knX B).order, r.2.length ≤ 65536 := by
  intro r hr
  simp only [knX, List.mem_cons, List.not_mem_nil, or_false] at hr
  subst hr
  show 2 ≤ 65536
  omega
theorem kn_graph (W : World) : PairsZ (W.alloc (.cells #[.int .i64 0, .int .i64 1, .int .i64 1, .int .i64 0] 41)).heap.size (W.alloc (.cells #[.int .i64 0, .int .i64 1, .int .i64 1, .int .i64 0] 41)) ⟨some ⟨W.heap.size, 0, none⟩, 2, 2⟩ [(0, 1), (1, 0)] := by
  refine ⟨rfl, by simp, Or.inr ⟨W.heap.size, 0, rfl, by simp, ?_⟩⟩
  intro k hk
  have hk2 : k < 2 := hk
  simp only [cellOf (World.alloc_heap_new W (.cells #[.int .i64 0, .int .i64 1, .int .i64 1, .int .i64 0] 41))]
  match k, hk2 with
  | 0, _ => exact ⟨rfl, rfl⟩
  | 1, _ => exact ⟨rfl, rfl⟩
set_option maxRecDepth 1000000 in
set_option maxHeartbeats 2000000 in
theorem known_c (w : World) : Calls Tryz.prog 5 #[] w fun o w' => o = .returned (.bool true) ∧ Below w.heap.size w w' := by
  go_enter Tryz.func5, Tryz.ntmps5
  go_upto_region 2 with (fail)
  change Code.wp _ _ _ _ (knW w)
  have hb0 := knW_below w
  have hs := knW_size w
  have RC : Hid (Calls Tryz.prog 7 #[.agg #[.slice (some ⟨w.heap.size, 0, none⟩) 3 3, .slice (some ⟨w.heap.size + 1, 0, none⟩) 3 3, .slice (some ⟨w.heap.size + 1 + 1 + 1, 0, none⟩) 1 1]] (knW w) fun o w' => ∃ s : Sl, o = .returned (.slice s.a s.n s.c) ∧ PairsIn w'.heap.size w' s [mkP 1 2] ∧ Below (knW w).heap.size (knW w) w') := Lib.hid (by
    have t := rf_c (knX w.heap.size) (knW w) (knX_in w) (kn_rows _)
    rw [kn_rf] at t; exact t)
  have CC : Hid (∀ W, Below (knW w).heap.size (knW w) W → Calls Tryz.prog 13 #[.agg #[.slice (some ⟨w.heap.size, 0, none⟩) 3 3, .slice (some ⟨w.heap.size + 1, 0, none⟩) 3 3, .slice (some ⟨w.heap.size + 1 + 1 + 1, 0, none⟩) 1 1]] W fun o w' => o = .returned (.int .i64 0) ∧ Below W.heap.size W w') := Lib.hid (fun W hW => by
    have t := check_c (knX w.heap.size) W (Ex.inW.later (knX_in w) hW) (kn_rows _)
    rw [kn_check] at t; exact t)
  have c0 : (knW w).cell? ⟨w.heap.size + 1 + 1 + 1 + 1, 0, none⟩ = some (.slice (some ⟨w.heap.size, 0, none⟩) 3 3) := (cellOf (knW_4 w) 0).trans rfl
  have c1 : (knW w).cell? ⟨w.heap.size + 1 + 1 + 1 + 1, 1, none⟩ = some (.slice (some ⟨w.heap.size + 1, 0, none⟩) 3 3) := (cellOf (knW_4 w) 1).trans rfl
  have c2 : (knW w).cell? ⟨w.heap.size + 1 + 1 + 1 + 1, 2, none⟩ = some (.slice (some ⟨w.heap.size + 1 + 1 + 1, 0, none⟩) 1 1) := (cellOf (knW_4 w) 2).trans rfl
  obtain ⟨W1, hW1⟩ : ∃ W1, knW w = W1 := ⟨_, rfl⟩
  rw [hW1] at RC CC c0 c1 c2 hb0 hs ⊢
  clear hW1
  go_wp2_with fail
  refine RC.out.mono ?_; rintro o w1 ⟨⟨sa, sn, sc⟩, rfl, ⟨hn, _, hrow⟩, hb1⟩
  have hn1 : sn = 1 := hn
  subst hn1
  obtain ⟨pb, po, hsa, hpb, hpc⟩ := hrow.resolve_left (by simp)
  dsimp only at hsa
  subst hsa
  dsimp only
  have p0 : w1.cell? ⟨pb, po, none⟩ = some (.int .i64 1) := (hpc 0 (by simp)).1
  have p1 : w1.cell? ⟨pb, po + 1, none⟩ = some (.int .i64 2) := (hpc 0 (by simp)).2
  have d0 := (hb1.cell (p := ⟨w.heap.size + 1 + 1 + 1 + 1, 0, none⟩) (by show w.heap.size + 1 + 1 + 1 + 1 < W1.heap.size; omega)).trans c0
  have d1 := (hb1.cell (p := ⟨w.heap.size + 1 + 1 + 1 + 1, 1, none⟩) (by show w.heap.size + 1 + 1 + 1 + 1 < W1.heap.size; omega)).trans c1
  have d2 := (hb1.cell (p := ⟨w.heap.size + 1 + 1 + 1 + 1, 2, none⟩) (by show w.heap.size + 1 + 1 + 1 + 1 < W1.heap.size; omega)).trans c2
  clear hpc hn hrow c0 c1 c2
  go_wp2_with fail
  refine (CC.out w1 hb1).mono ?_; rintro o w2 ⟨rfl, hb2⟩
  have e0 : w2.cell? ⟨pb, po, none⟩ = some (.int .i64 1) := (hb2.cell (p := ⟨pb, po, none⟩) hpb).trans p0
  have e1 : w2.cell? ⟨pb, po + 1, none⟩ = some (.int .i64 2) := (hb2.cell (p := ⟨pb, po + 1, none⟩) hpb).trans p1
  have AC := Lib.hid (acyclic_c 2 _ _ _ (kn_graph w2) (by simp))
  rw [kn_acy] at AC
  have HB : Hid (∀ W, Below (w2.alloc (.cells #[.int .i64 0, .int .i64 1, .int .i64 1, .int .i64 0] 41)).heap.size (w2.alloc (.cells #[.int .i64 0, .int .i64 1, .int .i64 1, .int .i64 0] 41)) W → Below w.heap.size w W) := Lib.hid (fun W h =>
    (hb0.trans ((hb1.trans (hb2.mono hb1.size)).mono (by omega))).trans ((((Below.refl w2.heap.size w2).alloc (Nat.le_refl _) _).trans (h.mono (by simp))).mono (by have := hb1.size; have := hb2.size; omega)))
  clear d0 d1 d2 p0 p1
  go_wp2_with fail
  refine AC.out.mono ?_; rintro o w3 ⟨rfl, hb3⟩
  go_wp2
  go_ret
  exact ⟨rfl, HB.out _ hb3⟩
end Go.Proofs.YtgeaaegkcbjhlaaGreat
/- known() of the laws of layer 6, in plain data. -/
set_option maxRecDepth 100000
set_option linter.unusedVariables false
namespace Go.Proofs.YtgeaaegkcbjhlaaGreat
open Go.RowKit
theorem known_p : Pure E.P 5 [] (.bool true) :=
  pure_of ⟨_, Tryz.func5, by decide, rfl⟩ rfl fun G w vs hr _ => by
    rw [RepOL] at hr; subst hr; exact known_c w
end Go.Proofs.YtgeaaegkcbjhlaaGreat
/- wide, and known, of the laws of layer 6, in plain data. -/
set_option maxRecDepth 100000
set_option linter.unusedVariables false
set_option linter.unusedSimpArgs false
namespace Go.Proofs.YtgeaaegkcbjhlaaGreat
open Go.RowKit
def Ev.lens (e : Ev) : Nat := e.addrs.length + e.datas.length + e.ctrls.length
def sumE (es : List Ev) (k : Nat) : Nat := ((es.take k).map Ev.lens).sum
def sumR (rows : List (Sl × List Int)) (k : Nat) : Nat := ((rows.take k).map fun r => r.2.length).sum
/-- is it more than is done? -/
def wideB (x : Ex) : Bool := decide (70 < x.evs.length) || decide (200 < x.from_.length) || decide (200 < x.order.length) || decide (400 < x.from_.length + sumR x.order x.order.length) || decide (400 < x.from_.length + sumR x.order x.order.length + sumE x.evs x.evs.length)
theorem sumE_succ (es : List Ev) (k : Nat) (h : k < es.length) : sumE es (k + 1) = sumE es k + (es.getD k default).lens := by
  unfold sumE; rw [take_getD es default k h]; simp
theorem sumR_succ (rows : List (Sl × List Int)) (k : Nat) (h : k < rows.length) : sumR rows (k + 1) = sumR rows k + (rows.getD k default).2.length := by
  unfold sumR; rw [take_getD rows default k h]; simp
theorem sum_take_le (l : List Nat) (k : Nat) : (l.take k).sum ≤ l.sum := by
  have h := congrArg List.sum (List.take_append_drop k l)
  rw [List.sum_append] at h
  omega
theorem sumE_le (es : List Ev) (k : Nat) : sumE es k ≤ sumE es es.length := by
  unfold sumE
  rw [List.take_length, List.map_take]; exact sum_take_le _ _
theorem sumR_le (rows : List (Sl × List Int)) (k : Nat) : sumR rows k ≤ sumR rows rows.length := by
  unfold sumR
  rw [List.take_length, List.map_take]; exact sum_take_le _ _
theorem wide_true1 {x : Ex} (h : 70 < x.evs.length ∨ 200 < x.from_.length ∨ 200 < x.order.length) : true = wideB x := by
  unfold wideB
  rcases h with h | h | h <;> simp [h]
theorem wide_true2 {x : Ex} {k : Nat} (h : 400 < x.from_.length + sumR x.order k) : true = wideB x := by
  have := sumR_le x.order k
  unfold wideB
  have h : 400 < x.from_.length + sumR x.order x.order.length := by omega
  simp [h]
theorem wide_true3 {x : Ex} {k : Nat} (h : 400 < x.from_.length + sumR x.order x.order.length + sumE x.evs k) : true = wideB x := by
  have := sumE_le x.evs k
  unfold wideB
  have h : 400 < x.from_.length + sumR x.order x.order.length + sumE x.evs x.evs.length := by omega
  simp [h]
theorem Ex.ok.ev {x : Ex} (h : x.ok) (i : Nat) : (x.evs.getD i default).addrs.length ≤ 1152921504606846976 ∧ (x.evs.getD i default).datas.length ≤ 1152921504606846976 ∧ (x.evs.getD i default).ctrls.length ≤ 1152921504606846976 := by
  rcases Nat.lt_or_ge i x.evs.length with hh | hh
  · rw [List.getD_eq_getElem?_getD, List.getElem?_eq_getElem hh]
    have := h.2.1 _ (List.getElem_mem hh)
    exact ⟨this.2.1, this.2.2.1, this.2.2.2.1⟩
  · rw [List.getD_eq_getElem?_getD, List.getElem?_eq_none hh]
    decide
theorem Ex.ok.row {x : Ex} (h : x.ok) (i : Nat) : (x.order.getD i default).2.length ≤ 1152921504606846976 := by
  rcases Nat.lt_or_ge i x.order.length with hh | hh
  · rw [List.getD_eq_getElem?_getD, List.getElem?_eq_getElem hh]
    exact h.2.2.2.2 _ (List.getElem_mem hh)
  · rw [List.getD_eq_getElem?_getD, List.getElem?_eq_none hh]
    decide
theorem wide_row {x : Ex} (h : wideB x = false) : ∀ r ∈ x.order, r.2.length ≤ 400 := fun r hr => by
  unfold wideB at h
  simp only [Bool.or_eq_false_iff, decide_eq_false_iff_not] at h
  obtain ⟨i, hi, rfl⟩ := List.mem_iff_getElem.1 hr
  have h1 := sumR_succ x.order i hi
  have h2 := sumR_le x.order (i + 1)
  rw [List.getD_eq_getElem?_getD, List.getElem?_eq_getElem hi] at h1
  simp only [Option.getD_some] at h1
  omega
set_option maxHeartbeats 4000000 in
theorem wide_p (x : Ex) (hok : x.ok) : Pure E.P 4 [exOV x] (.bool (wideB x)) := by
  have hev := hok.ev
  have hrw := hok.row
  obtain ⟨hx, _, hf, ho, _⟩ := hok
  refine fn_of_awp Tryz.func4 (by decide) rfl Tryz.ntmps4 (Nat.le_of_ble_eq_true rfl) rfl ?_
  (with_reducible refine awp_seq ?_)
  ((with_reducible refine ao_region ?_ (fun _ => ?_)); exact rfl)
  ((with_reducible apply S_box); exact rfl; exact rfl; exact rfl)
  ((with_reducible apply S_assign); exact rfl)
  (with_reducible refine ao_nil ?_)
  (with_reducible refine then_n ?_)
  (with_reducible refine awp_seq ?_)
  ((with_reducible refine ao_region ?_ (fun _ => ?_)); exact rfl)
  ((with_reducible apply S_fieldAddr_lo); exact rfl; exact rfl; exact rfl; exact rfl; decide; exact rfl)
  ((with_reducible apply S_load_lo); exact rfl; exact rfl; exact rfl; exact rfl; (first | exact rfl | exact get_map (by omega) (0 : Int) | exact get_map (by omega) default); exact rfl)
  ((with_reducible apply S_len); exact rfl; exact rfl; exact rfl; (first | exact len_ints _ | exact len_map _ _ _ | exact len_sl _ _ | exact len_os _ _ _ _ | exact len_vw _ _ _ _ _ | exact len_nil))
  ((with_reducible apply S_assign); exact rfl)
  (with_reducible refine ao_nil ?_)
  (with_reducible refine then_n ?_)
  iterate 2 (with_reducible refine awp_seq ?_)
  ((with_reducible refine ao_region ?_ (fun _ => ?_)); exact rfl)
  ((with_reducible apply S_fieldAddr_lo); exact rfl; exact rfl; exact rfl; exact rfl; decide; exact rfl)
  ((with_reducible apply S_load_lo); exact rfl; exact rfl; exact rfl; exact rfl; (first | exact rfl | exact get_map (by omega) (0 : Int) | exact get_map (by omega) default); exact rfl)
  ((with_reducible apply S_len); exact rfl; exact rfl; exact rfl; (first | exact len_ints _ | exact len_map _ _ _ | exact len_sl _ _ | exact len_os _ _ _ _ | exact len_vw _ _ _ _ _ | exact len_nil))
  ((with_reducible apply S_gtr); exact rfl; exact rfl)
  ((with_reducible apply S_move); exact rfl)
  ((with_reducible apply spec_f); exact rfl; exact rfl)
  ((with_reducible refine im_any (fun hc_ => ?_)); (try have hc1_ := (band hc_).1))
  ((with_reducible apply M_move); (first | (refine EvM.mb _ rfl ?_; first | assumption | exact rfl) | exact EvM.plain rfl rfl))
  ((with_reducible apply spec_f); exact rfl; exact rfl)
  ((with_reducible refine im_any (fun hc_ => ?_)); (try have hc1_ := (band hc_).1))
  ((with_reducible apply M_gtr); (first | (refine EvM.mb _ rfl ?_; first | assumption | exact rfl) | exact EvM.plain rfl rfl); (first | (refine EvM.mb _ rfl ?_; first | assumption | exact rfl) | exact EvM.plain rfl rfl))
  ((with_reducible apply S_pick_or); (first | (refine EvM.mb _ rfl ?_; first | assumption | exact rfl) | exact EvM.plain rfl rfl); exact rfl; (first | (refine EvB.mb _ rfl ?_; first | exact fun h => h | exact fun h => bnot_mk h | exact fun h => band_mk (by assumption) h | exact fun h => band_mk (by assumption) (bnot_mk h) | (intro h; simp_all)) | exact EvB.plain rfl))
  ((with_reducible apply S_move); exact rfl)
  ((with_reducible apply spec_f); exact rfl; exact rfl)
  ((with_reducible refine im_any (fun hc_ => ?_)); (try have hc1_ := (band hc_).1))
  ((with_reducible apply M_fieldAddr_lo); exact rfl; exact rfl; exact rfl; exact rfl; decide; (first | (refine EvM.mb _ rfl ?_; first | assumption | exact rfl) | exact EvM.plain rfl rfl))
  ((with_reducible apply spec_f); exact rfl; exact rfl)
  ((with_reducible refine im_any (fun hc_ => ?_)); (try have hc1_ := (band hc_).1))
  ((with_reducible apply M_load_lo); exact rfl; exact rfl; (first | (refine EvM.mb _ rfl ?_; first | assumption | exact rfl) | exact EvM.plain rfl rfl); exact rfl; exact rfl; exact rfl)
  ((with_reducible apply spec_f); exact rfl; exact rfl)
  ((with_reducible refine im_any (fun hc_ => ?_)); (try have hc1_ := (band hc_).1))
  ((with_reducible apply M_len); exact rfl; exact rfl; (first | (refine EvM.mb _ rfl ?_; first | assumption | exact rfl) | exact EvM.plain rfl rfl); (first | exact len_ints _ | exact len_map _ _ _ | exact len_sl _ _ | exact len_os _ _ _ _ | exact len_vw _ _ _ _ _ | exact len_nil))
  ((with_reducible apply spec_f); exact rfl; exact rfl)
  ((with_reducible refine im_any (fun hc_ => ?_)); (try have hc1_ := (band hc_).1))
  ((with_reducible apply M_gtr); (first | (refine EvM.mb _ rfl ?_; first | assumption | exact rfl) | exact EvM.plain rfl rfl); (first | (refine EvM.mb _ rfl ?_; first | assumption | exact rfl) | exact EvM.plain rfl rfl))
  ((with_reducible apply S_pick_or); (first | (refine EvM.mb _ rfl ?_; first | assumption | exact rfl) | exact EvM.plain rfl rfl); exact rfl; (first | (refine EvB.mb _ rfl ?_; first | exact fun h => h | exact fun h => bnot_mk h | exact fun h => band_mk (by assumption) h | exact fun h => band_mk (by assumption) (bnot_mk h) | (intro h; simp_all)) | exact EvB.plain rfl))
  (with_reducible refine ao_nil ?_)
  (with_reducible refine then_n ?_)
  ((with_reducible apply awp_cond); exact rfl)
  ((with_reducible refine im_ot (fun hc_ => ?_)); (try simp only [Bool.not_eq_true', Bool.not_eq_false', Bool.or_eq_true, Bool.and_eq_true, Bool.or_eq_false_iff, Bool.and_eq_false_iff, decide_eq_true_eq, decide_eq_false_iff_not, Decidable.not_not, Int.not_lt, Int.not_le, Bool.not_true, Bool.not_false, Bool.true_and, Bool.and_true, Bool.false_or, Bool.or_false, Bool.true_or, Bool.false_and, bne_eq_false_iff_eq, bne_iff_ne, beq_iff_eq, beq_eq_false_iff_ne, decide_eq_decide] at hc_))
  (with_reducible refine awp_seq ?_)
  ((with_reducible refine ao_region ?_ (fun _ => ?_)); exact rfl)
  ((with_reducible apply S_assign); exact rfl)
  (with_reducible refine ao_nil ?_)
  (with_reducible refine then_n ?_)
  (with_reducible refine awp_ret ?_)
  (with_reducible refine then_r ?_)
  rotate_left
  iterate 2 (with_reducible refine im_of ?_)
  iterate 3 ((with_reducible refine im_df (fun _ => ?_)); (try (exfalso; omega)))
  (with_reducible refine awp_skip ?_)
  (with_reducible refine then_n ?_)
  iterate 2 (with_reducible refine awp_seq ?_)
  ((with_reducible refine ao_region ?_ (fun _ => ?_)); exact rfl)
  ((with_reducible apply S_assign); exact rfl)
  (with_reducible refine ao_nil ?_)
  (with_reducible refine then_n ?_)
  (with_reducible refine awp_block ?_)
  rotate_left
  · exact done_b rfl (wide_true1 (by omega))
  rename_i v1 _ _ g1 g2 g3 _
  refine awp_loop (X := Nat) (fun k => tmL [(1, .lo 1 (v1, 0) 3 0 0), (3, .int .i64 ((x.from_.length + sumR x.order k : Nat) : Int)), (4, .int .i64 k)]) (fun _ => stL [(1, ((v1, 0), ⟨3, [(exOV x).cells]⟩))])
    (fun k => k ≤ x.order.length ∧ x.from_.length + sumR x.order k ≤ 400) (fun k => x.order.length - k) 0 ⟨Nat.zero_le _, by simp [sumR]; omega⟩ (by repeat' (first | exact le_nil _ | exact sle_nil _ | refine le_cons rfl ?_ | refine sle_cons rfl ?_ | (refine le_cons_os rfl ?_ ?_; (simp [sumR])) | (refine le_cons_int rfl ?_ ?_; (simp [sumR])) | (refine sle_cons' rfl ?_ ?_; (simp [sumR])))) (by repeat' (first | exact le_nil _ | exact sle_nil _ | refine le_cons rfl ?_ | refine sle_cons rfl ?_)) ?_
  rintro k ⟨hk, hn⟩
  have hr := hrw (k : Int).toNat
  iterate 2 (with_reducible refine awp_seq ?_)
  ((with_reducible refine ao_region ?_ (fun _ => ?_)); exact rfl)
  ((with_reducible apply S_move); exact rfl)
  ((with_reducible apply S_fieldAddr_lo); exact rfl; exact rfl; exact rfl; exact rfl; decide; exact rfl)
  ((with_reducible apply S_load_lo); exact rfl; exact rfl; exact rfl; exact rfl; (first | exact rfl | exact get_map (by omega) (0 : Int) | exact get_map (by omega) default); exact rfl)
  ((with_reducible apply S_len); exact rfl; exact rfl; exact rfl; (first | exact len_ints _ | exact len_map _ _ _ | exact len_sl _ _ | exact len_os _ _ _ _ | exact len_vw _ _ _ _ _ | exact len_nil))
  ((with_reducible apply S_lss); exact rfl; exact rfl)
  (with_reducible refine ao_nil ?_)
  (with_reducible refine then_n ?_)
  ((with_reducible apply awp_cond); exact rfl)
  ((with_reducible refine im_dt (fun _ => ?_)); (try (exfalso; omega)))
  (with_reducible refine awp_skip ?_)
  (with_reducible refine then_n ?_)
  (with_reducible refine awp_seq ?_)
  (with_reducible refine awp_block ?_)
  (with_reducible refine awp_seq ?_)
  ((with_reducible refine ao_region ?_ (fun _ => ?_)); exact rfl)
  ((with_reducible apply S_move); exact rfl)
  ((with_reducible apply S_fieldAddr_lo); exact rfl; exact rfl; exact rfl; exact rfl; decide; exact rfl)
  ((with_reducible apply S_load_lo); exact rfl; exact rfl; exact rfl; exact rfl; (first | exact rfl | exact get_map (by omega) (0 : Int) | exact get_map (by omega) default); exact rfl)
  ((with_reducible apply S_move); exact rfl)
  ((with_reducible apply S_indexAddr_sl); exact rfl; exact rfl; exact rfl; exact rfl; exact rfl; exact rfl; omega; (first | exact get_int (by omega) | exact get_map (by omega) default | assumption))
  ((with_reducible apply S_load_pt); exact rfl; exact rfl; exact rfl; exact rfl)
  ((with_reducible apply S_len); exact rfl; exact rfl; exact rfl; (first | exact len_ints _ | exact len_map _ _ _ | exact len_sl _ _ | exact len_os _ _ _ _ | exact len_vw _ _ _ _ _ | exact len_nil))
  ((with_reducible apply S_add64); exact rfl; exact rfl; omega)
  ((with_reducible apply S_assign); exact rfl)
  (with_reducible refine ao_nil ?_)
  (with_reducible refine then_n ?_)
  (with_reducible refine awp_seq ?_)
  ((with_reducible refine ao_region ?_ (fun _ => ?_)); exact rfl)
  ((with_reducible apply S_move); exact rfl)
  ((with_reducible apply S_gtr); exact rfl; exact rfl)
  (with_reducible refine ao_nil ?_)
  (with_reducible refine then_n ?_)
  ((with_reducible apply awp_cond); exact rfl)
  ((with_reducible refine im_dt (fun _ => ?_)); (try (exfalso; omega)))
  (with_reducible refine awp_seq ?_)
  ((with_reducible refine ao_region ?_ (fun _ => ?_)); exact rfl)
  ((with_reducible apply S_assign); exact rfl)
  (with_reducible refine ao_nil ?_)
  (with_reducible refine then_n ?_)
  (with_reducible refine awp_ret ?_)
  (with_reducible refine blk_r ?_)
  iterate 2 (with_reducible refine then_r ?_)
  (with_reducible refine blk_r ?_)
  (with_reducible refine then_r ?_)
  rotate_left
  ((with_reducible refine im_df (fun _ => ?_)); (try (exfalso; omega)))
  (with_reducible refine awp_skip ?_)
  (with_reducible refine blk_n ?_)
  (with_reducible refine then_n ?_)
  ((with_reducible refine ao_region ?_ (fun _ => ?_)); exact rfl)
  ((with_reducible apply S_move); exact rfl)
  ((with_reducible apply S_add64); exact rfl; exact rfl; omega)
  ((with_reducible apply S_assign); exact rfl)
  (with_reducible refine ao_nil ?_)
  (with_reducible refine then_n ?_)
  rotate_left
  ((with_reducible refine im_df (fun _ => ?_)); (try (exfalso; omega)))
  (with_reducible refine awp_exit ?_)
  iterate 2 (with_reducible refine then_x ?_)
  (with_reducible refine blk_x ?_)
  (with_reducible refine then_n ?_)
  iterate 2 (with_reducible refine awp_seq ?_)
  ((with_reducible refine ao_region ?_ (fun _ => ?_)); exact rfl)
  ((with_reducible apply S_assign); exact rfl)
  (with_reducible refine ao_nil ?_)
  (with_reducible refine then_n ?_)
  (with_reducible refine awp_block ?_)
  rotate_left
  · refine done_b rfl (wide_true2 (k := k + 1) ?_)
    rename_i h _
    rw [sumR_succ _ _ (by omega)]
    rw [Int.toNat_natCast] at h
    omega
  · have hs := sumR_succ x.order k (by omega)
    rename_i h _
    rw [Int.toNat_natCast] at h
    refine round' (k + 1) ⟨by omega, by omega⟩ (by omega) (by repeat' (first | exact le_nil _ | exact sle_nil _ | refine le_cons rfl ?_ | refine sle_cons rfl ?_ | (refine le_cons_os rfl ?_ ?_; (rw [hs, Int.toNat_natCast]; omega)) | (refine le_cons_int rfl ?_ ?_; (rw [hs, Int.toNat_natCast]; omega)) | (refine sle_cons' rfl ?_ ?_; (rw [hs, Int.toNat_natCast]; omega)))) (by repeat' (first | exact le_nil _ | exact sle_nil _ | refine le_cons rfl ?_ | refine sle_cons rfl ?_))
  have e : k = x.order.length := by omega
  subst e
  refine awp_loop (X := Nat) (fun i => tmL [(1, .lo 1 (v1, 0) 3 0 0), (3, .int .i64 ((x.from_.length + sumR x.order x.order.length + sumE x.evs i : Nat) : Int)), (5, .int .i64 i)]) (fun _ => stL [(1, ((v1, 0), ⟨3, [(exOV x).cells]⟩))])
    (fun i => i ≤ x.evs.length ∧ x.from_.length + sumR x.order x.order.length + sumE x.evs i ≤ 400) (fun i => x.evs.length - i) 0 ⟨Nat.zero_le _, by simpa [sumE] using hn⟩ (by repeat' (first | exact le_nil _ | exact sle_nil _ | refine le_cons rfl ?_ | refine sle_cons rfl ?_ | (refine le_cons_os rfl ?_ ?_; (simp [sumE])) | (refine le_cons_int rfl ?_ ?_; (simp [sumE])) | (refine sle_cons' rfl ?_ ?_; (simp [sumE])))) (by repeat' (first | exact le_nil _ | exact sle_nil _ | refine le_cons rfl ?_ | refine sle_cons rfl ?_)) ?_
  rintro i ⟨hi, hm⟩
  have he := hev (i : Int).toNat
  iterate 2 (with_reducible refine awp_seq ?_)
  ((with_reducible refine ao_region ?_ (fun _ => ?_)); exact rfl)
  ((with_reducible apply S_move); exact rfl)
  ((with_reducible apply S_fieldAddr_lo); exact rfl; exact rfl; exact rfl; exact rfl; decide; exact rfl)
  ((with_reducible apply S_load_lo); exact rfl; exact rfl; exact rfl; exact rfl; (first | exact rfl | exact get_map (by omega) (0 : Int) | exact get_map (by omega) default); exact rfl)
  ((with_reducible apply S_len); exact rfl; exact rfl; exact rfl; (first | exact len_ints _ | exact len_map _ _ _ | exact len_sl _ _ | exact len_os _ _ _ _ | exact len_vw _ _ _ _ _ | exact len_nil))
  ((with_reducible apply S_lss); exact rfl; exact rfl)
  (with_reducible refine ao_nil ?_)
  (with_reducible refine then_n ?_)
  ((with_reducible apply awp_cond); exact rfl)
  ((with_reducible refine im_dt (fun _ => ?_)); (try (exfalso; omega)))
  (with_reducible refine awp_skip ?_)
  (with_reducible refine then_n ?_)
  (with_reducible refine awp_seq ?_)
  (with_reducible refine awp_block ?_)
  (with_reducible refine awp_seq ?_)
  ((with_reducible refine do_region (E := E) ?_ (fun _ => ?_)); exact rfl)
  ((with_reducible apply D_move); exact rfl)
  ((with_reducible apply D_fieldAddr_lo); exact rfl; exact rfl; exact rfl; exact rfl; decide; exact rfl)
  ((with_reducible apply D_load_lo); exact rfl; exact rfl; exact rfl; exact rfl; (first | exact rfl | exact get_map (by omega) (0 : Int) | exact get_map (by omega) default); exact rfl)
  ((with_reducible apply D_move); exact rfl)
  ((with_reducible apply D_indexAddr_sl); exact rfl; exact rfl; exact rfl; exact rfl; exact rfl; exact rfl; omega; (first | exact get_int (by omega) | exact get_map (by omega) default | assumption))
  ((with_reducible apply D_fieldAddr_pt); exact rfl; exact rfl; exact rfl; exact rfl; decide; exact rfl)
  ((with_reducible apply D_load_pt); exact rfl; exact rfl; exact rfl; exact rfl)
  ((with_reducible apply D_len); exact rfl; exact rfl; exact rfl; (first | exact len_ints _ | exact len_map _ _ _ | exact len_sl _ _ | exact len_os _ _ _ _ | exact len_vw _ _ _ _ _ | exact len_nil))
  ((with_reducible apply D_add64); exact rfl; exact rfl; omega)
  ((with_reducible apply D_fieldAddr_lo); exact rfl; exact rfl; exact rfl; exact rfl; decide; exact rfl)
  ((with_reducible apply D_load_lo); exact rfl; exact rfl; exact rfl; exact rfl; (first | exact rfl | exact get_map (by omega) (0 : Int) | exact get_map (by omega) default); exact rfl)
  ((with_reducible apply D_move); exact rfl)
  ((with_reducible apply D_indexAddr_sl); exact rfl; exact rfl; exact rfl; exact rfl; exact rfl; exact rfl; omega; (first | exact get_int (by omega) | exact get_map (by omega) default | assumption))
  ((with_reducible apply D_fieldAddr_pt); exact rfl; exact rfl; exact rfl; exact rfl; decide; exact rfl)
  ((with_reducible apply D_load_pt); exact rfl; exact rfl; exact rfl; exact rfl)
  ((with_reducible apply D_len); exact rfl; exact rfl; exact rfl; (first | exact len_ints _ | exact len_map _ _ _ | exact len_sl _ _ | exact len_os _ _ _ _ | exact len_vw _ _ _ _ _ | exact len_nil))
  ((with_reducible apply D_add64); exact rfl; exact rfl; omega)
  ((with_reducible apply D_fieldAddr_lo); exact rfl; exact rfl; exact rfl; exact rfl; decide; exact rfl)
  ((with_reducible apply D_load_lo); exact rfl; exact rfl; exact rfl; exact rfl; (first | exact rfl | exact get_map (by omega) (0 : Int) | exact get_map (by omega) default); exact rfl)
  ((with_reducible apply D_move); exact rfl)
  ((with_reducible apply D_indexAddr_sl); exact rfl; exact rfl; exact rfl; exact rfl; exact rfl; exact rfl; omega; (first | exact get_int (by omega) | exact get_map (by omega) default | assumption))
  ((with_reducible apply D_fieldAddr_pt); exact rfl; exact rfl; exact rfl; exact rfl; decide; exact rfl)
  ((with_reducible apply D_load_pt); exact rfl; exact rfl; exact rfl; exact rfl)
  ((with_reducible apply D_len); exact rfl; exact rfl; exact rfl; (first | exact len_ints _ | exact len_map _ _ _ | exact len_sl _ _ | exact len_os _ _ _ _ | exact len_vw _ _ _ _ _ | exact len_nil))
  ((with_reducible apply D_add64); exact rfl; exact rfl; omega)
  ((with_reducible apply D_assign); exact rfl)
  ((with_reducible refine do_nil ?_ ?_); (first | ((try dsimp only [wkeys]); decide +kernel) | exact rfl))
  (with_reducible refine then_n ?_)
  (with_reducible refine awp_seq ?_)
  ((with_reducible refine ao_region ?_ (fun _ => ?_)); exact rfl)
  ((with_reducible apply S_move); exact rfl)
  ((with_reducible apply S_gtr); exact rfl; exact rfl)
  (with_reducible refine ao_nil ?_)
  (with_reducible refine then_n ?_)
  ((with_reducible apply awp_cond); exact rfl)
  ((with_reducible refine im_dt (fun _ => ?_)); (try (exfalso; omega)))
  (with_reducible refine awp_seq ?_)
  ((with_reducible refine ao_region ?_ (fun _ => ?_)); exact rfl)
  ((with_reducible apply S_assign); exact rfl)
  (with_reducible refine ao_nil ?_)
  (with_reducible refine then_n ?_)
  (with_reducible refine awp_ret ?_)
  (with_reducible refine blk_r ?_)
  iterate 2 (with_reducible refine then_r ?_)
  (with_reducible refine blk_r ?_)
  (with_reducible refine then_r ?_)
  rotate_left
  ((with_reducible refine im_df (fun _ => ?_)); (try (exfalso; omega)))
  (with_reducible refine awp_skip ?_)
  (with_reducible refine blk_n ?_)
  (with_reducible refine then_n ?_)
  ((with_reducible refine ao_region ?_ (fun _ => ?_)); exact rfl)
  ((with_reducible apply S_move); exact rfl)
  ((with_reducible apply S_add64); exact rfl; exact rfl; omega)
  ((with_reducible apply S_assign); exact rfl)
  (with_reducible refine ao_nil ?_)
  (with_reducible refine then_n ?_)
  rotate_left
  ((with_reducible refine im_df (fun _ => ?_)); (try (exfalso; omega)))
  (with_reducible refine awp_exit ?_)
  iterate 2 (with_reducible refine then_x ?_)
  (with_reducible refine blk_x ?_)
  (with_reducible refine then_n ?_)
  (with_reducible refine awp_seq ?_)
  ((with_reducible refine ao_region ?_ (fun _ => ?_)); exact rfl)
  ((with_reducible apply S_assign); exact rfl)
  (with_reducible refine ao_nil ?_)
  (with_reducible refine then_n ?_)
  (with_reducible refine awp_ret ?_)
  rotate_left
  · refine done_b rfl (wide_true3 (k := i + 1) ?_)
    rename_i h _
    rw [sumE_succ _ _ (by omega)]
    unfold Ev.lens
    rw [Int.toNat_natCast] at h
    omega
  · have hs := sumE_succ x.evs i (by omega)
    unfold Ev.lens at hs
    rename_i h _
    rw [Int.toNat_natCast] at h
    refine round' (i + 1) ⟨by omega, by omega⟩ (by omega) (by repeat' (first | exact le_nil _ | exact sle_nil _ | refine le_cons rfl ?_ | refine sle_cons rfl ?_ | (refine le_cons_os rfl ?_ ?_; (rw [hs, Int.toNat_natCast]; omega)) | (refine le_cons_int rfl ?_ ?_; (rw [hs, Int.toNat_natCast]; omega)) | (refine sle_cons' rfl ?_ ?_; (rw [hs, Int.toNat_natCast]; omega)))) (by repeat' (first | exact le_nil _ | exact sle_nil _ | refine le_cons rfl ?_ | refine sle_cons rfl ?_))
  · have e : i = x.evs.length := by omega
    subst e
    refine done_b rfl ?_
    unfold wideB
    rw [eq_comm]
    simp only [Bool.or_eq_false_iff, decide_eq_false_iff_not]
    omega
end Go.Proofs.YtgeaaegkcbjhlaaGreat
/- The law EventsPairs, walked in plain data. -/
set_option maxRecDepth 100000
set_option linter.unusedVariables false
set_option linter.unusedSimpArgs false
namespace Go.Proofs.YtgeaaegkcbjhlaaGreat
open Go.RowKit
theorem refPairs_len (n : Nat) (f : Nat → Nat → Bool) : (refPairs n f).length ≤ n * n := prTo_len n f n
set_option maxHeartbeats 4000000 in
theorem lawPairs_p (x : Ex) (hx : x.ok) : Pure E.P 3 [exOV x] (.bool true) := by
  have hwd := wide_p x hx
  have hkn := known_p
  have f1 : Frozen 1 := ⟨trivial⟩
  have f17 : Frozen 17 := ⟨trivial⟩
  have f19 : Frozen 19 := ⟨trivial⟩
  have f21 : Frozen 21 := ⟨trivial⟩
  have f23 : Frozen 23 := ⟨trivial⟩
  refine fn_of_awp Tryz.func3 (by decide) rfl Tryz.ntmps3 (Nat.le_of_ble_eq_true rfl) rfl ?_
  by_cases hg : wideB x = false ∧ x.evs.length ≤ 24
  rotate_left
  · refine awp_seq ?_
    (refine ao_region ?_ (fun _ => ?_); exact rfl)
    refine q34 ?_; refine q12 ?_; refine ao_nil ?_; refine then_n ?_
    iterate 2 refine awp_seq ?_
    (refine ao_region ?_ (fun _ => ?_); exact rfl)
    refine q33 ?_
    ((first
      | (apply S_call; exact rfl; exact .fn _ _ _; exact rfl; (first | exact hwd | exact hkn))
      | (apply D_call; exact rfl; exact .fn _ _ _; exact rfl; (first | exact hwd | exact hkn))))
    refine q11 ?_
    (apply spec_f; exact rfl; exact rfl)
    (refine im_any fun hc_ => ?_; try have hc1_ := (band hc_).1)
    refine q8
    (apply spec_f; exact rfl; exact rfl)
    (refine im_any fun hc_ => ?_; try have hc1_ := (band hc_).1)
    refine q6
    (apply spec_f; exact rfl; exact rfl)
    (refine im_any fun hc_ => ?_; try have hc1_ := (band hc_).1)
    refine q18
    (apply spec_f; exact rfl; exact rfl)
    (refine im_any fun hc_ => ?_; try have hc1_ := (band hc_).1)
    refine q35; refine q0 ?_; refine ao_nil ?_; refine then_n ?_
    (apply awp_cond; exact rfl)
    (refine im_ot (fun hc_ => ?_); (try simp only [Bool.not_eq_true', Bool.not_eq_false', Bool.or_eq_true, Bool.and_eq_true, Bool.or_eq_false_iff, Bool.and_eq_false_iff, decide_eq_true_eq, decide_eq_false_iff_not, Decidable.not_not, Int.not_lt, Int.not_le, Bool.not_true, Bool.not_false, Bool.true_and, Bool.and_true, Bool.false_or, Bool.or_false, Bool.true_or, Bool.false_and, bne_eq_false_iff_eq, bne_iff_ne, beq_iff_eq, beq_eq_false_iff_ne, decide_eq_decide] at hc_))
    refine awp_seq ?_
    (refine ao_region ?_ (fun _ => ?_); exact rfl)
    ((first
      | (apply S_call; exact rfl; exact .fn _ _ _; exact rfl; (first | exact hwd | exact hkn))
      | (apply D_call; exact rfl; exact .fn _ _ _; exact rfl; (first | exact hwd | exact hkn))))
    refine q12 ?_; refine ao_nil ?_; refine then_n ?_; refine awp_ret ?_; refine then_r ?_
    rotate_left
    refine im_of ?_
    (refine im_vf (fun _ => ?_))
    (refine im_df (fun _ => ?_); (try (exfalso; omega)))
    refine awp_skip ?_; refine then_n ?_; refine awp_seq ?_
    (refine do_region (E := E) ?_ (fun _ => ?_); exact rfl)
    (apply D_load_ptA; exact rfl; exact rfl; exact rfl; exact Nat.le_of_ble_eq_true rfl)
    rotate_left
    · exact done_b rfl rfl
    · exfalso
      rename_i w1 w2 _
      exact hg ⟨w1, by omega⟩
  obtain ⟨hw, hl24⟩ := hg
  have hfit : x.fit := ⟨hx, fun r hr => Nat.le_trans (wide_row hw r hr) (by decide)⟩
  rw [hw] at hwd
  have hC := rcheck_p x hx (fun e he => (hx.2.1 e he).bare)
  have hPo := po_s x hfit
  have hRf := rf_s x hfit
  have hCo := co_s x hfit
  have hFr := fr_s x hfit
  by_cases hc : checkI x = 0
  · have hrel : x.rel := ⟨hfit, hc⟩
    have sq : ∀ f, (refPairs x.evs.length f).length ≤ 1152921504606846976 := fun f => Nat.le_trans (refPairs_len _ _) (Nat.le_trans (Nat.mul_le_mul hl24 hl24) (by decide))
    rw [show poF x = refPairs x.evs.length (isPo x) by unfold poF; rw [if_pos hc]] at hPo
    rw [rf_ref hc] at hRf
    rw [co_refB hrel] at hCo
    rw [fr_refB hrel] at hFr
    rw [hc] at hC
    have r1 := rPo_p hrel
    have r2 := rRf_p hrel
    have r3 := rCo_p hrel
    have r4 := rFr_p hrel
    have e1 := rsamePairs_p _ _ (sq (isPo x)) (sq (isPo x))
    have e2 := rsamePairs_p _ _ (sq (isRf x)) (sq (isRf x))
    have e3 := rsamePairs_p _ _ (sq (isCoB x)) (sq (isCoB x))
    have e4 := rsamePairs_p _ _ (sq (isFrB x)) (sq (isFrB x))
    rw [eqP_refl] at e1 e2 e3 e4
    generalize refPairs x.evs.length (isPo x) = L1 at hPo r1 e1
    generalize refPairs x.evs.length (isRf x) = L2 at hRf r2 e2
    generalize refPairs x.evs.length (isCoB x) = L3 at hCo r3 e3
    generalize refPairs x.evs.length (isFrB x) = L4 at hFr r4 e4
    refine awp_seq ?_
    (refine ao_region ?_ (fun _ => ?_); exact rfl)
    refine q34 ?_; refine q12 ?_; refine ao_nil ?_; refine then_n ?_
    iterate 2 refine awp_seq ?_
    (refine ao_region ?_ (fun _ => ?_); exact rfl)
    refine q33 ?_
    ((first | (first
      | (apply S_call; exact rfl; exact .fn _ _ _; exact rfl; (first | exact hwd | exact hkn | exact hC | exact r1 | exact r2 | exact r3 | exact r4 | exact e1 | exact e2 | exact e3 | exact e4))
      | (apply D_call; exact rfl; exact .fn _ _ _; exact rfl; (first | exact hwd | exact hkn | exact hC | exact r1 | exact r2 | exact r3 | exact r4 | exact e1 | exact e2 | exact e3 | exact e4))) | (apply D_ownF; assumption; exact rfl; exact .fn _ _ _; exact rfl; exact hPo; exact pair_fz _; exact rfl) | (apply D_ownF; assumption; exact rfl; exact .fn _ _ _; exact rfl; exact hRf; exact pair_fz _; exact rfl) | (apply D_ownF; assumption; exact rfl; exact .fn _ _ _; exact rfl; exact hCo; exact pair_fz _; exact rfl) | (apply D_ownF; assumption; exact rfl; exact .fn _ _ _; exact rfl; exact hFr; exact pair_fz _; exact rfl)))
    refine q11 ?_
    (apply spec_f; exact rfl; exact rfl)
    (refine im_any fun hc_ => ?_; try have hc1_ := (band hc_).1)
    refine q8
    (apply spec_f; exact rfl; exact rfl)
    (refine im_any fun hc_ => ?_; try have hc1_ := (band hc_).1)
    refine q6
    (apply spec_f; exact rfl; exact rfl)
    (refine im_any fun hc_ => ?_; try have hc1_ := (band hc_).1)
    refine q18
    (apply spec_f; exact rfl; exact rfl)
    (refine im_any fun hc_ => ?_; try have hc1_ := (band hc_).1)
    refine q35; refine q0 ?_; refine ao_nil ?_; refine then_n ?_
    (apply awp_cond; exact rfl)
    (refine im_ot (fun hc_ => ?_); (try simp only [Bool.not_eq_true', Bool.not_eq_false', Bool.or_eq_true, Bool.and_eq_true, Bool.or_eq_false_iff, Bool.and_eq_false_iff, decide_eq_true_eq, decide_eq_false_iff_not, Decidable.not_not, Int.not_lt, Int.not_le, Bool.not_true, Bool.not_false, Bool.true_and, Bool.and_true, Bool.false_or, Bool.or_false, Bool.true_or, Bool.false_and, bne_eq_false_iff_eq, bne_iff_ne, beq_iff_eq, beq_eq_false_iff_ne, decide_eq_decide] at hc_))
    refine awp_seq ?_
    (refine ao_region ?_ (fun _ => ?_); exact rfl)
    ((first | (first
      | (apply S_call; exact rfl; exact .fn _ _ _; exact rfl; (first | exact hwd | exact hkn | exact hC | exact r1 | exact r2 | exact r3 | exact r4 | exact e1 | exact e2 | exact e3 | exact e4))
      | (apply D_call; exact rfl; exact .fn _ _ _; exact rfl; (first | exact hwd | exact hkn | exact hC | exact r1 | exact r2 | exact r3 | exact r4 | exact e1 | exact e2 | exact e3 | exact e4))) | (apply D_ownF; assumption; exact rfl; exact .fn _ _ _; exact rfl; exact hPo; exact pair_fz _; exact rfl) | (apply D_ownF; assumption; exact rfl; exact .fn _ _ _; exact rfl; exact hRf; exact pair_fz _; exact rfl) | (apply D_ownF; assumption; exact rfl; exact .fn _ _ _; exact rfl; exact hCo; exact pair_fz _; exact rfl) | (apply D_ownF; assumption; exact rfl; exact .fn _ _ _; exact rfl; exact hFr; exact pair_fz _; exact rfl)))
    refine q12 ?_; refine ao_nil ?_; refine then_n ?_; refine awp_ret ?_; refine then_r ?_
    rotate_left
    refine im_of ?_; refine im_ff ?_
    (refine im_df (fun _ => ?_); (try (exfalso; omega)))
    refine awp_skip ?_; refine then_n ?_; refine awp_seq ?_
    (refine do_region (E := E) ?_ (fun _ => ?_); exact rfl)
    (apply D_load_ptA; exact rfl; exact rfl; exact rfl; exact Nat.le_of_ble_eq_true rfl)
    ((first | (first
      | (apply S_call; exact rfl; exact .fn _ _ _; exact rfl; (first | exact hwd | exact hkn | exact hC | exact r1 | exact r2 | exact r3 | exact r4 | exact e1 | exact e2 | exact e3 | exact e4))
      | (apply D_call; exact rfl; exact .fn _ _ _; exact rfl; (first | exact hwd | exact hkn | exact hC | exact r1 | exact r2 | exact r3 | exact r4 | exact e1 | exact e2 | exact e3 | exact e4))) | (apply D_ownF; assumption; exact rfl; exact .fn _ _ _; exact rfl; exact hPo; exact pair_fz _; exact rfl) | (apply D_ownF; assumption; exact rfl; exact .fn _ _ _; exact rfl; exact hRf; exact pair_fz _; exact rfl) | (apply D_ownF; assumption; exact rfl; exact .fn _ _ _; exact rfl; exact hCo; exact pair_fz _; exact rfl) | (apply D_ownF; assumption; exact rfl; exact .fn _ _ _; exact rfl; exact hFr; exact pair_fz _; exact rfl)))
    (apply D_load_ptA; exact rfl; exact rfl; exact rfl; exact Nat.le_of_ble_eq_true rfl)
    ((first | (first
      | (apply S_call; exact rfl; exact .fn _ _ _; exact rfl; (first | exact hwd | exact hkn | exact hC | exact r1 | exact r2 | exact r3 | exact r4 | exact e1 | exact e2 | exact e3 | exact e4))
      | (apply D_call; exact rfl; exact .fn _ _ _; exact rfl; (first | exact hwd | exact hkn | exact hC | exact r1 | exact r2 | exact r3 | exact r4 | exact e1 | exact e2 | exact e3 | exact e4))) | (apply D_ownF; assumption; exact rfl; exact .fn _ _ _; exact rfl; exact hPo; exact pair_fz _; exact rfl) | (apply D_ownF; assumption; exact rfl; exact .fn _ _ _; exact rfl; exact hRf; exact pair_fz _; exact rfl) | (apply D_ownF; assumption; exact rfl; exact .fn _ _ _; exact rfl; exact hCo; exact pair_fz _; exact rfl) | (apply D_ownF; assumption; exact rfl; exact .fn _ _ _; exact rfl; exact hFr; exact pair_fz _; exact rfl)))
    (apply D_load_ptA; exact rfl; exact rfl; exact rfl; exact Nat.le_of_ble_eq_true rfl)
    ((first | (first
      | (apply S_call; exact rfl; exact .fn _ _ _; exact rfl; (first | exact hwd | exact hkn | exact hC | exact r1 | exact r2 | exact r3 | exact r4 | exact e1 | exact e2 | exact e3 | exact e4))
      | (apply D_call; exact rfl; exact .fn _ _ _; exact rfl; (first | exact hwd | exact hkn | exact hC | exact r1 | exact r2 | exact r3 | exact r4 | exact e1 | exact e2 | exact e3 | exact e4))) | (apply D_ownF; assumption; exact rfl; exact .fn _ _ _; exact rfl; exact hPo; exact pair_fz _; exact rfl) | (apply D_ownF; assumption; exact rfl; exact .fn _ _ _; exact rfl; exact hRf; exact pair_fz _; exact rfl) | (apply D_ownF; assumption; exact rfl; exact .fn _ _ _; exact rfl; exact hCo; exact pair_fz _; exact rfl) | (apply D_ownF; assumption; exact rfl; exact .fn _ _ _; exact rfl; exact hFr; exact pair_fz _; exact rfl)))
    (apply D_load_ptA; exact rfl; exact rfl; exact rfl; exact Nat.le_of_ble_eq_true rfl)
    ((first | (first
      | (apply S_call; exact rfl; exact .fn _ _ _; exact rfl; (first | exact hwd | exact hkn | exact hC | exact r1 | exact r2 | exact r3 | exact r4 | exact e1 | exact e2 | exact e3 | exact e4))
      | (apply D_call; exact rfl; exact .fn _ _ _; exact rfl; (first | exact hwd | exact hkn | exact hC | exact r1 | exact r2 | exact r3 | exact r4 | exact e1 | exact e2 | exact e3 | exact e4))) | (apply D_ownF; assumption; exact rfl; exact .fn _ _ _; exact rfl; exact hPo; exact pair_fz _; exact rfl) | (apply D_ownF; assumption; exact rfl; exact .fn _ _ _; exact rfl; exact hRf; exact pair_fz _; exact rfl) | (apply D_ownF; assumption; exact rfl; exact .fn _ _ _; exact rfl; exact hCo; exact pair_fz _; exact rfl) | (apply D_ownF; assumption; exact rfl; exact .fn _ _ _; exact rfl; exact hFr; exact pair_fz _; exact rfl)))
    iterate 4 (apply D_assign; exact rfl)
    (refine do_nil ?_ ?_; (first | ((try dsimp only [wkeys]); decide +kernel) | exact rfl))
    refine then_n ?_
    iterate 2 refine awp_seq ?_
    (refine ao_region ?_ (fun _ => ?_); exact rfl)
    refine q33 ?_
    ((first | (first
      | (apply S_call; exact rfl; exact .fn _ _ _; exact rfl; (first | exact hwd | exact hkn | exact hC | exact r1 | exact r2 | exact r3 | exact r4 | exact e1 | exact e2 | exact e3 | exact e4))
      | (apply D_call; exact rfl; exact .fn _ _ _; exact rfl; (first | exact hwd | exact hkn | exact hC | exact r1 | exact r2 | exact r3 | exact r4 | exact e1 | exact e2 | exact e3 | exact e4))) | (apply D_ownF; assumption; exact rfl; exact .fn _ _ _; exact rfl; exact hPo; exact pair_fz _; exact rfl) | (apply D_ownF; assumption; exact rfl; exact .fn _ _ _; exact rfl; exact hRf; exact pair_fz _; exact rfl) | (apply D_ownF; assumption; exact rfl; exact .fn _ _ _; exact rfl; exact hCo; exact pair_fz _; exact rfl) | (apply D_ownF; assumption; exact rfl; exact .fn _ _ _; exact rfl; exact hFr; exact pair_fz _; exact rfl)))
    refine q44 ?_; refine ao_nil ?_; refine then_n ?_
    (apply awp_cond; exact rfl)
    (refine im_nt (fun _ => ?_); (try (exfalso; omega)))
    (refine im_nf (fun _ => ?_); (try (exfalso; omega)))
    refine awp_skip ?_; refine then_n ?_; refine awp_seq ?_
    (refine ao_region ?_ (fun _ => ?_); exact rfl)
    refine q11 ?_; refine q33 ?_
    iterate 2 ((first | (first
      | (apply S_call; exact rfl; exact .fn _ _ _; exact rfl; (first | exact hwd | exact hkn | exact hC | exact r1 | exact r2 | exact r3 | exact r4 | exact e1 | exact e2 | exact e3 | exact e4))
      | (apply D_call; exact rfl; exact .fn _ _ _; exact rfl; (first | exact hwd | exact hkn | exact hC | exact r1 | exact r2 | exact r3 | exact r4 | exact e1 | exact e2 | exact e3 | exact e4))) | (apply D_ownF; assumption; exact rfl; exact .fn _ _ _; exact rfl; exact hPo; exact pair_fz _; exact rfl) | (apply D_ownF; assumption; exact rfl; exact .fn _ _ _; exact rfl; exact hRf; exact pair_fz _; exact rfl) | (apply D_ownF; assumption; exact rfl; exact .fn _ _ _; exact rfl; exact hCo; exact pair_fz _; exact rfl) | (apply D_ownF; assumption; exact rfl; exact .fn _ _ _; exact rfl; exact hFr; exact pair_fz _; exact rfl)))
    refine q11 ?_
    (apply spec_t; exact rfl; exact rfl)
    (refine im_any fun hc_ => ?_; try have hc1_ := (band hc_).1)
    refine q1
    (apply spec_t; exact rfl; exact rfl)
    (refine im_any fun hc_ => ?_; try have hc1_ := (band hc_).1)
    refine q47
    (apply spec_t; exact rfl; exact rfl)
    (refine im_any fun hc_ => ?_; try have hc1_ := (band hc_).1)
    ((have hp_ := hc_; (try simp only [Bool.not_eq_true', Bool.not_eq_false', Bool.or_eq_true, Bool.and_eq_true, Bool.or_eq_false_iff, Bool.and_eq_false_iff, decide_eq_true_eq, decide_eq_false_iff_not, Decidable.not_not, Int.not_lt, Int.not_le, Bool.not_true, Bool.not_false, Bool.true_and, Bool.and_true, Bool.false_or, Bool.or_false, Bool.true_or, Bool.false_and, bne_eq_false_iff_eq, bne_iff_ne, beq_iff_eq, beq_eq_false_iff_ne, decide_eq_decide] at hp_)))
    ((apply M_call; (first | (refine EvM.mb _ rfl ?_; first | assumption | exact rfl) | exact EvM.plain rfl rfl); exact .fn _ _ _; (repeat (first | exact EvsM.nil | (apply EvsM.cons; first | (refine EvM.mb _ rfl ?_; first | assumption | exact rfl) | exact EvM.plain rfl rfl))); (first | exact hwd | exact hkn | exact hC | exact r1 | exact r2 | exact r3 | exact r4 | exact e1 | exact e2 | exact e3 | exact e4)))
    (apply spec_t; exact rfl; exact rfl)
    (refine im_any fun hc_ => ?_; try have hc1_ := (band hc_).1)
    ((have hp_ := hc_; (try simp only [Bool.not_eq_true', Bool.not_eq_false', Bool.or_eq_true, Bool.and_eq_true, Bool.or_eq_false_iff, Bool.and_eq_false_iff, decide_eq_true_eq, decide_eq_false_iff_not, Decidable.not_not, Int.not_lt, Int.not_le, Bool.not_true, Bool.not_false, Bool.true_and, Bool.and_true, Bool.false_or, Bool.or_false, Bool.true_or, Bool.false_and, bne_eq_false_iff_eq, bne_iff_ne, beq_iff_eq, beq_eq_false_iff_ne, decide_eq_decide] at hp_)))
    ((apply M_call; (first | (refine EvM.mb _ rfl ?_; first | assumption | exact rfl) | exact EvM.plain rfl rfl); exact .fn _ _ _; (repeat (first | exact EvsM.nil | (apply EvsM.cons; first | (refine EvM.mb _ rfl ?_; first | assumption | exact rfl) | exact EvM.plain rfl rfl))); (first | exact hwd | exact hkn | exact hC | exact r1 | exact r2 | exact r3 | exact r4 | exact e1 | exact e2 | exact e3 | exact e4)))
    refine q4 ?_; refine q11 ?_
    (apply spec_t; exact rfl; exact rfl)
    (refine im_any fun hc_ => ?_; try have hc1_ := (band hc_).1)
    refine q1
    (apply spec_t; exact rfl; exact rfl)
    (refine im_any fun hc_ => ?_; try have hc1_ := (band hc_).1)
    refine q47
    (apply spec_t; exact rfl; exact rfl)
    (refine im_any fun hc_ => ?_; try have hc1_ := (band hc_).1)
    ((have hp_ := hc_; (try simp only [Bool.not_eq_true', Bool.not_eq_false', Bool.or_eq_true, Bool.and_eq_true, Bool.or_eq_false_iff, Bool.and_eq_false_iff, decide_eq_true_eq, decide_eq_false_iff_not, Decidable.not_not, Int.not_lt, Int.not_le, Bool.not_true, Bool.not_false, Bool.true_and, Bool.and_true, Bool.false_or, Bool.or_false, Bool.true_or, Bool.false_and, bne_eq_false_iff_eq, bne_iff_ne, beq_iff_eq, beq_eq_false_iff_ne, decide_eq_decide] at hp_)))
    ((apply M_call; (first | (refine EvM.mb _ rfl ?_; first | assumption | exact rfl) | exact EvM.plain rfl rfl); exact .fn _ _ _; (repeat (first | exact EvsM.nil | (apply EvsM.cons; first | (refine EvM.mb _ rfl ?_; first | assumption | exact rfl) | exact EvM.plain rfl rfl))); (first | exact hwd | exact hkn | exact hC | exact r1 | exact r2 | exact r3 | exact r4 | exact e1 | exact e2 | exact e3 | exact e4)))
    (apply spec_t; exact rfl; exact rfl)
    (refine im_any fun hc_ => ?_; try have hc1_ := (band hc_).1)
    ((have hp_ := hc_; (try simp only [Bool.not_eq_true', Bool.not_eq_false', Bool.or_eq_true, Bool.and_eq_true, Bool.or_eq_false_iff, Bool.and_eq_false_iff, decide_eq_true_eq, decide_eq_false_iff_not, Decidable.not_not, Int.not_lt, Int.not_le, Bool.not_true, Bool.not_false, Bool.true_and, Bool.and_true, Bool.false_or, Bool.or_false, Bool.true_or, Bool.false_and, bne_eq_false_iff_eq, bne_iff_ne, beq_iff_eq, beq_eq_false_iff_ne, decide_eq_decide] at hp_)))
    ((apply M_call; (first | (refine EvM.mb _ rfl ?_; first | assumption | exact rfl) | exact EvM.plain rfl rfl); exact .fn _ _ _; (repeat (first | exact EvsM.nil | (apply EvsM.cons; first | (refine EvM.mb _ rfl ?_; first | assumption | exact rfl) | exact EvM.plain rfl rfl))); (first | exact hwd | exact hkn | exact hC | exact r1 | exact r2 | exact r3 | exact r4 | exact e1 | exact e2 | exact e3 | exact e4)))
    refine q4 ?_; refine q11 ?_
    (apply spec_t; exact rfl; exact rfl)
    (refine im_any fun hc_ => ?_; try have hc1_ := (band hc_).1)
    refine q1
    (apply spec_t; exact rfl; exact rfl)
    (refine im_any fun hc_ => ?_; try have hc1_ := (band hc_).1)
    refine q47
    (apply spec_t; exact rfl; exact rfl)
    (refine im_any fun hc_ => ?_; try have hc1_ := (band hc_).1)
    ((have hp_ := hc_; (try simp only [Bool.not_eq_true', Bool.not_eq_false', Bool.or_eq_true, Bool.and_eq_true, Bool.or_eq_false_iff, Bool.and_eq_false_iff, decide_eq_true_eq, decide_eq_false_iff_not, Decidable.not_not, Int.not_lt, Int.not_le, Bool.not_true, Bool.not_false, Bool.true_and, Bool.and_true, Bool.false_or, Bool.or_false, Bool.true_or, Bool.false_and, bne_eq_false_iff_eq, bne_iff_ne, beq_iff_eq, beq_eq_false_iff_ne, decide_eq_decide] at hp_)))
    ((apply M_call; (first | (refine EvM.mb _ rfl ?_; first | assumption | exact rfl) | exact EvM.plain rfl rfl); exact .fn _ _ _; (repeat (first | exact EvsM.nil | (apply EvsM.cons; first | (refine EvM.mb _ rfl ?_; first | assumption | exact rfl) | exact EvM.plain rfl rfl))); (first | exact hwd | exact hkn | exact hC | exact r1 | exact r2 | exact r3 | exact r4 | exact e1 | exact e2 | exact e3 | exact e4)))
    (apply spec_t; exact rfl; exact rfl)
    (refine im_any fun hc_ => ?_; try have hc1_ := (band hc_).1)
    ((have hp_ := hc_; (try simp only [Bool.not_eq_true', Bool.not_eq_false', Bool.or_eq_true, Bool.and_eq_true, Bool.or_eq_false_iff, Bool.and_eq_false_iff, decide_eq_true_eq, decide_eq_false_iff_not, Decidable.not_not, Int.not_lt, Int.not_le, Bool.not_true, Bool.not_false, Bool.true_and, Bool.and_true, Bool.false_or, Bool.or_false, Bool.true_or, Bool.false_and, bne_eq_false_iff_eq, bne_iff_ne, beq_iff_eq, beq_eq_false_iff_ne, decide_eq_decide] at hp_)))
    ((apply M_call; (first | (refine EvM.mb _ rfl ?_; first | assumption | exact rfl) | exact EvM.plain rfl rfl); exact .fn _ _ _; (repeat (first | exact EvsM.nil | (apply EvsM.cons; first | (refine EvM.mb _ rfl ?_; first | assumption | exact rfl) | exact EvM.plain rfl rfl))); (first | exact hwd | exact hkn | exact hC | exact r1 | exact r2 | exact r3 | exact r4 | exact e1 | exact e2 | exact e3 | exact e4)))
    refine q4 ?_; refine q11 ?_
    (apply spec_t; exact rfl; exact rfl)
    (refine im_any fun hc_ => ?_; try have hc1_ := (band hc_).1)
    ((have hp_ := hc_; (try simp only [Bool.not_eq_true', Bool.not_eq_false', Bool.or_eq_true, Bool.and_eq_true, Bool.or_eq_false_iff, Bool.and_eq_false_iff, decide_eq_true_eq, decide_eq_false_iff_not, Decidable.not_not, Int.not_lt, Int.not_le, Bool.not_true, Bool.not_false, Bool.true_and, Bool.and_true, Bool.false_or, Bool.or_false, Bool.true_or, Bool.false_and, bne_eq_false_iff_eq, bne_iff_ne, beq_iff_eq, beq_eq_false_iff_ne, decide_eq_decide] at hp_)))
    ((apply M_call; (first | (refine EvM.mb _ rfl ?_; first | assumption | exact rfl) | exact EvM.plain rfl rfl); exact .fn _ _ _; (repeat (first | exact EvsM.nil | (apply EvsM.cons; first | (refine EvM.mb _ rfl ?_; first | assumption | exact rfl) | exact EvM.plain rfl rfl))); (first | exact hwd | exact hkn | exact hC | exact r1 | exact r2 | exact r3 | exact r4 | exact e1 | exact e2 | exact e3 | exact e4)))
    refine q4 ?_; refine q12 ?_; refine ao_nil ?_; refine then_n ?_; refine awp_ret ?_
    rotate_left
    · exfalso
      rcases hc_ with h | h
      · cases h
      · omega
    · exact done_b rfl (by simp)
  · rw [show poF x = [] by unfold poF; rw [if_neg hc]] at hPo
    rw [show rfF x = [] by unfold rfF; rw [if_neg hc]] at hRf
    rw [show coF x = [] by unfold coF; rw [if_neg hc]] at hCo
    rw [show frF x = [] by unfold frF rfF; rw [if_neg hc, show frZ [] (coF x) = [] by simp [frZ, frTo]]; simp [sortZ]] at hFr
    refine awp_seq ?_
    (refine ao_region ?_ (fun _ => ?_); exact rfl)
    refine q34 ?_; refine q12 ?_; refine ao_nil ?_; refine then_n ?_
    iterate 2 refine awp_seq ?_
    (refine ao_region ?_ (fun _ => ?_); exact rfl)
    refine q33 ?_
    ((first | (first
      | (apply S_call; exact rfl; exact .fn _ _ _; exact rfl; (first | exact hwd | exact hkn | exact hC))
      | (apply D_call; exact rfl; exact .fn _ _ _; exact rfl; (first | exact hwd | exact hkn | exact hC))) | (apply D_ownF; assumption; exact rfl; exact .fn _ _ _; exact rfl; exact hPo; exact pair_fz _; exact rfl) | (apply D_ownF; assumption; exact rfl; exact .fn _ _ _; exact rfl; exact hRf; exact pair_fz _; exact rfl) | (apply D_ownF; assumption; exact rfl; exact .fn _ _ _; exact rfl; exact hCo; exact pair_fz _; exact rfl) | (apply D_ownF; assumption; exact rfl; exact .fn _ _ _; exact rfl; exact hFr; exact pair_fz _; exact rfl)))
    refine q11 ?_
    (apply spec_f; exact rfl; exact rfl)
    (refine im_any fun hc_ => ?_; try have hc1_ := (band hc_).1)
    refine q8
    (apply spec_f; exact rfl; exact rfl)
    (refine im_any fun hc_ => ?_; try have hc1_ := (band hc_).1)
    refine q6
    (apply spec_f; exact rfl; exact rfl)
    (refine im_any fun hc_ => ?_; try have hc1_ := (band hc_).1)
    refine q18
    (apply spec_f; exact rfl; exact rfl)
    (refine im_any fun hc_ => ?_; try have hc1_ := (band hc_).1)
    refine q35; refine q0 ?_; refine ao_nil ?_; refine then_n ?_
    (apply awp_cond; exact rfl)
    (refine im_ot (fun hc_ => ?_); (try simp only [Bool.not_eq_true', Bool.not_eq_false', Bool.or_eq_true, Bool.and_eq_true, Bool.or_eq_false_iff, Bool.and_eq_false_iff, decide_eq_true_eq, decide_eq_false_iff_not, Decidable.not_not, Int.not_lt, Int.not_le, Bool.not_true, Bool.not_false, Bool.true_and, Bool.and_true, Bool.false_or, Bool.or_false, Bool.true_or, Bool.false_and, bne_eq_false_iff_eq, bne_iff_ne, beq_iff_eq, beq_eq_false_iff_ne, decide_eq_decide] at hc_))
    refine awp_seq ?_
    (refine ao_region ?_ (fun _ => ?_); exact rfl)
    ((first | (first
      | (apply S_call; exact rfl; exact .fn _ _ _; exact rfl; (first | exact hwd | exact hkn | exact hC))
      | (apply D_call; exact rfl; exact .fn _ _ _; exact rfl; (first | exact hwd | exact hkn | exact hC))) | (apply D_ownF; assumption; exact rfl; exact .fn _ _ _; exact rfl; exact hPo; exact pair_fz _; exact rfl) | (apply D_ownF; assumption; exact rfl; exact .fn _ _ _; exact rfl; exact hRf; exact pair_fz _; exact rfl) | (apply D_ownF; assumption; exact rfl; exact .fn _ _ _; exact rfl; exact hCo; exact pair_fz _; exact rfl) | (apply D_ownF; assumption; exact rfl; exact .fn _ _ _; exact rfl; exact hFr; exact pair_fz _; exact rfl)))
    refine q12 ?_; refine ao_nil ?_; refine then_n ?_; refine awp_ret ?_; refine then_r ?_
    rotate_left
    refine im_of ?_; refine im_ff ?_
    (refine im_df (fun _ => ?_); (try (exfalso; omega)))
    refine awp_skip ?_; refine then_n ?_; refine awp_seq ?_
    (refine do_region (E := E) ?_ (fun _ => ?_); exact rfl)
    (apply D_load_ptA; exact rfl; exact rfl; exact rfl; exact Nat.le_of_ble_eq_true rfl)
    ((first | (first
      | (apply S_call; exact rfl; exact .fn _ _ _; exact rfl; (first | exact hwd | exact hkn | exact hC))
      | (apply D_call; exact rfl; exact .fn _ _ _; exact rfl; (first | exact hwd | exact hkn | exact hC))) | (apply D_ownF; assumption; exact rfl; exact .fn _ _ _; exact rfl; exact hPo; exact pair_fz _; exact rfl) | (apply D_ownF; assumption; exact rfl; exact .fn _ _ _; exact rfl; exact hRf; exact pair_fz _; exact rfl) | (apply D_ownF; assumption; exact rfl; exact .fn _ _ _; exact rfl; exact hCo; exact pair_fz _; exact rfl) | (apply D_ownF; assumption; exact rfl; exact .fn _ _ _; exact rfl; exact hFr; exact pair_fz _; exact rfl)))
    (apply D_load_ptA; exact rfl; exact rfl; exact rfl; exact Nat.le_of_ble_eq_true rfl)
    ((first | (first
      | (apply S_call; exact rfl; exact .fn _ _ _; exact rfl; (first | exact hwd | exact hkn | exact hC))
      | (apply D_call; exact rfl; exact .fn _ _ _; exact rfl; (first | exact hwd | exact hkn | exact hC))) | (apply D_ownF; assumption; exact rfl; exact .fn _ _ _; exact rfl; exact hPo; exact pair_fz _; exact rfl) | (apply D_ownF; assumption; exact rfl; exact .fn _ _ _; exact rfl; exact hRf; exact pair_fz _; exact rfl) | (apply D_ownF; assumption; exact rfl; exact .fn _ _ _; exact rfl; exact hCo; exact pair_fz _; exact rfl) | (apply D_ownF; assumption; exact rfl; exact .fn _ _ _; exact rfl; exact hFr; exact pair_fz _; exact rfl)))
    (apply D_load_ptA; exact rfl; exact rfl; exact rfl; exact Nat.le_of_ble_eq_true rfl)
    ((first | (first
      | (apply S_call; exact rfl; exact .fn _ _ _; exact rfl; (first | exact hwd | exact hkn | exact hC))
      | (apply D_call; exact rfl; exact .fn _ _ _; exact rfl; (first | exact hwd | exact hkn | exact hC))) | (apply D_ownF; assumption; exact rfl; exact .fn _ _ _; exact rfl; exact hPo; exact pair_fz _; exact rfl) | (apply D_ownF; assumption; exact rfl; exact .fn _ _ _; exact rfl; exact hRf; exact pair_fz _; exact rfl) | (apply D_ownF; assumption; exact rfl; exact .fn _ _ _; exact rfl; exact hCo; exact pair_fz _; exact rfl) | (apply D_ownF; assumption; exact rfl; exact .fn _ _ _; exact rfl; exact hFr; exact pair_fz _; exact rfl)))
    (apply D_load_ptA; exact rfl; exact rfl; exact rfl; exact Nat.le_of_ble_eq_true rfl)
    ((first | (first
      | (apply S_call; exact rfl; exact .fn _ _ _; exact rfl; (first | exact hwd | exact hkn | exact hC))
      | (apply D_call; exact rfl; exact .fn _ _ _; exact rfl; (first | exact hwd | exact hkn | exact hC))) | (apply D_ownF; assumption; exact rfl; exact .fn _ _ _; exact rfl; exact hPo; exact pair_fz _; exact rfl) | (apply D_ownF; assumption; exact rfl; exact .fn _ _ _; exact rfl; exact hRf; exact pair_fz _; exact rfl) | (apply D_ownF; assumption; exact rfl; exact .fn _ _ _; exact rfl; exact hCo; exact pair_fz _; exact rfl) | (apply D_ownF; assumption; exact rfl; exact .fn _ _ _; exact rfl; exact hFr; exact pair_fz _; exact rfl)))
    iterate 4 (apply D_assign; exact rfl)
    (refine do_nil ?_ ?_; (first | ((try dsimp only [wkeys]); decide +kernel) | exact rfl))
    refine then_n ?_
    iterate 2 refine awp_seq ?_
    (refine ao_region ?_ (fun _ => ?_); exact rfl)
    refine q33 ?_
    ((first | (first
      | (apply S_call; exact rfl; exact .fn _ _ _; exact rfl; (first | exact hwd | exact hkn | exact hC))
      | (apply D_call; exact rfl; exact .fn _ _ _; exact rfl; (first | exact hwd | exact hkn | exact hC))) | (apply D_ownF; assumption; exact rfl; exact .fn _ _ _; exact rfl; exact hPo; exact pair_fz _; exact rfl) | (apply D_ownF; assumption; exact rfl; exact .fn _ _ _; exact rfl; exact hRf; exact pair_fz _; exact rfl) | (apply D_ownF; assumption; exact rfl; exact .fn _ _ _; exact rfl; exact hCo; exact pair_fz _; exact rfl) | (apply D_ownF; assumption; exact rfl; exact .fn _ _ _; exact rfl; exact hFr; exact pair_fz _; exact rfl)))
    refine q44 ?_; refine ao_nil ?_; refine then_n ?_
    (apply awp_cond; exact rfl)
    (refine im_nt (fun _ => ?_); (try (exfalso; omega)))
    refine awp_seq ?_
    (refine ao_region ?_ (fun _ => ?_); exact rfl)
    refine q11 ?_; refine q13 ?_; refine q46 ?_; refine q11 ?_
    (apply spec_t; exact rfl; exact rfl)
    (refine im_any fun hc_ => ?_; try have hc1_ := (band hc_).1)
    refine q1
    (apply spec_t; exact rfl; exact rfl)
    (refine im_any fun hc_ => ?_; try have hc1_ := (band hc_).1)
    refine q18
    (apply spec_t; exact rfl; exact rfl)
    (refine im_any fun hc_ => ?_; try have hc1_ := (band hc_).1)
    refine q7; refine q4 ?_; refine q11 ?_
    (apply spec_t; exact rfl; exact rfl)
    (refine im_any fun hc_ => ?_; try have hc1_ := (band hc_).1)
    refine q1
    (apply spec_t; exact rfl; exact rfl)
    (refine im_any fun hc_ => ?_; try have hc1_ := (band hc_).1)
    refine q18
    (apply spec_t; exact rfl; exact rfl)
    (refine im_any fun hc_ => ?_; try have hc1_ := (band hc_).1)
    refine q7; refine q4 ?_; refine q11 ?_
    (apply spec_t; exact rfl; exact rfl)
    (refine im_any fun hc_ => ?_; try have hc1_ := (band hc_).1)
    refine q1
    (apply spec_t; exact rfl; exact rfl)
    (refine im_any fun hc_ => ?_; try have hc1_ := (band hc_).1)
    refine q18
    (apply spec_t; exact rfl; exact rfl)
    (refine im_any fun hc_ => ?_; try have hc1_ := (band hc_).1)
    refine q7; refine q4 ?_; refine q11 ?_
    (apply spec_t; exact rfl; exact rfl)
    (refine im_any fun hc_ => ?_; try have hc1_ := (band hc_).1)
    ((have hp_ := hc_; (try simp only [Bool.not_eq_true', Bool.not_eq_false', Bool.or_eq_true, Bool.and_eq_true, Bool.or_eq_false_iff, Bool.and_eq_false_iff, decide_eq_true_eq, decide_eq_false_iff_not, Decidable.not_not, Int.not_lt, Int.not_le, Bool.not_true, Bool.not_false, Bool.true_and, Bool.and_true, Bool.false_or, Bool.or_false, Bool.true_or, Bool.false_and, bne_eq_false_iff_eq, bne_iff_ne, beq_iff_eq, beq_eq_false_iff_ne, decide_eq_decide] at hp_)))
    ((apply M_call; (first | (refine EvM.mb _ rfl ?_; first | assumption | exact rfl) | exact EvM.plain rfl rfl); exact .fn _ _ _; (repeat (first | exact EvsM.nil | (apply EvsM.cons; first | (refine EvM.mb _ rfl ?_; first | assumption | exact rfl) | exact EvM.plain rfl rfl))); (first | exact hwd | exact hkn | exact hC)))
    refine q4 ?_; refine q12 ?_; refine ao_nil ?_; refine then_n ?_; refine awp_ret ?_; refine then_r ?_
    rotate_left
    (refine im_nf (fun _ => ?_); (try (exfalso; omega)))
    all_goals first | exact done_b rfl rfl | (exfalso; omega) | (exfalso; rcases hc_ with h | h <;> first | cases h | omega) | exact done_b rfl (by simp) | exact (hc (by assumption)).elim
end Go.Proofs.YtgeaaegkcbjhlaaGreat
