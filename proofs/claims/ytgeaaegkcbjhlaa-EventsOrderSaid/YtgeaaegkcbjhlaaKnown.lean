/- The law's own known answer. -/
import Derived.Test.YtgeaaegkcbjhlaaRfC
import Derived.Test.YtgeaaegkcbjhlaaAcy
namespace Go.Proofs.Ytgeaaegkcbjhlaa
open Go.RowKit Go.Maps

def nilSl : Sl := ⟨none, 0, 0⟩
def ev0 (hart kind val rval : Int) : Ev := { (default : Ev) with hart := hart, kind := kind, val := val, rval := rval, av := nilSl, dv := nilSl, cv := nilSl }
def knEvs : List Ev := [ev0 (-1) 5 0 0, ev0 0 2 1 0, ev0 1 1 0 1]
def knX (B : Nat) : Ex := ⟨⟨some ⟨B, 0, none⟩, 3, 3⟩, ⟨some ⟨B + 1, 0, none⟩, 3, 3⟩, ⟨some ⟨B + 3, 0, none⟩, 1, 1⟩, knEvs, [-1, -1, 1], [(⟨some ⟨B + 2, 0, none⟩, 2, 2⟩, [0, 1])]⟩

def knC : Array Value := #[Value.int IntKind.i64 (-1), Value.int IntKind.i64 5, Value.int IntKind.u32 0, Value.int IntKind.u32 0, Value.int IntKind.u32 0, Value.bool false, Value.bool false, Value.int IntKind.i64 0, Value.int IntKind.i64 0, Value.bool false, Value.slice none 0 0, Value.slice none 0 0, Value.slice none 0 0, Value.int IntKind.i64 (0), Value.int IntKind.i64 2, Value.int IntKind.u32 0, Value.int IntKind.u32 1, Value.int IntKind.u32 0, Value.bool false, Value.bool false, Value.int IntKind.i64 0, Value.int IntKind.i64 0, Value.bool false, Value.slice none 0 0, Value.slice none 0 0, Value.slice none 0 0, Value.int IntKind.i64 (1), Value.int IntKind.i64 1, Value.int IntKind.u32 0, Value.int IntKind.u32 0, Value.int IntKind.u32 1, Value.bool false, Value.bool false, Value.int IntKind.i64 0, Value.int IntKind.i64 0, Value.bool false, Value.slice none 0 0, Value.slice none 0 0, Value.slice none 0 0]
def knW (w : World) : World :=
  ((((w.alloc (.cells knC 44)).alloc (.cells #[.int .i64 (-1), .int .i64 (-1), .int .i64 1] 3)).alloc (.cells #[.int .i64 0, .int .i64 1] 3)).alloc (.cells #[.slice (some ⟨w.heap.size + 1 + 1, 0, none⟩) 2 2] 23)).alloc
    (.cells #[.slice (some ⟨w.heap.size, 0, none⟩) 3 3, .slice (some ⟨w.heap.size + 1, 0, none⟩) 3 3, .slice (some ⟨w.heap.size + 1 + 1 + 1, 0, none⟩) 1 1] 26)
theorem knW_size (w : World) : (knW w).heap.size = w.heap.size + 5 := by simp [knW]
theorem knW_below (w : World) : Below w.heap.size w (knW w) := by
  unfold knW
  exact (((((Below.refl w.heap.size w).alloc (Nat.le_refl _) _).alloc (by simp) _).alloc (by simp <;> omega) _).alloc (by simp <;> omega) _).alloc (by simp <;> omega) _
theorem knW_0 (w : World) : (knW w).heap[w.heap.size]? = some (.cells knC 44 (0, 0)) := by
  unfold knW
  rw [Below.heap_alloc _ _ _ (by simp <;> omega), Below.heap_alloc _ _ _ (by simp <;> omega), Below.heap_alloc _ _ _ (by simp <;> omega), Below.heap_alloc _ _ _ (by simp)]
  exact World.alloc_heap_new w _
theorem knW_1 (w : World) : (knW w).heap[w.heap.size + 1]? = some (.cells #[.int .i64 (-1), .int .i64 (-1), .int .i64 1] 3 (0, 0)) := by
  unfold knW
  rw [Below.heap_alloc _ _ _ (by simp <;> omega), Below.heap_alloc _ _ _ (by simp <;> omega), Below.heap_alloc _ _ _ (by simp)]
  have := World.alloc_heap_new (w.alloc (.cells knC 44)) (.cells #[.int .i64 (-1), .int .i64 (-1), .int .i64 1] 3)
  rwa [World.size_alloc] at this
theorem knW_2 (w : World) : (knW w).heap[w.heap.size + 2]? = some (.cells #[.int .i64 0, .int .i64 1] 3 (0, 0)) := by
  unfold knW
  rw [Below.heap_alloc _ _ _ (by simp <;> omega), Below.heap_alloc _ _ _ (by simp)]
  have := World.alloc_heap_new ((w.alloc (.cells knC 44)).alloc (.cells #[.int .i64 (-1), .int .i64 (-1), .int .i64 1] 3)) (.cells #[.int .i64 0, .int .i64 1] 3)
  rwa [World.size_alloc, World.size_alloc] at this
theorem knW_3 (w : World) : (knW w).heap[w.heap.size + 3]? = some (.cells #[.slice (some ⟨w.heap.size + 1 + 1, 0, none⟩) 2 2] 23 (0, 0)) := by
  unfold knW
  rw [Below.heap_alloc _ _ _ (by simp)]
  have := World.alloc_heap_new (((w.alloc (.cells knC 44)).alloc (.cells #[.int .i64 (-1), .int .i64 (-1), .int .i64 1] 3)).alloc (.cells #[.int .i64 0, .int .i64 1] 3)) (.cells #[.slice (some ⟨w.heap.size + 1 + 1, 0, none⟩) 2 2] 23)
  rwa [World.size_alloc, World.size_alloc, World.size_alloc] at this
theorem cellOf {W : World} {b : Nat} {cs : Array Value} {t : TypeId} (h : W.heap[b]? = some (.cells cs t (0, 0))) (j : Nat) : W.cell? ⟨b, j, none⟩ = cs[j]? := by
  simp [World.cell?, h]
theorem knX_in (w : World) : (knX w.heap.size).inW (knW w).heap.size (knW w) := by
  have hs := knW_size w
  refine ⟨⟨rfl, by simp [knX, knEvs], ?_, Or.inr ⟨w.heap.size, 0, rfl, by omega, ?_⟩⟩, ⟨rfl, by simp [knX], Or.inr ⟨w.heap.size + 1, 0, rfl, by omega, ?_⟩⟩, ⟨rfl, by simp [knX], ?_, Or.inr ⟨w.heap.size + 3, 0, rfl, by omega, ?_⟩⟩⟩
  · intro e he
    have hn : ∀ B W, IntsIn .i64 B W nilSl [] := fun B W => ⟨rfl, by simp, Or.inl rfl⟩
    simp only [knX, knEvs, List.mem_cons, List.not_mem_nil, or_false] at he
    rcases he with rfl | rfl | rfl <;> exact ⟨hn _ _, hn _ _, hn _ _, by simp [ev0, Ev.wf]; decide⟩
  · intro k hk
    have hk3 : k < 3 := hk
    unfold EvCells
    simp only [cellOf (knW_0 w)]
    match k, hk3 with
    | 0, _ => refine ⟨?_, ?_, ?_, ?_, ?_, ?_, ?_, ?_, ?_, ?_, ?_, ?_, ?_⟩ <;> rfl
    | 1, _ => refine ⟨?_, ?_, ?_, ?_, ?_, ?_, ?_, ?_, ?_, ?_, ?_, ?_, ?_⟩ <;> rfl
    | 2, _ => refine ⟨?_, ?_, ?_, ?_, ?_, ?_, ?_, ?_, ?_, ?_, ?_, ?_, ?_⟩ <;> rfl
  · intro k hk
    have hk3 : k < 3 := hk
    simp only [cellOf (knW_1 w)]
    match k, hk3 with
    | 0, _ => rfl
    | 1, _ => rfl
    | 2, _ => rfl
  · intro r hr
    simp only [knX, List.mem_cons, List.not_mem_nil, or_false] at hr
    subst hr
    refine ⟨rfl, by simp, Or.inr ⟨w.heap.size + 2, 0, rfl, by omega, ?_⟩⟩
    intro k hk
    have hk3 : k < 2 := hk
    simp only [cellOf (knW_2 w)]
    match k, hk3 with
    | 0, _ => rfl
    | 1, _ => rfl
  · intro k hk
    have hk3 : k < 1 := hk
    simp only [cellOf (knW_3 w)]
    match k, hk3 with
    | 0, _ => rfl
theorem sort01 : sortI [0, 1] = [0, 1] := by
  unfold sortI
  exact List.mergeSort_of_pairwise (by decide)
theorem kn_ord : orderB knEvs [0] [((⟨none, 2, 2⟩ : Sl), [0, 1])] = true := by
  unfold orderB rowsTo rowOk
  simp only [List.length_cons, List.length_nil, List.range_succ, List.range_zero, List.nil_append, List.all_cons, List.all_nil, List.getD_cons_zero, sort01]
  decide
theorem kn_ad : addrsTo knEvs = [0] := by decide
theorem kn_ev : evsTo knEvs [0] 3 = true := by decide
theorem kn_from : fromB knEvs [-1, -1, 1] = true := by decide
theorem kn_check (B : Nat) : checkI (knX B) = 0 := by
  have h4 : orderB knEvs [0] [((⟨some ⟨B + 2, 0, none⟩, 2, 2⟩ : Sl), [0, 1])] = true := kn_ord
  unfold checkI knX
  simp only [kn_ad]
  rw [if_neg (by decide), if_neg (by rw [show knEvs.length = 3 from rfl, kn_ev]; simp), if_neg (by rw [kn_from]; simp), if_neg (by rw [h4]; simp)]
theorem sort1 (p : P2) : sortP [p] = [p] := by
  unfold sortP
  exact List.mergeSort_of_pairwise (by simp)
theorem kn_rf (B : Nat) : rfAns (knX B) = [mkP 1 2] := by
  unfold rfAns
  rw [if_pos (kn_check B)]
  have : rfL (knX B).from_ = [mkP 1 2] := by
    show rfL [-1, -1, 1] = _
    rfl
  rw [this, sort1]
theorem kn_acy : acyI 2 [(0, 1), (1, 0)] = false := by decide
theorem knW_4 (w : World) : (knW w).heap[w.heap.size + 4]? = some (.cells #[.slice (some ⟨w.heap.size, 0, none⟩) 3 3, .slice (some ⟨w.heap.size + 1, 0, none⟩) 3 3, .slice (some ⟨w.heap.size + 1 + 1 + 1, 0, none⟩) 1 1] 26 (0, 0)) := by
  unfold knW
  have := World.alloc_heap_new ((((w.alloc (.cells knC 44)).alloc (.cells #[.int .i64 (-1), .int .i64 (-1), .int .i64 1] 3)).alloc (.cells #[.int .i64 0, .int .i64 1] 3)).alloc (.cells #[.slice (some ⟨w.heap.size + 1 + 1, 0, none⟩) 2 2] 23))
    (.cells #[.slice (some ⟨w.heap.size, 0, none⟩) 3 3, .slice (some ⟨w.heap.size + 1, 0, none⟩) 3 3, .slice (some ⟨w.heap.size + 1 + 1 + 1, 0, none⟩) 1 1] 26)
  rwa [World.size_alloc, World.size_alloc, World.size_alloc, World.size_alloc] at this
theorem kn_rows (B : Nat) : ∀ r ∈ (knX B).order, r.2.length ≤ 65536 := by
  intro r hr
  simp only [knX, List.mem_cons, List.not_mem_nil, or_false] at hr
  subst hr
  show 2 ≤ 65536
  omega
theorem kn_graph (W : World) : PairsZ (W.alloc (.cells #[.int .i64 0, .int .i64 1, .int .i64 1, .int .i64 0] 34)).heap.size (W.alloc (.cells #[.int .i64 0, .int .i64 1, .int .i64 1, .int .i64 0] 34)) ⟨some ⟨W.heap.size, 0, none⟩, 2, 2⟩ [(0, 1), (1, 0)] := by
  refine ⟨rfl, by simp, Or.inr ⟨W.heap.size, 0, rfl, by simp, ?_⟩⟩
  intro k hk
  have hk2 : k < 2 := hk
  simp only [cellOf (World.alloc_heap_new W (.cells #[.int .i64 0, .int .i64 1, .int .i64 1, .int .i64 0] 34))]
  match k, hk2 with
  | 0, _ => exact ⟨rfl, rfl⟩
  | 1, _ => exact ⟨rfl, rfl⟩

set_option maxRecDepth 1000000 in
set_option maxHeartbeats 2000000 in
theorem known_c (w : World) : Calls Try.prog 10 #[] w fun o w' => o = .returned (.bool true) ∧ Below w.heap.size w w' := by
  go_enter Try.func10, Try.ntmps10
  go_upto_region 2 with (fail)
  change Code.wp _ _ _ _ (knW w)
  have hb0 := knW_below w
  have hs := knW_size w
  have RC : Hid (Calls Try.prog 25 #[.agg #[.slice (some ⟨w.heap.size, 0, none⟩) 3 3, .slice (some ⟨w.heap.size + 1, 0, none⟩) 3 3, .slice (some ⟨w.heap.size + 1 + 1 + 1, 0, none⟩) 1 1]] (knW w) fun o w' => ∃ s : Sl, o = .returned (.slice s.a s.n s.c) ∧ PairsIn w'.heap.size w' s [mkP 1 2] ∧ Below (knW w).heap.size (knW w) w') := Lib.hid (by
    have t := rf_c (knX w.heap.size) (knW w) (knX_in w) (kn_rows _)
    rw [kn_rf] at t; exact t)
  have CC : Hid (∀ W, Below (knW w).heap.size (knW w) W → Calls Try.prog 11 #[.agg #[.slice (some ⟨w.heap.size, 0, none⟩) 3 3, .slice (some ⟨w.heap.size + 1, 0, none⟩) 3 3, .slice (some ⟨w.heap.size + 1 + 1 + 1, 0, none⟩) 1 1]] W fun o w' => o = .returned (.int .i64 0) ∧ Below W.heap.size W w') := Lib.hid (fun W hW => by
    have t := check_c (knX w.heap.size) W (Ex.inW.later (knX_in w) hW) (kn_rows _)
    rw [kn_check] at t; exact t)
  have c0 : (knW w).cell? ⟨w.heap.size + 1 + 1 + 1 + 1, 0, none⟩ = some (.slice (some ⟨w.heap.size, 0, none⟩) 3 3) := (cellOf (knW_4 w) 0).trans rfl
  have c1 : (knW w).cell? ⟨w.heap.size + 1 + 1 + 1 + 1, 1, none⟩ = some (.slice (some ⟨w.heap.size + 1, 0, none⟩) 3 3) := (cellOf (knW_4 w) 1).trans rfl
  have c2 : (knW w).cell? ⟨w.heap.size + 1 + 1 + 1 + 1, 2, none⟩ = some (.slice (some ⟨w.heap.size + 1 + 1 + 1, 0, none⟩) 1 1) := (cellOf (knW_4 w) 2).trans rfl
  obtain ⟨W1, hW1⟩ : ∃ W1, knW w = W1 := ⟨_, rfl⟩
  rw [hW1] at RC CC c0 c1 c2 hb0 hs ⊢
  clear hW1
  go_wp2_with fail
  refine RC.out.mono ?_; rintro o w1 ⟨⟨sa, sn, sc⟩, rfl, ⟨hn, _, hrow⟩, hb1⟩
  have hn1 : sn = 1 := hn
  subst hn1
  obtain ⟨pb, po, hsa, hpb, hpc⟩ := hrow.resolve_left (by simp)
  dsimp only at hsa
  subst hsa
  dsimp only
  have p0 : w1.cell? ⟨pb, po, none⟩ = some (.int .i64 1) := (hpc 0 (by simp)).1
  have p1 : w1.cell? ⟨pb, po + 1, none⟩ = some (.int .i64 2) := (hpc 0 (by simp)).2
  have d0 := (hb1.cell (p := ⟨w.heap.size + 1 + 1 + 1 + 1, 0, none⟩) (by show w.heap.size + 1 + 1 + 1 + 1 < W1.heap.size; omega)).trans c0
  have d1 := (hb1.cell (p := ⟨w.heap.size + 1 + 1 + 1 + 1, 1, none⟩) (by show w.heap.size + 1 + 1 + 1 + 1 < W1.heap.size; omega)).trans c1
  have d2 := (hb1.cell (p := ⟨w.heap.size + 1 + 1 + 1 + 1, 2, none⟩) (by show w.heap.size + 1 + 1 + 1 + 1 < W1.heap.size; omega)).trans c2
  clear hpc hn hrow c0 c1 c2
  go_wp2_with fail
  refine (CC.out w1 hb1).mono ?_; rintro o w2 ⟨rfl, hb2⟩
  have e0 : w2.cell? ⟨pb, po, none⟩ = some (.int .i64 1) := (hb2.cell (p := ⟨pb, po, none⟩) hpb).trans p0
  have e1 : w2.cell? ⟨pb, po + 1, none⟩ = some (.int .i64 2) := (hb2.cell (p := ⟨pb, po + 1, none⟩) hpb).trans p1
  have AC := Lib.hid (acyclic_c 2 _ _ _ (kn_graph w2) (by simp))
  rw [kn_acy] at AC
  have HB : Hid (∀ W, Below (w2.alloc (.cells #[.int .i64 0, .int .i64 1, .int .i64 1, .int .i64 0] 34)).heap.size (w2.alloc (.cells #[.int .i64 0, .int .i64 1, .int .i64 1, .int .i64 0] 34)) W → Below w.heap.size w W) := Lib.hid (fun W h =>
    (hb0.trans ((hb1.trans (hb2.mono hb1.size)).mono (by omega))).trans ((((Below.refl w2.heap.size w2).alloc (Nat.le_refl _) _).trans (h.mono (by simp))).mono (by have := hb1.size; have := hb2.size; omega)))
  clear d0 d1 d2 p0 p1
  go_wp2_with fail
  refine AC.out.mono ?_; rintro o w3 ⟨rfl, hb3⟩
  go_wp2
  go_ret
  exact ⟨rfl, HB.out _ hb3⟩
end Go.Proofs.Ytgeaaegkcbjhlaa
