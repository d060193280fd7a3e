/- The execution that OrderFences builds: it may be. Plain. -/
import Derived.Test.YtnghoibkjphfmaaGreatPd4
import Derived.Test.YtnghoibkjphfmaaGreatPd17
namespace Go.Proofs.YtnghoibkjphfmaaGreat
def bgE (i : Nat) : Ev := ev0 (-1) 5 (4 * (i : Int)) 0 false
def bgs (n : Nat) : List Ev := (List.range n).map bgE
def fenceE (pred succ : Int) : Ev := ⟨0, 4, 0, 0, 0, false, false, pred, succ, false, ⟨none, 0, 0⟩, ⟨none, 0, 0⟩, ⟨none, 0, 0⟩, [], [], []⟩
structure FqS where
  es : List Ev
  fs : List Int
  os : List (List Int)
def FqS.ex (s : FqS) : Ex := ⟨default, default, default, s.es, s.fs, s.os.map fun r => (default, r)⟩
def FqS.fence (pred succ : Int) (s : FqS) : FqS := ⟨s.es ++ [fenceE pred succ], s.fs ++ [-1], s.os⟩
/-- one access more: 1 loads, 2 stores, 3 both -/
def FqS.acc (i : Nat) (k : Int) (s : FqS) : FqS :=
  ⟨s.es ++ [ev0 0 k (4 * (i : Int)) (if k = 1 then 0 else 1) false], s.fs ++ [if k = 2 then -1 else (i : Int)], if k = 1 then s.os else s.os.set i (s.os.getD i [] ++ [(s.es.length : Int)])⟩
def fq0 (n : Nat) : FqS := ⟨bgs n, List.replicate n (-1), (List.range n).map fun (i : Nat) => [(i : Int)]⟩
structure FqOk (n : Nat) (s : FqS) (i m : Nat) : Prop where
  check : checkI s.ex = 0
  ad : addrsTo s.es = (List.range n).map fun (i : Nat) => 4 * (i : Int)
  len : s.es.length = n + m
  fl : s.fs.length = n + m
  ol : s.os.length = n
  rows : ∀ j, (s.os.getD j []).length ≤ 2
  row : ∀ j, i ≤ j → j < n → s.os.getD j [] = [(j : Int)]
  bg : ∀ j, j < n → s.es.getD j default = bgE j
  hart : ∀ j, (s.es.getD j default).hart ≤ 0
  ok : ∀ e ∈ s.es, e.ok
theorem bgs_get {n j : Nat} (h : j < n) : (bgs n).getD j default = bgE j := by
  unfold bgs
  rw [List.getD_eq_getElem?_getD, List.getElem?_map, List.getElem?_range h]; rfl
theorem fq_zero {n : Nat} (hn : n ≤ 8) : FqOk n (fq0 n) 0 0 := by
  have had : addrsTo (bgs n) = (List.range n).map fun (i : Nat) => 4 * (i : Int) := by
    have : ∀ n, n < 9 → addrsTo (bgs n) = (List.range n).map fun (i : Nat) => 4 * (i : Int) := by decide +kernel
    exact this n (by omega)
  refine ⟨?_, had, by simp [fq0, bgs], by simp [fq0], by simp [fq0], fun j => ?_, fun j _ hj => ?_, fun j hj => bgs_get hj, fun j => ?_, fun e he => ?_⟩
  · have h2 : ∀ n, n < 9 → evsTo (bgs n) (addrsTo (bgs n)) (bgs n).length = true := by decide +kernel
    have h3 : ∀ n, n < 9 → fromB (bgs n) (List.replicate n (-1)) = true := by decide +kernel
    have h4 : ∀ n, n < 9 → ∀ i, i < n → wantTo (bgs n) ((addrsTo (bgs n)).getD i 0) (bgs n).length = [(i : Int)] := by decide +kernel
    refine check_of (by simp [FqS.ex, fq0, bgs]; omega) (h2 n (by omega)) (h3 n (by omega)) ?_
    unfold orderB rowsTo
    simp only [Bool.and_eq_true, decide_eq_true_eq]
    refine ⟨?_, ?_⟩
    · show ((fq0 n).os.map _).length = (addrsTo (bgs n)).length
      rw [had]; simp [fq0]
    · rw [List.all_eq_true]
      intro i hi
      have hin : i < n := by simpa [FqS.ex, fq0] using hi
      have e : ((fq0 n).ex.order.getD i default).2 = [(i : Int)] := by
        show (((fq0 n).os.map fun r => ((default : Sl), r)).getD i default).2 = _
        rw [List.getD_eq_getElem?_getD, List.getElem?_map]
        simp [fq0, hin]
      have hs : sortI [(i : Int)] = [(i : Int)] := by unfold sortI; simp
      rw [e]
      unfold rowOk
      rw [hs, show wantTo (fq0 n).ex.evs ((addrsTo (fq0 n).ex.evs).getD i 0) (fq0 n).ex.evs.length = [(i : Int)] from h4 n (by omega) i hin]
      simp
  · show (((List.range n).map fun (i : Nat) => [(i : Int)]).getD j []).length ≤ 2
    rw [List.getD_eq_getElem?_getD, List.getElem?_map]
    cases (List.range n)[j]? <;> simp
  · show ((List.range n).map fun (i : Nat) => [(i : Int)]).getD j [] = _
    rw [List.getD_eq_getElem?_getD, List.getElem?_map, List.getElem?_range hj]; rfl
  · show ((bgs n).getD j default).hart ≤ 0
    rcases Nat.lt_or_ge j n with h | h
    · rw [bgs_get h]; exact (by decide : (-1 : Int) ≤ 0)
    · rw [List.getD_eq_getElem?_getD, List.getElem?_eq_none (by simpa [bgs] using h)]; decide
  · have he' : e ∈ bgs n := he
    unfold bgs at he'
    obtain ⟨j, hj, rfl⟩ := List.mem_map.1 he'
    have := List.mem_range.1 hj
    exact ev0_ok (by decide) (by decide) (by omega) (by decide)
theorem ad_mem {n i : Nat} (h : i < n) : 4 * (i : Int) ∈ (List.range n).map fun (i : Nat) => 4 * (i : Int) := List.mem_map.2 ⟨i, List.mem_range.2 h, rfl⟩
theorem ad_getD {n i : Nat} (h : i < n) : ((List.range n).map fun (i : Nat) => 4 * (i : Int)).getD i 0 = 4 * (i : Int) := by
  rw [List.getD_eq_getElem?_getD, List.getElem?_map, List.getElem?_range h]; rfl
theorem map_row {os : List (List Int)} (j : Nat) : ((os.map fun r => ((default : Sl), r)).getD j default).2 = os.getD j [] := by
  rw [List.getD_eq_getElem?_getD, List.getElem?_map, List.getD_eq_getElem?_getD]
  cases os[j]? <;> rfl
theorem fq_fence {n i m : Nat} {s : FqS} {pred succ : Int} (h : FqOk n s i m) (hnm : n + m < 64) (hp : 0 ≤ pred ∧ pred ≤ 3) (hs : 0 ≤ succ ∧ succ ≤ 3) : FqOk n (s.fence pred succ) i (m + 1) := by
  have hlen := h.len
  have hN : Next s.ex (fenceE pred succ) (-1) := by
    refine ⟨by show s.es.length < 64; omega, (by decide : (4 : Int) ≠ 5), ?_, (by decide : (0 : Int) % 4 = 0), ⟨hangs_nil _ _, hangs_nil _ _, hangs_nil _ _⟩, ⟨Int.le_refl 0, (by decide : (0 : Int) < 4)⟩, Or.inr (h.hart _), fun h4 => (h4 rfl).elim, Or.inl ⟨rfl, rfl⟩⟩
    unfold Ev.bareB fenceE
    simp [hp, hs]
  have hst : (fenceE pred succ).stB = false := rfl
  have hc := check_snoc (y := (s.fence pred succ).ex) h.check hN rfl rfl rfl (fun k hk => by rw [hst]; rfl)
  refine ⟨hc.1, hc.2.trans h.ad, ?_, ?_, h.ol, h.rows, h.row, fun j hj => ?_, fun j => ?_, fun e he => ?_⟩
  · unfold FqS.fence; simp only [List.length_append, List.length_singleton]; omega
  · unfold FqS.fence; simp only [List.length_append, List.length_singleton]; have := h.fl; omega
  · show (s.es ++ [fenceE pred succ]).getD j default = _
    rw [getD_snoc_lt (by omega)]; exact h.bg j hj
  · show ((s.es ++ [fenceE pred succ]).getD j default).hart ≤ 0
    rcases Nat.lt_trichotomy j s.es.length with h1 | h1 | h1
    · rw [getD_snoc_lt h1]; exact h.hart j
    · rw [getD_snoc_eq h1]; exact Int.le_refl 0
    · rw [List.getD_eq_getElem?_getD, List.getElem?_eq_none (by simp; omega)]; decide
  · have hm' : e ∈ s.es ++ [fenceE pred succ] := he
    rw [List.mem_append, List.mem_singleton] at hm'
    rcases hm' with hm' | hm'
    · exact h.ok e hm'
    · rw [hm']
      unfold Ev.ok Ev.wf fenceE
      exact ⟨⟨by dsimp only; omega, by dsimp only; omega, by dsimp only; omega, by dsimp only; omega, by dsimp only; omega, by dsimp only; omega, by dsimp only; omega⟩, Nat.zero_le _, Nat.zero_le _, Nat.zero_le _, rfl, rfl, rfl⟩
theorem fq_acc {n i m : Nat} {s : FqS} {k : Int} (h : FqOk n s i m) (hi : i < n) (hn8 : n ≤ 8) (hnm : n + m < 64) (hk : 1 ≤ k ∧ k ≤ 3) : FqOk n (s.acc i k) (i + 1) (m + 1) := by
  have hlen := h.len
  have hol := h.ol
  have hrow := h.row i (Nat.le_refl _) hi
  have hst : (ev0 0 k (4 * (i : Int)) (if k = 1 then 0 else 1) false).stB = !decide (k = 1) := by
    have : k = 1 ∨ k = 2 ∨ k = 3 := by omega
    rcases this with rfl | rfl | rfl <;> rfl
  have hN : Next s.ex (ev0 0 k (4 * (i : Int)) (if k = 1 then 0 else 1) false) (if k = 2 then -1 else (i : Int)) := by
    refine ⟨by show s.es.length < 64; omega, by show k ≠ 5; omega, ?_, by show 4 * (i : Int) % 4 = 0; omega, ⟨hangs_nil _ _, hangs_nil _ _, hangs_nil _ _⟩, ⟨Int.le_refl 0, (by decide : (0 : Int) < 4)⟩, Or.inr (h.hart _), fun _ => ?_, ?_⟩
    · have : k = 1 ∨ k = 2 ∨ k = 3 := by omega
      rcases this with rfl | rfl | rfl <;> rfl
    · show 4 * (i : Int) ∈ addrsTo s.es
      rw [h.ad]; exact ad_mem hi
    · by_cases h2 : k = 2
      · subst h2; exact Or.inl ⟨rfl, rfl⟩
      · right
        rw [if_neg h2]
        refine ⟨?_, by omega, by show (i : Int) < (s.es.length : Int); omega, ?_⟩
        · have : k = 1 ∨ k = 3 := by omega
          rcases this with rfl | rfl <;> rfl
        · rw [Int.toNat_natCast]
          show (s.es.getD i default).stB = true ∧ (s.es.getD i default).addr = 4 * (i : Int) ∧ (s.es.getD i default).val = 0
          rw [h.bg i hi]
          exact ⟨rfl, rfl, rfl⟩
  have hord : ∀ j, j < s.ex.order.length → ((s.acc i k).ex.order.getD j default).2 = if ((ev0 0 k (4 * (i : Int)) (if k = 1 then 0 else 1) false).stB && ((ev0 0 k (4 * (i : Int)) (if k = 1 then 0 else 1) false).addr == (addrsTo s.ex.evs).getD j 0)) = true then (s.ex.order.getD j default).2 ++ [(s.ex.evs.length : Int)] else (s.ex.order.getD j default).2 := fun j hj => by
    have hjn : j < n := by
      have : s.ex.order.length = s.os.length := by simp [FqS.ex]
      omega
    have ha : addrsTo s.ex.evs = (List.range n).map fun (i : Nat) => 4 * (i : Int) := h.ad
    rw [hst, ha, ad_getD hjn]
    show (((s.acc i k).os.map fun r => ((default : Sl), r)).getD j default).2 = if (!decide (k = 1) && (4 * (i : Int) == 4 * (j : Int))) = true then ((s.os.map fun r => ((default : Sl), r)).getD j default).2 ++ [(s.es.length : Int)] else ((s.os.map fun r => ((default : Sl), r)).getD j default).2
    rw [map_row, map_row]
    unfold FqS.acc
    dsimp only
    by_cases h1 : k = 1
    · rw [if_pos h1, decide_eq_true h1]; rfl
    · rw [if_neg h1, decide_eq_false h1]
      by_cases hij : i = j
      · subst hij
        rw [if_pos (by simp), List.getD_eq_getElem?_getD, List.getElem?_set_self (by omega)]; rfl
      · rw [if_neg (by simp only [Bool.not_false, Bool.true_and, beq_iff_eq]; omega), List.getD_eq_getElem?_getD, List.getElem?_set_ne hij, ← List.getD_eq_getElem?_getD]
  have hc := check_snoc (y := (s.acc i k).ex) h.check hN rfl rfl (by
    show ((s.acc i k).os.map _).length = (s.os.map _).length
    unfold FqS.acc
    dsimp only
    split <;> simp) hord
  refine ⟨hc.1, hc.2.trans h.ad, ?_, ?_, ?_, fun j => ?_, fun j h1 h2 => ?_, fun j hj => ?_, fun j => ?_, fun e he => ?_⟩
  · unfold FqS.acc; simp only [List.length_append, List.length_singleton]; omega
  · unfold FqS.acc; simp only [List.length_append, List.length_singleton]; have := h.fl; omega
  · unfold FqS.acc; dsimp only; split <;> simp [hol]
  · unfold FqS.acc
    dsimp only
    split
    · exact h.rows j
    · by_cases e : i = j
      · subst e
        rw [List.getD_eq_getElem?_getD, List.getElem?_set_self (by omega), Option.getD_some, hrow]; simp
      · rw [List.getD_eq_getElem?_getD, List.getElem?_set_ne e, ← List.getD_eq_getElem?_getD]; exact h.rows j
  · unfold FqS.acc
    dsimp only
    split
    · exact h.row j (by omega) h2
    · rw [List.getD_eq_getElem?_getD, List.getElem?_set_ne (by omega), ← List.getD_eq_getElem?_getD]; exact h.row j (by omega) h2
  · show (s.es ++ [_]).getD j default = _
    rw [getD_snoc_lt (by omega)]; exact h.bg j hj
  · show ((s.es ++ [_]).getD j default).hart ≤ 0
    rcases Nat.lt_trichotomy j s.es.length with h1 | h1 | h1
    · rw [getD_snoc_lt h1]; exact h.hart j
    · rw [getD_snoc_eq h1]; exact Int.le_refl 0
    · rw [List.getD_eq_getElem?_getD, List.getElem?_eq_none (by simp; omega)]; decide
  · have hm' : e ∈ s.es ++ [ev0 0 k (4 * (i : Int)) (if k = 1 then 0 else 1) false] := he
    rw [List.mem_append, List.mem_singleton] at hm'
    rcases hm' with hm' | hm'
    · exact h.ok e hm'
    · rw [hm']
      exact ev0_ok (by decide) (by omega) (by omega) (by split <;> decide)
/-- what is built ahead of the i-th access; then the fence, where it stands -/
def kindL (l : List Int) (i : Nat) : Int := 1 + ((l.getD i 0).tmod 3 + 3).tmod 3
def fqTo (pred succ : Int) (l : List Int) : Nat → FqS
  | 0 => fq0 l.length
  | i + 1 => (if i = l.length / 2 then (fqTo pred succ l i).fence pred succ else fqTo pred succ l i).acc i (kindL l i)
def fqEnd (pred succ : Int) (l : List Int) : FqS := if l.length = l.length / 2 then (fqTo pred succ l l.length).fence pred succ else fqTo pred succ l l.length
theorem kindL_in (l : List Int) (i : Nat) : 1 ≤ kindL l i ∧ kindL l i ≤ 3 := by
  unfold kindL
  have h1 := Int.tmod_lt_of_pos (l.getD i 0) (show (0 : Int) < 3 by decide)
  have h2 : -3 < (l.getD i 0).tmod 3 := Int.lt_tmod_of_pos _ (by decide)
  rw [Int.tmod_eq_emod_of_nonneg (by omega)]
  omega
def fqM (l : List Int) (i : Nat) : Nat := i + if l.length / 2 < i then 1 else 0
theorem fqTo_ok {pred succ : Int} {l : List Int} (hp : 0 ≤ pred ∧ pred ≤ 3) (hs : 0 ≤ succ ∧ succ ≤ 3) (hl : l.length ≤ 8) : ∀ i, i ≤ l.length → FqOk l.length (fqTo pred succ l i) i (fqM l i)
  | 0, _ => fq_zero hl
  | i + 1, h => by
    have ih := fqTo_ok hp hs hl i (by omega)
    unfold fqTo
    have hm : fqM l i ≤ i + 1 := by unfold fqM; split <;> omega
    by_cases e : i = l.length / 2
    · rw [if_pos e]
      have h1 := fq_acc (fq_fence ih (by omega) hp hs) (by omega) hl (by omega) (kindL_in l i)
      have e2 : fqM l (i + 1) = fqM l i + 1 + 1 := by unfold fqM; rw [if_pos (by omega), if_neg (by omega)]
      rw [e2]; exact h1
    · rw [if_neg e]
      have h1 := fq_acc ih (by omega) hl (by omega) (kindL_in l i)
      have e2 : fqM l (i + 1) = fqM l i + 1 := by unfold fqM; split <;> split <;> omega
      rw [e2]; exact h1
end Go.Proofs.YtnghoibkjphfmaaGreat
/- An own row's cell told otherwise: nothing yet in a slice, a slice by another key. -/
set_option linter.unusedVariables false
namespace Go.Proofs.YtnghoibkjphfmaaGreat
open Go.RowKit
theorem WRel.cell {Γ : Ctx} {G : Gh} {σ : Store} {w : World} {kx q i o : Nat} {τx : Stamp} {rows : List (List OV)} {row : List OV} {y y' : OV} (hw : WRel Γ G σ w) (hk : σ kx = some (τx, ⟨q, rows⟩)) (hr : rows[i]? = some row) (ho : row[o]? = some y) (hy : ∀ x, RepO G y x → RepO G y' x) :
    WRel Γ G (σ.put kx (τx, ⟨q, rows.set i (row.set o y')⟩)) w where
  mem := hw.mem
  own j τ' r' hj := by
    by_cases e : j = kx
    · subst e
      rw [Store.put_self] at hj
      cases hj
      rcases hw.own j _ _ hk with ⟨_, g2⟩ | ⟨β, g1, ⟨cs, c1, c2, c3, c4⟩, g3, g4⟩
      · have g2' : rows = [] := g2
        rw [g2'] at hr; simp at hr
      · refine Or.inr ⟨β, g1, ⟨cs, c1, c2, by simpa using c3, fun i' row' hi => ?_⟩, g3, g4⟩
        by_cases ei : i' = i
        · subst ei
          obtain ⟨d1, d2⟩ := c4 i' row hr
          have hlt : i' < rows.length := by
            rcases Nat.lt_or_ge i' rows.length with h | h
            · exact h
            · rw [List.getElem?_eq_none h] at hr; cases hr
          have hi' : (rows.set i' (row.set o y'))[i']? = some row' := hi
          rw [List.getElem?_set_self hlt] at hi'
          cases hi'
          refine ⟨by rw [List.length_set]; exact d1, fun o' z hz => ?_⟩
          by_cases eo : o' = o
          · subst eo
            have hlo : o' < row.length := by
              rcases Nat.lt_or_ge o' row.length with h | h
              · exact h
              · rw [List.getElem?_eq_none h] at ho; cases ho
            rw [List.getElem?_set_self hlo] at hz
            cases hz
            obtain ⟨v, e6, e7⟩ := d2 o' y ho
            exact ⟨v, e6, hy v e7⟩
          · rw [List.getElem?_set_ne (Ne.symm eo)] at hz
            exact d2 o' z hz
        · have hi' : (rows.set i (row.set o y'))[i']? = some row' := hi
          rw [List.getElem?_set_ne (Ne.symm ei)] at hi'
          exact c4 i' row' hi'
    · rw [Store.put_ne _ _ e] at hj
      exact hw.own j τ' r' hj
  inj j j' τ1 τ2 β β' r r' hj hj' hμ hμ' e := by
    have old : ∀ j τ r, (σ.put kx (τx, ⟨q, rows.set i (row.set o y')⟩)) j = some (τ, r) → ∃ r0, σ j = some (τ, r0) := fun j τ r h => by
      by_cases e : j = kx
      · subst e; rw [Store.put_self] at h; cases h; exact ⟨_, hk⟩
      · rw [Store.put_ne _ _ e] at h; exact ⟨r, h⟩
    obtain ⟨r1, h1⟩ := old _ _ _ hj
    obtain ⟨r2, h2⟩ := old _ _ _ hj'
    exact hw.inj j j' τ1 τ2 β β' r1 r2 h1 h2 hμ hμ' e
  keep := hw.keep
  size := hw.size
  tape := hw.tape
  os := hw.os
  output := hw.output
  g0 := hw.g0
  new := hw.new
  bound := hw.bound
  low := hw.low
theorem SRel.tell {n : Nat} {C : Cx} {G G' : Gh} {tm : Tm} {σ σ' : Store} {a : Act} {w : World} (hs : SRel n C G tm σ a w) (hle : G.le G') (hw : WRel C.Γ G' σ' w) : SRel n C G' tm σ' a w :=
  ⟨hs.size, hs.defers, hs.tm.mono hle, hw, hs.fix, hs.marks, fun i Y hi => let ⟨h1, h2, h3⟩ := hs.gh i Y hi; ⟨h1, h2.trans hle, h3⟩⟩
/-- nothing yet in a slice that lies in a row of the call's own: it is the call's own, too -/
theorem awp_ownC {P : Program} {n : Nat} {c : Code} {Q : Exit → Tm → Store → Prop} {tm : Tm} {σ : Store} {kx q i o : Nat} {τx : Stamp} {rows : List (List OV)} {row : List OV} (k s : Nat) (hk : σ kx = some (τx, ⟨q, rows⟩)) (hr : rows[i]? = some row) (ho : row[o]? = some (.d (.c (.slice none 0 0)))) (hne : kx ≠ k)
    (h : ∀ τ, awp P n c Q tm ((σ.put k (τ, ⟨s, []⟩)).put kx (τx, ⟨q, rows.set i (row.set o (.os k τ s 0))⟩))) : awp P n c Q tm σ := fun C ro G a w hro hs => by
  obtain ⟨v, hv, hf⟩ := hs.w.free
  have hle := Gh.name_le G none (hf k 0)
  refine h (v, 0) C ro (G.name k (v, 0) none) a w hro (hs.tell hle ((hs.w.phantom k hv (hf k 0) s).cell (by rw [Store.put_ne _ _ hne]; exact hk) hr ho fun x hx => ?_))
  rw [RepO, Rep] at hx
  rw [RepO]
  exact Or.inr ⟨Gh.name_self _ _ _ _, hx.1, rfl⟩
/-- an own slice that lies in a row of the call's own, by another key -/
theorem awp_rekey {P : Program} {N : Nat} {c : Code} {Q : Exit → Tm → Store → Prop} {tm : Tm} {σ : Store} {kx q i o k s n : Nat} {τx τ : Stamp} {rows : List (List OV)} {row : List OV} {r : Row} (k' : Nat) (hk : σ kx = some (τx, ⟨q, rows⟩)) (hr : rows[i]? = some row) (ho : row[o]? = some (.os k τ s n)) (hs' : σ k = some (τ, r)) (hne : kx ≠ k) (hne' : kx ≠ k')
    (h : ∀ τ', awp P N c Q tm (((σ.del k).put k' (τ', r)).put kx (τx, ⟨q, rows.set i (row.set o (.os k' τ' s n))⟩))) : awp P N c Q tm σ := fun C ro G a w hro hs => by
  obtain ⟨v, hv, hf⟩ := hs.w.free
  obtain ⟨β, h1, h3⟩ := hs.w.rename hs' hv (hf k' 0)
  have hle := Gh.name_le G β (hf k' 0)
  refine h (v, 0) C ro (G.name k' (v, 0) β) a w hro (hs.tell hle (h3.cell (by rw [Store.put_ne _ _ hne', Store.del_ne _ hne]; exact hk) hr ho fun x hx => ?_))
  rw [RepO] at hx ⊢
  rcases hx with ⟨β', c, g1, g2, g3, g4, g5⟩ | ⟨g1, g2, g3⟩
  · have := hle.2 _ _ _ h1
    rw [this] at g1
    cases g1
    exact Or.inl ⟨β', c, Gh.name_self _ _ _ _, g2, g3, g4, g5⟩
  · have := hle.2 _ _ _ h1
    rw [this] at g1
    cases g1
    exact Or.inr ⟨Gh.name_self _ _ _ _, g2, g3⟩
/-! ### keys that are no numbers of a text -/
theorem ap_self (σ : Store) (k : Nat) (x : Stamp × Row) : (σ.apply [(k, some x)]) k = some x := Store.put_self σ k x
theorem ap_nil {σ : Store} {k : Nat} {x : Stamp × Row} (h : σ k = some x) : (σ.apply []) k = some x := h
theorem ap_one {σ : Store} {k d : Nat} {o : Option (Stamp × Row)} {x : Stamp × Row} (hb : Nat.beq k d = false) (hx : σ k = some x) : (σ.apply [(d, o)]) k = some x := by
  have e : k ≠ d := fun e => by subst e; simp at hb
  cases o with
  | none => exact (Store.del_ne σ e).trans hx
  | some y => exact (Store.put_ne σ y e).trans hx
theorem ap_two {σ : Store} {k d d' : Nat} {o o' : Option (Stamp × Row)} {x : Stamp × Row} (hb : Nat.beq k d = false) (hb' : Nat.beq k d' = false) (hx : σ k = some x) : (σ.apply [(d, o), (d', o')]) k = some x := by
  have h1 : (σ.apply [(d, o)]) k = some x := ap_one hb hx
  have h2 : (σ.apply [(d, o), (d', o')]) = (σ.apply [(d, o)]).apply [(d', o')] := by cases o <;> rfl
  rw [h2]
  exact ap_one hb' h1
theorem big_ne {j d : Nat} (h : d < 1000) : Nat.beq (j + 1000) d = false := beq_ne (by omega)
theorem stL_ne {k d : Nat} {y : Stamp × Row} {l : Rows} {x : Stamp × Row} (hb : Nat.beq k d = false) (h : stL l k = some x) : stL ((d, y) :: l) k = some x := by
  rw [stL_cons, hb]; exact h
theorem stL_self (k : Nat) (y : Stamp × Row) (l : Rows) : stL ((k, y) :: l) k = some y := by
  rw [stL_cons, Nat.beq_refl]; rfl
/-- rows by rising great keys -/
def fam (f : Nat → Stamp × Row) (a : Nat) : Nat → Rows
  | 0 => []
  | m + 1 => (a + 1000, f a) :: fam f (a + 1) m
theorem fam_get {f : Nat → Stamp × Row} {k : Nat} {x : Stamp × Row} : ∀ {m a : Nat}, stL (fam f a m) k = some x → ∃ j, a ≤ j ∧ j < a + m ∧ k = j + 1000 ∧ x = f j
  | 0, a, h => by cases h
  | m + 1, a, h => by
    unfold fam at h
    rw [stL_cons] at h
    cases hb : Nat.beq k (a + 1000) with
    | true => rw [hb] at h; cases h; exact ⟨a, Nat.le_refl _, by omega, Nat.eq_of_beq_eq_true hb, rfl⟩
    | false =>
      rw [hb] at h
      obtain ⟨j, h1, h2, h3, h4⟩ := fam_get (m := m) (a := a + 1) h
      exact ⟨j, by omega, by omega, h3, h4⟩
theorem fam_at {f : Nat → Stamp × Row} {j : Nat} : ∀ {m a : Nat}, a ≤ j → j < a + m → stL (fam f a m) (j + 1000) = some (f j)
  | 0, a, h, h' => by omega
  | m + 1, a, h, h' => by
    unfold fam
    by_cases e : a = j
    · subst e; exact stL_self _ _ _
    · exact stL_ne (beq_ne (by omega)) (fam_at (m := m) (a := a + 1) (by omega) (by omega))
theorem fam_le {f : Nat → Stamp × Row} {σ : Store} {a m : Nat} (h : ∀ j, a ≤ j → j < a + m → σ (j + 1000) = some (f j)) : (stL (fam f a m)).le σ := fun k x hk => by
  obtain ⟨j, h1, h2, rfl, rfl⟩ := fam_get hk
  exact h j h1 h2
end Go.Proofs.YtnghoibkjphfmaaGreat
