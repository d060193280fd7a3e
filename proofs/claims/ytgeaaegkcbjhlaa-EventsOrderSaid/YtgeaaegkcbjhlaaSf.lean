/- slices.SortFunc at pairs of one's own; slices.Collect, SortedFunc; 'pairs', in plain data. -/
import Derived.Test.YtgeaaegkcbjhlaaRp
import Derived.Test.YtgeaaegkcbjhlaaPairC
set_option maxRecDepth 100000
set_option linter.unusedVariables false
set_option linter.unusedSimpArgs false
namespace Go.Proofs.Ytgeaaegkcbjhlaa
open Go.RowKit Go.Shelf Go.Maps Go.Sort
/-- places below 65536 -/
def smallP (l : List (Int × Int)) : Prop := ∀ p ∈ l, 0 ≤ p.1 ∧ p.1 < 65536 ∧ 0 ≤ p.2 ∧ p.2 < 65536
def toI (x : P2) : Int × Int := ((x.1.val : Int), (x.2.val : Int))
theorem small_P2 : ∀ {l : List (Int × Int)}, smallP l → ∃ d : List P2, l = d.map toI
  | [], _ => ⟨[], rfl⟩
  | (a, b) :: l, h => by
    obtain ⟨d, hd⟩ := small_P2 (l := l) fun p hp => h p (by simp [hp])
    obtain ⟨h1, h2, h3, h4⟩ := h (a, b) (by simp)
    dsimp only at h1 h2 h3 h4
    refine ⟨(⟨a.toNat, by omega⟩, ⟨b.toNat, by omega⟩) :: d, ?_⟩
    rw [List.map_cons, ← hd]
    refine congrArg (· :: l) ?_
    unfold toI
    dsimp only
    rw [Int.toNat_of_nonneg h1, Int.toNat_of_nonneg h3]
/-- by rising places -/
def ltZ (x y : Int × Int) : Bool := decide (x.1 < y.1 ∨ (x.1 = y.1 ∧ x.2 < y.2))
def sortZ (l : List (Int × Int)) : List (Int × Int) := l.mergeSort (fun x y => !ltZ y x)
theorem sortP_toI (d : List P2) : (sortP d).map toI = sortZ (d.map toI) := by
  unfold sortP sortZ
  refine List.map_mergeSort fun a _ b _ => ?_
  unfold ltP ltZ toI
  congr 1
  refine decide_eq_decide.2 ?_
  dsimp only
  omega
theorem pair_rep {G : Gh} {p : Int × Int} {o : Nat} {y : OV} {v : Value} (hy : (pairO' p)[o]? = some y) (hv : RepO G y v) : v = (if o = 0 then Value.int .i64 p.1 else .int .i64 p.2) := by
  match o, hy with
  | 0, hy => simp [pairO'] at hy; subst hy; rw [RepO, Rep] at hv; exact hv.1
  | 1, hy => simp [pairO'] at hy; subst hy; rw [RepO, Rep] at hv; exact hv.1
theorem rowAt_flat {G : Gh} {cs : Array Value} {d : List P2} (h : RowAt G cs ⟨2, (d.map toI).map pairO'⟩) (hl : d.length * 2 ≤ cs.size) : cs.toList.take (d.length * 2) = flatP d := by
  apply List.ext_getElem?
  intro t
  by_cases ht : t < d.length * 2
  · have hi : t / 2 < d.length := by omega
    rw [flatP_get d t ht, List.getElem?_take_of_lt ht, Array.getElem?_toList]
    obtain ⟨_, h2⟩ := h (t / 2) (pairO' (toI (d.getD (t / 2) default))) (by simp [List.getD, hi])
    have hm : t % 2 = 0 ∨ t % 2 = 1 := by omega
    rcases hm with hm | hm
    · obtain ⟨v, h3, h4⟩ := h2 0 _ rfl
      have h5 := pair_rep (p := toI (d.getD (t / 2) default)) (o := 0) rfl h4
      dsimp only at h3
      rw [show t / 2 * 2 + 0 = t by omega] at h3
      rw [h3, h5, hm]; rfl
    · obtain ⟨v, h3, h4⟩ := h2 1 _ rfl
      have h5 := pair_rep (p := toI (d.getD (t / 2) default)) (o := 1) rfl h4
      dsimp only at h3
      rw [show t / 2 * 2 + 1 = t by omega] at h3
      rw [h3, h5, hm]; rfl
  · rw [List.getElem?_take_eq_none (by omega), List.getElem?_eq_none (by rw [flatP_length]; omega)]
theorem flat_rowAt {G : Gh} {cs : Array Value} {d : List P2} (h : cs.toList.take (d.length * 2) = flatP d) : RowAt G cs ⟨2, (d.map toI).map pairO'⟩ := fun i row hi => by
  have hlt : i < d.length := by
    rcases Nat.lt_or_ge i d.length with hh | hh
    · exact hh
    · rw [List.getElem?_eq_none (by simpa using hh)] at hi; cases hi
  have hrow : row = pairO' (toI (d.getD i default)) := by
    simp [List.getD, hlt] at hi ⊢; exact hi.symm
  subst hrow
  refine ⟨rfl, fun o y hy => ?_⟩
  have get : ∀ t, t < d.length * 2 → cs[t]? = some ((encP (d.getD (t / 2) default))[t % 2]!) := fun t ht => by
    rw [← flatP_get d t ht, ← h, List.getElem?_take_of_lt ht, Array.getElem?_toList]
  have e0 := get (i * 2) (by omega)
  have e1 := get (i * 2 + 1) (by omega)
  rw [show i * 2 / 2 = i by omega, show i * 2 % 2 = 0 by omega] at e0
  rw [show (i * 2 + 1) / 2 = i by omega, show (i * 2 + 1) % 2 = 1 by omega] at e1
  match o, hy with
  | 0, hy => simp [pairO'] at hy; subst hy; exact ⟨_, e0, by rw [RepO, Rep]; exact ⟨rfl, rfl⟩⟩
  | 1, hy => simp [pairO'] at hy; subst hy; exact ⟨_, e1, by rw [RepO, Rep]; exact ⟨rfl, rfl⟩⟩
theorem sortZ_length (l : List (Int × Int)) : (sortZ l).length = l.length := List.length_mergeSort _
theorem sortFunc_w (k : Nat) (τ : Stamp) (l : List (Int × Int)) (hs : smallP l) (hl : l.length ≤ 1073741824) :
    FnW E.P 63 [.os k τ 2 l.length, .fn 55 [] []] (stL [(k, (τ, ⟨2, l.map pairO'⟩))]) (IsW (.tu []) (stL [(k, (τ, ⟨2, (sortZ l).map pairO'⟩))])) := by
  refine ⟨⟨_, Try.func63, by decide, rfl⟩, fun G w vs N hv hw => ?_⟩
  obtain ⟨d, rfl⟩ := small_P2 hs
  rw [RepOL] at hv
  obtain ⟨x1, us, rfl, h1, hv⟩ := hv
  rw [RepOL] at hv
  obtain ⟨x2, us, rfl, h2, hv⟩ := hv
  rw [RepOL] at hv
  subst hv
  rw [RepO] at h2
  obtain ⟨f1, f2, rfl, hf1, hf2⟩ := h2
  rw [RepOL] at hf1 hf2
  have hf1 : f1 = #[] := Array.toList_eq_nil_iff.1 hf1
  have hf2 : f2 = #[] := Array.toList_eq_nil_iff.1 hf2
  subst hf1 hf2
  have hk : stL [(k, (τ, (⟨2, (d.map toI).map pairO'⟩ : Row)))] k = some (τ, ⟨2, (d.map toI).map pairO'⟩) := by simp [stL]
  have htu : RepO G (.tu []) (.tuple #[]) := by rw [RepO]; exact ⟨#[], rfl, by rw [RepOL]⟩
  rw [RepO] at h1
  rcases h1 with ⟨β, c, hμ, rfl, hc1, hc2, hc3⟩ | ⟨hμ, rfl, hn⟩
  · obtain ⟨cs, hb, hsz, hrl, hrow⟩ := hw.blk hk hμ
    have hlen : (d.map toI).length = d.length := by simp
    rw [hlen] at hc1 ⊢
    simp only [List.length_map] at hrl
    have hflat := rowAt_flat hrow (by rw [hsz]; exact hrl)
    have hF : (flatK encP 2 d.toArray).size = d.length * 2 := by simp
    have hH : HoldsK encP 2 w β.b 0 d.toArray := holds_of_blockV hb (by rw [hF, flatK_toList]; exact hflat)
    have hlt : β.b < w.heap.size := (Array.getElem?_eq_some_iff.1 hb).1
    have cS := sortPairs_c β.b 0 c d.toArray w hH hlt (by simp; simp at hl; omega)
    rw [List.size_toArray] at cS
    refine cS.mono ?_
    rintro e w' ⟨rfl, d', nn, os, hp, hso, rfl⟩
    have hd : d'.size = d.length := by have := hp.1; simpa using this
    have hsort : d'.toList = sortP d := sortP_unique d.toArray d' (by simpa using hp) (by simpa using hso)
    have hF2 : (flatK encP 2 d').size = d.length * 2 := by simp [hd]
    have hg := grownBy_sortedV (w := w) (g := β.b) (n := nn) (os := os) (flatK encP 2 d')
    have hb' := heap_sortedV (n := nn) (os := os) (flatK encP 2 d') hb
    have hsd : (sortP d).length = d.length := by rw [← hsort]; simp [hd]
    have hpl : (putCells id 0 (flatK encP 2 d') cs).size = cs.size := by simp [putCells]
    refine ⟨_, G, .tu [], _, rfl, ⟨rfl, ?le⟩, .refl _, htu, hw.put (r' := ⟨2, (sortZ (d.map toI)).map pairO'⟩) hk hμ hg.size hg.tape hg.os hg.output (fun b hb1 hne => hg.block b hb1 (fun e => hne (Option.some.inj e))) ⟨_, hb', by rw [hpl, hsz], by rw [← sortP_toI]; simp [hsd]; omega, ?_⟩⟩
    case le =>
      intro t y hy
      unfold stL at hy
      cases hbq : Nat.beq t k with
      | true => rw [hbq] at hy; cases hy; rw [Nat.eq_of_beq_eq_true hbq]; exact Store.put_self _ _ _
      | false => rw [hbq] at hy; cases hy
    · rw [← sortP_toI]
      refine flat_rowAt ?_
      rw [hsd, ← hF2, take_putCellsV cs _ (by rw [hF2, hsz]; exact hrl), ← hsort, ← flatK_toList]
  · have hd : d = [] := by
      have : d.length = 0 := by simpa using hn
      exact List.eq_nil_of_length_eq_zero this
    subst hd
    refine (sortPairs_none none 0 (.func (.func 55) #[] #[]) w).mono ?_
    rintro e w' ⟨rfl, rfl⟩
    refine ⟨_, G, .tu [], _, rfl, ⟨rfl, ?_⟩, .refl _, htu, hw⟩
    have : sortZ (([] : List P2).map toI) = [] := by simp [sortZ]
    rw [this]
    exact fun t y h => h
theorem smallP_sort {l : List (Int × Int)} (h : smallP l) : smallP (sortZ l) := fun p hp => h p ((List.mergeSort_perm l _).mem_iff.1 hp)
set_option maxHeartbeats 4000000 in
theorem collect_s {y : OV} {f : FuncId} {fi ca : List OV} (hf : IsFn y f fi ca) (l : List (Int × Int)) (hl : l.length ≤ 1073741824) (hs : SeqW E.P f fi ca (pairYs l)) :
    Own E.P 62 [y] 2 (l.map pairO') := by
  refine fn_of_awp Try.func62 (by decide) rfl Try.ntmps62 (Nat.le_of_ble_eq_true rfl) rfl ?_
  refine awp_seq ?_
  ((refine ao_region ?_ (fun _ => ?_)); exact rfl)
  (apply S_nilA; exact rfl; exact rfl; exact rfl; exact rfl)
  refine ao_nil ?_
  refine then_n ?_
  refine awp_seq ?_
  ((refine ao_region ?_ (fun _ => ?_)); exact rfl)
  (apply S_move; exact rfl)
  ((apply S_own; exact rfl; exact .fn _ _ _; exact rfl; exact appendSeq_p hf l hl hs))
  (apply S_ren; exact rfl; exact rfl)
  refine ao_nil ?_
  refine then_n ?_
  refine awp_ret ?_
  rotate_left
  exact own_done (d := 2) rfl rfl rfl rfl
theorem sortFunc_w' (k : Nat) (τ : Stamp) (l : List (Int × Int)) (hs : smallP l) (hl : l.length ≤ 1073741824) :
    FnW E.P 63 [.os k τ 2 (l.map pairO').length, .fn 55 [] []] (stL [(k, (τ, ⟨2, l.map pairO'⟩))]) (IsW (.tu []) (stL [(k, (τ, ⟨2, (sortZ l).map pairO'⟩))])) := by
  rw [List.length_map]; exact sortFunc_w k τ l hs hl
set_option maxHeartbeats 4000000 in
theorem sortedFunc_s {y : OV} {f : FuncId} {fi ca : List OV} (hf : IsFn y f fi ca) (l : List (Int × Int)) (hsm : smallP l) (hl : l.length ≤ 1073741824) (hs : SeqW E.P f fi ca (pairYs l)) :
    Own E.P 54 [y, .fn 55 [] []] 2 ((sortZ l).map pairO') := by
  refine fn_of_awp Try.func54 (by decide) rfl Try.ntmps54 (Nat.le_of_ble_eq_true rfl) rfl ?_
  refine awp_seq ?_
  ((refine ao_region ?_ (fun _ => ?_)); exact rfl)
  (apply S_nilA; exact rfl; exact rfl; exact rfl; exact rfl)
  refine ao_nil ?_
  refine then_n ?_
  refine awp_seq ?_
  ((refine ao_region ?_ (fun _ => ?_)); exact rfl)
  (apply S_move; exact rfl)
  ((first
      | (apply S_own; exact rfl; exact .fn _ _ _; exact rfl; exact collect_s hf l hl hs)
      | (apply S_callw; exact rfl; exact .fn _ _ _; exact rfl; exact sortFunc_w' _ _ l hsm hl; exact (by repeat' (first | exact le_nil _ | exact sle_nil _ | refine le_cons rfl ?_ | refine sle_cons rfl ?_)); exact rfl; simp)))
  (apply S_ren; exact rfl; exact rfl)
  refine ao_nil ?_
  refine then_n ?_
  refine awp_seq ?_
  ((refine ao_region ?_ (fun _ => ?_)); exact rfl)
  iterate 2 (apply S_move; exact rfl)
  ((first
      | (apply S_own; exact rfl; exact .fn _ _ _; exact rfl; exact collect_s hf l hl hs)
      | (apply S_callw; exact rfl; exact .fn _ _ _; exact rfl; exact sortFunc_w' _ _ l hsm hl; exact (by repeat' (first | exact le_nil _ | exact sle_nil _ | refine le_cons rfl ?_ | refine sle_cons rfl ?_)); exact rfl; simp)))
  refine ao_nil ?_
  refine then_n ?_
  refine awp_seq ?_
  ((refine ao_region ?_ (fun _ => ?_)); exact rfl)
  (apply S_move; exact rfl)
  (apply S_ren; exact rfl; exact rfl)
  refine ao_nil ?_
  refine then_n ?_
  refine awp_ret ?_
  rotate_left

  refine own_done (d := 4) rfl rfl rfl ?_
  simp [sortZ_length]
set_option maxHeartbeats 4000000 in
theorem pairs_s {y : OV} {f : FuncId} {fi ca : List OV} (hf : IsFn y f fi ca) (l : List (Int × Int)) (hsm : smallP l) (hl : l.length ≤ 1073741824) (hs : SeqW E.P f fi ca (pairYs l)) :
    Own E.P 43 [y] 2 ((sortZ l).map pairO') := by
  refine fn_of_awp Try.func43 (by decide) rfl Try.ntmps43 (Nat.le_of_ble_eq_true rfl) rfl ?_
  refine awp_seq ?_
  ((refine ao_region ?_ (fun _ => ?_)); exact rfl)
  (apply S_nilA; exact rfl; exact rfl; exact rfl; exact rfl)
  refine ao_nil ?_
  refine then_n ?_
  refine awp_seq ?_
  ((refine ao_region ?_ (fun _ => ?_)); exact rfl)
  (apply S_move; exact rfl)
  ((apply S_own; exact rfl; exact .fn _ _ _; exact rfl; exact sortedFunc_s hf l hsm hl hs))
  (apply S_ren; exact rfl; exact rfl)
  refine ao_nil ?_
  refine then_n ?_
  refine awp_ret ?_
  rotate_left
  exact own_done (d := 2) rfl rfl rfl rfl
end Go.Proofs.Ytgeaaegkcbjhlaa
