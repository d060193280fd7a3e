/- The frames of the laws over executions and pairs: each argument is opened once into what the walks speak of; nothing that was there is written, so each argument reads behind the call as it read before. -/
import Derived.Test.YtgeaaegkcbjhlaaPz
import Derived.Lib.SmallJoins
import Derived.WideKeyArgs
import Derived.Deep.SlicePairs
import Derived.SizedLaws
import Derived.ProofKit
import Derived.OpenShut
namespace Go.Proofs.Ytgeaaegkcbjhlaa
open Go.RowKit Go.ChangeShapes Go.WideShapes Go.Deep

theorem below_sameAt {n : Nat} {W W' : World} {q : MemPlace} (h : Below n W W') (hq : q.block < n) : W.sameAt W' q := by
  cases q with
  | cell b o => exact World.cell?_of_block (w := W) (h.block b hq)
  | map b => exact h.block b hq
theorem stays_all {H : Type} {enc : TypeId × Value → H} {W W' : World} (hl : laidOutB Try.prog = true) (hb : Below W.heap.size W W') :
    ∀ {ts : List TypeId} {vs : List Value} {ds : List (DataW H)} {p : List MemPlace}, (∀ t ∈ ts, Try.prog.readableRec t = true ∧ t < Try.prog.types.size) → DataW.TrodAll enc Try.prog W 0 (fun _ => true) true ts vs ds p → (∀ q ∈ p, q.block < W.heap.size) →
      ∀ sp : Nat → Bool, (∀ q ∈ p, sp q.block = true) → DataW.TrodAll enc Try.prog W' 0 sp true ts vs ds p
  | [], vs, ds, p, _, h, _, sp, _ => by
    obtain ⟨rfl, rfl, rfl⟩ := trodAll_nil h
    exact trodAll_mk0
  | t :: ts, vs, ds, p, ht, h, hlt, sp, hsp => by
    obtain ⟨v, vs', d, ds', p0, p1, rfl, rfl, rfl, h0, r0⟩ := trodAll_cons h
    have h1 := WideElems.Trod_stays hl (ht t (by simp)).1 (ht t (by simp)).2 (W' := W') (sp' := sp) h0 (fun q hq => below_sameAt hb (hlt q (by simp [hq]))) (fun q hq => hsp q (by simp [hq]))
    exact trodAll_cons_mk h1 (stays_all hl hb (fun t' ht' => ht t' (by simp [ht'])) r0 (fun q hq => hlt q (by simp [hq])) sp (fun q hq => hsp q (by simp [hq])))
theorem laid_ok : laidOutB Try.prog = true := by kernel_rfl

/-! ### sizes of what lies down in a datum -/
theorem w_mem_all {H : Type} {P : Program} {e : TypeId} : ∀ {es : List (DataW H)} {d : DataW H}, d ∈ es → ∀ n ∈ d.weights P e, n ∈ DataW.weightsAll P e es
  | [], _, h, _, _ => by cases h
  | x :: es, d, h, n, hn => by
    simp only [DataW.weightsAll, List.mem_append]
    rcases List.mem_cons.1 h with rfl | h
    · exact Or.inl hn
    · exact Or.inr (w_mem_all h n hn)
theorem w_slice {H : Type} {P : Program} {t e : TypeId} {es sp : List (DataW H)} (ht : P.underlying t = some (.slice e)) (h : ∀ n ∈ (DataW.slice es sp).weights P t, n ≤ reachBytes) :
    (es.length + sp.length) * P.bytesOf e ≤ reachBytes ∧ ∀ d ∈ es, ∀ n ∈ d.weights P e, n ≤ reachBytes := by
  unfold DataW.weights at h
  rw [ht] at h
  refine ⟨h _ (by simp), fun d hd n hn => h n ?_⟩
  simp only [List.mem_cons, List.mem_append]
  exact Or.inr (Or.inl (w_mem_all hd n hn))
theorem w_struct {H : Type} {P : Program} {t : TypeId} {fs : Array Field} {parts : List (DataW H)} (ht : P.underlying t = some (.struct fs)) (h : ∀ n ∈ (DataW.agg parts).weights P t, n ≤ reachBytes) {i : Nat} {f : Field} {d : DataW H} (hf : fs[i]? = some f) (hd : parts[i]? = some d) :
    ∀ n ∈ d.weights P f.type, n ≤ reachBytes := by
  intro n hn
  refine h n ?_
  unfold DataW.weights
  rw [ht]
  exact DataW.weights_mem_each (j := i) (t := f.type) (by simp [hf]) hd n hn
theorem w_arg {H : Type} {P : Program} {ts : List TypeId} {ds : List (DataW H)} (h : (DataW.weightsEach P ts ds).all (· ≤ reachBytes) = true) {j : Nat} {t : TypeId} {d : DataW H} (ht : ts[j]? = some t) (hd : ds[j]? = some d) : ∀ n ∈ d.weights P t, n ≤ reachBytes := by
  intro n hn
  have := List.all_eq_true.1 h n (DataW.weights_mem_each ht hd n hn)
  simpa using this
theorem cell_lt {W : World} {a : Addr} {v : Value} (h : W.cell? a = some v) : a.spot = none ∧ a.block < W.heap.size := by
  unfold World.cell? at h
  cases hb : W.heap[a.block]? with
  | none => rw [hb] at h; cases h
  | some o =>
    refine ⟨?_, (Array.getElem?_eq_some_iff.1 hb).1⟩
    rw [hb] at h
    cases o with
    | cells c t fr =>
      simp only at h
      cases hs : a.spot with
      | none => rfl
      | some _ => rw [hs] at h; simp at h
    | _ => cases h
theorem addr_eq {a : Addr} (h : a.spot = none) : a = ⟨a.block, a.off, none⟩ := by cases a; simp at h; subst h; rfl

section
variable {H : Type} {enc : TypeId × Value → H} {W : World} {sp : Nat → Bool} {held : Bool}

theorem ints_in {k : IntKind} {t e : TypeId} {fuel : Nat} {cs : List Value} {x : DataW H × List MemPlace} (ht : Try.prog.underlying t = some (.slice e)) (he : Try.prog.underlying e = some (.int k)) (hc : Try.prog.cellsOf e = 1) (hby : 1 ≤ Try.prog.bytesOf e)
    (h : DataW.trod enc Try.prog W 0 sp held fuel t cs = some x) (hw : ∀ n ∈ x.1.weights Try.prog t, n ≤ reachBytes) :
    ∃ (s : Sl) (l : List Int), cs = [.slice s.a s.n s.c] ∧ IntsIn k W.heap.size W s l ∧ (∀ z ∈ l, (Lit.int k z).wf = true) := by
  rcases open_ints ht he hc h with ⟨rfl, rfl⟩ | ⟨a, len, cap, zs, rfl, hb, hl, hm, hlen, rfl, hcell, hwf⟩
  · exact ⟨⟨none, 0, 0⟩, [], rfl, ⟨rfl, by simp, Or.inl rfl⟩, by simp⟩
  · have hle : len ≤ zs.length := by rw [hlen]; split <;> omega
    have hwt := (w_slice ht hw).1
    refine ⟨⟨some a, len, cap⟩, zs.take len, rfl, ⟨by simp; omega, ?_, ?_⟩, fun z hz => hwf z (List.mem_of_mem_take hz)⟩
    · have h1 : (lits (H := H) k (zs.take len)).length = min len zs.length := by simp [lits]
      rw [h1] at hwt
      have h2 : min len zs.length ≤ (min len zs.length + (lits (H := H) k (zs.drop len)).length) * Try.prog.bytesOf e := by
        refine Nat.le_trans ?_ (Nat.le_mul_of_pos_right _ (by omega)); omega
      unfold reachBytes at hwt
      rw [List.length_take]
      omega
    · by_cases h0 : len = 0
      · left; rw [h0]; rfl
      · right
        have hc0 := hcell 0 (by omega)
        obtain ⟨hs, hlt⟩ := cell_lt hc0
        have ea := addr_eq (a := a) hs
        refine ⟨a.block, a.off, by rw [← ea], hlt, fun i hi => ?_⟩
        rw [List.length_take] at hi
        have := hcell i (by omega)
        rw [ea, add_plain] at this
        have e : zs.getD i 0 = (zs.take len).getD i 0 := by
          simp only [List.getD_eq_getElem?_getD, List.getElem?_take]
          rw [if_pos (by omega)]
        rw [e] at this
        exact this

theorem pairs_in {t e : TypeId} {f0 f1 : Field} {fuel : Nat} {cs : List Value} {x : DataW H × List MemPlace} (ht : Try.prog.underlying t = some (.slice e)) (he : Try.prog.underlying e = some (.struct #[f0, f1])) (ce : Try.prog.cellsOf e = 2) (o0 : f0.offset = 0) (o1 : f1.offset = 1)
    (c0 : Try.prog.cellsOf f0.type = 1) (c1 : Try.prog.cellsOf f1.type = 1) (hby : 1 ≤ Try.prog.bytesOf e) (i0 : Try.prog.underlying f0.type = some (.int .i64)) (i1 : Try.prog.underlying f1.type = some (.int .i64))
    (h : DataW.trod enc Try.prog W 0 sp held fuel t cs = some x) (hw : ∀ n ∈ x.1.weights Try.prog t, n ≤ reachBytes) :
    ∃ (s : Sl) (l : List (Int × Int)), cs = [.slice s.a s.n s.c] ∧ PairsZ W.heap.size W s l ∧ (∀ z ∈ l, (Lit.int .i64 z.1).wf = true ∧ (Lit.int .i64 z.2).wf = true) := by
  rcases open_slice_pairs ht he ce o0 o1 c0 c1 h with ⟨rfl, rfl⟩ | ⟨a, len, cap, m, n, V0, V1, D0, D1, P0, P1, rfl, hb, hl, hm, hmm, rfl, hcell⟩
  · exact ⟨⟨none, 0, 0⟩, [], rfl, ⟨rfl, by simp, Or.inl rfl⟩, by simp⟩
  · have hle : len ≤ m := by rw [hmm]; split <;> omega
    have hwt := (w_slice ht hw).1
    obtain ⟨Z, hZ⟩ := choose_lt (α := Int × Int) (n := len) (p := fun i z => W.cell? (a.add (i * 2)) = some (.int .i64 z.1) ∧ W.cell? (a.add (i * 2 + 1)) = some (.int .i64 z.2) ∧ (Lit.int .i64 z.1).wf = true ∧ (Lit.int .i64 z.2).wf = true) (fun i hi => by
      obtain ⟨g0, g1, t0, t1⟩ := hcell i (by omega)
      obtain ⟨z0, e0, _, w0⟩ := DataW.trod_int i0 t0
      obtain ⟨z1, e1, _, w1⟩ := DataW.trod_int i1 t1
      simp only [List.cons.injEq, and_true] at e0 e1
      rw [e0] at g0; rw [e1] at g1
      exact ⟨(z0, z1), g0, g1, w0, w1⟩)
    have hL : ((List.range len).map Z).length = len := by simp
    refine ⟨⟨some a, len, cap⟩, (List.range len).map Z, rfl, ⟨hL.symm, ?_, ?_⟩, ?_⟩
    · rw [hL]
      simp only [List.length_map, List.length_range] at hwt
      have h2 : len ≤ (len + (m - len)) * Try.prog.bytesOf e := by
        refine Nat.le_trans ?_ (Nat.le_mul_of_pos_right _ (by omega)); omega
      unfold reachBytes at hwt
      omega
    · by_cases h0 : len = 0
      · left; rw [h0]; rfl
      · right
        obtain ⟨g0, _⟩ := hZ 0 (by omega)
        obtain ⟨hs, hlt⟩ := cell_lt g0
        have ea := addr_eq (a := a) hs
        refine ⟨a.block, a.off, by rw [← ea], hlt, fun i hi => ?_⟩
        rw [hL] at hi
        obtain ⟨g0, g1, _⟩ := hZ i hi
        rw [ea, add_plain] at g0 g1
        have e : ((List.range len).map Z).getD i (0, 0) = Z i := by simp [List.getD, hi]
        rw [e]
        exact ⟨g0, g1⟩
    · intro z hz
      obtain ⟨i, hi, rfl⟩ := List.mem_map.1 hz
      obtain ⟨_, _, w0, w1⟩ := hZ i (List.mem_range.1 hi)
      exact ⟨w0, w1⟩
end
end Go.Proofs.Ytgeaaegkcbjhlaa
