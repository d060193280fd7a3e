/- Ranges over functions, in plain data: what a call of yield does; an iterator's contract; the statement. -/
import Derived.RangeFuncNested
import Derived.Shelf.SlSortCmp.WholeK
import Derived.Shelf.SlGeneric
import Derived.Ground.SlsfProg
import Derived.Test.YtnghoibkjphfmaaGreatProg
import Derived.Shelf.SlSortCmp.NoneTotal
import Derived.Test.YtnghoibkjphfmaaGreatPe3
import Derived.Test.YtnghoibkjphfmaaGreatPe4
import Derived.Test.YtnghoibkjphfmaaGreatPe6
import Derived.Test.YtnghoibkjphfmaaGreatPe8
set_option linter.unusedVariables false
namespace Go.Proofs.YtnghoibkjphfmaaGreat
open Go.RowKit
abbrev Rows := List (Nat × (Stamp × Row))
/-- the blocks that an iterator's call may turn: the rows that it was handed, what its yields turn -/
def YBlks (Y : YJ) (G : Gh) (l : Rows) (b : Nat) : Prop := Blks G (stL l) b ∨ Y.D b
/-- A call of yield: from state i, rows l0, to state i', rows that R1 takes; it answers ans. -/
def YieldW (P : Program) (Y : YJ) (k : Nat) (τ : Stamp) (i i' : Nat) (args : List OV) (l0 : Rows) (R1 : Rows → Prop) (ans : Bool) : Prop :=
  ∀ (G : Gh) (w : World) (vs : List Value) (N : Nat) (β : Blk), Y.g.le G → G.μ k τ = some (some β) → Y.J i w → RepOL G args vs → WRel ⟨w, YBlks Y G l0, G, N⟩ G (stL l0) w →
    YieldAt Fence.wide 0 P β.b vs.toArray w (fun e w' => e = .returned (.bool ans) ∧ ∃ l1, R1 l1 ∧ ∃ G' σ', (stL l1).le σ' ∧ G.le G' ∧ WRel ⟨w, YBlks Y G l0, G, N⟩ G' σ' w' ∧ Y.J i' w')
/-- An iterator's call, handed yield. -/
def FnY (P : Program) (f : FuncId) (args : List OV) (Y : YJ) (i i' : Nat) (l0 : Rows) (R1 : Rows → Prop) : Prop :=
  Enters P f ∧ ∀ (G : Gh) (w : World) (vs : List Value) (N : Nat), Y.g.le G → Y.J i w → RepOL G args vs → WRel ⟨w, YBlks Y G l0, G, N⟩ G (stL l0) w →
    Calls P f vs.toArray w (fun e w' => (∃ x, e = .returned x) ∧ ∃ l1, R1 l1 ∧ ∃ G' σ', (stL l1).le σ' ∧ G.le G' ∧ WRel ⟨w, YBlks Y G l0, G, N⟩ G' σ' w' ∧ Y.J i' w')
/-- An iterator gives these values, one behind the other, as long as it is told to go on: m of them; st: the last one was answered 'no'. J: the rows at each state; their keys are none of the iterator's own. -/
def SeqW (P : Program) (f : FuncId) (fi ca : List OV) (ys : List (List OV)) : Prop :=
  ∀ (Y : YJ) (k : Nat) (τ : Stamp) (J : Nat → Rows → Prop) (m : Nat) (st : Bool), m ≤ ys.length → (st = false → m = ys.length) → (st = true → 0 < m) →
    (∀ i l, J i l → (l.map (·.1)).Nodup) → (∀ i l, J i l → ∀ e ∈ l, 1000 ≤ e.1) →
    (∀ i l0, i < m → J i l0 → YieldW P Y k τ i (i + 1) (ys.getD i []) l0 (J (i + 1)) (!(st && i + 1 == m))) → ∀ l0, J 0 l0 → FnY P f (fi ++ [.yl k τ] ++ ca) Y 0 m l0 (J m)
theorem behind_out {σ σ1 : Store} {l0 l1 : Rows} (hn : (l1.map (·.1)).Nodup) (g1 : (stL l1).le σ1) {k : Nat} {τ : Stamp} {r : Row} (hr : ((σ.apply (dels l0)).apply (outD l1)) k = some (τ, r)) : ((stL l0) k = none ∧ σ k = some (τ, r)) ∨ σ1 k = some (τ, r) := by
  rw [applyD_out l1 _ k hn] at hr
  cases h8 : stL l1 k with
  | some x => rw [h8] at hr; cases hr; exact Or.inr (g1 _ _ h8)
  | none =>
    rw [h8, applyD_del] at hr
    cases h9 : stL l0 k with
    | some x => rw [h9] at hr; cases hr
    | none => rw [h9] at hr; exact Or.inl ⟨rfl, hr⟩
theorem out_le {σ : Store} {l0 l1 : Rows} (hn : (l1.map (·.1)).Nodup) : (stL l1).le ((σ.apply (dels l0)).apply (outD l1)) := fun k x hx => by
  rw [applyD_out l1 _ k hn, hx]
/-! ### the iterator's side -/
/-- where yield is called: the state, the rows -/
theorem yield_ok {P : Program} {v j : Nat} {tm : Tm} {σ : Store} {n : Nat} {dst : Option Tmp} {ty : TypeId} {pos : String} {af : Array Edge} {gd : Option (Nat × Bool)} {x : Operand} {xs : List Operand} {tys : Array TypeId} {ys : List OV} {Y : YJ} {k : Nat} {τ : Stamp} {i i' : Nat} {l0 : Rows} {R1 : Rows → Prop} {ans : Bool} 
    (hY : YieldW P Y k τ i i' ys l0 R1 ans) (hx : ev tm x = some (.yl k τ)) (ha : evs tm xs = some ys) (hg : tm GS = some (.gh i Y)) (hle : (stL l0).le σ) (hn : ∀ l1, R1 l1 → (l1.map (·.1)).Nodup)
    {C : Cx} {G : Gh} {a : Act} {w : World} {ro : Option Nat} {next : Act → World → Prop} {Q : Exit → Act → World → Prop} (hd : ∀ d, dst = some d → d < n ∧ d ≠ GS) (hro : C.ro = ro) (hN : C.Γ.N ≤ v) (hf : ∀ k, G.μ k (v, j) = none) (hs : SRel n C G tm σ a w)
    (hnext : ∀ l1 G' a' w', R1 l1 → G.le G' → (∀ k v' i, v' ≤ v → (v' = v → i ≠ j) → G'.μ k (v', i) = G.μ k (v', i)) → SRel n C G' ((tm.putO dst (.bool ans)).put GS (.gh i' Y)) ((σ.apply (dels l0)).apply (outD l1)) a' w' → next a' w') :
    Oper.wpIn (wideR ro) 0 P ⟨dst, .call { callee := .value x, args := xs.toArray, argTypes := tys }, ty, pos, af, gd⟩ a w next Q := by
  have h1 := ev_rep hs.tm hx
  rw [RepO] at h1
  obtain ⟨β, hβ, hxv⟩ := h1
  have h4 := evs_rep ha fun z _ y hy => ev_rep hs.tm hy
  obtain ⟨hJ, hJg, hJf⟩ := hs.gh i Y hg
  have hst : WRel ⟨w, YBlks Y G l0, G, v + 1⟩ G (stL l0) w := by
    have := hs.w.startW hle (v + 1)
    exact ⟨this.mem, fun k τ r hk => (this.own k τ r hk).imp id fun ⟨β, e1, e2, e3, e4⟩ => ⟨β, e1, e2, e3, e4.imp id Or.inl⟩, this.inj, fun _ _ _ => rfl, this.size, this.tape, this.os, this.output, this.g0, fun b o v h => Or.inl h, this.bound, this.low⟩
  obtain ⟨fn, tmps, assign, body, hy, hR⟩ := hY G w (xs.map a.eval) (v + 1) β hJg hβ hJ h4 hst
  unfold Oper.wpIn
  refine ⟨fun _ _ => trivial, ?_⟩
  rw [show (wideR ro).round = ro from rfl, Oper.semAt_eq ro a.eval _ (fun c hc => by cases hc)]
  have hrun : (execOp a.eval ⟨dst, .call { callee := .value x, args := xs.toArray, argTypes := tys }, ty, pos, af, gd⟩).run P w = .ok (.round β.b fn tmps assign body) w := by
    have e : (xs.map a.eval).toArray = xs.toArray.map a.eval := by simp
    rw [e] at hy
    simp only [execOp, resolve, hxv, Deferred.ofValue, Sem.run_bind, Sem.run_pure, Result.andThen_ok, invoke]
    simpa using hy
  rw [hrun]
  simp only [Oper.uponIn]
  refine ⟨fun e => (by cases e), ?_⟩
  refine (show RoundIn (wideR ro) (0 - 1) P β.b fn tmps assign body w _ from hR.mono fun e w' ⟨he, l1, hl1, G', σ', g1, g2, g3, g4⟩ => ?_)
  subst he
  have hJn : ∀ k τ r β, σ k = some (τ, r) → G.μ k τ = some (some β) → ¬ Y.D β.b := fun k τ r β h1 h2 hb => by
    obtain ⟨o, e1, e2⟩ := Y.nc i w _ hJ hb
    obtain ⟨cs, f4, _⟩ := hs.w.blk h1 h2
    rw [e1] at f4
    cases f4; cases e2
  have hnr : ∀ b o, C.fix b = some o → ¬ YBlks Y G l0 b := fun b o hb hB => by
    rcases hB with hB | hB
    · exact hs.fix.not_own hst hb hB
    · exact hJf.1 b o hb hB
  refine hnext l1 G' (a.put dst (.bool ans)) w' hl1 g2 (fun k v' i hv' _ => g3.low k v' i (Nat.lt_succ_of_le hv')) ⟨by rw [Act.put_size, hs.size], by rw [Act.put_defers, hs.defers], fun t y ht => ?_, hs.w.backD hle g3 (Nat.le_succ_of_le hN) (fun k τ r hr => ?_) (fun b hb => C.dok b (hJf.2 b hb)) (fun k τ r β _ h1 h2 => hJn k τ r β h1 h2), fun b o hb => ?_, hs.marks, fun i2 Y2 hi => ?_⟩
  · by_cases hn' : t = GS
    · subst hn'
      rw [Tm.put_self] at ht
      exact Or.inl ⟨_, _, (Option.some.inj ht).symm⟩
    · rw [Tm.put_ne _ _ hn'] at ht
      exact (hs.tm.mono g2).put (by rw [RepO, Rep]; exact ⟨rfl, rfl⟩) dst (by rw [hs.size]; exact fun d e => (hd d e).1) t y ht
  · exact behind_out (hn l1 hl1) g1 hr
  · obtain ⟨e1, e2⟩ := hs.fix b o hb
    exact ⟨(g3.keep b (Array.getElem?_eq_some_iff.1 e1).1 (hnr b o hb)).trans e1, e2⟩
  · rw [Tm.put_self] at hi
    cases hi
    exact ⟨g4, hJg.trans g2, hJf⟩
section
variable {E : Env} {v j : Nat} {ops : Array Oper} {K : Tm → Store → Prop} {rest : List Oper} {tm : Tm} {σ : Store} {dst : Option Tmp} {ty : TypeId} {pos : String} {af : Array Edge}
theorem S_yield {x : Operand} {xs : List Operand} {tys : Array TypeId} {ys : List OV} {Y : YJ} {k : Nat} {τ : Stamp} {i i' : Nat} {l0 : Rows} {R1 : Rows → Prop} {ans : Bool} (hx : ev tm x = some (.yl k τ)) (ha : evs tm xs = some ys) (hg : tm GS = some (.gh i Y)) (hY : YieldW E.P Y k τ i i' ys l0 R1 ans)
    (hle : (stL l0).le σ) (hn : ∀ l1, R1 l1 → (l1.map (·.1)).Nodup) (hcont : ∀ l1, R1 l1 → AO E.P v ops K (j + 1) rest ((tm.putO dst (.bool ans)).put GS (.gh i' Y)) ((σ.apply (dels l0)).apply (outD l1))) :
    AO E.P v ops K j (⟨dst, .call { callee := .value x, args := xs.toArray, argTypes := tys }, ty, pos, af, none⟩ :: rest) tm σ :=
  ao_t fun n C G a w ro next Q hd hro hN hf hs hk' => yield_ok hY hx ha hg hle hn hd hro hN hf hs fun l1 G' a' w' h0 h1 h2 h3 => hk' C G' _ _ a' w' (.refl C) h1 h2 h3 (hcont l1 h0)
end
/-- an iterator's end: it has yielded to state i', the rows handed to it are l1 -/
def DoneY (Y : YJ) (i' : Nat) (R1 : Rows → Prop) (e : Exit) (tm : Tm) (σ : Store) : Prop := (e = .normal ∨ e = .ret) ∧ tm GS = some (.gh i' Y) ∧ ∃ l1, R1 l1 ∧ (stL l1).le σ
theorem fny_of_awp {P : Program} {f : FuncId} {fn : Func} {c : Code} {n : Nat} {args : List OV} {Y : YJ} {i i' : Nat} {l0 : Rows} {R1 : Rows → Prop} (hf : P.funcs[f]? = some fn) (hname : (fn.name == "runtime.NumGoroutine") = false) (hb : fn.body = some c) (hn : fn.ntmps = n) (hl : args.length ≤ n) (hr : fn.results = #[])
    (h : awp P n c (DoneY Y i' R1) ((Tm.ini args).put GS (.gh i Y)) (stL l0)) : FnY P f args Y i i' l0 R1 := by
  refine ⟨⟨fn, hf, hname, by rw [hb]; rfl⟩, fun G w vs N hg hJ hv hw => ?_⟩
  refine (body_callsJ (R := fun r σ => ∃ l1, R1 l1 ∧ (stL l1).le σ) (some (i', Y)) Y.D (fun b hb => Or.inr (Or.inr hb)) hf hb hn hl h (fun t y hy => ?_) hv rfl hw rfl (fun i2 Y2 hi => ?_) fun e G' tm σ C a w' hs hq => ?_).mono fun e w' ⟨x, G', r, σ', h1, ⟨l1, hl1, h2⟩, h3, _, h5, h6⟩ => ⟨⟨x, h1⟩, l1, hl1, G', σ', h2, h3, h5, h6 _ _ rfl⟩
  · by_cases ht : t = GS
    · subst ht; rw [Tm.put_self] at hy; exact Or.inl ⟨_, _, (Option.some.inj hy).symm⟩
    · rw [Tm.put_ne _ _ ht] at hy; exact Or.inr (Tm.ini_get hy)
  · rw [Tm.put_self] at hi
    cases hi
    exact ⟨hJ, hg, fun b hb => hb⟩
  · obtain ⟨h1, h2, h3⟩ := hq
    refine ⟨h1, fun m Y' hm => by cases hm; exact h2, .tuple #[], .tu [], ?_, ?_, h3⟩
    · simp [results, hr]
    · rw [RepO]; exact ⟨#[], rfl, by rw [RepOL]⟩
/-! ### the statement's side -/
/-- the round's parameters -/
def Tm.puts (tm : Tm) : List Tmp → List OV → Tm
  | p :: ps, y :: ys => Tm.puts (tm.put p y) ps ys
  | _, _ => tm
def setAll (tmps : Array Value) : List Tmp → List Value → Array Value
  | p :: ps, v :: vs => setAll (tmps.setIfInBounds p v) ps vs
  | _, _ => tmps
theorem setAll_list : ∀ (ps : List Tmp) (vs : List Value) (tmps : Array Value), (ps.zip vs).foldl (fun t (x : Tmp × Value) => t.setIfInBounds x.1 x.2) tmps = setAll tmps ps vs
  | [], vs, tmps => by simp [setAll]
  | p :: ps, [], tmps => by simp [setAll]
  | p :: ps, v :: vs, tmps => by
    rw [List.zip_cons_cons, List.foldl_cons, setAll_list ps vs, setAll]
theorem setAll_fold (ps : List Tmp) (vs : List Value) (tmps : Array Value) : (ps.toArray.zip vs.toArray).foldl (fun t (p, v) => t.setIfInBounds p v) tmps = setAll tmps ps vs := by
  have e : ps.toArray.zip vs.toArray = (ps.zip vs).toArray := by apply Array.ext'; simp
  rw [e, ← setAll_list]
  simp
theorem setAll_size : ∀ (ps : List Tmp) (vs : List Value) (tmps : Array Value), (setAll tmps ps vs).size = tmps.size
  | [], vs, tmps => by simp [setAll]
  | p :: ps, [], tmps => by simp [setAll]
  | p :: ps, v :: vs, tmps => by rw [setAll, setAll_size]; simp
theorem puts_rel {G : Gh} : ∀ {ps : List Tmp} {ys : List OV} {vs : List Value} {tm : Tm} {tmps : Array Value}, RepOL G ys vs → TRel G tm tmps → (∀ p ∈ ps, p < tmps.size) → TRel G (tm.puts ps ys) (setAll tmps ps vs)
  | [], ys, vs, tm, tmps, _, ht, _ => by simpa [setAll, Tm.puts] using ht
  | p :: ps, [], vs, tm, tmps, hv, ht, _ => by
    rw [RepOL] at hv
    subst hv
    simpa [setAll, Tm.puts] using ht
  | p :: ps, y :: ys, vs, tm, tmps, hv, ht, hp => by
    rw [RepOL] at hv
    obtain ⟨v, us, rfl, h1, h2⟩ := hv
    rw [Tm.puts, setAll]
    refine puts_rel h2 ?_ (fun q hq => by rw [Array.size_setIfInBounds]; exact hp q (by simp [hq]))
    intro t z hz
    by_cases e : t = p
    · subst e
      rw [Tm.put_self] at hz
      cases hz
      exact Or.inr ⟨v, by simp [hp t (by simp)], h1⟩
    · rw [Tm.put_ne _ _ e] at hz
      rcases ht t z hz with h | ⟨x, h3, h4⟩
      · exact Or.inl h
      · exact Or.inr ⟨x, by rw [Array.getElem?_setIfInBounds_ne (Ne.symm e)]; exact h3, h4⟩
theorem puts_gs {ps : List Tmp} : ∀ {ys : List OV} {tm : Tm}, (∀ p ∈ ps, p ≠ GS) → (tm.puts ps ys) GS = tm GS := by
  induction ps with
  | nil => intro ys tm _; rfl
  | cons p ps ih =>
    intro ys tm h
    cases ys with
    | nil => rfl
    | cons y ys => rw [Tm.puts, ih fun q hq => h q (by simp [hq]), Tm.put_ne _ _ (Ne.symm (h p (by simp)))]
/-- a block is laid that holds no cells -/
theorem WRel.allocNon {Γ : Ctx} {G : Gh} {σ : Store} {w : World} (h : WRel Γ G σ w) (o : Obj) : WRel Γ G σ (w.alloc o) := by
  have old : ∀ b, b < w.heap.size → (w.alloc o).heap[b]? = w.heap[b]? := fun b hb => by
    show (w.heap.push o)[b]? = _
    rw [Array.getElem?_push_lt hb, Array.getElem?_eq_getElem hb]
  exact {
    mem := fun b i v hm => by
      have h1 := h.mem b i v hm
      obtain ⟨o2, h2, h3⟩ := cells_of_cell h1
      rw [World.cell?_of_block (w := w) (old b (Array.getElem?_eq_some_iff.1 h2).1)]; exact h1
    own := fun k τ r hk => (h.own k τ r hk).imp id fun ⟨β, h1, h2, h3, h4⟩ => ⟨β, h1, h2.of_heap (old β.b h2.lt), h3, h4⟩
    inj := h.inj
    keep := fun b hb hS => (old b (Nat.lt_of_lt_of_le hb h.size)).trans (h.keep b hb hS)
    size := Nat.le_trans h.size (by rw [World.size_alloc]; omega)
    tape := h.tape
    os := h.os
    output := h.output
    g0 := h.g0
    new := h.new
    bound := h.bound
    low := h.low }
theorem WRel.nameY {Γ : Ctx} {G : Gh} {σ : Store} {w : World} (h : WRel Γ G σ w) {k v i : Nat} {β : Blk} (hf : G.μ k (v, i) = none) (hv : Γ.N ≤ v) : WRel Γ (G.name k (v, i) (some β)) σ w := by
  have hle := Gh.name_le G (some β) hf
  have old : ∀ k' τ' r β', σ k' = some (τ', r) → (G.name k (v, i) (some β)).μ k' τ' = some (some β') → G.μ k' τ' = some (some β') := fun k' τ' r β' hk hμ => by
    rcases h.own k' τ' r hk with ⟨h1, _⟩ | ⟨β0, h1, _⟩
    · have := hle.2 _ _ _ h1; rw [hμ] at this; cases this
    · have := hle.2 _ _ _ h1; rw [hμ] at this; cases this; exact h1
  exact {
    mem := h.mem
    own := fun k' τ' r hk => (h.own k' τ' r hk).imp (fun h1 => ⟨hle.2 _ _ _ h1.1, h1.2⟩) fun ⟨β', h1, h2, h3, h4⟩ => ⟨β', hle.2 _ _ _ h1, h2.mono hle, h3, h4⟩
    inj := fun k1 k2 τ1 τ2 β1 β2 r1 r2 a b c d e => h.inj k1 k2 τ1 τ2 β1 β2 r1 r2 a b (old _ _ _ _ a c) (old _ _ _ _ b d) e
    keep := h.keep
    size := h.size
    tape := h.tape
    os := h.os
    output := h.output
    g0 := h.g0.trans hle
    new := h.new
    bound := by
      obtain ⟨n, hn⟩ := h.bound
      refine ⟨max n (v + 1), fun k' v' i' hv' => ?_⟩
      show (if k' = k ∧ (v', i') = (v, i) then _ else _) = _
      rw [if_neg (fun e => by have := congrArg Prod.fst e.2; simp at this; omega)]
      exact hn k' v' i' (by omega)
    low := fun k' v' i' hv' => by
      show (if k' = k ∧ (v', i') = (v, i) then _ else _) = _
      rw [if_neg (fun e => by have := congrArg Prod.fst e.2; simp at this; omega)]
      exact h.low k' v' i' hv' }
/-- the statement is entered -/
theorem enter_any {P : Program} {n : Nat} {C : Cx} {G : Gh} {tm : Tm} {σ : Store} {a : Act} {w : World} (hs : SRel n C G tm σ a w) (fn : FuncId) (ps : Array Tmp) (assign body : Code) :
    ∃ l mark w1 dd, (Instr.enterLoop fn a.tmps ps assign body C.ro).run P w = .ok (l, mark) w1 ∧ w1.heap[l]? = some (.loop { state := .ready, pending := none, fn, tmps := a.tmps, params := ps, assign, body, defers := dd }) ∧ w.heap.size ≤ l ∧
      WRel C.Γ G σ w1 ∧ (∀ b, b < w.heap.size → w1.heap[b]? = w.heap[b]?) ∧ (mark = [] ∨ ∃ D, mark = [{ target := .collected D, args := #[] }] ∧ w.heap.size ≤ D ∧ D ≠ l ∧ w1.heap[D]? = some (.deferred (some []))) := by
  have old : ∀ (w : World) (o : Obj) b, b < w.heap.size → (w.alloc o).heap[b]? = w.heap[b]? := fun w o b hb => by
    show (w.heap.push o)[b]? = _
    rw [Array.getElem?_push_lt hb, Array.getElem?_eq_getElem hb]
  cases hro : C.ro with
  | none =>
    refine ⟨w.heap.size + 1, [{ target := .collected w.heap.size, args := #[] }], _, w.heap.size, run_enterLoop_outer _ _ _ _ _, ?_, Nat.le_succ _, (hs.w.allocNon _).allocNon _, fun b hb => ?_, Or.inr ⟨w.heap.size, rfl, Nat.le_refl _, Nat.ne_of_lt (Nat.lt_succ_self _), ?_⟩⟩
    · have := World.alloc_heap_new (w.alloc (.deferred (some []))) (.loop { state := .ready, pending := none, fn, tmps := a.tmps, params := ps, assign, body, defers := w.heap.size })
      rwa [World.size_alloc] at this
    · rw [old _ _ b (by rw [World.size_alloc]; omega), old _ _ b hb]
    · rw [old _ _ _ (by rw [World.size_alloc]; omega)]; exact World.alloc_heap_new w _
  | some l0 =>
    obtain ⟨r0, h0⟩ := hs.marks.2.2 l0 hro
    exact ⟨_, _, _, _, run_enterLoop_inner (hs.fix l0 _ h0).1 _ _ _ _ _, World.alloc_heap_new w _, Nat.le_refl _, hs.w.allocNon _, fun b hb => old _ _ b hb, Or.inl rfl⟩
/-- the jump that a round leaves -/
def jumpOf : Exit → Option Code
  | .ret => some .ret
  | .exit id => some (.exit id)
  | .goto t => some (.goto t)
  | _ => none
def plainX : Exit → Bool
  | .normal => true
  | .ret => true
  | .exit _ => true
  | .goto _ => true
  | _ => false
theorem jumpOf_none {e : Exit} (h : plainX e = true) (hj : jumpOf e = none) : e = .normal := by
  cases e <;> simp_all [plainX, jumpOf]
/-- what a round owes -/
def RoundQ {X : Type} (ex : Exit) (last : Bool) (I : X → Prop) (S : X → Rows) (e : Exit) (_ : Tm) (σ : Store) : Prop := e = (bif last then ex else .normal) ∧ ∃ x, I x ∧ (stL (S x)).le σ
theorem run_range {P : Program} {a : Act} {w : World} {g : Operand} {l : Nat} {f : FuncId} {vs us : Array Value} (hx : a.eval g = .func (.func f) vs us) (he : Enters P f) :
    (resolve a.eval (rangeCall g l) 0).run P w = .ok { target := .fn (.func f) us, args := vs ++ #[.func (.yield l) #[] #[]] } w ∧
    (invoke (.fn (.func f) us) (vs ++ #[.func (.yield l) #[] #[]])).run P w = .ok (.enter f (vs ++ #[.func (.yield l) #[] #[]] ++ us)) w := by
  obtain ⟨fn, h1, h2, h3⟩ := he
  constructor
  · simp only [resolve, hx, Deferred.ofValue, Sem.run_pure]
    simp [go_sem]
  · simp only [invoke, callFunc, Sem.run_bind, Sem.run_pure, Result.andThen_ok, run_program, h1, h2, h3, Bool.false_eq_true, if_false]
/-- the record, as it is behind j rounds -/
abbrev recAt (fn : FuncId) (tmps : Array Value) (ps : List Tmp) (assign body : Code) (dd : Nat) (ex : Exit) (m j : Nat) : Loop :=
  { state := bif (jumpOf ex).isSome && j == m then .done else .ready, pending := bif (jumpOf ex).isSome && j == m then jumpOf ex else none, fn, tmps, params := ps.toArray, assign, body, defers := dd }
/-- what the statement's rounds turn -/
def rangeYJ (G1 : Gh) (l : Nat) (rc : Nat → Loop) : YJ where
  g := G1
  J j w := w.heap[l]? = some (.loop (rc j))
  D b := b = l
  st _ _ _ h hb := (hb l rfl).trans h
  nc _ _ _ h hb := by subst hb; exact ⟨_, h, rfl⟩
theorem WRel.startY {Γ : Ctx} {G : Gh} {σ : Store} {w : World} (h : WRel Γ G σ w) {l0 : Rows} (hle : (stL l0).le σ) (Y : YJ) (N : Nat) : WRel ⟨w, YBlks Y G l0, G, N⟩ G (stL l0) w := by
  have := h.startW hle N
  exact ⟨this.mem, fun k τ r hk => (this.own k τ r hk).imp id fun ⟨β, e1, e2, e3, e4⟩ => ⟨β, e1, e2, e3, e4.imp id Or.inl⟩, this.inj, fun _ _ _ => rfl, this.size, this.tape, this.os, this.output, this.g0, fun b o v h => Or.inl h, this.bound, this.low⟩
theorem awp_range {X : Type} {P : Program} {n : Nat} {g : Operand} {ps : List Tmp} {assign body : Code} {Q : Exit → Tm → Store → Prop} {tm : Tm} {σ : Store} {y : OV} {f : FuncId} {fi ca : List OV} {ys : List (List OV)}
    (hx : ev tm g = some y) (hf : IsFn y f fi ca) (hseq : SeqW P f fi ca ys) (S : X → Rows) (I : Nat → X → Prop) (x0 : X) (h0 : I 0 x0) (m : Nat) (ex : Exit) (hex : plainX ex = true) (hm : m ≤ ys.length) (hm1 : ex = .normal → m = ys.length) (hm2 : ex ≠ .normal → 0 < m)
    (T : Tm) (hT : T.le tm) (hTg : T GS = none) (hps : (ps.all fun p => Nat.blt p n && !Nat.beq p GS) = true) (hlen : ∀ i, i < m → (ys.getD i []).length = ps.length)
    (hle : (stL (S x0)).le σ) (hnn : ∀ x, ((S x).map (·.1)).Nodup) (hbig : ∀ x, ∀ e ∈ S x, 1000 ≤ e.1)
    (hbody : ∀ i x, i < m → I i x → awp P n assign (fun e tm' σ' => e = .normal ∧ awp P n body (RoundQ ex (i + 1 == m) (I (i + 1)) S) tm' σ') (T.puts ps (ys.getD i [])) (stL (S x)))
    (hq : ∀ x, I m x → Q ex tm ((σ.apply (dels (S x0))).apply (outD (S x)))) : awp P n (.rangeFunc g ps.toArray assign body) Q tm σ := by
  intro C ro G a w hro hs
  subst hro
  obtain ⟨v, hv, hfree⟩ := hs.w.free
  obtain ⟨J, hJd⟩ : ∃ J : Nat → Rows → Prop, J = fun i l => ∃ x, I i x ∧ l = S x := ⟨_, rfl⟩
  have hJm : ∀ i x, I i x → J i (S x) := fun i x hx => by rw [hJd]; exact ⟨x, hx, rfl⟩
  have hJe : ∀ i l, J i l → ∃ x, I i x ∧ l = S x := fun i l hl => by rw [hJd] at hl; exact hl
  have hpl : ∀ p ∈ ps, p < n ∧ p ≠ GS := fun p hp => by
    have := List.all_eq_true.1 hps p hp
    simp only [Bool.and_eq_true, Bool.not_eq_true'] at this
    exact ⟨by simpa using this.1, fun e => by subst e; simp at this⟩
  refine wpIn_rangeFunc fun fn _ => ?_
  obtain ⟨l, mark, w1, dd, he, hl, hlw, hw1, hold, hmk⟩ := enter_any (P := P) hs fn ps.toArray assign body
  obtain ⟨vs, us, hxv, hvs, hus⟩ := hf.rep (ev_rep hs.tm hx)
  let G1 := G.name 0 (v, 0) (some ⟨l, 0, 0⟩)
  have hle1 : G.le G1 := Gh.name_le G _ (hfree 0 0)
  have hμ1 : G1.μ 0 (v, 0) = some (some ⟨l, 0, 0⟩) := Gh.name_self G 0 (v, 0) _
  have hW1 : WRel C.Γ G1 σ w1 := hw1.nameY (hfree 0 0) hv
  let rc := recAt fn a.tmps ps assign body dd ex m
  have hrc : ∀ j, j < m → rc j = { state := .ready, pending := none, fn, tmps := a.tmps, params := ps.toArray, assign, body, defers := dd } := fun j hj => by
    have : (j == m) = false := by simpa using Nat.ne_of_lt hj
    simp [rc, recAt, this]
  obtain ⟨Y, hY⟩ : ∃ Y, Y = rangeYJ G1 l rc := ⟨_, rfl⟩
  have hYJ : ∀ j w, Y.J j w ↔ w.heap[l]? = some (.loop (rc j)) := fun j w => by rw [hY]; exact Iff.rfl
  have hYD : ∀ b, Y.D b ↔ b = l := fun b => by rw [hY]; exact Iff.rfl
  have hYg : Y.g = G1 := by rw [hY]; rfl
  have hround : ∀ i l0, i < m → J i l0 → YieldW P Y 0 (v, 0) i (i + 1) (ys.getD i []) l0 (J (i + 1)) (!((jumpOf ex).isSome && i + 1 == m)) := by
    intro i l0 hi hl0
    obtain ⟨x, hIx, rfl⟩ := hJe _ _ hl0
    intro G2 w2 vs2 N2 β hg2 hβ hJ2 hv2 hw2
    rw [hYg] at hg2
    have hβ' := hg2.2 _ _ _ hμ1
    rw [hβ] at hβ'
    cases hβ'
    have hJ2 := (hYJ _ _).1 hJ2
    rw [hrc i hi] at hJ2
    have hsz : vs2.length = ps.length := by rw [← hlen i hi]; exact hv2.length
    have hy := run_yield (P := P) (args := vs2.toArray) hJ2 (by simp [hsz])
    refine ⟨fn, setAll a.tmps ps vs2, assign, body, ?_, ?_⟩
    · rw [hy, ← setAll_fold]
    refine roundIn_of_wpIn trivial ?_
    let C1 : Cx := ⟨⟨w2, YBlks Y G2 (S x), G2, N2⟩, fun b => if b = l then some (.loop { state := .ready, pending := none, fn, tmps := a.tmps, params := ps.toArray, assign, body, defers := dd }) else none, [], some l, 0, fun _ => False, fun _ h => h.elim, Nat.zero_le _⟩
    have hs2 : SRel n C1 G2 (T.puts ps (ys.getD i [])) (stL (S x)) { tmps := setAll a.tmps ps vs2, defers := [] } w2 := by
      refine ⟨by rw [setAll_size]; exact hs.size, rfl, puts_rel hv2 ((hs.tm.mono (hle1.trans hg2)).le hT) (fun p hp => by rw [hs.size]; exact (hpl p hp).1), hw2, fun b o hb => ?_, ⟨List.nodup_nil, fun d hd => (by cases hd), fun l' hl' => ?_⟩, fun i' Y' hi' => ?_⟩
      · simp only [C1] at hb
        split at hb
        · rename_i e; cases hb; rw [e]; exact ⟨hJ2, rfl⟩
        · cases hb
      · simp only [C1, Option.some.injEq] at hl'
        exact ⟨_, if_pos hl'.symm⟩
      · rw [puts_gs (fun p hp => (hpl p hp).2), hTg] at hi'; cases hi'
    refine wpIn_mono (hbody i x hi hIx C1 (some l) G2 _ w2 rfl hs2) fun e a3 w3 ⟨C3, G3, tm3, σ3, hC3, hs3, he3, hb3⟩ => ?_
    subst he3
    show ∃ w₂, (Instr.beginRound l).run P w3 = .ok () w₂ ∧ body.wpIn (Fence.wide.inRound l) 0 P _ a3 w₂
    have hfl : C3.fix l = some (.loop { state := .ready, pending := none, fn, tmps := a.tmps, params := ps.toArray, assign, body, defers := dd }) := hC3.fix l _ (if_pos rfl)
    have hl3 := (hs3.fix l _ hfl).1
    have hS3 : C3.Γ.S l := by rw [hC3.Γ]; exact Or.inr ((hYD l).2 rfl)
    refine ⟨_, run_beginRound hl3 rfl, ?_⟩
    let C4 : Cx := { C3 with fix := fun b => if b = l then some (.loop { state := .busy, pending := none, fn, tmps := a.tmps, params := ps.toArray, assign, body, defers := dd }) else C3.fix b }
    have hs4 : SRel n C4 G3 tm3 σ3 a3 (w3.putObj l (.loop { state := .busy, pending := none, fn, tmps := a.tmps, params := ps.toArray, assign, body, defers := dd })) := by
      have hgh : ∀ i' Y', tm3 GS = some (OV.gh i' Y') → ∀ b, ¬ Y'.D b := fun i' Y' hi' b hb => by
        have := (hs3.gh i' Y' hi').2.2.2 b hb
        rw [hC3.dD] at this; exact this
      refine ⟨hs3.size, hs3.defers, hs3.tm, hs3.w.putNon hl3 rfl (Or.inr hS3), fun b o hb => ?_, ⟨hs3.marks.1, fun d hd => ?_, fun l' hl' => ?_⟩, fun i' Y' hi' => ⟨Y'.st i' _ _ (hs3.gh i' Y' hi').1 fun b hb => (hgh i' Y' hi' b hb).elim, (hs3.gh i' Y' hi').2.1, fun b o _ hb => hgh i' Y' hi' b hb, (hs3.gh i' Y' hi').2.2.2⟩⟩
      · simp only [C4] at hb
        split at hb
        · rename_i e; cases hb; rw [e]; exact ⟨World.putObj_heap_same (Array.getElem?_eq_some_iff.1 hl3).1, rfl⟩
        · rename_i e; exact ⟨(World.putObj_heap_other e).trans (hs3.fix b o hb).1, (hs3.fix b o hb).2⟩
      · obtain ⟨r, h1, h2, h3⟩ := hs3.marks.2.1 d hd
        refine ⟨r, h1, h2, ?_⟩
        exact (if_neg (fun e => by rw [e, hfl] at h3; cases h3)).trans h3
      · have : C3.ro = some l := hC3.ro
        rw [show C4.ro = C3.ro from rfl, this] at hl'
        cases hl'
        exact ⟨_, if_pos rfl⟩
    refine wpIn_mono (hb3 C4 (some l) G3 a3 _ (show C3.ro = _ from hC3.ro) hs4) fun e a5 w5 ⟨C5, G5, tm5, σ5, hC5, hs5, he5, x5, hx5, hσ5⟩ => ?_
    have hl5 := (hs5.fix l _ (hC5.fix l _ (show C4.fix l = some (.loop { state := .busy, pending := none, fn, tmps := a.tmps, params := ps.toArray, assign, body, defers := dd }) from if_pos rfl))).1
    have hΓ5 : C5.Γ = ⟨w2, YBlks Y G2 (S x), G2, N2⟩ := hC5.Γ.trans hC3.Γ
    have hw5 : WRel ⟨w2, YBlks Y G2 (S x), G2, N2⟩ G5 σ5 w5 := by rw [← hΓ5]; exact hs5.w
    have key : ∀ j, j = jumpOf e → ∃ v w6, (Instr.endRound l j).run P w5 = .ok v w6 ∧ (.returned v : Ending) = .returned (.bool (!((jumpOf ex).isSome && i + 1 == m))) ∧ ∃ l1, J (i + 1) l1 ∧ ∃ G' σ', (stL l1).le σ' ∧ G2.le G' ∧ WRel ⟨w2, YBlks Y G2 (S x), G2, N2⟩ G' σ' w6 ∧ Y.J (i + 1) w6 := by
      intro j hj
      subst hj
      refine ⟨_, _, run_endRound (jumpOf e) hl5, ?_, _, hJm _ _ hx5, G5, σ5, hσ5, hw5.g0, hw5.putNon hl5 rfl (Or.inr (Or.inr ((hYD l).2 rfl))), ?_⟩
      · rw [he5]
        cases hb : i + 1 == m <;> cases hj : jumpOf ex <;> simp [hj] <;> simp [jumpOf]
      · rw [hYJ]
        rw [World.putObj_heap_same (Array.getElem?_eq_some_iff.1 hl5).1, he5]
        cases hb : i + 1 == m <;> cases hj : jumpOf ex <;> simp [rc, recAt, hb, hj] <;> simp [jumpOf]
    have hpx : plainX e = true := by
      rw [he5]
      cases (i + 1 == m)
      · rfl
      · exact hex
    cases e with
    | normal => exact key _ rfl
    | ret => exact key _ rfl
    | exit id => exact key _ rfl
    | goto t => exact key _ rfl
    | panic ch => cases hpx
    | outgrown => cases hpx
  have hF := hseq Y 0 (v, 0) J m _ hm (fun h => hm1 (jumpOf_none hex (by simpa using h))) (fun h => hm2 fun e => by rw [e] at h; cases h) (fun i l hl => by obtain ⟨x, _, rfl⟩ := hJe _ _ hl; exact hnn x) (fun i l hl => by obtain ⟨x, _, rfl⟩ := hJe _ _ hl; exact hbig x) hround _ (hJm _ _ h0)
  obtain ⟨r1, r2⟩ := run_range (P := P) (w := w1) (l := l) hxv hF.1
  refine ⟨l, mark, w1, _, w1, f, _, w1, he, r1, fun _ _ => trivial, r2, fun h => (by cases h), ?_⟩
  have hst : WRel ⟨w1, YBlks Y G1 (S x0), G1, v + 1⟩ G1 (stL (S x0)) w1 := hW1.startY hle Y (v + 1)
  have hlast : rc m = { state := if (jumpOf ex).isSome then .done else .ready, pending := jumpOf ex, fn, tmps := a.tmps, params := ps.toArray, assign, body, defers := dd } := by
    cases hj : jumpOf ex <;> simp [rc, recAt, hj]
  have hJ0 : Y.J 0 w1 := by
    rw [hYJ, hl]
    rcases Nat.eq_zero_or_pos m with h00 | h00
    · have : jumpOf ex = none := by
        cases ex <;> first | rfl | (exact (Nat.lt_irrefl 0 (h00 ▸ hm2 (by simp))).elim)
      subst h00; rw [hlast, this]; rfl
    · rw [hrc 0 h00]
  have hrep : RepOL G1 (fi ++ [.yl 0 (v, 0)] ++ ca) (vs.toList ++ [.func (.yield l) #[] #[]] ++ us.toList) := by
    refine ((hvs.mono hle1).append ?_).append (hus.mono hle1)
    rw [RepOL]
    exact ⟨_, _, rfl, by rw [RepO]; exact ⟨_, hμ1, rfl⟩, by rw [RepOL]⟩
  have hcall := hF.2 G1 w1 _ (v + 1) (by rw [hYg]; exact .refl _) hJ0 hrep hst
  have ea : (vs.toList ++ [Value.func (.yield l) #[] #[]] ++ us.toList).toArray = vs ++ #[.func (.yield l) #[] #[]] ++ us := by simp
  rw [ea] at hcall
  refine (show CallsIn (wideR C.ro) (0 - 1) P f _ w1 _ from callsIn_wide.2 (hcall.mono fun e w2 ⟨⟨x, hx'⟩, l1, hl1, G2, σ2, g1, g2, g3, g4⟩ => ?_))
  obtain ⟨xm, hxm, rfl⟩ := hJe _ _ hl1
  subst hx'
  have g4 := (hYJ _ _).1 g4
  rw [hlast] at g4
  have hkeep : ∀ b o, w1.heap[b]? = some o → o.isCells = false → b ≠ l → (w2.putObj l (.loop { state := .exhausted, pending := jumpOf ex, fn, tmps := a.tmps, params := ps.toArray, assign, body, defers := dd })).heap[b]? = some o := fun b o h1 h2 h3 => by
    refine (World.putObj_heap_other h3).trans ((g3.keep b (Array.getElem?_eq_some_iff.1 h1).1 fun hB => ?_).trans h1)
    rcases hB with ⟨k, τ, r, β, e1, e2, e3⟩ | hB
    · obtain ⟨cs, f4, _⟩ := hst.blk e1 e2
      rw [e3, h1] at f4
      cases f4; cases h2
    · exact h3 ((hYD b).1 hB)
  have hcell : ∀ k τ r β, σ k = some (τ, r) → G1.μ k τ = some (some β) → ¬ Y.D β.b := fun k τ r β h1 h2 hb => by
    obtain ⟨cs, f4, _⟩ := hW1.blk h1 h2
    rw [(hYD _).1 hb, hl] at f4
    cases f4
  have hfm : ∃ fixM : Nat → Option Obj, (∀ b o, fixM b = some o → w.heap.size ≤ b ∧ b ≠ l ∧ w1.heap[b]? = some o ∧ o.isCells = false) ∧ (mark.map (·.target)).Nodup ∧ ∀ d ∈ mark, ∃ r, d.target = .collected r ∧ w.heap.size ≤ r ∧ fixM r = some (.deferred (some [])) := by
    rcases hmk with rfl | ⟨D, rfl, h1, h2, h3⟩
    · exact ⟨fun _ => none, fun b o h => (by cases h), List.nodup_nil, fun d hd => (by cases hd)⟩
    · refine ⟨fun b => if b = D then some (.deferred (some [])) else none, fun b o h => ?_, by simp, fun d hd => ?_⟩
      · simp only at h
        split at h
        · rename_i e; cases h; subst e; exact ⟨h1, h2, h3, rfl⟩
        · cases h
      · simp only [List.mem_singleton] at hd
        subst hd
        exact ⟨D, rfl, h1, if_pos rfl⟩
  obtain ⟨fixM, hM1, hM2, hM3⟩ := hfm
  let C6 : Cx := { C with fix := fun b => match C.fix b with | some o => some o | none => fixM b, defs := mark ++ C.defs }
  have hfo : ∀ b o, C.fix b = some o → C6.fix b = some o := fun b o h => by simp only [C6, h]
  have hfl : ∀ b o, C.fix b = some o → b < w.heap.size := fun b o h => (Array.getElem?_eq_some_iff.1 (hs.fix b o h).1).1
  have hfn : ∀ b o, fixM b = some o → C6.fix b = some o := fun b o h => by
    cases hc : C.fix b with
    | none => simp only [C6, hc]; exact h
    | some o' => have := hfl b o' hc; have := (hM1 b o h).1; omega
  have hfc : ∀ b o, C6.fix b = some o → C.fix b = some o ∨ fixM b = some o := fun b o h => by
    cases hc : C.fix b with
    | none => simp only [C6, hc] at h; exact Or.inr h
    | some o' => simp only [C6, hc] at h; exact Or.inl h
  have hle6 : C.le C6 := ⟨rfl, rfl, rfl, rfl, hfo⟩
  have hold' : ∀ b o, w.heap[b]? = some o → o.isCells = false → b ≠ l ∧ w1.heap[b]? = some o := fun b o h _ => by
    have := (Array.getElem?_eq_some_iff.1 h).1
    exact ⟨by omega, (hold b this).trans h⟩
  have hs6 : SRel n C6 G2 tm ((σ.apply (dels (S x0))).apply (outD (S xm))) { tmps := a.tmps, defers := mark ++ a.defers } (w2.putObj l (.loop { state := .exhausted, pending := jumpOf ex, fn, tmps := a.tmps, params := ps.toArray, assign, body, defers := dd })) := by
    refine ⟨hs.size, by show mark ++ a.defers = mark ++ C.defs; rw [hs.defers], hs.tm.mono (hle1.trans g2), ?_, fun b o hb => ?_, ⟨?_, fun d hd => ?_, fun l' hl' => ?_⟩, fun i' Y' hi' => ?_⟩
    · refine (hW1.backD hle g3 (Nat.le_succ_of_le hv) (fun k τ r hr => ?_) (fun b hb => Or.inl ?_) (fun k τ r β _ h1 h2 => hcell k τ r β h1 h2)).putNon g4 rfl (Or.inl (Nat.le_trans hs.w.size hlw))
      · exact behind_out (hnn xm) g1 hr
      · rw [(hYD b).1 hb]; exact Nat.le_trans hs.w.size hlw
    · rcases hfc b o hb with hb | hb
      · obtain ⟨e1, e2⟩ := hs.fix b o hb
        obtain ⟨e3, e4⟩ := hold' b o e1 e2
        exact ⟨hkeep b o e4 e2 e3, e2⟩
      · obtain ⟨e1, e2, e3, e4⟩ := hM1 b o hb
        exact ⟨hkeep b o e3 e4 e2, e4⟩
    · show ((mark ++ C.defs).map (·.target)).Nodup
      rw [List.map_append, List.nodup_append]
      refine ⟨hM2, hs.marks.1, fun t1 h1 t2 h2 e => ?_⟩
      obtain ⟨d1, e1, rfl⟩ := List.mem_map.1 h1
      obtain ⟨d2, e2, rfl⟩ := List.mem_map.1 h2
      obtain ⟨r1, f1, f2, f3⟩ := hM3 d1 e1
      obtain ⟨r2, f4, f5, f6⟩ := hs.marks.2.1 d2 e2
      rw [f1, f4] at e
      cases e
      have := hfl _ _ f6; omega
    · rcases List.mem_append.1 hd with hd | hd
      · obtain ⟨r, f1, f2, f3⟩ := hM3 d hd
        exact ⟨r, f1, Nat.le_trans C.bok (Nat.le_trans hs.w.size f2), hfn _ _ f3⟩
      · obtain ⟨r, f1, f2, f3⟩ := hs.marks.2.1 d hd
        exact ⟨r, f1, f2, hfo _ _ f3⟩
    · obtain ⟨r, hr⟩ := hs.marks.2.2 l' hl'
      exact ⟨r, hfo _ _ hr⟩
    · obtain ⟨e1, e2, e3, e4⟩ := hs.gh i' Y' hi'
      refine ⟨Y'.st i' _ _ e1 fun b hb => ?_, e2.trans (hle1.trans g2), fun b o hb hD => ?_, e4⟩
      · obtain ⟨o, f1, f2⟩ := Y'.nc _ _ b e1 hb
        obtain ⟨f3, f4⟩ := hold' b o f1 f2
        exact (hkeep b o f4 f2 f3).trans f1.symm
      · rcases hfc b o hb with hb | hb
        · exact e3 b o hb hD
        · obtain ⟨o', f1, f2⟩ := Y'.nc _ _ b e1 hD
          have := (Array.getElem?_eq_some_iff.1 f1).1
          have := (hM1 b o hb).1
          omega
  refine ⟨_, _, run_endLoop g4 (by dsimp only; split <;> simp), ?_⟩
  have hL : Lift n C Q ex { tmps := a.tmps, defers := mark ++ a.defers } _ := ⟨C6, G2, tm, _, hle6, hs6, hq xm hxm⟩
  cases ex with
  | normal => exact hL
  | ret => exact wpIn_ret hL
  | exit id => exact wpIn_exit hL
  | goto t => exact wpIn_goto hL
  | panic ch => cases hex
  | outgrown => cases hex
/-- nothing yet in a slice: it is the call's own -/
theorem awp_own0 {P : Program} {n : Nat} {c : Code} {Q : Exit → Tm → Store → Prop} {tm : Tm} {σ : Store} {d : Nat} (k s : Nat) (ht : tm d = some (.d (.c (.slice none 0 0)))) (h : ∀ τ, awp P n c Q (tm.put d (.os k τ s 0)) (σ.put k (τ, ⟨s, []⟩))) : awp P n c Q tm σ := fun C ro G a w hro hs => by
  obtain ⟨v, hv, hf⟩ := hs.w.free
  have hle := Gh.name_le G none (hf k 0)
  refine h (v, 0) C ro (G.name k (v, 0) none) a w hro ⟨hs.size, hs.defers, fun t y hy => ?_, hs.w.phantom k hv (hf k 0) s, hs.fix, hs.marks, fun i Y hi => ?_⟩
  · by_cases e : t = d
    · subst e
      rw [Tm.put_self] at hy
      cases hy
      rcases hs.tm t _ ht with ⟨i, Y, h1⟩ | ⟨x, h1, h2⟩
      · cases h1
      · refine Or.inr ⟨x, h1, ?_⟩
        rw [RepO, Rep] at h2
        rw [RepO]
        exact Or.inr ⟨Gh.name_self _ _ _ _, h2.1, rfl⟩
    · rw [Tm.put_ne _ _ e] at hy
      exact (hs.tm.mono hle) t y hy
  · by_cases e : GS = d
    · rw [← e, Tm.put_self] at hi; cases hi
    · rw [Tm.put_ne _ _ e] at hi
      obtain ⟨h1, h2, h3⟩ := hs.gh i Y hi
      exact ⟨h1, h2.trans hle, h3⟩
/-! ### a scope that nothing jumps out of -/
section
variable {P : Program} {b : Frame} {a : Act} {k : List Item} {cs : List Frame} {w : World}
theorem stepR_scope {c : Code} : step P (lone (b.atR a (.code (.scope c) :: k)) cs w) = .next (lone (b.atR a (.code c :: .inScope c :: k)) cs w) :=
  step_lone_go (by simp [stepG, stepG.exec, Frame.atR])
theorem stepR_inScope {c : Code} : step P (lone (b.atR a (.inScope c :: k)) cs w) = .next (lone (b.atR a k) cs w) :=
  step_lone_go (by simp [stepG, stepG.exec, Frame.atR])
end
theorem wpIn_scope {F : Fence} {n : Nat} {P : Program} {Q : Exit → Act → World → Prop} {a : Act} {w : World} {c : Code} (h : c.wpIn F n P (Exit.noGoto Q) a w) : (Code.scope c).wpIn F n P Q a w := by
  intro b k cs hro hb hr
  have h0 : (lone (b.atR a (.code (.scope c) :: k)) cs w).fenced P F := fenced_calm hb hr rfl
  obtain ⟨e, a₁, w₁, hq, harr⟩ := h b (.inScope c :: k) cs hro hb hr
  cases e with
  | normal => exact ⟨.normal, a₁, w₁, hq, .head h0 stepR_scope (StepsIn.trans harr (.one (fenced_calm hb hr rfl) stepR_inScope))⟩
  | exit id' =>
    have hx : exitTo id' (.inScope c :: k) = exitTo id' k := by simp [exitTo]
    exact ⟨.exit id', a₁, w₁, hq, fun k' hk => .head h0 stepR_scope (harr.1 k' (by rw [hx]; exact hk)),
      fun hr' hk => let ⟨k₁, h1, h2⟩ := harr.2 hr' (by rw [hx]; exact hk); ⟨k₁, h1, .head h0 stepR_scope h2⟩⟩
  | goto l => exact hq.elim
  | ret => exact ⟨_, a₁, w₁, hq, .of_steps (.one h0 stepR_scope) harr⟩
  | panic ch => exact ⟨_, a₁, w₁, hq, .of_steps (.one h0 stepR_scope) harr⟩
  | outgrown => exact ⟨_, a₁, w₁, hq, .of_steps (.one h0 stepR_scope) harr⟩
def NoGoto (Q : Exit → Tm → Store → Prop) : Exit → Tm → Store → Prop
  | .goto _, _, _ => False
  | e, tm, σ => Q e tm σ
theorem awp_scope {P : Program} {n : Nat} {c : Code} {Q : Exit → Tm → Store → Prop} {tm : Tm} {σ : Store} (h : awp P n c (NoGoto Q) tm σ) : awp P n (.scope c) Q tm σ := fun C ro G a w hro hs =>
  wpIn_scope (wpIn_mono (h C ro G a w hro hs) fun e a w ⟨C', G, tm, σ, h0, h1, h2⟩ => by
    cases e <;> first | exact h2.elim | exact ⟨C', G, tm, σ, h0, h1, h2⟩)
theorem ng_r {Q : Exit → Tm → Store → Prop} {tm : Tm} {σ : Store} (h : Q .ret tm σ) : NoGoto Q .ret tm σ := h
end Go.Proofs.YtnghoibkjphfmaaGreat
/- slices.AppendSeq, Collect, SortedFunc at pairs; 'pairs', in plain data. -/
set_option maxRecDepth 100000
set_option linter.unusedVariables false
set_option linter.unusedSimpArgs false
namespace Go.Proofs.YtnghoibkjphfmaaGreat
open Go.RowKit
def pairO' (p : Int × Int) : List OV := [.int .i64 p.1, .int .i64 p.2]
/-- what an iterator of pairs gives -/
def pairYs (l : List (Int × Int)) : List (List OV) := l.map fun p => [.ag (pairO' p)]
theorem pairYs_get (l : List (Int × Int)) {i : Nat} (h : i < l.length) : (pairYs l).getD i [] = [.ag (pairO' (l.getD i default))] := by
  unfold pairYs
  rw [List.getD_eq_getElem?_getD, List.getElem?_map, List.getD_eq_getElem?_getD, List.getElem?_eq_getElem h]
  rfl
theorem take_get' {α : Type} (l : List α) (d : α) (k : Nat) (h : k < l.length) : l.take (k + 1) = l.take k ++ [l.getD k d] := by
  rw [List.take_succ_eq_append_getElem h, List.getD_eq_getElem?_getD, List.getElem?_eq_getElem h]; rfl
theorem LeafR.pairs' (l : List (Int × Int)) : LeafR (l.map pairO') := LeafR.map l fun a y hy => by
  simp only [pairO', List.mem_cons, List.not_mem_nil, or_false] at hy
  rcases hy with rfl | rfl <;> rfl
set_option maxHeartbeats 4000000 in
theorem appendSeq_p {y : OV} {f : FuncId} {fi ca : List OV} (hf : IsFn y f fi ca) (l : List (Int × Int)) (hl : l.length ≤ 1073741824) (hs : SeqW E.P f fi ca (pairYs l)) :
    Own E.P 104 [.d (.c (.slice none 0 0)), y] 2 (l.map pairO') := by
  have k2 : KeyOf 2 1002 := ⟨trivial⟩
  have k11 : KeyOf 11 1011 := ⟨trivial⟩
  have k9 : KeyOf 5 1005 := ⟨trivial⟩
  refine fn_of_awp Tryz.func104 (by decide) rfl Tryz.ntmps104 (Nat.le_of_ble_eq_true rfl) rfl ?_
  refine awp_own0 (d := 0) 1011 2 rfl fun τ => ?_
  refine awp_seq ?_
  (refine ao_region ?_ (fun _ => ?_); exact rfl)
  (apply S_boxK; assumption; exact rfl; exact rfl; exact rfl)
  refine q51 ?_; refine ao_nil ?_; refine then_n ?_
  iterate 2 refine awp_seq ?_
  (refine ao_region ?_ (fun _ => ?_); exact rfl)
  refine q11 ?_; refine ao_nil ?_; refine then_n ?_; refine awp_block ?_
  rotate_left
  rename_i v0 _
  refine awp_range (X := Nat × Stamp) rfl hf hs (fun p => [(1002, ((v0, 0), ⟨1, [[.os 1011 p.2 2 p.1]]⟩)), (1011, (p.2, ⟨2, (l.take p.1).map pairO'⟩))]) (fun i p => p.1 = i ∧ i ≤ l.length) (0, τ) ⟨rfl, Nat.zero_le _⟩ l.length .normal rfl (by simp [pairYs]) (fun _ => by simp [pairYs]) (fun h => (h rfl).elim)
    (tmL [(2, .lo 1002 (v0, 0) 1 0 0)]) (by repeat' (first | exact le_nil _ | exact sle_nil _ | refine le_cons rfl ?_ | refine sle_cons rfl ?_)) rfl (by decide) (fun i hi => by rw [pairYs_get _ hi]; rfl) (by repeat' (first | exact le_nil _ | exact sle_nil _ | refine le_cons rfl ?_ | refine sle_cons rfl ?_)) (fun p => by simp) (fun p => by simp) ?_ ?_
  · rintro i ⟨j, τ'⟩ hi ⟨rfl, hj⟩
    dsimp only at hi hj ⊢
    rw [pairYs_get _ hi]
    have hlen : (l.take j).length = j := by simp; omega
    (refine ao_region ?_ (fun _ => ?_); exact rfl)
    (apply S_allocK; assumption; exact rfl)
    refine q15 ?_; refine ao_nil ?_
    rotate_left
    refine ⟨rfl, ?_⟩
    have hleaf := LeafR.pairs'
    refine awp_block ?_
    (refine ao_region ?_ (fun _ => ?_); exact rfl)
    refine q16 ?_; refine q14 ?_
    (apply S_buildSlice; exact rfl; exact rfl; exact rfl; decide; decide; decide; exact rfl; exact rfl)
    refine q39 ?_; refine q15 ?_; refine ao_nil ?_; refine blk_n ?_
    rotate_left
    rename_i v
    refine ⟨by cases (j + 1 == l.length) <;> rfl, (j + 1, (v, 3)), ⟨rfl, by omega⟩, sle_cons' rfl ?_ (sle_cons' rfl ?_ (sle_nil _))⟩
    · refine congrArg (fun n => [[OV.os 1011 (v, 3) 2 n]]) ?_
      show (List.map pairO' (List.take j l)).length + 1 = j + 1
      rw [List.length_map, hlen]
    · rw [take_get' l default j hi, List.map_append]; rfl
  · rintro ⟨j, τ'⟩ ⟨rfl, hj⟩
    dsimp only
    refine blk_n ?_; refine then_n ?_; refine awp_seq ?_
    (refine ao_region ?_ (fun _ => ?_); exact rfl)
    refine q16 ?_
    (apply S_ren; exact rfl; exact rfl)
    refine ao_nil ?_; refine then_n ?_; refine awp_ret ?_
    rotate_left
    refine own_done (d := 4) rfl rfl ?_ ?_
    · rw [List.take_length]
    · simp
end Go.Proofs.YtnghoibkjphfmaaGreat
/-
  DERIVED: THE SHELF's CONTRACTS AT THIS DUMP, IN PLAIN WORDS (tools/lay-plain.mjs out of 'TryzShelf2.lean', which tools/lay-shelf.mjs wrote): THE SAME DECLARATIONS UNDER THE SAME NAMES: 'import', 'namespace', 'open', 'def', 'theorem' AND NOTHING ELSE: no command of the shelf's: FOR A HAND-IN. Each laying: the table of numbers ('.._ren') and one theorem, a field a fact of the dump's own or the kernel's comparison; each contract: ONE APPLICATION.
-/
namespace Go.Proofs
open Go.Shelf
def Tryz.sortPairs_ren : Go.Shelf.Ren := ⟨fun | 6 => 97 | 15 => 101 | 14 => 105 | 28 => 115 | 29 => 116 | 20 => 126 | 21 => 127 | 22 => 128 | 23 => 129 | 24 => 130 | 25 => 131 | 26 => 132 | 27 => 133 | 46 => 144 | 47 => 135 | 48 => 136 | 49 => 145 | 50 => 146 | 57 => 149 | n => n, fun | 22 => 29 | 24 => 37 | 25 => 96 | 3 => 3 | 39 => 107 | 0 => 0 | 53 => 39 | 55 => 122 | 4 => 4 | 46 => 114 | 45 => 113 | 50 => 49 | 5 => 5 | 9 => 9 | 66 => 133 | 70 => 137 | 76 => 143 | 77 => 144 | n => n, fun | n => n⟩
theorem Tryz.sortPairs : Go.Proofs.SlLaysF0.n6 Tryz.prog Tryz.sortPairs_ren := {
  mixed := by kernel_rfl
  f6 := ⟨Tryz.f97.name, by decide, Tryz.func97.trans (congrArg some (by kernel_rfl))⟩
  f14 := ⟨Tryz.f105.name, by decide, Tryz.func105.trans (congrArg some (by kernel_rfl))⟩
  f15 := Tryz.func101.trans (congrArg some (by kernel_rfl))
  f20 := ⟨Tryz.f126.name, by decide, Tryz.func126.trans (congrArg some (by kernel_rfl))⟩
  f21 := ⟨Tryz.f127.name, by decide, Tryz.func127.trans (congrArg some (by kernel_rfl))⟩
  f22 := ⟨Tryz.f128.name, by decide, Tryz.func128.trans (congrArg some (by kernel_rfl))⟩
  f23 := ⟨Tryz.f129.name, by decide, Tryz.func129.trans (congrArg some (by kernel_rfl))⟩
  f24 := ⟨Tryz.f130.name, by decide, Tryz.func130.trans (congrArg some (by kernel_rfl))⟩
  f25 := ⟨Tryz.f131.name, by decide, Tryz.func131.trans (congrArg some (by kernel_rfl))⟩
  f26 := ⟨Tryz.f132.name, by decide, Tryz.func132.trans (congrArg some (by kernel_rfl))⟩
  f27 := ⟨Tryz.f133.name, by decide, Tryz.func133.trans (congrArg some (by kernel_rfl))⟩
  f28 := Tryz.func115.trans (congrArg some (by kernel_rfl))
  f29 := Tryz.func116.trans (congrArg some (by kernel_rfl))
  f46 := ⟨Tryz.f144.name, by decide, Tryz.func144.trans (congrArg some (by kernel_rfl))⟩
  f47 := Tryz.func135.trans (congrArg some (by kernel_rfl))
  f48 := Tryz.func136.trans (congrArg some (by kernel_rfl))
  f49 := ⟨Tryz.f145.name, by decide, Tryz.func145.trans (congrArg some (by kernel_rfl))⟩
  f50 := ⟨Tryz.f146.name, by decide, Tryz.func146.trans (congrArg some (by kernel_rfl))⟩
  f57 := ⟨Tryz.f149.name, by decide, Tryz.func149.trans (congrArg some (by kernel_rfl))⟩
  t0 := Tryz.underlying0
  a0 := Tryz.isAgg0
  z0 := Tryz.sizeOf0
  v0 := Tryz.zeroValue0
  t3 := Tryz.underlying3
  a3 := Tryz.isAgg3
  z3 := Tryz.sizeOf3
  v3 := Tryz.zeroValue3
  t4 := Tryz.underlying4
  a4 := Tryz.isAgg4
  z4 := Tryz.sizeOf4
  v4 := Tryz.zeroValue4
  t5 := Tryz.underlying5
  a5 := Tryz.isAgg5
  z5 := Tryz.sizeOf5
  v5 := Tryz.zeroValue5
  t9 := Tryz.underlying9
  a9 := Tryz.isAgg9
  z9 := Tryz.sizeOf9
  v9 := Tryz.zeroValue9
  t22 := Tryz.underlying29
  a22 := Tryz.isAgg29
  z22 := Tryz.sizeOf29
  v22 := Tryz.zeroValue29
  t25 := Tryz.underlying96
  a25 := Tryz.isAgg96
  z25 := Tryz.sizeOf96
  v25 := Tryz.zeroValue96
  t39 := Tryz.underlying107
  a39 := Tryz.isAgg107
  z39 := Tryz.sizeOf107
  v39 := Tryz.zeroValue107
  t45 := Tryz.underlying113
  a45 := Tryz.isAgg113
  z45 := Tryz.sizeOf113
  v45 := Tryz.zeroValue113
  t46 := Tryz.underlying114
  a46 := Tryz.isAgg114
  z46 := Tryz.sizeOf114
  v46 := Tryz.zeroValue114
  t50 := Tryz.underlying49
  a50 := Tryz.isAgg49
  z50 := Tryz.sizeOf49
  v50 := Tryz.zeroValue49
  t53 := Tryz.underlying39
  a53 := Tryz.isAgg39
  z53 := Tryz.sizeOf39
  v53 := Tryz.zeroValue39
  t55 := Tryz.underlying122
  a55 := Tryz.isAgg122
  z55 := Tryz.sizeOf122
  v55 := Tryz.zeroValue122
  t66 := Tryz.underlying133
  a66 := Tryz.isAgg133
  z66 := Tryz.sizeOf133
  v66 := Tryz.zeroValue133
  t70 := Tryz.underlying137
  a70 := Tryz.isAgg137
  z70 := Tryz.sizeOf137
  v70 := Tryz.zeroValue137
  t76 := Tryz.underlying143
  a76 := Tryz.isAgg143
  z76 := Tryz.sizeOf143
  v76 := Tryz.zeroValue143
  t77 := Tryz.underlying144
  a77 := Tryz.isAgg144
  z77 := Tryz.sizeOf144
  v77 := Tryz.zeroValue144 }
end Go.Proofs
/- Pairs of places: how they are compared; slices.AppendSeq, Collect, SortedFunc at pairs, against whatever iterator value; 'pairs'. -/
namespace Go.Proofs.YtnghoibkjphfmaaGreat
open Go.RowKit Go.Shelf Go.Maps Go.Sort
/-- two places -/
abbrev P2 := Fin 65536 × Fin 65536
def encP (x : P2) : List Value := [.int .i64 (x.1.val : Int), .int .i64 (x.2.val : Int)]
def aggP (x : P2) : Value := .agg #[.int .i64 (x.1.val : Int), .int .i64 (x.2.val : Int)]
def cmpP (x y : P2) : Int := if x.1.val = y.1.val then (x.2.val : Int) - (y.2.val : Int) else (x.1.val : Int) - (y.1.val : Int)
def ltP (x y : P2) : Bool := decide (x.1.val < y.1.val ∨ (x.1.val = y.1.val ∧ x.2.val < y.2.val))
theorem ltOf_cmpP (x y : P2) : ltOf cmpP x y = ltP x y := by
  unfold ltOf ltP cmpP
  by_cases h : x.1.val = y.1.val
  · rw [if_pos h]
    refine decide_eq_decide.2 ?_
    omega
  · rw [if_neg h]
    refine decide_eq_decide.2 ?_
    omega
theorem swoP : SWO (ltOf cmpP) where
  irrefl x := by rw [ltOf_cmpP]; simp [ltP]
  trans x y z h1 h2 := by rw [ltOf_cmpP] at *; simp only [ltP, decide_eq_true_eq] at *; omega
  ntrans x y z h1 h2 := by rw [ltOf_cmpP] at *; simp only [ltP, decide_eq_false_iff_not] at *; omega
set_option maxHeartbeats 1000000 in
theorem cmpP_c (x y : P2) (W : World) : Calls Tryz.prog 87 #[aggP x, aggP y] W fun e w' => e = .returned (.int .i64 (cmpP x y)) ∧ ∃ q os', w' = grow (W.drewN q) os' := by
  obtain ⟨⟨a, ha⟩, ⟨b, hb⟩⟩ := x
  obtain ⟨⟨c, hc⟩, ⟨d, hd⟩⟩ := y
  unfold aggP cmpP
  dsimp only
  by_cases h : a = c
  · rw [if_pos h]
    subst h
    have h1 : ((a : Int) != (a : Int)) = false := by simp
    go_enter Tryz.func87, Tryz.ntmps87
    go_wp2
    go_ret
    exact ⟨rfl, 0, _, by rw [alloc_eq_grow, alloc_eq_grow, grow_grow]; rfl⟩
  · rw [if_neg h]
    have h1 : ((a : Int) != (c : Int)) = true := by simp; omega
    have h2 : (a != c) = true := by simpa using h
    clear h
    go_enter Tryz.func87, Tryz.ntmps87
    go_wp2
    go_ret
    exact ⟨rfl, 0, _, by rw [alloc_eq_grow, alloc_eq_grow, grow_grow]; rfl⟩
theorem cmpLaysP (blk off size : Nat) (w : World) : CmpLays Tryz.prog 87 #[] encP 2 cmpP blk off size w :=
  fun _ _ _ _ x y => cmpP_c x y _
theorem sortPairs_c (blk off cap : Nat) (d : Array P2) (w : World) (hH : HoldsK encP 2 w blk off d) (hblk : blk < w.heap.size) (hsz : d.size < 4611686018427387904) :
    Calls Tryz.prog 97 #[.slice (some ⟨blk, off, none⟩) d.size cap, .func (.func 87) #[] #[]] w fun e w' => e = .returned (.tuple #[]) ∧ ∃ d' n os, PermIn 0 d.size d d' ∧ SortedIn ltP 0 d.size d' ∧ w' = sortWorldK encP 2 w blk off n d' os := by
  have h := AnyQ.slices_SortFunc Tryz.sortPairs 2 Tryz.isAgg37 Tryz.sizeOf37 encP (fun _ => rfl) (fun x v hv => by simp [encP] at hv; rcases hv with rfl | rfl <;> rfl) cmpP swoP 87 #[] blk off cap d w (enters_of Tryz.func87 (by kernel_rfl) rfl) (cmpLaysP blk off d.size w) hH hblk hsz
  refine Calls.mono h ?_
  rintro e w' ⟨he, d', n, os, hp, hs, hw⟩
  exact ⟨he, d', n, os, hp, fun i j h1 h2 h3 => by rw [← ltOf_cmpP]; exact hs i j h1 h2 h3, hw⟩
theorem sortPairs_none (p : Option Addr) (cap : Nat) (fv : Value) (w : World) :
    Calls Tryz.prog 97 #[.slice p 0 cap, fv] w fun e w' => e = .returned (.tuple #[]) ∧ w' = w := AnyF.slices_SortFunc_none Tryz.sortPairs p cap fv w
end Go.Proofs.YtnghoibkjphfmaaGreat
/- slices.AppendSeq(nil, ..), Collect, SortedFunc at pairs, against whatever iterator value; 'pairs'. -/
namespace Go.Proofs.YtnghoibkjphfmaaGreat
open Go.RowKit Go.Shelf Go.Maps Go.Sort
def flatP (l : List P2) : List Value := l.flatMap encP
theorem flatP_length (l : List P2) : (flatP l).length = l.length * 2 := by
  unfold flatP
  induction l with
  | nil => rfl
  | cons x r ih => simp [encP, ih]; omega
end Go.Proofs.YtnghoibkjphfmaaGreat
/- slices.SortedFunc at pairs; 'pairs'. -/
namespace Go.Proofs.YtnghoibkjphfmaaGreat
open Go.RowKit Go.Shelf Go.Maps Go.Sort
theorem flatP_get : ∀ (l : List P2) (t : Nat), t < l.length * 2 → (flatP l)[t]? = some ((encP (l.getD (t / 2) default))[t % 2]!)
  | [], t, h => by simp at h
  | x :: r, 0, _ => by simp [flatP, encP]
  | x :: r, 1, _ => by simp [flatP, encP]
  | x :: r, t + 2, h => by
    have ih := flatP_get r t (by simp at h; omega)
    have e1 : (t + 2) / 2 = t / 2 + 1 := by omega
    have e2 : (t + 2) % 2 = t % 2 := by omega
    rw [e1, e2, List.getD_cons_succ, ← ih]
    simp [flatP, encP]
theorem flatK_toList (l : List P2) : (flatK encP 2 l.toArray).toList = flatP l := by
  apply List.ext_getElem?
  intro t
  by_cases h : t < l.length * 2
  · rw [flatP_get l t h]
    have h2 : t / 2 < l.length := by omega
    simp [flatK, h, List.getD, h2]
  · rw [List.getElem?_eq_none (by simp; omega), List.getElem?_eq_none (by rw [flatP_length]; omega)]
theorem holds_of_blockV {w : World} {g : Nat} {cur : Array Value} {e : TypeId} {F : Array Value} (hb : w.heap[g]? = some (.cells cur e (0, 0))) (ht : cur.toList.take F.size = F.toList) : Holds id w g 0 F := by
  intro j hj
  refine ⟨?_, by simp [World.frozen?, hb]⟩
  have h1 : (cur.toList.take F.size)[j]? = F.toList[j]? := by rw [ht]
  rw [List.getElem?_take_of_lt hj] at h1
  simp only [World.cell?, hb, Nat.zero_add]
  simp only [Option.isSome_none, Bool.false_eq_true, if_false]
  rw [← Array.getElem?_toList, h1]
  simp [hj]
theorem heap_sortedV {w : World} {g n : Nat} {os : Array Obj} {cur : Array Value} {e : TypeId} {fr : Nat × Nat} (F : Array Value) (hb : w.heap[g]? = some (.cells cur e fr)) :
    (grow (putRow id (Sort.ahead w n) g 0 F) os).heap[g]? = some (.cells (putCells id 0 F cur) e fr) := by
  have hg : g < w.heap.size := (Array.getElem?_eq_some_iff.1 hb).1
  rw [heap_grow_old _ _ (by simpa using hg)]
  simp [putRow, mapBlock, Sort.ahead, Array.getElem?_modify, hb, onCells]
theorem grownBy_sortedV {w : World} {g n : Nat} {os : Array Obj} (F : Array Value) : w.grownBy (grow (putRow id (Sort.ahead w n) g 0 F) os) (some g) := by
  refine ⟨rfl, rfl, rfl, by simp, fun k hk hne => ?_⟩
  rw [heap_grow_old _ _ (by simpa using hk)]
  have : g ≠ k := fun e => hne (by rw [e])
  simp [putRow, mapBlock, Sort.ahead, Array.getElem?_modify, this]
theorem take_putCellsV (cur F : Array Value) (h : F.size ≤ cur.size) : (putCells id 0 F cur).toList.take F.size = F.toList := by
  apply List.ext_getElem?
  intro j
  by_cases hj : j < F.size
  · rw [List.getElem?_take_of_lt hj, Array.getElem?_toList]
    simp [putCells, hj, show j < cur.size by omega]
  · rw [List.getElem?_take_eq_none (by omega), List.getElem?_eq_none (by simp; omega)]
/-- pairs by rising places -/
def sortP (l : List P2) : List P2 := l.mergeSort (fun x y => !ltP y x)
theorem sortP_unique (d d' : Array P2) (hp : PermIn 0 d.size d d') (hs : SortedIn ltP 0 d.size d') : d'.toList = sortP d.toList := by
  have e : ltOf cmpP = ltP := by funext x y; exact ltOf_cmpP x y
  have sw : SWO ltP := by rw [← e]; exact swoP
  exact sorted_unique_holds sw (fun x y h1 h2 => by
    simp only [ltP, decide_eq_false_iff_not] at h1 h2
    have a : x.1 = y.1 := Fin.ext (by omega)
    have b : x.2 = y.2 := Fin.ext (by omega)
    exact Prod.ext a b) d d' hp hs
/-- Below block B, the slice s holds these pairs. -/
def PairsIn (B : Nat) (w : World) (s : Sl) (l : List P2) : Prop :=
  s.n = l.length ∧ l.length ≤ 1152921504606846976 ∧
  (l = [] ∨ ∃ b off, s.a = some ⟨b, off, none⟩ ∧ b < B ∧ ∀ k, k < l.length → w.cell? ⟨b, off + k * 2, none⟩ = some (.int .i64 ((l.getD k default).1.val : Int)) ∧ w.cell? ⟨b, off + k * 2 + 1, none⟩ = some (.int .i64 ((l.getD k default).2.val : Int)))
theorem PairsIn.below {B : Nat} {w w' : World} {s : Sl} {l : List P2} (h : PairsIn B w s l) (hb : Below B w w') : PairsIn B w' s l := by
  obtain ⟨h1, h2, h3⟩ := h
  refine ⟨h1, h2, ?_⟩
  rcases h3 with h3 | ⟨b, off, h4, h5, h6⟩
  · exact Or.inl h3
  · exact Or.inr ⟨b, off, h4, h5, fun k hk => by rw [hb.cell (by exact h5), hb.cell (by exact h5)]; exact h6 k hk⟩
theorem PairsIn.mono {B B' : Nat} {w : World} {s : Sl} {l : List P2} (h : PairsIn B w s l) (hB : B ≤ B') : PairsIn B' w s l := by
  obtain ⟨h1, h2, h3⟩ := h
  refine ⟨h1, h2, ?_⟩
  rcases h3 with h3 | ⟨b, off, h4, h5, h6⟩
  · exact Or.inl h3
  · exact Or.inr ⟨b, off, h4, by omega, h6⟩
end Go.Proofs.YtnghoibkjphfmaaGreat
/- slices.SortFunc at pairs of one's own; slices.Collect, SortedFunc; 'pairs', in plain data. -/
set_option maxRecDepth 100000
set_option linter.unusedVariables false
set_option linter.unusedSimpArgs false
namespace Go.Proofs.YtnghoibkjphfmaaGreat
open Go.RowKit Go.Shelf Go.Maps Go.Sort
/-- places below 65536 -/
def smallP (l : List (Int × Int)) : Prop := ∀ p ∈ l, 0 ≤ p.1 ∧ p.1 < 65536 ∧ 0 ≤ p.2 ∧ p.2 < 65536
def toI (x : P2) : Int × Int := ((x.1.val : Int), (x.2.val : Int))
theorem small_P2 : ∀ {l : List (Int × Int)}, smallP l → ∃ d : List P2, l = d.map toI
  | [], _ => ⟨[], rfl⟩
  | (a, b) :: l, h => by
    obtain ⟨d, hd⟩ := small_P2 (l := l) fun p hp => h p (by simp [hp])
    obtain ⟨h1, h2, h3, h4⟩ := h (a, b) (by simp)
    dsimp only at h1 h2 h3 h4
    refine ⟨(⟨a.toNat, by omega⟩, ⟨b.toNat, by omega⟩) :: d, ?_⟩
    rw [List.map_cons, ← hd]
    refine congrArg (· :: l) ?_
    unfold toI
    dsimp only
    rw [Int.toNat_of_nonneg h1, Int.toNat_of_nonneg h3]
/-- by rising places -/
def ltZ (x y : Int × Int) : Bool := decide (x.1 < y.1 ∨ (x.1 = y.1 ∧ x.2 < y.2))
def sortZ (l : List (Int × Int)) : List (Int × Int) := l.mergeSort (fun x y => !ltZ y x)
theorem sortP_toI (d : List P2) : (sortP d).map toI = sortZ (d.map toI) := by
  unfold sortP sortZ
  refine List.map_mergeSort fun a _ b _ => ?_
  unfold ltP ltZ toI
  congr 1
  refine decide_eq_decide.2 ?_
  dsimp only
  omega
theorem pair_rep {G : Gh} {p : Int × Int} {o : Nat} {y : OV} {v : Value} (hy : (pairO' p)[o]? = some y) (hv : RepO G y v) : v = (if o = 0 then Value.int .i64 p.1 else .int .i64 p.2) := by
  match o, hy with
  | 0, hy => simp [pairO'] at hy; subst hy; rw [RepO, Rep] at hv; exact hv.1
  | 1, hy => simp [pairO'] at hy; subst hy; rw [RepO, Rep] at hv; exact hv.1
theorem rowAt_flat {G : Gh} {cs : Array Value} {d : List P2} (h : RowAt G cs ⟨2, (d.map toI).map pairO'⟩) (hl : d.length * 2 ≤ cs.size) : cs.toList.take (d.length * 2) = flatP d := by
  apply List.ext_getElem?
  intro t
  by_cases ht : t < d.length * 2
  · have hi : t / 2 < d.length := by omega
    rw [flatP_get d t ht, List.getElem?_take_of_lt ht, Array.getElem?_toList]
    obtain ⟨_, h2⟩ := h (t / 2) (pairO' (toI (d.getD (t / 2) default))) (by simp [List.getD, hi])
    have hm : t % 2 = 0 ∨ t % 2 = 1 := by omega
    rcases hm with hm | hm
    · obtain ⟨v, h3, h4⟩ := h2 0 _ rfl
      have h5 := pair_rep (p := toI (d.getD (t / 2) default)) (o := 0) rfl h4
      dsimp only at h3
      rw [show t / 2 * 2 + 0 = t by omega] at h3
      rw [h3, h5, hm]; rfl
    · obtain ⟨v, h3, h4⟩ := h2 1 _ rfl
      have h5 := pair_rep (p := toI (d.getD (t / 2) default)) (o := 1) rfl h4
      dsimp only at h3
      rw [show t / 2 * 2 + 1 = t by omega] at h3
      rw [h3, h5, hm]; rfl
  · rw [List.getElem?_take_eq_none (by omega), List.getElem?_eq_none (by rw [flatP_length]; omega)]
theorem flat_rowAt {G : Gh} {cs : Array Value} {d : List P2} (h : cs.toList.take (d.length * 2) = flatP d) : RowAt G cs ⟨2, (d.map toI).map pairO'⟩ := fun i row hi => by
  have hlt : i < d.length := by
    rcases Nat.lt_or_ge i d.length with hh | hh
    · exact hh
    · rw [List.getElem?_eq_none (by simpa using hh)] at hi; cases hi
  have hrow : row = pairO' (toI (d.getD i default)) := by
    simp [List.getD, hlt] at hi ⊢; exact hi.symm
  subst hrow
  refine ⟨rfl, fun o y hy => ?_⟩
  have get : ∀ t, t < d.length * 2 → cs[t]? = some ((encP (d.getD (t / 2) default))[t % 2]!) := fun t ht => by
    rw [← flatP_get d t ht, ← h, List.getElem?_take_of_lt ht, Array.getElem?_toList]
  have e0 := get (i * 2) (by omega)
  have e1 := get (i * 2 + 1) (by omega)
  rw [show i * 2 / 2 = i by omega, show i * 2 % 2 = 0 by omega] at e0
  rw [show (i * 2 + 1) / 2 = i by omega, show (i * 2 + 1) % 2 = 1 by omega] at e1
  match o, hy with
  | 0, hy => simp [pairO'] at hy; subst hy; exact ⟨_, e0, by rw [RepO, Rep]; exact ⟨rfl, rfl⟩⟩
  | 1, hy => simp [pairO'] at hy; subst hy; exact ⟨_, e1, by rw [RepO, Rep]; exact ⟨rfl, rfl⟩⟩
theorem sortZ_length (l : List (Int × Int)) : (sortZ l).length = l.length := List.length_mergeSort _
theorem sortFunc_w (k : Nat) (τ : Stamp) (l : List (Int × Int)) (hs : smallP l) (hl : l.length ≤ 1073741824) :
    FnW E.P 97 [.os k τ 2 l.length, .fn 87 [] []] (stL [(k, (τ, ⟨2, l.map pairO'⟩))]) (IsW (.tu []) (stL [(k, (τ, ⟨2, (sortZ l).map pairO'⟩))])) := by
  refine ⟨⟨_, Tryz.func97, by decide, rfl⟩, fun G w vs N hv hw => ?_⟩
  obtain ⟨d, rfl⟩ := small_P2 hs
  rw [RepOL] at hv
  obtain ⟨x1, us, rfl, h1, hv⟩ := hv
  rw [RepOL] at hv
  obtain ⟨x2, us, rfl, h2, hv⟩ := hv
  rw [RepOL] at hv
  subst hv
  rw [RepO] at h2
  obtain ⟨f1, f2, rfl, hf1, hf2⟩ := h2
  rw [RepOL] at hf1 hf2
  have hf1 : f1 = #[] := Array.toList_eq_nil_iff.1 hf1
  have hf2 : f2 = #[] := Array.toList_eq_nil_iff.1 hf2
  subst hf1 hf2
  have hk : stL [(k, (τ, (⟨2, (d.map toI).map pairO'⟩ : Row)))] k = some (τ, ⟨2, (d.map toI).map pairO'⟩) := by simp [stL]
  have htu : RepO G (.tu []) (.tuple #[]) := by rw [RepO]; exact ⟨#[], rfl, by rw [RepOL]⟩
  rw [RepO] at h1
  rcases h1 with ⟨β, c, hμ, rfl, hc1, hc2, hc3⟩ | ⟨hμ, rfl, hn⟩
  · obtain ⟨cs, hb, hsz, hrl, hrow⟩ := hw.blk hk hμ
    have hlen : (d.map toI).length = d.length := by simp
    rw [hlen] at hc1 ⊢
    simp only [List.length_map] at hrl
    have hflat := rowAt_flat hrow (by rw [hsz]; exact hrl)
    have hF : (flatK encP 2 d.toArray).size = d.length * 2 := by simp
    have hH : HoldsK encP 2 w β.b 0 d.toArray := holds_of_blockV hb (by rw [hF, flatK_toList]; exact hflat)
    have hlt : β.b < w.heap.size := (Array.getElem?_eq_some_iff.1 hb).1
    have cS := sortPairs_c β.b 0 c d.toArray w hH hlt (by simp; simp at hl; omega)
    rw [List.size_toArray] at cS
    refine cS.mono ?_
    rintro e w' ⟨rfl, d', nn, os, hp, hso, rfl⟩
    have hd : d'.size = d.length := by have := hp.1; simpa using this
    have hsort : d'.toList = sortP d := sortP_unique d.toArray d' (by simpa using hp) (by simpa using hso)
    have hF2 : (flatK encP 2 d').size = d.length * 2 := by simp [hd]
    have hg := grownBy_sortedV (w := w) (g := β.b) (n := nn) (os := os) (flatK encP 2 d')
    have hb' := heap_sortedV (n := nn) (os := os) (flatK encP 2 d') hb
    have hsd : (sortP d).length = d.length := by rw [← hsort]; simp [hd]
    have hpl : (putCells id 0 (flatK encP 2 d') cs).size = cs.size := by simp [putCells]
    refine ⟨_, G, .tu [], _, rfl, ⟨rfl, ?le⟩, .refl _, htu, hw.put (r' := ⟨2, (sortZ (d.map toI)).map pairO'⟩) hk hμ hg.size hg.tape hg.os hg.output (fun b hb1 hne => hg.block b hb1 (fun e => hne (Option.some.inj e))) ⟨_, hb', by rw [hpl, hsz], by rw [← sortP_toI]; simp [hsd]; omega, ?_⟩⟩
    case le =>
      intro t y hy
      unfold stL at hy
      cases hbq : Nat.beq t k with
      | true => rw [hbq] at hy; cases hy; rw [Nat.eq_of_beq_eq_true hbq]; exact Store.put_self _ _ _
      | false => rw [hbq] at hy; cases hy
    · rw [← sortP_toI]
      refine flat_rowAt ?_
      rw [hsd, ← hF2, take_putCellsV cs _ (by rw [hF2, hsz]; exact hrl), ← hsort, ← flatK_toList]
  · have hd : d = [] := by
      have : d.length = 0 := by simpa using hn
      exact List.eq_nil_of_length_eq_zero this
    subst hd
    refine (sortPairs_none none 0 (.func (.func 87) #[] #[]) w).mono ?_
    rintro e w' ⟨rfl, rfl⟩
    refine ⟨_, G, .tu [], _, rfl, ⟨rfl, ?_⟩, .refl _, htu, hw⟩
    have : sortZ (([] : List P2).map toI) = [] := by simp [sortZ]
    rw [this]
    exact fun t y h => h
set_option maxHeartbeats 4000000 in
theorem collect_s {y : OV} {f : FuncId} {fi ca : List OV} (hf : IsFn y f fi ca) (l : List (Int × Int)) (hl : l.length ≤ 1073741824) (hs : SeqW E.P f fi ca (pairYs l)) :
    Own E.P 96 [y] 2 (l.map pairO') := by
  refine fn_of_awp Tryz.func96 (by decide) rfl Tryz.ntmps96 (Nat.le_of_ble_eq_true rfl) rfl ?_
  refine awp_seq ?_
  (refine ao_region ?_ (fun _ => ?_); exact rfl)
  refine q51 ?_; refine ao_nil ?_; refine then_n ?_; refine awp_seq ?_
  (refine ao_region ?_ (fun _ => ?_); exact rfl)
  refine q11 ?_
  ((apply S_own; exact rfl; exact .fn _ _ _; exact rfl; exact appendSeq_p hf l hl hs))
  (apply S_ren; exact rfl; exact rfl)
  refine ao_nil ?_; refine then_n ?_; refine awp_ret ?_
  rotate_left
  exact own_done (d := 2) rfl rfl rfl rfl
theorem sortFunc_w' (k : Nat) (τ : Stamp) (l : List (Int × Int)) (hs : smallP l) (hl : l.length ≤ 1073741824) :
    FnW E.P 97 [.os k τ 2 (l.map pairO').length, .fn 87 [] []] (stL [(k, (τ, ⟨2, l.map pairO'⟩))]) (IsW (.tu []) (stL [(k, (τ, ⟨2, (sortZ l).map pairO'⟩))])) := by
  rw [List.length_map]; exact sortFunc_w k τ l hs hl
set_option maxHeartbeats 4000000 in
theorem sortedFunc_s {y : OV} {f : FuncId} {fi ca : List OV} (hf : IsFn y f fi ca) (l : List (Int × Int)) (hsm : smallP l) (hl : l.length ≤ 1073741824) (hs : SeqW E.P f fi ca (pairYs l)) :
    Own E.P 86 [y, .fn 87 [] []] 2 ((sortZ l).map pairO') := by
  refine fn_of_awp Tryz.func86 (by decide) rfl Tryz.ntmps86 (Nat.le_of_ble_eq_true rfl) rfl ?_
  refine awp_seq ?_
  (refine ao_region ?_ (fun _ => ?_); exact rfl)
  refine q51 ?_; refine ao_nil ?_; refine then_n ?_; refine awp_seq ?_
  (refine ao_region ?_ (fun _ => ?_); exact rfl)
  refine q11 ?_
  ((first
      | (apply S_own; exact rfl; exact .fn _ _ _; exact rfl; exact collect_s hf l hl hs)
      | (apply S_callw; exact rfl; exact .fn _ _ _; exact rfl; exact sortFunc_w' _ _ l hsm hl; exact (by repeat' (first | exact le_nil _ | exact sle_nil _ | refine le_cons rfl ?_ | refine sle_cons rfl ?_)); exact rfl; simp)))
  (apply S_ren; exact rfl; exact rfl)
  refine ao_nil ?_; refine then_n ?_; refine awp_seq ?_
  (refine ao_region ?_ (fun _ => ?_); exact rfl)
  iterate 2 refine q11 ?_
  ((first
      | (apply S_own; exact rfl; exact .fn _ _ _; exact rfl; exact collect_s hf l hl hs)
      | (apply S_callw; exact rfl; exact .fn _ _ _; exact rfl; exact sortFunc_w' _ _ l hsm hl; exact (by repeat' (first | exact le_nil _ | exact sle_nil _ | refine le_cons rfl ?_ | refine sle_cons rfl ?_)); exact rfl; simp)))
  refine ao_nil ?_; refine then_n ?_; refine awp_seq ?_
  (refine ao_region ?_ (fun _ => ?_); exact rfl)
  refine q11 ?_
  (apply S_ren; exact rfl; exact rfl)
  refine ao_nil ?_; refine then_n ?_; refine awp_ret ?_
  rotate_left
  refine own_done (d := 4) rfl rfl rfl ?_
  simp [sortZ_length]
set_option maxHeartbeats 4000000 in
theorem pairs_s {y : OV} {f : FuncId} {fi ca : List OV} (hf : IsFn y f fi ca) (l : List (Int × Int)) (hsm : smallP l) (hl : l.length ≤ 1073741824) (hs : SeqW E.P f fi ca (pairYs l)) :
    Own E.P 50 [y] 2 ((sortZ l).map pairO') := by
  refine fn_of_awp Tryz.func50 (by decide) rfl Tryz.ntmps50 (Nat.le_of_ble_eq_true rfl) rfl ?_
  refine awp_seq ?_
  (refine ao_region ?_ (fun _ => ?_); exact rfl)
  refine q51 ?_; refine ao_nil ?_; refine then_n ?_; refine awp_seq ?_
  (refine ao_region ?_ (fun _ => ?_); exact rfl)
  refine q11 ?_
  ((apply S_own; exact rfl; exact .fn _ _ _; exact rfl; exact sortedFunc_s hf l hsm hl hs))
  (apply S_ren; exact rfl; exact rfl)
  refine ao_nil ?_; refine then_n ?_; refine awp_ret ?_
  rotate_left
  exact own_done (d := 2) rfl rfl rfl rfl
end Go.Proofs.YtnghoibkjphfmaaGreat
/- The reference's functions of layer 6, walked in plain data: the small ones. -/
set_option maxRecDepth 100000
set_option linter.unusedVariables false
set_option linter.unusedSimpArgs false
namespace Go.Proofs.YtnghoibkjphfmaaGreat
open Go.RowKit
/-- where a number stands in a list from place k on -/
def atFrom (n : Int) : List Int → Nat → Int
  | [], _ => -1
  | a :: l, k => if a = n then k else atFrom n l (k + 1)
def atI (l : List Int) (n : Int) : Int := atFrom n l 0
theorem atFrom_drop (l : List Int) (n : Int) (k : Nat) (h : k < l.length) : atFrom n (l.drop k) k = if l.getD k 0 = n then (k : Int) else atFrom n (l.drop (k + 1)) (k + 1) := by
  rw [List.drop_eq_getElem_cons h, atFrom, List.getD_eq_getElem?_getD, List.getElem?_eq_getElem h]; rfl
set_option maxHeartbeats 1000000 in
theorem at_p (l : List Int) (n : Int) (hl : l.length ≤ 1152921504606846976) : Pure E.P 35 [.d (ints l), .int .i64 n] (.int .i64 (atI l n)) := by
  refine fn_of_awp Tryz.func35 (by decide) rfl Tryz.ntmps35 (Nat.le_of_ble_eq_true rfl) rfl ?_
  refine awp_seq ?_
  (refine ao_region ?_ (fun _ => ?_); exact rfl)
  refine q12 ?_; refine ao_nil ?_; refine then_n ?_
  iterate 2 refine awp_seq ?_
  (refine ao_region ?_ (fun _ => ?_); exact rfl)
  refine q12 ?_; refine ao_nil ?_; refine then_n ?_; refine awp_block ?_
  rotate_left
  refine awp_loop (X := Nat) (fun k => tmL [(0, .d (ints l)), (1, .int .i64 n), (5, .int .i64 k)]) (fun _ => stL []) (fun k => k ≤ l.length ∧ atI l n = atFrom n (l.drop k) k) (fun k => l.length - k) 0 ⟨Nat.zero_le _, rfl⟩ (by repeat' (first | exact le_nil _ | exact sle_nil _ | refine le_cons rfl ?_ | refine sle_cons rfl ?_)) (by repeat' (first | exact le_nil _ | exact sle_nil _ | refine le_cons rfl ?_ | refine sle_cons rfl ?_)) ?_
  intro k hk
  obtain ⟨hk, ht⟩ := hk
  iterate 2 refine awp_seq ?_
  (refine ao_region ?_ (fun _ => ?_); exact rfl)
  iterate 2 refine q11 ?_
  refine q13 ?_; refine q37 ?_; refine ao_nil ?_; refine then_n ?_
  (apply awp_cond; exact rfl)
  (refine im_dt (fun _ => ?_); (try (exfalso; omega)))
  refine awp_skip ?_; refine then_n ?_; refine awp_seq ?_; refine awp_block ?_; refine awp_seq ?_
  (refine ao_region ?_ (fun _ => ?_); exact rfl)
  iterate 2 refine q11 ?_
  refine q17 ?_; refine q23 ?_; refine q11 ?_; refine q46 ?_; refine ao_nil ?_; refine then_n ?_
  (apply awp_cond; exact rfl)
  (refine im_dt (fun _ => ?_); (try (exfalso; omega)))
  refine awp_seq ?_
  (refine ao_region ?_ (fun _ => ?_); exact rfl)
  refine q11 ?_; refine q12 ?_; refine ao_nil ?_; refine then_n ?_; refine awp_ret ?_; refine blk_r ?_
  iterate 2 refine then_r ?_
  refine blk_r ?_; refine then_r ?_
  rotate_left
  (refine im_df (fun _ => ?_); (try (exfalso; omega)))
  refine awp_skip ?_; refine blk_n ?_; refine then_n ?_
  (refine ao_region ?_ (fun _ => ?_); exact rfl)
  refine q11 ?_; refine q36 ?_; refine q12 ?_; refine ao_nil ?_; refine then_n ?_
  rotate_left
  (refine im_df (fun _ => ?_); (try (exfalso; omega)))
  refine awp_exit ?_
  iterate 2 refine then_x ?_
  refine blk_x ?_; refine then_n ?_; refine awp_seq ?_
  (refine ao_region ?_ (fun _ => ?_); exact rfl)
  refine q12 ?_; refine ao_nil ?_; refine then_n ?_; refine awp_ret ?_
  rotate_left
  · refine done_i rfl ?_
    rw [ht, atFrom_drop l n k (by omega), if_pos (by assumption)]
  · refine round (k + 1) ⟨by omega, ?_⟩ (by omega) (by repeat' (first | exact le_nil _ | exact sle_nil _ | refine le_cons rfl ?_ | refine sle_cons rfl ?_)) (by repeat' (first | exact le_nil _ | exact sle_nil _ | refine le_cons rfl ?_ | refine sle_cons rfl ?_))
    rw [ht, atFrom_drop l n k (by omega), if_neg (by assumption)]
  · refine done_i rfl ?_
    rw [ht, show k = l.length by omega, List.drop_length]; rfl
theorem rstores_p (e : Ev) : Pure E.P 34 [evOV e] (.bool e.stB) := by
  refine fn_of_awp Tryz.func34 (by decide) rfl Tryz.ntmps34 (Nat.le_of_ble_eq_true rfl) rfl ?_
  refine awp_seq ?_
  (refine ao_region ?_ (fun _ => ?_); exact rfl)
  refine q40 ?_; refine q12 ?_; refine ao_nil ?_; refine then_n ?_; refine awp_seq ?_
  (refine ao_region ?_ (fun _ => ?_); exact rfl)
  refine q28 ?_; refine q31 ?_; refine q46 ?_; refine q11 ?_
  (apply spec_f; exact rfl; exact rfl)
  (refine im_any fun hc_ => ?_; try have hc1_ := (band hc_).1)
  refine q2
  (apply spec_f; exact rfl; exact rfl)
  (refine im_any fun hc_ => ?_; try have hc1_ := (band hc_).1)
  refine q3
  (apply spec_f; exact rfl; exact rfl)
  (refine im_any fun hc_ => ?_; try have hc1_ := (band hc_).1)
  refine q7; refine q0 ?_; refine q11 ?_
  (apply spec_f; exact rfl; exact rfl)
  (refine im_any fun hc_ => ?_; try have hc1_ := (band hc_).1)
  refine q2
  (apply spec_f; exact rfl; exact rfl)
  (refine im_any fun hc_ => ?_; try have hc1_ := (band hc_).1)
  refine q3
  (apply spec_f; exact rfl; exact rfl)
  (refine im_any fun hc_ => ?_; try have hc1_ := (band hc_).1)
  refine q7; refine q0 ?_; refine q12 ?_; refine ao_nil ?_; refine then_n ?_; refine awp_ret ?_
  rotate_left
  all_goals (refine done_b rfl ?_; rw [Bool.eq_iff_iff]; simp_all [Ev.stB])
theorem rloads_p (e : Ev) : Pure E.P 33 [evOV e] (.bool e.ldB) := by
  refine fn_of_awp Tryz.func33 (by decide) rfl Tryz.ntmps33 (Nat.le_of_ble_eq_true rfl) rfl ?_
  refine awp_seq ?_
  (refine ao_region ?_ (fun _ => ?_); exact rfl)
  refine q40 ?_; refine q12 ?_; refine ao_nil ?_; refine then_n ?_; refine awp_seq ?_
  (refine ao_region ?_ (fun _ => ?_); exact rfl)
  refine q28 ?_; refine q31 ?_; refine q46 ?_; refine q11 ?_
  (apply spec_f; exact rfl; exact rfl)
  (refine im_any fun hc_ => ?_; try have hc1_ := (band hc_).1)
  refine q2
  (apply spec_f; exact rfl; exact rfl)
  (refine im_any fun hc_ => ?_; try have hc1_ := (band hc_).1)
  refine q3
  (apply spec_f; exact rfl; exact rfl)
  (refine im_any fun hc_ => ?_; try have hc1_ := (band hc_).1)
  refine q7; refine q0 ?_; refine q12 ?_; refine ao_nil ?_; refine then_n ?_; refine awp_ret ?_
  rotate_left
  all_goals (refine done_b rfl ?_; rw [Bool.eq_iff_iff]; simp_all [Ev.ldB])
/-- is an event zero but for what its kind names? (the reference's words) -/
def Ev.rbareB (e : Ev) : Bool :=
  if e.kind < 1 ∨ 5 < e.kind ∨ e.pred < 0 ∨ 3 < e.pred ∨ e.succ < 0 ∨ 3 < e.succ then false
  else if e.kind ≠ 4 ∧ (e.pred ≠ 0 ∨ e.succ ≠ 0) ∨ (e.kind = 4 ∨ e.kind = 5) ∧ (e.aq = true ∨ e.rl = true) ∨ e.kind ≠ 1 ∧ e.kind ≠ 2 ∧ e.rsv = true then false
  else if e.stB = false ∧ e.val ≠ 0 ∨ e.ldB = false ∧ e.rval ≠ 0 ∨ e.kind = 4 ∧ e.addr ≠ 0 then false
  else (decide (e.kind = 2) || decide (e.kind = 3) || decide ((e.datas.length : Int) = 0)) && (decide (e.kind < 4) || decide ((e.addrs.length : Int) = 0)) && (decide (e.kind < 5) || decide ((e.ctrls.length : Int) = 0) && decide (e.hart = -1))
set_option maxHeartbeats 4000000 in
theorem rbare_p (e : Ev) : Pure E.P 31 [evOV e] (.bool e.rbareB) := by
  refine fn_of_awp Tryz.func31 (by decide) rfl Tryz.ntmps31 (Nat.le_of_ble_eq_true rfl) rfl ?_
  refine awp_seq ?_
  (refine ao_region ?_ (fun _ => ?_); exact rfl)
  refine q40 ?_; refine q12 ?_; refine ao_nil ?_; refine then_n ?_; refine awp_seq ?_
  (refine ao_region ?_ (fun _ => ?_); exact rfl)
  refine q28 ?_; refine q31 ?_; refine q12 ?_; refine ao_nil ?_; refine then_n ?_
  iterate 2 refine awp_seq ?_
  (refine ao_region ?_ (fun _ => ?_); exact rfl)
  refine q11 ?_; refine q37 ?_; refine q11 ?_
  (apply spec_f; exact rfl; exact rfl)
  (refine im_any fun hc_ => ?_; try have hc1_ := (band hc_).1)
  refine q1
  (apply spec_f; exact rfl; exact rfl)
  (refine im_any fun hc_ => ?_; try have hc1_ := (band hc_).1)
  refine q35; refine q0 ?_; refine q11 ?_
  (apply spec_f; exact rfl; exact rfl)
  (refine im_any fun hc_ => ?_; try have hc1_ := (band hc_).1)
  refine q2
  (apply spec_f; exact rfl; exact rfl)
  (refine im_any fun hc_ => ?_; try have hc1_ := (band hc_).1)
  refine q3
  (apply spec_f; exact rfl; exact rfl)
  (refine im_any fun hc_ => ?_; try have hc1_ := (band hc_).1)
  refine q22; refine q0 ?_; refine q11 ?_
  (apply spec_f; exact rfl; exact rfl)
  (refine im_any fun hc_ => ?_; try have hc1_ := (band hc_).1)
  refine q2
  (apply spec_f; exact rfl; exact rfl)
  (refine im_any fun hc_ => ?_; try have hc1_ := (band hc_).1)
  refine q3
  (apply spec_f; exact rfl; exact rfl)
  (refine im_any fun hc_ => ?_; try have hc1_ := (band hc_).1)
  refine q35; refine q0 ?_; refine q11 ?_
  (apply spec_f; exact rfl; exact rfl)
  (refine im_any fun hc_ => ?_; try have hc1_ := (band hc_).1)
  refine q2
  (apply spec_f; exact rfl; exact rfl)
  (refine im_any fun hc_ => ?_; try have hc1_ := (band hc_).1)
  refine q3
  (apply spec_f; exact rfl; exact rfl)
  (refine im_any fun hc_ => ?_; try have hc1_ := (band hc_).1)
  refine q22; refine q0 ?_; refine q11 ?_
  (apply spec_f; exact rfl; exact rfl)
  (refine im_any fun hc_ => ?_; try have hc1_ := (band hc_).1)
  refine q2
  (apply spec_f; exact rfl; exact rfl)
  (refine im_any fun hc_ => ?_; try have hc1_ := (band hc_).1)
  refine q3
  (apply spec_f; exact rfl; exact rfl)
  (refine im_any fun hc_ => ?_; try have hc1_ := (band hc_).1)
  refine q35; refine q0 ?_; refine ao_nil ?_; refine then_n ?_
  (apply awp_cond; exact rfl)
  (refine im_ot (fun hc_ => ?_); (try simp only [Bool.not_eq_true', Bool.not_eq_false', Bool.or_eq_true, Bool.and_eq_true, Bool.or_eq_false_iff, Bool.and_eq_false_iff, decide_eq_true_eq, decide_eq_false_iff_not, Decidable.not_not, Int.not_lt, Int.not_le, Bool.not_true, Bool.not_false, Bool.true_and, Bool.and_true, Bool.false_or, Bool.or_false, Bool.true_or, Bool.false_and, bne_eq_false_iff_eq, bne_iff_ne, beq_iff_eq, beq_eq_false_iff_ne, decide_eq_decide] at hc_))
  refine awp_seq ?_
  (refine ao_region ?_ (fun _ => ?_); exact rfl)
  refine q12 ?_; refine ao_nil ?_; refine then_n ?_; refine awp_ret ?_; refine then_r ?_
  rotate_left
  iterate 5 refine im_of ?_
  iterate 6 (refine im_df (fun _ => ?_); (try (exfalso; omega)))
  refine awp_skip ?_; refine then_n ?_
  iterate 2 refine awp_seq ?_
  (refine ao_region ?_ (fun _ => ?_); exact rfl)
  refine q11 ?_; refine q44 ?_; refine q11 ?_
  (apply spec_t; exact rfl; exact rfl)
  (refine im_any fun hc_ => ?_; try have hc1_ := (band hc_).1)
  refine q2
  (apply spec_t; exact rfl; exact rfl)
  (refine im_any fun hc_ => ?_; try have hc1_ := (band hc_).1)
  refine q3
  (apply spec_t; exact rfl; exact rfl)
  (refine im_any fun hc_ => ?_; try have hc1_ := (band hc_).1)
  refine q26
  (apply spec_t; exact rfl; exact rfl)
  (refine im_any fun hc_ => ?_; try have hc1_ := (band hc_).1)
  refine q1
  (apply spec_mf; exact rfl; exact rfl)
  (refine im_any fun hc_ => ?_; try have hc1_ := (band hc_).1)
  refine q2
  (apply spec_mf; exact rfl; exact rfl)
  (refine im_any fun hc_ => ?_; try have hc1_ := (band hc_).1)
  refine q3
  (apply spec_mf; exact rfl; exact rfl)
  (refine im_any fun hc_ => ?_; try have hc1_ := (band hc_).1)
  refine q26
  (apply spec_t; exact rfl; exact rfl)
  (refine im_any fun hc_ => ?_; try have hc1_ := (band hc_).1)
  refine q24; refine q4 ?_; refine q11 ?_
  (apply spec_f; exact rfl; exact rfl)
  (refine im_any fun hc_ => ?_; try have hc1_ := (band hc_).1)
  refine q1
  (apply spec_f; exact rfl; exact rfl)
  (refine im_any fun hc_ => ?_; try have hc1_ := (band hc_).1)
  refine q7
  (apply spec_f; exact rfl; exact rfl)
  (refine im_any fun hc_ => ?_; try have hc1_ := (band hc_).1)
  refine q1
  (apply spec_mf; exact rfl; exact rfl)
  (refine im_any fun hc_ => ?_; try have hc1_ := (band hc_).1)
  refine q1
  (apply spec_mf; exact rfl; exact rfl)
  (refine im_any fun hc_ => ?_; try have hc1_ := (band hc_).1)
  refine q7
  (apply spec_f; exact rfl; exact rfl)
  (refine im_any fun hc_ => ?_; try have hc1_ := (band hc_).1)
  refine q24
  (apply spec_f; exact rfl; exact rfl)
  (refine im_any fun hc_ => ?_; try have hc1_ := (band hc_).1)
  refine q1
  (apply spec_mt; exact rfl; exact rfl)
  (refine im_any fun hc_ => ?_; try have hc1_ := (band hc_).1)
  refine q2
  (apply spec_mt; exact rfl; exact rfl)
  (refine im_any fun hc_ => ?_; try have hc1_ := (band hc_).1)
  refine q3
  (apply spec_mt; exact rfl; exact rfl)
  (refine im_any fun hc_ => ?_; try have hc1_ := (band hc_).1)
  refine q1
  (apply spec_mf; exact rfl; exact rfl)
  (refine im_any fun hc_ => ?_; try have hc1_ := (band hc_).1)
  refine q2
  (apply spec_mf; exact rfl; exact rfl)
  (refine im_any fun hc_ => ?_; try have hc1_ := (band hc_).1)
  refine q3
  (apply spec_mt; exact rfl; exact rfl)
  (refine im_any fun hc_ => ?_; try have hc1_ := (band hc_).1)
  refine q24
  (apply spec_f; exact rfl; exact rfl)
  (refine im_any fun hc_ => ?_; try have hc1_ := (band hc_).1)
  refine q10; refine q0 ?_; refine q11 ?_
  (apply spec_f; exact rfl; exact rfl)
  (refine im_any fun hc_ => ?_; try have hc1_ := (band hc_).1)
  refine q1
  (apply spec_f; exact rfl; exact rfl)
  (refine im_any fun hc_ => ?_; try have hc1_ := (band hc_).1)
  refine q26
  (apply spec_f; exact rfl; exact rfl)
  (refine im_any fun hc_ => ?_; try have hc1_ := (band hc_).1)
  refine q1
  (apply spec_mt; exact rfl; exact rfl)
  (refine im_any fun hc_ => ?_; try have hc1_ := (band hc_).1)
  refine q1
  (apply spec_mt; exact rfl; exact rfl)
  (refine im_any fun hc_ => ?_; try have hc1_ := (band hc_).1)
  refine q26
  (apply spec_f; exact rfl; exact rfl)
  (refine im_any fun hc_ => ?_; try have hc1_ := (band hc_).1)
  refine q10
  (apply spec_f; exact rfl; exact rfl)
  (refine im_any fun hc_ => ?_; try have hc1_ := (band hc_).1)
  refine q1
  (apply spec_mt; exact rfl; exact rfl)
  (refine im_any fun hc_ => ?_; try have hc1_ := (band hc_).1)
  refine q2
  (apply spec_mt; exact rfl; exact rfl)
  (refine im_any fun hc_ => ?_; try have hc1_ := (band hc_).1)
  refine q3
  (apply spec_f; exact rfl; exact rfl)
  (refine im_any fun hc_ => ?_; try have hc1_ := (band hc_).1)
  refine q10; refine q0 ?_; refine ao_nil ?_; refine then_n ?_
  (apply awp_cond; exact rfl)
  (refine im_ot (fun hc_ => ?_); (try simp only [Bool.not_eq_true', Bool.not_eq_false', Bool.or_eq_true, Bool.and_eq_true, Bool.or_eq_false_iff, Bool.and_eq_false_iff, decide_eq_true_eq, decide_eq_false_iff_not, Decidable.not_not, Int.not_lt, Int.not_le, Bool.not_true, Bool.not_false, Bool.true_and, Bool.and_true, Bool.false_or, Bool.or_false, Bool.true_or, Bool.false_and, bne_eq_false_iff_eq, bne_iff_ne, beq_iff_eq, beq_eq_false_iff_ne, decide_eq_decide] at hc_))
  refine awp_seq ?_
  (refine ao_region ?_ (fun _ => ?_); exact rfl)
  refine q12 ?_; refine ao_nil ?_; refine then_n ?_; refine awp_ret ?_; refine then_r ?_
  rotate_left
  iterate 2 refine im_of ?_
  iterate 3 (refine im_af (fun hc_ => ?_); (try simp only [Bool.not_eq_true', Bool.not_eq_false', Bool.or_eq_true, Bool.and_eq_true, Bool.or_eq_false_iff, Bool.and_eq_false_iff, decide_eq_true_eq, decide_eq_false_iff_not, Decidable.not_not, Int.not_lt, Int.not_le, Bool.not_true, Bool.not_false, Bool.true_and, Bool.and_true, Bool.false_or, Bool.or_false, Bool.true_or, Bool.false_and, bne_eq_false_iff_eq, bne_iff_ne, beq_iff_eq, beq_eq_false_iff_ne, decide_eq_decide] at hc_))
  refine awp_skip ?_; refine then_n ?_
  iterate 2 refine awp_seq ?_
  (refine ao_region ?_ (fun _ => ?_); exact rfl)
  (apply S_load_loA; exact rfl; exact rfl; exact rfl; exact rfl; exact rfl; exact Nat.le_of_ble_eq_true rfl)
  ((first
    | ((with_reducible apply S_call); exact rfl; exact .fn _ _ _; exact rfl; (first | exact rstores_p _ | exact rloads_p _))
    | ((with_reducible apply D_call); exact rfl; exact .fn _ _ _; exact rfl; (first | exact rstores_p _ | exact rloads_p _))))
  (apply S_not; exact rfl)
  refine q11 ?_
  (apply spec_t; exact rfl; exact rfl)
  (refine im_any fun hc_ => ?_; try have hc1_ := (band hc_).1)
  refine q2
  (apply spec_t; exact rfl; exact rfl)
  (refine im_any fun hc_ => ?_; try have hc1_ := (band hc_).1)
  refine q3
  (apply spec_t; exact rfl; exact rfl)
  (refine im_any fun hc_ => ?_; try have hc1_ := (band hc_).1)
  refine q26; refine q4 ?_; refine q11 ?_
  (apply spec_f; exact rfl; exact rfl)
  (refine im_any fun hc_ => ?_; try have hc1_ := (band hc_).1)
  refine q27
  (apply spec_f; exact rfl; exact rfl)
  (refine im_any fun hc_ => ?_; try have hc1_ := (band hc_).1)
  ((have hp_ := hc_; (try simp only [Bool.not_eq_true', Bool.not_eq_false', Bool.or_eq_true, Bool.and_eq_true, Bool.or_eq_false_iff, Bool.and_eq_false_iff, decide_eq_true_eq, decide_eq_false_iff_not, Decidable.not_not, Int.not_lt, Int.not_le, Bool.not_true, Bool.not_false, Bool.true_and, Bool.and_true, Bool.false_or, Bool.or_false, Bool.true_or, Bool.false_and, bne_eq_false_iff_eq, bne_iff_ne, beq_iff_eq, beq_eq_false_iff_ne, decide_eq_decide] at hp_)))
  ((apply M_call; exact .plain rfl rfl; exact .fn _ _ _; (repeat (first | exact EvsM.nil | (apply EvsM.cons; first | (refine EvM.mb _ rfl ?_; first | assumption | exact rfl) | exact EvM.plain rfl rfl))); (first | exact rstores_p _ | exact rloads_p _)))
  (apply spec_f; exact rfl; exact rfl)
  (refine im_any fun hc_ => ?_; try have hc1_ := (band hc_).1)
  refine q42
  (apply spec_f; exact rfl; exact rfl)
  (refine im_any fun hc_ => ?_; try have hc1_ := (band hc_).1)
  refine q1
  (apply spec_mt; exact rfl; exact rfl)
  (refine im_any fun hc_ => ?_; try have hc1_ := (band hc_).1)
  refine q2
  (apply spec_mt; exact rfl; exact rfl)
  (refine im_any fun hc_ => ?_; try have hc1_ := (band hc_).1)
  refine q3
  (apply spec_mt; exact rfl; exact rfl)
  (refine im_any fun hc_ => ?_; try have hc1_ := (band hc_).1)
  refine q26
  (apply spec_f; exact rfl; exact rfl)
  (refine im_any fun hc_ => ?_; try have hc1_ := (band hc_).1)
  refine q10; refine q0 ?_; refine q11 ?_
  (apply spec_f; exact rfl; exact rfl)
  (refine im_any fun hc_ => ?_; try have hc1_ := (band hc_).1)
  refine q1
  (apply spec_f; exact rfl; exact rfl)
  (refine im_any fun hc_ => ?_; try have hc1_ := (band hc_).1)
  refine q7
  (apply spec_f; exact rfl; exact rfl)
  (refine im_any fun hc_ => ?_; try have hc1_ := (band hc_).1)
  refine q1
  (apply spec_mt; exact rfl; exact rfl)
  (refine im_any fun hc_ => ?_; try have hc1_ := (band hc_).1)
  refine q2
  (apply spec_mt; exact rfl; exact rfl)
  (refine im_any fun hc_ => ?_; try have hc1_ := (band hc_).1)
  refine q3
  (apply spec_mt; exact rfl; exact rfl)
  (refine im_any fun hc_ => ?_; try have hc1_ := (band hc_).1)
  refine q26
  (apply spec_f; exact rfl; exact rfl)
  (refine im_any fun hc_ => ?_; try have hc1_ := (band hc_).1)
  refine q10; refine q0 ?_; refine ao_nil ?_; refine then_n ?_
  (apply awp_cond; exact rfl)
  (refine im_ot (fun hc_ => ?_); (try simp only [Bool.not_eq_true', Bool.not_eq_false', Bool.or_eq_true, Bool.and_eq_true, Bool.or_eq_false_iff, Bool.and_eq_false_iff, decide_eq_true_eq, decide_eq_false_iff_not, Decidable.not_not, Int.not_lt, Int.not_le, Bool.not_true, Bool.not_false, Bool.true_and, Bool.and_true, Bool.false_or, Bool.or_false, Bool.true_or, Bool.false_and, bne_eq_false_iff_eq, bne_iff_ne, beq_iff_eq, beq_eq_false_iff_ne, decide_eq_decide] at hc_))
  refine awp_seq ?_
  (refine ao_region ?_ (fun _ => ?_); exact rfl)
  refine q12 ?_; refine ao_nil ?_; refine then_n ?_; refine awp_ret ?_; refine then_r ?_
  rotate_left
  iterate 2 refine im_of ?_
  iterate 3 (refine im_af (fun hc_ => ?_); (try simp only [Bool.not_eq_true', Bool.not_eq_false', Bool.or_eq_true, Bool.and_eq_true, Bool.or_eq_false_iff, Bool.and_eq_false_iff, decide_eq_true_eq, decide_eq_false_iff_not, Decidable.not_not, Int.not_lt, Int.not_le, Bool.not_true, Bool.not_false, Bool.true_and, Bool.and_true, Bool.false_or, Bool.or_false, Bool.true_or, Bool.false_and, bne_eq_false_iff_eq, bne_iff_ne, beq_iff_eq, beq_eq_false_iff_ne, decide_eq_decide] at hc_))
  refine awp_skip ?_; refine then_n ?_; refine awp_seq ?_
  (refine ao_region ?_ (fun _ => ?_); exact rfl)
  refine q11 ?_; refine q46 ?_; refine q11 ?_
  (apply spec_f; exact rfl; exact rfl)
  (refine im_any fun hc_ => ?_; try have hc1_ := (band hc_).1)
  refine q1
  (apply spec_f; exact rfl; exact rfl)
  (refine im_any fun hc_ => ?_; try have hc1_ := (band hc_).1)
  refine q7; refine q0 ?_; refine q11 ?_
  (apply spec_f; exact rfl; exact rfl)
  (refine im_any fun hc_ => ?_; try have hc1_ := (band hc_).1)
  refine q2
  (apply spec_f; exact rfl; exact rfl)
  (refine im_any fun hc_ => ?_; try have hc1_ := (band hc_).1)
  refine q3
  (apply spec_f; exact rfl; exact rfl)
  (refine im_any fun hc_ => ?_; try have hc1_ := (band hc_).1)
  refine q18
  (apply spec_f; exact rfl; exact rfl)
  (refine im_any fun hc_ => ?_; try have hc1_ := (band hc_).1)
  refine q7; refine q0 ?_; refine q11 ?_
  (apply spec_t; exact rfl; exact rfl)
  (refine im_any fun hc_ => ?_; try have hc1_ := (band hc_).1)
  refine q1
  (apply spec_t; exact rfl; exact rfl)
  (refine im_any fun hc_ => ?_; try have hc1_ := (band hc_).1)
  refine q22
  (apply spec_t; exact rfl; exact rfl)
  (refine im_any fun hc_ => ?_; try have hc1_ := (band hc_).1)
  refine q1
  (apply spec_mf; exact rfl; exact rfl)
  (refine im_any fun hc_ => ?_; try have hc1_ := (band hc_).1)
  refine q2
  (apply spec_mf; exact rfl; exact rfl)
  (refine im_any fun hc_ => ?_; try have hc1_ := (band hc_).1)
  refine q3
  (apply spec_mf; exact rfl; exact rfl)
  (refine im_any fun hc_ => ?_; try have hc1_ := (band hc_).1)
  refine q18
  (apply spec_mf; exact rfl; exact rfl)
  (refine im_any fun hc_ => ?_; try have hc1_ := (band hc_).1)
  refine q7
  (apply spec_t; exact rfl; exact rfl)
  (refine im_any fun hc_ => ?_; try have hc1_ := (band hc_).1)
  refine q24; refine q4 ?_; refine q11 ?_
  (apply spec_t; exact rfl; exact rfl)
  (refine im_any fun hc_ => ?_; try have hc1_ := (band hc_).1)
  refine q1
  (apply spec_t; exact rfl; exact rfl)
  (refine im_any fun hc_ => ?_; try have hc1_ := (band hc_).1)
  refine q22
  (apply spec_t; exact rfl; exact rfl)
  (refine im_any fun hc_ => ?_; try have hc1_ := (band hc_).1)
  refine q1
  (apply spec_mf; exact rfl; exact rfl)
  (refine im_any fun hc_ => ?_; try have hc1_ := (band hc_).1)
  refine q2
  (apply spec_mf; exact rfl; exact rfl)
  (refine im_any fun hc_ => ?_; try have hc1_ := (band hc_).1)
  refine q3
  (apply spec_mf; exact rfl; exact rfl)
  (refine im_any fun hc_ => ?_; try have hc1_ := (band hc_).1)
  refine q18
  (apply spec_mf; exact rfl; exact rfl)
  (refine im_any fun hc_ => ?_; try have hc1_ := (band hc_).1)
  refine q7
  (apply spec_mf; exact rfl; exact rfl)
  (refine im_any fun hc_ => ?_; try have hc1_ := (band hc_).1)
  refine q1
  (apply spec_mt; exact rfl; exact rfl)
  (refine im_any fun hc_ => ?_; try have hc1_ := (band hc_).1)
  refine q2
  (apply spec_mt; exact rfl; exact rfl)
  (refine im_any fun hc_ => ?_; try have hc1_ := (band hc_).1)
  refine q3
  (apply spec_mt; exact rfl; exact rfl)
  (refine im_any fun hc_ => ?_; try have hc1_ := (band hc_).1)
  refine q7
  (apply spec_mf; exact rfl; exact rfl)
  (refine im_any fun hc_ => ?_; try have hc1_ := (band hc_).1)
  refine q10
  (apply spec_t; exact rfl; exact rfl)
  (refine im_any fun hc_ => ?_; try have hc1_ := (band hc_).1)
  refine q24; refine q4 ?_; refine q12 ?_; refine ao_nil ?_; refine then_n ?_; refine awp_ret ?_
  rotate_left
  all_goals refine done_b rfl ?_
  all_goals unfold Ev.rbareB
  all_goals first | grind | rw [if_neg (by grind), if_neg (by grind), if_neg (by grind)]
end Go.Proofs.YtnghoibkjphfmaaGreat
/- From plain data back to the elder ground: an execution told in plain data lies in memory as the elder walks want it. -/
set_option maxRecDepth 100000
set_option linter.unusedVariables false
namespace Go.Proofs.YtnghoibkjphfmaaGreat
open Go.RowKit Go.ChangeShapes Go.WideShapes Go.Deep
section
variable {M : Mem} {w : World} (hm : ∀ b o v, M b o = some v → w.cell? ⟨b, o, none⟩ = some v)
include hm
theorem ints_back {q : IntKind} {l : List Int} {v : Value} (h : Rep M (.sl 1 (l.map fun n => [TV.c (.int q n)])) v) (hl : l.length ≤ 1152921504606846976) : ∃ s : Sl, v = .slice s.a s.n s.c ∧ IntsIn q w.heap.size w s l := by
  rw [Rep] at h
  obtain ⟨a, c, h1, h2, h3⟩ := h
  rw [List.length_map] at h1
  refine ⟨⟨a, l.length, c⟩, h1, rfl, hl, ?_⟩
  rcases h3 with h3 | ⟨b, off, h4, h5⟩
  · exact Or.inl (List.map_eq_nil_iff.1 h3)
  · have get : ∀ k, k < l.length → w.cell? ⟨b, off + k, none⟩ = some (.int q (l.getD k 0)) := fun k hk => by
      obtain ⟨_, g2⟩ := h5.get (get_map (f := fun n => [TV.c (.int q n)]) hk 0)
      obtain ⟨u, g3, g4⟩ := g2.get (o := 0) rfl
      rw [Rep] at g4
      rw [g4.1, Nat.mul_one, Nat.add_zero] at g3
      exact hm _ _ _ g3
    by_cases hz : l = []
    · exact Or.inl hz
    · exact Or.inr ⟨b, off, h4, (cell_lt (get 0 (List.length_pos_iff.2 hz))).2, get⟩
/-- the same event, with slices -/
def Ev.like (e e' : Ev) : Prop := ∃ a d c : Sl, e' = { e with av := a, dv := d, cv := c } ∧ a.n = e.addrs.length ∧ d.n = e.datas.length ∧ c.n = e.ctrls.length
theorem ev_back {e : Ev} (hok : e.ok) {b o : Nat} (h : RepC M (evTV e) b o) : ∃ e', e.like e' ∧ EvCells w b o e' ∧ e'.okIn w.heap.size w := by
  have cl : ∀ i v, (evTV e)[i]? = some (.c v) → w.cell? ⟨b, o + i, none⟩ = some v := fun i v hi => by
    obtain ⟨u, g3, g4⟩ := h.get hi
    rw [Rep] at g4
    rw [g4.1] at g3
    exact hm _ _ _ g3
  have cs : ∀ i l, (evTV e)[i]? = some (ints l) → l.length ≤ 1152921504606846976 → ∃ s : Sl, w.cell? ⟨b, o + i, none⟩ = some (.slice s.a s.n s.c) ∧ IntsIn .i64 w.heap.size w s l := fun i l hi hl => by
    obtain ⟨u, g3, g4⟩ := h.get hi
    obtain ⟨s, rfl, hs⟩ := ints_back hm (q := .i64) g4 hl
    exact ⟨s, hm _ _ _ g3, hs⟩
  obtain ⟨w1, n1, n2, n3, _⟩ := hok
  obtain ⟨sa, a1, a2⟩ := cs 10 e.addrs rfl n1
  obtain ⟨sd, d1, d2⟩ := cs 11 e.datas rfl n2
  obtain ⟨sc, c1, c2⟩ := cs 12 e.ctrls rfl n3
  refine ⟨{ e with av := sa, dv := sd, cv := sc }, ⟨sa, sd, sc, rfl, a2.1, d2.1, c2.1⟩, ?_, a2, d2, c2, w1⟩
  exact ⟨cl 0 _ rfl, cl 1 _ rfl, cl 2 _ rfl, cl 3 _ rfl, cl 4 _ rfl, cl 5 _ rfl, cl 6 _ rfl, cl 7 _ rfl, cl 8 _ rfl, cl 9 _ rfl, a1, d1, c1⟩
theorem evs_back {es : List Ev} {v : Value} (h : Rep M (evsTV es) v) (hl : es.length ≤ 1152921504606846976) (hok : ∀ e ∈ es, e.ok) :
    ∃ (s : Sl) (es' : List Ev), v = .slice s.a s.n s.c ∧ EvsIn w.heap.size w s es' ∧ es'.length = es.length ∧ ∀ i, i < es.length → (es.getD i default).like (es'.getD i default) := by
  unfold evsTV at h
  rw [Rep] at h
  obtain ⟨a, c, h1, h2, h3⟩ := h
  rw [List.length_map] at h1
  rcases h3 with h3 | ⟨b, off, h4, h5⟩
  · have : es = [] := List.map_eq_nil_iff.1 h3
    subst this
    exact ⟨⟨a, 0, c⟩, [], h1, ⟨rfl, by simp, by simp, Or.inl rfl⟩, rfl, fun i hi => by simp at hi⟩
  · obtain ⟨E, hE⟩ := choose_lt (α := Ev) (n := es.length) (p := fun i e' => (es.getD i default).like e' ∧ EvCells w b (off + i * 13) e' ∧ e'.okIn w.heap.size w) (fun i hi => by
      obtain ⟨_, g2⟩ := h5.get (get_map (f := evTV) hi default)
      refine ev_back hm (hok _ ?_) g2
      rw [List.getD_eq_getElem?_getD, List.getElem?_eq_getElem hi]
      exact List.getElem_mem hi)
    have hL : ((List.range es.length).map E).length = es.length := by simp
    have hg : ∀ i, i < es.length → ((List.range es.length).map E).getD i default = E i := fun i hi => by
      rw [List.getD_eq_getElem?_getD, List.getElem?_eq_getElem (by omega)]
      simp
    refine ⟨⟨a, es.length, c⟩, (List.range es.length).map E, h1, ⟨hL.symm, by omega, fun e he => ?_, ?_⟩, hL, fun i hi => by rw [hg i hi]; exact (hE i hi).1⟩
    · obtain ⟨i, hi, rfl⟩ := List.mem_map.1 he
      exact (hE i (List.mem_range.1 hi)).2.2
    · by_cases hz : es.length = 0
      · left; rw [hz]; rfl
      · right
        have c0 := (hE 0 (by omega)).2.1.1
        exact ⟨b, off, h4, (cell_lt c0).2, fun k hk => by rw [hg k (by omega)]; exact (hE k (by omega)).2.1⟩
theorem rows_back {l : List (Sl × List Int)} {v : Value} (h : Rep M (rowsTV l) v) (hl : l.length ≤ 1152921504606846976) (hok : ∀ r ∈ l, r.2.length ≤ 1152921504606846976) :
    ∃ (s : Sl) (l' : List (Sl × List Int)), v = .slice s.a s.n s.c ∧ RowsIn w.heap.size w s l' ∧ l'.length = l.length ∧ ∀ i, i < l.length → (l'.getD i default).2 = (l.getD i default).2 := by
  unfold rowsTV at h
  rw [Rep] at h
  obtain ⟨a, c, h1, h2, h3⟩ := h
  rw [List.length_map] at h1
  rcases h3 with h3 | ⟨b, off, h4, h5⟩
  · have : l = [] := List.map_eq_nil_iff.1 h3
    subst this
    exact ⟨⟨a, 0, c⟩, [], h1, ⟨rfl, by simp, by simp, Or.inl rfl⟩, rfl, fun i hi => by simp at hi⟩
  · obtain ⟨E, hE⟩ := choose_lt (α := Sl × List Int) (n := l.length) (p := fun i r => r.2 = (l.getD i default).2 ∧ w.cell? ⟨b, off + i, none⟩ = some r.1.v ∧ IntsIn .i64 w.heap.size w r.1 r.2) (fun i hi => by
      obtain ⟨_, g2⟩ := h5.get (get_map (f := intRow) hi default)
      obtain ⟨u, g3, g4⟩ := g2.get (o := 0) rfl
      obtain ⟨s, rfl, hs⟩ := ints_back hm (q := .i64) g4 (by
        apply hok
        rw [List.getD_eq_getElem?_getD, List.getElem?_eq_getElem hi]
        exact List.getElem_mem hi)
      rw [Nat.mul_one, Nat.add_zero] at g3
      exact ⟨(s, (l.getD i default).2), rfl, hm _ _ _ g3, hs⟩)
    have hL : ((List.range l.length).map E).length = l.length := by simp
    have hg : ∀ i, i < l.length → ((List.range l.length).map E).getD i default = E i := fun i hi => by
      rw [List.getD_eq_getElem?_getD, List.getElem?_eq_getElem (by omega)]
      simp
    refine ⟨⟨a, l.length, c⟩, (List.range l.length).map E, h1, ⟨hL.symm, by omega, fun r hr => ?_, ?_⟩, hL, fun i hi => by rw [hg i hi]; exact (hE i hi).1⟩
    · obtain ⟨i, hi, rfl⟩ := List.mem_map.1 hr
      exact (hE i (List.mem_range.1 hi)).2.2
    · by_cases hz : l.length = 0
      · left; rw [hz]; rfl
      · right
        have c0 := (hE 0 (by omega)).2.1
        exact ⟨b, off, h4, (cell_lt c0).2, fun k hk => by rw [hg k (by omega)]; exact (hE k (by omega)).2.1⟩
end
/-! ### Check does not look at where slices lie -/
def Sl.core (s : Sl) : Sl := ⟨none, s.n, 0⟩
def Ev.core (e : Ev) : Ev := { e with av := e.av.core, dv := e.dv.core, cv := e.cv.core }
theorem getD_core (es : List Ev) (i : Nat) : (es.map Ev.core).getD i default = (es.getD i default).core := by
  rw [List.getD_eq_getElem?_getD, List.getD_eq_getElem?_getD, List.getElem?_map]
  cases es[i]? <;> rfl
def Ex.core (x : Ex) : Ex := ⟨default, default, default, x.evs.map Ev.core, x.from_, x.order.map fun r => (default, r.2)⟩
theorem addrs_core (es : List Ev) : addrsTo (es.map Ev.core) = addrsTo es := by
  unfold addrsTo
  rw [List.foldl_map]
  rfl
theorem hangs_core (es : List Ev) (n : Nat) (l : List Int) : hangsB (es.map Ev.core) n l = hangsB es n l := by
  unfold hangsB hangsTo
  congr 1
  funext i
  unfold depOk
  simp only [getD_core]
  rfl
theorem evOk_core (es : List Ev) (ad : List Int) : evOk (es.map Ev.core) ad = evOk es ad := by
  funext n
  unfold evOk evPre
  simp only [getD_core, hangs_core]
  rfl
theorem evsTo_core (es : List Ev) (ad : List Int) (k : Nat) : evsTo (es.map Ev.core) ad k = evsTo es ad k := by
  unfold evsTo
  rw [evOk_core]
theorem fromOk_core (es : List Ev) (fs : List Int) : fromOk (es.map Ev.core) fs = fromOk es fs := by
  funext n
  unfold fromOk srcOk
  simp only [getD_core, List.length_map]
  rfl
theorem fromB_core (es : List Ev) (fs : List Int) : fromB (es.map Ev.core) fs = fromB es fs := by
  unfold fromB fromTo
  rw [fromOk_core, List.length_map]
theorem want_core (es : List Ev) (a : Int) (k : Nat) : wantTo (es.map Ev.core) a k = wantTo es a k := by
  unfold wantTo
  simp only [getD_core]
  rfl
theorem order_core (es : List Ev) (ad : List Int) (rows : List (Sl × List Int)) : orderB (es.map Ev.core) ad (rows.map fun r => (default, r.2)) = orderB es ad rows := by
  unfold orderB rowsTo
  rw [List.length_map]
  congr 2
  funext i
  unfold rowOk
  rw [want_core, List.length_map]
  have : ((rows.map fun r => ((default : Sl), r.2)).getD i default).2 = (rows.getD i default).2 := by
    rw [List.getD_eq_getElem?_getD, List.getD_eq_getElem?_getD, List.getElem?_map]
    cases rows[i]? <;> rfl
  rw [this]
theorem check_core (x : Ex) : checkI x.core = checkI x := by
  unfold checkI Ex.core
  dsimp only
  rw [addrs_core, List.length_map, evsTo_core, fromB_core, order_core]
theorem like_core {e e' : Ev} (h : e.like e') (hc : e.av.n = e.addrs.length ∧ e.dv.n = e.datas.length ∧ e.cv.n = e.ctrls.length) : e'.core = e.core := by
  obtain ⟨a, d, c, rfl, h1, h2, h3⟩ := h
  unfold Ev.core Sl.core
  dsimp only
  rw [h1, h2, h3, hc.1, hc.2.1, hc.2.2]
theorem list_ext_getD {α : Type} (d : α) {l l' : List α} (hl : l.length = l'.length) (h : ∀ i, i < l.length → l.getD i d = l'.getD i d) : l = l' := by
  apply List.ext_getElem hl
  intro i h1 h2
  have := h i h1
  rw [List.getD_eq_getElem?_getD, List.getD_eq_getElem?_getD, List.getElem?_eq_getElem h1, List.getElem?_eq_getElem h2] at this
  exact this
theorem Ev.ok.bare {e : Ev} (h : e.ok) : e.bareB = e.rbareB := by
  obtain ⟨_, _, _, _, h1, h2, h3⟩ := h
  unfold Ev.bareB Ev.rbareB Ev.stB Ev.ldB
  rw [h1, h2, h3]
  obtain ⟨hart, kind, addr, val, rval, aq, rl, pred, succ, rsv, av, dv, cv, l1, l2, l3⟩ := e
  dsimp only
  generalize l1.length = a
  generalize l2.length = d
  generalize l3.length = c
  rw [Bool.eq_iff_iff]
  by_cases k5 : kind = 5
  · subst k5; cases aq <;> cases rl <;> cases rsv <;> simp <;> omega
  by_cases k4 : kind = 4
  · subst k4; cases aq <;> cases rl <;> cases rsv <;> simp <;> omega
  by_cases k3 : kind = 3
  · subst k3; cases aq <;> cases rl <;> cases rsv <;> simp <;> omega
  by_cases k2 : kind = 2
  · subst k2; cases aq <;> cases rl <;> cases rsv <;> simp <;> omega
  by_cases k1 : kind = 1
  · subst k1; cases aq <;> cases rl <;> cases rsv <;> simp <;> omega
  rw [if_neg k5, if_neg k1, if_neg k2, if_neg k3, if_neg k4]
  have : kind < 1 ∨ 5 < kind := by omega
  rcases this with h | h <;> simp [h]
theorem ex_back {M : Mem} {w : World} (hm : ∀ b o v, M b o = some v → w.cell? ⟨b, o, none⟩ = some v) {G : Gh} (hG : G.M = M) {x : Ex} {v : Value} (h : RepO G (exOV x) v) (hx : x.ok) :
    ∃ x' : Ex, v = x'.agg ∧ x'.inW w.heap.size w ∧ x'.core = x.core := by
  obtain ⟨h1, h2, h3, h4, h5⟩ := hx
  unfold exOV at h
  rw [RepO] at h
  obtain ⟨vs, hv, h⟩ := h
  rw [RepOL] at h
  obtain ⟨v0, us, e0, r0, h⟩ := h
  rw [RepOL] at h
  obtain ⟨v1, us1, e1, r1, h⟩ := h
  rw [RepOL] at h
  obtain ⟨v2, us2, e2, r2, h⟩ := h
  rw [RepOL] at h
  rw [RepO, hG] at r0 r1 r2
  obtain ⟨s0, es', rfl, g1, g2, g3⟩ := evs_back hm r0 h1 h2
  obtain ⟨s1, rfl, g4⟩ := ints_back hm (q := .i64) r1 h3
  obtain ⟨s2, l', rfl, g5, g6, g7⟩ := rows_back hm r2 h4 h5
  refine ⟨⟨s0, s1, s2, es', x.from_, l'⟩, ?_, ⟨g1, g4, g5⟩, ?_⟩
  · rw [hv]; unfold Ex.agg
    congr 1
    apply Array.ext'
    rw [e0, e1, e2, h]
  · unfold Ex.core
    dsimp only
    congr 1
    · apply list_ext_getD default (by simpa using g2)
      intro i hi
      rw [List.length_map] at hi
      rw [getD_core, getD_core]
      refine like_core (g3 i (by omega)) ?_
      have := h2 (x.evs.getD i default) (by
        rw [List.getD_eq_getElem?_getD, List.getElem?_eq_getElem (by omega)]
        exact List.getElem_mem _)
      exact this.2.2.2.2
    · apply list_ext_getD default (by simpa using g6)
      intro i hi
      rw [List.length_map] at hi
      have e : ∀ rows : List (Sl × List Int), (rows.map fun r => ((default : Sl), r.2)).getD i default = (default, (rows.getD i default).2) := fun rows => by
        rw [List.getD_eq_getElem?_getD, List.getD_eq_getElem?_getD, List.getElem?_map]
        cases rows[i]? <;> rfl
      rw [e, e, g7 i (by omega)]
/-- A function's contract in plain data, from the elder ground: a number, or a truth value. -/
theorem pure_of {P : Program} {f : FuncId} {args : List OV} {l : Value} (hE : Enters P f) (hl : l.oneCell' = true)
    (h : ∀ (G : Gh) (w : World) (vs : List Value), RepOL G args vs → (∀ b o v, G.M b o = some v → w.cell? ⟨b, o, none⟩ = some v) → Calls P f vs.toArray w fun e w' => e = .returned l ∧ Below w.heap.size w w') : Pure P f args (.d (.c l)) :=
  ⟨hE, fun G w vs N hr hw => (h G w vs hr hw.mem).mono fun e w' ⟨h1, h2⟩ => ⟨l, G, .d (.c l), Store.nil, h1, rfl, Gh.le.refl G, by rw [RepO]; exact rep_c2 hl, hw.below h2⟩⟩
/-- events.Check, in plain data -/
theorem check_p (x : Ex) (hx : x.ok) (hrows : ∀ r ∈ x.order, r.2.length ≤ 65536) : Pure E.P 26 [exOV x] (.int .i64 (checkI x)) := by
  refine pure_of ⟨_, Tryz.func26, by decide, rfl⟩ rfl fun G w vs hr hm => ?_
  rw [RepOL] at hr
  obtain ⟨v, us, rfl, r0, hr⟩ := hr
  rw [RepOL] at hr
  subst hr
  obtain ⟨x', rfl, h1, h2⟩ := ex_back hm rfl r0 hx
  have := check_c x' w h1 (fun r hr => ?_)
  · rw [← check_core x', h2, check_core] at this
    exact this
  · have e : (default, r.2) ∈ x'.core.order := List.mem_map.2 ⟨r, hr, rfl⟩
    rw [h2] at e
    obtain ⟨r', hr', e'⟩ := List.mem_map.1 e
    have := hrows r' hr'
    rw [Prod.mk.injEq] at e'
    rw [← e'.2]; exact this
end Go.Proofs.YtnghoibkjphfmaaGreat
/- Executions and pairs as rows of plain data; an iterator's next value. -/
set_option linter.unusedVariables false
set_option linter.unusedSimpArgs false
namespace Go.Proofs.YtnghoibkjphfmaaGreat
open Go.RowKit
def pairTV (p : Int × Int) : List TV := [.c (.int .i64 p.1), .c (.int .i64 p.2)]
def pairsTV (l : List (Int × Int)) : TV := .sl 2 (l.map pairTV)
def exRow (x : Ex) : List TV := [evsTV x.evs, ints x.from_, rowsTV x.order]
theorem next_pair {l pre r : List (Int × Int)} {p : Int × Int} (h : l = pre ++ [p] ++ r) : pre.length < l.length ∧ (pairYs l).getD pre.length [] = [.ag (pairO' p)] := by
  have hlt : pre.length < l.length := by rw [h]; simp
  refine ⟨hlt, ?_⟩
  rw [pairYs_get l hlt, h]
  simp [List.getD]
/-- a small execution, as check takes it -/
def Ex.fit (x : Ex) : Prop := x.ok ∧ ∀ r ∈ x.order, r.2.length ≤ 65536
theorem seq_next {P : Program} {Y : YJ} {k m : Nat} {τ : Stamp} {st : Bool} {J : Nat → Rows → Prop} {L : List (Int × Int)} (h1 : st = false → m = L.length)
    (hy : ∀ i l0, i < m → J i l0 → YieldW P Y k τ i (i + 1) ((pairYs L).getD i []) l0 (J (i + 1)) (!(st && i + 1 == m))) {pre r : List (Int × Int)} {p : Int × Int} {l : Rows} (hL : L = pre ++ [p] ++ r) (hst : st = true → pre.length < m) (hJ : J pre.length l) :
    pre.length < m ∧ YieldW P Y k τ pre.length (pre.length + 1) [.ag (pairO' p)] l (J (pre.length + 1)) (!(st && pre.length + 1 == m)) := by
  obtain ⟨e1, e2⟩ := next_pair hL
  have hlm : pre.length < m := by
    cases st with
    | true => exact hst rfl
    | false => rw [h1 rfl]; exact e1
  have := hy _ l hlm hJ
  rw [e2] at this
  exact ⟨hlm, this⟩
theorem seq_go {st : Bool} {m i : Nat} (h1 : i < m) (h2 : (!(st && i + 1 == m)) = true) (h3 : st = true) : i + 1 < m := by
  subst h3
  simp at h2; omega
theorem seq_stop {st : Bool} {m i : Nat} (h : (!(st && i + 1 == m)) = false) : i + 1 = m := by
  simp at h; exact h.2
theorem pair_fz (l : List (Int × Int)) : FzR (l.map pairO') (l.map pairTV) := by
  induction l with
  | nil => exact FzR.nil
  | cons p l ih => exact FzR.cons (FzC.cons (FzC.cons FzC.nil)) ih
end Go.Proofs.YtnghoibkjphfmaaGreat
/- Relations as lists of pairs: all pairs of places, one behind the other, of which it is so; program order. Plain. -/
set_option linter.unusedVariables false
namespace Go.Proofs.YtnghoibkjphfmaaGreat
theorem nonneg_nat {a : Int} (h : 0 ≤ a) : ∃ n : Nat, a = n := ⟨a.toNat, (Int.toNat_of_nonneg h).symm⟩
def refPairs (n : Nat) (f : Nat → Nat → Bool) : List (Int × Int) := (List.range n).flatMap fun a => ((List.range n).filter (f a)).map fun (b : Nat) => (((a : Nat) : Int), ((b : Nat) : Int))
theorem mem_refPairs {n : Nat} {f : Nat → Nat → Bool} {p : Int × Int} : p ∈ refPairs n f ↔ ∃ a b : Nat, a < n ∧ b < n ∧ f a b = true ∧ p = ((a : Int), (b : Int)) := by
  unfold refPairs
  constructor
  · intro h
    obtain ⟨a, h1, h2⟩ := List.mem_flatMap.1 h
    obtain ⟨b, h3, rfl⟩ := List.mem_map.1 h2
    obtain ⟨h4, h5⟩ := List.mem_filter.1 h3
    exact ⟨a, b, List.mem_range.1 h1, List.mem_range.1 h4, h5, rfl⟩
  · rintro ⟨a, b, h1, h2, h3, rfl⟩
    exact List.mem_flatMap.2 ⟨a, List.mem_range.2 h1, List.mem_map.2 ⟨b, List.mem_filter.2 ⟨List.mem_range.2 h2, h3⟩, rfl⟩⟩
theorem ltZ_iff {x y : Int × Int} : ltZ x y = true ↔ x.1 < y.1 ∨ (x.1 = y.1 ∧ x.2 < y.2) := by simp [ltZ]
theorem refPairs_lt (n : Nat) (f : Nat → Nat → Bool) : (refPairs n f).Pairwise fun x y => ltZ x y = true := by
  unfold refPairs
  rw [List.pairwise_flatMap]
  refine ⟨fun a _ => ?_, ?_⟩
  · refine List.Pairwise.map _ (R := (· < ·)) (fun b c h => ?_) (List.Pairwise.filter _ List.pairwise_lt_range)
    rw [ltZ_iff]; right; exact ⟨rfl, by dsimp only; omega⟩
  · refine List.Pairwise.imp (fun {a b} h => ?_) List.pairwise_lt_range
    intro x hx y hy
    obtain ⟨c, _, rfl⟩ := List.mem_map.1 hx
    obtain ⟨d, _, rfl⟩ := List.mem_map.1 hy
    rw [ltZ_iff]; left; dsimp only; omega
theorem sortZ_eq {L : List (Int × Int)} {n : Nat} {f : Nat → Nat → Bool} (hnd : L.Nodup) (hm : ∀ p, p ∈ L ↔ p ∈ refPairs n f) : sortZ L = refPairs n f := by
  have hlt := refPairs_lt n f
  have hnd2 : (refPairs n f).Nodup := hlt.imp fun {x y} h e => by subst e; rw [ltZ_iff] at h; omega
  refine List.Perm.eq_of_pairwise (le := fun x y => (!ltZ y x) = true) (fun x y _ _ h1 h2 => ?_) (List.pairwise_mergeSort (fun a b c h1 h2 => ?_) (fun a b => ?_) L) (hlt.imp fun {x y} h => ?_) ((List.mergeSort_perm L _).trans ((List.perm_ext_iff_of_nodup hnd hnd2).2 hm))
  · simp only [Bool.not_eq_true', Bool.eq_false_iff, ne_eq, ltZ_iff] at h1 h2
    exact Prod.ext (by omega) (by omega)
  · simp only [Bool.not_eq_true', Bool.eq_false_iff, ne_eq, ltZ_iff] at *
    omega
  · simp only [Bool.or_eq_true, Bool.not_eq_true', Bool.eq_false_iff, ne_eq, ltZ_iff]
    omega
  · simp only [Bool.not_eq_true', Bool.eq_false_iff, ne_eq, ltZ_iff] at *
    omega
/-! ### program order -/
def isPo (x : Ex) (a b : Nat) : Bool := decide (a < b) && decide (0 ≤ (x.evs.getD a default).hart) && decide ((x.evs.getD a default).hart = (x.evs.getD b default).hart)
def poRow (x : Ex) (a b : Nat) : List (Int × Int) := ((List.range b).filter (isPo x a)).map fun (b : Nat) => (((a : Nat) : Int), ((b : Nat) : Int))
def poTo (x : Ex) (a : Nat) : List (Int × Int) := (List.range a).flatMap fun a => poRow x a x.evs.length
def poAt (x : Ex) (a b : Nat) : List (Int × Int) := poTo x a ++ poRow x a b
def poZ (x : Ex) : List (Int × Int) := poTo x x.evs.length
theorem poZ_ref (x : Ex) : poZ x = refPairs x.evs.length (isPo x) := rfl
theorem po_sorted (x : Ex) : sortZ (poZ x) = refPairs x.evs.length (isPo x) := by
  have hlt := refPairs_lt x.evs.length (isPo x)
  exact sortZ_eq (by rw [poZ_ref]; exact hlt.imp fun {x y} h e => by subst e; rw [ltZ_iff] at h; omega) fun p => by rw [poZ_ref]
theorem poTo_succ (x : Ex) (a : Nat) : poTo x (a + 1) = poTo x a ++ poRow x a x.evs.length := by
  simp [poTo, List.range_succ, List.flatMap_append]
theorem poAt_zero (x : Ex) (a : Nat) : poAt x a (a + 1) = poTo x a := by
  unfold poAt poRow
  rw [List.filter_eq_nil_iff.2, List.map_nil, List.append_nil]
  intro b hb
  have := List.mem_range.1 hb
  unfold isPo
  rw [show decide (a < b) = false by simp; omega]
  simp
theorem poRow_yes {x : Ex} {a b : Nat} (h : isPo x a b = true) : poRow x a (b + 1) = poRow x a b ++ [((a : Int), (b : Int))] := by
  unfold poRow
  rw [List.range_succ, List.filter_append, List.filter_cons, if_pos h, List.filter_nil, List.map_append]; rfl
theorem poRow_no {x : Ex} {a b : Nat} (h : ¬ isPo x a b = true) : poRow x a (b + 1) = poRow x a b := by
  unfold poRow
  rw [List.range_succ, List.filter_append, List.filter_cons, if_neg h, List.filter_nil, List.append_nil]
theorem poAt_yes {x : Ex} {a b : Nat} (h : isPo x a b = true) : poAt x a (b + 1) = poAt x a b ++ [((a : Int), (b : Int))] := by
  unfold poAt; rw [poRow_yes h, List.append_assoc]
theorem poAt_no {x : Ex} {a b : Nat} (h : ¬ isPo x a b = true) : poAt x a (b + 1) = poAt x a b := by
  unfold poAt; rw [poRow_no h]
theorem poAt_end (x : Ex) (a : Nat) : poAt x a x.evs.length = poTo x (a + 1) := by rw [poTo_succ]; rfl
theorem poRow_pre (x : Ex) (a : Nat) : ∀ {b c : Nat}, b ≤ c → ∃ r, poRow x a c = poRow x a b ++ r := fun {b c} h => by
  induction c with
  | zero => have : b = 0 := by omega
            subst this; exact ⟨[], by simp⟩
  | succ c ih =>
    by_cases e : b = c + 1
    · subst e; exact ⟨[], by simp⟩
    · obtain ⟨r, hr⟩ := ih (by omega)
      by_cases hc : isPo x a c = true
      · exact ⟨_, by rw [poRow_yes hc, hr, List.append_assoc]⟩
      · exact ⟨r, by rw [poRow_no hc, hr]⟩
theorem poTo_pre (x : Ex) : ∀ {a c : Nat}, a ≤ c → ∃ r, poTo x c = poTo x a ++ r := fun {a c} h => by
  induction c with
  | zero => have : a = 0 := by omega
            subst this; exact ⟨[], by simp⟩
  | succ c ih =>
    by_cases e : a = c + 1
    · subst e; exact ⟨[], by simp⟩
    · obtain ⟨r, hr⟩ := ih (by omega)
      exact ⟨_, by rw [poTo_succ, hr, List.append_assoc]⟩
theorem poAt_in {x : Ex} {a b : Nat} (ha : a < x.evs.length) (hb : b < x.evs.length) (h : isPo x a b = true) : ∃ q, poZ x = poAt x a b ++ [((a : Int), (b : Int))] ++ q := by
  obtain ⟨q1, h1⟩ := poTo_pre x (show a + 1 ≤ x.evs.length from ha)
  obtain ⟨q2, h2⟩ := poRow_pre x a (show b + 1 ≤ x.evs.length from hb)
  rw [← poAt_yes h]
  unfold poZ poAt
  rw [h1, poTo_succ, h2]
  exact ⟨q2 ++ q1, by simp only [List.append_assoc]⟩
theorem poZ_small {x : Ex} (h : x.evs.length ≤ 65536) : smallP (poZ x) := fun p hp => by
  rw [poZ_ref] at hp
  obtain ⟨a, b, h1, h2, _, rfl⟩ := mem_refPairs.1 hp
  dsimp only
  omega
theorem poTo_len (x : Ex) : ∀ a, (poTo x a).length ≤ a * x.evs.length
  | 0 => by simp [poTo]
  | a + 1 => by
    rw [poTo_succ, List.length_append, Nat.succ_mul]
    have h1 := poTo_len x a
    have h2 : (poRow x a x.evs.length).length ≤ x.evs.length := by
      unfold poRow
      rw [List.length_map]
      exact Nat.le_trans (List.length_filter_le _ _) (by simp)
    omega
end Go.Proofs.YtnghoibkjphfmaaGreat
/- What must stay in order, as the document's rules tell it. Plain. -/
set_option linter.unusedVariables false
set_option linter.unusedSimpArgs false
namespace Go.Proofs.YtnghoibkjphfmaaGreat
/-- does an event load or store for a hart? -/
def accB (e : Ev) : Bool := decide (0 ≤ e.hart) && !decide (e.kind = 4)
def pairOf (x : Ex) (a b : Nat) : Bool := accB (x.evs.getD a default) && accB (x.evs.getD b default) && decide (a < b) && decide ((x.evs.getD a default).hart = (x.evs.getD b default).hart)
def oneB (e f : Ev) : Bool := decide (e.addr = f.addr)
/-- is it so of an event between two? -/
def someB (a b : Nat) (f : Nat → Bool) : Bool := (List.range b).any fun n => decide (a < n) && f n
def inB (s : Int) (e : Ev) : Bool := (decide (s = 1) || decide (s = 3)) && e.stB || (decide (s = 2) || decide (s = 3)) && e.ldB
def strongB (e : Ev) : Bool := (e.aq || e.rl) && (decide (e.kind = 3) || e.rsv)
def hasB (l : List Int) (a : Nat) : Bool := decide (0 ≤ atI l a)
/-- the load that a store is paired with, looked for below a place; -1: none -/
def pairTo (es : List Ev) (f : Ev) : Nat → Int
  | 0 => -1
  | k + 1 =>
    if (es.getD k default).hart = f.hart then
      if (es.getD k default).rsv = true then (if (es.getD k default).kind = 2 then -1 else if (es.getD k default).addr = f.addr then (k : Int) else -1)
      else pairTo es f k
    else -1
def pairedI (x : Ex) (b : Nat) : Int := if (x.evs.getD b default).kind = 2 ∧ (x.evs.getD b default).rsv = true then pairTo x.evs (x.evs.getD b default) b else -1
def rule2 (x : Ex) (a b : Nat) : Bool := (x.evs.getD a default).ldB && (x.evs.getD b default).ldB && oneB (x.evs.getD a default) (x.evs.getD b default) && !decide (x.from_.getD a 0 = x.from_.getD b 0) && !someB a b (fun n => (x.evs.getD n default).stB && decide ((x.evs.getD n default).addr = (x.evs.getD a default).addr))
def rule3 (x : Ex) (a b : Nat) : Bool := (decide ((x.evs.getD a default).kind = 3) || decide ((x.evs.getD a default).kind = 2) && (x.evs.getD a default).rsv) && decide (x.from_.getD b 0 = (a : Int))
def hit4 (x : Ex) (a b n : Nat) : Bool := decide ((x.evs.getD n default).kind = 4) && inB (x.evs.getD n default).pred (x.evs.getD a default) && inB (x.evs.getD n default).succ (x.evs.getD b default)
def hit12 (x : Ex) (a b n : Nat) : Bool := (x.evs.getD n default).stB && decide (x.from_.getD b 0 = (n : Int)) && (hasB (x.evs.getD n default).addrs a || hasB (x.evs.getD n default).datas a)
def hit13 (x : Ex) (a n : Nat) : Bool := hasB (x.evs.getD n default).addrs a
/-- the rules, by number -/
def ruleR (x : Ex) (r : Int) (a b : Nat) : Bool :=
  if r = 1 then (x.evs.getD b default).stB && oneB (x.evs.getD a default) (x.evs.getD b default)
  else if r = 2 then rule2 x a b
  else if r = 3 then rule3 x a b
  else if r = 4 then someB a b (hit4 x a b)
  else if r = 5 then (x.evs.getD a default).aq
  else if r = 6 then (x.evs.getD b default).rl
  else if r = 7 then strongB (x.evs.getD a default) && strongB (x.evs.getD b default)
  else if r = 8 then decide (pairedI x b = (a : Int))
  else if r = 9 then hasB (x.evs.getD b default).addrs a
  else if r = 10 then hasB (x.evs.getD b default).datas a
  else if r = 11 then (x.evs.getD b default).stB && hasB (x.evs.getD b default).ctrls a
  else if r = 12 then (x.evs.getD b default).ldB && someB a b (hit12 x a b)
  else if r = 13 then (x.evs.getD b default).stB && someB a b (hit13 x a)
  else false
def ruleB (x : Ex) (r : Int) (a b : Nat) : Bool := pairOf x a b && ruleR x r a b
def rs13 : List Int := [1, 2, 3, 4, 5, 6, 7, 8, 9, 10, 11, 12, 13]
/-- the rules that hold of a pair -/
def heldL (x : Ex) (a b : Nat) : List Int := rs13.filter fun r => ruleR x r a b
def isPpo (x : Ex) (a b : Nat) : Bool := rs13.any fun r => ruleB x r a b
theorem pairOf_po {x : Ex} {a b : Nat} (h : pairOf x a b = true) : isPo x a b = true := by
  unfold pairOf accB at h
  unfold isPo
  simp only [Bool.and_eq_true, decide_eq_true_eq] at h ⊢
  exact ⟨⟨h.1.2, h.1.1.1.1⟩, h.2⟩
theorem isPpo_eq (x : Ex) (a b : Nat) : isPpo x a b = (pairOf x a b && decide (0 < (heldL x a b).length)) := by
  unfold isPpo heldL ruleB
  cases pairOf x a b with
  | false => simp
  | true =>
    simp only [Bool.true_and]
    rw [Bool.eq_iff_iff, List.any_eq_true, decide_eq_true_eq]
    constructor
    · rintro ⟨r, h1, h2⟩
      exact List.length_pos_iff.2 (List.ne_nil_of_mem (List.mem_filter.2 ⟨h1, h2⟩))
    · intro h
      obtain ⟨r, hr⟩ := List.exists_mem_of_length_pos h
      exact ⟨r, (List.mem_filter.1 hr).1, (List.mem_filter.1 hr).2⟩
theorem flatMap_cong {α β : Type} {f g : α → List β} : ∀ {l : List α}, (∀ a ∈ l, f a = g a) → l.flatMap f = l.flatMap g
  | [], _ => rfl
  | a :: l, h => by rw [List.flatMap_cons, List.flatMap_cons, h a (by simp), flatMap_cong fun b hb => h b (by simp [hb])]
theorem filter_refPairs (n : Nat) (f g : Nat → Nat → Bool) (h : Int × Int → Bool) (hh : ∀ a b : Nat, a < n → b < n → f a b = true → h ((a : Int), (b : Int)) = g a b) (hg : ∀ a b, g a b = true → f a b = true) : (refPairs n f).filter h = refPairs n g := by
  unfold refPairs
  rw [List.filter_flatMap]
  refine flatMap_cong fun a ha => ?_
  rw [List.filter_map]
  refine congrArg _ ?_
  rw [List.filter_filter]
  refine List.filter_congr fun b hb => ?_
  have ha := List.mem_range.1 ha
  have hb := List.mem_range.1 hb
  cases hf : f a b with
  | false =>
    cases hq : g a b with
    | false => simp
    | true => rw [hg a b hq] at hf; cases hf
  | true => simp [hh a b ha hb hf]
theorem ppo_list (x : Ex) : (refPairs x.evs.length (isPo x)).filter (fun p => pairOf x p.1.toNat p.2.toNat && decide (0 < (heldL x p.1.toNat p.2.toNat).length)) = refPairs x.evs.length (isPpo x) :=
  filter_refPairs _ _ _ _ (fun a b _ _ _ => by rw [isPpo_eq]; simp only [Int.toNat_natCast]) fun a b h => by
    rw [isPpo_eq] at h
    simp only [Bool.and_eq_true] at h
    exact pairOf_po h.1
theorem someB_none {a b : Nat} {f : Nat → Bool} (h : b ≤ a + 1) : someB a b f = false := by
  unfold someB
  rw [List.any_eq_false]
  intro n hn
  have := List.mem_range.1 hn
  rw [show decide (a < n) = false by simp; omega]; simp
theorem someB_succ {a b : Nat} {f : Nat → Bool} (h : a < b) : someB a (b + 1) f = (someB a b f || f b) := by
  unfold someB
  rw [List.range_succ, List.any_append]
  simp [h]
theorem someB_hit {a b n : Nat} {f : Nat → Bool} (h1 : a < n) (h2 : n < b) (h : f n = true) : someB a b f = true := by
  unfold someB
  exact List.any_eq_true.2 ⟨n, List.mem_range.2 h2, by simp [h1, h]⟩
/-- the pair that the program finds below a place, and whether it fits -/
def pairTP (es : List Ev) (f : Ev) : Nat → Int × Bool
  | 0 => (0, false)
  | k + 1 =>
    if (es.getD k default).hart = f.hart then
      if (es.getD k default).rsv = true then ((k : Int), decide ((es.getD k default).kind = 1) && decide ((es.getD k default).addr = f.addr))
      else pairTP es f k
    else (0, false)
def pairedZ (x : Ex) (b : Nat) : Int × Bool := if (x.evs.getD b default).kind = 2 ∧ (x.evs.getD b default).rsv = true then pairTP x.evs (x.evs.getD b default) b else (0, false)
theorem pairTP_eq {es : List Ev} {f : Ev} (h : ∀ i, (es.getD i default).rsv = true → (es.getD i default).kind = 1 ∨ (es.getD i default).kind = 2) : ∀ k, (pairTP es f k).2 = decide (0 ≤ pairTo es f k) ∧ ((pairTP es f k).2 = true → (pairTP es f k).1 = pairTo es f k)
  | 0 => by simp [pairTP, pairTo]
  | k + 1 => by
    have ih := pairTP_eq (f := f) h k
    have hq := h k
    unfold pairTP pairTo
    generalize es.getD k default = g at hq ⊢
    by_cases h1 : g.hart = f.hart
    · rw [if_pos h1, if_pos h1]
      by_cases h2 : g.rsv = true
      · rw [if_pos h2, if_pos h2]
        rcases hq h2 with h3 | h3
        · rw [h3]
          by_cases h4 : g.addr = f.addr
          · rw [if_neg (by decide), if_pos h4]; simp [h4]
          · rw [if_neg (by decide), if_neg h4]; simp [h4]
        · rw [h3]; simp
      · rw [if_neg h2, if_neg h2]; exact ih
    · rw [if_neg h1, if_neg h1]; simp
theorem pairedZ_eq {x : Ex} (h : ∀ i, (x.evs.getD i default).rsv = true → (x.evs.getD i default).kind = 1 ∨ (x.evs.getD i default).kind = 2) (b : Nat) : (pairedZ x b).2 = decide (0 ≤ pairedI x b) ∧ ((pairedZ x b).2 = true → (pairedZ x b).1 = pairedI x b) := by
  unfold pairedZ pairedI
  by_cases h1 : (x.evs.getD b default).kind = 2 ∧ (x.evs.getD b default).rsv = true
  · rw [if_pos h1, if_pos h1]; exact pairTP_eq h b
  · rw [if_neg h1, if_neg h1]; simp
theorem pairedZ_rule {x : Ex} (h : ∀ i, (x.evs.getD i default).rsv = true → (x.evs.getD i default).kind = 1 ∨ (x.evs.getD i default).kind = 2) (a b : Nat) : ((pairedZ x b).2 && decide ((pairedZ x b).1 = (a : Int))) = decide (pairedI x b = (a : Int)) := by
  obtain ⟨h1, h2⟩ := pairedZ_eq h b
  cases h3 : (pairedZ x b).2 with
  | true => rw [h2 h3]; simp
  | false =>
    rw [h3] at h1
    have : ¬ 0 ≤ pairedI x b := by simpa using h1.symm
    simp only [Bool.false_and]
    exact (decide_eq_false (by omega)).symm
theorem held_eq (x : Ex) (a b : Nat) : ((List.range 14).filter fun (r : Nat) => decide (1 ≤ r) && ruleR x (r : Int) a b).map (fun (r : Nat) => (r : Int)) = heldL x a b := by
  have e : (List.range 14).map (fun (r : Nat) => (r : Int)) = 0 :: rs13 := by decide
  have h := List.filter_map (f := fun (r : Nat) => (r : Int)) (p := fun z : Int => decide (1 ≤ z) && ruleR x z a b) (l := List.range 14)
  rw [e] at h
  unfold heldL
  have h2 : ((List.range 14).filter ((fun z : Int => decide (1 ≤ z) && ruleR x z a b) ∘ fun (r : Nat) => (r : Int))) = (List.range 14).filter fun (r : Nat) => decide (1 ≤ r) && ruleR x (r : Int) a b := by
    refine List.filter_congr fun r _ => ?_
    show (decide ((1 : Int) ≤ (r : Int)) && ruleR x r a b) = _
    congr 1
    exact decide_eq_decide.2 (by omega)
  rw [h2] at h
  rw [← h, List.filter_cons, if_neg (by simp)]
  refine List.filter_congr fun r hr => ?_
  have : (1 : Int) ≤ r := by
    unfold rs13 at hr
    simp only [List.mem_cons, List.not_mem_nil, or_false] at hr
    omega
  simp [this]
end Go.Proofs.YtnghoibkjphfmaaGreat
