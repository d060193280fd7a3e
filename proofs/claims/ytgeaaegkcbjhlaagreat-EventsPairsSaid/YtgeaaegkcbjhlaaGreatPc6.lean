/- Ranges over functions, in plain data: what a call of yield does; an iterator's contract; the statement. -/
import Derived.RangeFuncNested
import Derived.Shelf.Small.Bits
import Derived.Shelf.Small.Wraps
import Derived.Shelf.Strconv.Itoa0
import Derived.Shelf.Sort.Plain
import Derived.Shelf.Slices.Equal
import Derived.Ground.Names2Prog
import Derived.Shelf.Slices.SearchI
import Derived.Shelf.Slices.In.SortNone
import Derived.Shelf.Slices.Empties2
import Derived.Test.YtgeaaegkcbjhlaaGreatProg
import Derived.Sort.WalkA
import Derived.RangeFuncBox
import Derived.RangeFuncLeaves
import Derived.Shelf.Abstract
import Derived.WalkKit
import Derived.OwnWalkIn
import Derived.TacticsInMore
import Derived.RegionIn
import Derived.LoopNIn
import Derived.LoopIn
import Derived.Maps.AppendAt
import Derived.Maps.OwnIn
import Derived.Sort.MapsRangeIn
import Derived.Sort.OwnSortedInts
import Derived.Shelf.SlSortCmp.WholeK
import Derived.Shelf.SlGeneric
import Derived.Ground.SlsfProg
import Derived.Shelf.SlSortCmp.NoneTotal
import Derived.Test.YtgeaaegkcbjhlaaGreatPc3
import Derived.Test.YtgeaaegkcbjhlaaGreatPc5
set_option linter.unusedVariables false
namespace Go.Proofs.YtgeaaegkcbjhlaaGreat
open Go.RowKit
abbrev Rows := List (Nat × (Stamp × Row))
/-- the blocks that an iterator's call may turn: the rows that it was handed, what its yields turn -/
def YBlks (Y : YJ) (G : Gh) (l : Rows) (b : Nat) : Prop := Blks G (stL l) b ∨ Y.D b
/-- A call of yield: from state i, rows l0, to state i', rows that R1 takes; it answers ans. -/
def YieldW (P : Program) (Y : YJ) (k : Nat) (τ : Stamp) (i i' : Nat) (args : List OV) (l0 : Rows) (R1 : Rows → Prop) (ans : Bool) : Prop :=
  ∀ (G : Gh) (w : World) (vs : List Value) (N : Nat) (β : Blk), Y.g.le G → G.μ k τ = some (some β) → Y.J i w → RepOL G args vs → WRel ⟨w, YBlks Y G l0, G, N⟩ G (stL l0) w →
    YieldAt Fence.wide 0 P β.b vs.toArray w (fun e w' => e = .returned (.bool ans) ∧ ∃ l1, R1 l1 ∧ ∃ G' σ', (stL l1).le σ' ∧ G.le G' ∧ WRel ⟨w, YBlks Y G l0, G, N⟩ G' σ' w' ∧ Y.J i' w')
/-- An iterator's call, handed yield. -/
def FnY (P : Program) (f : FuncId) (args : List OV) (Y : YJ) (i i' : Nat) (l0 : Rows) (R1 : Rows → Prop) : Prop :=
  Enters P f ∧ ∀ (G : Gh) (w : World) (vs : List Value) (N : Nat), Y.g.le G → Y.J i w → RepOL G args vs → WRel ⟨w, YBlks Y G l0, G, N⟩ G (stL l0) w →
    Calls P f vs.toArray w (fun e w' => (∃ x, e = .returned x) ∧ ∃ l1, R1 l1 ∧ ∃ G' σ', (stL l1).le σ' ∧ G.le G' ∧ WRel ⟨w, YBlks Y G l0, G, N⟩ G' σ' w' ∧ Y.J i' w')
/-- An iterator gives these values, one behind the other, as long as it is told to go on: m of them; st: the last one was answered 'no'. J: the rows at each state; their keys are none of the iterator's own. -/
def SeqW (P : Program) (f : FuncId) (fi ca : List OV) (ys : List (List OV)) : Prop :=
  ∀ (Y : YJ) (k : Nat) (τ : Stamp) (J : Nat → Rows → Prop) (m : Nat) (st : Bool), m ≤ ys.length → (st = false → m = ys.length) → (st = true → 0 < m) →
    (∀ i l, J i l → (l.map (·.1)).Nodup) → (∀ i l, J i l → ∀ e ∈ l, 1000 ≤ e.1) →
    (∀ i l0, i < m → J i l0 → YieldW P Y k τ i (i + 1) (ys.getD i []) l0 (J (i + 1)) (!(st && i + 1 == m))) → ∀ l0, J 0 l0 → FnY P f (fi ++ [.yl k τ] ++ ca) Y 0 m l0 (J m)
theorem behind_out {σ σ1 : Store} {l0 l1 : Rows} (hn : (l1.map (·.1)).Nodup) (g1 : (stL l1).le σ1) {k : Nat} {τ : Stamp} {r : Row} (hr : ((σ.apply (dels l0)).apply (outD l1)) k = some (τ, r)) : ((stL l0) k = none ∧ σ k = some (τ, r)) ∨ σ1 k = some (τ, r) := by
  rw [applyD_out l1 _ k hn] at hr
  cases h8 : stL l1 k with
  | some x => rw [h8] at hr; cases hr; exact Or.inr (g1 _ _ h8)
  | none =>
    rw [h8, applyD_del] at hr
    cases h9 : stL l0 k with
    | some x => rw [h9] at hr; cases hr
    | none => rw [h9] at hr; exact Or.inl ⟨rfl, hr⟩
theorem out_le {σ : Store} {l0 l1 : Rows} (hn : (l1.map (·.1)).Nodup) : (stL l1).le ((σ.apply (dels l0)).apply (outD l1)) := fun k x hx => by
  rw [applyD_out l1 _ k hn, hx]
/-! ### the iterator's side -/
/-- where yield is called: the state, the rows -/
theorem yield_ok {P : Program} {v j : Nat} {tm : Tm} {σ : Store} {n : Nat} {dst : Option Tmp} {ty : TypeId} {pos : String} {af : Array Edge} {gd : Option (Nat × Bool)} {x : Operand} {xs : List Operand} {tys : Array TypeId} {ys : List OV} {Y : YJ} {k : Nat} {τ : Stamp} {i i' : Nat} {l0 : Rows} {R1 : Rows → Prop} {ans : Bool} 
    (hY : YieldW P Y k τ i i' ys l0 R1 ans) (hx : ev tm x = some (.yl k τ)) (ha : evs tm xs = some ys) (hg : tm GS = some (.gh i Y)) (hle : (stL l0).le σ) (hn : ∀ l1, R1 l1 → (l1.map (·.1)).Nodup)
    {C : Cx} {G : Gh} {a : Act} {w : World} {ro : Option Nat} {next : Act → World → Prop} {Q : Exit → Act → World → Prop} (hd : ∀ d, dst = some d → d < n ∧ d ≠ GS) (hro : C.ro = ro) (hN : C.Γ.N ≤ v) (hf : ∀ k, G.μ k (v, j) = none) (hs : SRel n C G tm σ a w)
    (hnext : ∀ l1 G' a' w', R1 l1 → G.le G' → (∀ k v' i, v' ≤ v → (v' = v → i ≠ j) → G'.μ k (v', i) = G.μ k (v', i)) → SRel n C G' ((tm.putO dst (.bool ans)).put GS (.gh i' Y)) ((σ.apply (dels l0)).apply (outD l1)) a' w' → next a' w') :
    Oper.wpIn (wideR ro) 0 P ⟨dst, .call { callee := .value x, args := xs.toArray, argTypes := tys }, ty, pos, af, gd⟩ a w next Q := by
  have h1 := ev_rep hs.tm hx
  rw [RepO] at h1
  obtain ⟨β, hβ, hxv⟩ := h1
  have h4 := evs_rep ha fun z _ y hy => ev_rep hs.tm hy
  obtain ⟨hJ, hJg, hJf⟩ := hs.gh i Y hg
  have hst : WRel ⟨w, YBlks Y G l0, G, v + 1⟩ G (stL l0) w := by
    have := hs.w.startW hle (v + 1)
    exact ⟨this.mem, fun k τ r hk => (this.own k τ r hk).imp id fun ⟨β, e1, e2, e3, e4⟩ => ⟨β, e1, e2, e3, e4.imp id Or.inl⟩, this.inj, fun _ _ _ => rfl, this.size, this.tape, this.os, this.output, this.g0, fun b o v h => Or.inl h, this.bound, this.low⟩
  obtain ⟨fn, tmps, assign, body, hy, hR⟩ := hY G w (xs.map a.eval) (v + 1) β hJg hβ hJ h4 hst
  unfold Oper.wpIn
  refine ⟨fun _ _ => trivial, ?_⟩
  rw [show (wideR ro).round = ro from rfl, Oper.semAt_eq ro a.eval _ (fun c hc => by cases hc)]
  have hrun : (execOp a.eval ⟨dst, .call { callee := .value x, args := xs.toArray, argTypes := tys }, ty, pos, af, gd⟩).run P w = .ok (.round β.b fn tmps assign body) w := by
    have e : (xs.map a.eval).toArray = xs.toArray.map a.eval := by simp
    rw [e] at hy
    simp only [execOp, resolve, hxv, Deferred.ofValue, Sem.run_bind, Sem.run_pure, Result.andThen_ok, invoke]
    simpa using hy
  rw [hrun]
  simp only [Oper.uponIn]
  refine ⟨fun e => (by cases e), ?_⟩
  refine (show RoundIn (wideR ro) (0 - 1) P β.b fn tmps assign body w _ from hR.mono fun e w' ⟨he, l1, hl1, G', σ', g1, g2, g3, g4⟩ => ?_)
  subst he
  have hJn : ∀ k τ r β, σ k = some (τ, r) → G.μ k τ = some (some β) → ¬ Y.D β.b := fun k τ r β h1 h2 hb => by
    obtain ⟨o, e1, e2⟩ := Y.nc i w _ hJ hb
    obtain ⟨cs, f4, _⟩ := hs.w.blk h1 h2
    rw [e1] at f4
    cases f4; cases e2
  have hnr : ∀ b o, C.fix b = some o → ¬ YBlks Y G l0 b := fun b o hb hB => by
    rcases hB with hB | hB
    · exact hs.fix.not_own hst hb hB
    · exact hJf.1 b o hb hB
  refine hnext l1 G' (a.put dst (.bool ans)) w' hl1 g2 (fun k v' i hv' _ => g3.low k v' i (Nat.lt_succ_of_le hv')) ⟨by rw [Act.put_size, hs.size], by rw [Act.put_defers, hs.defers], fun t y ht => ?_, hs.w.backD hle g3 (Nat.le_succ_of_le hN) (fun k τ r hr => ?_) (fun b hb => C.dok b (hJf.2 b hb)) (fun k τ r β _ h1 h2 => hJn k τ r β h1 h2), fun b o hb => ?_, hs.marks, fun i2 Y2 hi => ?_⟩
  · by_cases hn' : t = GS
    · subst hn'
      rw [Tm.put_self] at ht
      exact Or.inl ⟨_, _, (Option.some.inj ht).symm⟩
    · rw [Tm.put_ne _ _ hn'] at ht
      exact (hs.tm.mono g2).put (by rw [RepO, Rep]; exact ⟨rfl, rfl⟩) dst (by rw [hs.size]; exact fun d e => (hd d e).1) t y ht
  · exact behind_out (hn l1 hl1) g1 hr
  · obtain ⟨e1, e2⟩ := hs.fix b o hb
    exact ⟨(g3.keep b (Array.getElem?_eq_some_iff.1 e1).1 (hnr b o hb)).trans e1, e2⟩
  · rw [Tm.put_self] at hi
    cases hi
    exact ⟨g4, hJg.trans g2, hJf⟩
section
variable {E : Env} {v j : Nat} {ops : Array Oper} {K : Tm → Store → Prop} {rest : List Oper} {tm : Tm} {σ : Store} {dst : Option Tmp} {ty : TypeId} {pos : String} {af : Array Edge}
theorem S_yield {x : Operand} {xs : List Operand} {tys : Array TypeId} {ys : List OV} {Y : YJ} {k : Nat} {τ : Stamp} {i i' : Nat} {l0 : Rows} {R1 : Rows → Prop} {ans : Bool} (hx : ev tm x = some (.yl k τ)) (ha : evs tm xs = some ys) (hg : tm GS = some (.gh i Y)) (hY : YieldW E.P Y k τ i i' ys l0 R1 ans)
    (hle : (stL l0).le σ) (hn : ∀ l1, R1 l1 → (l1.map (·.1)).Nodup) (hcont : ∀ l1, R1 l1 → AO E.P v ops K (j + 1) rest ((tm.putO dst (.bool ans)).put GS (.gh i' Y)) ((σ.apply (dels l0)).apply (outD l1))) :
    AO E.P v ops K j (⟨dst, .call { callee := .value x, args := xs.toArray, argTypes := tys }, ty, pos, af, none⟩ :: rest) tm σ :=
  ao_t fun n C G a w ro next Q hd hro hN hf hs hk' => yield_ok hY hx ha hg hle hn hd hro hN hf hs fun l1 G' a' w' h0 h1 h2 h3 => hk' C G' _ _ a' w' (.refl C) h1 h2 h3 (hcont l1 h0)
end
/-- an iterator's end: it has yielded to state i', the rows handed to it are l1 -/
def DoneY (Y : YJ) (i' : Nat) (R1 : Rows → Prop) (e : Exit) (tm : Tm) (σ : Store) : Prop := (e = .normal ∨ e = .ret) ∧ tm GS = some (.gh i' Y) ∧ ∃ l1, R1 l1 ∧ (stL l1).le σ
theorem fny_of_awp {P : Program} {f : FuncId} {fn : Func} {c : Code} {n : Nat} {args : List OV} {Y : YJ} {i i' : Nat} {l0 : Rows} {R1 : Rows → Prop} (hf : P.funcs[f]? = some fn) (hname : (fn.name == "runtime.NumGoroutine") = false) (hb : fn.body = some c) (hn : fn.ntmps = n) (hl : args.length ≤ n) (hr : fn.results = #[])
    (h : awp P n c (DoneY Y i' R1) ((Tm.ini args).put GS (.gh i Y)) (stL l0)) : FnY P f args Y i i' l0 R1 := by
  refine ⟨⟨fn, hf, hname, by rw [hb]; rfl⟩, fun G w vs N hg hJ hv hw => ?_⟩
  refine (body_callsJ (R := fun r σ => ∃ l1, R1 l1 ∧ (stL l1).le σ) (some (i', Y)) Y.D (fun b hb => Or.inr (Or.inr hb)) hf hb hn hl h (fun t y hy => ?_) hv rfl hw rfl (fun i2 Y2 hi => ?_) fun e G' tm σ C a w' hs hq => ?_).mono fun e w' ⟨x, G', r, σ', h1, ⟨l1, hl1, h2⟩, h3, _, h5, h6⟩ => ⟨⟨x, h1⟩, l1, hl1, G', σ', h2, h3, h5, h6 _ _ rfl⟩
  · by_cases ht : t = GS
    · subst ht; rw [Tm.put_self] at hy; exact Or.inl ⟨_, _, (Option.some.inj hy).symm⟩
    · rw [Tm.put_ne _ _ ht] at hy; exact Or.inr (Tm.ini_get hy)
  · rw [Tm.put_self] at hi
    cases hi
    exact ⟨hJ, hg, fun b hb => hb⟩
  · obtain ⟨h1, h2, h3⟩ := hq
    refine ⟨h1, fun m Y' hm => by cases hm; exact h2, .tuple #[], .tu [], ?_, ?_, h3⟩
    · simp [results, hr]
    · rw [RepO]; exact ⟨#[], rfl, by rw [RepOL]⟩
/-! ### the statement's side -/
/-- the round's parameters -/
def Tm.puts (tm : Tm) : List Tmp → List OV → Tm
  | p :: ps, y :: ys => Tm.puts (tm.put p y) ps ys
  | _, _ => tm
def setAll (tmps : Array Value) : List Tmp → List Value → Array Value
  | p :: ps, v :: vs => setAll (tmps.setIfInBounds p v) ps vs
  | _, _ => tmps
theorem setAll_list : ∀ (ps : List Tmp) (vs : List Value) (tmps : Array Value), (ps.zip vs).foldl (fun t (x : Tmp × Value) => t.setIfInBounds x.1 x.2) tmps = setAll tmps ps vs
  | [], vs, tmps => by simp [setAll]
  | p :: ps, [], tmps => by simp [setAll]
  | p :: ps, v :: vs, tmps => by
    rw [List.zip_cons_cons, List.foldl_cons, setAll_list ps vs, setAll]
theorem setAll_fold (ps : List Tmp) (vs : List Value) (tmps : Array Value) : (ps.toArray.zip vs.toArray).foldl (fun t (p, v) => t.setIfInBounds p v) tmps = setAll tmps ps vs := by
  have e : ps.toArray.zip vs.toArray = (ps.zip vs).toArray := by apply Array.ext'; simp
  rw [e, ← setAll_list]
  simp
theorem setAll_size : ∀ (ps : List Tmp) (vs : List Value) (tmps : Array Value), (setAll tmps ps vs).size = tmps.size
  | [], vs, tmps => by simp [setAll]
  | p :: ps, [], tmps => by simp [setAll]
  | p :: ps, v :: vs, tmps => by rw [setAll, setAll_size]; simp
theorem puts_rel {G : Gh} : ∀ {ps : List Tmp} {ys : List OV} {vs : List Value} {tm : Tm} {tmps : Array Value}, RepOL G ys vs → TRel G tm tmps → (∀ p ∈ ps, p < tmps.size) → TRel G (tm.puts ps ys) (setAll tmps ps vs)
  | [], ys, vs, tm, tmps, _, ht, _ => by simpa [setAll, Tm.puts] using ht
  | p :: ps, [], vs, tm, tmps, hv, ht, _ => by
    rw [RepOL] at hv
    subst hv
    simpa [setAll, Tm.puts] using ht
  | p :: ps, y :: ys, vs, tm, tmps, hv, ht, hp => by
    rw [RepOL] at hv
    obtain ⟨v, us, rfl, h1, h2⟩ := hv
    rw [Tm.puts, setAll]
    refine puts_rel h2 ?_ (fun q hq => by rw [Array.size_setIfInBounds]; exact hp q (by simp [hq]))
    intro t z hz
    by_cases e : t = p
    · subst e
      rw [Tm.put_self] at hz
      cases hz
      exact Or.inr ⟨v, by simp [hp t (by simp)], h1⟩
    · rw [Tm.put_ne _ _ e] at hz
      rcases ht t z hz with h | ⟨x, h3, h4⟩
      · exact Or.inl h
      · exact Or.inr ⟨x, by rw [Array.getElem?_setIfInBounds_ne (Ne.symm e)]; exact h3, h4⟩
theorem puts_gs {ps : List Tmp} : ∀ {ys : List OV} {tm : Tm}, (∀ p ∈ ps, p ≠ GS) → (tm.puts ps ys) GS = tm GS := by
  induction ps with
  | nil => intro ys tm _; rfl
  | cons p ps ih =>
    intro ys tm h
    cases ys with
    | nil => rfl
    | cons y ys => rw [Tm.puts, ih fun q hq => h q (by simp [hq]), Tm.put_ne _ _ (Ne.symm (h p (by simp)))]
/-- a block is laid that holds no cells -/
theorem WRel.allocNon {Γ : Ctx} {G : Gh} {σ : Store} {w : World} (h : WRel Γ G σ w) (o : Obj) : WRel Γ G σ (w.alloc o) := by
  have old : ∀ b, b < w.heap.size → (w.alloc o).heap[b]? = w.heap[b]? := fun b hb => by
    show (w.heap.push o)[b]? = _
    rw [Array.getElem?_push_lt hb, Array.getElem?_eq_getElem hb]
  exact {
    mem := fun b i v hm => by
      have h1 := h.mem b i v hm
      obtain ⟨o2, h2, h3⟩ := cells_of_cell h1
      rw [World.cell?_of_block (w := w) (old b (Array.getElem?_eq_some_iff.1 h2).1)]; exact h1
    own := fun k τ r hk => (h.own k τ r hk).imp id fun ⟨β, h1, h2, h3, h4⟩ => ⟨β, h1, h2.of_heap (old β.b h2.lt), h3, h4⟩
    inj := h.inj
    keep := fun b hb hS => (old b (Nat.lt_of_lt_of_le hb h.size)).trans (h.keep b hb hS)
    size := Nat.le_trans h.size (by rw [World.size_alloc]; omega)
    tape := h.tape
    os := h.os
    output := h.output
    g0 := h.g0
    new := h.new
    bound := h.bound
    low := h.low }
theorem WRel.nameY {Γ : Ctx} {G : Gh} {σ : Store} {w : World} (h : WRel Γ G σ w) {k v i : Nat} {β : Blk} (hf : G.μ k (v, i) = none) (hv : Γ.N ≤ v) : WRel Γ (G.name k (v, i) (some β)) σ w := by
  have hle := Gh.name_le G (some β) hf
  have old : ∀ k' τ' r β', σ k' = some (τ', r) → (G.name k (v, i) (some β)).μ k' τ' = some (some β') → G.μ k' τ' = some (some β') := fun k' τ' r β' hk hμ => by
    rcases h.own k' τ' r hk with ⟨h1, _⟩ | ⟨β0, h1, _⟩
    · have := hle.2 _ _ _ h1; rw [hμ] at this; cases this
    · have := hle.2 _ _ _ h1; rw [hμ] at this; cases this; exact h1
  exact {
    mem := h.mem
    own := fun k' τ' r hk => (h.own k' τ' r hk).imp (fun h1 => ⟨hle.2 _ _ _ h1.1, h1.2⟩) fun ⟨β', h1, h2, h3, h4⟩ => ⟨β', hle.2 _ _ _ h1, h2.mono hle, h3, h4⟩
    inj := fun k1 k2 τ1 τ2 β1 β2 r1 r2 a b c d e => h.inj k1 k2 τ1 τ2 β1 β2 r1 r2 a b (old _ _ _ _ a c) (old _ _ _ _ b d) e
    keep := h.keep
    size := h.size
    tape := h.tape
    os := h.os
    output := h.output
    g0 := h.g0.trans hle
    new := h.new
    bound := by
      obtain ⟨n, hn⟩ := h.bound
      refine ⟨max n (v + 1), fun k' v' i' hv' => ?_⟩
      show (if k' = k ∧ (v', i') = (v, i) then _ else _) = _
      rw [if_neg (fun e => by have := congrArg Prod.fst e.2; simp at this; omega)]
      exact hn k' v' i' (by omega)
    low := fun k' v' i' hv' => by
      show (if k' = k ∧ (v', i') = (v, i) then _ else _) = _
      rw [if_neg (fun e => by have := congrArg Prod.fst e.2; simp at this; omega)]
      exact h.low k' v' i' hv' }
/-- the statement is entered -/
theorem enter_any {P : Program} {n : Nat} {C : Cx} {G : Gh} {tm : Tm} {σ : Store} {a : Act} {w : World} (hs : SRel n C G tm σ a w) (fn : FuncId) (ps : Array Tmp) (assign body : Code) :
    ∃ l mark w1 dd, (Instr.enterLoop fn a.tmps ps assign body C.ro).run P w = .ok (l, mark) w1 ∧ w1.heap[l]? = some (.loop { state := .ready, pending := none, fn, tmps := a.tmps, params := ps, assign, body, defers := dd }) ∧ w.heap.size ≤ l ∧
      WRel C.Γ G σ w1 ∧ (∀ b, b < w.heap.size → w1.heap[b]? = w.heap[b]?) ∧ (mark = [] ∨ ∃ D, mark = [{ target := .collected D, args := #[] }] ∧ w.heap.size ≤ D ∧ D ≠ l ∧ w1.heap[D]? = some (.deferred (some []))) := by
  have old : ∀ (w : World) (o : Obj) b, b < w.heap.size → (w.alloc o).heap[b]? = w.heap[b]? := fun w o b hb => by
    show (w.heap.push o)[b]? = _
    rw [Array.getElem?_push_lt hb, Array.getElem?_eq_getElem hb]
  cases hro : C.ro with
  | none =>
    refine ⟨w.heap.size + 1, [{ target := .collected w.heap.size, args := #[] }], _, w.heap.size, run_enterLoop_outer _ _ _ _ _, ?_, Nat.le_succ _, (hs.w.allocNon _).allocNon _, fun b hb => ?_, Or.inr ⟨w.heap.size, rfl, Nat.le_refl _, Nat.ne_of_lt (Nat.lt_succ_self _), ?_⟩⟩
    · have := World.alloc_heap_new (w.alloc (.deferred (some []))) (.loop { state := .ready, pending := none, fn, tmps := a.tmps, params := ps, assign, body, defers := w.heap.size })
      rwa [World.size_alloc] at this
    · rw [old _ _ b (by rw [World.size_alloc]; omega), old _ _ b hb]
    · rw [old _ _ _ (by rw [World.size_alloc]; omega)]; exact World.alloc_heap_new w _
  | some l0 =>
    obtain ⟨r0, h0⟩ := hs.marks.2.2 l0 hro
    exact ⟨_, _, _, _, run_enterLoop_inner (hs.fix l0 _ h0).1 _ _ _ _ _, World.alloc_heap_new w _, Nat.le_refl _, hs.w.allocNon _, fun b hb => old _ _ b hb, Or.inl rfl⟩
/-- the jump that a round leaves -/
def jumpOf : Exit → Option Code
  | .ret => some .ret
  | .exit id => some (.exit id)
  | .goto t => some (.goto t)
  | _ => none
def plainX : Exit → Bool
  | .normal => true
  | .ret => true
  | .exit _ => true
  | .goto _ => true
  | _ => false
theorem jumpOf_none {e : Exit} (h : plainX e = true) (hj : jumpOf e = none) : e = .normal := by
  cases e <;> simp_all [plainX, jumpOf]
/-- what a round owes -/
def RoundQ {X : Type} (ex : Exit) (last : Bool) (I : X → Prop) (S : X → Rows) (e : Exit) (_ : Tm) (σ : Store) : Prop := e = (bif last then ex else .normal) ∧ ∃ x, I x ∧ (stL (S x)).le σ
theorem run_range {P : Program} {a : Act} {w : World} {g : Operand} {l : Nat} {f : FuncId} {vs us : Array Value} (hx : a.eval g = .func (.func f) vs us) (he : Enters P f) :
    (resolve a.eval (rangeCall g l) 0).run P w = .ok { target := .fn (.func f) us, args := vs ++ #[.func (.yield l) #[] #[]] } w ∧
    (invoke (.fn (.func f) us) (vs ++ #[.func (.yield l) #[] #[]])).run P w = .ok (.enter f (vs ++ #[.func (.yield l) #[] #[]] ++ us)) w := by
  obtain ⟨fn, h1, h2, h3⟩ := he
  constructor
  · simp only [resolve, hx, Deferred.ofValue, Sem.run_pure]
    simp [go_sem]
  · simp only [invoke, callFunc, Sem.run_bind, Sem.run_pure, Result.andThen_ok, run_program, h1, h2, h3, Bool.false_eq_true, if_false]
/-- the record, as it is behind j rounds -/
abbrev recAt (fn : FuncId) (tmps : Array Value) (ps : List Tmp) (assign body : Code) (dd : Nat) (ex : Exit) (m j : Nat) : Loop :=
  { state := bif (jumpOf ex).isSome && j == m then .done else .ready, pending := bif (jumpOf ex).isSome && j == m then jumpOf ex else none, fn, tmps, params := ps.toArray, assign, body, defers := dd }
/-- what the statement's rounds turn -/
def rangeYJ (G1 : Gh) (l : Nat) (rc : Nat → Loop) : YJ where
  g := G1
  J j w := w.heap[l]? = some (.loop (rc j))
  D b := b = l
  st _ _ _ h hb := (hb l rfl).trans h
  nc _ _ _ h hb := by subst hb; exact ⟨_, h, rfl⟩
theorem WRel.startY {Γ : Ctx} {G : Gh} {σ : Store} {w : World} (h : WRel Γ G σ w) {l0 : Rows} (hle : (stL l0).le σ) (Y : YJ) (N : Nat) : WRel ⟨w, YBlks Y G l0, G, N⟩ G (stL l0) w := by
  have := h.startW hle N
  exact ⟨this.mem, fun k τ r hk => (this.own k τ r hk).imp id fun ⟨β, e1, e2, e3, e4⟩ => ⟨β, e1, e2, e3, e4.imp id Or.inl⟩, this.inj, fun _ _ _ => rfl, this.size, this.tape, this.os, this.output, this.g0, fun b o v h => Or.inl h, this.bound, this.low⟩
theorem awp_range {X : Type} {P : Program} {n : Nat} {g : Operand} {ps : List Tmp} {assign body : Code} {Q : Exit → Tm → Store → Prop} {tm : Tm} {σ : Store} {y : OV} {f : FuncId} {fi ca : List OV} {ys : List (List OV)}
    (hx : ev tm g = some y) (hf : IsFn y f fi ca) (hseq : SeqW P f fi ca ys) (S : X → Rows) (I : Nat → X → Prop) (x0 : X) (h0 : I 0 x0) (m : Nat) (ex : Exit) (hex : plainX ex = true) (hm : m ≤ ys.length) (hm1 : ex = .normal → m = ys.length) (hm2 : ex ≠ .normal → 0 < m)
    (T : Tm) (hT : T.le tm) (hTg : T GS = none) (hps : (ps.all fun p => Nat.blt p n && !Nat.beq p GS) = true) (hlen : ∀ i, i < m → (ys.getD i []).length = ps.length)
    (hle : (stL (S x0)).le σ) (hnn : ∀ x, ((S x).map (·.1)).Nodup) (hbig : ∀ x, ∀ e ∈ S x, 1000 ≤ e.1)
    (hbody : ∀ i x, i < m → I i x → awp P n assign (fun e tm' σ' => e = .normal ∧ awp P n body (RoundQ ex (i + 1 == m) (I (i + 1)) S) tm' σ') (T.puts ps (ys.getD i [])) (stL (S x)))
    (hq : ∀ x, I m x → Q ex tm ((σ.apply (dels (S x0))).apply (outD (S x)))) : awp P n (.rangeFunc g ps.toArray assign body) Q tm σ := by
  intro C ro G a w hro hs
  subst hro
  obtain ⟨v, hv, hfree⟩ := hs.w.free
  obtain ⟨J, hJd⟩ : ∃ J : Nat → Rows → Prop, J = fun i l => ∃ x, I i x ∧ l = S x := ⟨_, rfl⟩
  have hJm : ∀ i x, I i x → J i (S x) := fun i x hx => by rw [hJd]; exact ⟨x, hx, rfl⟩
  have hJe : ∀ i l, J i l → ∃ x, I i x ∧ l = S x := fun i l hl => by rw [hJd] at hl; exact hl
  have hpl : ∀ p ∈ ps, p < n ∧ p ≠ GS := fun p hp => by
    have := List.all_eq_true.1 hps p hp
    simp only [Bool.and_eq_true, Bool.not_eq_true'] at this
    exact ⟨by simpa using this.1, fun e => by subst e; simp at this⟩
  refine wpIn_rangeFunc fun fn _ => ?_
  obtain ⟨l, mark, w1, dd, he, hl, hlw, hw1, hold, hmk⟩ := enter_any (P := P) hs fn ps.toArray assign body
  obtain ⟨vs, us, hxv, hvs, hus⟩ := hf.rep (ev_rep hs.tm hx)
  let G1 := G.name 0 (v, 0) (some ⟨l, 0, 0⟩)
  have hle1 : G.le G1 := Gh.name_le G _ (hfree 0 0)
  have hμ1 : G1.μ 0 (v, 0) = some (some ⟨l, 0, 0⟩) := Gh.name_self G 0 (v, 0) _
  have hW1 : WRel C.Γ G1 σ w1 := hw1.nameY (hfree 0 0) hv
  let rc := recAt fn a.tmps ps assign body dd ex m
  have hrc : ∀ j, j < m → rc j = { state := .ready, pending := none, fn, tmps := a.tmps, params := ps.toArray, assign, body, defers := dd } := fun j hj => by
    have : (j == m) = false := by simpa using Nat.ne_of_lt hj
    simp [rc, recAt, this]
  obtain ⟨Y, hY⟩ : ∃ Y, Y = rangeYJ G1 l rc := ⟨_, rfl⟩
  have hYJ : ∀ j w, Y.J j w ↔ w.heap[l]? = some (.loop (rc j)) := fun j w => by rw [hY]; exact Iff.rfl
  have hYD : ∀ b, Y.D b ↔ b = l := fun b => by rw [hY]; exact Iff.rfl
  have hYg : Y.g = G1 := by rw [hY]; rfl
  have hround : ∀ i l0, i < m → J i l0 → YieldW P Y 0 (v, 0) i (i + 1) (ys.getD i []) l0 (J (i + 1)) (!((jumpOf ex).isSome && i + 1 == m)) := by
    intro i l0 hi hl0
    obtain ⟨x, hIx, rfl⟩ := hJe _ _ hl0
    intro G2 w2 vs2 N2 β hg2 hβ hJ2 hv2 hw2
    rw [hYg] at hg2
    have hβ' := hg2.2 _ _ _ hμ1
    rw [hβ] at hβ'
    cases hβ'
    have hJ2 := (hYJ _ _).1 hJ2
    rw [hrc i hi] at hJ2
    have hsz : vs2.length = ps.length := by rw [← hlen i hi]; exact hv2.length
    have hy := run_yield (P := P) (args := vs2.toArray) hJ2 (by simp [hsz])
    refine ⟨fn, setAll a.tmps ps vs2, assign, body, ?_, ?_⟩
    · rw [hy, ← setAll_fold]
    refine roundIn_of_wpIn trivial ?_
    let C1 : Cx := ⟨⟨w2, YBlks Y G2 (S x), G2, N2⟩, fun b => if b = l then some (.loop { state := .ready, pending := none, fn, tmps := a.tmps, params := ps.toArray, assign, body, defers := dd }) else none, [], some l, 0, fun _ => False, fun _ h => h.elim, Nat.zero_le _⟩
    have hs2 : SRel n C1 G2 (T.puts ps (ys.getD i [])) (stL (S x)) { tmps := setAll a.tmps ps vs2, defers := [] } w2 := by
      refine ⟨by rw [setAll_size]; exact hs.size, rfl, puts_rel hv2 ((hs.tm.mono (hle1.trans hg2)).le hT) (fun p hp => by rw [hs.size]; exact (hpl p hp).1), hw2, fun b o hb => ?_, ⟨List.nodup_nil, fun d hd => (by cases hd), fun l' hl' => ?_⟩, fun i' Y' hi' => ?_⟩
      · simp only [C1] at hb
        split at hb
        · rename_i e; cases hb; rw [e]; exact ⟨hJ2, rfl⟩
        · cases hb
      · simp only [C1, Option.some.injEq] at hl'
        exact ⟨_, if_pos hl'.symm⟩
      · rw [puts_gs (fun p hp => (hpl p hp).2), hTg] at hi'; cases hi'
    refine wpIn_mono (hbody i x hi hIx C1 (some l) G2 _ w2 rfl hs2) fun e a3 w3 ⟨C3, G3, tm3, σ3, hC3, hs3, he3, hb3⟩ => ?_
    subst he3
    show ∃ w₂, (Instr.beginRound l).run P w3 = .ok () w₂ ∧ body.wpIn (Fence.wide.inRound l) 0 P _ a3 w₂
    have hfl : C3.fix l = some (.loop { state := .ready, pending := none, fn, tmps := a.tmps, params := ps.toArray, assign, body, defers := dd }) := hC3.fix l _ (if_pos rfl)
    have hl3 := (hs3.fix l _ hfl).1
    have hS3 : C3.Γ.S l := by rw [hC3.Γ]; exact Or.inr ((hYD l).2 rfl)
    refine ⟨_, run_beginRound hl3 rfl, ?_⟩
    let C4 : Cx := { C3 with fix := fun b => if b = l then some (.loop { state := .busy, pending := none, fn, tmps := a.tmps, params := ps.toArray, assign, body, defers := dd }) else C3.fix b }
    have hs4 : SRel n C4 G3 tm3 σ3 a3 (w3.putObj l (.loop { state := .busy, pending := none, fn, tmps := a.tmps, params := ps.toArray, assign, body, defers := dd })) := by
      have hgh : ∀ i' Y', tm3 GS = some (OV.gh i' Y') → ∀ b, ¬ Y'.D b := fun i' Y' hi' b hb => by
        have := (hs3.gh i' Y' hi').2.2.2 b hb
        rw [hC3.dD] at this; exact this
      refine ⟨hs3.size, hs3.defers, hs3.tm, hs3.w.putNon hl3 rfl (Or.inr hS3), fun b o hb => ?_, ⟨hs3.marks.1, fun d hd => ?_, fun l' hl' => ?_⟩, fun i' Y' hi' => ⟨Y'.st i' _ _ (hs3.gh i' Y' hi').1 fun b hb => (hgh i' Y' hi' b hb).elim, (hs3.gh i' Y' hi').2.1, fun b o _ hb => hgh i' Y' hi' b hb, (hs3.gh i' Y' hi').2.2.2⟩⟩
      · simp only [C4] at hb
        split at hb
        · rename_i e; cases hb; rw [e]; exact ⟨World.putObj_heap_same (Array.getElem?_eq_some_iff.1 hl3).1, rfl⟩
        · rename_i e; exact ⟨(World.putObj_heap_other e).trans (hs3.fix b o hb).1, (hs3.fix b o hb).2⟩
      · obtain ⟨r, h1, h2, h3⟩ := hs3.marks.2.1 d hd
        refine ⟨r, h1, h2, ?_⟩
        exact (if_neg (fun e => by rw [e, hfl] at h3; cases h3)).trans h3
      · have : C3.ro = some l := hC3.ro
        rw [show C4.ro = C3.ro from rfl, this] at hl'
        cases hl'
        exact ⟨_, if_pos rfl⟩
    refine wpIn_mono (hb3 C4 (some l) G3 a3 _ (show C3.ro = _ from hC3.ro) hs4) fun e a5 w5 ⟨C5, G5, tm5, σ5, hC5, hs5, he5, x5, hx5, hσ5⟩ => ?_
    have hl5 := (hs5.fix l _ (hC5.fix l _ (show C4.fix l = some (.loop { state := .busy, pending := none, fn, tmps := a.tmps, params := ps.toArray, assign, body, defers := dd }) from if_pos rfl))).1
    have hΓ5 : C5.Γ = ⟨w2, YBlks Y G2 (S x), G2, N2⟩ := hC5.Γ.trans hC3.Γ
    have hw5 : WRel ⟨w2, YBlks Y G2 (S x), G2, N2⟩ G5 σ5 w5 := by rw [← hΓ5]; exact hs5.w
    have key : ∀ j, j = jumpOf e → ∃ v w6, (Instr.endRound l j).run P w5 = .ok v w6 ∧ (.returned v : Ending) = .returned (.bool (!((jumpOf ex).isSome && i + 1 == m))) ∧ ∃ l1, J (i + 1) l1 ∧ ∃ G' σ', (stL l1).le σ' ∧ G2.le G' ∧ WRel ⟨w2, YBlks Y G2 (S x), G2, N2⟩ G' σ' w6 ∧ Y.J (i + 1) w6 := by
      intro j hj
      subst hj
      refine ⟨_, _, run_endRound (jumpOf e) hl5, ?_, _, hJm _ _ hx5, G5, σ5, hσ5, hw5.g0, hw5.putNon hl5 rfl (Or.inr (Or.inr ((hYD l).2 rfl))), ?_⟩
      · rw [he5]
        cases hb : i + 1 == m <;> cases hj : jumpOf ex <;> simp [hj] <;> simp [jumpOf]
      · rw [hYJ]
        rw [World.putObj_heap_same (Array.getElem?_eq_some_iff.1 hl5).1, he5]
        cases hb : i + 1 == m <;> cases hj : jumpOf ex <;> simp [rc, recAt, hb, hj] <;> simp [jumpOf]
    have hpx : plainX e = true := by
      rw [he5]
      cases (i + 1 == m)
      · rfl
      · exact hex
    cases e with
    | normal => exact key _ rfl
    | ret => exact key _ rfl
    | exit id => exact key _ rfl
    | goto t => exact key _ rfl
    | panic ch => cases hpx
    | outgrown => cases hpx
  have hF := hseq Y 0 (v, 0) J m _ hm (fun h => hm1 (jumpOf_none hex (by simpa using h))) (fun h => hm2 fun e => by rw [e] at h; cases h) (fun i l hl => by obtain ⟨x, _, rfl⟩ := hJe _ _ hl; exact hnn x) (fun i l hl => by obtain ⟨x, _, rfl⟩ := hJe _ _ hl; exact hbig x) hround _ (hJm _ _ h0)
  obtain ⟨r1, r2⟩ := run_range (P := P) (w := w1) (l := l) hxv hF.1
  refine ⟨l, mark, w1, _, w1, f, _, w1, he, r1, fun _ _ => trivial, r2, fun h => (by cases h), ?_⟩
  have hst : WRel ⟨w1, YBlks Y G1 (S x0), G1, v + 1⟩ G1 (stL (S x0)) w1 := hW1.startY hle Y (v + 1)
  have hlast : rc m = { state := if (jumpOf ex).isSome then .done else .ready, pending := jumpOf ex, fn, tmps := a.tmps, params := ps.toArray, assign, body, defers := dd } := by
    cases hj : jumpOf ex <;> simp [rc, recAt, hj]
  have hJ0 : Y.J 0 w1 := by
    rw [hYJ, hl]
    rcases Nat.eq_zero_or_pos m with h00 | h00
    · have : jumpOf ex = none := by
        cases ex <;> first | rfl | (exact (Nat.lt_irrefl 0 (h00 ▸ hm2 (by simp))).elim)
      subst h00; rw [hlast, this]; rfl
    · rw [hrc 0 h00]
  have hrep : RepOL G1 (fi ++ [.yl 0 (v, 0)] ++ ca) (vs.toList ++ [.func (.yield l) #[] #[]] ++ us.toList) := by
    refine ((hvs.mono hle1).append ?_).append (hus.mono hle1)
    rw [RepOL]
    exact ⟨_, _, rfl, by rw [RepO]; exact ⟨_, hμ1, rfl⟩, by rw [RepOL]⟩
  have hcall := hF.2 G1 w1 _ (v + 1) (by rw [hYg]; exact .refl _) hJ0 hrep hst
  have ea : (vs.toList ++ [Value.func (.yield l) #[] #[]] ++ us.toList).toArray = vs ++ #[.func (.yield l) #[] #[]] ++ us := by simp
  rw [ea] at hcall
  refine (show CallsIn (wideR C.ro) (0 - 1) P f _ w1 _ from callsIn_wide.2 (hcall.mono fun e w2 ⟨⟨x, hx'⟩, l1, hl1, G2, σ2, g1, g2, g3, g4⟩ => ?_))
  obtain ⟨xm, hxm, rfl⟩ := hJe _ _ hl1
  subst hx'
  have g4 := (hYJ _ _).1 g4
  rw [hlast] at g4
  have hkeep : ∀ b o, w1.heap[b]? = some o → o.isCells = false → b ≠ l → (w2.putObj l (.loop { state := .exhausted, pending := jumpOf ex, fn, tmps := a.tmps, params := ps.toArray, assign, body, defers := dd })).heap[b]? = some o := fun b o h1 h2 h3 => by
    refine (World.putObj_heap_other h3).trans ((g3.keep b (Array.getElem?_eq_some_iff.1 h1).1 fun hB => ?_).trans h1)
    rcases hB with ⟨k, τ, r, β, e1, e2, e3⟩ | hB
    · obtain ⟨cs, f4, _⟩ := hst.blk e1 e2
      rw [e3, h1] at f4
      cases f4; cases h2
    · exact h3 ((hYD b).1 hB)
  have hcell : ∀ k τ r β, σ k = some (τ, r) → G1.μ k τ = some (some β) → ¬ Y.D β.b := fun k τ r β h1 h2 hb => by
    obtain ⟨cs, f4, _⟩ := hW1.blk h1 h2
    rw [(hYD _).1 hb, hl] at f4
    cases f4
  have hfm : ∃ fixM : Nat → Option Obj, (∀ b o, fixM b = some o → w.heap.size ≤ b ∧ b ≠ l ∧ w1.heap[b]? = some o ∧ o.isCells = false) ∧ (mark.map (·.target)).Nodup ∧ ∀ d ∈ mark, ∃ r, d.target = .collected r ∧ w.heap.size ≤ r ∧ fixM r = some (.deferred (some [])) := by
    rcases hmk with rfl | ⟨D, rfl, h1, h2, h3⟩
    · exact ⟨fun _ => none, fun b o h => (by cases h), List.nodup_nil, fun d hd => (by cases hd)⟩
    · refine ⟨fun b => if b = D then some (.deferred (some [])) else none, fun b o h => ?_, by simp, fun d hd => ?_⟩
      · simp only at h
        split at h
        · rename_i e; cases h; subst e; exact ⟨h1, h2, h3, rfl⟩
        · cases h
      · simp only [List.mem_singleton] at hd
        subst hd
        exact ⟨D, rfl, h1, if_pos rfl⟩
  obtain ⟨fixM, hM1, hM2, hM3⟩ := hfm
  let C6 : Cx := { C with fix := fun b => match C.fix b with | some o => some o | none => fixM b, defs := mark ++ C.defs }
  have hfo : ∀ b o, C.fix b = some o → C6.fix b = some o := fun b o h => by simp only [C6, h]
  have hfl : ∀ b o, C.fix b = some o → b < w.heap.size := fun b o h => (Array.getElem?_eq_some_iff.1 (hs.fix b o h).1).1
  have hfn : ∀ b o, fixM b = some o → C6.fix b = some o := fun b o h => by
    cases hc : C.fix b with
    | none => simp only [C6, hc]; exact h
    | some o' => have := hfl b o' hc; have := (hM1 b o h).1; omega
  have hfc : ∀ b o, C6.fix b = some o → C.fix b = some o ∨ fixM b = some o := fun b o h => by
    cases hc : C.fix b with
    | none => simp only [C6, hc] at h; exact Or.inr h
    | some o' => simp only [C6, hc] at h; exact Or.inl h
  have hle6 : C.le C6 := ⟨rfl, rfl, rfl, rfl, hfo⟩
  have hold' : ∀ b o, w.heap[b]? = some o → o.isCells = false → b ≠ l ∧ w1.heap[b]? = some o := fun b o h _ => by
    have := (Array.getElem?_eq_some_iff.1 h).1
    exact ⟨by omega, (hold b this).trans h⟩
  have hs6 : SRel n C6 G2 tm ((σ.apply (dels (S x0))).apply (outD (S xm))) { tmps := a.tmps, defers := mark ++ a.defers } (w2.putObj l (.loop { state := .exhausted, pending := jumpOf ex, fn, tmps := a.tmps, params := ps.toArray, assign, body, defers := dd })) := by
    refine ⟨hs.size, by show mark ++ a.defers = mark ++ C.defs; rw [hs.defers], hs.tm.mono (hle1.trans g2), ?_, fun b o hb => ?_, ⟨?_, fun d hd => ?_, fun l' hl' => ?_⟩, fun i' Y' hi' => ?_⟩
    · refine (hW1.backD hle g3 (Nat.le_succ_of_le hv) (fun k τ r hr => ?_) (fun b hb => Or.inl ?_) (fun k τ r β _ h1 h2 => hcell k τ r β h1 h2)).putNon g4 rfl (Or.inl (Nat.le_trans hs.w.size hlw))
      · exact behind_out (hnn xm) g1 hr
      · rw [(hYD b).1 hb]; exact Nat.le_trans hs.w.size hlw
    · rcases hfc b o hb with hb | hb
      · obtain ⟨e1, e2⟩ := hs.fix b o hb
        obtain ⟨e3, e4⟩ := hold' b o e1 e2
        exact ⟨hkeep b o e4 e2 e3, e2⟩
      · obtain ⟨e1, e2, e3, e4⟩ := hM1 b o hb
        exact ⟨hkeep b o e3 e4 e2, e4⟩
    · show ((mark ++ C.defs).map (·.target)).Nodup
      rw [List.map_append, List.nodup_append]
      refine ⟨hM2, hs.marks.1, fun t1 h1 t2 h2 e => ?_⟩
      obtain ⟨d1, e1, rfl⟩ := List.mem_map.1 h1
      obtain ⟨d2, e2, rfl⟩ := List.mem_map.1 h2
      obtain ⟨r1, f1, f2, f3⟩ := hM3 d1 e1
      obtain ⟨r2, f4, f5, f6⟩ := hs.marks.2.1 d2 e2
      rw [f1, f4] at e
      cases e
      have := hfl _ _ f6; omega
    · rcases List.mem_append.1 hd with hd | hd
      · obtain ⟨r, f1, f2, f3⟩ := hM3 d hd
        exact ⟨r, f1, Nat.le_trans C.bok (Nat.le_trans hs.w.size f2), hfn _ _ f3⟩
      · obtain ⟨r, f1, f2, f3⟩ := hs.marks.2.1 d hd
        exact ⟨r, f1, f2, hfo _ _ f3⟩
    · obtain ⟨r, hr⟩ := hs.marks.2.2 l' hl'
      exact ⟨r, hfo _ _ hr⟩
    · obtain ⟨e1, e2, e3, e4⟩ := hs.gh i' Y' hi'
      refine ⟨Y'.st i' _ _ e1 fun b hb => ?_, e2.trans (hle1.trans g2), fun b o hb hD => ?_, e4⟩
      · obtain ⟨o, f1, f2⟩ := Y'.nc _ _ b e1 hb
        obtain ⟨f3, f4⟩ := hold' b o f1 f2
        exact (hkeep b o f4 f2 f3).trans f1.symm
      · rcases hfc b o hb with hb | hb
        · exact e3 b o hb hD
        · obtain ⟨o', f1, f2⟩ := Y'.nc _ _ b e1 hD
          have := (Array.getElem?_eq_some_iff.1 f1).1
          have := (hM1 b o hb).1
          omega
  refine ⟨_, _, run_endLoop g4 (by dsimp only; split <;> simp), ?_⟩
  have hL : Lift n C Q ex { tmps := a.tmps, defers := mark ++ a.defers } _ := ⟨C6, G2, tm, _, hle6, hs6, hq xm hxm⟩
  cases ex with
  | normal => exact hL
  | ret => exact wpIn_ret hL
  | exit id => exact wpIn_exit hL
  | goto t => exact wpIn_goto hL
  | panic ch => cases hex
  | outgrown => cases hex
/-- nothing yet in a slice: it is the call's own -/
theorem awp_own0 {P : Program} {n : Nat} {c : Code} {Q : Exit → Tm → Store → Prop} {tm : Tm} {σ : Store} {d : Nat} (k s : Nat) (ht : tm d = some (.d (.c (.slice none 0 0)))) (h : ∀ τ, awp P n c Q (tm.put d (.os k τ s 0)) (σ.put k (τ, ⟨s, []⟩))) : awp P n c Q tm σ := fun C ro G a w hro hs => by
  obtain ⟨v, hv, hf⟩ := hs.w.free
  have hle := Gh.name_le G none (hf k 0)
  refine h (v, 0) C ro (G.name k (v, 0) none) a w hro ⟨hs.size, hs.defers, fun t y hy => ?_, hs.w.phantom k hv (hf k 0) s, hs.fix, hs.marks, fun i Y hi => ?_⟩
  · by_cases e : t = d
    · subst e
      rw [Tm.put_self] at hy
      cases hy
      rcases hs.tm t _ ht with ⟨i, Y, h1⟩ | ⟨x, h1, h2⟩
      · cases h1
      · refine Or.inr ⟨x, h1, ?_⟩
        rw [RepO, Rep] at h2
        rw [RepO]
        exact Or.inr ⟨Gh.name_self _ _ _ _, h2.1, rfl⟩
    · rw [Tm.put_ne _ _ e] at hy
      exact (hs.tm.mono hle) t y hy
  · by_cases e : GS = d
    · rw [← e, Tm.put_self] at hi; cases hi
    · rw [Tm.put_ne _ _ e] at hi
      obtain ⟨h1, h2, h3⟩ := hs.gh i Y hi
      exact ⟨h1, h2.trans hle, h3⟩
/-! ### a scope that nothing jumps out of -/
section
variable {P : Program} {b : Frame} {a : Act} {k : List Item} {cs : List Frame} {w : World}
theorem stepR_scope {c : Code} : step P (lone (b.atR a (.code (.scope c) :: k)) cs w) = .next (lone (b.atR a (.code c :: .inScope c :: k)) cs w) :=
  step_lone_go (by simp [stepG, stepG.exec, Frame.atR])
theorem stepR_inScope {c : Code} : step P (lone (b.atR a (.inScope c :: k)) cs w) = .next (lone (b.atR a k) cs w) :=
  step_lone_go (by simp [stepG, stepG.exec, Frame.atR])
end
theorem wpIn_scope {F : Fence} {n : Nat} {P : Program} {Q : Exit → Act → World → Prop} {a : Act} {w : World} {c : Code} (h : c.wpIn F n P (Exit.noGoto Q) a w) : (Code.scope c).wpIn F n P Q a w := by
  intro b k cs hro hb hr
  have h0 : (lone (b.atR a (.code (.scope c) :: k)) cs w).fenced P F := fenced_calm hb hr rfl
  obtain ⟨e, a₁, w₁, hq, harr⟩ := h b (.inScope c :: k) cs hro hb hr
  cases e with
  | normal => exact ⟨.normal, a₁, w₁, hq, .head h0 stepR_scope (StepsIn.trans harr (.one (fenced_calm hb hr rfl) stepR_inScope))⟩
  | exit id' =>
    have hx : exitTo id' (.inScope c :: k) = exitTo id' k := by simp [exitTo]
    exact ⟨.exit id', a₁, w₁, hq, fun k' hk => .head h0 stepR_scope (harr.1 k' (by rw [hx]; exact hk)),
      fun hr' hk => let ⟨k₁, h1, h2⟩ := harr.2 hr' (by rw [hx]; exact hk); ⟨k₁, h1, .head h0 stepR_scope h2⟩⟩
  | goto l => exact hq.elim
  | ret => exact ⟨_, a₁, w₁, hq, .of_steps (.one h0 stepR_scope) harr⟩
  | panic ch => exact ⟨_, a₁, w₁, hq, .of_steps (.one h0 stepR_scope) harr⟩
  | outgrown => exact ⟨_, a₁, w₁, hq, .of_steps (.one h0 stepR_scope) harr⟩
def NoGoto (Q : Exit → Tm → Store → Prop) : Exit → Tm → Store → Prop
  | .goto _, _, _ => False
  | e, tm, σ => Q e tm σ
theorem awp_scope {P : Program} {n : Nat} {c : Code} {Q : Exit → Tm → Store → Prop} {tm : Tm} {σ : Store} (h : awp P n c (NoGoto Q) tm σ) : awp P n (.scope c) Q tm σ := fun C ro G a w hro hs =>
  wpIn_scope (wpIn_mono (h C ro G a w hro hs) fun e a w ⟨C', G, tm, σ, h0, h1, h2⟩ => by
    cases e <;> first | exact h2.elim | exact ⟨C', G, tm, σ, h0, h1, h2⟩)
theorem ng_n {Q : Exit → Tm → Store → Prop} {tm : Tm} {σ : Store} (h : Q .normal tm σ) : NoGoto Q .normal tm σ := h
end Go.Proofs.YtgeaaegkcbjhlaaGreat
/- slices.AppendSeq, Collect, SortedFunc at pairs; 'pairs', in plain data. -/
set_option maxRecDepth 100000
set_option linter.unusedVariables false
set_option linter.unusedSimpArgs false
namespace Go.Proofs.YtgeaaegkcbjhlaaGreat
open Go.RowKit
def pairO' (p : Int × Int) : List OV := [.int .i64 p.1, .int .i64 p.2]
/-- what an iterator of pairs gives -/
def pairYs (l : List (Int × Int)) : List (List OV) := l.map fun p => [.ag (pairO' p)]
theorem pairYs_get (l : List (Int × Int)) {i : Nat} (h : i < l.length) : (pairYs l).getD i [] = [.ag (pairO' (l.getD i default))] := by
  unfold pairYs
  rw [List.getD_eq_getElem?_getD, List.getElem?_map, List.getD_eq_getElem?_getD, List.getElem?_eq_getElem h]
  rfl
theorem take_get' {α : Type} (l : List α) (d : α) (k : Nat) (h : k < l.length) : l.take (k + 1) = l.take k ++ [l.getD k d] := by
  rw [List.take_succ_eq_append_getElem h, List.getD_eq_getElem?_getD, List.getElem?_eq_getElem h]; rfl
theorem LeafR.pairs' (l : List (Int × Int)) : LeafR (l.map pairO') := LeafR.map l fun a y hy => by
  simp only [pairO', List.mem_cons, List.not_mem_nil, or_false] at hy
  rcases hy with rfl | rfl <;> rfl
set_option maxHeartbeats 4000000 in
theorem appendSeq_p {y : OV} {f : FuncId} {fi ca : List OV} (hf : IsFn y f fi ca) (l : List (Int × Int)) (hl : l.length ≤ 1073741824) (hs : SeqW E.P f fi ca (pairYs l)) :
    Own E.P 63 [.d (.c (.slice none 0 0)), y] 2 (l.map pairO') := by
  have k2 : KeyOf 2 1002 := ⟨trivial⟩
  have k11 : KeyOf 11 1011 := ⟨trivial⟩
  have k9 : KeyOf 5 1005 := ⟨trivial⟩
  refine fn_of_awp Tryz.func63 (by decide) rfl Tryz.ntmps63 (Nat.le_of_ble_eq_true rfl) rfl ?_
  refine awp_own0 (d := 0) 1011 2 rfl fun τ => ?_
  refine awp_seq ?_
  (refine ao_region ?_ (fun _ => ?_); exact rfl)
  (apply S_boxK; assumption; exact rfl; exact rfl; exact rfl)
  refine q51 ?_; refine ao_nil ?_; refine then_n ?_
  iterate 2 refine awp_seq ?_
  (refine ao_region ?_ (fun _ => ?_); exact rfl)
  refine q11 ?_; refine ao_nil ?_; refine then_n ?_; refine awp_block ?_
  rotate_left
  rename_i v0 _
  refine awp_range (X := Nat × Stamp) rfl hf hs (fun p => [(1002, ((v0, 0), ⟨1, [[.os 1011 p.2 2 p.1]]⟩)), (1011, (p.2, ⟨2, (l.take p.1).map pairO'⟩))]) (fun i p => p.1 = i ∧ i ≤ l.length) (0, τ) ⟨rfl, Nat.zero_le _⟩ l.length .normal rfl (by simp [pairYs]) (fun _ => by simp [pairYs]) (fun h => (h rfl).elim)
    (tmL [(2, .lo 1002 (v0, 0) 1 0 0)]) (by repeat' (first | exact le_nil _ | exact sle_nil _ | refine le_cons rfl ?_ | refine sle_cons rfl ?_)) rfl (by decide) (fun i hi => by rw [pairYs_get _ hi]; rfl) (by repeat' (first | exact le_nil _ | exact sle_nil _ | refine le_cons rfl ?_ | refine sle_cons rfl ?_)) (fun p => by simp) (fun p => by simp) ?_ ?_
  · rintro i ⟨j, τ'⟩ hi ⟨rfl, hj⟩
    dsimp only at hi hj ⊢
    rw [pairYs_get _ hi]
    have hlen : (l.take j).length = j := by simp; omega
    (refine ao_region ?_ (fun _ => ?_); exact rfl)
    (apply S_allocK; assumption; exact rfl)
    refine q15 ?_; refine ao_nil ?_
    rotate_left
    refine ⟨rfl, ?_⟩
    have hleaf := LeafR.pairs'
    refine awp_block ?_
    (refine ao_region ?_ (fun _ => ?_); exact rfl)
    refine q16 ?_; refine q14 ?_
    (apply S_buildSlice; exact rfl; exact rfl; exact rfl; decide; decide; decide; exact rfl; exact rfl)
    refine q39 ?_; refine q15 ?_; refine ao_nil ?_; refine blk_n ?_
    rotate_left
    rename_i v
    refine ⟨by cases (j + 1 == l.length) <;> rfl, (j + 1, (v, 3)), ⟨rfl, by omega⟩, sle_cons' rfl ?_ (sle_cons' rfl ?_ (sle_nil _))⟩
    · refine congrArg (fun n => [[OV.os 1011 (v, 3) 2 n]]) ?_
      show (List.map pairO' (List.take j l)).length + 1 = j + 1
      rw [List.length_map, hlen]
    · rw [take_get' l default j hi, List.map_append]; rfl
  · rintro ⟨j, τ'⟩ ⟨rfl, hj⟩
    dsimp only
    refine blk_n ?_; refine then_n ?_; refine awp_seq ?_
    (refine ao_region ?_ (fun _ => ?_); exact rfl)
    refine q16 ?_
    (apply S_ren; exact rfl; exact rfl)
    refine ao_nil ?_; refine then_n ?_; refine awp_ret ?_
    rotate_left
    refine own_done (d := 4) rfl rfl ?_ ?_
    · rw [List.take_length]
    · simp
end Go.Proofs.YtgeaaegkcbjhlaaGreat
/-
  DERIVED: THE SHELF's CONTRACTS AT THIS DUMP, IN PLAIN WORDS (tools/lay-plain.mjs out of 'TryzShelf.lean', which tools/lay-shelf.mjs wrote): THE SAME DECLARATIONS UNDER THE SAME NAMES: 'import', 'namespace', 'open', 'def', 'theorem' AND NOTHING ELSE: no command of the shelf's: FOR A HAND-IN. Each laying: the table of numbers ('.._ren') and one theorem, a field a fact of the dump's own or the kernel's comparison; each contract: ONE APPLICATION.
-/
namespace Go.Proofs
open Go.Shelf
def Tryz.lays128_ren : Go.Shelf.Ren := ⟨fun | 128 => 78 | n => n, fun | 51 => 35 | 3 => 3 | 4 => 4 | 46 => 82 | 5 => 5 | 9 => 9 | n => n, fun | n => n⟩
theorem Tryz.lays128 : Go.Proofs.Lays.n128 Tryz.prog Tryz.lays128_ren := {
  mixed := by kernel_rfl
  f128 := Tryz.func78.trans (congrArg some (by kernel_rfl))
  t3 := Tryz.underlying3
  a3 := Tryz.isAgg3
  z3 := Tryz.sizeOf3
  v3 := Tryz.zeroValue3
  t4 := Tryz.underlying4
  a4 := Tryz.isAgg4
  z4 := Tryz.sizeOf4
  v4 := Tryz.zeroValue4
  t5 := Tryz.underlying5
  a5 := Tryz.isAgg5
  z5 := Tryz.sizeOf5
  v5 := Tryz.zeroValue5
  t9 := Tryz.underlying9
  a9 := Tryz.isAgg9
  z9 := Tryz.sizeOf9
  v9 := Tryz.zeroValue9
  t46 := Tryz.underlying82
  a46 := Tryz.isAgg82
  z46 := Tryz.sizeOf82
  v46 := Tryz.zeroValue82
  t51 := Tryz.underlying35
  a51 := Tryz.isAgg35
  z51 := Tryz.sizeOf35
  v51 := Tryz.zeroValue35 }
/-- bits.Len32: "Len32 returns the minimum number of bits required to represent x; the result is 0 for x == 0.": IT RETURNS 'Lib.bitLen x'; the world is as it was. ('h0', 'h1': x is a uint32.) (LAID: no walk: one application.) -/
theorem Tryz.bits_Len32 (x : Int) (w : World) (h0 : 0 ≤ x) (h1 : x ≤ 4294967295) :
    Calls Tryz.prog 78 #[.int .u32 x] w fun e w' => e = .returned (.int .i64 (Lib.bitLen x.toNat)) ∧ w' = w := Any.bits_Len32 Tryz.lays128 x w h0 h1
def Tryz.lays125_ren : Go.Shelf.Ren := ⟨fun | 125 => 65 | 128 => 78 | 129 => 79 | n => n, fun | 46 => 82 | 3 => 3 | 51 => 35 | 53 => 97 | 4 => 4 | 5 => 5 | 9 => 9 | n => n, fun | n => n⟩
theorem Tryz.lays125 : Go.Proofs.Lays.n125 Tryz.prog Tryz.lays125_ren := {
  mixed := by kernel_rfl
  f125 := Tryz.func65.trans (congrArg some (by kernel_rfl))
  f128 := Tryz.func78.trans (congrArg some (by kernel_rfl))
  f129 := Tryz.func79.trans (congrArg some (by kernel_rfl))
  t3 := Tryz.underlying3
  a3 := Tryz.isAgg3
  z3 := Tryz.sizeOf3
  v3 := Tryz.zeroValue3
  t4 := Tryz.underlying4
  a4 := Tryz.isAgg4
  z4 := Tryz.sizeOf4
  v4 := Tryz.zeroValue4
  t5 := Tryz.underlying5
  a5 := Tryz.isAgg5
  z5 := Tryz.sizeOf5
  v5 := Tryz.zeroValue5
  t9 := Tryz.underlying9
  a9 := Tryz.isAgg9
  z9 := Tryz.sizeOf9
  v9 := Tryz.zeroValue9
  t46 := Tryz.underlying82
  a46 := Tryz.isAgg82
  z46 := Tryz.sizeOf82
  v46 := Tryz.zeroValue82
  t51 := Tryz.underlying35
  a51 := Tryz.isAgg35
  z51 := Tryz.sizeOf35
  v51 := Tryz.zeroValue35
  t53 := Tryz.underlying97
  a53 := Tryz.isAgg97
  z53 := Tryz.sizeOf97
  v53 := Tryz.zeroValue97 }
/-- bits.Len: "Len returns the minimum number of bits required to represent x; the result is 0 for x == 0.": IT RETURNS 'Lib.bitLen x'; the world is as it was. (A uint has 64 bits in the model.) ITS CALLEE bits.Len64 IS MET BY ITS OWN CONTRACT OFF THE SHELF (lay that first). (LAID: no walk: one application.) -/
theorem Tryz.bits_Len (x : Int) (w : World) (h0 : 0 ≤ x) (h1 : x ≤ 18446744073709551615) :
    Calls Tryz.prog 65 #[.int .u64 x] w fun e w' => e = .returned (.int .i64 (Lib.bitLen x.toNat)) ∧ w' = w := Any.bits_Len Tryz.lays125 x w h0 h1
def Tryz.lays215_ren : Go.Shelf.Ren := ⟨fun | 215 => 110 | n => n, fun | 3 => 3 | 4 => 4 | n => n, fun | n => n⟩
theorem Tryz.lays215 : Go.Proofs.Lays.n215 Tryz.prog Tryz.lays215_ren := {
  mixed := by kernel_rfl
  f215 := Tryz.func110.trans (congrArg some (by kernel_rfl))
  t3 := Tryz.underlying3
  a3 := Tryz.isAgg3
  z3 := Tryz.sizeOf3
  v3 := Tryz.zeroValue3
  t4 := Tryz.underlying4
  a4 := Tryz.isAgg4
  z4 := Tryz.sizeOf4
  v4 := Tryz.zeroValue4 }
open Go.RowKit in
/-- cmp.isNaN at int: 'x != x': false. (LAID: no walk: one application.) -/
theorem Tryz.cmp_isNaN_int (x : Int) (w : World) :
    Calls Tryz.prog 110 #[.int .i64 x] w fun e w' => e = .returned (.bool false) ∧ w' = w := Any.cmp_isNaN_int Tryz.lays215 x w
def Tryz.lays129_ren : Go.Shelf.Ren := ⟨fun | 129 => 79 | n => n, fun | 53 => 97 | 3 => 3 | 4 => 4 | 46 => 82 | 5 => 5 | 9 => 9 | n => n, fun | n => n⟩
theorem Tryz.lays129 : Go.Proofs.Lays.n129 Tryz.prog Tryz.lays129_ren := {
  mixed := by kernel_rfl
  f129 := Tryz.func79.trans (congrArg some (by kernel_rfl))
  t3 := Tryz.underlying3
  a3 := Tryz.isAgg3
  z3 := Tryz.sizeOf3
  v3 := Tryz.zeroValue3
  t4 := Tryz.underlying4
  a4 := Tryz.isAgg4
  z4 := Tryz.sizeOf4
  v4 := Tryz.zeroValue4
  t5 := Tryz.underlying5
  a5 := Tryz.isAgg5
  z5 := Tryz.sizeOf5
  v5 := Tryz.zeroValue5
  t9 := Tryz.underlying9
  a9 := Tryz.isAgg9
  z9 := Tryz.sizeOf9
  v9 := Tryz.zeroValue9
  t46 := Tryz.underlying82
  a46 := Tryz.isAgg82
  z46 := Tryz.sizeOf82
  v46 := Tryz.zeroValue82
  t53 := Tryz.underlying97
  a53 := Tryz.isAgg97
  z53 := Tryz.sizeOf97
  v53 := Tryz.zeroValue97 }
/-- bits.Len64: "Len64 returns the minimum number of bits required to represent x; the result is 0 for x == 0.": IT RETURNS 'Lib.bitLen x'; the world is as it was. ('h0', 'h1': x is a uint64.) (LAID: no walk: one application.) -/
theorem Tryz.bits_Len64 (x : Int) (w : World) (h0 : 0 ≤ x) (h1 : x ≤ 18446744073709551615) :
    Calls Tryz.prog 79 #[.int .u64 x] w fun e w' => e = .returned (.int .i64 (Lib.bitLen x.toNat)) ∧ w' = w := Any.bits_Len64 Tryz.lays129 x w h0 h1
def Tryz.lays189_ren : Go.Shelf.Ren := ⟨fun | 189 => 61 | 125 => 65 | 257 => 69 | 128 => 78 | 129 => 79 | 294 => 89 | 295 => 90 | 296 => 91 | 297 => 92 | 298 => 93 | 299 => 94 | 216 => 95 | 300 => 96 | 301 => 97 | 328 => 107 | 329 => 99 | 330 => 100 | 331 => 108 | 332 => 109 | 215 => 110 | 343 => 113 | n => n, fun | 28 => 23 | 3 => 3 | 46 => 82 | 0 => 0 | 51 => 35 | 53 => 97 | 4 => 4 | 183 => 89 | 182 => 88 | 131 => 93 | 5 => 5 | 9 => 9 | 218 => 110 | 222 => 114 | 228 => 120 | 229 => 121 | n => n, fun | n => n⟩
theorem Tryz.lays189 : Go.Proofs.Lays.n189 Tryz.prog Tryz.lays189_ren := {
  mixed := by kernel_rfl
  f125 := Tryz.func65.trans (congrArg some (by kernel_rfl))
  f128 := Tryz.func78.trans (congrArg some (by kernel_rfl))
  f129 := Tryz.func79.trans (congrArg some (by kernel_rfl))
  f189 := Tryz.func61.trans (congrArg some (by kernel_rfl))
  f215 := Tryz.func110.trans (congrArg some (by kernel_rfl))
  f216 := Tryz.func95.trans (congrArg some (by kernel_rfl))
  f257 := Tryz.func69.trans (congrArg some (by kernel_rfl))
  f294 := Tryz.func89.trans (congrArg some (by kernel_rfl))
  f295 := Tryz.func90.trans (congrArg some (by kernel_rfl))
  f296 := Tryz.func91.trans (congrArg some (by kernel_rfl))
  f297 := Tryz.func92.trans (congrArg some (by kernel_rfl))
  f298 := Tryz.func93.trans (congrArg some (by kernel_rfl))
  f299 := Tryz.func94.trans (congrArg some (by kernel_rfl))
  f300 := Tryz.func96.trans (congrArg some (by kernel_rfl))
  f301 := Tryz.func97.trans (congrArg some (by kernel_rfl))
  f328 := Tryz.func107.trans (congrArg some (by kernel_rfl))
  f329 := Tryz.func99.trans (congrArg some (by kernel_rfl))
  f330 := Tryz.func100.trans (congrArg some (by kernel_rfl))
  f331 := Tryz.func108.trans (congrArg some (by kernel_rfl))
  f332 := Tryz.func109.trans (congrArg some (by kernel_rfl))
  f343 := Tryz.func113.trans (congrArg some (by kernel_rfl))
  t0 := Tryz.underlying0
  a0 := Tryz.isAgg0
  z0 := Tryz.sizeOf0
  v0 := Tryz.zeroValue0
  t3 := Tryz.underlying3
  a3 := Tryz.isAgg3
  z3 := Tryz.sizeOf3
  v3 := Tryz.zeroValue3
  t4 := Tryz.underlying4
  a4 := Tryz.isAgg4
  z4 := Tryz.sizeOf4
  v4 := Tryz.zeroValue4
  t5 := Tryz.underlying5
  a5 := Tryz.isAgg5
  z5 := Tryz.sizeOf5
  v5 := Tryz.zeroValue5
  t9 := Tryz.underlying9
  a9 := Tryz.isAgg9
  z9 := Tryz.sizeOf9
  v9 := Tryz.zeroValue9
  t28 := Tryz.underlying23
  a28 := Tryz.isAgg23
  z28 := Tryz.sizeOf23
  v28 := Tryz.zeroValue23
  t46 := Tryz.underlying82
  a46 := Tryz.isAgg82
  z46 := Tryz.sizeOf82
  v46 := Tryz.zeroValue82
  t51 := Tryz.underlying35
  a51 := Tryz.isAgg35
  z51 := Tryz.sizeOf35
  v51 := Tryz.zeroValue35
  t53 := Tryz.underlying97
  a53 := Tryz.isAgg97
  z53 := Tryz.sizeOf97
  v53 := Tryz.zeroValue97
  t131 := Tryz.underlying93
  a131 := Tryz.isAgg93
  z131 := Tryz.sizeOf93
  v131 := Tryz.zeroValue93
  t182 := Tryz.underlying88
  a182 := Tryz.isAgg88
  z182 := Tryz.sizeOf88
  v182 := Tryz.zeroValue88
  t183 := Tryz.underlying89
  a183 := Tryz.isAgg89
  z183 := Tryz.sizeOf89
  v183 := Tryz.zeroValue89
  t218 := Tryz.underlying110
  a218 := Tryz.isAgg110
  z218 := Tryz.sizeOf110
  v218 := Tryz.zeroValue110
  t222 := Tryz.underlying114
  a222 := Tryz.isAgg114
  z222 := Tryz.sizeOf114
  v222 := Tryz.zeroValue114
  t228 := Tryz.underlying120
  a228 := Tryz.isAgg120
  z228 := Tryz.sizeOf120
  v228 := Tryz.zeroValue120
  t229 := Tryz.underlying121
  a229 := Tryz.isAgg121
  z229 := Tryz.sizeOf121
  v229 := Tryz.zeroValue121 }
open Go.Sort Go.RowKit in
theorem Tryz.slices_Sort_int (blk off cap : Nat) (zs : List Int) (w : World) (hH : Holds (Value.int .i64) w blk off zs.toArray) (hblk : blk < w.heap.size) (hsz : zs.length < 4611686018427387904) :
    Calls Tryz.prog 61 #[.slice (some ⟨blk, off, none⟩) zs.length cap] w fun e w' =>
      e = .returned (.tuple #[]) ∧ ∃ n os, w' = grow (putRow (Value.int .i64) (Sort.ahead w n) blk off (zs.mergeSort fun x y => decide (x ≤ y)).toArray) os := Any.slices_Sort_int Tryz.lays189 blk off cap zs w hH hblk hsz
def Tryz.lays111_ren : Go.Shelf.Ren := ⟨fun | 111 => 48 | n => n, fun | 28 => 23 | 3 => 3 | 4 => 4 | 0 => 0 | n => n, fun | n => n⟩
theorem Tryz.lays111 : Go.Proofs.Lays.n111 Tryz.prog Tryz.lays111_ren := {
  mixed := by kernel_rfl
  f111 := Tryz.func48.trans (congrArg some (by kernel_rfl))
  t0 := Tryz.underlying0
  a0 := Tryz.isAgg0
  z0 := Tryz.sizeOf0
  v0 := Tryz.zeroValue0
  t3 := Tryz.underlying3
  a3 := Tryz.isAgg3
  z3 := Tryz.sizeOf3
  v3 := Tryz.zeroValue3
  t4 := Tryz.underlying4
  a4 := Tryz.isAgg4
  z4 := Tryz.sizeOf4
  v4 := Tryz.zeroValue4
  t28 := Tryz.underlying23
  a28 := Tryz.isAgg23
  z28 := Tryz.sizeOf23
  v28 := Tryz.zeroValue23 }
open Go.RowKit Go.Lib in
/-- slices.Equal at []int: "Equal reports whether two slices are equal: the same length and all elements equal. If the lengths are different, Equal returns false. Otherwise, the elements are compared in increasing index order, and the comparison stops at the first unequal pair. Empty and nil slices are considered equal.": IT RETURNS WHETHER THE TWO LISTS OF ELEMENTS ARE ONE; the world is as it was but for the count of draws (the test 's1[i] != s2[i]' has two reads, whose order the model draws, once a round). 'xs', 'ys': what the cells behind the two addresses hold (the spare capacity too, if you have it); 'xs.take n', 'ys.take m': the elements. THE TWO SLICES MAY OVERLAP. (LAID: no walk: one application.) -/
theorem Tryz.slices_Equal_int (b1 o1 n c b2 o2 m d : Nat) (xs ys : List Int) (w : World) (hx : n ≤ xs.length) (hy : m ≤ ys.length) (hbig : n ≤ 9223372036854775807) (hbig2 : m ≤ 9223372036854775807) (hc1 : ∀ j, j < xs.length → w.cell? ⟨b1, o1 + j, none⟩ = some (.int .i64 (xs.getD j 0))) (hc2 : ∀ j, j < ys.length → w.cell? ⟨b2, o2 + j, none⟩ = some (.int .i64 (ys.getD j 0))) :
    Calls Tryz.prog 48 #[.slice (some ⟨b1, o1, none⟩) n c, .slice (some ⟨b2, o2, none⟩) m d] w fun e w' => e = .returned (.bool (xs.take n == ys.take m)) ∧ ∃ q, w' = w.drewN q := Any.slices_Equal_int Tryz.lays111 b1 o1 n c b2 o2 m d xs ys w hx hy hbig hbig2 hc1 hc2
open Go.RowKit Go.Lib in
/-- The same where the first is of length 0 (a nil one too): no cell is asked for. (LAID: no walk: one application.) -/
theorem Tryz.slices_Equal_int_empty (a1 a2 : Option Addr) (c m d : Nat) (w : World) (hbig2 : m ≤ 9223372036854775807) :
    Calls Tryz.prog 48 #[.slice a1 0 c, .slice a2 m d] w fun e w' => e = .returned (.bool (decide (m = 0))) ∧ w' = w := Any.slices_Equal_int_empty Tryz.lays111 a1 a2 c m d w hbig2
def Tryz.laysNm237_ren : Go.Shelf.Ren := ⟨fun | 37 => 110 | n => n, fun | 3 => 3 | 4 => 4 | n => n, fun | n => n⟩
theorem Tryz.laysNm237 : Go.Proofs.Lays2.n37 Tryz.prog Tryz.laysNm237_ren := {
  mixed := by kernel_rfl
  f37 := Tryz.func110.trans (congrArg some (by kernel_rfl))
  t3 := Tryz.underlying3
  a3 := Tryz.isAgg3
  z3 := Tryz.sizeOf3
  v3 := Tryz.zeroValue3
  t4 := Tryz.underlying4
  a4 := Tryz.isAgg4
  z4 := Tryz.sizeOf4
  v4 := Tryz.zeroValue4 }
open Go.RowKit Go.Lib in
/-- cmp.isNaN[int]: 'x != x': false. (LAID: no walk: one application.) -/
theorem Tryz.cmp_isNaN_int2 (x : Int) (w : World) :
    Calls Tryz.prog 110 #[.int .i64 x] w fun e w' => e = .returned (.bool false) ∧ w' = w := Any.cmp_isNaN_int2 Tryz.laysNm237 x w
def Tryz.laysNm231_ren : Go.Shelf.Ren := ⟨fun | 31 => 95 | 37 => 110 | n => n, fun | 3 => 3 | 4 => 4 | n => n, fun | n => n⟩
theorem Tryz.laysNm231 : Go.Proofs.Lays2.n31 Tryz.prog Tryz.laysNm231_ren := {
  mixed := by kernel_rfl
  f31 := Tryz.func95.trans (congrArg some (by kernel_rfl))
  f37 := Tryz.func110.trans (congrArg some (by kernel_rfl))
  t3 := Tryz.underlying3
  a3 := Tryz.isAgg3
  z3 := Tryz.sizeOf3
  v3 := Tryz.zeroValue3
  t4 := Tryz.underlying4
  a4 := Tryz.isAgg4
  z4 := Tryz.sizeOf4
  v4 := Tryz.zeroValue4 }
open Go.RowKit Go.Lib in
/-- cmp.Less[int]: "Less reports whether x is less than y.": 'x < y'; the world is as it was. (LAID: no walk: one application.) -/
theorem Tryz.cmp_Less_int2 (x y : Int) (w : World) :
    Calls Tryz.prog 95 #[.int .i64 x, .int .i64 y] w fun e w' => e = .returned (.bool (decide (x < y))) ∧ w' = w := Any.cmp_Less_int2 Tryz.laysNm231 x y w
open Go.RowKit Go.Sort in
/-- .. and plain. (LAID: no walk: one application.) -/
theorem Tryz.slices_Sort_int_none (p : Option Addr) (cap : Nat) (w : World) :
    Calls Tryz.prog 61 #[.slice p 0 cap] w fun e w' => e = .returned (.tuple #[]) ∧ w' = w := Any.slices_Sort_int_none Tryz.lays189 p cap w
open Go.RowKit Go.Lib in
theorem Tryz.slices_Equal_int_lens (a1 a2 : Option Addr) (n c m d : Nat) (w : World) (hnm : n ≠ m) :
    Calls Tryz.prog 48 #[.slice a1 n c, .slice a2 m d] w fun e w' => e = .returned (.bool false) ∧ w' = w := Any.slices_Equal_int_lens Tryz.lays111 a1 a2 n c m d w hnm
end Go.Proofs
/- The library's sort at uint32: short slices (insertion). What the call does to the row that it is handed: it sorts it; beside that only draws. -/
namespace Go.Proofs.YtgeaaegkcbjhlaaGreat
open Go.RowKit Go.Sort
/-- how long a slice may be that is sorted here -/
def sortMax : Nat := 12
abbrev encU : Int → Value := Value.int .u32
theorem isNaN_u (x : Int) (w : World) : Calls Tryz.prog 106 #[.int .u32 x] w fun e w' => e = .returned (.bool false) ∧ w' = w := by
  go_enter Tryz.func106, Tryz.ntmps106
  go_wp2
  go_ret
  exact ⟨by simp, rfl⟩
theorem less_u (x y : Int) (w : World) : Calls Tryz.prog 86 #[.int .u32 x, .int .u32 y] w fun e w' => e = .returned (.bool (ltInt x y)) ∧ w' = w := by
  go_enter Tryz.func86, Tryz.ntmps86
  go_wp2_with (go_at_call 106; refine (isNaN_u _ _).mono ?_; rintro e w' ⟨rfl, rfl⟩)
  go_ret
  exact ⟨rfl, rfl⟩
theorem insertion_u (blk off cap a b : Nat) (d : Array Int) (w : World) (hH : Holds encU w blk off d) (hab : a ≤ b) (hb : b ≤ d.size) (hsz : d.size < 4611686018427387904) :
    Calls Tryz.prog 80 #[.slice (some ⟨blk, off, none⟩) d.size cap, .int .i64 a, .int .i64 b] w fun e w' =>
      e = .returned (.tuple #[]) ∧ ∃ n, w' = putRow encU (Sort.ahead w n) blk off (Sort.insertionSort ltInt d a b) := by
  go_enter Tryz.func80, Tryz.ntmps80
  go_wp2
  go_loopw [6] (fun vi wr => ∃ (i n : Nat) (dk : Array Int), vi = .int .i64 i ∧ a < i ∧ i ≤ b + 1 ∧ dk.size = d.size ∧ wr = putRow encU (Sort.ahead w n) blk off dk ∧
      insOuter ltInt a b i dk = insOuter ltInt a b (a + 1) d) (fun vi _ => b + 1 - (RowKit.intOf vi).toNat)
  case atStart => exact ⟨a + 1, 0, d, by go_num, by omega, by omega, rfl, (putRow_self _ _ _ _ _ hH).symm, rfl⟩
  case round =>
    obtain ⟨i, n, dk, rfl, hai, hib, hsk, hwr, hO⟩ := hrel
    have HO := Lib.hid hO
    clear hO
    by_cases hlt : i < b
    · go_wp2
      go_loopw [7] (fun vj w2 => ∃ (j m : Nat) (dj : Array Int), vj = .int .i64 j ∧ a ≤ j ∧ j ≤ i ∧ dj.size = d.size ∧ w2 = putRow encU (Sort.ahead w m) blk off dj ∧
          insInner ltInt a j dj = insInner ltInt a i dk) (fun vj _ => (RowKit.intOf vj).toNat)
      case atStart => exact ⟨i, n, dk, rfl, by omega, Nat.le_refl _, hsk, rfl, rfl⟩
      case round =>
        obtain ⟨j, m, dj, rfl, haj, hji, hsj, hw2, hI⟩ := hrel
        obtain ⟨G, hG⟩ : ∃ G : Nat → Int, ∀ t, G t = dj[t]! := ⟨fun t => dj[t]!, fun _ => rfl⟩
        have hcw : ∀ t, t < d.size → wr.cell? ⟨blk, off + t, none⟩ = some (.int .u32 (G t)) := fun t ht => by
          rw [hw2, hG]; exact cell?_putRow _ _ _ _ d dj (holds_ahead _ _ _ _ _ _ hH) hsj t (by omega)
        have hfw : ∀ t, t < d.size → wr.frozen? ⟨blk, off + t, none⟩ = false := fun t ht => by
          rw [hw2, frozen?_putRow]; exact ((holds_ahead _ _ m _ _ _ hH) t ht).2
        have HW := Lib.hid hw2
        have HG := Lib.hid hG
        have HI := Lib.hid hI
        clear hw2 hG hI
        have OUT : Hid ((j ≤ a ∨ ltInt (G j) (G (j - 1)) = false) → ∀ q, wr.drewN q = putRow encU (Sort.ahead w (m + q)) blk off dj ∧ insOuter ltInt a b (i + 1) dj = insOuter ltInt a b (a + 1) d) := Lib.hid (fun hs q =>
          ⟨by rw [HW.out]; exact putRow_drewN _ _ _ _ _ _ _, by rw [← HO.out, insOuter_go _ _ _ _ _ hlt, ← HI.out, insInner_stop _ _ _ _ (by rw [← HG.out, ← HG.out]; exact hs)]⟩)
        by_cases hja : a < j
        · cases hl : ltInt (G j) (G (j - 1)) with
          | true =>
            have HL := Lib.hid hl
            have LT := Lib.hid (fun w => less_u (G j) (G (j - 1)) w)
            clear hl
            go_wp2
            go_quiet ((go_at_call 86; have t := LT.out; rw [HL.out] at t; refine Calls.quiet_of_same (t _)))
            go_wp2
            go_region
            all_goals go_wp2
            go_roundw
            case rel =>
              refine ⟨j - 1, m + (nq + 1), swp dj j (j - 1), by congr 1; omega, by omega, by omega, by rw [size_swp]; exact hsj, ?_, ?_⟩
              · rw [HW.out, HG.out, HG.out]
                exact swap_worldA _ w m (nq + 1) blk off dj j (j - 1) (by omega) (by omega)
              · rw [← HI.out, insInner_go ltInt a j dj hja (by rw [← HG.out, ← HG.out]; exact HL.out)]
            case measure => simp [RowKit.intOf]; omega
          | false =>
            have HL := Lib.hid hl
            have LT := Lib.hid (fun w => less_u (G j) (G (j - 1)) w)
            clear hl
            go_wp2
            go_quiet ((go_at_call 86; have t := LT.out; rw [HL.out] at t; refine Calls.quiet_of_same (t _)))
            go_wp2
            go_roundw
            case rel => exact ⟨i + 1, m + nq, dj, by go_num, by omega, by omega, hsj, (OUT.out (Or.inr HL.out) nq).1, (OUT.out (Or.inr HL.out) nq).2⟩
            case measure => simp [RowKit.intOf]; omega
        · have hja2 : decide (a < j) = false := by simpa using hja
          go_wp2
          go_quiet (fail)
          go_wp2
          go_roundw
          case rel => exact ⟨i + 1, m + nq, dj, by go_num, by omega, by omega, hsj, (OUT.out (Or.inl (by omega)) nq).1, (OUT.out (Or.inl (by omega)) nq).2⟩
          case measure => simp [RowKit.intOf]; omega
    · go_wp2
      go_end0
      exact ⟨rfl, n, by unfold Sort.insertionSort; rw [← HO.out, insOuter_stop _ _ _ _ _ hlt]⟩
end Go.Proofs.YtgeaaegkcbjhlaaGreat
/- Iterators and what is collected from them: maps.Keys (uint32 keys), slices.Values (ints); slices.AppendSeq, Collect, Sorted, against whatever iterator value. -/
namespace Go.Proofs.YtgeaaegkcbjhlaaGreat
open Go.RowKit Go.Shelf Go.Maps Go.Sort
/-! ### rows of one-cell numbers -/
theorem holds_of_blockE (enc : Int → Value) {w : World} {g : Nat} {cur : Array Value} {e : TypeId} {ss : List Int} (hb : w.heap[g]? = some (.cells cur e (0, 0))) (ht : cur.toList.take ss.length = ss.map enc) : Holds enc w g 0 ss.toArray := by
  intro j hj
  have hj' : j < ss.length := by simpa using hj
  refine ⟨?_, by simp [World.frozen?, hb]⟩
  have h1 : (cur.toList.take ss.length)[j]? = (ss.map enc)[j]? := by rw [ht]
  rw [List.getElem?_take_of_lt hj'] at h1
  simp only [World.cell?, hb, Nat.zero_add]
  simp only [Option.isSome_none, Bool.false_eq_true, if_false]
  rw [← Array.getElem?_toList, h1]
  simp [hj']
theorem heap_sortedE (enc : Int → Value) {w : World} {g n : Nat} {os : Array Obj} {cur : Array Value} {e : TypeId} {fr : Nat × Nat} (d : Array Int) (hb : w.heap[g]? = some (.cells cur e fr)) :
    (grow (putRow enc (Sort.ahead w n) g 0 d) os).heap[g]? = some (.cells (putCells enc 0 d cur) e fr) := by
  have hg : g < w.heap.size := (Array.getElem?_eq_some_iff.1 hb).1
  rw [heap_grow_old _ _ (by simpa using hg)]
  simp [putRow, mapBlock, Sort.ahead, Array.getElem?_modify, hb, onCells]
theorem grownBy_sortedE (enc : Int → Value) {w : World} {g n : Nat} {os : Array Obj} (d : Array Int) : w.grownBy (grow (putRow enc (Sort.ahead w n) g 0 d) os) (some g) := by
  refine ⟨rfl, rfl, rfl, by simp, fun k hk hne => ?_⟩
  rw [heap_grow_old _ _ (by simpa using hk)]
  have : g ≠ k := fun e => hne (by rw [e])
  simp [putRow, mapBlock, Sort.ahead, Array.getElem?_modify, this]
theorem take_putCellsE (enc : Int → Value) (cur : Array Value) (ts : List Int) (h : ts.length ≤ cur.size) : (putCells enc 0 ts.toArray cur).toList.take ts.length = ts.map enc := by
  apply List.ext_getElem?
  intro j
  by_cases hj : j < ts.length
  · rw [List.getElem?_take_of_lt hj, Array.getElem?_toList]
    simp [putCells, hj, show j < cur.size by omega]
  · rw [List.getElem?_take_eq_none (by omega), List.getElem?_eq_none (by simp; omega)]
theorem ownsRow_sortedE (enc : Int → Value) {w : World} {base g cap n : Nat} {e : TypeId} {os : Array Obj} {cur : Array Value} {ss ts : List Int} (hl : ts.length = ss.length) (hbase : base ≤ g) (hb : w.heap[g]? = some (.cells cur e (0, 0)))
    (h1 : ss.length ≤ cap) (h2 : cap ≤ maxLen) (h3 : cur.size = cap * 1) :
    (grow (putRow enc (Sort.ahead w n) g 0 ts.toArray) os).ownsRow base e 1 (.slice (some ⟨g, 0, none⟩) ss.length cap) ss.length (ts.map enc) :=
  ⟨by simp [hl], .inr ⟨g, cap, _, rfl, hbase, heap_sortedE enc _ hb, h1, h2, by simp [putCells, h3], by rw [Nat.mul_one, ← hl]; exact take_putCellsE enc cur ts (by omega)⟩⟩
/-! ### maps.Keys, at uint32 -/
def KeysAre {H : Type} (D0 : DataW H) (ss : List Int) : Prop := ss.Nodup ∧ ∀ x, x ∈ ss ↔ has D0 (.int .u32 x) = true
def CollectedU {H : Type} (D0 : DataW H) (left : Lit → Bool) (ss : List Int) : Prop := ss.Nodup ∧ ∀ x, x ∈ ss ↔ (has D0 (.int .u32 x) = true ∧ left (.int .u32 x) = false)
theorem CollectedU.start {H : Type} (D0 : DataW H) : CollectedU D0 (has D0) [] := ⟨List.nodup_nil, fun x => by cases has D0 (.int .u32 x) <;> simp⟩
theorem CollectedU.step {H : Type} {D0 : DataW H} {left : Lit → Bool} {ss : List Int} (h : CollectedU D0 left ss) {x : Int} {y : DataW H} (hlk : left (.int .u32 x) = true) (hat : ∀ zd, D0.atKey (.int .u32 x) zd = y) :
    CollectedU D0 (fun z => left z && !z.sameKey (.int .u32 x)) (ss ++ [x]) := by
  have hhas : has D0 (.int .u32 x) = true := has_true_of_atKey hat
  have hnew : x ∉ ss := fun hx => by have := ((h.2 x).1 hx).2; rw [hlk] at this; cases this
  refine ⟨List.nodup_append.2 ⟨h.1, by simp, fun a ha b hb => by simp at hb; subst hb; exact fun e => hnew (e ▸ ha)⟩, fun y => ?_⟩
  by_cases hy : y = x
  · subst hy; simp [hhas, Lit.sameKey]
  · simp [h.2 y, hy, Lit.sameKey]
theorem CollectedU.done {H : Type} {D0 : DataW H} {left : Lit → Bool} {ss : List Int} (h : CollectedU D0 left ss) (hl : ∀ kl, left kl = false) : KeysAre D0 ss := ⟨h.1, fun x => by rw [h.2 x, hl]; simp⟩
theorem lawU : Keyed Tryz.prog 35 := int_keyed Tryz.underlying35
set_option maxRecDepth 100000 in
set_option maxHeartbeats 1000000 in
theorem keys1_u {H : Type} (F : Fence) (hF : ∀ f, F.fn f) (n : Nat) (hro : F.round = none) (hn : 1 ≤ n) (l Bm b nn : Nat) (D0 : DataW H) (J Jx : List Int → World → Prop)
    (hY : ∀ pre x W, J pre W → pre.length < Maps.size D0 → YieldAt F (n - 1) Tryz.prog l #[.int .u32 x] W fun e W' =>
      (e = .returned (.bool true) ∧ J (pre ++ [x]) W' ∧ KeepsWalks W W') ∨ (e = .returned (.bool false) ∧ Jx (pre ++ [x]) W'))
    (W : World) (hJ : AbidesFrom W.heap.size J) (hm : W.cell? ⟨Bm, 0, none⟩ = some (.map (some b))) (hown : W.ownsMap Tryz.prog 35 (plainElem Tryz.prog 3) b nn D0) (h0 : J [] W) :
    CallsIn F n Tryz.prog 59 #[.func (.yield l) #[] #[], .pointer (some ⟨Bm, 0, none⟩)] W fun e W' => (∃ v, e = .returned v) ∧
      ((∃ ss : List Int, KeysAre D0 ss ∧ J ss W') ∨ (∃ pre : List Int, True ∧ Jx pre W')) := by
  refine callsIn_of_wp Tryz.func59 rfl (hF _) ?_ hro
  simp only [Tryz.ntmps59, List.size_toArray, List.length_cons, List.length_nil, Nat.reduceAdd, Nat.reduceSub, Array.replicate_succ, Array.replicate_zero, List.push_toArray, List.append_toArray, List.nil_append, List.cons_append]
  gi_wp2_with (first
    | (gi_at_range; refine wpListIn_range_own _ rfl _ 63 rfl 35 3 lawU Tryz.underlying63 _ b nn _ rfl hown ?_; intro w0 hrg0 hg0 hs0)
    | gi_in)
  go_frame
  gi_loopw [3] (fun _ wr => ∃ (left : Lit → Bool) (cnt : Nat) (ss : List Int), wr.ranges Tryz.prog 35 (plainElem Tryz.prog 3) b W.heap.size nn D0 left cnt ∧ ss.length + cnt ≤ Maps.size D0 ∧ CollectedU D0 left ss ∧ J ss wr)
    (fun _ wr => wr.rangeLeft b W.heap.size)
  case atStart =>
    exact ⟨_, _, [], hrg0, by simp, CollectedU.start D0, hJ [] W w0 none h0 hg0 (fun r e => by cases e)⟩
  case round =>
    obtain ⟨left, cnt, ss, hrg, hcs, hC, hJs⟩ := hrel
    gi_wp2_with (first
      | (gi_at_next; refine wpListIn_next_ranges_ii _ rfl _ rfl 35 3 .u32 .i64 lawU Tryz.underlying35 Tryz.underlying3 b W.heap.size nn _ _ _ rfl hrg ?_ ?_)
      | gi_in)
    · intro hc0 hl0
      gi_wp2
      go_end0
      exact ⟨⟨_, rfl⟩, .inl ⟨ss, hC.done hl0, hJs⟩⟩
    · intro x c w2 cnt2 hwx hwc hlk hat hrg2 hlt hg2 hs2 hen
      have hJ2 : J ss w2 := hJ ss wr w2 (some W.heap.size) hJs hg2 (fun r e => by cases e; exact ⟨Nat.le_refl _, hrg.iter_walk⟩)
      obtain ⟨fn, tmps, assign, body, hy, hR⟩ := hY ss x w2 hJ2 (by omega)
      clear hs2
      gi_wp2
      refine hR.mono ?_
      rintro e W3 (⟨rfl, hJ3, hk3⟩ | ⟨rfl, hJx3⟩)
      · gi_wp2
        have hrg3 := hrg2.of_walks hk3
        go_roundw
        case rel => exact ⟨_, cnt2, ss ++ [x], hrg3, by simp; omega, hC.step hlk hat, hJ3⟩
        case measure => rw [hrg3.left_eq, hrg.left_eq]; exact hlt
      · gi_wp2
        refine bodyPost_ret (results_none rfl _ _ _) rfl ?_
        exact ⟨⟨_, rfl⟩, .inr ⟨_, trivial, hJx3⟩⟩
set_option maxHeartbeats 1000000 in
theorem keys_u (F : Fence) (hF : ∀ f, F.fn f) (n : Nat) (hro : F.round = none) (mb : Option Nat) (w : World) :
    CallsIn F n Tryz.prog 43 #[.map mb] w fun e w' => e = .returned (.func (.func 59) #[] #[.pointer (some ⟨w.heap.size, 0, none⟩)]) ∧ w' = w.alloc (.cells #[.map mb] 63) := by
  refine callsIn_of_wp Tryz.func43 rfl (hF _) ?_ hro
  simp only [Tryz.ntmps43, List.size_toArray, List.length_cons, List.length_nil, Nat.reduceAdd, Nat.reduceSub, Array.replicate_succ, Array.replicate_zero, List.push_toArray, List.append_toArray, List.nil_append, List.cons_append]
  gi_wp2
  go_ret
  exact ⟨rfl, rfl⟩
theorem keys_stops {H : Type} (F : Fence) (hF : ∀ f, F.fn f) (n : Nat) (hro : F.round = none) (hn : 1 ≤ n) (Bm b nn : Nat) (D0 : DataW H) (w : World) (hBm : Bm < w.heap.size)
    (hm : w.cell? ⟨Bm, 0, none⟩ = some (.map (some b))) (hown : w.ownsMap Tryz.prog 35 (plainElem Tryz.prog 3) b nn D0) :
    SeqStopsK F n Tryz.prog 59 #[.pointer (some ⟨Bm, 0, none⟩)] (fun x : Int => #[.int .u32 x]) KeepsWalks (KeysAre D0) (fun _ => True) (Maps.size D0) w := fun l J Jx W hW hJ hJx hY h0 => by
  have hown' : W.ownsMap Tryz.prog 35 (plainElem Tryz.prog 3) b nn D0 := by
    have hbl := hown.lt
    obtain ⟨es, clock, hb, Ft, hs, hD⟩ := hown
    exact ⟨es, clock, (hW.block b hbl).trans hb, Ft, hs, hD⟩
  exact keys1_u F hF n hro hn l Bm b nn D0 J Jx hY W hJ ((hW.cell (p := ⟨Bm, 0, none⟩) hBm).trans hm) hown' h0
/-! ### slices.Values, at int -/
/-- the slice value holds the ints zs, in a block below n₀; or it is empty -/
def RowOf (n₀ : Nat) (W : World) (sv : Value) (zs : List Int) : Prop :=
  ((∃ a c, sv = .slice a 0 c) ∧ zs = []) ∨ ∃ b off cap, sv = .slice (some ⟨b, off, none⟩) zs.length cap ∧ b < n₀ ∧ ∀ j, j < zs.length → W.cell? ⟨b, off + j, none⟩ = some (.int .i64 (zs.getD j 0))
theorem RowOf.below {n₀ : Nat} {A B : World} (h : Below n₀ A B) {sv : Value} {zs : List Int} : RowOf n₀ A sv zs → RowOf n₀ B sv zs
  | .inl e => .inl e
  | .inr ⟨b, off, cap, e, hb, hc⟩ => .inr ⟨b, off, cap, e, hb, fun j hj => (h.cell (p := ⟨b, off + j, none⟩) hb).trans (hc j hj)⟩
theorem take_succ_getD (zs : List Int) {k : Nat} (hk : k < zs.length) : zs.take (k + 1) = zs.take k ++ [zs.getD k 0] := by
  rw [List.take_succ_eq_append_getElem hk]; simp [List.getD, List.getElem?_eq_getElem hk]
set_option maxRecDepth 100000 in
set_option maxHeartbeats 2000000 in
theorem values1_i (F : Fence) (hF : ∀ f, F.fn f) (n : Nat) (hro : F.round = none) (hn : 1 ≤ n) (l Bs n₀ b off cap : Nat) (zs : List Int) (hreach : zs.length * 8 ≤ 140737488351232) (hb : b < n₀) (J Jx : List Int → World → Prop)
    (hY : ∀ pre x W, J pre W → pre.length < zs.length → YieldAt F (n - 1) Tryz.prog l #[.int .i64 x] W fun e W' =>
      (e = .returned (.bool true) ∧ J (pre ++ [x]) W' ∧ Below n₀ W W') ∨ (e = .returned (.bool false) ∧ Jx (pre ++ [x]) W'))
    (W : World) (hBs : W.cell? ⟨Bs, 0, none⟩ = some (.slice (some ⟨b, off, none⟩) zs.length cap)) (hc : ∀ j, j < zs.length → W.cell? ⟨b, off + j, none⟩ = some (.int .i64 (zs.getD j 0))) (h0 : J [] W) :
    CallsIn F n Tryz.prog 62 #[.func (.yield l) #[] #[], .pointer (some ⟨Bs, 0, none⟩)] W fun e W' => (∃ v, e = .returned v) ∧
      ((∃ ys, ys = zs ∧ J ys W') ∨ (∃ pre : List Int, True ∧ Jx pre W')) := by
  refine callsIn_of_wp Tryz.func62 rfl (hF _) ?_ hro
  simp only [Tryz.ntmps62, List.size_toArray, List.length_cons, List.length_nil, Nat.reduceAdd, Nat.reduceSub, Array.replicate_succ, Array.replicate_zero, List.push_toArray, List.append_toArray, List.nil_append, List.cons_append]
  obtain ⟨len, hlen⟩ : ∃ len, zs.length = len := ⟨_, rfl⟩
  rw [hlen] at hBs hc hY hreach
  gi_wp2
  gi_loopw [7] (fun i wr => ∃ k : Nat, k ≤ len ∧ i = .int .i64 k ∧ J (zs.take k) wr ∧ Below n₀ W wr)
    (fun i _ => len - (intOf i).toNat)
  case atStart => exact ⟨0, Nat.zero_le _, rfl, h0, Below.refl _ _⟩
  case round =>
    obtain ⟨k, hk, rfl, hJs, hnx⟩ := hrel
    have hcx : k < len → wr.cell? ⟨b, off + k, none⟩ = some (.int .i64 (zs.getD k 0)) := fun h => (hnx.cell (p := ⟨b, off + k, none⟩) hb).trans (hc k h)
    by_cases hlt : k < len
    · obtain ⟨z, hz⟩ : ∃ z, zs.getD k 0 = z := ⟨_, rfl⟩
      obtain ⟨fn, tmps, assign, body, hy, hR⟩ := hY _ z wr hJs (by rw [List.length_take]; omega)
      have hcx' := hcx hlt
      rw [hz] at hcx'
      have HT : Hid (zs.take (k + 1) = zs.take k ++ [z]) := Lib.hid (by rw [← hz]; exact take_succ_getD zs (by omega))
      clear hcx hz
      gi_wp2
      refine hR.mono ?_
      rintro e W3 (⟨rfl, hJ3, hk3⟩ | ⟨rfl, hJx3⟩)
      · gi_wp2
        go_roundw
        case rel => exact ⟨k + 1, by omega, by simp, by rw [HT.out]; exact hJ3, hnx.trans hk3⟩
        case measure => simp [intOf]; omega
      · gi_wp2
        refine bodyPost_ret (results_none rfl _ _ _) rfl ?_
        exact ⟨⟨_, rfl⟩, .inr ⟨_, trivial, hJx3⟩⟩
    · obtain rfl : k = len := by omega
      gi_wp2
      go_end0
      exact ⟨⟨_, rfl⟩, .inl ⟨_, rfl, by have := hJs; rwa [List.take_of_length_le (by omega)] at this⟩⟩
set_option maxHeartbeats 1000000 in
theorem values1_none (F : Fence) (hF : ∀ f, F.fn f) (n : Nat) (hro : F.round = none) (l Bs : Nat) (a : Option Addr) (c : Nat) (J : List Int → World → Prop) (W : World) (hBs : W.cell? ⟨Bs, 0, none⟩ = some (.slice a 0 c)) (h0 : J [] W) :
    CallsIn F n Tryz.prog 62 #[.func (.yield l) #[] #[], .pointer (some ⟨Bs, 0, none⟩)] W fun e W' => (∃ v, e = .returned v) ∧ J [] W' := by
  refine callsIn_of_wp Tryz.func62 rfl (hF _) ?_ hro
  simp only [Tryz.ntmps62, List.size_toArray, List.length_cons, List.length_nil, Nat.reduceAdd, Nat.reduceSub, Array.replicate_succ, Array.replicate_zero, List.push_toArray, List.append_toArray, List.nil_append, List.cons_append]
  gi_wp2
  gi_loopw [7] (fun i wr => i = .int .i64 0 ∧ J [] wr) (fun _ _ => 0)
  case atStart => exact ⟨rfl, h0⟩
  case round =>
    obtain ⟨rfl, hJs⟩ := hrel
    gi_wp2
    go_end0
    exact ⟨⟨_, rfl⟩, hJs⟩
set_option maxHeartbeats 1000000 in
theorem values_i (F : Fence) (hF : ∀ f, F.fn f) (n : Nat) (hro : F.round = none) (a : Option Addr) (len cap : Nat) (w : World) :
    CallsIn F n Tryz.prog 50 #[.slice a len cap] w fun e w' => e = .returned (.func (.func 62) #[] #[.pointer (some ⟨w.heap.size, 0, none⟩)]) ∧ w' = w.alloc (.cells #[.slice a len cap] 23) := by
  refine callsIn_of_wp Tryz.func50 rfl (hF _) ?_ hro
  simp only [Tryz.ntmps50, List.size_toArray, List.length_cons, List.length_nil, Nat.reduceAdd, Nat.reduceSub, Array.replicate_succ, Array.replicate_zero, List.push_toArray, List.append_toArray, List.nil_append, List.cons_append]
  gi_wp2
  go_ret
  exact ⟨rfl, rfl⟩
theorem values_stops (F : Fence) (hF : ∀ f, F.fn f) (n : Nat) (hro : F.round = none) (hn : 1 ≤ n) (Bs n₀ : Nat) (sv : Value) (zs : List Int) (hreach : zs.length * 8 ≤ 140737488351232) (w : World) (hBs : Bs < w.heap.size) (hn₀ : n₀ ≤ w.heap.size)
    (hc : w.cell? ⟨Bs, 0, none⟩ = some sv) (hI : RowOf n₀ w sv zs) :
    SeqStopsK F n Tryz.prog 62 #[.pointer (some ⟨Bs, 0, none⟩)] (fun x : Int => #[Value.int .i64 x]) (Below n₀) (fun ys => ys = zs) (fun _ => True) zs.length w := fun l J Jx W hW _ _ hY h0 => by
  have hc' := (hW.cell (p := ⟨Bs, 0, none⟩) hBs).trans hc
  rcases hI.below (hW.mono hn₀) with ⟨⟨a, c, rfl⟩, rfl⟩ | ⟨b, off, cap, rfl, hb, hcs⟩
  · exact (values1_none F hF n hro l Bs a c J W hc' h0).mono fun e W' ⟨he, hj⟩ => ⟨he, .inl ⟨_, rfl, hj⟩⟩
  · exact values1_i F hF n hro hn l Bs n₀ b off cap zs hreach hb J Jx hY W hc' hcs h0
end Go.Proofs.YtgeaaegkcbjhlaaGreat
/- slices.AppendSeq(nil, ..), Collect, Sorted, against whatever iterator value; at uint32 and at int. -/
namespace Go.Proofs.YtgeaaegkcbjhlaaGreat
open Go.RowKit Go.Shelf Go.Maps Go.Sort
/-! ### at uint32 -/
theorem info_u : (Tryz.prog.info? 35).map (fun i => (i.zero, i.size, i.bytes)) = some (some (.int .u32 0), 1, 4) := by kernel_rfl
set_option maxRecDepth 100000 in
set_option maxHeartbeats 2000000 in
theorem append_u (F : Fence) (hF : ∀ f, F.fn f) (n : Nat) (hro : F.round = none) (hn : 2 ≤ n) (g : Nat) (lb : Array Value) (eg : ∀ args w, (callFunc g args).run Tryz.prog w = .ok (.enter g args) w)
    (Kp : World → World → Prop) (S Sp : List Int → Prop) (N : Nat) (hN : N ≤ maxLen) (hNb : N * 4 ≤ 140737488355328) (w : World)
    (hKt : ∀ {A B C : World}, Kp A B → Kp B C → Kp A C) (hKb : ∀ (W : World) (l : Nat) (o o' : Obj), w.heap.size ≤ l → W.heap[l]? = some o → o.isCells = false → o.isWalk = false → Kp W (W.putObj l o'))
    (hKo : ∀ W W', KeepsOthers W W' → Below w.heap.size W W' → Kp W W')
    (hseq : SeqStopsK F (n - 1) Tryz.prog g lb (fun x : Int => #[Value.int .u32 x]) Kp S Sp N w) :
    CallsIn F n Tryz.prog 66 #[.slice none 0 0, .func (.func g) #[] lb] w fun e w' => ∃ (v : Value) (ss : List Int), e = .returned v ∧ S ss ∧ ss.length ≤ N ∧ w'.ownsRow w.heap.size 35 1 v ss.length (ss.map (Value.int .u32)) ∧ (v = .slice none 0 0 ↔ ss = []) ∧ Below w.heap.size w w' := by
  have h1 : 1 ≤ n := by omega
  obtain ⟨i0, hi, hz0, hz1, hz2⟩ := info_parts info_u
  refine callsIn_of_wp_marks Tryz.func66 rfl (hF _) ?_ hro
  simp only [Tryz.ntmps66, List.size_toArray, List.length_cons, List.length_nil, Nat.reduceAdd, Nat.reduceSub, Array.replicate_succ, Array.replicate_zero, List.push_toArray, List.append_toArray, List.nil_append, List.cons_append]
  gi_wp2
  have bO := Boxed.new w 46 (.slice none 0 0)
  have hB0 : Below w.heap.size w (w.alloc (.cells #[.slice none 0 0] 46)) := (Below.refl _ w).alloc (Nat.le_refl _) _
  refine wpIn_rangeFunc_ownG hro h1 (gf := g) (lb := lb) rfl (hF _) eg (N := N) hseq hKt (fun W l o o' hl h1 h2 h3 => hKb W l o o' (by simp at hl; omega) h1 h2 h3) hB0 (fun _ => rfl)
    (fun pre W => ((∃ v, Boxed W w.heap.size 46 v ∧ W.ownsRow w.heap.size 35 1 v pre.length (pre.map (Value.int .u32)) ∧ (v = .slice none 0 0 ↔ pre = [])) ∧ Below w.heap.size w W) ∧ pre.length ≤ N)
    (fun _ _ _ => False)
    (OwnFrom.and (OwnFrom.and (Own.from (holdsRow_own w.heap.size w.heap.size 46 35 1 (fun pre : List Int => pre.length) (fun pre => pre.map (Value.int .u32)) (fun pre v => v = .slice none 0 0 ↔ pre = [])) _) (ownFrom_below (Nat.le_refl _) (by simp))) (fun _ _ _ _ hs _ _ => hs))
    (fun _ _ _ _ _ hs _ _ => hs)
    ⟨⟨⟨_, bO, World.ownsRow_nil _ _ _ _, by simp⟩, hB0⟩, by simp⟩
    (fun x => { tmps := #[.slice none 0 0, .func (.func g) #[] lb, .pointer (some ⟨w.heap.size, 0, none⟩), undef, .slice none 0 0, .int .u32 x, .func (.func g) #[] lb, .int .u32 x, undef, undef, undef, undef, undef], defers := [] }) ?assign ?body ?done ?stop
  case assign =>
    intro l x W K hK
    gi_wp2_with (rw [Oper.semAt_eq _ _ _ (fun c h => by cases h)]; go_simp; try go_bits)
    exact hK
  case body =>
    rintro l pre x W ⟨⟨⟨v, hv, hrow, hnil⟩, hB⟩, _⟩ hlt
    have hc := hv.cell
    gi_wp2_with (first | (gi_at_builtin; refine wpListIn_append_own _ rfl _ _ 46 rfl w.heap.size 35 i0 (.int .u32 0) 1 4 Tryz.underlying46 hi hz0 hz1 hz2 rfl (by decide) _ _ _ rfl (hrow.alloc _) ⟨W.heap.size, 0, none⟩ 1 1 [.int .u32 x] rfl rfl (cell_one_new _ _ _) (by simp [Value.oneCell']) (by omega) (by omega) (by have := hB.size; simp; omega) ?_; intro v' w1 hown' hgrow _; obtain ⟨g', cap', rfl⟩ := ownsRow_succ hown'; obtain ⟨hv1, hv2, hr2, hk2, hb2⟩ := hv.appended (by decide) hrow hB.size (Nat.le_refl _) hown' hgrow; have hc1 := hv1.cell; have hf1 := hv1.frozen; go_frame) | (rw [Oper.semAt_eq _ _ _ (fun c h => by cases h)]; go_simp; try go_bits))
    exact ⟨hk2.from _, hKo _ _ hk2 hb2, ⟨⟨_, hv2, by simpa using hr2, by simp⟩, hB.trans hb2⟩, by simp; omega⟩
  case done =>
    rintro D ys W hD hS ⟨⟨⟨v, hv, hrow, hnil⟩, hB⟩, hlen⟩ hK
    have hc := hv.cell
    gi_wp2
    refine ⟨by simp, .inl ⟨_, _, rfl, run_takeDeferred hK, ?_⟩⟩
    exact ⟨_, results_tmp rfl _ _ _, v, ys, rfl, hS, hlen, ownsRow_putObj hrow _ hK rfl, hnil, hB.trans (belowK_b (w := w) (Nat.le_refl _) W D _ _ (by simp at hD; omega) hK rfl rfl)⟩
  case stop =>
    rintro D c pre W _ _ h _
    exact h.elim
set_option maxHeartbeats 1000000 in
theorem collect_u (F : Fence) (hF : ∀ f, F.fn f) (n : Nat) (hro : F.round = none) (hn : 3 ≤ n) (g : Nat) (lb : Array Value) (eg : ∀ args w, (callFunc g args).run Tryz.prog w = .ok (.enter g args) w)
    (Kp : World → World → Prop) (S Sp : List Int → Prop) (N : Nat) (hN : N ≤ maxLen) (hNb : N * 4 ≤ 140737488355328) (w : World)
    (hKt : ∀ {A B C : World}, Kp A B → Kp B C → Kp A C) (hKb : ∀ (W : World) (l : Nat) (o o' : Obj), w.heap.size ≤ l → W.heap[l]? = some o → o.isCells = false → o.isWalk = false → Kp W (W.putObj l o'))
    (hKo : ∀ W W', KeepsOthers W W' → Below w.heap.size W W' → Kp W W')
    (hseq : SeqStopsK F (n - 1 - 1) Tryz.prog g lb (fun x : Int => #[Value.int .u32 x]) Kp S Sp N w) :
    CallsIn F n Tryz.prog 57 #[.func (.func g) #[] lb] w fun e w' => ∃ (v : Value) (ss : List Int), e = .returned v ∧ S ss ∧ ss.length ≤ N ∧ w'.ownsRow w.heap.size 35 1 v ss.length (ss.map (Value.int .u32)) ∧ (v = .slice none 0 0 ↔ ss = []) ∧ Below w.heap.size w w' := by
  have h1 : 1 ≤ n := by omega
  refine callsIn_of_wp Tryz.func57 rfl (hF _) ?_ hro
  simp only [Tryz.ntmps57, List.size_toArray, List.length_cons, List.length_nil, Nat.reduceAdd, Nat.reduceSub, Array.replicate_succ, Array.replicate_zero, List.push_toArray, List.append_toArray, List.nil_append, List.cons_append]
  gi_wp2_with (gi_at_call 66; refine (append_u F hF (n - 1) hro (by omega) g lb eg Kp S Sp N hN hNb _ hKt hKb hKo hseq).mono ?_; rintro e w' ⟨v, ss, rfl, hS, hlen, hrow, hnil, hb⟩)
  go_ret
  exact ⟨v, ss, rfl, hS, hlen, hrow, hnil, hb⟩
def Sorts_u (F : Fence) (m : Nat) : Prop :=
  (∀ (blk off cap : Nat) (ss : List Int) (W : World), Holds (Value.int .u32) W blk off ss.toArray → blk < W.heap.size → ss.length < 4611686018427387904 →
    CallsIn F m Tryz.prog 58 #[.slice (some ⟨blk, off, none⟩) ss.length cap] W fun e w' => e = .returned (.tuple #[]) ∧ ∃ k os, w' = grow (putRow (Value.int .u32) (Sort.ahead W k) blk off (ss.mergeSort fun x y => decide (x ≤ y)).toArray) os) ∧
  (∀ (p : Option Addr) (cap : Nat) (W : World), CallsIn F m Tryz.prog 58 #[.slice p 0 cap] W fun e w' => e = .returned (.tuple #[]) ∧ w' = W)
set_option maxRecDepth 100000 in
set_option maxHeartbeats 2000000 in
theorem sorted_u (F : Fence) (hF : ∀ f, F.fn f) (n : Nat) (hro : F.round = none) (hn : 4 ≤ n) (hsort : Sorts_u F (n - 1)) (g : Nat) (lb : Array Value) (eg : ∀ args w, (callFunc g args).run Tryz.prog w = .ok (.enter g args) w)
    (Kp : World → World → Prop) (S Sp : List Int → Prop) (N : Nat) (hN : N ≤ maxLen) (hNb : N * 4 ≤ 140737488355328) (w : World)
    (hKt : ∀ {A B C : World}, Kp A B → Kp B C → Kp A C) (hKb : ∀ (W : World) (l : Nat) (o o' : Obj), w.heap.size ≤ l → W.heap[l]? = some o → o.isCells = false → o.isWalk = false → Kp W (W.putObj l o'))
    (hKo : ∀ W W', KeepsOthers W W' → Below w.heap.size W W' → Kp W W')
    (hseq : SeqStopsK F (n - 1 - 1 - 1) Tryz.prog g lb (fun x : Int => #[Value.int .u32 x]) Kp S Sp N w) :
    CallsIn F n Tryz.prog 42 #[.func (.func g) #[] lb] w fun e w' => ∃ (v : Value) (ss : List Int), e = .returned v ∧ S ss ∧ ss.length ≤ N ∧
      w'.ownsRow w.heap.size 35 1 v ss.length ((ss.mergeSort (fun x y => decide (x ≤ y))).map (Value.int .u32)) ∧ (v = .slice none 0 0 ↔ ss = []) ∧ Below w.heap.size w w' := by
  have h1 : 1 ≤ n := by omega
  have hN2 : N < 4611686018427387904 := by omega
  refine callsIn_of_wp Tryz.func42 rfl (hF _) ?_ hro
  simp only [Tryz.ntmps42, List.size_toArray, List.length_cons, List.length_nil, Nat.reduceAdd, Nat.reduceSub, Array.replicate_succ, Array.replicate_zero, List.push_toArray, List.append_toArray, List.nil_append, List.cons_append]
  gi_wp2_with (gi_at_call 57; refine (collect_u F hF (n - 1) hro (by omega) g lb eg Kp S Sp N hN hNb _ hKt hKb hKo hseq).mono ?_; rintro e W ⟨v, ss, rfl, hS, hlen, hrow, hnil, hb⟩)
  rcases hrow.2 with ⟨rfl, hz⟩ | ⟨gb, cap, cur, rfl, hbase, hgb, r1, r2, r3, r4⟩
  · have hss : ss = [] := List.eq_nil_of_length_eq_zero hz
    subst hss
    gi_wp2_with (gi_at_call 58; refine (hsort.2 none 0 W).mono ?_; rintro e w' ⟨rfl, rfl⟩)
    go_ret
    exact ⟨.slice none 0 0, [], rfl, hS, by simp, by simpa using hrow, by simp, hb⟩
  · have hH : Holds (Value.int .u32) W gb 0 ss.toArray := holds_of_blockE _ hgb (by simpa using r4)
    have hgl : gb < W.heap.size := (Array.getElem?_eq_some_iff.1 hgb).1
    have cS := hsort.1 gb 0 cap ss W hH hgl (by omega)
    gi_wp2_with (gi_at_call 58; refine cS.mono ?_; rintro e w' ⟨rfl, nn, os, rfl⟩)
    go_ret
    exact ⟨_, ss, rfl, hS, hlen, ownsRow_sortedE _ (by simp) hbase hgb r1 r2 r3, hnil, hb.grown (grownBy_sortedE _ _) hb.size (fun j hj => by cases hj; exact hbase)⟩
/-! ### at int -/
theorem info_i : (Tryz.prog.info? 3).map (fun i => (i.zero, i.size, i.bytes)) = some (some (.int .i64 0), 1, 8) := by kernel_rfl
set_option maxRecDepth 100000 in
set_option maxHeartbeats 2000000 in
theorem append_i (F : Fence) (hF : ∀ f, F.fn f) (n : Nat) (hro : F.round = none) (hn : 2 ≤ n) (g : Nat) (lb : Array Value) (eg : ∀ args w, (callFunc g args).run Tryz.prog w = .ok (.enter g args) w)
    (Kp : World → World → Prop) (S Sp : List Int → Prop) (N : Nat) (hN : N ≤ maxLen) (hNb : N * 8 ≤ 140737488355328) (w : World)
    (hKt : ∀ {A B C : World}, Kp A B → Kp B C → Kp A C) (hKb : ∀ (W : World) (l : Nat) (o o' : Obj), w.heap.size ≤ l → W.heap[l]? = some o → o.isCells = false → o.isWalk = false → Kp W (W.putObj l o'))
    (hKo : ∀ W W', KeepsOthers W W' → Below w.heap.size W W' → Kp W W')
    (hseq : SeqStopsK F (n - 1) Tryz.prog g lb (fun x : Int => #[Value.int .i64 x]) Kp S Sp N w) :
    CallsIn F n Tryz.prog 68 #[.slice none 0 0, .func (.func g) #[] lb] w fun e w' => ∃ (v : Value) (ss : List Int), e = .returned v ∧ S ss ∧ ss.length ≤ N ∧ w'.ownsRow w.heap.size 3 1 v ss.length (ss.map (Value.int .i64)) ∧ (v = .slice none 0 0 ↔ ss = []) ∧ Below w.heap.size w w' := by
  have h1 : 1 ≤ n := by omega
  obtain ⟨i0, hi, hz0, hz1, hz2⟩ := info_parts info_i
  refine callsIn_of_wp_marks Tryz.func68 rfl (hF _) ?_ hro
  simp only [Tryz.ntmps68, List.size_toArray, List.length_cons, List.length_nil, Nat.reduceAdd, Nat.reduceSub, Array.replicate_succ, Array.replicate_zero, List.push_toArray, List.append_toArray, List.nil_append, List.cons_append]
  gi_wp2
  have bO := Boxed.new w 23 (.slice none 0 0)
  have hB0 : Below w.heap.size w (w.alloc (.cells #[.slice none 0 0] 23)) := (Below.refl _ w).alloc (Nat.le_refl _) _
  refine wpIn_rangeFunc_ownG hro h1 (gf := g) (lb := lb) rfl (hF _) eg (N := N) hseq hKt (fun W l o o' hl h1 h2 h3 => hKb W l o o' (by simp at hl; omega) h1 h2 h3) hB0 (fun _ => rfl)
    (fun pre W => ((∃ v, Boxed W w.heap.size 23 v ∧ W.ownsRow w.heap.size 3 1 v pre.length (pre.map (Value.int .i64)) ∧ (v = .slice none 0 0 ↔ pre = [])) ∧ Below w.heap.size w W) ∧ pre.length ≤ N)
    (fun _ _ _ => False)
    (OwnFrom.and (OwnFrom.and (Own.from (holdsRow_own w.heap.size w.heap.size 23 3 1 (fun pre : List Int => pre.length) (fun pre => pre.map (Value.int .i64)) (fun pre v => v = .slice none 0 0 ↔ pre = [])) _) (ownFrom_below (Nat.le_refl _) (by simp))) (fun _ _ _ _ hs _ _ => hs))
    (fun _ _ _ _ _ hs _ _ => hs)
    ⟨⟨⟨_, bO, World.ownsRow_nil _ _ _ _, by simp⟩, hB0⟩, by simp⟩
    (fun x => { tmps := #[.slice none 0 0, .func (.func g) #[] lb, .pointer (some ⟨w.heap.size, 0, none⟩), undef, .slice none 0 0, .int .i64 x, .func (.func g) #[] lb, .int .i64 x, undef, undef, undef, undef, undef], defers := [] }) ?assign ?body ?done ?stop
  case assign =>
    intro l x W K hK
    gi_wp2_with (rw [Oper.semAt_eq _ _ _ (fun c h => by cases h)]; go_simp; try go_bits)
    exact hK
  case body =>
    rintro l pre x W ⟨⟨⟨v, hv, hrow, hnil⟩, hB⟩, _⟩ hlt
    have hc := hv.cell
    gi_wp2_with (first | (gi_at_builtin; refine wpListIn_append_own _ rfl _ _ 23 rfl w.heap.size 3 i0 (.int .i64 0) 1 8 Tryz.underlying23 hi hz0 hz1 hz2 rfl (by decide) _ _ _ rfl (hrow.alloc _) ⟨W.heap.size, 0, none⟩ 1 1 [.int .i64 x] rfl rfl (cell_one_new _ _ _) (by simp [Value.oneCell']) (by omega) (by omega) (by have := hB.size; simp; omega) ?_; intro v' w1 hown' hgrow _; obtain ⟨g', cap', rfl⟩ := ownsRow_succ hown'; obtain ⟨hv1, hv2, hr2, hk2, hb2⟩ := hv.appended (by decide) hrow hB.size (Nat.le_refl _) hown' hgrow; have hc1 := hv1.cell; have hf1 := hv1.frozen; go_frame) | (rw [Oper.semAt_eq _ _ _ (fun c h => by cases h)]; go_simp; try go_bits))
    exact ⟨hk2.from _, hKo _ _ hk2 hb2, ⟨⟨_, hv2, by simpa using hr2, by simp⟩, hB.trans hb2⟩, by simp; omega⟩
  case done =>
    rintro D ys W hD hS ⟨⟨⟨v, hv, hrow, hnil⟩, hB⟩, hlen⟩ hK
    have hc := hv.cell
    gi_wp2
    refine ⟨by simp, .inl ⟨_, _, rfl, run_takeDeferred hK, ?_⟩⟩
    exact ⟨_, results_tmp rfl _ _ _, v, ys, rfl, hS, hlen, ownsRow_putObj hrow _ hK rfl, hnil, hB.trans (belowK_b (w := w) (Nat.le_refl _) W D _ _ (by simp at hD; omega) hK rfl rfl)⟩
  case stop =>
    rintro D c pre W _ _ h _
    exact h.elim
set_option maxHeartbeats 1000000 in
theorem collect_i (F : Fence) (hF : ∀ f, F.fn f) (n : Nat) (hro : F.round = none) (hn : 3 ≤ n) (g : Nat) (lb : Array Value) (eg : ∀ args w, (callFunc g args).run Tryz.prog w = .ok (.enter g args) w)
    (Kp : World → World → Prop) (S Sp : List Int → Prop) (N : Nat) (hN : N ≤ maxLen) (hNb : N * 8 ≤ 140737488355328) (w : World)
    (hKt : ∀ {A B C : World}, Kp A B → Kp B C → Kp A C) (hKb : ∀ (W : World) (l : Nat) (o o' : Obj), w.heap.size ≤ l → W.heap[l]? = some o → o.isCells = false → o.isWalk = false → Kp W (W.putObj l o'))
    (hKo : ∀ W W', KeepsOthers W W' → Below w.heap.size W W' → Kp W W')
    (hseq : SeqStopsK F (n - 1 - 1) Tryz.prog g lb (fun x : Int => #[Value.int .i64 x]) Kp S Sp N w) :
    CallsIn F n Tryz.prog 60 #[.func (.func g) #[] lb] w fun e w' => ∃ (v : Value) (ss : List Int), e = .returned v ∧ S ss ∧ ss.length ≤ N ∧ w'.ownsRow w.heap.size 3 1 v ss.length (ss.map (Value.int .i64)) ∧ (v = .slice none 0 0 ↔ ss = []) ∧ Below w.heap.size w w' := by
  have h1 : 1 ≤ n := by omega
  refine callsIn_of_wp Tryz.func60 rfl (hF _) ?_ hro
  simp only [Tryz.ntmps60, List.size_toArray, List.length_cons, List.length_nil, Nat.reduceAdd, Nat.reduceSub, Array.replicate_succ, Array.replicate_zero, List.push_toArray, List.append_toArray, List.nil_append, List.cons_append]
  gi_wp2_with (gi_at_call 68; refine (append_i F hF (n - 1) hro (by omega) g lb eg Kp S Sp N hN hNb _ hKt hKb hKo hseq).mono ?_; rintro e w' ⟨v, ss, rfl, hS, hlen, hrow, hnil, hb⟩)
  go_ret
  exact ⟨v, ss, rfl, hS, hlen, hrow, hnil, hb⟩
def Sorts_i (F : Fence) (m : Nat) : Prop :=
  (∀ (blk off cap : Nat) (ss : List Int) (W : World), Holds (Value.int .i64) W blk off ss.toArray → blk < W.heap.size → ss.length < 4611686018427387904 →
    CallsIn F m Tryz.prog 61 #[.slice (some ⟨blk, off, none⟩) ss.length cap] W fun e w' => e = .returned (.tuple #[]) ∧ ∃ k os, w' = grow (putRow (Value.int .i64) (Sort.ahead W k) blk off (ss.mergeSort fun x y => decide (x ≤ y)).toArray) os) ∧
  (∀ (p : Option Addr) (cap : Nat) (W : World), CallsIn F m Tryz.prog 61 #[.slice p 0 cap] W fun e w' => e = .returned (.tuple #[]) ∧ w' = W)
set_option maxRecDepth 100000 in
set_option maxHeartbeats 2000000 in
theorem sorted_i (F : Fence) (hF : ∀ f, F.fn f) (n : Nat) (hro : F.round = none) (hn : 4 ≤ n) (hsort : Sorts_i F (n - 1)) (g : Nat) (lb : Array Value) (eg : ∀ args w, (callFunc g args).run Tryz.prog w = .ok (.enter g args) w)
    (Kp : World → World → Prop) (S Sp : List Int → Prop) (N : Nat) (hN : N ≤ maxLen) (hNb : N * 8 ≤ 140737488355328) (w : World)
    (hKt : ∀ {A B C : World}, Kp A B → Kp B C → Kp A C) (hKb : ∀ (W : World) (l : Nat) (o o' : Obj), w.heap.size ≤ l → W.heap[l]? = some o → o.isCells = false → o.isWalk = false → Kp W (W.putObj l o'))
    (hKo : ∀ W W', KeepsOthers W W' → Below w.heap.size W W' → Kp W W')
    (hseq : SeqStopsK F (n - 1 - 1 - 1) Tryz.prog g lb (fun x : Int => #[Value.int .i64 x]) Kp S Sp N w) :
    CallsIn F n Tryz.prog 49 #[.func (.func g) #[] lb] w fun e w' => ∃ (v : Value) (ss : List Int), e = .returned v ∧ S ss ∧ ss.length ≤ N ∧
      w'.ownsRow w.heap.size 3 1 v ss.length ((ss.mergeSort (fun x y => decide (x ≤ y))).map (Value.int .i64)) ∧ (v = .slice none 0 0 ↔ ss = []) ∧ Below w.heap.size w w' := by
  have h1 : 1 ≤ n := by omega
  have hN2 : N < 4611686018427387904 := by omega
  refine callsIn_of_wp Tryz.func49 rfl (hF _) ?_ hro
  simp only [Tryz.ntmps49, List.size_toArray, List.length_cons, List.length_nil, Nat.reduceAdd, Nat.reduceSub, Array.replicate_succ, Array.replicate_zero, List.push_toArray, List.append_toArray, List.nil_append, List.cons_append]
  gi_wp2_with (gi_at_call 60; refine (collect_i F hF (n - 1) hro (by omega) g lb eg Kp S Sp N hN hNb _ hKt hKb hKo hseq).mono ?_; rintro e W ⟨v, ss, rfl, hS, hlen, hrow, hnil, hb⟩)
  rcases hrow.2 with ⟨rfl, hz⟩ | ⟨gb, cap, cur, rfl, hbase, hgb, r1, r2, r3, r4⟩
  · have hss : ss = [] := List.eq_nil_of_length_eq_zero hz
    subst hss
    gi_wp2_with (gi_at_call 61; refine (hsort.2 none 0 W).mono ?_; rintro e w' ⟨rfl, rfl⟩)
    go_ret
    exact ⟨.slice none 0 0, [], rfl, hS, by simp, by simpa using hrow, by simp, hb⟩
  · have hH : Holds (Value.int .i64) W gb 0 ss.toArray := holds_of_blockE _ hgb (by simpa using r4)
    have hgl : gb < W.heap.size := (Array.getElem?_eq_some_iff.1 hgb).1
    have cS := hsort.1 gb 0 cap ss W hH hgl (by omega)
    gi_wp2_with (gi_at_call 61; refine cS.mono ?_; rintro e w' ⟨rfl, nn, os, rfl⟩)
    go_ret
    exact ⟨_, ss, rfl, hS, hlen, ownsRow_sortedE _ (by simp) hbase hgb r1 r2 r3, hnil, hb.grown (grownBy_sortedE _ _) hb.size (fun j hj => by cases hj; exact hbase)⟩
theorem sorts_i (m : Nat) : Sorts_i Fence.wide m :=
  ⟨fun blk off cap ss W hH hblk hsz => callsIn_wide.2 (Tryz.slices_Sort_int blk off cap ss W hH hblk hsz), fun p cap W => callsIn_wide.2 (Tryz.slices_Sort_int_none p cap W)⟩
end Go.Proofs.YtgeaaegkcbjhlaaGreat
/-
  DERIVED: THE SHELF's CONTRACTS AT THIS DUMP, IN PLAIN WORDS (tools/lay-plain.mjs out of 'TryzShelf2.lean', which tools/lay-shelf.mjs wrote): THE SAME DECLARATIONS UNDER THE SAME NAMES: 'import', 'namespace', 'open', 'def', 'theorem' AND NOTHING ELSE: no command of the shelf's: FOR A HAND-IN. Each laying: the table of numbers ('.._ren') and one theorem, a field a fact of the dump's own or the kernel's comparison; each contract: ONE APPLICATION.
-/
namespace Go.Proofs
open Go.Shelf
def Tryz.sortPairs_ren : Go.Shelf.Ren := ⟨fun | 6 => 53 | 15 => 65 | 14 => 64 | 28 => 78 | 29 => 79 | 20 => 70 | 21 => 71 | 22 => 72 | 23 => 73 | 24 => 74 | 25 => 75 | 26 => 76 | 27 => 77 | 46 => 98 | 47 => 99 | 48 => 100 | 49 => 101 | 50 => 102 | 57 => 111 | n => n, fun | 22 => 29 | 24 => 41 | 25 => 60 | 3 => 3 | 39 => 82 | 0 => 0 | 53 => 35 | 55 => 97 | 4 => 4 | 46 => 89 | 45 => 88 | 50 => 93 | 5 => 5 | 9 => 9 | 66 => 110 | 70 => 114 | 76 => 120 | 77 => 121 | n => n, fun | n => n⟩
theorem Tryz.sortPairs : Go.Proofs.SlLaysF0.n6 Tryz.prog Tryz.sortPairs_ren := {
  mixed := by kernel_rfl
  f6 := ⟨Tryz.f53.name, by decide, Tryz.func53.trans (congrArg some (by kernel_rfl))⟩
  f14 := ⟨Tryz.f64.name, by decide, Tryz.func64.trans (congrArg some (by kernel_rfl))⟩
  f15 := Tryz.func65.trans (congrArg some (by kernel_rfl))
  f20 := ⟨Tryz.f70.name, by decide, Tryz.func70.trans (congrArg some (by kernel_rfl))⟩
  f21 := ⟨Tryz.f71.name, by decide, Tryz.func71.trans (congrArg some (by kernel_rfl))⟩
  f22 := ⟨Tryz.f72.name, by decide, Tryz.func72.trans (congrArg some (by kernel_rfl))⟩
  f23 := ⟨Tryz.f73.name, by decide, Tryz.func73.trans (congrArg some (by kernel_rfl))⟩
  f24 := ⟨Tryz.f74.name, by decide, Tryz.func74.trans (congrArg some (by kernel_rfl))⟩
  f25 := ⟨Tryz.f75.name, by decide, Tryz.func75.trans (congrArg some (by kernel_rfl))⟩
  f26 := ⟨Tryz.f76.name, by decide, Tryz.func76.trans (congrArg some (by kernel_rfl))⟩
  f27 := ⟨Tryz.f77.name, by decide, Tryz.func77.trans (congrArg some (by kernel_rfl))⟩
  f28 := Tryz.func78.trans (congrArg some (by kernel_rfl))
  f29 := Tryz.func79.trans (congrArg some (by kernel_rfl))
  f46 := ⟨Tryz.f98.name, by decide, Tryz.func98.trans (congrArg some (by kernel_rfl))⟩
  f47 := Tryz.func99.trans (congrArg some (by kernel_rfl))
  f48 := Tryz.func100.trans (congrArg some (by kernel_rfl))
  f49 := ⟨Tryz.f101.name, by decide, Tryz.func101.trans (congrArg some (by kernel_rfl))⟩
  f50 := ⟨Tryz.f102.name, by decide, Tryz.func102.trans (congrArg some (by kernel_rfl))⟩
  f57 := ⟨Tryz.f111.name, by decide, Tryz.func111.trans (congrArg some (by kernel_rfl))⟩
  t0 := Tryz.underlying0
  a0 := Tryz.isAgg0
  z0 := Tryz.sizeOf0
  v0 := Tryz.zeroValue0
  t3 := Tryz.underlying3
  a3 := Tryz.isAgg3
  z3 := Tryz.sizeOf3
  v3 := Tryz.zeroValue3
  t4 := Tryz.underlying4
  a4 := Tryz.isAgg4
  z4 := Tryz.sizeOf4
  v4 := Tryz.zeroValue4
  t5 := Tryz.underlying5
  a5 := Tryz.isAgg5
  z5 := Tryz.sizeOf5
  v5 := Tryz.zeroValue5
  t9 := Tryz.underlying9
  a9 := Tryz.isAgg9
  z9 := Tryz.sizeOf9
  v9 := Tryz.zeroValue9
  t22 := Tryz.underlying29
  a22 := Tryz.isAgg29
  z22 := Tryz.sizeOf29
  v22 := Tryz.zeroValue29
  t25 := Tryz.underlying60
  a25 := Tryz.isAgg60
  z25 := Tryz.sizeOf60
  v25 := Tryz.zeroValue60
  t39 := Tryz.underlying82
  a39 := Tryz.isAgg82
  z39 := Tryz.sizeOf82
  v39 := Tryz.zeroValue82
  t45 := Tryz.underlying88
  a45 := Tryz.isAgg88
  z45 := Tryz.sizeOf88
  v45 := Tryz.zeroValue88
  t46 := Tryz.underlying89
  a46 := Tryz.isAgg89
  z46 := Tryz.sizeOf89
  v46 := Tryz.zeroValue89
  t50 := Tryz.underlying93
  a50 := Tryz.isAgg93
  z50 := Tryz.sizeOf93
  v50 := Tryz.zeroValue93
  t53 := Tryz.underlying35
  a53 := Tryz.isAgg35
  z53 := Tryz.sizeOf35
  v53 := Tryz.zeroValue35
  t55 := Tryz.underlying97
  a55 := Tryz.isAgg97
  z55 := Tryz.sizeOf97
  v55 := Tryz.zeroValue97
  t66 := Tryz.underlying110
  a66 := Tryz.isAgg110
  z66 := Tryz.sizeOf110
  v66 := Tryz.zeroValue110
  t70 := Tryz.underlying114
  a70 := Tryz.isAgg114
  z70 := Tryz.sizeOf114
  v70 := Tryz.zeroValue114
  t76 := Tryz.underlying120
  a76 := Tryz.isAgg120
  z76 := Tryz.sizeOf120
  v76 := Tryz.zeroValue120
  t77 := Tryz.underlying121
  a77 := Tryz.isAgg121
  z77 := Tryz.sizeOf121
  v77 := Tryz.zeroValue121 }
end Go.Proofs
/- Pairs of places: how they are compared; slices.AppendSeq, Collect, SortedFunc at pairs, against whatever iterator value; 'pairs'. -/
namespace Go.Proofs.YtgeaaegkcbjhlaaGreat
open Go.RowKit Go.Shelf Go.Maps Go.Sort
/-- two places -/
abbrev P2 := Fin 65536 × Fin 65536
def encP (x : P2) : List Value := [.int .i64 (x.1.val : Int), .int .i64 (x.2.val : Int)]
def aggP (x : P2) : Value := .agg #[.int .i64 (x.1.val : Int), .int .i64 (x.2.val : Int)]
def cmpP (x y : P2) : Int := if x.1.val = y.1.val then (x.2.val : Int) - (y.2.val : Int) else (x.1.val : Int) - (y.1.val : Int)
def ltP (x y : P2) : Bool := decide (x.1.val < y.1.val ∨ (x.1.val = y.1.val ∧ x.2.val < y.2.val))
theorem ltOf_cmpP (x y : P2) : ltOf cmpP x y = ltP x y := by
  unfold ltOf ltP cmpP
  by_cases h : x.1.val = y.1.val
  · rw [if_pos h]
    refine decide_eq_decide.2 ?_
    omega
  · rw [if_neg h]
    refine decide_eq_decide.2 ?_
    omega
theorem swoP : SWO (ltOf cmpP) where
  irrefl x := by rw [ltOf_cmpP]; simp [ltP]
  trans x y z h1 h2 := by rw [ltOf_cmpP] at *; simp only [ltP, decide_eq_true_eq] at *; omega
  ntrans x y z h1 h2 := by rw [ltOf_cmpP] at *; simp only [ltP, decide_eq_false_iff_not] at *; omega
set_option maxHeartbeats 1000000 in
theorem cmpP_c (x y : P2) (W : World) : Calls Tryz.prog 39 #[aggP x, aggP y] W fun e w' => e = .returned (.int .i64 (cmpP x y)) ∧ ∃ q os', w' = grow (W.drewN q) os' := by
  obtain ⟨⟨a, ha⟩, ⟨b, hb⟩⟩ := x
  obtain ⟨⟨c, hc⟩, ⟨d, hd⟩⟩ := y
  unfold aggP cmpP
  dsimp only
  by_cases h : a = c
  · rw [if_pos h]
    subst h
    have h1 : ((a : Int) != (a : Int)) = false := by simp
    go_enter Tryz.func39, Tryz.ntmps39
    go_wp2
    go_ret
    exact ⟨rfl, 0, _, by rw [alloc_eq_grow, alloc_eq_grow, grow_grow]; rfl⟩
  · rw [if_neg h]
    have h1 : ((a : Int) != (c : Int)) = true := by simp; omega
    have h2 : (a != c) = true := by simpa using h
    clear h
    go_enter Tryz.func39, Tryz.ntmps39
    go_wp2
    go_ret
    exact ⟨rfl, 0, _, by rw [alloc_eq_grow, alloc_eq_grow, grow_grow]; rfl⟩
theorem cmpLaysP (blk off size : Nat) (w : World) : CmpLays Tryz.prog 39 #[] encP 2 cmpP blk off size w :=
  fun _ _ _ _ x y => cmpP_c x y _
theorem sortPairs_c (blk off cap : Nat) (d : Array P2) (w : World) (hH : HoldsK encP 2 w blk off d) (hblk : blk < w.heap.size) (hsz : d.size < 4611686018427387904) :
    Calls Tryz.prog 53 #[.slice (some ⟨blk, off, none⟩) d.size cap, .func (.func 39) #[] #[]] w fun e w' => e = .returned (.tuple #[]) ∧ ∃ d' n os, PermIn 0 d.size d d' ∧ SortedIn ltP 0 d.size d' ∧ w' = sortWorldK encP 2 w blk off n d' os := by
  have h := AnyQ.slices_SortFunc Tryz.sortPairs 2 Tryz.isAgg41 Tryz.sizeOf41 encP (fun _ => rfl) (fun x v hv => by simp [encP] at hv; rcases hv with rfl | rfl <;> rfl) cmpP swoP 39 #[] blk off cap d w (enters_of Tryz.func39 (by kernel_rfl) rfl) (cmpLaysP blk off d.size w) hH hblk hsz
  refine Calls.mono h ?_
  rintro e w' ⟨he, d', n, os, hp, hs, hw⟩
  exact ⟨he, d', n, os, hp, fun i j h1 h2 h3 => by rw [← ltOf_cmpP]; exact hs i j h1 h2 h3, hw⟩
theorem sortPairs_none (p : Option Addr) (cap : Nat) (fv : Value) (w : World) :
    Calls Tryz.prog 53 #[.slice p 0 cap, fv] w fun e w' => e = .returned (.tuple #[]) ∧ w' = w := AnyF.slices_SortFunc_none Tryz.sortPairs p cap fv w
end Go.Proofs.YtgeaaegkcbjhlaaGreat
/- slices.AppendSeq(nil, ..), Collect, SortedFunc at pairs, against whatever iterator value; 'pairs'. -/
namespace Go.Proofs.YtgeaaegkcbjhlaaGreat
open Go.RowKit Go.Shelf Go.Maps Go.Sort
def flatP (l : List P2) : List Value := l.flatMap encP
theorem flatP_snoc (l : List P2) (x : P2) : flatP (l ++ [x]) = flatP l ++ [.int .i64 (x.1.val : Int), .int .i64 (x.2.val : Int)] := by
  simp [flatP, encP, List.flatMap_append]
theorem flatP_length (l : List P2) : (flatP l).length = l.length * 2 := by
  unfold flatP
  induction l with
  | nil => rfl
  | cons x r ih => simp [encP, ih]; omega
theorem info_p : (Tryz.prog.info? 41).map (fun i => (i.zero, i.size, i.bytes)) = some (some (.agg #[.int .i64 0, .int .i64 0]), 2, 16) := by kernel_rfl
theorem cell_two_at {W : World} {p : Nat} {u v : Value} {t : TypeId} (h : W.heap[p]? = some (.cells #[u, v] t (0, 0))) : W.cell? ⟨p, 0, none⟩ = some u ∧ W.cell? ⟨p, 1, none⟩ = some v := by
  constructor <;> simp [World.cell?, h]
theorem cell_two_new' (W : World) (u v : Value) (t : TypeId) : ∀ j x, [u, v][j]? = some x → (W.alloc (.cells #[u, v] t)).cell? ((⟨W.heap.size, 0, none⟩ : Addr).add j) = some x := by
  intro j x h
  match j, h with
  | 0, h => simp at h; subst h; simp [Addr.add]
  | 1, h => simp at h; subst h; simp [Addr.add]
set_option maxRecDepth 100000 in
set_option maxHeartbeats 2000000 in
theorem append_p (F : Fence) (hF : ∀ f, F.fn f) (n : Nat) (hro : F.round = none) (hn : 2 ≤ n) (g : Nat) (lb : Array Value) (eg : ∀ args w, (callFunc g args).run Tryz.prog w = .ok (.enter g args) w)
    (Kp : World → World → Prop) (S Sp : List P2 → Prop) (N : Nat) (hN : N ≤ 4294967296) (w : World)
    (hKt : ∀ {A B C : World}, Kp A B → Kp B C → Kp A C) (hKb : ∀ (W : World) (l : Nat) (o o' : Obj), w.heap.size ≤ l → W.heap[l]? = some o → o.isCells = false → o.isWalk = false → Kp W (W.putObj l o'))
    (hKo : ∀ W W', KeepsOthers W W' → Below w.heap.size W W' → Kp W W')
    (hseq : SeqStopsK F (n - 1) Tryz.prog g lb (fun x : P2 => #[.agg #[.int .i64 (x.1.val : Int), .int .i64 (x.2.val : Int)]]) Kp S Sp N w) :
    CallsIn F n Tryz.prog 63 #[.slice none 0 0, .func (.func g) #[] lb] w fun e w' => ∃ (v : Value) (ss : List P2), e = .returned v ∧ S ss ∧ ss.length ≤ N ∧ w'.ownsRow w.heap.size 41 2 v ss.length (flatP ss) ∧ (v = .slice none 0 0 ↔ ss = []) ∧ Below w.heap.size w w' := by
  have h1 : 1 ≤ n := by omega
  obtain ⟨i0, hi, jz0, jz1, jz2⟩ := info_parts info_p
  refine callsIn_of_wp_marks Tryz.func63 rfl (hF _) ?_ hro
  simp only [Tryz.ntmps63, List.size_toArray, List.length_cons, List.length_nil, Nat.reduceAdd, Nat.reduceSub, Array.replicate_succ, Array.replicate_zero, List.push_toArray, List.append_toArray, List.nil_append, List.cons_append]
  gi_wp2
  have bO := Boxed.new w 29 (.slice none 0 0)
  have hB0 : Below w.heap.size w (w.alloc (.cells #[.slice none 0 0] 29)) := (Below.refl _ w).alloc (Nat.le_refl _) _
  refine wpIn_rangeFunc_ownH hro h1 (gf := g) (lb := lb) rfl (hF _) eg (N := N) hseq hKt (fun W l o o' hl h1 h2 h3 => hKb W l o o' (by simp at hl; omega) h1 h2 h3) hB0 (fun _ => rfl)
    (fun pre W => ((∃ v, Boxed W w.heap.size 29 v ∧ W.ownsRow w.heap.size 41 2 v pre.length (flatP pre) ∧ (v = .slice none 0 0 ↔ pre = [])) ∧ Below w.heap.size w W) ∧ pre.length ≤ N)
    (fun _ _ _ => False)
    (OwnFrom.and (OwnFrom.and (Own.from (holdsRow_own w.heap.size w.heap.size 29 41 2 (fun pre : List P2 => pre.length) (fun pre => flatP pre) (fun pre v => v = .slice none 0 0 ↔ pre = [])) _) (ownFrom_below (Nat.le_refl _) (by simp))) (fun _ _ _ _ hs _ _ => hs))
    (fun _ _ _ _ _ hs _ _ => hs)
    ⟨⟨⟨_, bO, World.ownsRow_nil _ _ _ _, by simp⟩, hB0⟩, by simp⟩
    (fun x a' W => ∃ p, w.heap.size ≤ p ∧ W.heap[p]? = some (.cells #[.int .i64 (x.1.val : Int), .int .i64 (x.2.val : Int)] 41 (0, 0)) ∧ a' = { tmps := #[.slice none 0 0, .func (.func g) #[] lb, .pointer (some ⟨w.heap.size, 0, none⟩), undef, .slice none 0 0, .pointer (some ⟨p, 0, none⟩), .func (.func g) #[] lb, .agg #[.int .i64 (x.1.val : Int), .int .i64 (x.2.val : Int)], undef, undef, undef, undef, undef], defers := [] }) ?hAx ?assign ?body ?done ?stop
  case hAx =>
    rintro x a' _ W W' row ⟨p, hp, hpc, he⟩ hg hr
    refine ⟨p, hp, (hg.block p (Array.getElem?_eq_some_iff.1 hpc).1 ?_).trans hpc, he⟩
    intro e
    obtain ⟨_, o, ho, hc⟩ := hr p e.symm
    rw [hpc] at ho; cases ho; cases hc
  case assign =>
    intro l pre x W K hI hK
    gi_wp2_with (rw [Oper.semAt_eq _ _ _ (fun c h => by cases h)]; go_simp; try go_bits)
    obtain ⟨⟨⟨v, hv, hrow, hnil⟩, hB⟩, hl⟩ := hI
    refine hK _ _ ((KeepsOthers.alloc _ _).from _) (hKo _ _ (KeepsOthers.alloc _ _) ((Below.refl _ _).alloc hB.size _)) ⟨⟨⟨v, hv.alloc _, hrow.alloc _, hnil⟩, hB.alloc hB.size _⟩, hl⟩ ⟨W.heap.size, hB.size, World.alloc_heap_new W _, rfl⟩
  case body =>
    rintro l pre x a' W hl9 hr9 ⟨⟨⟨v, hv, hrow, hnil⟩, hB⟩, _⟩ ⟨p, hp, hpc, rfl⟩ hlt
    have hc := hv.cell
    obtain ⟨hp0, hp1⟩ := cell_two_at hpc
    gi_wp2_with (first | (gi_at_builtin; refine wpListIn_append_own _ rfl _ _ 29 rfl w.heap.size 41 i0 (.agg #[.int .i64 0, .int .i64 0]) 2 16 Tryz.underlying29 hi jz0 jz1 jz2 rfl (by decide) _ _ _ rfl (hrow.alloc _) ⟨W.heap.size, 0, none⟩ 1 1 [.int .i64 (x.1.val : Int), .int .i64 (x.2.val : Int)] rfl rfl (cell_two_new' _ _ _ _) (by simp [Value.oneCell']) (by unfold maxLen; omega) (by omega) (by have := hB.size; simp; omega) ?_; intro v' w1 hown' hgrow _; obtain ⟨g', cap', rfl⟩ := ownsRow_succ hown'; obtain ⟨hv1, hv2, hr2, hk2, hb2⟩ := hv.appended (by decide) hrow hB.size (Nat.le_refl _) hown' hgrow; have hc1 := hv1.cell; have hf1 := hv1.frozen; go_frame) | (rw [Oper.semAt_eq _ _ _ (fun c h => by cases h)]; go_simp; try go_bits))
    exact ⟨hk2.from _, hKo _ _ hk2 hb2, ⟨⟨_, hv2, by rw [flatP_snoc]; simpa using hr2, by simp⟩, hB.trans hb2⟩, by simp; omega⟩
  case done =>
    rintro D ys W hD hS ⟨⟨⟨v, hv, hrow, hnil⟩, hB⟩, hlen⟩ hK
    have hc := hv.cell
    gi_wp2
    refine ⟨by simp, .inl ⟨_, _, rfl, run_takeDeferred hK, ?_⟩⟩
    exact ⟨_, results_tmp rfl _ _ _, v, ys, rfl, hS, hlen, ownsRow_putObj hrow _ hK rfl, hnil, hB.trans (belowK_b (w := w) (Nat.le_refl _) W D _ _ (by simp at hD; omega) hK rfl rfl)⟩
  case stop =>
    rintro D c pre W _ _ h _
    exact h.elim
set_option maxHeartbeats 1000000 in
theorem collect_p (F : Fence) (hF : ∀ f, F.fn f) (n : Nat) (hro : F.round = none) (hn : 3 ≤ n) (g : Nat) (lb : Array Value) (eg : ∀ args w, (callFunc g args).run Tryz.prog w = .ok (.enter g args) w)
    (Kp : World → World → Prop) (S Sp : List P2 → Prop) (N : Nat) (hN : N ≤ 4294967296) (w : World)
    (hKt : ∀ {A B C : World}, Kp A B → Kp B C → Kp A C) (hKb : ∀ (W : World) (l : Nat) (o o' : Obj), w.heap.size ≤ l → W.heap[l]? = some o → o.isCells = false → o.isWalk = false → Kp W (W.putObj l o'))
    (hKo : ∀ W W', KeepsOthers W W' → Below w.heap.size W W' → Kp W W')
    (hseq : SeqStopsK F (n - 1 - 1) Tryz.prog g lb (fun x : P2 => #[.agg #[.int .i64 (x.1.val : Int), .int .i64 (x.2.val : Int)]]) Kp S Sp N w) :
    CallsIn F n Tryz.prog 52 #[.func (.func g) #[] lb] w fun e w' => ∃ (v : Value) (ss : List P2), e = .returned v ∧ S ss ∧ ss.length ≤ N ∧ w'.ownsRow w.heap.size 41 2 v ss.length (flatP ss) ∧ (v = .slice none 0 0 ↔ ss = []) ∧ Below w.heap.size w w' := by
  have h1 : 1 ≤ n := by omega
  refine callsIn_of_wp Tryz.func52 rfl (hF _) ?_ hro
  simp only [Tryz.ntmps52, List.size_toArray, List.length_cons, List.length_nil, Nat.reduceAdd, Nat.reduceSub, Array.replicate_succ, Array.replicate_zero, List.push_toArray, List.append_toArray, List.nil_append, List.cons_append]
  gi_wp2_with (gi_at_call 63; refine (append_p F hF (n - 1) hro (by omega) g lb eg Kp S Sp N hN _ hKt hKb hKo hseq).mono ?_; rintro e w' ⟨v, ss, rfl, hS, hlen, hrow, hnil, hb⟩)
  go_ret
  exact ⟨v, ss, rfl, hS, hlen, hrow, hnil, hb⟩
end Go.Proofs.YtgeaaegkcbjhlaaGreat
/- slices.SortedFunc at pairs; 'pairs'. -/
namespace Go.Proofs.YtgeaaegkcbjhlaaGreat
open Go.RowKit Go.Shelf Go.Maps Go.Sort
theorem flatP_get : ∀ (l : List P2) (t : Nat), t < l.length * 2 → (flatP l)[t]? = some ((encP (l.getD (t / 2) default))[t % 2]!)
  | [], t, h => by simp at h
  | x :: r, 0, _ => by simp [flatP, encP]
  | x :: r, 1, _ => by simp [flatP, encP]
  | x :: r, t + 2, h => by
    have ih := flatP_get r t (by simp at h; omega)
    have e1 : (t + 2) / 2 = t / 2 + 1 := by omega
    have e2 : (t + 2) % 2 = t % 2 := by omega
    rw [e1, e2, List.getD_cons_succ, ← ih]
    simp [flatP, encP]
theorem flatK_toList (l : List P2) : (flatK encP 2 l.toArray).toList = flatP l := by
  apply List.ext_getElem?
  intro t
  by_cases h : t < l.length * 2
  · rw [flatP_get l t h]
    have h2 : t / 2 < l.length := by omega
    simp [flatK, h, List.getD, h2]
  · rw [List.getElem?_eq_none (by simp; omega), List.getElem?_eq_none (by rw [flatP_length]; omega)]
theorem holds_of_blockV {w : World} {g : Nat} {cur : Array Value} {e : TypeId} {F : Array Value} (hb : w.heap[g]? = some (.cells cur e (0, 0))) (ht : cur.toList.take F.size = F.toList) : Holds id w g 0 F := by
  intro j hj
  refine ⟨?_, by simp [World.frozen?, hb]⟩
  have h1 : (cur.toList.take F.size)[j]? = F.toList[j]? := by rw [ht]
  rw [List.getElem?_take_of_lt hj] at h1
  simp only [World.cell?, hb, Nat.zero_add]
  simp only [Option.isSome_none, Bool.false_eq_true, if_false]
  rw [← Array.getElem?_toList, h1]
  simp [hj]
theorem heap_sortedV {w : World} {g n : Nat} {os : Array Obj} {cur : Array Value} {e : TypeId} {fr : Nat × Nat} (F : Array Value) (hb : w.heap[g]? = some (.cells cur e fr)) :
    (grow (putRow id (Sort.ahead w n) g 0 F) os).heap[g]? = some (.cells (putCells id 0 F cur) e fr) := by
  have hg : g < w.heap.size := (Array.getElem?_eq_some_iff.1 hb).1
  rw [heap_grow_old _ _ (by simpa using hg)]
  simp [putRow, mapBlock, Sort.ahead, Array.getElem?_modify, hb, onCells]
theorem grownBy_sortedV {w : World} {g n : Nat} {os : Array Obj} (F : Array Value) : w.grownBy (grow (putRow id (Sort.ahead w n) g 0 F) os) (some g) := by
  refine ⟨rfl, rfl, rfl, by simp, fun k hk hne => ?_⟩
  rw [heap_grow_old _ _ (by simpa using hk)]
  have : g ≠ k := fun e => hne (by rw [e])
  simp [putRow, mapBlock, Sort.ahead, Array.getElem?_modify, this]
theorem take_putCellsV (cur F : Array Value) (h : F.size ≤ cur.size) : (putCells id 0 F cur).toList.take F.size = F.toList := by
  apply List.ext_getElem?
  intro j
  by_cases hj : j < F.size
  · rw [List.getElem?_take_of_lt hj, Array.getElem?_toList]
    simp [putCells, hj, show j < cur.size by omega]
  · rw [List.getElem?_take_eq_none (by omega), List.getElem?_eq_none (by simp; omega)]
theorem ownsRow_sortedV {w : World} {base g cap n k : Nat} {e : TypeId} {os : Array Obj} {cur F : Array Value} (hl : F.size = k * 2) (hbase : base ≤ g) (hb : w.heap[g]? = some (.cells cur e (0, 0)))
    (h1 : k ≤ cap) (h2 : cap ≤ maxLen) (h3 : cur.size = cap * 2) :
    (grow (putRow id (Sort.ahead w n) g 0 F) os).ownsRow base e 2 (.slice (some ⟨g, 0, none⟩) k cap) k F.toList :=
  ⟨by simp [hl], .inr ⟨g, cap, _, rfl, hbase, heap_sortedV _ hb, h1, h2, by simp [putCells, h3], by rw [← hl]; exact take_putCellsV cur F (by omega)⟩⟩
/-- pairs by rising places -/
def sortP (l : List P2) : List P2 := l.mergeSort (fun x y => !ltP y x)
theorem sortP_unique (d d' : Array P2) (hp : PermIn 0 d.size d d') (hs : SortedIn ltP 0 d.size d') : d'.toList = sortP d.toList := by
  have e : ltOf cmpP = ltP := by funext x y; exact ltOf_cmpP x y
  have sw : SWO ltP := by rw [← e]; exact swoP
  exact sorted_unique_holds sw (fun x y h1 h2 => by
    simp only [ltP, decide_eq_false_iff_not] at h1 h2
    have a : x.1 = y.1 := Fin.ext (by omega)
    have b : x.2 = y.2 := Fin.ext (by omega)
    exact Prod.ext a b) d d' hp hs
/-- Below block B, the slice s holds these pairs. -/
def PairsIn (B : Nat) (w : World) (s : Sl) (l : List P2) : Prop :=
  s.n = l.length ∧ l.length ≤ 1152921504606846976 ∧
  (l = [] ∨ ∃ b off, s.a = some ⟨b, off, none⟩ ∧ b < B ∧ ∀ k, k < l.length → w.cell? ⟨b, off + k * 2, none⟩ = some (.int .i64 ((l.getD k default).1.val : Int)) ∧ w.cell? ⟨b, off + k * 2 + 1, none⟩ = some (.int .i64 ((l.getD k default).2.val : Int)))
theorem PairsIn.below {B : Nat} {w w' : World} {s : Sl} {l : List P2} (h : PairsIn B w s l) (hb : Below B w w') : PairsIn B w' s l := by
  obtain ⟨h1, h2, h3⟩ := h
  refine ⟨h1, h2, ?_⟩
  rcases h3 with h3 | ⟨b, off, h4, h5, h6⟩
  · exact Or.inl h3
  · exact Or.inr ⟨b, off, h4, h5, fun k hk => by rw [hb.cell (by exact h5), hb.cell (by exact h5)]; exact h6 k hk⟩
theorem PairsIn.mono {B B' : Nat} {w : World} {s : Sl} {l : List P2} (h : PairsIn B w s l) (hB : B ≤ B') : PairsIn B' w s l := by
  obtain ⟨h1, h2, h3⟩ := h
  refine ⟨h1, h2, ?_⟩
  rcases h3 with h3 | ⟨b, off, h4, h5, h6⟩
  · exact Or.inl h3
  · exact Or.inr ⟨b, off, h4, by omega, h6⟩
theorem row_pairs {w : World} {base : Nat} {e : TypeId} {v : Value} {l : List P2} (hl : l.length ≤ 1152921504606846976) (h : w.ownsRow base e 2 v l.length (flatP l)) :
    ∃ s : Sl, v = .slice s.a s.n s.c ∧ PairsIn w.heap.size w s l := by
  rcases h.2 with ⟨rfl, hz⟩ | ⟨gb, cap, cur, rfl, hbase, hgb, r1, r2, r3, r4⟩
  · have : l = [] := List.eq_nil_of_length_eq_zero hz
    subst this
    exact ⟨⟨none, 0, 0⟩, rfl, rfl, by simp, Or.inl rfl⟩
  · refine ⟨⟨some ⟨gb, 0, none⟩, l.length, cap⟩, rfl, rfl, hl, Or.inr ⟨gb, 0, rfl, (Array.getElem?_eq_some_iff.1 hgb).1, fun k hk => ?_⟩⟩
    have hg : ∀ t, t < l.length * 2 → w.cell? ⟨gb, 0 + t, none⟩ = some ((encP (l.getD (t / 2) default))[t % 2]!) := by
      intro t ht
      have h1 : (cur.toList.take (l.length * 2))[t]? = (flatP l)[t]? := by rw [r4]
      rw [List.getElem?_take_of_lt ht, flatP_get l t ht] at h1
      simp only [World.cell?, hgb, Nat.zero_add]
      simp only [Option.isSome_none, Bool.false_eq_true, if_false]
      rw [← Array.getElem?_toList, h1]
    have a := hg (k * 2) (by omega)
    have b := hg (k * 2 + 1) (by omega)
    rw [show k * 2 / 2 = k by omega, show k * 2 % 2 = 0 by omega] at a
    rw [show (k * 2 + 1) / 2 = k by omega, show (k * 2 + 1) % 2 = 1 by omega] at b
    exact ⟨a, b⟩
set_option maxRecDepth 100000 in
set_option maxHeartbeats 2000000 in
theorem sortedFunc_p (n : Nat) (hn : 4 ≤ n) (g : Nat) (lb : Array Value) (eg : ∀ args w, (callFunc g args).run Tryz.prog w = .ok (.enter g args) w)
    (Kp : World → World → Prop) (S Sp : List P2 → Prop) (N : Nat) (hN : N ≤ 4294967296) (w : World)
    (hKt : ∀ {A B C : World}, Kp A B → Kp B C → Kp A C) (hKb : ∀ (W : World) (l : Nat) (o o' : Obj), w.heap.size ≤ l → W.heap[l]? = some o → o.isCells = false → o.isWalk = false → Kp W (W.putObj l o'))
    (hKo : ∀ W W', KeepsOthers W W' → Below w.heap.size W W' → Kp W W')
    (hseq : SeqStopsK Fence.wide (n - 1 - 1 - 1) Tryz.prog g lb (fun x : P2 => #[.agg #[.int .i64 (x.1.val : Int), .int .i64 (x.2.val : Int)]]) Kp S Sp N w) :
    CallsIn Fence.wide n Tryz.prog 38 #[.func (.func g) #[] lb, .func (.func 39) #[] #[]] w fun e w' => ∃ (s : Sl) (ss : List P2), e = .returned (.slice s.a s.n s.c) ∧ S ss ∧ ss.length ≤ N ∧
      PairsIn w'.heap.size w' s (sortP ss) ∧ Below w.heap.size w w' := by
  have h1 : 1 ≤ n := by omega
  have hF : ∀ f, Fence.wide.fn f := fun _ => trivial
  have hro : Fence.wide.round = none := rfl
  refine callsIn_of_wp Tryz.func38 rfl (hF _) ?_ hro
  simp only [Tryz.ntmps38, List.size_toArray, List.length_cons, List.length_nil, Nat.reduceAdd, Nat.reduceSub, Array.replicate_succ, Array.replicate_zero, List.push_toArray, List.append_toArray, List.nil_append, List.cons_append]
  gi_wp2_with (gi_at_call 52; refine (collect_p Fence.wide (fun _ => trivial) (n - 1) rfl (by omega) g lb eg Kp S Sp N hN _ hKt hKb hKo hseq).mono ?_; rintro e W ⟨v, ss, rfl, hS, hlen, hrow, hnil, hb⟩)
  rcases hrow.2 with ⟨rfl, hz⟩ | ⟨gb, cap, cur, rfl, hbase, hgb, r1, r2, r3, r4⟩
  · have hss : ss = [] := List.eq_nil_of_length_eq_zero hz
    subst hss
    have cS := (callsIn_wide (n := n - 1)).2 (sortPairs_none none 0 (.func (.func 39) #[] #[]) W)
    gi_wp2_with (gi_at_call 53; refine cS.mono ?_; rintro e w' ⟨rfl, rfl⟩)
    go_ret
    have e0 : sortP [] = [] := by simp [sortP]
    exact ⟨⟨none, 0, 0⟩, [], rfl, hS, by simp, ⟨by rw [e0]; rfl, by rw [e0]; simp, Or.inl e0⟩, hb⟩
  · have hF : (flatK encP 2 ss.toArray).size = ss.length * 2 := by simp
    have hH : HoldsK encP 2 W gb 0 ss.toArray := holds_of_blockV hgb (by rw [hF, flatK_toList]; exact r4)
    have hgl : gb < W.heap.size := (Array.getElem?_eq_some_iff.1 hgb).1
    have cS := (callsIn_wide (n := n - 1)).2 (sortPairs_c gb 0 cap ss.toArray W hH hgl (by simp; omega))
    rw [List.size_toArray] at cS
    gi_wp2_with (gi_at_call 53; refine cS.mono ?_; rintro e w' ⟨rfl, d', nn, os, hp, hs, rfl⟩)
    go_ret
    have hd : d'.size = ss.length := by have := hp.1; simpa using this
    have hsort : d'.toList = sortP ss := sortP_unique ss.toArray d' (by simpa using hp) (by simpa using hs)
    have hF2 : (flatK encP 2 d').size = ss.length * 2 := by simp [hd]
    have hrow2 := ownsRow_sortedV (n := nn) (os := os) hF2 hbase hgb r1 r2 r3
    have e3 : (flatK encP 2 d').toList = flatP (sortP ss) := by rw [← hsort, ← flatK_toList]
    have e4 : ss.length = (sortP ss).length := by rw [← hsort]; simp [hd]
    rw [e3] at hrow2
    have hrow3 : (sortWorldK encP 2 W gb 0 nn d' os).ownsRow w.heap.size 41 2 (.slice (some ⟨gb, 0, none⟩) ss.length cap) (sortP ss).length (flatP (sortP ss)) := by rw [← e4]; exact hrow2
    obtain ⟨s, hv, hi⟩ := row_pairs (by rw [← e4]; omega) hrow3
    exact ⟨s, ss, by rw [← hv]; rfl, hS, hlen, hi, hb.grown (grownBy_sortedV _) hb.size (fun j hj => by cases hj; exact hbase)⟩
set_option maxRecDepth 100000 in
theorem pairs_c (g : Nat) (lb : Array Value) (eg : ∀ args w, (callFunc g args).run Tryz.prog w = .ok (.enter g args) w)
    (Kp : World → World → Prop) (S Sp : List P2 → Prop) (N : Nat) (hN : N ≤ 4294967296) (w : World)
    (hKt : ∀ {A B C : World}, Kp A B → Kp B C → Kp A C) (hKb : ∀ (W : World) (l : Nat) (o o' : Obj), w.heap.size ≤ l → W.heap[l]? = some o → o.isCells = false → o.isWalk = false → Kp W (W.putObj l o'))
    (hKo : ∀ W W', KeepsOthers W W' → Below w.heap.size W W' → Kp W W')
    (m : Nat) (hseq : SeqStopsK Fence.wide (m + 1) Tryz.prog g lb (fun x : P2 => #[.agg #[.int .i64 (x.1.val : Int), .int .i64 (x.2.val : Int)]]) Kp S Sp N w) :
    Calls Tryz.prog 15 #[.func (.func g) #[] lb] w fun e w' => ∃ (s : Sl) (ss : List P2), e = .returned (.slice s.a s.n s.c) ∧ S ss ∧ ss.length ≤ N ∧ PairsIn w'.heap.size w' s (sortP ss) ∧ Below w.heap.size w w' := by
  have c := callsIn_wide.1 (sortedFunc_p (m + 4) (by omega) g lb eg Kp S Sp N hN w hKt hKb hKo hseq)
  go_enter Tryz.func15, Tryz.ntmps15
  go_wp2_with (go_at_call 38; refine c.mono ?_; rintro e w' ⟨s, ss, rfl, hS, hlen, hi, hb⟩)
  go_ret
  exact ⟨s, ss, rfl, hS, hlen, hi, hb⟩
end Go.Proofs.YtgeaaegkcbjhlaaGreat
