/- Parts. -/
import Derived.RangeFuncNested
import Derived.Test.YtnkocjkkefnelaaGreatPn6
import Derived.Test.YtnkocjkkefnelaaGreatPn7
import Derived.Test.YtnkocjkkefnelaaGreatPn8
set_option linter.unusedVariables false
set_option linter.unusedSimpArgs false
set_option maxHeartbeats 4000000
namespace Go.Proofs.YtnkocjkkefnelaaGreat
open Go.RowKit
abbrev Rows := List (Nat × (Stamp × Row))
def YBlks (Y : YJ) (G : Gh) (l : Rows) (b : Nat) : Prop := Blks G (stL l) b ∨ Y.D b
def YieldW (P : Program) (Y : YJ) (k : Nat) (τ : Stamp) (i i' : Nat) (args : List OV) (l0 : Rows) (R1 : Rows → Prop) (ans : Bool) : Prop :=
 ∀ (G : Gh) (w : World) (vs : List Value) (N : Nat) (β : Blk), Y.g.le G → G.μ k τ = some (some β) → Y.J i w → RepOL G args vs → WRel ⟨w, YBlks Y G l0, G, N⟩ G (stL l0) w →
  YieldAt Fence.wide 0 P β.b vs.toArray w (fun e w' => e = .returned (.bool ans) ∧ ∃ l1, R1 l1 ∧ ∃ G' σ', (stL l1).le σ' ∧ G.le G' ∧ WRel ⟨w, YBlks Y G l0, G, N⟩ G' σ' w' ∧ Y.J i' w')
def FnY (P : Program) (f : FuncId) (args : List OV) (Y : YJ) (i i' : Nat) (l0 : Rows) (R1 : Rows → Prop) : Prop :=
 Enters P f ∧ ∀ (G : Gh) (w : World) (vs : List Value) (N : Nat), Y.g.le G → Y.J i w → RepOL G args vs → WRel ⟨w, YBlks Y G l0, G, N⟩ G (stL l0) w →
  Calls P f vs.toArray w (fun e w' => (∃ x, e = .returned x) ∧ ∃ l1, R1 l1 ∧ ∃ G' σ', (stL l1).le σ' ∧ G.le G' ∧ WRel ⟨w, YBlks Y G l0, G, N⟩ G' σ' w' ∧ Y.J i' w')
def SeqW (P : Program) (f : FuncId) (fi ca : List OV) (ys : List (List OV)) : Prop :=
 ∀ (Y : YJ) (k : Nat) (τ : Stamp) (J : Nat → Rows → Prop) (m : Nat) (st : Bool), m ≤ ys.length → (st = false → m = ys.length) → (st = true → 0 < m) →
  (∀ i l, J i l → (l.map (·.1)).Nodup) → (∀ i l, J i l → ∀ e ∈ l, 1000 ≤ e.1) →
  (∀ i l0, i < m → J i l0 → YieldW P Y k τ i (i + 1) (ys.getD i []) l0 (J (i + 1)) (!(st && i + 1 == m))) → ∀ l0, J 0 l0 → FnY P f (fi ++ [.yl k τ] ++ ca) Y 0 m l0 (J m)
theorem iZ {σ σ1 : Store} {l0 l1 : Rows} (hn : (l1.map (·.1)).Nodup) (g1 : (stL l1).le σ1) {k : Nat} {τ : Stamp} {r : Row} (hr : ((σ.apply (dels l0)).apply (outD l1)) k = some (τ, r)) : ((stL l0) k = none ∧ σ k = some (τ, r)) ∨ σ1 k = some (τ, r) := by
 rw [aE l1 _ k hn] at hr
 cases h8 : stL l1 k with
 | some x => rw [h8] at hr; cases hr; exact Or.inr (g1 _ _ h8)
 | none =>
  rw [h8, jB] at hr
  cases h9 : stL l0 k with
  | some x => rw [h9] at hr; cases hr
  | none => rw [h9] at hr; exact Or.inl ⟨rfl, hr⟩
theorem zQ {σ : Store} {l0 l1 : Rows} (hn : (l1.map (·.1)).Nodup) : (stL l1).le ((σ.apply (dels l0)).apply (outD l1)) := fun k x hx => by
 rw [aE l1 _ k hn, hx]
theorem mG {P : Program} {v j : Nat} {tm : Tm} {σ : Store} {n : Nat} {dst : Option Tmp} {ty : TypeId} {pos : String} {af : Array Edge} {gd : Option (Nat × Bool)} {x : Operand} {xs : List Operand} {tys : Array TypeId} {ys : List OV} {Y : YJ} {k : Nat} {τ : Stamp} {i i' : Nat} {l0 : Rows} {R1 : Rows → Prop} {ans : Bool}
  (hY : YieldW P Y k τ i i' ys l0 R1 ans) (hx : ev tm x = some (.yl k τ)) (ha : evs tm xs = some ys) (hg : tm GS = some (.gh i Y)) (hle : (stL l0).le σ) (hn : ∀ l1, R1 l1 → (l1.map (·.1)).Nodup)
  {C : Cx} {G : Gh} {a : Act} {w : World} {ro : Option Nat} {next : Act → World → Prop} {Q : Exit → Act → World → Prop} (hd : ∀ d, dst = some d → d < n ∧ d ≠ GS) (hro : C.ro = ro) (hN : C.Γ.N ≤ v) (hf : ∀ k, G.μ k (v, j) = none) (hs : SRel n C G tm σ a w)
  (hnext : ∀ l1 G' a' w', R1 l1 → G.le G' → (∀ k v' i, v' ≤ v → (v' = v → i ≠ j) → G'.μ k (v', i) = G.μ k (v', i)) → SRel n C G' ((tm.putO dst (.bool ans)).put GS (.gh i' Y)) ((σ.apply (dels l0)).apply (outD l1)) a' w' → next a' w') :
  Oper.wpIn (wideR ro) 0 P ⟨dst, .call { callee := .value x, args := xs.toArray, argTypes := tys }, ty, pos, af, gd⟩ a w next Q := by
 have h1 := aD hs.tm hx
 rw [RepO] at h1
 obtain ⟨β, hβ, hxv⟩ := h1
 have h4 := zI ha fun z _ y hy => aD hs.tm hy
 obtain ⟨hJ, hJg, hJf⟩ := hs.gh i Y hg
 have hst : WRel ⟨w, YBlks Y G l0, G, v + 1⟩ G (stL l0) w := by
  have := hs.w.startW hle (v + 1)
  exact ⟨this.mem, fun k τ r hk => (this.own k τ r hk).imp id fun ⟨β, e1, e2, e3, e4⟩ => ⟨β, e1, e2, e3, e4.imp id Or.inl⟩, this.inj, fun _ _ _ => rfl, this.size, this.tape, this.os, this.output, this.g0, fun b o v h => Or.inl h, this.bound, this.low⟩
 obtain ⟨fn, tmps, assign, body, hy, hR⟩ := hY G w (xs.map a.eval) (v + 1) β hJg hβ hJ h4 hst
 unfold Oper.wpIn
 refine ⟨fun _ _ => trivial, ?_⟩
 rw [show (wideR ro).round = ro from rfl, Oper.semAt_eq ro a.eval _ (fun c hc => by cases hc)]
 have hrun : (execOp a.eval ⟨dst, .call { callee := .value x, args := xs.toArray, argTypes := tys }, ty, pos, af, gd⟩).run P w = .ok (.round β.b fn tmps assign body) w := by
  have e : (xs.map a.eval).toArray = xs.toArray.map a.eval := by simp
  rw [e] at hy
  simp only [execOp, resolve, hxv, Deferred.ofValue, Sem.run_bind, Sem.run_pure, Result.andThen_ok, invoke]
  simpa using hy
 rw [hrun]
 simp only [Oper.uponIn]
 refine ⟨fun e => (by cases e), ?_⟩
 refine (show RoundIn (wideR ro) (0 - 1) P β.b fn tmps assign body w _ from hR.mono fun e w' ⟨he, l1, hl1, G', σ', g1, g2, g3, g4⟩ => ?_)
 subst he
 have hJn : ∀ k τ r β, σ k = some (τ, r) → G.μ k τ = some (some β) → ¬ Y.D β.b := fun k τ r β h1 h2 hb => by
  obtain ⟨o, e1, e2⟩ := Y.nc i w _ hJ hb
  obtain ⟨cs, f4, _⟩ := hs.w.blk h1 h2
  rw [e1] at f4
  cases f4; cases e2
 have hnr : ∀ b o, C.fix b = some o → ¬ YBlks Y G l0 b := fun b o hb hB => by
  rcases hB with hB | hB
  ·exact hs.fix.not_own hst hb hB
  ·exact hJf.1 b o hb hB
 refine hnext l1 G' (a.put dst (.bool ans)) w' hl1 g2 (fun k v' i hv' _ => g3.low k v' i (Nat.lt_succ_of_le hv')) ⟨by rw [Act.put_size, hs.size], by rw [Act.put_defers, hs.defers], fun t y ht => ?_, hs.w.backD hle g3 (Nat.le_succ_of_le hN) (fun k τ r hr => ?_) (fun b hb => C.dok b (hJf.2 b hb)) (fun k τ r β _ h1 h2 => hJn k τ r β h1 h2), fun b o hb => ?_, hs.marks, fun i2 Y2 hi => ?_⟩
 ·by_cases hn' : t = GS
  ·subst hn'
   rw [Tm.put_self] at ht
   exact Or.inl ⟨_, _, (Option.some.inj ht).symm⟩
  ·rw [Tm.put_ne _ _ hn'] at ht
   exact (hs.tm.mono g2).put (by rw [RepO, Rep]; exact ⟨rfl, rfl⟩) dst (by rw [hs.size]; exact fun d e => (hd d e).1) t y ht
 ·exact iZ (hn l1 hl1) g1 hr
 ·obtain ⟨e1, e2⟩ := hs.fix b o hb
  exact ⟨(g3.keep b (Array.getElem?_eq_some_iff.1 e1).1 (hnr b o hb)).trans e1, e2⟩
 ·rw [Tm.put_self] at hi
  cases hi
  exact ⟨g4, hJg.trans g2, hJf⟩
section
variable {E : Env} {v j : Nat} {ops : Array Oper} {K : Tm → Store → Prop} {rest : List Oper} {tm : Tm} {σ : Store} {dst : Option Tmp} {ty : TypeId} {pos : String} {af : Array Edge}
theorem zK {x : Operand} {xs : List Operand} {tys : Array TypeId} {ys : List OV} {Y : YJ} {k : Nat} {τ : Stamp} {i i' : Nat} {l0 : Rows} {R1 : Rows → Prop} {ans : Bool} (hx : ev tm x = some (.yl k τ)) (ha : evs tm xs = some ys) (hg : tm GS = some (.gh i Y)) (hY : YieldW E.P Y k τ i i' ys l0 R1 ans)
  (hle : (stL l0).le σ) (hn : ∀ l1, R1 l1 → (l1.map (·.1)).Nodup) (hcont : ∀ l1, R1 l1 → AO E.P v ops K (j + 1) rest ((tm.putO dst (.bool ans)).put GS (.gh i' Y)) ((σ.apply (dels l0)).apply (outD l1))) :
  AO E.P v ops K j (⟨dst, .call { callee := .value x, args := xs.toArray, argTypes := tys }, ty, pos, af, none⟩ :: rest) tm σ :=
 sE fun n C G a w ro next Q hd hro hN hf hs hk' => mG hY hx ha hg hle hn hd hro hN hf hs fun l1 G' a' w' h0 h1 h2 h3 => hk' C G' _ _ a' w' (.refl C) h1 h2 h3 (hcont l1 h0)
end
def DoneY (Y : YJ) (i' : Nat) (R1 : Rows → Prop) (e : Exit) (tm : Tm) (σ : Store) : Prop := (e = .normal ∨ e = .ret) ∧ tm GS = some (.gh i' Y) ∧ ∃ l1, R1 l1 ∧ (stL l1).le σ
theorem xT {P : Program} {f : FuncId} {fn : Func} {c : Code} {n : Nat} {args : List OV} {Y : YJ} {i i' : Nat} {l0 : Rows} {R1 : Rows → Prop} (hf : P.funcs[f]? = some fn) (hname : (fn.name == "runtime.NumGoroutine") = false) (hb : fn.body = some c) (hn : fn.ntmps = n) (hl : args.length ≤ n) (hr : fn.results = #[])
  (h : awp P n c (DoneY Y i' R1) ((Tm.ini args).put GS (.gh i Y)) (stL l0)) : FnY P f args Y i i' l0 R1 := by
 refine ⟨⟨fn, hf, hname, by rw [hb]; rfl⟩, fun G w vs N hg hJ hv hw => ?_⟩
 refine (gD (R := fun r σ => ∃ l1, R1 l1 ∧ (stL l1).le σ) (some (i', Y)) Y.D (fun b hb => Or.inr (Or.inr hb)) hf hb hn hl h (fun t y hy => ?_) hv rfl hw rfl (fun i2 Y2 hi => ?_) fun e G' tm σ C a w' hs hq => ?_).mono fun e w' ⟨x, G', r, σ', h1, ⟨l1, hl1, h2⟩, h3, _, h5, h6⟩ => ⟨⟨x, h1⟩, l1, hl1, G', σ', h2, h3, h5, h6 _ _ rfl⟩
 ·by_cases ht : t = GS
  ·subst ht; rw [Tm.put_self] at hy; exact Or.inl ⟨_, _, (Option.some.inj hy).symm⟩
  ·rw [Tm.put_ne _ _ ht] at hy; exact Or.inr (Tm.ini_get hy)
 ·rw [Tm.put_self] at hi
  cases hi
  exact ⟨hJ, hg, fun b hb => hb⟩
 ·obtain ⟨h1, h2, h3⟩ := hq
  refine ⟨h1, fun m Y' hm => by cases hm; exact h2, .tuple #[], .tu [], ?_, ?_, h3⟩
  ·simp [results, hr]
  ·rw [RepO]; exact ⟨#[], rfl, by rw [RepOL]⟩
def Tm.puts (tm : Tm) : List Tmp → List OV → Tm
 | p :: ps, y :: ys => Tm.puts (tm.put p y) ps ys
 | _, _ => tm
def setAll (tmps : Array Value) : List Tmp → List Value → Array Value
 | p :: ps, v :: vs => setAll (tmps.setIfInBounds p v) ps vs
 | _, _ => tmps
theorem fW : ∀ (ps : List Tmp) (vs : List Value) (tmps : Array Value), (ps.zip vs).foldl (fun t (x : Tmp × Value) => t.setIfInBounds x.1 x.2) tmps = setAll tmps ps vs
 | [], vs, tmps => by simp [setAll]
 | p :: ps, [], tmps => by simp [setAll]
 | p :: ps, v :: vs, tmps => by
  rw [List.zip_cons_cons, List.foldl_cons, fW ps vs, setAll]
theorem setAll_fold (ps : List Tmp) (vs : List Value) (tmps : Array Value) : (ps.toArray.zip vs.toArray).foldl (fun t (p, v) => t.setIfInBounds p v) tmps = setAll tmps ps vs := by
 have e : ps.toArray.zip vs.toArray = (ps.zip vs).toArray := by apply Array.ext'; simp
 rw [e, ← fW]
 simp
theorem fV : ∀ (ps : List Tmp) (vs : List Value) (tmps : Array Value), (setAll tmps ps vs).size = tmps.size
 | [], vs, tmps => by simp [setAll]
 | p :: ps, [], tmps => by simp [setAll]
 | p :: ps, v :: vs, tmps => by rw [setAll, fV]; simp
theorem mQ {G : Gh} : ∀ {ps : List Tmp} {ys : List OV} {vs : List Value} {tm : Tm} {tmps : Array Value}, RepOL G ys vs → TRel G tm tmps → (∀ p ∈ ps, p < tmps.size) → TRel G (tm.puts ps ys) (setAll tmps ps vs)
 | [], ys, vs, tm, tmps, _, ht, _ => by simpa [setAll, Tm.puts] using ht
 | p :: ps, [], vs, tm, tmps, hv, ht, _ => by
  rw [RepOL] at hv
  subst hv
  simpa [setAll, Tm.puts] using ht
 | p :: ps, y :: ys, vs, tm, tmps, hv, ht, hp => by
  rw [RepOL] at hv
  obtain ⟨v, us, rfl, h1, h2⟩ := hv
  rw [Tm.puts, setAll]
  refine mQ h2 ?_ (fun q hq => by rw [Array.size_setIfInBounds]; exact hp q (by simp [hq]))
  intro t z hz
  by_cases e : t = p
  ·subst e
   rw [Tm.put_self] at hz
   cases hz
   exact Or.inr ⟨v, by simp [hp t (by simp)], h1⟩
  ·rw [Tm.put_ne _ _ e] at hz
   rcases ht t z hz with h | ⟨x, h3, h4⟩
   ·exact Or.inl h
   ·exact Or.inr ⟨x, by rw [Array.getElem?_setIfInBounds_ne (Ne.symm e)]; exact h3, h4⟩
theorem puts_gs {ps : List Tmp} : ∀ {ys : List OV} {tm : Tm}, (∀ p ∈ ps, p ≠ GS) → (tm.puts ps ys) GS = tm GS := by
 induction ps with
 | nil => intro ys tm _; rfl
 | cons p ps ih =>
  intro ys tm h
  cases ys with
  | nil => rfl
  | cons y ys => rw [Tm.puts, ih fun q hq => h q (by simp [hq]), Tm.put_ne _ _ (Ne.symm (h p (by simp)))]
theorem WRel.allocNon {Γ : Ctx} {G : Gh} {σ : Store} {w : World} (h : WRel Γ G σ w) (o : Obj) : WRel Γ G σ (w.alloc o) := by
 have old : ∀ b, b < w.heap.size → (w.alloc o).heap[b]? = w.heap[b]? := fun b hb => by
  show (w.heap.push o)[b]? = _
  rw [Array.getElem?_push_lt hb, Array.getElem?_eq_getElem hb]
 exact {
  mem := fun b i v hm => by
   have h1 := h.mem b i v hm
   obtain ⟨o2, h2, h3⟩ := cells_of_cell h1
   rw [World.cell?_of_block (w := w) (old b (Array.getElem?_eq_some_iff.1 h2).1)]; exact h1
  own := fun k τ r hk => (h.own k τ r hk).imp id fun ⟨β, h1, h2, h3, h4⟩ => ⟨β, h1, h2.of_heap (old β.b h2.lt), h3, h4⟩
  inj := h.inj
  keep := fun b hb hS => (old b (Nat.lt_of_lt_of_le hb h.size)).trans (h.keep b hb hS)
  size := Nat.le_trans h.size (by rw [World.size_alloc]; omega)
  tape := h.tape
  os := h.os
  output := h.output
  g0 := h.g0
  new := h.new
  bound := h.bound
  low := h.low }
theorem WRel.nameY {Γ : Ctx} {G : Gh} {σ : Store} {w : World} (h : WRel Γ G σ w) {k v i : Nat} {β : Blk} (hf : G.μ k (v, i) = none) (hv : Γ.N ≤ v) : WRel Γ (G.name k (v, i) (some β)) σ w := by
 have hle := Gh.name_le G (some β) hf
 have old : ∀ k' τ' r β', σ k' = some (τ', r) → (G.name k (v, i) (some β)).μ k' τ' = some (some β') → G.μ k' τ' = some (some β') := fun k' τ' r β' hk hμ => by
  rcases h.own k' τ' r hk with ⟨h1, _⟩ | ⟨β0, h1, _⟩
  ·have := hle.2 _ _ _ h1; rw [hμ] at this; cases this
  ·have := hle.2 _ _ _ h1; rw [hμ] at this; cases this; exact h1
 exact {
  mem := h.mem
  own := fun k' τ' r hk => (h.own k' τ' r hk).imp (fun h1 => ⟨hle.2 _ _ _ h1.1, h1.2⟩) fun ⟨β', h1, h2, h3, h4⟩ => ⟨β', hle.2 _ _ _ h1, h2.mono hle, h3, h4⟩
  inj := fun k1 k2 τ1 τ2 β1 β2 r1 r2 a b c d e => h.inj k1 k2 τ1 τ2 β1 β2 r1 r2 a b (old _ _ _ _ a c) (old _ _ _ _ b d) e
  keep := h.keep
  size := h.size
  tape := h.tape
  os := h.os
  output := h.output
  g0 := h.g0.trans hle
  new := h.new
  bound := by
   obtain ⟨n, hn⟩ := h.bound
   refine ⟨max n (v + 1), fun k' v' i' hv' => ?_⟩
   show (if k' = k ∧ (v', i') = (v, i) then _ else _) = _
   rw [if_neg (fun e => by have := congrArg Prod.fst e.2; simp at this; omega)]
   exact hn k' v' i' (by omega)
  low := fun k' v' i' hv' => by
   show (if k' = k ∧ (v', i') = (v, i) then _ else _) = _
   rw [if_neg (fun e => by have := congrArg Prod.fst e.2; simp at this; omega)]
   exact h.low k' v' i' hv' }
theorem enter_any {P : Program} {n : Nat} {C : Cx} {G : Gh} {tm : Tm} {σ : Store} {a : Act} {w : World} (hs : SRel n C G tm σ a w) (fn : FuncId) (ps : Array Tmp) (assign body : Code) :
  ∃ l mark w1 dd, (Instr.enterLoop fn a.tmps ps assign body C.ro).run P w = .ok (l, mark) w1 ∧ w1.heap[l]? = some (.loop { state := .ready, pending := none, fn, tmps := a.tmps, params := ps, assign, body, defers := dd }) ∧ w.heap.size ≤ l ∧
   WRel C.Γ G σ w1 ∧ (∀ b, b < w.heap.size → w1.heap[b]? = w.heap[b]?) ∧ (mark = [] ∨ ∃ D, mark = [{ target := .collected D, args := #[] }] ∧ w.heap.size ≤ D ∧ D ≠ l ∧ w1.heap[D]? = some (.deferred (some []))) := by
 have old : ∀ (w : World) (o : Obj) b, b < w.heap.size → (w.alloc o).heap[b]? = w.heap[b]? := fun w o b hb => by
  show (w.heap.push o)[b]? = _
  rw [Array.getElem?_push_lt hb, Array.getElem?_eq_getElem hb]
 cases hro : C.ro with
 | none =>
  refine ⟨w.heap.size + 1, [{ target := .collected w.heap.size, args := #[] }], _, w.heap.size, run_enterLoop_outer _ _ _ _ _, ?_, Nat.le_succ _, (hs.w.allocNon _).allocNon _, fun b hb => ?_, Or.inr ⟨w.heap.size, rfl, Nat.le_refl _, Nat.ne_of_lt (Nat.lt_succ_self _), ?_⟩⟩
  ·have := World.alloc_heap_new (w.alloc (.deferred (some []))) (.loop { state := .ready, pending := none, fn, tmps := a.tmps, params := ps, assign, body, defers := w.heap.size })
   rwa [World.size_alloc] at this
  ·rw [old _ _ b (by rw [World.size_alloc]; omega), old _ _ b hb]
  ·rw [old _ _ _ (by rw [World.size_alloc]; omega)]; exact World.alloc_heap_new w _
 | some l0 =>
  obtain ⟨r0, h0⟩ := hs.marks.2.2 l0 hro
  exact ⟨_, _, _, _, run_enterLoop_inner (hs.fix l0 _ h0).1 _ _ _ _ _, World.alloc_heap_new w _, Nat.le_refl _, hs.w.allocNon _, fun b hb => old _ _ b hb, Or.inl rfl⟩
def jumpOf : Exit → Option Code
 | .ret => some .ret
 | .exit id => some (.exit id)
 | .goto t => some (.goto t)
 | _ => none
def plainX : Exit → Bool
 | .normal => true
 | .ret => true
 | .exit _ => true
 | .goto _ => true
 | _ => false
theorem jumpOf_none {e : Exit} (h : plainX e = true) (hj : jumpOf e = none) : e = .normal := by
 cases e <;> simp_all [plainX, jumpOf]
def RoundQ {X : Type} (ex : Exit) (last : Bool) (I : X → Prop) (S : X → Rows) (e : Exit) (_ : Tm) (σ : Store) : Prop := e = (bif last then ex else .normal) ∧ ∃ x, I x ∧ (stL (S x)).le σ
theorem run_range {P : Program} {a : Act} {w : World} {g : Operand} {l : Nat} {f : FuncId} {vs us : Array Value} (hx : a.eval g = .func (.func f) vs us) (he : Enters P f) :
  (resolve a.eval (rangeCall g l) 0).run P w = .ok { target := .fn (.func f) us, args := vs ++ #[.func (.yield l) #[] #[]] } w ∧
  (invoke (.fn (.func f) us) (vs ++ #[.func (.yield l) #[] #[]])).run P w = .ok (.enter f (vs ++ #[.func (.yield l) #[] #[]] ++ us)) w := by
 obtain ⟨fn, h1, h2, h3⟩ := he
 constructor
 ·simp only [resolve, hx, Deferred.ofValue, Sem.run_pure]
  simp [go_sem]
 ·simp only [invoke, callFunc, Sem.run_bind, Sem.run_pure, Result.andThen_ok, run_program, h1, h2, h3, Bool.false_eq_true, if_false]
abbrev recAt (fn : FuncId) (tmps : Array Value) (ps : List Tmp) (assign body : Code) (dd : Nat) (ex : Exit) (m j : Nat) : Loop :=
 { state := bif (jumpOf ex).isSome && j == m then .done else .ready, pending := bif (jumpOf ex).isSome && j == m then jumpOf ex else none, fn, tmps, params := ps.toArray, assign, body, defers := dd }
def rangeYJ (G1 : Gh) (l : Nat) (rc : Nat → Loop) : YJ where
 g := G1
 J j w := w.heap[l]? = some (.loop (rc j))
 D b := b = l
 st _ _ _ h hb := (hb l rfl).trans h
 nc _ _ _ h hb := by subst hb; exact ⟨_, h, rfl⟩
theorem WRel.startY {Γ : Ctx} {G : Gh} {σ : Store} {w : World} (h : WRel Γ G σ w) {l0 : Rows} (hle : (stL l0).le σ) (Y : YJ) (N : Nat) : WRel ⟨w, YBlks Y G l0, G, N⟩ G (stL l0) w := by
 have := h.startW hle N
 exact ⟨this.mem, fun k τ r hk => (this.own k τ r hk).imp id fun ⟨β, e1, e2, e3, e4⟩ => ⟨β, e1, e2, e3, e4.imp id Or.inl⟩, this.inj, fun _ _ _ => rfl, this.size, this.tape, this.os, this.output, this.g0, fun b o v h => Or.inl h, this.bound, this.low⟩
theorem fL {X : Type} {P : Program} {n : Nat} {g : Operand} {ps : List Tmp} {assign body : Code} {Q : Exit → Tm → Store → Prop} {tm : Tm} {σ : Store} {y : OV} {f : FuncId} {fi ca : List OV} {ys : List (List OV)}
  (hx : ev tm g = some y) (hf : IsFn y f fi ca) (hseq : SeqW P f fi ca ys) (S : X → Rows) (I : Nat → X → Prop) (x0 : X) (h0 : I 0 x0) (m : Nat) (ex : Exit) (hex : plainX ex = true) (hm : m ≤ ys.length) (hm1 : ex = .normal → m = ys.length) (hm2 : ex ≠ .normal → 0 < m)
  (T : Tm) (hT : T.le tm) (hTg : T GS = none) (hps : (ps.all fun p => Nat.blt p n && !Nat.beq p GS) = true) (hlen : ∀ i, i < m → (ys.getD i []).length = ps.length)
  (hle : (stL (S x0)).le σ) (hnn : ∀ x, ((S x).map (·.1)).Nodup) (hbig : ∀ x, ∀ e ∈ S x, 1000 ≤ e.1)
  (hbody : ∀ i x, i < m → I i x → awp P n assign (fun e tm' σ' => e = .normal ∧ awp P n body (RoundQ ex (i + 1 == m) (I (i + 1)) S) tm' σ') (T.puts ps (ys.getD i [])) (stL (S x)))
  (hq : ∀ x, I m x → Q ex tm ((σ.apply (dels (S x0))).apply (outD (S x)))) : awp P n (.rangeFunc g ps.toArray assign body) Q tm σ := by
 intro C ro G a w hro hs
 subst hro
 obtain ⟨v, hv, hfree⟩ := hs.w.free
 obtain ⟨J, hJd⟩ : ∃ J : Nat → Rows → Prop, J = fun i l => ∃ x, I i x ∧ l = S x := ⟨_, rfl⟩
 have hJm : ∀ i x, I i x → J i (S x) := fun i x hx => by rw [hJd]; exact ⟨x, hx, rfl⟩
 have hJe : ∀ i l, J i l → ∃ x, I i x ∧ l = S x := fun i l hl => by rw [hJd] at hl; exact hl
 have hpl : ∀ p ∈ ps, p < n ∧ p ≠ GS := fun p hp => by
  have := List.all_eq_true.1 hps p hp
  simp only [Bool.and_eq_true, Bool.not_eq_true'] at this
  exact ⟨by simpa using this.1, fun e => by subst e; simp at this⟩
 refine wpIn_rangeFunc fun fn _ => ?_
 obtain ⟨l, mark, w1, dd, he, hl, hlw, hw1, hold, hmk⟩ := enter_any (P := P) hs fn ps.toArray assign body
 obtain ⟨vs, us, hxv, hvs, hus⟩ := hf.rep (aD hs.tm hx)
 let G1 := G.name 0 (v, 0) (some ⟨l, 0, 0⟩)
 have hle1 : G.le G1 := Gh.name_le G _ (hfree 0 0)
 have hμ1 : G1.μ 0 (v, 0) = some (some ⟨l, 0, 0⟩) := Gh.name_self G 0 (v, 0) _
 have hW1 : WRel C.Γ G1 σ w1 := hw1.nameY (hfree 0 0) hv
 let rc := recAt fn a.tmps ps assign body dd ex m
 have hrc : ∀ j, j < m → rc j = { state := .ready, pending := none, fn, tmps := a.tmps, params := ps.toArray, assign, body, defers := dd } := fun j hj => by
  have : (j == m) = false := by simpa using Nat.ne_of_lt hj
  simp [rc, recAt, this]
 obtain ⟨Y, hY⟩ : ∃ Y, Y = rangeYJ G1 l rc := ⟨_, rfl⟩
 have hYJ : ∀ j w, Y.J j w ↔ w.heap[l]? = some (.loop (rc j)) := fun j w => by rw [hY]; exact Iff.rfl
 have hYD : ∀ b, Y.D b ↔ b = l := fun b => by rw [hY]; exact Iff.rfl
 have hYg : Y.g = G1 := by rw [hY]; rfl
 have hround : ∀ i l0, i < m → J i l0 → YieldW P Y 0 (v, 0) i (i + 1) (ys.getD i []) l0 (J (i + 1)) (!((jumpOf ex).isSome && i + 1 == m)) := by
  intro i l0 hi hl0
  obtain ⟨x, hIx, rfl⟩ := hJe _ _ hl0
  intro G2 w2 vs2 N2 β hg2 hβ hJ2 hv2 hw2
  rw [hYg] at hg2
  have hβ' := hg2.2 _ _ _ hμ1
  rw [hβ] at hβ'
  cases hβ'
  have hJ2 := (hYJ _ _).1 hJ2
  rw [hrc i hi] at hJ2
  have hsz : vs2.length = ps.length := by rw [← hlen i hi]; exact hv2.length
  have hy := run_yield (P := P) (args := vs2.toArray) hJ2 (by simp [hsz])
  refine ⟨fn, setAll a.tmps ps vs2, assign, body, ?_, ?_⟩
  ·rw [hy, ← setAll_fold]
  refine roundIn_of_wpIn trivial ?_
  let C1 : Cx := ⟨⟨w2, YBlks Y G2 (S x), G2, N2⟩, fun b => if b = l then some (.loop { state := .ready, pending := none, fn, tmps := a.tmps, params := ps.toArray, assign, body, defers := dd }) else none, [], some l, 0, fun _ => False, fun _ h => h.elim, Nat.zero_le _⟩
  have hs2 : SRel n C1 G2 (T.puts ps (ys.getD i [])) (stL (S x)) { tmps := setAll a.tmps ps vs2, defers := [] } w2 := by
   refine ⟨by rw [fV]; exact hs.size, rfl, mQ hv2 ((hs.tm.mono (hle1.trans hg2)).le hT) (fun p hp => by rw [hs.size]; exact (hpl p hp).1), hw2, fun b o hb => ?_, ⟨List.nodup_nil, fun d hd => (by cases hd), fun l' hl' => ?_⟩, fun i' Y' hi' => ?_⟩
   ·simp only [C1] at hb
    split at hb
    ·rename_i e; cases hb; rw [e]; exact ⟨hJ2, rfl⟩
    ·cases hb
   ·simp only [C1, Option.some.injEq] at hl'
    exact ⟨_, if_pos hl'.symm⟩
   ·rw [puts_gs (fun p hp => (hpl p hp).2), hTg] at hi'; cases hi'
  refine wpIn_mono (hbody i x hi hIx C1 (some l) G2 _ w2 rfl hs2) fun e a3 w3 ⟨C3, G3, tm3, σ3, hC3, hs3, he3, hb3⟩ => ?_
  subst he3
  show ∃ w₂, (Instr.beginRound l).run P w3 = .ok () w₂ ∧ body.wpIn (Fence.wide.inRound l) 0 P _ a3 w₂
  have hfl : C3.fix l = some (.loop { state := .ready, pending := none, fn, tmps := a.tmps, params := ps.toArray, assign, body, defers := dd }) := hC3.fix l _ (if_pos rfl)
  have hl3 := (hs3.fix l _ hfl).1
  have hS3 : C3.Γ.S l := by rw [hC3.Γ]; exact Or.inr ((hYD l).2 rfl)
  refine ⟨_, run_beginRound hl3 rfl, ?_⟩
  let C4 : Cx := { C3 with fix := fun b => if b = l then some (.loop { state := .busy, pending := none, fn, tmps := a.tmps, params := ps.toArray, assign, body, defers := dd }) else C3.fix b }
  have hs4 : SRel n C4 G3 tm3 σ3 a3 (w3.putObj l (.loop { state := .busy, pending := none, fn, tmps := a.tmps, params := ps.toArray, assign, body, defers := dd })) := by
   have hgh : ∀ i' Y', tm3 GS = some (OV.gh i' Y') → ∀ b, Y'.D b → b ≠ l := fun i' Y' hi' b hb e => by
    subst e
    exact (hs3.gh i' Y' hi').2.2.1 b _ hfl hb
   refine ⟨hs3.size, hs3.defers, hs3.tm, hs3.w.putNon hl3 rfl (Or.inr hS3), fun b o hb => ?_, ⟨hs3.marks.1, fun d hd => ?_, fun l' hl' => ?_⟩, fun i' Y' hi' => ⟨Y'.st i' _ _ (hs3.gh i' Y' hi').1 fun b hb => World.putObj_heap_other (hgh i' Y' hi' b hb), (hs3.gh i' Y' hi').2.1, fun b o hb hD => ?_, (hs3.gh i' Y' hi').2.2.2⟩⟩
   ·simp only [C4] at hb
    split at hb
    ·rename_i e; cases hb; rw [e]; exact ⟨World.putObj_heap_same (Array.getElem?_eq_some_iff.1 hl3).1, rfl⟩
    ·rename_i e; exact ⟨(World.putObj_heap_other e).trans (hs3.fix b o hb).1, (hs3.fix b o hb).2⟩
   ·obtain ⟨r, h1, h2, h3⟩ := hs3.marks.2.1 d hd
    refine ⟨r, h1, h2, ?_⟩
    exact (if_neg (fun e => by rw [e, hfl] at h3; cases h3)).trans h3
   ·have : C3.ro = some l := hC3.ro
    rw [show C4.ro = C3.ro from rfl, this] at hl'
    cases hl'
    exact ⟨_, if_pos rfl⟩
   ·simp only [C4] at hb
    split at hb
    ·rename_i e; exact hgh i' Y' hi' b hD e
    ·exact (hs3.gh i' Y' hi').2.2.1 b o hb hD
  refine wpIn_mono (hb3 C4 (some l) G3 a3 _ (show C3.ro = _ from hC3.ro) hs4) fun e a5 w5 ⟨C5, G5, tm5, σ5, hC5, hs5, he5, x5, hx5, hσ5⟩ => ?_
  have hl5 := (hs5.fix l _ (hC5.fix l _ (show C4.fix l = some (.loop { state := .busy, pending := none, fn, tmps := a.tmps, params := ps.toArray, assign, body, defers := dd }) from if_pos rfl))).1
  have hΓ5 : C5.Γ = ⟨w2, YBlks Y G2 (S x), G2, N2⟩ := hC5.Γ.trans hC3.Γ
  have hw5 : WRel ⟨w2, YBlks Y G2 (S x), G2, N2⟩ G5 σ5 w5 := by rw [← hΓ5]; exact hs5.w
  have key : ∀ j, j = jumpOf e → ∃ v w6, (Instr.endRound l j).run P w5 = .ok v w6 ∧ (.returned v : Ending) = .returned (.bool (!((jumpOf ex).isSome && i + 1 == m))) ∧ ∃ l1, J (i + 1) l1 ∧ ∃ G' σ', (stL l1).le σ' ∧ G2.le G' ∧ WRel ⟨w2, YBlks Y G2 (S x), G2, N2⟩ G' σ' w6 ∧ Y.J (i + 1) w6 := by
   intro j hj
   subst hj
   refine ⟨_, _, run_endRound (jumpOf e) hl5, ?_, _, hJm _ _ hx5, G5, σ5, hσ5, hw5.g0, hw5.putNon hl5 rfl (Or.inr (Or.inr ((hYD l).2 rfl))), ?_⟩
   ·rw [he5]
    cases hb : i + 1 == m <;> cases hj : jumpOf ex <;> simp [hj] <;> simp [jumpOf]
   ·rw [hYJ]
    rw [World.putObj_heap_same (Array.getElem?_eq_some_iff.1 hl5).1, he5]
    cases hb : i + 1 == m <;> cases hj : jumpOf ex <;> simp [rc, recAt, hb, hj] <;> simp [jumpOf]
  have hpx : plainX e = true := by
   rw [he5]
   cases (i + 1 == m)
   ·rfl
   ·exact hex
  cases e with
  | normal => exact key _ rfl
  | ret => exact key _ rfl
  | exit id => exact key _ rfl
  | goto t => exact key _ rfl
  | panic ch => cases hpx
  | outgrown => cases hpx
 have hF := hseq Y 0 (v, 0) J m _ hm (fun h => hm1 (jumpOf_none hex (by simpa using h))) (fun h => hm2 fun e => by rw [e] at h; cases h) (fun i l hl => by obtain ⟨x, _, rfl⟩ := hJe _ _ hl; exact hnn x) (fun i l hl => by obtain ⟨x, _, rfl⟩ := hJe _ _ hl; exact hbig x) hround _ (hJm _ _ h0)
 obtain ⟨r1, r2⟩ := run_range (P := P) (w := w1) (l := l) hxv hF.1
 refine ⟨l, mark, w1, _, w1, f, _, w1, he, r1, fun _ _ => trivial, r2, fun h => (by cases h), ?_⟩
 have hst : WRel ⟨w1, YBlks Y G1 (S x0), G1, v + 1⟩ G1 (stL (S x0)) w1 := hW1.startY hle Y (v + 1)
 have hlast : rc m = { state := if (jumpOf ex).isSome then .done else .ready, pending := jumpOf ex, fn, tmps := a.tmps, params := ps.toArray, assign, body, defers := dd } := by
  cases hj : jumpOf ex <;> simp [rc, recAt, hj]
 have hJ0 : Y.J 0 w1 := by
  rw [hYJ, hl]
  rcases Nat.eq_zero_or_pos m with h00 | h00
  ·have : jumpOf ex = none := by
    cases ex <;> first | rfl | (exact (Nat.lt_irrefl 0 (h00 ▸ hm2 (by simp))).elim)
   subst h00; rw [hlast, this]; rfl
  ·rw [hrc 0 h00]
 have hrep : RepOL G1 (fi ++ [.yl 0 (v, 0)] ++ ca) (vs.toList ++ [.func (.yield l) #[] #[]] ++ us.toList) := by
  refine ((hvs.mono hle1).append ?_).append (hus.mono hle1)
  rw [RepOL]
  exact ⟨_, _, rfl, by rw [RepO]; exact ⟨_, hμ1, rfl⟩, by rw [RepOL]⟩
 have hcall := hF.2 G1 w1 _ (v + 1) (by rw [hYg]; exact .refl _) hJ0 hrep hst
 have ea : (vs.toList ++ [Value.func (.yield l) #[] #[]] ++ us.toList).toArray = vs ++ #[.func (.yield l) #[] #[]] ++ us := by simp
 rw [ea] at hcall
 refine (show CallsIn (wideR C.ro) (0 - 1) P f _ w1 _ from callsIn_wide.2 (hcall.mono fun e w2 ⟨⟨x, hx'⟩, l1, hl1, G2, σ2, g1, g2, g3, g4⟩ => ?_))
 obtain ⟨xm, hxm, rfl⟩ := hJe _ _ hl1
 subst hx'
 have g4 := (hYJ _ _).1 g4
 rw [hlast] at g4
 have hkeep : ∀ b o, w1.heap[b]? = some o → o.isCells = false → b ≠ l → (w2.putObj l (.loop { state := .exhausted, pending := jumpOf ex, fn, tmps := a.tmps, params := ps.toArray, assign, body, defers := dd })).heap[b]? = some o := fun b o h1 h2 h3 => by
  refine (World.putObj_heap_other h3).trans ((g3.keep b (Array.getElem?_eq_some_iff.1 h1).1 fun hB => ?_).trans h1)
  rcases hB with ⟨k, τ, r, β, e1, e2, e3⟩ | hB
  ·obtain ⟨cs, f4, _⟩ := hst.blk e1 e2
   rw [e3, h1] at f4
   cases f4; cases h2
  ·exact h3 ((hYD b).1 hB)
 have hcell : ∀ k τ r β, σ k = some (τ, r) → G1.μ k τ = some (some β) → ¬ Y.D β.b := fun k τ r β h1 h2 hb => by
  obtain ⟨cs, f4, _⟩ := hW1.blk h1 h2
  rw [(hYD _).1 hb, hl] at f4
  cases f4
 have hfm : ∃ fixM : Nat → Option Obj, (∀ b o, fixM b = some o → w.heap.size ≤ b ∧ b ≠ l ∧ w1.heap[b]? = some o ∧ o.isCells = false) ∧ (mark.map (·.target)).Nodup ∧ ∀ d ∈ mark, ∃ r, d.target = .collected r ∧ w.heap.size ≤ r ∧ fixM r = some (.deferred (some [])) := by
  rcases hmk with rfl | ⟨D, rfl, h1, h2, h3⟩
  ·exact ⟨fun _ => none, fun b o h => (by cases h), List.nodup_nil, fun d hd => (by cases hd)⟩
  ·refine ⟨fun b => if b = D then some (.deferred (some [])) else none, fun b o h => ?_, by simp, fun d hd => ?_⟩
   ·simp only at h
    split at h
    ·rename_i e; cases h; subst e; exact ⟨h1, h2, h3, rfl⟩
    ·cases h
   ·simp only [List.mem_singleton] at hd
    subst hd
    exact ⟨D, rfl, h1, if_pos rfl⟩
 obtain ⟨fixM, hM1, hM2, hM3⟩ := hfm
 let C6 : Cx := { C with fix := fun b => match C.fix b with | some o => some o | none => fixM b, defs := mark ++ C.defs }
 have hfo : ∀ b o, C.fix b = some o → C6.fix b = some o := fun b o h => by simp only [C6, h]
 have hfl : ∀ b o, C.fix b = some o → b < w.heap.size := fun b o h => (Array.getElem?_eq_some_iff.1 (hs.fix b o h).1).1
 have hfn : ∀ b o, fixM b = some o → C6.fix b = some o := fun b o h => by
  cases hc : C.fix b with
  | none => simp only [C6, hc]; exact h
  | some o' => have := hfl b o' hc; have := (hM1 b o h).1; omega
 have hfc : ∀ b o, C6.fix b = some o → C.fix b = some o ∨ fixM b = some o := fun b o h => by
  cases hc : C.fix b with
  | none => simp only [C6, hc] at h; exact Or.inr h
  | some o' => simp only [C6, hc] at h; exact Or.inl h
 have hle6 : C.le C6 := ⟨rfl, rfl, rfl, fun _ h => h, hfo⟩
 have hold' : ∀ b o, w.heap[b]? = some o → o.isCells = false → b ≠ l ∧ w1.heap[b]? = some o := fun b o h _ => by
  have := (Array.getElem?_eq_some_iff.1 h).1
  exact ⟨by omega, (hold b this).trans h⟩
 have hs6 : SRel n C6 G2 tm ((σ.apply (dels (S x0))).apply (outD (S xm))) { tmps := a.tmps, defers := mark ++ a.defers } (w2.putObj l (.loop { state := .exhausted, pending := jumpOf ex, fn, tmps := a.tmps, params := ps.toArray, assign, body, defers := dd })) := by
  refine ⟨hs.size, by show mark ++ a.defers = mark ++ C.defs; rw [hs.defers], hs.tm.mono (hle1.trans g2), ?_, fun b o hb => ?_, ⟨?_, fun d hd => ?_, fun l' hl' => ?_⟩, fun i' Y' hi' => ?_⟩
  ·refine (hW1.backD hle g3 (Nat.le_succ_of_le hv) (fun k τ r hr => ?_) (fun b hb => Or.inl ?_) (fun k τ r β _ h1 h2 => hcell k τ r β h1 h2)).putNon g4 rfl (Or.inl (Nat.le_trans hs.w.size hlw))
   ·exact iZ (hnn xm) g1 hr
   ·rw [(hYD b).1 hb]; exact Nat.le_trans hs.w.size hlw
  ·rcases hfc b o hb with hb | hb
   ·obtain ⟨e1, e2⟩ := hs.fix b o hb
    obtain ⟨e3, e4⟩ := hold' b o e1 e2
    exact ⟨hkeep b o e4 e2 e3, e2⟩
   ·obtain ⟨e1, e2, e3, e4⟩ := hM1 b o hb
    exact ⟨hkeep b o e3 e4 e2, e4⟩
  ·show ((mark ++ C.defs).map (·.target)).Nodup
   rw [List.map_append, List.nodup_append]
   refine ⟨hM2, hs.marks.1, fun t1 h1 t2 h2 e => ?_⟩
   obtain ⟨d1, e1, rfl⟩ := List.mem_map.1 h1
   obtain ⟨d2, e2, rfl⟩ := List.mem_map.1 h2
   obtain ⟨r1, f1, f2, f3⟩ := hM3 d1 e1
   obtain ⟨r2, f4, f5, f6⟩ := hs.marks.2.1 d2 e2
   rw [f1, f4] at e
   cases e
   have := hfl _ _ f6; omega
  ·rcases List.mem_append.1 hd with hd | hd
   ·obtain ⟨r, f1, f2, f3⟩ := hM3 d hd
    exact ⟨r, f1, Nat.le_trans C.bok (Nat.le_trans hs.w.size f2), hfn _ _ f3⟩
   ·obtain ⟨r, f1, f2, f3⟩ := hs.marks.2.1 d hd
    exact ⟨r, f1, f2, hfo _ _ f3⟩
  ·obtain ⟨r, hr⟩ := hs.marks.2.2 l' hl'
   exact ⟨r, hfo _ _ hr⟩
  ·obtain ⟨e1, e2, e3, e4⟩ := hs.gh i' Y' hi'
   refine ⟨Y'.st i' _ _ e1 fun b hb => ?_, e2.trans (hle1.trans g2), fun b o hb hD => ?_, e4⟩
   ·obtain ⟨o, f1, f2⟩ := Y'.nc _ _ b e1 hb
    obtain ⟨f3, f4⟩ := hold' b o f1 f2
    exact (hkeep b o f4 f2 f3).trans f1.symm
   ·rcases hfc b o hb with hb | hb
    ·exact e3 b o hb hD
    ·obtain ⟨o', f1, f2⟩ := Y'.nc _ _ b e1 hD
     have := (Array.getElem?_eq_some_iff.1 f1).1
     have := (hM1 b o hb).1
     omega
 refine ⟨_, _, run_endLoop g4 (by dsimp only; split <;> simp), ?_⟩
 have hL : Lift n C Q ex { tmps := a.tmps, defers := mark ++ a.defers } _ := ⟨C6, G2, tm, _, hle6, hs6, hq xm hxm⟩
 cases ex with
 | normal => exact hL
 | ret => exact wpIn_ret hL
 | exit id => exact wpIn_exit hL
 | goto t => exact wpIn_goto hL
 | panic ch => cases hex
 | outgrown => cases hex
theorem awp_own0 {P : Program} {n : Nat} {c : Code} {Q : Exit → Tm → Store → Prop} {tm : Tm} {σ : Store} {d : Nat} (k s : Nat) (ht : tm d = some (.d (.c (.slice none 0 0)))) (h : ∀ τ, awp P n c Q (tm.put d (.os k τ s 0)) (σ.put k (τ, ⟨s, []⟩))) : awp P n c Q tm σ := fun C ro G a w hro hs => by
 obtain ⟨v, hv, hf⟩ := hs.w.free
 have hle := Gh.name_le G none (hf k 0)
 refine h (v, 0) C ro (G.name k (v, 0) none) a w hro ⟨hs.size, hs.defers, fun t y hy => ?_, hs.w.phantom k hv (hf k 0) s, hs.fix, hs.marks, fun i Y hi => ?_⟩
 ·by_cases e : t = d
  ·subst e
   rw [Tm.put_self] at hy
   cases hy
   rcases hs.tm t _ ht with ⟨i, Y, h1⟩ | ⟨x, h1, h2⟩
   ·cases h1
   ·refine Or.inr ⟨x, h1, ?_⟩
    rw [RepO, Rep] at h2
    rw [RepO]
    exact Or.inr ⟨Gh.name_self _ _ _ _, h2.1, rfl⟩
  ·rw [Tm.put_ne _ _ e] at hy
   exact (hs.tm.mono hle) t y hy
 ·by_cases e : GS = d
  ·rw [← e, Tm.put_self] at hi; cases hi
  ·rw [Tm.put_ne _ _ e] at hi
   obtain ⟨h1, h2, h3⟩ := hs.gh i Y hi
   exact ⟨h1, h2.trans hle, h3⟩
section
variable {P : Program} {b : Frame} {a : Act} {k : List Item} {cs : List Frame} {w : World}
theorem xF {c : Code} : step P (lone (b.atR a (.code (.scope c) :: k)) cs w) = .next (lone (b.atR a (.code c :: .inScope c :: k)) cs w) :=
 step_lone_go (by simp [stepG, stepG.exec, Frame.atR])
theorem stepR_inScope {c : Code} : step P (lone (b.atR a (.inScope c :: k)) cs w) = .next (lone (b.atR a k) cs w) :=
 step_lone_go (by simp [stepG, stepG.exec, Frame.atR])
end
theorem wpIn_scope {F : Fence} {n : Nat} {P : Program} {Q : Exit → Act → World → Prop} {a : Act} {w : World} {c : Code} (h : c.wpIn F n P (Exit.noGoto Q) a w) : (Code.scope c).wpIn F n P Q a w := by
 intro b k cs hro hb hr
 have h0 : (lone (b.atR a (.code (.scope c) :: k)) cs w).fenced P F := fenced_calm hb hr rfl
 obtain ⟨e, a₁, w₁, hq, harr⟩ := h b (.inScope c :: k) cs hro hb hr
 cases e with
 | normal => exact ⟨.normal, a₁, w₁, hq, .head h0 xF (StepsIn.trans harr (.one (fenced_calm hb hr rfl) stepR_inScope))⟩
 | exit id' =>
  have hx : exitTo id' (.inScope c :: k) = exitTo id' k := by simp [exitTo]
  exact ⟨.exit id', a₁, w₁, hq, fun k' hk => .head h0 xF (harr.1 k' (by rw [hx]; exact hk)),
   fun hr' hk => let ⟨k₁, h1, h2⟩ := harr.2 hr' (by rw [hx]; exact hk); ⟨k₁, h1, .head h0 xF h2⟩⟩
 | goto l => exact hq.elim
 | ret => exact ⟨_, a₁, w₁, hq, .of_steps (.one h0 xF) harr⟩
 | panic ch => exact ⟨_, a₁, w₁, hq, .of_steps (.one h0 xF) harr⟩
 | outgrown => exact ⟨_, a₁, w₁, hq, .of_steps (.one h0 xF) harr⟩
def NoGoto (Q : Exit → Tm → Store → Prop) : Exit → Tm → Store → Prop
 | .goto _, _, _ => False
 | e, tm, σ => Q e tm σ
theorem cG {P : Program} {n : Nat} {c : Code} {Q : Exit → Tm → Store → Prop} {tm : Tm} {σ : Store} (h : awp P n c (NoGoto Q) tm σ) : awp P n (.scope c) Q tm σ := fun C ro G a w hro hs =>
 wpIn_scope (wpIn_mono (h C ro G a w hro hs) fun e a w ⟨C', G, tm, σ, h0, h1, h2⟩ => by
  cases e <;> first | exact h2.elim | exact ⟨C', G, tm, σ, h0, h1, h2⟩)
theorem sB {Q : Exit → Tm → Store → Prop} {tm : Tm} {σ : Store} (h : Q .normal tm σ) : NoGoto Q .normal tm σ := h
theorem sA {Q : Exit → Tm → Store → Prop} {tm : Tm} {σ : Store} (h : Q .ret tm σ) : NoGoto Q .ret tm σ := h
theorem ng_x {Q : Exit → Tm → Store → Prop} {id : Nat} {tm : Tm} {σ : Store} (h : Q (.exit id) tm σ) : NoGoto Q (.exit id) tm σ := h
set_option maxHeartbeats 4000000
set_option maxRecDepth 100000
def pairO' (p : Int × Int) : List OV := [.int .i64 p.1, .int .i64 p.2]
def pairYs (l : List (Int × Int)) : List (List OV) := l.map fun p => [.ag (pairO' p)]
theorem cT (l : List (Int × Int)) {i : Nat} (h : i < l.length) : (pairYs l).getD i [] = [.ag (pairO' (l.getD i default))] := by
 unfold pairYs
 rw [List.getD_eq_getElem?_getD, List.getElem?_map, List.getD_eq_getElem?_getD, List.getElem?_eq_getElem h]
 rfl
theorem wL {α : Type} (l : List α) (d : α) (k : Nat) (h : k < l.length) : l.take (k + 1) = l.take k ++ [l.getD k d] := by
 rw [List.take_succ_eq_append_getElem h, List.getD_eq_getElem?_getD, List.getElem?_eq_getElem h]; rfl
theorem LeafR.pairs' (l : List (Int × Int)) : LeafR (l.map pairO') := LeafR.map l fun a y hy => by
 simp only [pairO', List.mem_cons, List.not_mem_nil, or_false] at hy
 rcases hy with rfl | rfl <;> rfl
set_option maxHeartbeats 4000000 in
theorem appendSeq_p {y : OV} {f : FuncId} {fi ca : List OV} (hf : IsFn y f fi ca) (l : List (Int × Int)) (hl : l.length ≤ 1073741824) (hs : SeqW E.P f fi ca (pairYs l)) :
  Own E.P 111 [.d (.c (.slice none 0 0)), y] 2 (l.map pairO') := by
 have k2 : KeyOf 2 1002 := ⟨trivial⟩
 have k11 : KeyOf 11 1011 := ⟨trivial⟩
 have k9 : KeyOf 5 1005 := ⟨trivial⟩
 refine fnA Tryz.func111 Tryz.ntmps111 ?_
 refine awp_own0 (d := 0) 1011 2 rfl fun τ => ?_
 refine run ?_; refine aoR fun _ => ?_
 refine run ?_; refine aoR fun _ => ?_
 refine run ?_; rotate_left
 rename_i v0 _
 refine fL (X := Nat × Stamp) rfl hf hs (fun p => [(1002, ((v0, 0), ⟨1, [[.os 1011 p.2 2 p.1]]⟩)), (1011, (p.2, ⟨2, (l.take p.1).map pairO'⟩))]) (fun i p => p.1 = i ∧ i ≤ l.length) (0, τ) ⟨rfl, Nat.zero_le _⟩ l.length .normal rfl (by simp [pairYs]) (fun _ => by simp [pairYs]) (fun h => (h rfl).elim)
  (tmL [(2, .lo 1002 (v0, 0) 1 0 0)]) leP rfl (by decide) (fun i hi => by rw [cT _ hi]; rfl) leP (fun p => by simp) (fun p => by simp) ?_ ?_
 ·rintro i ⟨j, τ'⟩ hi ⟨rfl, hj⟩
  dsimp only at hi hj ⊢
  rw [cT _ hi]
  have hlen : (l.take j).length = j := by simp; omega
  refine aoR fun _ => ?_; refine run ?_
  rotate_left
  refine ⟨rfl, ?_⟩
  have hleaf := LeafR.pairs'
  refine run ?_; refine aoR fun _ => ?_
  refine run ?_; rotate_left
  rename_i v
  refine ⟨by cases (j + 1 == l.length) <;> rfl, (j + 1, (v, 3)), ⟨rfl, by omega⟩, vA rfl ?_ (vA rfl ?_ (wD _))⟩
  ·refine congrArg (fun n => [[OV.os 1011 (v, 3) 2 n]]) ?_
   show (List.map pairO' (List.take j l)).length + 1 = j + 1
   rw [List.length_map, hlen]
  ·rw [wL l default j hi, List.map_append]; rfl
 ·rintro ⟨j, τ'⟩ ⟨rfl, hj⟩
  dsimp only
  refine run ?_; refine aoR fun _ => ?_
  refine run ?_; rotate_left
  refine wR (d := 4) rfl rfl ?_ ?_
  ·rw [List.take_length]
  ·simp
end Go.Proofs.YtnkocjkkefnelaaGreat
