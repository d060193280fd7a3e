/- Parts. -/
import Derived.Maps.OwnSet
import Derived.Maps.OwnOps
import Derived.WideKeyEntry
import Derived.Test.YtnkocjkkefnelaaGreatPn10
set_option linter.unusedVariables false
set_option linter.unusedSimpArgs false
set_option maxHeartbeats 4000000
namespace Go.Proofs.YtnkocjkkefnelaaGreat
open Go.RowKit Go.Maps Go.ChangeMaps
def mapY (P : Program) (k e : TypeId) (g : Gh) (b : Nat) (Jm : Nat → Nat → DataW Unit → Prop) : YJ where
 g := g
 J i w := ∃ nn D, Jm i nn D ∧ w.ownsMap P k (plainElem P e) b nn D
 D x := x = b
 st i w w' := fun ⟨nn, D, h1, es, clock, hb, r⟩ h => ⟨nn, D, h1, es, clock, (h b rfl).trans hb, r⟩
 nc i w x := fun ⟨nn, D, _, es, clock, hb, _⟩ hx => ⟨.map es clock, by rw [show x = b from hx]; exact hb, rfl⟩
def objY (g : Gh) (b : Nat) (o : Obj) (ho : o.isCells = false) : YJ where
 g := g
 J _ w := w.heap[b]? = some o
 D x := x = b
 st i w w' := fun h h' => (h' b rfl).trans h
 nc i w x := fun h hx => ⟨o, by rw [show x = b from hx]; exact h, ho⟩
section
variable {P : Program} {v j : Nat} {tm : Tm} {σ : Store} {dst : Option Tmp} {ty : TypeId} {pos : String} {af : Array Edge} {gd : Option (Nat × Bool)}
def OpKJ (P : Program) (v j : Nat) (o : Oper) (tm : Tm) (σ : Store) (Jw : World → Prop) (K : OV → Store → Prop) : Prop :=
 ∀ (Γ : Ctx) (G : Gh) (ρ : Operand → Value) (w : World), Γ.N ≤ v → (∀ k, G.μ k (v, j) = none) → (∀ x ∈ o.op.operands, ∀ y, ev tm x = some y → RepO G y (ρ x)) → WRel Γ G σ w → Jw w →
  NextK P Γ G v j K ((execOp ρ o).run P w)
theorem OpKJ.ok {o : Oper} {Jw : World → Prop} {K : OV → Store → Prop} (hJw : ∀ (n : Nat) (C : Cx) (G : Gh) (a : Act) (w : World), SRel n C G tm σ a w → Jw w) (h : OpKJ P v j o tm σ Jw K) : OpOk P v j o tm σ K := fun n C G a w ro next Q hd hro hN hfr hs hk => by
 have hst := hs.w.startW (σ0 := σ) (fun _ _ e => e) C.Γ.N
 have h1 := h ⟨w, Blks G σ, G, C.Γ.N⟩ G a.eval w hN hfr (fun x _ y hy => aD hs.tm hy) hst (hJw n C G a w hs)
 have lv : ∀ x w', LeavesK ⟨w, Blks G σ, G, C.Γ.N⟩ G v j K x w' → next (a.put o.dst x) w' := fun x w' ⟨G', r, σ', g1, g2, g3, g4, g5⟩ => by
  refine hk C G' (tm.putO o.dst r) σ' _ w' (.refl C) g1 g2 ⟨by rw [Act.put_size, hs.size], by rw [Act.put_defers, hs.defers], (hs.tm.mono g1).put g3 o.dst (by rw [hs.size]; exact fun d e => (hd d e).1), hs.w.backX (fun _ _ e => e) g4 (Nat.le_refl _) (fun k τ r hr => Or.inr hr), fun b ob hb => ?_, hs.marks, fun i Y hi => ?_⟩ ⟨r, rfl, g5⟩
  ·obtain ⟨e1, e2⟩ := hs.fix b ob hb
   exact ⟨(g4.keep b (Array.getElem?_eq_some_iff.1 e1).1 (hs.fix.not_own hs.w hb)).trans e1, e2⟩
  ·obtain ⟨hJ, hJg, hJf⟩ := hs.gh i Y ((xL hd r).symm.trans hi)
   refine ⟨Y.st i w w' hJ fun b hb => ?_, hJg.trans g1, hJf⟩
   obtain ⟨ob, e1, e2⟩ := Y.nc i w b hJ hb
   refine g4.keep b (Array.getElem?_eq_some_iff.1 e1).1 fun ⟨k, τ, r', β, f1, f2, f3⟩ => ?_
   obtain ⟨cs, f4, _⟩ := hs.w.blk f1 f2
   rw [f3, e1] at f4
   cases f4; cases e2
 have hsem : o.semAt ro a.eval = execOp a.eval o := by
  refine Oper.semAt_eq ro a.eval o fun c hc => ?_
  have e : execOp a.eval o = (do pure (.defer (← resolve a.eval c o.type)) : Sem Next) := by
   simp only [execOp, hc]
  rw [e] at h1
  simp only [Sem.run_bind] at h1
  cases hr : (resolve a.eval c o.type).run P w with
  | ok d w' => rw [hr] at h1; simp [NextK] at h1
  | halt x w' => rw [hr] at h1; simp [NextK] at h1
 unfold Oper.wpIn
 refine ⟨fun _ _ => trivial, ?_⟩
 rw [show (wideR ro).round = ro from rfl, hsem]
 generalize (execOp a.eval o).run P w = r at *
 cases r with
 | ok nx w' =>
  cases nx <;> simp only [NextK] at h1 <;> simp only [Oper.uponIn]
  case value x => exact lv _ _ h1
  case skip => exact lv _ _ h1
  case enter f args =>
   refine ⟨fun e => (by cases e), ?_⟩
   exact (show CallsIn (wideR ro) (0 - 1) P f args w' _ from callsIn_wide.2 (h1.mono fun e w'' ⟨x, h2, h3⟩ => by subst h2; exact lv _ _ h3))
 | halt x w' => simp only [NextK] at h1
theorem sH {i : Nat} {Y : YJ} (hg : tm GS = some (.gh i Y)) (n : Nat) (C : Cx) (G : Gh) (a : Act) (w : World) (hs : SRel n C G tm σ a w) : Y.J i w := (hs.gh i Y hg).1
theorem pI {o : Oper} {K : Tm → Store → Prop} {i : Nat} {Y : YJ} {b : Nat} (hdf : ∀ c, o.op ≠ .defer c) (hg : tm GS = some (.gh i Y)) (hD : ∀ x, Y.D x ↔ x = b)
  (h : ∀ (G : Gh) (ρ : Operand → Value) (w : World), (∀ x ∈ o.op.operands, ∀ y, ev tm x = some y → RepO G y (ρ x)) → Y.J i w →
   ∃ x r ob i' Y', ((execOp ρ o).run P w = .ok (.value x) (w.putObj b ob) ∨ ((execOp ρ o).run P w = .ok .skip (w.putObj b ob) ∧ x = undef)) ∧ RepO G r x ∧ Y'.J i' (w.putObj b ob) ∧ Y'.g = Y.g ∧ (∀ x, Y'.D x ↔ x = b) ∧ K ((tm.putO o.dst r).put GS (.gh i' Y')) σ) : OpT P v j o tm σ K := fun n C G a w ro next Q hd hro hN hfr hs hk => by
 obtain ⟨hJ, hJg, hJf1, hJf2⟩ := hs.gh i Y hg
 obtain ⟨x, r, ob, i', Y', h1, h2, h3, h4, h5, h6⟩ := h G a.eval w (fun x _ y hy => aD hs.tm hy) hJ
 have hbD : Y.D b := (hD b).2 rfl
 obtain ⟨o0, e1, e2⟩ := Y.nc i w b hJ hbD
 have hS : C.Γ.w0.heap.size ≤ b ∨ C.Γ.S b := C.dok b (hJf2 b hbD)
 have nx : next (a.put o.dst x) (w.putObj b ob) := by
  refine hk C G _ σ _ _ (.refl C) (.refl G) (fun _ _ _ _ _ => rfl) ⟨by rw [Act.put_size, hs.size], by rw [Act.put_defers, hs.defers], fun t y ht => ?_, hs.w.putNon e1 e2 hS, fun b' ob' hb' => ?_, hs.marks, fun i2 Y2 hi => ?_⟩ h6
  ·by_cases hn' : t = GS
   ·subst hn'
    rw [Tm.put_self] at ht
    exact Or.inl ⟨_, _, (Option.some.inj ht).symm⟩
   ·rw [Tm.put_ne _ _ hn'] at ht
    exact (hs.tm.mono (.refl G)).put h2 o.dst (by rw [hs.size]; exact fun d e => (hd d e).1) t y ht
  ·obtain ⟨q1, q2⟩ := hs.fix b' ob' hb'
   exact ⟨(World.putObj_heap_other fun e => hJf1 b' ob' hb' (by rw [e]; exact hbD)).trans q1, q2⟩
  ·rw [Tm.put_self] at hi
   cases hi
   exact ⟨h3, by rw [h4]; exact hJg, fun b' ob' hb' hD' => hJf1 b' ob' hb' ((hD b').2 ((h5 b').1 hD')), fun b' hb' => hJf2 b' ((hD b').2 ((h5 b').1 hb'))⟩
 unfold Oper.wpIn
 refine ⟨fun _ _ => trivial, ?_⟩
 rw [show (wideR ro).round = ro from rfl, Oper.semAt_eq ro a.eval o fun c hc => (hdf c hc).elim]
 rcases h1 with h1 | ⟨h1, rfl⟩
 ·rw [h1]; exact nx
 ·rw [h1]; exact nx
theorem makeMap_ok {T k e : TypeId} {Jm : Nat → Nat → DataW Unit → Prop} {K : Tm → Store → Prop} (h0 : Jm 0 0 (.map [])) (hK : ∀ g b, K ((tm.putO dst (.d (.c (.map (some b))))).put GS (.gh 0 (mapY P k e g b Jm))) σ) :
  OpT P v j ⟨dst, .makeMap T none, ty, pos, af, gd⟩ tm σ K := fun n C G a w ro next Q hd hro hN hfr hs hk => by
 have old : ∀ b, b < w.heap.size → (w.alloc (.map #[] 0)).heap[b]? = w.heap[b]? := fun b hb => by
  show (w.heap.push _)[b]? = _
  rw [Array.getElem?_push_lt hb, Array.getElem?_eq_getElem hb]
 unfold Oper.wpIn
 refine ⟨fun _ _ => trivial, ?_⟩
 rw [show (wideR ro).round = ro from rfl, Oper.semAt_eq ro a.eval _ (fun c hc => by cases hc)]
 have hrun : (execOp a.eval ⟨dst, .makeMap T none, ty, pos, af, gd⟩).run P w = .ok (.value (.map (some w.heap.size))) (w.alloc (.map #[] 0)) := by
  simp [execOp, run_makeMap, Result.andThen]
 rw [hrun]
 have hsz : C.Γ.w0.heap.size ≤ w.heap.size := hs.w.size
 refine hk ⟨C.Γ, C.fix, C.defs, C.ro, C.base, fun b => C.dD b ∨ b = w.heap.size, fun b hb => hb.elim (C.dok b) fun e => Or.inl (by rw [e]; exact hsz), C.bok⟩ G _ σ _ _ ⟨rfl, rfl, rfl, fun b h => Or.inl h, fun _ _ h => h⟩ (.refl G) (fun _ _ _ _ _ => rfl)
  ⟨by rw [Act.put_size, hs.size], by rw [Act.put_defers, hs.defers], fun t y ht => ?_, hs.w.allocNon _, fun b' ob' hb' => ?_, hs.marks, fun i2 Y2 hi => ?_⟩ (hK G w.heap.size)
 ·by_cases hn' : t = GS
  ·subst hn'
   rw [Tm.put_self] at ht
   exact Or.inl ⟨_, _, (Option.some.inj ht).symm⟩
  ·rw [Tm.put_ne _ _ hn'] at ht
   exact (hs.tm.mono (.refl G)).put (by rw [RepO, Rep]; exact ⟨rfl, rfl⟩) dst (by rw [hs.size]; exact fun d e => (hd d e).1) t y ht
 ·obtain ⟨q1, q2⟩ := hs.fix b' ob' hb'
  exact ⟨(old b' (Array.getElem?_eq_some_iff.1 q1).1).trans q1, q2⟩
 ·rw [Tm.put_self] at hi
  cases hi
  refine ⟨(show ∃ nn D, Jm 0 nn D ∧ World.ownsMap _ P k (plainElem P e) _ nn D from ⟨0, _, h0, World.ownsMap_made w P k _⟩), (show G.le G from .refl G), fun b' ob' hb' hD' => ?_, fun b' hb' => Or.inr (show b' = w.heap.size from hb')⟩
  have := (Array.getElem?_eq_some_iff.1 (hs.fix b' ob' hb').1).1
  have h9 : b' = w.heap.size := hD'
  omega
def IsKeyV (P : Program) (k : TypeId) (y : OV) (kl : Lit) : Prop := ∀ (G : Gh) (u : Value), RepO G y u → keyOf P k u = some kl
def FnM (P : Program) (f : FuncId) (args : List OV) (Jw : World → Prop) (R : OV → Store → Prop) : Prop :=
 Enters P f ∧ ∀ (G : Gh) (w : World) (vs : List Value) (N : Nat), Jw w → RepOL G args vs → WRel ⟨w, fun _ => False, G, N⟩ G Store.nil w →
  Calls P f vs.toArray w (fun e w' => ∃ x G' r σ', e = .returned x ∧ R r σ' ∧ G.le G' ∧ RepO G' r x ∧ WRel ⟨w, fun _ => False, G, N⟩ G' σ' w')
theorem callM_ok {x : Operand} {xs : List Operand} {tys : Array TypeId} {y : OV} {f : FuncId} {fi ca ys : List OV} {R K : OV → Store → Prop} {i : Nat} {Y : YJ} (hx : ev tm x = some y) (hf : IsFn y f fi ca) (ha : evs tm xs = some ys) (hg : tm GS = some (.gh i Y)) (hc : FnM P f (fi ++ ys ++ ca) (Y.J i) R)
  (hk : ∀ r σ', R r σ' → K r σ) : OpOk P v j ⟨dst, .call { callee := .value x, args := xs.toArray, argTypes := tys }, ty, pos, af, gd⟩ tm σ K := OpKJ.ok (Jw := Y.J i) (sH hg) fun Γ G ρ w hv _ hρ hw hJ => by
 obtain ⟨vs, us, h1, h2, h3⟩ := hf.rep (hρ x (by simp [Op.operands, Call.operands]) y hx)
 have h4 := zI ha fun z hz => hρ z (by simp [Op.operands, Call.operands, hz])
 have h5 := hc.2 G w (vs.toList ++ xs.map ρ ++ us.toList) (v + 1) hJ ((h2.append h4).append h3) (hw.start (v + 1))
 have e : (vs.toList ++ xs.map ρ ++ us.toList).toArray = vs ++ (xs.map ρ).toArray ++ us := by simp
 rw [e] at h5
 rw [dP h1 hc.1]
 refine h5.mono fun e w' ⟨x, G', r, σ', h3, h4, h5, h6, h7⟩ => ⟨x, h3, G', r, σ, h5, fun k v' i hv' _ => h7.low k v' i (Nat.lt_succ_of_le hv'), h6, hw.back h7 (Nat.le_succ_of_le hv), hk r σ' h4⟩
theorem callY_ok {x : Operand} {xs : List Operand} {tys : Array TypeId} {y : OV} {f : FuncId} {fi ca ys : List OV} {K : Tm → Store → Prop} {i i' : Nat} {Y : YJ} (hx : ev tm x = some y) (hf : IsFn y f fi ca) (ha : evs tm xs = some ys) (hg : tm GS = some (.gh i Y)) (hc : FnY P f (fi ++ ys ++ ca) Y i i' [] (· = []))
  (hK : K ((tm.putO dst (.gh 0 Y)).put GS (.gh i' Y)) σ) : OpT P v j ⟨dst, .call { callee := .value x, args := xs.toArray, argTypes := tys }, ty, pos, af, gd⟩ tm σ K := fun n C G a w ro next Q hd hro hN hfr hs hk => by
 obtain ⟨vs, us, h1, h2, h3⟩ := hf.rep (aD hs.tm hx)
 have h4 := zI ha fun z _ y hy => aD hs.tm hy
 obtain ⟨hJ, hJg, hJf⟩ := hs.gh i Y hg
 have hst : WRel ⟨w, YBlks Y G [], G, v + 1⟩ G (stL []) w := hs.w.startY (l0 := []) (fun k x h => by cases h) Y (v + 1)
 have h5 := hc.2 G w (vs.toList ++ xs.map a.eval ++ us.toList) (v + 1) hJg hJ ((h2.append h4).append h3) hst
 have e : (vs.toList ++ xs.map a.eval ++ us.toList).toArray = vs ++ (xs.map a.eval).toArray ++ us := by simp
 rw [e] at h5
 unfold Oper.wpIn
 refine ⟨fun _ _ => trivial, ?_⟩
 rw [show (wideR ro).round = ro from rfl, Oper.semAt_eq ro a.eval _ (fun c hc => by cases hc), dP h1 hc.1]
 simp only [Oper.uponIn]
 refine ⟨fun e => (by cases e), ?_⟩
 refine (show CallsIn (wideR ro) (0 - 1) P f _ w _ from callsIn_wide.2 (h5.mono fun e w' ⟨⟨x, hx'⟩, l1, hl1, G', σ', g1, g2, g3, g4⟩ => ?_))
 subst hx' hl1
 have hJn : ∀ k τ r β, σ k = some (τ, r) → G.μ k τ = some (some β) → ¬ Y.D β.b := fun k τ r β h1 h2 hb => by
  obtain ⟨o, e1, e2⟩ := Y.nc i w _ hJ hb
  obtain ⟨cs, f4, _⟩ := hs.w.blk h1 h2
  rw [e1] at f4
  cases f4; cases e2
 have hnr : ∀ b o, C.fix b = some o → ¬ YBlks Y G [] b := fun b o hb hB => by
  rcases hB with hB | hB
  ·obtain ⟨k, τ, r, β, e, _⟩ := hB; cases e
  ·exact hJf.1 b o hb hB
 refine hk C G' _ σ (a.put dst x) w' (.refl C) g2 (fun k v' i hv' _ => g3.low k v' i (Nat.lt_succ_of_le hv')) ⟨by rw [Act.put_size, hs.size], by rw [Act.put_defers, hs.defers], fun t y ht => ?_, hs.w.backD (σ0 := stL []) (fun k x h => by cases h) g3 (Nat.le_succ_of_le hN) (fun k τ r hr => Or.inl ⟨rfl, hr⟩) (fun b hb => C.dok b (hJf.2 b hb)) (fun k τ r β _ h1 h2 => hJn k τ r β h1 h2), fun b o hb => ?_, hs.marks, fun i2 Y2 hi => ?_⟩ hK
 ·by_cases hn' : t = GS
  ·subst hn'
   rw [Tm.put_self] at ht
   exact Or.inl ⟨_, _, (Option.some.inj ht).symm⟩
  ·rw [Tm.put_ne _ _ hn'] at ht
   exact (hs.tm.mono g2).put (by rw [RepO]; trivial) dst (by rw [hs.size]; exact fun d e => (hd d e).1) t y ht
 ·obtain ⟨e1, e2⟩ := hs.fix b o hb
  exact ⟨(g3.keep b (Array.getElem?_eq_some_iff.1 e1).1 (hnr b o hb)).trans e1, e2⟩
 ·rw [Tm.put_self] at hi
  cases hi
  exact ⟨g4, hJg.trans g2, hJf⟩
end
section
variable {P : Program} {v j : Nat} {ops : Array Oper} {Q : Tm → Store → Prop} {rest : List Oper} {tm : Tm} {σ : Store} {dst : Option Tmp} {ty : TypeId} {pos : String} {af : Array Edge}
theorem S_makeMap {T k e : TypeId} (Jm : Nat → Nat → DataW Unit → Prop) (h0 : Jm 0 0 (.map [])) (h : ∀ g b, AO P v ops Q (j + 1) rest ((tm.putO dst (.d (.c (.map (some b))))).put GS (.gh 0 (mapY P k e g b Jm))) σ) : AO P v ops Q j (⟨dst, .makeMap T none, ty, pos, af, none⟩ :: rest) tm σ :=
 sE (makeMap_ok h0 h)
theorem S_callM {x : Operand} {xs : List Operand} {tys : Array TypeId} {y : OV} {f : FuncId} {fi ca ys : List OV} {i : Nat} {Y : YJ} {r : OV} (hx : ev tm x = some y) (hf : IsFn y f fi ca) (ha : evs tm xs = some ys) (hg : tm GS = some (.gh i Y)) (hc : FnM P f (fi ++ ys ++ ca) (Y.J i) (fun r' _ => r' = r))
  (h : AO P v ops Q (j + 1) rest (tm.putO dst r) σ) : AO P v ops Q j (⟨dst, .call { callee := .value x, args := xs.toArray, argTypes := tys }, ty, pos, af, none⟩ :: rest) tm σ := ao_ok (callM_ok hx hf ha hg hc fun r' σ' e => by rw [e]; exact h)
theorem lZ {x : Operand} {xs : List Operand} {tys : Array TypeId} {y : OV} {f : FuncId} {fi ca ys : List OV} {i i' : Nat} {Y : YJ} (hx : ev tm x = some y) (hf : IsFn y f fi ca) (ha : evs tm xs = some ys) (hg : tm GS = some (.gh i Y)) (hc : FnY P f (fi ++ ys ++ ca) Y i i' [] (· = []))
  (h : AO P v ops Q (j + 1) rest ((tm.putO dst (.gh 0 Y)).put GS (.gh i' Y)) σ) : AO P v ops Q j (⟨dst, .call { callee := .value x, args := xs.toArray, argTypes := tys }, ty, pos, af, none⟩ :: rest) tm σ := sE (callY_ok hx hf ha hg hc h)
end
def Tm.sub (tx tm : Tm) : Prop := ∀ t y, tx t = some y → (t ≠ GS ∧ ∃ i Y, y = .gh i Y) ∨ tm t = some y
theorem SRel.sub {n : Nat} {C : Cx} {G : Gh} {tm tx : Tm} {σ : Store} {a : Act} {w : World} (hs : SRel n C G tm σ a w) (h : tx.sub tm) : SRel n C G tx σ a w :=
 ⟨hs.size, hs.defers, fun t y ht => by
  rcases h t y ht with ⟨_, i, Y, rfl⟩ | h1
  ·exact Or.inl ⟨i, Y, rfl⟩
  ·exact hs.tm t y h1, hs.w, hs.fix, hs.marks, fun i Y hi => by
  rcases h GS _ hi with ⟨h1, _⟩ | h1
  ·exact (h1 rfl).elim
  ·exact hs.gh i Y h1⟩
def anyT (P : Program) (v : Nat) (ops : Array Oper) (Q : Tm → Store → Prop) : Nat → Array Bool → Tm → Store → Prop
 | 0, listed, tm, σ => Region.ready .any ops listed = [] ∧ Q tm σ
 | fuel + 1, listed, tm, σ => (Region.ready .any ops listed = [] → Q tm σ) ∧ ∀ i ∈ Region.ready .any ops listed, ∃ o, ops[i]? = some o ∧ o.guard = none ∧ OpT P v i o tm σ (anyT P v ops Q fuel (listed.setIfInBounds i true))
theorem jF {P : Program} {v n : Nat} {ops : Array Oper} {C0 : Cx} {ro : Option Nat} {Q : Tm → Store → Prop} {Q' : Exit → Act → World → Prop} (hn : dstsLt n ops.toList = true) (hQ : ∀ C G tm σ a w, C0.le C → SRel n C G tm σ a w → Q tm σ → Q' .normal a w) :
  ∀ (fuel : Nat) (listed : Array Bool) (C : Cx) (G : Gh) (tm : Tm) (σ : Store) (a : Act) (w : World), C0.le C → C.ro = ro → C.Γ.N ≤ v → (∀ k i, listed.getD i true = false → G.μ k (v, i) = none) → SRel n C G tm σ a w → anyT P v ops Q fuel listed tm σ → wpAnyIn (wideR ro) 0 P .any ops Q' fuel listed a w
 | 0, listed, C, G, tm, σ, a, w, hC, _, _, _, hs, h => ⟨h.1, hQ C G tm σ a w hC hs h.2⟩
 | fuel + 1, listed, C, G, tm, σ, a, w, hC, hro, hN, hf, hs, h => by
  refine ⟨fun h0 => hQ C G tm σ a w hC hs (h.1 h0), fun i hi => ?_⟩
  obtain ⟨o, ho, hgd, hT⟩ := h.2 i hi
  have hun := (mem_ready.1 hi).1
  unfold wpOpIn
  rw [ho]
  have hw : Region.wanted o (yielded ops a.tmps) = true := by unfold Region.wanted; rw [hgd]
  simp only [hw, if_true]
  have hd := vW hn (o := o) (by simpa using Array.mem_of_getElem? ho)
  refine hT n C G a w ro _ Q' hd hro hN (fun k => hf k i hun) hs fun C' G' tm1 σ' a' w' g0 g1 g2 g3 g4 => ?_
  refine jF hn hQ fuel _ C' G' tm1 σ' a' w' (hC.trans g0) (g0.ro.trans hro) (by rw [g0.N]; exact hN) (fun k i' hi' => ?_) g3 g4
  by_cases e : i = i'
  ·subst e
   rcases Nat.lt_or_ge i listed.size with h' | h'
   ·simp [h'] at hi'
   ·simp [Array.getElem?_eq_none h'] at hun
  ·rw [getD_set_ne true e] at hi'
   rw [g2 k v i' (Nat.le_refl _) (fun _ => Ne.symm e)]
   exact hf k i' hi'
theorem awp_any {E : Env} {n id : Nat} {l : List Oper} {Q : Exit → Tm → Store → Prop} {tm : Tm} {σ : Store} (hn : dstsLt n l = true)
  (h : ∀ v, anyT E.P v l.toArray (fun tm σ => ∃ tx, tx.sub tm ∧ Q .normal tx σ) l.length (Array.replicate l.length false) tm σ) : awp E.P n (.region id l.toArray true) Q tm σ := fun C ro G a w hro hs => by
 obtain ⟨v, hv, hf⟩ := hs.w.free
 refine wpIn_region_any E.mixed ?_
 have := jF (Q' := Lift n C Q) (C0 := C) (ro := ro) (by simpa using hn) (fun C' G tm σ a w h0 h1 ⟨tx, h2, h3⟩ => ⟨C', G, tx, σ, h0, h1.sub h2, h3⟩) _ _ C G tm σ a { w with drawn := w.drawn + 1 } (.refl C) hro hv (fun k i _ => hf k i) ⟨hs.size, hs.defers, hs.tm, hs.w.drawn _, hs.fix, hs.marks, fun i Y hi => ⟨Y.st i _ _ (hs.gh i Y hi).1 fun _ _ => rfl, (hs.gh i Y hi).2⟩⟩ (h v)
 simpa using this
end Go.Proofs.YtnkocjkkefnelaaGreat
