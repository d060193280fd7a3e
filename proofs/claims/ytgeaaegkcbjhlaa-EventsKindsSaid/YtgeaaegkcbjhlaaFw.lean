/- Calls that are handed rows of the caller's own, and may write them: closures over variables. -/
import Derived.Test.YtgeaaegkcbjhlaaFz
set_option linter.unusedVariables false
namespace Go.Proofs.Ytgeaaegkcbjhlaa
open Go.RowKit

/-- the blocks of a store's rows -/
def Blks (G : Gh) (σ : Store) (b : Nat) : Prop := ∃ k τ r β, σ k = some (τ, r) ∧ G.μ k τ = some (some β) ∧ β.b = b
/-- What a call answers that is handed the rows σ0, and what these are then. -/
def FnW (P : Program) (f : FuncId) (args : List OV) (σ0 : Store) (R : OV → Store → Prop) : Prop :=
  Enters P f ∧ ∀ (G : Gh) (w : World) (vs : List Value) (N : Nat), RepOL G args vs → WRel ⟨w, Blks G σ0, G, N⟩ G σ0 w →
    Calls P f vs.toArray w (fun e w' => ∃ x G' r σ', e = .returned x ∧ R r σ' ∧ G.le G' ∧ RepO G' r x ∧ WRel ⟨w, Blks G σ0, G, N⟩ G' σ' w')
theorem blks_nil (G : Gh) : Blks G Store.nil = fun _ => False := by
  funext b
  refine propext ⟨?_, fun h => h.elim⟩
  rintro ⟨k, τ, r, β, h, _⟩
  cases h
theorem FnW.toR {P : Program} {f : FuncId} {args : List OV} {R : OV → Store → Prop} (h : FnW P f args Store.nil R) : FnR P f args R :=
  ⟨h.1, fun G w vs N h1 h2 => by
    have := h.2 G w vs N h1
    rw [blks_nil] at this
    exact this h2⟩
theorem FnR.toW {P : Program} {f : FuncId} {args : List OV} {R : OV → Store → Prop} (h : FnR P f args R) : FnW P f args Store.nil R :=
  ⟨h.1, fun G w vs N h1 h2 => by
    rw [blks_nil] at h2 ⊢
    exact h.2 G w vs N h1 h2⟩
theorem WRel.startW {Γ : Ctx} {G : Gh} {σ σ0 : Store} {w : World} (h : WRel Γ G σ w) (hle : σ0.le σ) (N : Nat) : WRel ⟨w, Blks G σ0, G, N⟩ G σ0 w where
  mem := h.mem
  own k τ r hk := by
    rcases h.own k τ r (hle _ _ hk) with h1 | ⟨β, h1, h2, h3, _⟩
    · exact Or.inl h1
    · exact Or.inr ⟨β, h1, h2, h3, Or.inr ⟨k, τ, r, β, hk, h1, rfl⟩⟩
  inj k k' τ τ' β β' r r' hk hk' := h.inj k k' τ τ' β β' r r' (hle _ _ hk) (hle _ _ hk')
  keep _ _ _ := rfl
  size := Nat.le_refl _
  tape := rfl
  os := rfl
  output := rfl
  g0 := .refl G
  new _ _ _ h := Or.inl h
  bound := h.bound
  low _ _ _ _ := rfl
/-- what the caller has behind the call: its other rows as they were, the rows handed over as they are then -/
def Behind (σ σ0 σ1 σ' : Store) : Prop := ∀ k τ r, σ' k = some (τ, r) → (σ0 k = none ∧ σ k = some (τ, r)) ∨ (σ1 k = some (τ, r) ∧ ∃ r0, σ0 k = some (τ, r0))
theorem WRel.backW {Γ : Ctx} {G G' : Gh} {σ σ0 σ1 σ' : Store} {w w' : World} {N : Nat} (h : WRel Γ G σ w) (hle : σ0.le σ) (h' : WRel ⟨w, Blks G σ0, G, N⟩ G' σ1 w') (hN : Γ.N ≤ N) (hb : Behind σ σ0 σ1 σ') : WRel Γ G' σ' w' := by
  have own' : ∀ k τ r β, σ k = some (τ, r) → G'.μ k τ = some (some β) → G.μ k τ = some (some β) := fun k τ r β hk hμ => by
    rcases h.own k τ r hk with ⟨h1, h2⟩ | ⟨β0, h1, h2⟩
    · have := h'.g0.2 _ _ _ h1; rw [hμ] at this; cases this
    · have := h'.g0.2 _ _ _ h1; rw [hμ] at this; cases this; exact h1
  have old : ∀ k τ r, σ' k = some (τ, r) → ∃ r0, σ k = some (τ, r0) := fun k τ r hk => by
    rcases hb k τ r hk with ⟨_, h1⟩ | ⟨_, r0, h1⟩
    · exact ⟨r, h1⟩
    · exact ⟨r0, hle _ _ h1⟩
  have blk : ∀ b, Blks G σ0 b → Γ.w0.heap.size ≤ b ∨ Γ.S b := fun b ⟨k, τ, r, β, h1, h2, h3⟩ => by
    rcases h.own k τ r (hle _ _ h1) with ⟨g1, _⟩ | ⟨β0, g1, _, _, g2⟩
    · rw [h2] at g1; cases g1
    · rw [h2] at g1; cases g1; rw [← h3]; exact g2
  refine ⟨h'.mem, ?_, ?_, ?_, Nat.le_trans h.size h'.size, h'.tape.trans h.tape, h'.os.trans h.os, h'.output.trans h.output, h.g0.trans h'.g0, ?_, h'.bound, fun k v i hv => (h'.low k v i (Nat.lt_of_lt_of_le hv hN)).trans (h.low k v i hv)⟩
  · intro k τ r hk
    rcases hb k τ r hk with ⟨h0, h1⟩ | ⟨h1, r0, h0⟩
    · rcases h.own k τ r h1 with ⟨g1, g2⟩ | ⟨β, g1, g2, g3, g4⟩
      · exact Or.inl ⟨h'.g0.2 _ _ _ g1, g2⟩
      · have hn : ¬ Blks G σ0 β.b := fun ⟨k', τ', r', β', e1, e2, e3⟩ => by
          have := h.inj k' k τ' τ β' β r' r (hle _ _ e1) h1 e2 g1 e3
          subst this
          rw [h0] at e1; cases e1
        refine Or.inr ⟨β, h'.g0.2 _ _ _ g1, (g2.of_heap (h'.keep β.b g2.lt hn)).mono h'.g0, fun o => ?_, g4⟩
        cases hm : G'.M β.b o with
        | none => rfl
        | some x =>
          rcases h'.new _ _ _ hm with e | e | e
          · have := g3 o; rw [show G.M β.b o = some x from e] at this; cases this
          · have := g2.lt; exact (Nat.not_lt.2 e this).elim
          · exact (hn e).elim
    · rcases h'.own k τ r h1 with g | ⟨β, g1, g2, g3, _⟩
      · exact Or.inl g
      · have e1 := own' k τ r0 β (hle _ _ h0) g1
        exact Or.inr ⟨β, g1, g2, g3, blk _ ⟨k, τ, r0, β, h0, e1, rfl⟩⟩
  · intro k k' τ τ' β β' r r' hk hk' hμ hμ' e
    obtain ⟨r0, h1⟩ := old k τ r hk
    obtain ⟨r0', h1'⟩ := old k' τ' r' hk'
    exact h.inj k k' τ τ' β β' r0 r0' h1 h1' (own' _ _ _ _ h1 hμ) (own' _ _ _ _ h1' hμ') e
  · intro b hb' hS
    refine (h'.keep b (Nat.lt_of_lt_of_le hb' h.size) fun hB => ?_).trans (h.keep b hb' hS)
    rcases blk b hB with e | e
    · exact Nat.not_lt.2 e hb'
    · exact hS e
  · intro b o x hm
    rcases h'.new b o x hm with e | e | e
    · exact h.new b o x e
    · exact Or.inr (Or.inl (Nat.le_trans h.size e))
    · exact Or.inr (blk b e)

section
variable {P : Program} {v j : Nat} {tm : Tm} {σ : Store} {dst : Option Tmp} {ty : TypeId} {pos : String} {af : Array Edge} {gd : Option (Nat × Bool)} {K : OV → Store → Prop}
theorem call_coreW {x : Operand} {xs : List Operand} {tys : Array TypeId} {y : OV} {f : FuncId} {fi ca ys : List OV} {σ0 : Store} {R : OV → Store → Prop} (hx : ev tm x = some y) (hf : IsFn y f fi ca) (ha : evs tm xs = some ys) (hc : FnW P f (fi ++ ys ++ ca) σ0 R)
    {Γ : Ctx} {G : Gh} {ρ : Operand → Value} {w : World} (hρ : ∀ z ∈ (Op.call { callee := .value x, args := xs.toArray, argTypes := tys }).operands, ∀ y, ev tm z = some y → RepO G y (ρ z)) (hw : WRel Γ G σ w) (hle : σ0.le σ) :
    ∃ f' args, (execOp ρ ⟨dst, .call { callee := .value x, args := xs.toArray, argTypes := tys }, ty, pos, af, gd⟩).run P w = .ok (.enter f' args) w ∧
      Calls P f' args w (fun e w' => ∃ x G' r σ', e = .returned x ∧ R r σ' ∧ G.le G' ∧ RepO G' r x ∧ WRel ⟨w, Blks G σ0, G, v + 1⟩ G' σ' w') := by
  obtain ⟨vs, us, h1, h2, h3⟩ := hf.rep (hρ x (by simp [Op.operands, Call.operands]) y hx)
  have h4 := evs_rep ha fun z hz => hρ z (by simp [Op.operands, Call.operands, hz])
  refine ⟨f, _, run_call h1 hc.1, ?_⟩
  have h5 := hc.2 G w (vs.toList ++ xs.map ρ ++ us.toList) (v + 1) ((h2.append h4).append h3) (hw.startW hle (v + 1))
  have e : (vs.toList ++ xs.map ρ ++ us.toList).toArray = vs ++ (xs.map ρ).toArray ++ us := by simp
  rw [e] at h5
  exact h5
/-- the caller's store behind the call: the first list's keys are the second's -/
def outD (l1 : List (Nat × (Stamp × Row))) : Diff := l1.map fun e => (e.1, some e.2)
def keysOf (l : List (Nat × (Stamp × Row))) : List (Nat × Stamp) := l.map fun e => (e.1, e.2.1)
theorem stL_get : ∀ {l : List (Nat × (Stamp × Row))} {k : Nat} {x : Stamp × Row}, stL l k = some x → k ∈ l.map (·.1)
  | [], k, x, h => by cases h
  | (d, y) :: l, k, x, h => by
    unfold stL at h
    cases hb : Nat.beq k d with
    | true => rw [Nat.eq_of_beq_eq_true hb]; simp
    | false => rw [hb] at h; simp [stL_get (show stL l k = some x from h)]
theorem stL_none : ∀ {l : List (Nat × (Stamp × Row))} {k : Nat}, k ∉ l.map (·.1) → stL l k = none
  | [], k, h => rfl
  | (d, y) :: l, k, h => by
    unfold stL
    simp only [List.map_cons, List.mem_cons, not_or] at h
    rw [beq_ne h.1]
    exact stL_none h.2
theorem stL_cons (d : Nat) (y : Stamp × Row) (l : List (Nat × (Stamp × Row))) (k : Nat) : stL ((d, y) :: l) k = bif Nat.beq k d then some y else stL l k := rfl
theorem applyD_out : ∀ (l : List (Nat × (Stamp × Row))) (σ : Store) (k : Nat), (l.map (·.1)).Nodup → (σ.apply (outD l)) k = match stL l k with | some x => some x | none => σ k
  | [], σ, k, _ => rfl
  | (d, y) :: l, σ, k, hn => by
    simp only [List.map_cons, List.nodup_cons] at hn
    have ih := applyD_out l (σ.put d y) k hn.2
    show (Store.apply (σ.put d y) (outD l)) k = _
    rw [ih, stL_cons]
    cases hb : Nat.beq k d with
    | true =>
      have e := Nat.eq_of_beq_eq_true hb
      subst e
      rw [stL_none hn.1]
      exact Store.put_self σ k y
    | false =>
      have h1 : σ.put d y k = σ k := by simp [Store.put, hb]
      rw [h1]; rfl
theorem keys_stamp : ∀ {l0 l1 : List (Nat × (Stamp × Row))}, keysOf l0 = keysOf l1 → ∀ {k : Nat} {x : Stamp × Row}, stL l1 k = some x → ∃ r0, stL l0 k = some (x.1, r0)
  | [], [], _, k, x, h => by cases h
  | [], _ :: _, e, _, _, _ => by cases e
  | _ :: _, [], e, _, _, _ => by cases e
  | (d0, y0) :: l0, (d1, y1) :: l1, e, k, x, h => by
    simp only [keysOf, List.map_cons, List.cons.injEq, Prod.mk.injEq] at e
    obtain ⟨⟨rfl, e2⟩, e3⟩ := e
    unfold stL at h ⊢
    cases hb : Nat.beq k d0 with
    | true =>
      rw [hb] at h
      cases h
      exact ⟨y0.2, by rw [← e2]; rfl⟩
    | false =>
      rw [hb] at h
      exact keys_stamp e3 h
theorem keys_none {l0 l1 : List (Nat × (Stamp × Row))} (e : keysOf l0 = keysOf l1) {k : Nat} (h : stL l1 k = none) : stL l0 k = none := by
  cases hh : stL l0 k with
  | none => rfl
  | some x =>
    obtain ⟨r0, h1⟩ := keys_stamp e.symm hh
    rw [h] at h1; cases h1
/-- the contract's answer, and the rows as they are then -/
def IsW (r : OV) (σ1 : Store) : OV → Store → Prop := fun r' σ' => r' = r ∧ σ1.le σ'
theorem Y_callw {x : Operand} {xs : List Operand} {tys : Array TypeId} {y : OV} {f : FuncId} {fi ca ys : List OV} {r : OV} {l0 l1 : List (Nat × (Stamp × Row))} (hx : ev tm x = some y) (hf : IsFn y f fi ca) (ha : evs tm xs = some ys) (hc : FnW P f (fi ++ ys ++ ca) (stL l0) (IsW r (stL l1)))
    (hle : (stL l0).le σ) (hk : keysOf l0 = keysOf l1) (hn : (l1.map (·.1)).Nodup) :
    YL P v j ⟨dst, .call { callee := .value x, args := xs.toArray, argTypes := tys }, ty, pos, af, gd⟩ tm σ (l0.map (·.1)) r (outD l1) := fun σ' hσ Γ G ρ w hv _ hρ hw => by
  have hle' : (stL l0).le σ' := fun k x hx => by rw [hσ k (stL_get hx)]; exact hle k x hx
  obtain ⟨f', args, h1, h2⟩ := call_coreW (v := v) hx hf ha hc hρ hw hle'
  rw [h1]
  refine h2.mono fun e w' ⟨x, G', r', σ2, h3, ⟨h4, h4'⟩, h5, h6, h7⟩ => ⟨x, h3, G', h5, fun k v' i hv' _ => h7.low k v' i (Nat.lt_succ_of_le hv'), by rw [← h4]; exact h6, hw.backW hle' h7 (Nat.le_succ_of_le hv) fun k τ r hkr => ?_⟩
  rw [applyD_out l1 σ' k hn] at hkr
  cases h8 : stL l1 k with
  | some x =>
    rw [h8] at hkr
    cases hkr
    exact Or.inr ⟨h4' _ _ h8, keys_stamp hk h8⟩
  | none =>
    rw [h8] at hkr
    exact Or.inl ⟨keys_none hk h8, hkr⟩
end
/-- functions that are handed rows -/
theorem fnw_core {P : Program} {f : FuncId} {fn : Func} {c : Code} {n : Nat} {args : List OV} {σ0 : Store} {Q : Exit → Tm → Store → Prop} {R : OV → Store → Prop} (hf : P.funcs[f]? = some fn) (hname : (fn.name == "runtime.NumGoroutine") = false) (hb : fn.body = some c) (hn : fn.ntmps = n) (hl : args.length ≤ n)
    (hq : ∀ e G tm σ Γ a w, SRel n Γ G tm σ a w → Q e tm σ → (e = .normal ∨ e = .ret) ∧ ∃ x r, (results fn a.tmps).run P w = .ok x w ∧ RepO G r x ∧ R r σ)
    (h : awp P n c Q (Tm.ini args) σ0) : FnW P f args σ0 R := by
  refine ⟨⟨fn, hf, hname, by rw [hb]; rfl⟩, fun G w vs N hv hw => ?_⟩
  have hlen := hv.length
  refine calls_of_wp hf hb (wp_mono (h _ G _ w ⟨?_, rfl, ?_, hw⟩) fun e a w' ⟨G', tm, σ, hs, hd⟩ => ?_)
  · simp; omega
  · intro t y hy
    obtain ⟨x, h1, h2⟩ := hv.get hy
    refine ⟨x, ?_, h2⟩
    have hlt : t < vs.length := by
      rcases Nat.lt_or_ge t vs.length with hh | hh
      · exact hh
      · rw [List.getElem?_eq_none hh] at h1; cases h1
    rw [Array.getElem?_append_left (by simpa using hlt)]
    simpa using h1
  · obtain ⟨he, x, r, h1, h2, h3⟩ := hq e G' tm σ _ a w' hs hd
    have key : a.defers = [] ∧ ∃ v, (results fn a.tmps).run P w' = .ok v w' ∧ ∃ x G'' r σ', Ending.returned v = .returned x ∧ R r σ' ∧ G.le G'' ∧ RepO G'' r x ∧ WRel ⟨w, Blks G σ0, G, N⟩ G'' σ' w' :=
      ⟨hs.defers, x, h1, x, G', r, σ, rfl, h3, hs.w.g0, h2, hs.w⟩
    rcases he with rfl | rfl <;> exact key
theorem fnw_of_awp {P : Program} {f : FuncId} {fn : Func} {c : Code} {n t : Nat} {args : List OV} {σ0 : Store} {R : OV → Store → Prop} (hf : P.funcs[f]? = some fn) (hname : (fn.name == "runtime.NumGoroutine") = false) (hb : fn.body = some c) (hn : fn.ntmps = n) (hl : args.length ≤ n) (hr : fn.results = #[.tmp t])
    (h : awp P n c (Done t R) (Tm.ini args) σ0) : FnW P f args σ0 R := by
  refine fnw_core hf hname hb hn hl (fun e G tm σ Γ a w hs hd => ?_) h
  have key : (∃ r, tm t = some r ∧ R r σ) → ∃ x r, (results fn a.tmps).run P w = .ok x w ∧ RepO G r x ∧ R r σ := fun ⟨r, h1, h2⟩ => by
    obtain ⟨x, h3, h4⟩ := hs.tm t r h1
    refine ⟨x, r, ?_, h4, h2⟩
    simp [results, hr, h3]
  cases e <;> first | exact hd.elim | exact ⟨by simp, key hd⟩
/-- no result -/
def Done0 (R : OV → Store → Prop) : Exit → Tm → Store → Prop
  | .normal, _, σ => R (.tu []) σ
  | .ret, _, σ => R (.tu []) σ
  | _, _, _ => False
theorem fnw_of_awp0 {P : Program} {f : FuncId} {fn : Func} {c : Code} {n : Nat} {args : List OV} {σ0 : Store} {R : OV → Store → Prop} (hf : P.funcs[f]? = some fn) (hname : (fn.name == "runtime.NumGoroutine") = false) (hb : fn.body = some c) (hn : fn.ntmps = n) (hl : args.length ≤ n) (hr : fn.results = #[])
    (h : awp P n c (Done0 R) (Tm.ini args) σ0) : FnW P f args σ0 R := by
  refine fnw_core hf hname hb hn hl (fun e G tm σ Γ a w hs hd => ?_) h
  have key : R (.tu []) σ → ∃ x r, (results fn a.tmps).run P w = .ok x w ∧ RepO G r x ∧ R r σ := fun h1 => by
    refine ⟨.tuple #[], .tu [], ?_, ?_, h1⟩
    · simp [results, hr]
    · rw [RepO]; exact ⟨#[], rfl, by rw [RepOL]⟩
  cases e <;> first | exact hd.elim | exact ⟨by simp, key hd⟩
section
variable {E : Env} {v j : Nat} {ops : Array Oper} {K : Tm → Store → Prop} {KD : List Foot → Tm → Store → Prop} {acc : List Foot} {rest : List Oper} {tm : Tm} {σ : Store} {ty : TypeId} {pos : String} {af : Array Edge} {gd : Option (Nat × Bool)} {dst : Option Tmp}
theorem S_callw {x : Operand} {xs : List Operand} {tys : Array TypeId} {y : OV} {f : FuncId} {fi ca ys : List OV} {r : OV} {l0 l1 : List (Nat × (Stamp × Row))} (hx : ev tm x = some y) (hf : IsFn y f fi ca) (ha : evs tm xs = some ys) (hc : FnW E.P f (fi ++ ys ++ ca) (stL l0) (IsW r (stL l1)))
    (hle : (stL l0).le σ) (hk : keysOf l0 = keysOf l1) (hn : (l1.map (·.1)).Nodup)
    (hcont : AO E.P v ops K (j + 1) rest (tm.putO dst r) (σ.apply (outD l1))) : AO E.P v ops K j (⟨dst, .call { callee := .value x, args := xs.toArray, argTypes := tys }, ty, pos, af, none⟩ :: rest) tm σ := ao_step (Y_callw hx hf ha hc hle hk hn) hcont
theorem D_callw {x : Operand} {xs : List Operand} {tys : Array TypeId} {y : OV} {f : FuncId} {fi ca ys : List OV} {r : OV} {l0 l1 : List (Nat × (Stamp × Row))} (hx : ev tm x = some y) (hf : IsFn y f fi ca) (ha : evs tm xs = some ys) (hc : FnW E.P f (fi ++ ys ++ ca) (stL l0) (IsW r (stL l1)))
    (hle : (stL l0).le σ) (hk : keysOf l0 = keysOf l1) (hn : (l1.map (·.1)).Nodup)
    (hcont : DO E.P v ops KD (j + 1) rest (tm.putO dst r) (σ.apply (outD l1)) (Foot.mk (l0.map (·.1)) (wkeys (outD l1)) :: acc)) : DO E.P v ops KD j (⟨dst, .call { callee := .value x, args := xs.toArray, argTypes := tys }, ty, pos, af, none⟩ :: rest) tm σ acc := do_step (Y_callw hx hf ha hc hle hk hn) hcont
end
/-! ### calls that hand over rows of their own, too -/
def BehindX (σ σ0 σ1 σ' : Store) : Prop := ∀ k τ r, σ' k = some (τ, r) → (σ0 k = none ∧ σ k = some (τ, r)) ∨ σ1 k = some (τ, r)
theorem WRel.backX {Γ : Ctx} {G G' : Gh} {σ σ0 σ1 σ' : Store} {w w' : World} {N : Nat} (h : WRel Γ G σ w) (hle : σ0.le σ) (h' : WRel ⟨w, Blks G σ0, G, N⟩ G' σ1 w') (hN : Γ.N ≤ N) (hb : BehindX σ σ0 σ1 σ') : WRel Γ G' σ' w' := by
  have own' : ∀ k τ r β, σ k = some (τ, r) → G'.μ k τ = some (some β) → G.μ k τ = some (some β) := fun k τ r β hk hμ => by
    rcases h.own k τ r hk with ⟨h1, h2⟩ | ⟨β0, h1, h2⟩
    · have := h'.g0.2 _ _ _ h1; rw [hμ] at this; cases this
    · have := h'.g0.2 _ _ _ h1; rw [hμ] at this; cases this; exact h1
  have blk : ∀ b, Blks G σ0 b → Γ.w0.heap.size ≤ b ∨ Γ.S b := fun b ⟨k, τ, r, β, h1, h2, h3⟩ => by
    rcases h.own k τ r (hle _ _ h1) with ⟨g1, _⟩ | ⟨β0, g1, _, _, g2⟩
    · rw [h2] at g1; cases g1
    · rw [h2] at g1; cases g1; rw [← h3]; exact g2
  have rest : ∀ k τ r β, σ0 k = none → σ k = some (τ, r) → G.μ k τ = some (some β) → ¬ Blks G σ0 β.b := fun k τ r β h0 h1 g1 ⟨k', τ', r', β', e1, e2, e3⟩ => by
    have := h.inj k' k τ' τ β' β r' r (hle _ _ e1) h1 e2 g1 e3
    subst this
    rw [h0] at e1; cases e1
  have lt : ∀ k τ r β, σ k = some (τ, r) → G.μ k τ = some (some β) → β.b < w.heap.size := fun k τ r β h1 g1 => (h.blk h1 g1).lt
  have hers : ∀ k τ r β, σ1 k = some (τ, r) → G'.μ k τ = some (some β) → w.heap.size ≤ β.b ∨ Blks G σ0 β.b := fun k τ r β h1 g1 => by
    rcases h'.own k τ r h1 with ⟨e1, _⟩ | ⟨β0, e1, _, _, e2⟩
    · rw [g1] at e1; cases e1
    · rw [g1] at e1; cases e1; exact e2
  refine ⟨h'.mem, ?_, ?_, ?_, Nat.le_trans h.size h'.size, h'.tape.trans h.tape, h'.os.trans h.os, h'.output.trans h.output, h.g0.trans h'.g0, ?_, h'.bound, fun k v i hv => (h'.low k v i (Nat.lt_of_lt_of_le hv hN)).trans (h.low k v i hv)⟩
  · intro k τ r hk
    rcases hb k τ r hk with ⟨h0, h1⟩ | h1
    · rcases h.own k τ r h1 with ⟨g1, g2⟩ | ⟨β, g1, g2, g3, g4⟩
      · exact Or.inl ⟨h'.g0.2 _ _ _ g1, g2⟩
      · have hn := rest k τ r β h0 h1 g1
        refine Or.inr ⟨β, h'.g0.2 _ _ _ g1, (g2.of_heap (h'.keep β.b g2.lt hn)).mono h'.g0, fun o => ?_, g4⟩
        cases hm : G'.M β.b o with
        | none => rfl
        | some x =>
          rcases h'.new _ _ _ hm with e | e | e
          · have := g3 o; rw [show G.M β.b o = some x from e] at this; cases this
          · have := g2.lt; exact (Nat.not_lt.2 e this).elim
          · exact (hn e).elim
    · rcases h'.own k τ r h1 with g | ⟨β, g1, g2, g3, g4⟩
      · exact Or.inl g
      · refine Or.inr ⟨β, g1, g2, g3, ?_⟩
        rcases g4 with g4 | g4
        · exact Or.inl (Nat.le_trans h.size g4)
        · exact blk _ g4
  · intro k k' τ τ' β β' r r' hk hk' hμ hμ' e
    rcases hb k τ r hk with ⟨h0, h1⟩ | h1 <;> rcases hb k' τ' r' hk' with ⟨h0', h1'⟩ | h1'
    · exact h.inj k k' τ τ' β β' r r' h1 h1' (own' _ _ _ _ h1 hμ) (own' _ _ _ _ h1' hμ') e
    · have g1 := own' _ _ _ _ h1 hμ
      rcases hers _ _ _ _ h1' hμ' with g | g
      · have := lt _ _ _ _ h1 g1; omega
      · exact (rest _ _ _ _ h0 h1 g1 (e ▸ g)).elim
    · have g1 := own' _ _ _ _ h1' hμ'
      rcases hers _ _ _ _ h1 hμ with g | g
      · have := lt _ _ _ _ h1' g1; omega
      · exact (rest _ _ _ _ h0' h1' g1 (e ▸ g)).elim
    · exact h'.inj k k' τ τ' β β' r r' h1 h1' hμ hμ' e
  · intro b hb' hS
    refine (h'.keep b (Nat.lt_of_lt_of_le hb' h.size) fun hB => ?_).trans (h.keep b hb' hS)
    rcases blk b hB with e | e
    · exact Nat.not_lt.2 e hb'
    · exact hS e
  · intro b o x hm
    rcases h'.new b o x hm with e | e | e
    · exact h.new b o x e
    · exact Or.inr (Or.inl (Nat.le_trans h.size e))
    · exact Or.inr (blk b e)
/-- what was handed over is gone, what is handed back is there -/
def dels (l0 : List (Nat × (Stamp × Row))) : Diff := l0.map fun e => (e.1, none)
theorem applyD_del : ∀ (l : List (Nat × (Stamp × Row))) (σ : Store) (k : Nat), (σ.apply (dels l)) k = match stL l k with | some _ => none | none => σ k
  | [], σ, k => rfl
  | (d, y) :: l, σ, k => by
    show (Store.apply (σ.del d) (dels l)) k = _
    rw [applyD_del l (σ.del d) k, stL_cons]
    cases hb : Nat.beq k d with
    | true =>
      have e := Nat.eq_of_beq_eq_true hb
      subst e
      rw [Store.del_self]
      cases stL l k <;> rfl
    | false =>
      have h1 : σ.del d k = σ k := by simp [Store.del, hb]
      rw [h1]; rfl
/-- a contract's answer: for some x, this value, these rows -/
def IsX {X : Type} (I : X → Prop) (r0 : X → OV) (l1 : X → List (Nat × (Stamp × Row))) : OV → Store → Prop := fun r σ' => ∃ x, I x ∧ r = r0 x ∧ (stL (l1 x)).le σ'
section
variable {P : Program} {v j : Nat} {tm : Tm} {σ : Store} {dst : Option Tmp} {ty : TypeId} {pos : String} {af : Array Edge} {gd : Option (Nat × Bool)} {K : OV → Store → Prop}
theorem C_callX {X : Type} {I : X → Prop} {r0 : X → OV} {l1 : X → List (Nat × (Stamp × Row))} {x : Operand} {xs : List Operand} {tys : Array TypeId} {y : OV} {f : FuncId} {fi ca ys : List OV} {l0 : List (Nat × (Stamp × Row))} (hx : ev tm x = some y) (hf : IsFn y f fi ca) (ha : evs tm xs = some ys)
    (hc : FnW P f (fi ++ ys ++ ca) (stL l0) (IsX I r0 l1)) (hle : (stL l0).le σ) (hn : ∀ x, ((l1 x).map (·.1)).Nodup)
    (hk : ∀ x, I x → K (r0 x) ((σ.apply (dels l0)).apply (outD (l1 x)))) : OpOk P v j ⟨dst, .call { callee := .value x, args := xs.toArray, argTypes := tys }, ty, pos, af, gd⟩ tm σ K := fun Γ G ρ w hv _ hρ hw => by
  obtain ⟨f', args, h1, h2⟩ := call_coreW (v := v) hx hf ha hc hρ hw hle
  rw [h1]
  refine h2.mono fun e w' ⟨x, G', r', σ2, h3, ⟨z, hI, h4, h4'⟩, h5, h6, h7⟩ => ⟨x, h3, G', r0 z, _, h5, fun k v' i hv' _ => h7.low k v' i (Nat.lt_succ_of_le hv'), by rw [← h4]; exact h6, hw.backX hle h7 (Nat.le_succ_of_le hv) fun k τ r hkr => ?_, hk z hI⟩
  rw [applyD_out (l1 z) _ k (hn z)] at hkr
  cases h8 : stL (l1 z) k with
  | some x =>
    rw [h8] at hkr
    cases hkr
    exact Or.inr (h4' _ _ h8)
  | none =>
    rw [h8, applyD_del] at hkr
    cases h9 : stL l0 k with
    | some x => rw [h9] at hkr; cases hkr
    | none => rw [h9] at hkr; exact Or.inl ⟨rfl, hkr⟩
end
section
variable {E : Env} {v j : Nat} {ops : Array Oper} {K : Tm → Store → Prop} {KD : List Foot → Tm → Store → Prop} {acc : List Foot} {rest : List Oper} {tm : Tm} {σ : Store} {ty : TypeId} {pos : String} {af : Array Edge} {gd : Option (Nat × Bool)} {dst : Option Tmp}
theorem S_callX {X : Type} {I : X → Prop} {r0 : X → OV} {l1 : X → List (Nat × (Stamp × Row))} {x : Operand} {xs : List Operand} {tys : Array TypeId} {y : OV} {f : FuncId} {fi ca ys : List OV} {l0 : List (Nat × (Stamp × Row))} (hx : ev tm x = some y) (hf : IsFn y f fi ca) (ha : evs tm xs = some ys)
    (hc : FnW E.P f (fi ++ ys ++ ca) (stL l0) (IsX I r0 l1)) (hle : (stL l0).le σ) (hn : ∀ x, ((l1 x).map (·.1)).Nodup)
    (hcont : ∀ x, I x → AO E.P v ops K (j + 1) rest (tm.putO dst (r0 x)) ((σ.apply (dels l0)).apply (outD (l1 x)))) : AO E.P v ops K j (⟨dst, .call { callee := .value x, args := xs.toArray, argTypes := tys }, ty, pos, af, none⟩ :: rest) tm σ :=
  ao_ok (C_callX hx hf ha hc hle hn hcont)
end
section
variable {E : Env} {v j : Nat} {ops : Array Oper} {K : Tm → Store → Prop} {KD : List Foot → Tm → Store → Prop} {acc : List Foot} {rest : List Oper} {tm : Tm} {σ : Store} {ty : TypeId} {pos : String} {af : Array Edge} {gd : Option (Nat × Bool)} {dst : Option Tmp}
/-- a variable that closures write: its row lies at a key of its own -/
def KeyOf (d k : Nat) : Prop := True
theorem Y_allocK {d k : Nat} {T : TypeId} {te : TE} (hm : KeyOf d k) (hT : E.tab T = some te) : YL E.P v j ⟨some d, .alloc T, ty, pos, af, gd⟩ tm σ [] (.lo k (v, j) te.size 0 0) [(k, some ((v, j), ⟨te.size, [consts te.zero]⟩))] :=
  fun σ _ Γ G ρ w hv hf _ hw => by
  obtain ⟨z, hz, hzc⟩ := run_zeroValue' (E.ok T te hT) w
  obtain ⟨_, i, z', _, _, _, _, _, hlen, hone⟩ := E.ok T te hT
  have hr : (execOp ρ ⟨some d, .alloc T, ty, pos, af, gd⟩).run E.P w = .ok (.value (.pointer (some ⟨w.heap.size, 0, none⟩))) (w.alloc (.cells z.cells T)) := by
    simp only [execOp, Instr.alloc, Sem.run_bind, hz, Result.andThen_ok, newVar, newRow, run_newObj, Sem.run_pure]; rfl
  rw [hr]
  have hsz : z.cells.size = te.size := by rw [← Array.length_toList, hzc, hlen]
  refine Leaves.alloc hw hv hf z.cells T (by simp [hsz]) (RowAt.one (by rw [hzc]; exact consts_rep hone) (by simp [consts, hlen])) ?_
  rw [RepO]
  exact ⟨_, Gh.name_self _ _ _ _, by simp⟩
theorem Y_boxK {d k : Nat} {T : TypeId} {x : Operand} {y : OV} {n : Nat} (hm : KeyOf d k) (hx : ev tm x = some y) (hw' : y.wide = true) (hn : y.cells.length = n) : YL E.P v j ⟨some d, .box T x, ty, pos, af, gd⟩ tm σ [] (.lo k (v, j) n 0 0) [(k, some ((v, j), ⟨n, [y.cells]⟩))] :=
  fun σ _ Γ G ρ w hv hf hρ hw => by
  obtain ⟨h1, h2⟩ := (hρ x (by simp [Op.operands]) _ hx).cells hw'
  have hr : (execOp ρ ⟨some d, .box T x, ty, pos, af, gd⟩).run E.P w = .ok (.value (.pointer (some ⟨w.heap.size, 0, none⟩))) (w.alloc (.cells (ρ x).cells T)) := by
    simp only [execOp, Instr.box, Sem.run_bind, Result.andThen_ok, newVar, newRow, run_newObj, Sem.run_pure]; rfl
  rw [hr]
  refine Leaves.alloc hw hv hf _ T (by have := h1.length; simp at this; simp; omega) (RowAt.one h1 hn) ?_
  rw [RepO]
  exact ⟨_, Gh.name_self _ _ _ _, by simp⟩
theorem S_allocK {d k : Nat} {T : TypeId} {te : TE} (hm : KeyOf d k) (hT : E.tab T = some te) (hcont : AO E.P v ops K (j + 1) rest (tm.putO (some d) (.lo k (v, j) te.size 0 0)) (σ.apply [(k, some ((v, j), ⟨te.size, [consts te.zero]⟩))])) : AO E.P v ops K j (⟨some d, .alloc T, ty, pos, af, none⟩ :: rest) tm σ := ao_step (Y_allocK hm hT) hcont
theorem D_allocK {d k : Nat} {T : TypeId} {te : TE} (hm : KeyOf d k) (hT : E.tab T = some te) (hcont : DO E.P v ops KD (j + 1) rest (tm.putO (some d) (.lo k (v, j) te.size 0 0)) (σ.apply [(k, some ((v, j), ⟨te.size, [consts te.zero]⟩))]) (Foot.mk [] (wkeys [(k, some ((v, j), ⟨te.size, [consts te.zero]⟩))]) :: acc)) : DO E.P v ops KD j (⟨some d, .alloc T, ty, pos, af, none⟩ :: rest) tm σ acc := do_step (Y_allocK hm hT) hcont
theorem S_boxK {d k : Nat} {T : TypeId} {x : Operand} {y : OV} {n : Nat} (hm : KeyOf d k) (hx : ev tm x = some y) (hw' : y.wide = true) (hn : y.cells.length = n) (hcont : AO E.P v ops K (j + 1) rest (tm.putO (some d) (.lo k (v, j) n 0 0)) (σ.apply [(k, some ((v, j), ⟨n, [y.cells]⟩))])) : AO E.P v ops K j (⟨some d, .box T x, ty, pos, af, none⟩ :: rest) tm σ := ao_step (Y_boxK hm hx hw' hn) hcont
theorem D_boxK {d k : Nat} {T : TypeId} {x : Operand} {y : OV} {n : Nat} (hm : KeyOf d k) (hx : ev tm x = some y) (hw' : y.wide = true) (hn : y.cells.length = n) (hcont : DO E.P v ops KD (j + 1) rest (tm.putO (some d) (.lo k (v, j) n 0 0)) (σ.apply [(k, some ((v, j), ⟨n, [y.cells]⟩))]) (Foot.mk [] (wkeys [(k, some ((v, j), ⟨n, [y.cells]⟩))]) :: acc)) : DO E.P v ops KD j (⟨some d, .box T x, ty, pos, af, none⟩ :: rest) tm σ acc := do_step (Y_boxK hm hx hw' hn) hcont
end
end Go.Proofs.Ytgeaaegkcbjhlaa
