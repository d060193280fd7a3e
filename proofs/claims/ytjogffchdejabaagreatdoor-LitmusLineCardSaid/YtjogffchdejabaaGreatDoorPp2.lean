/- Parts. -/
import Derived.OrdersIn
import Derived.RangeFuncLeaves
import Derived.RangeFuncRecord
import Derived.RangeFuncSeq
import Derived.RangeFuncOwn
import Derived.Test.YtjogffchdejabaaGreatDoorPp1
set_option linter.unusedVariables false
set_option linter.unusedSimpArgs false
set_option maxHeartbeats 4000000
namespace Go.Proofs.YtjogffchdejabaaGreatDoor
open Go.RowKit
section
attribute [local semireducible] NextOk
def Blks (G : Gh) (σ : Store) (b : Nat) : Prop := ∃ k τ r β, σ k = some (τ, r) ∧ G.μ k τ = some (some β) ∧ β.b = b
theorem blks_nil (G : Gh) : Blks G Store.nil = fun _ => False := by
 funext b
 refine propext ⟨?_, fun h => h.elim⟩
 rintro ⟨k, τ, r, β, h, _⟩
 cases h
theorem WRel.startW {Γ : Ctx} {G : Gh} {σ σ0 : Store} {w : World} (h : WRel Γ G σ w) (hle : σ0.le σ) (N : Nat) : WRel ⟨w, Blks G σ0, G, N⟩ G σ0 w where
 mem := h.mem
 own k τ r hk := by
  rcases h.own k τ r (hle _ _ hk) with h1 | ⟨β, h1, h2, h3, _⟩
  ·exact Or.inl h1
  ·exact Or.inr ⟨β, h1, h2, h3, Or.inr ⟨k, τ, r, β, hk, h1, rfl⟩⟩
 inj k k' τ τ' β β' r r' hk hk' := h.inj k k' τ τ' β β' r r' (hle _ _ hk) (hle _ _ hk')
 keep _ _ _ := rfl
 size := Nat.le_refl _
 tape := rfl
 os := rfl
 output := rfl
 g0 := .refl G
 new _ _ _ h := Or.inl h
 bound := h.bound
 low _ _ _ _ := rfl
def BehindX (σ σ0 σ1 σ' : Store) : Prop := ∀ k τ r, σ' k = some (τ, r) → (σ0 k = none ∧ σ k = some (τ, r)) ∨ σ1 k = some (τ, r)
theorem WRel.backX {Γ : Ctx} {G G' : Gh} {σ σ0 σ1 σ' : Store} {w w' : World} {N : Nat} (h : WRel Γ G σ w) (hle : σ0.le σ) (h' : WRel ⟨w, Blks G σ0, G, N⟩ G' σ1 w') (hN : Γ.N ≤ N) (hb : BehindX σ σ0 σ1 σ') : WRel Γ G' σ' w' := by
 have own' : ∀ k τ r β, σ k = some (τ, r) → G'.μ k τ = some (some β) → G.μ k τ = some (some β) := fun k τ r β hk hμ => by
  rcases h.own k τ r hk with ⟨h1, h2⟩ | ⟨β0, h1, h2⟩
  ·have := h'.g0.2 _ _ _ h1; rw [hμ] at this; cases this
  ·have := h'.g0.2 _ _ _ h1; rw [hμ] at this; cases this; exact h1
 have blk : ∀ b, Blks G σ0 b → Γ.w0.heap.size ≤ b ∨ Γ.S b := fun b ⟨k, τ, r, β, h1, h2, h3⟩ => by
  rcases h.own k τ r (hle _ _ h1) with ⟨g1, _⟩ | ⟨β0, g1, _, _, g2⟩
  ·rw [h2] at g1; cases g1
  ·rw [h2] at g1; cases g1; rw [← h3]; exact g2
 have rest : ∀ k τ r β, σ0 k = none → σ k = some (τ, r) → G.μ k τ = some (some β) → ¬ Blks G σ0 β.b := fun k τ r β h0 h1 g1 ⟨k', τ', r', β', e1, e2, e3⟩ => by
  have := h.inj k' k τ' τ β' β r' r (hle _ _ e1) h1 e2 g1 e3
  subst this
  rw [h0] at e1; cases e1
 have lt : ∀ k τ r β, σ k = some (τ, r) → G.μ k τ = some (some β) → β.b < w.heap.size := fun k τ r β h1 g1 => (h.blk h1 g1).lt
 have hers : ∀ k τ r β, σ1 k = some (τ, r) → G'.μ k τ = some (some β) → w.heap.size ≤ β.b ∨ Blks G σ0 β.b := fun k τ r β h1 g1 => by
  rcases h'.own k τ r h1 with ⟨e1, _⟩ | ⟨β0, e1, _, _, e2⟩
  ·rw [g1] at e1; cases e1
  ·rw [g1] at e1; cases e1; exact e2
 refine ⟨h'.mem, ?_, ?_, ?_, Nat.le_trans h.size h'.size, h'.tape.trans h.tape, h'.os.trans h.os, h'.output.trans h.output, h.g0.trans h'.g0, ?_, h'.bound, fun k v i hv => (h'.low k v i (Nat.lt_of_lt_of_le hv hN)).trans (h.low k v i hv)⟩
 ·intro k τ r hk
  rcases hb k τ r hk with ⟨h0, h1⟩ | h1
  ·rcases h.own k τ r h1 with ⟨g1, g2⟩ | ⟨β, g1, g2, g3, g4⟩
   ·exact Or.inl ⟨h'.g0.2 _ _ _ g1, g2⟩
   ·have hn := rest k τ r β h0 h1 g1
    refine Or.inr ⟨β, h'.g0.2 _ _ _ g1, (g2.of_heap (h'.keep β.b g2.lt hn)).mono h'.g0, fun o => ?_, g4⟩
    cases hm : G'.M β.b o with
    | none => rfl
    | some x =>
     rcases h'.new _ _ _ hm with e | e | e
     ·have := g3 o; rw [show G.M β.b o = some x from e] at this; cases this
     ·have := g2.lt; exact (Nat.not_lt.2 e this).elim
     ·exact (hn e).elim
  ·rcases h'.own k τ r h1 with g | ⟨β, g1, g2, g3, g4⟩
   ·exact Or.inl g
   ·refine Or.inr ⟨β, g1, g2, g3, ?_⟩
    rcases g4 with g4 | g4
    ·exact Or.inl (Nat.le_trans h.size g4)
    ·exact blk _ g4
 ·intro k k' τ τ' β β' r r' hk hk' hμ hμ' e
  rcases hb k τ r hk with ⟨h0, h1⟩ | h1 <;> rcases hb k' τ' r' hk' with ⟨h0', h1'⟩ | h1'
  ·exact h.inj k k' τ τ' β β' r r' h1 h1' (own' _ _ _ _ h1 hμ) (own' _ _ _ _ h1' hμ') e
  ·have g1 := own' _ _ _ _ h1 hμ
   rcases hers _ _ _ _ h1' hμ' with g | g
   ·have := lt _ _ _ _ h1 g1; omega
   ·exact (rest _ _ _ _ h0 h1 g1 (e ▸ g)).elim
  ·have g1 := own' _ _ _ _ h1' hμ'
   rcases hers _ _ _ _ h1 hμ with g | g
   ·have := lt _ _ _ _ h1' g1; omega
   ·exact (rest _ _ _ _ h0' h1' g1 (e ▸ g)).elim
  ·exact h'.inj k k' τ τ' β β' r r' h1 h1' hμ hμ' e
 ·intro b hb' hS
  refine (h'.keep b (Nat.lt_of_lt_of_le hb' h.size) fun hB => ?_).trans (h.keep b hb' hS)
  rcases blk b hB with e | e
  ·exact Nat.not_lt.2 e hb'
  ·exact hS e
 ·intro b o x hm
  rcases h'.new b o x hm with e | e | e
  ·exact h.new b o x e
  ·exact Or.inr (Or.inl (Nat.le_trans h.size e))
  ·exact Or.inr (blk b e)
def LeavesK (Γ : Ctx) (G : Gh) (v j : Nat) (K : OV → Store → Prop) (x : Value) (w : World) : Prop :=
 ∃ G' r σ', G.le G' ∧ (∀ k v' i, v' ≤ v → (v' = v → i ≠ j) → G'.μ k (v', i) = G.μ k (v', i)) ∧ RepO G' r x ∧ WRel Γ G' σ' w ∧ K r σ'
def NextK (P : Program) (Γ : Ctx) (G : Gh) (v j : Nat) (K : OV → Store → Prop) : Result Next → Prop
 | .ok (.value x) w => LeavesK Γ G v j K x w
 | .ok .skip w => LeavesK Γ G v j K undef w
 | .ok (.enter f args) w => Calls P f args w (fun e w' => ∃ x, e = .returned x ∧ LeavesK Γ G v j K x w')
 | _ => False
def OpK (P : Program) (v j : Nat) (o : Oper) (tm : Tm) (σ : Store) (K : OV → Store → Prop) : Prop :=
 ∀ (Γ : Ctx) (G : Gh) (ρ : Operand → Value) (w : World), Γ.N ≤ v → (∀ k, G.μ k (v, j) = none) → (∀ x ∈ o.op.operands, ∀ y, ev tm x = some y → RepO G y (ρ x)) → WRel Γ G σ w →
  NextK P Γ G v j K ((execOp ρ o).run P w)
theorem NextOk.toK {P : Program} {Γ : Ctx} {G : Gh} {v j : Nat} {r : OV} {σ' : Store} {K : OV → Store → Prop} (hk : K r σ') {x : Result Next} (h : NextOk P Γ G v j r σ' x) : NextK P Γ G v j K x := by
 have lv : ∀ x w, Leaves Γ G v j r σ' x w → LeavesK Γ G v j K x w := fun x w ⟨G', h1, h2, h3, h4⟩ => ⟨G', r, σ', h1, h2, h3, h4, hk⟩
 cases x with
 | ok n w =>
  cases n <;> simp only [NextOk] at h <;> simp only [NextK]
  case value x => exact lv _ _ h
  case skip => exact lv _ _ h
  case enter f args => exact h.mono fun e w' ⟨x, h1, h2⟩ => ⟨x, h1, lv _ _ h2⟩
 | halt x w => simp only [NextOk] at h
theorem YL.okK {P : Program} {v j : Nat} {o : Oper} {tm : Tm} {σ : Store} {ks : List Nat} {r : OV} {δ : Diff} {K : OV → Store → Prop} (h : YL P v j o tm σ ks r δ) (hk : K r (σ.apply δ)) : OpK P v j o tm σ K :=
 fun Γ G ρ w h1 h2 h3 h4 => (h σ (fun _ _ => rfl) Γ G ρ w h1 h2 h3 h4).toK hk
def awant (ops : Array Oper) (tm : Tm) (o : Oper) : Option Bool :=
 match o.guard with
 | none => some true
 | some (g, want) => match (ops[g]?).bind (·.dst) with
  | none => none
  | some d => match tm d with
   | some (.d (.c (.bool b))) => some (b == want)
   | some .un => some false
   | _ => none
theorem zZ {ops : Array Oper} {tm : Tm} {o : Oper} {b : Bool} {G : Gh} {a : Array Value} (h : awant ops tm o = some b) (ht : TRel G tm a) : Region.wanted o (yielded ops a) = b := by
 unfold awant at h
 unfold Region.wanted
 cases hg : o.guard with
 | none => rw [hg] at h; cases h; rfl
 | some gw =>
  obtain ⟨g, want⟩ := gw
  rw [hg] at h
  simp only at h ⊢
  cases hd : (ops[g]?).bind (·.dst) with
  | none => rw [hd] at h; cases h
  | some d =>
   rw [hd] at h
   simp only at h
   unfold yielded
   rw [hd]
   simp only [Option.bind_some]
   cases htm : tm d with
   | none => rw [htm] at h; cases h
   | some y =>
    rw [htm] at h
    rcases ht d y htm with ⟨i, Y, rfl⟩ | ⟨x, h1, h2⟩
    ·cases h
    rw [h1]
    cases y with
    | un =>
     simp only at h
     cases h
     rw [RepO] at h2
     subst h2
     rfl
    | d t =>
     cases t with
     | c c =>
      have := vA h2
      subst this
      cases x <;> simp only at h <;> first | (cases h; done) | skip
      cases h
      rename_i b'
      cases b' <;> cases want <;> rfl
     | _ => simp only at h; cases h
    | _ => simp only at h; cases h
def gval (ops : Array Oper) (tm : Tm) (o : Oper) : Option Bool :=
 match o.guard with
 | none => some true
 | some (g, want) => match (ops[g]?).bind (·.dst) with
  | none => none
  | some d => match tm d with
   | some (.d (.c (.bool b))) => some (b == want)
   | some (.mb c (.d (.c (.bool b)))) => some (c && (b == want))
   | _ => none
theorem kA {ops : Array Oper} {tm : Tm} {o : Oper} {b : Bool} {G : Gh} {a : Array Value} (h : gval ops tm o = some b) (ht : TRel G tm a) : Region.wanted o (yielded ops a) = b := by
 unfold gval at h
 unfold Region.wanted
 cases hg : o.guard with
 | none => rw [hg] at h; cases h; rfl
 | some gw =>
  obtain ⟨g, want⟩ := gw
  rw [hg] at h
  simp only at h ⊢
  cases hd : (ops[g]?).bind (·.dst) with
  | none => rw [hd] at h; cases h
  | some d =>
   rw [hd] at h
   simp only at h
   unfold yielded
   rw [hd]
   simp only [Option.bind_some]
   cases htm : tm d with
   | none => rw [htm] at h; cases h
   | some y =>
    rw [htm] at h
    rcases ht d y htm with ⟨i, Y, rfl⟩ | ⟨x, h1, h2⟩
    ·cases h
    rw [h1]
    cases y with
    | d t =>
     cases t with
     | c c =>
      have := vA h2
      subst this
      cases x <;> simp only at h <;> first | (cases h; done) | skip
      cases h
      rename_i b'
      cases b' <;> cases want <;> rfl
     | _ => simp only at h; cases h
    | mb c y =>
     rw [RepO] at h2
     cases y with
     | d t =>
      cases t with
      | c u =>
       cases u <;> simp only at h <;> first | (cases h; done) | skip
       cases h
       rename_i b'
       cases c with
       | true => rw [vA (h2.1 rfl)]; cases b' <;> cases want <;> rfl
       | false => rw [h2.2 rfl]; rfl
      | _ => simp only at h; cases h
     | _ => simp only at h; cases h
    | _ => simp only at h; cases h
structure Cx where
 Γ : Ctx
 fix : Nat → Option Obj
 defs : List Deferred
 ro : Option Nat
 base : Nat
 dD : Nat → Prop
 dok : ∀ b, dD b → Γ.w0.heap.size ≤ b ∨ Γ.S b
 bok : base ≤ Γ.w0.heap.size
 d0 : List Deferred
def MarksAt (base : Nat) (fix : Nat → Option Obj) (ds : List Deferred) (ro : Option Nat) : Prop := (ds.map (·.target)).Nodup ∧ (∀ d ∈ ds, ∃ r, d.target = .collected r ∧ base ≤ r ∧ fix r = some (.deferred (some []))) ∧ ∀ l, ro = some l → ∃ r, fix l = some (.loop r)
structure Cx.le (C C' : Cx) : Prop where
 Γ : C'.Γ = C.Γ
 ro : C'.ro = C.ro
 base : C'.base = C.base
 dD : ∀ b, C.dD b → C'.dD b
 fix : ∀ b o, C.fix b = some o → C'.fix b = some o
 d0 : C'.d0 = C.d0
theorem Cx.le.back {C C' : Cx} (h : C.le C') (G : Gh) (σ : Store) (w : World) (k : WRel C'.Γ G σ w) : WRel C.Γ G σ w := by rw [← h.Γ]; exact k
theorem Cx.le.N {C C' : Cx} (h : C.le C') : C'.Γ.N = C.Γ.N := by rw [h.Γ]
theorem Cx.le.refl (C : Cx) : C.le C := ⟨rfl, rfl, rfl, fun _ h => h, fun _ _ h => h, rfl⟩
theorem Cx.le.trans {C C' C'' : Cx} (h : C.le C') (h' : C'.le C'') : C.le C'' := ⟨h'.Γ.trans h.Γ, h'.ro.trans h.ro, h'.base.trans h.base, fun b k => h'.dD b (h.dD b k), fun b o k => h'.fix b o (h.fix b o k), h'.d0.trans h.d0⟩
def FixOk (C : Cx) (w : World) : Prop := ∀ b o, C.fix b = some o → w.heap[b]? = some o ∧ o.isCells = false
def wideR (ro : Option Nat) : Fence := { Fence.wide with round := ro }
def GS : Nat := 1000000
structure SRel (n : Nat) (C : Cx) (G : Gh) (tf : Tm) (σ : Store) (a : Act) (wd : World) : Prop where
 size : a.tmps.size = n
 defers : a.defers = C.defs ++ C.d0
 tm : TRel G tf a.tmps
 w : WRel C.Γ G σ wd
 fix : FixOk C wd
 marks : MarksAt C.base C.fix C.defs C.ro
 gh : ∀ (i : Nat) (Y : YJ), tf GS = some (OV.gh i Y) → Y.J i wd ∧ Y.g.le G ∧ (∀ b o, C.fix b = some o → ¬ Y.D b) ∧ ∀ b, Y.D b → C.dD b
theorem yD {n : Nat} {tm : Tm} {dst : Option Tmp} (h : ∀ d, dst = some d → d < n ∧ d ≠ GS) (y : OV) : tm.putO dst y GS = tm GS := by
 cases dst with
 | none => rfl
 | some d => exact Tm.put_ne tm y (Ne.symm (h d rfl).2)
def Lift (n : Nat) (C : Cx) (Q : Exit → Tm → Store → Prop) (e : Exit) (a : Act) (w : World) : Prop := ∃ C' G tm σ, C.le C' ∧ SRel n C' G tm σ a w ∧ Q e tm σ
theorem Lift.le {n : Nat} {C C' : Cx} {Q : Exit → Tm → Store → Prop} {e : Exit} {a : Act} {w : World} (h : C.le C') (hl : Lift n C' Q e a w) : Lift n C Q e a w :=
 let ⟨C2, G, tm, σ, h1, h2, h3⟩ := hl; ⟨C2, G, tm, σ, h.trans h1, h2, h3⟩
theorem Act.put_size (a : Act) (dst : Option Tmp) (v : Value) : (a.put dst v).tmps.size = a.tmps.size := by cases dst <;> simp [Act.put]
theorem Act.put_defers (a : Act) (dst : Option Tmp) (v : Value) : (a.put dst v).defers = a.defers := by cases dst <;> rfl
theorem mR (G : Gh) : RepO G .un undef := by rw [RepO]
theorem FixOk.not_own {C : Cx} {Γ : Ctx} {G : Gh} {σ : Store} {w : World} (hf : FixOk C w) (hw : WRel Γ G σ w) {b : Nat} {o : Obj} (h : C.fix b = some o) : ¬ Blks G σ b := fun ⟨k, τ, r, β, h1, h2, h3⟩ => by
 obtain ⟨cs, h4, _⟩ := hw.blk h1 h2
 obtain ⟨h5, h6⟩ := hf b o h
 rw [← h3, h4] at h5
 cases h5; cases h6
def OpT (P : Program) (v j : Nat) (o : Oper) (tm : Tm) (σ : Store) (K : Tm → Store → Prop) : Prop :=
 ∀ (n : Nat) (C : Cx) (G : Gh) (a : Act) (w : World) (ro : Option Nat) (next : Act → World → Prop) (Q : Exit → Act → World → Prop), (∀ d, o.dst = some d → d < n ∧ d ≠ GS) → C.ro = ro → C.Γ.N ≤ v → (∀ k, G.μ k (v, j) = none) → SRel n C G tm σ a w →
  (∀ C' G' tm' σ' a' w', C.le C' → G.le G' → (∀ k v' i, v' ≤ v → (v' = v → i ≠ j) → G'.μ k (v', i) = G.μ k (v', i)) → SRel n C' G' tm' σ' a' w' → K tm' σ' → next a' w') →
  o.wpIn (wideR ro) 0 P a w next Q
def OpOk (P : Program) (v j : Nat) (o : Oper) (tm : Tm) (σ : Store) (K : OV → Store → Prop) : Prop := OpT P v j o tm σ fun tm' σ' => ∃ r, tm' = tm.putO o.dst r ∧ K r σ'
theorem OpT.mono {P : Program} {v j : Nat} {o : Oper} {tm : Tm} {σ : Store} {K K' : Tm → Store → Prop} (h : OpT P v j o tm σ K) (hk : ∀ tm σ, K tm σ → K' tm σ) : OpT P v j o tm σ K' := fun n C G a w ro next Q hd hro hN hfr hs hn =>
 h n C G a w ro next Q hd hro hN hfr hs fun C' G' tm' σ' a' w' h0 h1 h2 h3 h4 => hn C' G' tm' σ' a' w' h0 h1 h2 h3 (hk _ _ h4)
theorem OpK.ok {P : Program} {v j : Nat} {o : Oper} {tm : Tm} {σ : Store} {K : OV → Store → Prop} (h : OpK P v j o tm σ K) : OpOk P v j o tm σ K := fun n C G a w ro next Q hd hro hN hfr hs hk => by
 have hst := hs.w.startW (σ0 := σ) (fun _ _ e => e) C.Γ.N
 have h1 := h ⟨w, Blks G σ, G, C.Γ.N⟩ G a.eval w hN hfr (fun x _ y hy => yG hs.tm hy) hst
 have lv : ∀ x w', LeavesK ⟨w, Blks G σ, G, C.Γ.N⟩ G v j K x w' → next (a.put o.dst x) w' := fun x w' ⟨G', r, σ', g1, g2, g3, g4, g5⟩ => by
  refine hk C G' (tm.putO o.dst r) σ' _ w' (.refl C) g1 g2 ⟨by rw [Act.put_size, hs.size], by rw [Act.put_defers, hs.defers], (hs.tm.mono g1).put g3 o.dst (by rw [hs.size]; exact fun d e => (hd d e).1), hs.w.backX (fun _ _ e => e) g4 (Nat.le_refl _) (fun k τ r hr => Or.inr hr), fun b ob hb => ?_, hs.marks, fun i Y hi => ?_⟩ ⟨r, rfl, g5⟩
  ·obtain ⟨e1, e2⟩ := hs.fix b ob hb
   exact ⟨(g4.keep b (Array.getElem?_eq_some_iff.1 e1).1 (hs.fix.not_own hs.w hb)).trans e1, e2⟩
  ·obtain ⟨hJ, hJg, hJf⟩ := hs.gh i Y ((yD hd r).symm.trans hi)
   refine ⟨Y.st i w w' hJ fun b hb => ?_, hJg.trans g1, hJf⟩
   obtain ⟨ob, e1, e2⟩ := Y.nc i w b hJ hb
   refine g4.keep b (Array.getElem?_eq_some_iff.1 e1).1 fun ⟨k, τ, r', β, f1, f2, f3⟩ => ?_
   obtain ⟨cs, f4, _⟩ := hs.w.blk f1 f2
   rw [f3, e1] at f4
   cases f4; cases e2
 have hsem : o.semAt ro a.eval = execOp a.eval o := by
  refine Oper.semAt_eq ro a.eval o fun c hc => ?_
  have e : execOp a.eval o = (do pure (.defer (← resolve a.eval c o.type)) : Sem Next) := by
   simp only [execOp, hc]
  rw [e] at h1
  simp only [Sem.run_bind] at h1
  cases hr : (resolve a.eval c o.type).run P w with
  | ok d w' => rw [hr] at h1; simp [NextK] at h1
  | halt x w' => rw [hr] at h1; simp [NextK] at h1
 unfold Oper.wpIn
 refine ⟨fun _ _ => trivial, ?_⟩
 rw [show (wideR ro).round = ro from rfl, hsem]
 generalize (execOp a.eval o).run P w = r at *
 cases r with
 | ok nx w' =>
  cases nx <;> simp only [NextK] at h1 <;> simp only [Oper.uponIn]
  case value x => exact lv _ _ h1
  case skip => exact lv _ _ h1
  case enter f args =>
   refine ⟨fun e => (by cases e), ?_⟩
   exact (show CallsIn (wideR ro) (0 - 1) P f args w' _ from callsIn_wide.2 (h1.mono fun e w'' ⟨x, h2, h3⟩ => by subst h2; exact lv _ _ h3))
 | halt x w' => simp only [NextK] at h1
theorem YL.ok {P : Program} {v j : Nat} {o : Oper} {tm : Tm} {σ : Store} {ks : List Nat} {r : OV} {δ : Diff} {K : OV → Store → Prop} (h : YL P v j o tm σ ks r δ) (hk : K r (σ.apply δ)) : OpOk P v j o tm σ K := (h.okK hk).ok
def aops (P : Program) (v : Nat) (ops : Array Oper) (K : Tm → Store → Prop) : Nat → List Oper → Tm → Store → Prop
 | _, [], tm, σ => K tm σ
 | j, o :: rest, tm, σ => (match awant ops tm o with
  | some true => OpT P v j o tm σ (fun tm' σ' => aops P v ops K (j + 1) rest tm' σ')
  | some false => aops P v ops K (j + 1) rest (tm.putO o.dst .un) σ
  | none => False) ∨
  ∃ c r ks, gval ops tm o = some c ∧ (c = true → YL P v j o tm σ ks r []) ∧ aops P v ops K (j + 1) rest (tm.putO o.dst (.mb c r)) σ
def dstsLt (n : Nat) (l : List Oper) : Bool := Nat.ble n GS && l.all fun o => match o.dst with | some d => Nat.blt d n | none => true
theorem wV {n : Nat} {l : List Oper} (h : dstsLt n l = true) {o : Oper} (ho : o ∈ l) : ∀ d, o.dst = some d → d < n ∧ d ≠ GS := fun d hd => by
 simp only [dstsLt, Bool.and_eq_true] at h
 have := List.all_eq_true.1 h.2 o ho
 rw [hd] at this
 have h1 : d < n := by simpa using this
 have h2 : n ≤ GS := Nat.le_of_ble_eq_true h.1
 exact ⟨h1, Nat.ne_of_lt (Nat.lt_of_lt_of_le h1 h2)⟩
theorem zE {P : Program} {v n : Nat} {ops : Array Oper} {K : Tm → Store → Prop} {C0 : Cx} {ro : Option Nat} {Q : Exit → Act → World → Prop} (hK : ∀ C G tm σ a w, C0.le C → SRel n C G tm σ a w → K tm σ → Q .normal a w) :
  ∀ (l : List Oper) (j : Nat) (C : Cx) (G : Gh) (tm : Tm) (σ : Store) (a : Act) (w : World), C0.le C → C.ro = ro → C.Γ.N ≤ v → dstsLt n l = true → (∀ k i, j ≤ i → G.μ k (v, i) = none) → SRel n C G tm σ a w → aops P v ops K j l tm σ → wpListIn (wideR ro) 0 P ops Q l a w
 | [], _, C, G, tm, σ, a, w, hC, _, _, _, _, hs, h => hK C G tm σ a w hC hs h
 | o :: rest, j, C, G, tm, σ, a, w, hC, hro, hN, hn, hf, hs, h => by
  have hn' : dstsLt n rest = true := by
   simp only [dstsLt, List.all_cons, Bool.and_eq_true] at hn ⊢; exact ⟨hn.1, hn.2.2⟩
  unfold aops at h
  unfold wpListIn
  rcases h with h | ⟨c, r, ks, hc, hy, h⟩
  case inr =>
   rw [kA hc hs.tm]
   have next : ∀ C' G' a' w', C.le C' → G.le G' → (∀ k v' i, v' ≤ v → (v' = v → i ≠ j) → G'.μ k (v', i) = G.μ k (v', i)) → SRel n C' G' (tm.putO o.dst (.mb c r)) σ a' w' → wpListIn (wideR ro) 0 P ops Q rest a' w' := fun C' G' a' w' h0 h1 h2 h3 =>
    zE hK rest (j + 1) C' G' _ σ a' w' (hC.trans h0) (h0.ro.trans hro) (by rw [h0.N]; exact hN) hn' (fun k i hi => by rw [h2 k v i (Nat.le_refl _) (fun _ => by omega)]; exact hf k i (by omega)) h3 h
   cases c with
   | true =>
    simp only [if_true]
    refine (hy rfl).ok (K := fun r' σ' => r' = r ∧ σ' = σ) ⟨rfl, rfl⟩ n C G a w ro _ Q (wV hn (by simp)) hro hN (fun k => hf k j (Nat.le_refl _)) hs fun C' G' tm1 σ' a' w' h0 h1 h2 h3 h4 => ?_
    obtain ⟨r', rfl, rfl, rfl⟩ := h4
    have hdl := wV hn (o := o) (by simp)
    refine next C' G' a' w' h0 h1 h2 ⟨h3.size, h3.defers, ?_, h3.w, h3.fix, h3.marks, fun i Y hi => h3.gh i Y ((yD hdl _).trans ((yD hdl _).symm.trans hi))⟩
    intro t y hy
    cases hdst : o.dst with
    | none =>
     rw [hdst] at hy
     have h5 := h3.tm t y
     rw [hdst] at h5
     exact h5 hy
    | some d =>
     rw [hdst] at hy
     simp only [Tm.putO] at hy
     by_cases e : t = d
     ·subst e
      rw [Tm.put_self] at hy
      cases hy
      have hlt : t < a'.tmps.size := by rw [h3.size]; exact (hdl t hdst).1
      refine Or.inr ⟨a'.tmps[t], Array.getElem?_eq_getElem hlt, ?_⟩
      have h6 := h3.tm.val (t := t) (y := r') (by rw [hdst]; exact Tm.put_self _ _ _)
      rw [Array.getD_eq_getD_getElem?, Array.getElem?_eq_getElem hlt] at h6
      rw [RepO]; exact ⟨fun _ => h6, (fun e => by cases e)⟩
     ·rw [Tm.put_ne _ _ e] at hy
      exact h3.tm t y (by rw [hdst]; exact (Tm.put_ne _ _ e).trans hy)
   | false =>
    simp only [Bool.false_eq_true, if_false]
    exact ⟨fun _ _ => trivial, next C G _ w (.refl C) (.refl G) (fun _ _ _ _ _ => rfl) ⟨by rw [Act.put_size, hs.size], by rw [Act.put_defers, hs.defers], hs.tm.put (by rw [RepO]; exact ⟨(fun e => by cases e), fun _ => rfl⟩) o.dst (by rw [hs.size]; exact fun d e => (wV hn (by simp) d e).1), hs.w, hs.fix, hs.marks, fun i Y hi => hs.gh i Y ((yD (wV hn (by simp)) _).symm.trans hi)⟩⟩
  cases hw : awant ops tm o with
  | none => rw [hw] at h; exact h.elim
  | some b =>
   rw [hw] at h
   rw [zZ hw hs.tm]
   cases b with
   | true =>
    simp only [if_true]
    simp only at h
    refine h n C G a w ro _ Q (wV hn (by simp)) hro hN (fun k => hf k j (Nat.le_refl _)) hs fun C' G' tm1 σ' a' w' h0 h1 h2 h3 h4 => ?_
    exact zE hK rest (j + 1) C' G' _ σ' a' w' (hC.trans h0) (h0.ro.trans hro) (by rw [h0.N]; exact hN) hn' (fun k i hi => by rw [h2 k v i (Nat.le_refl _) (fun _ => by omega)]; exact hf k i (by omega)) h3 h4
   | false =>
    simp only [Bool.false_eq_true, if_false]
    simp only at h
    exact ⟨fun _ _ => trivial, zE hK rest (j + 1) C G _ σ _ w hC hro hN hn' (fun k i hi => hf k i (by omega)) ⟨by rw [Act.put_size, hs.size], by rw [Act.put_defers, hs.defers], hs.tm.put (mR G) o.dst (by rw [hs.size]; exact fun d e => (wV hn (by simp) d e).1), hs.w, hs.fix, hs.marks, fun i Y hi => hs.gh i Y ((yD (wV hn (by simp)) _).symm.trans hi)⟩ h⟩
theorem WRel.free {Γ : Ctx} {G : Gh} {σ : Store} {w : World} (h : WRel Γ G σ w) : ∃ v, Γ.N ≤ v ∧ ∀ k i, G.μ k (v, i) = none := by
 obtain ⟨n, hn⟩ := h.bound
 exact ⟨max n Γ.N, by omega, fun k i => hn k _ i (by omega)⟩
def awp (P : Program) (n : Nat) (c : Code) (Q : Exit → Tm → Store → Prop) (tm : Tm) (σ : Store) : Prop :=
 ∀ (C : Cx) (ro : Option Nat) (G : Gh) (a : Act) (w : World), C.ro = ro → SRel n C G tm σ a w → c.wpIn (wideR ro) 0 P (Lift n C Q) a w
theorem awp_region {P : Program} {n id : Nat} {l : List Oper} {Q : Exit → Tm → Store → Prop} {tm : Tm} {σ : Store} (hn : dstsLt n l = true)
  (h : ∀ v, aops P v l.toArray (Q .normal) 0 l tm σ) : awp P n (.region id l.toArray false) Q tm σ := fun C ro G a w hro hs => by
 obtain ⟨v, hv, hf⟩ := hs.w.free
 exact wpIn_region_lit (zE (fun C' G tm σ a w h0 h1 h2 => ⟨C', G, tm, σ, h0, h1, h2⟩) l 0 C G tm σ a w (.refl C) hro hv hn (fun k i _ => hf k i) hs (h v))
section
variable {P : Program} {v j : Nat} {ops : Array Oper} {K : Tm → Store → Prop} {rest : List Oper} {tm : Tm} {σ : Store} {dst : Option Tmp} {op : Op} {ty : TypeId} {pos : String} {af : Array Edge}
theorem aops_nil (h : K tm σ) : aops P v ops K j [] tm σ := h
theorem aops_step {ks : List Nat} {r : OV} {δ : Diff} (h : YL P v j ⟨dst, op, ty, pos, af, none⟩ tm σ ks r δ) (k : aops P v ops K (j + 1) rest (tm.putO dst r) (σ.apply δ)) : aops P v ops K j (⟨dst, op, ty, pos, af, none⟩ :: rest) tm σ := by
 unfold aops awant
 exact Or.inl ((h.ok (K := fun r σ' => aops P v ops K (j + 1) rest (tm.putO dst r) σ') k).mono fun tm' σ' ⟨r, h1, h2⟩ => by rw [h1]; exact h2)
theorem aops_ok (h : OpOk P v j ⟨dst, op, ty, pos, af, none⟩ tm σ (fun r σ' => aops P v ops K (j + 1) rest (tm.putO dst r) σ')) : aops P v ops K j (⟨dst, op, ty, pos, af, none⟩ :: rest) tm σ := by
 unfold aops awant
 exact Or.inl (OpT.mono h fun tm' σ' ⟨r, h1, h2⟩ => by rw [h1]; exact h2)
theorem aops_t (h : OpT P v j ⟨dst, op, ty, pos, af, none⟩ tm σ (fun tm' σ' => aops P v ops K (j + 1) rest tm' σ')) : aops P v ops K j (⟨dst, op, ty, pos, af, none⟩ :: rest) tm σ := by
 unfold aops awant
 exact Or.inl h
theorem OpOk.guard {gd : Option (Nat × Bool)} {K : OV → Store → Prop} (h : OpOk P v j ⟨dst, op, ty, pos, af, none⟩ tm σ K) : OpOk P v j ⟨dst, op, ty, pos, af, gd⟩ tm σ K := h
theorem aops_guard_yes {g d : Nat} {want : Bool} (hd : (ops[g]?).bind (·.dst) = some d) (ht : tm d = some (.bool want)) (h : aops P v ops K j (⟨dst, op, ty, pos, af, none⟩ :: rest) tm σ) :
  aops P v ops K j (⟨dst, op, ty, pos, af, some (g, want)⟩ :: rest) tm σ := by
 have hw : awant ops tm ⟨dst, op, ty, pos, af, some (g, want)⟩ = some true := by simp [awant, hd, ht]
 have hg : gval ops tm ⟨dst, op, ty, pos, af, some (g, want)⟩ = some true := by simp [gval, hd, ht]
 unfold aops at h ⊢
 rcases h with h | ⟨c, r, ks, hc, hy, h⟩
 ·left; rw [hw]; exact h
 ·refine Or.inr ⟨true, r, ks, hg, fun _ => ?_, ?_⟩
  ·cases hc; exact hy rfl
  ·cases hc; exact h
theorem aops_guard_no {g d : Nat} {want : Bool} (hd : (ops[g]?).bind (·.dst) = some d) (ht : tm d = some (.bool (!want))) (h : aops P v ops K (j + 1) rest (tm.putO dst .un) σ) :
  aops P v ops K j (⟨dst, op, ty, pos, af, some (g, want)⟩ :: rest) tm σ := by
 have hw : awant ops tm ⟨dst, op, ty, pos, af, some (g, want)⟩ = some false := by cases want <;> simp [awant, hd, ht]
 unfold aops
 left
 rw [hw]
 exact h
theorem gO {o : Oper} {c : Bool} {r : OV} {ks : List Nat} (hg : gval ops tm o = some c) (hy : c = true → YL P v j o tm σ ks r []) (h : aops P v ops K (j + 1) rest (tm.putO o.dst (.mb c r)) σ) : aops P v ops K j (o :: rest) tm σ := by
 unfold aops
 exact Or.inr ⟨c, r, ks, hg, hy, h⟩
theorem Tm.put_same {d : Nat} {y : OV} (h : tm d = some y) : tm.put d y = tm := by
 funext t
 by_cases e : t = d
 ·subst e; rw [Tm.put_self, h]
 ·rw [Tm.put_ne _ _ e]
theorem kR {g d : Nat} {want b : Bool} (hd : (ops[g]?).bind (·.dst) = some d) (ht : tm d = some (.bool b)) (h1 : b = want → aops P v ops K j (⟨dst, op, ty, pos, af, none⟩ :: rest) (tm.put d (.bool want)) σ)
  (h2 : b = !want → aops P v ops K (j + 1) rest ((tm.put d (.bool (!want))).putO dst .un) σ) : aops P v ops K j (⟨dst, op, ty, pos, af, some (g, want)⟩ :: rest) tm σ := by
 by_cases hb : b = want
 ·have := h1 hb
  subst hb
  rw [Tm.put_same ht] at this
  exact aops_guard_yes hd ht this
 ·have hb : b = !want := by cases b <;> cases want <;> simp_all
  have := h2 hb
  subst hb
  rw [Tm.put_same ht] at this
  exact aops_guard_no hd ht this
end
end
section
attribute [local semireducible] NextOk
theorem wpIn_loop_ix {F : Fence} {n : Nat} {P : Program} {Q : Exit → Act → World → Prop} {a : Act} {w : World} {c : Code} (J : Nat → Act → World → Prop) (m0 : Nat) (h0 : J m0 a w)
  (round : ∀ m a w, J m a w → c.wpIn F n P (Exit.then (fun a' w' => ∃ m', m' < m ∧ J m' a' w') Q) a w) : (Code.loop c).wpIn F n P Q a w := by
 intro b k cs hro hb hr
 have key : ∀ m a w, J m a w → ∃ e a' w', Q e a' w' ∧ ArrivesIn (Machine.fenced P F) P (lone (b.atR a (.code c :: .inLoop c :: k)) cs w) b k cs e a' w' := by
  intro m
  induction m using Nat.strongRecOn with
  | _ m ih =>
   intro a w hI
   obtain ⟨e, a1, w1, hq, harr⟩ := round m a w hI b (.inLoop c :: k) cs hro hb hr
   cases e with
   | normal =>
    obtain ⟨m', hlt, hI1⟩ := hq
    obtain ⟨e2, a2, w2, hq2, harr2⟩ := ih m' hlt a1 w1 hI1
    exact ⟨e2, a2, w2, hq2, .of_steps (StepsIn.trans harr (.one (fenced_calm hb hr rfl) stepR_inLoop)) harr2⟩
   | exit id => exact ⟨_, a1, w1, hq, .pass (x := .inLoop c) rfl (fun _ _ => .inl (by simp)) harr⟩
   | goto l => exact ⟨_, a1, w1, hq, .pass (x := .inLoop c) rfl (fun _ _ => .inl (by simp)) harr⟩
   | ret => exact ⟨_, a1, w1, hq, .pass (x := .inLoop c) rfl (fun _ _ => .inl (by simp)) harr⟩
   | panic ch => exact ⟨_, a1, w1, hq, .pass (x := .inLoop c) rfl (fun _ _ => .inl (by simp)) harr⟩
   | outgrown => exact ⟨_, a1, w1, hq, .pass (x := .inLoop c) rfl (fun _ _ => .inl (by simp)) harr⟩
 obtain ⟨e, a', w', hq, harr⟩ := key _ a w h0
 exact ⟨e, a', w', hq, .of_steps (.one (fenced_calm hb hr rfl) stepR_loop) harr⟩
section
variable {P : Program} {n : Nat} {Q : Exit → Tm → Store → Prop} {tm : Tm} {σ : Store}
theorem Lift.mono {C : Cx} {Q Q' : Exit → Tm → Store → Prop} (h : ∀ e tm σ, Q e tm σ → Q' e tm σ) {e : Exit} {a : Act} {w : World} (hl : Lift n C Q e a w) : Lift n C Q' e a w :=
 let ⟨C', G, tm, σ, h0, h1, h2⟩ := hl; ⟨C', G, tm, σ, h0, h1, h _ _ _ h2⟩
theorem awp_mono {c : Code} {Q' : Exit → Tm → Store → Prop} (h : awp P n c Q tm σ) (hq : ∀ e tm σ, Q e tm σ → Q' e tm σ) : awp P n c Q' tm σ := fun C ro G a w hro hs =>
 wpIn_mono (h C ro G a w hro hs) fun _ _ _ => Lift.mono hq
theorem vM (h : Q .normal tm σ) : awp P n .skip Q tm σ := fun C ro G a w hro hs => wpIn_skip ⟨C, G, tm, σ, .refl C, hs, h⟩
theorem zW (h : Q .ret tm σ) : awp P n .ret Q tm σ := fun C ro G a w hro hs => wpIn_ret ⟨C, G, tm, σ, .refl C, hs, h⟩
theorem cJ {id : Nat} (h : Q (.exit id) tm σ) : awp P n (.exit id) Q tm σ := fun C ro G a w hro hs => wpIn_exit ⟨C, G, tm, σ, .refl C, hs, h⟩
theorem awp_label {l : Nat} (h : Q .normal tm σ) : awp P n (.label l) Q tm σ := fun C ro G a w hro hs => wpIn_label ⟨C, G, tm, σ, .refl C, hs, h⟩
def Then (next : Tm → Store → Prop) (Q : Exit → Tm → Store → Prop) : Exit → Tm → Store → Prop
 | .normal, tm, σ => next tm σ
 | e, tm, σ => Q e tm σ
theorem uD {x y : Code} (h : awp P n x (Then (awp P n y Q) Q) tm σ) : awp P n (.seq x y) Q tm σ := fun C ro G a w hro hs =>
 wpIn_seq (wpIn_mono (h C ro G a w hro hs) fun e a w ⟨C', G, tm, σ, h0, h1, h2⟩ => by
  cases e
  case normal => exact wpIn_mono (h2 C' ro G a w (h0.ro.trans hro) h1) fun _ _ _ => Lift.le h0
  all_goals exact ⟨C', G, tm, σ, h0, h1, h2⟩)
theorem uK {c : Operand} {x y : Code} {b : Bool} (hc : ev tm c = some (.bool b)) (h1 : b = true → awp P n x Q tm σ) (h2 : b = false → awp P n y Q tm σ) : awp P n (.cond c x y) Q tm σ := fun C ro G a w hro hs => by
 have := vA (yG hs.tm hc)
 refine wpIn_cond this ?_
 cases b
 ·exact h2 rfl C ro G a w hro hs
 ·exact h1 rfl C ro G a w hro hs
theorem eL {c : Operand} {x y : Code} (hc : ev tm c = some (.bool true)) (h : awp P n x Q tm σ) : awp P n (.cond c x y) Q tm σ := uK hc (fun _ => h) (fun e => by cases e)
theorem kQ {c : Operand} {x y : Code} (hc : ev tm c = some (.bool false)) (h : awp P n y Q tm σ) : awp P n (.cond c x y) Q tm σ := uK hc (fun e => by cases e) (fun _ => h)
def InBlock (id : Nat) (Q : Exit → Tm → Store → Prop) : Exit → Tm → Store → Prop
 | .exit i, tm, σ => bif Nat.beq i id then Q .normal tm σ else Q (.exit i) tm σ
 | e, tm, σ => Q e tm σ
theorem wH {id : Nat} {c : Code} (h : awp P n c (InBlock id Q) tm σ) : awp P n (.block id c) Q tm σ := fun C ro G a w hro hs =>
 wpIn_block (wpIn_mono (h C ro G a w hro hs) fun e a w ⟨C', G, tm, σ, h0, h1, h2⟩ => by
  cases e with
  | exit i =>
   show if i = id then Lift n C Q .normal a w else Lift n C Q (.exit i) a w
   simp only [InBlock] at h2
   by_cases e : i = id
   ·rw [if_pos e]
    rw [e, Nat.beq_refl] at h2
    exact ⟨C', G, tm, σ, h0, h1, h2⟩
   ·rw [if_neg e]
    rw [cH e] at h2
    exact ⟨C', G, tm, σ, h0, h1, h2⟩
  | normal => exact ⟨C', G, tm, σ, h0, h1, h2⟩
  | ret => exact ⟨C', G, tm, σ, h0, h1, h2⟩
  | goto l => exact ⟨C', G, tm, σ, h0, h1, h2⟩
  | panic c => exact ⟨C', G, tm, σ, h0, h1, h2⟩
  | outgrown => exact ⟨C', G, tm, σ, h0, h1, h2⟩)
theorem SRel.le {C : Cx} {G : Gh} {tm' : Tm} {σ' : Store} {a : Act} {w : World} (hs : SRel n C G tm σ a w) (ht : tm'.le tm) (hσ : σ'.le σ) : SRel n C G tm' σ' a w :=
 ⟨hs.size, hs.defers, hs.tm.le ht, hs.w.forget hσ, hs.fix, hs.marks, fun i Y hi => hs.gh i Y (ht _ _ hi)⟩
theorem cI {c : Code} (tm' : Tm) (σ' : Store) (ht : tm'.le tm) (hσ : σ'.le σ) (h : awp P n c Q tm' σ') : awp P n c Q tm σ := fun C ro G a w hro hs => h C ro G a w hro (hs.le ht hσ)
theorem vB {X : Type} {c : Code} (T : X → Tm) (S : X → Store) (I : X → Prop) (μ : X → Nat) (x0 : X) (h0 : I x0) (ht : (T x0).le tm) (hσ : (S x0).le σ)
  (round : ∀ x, I x → awp P n c (Then (fun tm' σ' => ∃ y, I y ∧ μ y < μ x ∧ (T y).le tm' ∧ (S y).le σ') Q) (T x) (S x)) : awp P n (.loop c) Q tm σ := fun C ro G a w hro hs => by
 refine wpIn_loop_ix (fun m a w => ∃ C' G x, C.le C' ∧ I x ∧ μ x = m ∧ SRel n C' G (T x) (S x) a w) (μ x0) ⟨C, G, x0, .refl C, h0, rfl, hs.le ht hσ⟩ fun m a w ⟨C', G, x, hC, h1, h2, h3⟩ => ?_
 refine wpIn_mono (round x h1 C' ro G a w (hC.ro.trans hro) h3) fun e a w ⟨C2, G, tm, σ, h4', h4, h5⟩ => ?_
 cases e
 case normal =>
  obtain ⟨y, h6, h7, h8, h9⟩ := h5
  exact ⟨μ y, by omega, C2, G, y, hC.trans h4', h6, rfl, h4.le h8 h9⟩
 all_goals exact ⟨C2, G, tm, σ, hC.trans h4', h4, h5⟩
end
def Enters (P : Program) (f : FuncId) : Prop := ∃ fn, P.funcs[f]? = some fn ∧ (fn.name == "runtime.NumGoroutine") = false ∧ fn.body.isNone = false
def FnR (P : Program) (f : FuncId) (args : List OV) (R : OV → Store → Prop) : Prop :=
 Enters P f ∧ ∀ (G : Gh) (w : World) (vs : List Value) (N : Nat), RepOL G args vs → WRel ⟨w, fun _ => False, G, N⟩ G Store.nil w →
  Calls P f vs.toArray w (fun e w' => ∃ x G' r σ', e = .returned x ∧ R r σ' ∧ G.le G' ∧ RepO G' r x ∧ WRel ⟨w, fun _ => False, G, N⟩ G' σ' w')
def Pure (P : Program) (f : FuncId) (args : List OV) (r : OV) : Prop := FnR P f args (fun r' _ => r' = r)
def IsOwn (s : Nat) (rows : List (List OV)) (r : OV) (σ : Store) : Prop := ∃ k τ, r = .os k τ s rows.length ∧ σ k = some (τ, ⟨s, rows⟩)
def Own (P : Program) (f : FuncId) (args : List OV) (s : Nat) (rows : List (List OV)) : Prop := FnR P f args (IsOwn s rows)
theorem WRel.start {Γ : Ctx} {G : Gh} {σ : Store} {w : World} (h : WRel Γ G σ w) (N : Nat) : WRel ⟨w, fun _ => False, G, N⟩ G Store.nil w where
 mem := h.mem
 own k τ r hk := by cases hk
 inj k k' τ τ' β β' r r' hk := by cases hk
 keep _ _ _ := rfl
 size := Nat.le_refl _
 tape := rfl
 os := rfl
 output := rfl
 g0 := .refl G
 new _ _ _ h := Or.inl h
 bound := h.bound
 low _ _ _ _ := rfl
theorem WRel.back {Γ : Ctx} {G G' : Gh} {σ σ' : Store} {w w' : World} {N : Nat} (h : WRel Γ G σ w) (h' : WRel ⟨w, fun _ => False, G, N⟩ G' σ' w') (hN : Γ.N ≤ N) : WRel Γ G' σ w' where
 mem := h'.mem
 own k τ r hk := by
  rcases h.own k τ r hk with ⟨h1, h2⟩ | ⟨β, h1, h2, h3, h4⟩
  ·exact Or.inl ⟨h'.g0.2 _ _ _ h1, h2⟩
  ·refine Or.inr ⟨β, h'.g0.2 _ _ _ h1, (h2.of_heap (h'.keep β.b h2.lt (fun e => e))).mono h'.g0, fun o => ?_, h4⟩
   cases hm : G'.M β.b o with
   | none => rfl
   | some x =>
    rcases h'.new _ _ _ hm with e | e | e
    ·have := h3 o; rw [show G.M β.b o = some x from e] at this; cases this
    ·have := h2.lt; exact (Nat.not_lt.2 e this).elim
    ·exact e.elim
 inj k k' τ τ' β β' r r' hk hk' hμ hμ' e := by
  have old : ∀ k τ r β, σ k = some (τ, r) → G'.μ k τ = some (some β) → G.μ k τ = some (some β) := fun k τ r β hk hμ => by
   rcases h.own k τ r hk with ⟨h1, h2⟩ | ⟨β0, h1, h2⟩
   ·have := h'.g0.2 _ _ _ h1; rw [hμ] at this; cases this
   ·have := h'.g0.2 _ _ _ h1; rw [hμ] at this; cases this; exact h1
  exact h.inj k k' τ τ' β β' r r' hk hk' (old k τ r β hk hμ) (old k' τ' r' β' hk' hμ') e
 keep b hb hS := (h'.keep b (Nat.lt_of_lt_of_le hb h.size) (fun e => e)).trans (h.keep b hb hS)
 size := Nat.le_trans h.size h'.size
 tape := h'.tape.trans h.tape
 os := h'.os.trans h.os
 output := h'.output.trans h.output
 g0 := h.g0.trans h'.g0
 new b o x hm := by
  rcases h'.new b o x hm with e | e | e
  ·exact h.new b o x e
  ·exact Or.inr (Or.inl (Nat.le_trans h.size e))
  ·exact e.elim
 bound := h'.bound
 low k v i hv := (h'.low k v i (Nat.lt_of_lt_of_le hv hN)).trans (h.low k v i hv)
theorem fC {P : Program} {ρ : Operand → Value} {w : World} {dst : Option Tmp} {x : Operand} {xs : List Operand} {tys : Array TypeId} {ty : TypeId} {pos : String} {af : Array Edge} {gd : Option (Nat × Bool)} {f : FuncId} {fi ca : Array Value}
  (hx : ρ x = .func (.func f) fi ca) (he : Enters P f) : (execOp ρ ⟨dst, .call { callee := .value x, args := xs.toArray, argTypes := tys }, ty, pos, af, gd⟩).run P w = .ok (.enter f (fi ++ (xs.map ρ).toArray ++ ca)) w := by
 obtain ⟨fn, h1, h2, h3⟩ := he
 simp only [execOp, resolve, hx, Deferred.ofValue, Sem.run_bind, Sem.run_pure, Result.andThen_ok, invoke, callFunc, run_program, h1, h2, h3, Bool.false_eq_true, if_false, List.map_toArray]
section
variable {P : Program} {v j : Nat} {tm : Tm} {σ : Store} {dst : Option Tmp} {ty : TypeId} {pos : String} {af : Array Edge} {gd : Option (Nat × Bool)} {K : OV → Store → Prop}
inductive IsFn : OV → FuncId → List OV → List OV → Prop where
 | fn (f : FuncId) (fi ca : List OV) : IsFn (.fn f fi ca) f fi ca
 | d (f : FuncId) (fi ca : List TV) : IsFn (.d (.fn f fi ca)) f (fi.map .d) (ca.map .d)
theorem RepL.toO {G : Gh} : ∀ {ts : List TV} {vs : List Value}, RepL G.M ts vs → RepOL G (ts.map .d) vs
 | [], vs, h => by rw [RepL] at h; rw [List.map_nil, RepOL]; exact h
 | t :: ts, vs, h => by
  rw [RepL] at h
  obtain ⟨x, us, rfl, h1, h2⟩ := h
  rw [List.map_cons, RepOL]
  exact ⟨x, us, rfl, by rw [RepO]; exact h1, RepL.toO h2⟩
theorem IsFn.rep {G : Gh} {y : OV} {f : FuncId} {fi ca : List OV} {x : Value} (h : IsFn y f fi ca) (hx : RepO G y x) : ∃ vs us, x = .func (.func f) vs us ∧ RepOL G fi vs.toList ∧ RepOL G ca us.toList := by
 cases h with
 | fn => rw [RepO] at hx; exact hx
 | d => rw [RepO, Rep] at hx; obtain ⟨vs, us, h1, h2, h3⟩ := hx; exact ⟨vs, us, h1, h2.toO, h3.toO⟩
theorem mJ {x : Operand} {xs : List Operand} {tys : Array TypeId} {y : OV} {f : FuncId} {fi ca ys : List OV} {R : OV → Store → Prop} (hx : ev tm x = some y) (hf : IsFn y f fi ca) (ha : evs tm xs = some ys) (hc : FnR P f (fi ++ ys ++ ca) R)
  {Γ : Ctx} {G : Gh} {ρ : Operand → Value} {w : World} (hρ : ∀ z ∈ (Op.call { callee := .value x, args := xs.toArray, argTypes := tys }).operands, ∀ y, ev tm z = some y → RepO G y (ρ z)) (hw : WRel Γ G σ w) :
  ∃ f' args, (execOp ρ ⟨dst, .call { callee := .value x, args := xs.toArray, argTypes := tys }, ty, pos, af, gd⟩).run P w = .ok (.enter f' args) w ∧
   Calls P f' args w (fun e w' => ∃ x G' r σ', e = .returned x ∧ R r σ' ∧ G.le G' ∧ RepO G' r x ∧ WRel ⟨w, fun _ => False, G, v + 1⟩ G' σ' w') := by
 obtain ⟨vs, us, h1, h2, h3⟩ := hf.rep (hρ x (by simp [Op.operands, Call.operands]) y hx)
 have h4 := bW ha fun z hz => hρ z (by simp [Op.operands, Call.operands, hz])
 refine ⟨f, _, fC h1 hc.1, ?_⟩
 have h5 := hc.2 G w (vs.toList ++ xs.map ρ ++ us.toList) (v + 1) ((h2.append h4).append h3) (hw.start (v + 1))
 have e : (vs.toList ++ xs.map ρ ++ us.toList).toArray = vs ++ (xs.map ρ).toArray ++ us := by simp
 rw [e] at h5
 exact h5
theorem qT {x : Operand} {xs : List Operand} {tys : Array TypeId} {y : OV} {f : FuncId} {fi ca ys : List OV} {r : OV} (hx : ev tm x = some y) (hf : IsFn y f fi ca) (ha : evs tm xs = some ys) (hc : Pure P f (fi ++ ys ++ ca) r) :
  YL P v j ⟨dst, .call { callee := .value x, args := xs.toArray, argTypes := tys }, ty, pos, af, gd⟩ tm σ [] r [] := fun σ _ Γ G ρ w hv _ hρ hw => by
 obtain ⟨f', args, h1, h2⟩ := mJ (v := v) hx hf ha hc hρ hw
 rw [h1]
 exact h2.mono fun e w' ⟨x, G', r', σ', h3, h4, h5, h6, h7⟩ => ⟨x, h3, G', h5, fun k v' i hv' _ => h7.low k v' i (Nat.lt_succ_of_le hv'), by rw [← h4]; exact h6, hw.back h7 (Nat.le_succ_of_le hv)⟩
theorem uBB {d : Nat} {x : Operand} {xs : List Operand} {tys : Array TypeId} {y : OV} {f : FuncId} {fi ca ys : List OV} {s : Nat} {rows : List (List OV)} (hx : ev tm x = some y) (hf : IsFn y f fi ca) (ha : evs tm xs = some ys) (hc : Own P f (fi ++ ys ++ ca) s rows) :
  YL P v j ⟨some d, .call { callee := .value x, args := xs.toArray, argTypes := tys }, ty, pos, af, gd⟩ tm σ [] (.os d (v, j) s rows.length) [(d, some ((v, j), ⟨s, rows⟩))] := fun σ _ Γ G ρ w hv hfr hρ hw => by
 obtain ⟨f', args, h1, h2⟩ := mJ (v := v) hx hf ha hc hρ hw
 rw [h1]
 refine h2.mono fun e w' ⟨x, G', r', σ', h3, ⟨k, τ, e1, e2⟩, h5, h6, h7⟩ => ⟨x, h3, ?_⟩
 subst e1
 have hb := hw.back h7 (Nat.le_succ_of_le hv)
 have hfr' : ∀ k, G'.μ k (v, j) = none := fun k => by rw [h7.low k v j (Nat.lt_succ_self v)]; exact hfr k
 rw [RepO] at h6
 rcases h6 with ⟨β, c, hμ, e3, e4, e5, e6⟩ | ⟨hμ, e3, e4⟩
 ·have hblk := h7.blk e2 hμ
  obtain ⟨hsep, hfresh⟩ : (∀ o, G'.M β.b o = none) ∧ w.heap.size ≤ β.b := by
   rcases h7.own k τ _ e2 with ⟨g1, _⟩ | ⟨β0, g1, _, g2, g3⟩
   ·rw [hμ] at g1; cases g1
   ·rw [hμ] at g1; cases g1; exact ⟨g2, g3.resolve_right (fun e => e)⟩
  refine ⟨_, h5.trans (Gh.name_le G' (some β) (hfr' d)), ?_, ?_, hb.named hv (hfr' d) (Nat.le_refl _) rfl rfl rfl (fun _ _ _ => rfl) hblk hsep (Or.inl (Nat.le_trans hw.size hfresh)) ?_⟩
  ·intro k' v' i hv' hi
   rw [xF G' d v j _ k' v' i hv' hi]
   exact h7.low k' v' i (Nat.lt_succ_of_le hv')
  ·rw [RepO]
   exact Or.inl ⟨β, c, Gh.name_self _ _ _ _, e3, e4, e5, e6⟩
  ·intro k' τ' r' β' _ hk' hμ' e
   rcases hw.own k' τ' r' hk' with ⟨g1, _⟩ | ⟨β0, g1, g2, _⟩
   ·have := h5.2 _ _ _ g1; rw [hμ'] at this; cases this
   ·have := h5.2 _ _ _ g1
    rw [hμ'] at this; cases this
    have := g2.lt; omega
 ·have hr : rows = [] := List.eq_nil_of_length_eq_zero e4
  subst hr
  refine ⟨_, h5.trans (Gh.name_le G' none (hfr' d)), ?_, ?_, hb.phantom d hv (hfr' d) s⟩
  ·intro k' v' i hv' hi
   rw [xF G' d v j _ k' v' i hv' hi]
   exact h7.low k' v' i (Nat.lt_succ_of_le hv')
  ·rw [RepO]
   exact Or.inr ⟨Gh.name_self _ _ _ _, e3, rfl⟩
end
def Tm.ini (args : List OV) : Tm := fun t => bif Nat.beq t GS then none else args[t]?
def Done (t : Nat) (R : OV → Store → Prop) : Exit → Tm → Store → Prop
 | .normal, tm, σ => ∃ r, tm t = some r ∧ R r σ
 | .ret, tm, σ => ∃ r, tm t = some r ∧ R r σ
 | _, _, _ => False
theorem WRel.putNon {Γ : Ctx} {G : Gh} {σ : Store} {w : World} (h : WRel Γ G σ w) {r : Nat} {o o' : Obj} (ho : w.heap[r]? = some o) (hc : o.isCells = false) (hr : Γ.w0.heap.size ≤ r ∨ Γ.S r) : WRel Γ G σ (w.putObj r o') where
 mem b i v hm := by
  have h1 := h.mem b i v hm
  have hne : b ≠ r := fun e => by
   obtain ⟨o2, h2, h3⟩ := cells_of_cell h1
   rw [e] at h2; simp only at h2; rw [ho] at h2; cases h2; rw [hc] at h3; cases h3
  rw [World.cell?_of_block (w := w) (World.putObj_heap_other hne)]; exact h1
 own k τ r' hk := (h.own k τ r' hk).imp id fun ⟨β, h1, h2, h3, h4⟩ => ⟨β, h1, h2.of_heap (World.putObj_heap_other fun e => by
  obtain ⟨cs, h5, _⟩ := h2
  rw [e, ho] at h5; cases h5; cases hc), h3, h4⟩
 inj := h.inj
 keep b hb hS := (World.putObj_heap_other fun e => by
  rcases hr with h1 | h1
  ·omega
  ·exact hS (e ▸ h1)).trans (h.keep b hb hS)
 size := by rw [World.putObj_size]; exact h.size
 tape := h.tape
 os := h.os
 output := h.output
 g0 := h.g0
 new := h.new
 bound := h.bound
 low := h.low
theorem rV {P : Program} {fn : Func} {tmps : Array Value} {R : Ending → World → Prop} {Γ : Ctx} {G : Gh} {σ : Store} {J : World → Prop} {D : Nat → Prop} (hJD : ∀ w w', J w → (∀ b, D b → w'.heap[b]? = w.heap[b]?) → J w') : ∀ (ds : List Deferred) (w : World), (ds.map (·.target)).Nodup → (∀ d ∈ ds, ∃ r, d.target = .collected r ∧ Γ.w0.heap.size ≤ r ∧ w.heap[r]? = some (.deferred (some [])) ∧ ¬ D r) → WRel Γ G σ w → J w →
  (∀ w', WRel Γ G σ w' → J w' → ∃ v, (results fn tmps).run P w' = .ok v w' ∧ R (.returned v) w') → LeavesInM Fence.wide 0 P fn tmps R ds .returning w
 | [], w, _, _, hw, hJ, hr => hr w hw hJ
 | d :: ds, w, hn, hm, hw, hJ, hr => by
  obtain ⟨r, h1, h2, h3, h4⟩ := hm d (by simp)
  refine ⟨by simp, .inl ⟨r, _, h1, run_takeDeferred h3, rV hJD ds _ (List.nodup_cons.1 hn).2 (fun d' hd' => ?_) (hw.putNon h3 rfl (Or.inl h2)) (hJD _ _ hJ fun b hb => World.putObj_heap_other fun e => h4 (e ▸ hb)) hr⟩⟩
  obtain ⟨r', g1, g2, g3, g4⟩ := hm d' (by simp [hd'])
  refine ⟨r', g1, g2, (World.putObj_heap_other fun e => ?_).trans g3, g4⟩
  subst e
  exact (List.nodup_cons.1 hn).1 (List.mem_map.2 ⟨d', hd', g1.trans h1.symm⟩)
theorem Tm.ini_get {args : List OV} {t : Nat} {y : OV} (h : Tm.ini args t = some y) : args[t]? = some y := by
 unfold Tm.ini at h
 cases hb : Nat.beq t GS with
 | true => rw [hb] at h; cases h
 | false => rw [hb] at h; exact h
theorem body_callsJ {P : Program} {f : FuncId} {fn : Func} {c : Code} {n : Nat} {args : List OV} {tm0 : Tm} {Q : Exit → Tm → Store → Prop} {Γ : Ctx} {G : Gh} {σ0 : Store} {w : World} {vs : List Value} {R : OV → Store → Prop} (gm : Option (Nat × YJ)) (dD : Nat → Prop) (dok : ∀ b, dD b → Γ.w0.heap.size ≤ b ∨ Γ.S b)
  (hf : P.funcs[f]? = some fn) (hb : fn.body = some c) (hn : fn.ntmps = n) (hl : args.length ≤ n)
  (h : awp P n c Q tm0 σ0) (htm : ∀ t y, tm0 t = some y → (∃ i Y, y = .gh i Y) ∨ args[t]? = some y) (hv : RepOL G args vs) (hΓ0 : Γ.w0 = w) (hw : WRel Γ G σ0 w) (hG : Γ.G0 = G) (hJ : ∀ i Y, tm0 GS = some (.gh i Y) → Y.J i w ∧ Y.g.le G ∧ ∀ b, Y.D b → dD b)
  (hq : ∀ e G tm σ C a w, SRel n C G tm σ a w → Q e tm σ → (e = .normal ∨ e = .ret) ∧ (∀ m Y, gm = some (m, Y) → tm GS = some (.gh m Y)) ∧ ∃ x r, (results fn a.tmps).run P w = .ok x w ∧ RepO G r x ∧ R r σ) :
  Calls P f vs.toArray w (fun e w' => ∃ x G' r σ', e = .returned x ∧ R r σ' ∧ G.le G' ∧ RepO G' r x ∧ WRel Γ G' σ' w' ∧ ∀ m Y, gm = some (m, Y) → Y.J m w') := by
 have hlen := hv.length
 refine (callsIn_wide (n := 0)).1 (callsIn_of_wp_marks hf hb trivial (wpIn_mono (h ⟨Γ, fun _ => none, [], none, w.heap.size, dD, dok, by rw [hΓ0]; exact Nat.le_refl _, []⟩ none G _ w rfl ⟨?_, rfl, ?_, hw, fun b o hb => (by cases hb), ⟨by simp, fun d hd => (by cases hd), fun l hl => (by cases hl)⟩, fun i Y hi => ⟨(hJ i Y hi).1, (hJ i Y hi).2.1, fun b o hb => (by cases hb), (hJ i Y hi).2.2⟩⟩) fun e a w' ⟨C', G', tm, σ, hC, hs, hd⟩ => ?_))
 ·simp; omega
 ·intro t y hy
  refine (htm t y hy).imp id fun hy => ?_
  obtain ⟨x, h1, h2⟩ := hv.get hy
  refine ⟨x, ?_, h2⟩
  have hlt : t < vs.length := by
   rcases Nat.lt_or_ge t vs.length with hh | hh
   ·exact hh
   ·rw [List.getElem?_eq_none hh] at h1; cases h1
  rw [Array.getElem?_append_left (by simpa using hlt)]
  simpa using h1
 ·obtain ⟨he, hg, _⟩ := hq e G' tm σ C' a w' hs hd
  have hw' : WRel Γ G' σ w' := hC.back _ _ _ hs.w
  have key : LeavesInM Fence.wide 0 P fn a.tmps (fun e w' => ∃ x G' r σ', e = .returned x ∧ R r σ' ∧ G.le G' ∧ RepO G' r x ∧ WRel Γ G' σ' w' ∧ ∀ m Y, gm = some (m, Y) → Y.J m w') a.defers .returning w' := by
   rw [hs.defers, hC.d0, List.append_nil]
   refine rV (Γ := Γ) (G := G') (σ := σ) (J := fun w' => ∀ m Y, tm GS = some (.gh m Y) → Y.J m w') (D := fun b => ∃ m Y, tm GS = some (.gh m Y) ∧ Y.D b) (fun w1 w2 h1 h2 m Y hm => Y.st m w1 w2 (h1 m Y hm) fun b hb => h2 b ⟨m, Y, hm, hb⟩) _ _ hs.marks.1 (fun d hd' => ?_) hw' (fun m Y hm => (hs.gh m Y hm).1) fun w2 hw2 hJ2 => ?_
   ·obtain ⟨r, g1, g2, g3⟩ := hs.marks.2.1 d hd'
    refine ⟨r, g1, ?_, (hs.fix r _ g3).1, fun ⟨m, Y, h1, h2⟩ => (hs.gh m Y h1).2.2.1 r _ g3 h2⟩
    rw [hC.base] at g2
    rw [hΓ0]; exact g2
   ·obtain ⟨_, _, x, r, g1, g2, g3⟩ := hq e G' tm σ ⟨Γ, fun _ => none, [], none, 0, C'.dD, fun b hb => by have h9 := C'.dok b hb; rw [hC.Γ] at h9; exact h9, Nat.zero_le _, []⟩ { a with defers := [] } w2 ⟨hs.size, rfl, hs.tm, hw2, fun b o hb => (by cases hb), ⟨by simp, fun d hd => (by cases hd), fun l hl => (by cases hl)⟩, fun i Y hi => ⟨hJ2 i Y hi, (hs.gh i Y hi).2.1, fun b o hb => (by cases hb), (hs.gh i Y hi).2.2.2⟩⟩ hd
    exact ⟨x, g1, x, G', r, σ, rfl, g3, by rw [← hG]; exact hw2.g0, g2, hw2, fun m Y hm => hJ2 m Y (hg m Y hm)⟩
  rcases he with rfl | rfl <;> exact key
theorem kO {P : Program} {f : FuncId} {fn : Func} {c : Code} {n : Nat} {args : List OV} {Q : Exit → Tm → Store → Prop} {Γ : Ctx} {G : Gh} {σ0 : Store} {w : World} {vs : List Value} {R : OV → Store → Prop} (hf : P.funcs[f]? = some fn) (hb : fn.body = some c) (hn : fn.ntmps = n) (hl : args.length ≤ n)
  (h : awp P n c Q (Tm.ini args) σ0) (hv : RepOL G args vs) (hΓ : Γ.w0 = w) (hw : WRel Γ G σ0 w) (hG : Γ.G0 = G)
  (hq : ∀ e G tm σ C a w, SRel n C G tm σ a w → Q e tm σ → (e = .normal ∨ e = .ret) ∧ ∃ x r, (results fn a.tmps).run P w = .ok x w ∧ RepO G r x ∧ R r σ) :
  Calls P f vs.toArray w (fun e w' => ∃ x G' r σ', e = .returned x ∧ R r σ' ∧ G.le G' ∧ RepO G' r x ∧ WRel Γ G' σ' w') :=
 (body_callsJ none (fun _ => False) (fun _ h => h.elim) hf hb hn hl h (fun t y hy => Or.inr (Tm.ini_get hy)) hv hΓ hw hG (fun i Y hi => by cases hi) fun e G tm σ C a w h1 h2 => ⟨(hq e G tm σ C a w h1 h2).1, fun m Y hm => (by cases hm), (hq e G tm σ C a w h1 h2).2⟩).mono fun e w' ⟨x, G', r, σ', h1, h2, h3, h4, h5, _⟩ => ⟨x, G', r, σ', h1, h2, h3, h4, h5⟩
theorem fn_core {P : Program} {f : FuncId} {fn : Func} {c : Code} {n : Nat} {args : List OV} {Q : Exit → Tm → Store → Prop} {R : OV → Store → Prop} (hf : P.funcs[f]? = some fn) (hname : (fn.name == "runtime.NumGoroutine") = false) (hb : fn.body = some c) (hn : fn.ntmps = n) (hl : args.length ≤ n)
  (hq : ∀ e G tm σ C a w, SRel n C G tm σ a w → Q e tm σ → (e = .normal ∨ e = .ret) ∧ ∃ x r, (results fn a.tmps).run P w = .ok x w ∧ RepO G r x ∧ R r σ)
  (h : awp P n c Q (Tm.ini args) Store.nil) : FnR P f args R :=
 ⟨⟨fn, hf, hname, by rw [hb]; rfl⟩, fun G w vs N hv hw => kO hf hb hn hl h hv rfl hw rfl hq⟩
theorem fn_of_awp {P : Program} {f : FuncId} {fn : Func} {c : Code} {n t : Nat} {args : List OV} {R : OV → Store → Prop} (hf : P.funcs[f]? = some fn) (hname : (fn.name == "runtime.NumGoroutine") = false) (hb : fn.body = some c) (hn : fn.ntmps = n) (hl : args.length ≤ n) (hr : fn.results = #[.tmp t])
  (h : awp P n c (Done t R) (Tm.ini args) Store.nil) : FnR P f args R := by
 refine fn_core hf hname hb hn hl (fun e G tm σ Γ a w hs hd => ?_) h
 have key : (∃ r, tm t = some r ∧ R r σ) → ∃ x r, (results fn a.tmps).run P w = .ok x w ∧ RepO G r x ∧ R r σ := fun ⟨r, h1, h2⟩ => by
  refine ⟨a.tmps.getD t undef, r, ?_, hs.tm.val h1, h2⟩
  simp [results, hr]
 cases e <;> first | exact hd.elim | exact ⟨by simp, key hd⟩
end
section
attribute [local semireducible] NextOk
section
variable {next : Tm → Store → Prop} {Q : Exit → Tm → Store → Prop} {tm : Tm} {σ : Store} {id i : Nat}
theorem uA (h : next tm σ) : Then next Q .normal tm σ := h
theorem then_r (h : Q .ret tm σ) : Then next Q .ret tm σ := h
theorem qH (h : Q (.exit i) tm σ) : Then next Q (.exit i) tm σ := h
theorem uBA (h : Q .normal tm σ) : InBlock id Q .normal tm σ := h
theorem blk_r (h : Q .ret tm σ) : InBlock id Q .ret tm σ := h
theorem uAB (h : Q .normal tm σ) : InBlock id Q (.exit id) tm σ := by show bif Nat.beq id id then _ else _; rw [Nat.beq_refl]; exact h
theorem blk_y (hb : Nat.beq i id = false) (h : Q (.exit i) tm σ) : InBlock id Q (.exit i) tm σ := by show bif Nat.beq i id then _ else _; rw [hb]; exact h
end
section
variable {A : Prop} {p : Prop} [Decidable p] {b : Bool}
theorem uH (h : A) : true = true → A := fun _ => h
theorem uV (h : A) : false = false → A := fun _ => h
theorem uI : true = false → A := fun h => by cases h
theorem vN : false = true → A := fun h => by cases h
theorem uF (h : p → A) : decide p = true → A := fun e => h (by simpa using e)
theorem uG (h : ¬ p → A) : decide p = false → A := fun e => h (by simpa using e)
theorem zT (h : ¬ p → A) : (!decide p) = true → A := fun e => h (by simpa using e)
theorem aG (h : p → A) : (!decide p) = false → A := fun e => h (by simpa using e)
theorem vV {b : Bool} {A : Prop} (h : b = true → A) : b = true → A := h
theorem vY {b : Bool} {A : Prop} (h : b = false → A) : b = false → A := h
theorem zU (h : b = false → A) : (!b) = true → A := fun e => h (by simpa using e)
theorem yS (h : b = true → A) : (!b) = false → A := fun e => h (by simpa using e)
end
section
variable {P : Program} {v j : Nat} {ops : Array Oper} {K : Tm → Store → Prop} {rest : List Oper} {tm : Tm} {σ : Store} {dst : Option Tmp} {op : Op} {ty : TypeId} {pos : String} {af : Array Edge}
structure AO (P : Program) (v : Nat) (ops : Array Oper) (K : Tm → Store → Prop) (j : Nat) (l : List Oper) (tm : Tm) (σ : Store) : Prop where
 out : aops P v ops K j l tm σ
theorem vH (h : K tm σ) : AO P v ops K j [] tm σ := ⟨aops_nil h⟩
theorem uQ {ks : List Nat} {r : OV} {δ : Diff} (h : YL P v j ⟨dst, op, ty, pos, af, none⟩ tm σ ks r δ) (k : AO P v ops K (j + 1) rest (tm.putO dst r) (σ.apply δ)) : AO P v ops K j (⟨dst, op, ty, pos, af, none⟩ :: rest) tm σ := ⟨aops_step h k.out⟩
theorem pX (h : OpOk P v j ⟨dst, op, ty, pos, af, none⟩ tm σ (fun r σ' => AO P v ops K (j + 1) rest (tm.putO dst r) σ')) : AO P v ops K j (⟨dst, op, ty, pos, af, none⟩ :: rest) tm σ :=
 ⟨aops_ok (OpT.mono h fun tm' σ' ⟨r, h1, h2⟩ => ⟨r, h1, h2.out⟩)⟩
theorem ao_t (h : OpT P v j ⟨dst, op, ty, pos, af, none⟩ tm σ (AO P v ops K (j + 1) rest)) : AO P v ops K j (⟨dst, op, ty, pos, af, none⟩ :: rest) tm σ := ⟨aops_t (h.mono fun _ _ k => k.out)⟩
theorem vE {g d : Nat} {b : Bool} (hd : (ops[g]?).bind (·.dst) = some d) (ht : tm d = some (.bool b)) (h1 : b = true → AO P v ops K j (⟨dst, op, ty, pos, af, none⟩ :: rest) (tm.put d (.bool true)) σ)
  (h2 : b = false → AO P v ops K (j + 1) rest ((tm.put d (.bool false)).putO dst .un) σ) : AO P v ops K j (⟨dst, op, ty, pos, af, some (g, true)⟩ :: rest) tm σ := ⟨kR hd ht (fun e => (h1 e).out) (fun e => (h2 e).out)⟩
theorem uC {g d : Nat} {b : Bool} (hd : (ops[g]?).bind (·.dst) = some d) (ht : tm d = some (.bool b)) (h1 : b = false → AO P v ops K j (⟨dst, op, ty, pos, af, none⟩ :: rest) (tm.put d (.bool false)) σ)
  (h2 : b = true → AO P v ops K (j + 1) rest ((tm.put d (.bool true)).putO dst .un) σ) : AO P v ops K j (⟨dst, op, ty, pos, af, some (g, false)⟩ :: rest) tm σ := ⟨kR hd ht (fun e => (h1 e).out) (fun e => (h2 e).out)⟩
end
section
variable {P : Program} {v j : Nat} {ops : Array Oper} {K : Tm → Store → Prop} {rest : List Oper} {tm : Tm} {σ : Store} {dst : Option Tmp} {op : Op} {ty : TypeId} {pos : String} {af : Array Edge}
end
theorem ao_region {P : Program} {n id : Nat} {l : List Oper} {Q : Exit → Tm → Store → Prop} {tm : Tm} {σ : Store} (hn : dstsLt n l = true)
  (h : ∀ v, AO P v l.toArray (Q .normal) 0 l tm σ) : awp P n (.region id l.toArray false) Q tm σ := awp_region hn fun v => (h v).out
def cell (n : Int) : List TV := [.c (.int .i64 n)]
def ints (l : List Int) : TV := .sl 1 (l.map cell)
theorem uW {α β : Type} {f : α → β} {l : List α} {i : Nat} (h : i < l.length) (d : α) : (l.map f)[i]? = some (f (l.getD i d)) := by
 rw [List.getElem?_map, List.getElem?_eq_getElem h, Option.map_some]
 congr 2
 rw [List.getD_eq_getElem?_getD, List.getElem?_eq_getElem h]; rfl
theorem rU {α : Type} (s : Nat) (f : α → List TV) (l : List α) (G : Gh) (u : Value) (h : RepO G (.d (.sl s (l.map f))) u) : ∃ a c, u = .slice a l.length c := by
 have := qL s (l.map f) G u h; rwa [List.length_map] at this
def tmL : List (Nat × OV) → Tm
 | [] => fun _ => none
 | (d, y) :: l => fun t => bif Nat.beq t d then some y else tmL l t
def stL : List (Nat × (Stamp × Row)) → Store
 | [] => fun _ => none
 | (d, y) :: l => fun t => bif Nat.beq t d then some y else stL l t
theorem vW (tm : Tm) : (tmL []).le tm := fun t y h => by cases h
theorem uL {d : Nat} {y : OV} {l : List (Nat × OV)} {tm : Tm} (h : tm d = some y) (hl : (tmL l).le tm) : (tmL ((d, y) :: l)).le tm := fun t z hz => by
 unfold tmL at hz
 cases hb : Nat.beq t d with
 | true => rw [hb] at hz; cases hz; rw [Nat.eq_of_beq_eq_true hb]; exact h
 | false => rw [hb] at hz; exact hl t z hz
theorem uS (σ : Store) : (stL []).le σ := fun t y h => by cases h
theorem uY {d : Nat} {y : Stamp × Row} {l : List (Nat × (Stamp × Row))} {σ : Store} (h : σ d = some y) (hl : (stL l).le σ) : (stL ((d, y) :: l)).le σ := fun t z hz => by
 unfold stL at hz
 cases hb : Nat.beq t d with
 | true => rw [hb] at hz; cases hz; rw [Nat.eq_of_beq_eq_true hb]; exact h
 | false => rw [hb] at hz; exact hl t z hz
section
variable {t u : Nat} {R : OV → Store → Prop} {tm : Tm} {σ : Store} {r s : OV}
theorem wQ (h : tm t = some r) (hr : R r σ) : Done t R .ret tm σ := ⟨r, h, hr⟩
theorem wL {k : IntKind} {a b : Int} (h : tm t = some (.int k a)) (e : a = b) : Done t (fun r' _ => r' = .int k b) .ret tm σ := ⟨_, h, by rw [e]⟩
theorem vX {a b : Bool} (h : tm t = some (.bool a)) (e : a = b) : Done t (fun r' _ => r' = .bool b) .ret tm σ := ⟨_, h, by rw [e]⟩
end
theorem round {X : Type} {T : X → Tm} {S : X → Store} {I : X → Prop} {μ : X → Nat} {x : X} {tm : Tm} {σ : Store} (y : X) (hI : I y) (hμ : μ y < μ x) (ht : (T y).le tm) (hs : (S y).le σ) : ∃ y, I y ∧ μ y < μ x ∧ (T y).le tm ∧ (S y).le σ := ⟨y, hI, hμ, ht, hs⟩
end
section
attribute [local semireducible] NextOk
structure Foot where
 ks : List Nat
 ws : List Nat
instance : Inhabited Foot := ⟨⟨[], []⟩⟩
def wkeys : Diff → List Nat
 | [] => []
 | (k, _) :: δ => k :: wkeys δ
def adops (P : Program) (v : Nat) (ops : Array Oper) (K : List Foot → Tm → Store → Prop) : Nat → List Oper → Tm → Store → List Foot → Prop
 | _, [], tm, σ, acc => K acc tm σ
 | j, o :: rest, tm, σ, acc =>
  (awant ops tm o = some true ∧ ∃ ks r δ, YL P v j o tm σ ks r δ ∧ adops P v ops K (j + 1) rest (tm.putO o.dst r) (σ.apply δ) (⟨ks, wkeys δ⟩ :: acc)) ∨
  (awant ops tm o = some false ∧ adops P v ops K (j + 1) rest (tm.putO o.dst .un) σ (⟨[], []⟩ :: acc)) ∨
  ∃ c r ks, gval ops tm o = some c ∧ (c = true → YL P v j o tm σ ks r []) ∧ adops P v ops K (j + 1) rest (tm.putO o.dst (.mb c r)) σ (⟨ks, []⟩ :: acc)
def meets (a b : List Nat) : Bool := a.any fun x => b.any fun y => Nat.beq x y
theorem aP {a b : List Nat} (h : meets a b = false) {k : Nat} (ha : k ∈ a) (hb : k ∈ b) : False := by
 unfold meets at h
 have h1 := List.any_eq_false.1 h k ha
 simp only [Bool.not_eq_true] at h1
 have h2 := List.any_eq_false.1 h1 k hb
 simp at h2
def Foot.apart (f g : Foot) : Bool := !meets f.ws g.ks && !meets f.ks g.ws && !meets f.ws g.ws
theorem wI {δ : Diff} : ∀ {σ : Store} {k : Nat}, k ∉ wkeys δ → σ.apply δ k = σ k := by
 induction δ with
 | nil => intro σ k _; rfl
 | cons x δ ih =>
  intro σ k h
  obtain ⟨k', y⟩ := x
  simp only [wkeys, List.mem_cons, not_or] at h
  cases y with
  | none => rw [Store.apply, ih h.2, Store.del_ne _ h.1]
  | some y => rw [Store.apply, ih h.2, Store.put_ne _ _ h.1]
theorem pW {δ : Diff} : ∀ {σ σ' : Store} {k : Nat}, k ∈ wkeys δ → σ.apply δ k = σ'.apply δ k := by
 induction δ with
 | nil => intro σ σ' k h; simp [wkeys] at h
 | cons x δ ih =>
  intro σ σ' k h
  obtain ⟨k', y⟩ := x
  by_cases hk : k ∈ wkeys δ
  ·cases y <;> exact ih hk
  ·have : k = k' := by simp only [wkeys, List.mem_cons] at h; exact h.resolve_right hk
   subst this
   cases y with
   | none => rw [Store.apply, Store.apply, wI hk, wI hk, Store.del_self, Store.del_self]
   | some y => rw [Store.apply, Store.apply, wI hk, wI hk, Store.put_self, Store.put_self]
theorem apply_comm {δ δ' : Diff} (h : meets (wkeys δ) (wkeys δ') = false) (σ : Store) : (σ.apply δ).apply δ' = (σ.apply δ').apply δ := by
 funext k
 by_cases h1 : k ∈ wkeys δ
 ·have h2 : k ∉ wkeys δ' := fun h2 => aP h h1 h2
  rw [wI h2]; exact pW h1
 ·rw [wI h1]
  by_cases h2 : k ∈ wkeys δ'
  ·exact pW h2
  ·rw [wI h2, wI h2, wI h1]
theorem putO_comm (tm : Tm) {a b : Option Nat} (x y : OV) (h : ∀ d, a = some d → b ≠ some d) : (tm.putO a x).putO b y = (tm.putO b y).putO a x := by
 cases a with
 | none => rfl
 | some d =>
  cases b with
  | none => rfl
  | some d' =>
   have hne : d ≠ d' := fun e => h d rfl (by rw [e])
   funext t
   simp only [Tm.putO]
   by_cases h1 : t = d
   ·subst h1; rw [Tm.put_ne _ _ hne, Tm.put_self, Tm.put_self]
   ·by_cases h2 : t = d'
    ·subst h2; rw [Tm.put_self, Tm.put_ne _ _ h1, Tm.put_self]
    ·rw [Tm.put_ne _ _ h2, Tm.put_ne _ _ h1, Tm.put_ne _ _ h1, Tm.put_ne _ _ h2]
section
variable {P : Program} {v : Nat} {ops : Array Oper} {F : Nat → Foot}
theorem nN {tm : Tm} {o : Oper} {dst : Option Nat} {r : OV} (h : ∀ d, dst = some d → d ∉ o.looksAt ops) {x : Operand} (hx : x ∈ o.op.operands) : ev (tm.putO dst r) x = ev tm x := by
 cases dst with
 | none => rfl
 | some d =>
  cases x with
  | tmp t =>
   have hne : t ≠ d := fun e => h d rfl (by
    subst e
    exact List.mem_append_left _ (List.mem_filterMap.2 ⟨.tmp t, by simpa using hx, rfl⟩))
   exact Tm.put_ne _ _ hne
  | _ => rfl
theorem dM {tm : Tm} {o : Oper} {dst : Option Nat} {r : OV} (h : ∀ d, dst = some d → d ∉ o.looksAt ops) : awant ops (tm.putO dst r) o = awant ops tm o := by
 cases dst with
 | none => rfl
 | some d =>
  unfold awant
  cases hg : o.guard with
  | none => rfl
  | some gw =>
   obtain ⟨g, want⟩ := gw
   simp only
   cases hd : (ops[g]?).bind (·.dst) with
   | none => rfl
   | some d' =>
    have hne : d' ≠ d := fun e => h d rfl (by
     subst e
     unfold Oper.looksAt
     rw [hg]
     simp only [hd, Option.toList_some]
     exact List.mem_append_right _ (by simp))
    simp only [Tm.putO, Tm.put_ne _ _ hne]
theorem pE {tm : Tm} {o : Oper} {dst : Option Nat} {r : OV} (h : ∀ d, dst = some d → d ∉ o.looksAt ops) : gval ops (tm.putO dst r) o = gval ops tm o := by
 cases dst with
 | none => rfl
 | some d =>
  unfold gval
  cases hg : o.guard with
  | none => rfl
  | some gw =>
   obtain ⟨g, want⟩ := gw
   simp only
   cases hd : (ops[g]?).bind (·.dst) with
   | none => rfl
   | some d' =>
    have hne : d' ≠ d := fun e => h d rfl (by
     subst e
     unfold Oper.looksAt
     rw [hg]
     simp only [hd, Option.toList_some]
     exact List.mem_append_right _ (by simp))
    simp only [Tm.putO, Tm.put_ne _ _ hne]
theorem YL.move {j : Nat} {o : Oper} {tm tm' : Tm} {σ σ' : Store} {ks : List Nat} {r : OV} {δ : Diff} (h : YL P v j o tm σ ks r δ) (ht : ∀ x ∈ o.op.operands, ev tm' x = ev tm x) (hs : ∀ k ∈ ks, σ' k = σ k) : YL P v j o tm' σ' ks r δ :=
 fun σ2 h2 Γ G ρ w a1 a2 a3 a4 => h σ2 (fun k hk => (h2 k hk).trans (hs k hk)) Γ G ρ w a1 a2 (fun x hx y hy => a3 x hx y (by rw [ht x hx]; exact hy)) a4
def YieldsA (P : Program) (v : Nat) (ops : Array Oper) (F : Nat → Foot) (i : Nat) (o : Oper) (r : OV) (δ : Diff) (tm : Tm) (σ : Store) : Prop :=
 (awant ops tm o = some true ∧ ∃ ks, F i = ⟨ks, wkeys δ⟩ ∧ YL P v i o tm σ ks r δ) ∨ (awant ops tm o = some false ∧ F i = ⟨[], []⟩ ∧ r = .un ∧ δ = []) ∨
 ∃ c r0 ks, gval ops tm o = some c ∧ F i = ⟨ks, []⟩ ∧ (c = true → YL P v i o tm σ ks r0 []) ∧ r = .mb c r0 ∧ δ = []
def stepA (P : Program) (v : Nat) (ops : Array Oper) (F : Nat → Foot) (i : Nat) (K : Tm → Store → Prop) (tm : Tm) (σ : Store) : Prop :=
 match ops[i]? with
 | none => K tm σ
 | some o => ∃ r δ, YieldsA P v ops F i o r δ tm σ ∧ K (tm.putO o.dst r) (σ.apply δ)
theorem jF {i : Nat} {K K' : Tm → Store → Prop} {tm : Tm} {σ : Store} (h : ∀ tm σ, K tm σ → K' tm σ) (hh : stepA P v ops F i K tm σ) : stepA P v ops F i K' tm σ := by
 unfold stepA at *
 split
 ·rename_i e; rw [e] at hh; exact h _ _ hh
 ·rename_i o e; rw [e] at hh; obtain ⟨r, δ, h1, h2⟩ := hh; exact ⟨r, δ, h1, h _ _ h2⟩
theorem YieldsA.step {i : Nat} {o : Oper} {r : OV} {δ : Diff} {tm : Tm} {σ : Store} (hi : ops[i]? = some o) (hy : YieldsA P v ops F i o r δ tm σ) {K : Tm → Store → Prop} (h : K (tm.putO o.dst r) (σ.apply δ)) : stepA P v ops F i K tm σ := by
 unfold stepA; rw [hi]; exact ⟨r, δ, hy, h⟩
theorem YieldsA.out {i : Nat} {o : Oper} {r r' : OV} {δ δ' : Diff} {tm : Tm} {σ : Store} {dst : Option Nat} (hy : YieldsA P v ops F i o r δ tm σ) (h : ∀ d, dst = some d → d ∉ o.looksAt ops) (hk : ∀ k ∈ (F i).ks, k ∉ wkeys δ') : YieldsA P v ops F i o r δ (tm.putO dst r') (σ.apply δ') := by
 rcases hy with ⟨h1, ks, h2, h3⟩ | ⟨h1, h2, h3, h4⟩ | ⟨c, r0, ks, h1, h2, h3, h4, h5⟩
 ·refine Or.inl ⟨by rw [dM h]; exact h1, ks, h2, h3.move (fun x hx => nN h hx) fun k hks => wI (hk k ?_)⟩
  rw [h2]; exact hks
 ·exact Or.inr (Or.inl ⟨by rw [dM h]; exact h1, h2, h3, h4⟩)
 ·refine Or.inr (Or.inr ⟨c, r0, ks, by rw [pE h]; exact h1, h2, fun e => (h3 e).move (fun x hx => nN h hx) fun k hks => wI (hk k ?_), h4, h5⟩)
  rw [h2]; exact hks
theorem YieldsA.back {i : Nat} {o : Oper} {r r' : OV} {δ δ' : Diff} {tm : Tm} {σ : Store} {dst : Option Nat} (hy : YieldsA P v ops F i o r δ (tm.putO dst r') (σ.apply δ')) (h : ∀ d, dst = some d → d ∉ o.looksAt ops) (hk : ∀ k ∈ (F i).ks, k ∉ wkeys δ') : YieldsA P v ops F i o r δ tm σ := by
 rcases hy with ⟨h1, ks, h2, h3⟩ | ⟨h1, h2, h3, h4⟩ | ⟨c, r0, ks, h1, h2, h3, h4, h5⟩
 ·refine Or.inl ⟨by rw [dM h] at h1; exact h1, ks, h2, h3.move (fun x hx => (nN h hx).symm) fun k hks => (wI (hk k ?_)).symm⟩
  rw [h2]; exact hks
 ·exact Or.inr (Or.inl ⟨by rw [dM h] at h1; exact h1, h2, h3, h4⟩)
 ·refine Or.inr (Or.inr ⟨c, r0, ks, by rw [pE h] at h1; exact h1, h2, fun e => (h3 e).move (fun x hx => (nN h hx).symm) fun k hks => (wI (hk k ?_)).symm, h4, h5⟩)
  rw [h2]; exact hks
theorem YieldsA.ws {i : Nat} {o : Oper} {r : OV} {δ : Diff} {tm : Tm} {σ : Store} (hy : YieldsA P v ops F i o r δ tm σ) : (F i).ws = wkeys δ := by
 rcases hy with ⟨h1, ks, h2, h3⟩ | ⟨h1, h2, h3, h4⟩ | ⟨c, r0, ks, h1, h2, h3, h4, h5⟩
 ·rw [h2]
 ·rw [h2, h4]; rfl
 ·rw [h2, h5]; rfl
theorem lD {i j : Nat} {oi oj : Oper} {r : OV} {δ : Diff} {tm : Tm} {σ : Store} (hj : ops[j]? = some oj) (hap : oi.apart ops oj = true) (hf : (F i).apart (F j) = true) {K : Tm → Store → Prop}
  (hy : YieldsA P v ops F i oi r δ tm σ) (h : stepA P v ops F j K (tm.putO oi.dst r) (σ.apply δ)) :
  stepA P v ops F j (fun tm' σ' => YieldsA P v ops F i oi r δ tm' σ' ∧ K (tm'.putO oi.dst r) (σ'.apply δ)) tm σ := by
 obtain ⟨h1, h2, h3⟩ := Oper.apart_spec hap
 simp only [Foot.apart, Bool.and_eq_true, Bool.not_eq_true'] at hf
 obtain ⟨⟨f1, f2⟩, f3⟩ := hf
 unfold stepA at *
 rw [hj] at *
 obtain ⟨s, ε, hs, hK⟩ := h
 have hwi := hy.ws
 have hs' := hs.back h1 (fun k hk hk' => aP f1 (by rw [hwi]; exact hk') hk)
 have hwj := hs'.ws
 refine ⟨s, ε, hs', hy.out h3 (fun k hk hk' => aP f2 hk (by rw [hwj]; exact hk')), ?_⟩
 rw [← putO_comm tm r s h2, apply_comm (δ := ε) (δ' := δ) ?_]
 ·exact hK
 ·rw [hwi, hwj] at f3
  cases hm : meets (wkeys ε) (wkeys δ) with
  | false => rfl
  | true =>
   unfold meets at hm
   obtain ⟨x, hx, hm⟩ := List.any_eq_true.1 hm
   obtain ⟨y, hy', hm⟩ := List.any_eq_true.1 hm
   have := Nat.eq_of_beq_eq_true hm
   subst this
   exact (aP f3 hy' hx).elim
def anyA (P : Program) (v : Nat) (ops : Array Oper) (F : Nat → Foot) (Q : Tm → Store → Prop) : Nat → Array Bool → Tm → Store → Prop
 | 0, listed, tm, σ => Region.ready .any ops listed = [] ∧ Q tm σ
 | fuel + 1, listed, tm, σ => (Region.ready .any ops listed = [] → Q tm σ) ∧ ∀ i ∈ Region.ready .any ops listed, stepA P v ops F i (anyA P v ops F Q fuel (listed.setIfInBounds i true)) tm σ
theorem anyA_first {Q : Tm → Store → Prop} {i : Nat} {oi : Oper} {r : OV} {δ : Diff} (hi : ops[i]? = some oi) :
  ∀ (fuel : Nat) (listed : Array Bool) (tm : Tm) (σ : Store),
   (∀ j oj, ops[j]? = some oj → j ≠ i → listed.getD j true = false → (∀ e ∈ oj.after, Region.binds .any e = true → e.on ≠ i) → oi.apart ops oj = true ∧ (F i).apart (F j) = true) →
   i ∈ Region.ready .any ops listed → YieldsA P v ops F i oi r δ tm σ → anyA P v ops F Q fuel (listed.setIfInBounds i true) (tm.putO oi.dst r) (σ.apply δ) → anyA P v ops F Q (fuel + 1) listed tm σ := by
 intro fuel
 induction fuel with
 | zero =>
  intro listed tm σ _ hr hy H
  refine ⟨fun h => (by rw [h] at hr; cases hr), fun j hj => ?_⟩
  by_cases hji : j = i
  ·subst hji; exact hy.step hi H
  ·have := ready_mono hj hji
   rw [H.1] at this
   cases this
 | succ fuel ih =>
  intro listed tm σ hfree hr hy H
  refine ⟨fun h => (by rw [h] at hr; cases hr), fun j hj => ?_⟩
  by_cases hji : j = i
  ·subst hji; exact hy.step hi H
  ·have h1 := H.2 j (ready_mono hj hji)
   obtain ⟨hjun, oj, hoj, hall⟩ := mem_ready.1 hj
   have hnot : ∀ e ∈ oj.after, Region.binds .any e = true → e.on ≠ i := fun e he hb heq => by
    have h1 := hall e he hb
    have h0 := (mem_ready.1 hr).1
    rw [heq] at h1
    rcases Nat.lt_or_ge i listed.size with h' | h'
    ·simp [h'] at h0 h1; rw [h0] at h1; cases h1
    ·simp [Array.getElem?_eq_none h'] at h1
   obtain ⟨hap, hfo⟩ := hfree j oj hoj hji hjun hnot
   have h2 := lD hoj hap hfo hy h1
   have hfree' : ∀ k ok, ops[k]? = some ok → k ≠ i → (listed.setIfInBounds j true).getD k true = false →
     (∀ e ∈ ok.after, Region.binds .any e = true → e.on ≠ i) → oi.apart ops ok = true ∧ (F i).apart (F k) = true := fun k ok hk hki hun hno => by
    refine hfree k ok hk hki ?_ hno
    by_cases hjk : j = k
    ·subst hjk; exact hjun
    ·rw [getD_set_ne true hjk] at hun; exact hun
   refine jF (fun tm' σ' h3 => ih (listed.setIfInBounds j true) tm' σ' hfree' (ready_mono hr (Ne.symm hji)) h3.1 ?_) h2
   rw [Array.setIfInBounds_comm _ _ hji]
   exact h3.2
def freeF (ops : Array Oper) (F : Nat → Foot) (listed : Array Bool) (k : Nat) : Bool :=
 (List.range ops.size).all fun j => Nat.beq j k || listed.getD j true || match ops[j]? with
  | some oj => oj.after.any (fun e => Region.binds .any e && Nat.beq e.on k) || (F k).apart (F j)
  | none => true
def lexF (ops : Array Oper) (F : Nat → Foot) : Nat → Nat → Array Bool → Bool
 | 0, _, listed => (Region.ready .any ops listed).isEmpty
 | fuel + 1, k, listed => (Region.ready .any ops listed).contains k && Region.free .any ops listed k && freeF ops F listed k && lexF ops F fuel (k + 1) (listed.setIfInBounds k true)
def footsOf (l : List Foot) (k : Nat) : Foot := l.getD k default
def lexB (ops : Array Oper) (acc : List Foot) : Bool := lexF ops (footsOf acc.reverse) ops.size 0 (Array.replicate ops.size false)
theorem bJ {K : List Foot → Tm → Store → Prop} : ∀ (l : List Oper) (j : Nat) (tm : Tm) (σ : Store) (acc : List Foot), adops P v ops K j l tm σ acc → ∃ acc0, adops P v ops (fun a tm σ => a = acc0 ∧ K a tm σ) j l tm σ acc
 | [], j, tm, σ, acc, h => ⟨acc, rfl, h⟩
 | o :: l, j, tm, σ, acc, h => by
  unfold adops at h
  rcases h with ⟨hw, ks, r, δ, h1, h2⟩ | ⟨hw, h⟩ | ⟨c, r, ks, hg, hy, h⟩
  ·obtain ⟨acc0, h3⟩ := bJ l _ _ _ _ h2
   exact ⟨acc0, by unfold adops; exact Or.inl ⟨hw, ks, r, δ, h1, h3⟩⟩
  ·obtain ⟨acc0, h3⟩ := bJ l _ _ _ _ h
   exact ⟨acc0, by unfold adops; exact Or.inr (Or.inl ⟨hw, h3⟩)⟩
  ·obtain ⟨acc0, h3⟩ := bJ l _ _ _ _ h
   exact ⟨acc0, by unfold adops; exact Or.inr (Or.inr ⟨c, r, ks, hg, hy, h3⟩)⟩
theorem wZ {K K' : List Foot → Tm → Store → Prop} (hk : ∀ a t s, K a t s → K' a t s) : ∀ (l : List Oper) (j : Nat) (tm : Tm) (σ : Store) (acc : List Foot), adops P v ops K j l tm σ acc → adops P v ops K' j l tm σ acc
 | [], j, tm, σ, acc, h => hk _ _ _ h
 | o :: l, j, tm, σ, acc, h => by
  unfold adops at h ⊢
  rcases h with ⟨hw, ks, r, δ, h1, h2⟩ | ⟨hw, h⟩ | ⟨c, r, ks, hg, hy, h⟩
  ·exact Or.inl ⟨hw, ks, r, δ, h1, wZ hk l _ _ _ _ h2⟩
  ·exact Or.inr (Or.inl ⟨hw, wZ hk l _ _ _ _ h⟩)
  ·exact Or.inr (Or.inr ⟨c, r, ks, hg, hy, wZ hk l _ _ _ _ h⟩)
theorem xS {K : List Foot → Tm → Store → Prop} : ∀ (l : List Oper) (j : Nat) (tm : Tm) (σ : Store) (acc : List Foot), adops P v ops K j l tm σ acc → ∃ a t s, K a t s
 | [], j, tm, σ, acc, h => ⟨_, _, _, h⟩
 | o :: l, j, tm, σ, acc, h => by
  unfold adops at h
  rcases h with ⟨hw, ks, r, δ, h1, h2⟩ | ⟨hw, h⟩ | ⟨c, r, ks, hg, hy, h⟩
  ·exact xS l _ _ _ _ h2
  ·exact xS l _ _ _ _ h
  ·exact xS l _ _ _ _ h
theorem gQ {K : List Foot → Tm → Store → Prop} : ∀ (l : List Oper) (j : Nat) (tm : Tm) (σ : Store) (acc : List Foot), adops P v ops K j l tm σ acc → adops P v ops (fun acc' tm σ => K acc' tm σ ∧ ∃ m, acc' = m ++ acc) j l tm σ acc
 | [], j, tm, σ, acc, h => ⟨h, [], rfl⟩
 | o :: l, j, tm, σ, acc, h => by
  have step : ∀ f tm σ, adops P v ops K (j + 1) l tm σ (f :: acc) → adops P v ops (fun acc' tm σ => K acc' tm σ ∧ ∃ m, acc' = m ++ acc) (j + 1) l tm σ (f :: acc) := fun f tm σ h =>
   wZ (fun a t s ⟨h1, m, h2⟩ => ⟨h1, m ++ [f], by rw [h2]; simp⟩) _ _ _ _ _ (gQ l (j + 1) tm σ (f :: acc) h)
  unfold adops at h ⊢
  rcases h with ⟨hw, ks, r, δ, h1, h2⟩ | ⟨hw, h⟩ | ⟨c, r, ks, hg, hy, h⟩
  ·exact Or.inl ⟨hw, ks, r, δ, h1, step _ _ _ h2⟩
  ·exact Or.inr (Or.inl ⟨hw, step _ _ _ h⟩)
  ·exact Or.inr (Or.inr ⟨c, r, ks, hg, hy, step _ _ _ h⟩)
theorem pY {Q : Tm → Store → Prop} : ∀ (l : List Oper) (k : Nat) (listed : Array Bool) (tm : Tm) (σ : Store) (acc : List Foot), (∀ j, l[j]? = ops[k + j]?) → acc.length = k → (∀ i f, acc.reverse[i]? = some f → F i = f) →
  lexF ops F l.length k listed = true → adops P v ops (fun acc' tm σ => (∀ i f, acc'.reverse[i]? = some f → F i = f) ∧ Q tm σ) k l tm σ acc → anyA P v ops F Q l.length listed tm σ
 | [], k, listed, tm, σ, acc, _, _, _, hB, h => ⟨by simpa [lexF] using hB, h.2⟩
 | o :: l, k, listed, tm, σ, acc, hl, ha, hF, hB, h => by
  have h0 : ops[k]? = some o := by simpa using (hl 0).symm
  simp only [List.length_cons, lexF, Bool.and_eq_true] at hB
  obtain ⟨⟨⟨hr, hf⟩, hff⟩, hB'⟩ := hB
  have known : ∀ (f : Foot) tm σ, adops P v ops (fun acc' tm σ => (∀ i f, acc'.reverse[i]? = some f → F i = f) ∧ Q tm σ) (k + 1) l tm σ (f :: acc) → F k = f := fun f tm σ h => by
   have h1 := gQ l (k + 1) tm σ (f :: acc) h
   obtain ⟨a, t, s, ⟨h2, _⟩, m, h3⟩ := xS _ _ _ _ _ h1
   refine h2 k f ?_
   rw [h3, List.reverse_append, List.reverse_cons, List.getElem?_append_left (by simp; omega), List.getElem?_append_right (by simp; omega)]
   simp [ha]
  have main : ∀ f r δ, YieldsA P v ops F k o r δ tm σ → F k = f → adops P v ops (fun acc' tm σ => (∀ i f, acc'.reverse[i]? = some f → F i = f) ∧ Q tm σ) (k + 1) l (tm.putO o.dst r) (σ.apply δ) (f :: acc) → anyA P v ops F Q (o :: l).length listed tm σ := fun f r δ hy hk h => by
   refine anyA_first h0 l.length listed tm σ (fun j oj hj hjk hun hno => ⟨Region.free_spec h0 hf j oj hj hjk hun hno, ?_⟩) (by simpa using hr) hy ?_
   ·have h1 := List.all_eq_true.1 hff j (List.mem_range.2 (Array.getElem?_eq_some_iff.1 hj).1)
    rw [hj, cH hjk, hun] at h1
    simp only [Bool.false_or, Bool.or_eq_true] at h1
    rcases h1 with h1 | h1
    ·obtain ⟨e, he, hb⟩ := Array.any_eq_true'.1 h1
     simp only [Bool.and_eq_true] at hb
     exact (hno e he hb.1 (Nat.eq_of_beq_eq_true hb.2)).elim
    ·exact h1
   ·exact pY l (k + 1) _ _ _ (f :: acc) (fun j => by have := hl (j + 1); simpa [Nat.add_assoc, Nat.add_comm 1 j] using this) (by simp [ha]) (fun i g hg => by
     rw [List.reverse_cons] at hg
     by_cases hi : i < acc.reverse.length
     ·rw [List.getElem?_append_left hi] at hg; exact hF i g hg
     ·rw [List.getElem?_append_right (by omega)] at hg
      have : i = k := by
       rcases Nat.lt_or_ge (i - acc.reverse.length) 1 with h' | h'
       ·simp at h' hi; omega
       ·rw [List.getElem?_eq_none (by simpa using h')] at hg; cases hg
      subst this
      simp [ha] at hg
      rw [hk, hg]) hB' h
  unfold adops at h
  rcases h with ⟨hw, ks, r, δ, h1, h2⟩ | ⟨hw, h⟩ | ⟨c, r, ks, hg, hy, h⟩
  ·have hk := known _ _ _ h2
   exact main _ r δ (Or.inl ⟨hw, ks, hk, h1⟩) hk h2
  ·have hk := known _ _ _ h
   exact main _ .un [] (Or.inr (Or.inl ⟨hw, hk, rfl, rfl⟩)) hk h
  ·have hk := known _ _ _ h
   exact main _ (.mb c r) [] (Or.inr (Or.inr ⟨c, r, ks, hg, hk, hy, rfl, rfl⟩)) hk h
theorem anyA_of_adops {Q : Tm → Store → Prop} {tm : Tm} {σ : Store} (h : adops P v ops (fun acc tm σ => lexB ops acc = true ∧ Q tm σ) 0 ops.toList tm σ []) : ∃ F, anyA P v ops F Q ops.size (Array.replicate ops.size false) tm σ := by
 obtain ⟨acc0, h1⟩ := bJ _ _ _ _ _ h
 obtain ⟨a, _, _, e, hB, _⟩ := xS _ _ _ _ _ h1
 rw [e] at hB
 refine ⟨footsOf acc0.reverse, ?_⟩
 have := pY (F := footsOf acc0.reverse) (Q := Q) ops.toList 0 (Array.replicate ops.size false) tm σ [] (by simp) rfl (by simp) (by simpa [lexB] using hB) (wZ (fun a t s ⟨h2, h3, h4⟩ => ⟨fun i f hf => by
  subst h2
  simp [footsOf, List.getD_eq_getElem?_getD, hf], h4⟩) _ _ _ _ _ h1)
 simpa using this
theorem zG {n : Nat} {C0 : Cx} {ro : Option Nat} {Q : Tm → Store → Prop} {Q' : Exit → Act → World → Prop} (hn : dstsLt n ops.toList = true) (hQ : ∀ C G tm σ a w, C0.le C → SRel n C G tm σ a w → Q tm σ → Q' .normal a w) :
  ∀ (fuel : Nat) (listed : Array Bool) (C : Cx) (G : Gh) (tm : Tm) (σ : Store) (a : Act) (w : World), C0.le C → C.ro = ro → C.Γ.N ≤ v → (∀ k i, listed.getD i true = false → G.μ k (v, i) = none) → SRel n C G tm σ a w → anyA P v ops F Q fuel listed tm σ → wpAnyIn (wideR ro) 0 P .any ops Q' fuel listed a w
 | 0, listed, C, G, tm, σ, a, w, hC, _, _, _, hs, h => ⟨h.1, hQ C G tm σ a w hC hs h.2⟩
 | fuel + 1, listed, C, G, tm, σ, a, w, hC, hro, hN, hf, hs, h => by
  refine ⟨fun h0 => hQ C G tm σ a w hC hs (h.1 h0), fun i hi => ?_⟩
  have hst := h.2 i hi
  have hun := (mem_ready.1 hi).1
  have later : ∀ (G' : Gh), (∀ k v' i', v' ≤ v → (v' = v → i' ≠ i) → G'.μ k (v', i') = G.μ k (v', i')) → ∀ k i', (listed.setIfInBounds i true).getD i' true = false → G'.μ k (v, i') = none := fun G' hG k i' hi' => by
   by_cases e : i = i'
   ·subst e
    rcases Nat.lt_or_ge i listed.size with h' | h'
    ·simp [h'] at hi'
    ·simp [Array.getElem?_eq_none h'] at hun
   ·rw [getD_set_ne true e] at hi'
    rw [hG k v i' (Nat.le_refl _) (fun _ => Ne.symm e)]
    exact hf k i' hi'
  unfold stepA at hst
  unfold wpOpIn
  cases ho : ops[i]? with
  | none =>
   rw [ho] at hst
   exact zG hn hQ fuel _ C G tm σ a w hC hro hN (later G fun _ _ _ _ _ => rfl) hs hst
  | some o =>
   rw [ho] at hst
   obtain ⟨r, δ, hy, hK⟩ := hst
   have hd := wV hn (o := o) (by simpa using Array.mem_of_getElem? ho)
   rcases hy with ⟨hw, ks, h2, h3⟩ | ⟨hw, h2, rfl, rfl⟩ | ⟨c, r0, ks, hw, h2, h3, rfl, rfl⟩
   ·simp only [zZ hw hs.tm, if_true]
    refine h3.ok (K := fun r' σ' => r' = r ∧ σ' = σ.apply δ) ⟨rfl, rfl⟩ n C G a w ro _ Q' hd hro hN (fun k => hf k i hun) hs fun C' G' tm1 σ' a' w' g0 g1 g2 g3 g4 => ?_
    obtain ⟨r', rfl, rfl, rfl⟩ := g4
    exact zG hn hQ fuel _ C' G' _ _ a' w' (hC.trans g0) (g0.ro.trans hro) (by rw [g0.N]; exact hN) (later G' g2) g3 hK
   ·simp only [zZ hw hs.tm, Bool.false_eq_true, if_false]
    exact ⟨fun _ _ => trivial, zG hn hQ fuel _ C G _ _ _ w hC hro hN (later G fun _ _ _ _ _ => rfl) ⟨by rw [Act.put_size, hs.size], by rw [Act.put_defers, hs.defers], hs.tm.put (mR G) o.dst (by rw [hs.size]; exact fun d e => (hd d e).1), hs.w, hs.fix, hs.marks, fun i Y hi => hs.gh i Y ((yD hd _).symm.trans hi)⟩ hK⟩
   ·simp only [kA hw hs.tm]
    cases c with
    | true =>
     simp only [if_true]
     refine (h3 rfl).ok (K := fun r' σ' => r' = r0 ∧ σ' = σ) ⟨rfl, rfl⟩ n C G a w ro _ Q' hd hro hN (fun k => hf k i hun) hs fun C' G' tm1 σ' a' w' g0 g1 g2 g3 g4 => ?_
     obtain ⟨r', rfl, rfl, rfl⟩ := g4
     refine zG hn hQ fuel _ C' G' _ _ a' w' (hC.trans g0) (g0.ro.trans hro) (by rw [g0.N]; exact hN) (later G' g2) ⟨g3.size, g3.defers, ?_, g3.w, g3.fix, g3.marks, fun i Y hi => g3.gh i Y ((yD hd _).trans ((yD hd _).symm.trans hi))⟩ hK
     intro t y hy
     cases hdst : o.dst with
     | none =>
      rw [hdst] at hy
      have h5 := g3.tm t y
      rw [hdst] at h5
      exact h5 hy
     | some d =>
      rw [hdst] at hy
      simp only [Tm.putO] at hy
      by_cases e : t = d
      ·subst e
       rw [Tm.put_self] at hy
       cases hy
       have hlt : t < a'.tmps.size := by rw [g3.size]; exact (hd t hdst).1
       refine Or.inr ⟨a'.tmps[t], Array.getElem?_eq_getElem hlt, ?_⟩
       have h6 := g3.tm.val (t := t) (y := r') (by rw [hdst]; exact Tm.put_self _ _ _)
       rw [Array.getD_eq_getD_getElem?, Array.getElem?_eq_getElem hlt] at h6
       rw [RepO]; exact ⟨fun _ => h6, (fun e => by cases e)⟩
      ·rw [Tm.put_ne _ _ e] at hy
       exact g3.tm t y (by rw [hdst]; exact (Tm.put_ne _ _ e).trans hy)
    | false =>
     simp only [Bool.false_eq_true, if_false]
     exact ⟨fun _ _ => trivial, zG hn hQ fuel _ C G _ _ _ w hC hro hN (later G fun _ _ _ _ _ => rfl) ⟨by rw [Act.put_size, hs.size], by rw [Act.put_defers, hs.defers], hs.tm.put (by rw [RepO]; exact ⟨(fun e => by cases e), fun _ => rfl⟩) o.dst (by rw [hs.size]; exact fun d e => (hd d e).1), hs.w, hs.fix, hs.marks, fun i Y hi => hs.gh i Y ((yD hd _).symm.trans hi)⟩ hK⟩
end
theorem awp_draw {E : Env} {n id : Nat} {l : List Oper} {Q : Exit → Tm → Store → Prop} {tm : Tm} {σ : Store} (hn : dstsLt n l = true)
  (h : ∀ v, adops E.P v l.toArray (fun acc tm σ => lexB l.toArray acc = true ∧ Q .normal tm σ) 0 l tm σ []) : awp E.P n (.region id l.toArray true) Q tm σ := fun C ro G a w hro hs => by
 obtain ⟨v, hv, hf⟩ := hs.w.free
 obtain ⟨F, hA⟩ := anyA_of_adops (by simpa using h v)
 refine wpIn_region_any E.mixed ?_
 exact zG (by simpa using hn) (fun C' G tm σ a w h0 h1 h2 => ⟨C', G, tm, σ, h0, h1, h2⟩) _ _ C G tm σ a _ (.refl C) hro hv (fun k i _ => hf k i) ⟨hs.size, hs.defers, hs.tm, hs.w.drawn _, hs.fix, hs.marks, fun i Y hi => ⟨Y.st i _ _ (hs.gh i Y hi).1 fun _ _ => rfl, (hs.gh i Y hi).2⟩⟩ hA
section
variable {P : Program} {v j : Nat} {ops : Array Oper} {K : List Foot → Tm → Store → Prop} {acc : List Foot} {rest : List Oper} {tm : Tm} {σ : Store} {dst : Option Tmp} {op : Op} {ty : TypeId} {pos : String} {af : Array Edge}
theorem adops_nil {Q : Tm → Store → Prop} (hB : lexB ops acc = true) (h : Q tm σ) : adops P v ops (fun acc tm σ => lexB ops acc = true ∧ Q tm σ) j [] tm σ acc := ⟨hB, h⟩
theorem adops_step {ks : List Nat} {r : OV} {δ : Diff} (h : YL P v j ⟨dst, op, ty, pos, af, none⟩ tm σ ks r δ) (k : adops P v ops K (j + 1) rest (tm.putO dst r) (σ.apply δ) (Foot.mk ks (wkeys δ) :: acc)) : adops P v ops K j (⟨dst, op, ty, pos, af, none⟩ :: rest) tm σ acc := by
 unfold adops
 exact Or.inl ⟨rfl, ks, r, δ, h, k⟩
theorem adops_yes {g d : Nat} {want : Bool} (hd : (ops[g]?).bind (·.dst) = some d) (ht : tm d = some (.bool want)) (h : adops P v ops K j (⟨dst, op, ty, pos, af, none⟩ :: rest) tm σ acc) :
  adops P v ops K j (⟨dst, op, ty, pos, af, some (g, want)⟩ :: rest) tm σ acc := by
 have hw : awant ops tm ⟨dst, op, ty, pos, af, some (g, want)⟩ = some true := by simp [awant, hd, ht]
 have hg : gval ops tm ⟨dst, op, ty, pos, af, some (g, want)⟩ = some true := by simp [gval, hd, ht]
 unfold adops at h ⊢
 rcases h with ⟨_, ks, r, δ, h1, h2⟩ | ⟨h0, h⟩ | ⟨c, r, ks, hc, hy, h⟩
 ·exact Or.inl ⟨hw, ks, r, δ, h1, h2⟩
 ·cases h0
 ·cases hc; exact Or.inr (Or.inr ⟨true, r, ks, hg, fun _ => hy rfl, h⟩)
theorem adops_no {g d : Nat} {want : Bool} (hd : (ops[g]?).bind (·.dst) = some d) (ht : tm d = some (.bool (!want))) (h : adops P v ops K (j + 1) rest (tm.putO dst .un) σ (⟨[], []⟩ :: acc)) :
  adops P v ops K j (⟨dst, op, ty, pos, af, some (g, want)⟩ :: rest) tm σ acc := by
 have hw : awant ops tm ⟨dst, op, ty, pos, af, some (g, want)⟩ = some false := by cases want <;> simp [awant, hd, ht]
 unfold adops
 exact Or.inr (Or.inl ⟨hw, h⟩)
theorem dguard_t {g d : Nat} {b : Bool} (hd : (ops[g]?).bind (·.dst) = some d) (ht : tm d = some (.bool b)) (h1 : b = true → adops P v ops K j (⟨dst, op, ty, pos, af, none⟩ :: rest) (tm.put d (.bool true)) σ acc)
  (h2 : b = false → adops P v ops K (j + 1) rest ((tm.put d (.bool false)).putO dst .un) σ (⟨[], []⟩ :: acc)) : adops P v ops K j (⟨dst, op, ty, pos, af, some (g, true)⟩ :: rest) tm σ acc := by
 cases b with
 | true => have := h1 rfl; rw [Tm.put_same ht] at this; exact adops_yes hd ht this
 | false => have := h2 rfl; rw [Tm.put_same ht] at this; exact adops_no hd ht this
structure DO (P : Program) (v : Nat) (ops : Array Oper) (K : List Foot → Tm → Store → Prop) (j : Nat) (l : List Oper) (tm : Tm) (σ : Store) (acc : List Foot) : Prop where
 out : adops P v ops K j l tm σ acc
theorem nS {Q : Tm → Store → Prop} (hB : lexB ops acc = true) (h : Q tm σ) : DO P v ops (fun acc tm σ => lexB ops acc = true ∧ Q tm σ) j [] tm σ acc := ⟨adops_nil hB h⟩
theorem xA {ks : List Nat} {r : OV} {δ : Diff} (h : YL P v j ⟨dst, op, ty, pos, af, none⟩ tm σ ks r δ) (k : DO P v ops K (j + 1) rest (tm.putO dst r) (σ.apply δ) (Foot.mk ks (wkeys δ) :: acc)) : DO P v ops K j (⟨dst, op, ty, pos, af, none⟩ :: rest) tm σ acc := ⟨adops_step h k.out⟩
theorem xM {g d : Nat} {b : Bool} (hd : (ops[g]?).bind (·.dst) = some d) (ht : tm d = some (.bool b)) (h1 : b = true → DO P v ops K j (⟨dst, op, ty, pos, af, none⟩ :: rest) (tm.put d (.bool true)) σ acc)
  (h2 : b = false → DO P v ops K (j + 1) rest ((tm.put d (.bool false)).putO dst .un) σ (⟨[], []⟩ :: acc)) : DO P v ops K j (⟨dst, op, ty, pos, af, some (g, true)⟩ :: rest) tm σ acc := ⟨dguard_t hd ht (fun e => (h1 e).out) (fun e => (h2 e).out)⟩
end
theorem uJ {E : Env} {n id : Nat} {l : List Oper} {Q : Exit → Tm → Store → Prop} {tm : Tm} {σ : Store} (hn : dstsLt n l = true)
  (h : ∀ v, DO E.P v l.toArray (fun acc tm σ => lexB l.toArray acc = true ∧ Q .normal tm σ) 0 l tm σ []) : awp E.P n (.region id l.toArray true) Q tm σ := awp_draw hn fun v => (h v).out
def PickK (b : Bool) (y1 y2 : Option OV) (K : OV → Prop) : Prop := (b = true → ∃ y, y1 = some y ∧ K y) ∧ (b = false → ∃ y, y2 = some y ∧ K y)
theorem pick_t {y1 y2 : Option OV} {y : OV} {K : OV → Prop} (h1 : y1 = some y) (h : K y) : PickK true y1 y2 K := ⟨fun _ => ⟨y, h1, h⟩, fun e => by cases e⟩
theorem pick_f {y1 y2 : Option OV} {y : OV} {K : OV → Prop} (h1 : y2 = some y) (h : K y) : PickK false y1 y2 K := ⟨fun e => (by cases e), fun _ => ⟨y, h1, h⟩⟩
section
variable {E : Env} {v j : Nat} {ops : Array Oper} {K : Tm → Store → Prop} {KD : List Foot → Tm → Store → Prop} {acc : List Foot} {rest : List Oper} {tm : Tm} {σ : Store} {dst : Option Tmp} {ty : TypeId} {pos : String} {af : Array Edge} {c p q : Operand} {b : Bool}
theorem S_pick_v (hc : ev tm c = some (.bool b)) (hk : PickK b (ev tm p) (ev tm q) (fun y => AO E.P v ops K (j + 1) rest (tm.putO dst y) (σ.apply []))) : AO E.P v ops K j (⟨dst, .pick c p q, ty, pos, af, none⟩ :: rest) tm σ := by
 cases b with
 | true => obtain ⟨y, h1, h2⟩ := hk.1 rfl; exact uQ (qB hc h1) h2
 | false => obtain ⟨y, h1, h2⟩ := hk.2 rfl; exact uQ (qC hc h1) h2
theorem D_pick_v (hc : ev tm c = some (.bool b)) (hk : PickK b (ev tm p) (ev tm q) (fun y => DO E.P v ops KD (j + 1) rest (tm.putO dst y) (σ.apply []) (Foot.mk [] (wkeys []) :: acc))) : DO E.P v ops KD j (⟨dst, .pick c p q, ty, pos, af, none⟩ :: rest) tm σ acc := by
 cases b with
 | true => obtain ⟨y, h1, h2⟩ := hk.1 rfl; exact xA (qB hc h1) h2
 | false => obtain ⟨y, h1, h2⟩ := hk.2 rfl; exact xA (qC hc h1) h2
end
end
section
attribute [local semireducible] NextOk
def OV.isMb : OV → Bool
 | .mb _ _ => true
 | _ => false
inductive EvM (tm : Tm) (x : Operand) (y : OV) : Prop where
 | mb (c : Bool) (h : ev tm x = some (.mb c y)) (hc : c = true) : EvM tm x y
 | plain (h : ev tm x = some y) (hm : y.isMb = false) : EvM tm x y
def strip (tm : Tm) : Tm := fun t => match tm t with
 | some (.mb c y) => bif c then some y else none
 | y => y
theorem EvM.strip {tm : Tm} {x : Operand} {y : OV} (h : EvM tm x y) (hx : ∀ t, x = .tmp t → True) : ev (strip tm) x = some y ∨ ∃ v, x = .const v ∧ ev tm x = some y := by
 cases h with
 | mb c h hc =>
  cases x with
  | tmp t => left; simp only [ev] at h; simp [ev, Go.Proofs.YtjogffchdejabaaGreatDoor.strip, h, hc]
  | const v =>
   simp only [ev] at h
   unfold ofConst at h
   split at h
   ·split at h <;> cases h
   ·split at h <;> cases h
   ·cases h
  | func f => simp [ev] at h
  | global g => cases h
 | plain h hm =>
  cases x with
  | tmp t =>
   left
   simp only [ev] at h
   simp only [ev, Go.Proofs.YtjogffchdejabaaGreatDoor.strip, h]
   cases y <;> first | rfl | simp [OV.isMb] at hm
  | const v => exact Or.inr ⟨v, rfl, h⟩
  | func f => left; exact h
  | global g => cases h
theorem EvM.st {tm : Tm} {x : Operand} {y : OV} (h : EvM tm x y) : ev (Go.Proofs.YtjogffchdejabaaGreatDoor.strip tm) x = some y := by
 rcases h.strip (fun _ _ => trivial) with h | ⟨v, rfl, h⟩
 ·exact h
 ·exact h
inductive EvsM (tm : Tm) : List Operand → List OV → Prop where
 | nil : EvsM tm [] []
 | cons {x : Operand} {y : OV} {xs : List Operand} {ys : List OV} (h : EvM tm x y) (hs : EvsM tm xs ys) : EvsM tm (x :: xs) (y :: ys)
theorem EvsM.st {tm : Tm} {xs : List Operand} {ys : List OV} (h : EvsM tm xs ys) : evs (strip tm) xs = some ys := by
 induction h with
 | nil => rfl
 | cons h hs ih => rw [evs, h.st, ih]
theorem YL.strip {P : Program} {v j : Nat} {o : Oper} {tm : Tm} {σ : Store} {ks : List Nat} {r : OV} {δ : Diff} (h : YL P v j o (strip tm) σ ks r δ) : YL P v j o tm σ ks r δ := fun σ' hσ Γ G ρ w h1 h2 h3 h4 => h σ' hσ Γ G ρ w h1 h2 (fun x hx y hy => by
 cases x with
 | tmp t =>
  simp only [ev, Go.Proofs.YtjogffchdejabaaGreatDoor.strip] at hy
  split at hy
  ·rename_i c y' e
   cases c with
   | false => cases hy
   | true =>
    cases hy
    have := h3 (.tmp t) hx _ e
    rw [RepO] at this
    exact this.1 rfl
  ·exact h3 (.tmp t) hx y hy
 | const v => exact h3 _ hx y hy
 | func f => exact h3 _ hx y hy
 | global g => exact h3 _ hx y hy) h4
inductive EvB (tm : Tm) (x : Operand) (b : Bool) (p : Prop) : Prop where
 | mb (c : Bool) (h : ev tm x = some (.mb c (.bool b))) (hc : p → c = true) : EvB tm x b p
 | plain (h : ev tm x = some (.bool b)) : EvB tm x b p
theorem EvB.rep {tm : Tm} {x : Operand} {b : Bool} {p : Prop} {G : Gh} {v : Value} (h : EvB tm x b p) (hp : p) (hr : ∀ y, ev tm x = some y → RepO G y v) : v = .bool b := by
 cases h with
 | plain h => exact vA (hr _ h)
 | mb c h hc => have := hr _ h; rw [RepO] at this; exact vA (this.1 (hc hp))
section
variable {P : Program} {v j : Nat} {tm : Tm} {σ : Store} {dst : Option Tmp} {ty : TypeId} {pos : String} {af : Array Edge} {gd : Option (Nat × Bool)} {c p q : Operand} {b x z : Bool}
theorem oB (hc : EvM tm c (.bool b)) (hp : EvB tm p x (b = true)) (hq : EvB tm q z (b = false)) : YL P v j ⟨dst, .pick c p q, ty, pos, af, gd⟩ tm σ [] (.bool (bif b then x else z)) [] := fun σ _ Γ G ρ w _ _ hρ hw => by
 have h1 : ρ c = .bool b := by
  cases hc with
  | plain h => exact vA (hρ c (by simp [Op.operands]) _ h)
  | mb c' h hc' => have := hρ c (by simp [Op.operands]) _ h; rw [RepO] at this; exact vA (this.1 hc')
 have e : (execOp ρ ⟨dst, .pick c p q, ty, pos, af, gd⟩).run P w = .ok (.value (.bool (bif b then x else z))) w := by
  simp only [execOp, h1, asBool, Sem.run_bind, Sem.run_pure, Result.andThen_ok]
  cases b with
  | true => rw [if_pos rfl, hp.rep rfl (hρ p (by simp [Op.operands]))]; rfl
  | false => rw [if_neg (by simp), hq.rep rfl (hρ q (by simp [Op.operands]))]; rfl
 rw [e]
 exact Leaves.still (wE rfl) hw
theorem gS (hc : EvM tm c (.bool b)) (hp : ev tm p = some (.bool true)) (hq : EvB tm q z (b = false)) : YL P v j ⟨dst, .pick c p q, ty, pos, af, gd⟩ tm σ [] (.bool (b || z)) [] := by
 have := oB (P := P) (v := v) (j := j) (σ := σ) (dst := dst) (ty := ty) (pos := pos) (af := af) (gd := gd) hc (.plain hp) hq
 cases b <;> exact this
theorem eU (hc : EvM tm c (.bool b)) (hp : EvB tm p x (b = true)) (hq : ev tm q = some (.bool false)) : YL P v j ⟨dst, .pick c p q, ty, pos, af, gd⟩ tm σ [] (.bool (b && x)) [] := by
 have := oB (P := P) (v := v) (j := j) (σ := σ) (dst := dst) (ty := ty) (pos := pos) (af := af) (gd := gd) hc hp (.plain hq)
 cases b <;> exact this
end
section
variable {P : Program} {v j : Nat} {ops : Array Oper} {K : Tm → Store → Prop} {KD : List Foot → Tm → Store → Prop} {acc : List Foot} {rest : List Oper} {tm : Tm} {σ : Store} {dst : Option Tmp} {ty : TypeId} {pos : String} {af : Array Edge} {c p q : Operand} {b x z : Bool}
theorem S_pick_or (hc : EvM tm c (.bool b)) (hp : ev tm p = some (.bool true)) (hq : EvB tm q z (b = false)) (hk : AO P v ops K (j + 1) rest (tm.putO dst (.bool (b || z))) (σ.apply [])) : AO P v ops K j (⟨dst, .pick c p q, ty, pos, af, none⟩ :: rest) tm σ := uQ (gS hc hp hq) hk
theorem S_pick_and (hc : EvM tm c (.bool b)) (hp : EvB tm p x (b = true)) (hq : ev tm q = some (.bool false)) (hk : AO P v ops K (j + 1) rest (tm.putO dst (.bool (b && x))) (σ.apply [])) : AO P v ops K j (⟨dst, .pick c p q, ty, pos, af, none⟩ :: rest) tm σ := uQ (eU hc hp hq) hk
end
theorem band {a b : Bool} (h : (a && b) = true) : a = true ∧ b = true := by simpa using h
theorem wC {a b : Bool} (h : a = true) (h' : b = true) : (a && b) = true := by simp [h, h']
theorem wB {b : Bool} (h : b = false) : (!b) = true := by simp [h]
section
variable {P : Program} {v j : Nat} {ops : Array Oper} {K : Tm → Store → Prop} {KD : List Foot → Tm → Store → Prop} {acc : List Foot} {rest : List Oper} {tm : Tm} {σ : Store} {dst : Option Tmp} {op : Op} {ty : TypeId} {pos : String} {af : Array Edge} {g d : Nat} {b c : Bool} {r : OV} {ks : List Nat}
theorem sV (hd : (ops[g]?).bind (·.dst) = some d) (ht : tm d = some (.bool b)) (hy : b = true → YL P v j ⟨dst, op, ty, pos, af, some (g, true)⟩ tm σ ks r []) (h : AO P v ops K (j + 1) rest (tm.putO dst (.mb b r)) σ) : AO P v ops K j (⟨dst, op, ty, pos, af, some (g, true)⟩ :: rest) tm σ :=
 ⟨gO (c := b) (by simp [gval, hd, ht]) hy h.out⟩
theorem sW (hd : (ops[g]?).bind (·.dst) = some d) (ht : tm d = some (.bool b)) (hy : (!b) = true → YL P v j ⟨dst, op, ty, pos, af, some (g, false)⟩ tm σ ks r []) (h : AO P v ops K (j + 1) rest (tm.putO dst (.mb (!b) r)) σ) : AO P v ops K j (⟨dst, op, ty, pos, af, some (g, false)⟩ :: rest) tm σ :=
 ⟨gO (c := !b) (by simp [gval, hd, ht]) hy h.out⟩
theorem zJ (hd : (ops[g]?).bind (·.dst) = some d) (ht : tm d = some (.mb c (.bool b))) (hy : (c && !b) = true → YL P v j ⟨dst, op, ty, pos, af, some (g, false)⟩ tm σ ks r []) (h : AO P v ops K (j + 1) rest (tm.putO dst (.mb (c && !b) r)) σ) : AO P v ops K j (⟨dst, op, ty, pos, af, some (g, false)⟩ :: rest) tm σ :=
 ⟨gO (c := c && !b) (by simp [gval, hd, ht]) hy h.out⟩
theorem sG (hd : (ops[g]?).bind (·.dst) = some d) (ht : tm d = some (.bool b)) (hy : b = true → YL P v j ⟨dst, op, ty, pos, af, some (g, true)⟩ tm σ ks r []) (h : DO P v ops KD (j + 1) rest (tm.putO dst (.mb b r)) σ (⟨ks, []⟩ :: acc)) : DO P v ops KD j (⟨dst, op, ty, pos, af, some (g, true)⟩ :: rest) tm σ acc :=
 ⟨by unfold adops; exact Or.inr (Or.inr ⟨b, r, ks, by simp [gval, hd, ht], hy, h.out⟩)⟩
theorem sH (hd : (ops[g]?).bind (·.dst) = some d) (ht : tm d = some (.bool b)) (hy : (!b) = true → YL P v j ⟨dst, op, ty, pos, af, some (g, false)⟩ tm σ ks r []) (h : DO P v ops KD (j + 1) rest (tm.putO dst (.mb (!b) r)) σ (⟨ks, []⟩ :: acc)) : DO P v ops KD j (⟨dst, op, ty, pos, af, some (g, false)⟩ :: rest) tm σ acc :=
 ⟨by unfold adops; exact Or.inr (Or.inr ⟨!b, r, ks, by simp [gval, hd, ht], hy, h.out⟩)⟩
end
theorem im_ftY {P : Program} {v j : Nat} {o : Oper} {tm : Tm} {σ : Store} : false = true → YL P v j o tm σ [] .un [] := fun h => by cases h
theorem im_any {b : Bool} {A : Prop} (h : b = true → A) : b = true → A := h
section
variable {A : Prop} {a b : Bool}
theorem wT (h : a = true → b = true → A) : (a && b) = true → A := fun e => h (band e).1 (band e).2
theorem zS (h : a = false → b = false → A) : (a || b) = false → A := fun e => h (by simp at e; exact e.1) (by simp at e; exact e.2)
theorem zR (h : (a = true ∨ b = true) → A) : (a || b) = true → A := fun e => h (by simpa using e)
theorem wU (h : (a = false ∨ b = false) → A) : (a && b) = false → A := fun e => h (by cases a <;> simp_all)
end
end
end Go.Proofs.YtjogffchdejabaaGreatDoor
