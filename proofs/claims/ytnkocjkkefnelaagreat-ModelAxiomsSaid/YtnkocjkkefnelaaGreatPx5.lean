/- Parts. -/
import Derived.RangeFuncNested
import Derived.Maps.OwnSet
import Derived.Maps.OwnOps
import Derived.WideKeyEntry
import Derived.Test.YtnkocjkkefnelaaGreatPx3
set_option linter.unusedVariables false
set_option linter.unusedSimpArgs false
namespace Go.Proofs.YtnkocjkkefnelaaGreat
open Go.RowKit
section
variable {P : Program} {n : Nat} {Q Qx : Exit → Tm → Store → Prop} {tm : Tm} {σ : Store}
theorem mid {X : Type} {T : X → Tm} {S : X → Store} {I : X → Prop} (y : X) (hI : I y) (ht : (T y).le tm) (hs : (S y).le σ) : ∃ y, I y ∧ (T y).le tm ∧ (S y).le σ := ⟨y, hI, ht, hs⟩
inductive Froz (k : Nat) (τ : Stamp) (s : Nat) (rows : List (List TV)) : OV → OV → Prop where
 | same (y : OV) : Froz k τ s rows y y
 | os : Froz k τ s rows (.os k τ s rows.length) (.d (.sl s rows))
 | vw (l m : Nat) (h : l + m ≤ rows.length) : Froz k τ s rows (.vw k τ s l m) (.d (.sl s ((rows.drop l).take m)))
 | lo (i o : Nat) (row : List TV) (h : rows[i]? = some row) : Froz k τ s rows (.lo k τ s i o) (.d (.pt row o))
 | nil (q : Nat) : Froz k τ s rows (.d (.c (.slice none 0 0))) (.d (.sl q []))
theorem Froz.rep {G G' : Gh} {k s : Nat} {τ : Stamp} {rows : List (List TV)} (hle : G.le G')
  (hk : (G.μ k τ = some none ∧ rows = []) ∨ ∃ β, G.μ k τ = some (some β) ∧ ∀ i row, rows[i]? = some row → row.length = s ∧ RepC G'.M row β.b (i * s)) {y y' : OV} (h : Froz k τ s rows y y') {x : Value} (hr : RepO G y x) : RepO G' y' x := by
 cases h with
 | same => exact hr.mono hle
 | nil q =>
  have e := vZ hr
  subst e
  rw [RepO, Rep]
  exact ⟨none, 0, rfl, Nat.le_refl _, Or.inl rfl⟩
 | os =>
  simp only [RepO] at hr ⊢
  rw [Rep]
  rcases hr with ⟨β, c, g1, g2, g3, _, _⟩ | ⟨g1, g2, g3⟩
  ·refine ⟨_, c, g2, g3, ?_⟩
   rcases hk with ⟨k1, _⟩ | ⟨β', k1, k2⟩
   ·rw [k1] at g1; cases g1
   ·rw [k1] at g1; cases g1
    exact Or.inr ⟨_, 0, rfl, RepR.of_get fun i r hi => by rw [Nat.zero_add]; exact k2 i r hi⟩
  ·have : rows = [] := List.eq_nil_of_length_eq_zero g3
   subst this
   exact ⟨none, 0, g2, Nat.le_refl _, Or.inl rfl⟩
 | vw l m hlm =>
  simp only [RepO] at hr ⊢
  rw [Rep]
  obtain ⟨a, c, g1, g2, g3⟩ := hr
  have hl : ((rows.drop l).take m).length = m := by simp; omega
  refine ⟨a, c, by rw [hl]; exact g1, by rw [hl]; exact g2, ?_⟩
  rcases g3 with g3 | ⟨β, g3, g4⟩
  ·subst g3; exact Or.inl (by simp)
  ·rcases hk with ⟨k1, k2⟩ | ⟨β', k1, k2⟩
   ·subst k2; exact Or.inl (by simp)
   ·rw [k1] at g3; cases g3
    refine Or.inr ⟨_, l * s, g4, RepR.of_get fun i r hi => ?_⟩
    rw [List.getElem?_take] at hi
    split at hi
    ·rw [List.getElem?_drop] at hi
     have := k2 _ _ hi
     rw [Nat.add_mul] at this
     exact this
    ·cases hi
 | lo i o row hrow =>
  simp only [RepO] at hr ⊢
  rw [Rep]
  obtain ⟨β, g1, g2⟩ := hr
  rcases hk with ⟨k1, k2⟩ | ⟨β', k1, k2⟩
  ·rw [k1] at g1; cases g1
  ·rw [k1] at g1; cases g1
   exact ⟨_, _, g2, (k2 i row hrow).2⟩
def FrozT (k : Nat) (τ : Stamp) (s : Nat) (rows : List (List TV)) (tm tm' : Tm) : Prop := ∀ t y', tm' t = some y' → ∃ y, tm t = some y ∧ Froz k τ s rows y y'
def FrozR (k : Nat) (τ : Stamp) (s : Nat) (rows : List (List TV)) (r r' : Row) : Prop := r'.s = r.s ∧ r'.rows.length = r.rows.length ∧ ∀ (i : Nat) (row' : List OV), r'.rows[i]? = some row' → ∃ row : List OV, r.rows[i]? = some row ∧ row.length = row'.length ∧ ∀ (o : Nat) (y' : OV), row'[o]? = some y' → ∃ y : OV, row[o]? = some y ∧ Froz k τ s rows y y'
def FrozS (k : Nat) (τ : Stamp) (s : Nat) (rows : List (List TV)) (σ σ' : Store) : Prop := ∀ j τ' r', σ' j = some (τ', r') → j ≠ k ∧ ∃ r, σ j = some (τ', r) ∧ FrozR k τ s rows r r'
theorem WRel.froz {Γ : Ctx} {G : Gh} {σ σ' : Store} {w : World} {k s : Nat} {τ : Stamp} {rows : List (List TV)} (hw : WRel Γ G (σ.del k) w) (hσ : FrozS k τ s rows σ σ')
  (hr : ∀ y y' x, Froz k τ s rows y y' → RepO G y x → RepO G y' x) : WRel Γ G σ' w where
 mem := hw.mem
 own j τ' r' hj := by
  obtain ⟨hne, r, h1, h2, h3, h4⟩ := hσ j τ' r' hj
  have h1' : σ.del k j = some (τ', r) := by rw [Store.del_ne _ hne]; exact h1
  rcases hw.own j τ' r h1' with ⟨g1, g2⟩ | ⟨β, g1, ⟨cs, c1, c2, c3, c4⟩, g3, g4⟩
  ·exact Or.inl ⟨g1, List.eq_nil_of_length_eq_zero (by rw [h3, g2]; rfl)⟩
  ·refine Or.inr ⟨β, g1, ⟨cs, c1, c2, by rw [h2, h3]; exact c3, fun i row' hi => ?_⟩, g3, g4⟩
   obtain ⟨row, e1, e2, e3⟩ := h4 i row' hi
   obtain ⟨d1, d2⟩ := c4 i row e1
   refine ⟨by rw [h2, ← d1, e2], fun o y' ho => ?_⟩
   obtain ⟨y, e4, e5⟩ := e3 o y' ho
   obtain ⟨v, e6, e7⟩ := d2 o y e4
   exact ⟨v, by rw [h2]; exact e6, hr _ _ _ e5 e7⟩
 inj j j' τ1 τ2 β β' r r' hj hj' hμ hμ' e := by
  obtain ⟨n1, r1, h1, _⟩ := hσ j τ1 r hj
  obtain ⟨n2, r2, h2, _⟩ := hσ j' τ2 r' hj'
  exact hw.inj j j' τ1 τ2 β β' r1 r2 (by rw [Store.del_ne _ n1]; exact h1) (by rw [Store.del_ne _ n2]; exact h2) hμ hμ' e
 keep := hw.keep
 size := hw.size
 tape := hw.tape
 os := hw.os
 output := hw.output
 g0 := hw.g0
 new := hw.new
 bound := hw.bound
 low := hw.low
theorem SRel.freeze {C : Cx} {G : Gh} {tm' : Tm} {σ' : Store} {a : Act} {w : World} {k s : Nat} {τ : Stamp} {rows : List (List TV)} (hs : SRel n C G tm σ a w) (hk : σ k = some (τ, ⟨s, rows.map fun r => r.map .d⟩)) (ht : FrozT k τ s rows tm tm') (hσ : FrozS k τ s rows σ σ') :
  ∃ G', G.le G' ∧ G'.μ = G.μ ∧ SRel n C G' tm' σ' a w := by
 have fin : ∀ G', G.le G' → WRel C.Γ G' (σ.del k) w → ((G'.μ k τ = some none ∧ rows = []) ∨ ∃ β, G'.μ k τ = some (some β) ∧ ∀ i row, rows[i]? = some row → row.length = s ∧ RepC G'.M row β.b (i * s)) → SRel n C G' tm' σ' a w := fun G' hle hw hc => by
  have hr : ∀ y y' x, Froz k τ s rows y y' → RepO G' y x → RepO G' y' x := fun y y' x hf hx => hf.rep (Gh.le.refl G') hc hx
  refine ⟨hs.size, hs.defers, fun t y' hy => ?_, hw.froz hσ hr, hs.fix, hs.marks, fun i Y hi => ?_⟩
  ·obtain ⟨y, h1, h2⟩ := ht t y' hy
   rcases hs.tm t y h1 with ⟨i, Y, rfl⟩ | ⟨x, h3, h4⟩
   ·cases h2; exact Or.inl ⟨i, Y, rfl⟩
   ·exact Or.inr ⟨x, h3, hr _ _ _ h2 (h4.mono hle)⟩
  ·obtain ⟨y, h1, h2⟩ := ht GS _ hi
   cases h2
   exact ⟨(hs.gh i Y h1).1, (hs.gh i Y h1).2.1.trans hle, (hs.gh i Y h1).2.2⟩
 rcases hs.w.own k τ _ hk with ⟨h1, h2⟩ | ⟨β, h1, h2, h3, h4⟩
 ·exact ⟨G, Gh.le.refl G, rfl, fin G (Gh.le.refl G) (hs.w.del k) (Or.inl ⟨h1, List.map_eq_nil_iff.1 h2⟩)⟩
 ·obtain ⟨M', g1, g2, g3⟩ := hs.w.freeze hk h1
  refine ⟨⟨M', G.μ⟩, ⟨g1, fun _ _ _ e => e⟩, rfl, fin _ ⟨g1, fun _ _ _ e => e⟩ g2 (Or.inr ⟨β, h1, fun i row hi => ?_⟩)⟩
  obtain ⟨e1, e2⟩ := g3 i (row.map .d) (by simp [hi])
  refine ⟨by simpa using e1, RepC.of_get fun o t ho => ?_⟩
  obtain ⟨v, e3, e4⟩ := e2 o (.d t) (by simp [ho])
  rw [RepO] at e4
  exact ⟨v, e3, e4⟩
theorem yN {c : Code} (k : Nat) (τ : Stamp) (s : Nat) (rows : List (List TV)) (tm' : Tm) (σ' : Store) (hk : σ k = some (τ, ⟨s, rows.map fun r => r.map .d⟩)) (ht : FrozT k τ s rows tm tm') (hσ : FrozS k τ s rows σ σ') (h : awp P n c Q tm' σ') : awp P n c Q tm σ := fun C ro G a w hro hs => by
 obtain ⟨G', _, _, hs'⟩ := hs.freeze hk ht hσ
 exact h C ro G' a w hro hs'
theorem aB {k s : Nat} {τ : Stamp} {rows : List (List TV)} : FrozT k τ s rows tm (tmL []) := fun t y h => by cases h
theorem wT {k s d : Nat} {τ : Stamp} {rows : List (List TV)} {y y' : OV} {l : List (Nat × OV)} (h : tm d = some y) (hf : Froz k τ s rows y y') (hl : FrozT k τ s rows tm (tmL l)) : FrozT k τ s rows tm (tmL ((d, y') :: l)) := fun t z hz => by
 unfold tmL at hz
 cases hb : Nat.beq t d with
 | true => rw [hb] at hz; cases hz; rw [Nat.eq_of_beq_eq_true hb]; exact ⟨y, h, hf⟩
 | false => rw [hb] at hz; exact hl t z hz
theorem FrozR.same {k s : Nat} {τ : Stamp} {rows : List (List TV)} (r : Row) : FrozR k τ s rows r r := ⟨rfl, rfl, fun i row h => ⟨row, h, rfl, fun o y ho => ⟨y, ho, .same y⟩⟩⟩
theorem lZ {k s : Nat} {τ : Stamp} {rows : List (List TV)} : FrozS k τ s rows σ (stL []) := fun j τ' r h => by cases h
theorem zS {k s m : Nat} {τ : Stamp} {rows : List (List TV)} (h : m = rows.length) : Froz k τ s rows (.os k τ s m) (.d (.sl s rows)) := by subst h; exact .os
end
section
variable {E : Env} {v j : Nat} {ops : Array Oper} {K : Tm → Store → Prop} {KD : List Foot → Tm → Store → Prop} {acc : List Foot} {rest : List Oper} {tm : Tm} {σ : Store} {ty : TypeId} {pos : String} {af : Array Edge} {gd : Option (Nat × Bool)} {dst : Option Tmp}
structure Frozen (t : Nat) : Prop where
 ok : True
theorem qY {t k s m : Nat} {τ : Stamp} {rows : List (List TV)} (hm : Frozen t) (hx : tm t = some (.os k τ s m)) (hk : σ k = some (τ, ⟨s, rows.map fun r => r.map .d⟩)) (hl : m = rows.length) :
  YL E.P v j ⟨dst, .move (.tmp t), ty, pos, af, gd⟩ tm σ [k] (.d (.sl s rows)) [(k, none)] := fun σ' hσ Γ G ρ w hv hfr hρ hw => by
 have hk' : σ' k = some (τ, ⟨s, rows.map fun r => r.map .d⟩) := by rw [hσ k (by simp)]; exact hk
 have hr := hρ (.tmp t) (by simp [Op.operands]) _ hx
 have h2 : (execOp ρ ⟨dst, .move (.tmp t), ty, pos, af, gd⟩).run E.P w = .ok (.value (ρ (.tmp t))) w := by simp [execOp]
 rw [h2]
 rcases hw.own k τ _ hk' with ⟨h1, h3⟩ | ⟨β, h1, _⟩
 ·exact ⟨G, Gh.le.refl G, fun _ _ _ _ _ => rfl, (zS hl).rep (Gh.le.refl G) (Or.inl ⟨h1, List.map_eq_nil_iff.1 h3⟩) hr, hw.del k⟩
 ·obtain ⟨M', g1, g2, g3⟩ := hw.freeze hk' h1
  have hle : G.le ⟨M', G.μ⟩ := ⟨g1, fun _ _ _ e => e⟩
  refine ⟨⟨M', G.μ⟩, hle, fun _ _ _ _ _ => rfl, (zS hl).rep hle (Or.inr ⟨β, h1, fun i row hi => ?_⟩) hr, g2⟩
  obtain ⟨e1, e2⟩ := g3 i (row.map .d) (by simp [hi])
  refine ⟨by simpa using e1, RepC.of_get fun o t ho => ?_⟩
  obtain ⟨v, e3, e4⟩ := e2 o (.d t) (by simp [ho])
  rw [RepO] at e4
  exact ⟨v, e3, e4⟩
structure FzR (a : List (List OV)) (b : List (List TV)) : Prop where
 eq : a = b.map fun r => r.map .d
structure FzC (a : List OV) (b : List TV) : Prop where
 eq : a = b.map .d
theorem FzC.nil : FzC [] [] := ⟨rfl⟩
theorem FzC.cons {t : TV} {a : List OV} {b : List TV} (h : FzC a b) : FzC (.d t :: a) (t :: b) := ⟨by rw [h.eq]; rfl⟩
theorem FzC.map (b : List TV) : FzC (b.map .d) b := ⟨rfl⟩
theorem FzR.nil : FzR [] [] := ⟨rfl⟩
theorem FzR.cons {r : List OV} {t : List TV} {a : List (List OV)} {b : List (List TV)} (h1 : FzC r t) (h : FzR a b) : FzR (r :: a) (t :: b) := ⟨by rw [h1.eq, h.eq]; rfl⟩
theorem FzR.app {a a' : List (List OV)} {b b' : List (List TV)} (h : FzR a b) (h' : FzR a' b') : FzR (a ++ a') (b ++ b') := ⟨by rw [h.eq, h'.eq, List.map_append]⟩
theorem FzR.d (b : List (List TV)) : FzR (b.map fun r => r.map .d) b := ⟨rfl⟩
theorem FzR.of {α : Type} {f : α → List OV} {g : α → List TV} (h : ∀ a, f a = (g a).map .d) (l : List α) : FzR (l.map f) (l.map g) := ⟨by rw [List.map_map]; exact List.map_congr_left fun a _ => h a⟩
theorem FzR.ints (l : List Int) : FzR (l.map (cellO .i64)) (l.map cell) := FzR.of (f := cellO .i64) (g := cell) (fun _ => rfl) l
theorem S_mvfz {t k s m : Nat} {τ : Stamp} {a : List (List OV)} {rows : List (List TV)} (hm : Frozen t) (hx : tm t = some (.os k τ s m)) (hk : σ k = some (τ, ⟨s, a⟩)) (hr : FzR a rows) (hl : m = a.length)
  (hcont : AO E.P v ops K (j + 1) rest (tm.putO dst (.d (.sl s rows))) (σ.apply [(k, none)])) : AO E.P v ops K j (⟨dst, .move (.tmp t), ty, pos, af, none⟩ :: rest) tm σ := uY (qY hm hx (by rw [hk, hr.eq]) (by rw [hl, hr.eq, List.length_map])) hcont
theorem D_mvfz {t k s m : Nat} {τ : Stamp} {a : List (List OV)} {rows : List (List TV)} (hm : Frozen t) (hx : tm t = some (.os k τ s m)) (hk : σ k = some (τ, ⟨s, a⟩)) (hr : FzR a rows) (hl : m = a.length)
  (hcont : DO E.P v ops KD (j + 1) rest (tm.putO dst (.d (.sl s rows))) (σ.apply [(k, none)]) (Foot.mk [k] (wkeys [(k, none)]) :: acc)) : DO E.P v ops KD j (⟨dst, .move (.tmp t), ty, pos, af, none⟩ :: rest) tm σ acc := vU (qY hm hx (by rw [hk, hr.eq]) (by rw [hl, hr.eq, List.length_map])) hcont
end
def FnW (P : Program) (f : FuncId) (args : List OV) (σ0 : Store) (R : OV → Store → Prop) : Prop :=
 Enters P f ∧ ∀ (G : Gh) (w : World) (vs : List Value) (N : Nat), RepOL G args vs → WRel ⟨w, Blks G σ0, G, N⟩ G σ0 w →
  Calls P f vs.toArray w (fun e w' => ∃ x G' r σ', e = .returned x ∧ R r σ' ∧ G.le G' ∧ RepO G' r x ∧ WRel ⟨w, Blks G σ0, G, N⟩ G' σ' w')
theorem FnW.toR {P : Program} {f : FuncId} {args : List OV} {R : OV → Store → Prop} (h : FnW P f args Store.nil R) : FnR P f args R :=
 ⟨h.1, fun G w vs N h1 h2 => by
  have := h.2 G w vs N h1
  rw [blks_nil] at this
  exact this h2⟩
def Behind (σ σ0 σ1 σ' : Store) : Prop := ∀ k τ r, σ' k = some (τ, r) → (σ0 k = none ∧ σ k = some (τ, r)) ∨ (σ1 k = some (τ, r) ∧ ∃ r0, σ0 k = some (τ, r0))
theorem WRel.backW {Γ : Ctx} {G G' : Gh} {σ σ0 σ1 σ' : Store} {w w' : World} {N : Nat} (h : WRel Γ G σ w) (hle : σ0.le σ) (h' : WRel ⟨w, Blks G σ0, G, N⟩ G' σ1 w') (hN : Γ.N ≤ N) (hb : Behind σ σ0 σ1 σ') : WRel Γ G' σ' w' := by
 have own' : ∀ k τ r β, σ k = some (τ, r) → G'.μ k τ = some (some β) → G.μ k τ = some (some β) := fun k τ r β hk hμ => by
  rcases h.own k τ r hk with ⟨h1, h2⟩ | ⟨β0, h1, h2⟩
  ·have := h'.g0.2 _ _ _ h1; rw [hμ] at this; cases this
  ·have := h'.g0.2 _ _ _ h1; rw [hμ] at this; cases this; exact h1
 have old : ∀ k τ r, σ' k = some (τ, r) → ∃ r0, σ k = some (τ, r0) := fun k τ r hk => by
  rcases hb k τ r hk with ⟨_, h1⟩ | ⟨_, r0, h1⟩
  ·exact ⟨r, h1⟩
  ·exact ⟨r0, hle _ _ h1⟩
 have blk : ∀ b, Blks G σ0 b → Γ.w0.heap.size ≤ b ∨ Γ.S b := fun b ⟨k, τ, r, β, h1, h2, h3⟩ => by
  rcases h.own k τ r (hle _ _ h1) with ⟨g1, _⟩ | ⟨β0, g1, _, _, g2⟩
  ·rw [h2] at g1; cases g1
  ·rw [h2] at g1; cases g1; rw [← h3]; exact g2
 refine ⟨h'.mem, ?_, ?_, ?_, Nat.le_trans h.size h'.size, h'.tape.trans h.tape, h'.os.trans h.os, h'.output.trans h.output, h.g0.trans h'.g0, ?_, h'.bound, fun k v i hv => (h'.low k v i (Nat.lt_of_lt_of_le hv hN)).trans (h.low k v i hv)⟩
 ·intro k τ r hk
  rcases hb k τ r hk with ⟨h0, h1⟩ | ⟨h1, r0, h0⟩
  ·rcases h.own k τ r h1 with ⟨g1, g2⟩ | ⟨β, g1, g2, g3, g4⟩
   ·exact Or.inl ⟨h'.g0.2 _ _ _ g1, g2⟩
   ·have hn : ¬ Blks G σ0 β.b := fun ⟨k', τ', r', β', e1, e2, e3⟩ => by
     have := h.inj k' k τ' τ β' β r' r (hle _ _ e1) h1 e2 g1 e3
     subst this
     rw [h0] at e1; cases e1
    refine Or.inr ⟨β, h'.g0.2 _ _ _ g1, (g2.of_heap (h'.keep β.b g2.lt hn)).mono h'.g0, fun o => ?_, g4⟩
    cases hm : G'.M β.b o with
    | none => rfl
    | some x =>
     rcases h'.new _ _ _ hm with e | e | e
     ·have := g3 o; rw [show G.M β.b o = some x from e] at this; cases this
     ·have := g2.lt; exact (Nat.not_lt.2 e this).elim
     ·exact (hn e).elim
  ·rcases h'.own k τ r h1 with g | ⟨β, g1, g2, g3, _⟩
   ·exact Or.inl g
   ·have e1 := own' k τ r0 β (hle _ _ h0) g1
    exact Or.inr ⟨β, g1, g2, g3, blk _ ⟨k, τ, r0, β, h0, e1, rfl⟩⟩
 ·intro k k' τ τ' β β' r r' hk hk' hμ hμ' e
  obtain ⟨r0, h1⟩ := old k τ r hk
  obtain ⟨r0', h1'⟩ := old k' τ' r' hk'
  exact h.inj k k' τ τ' β β' r0 r0' h1 h1' (own' _ _ _ _ h1 hμ) (own' _ _ _ _ h1' hμ') e
 ·intro b hb' hS
  refine (h'.keep b (Nat.lt_of_lt_of_le hb' h.size) fun hB => ?_).trans (h.keep b hb' hS)
  rcases blk b hB with e | e
  ·exact Nat.not_lt.2 e hb'
  ·exact hS e
 ·intro b o x hm
  rcases h'.new b o x hm with e | e | e
  ·exact h.new b o x e
  ·exact Or.inr (Or.inl (Nat.le_trans h.size e))
  ·exact Or.inr (blk b e)
section
variable {P : Program} {v j : Nat} {tm : Tm} {σ : Store} {dst : Option Tmp} {ty : TypeId} {pos : String} {af : Array Edge} {gd : Option (Nat × Bool)} {K : OV → Store → Prop}
theorem call_coreW {x : Operand} {xs : List Operand} {tys : Array TypeId} {y : OV} {f : FuncId} {fi ca ys : List OV} {σ0 : Store} {R : OV → Store → Prop} (hx : ev tm x = some y) (hf : IsFn y f fi ca) (ha : evs tm xs = some ys) (hc : FnW P f (fi ++ ys ++ ca) σ0 R)
  {Γ : Ctx} {G : Gh} {ρ : Operand → Value} {w : World} (hρ : ∀ z ∈ (Op.call { callee := .value x, args := xs.toArray, argTypes := tys }).operands, ∀ y, ev tm z = some y → RepO G y (ρ z)) (hw : WRel Γ G σ w) (hle : σ0.le σ) :
  ∃ f' args, (execOp ρ ⟨dst, .call { callee := .value x, args := xs.toArray, argTypes := tys }, ty, pos, af, gd⟩).run P w = .ok (.enter f' args) w ∧
   Calls P f' args w (fun e w' => ∃ x G' r σ', e = .returned x ∧ R r σ' ∧ G.le G' ∧ RepO G' r x ∧ WRel ⟨w, Blks G σ0, G, v + 1⟩ G' σ' w') := by
 obtain ⟨vs, us, h1, h2, h3⟩ := hf.rep (hρ x (by simp [Op.operands, Call.operands]) y hx)
 have h4 := zT ha fun z hz => hρ z (by simp [Op.operands, Call.operands, hz])
 refine ⟨f, _, dT h1 hc.1, ?_⟩
 have h5 := hc.2 G w (vs.toList ++ xs.map ρ ++ us.toList) (v + 1) ((h2.append h4).append h3) (hw.startW hle (v + 1))
 have e : (vs.toList ++ xs.map ρ ++ us.toList).toArray = vs ++ (xs.map ρ).toArray ++ us := by simp
 rw [e] at h5
 exact h5
def outD (l1 : List (Nat × (Stamp × Row))) : Diff := l1.map fun e => (e.1, some e.2)
def keysOf (l : List (Nat × (Stamp × Row))) : List (Nat × Stamp) := l.map fun e => (e.1, e.2.1)
theorem gN : ∀ {l : List (Nat × (Stamp × Row))} {k : Nat} {x : Stamp × Row}, stL l k = some x → k ∈ l.map (·.1)
 | [], k, x, h => by cases h
 | (d, y) :: l, k, x, h => by
  unfold stL at h
  cases hb : Nat.beq k d with
  | true => rw [Nat.eq_of_beq_eq_true hb]; simp
  | false => rw [hb] at h; simp [gN (show stL l k = some x from h)]
theorem mU : ∀ {l : List (Nat × (Stamp × Row))} {k : Nat}, k ∉ l.map (·.1) → stL l k = none
 | [], k, h => rfl
 | (d, y) :: l, k, h => by
  unfold stL
  simp only [List.map_cons, List.mem_cons, not_or] at h
  rw [dF h.1]
  exact mU h.2
theorem mV (d : Nat) (y : Stamp × Row) (l : List (Nat × (Stamp × Row))) (k : Nat) : stL ((d, y) :: l) k = bif Nat.beq k d then some y else stL l k := rfl
theorem aW : ∀ (l : List (Nat × (Stamp × Row))) (σ : Store) (k : Nat), (l.map (·.1)).Nodup → (σ.apply (outD l)) k = match stL l k with | some x => some x | none => σ k
 | [], σ, k, _ => rfl
 | (d, y) :: l, σ, k, hn => by
  simp only [List.map_cons, List.nodup_cons] at hn
  have ih := aW l (σ.put d y) k hn.2
  show (Store.apply (σ.put d y) (outD l)) k = _
  rw [ih, mV]
  cases hb : Nat.beq k d with
  | true =>
   have e := Nat.eq_of_beq_eq_true hb
   subst e
   rw [mU hn.1]
   exact Store.put_self σ k y
  | false =>
   have h1 : σ.put d y k = σ k := by simp [Store.put, hb]
   rw [h1]; rfl
theorem dA : ∀ {l0 l1 : List (Nat × (Stamp × Row))}, keysOf l0 = keysOf l1 → ∀ {k : Nat} {x : Stamp × Row}, stL l1 k = some x → ∃ r0, stL l0 k = some (x.1, r0)
 | [], [], _, k, x, h => by cases h
 | [], _ :: _, e, _, _, _ => by cases e
 | _ :: _, [], e, _, _, _ => by cases e
 | (d0, y0) :: l0, (d1, y1) :: l1, e, k, x, h => by
  simp only [keysOf, List.map_cons, List.cons.injEq, Prod.mk.injEq] at e
  obtain ⟨⟨rfl, e2⟩, e3⟩ := e
  unfold stL at h ⊢
  cases hb : Nat.beq k d0 with
  | true =>
   rw [hb] at h
   cases h
   exact ⟨y0.2, by rw [← e2]; rfl⟩
  | false =>
   rw [hb] at h
   exact dA e3 h
theorem keys_none {l0 l1 : List (Nat × (Stamp × Row))} (e : keysOf l0 = keysOf l1) {k : Nat} (h : stL l1 k = none) : stL l0 k = none := by
 cases hh : stL l0 k with
 | none => rfl
 | some x =>
  obtain ⟨r0, h1⟩ := dA e.symm hh
  rw [h] at h1; cases h1
def IsW (r : OV) (σ1 : Store) : OV → Store → Prop := fun r' σ' => r' = r ∧ σ1.le σ'
theorem Y_callw {x : Operand} {xs : List Operand} {tys : Array TypeId} {y : OV} {f : FuncId} {fi ca ys : List OV} {r : OV} {l0 l1 : List (Nat × (Stamp × Row))} (hx : ev tm x = some y) (hf : IsFn y f fi ca) (ha : evs tm xs = some ys) (hc : FnW P f (fi ++ ys ++ ca) (stL l0) (IsW r (stL l1)))
  (hle : (stL l0).le σ) (hk : keysOf l0 = keysOf l1) (hn : (l1.map (·.1)).Nodup) :
  YL P v j ⟨dst, .call { callee := .value x, args := xs.toArray, argTypes := tys }, ty, pos, af, gd⟩ tm σ (l0.map (·.1)) r (outD l1) := fun σ' hσ Γ G ρ w hv _ hρ hw => by
 have hle' : (stL l0).le σ' := fun k x hx => by rw [hσ k (gN hx)]; exact hle k x hx
 obtain ⟨f', args, h1, h2⟩ := call_coreW (v := v) hx hf ha hc hρ hw hle'
 rw [h1]
 refine h2.mono fun e w' ⟨x, G', r', σ2, h3, ⟨h4, h4'⟩, h5, h6, h7⟩ => ⟨x, h3, G', h5, fun k v' i hv' _ => h7.low k v' i (Nat.lt_succ_of_le hv'), by rw [← h4]; exact h6, hw.backW hle' h7 (Nat.le_succ_of_le hv) fun k τ r hkr => ?_⟩
 rw [aW l1 σ' k hn] at hkr
 cases h8 : stL l1 k with
 | some x =>
  rw [h8] at hkr
  cases hkr
  exact Or.inr ⟨h4' _ _ h8, dA hk h8⟩
 | none =>
  rw [h8] at hkr
  exact Or.inl ⟨keys_none hk h8, hkr⟩
end
theorem fnw_core {P : Program} {f : FuncId} {fn : Func} {c : Code} {n : Nat} {args : List OV} {σ0 : Store} {Q : Exit → Tm → Store → Prop} {R : OV → Store → Prop} (hf : P.funcs[f]? = some fn) (hname : (fn.name == "runtime.NumGoroutine") = false) (hb : fn.body = some c) (hn : fn.ntmps = n) (hl : args.length ≤ n)
  (hq : ∀ e G tm σ C a w, SRel n C G tm σ a w → Q e tm σ → (e = .normal ∨ e = .ret) ∧ ∃ x r, (results fn a.tmps).run P w = .ok x w ∧ RepO G r x ∧ R r σ)
  (h : awp P n c Q (Tm.ini args) σ0) : FnW P f args σ0 R :=
 ⟨⟨fn, hf, hname, by rw [hb]; rfl⟩, fun G w vs N hv hw => jB hf hb hn hl h hv rfl hw rfl hq⟩
def Done0 (R : OV → Store → Prop) : Exit → Tm → Store → Prop
 | .normal, _, σ => R (.tu []) σ
 | .ret, _, σ => R (.tu []) σ
 | _, _, _ => False
section
variable {E : Env} {v j : Nat} {ops : Array Oper} {K : Tm → Store → Prop} {KD : List Foot → Tm → Store → Prop} {acc : List Foot} {rest : List Oper} {tm : Tm} {σ : Store} {ty : TypeId} {pos : String} {af : Array Edge} {gd : Option (Nat × Bool)} {dst : Option Tmp}
theorem S_callw {x : Operand} {xs : List Operand} {tys : Array TypeId} {y : OV} {f : FuncId} {fi ca ys : List OV} {r : OV} {l0 l1 : List (Nat × (Stamp × Row))} (hx : ev tm x = some y) (hf : IsFn y f fi ca) (ha : evs tm xs = some ys) (hc : FnW E.P f (fi ++ ys ++ ca) (stL l0) (IsW r (stL l1)))
  (hle : (stL l0).le σ) (hk : keysOf l0 = keysOf l1) (hn : (l1.map (·.1)).Nodup)
  (hcont : AO E.P v ops K (j + 1) rest (tm.putO dst r) (σ.apply (outD l1))) : AO E.P v ops K j (⟨dst, .call { callee := .value x, args := xs.toArray, argTypes := tys }, ty, pos, af, none⟩ :: rest) tm σ := uY (Y_callw hx hf ha hc hle hk hn) hcont
end
def dels (l0 : List (Nat × (Stamp × Row))) : Diff := l0.map fun e => (e.1, none)
theorem jF : ∀ (l : List (Nat × (Stamp × Row))) (σ : Store) (k : Nat), (σ.apply (dels l)) k = match stL l k with | some _ => none | none => σ k
 | [], σ, k => rfl
 | (d, y) :: l, σ, k => by
  show (Store.apply (σ.del d) (dels l)) k = _
  rw [jF l (σ.del d) k, mV]
  cases hb : Nat.beq k d with
  | true =>
   have e := Nat.eq_of_beq_eq_true hb
   subst e
   rw [Store.del_self]
   cases stL l k <;> rfl
  | false =>
   have h1 : σ.del d k = σ k := by simp [Store.del, hb]
   rw [h1]; rfl
def IsX {X : Type} (I : X → Prop) (r0 : X → OV) (l1 : X → List (Nat × (Stamp × Row))) : OV → Store → Prop := fun r σ' => ∃ x, I x ∧ r = r0 x ∧ (stL (l1 x)).le σ'
section
variable {P : Program} {v j : Nat} {tm : Tm} {σ : Store} {dst : Option Tmp} {ty : TypeId} {pos : String} {af : Array Edge} {gd : Option (Nat × Bool)} {K : OV → Store → Prop}
end
section
variable {E : Env} {v j : Nat} {ops : Array Oper} {K : Tm → Store → Prop} {KD : List Foot → Tm → Store → Prop} {acc : List Foot} {rest : List Oper} {tm : Tm} {σ : Store} {ty : TypeId} {pos : String} {af : Array Edge} {gd : Option (Nat × Bool)} {dst : Option Tmp}
end
section
variable {E : Env} {v j : Nat} {ops : Array Oper} {K : Tm → Store → Prop} {KD : List Foot → Tm → Store → Prop} {acc : List Foot} {rest : List Oper} {tm : Tm} {σ : Store} {ty : TypeId} {pos : String} {af : Array Edge} {gd : Option (Nat × Bool)} {dst : Option Tmp}
structure KeyOf (d k : Nat) : Prop where
 ok : True
theorem Y_allocK {d k : Nat} {T : TypeId} {te : TE} (hm : KeyOf d k) (hT : E.tab T = some te) : YL E.P v j ⟨some d, .alloc T, ty, pos, af, gd⟩ tm σ [] (.lo k (v, j) te.size 0 0) [(k, some ((v, j), ⟨te.size, [consts te.zero]⟩))] :=
 fun σ _ Γ G ρ w hv hf _ hw => by
 obtain ⟨z, hz, hzc⟩ := xM (E.ok T te hT) w
 obtain ⟨_, i, z', _, _, _, _, _, hlen, hone⟩ := E.ok T te hT
 have hr : (execOp ρ ⟨some d, .alloc T, ty, pos, af, gd⟩).run E.P w = .ok (.value (.pointer (some ⟨w.heap.size, 0, none⟩))) (w.alloc (.cells z.cells T)) := by
  simp only [execOp, Instr.alloc, Sem.run_bind, hz, Result.andThen_ok, newVar, newRow, run_newObj, Sem.run_pure]; rfl
 rw [hr]
 have hsz : z.cells.size = te.size := by rw [← Array.length_toList, hzc, hlen]
 refine Leaves.alloc hw hv hf z.cells T (by simp [hsz]) (RowAt.one (by rw [hzc]; exact zM hone) (by simp [consts, hlen])) ?_
 rw [RepO]
 exact ⟨_, Gh.name_self _ _ _ _, by simp⟩
theorem Y_boxK {d k : Nat} {T : TypeId} {x : Operand} {y : OV} {n : Nat} (hm : KeyOf d k) (hx : ev tm x = some y) (hw' : y.wide = true) (hn : y.cells.length = n) : YL E.P v j ⟨some d, .box T x, ty, pos, af, gd⟩ tm σ [] (.lo k (v, j) n 0 0) [(k, some ((v, j), ⟨n, [y.cells]⟩))] :=
 fun σ _ Γ G ρ w hv hf hρ hw => by
 obtain ⟨h1, h2⟩ := (hρ x (by simp [Op.operands]) _ hx).cells hw'
 have hr : (execOp ρ ⟨some d, .box T x, ty, pos, af, gd⟩).run E.P w = .ok (.value (.pointer (some ⟨w.heap.size, 0, none⟩))) (w.alloc (.cells (ρ x).cells T)) := by
  simp only [execOp, Instr.box, Sem.run_bind, Result.andThen_ok, newVar, newRow, run_newObj, Sem.run_pure]; rfl
 rw [hr]
 refine Leaves.alloc hw hv hf _ T (by have := h1.length; simp at this; simp; omega) (RowAt.one h1 hn) ?_
 rw [RepO]
 exact ⟨_, Gh.name_self _ _ _ _, by simp⟩
theorem oQ {d k : Nat} {T : TypeId} {te : TE} (hm : KeyOf d k) (hT : E.tab T = some te) (hcont : AO E.P v ops K (j + 1) rest (tm.putO (some d) (.lo k (v, j) te.size 0 0)) (σ.apply [(k, some ((v, j), ⟨te.size, [consts te.zero]⟩))])) : AO E.P v ops K j (⟨some d, .alloc T, ty, pos, af, none⟩ :: rest) tm σ := uY (Y_allocK hm hT) hcont
theorem S_boxK {d k : Nat} {T : TypeId} {x : Operand} {y : OV} {n : Nat} (hm : KeyOf d k) (hx : ev tm x = some y) (hw' : y.wide = true) (hn : y.cells.length = n) (hcont : AO E.P v ops K (j + 1) rest (tm.putO (some d) (.lo k (v, j) n 0 0)) (σ.apply [(k, some ((v, j), ⟨n, [y.cells]⟩))])) : AO E.P v ops K j (⟨some d, .box T x, ty, pos, af, none⟩ :: rest) tm σ := uY (Y_boxK hm hx hw' hn) hcont
end
theorem ld_lo {E : Env} {Γ : Ctx} {G : Gh} {σ : Store} {w : World} (hw : WRel Γ G σ w) {T : TypeId} {te : TE} {k : Nat} {τ : Stamp} {s : Nat} {rows : List (List OV)} {row : List OV} {x : Value} (hT : E.tab T = some te) (hx : RepO G (.lo k τ s 0 0) x)
  (hs : σ k = some (τ, ⟨s, rows⟩)) (hr : rows[0]? = some row) (ha : te.k.isAgg = true) (hl : te.size = row.length) : ∃ v, (do loadVar T (← asAddr x) : Sem Value).run E.P w = .ok v w ∧ RepO G (.ag row) v := by
 rw [RepO] at hx
 obtain ⟨β, hμ, h1⟩ := hx
 obtain ⟨cs, h2, h3, h4, h5⟩ := hw.blk hs hμ
 have hget : ∀ j, j < te.size → ∃ v, w.cell? ⟨β.b, 0 * s + 0 + j, none⟩ = some v ∧ ∃ t, row[0 + j]? = some t ∧ RepO G t v := fun j hj => by
  obtain ⟨v, h6, h7⟩ := (h5 0 row hr).2 (0 + j) _ (List.getElem?_eq_getElem (l := row) (i := 0 + j) (by omega))
  exact ⟨v, by simpa [World.cell?, h2, Nat.add_assoc] using h6, _, List.getElem?_eq_getElem (by omega), h7⟩
 have hv : ∀ j, j < te.size → w.cell? ((⟨β.b, 0 * s + 0, none⟩ : Addr).add j) = some ((w.cell? ⟨β.b, 0 * s + 0 + j, none⟩).getD undef) := fun j hj => by
  obtain ⟨v, h3, _⟩ := hget j hj
  rw [yI, h3]; rfl
 have hr' := run_loadCells (P := E.P) w ⟨β.b, 0 * s + 0, none⟩ te.size (fun j => (w.cell? ⟨β.b, 0 * s + 0 + j, none⟩).getD undef) hv
 refine ⟨.agg ((List.range te.size).map (fun j => (w.cell? ⟨β.b, 0 * s + 0 + j, none⟩).getD undef)).toArray, by simp only [h1, asAddr, loadVar, Sem.run_bind, Sem.run_pure, zC (E.ok T te hT), ha, Result.andThen_ok, if_true, wF (E.ok T te hT), hr'], ?_⟩
 rw [RepO]
 refine ⟨_, rfl, RepOL.of_get (by simp; omega) fun i t v h3 h4 => ?_⟩
 have hi : i < te.size := by
  rcases Nat.lt_or_ge i te.size with h | h
  ·exact h
  ·rw [List.getElem?_eq_none (by simp; omega)] at h4; cases h4
 obtain ⟨u, h5, t', h6, h7⟩ := hget i hi
 have h5' : w.cell? ⟨β.b, i, none⟩ = some u := by simpa using h5
 have e1 : v = u := by simpa [hi, h5'] using h4.symm
 rw [Nat.zero_add, h3] at h6
 cases h6
 rw [e1]; exact h7
def ResAt (E : Env) (tm : Tm) (σ : Store) : ResultVar → OV → Prop
 | .tmp t, r => tm t = some r
 | .cell t T, r => ∃ te k τ row rest, E.tab T = some te ∧ te.k.isAgg = true ∧ te.size = row.length ∧ tm t = some (.lo k τ te.size 0 0) ∧ σ k = some (τ, ⟨te.size, row :: rest⟩) ∧ r = .ag row
def ResAll (E : Env) (tm : Tm) (σ : Store) : List ResultVar → List OV → Prop
 | [], rs => rs = []
 | v :: vs, rs => ∃ r rs', rs = r :: rs' ∧ ResAt E tm σ v r ∧ ResAll E tm σ vs rs'
def packO : List OV → OV
 | [r] => r
 | rs => .tu rs
def DoneN (E : Env) (vs : List ResultVar) (R : OV → Store → Prop) : Exit → Tm → Store → Prop
 | .normal, tm, σ => ∃ rs, ResAll E tm σ vs rs ∧ R (packO rs) σ
 | .ret, tm, σ => ∃ rs, ResAll E tm σ vs rs ∧ R (packO rs) σ
 | _, _, _ => False
def resOne (tmps : Array Value) : ResultVar → Sem Value
 | .tmp t => pure (tmps.getD t undef)
 | .cell a t => do loadVar t (← asAddr (tmps.getD a undef))
theorem res_one {E : Env} {n : Nat} {C : Cx} {G : Gh} {tm : Tm} {σ : Store} {a : Act} {w : World} (hs : SRel n C G tm σ a w) {v : ResultVar} {r : OV} (h : ResAt E tm σ v r) : ∃ x, (resOne a.tmps v).run E.P w = .ok x w ∧ RepO G r x := by
 cases v with
 | tmp t =>
  exact ⟨_, by simp only [resOne, Sem.run_pure], hs.tm.val h⟩
 | cell t T =>
  obtain ⟨te, k, τ, row, rest, h1, h2, h3, h4, h5, rfl⟩ := h
  have h7 := hs.tm.val h4
  simp only [resOne]
  exact ld_lo hs.w h1 h7 h5 rfl h2 h3
theorem pK {E : Env} {n : Nat} {C : Cx} {G : Gh} {tm : Tm} {σ : Store} {a : Act} {w : World} (hs : SRel n C G tm σ a w) : ∀ {vs : List ResultVar} {rs : List OV}, ResAll E tm σ vs rs → ∃ xs, (vs.mapM (resOne a.tmps)).run E.P w = .ok xs w ∧ RepOL G rs xs
 | [], rs, h => by
  rw [ResAll] at h; subst h
  exact ⟨[], by simp, by rw [RepOL]⟩
 | v :: vs, rs, h => by
  rw [ResAll] at h
  obtain ⟨r, rs', rfl, h1, h2⟩ := h
  obtain ⟨x, h3, h4⟩ := res_one hs h1
  obtain ⟨xs, h5, h6⟩ := pK hs h2
  exact ⟨x :: xs, by simp [List.mapM_cons, h3, h5], by rw [RepOL]; exact ⟨x, xs, rfl, h4, h6⟩⟩
def resVal (xs : List Value) : Value := if h : xs.toArray.size = 1 then xs.toArray[0] else .tuple xs.toArray
theorem results_eq (fn : Func) (tmps : Array Value) : results fn tmps = (fn.results.mapM (resOne tmps)) >>= fun vs => pure (if h : vs.size = 1 then vs[0] else .tuple vs) := by
 unfold results
 refine congrArg (· >>= _) (congrArg (fun f => Array.mapM f fn.results) (funext fun x => ?_))
 cases x <;> rfl
theorem results_run {P : Program} {w w' : World} {fn : Func} {vs : List ResultVar} {xs : List Value} (hr : fn.results = vs.toArray) (tmps : Array Value) (h : (vs.mapM (resOne tmps)).run P w = .ok xs w') : (results fn tmps).run P w = .ok (resVal xs) w' := by
 have e : (fn.results.mapM (resOne tmps)).run P w = .ok xs.toArray w' := by
  rw [hr, List.mapM_toArray]
  simp [h]
 rw [results_eq]
 simp only [Sem.run_bind, e, Result.andThen_ok, Sem.run_pure]
 rfl
theorem xF {E : Env} {f : FuncId} {fn : Func} {c : Code} {n : Nat} {vs : List ResultVar} {args : List OV} {σ0 : Store} {R : OV → Store → Prop} (hf : E.P.funcs[f]? = some fn) (hname : (fn.name == "runtime.NumGoroutine") = false) (hb : fn.body = some c) (hn : fn.ntmps = n) (hl : args.length ≤ n) (hr : fn.results = vs.toArray)
  (h : awp E.P n c (DoneN E vs R) (Tm.ini args) σ0) : FnW E.P f args σ0 R := by
 refine fnw_core hf hname hb hn hl (fun e G tm σ Γ a w hs hd => ?_) h
 have key : (∃ rs, ResAll E tm σ vs rs ∧ R (packO rs) σ) → ∃ x r, (results fn a.tmps).run E.P w = .ok x w ∧ RepO G r x ∧ R r σ := fun ⟨rs, h1, h2⟩ => by
  obtain ⟨xs, h3, h4⟩ := pK hs h1
  refine ⟨resVal xs, packO rs, results_run hr _ h3, ?_, h2⟩
  ·cases rs with
   | nil => rw [RepOL] at h4; subst h4; simp only [packO]; rw [RepO]; exact ⟨#[], rfl, by rw [RepOL]⟩
   | cons r rs =>
    rw [RepOL] at h4
    obtain ⟨x, xs', rfl, h5, h6⟩ := h4
    cases rs with
    | nil => rw [RepOL] at h6; subst h6; exact h5
    | cons r' rs =>
     have h7 := h6
     rw [RepOL] at h6
     obtain ⟨x', xs2, rfl, _, _⟩ := h6
     simp only [packO]
     rw [RepO]
     exact ⟨(x :: x' :: xs2).toArray, by simp [resVal], by rw [RepOL]; exact ⟨_, _, rfl, h5, h7⟩⟩
 cases e <;> first | exact hd.elim | exact ⟨by simp, key hd⟩
theorem YL.dst {P : Program} {v j : Nat} {d d' : Option Tmp} {op : Op} {ty : TypeId} {pos : String} {af : Array Edge} {gd : Option (Nat × Bool)} {tm : Tm} {σ : Store} {ks : List Nat} {r : OV} {δ : Diff} (h : YL P v j ⟨d, op, ty, pos, af, gd⟩ tm σ ks r δ) : YL P v j ⟨d', op, ty, pos, af, gd⟩ tm σ ks r δ := h
theorem Leaves.frz {Γ : Ctx} {G : Gh} {v j : Nat} {σ : Store} {x : Value} {w : World} {k s n : Nat} {a : List (List OV)} {rows : List (List TV)} (hr : FzR a rows) (hn : n = a.length)
  (h : Leaves Γ G v j (.os k (v, j) s n) (σ.put k ((v, j), ⟨s, a⟩)) x w) : Leaves Γ G v j (.d (.sl s rows)) (σ.del k) x w := by
 obtain ⟨G', h1, h2, h3, h4⟩ := h
 have hk : (σ.put k ((v, j), ⟨s, a⟩)) k = some ((v, j), ⟨s, rows.map fun r => r.map .d⟩) := by rw [Store.put_self, hr.eq]
 have hl : n = rows.length := by rw [hn, hr.eq, List.length_map]
 have hdel : ∀ {G w}, WRel Γ G ((σ.put k ((v, j), ⟨s, a⟩)).del k) w → WRel Γ G (σ.del k) w := fun h => h.forget fun i y hi => by
  by_cases e : i = k
  ·subst e; rw [Store.del_self] at hi; cases hi
  ·rw [Store.del_ne _ e] at hi ⊢; rw [Store.put_ne _ _ e]; exact hi
 rcases h4.own k _ _ hk with ⟨g1, g3⟩ | ⟨β, g1, _⟩
 ·exact ⟨G', h1, h2, (zS hl).rep (Gh.le.refl G') (Or.inl ⟨g1, List.map_eq_nil_iff.1 g3⟩) h3, hdel (h4.del k)⟩
 ·obtain ⟨M', m1, m2, m3⟩ := h4.freeze hk g1
  have hle : G'.le ⟨M', G'.μ⟩ := ⟨m1, fun _ _ _ e => e⟩
  refine ⟨⟨M', G'.μ⟩, h1.trans hle, h2, (zS hl).rep hle (Or.inr ⟨β, g1, fun i row hi => ?_⟩) h3, hdel m2⟩
  obtain ⟨e1, e2⟩ := m3 i (row.map .d) (by simp [hi])
  refine ⟨by simpa using e1, RepC.of_get fun o t ho => ?_⟩
  obtain ⟨u, e3, e4⟩ := e2 o (.d t) (by simp [ho])
  rw [RepO] at e4
  exact ⟨u, e3, e4⟩
theorem YL.frz {P : Program} {v j : Nat} {o : Oper} {tm : Tm} {σ : Store} {ks : List Nat} {k s n : Nat} {a : List (List OV)} {rows : List (List TV)} (hr : FzR a rows) (hn : n = a.length)
  (h : YL P v j o tm σ ks (.os k (v, j) s n) [(k, some ((v, j), ⟨s, a⟩))]) : YL P v j o tm σ ks (.d (.sl s rows)) [(k, none)] := fun σ' hσ Γ G ρ w h1 h2 h3 h4 => by
 have := h σ' hσ Γ G ρ w h1 h2 h3 h4
 generalize (execOp ρ o).run P w = z at *
 cases z with
 | ok nx w =>
  cases nx <;> simp only [NextOk] at this ⊢
  case value x => exact Leaves.frz hr hn this
  case skip => exact Leaves.frz hr hn this
  case enter f args => exact this.mono fun e w' ⟨x, g1, g2⟩ => ⟨x, g1, Leaves.frz hr hn g2⟩
 | halt x w => simp only [NextOk] at this
section
variable {E : Env} {v j : Nat} {ops : Array Oper} {K : Tm → Store → Prop} {KD : List Foot → Tm → Store → Prop} {acc : List Foot} {rest : List Oper} {tm : Tm} {σ : Store} {ty : TypeId} {pos : String} {af : Array Edge}
theorem cW {d : Nat} {rowsF : List (List TV)} {T : TypeId} {n : Nat} {parts : List (Nat × Operand)} {te ee : TE} {e : TypeId} {ys : List (Nat × OV)} {cs : List OV} (hmF : Frozen d) (hT : E.tab T = some te) (hk : te.k = .slice e) (hE : E.tab e = some ee) (hpos : 0 < ee.size) (hn : n * ee.size ≤ 16777216) (hn' : n ≤ maxLen) (hp : evParts tm parts = some ys) (hc : fillO (fun i => some (i * ee.size, ee.size)) ((List.replicate n (consts ee.zero)).flatten) ys = some cs) (hrF : FzR (chop ee.size n cs) rowsF) (hnF : n = (chop ee.size n cs).length) (hcont : AO E.P v ops K (j + 1) rest (tm.putO (some d) (.d (.sl ee.size rowsF))) (σ.apply [(d, none)])) : AO E.P v ops K j (⟨some d, .buildSlice T n parts.toArray, ty, pos, af, none⟩ :: rest) tm σ := uY (YL.frz hrF hnF (zB hT hk hE hpos hn hn' hp hc)) hcont
theorem D_buildSliceF {d : Nat} {rowsF : List (List TV)} {T : TypeId} {n : Nat} {parts : List (Nat × Operand)} {te ee : TE} {e : TypeId} {ys : List (Nat × OV)} {cs : List OV} (hmF : Frozen d) (hT : E.tab T = some te) (hk : te.k = .slice e) (hE : E.tab e = some ee) (hpos : 0 < ee.size) (hn : n * ee.size ≤ 16777216) (hn' : n ≤ maxLen) (hp : evParts tm parts = some ys) (hc : fillO (fun i => some (i * ee.size, ee.size)) ((List.replicate n (consts ee.zero)).flatten) ys = some cs) (hrF : FzR (chop ee.size n cs) rowsF) (hnF : n = (chop ee.size n cs).length) (hcont : DO E.P v ops KD (j + 1) rest (tm.putO (some d) (.d (.sl ee.size rowsF))) (σ.apply [(d, none)]) (Foot.mk [] (wkeys [(d, none)]) :: acc)) : DO E.P v ops KD j (⟨some d, .buildSlice T n parts.toArray, ty, pos, af, none⟩ :: rest) tm σ acc := vU (YL.frz hrF hnF (zB hT hk hE hpos hn hn' hp hc)) hcont
theorem S_appendK {d kk : Nat} {T e : TypeId} {te ee : TE} {x z : Operand} {s k : Nat} {y1 y2 : OV} {ks1 ks2 : List Nat} {rows1 rows2 : List (List OV)} (hmk : KeyOf d kk) (hT : E.tab T = some te) (hk : te.k = .slice e) (hE : E.tab e = some ee) (hs : ee.size = s) (hpos : 0 < s) (hx : ev tm x = some y1) (hz : ev tm z = some y2) (h1 : Dst σ s kk y1 ks1 k rows1) (h2 : Src σ s y2 ks2 rows2) (hlf : ∀ r ∈ rows2, ∀ y ∈ r, y.leaf = true) (hb : (rows1.length + rows2.length) * ee.bytes ≤ 140737488355328) (hm : rows1.length + rows2.length ≤ maxLen) (hcont : AO E.P v ops K (j + 1) rest (tm.putO (some d) (.os k (v, j) s (rows1.length + rows2.length))) (σ.apply [(k, some ((v, j), ⟨s, rows1 ++ rows2⟩))])) : AO E.P v ops K j (⟨some d, .call { callee := .builtin .append, args := #[x, z], argTypes := #[T, T] }, ty, pos, af, none⟩ :: rest) tm σ := uY (YL.dst (eW (d := kk) hT hk hE hs hpos hx hz h1 h2 hlf hb hm)) hcont
theorem D_appendF {d : Nat} {rowsF : List (List TV)} {T e : TypeId} {te ee : TE} {x z : Operand} {s k : Nat} {y1 y2 : OV} {ks1 ks2 : List Nat} {rows1 rows2 : List (List OV)} (hmF : Frozen d) (hT : E.tab T = some te) (hk : te.k = .slice e) (hE : E.tab e = some ee) (hs : ee.size = s) (hpos : 0 < s) (hx : ev tm x = some y1) (hz : ev tm z = some y2) (h1 : Dst σ s d y1 ks1 k rows1) (h2 : Src σ s y2 ks2 rows2) (hlf : ∀ r ∈ rows2, ∀ y ∈ r, y.leaf = true) (hb : (rows1.length + rows2.length) * ee.bytes ≤ 140737488355328) (hm : rows1.length + rows2.length ≤ maxLen) (hrF : FzR (rows1 ++ rows2) rowsF) (hnF : (rows1.length + rows2.length) = (rows1 ++ rows2).length) (hcont : DO E.P v ops KD (j + 1) rest (tm.putO (some d) (.d (.sl s rowsF))) (σ.apply [(k, none)]) (Foot.mk (ks1 ++ ks2) (wkeys [(k, none)]) :: acc)) : DO E.P v ops KD j (⟨some d, .call { callee := .builtin .append, args := #[x, z], argTypes := #[T, T] }, ty, pos, af, none⟩ :: rest) tm σ acc := vU (YL.frz hrF hnF (eW hT hk hE hs hpos hx hz h1 h2 hlf hb hm)) hcont
theorem mI {d : Nat} {rowsF : List (List TV)} {x : Operand} {xs : List Operand} {tys : Array TypeId} {y : OV} {f : FuncId} {fi ca ys : List OV} {s : Nat} {rows : List (List OV)} (hmF : Frozen d) (hx : ev tm x = some y) (hf : IsFn y f fi ca) (ha : evs tm xs = some ys) (hc : Own E.P f (fi ++ ys ++ ca) s rows) (hrF : FzR (rows) rowsF) (hnF : rows.length = (rows).length) (hcont : AO E.P v ops K (j + 1) rest (tm.putO (some d) (.d (.sl s rowsF))) (σ.apply [(d, none)])) : AO E.P v ops K j (⟨some d, .call { callee := .value x, args := xs.toArray, argTypes := tys }, ty, pos, af, none⟩ :: rest) tm σ := uY (YL.frz hrF hnF (qV hx hf ha hc)) hcont
theorem mK {d : Nat} {rowsF : List (List TV)} {x : Operand} {xs : List Operand} {tys : Array TypeId} {y : OV} {f : FuncId} {fi ca ys : List OV} {s : Nat} {rows : List (List OV)} (hmF : Frozen d) (hx : ev tm x = some y) (hf : IsFn y f fi ca) (ha : evs tm xs = some ys) (hc : Own E.P f (fi ++ ys ++ ca) s rows) (hrF : FzR (rows) rowsF) (hnF : rows.length = (rows).length) (hcont : DO E.P v ops KD (j + 1) rest (tm.putO (some d) (.d (.sl s rowsF))) (σ.apply [(d, none)]) (Foot.mk [] (wkeys [(d, none)]) :: acc)) : DO E.P v ops KD j (⟨some d, .call { callee := .value x, args := xs.toArray, argTypes := tys }, ty, pos, af, none⟩ :: rest) tm σ acc := vU (YL.frz hrF hnF (qV hx hf ha hc)) hcont
structure Keep (d : Nat) : Prop where
 ok : True
end
structure FzT (y : OV) (t : TV) : Prop where
 eq : y.toTV = some t
structure FzTs (ys : List OV) (ts : List TV) : Prop where
 eq : OV.toTVs ys = some ts
theorem FzT.d (t : TV) : FzT (.d t) t := ⟨by rw [OV.toTV]⟩
theorem FzTs.nil : FzTs [] [] := ⟨by rw [OV.toTVs]⟩
theorem FzTs.cons {y : OV} {ys : List OV} {t : TV} {ts : List TV} (h : FzT y t) (h' : FzTs ys ts) : FzTs (y :: ys) (t :: ts) := ⟨by rw [OV.toTVs, h.eq, h'.eq]⟩
theorem FzT.fn {f : FuncId} {fi ca : List OV} {a b : List TV} (h : FzTs fi a) (h' : FzTs ca b) : FzT (.fn f fi ca) (.fn f a b) := ⟨by rw [OV.toTV, h.eq, h'.eq]⟩
theorem FzTs.map (ts : List TV) : FzTs (ts.map .d) ts := ⟨by
 induction ts with
 | nil => rw [List.map_nil, OV.toTVs]
 | cons t ts ih => rw [List.map_cons, OV.toTVs, ih, OV.toTV]⟩
theorem Leaves.frzB {Γ : Ctx} {G : Gh} {v j : Nat} {σ : Store} {x : Value} {w : World} {k n : Nat} {cs : List OV} {row : List TV} (hc : FzTs cs row)
  (h : Leaves Γ G v j (.lo k (v, j) n 0 0) (σ.put k ((v, j), ⟨n, [cs]⟩)) x w) : Leaves Γ G v j (.d (.pt row 0)) (σ.del k) x w := by
 obtain ⟨G', h1, h2, h3, h4⟩ := h
 have hk : (σ.put k ((v, j), ⟨n, [cs]⟩)) k = some ((v, j), ⟨n, [cs]⟩) := Store.put_self _ _ _
 have hdel : ∀ {G w}, WRel Γ G ((σ.put k ((v, j), ⟨n, [cs]⟩)).del k) w → WRel Γ G (σ.del k) w := fun h => h.forget fun i y hi => by
  by_cases e : i = k
  ·subst e; rw [Store.del_self] at hi; cases hi
  ·rw [Store.del_ne _ e] at hi ⊢; rw [Store.put_ne _ _ e]; exact hi
 rw [RepO] at h3
 obtain ⟨β, g1, g2⟩ := h3
 obtain ⟨M', m1, m2, m3⟩ := h4.freeze hk g1
 have hle : G'.le ⟨M', G'.μ⟩ := ⟨m1, fun _ _ _ e => e⟩
 refine ⟨⟨M', G'.μ⟩, h1.trans hle, h2, ?_, hdel m2⟩
 rw [RepO, Rep]
 refine ⟨_, _, g2, RepC.of_get fun o t ho => ?_⟩
 obtain ⟨y, e1, e2⟩ := OV.toTVs_get hc.eq ho
 obtain ⟨u, e3, e4⟩ := (m3 0 cs rfl).2 o y e1
 exact ⟨u, e3, OV.toTV_rep y t u e2 e4⟩
theorem YL.frzB {P : Program} {v j : Nat} {o : Oper} {tm : Tm} {σ : Store} {ks : List Nat} {k n : Nat} {cs : List OV} {row : List TV} (hc : FzTs cs row)
  (h : YL P v j o tm σ ks (.lo k (v, j) n 0 0) [(k, some ((v, j), ⟨n, [cs]⟩))]) : YL P v j o tm σ ks (.d (.pt row 0)) [(k, none)] := fun σ' hσ Γ G ρ w h1 h2 h3 h4 => by
 have := h σ' hσ Γ G ρ w h1 h2 h3 h4
 generalize (execOp ρ o).run P w = z at *
 cases z with
 | ok nx w =>
  cases nx <;> simp only [NextOk] at this ⊢
  case value x => exact Leaves.frzB hc this
  case skip => exact Leaves.frzB hc this
  case enter f args => exact this.mono fun e w' ⟨x, g1, g2⟩ => ⟨x, g1, Leaves.frzB hc g2⟩
 | halt x w => simp only [NextOk] at this
theorem SRel.freezeB {n : Nat} {C : Cx} {G : Gh} {tm tm' : Tm} {σ σ' : Store} {a : Act} {w : World} {k s : Nat} {τ : Stamp} {cs : List OV} {row : List TV} (hs : SRel n C G tm σ a w) (hk : σ k = some (τ, ⟨s, [cs]⟩)) (hc : FzTs cs row) (ht : FrozT k τ s [row] tm tm') (hσ : FrozS k τ s [row] σ σ') :
  ∃ G', G.le G' ∧ G'.μ = G.μ ∧ SRel n C G' tm' σ' a w := by
 rcases hs.w.own k τ _ hk with ⟨h1, h2⟩ | ⟨β, h1, h2, h3, h4⟩
 ·cases h2
 obtain ⟨M', g1, g2, g3⟩ := hs.w.freeze hk h1
 have hle : G.le ⟨M', G.μ⟩ := ⟨g1, fun _ _ _ e => e⟩
 have hcc : (G.μ k τ = some none ∧ [row] = []) ∨ ∃ β, G.μ k τ = some (some β) ∧ ∀ i row', [row][i]? = some row' → row'.length = s ∧ RepC M' row' β.b (i * s) := by
  refine Or.inr ⟨β, h1, fun i row' hi => ?_⟩
  cases i with
  | succ i => simp at hi
  | zero =>
   simp at hi
   subst hi
   obtain ⟨e1, e2⟩ := g3 0 cs rfl
   refine ⟨by rw [OV.toTVs_length hc.eq]; exact e1, RepC.of_get fun o t ho => ?_⟩
   obtain ⟨y, e3, e4⟩ := OV.toTVs_get hc.eq ho
   obtain ⟨u, e5, e6⟩ := e2 o y e3
   exact ⟨u, e5, OV.toTV_rep y t u e4 e6⟩
 have hr : ∀ y y' x, Froz k τ s [row] y y' → RepO ⟨M', G.μ⟩ y x → RepO ⟨M', G.μ⟩ y' x := fun y y' x hf hx => hf.rep (Gh.le.refl _) hcc hx
 refine ⟨⟨M', G.μ⟩, hle, rfl, hs.size, hs.defers, fun t y' hy => ?_, g2.froz hσ hr, hs.fix, hs.marks, fun i Y hi => ?_⟩
 ·obtain ⟨y, e1, e2⟩ := ht t y' hy
  rcases hs.tm t y e1 with ⟨i, Y, rfl⟩ | ⟨x, e3, e4⟩
  ·cases e2; exact Or.inl ⟨i, Y, rfl⟩
  ·exact Or.inr ⟨x, e3, hr _ _ _ e2 (e4.mono hle)⟩
 ·obtain ⟨y, e1, e2⟩ := ht GS _ hi
  cases e2
  exact ⟨(hs.gh i Y e1).1, (hs.gh i Y e1).2.1.trans hle, (hs.gh i Y e1).2.2⟩
theorem OpT.frzB {P : Program} {v j : Nat} {o : Oper} {tm : Tm} {σ : Store} {K1 K : Tm → Store → Prop} (h : OpT P v j o tm σ K1) (hk : ∀ tm1 σ1, K1 tm1 σ1 → ∃ k τ s cs row tm2 σ2, σ1 k = some (τ, ⟨s, [cs]⟩) ∧ FzTs cs row ∧ FrozT k τ s [row] tm1 tm2 ∧ FrozS k τ s [row] σ1 σ2 ∧ K tm2 σ2) : OpT P v j o tm σ K := fun n C G a w ro next Q hd hro hN hfr hs hn =>
 h n C G a w ro next Q hd hro hN hfr hs fun C' G' tm1 σ1 a' w' h0 h1 h2 h3 h4 => by
  obtain ⟨k, τ, s, cs, row, tm2, σ2, e1, e2, e3, e4, e5⟩ := hk _ _ h4
  obtain ⟨G2, g1, g2, g3⟩ := h3.freezeB e1 e2 e3 e4
  exact hn C' G2 tm2 σ2 a' w' h0 (h1.trans g1) (fun k v' i a b => by rw [g2]; exact h2 k v' i a b) g3 e5
theorem setAt_all {row ys : List OV} (h : ys.length = row.length) : setAt row 0 ys = ys := by simp [setAt, h]
theorem run_equalF {P : Program} {T : TypeId} {a b c} (h : P.underlying T = some (.func a b c)) (f : Fn) (vs us : Array Value) (w : World) : (Op.equal T (.func f vs us) .nilFunc).run P w = .ok false w := by
 show Sem.run P (Op.equalIn (9999 + 1) T _ _) w = _
 unfold Op.equalIn
 simp only [Sem.run_bind, run_underlying h, Result.andThen_ok, Sem.run_pure]
theorem run_equalN {P : Program} {T : TypeId} {a b c} (h : P.underlying T = some (.func a b c)) (w : World) : (Op.equal T .nilFunc .nilFunc).run P w = .ok true w := by
 show Sem.run P (Op.equalIn (9999 + 1) T _ _) w = _
 unfold Op.equalIn
 simp only [Sem.run_bind, run_underlying h, Result.andThen_ok, Sem.run_pure]
section
variable {E : Env} {v j : Nat} {tm : Tm} {σ : Store} {ty : TypeId} {pos : String} {af : Array Edge} {gd : Option (Nat × Bool)} {dst : Option Tmp}
theorem Y_neqF {T T' : TypeId} {x y : Operand} {p : OV} {f : FuncId} {fi ca : List OV} {te : TE} {a b c} (hT : E.tab T = some te) (hk : te.k = .sc (.func a b c)) (hx : ev tm x = some p) (hp : IsFn p f fi ca) (hy : ev tm y = some (.d (.c .nilFunc))) :
  YL E.P v j ⟨dst, .binOp .neq T x y T', ty, pos, af, gd⟩ tm σ [] (.bool true) [] := jL hx hy (fun M u w' w hu hv => by
 have h := (E.ok T te hT).1
 rw [hk] at h
 obtain ⟨vs, us, rfl⟩ : ∃ vs us, u = .func (.func f) vs us := by
  cases hp with
  | fn => rw [RepO] at hu; obtain ⟨vs, us, h, _⟩ := hu; exact ⟨_, _, h⟩
  | d => rw [RepO, Rep] at hu; obtain ⟨vs, us, h, _⟩ := hu; exact ⟨_, _, h⟩
 rw [vZ hv]
 exact ⟨yT w (by simp) (by simp), by
  show Sem.run E.P (do pure (Value.bool (!(← Op.equal T (.func (.func f) vs us) .nilFunc)))) w = _
  simp [run_equalF h.1]⟩) rfl
theorem Y_neqN {T T' : TypeId} {x y : Operand} {te : TE} {a b c} (hT : E.tab T = some te) (hk : te.k = .sc (.func a b c)) (hx : ev tm x = some (.d (.c .nilFunc))) (hy : ev tm y = some (.d (.c .nilFunc))) :
  YL E.P v j ⟨dst, .binOp .neq T x y T', ty, pos, af, gd⟩ tm σ [] (.bool false) [] := jL hx hy (fun M u w' w hu hv => by
 have h := (E.ok T te hT).1
 rw [hk] at h
 rw [vZ hu, vZ hv]
 exact ⟨yT w (by simp) (by simp), by
  show Sem.run E.P (do pure (Value.bool (!(← Op.equal T .nilFunc .nilFunc)))) w = _
  simp [run_equalN h.1]⟩) rfl
theorem dN {f : FuncId} {fi ca : List Operand} {fs cs : List OV} (h1 : EvsM tm fi fs) (h2 : EvsM tm ca cs) : YL E.P v j ⟨dst, .makeFunc (.func f) fi.toArray ca.toArray, ty, pos, af, gd⟩ tm σ [] (.fn f fs cs) [] := (jJ h1.st h2.st).strip
inductive EvPM (tm : Tm) : List (Nat × Operand) → List (Nat × OV) → Prop where
 | nil : EvPM tm [] []
 | cons {i : Nat} {x : Operand} {y : OV} {ps : List (Nat × Operand)} {ys : List (Nat × OV)} (h : EvM tm x y) (hs : EvPM tm ps ys) : EvPM tm ((i, x) :: ps) ((i, y) :: ys)
theorem EvPM.st {ps : List (Nat × Operand)} {ys : List (Nat × OV)} (h : EvPM tm ps ys) : evParts (Go.Proofs.YtnkocjkkefnelaaGreat.strip tm) ps = some ys := by
 induction h with
 | nil => rfl
 | cons h _ ih => simp only [evParts, h.st, ih]
theorem qP {t T : Nat} {te : TE} {k : Nat} {τ : Stamp} {row : List OV} {rest : List (List OV)} {R : OV → Store → Prop} (hT : E.tab T = some te) (ha : te.k.isAgg = true) (hs : te.size = row.length) (ht : tm t = some (.lo k τ te.size 0 0)) (hk : σ k = some (τ, ⟨te.size, row :: rest⟩)) (hR : R (.ag row) σ) : DoneN E [.cell t T] R .ret tm σ :=
 ⟨_, ⟨_, _, rfl, ⟨_, _, _, _, _, hT, ha, hs, ht, hk, rfl⟩, rfl⟩, hR⟩
theorem bC {t u : Nat} {r s : OV} {R : OV → Store → Prop} (ht : tm t = some r) (hu : tm u = some s) (hR : R (.tu [r, s]) σ) : DoneN E [.tmp t, .tmp u] R .ret tm σ :=
 ⟨_, ⟨_, _, rfl, ht, _, _, rfl, hu, rfl⟩, hR⟩
def nfix : OV → OV
 | .d (.c (.slice none 0 0)) => .d (.sl 1 [])
 | y => y
theorem nfix_rep {G : Gh} {y : OV} {x : Value} (h : RepO G y x) : RepO G (nfix y) x := by
 unfold nfix
 split
 ·have e := vZ h
  subst e
  rw [RepO, Rep]
  exact ⟨none, 0, rfl, Nat.le_refl _, Or.inl rfl⟩
 ·exact h
theorem kM {G : Gh} : ∀ {ys : List OV} {xs : List Value}, RepOL G ys xs → RepOL G (ys.map nfix) xs
 | [], xs, h => by rw [List.map_nil]; exact h
 | y :: ys, xs, h => by
  rw [RepOL] at h
  obtain ⟨x, us, rfl, h1, h2⟩ := h
  rw [List.map_cons, RepOL]
  exact ⟨x, us, rfl, nfix_rep h1, kM h2⟩
theorem YL.weakR {P : Program} {v j : Nat} {o : Oper} {tm : Tm} {σ : Store} {ks : List Nat} {r r' : OV} {δ : Diff} (h : YL P v j o tm σ ks r δ) (hw : ∀ G x, RepO G r x → RepO G r' x) : YL P v j o tm σ ks r' δ := fun σ' hσ Γ G ρ w h1 h2 h3 h4 => by
 have := h σ' hσ Γ G ρ w h1 h2 h3 h4
 have lv : ∀ x w, Leaves Γ G v j r (σ'.apply δ) x w → Leaves Γ G v j r' (σ'.apply δ) x w := fun x w ⟨G', g1, g2, g3, g4⟩ => ⟨G', g1, g2, hw _ _ g3, g4⟩
 generalize (execOp ρ o).run P w = z at *
 cases z with
 | ok nx w =>
  cases nx <;> simp only [NextOk] at this ⊢
  case value x => exact lv _ _ this
  case skip => exact lv _ _ this
  case enter f args => exact this.mono fun e w' ⟨x, g1, g2⟩ => ⟨x, g1, lv _ _ g2⟩
 | halt x w => simp only [NextOk] at this
structure NilS (d : Nat) : Prop where
 ok : True
theorem nfix_ag {G : Gh} {cs : List OV} {x : Value} (h : RepO G (.ag cs) x) : RepO G (.ag (cs.map nfix)) x := by
 rw [RepO] at h ⊢
 obtain ⟨us, h1, h2⟩ := h
 exact ⟨us, h1, kM h2⟩
theorem Y_nilF {d s : Nat} {e : TypeId} {te ee : TE} (hm : Frozen d) (hT : E.tab ty = some te) (hk : te.k = .slice e) (hE : E.tab e = some ee) (hs : ee.size = s) : YL E.P v j ⟨some d, .assign (.const (.slice none 0 0)), ty, pos, af, gd⟩ tm σ [] (.d (.sl s [])) [] := fun σ _ Γ G ρ w hv hfr hρ hw => by
 have hr := hρ (.const (.slice none 0 0)) (by simp [Op.operands]) (.d (.c (.slice none 0 0))) (by rfl)
 have h1 := vZ hr
 have h2 : (execOp ρ ⟨some d, .assign (.const (.slice none 0 0)), ty, pos, af, gd⟩).run E.P w = .ok (.value (.slice none 0 0)) w := by simp [execOp, h1]
 rw [h2]
 exact Leaves.still (by rw [RepO, Rep]; exact ⟨none, 0, rfl, Nat.le_refl _, Or.inl rfl⟩) hw
end
section
variable {E : Env} {v j : Nat} {ops : Array Oper} {K : Tm → Store → Prop} {KD : List Foot → Tm → Store → Prop} {acc : List Foot} {rest : List Oper} {tm : Tm} {σ : Store} {ty : TypeId} {pos : String} {af : Array Edge}
theorem S_boxF {d : Nat} {T : TypeId} {x : Operand} {y : OV} {n : Nat} {row : List TV} (hmF : Frozen d) (hx : ev tm x = some y) (hw' : y.wide = true) (hn : y.cells.length = n) (hr : FzTs y.cells row) (hcont : AO E.P v ops K (j + 1) rest (tm.putO (some d) (.d (.pt row 0))) (σ.apply [(d, none)])) : AO E.P v ops K j (⟨some d, .box T x, ty, pos, af, none⟩ :: rest) tm σ := uY (YL.frzB hr (rT hx hw' hn)) hcont
theorem S_storeF {d : Nat} {T : TypeId} {z : Operand} {te : TE} {τ : Stamp} {s : Nat} {row0 : List OV} {y : OV} {row : List TV} (hmF : Frozen d) (hT : E.tab T = some te) (hx : tm d = some (.lo d τ s 0 0)) (hz : ev tm z = some y) (hw' : y.wide = true) (hn : y.cells.length = te.size) (hs : σ d = some (τ, ⟨s, [row0]⟩)) (hl : row0.length = te.size) (hr : FzTs y.cells row) (hcont : AO E.P v ops K (j + 1) rest (tm.put d (.d (.pt row 0))) (σ.apply [(d, none)])) : AO E.P v ops K j (⟨none, .store T (.tmp d) z, ty, pos, af, none⟩ :: rest) tm σ :=
 rH (OpT.frzB ((mG (x := .tmp d) (i := 0) (row := row0) hT (show ev tm (.tmp d) = _ from hx) hz hw' hn hs rfl (by omega)).ok (K := fun r' σ' => r' = OV.un ∧ σ' = σ.apply [(d, some (τ, ⟨s, [row0].set 0 (setAt row0 0 y.cells)⟩))]) ⟨rfl, rfl⟩) fun tm1 σ1 ⟨r, h1, h2, h3⟩ => by
  subst h1 h2 h3
  refine ⟨d, τ, s, _, row, _, _, Store.put_self _ _ _, ?_, ?_, ?_, hcont⟩
  ·rw [setAt_all (by omega)]; exact hr
  ·intro t y' hy
   by_cases e : t = d
   ·subst e
    rw [Tm.put_self] at hy
    cases hy
    exact ⟨_, hx, .lo 0 0 row rfl⟩
   ·rw [Tm.put_ne _ _ e] at hy
    exact ⟨y', hy, .same _⟩
  ·intro i τ' r' hi
   by_cases e : i = d
   ·subst e
    have : (σ.del i) i = some (τ', r') := hi
    rw [Store.del_self] at this; cases this
   ·have h9 : (σ.del d) i = some (τ', r') := hi
    rw [Store.del_ne _ e] at h9
    exact ⟨e, r', (Store.put_ne _ _ e).trans h9, FrozR.same _⟩)
theorem oP {d : Nat} {T : TypeId} {parts : List (Nat × Operand)} {te : TE} {fs : List (Nat × TypeId)} {ys : List (Nat × OV)} {cs cs' : List OV} (hmN : NilS d) (hT : E.tab T = some te) (hk : te.k = .st fs) (hfs : (fs.all fun f => (E.tab f.2).isSome) = true) (hp : evParts tm parts = some ys) (hc : fillO (fun i => (fs[i]?).map fun f : Nat × TypeId => (f.1, sizeT E f.2)) (consts te.zero) ys = some cs) (hn : cs.map nfix = cs') (hcont : AO E.P v ops K (j + 1) rest (tm.putO (some d) (.ag cs')) (σ.apply [])) : AO E.P v ops K j (⟨some d, .build T parts.toArray, ty, pos, af, none⟩ :: rest) tm σ := uY (YL.weakR (mH (d := some d) hT hk hfs hp hc) (fun _ _ h => by subst hn; exact nfix_ag h)) hcont
theorem S_neqF {T T' : TypeId} {x y : Operand} {p : OV} {f : FuncId} {fi ca : List OV} {te : TE} {a b c} {dst : Option Tmp} (hT : E.tab T = some te) (hk : te.k = .sc (.func a b c)) (hx : ev tm x = some p) (hp : IsFn p f fi ca) (hy : ev tm y = some (.d (.c .nilFunc))) (hcont : AO E.P v ops K (j + 1) rest (tm.putO dst (.bool true)) (σ.apply [])) : AO E.P v ops K j (⟨dst, .binOp .neq T x y T', ty, pos, af, none⟩ :: rest) tm σ := uY (Y_neqF hT hk hx hp hy) hcont
theorem S_neqN {T T' : TypeId} {x y : Operand} {te : TE} {a b c} {dst : Option Tmp} (hT : E.tab T = some te) (hk : te.k = .sc (.func a b c)) (hx : ev tm x = some (.d (.c .nilFunc))) (hy : ev tm y = some (.d (.c .nilFunc))) (hcont : AO E.P v ops K (j + 1) rest (tm.putO dst (.bool false)) (σ.apply [])) : AO E.P v ops K j (⟨dst, .binOp .neq T x y T', ty, pos, af, none⟩ :: rest) tm σ := uY (Y_neqN hT hk hx hy) hcont
theorem S_nilF {d s : Nat} {e : TypeId} {te ee : TE} (hm : Frozen d) (hT : E.tab ty = some te) (hk : te.k = .slice e) (hE : E.tab e = some ee) (hs : ee.size = s) (hcont : AO E.P v ops K (j + 1) rest (tm.putO (some d) (.d (.sl s []))) (σ.apply [])) : AO E.P v ops K j (⟨some d, .assign (.const (.slice none 0 0)), ty, pos, af, none⟩ :: rest) tm σ := uY (Y_nilF hm hT hk hE hs) hcont
end
section
variable {E : Env} {v j : Nat} {ops : Array Oper} {K : Tm → Store → Prop} {KD : List Foot → Tm → Store → Prop} {acc : List Foot} {rest : List Oper} {tm : Tm} {σ : Store} {ty : TypeId} {pos : String} {af : Array Edge} {gd : Option (Nat × Bool)} {dst : Option Tmp}
theorem q34 {d : Nat} {T : TypeId} {x : Operand} {y : OV} {n : Nat} {row : List TV} (hcont : AO E.P v ops K (j + 1) rest (tm.putO (some d) (.d (.pt row 0))) (σ.apply [(d, none)])) (hmF : Frozen d := by assumption) (hx : ev tm x = some y := by exact rfl) (hw' : y.wide = true := by exact rfl) (hn : y.cells.length = n := by exact rfl) (hr : FzTs y.cells row := by (repeat (first | exact FzTs.nil | exact FzTs.map _ | apply FzTs.cons | exact FzT.d _ | apply FzT.fn | assumption))) : AO E.P v ops K j (⟨some d, .box T x, ty, pos, af, none⟩ :: rest) tm σ := S_boxF hmF hx hw' hn hr hcont
theorem q39 {d kk : Nat} {T e : TypeId} {te ee : TE} {x z : Operand} {s k : Nat} {y1 y2 : OV} {ks1 ks2 : List Nat} {rows1 rows2 : List (List OV)} (hcont : AO E.P v ops K (j + 1) rest (tm.putO (some d) (.os k (v, j) s (rows1.length + rows2.length))) (σ.apply [(k, some ((v, j), ⟨s, rows1 ++ rows2⟩))])) (hmk : KeyOf d kk := by assumption) (hT : E.tab T = some te := by exact rfl) (hk : te.k = .slice e := by exact rfl) (hE : E.tab e = some ee := by exact rfl) (hs : ee.size = s := by exact rfl) (hpos : 0 < s := by decide) (hx : ev tm x = some y1 := by exact rfl) (hz : ev tm z = some y2 := by exact rfl) (h1 : Dst σ s kk y1 ks1 k rows1 := by (first | exact .os _ _ _ _ rfl (by first | rfl | (first | omega | (simp only [List.length_append, List.length_map, List.length_take, List.length_drop, List.length_cons, List.length_nil, List.length_replicate, uV] <;> omega))) | exact .nil)) (h2 : Src σ s y2 ks2 rows2 := by (first | exact .os _ _ _ _ rfl (by first | rfl | (first | omega | (simp only [List.length_append, List.length_map, List.length_take, List.length_drop, List.length_cons, List.length_nil, List.length_replicate, uV] <;> omega))) | exact .vw _ _ _ _ _ rfl (by (first | omega | (simp only [List.length_append, List.length_map, List.length_take, List.length_drop, List.length_cons, List.length_nil, List.length_replicate, uV] <;> omega))) | exact .nil | exact .sl _)) (hlf : ∀ r ∈ rows2, ∀ y ∈ r, y.leaf = true := by (repeat (first | exact LeafR.nil | exact LeafR.cells _ _ | exact LeafR.d _ | (apply LeafR.one; exact rfl) | exact hleaf _ | refine LeafR.take _ ?_ | refine LeafR.drop _ ?_ | refine LeafR.app ?_ ?_ | (apply LeafR.lit; exact rfl) | assumption))) (hb : (rows1.length + rows2.length) * ee.bytes ≤ 140737488355328 := by (show _ * (Nat.succ _) ≤ _; (first | omega | (simp only [List.length_append, List.length_map, List.length_take, List.length_drop, List.length_cons, List.length_nil, List.length_replicate, uV] <;> omega)))) (hm : rows1.length + rows2.length ≤ maxLen := by (unfold maxLen; (first | omega | (simp only [List.length_append, List.length_map, List.length_take, List.length_drop, List.length_cons, List.length_nil, List.length_replicate, uV] <;> omega)))) : AO E.P v ops K j (⟨some d, .call { callee := .builtin .append, args := #[x, z], argTypes := #[T, T] }, ty, pos, af, none⟩ :: rest) tm σ := S_appendK hmk hT hk hE hs hpos hx hz h1 h2 hlf hb hm hcont
theorem q41 {t k s m : Nat} {τ : Stamp} {a : List (List OV)} {rows : List (List TV)} (hcont : AO E.P v ops K (j + 1) rest (tm.putO dst (.d (.sl s rows))) (σ.apply [(k, none)])) (hm : Frozen t := by assumption) (hx : tm t = some (.os k τ s m) := by exact rfl) (hk : σ k = some (τ, ⟨s, a⟩) := by exact rfl) (hr : FzR a rows := by (repeat (first | exact FzR.nil | exact FzR.ints _ | exact FzR.d _ | exact hfz _ | exact FzC.map _ | exact FzC.nil | apply FzR.take | apply FzR.drop | apply FzR.app | apply FzR.cons | apply FzC.cons | assumption))) (hl : m = a.length := by (first | rfl | (first | omega | (simp only [List.length_append, List.length_map, List.length_take, List.length_drop, List.length_cons, List.length_nil, List.length_replicate, uV] <;> omega)))) : AO E.P v ops K j (⟨dst, .move (.tmp t), ty, pos, af, none⟩ :: rest) tm σ := S_mvfz hm hx hk hr hl hcont
theorem q43 {d : Nat} {T : TypeId} {z : Operand} {te : TE} {τ : Stamp} {s : Nat} {row0 : List OV} {y : OV} {row : List TV} (hcont : AO E.P v ops K (j + 1) rest (tm.put d (.d (.pt row 0))) (σ.apply [(d, none)])) (hmF : Frozen d := by assumption) (hT : E.tab T = some te := by exact rfl) (hx : tm d = some (.lo d τ s 0 0) := by exact rfl) (hz : ev tm z = some y := by exact rfl) (hw' : y.wide = true := by exact rfl) (hn : y.cells.length = te.size := by exact rfl) (hs : σ d = some (τ, ⟨s, [row0]⟩) := by exact rfl) (hl : row0.length = te.size := by exact rfl) (hr : FzTs y.cells row := by (repeat (first | exact FzTs.nil | exact FzTs.map _ | apply FzTs.cons | exact FzT.d _ | apply FzT.fn | assumption))) : AO E.P v ops K j (⟨none, .store T (.tmp d) z, ty, pos, af, none⟩ :: rest) tm σ := S_storeF hmF hT hx hz hw' hn hs hl hr hcont
theorem q55 {d s : Nat} {e : TypeId} {te ee : TE} (hcont : AO E.P v ops K (j + 1) rest (tm.putO (some d) (.d (.sl s []))) (σ.apply [])) (hm : Frozen d := by assumption) (hT : E.tab ty = some te := by exact rfl) (hk : te.k = .slice e := by exact rfl) (hE : E.tab e = some ee := by exact rfl) (hs : ee.size = s := by exact rfl) : AO E.P v ops K j (⟨some d, .assign (.const (.slice none 0 0)), ty, pos, af, none⟩ :: rest) tm σ := S_nilF hm hT hk hE hs hcont
end
abbrev Rows := List (Nat × (Stamp × Row))
def YBlks (Y : YJ) (G : Gh) (l : Rows) (b : Nat) : Prop := Blks G (stL l) b ∨ Y.D b
def YieldW (P : Program) (Y : YJ) (k : Nat) (τ : Stamp) (i i' : Nat) (args : List OV) (l0 : Rows) (R1 : Rows → Prop) (ans : Bool) : Prop :=
 ∀ (G : Gh) (w : World) (vs : List Value) (N : Nat) (β : Blk), Y.g.le G → G.μ k τ = some (some β) → Y.J i w → RepOL G args vs → WRel ⟨w, YBlks Y G l0, G, N⟩ G (stL l0) w →
  YieldAt Fence.wide 0 P β.b vs.toArray w (fun e w' => e = .returned (.bool ans) ∧ ∃ l1, R1 l1 ∧ ∃ G' σ', (stL l1).le σ' ∧ G.le G' ∧ WRel ⟨w, YBlks Y G l0, G, N⟩ G' σ' w' ∧ Y.J i' w')
def FnY (P : Program) (f : FuncId) (args : List OV) (Y : YJ) (i i' : Nat) (l0 : Rows) (R1 : Rows → Prop) : Prop :=
 Enters P f ∧ ∀ (G : Gh) (w : World) (vs : List Value) (N : Nat), Y.g.le G → Y.J i w → RepOL G args vs → WRel ⟨w, YBlks Y G l0, G, N⟩ G (stL l0) w →
  Calls P f vs.toArray w (fun e w' => (∃ x, e = .returned x) ∧ ∃ l1, R1 l1 ∧ ∃ G' σ', (stL l1).le σ' ∧ G.le G' ∧ WRel ⟨w, YBlks Y G l0, G, N⟩ G' σ' w' ∧ Y.J i' w')
def SeqW (P : Program) (f : FuncId) (fi ca : List OV) (ys : List (List OV)) : Prop :=
 ∀ (Y : YJ) (k : Nat) (τ : Stamp) (J : Nat → Rows → Prop) (m : Nat) (st : Bool), m ≤ ys.length → (st = false → m = ys.length) → (st = true → 0 < m) →
  (∀ i l, J i l → (l.map (·.1)).Nodup) → (∀ i l, J i l → ∀ e ∈ l, 1000 ≤ e.1) →
  (∀ i l0, i < m → J i l0 → YieldW P Y k τ i (i + 1) (ys.getD i []) l0 (J (i + 1)) (!(st && i + 1 == m))) → ∀ l0, J 0 l0 → FnY P f (fi ++ [.yl k τ] ++ ca) Y 0 m l0 (J m)
theorem jD {σ σ1 : Store} {l0 l1 : Rows} (hn : (l1.map (·.1)).Nodup) (g1 : (stL l1).le σ1) {k : Nat} {τ : Stamp} {r : Row} (hr : ((σ.apply (dels l0)).apply (outD l1)) k = some (τ, r)) : ((stL l0) k = none ∧ σ k = some (τ, r)) ∨ σ1 k = some (τ, r) := by
 rw [aW l1 _ k hn] at hr
 cases h8 : stL l1 k with
 | some x => rw [h8] at hr; cases hr; exact Or.inr (g1 _ _ h8)
 | none =>
  rw [h8, jF] at hr
  cases h9 : stL l0 k with
  | some x => rw [h9] at hr; cases hr
  | none => rw [h9] at hr; exact Or.inl ⟨rfl, hr⟩
theorem aA {σ : Store} {l0 l1 : Rows} (hn : (l1.map (·.1)).Nodup) : (stL l1).le ((σ.apply (dels l0)).apply (outD l1)) := fun k x hx => by
 rw [aW l1 _ k hn, hx]
theorem mO {P : Program} {v j : Nat} {tm : Tm} {σ : Store} {n : Nat} {dst : Option Tmp} {ty : TypeId} {pos : String} {af : Array Edge} {gd : Option (Nat × Bool)} {x : Operand} {xs : List Operand} {tys : Array TypeId} {ys : List OV} {Y : YJ} {k : Nat} {τ : Stamp} {i i' : Nat} {l0 : Rows} {R1 : Rows → Prop} {ans : Bool}
  (hY : YieldW P Y k τ i i' ys l0 R1 ans) (hx : ev tm x = some (.yl k τ)) (ha : evs tm xs = some ys) (hg : tm GS = some (.gh i Y)) (hle : (stL l0).le σ) (hn : ∀ l1, R1 l1 → (l1.map (·.1)).Nodup)
  {C : Cx} {G : Gh} {a : Act} {w : World} {ro : Option Nat} {next : Act → World → Prop} {Q : Exit → Act → World → Prop} (hd : ∀ d, dst = some d → d < n ∧ d ≠ GS) (hro : C.ro = ro) (hN : C.Γ.N ≤ v) (hf : ∀ k, G.μ k (v, j) = none) (hs : SRel n C G tm σ a w)
  (hnext : ∀ l1 G' a' w', R1 l1 → G.le G' → (∀ k v' i, v' ≤ v → (v' = v → i ≠ j) → G'.μ k (v', i) = G.μ k (v', i)) → SRel n C G' ((tm.putO dst (.bool ans)).put GS (.gh i' Y)) ((σ.apply (dels l0)).apply (outD l1)) a' w' → next a' w') :
  Oper.wpIn (wideR ro) 0 P ⟨dst, .call { callee := .value x, args := xs.toArray, argTypes := tys }, ty, pos, af, gd⟩ a w next Q := by
 have h1 := aT hs.tm hx
 rw [RepO] at h1
 obtain ⟨β, hβ, hxv⟩ := h1
 have h4 := zT ha fun z _ y hy => aT hs.tm hy
 obtain ⟨hJ, hJg, hJf⟩ := hs.gh i Y hg
 have hst : WRel ⟨w, YBlks Y G l0, G, v + 1⟩ G (stL l0) w := by
  have := hs.w.startW hle (v + 1)
  exact ⟨this.mem, fun k τ r hk => (this.own k τ r hk).imp id fun ⟨β, e1, e2, e3, e4⟩ => ⟨β, e1, e2, e3, e4.imp id Or.inl⟩, this.inj, fun _ _ _ => rfl, this.size, this.tape, this.os, this.output, this.g0, fun b o v h => Or.inl h, this.bound, this.low⟩
 obtain ⟨fn, tmps, assign, body, hy, hR⟩ := hY G w (xs.map a.eval) (v + 1) β hJg hβ hJ h4 hst
 unfold Oper.wpIn
 refine ⟨fun _ _ => trivial, ?_⟩
 rw [show (wideR ro).round = ro from rfl, Oper.semAt_eq ro a.eval _ (fun c hc => by cases hc)]
 have hrun : (execOp a.eval ⟨dst, .call { callee := .value x, args := xs.toArray, argTypes := tys }, ty, pos, af, gd⟩).run P w = .ok (.round β.b fn tmps assign body) w := by
  have e : (xs.map a.eval).toArray = xs.toArray.map a.eval := by simp
  rw [e] at hy
  simp only [execOp, resolve, hxv, Deferred.ofValue, Sem.run_bind, Sem.run_pure, Result.andThen_ok, invoke]
  simpa using hy
 rw [hrun]
 simp only [Oper.uponIn]
 refine ⟨fun e => (by cases e), ?_⟩
 refine (show RoundIn (wideR ro) (0 - 1) P β.b fn tmps assign body w _ from hR.mono fun e w' ⟨he, l1, hl1, G', σ', g1, g2, g3, g4⟩ => ?_)
 subst he
 have hJn : ∀ k τ r β, σ k = some (τ, r) → G.μ k τ = some (some β) → ¬ Y.D β.b := fun k τ r β h1 h2 hb => by
  obtain ⟨o, e1, e2⟩ := Y.nc i w _ hJ hb
  obtain ⟨cs, f4, _⟩ := hs.w.blk h1 h2
  rw [e1] at f4
  cases f4; cases e2
 have hnr : ∀ b o, C.fix b = some o → ¬ YBlks Y G l0 b := fun b o hb hB => by
  rcases hB with hB | hB
  ·exact hs.fix.not_own hst hb hB
  ·exact hJf.1 b o hb hB
 refine hnext l1 G' (a.put dst (.bool ans)) w' hl1 g2 (fun k v' i hv' _ => g3.low k v' i (Nat.lt_succ_of_le hv')) ⟨by rw [Act.put_size, hs.size], by rw [Act.put_defers, hs.defers], fun t y ht => ?_, hs.w.backD hle g3 (Nat.le_succ_of_le hN) (fun k τ r hr => ?_) (fun b hb => C.dok b (hJf.2 b hb)) (fun k τ r β _ h1 h2 => hJn k τ r β h1 h2), fun b o hb => ?_, hs.marks, fun i2 Y2 hi => ?_⟩
 ·by_cases hn' : t = GS
  ·subst hn'
   rw [Tm.put_self] at ht
   exact Or.inl ⟨_, _, (Option.some.inj ht).symm⟩
  ·rw [Tm.put_ne _ _ hn'] at ht
   exact (hs.tm.mono g2).put (by rw [RepO, Rep]; exact ⟨rfl, rfl⟩) dst (by rw [hs.size]; exact fun d e => (hd d e).1) t y ht
 ·exact jD (hn l1 hl1) g1 hr
 ·obtain ⟨e1, e2⟩ := hs.fix b o hb
  exact ⟨(g3.keep b (Array.getElem?_eq_some_iff.1 e1).1 (hnr b o hb)).trans e1, e2⟩
 ·rw [Tm.put_self] at hi
  cases hi
  exact ⟨g4, hJg.trans g2, hJf⟩
section
variable {E : Env} {v j : Nat} {ops : Array Oper} {K : Tm → Store → Prop} {rest : List Oper} {tm : Tm} {σ : Store} {dst : Option Tmp} {ty : TypeId} {pos : String} {af : Array Edge}
theorem zW {x : Operand} {xs : List Operand} {tys : Array TypeId} {ys : List OV} {Y : YJ} {k : Nat} {τ : Stamp} {i i' : Nat} {l0 : Rows} {R1 : Rows → Prop} {ans : Bool} (hx : ev tm x = some (.yl k τ)) (ha : evs tm xs = some ys) (hg : tm GS = some (.gh i Y)) (hY : YieldW E.P Y k τ i i' ys l0 R1 ans)
  (hle : (stL l0).le σ) (hn : ∀ l1, R1 l1 → (l1.map (·.1)).Nodup) (hcont : ∀ l1, R1 l1 → AO E.P v ops K (j + 1) rest ((tm.putO dst (.bool ans)).put GS (.gh i' Y)) ((σ.apply (dels l0)).apply (outD l1))) :
  AO E.P v ops K j (⟨dst, .call { callee := .value x, args := xs.toArray, argTypes := tys }, ty, pos, af, none⟩ :: rest) tm σ :=
 rH fun n C G a w ro next Q hd hro hN hf hs hk' => mO hY hx ha hg hle hn hd hro hN hf hs fun l1 G' a' w' h0 h1 h2 h3 => hk' C G' _ _ a' w' (.refl C) h1 h2 h3 (hcont l1 h0)
end
def DoneY (Y : YJ) (i' : Nat) (R1 : Rows → Prop) (e : Exit) (tm : Tm) (σ : Store) : Prop := (e = .normal ∨ e = .ret) ∧ tm GS = some (.gh i' Y) ∧ ∃ l1, R1 l1 ∧ (stL l1).le σ
theorem yL {P : Program} {f : FuncId} {fn : Func} {c : Code} {n : Nat} {args : List OV} {Y : YJ} {i i' : Nat} {l0 : Rows} {R1 : Rows → Prop} (hf : P.funcs[f]? = some fn) (hname : (fn.name == "runtime.NumGoroutine") = false) (hb : fn.body = some c) (hn : fn.ntmps = n) (hl : args.length ≤ n) (hr : fn.results = #[])
  (h : awp P n c (DoneY Y i' R1) ((Tm.ini args).put GS (.gh i Y)) (stL l0)) : FnY P f args Y i i' l0 R1 := by
 refine ⟨⟨fn, hf, hname, by rw [hb]; rfl⟩, fun G w vs N hg hJ hv hw => ?_⟩
 refine (gK (R := fun r σ => ∃ l1, R1 l1 ∧ (stL l1).le σ) (some (i', Y)) Y.D (fun b hb => Or.inr (Or.inr hb)) hf hb hn hl h (fun t y hy => ?_) hv rfl hw rfl (fun i2 Y2 hi => ?_) fun e G' tm σ C a w' hs hq => ?_).mono fun e w' ⟨x, G', r, σ', h1, ⟨l1, hl1, h2⟩, h3, _, h5, h6⟩ => ⟨⟨x, h1⟩, l1, hl1, G', σ', h2, h3, h5, h6 _ _ rfl⟩
 ·by_cases ht : t = GS
  ·subst ht; rw [Tm.put_self] at hy; exact Or.inl ⟨_, _, (Option.some.inj hy).symm⟩
  ·rw [Tm.put_ne _ _ ht] at hy; exact Or.inr (Tm.ini_get hy)
 ·rw [Tm.put_self] at hi
  cases hi
  exact ⟨hJ, hg, fun b hb => hb⟩
 ·obtain ⟨h1, h2, h3⟩ := hq
  refine ⟨h1, fun m Y' hm => by cases hm; exact h2, .tuple #[], .tu [], ?_, ?_, h3⟩
  ·simp [results, hr]
  ·rw [RepO]; exact ⟨#[], rfl, by rw [RepOL]⟩
def Tm.puts (tm : Tm) : List Tmp → List OV → Tm
 | p :: ps, y :: ys => Tm.puts (tm.put p y) ps ys
 | _, _ => tm
def setAll (tmps : Array Value) : List Tmp → List Value → Array Value
 | p :: ps, v :: vs => setAll (tmps.setIfInBounds p v) ps vs
 | _, _ => tmps
theorem gA : ∀ (ps : List Tmp) (vs : List Value) (tmps : Array Value), (ps.zip vs).foldl (fun t (x : Tmp × Value) => t.setIfInBounds x.1 x.2) tmps = setAll tmps ps vs
 | [], vs, tmps => by simp [setAll]
 | p :: ps, [], tmps => by simp [setAll]
 | p :: ps, v :: vs, tmps => by
  rw [List.zip_cons_cons, List.foldl_cons, gA ps vs, setAll]
theorem setAll_fold (ps : List Tmp) (vs : List Value) (tmps : Array Value) : (ps.toArray.zip vs.toArray).foldl (fun t (p, v) => t.setIfInBounds p v) tmps = setAll tmps ps vs := by
 have e : ps.toArray.zip vs.toArray = (ps.zip vs).toArray := by apply Array.ext'; simp
 rw [e, ← gA]
 simp
theorem fZ : ∀ (ps : List Tmp) (vs : List Value) (tmps : Array Value), (setAll tmps ps vs).size = tmps.size
 | [], vs, tmps => by simp [setAll]
 | p :: ps, [], tmps => by simp [setAll]
 | p :: ps, v :: vs, tmps => by rw [setAll, fZ]; simp
theorem nB {G : Gh} : ∀ {ps : List Tmp} {ys : List OV} {vs : List Value} {tm : Tm} {tmps : Array Value}, RepOL G ys vs → TRel G tm tmps → (∀ p ∈ ps, p < tmps.size) → TRel G (tm.puts ps ys) (setAll tmps ps vs)
 | [], ys, vs, tm, tmps, _, ht, _ => by simpa [setAll, Tm.puts] using ht
 | p :: ps, [], vs, tm, tmps, hv, ht, _ => by
  rw [RepOL] at hv
  subst hv
  simpa [setAll, Tm.puts] using ht
 | p :: ps, y :: ys, vs, tm, tmps, hv, ht, hp => by
  rw [RepOL] at hv
  obtain ⟨v, us, rfl, h1, h2⟩ := hv
  rw [Tm.puts, setAll]
  refine nB h2 ?_ (fun q hq => by rw [Array.size_setIfInBounds]; exact hp q (by simp [hq]))
  intro t z hz
  by_cases e : t = p
  ·subst e
   rw [Tm.put_self] at hz
   cases hz
   exact Or.inr ⟨v, by simp [hp t (by simp)], h1⟩
  ·rw [Tm.put_ne _ _ e] at hz
   rcases ht t z hz with h | ⟨x, h3, h4⟩
   ·exact Or.inl h
   ·exact Or.inr ⟨x, by rw [Array.getElem?_setIfInBounds_ne (Ne.symm e)]; exact h3, h4⟩
theorem puts_gs {ps : List Tmp} : ∀ {ys : List OV} {tm : Tm}, (∀ p ∈ ps, p ≠ GS) → (tm.puts ps ys) GS = tm GS := by
 induction ps with
 | nil => intro ys tm _; rfl
 | cons p ps ih =>
  intro ys tm h
  cases ys with
  | nil => rfl
  | cons y ys => rw [Tm.puts, ih fun q hq => h q (by simp [hq]), Tm.put_ne _ _ (Ne.symm (h p (by simp)))]
theorem WRel.allocNon {Γ : Ctx} {G : Gh} {σ : Store} {w : World} (h : WRel Γ G σ w) (o : Obj) : WRel Γ G σ (w.alloc o) := by
 have old : ∀ b, b < w.heap.size → (w.alloc o).heap[b]? = w.heap[b]? := fun b hb => by
  show (w.heap.push o)[b]? = _
  rw [Array.getElem?_push_lt hb, Array.getElem?_eq_getElem hb]
 exact {
  mem := fun b i v hm => by
   have h1 := h.mem b i v hm
   obtain ⟨o2, h2, h3⟩ := cells_of_cell h1
   rw [World.cell?_of_block (w := w) (old b (Array.getElem?_eq_some_iff.1 h2).1)]; exact h1
  own := fun k τ r hk => (h.own k τ r hk).imp id fun ⟨β, h1, h2, h3, h4⟩ => ⟨β, h1, h2.of_heap (old β.b h2.lt), h3, h4⟩
  inj := h.inj
  keep := fun b hb hS => (old b (Nat.lt_of_lt_of_le hb h.size)).trans (h.keep b hb hS)
  size := Nat.le_trans h.size (by rw [World.size_alloc]; omega)
  tape := h.tape
  os := h.os
  output := h.output
  g0 := h.g0
  new := h.new
  bound := h.bound
  low := h.low }
theorem WRel.nameY {Γ : Ctx} {G : Gh} {σ : Store} {w : World} (h : WRel Γ G σ w) {k v i : Nat} {β : Blk} (hf : G.μ k (v, i) = none) (hv : Γ.N ≤ v) : WRel Γ (G.name k (v, i) (some β)) σ w := by
 have hle := Gh.name_le G (some β) hf
 have old : ∀ k' τ' r β', σ k' = some (τ', r) → (G.name k (v, i) (some β)).μ k' τ' = some (some β') → G.μ k' τ' = some (some β') := fun k' τ' r β' hk hμ => by
  rcases h.own k' τ' r hk with ⟨h1, _⟩ | ⟨β0, h1, _⟩
  ·have := hle.2 _ _ _ h1; rw [hμ] at this; cases this
  ·have := hle.2 _ _ _ h1; rw [hμ] at this; cases this; exact h1
 exact {
  mem := h.mem
  own := fun k' τ' r hk => (h.own k' τ' r hk).imp (fun h1 => ⟨hle.2 _ _ _ h1.1, h1.2⟩) fun ⟨β', h1, h2, h3, h4⟩ => ⟨β', hle.2 _ _ _ h1, h2.mono hle, h3, h4⟩
  inj := fun k1 k2 τ1 τ2 β1 β2 r1 r2 a b c d e => h.inj k1 k2 τ1 τ2 β1 β2 r1 r2 a b (old _ _ _ _ a c) (old _ _ _ _ b d) e
  keep := h.keep
  size := h.size
  tape := h.tape
  os := h.os
  output := h.output
  g0 := h.g0.trans hle
  new := h.new
  bound := by
   obtain ⟨n, hn⟩ := h.bound
   refine ⟨max n (v + 1), fun k' v' i' hv' => ?_⟩
   show (if k' = k ∧ (v', i') = (v, i) then _ else _) = _
   rw [if_neg (fun e => by have := congrArg Prod.fst e.2; simp at this; omega)]
   exact hn k' v' i' (by omega)
  low := fun k' v' i' hv' => by
   show (if k' = k ∧ (v', i') = (v, i) then _ else _) = _
   rw [if_neg (fun e => by have := congrArg Prod.fst e.2; simp at this; omega)]
   exact h.low k' v' i' hv' }
theorem enter_any {P : Program} {n : Nat} {C : Cx} {G : Gh} {tm : Tm} {σ : Store} {a : Act} {w : World} (hs : SRel n C G tm σ a w) (fn : FuncId) (ps : Array Tmp) (assign body : Code) :
  ∃ l mark w1 dd, (Instr.enterLoop fn a.tmps ps assign body C.ro).run P w = .ok (l, mark) w1 ∧ w1.heap[l]? = some (.loop { state := .ready, pending := none, fn, tmps := a.tmps, params := ps, assign, body, defers := dd }) ∧ w.heap.size ≤ l ∧
   WRel C.Γ G σ w1 ∧ (∀ b, b < w.heap.size → w1.heap[b]? = w.heap[b]?) ∧ (mark = [] ∨ ∃ D, mark = [{ target := .collected D, args := #[] }] ∧ w.heap.size ≤ D ∧ D ≠ l ∧ w1.heap[D]? = some (.deferred (some []))) := by
 have old : ∀ (w : World) (o : Obj) b, b < w.heap.size → (w.alloc o).heap[b]? = w.heap[b]? := fun w o b hb => by
  show (w.heap.push o)[b]? = _
  rw [Array.getElem?_push_lt hb, Array.getElem?_eq_getElem hb]
 cases hro : C.ro with
 | none =>
  refine ⟨w.heap.size + 1, [{ target := .collected w.heap.size, args := #[] }], _, w.heap.size, run_enterLoop_outer _ _ _ _ _, ?_, Nat.le_succ _, (hs.w.allocNon _).allocNon _, fun b hb => ?_, Or.inr ⟨w.heap.size, rfl, Nat.le_refl _, Nat.ne_of_lt (Nat.lt_succ_self _), ?_⟩⟩
  ·have := World.alloc_heap_new (w.alloc (.deferred (some []))) (.loop { state := .ready, pending := none, fn, tmps := a.tmps, params := ps, assign, body, defers := w.heap.size })
   rwa [World.size_alloc] at this
  ·rw [old _ _ b (by rw [World.size_alloc]; omega), old _ _ b hb]
  ·rw [old _ _ _ (by rw [World.size_alloc]; omega)]; exact World.alloc_heap_new w _
 | some l0 =>
  obtain ⟨r0, h0⟩ := hs.marks.2.2 l0 hro
  exact ⟨_, _, _, _, run_enterLoop_inner (hs.fix l0 _ h0).1 _ _ _ _ _, World.alloc_heap_new w _, Nat.le_refl _, hs.w.allocNon _, fun b hb => old _ _ b hb, Or.inl rfl⟩
def jumpOf : Exit → Option Code
 | .ret => some .ret
 | .exit id => some (.exit id)
 | .goto t => some (.goto t)
 | _ => none
def plainX : Exit → Bool
 | .normal => true
 | .ret => true
 | .exit _ => true
 | .goto _ => true
 | _ => false
theorem jumpOf_none {e : Exit} (h : plainX e = true) (hj : jumpOf e = none) : e = .normal := by
 cases e <;> simp_all [plainX, jumpOf]
def RoundQ {X : Type} (ex : Exit) (last : Bool) (I : X → Prop) (S : X → Rows) (e : Exit) (_ : Tm) (σ : Store) : Prop := e = (bif last then ex else .normal) ∧ ∃ x, I x ∧ (stL (S x)).le σ
theorem run_range {P : Program} {a : Act} {w : World} {g : Operand} {l : Nat} {f : FuncId} {vs us : Array Value} (hx : a.eval g = .func (.func f) vs us) (he : Enters P f) :
  (resolve a.eval (rangeCall g l) 0).run P w = .ok { target := .fn (.func f) us, args := vs ++ #[.func (.yield l) #[] #[]] } w ∧
  (invoke (.fn (.func f) us) (vs ++ #[.func (.yield l) #[] #[]])).run P w = .ok (.enter f (vs ++ #[.func (.yield l) #[] #[]] ++ us)) w := by
 obtain ⟨fn, h1, h2, h3⟩ := he
 constructor
 ·simp only [resolve, hx, Deferred.ofValue, Sem.run_pure]
  simp [go_sem]
 ·simp only [invoke, callFunc, Sem.run_bind, Sem.run_pure, Result.andThen_ok, run_program, h1, h2, h3, Bool.false_eq_true, if_false]
abbrev recAt (fn : FuncId) (tmps : Array Value) (ps : List Tmp) (assign body : Code) (dd : Nat) (ex : Exit) (m j : Nat) : Loop :=
 { state := bif (jumpOf ex).isSome && j == m then .done else .ready, pending := bif (jumpOf ex).isSome && j == m then jumpOf ex else none, fn, tmps, params := ps.toArray, assign, body, defers := dd }
def rangeYJ (G1 : Gh) (l : Nat) (rc : Nat → Loop) : YJ where
 g := G1
 J j w := w.heap[l]? = some (.loop (rc j))
 D b := b = l
 st _ _ _ h hb := (hb l rfl).trans h
 nc _ _ _ h hb := by subst hb; exact ⟨_, h, rfl⟩
theorem WRel.startY {Γ : Ctx} {G : Gh} {σ : Store} {w : World} (h : WRel Γ G σ w) {l0 : Rows} (hle : (stL l0).le σ) (Y : YJ) (N : Nat) : WRel ⟨w, YBlks Y G l0, G, N⟩ G (stL l0) w := by
 have := h.startW hle N
 exact ⟨this.mem, fun k τ r hk => (this.own k τ r hk).imp id fun ⟨β, e1, e2, e3, e4⟩ => ⟨β, e1, e2, e3, e4.imp id Or.inl⟩, this.inj, fun _ _ _ => rfl, this.size, this.tape, this.os, this.output, this.g0, fun b o v h => Or.inl h, this.bound, this.low⟩
theorem fR {X : Type} {P : Program} {n : Nat} {g : Operand} {ps : List Tmp} {assign body : Code} {Q : Exit → Tm → Store → Prop} {tm : Tm} {σ : Store} {y : OV} {f : FuncId} {fi ca : List OV} {ys : List (List OV)}
  (hx : ev tm g = some y) (hf : IsFn y f fi ca) (hseq : SeqW P f fi ca ys) (S : X → Rows) (I : Nat → X → Prop) (x0 : X) (h0 : I 0 x0) (m : Nat) (ex : Exit) (hex : plainX ex = true) (hm : m ≤ ys.length) (hm1 : ex = .normal → m = ys.length) (hm2 : ex ≠ .normal → 0 < m)
  (T : Tm) (hT : T.le tm) (hTg : T GS = none) (hps : (ps.all fun p => Nat.blt p n && !Nat.beq p GS) = true) (hlen : ∀ i, i < m → (ys.getD i []).length = ps.length)
  (hle : (stL (S x0)).le σ) (hnn : ∀ x, ((S x).map (·.1)).Nodup) (hbig : ∀ x, ∀ e ∈ S x, 1000 ≤ e.1)
  (hbody : ∀ i x, i < m → I i x → awp P n assign (fun e tm' σ' => e = .normal ∧ awp P n body (RoundQ ex (i + 1 == m) (I (i + 1)) S) tm' σ') (T.puts ps (ys.getD i [])) (stL (S x)))
  (hq : ∀ x, I m x → Q ex tm ((σ.apply (dels (S x0))).apply (outD (S x)))) : awp P n (.rangeFunc g ps.toArray assign body) Q tm σ := by
 intro C ro G a w hro hs
 subst hro
 obtain ⟨v, hv, hfree⟩ := hs.w.free
 obtain ⟨J, hJd⟩ : ∃ J : Nat → Rows → Prop, J = fun i l => ∃ x, I i x ∧ l = S x := ⟨_, rfl⟩
 have hJm : ∀ i x, I i x → J i (S x) := fun i x hx => by rw [hJd]; exact ⟨x, hx, rfl⟩
 have hJe : ∀ i l, J i l → ∃ x, I i x ∧ l = S x := fun i l hl => by rw [hJd] at hl; exact hl
 have hpl : ∀ p ∈ ps, p < n ∧ p ≠ GS := fun p hp => by
  have := List.all_eq_true.1 hps p hp
  simp only [Bool.and_eq_true, Bool.not_eq_true'] at this
  exact ⟨by simpa using this.1, fun e => by subst e; simp at this⟩
 refine wpIn_rangeFunc fun fn _ => ?_
 obtain ⟨l, mark, w1, dd, he, hl, hlw, hw1, hold, hmk⟩ := enter_any (P := P) hs fn ps.toArray assign body
 obtain ⟨vs, us, hxv, hvs, hus⟩ := hf.rep (aT hs.tm hx)
 let G1 := G.name 0 (v, 0) (some ⟨l, 0, 0⟩)
 have hle1 : G.le G1 := Gh.name_le G _ (hfree 0 0)
 have hμ1 : G1.μ 0 (v, 0) = some (some ⟨l, 0, 0⟩) := Gh.name_self G 0 (v, 0) _
 have hW1 : WRel C.Γ G1 σ w1 := hw1.nameY (hfree 0 0) hv
 let rc := recAt fn a.tmps ps assign body dd ex m
 have hrc : ∀ j, j < m → rc j = { state := .ready, pending := none, fn, tmps := a.tmps, params := ps.toArray, assign, body, defers := dd } := fun j hj => by
  have : (j == m) = false := by simpa using Nat.ne_of_lt hj
  simp [rc, recAt, this]
 obtain ⟨Y, hY⟩ : ∃ Y, Y = rangeYJ G1 l rc := ⟨_, rfl⟩
 have hYJ : ∀ j w, Y.J j w ↔ w.heap[l]? = some (.loop (rc j)) := fun j w => by rw [hY]; exact Iff.rfl
 have hYD : ∀ b, Y.D b ↔ b = l := fun b => by rw [hY]; exact Iff.rfl
 have hYg : Y.g = G1 := by rw [hY]; rfl
 have hround : ∀ i l0, i < m → J i l0 → YieldW P Y 0 (v, 0) i (i + 1) (ys.getD i []) l0 (J (i + 1)) (!((jumpOf ex).isSome && i + 1 == m)) := by
  intro i l0 hi hl0
  obtain ⟨x, hIx, rfl⟩ := hJe _ _ hl0
  intro G2 w2 vs2 N2 β hg2 hβ hJ2 hv2 hw2
  rw [hYg] at hg2
  have hβ' := hg2.2 _ _ _ hμ1
  rw [hβ] at hβ'
  cases hβ'
  have hJ2 := (hYJ _ _).1 hJ2
  rw [hrc i hi] at hJ2
  have hsz : vs2.length = ps.length := by rw [← hlen i hi]; exact hv2.length
  have hy := run_yield (P := P) (args := vs2.toArray) hJ2 (by simp [hsz])
  refine ⟨fn, setAll a.tmps ps vs2, assign, body, ?_, ?_⟩
  ·rw [hy, ← setAll_fold]
  refine roundIn_of_wpIn trivial ?_
  let C1 : Cx := ⟨⟨w2, YBlks Y G2 (S x), G2, N2⟩, fun b => if b = l then some (.loop { state := .ready, pending := none, fn, tmps := a.tmps, params := ps.toArray, assign, body, defers := dd }) else none, [], some l, 0, fun _ => False, fun _ h => h.elim, Nat.zero_le _⟩
  have hs2 : SRel n C1 G2 (T.puts ps (ys.getD i [])) (stL (S x)) { tmps := setAll a.tmps ps vs2, defers := [] } w2 := by
   refine ⟨by rw [fZ]; exact hs.size, rfl, nB hv2 ((hs.tm.mono (hle1.trans hg2)).le hT) (fun p hp => by rw [hs.size]; exact (hpl p hp).1), hw2, fun b o hb => ?_, ⟨List.nodup_nil, fun d hd => (by cases hd), fun l' hl' => ?_⟩, fun i' Y' hi' => ?_⟩
   ·simp only [C1] at hb
    split at hb
    ·rename_i e; cases hb; rw [e]; exact ⟨hJ2, rfl⟩
    ·cases hb
   ·simp only [C1, Option.some.injEq] at hl'
    exact ⟨_, if_pos hl'.symm⟩
   ·rw [puts_gs (fun p hp => (hpl p hp).2), hTg] at hi'; cases hi'
  refine wpIn_mono (hbody i x hi hIx C1 (some l) G2 _ w2 rfl hs2) fun e a3 w3 ⟨C3, G3, tm3, σ3, hC3, hs3, he3, hb3⟩ => ?_
  subst he3
  show ∃ w₂, (Instr.beginRound l).run P w3 = .ok () w₂ ∧ body.wpIn (Fence.wide.inRound l) 0 P _ a3 w₂
  have hfl : C3.fix l = some (.loop { state := .ready, pending := none, fn, tmps := a.tmps, params := ps.toArray, assign, body, defers := dd }) := hC3.fix l _ (if_pos rfl)
  have hl3 := (hs3.fix l _ hfl).1
  have hS3 : C3.Γ.S l := by rw [hC3.Γ]; exact Or.inr ((hYD l).2 rfl)
  refine ⟨_, run_beginRound hl3 rfl, ?_⟩
  let C4 : Cx := { C3 with fix := fun b => if b = l then some (.loop { state := .busy, pending := none, fn, tmps := a.tmps, params := ps.toArray, assign, body, defers := dd }) else C3.fix b }
  have hs4 : SRel n C4 G3 tm3 σ3 a3 (w3.putObj l (.loop { state := .busy, pending := none, fn, tmps := a.tmps, params := ps.toArray, assign, body, defers := dd })) := by
   have hgh : ∀ i' Y', tm3 GS = some (OV.gh i' Y') → ∀ b, Y'.D b → b ≠ l := fun i' Y' hi' b hb e => by
    subst e
    exact (hs3.gh i' Y' hi').2.2.1 b _ hfl hb
   refine ⟨hs3.size, hs3.defers, hs3.tm, hs3.w.putNon hl3 rfl (Or.inr hS3), fun b o hb => ?_, ⟨hs3.marks.1, fun d hd => ?_, fun l' hl' => ?_⟩, fun i' Y' hi' => ⟨Y'.st i' _ _ (hs3.gh i' Y' hi').1 fun b hb => World.putObj_heap_other (hgh i' Y' hi' b hb), (hs3.gh i' Y' hi').2.1, fun b o hb hD => ?_, (hs3.gh i' Y' hi').2.2.2⟩⟩
   ·simp only [C4] at hb
    split at hb
    ·rename_i e; cases hb; rw [e]; exact ⟨World.putObj_heap_same (Array.getElem?_eq_some_iff.1 hl3).1, rfl⟩
    ·rename_i e; exact ⟨(World.putObj_heap_other e).trans (hs3.fix b o hb).1, (hs3.fix b o hb).2⟩
   ·obtain ⟨r, h1, h2, h3⟩ := hs3.marks.2.1 d hd
    refine ⟨r, h1, h2, ?_⟩
    exact (if_neg (fun e => by rw [e, hfl] at h3; cases h3)).trans h3
   ·have : C3.ro = some l := hC3.ro
    rw [show C4.ro = C3.ro from rfl, this] at hl'
    cases hl'
    exact ⟨_, if_pos rfl⟩
   ·simp only [C4] at hb
    split at hb
    ·rename_i e; exact hgh i' Y' hi' b hD e
    ·exact (hs3.gh i' Y' hi').2.2.1 b o hb hD
  refine wpIn_mono (hb3 C4 (some l) G3 a3 _ (show C3.ro = _ from hC3.ro) hs4) fun e a5 w5 ⟨C5, G5, tm5, σ5, hC5, hs5, he5, x5, hx5, hσ5⟩ => ?_
  have hl5 := (hs5.fix l _ (hC5.fix l _ (show C4.fix l = some (.loop { state := .busy, pending := none, fn, tmps := a.tmps, params := ps.toArray, assign, body, defers := dd }) from if_pos rfl))).1
  have hΓ5 : C5.Γ = ⟨w2, YBlks Y G2 (S x), G2, N2⟩ := hC5.Γ.trans hC3.Γ
  have hw5 : WRel ⟨w2, YBlks Y G2 (S x), G2, N2⟩ G5 σ5 w5 := by rw [← hΓ5]; exact hs5.w
  have key : ∀ j, j = jumpOf e → ∃ v w6, (Instr.endRound l j).run P w5 = .ok v w6 ∧ (.returned v : Ending) = .returned (.bool (!((jumpOf ex).isSome && i + 1 == m))) ∧ ∃ l1, J (i + 1) l1 ∧ ∃ G' σ', (stL l1).le σ' ∧ G2.le G' ∧ WRel ⟨w2, YBlks Y G2 (S x), G2, N2⟩ G' σ' w6 ∧ Y.J (i + 1) w6 := by
   intro j hj
   subst hj
   refine ⟨_, _, run_endRound (jumpOf e) hl5, ?_, _, hJm _ _ hx5, G5, σ5, hσ5, hw5.g0, hw5.putNon hl5 rfl (Or.inr (Or.inr ((hYD l).2 rfl))), ?_⟩
   ·rw [he5]
    cases hb : i + 1 == m <;> cases hj : jumpOf ex <;> simp [hj] <;> simp [jumpOf]
   ·rw [hYJ]
    rw [World.putObj_heap_same (Array.getElem?_eq_some_iff.1 hl5).1, he5]
    cases hb : i + 1 == m <;> cases hj : jumpOf ex <;> simp [rc, recAt, hb, hj] <;> simp [jumpOf]
  have hpx : plainX e = true := by
   rw [he5]
   cases (i + 1 == m)
   ·rfl
   ·exact hex
  cases e with
  | normal => exact key _ rfl
  | ret => exact key _ rfl
  | exit id => exact key _ rfl
  | goto t => exact key _ rfl
  | panic ch => cases hpx
  | outgrown => cases hpx
 have hF := hseq Y 0 (v, 0) J m _ hm (fun h => hm1 (jumpOf_none hex (by simpa using h))) (fun h => hm2 fun e => by rw [e] at h; cases h) (fun i l hl => by obtain ⟨x, _, rfl⟩ := hJe _ _ hl; exact hnn x) (fun i l hl => by obtain ⟨x, _, rfl⟩ := hJe _ _ hl; exact hbig x) hround _ (hJm _ _ h0)
 obtain ⟨r1, r2⟩ := run_range (P := P) (w := w1) (l := l) hxv hF.1
 refine ⟨l, mark, w1, _, w1, f, _, w1, he, r1, fun _ _ => trivial, r2, fun h => (by cases h), ?_⟩
 have hst : WRel ⟨w1, YBlks Y G1 (S x0), G1, v + 1⟩ G1 (stL (S x0)) w1 := hW1.startY hle Y (v + 1)
 have hlast : rc m = { state := if (jumpOf ex).isSome then .done else .ready, pending := jumpOf ex, fn, tmps := a.tmps, params := ps.toArray, assign, body, defers := dd } := by
  cases hj : jumpOf ex <;> simp [rc, recAt, hj]
 have hJ0 : Y.J 0 w1 := by
  rw [hYJ, hl]
  rcases Nat.eq_zero_or_pos m with h00 | h00
  ·have : jumpOf ex = none := by
    cases ex <;> first | rfl | (exact (Nat.lt_irrefl 0 (h00 ▸ hm2 (by simp))).elim)
   subst h00; rw [hlast, this]; rfl
  ·rw [hrc 0 h00]
 have hrep : RepOL G1 (fi ++ [.yl 0 (v, 0)] ++ ca) (vs.toList ++ [.func (.yield l) #[] #[]] ++ us.toList) := by
  refine ((hvs.mono hle1).append ?_).append (hus.mono hle1)
  rw [RepOL]
  exact ⟨_, _, rfl, by rw [RepO]; exact ⟨_, hμ1, rfl⟩, by rw [RepOL]⟩
 have hcall := hF.2 G1 w1 _ (v + 1) (by rw [hYg]; exact .refl _) hJ0 hrep hst
 have ea : (vs.toList ++ [Value.func (.yield l) #[] #[]] ++ us.toList).toArray = vs ++ #[.func (.yield l) #[] #[]] ++ us := by simp
 rw [ea] at hcall
 refine (show CallsIn (wideR C.ro) (0 - 1) P f _ w1 _ from callsIn_wide.2 (hcall.mono fun e w2 ⟨⟨x, hx'⟩, l1, hl1, G2, σ2, g1, g2, g3, g4⟩ => ?_))
 obtain ⟨xm, hxm, rfl⟩ := hJe _ _ hl1
 subst hx'
 have g4 := (hYJ _ _).1 g4
 rw [hlast] at g4
 have hkeep : ∀ b o, w1.heap[b]? = some o → o.isCells = false → b ≠ l → (w2.putObj l (.loop { state := .exhausted, pending := jumpOf ex, fn, tmps := a.tmps, params := ps.toArray, assign, body, defers := dd })).heap[b]? = some o := fun b o h1 h2 h3 => by
  refine (World.putObj_heap_other h3).trans ((g3.keep b (Array.getElem?_eq_some_iff.1 h1).1 fun hB => ?_).trans h1)
  rcases hB with ⟨k, τ, r, β, e1, e2, e3⟩ | hB
  ·obtain ⟨cs, f4, _⟩ := hst.blk e1 e2
   rw [e3, h1] at f4
   cases f4; cases h2
  ·exact h3 ((hYD b).1 hB)
 have hcell : ∀ k τ r β, σ k = some (τ, r) → G1.μ k τ = some (some β) → ¬ Y.D β.b := fun k τ r β h1 h2 hb => by
  obtain ⟨cs, f4, _⟩ := hW1.blk h1 h2
  rw [(hYD _).1 hb, hl] at f4
  cases f4
 have hfm : ∃ fixM : Nat → Option Obj, (∀ b o, fixM b = some o → w.heap.size ≤ b ∧ b ≠ l ∧ w1.heap[b]? = some o ∧ o.isCells = false) ∧ (mark.map (·.target)).Nodup ∧ ∀ d ∈ mark, ∃ r, d.target = .collected r ∧ w.heap.size ≤ r ∧ fixM r = some (.deferred (some [])) := by
  rcases hmk with rfl | ⟨D, rfl, h1, h2, h3⟩
  ·exact ⟨fun _ => none, fun b o h => (by cases h), List.nodup_nil, fun d hd => (by cases hd)⟩
  ·refine ⟨fun b => if b = D then some (.deferred (some [])) else none, fun b o h => ?_, by simp, fun d hd => ?_⟩
   ·simp only at h
    split at h
    ·rename_i e; cases h; subst e; exact ⟨h1, h2, h3, rfl⟩
    ·cases h
   ·simp only [List.mem_singleton] at hd
    subst hd
    exact ⟨D, rfl, h1, if_pos rfl⟩
 obtain ⟨fixM, hM1, hM2, hM3⟩ := hfm
 let C6 : Cx := { C with fix := fun b => match C.fix b with | some o => some o | none => fixM b, defs := mark ++ C.defs }
 have hfo : ∀ b o, C.fix b = some o → C6.fix b = some o := fun b o h => by simp only [C6, h]
 have hfl : ∀ b o, C.fix b = some o → b < w.heap.size := fun b o h => (Array.getElem?_eq_some_iff.1 (hs.fix b o h).1).1
 have hfn : ∀ b o, fixM b = some o → C6.fix b = some o := fun b o h => by
  cases hc : C.fix b with
  | none => simp only [C6, hc]; exact h
  | some o' => have := hfl b o' hc; have := (hM1 b o h).1; omega
 have hfc : ∀ b o, C6.fix b = some o → C.fix b = some o ∨ fixM b = some o := fun b o h => by
  cases hc : C.fix b with
  | none => simp only [C6, hc] at h; exact Or.inr h
  | some o' => simp only [C6, hc] at h; exact Or.inl h
 have hle6 : C.le C6 := ⟨rfl, rfl, rfl, fun _ h => h, hfo⟩
 have hold' : ∀ b o, w.heap[b]? = some o → o.isCells = false → b ≠ l ∧ w1.heap[b]? = some o := fun b o h _ => by
  have := (Array.getElem?_eq_some_iff.1 h).1
  exact ⟨by omega, (hold b this).trans h⟩
 have hs6 : SRel n C6 G2 tm ((σ.apply (dels (S x0))).apply (outD (S xm))) { tmps := a.tmps, defers := mark ++ a.defers } (w2.putObj l (.loop { state := .exhausted, pending := jumpOf ex, fn, tmps := a.tmps, params := ps.toArray, assign, body, defers := dd })) := by
  refine ⟨hs.size, by show mark ++ a.defers = mark ++ C.defs; rw [hs.defers], hs.tm.mono (hle1.trans g2), ?_, fun b o hb => ?_, ⟨?_, fun d hd => ?_, fun l' hl' => ?_⟩, fun i' Y' hi' => ?_⟩
  ·refine (hW1.backD hle g3 (Nat.le_succ_of_le hv) (fun k τ r hr => ?_) (fun b hb => Or.inl ?_) (fun k τ r β _ h1 h2 => hcell k τ r β h1 h2)).putNon g4 rfl (Or.inl (Nat.le_trans hs.w.size hlw))
   ·exact jD (hnn xm) g1 hr
   ·rw [(hYD b).1 hb]; exact Nat.le_trans hs.w.size hlw
  ·rcases hfc b o hb with hb | hb
   ·obtain ⟨e1, e2⟩ := hs.fix b o hb
    obtain ⟨e3, e4⟩ := hold' b o e1 e2
    exact ⟨hkeep b o e4 e2 e3, e2⟩
   ·obtain ⟨e1, e2, e3, e4⟩ := hM1 b o hb
    exact ⟨hkeep b o e3 e4 e2, e4⟩
  ·show ((mark ++ C.defs).map (·.target)).Nodup
   rw [List.map_append, List.nodup_append]
   refine ⟨hM2, hs.marks.1, fun t1 h1 t2 h2 e => ?_⟩
   obtain ⟨d1, e1, rfl⟩ := List.mem_map.1 h1
   obtain ⟨d2, e2, rfl⟩ := List.mem_map.1 h2
   obtain ⟨r1, f1, f2, f3⟩ := hM3 d1 e1
   obtain ⟨r2, f4, f5, f6⟩ := hs.marks.2.1 d2 e2
   rw [f1, f4] at e
   cases e
   have := hfl _ _ f6; omega
  ·rcases List.mem_append.1 hd with hd | hd
   ·obtain ⟨r, f1, f2, f3⟩ := hM3 d hd
    exact ⟨r, f1, Nat.le_trans C.bok (Nat.le_trans hs.w.size f2), hfn _ _ f3⟩
   ·obtain ⟨r, f1, f2, f3⟩ := hs.marks.2.1 d hd
    exact ⟨r, f1, f2, hfo _ _ f3⟩
  ·obtain ⟨r, hr⟩ := hs.marks.2.2 l' hl'
   exact ⟨r, hfo _ _ hr⟩
  ·obtain ⟨e1, e2, e3, e4⟩ := hs.gh i' Y' hi'
   refine ⟨Y'.st i' _ _ e1 fun b hb => ?_, e2.trans (hle1.trans g2), fun b o hb hD => ?_, e4⟩
   ·obtain ⟨o, f1, f2⟩ := Y'.nc _ _ b e1 hb
    obtain ⟨f3, f4⟩ := hold' b o f1 f2
    exact (hkeep b o f4 f2 f3).trans f1.symm
   ·rcases hfc b o hb with hb | hb
    ·exact e3 b o hb hD
    ·obtain ⟨o', f1, f2⟩ := Y'.nc _ _ b e1 hD
     have := (Array.getElem?_eq_some_iff.1 f1).1
     have := (hM1 b o hb).1
     omega
 refine ⟨_, _, run_endLoop g4 (by dsimp only; split <;> simp), ?_⟩
 have hL : Lift n C Q ex { tmps := a.tmps, defers := mark ++ a.defers } _ := ⟨C6, G2, tm, _, hle6, hs6, hq xm hxm⟩
 cases ex with
 | normal => exact hL
 | ret => exact wpIn_ret hL
 | exit id => exact wpIn_exit hL
 | goto t => exact wpIn_goto hL
 | panic ch => cases hex
 | outgrown => cases hex
theorem awp_own0 {P : Program} {n : Nat} {c : Code} {Q : Exit → Tm → Store → Prop} {tm : Tm} {σ : Store} {d : Nat} (k s : Nat) (ht : tm d = some (.d (.c (.slice none 0 0)))) (h : ∀ τ, awp P n c Q (tm.put d (.os k τ s 0)) (σ.put k (τ, ⟨s, []⟩))) : awp P n c Q tm σ := fun C ro G a w hro hs => by
 obtain ⟨v, hv, hf⟩ := hs.w.free
 have hle := Gh.name_le G none (hf k 0)
 refine h (v, 0) C ro (G.name k (v, 0) none) a w hro ⟨hs.size, hs.defers, fun t y hy => ?_, hs.w.phantom k hv (hf k 0) s, hs.fix, hs.marks, fun i Y hi => ?_⟩
 ·by_cases e : t = d
  ·subst e
   rw [Tm.put_self] at hy
   cases hy
   rcases hs.tm t _ ht with ⟨i, Y, h1⟩ | ⟨x, h1, h2⟩
   ·cases h1
   ·refine Or.inr ⟨x, h1, ?_⟩
    rw [RepO, Rep] at h2
    rw [RepO]
    exact Or.inr ⟨Gh.name_self _ _ _ _, h2.1, rfl⟩
  ·rw [Tm.put_ne _ _ e] at hy
   exact (hs.tm.mono hle) t y hy
 ·by_cases e : GS = d
  ·rw [← e, Tm.put_self] at hi; cases hi
  ·rw [Tm.put_ne _ _ e] at hi
   obtain ⟨h1, h2, h3⟩ := hs.gh i Y hi
   exact ⟨h1, h2.trans hle, h3⟩
section
variable {P : Program} {b : Frame} {a : Act} {k : List Item} {cs : List Frame} {w : World}
theorem xZ {c : Code} : step P (lone (b.atR a (.code (.scope c) :: k)) cs w) = .next (lone (b.atR a (.code c :: .inScope c :: k)) cs w) :=
 step_lone_go (by simp [stepG, stepG.exec, Frame.atR])
theorem stepR_inScope {c : Code} : step P (lone (b.atR a (.inScope c :: k)) cs w) = .next (lone (b.atR a k) cs w) :=
 step_lone_go (by simp [stepG, stepG.exec, Frame.atR])
end
theorem wpIn_scope {F : Fence} {n : Nat} {P : Program} {Q : Exit → Act → World → Prop} {a : Act} {w : World} {c : Code} (h : c.wpIn F n P (Exit.noGoto Q) a w) : (Code.scope c).wpIn F n P Q a w := by
 intro b k cs hro hb hr
 have h0 : (lone (b.atR a (.code (.scope c) :: k)) cs w).fenced P F := fenced_calm hb hr rfl
 obtain ⟨e, a₁, w₁, hq, harr⟩ := h b (.inScope c :: k) cs hro hb hr
 cases e with
 | normal => exact ⟨.normal, a₁, w₁, hq, .head h0 xZ (StepsIn.trans harr (.one (fenced_calm hb hr rfl) stepR_inScope))⟩
 | exit id' =>
  have hx : exitTo id' (.inScope c :: k) = exitTo id' k := by simp [exitTo]
  exact ⟨.exit id', a₁, w₁, hq, fun k' hk => .head h0 xZ (harr.1 k' (by rw [hx]; exact hk)),
   fun hr' hk => let ⟨k₁, h1, h2⟩ := harr.2 hr' (by rw [hx]; exact hk); ⟨k₁, h1, .head h0 xZ h2⟩⟩
 | goto l => exact hq.elim
 | ret => exact ⟨_, a₁, w₁, hq, .of_steps (.one h0 xZ) harr⟩
 | panic ch => exact ⟨_, a₁, w₁, hq, .of_steps (.one h0 xZ) harr⟩
 | outgrown => exact ⟨_, a₁, w₁, hq, .of_steps (.one h0 xZ) harr⟩
def NoGoto (Q : Exit → Tm → Store → Prop) : Exit → Tm → Store → Prop
 | .goto _, _, _ => False
 | e, tm, σ => Q e tm σ
theorem fQ {P : Program} {n : Nat} {c : Code} {Q : Exit → Tm → Store → Prop} {tm : Tm} {σ : Store} (h : awp P n c (NoGoto Q) tm σ) : awp P n (.scope c) Q tm σ := fun C ro G a w hro hs =>
 wpIn_scope (wpIn_mono (h C ro G a w hro hs) fun e a w ⟨C', G, tm, σ, h0, h1, h2⟩ => by
  cases e <;> first | exact h2.elim | exact ⟨C', G, tm, σ, h0, h1, h2⟩)
theorem ng_n {Q : Exit → Tm → Store → Prop} {tm : Tm} {σ : Store} (h : Q .normal tm σ) : NoGoto Q .normal tm σ := h
theorem rF {Q : Exit → Tm → Store → Prop} {tm : Tm} {σ : Store} (h : Q .ret tm σ) : NoGoto Q .ret tm σ := h
open Go.RowKit Go.Maps Go.ChangeMaps
def mapY (P : Program) (k e : TypeId) (g : Gh) (b : Nat) (Jm : Nat → Nat → DataW Unit → Prop) : YJ where
 g := g
 J i w := ∃ nn D, Jm i nn D ∧ w.ownsMap P k (plainElem P e) b nn D
 D x := x = b
 st i w w' := fun ⟨nn, D, h1, es, clock, hb, r⟩ h => ⟨nn, D, h1, es, clock, (h b rfl).trans hb, r⟩
 nc i w x := fun ⟨nn, D, _, es, clock, hb, _⟩ hx => ⟨.map es clock, by rw [show x = b from hx]; exact hb, rfl⟩
def objY (g : Gh) (b : Nat) (o : Obj) (ho : o.isCells = false) : YJ where
 g := g
 J _ w := w.heap[b]? = some o
 D x := x = b
 st i w w' := fun h h' => (h' b rfl).trans h
 nc i w x := fun h hx => ⟨o, by rw [show x = b from hx]; exact h, ho⟩
section
variable {P : Program} {v j : Nat} {tm : Tm} {σ : Store} {dst : Option Tmp} {ty : TypeId} {pos : String} {af : Array Edge} {gd : Option (Nat × Bool)}
def OpKJ (P : Program) (v j : Nat) (o : Oper) (tm : Tm) (σ : Store) (Jw : World → Prop) (K : OV → Store → Prop) : Prop :=
 ∀ (Γ : Ctx) (G : Gh) (ρ : Operand → Value) (w : World), Γ.N ≤ v → (∀ k, G.μ k (v, j) = none) → (∀ x ∈ o.op.operands, ∀ y, ev tm x = some y → RepO G y (ρ x)) → WRel Γ G σ w → Jw w →
  NextK P Γ G v j K ((execOp ρ o).run P w)
theorem OpKJ.ok {o : Oper} {Jw : World → Prop} {K : OV → Store → Prop} (hJw : ∀ (n : Nat) (C : Cx) (G : Gh) (a : Act) (w : World), SRel n C G tm σ a w → Jw w) (h : OpKJ P v j o tm σ Jw K) : OpOk P v j o tm σ K := fun n C G a w ro next Q hd hro hN hfr hs hk => by
 have hst := hs.w.startW (σ0 := σ) (fun _ _ e => e) C.Γ.N
 have h1 := h ⟨w, Blks G σ, G, C.Γ.N⟩ G a.eval w hN hfr (fun x _ y hy => aT hs.tm hy) hst (hJw n C G a w hs)
 have lv : ∀ x w', LeavesK ⟨w, Blks G σ, G, C.Γ.N⟩ G v j K x w' → next (a.put o.dst x) w' := fun x w' ⟨G', r, σ', g1, g2, g3, g4, g5⟩ => by
  refine hk C G' (tm.putO o.dst r) σ' _ w' (.refl C) g1 g2 ⟨by rw [Act.put_size, hs.size], by rw [Act.put_defers, hs.defers], (hs.tm.mono g1).put g3 o.dst (by rw [hs.size]; exact fun d e => (hd d e).1), hs.w.backX (fun _ _ e => e) g4 (Nat.le_refl _) (fun k τ r hr => Or.inr hr), fun b ob hb => ?_, hs.marks, fun i Y hi => ?_⟩ ⟨r, rfl, g5⟩
  ·obtain ⟨e1, e2⟩ := hs.fix b ob hb
   exact ⟨(g4.keep b (Array.getElem?_eq_some_iff.1 e1).1 (hs.fix.not_own hs.w hb)).trans e1, e2⟩
  ·obtain ⟨hJ, hJg, hJf⟩ := hs.gh i Y ((yG hd r).symm.trans hi)
   refine ⟨Y.st i w w' hJ fun b hb => ?_, hJg.trans g1, hJf⟩
   obtain ⟨ob, e1, e2⟩ := Y.nc i w b hJ hb
   refine g4.keep b (Array.getElem?_eq_some_iff.1 e1).1 fun ⟨k, τ, r', β, f1, f2, f3⟩ => ?_
   obtain ⟨cs, f4, _⟩ := hs.w.blk f1 f2
   rw [f3, e1] at f4
   cases f4; cases e2
 have hsem : o.semAt ro a.eval = execOp a.eval o := by
  refine Oper.semAt_eq ro a.eval o fun c hc => ?_
  have e : execOp a.eval o = (do pure (.defer (← resolve a.eval c o.type)) : Sem Next) := by
   simp only [execOp, hc]
  rw [e] at h1
  simp only [Sem.run_bind] at h1
  cases hr : (resolve a.eval c o.type).run P w with
  | ok d w' => rw [hr] at h1; simp [NextK] at h1
  | halt x w' => rw [hr] at h1; simp [NextK] at h1
 unfold Oper.wpIn
 refine ⟨fun _ _ => trivial, ?_⟩
 rw [show (wideR ro).round = ro from rfl, hsem]
 generalize (execOp a.eval o).run P w = r at *
 cases r with
 | ok nx w' =>
  cases nx <;> simp only [NextK] at h1 <;> simp only [Oper.uponIn]
  case value x => exact lv _ _ h1
  case skip => exact lv _ _ h1
  case enter f args =>
   refine ⟨fun e => (by cases e), ?_⟩
   exact (show CallsIn (wideR ro) (0 - 1) P f args w' _ from callsIn_wide.2 (h1.mono fun e w'' ⟨x, h2, h3⟩ => by subst h2; exact lv _ _ h3))
 | halt x w' => simp only [NextK] at h1
theorem rN {i : Nat} {Y : YJ} (hg : tm GS = some (.gh i Y)) (n : Nat) (C : Cx) (G : Gh) (a : Act) (w : World) (hs : SRel n C G tm σ a w) : Y.J i w := (hs.gh i Y hg).1
theorem pG {o : Oper} {K : Tm → Store → Prop} {i : Nat} {Y : YJ} {b : Nat} (hdf : ∀ c, o.op ≠ .defer c) (hg : tm GS = some (.gh i Y)) (hD : ∀ x, Y.D x ↔ x = b)
  (h : ∀ (G : Gh) (ρ : Operand → Value) (w : World), (∀ x ∈ o.op.operands, ∀ y, ev tm x = some y → RepO G y (ρ x)) → Y.J i w →
   ∃ x r ob i' Y', ((execOp ρ o).run P w = .ok (.value x) (w.putObj b ob) ∨ ((execOp ρ o).run P w = .ok .skip (w.putObj b ob) ∧ x = undef)) ∧ RepO G r x ∧ Y'.J i' (w.putObj b ob) ∧ Y'.g = Y.g ∧ (∀ x, Y'.D x ↔ x = b) ∧ K ((tm.putO o.dst r).put GS (.gh i' Y')) σ) : OpT P v j o tm σ K := fun n C G a w ro next Q hd hro hN hfr hs hk => by
 obtain ⟨hJ, hJg, hJf1, hJf2⟩ := hs.gh i Y hg
 obtain ⟨x, r, ob, i', Y', h1, h2, h3, h4, h5, h6⟩ := h G a.eval w (fun x _ y hy => aT hs.tm hy) hJ
 have hbD : Y.D b := (hD b).2 rfl
 obtain ⟨o0, e1, e2⟩ := Y.nc i w b hJ hbD
 have hS : C.Γ.w0.heap.size ≤ b ∨ C.Γ.S b := C.dok b (hJf2 b hbD)
 have nx : next (a.put o.dst x) (w.putObj b ob) := by
  refine hk C G _ σ _ _ (.refl C) (.refl G) (fun _ _ _ _ _ => rfl) ⟨by rw [Act.put_size, hs.size], by rw [Act.put_defers, hs.defers], fun t y ht => ?_, hs.w.putNon e1 e2 hS, fun b' ob' hb' => ?_, hs.marks, fun i2 Y2 hi => ?_⟩ h6
  ·by_cases hn' : t = GS
   ·subst hn'
    rw [Tm.put_self] at ht
    exact Or.inl ⟨_, _, (Option.some.inj ht).symm⟩
   ·rw [Tm.put_ne _ _ hn'] at ht
    exact (hs.tm.mono (.refl G)).put h2 o.dst (by rw [hs.size]; exact fun d e => (hd d e).1) t y ht
  ·obtain ⟨q1, q2⟩ := hs.fix b' ob' hb'
   exact ⟨(World.putObj_heap_other fun e => hJf1 b' ob' hb' (by rw [e]; exact hbD)).trans q1, q2⟩
  ·rw [Tm.put_self] at hi
   cases hi
   exact ⟨h3, by rw [h4]; exact hJg, fun b' ob' hb' hD' => hJf1 b' ob' hb' ((hD b').2 ((h5 b').1 hD')), fun b' hb' => hJf2 b' ((hD b').2 ((h5 b').1 hb'))⟩
 unfold Oper.wpIn
 refine ⟨fun _ _ => trivial, ?_⟩
 rw [show (wideR ro).round = ro from rfl, Oper.semAt_eq ro a.eval o fun c hc => (hdf c hc).elim]
 rcases h1 with h1 | ⟨h1, rfl⟩
 ·rw [h1]; exact nx
 ·rw [h1]; exact nx
theorem makeMap_ok {T k e : TypeId} {Jm : Nat → Nat → DataW Unit → Prop} {K : Tm → Store → Prop} (h0 : Jm 0 0 (.map [])) (hK : ∀ g b, K ((tm.putO dst (.d (.c (.map (some b))))).put GS (.gh 0 (mapY P k e g b Jm))) σ) :
  OpT P v j ⟨dst, .makeMap T none, ty, pos, af, gd⟩ tm σ K := fun n C G a w ro next Q hd hro hN hfr hs hk => by
 have old : ∀ b, b < w.heap.size → (w.alloc (.map #[] 0)).heap[b]? = w.heap[b]? := fun b hb => by
  show (w.heap.push _)[b]? = _
  rw [Array.getElem?_push_lt hb, Array.getElem?_eq_getElem hb]
 unfold Oper.wpIn
 refine ⟨fun _ _ => trivial, ?_⟩
 rw [show (wideR ro).round = ro from rfl, Oper.semAt_eq ro a.eval _ (fun c hc => by cases hc)]
 have hrun : (execOp a.eval ⟨dst, .makeMap T none, ty, pos, af, gd⟩).run P w = .ok (.value (.map (some w.heap.size))) (w.alloc (.map #[] 0)) := by
  simp [execOp, run_makeMap, Result.andThen]
 rw [hrun]
 have hsz : C.Γ.w0.heap.size ≤ w.heap.size := hs.w.size
 refine hk ⟨C.Γ, C.fix, C.defs, C.ro, C.base, fun b => C.dD b ∨ b = w.heap.size, fun b hb => hb.elim (C.dok b) fun e => Or.inl (by rw [e]; exact hsz), C.bok⟩ G _ σ _ _ ⟨rfl, rfl, rfl, fun b h => Or.inl h, fun _ _ h => h⟩ (.refl G) (fun _ _ _ _ _ => rfl)
  ⟨by rw [Act.put_size, hs.size], by rw [Act.put_defers, hs.defers], fun t y ht => ?_, hs.w.allocNon _, fun b' ob' hb' => ?_, hs.marks, fun i2 Y2 hi => ?_⟩ (hK G w.heap.size)
 ·by_cases hn' : t = GS
  ·subst hn'
   rw [Tm.put_self] at ht
   exact Or.inl ⟨_, _, (Option.some.inj ht).symm⟩
  ·rw [Tm.put_ne _ _ hn'] at ht
   exact (hs.tm.mono (.refl G)).put (by rw [RepO, Rep]; exact ⟨rfl, rfl⟩) dst (by rw [hs.size]; exact fun d e => (hd d e).1) t y ht
 ·obtain ⟨q1, q2⟩ := hs.fix b' ob' hb'
  exact ⟨(old b' (Array.getElem?_eq_some_iff.1 q1).1).trans q1, q2⟩
 ·rw [Tm.put_self] at hi
  cases hi
  refine ⟨(show ∃ nn D, Jm 0 nn D ∧ World.ownsMap _ P k (plainElem P e) _ nn D from ⟨0, _, h0, World.ownsMap_made w P k _⟩), (show G.le G from .refl G), fun b' ob' hb' hD' => ?_, fun b' hb' => Or.inr (show b' = w.heap.size from hb')⟩
  have := (Array.getElem?_eq_some_iff.1 (hs.fix b' ob' hb').1).1
  have h9 : b' = w.heap.size := hD'
  omega
def IsKeyV (P : Program) (k : TypeId) (y : OV) (kl : Lit) : Prop := ∀ (G : Gh) (u : Value), RepO G y u → keyOf P k u = some kl
def FnM (P : Program) (f : FuncId) (args : List OV) (Jw : World → Prop) (R : OV → Store → Prop) : Prop :=
 Enters P f ∧ ∀ (G : Gh) (w : World) (vs : List Value) (N : Nat), Jw w → RepOL G args vs → WRel ⟨w, fun _ => False, G, N⟩ G Store.nil w →
  Calls P f vs.toArray w (fun e w' => ∃ x G' r σ', e = .returned x ∧ R r σ' ∧ G.le G' ∧ RepO G' r x ∧ WRel ⟨w, fun _ => False, G, N⟩ G' σ' w')
theorem callM_ok {x : Operand} {xs : List Operand} {tys : Array TypeId} {y : OV} {f : FuncId} {fi ca ys : List OV} {R K : OV → Store → Prop} {i : Nat} {Y : YJ} (hx : ev tm x = some y) (hf : IsFn y f fi ca) (ha : evs tm xs = some ys) (hg : tm GS = some (.gh i Y)) (hc : FnM P f (fi ++ ys ++ ca) (Y.J i) R)
  (hk : ∀ r σ', R r σ' → K r σ) : OpOk P v j ⟨dst, .call { callee := .value x, args := xs.toArray, argTypes := tys }, ty, pos, af, gd⟩ tm σ K := OpKJ.ok (Jw := Y.J i) (rN hg) fun Γ G ρ w hv _ hρ hw hJ => by
 obtain ⟨vs, us, h1, h2, h3⟩ := hf.rep (hρ x (by simp [Op.operands, Call.operands]) y hx)
 have h4 := zT ha fun z hz => hρ z (by simp [Op.operands, Call.operands, hz])
 have h5 := hc.2 G w (vs.toList ++ xs.map ρ ++ us.toList) (v + 1) hJ ((h2.append h4).append h3) (hw.start (v + 1))
 have e : (vs.toList ++ xs.map ρ ++ us.toList).toArray = vs ++ (xs.map ρ).toArray ++ us := by simp
 rw [e] at h5
 rw [dT h1 hc.1]
 refine h5.mono fun e w' ⟨x, G', r, σ', h3, h4, h5, h6, h7⟩ => ⟨x, h3, G', r, σ, h5, fun k v' i hv' _ => h7.low k v' i (Nat.lt_succ_of_le hv'), h6, hw.back h7 (Nat.le_succ_of_le hv), hk r σ' h4⟩
theorem callY_ok {x : Operand} {xs : List Operand} {tys : Array TypeId} {y : OV} {f : FuncId} {fi ca ys : List OV} {K : Tm → Store → Prop} {i i' : Nat} {Y : YJ} (hx : ev tm x = some y) (hf : IsFn y f fi ca) (ha : evs tm xs = some ys) (hg : tm GS = some (.gh i Y)) (hc : FnY P f (fi ++ ys ++ ca) Y i i' [] (· = []))
  (hK : K ((tm.putO dst (.gh 0 Y)).put GS (.gh i' Y)) σ) : OpT P v j ⟨dst, .call { callee := .value x, args := xs.toArray, argTypes := tys }, ty, pos, af, gd⟩ tm σ K := fun n C G a w ro next Q hd hro hN hfr hs hk => by
 obtain ⟨vs, us, h1, h2, h3⟩ := hf.rep (aT hs.tm hx)
 have h4 := zT ha fun z _ y hy => aT hs.tm hy
 obtain ⟨hJ, hJg, hJf⟩ := hs.gh i Y hg
 have hst : WRel ⟨w, YBlks Y G [], G, v + 1⟩ G (stL []) w := hs.w.startY (l0 := []) (fun k x h => by cases h) Y (v + 1)
 have h5 := hc.2 G w (vs.toList ++ xs.map a.eval ++ us.toList) (v + 1) hJg hJ ((h2.append h4).append h3) hst
 have e : (vs.toList ++ xs.map a.eval ++ us.toList).toArray = vs ++ (xs.map a.eval).toArray ++ us := by simp
 rw [e] at h5
 unfold Oper.wpIn
 refine ⟨fun _ _ => trivial, ?_⟩
 rw [show (wideR ro).round = ro from rfl, Oper.semAt_eq ro a.eval _ (fun c hc => by cases hc), dT h1 hc.1]
 simp only [Oper.uponIn]
 refine ⟨fun e => (by cases e), ?_⟩
 refine (show CallsIn (wideR ro) (0 - 1) P f _ w _ from callsIn_wide.2 (h5.mono fun e w' ⟨⟨x, hx'⟩, l1, hl1, G', σ', g1, g2, g3, g4⟩ => ?_))
 subst hx' hl1
 have hJn : ∀ k τ r β, σ k = some (τ, r) → G.μ k τ = some (some β) → ¬ Y.D β.b := fun k τ r β h1 h2 hb => by
  obtain ⟨o, e1, e2⟩ := Y.nc i w _ hJ hb
  obtain ⟨cs, f4, _⟩ := hs.w.blk h1 h2
  rw [e1] at f4
  cases f4; cases e2
 have hnr : ∀ b o, C.fix b = some o → ¬ YBlks Y G [] b := fun b o hb hB => by
  rcases hB with hB | hB
  ·obtain ⟨k, τ, r, β, e, _⟩ := hB; cases e
  ·exact hJf.1 b o hb hB
 refine hk C G' _ σ (a.put dst x) w' (.refl C) g2 (fun k v' i hv' _ => g3.low k v' i (Nat.lt_succ_of_le hv')) ⟨by rw [Act.put_size, hs.size], by rw [Act.put_defers, hs.defers], fun t y ht => ?_, hs.w.backD (σ0 := stL []) (fun k x h => by cases h) g3 (Nat.le_succ_of_le hN) (fun k τ r hr => Or.inl ⟨rfl, hr⟩) (fun b hb => C.dok b (hJf.2 b hb)) (fun k τ r β _ h1 h2 => hJn k τ r β h1 h2), fun b o hb => ?_, hs.marks, fun i2 Y2 hi => ?_⟩ hK
 ·by_cases hn' : t = GS
  ·subst hn'
   rw [Tm.put_self] at ht
   exact Or.inl ⟨_, _, (Option.some.inj ht).symm⟩
  ·rw [Tm.put_ne _ _ hn'] at ht
   exact (hs.tm.mono g2).put (by rw [RepO]; trivial) dst (by rw [hs.size]; exact fun d e => (hd d e).1) t y ht
 ·obtain ⟨e1, e2⟩ := hs.fix b o hb
  exact ⟨(g3.keep b (Array.getElem?_eq_some_iff.1 e1).1 (hnr b o hb)).trans e1, e2⟩
 ·rw [Tm.put_self] at hi
  cases hi
  exact ⟨g4, hJg.trans g2, hJf⟩
end
section
variable {P : Program} {v j : Nat} {ops : Array Oper} {Q : Tm → Store → Prop} {rest : List Oper} {tm : Tm} {σ : Store} {dst : Option Tmp} {ty : TypeId} {pos : String} {af : Array Edge}
theorem S_makeMap {T k e : TypeId} (Jm : Nat → Nat → DataW Unit → Prop) (h0 : Jm 0 0 (.map [])) (h : ∀ g b, AO P v ops Q (j + 1) rest ((tm.putO dst (.d (.c (.map (some b))))).put GS (.gh 0 (mapY P k e g b Jm))) σ) : AO P v ops Q j (⟨dst, .makeMap T none, ty, pos, af, none⟩ :: rest) tm σ :=
 rH (makeMap_ok h0 h)
theorem S_callM {x : Operand} {xs : List Operand} {tys : Array TypeId} {y : OV} {f : FuncId} {fi ca ys : List OV} {i : Nat} {Y : YJ} {r : OV} (hx : ev tm x = some y) (hf : IsFn y f fi ca) (ha : evs tm xs = some ys) (hg : tm GS = some (.gh i Y)) (hc : FnM P f (fi ++ ys ++ ca) (Y.J i) (fun r' _ => r' = r))
  (h : AO P v ops Q (j + 1) rest (tm.putO dst r) σ) : AO P v ops Q j (⟨dst, .call { callee := .value x, args := xs.toArray, argTypes := tys }, ty, pos, af, none⟩ :: rest) tm σ := ao_ok (callM_ok hx hf ha hg hc fun r' σ' e => by rw [e]; exact h)
theorem mJ {x : Operand} {xs : List Operand} {tys : Array TypeId} {y : OV} {f : FuncId} {fi ca ys : List OV} {i i' : Nat} {Y : YJ} (hx : ev tm x = some y) (hf : IsFn y f fi ca) (ha : evs tm xs = some ys) (hg : tm GS = some (.gh i Y)) (hc : FnY P f (fi ++ ys ++ ca) Y i i' [] (· = []))
  (h : AO P v ops Q (j + 1) rest ((tm.putO dst (.gh 0 Y)).put GS (.gh i' Y)) σ) : AO P v ops Q j (⟨dst, .call { callee := .value x, args := xs.toArray, argTypes := tys }, ty, pos, af, none⟩ :: rest) tm σ := rH (callY_ok hx hf ha hg hc h)
end
def Tm.sub (tx tm : Tm) : Prop := ∀ t y, tx t = some y → (t ≠ GS ∧ ∃ i Y, y = .gh i Y) ∨ tm t = some y
theorem SRel.sub {n : Nat} {C : Cx} {G : Gh} {tm tx : Tm} {σ : Store} {a : Act} {w : World} (hs : SRel n C G tm σ a w) (h : tx.sub tm) : SRel n C G tx σ a w :=
 ⟨hs.size, hs.defers, fun t y ht => by
  rcases h t y ht with ⟨_, i, Y, rfl⟩ | h1
  ·exact Or.inl ⟨i, Y, rfl⟩
  ·exact hs.tm t y h1, hs.w, hs.fix, hs.marks, fun i Y hi => by
  rcases h GS _ hi with ⟨h1, _⟩ | h1
  ·exact (h1 rfl).elim
  ·exact hs.gh i Y h1⟩
def anyT (P : Program) (v : Nat) (ops : Array Oper) (Q : Tm → Store → Prop) : Nat → Array Bool → Tm → Store → Prop
 | 0, listed, tm, σ => Region.ready .any ops listed = [] ∧ Q tm σ
 | fuel + 1, listed, tm, σ => (Region.ready .any ops listed = [] → Q tm σ) ∧ ∀ i ∈ Region.ready .any ops listed, ∃ o, ops[i]? = some o ∧ o.guard = none ∧ OpT P v i o tm σ (anyT P v ops Q fuel (listed.setIfInBounds i true))
theorem jH {P : Program} {v n : Nat} {ops : Array Oper} {C0 : Cx} {ro : Option Nat} {Q : Tm → Store → Prop} {Q' : Exit → Act → World → Prop} (hn : dstsLt n ops.toList = true) (hQ : ∀ C G tm σ a w, C0.le C → SRel n C G tm σ a w → Q tm σ → Q' .normal a w) :
  ∀ (fuel : Nat) (listed : Array Bool) (C : Cx) (G : Gh) (tm : Tm) (σ : Store) (a : Act) (w : World), C0.le C → C.ro = ro → C.Γ.N ≤ v → (∀ k i, listed.getD i true = false → G.μ k (v, i) = none) → SRel n C G tm σ a w → anyT P v ops Q fuel listed tm σ → wpAnyIn (wideR ro) 0 P .any ops Q' fuel listed a w
 | 0, listed, C, G, tm, σ, a, w, hC, _, _, _, hs, h => ⟨h.1, hQ C G tm σ a w hC hs h.2⟩
 | fuel + 1, listed, C, G, tm, σ, a, w, hC, hro, hN, hf, hs, h => by
  refine ⟨fun h0 => hQ C G tm σ a w hC hs (h.1 h0), fun i hi => ?_⟩
  obtain ⟨o, ho, hgd, hT⟩ := h.2 i hi
  have hun := (mem_ready.1 hi).1
  unfold wpOpIn
  rw [ho]
  have hw : Region.wanted o (yielded ops a.tmps) = true := by unfold Region.wanted; rw [hgd]
  simp only [hw, if_true]
  have hd := wH hn (o := o) (by simpa using Array.mem_of_getElem? ho)
  refine hT n C G a w ro _ Q' hd hro hN (fun k => hf k i hun) hs fun C' G' tm1 σ' a' w' g0 g1 g2 g3 g4 => ?_
  refine jH hn hQ fuel _ C' G' tm1 σ' a' w' (hC.trans g0) (g0.ro.trans hro) (by rw [g0.N]; exact hN) (fun k i' hi' => ?_) g3 g4
  by_cases e : i = i'
  ·subst e
   rcases Nat.lt_or_ge i listed.size with h' | h'
   ·simp [h'] at hi'
   ·simp [Array.getElem?_eq_none h'] at hun
  ·rw [getD_set_ne true e] at hi'
   rw [g2 k v i' (Nat.le_refl _) (fun _ => Ne.symm e)]
   exact hf k i' hi'
theorem awp_any {E : Env} {n id : Nat} {l : List Oper} {Q : Exit → Tm → Store → Prop} {tm : Tm} {σ : Store} (hn : dstsLt n l = true)
  (h : ∀ v, anyT E.P v l.toArray (fun tm σ => ∃ tx, tx.sub tm ∧ Q .normal tx σ) l.length (Array.replicate l.length false) tm σ) : awp E.P n (.region id l.toArray true) Q tm σ := fun C ro G a w hro hs => by
 obtain ⟨v, hv, hf⟩ := hs.w.free
 refine wpIn_region_any E.mixed ?_
 have := jH (Q' := Lift n C Q) (C0 := C) (ro := ro) (by simpa using hn) (fun C' G tm σ a w h0 h1 ⟨tx, h2, h3⟩ => ⟨C', G, tx, σ, h0, h1.sub h2, h3⟩) _ _ C G tm σ a { w with drawn := w.drawn + 1 } (.refl C) hro hv (fun k i _ => hf k i) ⟨hs.size, hs.defers, hs.tm, hs.w.drawn _, hs.fix, hs.marks, fun i Y hi => ⟨Y.st i _ _ (hs.gh i Y hi).1 fun _ _ => rfl, (hs.gh i Y hi).2⟩⟩ (h v)
 simpa using this
end Go.Proofs.YtnkocjkkefnelaaGreat
