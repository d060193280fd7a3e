/- Parts. -/
import Derived.Test.YtjogffchdejabaaGreatDoorPs3
set_option linter.unusedVariables false
set_option linter.unusedSimpArgs false
set_option maxHeartbeats 4000000
namespace Go.Proofs.YtjogffchdejabaaGreatDoor
open Go.RowKit
section
variable {P : Program} {n : Nat} {Q Qx : Exit → Tm → Store → Prop} {tm : Tm} {σ : Store}
theorem mid {X : Type} {T : X → Tm} {S : X → Store} {I : X → Prop} (y : X) (hI : I y) (ht : (T y).le tm) (hs : (S y).le σ) : ∃ y, I y ∧ (T y).le tm ∧ (S y).le σ := ⟨y, hI, ht, hs⟩
inductive Froz (k : Nat) (τ : Stamp) (s : Nat) (rows : List (List TV)) : OV → OV → Prop where
 | same (y : OV) : Froz k τ s rows y y
 | os : Froz k τ s rows (.os k τ s rows.length) (.d (.sl s rows))
 | vw (l m : Nat) (h : l + m ≤ rows.length) : Froz k τ s rows (.vw k τ s l m) (.d (.sl s ((rows.drop l).take m)))
 | lo (i o : Nat) (row : List TV) (h : rows[i]? = some row) : Froz k τ s rows (.lo k τ s i o) (.d (.pt row o))
 | nil (q : Nat) : Froz k τ s rows (.d (.c (.slice none 0 0))) (.d (.sl q []))
theorem Froz.rep {G G' : Gh} {k s : Nat} {τ : Stamp} {rows : List (List TV)} (hle : G.le G')
  (hk : (G.μ k τ = some none ∧ rows = []) ∨ ∃ β, G.μ k τ = some (some β) ∧ ∀ i row, rows[i]? = some row → row.length = s ∧ RepC G'.M row β.b (i * s)) {y y' : OV} (h : Froz k τ s rows y y') {x : Value} (hr : RepO G y x) : RepO G' y' x := by
 cases h with
 | same => exact hr.mono hle
 | nil q =>
  have e := uJ hr
  subst e
  rw [RepO, Rep]
  exact ⟨none, 0, rfl, Nat.le_refl _, Or.inl rfl⟩
 | os =>
  simp only [RepO] at hr ⊢
  rw [Rep]
  rcases hr with ⟨β, c, g1, g2, g3, _, _⟩ | ⟨g1, g2, g3⟩
  ·refine ⟨_, c, g2, g3, ?_⟩
   rcases hk with ⟨k1, _⟩ | ⟨β', k1, k2⟩
   ·rw [k1] at g1; cases g1
   ·rw [k1] at g1; cases g1
    exact Or.inr ⟨_, 0, rfl, RepR.of_get fun i r hi => by rw [Nat.zero_add]; exact k2 i r hi⟩
  ·have : rows = [] := List.eq_nil_of_length_eq_zero g3
   subst this
   exact ⟨none, 0, g2, Nat.le_refl _, Or.inl rfl⟩
 | vw l m hlm =>
  simp only [RepO] at hr ⊢
  rw [Rep]
  obtain ⟨a, c, g1, g2, g3⟩ := hr
  have hl : ((rows.drop l).take m).length = m := by simp; omega
  refine ⟨a, c, by rw [hl]; exact g1, by rw [hl]; exact g2, ?_⟩
  rcases g3 with g3 | ⟨β, g3, g4⟩
  ·subst g3; exact Or.inl (by simp)
  ·rcases hk with ⟨k1, k2⟩ | ⟨β', k1, k2⟩
   ·subst k2; exact Or.inl (by simp)
   ·rw [k1] at g3; cases g3
    refine Or.inr ⟨_, l * s, g4, RepR.of_get fun i r hi => ?_⟩
    rw [List.getElem?_take] at hi
    split at hi
    ·rw [List.getElem?_drop] at hi
     have := k2 _ _ hi
     rw [Nat.add_mul] at this
     exact this
    ·cases hi
 | lo i o row hrow =>
  simp only [RepO] at hr ⊢
  rw [Rep]
  obtain ⟨β, g1, g2⟩ := hr
  rcases hk with ⟨k1, k2⟩ | ⟨β', k1, k2⟩
  ·rw [k1] at g1; cases g1
  ·rw [k1] at g1; cases g1
   exact ⟨_, _, g2, (k2 i row hrow).2⟩
def FrozT (k : Nat) (τ : Stamp) (s : Nat) (rows : List (List TV)) (tm tm' : Tm) : Prop := ∀ t y', tm' t = some y' → ∃ y, tm t = some y ∧ Froz k τ s rows y y'
def FrozR (k : Nat) (τ : Stamp) (s : Nat) (rows : List (List TV)) (r r' : Row) : Prop := r'.s = r.s ∧ r'.rows.length = r.rows.length ∧ ∀ (i : Nat) (row' : List OV), r'.rows[i]? = some row' → ∃ row : List OV, r.rows[i]? = some row ∧ row.length = row'.length ∧ ∀ (o : Nat) (y' : OV), row'[o]? = some y' → ∃ y : OV, row[o]? = some y ∧ Froz k τ s rows y y'
def FrozS (k : Nat) (τ : Stamp) (s : Nat) (rows : List (List TV)) (σ σ' : Store) : Prop := ∀ j τ' r', σ' j = some (τ', r') → j ≠ k ∧ ∃ r, σ j = some (τ', r) ∧ FrozR k τ s rows r r'
theorem WRel.froz {Γ : Ctx} {G : Gh} {σ σ' : Store} {w : World} {k s : Nat} {τ : Stamp} {rows : List (List TV)} (hw : WRel Γ G (σ.del k) w) (hσ : FrozS k τ s rows σ σ')
  (hr : ∀ y y' x, Froz k τ s rows y y' → RepO G y x → RepO G y' x) : WRel Γ G σ' w where
 mem := hw.mem
 own j τ' r' hj := by
  obtain ⟨hne, r, h1, h2, h3, h4⟩ := hσ j τ' r' hj
  have h1' : σ.del k j = some (τ', r) := by rw [Store.del_ne _ hne]; exact h1
  rcases hw.own j τ' r h1' with ⟨g1, g2⟩ | ⟨β, g1, ⟨cs, c1, c2, c3, c4⟩, g3, g4⟩
  ·exact Or.inl ⟨g1, List.eq_nil_of_length_eq_zero (by rw [h3, g2]; rfl)⟩
  ·refine Or.inr ⟨β, g1, ⟨cs, c1, c2, by rw [h2, h3]; exact c3, fun i row' hi => ?_⟩, g3, g4⟩
   obtain ⟨row, e1, e2, e3⟩ := h4 i row' hi
   obtain ⟨d1, d2⟩ := c4 i row e1
   refine ⟨by rw [h2, ← d1, e2], fun o y' ho => ?_⟩
   obtain ⟨y, e4, e5⟩ := e3 o y' ho
   obtain ⟨v, e6, e7⟩ := d2 o y e4
   exact ⟨v, by rw [h2]; exact e6, hr _ _ _ e5 e7⟩
 inj j j' τ1 τ2 β β' r r' hj hj' hμ hμ' e := by
  obtain ⟨n1, r1, h1, _⟩ := hσ j τ1 r hj
  obtain ⟨n2, r2, h2, _⟩ := hσ j' τ2 r' hj'
  exact hw.inj j j' τ1 τ2 β β' r1 r2 (by rw [Store.del_ne _ n1]; exact h1) (by rw [Store.del_ne _ n2]; exact h2) hμ hμ' e
 keep := hw.keep
 size := hw.size
 tape := hw.tape
 os := hw.os
 output := hw.output
 g0 := hw.g0
 new := hw.new
 bound := hw.bound
 low := hw.low
theorem SRel.freeze {C : Cx} {G : Gh} {tm' : Tm} {σ' : Store} {a : Act} {w : World} {k s : Nat} {τ : Stamp} {rows : List (List TV)} (hs : SRel n C G tm σ a w) (hk : σ k = some (τ, ⟨s, rows.map fun r => r.map .d⟩)) (ht : FrozT k τ s rows tm tm') (hσ : FrozS k τ s rows σ σ') :
  ∃ G', G.le G' ∧ G'.μ = G.μ ∧ SRel n C G' tm' σ' a w := by
 have fin : ∀ G', G.le G' → WRel C.Γ G' (σ.del k) w → ((G'.μ k τ = some none ∧ rows = []) ∨ ∃ β, G'.μ k τ = some (some β) ∧ ∀ i row, rows[i]? = some row → row.length = s ∧ RepC G'.M row β.b (i * s)) → SRel n C G' tm' σ' a w := fun G' hle hw hc => by
  have hr : ∀ y y' x, Froz k τ s rows y y' → RepO G' y x → RepO G' y' x := fun y y' x hf hx => hf.rep (Gh.le.refl G') hc hx
  refine ⟨hs.size, hs.defers, fun t y' hy => ?_, hw.froz hσ hr, hs.fix, hs.marks, fun i Y hi => ?_⟩
  ·obtain ⟨y, h1, h2⟩ := ht t y' hy
   rcases hs.tm t y h1 with ⟨i, Y, rfl⟩ | ⟨x, h3, h4⟩
   ·cases h2; exact Or.inl ⟨i, Y, rfl⟩
   ·exact Or.inr ⟨x, h3, hr _ _ _ h2 (h4.mono hle)⟩
  ·obtain ⟨y, h1, h2⟩ := ht GS _ hi
   cases h2
   exact ⟨(hs.gh i Y h1).1, (hs.gh i Y h1).2.1.trans hle, (hs.gh i Y h1).2.2⟩
 rcases hs.w.own k τ _ hk with ⟨h1, h2⟩ | ⟨β, h1, h2, h3, h4⟩
 ·exact ⟨G, Gh.le.refl G, rfl, fin G (Gh.le.refl G) (hs.w.del k) (Or.inl ⟨h1, List.map_eq_nil_iff.1 h2⟩)⟩
 ·obtain ⟨M', g1, g2, g3⟩ := hs.w.freeze hk h1
  refine ⟨⟨M', G.μ, G.kn.mono g1⟩, ⟨g1, fun _ _ _ e => e⟩, rfl, fin _ ⟨g1, fun _ _ _ e => e⟩ g2 (Or.inr ⟨β, h1, fun i row hi => ?_⟩)⟩
  obtain ⟨e1, e2⟩ := g3 i (row.map .d) (by simp [hi])
  refine ⟨by simpa using e1, RepC.of_get fun o t ho => ?_⟩
  obtain ⟨v, e3, e4⟩ := e2 o (.d t) (by simp [ho])
  rw [RepO] at e4
  exact ⟨v, e3, e4⟩
theorem eS {c : Code} (k : Nat) (τ : Stamp) (s : Nat) (rows : List (List TV)) (tm' : Tm) (σ' : Store) (hk : σ k = some (τ, ⟨s, rows.map fun r => r.map .d⟩)) (ht : FrozT k τ s rows tm tm') (hσ : FrozS k τ s rows σ σ') (h : awp P n c Q tm' σ') : awp P n c Q tm σ := fun C ro G a w hro hs => by
 obtain ⟨G', _, _, hs'⟩ := hs.freeze hk ht hσ
 exact h C ro G' a w hro hs'
theorem mV {k s : Nat} {τ : Stamp} {rows : List (List TV)} : FrozT k τ s rows tm (tmL []) := fun t y h => by cases h
theorem dH {k s d : Nat} {τ : Stamp} {rows : List (List TV)} {y y' : OV} {l : List (Nat × OV)} (h : tm d = some y) (hf : Froz k τ s rows y y') (hl : FrozT k τ s rows tm (tmL l)) : FrozT k τ s rows tm (tmL ((d, y') :: l)) := fun t z hz => by
 unfold tmL at hz
 cases hb : Nat.beq t d with
 | true => rw [hb] at hz; cases hz; rw [Nat.eq_of_beq_eq_true hb]; exact ⟨y, h, hf⟩
 | false => rw [hb] at hz; exact hl t z hz
theorem FrozR.same {k s : Nat} {τ : Stamp} {rows : List (List TV)} (r : Row) : FrozR k τ s rows r r := ⟨rfl, rfl, fun i row h => ⟨row, h, rfl, fun o y ho => ⟨y, ho, .same y⟩⟩⟩
theorem iB {k s : Nat} {τ : Stamp} {rows : List (List TV)} : FrozS k τ s rows σ (stL []) := fun j τ' r h => by cases h
theorem dI {k s m : Nat} {τ : Stamp} {rows : List (List TV)} (h : m = rows.length) : Froz k τ s rows (.os k τ s m) (.d (.sl s rows)) := by subst h; exact .os
end
section
variable {E : Env} {v j : Nat} {ops : Array Oper} {K : Tm → Store → Prop} {KD : List Foot → Tm → Store → Prop} {acc : List Foot} {rest : List Oper} {tm : Tm} {σ : Store} {ty : TypeId} {pos : String} {af : Array Edge} {gd : Option (Nat × Bool)} {dst : Option Tmp}
theorem ao_cons_app {o : Oper} {l1 l2 : List Oper} (h : AO E.P v ops K j (o :: List.append l1 l2) tm σ) : AO E.P v ops K j (List.append (o :: l1) l2) tm σ := h
theorem ao_nil_app {l2 : List Oper} (h : AO E.P v ops K j l2 tm σ) : AO E.P v ops K j (List.append [] l2) tm σ := h
theorem ao_app_app {l1 l2 l3 : List Oper} (h : AO E.P v ops K j (List.append l1 (List.append l2 l3)) tm σ) : AO E.P v ops K j (List.append (List.append l1 l2) l3) tm σ := by
 have e : List.append (List.append l1 l2) l3 = List.append l1 (List.append l2 l3) := List.append_assoc l1 l2 l3
 rw [e]; exact h
theorem do_cons_app {o : Oper} {l1 l2 : List Oper} (h : DO E.P v ops KD j (o :: List.append l1 l2) tm σ acc) : DO E.P v ops KD j (List.append (o :: l1) l2) tm σ acc := h
theorem do_nil_app {l2 : List Oper} (h : DO E.P v ops KD j l2 tm σ acc) : DO E.P v ops KD j (List.append [] l2) tm σ acc := h
theorem do_app_app {l1 l2 l3 : List Oper} (h : DO E.P v ops KD j (List.append l1 (List.append l2 l3)) tm σ acc) : DO E.P v ops KD j (List.append (List.append l1 l2) l3) tm σ acc := by
 have e : List.append (List.append l1 l2) l3 = List.append l1 (List.append l2 l3) := List.append_assoc l1 l2 l3
 rw [e]; exact h
structure Frozen (t : Nat) : Prop where
 ok : True
theorem nI {t k s m : Nat} {τ : Stamp} {rows : List (List TV)} (hm : Frozen t) (hx : tm t = some (.os k τ s m)) (hk : σ k = some (τ, ⟨s, rows.map fun r => r.map .d⟩)) (hl : m = rows.length) :
  YL E.P v j ⟨dst, .move (.tmp t), ty, pos, af, gd⟩ tm σ [k] (.d (.sl s rows)) [(k, none)] := fun σ' hσ Γ G ρ w hv hfr hρ hw => by
 have hk' : σ' k = some (τ, ⟨s, rows.map fun r => r.map .d⟩) := by rw [hσ k (by simp)]; exact hk
 have hr := hρ (.tmp t) (by simp [Op.operands]) _ hx
 have h2 : (execOp ρ ⟨dst, .move (.tmp t), ty, pos, af, gd⟩).run E.P w = .ok (.value (ρ (.tmp t))) w := by simp [execOp]
 rw [h2]
 rcases hw.own k τ _ hk' with ⟨h1, h3⟩ | ⟨β, h1, _⟩
 ·exact ⟨G, Gh.le.refl G, fun _ _ _ _ _ => rfl, (dI hl).rep (Gh.le.refl G) (Or.inl ⟨h1, List.map_eq_nil_iff.1 h3⟩) hr, hw.del k⟩
 ·obtain ⟨M', g1, g2, g3⟩ := hw.freeze hk' h1
  have hle : G.le ⟨M', G.μ, G.kn.mono g1⟩ := ⟨g1, fun _ _ _ e => e⟩
  refine ⟨⟨M', G.μ, G.kn.mono g1⟩, hle, fun _ _ _ _ _ => rfl, (dI hl).rep hle (Or.inr ⟨β, h1, fun i row hi => ?_⟩) hr, g2⟩
  obtain ⟨e1, e2⟩ := g3 i (row.map .d) (by simp [hi])
  refine ⟨by simpa using e1, RepC.of_get fun o t ho => ?_⟩
  obtain ⟨v, e3, e4⟩ := e2 o (.d t) (by simp [ho])
  rw [RepO] at e4
  exact ⟨v, e3, e4⟩
structure FzR (a : List (List OV)) (b : List (List TV)) : Prop where
 eq : a = b.map fun r => r.map .d
structure FzC (a : List OV) (b : List TV) : Prop where
 eq : a = b.map .d
theorem FzC.nil : FzC [] [] := ⟨rfl⟩
theorem FzC.cons {t : TV} {a : List OV} {b : List TV} (h : FzC a b) : FzC (.d t :: a) (t :: b) := ⟨by rw [h.eq]; rfl⟩
theorem FzC.map (b : List TV) : FzC (b.map .d) b := ⟨rfl⟩
theorem FzR.nil : FzR [] [] := ⟨rfl⟩
theorem FzR.cons {r : List OV} {t : List TV} {a : List (List OV)} {b : List (List TV)} (h1 : FzC r t) (h : FzR a b) : FzR (r :: a) (t :: b) := ⟨by rw [h1.eq, h.eq]; rfl⟩
theorem FzR.app {a a' : List (List OV)} {b b' : List (List TV)} (h : FzR a b) (h' : FzR a' b') : FzR (a ++ a') (b ++ b') := ⟨by rw [h.eq, h'.eq, List.map_append]⟩
theorem FzR.d (b : List (List TV)) : FzR (b.map fun r => r.map .d) b := ⟨rfl⟩
theorem FzR.take {a : List (List OV)} {b : List (List TV)} (n : Nat) (h : FzR a b) : FzR (a.take n) (b.take n) := ⟨by rw [h.eq, List.map_take]⟩
theorem FzR.drop {a : List (List OV)} {b : List (List TV)} (n : Nat) (h : FzR a b) : FzR (a.drop n) (b.drop n) := ⟨by rw [h.eq, List.map_drop]⟩
theorem FzR.of {α : Type} {f : α → List OV} {g : α → List TV} (h : ∀ a, f a = (g a).map .d) (l : List α) : FzR (l.map f) (l.map g) := ⟨by rw [List.map_map]; exact List.map_congr_left fun a _ => h a⟩
theorem FzR.ints (l : List Int) : FzR (l.map (cellO .i64)) (l.map cell) := FzR.of (f := cellO .i64) (g := cell) (fun _ => rfl) l
theorem S_mvfz {t k s m : Nat} {τ : Stamp} {a : List (List OV)} {rows : List (List TV)} (hm : Frozen t) (hx : tm t = some (.os k τ s m)) (hk : σ k = some (τ, ⟨s, a⟩)) (hr : FzR a rows) (hl : m = a.length)
  (hcont : AO E.P v ops K (j + 1) rest (tm.putO dst (.d (.sl s rows))) (σ.apply [(k, none)])) : AO E.P v ops K j (⟨dst, .move (.tmp t), ty, pos, af, none⟩ :: rest) tm σ := uB (nI hm hx (by rw [hk, hr.eq]) (by rw [hl, hr.eq, List.length_map])) hcont
theorem D_mvfz {t k s m : Nat} {τ : Stamp} {a : List (List OV)} {rows : List (List TV)} (hm : Frozen t) (hx : tm t = some (.os k τ s m)) (hk : σ k = some (τ, ⟨s, a⟩)) (hr : FzR a rows) (hl : m = a.length)
  (hcont : DO E.P v ops KD (j + 1) rest (tm.putO dst (.d (.sl s rows))) (σ.apply [(k, none)]) (Foot.mk [k] (wkeys [(k, none)]) :: acc)) : DO E.P v ops KD j (⟨dst, .move (.tmp t), ty, pos, af, none⟩ :: rest) tm σ acc := uC (nI hm hx (by rw [hk, hr.eq]) (by rw [hl, hr.eq, List.length_map])) hcont
end
def FnW (P : Program) (f : FuncId) (args : List OV) (σ0 : Store) (R : OV → Store → Prop) : Prop :=
 Enters P f ∧ ∀ (G : Gh) (w : World) (vs : List Value) (N : Nat), RepOL G args vs → WRel ⟨w, Blks G σ0, G, N⟩ G σ0 w →
  Calls P f vs.toArray w (fun e w' => ∃ x G' r σ', e = .returned x ∧ R r σ' ∧ G.le G' ∧ RepO G' r x ∧ WRel ⟨w, Blks G σ0, G, N⟩ G' σ' w')
theorem FnW.toR {P : Program} {f : FuncId} {args : List OV} {R : OV → Store → Prop} (h : FnW P f args Store.nil R) : FnR P f args R :=
 ⟨h.1, fun G w vs N h1 h2 => by
  have := h.2 G w vs N h1
  rw [blks_nil] at this
  exact this h2⟩
def Behind (σ σ0 σ1 σ' : Store) : Prop := ∀ k τ r, σ' k = some (τ, r) → (σ0 k = none ∧ σ k = some (τ, r)) ∨ (σ1 k = some (τ, r) ∧ ∃ r0, σ0 k = some (τ, r0))
theorem WRel.backW {Γ : Ctx} {G G' : Gh} {σ σ0 σ1 σ' : Store} {w w' : World} {N : Nat} (h : WRel Γ G σ w) (hle : σ0.le σ) (h' : WRel ⟨w, Blks G σ0, G, N⟩ G' σ1 w') (hN : Γ.N ≤ N) (hb : Behind σ σ0 σ1 σ') : WRel Γ G' σ' w' := by
 have own' : ∀ k τ r β, σ k = some (τ, r) → G'.μ k τ = some (some β) → G.μ k τ = some (some β) := fun k τ r β hk hμ => by
  rcases h.own k τ r hk with ⟨h1, h2⟩ | ⟨β0, h1, h2⟩
  ·have := h'.g0.2 _ _ _ h1; rw [hμ] at this; cases this
  ·have := h'.g0.2 _ _ _ h1; rw [hμ] at this; cases this; exact h1
 have old : ∀ k τ r, σ' k = some (τ, r) → ∃ r0, σ k = some (τ, r0) := fun k τ r hk => by
  rcases hb k τ r hk with ⟨_, h1⟩ | ⟨_, r0, h1⟩
  ·exact ⟨r, h1⟩
  ·exact ⟨r0, hle _ _ h1⟩
 have blk : ∀ b, Blks G σ0 b → Γ.w0.heap.size ≤ b ∨ Γ.S b := fun b ⟨k, τ, r, β, h1, h2, h3⟩ => by
  rcases h.own k τ r (hle _ _ h1) with ⟨g1, _⟩ | ⟨β0, g1, _, _, g2⟩
  ·rw [h2] at g1; cases g1
  ·rw [h2] at g1; cases g1; rw [← h3]; exact g2
 refine ⟨h'.mem, ?_, ?_, ?_, Nat.le_trans h.size h'.size, h'.tape.trans h.tape, h'.os.trans h.os, h'.output.trans h.output, h.g0.trans h'.g0, ?_, h'.bound, fun k v i hv => (h'.low k v i (Nat.lt_of_lt_of_le hv hN)).trans (h.low k v i hv)⟩
 ·intro k τ r hk
  rcases hb k τ r hk with ⟨h0, h1⟩ | ⟨h1, r0, h0⟩
  ·rcases h.own k τ r h1 with ⟨g1, g2⟩ | ⟨β, g1, g2, g3, g4⟩
   ·exact Or.inl ⟨h'.g0.2 _ _ _ g1, g2⟩
   ·have hn : ¬ Blks G σ0 β.b := fun ⟨k', τ', r', β', e1, e2, e3⟩ => by
     have := h.inj k' k τ' τ β' β r' r (hle _ _ e1) h1 e2 g1 e3
     subst this
     rw [h0] at e1; cases e1
    refine Or.inr ⟨β, h'.g0.2 _ _ _ g1, (g2.of_heap (h'.keep β.b g2.lt hn)).mono h'.g0, fun o => ?_, g4⟩
    cases hm : G'.M β.b o with
    | none => rfl
    | some x =>
     rcases h'.new _ _ _ hm with e | e | e
     ·have := g3 o; rw [show G.M β.b o = some x from e] at this; cases this
     ·have := g2.lt; exact (Nat.not_lt.2 e this).elim
     ·exact (hn e).elim
  ·rcases h'.own k τ r h1 with g | ⟨β, g1, g2, g3, _⟩
   ·exact Or.inl g
   ·have e1 := own' k τ r0 β (hle _ _ h0) g1
    exact Or.inr ⟨β, g1, g2, g3, blk _ ⟨k, τ, r0, β, h0, e1, rfl⟩⟩
 ·intro k k' τ τ' β β' r r' hk hk' hμ hμ' e
  obtain ⟨r0, h1⟩ := old k τ r hk
  obtain ⟨r0', h1'⟩ := old k' τ' r' hk'
  exact h.inj k k' τ τ' β β' r0 r0' h1 h1' (own' _ _ _ _ h1 hμ) (own' _ _ _ _ h1' hμ') e
 ·intro b hb' hS
  refine (h'.keep b (Nat.lt_of_lt_of_le hb' h.size) fun hB => ?_).trans (h.keep b hb' hS)
  rcases blk b hB with e | e
  ·exact Nat.not_lt.2 e hb'
  ·exact hS e
 ·intro b o x hm
  rcases h'.new b o x hm with e | e | e
  ·exact h.new b o x e
  ·exact Or.inr (Or.inl (Nat.le_trans h.size e))
  ·exact Or.inr (blk b e)
section
variable {P : Program} {v j : Nat} {tm : Tm} {σ : Store} {dst : Option Tmp} {ty : TypeId} {pos : String} {af : Array Edge} {gd : Option (Nat × Bool)} {K : OV → Store → Prop}
theorem call_coreW {x : Operand} {xs : List Operand} {tys : Array TypeId} {y : OV} {f : FuncId} {fi ca ys : List OV} {σ0 : Store} {R : OV → Store → Prop} (hx : ev tm x = some y) (hf : IsFn y f fi ca) (ha : evs tm xs = some ys) (hc : FnW P f (fi ++ ys ++ ca) σ0 R)
  {Γ : Ctx} {G : Gh} {ρ : Operand → Value} {w : World} (hρ : ∀ z ∈ (Op.call { callee := .value x, args := xs.toArray, argTypes := tys }).operands, ∀ y, ev tm z = some y → RepO G y (ρ z)) (hw : WRel Γ G σ w) (hle : σ0.le σ) :
  ∃ f' args, (execOp ρ ⟨dst, .call { callee := .value x, args := xs.toArray, argTypes := tys }, ty, pos, af, gd⟩).run P w = .ok (.enter f' args) w ∧
   Calls P f' args w (fun e w' => ∃ x G' r σ', e = .returned x ∧ R r σ' ∧ G.le G' ∧ RepO G' r x ∧ WRel ⟨w, Blks G σ0, G, v + 1⟩ G' σ' w') := by
 obtain ⟨vs, us, h1, h2, h3⟩ := hf.rep (hρ x (by simp [Op.operands, Call.operands]) y hx)
 have h4 := bL ha fun z hz => hρ z (by simp [Op.operands, Call.operands, hz])
 refine ⟨f, _, iZ h1 hc.1, ?_⟩
 have h5 := hc.2 G w (vs.toList ++ xs.map ρ ++ us.toList) (v + 1) ((h2.append h4).append h3) (hw.startW hle (v + 1))
 have e : (vs.toList ++ xs.map ρ ++ us.toList).toArray = vs ++ (xs.map ρ).toArray ++ us := by simp
 rw [e] at h5
 exact h5
def outD (l1 : List (Nat × (Stamp × Row))) : Diff := l1.map fun e => (e.1, some e.2)
def keysOf (l : List (Nat × (Stamp × Row))) : List (Nat × Stamp) := l.map fun e => (e.1, e.2.1)
theorem kY : ∀ {l : List (Nat × (Stamp × Row))} {k : Nat} {x : Stamp × Row}, stL l k = some x → k ∈ l.map (·.1)
 | [], k, x, h => by cases h
 | (d, y) :: l, k, x, h => by
  unfold stL at h
  cases hb : Nat.beq k d with
  | true => rw [Nat.eq_of_beq_eq_true hb]; simp
  | false => rw [hb] at h; simp [kY (show stL l k = some x from h)]
theorem iW : ∀ {l : List (Nat × (Stamp × Row))} {k : Nat}, k ∉ l.map (·.1) → stL l k = none
 | [], k, h => rfl
 | (d, y) :: l, k, h => by
  unfold stL
  simp only [List.map_cons, List.mem_cons, not_or] at h
  rw [cC h.1]
  exact iW h.2
theorem stL_cons (d : Nat) (y : Stamp × Row) (l : List (Nat × (Stamp × Row))) (k : Nat) : stL ((d, y) :: l) k = bif Nat.beq k d then some y else stL l k := rfl
theorem eT : ∀ (l : List (Nat × (Stamp × Row))) (σ : Store) (k : Nat), (l.map (·.1)).Nodup → (σ.apply (outD l)) k = match stL l k with | some x => some x | none => σ k
 | [], σ, k, _ => rfl
 | (d, y) :: l, σ, k, hn => by
  simp only [List.map_cons, List.nodup_cons] at hn
  have ih := eT l (σ.put d y) k hn.2
  show (Store.apply (σ.put d y) (outD l)) k = _
  rw [ih, stL_cons]
  cases hb : Nat.beq k d with
  | true =>
   have e := Nat.eq_of_beq_eq_true hb
   subst e
   rw [iW hn.1]
   exact Store.put_self σ k y
  | false =>
   have h1 : σ.put d y k = σ k := by simp [Store.put, hb]
   rw [h1]; rfl
theorem aN : ∀ {l0 l1 : List (Nat × (Stamp × Row))}, keysOf l0 = keysOf l1 → ∀ {k : Nat} {x : Stamp × Row}, stL l1 k = some x → ∃ r0, stL l0 k = some (x.1, r0)
 | [], [], _, k, x, h => by cases h
 | [], _ :: _, e, _, _, _ => by cases e
 | _ :: _, [], e, _, _, _ => by cases e
 | (d0, y0) :: l0, (d1, y1) :: l1, e, k, x, h => by
  simp only [keysOf, List.map_cons, List.cons.injEq, Prod.mk.injEq] at e
  obtain ⟨⟨rfl, e2⟩, e3⟩ := e
  unfold stL at h ⊢
  cases hb : Nat.beq k d0 with
  | true =>
   rw [hb] at h
   cases h
   exact ⟨y0.2, by rw [← e2]; rfl⟩
  | false =>
   rw [hb] at h
   exact aN e3 h
theorem keys_none {l0 l1 : List (Nat × (Stamp × Row))} (e : keysOf l0 = keysOf l1) {k : Nat} (h : stL l1 k = none) : stL l0 k = none := by
 cases hh : stL l0 k with
 | none => rfl
 | some x =>
  obtain ⟨r0, h1⟩ := aN e.symm hh
  rw [h] at h1; cases h1
def IsW (r : OV) (σ1 : Store) : OV → Store → Prop := fun r' σ' => r' = r ∧ σ1.le σ'
theorem Y_callw {x : Operand} {xs : List Operand} {tys : Array TypeId} {y : OV} {f : FuncId} {fi ca ys : List OV} {r : OV} {l0 l1 : List (Nat × (Stamp × Row))} (hx : ev tm x = some y) (hf : IsFn y f fi ca) (ha : evs tm xs = some ys) (hc : FnW P f (fi ++ ys ++ ca) (stL l0) (IsW r (stL l1)))
  (hle : (stL l0).le σ) (hk : keysOf l0 = keysOf l1) (hn : (l1.map (·.1)).Nodup) :
  YL P v j ⟨dst, .call { callee := .value x, args := xs.toArray, argTypes := tys }, ty, pos, af, gd⟩ tm σ (l0.map (·.1)) r (outD l1) := fun σ' hσ Γ G ρ w hv _ hρ hw => by
 have hle' : (stL l0).le σ' := fun k x hx => by rw [hσ k (kY hx)]; exact hle k x hx
 obtain ⟨f', args, h1, h2⟩ := call_coreW (v := v) hx hf ha hc hρ hw hle'
 rw [h1]
 refine h2.mono fun e w' ⟨x, G', r', σ2, h3, ⟨h4, h4'⟩, h5, h6, h7⟩ => ⟨x, h3, G', h5, fun k v' i hv' _ => h7.low k v' i (Nat.lt_succ_of_le hv'), by rw [← h4]; exact h6, hw.backW hle' h7 (Nat.le_succ_of_le hv) fun k τ r hkr => ?_⟩
 rw [eT l1 σ' k hn] at hkr
 cases h8 : stL l1 k with
 | some x =>
  rw [h8] at hkr
  cases hkr
  exact Or.inr ⟨h4' _ _ h8, aN hk h8⟩
 | none =>
  rw [h8] at hkr
  exact Or.inl ⟨keys_none hk h8, hkr⟩
end
theorem jO {P : Program} {f : FuncId} {fn : Func} {c : Code} {n : Nat} {args : List OV} {σ0 : Store} {Q : Exit → Tm → Store → Prop} {R : OV → Store → Prop} (hf : P.funcs[f]? = some fn) (hname : (fn.name == "runtime.NumGoroutine") = false) (hb : fn.body = some c) (hn : fn.ntmps = n) (hl : args.length ≤ n)
  (hq : ∀ e G tm σ C a w, SRel n C G tm σ a w → Q e tm σ → (e = .normal ∨ e = .ret) ∧ ∃ x r, (results fn a.tmps).run P w = .ok x w ∧ RepO G r x ∧ R r σ)
  (h : awp P n c Q (Tm.ini args) σ0) : FnW P f args σ0 R :=
 ⟨⟨fn, hf, hname, by rw [hb]; rfl⟩, fun G w vs N hv hw => eQ hf hb hn hl h hv rfl hw rfl hq⟩
def Done0 (R : OV → Store → Prop) : Exit → Tm → Store → Prop
 | .normal, _, σ => R (.tu []) σ
 | .ret, _, σ => R (.tu []) σ
 | _, _, _ => False
theorem fnw_of_awp0 {P : Program} {f : FuncId} {fn : Func} {c : Code} {n : Nat} {args : List OV} {σ0 : Store} {R : OV → Store → Prop} (hf : P.funcs[f]? = some fn) (hname : (fn.name == "runtime.NumGoroutine") = false) (hb : fn.body = some c) (hn : fn.ntmps = n) (hl : args.length ≤ n) (hr : fn.results = #[])
  (h : awp P n c (Done0 R) (Tm.ini args) σ0) : FnW P f args σ0 R := by
 refine jO hf hname hb hn hl (fun e G tm σ Γ a w hs hd => ?_) h
 have key : R (.tu []) σ → ∃ x r, (results fn a.tmps).run P w = .ok x w ∧ RepO G r x ∧ R r σ := fun h1 => by
  refine ⟨.tuple #[], .tu [], ?_, ?_, h1⟩
  ·simp [results, hr]
  ·rw [RepO]; exact ⟨#[], rfl, by rw [RepOL]⟩
 cases e <;> first | exact hd.elim | exact ⟨by simp, key hd⟩
section
variable {E : Env} {v j : Nat} {ops : Array Oper} {K : Tm → Store → Prop} {KD : List Foot → Tm → Store → Prop} {acc : List Foot} {rest : List Oper} {tm : Tm} {σ : Store} {ty : TypeId} {pos : String} {af : Array Edge} {gd : Option (Nat × Bool)} {dst : Option Tmp}
theorem iT {x : Operand} {xs : List Operand} {tys : Array TypeId} {y : OV} {f : FuncId} {fi ca ys : List OV} {r : OV} {l0 l1 : List (Nat × (Stamp × Row))} (hx : ev tm x = some y) (hf : IsFn y f fi ca) (ha : evs tm xs = some ys) (hc : FnW E.P f (fi ++ ys ++ ca) (stL l0) (IsW r (stL l1)))
  (hle : (stL l0).le σ) (hk : keysOf l0 = keysOf l1) (hn : (l1.map (·.1)).Nodup)
  (hcont : AO E.P v ops K (j + 1) rest (tm.putO dst r) (σ.apply (outD l1))) : AO E.P v ops K j (⟨dst, .call { callee := .value x, args := xs.toArray, argTypes := tys }, ty, pos, af, none⟩ :: rest) tm σ := uB (Y_callw hx hf ha hc hle hk hn) hcont
end
def dels (l0 : List (Nat × (Stamp × Row))) : Diff := l0.map fun e => (e.1, none)
def IsX {X : Type} (I : X → Prop) (r0 : X → OV) (l1 : X → List (Nat × (Stamp × Row))) : OV → Store → Prop := fun r σ' => ∃ x, I x ∧ r = r0 x ∧ (stL (l1 x)).le σ'
section
variable {P : Program} {v j : Nat} {tm : Tm} {σ : Store} {dst : Option Tmp} {ty : TypeId} {pos : String} {af : Array Edge} {gd : Option (Nat × Bool)} {K : OV → Store → Prop}
end
section
variable {E : Env} {v j : Nat} {ops : Array Oper} {K : Tm → Store → Prop} {KD : List Foot → Tm → Store → Prop} {acc : List Foot} {rest : List Oper} {tm : Tm} {σ : Store} {ty : TypeId} {pos : String} {af : Array Edge} {gd : Option (Nat × Bool)} {dst : Option Tmp}
end
section
variable {E : Env} {v j : Nat} {ops : Array Oper} {K : Tm → Store → Prop} {KD : List Foot → Tm → Store → Prop} {acc : List Foot} {rest : List Oper} {tm : Tm} {σ : Store} {ty : TypeId} {pos : String} {af : Array Edge} {gd : Option (Nat × Bool)} {dst : Option Tmp}
structure KeyOf (d k : Nat) : Prop where
 ok : True
theorem kD {d k : Nat} {T : TypeId} {te : TE} (hm : KeyOf d k) (hT : E.tab T = some te) : YL E.P v j ⟨some d, .alloc T, ty, pos, af, gd⟩ tm σ [] (.lo k (v, j) te.size 0 0) [(k, some ((v, j), ⟨te.size, [consts te.zero]⟩))] :=
 fun σ _ Γ G ρ w hv hf _ hw => by
 obtain ⟨z, hz, hzc⟩ := vW (E.ok T te hT) w
 obtain ⟨_, i, z', _, _, _, _, _, hlen, hone⟩ := E.ok T te hT
 have hr : (execOp ρ ⟨some d, .alloc T, ty, pos, af, gd⟩).run E.P w = .ok (.value (.pointer (some ⟨w.heap.size, 0, none⟩))) (w.alloc (.cells z.cells T)) := by
  simp only [execOp, Instr.alloc, Sem.run_bind, hz, Result.andThen_ok, newVar, newRow, run_newObj, Sem.run_pure]; rfl
 rw [hr]
 have hsz : z.cells.size = te.size := by rw [← Array.length_toList, hzc, hlen]
 refine Leaves.alloc hw hv hf z.cells T (by simp [hsz]) (RowAt.one (by rw [hzc]; exact wV hone) (by simp [consts, hlen])) ?_
 rw [RepO]
 exact ⟨_, Gh.name_self _ _ _ _, by simp⟩
theorem nS {d k : Nat} {T : TypeId} {x : Operand} {y : OV} {n : Nat} (hm : KeyOf d k) (hx : ev tm x = some y) (hw' : y.wide = true) (hn : y.cells.length = n) : YL E.P v j ⟨some d, .box T x, ty, pos, af, gd⟩ tm σ [] (.lo k (v, j) n 0 0) [(k, some ((v, j), ⟨n, [y.cells]⟩))] :=
 fun σ _ Γ G ρ w hv hf hρ hw => by
 obtain ⟨h1, h2⟩ := (hρ x (by simp [Op.operands]) _ hx).cells hw'
 have hr : (execOp ρ ⟨some d, .box T x, ty, pos, af, gd⟩).run E.P w = .ok (.value (.pointer (some ⟨w.heap.size, 0, none⟩))) (w.alloc (.cells (ρ x).cells T)) := by
  simp only [execOp, Instr.box, Sem.run_bind, Result.andThen_ok, newVar, newRow, run_newObj, Sem.run_pure]; rfl
 rw [hr]
 refine Leaves.alloc hw hv hf _ T (by have := h1.length; simp at this; simp; omega) (RowAt.one h1 hn) ?_
 rw [RepO]
 exact ⟨_, Gh.name_self _ _ _ _, by simp⟩
theorem S_allocK {d k : Nat} {T : TypeId} {te : TE} (hm : KeyOf d k) (hT : E.tab T = some te) (hcont : AO E.P v ops K (j + 1) rest (tm.putO (some d) (.lo k (v, j) te.size 0 0)) (σ.apply [(k, some ((v, j), ⟨te.size, [consts te.zero]⟩))])) : AO E.P v ops K j (⟨some d, .alloc T, ty, pos, af, none⟩ :: rest) tm σ := uB (kD hm hT) hcont
theorem D_allocK {d k : Nat} {T : TypeId} {te : TE} (hm : KeyOf d k) (hT : E.tab T = some te) (hcont : DO E.P v ops KD (j + 1) rest (tm.putO (some d) (.lo k (v, j) te.size 0 0)) (σ.apply [(k, some ((v, j), ⟨te.size, [consts te.zero]⟩))]) (Foot.mk [] (wkeys [(k, some ((v, j), ⟨te.size, [consts te.zero]⟩))]) :: acc)) : DO E.P v ops KD j (⟨some d, .alloc T, ty, pos, af, none⟩ :: rest) tm σ acc := uC (kD hm hT) hcont
theorem S_boxK {d k : Nat} {T : TypeId} {x : Operand} {y : OV} {n : Nat} (hm : KeyOf d k) (hx : ev tm x = some y) (hw' : y.wide = true) (hn : y.cells.length = n) (hcont : AO E.P v ops K (j + 1) rest (tm.putO (some d) (.lo k (v, j) n 0 0)) (σ.apply [(k, some ((v, j), ⟨n, [y.cells]⟩))])) : AO E.P v ops K j (⟨some d, .box T x, ty, pos, af, none⟩ :: rest) tm σ := uB (nS hm hx hw' hn) hcont
theorem D_boxK {d k : Nat} {T : TypeId} {x : Operand} {y : OV} {n : Nat} (hm : KeyOf d k) (hx : ev tm x = some y) (hw' : y.wide = true) (hn : y.cells.length = n) (hcont : DO E.P v ops KD (j + 1) rest (tm.putO (some d) (.lo k (v, j) n 0 0)) (σ.apply [(k, some ((v, j), ⟨n, [y.cells]⟩))]) (Foot.mk [] (wkeys [(k, some ((v, j), ⟨n, [y.cells]⟩))]) :: acc)) : DO E.P v ops KD j (⟨some d, .box T x, ty, pos, af, none⟩ :: rest) tm σ acc := uC (nS hm hx hw' hn) hcont
end
theorem ld_lo {E : Env} {Γ : Ctx} {G : Gh} {σ : Store} {w : World} (hw : WRel Γ G σ w) {T : TypeId} {te : TE} {k : Nat} {τ : Stamp} {s : Nat} {rows : List (List OV)} {row : List OV} {x : Value} (hT : E.tab T = some te) (hx : RepO G (.lo k τ s 0 0) x)
  (hs : σ k = some (τ, ⟨s, rows⟩)) (hr : rows[0]? = some row) (ha : te.k.isAgg = true) (hl : te.size = row.length) : ∃ v, (do loadVar T (← asAddr x) : Sem Value).run E.P w = .ok v w ∧ RepO G (.ag row) v := by
 rw [RepO] at hx
 obtain ⟨β, hμ, h1⟩ := hx
 obtain ⟨cs, h2, h3, h4, h5⟩ := hw.blk hs hμ
 have hget : ∀ j, j < te.size → ∃ v, w.cell? ⟨β.b, 0 * s + 0 + j, none⟩ = some v ∧ ∃ t, row[0 + j]? = some t ∧ RepO G t v := fun j hj => by
  obtain ⟨v, h6, h7⟩ := (h5 0 row hr).2 (0 + j) _ (List.getElem?_eq_getElem (l := row) (i := 0 + j) (by omega))
  exact ⟨v, by simpa [World.cell?, h2, Nat.add_assoc] using h6, _, List.getElem?_eq_getElem (by omega), h7⟩
 have hv : ∀ j, j < te.size → w.cell? ((⟨β.b, 0 * s + 0, none⟩ : Addr).add j) = some ((w.cell? ⟨β.b, 0 * s + 0 + j, none⟩).getD undef) := fun j hj => by
  obtain ⟨v, h3, _⟩ := hget j hj
  rw [vY, h3]; rfl
 have hr' := run_loadCells (P := E.P) w ⟨β.b, 0 * s + 0, none⟩ te.size (fun j => (w.cell? ⟨β.b, 0 * s + 0 + j, none⟩).getD undef) hv
 refine ⟨.agg ((List.range te.size).map (fun j => (w.cell? ⟨β.b, 0 * s + 0 + j, none⟩).getD undef)).toArray, by simp only [h1, asAddr, loadVar, Sem.run_bind, Sem.run_pure, run_isAgg (E.ok T te hT), ha, Result.andThen_ok, if_true, uR (E.ok T te hT), hr'], ?_⟩
 rw [RepO]
 refine ⟨_, rfl, RepOL.of_get (by simp; omega) fun i t v h3 h4 => ?_⟩
 have hi : i < te.size := by
  rcases Nat.lt_or_ge i te.size with h | h
  ·exact h
  ·rw [List.getElem?_eq_none (by simp; omega)] at h4; cases h4
 obtain ⟨u, h5, t', h6, h7⟩ := hget i hi
 have h5' : w.cell? ⟨β.b, i, none⟩ = some u := by simpa using h5
 have e1 : v = u := by simpa [hi, h5'] using h4.symm
 rw [Nat.zero_add, h3] at h6
 cases h6
 rw [e1]; exact h7
def ResAt (E : Env) (tm : Tm) (σ : Store) : ResultVar → OV → Prop
 | .tmp t, r => tm t = some r
 | .cell t T, r => ∃ te k τ row rest, E.tab T = some te ∧ te.k.isAgg = true ∧ te.size = row.length ∧ tm t = some (.lo k τ te.size 0 0) ∧ σ k = some (τ, ⟨te.size, row :: rest⟩) ∧ r = .ag row
def ResAll (E : Env) (tm : Tm) (σ : Store) : List ResultVar → List OV → Prop
 | [], rs => rs = []
 | v :: vs, rs => ∃ r rs', rs = r :: rs' ∧ ResAt E tm σ v r ∧ ResAll E tm σ vs rs'
def packO : List OV → OV
 | [r] => r
 | rs => .tu rs
def DoneN (E : Env) (vs : List ResultVar) (R : OV → Store → Prop) : Exit → Tm → Store → Prop
 | .normal, tm, σ => ∃ rs, ResAll E tm σ vs rs ∧ R (packO rs) σ
 | .ret, tm, σ => ∃ rs, ResAll E tm σ vs rs ∧ R (packO rs) σ
 | _, _, _ => False
def resOne (tmps : Array Value) : ResultVar → Sem Value
 | .tmp t => pure (tmps.getD t undef)
 | .cell a t => do loadVar t (← asAddr (tmps.getD a undef))
theorem res_one {E : Env} {n : Nat} {C : Cx} {G : Gh} {tm : Tm} {σ : Store} {a : Act} {w : World} (hs : SRel n C G tm σ a w) {v : ResultVar} {r : OV} (h : ResAt E tm σ v r) : ∃ x, (resOne a.tmps v).run E.P w = .ok x w ∧ RepO G r x := by
 cases v with
 | tmp t =>
  exact ⟨_, by simp only [resOne, Sem.run_pure], hs.tm.val h⟩
 | cell t T =>
  obtain ⟨te, k, τ, row, rest, h1, h2, h3, h4, h5, rfl⟩ := h
  have h7 := hs.tm.val h4
  simp only [resOne]
  exact ld_lo hs.w h1 h7 h5 rfl h2 h3
theorem kZ {E : Env} {n : Nat} {C : Cx} {G : Gh} {tm : Tm} {σ : Store} {a : Act} {w : World} (hs : SRel n C G tm σ a w) : ∀ {vs : List ResultVar} {rs : List OV}, ResAll E tm σ vs rs → ∃ xs, (vs.mapM (resOne a.tmps)).run E.P w = .ok xs w ∧ RepOL G rs xs
 | [], rs, h => by
  rw [ResAll] at h; subst h
  exact ⟨[], by simp, by rw [RepOL]⟩
 | v :: vs, rs, h => by
  rw [ResAll] at h
  obtain ⟨r, rs', rfl, h1, h2⟩ := h
  obtain ⟨x, h3, h4⟩ := res_one hs h1
  obtain ⟨xs, h5, h6⟩ := kZ hs h2
  exact ⟨x :: xs, by simp [List.mapM_cons, h3, h5], by rw [RepOL]; exact ⟨x, xs, rfl, h4, h6⟩⟩
def resVal (xs : List Value) : Value := if h : xs.toArray.size = 1 then xs.toArray[0] else .tuple xs.toArray
theorem results_eq (fn : Func) (tmps : Array Value) : results fn tmps = (fn.results.mapM (resOne tmps)) >>= fun vs => pure (if h : vs.size = 1 then vs[0] else .tuple vs) := by
 unfold results
 refine congrArg (· >>= _) (congrArg (fun f => Array.mapM f fn.results) (funext fun x => ?_))
 cases x <;> rfl
theorem results_run {P : Program} {w w' : World} {fn : Func} {vs : List ResultVar} {xs : List Value} (hr : fn.results = vs.toArray) (tmps : Array Value) (h : (vs.mapM (resOne tmps)).run P w = .ok xs w') : (results fn tmps).run P w = .ok (resVal xs) w' := by
 have e : (fn.results.mapM (resOne tmps)).run P w = .ok xs.toArray w' := by
  rw [hr, List.mapM_toArray]
  simp [h]
 rw [results_eq]
 simp only [Sem.run_bind, e, Result.andThen_ok, Sem.run_pure]
 rfl
theorem aP {E : Env} {f : FuncId} {fn : Func} {c : Code} {n : Nat} {vs : List ResultVar} {args : List OV} {σ0 : Store} {R : OV → Store → Prop} (hf : E.P.funcs[f]? = some fn) (hname : (fn.name == "runtime.NumGoroutine") = false) (hb : fn.body = some c) (hn : fn.ntmps = n) (hl : args.length ≤ n) (hr : fn.results = vs.toArray)
  (h : awp E.P n c (DoneN E vs R) (Tm.ini args) σ0) : FnW E.P f args σ0 R := by
 refine jO hf hname hb hn hl (fun e G tm σ Γ a w hs hd => ?_) h
 have key : (∃ rs, ResAll E tm σ vs rs ∧ R (packO rs) σ) → ∃ x r, (results fn a.tmps).run E.P w = .ok x w ∧ RepO G r x ∧ R r σ := fun ⟨rs, h1, h2⟩ => by
  obtain ⟨xs, h3, h4⟩ := kZ hs h1
  refine ⟨resVal xs, packO rs, results_run hr _ h3, ?_, h2⟩
  ·cases rs with
   | nil => rw [RepOL] at h4; subst h4; simp only [packO]; rw [RepO]; exact ⟨#[], rfl, by rw [RepOL]⟩
   | cons r rs =>
    rw [RepOL] at h4
    obtain ⟨x, xs', rfl, h5, h6⟩ := h4
    cases rs with
    | nil => rw [RepOL] at h6; subst h6; exact h5
    | cons r' rs =>
     have h7 := h6
     rw [RepOL] at h6
     obtain ⟨x', xs2, rfl, _, _⟩ := h6
     simp only [packO]
     rw [RepO]
     exact ⟨(x :: x' :: xs2).toArray, by simp [resVal], by rw [RepOL]; exact ⟨_, _, rfl, h5, h7⟩⟩
 cases e <;> first | exact hd.elim | exact ⟨by simp, key hd⟩
theorem vA {α β : Type} {f : α → β} {l : List α} {i j : Nat} {r : β} (h : i < l.length) (hne : j ≠ i) (d : α) : ((l.map f).set j r)[i]? = some (f (l.getD i d)) := by
 rw [List.getElem?_set_ne hne]; exact uI h d
theorem YL.dst {P : Program} {v j : Nat} {d d' : Option Tmp} {op : Op} {ty : TypeId} {pos : String} {af : Array Edge} {gd : Option (Nat × Bool)} {tm : Tm} {σ : Store} {ks : List Nat} {r : OV} {δ : Diff} (h : YL P v j ⟨d, op, ty, pos, af, gd⟩ tm σ ks r δ) : YL P v j ⟨d', op, ty, pos, af, gd⟩ tm σ ks r δ := h
theorem Leaves.frz {Γ : Ctx} {G : Gh} {v j : Nat} {σ : Store} {x : Value} {w : World} {k s n : Nat} {a : List (List OV)} {rows : List (List TV)} (hr : FzR a rows) (hn : n = a.length)
  (h : Leaves Γ G v j (.os k (v, j) s n) (σ.put k ((v, j), ⟨s, a⟩)) x w) : Leaves Γ G v j (.d (.sl s rows)) (σ.del k) x w := by
 obtain ⟨G', h1, h2, h3, h4⟩ := h
 have hk : (σ.put k ((v, j), ⟨s, a⟩)) k = some ((v, j), ⟨s, rows.map fun r => r.map .d⟩) := by rw [Store.put_self, hr.eq]
 have hl : n = rows.length := by rw [hn, hr.eq, List.length_map]
 have hdel : ∀ {G w}, WRel Γ G ((σ.put k ((v, j), ⟨s, a⟩)).del k) w → WRel Γ G (σ.del k) w := fun h => h.forget fun i y hi => by
  by_cases e : i = k
  ·subst e; rw [Store.del_self] at hi; cases hi
  ·rw [Store.del_ne _ e] at hi ⊢; rw [Store.put_ne _ _ e]; exact hi
 rcases h4.own k _ _ hk with ⟨g1, g3⟩ | ⟨β, g1, _⟩
 ·exact ⟨G', h1, h2, (dI hl).rep (Gh.le.refl G') (Or.inl ⟨g1, List.map_eq_nil_iff.1 g3⟩) h3, hdel (h4.del k)⟩
 ·obtain ⟨M', m1, m2, m3⟩ := h4.freeze hk g1
  have hle : G'.le ⟨M', G'.μ, G'.kn.mono m1⟩ := ⟨m1, fun _ _ _ e => e⟩
  refine ⟨⟨M', G'.μ, G'.kn.mono m1⟩, h1.trans hle, h2, (dI hl).rep hle (Or.inr ⟨β, g1, fun i row hi => ?_⟩) h3, hdel m2⟩
  obtain ⟨e1, e2⟩ := m3 i (row.map .d) (by simp [hi])
  refine ⟨by simpa using e1, RepC.of_get fun o t ho => ?_⟩
  obtain ⟨u, e3, e4⟩ := e2 o (.d t) (by simp [ho])
  rw [RepO] at e4
  exact ⟨u, e3, e4⟩
theorem YL.frz {P : Program} {v j : Nat} {o : Oper} {tm : Tm} {σ : Store} {ks : List Nat} {k s n : Nat} {a : List (List OV)} {rows : List (List TV)} (hr : FzR a rows) (hn : n = a.length)
  (h : YL P v j o tm σ ks (.os k (v, j) s n) [(k, some ((v, j), ⟨s, a⟩))]) : YL P v j o tm σ ks (.d (.sl s rows)) [(k, none)] := fun σ' hσ Γ G ρ w h1 h2 h3 h4 => by
 have := h σ' hσ Γ G ρ w h1 h2 h3 h4
 generalize (execOp ρ o).run P w = z at *
 cases z with
 | ok nx w =>
  cases nx <;> simp only [NextOk] at this ⊢
  case value x => exact Leaves.frz hr hn this
  case skip => exact Leaves.frz hr hn this
  case enter f args => exact this.mono fun e w' ⟨x, g1, g2⟩ => ⟨x, g1, Leaves.frz hr hn g2⟩
 | halt x w => simp only [NextOk] at this
section
variable {E : Env} {v j : Nat} {ops : Array Oper} {K : Tm → Store → Prop} {KD : List Foot → Tm → Store → Prop} {acc : List Foot} {rest : List Oper} {tm : Tm} {σ : Store} {ty : TypeId} {pos : String} {af : Array Edge}
theorem S_buildSliceK {d kk : Nat} {T : TypeId} {n : Nat} {parts : List (Nat × Operand)} {te ee : TE} {e : TypeId} {ys : List (Nat × OV)} {cs : List OV} (hmk : KeyOf d kk) (hT : E.tab T = some te) (hk : te.k = .slice e) (hE : E.tab e = some ee) (hpos : 0 < ee.size) (hn : n * ee.size ≤ 16777216) (hn' : n ≤ maxLen) (hp : evParts tm parts = some ys) (hc : fillO (fun i => some (i * ee.size, ee.size)) ((List.replicate n (consts ee.zero)).flatten) ys = some cs) (hcont : AO E.P v ops K (j + 1) rest (tm.putO (some d) (.os kk (v, j) ee.size n)) (σ.apply [(kk, some ((v, j), ⟨ee.size, chop ee.size n cs⟩))])) : AO E.P v ops K j (⟨some d, .buildSlice T n parts.toArray, ty, pos, af, none⟩ :: rest) tm σ := uB (YL.dst (wB (d := kk) hT hk hE hpos hn hn' hp hc)) hcont
theorem S_buildSliceF {d : Nat} {rowsF : List (List TV)} {T : TypeId} {n : Nat} {parts : List (Nat × Operand)} {te ee : TE} {e : TypeId} {ys : List (Nat × OV)} {cs : List OV} (hmF : Frozen d) (hT : E.tab T = some te) (hk : te.k = .slice e) (hE : E.tab e = some ee) (hpos : 0 < ee.size) (hn : n * ee.size ≤ 16777216) (hn' : n ≤ maxLen) (hp : evParts tm parts = some ys) (hc : fillO (fun i => some (i * ee.size, ee.size)) ((List.replicate n (consts ee.zero)).flatten) ys = some cs) (hrF : FzR (chop ee.size n cs) rowsF) (hnF : n = (chop ee.size n cs).length) (hcont : AO E.P v ops K (j + 1) rest (tm.putO (some d) (.d (.sl ee.size rowsF))) (σ.apply [(d, none)])) : AO E.P v ops K j (⟨some d, .buildSlice T n parts.toArray, ty, pos, af, none⟩ :: rest) tm σ := uB (YL.frz hrF hnF (wB hT hk hE hpos hn hn' hp hc)) hcont
theorem D_buildSliceK {d kk : Nat} {T : TypeId} {n : Nat} {parts : List (Nat × Operand)} {te ee : TE} {e : TypeId} {ys : List (Nat × OV)} {cs : List OV} (hmk : KeyOf d kk) (hT : E.tab T = some te) (hk : te.k = .slice e) (hE : E.tab e = some ee) (hpos : 0 < ee.size) (hn : n * ee.size ≤ 16777216) (hn' : n ≤ maxLen) (hp : evParts tm parts = some ys) (hc : fillO (fun i => some (i * ee.size, ee.size)) ((List.replicate n (consts ee.zero)).flatten) ys = some cs) (hcont : DO E.P v ops KD (j + 1) rest (tm.putO (some d) (.os kk (v, j) ee.size n)) (σ.apply [(kk, some ((v, j), ⟨ee.size, chop ee.size n cs⟩))]) (Foot.mk [] (wkeys [(kk, some ((v, j), ⟨ee.size, chop ee.size n cs⟩))]) :: acc)) : DO E.P v ops KD j (⟨some d, .buildSlice T n parts.toArray, ty, pos, af, none⟩ :: rest) tm σ acc := uC (YL.dst (wB (d := kk) hT hk hE hpos hn hn' hp hc)) hcont
theorem D_buildSliceF {d : Nat} {rowsF : List (List TV)} {T : TypeId} {n : Nat} {parts : List (Nat × Operand)} {te ee : TE} {e : TypeId} {ys : List (Nat × OV)} {cs : List OV} (hmF : Frozen d) (hT : E.tab T = some te) (hk : te.k = .slice e) (hE : E.tab e = some ee) (hpos : 0 < ee.size) (hn : n * ee.size ≤ 16777216) (hn' : n ≤ maxLen) (hp : evParts tm parts = some ys) (hc : fillO (fun i => some (i * ee.size, ee.size)) ((List.replicate n (consts ee.zero)).flatten) ys = some cs) (hrF : FzR (chop ee.size n cs) rowsF) (hnF : n = (chop ee.size n cs).length) (hcont : DO E.P v ops KD (j + 1) rest (tm.putO (some d) (.d (.sl ee.size rowsF))) (σ.apply [(d, none)]) (Foot.mk [] (wkeys [(d, none)]) :: acc)) : DO E.P v ops KD j (⟨some d, .buildSlice T n parts.toArray, ty, pos, af, none⟩ :: rest) tm σ acc := uC (YL.frz hrF hnF (wB hT hk hE hpos hn hn' hp hc)) hcont
theorem S_appendK {d kk : Nat} {T e : TypeId} {te ee : TE} {x z : Operand} {s k : Nat} {y1 y2 : OV} {ks1 ks2 : List Nat} {rows1 rows2 : List (List OV)} (hmk : KeyOf d kk) (hT : E.tab T = some te) (hk : te.k = .slice e) (hE : E.tab e = some ee) (hs : ee.size = s) (hpos : 0 < s) (hx : ev tm x = some y1) (hz : ev tm z = some y2) (h1 : Dst σ s kk y1 ks1 k rows1) (h2 : Src σ s y2 ks2 rows2) (hlf : ∀ r ∈ rows2, ∀ y ∈ r, y.leaf = true) (hb : (rows1.length + rows2.length) * ee.bytes ≤ 140737488355328) (hm : rows1.length + rows2.length ≤ maxLen) (hcont : AO E.P v ops K (j + 1) rest (tm.putO (some d) (.os k (v, j) s (rows1.length + rows2.length))) (σ.apply [(k, some ((v, j), ⟨s, rows1 ++ rows2⟩))])) : AO E.P v ops K j (⟨some d, .call { callee := .builtin .append, args := #[x, z], argTypes := #[T, T] }, ty, pos, af, none⟩ :: rest) tm σ := uB (YL.dst (yQ (d := kk) hT hk hE hs hpos hx hz h1 h2 hlf hb hm)) hcont
theorem S_appendF {d : Nat} {rowsF : List (List TV)} {T e : TypeId} {te ee : TE} {x z : Operand} {s k : Nat} {y1 y2 : OV} {ks1 ks2 : List Nat} {rows1 rows2 : List (List OV)} (hmF : Frozen d) (hT : E.tab T = some te) (hk : te.k = .slice e) (hE : E.tab e = some ee) (hs : ee.size = s) (hpos : 0 < s) (hx : ev tm x = some y1) (hz : ev tm z = some y2) (h1 : Dst σ s d y1 ks1 k rows1) (h2 : Src σ s y2 ks2 rows2) (hlf : ∀ r ∈ rows2, ∀ y ∈ r, y.leaf = true) (hb : (rows1.length + rows2.length) * ee.bytes ≤ 140737488355328) (hm : rows1.length + rows2.length ≤ maxLen) (hrF : FzR (rows1 ++ rows2) rowsF) (hnF : (rows1.length + rows2.length) = (rows1 ++ rows2).length) (hcont : AO E.P v ops K (j + 1) rest (tm.putO (some d) (.d (.sl s rowsF))) (σ.apply [(k, none)])) : AO E.P v ops K j (⟨some d, .call { callee := .builtin .append, args := #[x, z], argTypes := #[T, T] }, ty, pos, af, none⟩ :: rest) tm σ := uB (YL.frz hrF hnF (yQ hT hk hE hs hpos hx hz h1 h2 hlf hb hm)) hcont
theorem D_appendK {d kk : Nat} {T e : TypeId} {te ee : TE} {x z : Operand} {s k : Nat} {y1 y2 : OV} {ks1 ks2 : List Nat} {rows1 rows2 : List (List OV)} (hmk : KeyOf d kk) (hT : E.tab T = some te) (hk : te.k = .slice e) (hE : E.tab e = some ee) (hs : ee.size = s) (hpos : 0 < s) (hx : ev tm x = some y1) (hz : ev tm z = some y2) (h1 : Dst σ s kk y1 ks1 k rows1) (h2 : Src σ s y2 ks2 rows2) (hlf : ∀ r ∈ rows2, ∀ y ∈ r, y.leaf = true) (hb : (rows1.length + rows2.length) * ee.bytes ≤ 140737488355328) (hm : rows1.length + rows2.length ≤ maxLen) (hcont : DO E.P v ops KD (j + 1) rest (tm.putO (some d) (.os k (v, j) s (rows1.length + rows2.length))) (σ.apply [(k, some ((v, j), ⟨s, rows1 ++ rows2⟩))]) (Foot.mk (ks1 ++ ks2) (wkeys [(k, some ((v, j), ⟨s, rows1 ++ rows2⟩))]) :: acc)) : DO E.P v ops KD j (⟨some d, .call { callee := .builtin .append, args := #[x, z], argTypes := #[T, T] }, ty, pos, af, none⟩ :: rest) tm σ acc := uC (YL.dst (yQ (d := kk) hT hk hE hs hpos hx hz h1 h2 hlf hb hm)) hcont
theorem D_appendF {d : Nat} {rowsF : List (List TV)} {T e : TypeId} {te ee : TE} {x z : Operand} {s k : Nat} {y1 y2 : OV} {ks1 ks2 : List Nat} {rows1 rows2 : List (List OV)} (hmF : Frozen d) (hT : E.tab T = some te) (hk : te.k = .slice e) (hE : E.tab e = some ee) (hs : ee.size = s) (hpos : 0 < s) (hx : ev tm x = some y1) (hz : ev tm z = some y2) (h1 : Dst σ s d y1 ks1 k rows1) (h2 : Src σ s y2 ks2 rows2) (hlf : ∀ r ∈ rows2, ∀ y ∈ r, y.leaf = true) (hb : (rows1.length + rows2.length) * ee.bytes ≤ 140737488355328) (hm : rows1.length + rows2.length ≤ maxLen) (hrF : FzR (rows1 ++ rows2) rowsF) (hnF : (rows1.length + rows2.length) = (rows1 ++ rows2).length) (hcont : DO E.P v ops KD (j + 1) rest (tm.putO (some d) (.d (.sl s rowsF))) (σ.apply [(k, none)]) (Foot.mk (ks1 ++ ks2) (wkeys [(k, none)]) :: acc)) : DO E.P v ops KD j (⟨some d, .call { callee := .builtin .append, args := #[x, z], argTypes := #[T, T] }, ty, pos, af, none⟩ :: rest) tm σ acc := uC (YL.frz hrF hnF (yQ hT hk hE hs hpos hx hz h1 h2 hlf hb hm)) hcont
theorem S_ownF {d : Nat} {rowsF : List (List TV)} {x : Operand} {xs : List Operand} {tys : Array TypeId} {y : OV} {f : FuncId} {fi ca ys : List OV} {s : Nat} {rows : List (List OV)} (hmF : Frozen d) (hx : ev tm x = some y) (hf : IsFn y f fi ca) (ha : evs tm xs = some ys) (hc : Own E.P f (fi ++ ys ++ ca) s rows) (hrF : FzR (rows) rowsF) (hnF : rows.length = (rows).length) (hcont : AO E.P v ops K (j + 1) rest (tm.putO (some d) (.d (.sl s rowsF))) (σ.apply [(d, none)])) : AO E.P v ops K j (⟨some d, .call { callee := .value x, args := xs.toArray, argTypes := tys }, ty, pos, af, none⟩ :: rest) tm σ := uB (YL.frz hrF hnF (oI hx hf ha hc)) hcont
structure Keep (d : Nat) : Prop where
 ok : True
theorem S_keep {d : Nat} {x : Operand} {y : OV} (hmk : Keep d) (h : ev tm x = some y) (hcont : AO E.P v ops K (j + 1) rest (tm.putO (some d) y) (σ.apply [])) : AO E.P v ops K j (⟨some d, .assign x, ty, pos, af, none⟩ :: rest) tm σ := uB (zN h) hcont
theorem D_keep {d : Nat} {x : Operand} {y : OV} (hmk : Keep d) (h : ev tm x = some y) (hcont : DO E.P v ops KD (j + 1) rest (tm.putO (some d) y) (σ.apply []) (Foot.mk [] (wkeys []) :: acc)) : DO E.P v ops KD j (⟨some d, .assign x, ty, pos, af, none⟩ :: rest) tm σ acc := uC (zN h) hcont
theorem S_add32 {dst : Option Tmp} {T T' : TypeId} {x y : Operand} {a b : Int} (hx : ev tm x = some (.int .u32 a)) (hy : ev tm y = some (.int .u32 b)) (hcont : AO E.P v ops K (j + 1) rest (tm.putO dst (.int .u32 (IntKind.u32.wrap (a + b)))) (σ.apply [])) : AO E.P v ops K j (⟨dst, .binOp .add T x y T', ty, pos, af, none⟩ :: rest) tm σ := uB (nU hx hy) hcont
theorem D_add32 {dst : Option Tmp} {T T' : TypeId} {x y : Operand} {a b : Int} (hx : ev tm x = some (.int .u32 a)) (hy : ev tm y = some (.int .u32 b)) (hcont : DO E.P v ops KD (j + 1) rest (tm.putO dst (.int .u32 (IntKind.u32.wrap (a + b)))) (σ.apply []) (Foot.mk [] (wkeys []) :: acc)) : DO E.P v ops KD j (⟨dst, .binOp .add T x y T', ty, pos, af, none⟩ :: rest) tm σ acc := uC (nU hx hy) hcont
theorem S_sub32 {dst : Option Tmp} {T T' : TypeId} {x y : Operand} {a b : Int} (hx : ev tm x = some (.int .u32 a)) (hy : ev tm y = some (.int .u32 b)) (hcont : AO E.P v ops K (j + 1) rest (tm.putO dst (.int .u32 (IntKind.u32.wrap (a - b)))) (σ.apply [])) : AO E.P v ops K j (⟨dst, .binOp .sub T x y T', ty, pos, af, none⟩ :: rest) tm σ := uB (nD hx hy) hcont
theorem D_sub32 {dst : Option Tmp} {T T' : TypeId} {x y : Operand} {a b : Int} (hx : ev tm x = some (.int .u32 a)) (hy : ev tm y = some (.int .u32 b)) (hcont : DO E.P v ops KD (j + 1) rest (tm.putO dst (.int .u32 (IntKind.u32.wrap (a - b)))) (σ.apply []) (Foot.mk [] (wkeys []) :: acc)) : DO E.P v ops KD j (⟨dst, .binOp .sub T x y T', ty, pos, af, none⟩ :: rest) tm σ acc := uC (nD hx hy) hcont
end
structure FzT (y : OV) (t : TV) : Prop where
 eq : y.toTV = some t
structure FzTs (ys : List OV) (ts : List TV) : Prop where
 eq : OV.toTVs ys = some ts
theorem FzT.d (t : TV) : FzT (.d t) t := ⟨by rw [OV.toTV]⟩
theorem FzTs.nil : FzTs [] [] := ⟨by rw [OV.toTVs]⟩
theorem FzTs.cons {y : OV} {ys : List OV} {t : TV} {ts : List TV} (h : FzT y t) (h' : FzTs ys ts) : FzTs (y :: ys) (t :: ts) := ⟨by rw [OV.toTVs, h.eq, h'.eq]⟩
theorem FzT.fn {f : FuncId} {fi ca : List OV} {a b : List TV} (h : FzTs fi a) (h' : FzTs ca b) : FzT (.fn f fi ca) (.fn f a b) := ⟨by rw [OV.toTV, h.eq, h'.eq]⟩
theorem FzTs.map (ts : List TV) : FzTs (ts.map .d) ts := ⟨by
 induction ts with
 | nil => rw [List.map_nil, OV.toTVs]
 | cons t ts ih => rw [List.map_cons, OV.toTVs, ih, OV.toTV]⟩
theorem Leaves.frzB {Γ : Ctx} {G : Gh} {v j : Nat} {σ : Store} {x : Value} {w : World} {k n : Nat} {cs : List OV} {row : List TV} (hc : FzTs cs row)
  (h : Leaves Γ G v j (.lo k (v, j) n 0 0) (σ.put k ((v, j), ⟨n, [cs]⟩)) x w) : Leaves Γ G v j (.d (.pt row 0)) (σ.del k) x w := by
 obtain ⟨G', h1, h2, h3, h4⟩ := h
 have hk : (σ.put k ((v, j), ⟨n, [cs]⟩)) k = some ((v, j), ⟨n, [cs]⟩) := Store.put_self _ _ _
 have hdel : ∀ {G w}, WRel Γ G ((σ.put k ((v, j), ⟨n, [cs]⟩)).del k) w → WRel Γ G (σ.del k) w := fun h => h.forget fun i y hi => by
  by_cases e : i = k
  ·subst e; rw [Store.del_self] at hi; cases hi
  ·rw [Store.del_ne _ e] at hi ⊢; rw [Store.put_ne _ _ e]; exact hi
 rw [RepO] at h3
 obtain ⟨β, g1, g2⟩ := h3
 obtain ⟨M', m1, m2, m3⟩ := h4.freeze hk g1
 have hle : G'.le ⟨M', G'.μ, G'.kn.mono m1⟩ := ⟨m1, fun _ _ _ e => e⟩
 refine ⟨⟨M', G'.μ, G'.kn.mono m1⟩, h1.trans hle, h2, ?_, hdel m2⟩
 rw [RepO, Rep]
 refine ⟨_, _, g2, RepC.of_get fun o t ho => ?_⟩
 obtain ⟨y, e1, e2⟩ := OV.toTVs_get hc.eq ho
 obtain ⟨u, e3, e4⟩ := (m3 0 cs rfl).2 o y e1
 exact ⟨u, e3, OV.toTV_rep y t u e2 e4⟩
theorem YL.frzB {P : Program} {v j : Nat} {o : Oper} {tm : Tm} {σ : Store} {ks : List Nat} {k n : Nat} {cs : List OV} {row : List TV} (hc : FzTs cs row)
  (h : YL P v j o tm σ ks (.lo k (v, j) n 0 0) [(k, some ((v, j), ⟨n, [cs]⟩))]) : YL P v j o tm σ ks (.d (.pt row 0)) [(k, none)] := fun σ' hσ Γ G ρ w h1 h2 h3 h4 => by
 have := h σ' hσ Γ G ρ w h1 h2 h3 h4
 generalize (execOp ρ o).run P w = z at *
 cases z with
 | ok nx w =>
  cases nx <;> simp only [NextOk] at this ⊢
  case value x => exact Leaves.frzB hc this
  case skip => exact Leaves.frzB hc this
  case enter f args => exact this.mono fun e w' ⟨x, g1, g2⟩ => ⟨x, g1, Leaves.frzB hc g2⟩
 | halt x w => simp only [NextOk] at this
theorem SRel.freezeB {n : Nat} {C : Cx} {G : Gh} {tm tm' : Tm} {σ σ' : Store} {a : Act} {w : World} {k s : Nat} {τ : Stamp} {cs : List OV} {row : List TV} (hs : SRel n C G tm σ a w) (hk : σ k = some (τ, ⟨s, [cs]⟩)) (hc : FzTs cs row) (ht : FrozT k τ s [row] tm tm') (hσ : FrozS k τ s [row] σ σ') :
  ∃ G', G.le G' ∧ G'.μ = G.μ ∧ SRel n C G' tm' σ' a w := by
 rcases hs.w.own k τ _ hk with ⟨h1, h2⟩ | ⟨β, h1, h2, h3, h4⟩
 ·cases h2
 obtain ⟨M', g1, g2, g3⟩ := hs.w.freeze hk h1
 have hle : G.le ⟨M', G.μ, G.kn.mono g1⟩ := ⟨g1, fun _ _ _ e => e⟩
 have hcc : (G.μ k τ = some none ∧ [row] = []) ∨ ∃ β, G.μ k τ = some (some β) ∧ ∀ i row', [row][i]? = some row' → row'.length = s ∧ RepC M' row' β.b (i * s) := by
  refine Or.inr ⟨β, h1, fun i row' hi => ?_⟩
  cases i with
  | succ i => simp at hi
  | zero =>
   simp at hi
   subst hi
   obtain ⟨e1, e2⟩ := g3 0 cs rfl
   refine ⟨by rw [OV.toTVs_length hc.eq]; exact e1, RepC.of_get fun o t ho => ?_⟩
   obtain ⟨y, e3, e4⟩ := OV.toTVs_get hc.eq ho
   obtain ⟨u, e5, e6⟩ := e2 o y e3
   exact ⟨u, e5, OV.toTV_rep y t u e4 e6⟩
 have hr : ∀ y y' x, Froz k τ s [row] y y' → RepO ⟨M', G.μ, G.kn.mono g1⟩ y x → RepO ⟨M', G.μ, G.kn.mono g1⟩ y' x := fun y y' x hf hx => hf.rep (Gh.le.refl _) hcc hx
 refine ⟨⟨M', G.μ, G.kn.mono g1⟩, hle, rfl, hs.size, hs.defers, fun t y' hy => ?_, g2.froz hσ hr, hs.fix, hs.marks, fun i Y hi => ?_⟩
 ·obtain ⟨y, e1, e2⟩ := ht t y' hy
  rcases hs.tm t y e1 with ⟨i, Y, rfl⟩ | ⟨x, e3, e4⟩
  ·cases e2; exact Or.inl ⟨i, Y, rfl⟩
  ·exact Or.inr ⟨x, e3, hr _ _ _ e2 (e4.mono hle)⟩
 ·obtain ⟨y, e1, e2⟩ := ht GS _ hi
  cases e2
  exact ⟨(hs.gh i Y e1).1, (hs.gh i Y e1).2.1.trans hle, (hs.gh i Y e1).2.2⟩
theorem OpT.frzB {P : Program} {v j : Nat} {o : Oper} {tm : Tm} {σ : Store} {K1 K : Tm → Store → Prop} (h : OpT P v j o tm σ K1) (hk : ∀ tm1 σ1, K1 tm1 σ1 → ∃ k τ s cs row tm2 σ2, σ1 k = some (τ, ⟨s, [cs]⟩) ∧ FzTs cs row ∧ FrozT k τ s [row] tm1 tm2 ∧ FrozS k τ s [row] σ1 σ2 ∧ K tm2 σ2) : OpT P v j o tm σ K := fun n C G a w ro next Q hd hro hN hfr hs hn =>
 h n C G a w ro next Q hd hro hN hfr hs fun C' G' tm1 σ1 a' w' h0 h1 h2 h3 h4 => by
  obtain ⟨k, τ, s, cs, row, tm2, σ2, e1, e2, e3, e4, e5⟩ := hk _ _ h4
  obtain ⟨G2, g1, g2, g3⟩ := h3.freezeB e1 e2 e3 e4
  exact hn C' G2 tm2 σ2 a' w' h0 (h1.trans g1) (fun k v' i a b => by rw [g2]; exact h2 k v' i a b) g3 e5
theorem setAt_all {row ys : List OV} (h : ys.length = row.length) : setAt row 0 ys = ys := by simp [setAt, h]
theorem run_equalF {P : Program} {T : TypeId} {a b c} (h : P.underlying T = some (.func a b c)) (f : Fn) (vs us : Array Value) (w : World) : (Op.equal T (.func f vs us) .nilFunc).run P w = .ok false w := by
 show Sem.run P (Op.equalIn (9999 + 1) T _ _) w = _
 unfold Op.equalIn
 simp only [Sem.run_bind, run_underlying h, Result.andThen_ok, Sem.run_pure]
theorem run_equalN {P : Program} {T : TypeId} {a b c} (h : P.underlying T = some (.func a b c)) (w : World) : (Op.equal T .nilFunc .nilFunc).run P w = .ok true w := by
 show Sem.run P (Op.equalIn (9999 + 1) T _ _) w = _
 unfold Op.equalIn
 simp only [Sem.run_bind, run_underlying h, Result.andThen_ok, Sem.run_pure]
section
variable {E : Env} {v j : Nat} {tm : Tm} {σ : Store} {ty : TypeId} {pos : String} {af : Array Edge} {gd : Option (Nat × Bool)} {dst : Option Tmp}
theorem Y_neqF {T T' : TypeId} {x y : Operand} {p : OV} {f : FuncId} {fi ca : List OV} {te : TE} {a b c} (hT : E.tab T = some te) (hk : te.k = .sc (.func a b c)) (hx : ev tm x = some p) (hp : IsFn p f fi ca) (hy : ev tm y = some (.d (.c .nilFunc))) :
  YL E.P v j ⟨dst, .binOp .neq T x y T', ty, pos, af, gd⟩ tm σ [] (.bool true) [] := aV hx hy (fun M u w' w hu hv => by
 have h := (E.ok T te hT).1
 rw [hk] at h
 obtain ⟨vs, us, rfl⟩ : ∃ vs us, u = .func (.func f) vs us := by
  cases hp with
  | fn => rw [RepO] at hu; obtain ⟨vs, us, h, _⟩ := hu; exact ⟨_, _, h⟩
  | d => rw [RepO, Rep] at hu; obtain ⟨vs, us, h, _⟩ := hu; exact ⟨_, _, h⟩
 rw [uJ hv]
 exact ⟨eqGuard_run w (by simp) (by simp), by
  show Sem.run E.P (do pure (Value.bool (!(← Op.equal T (.func (.func f) vs us) .nilFunc)))) w = _
  simp [run_equalF h.1]⟩) rfl
theorem Y_neqN {T T' : TypeId} {x y : Operand} {te : TE} {a b c} (hT : E.tab T = some te) (hk : te.k = .sc (.func a b c)) (hx : ev tm x = some (.d (.c .nilFunc))) (hy : ev tm y = some (.d (.c .nilFunc))) :
  YL E.P v j ⟨dst, .binOp .neq T x y T', ty, pos, af, gd⟩ tm σ [] (.bool false) [] := aV hx hy (fun M u w' w hu hv => by
 have h := (E.ok T te hT).1
 rw [hk] at h
 rw [uJ hu, uJ hv]
 exact ⟨eqGuard_run w (by simp) (by simp), by
  show Sem.run E.P (do pure (Value.bool (!(← Op.equal T .nilFunc .nilFunc)))) w = _
  simp [run_equalN h.1]⟩) rfl
inductive EvPM (tm : Tm) : List (Nat × Operand) → List (Nat × OV) → Prop where
 | nil : EvPM tm [] []
 | cons {i : Nat} {x : Operand} {y : OV} {ps : List (Nat × Operand)} {ys : List (Nat × OV)} (h : EvM tm x y) (hs : EvPM tm ps ys) : EvPM tm ((i, x) :: ps) ((i, y) :: ys)
theorem EvPM.st {ps : List (Nat × Operand)} {ys : List (Nat × OV)} (h : EvPM tm ps ys) : evParts (Go.Proofs.YtjogffchdejabaaGreatDoor.strip tm) ps = some ys := by
 induction h with
 | nil => rfl
 | cons h _ ih => simp only [evParts, h.st, ih]
theorem oF {t T : Nat} {te : TE} {k : Nat} {τ : Stamp} {row : List OV} {rest : List (List OV)} {R : OV → Store → Prop} (hT : E.tab T = some te) (ha : te.k.isAgg = true) (hs : te.size = row.length) (ht : tm t = some (.lo k τ te.size 0 0)) (hk : σ k = some (τ, ⟨te.size, row :: rest⟩)) (hR : R (.ag row) σ) : DoneN E [.cell t T] R .ret tm σ :=
 ⟨_, ⟨_, _, rfl, ⟨_, _, _, _, _, hT, ha, hs, ht, hk, rfl⟩, rfl⟩, hR⟩
theorem tmpN2 {t u : Nat} {r s : OV} {R : OV → Store → Prop} (ht : tm t = some r) (hu : tm u = some s) (hR : R (.tu [r, s]) σ) : DoneN E [.tmp t, .tmp u] R .ret tm σ :=
 ⟨_, ⟨_, _, rfl, ht, _, _, rfl, hu, rfl⟩, hR⟩
def nfix : OV → OV
 | .d (.c (.slice none 0 0)) => .d (.sl 1 [])
 | y => y
theorem nfix_rep {G : Gh} {y : OV} {x : Value} (h : RepO G y x) : RepO G (nfix y) x := by
 unfold nfix
 split
 ·have e := uJ h
  subst e
  rw [RepO, Rep]
  exact ⟨none, 0, rfl, Nat.le_refl _, Or.inl rfl⟩
 ·exact h
theorem fP {G : Gh} : ∀ {ys : List OV} {xs : List Value}, RepOL G ys xs → RepOL G (ys.map nfix) xs
 | [], xs, h => by rw [List.map_nil]; exact h
 | y :: ys, xs, h => by
  rw [RepOL] at h
  obtain ⟨x, us, rfl, h1, h2⟩ := h
  rw [List.map_cons, RepOL]
  exact ⟨x, us, rfl, nfix_rep h1, fP h2⟩
theorem YL.weakR {P : Program} {v j : Nat} {o : Oper} {tm : Tm} {σ : Store} {ks : List Nat} {r r' : OV} {δ : Diff} (h : YL P v j o tm σ ks r δ) (hw : ∀ G x, RepO G r x → RepO G r' x) : YL P v j o tm σ ks r' δ := fun σ' hσ Γ G ρ w h1 h2 h3 h4 => by
 have := h σ' hσ Γ G ρ w h1 h2 h3 h4
 have lv : ∀ x w, Leaves Γ G v j r (σ'.apply δ) x w → Leaves Γ G v j r' (σ'.apply δ) x w := fun x w ⟨G', g1, g2, g3, g4⟩ => ⟨G', g1, g2, hw _ _ g3, g4⟩
 generalize (execOp ρ o).run P w = z at *
 cases z with
 | ok nx w =>
  cases nx <;> simp only [NextOk] at this ⊢
  case value x => exact lv _ _ this
  case skip => exact lv _ _ this
  case enter f args => exact this.mono fun e w' ⟨x, g1, g2⟩ => ⟨x, g1, lv _ _ g2⟩
 | halt x w => simp only [NextOk] at this
structure NilS (d : Nat) : Prop where
 ok : True
theorem lI {G : Gh} {cs : List OV} {x : Value} (h : RepO G (.ag cs) x) : RepO G (.ag (cs.map nfix)) x := by
 rw [RepO] at h ⊢
 obtain ⟨us, h1, h2⟩ := h
 exact ⟨us, h1, fP h2⟩
theorem Y_nilF {d s : Nat} {e : TypeId} {te ee : TE} (hm : Frozen d) (hT : E.tab ty = some te) (hk : te.k = .slice e) (hE : E.tab e = some ee) (hs : ee.size = s) : YL E.P v j ⟨some d, .assign (.const (.slice none 0 0)), ty, pos, af, gd⟩ tm σ [] (.d (.sl s [])) [] := fun σ _ Γ G ρ w hv hfr hρ hw => by
 have hr := hρ (.const (.slice none 0 0)) (by simp [Op.operands]) (.d (.c (.slice none 0 0))) (by rfl)
 have h1 := uJ hr
 have h2 : (execOp ρ ⟨some d, .assign (.const (.slice none 0 0)), ty, pos, af, gd⟩).run E.P w = .ok (.value (.slice none 0 0)) w := by simp [execOp, h1]
 rw [h2]
 exact Leaves.still (by rw [RepO, Rep]; exact ⟨none, 0, rfl, Nat.le_refl _, Or.inl rfl⟩) hw
end
section
variable {E : Env} {v j : Nat} {ops : Array Oper} {K : Tm → Store → Prop} {KD : List Foot → Tm → Store → Prop} {acc : List Foot} {rest : List Oper} {tm : Tm} {σ : Store} {ty : TypeId} {pos : String} {af : Array Edge}
theorem nW {d : Nat} {T : TypeId} {x : Operand} {y : OV} {n : Nat} {row : List TV} (hmF : Frozen d) (hx : ev tm x = some y) (hw' : y.wide = true) (hn : y.cells.length = n) (hr : FzTs y.cells row) (hcont : AO E.P v ops K (j + 1) rest (tm.putO (some d) (.d (.pt row 0))) (σ.apply [(d, none)])) : AO E.P v ops K j (⟨some d, .box T x, ty, pos, af, none⟩ :: rest) tm σ := uB (YL.frzB hr (mB hx hw' hn)) hcont
theorem D_boxF {d : Nat} {T : TypeId} {x : Operand} {y : OV} {n : Nat} {row : List TV} (hmF : Frozen d) (hx : ev tm x = some y) (hw' : y.wide = true) (hn : y.cells.length = n) (hr : FzTs y.cells row) (hcont : DO E.P v ops KD (j + 1) rest (tm.putO (some d) (.d (.pt row 0))) (σ.apply [(d, none)]) (Foot.mk [] (wkeys [(d, none)]) :: acc)) : DO E.P v ops KD j (⟨some d, .box T x, ty, pos, af, none⟩ :: rest) tm σ acc := uC (YL.frzB hr (mB hx hw' hn)) hcont
theorem S_storeF {d : Nat} {T : TypeId} {z : Operand} {te : TE} {τ : Stamp} {s : Nat} {row0 : List OV} {y : OV} {row : List TV} (hmF : Frozen d) (hT : E.tab T = some te) (hx : tm d = some (.lo d τ s 0 0)) (hz : ev tm z = some y) (hw' : y.wide = true) (hn : y.cells.length = te.size) (hs : σ d = some (τ, ⟨s, [row0]⟩)) (hl : row0.length = te.size) (hr : FzTs y.cells row) (hcont : AO E.P v ops K (j + 1) rest (tm.put d (.d (.pt row 0))) (σ.apply [(d, none)])) : AO E.P v ops K j (⟨none, .store T (.tmp d) z, ty, pos, af, none⟩ :: rest) tm σ :=
 ao_t (OpT.frzB ((iQ (x := .tmp d) (i := 0) (row := row0) hT (show ev tm (.tmp d) = _ from hx) hz hw' hn hs rfl (by omega)).ok (K := fun r' σ' => r' = OV.un ∧ σ' = σ.apply [(d, some (τ, ⟨s, [row0].set 0 (setAt row0 0 y.cells)⟩))]) ⟨rfl, rfl⟩) fun tm1 σ1 ⟨r, h1, h2, h3⟩ => by
  subst h1 h2 h3
  refine ⟨d, τ, s, _, row, _, _, Store.put_self _ _ _, ?_, ?_, ?_, hcont⟩
  ·rw [setAt_all (by omega)]; exact hr
  ·intro t y' hy
   by_cases e : t = d
   ·subst e
    rw [Tm.put_self] at hy
    cases hy
    exact ⟨_, hx, .lo 0 0 row rfl⟩
   ·rw [Tm.put_ne _ _ e] at hy
    exact ⟨y', hy, .same _⟩
  ·intro i τ' r' hi
   by_cases e : i = d
   ·subst e
    have : (σ.del i) i = some (τ', r') := hi
    rw [Store.del_self] at this; cases this
   ·have h9 : (σ.del d) i = some (τ', r') := hi
    rw [Store.del_ne _ e] at h9
    exact ⟨e, r', (Store.put_ne _ _ e).trans h9, FrozR.same _⟩)
theorem S_buildN {d : Nat} {T : TypeId} {parts : List (Nat × Operand)} {te : TE} {fs : List (Nat × TypeId)} {ys : List (Nat × OV)} {cs cs' : List OV} (hmN : NilS d) (hT : E.tab T = some te) (hk : te.k = .st fs) (hfs : (fs.all fun f => (E.tab f.2).isSome) = true) (hp : evParts tm parts = some ys) (hc : fillO (fun i => (fs[i]?).map fun f : Nat × TypeId => (f.1, sizeT E f.2)) (consts te.zero) ys = some cs) (hn : cs.map nfix = cs') (hcont : AO E.P v ops K (j + 1) rest (tm.putO (some d) (.ag cs')) (σ.apply [])) : AO E.P v ops K j (⟨some d, .build T parts.toArray, ty, pos, af, none⟩ :: rest) tm σ := uB (YL.weakR (dJ (d := some d) hT hk hfs hp hc) (fun _ _ h => by subst hn; exact lI h)) hcont
theorem D_buildN {d : Nat} {T : TypeId} {parts : List (Nat × Operand)} {te : TE} {fs : List (Nat × TypeId)} {ys : List (Nat × OV)} {cs cs' : List OV} (hmN : NilS d) (hT : E.tab T = some te) (hk : te.k = .st fs) (hfs : (fs.all fun f => (E.tab f.2).isSome) = true) (hp : evParts tm parts = some ys) (hc : fillO (fun i => (fs[i]?).map fun f : Nat × TypeId => (f.1, sizeT E f.2)) (consts te.zero) ys = some cs) (hn : cs.map nfix = cs') (hcont : DO E.P v ops KD (j + 1) rest (tm.putO (some d) (.ag cs')) (σ.apply []) (Foot.mk [] (wkeys []) :: acc)) : DO E.P v ops KD j (⟨some d, .build T parts.toArray, ty, pos, af, none⟩ :: rest) tm σ acc := uC (YL.weakR (dJ (d := some d) hT hk hfs hp hc) (fun _ _ h => by subst hn; exact lI h)) hcont
theorem S_neqF {T T' : TypeId} {x y : Operand} {p : OV} {f : FuncId} {fi ca : List OV} {te : TE} {a b c} {dst : Option Tmp} (hT : E.tab T = some te) (hk : te.k = .sc (.func a b c)) (hx : ev tm x = some p) (hp : IsFn p f fi ca) (hy : ev tm y = some (.d (.c .nilFunc))) (hcont : AO E.P v ops K (j + 1) rest (tm.putO dst (.bool true)) (σ.apply [])) : AO E.P v ops K j (⟨dst, .binOp .neq T x y T', ty, pos, af, none⟩ :: rest) tm σ := uB (Y_neqF hT hk hx hp hy) hcont
theorem S_neqN {T T' : TypeId} {x y : Operand} {te : TE} {a b c} {dst : Option Tmp} (hT : E.tab T = some te) (hk : te.k = .sc (.func a b c)) (hx : ev tm x = some (.d (.c .nilFunc))) (hy : ev tm y = some (.d (.c .nilFunc))) (hcont : AO E.P v ops K (j + 1) rest (tm.putO dst (.bool false)) (σ.apply [])) : AO E.P v ops K j (⟨dst, .binOp .neq T x y T', ty, pos, af, none⟩ :: rest) tm σ := uB (Y_neqN hT hk hx hy) hcont
theorem S_nilF {d s : Nat} {e : TypeId} {te ee : TE} (hm : Frozen d) (hT : E.tab ty = some te) (hk : te.k = .slice e) (hE : E.tab e = some ee) (hs : ee.size = s) (hcont : AO E.P v ops K (j + 1) rest (tm.putO (some d) (.d (.sl s []))) (σ.apply [])) : AO E.P v ops K j (⟨some d, .assign (.const (.slice none 0 0)), ty, pos, af, none⟩ :: rest) tm σ := uB (Y_nilF hm hT hk hE hs) hcont
end
section
variable {E : Env} {v j : Nat} {ops : Array Oper} {K : Tm → Store → Prop} {KD : List Foot → Tm → Store → Prop} {acc : List Foot} {rest : List Oper} {tm : Tm} {σ : Store} {ty : TypeId} {pos : String} {af : Array Edge} {gd : Option (Nat × Bool)} {dst : Option Tmp}
theorem q34 {d : Nat} {T : TypeId} {x : Operand} {y : OV} {n : Nat} {row : List TV} (hcont : AO E.P v ops K (j + 1) rest (tm.putO (some d) (.d (.pt row 0))) (σ.apply [(d, none)])) (hmF : Frozen d := by assumption) (hx : ev tm x = some y := by exact rfl) (hw' : y.wide = true := by exact rfl) (hn : y.cells.length = n := by exact rfl) (hr : FzTs y.cells row := by (repeat (first | exact FzTs.nil | exact FzTs.map _ | apply FzTs.cons | exact FzT.d _ | apply FzT.fn | assumption))) : AO E.P v ops K j (⟨some d, .box T x, ty, pos, af, none⟩ :: rest) tm σ := nW hmF hx hw' hn hr hcont
end
set_option maxRecDepth 100000
theorem apb {p : Prop} (h : p := by (first | omega | (simp only [List.length_append, List.length_map, List.length_take, List.length_drop, List.length_cons, List.length_nil, List.length_replicate, yG] <;> omega))) : p := h
theorem yls {p : Prop} (h : p := by
 (first
  | (with_reducible exact im_ftY)
  | ((with_reducible refine im_any (fun hc_ => ?_)); (first
   | ((with_reducible apply nX); exact evm)
   | ((with_reducible apply gK); exact rfl; exact rfl; exact evm; exact rfl)
   | ((with_reducible apply cN); exact rfl; exact rfl; exact evm; exact rfl; exact rfl; exact rfl)
   | ((with_reducible apply zQ); exact rfl; exact rfl; exact rfl; exact rfl; decide; exact evm)
   | ((with_reducible apply zR); exact rfl; exact rfl; exact rfl; exact rfl; decide; exact evm)
   | ((with_reducible apply oO); exact evm; exact evm)
   | ((with_reducible apply oN); exact evm; exact evm)
   | ((with_reducible apply M_lss); exact evm; exact evm)
   | ((with_reducible apply nY); exact evm; exact evm)
   | ((with_reducible apply M_gtr); exact evm; exact evm)
   | ((with_reducible apply M_geq); exact evm; exact evm)
   | ((with_reducible apply M_not); exact evm)
   | ((with_reducible apply M_assign); exact evm)
   | ((with_reducible apply cM); exact evm; exact rfl; (first | (refine EvB.mb _ rfl ?_; first | exact fun h => h | exact fun h => uP h | exact fun h => uQ (by assumption) h | exact fun h => uQ (by assumption) (uP h) | (intro h; simp_all)) | exact EvB.plain rfl))
   | ((with_reducible apply aW); exact evm; (first | (refine EvB.mb _ rfl ?_; first | exact fun h => h | exact fun h => uP h | exact fun h => uQ (by assumption) h | exact fun h => uQ (by assumption) (uP h) | (intro h; simp_all)) | exact EvB.plain rfl); exact rfl)
   | ((with_reducible apply fF); exact evm; (first | (refine EvB.mb _ rfl ?_; first | exact fun h => h | exact fun h => uP h | exact fun h => uQ (by assumption) h | exact fun h => uQ (by assumption) (uP h) | (intro h; simp_all)) | exact EvB.plain rfl); (first | (refine EvB.mb _ rfl ?_; first | exact fun h => h | exact fun h => uP h | exact fun h => uQ (by assumption) h | exact fun h => uQ (by assumption) (uP h) | (intro h; simp_all)) | exact EvB.plain rfl))
   | ((with_reducible apply M_len); exact rfl; exact rfl; exact evm; (first | exact dZ _ | exact gY _ _ _ | exact dY _ _ | exact kK _ _ _ _ | exact kJ _ _ _ _ _ | exact gX))
   | ((with_reducible apply M_load_ptA); exact rfl; exact rfl; exact evm; exact Nat.le_of_ble_eq_true rfl)
   | ((with_reducible apply M_load_loA); exact rfl; exact rfl; exact evm; exact rfl; exact rfl; exact Nat.le_of_ble_eq_true rfl)
   | ((with_reducible apply M_rem); exact evm; exact evm; decide)
   | ((with_reducible apply M_eqlB); exact rfl; exact rfl; exact evm; exact evm)
   | ((with_reducible apply M_neqB); exact rfl; exact rfl; exact evm; exact evm)
   | ((with_reducible apply M_extract); exact evm; exact rfl)
   | ((with_reducible apply M_field1); exact rfl; exact rfl; exact rfl; exact rfl; exact rfl; exact evm; exact rfl)
   | ((with_reducible apply M_min); exact evm; exact evm)
   | ((with_reducible apply M_max); exact evm; exact evm)
   | ((have hp_ := hc_; (try simp only [nrm] at hp_)); (first
    | ((with_reducible apply cN); exact rfl; exact rfl; exact evm; exact rfl; (first | exact uI (by omega) (0 : Int) | exact uI (by omega) default); exact rfl)
    | ((with_reducible apply M_indexAddr_sl); exact rfl; exact rfl; exact rfl; exact rfl; exact evm; exact evm; omega; (first | exact iA (by omega) | exact uI (by omega) default | assumption))
    | ((with_reducible apply M_indexAddr_os); exact rfl; exact rfl; exact rfl; exact rfl; exact evm; exact evm; omega)
    | ((with_reducible apply M_indexAddr_loA); exact rfl; exact rfl; exact rfl; exact evm; exact evm; omega)
    | ((with_reducible apply M_indexAddr_ptA); exact rfl; exact rfl; exact rfl; exact evm; exact evm; omega)
    | ((with_reducible apply M_add64); exact evm; exact evm; omega)
    | ((with_reducible apply M_sub64); exact evm; exact evm; omega)
    | ((with_reducible apply M_conv64); exact rfl; exact rfl; exact rfl; exact rfl; exact evm; omega)
    | ((with_reducible apply M_conv32u); exact rfl; exact rfl; exact rfl; exact rfl; exact evm; omega))))))) : p := h
structure Hide (q : Prop) : Prop where
 out : q
theorem run {p q : Prop} (hc_q : q) (h : Hide q → p := by
  intro hc_q
  repeat (first
    | (with_reducible refine vV ?_)
    | (with_reducible refine vN ?_)
    | ((with_reducible show AO _ _ _ _ _ _ _ _); first
        | (with_reducible refine vX ?_)
        | ((with_reducible apply S_appendF); assumption; exact rfl; exact rfl; exact rfl; exact rfl; decide; exact rfl; exact rfl; (first | exact .os _ _ _ _ rfl (by first | rfl | exact apb) | exact .nil); (first | exact .os _ _ _ _ rfl (by first | rfl | exact apb) | exact .vw _ _ _ _ _ rfl (by exact apb) | exact .nil | exact .sl _); (repeat (first | exact LeafR.nil | exact LeafR.cells _ _ | exact LeafR.d _ | (apply LeafR.one; exact rfl) | exact hleaf _ | refine LeafR.take _ ?_ | refine LeafR.drop _ ?_ | refine LeafR.app ?_ ?_ | (apply LeafR.lit; exact rfl) | assumption)); (show _ * (Nat.succ _) ≤ _; exact apb); (unfold maxLen; exact apb); (repeat (first | exact FzR.nil | exact FzR.ints _ | exact FzR.d _ | exact hfz _ | exact FzC.map _ | exact FzC.nil | apply FzR.take | apply FzR.drop | apply FzR.app | apply FzR.cons | apply FzC.cons | assumption)); (first | rfl | exact apb))
        | ((with_reducible apply S_appendK); assumption; exact rfl; exact rfl; exact rfl; exact rfl; decide; exact rfl; exact rfl; (first | exact .os _ _ _ _ rfl (by first | rfl | exact apb) | exact .nil); (first | exact .os _ _ _ _ rfl (by first | rfl | exact apb) | exact .vw _ _ _ _ _ rfl (by exact apb) | exact .nil | exact .sl _); (repeat (first | exact LeafR.nil | exact LeafR.cells _ _ | exact LeafR.d _ | (apply LeafR.one; exact rfl) | exact hleaf _ | refine LeafR.take _ ?_ | refine LeafR.drop _ ?_ | refine LeafR.app ?_ ?_ | (apply LeafR.lit; exact rfl) | assumption)); (show _ * (Nat.succ _) ≤ _; exact apb); (unfold maxLen; exact apb))
        | ((with_reducible apply S_buildSliceF); assumption; exact rfl; exact rfl; exact rfl; decide; decide; decide; exact rfl; exact rfl; (repeat (first | exact FzR.nil | exact FzR.ints _ | exact FzR.d _ | exact hfz _ | exact FzC.map _ | exact FzC.nil | apply FzR.take | apply FzR.drop | apply FzR.app | apply FzR.cons | apply FzC.cons | assumption)); (first | rfl | exact apb))
        | ((with_reducible apply S_buildSliceK); assumption; exact rfl; exact rfl; exact rfl; decide; decide; decide; exact rfl; exact rfl)
        | ((with_reducible apply S_mvfz); assumption; exact rfl; exact rfl; (repeat (first | exact FzR.nil | exact FzR.ints _ | exact FzR.d _ | exact hfz _ | exact FzC.map _ | exact FzC.nil | apply FzR.take | apply FzR.drop | apply FzR.app | apply FzR.cons | apply FzC.cons | assumption)); (first | rfl | exact apb))
        | ((with_reducible apply S_allocK); assumption; exact rfl)
        | ((with_reducible apply S_buildN); assumption; exact rfl; exact rfl; exact rfl; exact rfl; exact rfl; exact rfl)
        | ((with_reducible apply S_storeF); assumption; exact rfl; exact rfl; exact rfl; exact rfl; exact rfl; exact rfl; exact rfl; (repeat (first | exact FzTs.nil | exact FzTs.map _ | apply FzTs.cons | exact FzT.d _ | apply FzT.fn | assumption)))
        | ((with_reducible apply S_nilF); assumption; exact rfl; exact rfl; exact rfl; exact rfl)
        | ((with_reducible apply S_neqF); exact rfl; exact rfl; exact rfl; (first | exact .fn _ _ _ | exact .d _ _ _); exact rfl)
        | ((with_reducible apply S_neqN); exact rfl; exact rfl; exact rfl; exact rfl)
        | ((with_reducible apply nW); assumption; exact rfl; exact rfl; exact rfl; (repeat (first | exact FzTs.nil | exact FzTs.map _ | apply FzTs.cons | exact FzT.d _ | apply FzT.fn | assumption)))
        | ((with_reducible apply S_boxK); assumption; exact rfl; exact rfl; exact rfl)
        | ((with_reducible apply S_keep); assumption; exact rfl)
        | ((with_reducible apply S_nil); exact rfl; exact rfl; exact rfl; exact rfl)
        | ((with_reducible apply S_nilA); exact rfl; exact rfl; exact rfl; exact rfl)
        | ((with_reducible apply S_ren); exact rfl; exact rfl)
        | ((with_reducible apply nV); exact rfl)
        | ((with_reducible apply kE); exact rfl)
        | ((with_reducible apply gJ); exact rfl; exact rfl; exact rfl; exact rfl)
        | ((with_reducible apply xN); exact rfl; exact rfl; exact rfl; exact rfl; (first | exact rfl | exact uI (by omega) (0 : Int) | exact uI (by omega) default | exact hrow _ | assumption); exact rfl)
        | ((with_reducible apply zO); exact rfl; exact rfl; exact rfl; exact rfl; decide; exact rfl)
        | ((with_reducible apply zP); exact rfl; exact rfl; exact rfl; exact rfl; decide; exact rfl)
        | ((with_reducible apply S_indexAddr_sl); exact rfl; exact rfl; exact rfl; exact rfl; exact rfl; exact rfl; omega; (first | exact iA (by omega) | exact uI (by omega) default | assumption))
        | ((with_reducible apply S_indexAddr_os); exact rfl; exact rfl; exact rfl; exact rfl; exact rfl; exact rfl; omega)
        | ((with_reducible apply S_indexAddr_vw); exact rfl; exact rfl; exact rfl; exact rfl; exact rfl; exact rfl; omega)
        | ((with_reducible apply S_len); exact rfl; exact rfl; exact rfl; (first | exact dZ _ | exact gY _ _ _ | exact dY _ _ | exact kK _ _ _ _ | exact kJ _ _ _ _ _ | exact gX))
        | ((with_reducible apply S_add64); exact rfl; exact rfl; omega)
        | ((with_reducible apply S_sub64); exact rfl; exact rfl; omega)
        | ((with_reducible apply S_add32); exact rfl; exact rfl)
        | ((with_reducible apply S_sub32); exact rfl; exact rfl)
        | ((with_reducible apply oM); exact rfl; exact rfl)
        | ((with_reducible apply S_neq); exact rfl; exact rfl)
        | ((with_reducible apply S_lss); exact rfl; exact rfl)
        | ((with_reducible apply oK); exact rfl; exact rfl)
        | ((with_reducible apply S_gtr); exact rfl; exact rfl)
        | ((with_reducible apply oL); exact rfl; exact rfl)
        | ((with_reducible apply S_not); exact rfl)
        | ((with_reducible apply S_box); exact rfl; exact rfl; exact rfl)
        | ((with_reducible apply S_rem); exact rfl; exact rfl; (first | decide | omega))
        | ((with_reducible apply S_eqlB); exact rfl; exact rfl; exact rfl; exact rfl)
        | ((with_reducible apply S_neqB); exact rfl; exact rfl; exact rfl; exact rfl)
        | ((with_reducible apply iU); exact rfl)
        | ((with_reducible apply fD); exact rfl; exact rfl; exact rfl; exact Nat.le_of_ble_eq_true rfl)
        | ((with_reducible apply fE); exact rfl; exact rfl; exact rfl; exact rfl; (first | exact rfl | exact uI (by omega) default | exact vA (by omega) (by omega) (0 : Int) | assumption); exact Nat.le_of_ble_eq_true rfl)
        | ((with_reducible apply iS); exact rfl; exact rfl; exact rfl; exact rfl; exact rfl; exact rfl; (first | exact rfl | exact uI (by omega) (0 : Int) | exact uI (by omega) default | exact vA (by omega) (by omega) (0 : Int) | assumption); exact Nat.le_of_ble_eq_true rfl)
        | ((with_reducible apply S_conv64); exact rfl; exact rfl; exact rfl; exact rfl; exact rfl; omega)
        | ((with_reducible apply S_conv32u); exact rfl; exact rfl; exact rfl; exact rfl; exact rfl; omega)
        | ((with_reducible apply S_field1); exact rfl; exact rfl; exact rfl; exact rfl; exact rfl; exact rfl; exact rfl)
        | ((with_reducible apply S_fieldA); exact rfl; exact rfl; exact rfl; exact rfl; exact rfl; exact rfl)
        | ((with_reducible apply S_extract); exact rfl; exact rfl)
        | ((with_reducible apply S_slice_sl); exact rfl; exact rfl; exact rfl; exact rfl; exact rfl; (first | exact rfl | exact ⟨_, _, rfl, by omega, rfl⟩); (first | exact rfl | exact ⟨_, _, rfl, by omega, rfl⟩); omega; omega)
        | ((with_reducible apply S_slice_os); exact rfl; exact rfl; exact rfl; exact rfl; exact rfl; (first | exact rfl | exact ⟨_, _, rfl, by omega, rfl⟩); (first | exact rfl | exact ⟨_, _, rfl, by omega, rfl⟩); omega; omega)
        | ((with_reducible apply S_indexAddr_ptA); exact rfl; exact rfl; exact rfl; exact rfl; exact rfl; omega)
        | ((with_reducible apply S_indexAddr_loA); exact rfl; exact rfl; exact rfl; exact rfl; exact rfl; omega)
        | ((with_reducible apply S_index1); exact rfl; exact rfl; exact rfl; exact rfl; exact rfl; exact rfl; omega; exact rfl)
        | ((with_reducible apply S_indexA); exact rfl; exact rfl; exact rfl; exact rfl; exact rfl; exact rfl; omega)
        | ((with_reducible apply S_min); exact rfl; exact rfl)
        | ((with_reducible apply S_max); exact rfl; exact rfl)
        | ((with_reducible apply mE); exact rfl; exact rfl; exact rfl; exact rfl; exact rfl)
        | ((with_reducible apply S_buildA); exact rfl; exact rfl; exact rfl; exact rfl; exact rfl)
        | ((with_reducible apply S_buildSlice); exact rfl; exact rfl; exact rfl; decide; decide; decide; exact rfl; exact rfl)
        | ((with_reducible apply S_makeSlice); exact rfl; exact rfl; exact rfl; decide; exact rfl; exact rfl; omega; (show ((Nat.succ _ : Nat) : Int) * _ ≤ _; omega); omega)
        | ((with_reducible apply S_makeFunc); exact rfl; exact rfl)
        | ((with_reducible apply S_nilCheck); exact rfl; exact rfl)
        | ((with_reducible apply S_mul64); exact rfl; exact rfl; omega)
        | ((with_reducible apply S_quo); exact rfl; exact rfl; (first | decide | omega))
        | ((with_reducible apply S_append); exact rfl; exact rfl; exact rfl; exact rfl; decide; exact rfl; exact rfl; (first | exact .os _ _ _ _ rfl (by first | rfl | exact apb) | exact .nil); (first | exact .os _ _ _ _ rfl (by first | rfl | exact apb) | exact .vw _ _ _ _ _ rfl (by exact apb) | exact .nil | exact .sl _); (repeat (first | exact LeafR.nil | exact LeafR.cells _ _ | exact LeafR.d _ | (apply LeafR.one; exact rfl) | exact hleaf _ | refine LeafR.take _ ?_ | refine LeafR.drop _ ?_ | refine LeafR.app ?_ ?_ | (apply LeafR.lit; exact rfl) | assumption)); (show _ * (Nat.succ _) ≤ _; exact apb); (unfold maxLen; exact apb))
        | ((with_reducible apply gI); exact evm; exact rfl; (first | (refine EvB.mb _ rfl ?_; first | exact fun h => h | exact fun h => uP h | exact fun h => uQ (by assumption) h | exact fun h => uQ (by assumption) (uP h) | (intro h; simp_all)) | exact EvB.plain rfl))
        | ((with_reducible apply fC); exact evm; (first | (refine EvB.mb _ rfl ?_; first | exact fun h => h | exact fun h => uP h | exact fun h => uQ (by assumption) h | exact fun h => uQ (by assumption) (uP h) | (intro h; simp_all)) | exact EvB.plain rfl); exact rfl)
        | ((with_reducible apply S_pick_m); exact evm; (first | (refine EvB.mb _ rfl ?_; first | exact fun h => h | exact fun h => uP h | exact fun h => uQ (by assumption) h | exact fun h => uQ (by assumption) (uP h) | (intro h; simp_all)) | exact EvB.plain rfl); (first | (refine EvB.mb _ rfl ?_; first | exact fun h => h | exact fun h => uP h | exact fun h => uQ (by assumption) h | exact fun h => uQ (by assumption) (uP h) | (intro h; simp_all)) | exact EvB.plain rfl))
        | ((with_reducible apply S_pick_v); exact rfl)
        | ((with_reducible apply mI); exact rfl; exact rfl; exact yls)
        | ((with_reducible apply mJ); exact rfl; exact rfl; exact yls)
        | ((with_reducible apply spec_mt); exact rfl; exact rfl; exact yls)
        | ((with_reducible apply bA); exact rfl; exact rfl; exact yls)
        | ((with_reducible apply guard_u); exact rfl; exact rfl)
        | (with_reducible refine ao_cons_app ?_)
        | (with_reducible refine ao_nil_app ?_)
        | (with_reducible refine ao_app_app ?_))
    | ((with_reducible show DO _ _ _ _ _ _ _ _ _); first
        | ((with_reducible apply D_appendF); assumption; exact rfl; exact rfl; exact rfl; exact rfl; decide; exact rfl; exact rfl; (first | exact .os _ _ _ _ rfl (by first | rfl | exact apb) | exact .nil); (first | exact .os _ _ _ _ rfl (by first | rfl | exact apb) | exact .vw _ _ _ _ _ rfl (by exact apb) | exact .nil | exact .sl _); (repeat (first | exact LeafR.nil | exact LeafR.cells _ _ | exact LeafR.d _ | (apply LeafR.one; exact rfl) | exact hleaf _ | refine LeafR.take _ ?_ | refine LeafR.drop _ ?_ | refine LeafR.app ?_ ?_ | (apply LeafR.lit; exact rfl) | assumption)); (show _ * (Nat.succ _) ≤ _; exact apb); (unfold maxLen; exact apb); (repeat (first | exact FzR.nil | exact FzR.ints _ | exact FzR.d _ | exact hfz _ | exact FzC.map _ | exact FzC.nil | apply FzR.take | apply FzR.drop | apply FzR.app | apply FzR.cons | apply FzC.cons | assumption)); (first | rfl | exact apb))
        | ((with_reducible apply D_appendK); assumption; exact rfl; exact rfl; exact rfl; exact rfl; decide; exact rfl; exact rfl; (first | exact .os _ _ _ _ rfl (by first | rfl | exact apb) | exact .nil); (first | exact .os _ _ _ _ rfl (by first | rfl | exact apb) | exact .vw _ _ _ _ _ rfl (by exact apb) | exact .nil | exact .sl _); (repeat (first | exact LeafR.nil | exact LeafR.cells _ _ | exact LeafR.d _ | (apply LeafR.one; exact rfl) | exact hleaf _ | refine LeafR.take _ ?_ | refine LeafR.drop _ ?_ | refine LeafR.app ?_ ?_ | (apply LeafR.lit; exact rfl) | assumption)); (show _ * (Nat.succ _) ≤ _; exact apb); (unfold maxLen; exact apb))
        | ((with_reducible apply D_buildSliceF); assumption; exact rfl; exact rfl; exact rfl; decide; decide; decide; exact rfl; exact rfl; (repeat (first | exact FzR.nil | exact FzR.ints _ | exact FzR.d _ | exact hfz _ | exact FzC.map _ | exact FzC.nil | apply FzR.take | apply FzR.drop | apply FzR.app | apply FzR.cons | apply FzC.cons | assumption)); (first | rfl | exact apb))
        | ((with_reducible apply D_buildSliceK); assumption; exact rfl; exact rfl; exact rfl; decide; decide; decide; exact rfl; exact rfl)
        | ((with_reducible apply D_mvfz); assumption; exact rfl; exact rfl; (repeat (first | exact FzR.nil | exact FzR.ints _ | exact FzR.d _ | exact hfz _ | exact FzC.map _ | exact FzC.nil | apply FzR.take | apply FzR.drop | apply FzR.app | apply FzR.cons | apply FzC.cons | assumption)); (first | rfl | exact apb))
        | ((with_reducible apply D_allocK); assumption; exact rfl)
        | ((with_reducible apply D_buildN); assumption; exact rfl; exact rfl; exact rfl; exact rfl; exact rfl; exact rfl)
        | ((with_reducible apply D_boxF); assumption; exact rfl; exact rfl; exact rfl; (repeat (first | exact FzTs.nil | exact FzTs.map _ | apply FzTs.cons | exact FzT.d _ | apply FzT.fn | assumption)))
        | ((with_reducible apply D_boxK); assumption; exact rfl; exact rfl; exact rfl)
        | ((with_reducible apply D_keep); assumption; exact rfl)
        | ((with_reducible apply D_nil); exact rfl; exact rfl; exact rfl; exact rfl)
        | ((with_reducible apply D_nilA); exact rfl; exact rfl; exact rfl; exact rfl)
        | ((with_reducible apply D_ren); exact rfl; exact rfl)
        | ((with_reducible apply D_move); exact rfl)
        | ((with_reducible apply D_assign); exact rfl)
        | ((with_reducible apply gL); exact rfl; exact rfl; exact rfl; exact rfl)
        | ((with_reducible apply D_load_lo); exact rfl; exact rfl; exact rfl; exact rfl; (first | exact rfl | exact uI (by omega) (0 : Int) | exact uI (by omega) default | exact hrow _ | assumption); exact rfl)
        | ((with_reducible apply zS); exact rfl; exact rfl; exact rfl; exact rfl; decide; exact rfl)
        | ((with_reducible apply zT); exact rfl; exact rfl; exact rfl; exact rfl; decide; exact rfl)
        | ((with_reducible apply D_indexAddr_sl); exact rfl; exact rfl; exact rfl; exact rfl; exact rfl; exact rfl; omega; (first | exact iA (by omega) | exact uI (by omega) default | assumption))
        | ((with_reducible apply D_indexAddr_os); exact rfl; exact rfl; exact rfl; exact rfl; exact rfl; exact rfl; omega)
        | ((with_reducible apply D_indexAddr_vw); exact rfl; exact rfl; exact rfl; exact rfl; exact rfl; exact rfl; omega)
        | ((with_reducible apply D_len); exact rfl; exact rfl; exact rfl; (first | exact dZ _ | exact gY _ _ _ | exact dY _ _ | exact kK _ _ _ _ | exact kJ _ _ _ _ _ | exact gX))
        | ((with_reducible apply D_add64); exact rfl; exact rfl; omega)
        | ((with_reducible apply D_sub64); exact rfl; exact rfl; omega)
        | ((with_reducible apply D_add32); exact rfl; exact rfl)
        | ((with_reducible apply D_sub32); exact rfl; exact rfl)
        | ((with_reducible apply D_eql); exact rfl; exact rfl)
        | ((with_reducible apply D_neq); exact rfl; exact rfl)
        | ((with_reducible apply D_lss); exact rfl; exact rfl)
        | ((with_reducible apply D_leq); exact rfl; exact rfl)
        | ((with_reducible apply D_gtr); exact rfl; exact rfl)
        | ((with_reducible apply D_geq); exact rfl; exact rfl)
        | ((with_reducible apply D_not); exact rfl)
        | ((with_reducible apply D_box); exact rfl; exact rfl; exact rfl)
        | ((with_reducible apply D_rem); exact rfl; exact rfl; (first | decide | omega))
        | ((with_reducible apply D_eqlB); exact rfl; exact rfl; exact rfl; exact rfl)
        | ((with_reducible apply D_neqB); exact rfl; exact rfl; exact rfl; exact rfl)
        | ((with_reducible apply D_alloc); exact rfl)
        | ((with_reducible apply D_load_ptA); exact rfl; exact rfl; exact rfl; exact Nat.le_of_ble_eq_true rfl)
        | ((with_reducible apply D_load_loA); exact rfl; exact rfl; exact rfl; exact rfl; (first | exact rfl | exact uI (by omega) default | exact vA (by omega) (by omega) (0 : Int) | assumption); exact Nat.le_of_ble_eq_true rfl)
        | ((with_reducible apply xJ); exact rfl; exact rfl; exact rfl; exact rfl; exact rfl; exact rfl; (first | exact rfl | exact uI (by omega) (0 : Int) | exact uI (by omega) default | exact vA (by omega) (by omega) (0 : Int) | assumption); exact Nat.le_of_ble_eq_true rfl)
        | ((with_reducible apply D_conv64); exact rfl; exact rfl; exact rfl; exact rfl; exact rfl; omega)
        | ((with_reducible apply D_conv32u); exact rfl; exact rfl; exact rfl; exact rfl; exact rfl; omega)
        | ((with_reducible apply D_field1); exact rfl; exact rfl; exact rfl; exact rfl; exact rfl; exact rfl; exact rfl)
        | ((with_reducible apply D_fieldA); exact rfl; exact rfl; exact rfl; exact rfl; exact rfl; exact rfl)
        | ((with_reducible apply D_extract); exact rfl; exact rfl)
        | ((with_reducible apply D_slice_sl); exact rfl; exact rfl; exact rfl; exact rfl; exact rfl; (first | exact rfl | exact ⟨_, _, rfl, by omega, rfl⟩); (first | exact rfl | exact ⟨_, _, rfl, by omega, rfl⟩); omega; omega)
        | ((with_reducible apply D_slice_os); exact rfl; exact rfl; exact rfl; exact rfl; exact rfl; (first | exact rfl | exact ⟨_, _, rfl, by omega, rfl⟩); (first | exact rfl | exact ⟨_, _, rfl, by omega, rfl⟩); omega; omega)
        | ((with_reducible apply D_indexAddr_ptA); exact rfl; exact rfl; exact rfl; exact rfl; exact rfl; omega)
        | ((with_reducible apply D_indexAddr_loA); exact rfl; exact rfl; exact rfl; exact rfl; exact rfl; omega)
        | ((with_reducible apply D_index1); exact rfl; exact rfl; exact rfl; exact rfl; exact rfl; exact rfl; omega; exact rfl)
        | ((with_reducible apply D_indexA); exact rfl; exact rfl; exact rfl; exact rfl; exact rfl; exact rfl; omega)
        | ((with_reducible apply D_min); exact rfl; exact rfl)
        | ((with_reducible apply D_max); exact rfl; exact rfl)
        | ((with_reducible apply D_build); exact rfl; exact rfl; exact rfl; exact rfl; exact rfl)
        | ((with_reducible apply D_buildA); exact rfl; exact rfl; exact rfl; exact rfl; exact rfl)
        | ((with_reducible apply D_buildSlice); exact rfl; exact rfl; exact rfl; decide; decide; decide; exact rfl; exact rfl)
        | ((with_reducible apply D_makeSlice); exact rfl; exact rfl; exact rfl; decide; exact rfl; exact rfl; omega; (show ((Nat.succ _ : Nat) : Int) * _ ≤ _; omega); omega)
        | ((with_reducible apply D_makeFunc); exact rfl; exact rfl)
        | ((with_reducible apply D_nilCheck); exact rfl; exact rfl)
        | ((with_reducible apply D_mul64); exact rfl; exact rfl; omega)
        | ((with_reducible apply D_quo); exact rfl; exact rfl; (first | decide | omega))
        | ((with_reducible apply D_append); exact rfl; exact rfl; exact rfl; exact rfl; decide; exact rfl; exact rfl; (first | exact .os _ _ _ _ rfl (by first | rfl | exact apb) | exact .nil); (first | exact .os _ _ _ _ rfl (by first | rfl | exact apb) | exact .vw _ _ _ _ _ rfl (by exact apb) | exact .nil | exact .sl _); (repeat (first | exact LeafR.nil | exact LeafR.cells _ _ | exact LeafR.d _ | (apply LeafR.one; exact rfl) | exact hleaf _ | refine LeafR.take _ ?_ | refine LeafR.drop _ ?_ | refine LeafR.app ?_ ?_ | (apply LeafR.lit; exact rfl) | assumption)); (show _ * (Nat.succ _) ≤ _; exact apb); (unfold maxLen; exact apb))
        | ((with_reducible apply D_pick_or); exact evm; exact rfl; (first | (refine EvB.mb _ rfl ?_; first | exact fun h => h | exact fun h => uP h | exact fun h => uQ (by assumption) h | exact fun h => uQ (by assumption) (uP h) | (intro h; simp_all)) | exact EvB.plain rfl))
        | ((with_reducible apply D_pick_and); exact evm; (first | (refine EvB.mb _ rfl ?_; first | exact fun h => h | exact fun h => uP h | exact fun h => uQ (by assumption) h | exact fun h => uQ (by assumption) (uP h) | (intro h; simp_all)) | exact EvB.plain rfl); exact rfl)
        | ((with_reducible apply D_pick_m); exact evm; (first | (refine EvB.mb _ rfl ?_; first | exact fun h => h | exact fun h => uP h | exact fun h => uQ (by assumption) h | exact fun h => uQ (by assumption) (uP h) | (intro h; simp_all)) | exact EvB.plain rfl); (first | (refine EvB.mb _ rfl ?_; first | exact fun h => h | exact fun h => uP h | exact fun h => uQ (by assumption) h | exact fun h => uQ (by assumption) (uP h) | (intro h; simp_all)) | exact EvB.plain rfl))
        | ((with_reducible apply D_pick_v); exact rfl)
        | ((with_reducible apply dspec_t); exact rfl; exact rfl; exact yls)
        | ((with_reducible apply lV); exact rfl; exact rfl; exact yls)
        | ((with_reducible apply dspec_mt); exact rfl; exact rfl; exact yls)
        | ((with_reducible apply dspec_mf); exact rfl; exact rfl; exact yls)
        | ((with_reducible apply do_guard_u); exact rfl; exact rfl)
        | ((with_reducible refine iK ?_ ?_); (first | ((try dsimp only [wkeys]); decide +kernel) | exact rfl))
        | (with_reducible refine do_cons_app ?_)
        | (with_reducible refine do_nil_app ?_)
        | (with_reducible refine do_app_app ?_))
    | ((with_reducible apply pick_t); exact rfl)
    | ((with_reducible apply pick_f); exact rfl)
    | ((with_reducible apply pick_b); exact rfl; exact rfl)
    | (with_reducible refine awp_block ?_)
    | (with_reducible refine zI ?_)
    | (with_reducible refine aB ?_)
    | (with_reducible refine awp_exit ?_)
    | (with_reducible refine then_r ?_)
    | (with_reducible refine then_x ?_)
    | (with_reducible refine blk_r ?_)
    | (with_reducible refine blk_n ?_)
    | (with_reducible refine blk_x ?_)
    | ((with_reducible refine blk_y ?_ ?_); exact rfl)
    | (with_reducible refine awp_label ?_)
    | (with_reducible refine awp_scope ?_)
    | (with_reducible refine ng_n ?_)
    | (with_reducible refine ng_r ?_)
    | (with_reducible refine ng_x ?_))
  exact hc_q.out) : p := h ⟨hc_q⟩
end Go.Proofs.YtjogffchdejabaaGreatDoor
