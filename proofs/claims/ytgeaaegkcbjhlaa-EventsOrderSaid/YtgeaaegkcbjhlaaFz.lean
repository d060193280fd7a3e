/- A cut behind a loop; own rows that nobody writes any more become plain data. -/
import Derived.Test.YtgeaaegkcbjhlaaVk
set_option linter.unusedVariables false
namespace Go.Proofs.Ytgeaaegkcbjhlaa
open Go.RowKit

section
variable {P : Program} {n : Nat} {Q Qx : Exit → Tm → Store → Prop} {tm : Tm} {σ : Store}
theorem awp_mid {X : Type} {c rest : Code} {id : Nat} (T : X → Tm) (S : X → Store) (I : X → Prop)
    (h : awp P n c (InBlock id (Then (fun tm' σ' => ∃ y, I y ∧ (T y).le tm' ∧ (S y).le σ') Qx)) tm σ) (hr : ∀ y, I y → awp P n rest Q (T y) (S y)) :
    awp P n c (InBlock id (Then (awp P n rest Q) Qx)) tm σ := by
  refine awp_mono h fun e tm' σ' hq => ?_
  have key : ∀ e, Then (fun tm' σ' => ∃ y, I y ∧ (T y).le tm' ∧ (S y).le σ') Qx e tm' σ' → Then (awp P n rest Q) Qx e tm' σ' := fun e hq => by
    cases e
    case normal => obtain ⟨y, h1, h2, h3⟩ := hq; exact awp_le _ _ h2 h3 (hr y h1)
    all_goals exact hq
  cases e with
  | exit i =>
    simp only [InBlock] at hq ⊢
    cases hb : Nat.beq i id with
    | true => rw [hb] at hq; exact key .normal hq
    | false => rw [hb] at hq; exact key (.exit i) hq
  | normal => exact key .normal hq
  | goto l => exact key (.goto l) hq
  | ret => exact key .ret hq
  | panic c => exact key (.panic c) hq
  | outgrown => exact key .outgrown hq
theorem mid {X : Type} {T : X → Tm} {S : X → Store} {I : X → Prop} (y : X) (hI : I y) (ht : (T y).le tm) (hs : (S y).le σ) : ∃ y, I y ∧ (T y).le tm ∧ (S y).le σ := ⟨y, hI, ht, hs⟩

/-- what a value is behind the freezing of key k -/
inductive Froz (k : Nat) (τ : Stamp) (s : Nat) (rows : List (List TV)) : OV → OV → Prop where
  | same (y : OV) : Froz k τ s rows y y
  | os : Froz k τ s rows (.os k τ s rows.length) (.d (.sl s rows))
  | vw (l m : Nat) (h : l + m ≤ rows.length) : Froz k τ s rows (.vw k τ s l m) (.d (.sl s ((rows.drop l).take m)))
  | lo (i o : Nat) (row : List TV) (h : rows[i]? = some row) : Froz k τ s rows (.lo k τ s i o) (.d (.pt row o))
  | nil (q : Nat) : Froz k τ s rows (.d (.c (.slice none 0 0))) (.d (.sl q []))
theorem Froz.rep {G G' : Gh} {k s : Nat} {τ : Stamp} {rows : List (List TV)} (hle : G.le G')
    (hk : (G.μ k τ = some none ∧ rows = []) ∨ ∃ β, G.μ k τ = some (some β) ∧ ∀ i row, rows[i]? = some row → row.length = s ∧ RepC G'.M row β.b (i * s)) {y y' : OV} (h : Froz k τ s rows y y') {x : Value} (hr : RepO G y x) : RepO G' y' x := by
  cases h with
  | same => exact hr.mono hle
  | nil q =>
    have e := rep_c hr
    subst e
    rw [RepO, Rep]
    exact ⟨none, 0, rfl, Nat.le_refl _, Or.inl rfl⟩
  | os =>
    simp only [RepO] at hr ⊢
    rw [Rep]
    rcases hr with ⟨β, c, g1, g2, g3, _, _⟩ | ⟨g1, g2, g3⟩
    · refine ⟨_, c, g2, g3, ?_⟩
      rcases hk with ⟨k1, _⟩ | ⟨β', k1, k2⟩
      · rw [k1] at g1; cases g1
      · rw [k1] at g1; cases g1
        exact Or.inr ⟨_, 0, rfl, RepR.of_get fun i r hi => by rw [Nat.zero_add]; exact k2 i r hi⟩
    · have : rows = [] := List.eq_nil_of_length_eq_zero g3
      subst this
      exact ⟨none, 0, g2, Nat.le_refl _, Or.inl rfl⟩
  | vw l m hlm =>
    simp only [RepO] at hr ⊢
    rw [Rep]
    obtain ⟨a, c, g1, g2, g3⟩ := hr
    have hl : ((rows.drop l).take m).length = m := by simp; omega
    refine ⟨a, c, by rw [hl]; exact g1, by rw [hl]; exact g2, ?_⟩
    rcases g3 with g3 | ⟨β, g3, g4⟩
    · subst g3; exact Or.inl (by simp)
    · rcases hk with ⟨k1, k2⟩ | ⟨β', k1, k2⟩
      · subst k2; exact Or.inl (by simp)
      · rw [k1] at g3; cases g3
        refine Or.inr ⟨_, l * s, g4, RepR.of_get fun i r hi => ?_⟩
        rw [List.getElem?_take] at hi
        split at hi
        · rw [List.getElem?_drop] at hi
          have := k2 _ _ hi
          rw [Nat.add_mul] at this
          exact this
        · cases hi
  | lo i o row hrow =>
    simp only [RepO] at hr ⊢
    rw [Rep]
    obtain ⟨β, g1, g2⟩ := hr
    rcases hk with ⟨k1, k2⟩ | ⟨β', k1, k2⟩
    · rw [k1] at g1; cases g1
    · rw [k1] at g1; cases g1
      exact ⟨_, _, g2, (k2 i row hrow).2⟩
/-- a frame, a store behind the freezing -/
def FrozT (k : Nat) (τ : Stamp) (s : Nat) (rows : List (List TV)) (tm tm' : Tm) : Prop := ∀ t y', tm' t = some y' → ∃ y, tm t = some y ∧ Froz k τ s rows y y'
def FrozR (k : Nat) (τ : Stamp) (s : Nat) (rows : List (List TV)) (r r' : Row) : Prop := r'.s = r.s ∧ r'.rows.length = r.rows.length ∧ ∀ (i : Nat) (row' : List OV), r'.rows[i]? = some row' → ∃ row : List OV, r.rows[i]? = some row ∧ row.length = row'.length ∧ ∀ (o : Nat) (y' : OV), row'[o]? = some y' → ∃ y : OV, row[o]? = some y ∧ Froz k τ s rows y y'
def FrozS (k : Nat) (τ : Stamp) (s : Nat) (rows : List (List TV)) (σ σ' : Store) : Prop := ∀ j τ' r', σ' j = some (τ', r') → j ≠ k ∧ ∃ r, σ j = some (τ', r) ∧ FrozR k τ s rows r r'
theorem WRel.froz {Γ : Ctx} {G : Gh} {σ σ' : Store} {w : World} {k s : Nat} {τ : Stamp} {rows : List (List TV)} (hw : WRel Γ G (σ.del k) w) (hσ : FrozS k τ s rows σ σ')
    (hr : ∀ y y' x, Froz k τ s rows y y' → RepO G y x → RepO G y' x) : WRel Γ G σ' w where
  mem := hw.mem
  own j τ' r' hj := by
    obtain ⟨hne, r, h1, h2, h3, h4⟩ := hσ j τ' r' hj
    have h1' : σ.del k j = some (τ', r) := by rw [Store.del_ne _ hne]; exact h1
    rcases hw.own j τ' r h1' with ⟨g1, g2⟩ | ⟨β, g1, ⟨cs, c1, c2, c3, c4⟩, g3, g4⟩
    · exact Or.inl ⟨g1, List.eq_nil_of_length_eq_zero (by rw [h3, g2]; rfl)⟩
    · refine Or.inr ⟨β, g1, ⟨cs, c1, c2, by rw [h2, h3]; exact c3, fun i row' hi => ?_⟩, g3, g4⟩
      obtain ⟨row, e1, e2, e3⟩ := h4 i row' hi
      obtain ⟨d1, d2⟩ := c4 i row e1
      refine ⟨by rw [h2, ← d1, e2], fun o y' ho => ?_⟩
      obtain ⟨y, e4, e5⟩ := e3 o y' ho
      obtain ⟨v, e6, e7⟩ := d2 o y e4
      exact ⟨v, by rw [h2]; exact e6, hr _ _ _ e5 e7⟩
  inj j j' τ1 τ2 β β' r r' hj hj' hμ hμ' e := by
    obtain ⟨n1, r1, h1, _⟩ := hσ j τ1 r hj
    obtain ⟨n2, r2, h2, _⟩ := hσ j' τ2 r' hj'
    exact hw.inj j j' τ1 τ2 β β' r1 r2 (by rw [Store.del_ne _ n1]; exact h1) (by rw [Store.del_ne _ n2]; exact h2) hμ hμ' e
  keep := hw.keep
  size := hw.size
  tape := hw.tape
  os := hw.os
  output := hw.output
  g0 := hw.g0
  new := hw.new
  bound := hw.bound
  low := hw.low
theorem SRel.freeze {C : Cx} {G : Gh} {tm' : Tm} {σ' : Store} {a : Act} {w : World} {k s : Nat} {τ : Stamp} {rows : List (List TV)} (hs : SRel n C G tm σ a w) (hk : σ k = some (τ, ⟨s, rows.map fun r => r.map .d⟩)) (ht : FrozT k τ s rows tm tm') (hσ : FrozS k τ s rows σ σ') :
    ∃ G', SRel n C G' tm' σ' a w := by
  have fin : ∀ G', G.le G' → WRel C.Γ G' (σ.del k) w → ((G'.μ k τ = some none ∧ rows = []) ∨ ∃ β, G'.μ k τ = some (some β) ∧ ∀ i row, rows[i]? = some row → row.length = s ∧ RepC G'.M row β.b (i * s)) → SRel n C G' tm' σ' a w := fun G' hle hw hc => by
    have hr : ∀ y y' x, Froz k τ s rows y y' → RepO G' y x → RepO G' y' x := fun y y' x hf hx => hf.rep (Gh.le.refl G') hc hx
    refine ⟨hs.size, hs.defers, fun t y' hy => ?_, hw.froz hσ hr, hs.fix, hs.marks, fun i Y hi => ?_⟩
    · obtain ⟨y, h1, h2⟩ := ht t y' hy
      rcases hs.tm t y h1 with ⟨i, Y, rfl⟩ | ⟨x, h3, h4⟩
      · cases h2; exact Or.inl ⟨i, Y, rfl⟩
      · exact Or.inr ⟨x, h3, hr _ _ _ h2 (h4.mono hle)⟩
    · obtain ⟨y, h1, h2⟩ := ht GS _ hi
      cases h2
      exact ⟨(hs.gh i Y h1).1, (hs.gh i Y h1).2.1.trans hle, (hs.gh i Y h1).2.2⟩
  rcases hs.w.own k τ _ hk with ⟨h1, h2⟩ | ⟨β, h1, h2, h3, h4⟩
  · exact ⟨G, fin G (Gh.le.refl G) (hs.w.del k) (Or.inl ⟨h1, List.map_eq_nil_iff.1 h2⟩)⟩
  · obtain ⟨M', g1, g2, g3⟩ := hs.w.freeze hk h1
    refine ⟨⟨M', G.μ⟩, fin _ ⟨g1, fun _ _ _ e => e⟩ g2 (Or.inr ⟨β, h1, fun i row hi => ?_⟩)⟩
    obtain ⟨e1, e2⟩ := g3 i (row.map .d) (by simp [hi])
    refine ⟨by simpa using e1, RepC.of_get fun o t ho => ?_⟩
    obtain ⟨v, e3, e4⟩ := e2 o (.d t) (by simp [ho])
    rw [RepO] at e4
    exact ⟨v, e3, e4⟩
theorem awp_freeze {c : Code} (k : Nat) (τ : Stamp) (s : Nat) (rows : List (List TV)) (tm' : Tm) (σ' : Store) (hk : σ k = some (τ, ⟨s, rows.map fun r => r.map .d⟩)) (ht : FrozT k τ s rows tm tm') (hσ : FrozS k τ s rows σ σ') (h : awp P n c Q tm' σ') : awp P n c Q tm σ := fun C ro G a w hro hs => by
  obtain ⟨G', hs'⟩ := hs.freeze hk ht hσ
  exact h C ro G' a w hro hs'
theorem fz_nil {k s : Nat} {τ : Stamp} {rows : List (List TV)} : FrozT k τ s rows tm (tmL []) := fun t y h => by cases h
theorem fz_cons {k s d : Nat} {τ : Stamp} {rows : List (List TV)} {y y' : OV} {l : List (Nat × OV)} (h : tm d = some y) (hf : Froz k τ s rows y y') (hl : FrozT k τ s rows tm (tmL l)) : FrozT k τ s rows tm (tmL ((d, y') :: l)) := fun t z hz => by
  unfold tmL at hz
  cases hb : Nat.beq t d with
  | true => rw [hb] at hz; cases hz; rw [Nat.eq_of_beq_eq_true hb]; exact ⟨y, h, hf⟩
  | false => rw [hb] at hz; exact hl t z hz
theorem FrozR.same {k s : Nat} {τ : Stamp} {rows : List (List TV)} (r : Row) : FrozR k τ s rows r r := ⟨rfl, rfl, fun i row h => ⟨row, h, rfl, fun o y ho => ⟨y, ho, .same y⟩⟩⟩
theorem fs_nil {k s : Nat} {τ : Stamp} {rows : List (List TV)} : FrozS k τ s rows σ (stL []) := fun j τ' r h => by cases h
theorem fs_cons {k s d : Nat} {τ τ' : Stamp} {rows : List (List TV)} {r r' : Row} {l : List (Nat × (Stamp × Row))} (hne : d ≠ k) (h : σ d = some (τ', r)) (hf : FrozR k τ s rows r r') (hl : FrozS k τ s rows σ (stL l)) : FrozS k τ s rows σ (stL ((d, (τ', r')) :: l)) := fun j τ2 r2 hz => by
  unfold stL at hz
  cases hb : Nat.beq j d with
  | true => rw [hb] at hz; cases hz; rw [Nat.eq_of_beq_eq_true hb]; exact ⟨hne, r, h, hf⟩
  | false => rw [hb] at hz; exact hl j τ2 r2 hz
/-- rows of plain cells -/
theorem froz_os {k s m : Nat} {τ : Stamp} {rows : List (List TV)} (h : m = rows.length) : Froz k τ s rows (.os k τ s m) (.d (.sl s rows)) := by subst h; exact .os
end
section
variable {E : Env} {v j : Nat} {ops : Array Oper} {K : Tm → Store → Prop} {KD : List Foot → Tm → Store → Prop} {acc : List Foot} {rest : List Oper} {tm : Tm} {σ : Store} {ty : TypeId} {pos : String} {af : Array Edge} {gd : Option (Nat × Bool)} {dst : Option Tmp}
theorem ao_cons_app {o : Oper} {l1 l2 : List Oper} (h : AO E.P v ops K j (o :: List.append l1 l2) tm σ) : AO E.P v ops K j (List.append (o :: l1) l2) tm σ := h
theorem ao_nil_app {l2 : List Oper} (h : AO E.P v ops K j l2 tm σ) : AO E.P v ops K j (List.append [] l2) tm σ := h
theorem ao_app_app {l1 l2 l3 : List Oper} (h : AO E.P v ops K j (List.append l1 (List.append l2 l3)) tm σ) : AO E.P v ops K j (List.append (List.append l1 l2) l3) tm σ := by
  have e : List.append (List.append l1 l2) l3 = List.append l1 (List.append l2 l3) := List.append_assoc l1 l2 l3
  rw [e]; exact h
theorem do_cons_app {o : Oper} {l1 l2 : List Oper} (h : DO E.P v ops KD j (o :: List.append l1 l2) tm σ acc) : DO E.P v ops KD j (List.append (o :: l1) l2) tm σ acc := h
theorem do_nil_app {l2 : List Oper} (h : DO E.P v ops KD j l2 tm σ acc) : DO E.P v ops KD j (List.append [] l2) tm σ acc := h
theorem do_app_app {l1 l2 l3 : List Oper} (h : DO E.P v ops KD j (List.append l1 (List.append l2 l3)) tm σ acc) : DO E.P v ops KD j (List.append (List.append l1 l2) l3) tm σ acc := by
  have e : List.append (List.append l1 l2) l3 = List.append l1 (List.append l2 l3) := List.append_assoc l1 l2 l3
  rw [e]; exact h
/-- a mark: this tmp's rows are frozen where it is moved -/
structure Frozen (t : Nat) : Prop where
  ok : True
theorem Y_mvfz {t k s m : Nat} {τ : Stamp} {rows : List (List TV)} (hm : Frozen t) (hx : tm t = some (.os k τ s m)) (hk : σ k = some (τ, ⟨s, rows.map fun r => r.map .d⟩)) (hl : m = rows.length) :
    YL E.P v j ⟨dst, .move (.tmp t), ty, pos, af, gd⟩ tm σ [k] (.d (.sl s rows)) [(k, none)] := fun σ' hσ Γ G ρ w hv hfr hρ hw => by
  have hk' : σ' k = some (τ, ⟨s, rows.map fun r => r.map .d⟩) := by rw [hσ k (by simp)]; exact hk
  have hr := hρ (.tmp t) (by simp [Op.operands]) _ hx
  have h2 : (execOp ρ ⟨dst, .move (.tmp t), ty, pos, af, gd⟩).run E.P w = .ok (.value (ρ (.tmp t))) w := by simp [execOp]
  rw [h2]
  rcases hw.own k τ _ hk' with ⟨h1, h3⟩ | ⟨β, h1, _⟩
  · exact ⟨G, Gh.le.refl G, fun _ _ _ _ _ => rfl, (froz_os hl).rep (Gh.le.refl G) (Or.inl ⟨h1, List.map_eq_nil_iff.1 h3⟩) hr, hw.del k⟩
  · obtain ⟨M', g1, g2, g3⟩ := hw.freeze hk' h1
    have hle : G.le ⟨M', G.μ⟩ := ⟨g1, fun _ _ _ e => e⟩
    refine ⟨⟨M', G.μ⟩, hle, fun _ _ _ _ _ => rfl, (froz_os hl).rep hle (Or.inr ⟨β, h1, fun i row hi => ?_⟩) hr, g2⟩
    obtain ⟨e1, e2⟩ := g3 i (row.map .d) (by simp [hi])
    refine ⟨by simpa using e1, RepC.of_get fun o t ho => ?_⟩
    obtain ⟨v, e3, e4⟩ := e2 o (.d t) (by simp [ho])
    rw [RepO] at e4
    exact ⟨v, e3, e4⟩
/-- rows that are plain, told as plain -/
structure FzR (a : List (List OV)) (b : List (List TV)) : Prop where
  eq : a = b.map fun r => r.map .d
structure FzC (a : List OV) (b : List TV) : Prop where
  eq : a = b.map .d
theorem FzC.nil : FzC [] [] := ⟨rfl⟩
theorem FzC.cons {t : TV} {a : List OV} {b : List TV} (h : FzC a b) : FzC (.d t :: a) (t :: b) := ⟨by rw [h.eq]; rfl⟩
theorem FzC.map (b : List TV) : FzC (b.map .d) b := ⟨rfl⟩
theorem FzR.nil : FzR [] [] := ⟨rfl⟩
theorem FzR.cons {r : List OV} {t : List TV} {a : List (List OV)} {b : List (List TV)} (h1 : FzC r t) (h : FzR a b) : FzR (r :: a) (t :: b) := ⟨by rw [h1.eq, h.eq]; rfl⟩
theorem FzR.app {a a' : List (List OV)} {b b' : List (List TV)} (h : FzR a b) (h' : FzR a' b') : FzR (a ++ a') (b ++ b') := ⟨by rw [h.eq, h'.eq, List.map_append]⟩
theorem FzR.d (b : List (List TV)) : FzR (b.map fun r => r.map .d) b := ⟨rfl⟩
theorem FzR.take {a : List (List OV)} {b : List (List TV)} (n : Nat) (h : FzR a b) : FzR (a.take n) (b.take n) := ⟨by rw [h.eq, List.map_take]⟩
theorem FzR.drop {a : List (List OV)} {b : List (List TV)} (n : Nat) (h : FzR a b) : FzR (a.drop n) (b.drop n) := ⟨by rw [h.eq, List.map_drop]⟩
theorem FzR.of {α : Type} {f : α → List OV} {g : α → List TV} (h : ∀ a, f a = (g a).map .d) (l : List α) : FzR (l.map f) (l.map g) := ⟨by rw [List.map_map]; exact List.map_congr_left fun a _ => h a⟩
theorem FzR.ints (l : List Int) : FzR (l.map (cellO .i64)) (l.map cell) := FzR.of (f := cellO .i64) (g := cell) (fun _ => rfl) l
theorem S_mvfz {t k s m : Nat} {τ : Stamp} {a : List (List OV)} {rows : List (List TV)} (hm : Frozen t) (hx : tm t = some (.os k τ s m)) (hk : σ k = some (τ, ⟨s, a⟩)) (hr : FzR a rows) (hl : m = a.length)
    (hcont : AO E.P v ops K (j + 1) rest (tm.putO dst (.d (.sl s rows))) (σ.apply [(k, none)])) : AO E.P v ops K j (⟨dst, .move (.tmp t), ty, pos, af, none⟩ :: rest) tm σ := ao_step (Y_mvfz hm hx (by rw [hk, hr.eq]) (by rw [hl, hr.eq, List.length_map])) hcont
theorem D_mvfz {t k s m : Nat} {τ : Stamp} {a : List (List OV)} {rows : List (List TV)} (hm : Frozen t) (hx : tm t = some (.os k τ s m)) (hk : σ k = some (τ, ⟨s, a⟩)) (hr : FzR a rows) (hl : m = a.length)
    (hcont : DO E.P v ops KD (j + 1) rest (tm.putO dst (.d (.sl s rows))) (σ.apply [(k, none)]) (Foot.mk [k] (wkeys [(k, none)]) :: acc)) : DO E.P v ops KD j (⟨dst, .move (.tmp t), ty, pos, af, none⟩ :: rest) tm σ acc := do_step (Y_mvfz hm hx (by rw [hk, hr.eq]) (by rw [hl, hr.eq, List.length_map])) hcont
/-- a function's end where its slice is frozen -/
theorem froz_done {t k s m : Nat} {τ : Stamp} {a : List (List OV)} {rows rows' : List (List TV)} {n : Nat} {P : Program} {Q : Exit → Tm → Store → Prop} {c : Code} {tm' : Tm} {σ' : Store} (hk : σ k = some (τ, ⟨s, a⟩)) (hr : FzR a rows) (ht : FrozT k τ s rows tm tm') (hσ : FrozS k τ s rows σ σ') (h : awp P n c Q tm' σ') : awp P n c Q tm σ :=
  awp_freeze k τ s rows tm' σ' (by rw [hk, hr.eq]) ht hσ h
end
end Go.Proofs.Ytgeaaegkcbjhlaa

/- Calls that are handed rows of the caller's own, and may write them: closures over variables. -/
set_option linter.unusedVariables false
namespace Go.Proofs.Ytgeaaegkcbjhlaa
open Go.RowKit

/-- What a call answers that is handed the rows σ0, and what these are then. -/
def FnW (P : Program) (f : FuncId) (args : List OV) (σ0 : Store) (R : OV → Store → Prop) : Prop :=
  Enters P f ∧ ∀ (G : Gh) (w : World) (vs : List Value) (N : Nat), RepOL G args vs → WRel ⟨w, Blks G σ0, G, N⟩ G σ0 w →
    Calls P f vs.toArray w (fun e w' => ∃ x G' r σ', e = .returned x ∧ R r σ' ∧ G.le G' ∧ RepO G' r x ∧ WRel ⟨w, Blks G σ0, G, N⟩ G' σ' w')
theorem FnW.toR {P : Program} {f : FuncId} {args : List OV} {R : OV → Store → Prop} (h : FnW P f args Store.nil R) : FnR P f args R :=
  ⟨h.1, fun G w vs N h1 h2 => by
    have := h.2 G w vs N h1
    rw [blks_nil] at this
    exact this h2⟩
theorem FnR.toW {P : Program} {f : FuncId} {args : List OV} {R : OV → Store → Prop} (h : FnR P f args R) : FnW P f args Store.nil R :=
  ⟨h.1, fun G w vs N h1 h2 => by
    rw [blks_nil] at h2 ⊢
    exact h.2 G w vs N h1 h2⟩
/-- what the caller has behind the call: its other rows as they were, the rows handed over as they are then -/
def Behind (σ σ0 σ1 σ' : Store) : Prop := ∀ k τ r, σ' k = some (τ, r) → (σ0 k = none ∧ σ k = some (τ, r)) ∨ (σ1 k = some (τ, r) ∧ ∃ r0, σ0 k = some (τ, r0))
theorem WRel.backW {Γ : Ctx} {G G' : Gh} {σ σ0 σ1 σ' : Store} {w w' : World} {N : Nat} (h : WRel Γ G σ w) (hle : σ0.le σ) (h' : WRel ⟨w, Blks G σ0, G, N⟩ G' σ1 w') (hN : Γ.N ≤ N) (hb : Behind σ σ0 σ1 σ') : WRel Γ G' σ' w' := by
  have own' : ∀ k τ r β, σ k = some (τ, r) → G'.μ k τ = some (some β) → G.μ k τ = some (some β) := fun k τ r β hk hμ => by
    rcases h.own k τ r hk with ⟨h1, h2⟩ | ⟨β0, h1, h2⟩
    · have := h'.g0.2 _ _ _ h1; rw [hμ] at this; cases this
    · have := h'.g0.2 _ _ _ h1; rw [hμ] at this; cases this; exact h1
  have old : ∀ k τ r, σ' k = some (τ, r) → ∃ r0, σ k = some (τ, r0) := fun k τ r hk => by
    rcases hb k τ r hk with ⟨_, h1⟩ | ⟨_, r0, h1⟩
    · exact ⟨r, h1⟩
    · exact ⟨r0, hle _ _ h1⟩
  have blk : ∀ b, Blks G σ0 b → Γ.w0.heap.size ≤ b ∨ Γ.S b := fun b ⟨k, τ, r, β, h1, h2, h3⟩ => by
    rcases h.own k τ r (hle _ _ h1) with ⟨g1, _⟩ | ⟨β0, g1, _, _, g2⟩
    · rw [h2] at g1; cases g1
    · rw [h2] at g1; cases g1; rw [← h3]; exact g2
  refine ⟨h'.mem, ?_, ?_, ?_, Nat.le_trans h.size h'.size, h'.tape.trans h.tape, h'.os.trans h.os, h'.output.trans h.output, h.g0.trans h'.g0, ?_, h'.bound, fun k v i hv => (h'.low k v i (Nat.lt_of_lt_of_le hv hN)).trans (h.low k v i hv)⟩
  · intro k τ r hk
    rcases hb k τ r hk with ⟨h0, h1⟩ | ⟨h1, r0, h0⟩
    · rcases h.own k τ r h1 with ⟨g1, g2⟩ | ⟨β, g1, g2, g3, g4⟩
      · exact Or.inl ⟨h'.g0.2 _ _ _ g1, g2⟩
      · have hn : ¬ Blks G σ0 β.b := fun ⟨k', τ', r', β', e1, e2, e3⟩ => by
          have := h.inj k' k τ' τ β' β r' r (hle _ _ e1) h1 e2 g1 e3
          subst this
          rw [h0] at e1; cases e1
        refine Or.inr ⟨β, h'.g0.2 _ _ _ g1, (g2.of_heap (h'.keep β.b g2.lt hn)).mono h'.g0, fun o => ?_, g4⟩
        cases hm : G'.M β.b o with
        | none => rfl
        | some x =>
          rcases h'.new _ _ _ hm with e | e | e
          · have := g3 o; rw [show G.M β.b o = some x from e] at this; cases this
          · have := g2.lt; exact (Nat.not_lt.2 e this).elim
          · exact (hn e).elim
    · rcases h'.own k τ r h1 with g | ⟨β, g1, g2, g3, _⟩
      · exact Or.inl g
      · have e1 := own' k τ r0 β (hle _ _ h0) g1
        exact Or.inr ⟨β, g1, g2, g3, blk _ ⟨k, τ, r0, β, h0, e1, rfl⟩⟩
  · intro k k' τ τ' β β' r r' hk hk' hμ hμ' e
    obtain ⟨r0, h1⟩ := old k τ r hk
    obtain ⟨r0', h1'⟩ := old k' τ' r' hk'
    exact h.inj k k' τ τ' β β' r0 r0' h1 h1' (own' _ _ _ _ h1 hμ) (own' _ _ _ _ h1' hμ') e
  · intro b hb' hS
    refine (h'.keep b (Nat.lt_of_lt_of_le hb' h.size) fun hB => ?_).trans (h.keep b hb' hS)
    rcases blk b hB with e | e
    · exact Nat.not_lt.2 e hb'
    · exact hS e
  · intro b o x hm
    rcases h'.new b o x hm with e | e | e
    · exact h.new b o x e
    · exact Or.inr (Or.inl (Nat.le_trans h.size e))
    · exact Or.inr (blk b e)

section
variable {P : Program} {v j : Nat} {tm : Tm} {σ : Store} {dst : Option Tmp} {ty : TypeId} {pos : String} {af : Array Edge} {gd : Option (Nat × Bool)} {K : OV → Store → Prop}
theorem call_coreW {x : Operand} {xs : List Operand} {tys : Array TypeId} {y : OV} {f : FuncId} {fi ca ys : List OV} {σ0 : Store} {R : OV → Store → Prop} (hx : ev tm x = some y) (hf : IsFn y f fi ca) (ha : evs tm xs = some ys) (hc : FnW P f (fi ++ ys ++ ca) σ0 R)
    {Γ : Ctx} {G : Gh} {ρ : Operand → Value} {w : World} (hρ : ∀ z ∈ (Op.call { callee := .value x, args := xs.toArray, argTypes := tys }).operands, ∀ y, ev tm z = some y → RepO G y (ρ z)) (hw : WRel Γ G σ w) (hle : σ0.le σ) :
    ∃ f' args, (execOp ρ ⟨dst, .call { callee := .value x, args := xs.toArray, argTypes := tys }, ty, pos, af, gd⟩).run P w = .ok (.enter f' args) w ∧
      Calls P f' args w (fun e w' => ∃ x G' r σ', e = .returned x ∧ R r σ' ∧ G.le G' ∧ RepO G' r x ∧ WRel ⟨w, Blks G σ0, G, v + 1⟩ G' σ' w') := by
  obtain ⟨vs, us, h1, h2, h3⟩ := hf.rep (hρ x (by simp [Op.operands, Call.operands]) y hx)
  have h4 := evs_rep ha fun z hz => hρ z (by simp [Op.operands, Call.operands, hz])
  refine ⟨f, _, run_call h1 hc.1, ?_⟩
  have h5 := hc.2 G w (vs.toList ++ xs.map ρ ++ us.toList) (v + 1) ((h2.append h4).append h3) (hw.startW hle (v + 1))
  have e : (vs.toList ++ xs.map ρ ++ us.toList).toArray = vs ++ (xs.map ρ).toArray ++ us := by simp
  rw [e] at h5
  exact h5
/-- the caller's store behind the call: the first list's keys are the second's -/
def outD (l1 : List (Nat × (Stamp × Row))) : Diff := l1.map fun e => (e.1, some e.2)
def keysOf (l : List (Nat × (Stamp × Row))) : List (Nat × Stamp) := l.map fun e => (e.1, e.2.1)
theorem stL_get : ∀ {l : List (Nat × (Stamp × Row))} {k : Nat} {x : Stamp × Row}, stL l k = some x → k ∈ l.map (·.1)
  | [], k, x, h => by cases h
  | (d, y) :: l, k, x, h => by
    unfold stL at h
    cases hb : Nat.beq k d with
    | true => rw [Nat.eq_of_beq_eq_true hb]; simp
    | false => rw [hb] at h; simp [stL_get (show stL l k = some x from h)]
theorem stL_none : ∀ {l : List (Nat × (Stamp × Row))} {k : Nat}, k ∉ l.map (·.1) → stL l k = none
  | [], k, h => rfl
  | (d, y) :: l, k, h => by
    unfold stL
    simp only [List.map_cons, List.mem_cons, not_or] at h
    rw [beq_ne h.1]
    exact stL_none h.2
theorem stL_cons (d : Nat) (y : Stamp × Row) (l : List (Nat × (Stamp × Row))) (k : Nat) : stL ((d, y) :: l) k = bif Nat.beq k d then some y else stL l k := rfl
theorem applyD_out : ∀ (l : List (Nat × (Stamp × Row))) (σ : Store) (k : Nat), (l.map (·.1)).Nodup → (σ.apply (outD l)) k = match stL l k with | some x => some x | none => σ k
  | [], σ, k, _ => rfl
  | (d, y) :: l, σ, k, hn => by
    simp only [List.map_cons, List.nodup_cons] at hn
    have ih := applyD_out l (σ.put d y) k hn.2
    show (Store.apply (σ.put d y) (outD l)) k = _
    rw [ih, stL_cons]
    cases hb : Nat.beq k d with
    | true =>
      have e := Nat.eq_of_beq_eq_true hb
      subst e
      rw [stL_none hn.1]
      exact Store.put_self σ k y
    | false =>
      have h1 : σ.put d y k = σ k := by simp [Store.put, hb]
      rw [h1]; rfl
theorem keys_stamp : ∀ {l0 l1 : List (Nat × (Stamp × Row))}, keysOf l0 = keysOf l1 → ∀ {k : Nat} {x : Stamp × Row}, stL l1 k = some x → ∃ r0, stL l0 k = some (x.1, r0)
  | [], [], _, k, x, h => by cases h
  | [], _ :: _, e, _, _, _ => by cases e
  | _ :: _, [], e, _, _, _ => by cases e
  | (d0, y0) :: l0, (d1, y1) :: l1, e, k, x, h => by
    simp only [keysOf, List.map_cons, List.cons.injEq, Prod.mk.injEq] at e
    obtain ⟨⟨rfl, e2⟩, e3⟩ := e
    unfold stL at h ⊢
    cases hb : Nat.beq k d0 with
    | true =>
      rw [hb] at h
      cases h
      exact ⟨y0.2, by rw [← e2]; rfl⟩
    | false =>
      rw [hb] at h
      exact keys_stamp e3 h
theorem keys_none {l0 l1 : List (Nat × (Stamp × Row))} (e : keysOf l0 = keysOf l1) {k : Nat} (h : stL l1 k = none) : stL l0 k = none := by
  cases hh : stL l0 k with
  | none => rfl
  | some x =>
    obtain ⟨r0, h1⟩ := keys_stamp e.symm hh
    rw [h] at h1; cases h1
/-- the contract's answer, and the rows as they are then -/
def IsW (r : OV) (σ1 : Store) : OV → Store → Prop := fun r' σ' => r' = r ∧ σ1.le σ'
theorem Y_callw {x : Operand} {xs : List Operand} {tys : Array TypeId} {y : OV} {f : FuncId} {fi ca ys : List OV} {r : OV} {l0 l1 : List (Nat × (Stamp × Row))} (hx : ev tm x = some y) (hf : IsFn y f fi ca) (ha : evs tm xs = some ys) (hc : FnW P f (fi ++ ys ++ ca) (stL l0) (IsW r (stL l1)))
    (hle : (stL l0).le σ) (hk : keysOf l0 = keysOf l1) (hn : (l1.map (·.1)).Nodup) :
    YL P v j ⟨dst, .call { callee := .value x, args := xs.toArray, argTypes := tys }, ty, pos, af, gd⟩ tm σ (l0.map (·.1)) r (outD l1) := fun σ' hσ Γ G ρ w hv _ hρ hw => by
  have hle' : (stL l0).le σ' := fun k x hx => by rw [hσ k (stL_get hx)]; exact hle k x hx
  obtain ⟨f', args, h1, h2⟩ := call_coreW (v := v) hx hf ha hc hρ hw hle'
  rw [h1]
  refine h2.mono fun e w' ⟨x, G', r', σ2, h3, ⟨h4, h4'⟩, h5, h6, h7⟩ => ⟨x, h3, G', h5, fun k v' i hv' _ => h7.low k v' i (Nat.lt_succ_of_le hv'), by rw [← h4]; exact h6, hw.backW hle' h7 (Nat.le_succ_of_le hv) fun k τ r hkr => ?_⟩
  rw [applyD_out l1 σ' k hn] at hkr
  cases h8 : stL l1 k with
  | some x =>
    rw [h8] at hkr
    cases hkr
    exact Or.inr ⟨h4' _ _ h8, keys_stamp hk h8⟩
  | none =>
    rw [h8] at hkr
    exact Or.inl ⟨keys_none hk h8, hkr⟩
end
/-- functions that are handed rows -/
theorem fnw_core {P : Program} {f : FuncId} {fn : Func} {c : Code} {n : Nat} {args : List OV} {σ0 : Store} {Q : Exit → Tm → Store → Prop} {R : OV → Store → Prop} (hf : P.funcs[f]? = some fn) (hname : (fn.name == "runtime.NumGoroutine") = false) (hb : fn.body = some c) (hn : fn.ntmps = n) (hl : args.length ≤ n)
    (hq : ∀ e G tm σ C a w, SRel n C G tm σ a w → Q e tm σ → (e = .normal ∨ e = .ret) ∧ ∃ x r, (results fn a.tmps).run P w = .ok x w ∧ RepO G r x ∧ R r σ)
    (h : awp P n c Q (Tm.ini args) σ0) : FnW P f args σ0 R :=
  ⟨⟨fn, hf, hname, by rw [hb]; rfl⟩, fun G w vs N hv hw => body_calls hf hb hn hl h hv rfl hw rfl hq⟩
theorem fnw_of_awp {P : Program} {f : FuncId} {fn : Func} {c : Code} {n t : Nat} {args : List OV} {σ0 : Store} {R : OV → Store → Prop} (hf : P.funcs[f]? = some fn) (hname : (fn.name == "runtime.NumGoroutine") = false) (hb : fn.body = some c) (hn : fn.ntmps = n) (hl : args.length ≤ n) (hr : fn.results = #[.tmp t])
    (h : awp P n c (Done t R) (Tm.ini args) σ0) : FnW P f args σ0 R := by
  refine fnw_core hf hname hb hn hl (fun e G tm σ Γ a w hs hd => ?_) h
  have key : (∃ r, tm t = some r ∧ R r σ) → ∃ x r, (results fn a.tmps).run P w = .ok x w ∧ RepO G r x ∧ R r σ := fun ⟨r, h1, h2⟩ => by
    refine ⟨a.tmps.getD t undef, r, ?_, hs.tm.val h1, h2⟩
    simp [results, hr]
  cases e <;> first | exact hd.elim | exact ⟨by simp, key hd⟩
/-- no result -/
def Done0 (R : OV → Store → Prop) : Exit → Tm → Store → Prop
  | .normal, _, σ => R (.tu []) σ
  | .ret, _, σ => R (.tu []) σ
  | _, _, _ => False
theorem fnw_of_awp0 {P : Program} {f : FuncId} {fn : Func} {c : Code} {n : Nat} {args : List OV} {σ0 : Store} {R : OV → Store → Prop} (hf : P.funcs[f]? = some fn) (hname : (fn.name == "runtime.NumGoroutine") = false) (hb : fn.body = some c) (hn : fn.ntmps = n) (hl : args.length ≤ n) (hr : fn.results = #[])
    (h : awp P n c (Done0 R) (Tm.ini args) σ0) : FnW P f args σ0 R := by
  refine fnw_core hf hname hb hn hl (fun e G tm σ Γ a w hs hd => ?_) h
  have key : R (.tu []) σ → ∃ x r, (results fn a.tmps).run P w = .ok x w ∧ RepO G r x ∧ R r σ := fun h1 => by
    refine ⟨.tuple #[], .tu [], ?_, ?_, h1⟩
    · simp [results, hr]
    · rw [RepO]; exact ⟨#[], rfl, by rw [RepOL]⟩
  cases e <;> first | exact hd.elim | exact ⟨by simp, key hd⟩
section
variable {E : Env} {v j : Nat} {ops : Array Oper} {K : Tm → Store → Prop} {KD : List Foot → Tm → Store → Prop} {acc : List Foot} {rest : List Oper} {tm : Tm} {σ : Store} {ty : TypeId} {pos : String} {af : Array Edge} {gd : Option (Nat × Bool)} {dst : Option Tmp}
theorem S_callw {x : Operand} {xs : List Operand} {tys : Array TypeId} {y : OV} {f : FuncId} {fi ca ys : List OV} {r : OV} {l0 l1 : List (Nat × (Stamp × Row))} (hx : ev tm x = some y) (hf : IsFn y f fi ca) (ha : evs tm xs = some ys) (hc : FnW E.P f (fi ++ ys ++ ca) (stL l0) (IsW r (stL l1)))
    (hle : (stL l0).le σ) (hk : keysOf l0 = keysOf l1) (hn : (l1.map (·.1)).Nodup)
    (hcont : AO E.P v ops K (j + 1) rest (tm.putO dst r) (σ.apply (outD l1))) : AO E.P v ops K j (⟨dst, .call { callee := .value x, args := xs.toArray, argTypes := tys }, ty, pos, af, none⟩ :: rest) tm σ := ao_step (Y_callw hx hf ha hc hle hk hn) hcont
theorem D_callw {x : Operand} {xs : List Operand} {tys : Array TypeId} {y : OV} {f : FuncId} {fi ca ys : List OV} {r : OV} {l0 l1 : List (Nat × (Stamp × Row))} (hx : ev tm x = some y) (hf : IsFn y f fi ca) (ha : evs tm xs = some ys) (hc : FnW E.P f (fi ++ ys ++ ca) (stL l0) (IsW r (stL l1)))
    (hle : (stL l0).le σ) (hk : keysOf l0 = keysOf l1) (hn : (l1.map (·.1)).Nodup)
    (hcont : DO E.P v ops KD (j + 1) rest (tm.putO dst r) (σ.apply (outD l1)) (Foot.mk (l0.map (·.1)) (wkeys (outD l1)) :: acc)) : DO E.P v ops KD j (⟨dst, .call { callee := .value x, args := xs.toArray, argTypes := tys }, ty, pos, af, none⟩ :: rest) tm σ acc := do_step (Y_callw hx hf ha hc hle hk hn) hcont
end
/-! ### calls that hand over rows of their own, too -/
/-- what was handed over is gone, what is handed back is there -/
def dels (l0 : List (Nat × (Stamp × Row))) : Diff := l0.map fun e => (e.1, none)
theorem applyD_del : ∀ (l : List (Nat × (Stamp × Row))) (σ : Store) (k : Nat), (σ.apply (dels l)) k = match stL l k with | some _ => none | none => σ k
  | [], σ, k => rfl
  | (d, y) :: l, σ, k => by
    show (Store.apply (σ.del d) (dels l)) k = _
    rw [applyD_del l (σ.del d) k, stL_cons]
    cases hb : Nat.beq k d with
    | true =>
      have e := Nat.eq_of_beq_eq_true hb
      subst e
      rw [Store.del_self]
      cases stL l k <;> rfl
    | false =>
      have h1 : σ.del d k = σ k := by simp [Store.del, hb]
      rw [h1]; rfl
/-- a contract's answer: for some x, this value, these rows -/
def IsX {X : Type} (I : X → Prop) (r0 : X → OV) (l1 : X → List (Nat × (Stamp × Row))) : OV → Store → Prop := fun r σ' => ∃ x, I x ∧ r = r0 x ∧ (stL (l1 x)).le σ'
section
variable {P : Program} {v j : Nat} {tm : Tm} {σ : Store} {dst : Option Tmp} {ty : TypeId} {pos : String} {af : Array Edge} {gd : Option (Nat × Bool)} {K : OV → Store → Prop}
theorem C_callX {X : Type} {I : X → Prop} {r0 : X → OV} {l1 : X → List (Nat × (Stamp × Row))} {x : Operand} {xs : List Operand} {tys : Array TypeId} {y : OV} {f : FuncId} {fi ca ys : List OV} {l0 : List (Nat × (Stamp × Row))} (hx : ev tm x = some y) (hf : IsFn y f fi ca) (ha : evs tm xs = some ys)
    (hc : FnW P f (fi ++ ys ++ ca) (stL l0) (IsX I r0 l1)) (hle : (stL l0).le σ) (hn : ∀ x, ((l1 x).map (·.1)).Nodup)
    (hk : ∀ x, I x → K (r0 x) ((σ.apply (dels l0)).apply (outD (l1 x)))) : OpOk P v j ⟨dst, .call { callee := .value x, args := xs.toArray, argTypes := tys }, ty, pos, af, gd⟩ tm σ K := OpK.ok fun Γ G ρ w hv _ hρ hw => by
  obtain ⟨f', args, h1, h2⟩ := call_coreW (v := v) hx hf ha hc hρ hw hle
  rw [h1]
  refine h2.mono fun e w' ⟨x, G', r', σ2, h3, ⟨z, hI, h4, h4'⟩, h5, h6, h7⟩ => ⟨x, h3, G', r0 z, _, h5, fun k v' i hv' _ => h7.low k v' i (Nat.lt_succ_of_le hv'), by rw [← h4]; exact h6, hw.backX hle h7 (Nat.le_succ_of_le hv) fun k τ r hkr => ?_, hk z hI⟩
  rw [applyD_out (l1 z) _ k (hn z)] at hkr
  cases h8 : stL (l1 z) k with
  | some x =>
    rw [h8] at hkr
    cases hkr
    exact Or.inr (h4' _ _ h8)
  | none =>
    rw [h8, applyD_del] at hkr
    cases h9 : stL l0 k with
    | some x => rw [h9] at hkr; cases hkr
    | none => rw [h9] at hkr; exact Or.inl ⟨rfl, hkr⟩
end
section
variable {E : Env} {v j : Nat} {ops : Array Oper} {K : Tm → Store → Prop} {KD : List Foot → Tm → Store → Prop} {acc : List Foot} {rest : List Oper} {tm : Tm} {σ : Store} {ty : TypeId} {pos : String} {af : Array Edge} {gd : Option (Nat × Bool)} {dst : Option Tmp}
theorem S_callX {X : Type} {I : X → Prop} {r0 : X → OV} {l1 : X → List (Nat × (Stamp × Row))} {x : Operand} {xs : List Operand} {tys : Array TypeId} {y : OV} {f : FuncId} {fi ca ys : List OV} {l0 : List (Nat × (Stamp × Row))} (hx : ev tm x = some y) (hf : IsFn y f fi ca) (ha : evs tm xs = some ys)
    (hc : FnW E.P f (fi ++ ys ++ ca) (stL l0) (IsX I r0 l1)) (hle : (stL l0).le σ) (hn : ∀ x, ((l1 x).map (·.1)).Nodup)
    (hcont : ∀ x, I x → AO E.P v ops K (j + 1) rest (tm.putO dst (r0 x)) ((σ.apply (dels l0)).apply (outD (l1 x)))) : AO E.P v ops K j (⟨dst, .call { callee := .value x, args := xs.toArray, argTypes := tys }, ty, pos, af, none⟩ :: rest) tm σ :=
  ao_ok (C_callX hx hf ha hc hle hn hcont)
end
section
variable {E : Env} {v j : Nat} {ops : Array Oper} {K : Tm → Store → Prop} {KD : List Foot → Tm → Store → Prop} {acc : List Foot} {rest : List Oper} {tm : Tm} {σ : Store} {ty : TypeId} {pos : String} {af : Array Edge} {gd : Option (Nat × Bool)} {dst : Option Tmp}
/-- a variable that closures write: its row lies at a key of its own -/
structure KeyOf (d k : Nat) : Prop where
  ok : True
theorem Y_allocK {d k : Nat} {T : TypeId} {te : TE} (hm : KeyOf d k) (hT : E.tab T = some te) : YL E.P v j ⟨some d, .alloc T, ty, pos, af, gd⟩ tm σ [] (.lo k (v, j) te.size 0 0) [(k, some ((v, j), ⟨te.size, [consts te.zero]⟩))] :=
  fun σ _ Γ G ρ w hv hf _ hw => by
  obtain ⟨z, hz, hzc⟩ := run_zeroValue' (E.ok T te hT) w
  obtain ⟨_, i, z', _, _, _, _, _, hlen, hone⟩ := E.ok T te hT
  have hr : (execOp ρ ⟨some d, .alloc T, ty, pos, af, gd⟩).run E.P w = .ok (.value (.pointer (some ⟨w.heap.size, 0, none⟩))) (w.alloc (.cells z.cells T)) := by
    simp only [execOp, Instr.alloc, Sem.run_bind, hz, Result.andThen_ok, newVar, newRow, run_newObj, Sem.run_pure]; rfl
  rw [hr]
  have hsz : z.cells.size = te.size := by rw [← Array.length_toList, hzc, hlen]
  refine Leaves.alloc hw hv hf z.cells T (by simp [hsz]) (RowAt.one (by rw [hzc]; exact consts_rep hone) (by simp [consts, hlen])) ?_
  rw [RepO]
  exact ⟨_, Gh.name_self _ _ _ _, by simp⟩
theorem Y_boxK {d k : Nat} {T : TypeId} {x : Operand} {y : OV} {n : Nat} (hm : KeyOf d k) (hx : ev tm x = some y) (hw' : y.wide = true) (hn : y.cells.length = n) : YL E.P v j ⟨some d, .box T x, ty, pos, af, gd⟩ tm σ [] (.lo k (v, j) n 0 0) [(k, some ((v, j), ⟨n, [y.cells]⟩))] :=
  fun σ _ Γ G ρ w hv hf hρ hw => by
  obtain ⟨h1, h2⟩ := (hρ x (by simp [Op.operands]) _ hx).cells hw'
  have hr : (execOp ρ ⟨some d, .box T x, ty, pos, af, gd⟩).run E.P w = .ok (.value (.pointer (some ⟨w.heap.size, 0, none⟩))) (w.alloc (.cells (ρ x).cells T)) := by
    simp only [execOp, Instr.box, Sem.run_bind, Result.andThen_ok, newVar, newRow, run_newObj, Sem.run_pure]; rfl
  rw [hr]
  refine Leaves.alloc hw hv hf _ T (by have := h1.length; simp at this; simp; omega) (RowAt.one h1 hn) ?_
  rw [RepO]
  exact ⟨_, Gh.name_self _ _ _ _, by simp⟩
theorem S_allocK {d k : Nat} {T : TypeId} {te : TE} (hm : KeyOf d k) (hT : E.tab T = some te) (hcont : AO E.P v ops K (j + 1) rest (tm.putO (some d) (.lo k (v, j) te.size 0 0)) (σ.apply [(k, some ((v, j), ⟨te.size, [consts te.zero]⟩))])) : AO E.P v ops K j (⟨some d, .alloc T, ty, pos, af, none⟩ :: rest) tm σ := ao_step (Y_allocK hm hT) hcont
theorem D_allocK {d k : Nat} {T : TypeId} {te : TE} (hm : KeyOf d k) (hT : E.tab T = some te) (hcont : DO E.P v ops KD (j + 1) rest (tm.putO (some d) (.lo k (v, j) te.size 0 0)) (σ.apply [(k, some ((v, j), ⟨te.size, [consts te.zero]⟩))]) (Foot.mk [] (wkeys [(k, some ((v, j), ⟨te.size, [consts te.zero]⟩))]) :: acc)) : DO E.P v ops KD j (⟨some d, .alloc T, ty, pos, af, none⟩ :: rest) tm σ acc := do_step (Y_allocK hm hT) hcont
theorem S_boxK {d k : Nat} {T : TypeId} {x : Operand} {y : OV} {n : Nat} (hm : KeyOf d k) (hx : ev tm x = some y) (hw' : y.wide = true) (hn : y.cells.length = n) (hcont : AO E.P v ops K (j + 1) rest (tm.putO (some d) (.lo k (v, j) n 0 0)) (σ.apply [(k, some ((v, j), ⟨n, [y.cells]⟩))])) : AO E.P v ops K j (⟨some d, .box T x, ty, pos, af, none⟩ :: rest) tm σ := ao_step (Y_boxK hm hx hw' hn) hcont
theorem D_boxK {d k : Nat} {T : TypeId} {x : Operand} {y : OV} {n : Nat} (hm : KeyOf d k) (hx : ev tm x = some y) (hw' : y.wide = true) (hn : y.cells.length = n) (hcont : DO E.P v ops KD (j + 1) rest (tm.putO (some d) (.lo k (v, j) n 0 0)) (σ.apply [(k, some ((v, j), ⟨n, [y.cells]⟩))]) (Foot.mk [] (wkeys [(k, some ((v, j), ⟨n, [y.cells]⟩))]) :: acc)) : DO E.P v ops KD j (⟨some d, .box T x, ty, pos, af, none⟩ :: rest) tm σ acc := do_step (Y_boxK hm hx hw' hn) hcont
end
end Go.Proofs.Ytgeaaegkcbjhlaa

/- The end of a function: results in slots, in cells. -/
set_option linter.unusedVariables false
namespace Go.Proofs.Ytgeaaegkcbjhlaa
open Go.RowKit
theorem ld_lo {E : Env} {Γ : Ctx} {G : Gh} {σ : Store} {w : World} (hw : WRel Γ G σ w) {T : TypeId} {te : TE} {k : Nat} {τ : Stamp} {s : Nat} {rows : List (List OV)} {row : List OV} {x : Value} (hT : E.tab T = some te) (hx : RepO G (.lo k τ s 0 0) x)
    (hs : σ k = some (τ, ⟨s, rows⟩)) (hr : rows[0]? = some row) (ha : te.k.isAgg = true) (hl : te.size = row.length) : ∃ v, (do loadVar T (← asAddr x) : Sem Value).run E.P w = .ok v w ∧ RepO G (.ag row) v := by
  rw [RepO] at hx
  obtain ⟨β, hμ, h1⟩ := hx
  obtain ⟨cs, h2, h3, h4, h5⟩ := hw.blk hs hμ
  have hget : ∀ j, j < te.size → ∃ v, w.cell? ⟨β.b, 0 * s + 0 + j, none⟩ = some v ∧ ∃ t, row[0 + j]? = some t ∧ RepO G t v := fun j hj => by
    obtain ⟨v, h6, h7⟩ := (h5 0 row hr).2 (0 + j) _ (List.getElem?_eq_getElem (l := row) (i := 0 + j) (by omega))
    exact ⟨v, by simpa [World.cell?, h2, Nat.add_assoc] using h6, _, List.getElem?_eq_getElem (by omega), h7⟩
  have hv : ∀ j, j < te.size → w.cell? ((⟨β.b, 0 * s + 0, none⟩ : Addr).add j) = some ((w.cell? ⟨β.b, 0 * s + 0 + j, none⟩).getD undef) := fun j hj => by
    obtain ⟨v, h3, _⟩ := hget j hj
    rw [add_spot, h3]; rfl
  have hr' := run_loadCells (P := E.P) w ⟨β.b, 0 * s + 0, none⟩ te.size (fun j => (w.cell? ⟨β.b, 0 * s + 0 + j, none⟩).getD undef) hv
  refine ⟨.agg ((List.range te.size).map (fun j => (w.cell? ⟨β.b, 0 * s + 0 + j, none⟩).getD undef)).toArray, by simp only [h1, asAddr, loadVar, Sem.run_bind, Sem.run_pure, run_isAgg (E.ok T te hT), ha, Result.andThen_ok, if_true, run_sizeOf' (E.ok T te hT), hr'], ?_⟩
  rw [RepO]
  refine ⟨_, rfl, RepOL.of_get (by simp; omega) fun i t v h3 h4 => ?_⟩
  have hi : i < te.size := by
    rcases Nat.lt_or_ge i te.size with h | h
    · exact h
    · rw [List.getElem?_eq_none (by simp; omega)] at h4; cases h4
  obtain ⟨u, h5, t', h6, h7⟩ := hget i hi
  have h5' : w.cell? ⟨β.b, i, none⟩ = some u := by simpa using h5
  have e1 : v = u := by simpa [hi, h5'] using h4.symm
  rw [Nat.zero_add, h3] at h6
  cases h6
  rw [e1]; exact h7
/-- what a function's result holds -/
def ResAt (E : Env) (tm : Tm) (σ : Store) : ResultVar → OV → Prop
  | .tmp t, r => tm t = some r
  | .cell t T, r => ∃ te k τ row rest, E.tab T = some te ∧ te.k.isAgg = true ∧ te.size = row.length ∧ tm t = some (.lo k τ te.size 0 0) ∧ σ k = some (τ, ⟨te.size, row :: rest⟩) ∧ r = .ag row
def ResAll (E : Env) (tm : Tm) (σ : Store) : List ResultVar → List OV → Prop
  | [], rs => rs = []
  | v :: vs, rs => ∃ r rs', rs = r :: rs' ∧ ResAt E tm σ v r ∧ ResAll E tm σ vs rs'
def packO : List OV → OV
  | [r] => r
  | rs => .tu rs
def DoneN (E : Env) (vs : List ResultVar) (R : OV → Store → Prop) : Exit → Tm → Store → Prop
  | .normal, tm, σ => ∃ rs, ResAll E tm σ vs rs ∧ R (packO rs) σ
  | .ret, tm, σ => ∃ rs, ResAll E tm σ vs rs ∧ R (packO rs) σ
  | _, _, _ => False
def resOne (tmps : Array Value) : ResultVar → Sem Value
  | .tmp t => pure (tmps.getD t undef)
  | .cell a t => do loadVar t (← asAddr (tmps.getD a undef))
theorem res_one {E : Env} {n : Nat} {C : Cx} {G : Gh} {tm : Tm} {σ : Store} {a : Act} {w : World} (hs : SRel n C G tm σ a w) {v : ResultVar} {r : OV} (h : ResAt E tm σ v r) : ∃ x, (resOne a.tmps v).run E.P w = .ok x w ∧ RepO G r x := by
  cases v with
  | tmp t =>
    exact ⟨_, by simp only [resOne, Sem.run_pure], hs.tm.val h⟩
  | cell t T =>
    obtain ⟨te, k, τ, row, rest, h1, h2, h3, h4, h5, rfl⟩ := h
    have h7 := hs.tm.val h4
    simp only [resOne]
    exact ld_lo hs.w h1 h7 h5 rfl h2 h3
theorem res_all {E : Env} {n : Nat} {C : Cx} {G : Gh} {tm : Tm} {σ : Store} {a : Act} {w : World} (hs : SRel n C G tm σ a w) : ∀ {vs : List ResultVar} {rs : List OV}, ResAll E tm σ vs rs → ∃ xs, (vs.mapM (resOne a.tmps)).run E.P w = .ok xs w ∧ RepOL G rs xs
  | [], rs, h => by
    rw [ResAll] at h; subst h
    exact ⟨[], by simp, by rw [RepOL]⟩
  | v :: vs, rs, h => by
    rw [ResAll] at h
    obtain ⟨r, rs', rfl, h1, h2⟩ := h
    obtain ⟨x, h3, h4⟩ := res_one hs h1
    obtain ⟨xs, h5, h6⟩ := res_all hs h2
    exact ⟨x :: xs, by simp [List.mapM_cons, h3, h5], by rw [RepOL]; exact ⟨x, xs, rfl, h4, h6⟩⟩
def resVal (xs : List Value) : Value := if h : xs.toArray.size = 1 then xs.toArray[0] else .tuple xs.toArray
theorem results_eq (fn : Func) (tmps : Array Value) : results fn tmps = (fn.results.mapM (resOne tmps)) >>= fun vs => pure (if h : vs.size = 1 then vs[0] else .tuple vs) := by
  unfold results
  refine congrArg (· >>= _) (congrArg (fun f => Array.mapM f fn.results) (funext fun x => ?_))
  cases x <;> rfl
theorem results_run {P : Program} {w w' : World} {fn : Func} {vs : List ResultVar} {xs : List Value} (hr : fn.results = vs.toArray) (tmps : Array Value) (h : (vs.mapM (resOne tmps)).run P w = .ok xs w') : (results fn tmps).run P w = .ok (resVal xs) w' := by
  have e : (fn.results.mapM (resOne tmps)).run P w = .ok xs.toArray w' := by
    rw [hr, List.mapM_toArray]
    simp [h]
  rw [results_eq]
  simp only [Sem.run_bind, e, Result.andThen_ok, Sem.run_pure]
  rfl
theorem fn_of_awpN {E : Env} {f : FuncId} {fn : Func} {c : Code} {n : Nat} {vs : List ResultVar} {args : List OV} {σ0 : Store} {R : OV → Store → Prop} (hf : E.P.funcs[f]? = some fn) (hname : (fn.name == "runtime.NumGoroutine") = false) (hb : fn.body = some c) (hn : fn.ntmps = n) (hl : args.length ≤ n) (hr : fn.results = vs.toArray)
    (h : awp E.P n c (DoneN E vs R) (Tm.ini args) σ0) : FnW E.P f args σ0 R := by
  refine fnw_core hf hname hb hn hl (fun e G tm σ Γ a w hs hd => ?_) h
  have key : (∃ rs, ResAll E tm σ vs rs ∧ R (packO rs) σ) → ∃ x r, (results fn a.tmps).run E.P w = .ok x w ∧ RepO G r x ∧ R r σ := fun ⟨rs, h1, h2⟩ => by
    obtain ⟨xs, h3, h4⟩ := res_all hs h1
    refine ⟨resVal xs, packO rs, results_run hr _ h3, ?_, h2⟩
    · cases rs with
      | nil => rw [RepOL] at h4; subst h4; simp only [packO]; rw [RepO]; exact ⟨#[], rfl, by rw [RepOL]⟩
      | cons r rs =>
        rw [RepOL] at h4
        obtain ⟨x, xs', rfl, h5, h6⟩ := h4
        cases rs with
        | nil => rw [RepOL] at h6; subst h6; exact h5
        | cons r' rs =>
          have h7 := h6
          rw [RepOL] at h6
          obtain ⟨x', xs2, rfl, _, _⟩ := h6
          simp only [packO]
          rw [RepO]
          exact ⟨(x :: x' :: xs2).toArray, by simp [resVal], by rw [RepOL]; exact ⟨_, _, rfl, h5, h7⟩⟩
  cases e <;> first | exact hd.elim | exact ⟨by simp, key hd⟩
end Go.Proofs.Ytgeaaegkcbjhlaa

/- Steps whose new rows lie at a key that a mark names, or are frozen at once (printed by program). -/
set_option linter.unusedVariables false
namespace Go.Proofs.Ytgeaaegkcbjhlaa
open Go.RowKit
theorem get_set_ne {α β : Type} {f : α → β} {l : List α} {i j : Nat} {r : β} (h : i < l.length) (hne : j ≠ i) (d : α) : ((l.map f).set j r)[i]? = some (f (l.getD i d)) := by
  rw [List.getElem?_set_ne hne]; exact get_map h d
theorem YL.dst {P : Program} {v j : Nat} {d d' : Option Tmp} {op : Op} {ty : TypeId} {pos : String} {af : Array Edge} {gd : Option (Nat × Bool)} {tm : Tm} {σ : Store} {ks : List Nat} {r : OV} {δ : Diff} (h : YL P v j ⟨d, op, ty, pos, af, gd⟩ tm σ ks r δ) : YL P v j ⟨d', op, ty, pos, af, gd⟩ tm σ ks r δ := h
theorem Leaves.frz {Γ : Ctx} {G : Gh} {v j : Nat} {σ : Store} {x : Value} {w : World} {k s n : Nat} {a : List (List OV)} {rows : List (List TV)} (hr : FzR a rows) (hn : n = a.length)
    (h : Leaves Γ G v j (.os k (v, j) s n) (σ.put k ((v, j), ⟨s, a⟩)) x w) : Leaves Γ G v j (.d (.sl s rows)) (σ.del k) x w := by
  obtain ⟨G', h1, h2, h3, h4⟩ := h
  have hk : (σ.put k ((v, j), ⟨s, a⟩)) k = some ((v, j), ⟨s, rows.map fun r => r.map .d⟩) := by rw [Store.put_self, hr.eq]
  have hl : n = rows.length := by rw [hn, hr.eq, List.length_map]
  have hdel : ∀ {G w}, WRel Γ G ((σ.put k ((v, j), ⟨s, a⟩)).del k) w → WRel Γ G (σ.del k) w := fun h => h.forget fun i y hi => by
    by_cases e : i = k
    · subst e; rw [Store.del_self] at hi; cases hi
    · rw [Store.del_ne _ e] at hi ⊢; rw [Store.put_ne _ _ e]; exact hi
  rcases h4.own k _ _ hk with ⟨g1, g3⟩ | ⟨β, g1, _⟩
  · exact ⟨G', h1, h2, (froz_os hl).rep (Gh.le.refl G') (Or.inl ⟨g1, List.map_eq_nil_iff.1 g3⟩) h3, hdel (h4.del k)⟩
  · obtain ⟨M', m1, m2, m3⟩ := h4.freeze hk g1
    have hle : G'.le ⟨M', G'.μ⟩ := ⟨m1, fun _ _ _ e => e⟩
    refine ⟨⟨M', G'.μ⟩, h1.trans hle, h2, (froz_os hl).rep hle (Or.inr ⟨β, g1, fun i row hi => ?_⟩) h3, hdel m2⟩
    obtain ⟨e1, e2⟩ := m3 i (row.map .d) (by simp [hi])
    refine ⟨by simpa using e1, RepC.of_get fun o t ho => ?_⟩
    obtain ⟨u, e3, e4⟩ := e2 o (.d t) (by simp [ho])
    rw [RepO] at e4
    exact ⟨u, e3, e4⟩
theorem YL.frz {P : Program} {v j : Nat} {o : Oper} {tm : Tm} {σ : Store} {ks : List Nat} {k s n : Nat} {a : List (List OV)} {rows : List (List TV)} (hr : FzR a rows) (hn : n = a.length)
    (h : YL P v j o tm σ ks (.os k (v, j) s n) [(k, some ((v, j), ⟨s, a⟩))]) : YL P v j o tm σ ks (.d (.sl s rows)) [(k, none)] := fun σ' hσ Γ G ρ w h1 h2 h3 h4 => by
  have := h σ' hσ Γ G ρ w h1 h2 h3 h4
  generalize (execOp ρ o).run P w = z at *
  cases z with
  | ok nx w =>
    cases nx <;> simp only [NextOk] at this ⊢
    case value x => exact Leaves.frz hr hn this
    case skip => exact Leaves.frz hr hn this
    case enter f args => exact this.mono fun e w' ⟨x, g1, g2⟩ => ⟨x, g1, Leaves.frz hr hn g2⟩
  | halt x w => simp only [NextOk] at this
section
variable {E : Env} {v j : Nat} {ops : Array Oper} {K : Tm → Store → Prop} {KD : List Foot → Tm → Store → Prop} {acc : List Foot} {rest : List Oper} {tm : Tm} {σ : Store} {ty : TypeId} {pos : String} {af : Array Edge}
theorem S_buildSliceK {d kk : Nat} {T : TypeId} {n : Nat} {parts : List (Nat × Operand)} {te ee : TE} {e : TypeId} {ys : List (Nat × OV)} {cs : List OV} (hmk : KeyOf d kk) (hT : E.tab T = some te) (hk : te.k = .slice e) (hE : E.tab e = some ee) (hpos : 0 < ee.size) (hn : n * ee.size ≤ 16777216) (hn' : n ≤ maxLen) (hp : evParts tm parts = some ys) (hc : fillO (fun i => some (i * ee.size, ee.size)) ((List.replicate n (consts ee.zero)).flatten) ys = some cs) (hcont : AO E.P v ops K (j + 1) rest (tm.putO (some d) (.os kk (v, j) ee.size n)) (σ.apply [(kk, some ((v, j), ⟨ee.size, chop ee.size n cs⟩))])) : AO E.P v ops K j (⟨some d, .buildSlice T n parts.toArray, ty, pos, af, none⟩ :: rest) tm σ := ao_step (YL.dst (Y_buildSlice (d := kk) hT hk hE hpos hn hn' hp hc)) hcont
theorem S_buildSliceF {d : Nat} {rowsF : List (List TV)} {T : TypeId} {n : Nat} {parts : List (Nat × Operand)} {te ee : TE} {e : TypeId} {ys : List (Nat × OV)} {cs : List OV} (hmF : Frozen d) (hT : E.tab T = some te) (hk : te.k = .slice e) (hE : E.tab e = some ee) (hpos : 0 < ee.size) (hn : n * ee.size ≤ 16777216) (hn' : n ≤ maxLen) (hp : evParts tm parts = some ys) (hc : fillO (fun i => some (i * ee.size, ee.size)) ((List.replicate n (consts ee.zero)).flatten) ys = some cs) (hrF : FzR (chop ee.size n cs) rowsF) (hnF : n = (chop ee.size n cs).length) (hcont : AO E.P v ops K (j + 1) rest (tm.putO (some d) (.d (.sl ee.size rowsF))) (σ.apply [(d, none)])) : AO E.P v ops K j (⟨some d, .buildSlice T n parts.toArray, ty, pos, af, none⟩ :: rest) tm σ := ao_step (YL.frz hrF hnF (Y_buildSlice hT hk hE hpos hn hn' hp hc)) hcont
theorem D_buildSliceK {d kk : Nat} {T : TypeId} {n : Nat} {parts : List (Nat × Operand)} {te ee : TE} {e : TypeId} {ys : List (Nat × OV)} {cs : List OV} (hmk : KeyOf d kk) (hT : E.tab T = some te) (hk : te.k = .slice e) (hE : E.tab e = some ee) (hpos : 0 < ee.size) (hn : n * ee.size ≤ 16777216) (hn' : n ≤ maxLen) (hp : evParts tm parts = some ys) (hc : fillO (fun i => some (i * ee.size, ee.size)) ((List.replicate n (consts ee.zero)).flatten) ys = some cs) (hcont : DO E.P v ops KD (j + 1) rest (tm.putO (some d) (.os kk (v, j) ee.size n)) (σ.apply [(kk, some ((v, j), ⟨ee.size, chop ee.size n cs⟩))]) (Foot.mk [] (wkeys [(kk, some ((v, j), ⟨ee.size, chop ee.size n cs⟩))]) :: acc)) : DO E.P v ops KD j (⟨some d, .buildSlice T n parts.toArray, ty, pos, af, none⟩ :: rest) tm σ acc := do_step (YL.dst (Y_buildSlice (d := kk) hT hk hE hpos hn hn' hp hc)) hcont
theorem D_buildSliceF {d : Nat} {rowsF : List (List TV)} {T : TypeId} {n : Nat} {parts : List (Nat × Operand)} {te ee : TE} {e : TypeId} {ys : List (Nat × OV)} {cs : List OV} (hmF : Frozen d) (hT : E.tab T = some te) (hk : te.k = .slice e) (hE : E.tab e = some ee) (hpos : 0 < ee.size) (hn : n * ee.size ≤ 16777216) (hn' : n ≤ maxLen) (hp : evParts tm parts = some ys) (hc : fillO (fun i => some (i * ee.size, ee.size)) ((List.replicate n (consts ee.zero)).flatten) ys = some cs) (hrF : FzR (chop ee.size n cs) rowsF) (hnF : n = (chop ee.size n cs).length) (hcont : DO E.P v ops KD (j + 1) rest (tm.putO (some d) (.d (.sl ee.size rowsF))) (σ.apply [(d, none)]) (Foot.mk [] (wkeys [(d, none)]) :: acc)) : DO E.P v ops KD j (⟨some d, .buildSlice T n parts.toArray, ty, pos, af, none⟩ :: rest) tm σ acc := do_step (YL.frz hrF hnF (Y_buildSlice hT hk hE hpos hn hn' hp hc)) hcont
theorem S_makeSliceK {d kk : Nat} {T e : TypeId} {te ee : TE} {x y : Operand} {k k' : IntKind} {n : Int} (hmk : KeyOf d kk) (hT : E.tab T = some te) (hk : te.k = .slice e) (hE : E.tab e = some ee) (hpos : 0 < ee.size) (hx : ev tm x = some (.int k n)) (hy : ev tm y = some (.int k' n)) (h0 : 0 ≤ n) (hb : (ee.bytes : Int) * n ≤ 281474976710656) (h63 : n ≤ 9223372036854775807) (hcont : AO E.P v ops K (j + 1) rest (tm.putO (some d) (.os kk (v, j) ee.size n.toNat)) (σ.apply [(kk, some ((v, j), ⟨ee.size, List.replicate n.toNat (consts ee.zero)⟩))])) : AO E.P v ops K j (⟨some d, .makeSlice T x y, ty, pos, af, none⟩ :: rest) tm σ := ao_step (YL.dst (Y_makeSlice (d := kk) hT hk hE hpos hx hy h0 hb h63)) hcont
theorem D_makeSliceK {d kk : Nat} {T e : TypeId} {te ee : TE} {x y : Operand} {k k' : IntKind} {n : Int} (hmk : KeyOf d kk) (hT : E.tab T = some te) (hk : te.k = .slice e) (hE : E.tab e = some ee) (hpos : 0 < ee.size) (hx : ev tm x = some (.int k n)) (hy : ev tm y = some (.int k' n)) (h0 : 0 ≤ n) (hb : (ee.bytes : Int) * n ≤ 281474976710656) (h63 : n ≤ 9223372036854775807) (hcont : DO E.P v ops KD (j + 1) rest (tm.putO (some d) (.os kk (v, j) ee.size n.toNat)) (σ.apply [(kk, some ((v, j), ⟨ee.size, List.replicate n.toNat (consts ee.zero)⟩))]) (Foot.mk [] (wkeys [(kk, some ((v, j), ⟨ee.size, List.replicate n.toNat (consts ee.zero)⟩))]) :: acc)) : DO E.P v ops KD j (⟨some d, .makeSlice T x y, ty, pos, af, none⟩ :: rest) tm σ acc := do_step (YL.dst (Y_makeSlice (d := kk) hT hk hE hpos hx hy h0 hb h63)) hcont
theorem S_appendK {d kk : Nat} {T e : TypeId} {te ee : TE} {x z : Operand} {s k : Nat} {y1 y2 : OV} {ks1 ks2 : List Nat} {rows1 rows2 : List (List OV)} (hmk : KeyOf d kk) (hT : E.tab T = some te) (hk : te.k = .slice e) (hE : E.tab e = some ee) (hs : ee.size = s) (hpos : 0 < s) (hx : ev tm x = some y1) (hz : ev tm z = some y2) (h1 : Dst σ s kk y1 ks1 k rows1) (h2 : Src σ s y2 ks2 rows2) (hlf : ∀ r ∈ rows2, ∀ y ∈ r, y.leaf = true) (hb : (rows1.length + rows2.length) * ee.bytes ≤ 140737488355328) (hm : rows1.length + rows2.length ≤ maxLen) (hcont : AO E.P v ops K (j + 1) rest (tm.putO (some d) (.os k (v, j) s (rows1.length + rows2.length))) (σ.apply [(k, some ((v, j), ⟨s, rows1 ++ rows2⟩))])) : AO E.P v ops K j (⟨some d, .call { callee := .builtin .append, args := #[x, z], argTypes := #[T, T] }, ty, pos, af, none⟩ :: rest) tm σ := ao_step (YL.dst (Y_append (d := kk) hT hk hE hs hpos hx hz h1 h2 hlf hb hm)) hcont
theorem S_appendF {d : Nat} {rowsF : List (List TV)} {T e : TypeId} {te ee : TE} {x z : Operand} {s k : Nat} {y1 y2 : OV} {ks1 ks2 : List Nat} {rows1 rows2 : List (List OV)} (hmF : Frozen d) (hT : E.tab T = some te) (hk : te.k = .slice e) (hE : E.tab e = some ee) (hs : ee.size = s) (hpos : 0 < s) (hx : ev tm x = some y1) (hz : ev tm z = some y2) (h1 : Dst σ s d y1 ks1 k rows1) (h2 : Src σ s y2 ks2 rows2) (hlf : ∀ r ∈ rows2, ∀ y ∈ r, y.leaf = true) (hb : (rows1.length + rows2.length) * ee.bytes ≤ 140737488355328) (hm : rows1.length + rows2.length ≤ maxLen) (hrF : FzR (rows1 ++ rows2) rowsF) (hnF : (rows1.length + rows2.length) = (rows1 ++ rows2).length) (hcont : AO E.P v ops K (j + 1) rest (tm.putO (some d) (.d (.sl s rowsF))) (σ.apply [(k, none)])) : AO E.P v ops K j (⟨some d, .call { callee := .builtin .append, args := #[x, z], argTypes := #[T, T] }, ty, pos, af, none⟩ :: rest) tm σ := ao_step (YL.frz hrF hnF (Y_append hT hk hE hs hpos hx hz h1 h2 hlf hb hm)) hcont
theorem D_appendK {d kk : Nat} {T e : TypeId} {te ee : TE} {x z : Operand} {s k : Nat} {y1 y2 : OV} {ks1 ks2 : List Nat} {rows1 rows2 : List (List OV)} (hmk : KeyOf d kk) (hT : E.tab T = some te) (hk : te.k = .slice e) (hE : E.tab e = some ee) (hs : ee.size = s) (hpos : 0 < s) (hx : ev tm x = some y1) (hz : ev tm z = some y2) (h1 : Dst σ s kk y1 ks1 k rows1) (h2 : Src σ s y2 ks2 rows2) (hlf : ∀ r ∈ rows2, ∀ y ∈ r, y.leaf = true) (hb : (rows1.length + rows2.length) * ee.bytes ≤ 140737488355328) (hm : rows1.length + rows2.length ≤ maxLen) (hcont : DO E.P v ops KD (j + 1) rest (tm.putO (some d) (.os k (v, j) s (rows1.length + rows2.length))) (σ.apply [(k, some ((v, j), ⟨s, rows1 ++ rows2⟩))]) (Foot.mk (ks1 ++ ks2) (wkeys [(k, some ((v, j), ⟨s, rows1 ++ rows2⟩))]) :: acc)) : DO E.P v ops KD j (⟨some d, .call { callee := .builtin .append, args := #[x, z], argTypes := #[T, T] }, ty, pos, af, none⟩ :: rest) tm σ acc := do_step (YL.dst (Y_append (d := kk) hT hk hE hs hpos hx hz h1 h2 hlf hb hm)) hcont
theorem D_appendF {d : Nat} {rowsF : List (List TV)} {T e : TypeId} {te ee : TE} {x z : Operand} {s k : Nat} {y1 y2 : OV} {ks1 ks2 : List Nat} {rows1 rows2 : List (List OV)} (hmF : Frozen d) (hT : E.tab T = some te) (hk : te.k = .slice e) (hE : E.tab e = some ee) (hs : ee.size = s) (hpos : 0 < s) (hx : ev tm x = some y1) (hz : ev tm z = some y2) (h1 : Dst σ s d y1 ks1 k rows1) (h2 : Src σ s y2 ks2 rows2) (hlf : ∀ r ∈ rows2, ∀ y ∈ r, y.leaf = true) (hb : (rows1.length + rows2.length) * ee.bytes ≤ 140737488355328) (hm : rows1.length + rows2.length ≤ maxLen) (hrF : FzR (rows1 ++ rows2) rowsF) (hnF : (rows1.length + rows2.length) = (rows1 ++ rows2).length) (hcont : DO E.P v ops KD (j + 1) rest (tm.putO (some d) (.d (.sl s rowsF))) (σ.apply [(k, none)]) (Foot.mk (ks1 ++ ks2) (wkeys [(k, none)]) :: acc)) : DO E.P v ops KD j (⟨some d, .call { callee := .builtin .append, args := #[x, z], argTypes := #[T, T] }, ty, pos, af, none⟩ :: rest) tm σ acc := do_step (YL.frz hrF hnF (Y_append hT hk hE hs hpos hx hz h1 h2 hlf hb hm)) hcont
theorem S_ownK {d kk : Nat} {x : Operand} {xs : List Operand} {tys : Array TypeId} {y : OV} {f : FuncId} {fi ca ys : List OV} {s : Nat} {rows : List (List OV)} (hmk : KeyOf d kk) (hx : ev tm x = some y) (hf : IsFn y f fi ca) (ha : evs tm xs = some ys) (hc : Own E.P f (fi ++ ys ++ ca) s rows) (hcont : AO E.P v ops K (j + 1) rest (tm.putO (some d) (.os kk (v, j) s rows.length)) (σ.apply [(kk, some ((v, j), ⟨s, rows⟩))])) : AO E.P v ops K j (⟨some d, .call { callee := .value x, args := xs.toArray, argTypes := tys }, ty, pos, af, none⟩ :: rest) tm σ := ao_step (YL.dst (Y_own (d := kk) hx hf ha hc)) hcont
theorem S_ownF {d : Nat} {rowsF : List (List TV)} {x : Operand} {xs : List Operand} {tys : Array TypeId} {y : OV} {f : FuncId} {fi ca ys : List OV} {s : Nat} {rows : List (List OV)} (hmF : Frozen d) (hx : ev tm x = some y) (hf : IsFn y f fi ca) (ha : evs tm xs = some ys) (hc : Own E.P f (fi ++ ys ++ ca) s rows) (hrF : FzR (rows) rowsF) (hnF : rows.length = (rows).length) (hcont : AO E.P v ops K (j + 1) rest (tm.putO (some d) (.d (.sl s rowsF))) (σ.apply [(d, none)])) : AO E.P v ops K j (⟨some d, .call { callee := .value x, args := xs.toArray, argTypes := tys }, ty, pos, af, none⟩ :: rest) tm σ := ao_step (YL.frz hrF hnF (Y_own hx hf ha hc)) hcont
theorem D_ownK {d kk : Nat} {x : Operand} {xs : List Operand} {tys : Array TypeId} {y : OV} {f : FuncId} {fi ca ys : List OV} {s : Nat} {rows : List (List OV)} (hmk : KeyOf d kk) (hx : ev tm x = some y) (hf : IsFn y f fi ca) (ha : evs tm xs = some ys) (hc : Own E.P f (fi ++ ys ++ ca) s rows) (hcont : DO E.P v ops KD (j + 1) rest (tm.putO (some d) (.os kk (v, j) s rows.length)) (σ.apply [(kk, some ((v, j), ⟨s, rows⟩))]) (Foot.mk [] (wkeys [(kk, some ((v, j), ⟨s, rows⟩))]) :: acc)) : DO E.P v ops KD j (⟨some d, .call { callee := .value x, args := xs.toArray, argTypes := tys }, ty, pos, af, none⟩ :: rest) tm σ acc := do_step (YL.dst (Y_own (d := kk) hx hf ha hc)) hcont
theorem D_ownF {d : Nat} {rowsF : List (List TV)} {x : Operand} {xs : List Operand} {tys : Array TypeId} {y : OV} {f : FuncId} {fi ca ys : List OV} {s : Nat} {rows : List (List OV)} (hmF : Frozen d) (hx : ev tm x = some y) (hf : IsFn y f fi ca) (ha : evs tm xs = some ys) (hc : Own E.P f (fi ++ ys ++ ca) s rows) (hrF : FzR (rows) rowsF) (hnF : rows.length = (rows).length) (hcont : DO E.P v ops KD (j + 1) rest (tm.putO (some d) (.d (.sl s rowsF))) (σ.apply [(d, none)]) (Foot.mk [] (wkeys [(d, none)]) :: acc)) : DO E.P v ops KD j (⟨some d, .call { callee := .value x, args := xs.toArray, argTypes := tys }, ty, pos, af, none⟩ :: rest) tm σ acc := do_step (YL.frz hrF hnF (Y_own hx hf ha hc)) hcont
structure Keep (d : Nat) : Prop where
  ok : True
theorem S_keep {d : Nat} {x : Operand} {y : OV} (hmk : Keep d) (h : ev tm x = some y) (hcont : AO E.P v ops K (j + 1) rest (tm.putO (some d) y) (σ.apply [])) : AO E.P v ops K j (⟨some d, .assign x, ty, pos, af, none⟩ :: rest) tm σ := ao_step (Y_assign h) hcont
theorem D_keep {d : Nat} {x : Operand} {y : OV} (hmk : Keep d) (h : ev tm x = some y) (hcont : DO E.P v ops KD (j + 1) rest (tm.putO (some d) y) (σ.apply []) (Foot.mk [] (wkeys []) :: acc)) : DO E.P v ops KD j (⟨some d, .assign x, ty, pos, af, none⟩ :: rest) tm σ acc := do_step (Y_assign h) hcont
theorem S_add32 {dst : Option Tmp} {T T' : TypeId} {x y : Operand} {a b : Int} (hx : ev tm x = some (.int .u32 a)) (hy : ev tm y = some (.int .u32 b)) (hcont : AO E.P v ops K (j + 1) rest (tm.putO dst (.int .u32 (IntKind.u32.wrap (a + b)))) (σ.apply [])) : AO E.P v ops K j (⟨dst, .binOp .add T x y T', ty, pos, af, none⟩ :: rest) tm σ := ao_step (Y_add hx hy) hcont
theorem D_add32 {dst : Option Tmp} {T T' : TypeId} {x y : Operand} {a b : Int} (hx : ev tm x = some (.int .u32 a)) (hy : ev tm y = some (.int .u32 b)) (hcont : DO E.P v ops KD (j + 1) rest (tm.putO dst (.int .u32 (IntKind.u32.wrap (a + b)))) (σ.apply []) (Foot.mk [] (wkeys []) :: acc)) : DO E.P v ops KD j (⟨dst, .binOp .add T x y T', ty, pos, af, none⟩ :: rest) tm σ acc := do_step (Y_add hx hy) hcont
theorem S_sub32 {dst : Option Tmp} {T T' : TypeId} {x y : Operand} {a b : Int} (hx : ev tm x = some (.int .u32 a)) (hy : ev tm y = some (.int .u32 b)) (hcont : AO E.P v ops K (j + 1) rest (tm.putO dst (.int .u32 (IntKind.u32.wrap (a - b)))) (σ.apply [])) : AO E.P v ops K j (⟨dst, .binOp .sub T x y T', ty, pos, af, none⟩ :: rest) tm σ := ao_step (Y_sub hx hy) hcont
theorem D_sub32 {dst : Option Tmp} {T T' : TypeId} {x y : Operand} {a b : Int} (hx : ev tm x = some (.int .u32 a)) (hy : ev tm y = some (.int .u32 b)) (hcont : DO E.P v ops KD (j + 1) rest (tm.putO dst (.int .u32 (IntKind.u32.wrap (a - b)))) (σ.apply []) (Foot.mk [] (wkeys []) :: acc)) : DO E.P v ops KD j (⟨dst, .binOp .sub T x y T', ty, pos, af, none⟩ :: rest) tm σ acc := do_step (Y_sub hx hy) hcont
end
end Go.Proofs.Ytgeaaegkcbjhlaa
