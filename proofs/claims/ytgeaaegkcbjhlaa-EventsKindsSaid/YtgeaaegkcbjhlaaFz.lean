/- A cut behind a loop; own rows that nobody writes any more become plain data. -/
import Derived.Test.YtgeaaegkcbjhlaaVk
set_option linter.unusedVariables false
namespace Go.Proofs.Ytgeaaegkcbjhlaa
open Go.RowKit

section
variable {P : Program} {n : Nat} {Q Qx : Exit → Tm → Store → Prop} {tm : Tm} {σ : Store}
theorem awp_mid {X : Type} {c rest : Code} {id : Nat} (T : X → Tm) (S : X → Store) (I : X → Prop)
    (h : awp P n c (InBlock id (Then (fun tm' σ' => ∃ y, I y ∧ (T y).le tm' ∧ (S y).le σ') Qx)) tm σ) (hr : ∀ y, I y → awp P n rest Q (T y) (S y)) :
    awp P n c (InBlock id (Then (awp P n rest Q) Qx)) tm σ := by
  refine awp_mono h fun e tm' σ' hq => ?_
  have key : ∀ e, Then (fun tm' σ' => ∃ y, I y ∧ (T y).le tm' ∧ (S y).le σ') Qx e tm' σ' → Then (awp P n rest Q) Qx e tm' σ' := fun e hq => by
    cases e
    case normal => obtain ⟨y, h1, h2, h3⟩ := hq; exact awp_le _ _ h2 h3 (hr y h1)
    all_goals exact hq
  cases e with
  | exit i =>
    simp only [InBlock] at hq ⊢
    cases hb : Nat.beq i id with
    | true => rw [hb] at hq; exact key .normal hq
    | false => rw [hb] at hq; exact key (.exit i) hq
  | normal => exact key .normal hq
  | goto l => exact key (.goto l) hq
  | ret => exact key .ret hq
  | panic c => exact key (.panic c) hq
  | outgrown => exact key .outgrown hq
theorem mid {X : Type} {T : X → Tm} {S : X → Store} {I : X → Prop} (y : X) (hI : I y) (ht : (T y).le tm) (hs : (S y).le σ) : ∃ y, I y ∧ (T y).le tm ∧ (S y).le σ := ⟨y, hI, ht, hs⟩

/-- what a value is behind the freezing of key k -/
inductive Froz (k : Nat) (τ : Stamp) (s : Nat) (rows : List (List TV)) : OV → OV → Prop where
  | same (y : OV) : Froz k τ s rows y y
  | os : Froz k τ s rows (.os k τ s rows.length) (.d (.sl s rows))
  | vw (l m : Nat) (h : l + m ≤ rows.length) : Froz k τ s rows (.vw k τ s l m) (.d (.sl s ((rows.drop l).take m)))
  | lo (i o : Nat) (row : List TV) (h : rows[i]? = some row) : Froz k τ s rows (.lo k τ s i o) (.d (.pt row o))
theorem Froz.rep {G G' : Gh} {k s : Nat} {τ : Stamp} {rows : List (List TV)} (hle : G.le G')
    (hk : (G.μ k τ = some none ∧ rows = []) ∨ ∃ β, G.μ k τ = some (some β) ∧ ∀ i row, rows[i]? = some row → row.length = s ∧ RepC G'.M row β.b (i * s)) {y y' : OV} (h : Froz k τ s rows y y') {x : Value} (hr : RepO G y x) : RepO G' y' x := by
  cases h with
  | same => exact hr.mono hle
  | os =>
    simp only [RepO] at hr ⊢
    rw [Rep]
    rcases hr with ⟨β, c, g1, g2, g3, _, _⟩ | ⟨g1, g2, g3⟩
    · refine ⟨_, c, g2, g3, ?_⟩
      rcases hk with ⟨k1, _⟩ | ⟨β', k1, k2⟩
      · rw [k1] at g1; cases g1
      · rw [k1] at g1; cases g1
        exact Or.inr ⟨_, 0, rfl, RepR.of_get fun i r hi => by rw [Nat.zero_add]; exact k2 i r hi⟩
    · have : rows = [] := List.eq_nil_of_length_eq_zero g3
      subst this
      exact ⟨none, 0, g2, Nat.le_refl _, Or.inl rfl⟩
  | vw l m hlm =>
    simp only [RepO] at hr ⊢
    rw [Rep]
    obtain ⟨a, c, g1, g2, g3⟩ := hr
    have hl : ((rows.drop l).take m).length = m := by simp; omega
    refine ⟨a, c, by rw [hl]; exact g1, by rw [hl]; exact g2, ?_⟩
    rcases g3 with g3 | ⟨β, g3, g4⟩
    · subst g3; exact Or.inl (by simp)
    · rcases hk with ⟨k1, k2⟩ | ⟨β', k1, k2⟩
      · subst k2; exact Or.inl (by simp)
      · rw [k1] at g3; cases g3
        refine Or.inr ⟨_, l * s, g4, RepR.of_get fun i r hi => ?_⟩
        rw [List.getElem?_take] at hi
        split at hi
        · rw [List.getElem?_drop] at hi
          have := k2 _ _ hi
          rw [Nat.add_mul] at this
          exact this
        · cases hi
  | lo i o row hrow =>
    simp only [RepO] at hr ⊢
    rw [Rep]
    obtain ⟨β, g1, g2⟩ := hr
    rcases hk with ⟨k1, k2⟩ | ⟨β', k1, k2⟩
    · rw [k1] at g1; cases g1
    · rw [k1] at g1; cases g1
      exact ⟨_, _, g2, (k2 i row hrow).2⟩
/-- a frame, a store behind the freezing -/
def FrozT (k : Nat) (τ : Stamp) (s : Nat) (rows : List (List TV)) (tm tm' : Tm) : Prop := ∀ t y', tm' t = some y' → ∃ y, tm t = some y ∧ Froz k τ s rows y y'
def FrozR (k : Nat) (τ : Stamp) (s : Nat) (rows : List (List TV)) (r r' : Row) : Prop := r'.s = r.s ∧ r'.rows.length = r.rows.length ∧ ∀ (i : Nat) (row' : List OV), r'.rows[i]? = some row' → ∃ row : List OV, r.rows[i]? = some row ∧ row.length = row'.length ∧ ∀ (o : Nat) (y' : OV), row'[o]? = some y' → ∃ y : OV, row[o]? = some y ∧ Froz k τ s rows y y'
def FrozS (k : Nat) (τ : Stamp) (s : Nat) (rows : List (List TV)) (σ σ' : Store) : Prop := ∀ j τ' r', σ' j = some (τ', r') → j ≠ k ∧ ∃ r, σ j = some (τ', r) ∧ FrozR k τ s rows r r'
theorem WRel.froz {Γ : Ctx} {G : Gh} {σ σ' : Store} {w : World} {k s : Nat} {τ : Stamp} {rows : List (List TV)} (hw : WRel Γ G (σ.del k) w) (hσ : FrozS k τ s rows σ σ')
    (hr : ∀ y y' x, Froz k τ s rows y y' → RepO G y x → RepO G y' x) : WRel Γ G σ' w where
  mem := hw.mem
  own j τ' r' hj := by
    obtain ⟨hne, r, h1, h2, h3, h4⟩ := hσ j τ' r' hj
    have h1' : σ.del k j = some (τ', r) := by rw [Store.del_ne _ hne]; exact h1
    rcases hw.own j τ' r h1' with ⟨g1, g2⟩ | ⟨β, g1, ⟨cs, c1, c2, c3, c4⟩, g3, g4⟩
    · exact Or.inl ⟨g1, List.eq_nil_of_length_eq_zero (by rw [h3, g2]; rfl)⟩
    · refine Or.inr ⟨β, g1, ⟨cs, c1, c2, by rw [h2, h3]; exact c3, fun i row' hi => ?_⟩, g3, g4⟩
      obtain ⟨row, e1, e2, e3⟩ := h4 i row' hi
      obtain ⟨d1, d2⟩ := c4 i row e1
      refine ⟨by rw [h2, ← d1, e2], fun o y' ho => ?_⟩
      obtain ⟨y, e4, e5⟩ := e3 o y' ho
      obtain ⟨v, e6, e7⟩ := d2 o y e4
      exact ⟨v, by rw [h2]; exact e6, hr _ _ _ e5 e7⟩
  inj j j' τ1 τ2 β β' r r' hj hj' hμ hμ' e := by
    obtain ⟨n1, r1, h1, _⟩ := hσ j τ1 r hj
    obtain ⟨n2, r2, h2, _⟩ := hσ j' τ2 r' hj'
    exact hw.inj j j' τ1 τ2 β β' r1 r2 (by rw [Store.del_ne _ n1]; exact h1) (by rw [Store.del_ne _ n2]; exact h2) hμ hμ' e
  keep := hw.keep
  size := hw.size
  tape := hw.tape
  os := hw.os
  output := hw.output
  g0 := hw.g0
  new := hw.new
  bound := hw.bound
  low := hw.low
theorem SRel.freeze {Γ : Ctx} {G : Gh} {tm' : Tm} {σ' : Store} {a : Act} {w : World} {k s : Nat} {τ : Stamp} {rows : List (List TV)} (hs : SRel n Γ G tm σ a w) (hk : σ k = some (τ, ⟨s, rows.map fun r => r.map .d⟩)) (ht : FrozT k τ s rows tm tm') (hσ : FrozS k τ s rows σ σ') :
    ∃ G', SRel n Γ G' tm' σ' a w := by
  have fin : ∀ G', G.le G' → WRel Γ G' (σ.del k) w → ((G'.μ k τ = some none ∧ rows = []) ∨ ∃ β, G'.μ k τ = some (some β) ∧ ∀ i row, rows[i]? = some row → row.length = s ∧ RepC G'.M row β.b (i * s)) → SRel n Γ G' tm' σ' a w := fun G' hle hw hc => by
    have hr : ∀ y y' x, Froz k τ s rows y y' → RepO G' y x → RepO G' y' x := fun y y' x hf hx => hf.rep (Gh.le.refl G') hc hx
    refine ⟨hs.size, hs.defers, fun t y' hy => ?_, hw.froz hσ hr⟩
    obtain ⟨y, h1, h2⟩ := ht t y' hy
    obtain ⟨x, h3, h4⟩ := hs.tm t y h1
    exact ⟨x, h3, hr _ _ _ h2 (h4.mono hle)⟩
  rcases hs.w.own k τ _ hk with ⟨h1, h2⟩ | ⟨β, h1, h2, h3, h4⟩
  · exact ⟨G, fin G (Gh.le.refl G) (hs.w.del k) (Or.inl ⟨h1, List.map_eq_nil_iff.1 h2⟩)⟩
  · obtain ⟨M', g1, g2, g3⟩ := hs.w.freeze hk h1
    refine ⟨⟨M', G.μ⟩, fin _ ⟨g1, fun _ _ _ e => e⟩ g2 (Or.inr ⟨β, h1, fun i row hi => ?_⟩)⟩
    obtain ⟨e1, e2⟩ := g3 i (row.map .d) (by simp [hi])
    refine ⟨by simpa using e1, RepC.of_get fun o t ho => ?_⟩
    obtain ⟨v, e3, e4⟩ := e2 o (.d t) (by simp [ho])
    rw [RepO] at e4
    exact ⟨v, e3, e4⟩
theorem awp_freeze {c : Code} (k : Nat) (τ : Stamp) (s : Nat) (rows : List (List TV)) (tm' : Tm) (σ' : Store) (hk : σ k = some (τ, ⟨s, rows.map fun r => r.map .d⟩)) (ht : FrozT k τ s rows tm tm') (hσ : FrozS k τ s rows σ σ') (h : awp P n c Q tm' σ') : awp P n c Q tm σ := fun Γ G a w hs => by
  obtain ⟨G', hs'⟩ := hs.freeze hk ht hσ
  exact h Γ G' a w hs'
theorem fz_nil {k s : Nat} {τ : Stamp} {rows : List (List TV)} : FrozT k τ s rows tm (tmL []) := fun t y h => by cases h
theorem fz_cons {k s d : Nat} {τ : Stamp} {rows : List (List TV)} {y y' : OV} {l : List (Nat × OV)} (h : tm d = some y) (hf : Froz k τ s rows y y') (hl : FrozT k τ s rows tm (tmL l)) : FrozT k τ s rows tm (tmL ((d, y') :: l)) := fun t z hz => by
  unfold tmL at hz
  cases hb : Nat.beq t d with
  | true => rw [hb] at hz; cases hz; rw [Nat.eq_of_beq_eq_true hb]; exact ⟨y, h, hf⟩
  | false => rw [hb] at hz; exact hl t z hz
theorem FrozR.same {k s : Nat} {τ : Stamp} {rows : List (List TV)} (r : Row) : FrozR k τ s rows r r := ⟨rfl, rfl, fun i row h => ⟨row, h, rfl, fun o y ho => ⟨y, ho, .same y⟩⟩⟩
theorem fs_nil {k s : Nat} {τ : Stamp} {rows : List (List TV)} : FrozS k τ s rows σ (stL []) := fun j τ' r h => by cases h
theorem fs_cons {k s d : Nat} {τ τ' : Stamp} {rows : List (List TV)} {r r' : Row} {l : List (Nat × (Stamp × Row))} (hne : d ≠ k) (h : σ d = some (τ', r)) (hf : FrozR k τ s rows r r') (hl : FrozS k τ s rows σ (stL l)) : FrozS k τ s rows σ (stL ((d, (τ', r')) :: l)) := fun j τ2 r2 hz => by
  unfold stL at hz
  cases hb : Nat.beq j d with
  | true => rw [hb] at hz; cases hz; rw [Nat.eq_of_beq_eq_true hb]; exact ⟨hne, r, h, hf⟩
  | false => rw [hb] at hz; exact hl j τ2 r2 hz
/-- rows of plain cells -/
theorem froz_os {k s m : Nat} {τ : Stamp} {rows : List (List TV)} (h : m = rows.length) : Froz k τ s rows (.os k τ s m) (.d (.sl s rows)) := by subst h; exact .os
end
section
variable {E : Env} {v j : Nat} {ops : Array Oper} {K : Tm → Store → Prop} {KD : List Foot → Tm → Store → Prop} {acc : List Foot} {rest : List Oper} {tm : Tm} {σ : Store} {ty : TypeId} {pos : String} {af : Array Edge} {gd : Option (Nat × Bool)} {dst : Option Tmp}
theorem ao_cons_app {o : Oper} {l1 l2 : List Oper} (h : AO E.P v ops K j (o :: List.append l1 l2) tm σ) : AO E.P v ops K j (List.append (o :: l1) l2) tm σ := h
theorem ao_nil_app {l2 : List Oper} (h : AO E.P v ops K j l2 tm σ) : AO E.P v ops K j (List.append [] l2) tm σ := h
theorem ao_app_app {l1 l2 l3 : List Oper} (h : AO E.P v ops K j (List.append l1 (List.append l2 l3)) tm σ) : AO E.P v ops K j (List.append (List.append l1 l2) l3) tm σ := by
  have e : List.append (List.append l1 l2) l3 = List.append l1 (List.append l2 l3) := List.append_assoc l1 l2 l3
  rw [e]; exact h
theorem do_cons_app {o : Oper} {l1 l2 : List Oper} (h : DO E.P v ops KD j (o :: List.append l1 l2) tm σ acc) : DO E.P v ops KD j (List.append (o :: l1) l2) tm σ acc := h
theorem do_nil_app {l2 : List Oper} (h : DO E.P v ops KD j l2 tm σ acc) : DO E.P v ops KD j (List.append [] l2) tm σ acc := h
theorem do_app_app {l1 l2 l3 : List Oper} (h : DO E.P v ops KD j (List.append l1 (List.append l2 l3)) tm σ acc) : DO E.P v ops KD j (List.append (List.append l1 l2) l3) tm σ acc := by
  have e : List.append (List.append l1 l2) l3 = List.append l1 (List.append l2 l3) := List.append_assoc l1 l2 l3
  rw [e]; exact h
/-- a mark: this tmp's rows are frozen where it is moved -/
def Frozen (t : Nat) : Prop := True
theorem Y_mvfz {t k s m : Nat} {τ : Stamp} {rows : List (List TV)} (hm : Frozen t) (hx : tm t = some (.os k τ s m)) (hk : σ k = some (τ, ⟨s, rows.map fun r => r.map .d⟩)) (hl : m = rows.length) :
    YL E.P v j ⟨dst, .move (.tmp t), ty, pos, af, gd⟩ tm σ [k] (.d (.sl s rows)) [(k, none)] := fun σ' hσ Γ G ρ w hv hfr hρ hw => by
  have hk' : σ' k = some (τ, ⟨s, rows.map fun r => r.map .d⟩) := by rw [hσ k (by simp)]; exact hk
  have hr := hρ (.tmp t) (by simp [Op.operands]) _ hx
  have h2 : (execOp ρ ⟨dst, .move (.tmp t), ty, pos, af, gd⟩).run E.P w = .ok (.value (ρ (.tmp t))) w := by simp [execOp]
  rw [h2]
  rcases hw.own k τ _ hk' with ⟨h1, h3⟩ | ⟨β, h1, _⟩
  · exact ⟨G, Gh.le.refl G, fun _ _ _ _ _ => rfl, (froz_os hl).rep (Gh.le.refl G) (Or.inl ⟨h1, List.map_eq_nil_iff.1 h3⟩) hr, hw.del k⟩
  · obtain ⟨M', g1, g2, g3⟩ := hw.freeze hk' h1
    have hle : G.le ⟨M', G.μ⟩ := ⟨g1, fun _ _ _ e => e⟩
    refine ⟨⟨M', G.μ⟩, hle, fun _ _ _ _ _ => rfl, (froz_os hl).rep hle (Or.inr ⟨β, h1, fun i row hi => ?_⟩) hr, g2⟩
    obtain ⟨e1, e2⟩ := g3 i (row.map .d) (by simp [hi])
    refine ⟨by simpa using e1, RepC.of_get fun o t ho => ?_⟩
    obtain ⟨v, e3, e4⟩ := e2 o (.d t) (by simp [ho])
    rw [RepO] at e4
    exact ⟨v, e3, e4⟩
/-- rows that are plain, told as plain -/
structure FzR (a : List (List OV)) (b : List (List TV)) : Prop where
  eq : a = b.map fun r => r.map .d
structure FzC (a : List OV) (b : List TV) : Prop where
  eq : a = b.map .d
theorem FzC.nil : FzC [] [] := ⟨rfl⟩
theorem FzC.cons {t : TV} {a : List OV} {b : List TV} (h : FzC a b) : FzC (.d t :: a) (t :: b) := ⟨by rw [h.eq]; rfl⟩
theorem FzC.map (b : List TV) : FzC (b.map .d) b := ⟨rfl⟩
theorem FzR.nil : FzR [] [] := ⟨rfl⟩
theorem FzR.cons {r : List OV} {t : List TV} {a : List (List OV)} {b : List (List TV)} (h1 : FzC r t) (h : FzR a b) : FzR (r :: a) (t :: b) := ⟨by rw [h1.eq, h.eq]; rfl⟩
theorem FzR.app {a a' : List (List OV)} {b b' : List (List TV)} (h : FzR a b) (h' : FzR a' b') : FzR (a ++ a') (b ++ b') := ⟨by rw [h.eq, h'.eq, List.map_append]⟩
theorem FzR.d (b : List (List TV)) : FzR (b.map fun r => r.map .d) b := ⟨rfl⟩
theorem FzR.take {a : List (List OV)} {b : List (List TV)} (n : Nat) (h : FzR a b) : FzR (a.take n) (b.take n) := ⟨by rw [h.eq, List.map_take]⟩
theorem FzR.drop {a : List (List OV)} {b : List (List TV)} (n : Nat) (h : FzR a b) : FzR (a.drop n) (b.drop n) := ⟨by rw [h.eq, List.map_drop]⟩
theorem FzR.of {α : Type} {f : α → List OV} {g : α → List TV} (h : ∀ a, f a = (g a).map .d) (l : List α) : FzR (l.map f) (l.map g) := ⟨by rw [List.map_map]; exact List.map_congr_left fun a _ => h a⟩
theorem FzR.ints (l : List Int) : FzR (l.map (cellO .i64)) (l.map cell) := FzR.of (f := cellO .i64) (g := cell) (fun _ => rfl) l
theorem S_mvfz {t k s m : Nat} {τ : Stamp} {a : List (List OV)} {rows : List (List TV)} (hm : Frozen t) (hx : tm t = some (.os k τ s m)) (hk : σ k = some (τ, ⟨s, a⟩)) (hr : FzR a rows) (hl : m = a.length)
    (hcont : AO E.P v ops K (j + 1) rest (tm.putO dst (.d (.sl s rows))) (σ.apply [(k, none)])) : AO E.P v ops K j (⟨dst, .move (.tmp t), ty, pos, af, none⟩ :: rest) tm σ := ao_step (Y_mvfz hm hx (by rw [hk, hr.eq]) (by rw [hl, hr.eq, List.length_map])) hcont
theorem D_mvfz {t k s m : Nat} {τ : Stamp} {a : List (List OV)} {rows : List (List TV)} (hm : Frozen t) (hx : tm t = some (.os k τ s m)) (hk : σ k = some (τ, ⟨s, a⟩)) (hr : FzR a rows) (hl : m = a.length)
    (hcont : DO E.P v ops KD (j + 1) rest (tm.putO dst (.d (.sl s rows))) (σ.apply [(k, none)]) (Foot.mk [k] (wkeys [(k, none)]) :: acc)) : DO E.P v ops KD j (⟨dst, .move (.tmp t), ty, pos, af, none⟩ :: rest) tm σ acc := do_step (Y_mvfz hm hx (by rw [hk, hr.eq]) (by rw [hl, hr.eq, List.length_map])) hcont
/-- a function's end where its slice is frozen -/
theorem froz_done {t k s m : Nat} {τ : Stamp} {a : List (List OV)} {rows rows' : List (List TV)} {n : Nat} {P : Program} {Q : Exit → Tm → Store → Prop} {c : Code} {tm' : Tm} {σ' : Store} (hk : σ k = some (τ, ⟨s, a⟩)) (hr : FzR a rows) (ht : FrozT k τ s rows tm tm') (hσ : FrozS k τ s rows σ σ') (h : awp P n c Q tm' σ') : awp P n c Q tm σ :=
  awp_freeze k τ s rows tm' σ' (by rw [hk, hr.eq]) ht hσ h
end
end Go.Proofs.Ytgeaaegkcbjhlaa
