/- Parts. -/
import Derived.WalkKit
import Derived.ProofKit
import Derived.Laws.AppendOwn
import Derived.Laws.AppendOwnNone
import Derived.Deep.OwnRows
import Derived.Still
import Derived.RangeFuncOwn
set_option linter.unusedVariables false
set_option linter.unusedSimpArgs false
set_option maxHeartbeats 4000000
namespace Go.Proofs.YtjogffchdejabaaGreatDoor
open Go.RowKit
variable {s j o f p : Nat} {xs vs : List Value} {P : Program} {e T' ft : TypeId} {cs a : Array Value} {w w' : World} {x : Operand} {op : BinOp} {b : Int} {fs : List (Nat × TypeId)} {parts : List (Nat × Operand)} {ρ : Operand → Value} {ks : List Nat}
inductive TV where
 | c (v : Value)
 | sl (s : Nat) (rows : List (List TV))
 | pt (row : List TV) (o : Nat)
 | fn (f : FuncId) (first cap : List TV)
abbrev Mem := Nat → Nat → Option Value
variable {M M' : Mem}
mutual
def Rep (M : Mem) : TV → Value → Prop
 | .c v, x => x = v ∧ v.oneCell' = true
 | .sl s rows, x => ∃ a c, x = .slice a rows.length c ∧ rows.length ≤ c ∧ (rows = [] ∨ ∃ b off, a = some ⟨b, off, none⟩ ∧ RepR M s rows b off)
 | .pt row o, x => ∃ b off, x = .pointer (some ⟨b, off + o, none⟩) ∧ RepC M row b off
 | .fn f fi ca, x => ∃ vs us, x = .func (.func f) vs us ∧ RepL M fi vs.toList ∧ RepL M ca us.toList
def RepL (M : Mem) : List TV → List Value → Prop
 | [], vs => vs = []
 | t :: ts, vs => ∃ v us, vs = v :: us ∧ Rep M t v ∧ RepL M ts us
def RepC (M : Mem) : List TV → Nat → Nat → Prop
 | [], _, _ => True
 | t :: ts, b, o => (∃ v, M b o = some v ∧ Rep M t v) ∧ RepC M ts b (o + 1)
def RepR (M : Mem) (s : Nat) : List (List TV) → Nat → Nat → Prop
 | [], _, _ => True
 | r :: rs, b, o => r.length = s ∧ RepC M r b o ∧ RepR M s rs b (o + s)
end
def Mem.le (M M' : Mem) : Prop := ∀ b o v, M b o = some v → M' b o = some v
theorem Mem.le.refl (M : Mem) : M.le M := fun _ _ _ h => h
theorem Mem.le.trans {M'' : Mem} (h : M.le M') (h' : M'.le M'') : M.le M'' := fun b o v e => h' b o v (h b o v e)
mutual
theorem Rep.mono {M M' : Mem} (h : M.le M') : ∀ (t : TV) (x : Value), Rep M t x → Rep M' t x
 | .c v, x, hr => by rw [Rep] at *; exact hr
 | .sl s rows, x, hr => by
  rw [Rep] at *
  obtain ⟨a, c, h1, h2, h3⟩ := hr
  exact ⟨a, c, h1, h2, h3.imp id (fun ⟨b, off, h4, h5⟩ => ⟨b, off, h4, RepR.mono h s rows b off h5⟩)⟩
 | .pt row o, x, hr => by
  rw [Rep] at *
  obtain ⟨b, off, h1, h2⟩ := hr
  exact ⟨b, off, h1, RepC.mono h row b off h2⟩
 | .fn f fi ca, x, hr => by
  rw [Rep] at *
  obtain ⟨vs, us, h1, h2, h3⟩ := hr
  exact ⟨vs, us, h1, RepL.mono h fi _ h2, RepL.mono h ca _ h3⟩
theorem RepL.mono {M M' : Mem} (h : M.le M') : ∀ (ts : List TV) (xs : List Value), RepL M ts xs → RepL M' ts xs
 | [], xs, hr => by rw [RepL] at *; exact hr
 | t :: ts, xs, hr => by
  rw [RepL] at *
  obtain ⟨v, us, h1, h2, h3⟩ := hr
  exact ⟨v, us, h1, Rep.mono h t v h2, RepL.mono h ts us h3⟩
theorem RepC.mono {M M' : Mem} (h : M.le M') : ∀ (ts : List TV) (b o : Nat), RepC M ts b o → RepC M' ts b o
 | [], b, o, hr => by rw [RepC]; trivial
 | t :: ts, b, o, hr => by
  rw [RepC] at *
  obtain ⟨⟨v, h1, h2⟩, h3⟩ := hr
  exact ⟨⟨v, h _ _ _ h1, Rep.mono h t v h2⟩, RepC.mono h ts b (o + 1) h3⟩
theorem RepR.mono {M M' : Mem} (h : M.le M') (s : Nat) : ∀ (rs : List (List TV)) (b o : Nat), RepR M s rs b o → RepR M' s rs b o
 | [], b, o, hr => by rw [RepR]; trivial
 | r :: rs, b, o, hr => by
  rw [RepR] at *
  exact ⟨hr.1, RepC.mono h r b o hr.2.1, RepR.mono h s rs b (o + s) hr.2.2⟩
end
theorem RepC.get : ∀ {row : List TV} {b off o : Nat} {t : TV}, RepC M row b off → row[o]? = some t → ∃ v, M b (off + o) = some v ∧ Rep M t v
 | [], _, _, _, _, _, h => by simp at h
 | r :: rs, b, off, 0, t, hr, h => by
  rw [RepC] at hr
  simp at h; subst h; exact hr.1
 | r :: rs, b, off, o + 1, t, hr, h => by
  rw [RepC] at hr
  have := RepC.get (o := o) hr.2 (by simpa using h)
  rwa [show off + 1 + o = off + (o + 1) by omega] at this
theorem RepC.of_get : ∀ {row : List TV} {b off : Nat}, (∀ o t, row[o]? = some t → ∃ v, M b (off + o) = some v ∧ Rep M t v) → RepC M row b off
 | [], _, _, _ => by rw [RepC]; trivial
 | r :: rs, b, off, h => by
  rw [RepC]
  refine ⟨by simpa using h 0 r rfl, RepC.of_get fun o t ht => ?_⟩
  have := h (o + 1) t (by simpa using ht)
  rwa [show off + (o + 1) = off + 1 + o by omega] at this
theorem RepR.get : ∀ {rows : List (List TV)} {b off i : Nat} {r : List TV}, RepR M s rows b off → rows[i]? = some r → r.length = s ∧ RepC M r b (off + i * s)
 | [], _, _, _, _, _, h => by simp at h
 | r :: rs, b, off, 0, t, hr, h => by
  rw [RepR] at hr
  simp at h; subst h; simpa using ⟨hr.1, hr.2.1⟩
 | r :: rs, b, off, i + 1, t, hr, h => by
  rw [RepR] at hr
  have := RepR.get (i := i) hr.2.2 (by simpa using h)
  rwa [show off + s + i * s = off + (i + 1) * s by rw [Nat.add_mul]; omega] at this
theorem RepR.of_get : ∀ {rows : List (List TV)} {b off : Nat}, (∀ i r, rows[i]? = some r → r.length = s ∧ RepC M r b (off + i * s)) → RepR M s rows b off
 | [], _, _, _ => by rw [RepR]; trivial
 | r :: rs, b, off, h => by
  rw [RepR]
  have h0 := h 0 r rfl
  simp at h0
  refine ⟨h0.1, h0.2, RepR.of_get fun i t ht => ?_⟩
  have := h (i + 1) t (by simpa using ht)
  rwa [show off + (i + 1) * s = off + s + i * s by rw [Nat.add_mul]; omega] at this
def KN (M : Mem) : Prop := (∀ i : Nat, i < 20 → M 1 i = some (.int .u64 ((10 ^ i : Nat) : Int))) ∧ (∃ t p, M 2 0 = some (.iface t p)) ∧ ∃ t p, M 3 0 = some (.iface t p)
theorem KN.mono (h : KN M) (hle : M.le M') : KN M' := ⟨fun i hi => hle _ _ _ (h.1 i hi), h.2.1.imp fun t ⟨p, e⟩ => ⟨p, hle _ _ _ e⟩, h.2.2.imp fun t ⟨p, e⟩ => ⟨p, hle _ _ _ e⟩⟩
structure Blk where
 b : Nat
 N : Nat
 T : TypeId
variable {β : Blk}
abbrev Stamp := Nat × Nat
variable {τ : Stamp}
structure Gh where
 M : Mem
 μ : Nat → Stamp → Option (Option Blk)
 kn : KN M
variable {G : Gh}
def Gh.le (G G' : Gh) : Prop := G.M.le G'.M ∧ ∀ k t β, G.μ k t = some β → G'.μ k t = some β
theorem Gh.le.refl (G : Gh) : G.le G := ⟨.refl _, fun _ _ _ h => h⟩
theorem Gh.le.trans {G' G'' : Gh} (h : G.le G') (h' : G'.le G'') : G.le G'' := ⟨h.1.trans h'.1, fun k t β e => h'.2 k t β (h.2 k t β e)⟩
structure YJ where
 g : Gh
 J : Nat → World → Prop
 D : Nat → Prop
 st : ∀ i w w', J i w → (∀ b, D b → w'.heap[b]? = w.heap[b]?) → J i w'
 nc : ∀ i w b, J i w → D b → ∃ o : Obj, w.heap[b]? = some o ∧ o.isCells = false
inductive OV where
 | d (t : TV)
 | un
 | lo (k : Nat) (τ : Stamp) (s i o : Nat)
 | os (k : Nat) (τ : Stamp) (s n : Nat)
 | vw (k : Nat) (τ : Stamp) (s l n : Nat)
 | ag (cs : List OV)
 | tu (cs : List OV)
 | fn (f : FuncId) (first cap : List OV)
 | mb (c : Bool) (y : OV)
 | yl (k : Nat) (τ : Stamp)
 | gh (i : Nat) (Y : YJ)
variable {y : OV} {row : List OV} {ys : List (Nat × OV)}
mutual
def RepO (G : Gh) : OV → Value → Prop
 | .d t, x => Rep G.M t x
 | .un, x => x = undef
 | .lo k τ s i o, x => ∃ β, G.μ k τ = some (some β) ∧ x = .pointer (some ⟨β.b, i * s + o, none⟩)
 | .os k τ s n, x => (∃ β c, G.μ k τ = some (some β) ∧ x = .slice (some ⟨β.b, 0, none⟩) n c ∧ n ≤ c ∧ β.N = c * s ∧ c ≤ maxLen) ∨ (G.μ k τ = some none ∧ x = .slice none 0 0 ∧ n = 0)
 | .vw k τ s l n, x => ∃ a c, x = .slice a n c ∧ n ≤ c ∧ (n = 0 ∨ ∃ β, G.μ k τ = some (some β) ∧ a = some ⟨β.b, l * s, none⟩)
 | .ag cs, x => ∃ vs, x = .agg vs ∧ RepOL G cs vs.toList
 | .tu cs, x => ∃ vs, x = .tuple vs ∧ RepOL G cs vs.toList
 | .fn f fi ca, x => ∃ vs us, x = .func (.func f) vs us ∧ RepOL G fi vs.toList ∧ RepOL G ca us.toList
 | .mb c y, x => (c = true → RepO G y x) ∧ (c = false → x = undef)
 | .yl k τ, x => ∃ β, G.μ k τ = some (some β) ∧ x = .func (.yield β.b) #[] #[]
 | .gh _ _, _ => True
def RepOL (G : Gh) : List OV → List Value → Prop
 | [], vs => vs = []
 | t :: ts, vs => ∃ v us, vs = v :: us ∧ RepO G t v ∧ RepOL G ts us
end
mutual
theorem RepO.mono {G G' : Gh} (h : G.le G') : ∀ (t : OV) (x : Value), RepO G t x → RepO G' t x
 | .d t, x, hr => by rw [RepO] at *; exact Rep.mono h.1 t x hr
 | .un, x, hr => by rw [RepO] at *; exact hr
 | .lo _ _ _ _ _, x, hr => by rw [RepO] at *; exact let ⟨β, h1, h2⟩ := hr; ⟨β, h.2 _ _ _ h1, h2⟩
 | .os _ _ _ _, x, hr => by rw [RepO] at *; exact hr.imp (fun ⟨β, c, h1, h2⟩ => ⟨β, c, h.2 _ _ _ h1, h2⟩) (fun ⟨h1, h2⟩ => ⟨h.2 _ _ _ h1, h2⟩)
 | .vw _ _ _ _ _, x, hr => by rw [RepO] at *; exact let ⟨a, c, h1, h2, h3⟩ := hr; ⟨a, c, h1, h2, h3.imp id fun ⟨β, h4, h5⟩ => ⟨β, h.2 _ _ _ h4, h5⟩⟩
 | .ag cs, x, hr => by rw [RepO] at *; exact let ⟨vs, h1, h2⟩ := hr; ⟨vs, h1, RepOL.mono h cs _ h2⟩
 | .tu cs, x, hr => by rw [RepO] at *; exact let ⟨vs, h1, h2⟩ := hr; ⟨vs, h1, RepOL.mono h cs _ h2⟩
 | .fn f fi ca, x, hr => by rw [RepO] at *; exact let ⟨vs, us, h1, h2, h3⟩ := hr; ⟨vs, us, h1, RepOL.mono h fi _ h2, RepOL.mono h ca _ h3⟩
 | .mb c y, x, hr => by rw [RepO] at *; exact ⟨fun e => RepO.mono h y x (hr.1 e), hr.2⟩
 | .yl _ _, x, hr => by rw [RepO] at *; exact let ⟨β, h1, h2⟩ := hr; ⟨β, h.2 _ _ _ h1, h2⟩
 | .gh _ _, x, hr => by rw [RepO]; trivial
theorem RepOL.mono {G G' : Gh} (h : G.le G') : ∀ (ts : List OV) (xs : List Value), RepOL G ts xs → RepOL G' ts xs
 | [], xs, hr => by rw [RepOL] at *; exact hr
 | t :: ts, xs, hr => by rw [RepOL] at *; exact let ⟨v, us, h1, h2, h3⟩ := hr; ⟨v, us, h1, RepO.mono h t v h2, RepOL.mono h ts us h3⟩
end
theorem RepOL.length : ∀ {ts : List OV} {xs : List Value}, RepOL G ts xs → xs.length = ts.length
 | [], _, h => by rw [RepOL] at h; simp [h]
 | _ :: _, _, h => by rw [RepOL] at h; obtain ⟨v, us, rfl, _, h⟩ := h; simp [RepOL.length h]
theorem RepOL.get : ∀ {ts : List OV} {xs : List Value} {i : Nat} {t : OV}, RepOL G ts xs → ts[i]? = some t → ∃ v, xs[i]? = some v ∧ RepO G t v
 | [], _, _, _, _, h => by simp at h
 | r :: rs, _, 0, t, hr, h => by
  rw [RepOL] at hr
  obtain ⟨v, us, rfl, h1, _⟩ := hr
  simp at h; subst h; exact ⟨v, rfl, h1⟩
 | r :: rs, _, i + 1, t, hr, h => by
  rw [RepOL] at hr
  obtain ⟨v, us, rfl, _, h2⟩ := hr
  simpa using RepOL.get (i := i) h2 (by simpa using h)
theorem RepOL.of_get : ∀ {ts : List OV} {xs : List Value}, xs.length = ts.length → (∀ (i : Nat) (t : OV) (v : Value), ts[i]? = some t → xs[i]? = some v → RepO G t v) → RepOL G ts xs
 | [], xs, hl, _ => by rw [RepOL]; exact List.eq_nil_of_length_eq_zero (by simpa using hl)
 | t :: ts, [], hl, _ => by simp at hl
 | t :: ts, x :: xs, hl, h => by
  rw [RepOL]
  exact ⟨x, xs, rfl, h 0 t x rfl rfl, RepOL.of_get (by simpa using hl) fun i t v h1 h2 => h (i + 1) t v (by simpa using h1) (by simpa using h2)⟩
theorem RepOL.append {ts us : List OV} {ys : List Value} (h : RepOL G ts xs) (h' : RepOL G us ys) : RepOL G (ts ++ us) (xs ++ ys) := by
 induction ts generalizing xs with
 | nil => rw [RepOL] at h; subst h; simpa using h'
 | cons t ts ih =>
  rw [RepOL] at h
  obtain ⟨v, vs, rfl, h1, h2⟩ := h
  simp only [List.cons_append]
  rw [RepOL]
  exact ⟨v, vs ++ ys, by simp, h1, ih h2⟩
theorem RepOL.sub {ts : List OV} (h : RepOL G ts xs) (o n : Nat) : RepOL G ((ts.drop o).take n) ((xs.drop o).take n) := by
 refine RepOL.of_get (by simp [h.length]) fun i t v h1 h2 => ?_
 rw [List.getElem?_take] at h1 h2
 split at h1
 ·rw [List.getElem?_drop] at h1
  obtain ⟨u, h3, h4⟩ := h.get h1
  rename_i hlt
  rw [if_pos hlt, List.getElem?_drop, h3] at h2
  cases h2; exact h4
 ·cases h1
def OV.leaf : OV → Bool
 | .ag _ | .tu _ | .un | .mb _ _ | .gh _ _ => false
 | _ => true
theorem RepO.oneCell {v : Value} (h : RepO G y v) (hl : y.leaf = true) : v.oneCell' = true := by
 cases y with
 | d t =>
  rw [RepO] at h
  cases t with
  | c u => rw [Rep] at h; obtain ⟨rfl, h⟩ := h; exact h
  | sl s rows => rw [Rep] at h; obtain ⟨a, c, rfl, _⟩ := h; rfl
  | pt row o => rw [Rep] at h; obtain ⟨a, c, rfl, _⟩ := h; rfl
  | fn f fi ca => rw [Rep] at h; obtain ⟨a, c, rfl, _⟩ := h; rfl
 | un => simp [OV.leaf] at hl
 | lo k β s i o => rw [RepO] at h; obtain ⟨β, _, rfl⟩ := h; rfl
 | os k β s n =>
  rw [RepO] at h
  rcases h with ⟨β, c, _, rfl, _⟩ | ⟨_, rfl, _⟩ <;> rfl
 | vw k β s l n => rw [RepO] at h; obtain ⟨a, c, rfl, _⟩ := h; rfl
 | ag cs => simp [OV.leaf] at hl
 | tu cs => simp [OV.leaf] at hl
 | mb c y => simp [OV.leaf] at hl
 | fn f fi ca => rw [RepO] at h; obtain ⟨a, c, rfl, _⟩ := h; rfl
 | yl k τ => rw [RepO] at h; obtain ⟨β, _, rfl⟩ := h; rfl
 | gh i Y => simp [OV.leaf] at hl
theorem oneCell_cells {v : Value} (h : v.oneCell' = true) : v.cells = #[v] := by cases v <;> first | rfl | simp [Value.oneCell'] at h
def OV.cells : OV → List OV
 | .ag cs => cs
 | y => [y]
def OV.wide : OV → Bool
 | .ag cs => cs.all OV.leaf
 | y => y.leaf
theorem RepO.cells {v : Value} (h : RepO G y v) (hw : y.wide = true) : RepOL G y.cells v.cells.toList ∧ ∀ u ∈ v.cells.toList, u.oneCell' = true := by
 have one : ∀ z : OV, z.leaf = true → RepO G z v → RepOL G [z] v.cells.toList ∧ ∀ u ∈ v.cells.toList, u.oneCell' = true := fun z hz hr => by
  have h1 := hr.oneCell hz
  rw [oneCell_cells h1]
  refine ⟨?_, by simpa using h1⟩
  rw [RepOL]
  exact ⟨v, [], rfl, hr, by rw [RepOL]⟩
 cases y with
 | ag cs =>
  rw [RepO] at h
  obtain ⟨vs, rfl, h2⟩ := h
  refine ⟨h2, fun u hu => ?_⟩
  obtain ⟨i, hi⟩ := List.mem_iff_getElem?.1 hu
  have hlt : i < cs.length := by
   rcases Nat.lt_or_ge i cs.length with hh | hh
   ·exact hh
   ·have e0 : vs.toList[i]? = none := List.getElem?_eq_none (by rw [h2.length]; exact hh)
    have e1 : vs.toList[i]? = some u := hi
    rw [e0] at e1; cases e1
  obtain ⟨w, h3, h4⟩ := h2.get (List.getElem?_eq_getElem hlt)
  have e : some u = some w := by rw [← hi, ← h3]; rfl
  cases e
  exact h4.oneCell (by
   simp only [OV.wide, List.all_eq_true] at hw
   exact hw _ (List.getElem_mem hlt))
 | tu cs => simp [OV.wide, OV.leaf] at hw
 | un => simp [OV.wide, OV.leaf] at hw
 | mb c y => simp [OV.wide, OV.leaf] at hw
 | d t => exact one (.d t) rfl h
 | lo k β s i o => exact one _ rfl h
 | os k β s n => exact one _ rfl h
 | vw k β s l n => exact one _ rfl h
 | fn f fi ca => exact one _ rfl h
 | yl k τ => exact one _ rfl h
 | gh i Y => simp [OV.wide, OV.leaf] at hw
def ofConst : Value → Option OV
 | .agg cs => if cs.all (·.oneCell') then some (.ag (cs.toList.map fun v => .d (.c v))) else none
 | .tuple cs => if cs.size = 0 then some .un else none
 | v => some (.d (.c v))
theorem ofConst_rep {v : Value} (h : ofConst v = some y) : RepO G y v := by
 unfold ofConst at h
 split at h
 ·rename_i cs
  split at h
  ·rename_i hc
   cases h
   rw [RepO]
   refine ⟨cs, rfl, RepOL.of_get (by simp) fun i t v h1 h2 => ?_⟩
   simp only [List.getElem?_map] at h1
   rw [h2] at h1
   cases h1
   rw [RepO, Rep]
   refine ⟨rfl, ?_⟩
   have : v ∈ cs.toList := List.mem_of_getElem? h2
   have hc' := Array.all_eq_true_iff_forall_mem.1 hc v (by simpa using this)
   exact hc'
  ·cases h
 ·rename_i cs
  split at h
  ·rename_i hc
   cases h
   rw [RepO]
   have : cs = #[] := by simpa using hc
   subst this; rfl
  ·cases h
 ·cases h
  rw [RepO, Rep]
  refine ⟨rfl, ?_⟩
  rename_i h1 h2
  cases v <;> first | rfl | exact (h1 _ rfl).elim | exact (h2 _ rfl).elim
inductive TK where
 | sc (d : TypeDesc)
 | slice (e : TypeId)
 | arr (n : Nat) (e : TypeId)
 | st (fs : List (Nat × TypeId))
structure TE where
 k : TK
 size : Nat
 bytes : Nat
 zero : List Value
variable {te ee : TE}
def notAgg : TypeDesc → Bool
 | .struct _ | .array _ _ => false
 | _ => true
def TK.fits (P : Program) (T : TypeId) : TK → Prop
 | .sc d => P.underlying T = some d ∧ notAgg d = true
 | .slice e => P.underlying T = some (.slice e)
 | .arr n e => P.underlying T = some (.array n e)
 | .st fs => ∃ flds, P.underlying T = some (.struct flds) ∧ flds.toList.map (fun f => (f.offset, f.type)) = fs
def TE.fits (P : Program) (T : TypeId) (e : TE) : Prop :=
 e.k.fits P T ∧ ∃ i z, P.info? T = some i ∧ i.size = e.size ∧ i.bytes = e.bytes ∧ i.zero = some z ∧ z.cells.toList = e.zero ∧ e.zero.length = e.size ∧ e.zero.all (·.oneCell') = true
def TK.isAgg : TK → Bool
 | .arr _ _ | .st _ => true
 | _ => false
structure Env where
 P : Program
 tab : TypeId → Option TE
 ok : ∀ T e, tab T = some e → e.fits P T
 mixed : P.follows .mixedOrders = true
structure Row where
 s : Nat
 rows : List (List OV)
variable {r : Row}
abbrev Store := Nat → Option (Stamp × Row)
variable {σ : Store}
theorem cH {k : Nat} (h : j ≠ k) : Nat.beq j k = false := by
 cases h' : Nat.beq j k with
 | false => rfl
 | true => exact (h (Nat.eq_of_beq_eq_true h')).elim
def Store.nil : Store := fun _ => none
def Store.put (σ : Store) (k : Nat) (x : Stamp × Row) : Store := fun j => bif Nat.beq j k then some x else σ j
def Store.del (σ : Store) (k : Nat) : Store := fun j => bif Nat.beq j k then none else σ j
theorem Store.put_self (σ : Store) (k : Nat) (x : Stamp × Row) : σ.put k x k = some x := by simp [Store.put]
theorem Store.put_ne (σ : Store) (x : Stamp × Row) {k : Nat} (h : j ≠ k) : σ.put k x j = σ j := by
 simp [Store.put, cH h]
theorem Store.del_self (σ : Store) (k : Nat) : σ.del k k = none := by simp [Store.del]
theorem Store.del_ne (σ : Store) {k : Nat} (h : j ≠ k) : σ.del k j = σ j := by
 simp [Store.del, cH h]
def Store.le (σ σ' : Store) : Prop := ∀ k x, σ k = some x → σ' k = some x
abbrev Diff := List (Nat × Option (Stamp × Row))
def Store.apply (σ : Store) : Diff → Store
 | [] => σ
 | (k, some x) :: δ => Store.apply (σ.put k x) δ
 | (k, none) :: δ => Store.apply (σ.del k) δ
def RowAt (G : Gh) (cs : Array Value) (r : Row) : Prop :=
 ∀ (i : Nat) (row : List OV), r.rows[i]? = some row → row.length = r.s ∧ ∀ (o : Nat) (y : OV), row[o]? = some y → ∃ v, cs[i * r.s + o]? = some v ∧ RepO G y v
def BlkAt (G : Gh) (w : World) (β : Blk) (r : Row) : Prop :=
 ∃ cs, w.heap[β.b]? = some (.cells cs β.T (0, 0)) ∧ cs.size = β.N ∧ r.rows.length * r.s ≤ β.N ∧ RowAt G cs r
structure Ctx where
 w0 : World
 S : Nat → Prop
 G0 : Gh
 N : Nat
variable {Γ : Ctx}
structure WRel (Γ : Ctx) (G : Gh) (σ : Store) (w : World) : Prop where
 mem : ∀ b o v, G.M b o = some v → w.cell? ⟨b, o, none⟩ = some v
 own : ∀ k τ r, σ k = some (τ, r) → (G.μ k τ = some none ∧ r.rows = []) ∨ ∃ β, G.μ k τ = some (some β) ∧ BlkAt G w β r ∧ (∀ o, G.M β.b o = none) ∧ (Γ.w0.heap.size ≤ β.b ∨ Γ.S β.b)
 inj : ∀ k k' τ τ' β β' r r', σ k = some (τ, r) → σ k' = some (τ', r') → G.μ k τ = some (some β) → G.μ k' τ' = some (some β') → β.b = β'.b → k = k'
 keep : ∀ b, b < Γ.w0.heap.size → ¬ Γ.S b → w.heap[b]? = Γ.w0.heap[b]?
 size : Γ.w0.heap.size ≤ w.heap.size
 tape : w.tape = Γ.w0.tape
 os : w.os = Γ.w0.os
 output : w.output = Γ.w0.output
 g0 : Γ.G0.le G
 new : ∀ b o v, G.M b o = some v → Γ.G0.M b o = some v ∨ Γ.w0.heap.size ≤ b ∨ Γ.S b
 bound : ∃ n, ∀ k v i, n ≤ v → G.μ k (v, i) = none
 low : ∀ k v i, v < Γ.N → G.μ k (v, i) = Γ.G0.μ k (v, i)
theorem run_isAgg {T : TypeId} {e : TE} (h : e.fits P T) (w : World) : (isAgg T).run P w = .ok e.k.isAgg w := by
 obtain ⟨k, size, bytes, zero⟩ := e
 have hk := h.1
 cases k with
 | sc d =>
  obtain ⟨h1, h2⟩ := hk
  cases d <;> first | (simp [notAgg] at h2; done) | (simp [isAgg, run_underlying h1, TK.isAgg])
 | slice e => simp only [TK.fits] at hk; simp [isAgg, run_underlying hk, TK.isAgg]
 | arr n e => simp only [TK.fits] at hk; simp [isAgg, run_underlying hk, TK.isAgg]
 | st fs => obtain ⟨fl, h1, _⟩ := hk; simp [isAgg, run_underlying h1, TK.isAgg]
theorem vR {T : TypeId} {e : TE} (h : e.fits P T) (w : World) : (sizeOf T).run P w = .ok e.size w := by
 obtain ⟨_, i, z, h1, h2, _⟩ := h
 simp [sizeOf, typeInfo, h1, h2]
theorem xK {T : TypeId} {e : TE} (h : e.fits P T) (w : World) : ∃ z, (zeroValue T).run P w = .ok z w ∧ z.cells.toList = e.zero := by
 obtain ⟨_, i, z, h1, h2, h3, h4, h5, _⟩ := h
 exact ⟨z, by simp [zeroValue, typeInfo, h1, h4], h5⟩
theorem RowAt.mono {G' : Gh} (h : G.le G') (hr : RowAt G cs r) : RowAt G' cs r := fun i row hi =>
 ⟨(hr i row hi).1, fun o y hy => let ⟨v, h1, h2⟩ := (hr i row hi).2 o y hy; ⟨v, h1, h2.mono h⟩⟩
theorem BlkAt.mono {G' : Gh} (h : G.le G') (ho : BlkAt G w β r) : BlkAt G' w β r :=
 let ⟨cs, h1, h2, h3, h4⟩ := ho; ⟨cs, h1, h2, h3, h4.mono h⟩
theorem BlkAt.of_heap (ho : BlkAt G w β r) (h : w'.heap[β.b]? = w.heap[β.b]?) : BlkAt G w' β r :=
 let ⟨cs, h1, h2, h3, h4⟩ := ho; ⟨cs, h.trans h1, h2, h3, h4⟩
theorem BlkAt.lt (ho : BlkAt G w β r) : β.b < w.heap.size :=
 let ⟨_, h1, _⟩ := ho; (Array.getElem?_eq_some_iff.1 h1).1
theorem WRel.blk (h : WRel Γ G σ w) {k : Nat} (hk : σ k = some (τ, r)) (hμ : G.μ k τ = some (some β)) : BlkAt G w β r := by
 rcases h.own k τ r hk with ⟨h1, _⟩ | ⟨β0, h1, h2, _⟩
 ·rw [hμ] at h1; cases h1
 ·rw [hμ] at h1; cases h1; exact h2
theorem WRel.mem_lt (h : WRel Γ G σ w) {b : Nat} {v : Value} (hm : G.M b o = some v) : b < w.heap.size :=
 World.block_lt_of_cell? w ⟨b, o, none⟩ (h.mem b o v hm)
theorem WRel.world (h : WRel Γ G σ w) (hs : w.heap.size ≤ w'.heap.size) (ht : w'.tape = w.tape) (ho : w'.os = w.os) (hp : w'.output = w.output) (hb : ∀ b, b < w.heap.size → w'.heap[b]? = w.heap[b]?) : WRel Γ G σ w' where
 mem b o v hm := by rw [World.cell?_of_block (w := w) (hb b (h.mem_lt hm))]; exact h.mem b o v hm
 own k τ r hk := (h.own k τ r hk).imp id fun ⟨β, h1, h2, h3, h4⟩ => ⟨β, h1, h2.of_heap (hb _ h2.lt), h3, h4⟩
 inj := h.inj
 keep b hb' hS := (hb b (Nat.lt_of_lt_of_le hb' h.size)).trans (h.keep b hb' hS)
 size := Nat.le_trans h.size hs
 tape := ht.trans h.tape
 os := ho.trans h.os
 output := hp.trans h.output
 g0 := h.g0
 new := h.new
 bound := h.bound
 low := h.low
theorem WRel.below (h : WRel Γ G σ w) (hb : Below w.heap.size w w') : WRel Γ G σ w' :=
 h.world hb.size hb.tape hb.os hb.output hb.block
theorem WRel.drawn (h : WRel Γ G σ w) (n : Nat) : WRel Γ G σ { w with drawn := n } :=
 h.world (Nat.le_refl _) rfl rfl rfl fun _ _ => rfl
theorem WRel.forget {σ' : Store} (h : WRel Γ G σ w) (hs : σ'.le σ) : WRel Γ G σ' w where
 mem := h.mem
 own k τ r hk := h.own k τ r (hs _ _ hk)
 inj k k' τ τ' β β' r r' hk hk' := h.inj k k' τ τ' β β' r r' (hs _ _ hk) (hs _ _ hk')
 keep := h.keep
 size := h.size
 tape := h.tape
 os := h.os
 output := h.output
 g0 := h.g0
 new := h.new
 bound := h.bound
 low := h.low
theorem WRel.grow (h : WRel Γ G σ w) (hle : G.M.le M') (hm : ∀ b o v, M' b o = some v → w.cell? ⟨b, o, none⟩ = some v) (hs : ∀ k τ r β o, σ k = some (τ, r) → G.μ k τ = some (some β) → M' β.b o = none) (hn : ∀ b o v, M' b o = some v → G.M b o = some v ∨ Γ.w0.heap.size ≤ b ∨ Γ.S b) : WRel Γ ⟨M', G.μ, G.kn.mono hle⟩ σ w where
 mem := hm
 own k τ r hk := (h.own k τ r hk).imp id fun ⟨β, h1, h2, _, h4⟩ => ⟨β, h1, h2.mono (G' := ⟨M', G.μ, G.kn.mono hle⟩) ⟨hle, fun _ _ _ e => e⟩, fun o => hs k τ r β o hk h1, h4⟩
 inj := h.inj
 keep := h.keep
 size := h.size
 tape := h.tape
 os := h.os
 output := h.output
 g0 := ⟨h.g0.1.trans hle, h.g0.2⟩
 new b o v e := (hn b o v e).elim (h.new b o v) Or.inr
 bound := h.bound
 low := h.low
def Gh.name (G : Gh) (k : Nat) (τ : Stamp) (β : Option Blk) : Gh := ⟨G.M, fun k' τ' => if k' = k ∧ τ' = τ then some β else G.μ k' τ', G.kn⟩
theorem Gh.name_self (G : Gh) (k : Nat) (τ : Stamp) (β : Option Blk) : (G.name k τ β).μ k τ = some β := by simp [Gh.name]
theorem Gh.name_ne (G : Gh) {k k' : Nat} {τ' : Stamp} (β : Option Blk) (h : ¬ (k' = k ∧ τ' = τ)) : (G.name k τ β).μ k' τ' = G.μ k' τ' := by simp [Gh.name, h]
theorem Gh.name_le (G : Gh) {k : Nat} (β : Option Blk) (h : G.μ k τ = none) : G.le (G.name k τ β) := by
 refine ⟨.refl _, fun k' τ' β' e => ?_⟩
 rw [Gh.name_ne _ _ (fun hh => by rw [hh.1, hh.2, h] at e; cases e)]
 exact e
theorem WRel.named (h : WRel Γ G σ w) {k v : Nat} (hv : Γ.N ≤ v) (hf : G.μ k (v, j) = none) (hs : w.heap.size ≤ w'.heap.size) (ht : w'.tape = w.tape) (ho : w'.os = w.os) (hp : w'.output = w.output) (hb : ∀ b, b < w.heap.size → b ≠ β.b → w'.heap[b]? = w.heap[b]?) (hblk : BlkAt G w' β r) (hsep : ∀ o, G.M β.b o = none) (hfr : Γ.w0.heap.size ≤ β.b ∨ Γ.S β.b) (hother : ∀ k' τ' r' β', k' ≠ k → σ k' = some (τ', r') → G.μ k' τ' = some (some β') → β'.b ≠ β.b) : WRel Γ (G.name k (v, j) (some β)) (σ.put k ((v, j), r)) w' := by
 have hle := G.name_le (some β) hf
 refine ⟨?_, ?_, ?_, ?_, Nat.le_trans h.size hs, ht.trans h.tape, ho.trans h.os, hp.trans h.output, h.g0.trans hle, h.new, ?_, ?_⟩
 ·intro b o x hm
  have hne : b ≠ β.b := fun e => by have := hsep o; rw [← e] at this; rw [show G.M b o = some x from hm] at this; cases this
  rw [World.cell?_of_block (w := w) (hb b (h.mem_lt hm) hne)]; exact h.mem b o x hm
 ·intro k' τ' r' hk
  by_cases e : k' = k
  ·subst e
   rw [Store.put_self] at hk
   cases hk
   exact Or.inr ⟨β, G.name_self _ _ _, hblk.mono hle, hsep, hfr⟩
  ·rw [Store.put_ne _ _ e] at hk
   exact (h.own k' τ' r' hk).imp (fun ⟨h1, h2⟩ => ⟨hle.2 _ _ _ h1, h2⟩) fun ⟨β', h1, h2, h3, h4⟩ => ⟨β', hle.2 _ _ _ h1, (h2.of_heap (hb _ h2.lt (hother k' τ' r' β' e hk h1))).mono hle, h3, h4⟩
 ·intro k1 k2 τ1 τ2 β1 β2 r1 r2 hk1 hk2 hμ1 hμ2 e
  by_cases e1 : k1 = k <;> by_cases e2 : k2 = k
  ·rw [e1, e2]
  ·subst e1
   rw [Store.put_self] at hk1
   cases hk1
   rw [Gh.name_self] at hμ1
   cases hμ1
   rw [Store.put_ne _ _ e2] at hk2
   rw [Gh.name_ne _ _ (fun hh => e2 hh.1)] at hμ2
   exact (hother k2 τ2 r2 β2 e2 hk2 hμ2 e.symm).elim
  ·subst e2
   rw [Store.put_self] at hk2
   cases hk2
   rw [Gh.name_self] at hμ2
   cases hμ2
   rw [Store.put_ne _ _ e1] at hk1
   rw [Gh.name_ne _ _ (fun hh => e1 hh.1)] at hμ1
   exact (hother k1 τ1 r1 β1 e1 hk1 hμ1 e).elim
  ·rw [Store.put_ne _ _ e1] at hk1
   rw [Store.put_ne _ _ e2] at hk2
   rw [Gh.name_ne _ _ (fun hh => e1 hh.1)] at hμ1
   rw [Gh.name_ne _ _ (fun hh => e2 hh.1)] at hμ2
   exact h.inj k1 k2 τ1 τ2 β1 β2 r1 r2 hk1 hk2 hμ1 hμ2 e
 ·intro b hb' hS
  have hne : b ≠ β.b := fun e => by
   rcases hfr with h1 | h1
   ·omega
   ·exact hS (e ▸ h1)
  exact (hb b (Nat.lt_of_lt_of_le hb' h.size) hne).trans (h.keep b hb' hS)
 ·obtain ⟨n, hn⟩ := h.bound
  refine ⟨max n (v + 1), fun k' v' i hv' => ?_⟩
  rw [Gh.name_ne _ _ (fun hh => by have := hh.2; simp only [Prod.mk.injEq] at this; omega)]
  exact hn k' v' i (by omega)
 ·intro k' v' i hv'
  rw [Gh.name_ne _ _ (fun hh => by have := hh.2; simp only [Prod.mk.injEq] at this; omega)]
  exact h.low k' v' i hv'
theorem WRel.put (h : WRel Γ G σ w) {k : Nat} {r' : Row} (hk : σ k = some (τ, r)) (hμ : G.μ k τ = some (some β)) (hs : w.heap.size ≤ w'.heap.size) (ht : w'.tape = w.tape) (ho : w'.os = w.os) (hp : w'.output = w.output) (hb : ∀ b, b < w.heap.size → b ≠ β.b → w'.heap[b]? = w.heap[b]?) (hblk : BlkAt G w' β r') : WRel Γ G (σ.put k (τ, r')) w' := by
 obtain ⟨hsep, hfr⟩ : (∀ o, G.M β.b o = none) ∧ (Γ.w0.heap.size ≤ β.b ∨ Γ.S β.b) := by
  rcases h.own k τ r hk with ⟨h1, _⟩ | ⟨β0, h1, h2, hsep, hfr⟩
  ·rw [hμ] at h1; cases h1
  ·rw [hμ] at h1; cases h1; exact ⟨hsep, hfr⟩
 have hother : ∀ k' τ' r' β', k' ≠ k → σ k' = some (τ', r') → G.μ k' τ' = some (some β') → β'.b ≠ β.b := fun k' τ' r' β' hne hk' hμ' e => hne (h.inj k' k τ' τ β' β r' r hk' hk hμ' hμ e)
 refine ⟨?_, ?_, ?_, ?_, Nat.le_trans h.size hs, ht.trans h.tape, ho.trans h.os, hp.trans h.output, h.g0, h.new, h.bound, h.low⟩
 ·intro b o x hm
  have hne : b ≠ β.b := fun e => by have := hsep o; rw [← e] at this; rw [show G.M b o = some x from hm] at this; cases this
  rw [World.cell?_of_block (w := w) (hb b (h.mem_lt hm) hne)]; exact h.mem b o x hm
 ·intro k' τ' r2 hk'
  by_cases e : k' = k
  ·subst e
   rw [Store.put_self] at hk'
   cases hk'
   exact Or.inr ⟨β, hμ, hblk, hsep, hfr⟩
  ·rw [Store.put_ne _ _ e] at hk'
   exact (h.own k' τ' r2 hk').imp id fun ⟨β', h1, h2, h3, h4⟩ => ⟨β', h1, h2.of_heap (hb _ h2.lt (hother k' τ' r2 β' e hk' h1)), h3, h4⟩
 ·intro k1 k2 τ1 τ2 β1 β2 r1 r2 hk1 hk2 hμ1 hμ2 e
  have get : ∀ i γ (s : Row), (σ.put k (τ, r')) i = some (γ, s) → ∃ s', σ i = some (γ, s') := fun i γ s hi => by
   by_cases hik : i = k
   ·subst hik; rw [Store.put_self] at hi; cases hi; exact ⟨r, hk⟩
   ·rw [Store.put_ne _ _ hik] at hi; exact ⟨s, hi⟩
  obtain ⟨s1, h1⟩ := get k1 τ1 r1 hk1
  obtain ⟨s2, h2⟩ := get k2 τ2 r2 hk2
  exact h.inj k1 k2 τ1 τ2 β1 β2 s1 s2 h1 h2 hμ1 hμ2 e
 ·intro b hb' hS
  have hne : b ≠ β.b := fun e => by
   rcases hfr with h1 | h1
   ·omega
   ·exact hS (e ▸ h1)
  exact (hb b (Nat.lt_of_lt_of_le hb' h.size) hne).trans (h.keep b hb' hS)
theorem WRel.alloc (h : WRel Γ G σ w) (k : Nat) {v : Nat} (hv : Γ.N ≤ v) (hf : G.μ k (v, j) = none) (cs : Array Value) (T : TypeId) (r : Row) (hl : r.rows.length * r.s ≤ cs.size) (hr : RowAt G cs r) :
  WRel Γ (G.name k (v, j) (some ⟨w.heap.size, cs.size, T⟩)) (σ.put k ((v, j), r)) (w.alloc (.cells cs T)) :=
 h.named hv hf (by simp) rfl rfl rfl (fun b hb _ => Below.heap_alloc w _ b hb) ⟨cs, heap_alloc_new w _, rfl, hl, hr⟩
  (fun o => by
   show G.M w.heap.size o = none
   cases hm : G.M w.heap.size o with
   | none => rfl
   | some x => have := h.mem_lt hm; omega)
  (Or.inl h.size)
  (fun k' τ' r' β' _ hk' hμ' e => by
   rcases h.own k' τ' r' hk' with ⟨h1, _⟩ | ⟨β0, h1, h2, _⟩
   ·rw [hμ'] at h1; cases h1
   ·rw [hμ'] at h1; cases h1
    have := h2.lt
    simp only at e; omega)
theorem WRel.phantom (h : WRel Γ G σ w) (k : Nat) {v : Nat} (hv : Γ.N ≤ v) (hf : G.μ k (v, j) = none) (s : Nat) : WRel Γ (G.name k (v, j) none) (σ.put k ((v, j), ⟨s, []⟩)) w := by
 have hle := G.name_le none hf
 refine ⟨h.mem, ?_, ?_, h.keep, h.size, h.tape, h.os, h.output, h.g0.trans hle, h.new, ?_, ?_⟩
 ·intro k' τ r hk
  by_cases e : k' = k
  ·subst e; rw [Store.put_self] at hk; cases hk; exact Or.inl ⟨G.name_self _ _ _, rfl⟩
  ·rw [Store.put_ne _ _ e] at hk
   exact (h.own k' τ r hk).imp (fun ⟨h1, h2⟩ => ⟨hle.2 _ _ _ h1, h2⟩) fun ⟨β', h1, h2, h3, h4⟩ => ⟨β', hle.2 _ _ _ h1, h2.mono hle, h3, h4⟩
 ·intro k1 k2 τ1 τ2 β1 β2 r1 r2 hk1 hk2 hμ1 hμ2 e
  by_cases e1 : k1 = k
  ·subst e1; rw [Store.put_self] at hk1; cases hk1; rw [Gh.name_self] at hμ1; cases hμ1
  ·by_cases e2 : k2 = k
   ·subst e2; rw [Store.put_self] at hk2; cases hk2; rw [Gh.name_self] at hμ2; cases hμ2
   ·rw [Store.put_ne _ _ e1] at hk1
    rw [Store.put_ne _ _ e2] at hk2
    rw [Gh.name_ne _ _ (fun hh => e1 hh.1)] at hμ1
    rw [Gh.name_ne _ _ (fun hh => e2 hh.1)] at hμ2
    exact h.inj k1 k2 τ1 τ2 β1 β2 r1 r2 hk1 hk2 hμ1 hμ2 e
 ·obtain ⟨n, hn⟩ := h.bound
  refine ⟨max n (v + 1), fun k' v' i hv' => ?_⟩
  rw [Gh.name_ne _ _ (fun hh => by have := hh.2; simp only [Prod.mk.injEq] at this; omega)]
  exact hn k' v' i (by omega)
 ·intro k' v' i hv'
  rw [Gh.name_ne _ _ (fun hh => by have := hh.2; simp only [Prod.mk.injEq] at this; omega)]
  exact h.low k' v' i hv'
theorem Store.del_le (σ : Store) (k : Nat) : (σ.del k).le σ := fun j x hj => by
 by_cases e : j = k
 ·subst e; rw [Store.del_self] at hj; cases hj
 ·rw [Store.del_ne _ e] at hj; exact hj
mutual
def OV.toTV : OV → Option TV
 | .d t => some t
 | .fn f fi ca => match OV.toTVs fi, OV.toTVs ca with
  | some a, some b => some (.fn f a b)
  | _, _ => none
 | _ => none
def OV.toTVs : List OV → Option (List TV)
 | [] => some []
 | y :: ys => match OV.toTV y, OV.toTVs ys with
  | some t, some ts => some (t :: ts)
  | _, _ => none
end
mutual
theorem OV.toTV_rep {G : Gh} : ∀ (y : OV) (t : TV) (v : Value), y.toTV = some t → RepO G y v → Rep G.M t v
 | .d t, t', v, h, hr => by rw [OV.toTV] at h; cases h; rw [RepO] at hr; exact hr
 | .un, t', v, h, hr => by rw [OV.toTV] at h <;> first | cases h | (intros; simp_all)
 | .lo _ _ _ _ _, t', v, h, hr => by rw [OV.toTV] at h <;> first | cases h | (intros; simp_all)
 | .os _ _ _ _, t', v, h, hr => by rw [OV.toTV] at h <;> first | cases h | (intros; simp_all)
 | .vw _ _ _ _ _, t', v, h, hr => by rw [OV.toTV] at h <;> first | cases h | (intros; simp_all)
 | .ag _, t', v, h, hr => by rw [OV.toTV] at h <;> first | cases h | (intros; simp_all)
 | .tu _, t', v, h, hr => by rw [OV.toTV] at h <;> first | cases h | (intros; simp_all)
 | .mb _ _, t', v, h, hr => by rw [OV.toTV] at h <;> first | cases h | (intros; simp_all)
 | .yl _ _, t', v, h, hr => by rw [OV.toTV] at h <;> first | cases h | (intros; simp_all)
 | .gh _ _, t', v, h, hr => by rw [OV.toTV] at h <;> first | cases h | (intros; simp_all)
 | .fn f fi ca, t', v, h, hr => by
  rw [OV.toTV] at h
  cases h1 : OV.toTVs fi with
  | none => rw [h1] at h; cases h
  | some a =>
   cases h2 : OV.toTVs ca with
   | none => rw [h1, h2] at h; cases h
   | some b =>
    rw [h1, h2] at h
    cases h
    rw [RepO] at hr
    obtain ⟨vs, us, h3, h4, h5⟩ := hr
    rw [Rep]
    exact ⟨vs, us, h3, OV.toTVs_rep fi a _ h1 h4, OV.toTVs_rep ca b _ h2 h5⟩
theorem OV.toTVs_rep {G : Gh} : ∀ (ys : List OV) (ts : List TV) (vs : List Value), OV.toTVs ys = some ts → RepOL G ys vs → RepL G.M ts vs
 | [], ts, vs, h, hr => by rw [OV.toTVs] at h; cases h; rw [RepOL] at hr; rw [RepL]; exact hr
 | y :: ys, ts, vs, h, hr => by
  rw [OV.toTVs] at h
  cases h1 : OV.toTV y with
  | none => rw [h1] at h; cases h
  | some t =>
   cases h2 : OV.toTVs ys with
   | none => rw [h1, h2] at h; cases h
   | some us =>
    rw [h1, h2] at h
    cases h
    rw [RepOL] at hr
    obtain ⟨v, ws, rfl, h3, h4⟩ := hr
    rw [RepL]
    exact ⟨v, ws, rfl, OV.toTV_rep y t v h1 h3, OV.toTVs_rep ys us ws h2 h4⟩
end
theorem OV.toTVs_get : ∀ {ys : List OV} {ts : List TV} {i : Nat} {t : TV}, OV.toTVs ys = some ts → ts[i]? = some t → ∃ y, ys[i]? = some y ∧ y.toTV = some t
 | [], ts, i, t, h, hi => by rw [OV.toTVs] at h; cases h; simp at hi
 | y :: ys, ts, i, t, h, hi => by
  rw [OV.toTVs] at h
  cases h1 : OV.toTV y with
  | none => rw [h1] at h; cases h
  | some t' =>
   cases h2 : OV.toTVs ys with
   | none => rw [h1, h2] at h; cases h
   | some us =>
    rw [h1, h2] at h
    cases h
    cases i with
    | zero => simp at hi; subst hi; exact ⟨y, rfl, h1⟩
    | succ i => simpa using OV.toTVs_get (i := i) h2 (by simpa using hi)
theorem OV.toTVs_length : ∀ {ys : List OV} {ts : List TV}, OV.toTVs ys = some ts → ts.length = ys.length
 | [], ts, h => by rw [OV.toTVs] at h; cases h; rfl
 | y :: ys, ts, h => by
  rw [OV.toTVs] at h
  cases h1 : OV.toTV y with
  | none => rw [h1] at h; cases h
  | some t' =>
   cases h2 : OV.toTVs ys with
   | none => rw [h1, h2] at h; cases h
   | some us => rw [h1, h2] at h; cases h; simp [OV.toTVs_length h2]
def Mem.add (M : Mem) (b : Nat) (cs : Array Value) : Mem := fun b' o => if b' = b then cs[o]? else M b' o
theorem WRel.freeze (h : WRel Γ G σ w) {k : Nat} (hk : σ k = some (τ, r)) (hμ : G.μ k τ = some (some β)) :
  ∃ M', ∃ hle : G.M.le M', WRel Γ ⟨M', G.μ, G.kn.mono hle⟩ (σ.del k) w ∧ ∀ (i : Nat) (row : List OV), r.rows[i]? = some row → row.length = r.s ∧ ∀ (o : Nat) (y : OV), row[o]? = some y → ∃ v, M' β.b (i * r.s + o) = some v ∧ RepO ⟨M', G.μ, G.kn.mono hle⟩ y v := by
 obtain ⟨⟨cs, h1, h2, h3, h4⟩, hsep, hfr⟩ : BlkAt G w β r ∧ (∀ o, G.M β.b o = none) ∧ (Γ.w0.heap.size ≤ β.b ∨ Γ.S β.b) := by
  rcases h.own k τ r hk with ⟨h1, _⟩ | ⟨β0, h1, h2⟩
  ·rw [hμ] at h1; cases h1
  ·rw [hμ] at h1; cases h1; exact h2
 have hle : G.M.le (G.M.add β.b cs) := fun b o v hm => by
  have hne : b ≠ β.b := fun e => by have := hsep o; rw [← e, hm] at this; cases this
  simp [Mem.add, hne, hm]
 refine ⟨G.M.add β.b cs, hle, (h.forget (σ.del_le k)).grow hle ?_ ?_ ?_, ?_⟩
 ·intro b o v hm
  unfold Mem.add at hm
  split at hm
  ·rename_i e; subst e; simp [World.cell?, h1, hm]
  ·exact h.mem b o v hm
 ·intro k' τ' r' β' o hk' hμ'
  have hne : k' ≠ k := fun e => by subst e; rw [Store.del_self] at hk'; cases hk'
  rw [Store.del_ne _ hne] at hk'
  have hne' : β'.b ≠ β.b := fun e => hne (h.inj k' k τ' τ β' β r' r hk' hk hμ' hμ e)
  rcases h.own k' τ' r' hk' with ⟨e1, _⟩ | ⟨β0, e1, _, e2, _⟩
  ·rw [hμ'] at e1; cases e1
  ·rw [hμ'] at e1; cases e1
   simp [Mem.add, hne', e2 o]
 ·intro b o v hm
  unfold Mem.add at hm
  split at hm
  ·rename_i e; subst e; exact Or.inr hfr
  ·exact Or.inl hm
 ·intro i row hi
  refine ⟨(h4 i row hi).1, fun o y hy => ?_⟩
  obtain ⟨v, h5, h6⟩ := (h4 i row hi).2 o y hy
  exact ⟨v, by simp [Mem.add, h5], h6.mono (G' := ⟨G.M.add β.b cs, G.μ, G.kn.mono hle⟩) ⟨hle, fun _ _ _ e => e⟩⟩
abbrev Tm := Nat → Option OV
variable {tm : Tm}
def Tm.nil : Tm := fun _ => none
def Tm.put (tm : Tm) (d : Nat) (y : OV) : Tm := fun t => bif Nat.beq t d then some y else tm t
def Tm.putO (tm : Tm) : Option Nat → OV → Tm
 | some d, y => tm.put d y
 | none, _ => tm
theorem Tm.put_self (tm : Tm) (d : Nat) (y : OV) : tm.put d y d = some y := by simp [Tm.put]
theorem Tm.put_ne (tm : Tm) (y : OV) {t d : Nat} (h : t ≠ d) : tm.put d y t = tm t := by simp [Tm.put, cH h]
def Tm.le (tm tm' : Tm) : Prop := ∀ t y, tm t = some y → tm' t = some y
def ev (tm : Tm) : Operand → Option OV
 | .tmp t => tm t
 | .const v => ofConst v
 | .func f => some (.fn f [] [])
 | .global _ => none
def TRel (G : Gh) (tm : Tm) (a : Array Value) : Prop := ∀ t y, tm t = some y → (∃ i Y, y = .gh i Y) ∨ ∃ v, a[t]? = some v ∧ RepO G y v
theorem TRel.val (ht : TRel G tm a) {t : Nat} (h : tm t = some y) : RepO G y (a.getD t undef) := by
 rcases ht t y h with ⟨i, Y, rfl⟩ | ⟨v, h1, h2⟩
 ·rw [RepO]; trivial
 ·simp only [Array.getD_eq_getD_getElem?, h1, Option.getD_some]; exact h2
theorem TRel.mono {G' : Gh} (h : G.le G') (ht : TRel G tm a) : TRel G' tm a := fun t y hy => (ht t y hy).imp id fun ⟨v, h1, h2⟩ => ⟨v, h1, h2.mono h⟩
theorem TRel.le {tm' : Tm} (ht : TRel G tm a) (h : tm'.le tm) : TRel G tm' a := fun t y hy => ht t y (h t y hy)
theorem TRel.put {a : Act} (ht : TRel G tm a.tmps) {v : Value} (hy : RepO G y v) (dst : Option Nat) (hd : ∀ d, dst = some d → d < a.tmps.size) : TRel G (tm.putO dst y) (a.put dst v).tmps := by
 cases dst with
 | none => exact ht
 | some d =>
  intro t z hz
  have hlt := hd d rfl
  by_cases e : t = d
  ·subst e
   simp only [Tm.putO, Tm.put_self, Option.some.injEq] at hz
   subst hz
   exact Or.inr ⟨v, by simp [Act.put, hlt], hy⟩
  ·simp only [Tm.putO] at hz
   rw [Tm.put_ne _ _ e] at hz
   refine (ht t z hz).imp id fun ⟨u, h1, h2⟩ => ?_
   exact ⟨u, by simp only [Act.put]; rw [Array.getElem?_setIfInBounds_ne (Ne.symm e)]; exact h1, h2⟩
theorem yG {a : Act} (ht : TRel G tm a.tmps) (h : ev tm x = some y) : RepO G y (a.eval x) := by
 cases x with
 | tmp t => exact ht.val h
 | const v => exact ofConst_rep h
 | func f =>
  simp only [ev, Option.some.injEq] at h
  subst h
  rw [RepO]
  exact ⟨#[], #[], rfl, by simp [RepOL], by simp [RepOL]⟩
 | global g => cases h
def Leaves (Γ : Ctx) (G : Gh) (v j : Nat) (r : OV) (σ' : Store) (x : Value) (w : World) : Prop :=
 ∃ G', G.le G' ∧ (∀ k v' i, v' ≤ v → (v' = v → i ≠ j) → G'.μ k (v', i) = G.μ k (v', i)) ∧ RepO G' r x ∧ WRel Γ G' σ' w
def NextOk (P : Program) (Γ : Ctx) (G : Gh) (v j : Nat) (r : OV) (σ' : Store) : Result Next → Prop
 | .ok (.value x) w => Leaves Γ G v j r σ' x w
 | .ok .skip w => Leaves Γ G v j r σ' undef w
 | .ok (.enter f args) w => Calls P f args w (fun e w' => ∃ x, e = .returned x ∧ Leaves Γ G v j r σ' x w')
 | _ => False
def Yield (P : Program) (v j : Nat) (o : Oper) (tm : Tm) (σ : Store) (r : OV) (σ' : Store) : Prop :=
 ∀ (Γ : Ctx) (G : Gh) (ρ : Operand → Value) (w : World), Γ.N ≤ v → (∀ k, G.μ k (v, j) = none) → (∀ x ∈ o.op.operands, ∀ y, ev tm x = some y → RepO G y (ρ x)) → WRel Γ G σ w →
  NextOk P Γ G v j r σ' ((execOp ρ o).run P w)
def YL (P : Program) (v j : Nat) (o : Oper) (tm : Tm) (σ : Store) (ks : List Nat) (r : OV) (δ : Diff) : Prop :=
 ∀ σ' : Store, (∀ k ∈ ks, σ' k = σ k) → Yield P v j o tm σ' r (σ'.apply δ)
theorem Leaves.still {v : Nat} {r : OV} {x : Value} (h : RepO G r x) (hw : WRel Γ G σ w) : Leaves Γ G v j r σ x w := ⟨G, .refl G, fun _ _ _ _ _ => rfl, h, hw⟩
abbrev OV.int (k : IntKind) (n : Int) : OV := .d (.c (.int k n))
abbrev OV.bool (b : Bool) : OV := .d (.c (.bool b))
section
variable {E : Env} {V J : Nat} {dst : Option Tmp} {ty : TypeId} {pos : String} {af : Array Edge} {gd : Option (Nat × Bool)} {tm : Tm} {σ : Store}
theorem vA {v x : Value} (h : RepO G (.d (.c v)) x) : x = v := by rw [RepO, Rep] at h; exact h.1
theorem wE {v : Value} (h : v.oneCell' = true) : RepO G (.d (.c v)) v := by rw [RepO, Rep]; exact ⟨rfl, h⟩
theorem qQ (h : ev tm x = some y) : YL E.P V J ⟨dst, .move x, ty, pos, af, gd⟩ tm σ [] y [] :=
 fun σ _ Γ G ρ w _ _ hρ hw => Leaves.still (hρ x (by simp [Op.operands]) y h) hw
theorem qD (h : ev tm x = some y) : YL E.P V J ⟨dst, .assign x, ty, pos, af, gd⟩ tm σ [] y [] :=
 fun σ _ Γ G ρ w _ _ hρ hw => Leaves.still (hρ x (by simp [Op.operands]) y h) hw
theorem qB {c p q : Operand} (hc : ev tm c = some (.bool true)) (h : ev tm p = some y) : YL E.P V J ⟨dst, .pick c p q, ty, pos, af, gd⟩ tm σ [] y [] := fun σ _ Γ G ρ w _ _ hρ hw => by
 have h1 := vA (hρ c (by simp [Op.operands]) _ hc)
 have h2 := hρ p (by simp [Op.operands]) _ h
 simp only [execOp, h1, asBool, Sem.run_bind, Sem.run_pure, Result.andThen_ok, if_true, NextOk]
 exact Leaves.still h2 hw
theorem qC {c p q : Operand} (hc : ev tm c = some (.bool false)) (h : ev tm q = some y) : YL E.P V J ⟨dst, .pick c p q, ty, pos, af, gd⟩ tm σ [] y [] := fun σ _ Γ G ρ w _ _ hρ hw => by
 have h1 := vA (hρ c (by simp [Op.operands]) _ hc)
 have h2 := hρ q (by simp [Op.operands]) _ h
 simp only [execOp, h1, asBool, Sem.run_bind, Sem.run_pure, Result.andThen_ok, Bool.false_eq_true, if_false, NextOk]
 exact Leaves.still h2 hw
theorem eqGuard_run {T : TypeId} {y : Operand} {a b : Value} (w : World) (h : a ≠ .nilIface) (h' : ∀ cs, a ≠ .agg cs) : (eqGuard op T x y a b).run P w = .ok () w := by
 cases op <;> cases a <;> first | rfl | exact (h rfl).elim | exact (h' _ rfl).elim
theorem dW {T : TypeId} {y : Operand} {k k' : IntKind} {a : Int} {v : Value} (hx : ev tm x = some (.int k a)) (hy : ev tm y = some (.int k' b)) (h : ∀ w, (binOp op T (.int k a) (.int k' b)).run E.P w = .ok v w) (hv : v.oneCell' = true) : YL E.P V J ⟨dst, .binOp op T x y T', ty, pos, af, gd⟩ tm σ [] (.d (.c v)) [] := fun σ _ Γ G ρ w _ _ hρ hw => by
 have h1 := vA (hρ x (by simp [Op.operands]) _ hx)
 have h2 := vA (hρ y (by simp [Op.operands]) _ hy)
 simp only [execOp, h1, h2, Sem.run_bind, eqGuard_run w (a := .int k a) (by simp) (by simp), h w, Sem.run_pure, Result.andThen_ok, NextOk]
 exact Leaves.still (wE hv) hw
theorem uAL {T : TypeId} {y : Operand} {k : IntKind} {a : Int} (hx : ev tm x = some (.int k a)) (hy : ev tm y = some (.int k b)) :
  YL E.P V J ⟨dst, .binOp .add T x y T', ty, pos, af, gd⟩ tm σ [] (.int k (k.wrap (a + b))) [] := dW hx hy (fun w => by simp [binOp, Op.intArith]) rfl
theorem uAD {T : TypeId} {y : Operand} {k : IntKind} {a : Int} (hx : ev tm x = some (.int k a)) (hy : ev tm y = some (.int k b)) :
  YL E.P V J ⟨dst, .binOp .sub T x y T', ty, pos, af, gd⟩ tm σ [] (.int k (k.wrap (a - b))) [] := dW hx hy (fun w => by simp [binOp, Op.intArith]) rfl
theorem uBE {T : TypeId} {y : Operand} {k : IntKind} {a : Int} (hx : ev tm x = some (.int k a)) (hy : ev tm y = some (.int k b)) :
  YL E.P V J ⟨dst, .binOp .mul T x y T', ty, pos, af, gd⟩ tm σ [] (.int k (k.wrap (a * b))) [] := dW hx hy (fun w => by simp [binOp, Op.intArith]) rfl
theorem wrap64 {a : Int} (h1 : -9223372036854775808 ≤ a) (h2 : a ≤ 9223372036854775807) : IntKind.i64.wrap a = a := by
 unfold IntKind.wrap IntKind.bits IntKind.signed
 simp only [Bool.true_and]
 split
 ·rename_i h; simp at h; omega
 ·rename_i h; simp at h; omega
theorem wrap32u {a : Int} (h1 : 0 ≤ a) (h2 : a < 4294967296) : IntKind.u32.wrap a = a := by
 unfold IntKind.wrap IntKind.bits IntKind.signed
 simp only [Bool.false_and, Bool.false_eq_true, if_false]
 omega
theorem sP {T : TypeId} {y : Operand} {a : Int} (hx : ev tm x = some (.int .i64 a)) (hy : ev tm y = some (.int .i64 b)) (h : -9223372036854775808 ≤ a + b ∧ a + b ≤ 9223372036854775807) :
  YL E.P V J ⟨dst, .binOp .add T x y T', ty, pos, af, gd⟩ tm σ [] (.int .i64 (a + b)) [] := by
 have := uAL (E := E) (V := V) (J := J) (dst := dst) (ty := ty) (pos := pos) (af := af) (gd := gd) (σ := σ) (T := T) (T' := T') hx hy; rwa [wrap64 h.1 h.2] at this
theorem sN {T : TypeId} {y : Operand} {a : Int} (hx : ev tm x = some (.int .i64 a)) (hy : ev tm y = some (.int .i64 b)) (h : -9223372036854775808 ≤ a - b ∧ a - b ≤ 9223372036854775807) :
  YL E.P V J ⟨dst, .binOp .sub T x y T', ty, pos, af, gd⟩ tm σ [] (.int .i64 (a - b)) [] := by
 have := uAD (E := E) (V := V) (J := J) (dst := dst) (ty := ty) (pos := pos) (af := af) (gd := gd) (σ := σ) (T := T) (T' := T') hx hy; rwa [wrap64 h.1 h.2] at this
theorem Y_mul64 {T : TypeId} {y : Operand} {a : Int} (hx : ev tm x = some (.int .i64 a)) (hy : ev tm y = some (.int .i64 b)) (h : -9223372036854775808 ≤ a * b ∧ a * b ≤ 9223372036854775807) :
  YL E.P V J ⟨dst, .binOp .mul T x y T', ty, pos, af, gd⟩ tm σ [] (.int .i64 (a * b)) [] := by
 have := uBE (E := E) (V := V) (J := J) (dst := dst) (ty := ty) (pos := pos) (af := af) (gd := gd) (σ := σ) (T := T) (T' := T') hx hy; rwa [wrap64 h.1 h.2] at this
theorem Y_rem {T : TypeId} {y : Operand} {k : IntKind} {a : Int} (hx : ev tm x = some (.int k a)) (hy : ev tm y = some (.int k b)) (hb : b ≠ 0) :
  YL E.P V J ⟨dst, .binOp .rem T x y T', ty, pos, af, gd⟩ tm σ [] (.int k (a.tmod b)) [] := dW hx hy (fun w => by simp [binOp, Op.intDiv, hb]) rfl
theorem uAI {T : TypeId} {y : Operand} {k : IntKind} {a : Int} (hx : ev tm x = some (.int k a)) (hy : ev tm y = some (.int k b)) :
  YL E.P V J ⟨dst, .binOp .eql T x y T', ty, pos, af, gd⟩ tm σ [] (.bool (decide (a = b))) [] := dW hx hy (fun w => by simp [binOp, Op.intCmp]; rfl) rfl
theorem uBD {T : TypeId} {y : Operand} {k : IntKind} {a : Int} (hx : ev tm x = some (.int k a)) (hy : ev tm y = some (.int k b)) :
  YL E.P V J ⟨dst, .binOp .neq T x y T', ty, pos, af, gd⟩ tm σ [] (.bool (!decide (a = b))) [] := dW hx hy (fun w => by simp [binOp, Op.intCmp]; rfl) rfl
theorem uAH {T : TypeId} {y : Operand} {k : IntKind} {a : Int} (hx : ev tm x = some (.int k a)) (hy : ev tm y = some (.int k b)) :
  YL E.P V J ⟨dst, .binOp .lss T x y T', ty, pos, af, gd⟩ tm σ [] (.bool (decide (a < b))) [] := dW hx hy (fun w => by simp [binOp, Op.intCmp]) rfl
theorem sO {T : TypeId} {y : Operand} {k : IntKind} {a : Int} (hx : ev tm x = some (.int k a)) (hy : ev tm y = some (.int k b)) :
  YL E.P V J ⟨dst, .binOp .leq T x y T', ty, pos, af, gd⟩ tm σ [] (.bool (decide (a ≤ b))) [] := dW hx hy (fun w => by simp [binOp, Op.intCmp]) rfl
theorem uBH {T : TypeId} {y : Operand} {k : IntKind} {a : Int} (hx : ev tm x = some (.int k a)) (hy : ev tm y = some (.int k b)) :
  YL E.P V J ⟨dst, .binOp .gtr T x y T', ty, pos, af, gd⟩ tm σ [] (.bool (decide (b < a))) [] := dW hx hy (fun w => by simp [binOp, Op.intCmp]) rfl
theorem uBI {T : TypeId} {y : Operand} {k : IntKind} {a : Int} (hx : ev tm x = some (.int k a)) (hy : ev tm y = some (.int k b)) :
  YL E.P V J ⟨dst, .binOp .geq T x y T', ty, pos, af, gd⟩ tm σ [] (.bool (decide (b ≤ a))) [] := dW hx hy (fun w => by simp [binOp, Op.intCmp]) rfl
theorem qV {T : TypeId} {y : Operand} {p q : OV} {v : Value} (hx : ev tm x = some p) (hy : ev tm y = some q) (h : ∀ (G : Gh) (a b : Value) (w : World), RepO G p a → RepO G q b → (eqGuard op T x y a b).run E.P w = .ok () w ∧ (binOp op T a b).run E.P w = .ok v w) (hv : v.oneCell' = true) : YL E.P V J ⟨dst, .binOp op T x y T', ty, pos, af, gd⟩ tm σ [] (.d (.c v)) [] := fun σ _ Γ G ρ w _ _ hρ hw => by
 obtain ⟨h1, h2⟩ := h G _ _ w (hρ x (by simp [Op.operands]) _ hx) (hρ y (by simp [Op.operands]) _ hy)
 simp only [execOp, Sem.run_bind, h1, h2, Sem.run_pure, Result.andThen_ok, NextOk]
 exact Leaves.still (wE hv) hw
theorem uBC {T : TypeId} {b : Bool} (hx : ev tm x = some (.bool b)) : YL E.P V J ⟨dst, .unOp .not T x, ty, pos, af, gd⟩ tm σ [] (.bool (!b)) [] := fun σ _ Γ G ρ w _ _ hρ hw => by
 have h1 := vA (hρ x (by simp [Op.operands]) _ hx)
 simp only [execOp, h1, Op.unary, Sem.run_bind, Sem.run_pure, Result.andThen_ok, NextOk]
 exact Leaves.still (wE rfl) hw
theorem nX {S T : TypeId} {k kd : IntKind} {n : Int} {se : TE} (hS : E.tab S = some se) (hT : E.tab T = some te) (hk : te.k = .sc (.int kd)) (hs : se.k = .sc (.int k)) (hx : ev tm x = some (.int k n)) :
  YL E.P V J ⟨dst, .convert S T x, ty, pos, af, gd⟩ tm σ [] (.int kd (kd.wrap n)) [] := fun σ _ Γ G ρ w _ _ hρ hw => by
 have h1 := vA (hρ x (by simp [Op.operands]) _ hx)
 have hs' := (E.ok S se hS).1
 rw [hs] at hs'
 have ht := (E.ok T te hT).1
 rw [hk] at ht
 have hr : (convert S T (.int k n)).run E.P w = .ok (.int kd (kd.wrap n)) w := by simp [convert, run_underlying hs'.1, run_underlying ht.1, Conv.intToInt]
 simp only [execOp, h1, Sem.run_bind, hr, Sem.run_pure, Result.andThen_ok, NextOk]
 exact Leaves.still (wE rfl) hw
theorem Y_conv32u {S T : TypeId} {k : IntKind} {n : Int} {se : TE} (hS : E.tab S = some se) (hT : E.tab T = some te) (hk : te.k = .sc (.int .u32)) (hs : se.k = .sc (.int k)) (hx : ev tm x = some (.int k n)) (h : 0 ≤ n ∧ n < 4294967296) : YL E.P V J ⟨dst, .convert S T x, ty, pos, af, gd⟩ tm σ [] (.int .u32 n) [] := by
 have := nX (E := E) (V := V) (J := J) (dst := dst) (ty := ty) (pos := pos) (af := af) (gd := gd) (σ := σ) hS hT hk hs hx; rwa [wrap32u h.1 h.2] at this
theorem Y_extract {ix : Nat} {cs : List OV} (hx : ev tm x = some (.tu cs)) (hy : cs[ix]? = some y) : YL E.P V J ⟨dst, .extract x ix, ty, pos, af, gd⟩ tm σ [] y [] := fun σ _ Γ G ρ w _ _ hρ hw => by
 have h1 := hρ x (by simp [Op.operands]) _ hx
 rw [RepO] at h1
 obtain ⟨vs, h1, h2⟩ := h1
 obtain ⟨v, h5, h6⟩ := h2.get hy
 have h5' : vs[ix]? = some v := by simpa using h5
 simp only [execOp, h1, Instr.extract, h5', Sem.run_bind, Sem.run_pure, Result.andThen_ok, NextOk]
 exact Leaves.still h6 hw
theorem xN (b o n : Nat) : (⟨b, o, none⟩ : Addr).add n = ⟨b, o + n, none⟩ := by unfold Addr.add; split <;> simp_all
theorem gW {T : TypeId} {fe : TE} (hT : E.tab T = some te) (hk : te.k = .st fs) (hf : fs[f]? = some (o, ft)) (hF : E.tab ft = some fe) (hz : fe.size ≠ 0) (b p : Nat) (w : World) :
  (Instr.fieldAt T (.pointer (some ⟨b, p, none⟩)) f).run E.P w = .ok (.pointer (some ⟨b, p + o, none⟩)) w := by
 have h := (E.ok T te hT).1
 rw [hk] at h
 obtain ⟨fl, h3, h4⟩ := h
 rw [← h4, List.getElem?_map] at hf
 obtain ⟨g, hg, he⟩ := Option.map_eq_some_iff.1 hf
 simp only [Prod.mk.injEq] at he
 obtain ⟨rfl, rfl⟩ := he
 have hg' : fl[f]? = some g := by simpa using hg
 simp [Instr.fieldAt, run_underlying h3, hg', Instr.sureAddr, fieldPlace, vR (E.ok _ fe hF), hz, xN]
theorem yV {T : TypeId} {fe : TE} {row : List TV} (hT : E.tab T = some te) (hk : te.k = .st fs) (hf : fs[f]? = some (o, ft)) (hF : E.tab ft = some fe) (hz : fe.size ≠ 0) (hx : ev tm x = some (.d (.pt row p))) : YL E.P V J ⟨dst, .fieldAddr T x f, ty, pos, af, gd⟩ tm σ [] (.d (.pt row (p + o))) [] := fun σ _ Γ G ρ w _ _ hρ hw => by
 have h1 := hρ x (by simp [Op.operands]) _ hx
 rw [RepO, Rep] at h1
 obtain ⟨b, off, h1, h2⟩ := h1
 simp only [execOp, h1, Sem.run_bind, gW hT hk hf hF hz, Sem.run_pure, Result.andThen_ok, NextOk]
 refine Leaves.still ?_ hw
 rw [RepO, Rep]
 exact ⟨b, off, by rw [Nat.add_assoc], h2⟩
theorem yW {T : TypeId} {fe : TE} {k : Nat} {i : Nat} (hT : E.tab T = some te) (hk : te.k = .st fs) (hf : fs[f]? = some (o, ft)) (hF : E.tab ft = some fe) (hz : fe.size ≠ 0) (hx : ev tm x = some (.lo k τ s i p)) : YL E.P V J ⟨dst, .fieldAddr T x f, ty, pos, af, gd⟩ tm σ [] (.lo k τ s i (p + o)) [] := fun σ _ Γ G ρ w _ _ hρ hw => by
 have h1 := hρ x (by simp [Op.operands]) _ hx
 rw [RepO] at h1
 obtain ⟨β, hμ, h1⟩ := h1
 simp only [execOp, h1, Sem.run_bind, gW hT hk hf hF hz, Sem.run_pure, Result.andThen_ok, NextOk]
 refine Leaves.still ?_ hw
 rw [RepO]
 exact ⟨β, hμ, by rw [Nat.add_assoc]⟩
theorem gV {T : TypeId} (hT : E.tab T = some te) (hk : te.k = .slice e) (hE : E.tab e = some ee) (b p n c : Nat) {k : IntKind} {i : Int} (hin : 0 ≤ i ∧ i < n) (w : World) :
  (Instr.indexAt T (.slice (some ⟨b, p, none⟩) n c) (.int k i)).run E.P w = .ok (.pointer (some ⟨b, p + i.toNat * ee.size, none⟩)) w := by
 have h := (E.ok T te hT).1
 rw [hk] at h
 simp only [TK.fits] at h
 simp [Instr.indexAt, asIntOf, run_underlying h, hin, vR (E.ok e ee hE), xN]
theorem cN {T : TypeId} {ix : Operand} {k : IntKind} {i : Int} {rows : List (List TV)} {row : List TV} (hT : E.tab T = some te) (hk : te.k = .slice e) (hE : E.tab e = some ee) (hs : ee.size = s) (hx : ev tm x = some (.d (.sl s rows))) (hi : ev tm ix = some (.int k i)) (h0 : 0 ≤ i) (hr : rows[i.toNat]? = some row) : YL E.P V J ⟨dst, .indexAddr T x ix, ty, pos, af, gd⟩ tm σ [] (.d (.pt row 0)) [] := fun σ _ Γ G ρ w _ _ hρ hw => by
 have h1 := hρ x (by simp [Op.operands]) _ hx
 have h2 := vA (hρ ix (by simp [Op.operands]) _ hi)
 rw [RepO, Rep] at h1
 obtain ⟨a, c, h1, h3, h4⟩ := h1
 have hlt : i.toNat < rows.length := by
  rcases Nat.lt_or_ge i.toNat rows.length with h | h
  ·exact h
  ·rw [List.getElem?_eq_none h] at hr; cases hr
 rcases h4 with h4 | ⟨b, off, rfl, h4⟩
 ·subst h4; simp at hr
 ·simp only [execOp, h1, h2, Sem.run_bind, gV hT hk hE b off rows.length c (i := i) (k := k) ⟨h0, by omega⟩, Sem.run_pure, Result.andThen_ok, NextOk]
  refine Leaves.still ?_ hw
  rw [RepO, Rep]
  exact ⟨b, off + i.toNat * s, by rw [hs]; rfl, (h4.get hr).2⟩
theorem aH {T : TypeId} {ix : Operand} {k : IntKind} {i : Int} {q n : Nat} (hT : E.tab T = some te) (hk : te.k = .slice e) (hE : E.tab e = some ee) (hs : ee.size = s) (hx : ev tm x = some (.os q τ s n)) (hi : ev tm ix = some (.int k i)) (hin : 0 ≤ i ∧ i < n) : YL E.P V J ⟨dst, .indexAddr T x ix, ty, pos, af, gd⟩ tm σ [] (.lo q τ s i.toNat 0) [] := fun σ _ Γ G ρ w _ _ hρ hw => by
 have h1 := hρ x (by simp [Op.operands]) _ hx
 have h2 := vA (hρ ix (by simp [Op.operands]) _ hi)
 rw [RepO] at h1
 obtain ⟨β, c, hμ, h1, h3, h4⟩ := h1.resolve_right (fun h => by have := h.2.2; omega)
 simp only [execOp, h1, h2, Sem.run_bind, gV hT hk hE β.b 0 n c (i := i) (k := k) hin, Sem.run_pure, Result.andThen_ok, NextOk]
 refine Leaves.still ?_ hw
 rw [RepO, hs]
 exact ⟨β, hμ, by simp⟩
theorem run_indexArr {T : TypeId} {n : Nat} (hT : E.tab T = some te) (hk : te.k = .arr n e) (hE : E.tab e = some ee) (b p : Nat) {k : IntKind} {i : Int} (hin : 0 ≤ i ∧ i < n) (w : World) :
  (Instr.indexAt T (.pointer (some ⟨b, p, none⟩)) (.int k i)).run E.P w = .ok (.pointer (some ⟨b, p + i.toNat * ee.size, none⟩)) w := by
 have h := (E.ok T te hT).1
 rw [hk] at h
 simp only [TK.fits] at h
 simp [Instr.indexAt, asIntOf, run_underlying h, Instr.sureAddr, hin, vR (E.ok e ee hE), xN]
theorem Y_indexAddr_loA {T : TypeId} {ix : Operand} {n : Nat} {k : IntKind} {i : Int} {q m : Nat} (hT : E.tab T = some te) (hk : te.k = .arr n e) (hE : E.tab e = some ee) (hx : ev tm x = some (.lo q τ s m p)) (hi : ev tm ix = some (.int k i)) (hin : 0 ≤ i ∧ i < n) : YL E.P V J ⟨dst, .indexAddr T x ix, ty, pos, af, gd⟩ tm σ [] (.lo q τ s m (p + i.toNat * ee.size)) [] := fun σ _ Γ G ρ w _ _ hρ hw => by
 have h1 := hρ x (by simp [Op.operands]) _ hx
 have h2 := vA (hρ ix (by simp [Op.operands]) _ hi)
 rw [RepO] at h1
 obtain ⟨β, hμ, h1⟩ := h1
 simp only [execOp, h1, h2, Sem.run_bind, run_indexArr hT hk hE β.b _ (i := i) (k := k) hin, Sem.run_pure, Result.andThen_ok, NextOk]
 refine Leaves.still ?_ hw
 rw [RepO]
 exact ⟨β, hμ, by rw [Nat.add_assoc]⟩
theorem eR (hy : (match y with | .lo .. => true | .d (.pt ..) => true | .fn .. => true | .d (.fn ..) => true | _ => false) = true) (hx : ev tm x = some y) : YL E.P V J ⟨dst, .nilCheck x, ty, pos, af, gd⟩ tm σ [] y [] := fun σ _ Γ G ρ w _ _ hρ hw => by
 have h1 := hρ x (by simp [Op.operands]) _ hx
 have h2 := h1
 have key : (execOp ρ ⟨dst, .nilCheck x, ty, pos, af, gd⟩).run E.P w = .ok (.value (ρ x)) w := by
  unfold RepO at h2
  split at h2 <;> try (simp at hy; done)
  ·unfold Rep at h2
   split at h2 <;> try (simp at hy; done)
   ·obtain ⟨b, off, h2, _⟩ := h2; simp [execOp, h2]
   ·obtain ⟨b, off, h2, _⟩ := h2; simp [execOp, h2]
  ·obtain ⟨β, _, h2⟩ := h2; simp [execOp, h2]
  ·obtain ⟨b, off, h2, _⟩ := h2; simp [execOp, h2]
 rw [key]
 exact Leaves.still h1 hw
theorem dO {T : TypeId} {row : List TV} {t : TV} (hT : E.tab T = some te) (ha : te.k.isAgg = false) (hx : ev tm x = some (.d (.pt row p))) (ht : row[p]? = some t) :
  YL E.P V J ⟨dst, .load T x, ty, pos, af, gd⟩ tm σ [] (.d t) [] := fun σ _ Γ G ρ w _ _ hρ hw => by
 have h1 := hρ x (by simp [Op.operands]) _ hx
 rw [RepO, Rep] at h1
 obtain ⟨b, off, h1, h2⟩ := h1
 obtain ⟨v, h3, h4⟩ := h2.get ht
 have hc := hw.mem _ _ _ h3
 simp only [execOp, h1, Instr.loadAt, Instr.sureAddr, loadVar, Sem.run_bind, Sem.run_pure, run_isAgg (E.ok T te hT), ha, Result.andThen_ok, Bool.false_eq_true, if_false, run_load, hc, NextOk]
 exact Leaves.still (by rw [RepO]; exact h4) hw
theorem eS {T : TypeId} {row : List TV} (hT : E.tab T = some te) (ha : te.k.isAgg = true) (hx : ev tm x = some (.d (.pt row p))) (hl : p + te.size ≤ row.length) :
  YL E.P V J ⟨dst, .load T x, ty, pos, af, gd⟩ tm σ [] (.ag (((row.drop p).take te.size).map .d)) [] := fun σ _ Γ G ρ w _ _ hρ hw => by
 have h1 := hρ x (by simp [Op.operands]) _ hx
 rw [RepO, Rep] at h1
 obtain ⟨b, off, h1, h2⟩ := h1
 have hget : ∀ j, j < te.size → ∃ v, w.cell? ⟨b, off + p + j, none⟩ = some v ∧ ∃ t, row[p + j]? = some t ∧ Rep G.M t v := fun j hj => by
  obtain ⟨v, h3, h4⟩ := h2.get (List.getElem?_eq_getElem (l := row) (i := p + j) (by omega))
  exact ⟨v, by have := hw.mem _ _ _ h3; rwa [Nat.add_assoc], _, List.getElem?_eq_getElem (by omega), h4⟩
 have hv : ∀ j, j < te.size → w.cell? ((⟨b, off + p, none⟩ : Addr).add j) = some ((w.cell? ⟨b, off + p + j, none⟩).getD undef) := fun j hj => by
  obtain ⟨v, h3, _⟩ := hget j hj
  rw [xN, h3]; rfl
 have hr := run_loadCells (P := E.P) w ⟨b, off + p, none⟩ te.size (fun j => (w.cell? ⟨b, off + p + j, none⟩).getD undef) hv
 simp only [execOp, h1, Instr.loadAt, Instr.sureAddr, loadVar, Sem.run_bind, Sem.run_pure, run_isAgg (E.ok T te hT), ha, Result.andThen_ok, if_true, vR (E.ok T te hT), hr, NextOk]
 refine Leaves.still ?_ hw
 rw [RepO]
 refine ⟨_, rfl, RepOL.of_get (by simp; omega) fun i t v h3 h4 => ?_⟩
 have hi : i < te.size := by
  rcases Nat.lt_or_ge i te.size with h | h
  ·exact h
  ·rw [List.getElem?_eq_none (by simp; omega)] at h4; cases h4
 obtain ⟨u, h5, t', h6, h7⟩ := hget i hi
 have e1 : v = u := by simpa [hi, h5] using h4.symm
 rw [List.getElem?_map, List.getElem?_take, if_pos hi, List.getElem?_drop, h6] at h3
 cases h3
 rw [e1, RepO]; exact h7
theorem dP {T : TypeId} {k : Nat} {i : Nat} {rows : List (List OV)} (hT : E.tab T = some te) (ha : te.k.isAgg = false) (hx : ev tm x = some (.lo k τ s i p)) (hs : σ k = some (τ, ⟨s, rows⟩)) (hr : rows[i]? = some row) (hy : row[p]? = some y) : YL E.P V J ⟨dst, .load T x, ty, pos, af, gd⟩ tm σ [k] y [] := fun σ' hσ Γ G ρ w _ _ hρ hw => by
 have hs := (hσ k (by simp)).trans hs
 have h1 := hρ x (by simp [Op.operands]) _ hx
 rw [RepO] at h1
 obtain ⟨β, hμ, h1⟩ := h1
 obtain ⟨cs, h2, h3, h4, h5⟩ := hw.blk hs hμ
 obtain ⟨v, h6, h7⟩ := (h5 i row hr).2 p y hy
 have hc : w.cell? ⟨β.b, i * s + p, none⟩ = some v := by simpa [World.cell?, h2] using h6
 simp only [execOp, h1, Instr.loadAt, Instr.sureAddr, loadVar, Sem.run_bind, Sem.run_pure, run_isAgg (E.ok T te hT), ha, Result.andThen_ok, Bool.false_eq_true, if_false, run_load, hc, NextOk]
 exact Leaves.still h7 hw
theorem eT {T : TypeId} {k : Nat} {i : Nat} {rows : List (List OV)} (hT : E.tab T = some te) (ha : te.k.isAgg = true) (hx : ev tm x = some (.lo k τ s i p)) (hs : σ k = some (τ, ⟨s, rows⟩)) (hr : rows[i]? = some row) (hl : p + te.size ≤ row.length) : YL E.P V J ⟨dst, .load T x, ty, pos, af, gd⟩ tm σ [k] (.ag ((row.drop p).take te.size)) [] := fun σ' hσ Γ G ρ w _ _ hρ hw => by
 have hs := (hσ k (by simp)).trans hs
 have h1 := hρ x (by simp [Op.operands]) _ hx
 rw [RepO] at h1
 obtain ⟨β, hμ, h1⟩ := h1
 obtain ⟨cs, h2, h3, h4, h5⟩ := hw.blk hs hμ
 have hget : ∀ j, j < te.size → ∃ v, w.cell? ⟨β.b, i * s + p + j, none⟩ = some v ∧ ∃ t, row[p + j]? = some t ∧ RepO G t v := fun j hj => by
  obtain ⟨v, h6, h7⟩ := (h5 i row hr).2 (p + j) _ (List.getElem?_eq_getElem (l := row) (i := p + j) (by omega))
  exact ⟨v, by simpa [World.cell?, h2, Nat.add_assoc] using h6, _, List.getElem?_eq_getElem (by omega), h7⟩
 have hv : ∀ j, j < te.size → w.cell? ((⟨β.b, i * s + p, none⟩ : Addr).add j) = some ((w.cell? ⟨β.b, i * s + p + j, none⟩).getD undef) := fun j hj => by
  obtain ⟨v, h3, _⟩ := hget j hj
  rw [xN, h3]; rfl
 have hr := run_loadCells (P := E.P) w ⟨β.b, i * s + p, none⟩ te.size (fun j => (w.cell? ⟨β.b, i * s + p + j, none⟩).getD undef) hv
 simp only [execOp, h1, Instr.loadAt, Instr.sureAddr, loadVar, Sem.run_bind, Sem.run_pure, run_isAgg (E.ok T te hT), ha, Result.andThen_ok, if_true, vR (E.ok T te hT), hr, NextOk]
 refine Leaves.still ?_ hw
 rw [RepO]
 refine ⟨_, rfl, RepOL.of_get (by simp; omega) fun i t v h3 h4 => ?_⟩
 have hi : i < te.size := by
  rcases Nat.lt_or_ge i te.size with h | h
  ·exact h
  ·rw [List.getElem?_eq_none (by simp; omega)] at h4; cases h4
 obtain ⟨u, h5, t', h6, h7⟩ := hget i hi
 have e1 : v = u := by simpa [hi, h5] using h4.symm
 rw [List.getElem?_take, if_pos hi, List.getElem?_drop, h6] at h3
 cases h3
 rw [e1]; exact h7
end
section
variable {E : Env} {V J : Nat} {ty : TypeId} {pos : String} {af : Array Edge} {gd : Option (Nat × Bool)} {tm : Tm} {σ : Store}
theorem xF (G : Gh) (k V J : Nat) (β : Option Blk) : ∀ k' v' i, v' ≤ V → (v' = V → i ≠ J) → (G.name k (V, J) β).μ k' (v', i) = G.μ k' (v', i) := fun k' v' i _ hi =>
 Gh.name_ne _ _ (fun hh => by have := hh.2; simp only [Prod.mk.injEq] at this; exact hi this.1 this.2)
def consts (vs : List Value) : List OV := vs.map fun v => .d (.c v)
theorem zC (h : vs.all (·.oneCell') = true) : RepOL G (consts vs) vs := RepOL.of_get (by simp [consts]) fun i t v h1 h2 => by
 simp only [consts, List.getElem?_map, h2, Option.map_some, Option.some.injEq] at h1
 subst h1
 exact wE (List.all_eq_true.1 h _ (List.mem_of_getElem? h2))
theorem RowAt.one (h : RepOL G row cs.toList) (hs : row.length = s) : RowAt G cs ⟨s, [row]⟩ := fun i r hi => by
 cases i with
 | succ i => simp at hi
 | zero =>
  simp at hi
  subst hi
  refine ⟨hs, fun o y hy => ?_⟩
  obtain ⟨v, h1, h2⟩ := h.get hy
  exact ⟨v, by simpa using h1, h2⟩
theorem Leaves.alloc {k : Nat} {r : OV} {row : Row} {x : Value} (hw : WRel Γ G σ w) (hv : Γ.N ≤ V) (hf : ∀ k, G.μ k (V, J) = none) (cs : Array Value) (T : TypeId) (hl : row.rows.length * row.s ≤ cs.size) (hr : RowAt G cs row) (hx : RepO (G.name k (V, J) (some ⟨w.heap.size, cs.size, T⟩)) r x) : Leaves Γ G V J r (σ.put k ((V, J), row)) x (w.alloc (.cells cs T)) :=
 ⟨_, Gh.name_le G _ (hf k), xF G k V J _, hx, hw.alloc k hv (hf k) cs T row hl hr⟩
theorem nZ {d : Nat} {T : TypeId} (hT : E.tab T = some te) : YL E.P V J ⟨some d, .alloc T, ty, pos, af, gd⟩ tm σ [] (.lo d (V, J) te.size 0 0) [(d, some ((V, J), ⟨te.size, [consts te.zero]⟩))] :=
 fun σ _ Γ G ρ w hv hf _ hw => by
 obtain ⟨z, hz, hzc⟩ := xK (E.ok T te hT) w
 obtain ⟨_, i, z', _, _, _, _, _, hlen, hone⟩ := E.ok T te hT
 have hr : (execOp ρ ⟨some d, .alloc T, ty, pos, af, gd⟩).run E.P w = .ok (.value (.pointer (some ⟨w.heap.size, 0, none⟩))) (w.alloc (.cells z.cells T)) := by
  simp only [execOp, Instr.alloc, Sem.run_bind, hz, Result.andThen_ok, newVar, newRow, run_newObj, Sem.run_pure]; rfl
 rw [hr]
 have hsz : z.cells.size = te.size := by rw [← Array.length_toList, hzc, hlen]
 refine Leaves.alloc hw hv hf z.cells T (by simp [hsz]) (RowAt.one (by rw [hzc]; exact zC hone) (by simp [consts, hlen])) ?_
 rw [RepO]
 exact ⟨_, Gh.name_self _ _ _ _, by simp⟩
theorem uAK {d : Nat} {T : TypeId} {n : Nat} (hx : ev tm x = some y) (hw' : y.wide = true) (hn : y.cells.length = n) : YL E.P V J ⟨some d, .box T x, ty, pos, af, gd⟩ tm σ [] (.lo d (V, J) n 0 0) [(d, some ((V, J), ⟨n, [y.cells]⟩))] :=
 fun σ _ Γ G ρ w hv hf hρ hw => by
 obtain ⟨h1, h2⟩ := (hρ x (by simp [Op.operands]) _ hx).cells hw'
 have hr : (execOp ρ ⟨some d, .box T x, ty, pos, af, gd⟩).run E.P w = .ok (.value (.pointer (some ⟨w.heap.size, 0, none⟩))) (w.alloc (.cells (ρ x).cells T)) := by
  simp only [execOp, Instr.box, Sem.run_bind, Result.andThen_ok, newVar, newRow, run_newObj, Sem.run_pure]; rfl
 rw [hr]
 refine Leaves.alloc hw hv hf _ T (by have := h1.length; simp at this; simp; omega) (RowAt.one h1 hn) ?_
 rw [RepO]
 exact ⟨_, Gh.name_self _ _ _ _, by simp⟩
def setAt (cs : List OV) (off : Nat) (ys : List OV) : List OV := cs.take off ++ ys ++ cs.drop (off + ys.length)
def fillO (place : Nat → Option (Nat × Nat)) : List OV → List (Nat × OV) → Option (List OV)
 | cs, [] => some cs
 | cs, (i, y) :: rest => match place i with
  | none => none
  | some (off, size) => if y.cells.length = size ∧ off + size ≤ cs.length ∧ y.wide = true then fillO place (setAt cs off y.cells) rest else none
theorem foldl_set (f : List Value) : ∀ (cells : Array Value) (off k : Nat), off + k + f.length ≤ cells.size →
  ((f.zipIdx k).foldl (fun cs (c, j) => cs.setIfInBounds (off + j) c) cells).toList = cells.toList.take (off + k) ++ f ++ cells.toList.drop (off + k + f.length) := by
 induction f with
 | nil => intro cells off k _; simp
 | cons c f ih =>
  intro cells off k h
  simp only [List.zipIdx_cons, List.foldl_cons]
  rw [ih _ off (k + 1) (by simp at h ⊢; omega)]
  simp only [Array.toList_setIfInBounds, List.length_cons]
  simp only [List.length_cons] at h
  have hlt : off + k < cells.toList.length := by simp; omega
  rw [List.take_set, List.drop_set_of_lt (by omega)]
  rw [← Nat.add_assoc]
  have e1 : (cells.toList.take (off + k + 1)).set (off + k) c = cells.toList.take (off + k) ++ [c] := by
   have hm : (cells.toList.take (off + k)).length = off + k := by rw [List.length_take]; omega
   rw [List.take_succ_eq_append_getElem hlt, List.set_append, if_neg (by rw [hm]; omega), hm, Nat.sub_self]
   rfl
  rw [e1]
  simp only [List.append_assoc, List.singleton_append, List.cons_append, List.nil_append]
  congr 3
  congr 1
  omega
theorem fQ {G : Gh} {place : Nat → Option (Nat × Nat)} : ∀ (ps : List (Nat × OV)) (qs : List (Nat × Value)) (cs cs' : List OV) (vs : Array Value),
  fillO place cs ps = some cs' → qs.map (·.1) = ps.map (·.1) → RepOL G (ps.map (·.2)) (qs.map (·.2)) → RepOL G cs vs.toList → (∀ u ∈ vs.toList, u.oneCell' = true) →
  ∃ us, Instr.fill place vs qs = some us ∧ RepOL G cs' us.toList ∧ us.size = vs.size ∧ ∀ u ∈ us.toList, u.oneCell' = true
 | [], [], cs, cs', vs, h, _, _, hc, h1 => by
  rw [fillO] at h; cases h
  exact ⟨vs, rfl, hc, rfl, h1⟩
 | [], _ :: _, _, _, _, _, h, _, _, _ => by simp at h
 | _ :: _, [], _, _, _, _, h, _, _, _ => by simp at h
 | (i, y) :: ps, (i', v) :: qs, cs, cs', vs, h, hi, hp, hc, h1 => by
  simp only [List.map_cons, List.cons.injEq] at hi
  obtain ⟨rfl, hi⟩ := hi
  simp only [List.map_cons] at hp
  rw [RepOL] at hp
  obtain ⟨v', us', e, hy, hp⟩ := hp
  cases e
  rw [fillO] at h
  cases hpl : place i' with
  | none => rw [hpl] at h; cases h
  | some os =>
   obtain ⟨off, size⟩ := os
   rw [hpl] at h
   simp only at h
   split at h
   ·rename_i hcond
    obtain ⟨c1, c2, c3⟩ := hcond
    obtain ⟨k1, k2⟩ := hy.cells c3
    have hl := k1.length
    simp only [Array.length_toList] at hl
    have hlv := hc.length
    simp only [Array.length_toList] at hlv
    have hfold := foldl_set v.cells.toList vs off 0 (by simp; omega)
    simp only [Nat.add_zero] at hfold
    have e1 : (v.cells.zipIdx.foldl (fun cs (c, j) => cs.setIfInBounds (off + j) c) vs).toList = vs.toList.take off ++ v.cells.toList ++ vs.toList.drop (off + v.cells.toList.length) := by
     rw [← hfold, ← Array.foldl_toList, Array.toList_zipIdx]
    have hsz : (v.cells.zipIdx.foldl (fun cs (c, j) => cs.setIfInBounds (off + j) c) vs).size = vs.size := by
     rw [← Array.length_toList, e1]; simp; omega
    obtain ⟨us, h3, h4, h5, h6⟩ := fQ ps qs (setAt cs off y.cells) cs' (v.cells.zipIdx.foldl (fun cs (c, j) => cs.setIfInBounds (off + j) c) vs) h hi hp (by
     rw [e1, setAt]
     have a := hc.sub 0 off
     have b := hc.sub (off + y.cells.length) cs.length
     simp only [List.drop_zero] at a
     rw [List.take_of_length_le (by simp)] at b
     rw [List.take_of_length_le (by simp; omega)] at b
     rw [show v.cells.toList.length = y.cells.length by simp; omega]
     exact (a.append k1).append b) (by
     rw [e1]
     intro u hu
     simp only [List.append_assoc, List.mem_append] at hu
     rcases hu with hu | hu | hu
     ·exact h1 u (List.mem_of_mem_take hu)
     ·exact k2 u hu
     ·exact h1 u (List.mem_of_mem_drop hu))
    refine ⟨us, ?_, h4, by rw [h5, hsz], h6⟩
    have n1 : ¬ v.cells.size ≠ size := by omega
    have n2 : ¬ off + v.cells.size > vs.size := by omega
    simp only [Instr.fill, hpl, n1, n2, decide_false, Bool.or_self, Bool.false_eq_true, if_false]
    exact h3
   ·cases h
def evParts (tm : Tm) : List (Nat × Operand) → Option (List (Nat × OV))
 | [] => some []
 | (i, x) :: ps => match ev tm x, evParts tm ps with
  | some y, some ys => some ((i, y) :: ys)
  | _, _ => none
theorem aR {G : Gh} {ρ : Operand → Value} : ∀ {ps : List (Nat × Operand)} {ys : List (Nat × OV)}, evParts tm ps = some ys → (∀ x ∈ ps.map (·.2), ∀ y, ev tm x = some y → RepO G y (ρ x)) →
  (ps.map fun (i, x) => (i, ρ x)).map (·.1) = ys.map (·.1) ∧ RepOL G (ys.map (·.2)) ((ps.map fun (i, x) => (i, ρ x)).map (·.2))
 | [], ys, h, _ => by rw [evParts] at h; cases h; exact ⟨rfl, by simp [RepOL]⟩
 | (i, x) :: ps, ys, h, hr => by
  rw [evParts] at h
  cases h1 : ev tm x with
  | none => rw [h1] at h; cases h
  | some y =>
   cases h2 : evParts tm ps with
   | none => rw [h1, h2] at h; cases h
   | some zs =>
    rw [h1, h2] at h
    cases h
    obtain ⟨e1, e2⟩ := aR h2 fun x hx => hr x (by simp at hx ⊢; exact Or.inr hx)
    refine ⟨by simp only [List.map_cons]; rw [e1], ?_⟩
    simp only [List.map_cons]
    rw [RepOL]
    exact ⟨_, _, rfl, hr x (by simp) y h1, e2⟩
theorem mapM_places {fl : List Field} (sz : TypeId → Nat) (h : ∀ f ∈ fl, (sizeOf f.type).run P w = .ok (sz f.type) w) :
  ((fl.mapM fun f => do pure (f.offset, ← sizeOf f.type) : Sem (List (Nat × Nat)))).run P w = .ok (fl.map fun f => (f.offset, sz f.type)) w := by
 induction fl with
 | nil => simp
 | cons f fl ih =>
  have h0 := h f (by simp)
  have ih := ih fun g hg => h g (by simp [hg])
  simp only [List.mapM_cons, Sem.run_bind, h0, Result.andThen_ok, Sem.run_pure, ih, List.map_cons]
def sizeT (E : Env) (T : TypeId) : Nat := ((E.tab T).map (·.size)).getD 0
theorem nY {d : Option Nat} {T : TypeId} {cs : List OV} (hT : E.tab T = some te) (hk : te.k = .st fs) (hfs : (fs.all fun f => (E.tab f.2).isSome) = true) (hp : evParts tm parts = some ys) (hc : fillO (fun i => (fs[i]?).map fun f : Nat × TypeId => (f.1, sizeT E f.2)) (consts te.zero) ys = some cs) : YL E.P V J ⟨d, .build T parts.toArray, ty, pos, af, gd⟩ tm σ [] (.ag cs) [] :=
 fun σ _ Γ G ρ w hv hf hρ hw => by
 obtain ⟨z, hz, hzc⟩ := xK (E.ok T te hT) w
 obtain ⟨hkk, i, z', _, _, _, _, _, hlen, hone⟩ := E.ok T te hT
 rw [hk] at hkk
 obtain ⟨fl, h3, h4⟩ := hkk
 obtain ⟨e1, e2⟩ := aR hp fun x hx => hρ x (by simpa [Op.operands] using hx)
 have hsz : ∀ f ∈ fl.toList, (sizeOf f.type).run E.P w = .ok (sizeT E f.type) w := fun f hf' => by
  have : (f.offset, f.type) ∈ fs := by rw [← h4]; exact List.mem_map.2 ⟨f, hf', rfl⟩
  have := List.all_eq_true.1 hfs _ this
  obtain ⟨fe, he⟩ := Option.isSome_iff_exists.1 this
  rw [vR (E.ok _ fe he)]
  simp [sizeT, he]
 have hpl := mapM_places (sizeT E) hsz
 have hplace : (fun i : Nat => (fs[i]?).map fun f : Nat × TypeId => (f.1, sizeT E f.2)) = fun i => (fl.toList.map fun f => (f.offset, sizeT E f.type))[i]? := by
  funext i; rw [← h4]; simp; rfl
 rw [hplace] at hc
 obtain ⟨us, h5, h6, h7, h8⟩ := fQ ys (parts.map fun (i, x) => (i, ρ x)) (consts te.zero) cs z.cells hc e1 e2 (by rw [hzc]; exact zC hone) (by rw [hzc]; exact List.all_eq_true.1 hone)
 have hr : (execOp ρ ⟨d, .build T parts.toArray, ty, pos, af, gd⟩).run E.P w = .ok (.value (.agg us)) w := by
  have hmm : (fl.mapM fun f => do pure (f.offset, ← sizeOf f.type) : Sem (Array (Nat × Nat))).run E.P w = .ok (fl.toList.map fun f => (f.offset, sizeT E f.type)).toArray w := by
   rw [Array.mapM_eq_mapM_toList]
   simp only [Sem.run_map, hpl, Result.andThen_ok]
  have hget : (fun i : Nat => ((fl.toList.map fun f => (f.offset, sizeT E f.type)).toArray)[i]?) = fun i => (fl.toList.map fun f => (f.offset, sizeT E f.type))[i]? := by
   funext i; simp
  simp only [execOp, Instr.build, Sem.run_bind, hz, Result.andThen_ok, run_underlying h3, hmm, List.map_toArray, hget, h5, Sem.run_pure]
 rw [hr]
 refine Leaves.still ?_ hw
 rw [RepO]
 exact ⟨us, rfl, h6⟩
theorem Y_buildA {d : Option Nat} {T : TypeId} {n : Nat} {cs : List OV} (hT : E.tab T = some te) (hk : te.k = .arr n e) (hE : E.tab e = some ee) (hp : evParts tm parts = some ys) (hc : fillO (fun i => some (i * ee.size, ee.size)) (consts te.zero) ys = some cs) : YL E.P V J ⟨d, .build T parts.toArray, ty, pos, af, gd⟩ tm σ [] (.ag cs) [] :=
 fun σ _ Γ G ρ w hv hf hρ hw => by
 obtain ⟨z, hz, hzc⟩ := xK (E.ok T te hT) w
 obtain ⟨hkk, i, z', _, _, _, _, _, hlen, hone⟩ := E.ok T te hT
 rw [hk] at hkk
 simp only [TK.fits] at hkk
 obtain ⟨e1, e2⟩ := aR hp fun x hx => hρ x (by simpa [Op.operands] using hx)
 obtain ⟨us, h5, h6, h7, h8⟩ := fQ ys (parts.map fun (i, x) => (i, ρ x)) (consts te.zero) cs z.cells hc e1 e2 (by rw [hzc]; exact zC hone) (by rw [hzc]; exact List.all_eq_true.1 hone)
 have hr : (execOp ρ ⟨d, .build T parts.toArray, ty, pos, af, gd⟩).run E.P w = .ok (.value (.agg us)) w := by
  simp only [execOp, Instr.build, Sem.run_bind, hz, Result.andThen_ok, run_underlying hkk, vR (E.ok e ee hE), List.map_toArray, h5, Sem.run_pure]
 rw [hr]
 refine Leaves.still ?_ hw
 rw [RepO]
 exact ⟨us, rfl, h6⟩
def chop (s : Nat) : Nat → List OV → List (List OV)
 | 0, _ => []
 | n + 1, cs => cs.take s :: chop s n (cs.drop s)
theorem aS (s : Nat) : ∀ (n : Nat) (cs : List OV), (chop s n cs).length = n
 | 0, _ => rfl
 | n + 1, cs => by simp [chop, aS s n]
theorem pS (s : Nat) : ∀ (n i : Nat) (cs : List OV), i < n → (chop s n cs)[i]? = some ((cs.drop (i * s)).take s)
 | 0, _, _, h => by omega
 | n + 1, 0, cs, _ => by simp [chop]
 | n + 1, i + 1, cs, h => by
  simp only [chop, List.getElem?_cons_succ]
  rw [pS s n i (cs.drop s) (by omega), List.drop_drop]
  congr 3
  rw [Nat.add_mul]; omega
theorem RowAt.chop {n : Nat} {cs : List OV} {vs : Array Value} (h : RepOL G cs vs.toList) (hl : cs.length = n * s) : RowAt G vs ⟨s, chop s n cs⟩ := fun i row hi => by
 have hin : i < n := by
  rcases Nat.lt_or_ge i n with hh | hh
  ·exact hh
  ·rw [show (Row.rows ⟨s, Go.Proofs.YtjogffchdejabaaGreatDoor.chop s n cs⟩) = Go.Proofs.YtjogffchdejabaaGreatDoor.chop s n cs from rfl, List.getElem?_eq_none (by rw [aS]; exact hh)] at hi; cases hi
 rw [show (Row.rows ⟨s, Go.Proofs.YtjogffchdejabaaGreatDoor.chop s n cs⟩) = Go.Proofs.YtjogffchdejabaaGreatDoor.chop s n cs from rfl, pS s n i cs hin] at hi
 cases hi
 have hb : i * s + s ≤ n * s := by rw [← Nat.succ_mul]; exact Nat.mul_le_mul_right s hin
 refine ⟨by simp; omega, fun o y hy => ?_⟩
 rw [List.getElem?_take] at hy
 split at hy
 ·rw [List.getElem?_drop] at hy
  obtain ⟨v, h1, h2⟩ := h.get hy
  exact ⟨v, by simpa using h1, h2⟩
 ·cases hy
theorem fZ {d : Nat} {T : TypeId} {n : Nat} {cs : List OV} (hT : E.tab T = some te) (hk : te.k = .slice e) (hE : E.tab e = some ee) (hpos : 0 < ee.size) (hn : n * ee.size ≤ 16777216) (hn' : n ≤ maxLen) (hp : evParts tm parts = some ys) (hc : fillO (fun i => some (i * ee.size, ee.size)) ((List.replicate n (consts ee.zero)).flatten) ys = some cs) :
  YL E.P V J ⟨some d, .buildSlice T n parts.toArray, ty, pos, af, gd⟩ tm σ [] (.os d (V, J) ee.size n) [(d, some ((V, J), ⟨ee.size, chop ee.size n cs⟩))] :=
 fun σ _ Γ G ρ w hv hf hρ hw => by
 obtain ⟨z, hz, hzc⟩ := xK (E.ok e ee hE) w
 obtain ⟨_, i, z', _, _, _, _, _, hlen, hone⟩ := E.ok e ee hE
 have hkk := (E.ok T te hT).1
 rw [hk] at hkk
 simp only [TK.fits] at hkk
 obtain ⟨e1, e2⟩ := aR hp fun x hx => hρ x (by simpa [Op.operands] using hx)
 -- the zero cells
 have hzs : z.cells.size = ee.size := by rw [← Array.length_toList, hzc, hlen]
 have hflat : ∀ m, ((Array.range (m * ee.size)).map (z.cells[· % z.cells.size]!)).toList = (List.replicate m ee.zero).flatten := fun m => by
  apply List.ext_getElem?
  intro q
  have hL : (List.replicate m ee.zero).flatten.length = m * ee.size := by simp [hlen]
  by_cases hq : q < m * ee.size
  ·have hqs : q % ee.size < ee.size := Nat.mod_lt _ hpos
   have h1 : ((List.replicate m ee.zero).flatten)[q]? = ee.zero[q % ee.size]? := by
    clear hL
    induction m generalizing q with
    | zero => omega
    | succ m ih =>
     rw [List.replicate_succ, List.flatten_cons]
     by_cases hq0 : q < ee.size
     ·rw [List.getElem?_append_left (by omega), Nat.mod_eq_of_lt hq0]
     ·rw [List.getElem?_append_right (by omega), hlen, ih (q - ee.size) (by rw [Nat.succ_mul] at hq; omega) (Nat.mod_lt _ hpos)]
      rw [← Nat.mod_eq_sub_mod (by omega)]
   rw [h1, ← hzc]
   simp only [Array.toList_map, Array.toList_range, List.getElem?_map, List.getElem?_range hq, Option.map_some, hzs]
   rw [getElem!_pos z.cells (q % ee.size) (by omega)]
   simp
  ·rw [List.getElem?_eq_none (by simp; omega), List.getElem?_eq_none (by omega)]
 have hreps : ∀ m, RepOL G ((List.replicate m (consts ee.zero)).flatten) ((List.replicate m ee.zero).flatten) := fun m => by
  induction m with
  | zero => simp [RepOL]
  | succ m ih => rw [List.replicate_succ, List.replicate_succ, List.flatten_cons, List.flatten_cons]; exact (zC hone).append ih
 obtain ⟨us, h5, h6, h7, h8⟩ := fQ ys (parts.map fun (i, x) => (i, ρ x)) _ cs ((Array.range (n * ee.size)).map (z.cells[· % z.cells.size]!)) hc e1 e2 (by rw [hflat]; exact hreps n) (by
  rw [hflat]; intro u hu
  obtain ⟨l, hl, hu⟩ := List.mem_flatten.1 hu
  rw [(List.mem_replicate.1 hl).2] at hu
  exact List.all_eq_true.1 hone u hu)
 have hus : us.size = n * ee.size := by rw [h7]; simp
 have hcl : cs.length = n * ee.size := by have := h6.length; simp at this; omega
 have hr : (execOp ρ ⟨some d, .buildSlice T n parts.toArray, ty, pos, af, gd⟩).run E.P w = .ok (.value (.slice (some ⟨w.heap.size, 0, none⟩) n n)) (w.alloc (.cells us e)) := by
  have n1 : ¬ n * ee.size > 2 ^ 24 := by omega
  by_cases hz0 : n * ee.size = 0
  ·have hn0 : n = 0 := by rcases Nat.mul_eq_zero.1 hz0 with h | h <;> omega
   subst hn0
   have e0 : (Array.range (0 * ee.size)).map (z.cells[· % z.cells.size]!) = #[] := by simp [Array.range_zero']
   rw [e0] at h5
   have n0 : ¬ (0 : Nat) > 2 ^ 24 := by decide
   simp only [execOp, Instr.buildSlice, Sem.run_bind, run_underlying hkk, vR (E.ok e ee hE), Result.andThen_ok, Nat.zero_mul, n0, if_false, Sem.run_ite, Sem.run_pure, if_true, newRow, run_newObj, Array.range_zero', Array.map_empty, List.map_toArray]
   have h5' : Instr.fill (fun i => some (i * ee.size, ee.size)) #[] (List.map (fun x => (x.1, ρ x.2)) parts) = some us := h5
   simp only [List.map_nil, h5', Sem.run_bind, Result.andThen_ok, run_newObj, Sem.run_pure]
   rfl
  ·simp only [execOp, Instr.buildSlice, Sem.run_bind, run_underlying hkk, vR (E.ok e ee hE), Result.andThen_ok, n1, if_false, Sem.run_pure, hz0, hz, newRow, run_newObj, List.map_toArray, h5, Sem.run_ite]
   rfl
 rw [hr]
 refine Leaves.alloc hw hv hf us e (by simp [aS, hus]) (RowAt.chop h6 hcl) ?_
 rw [RepO]
 exact Or.inl ⟨_, n, Gh.name_self _ _ _ _, rfl, Nat.le_refl _, hus, hn'⟩
end
section
variable {E : Env} {V J : Nat} {ty : TypeId} {pos : String} {af : Array Edge} {gd : Option (Nat × Bool)} {tm : Tm} {σ : Store}
theorem RowAt.upd {cs' : Array Value} {i : Nat} {rows : List (List OV)} {ys : List OV} (h : RowAt G cs ⟨s, rows⟩) (hr : rows[i]? = some row) (hv : RepOL G ys vs) (hp : p + ys.length ≤ row.length) (hc : ∀ q, cs'[q]? = if i * s + p ≤ q ∧ q < i * s + p + vs.length then vs[q - (i * s + p)]? else cs[q]?) : RowAt G cs' ⟨s, rows.set i (setAt row p ys)⟩ := fun i' row' hi' => by
 simp only [List.getElem?_set] at hi'
 have hlen := (h i row hr).1
 simp only at hlen
 have hvl := hv.length
 by_cases e : i = i'
 ·subst e
  have hlt : i < rows.length := by
   rcases Nat.lt_or_ge i rows.length with hh | hh
   ·exact hh
   ·rw [List.getElem?_eq_none hh] at hr; cases hr
  simp only [if_true, hlt] at hi'
  cases hi'
  refine ⟨by simp [setAt]; omega, fun o y hy => ?_⟩
  simp only at *
  rw [hc]
  by_cases hin : p ≤ o ∧ o < p + ys.length
  ·rw [if_pos (by omega)]
   have e1 : (setAt row p ys)[o]? = ys[o - p]? := by
    unfold setAt
    rw [List.append_assoc, List.getElem?_append_right (by simp; omega), List.getElem?_append_left (by simp; omega)]
    simp; congr 1; omega
   rw [e1] at hy
   obtain ⟨v, h1, h2⟩ := hv.get hy
   exact ⟨v, by rw [← h1]; congr 1; omega, h2⟩
  ·rw [if_neg (by omega)]
   have e1 : (setAt row p ys)[o]? = row[o]? := by
    unfold setAt
    rw [List.append_assoc]
    by_cases ho : o < p
    ·rw [List.getElem?_append_left (by simp; omega), List.getElem?_take, if_pos ho]
    ·rw [List.getElem?_append_right (by simp; omega), List.getElem?_append_right (by simp; omega), List.getElem?_drop]
     congr 1
     simp; omega
   rw [e1] at hy
   exact (h i row hr).2 o y hy
 ·rw [if_neg e] at hi'
  have hl' := (h i' row' hi').1
  refine ⟨hl', fun o y hy => ?_⟩
  simp only at *
  have ho : o < s := by
   rcases Nat.lt_or_ge o row'.length with hh | hh
   ·omega
   ·rw [List.getElem?_eq_none hh] at hy; cases hy
  rw [hc, if_neg]
  ·exact (h i' row' hi').2 o y hy
  ·rintro ⟨h1, h2⟩
   rcases Nat.lt_or_gt_of_ne e with hh | hh
   ·have : (i + 1) * s ≤ i' * s := Nat.mul_le_mul_right s hh
    rw [Nat.succ_mul] at this; omega
   ·have : (i' + 1) * s ≤ i * s := Nat.mul_le_mul_right s hh
    rw [Nat.succ_mul] at this; omega
theorem run_storeVar {T : TypeId} (h : te.fits P T) {v : Value} {b : Nat} {t : TypeId} (hg : w.heap[b]? = some (.cells cs t (0, 0))) (hs : v.cells.size = te.size) (h1 : ∀ u ∈ v.cells.toList, u.oneCell' = true) (hl : o + te.size ≤ cs.size) : (storeVar T ⟨b, o, none⟩ v).run P w = .ok () (w.setRow b (cs.toList.take o ++ v.cells.toList ++ cs.toList.drop (o + te.size)).toArray) := by
 have hst := run_storeCells_at P b o t v.cells.toList 0 cs w hg (by simp; omega) h1
 simp only [Nat.add_zero, Array.length_toList, hs] at hst
 have n1 : ¬ v.cells.size ≠ te.size := by omega
 simp only [storeVar, Sem.run_bind, vR h, Result.andThen_ok, n1, if_false, hst]
theorem splice_get (cs vs : List Value) (o : Nat) (ho : o + vs.length ≤ cs.length) (q : Nat) : (cs.take o ++ vs ++ cs.drop (o + vs.length)).toArray[q]? = if o ≤ q ∧ q < o + vs.length then vs[q - o]? else cs[q]? := by
 simp only [List.getElem?_toArray, List.append_assoc]
 by_cases h1 : q < o
 ·rw [List.getElem?_append_left (by simp; omega), List.getElem?_take, if_pos h1, if_neg (by omega)]
 ·rw [List.getElem?_append_right (by simp; omega)]
  have e : (cs.take o).length = o := by simp; omega
  rw [e]
  by_cases h2 : q < o + vs.length
  ·rw [List.getElem?_append_left (by omega), if_pos ⟨by omega, h2⟩]
  ·rw [List.getElem?_append_right (by omega), if_neg (by omega), List.getElem?_drop]
   congr 1; omega
theorem iX {d : Option Nat} {T : TypeId} {z : Operand} {k : Nat} {i : Nat} {rows : List (List OV)} (hT : E.tab T = some te) (hx : ev tm x = some (.lo k τ s i p)) (hz : ev tm z = some y) (hw' : y.wide = true) (hn : y.cells.length = te.size) (hs : σ k = some (τ, ⟨s, rows⟩)) (hr : rows[i]? = some row) (hp : p + te.size ≤ row.length) : YL E.P V J ⟨d, .store T x z, ty, pos, af, gd⟩ tm σ [k] .un [(k, some (τ, ⟨s, rows.set i (setAt row p y.cells)⟩))] :=
 fun σ' hσ Γ G ρ w hv hf hρ hw => by
 have hs := (hσ k (by simp)).trans hs
 have h1 := hρ x (by simp [Op.operands]) _ hx
 obtain ⟨h2, h3⟩ := (hρ z (by simp [Op.operands]) _ hz).cells hw'
 rw [RepO] at h1
 obtain ⟨β, hμ, h1⟩ := h1
 obtain ⟨cs, g1, g2, g3, g4⟩ := hw.blk hs hμ
 have hlen := (g4 i row hr).1
 simp only at hlen g3
 have hlt : i < rows.length := by
  rcases Nat.lt_or_ge i rows.length with hh | hh
  ·exact hh
  ·rw [List.getElem?_eq_none hh] at hr; cases hr
 have hb : (i + 1) * s ≤ rows.length * s := Nat.mul_le_mul_right s hlt
 rw [Nat.succ_mul] at hb
 have hvs : (ρ z).cells.size = te.size := by have := h2.length; simp at this; omega
 have hst := run_storeVar (E.ok T te hT) (v := ρ z) (o := i * s + p) g1 hvs h3 (by omega)
 have hr' : (execOp ρ ⟨d, .store T x z, ty, pos, af, gd⟩).run E.P w = .ok .skip (w.setRow β.b (cs.toList.take (i * s + p) ++ (ρ z).cells.toList ++ cs.toList.drop (i * s + p + te.size)).toArray) := by
  simp only [execOp, h1, Instr.storeAt, Instr.sureAddr, Sem.run_bind, Sem.run_pure, Result.andThen_ok, hst]
 rw [hr']
 refine ⟨G, .refl G, fun _ _ _ _ _ => rfl, by rw [RepO], ?_⟩
 have hl' : (ρ z).cells.toList.length = te.size := by simpa using hvs
 refine hw.put hs hμ (by simp) rfl rfl rfl (fun b _ hb => setRow_other w β.b b _ hb) ⟨_, setRow_heap w β.b cs _ β.T _ g1, ?_, by simpa using g3, ?_⟩
 ·simp only [List.size_toArray, List.length_append, List.length_take, List.length_drop, Array.length_toList]
  omega
 ·refine g4.upd hr h2 (by omega) fun q => ?_
  have := splice_get cs.toList (ρ z).cells.toList (i * s + p) (by simp; omega) q
  rw [hl'] at this
  rw [this, hl']
  simp
theorem run_sliceBounds {lo hi : Option Value} {l h len cap : Nat} (hl : (lo = none ∧ l = 0) ∨ ∃ k i, lo = some (.int k i) ∧ 0 ≤ i ∧ i.toNat = l) (hh : (hi = none ∧ h = len) ∨ ∃ k i, hi = some (.int k i) ∧ 0 ≤ i ∧ i.toNat = h) (h1 : l ≤ h) (h2 : h ≤ cap) : (Instr.sliceBounds true len cap lo hi none).run P w = .ok (l, h, cap) w := by
 rcases hl with ⟨rfl, rfl⟩ | ⟨k, i, rfl, i1, rfl⟩ <;> rcases hh with ⟨rfl, rfl⟩ | ⟨k', i', rfl, j1, rfl⟩
 ·simp [Instr.sliceBounds]
 ·simp only [Instr.sliceBounds, Instr.sliceBound, asIntOf, Sem.run_bind, Sem.run_pure, Result.andThen_ok]
  rw [if_pos (by omega)]; simp
 ·simp only [Instr.sliceBounds, Instr.sliceBound, asIntOf, Sem.run_bind, Sem.run_pure, Result.andThen_ok]
  rw [if_pos (by omega)]; simp
 ·simp only [Instr.sliceBounds, Instr.sliceBound, asIntOf, Sem.run_bind, Sem.run_pure, Result.andThen_ok]
  rw [if_pos (by omega)]
  simp only [Sem.run_pure, Result.andThen_ok]
  rw [if_pos (by omega)]; simp
def Bnd (tm : Tm) (x : Option Operand) (d n : Nat) : Prop :=
 match x with
 | none => n = d
 | some x => ∃ k i, ev tm x = some (.int k i) ∧ 0 ≤ i ∧ i.toNat = n
theorem Bnd.run {x : Option Operand} {d n : Nat} (h : Bnd tm x d n) (hr : ∀ z ∈ x.toArray, ∀ y, ev tm z = some y → RepO G y (ρ z)) : (x.map ρ = none ∧ n = d) ∨ ∃ k i, x.map ρ = some (.int k i) ∧ 0 ≤ i ∧ i.toNat = n := by
 cases x with
 | none => exact Or.inl ⟨rfl, h⟩
 | some x =>
  obtain ⟨k, i, h1, h2, h3⟩ := h
  exact Or.inr ⟨k, i, by rw [Option.map_some, vA (hr x (by simp) _ h1)], h2, h3⟩
theorem cA {T : TypeId} (hT : E.tab T = some te) (hk : te.k = .slice e) (hE : E.tab e = some ee) {a : Option Addr} {len cap l h : Nat} {lo hi : Option Value} (hl : (lo = none ∧ l = 0) ∨ ∃ k i, lo = some (.int k i) ∧ 0 ≤ i ∧ i.toNat = l) (hh : (hi = none ∧ h = len) ∨ ∃ k i, hi = some (.int k i) ∧ 0 ≤ i ∧ i.toNat = h) (h1 : l ≤ h) (h2 : h ≤ cap) :
  (Instr.sliceAt T (.slice a len cap) lo hi none).run E.P w = .ok (.slice (if cap = l then a else a.map (·.add (l * ee.size))) (h - l) (cap - l)) w := by
 have ht := (E.ok T te hT).1
 rw [hk] at ht
 simp only [TK.fits] at ht
 have hb := run_sliceBounds (P := E.P) (w := w) hl hh h1 h2
 simp only [Instr.sliceAt, Sem.run_bind, run_underlying ht, Result.andThen_ok, Instr.slice, hb, vR (E.ok e ee hE), Sem.run_pure]
theorem Y_slice_sl {d : Option Nat} {T : TypeId} {lo hi : Option Operand} {l h : Nat} {rows : List (List TV)} (hT : E.tab T = some te) (hk : te.k = .slice e) (hE : E.tab e = some ee) (hs : ee.size = s) (hx : ev tm x = some (.d (.sl s rows))) (hlo : Bnd tm lo 0 l) (hhi : Bnd tm hi rows.length h) (h1 : l ≤ h) (h2 : h ≤ rows.length) :
  YL E.P V J ⟨d, .slice T x lo hi none, ty, pos, af, gd⟩ tm σ [] (.d (.sl s ((rows.drop l).take (h - l)))) [] := fun σ _ Γ G ρ w hv hf hρ hw => by
 have hx1 := hρ x (by simp [Op.operands]) _ hx
 rw [RepO, Rep] at hx1
 obtain ⟨a, c, hx1, h3, h4⟩ := hx1
 have hr := cA (E := E) (w := w) hT hk hE (a := a) (len := rows.length) (cap := c) (hlo.run fun z hz => hρ z (by simp [Op.operands]; simp at hz; simp [hz])) (hhi.run fun z hz => hρ z (by simp [Op.operands]; simp at hz; simp [hz])) h1 (by omega)
 simp only [execOp, hx1, Option.map_none, Sem.run_bind, hr, Result.andThen_ok, Sem.run_pure, NextOk]
 refine Leaves.still ?_ hw
 rw [RepO, Rep]
 have hl' : ((rows.drop l).take (h - l)).length = h - l := by simp; omega
 refine ⟨_, c - l, by rw [hl'], by omega, ?_⟩
 by_cases e0 : h - l = 0
 ·exact Or.inl (List.eq_nil_of_length_eq_zero (by omega))
 ·right
  rcases h4 with h4 | ⟨b, off, rfl, h4⟩
  ·subst h4; simp at h2; omega
  ·rw [if_neg (by omega)]
   refine ⟨b, off + l * s, by simp [xN, hs], RepR.of_get fun i r hi' => ?_⟩
   rw [List.getElem?_take] at hi'
   split at hi'
   ·rw [List.getElem?_drop] at hi'
    have := h4.get hi'
    rwa [Nat.add_mul, ← Nat.add_assoc] at this
   ·cases hi'
theorem kW {d : Option Nat} {T : TypeId} {lo hi : Option Operand} {k n l h : Nat} (hT : E.tab T = some te) (hk : te.k = .slice e) (hE : E.tab e = some ee) (hs : ee.size = s) (hx : ev tm x = some (.os k τ s n)) (hlo : Bnd tm lo 0 l) (hhi : Bnd tm hi n h) (h1 : l ≤ h) (h2 : h ≤ n) :
  YL E.P V J ⟨d, .slice T x lo hi none, ty, pos, af, gd⟩ tm σ [] (.vw k τ s l (h - l)) [] := fun σ _ Γ G ρ w hv hf hρ hw => by
 have hx1 := hρ x (by simp [Op.operands]) _ hx
 rw [RepO] at hx1
 rcases hx1 with ⟨β, c, hμ, hx1, h3, h4, h5⟩ | ⟨hμ, hx1, hn⟩
 ·have hr := cA (E := E) (w := w) hT hk hE (a := some ⟨β.b, 0, none⟩) (len := n) (cap := c) (hlo.run fun z hz => hρ z (by simp [Op.operands]; simp at hz; simp [hz])) (hhi.run fun z hz => hρ z (by simp [Op.operands]; simp at hz; simp [hz])) h1 (by omega)
  simp only [execOp, hx1, Option.map_none, Sem.run_bind, hr, Result.andThen_ok, Sem.run_pure, NextOk]
  refine Leaves.still ?_ hw
  rw [RepO]
  refine ⟨_, c - l, rfl, by omega, ?_⟩
  by_cases e0 : h - l = 0
  ·exact Or.inl e0
  ·right
   rw [if_neg (by omega)]
   exact ⟨β, hμ, by simp [xN, hs]⟩
 ·subst hn
  have hr := cA (E := E) (w := w) hT hk hE (a := none) (len := 0) (cap := 0) (hlo.run fun z hz => hρ z (by simp [Op.operands]; simp at hz; simp [hz])) (hhi.run fun z hz => hρ z (by simp [Op.operands]; simp at hz; simp [hz])) h1 (by omega)
  simp only [execOp, hx1, Option.map_none, Sem.run_bind, hr, Result.andThen_ok, Sem.run_pure, NextOk]
  refine Leaves.still ?_ hw
  rw [RepO]
  exact ⟨_, _, rfl, by omega, Or.inl (by omega)⟩
theorem run_len {T : TypeId} (hT : E.tab T = some te) (hk : te.k = .slice e) (a : Option Addr) (n c : Nat) (ty : TypeId) : (Builtin.len_ #[T] ty #[.slice a n c]).run E.P w = .ok (.int .i64 n) w := by
 have ht := (E.ok T te hT).1
 rw [hk] at ht
 simp only [TK.fits] at ht
 simp [Builtin.len_, run_underlying ht, goInt]
theorem uBG {d : Option Nat} {T : TypeId} {n : Nat} (hT : E.tab T = some te) (hk : te.k = .slice e) (hx : ev tm x = some y) (hn : ∀ (G : Gh) (u : Value), RepO G y u → ∃ a c, u = .slice a n c) : YL E.P V J ⟨d, .call { callee := .builtin .len, args := #[x], argTypes := #[T] }, ty, pos, af, gd⟩ tm σ [] (.int .i64 n) [] := fun σ _ Γ G ρ w hv hf hρ hw => by
 obtain ⟨a, c, h1⟩ := hn G _ (hρ x (by simp [Op.operands, Call.operands]) _ hx)
 have hr : (execOp ρ ⟨d, .call { callee := .builtin .len, args := #[x], argTypes := #[T] }, ty, pos, af, gd⟩).run E.P w = .ok (.value (.int .i64 n)) w := by
  simp only [execOp, resolve, List.map_toArray, List.map_cons, List.map_nil, h1, Sem.run_bind, Sem.run_pure, Result.andThen_ok, invoke, builtin, run_len hT hk]
 rw [hr]
 exact Leaves.still (wE rfl) hw
theorem qL (s : Nat) (rows : List (List TV)) (G : Gh) (u : Value) (h : RepO G (.d (.sl s rows)) u) : ∃ a c, u = .slice a rows.length c := by rw [RepO, Rep] at h; exact let ⟨a, c, h, _⟩ := h; ⟨a, c, h⟩
theorem tI (k : Nat) (τ : Stamp) (s n : Nat) (G : Gh) (u : Value) (h : RepO G (.os k τ s n) u) : ∃ a c, u = .slice a n c := by
 rw [RepO] at h
 rcases h with ⟨β, c, _, h, _⟩ | ⟨_, h, h'⟩
 ·exact ⟨_, c, h⟩
 ·exact ⟨none, 0, by rw [h']; exact h⟩
theorem uBF {d : Option Nat} {T : TypeId} {y : Operand} {k : IntKind} {a : Int} (hx : ev tm x = some (.int k a)) (hy : ev tm y = some (.int k b)) :
  YL E.P V J ⟨d, .call { callee := .builtin .min, args := #[x, y], argTypes := #[T, T'] }, ty, pos, af, gd⟩ tm σ [] (.int k (if b < a then b else a)) [] := fun σ _ Γ G ρ w hv hf hρ hw => by
 have h1 := vA (hρ x (by simp [Op.operands, Call.operands]) _ hx)
 have h2 := vA (hρ y (by simp [Op.operands, Call.operands]) _ hy)
 have hr : (execOp ρ ⟨d, .call { callee := .builtin .min, args := #[x, y], argTypes := #[T, T'] }, ty, pos, af, gd⟩).run E.P w = .ok (.value (.int k (if b < a then b else a))) w := by
  simp [execOp, resolve, h1, h2, invoke, builtin, Builtin.min_, Builtin.min2]
 rw [hr]
 exact Leaves.still (wE rfl) hw
def evs (tm : Tm) : List Operand → Option (List OV)
 | [] => some []
 | x :: xs => match ev tm x, evs tm xs with
  | some y, some ys => some (y :: ys)
  | _, _ => none
theorem bW {G : Gh} {ρ : Operand → Value} : ∀ {xs : List Operand} {ys : List OV}, evs tm xs = some ys → (∀ x ∈ xs, ∀ y, ev tm x = some y → RepO G y (ρ x)) → RepOL G ys (xs.map ρ)
 | [], ys, h, _ => by rw [evs] at h; cases h; simp [RepOL]
 | x :: xs, ys, h, hr => by
  rw [evs] at h
  cases h1 : ev tm x with
  | none => rw [h1] at h; cases h
  | some y =>
   cases h2 : evs tm xs with
   | none => rw [h1, h2] at h; cases h
   | some zs =>
    rw [h1, h2] at h
    cases h
    simp only [List.map_cons]
    rw [RepOL]
    exact ⟨_, _, rfl, hr x (by simp) y h1, bW h2 fun x hx => hr x (by simp [hx])⟩
theorem Y_makeFunc {d : Option Nat} {f : FuncId} {fi ca : List Operand} {fs cs : List OV} (h1 : evs tm fi = some fs) (h2 : evs tm ca = some cs) : YL E.P V J ⟨d, .makeFunc (.func f) fi.toArray ca.toArray, ty, pos, af, gd⟩ tm σ [] (.fn f fs cs) [] := fun σ _ Γ G ρ w hv hf hρ hw => by
 have e1 := bW h1 fun x hx => hρ x (by simp [Op.operands, hx])
 have e2 := bW h2 fun x hx => hρ x (by simp [Op.operands, hx])
 have hr : (execOp ρ ⟨d, .makeFunc (.func f) fi.toArray ca.toArray, ty, pos, af, gd⟩).run E.P w = .ok (.value (.func (.func f) (fi.map ρ).toArray (ca.map ρ).toArray)) w := by
  simp [execOp, Instr.makeFunc]
 rw [hr]
 refine Leaves.still ?_ hw
 rw [RepO]
 exact ⟨_, _, rfl, e1, e2⟩
theorem iE {d : Nat} {T : TypeId} {y : Operand} {k k' : IntKind} {n : Int} (hT : E.tab T = some te) (hk : te.k = .slice e) (hE : E.tab e = some ee) (hpos : 0 < ee.size) (hx : ev tm x = some (.int k n)) (hy : ev tm y = some (.int k' n)) (h0 : 0 ≤ n) (hb : (ee.bytes : Int) * n ≤ 281474976710656) (h63 : n ≤ 9223372036854775807) : YL E.P V J ⟨some d, .makeSlice T x y, ty, pos, af, gd⟩ tm σ [] (.os d (V, J) ee.size n.toNat) [(d, some ((V, J), ⟨ee.size, List.replicate n.toNat (consts ee.zero)⟩))] :=
 fun σ _ Γ G ρ w hv hf hρ hw => by
 have h1 := vA (hρ x (by simp [Op.operands]) _ hx)
 have h2 := vA (hρ y (by simp [Op.operands]) _ hy)
 obtain ⟨_, i, z, hi, e1, e2, hz, hzc, hlen, hone⟩ := E.ok e ee hE
 have ht := (E.ok T te hT).1
 rw [hk] at ht
 simp only [TK.fits] at ht
 have hm := run_make (P := E.P) w T e i z ht hi hz k k' n n h0 (Int.le_refl _) (by rw [e2]; exact hb) h63
 rw [e1] at hm
 have hzs : z.cells.size = ee.size := by rw [← Array.length_toList, hzc, hlen]
 have hr : (execOp ρ ⟨some d, .makeSlice T x y, ty, pos, af, gd⟩).run E.P w = .ok (.value (.slice (some ⟨w.heap.size, 0, none⟩) n.toNat n.toNat)) (w.alloc (.cells (madeCells z.cells (n.toNat * ee.size)) e)) := by
  simp only [execOp, h1, h2, Sem.run_bind, hm, Result.andThen_ok, Sem.run_pure]
 rw [hr]
 have hsz : (madeCells z.cells (n.toNat * ee.size)).size = n.toNat * ee.size := by simp [madeCells]
 refine Leaves.alloc hw hv hf _ e (by simp [hsz]) ?_ ?_
 ·intro i row hi'
  simp only [List.getElem?_replicate] at hi'
  split at hi'
  ·rename_i hlt
   cases hi'
   refine ⟨by simp [consts, hlen], fun o y hy' => ?_⟩
   obtain ⟨v, h3, h4⟩ := (zC (G := G) hone).get hy'
   have ho : o < ee.size := by
    rcases Nat.lt_or_ge o ee.zero.length with hh | hh
    ·omega
    ·rw [List.getElem?_eq_none hh] at h3; cases h3
   refine ⟨v, ?_, h4.mono (Gh.le.refl G)⟩
   have hq : i * ee.size + o < n.toNat * ee.size := by
    have : (i + 1) * ee.size ≤ n.toNat * ee.size := Nat.mul_le_mul_right _ hlt
    rw [Nat.succ_mul] at this; omega
   simp only [madeCells, Array.getElem?_map, Array.getElem?_range, hq, if_true, Option.map_some, hzs]
   rw [Nat.mul_comm, Nat.mul_add_mod, Nat.mod_eq_of_lt ho, getElem!_pos z.cells o (by omega)]
   rw [← hzc] at h3
   have h3' : z.cells[o]? = some v := by simpa using h3
   rw [Array.getElem?_eq_getElem (by omega)] at h3'
   exact h3'
  ·cases hi'
 ·rw [RepO]
  exact Or.inl ⟨_, n.toNat, Gh.name_self _ _ _ _, rfl, Nat.le_refl _, hsz, by unfold maxLen; omega⟩
end
section
variable {E : Env} {V J : Nat} {ty : TypeId} {pos : String} {af : Array Edge} {gd : Option (Nat × Bool)} {tm : Tm} {σ : Store}
inductive Src (σ : Store) (s : Nat) : OV → List Nat → List (List OV) → Prop where
 | sl (rows : List (List TV)) : Src σ s (.d (.sl s rows)) [] (rows.map fun r => r.map .d)
 | os (k : Nat) (τ : Stamp) (n : Nat) (rows : List (List OV)) (hs : σ k = some (τ, ⟨s, rows⟩)) (hn : n = rows.length) : Src σ s (.os k τ s n) [k] rows
 | vw (k : Nat) (τ : Stamp) (l n : Nat) (rows : List (List OV)) (hs : σ k = some (τ, ⟨s, rows⟩)) (hn : l + n ≤ rows.length) : Src σ s (.vw k τ s l n) [k] ((rows.drop l).take n)
 | nil : Src σ s (.d (.c (.slice none 0 0))) [] []
theorem Src.move {σ σ' : Store} {rows : List (List OV)} (h : Src σ s y ks rows) (hk : ∀ k ∈ ks, σ' k = σ k) : Src σ' s y ks rows := by
 cases h with
 | sl rows => exact .sl rows
 | os k τ n rows hs hn => exact .os k τ n rows ((hk k (by simp)).trans hs) hn
 | vw k τ l n rows hs hn => exact .vw k τ l n rows ((hk k (by simp)).trans hs) hn
 | nil => exact .nil
def behind (w : World) (b o n : Nat) : List Value := (List.range n).map fun j => (w.cell? ⟨b, o + j, none⟩).getD undef
theorem eK {b n : Nat} (h : j < n) : (behind w b o n)[j]? = some ((w.cell? ⟨b, o + j, none⟩).getD undef) := by
 simp [behind, h]
def Lies (G : Gh) (w : World) (s : Nat) (a : Addr) (rows : List (List OV)) : Prop :=
 ∃ vs : List Value, vs.length = rows.length * s ∧ (∀ j u, vs[j]? = some u → w.cell? (a.add j) = some u) ∧ (∀ u ∈ vs, u.oneCell' = true) ∧ RowAt G vs.toArray ⟨s, rows⟩
theorem Lies.nil0 (G : Gh) (w : World) (s : Nat) (a : Addr) : Lies G w s a [] := ⟨[], by simp, by simp, by simp, fun i r hi => by simp at hi⟩
theorem Lies.mk {b : Nat} {rows : List (List OV)} (hlf : ∀ r ∈ rows, ∀ y ∈ r, y.leaf = true) (hc : ∀ (i : Nat) (row : List OV), rows[i]? = some row → row.length = s ∧ ∀ (p : Nat) (y : OV), row[p]? = some y → ∃ v, w.cell? ⟨b, o + (i * s + p), none⟩ = some v ∧ RepO G y v) : Lies G w s ⟨b, o, none⟩ rows := by
 have full : ∀ j, j < rows.length * s → ∃ (i p : Nat) (row : List OV) (y : OV) (v : Value), j = i * s + p ∧ rows[i]? = some row ∧ row[p]? = some y ∧ w.cell? ⟨b, o + j, none⟩ = some v ∧ RepO G y v := fun j hj => by
  have hs : 0 < s := by
   rcases Nat.eq_zero_or_pos s with h | h
   ·subst h; omega
   ·exact h
  have hi : j / s < rows.length := (Nat.div_lt_iff_lt_mul hs).2 hj
  have hp : j % s < s := Nat.mod_lt _ hs
  have hjs : j = j / s * s + j % s := by rw [Nat.mul_comm]; exact (Nat.div_add_mod j s).symm
  obtain ⟨h1, h2⟩ := hc (j / s) _ (List.getElem?_eq_getElem hi)
  obtain ⟨v, h3, h4⟩ := h2 (j % s) _ (List.getElem?_eq_getElem (by omega))
  rw [← hjs] at h3
  exact ⟨j / s, j % s, _, _, v, hjs, List.getElem?_eq_getElem hi, List.getElem?_eq_getElem (by omega), h3, h4⟩
 have small : ∀ j u, (behind w b o (rows.length * s))[j]? = some u → j < rows.length * s := fun j u hu => by
  rcases Nat.lt_or_ge j (rows.length * s) with hh | hh
  ·exact hh
  ·rw [List.getElem?_eq_none (by simpa [behind] using hh)] at hu; cases hu
 refine ⟨behind w b o (rows.length * s), by simp [behind], fun j u hu => ?_, fun u hu => ?_, fun i row hi => ?_⟩
 ·have hj := small j u hu
  rw [eK hj] at hu
  obtain ⟨i, p, row, y, v, _, _, _, h5, _⟩ := full j hj
  rw [xN, h5]
  rw [h5] at hu
  simpa using hu
 ·obtain ⟨j, hj⟩ := List.mem_iff_getElem?.1 hu
  have hj' := small j u hj
  rw [eK hj'] at hj
  obtain ⟨i, p, row, y, v, _, h1, h2, h5, h6⟩ := full j hj'
  rw [h5] at hj
  simp only [Option.getD_some, Option.some.injEq] at hj
  subst hj
  exact h6.oneCell (hlf row (List.mem_of_getElem? h1) y (List.mem_of_getElem? h2))
 ·obtain ⟨h1, h2⟩ := hc i row hi
  refine ⟨h1, fun p y hy => ?_⟩
  obtain ⟨v, h3, h4⟩ := h2 p y hy
  have hlt : i < rows.length := by
   rcases Nat.lt_or_ge i rows.length with hh | hh
   ·exact hh
   ·rw [show (Row.rows ⟨s, rows⟩) = rows from rfl, List.getElem?_eq_none hh] at hi; cases hi
  have hp : p < s := by
   rcases Nat.lt_or_ge p row.length with hh | hh
   ·omega
   ·rw [List.getElem?_eq_none hh] at hy; cases hy
  have hb : (i + 1) * s ≤ rows.length * s := Nat.mul_le_mul_right s hlt
  rw [Nat.succ_mul] at hb
  refine ⟨v, ?_, h4⟩
  simp only [List.getElem?_toArray]
  rw [eK (by omega), h3]; rfl
theorem Lies.drew {a : Addr} {rows : List (List OV)} (h : Lies G w s a rows) : Lies G w.drew s a rows := h
theorem Src.lies {rows : List (List OV)} {x : Value} (h : Src σ s y ks rows) (hw : WRel Γ G σ w) (hx : RepO G y x) (hlf : ∀ r ∈ rows, ∀ y ∈ r, y.leaf = true) :
  ∃ a c, x = .slice a rows.length c ∧ rows.length ≤ c ∧ ((a = none ∧ rows = []) ∨ ∃ ad, a = some ad ∧ Lies G w s ad rows) := by
 cases h with
 | sl rows =>
  rw [RepO, Rep] at hx
  obtain ⟨a, c, rfl, h3, h4⟩ := hx
  refine ⟨a, c, by simp, by simpa using h3, ?_⟩
  rcases h4 with h4 | ⟨b, off, rfl, h4⟩
  ·subst h4
   cases a with
   | none => exact Or.inl ⟨rfl, rfl⟩
   | some a => exact Or.inr ⟨a, rfl, Lies.nil0 ..⟩
  ·exact Or.inr ⟨_, rfl, Lies.mk hlf fun i row hi => by
    rw [List.getElem?_map] at hi
    obtain ⟨r, hr, rfl⟩ := Option.map_eq_some_iff.1 hi
    obtain ⟨h5, h6⟩ := h4.get hr
    refine ⟨by simpa using h5, fun p y hy => ?_⟩
    rw [List.getElem?_map] at hy
    obtain ⟨t, ht, rfl⟩ := Option.map_eq_some_iff.1 hy
    obtain ⟨v, h7, h8⟩ := h6.get ht
    exact ⟨v, by have := hw.mem _ _ _ h7; rwa [Nat.add_assoc] at this, by rw [RepO]; exact h8⟩⟩
 | os k τ n rows hs hn =>
  subst hn
  rw [RepO] at hx
  rcases hx with ⟨β, c, hμ, rfl, h3, h4, h5⟩ | ⟨hμ, rfl, hn⟩
  ·obtain ⟨cs, g1, g2, g3, g4⟩ := hw.blk hs hμ
   refine ⟨_, c, rfl, h3, Or.inr ⟨_, rfl, Lies.mk hlf fun i row hi => ?_⟩⟩
   obtain ⟨h6, h7⟩ := g4 i row hi
   refine ⟨h6, fun p y hy => ?_⟩
   obtain ⟨v, h8, h9⟩ := h7 p y hy
   exact ⟨v, by simpa [World.cell?, g1] using h8, h9⟩
  ·have : rows = [] := List.eq_nil_of_length_eq_zero hn
   subst this
   exact ⟨none, 0, rfl, Nat.le_refl _, Or.inl ⟨rfl, rfl⟩⟩
 | vw k τ l n rows hs hn =>
  rw [RepO] at hx
  obtain ⟨a, c, rfl, h3, h4⟩ := hx
  have hlen : ((rows.drop l).take n).length = n := by simp; omega
  refine ⟨a, c, by rw [hlen], by omega, ?_⟩
  rcases h4 with h4 | ⟨β, hμ, rfl⟩
  ·subst h4
   cases a with
   | none => exact Or.inl ⟨rfl, by simp⟩
   | some a => exact Or.inr ⟨a, rfl, by simpa using Lies.nil0 ..⟩
  ·obtain ⟨cs, g1, g2, g3, g4⟩ := hw.blk hs hμ
   refine Or.inr ⟨_, rfl, Lies.mk hlf fun i row hi => ?_⟩
   rw [List.getElem?_take] at hi
   split at hi
   ·rw [List.getElem?_drop] at hi
    obtain ⟨h6, h7⟩ := g4 (l + i) row hi
    refine ⟨h6, fun p y hy => ?_⟩
    obtain ⟨v, h8, h9⟩ := h7 p y hy
    rw [Nat.add_mul, Nat.add_assoc] at h8
    exact ⟨v, by simpa [World.cell?, g1] using h8, h9⟩
   ·cases hi
 | nil =>
  have := vA hx
  subst this
  exact ⟨none, 0, rfl, Nat.le_refl _, Or.inl ⟨rfl, rfl⟩⟩
theorem RowAt.append {rows rows' : List (List OV)} (hcs : cs.toList.take (rows.length * s + vs.length) = cs.toList.take (rows.length * s) ++ vs) (hl : rows.length * s + vs.length ≤ cs.size) (h : RowAt G cs ⟨s, rows⟩) (h' : RowAt G vs.toArray ⟨s, rows'⟩) (hv : vs.length = rows'.length * s) : RowAt G cs ⟨s, rows ++ rows'⟩ := fun i row hi => by
 simp only [List.getElem?_append] at hi
 split at hi
 ·exact h i row hi
 ·rename_i hge
  obtain ⟨h1, h2⟩ := h' (i - rows.length) row hi
  refine ⟨h1, fun p y hy => ?_⟩
  obtain ⟨v, h3, h4⟩ := h2 p y hy
  refine ⟨v, ?_, h4⟩
  simp only [List.getElem?_toArray] at h3 ⊢
  have e : i * s + p = rows.length * s + ((i - rows.length) * s + p) := by
   rw [← Nat.add_assoc, ← Nat.add_mul]; congr 2; omega
  have hq : (i - rows.length) * s + p < vs.length := by
   rcases Nat.lt_or_ge ((i - rows.length) * s + p) vs.length with hh | hh
   ·exact hh
   ·rw [List.getElem?_eq_none hh] at h3; cases h3
  have e2 : (cs.toList.take (rows.length * s + vs.length))[rows.length * s + ((i - rows.length) * s + p)]? = vs[(i - rows.length) * s + p]? := by
   rw [hcs, List.getElem?_append_right (by simp; omega)]
   congr 1
   simp; omega
  rw [List.getElem?_take, if_pos (by omega)] at e2
  rw [e, ← h3, ← e2]; simp
inductive Dst (σ : Store) (s d : Nat) : OV → List Nat → Nat → List (List OV) → Prop where
 | os (k : Nat) (τ : Stamp) (n : Nat) (rows : List (List OV)) (hs : σ k = some (τ, ⟨s, rows⟩)) (hn : n = rows.length) : Dst σ s d (.os k τ s n) [k] k rows
 | nil : Dst σ s d (.d (.c (.slice none 0 0))) [] d []
theorem Dst.move {σ σ' : Store} {d : Nat} {k : Nat} {rows : List (List OV)} (h : Dst σ s d y ks k rows) (hk : ∀ k ∈ ks, σ' k = σ k) : Dst σ' s d y ks k rows := by
 cases h with
 | os k τ n rows hs hn => exact .os k τ n rows ((hk k (by simp)).trans hs) hn
 | nil => exact .nil
theorem take_two {α : Type} (L vs Z : List α) (n : Nat) (h : L.length = n) : (L ++ (vs ++ Z)).take (n + vs.length) = (L ++ (vs ++ Z)).take n ++ vs := by
 subst h; rw [List.take_left, ← List.append_assoc, ← List.length_append, List.take_left]
theorem bB {t ty : TypeId} {i : TypeInfo} (ht : P.underlying t = some (.slice e)) (hi : P.info? e = some i) (b : Option Addr) (n c c' : Nat) (h : n ≤ c) :
  (Builtin.append_ #[t, t] ty #[.slice b n c, .slice none 0 c']).run P w = .ok (.slice b n c) w := by
 have h' : n + 0 ≤ c := h
 cases b with
 | none => simp [Builtin.append_, run_underlying ht, sizeOf, typeInfo, hi, Builtin.lenOf, h, Builtin.firstCells]
 | some b => simp [Builtin.append_, run_underlying ht, sizeOf, typeInfo, hi, Builtin.lenOf, h, Builtin.firstCells, storeCells]
theorem run_append_room' (w : World) (t ty e t' : TypeId) (i : TypeInfo) (ht : P.underlying t = some (.slice e)) (hi : P.info? e = some i) (g sLen sCap : Nat) (cur : Array Value) (hg : w.heap[g]? = some (.cells cur t' (0, 0))) (a : Addr) (m c : Nat) (news : List Value) (hl : news.length = m * i.size) (hnews : ∀ j u, news[j]? = some u → w.cell? (a.add j) = some u) (h1 : ∀ u ∈ news, u.oneCell' = true) (hroom : sLen + m ≤ sCap) (hfit : sLen * i.size + news.length ≤ cur.size) :
  (Builtin.append_ #[t, t] ty #[.slice (some ⟨g, 0, none⟩) sLen sCap, .slice (some a) m c]).run P w =
   .ok (.slice (some ⟨g, 0, none⟩) (sLen + m) sCap) (w.setRow g (cur.toList.take (sLen * i.size) ++ news ++ cur.toList.drop (sLen * i.size + news.length)).toArray) := by
 have hf := run_firstCells_some (P := P) w i.size m a m c news hl hnews
 have hst := run_storeCells_at P g (sLen * i.size) t' news 0 cur w hg (by simpa using hfit) h1
 simp only [Nat.add_zero] at hst
 simp [Builtin.append_, run_underlying ht, sizeOf, typeInfo, hi, Builtin.lenOf, hroom, hf, Addr.add_lit, hst]
theorem xH {d : Option Nat} {T : TypeId} {z : Operand} {u : Value} (h : (Builtin.append_ #[T, T] ty #[ρ x, ρ z]).run P w = .ok u w') :
  (execOp ρ ⟨d, .call { callee := .builtin .append, args := #[x, z], argTypes := #[T, T] }, ty, pos, af, gd⟩).run P w = .ok (.value u) w' := by
 simp only [execOp, resolve, List.map_toArray, List.map_cons, List.map_nil, Sem.run_bind, Sem.run_pure, Result.andThen_ok, invoke, builtin, h]
theorem Leaves.made {k m c : Nat} {rows : List (List OV)} {T : TypeId} (hw : WRel Γ G σ w) (hv : Γ.N ≤ V) (hf : ∀ k, G.μ k (V, J) = none) (hr : RowAt G cs ⟨s, rows⟩) (hm : m = rows.length) (hc : m ≤ c) (hc' : c ≤ maxLen) (hsz : cs.size = c * s) :
  Leaves Γ G V J (.os k (V, J) s m) (σ.put k ((V, J), ⟨s, rows⟩)) (.slice (some ⟨w.heap.size, 0, none⟩) m c) (w.drew.alloc (.cells cs T)) := by
 have hw' := hw.drawn (w.drawn + 1)
 refine Leaves.alloc (w := w.drew) hw' hv hf cs T (by rw [hsz]; exact Nat.mul_le_mul_right _ (by simp only; omega)) hr ?_
 rw [RepO]
 exact Or.inl ⟨_, c, Gh.name_self _ _ _ _, rfl, hc, hsz, hc'⟩
theorem qE {d : Nat} {T : TypeId} {z : Operand} {k : Nat} {y1 y2 : OV} {ks1 ks2 : List Nat} {rows1 rows2 : List (List OV)} (hT : E.tab T = some te) (hk : te.k = .slice e) (hE : E.tab e = some ee) (hs : ee.size = s) (hpos : 0 < s) (hx : ev tm x = some y1) (hz : ev tm z = some y2) (h1 : Dst σ s d y1 ks1 k rows1) (h2 : Src σ s y2 ks2 rows2) (hlf : ∀ r ∈ rows2, ∀ y ∈ r, y.leaf = true) (hb : (rows1.length + rows2.length) * ee.bytes ≤ 140737488355328) (hm : rows1.length + rows2.length ≤ maxLen) :
  YL E.P V J ⟨some d, .call { callee := .builtin .append, args := #[x, z], argTypes := #[T, T] }, ty, pos, af, gd⟩ tm σ (ks1 ++ ks2) (.os k (V, J) s (rows1.length + rows2.length)) [(k, some ((V, J), ⟨s, rows1 ++ rows2⟩))] :=
 fun σ' hσ Γ G ρ w hv hf hρ hw => by
 have h1 := h1.move (σ' := σ') fun k hk => hσ k (by simp [hk])
 have h2 := h2.move (σ' := σ') fun k hk => hσ k (by simp [hk])
 have r1 := hρ x (by simp [Op.operands, Call.operands]) _ hx
 obtain ⟨a, c, e2, hlc, hsrc⟩ := h2.lies hw (hρ z (by simp [Op.operands, Call.operands]) _ hz) hlf
 obtain ⟨_, i, zv, hi, i1, i2, hzv, hzc, hlen, hone⟩ := E.ok e ee hE
 have ht := (E.ok T te hT).1
 rw [hk] at ht
 simp only [TK.fits] at ht
 have hzs : zv.cells.size = s := by rw [← Array.length_toList, hzc, hlen, hs]
 have his : i.size = s := by omega
 have hmI : ((rows1.length + rows2.length : Nat) : Int) ≤ 9223372036854775807 := by unfold maxLen at hm; omega
 show NextOk E.P Γ G V J _ (σ'.put k ((V, J), ⟨s, rows1 ++ rows2⟩)) _
 -- the first slice's block, where it has one
 have nilCase : ρ x = .slice none 0 0 → rows1 = [] → NextOk E.P Γ G V J (.os k (V, J) s (rows1.length + rows2.length)) (σ'.put k ((V, J), ⟨s, rows1 ++ rows2⟩))
   ((execOp ρ ⟨some d, .call { callee := .builtin .append, args := #[x, z], argTypes := #[T, T] }, ty, pos, af, gd⟩).run E.P w) := fun e1 hr1 => by
  subst hr1
  simp only [List.nil_append, List.length_nil, Nat.zero_add] at hb hm hmI ⊢
  rcases hsrc with ⟨rfl, rfl⟩ | ⟨ad, rfl, vs, v1, v2, v3, v4⟩
  ·rw [xH (u := .slice none 0 0) (w' := w) (by rw [e1, e2]; exact bB ht hi none 0 0 c (Nat.le_refl _))]
   exact ⟨_, Gh.name_le G _ (hf k), xF G k V J _, by rw [RepO]; exact Or.inr ⟨Gh.name_self _ _ _ _, rfl, rfl⟩, hw.phantom k hv (hf k) s⟩
  ·by_cases h0 : rows2.length = 0
   ·have : rows2 = [] := List.eq_nil_of_length_eq_zero h0
    subst this
    have hvs : vs = [] := List.eq_nil_of_length_eq_zero (by simpa using v1)
    subst hvs
    have hr : (Builtin.append_ #[T, T] ty #[ρ x, ρ z]).run E.P w = .ok (.slice none 0 0) w := by
     rw [e1, e2]
     simp [Builtin.append_, run_underlying ht, sizeOf, typeInfo, hi, Builtin.lenOf, Builtin.firstCells, loadCells, loadCellsFrom]
    rw [xH hr]
    exact ⟨_, Gh.name_le G _ (hf k), xF G k V J _, by rw [RepO]; exact Or.inr ⟨Gh.name_self _ _ _ _, rfl, rfl⟩, hw.phantom k hv (hf k) s⟩
   ·have hr := run_append_nil (P := E.P) w T ty e i zv ht hi hzv ad rows2.length c vs (by rw [his]; exact v1) v2 (by omega) hmI (by rw [i2]; omega)
    rw [xH (by rw [e1, e2]; exact hr)]
    have hge := grownCap_ge w rows2.length 0 e
    refine Leaves.made hw hv hf ?_ rfl hge (grownCap_le_maxLen w rows2.length 0 e hm) (by simp only [Array.size_append, List.size_toArray, size_zeroCells, hzs, v1, ← Nat.add_mul]; congr 1; omega)
    intro i' row hi'
    obtain ⟨q1, q2⟩ := v4 i' row hi'
    refine ⟨q1, fun p y hy => ?_⟩
    obtain ⟨v, q3, q4⟩ := q2 p y hy
    refine ⟨v, ?_, q4⟩
    rw [Array.getElem?_append_left]
    ·exact q3
    ·rcases Nat.lt_or_ge (i' * s + p) vs.toArray.size with hh | hh
     ·exact hh
     ·rw [Array.getElem?_eq_none hh] at q3; cases q3
 cases h1 with
 | nil => exact nilCase (vA r1) rfl
 | os k τ n rows hs1 hn =>
  subst hn
  rw [RepO] at r1
  rcases r1 with ⟨β, cap, hμ, e1, c1, c2, c3⟩ | ⟨hμ, e1, hn⟩
  ·have hother : ∀ k' τ' r' β', k' ≠ k → σ' k' = some (τ', r') → G.μ k' τ' = some (some β') → β'.b ≠ β.b := fun k' τ' r' β' hne hk' hμ' e => hne (hw.inj k' k τ' τ β' β r' _ hk' hs1 hμ' hμ e)
   obtain ⟨hsep, hfr⟩ : (∀ o, G.M β.b o = none) ∧ (Γ.w0.heap.size ≤ β.b ∨ Γ.S β.b) := by
    rcases hw.own k τ _ hs1 with ⟨h1, _⟩ | ⟨β0, h1, h2, hsep, hfr⟩
    ·rw [hμ] at h1; cases h1
    ·rw [hμ] at h1; cases h1; exact ⟨hsep, hfr⟩
   obtain ⟨cs, g1, g2, g3, g4⟩ := hw.blk hs1 hμ
   simp only at g3
   rcases hsrc with ⟨rfl, rfl⟩ | ⟨ad, rfl, vs, v1, v2, v3, v4⟩
   ·rw [xH (u := ρ x) (w' := w) (by rw [e1, e2]; exact bB ht hi _ rows1.length cap c c1), e1]
    refine ⟨_, Gh.name_le G _ (hf k), xF G k V J _, ?_, hw.named (β := β) hv (hf k) (Nat.le_refl _) rfl rfl rfl (fun _ _ _ => rfl) ⟨cs, g1, g2, by simpa using g3, by simpa using g4⟩ hsep hfr hother⟩
    rw [RepO]
    exact Or.inl ⟨β, cap, Gh.name_self _ _ _ _, rfl, by simpa using c1, c2, c3⟩
   ·by_cases hroom : rows1.length + rows2.length ≤ cap
    ·have hfit : rows1.length * s + vs.length ≤ cs.size := by rw [v1, g2, c2, ← Nat.add_mul]; exact Nat.mul_le_mul_right _ hroom
     have hr := run_append_room' (P := E.P) w T ty e β.T i ht hi β.b rows1.length cap cs g1 ad rows2.length c vs (by rw [his]; exact v1) v2 v3 hroom (by rw [his]; exact hfit)
     rw [his] at hr
     rw [xH (by rw [e1, e2]; exact hr)]
     refine ⟨_, Gh.name_le G _ (hf k), xF G k V J _, ?_, hw.named (β := β) hv (hf k) (by simp) rfl rfl rfl (fun b _ hb => setRow_other w β.b b _ hb) ⟨_, setRow_heap w β.b cs _ β.T _ g1, ?_, ?_, ?_⟩ hsep hfr hother⟩
     ·rw [RepO]
      exact Or.inl ⟨β, cap, Gh.name_self _ _ _ _, rfl, hroom, c2, c3⟩
     ·simp only [List.size_toArray, List.length_append, List.length_take, List.length_drop, Array.length_toList]
      omega
     ·simp only [List.length_append, Nat.add_mul]
      rw [← v1, ← g2]; exact hfit
     ·have htl : (cs.toList.take (rows1.length * s)).length = rows1.length * s := by simp; omega
      refine RowAt.append (vs := vs) ?_ ?_ ?_ v4 v1
      ·have e3 : (cs.toList.take (rows1.length * s) ++ vs).length = rows1.length * s + vs.length := by rw [List.length_append, htl]
       rw [← e3, List.take_left]
       rw [List.append_assoc, ← htl, List.length_take]
       rw [Nat.min_eq_left (by simp; omega), List.take_left' (by simp; omega)]
      ·simp only [List.size_toArray, List.length_append, List.length_take, List.length_drop, Array.length_toList]
       omega
      ·intro i' row hi'
       obtain ⟨q1, q2⟩ := g4 i' row hi'
       refine ⟨q1, fun p y hy => ?_⟩
       obtain ⟨v, q3, q4⟩ := q2 p y hy
       refine ⟨v, ?_, q4⟩
       have hlt : i' < rows1.length := by
        rcases Nat.lt_or_ge i' rows1.length with hh | hh
        ·exact hh
        ·rw [show (Row.rows ⟨s, rows1⟩) = rows1 from rfl, List.getElem?_eq_none hh] at hi'; cases hi'
       have hp : p < s := by
        rcases Nat.lt_or_ge p row.length with hh | hh
        ·have := q1; simp only at this; omega
        ·rw [List.getElem?_eq_none hh] at hy; cases hy
       have hb' : (i' + 1) * s ≤ rows1.length * s := Nat.mul_le_mul_right s hlt
       rw [Nat.succ_mul] at hb'
       simp only [List.getElem?_toArray, List.append_assoc]
       rw [List.getElem?_append_left (by rw [htl]; omega), List.getElem?_take, if_pos (by omega)]
       simpa using q3
    ·have hol : ∀ j u, (cs.toList.take (rows1.length * s))[j]? = some u → w.cell? ((⟨β.b, 0, none⟩ : Addr).add j) = some u := fun j u hu => by
      rw [List.getElem?_take] at hu
      split at hu
      ·rw [xN]; simpa [World.cell?, g1] using hu
      ·cases hu
     have htl : (cs.toList.take (rows1.length * s)).length = rows1.length * s := by simp; omega
     have hr := run_append_grow (P := E.P) w T ty e i zv ht hi hzv ⟨β.b, 0, none⟩ rows1.length cap (cs.toList.take (rows1.length * s)) (by rw [htl, his]) hol ad rows2.length c vs (by rw [his]; exact v1) v2 (by omega) hmI (growslice_fits (by omega) (by rw [i2]; exact hb))
     rw [xH (by rw [e1, e2]; exact hr)]
     have hge := grownCap_ge w (rows1.length + rows2.length) cap e
     refine Leaves.made hw hv hf ?_ (by simp) hge (grownCap_le_maxLen w _ cap e hm) (by
      simp only [Array.size_append, List.size_toArray, size_zeroCells, hzs, htl, v1, ← Nat.add_mul]; congr 1; omega)
     refine RowAt.append (vs := vs) ?_ ?_ ?_ v4 v1
     ·simp only [Array.toList_append, List.append_assoc]
      exact take_two _ vs _ _ htl
     ·simp only [Array.size_append, List.size_toArray, htl]; omega
     ·intro i' row hi'
      obtain ⟨q1, q2⟩ := g4 i' row hi'
      refine ⟨q1, fun p y hy => ?_⟩
      obtain ⟨v, q3, q4⟩ := q2 p y hy
      refine ⟨v, ?_, q4⟩
      have hlt : i' < rows1.length := by
       rcases Nat.lt_or_ge i' rows1.length with hh | hh
       ·exact hh
       ·rw [show (Row.rows ⟨s, rows1⟩) = rows1 from rfl, List.getElem?_eq_none hh] at hi'; cases hi'
      have hp : p < s := by
       rcases Nat.lt_or_ge p row.length with hh | hh
       ·have := q1; simp only at this; omega
       ·rw [List.getElem?_eq_none hh] at hy; cases hy
      have hb' : (i' + 1) * s ≤ rows1.length * s := Nat.mul_le_mul_right s hlt
      rw [Nat.succ_mul] at hb'
      have hlt2 : i' * s + p < rows1.length * s := by omega
      rw [Array.append_assoc, Array.getElem?_append_left (by simpa [htl] using hlt2)]
      simp only [List.getElem?_toArray]
      rw [List.getElem?_take, if_pos hlt2]
      simpa using q3
  ·exact nilCase e1 (List.eq_nil_of_length_eq_zero hn)
end
attribute [irreducible] NextOk
end Go.Proofs.YtjogffchdejabaaGreatDoor
