/- Parts. -/
import Derived.Test.YtnkocjkkefnelaaGreatPn7
import Derived.Test.YtnkocjkkefnelaaGreatPn10
import Derived.Test.YtnkocjkkefnelaaGreatPn29
set_option linter.unusedVariables false
set_option linter.unusedSimpArgs false
set_option maxHeartbeats 4000000
set_option maxRecDepth 100000
namespace Go.Proofs.YtnkocjkkefnelaaGreat
open Go.RowKit Go.Maps Go.ChangeMaps Go.WideElems
open Go.WideMaps (KeyLaw)
theorem zP {P : Program} {w w' : World} {k : TypeId} {R : Value → Option (DataW Unit × List MemPlace)} {b n : Nat} {D : DataW Unit} (h : w.ownsMap P k R b n D) (hb : w'.heap[b]? = w.heap[b]?) : w'.ownsMap P k R b n D :=
 let ⟨es, clock, h1, r⟩ := h; ⟨es, clock, hb.trans h1, r⟩
theorem entry_own {P : Program} {w : World} {t k e : TypeId} {b n : Nat} {D : DataW Unit} {q : IntKind} (K : KeyLaw P k) (ht : P.underlying t = some (.map k e)) (he : P.underlying e = some (.int q)) (hz : ∀ u : World, (zeroValue e).run P u = .ok (.int q 0) u)
  (h : w.ownsMap P k (plainElem P e) b n D) (hn : n < maxLen) {key : Value} {kl : Lit} (hkey : keyOf P k key = some kl) :
  ∃ (v0 : Value) (st : Nat) (ob : Obj), (Instr.mapEntry t (.map (some b)) key).run P w = .ok (.tuple #[v0, goInt st]) (w.putObj b ob) ∧ ob.isCells = false ∧ v0.oneCell' = true ∧
   (∀ w2 : World, w2.heap[b]? = some ob → ∃ (nn : Nat) (D1 : DataW Unit), w2.ownsMap P k (plainElem P e) b nn D1) ∧
   ∀ (w2 : World) (c : Int), (Lit.int q c).wf = true → w2.heap[b]? = some ob → ∃ ob', (Instr.entryStore t (.map (some b)) (goInt st) (.int q c)).run P w2 = .ok () (w2.putObj b ob') ∧ (w2.putObj b ob').ownsMap P k (plainElem P e) b (n + 1) (D.put kl (.lit (.int q c))) := by
 have h0 := h
 have hK := Keyed.of_law K
 have hw0 : (Lit.int q 0).wf = true := by cases q <;> decide
 obtain ⟨es, clock, hb, F, hs, hD⟩ := h
 have hlt := (Array.getElem?_eq_some_iff.1 hb).1
 obtain ⟨v0, st, es1, clock1, hE, hcase, hS⟩ := entry_then_store K ht hz hb F hkey
 refine ⟨v0, st, .map es1 clock1, hE, rfl, ?_, ?_, ?_⟩
 ·rcases hcase with ⟨e0, h1, _, rfl⟩ | ⟨_, rfl⟩
  ·obtain ⟨y, hy⟩ := F.reads e0 h1
   obtain ⟨z, hz', _⟩ := rd_val hy
   obtain ⟨a, ha, _⟩ := plainElem_int_inv he hz'
   rw [ha]; rfl
  ·rfl
 ·-- what the map is behind the entry's making
  suffices hfit : ∃ (nn : Nat) (D1 : DataW Unit), (setBlock w b (.map es1 clock1)).ownsMap P k (plainElem P e) b nn D1 by
   obtain ⟨nn, D1, h1⟩ := hfit
   exact fun w2 h2 => ⟨nn, D1, zP h1 (h2.trans (heap_setBlock_same hb _).symm)⟩
  rcases K.find w hkey es.toList F.keys with ⟨h1, h2⟩ | ⟨j, e0, h1, h2, h3⟩
  ·have hE2 : (Instr.mapEntry t (.map (some b)) key).run P w = .ok (.tuple #[.int q 0, goInt clock]) (setBlock w b (.map (es.push ⟨key, .int q 0, clock⟩) (clock + 1))) := by
    simp [Instr.mapEntry, run_underlying ht, MapKept.run_getObj_map hb, K.check w false hkey, h1, hz, MapKept.run_setObj_map _ hb, Result.andThen, setBlock]
   have hU : (Instr.mapUpdate t (.map (some b)) key (.int q 0)).run P w = .ok () (setBlock w b (.map (es.push ⟨key, .int q 0, clock⟩) (clock + 1))) := by
    simp [Instr.mapUpdate, run_underlying ht, MapKept.run_getObj_map hb, K.check w false hkey, h1, MapKept.run_setObj_map _ hb, Result.andThen, setBlock]
   rw [hE2] at hE
   obtain ⟨w', hrun, hown', _⟩ := h0.store hK ht hn hkey (plainElem_int he hw0)
   rw [hU] at hrun
   simp only [Result.ok.injEq, true_and] at hrun
   have e1 : setBlock w b (.map (es.push ⟨key, .int q 0, clock⟩) (clock + 1)) = setBlock w b (.map es1 clock1) := by
    simp only [Result.ok.injEq] at hE; exact hE.2
   rw [← e1, hrun]
   exact ⟨_, _, hown'⟩
  ·have hj : es[j]? = some e0 := by simpa using h2
   have hsame : es.modify j (fun e => { e with key := key }) = es := by
    apply Array.ext'
    rw [Array.toList_modify, modify_eq_set _ _ _ _ h2]
    have : ({ e0 with key := key } : MapEntry) = e0 := by rw [← h3]
    rw [this]
    exact set_self _ _ _ h2
   have hE2 : (Instr.mapEntry t (.map (some b)) key).run P w = .ok (.tuple #[e0.val, goInt e0.born]) (setBlock w b (.map es clock)) := by
    simp [Instr.mapEntry, run_underlying ht, MapKept.run_getObj_map hb, K.check w false hkey, h1, hj, h3, K.stays w hkey, hsame, MapKept.run_setObj_map _ hb, Result.andThen, setBlock]
   rw [hE2] at hE
   have e1 : setBlock w b (.map es clock) = setBlock w b (.map es1 clock1) := by
    simp only [Result.ok.injEq] at hE; exact hE.2
   rw [← e1]
   exact ⟨_, _, zP h0 ((heap_setBlock_same hb _).trans hb.symm)⟩
 ·intro w2 c hc hw2
  obtain ⟨es', clock', hr1, hr2⟩ := hS w2 (.int q c) hw2
  obtain ⟨w', hrun, hown', _⟩ := h0.store hK ht hn hkey (plainElem_int he hc)
  rw [hr2] at hrun
  simp only [Result.ok.injEq, true_and] at hrun
  subst hrun
  exact ⟨.map es' clock', hr1, zP hown' ((heap_setBlock_same hw2 _).trans (heap_setBlock_same hb _).symm)⟩
def incF (tm : Tm) (d : Nat) (l : List (Option OV)) (g : OV) : Tm := fun t => if t = GS then some g else if d ≤ t ∧ t < d + 6 then l.getD (t - d) none else tm t
theorem xM {tm : Tm} {d : Nat} {l : List (Option OV)} {g : OV} {i : Nat} (hd : d + 6 ≤ GS) (hi : i < 6) : ev (incF tm d l g) (.tmp (d + i)) = l.getD i none := by
 show incF tm d l g (d + i) = _
 unfold incF
 rw [if_neg (by omega), if_pos (by omega), Nat.add_sub_cancel_left]
theorem iL {tm : Tm} {d : Nat} {l : List (Option OV)} {g : OV} {t : Nat} (h1 : t ≠ GS) (h2 : t < d ∨ d + 6 ≤ t) : ev (incF tm d l g) (.tmp t) = tm t := by
 show incF tm d l g t = _
 unfold incF
 rw [if_neg h1, if_neg (by omega)]
theorem dW {tm : Tm} {d : Nat} {l : List (Option OV)} {g : OV} : incF tm d l g GS = some g := if_pos rfl
theorem iK {tm : Tm} {d : Nat} {l : List (Option OV)} {g : OV} {i : Nat} (hd : d + 6 ≤ GS) (hl : l.length = 6) (hi : i < 6) (y : OV) : (incF tm d l g).putO (some (d + i)) y = incF tm d (l.set i (some y)) g := by
 funext t
 show (incF tm d l g).put (d + i) y t = _
 by_cases e : t = d + i
 ·subst e
  rw [Tm.put_self]
  unfold incF
  rw [if_neg (by omega), if_pos (by omega), Nat.add_sub_cancel_left]
  simp [List.getD_eq_getElem?_getD, hl, hi]
 ·rw [Tm.put_ne _ _ e]
  unfold incF
  by_cases h1 : t = GS
  ·rw [if_pos h1, if_pos h1]
  ·rw [if_neg h1, if_neg h1]
   by_cases h2 : d ≤ t ∧ t < d + 6
   ·rw [if_pos h2, if_pos h2]
    simp only [List.getD_eq_getElem?_getD]
    rw [List.getElem?_set_ne (by omega)]
   ·rw [if_neg h2, if_neg h2]
theorem kF {tm : Tm} {d : Nat} {l : List (Option OV)} {g g' : OV} : (incF tm d l g).put GS g' = incF tm d l g' := by
 funext t
 by_cases e : t = GS
 ·subst e; rw [Tm.put_self, dW]
 ·rw [Tm.put_ne _ _ e]
  unfold incF
  rw [if_neg e, if_neg e]
def incOps (T KT IT : TypeId) (p0 p1 d : Nat) (pos : String) : List Oper :=
  [⟨some (d + 0), .load T (.tmp p0), T, pos, #[], none⟩,
   ⟨some (d + 1), .load KT (.tmp p1), KT, pos, #[], none⟩,
   ⟨some (d + 2), .lookup T (.tmp (d + 0)) (.tmp (d + 1)) false, IT, pos, #[⟨0, .data⟩, ⟨1, .data⟩], none⟩,
   ⟨some (d + 3), .binOp .add IT (.tmp (d + 2)) (.const (.int .i64 1)) IT, IT, pos, #[⟨2, .data⟩], none⟩,
   ⟨some (d + 4), .mapEntry T (.tmp (d + 0)) (.tmp (d + 1)), 0, pos, #[⟨0, .data⟩, ⟨1, .data⟩, ⟨0, .phase⟩, ⟨1, .phase⟩, ⟨2, .textOnly .mapOpAssignEntry⟩, ⟨3, .textOnly .mapOpAssignEntry⟩], none⟩,
   ⟨some (d + 5), .extract (.tmp (d + 4)) 1, IT, pos, #[⟨4, .data⟩], none⟩,
   ⟨none, .entryStore T (.tmp (d + 0)) (.tmp (d + 5)) (.tmp (d + 3)), 0, pos, #[⟨0, .data⟩, ⟨5, .data⟩, ⟨3, .data⟩, ⟨4, .chain⟩, ⟨0, .phase⟩, ⟨1, .phase⟩, ⟨2, .phase⟩, ⟨3, .phase⟩, ⟨4, .phase⟩, ⟨5, .phase⟩], none⟩]
theorem wG {P : Program} {v : Nat} {ops : Array Oper} {Q : Tm → Store → Prop} {fuel : Nat} {listed : Array Bool} {tm : Tm} {σ : Store} (l : List Nat) (hr : Region.ready .any ops listed = l) (hl : l ≠ [])
  (h : ∀ i ∈ l, ∃ o, ops[i]? = some o ∧ o.guard = none ∧ OpT P v i o tm σ (anyT P v ops Q fuel (listed.setIfInBounds i true))) : anyT P v ops Q (fuel + 1) listed tm σ := by
 unfold anyT
 rw [hr]
 exact ⟨fun e => (hl e).elim, h⟩
theorem aB {p : Nat → Prop} {a : Nat} (h : p a) : ∀ i ∈ [a], p i := fun i hi => by rw [List.mem_singleton.1 hi]; exact h
theorem dM {p : Nat → Prop} {a b : Nat} (h : p a) (h' : p b) : ∀ i ∈ [a, b], p i := fun i hi => by
 rcases List.mem_cons.1 hi with rfl | hi
 ·exact h
 ·rw [List.mem_singleton.1 hi]; exact h'
section
variable {E : Env} {T KT IT k e : TypeId} {q : IntKind} {n id p0 p1 d b i : Nat} {pos : String} {tm : Tm} {σ : Store} {Q : Exit → Tm → Store → Prop} {row : List TV} {kl : Lit} {g : Gh} {Jm : Nat → Nat → DataW Unit → Prop} {te ke : TE}
set_option maxHeartbeats 1000000 in
theorem qB (KL : KeyLaw E.P k) (hT : E.P.underlying T = some (.map k e)) (he : E.P.underlying e = some (.int .i64)) (hz : ∀ w, (zeroValue e).run E.P w = .ok (.int .i64 0) w)
  (hte : E.tab T = some te) (hta : te.k.isAgg = false) (hke : E.tab KT = some ke) (hka : ke.k.isAgg = true) (hks : ke.size = row.length)
  (hn : d + 6 ≤ n ∧ n ≤ GS) (hp0 : p0 < d) (hp1 : p1 < d) (h0 : tm p0 = some (.d (.pt [.c (.map (some b))] 0))) (h1 : tm p1 = some (.d (.pt row 0))) (hky : IsKeyV E.P k (.ag (row.map .d)) kl)
  (hg : tm GS = some (.gh i (mapY E.P k e g b Jm))) (hJ : ∀ nn D c, IsMap D → Jm i nn D → nn < maxLen ∧ Jm (i + 1) (nn + 1) (D.put kl (.lit (.int .i64 c))))
  (hQ : Q .normal ((((((( tm.put (d + 0) (.gh 0 (mapY E.P k e g b Jm))).put (d + 1) (.gh 0 (mapY E.P k e g b Jm))).put (d + 2) (.gh 0 (mapY E.P k e g b Jm))).put (d + 3) (.gh 0 (mapY E.P k e g b Jm))).put (d + 4) (.gh 0 (mapY E.P k e g b Jm))).put (d + 5) (.gh 0 (mapY E.P k e g b Jm))).put GS (.gh (i + 1) (mapY E.P k e g b Jm))) σ) :
  awp E.P n (.region id (incOps T KT IT p0 p1 d pos).toArray true) Q tm σ := by
 obtain ⟨hn1, hn2⟩ := hn
 have hd6 : d + 6 ≤ GS := Nat.le_trans hn1 hn2
 have hKL := Keyed.of_law KL
 refine awp_any ?_ fun v => ?_
 ·have b1 : ∀ i, i < 6 → Nat.blt (d + i) n = true := fun i hi => by simp; omega
  have b2 : Nat.ble n GS = true := by simpa using hn2
  simp only [dstsLt, incOps, List.all_cons, List.all_nil, b2, b1 0 (by omega), b1 1 (by omega), b1 2 (by omega), b1 3 (by omega), b1 4 (by omega), b1 5 (by omega), Bool.and_true]
 -- the ghosts: the map as it is; behind the entry's making; at the end
 obtain ⟨YM, hYM⟩ : ∃ YM, mapY E.P k e g b Jm = YM := ⟨_, rfl⟩
 obtain ⟨ops, hops⟩ : ∃ ops, (incOps T KT IT p0 p1 d pos).toArray = ops := ⟨_, rfl⟩
 obtain ⟨mv, hmv⟩ : ∃ mv, OV.d (.c (.map (some b))) = mv := ⟨_, rfl⟩
 obtain ⟨kv, hkv⟩ : ∃ kv, OV.ag (row.map .d) = kv := ⟨_, rfl⟩
 rw [hops]
 have o2 : ops[2]? = some ⟨some (d + 2), .lookup T (.tmp (d + 0)) (.tmp (d + 1)) false, IT, pos, #[⟨0, .data⟩, ⟨1, .data⟩], none⟩ := by rw [← hops]; rfl
 have o3 : ops[3]? = some ⟨some (d + 3), .binOp .add IT (.tmp (d + 2)) (.const (.int .i64 1)) IT, IT, pos, #[⟨2, .data⟩], none⟩ := by rw [← hops]; rfl
 have o4 : ops[4]? = some ⟨some (d + 4), .mapEntry T (.tmp (d + 0)) (.tmp (d + 1)), 0, pos, #[⟨0, .data⟩, ⟨1, .data⟩, ⟨0, .phase⟩, ⟨1, .phase⟩, ⟨2, .textOnly .mapOpAssignEntry⟩, ⟨3, .textOnly .mapOpAssignEntry⟩], none⟩ := by rw [← hops]; rfl
 have o5 : ops[5]? = some ⟨some (d + 5), .extract (.tmp (d + 4)) 1, IT, pos, #[⟨4, .data⟩], none⟩ := by rw [← hops]; rfl
 have o6 : ops[6]? = some ⟨none, .entryStore T (.tmp (d + 0)) (.tmp (d + 5)) (.tmp (d + 3)), 0, pos, #[⟨0, .data⟩, ⟨5, .data⟩, ⟨3, .data⟩, ⟨4, .chain⟩, ⟨0, .phase⟩, ⟨1, .phase⟩, ⟨2, .phase⟩, ⟨3, .phase⟩, ⟨4, .phase⟩, ⟨5, .phase⟩], none⟩ := by rw [← hops]; rfl
 have rd : ∀ listed l, Region.ready .any (incOps T KT IT p0 p1 d pos).toArray listed = l → Region.ready .any ops listed = l := fun listed l h => by rw [← hops]; exact h
 let Qf : Tm → Store → Prop := fun tm' σ' => ∃ tx, tx.sub tm' ∧ Q .normal tx σ'
 -- the end
 have fin : ∀ l, Qf (incF tm d l (.gh (i + 1) YM)) σ := fun l => by
  refine ⟨_, ?_, hYM ▸ hQ⟩
  intro t y ht
  by_cases e : t = GS
  ·subst e
   rw [Tm.put_self] at ht
   exact Or.inr (dW.trans ht)
  rw [Tm.put_ne _ _ e] at ht
  have no : ∀ j, t = d + j → some y = some (.gh 0 YM) → (t ≠ GS ∧ ∃ i Y, y = .gh i Y) ∨ incF tm d l (.gh (i + 1) YM) t = some y := fun j _ h => Or.inl ⟨e, _, _, Option.some.inj h⟩
  by_cases e5 : t = d + 5
  ·exact no 5 e5 (by rw [e5, Tm.put_self] at ht; exact ht.symm)
  rw [Tm.put_ne _ _ e5] at ht
  by_cases e4 : t = d + 4
  ·exact no 4 e4 (by rw [e4, Tm.put_self] at ht; exact ht.symm)
  rw [Tm.put_ne _ _ e4] at ht
  by_cases e3 : t = d + 3
  ·exact no 3 e3 (by rw [e3, Tm.put_self] at ht; exact ht.symm)
  rw [Tm.put_ne _ _ e3] at ht
  by_cases e2 : t = d + 2
  ·exact no 2 e2 (by rw [e2, Tm.put_self] at ht; exact ht.symm)
  rw [Tm.put_ne _ _ e2] at ht
  by_cases e1 : t = d + 1
  ·exact no 1 e1 (by rw [e1, Tm.put_self] at ht; exact ht.symm)
  rw [Tm.put_ne _ _ e1] at ht
  by_cases e0 : t = d + 0
  ·exact no 0 e0 (by rw [e0, Tm.put_self] at ht; exact ht.symm)
  rw [Tm.put_ne _ _ e0] at ht
  exact Or.inr ((iL e (by omega)).trans ht)
 -- an operation that turns no world
 have pure' : ∀ {j : Nat} {o : Oper} {l : List (Option OV)} {G : OV} {r : OV} {K : Tm → Store → Prop} (jj : Nat), YL E.P v j o (incF tm d l G) σ [] r [] → o.dst = some (d + jj) → l.length = 6 → jj < 6 → K (incF tm d (l.set jj (some r)) G) σ → OpT E.P v j o (incF tm d l G) σ K := fun {j o l G r K} jj hy hdst hl hjj hk => by
  refine (hy.ok (K := fun r' σ' => r' = r ∧ σ' = σ) ⟨rfl, rfl⟩).mono ?_
  rintro tm' σ' ⟨r', h1, h2, h3⟩
  rw [h1, h2, h3, hdst, iK hd6 hl hjj]
  exact hk
 have look : ∀ {K : Tm → Store → Prop} {l : List (Option OV)} {i' : Nat} {Y' : YJ}, l.getD 0 none = some mv → l.getD 1 none = some kv → l.length = 6 → (∀ w, Y'.J i' w → ∃ (nn : Nat) (D : DataW Unit), w.ownsMap E.P k (plainElem E.P e) b nn D) → (∀ c, K (incF tm d (l.set 2 (some (.int .i64 c))) (.gh i' Y')) σ) →
   OpT E.P v 2 ⟨some (d + 2), .lookup T (.tmp (d + 0)) (.tmp (d + 1)) false, IT, pos, #[⟨0, .data⟩, ⟨1, .data⟩], none⟩ (incF tm d l (.gh i' Y')) σ K := fun {K l i' Y'} hl0 hl1 hl hY hk => by
  refine OpT.mono (K := fun tm' σ' => ∃ r, tm' = (incF tm d l (.gh i' Y')).putO (some (d + 2)) r ∧ (∃ c, r = .int .i64 c ∧ σ' = σ)) (OpKJ.ok (Jw := fun w => Y'.J i' w) (sH dW) fun Γ G ρ w hv hf hρ hw hJ' => ?_) ?_
  ·obtain ⟨nn, D, hown⟩ := hY w hJ'
   have r1 := vO (hρ (.tmp (d + 0)) (by simp [Op.operands]) _ ((xM hd6 (by omega)).trans (hl0.trans (congrArg some hmv.symm))))
   have r2 := hky G _ (by rw [hkv]; exact hρ (.tmp (d + 1)) (by simp [Op.operands]) _ ((xM hd6 (by omega)).trans hl1))
   obtain ⟨c, hrun, _, _⟩ := hown.lookup_int hKL hT he (hz w) r2
   have e1 : (execOp ρ ⟨some (d + 2), .lookup T (.tmp (d + 0)) (.tmp (d + 1)) false, IT, pos, #[⟨0, .data⟩, ⟨1, .data⟩], none⟩).run E.P w = .ok (.value (.int .i64 c)) w := by
    simp only [execOp, r1, hrun, Sem.run_bind, Sem.run_pure, Result.andThen_ok]
   rw [e1]
   exact ⟨G, _, σ, .refl G, fun _ _ _ _ _ => rfl, by rw [RepO, Rep]; exact ⟨rfl, rfl⟩, hw, c, rfl, rfl⟩
  ·rintro tm' σ' ⟨r, h1, c, h2, h3⟩
   rw [h1, h2, h3, iK hd6 hl (by omega)]
   exact hk c
 have sum : ∀ {K : Tm → Store → Prop} {l : List (Option OV)} {G : OV} {c : Int}, l.getD 2 none = some (.int .i64 c) → l.length = 6 → K (incF tm d (l.set 3 (some (.int .i64 (IntKind.i64.wrap (c + 1))))) G) σ →
   OpT E.P v 3 ⟨some (d + 3), .binOp .add IT (.tmp (d + 2)) (.const (.int .i64 1)) IT, IT, pos, #[⟨2, .data⟩], none⟩ (incF tm d l G) σ K := fun {K l G c} hl2 hl hk =>
  pure' 3 (sO ((xM hd6 (by omega)).trans hl2) rfl) rfl hl (by omega) hk
 have stamp : ∀ {K : Tm → Store → Prop} {l : List (Option OV)} {G : OV} {v0 : Value} {st : Nat}, l.getD 4 none = some (.tu [.d (.c v0), .int .i64 st]) → l.length = 6 → K (incF tm d (l.set 5 (some (.int .i64 st))) G) σ →
   OpT E.P v 5 ⟨some (d + 5), .extract (.tmp (d + 4)) 1, IT, pos, #[⟨4, .data⟩], none⟩ (incF tm d l G) σ K := fun {K l G v0 st} hl4 hl hk =>
  pure' 5 (kS ((xM hd6 (by omega)).trans hl4) rfl) rfl hl (by omega) hk
 -- what is known behind the entry's making
 let Pend : Nat → Obj → Prop := fun st ob => (∀ w2 : World, w2.heap[b]? = some ob → ∃ (nn : Nat) (D1 : DataW Unit), w2.ownsMap E.P k (plainElem E.P e) b nn D1) ∧
  ∀ (w2 : World) (c : Int), (Lit.int .i64 c).wf = true → w2.heap[b]? = some ob → ∃ ob', (Instr.entryStore T (.map (some b)) (goInt st) (.int .i64 c)).run E.P w2 = .ok () (w2.putObj b ob') ∧ YM.J (i + 1) (w2.putObj b ob')
 have enter : ∀ {K : Tm → Store → Prop} {l : List (Option OV)}, l.getD 0 none = some mv → l.getD 1 none = some kv → l.length = 6 → (∀ v0 st ob (ho : ob.isCells = false), Pend st ob → K (incF tm d (l.set 4 (some (.tu [.d (.c v0), .int .i64 st]))) (.gh 0 (objY g b ob ho))) σ) →
   OpT E.P v 4 ⟨some (d + 4), .mapEntry T (.tmp (d + 0)) (.tmp (d + 1)), 0, pos, #[⟨0, .data⟩, ⟨1, .data⟩, ⟨0, .phase⟩, ⟨1, .phase⟩, ⟨2, .textOnly .mapOpAssignEntry⟩, ⟨3, .textOnly .mapOpAssignEntry⟩], none⟩ (incF tm d l (.gh i YM)) σ K := fun {K l} hl0 hl1 hl hk => by
  refine pI (Y := YM) (b := b) (fun c h => by cases h) dW (fun x => by rw [← hYM]; exact Iff.rfl) fun G ρ w hρ hJ' => ?_
  rw [← hYM] at hJ'
  obtain ⟨nn, D, hJm, hown⟩ := hJ'
  have r1 := vO (hρ (.tmp (d + 0)) (by simp [Op.operands]) _ ((xM hd6 (by omega)).trans (hl0.trans (congrArg some hmv.symm))))
  have r2 := hky G _ (by rw [hkv]; exact hρ (.tmp (d + 1)) (by simp [Op.operands]) _ ((xM hd6 (by omega)).trans hl1))
  have hnn := (hJ nn D 0 hown.isMap hJm).1
  obtain ⟨v0, st, ob, hrun, ho, hv0, hD1, hst⟩ := entry_own KL hT he hz hown hnn r2
  refine ⟨.tuple #[v0, goInt st], .tu [.d (.c v0), .int .i64 st], ob, 0, objY g b ob ho, Or.inl ?_, ?_, ?_, by rw [← hYM]; rfl, fun _ => Iff.rfl, ?_⟩
  ·simp only [execOp, r1, hrun, Sem.run_bind, Sem.run_pure, Result.andThen_ok]
  ·rw [RepO]
   refine ⟨_, rfl, ?_⟩
   rw [RepOL]
   refine ⟨_, _, rfl, zO hv0, ?_⟩
   rw [RepOL]
   exact ⟨_, _, rfl, zO rfl, by rw [RepOL]⟩
  ·exact World.putObj_heap_same (Array.getElem?_eq_some_iff.1 (show w.heap[b]? = _ from hown.choose_spec.choose_spec.1)).1
  ·rw [iK hd6 hl (by omega), kF]
   refine hk v0 st ob ho ⟨hD1, fun w2 c hc hw2 => ?_⟩
   obtain ⟨ob', q1, q2⟩ := hst w2 c hc hw2
   refine ⟨ob', q1, ?_⟩
   rw [← hYM]
   exact ⟨nn + 1, _, (hJ nn D c hown.isMap hJm).2, q2⟩
 have store : ∀ {l : List (Option OV)} {c : Int} {st : Nat} {ob : Obj} {ho : ob.isCells = false}, l.getD 0 none = some mv → l.getD 3 none = some (.int .i64 c) → l.getD 5 none = some (.int .i64 st) → (Lit.int .i64 c).wf = true → Pend st ob →
   OpT E.P v 6 ⟨none, .entryStore T (.tmp (d + 0)) (.tmp (d + 5)) (.tmp (d + 3)), 0, pos, #[⟨0, .data⟩, ⟨5, .data⟩, ⟨3, .data⟩, ⟨4, .chain⟩, ⟨0, .phase⟩, ⟨1, .phase⟩, ⟨2, .phase⟩, ⟨3, .phase⟩, ⟨4, .phase⟩, ⟨5, .phase⟩], none⟩ (incF tm d l (.gh 0 (objY g b ob ho))) σ (anyT E.P v ops Qf 0 #[true, true, true, true, true, true, true]) := fun {l c st ob ho} hl0 hl3 hl5 hc hp => by
  refine pI (Y := objY g b ob ho) (b := b) (fun c h => by cases h) dW (fun x => Iff.rfl) fun G ρ w hρ hJ' => ?_
  have r1 := vO (hρ (.tmp (d + 0)) (by simp [Op.operands]) _ ((xM hd6 (by omega)).trans (hl0.trans (congrArg some hmv.symm))))
  have r2 := vO (hρ (.tmp (d + 5)) (by simp [Op.operands]) _ ((xM hd6 (by omega)).trans hl5))
  have r3 := vO (hρ (.tmp (d + 3)) (by simp [Op.operands]) _ ((xM hd6 (by omega)).trans hl3))
  obtain ⟨ob', q1, q2⟩ := hp.2 w c hc hJ'
  refine ⟨undef, .un, ob', i + 1, YM, Or.inr ⟨?_, rfl⟩, lE G, q2, by rw [← hYM]; rfl, fun x => by rw [← hYM]; exact Iff.rfl, ?_⟩
  ·have q1' : (Instr.entryStore T (.map (some b)) (.int .i64 st) (.int .i64 c)).run E.P w = .ok () (w.putObj b ob') := q1
   simp only [execOp, r1, r2, r3, q1', Sem.run_bind, Sem.run_pure, Result.andThen_ok]
  ·show anyT E.P v ops Qf 0 _ ((incF tm d l _).put GS _) σ
   rw [kF]
   exact ⟨rd _ _ (by kernel_rfl), fin l⟩
 have wf1 : ∀ c : Int, (Lit.int .i64 (IntKind.i64.wrap (c + 1))).wf = true := fun c => by
  simp only [Lit.wf, IntKind.min, IntKind.max, IntKind.signed, IntKind.bits, IntKind.wrap, Bool.and_eq_true, decide_eq_true_eq, if_true]
  split <;> rename_i h <;> simp at h <;> omega
 have openM : ∀ w, YM.J i w → ∃ (nn : Nat) (D : DataW Unit), w.ownsMap E.P k (plainElem E.P e) b nn D := fun w h => by
  rw [← hYM] at h
  obtain ⟨nn, D, _, h⟩ := h
  exact ⟨nn, D, h⟩
 have s22 : ∀ (c : Int) (v0 : Value) (st : Nat) (ob : Obj) (ho : ob.isCells = false), Pend st ob → anyT E.P v ops Qf 1 #[true, true, true, true, true, true, false] (incF tm d [some mv, some kv, some (.int .i64 c), some (.int .i64 (IntKind.i64.wrap (c + 1))), some (.tu [.d (.c v0), .int .i64 st]), some (.int .i64 st)] (.gh 0 (objY g b ob ho))) σ := fun c v0 st ob ho hp =>
  wG [6] (rd _ _ (by kernel_rfl)) (by simp) (aB ⟨_, o6, rfl, store rfl rfl rfl (wf1 c) hp⟩)
 have s21 : ∀ (c : Int) (v0 : Value) (st : Nat) (ob : Obj) (ho : ob.isCells = false), Pend st ob → anyT E.P v ops Qf 2 #[true, true, true, true, true, false, false] (incF tm d [some mv, some kv, some (.int .i64 c), some (.int .i64 (IntKind.i64.wrap (c + 1))), some (.tu [.d (.c v0), .int .i64 st]), none] (.gh 0 (objY g b ob ho))) σ := fun c v0 st ob ho hp =>
  wG [5] (rd _ _ (by kernel_rfl)) (by simp) (aB ⟨_, o5, rfl, stamp rfl rfl (s22 c v0 st ob ho hp)⟩)
 have s12 : ∀ (c : Int) (v0 : Value) (st : Nat) (ob : Obj) (ho : ob.isCells = false), Pend st ob → anyT E.P v ops Qf 2 #[true, true, true, false, true, true, false] (incF tm d [some mv, some kv, some (.int .i64 c), none, some (.tu [.d (.c v0), .int .i64 st]), some (.int .i64 st)] (.gh 0 (objY g b ob ho))) σ := fun c v0 st ob ho hp =>
  wG [3] (rd _ _ (by kernel_rfl)) (by simp) (aB ⟨_, o3, rfl, sum rfl rfl (s22 c v0 st ob ho hp)⟩)
 have s11 : ∀ (c : Int) (v0 : Value) (st : Nat) (ob : Obj) (ho : ob.isCells = false), Pend st ob → anyT E.P v ops Qf 3 #[true, true, true, false, true, false, false] (incF tm d [some mv, some kv, some (.int .i64 c), none, some (.tu [.d (.c v0), .int .i64 st]), none] (.gh 0 (objY g b ob ho))) σ := fun c v0 st ob ho hp =>
  wG [3, 5] (rd _ _ (by kernel_rfl)) (by simp) (dM ⟨_, o3, rfl, sum rfl rfl (s21 c v0 st ob ho hp)⟩ ⟨_, o5, rfl, stamp rfl rfl (s12 c v0 st ob ho hp)⟩)
 have s02 : ∀ (v0 : Value) (st : Nat) (ob : Obj) (ho : ob.isCells = false), Pend st ob → anyT E.P v ops Qf 3 #[true, true, false, false, true, true, false] (incF tm d [some mv, some kv, none, none, some (.tu [.d (.c v0), .int .i64 st]), some (.int .i64 st)] (.gh 0 (objY g b ob ho))) σ := fun v0 st ob ho hp =>
  wG [2] (rd _ _ (by kernel_rfl)) (by simp) (aB ⟨_, o2, rfl, look rfl rfl rfl (fun w h => hp.1 w h) fun c => s12 c v0 st ob ho hp⟩)
 have s01 : ∀ (v0 : Value) (st : Nat) (ob : Obj) (ho : ob.isCells = false), Pend st ob → anyT E.P v ops Qf 4 #[true, true, false, false, true, false, false] (incF tm d [some mv, some kv, none, none, some (.tu [.d (.c v0), .int .i64 st]), none] (.gh 0 (objY g b ob ho))) σ := fun v0 st ob ho hp =>
  wG [2, 5] (rd _ _ (by kernel_rfl)) (by simp) (dM ⟨_, o2, rfl, look rfl rfl rfl (fun w h => hp.1 w h) fun c => s11 c v0 st ob ho hp⟩ ⟨_, o5, rfl, stamp rfl rfl (s02 v0 st ob ho hp)⟩)
 have s20 : ∀ (c : Int), anyT E.P v ops Qf 3 #[true, true, true, true, false, false, false] (incF tm d [some mv, some kv, some (.int .i64 c), some (.int .i64 (IntKind.i64.wrap (c + 1))), none, none] (.gh i YM)) σ := fun c =>
  wG [4] (rd _ _ (by kernel_rfl)) (by simp) (aB ⟨_, o4, rfl, enter rfl rfl rfl fun v0 st ob ho hp => s21 c v0 st ob ho hp⟩)
 have s10 : ∀ (c : Int), anyT E.P v ops Qf 4 #[true, true, true, false, false, false, false] (incF tm d [some mv, some kv, some (.int .i64 c), none, none, none] (.gh i YM)) σ := fun c =>
  wG [3, 4] (rd _ _ (by kernel_rfl)) (by simp) (dM ⟨_, o3, rfl, sum rfl rfl (s20 c)⟩ ⟨_, o4, rfl, enter rfl rfl rfl fun v0 st ob ho hp => s11 c v0 st ob ho hp⟩)
 have s00 : anyT E.P v ops Qf 5 #[true, true, false, false, false, false, false] (incF tm d [some mv, some kv, none, none, none, none] (.gh i YM)) σ :=
  wG [2, 4] (rd _ _ (by kernel_rfl)) (by simp) (dM ⟨_, o2, rfl, look rfl rfl rfl openM s10⟩ ⟨_, o4, rfl, enter rfl rfl rfl fun v0 st ob ho hp => s01 v0 st ob ho hp⟩)
 have ld0 : ∀ {K : Tm → Store → Prop} {l : List (Option OV)}, l.length = 6 → K (incF tm d (l.set 0 (some mv)) (.gh i YM)) σ → OpT E.P v 0 ⟨some (d + 0), .load T (.tmp p0), T, pos, #[], none⟩ (incF tm d l (.gh i YM)) σ K := fun {K l} hl hk =>
  pure' 0 (cL hte hta ((iL (by omega) (Or.inl hp0)).trans h0) (by rw [List.getElem?_cons_zero])) rfl hl (by omega) (by rw [hmv]; exact hk)
 have ld1 : ∀ {K : Tm → Store → Prop} {l : List (Option OV)}, l.length = 6 → K (incF tm d (l.set 1 (some kv)) (.gh i YM)) σ → OpT E.P v 1 ⟨some (d + 1), .load KT (.tmp p1), KT, pos, #[], none⟩ (incF tm d l (.gh i YM)) σ K := fun {K l} hl hk => by
  refine pure' 1 (aG hke hka ((iL (by omega) (Or.inl hp1)).trans h1) (by omega)) rfl hl (by omega) ?_
  rw [hks, List.drop_zero, List.take_length, hkv]; exact hk
 have o0 : ops[0]? = some ⟨some (d + 0), .load T (.tmp p0), T, pos, #[], none⟩ := by rw [← hops]; rfl
 have o1 : ops[1]? = some ⟨some (d + 1), .load KT (.tmp p1), KT, pos, #[], none⟩ := by rw [← hops]; rfl
 have L0 : anyT E.P v ops Qf 6 #[true, false, false, false, false, false, false] (incF tm d [some mv, none, none, none, none, none] (.gh i YM)) σ :=
  wG [1] (rd _ _ (by kernel_rfl)) (by simp) (aB ⟨_, o1, rfl, ld1 rfl s00⟩)
 have L1 : anyT E.P v ops Qf 6 #[false, true, false, false, false, false, false] (incF tm d [none, some kv, none, none, none, none] (.gh i YM)) σ :=
  wG [0] (rd _ _ (by kernel_rfl)) (by simp) (aB ⟨_, o0, rfl, ld0 rfl s00⟩)
 have start : anyT E.P v ops Qf 7 #[false, false, false, false, false, false, false] (incF tm d [none, none, none, none, none, none] (.gh i YM)) σ :=
  wG [0, 1] (rd _ _ (by kernel_rfl)) (by simp) (dM ⟨_, o0, rfl, ld0 rfl L0⟩ ⟨_, o1, rfl, ld1 rfl L1⟩)
 have hle : (incF tm d [none, none, none, none, none, none] (.gh i YM)).le tm := fun t y hy => by
  unfold incF at hy
  by_cases e : t = GS
  ·rw [if_pos e] at hy; rw [e, hg, hYM]; exact hy
  ·rw [if_neg e] at hy
   by_cases h2 : d ≤ t ∧ t < d + 6
   ·rw [if_pos h2] at hy
    have : t - d = 0 ∨ t - d = 1 ∨ t - d = 2 ∨ t - d = 3 ∨ t - d = 4 ∨ t - d = 5 := by omega
    rcases this with h | h | h | h | h | h <;> rw [h] at hy <;> cases hy
   ·rw [if_neg h2] at hy; exact hy
 have mono : ∀ (fuel : Nat) (listed : Array Bool) (tm' tm : Tm), tm'.le tm → anyT E.P v ops Qf fuel listed tm' σ → (∀ t, Qf t σ → ∀ t', t.le t' → Qf t' σ) → anyT E.P v ops Qf fuel listed tm σ := fun fuel listed tm' tm hle h hq => by
  cases fuel with
  | zero => exact ⟨h.1, hq _ h.2 _ hle⟩
  | succ f => exact ⟨fun e => hq _ (h.1 e) _ hle, fun i hi => by
    obtain ⟨o, q1, q2, q3⟩ := h.2 i hi
    exact ⟨o, q1, q2, fun n C G a w ro next Q hd hro hN hfr hs hk => q3 n C G a w ro next Q hd hro hN hfr (hs.le hle fun _ _ e => e) hk⟩⟩
 refine mono 7 #[false, false, false, false, false, false, false] _ _ hle start fun t ⟨tx, h1, h2⟩ t' hlt => ⟨tx, fun s y hy => (h1 s y hy).imp (fun h => h) fun h => hlt s y h, h2⟩
end
section
variable {k s : Nat} {τ : Stamp} {rows : List (List TV)}
structure FrC (k : Nat) (τ : Stamp) (s : Nat) (rows : List (List TV)) (a b : List OV) : Prop where
 len : a.length = b.length
 cells : ∀ (o : Nat) (y' : OV), b[o]? = some y' → ∃ y : OV, a[o]? = some y ∧ Froz k τ s rows y y'
theorem xY : FrC k τ s rows [] [] := ⟨rfl, fun o y' h => by simp at h⟩
theorem vB {y y' : OV} {a b : List OV} (h : Froz k τ s rows y y') (hl : FrC k τ s rows a b) : FrC k τ s rows (y :: a) (y' :: b) :=
 ⟨by simp [hl.len], fun o z hz => by
  match o, hz with
  | 0, hz => cases hz; exact ⟨y, rfl, h⟩
  | o + 1, hz => exact hl.cells o z hz⟩
theorem yA {a : List OV} : FrC k τ s rows a a := ⟨rfl, fun _ y' h => ⟨y', h, .same y'⟩⟩
theorem xX {q : Nat} : FrozR k τ s rows ⟨q, []⟩ ⟨q, []⟩ := FrozR.same _
theorem vT {q : Nat} {a b : List OV} {l l' : List (List OV)} (h : FrC k τ s rows a b) (hl : FrozR k τ s rows ⟨q, l⟩ ⟨q, l'⟩) : FrozR k τ s rows ⟨q, a :: l⟩ ⟨q, b :: l'⟩ :=
 ⟨rfl, by simpa using hl.2.1, fun i row' hi => by
  match i, hi with
  | 0, hi => cases hi; exact ⟨a, rfl, h.len, h.cells⟩
  | i + 1, hi => exact hl.2.2 i row' hi⟩
end
theorem WRel.cell {Γ : Ctx} {G : Gh} {σ : Store} {w : World} {kx q i o : Nat} {τx : Stamp} {rows : List (List OV)} {row : List OV} {y y' : OV} (hw : WRel Γ G σ w) (hk : σ kx = some (τx, ⟨q, rows⟩)) (hr : rows[i]? = some row) (ho : row[o]? = some y) (hy : ∀ x, RepO G y x → RepO G y' x) :
  WRel Γ G (σ.put kx (τx, ⟨q, rows.set i (row.set o y')⟩)) w where
 mem := hw.mem
 own j τ' r' hj := by
  by_cases e : j = kx
  ·subst e
   rw [Store.put_self] at hj
   cases hj
   rcases hw.own j _ _ hk with ⟨_, g2⟩ | ⟨β, g1, ⟨cs, c1, c2, c3, c4⟩, g3, g4⟩
   ·have g2' : rows = [] := g2
    rw [g2'] at hr; simp at hr
   ·refine Or.inr ⟨β, g1, ⟨cs, c1, c2, by simpa using c3, fun i' row' hi => ?_⟩, g3, g4⟩
    by_cases ei : i' = i
    ·subst ei
     obtain ⟨d1, d2⟩ := c4 i' row hr
     have hlt : i' < rows.length := by
      rcases Nat.lt_or_ge i' rows.length with h | h
      ·exact h
      ·rw [List.getElem?_eq_none h] at hr; cases hr
     have hi' : (rows.set i' (row.set o y'))[i']? = some row' := hi
     rw [List.getElem?_set_self hlt] at hi'
     cases hi'
     refine ⟨by rw [List.length_set]; exact d1, fun o' z hz => ?_⟩
     by_cases eo : o' = o
     ·subst eo
      have hlo : o' < row.length := by
       rcases Nat.lt_or_ge o' row.length with h | h
       ·exact h
       ·rw [List.getElem?_eq_none h] at ho; cases ho
      rw [List.getElem?_set_self hlo] at hz
      cases hz
      obtain ⟨v, e6, e7⟩ := d2 o' y ho
      exact ⟨v, e6, hy v e7⟩
     ·rw [List.getElem?_set_ne (Ne.symm eo)] at hz
      exact d2 o' z hz
    ·have hi' : (rows.set i (row.set o y'))[i']? = some row' := hi
     rw [List.getElem?_set_ne (Ne.symm ei)] at hi'
     exact c4 i' row' hi'
  ·rw [Store.put_ne _ _ e] at hj
   exact hw.own j τ' r' hj
 inj j j' τ1 τ2 β β' r r' hj hj' hμ hμ' e := by
  have old : ∀ j τ r, (σ.put kx (τx, ⟨q, rows.set i (row.set o y')⟩)) j = some (τ, r) → ∃ r0, σ j = some (τ, r0) := fun j τ r h => by
   by_cases e : j = kx
   ·subst e; rw [Store.put_self] at h; cases h; exact ⟨_, hk⟩
   ·rw [Store.put_ne _ _ e] at h; exact ⟨r, h⟩
  obtain ⟨r1, h1⟩ := old _ _ _ hj
  obtain ⟨r2, h2⟩ := old _ _ _ hj'
  exact hw.inj j j' τ1 τ2 β β' r1 r2 h1 h2 hμ hμ' e
 keep := hw.keep
 size := hw.size
 tape := hw.tape
 os := hw.os
 output := hw.output
 g0 := hw.g0
 new := hw.new
 bound := hw.bound
 low := hw.low
theorem SRel.tell {n : Nat} {C : Cx} {G G' : Gh} {tm : Tm} {σ σ' : Store} {a : Act} {w : World} (hs : SRel n C G tm σ a w) (hle : G.le G') (hw : WRel C.Γ G' σ' w) : SRel n C G' tm σ' a w :=
 ⟨hs.size, hs.defers, hs.tm.mono hle, hw, hs.fix, hs.marks, fun i Y hi => let ⟨h1, h2, h3⟩ := hs.gh i Y hi; ⟨h1, h2.trans hle, h3⟩⟩
theorem jA {P : Program} {n : Nat} {c : Code} {Q : Exit → Tm → Store → Prop} {tm : Tm} {σ : Store} {kx q i o : Nat} {τx : Stamp} {rows : List (List OV)} {row : List OV} (k s : Nat) (hk : σ kx = some (τx, ⟨q, rows⟩)) (hr : rows[i]? = some row) (ho : row[o]? = some (.d (.c (.slice none 0 0)))) (hne : kx ≠ k)
  (h : ∀ τ, awp P n c Q tm ((σ.put k (τ, ⟨s, []⟩)).put kx (τx, ⟨q, rows.set i (row.set o (.os k τ s 0))⟩))) : awp P n c Q tm σ := fun C ro G a w hro hs => by
 obtain ⟨v, hv, hf⟩ := hs.w.free
 have hle := Gh.name_le G none (hf k 0)
 refine h (v, 0) C ro (G.name k (v, 0) none) a w hro (hs.tell hle ((hs.w.phantom k hv (hf k 0) s).cell (by rw [Store.put_ne _ _ hne]; exact hk) hr ho fun x hx => ?_))
 rw [RepO, Rep] at hx
 rw [RepO]
 exact Or.inr ⟨Gh.name_self _ _ _ _, hx.1, rfl⟩
def fam (f : Nat → Stamp × Row) (a : Nat) : Nat → Rows
 | 0 => []
 | m + 1 => (a + 1000, f a) :: fam f (a + 1) m
end Go.Proofs.YtnkocjkkefnelaaGreat
