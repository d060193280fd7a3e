/- Parts. -/
import Derived.Lib.SmallJoins
import Derived.WideKeyArgs
import Derived.Deep.SlicePairs
import Derived.SizedLaws
import Derived.ProofKit
import Derived.OpenShut
import Derived.Test.YtnkocjkkefnelaaGreatPg9
import Derived.Test.YtnkocjkkefnelaaGreatPg12
set_option linter.unusedVariables false
set_option linter.unusedSimpArgs false
set_option maxHeartbeats 4000000
set_option maxRecDepth 100000
namespace Go.Proofs.YtnkocjkkefnelaaGreat
open Go.RowKit Go.Maps Go.ChangeMaps Go.WideElems
open Go.WideMaps (KeyLaw)
theorem zP {P : Program} {w w' : World} {k : TypeId} {R : Value → Option (DataW Unit × List MemPlace)} {b n : Nat} {D : DataW Unit} (h : w.ownsMap P k R b n D) (hb : w'.heap[b]? = w.heap[b]?) : w'.ownsMap P k R b n D :=
 let ⟨es, clock, h1, r⟩ := h; ⟨es, clock, hb.trans h1, r⟩
theorem entry_own {P : Program} {w : World} {t k e : TypeId} {b n : Nat} {D : DataW Unit} {q : IntKind} (K : KeyLaw P k) (ht : P.underlying t = some (.map k e)) (he : P.underlying e = some (.int q)) (hz : ∀ u : World, (zeroValue e).run P u = .ok (.int q 0) u)
  (h : w.ownsMap P k (plainElem P e) b n D) (hn : n < maxLen) {key : Value} {kl : Lit} (hkey : keyOf P k key = some kl) :
  ∃ (v0 : Value) (st : Nat) (ob : Obj), (Instr.mapEntry t (.map (some b)) key).run P w = .ok (.tuple #[v0, goInt st]) (w.putObj b ob) ∧ ob.isCells = false ∧ v0.oneCell' = true ∧
   (∀ w2 : World, w2.heap[b]? = some ob → ∃ (nn : Nat) (D1 : DataW Unit), w2.ownsMap P k (plainElem P e) b nn D1) ∧
   ∀ (w2 : World) (c : Int), (Lit.int q c).wf = true → w2.heap[b]? = some ob → ∃ ob', (Instr.entryStore t (.map (some b)) (goInt st) (.int q c)).run P w2 = .ok () (w2.putObj b ob') ∧ (w2.putObj b ob').ownsMap P k (plainElem P e) b (n + 1) (D.put kl (.lit (.int q c))) := by
 have h0 := h
 have hK := Keyed.of_law K
 have hw0 : (Lit.int q 0).wf = true := by cases q <;> decide
 obtain ⟨es, clock, hb, F, hs, hD⟩ := h
 have hlt := (Array.getElem?_eq_some_iff.1 hb).1
 obtain ⟨v0, st, es1, clock1, hE, hcase, hS⟩ := entry_then_store K ht hz hb F hkey
 refine ⟨v0, st, .map es1 clock1, hE, rfl, ?_, ?_, ?_⟩
 ·rcases hcase with ⟨e0, h1, _, rfl⟩ | ⟨_, rfl⟩
  ·obtain ⟨y, hy⟩ := F.reads e0 h1
   obtain ⟨z, hz', _⟩ := rd_val hy
   obtain ⟨a, ha, _⟩ := plainElem_int_inv he hz'
   rw [ha]; rfl
  ·rfl
 ·-- what the map is behind the entry's making
  suffices hfit : ∃ (nn : Nat) (D1 : DataW Unit), (setBlock w b (.map es1 clock1)).ownsMap P k (plainElem P e) b nn D1 by
   obtain ⟨nn, D1, h1⟩ := hfit
   exact fun w2 h2 => ⟨nn, D1, zP h1 (h2.trans (heap_setBlock_same hb _).symm)⟩
  rcases K.find w hkey es.toList F.keys with ⟨h1, h2⟩ | ⟨j, e0, h1, h2, h3⟩
  ·have hE2 : (Instr.mapEntry t (.map (some b)) key).run P w = .ok (.tuple #[.int q 0, goInt clock]) (setBlock w b (.map (es.push ⟨key, .int q 0, clock⟩) (clock + 1))) := by
    simp [Instr.mapEntry, run_underlying ht, MapKept.run_getObj_map hb, K.check w false hkey, h1, hz, MapKept.run_setObj_map _ hb, Result.andThen, setBlock]
   have hU : (Instr.mapUpdate t (.map (some b)) key (.int q 0)).run P w = .ok () (setBlock w b (.map (es.push ⟨key, .int q 0, clock⟩) (clock + 1))) := by
    simp [Instr.mapUpdate, run_underlying ht, MapKept.run_getObj_map hb, K.check w false hkey, h1, MapKept.run_setObj_map _ hb, Result.andThen, setBlock]
   rw [hE2] at hE
   obtain ⟨w', hrun, hown', _⟩ := h0.store hK ht hn hkey (plainElem_int he hw0)
   rw [hU] at hrun
   simp only [Result.ok.injEq, true_and] at hrun
   have e1 : setBlock w b (.map (es.push ⟨key, .int q 0, clock⟩) (clock + 1)) = setBlock w b (.map es1 clock1) := by
    simp only [Result.ok.injEq] at hE; exact hE.2
   rw [← e1, hrun]
   exact ⟨_, _, hown'⟩
  ·have hj : es[j]? = some e0 := by simpa using h2
   have hsame : es.modify j (fun e => { e with key := key }) = es := by
    apply Array.ext'
    rw [Array.toList_modify, modify_eq_set _ _ _ _ h2]
    have : ({ e0 with key := key } : MapEntry) = e0 := by rw [← h3]
    rw [this]
    exact set_self _ _ _ h2
   have hE2 : (Instr.mapEntry t (.map (some b)) key).run P w = .ok (.tuple #[e0.val, goInt e0.born]) (setBlock w b (.map es clock)) := by
    simp [Instr.mapEntry, run_underlying ht, MapKept.run_getObj_map hb, K.check w false hkey, h1, hj, h3, K.stays w hkey, hsame, MapKept.run_setObj_map _ hb, Result.andThen, setBlock]
   rw [hE2] at hE
   have e1 : setBlock w b (.map es clock) = setBlock w b (.map es1 clock1) := by
    simp only [Result.ok.injEq] at hE; exact hE.2
   rw [← e1]
   exact ⟨_, _, zP h0 ((heap_setBlock_same hb _).trans hb.symm)⟩
 ·intro w2 c hc hw2
  obtain ⟨es', clock', hr1, hr2⟩ := hS w2 (.int q c) hw2
  obtain ⟨w', hrun, hown', _⟩ := h0.store hK ht hn hkey (plainElem_int he hc)
  rw [hr2] at hrun
  simp only [Result.ok.injEq, true_and] at hrun
  subst hrun
  exact ⟨.map es' clock', hr1, zP hown' ((heap_setBlock_same hw2 _).trans (heap_setBlock_same hb _).symm)⟩
def incF (tm : Tm) (d : Nat) (l : List (Option OV)) (g : OV) : Tm := fun t => if t = GS then some g else if d ≤ t ∧ t < d + 6 then l.getD (t - d) none else tm t
theorem xU {tm : Tm} {d : Nat} {l : List (Option OV)} {g : OV} {i : Nat} (hd : d + 6 ≤ GS) (hi : i < 6) : ev (incF tm d l g) (.tmp (d + i)) = l.getD i none := by
 show incF tm d l g (d + i) = _
 unfold incF
 rw [if_neg (by omega), if_pos (by omega), Nat.add_sub_cancel_left]
theorem jE {tm : Tm} {d : Nat} {l : List (Option OV)} {g : OV} {t : Nat} (h1 : t ≠ GS) (h2 : t < d ∨ d + 6 ≤ t) : ev (incF tm d l g) (.tmp t) = tm t := by
 show incF tm d l g t = _
 unfold incF
 rw [if_neg h1, if_neg (by omega)]
theorem eF {tm : Tm} {d : Nat} {l : List (Option OV)} {g : OV} : incF tm d l g GS = some g := if_pos rfl
theorem jD {tm : Tm} {d : Nat} {l : List (Option OV)} {g : OV} {i : Nat} (hd : d + 6 ≤ GS) (hl : l.length = 6) (hi : i < 6) (y : OV) : (incF tm d l g).putO (some (d + i)) y = incF tm d (l.set i (some y)) g := by
 funext t
 show (incF tm d l g).put (d + i) y t = _
 by_cases e : t = d + i
 ·subst e
  rw [Tm.put_self]
  unfold incF
  rw [if_neg (by omega), if_pos (by omega), Nat.add_sub_cancel_left]
  simp [List.getD_eq_getElem?_getD, hl, hi]
 ·rw [Tm.put_ne _ _ e]
  unfold incF
  by_cases h1 : t = GS
  ·rw [if_pos h1, if_pos h1]
  ·rw [if_neg h1, if_neg h1]
   by_cases h2 : d ≤ t ∧ t < d + 6
   ·rw [if_pos h2, if_pos h2]
    simp only [List.getD_eq_getElem?_getD]
    rw [List.getElem?_set_ne (by omega)]
   ·rw [if_neg h2, if_neg h2]
theorem lK {tm : Tm} {d : Nat} {l : List (Option OV)} {g g' : OV} : (incF tm d l g).put GS g' = incF tm d l g' := by
 funext t
 by_cases e : t = GS
 ·subst e; rw [Tm.put_self, eF]
 ·rw [Tm.put_ne _ _ e]
  unfold incF
  rw [if_neg e, if_neg e]
def incOps (T KT IT : TypeId) (p0 p1 d : Nat) (pos : String) : List Oper :=
  [⟨some (d + 0), .load T (.tmp p0), T, pos, #[], none⟩,
   ⟨some (d + 1), .load KT (.tmp p1), KT, pos, #[], none⟩,
   ⟨some (d + 2), .lookup T (.tmp (d + 0)) (.tmp (d + 1)) false, IT, pos, #[⟨0, .data⟩, ⟨1, .data⟩], none⟩,
   ⟨some (d + 3), .binOp .add IT (.tmp (d + 2)) (.const (.int .i64 1)) IT, IT, pos, #[⟨2, .data⟩], none⟩,
   ⟨some (d + 4), .mapEntry T (.tmp (d + 0)) (.tmp (d + 1)), 0, pos, #[⟨0, .data⟩, ⟨1, .data⟩, ⟨0, .phase⟩, ⟨1, .phase⟩, ⟨2, .textOnly .mapOpAssignEntry⟩, ⟨3, .textOnly .mapOpAssignEntry⟩], none⟩,
   ⟨some (d + 5), .extract (.tmp (d + 4)) 1, IT, pos, #[⟨4, .data⟩], none⟩,
   ⟨none, .entryStore T (.tmp (d + 0)) (.tmp (d + 5)) (.tmp (d + 3)), 0, pos, #[⟨0, .data⟩, ⟨5, .data⟩, ⟨3, .data⟩, ⟨4, .chain⟩, ⟨0, .phase⟩, ⟨1, .phase⟩, ⟨2, .phase⟩, ⟨3, .phase⟩, ⟨4, .phase⟩, ⟨5, .phase⟩], none⟩]
theorem wJ {P : Program} {v : Nat} {ops : Array Oper} {Q : Tm → Store → Prop} {fuel : Nat} {listed : Array Bool} {tm : Tm} {σ : Store} (l : List Nat) (hr : Region.ready .any ops listed = l) (hl : l ≠ [])
  (h : ∀ i ∈ l, ∃ o, ops[i]? = some o ∧ o.guard = none ∧ OpT P v i o tm σ (anyT P v ops Q fuel (listed.setIfInBounds i true))) : anyT P v ops Q (fuel + 1) listed tm σ := by
 unfold anyT
 rw [hr]
 exact ⟨fun e => (hl e).elim, h⟩
theorem aG {p : Nat → Prop} {a : Nat} (h : p a) : ∀ i ∈ [a], p i := fun i hi => by rw [List.mem_singleton.1 hi]; exact h
theorem dU {p : Nat → Prop} {a b : Nat} (h : p a) (h' : p b) : ∀ i ∈ [a, b], p i := fun i hi => by
 rcases List.mem_cons.1 hi with rfl | hi
 ·exact h
 ·rw [List.mem_singleton.1 hi]; exact h'
section
variable {E : Env} {T KT IT k e : TypeId} {q : IntKind} {n id p0 p1 d b i : Nat} {pos : String} {tm : Tm} {σ : Store} {Q : Exit → Tm → Store → Prop} {row : List TV} {kl : Lit} {g : Gh} {Jm : Nat → Nat → DataW Unit → Prop} {te ke : TE}
set_option maxHeartbeats 1000000 in
theorem rI (KL : KeyLaw E.P k) (hT : E.P.underlying T = some (.map k e)) (he : E.P.underlying e = some (.int .i64)) (hz : ∀ w, (zeroValue e).run E.P w = .ok (.int .i64 0) w)
  (hte : E.tab T = some te) (hta : te.k.isAgg = false) (hke : E.tab KT = some ke) (hka : ke.k.isAgg = true) (hks : ke.size = row.length)
  (hn : d + 6 ≤ n ∧ n ≤ GS) (hp0 : p0 < d) (hp1 : p1 < d) (h0 : tm p0 = some (.d (.pt [.c (.map (some b))] 0))) (h1 : tm p1 = some (.d (.pt row 0))) (hky : IsKeyV E.P k (.ag (row.map .d)) kl)
  (hg : tm GS = some (.gh i (mapY E.P k e g b Jm))) (hJ : ∀ nn D c, IsMap D → Jm i nn D → nn < maxLen ∧ Jm (i + 1) (nn + 1) (D.put kl (.lit (.int .i64 c))))
  (hQ : Q .normal ((((((( tm.put (d + 0) (.gh 0 (mapY E.P k e g b Jm))).put (d + 1) (.gh 0 (mapY E.P k e g b Jm))).put (d + 2) (.gh 0 (mapY E.P k e g b Jm))).put (d + 3) (.gh 0 (mapY E.P k e g b Jm))).put (d + 4) (.gh 0 (mapY E.P k e g b Jm))).put (d + 5) (.gh 0 (mapY E.P k e g b Jm))).put GS (.gh (i + 1) (mapY E.P k e g b Jm))) σ) :
  awp E.P n (.region id (incOps T KT IT p0 p1 d pos).toArray true) Q tm σ := by
 obtain ⟨hn1, hn2⟩ := hn
 have hd6 : d + 6 ≤ GS := Nat.le_trans hn1 hn2
 have hKL := Keyed.of_law KL
 refine awp_any ?_ fun v => ?_
 ·have b1 : ∀ i, i < 6 → Nat.blt (d + i) n = true := fun i hi => by simp; omega
  have b2 : Nat.ble n GS = true := by simpa using hn2
  simp only [dstsLt, incOps, List.all_cons, List.all_nil, b2, b1 0 (by omega), b1 1 (by omega), b1 2 (by omega), b1 3 (by omega), b1 4 (by omega), b1 5 (by omega), Bool.and_true]
 -- the ghosts: the map as it is; behind the entry's making; at the end
 obtain ⟨YM, hYM⟩ : ∃ YM, mapY E.P k e g b Jm = YM := ⟨_, rfl⟩
 obtain ⟨ops, hops⟩ : ∃ ops, (incOps T KT IT p0 p1 d pos).toArray = ops := ⟨_, rfl⟩
 obtain ⟨mv, hmv⟩ : ∃ mv, OV.d (.c (.map (some b))) = mv := ⟨_, rfl⟩
 obtain ⟨kv, hkv⟩ : ∃ kv, OV.ag (row.map .d) = kv := ⟨_, rfl⟩
 rw [hops]
 have o2 : ops[2]? = some ⟨some (d + 2), .lookup T (.tmp (d + 0)) (.tmp (d + 1)) false, IT, pos, #[⟨0, .data⟩, ⟨1, .data⟩], none⟩ := by rw [← hops]; rfl
 have o3 : ops[3]? = some ⟨some (d + 3), .binOp .add IT (.tmp (d + 2)) (.const (.int .i64 1)) IT, IT, pos, #[⟨2, .data⟩], none⟩ := by rw [← hops]; rfl
 have o4 : ops[4]? = some ⟨some (d + 4), .mapEntry T (.tmp (d + 0)) (.tmp (d + 1)), 0, pos, #[⟨0, .data⟩, ⟨1, .data⟩, ⟨0, .phase⟩, ⟨1, .phase⟩, ⟨2, .textOnly .mapOpAssignEntry⟩, ⟨3, .textOnly .mapOpAssignEntry⟩], none⟩ := by rw [← hops]; rfl
 have o5 : ops[5]? = some ⟨some (d + 5), .extract (.tmp (d + 4)) 1, IT, pos, #[⟨4, .data⟩], none⟩ := by rw [← hops]; rfl
 have o6 : ops[6]? = some ⟨none, .entryStore T (.tmp (d + 0)) (.tmp (d + 5)) (.tmp (d + 3)), 0, pos, #[⟨0, .data⟩, ⟨5, .data⟩, ⟨3, .data⟩, ⟨4, .chain⟩, ⟨0, .phase⟩, ⟨1, .phase⟩, ⟨2, .phase⟩, ⟨3, .phase⟩, ⟨4, .phase⟩, ⟨5, .phase⟩], none⟩ := by rw [← hops]; rfl
 have rd : ∀ listed l, Region.ready .any (incOps T KT IT p0 p1 d pos).toArray listed = l → Region.ready .any ops listed = l := fun listed l h => by rw [← hops]; exact h
 let Qf : Tm → Store → Prop := fun tm' σ' => ∃ tx, tx.sub tm' ∧ Q .normal tx σ'
 -- the end
 have fin : ∀ l, Qf (incF tm d l (.gh (i + 1) YM)) σ := fun l => by
  refine ⟨_, ?_, hYM ▸ hQ⟩
  intro t y ht
  by_cases e : t = GS
  ·subst e
   rw [Tm.put_self] at ht
   exact Or.inr (eF.trans ht)
  rw [Tm.put_ne _ _ e] at ht
  have no : ∀ j, t = d + j → some y = some (.gh 0 YM) → (t ≠ GS ∧ ∃ i Y, y = .gh i Y) ∨ incF tm d l (.gh (i + 1) YM) t = some y := fun j _ h => Or.inl ⟨e, _, _, Option.some.inj h⟩
  by_cases e5 : t = d + 5
  ·exact no 5 e5 (by rw [e5, Tm.put_self] at ht; exact ht.symm)
  rw [Tm.put_ne _ _ e5] at ht
  by_cases e4 : t = d + 4
  ·exact no 4 e4 (by rw [e4, Tm.put_self] at ht; exact ht.symm)
  rw [Tm.put_ne _ _ e4] at ht
  by_cases e3 : t = d + 3
  ·exact no 3 e3 (by rw [e3, Tm.put_self] at ht; exact ht.symm)
  rw [Tm.put_ne _ _ e3] at ht
  by_cases e2 : t = d + 2
  ·exact no 2 e2 (by rw [e2, Tm.put_self] at ht; exact ht.symm)
  rw [Tm.put_ne _ _ e2] at ht
  by_cases e1 : t = d + 1
  ·exact no 1 e1 (by rw [e1, Tm.put_self] at ht; exact ht.symm)
  rw [Tm.put_ne _ _ e1] at ht
  by_cases e0 : t = d + 0
  ·exact no 0 e0 (by rw [e0, Tm.put_self] at ht; exact ht.symm)
  rw [Tm.put_ne _ _ e0] at ht
  exact Or.inr ((jE e (by omega)).trans ht)
 -- an operation that turns no world
 have pure' : ∀ {j : Nat} {o : Oper} {l : List (Option OV)} {G : OV} {r : OV} {K : Tm → Store → Prop} (jj : Nat), YL E.P v j o (incF tm d l G) σ [] r [] → o.dst = some (d + jj) → l.length = 6 → jj < 6 → K (incF tm d (l.set jj (some r)) G) σ → OpT E.P v j o (incF tm d l G) σ K := fun {j o l G r K} jj hy hdst hl hjj hk => by
  refine (hy.ok (K := fun r' σ' => r' = r ∧ σ' = σ) ⟨rfl, rfl⟩).mono ?_
  rintro tm' σ' ⟨r', h1, h2, h3⟩
  rw [h1, h2, h3, hdst, jD hd6 hl hjj]
  exact hk
 have look : ∀ {K : Tm → Store → Prop} {l : List (Option OV)} {i' : Nat} {Y' : YJ}, l.getD 0 none = some mv → l.getD 1 none = some kv → l.length = 6 → (∀ w, Y'.J i' w → ∃ (nn : Nat) (D : DataW Unit), w.ownsMap E.P k (plainElem E.P e) b nn D) → (∀ c, K (incF tm d (l.set 2 (some (.int .i64 c))) (.gh i' Y')) σ) →
   OpT E.P v 2 ⟨some (d + 2), .lookup T (.tmp (d + 0)) (.tmp (d + 1)) false, IT, pos, #[⟨0, .data⟩, ⟨1, .data⟩], none⟩ (incF tm d l (.gh i' Y')) σ K := fun {K l i' Y'} hl0 hl1 hl hY hk => by
  refine OpT.mono (K := fun tm' σ' => ∃ r, tm' = (incF tm d l (.gh i' Y')).putO (some (d + 2)) r ∧ (∃ c, r = .int .i64 c ∧ σ' = σ)) (OpKJ.ok (Jw := fun w => Y'.J i' w) (rA eF) fun Γ G ρ w hv hf hρ hw hJ' => ?_) ?_
  ·obtain ⟨nn, D, hown⟩ := hY w hJ'
   have r1 := vO (hρ (.tmp (d + 0)) (by simp [Op.operands]) _ ((xU hd6 (by omega)).trans (hl0.trans (congrArg some hmv.symm))))
   have r2 := hky G _ (by rw [hkv]; exact hρ (.tmp (d + 1)) (by simp [Op.operands]) _ ((xU hd6 (by omega)).trans hl1))
   obtain ⟨c, hrun, _, _⟩ := hown.lookup_int hKL hT he (hz w) r2
   have e1 : (execOp ρ ⟨some (d + 2), .lookup T (.tmp (d + 0)) (.tmp (d + 1)) false, IT, pos, #[⟨0, .data⟩, ⟨1, .data⟩], none⟩).run E.P w = .ok (.value (.int .i64 c)) w := by
    simp only [execOp, r1, hrun, Sem.run_bind, Sem.run_pure, Result.andThen_ok]
   rw [e1]
   exact ⟨G, _, σ, .refl G, fun _ _ _ _ _ => rfl, by rw [RepO, Rep]; exact ⟨rfl, rfl⟩, hw, c, rfl, rfl⟩
  ·rintro tm' σ' ⟨r, h1, c, h2, h3⟩
   rw [h1, h2, h3, jD hd6 hl (by omega)]
   exact hk c
 have sum : ∀ {K : Tm → Store → Prop} {l : List (Option OV)} {G : OV} {c : Int}, l.getD 2 none = some (.int .i64 c) → l.length = 6 → K (incF tm d (l.set 3 (some (.int .i64 (IntKind.i64.wrap (c + 1))))) G) σ →
   OpT E.P v 3 ⟨some (d + 3), .binOp .add IT (.tmp (d + 2)) (.const (.int .i64 1)) IT, IT, pos, #[⟨2, .data⟩], none⟩ (incF tm d l G) σ K := fun {K l G c} hl2 hl hk =>
  pure' 3 (tU ((xU hd6 (by omega)).trans hl2) rfl) rfl hl (by omega) hk
 have stamp : ∀ {K : Tm → Store → Prop} {l : List (Option OV)} {G : OV} {v0 : Value} {st : Nat}, l.getD 4 none = some (.tu [.d (.c v0), .int .i64 st]) → l.length = 6 → K (incF tm d (l.set 5 (some (.int .i64 st))) G) σ →
   OpT E.P v 5 ⟨some (d + 5), .extract (.tmp (d + 4)) 1, IT, pos, #[⟨4, .data⟩], none⟩ (incF tm d l G) σ K := fun {K l G v0 st} hl4 hl hk =>
  pure' 5 (lZ ((xU hd6 (by omega)).trans hl4) rfl) rfl hl (by omega) hk
 -- what is known behind the entry's making
 let Pend : Nat → Obj → Prop := fun st ob => (∀ w2 : World, w2.heap[b]? = some ob → ∃ (nn : Nat) (D1 : DataW Unit), w2.ownsMap E.P k (plainElem E.P e) b nn D1) ∧
  ∀ (w2 : World) (c : Int), (Lit.int .i64 c).wf = true → w2.heap[b]? = some ob → ∃ ob', (Instr.entryStore T (.map (some b)) (goInt st) (.int .i64 c)).run E.P w2 = .ok () (w2.putObj b ob') ∧ YM.J (i + 1) (w2.putObj b ob')
 have enter : ∀ {K : Tm → Store → Prop} {l : List (Option OV)}, l.getD 0 none = some mv → l.getD 1 none = some kv → l.length = 6 → (∀ v0 st ob (ho : ob.isCells = false), Pend st ob → K (incF tm d (l.set 4 (some (.tu [.d (.c v0), .int .i64 st]))) (.gh 0 (objY g b ob ho))) σ) →
   OpT E.P v 4 ⟨some (d + 4), .mapEntry T (.tmp (d + 0)) (.tmp (d + 1)), 0, pos, #[⟨0, .data⟩, ⟨1, .data⟩, ⟨0, .phase⟩, ⟨1, .phase⟩, ⟨2, .textOnly .mapOpAssignEntry⟩, ⟨3, .textOnly .mapOpAssignEntry⟩], none⟩ (incF tm d l (.gh i YM)) σ K := fun {K l} hl0 hl1 hl hk => by
  refine gW (Y := YM) (b := b) (fun c h => by cases h) eF (fun x => by rw [← hYM]; exact Iff.rfl) fun G ρ w hρ hJ' => ?_
  rw [← hYM] at hJ'
  obtain ⟨nn, D, hJm, hown⟩ := hJ'
  have r1 := vO (hρ (.tmp (d + 0)) (by simp [Op.operands]) _ ((xU hd6 (by omega)).trans (hl0.trans (congrArg some hmv.symm))))
  have r2 := hky G _ (by rw [hkv]; exact hρ (.tmp (d + 1)) (by simp [Op.operands]) _ ((xU hd6 (by omega)).trans hl1))
  have hnn := (hJ nn D 0 hown.isMap hJm).1
  obtain ⟨v0, st, ob, hrun, ho, hv0, hD1, hst⟩ := entry_own KL hT he hz hown hnn r2
  refine ⟨.tuple #[v0, goInt st], .tu [.d (.c v0), .int .i64 st], ob, 0, objY g b ob ho, Or.inl ?_, ?_, ?_, by rw [← hYM]; rfl, fun _ => Iff.rfl, ?_⟩
  ·simp only [execOp, r1, hrun, Sem.run_bind, Sem.run_pure, Result.andThen_ok]
  ·rw [RepO]
   refine ⟨_, rfl, ?_⟩
   rw [RepOL]
   refine ⟨_, _, rfl, aE hv0, ?_⟩
   rw [RepOL]
   exact ⟨_, _, rfl, aE rfl, by rw [RepOL]⟩
  ·exact World.putObj_heap_same (Array.getElem?_eq_some_iff.1 (show w.heap[b]? = _ from hown.choose_spec.choose_spec.1)).1
  ·rw [jD hd6 hl (by omega), lK]
   refine hk v0 st ob ho ⟨hD1, fun w2 c hc hw2 => ?_⟩
   obtain ⟨ob', q1, q2⟩ := hst w2 c hc hw2
   refine ⟨ob', q1, ?_⟩
   rw [← hYM]
   exact ⟨nn + 1, _, (hJ nn D c hown.isMap hJm).2, q2⟩
 have store : ∀ {l : List (Option OV)} {c : Int} {st : Nat} {ob : Obj} {ho : ob.isCells = false}, l.getD 0 none = some mv → l.getD 3 none = some (.int .i64 c) → l.getD 5 none = some (.int .i64 st) → (Lit.int .i64 c).wf = true → Pend st ob →
   OpT E.P v 6 ⟨none, .entryStore T (.tmp (d + 0)) (.tmp (d + 5)) (.tmp (d + 3)), 0, pos, #[⟨0, .data⟩, ⟨5, .data⟩, ⟨3, .data⟩, ⟨4, .chain⟩, ⟨0, .phase⟩, ⟨1, .phase⟩, ⟨2, .phase⟩, ⟨3, .phase⟩, ⟨4, .phase⟩, ⟨5, .phase⟩], none⟩ (incF tm d l (.gh 0 (objY g b ob ho))) σ (anyT E.P v ops Qf 0 #[true, true, true, true, true, true, true]) := fun {l c st ob ho} hl0 hl3 hl5 hc hp => by
  refine gW (Y := objY g b ob ho) (b := b) (fun c h => by cases h) eF (fun x => Iff.rfl) fun G ρ w hρ hJ' => ?_
  have r1 := vO (hρ (.tmp (d + 0)) (by simp [Op.operands]) _ ((xU hd6 (by omega)).trans (hl0.trans (congrArg some hmv.symm))))
  have r2 := vO (hρ (.tmp (d + 5)) (by simp [Op.operands]) _ ((xU hd6 (by omega)).trans hl5))
  have r3 := vO (hρ (.tmp (d + 3)) (by simp [Op.operands]) _ ((xU hd6 (by omega)).trans hl3))
  obtain ⟨ob', q1, q2⟩ := hp.2 w c hc hJ'
  refine ⟨undef, .un, ob', i + 1, YM, Or.inr ⟨?_, rfl⟩, iK G, q2, by rw [← hYM]; rfl, fun x => by rw [← hYM]; exact Iff.rfl, ?_⟩
  ·have q1' : (Instr.entryStore T (.map (some b)) (.int .i64 st) (.int .i64 c)).run E.P w = .ok () (w.putObj b ob') := q1
   simp only [execOp, r1, r2, r3, q1', Sem.run_bind, Sem.run_pure, Result.andThen_ok]
  ·show anyT E.P v ops Qf 0 _ ((incF tm d l _).put GS _) σ
   rw [lK]
   exact ⟨rd _ _ (by kernel_rfl), fin l⟩
 have wf1 : ∀ c : Int, (Lit.int .i64 (IntKind.i64.wrap (c + 1))).wf = true := fun c => by
  simp only [Lit.wf, IntKind.min, IntKind.max, IntKind.signed, IntKind.bits, IntKind.wrap, Bool.and_eq_true, decide_eq_true_eq, if_true]
  split <;> rename_i h <;> simp at h <;> omega
 have openM : ∀ w, YM.J i w → ∃ (nn : Nat) (D : DataW Unit), w.ownsMap E.P k (plainElem E.P e) b nn D := fun w h => by
  rw [← hYM] at h
  obtain ⟨nn, D, _, h⟩ := h
  exact ⟨nn, D, h⟩
 have s22 : ∀ (c : Int) (v0 : Value) (st : Nat) (ob : Obj) (ho : ob.isCells = false), Pend st ob → anyT E.P v ops Qf 1 #[true, true, true, true, true, true, false] (incF tm d [some mv, some kv, some (.int .i64 c), some (.int .i64 (IntKind.i64.wrap (c + 1))), some (.tu [.d (.c v0), .int .i64 st]), some (.int .i64 st)] (.gh 0 (objY g b ob ho))) σ := fun c v0 st ob ho hp =>
  wJ [6] (rd _ _ (by kernel_rfl)) (by simp) (aG ⟨_, o6, rfl, store rfl rfl rfl (wf1 c) hp⟩)
 have s21 : ∀ (c : Int) (v0 : Value) (st : Nat) (ob : Obj) (ho : ob.isCells = false), Pend st ob → anyT E.P v ops Qf 2 #[true, true, true, true, true, false, false] (incF tm d [some mv, some kv, some (.int .i64 c), some (.int .i64 (IntKind.i64.wrap (c + 1))), some (.tu [.d (.c v0), .int .i64 st]), none] (.gh 0 (objY g b ob ho))) σ := fun c v0 st ob ho hp =>
  wJ [5] (rd _ _ (by kernel_rfl)) (by simp) (aG ⟨_, o5, rfl, stamp rfl rfl (s22 c v0 st ob ho hp)⟩)
 have s12 : ∀ (c : Int) (v0 : Value) (st : Nat) (ob : Obj) (ho : ob.isCells = false), Pend st ob → anyT E.P v ops Qf 2 #[true, true, true, false, true, true, false] (incF tm d [some mv, some kv, some (.int .i64 c), none, some (.tu [.d (.c v0), .int .i64 st]), some (.int .i64 st)] (.gh 0 (objY g b ob ho))) σ := fun c v0 st ob ho hp =>
  wJ [3] (rd _ _ (by kernel_rfl)) (by simp) (aG ⟨_, o3, rfl, sum rfl rfl (s22 c v0 st ob ho hp)⟩)
 have s11 : ∀ (c : Int) (v0 : Value) (st : Nat) (ob : Obj) (ho : ob.isCells = false), Pend st ob → anyT E.P v ops Qf 3 #[true, true, true, false, true, false, false] (incF tm d [some mv, some kv, some (.int .i64 c), none, some (.tu [.d (.c v0), .int .i64 st]), none] (.gh 0 (objY g b ob ho))) σ := fun c v0 st ob ho hp =>
  wJ [3, 5] (rd _ _ (by kernel_rfl)) (by simp) (dU ⟨_, o3, rfl, sum rfl rfl (s21 c v0 st ob ho hp)⟩ ⟨_, o5, rfl, stamp rfl rfl (s12 c v0 st ob ho hp)⟩)
 have s02 : ∀ (v0 : Value) (st : Nat) (ob : Obj) (ho : ob.isCells = false), Pend st ob → anyT E.P v ops Qf 3 #[true, true, false, false, true, true, false] (incF tm d [some mv, some kv, none, none, some (.tu [.d (.c v0), .int .i64 st]), some (.int .i64 st)] (.gh 0 (objY g b ob ho))) σ := fun v0 st ob ho hp =>
  wJ [2] (rd _ _ (by kernel_rfl)) (by simp) (aG ⟨_, o2, rfl, look rfl rfl rfl (fun w h => hp.1 w h) fun c => s12 c v0 st ob ho hp⟩)
 have s01 : ∀ (v0 : Value) (st : Nat) (ob : Obj) (ho : ob.isCells = false), Pend st ob → anyT E.P v ops Qf 4 #[true, true, false, false, true, false, false] (incF tm d [some mv, some kv, none, none, some (.tu [.d (.c v0), .int .i64 st]), none] (.gh 0 (objY g b ob ho))) σ := fun v0 st ob ho hp =>
  wJ [2, 5] (rd _ _ (by kernel_rfl)) (by simp) (dU ⟨_, o2, rfl, look rfl rfl rfl (fun w h => hp.1 w h) fun c => s11 c v0 st ob ho hp⟩ ⟨_, o5, rfl, stamp rfl rfl (s02 v0 st ob ho hp)⟩)
 have s20 : ∀ (c : Int), anyT E.P v ops Qf 3 #[true, true, true, true, false, false, false] (incF tm d [some mv, some kv, some (.int .i64 c), some (.int .i64 (IntKind.i64.wrap (c + 1))), none, none] (.gh i YM)) σ := fun c =>
  wJ [4] (rd _ _ (by kernel_rfl)) (by simp) (aG ⟨_, o4, rfl, enter rfl rfl rfl fun v0 st ob ho hp => s21 c v0 st ob ho hp⟩)
 have s10 : ∀ (c : Int), anyT E.P v ops Qf 4 #[true, true, true, false, false, false, false] (incF tm d [some mv, some kv, some (.int .i64 c), none, none, none] (.gh i YM)) σ := fun c =>
  wJ [3, 4] (rd _ _ (by kernel_rfl)) (by simp) (dU ⟨_, o3, rfl, sum rfl rfl (s20 c)⟩ ⟨_, o4, rfl, enter rfl rfl rfl fun v0 st ob ho hp => s11 c v0 st ob ho hp⟩)
 have s00 : anyT E.P v ops Qf 5 #[true, true, false, false, false, false, false] (incF tm d [some mv, some kv, none, none, none, none] (.gh i YM)) σ :=
  wJ [2, 4] (rd _ _ (by kernel_rfl)) (by simp) (dU ⟨_, o2, rfl, look rfl rfl rfl openM s10⟩ ⟨_, o4, rfl, enter rfl rfl rfl fun v0 st ob ho hp => s01 v0 st ob ho hp⟩)
 have ld0 : ∀ {K : Tm → Store → Prop} {l : List (Option OV)}, l.length = 6 → K (incF tm d (l.set 0 (some mv)) (.gh i YM)) σ → OpT E.P v 0 ⟨some (d + 0), .load T (.tmp p0), T, pos, #[], none⟩ (incF tm d l (.gh i YM)) σ K := fun {K l} hl hk =>
  pure' 0 (cR hte hta ((jE (by omega) (Or.inl hp0)).trans h0) (by rw [List.getElem?_cons_zero])) rfl hl (by omega) (by rw [hmv]; exact hk)
 have ld1 : ∀ {K : Tm → Store → Prop} {l : List (Option OV)}, l.length = 6 → K (incF tm d (l.set 1 (some kv)) (.gh i YM)) σ → OpT E.P v 1 ⟨some (d + 1), .load KT (.tmp p1), KT, pos, #[], none⟩ (incF tm d l (.gh i YM)) σ K := fun {K l} hl hk => by
  refine pure' 1 (aO hke hka ((jE (by omega) (Or.inl hp1)).trans h1) (by omega)) rfl hl (by omega) ?_
  rw [hks, List.drop_zero, List.take_length, hkv]; exact hk
 have o0 : ops[0]? = some ⟨some (d + 0), .load T (.tmp p0), T, pos, #[], none⟩ := by rw [← hops]; rfl
 have o1 : ops[1]? = some ⟨some (d + 1), .load KT (.tmp p1), KT, pos, #[], none⟩ := by rw [← hops]; rfl
 have L0 : anyT E.P v ops Qf 6 #[true, false, false, false, false, false, false] (incF tm d [some mv, none, none, none, none, none] (.gh i YM)) σ :=
  wJ [1] (rd _ _ (by kernel_rfl)) (by simp) (aG ⟨_, o1, rfl, ld1 rfl s00⟩)
 have L1 : anyT E.P v ops Qf 6 #[false, true, false, false, false, false, false] (incF tm d [none, some kv, none, none, none, none] (.gh i YM)) σ :=
  wJ [0] (rd _ _ (by kernel_rfl)) (by simp) (aG ⟨_, o0, rfl, ld0 rfl s00⟩)
 have start : anyT E.P v ops Qf 7 #[false, false, false, false, false, false, false] (incF tm d [none, none, none, none, none, none] (.gh i YM)) σ :=
  wJ [0, 1] (rd _ _ (by kernel_rfl)) (by simp) (dU ⟨_, o0, rfl, ld0 rfl L0⟩ ⟨_, o1, rfl, ld1 rfl L1⟩)
 have hle : (incF tm d [none, none, none, none, none, none] (.gh i YM)).le tm := fun t y hy => by
  unfold incF at hy
  by_cases e : t = GS
  ·rw [if_pos e] at hy; rw [e, hg, hYM]; exact hy
  ·rw [if_neg e] at hy
   by_cases h2 : d ≤ t ∧ t < d + 6
   ·rw [if_pos h2] at hy
    have : t - d = 0 ∨ t - d = 1 ∨ t - d = 2 ∨ t - d = 3 ∨ t - d = 4 ∨ t - d = 5 := by omega
    rcases this with h | h | h | h | h | h <;> rw [h] at hy <;> cases hy
   ·rw [if_neg h2] at hy; exact hy
 have mono : ∀ (fuel : Nat) (listed : Array Bool) (tm' tm : Tm), tm'.le tm → anyT E.P v ops Qf fuel listed tm' σ → (∀ t, Qf t σ → ∀ t', t.le t' → Qf t' σ) → anyT E.P v ops Qf fuel listed tm σ := fun fuel listed tm' tm hle h hq => by
  cases fuel with
  | zero => exact ⟨h.1, hq _ h.2 _ hle⟩
  | succ f => exact ⟨fun e => hq _ (h.1 e) _ hle, fun i hi => by
    obtain ⟨o, q1, q2, q3⟩ := h.2 i hi
    exact ⟨o, q1, q2, fun n C G a w ro next Q hd hro hN hfr hs hk => q3 n C G a w ro next Q hd hro hN hfr (hs.le hle fun _ _ e => e) hk⟩⟩
 refine mono 7 #[false, false, false, false, false, false, false] _ _ hle start fun t ⟨tx, h1, h2⟩ t' hlt => ⟨tx, fun s y hy => (h1 s y hy).imp (fun h => h) fun h => hlt s y h, h2⟩
end
def PairsZ (B : Nat) (w : World) (s : Sl) (l : List (Int × Int)) : Prop :=
 s.n = l.length ∧ l.length ≤ 1152921504606846976 ∧
 (l = [] ∨ ∃ b off, s.a = some ⟨b, off, none⟩ ∧ b < B ∧ ∀ k, k < l.length → w.cell? ⟨b, off + k * 2, none⟩ = some (.int .i64 (l.getD k (0, 0)).1) ∧ w.cell? ⟨b, off + k * 2 + 1, none⟩ = some (.int .i64 (l.getD k (0, 0)).2))
theorem PairsZ.below {B : Nat} {w w' : World} {s : Sl} {l : List (Int × Int)} (h : PairsZ B w s l) (hb : Below B w w') : PairsZ B w' s l := by
 obtain ⟨h1, h2, h3⟩ := h
 refine ⟨h1, h2, ?_⟩
 rcases h3 with h3 | ⟨b, off, h4, h5, h6⟩
 ·exact Or.inl h3
 ·exact Or.inr ⟨b, off, h4, h5, fun k hk => by rw [hb.cell (by exact h5), hb.cell (by exact h5)]; exact h6 k hk⟩
theorem PairsZ.mono {B B' : Nat} {w : World} {s : Sl} {l : List (Int × Int)} (h : PairsZ B w s l) (hB : B ≤ B') : PairsZ B' w s l := by
 obtain ⟨h1, h2, h3⟩ := h
 refine ⟨h1, h2, ?_⟩
 rcases h3 with h3 | ⟨b, off, h4, h5, h6⟩
 ·exact Or.inl h3
 ·exact Or.inr ⟨b, off, h4, by omega, h6⟩
def outB (n : Int) (p : Int × Int) : Bool := decide (p.1 < 0) || decide (n ≤ p.1) || decide (p.2 < 0) || decide (n ≤ p.2)
abbrev Gone := Nat → Bool
def updB (g : Gone) (p : Nat) : Gone := fun i => if i = p then true else g i
def ledB (l : List (Int × Int)) (g : Gone) (p : Nat) : Bool := l.any (fun q => (q.2 == (p : Int)) && !g q.1.toNat)
def takeP (l : List (Int × Int)) (g : Gone) (p : Nat) : Gone := if ledB l g p then g else updB g p
def passTo (l : List (Int × Int)) (g : Gone) (k : Nat) : Gone := (List.range k).foldl (takeP l) g
def roundsTo (l : List (Int × Int)) (n : Nat) : Nat → Gone
 | 0 => fun _ => false
 | r + 1 => passTo l (roundsTo l n r) n
def circleB (n : Nat) (l : List (Int × Int)) : Bool := (List.range n).any (fun p => !roundsTo l n n p)
theorem bH (l : List (Int × Int)) (g : Gone) (k : Nat) : passTo l g (k + 1) = takeP l (passTo l g k) k := by
 simp [passTo, List.range_succ, List.foldl_append]
theorem iL (l : List (Int × Int)) (g : Gone) (p i : Nat) (h : g i = true) : takeP l g p i = true := by
 unfold takeP
 split
 ·exact h
 ·unfold updB; split
  ·rfl
  ·exact h
theorem passTo_mono (l : List (Int × Int)) (g : Gone) (k i : Nat) (h : g i = true) : passTo l g k i = true := by
 induction k with
 | zero => exact h
 | succ k ih => rw [bH]; exact iL _ _ _ _ ih
open Go.RowKit Go.ChangeShapes Go.WideShapes Go.Deep
theorem below_sameAt {n : Nat} {W W' : World} {q : MemPlace} (h : Below n W W') (hq : q.block < n) : W.sameAt W' q := by
 cases q with
 | cell b o => exact World.cell?_of_block (w := W) (h.block b hq)
 | map b => exact h.block b hq
theorem kQ {H : Type} {enc : TypeId × Value → H} {W W' : World} (hl : laidOutB Tryz.prog = true) (hb : Below W.heap.size W W') :
  ∀ {ts : List TypeId} {vs : List Value} {ds : List (DataW H)} {p : List MemPlace}, (∀ t ∈ ts, Tryz.prog.readableRec t = true ∧ t < Tryz.prog.types.size) → DataW.TrodAll enc Tryz.prog W 0 (fun _ => true) true ts vs ds p → (∀ q ∈ p, q.block < W.heap.size) →
   ∀ sp : Nat → Bool, (∀ q ∈ p, sp q.block = true) → DataW.TrodAll enc Tryz.prog W' 0 sp true ts vs ds p
 | [], vs, ds, p, _, h, _, sp, _ => by
  obtain ⟨rfl, rfl, rfl⟩ := trodAll_nil h
  exact trodAll_mk0
 | t :: ts, vs, ds, p, ht, h, hlt, sp, hsp => by
  obtain ⟨v, vs', d, ds', p0, p1, rfl, rfl, rfl, h0, r0⟩ := trodAll_cons h
  have h1 := WideElems.Trod_stays hl (ht t (by simp)).1 (ht t (by simp)).2 (W' := W') (sp' := sp) h0 (fun q hq => below_sameAt hb (hlt q (by simp [hq]))) (fun q hq => hsp q (by simp [hq]))
  exact trodAll_cons_mk h1 (kQ hl hb (fun t' ht' => ht t' (by simp [ht'])) r0 (fun q hq => hlt q (by simp [hq])) sp (fun q hq => hsp q (by simp [hq])))
theorem laid_ok : laidOutB Tryz.prog = true := by kernel_rfl
theorem kM {H : Type} {P : Program} {e : TypeId} : ∀ {es : List (DataW H)} {d : DataW H}, d ∈ es → ∀ n ∈ d.weights P e, n ∈ DataW.weightsAll P e es
 | [], _, h, _, _ => by cases h
 | x :: es, d, h, n, hn => by
  simp only [DataW.weightsAll, List.mem_append]
  rcases List.mem_cons.1 h with rfl | h
  ·exact Or.inl hn
  ·exact Or.inr (kM h n hn)
theorem mJ {H : Type} {P : Program} {t e : TypeId} {es sp : List (DataW H)} (ht : P.underlying t = some (.slice e)) (h : ∀ n ∈ (DataW.slice es sp).weights P t, n ≤ reachBytes) :
  (es.length + sp.length) * P.bytesOf e ≤ reachBytes ∧ ∀ d ∈ es, ∀ n ∈ d.weights P e, n ≤ reachBytes := by
 unfold DataW.weights at h
 rw [ht] at h
 refine ⟨h _ (by simp), fun d hd n hn => h n ?_⟩
 simp only [List.mem_cons, List.mem_append]
 exact Or.inr (Or.inl (kM hd n hn))
theorem zR {H : Type} {P : Program} {t : TypeId} {fs : Array Field} {parts : List (DataW H)} (ht : P.underlying t = some (.struct fs)) (h : ∀ n ∈ (DataW.agg parts).weights P t, n ≤ reachBytes) {i : Nat} {f : Field} {d : DataW H} (hf : fs[i]? = some f) (hd : parts[i]? = some d) :
  ∀ n ∈ d.weights P f.type, n ≤ reachBytes := by
 intro n hn
 refine h n ?_
 unfold DataW.weights
 rw [ht]
 exact DataW.weights_mem_each (j := i) (t := f.type) (by simp [hf]) hd n hn
theorem w_arg {H : Type} {P : Program} {ts : List TypeId} {ds : List (DataW H)} (h : (DataW.weightsEach P ts ds).all (· ≤ reachBytes) = true) {j : Nat} {t : TypeId} {d : DataW H} (ht : ts[j]? = some t) (hd : ds[j]? = some d) : ∀ n ∈ d.weights P t, n ≤ reachBytes := by
 intro n hn
 have := List.all_eq_true.1 h n (DataW.weights_mem_each ht hd n hn)
 simpa using this
theorem yQ {W : World} {a : Addr} {v : Value} (h : W.cell? a = some v) : a.spot = none ∧ a.block < W.heap.size := by
 unfold World.cell? at h
 cases hb : W.heap[a.block]? with
 | none => rw [hb] at h; cases h
 | some o =>
  refine ⟨?_, (Array.getElem?_eq_some_iff.1 hb).1⟩
  rw [hb] at h
  cases o with
  | cells c t fr =>
   simp only at h
   cases hs : a.spot with
   | none => rfl
   | some _ => rw [hs] at h; simp at h
  | _ => cases h
theorem mT {a : Addr} (h : a.spot = none) : a = ⟨a.block, a.off, none⟩ := by cases a; simp at h; subst h; rfl
section
variable {H : Type} {enc : TypeId × Value → H} {W : World} {sp : Nat → Bool} {held : Bool}
theorem ints_in {k : IntKind} {t e : TypeId} {fuel : Nat} {cs : List Value} {x : DataW H × List MemPlace} (ht : Tryz.prog.underlying t = some (.slice e)) (he : Tryz.prog.underlying e = some (.int k)) (hc : Tryz.prog.cellsOf e = 1) (hby : 1 ≤ Tryz.prog.bytesOf e)
  (h : DataW.trod enc Tryz.prog W 0 sp held fuel t cs = some x) (hw : ∀ n ∈ x.1.weights Tryz.prog t, n ≤ reachBytes) :
  ∃ (s : Sl) (l : List Int), cs = [.slice s.a s.n s.c] ∧ IntsIn k W.heap.size W s l ∧ (∀ z ∈ l, (Lit.int k z).wf = true) := by
 rcases open_ints ht he hc h with ⟨rfl, rfl⟩ | ⟨a, len, cap, zs, rfl, hb, hl, hm, hlen, rfl, hcell, hwf⟩
 ·exact ⟨⟨none, 0, 0⟩, [], rfl, ⟨rfl, by simp, Or.inl rfl⟩, by simp⟩
 ·have hle : len ≤ zs.length := by rw [hlen]; split <;> omega
  have hwt := (mJ ht hw).1
  refine ⟨⟨some a, len, cap⟩, zs.take len, rfl, ⟨by simp; omega, ?_, ?_⟩, fun z hz => hwf z (List.mem_of_mem_take hz)⟩
  ·have h1 : (lits (H := H) k (zs.take len)).length = min len zs.length := by simp [lits]
   rw [h1] at hwt
   have h2 : min len zs.length ≤ (min len zs.length + (lits (H := H) k (zs.drop len)).length) * Tryz.prog.bytesOf e := by
    refine Nat.le_trans ?_ (Nat.le_mul_of_pos_right _ (by omega)); omega
   unfold reachBytes at hwt
   rw [List.length_take]
   omega
  ·by_cases h0 : len = 0
   ·left; rw [h0]; rfl
   ·right
    have hc0 := hcell 0 (by omega)
    obtain ⟨hs, hlt⟩ := yQ hc0
    have ea := mT (a := a) hs
    refine ⟨a.block, a.off, by rw [← ea], hlt, fun i hi => ?_⟩
    rw [List.length_take] at hi
    have := hcell i (by omega)
    rw [ea, add_plain] at this
    have e : zs.getD i 0 = (zs.take len).getD i 0 := by
     simp only [List.getD_eq_getElem?_getD, List.getElem?_take]
     rw [if_pos (by omega)]
    rw [e] at this
    exact this
end
open Go.RowKit Go.ChangeShapes Go.WideShapes Go.Deep
theorem list13 {α : Type} {l : List α} (h : l.length = 13) : ∃ c0 c1 c2 c3 c4 c5 c6 c7 c8 c9 c10 c11 c12, l = [c0, c1, c2, c3, c4, c5, c6, c7, c8, c9, c10, c11, c12] := by
 match l, h with
 | [c0, c1, c2, c3, c4, c5, c6, c7, c8, c9, c10, c11, c12], _ => exact ⟨c0, c1, c2, c3, c4, c5, c6, c7, c8, c9, c10, c11, c12, rfl⟩
theorem xL : Tryz.prog.cellsOf 3 = 1 := by kernel_rfl
theorem cells_kind : Tryz.prog.cellsOf 37 = 1 := by kernel_rfl
theorem fS : Tryz.prog.cellsOf 38 = 1 := by kernel_rfl
theorem dH : Tryz.prog.cellsOf 4 = 1 := by kernel_rfl
theorem aK : Tryz.prog.cellsOf 23 = 1 := by kernel_rfl
theorem cells_ev : Tryz.prog.cellsOf 40 = 13 := by kernel_rfl
theorem aA : 1 ≤ Tryz.prog.bytesOf 3 := of_decide_eq_true (by kernel_rfl)
theorem bytes_ev : 1 ≤ Tryz.prog.bytesOf 40 := of_decide_eq_true (by kernel_rfl)
theorem bytes_ints : 1 ≤ Tryz.prog.bytesOf 23 := of_decide_eq_true (by kernel_rfl)
theorem mH {n : Int} (h : (Lit.int .i64 n).wf = true) : -9223372036854775808 ≤ n ∧ n ≤ 9223372036854775807 := by
 simp only [Lit.wf, Bool.and_eq_true, decide_eq_true_eq] at h
 have e1 : IntKind.i64.min = -9223372036854775808 := by decide
 have e2 : IntKind.i64.max = 9223372036854775807 := by decide
 omega
theorem pT {n : Int} (h : (Lit.int .u32 n).wf = true) : 0 ≤ n ∧ n < 4294967296 := by
 simp only [Lit.wf, Bool.and_eq_true, decide_eq_true_eq] at h
 have e1 : IntKind.u32.min = 0 := by decide
 have e2 : IntKind.u32.max = 4294967295 := by decide
 omega
theorem zS {α : Type} {l : List α} {i : Nat} {x : α} (h : l[i]? = some x) : (l.drop i).take 1 = [x] := by
 obtain ⟨hi, rfl⟩ := List.getElem?_eq_some_iff.1 h
 rw [List.drop_eq_getElem_cons hi]; rfl
theorem yA {α : Type} {l : List α} {n : Nat} (h : l.length = n) (i : Nat) (hi : i < n) : ∃ x, l[i]? = some x := ⟨l[i], List.getElem?_eq_getElem (by omega)⟩
section
variable {H : Type} {enc : TypeId × Value → H} {W : World} {sp : Nat → Bool} {held : Bool}
end
end Go.Proofs.YtnkocjkkefnelaaGreat
