/- Parts. -/
import Derived.Sort.WalkA
import Derived.RangeFuncBox
import Derived.RangeFuncLeaves
import Derived.Shelf.Abstract
import Derived.WalkKit
import Derived.OwnWalkIn
import Derived.TacticsInMore
import Derived.RegionIn
import Derived.LoopNIn
import Derived.LoopIn
import Derived.Maps.AppendAt
import Derived.Maps.OwnIn
import Derived.Sort.MapsRangeIn
import Derived.Sort.OwnSortedInts
import Derived.Maps.OwnOps
import Derived.Maps.OwnSet
import Derived.Maps.Views
import Derived.Sort.Walk7
import Derived.Shelf.Small.Bits
import Derived.Sort.WalkA6
import Derived.Test.YtjogffchdejabaaGreatDoorPt5
import Derived.Test.YtjogffchdejabaaGreatDoorPt8
import Derived.Test.YtjogffchdejabaaGreatDoorPt13
set_option linter.unusedVariables false
set_option linter.unusedSimpArgs false
set_option maxHeartbeats 4000000
namespace Go.Proofs.YtjogffchdejabaaGreatDoor.Ev
open Go
def resOne (tmps : Array Value) : ResultVar → Sem Value
 | .tmp t => pure (tmps.getD t undef)
 | .cell a t => do loadVar t (← asAddr (tmps.getD a undef))
def resVal (xs : List Value) : Value := if h : xs.toArray.size = 1 then xs.toArray[0] else .tuple xs.toArray
theorem results_eq (fn : Func) (tmps : Array Value) : results fn tmps = (fn.results.mapM (resOne tmps)) >>= fun vs => pure (if h : vs.size = 1 then vs[0] else .tuple vs) := by
 unfold results
 refine congrArg (· >>= _) (congrArg (fun f => Array.mapM f fn.results) (funext fun x => ?_))
 cases x <;> rfl
theorem results_run {P : Program} {w w' : World} {fn : Func} {xs : List Value} (tmps : Array Value) (h : (fn.results.toList.mapM (resOne tmps)).run P w = .ok xs w') : (results fn tmps).run P w = .ok (resVal xs) w' := by
 have e : (fn.results.mapM (resOne tmps)).run P w = .ok xs.toArray w' := by
  rw [show fn.results = fn.results.toList.toArray from (Array.toArray_toList).symm, List.mapM_toArray]
  simp [h]
 rw [results_eq]
 simp only [Sem.run_bind, e, Result.andThen_ok, Sem.run_pure]
 rfl
section
variable {P : Program} {O : Ora} {ih : IH} {w0 w : World} {π : Pl} {s : St} {tm : T AV} {fx : Fx} {a : Act}
theorem lL {h : T AObj} (hr : Rel w0 π h w) (htm : TmRel π tm a.tmps) : ∀ {l : List ResultVar} {vs : List AV}, resS P tm h l = some vs → ∃ xs, (l.mapM (resOne a.tmps)).run P w = .ok xs w ∧ RepL π vs xs
 | [], vs, hh => by cases hh; exact ⟨[], by simp, RepL.nil⟩
 | r :: l, vs, hh => by
  obtain ⟨us, h1, h2⟩ := uA (show ob (resS P tm h l) (fun vs => match r with
   | .tmp t => some (od (tm.get t) .bad :: vs)
   | .cell a t => ob (tm.get a) fun a => asPtr a fun i o => cellsOf h i fun cs => ob (partA P t cs o) fun v => some (v :: vs)) = some vs from hh)
  obtain ⟨xs, h3, h4⟩ := lL hr htm h1
  cases r with
  | tmp t =>
   cases h2
   refine ⟨a.tmps.getD t undef :: xs, by simp [List.mapM_cons, resOne, h3], RepL.cons ?_ h4⟩
   cases hg : tm.get t with
   | none => show Rep π .bad _; rw [Rep]; trivial
   | some y =>
    obtain ⟨v, e1, e2⟩ := htm t y hg
    show Rep π y _
    rw [Array.getD_eq_getD_getElem?, e1]; exact e2
  | cell c t =>
   obtain ⟨y, g1, g2⟩ := uA h2
   obtain ⟨i, o, rfl, g3⟩ := zE g2
   obtain ⟨wr, cs, g4, g5⟩ := vT g3
   obtain ⟨v, g6, g7⟩ := uA g5
   cases g7
   obtain ⟨u, e1, e2⟩ := htm c _ g1
   rw [Rep] at e2
   obtain ⟨L, hL, rfl⟩ := e2
   obtain ⟨v', e3, e4⟩ := lT (P := P) hr hL g4 g6
   refine ⟨v' :: xs, ?_, RepL.cons e4 h4⟩
   have hgd : a.tmps.getD c undef = .pointer (some ⟨L.b, L.o + o, none⟩) := by rw [Array.getD_eq_getD_getElem?, e1]; rfl
   simp [List.mapM_cons, resOne, hgd, asAddr, e3, h3]
theorem oneV_ok {vs : List AV} {xs : List Value} (h : RepL π vs xs) : Rep π (oneV vs) (resVal xs) := by
 match vs, h with
 | [], h => rw [RepL] at h; subst h; show Rep π (.tup []) (.tuple #[]); rw [Rep]; exact ⟨#[], rfl, RepL.nil⟩
 | [v], h =>
  rw [RepL] at h
  obtain ⟨x, us, rfl, h1, h2⟩ := h
  rw [RepL] at h2; subst h2
  exact h1
 | v :: v' :: vs, h =>
  have hl := h.length
  have e : resVal xs = .tuple xs.toArray := by
   unfold resVal
   rw [dif_neg (by simp only [List.size_toArray, hl]; simp)]
  rw [e]
  show Rep π (.tup (v :: v' :: vs)) _
  rw [Rep]; exact ⟨_, rfl, by simpa using h⟩
theorem gN : ∀ {l : List AV} {i : Nat} {t : T AV} {j : Nat} {x : AV}, (argsT l i t).get j = some x → (∃ k, j = i + k ∧ l[k]? = some x) ∨ t.get j = some x
 | [], i, t, j, x, h => .inr h
 | v :: l, i, t, j, x, h => by
  rcases gN (l := l) (show (argsT l (Nat.succ i) (t.put i v)).get j = some x from h) with ⟨k, h1, h2⟩ | h1
  ·exact .inl ⟨k + 1, by omega, by simpa using h2⟩
  ·rw [T.get_put] at h1
   by_cases e : j = i
   ·rw [if_pos e] at h1; cases h1
    exact .inl ⟨0, by omega, rfl⟩
   ·rw [if_neg e] at h1; exact .inr h1
theorem eR {fn : Func} {args : List AV} {args' : Array Value} (h : RepL π args args'.toList) : FrR π (argsT args 0 .nil) ⟨sizeF fn args, [], none⟩ { tmps := args' ++ Array.replicate (fn.ntmps - args'.size) undef, defers := [] } := by
 have hl := h.eqs
 refine ⟨?_, fun t x ht => ?_, .nil⟩
 ·show (args' ++ Array.replicate (fn.ntmps - args'.size) undef).size = len args + (fn.ntmps - len args)
  rw [vP, Array.size_append, Array.size_replicate, hl]
 ·rcases gN ht with ⟨k, h1, h2⟩ | h1
  ·have h1 : t = k := by omega
   subst h1
   obtain ⟨v, h3, h4⟩ := h.get h2
   have h3 : args'[t]? = some v := by simpa using h3
   refine ⟨v, ?_, h4⟩
   show (args' ++ Array.replicate (fn.ntmps - args'.size) undef)[t]? = _
   rw [Array.getElem?_append_left (Array.getElem?_eq_some_iff.1 h3).1]; exact h3
  ·cases h1
theorem Rel.gone {h : T AObj} (hr : Rel w0 π h w) {i : Nat} {o : AObj} {L : Loc} {w' : World} (hi : h.get i = some o) (ho : o.rw = true) (hL : π i = some L) (h2 : ∀ b, b ≠ L.b → w'.heap[b]? = w.heap[b]?)
  (hs : w'.heap.size = w.heap.size) (ht : w'.tape = w.tape) (hos : w'.os = w.os) (hp : w'.output = w.output) : Rel w0 π (h.del i) w' where
 obj j q M hj hM := by
  have hne : j ≠ i := fun e => by subst e; rw [T.del_self] at hj; cases hj
  rw [T.del_ne _ hne] at hj
  obtain ⟨q', g1, g2⟩ := hr.obj j q M hj hM
  exact ⟨q', (h2 _ fun eb => hne (hr.inj i j o q L M hi hj hL hM ho eb.symm).symm).trans g1, g2⟩
 own j q M hj hM hq := by
  have hne : j ≠ i := fun e => by subst e; rw [T.del_self] at hj; cases hj
  rw [T.del_ne _ hne] at hj
  exact hr.own j q M hj hM hq
 inj j k p q M N hj hk := by
  have hne : j ≠ i := fun e => by subst e; rw [T.del_self] at hj; cases hj
  have hne' : k ≠ i := fun e => by subst e; rw [T.del_self] at hk; cases hk
  rw [T.del_ne _ hne] at hj
  rw [T.del_ne _ hne'] at hk
  exact hr.inj j k p q M N hj hk
 keep b hb := by
  have := hr.own i o L hi hL ho
  exact (h2 b (by omega)).trans (hr.keep b hb)
 size := by rw [hs]; exact hr.size
 tape := ht.trans hr.tape
 os := hos.trans hr.os
 output := hp.trans hr.output
theorem Nx.gone (hf : Fresh π s) {i : Nat} {L : Loc} {w' : World} (hL : π i = some L) (h : Rel w0 π (s.h.del i) w') : Nx w0 π s π ⟨s.h.del i, s.c⟩ w' := by
 refine ⟨.refl π, fun j hj hn => ⟨hn, T.del_ne _ (fun e => by rw [e, hL] at hn; cases hn)⟩, Nat.le_refl _, fun j hj => ⟨?_, (hf j hj).2⟩, h⟩
 show (s.h.del i).get j = none
 rw [T.get_del]
 split
 ·rfl
 ·exact (hf j hj).1
theorem PanR.mono {π π' : Pl} (h : π.le π') {p : Option AV} {u : FrameMode} (hr : PanR π p u) : PanR π' p u := by
 cases p with
 | none => exact hr
 | some v => obtain ⟨v', h1, h2⟩ := hr; exact ⟨v', h1, h2.mono h⟩
theorem PanR.out {π : Pl} {p : Option AV} {u : FrameMode} (hr : PanR π p u) : u ≠ .run := by
 cases p with
 | none => rw [show u = .returning from hr]; exact fun e => by cases e
 | some v => obtain ⟨v', h1, h2⟩ := hr; rw [h1]; exact fun e => by cases e
theorem PanR.settled {π : Pl} {p : Option AV} {u : FrameMode} (hr : PanR π p u) : settle u = u := by
 cases p with
 | none => rw [show u = .returning from hr]; rfl
 | some v => obtain ⟨v', h1, h2⟩ := hr; rw [h1]; rfl
theorem hZ (hih : IHOk P ih) {fn : Func} {tmps : Array Value} {R : Ending → World → Prop} : ∀ (l : List (AV × List AV)) (p : Option AV) (s : St) (r : Option AV × St), outS ih l p s = some r → ∀ (ds : List Deferred) (u : FrameMode) (π : Pl) (w : World), RepDs π l ds → PanR π p u → Fresh π s → Rel w0 π s.h w →
  (∀ π' u' w', Nx w0 π s π' r.2 w' → PanR π' r.1 u' → LeavesInM Fence.wide 0 P fn tmps R [] u' w') → LeavesInM Fence.wide 0 P fn tmps R ds u w
 | [], p, s, r, h, ds, u, π, w, hd, hp, hf, hr, hk => by
  cases hd
  cases h
  exact hk π u w (Nx.refl hf hr) hp
 | d :: l, p, s, r, h, ds, u, π, w, hd, hp, hf, hr, hk => by
  cases hd with
  | cons hd hds =>
   cases hd with
   | mark i D hD =>
    have h : (ob (s.h.get i) fun o => match o with
     | .dfr => outS ih l p ⟨s.h.del i, s.c⟩
     | _ => none) = some r := h
    obtain ⟨o, h1, h2⟩ := uA h
    cases o <;> first | (cases h2; done) | skip
    obtain ⟨o', g1, g2⟩ := hr.obj i _ D h1 hD
    have g2 : o' = .deferred (some []) := g2
    subst g2
    have hr' : Rel w0 π (s.h.del i) (w.putObj D.b (.deferred none)) := hr.gone h1 rfl hD (fun b hb => World.putObj_heap_other hb) World.putObj_size rfl rfl rfl
    have nx := Nx.gone hf hD hr'
    refine ⟨hp.out, .inl ⟨D.b, _, rfl, run_takeDeferred g1, ?_⟩⟩
    exact hZ hih l p _ r h2 _ u π _ hds hp nx.fresh nx.rel fun π' u' w' k1 k2 => hk π' u' w' (nx.trans k1) k2
   | fn g fi ca args vs us az q1 q2 q3 =>
    obtain ⟨r1, h1, h2⟩ := uA (show ob (ih.dcall g (app fi (app args ca)) p s) (fun r => outS ih l r.1 r.2) = some r from h)
    obtain ⟨hen, hs⟩ := hih.dcall _ _ _ _ _ h1
    have hargs : RepL π (app fi (app args ca)) (vs ++ az ++ us).toList := by
     rw [wI, wI]
     simp only [Array.toList_append, List.append_assoc]
     exact q1.append (q3.append q2)
    refine ⟨hp.out, .inr ⟨fun h => (by cases h), .func g, us, g, vs ++ az ++ us, rfl, aD hen _ _, fun _ _ => trivial, ?_⟩⟩
    refine (show CallsDIn Fence.wide (0 - 1) P g _ u w _ from (hs w0 π _ w u hargs hp hf hr).mono fun e u' w' hq => ?_)
    obtain ⟨⟨x, rfl⟩, π1, k1, k2⟩ := hq
    exact hZ hih l r1.1 r1.2 r h2 _ (settle u') π1 w' (hds.mono k1.le) k2 k1.fresh k1.rel fun π' u' w' k3 k4 => hk π' u' w' (k1.trans k3) k4
theorem callS_ok (hih : IHOk P ih) {f : FuncId} {args : List AV} {r : KR} (h : callS P ih f args s = some r) : SoundF P f args s r := by
 obtain ⟨fn, h1, h2⟩ := uA h
 obtain ⟨h3, h4⟩ := uE h2
 obtain ⟨c, h5, h6⟩ := uA h4
 obtain ⟨x, h7, h8⟩ := uA h6
 obtain ⟨cr, s'⟩ := r
 refine ⟨⟨fn, h1, by simpa using h3, by rw [h5]; rfl⟩, fun w0 π args' w ha hf hr => ?_⟩
 refine callsIn_wide.1 (callsIn_of_wp_marks (F := Fence.wide) (n := 0) h1 h5 trivial ?_)
 refine wpIn_mono (xK (ro' := none) (hih.code _ _ _ _ _ h7) (eR ha) rfl hf hr) fun e a1 w1 he => ?_
 obtain ⟨e1, tm1, fx1, s1⟩ := x
 obtain ⟨π1, k1, k2, k3⟩ := he
 have leave : ∀ (p : Option AV) (u : FrameMode), endS P ih fn p tm1 fx1 s1 = some (.mk cr s') → PanR π1 p u → LeavesInM Fence.wide 0 P fn a1.tmps (fun e w' => ∃ π', Nx w0 π s π' s' w' ∧ CrR π' cr e) a1.defers u w1 := fun p u he hp => by
  obtain ⟨r, g1, g2⟩ := uA he
  refine hZ hih _ _ _ _ g1 _ u π1 w1 k2.df hp k1.fresh k1.rel fun π2 u2 w2 m1 m2 => ?_
  obtain ⟨p2, s2⟩ := r
  cases p2 with
  | none =>
   have m2 : u2 = .returning := m2
   subst m2
   obtain ⟨vs, g3, g4⟩ := uA (show ob (resS P tm1 s2.h fn.results.toList) (fun vs => some (KR.mk (.ret (oneV vs)) s2)) = some (.mk cr s') from g2)
   cases g4
   obtain ⟨xs, g5, g6⟩ := lL (P := P) m1.rel (k2.tm.mono m1.le) g3
   exact ⟨_, results_run _ g5, π2, k1.trans m1, _, rfl, oneV_ok g6⟩
  | some v =>
   cases (show some (KR.mk (.pan v) s2) = some (.mk cr s') from g2)
   obtain ⟨v', rfl, m3⟩ := m2
   exact ⟨π2, k1.trans m1, v', rfl, m3⟩
 cases e1 with
 | nrm => have k3 : e = .normal := k3; subst k3; exact leave none .returning h8 rfl
 | ret => have k3 : e = .ret := k3; subst k3; exact leave none .returning h8 rfl
 | pan v => obtain ⟨v', rfl, k4⟩ := k3; exact leave (some v) _ h8 ⟨v', rfl, k4⟩
 | exit i => cases h8
theorem gG {p : Option AV} {x : XR} {r : Option AV × St} (h : dEnd p x = some r) : ∃ e tm n ro s', x = .mk e tm ⟨n, [], ro⟩ s' ∧ (e = .nrm ∨ e = .ret) ∧ r = (p, s') := by
 obtain ⟨e, tm, ⟨n, df, ro⟩, s'⟩ := x
 cases e with
 | nrm => cases df with
  | nil => cases h; exact ⟨_, _, _, _, _, rfl, .inl rfl, rfl⟩
  | cons d ds => cases h
 | ret => cases df with
  | nil => cases h; exact ⟨_, _, _, _, _, rfl, .inr rfl, rfl⟩
  | cons d ds => cases h
 | exit i => cases h
 | pan v => cases h
theorem recB_some {c : Code} {d : Option Tmp} {rest : Code} (h : recB c = some (d, rest)) : ∃ id ty pos af tys, c = .seq (.region id #[⟨d, .call { callee := .builtin .recover, args := #[], argTypes := tys }, ty, pos, af, none⟩] false) rest := by
 unfold recB at h
 split at h
 ·rename_i id ops rest'
  split at h
  ·rename_i o ho
   split at h
   ·rename_i cl hg hop
    split at h
    ·rename_i hc ha
     cases h
     obtain ⟨dst, op, ty, pos, af, gd⟩ := o
     obtain ⟨callee, args, tys⟩ := cl
     simp only at hg hop hc ha
     subst hg hop hc
     refine ⟨id, ty, pos, af, tys, ?_⟩
     rw [show ops = ops.toList.toArray from Array.toArray_toList.symm, ho, show args = args.toList.toArray from Array.toArray_toList.symm, ha]
    ·cases h
   ·cases h
  ·cases h
 ·cases h
theorem jH {fn : Func} (h : Nat.beq fn.results.size 0 = true) (tmps : Array Value) (w : World) : ∃ v, (results fn tmps).run P w = .ok v w := by
 have h : fn.results = #[] := Array.eq_empty_of_size_eq_zero (beq_eq h)
 exact ⟨_, results_none h tmps P w⟩
theorem dcallS_ok (hih : IHOk P ih) {f : FuncId} {args : List AV} {p : Option AV} {r : Option AV × St} (h : dcallS P ih f args p s = some r) : SoundD P f args p s r := by
 obtain ⟨fn, h1, h2⟩ := uA h
 obtain ⟨h3, h4⟩ := uE h2
 obtain ⟨c, h5, h6⟩ := uA h4
 obtain ⟨hres, h7⟩ := uE h6
 refine ⟨⟨fn, h1, by simpa using h3, by rw [h5]; rfl⟩, fun w0 π args' w u ha hp hf hr => ?_⟩
 cases hrec : recB c with
 | none =>
  rw [hrec] at h7
  obtain ⟨x, h8, h9⟩ := uA (show ob (ih.code c (argsT args 0 .nil) ⟨sizeF fn args, [], none⟩ s) (dEnd p) = some r from h7)
  obtain ⟨e1, tm1, n1, ro1, s1, rfl, h10, rfl⟩ := gG h9
  refine (callsDIn_of_wp (u := u) (R := fun e w' => (∃ x, e = .returned x) ∧ ∃ π', Nx w0 π s π' s1 w' ∧ PanR π' p (settle u)) h1 h5 trivial ?_).mono fun e u' w' hq => ?_
  ·refine wpIn_mono (xK (ro' := none) (hih.code _ _ _ _ _ h8) (eR ha) rfl hf hr) fun e a1 w1 ⟨π1, k1, k2, k3⟩ => ?_
   obtain ⟨v, hv⟩ := jH (P := P) hres a1.tmps w1
   have hd : a1.defers = [] := by
    have := k2.df
    generalize a1.defers = ds at this
    cases this; rfl
   have fin : a1.defers = [] ∧ ∃ v, (results fn a1.tmps).run P w1 = .ok v w1 ∧ ((∃ x, Ending.returned v = .returned x) ∧ ∃ π', Nx w0 π s π' s1 w1 ∧ PanR π' p (settle u)) := ⟨hd, v, hv, ⟨v, rfl⟩, π1, k1, by rw [hp.settled]; exact hp.mono k1.le⟩
   rcases h10 with rfl | rfl
   ·have k3 : e = .normal := k3; subst k3; exact fin
   ·have k3 : e = .ret := k3; subst k3; exact fin
  ·obtain ⟨rfl, hq⟩ := hq; exact hq
 | some y =>
  obtain ⟨d, rest⟩ := y
  rw [hrec] at h7
  obtain ⟨hdst, h7⟩ := uE (show og (dstOk (sizeF fn args) d) (ob (ih.code rest (putD (argsT args 0 .nil) d (od p .nili)) ⟨sizeF fn args, [], none⟩ s) (dEnd none)) = some r from h7)
  obtain ⟨x, h8, h9⟩ := uA h7
  obtain ⟨e1, tm1, n1, ro1, s1, rfl, h10, rfl⟩ := gG h9
  obtain ⟨id, ty, pos, af, tys, rfl⟩ := recB_some hrec
  refine callsDIn_of_wpSIn h1 h5 trivial fun c0 cs hu0 => wpSIn_seq (wpSIn_region ?_)
  have hfr0 := eR (fn := fn) ha
  have hs : ∀ (v : Value) (u' : FrameMode), Rep π (od p .nili) v → settle u' = .returning → rest.wpSIn Fence.wide 0 P (bodyPostS P fn c0 cs (fun e u' w' => (∃ x, e = .returned x) ∧ ∃ π', Nx w0 π s π' s1 w' ∧ PanR π' none (settle u'))) (Act.put { tmps := args' ++ Array.replicate (fn.ntmps - args'.size) undef, defers := [] } d v) ({ c0 with mode := u' } :: cs) w := fun v u' hv hu' => by
   refine wpSIn_of_wpIn rfl (wpIn_mono (xK (ro' := none) (hih.code _ _ _ _ _ h8) (hfr0.put hdst hv) rfl hf hr) fun e a1 w1 ⟨π1, k1, k2, k3⟩ => ?_)
   obtain ⟨v, hv⟩ := jH (P := P) hres a1.tmps w1
   have hd : a1.defers = [] := by
    have := k2.df
    generalize a1.defers = ds at this
    cases this; rfl
   have fin : a1.defers = [] ∧ ∃ u2, ({ c0 with mode := u' } :: cs : List Frame) = { c0 with mode := u2 } :: cs ∧ ∃ v, (results fn a1.tmps).run P w1 = .ok v w1 ∧ ((∃ x, Ending.returned v = .returned x) ∧ ∃ π', Nx w0 π s π' s1 w1 ∧ PanR π' none (settle u2)) := ⟨hd, u', rfl, v, hv, ⟨v, rfl⟩, π1, k1, hu'⟩
   rcases h10 with rfl | rfl
   ·have k3 : e = .normal := k3; subst k3; exact fin
   ·have k3 : e = .ret := k3; subst k3; exact fin
  show wpOpsSIn Fence.wide 0 P _ _ [0] _ _ _
  unfold wpOpsSIn
  have hrun : ∀ (ρ : Operand → Value), (execOp ρ ⟨d, .call { callee := .builtin .recover, args := #[], argTypes := tys }, ty, pos, af, none⟩).run P w = .ok .recover w := fun ρ => rfl
  simp only [List.getElem?_toArray, List.getElem?_cons_zero, Region.wanted, if_true, hrun]
  refine ⟨fun _ _ => trivial, ?_⟩
  cases p with
  | none =>
   have hp : u = .returning := hp
   subst hp
   have e : recoverD (c0 :: cs) = none := by simp [recoverD, hu0]
   rw [e]
   have hc : ({ c0 with mode := .returning } : Frame) = c0 := by rw [← hu0]
   have := hs .nilIface .returning (by show Rep π .nili _; rw [Rep]) rfl
   rw [hc] at this
   exact this
  | some v =>
   obtain ⟨v', rfl, hv⟩ := hp
   have e : recoverD (c0 :: cs) = some (v', { c0 with mode := .panicking [{ v := v', recovered := true }] } :: cs) := by simp [recoverD, hu0]
   rw [e]
   exact hs v' _ hv rfl
theorem nK (hP : P.follows .mixedOrders = true) (hO : OraOk P O) : ∀ n, IHOk P (ev P O n)
 | 0 => ⟨fun _ _ _ _ _ h => (by cases h), fun _ _ _ _ _ h => (by cases h), fun _ _ _ _ _ h => (by cases h), fun _ _ _ _ h => (by cases h), fun _ _ _ _ _ h => (by cases h)⟩
 | n + 1 =>
  have hih := nK hP hO n
  ⟨fun c tm fx s r h => codeS_fx hih (show codeS P O (ev P O n) c tm fx s = some r from h), fun c tm fx s r h => codeS_ok hP hih hO (show codeS P O (ev P O n) c tm fx s = some r from h), fun b tm fx s r h => jQ hih (show codeS P O (ev P O n) (.loop b) tm fx s = some r from h),
   fun f args s r h => callS_ok hih (show callS P (ev P O n) f args s = some r from h), fun f args p s r h => dcallS_ok hih (show dcallS P (ev P O n) f args p s = some r from h)⟩
end
end Go.Proofs.YtjogffchdejabaaGreatDoor.Ev
namespace Go.Proofs.YtjogffchdejabaaGreatDoor.Ev
open Go
def isS : AV → Bool
 | .bool _ | .int _ _ | .str _ | .nilp | .nils | .nilm | .nilf | .nili => true
 | _ => false
inductive D1 where
 | lf (v : AV)
 | sl (s n : Nat) (cs : List AV)
inductive D2 where
 | lf (v : AV)
 | sl (s n : Nat) (cs : List D1)
inductive D3 where
 | one (d : D2)
 | agg (l : List D2)
noncomputable def mapO {α β : Type} (f : α → Option β) (l : List α) : Option (List β) := @List.rec α (fun _ => Option (List β)) (some []) (fun a _ ih => ob (f a) fun x => ob ih fun xs => some (x :: xs)) l
section
variable (h : T AObj)
noncomputable def rdS {β : Type} (v : AV) (lf : Option β) (sl : Nat → Nat → List AV → Option β) : Option β := match v with
 | .sl i o s n _ => cellsOf h i fun cs => ob (takeO (Nat.mul n s) (dropL o cs)) fun l => sl s n l
 | _ => lf
noncomputable def rd1 (v : AV) : Option D1 := rdS h v (og (isS v) (some (.lf v))) fun s n l => og (allL isS l) (some (.sl s n l))
noncomputable def rd2 (v : AV) : Option D2 := rdS h v (og (isS v) (some (.lf v))) fun s n l => ob (mapO (rd1 h) l) fun ds => some (.sl s n ds)
noncomputable def rd3 (v : AV) : Option D3 := match v with
 | .agg l => ob (mapO (rd2 h) l) fun ds => some (.agg ds)
 | v => ob (rd2 h v) fun d => some (.one d)
end
noncomputable def ly1 (d : D1) (s : St) : AV × St := match d with
 | .lf v => (v, s)
 | .sl z n cs => (.sl s.c 0 z n none, ⟨s.h.put s.c (.cells false cs), Nat.succ s.c⟩)
noncomputable def lyL {α : Type} (f : α → St → AV × St) (l : List α) : St → List AV × St := @List.rec α (fun _ => St → List AV × St) (fun s => ([], s)) (fun d _ ih s => ((f d s).1 :: (ih (f d s).2).1, (ih (f d s).2).2)) l
noncomputable def ly2 (d : D2) (s : St) : AV × St := match d with
 | .lf v => (v, s)
 | .sl z n ds => (.sl (lyL ly1 ds s).2.c 0 z n none, ⟨(lyL ly1 ds s).2.h.put (lyL ly1 ds s).2.c (.cells false (lyL ly1 ds s).1), Nat.succ (lyL ly1 ds s).2.c⟩)
noncomputable def ly3 (d : D3) (s : St) : AV × St := match d with
 | .one d => ly2 d s
 | .agg l => (.agg (lyL ly2 l s).1, (lyL ly2 l s).2)
noncomputable def eqG {α : Type} (p : α → α → Bool) (l : List α) : List α → Bool := @List.rec α (fun _ => List α → Bool) (fun m => @List.rec α (fun _ => Bool) true (fun _ _ _ => false) m)
 (fun a _ ih m => @List.rec α (fun _ => Bool) false (fun b m _ => p a b && ih m) m) l
noncomputable def eq1 (a b : D1) : Bool := match a with
 | .lf v => match b with
  | .lf u => eqX v u
  | _ => false
 | .sl s n l => match b with
  | .sl s' n' l' => Nat.beq s s' && (Nat.beq n n' && eqXs l l')
  | _ => false
noncomputable def eq2 (a b : D2) : Bool := match a with
 | .lf v => match b with
  | .lf u => eqX v u
  | _ => false
 | .sl s n l => match b with
  | .sl s' n' l' => Nat.beq s s' && (Nat.beq n n' && eqG eq1 l l')
  | _ => false
noncomputable def eq3 (a b : D3) : Bool := match a with
 | .one d => match b with
  | .one e => eq2 d e
  | _ => false
 | .agg l => match b with
  | .agg m => eqG eq2 l m
  | _ => false
noncomputable def plainV (v : AV) : Bool := match v with
 | .agg l => allL isS l
 | .tup l => allL (fun x => match x with
  | .agg m => allL isS m
  | x => isS x) l
 | v => isS v
structure Ent where
 f : FuncId
 args : List D3
 res : AV
noncomputable def find (f : FuncId) (ts : List D3) (l : List Ent) : Option AV := @List.rec Ent (fun _ => Option AV) none (fun e _ ih => bc (Nat.beq f e.f && eqG eq3 ts e.args) (some e.res) ih) l
noncomputable def hasF (f : FuncId) (l : List Ent) : Bool := @List.rec Ent (fun _ => Bool) false (fun e _ ih => Nat.beq f e.f || ih) l
noncomputable def memo (tab : List Ent) : Ora := fun f args s => og (hasF f tab) (ob (mapO (rd3 s.h) args) fun ts => ob (find f ts tab) fun v => some (v, s))
noncomputable def orO (A B : Ora) : Ora := fun f args s => @Option.rec (AV × St) (fun _ => Option (AV × St)) (B f args s) (fun r => some r) (A f args s)
noncomputable def entOk (P : Program) (O : Ora) (n : Nat) (e : Ent) : Bool := plainV e.res && (match (ev P O n).call e.f (lyL ly3 e.args ⟨.nil, 0⟩).1 (lyL ly3 e.args ⟨.nil, 0⟩).2 with
 | some (.mk (.ret v) _) => eqW v e.res || eqWs' v e.res
 | _ => false)
where eqWs' (a b : AV) : Bool := match a with
 | .tup l => match b with
  | .tup m => eqWs l m || eqG eqY l m
  | _ => false
 | _ => false
def noPl : Pl := fun _ => none
theorem zC {v : AV} (h : isS v = true) {π π' : Pl} {x : Value} (hr : Rep π v x) : Rep π' v x := by
 cases v <;> first | (cases h; done) | (rw [Rep] at *; exact hr)
theorem bN {π π' : Pl} : ∀ {l : List AV} {xs : List Value}, allL isS l = true → RepL π l xs → RepL π' l xs
 | [], xs, _, h => by rw [RepL] at *; exact h
 | v :: l, xs, hs, h => by
  rw [RepL] at h
  obtain ⟨x, us, rfl, h1, h2⟩ := h
  have hv := vJ hs
  refine RepL.cons (zC (hv v (by simp)) h1) (bN ?_ h2)
  have : @Bool.rec (fun _ => Bool) false (allL isS l) (isS v) = true := hs
  rw [hv v (by simp)] at this
  exact this
def SlV (w : World) (s n : Nat) (vs : List Value) (x : Value) : Prop := ∃ (L : Loc) (m a : Nat) (rcs : Array Value) (T : TypeId) (fz : Nat × Nat), x = .slice (some ⟨L.b, a, none⟩) n m ∧ n ≤ m ∧ (m = 0 ∨ a = L.o) ∧ L.o + m * s ≤ L.N ∧ w.heap[L.b]? = some (.cells rcs T fz) ∧ rcs.size = L.N ∧ L.o + vs.length ≤ L.N ∧ ∀ i v, vs[i]? = some v → rcs[L.o + i]? = some v
def V1 (w : World) : D1 → Value → Prop
 | .lf v, x => isS v = true ∧ Rep noPl v x
 | .sl s n cs, x => ∃ vs, SlV w s n vs x ∧ RepL noPl cs vs
def VL {α : Type} (V : α → Value → Prop) : List α → List Value → Prop
 | [], vs => vs = []
 | d :: ds, vs => ∃ v us, vs = v :: us ∧ V d v ∧ VL V ds us
def V2 (w : World) : D2 → Value → Prop
 | .lf v, x => isS v = true ∧ Rep noPl v x
 | .sl s n ds, x => ∃ vs, SlV w s n vs x ∧ VL (V1 w) ds vs
def V3 (w : World) : D3 → Value → Prop
 | .one d, x => V2 w d x
 | .agg l, x => ∃ vs : Array Value, x = .agg vs ∧ VL (V2 w) l vs.toList
section
variable {w0 w : World} {π : Pl} {h : T AObj}
theorem dL {α : Type} {f : AV → Option α} {V : α → Value → Prop} (hf : ∀ v d x, f v = some d → Rep π v x → V d x) : ∀ {l : List AV} {ds : List α} {vs : List Value}, mapO f l = some ds → RepL π l vs → VL V ds vs
 | [], ds, vs, h, hr => by
  cases h
  rw [RepL] at hr; exact hr
 | v :: l, ds, vs, h, hr => by
  obtain ⟨d, h1, h2⟩ := uA (show ob (f v) (fun x => ob (mapO f l) fun xs => some (x :: xs)) = some ds from h)
  obtain ⟨es, h3, h4⟩ := uA h2
  cases h4
  rw [RepL] at hr
  obtain ⟨x, us, rfl, g1, g2⟩ := hr
  exact ⟨x, us, rfl, hf v d x h1 g1, dL hf h3 g2⟩
theorem jI (hr : Rel w0 π h w) {β : Type} {v : AV} {lf : Option β} {sl : Nat → Nat → List AV → Option β} {r : β} (hh : rdS h v lf sl = some r) {x : Value} (hx : Rep π v x) : lf = some r ∨ ∃ s n l vs, sl s n l = some r ∧ SlV w s n vs x ∧ RepL π l vs := by
 cases v <;> first | exact .inl hh | skip
 rename_i i o s n c
 right
 obtain ⟨wr, cs, h1, h2⟩ := vT hh
 obtain ⟨l, h3, h4⟩ := uA h2
 obtain ⟨h5, h6⟩ := wZ h3
 rw [yT] at h5 h6
 rw [Rep] at hx
 obtain ⟨L, m, a, hL, rfl, g1, g2, g3, g4⟩ := hx
 obtain ⟨o', g5, rcs, T, fz, rfl, g6, g7, g8, g9⟩ := hr.obj i _ L h1 hL
 have hlen : l.length = n * s := by rw [h5, List.length_take]; exact Nat.min_eq_left h6
 have hcell : ∀ j y, l[j]? = some y → ∃ v, rcs[L.o + (o + j)]? = some v ∧ Rep π y v := fun j y hj => by
  rw [h5, List.getElem?_take] at hj
  split at hj
  ·rw [List.getElem?_drop] at hj
   exact g9 _ y hj
  ·cases hj
 refine ⟨s, n, l, (List.range l.length).map fun j => (rcs[L.o + (o + j)]?).getD undef, h4, ⟨⟨L.b, L.o + o, L.N⟩, m, a, rcs, T, fz, rfl, g1, g3, g4, g5, g6, ?_, fun j v hj => ?_⟩, ?_⟩
 ·rw [List.length_map, List.length_range, hlen]
  show L.o + o + n * s ≤ L.N
  have := Nat.mul_le_mul_right s g1
  omega
 ·rw [List.getElem?_map] at hj
  have hjl : j < l.length := by
   rcases Nat.lt_or_ge j l.length with hh | hh
   ·exact hh
   ·rw [List.getElem?_eq_none (by simpa using hh)] at hj; cases hj
  rw [List.getElem?_range hjl] at hj
  obtain ⟨u, e1, _⟩ := hcell j _ (List.getElem?_eq_getElem hjl)
  have hj : (rcs[L.o + (o + j)]?).getD undef = v := by simpa using hj
  rw [e1] at hj
  show rcs[L.o + o + j]? = some v
  rw [Nat.add_assoc, e1, ← hj]; rfl
 ·refine RepL.of_get (by simp) fun j y v hy hv => ?_
  obtain ⟨u, e1, e2⟩ := hcell j y hy
  rw [List.getElem?_map, List.getElem?_range (List.getElem?_eq_some_iff.1 hy).1] at hv
  have hv : (rcs[L.o + (o + j)]?).getD undef = v := by simpa using hv
  rw [e1] at hv
  rw [← hv]; exact e2
theorem rd1_ok (hr : Rel w0 π h w) {v : AV} {d : D1} {x : Value} (hh : rd1 h v = some d) (hx : Rep π v x) : V1 w d x := by
 rcases jI hr hh hx with h1 | ⟨s, n, l, vs, h1, h2, h3⟩
 ·obtain ⟨h2, h3⟩ := uE h1
  cases h3
  exact ⟨h2, zC h2 hx⟩
 ·obtain ⟨h4, h5⟩ := uE h1
  cases h5
  exact ⟨vs, h2, bN h4 h3⟩
theorem mZ (hr : Rel w0 π h w) {v : AV} {d : D2} {x : Value} (hh : rd2 h v = some d) (hx : Rep π v x) : V2 w d x := by
 rcases jI hr hh hx with h1 | ⟨s, n, l, vs, h1, h2, h3⟩
 ·obtain ⟨h2, h3⟩ := uE h1
  cases h3
  exact ⟨h2, zC h2 hx⟩
 ·obtain ⟨ds, h4, h5⟩ := uA h1
  cases h5
  exact ⟨vs, h2, dL (fun v d x => rd1_ok hr) h4 h3⟩
theorem rd3_ok (hr : Rel w0 π h w) {v : AV} {d : D3} {x : Value} (hh : rd3 h v = some d) (hx : Rep π v x) : V3 w d x := by
 unfold rd3 at hh
 split at hh
 ·obtain ⟨ds, h4, h5⟩ := uA hh
  cases h5
  rw [Rep] at hx
  obtain ⟨vs, rfl, hv⟩ := hx
  exact ⟨vs, rfl, dL (fun v d x => mZ hr) h4 hv⟩
 ·obtain ⟨d', h4, h5⟩ := uA hh
  cases h5
  exact mZ hr h4 hx
structure Laid (w : World) (π : Pl) (s : St) : Prop where
 rel : Rel w π s.h w
 fresh : Fresh π s
 ro : ∀ i o, s.h.get i = some o → o.rw = false
theorem Laid.put {s : St} (hl : Laid w π s) {z n : Nat} {cs : List AV} {vs : List Value} {x : Value} (hv : SlV w z n vs x) (hr : RepL π cs vs) : ∃ π', π.le π' ∧ Laid w π' ⟨s.h.put s.c (.cells false cs), Nat.succ s.c⟩ ∧ Rep π' (.sl s.c 0 z n none) x := by
 obtain ⟨L, m, a, rcs, ty, fz, rfl, g1, g2, g3, g4, g5, g6, g7⟩ := hv
 have hc := xM hl.fresh
 have hle := Pl.le_upd L hc
 have ro' : ∀ i o, (s.h.put s.c (.cells false cs)).get i = some o → o.rw = false := fun i o hi => by
  rw [T.get_put] at hi
  split at hi
  ·cases hi; rfl
  ·exact hl.ro i o hi
 refine ⟨π.upd s.c L, hle, ⟨⟨fun i o M hi hM => ?_, fun i o M hi _ hrw => ?_, fun i j o p M M' hi _ _ _ hrw => ?_, fun _ _ => rfl, Nat.le_refl _, rfl, rfl, rfl⟩, fun i hi => ?_, ro'⟩, ?_⟩
 ·by_cases e : i = s.c
  ·subst e
   rw [T.put_self] at hi; cases hi
   rw [Pl.upd_self] at hM; cases hM
   refine ⟨_, g4, rcs, ty, fz, rfl, g5, fun h => (by cases h), ?_, fun j y hj => ?_⟩
   ·rw [← hr.length]; exact g6
   ·obtain ⟨v, e1, e2⟩ := hr.get hj
    exact ⟨v, g7 j v e1, e2.mono hle⟩
  ·rw [T.put_ne _ _ e] at hi
   rw [Pl.upd_ne _ _ e] at hM
   obtain ⟨o', e1, e2⟩ := hl.rel.obj i o M hi hM
   exact ⟨o', e1, e2.mono hle⟩
 ·rw [ro' i o hi] at hrw; cases hrw
 ·rw [ro' i o hi] at hrw; cases hrw
 ·have hi : s.c + 1 ≤ i := hi
  obtain ⟨e1, e2⟩ := hl.fresh i (by omega)
  exact ⟨(T.put_ne _ _ (by omega)).trans e1, (Pl.upd_ne _ _ (by omega)).trans e2⟩
 ·rw [Rep]
  exact ⟨L, m, a, Pl.upd_self _ _ _, rfl, g1, fun c' h => (by cases h), g2, g3⟩
theorem ly1_ok {s : St} (hl : Laid w π s) {d : D1} {x : Value} (hv : V1 w d x) : ∃ π', π.le π' ∧ Laid w π' (ly1 d s).2 ∧ Rep π' (ly1 d s).1 x := by
 cases d with
 | lf v => exact ⟨π, .refl π, hl, zC hv.1 hv.2⟩
 | sl z n cs =>
  obtain ⟨vs, h1, h2⟩ := hv
  exact hl.put h1 (h2.mono fun i L h => (by cases h))
theorem iG {α : Type} {f : α → St → AV × St} {V : α → Value → Prop} (hf : ∀ (π : Pl) (s : St) d x, Laid w π s → V d x → ∃ π', π.le π' ∧ Laid w π' (f d s).2 ∧ Rep π' (f d s).1 x) : ∀ (ds : List α) (vs : List Value) (π : Pl) (s : St), Laid w π s → VL V ds vs →
  ∃ π', π.le π' ∧ Laid w π' (lyL f ds s).2 ∧ RepL π' (lyL f ds s).1 vs
 | [], vs, π, s, hl, hv => by
  have hv : vs = [] := hv
  subst hv
  exact ⟨π, .refl π, hl, RepL.nil⟩
 | d :: ds, vs, π, s, hl, hv => by
  obtain ⟨v, us, rfl, h1, h2⟩ := hv
  obtain ⟨π1, e1, e2, e3⟩ := hf π s d v hl h1
  obtain ⟨π2, e4, e5, e6⟩ := iG hf ds us π1 _ e2 h2
  exact ⟨π2, e1.trans e4, e5, RepL.cons (e3.mono e4) e6⟩
theorem nB {s : St} (hl : Laid w π s) {d : D2} {x : Value} (hv : V2 w d x) : ∃ π', π.le π' ∧ Laid w π' (ly2 d s).2 ∧ Rep π' (ly2 d s).1 x := by
 cases d with
 | lf v => exact ⟨π, .refl π, hl, zC hv.1 hv.2⟩
 | sl z n ds =>
  obtain ⟨vs, h1, h2⟩ := hv
  obtain ⟨π1, e1, e2, e3⟩ := iG (V := V1 w) (fun π s d x hl hv => ly1_ok hl hv) ds vs π s hl h2
  obtain ⟨π2, e4, e5, e6⟩ := e2.put h1 e3
  exact ⟨π2, e1.trans e4, e5, e6⟩
theorem ly3_ok {s : St} (hl : Laid w π s) {d : D3} {x : Value} (hv : V3 w d x) : ∃ π', π.le π' ∧ Laid w π' (ly3 d s).2 ∧ Rep π' (ly3 d s).1 x := by
 cases d with
 | one d => exact nB hl hv
 | agg l =>
  obtain ⟨vs, rfl, h1⟩ := hv
  obtain ⟨π1, e1, e2, e3⟩ := iG (V := V2 w) (fun π s d x hl hv => nB hl hv) l vs.toList π s hl h1
  refine ⟨π1, e1, e2, ?_⟩
  show Rep π1 (.agg _) _
  rw [Rep]; exact ⟨vs, rfl, e3⟩
end
theorem eQ {α : Type} {p : α → α → Bool} (hp : ∀ a b, p a b = true → a = b) : ∀ {l m : List α}, eqG p l m = true → l = m
 | [], [], _ => rfl
 | [], _ :: _, h => by cases h
 | _ :: _, [], h => by cases h
 | a :: l, b :: m, h => by
  obtain ⟨h1, h2⟩ := band (show (p a b && eqG p l m) = true from h)
  rw [hp a b h1, eQ hp h2]
theorem eq1_eq {a b : D1} (h : eq1 a b = true) : a = b := by
 cases a <;> cases b <;> first | (cases h; done) | skip
 ·rw [iS (show eqX _ _ = true from h)]
 ·obtain ⟨h1, h2⟩ := band h
  obtain ⟨h3, h4⟩ := band h2
  rw [beq_eq h1, beq_eq h3, bX h4]
theorem nM {a b : D2} (h : eq2 a b = true) : a = b := by
 cases a <;> cases b <;> first | (cases h; done) | skip
 ·rw [iS (show eqX _ _ = true from h)]
 ·obtain ⟨h1, h2⟩ := band h
  obtain ⟨h3, h4⟩ := band h2
  rw [beq_eq h1, beq_eq h3, eQ (fun _ _ => eq1_eq) h4]
theorem eq3_eq {a b : D3} (h : eq3 a b = true) : a = b := by
 cases a <;> cases b <;> first | (cases h; done) | skip
 ·rw [nM (show eq2 _ _ = true from h)]
 ·rw [eQ (fun _ _ => nM) (show eqG eq2 _ _ = true from h)]
theorem kB {f : FuncId} {ts : List D3} {v : AV} : ∀ {l : List Ent}, find f ts l = some v → ∃ e ∈ l, e.f = f ∧ e.args = ts ∧ e.res = v
 | [], h => by cases h
 | e :: l, h => by
  rcases wG (show bc (Nat.beq f e.f && eqG eq3 ts e.args) (some e.res) (find f ts l) = some v from h) with ⟨h1, h2⟩ | ⟨_, h2⟩
  ·obtain ⟨h3, h4⟩ := band h1
   cases h2
   exact ⟨e, by simp, (beq_eq h3).symm, (eQ (fun _ _ => eq3_eq) h4).symm, rfl⟩
  ·obtain ⟨e', g1, g2⟩ := kB h2
   exact ⟨e', by simp [g1], g2⟩
theorem plain_rep {v : AV} (h : plainV v = true) {π π' : Pl} {x : Value} (hr : Rep π v x) : Rep π' v x := by
 unfold plainV at h
 split at h
 ·rw [Rep] at *
  obtain ⟨vs, rfl, h1⟩ := hr
  exact ⟨vs, rfl, bN h h1⟩
 ·rename_i l
  rw [Rep] at *
  obtain ⟨vs, rfl, h1⟩ := hr
  refine ⟨vs, rfl, RepL.of_get h1.length fun i t v ht hv => ?_⟩
  obtain ⟨u, e1, e2⟩ := h1.get ht
  rw [e1] at hv; cases hv
  have hs := vJ h t (List.mem_of_getElem? ht)
  split at hs
  ·rw [Rep] at *
   obtain ⟨us, rfl, h2⟩ := e2
   exact ⟨us, rfl, bN hs h2⟩
  ·exact zC hs e2
 ·exact zC h hr
theorem Rel.later {w0 w w' : World} {π π' : Pl} {h h' : T AObj} (hr : Rel w0 π h w) (hr' : Rel w π' h' w') : Rel w0 π h w' :=
 ⟨fun i o L hi hL => let ⟨o', h1, h2⟩ := hr.obj i o L hi hL; ⟨o', (hr'.keep _ (Array.getElem?_eq_some_iff.1 h1).1).trans h1, h2⟩, hr.own, hr.inj, fun b hb => (hr'.keep b (Nat.lt_of_lt_of_le hb hr.size)).trans (hr.keep b hb), Nat.le_trans hr.size hr'.size, hr'.tape.trans hr.tape, hr'.os.trans hr.os, hr'.output.trans hr.output⟩
theorem eS {P : Program} {O : Ora} {n : Nat} {e : Ent} (h : entOk P O n e = true) : plainV e.res = true ∧ ∃ s', (ev P O n).call e.f (lyL ly3 e.args ⟨.nil, 0⟩).1 (lyL ly3 e.args ⟨.nil, 0⟩).2 = some (.mk (.ret e.res) s') := by
 obtain ⟨h1, h2⟩ := band h
 refine ⟨h1, ?_⟩
 split at h2
 ·rename_i v s' hc
  refine ⟨s', ?_⟩
  rw [hc]
  rcases (by simpa using h2 : eqW v e.res = true ∨ entOk.eqWs' v e.res = true) with h3 | h3
  ·rw [kU h3]
  ·unfold entOk.eqWs' at h3
   split at h3
   ·split at h3
    ·rename_i hb
     rcases (by simpa using h3 : eqWs _ _ = true ∨ eqG eqY _ _ = true) with h4 | h4
     ·rw [bY h4, ← hb]
     ·rw [eQ (fun _ _ => iR) h4, ← hb]
    ·cases h3
   ·cases h3
 ·cases h2
theorem dK {P : Program} (hP : P.follows .mixedOrders = true) {tab : List Ent} (ht : ∀ e ∈ tab, ∃ O n, OraOk P O ∧ entOk P O n e = true) : OraOk P (memo tab) := fun f args s r h w0 π args' w ha hf hr => by
 obtain ⟨_, h⟩ := uE h
 obtain ⟨ts, h1, h2⟩ := uA h
 obtain ⟨v, h3, h4⟩ := uA h2
 cases h4
 obtain ⟨e, he, rfl, rfl, rfl⟩ := kB h3
 obtain ⟨O, n, hO, hok⟩ := ht e he
 obtain ⟨hpl, s', hc⟩ := eS hok
 have hv := dL (fun v d x => rd3_ok hr) h1 ha
 have l0 : Laid w noPl ⟨.nil, 0⟩ := ⟨⟨fun i o L hi => (by cases hi), fun i o L hi => (by cases hi), fun i j o p L M hi => (by cases hi), fun _ _ => rfl, Nat.le_refl _, rfl, rfl, rfl⟩, fun i _ => ⟨rfl, rfl⟩, fun i o hi => (by cases hi)⟩
 obtain ⟨π1, _, e2, e3⟩ := iG (V := V3 w) (fun π s d x hl hv => ly3_ok hl hv) _ _ noPl _ l0 hv
 obtain ⟨hen, hs⟩ := (nK hP hO n).call _ _ _ _ hc
 refine .inr ⟨hen, (hs w π1 args' w e3 e2.fresh e2.rel).mono fun e' w' ⟨π2, k1, k2⟩ => ?_⟩
 obtain ⟨v', rfl, k3⟩ := k2
 exact ⟨π, ⟨.refl π, fun i _ h => ⟨h, rfl⟩, Nat.le_refl _, hf, hr.later k1.rel⟩, v', rfl, plain_rep hpl k3⟩
theorem cE {P : Program} {A B : Ora} (hA : OraOk P A) (hB : OraOk P B) : OraOk P (orO A B) := fun f args s r h => by
 cases ha : A f args s with
 | none =>
  have h : @Option.rec (AV × St) (fun _ => Option (AV × St)) (B f args s) (fun r => some r) (A f args s) = some r := h
  rw [ha] at h
  exact hB f args s r h
 | some q =>
  have h : @Option.rec (AV × St) (fun _ => Option (AV × St)) (B f args s) (fun r => some r) (A f args s) = some r := h
  rw [ha] at h
  cases h
  exact hA f args s _ ha
theorem closed_ok {P : Program} (hP : P.follows .mixedOrders = true) {O : Ora} (hO : OraOk P O) {n : Nat} {f : FuncId} {v : AV} {s' : St} (h : (ev P O n).call f [] ⟨.nil, 0⟩ = some (.mk (.ret v) s')) (w : World) : Enters P f ∧ Calls P f #[] w (fun e w' => ∃ x π, e = .returned x ∧ Rep π v x ∧ Rel w π s'.h w') := by
 obtain ⟨hen, hs⟩ := (nK hP hO n).call _ _ _ _ h
 refine ⟨hen, (hs w noPl #[] w RepL.nil (fun i _ => ⟨rfl, rfl⟩) ⟨fun i o L hi => (by cases hi), fun i o L hi => (by cases hi), fun i j o p L M hi => (by cases hi), fun _ _ => rfl, Nat.le_refl _, rfl, rfl, rfl⟩).mono fun e w' ⟨π2, k1, k2⟩ => ?_⟩
 obtain ⟨v', rfl, k3⟩ := k2
 exact ⟨v', π2, rfl, k3, k1.rel⟩
end Go.Proofs.YtjogffchdejabaaGreatDoor.Ev
namespace Go.Proofs.YtjogffchdejabaaGreatDoor
open Go.RowKit Go.Sort
def sortMax : Nat := 12
abbrev encU : Int → Value := Value.int .u32
theorem isNaN_u (x : Int) (w : World) : Calls Tryz.prog 205 #[.int .u32 x] w fun e w' => e = .returned (.bool false) ∧ w' = w := by
 go_enter Tryz.func205, Tryz.ntmps205
 go_wp2
 go_ret
 exact ⟨by simp, rfl⟩
theorem uX (x y : Int) (w : World) : Calls Tryz.prog 293 #[.int .u32 x, .int .u32 y] w fun e w' => e = .returned (.bool (ltInt x y)) ∧ w' = w := by
 go_enter Tryz.func293, Tryz.ntmps293
 go_wp2_with (go_at_call 205; refine (isNaN_u _ _).mono ?_; rintro e w' ⟨rfl, rfl⟩)
 go_ret
 exact ⟨rfl, rfl⟩
theorem insertion_u (blk off cap a b : Nat) (d : Array Int) (w : World) (hH : Holds encU w blk off d) (hab : a ≤ b) (hb : b ≤ d.size) (hsz : d.size < 4611686018427387904) :
  Calls Tryz.prog 287 #[.slice (some ⟨blk, off, none⟩) d.size cap, .int .i64 a, .int .i64 b] w fun e w' =>
   e = .returned (.tuple #[]) ∧ ∃ n, w' = putRow encU (Sort.ahead w n) blk off (Sort.insertionSort ltInt d a b) := by
 go_enter Tryz.func287, Tryz.ntmps287
 go_wp2
 go_loopw [6] (fun vi wr => ∃ (i n : Nat) (dk : Array Int), vi = .int .i64 i ∧ a < i ∧ i ≤ b + 1 ∧ dk.size = d.size ∧ wr = putRow encU (Sort.ahead w n) blk off dk ∧
   insOuter ltInt a b i dk = insOuter ltInt a b (a + 1) d) (fun vi _ => b + 1 - (RowKit.intOf vi).toNat)
 case atStart => exact ⟨a + 1, 0, d, by go_num, by omega, by omega, rfl, (putRow_self _ _ _ _ _ hH).symm, rfl⟩
 case round =>
  obtain ⟨i, n, dk, rfl, hai, hib, hsk, hwr, hO⟩ := hrel
  have HO := Lib.hid hO
  clear hO
  by_cases hlt : i < b
  ·go_wp2
   go_loopw [7] (fun vj w2 => ∃ (j m : Nat) (dj : Array Int), vj = .int .i64 j ∧ a ≤ j ∧ j ≤ i ∧ dj.size = d.size ∧ w2 = putRow encU (Sort.ahead w m) blk off dj ∧
     insInner ltInt a j dj = insInner ltInt a i dk) (fun vj _ => (RowKit.intOf vj).toNat)
   case atStart => exact ⟨i, n, dk, rfl, by omega, Nat.le_refl _, hsk, rfl, rfl⟩
   case round =>
    obtain ⟨j, m, dj, rfl, haj, hji, hsj, hw2, hI⟩ := hrel
    obtain ⟨G, hG⟩ : ∃ G : Nat → Int, ∀ t, G t = dj[t]! := ⟨fun t => dj[t]!, fun _ => rfl⟩
    have hcw : ∀ t, t < d.size → wr.cell? ⟨blk, off + t, none⟩ = some (.int .u32 (G t)) := fun t ht => by
     rw [hw2, hG]; exact cell?_putRow _ _ _ _ d dj (holds_ahead _ _ _ _ _ _ hH) hsj t (by omega)
    have hfw : ∀ t, t < d.size → wr.frozen? ⟨blk, off + t, none⟩ = false := fun t ht => by
     rw [hw2, frozen?_putRow]; exact ((holds_ahead _ _ m _ _ _ hH) t ht).2
    have HW := Lib.hid hw2
    have HG := Lib.hid hG
    have HI := Lib.hid hI
    clear hw2 hG hI
    have OUT : Hid ((j ≤ a ∨ ltInt (G j) (G (j - 1)) = false) → ∀ q, wr.drewN q = putRow encU (Sort.ahead w (m + q)) blk off dj ∧ insOuter ltInt a b (i + 1) dj = insOuter ltInt a b (a + 1) d) := Lib.hid (fun hs q =>
     ⟨by rw [HW.out]; exact putRow_drewN _ _ _ _ _ _ _, by rw [← HO.out, insOuter_go _ _ _ _ _ hlt, ← HI.out, insInner_stop _ _ _ _ (by rw [← HG.out, ← HG.out]; exact hs)]⟩)
    by_cases hja : a < j
    ·cases hl : ltInt (G j) (G (j - 1)) with
     | true =>
      have HL := Lib.hid hl
      have LT := Lib.hid (fun w => uX (G j) (G (j - 1)) w)
      clear hl
      go_wp2
      go_quiet ((go_at_call 293; have t := LT.out; rw [HL.out] at t; refine Calls.quiet_of_same (t _)))
      go_wp2
      go_region
      all_goals go_wp2
      go_roundw
      case rel =>
       refine ⟨j - 1, m + (nq + 1), swp dj j (j - 1), by congr 1; omega, by omega, by omega, by rw [size_swp]; exact hsj, ?_, ?_⟩
       ·rw [HW.out, HG.out, HG.out]
        exact swap_worldA _ w m (nq + 1) blk off dj j (j - 1) (by omega) (by omega)
       ·rw [← HI.out, insInner_go ltInt a j dj hja (by rw [← HG.out, ← HG.out]; exact HL.out)]
      case measure => simp [RowKit.intOf]; omega
     | false =>
      have HL := Lib.hid hl
      have LT := Lib.hid (fun w => uX (G j) (G (j - 1)) w)
      clear hl
      go_wp2
      go_quiet ((go_at_call 293; have t := LT.out; rw [HL.out] at t; refine Calls.quiet_of_same (t _)))
      go_wp2
      go_roundw
      case rel => exact ⟨i + 1, m + nq, dj, by go_num, by omega, by omega, hsj, (OUT.out (Or.inr HL.out) nq).1, (OUT.out (Or.inr HL.out) nq).2⟩
      case measure => simp [RowKit.intOf]; omega
    ·have hja2 : decide (a < j) = false := by simpa using hja
     go_wp2
     go_quiet (fail)
     go_wp2
     go_roundw
     case rel => exact ⟨i + 1, m + nq, dj, by go_num, by omega, by omega, hsj, (OUT.out (Or.inl (by omega)) nq).1, (OUT.out (Or.inl (by omega)) nq).2⟩
     case measure => simp [RowKit.intOf]; omega
  ·go_wp2
   go_end0
   exact ⟨rfl, n, by unfold Sort.insertionSort; rw [← HO.out, insOuter_stop _ _ _ _ _ hlt]⟩
open Go.RowKit Go.Shelf Go.Maps Go.Sort
theorem holds_of_blockE (enc : Int → Value) {w : World} {g : Nat} {cur : Array Value} {e : TypeId} {ss : List Int} (hb : w.heap[g]? = some (.cells cur e (0, 0))) (ht : cur.toList.take ss.length = ss.map enc) : Holds enc w g 0 ss.toArray := by
 intro j hj
 have hj' : j < ss.length := by simpa using hj
 refine ⟨?_, by simp [World.frozen?, hb]⟩
 have h1 : (cur.toList.take ss.length)[j]? = (ss.map enc)[j]? := by rw [ht]
 rw [List.getElem?_take_of_lt hj'] at h1
 simp only [World.cell?, hb, Nat.zero_add]
 simp only [Option.isSome_none, Bool.false_eq_true, if_false]
 rw [← Array.getElem?_toList, h1]
 simp [hj']
theorem heap_sortedE (enc : Int → Value) {w : World} {g n : Nat} {os : Array Obj} {cur : Array Value} {e : TypeId} {fr : Nat × Nat} (d : Array Int) (hb : w.heap[g]? = some (.cells cur e fr)) :
  (grow (putRow enc (Sort.ahead w n) g 0 d) os).heap[g]? = some (.cells (putCells enc 0 d cur) e fr) := by
 have hg : g < w.heap.size := (Array.getElem?_eq_some_iff.1 hb).1
 rw [heap_grow_old _ _ (by simpa using hg)]
 simp [putRow, mapBlock, Sort.ahead, Array.getElem?_modify, hb, onCells]
theorem grownBy_sortedE (enc : Int → Value) {w : World} {g n : Nat} {os : Array Obj} (d : Array Int) : w.grownBy (grow (putRow enc (Sort.ahead w n) g 0 d) os) (some g) := by
 refine ⟨rfl, rfl, rfl, by simp, fun k hk hne => ?_⟩
 rw [heap_grow_old _ _ (by simpa using hk)]
 have : g ≠ k := fun e => hne (by rw [e])
 simp [putRow, mapBlock, Sort.ahead, Array.getElem?_modify, this]
theorem take_putCellsE (enc : Int → Value) (cur : Array Value) (ts : List Int) (h : ts.length ≤ cur.size) : (putCells enc 0 ts.toArray cur).toList.take ts.length = ts.map enc := by
 apply List.ext_getElem?
 intro j
 by_cases hj : j < ts.length
 ·rw [List.getElem?_take_of_lt hj, Array.getElem?_toList]
  simp [putCells, hj, show j < cur.size by omega]
 ·rw [List.getElem?_take_eq_none (by omega), List.getElem?_eq_none (by simp; omega)]
theorem ownsRow_sortedE (enc : Int → Value) {w : World} {base g cap n : Nat} {e : TypeId} {os : Array Obj} {cur : Array Value} {ss ts : List Int} (hl : ts.length = ss.length) (hbase : base ≤ g) (hb : w.heap[g]? = some (.cells cur e (0, 0)))
  (h1 : ss.length ≤ cap) (h2 : cap ≤ maxLen) (h3 : cur.size = cap * 1) :
  (grow (putRow enc (Sort.ahead w n) g 0 ts.toArray) os).ownsRow base e 1 (.slice (some ⟨g, 0, none⟩) ss.length cap) ss.length (ts.map enc) :=
 ⟨by simp [hl], .inr ⟨g, cap, _, rfl, hbase, heap_sortedE enc _ hb, h1, h2, by simp [putCells, h3], by rw [Nat.mul_one, ← hl]; exact take_putCellsE enc cur ts (by omega)⟩⟩
def KeysAre {H : Type} (D0 : DataW H) (ss : List Int) : Prop := ss.Nodup ∧ ∀ x, x ∈ ss ↔ has D0 (.int .u32 x) = true
def CollectedU {H : Type} (D0 : DataW H) (left : Lit → Bool) (ss : List Int) : Prop := ss.Nodup ∧ ∀ x, x ∈ ss ↔ (has D0 (.int .u32 x) = true ∧ left (.int .u32 x) = false)
theorem CollectedU.start {H : Type} (D0 : DataW H) : CollectedU D0 (has D0) [] := ⟨List.nodup_nil, fun x => by cases has D0 (.int .u32 x) <;> simp⟩
theorem CollectedU.step {H : Type} {D0 : DataW H} {left : Lit → Bool} {ss : List Int} (h : CollectedU D0 left ss) {x : Int} {y : DataW H} (hlk : left (.int .u32 x) = true) (hat : ∀ zd, D0.atKey (.int .u32 x) zd = y) :
  CollectedU D0 (fun z => left z && !z.sameKey (.int .u32 x)) (ss ++ [x]) := by
 have hhas : has D0 (.int .u32 x) = true := has_true_of_atKey hat
 have hnew : x ∉ ss := fun hx => by have := ((h.2 x).1 hx).2; rw [hlk] at this; cases this
 refine ⟨List.nodup_append.2 ⟨h.1, by simp, fun a ha b hb => by simp at hb; subst hb; exact fun e => hnew (e ▸ ha)⟩, fun y => ?_⟩
 by_cases hy : y = x
 ·subst hy; simp [hhas, Lit.sameKey]
 ·simp [h.2 y, hy, Lit.sameKey]
theorem CollectedU.done {H : Type} {D0 : DataW H} {left : Lit → Bool} {ss : List Int} (h : CollectedU D0 left ss) (hl : ∀ kl, left kl = false) : KeysAre D0 ss := ⟨h.1, fun x => by rw [h.2 x, hl]; simp⟩
theorem lawU : Keyed Tryz.prog 34 := int_keyed Tryz.underlying34
def RowOf (n₀ : Nat) (W : World) (sv : Value) (zs : List Int) : Prop :=
 ((∃ a c, sv = .slice a 0 c) ∧ zs = []) ∨ ∃ b off cap, sv = .slice (some ⟨b, off, none⟩) zs.length cap ∧ b < n₀ ∧ ∀ j, j < zs.length → W.cell? ⟨b, off + j, none⟩ = some (.int .i64 (zs.getD j 0))
theorem RowOf.below {n₀ : Nat} {A B : World} (h : Below n₀ A B) {sv : Value} {zs : List Int} : RowOf n₀ A sv zs → RowOf n₀ B sv zs
 | .inl e => .inl e
 | .inr ⟨b, off, cap, e, hb, hc⟩ => .inr ⟨b, off, cap, e, hb, fun j hj => (h.cell (p := ⟨b, off + j, none⟩) hb).trans (hc j hj)⟩
open Go.RowKit Go.Shelf Go.Maps Go.Sort
theorem info_u : (Tryz.prog.info? 34).map (fun i => (i.zero, i.size, i.bytes)) = some (some (.int .u32 0), 1, 4) := by kernel_rfl
set_option maxRecDepth 100000 in
set_option maxHeartbeats 2000000 in
theorem append_u (F : Fence) (hF : ∀ f, F.fn f) (n : Nat) (hro : F.round = none) (hn : 2 ≤ n) (g : Nat) (lb : Array Value) (eg : ∀ args w, (callFunc g args).run Tryz.prog w = .ok (.enter g args) w)
  (Kp : World → World → Prop) (S Sp : List Int → Prop) (N : Nat) (hN : N ≤ maxLen) (hNb : N * 4 ≤ 140737488355328) (w : World)
  (hKt : ∀ {A B C : World}, Kp A B → Kp B C → Kp A C) (hKb : ∀ (W : World) (l : Nat) (o o' : Obj), w.heap.size ≤ l → W.heap[l]? = some o → o.isCells = false → o.isWalk = false → Kp W (W.putObj l o'))
  (hKo : ∀ W W', KeepsOthers W W' → Below w.heap.size W W' → Kp W W')
  (hseq : SeqStopsK F (n - 1) Tryz.prog g lb (fun x : Int => #[Value.int .u32 x]) Kp S Sp N w) :
  CallsIn F n Tryz.prog 277 #[.slice none 0 0, .func (.func g) #[] lb] w fun e w' => ∃ (v : Value) (ss : List Int), e = .returned v ∧ S ss ∧ ss.length ≤ N ∧ w'.ownsRow w.heap.size 34 1 v ss.length (ss.map (Value.int .u32)) ∧ (v = .slice none 0 0 ↔ ss = []) ∧ Below w.heap.size w w' := by
 have h1 : 1 ≤ n := by omega
 obtain ⟨i0, hi, hz0, hz1, hz2⟩ := info_parts info_u
 refine callsIn_of_wp_marks Tryz.func277 rfl (hF _) ?_ hro
 simp only [Tryz.ntmps277, List.size_toArray, List.length_cons, List.length_nil, Nat.reduceAdd, Nat.reduceSub, Array.replicate_succ, Array.replicate_zero, List.push_toArray, List.append_toArray, List.nil_append, List.cons_append]
 gi_wp2
 have bO := Boxed.new w 167 (.slice none 0 0)
 have hB0 : Below w.heap.size w (w.alloc (.cells #[.slice none 0 0] 167)) := (Below.refl _ w).alloc (Nat.le_refl _) _
 refine wpIn_rangeFunc_ownG hro h1 (gf := g) (lb := lb) rfl (hF _) eg (N := N) hseq hKt (fun W l o o' hl h1 h2 h3 => hKb W l o o' (by simp at hl; omega) h1 h2 h3) hB0 (fun _ => rfl)
  (fun pre W => ((∃ v, Boxed W w.heap.size 167 v ∧ W.ownsRow w.heap.size 34 1 v pre.length (pre.map (Value.int .u32)) ∧ (v = .slice none 0 0 ↔ pre = [])) ∧ Below w.heap.size w W) ∧ pre.length ≤ N)
  (fun _ _ _ => False)
  (OwnFrom.and (OwnFrom.and (Own.from (holdsRow_own w.heap.size w.heap.size 167 34 1 (fun pre : List Int => pre.length) (fun pre => pre.map (Value.int .u32)) (fun pre v => v = .slice none 0 0 ↔ pre = [])) _) (ownFrom_below (Nat.le_refl _) (by simp))) (fun _ _ _ _ hs _ _ => hs))
  (fun _ _ _ _ _ hs _ _ => hs)
  ⟨⟨⟨_, bO, World.ownsRow_nil _ _ _ _, by simp⟩, hB0⟩, by simp⟩
  (fun x => { tmps := #[.slice none 0 0, .func (.func g) #[] lb, .pointer (some ⟨w.heap.size, 0, none⟩), undef, .slice none 0 0, .int .u32 x, .func (.func g) #[] lb, .int .u32 x, undef, undef, undef, undef, undef], defers := [] }) ?assign ?body ?done ?stop
 case assign =>
  intro l x W K hK
  gi_wp2_with (rw [Oper.semAt_eq _ _ _ (fun c h => by cases h)]; go_simp; try go_bits)
  exact hK
 case body =>
  rintro l pre x W ⟨⟨⟨v, hv, hrow, hnil⟩, hB⟩, _⟩ hlt
  have hc := hv.cell
  gi_wp2_with (first | (gi_at_builtin; refine wpListIn_append_own _ rfl _ _ 167 rfl w.heap.size 34 i0 (.int .u32 0) 1 4 Tryz.underlying167 hi hz0 hz1 hz2 rfl (by decide) _ _ _ rfl (hrow.alloc _) ⟨W.heap.size, 0, none⟩ 1 1 [.int .u32 x] rfl rfl (cell_one_new _ _ _) (by simp [Value.oneCell']) (by omega) (by omega) (by have := hB.size; simp; omega) ?_; intro v' w1 hown' hgrow _; obtain ⟨g', cap', rfl⟩ := ownsRow_succ hown'; obtain ⟨hv1, hv2, hr2, hk2, hb2⟩ := hv.appended (by decide) hrow hB.size (Nat.le_refl _) hown' hgrow; have hc1 := hv1.cell; have hf1 := hv1.frozen; go_frame) | (rw [Oper.semAt_eq _ _ _ (fun c h => by cases h)]; go_simp; try go_bits))
  exact ⟨hk2.from _, hKo _ _ hk2 hb2, ⟨⟨_, hv2, by simpa using hr2, by simp⟩, hB.trans hb2⟩, by simp; omega⟩
 case done =>
  rintro D ys W hD hS ⟨⟨⟨v, hv, hrow, hnil⟩, hB⟩, hlen⟩ hK
  have hc := hv.cell
  gi_wp2
  refine ⟨by simp, .inl ⟨_, _, rfl, run_takeDeferred hK, ?_⟩⟩
  exact ⟨_, results_tmp rfl _ _ _, v, ys, rfl, hS, hlen, ownsRow_putObj hrow _ hK rfl, hnil, hB.trans (belowK_b (w := w) (Nat.le_refl _) W D _ _ (by simp at hD; omega) hK rfl rfl)⟩
 case stop =>
  rintro D c pre W _ _ h _
  exact h.elim
set_option maxHeartbeats 1000000 in
theorem collect_u (F : Fence) (hF : ∀ f, F.fn f) (n : Nat) (hro : F.round = none) (hn : 3 ≤ n) (g : Nat) (lb : Array Value) (eg : ∀ args w, (callFunc g args).run Tryz.prog w = .ok (.enter g args) w)
  (Kp : World → World → Prop) (S Sp : List Int → Prop) (N : Nat) (hN : N ≤ maxLen) (hNb : N * 4 ≤ 140737488355328) (w : World)
  (hKt : ∀ {A B C : World}, Kp A B → Kp B C → Kp A C) (hKb : ∀ (W : World) (l : Nat) (o o' : Obj), w.heap.size ≤ l → W.heap[l]? = some o → o.isCells = false → o.isWalk = false → Kp W (W.putObj l o'))
  (hKo : ∀ W W', KeepsOthers W W' → Below w.heap.size W W' → Kp W W')
  (hseq : SeqStopsK F (n - 1 - 1) Tryz.prog g lb (fun x : Int => #[Value.int .u32 x]) Kp S Sp N w) :
  CallsIn F n Tryz.prog 253 #[.func (.func g) #[] lb] w fun e w' => ∃ (v : Value) (ss : List Int), e = .returned v ∧ S ss ∧ ss.length ≤ N ∧ w'.ownsRow w.heap.size 34 1 v ss.length (ss.map (Value.int .u32)) ∧ (v = .slice none 0 0 ↔ ss = []) ∧ Below w.heap.size w w' := by
 have h1 : 1 ≤ n := by omega
 refine callsIn_of_wp Tryz.func253 rfl (hF _) ?_ hro
 simp only [Tryz.ntmps253, List.size_toArray, List.length_cons, List.length_nil, Nat.reduceAdd, Nat.reduceSub, Array.replicate_succ, Array.replicate_zero, List.push_toArray, List.append_toArray, List.nil_append, List.cons_append]
 gi_wp2_with (gi_at_call 277; refine (append_u F hF (n - 1) hro (by omega) g lb eg Kp S Sp N hN hNb _ hKt hKb hKo hseq).mono ?_; rintro e w' ⟨v, ss, rfl, hS, hlen, hrow, hnil, hb⟩)
 go_ret
 exact ⟨v, ss, rfl, hS, hlen, hrow, hnil, hb⟩
def Sorts_u (F : Fence) (m : Nat) : Prop :=
 (∀ (blk off cap : Nat) (ss : List Int) (W : World), Holds (Value.int .u32) W blk off ss.toArray → blk < W.heap.size → ss.length < 4611686018427387904 →
  CallsIn F m Tryz.prog 254 #[.slice (some ⟨blk, off, none⟩) ss.length cap] W fun e w' => e = .returned (.tuple #[]) ∧ ∃ k os, w' = grow (putRow (Value.int .u32) (Sort.ahead W k) blk off (ss.mergeSort fun x y => decide (x ≤ y)).toArray) os) ∧
 (∀ (p : Option Addr) (cap : Nat) (W : World), CallsIn F m Tryz.prog 254 #[.slice p 0 cap] W fun e w' => e = .returned (.tuple #[]) ∧ w' = W)
set_option maxRecDepth 100000 in
set_option maxHeartbeats 2000000 in
theorem sorted_u (F : Fence) (hF : ∀ f, F.fn f) (n : Nat) (hro : F.round = none) (hn : 4 ≤ n) (hsort : Sorts_u F (n - 1)) (g : Nat) (lb : Array Value) (eg : ∀ args w, (callFunc g args).run Tryz.prog w = .ok (.enter g args) w)
  (Kp : World → World → Prop) (S Sp : List Int → Prop) (N : Nat) (hN : N ≤ maxLen) (hNb : N * 4 ≤ 140737488355328) (w : World)
  (hKt : ∀ {A B C : World}, Kp A B → Kp B C → Kp A C) (hKb : ∀ (W : World) (l : Nat) (o o' : Obj), w.heap.size ≤ l → W.heap[l]? = some o → o.isCells = false → o.isWalk = false → Kp W (W.putObj l o'))
  (hKo : ∀ W W', KeepsOthers W W' → Below w.heap.size W W' → Kp W W')
  (hseq : SeqStopsK F (n - 1 - 1 - 1) Tryz.prog g lb (fun x : Int => #[Value.int .u32 x]) Kp S Sp N w) :
  CallsIn F n Tryz.prog 206 #[.func (.func g) #[] lb] w fun e w' => ∃ (v : Value) (ss : List Int), e = .returned v ∧ S ss ∧ ss.length ≤ N ∧
   w'.ownsRow w.heap.size 34 1 v ss.length ((ss.mergeSort (fun x y => decide (x ≤ y))).map (Value.int .u32)) ∧ (v = .slice none 0 0 ↔ ss = []) ∧ Below w.heap.size w w' := by
 have h1 : 1 ≤ n := by omega
 have hN2 : N < 4611686018427387904 := by omega
 refine callsIn_of_wp Tryz.func206 rfl (hF _) ?_ hro
 simp only [Tryz.ntmps206, List.size_toArray, List.length_cons, List.length_nil, Nat.reduceAdd, Nat.reduceSub, Array.replicate_succ, Array.replicate_zero, List.push_toArray, List.append_toArray, List.nil_append, List.cons_append]
 gi_wp2_with (gi_at_call 253; refine (collect_u F hF (n - 1) hro (by omega) g lb eg Kp S Sp N hN hNb _ hKt hKb hKo hseq).mono ?_; rintro e W ⟨v, ss, rfl, hS, hlen, hrow, hnil, hb⟩)
 rcases hrow.2 with ⟨rfl, hz⟩ | ⟨gb, cap, cur, rfl, hbase, hgb, r1, r2, r3, r4⟩
 ·have hss : ss = [] := List.eq_nil_of_length_eq_zero hz
  subst hss
  gi_wp2_with (gi_at_call 254; refine (hsort.2 none 0 W).mono ?_; rintro e w' ⟨rfl, rfl⟩)
  go_ret
  exact ⟨.slice none 0 0, [], rfl, hS, by simp, by simpa using hrow, by simp, hb⟩
 ·have hH : Holds (Value.int .u32) W gb 0 ss.toArray := holds_of_blockE _ hgb (by simpa using r4)
  have hgl : gb < W.heap.size := (Array.getElem?_eq_some_iff.1 hgb).1
  have cS := hsort.1 gb 0 cap ss W hH hgl (by omega)
  gi_wp2_with (gi_at_call 254; refine cS.mono ?_; rintro e w' ⟨rfl, nn, os, rfl⟩)
  go_ret
  exact ⟨_, ss, rfl, hS, hlen, ownsRow_sortedE _ (by simp) hbase hgb r1 r2 r3, hnil, hb.grown (grownBy_sortedE _ _) hb.size (fun j hj => by cases hj; exact hbase)⟩
def Sorts_i (F : Fence) (m : Nat) : Prop :=
 (∀ (blk off cap : Nat) (ss : List Int) (W : World), Holds (Value.int .i64) W blk off ss.toArray → blk < W.heap.size → ss.length < 4611686018427387904 →
  CallsIn F m Tryz.prog 146 #[.slice (some ⟨blk, off, none⟩) ss.length cap] W fun e w' => e = .returned (.tuple #[]) ∧ ∃ k os, w' = grow (putRow (Value.int .i64) (Sort.ahead W k) blk off (ss.mergeSort fun x y => decide (x ≤ y)).toArray) os) ∧
 (∀ (p : Option Addr) (cap : Nat) (W : World), CallsIn F m Tryz.prog 146 #[.slice p 0 cap] W fun e w' => e = .returned (.tuple #[]) ∧ w' = W)
open Go.RowKit Go.Maps Go.Sort
def addIn (a : Int) : List Int → List Int
 | [] => [a]
 | x :: r => if x < a then x :: addIn a r else if x = a then x :: r else a :: x :: r
def addrsTo (es : List Ev) : List Int := es.foldl (fun l e => if e.kind = 4 then l else addIn e.addr l) []
theorem gA (a x : Int) : ∀ l, x ∈ addIn a l ↔ x = a ∨ x ∈ l
 | [] => by simp [addIn]
 | y :: r => by
  unfold addIn
  split
  ·simp only [List.mem_cons, gA a x r]; exact or_left_comm
  ·split
   ·rename_i h1 h2; subst h2; simp
   ·simp
theorem sorted_same {ss l : List Int} (hn : ss.Nodup) (hl : l.Pairwise (· < ·)) (hm : ∀ x, x ∈ ss ↔ x ∈ l) : ss.mergeSort (fun x y => decide (x ≤ y)) = l := by
 have hp : ss.Perm l := (List.perm_ext_iff_of_nodup hn (hl.imp (fun h => by omega))).2 hm
 refine List.Perm.eq_of_pairwise (le := fun a b : Int => a ≤ b) (fun a b _ _ h1 h2 => by omega) ?_ (hl.imp (fun h => by omega)) ((List.mergeSort_perm ss _).trans hp)
 refine (List.pairwise_mergeSort (le := fun x y : Int => decide (x ≤ y)) (fun a b c h1 h2 => by simp at *; omega) (fun a b => by simp; omega) ss).imp ?_
 intro a b h; simpa using h
def Has (D : DataW Unit) (l : List Int) : Prop := ∀ x, has D (.int .u32 x) = true ↔ x ∈ l
theorem Has.put {D : DataW Unit} {l : List Int} (h : Has D l) (hm : IsMap D) (a : Int) (d : DataW Unit) : Has (D.put (.int .u32 a) d) (addIn a l) := by
 intro x
 rw [gA]
 by_cases hx : x = a
 ·subst hx
  simp [has_put_same hm (show WideAt.IsKeyLit (Lit.int .u32 x) from trivial)]
 ·rw [has_put_other (by simpa using hx), h x]
  simp [hx]
theorem enters_keys : ∀ args w, (callFunc 255 args).run Tryz.prog w = .ok (.enter 255 args) w := enters_of Tryz.func255 (by kernel_rfl) rfl
theorem u32_wf {a : Int} (h1 : 0 ≤ a) (h2 : a < 4294967296) : (Lit.int .u32 a).wf = true := by
 simp only [Lit.wf, Bool.and_eq_true, decide_eq_true_eq]
 have e1 : IntKind.u32.min = 0 := by decide
 have e2 : IntKind.u32.max = 4294967295 := by decide
 omega
open Go.Sort Go.RowKit
theorem xorshift_Next_u (rb ro X : Nat) (hX : X < 18446744073709551616) (w : World) (hc : w.cell? ⟨rb, ro, none⟩ = some (.int .u64 X)) (hf : w.frozen? ⟨rb, ro, none⟩ = false) :
  Calls Tryz.prog 202 #[.pointer (some ⟨rb, ro, none⟩)] w fun e w' => e = .returned (.int .u64 (xorNextN X : Nat)) ∧ w' = (w.setCell ⟨rb, ro, none⟩ (.int .u64 (xorNextN X : Nat))).drewN 3 := by
 obtain ⟨A, hA⟩ : ∃ A : Nat, A = X ^^^ (X * 8192 % 18446744073709551616) := ⟨_, rfl⟩
 obtain ⟨B, hB⟩ : ∃ B : Nat, B = A ^^^ (A / 128) := ⟨_, rfl⟩
 obtain ⟨C, hC⟩ : ∃ C : Nat, C = B ^^^ (B * 131072 % 18446744073709551616) := ⟨_, rfl⟩
 have lA : A < 18446744073709551616 := by rw [hA]; exact Nat.xor_lt_two_pow (n := 64) (by omega) (by omega)
 have lB : B < 18446744073709551616 := by rw [hB]; exact Nat.xor_lt_two_pow (n := 64) (by omega) (by omega)
 have e1 : bits .xor .u64 (X : Int) (IntKind.u64.wrap ((X : Int) * 8192)) = (A : Int) := by
  rw [IntKind.wrap_u64, show ((X : Int) * 8192 % 18446744073709551616) = ((X * 8192 % 18446744073709551616 : Nat) : Int) by omega, bits_xor_u64_nat _ _ hX (by omega), hA]
 have e2 : bits .xor .u64 (A : Int) ((A : Int) / 128) = (B : Int) := by
  rw [show ((A : Int) / 128) = ((A / 128 : Nat) : Int) by omega, bits_xor_u64_nat _ _ lA (by omega), hB]
 have e3 : bits .xor .u64 (B : Int) (IntKind.u64.wrap ((B : Int) * 131072)) = (C : Int) := by
  rw [IntKind.wrap_u64, show ((B : Int) * 131072 % 18446744073709551616) = ((B * 131072 % 18446744073709551616 : Nat) : Int) by omega, bits_xor_u64_nat _ _ lB (by omega), hC]
 have hv : xorNextN X = C := by unfold xorNextN; simp only []; rw [← hA, ← hB, ← hC]
 rw [hv]
 clear hA hB hC hv
 have hss : ∀ v v', (w.setCell ⟨rb, ro, none⟩ v).setCell ⟨rb, ro, none⟩ v' = w.setCell ⟨rb, ro, none⟩ v' := setCell_setCell w rb ro
 go_enter Tryz.func202, Tryz.ntmps202
 go_wp2
 go_region
 all_goals go_wp2
 all_goals go_region
 all_goals go_wp2
 all_goals go_region
 all_goals go_wp2
 go_ret
 exact ⟨rfl, rfl⟩
theorem nextPowerOfTwo_u (n : Nat) (hn : n < 4611686018427387904) (w : World) :
  Calls Tryz.prog 201 #[.int .i64 n] w fun e w' => e = .returned (.int .u64 ((1 <<< bitsLen n : Nat) : Int)) ∧ w' = w := by
 have hLen : ∀ w, Calls Tryz.prog 105 #[.int .u64 (n : Int)] w fun e w' => e = .returned (.int .i64 (bitsLen n : Nat)) ∧ w' = w := fun w => by
  have h := Tryz.bits_Len (n : Int) w (by omega) (by omega)
  rwa [Int.toNat_natCast, bitLen_eq _ (by omega)] at h
 have hk : bitsLen n ≤ 62 := (bitsLen_le_iff n 62).2 (by omega)
 have hp := wrap_two_pow (bitsLen n) hk
 go_enter Tryz.func201, Tryz.ntmps201
 go_wp2_with (first | (go_at_call 105; refine (hLen _).mono ?_; rintro e w' ⟨rfl, rfl⟩))
 go_ret
 exact ⟨rfl, rfl⟩
set_option maxHeartbeats 1000000 in
set_option maxRecDepth 100000 in
theorem breakPatterns_u_go (blk off cap a L : Nat) (d : Array Int) (w : World) (hH : Holds encU w blk off d) (hblk : blk < w.heap.size) (hb : a + L ≤ d.size) (hsz : d.size < 4611686018427387904) (h8 : 8 ≤ L) :
  Calls Tryz.prog 289 #[.slice (some ⟨blk, off, none⟩) d.size cap, .int .i64 a, .int .i64 ((a + L : Nat) : Int)] w fun e w' =>
   e = .returned (.tuple #[]) ∧ ∃ n os, w' = grow (putRow encU (Sort.ahead w n) blk off (breakPatterns d a (a + L))) os := by
 rw [breakPatterns_eq d a L h8]
 obtain ⟨M, hM⟩ : ∃ M : Nat, M = 1 <<< bitsLen L := ⟨_, rfl⟩
 have hM1 : 1 ≤ M := by rw [hM, Nat.one_shiftLeft]; exact Nat.two_pow_pos _
 have hM2 : M ≤ 2 * L := by rw [hM, Nat.one_shiftLeft]; exact two_pow_bitsLen_le (by omega)
 have hNP : ∀ w, Calls Tryz.prog 201 #[.int .i64 (L : Int)] w fun e w' => e = .returned (.int .u64 (M : Int)) ∧ w' = w := by rw [hM]; exact fun w => nextPowerOfTwo_u L (by omega) w
 rw [← hM]
 clear hM
 have HH : Hid (Holds encU w blk off d) := hH
 have HST : Hid (w.alloc (Obj.cells #[.int .u64 (L : Int)] 242) = grow (putRow encU (Sort.ahead w 0) blk off d) #[Obj.cells #[.int .u64 ((UInt64.ofNat L).toNat : Int)] 242]) := by
  show _ = _
  rw [show Sort.ahead w 0 = w from rfl, putRow_self _ _ _ _ _ hH, alloc_eq_grow, show (UInt64.ofNat L).toNat = L from by simp; omega]
 clear hH
 go_enter Tryz.func289, Tryz.ntmps289
 go_wp2_with (first | (go_at_call 201; rw [show ((a : Int) + (L : Int) - (a : Int)) = (L : Int) by omega]; refine (hNP _).mono ?_; rintro e w' ⟨rfl, rfl⟩))
 go_loopw [9] (fun vi wr => ∃ (t n : Nat) (r : UInt64) (dk : Array Int), vi = .int .i64 ((a + L / 4 * 2 - 1 + t : Nat) : Int) ∧ t ≤ 3 ∧ dk.size = d.size ∧
   wr = grow (putRow encU (Sort.ahead w n) blk off dk) #[Obj.cells #[.int .u64 (r.toNat : Int)] 242] ∧
   bpRest a L M (a + L / 4 * 2 - 1) (3 - t) t (r, dk) = bpRest a L M (a + L / 4 * 2 - 1) 3 0 (UInt64.ofNat L, d)) (fun vi _ => a + L / 4 * 2 + 3 - (intOf vi).toNat)
 case atStart => exact ⟨0, 0, UInt64.ofNat L, d, by congr 1; omega, by omega, rfl, HST.out, rfl⟩
 case round =>
  obtain ⟨t, n, r, dk, rfl, ht, hsk, hw, hR⟩ := hrel
  obtain ⟨R, hRr⟩ : ∃ R : Nat, R = r.toNat := ⟨_, rfl⟩
  have lR : R < 18446744073709551616 := by rw [hRr]; exact r.toNat_lt
  obtain ⟨R', hR'⟩ : ∃ R' : Nat, R' = xorNextN R := ⟨_, rfl⟩
  have lR' : R' < 18446744073709551616 := by rw [hR']; exact xorNextN_lt R lR
  obtain ⟨O, hO⟩ : ∃ O : Nat, O = R' &&& (M - 1) := ⟨_, rfl⟩
  have lO : O ≤ M - 1 := by rw [hO]; exact Nat.and_le_right
  have eAnd : bits .and .u64 (R' : Int) ((M : Int) - 1) = (O : Int) := by
   rw [show ((M : Int) - 1) = ((M - 1 : Nat) : Int) by omega, bits_and_u64_nat _ _ lR' (by omega), hO]
  obtain ⟨G, hG⟩ : ∃ G : Nat → Int, ∀ x, G x = dk[x]! := ⟨fun x => dk[x]!, fun _ => rfl⟩
  have hz : (putRow encU (Sort.ahead w n) blk off dk).heap.size = w.heap.size := by simp
  have hcw : ∀ x, x < d.size → wr.cell? ⟨blk, off + x, none⟩ = some (.int .u32 (G x)) := fun x hx => by
   rw [hw, cell?_grow _ _ _ (by rw [hz]; exact hblk), hG]; exact cell?_putRow _ _ _ _ d dk (holds_ahead _ _ _ _ _ _ HH.out) hsk x (by omega)
  have hfw : ∀ x, x < d.size → wr.frozen? ⟨blk, off + x, none⟩ = false := fun x hx => by
   rw [hw, frozen?_grow _ _ _ (by rw [hz]; exact hblk), frozen?_putRow]; exact ((holds_ahead _ _ n _ _ _ HH.out) x hx).2
  have hcB : wr.cell? ⟨w.heap.size, 0, none⟩ = some (.int .u64 (R : Int)) := by rw [hw, hRr, ← hz]; exact grow_one_cell _ _ _
  have hfB : wr.frozen? ⟨w.heap.size, 0, none⟩ = false := by rw [hw, ← hz]; exact grow_one_frozen _ _ _
  have hNext : Calls Tryz.prog 202 #[.pointer (some ⟨w.heap.size, 0, none⟩)] wr fun e w' => e = .returned (.int .u64 (R' : Int)) ∧ w' = (wr.setCell ⟨w.heap.size, 0, none⟩ (.int .u64 (R' : Int))).drewN 3 := by
   rw [hR']; exact xorshift_Next_u _ _ R lR wr hcB hfB
  have HW : Hid (wr = grow (putRow encU (Sort.ahead w n) blk off dk) #[Obj.cells #[.int .u64 (r.toNat : Int)] 242]) := hw
  have HG : Hid (∀ x, G x = dk[x]!) := hG
  have HR : Hid (bpRest a L M (a + L / 4 * 2 - 1) (3 - t) t (r, dk) = bpRest a L M (a + L / 4 * 2 - 1) 3 0 (UInt64.ofNat L, d)) := hR
  have HN : Hid (R' = (xorNext r).toNat ∧ O = (xorNext r).toNat &&& (M - 1)) := by
   have e : R' = (xorNext r).toNat := by rw [hR', hRr, xorNext_toNat]
   exact ⟨e, by rw [hO, e]⟩
  clear hw hG hR hRr hR' hO
  go_wp2_with (first | (go_at_call 202; refine hNext.mono ?_; rintro e w' ⟨rfl, rfl⟩))
  ·
   have hLO : L ≤ O := by omega
   by_cases hEq : a + L / 4 * 2 - 1 + t = a + (O - L)
   all_goals
    go_region
    all_goals go_wp2
    go_roundw
    case rel =>
     refine ⟨t + 1, n + 4, xorNext r, swp dk (a + L / 4 * 2 - 1 + t) (a + (O - L)), by first | rfl | (congr 1 <;> omega), by omega, by rw [size_swp]; exact hsk, ?_, ?_⟩
     ·try rw [hEq]
      rw [HW.out, HN.out.1]
      simp only [HG.out]
      exact step_world encU w n 4 blk off dk _ _ hblk (by omega) (by omega) _ _ _
     ·rw [← HR.out, bp_step a L M _ t r dk (O - L) (by omega) (by rw [← HN.out.2, if_pos (by omega)])]
    case measure => simp [intOf]; omega
  ·have hLO : ¬ L ≤ O := by omega
   by_cases hEq : a + L / 4 * 2 - 1 + t = a + O
   all_goals
    go_region
    all_goals go_wp2
    go_roundw
    case rel =>
     refine ⟨t + 1, n + 4, xorNext r, swp dk (a + L / 4 * 2 - 1 + t) (a + O), by first | rfl | (congr 1 <;> omega), by omega, by rw [size_swp]; exact hsk, ?_, ?_⟩
     ·try rw [hEq]
      rw [HW.out, HN.out.1]
      simp only [HG.out]
      exact step_world encU w n 4 blk off dk _ _ hblk (by omega) (by omega) _ _ _
     ·rw [← HR.out, bp_step a L M _ t r dk O (by omega) (by rw [← HN.out.2, if_neg (by omega)])]
    case measure => simp [intOf]; omega
  ·
   obtain rfl : t = 3 := by omega
   go_end0
   exact ⟨rfl, n, _, by rw [← HR.out, HW.out]; rfl⟩
theorem breakPatterns_u (blk off cap a b : Nat) (d : Array Int) (w : World) (hH : Holds encU w blk off d) (hblk : blk < w.heap.size) (hab : a ≤ b) (hb : b ≤ d.size) (hsz : d.size < 4611686018427387904) :
  Calls Tryz.prog 289 #[.slice (some ⟨blk, off, none⟩) d.size cap, .int .i64 a, .int .i64 b] w fun e w' =>
   e = .returned (.tuple #[]) ∧ ∃ n os, w' = grow (putRow encU (Sort.ahead w n) blk off (breakPatterns d a b)) os := by
 obtain ⟨L, rfl⟩ : ∃ L, b = a + L := ⟨b - a, by omega⟩
 by_cases h8 : 8 ≤ L
 ·exact breakPatterns_u_go blk off cap a L d w hH hblk hb hsz h8
 ·have hv : breakPatterns d a (a + L) = d := by unfold breakPatterns; simp only [Nat.add_sub_cancel_left]; rw [if_neg h8]
  rw [hv]
  have HST : Hid (w = grow (putRow encU (Sort.ahead w 0) blk off d) #[]) := by
   show _ = _
   rw [grow_empty, show Sort.ahead w 0 = w from rfl, putRow_self _ _ _ _ _ hH]
  clear hH
  go_enter Tryz.func289, Tryz.ntmps289
  go_wp2
  go_end0
  exact ⟨rfl, 0, #[], HST.out⟩
open Go.Sort Go.RowKit
set_option maxHeartbeats 1600000 in
set_option maxRecDepth 100000 in
theorem partialInsertionSort_u (blk off cap a b : Nat) (d : Array Int) (w : World) (hH : Holds encU w blk off d) (hab : a < b) (hb : b ≤ d.size) (hsz : d.size < 4611686018427387904) :
    Calls Tryz.prog 292 #[.slice (some ⟨blk, off, none⟩) d.size cap, .int .i64 a, .int .i64 b] w fun e w' =>
      e = .returned (.bool (Sort.partialInsertionSort ltInt d a b).2) ∧ ∃ n, w' = putRow encU (Sort.ahead w n) blk off (Sort.partialInsertionSort ltInt d a b).1 := by
  have HH : Hid (Holds encU w blk off d) := hH
  have HST : Hid (w = putRow encU (Sort.ahead w 0) blk off d) := (putRow_self _ _ _ _ _ hH).symm
  clear hH
  go_enter Tryz.func292, Tryz.ntmps292
  go_wp2
  go_loopw [7, 8] (fun vi vs wr => ∃ (i s n : Nat) (dk : Array Int), vi = .int .i64 i ∧ vs = .int .i64 s ∧ s ≤ 5 ∧ a < i ∧ i ≤ b ∧ dk.size = d.size ∧ wr = putRow encU (Sort.ahead w n) blk off dk ∧
      partialIns ltInt a b (5 - s) i dk = partialIns ltInt a b 5 (a + 1) d) (fun _ vs _ => 5 - (intOf vs).toNat)
  case atStart => exact ⟨a + 1, 0, 0, d, by go_num, rfl, by omega, by omega, by omega, rfl, HST.out, rfl⟩
  case round =>
    obtain ⟨i, s, n, dk, rfl, rfl, hs5, hai, hib, hsk, hwr, hO⟩ := hrel
    have HO : Hid (partialIns ltInt a b (5 - s) i dk = partialIns ltInt a b 5 (a + 1) d) := hO
    clear hO
    go_wp2
    ·
      have hs : s < 5 := by omega
      go_loopw [7] (fun vi wr2 => ∃ (k m : Nat), vi = .int .i64 k ∧ i ≤ k ∧ k ≤ b ∧ wr2 = putRow encU (Sort.ahead w m) blk off dk ∧ scanSorted ltInt dk b k = scanSorted ltInt dk b i) (fun vi _ => b - (intOf vi).toNat)
      case atStart => exact ⟨i, n, rfl, Nat.le_refl _, hib, rfl, rfl⟩
      case round =>
        obtain ⟨k, m, rfl, hik, hkb, hw2, hS⟩ := hrel
        obtain ⟨G, hG⟩ : ∃ G : Nat → Int, ∀ t, G t = dk[t]! := ⟨fun t => dk[t]!, fun _ => rfl⟩
        have hcw : ∀ t, t < d.size → wr.cell? ⟨blk, off + t, none⟩ = some (.int .u32 (G t)) := fun t ht => by
          rw [hw2, hG]; exact cell?_putRow _ _ _ _ d dk (holds_ahead _ _ _ _ _ _ HH.out) hsk t (by omega)
        have hfw : ∀ t, t < d.size → wr.frozen? ⟨blk, off + t, none⟩ = false := fun t ht => by
          rw [hw2, frozen?_putRow]; exact ((holds_ahead _ _ m _ _ _ HH.out) t ht).2
        have HW : Hid (wr = putRow encU (Sort.ahead w m) blk off dk) := hw2
        have HG : Hid (∀ t, G t = dk[t]!) := hG
        have HS : Hid (scanSorted ltInt dk b k = scanSorted ltInt dk b i) := hS
        clear hw2 hG hS
        go_wp2
        by_cases hkb' : k < b
        · go_quiet (first | (go_at_call 293; refine Calls.quiet_of_same (uX _ _ _)))
          go_wp2
          all_goals first
            | (at_end
               have hl : ltInt (G k) (G (k - 1)) = false := by
                 have h : (!ltInt (G k) (G (k - 1))) = true := by assumption
                 simpa using h
               go_roundw
               case rel => exact ⟨k + 1, m + nq, by go_num, by omega, by omega, by rw [HW.out]; exact putRow_drewN _ _ _ _ _ _ _, by rw [← HS.out, scanSorted_go ltInt dk b k hkb' (by rw [← HG.out, ← HG.out]; exact hl)]⟩
               case measure => simp [intOf]; omega)
            | (have hl : ltInt (G k) (G (k - 1)) = true := by
                 have h : (!ltInt (G k) (G (k - 1))) = false := by assumption
                 simpa using h
               have HK : Hid (scanSorted ltInt dk b i = k) := by
                 show scanSorted ltInt dk b i = k
                 rw [← HS.out, scanSorted_stop ltInt dk b k (Or.inr (by rw [← HG.out, ← HG.out]; exact hl))]
               first
                 | (at_ret
                    have hv : Sort.partialInsertionSort ltInt d a b = (dk, false) := by
                      unfold Sort.partialInsertionSort
                      rw [← HO.out, pi_short ltInt a b s i dk hs (by rw [HK.out]; omega) (by omega)]
                    rw [hv]
                    go_ret
                    exact ⟨rfl, m + nq, by rw [HW.out]; exact putRow_drewN _ _ _ _ _ _ _⟩)
                 | (at_region 11
                    have h50 : ¬ b - a < 50 := by omega
                    go_region
                    have hsw : ((wr.drewN (nq + 1)).setCell ⟨blk, off + k, none⟩ (.int .u32 (G (k - 1)))).setCell ⟨blk, off + (k - 1), none⟩ (.int .u32 (G k)) = putRow encU (Sort.ahead w (m + (nq + 1))) blk off (swp dk k (k - 1)) := by
                      rw [HW.out, HG.out, HG.out]
                      exact swap_worldA _ w m (nq + 1) blk off dk k (k - 1) (by omega) (by omega)
                    have hs1 : (swp dk k (k - 1)).size = d.size := by rw [size_swp]; exact hsk
                    go_wp2
                    all_goals first
                      | (at_loop
                         have hka : k - a ≥ 2 := by omega
                         go_loopw [9] (fun vj wr2 => ∃ (j m2 : Nat) (dj : Array Int), vj = .int .i64 j ∧ j ≤ k - 1 ∧ dj.size = d.size ∧ wr2 = putRow encU (Sort.ahead w m2) blk off dj ∧
                             shiftDown ltInt j dj = shiftDown ltInt (k - 1) (swp dk k (k - 1))) (fun vj _ => (intOf vj).toNat)
                         case atStart => exact ⟨k - 1, _, (swp dk k (k - 1)), by congr 1; omega, Nat.le_refl _, hs1, rfl, rfl⟩
                         case round =>
                           obtain ⟨j, m2, dj, rfl, hjk, hsj, hw2, hDn⟩ := hrel
                           obtain ⟨G, hG⟩ : ∃ G : Nat → Int, ∀ t, G t = dj[t]! := ⟨fun t => dj[t]!, fun _ => rfl⟩
                           have hcw : ∀ t, t < d.size → wr.cell? ⟨blk, off + t, none⟩ = some (.int .u32 (G t)) := fun t ht => by
                             rw [hw2, hG]; exact cell?_putRow _ _ _ _ d dj (holds_ahead _ _ _ _ _ _ HH.out) hsj t (by omega)
                           have hfw : ∀ t, t < d.size → wr.frozen? ⟨blk, off + t, none⟩ = false := fun t ht => by
                             rw [hw2, frozen?_putRow]; exact ((holds_ahead _ _ m2 _ _ _ HH.out) t ht).2
                           have HW : Hid (wr = putRow encU (Sort.ahead w m2) blk off dj) := hw2
                           have HG : Hid (∀ t, G t = dj[t]!) := hG
                           have HDn : Hid (shiftDown ltInt j dj = shiftDown ltInt (k - 1) (swp dk k (k - 1))) := hDn
                           clear hw2 hG hDn hsw
                           go_wp2
                           all_goals first
                             | (at_region 16
                                go_quiet (first | (go_at_call 293; refine Calls.quiet_of_same (uX _ _ _)))
                                go_wp2
                                all_goals first
                                  | (at_region 17
                                     have hl : ltInt (G j) (G (j - 1)) = true := by
                                       have h : (!ltInt (G j) (G (j - 1))) = false := by assumption
                                       simpa using h
                                     go_region
                                     all_goals go_wp2
                                     go_roundw
                                     case rel =>
                                       refine ⟨j - 1, m2 + (nq + 1), swp dj j (j - 1), by congr 1; omega, by omega, by rw [size_swp]; exact hsj, ?_, ?_⟩
                                       · rw [HW.out, HG.out, HG.out]
                                         exact swap_worldA _ w m2 (nq + 1) blk off dj j (j - 1) (by omega) (by omega)
                                       · rw [← HDn.out, shiftDown_go ltInt j dj (by omega) (by rw [← HG.out, ← HG.out]; exact hl)]
                                     case measure => simp [intOf]; omega)
                                  | (-- break
                                     have hl : ltInt (G j) (G (j - 1)) = false := by
                                       have h : (!ltInt (G j) (G (j - 1))) = true := by assumption
                                       simpa using h
                                     have HD : Hid (fixDown ltInt a k (swp dk k (k - 1)) = dj) := by
                                       show fixDown ltInt a k (swp dk k (k - 1)) = dj
                                       unfold fixDown; rw [if_pos hka, ← HDn.out, shiftDown_stop ltInt j dj (Or.inr (by rw [← HG.out, ← HG.out]; exact hl))]
                                     first
                                       | (at_end
                                          go_roundw
                                          case rel =>
                                            refine ⟨k, s + 1, _, dj, rfl, by go_num, by omega, by omega, by omega, hsj, (by first | rfl | exact HW.out | (rw [HW.out]; exact putRow_drewN _ _ _ _ _ _ _)), ?_⟩
                                            rw [← HO.out, pi_go ltInt a b s i k dk hs HK.out (by omega) (by omega), HD.out, show fixUp ltInt b k dj = dj from by unfold fixUp; rw [if_neg (by omega)]]
                                          case measure => simp [intOf]; omega)
                                       | (at_loop
                                          go_loopw [10] (fun vj wr2 => ∃ (j m3 : Nat) (du : Array Int), vj = .int .i64 j ∧ k + 1 ≤ j ∧ j ≤ b ∧ du.size = d.size ∧ wr2 = putRow encU (Sort.ahead w m3) blk off du ∧
                                              shiftUp ltInt b j du = shiftUp ltInt b (k + 1) dj) (fun vj _ => b - (intOf vj).toNat)
                                          case atStart => exact ⟨k + 1, _, dj, by go_num, Nat.le_refl _, by omega, hsj, (by first | rfl | exact HW.out | (rw [HW.out]; exact putRow_drewN _ _ _ _ _ _ _)), rfl⟩
                                          case round =>
                                            obtain ⟨j, m3, du, rfl, hkj, hjb, hsu, hw3, hU⟩ := hrel
                                            obtain ⟨G, hG⟩ : ∃ G : Nat → Int, ∀ t, G t = du[t]! := ⟨fun t => du[t]!, fun _ => rfl⟩
                                            have hcw : ∀ t, t < d.size → wr.cell? ⟨blk, off + t, none⟩ = some (.int .u32 (G t)) := fun t ht => by
                                              rw [hw3, hG]; exact cell?_putRow _ _ _ _ d du (holds_ahead _ _ _ _ _ _ HH.out) hsu t (by omega)
                                            have hfw : ∀ t, t < d.size → wr.frozen? ⟨blk, off + t, none⟩ = false := fun t ht => by
                                              rw [hw3, frozen?_putRow]; exact ((holds_ahead _ _ m3 _ _ _ HH.out) t ht).2
                                            have HW : Hid (wr = putRow encU (Sort.ahead w m3) blk off du) := hw3
                                            have HG : Hid (∀ t, G t = du[t]!) := hG
                                            have HU : Hid (shiftUp ltInt b j du = shiftUp ltInt b (k + 1) dj) := hU
                                            clear hw3 hG hU
                                            go_wp2
                                            all_goals first
                                              | (at_region 22
                                                 go_quiet (first | (go_at_call 293; refine Calls.quiet_of_same (uX _ _ _)))
                                                 go_wp2
                                                 all_goals first
                                                   | (at_region 23
                                                      have hl : ltInt (G j) (G (j - 1)) = true := by
                                                        have h : (!ltInt (G j) (G (j - 1))) = false := by assumption
                                                        simpa using h
                                                      go_region
                                                      all_goals go_wp2
                                                      go_roundw
                                                      case rel =>
                                                        refine ⟨j + 1, m3 + (nq + 1), swp du j (j - 1), by go_num, by omega, by omega, by rw [size_swp]; exact hsu, ?_, ?_⟩
                                                        · rw [HW.out, HG.out, HG.out]
                                                          exact swap_worldA _ w m3 (nq + 1) blk off du j (j - 1) (by omega) (by omega)
                                                        · rw [← HU.out, shiftUp_go ltInt b j du (by omega) (by rw [← HG.out, ← HG.out]; exact hl)]
                                                      case measure => simp [intOf]; omega)
                                                   | (at_end
                                                      have hl : ltInt (G j) (G (j - 1)) = false := by
                                                        have h : (!ltInt (G j) (G (j - 1))) = true := by assumption
                                                        simpa using h
                                                      go_roundw
                                                      case rel =>
                                                        refine ⟨k, s + 1, _, du, rfl, by go_num, by omega, by omega, by omega, hsu, (by first | rfl | exact HW.out | (rw [HW.out]; exact putRow_drewN _ _ _ _ _ _ _)), ?_⟩
                                                        rw [← HO.out, pi_go ltInt a b s i k dk hs HK.out (by omega) (by omega), HD.out, show fixUp ltInt b k dj = du from by unfold fixUp; rw [if_pos (by omega), ← HU.out, shiftUp_stop ltInt b j du (Or.inr (by rw [← HG.out, ← HG.out]; exact hl))]]
                                                      case measure => simp [intOf]; omega))
                                              | (at_end
                                                 go_roundw
                                                 case rel =>
                                                   refine ⟨k, s + 1, _, du, rfl, by go_num, by omega, by omega, by omega, hsu, (by first | rfl | exact HW.out | (rw [HW.out]; exact putRow_drewN _ _ _ _ _ _ _)), ?_⟩
                                                   rw [← HO.out, pi_go ltInt a b s i k dk hs HK.out (by omega) (by omega), HD.out, show fixUp ltInt b k dj = du from by unfold fixUp; rw [if_pos (by omega), ← HU.out, shiftUp_stop ltInt b j du (Or.inl (by omega))]]
                                                 case measure => simp [intOf]; omega))))
                             | (-- j < 1
                                have HD : Hid (fixDown ltInt a k (swp dk k (k - 1)) = dj) := by
                                  show fixDown ltInt a k (swp dk k (k - 1)) = dj
                                  unfold fixDown; rw [if_pos hka, ← HDn.out, shiftDown_stop ltInt j dj (Or.inl (by omega))]
                                first
                                  | (at_end
                                     go_roundw
                                     case rel =>
                                       refine ⟨k, s + 1, _, dj, rfl, by go_num, by omega, by omega, by omega, hsj, (by first | rfl | exact HW.out | (rw [HW.out]; exact putRow_drewN _ _ _ _ _ _ _)), ?_⟩
                                       rw [← HO.out, pi_go ltInt a b s i k dk hs HK.out (by omega) (by omega), HD.out, show fixUp ltInt b k dj = dj from by unfold fixUp; rw [if_neg (by omega)]]
                                     case measure => simp [intOf]; omega)
                                  | (at_loop
                                     go_loopw [10] (fun vj wr2 => ∃ (j m3 : Nat) (du : Array Int), vj = .int .i64 j ∧ k + 1 ≤ j ∧ j ≤ b ∧ du.size = d.size ∧ wr2 = putRow encU (Sort.ahead w m3) blk off du ∧
                                         shiftUp ltInt b j du = shiftUp ltInt b (k + 1) dj) (fun vj _ => b - (intOf vj).toNat)
                                     case atStart => exact ⟨k + 1, _, dj, by go_num, Nat.le_refl _, by omega, hsj, (by first | rfl | exact HW.out | (rw [HW.out]; exact putRow_drewN _ _ _ _ _ _ _)), rfl⟩
                                     case round =>
                                       obtain ⟨j, m3, du, rfl, hkj, hjb, hsu, hw3, hU⟩ := hrel
                                       obtain ⟨G, hG⟩ : ∃ G : Nat → Int, ∀ t, G t = du[t]! := ⟨fun t => du[t]!, fun _ => rfl⟩
                                       have hcw : ∀ t, t < d.size → wr.cell? ⟨blk, off + t, none⟩ = some (.int .u32 (G t)) := fun t ht => by
                                         rw [hw3, hG]; exact cell?_putRow _ _ _ _ d du (holds_ahead _ _ _ _ _ _ HH.out) hsu t (by omega)
                                       have hfw : ∀ t, t < d.size → wr.frozen? ⟨blk, off + t, none⟩ = false := fun t ht => by
                                         rw [hw3, frozen?_putRow]; exact ((holds_ahead _ _ m3 _ _ _ HH.out) t ht).2
                                       have HW : Hid (wr = putRow encU (Sort.ahead w m3) blk off du) := hw3
                                       have HG : Hid (∀ t, G t = du[t]!) := hG
                                       have HU : Hid (shiftUp ltInt b j du = shiftUp ltInt b (k + 1) dj) := hU
                                       clear hw3 hG hU
                                       go_wp2
                                       all_goals first
                                         | (at_region 22
                                            go_quiet (first | (go_at_call 293; refine Calls.quiet_of_same (uX _ _ _)))
                                            go_wp2
                                            all_goals first
                                              | (at_region 23
                                                 have hl : ltInt (G j) (G (j - 1)) = true := by
                                                   have h : (!ltInt (G j) (G (j - 1))) = false := by assumption
                                                   simpa using h
                                                 go_region
                                                 all_goals go_wp2
                                                 go_roundw
                                                 case rel =>
                                                   refine ⟨j + 1, m3 + (nq + 1), swp du j (j - 1), by go_num, by omega, by omega, by rw [size_swp]; exact hsu, ?_, ?_⟩
                                                   · rw [HW.out, HG.out, HG.out]
                                                     exact swap_worldA _ w m3 (nq + 1) blk off du j (j - 1) (by omega) (by omega)
                                                   · rw [← HU.out, shiftUp_go ltInt b j du (by omega) (by rw [← HG.out, ← HG.out]; exact hl)]
                                                 case measure => simp [intOf]; omega)
                                              | (at_end
                                                 have hl : ltInt (G j) (G (j - 1)) = false := by
                                                   have h : (!ltInt (G j) (G (j - 1))) = true := by assumption
                                                   simpa using h
                                                 go_roundw
                                                 case rel =>
                                                   refine ⟨k, s + 1, _, du, rfl, by go_num, by omega, by omega, by omega, hsu, (by first | rfl | exact HW.out | (rw [HW.out]; exact putRow_drewN _ _ _ _ _ _ _)), ?_⟩
                                                   rw [← HO.out, pi_go ltInt a b s i k dk hs HK.out (by omega) (by omega), HD.out, show fixUp ltInt b k dj = du from by unfold fixUp; rw [if_pos (by omega), ← HU.out, shiftUp_stop ltInt b j du (Or.inr (by rw [← HG.out, ← HG.out]; exact hl))]]
                                                 case measure => simp [intOf]; omega))
                                         | (at_end
                                            go_roundw
                                            case rel =>
                                              refine ⟨k, s + 1, _, du, rfl, by go_num, by omega, by omega, by omega, hsu, (by first | rfl | exact HW.out | (rw [HW.out]; exact putRow_drewN _ _ _ _ _ _ _)), ?_⟩
                                              rw [← HO.out, pi_go ltInt a b s i k dk hs HK.out (by omega) (by omega), HD.out, show fixUp ltInt b k dj = du from by unfold fixUp; rw [if_pos (by omega), ← HU.out, shiftUp_stop ltInt b j du (Or.inl (by omega))]]
                                            case measure => simp [intOf]; omega))))
                      | (-- i - a < 2
                         have HD : Hid (fixDown ltInt a k (swp dk k (k - 1)) = (swp dk k (k - 1))) := by
                           show fixDown ltInt a k (swp dk k (k - 1)) = (swp dk k (k - 1))
                           unfold fixDown; rw [if_neg (by omega)]
                         first
                           | (at_end
                              go_roundw
                              case rel =>
                                refine ⟨k, s + 1, _, (swp dk k (k - 1)), rfl, by go_num, by omega, by omega, by omega, hs1, (by first | rfl | exact HW.out | (rw [HW.out]; exact putRow_drewN _ _ _ _ _ _ _)), ?_⟩
                                rw [← HO.out, pi_go ltInt a b s i k dk hs HK.out (by omega) (by omega), HD.out, show fixUp ltInt b k (swp dk k (k - 1)) = (swp dk k (k - 1)) from by unfold fixUp; rw [if_neg (by omega)]]
                              case measure => simp [intOf]; omega)
                           | (at_loop
                              go_loopw [10] (fun vj wr2 => ∃ (j m3 : Nat) (du : Array Int), vj = .int .i64 j ∧ k + 1 ≤ j ∧ j ≤ b ∧ du.size = d.size ∧ wr2 = putRow encU (Sort.ahead w m3) blk off du ∧
                                  shiftUp ltInt b j du = shiftUp ltInt b (k + 1) (swp dk k (k - 1))) (fun vj _ => b - (intOf vj).toNat)
                              case atStart => exact ⟨k + 1, _, (swp dk k (k - 1)), by go_num, Nat.le_refl _, by omega, hs1, (by first | rfl | exact HW.out | (rw [HW.out]; exact putRow_drewN _ _ _ _ _ _ _)), rfl⟩
                              case round =>
                                obtain ⟨j, m3, du, rfl, hkj, hjb, hsu, hw3, hU⟩ := hrel
                                obtain ⟨G, hG⟩ : ∃ G : Nat → Int, ∀ t, G t = du[t]! := ⟨fun t => du[t]!, fun _ => rfl⟩
                                have hcw : ∀ t, t < d.size → wr.cell? ⟨blk, off + t, none⟩ = some (.int .u32 (G t)) := fun t ht => by
                                  rw [hw3, hG]; exact cell?_putRow _ _ _ _ d du (holds_ahead _ _ _ _ _ _ HH.out) hsu t (by omega)
                                have hfw : ∀ t, t < d.size → wr.frozen? ⟨blk, off + t, none⟩ = false := fun t ht => by
                                  rw [hw3, frozen?_putRow]; exact ((holds_ahead _ _ m3 _ _ _ HH.out) t ht).2
                                have HW : Hid (wr = putRow encU (Sort.ahead w m3) blk off du) := hw3
                                have HG : Hid (∀ t, G t = du[t]!) := hG
                                have HU : Hid (shiftUp ltInt b j du = shiftUp ltInt b (k + 1) (swp dk k (k - 1))) := hU
                                clear hw3 hG hU
                                go_wp2
                                all_goals first
                                  | (at_region 22
                                     go_quiet (first | (go_at_call 293; refine Calls.quiet_of_same (uX _ _ _)))
                                     go_wp2
                                     all_goals first
                                       | (at_region 23
                                          have hl : ltInt (G j) (G (j - 1)) = true := by
                                            have h : (!ltInt (G j) (G (j - 1))) = false := by assumption
                                            simpa using h
                                          go_region
                                          all_goals go_wp2
                                          go_roundw
                                          case rel =>
                                            refine ⟨j + 1, m3 + (nq + 1), swp du j (j - 1), by go_num, by omega, by omega, by rw [size_swp]; exact hsu, ?_, ?_⟩
                                            · rw [HW.out, HG.out, HG.out]
                                              exact swap_worldA _ w m3 (nq + 1) blk off du j (j - 1) (by omega) (by omega)
                                            · rw [← HU.out, shiftUp_go ltInt b j du (by omega) (by rw [← HG.out, ← HG.out]; exact hl)]
                                          case measure => simp [intOf]; omega)
                                       | (at_end
                                          have hl : ltInt (G j) (G (j - 1)) = false := by
                                            have h : (!ltInt (G j) (G (j - 1))) = true := by assumption
                                            simpa using h
                                          go_roundw
                                          case rel =>
                                            refine ⟨k, s + 1, _, du, rfl, by go_num, by omega, by omega, by omega, hsu, (by first | rfl | exact HW.out | (rw [HW.out]; exact putRow_drewN _ _ _ _ _ _ _)), ?_⟩
                                            rw [← HO.out, pi_go ltInt a b s i k dk hs HK.out (by omega) (by omega), HD.out, show fixUp ltInt b k (swp dk k (k - 1)) = du from by unfold fixUp; rw [if_pos (by omega), ← HU.out, shiftUp_stop ltInt b j du (Or.inr (by rw [← HG.out, ← HG.out]; exact hl))]]
                                          case measure => simp [intOf]; omega))
                                  | (at_end
                                     go_roundw
                                     case rel =>
                                       refine ⟨k, s + 1, _, du, rfl, by go_num, by omega, by omega, by omega, hsu, (by first | rfl | exact HW.out | (rw [HW.out]; exact putRow_drewN _ _ _ _ _ _ _)), ?_⟩
                                       rw [← HO.out, pi_go ltInt a b s i k dk hs HK.out (by omega) (by omega), HD.out, show fixUp ltInt b k (swp dk k (k - 1)) = du from by unfold fixUp; rw [if_pos (by omega), ← HU.out, shiftUp_stop ltInt b j du (Or.inl (by omega))]]
                                     case measure => simp [intOf]; omega)))))
        ·
          go_quiet (first | (go_at_call 293; refine Calls.quiet_of_same (uX _ _ _)))
          go_wp2
          obtain rfl : k = b := by omega
          have hv : Sort.partialInsertionSort ltInt d a k = (dk, true) := by
            unfold Sort.partialInsertionSort
            rw [← HO.out, pi_true ltInt a k s i dk hs (by rw [← HS.out, scanSorted_stop ltInt dk k k (Or.inl (by omega))])]
          rw [hv]
          go_ret
          exact ⟨rfl, m + nq, by rw [HW.out]; exact putRow_drewN _ _ _ _ _ _ _⟩
    ·
      obtain rfl : s = 5 := by omega
      have hv : Sort.partialInsertionSort ltInt d a b = (dk, false) := by
        unfold Sort.partialInsertionSort
        rw [← HO.out, pi_end]
      rw [hv]
      go_ret
      exact ⟨rfl, n, rfl⟩
end Go.Proofs.YtjogffchdejabaaGreatDoor
