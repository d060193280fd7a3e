/- Parts. -/
import Derived.Scope
import Derived.Sort.WalkA
import Derived.RangeFuncBox
import Derived.RangeFuncLeaves
import Derived.Shelf.Abstract
import Derived.WalkKit
import Derived.OwnWalkIn
import Derived.TacticsInMore
import Derived.RegionIn
import Derived.LoopNIn
import Derived.LoopIn
import Derived.Maps.AppendAt
import Derived.Maps.OwnIn
import Derived.Sort.MapsRangeIn
import Derived.Sort.OwnSortedInts
import Derived.Maps.OwnOps
import Derived.Maps.OwnSet
import Derived.Maps.Views
import Derived.Test.YtjogffchdejabaaGreatDoorPp5
import Derived.Test.YtjogffchdejabaaGreatDoorPp9
import Derived.Test.YtjogffchdejabaaGreatDoorPp20
set_option linter.unusedVariables false
set_option linter.unusedSimpArgs false
set_option maxHeartbeats 4000000
namespace Go.Proofs.YtjogffchdejabaaGreatDoor
namespace Ev
open Go
section
variable {P : Program} {O : Ora} {ih : IH} {w0 : World} {π0 : Pl} {s0 : St} {all : List Oper} {ops : Array Oper} {ro' : Option Nat} {bef : List Nat} {lh : Option Nat} {gl : List (Nat × Nat)} {tm : T AV} {fx : Fx} {s : St} {X : Array Bool} {a : Act} {w : World} {π : Pl} {Q : Exit → Act → World → Prop}
def LitR (tm : T AV) (fx : Fx) (s : St) (r : OR) : Prop := ∃ tm' s', r = .go tm' fx s' ∧ (s' = s ∨ ∃ ob, s' = ⟨s.h.put s.c ob, Nat.succ s.c⟩)
theorem tF {dst : Option Tmp} {y : Option SR} {r : OR} (h : goL dst tm fx s y = some r) : LitR tm fx s r := by
 obtain ⟨q, _, rfl⟩ := qN h
 cases q with
 | val v => exact ⟨_, _, rfl, .inl rfl⟩
 | new ob f => exact ⟨_, _, rfl, .inr ⟨ob, rfl⟩⟩
theorem light_opK {dst : Option Tmp} {op : Op} {r : OR} (hl : isHeavy op = false) (h : opK P O ih dst tm fx s op = some r) : LitR tm fx s r := by
 cases op
 case move => cases h; exact ⟨_, _, rfl, .inl rfl⟩
 case assign => cases h; exact ⟨_, _, rfl, .inl rfl⟩
 case call c =>
  obtain ⟨callee, args, tys⟩ := c
  cases callee with
  | value f => cases hl
  | invoke x m => cases hl
  | builtin b => cases b <;> first | (cases hl; done) | exact tF h
 all_goals first | (cases hl; done) | (cases h; done) | exact tF h
theorem light_opS {o : Oper} {r : OR} (hl : isHeavy o.op = false) (h : opS P O ih all o tm fx s = some r) : LitR tm fx s r := by
 obtain ⟨h1, h2⟩ := uM h
 obtain ⟨b, h3, h4⟩ := uB h2
 rcases xU h4 with ⟨rfl, h5⟩ | ⟨rfl, h5⟩
 ·exact light_opK hl h5
 ·cases h5; exact ⟨_, _, rfl, .inl rfl⟩
noncomputable def glN (s s' : St) (i : Nat) (gl : List (Nat × Nat)) : List (Nat × Nat) := @Bool.rec (fun _ => List (Nat × Nat)) ((i, s.c) :: gl) gl (Nat.beq s'.c s.c)
theorem dI {s' : St} {i : Nat} {p : Nat × Nat} (h : p ∈ glN s s' i gl) : p ∈ gl ∨ (p = (i, s.c) ∧ s'.c ≠ s.c) := by
 have h : p ∈ @Bool.rec (fun _ => List (Nat × Nat)) ((i, s.c) :: gl) gl (Nat.beq s'.c s.c) := h
 cases hb : Nat.beq s'.c s.c with
 | true => rw [hb] at h; exact .inl h
 | false =>
  rw [hb] at h
  rcases List.mem_cons.1 h with h | h
  ·exact .inr ⟨h, Nat.ne_of_beq_eq_false hb⟩
  ·exact .inl h
theorem oS {tm' : T AV} {d : Option Tmp} {t : Nat} : (putF tm' d tm).get t = if d = some t then some (od (tm'.get t) .bad) else tm.get t := by
 cases d with
 | none => rfl
 | some d =>
  show (tm.put d (od (tm'.get d) .bad)).get t = _
  rw [T.get_put]
  by_cases e : t = d
  ·subst e; rw [if_pos rfl, if_pos rfl]
  ·rw [if_neg e, if_neg (fun hh => e (by cases hh; rfl))]
theorem Inv.unlisted (hI : Inv w0 π0 s0 all ro' bef lh gl tm fx s X a w π) {i : Nat} {o : Oper} (ho : all[i]? = some o) (hnb : i ∉ bef) : X.getD i true = false := by
 refine rZ (by rw [hI.xs]; exact (List.getElem?_eq_some_iff.1 ho).1) fun h => hnb (hI.sub i h)
theorem Inv.pass (hI : Inv w0 π0 s0 all ro' bef lh gl tm fx s X a w π) {i : Nat} {o : Oper} (ho : all[i]? = some o) (hnb : i ∉ bef) (hl : isHeavy o.op = false) {tm' : T AV} {s' : St} (hs : s' = s ∨ ∃ ob, s' = ⟨s.h.put s.c ob, Nat.succ s.c⟩) :
  Inv w0 π0 s0 all ro' (bef ++ [i]) lh (glN s s' i gl) (putF tm' o.dst tm) fx s' X a w π := by
 have hx := hI.unlisted ho hnb
 have hc : s.c ≤ s'.c := by rcases hs with rfl | ⟨ob, rfl⟩; exact Nat.le_refl _; exact Nat.le_succ _
 have hcn : π s.c = none := (hI.nx.fresh s.c (Nat.le_refl _)).2
 refine ⟨?_, hI.size, hI.df, hI.ro, fun t y ht hno => ?_, hI.xs, hI.cl, fun j hj => List.mem_append_left _ (hI.sub j hj), fun j q hj hq hh => ?_, hI.lhx, fun p hp => ?_, fun p hp q hq e => ?_⟩
 ·rcases hs with rfl | ⟨ob, rfl⟩
  ·exact hI.nx
  ·refine ⟨hI.nx.le, fun j hj hn => ?_, Nat.le_trans hI.nx.c hc, fun j hj => ?_, hI.nx.rel.ext fun j L hL => ?_⟩
   ·obtain ⟨q1, q2⟩ := hI.nx.old j hj hn
    have := hI.nx.c
    exact ⟨q1, (T.put_ne _ _ (by omega)).trans q2⟩
   ·have hj : s.c + 1 ≤ j := hj
    obtain ⟨q1, q2⟩ := hI.nx.fresh j (by omega)
    exact ⟨(T.put_ne _ _ (by omega)).trans q1, q2⟩
   ·exact T.put_ne _ _ fun e => by rw [e, hcn] at hL; cases hL
 ·rw [oS] at ht
  by_cases hd : o.dst = some t
  ·exact (hno i o (by simp) ho hx hd).elim
  ·rw [if_neg hd] at ht
   exact hI.tmx t y ht fun k q hk => hno k q (List.mem_append_left _ hk)
 ·rcases List.mem_append.1 hj with hj | hj
  ·exact hI.hv j q hj hq hh
  ·have : j = i := by simpa using hj
   subst this
   rw [ho] at hq; cases hq
   rw [hl] at hh; cases hh
 ·rcases dI hp with hp | ⟨rfl, hne⟩
  ·obtain ⟨q1, q2, q3⟩ := hI.glx p hp
   exact ⟨q1, by omega, q3⟩
  ·exact ⟨hI.nx.c, by show s.c < s'.c; omega, fun _ => hcn⟩
 ·rcases dI hp with hp | ⟨rfl, hne⟩ <;> rcases dI hq with hq | ⟨rfl, hne'⟩
  ·exact hI.gi p hp q hq e
  ·have := (hI.glx p hp).2.1
   have e : p.2 = s.c := e
   omega
  ·have := (hI.glx q hq).2.1
   have e : s.c = q.2 := e
   omega
  ·rfl
theorem Inv.heavy (hI : Inv w0 π0 s0 all ro' bef lh gl tm fx s X a w π) {i : Nat} {o : Oper} (ho : all[i]? = some o) (hnb : i ∉ bef) (he : Edges o (fun k => X.getD k false = true)) {tmi tm' : T AV} {fx' : Fx} {s' : St} (hop : opS P O ih all o tmi fx s = some (.go tm' fx' s'))
  {a' : Act} {w' : World} (hr : Res w0 π s tm' fx' s' a' w') (hfrm : ∃ v, a'.tmps = (a.put o.dst v).tmps) : ∃ π', Inv w0 π0 s0 all ro' (bef ++ [i]) (some i) (glN s s' i gl) (putF tm' o.dst tm) fx' s' (X.setIfInBounds i true) a' w' π' := by
 obtain ⟨π', nx, hfr⟩ := hr
 obtain ⟨v, hv⟩ := hfrm
 have hx := hI.unlisted ho hnb
 have his := (iT hx).1
 have hfx := nB hop
 obtain ⟨hd, _⟩ := uM hop
 have back : ∀ k, (X.setIfInBounds i true).getD k true = false → X.getD k true = false ∧ k ≠ i := fun k hk => by
  by_cases e : i = k
  ·subst e; rw [zL his] at hk; cases hk
  ·rw [getD_set_ne true e] at hk; exact ⟨hk, Ne.symm e⟩
 have fwd : ∀ k, (X.setIfInBounds i true).getD k false = true → X.getD k false = true ∨ k = i := fun k hk => by
  by_cases e : i = k
  ·exact .inr e.symm
  ·rw [getD_set_ne false e] at hk; exact .inl hk
 refine ⟨π', hI.nx.trans nx, hfr.size, hfr.df, by rw [hfx.2]; exact hI.ro.mono nx.le, fun t y ht hno => ?_, by rw [Array.size_setIfInBounds]; exact hI.xs, ?_, fun j hj => ?_, fun j q hj hq hh => ?_, fun h hh => ?_, fun p hp => ?_, fun p hp q hq e => ?_⟩
 ·rw [oS] at ht
  by_cases hdt : o.dst = some t
  ·rw [if_pos hdt] at ht
   cases ht
   cases hg : tm'.get t with
   | some y => exact hfr.tm t y hg
   | none =>
    rw [hdt] at hd
    have hlt : t < a'.tmps.size := by rw [hv, dV, hI.size]; exact xW hd
    exact ⟨a'.tmps[t], Array.getElem?_eq_getElem hlt, by show Rep π' .bad _; rw [Rep]; trivial⟩
  ·rw [if_neg hdt] at ht
   obtain ⟨u, h1, h2⟩ := hI.tmx t y ht fun k q hkb hk hxk hdk => by
    by_cases e : i = k
    ·subst e; rw [ho] at hk; cases hk; exact hdt hdk
    ·exact hno k q (List.mem_append_left _ hkb) hk (by rw [getD_set_ne true e]; exact hxk) hdk
   exact ⟨u, by rw [hv, gZ hdt]; exact h1, h2.mono nx.le⟩
 ·intro k q hk hxk e he' hb'
  rcases fwd k hxk with hxk | rfl
  ·exact getD_set_true (hI.cl k q hk hxk e he' hb')
  ·rw [ho] at hk; cases hk
   exact getD_set_true (he e he' hb')
 ·rcases fwd j hj with hj | rfl
  ·exact List.mem_append_left _ (hI.sub j hj)
  ·simp
 ·rcases List.mem_append.1 hj with hj | hj
  ·exact getD_set_true (hI.hv j q hj hq hh)
  ·have : j = i := by simpa using hj
   subst this
   exact zL his
 ·cases hh; exact zL his
 ·have hc := nx.c
  rcases dI hp with hp | ⟨rfl, hne⟩
  ·obtain ⟨q1, q2, q3⟩ := hI.glx p hp
   exact ⟨q1, by omega, fun h => (nx.old p.2 q2 (q3 (back _ h).1)).1⟩
  ·exact ⟨hI.nx.c, by show s.c < s'.c; omega, fun h => ((back _ h).2 rfl).elim⟩
 ·rcases dI hp with hp | ⟨rfl, hne⟩ <;> rcases dI hq with hq | ⟨rfl, hne'⟩
  ·exact hI.gi p hp q hq e
  ·have := (hI.glx p hp).2.1
   have e : p.2 = s.c := e
   omega
  ·have := (hI.glx q hq).2.1
   have e : s.c = q.2 := e
   omega
  ·rfl
def cnt (X : Array Bool) : Nat := X.toList.count false
theorem lW {X : Array Bool} {j : Nat} (h : X.getD j true = false) : 0 < cnt X := by
 refine List.count_pos_iff.2 ?_
 obtain ⟨h1, h2⟩ := iT h
 have : X[j] = false := by rw [Array.getD_eq_getD_getElem?, Array.getElem?_eq_getElem h1] at h; simpa using h
 rw [← this]
 exact Array.mem_toList_iff.2 (Array.getElem_mem h1)
theorem sJ {X : Array Bool} {j : Nat} (h : X.getD j true = false) : cnt (X.setIfInBounds j true) + 1 = cnt X := by
 have hp := lW h
 obtain ⟨h1, h2⟩ := iT h
 have h3 : X[j] = false := by rw [Array.getD_eq_getD_getElem?, Array.getElem?_eq_getElem h1] at h; simpa using h
 unfold cnt at *
 rw [Array.toList_setIfInBounds, List.count_set (by simpa using h1)]
 simp only [Array.getElem_toList, h3]
 have e1 : (false == false) = true := rfl
 have e2 : (true == false) = false := rfl
 rw [e1, e2]
 simp only [if_true, Bool.false_eq_true, if_false]
 omega
theorem sK {bs : List Nat} {j : Nat} {o : Oper} (ho : all[j]? = some o) (hh : isHeavy o.op = false) (hp : pastL bs lh j = false) : ∀ {l : List Nat}, j ∈ l → (j, o, maskL all (od (nth bs j) 0) bef) ∈ chkL all bs lh bef l
 | [], h => by cases h
 | q :: l, h => by
  show _ ∈ @Option.rec Oper (fun _ => List (Nat × Oper × List Tmp)) (chkL all bs lh bef l) (fun o => @Bool.rec (fun _ => List (Nat × Oper × List Tmp)) ((q, o, maskL all (od (nth bs q) 0) bef) :: chkL all bs lh bef l) (chkL all bs lh bef l) (isHeavy o.op || pastL bs lh q)) (nth all q)
  rcases List.mem_cons.1 h with rfl | h
  ·rw [yE all j, ho]
   show _ ∈ @Bool.rec (fun _ => List (Nat × Oper × List Tmp)) ((j, o, maskL all (od (nth bs j) 0) bef) :: chkL all bs lh bef l) (chkL all bs lh bef l) (isHeavy o.op || pastL bs lh j)
   rw [hh, hp]
   exact List.mem_cons_self
  ·have := sK ho hh hp h
   cases nth all q with
   | none => exact this
   | some o' =>
    show _ ∈ @Bool.rec (fun _ => List (Nat × Oper × List Tmp)) ((q, o', maskL all (od (nth bs q) 0) bef) :: chkL all bs lh bef l) (chkL all bs lh bef l) (isHeavy o'.op || pastL bs lh q)
    cases isHeavy o'.op || pastL bs lh q with
    | true => exact this
    | false => exact List.mem_cons_of_mem _ this
theorem sect (hall : ops.toList = all) (hchk : allL (still P all gl tm s.h fx.n) (chkL all (bsOf all) lh bef bef) = true) (hend : ∀ X a w π, Inv w0 π0 s0 all ro' bef lh gl tm fx s X a w π → Region.ready .any ops X = [] → Q .normal a w)
  (hnext : ∀ X a w π fuel i, Inv w0 π0 s0 all ro' bef lh gl tm fx s X a w π → i ∈ Region.ready .any ops X → i ∉ bef → cnt X ≤ fuel + 1 → wpOpIn (wideR ro') 0 P ops Q i (wpAnyIn (wideR ro') 0 P .any ops Q fuel (X.setIfInBounds i true)) a w) :
  ∀ (fuel : Nat) (X : Array Bool) (a : Act) (w : World) (π : Pl), Inv w0 π0 s0 all ro' bef lh gl tm fx s X a w π → cnt X ≤ fuel → wpAnyIn (wideR ro') 0 P .any ops Q fuel X a w
 | 0, X, a, w, π, hI, hc => by
  have : Region.ready .any ops X = [] := List.eq_nil_iff_forall_not_mem.2 fun j hj => by
   have := lW ((zX hall).1 hj).1
   omega
  exact ⟨this, hend X a w π hI this⟩
 | fuel + 1, X, a, w, π, hI, hc => by
  refine ⟨fun h => hend X a w π hI h, fun i hi => ?_⟩
  by_cases hb : i ∈ bef
  ·obtain ⟨hx, o, ho, he⟩ := (zX hall).1 hi
   have hh : isHeavy o.op = false := by
    cases hh : isHeavy o.op with
    | false => rfl
    | true => rw [iS (hI.hv i o hb ho hh)] at hx; cases hx
   have hp : pastL (bsOf all) lh i = false := by
    cases hlh : lh with
    | none => rfl
    | some g =>
     cases hbit : pastL (bsOf all) (some g) i with
     | false => rfl
     | true =>
      have hg := hI.lhx g hlh
      have hlt : g < all.length := by
       rw [← hI.xs]
       rcases Nat.lt_or_ge g X.size with h | h
       ·exact h
       ·rw [Array.getD_eq_getD_getElem?, Array.getElem?_eq_none h] at hg; cases hg
      have hog := List.getElem?_eq_getElem hlt
      have := nT hI.cl hog (hI.cl g _ hog hg) (show bit (bsAt all g) i = true from hbit)
      rw [iS this] at hx; cases hx
   refine hI.take hall ho hx he hb hh (wG hchk _ (sK ho hh hp hb)) fun a' w' π' hI' => ?_
   have := sJ hx
   exact sect hall hchk hend hnext fuel _ a' w' π' hI' (by omega)
  ·exact hnext X a w π fuel i hI hi hb hc
theorem kU (hall : ops.toList = all) (hI : Inv w0 π0 s0 all ro' bef lh gl tm fx s X a w π) (hgen : Gen all bef) (hr : Region.ready .any ops X = []) : ∀ i ∈ bef, X.getD i false = true := by
 refine hgen (fun i => X.getD i false = true) fun i hi o ho he => ?_
 by_cases hx : X.getD i false = true
 ·exact hx
 ·have : i ∈ Region.ready .any ops X := (zX hall).2 ⟨rZ (by rw [hI.xs]; exact (List.getElem?_eq_some_iff.1 ho).1) hx, o, ho, he⟩
  rw [hr] at this; cases this
theorem nR (hall : ops.toList = all) (hih : IHOk P ih) (hO : OraOk P O) {x : XR} (hQ : ∀ e' a' w', Ends w0 π0 s0 e' a' w' x → Q e' a' w') : ∀ (l bef : List Nat) (lh : Option Nat) (gl : List (Nat × Nat)) (tm : T AV) (fx : Fx) (s : St), drawS P O ih all (planL all (bsOf all) l bef lh) gl tm fx s = some x → okL all (bsOf all) l bef lh = true → Gen all bef →
  ∀ (X : Array Bool) (a : Act) (w : World) (π : Pl) (fuel : Nat), Inv w0 π0 s0 all ro' bef lh gl tm fx s X a w π → cnt X ≤ fuel → wpAnyIn (wideR ro') 0 P .any ops Q fuel X a w
 | [], bef, lh, gl, tm, fx, s, h, hok, hgen, X, a, w, π, fuel, hI, hc => by
  obtain ⟨h1, h2⟩ := uM (show og (allL (still P all gl tm s.h fx.n) (chkL all (bsOf all) lh bef bef)) (some (.mk .nrm tm fx s)) = some x from h)
  cases h2
  have hcov := fun i o (ho : all[i]? = some o) => (by simpa using gK hok i o ho : i ∈ bef)
  refine sect hall h1 (fun X a w π hI hr => ?_) (fun X a w π fuel i hI hi hb hc => ?_) fuel X a w π hI hc
  ·have hin := kU hall hI hgen hr
   refine hQ _ _ _ ⟨π, hI.nx, ⟨hI.size, fun t y ht => hI.tmx t y ht fun j o _ ho hx => ?_, hI.df⟩, rfl⟩
   rw [iS (hin j (hcov j o ho))] at hx; cases hx
  ·obtain ⟨_, o, ho, _⟩ := (zX hall).1 hi
   exact (hb (hcov i o ho)).elim
 | i :: l, bef, lh, gl, tm, fx, s, h, hok, hgen, X, a, w, π, fuel, hI, hc => by
  obtain ⟨o, ho, hnb, hed, hb, hok'⟩ := jQ hok
  have hgen' := hgen.snoc ho hed
  have hpl : planL all (bsOf all) (i :: l) bef lh = @Bool.rec (fun _ => List PE) (.op i o (maskL all (bsAt all i) bef) :: planL all (bsOf all) l (bef ++ [i]) lh)
   (.chk (chkL all (bsOf all) lh bef bef) :: .op i o (maskL all (bsAt all i) bef) :: planL all (bsOf all) l (bef ++ [i]) (some i)) (isHeavy o.op) := by
   show @Option.rec Oper (fun _ => List PE) [.bad] (fun o => @Bool.rec (fun _ => List PE) (.op i o (maskL all (bsAt all i) bef) :: planL all (bsOf all) l (app bef [i]) lh)
    (.chk (chkL all (bsOf all) lh bef bef) :: .op i o (maskL all (bsAt all i) bef) :: planL all (bsOf all) l (app bef [i]) (some i)) (isHeavy o.op)) (nth all i) = _
   rw [yE, ho, xX]
  rw [hpl] at h
  cases hh : isHeavy o.op with
  | false =>
   rw [hh] at h hok'
   obtain ⟨r, h1, h2⟩ := uB (show ob (opS P O ih all o (delsT (maskL all (bsAt all i) bef) tm) fx s) (fun r => @OR.rec (fun _ => Option XR) (fun tm' fx' s' => drawS P O ih all (planL all (bsOf all) l (bef ++ [i]) lh) (glN s s' i gl) (putF tm' o.dst tm) fx' s') (fun v tm' fx' s' => some (.mk (.pan v) tm' fx' s')) r) = some x from h)
   obtain ⟨tm', s', rfl, hs⟩ := light_opS hh h1
   exact nR hall hih hO hQ l (bef ++ [i]) lh _ _ fx s' h2 hok' hgen' X a w π fuel (hI.pass ho hnb hh hs) hc
  | true =>
   rw [hh] at h hok'
   obtain ⟨hchk, h⟩ := uM (show og (allL (still P all gl tm s.h fx.n) (chkL all (bsOf all) lh bef bef)) (ob (opS P O ih all o (delsT (maskL all (bsAt all i) bef) tm) fx s) (fun r => @OR.rec (fun _ => Option XR) (fun tm' fx' s' => drawS P O ih all (planL all (bsOf all) l (bef ++ [i]) (some i)) (glN s s' i gl) (putF tm' o.dst tm) fx' s') (fun v tm' fx' s' => some (.mk (.pan v) tm' fx' s')) r)) = some x from h)
   obtain ⟨r, h1, h2⟩ := uB h
   have hio : ops[i]? = some o := by rw [← Array.getElem?_toList, hall]; exact ho
   refine sect hall hchk (fun X a w π hI hr => ?_) (fun X a w π fuel j hI hj hjb hc => ?_) fuel X a w π hI hc
   ·have hin := kU hall hI hgen hr
    have : i ∈ Region.ready .any ops X := (zX hall).2 ⟨hI.unlisted ho hnb, o, ho, fun e he' hb' => hin _ (hed e he' hb')⟩
    rw [hr] at this; cases this
   ·obtain ⟨hx, q, hq, he⟩ := (zX hall).1 hj
    have hji : j = i := by
     rcases List.mem_append.1 (gK hok j q hq) with hm | hm
     ·exact (hjb hm).elim
     ·rcases List.mem_cons.1 hm with hm | hm
      ·exact hm
      ·obtain ⟨g, g1, g2⟩ := gJ (bef0 := bef) hok' hnb (fun k hk => List.mem_append_left _ hk) j hm
       exact (g2 (hI.sub g (nT hI.cl hq he g1))).elim
    subst hji
    rw [ho] at hq; cases hq
    have hc' := sJ hx
    have hfr := hI.seen ho he
    cases r with
    | go tm' fx' s' =>
     refine wpOpIn_mono ?_ (wpOpIn_frame hio (qJ hall hio hih hO hI.nx.fresh hI.nx.rel hfr hI.ro h1 (Res w0 π s tm' fx' s') Q fun a w h => h))
     rintro a' w' ⟨hr, hf⟩
     obtain ⟨π', hI'⟩ := hI.heavy ho hnb he h1 hr hf
     exact nR hall hih hO hQ l (bef ++ [j]) (some j) _ _ fx' s' h2 hok' hgen' _ a' w' π' fuel hI' (by omega)
    | pan v tm' fx' s' =>
     cases h2
     refine qJ hall hio hih hO hI.nx.fresh hI.nx.rel hfr hI.ro h1 _ Q fun e a' w' ⟨π', k1, k2, k3⟩ => ?_
     exact hQ _ _ _ ⟨π', hI.nx.trans k1, k2, k3⟩
theorem drawn_ok {id : Nat} (hP : P.follows .mixedOrders = true) (hih : IHOk P ih) (hO : OraOk P O) {x : XR} (hok : okOf ops.toList = true) (h : drawS P O ih ops.toList (planOf ops.toList) [] tm fx s = some x) (hf : Fresh π s) (hr : Rel w0 π s.h w) (hfr : FrR π tm fx a) (hro : RoR π fx.ro ro')
  (hQ : ∀ e' a' w', Ends w0 π s e' a' w' x → Q e' a' w') : (Code.region id ops true).wpIn (wideR ro') 0 P Q a w := by
 refine wpIn_region_any hP ?_
 have hr' := hr.world (w.drawn + 1)
 have hno : ∀ j, (Array.replicate ops.size false).getD j false ≠ true := fun j h => by
  rw [Array.getD_eq_getD_getElem?, Array.getElem?_replicate] at h
  split at h <;> cases h
 refine nR rfl hih hO hQ (ordOf ops.toList) [] none [] _ fx s h hok (fun X hX i hi => by cases hi) _ a _ π ops.size ⟨Nx.refl hf hr', hfr.size, hfr.df, hro, fun t y ht _ => hfr.tm t y ht, by simp, fun j o ho hx => (hno j hx).elim, fun j hx => (hno j hx).elim, fun j o hj => (by cases hj), fun h hh => (by cases hh), fun p hp => (by cases hp), fun p hp => (by cases hp)⟩ ?_
 ·unfold cnt
  exact Nat.le_trans List.count_le_length (by simp)
end
end Ev
namespace Ev
open Go
section
variable {P : Program} {b : Frame} {a : Act} {k : List Item} {cs : List Frame} {w : World}
theorem xP {c : Code} : step P (lone (b.atR a (.code (.scope c) :: k)) cs w) = .next (lone (b.atR a (.code c :: .inScope c :: k)) cs w) :=
 step_lone_go (by simp [stepG, stepG.exec, Frame.atR])
theorem stepR_inScope1 {c : Code} : step P (lone (b.atR a (.inScope c :: k)) cs w) = .next (lone (b.atR a k) cs w) :=
 step_lone_go (by simp [stepG, stepG.exec, Frame.atR])
end
theorem wpIn_scope1 {F : Fence} {n : Nat} {P : Program} {Q : Exit → Act → World → Prop} {a : Act} {w : World} {c : Code} (h : c.wpIn F n P (Exit.noGoto Q) a w) : (Code.scope c).wpIn F n P Q a w := by
 intro b k cs hro hb hr
 have h0 : (lone (b.atR a (.code (.scope c) :: k)) cs w).fenced P F := fenced_calm hb hr rfl
 obtain ⟨e, a₁, w₁, hq, harr⟩ := h b (.inScope c :: k) cs hro hb hr
 cases e with
 | normal => exact ⟨.normal, a₁, w₁, hq, .head h0 xP (StepsIn.trans harr (.one (fenced_calm hb hr rfl) stepR_inScope1))⟩
 | exit id' =>
  have hx : exitTo id' (.inScope c :: k) = exitTo id' k := by simp [exitTo]
  exact ⟨.exit id', a₁, w₁, hq, fun k' hk => .head h0 xP (harr.1 k' (by rw [hx]; exact hk)),
   fun hr' hk => let ⟨k₁, h1, h2⟩ := harr.2 hr' (by rw [hx]; exact hk); ⟨k₁, h1, .head h0 xP h2⟩⟩
 | goto l => exact hq.elim
 | ret => exact ⟨_, a₁, w₁, hq, .of_steps (.one h0 xP) harr⟩
 | panic ch => exact ⟨_, a₁, w₁, hq, .of_steps (.one h0 xP) harr⟩
 | outgrown => exact ⟨_, a₁, w₁, hq, .of_steps (.one h0 xP) harr⟩
section
variable {P : Program} {O : Ora} {ih : IH} {w0 w : World} {π : Pl} {s : St} {tm : T AV} {fx : Fx} {a : Act} {ro' : Option Nat} {Q : Exit → Act → World → Prop}
theorem kJ {all : List Oper} : ∀ {l : List PE} {gl : List (Nat × Nat)} {tm : T AV} {fx : Fx} {s : St} {r : XR}, drawS P O ih all l gl tm fx s = some r → FxX fx r
 | [], gl, tm, fx, s, r, h => by cases h; exact ⟨rfl, rfl⟩
 | .bad :: l, gl, tm, fx, s, r, h => by cases h
 | .chk js :: l, gl, tm, fx, s, r, h => by
  obtain ⟨_, h⟩ := uM (show og (allL (still P all gl tm s.h fx.n) js) (drawS P O ih all l gl tm fx s) = some r from h)
  exact kJ h
 | .op i o mask :: l, gl, tm, fx, s, r, h => by
  obtain ⟨q, h1, h2⟩ := uB (show ob (opS P O ih all o (delsT mask tm) fx s) (fun r => @OR.rec (fun _ => Option XR) (fun tm' fx' s' => drawS P O ih all l (glN s s' i gl) (putF tm' o.dst tm) fx' s') (fun v tm' fx' s' => some (.mk (.pan v) tm' fx' s')) r) = some r from h)
  have hq := nB h1
  cases q with
  | go tm1 fx1 s1 =>
   have := kJ (l := l) h2
   cases r with
   | mk e tm' fx' s' => exact ⟨this.1.trans hq.1, this.2.trans hq.2⟩
  | pan v tm1 fx1 s1 => cases h2; exact hq
theorem FxX.trans {fx fx1 : Fx} {r : XR} (h1 : fx1.n = fx.n ∧ fx1.ro = fx.ro) (h2 : FxX fx1 r) : FxX fx r := by
 cases r with
 | mk e tm' fx' s' => exact ⟨h2.1.trans h1.1, h2.2.trans h1.2⟩
theorem fB {x : Option XR} {k : T AV → Fx → St → Option XR} {r : XR} (h : ob x (fun r => match r with
  | .mk .nrm tm fx s => k tm fx s
  | .mk e tm fx s => some (.mk e tm fx s)) = some r) : ∃ e1 tm1 fx1 s1, x = some (.mk e1 tm1 fx1 s1) ∧ ((e1 = .nrm ∧ k tm1 fx1 s1 = some r) ∨ (e1 ≠ .nrm ∧ r = .mk e1 tm1 fx1 s1)) := by
 obtain ⟨q, h1, h2⟩ := uB h
 obtain ⟨e1, tm1, fx1, s1⟩ := q
 refine ⟨e1, tm1, fx1, s1, h1, ?_⟩
 cases e1 with
 | nrm => exact .inl ⟨rfl, h2⟩
 | ret => cases h2; exact .inr ⟨fun e => (by cases e), rfl⟩
 | exit i => cases h2; exact .inr ⟨fun e => (by cases e), rfl⟩
 | pan v => cases h2; exact .inr ⟨fun e => (by cases e), rfl⟩
theorem callR_some {g : AV} {c : Nat} {r : KR} (h : callR ih g c s = some r) : ∃ f fi ca, g = .fn f fi ca ∧ ih.call f (app fi (.yl c :: ca)) s = some r := by
 cases g <;> first | (cases h; done) | exact ⟨_, _, _, rfl, h⟩
noncomputable def rangeIn (fx : Fx) (s : St) : Option (Nat × List (AV × List AV) × St) :=
 @Option.rec Nat (fun _ => Option (Nat × List (AV × List AV) × St)) (some (s.c, (.bad, [.int .i64 (.ofNat s.c)]) :: fx.df, ⟨s.h.put s.c .dfr, Nat.succ s.c⟩)) (fun l => loopOf s.h l fun _ _ _ _ _ _ _ d => some (d, fx.df, s)) fx.ro
theorem iA {g : Operand} {ps : Array Tmp} {asg body : Code} {r : XR} (h : kRange ih g ps asg body tm fx s = some r) : ∃ x k, rangeIn fx s = some x ∧ callR ih (evO tm g) x.2.2.c ⟨x.2.2.h.put x.2.2.c (.loop .ready none fx.n tm ps asg body x.1), Nat.succ x.2.2.c⟩ = some k ∧
    ((∃ v s' st pend n tm0 ps0 asg0 body0 d, k = .mk (.ret v) s' ∧ s'.h.get x.2.2.c = some (.loop st pend n tm0 ps0 asg0 body0 d) ∧ isBusy st = false ∧
      ((pend = none ∧ r = .mk .nrm tm ⟨fx.n, x.2.1, fx.ro⟩ ⟨s'.h.put x.2.2.c (.loop .exhausted pend n tm0 ps0 asg0 body0 d), s'.c⟩) ∨ ∃ c, pend = some c ∧ ih.code c tm ⟨fx.n, x.2.1, fx.ro⟩ ⟨s'.h.put x.2.2.c (.loop .exhausted pend n tm0 ps0 asg0 body0 d), s'.c⟩ = some r)) ∨
     ∃ v s', k = .mk (.pan v) s' ∧ r = .mk (.pan v) tm ⟨fx.n, x.2.1, fx.ro⟩ s') := by
  obtain ⟨x, h1, h2⟩ := uB h
  obtain ⟨k, h3, h4⟩ := uB h2
  refine ⟨x, k, h1, h3, ?_⟩
  obtain ⟨cr, s'⟩ := k
  cases cr with
  | ret v =>
    obtain ⟨st, pend, n, tm0, ps0, asg0, body0, d, h5, h6⟩ := zP h4
    obtain ⟨h7, h8⟩ := uM h6
    refine .inl ⟨v, s', st, pend, n, tm0, ps0, asg0, body0, d, rfl, h5, by simpa using h7, ?_⟩
    cases pend with
    | none => cases h8; exact .inl ⟨rfl, rfl⟩
    | some c => exact .inr ⟨c, rfl, h8⟩
  | pan v => cases h4; exact .inr ⟨v, s', rfl, rfl⟩
theorem codeS_fx (hih : IHOk P ih) {c : Code} {r : XR} (h : codeS P O ih c tm fx s = some r) : FxX fx r := by
 cases c with
 | skip => cases h; exact ⟨rfl, rfl⟩
 | region id ops draw =>
  rcases xU (show bc draw (og (okOf ops.toList) (drawS P O ih ops.toList (planOf ops.toList) [] tm fx s)) (opsS P O ih ops.toList ops.toList tm fx s) = some r from h) with ⟨_, h1⟩ | ⟨_, h1⟩
  ·exact kJ (uM h1).2
  ·exact rS h1
 | seq x y =>
  obtain ⟨e1, tm1, fx1, s1, h1, h2⟩ := fB (show kSeq ih x y tm fx s = some r from h)
  have q1 := hih.fx _ _ _ _ _ h1
  rcases h2 with ⟨_, h2⟩ | ⟨_, rfl⟩
  ·exact FxX.trans q1 (hih.fx _ _ _ _ _ h2)
  ·exact q1
 | cond c x y =>
  obtain ⟨b, _, h2⟩ := cK (show kCond ih c x y tm fx s = some r from h)
  rcases xU h2 with ⟨_, h3⟩ | ⟨_, h3⟩ <;> exact hih.fx _ _ _ _ _ h3
 | block i b =>
  obtain ⟨q, h1, h2⟩ := uB (show kBlock ih i b tm fx s = some r from h)
  have q1 := hih.fx _ _ _ _ _ h1
  obtain ⟨e1, tm1, fx1, s1⟩ := q
  cases e1 <;> (cases h2; exact q1)
 | loop b =>
  obtain ⟨e1, tm1, fx1, s1, h1, h2⟩ := fB (show kLoop ih b tm fx s = some r from h)
  have q1 := hih.fx _ _ _ _ _ h1
  rcases h2 with ⟨_, h2⟩ | ⟨_, rfl⟩
  ·exact FxX.trans q1 (hih.fx _ _ _ _ _ h2)
  ·exact q1
 | rangeFunc g ps asg body =>
  obtain ⟨x, k, h1, h2, h3⟩ := iA (show kRange ih g ps asg body tm fx s = some r from h)
  rcases h3 with ⟨v, s', st, pend, n, tm0, ps0, asg0, body0, d, _, _, _, h4⟩ | ⟨v, s', _, rfl⟩
  ·rcases h4 with ⟨_, rfl⟩ | ⟨c, _, h5⟩
   ·exact ⟨rfl, rfl⟩
   ·exact FxX.trans (fx1 := ⟨fx.n, x.2.1, fx.ro⟩) ⟨rfl, rfl⟩ (hih.fx _ _ _ _ _ h5)
  ·exact ⟨rfl, rfl⟩
 | exit i => cases h; exact ⟨rfl, rfl⟩
 | scope b => exact hih.fx _ _ _ _ _ (show ih.code b tm fx s = some r from h)
 | label l => cases h; exact ⟨rfl, rfl⟩
 | goto l => cases h
 | ret => cases h; exact ⟨rfl, rfl⟩
 | refuse why => cases h
theorem zQ {c : Code} {r : XR} (h : SoundC P c tm fx s r) (hfr : FrR π tm fx a) (hro : RoR π fx.ro ro') (hf : Fresh π s) (hr : Rel w0 π s.h w) : c.wpIn (wideR ro') 0 P (fun e' a' w' => Ends w0 π s e' a' w' r) a w := by
 cases r with
 | mk e tm' fx' s' => exact h w0 π a w ro' hfr hro hf hr
theorem yZ {c : Code} {r : XR} (h : ∀ w0 π a w ro', FrR π tm fx a → RoR π fx.ro ro' → Fresh π s → Rel w0 π s.h w → c.wpIn (wideR ro') 0 P (fun e' a' w' => Ends w0 π s e' a' w' r) a w) : SoundC P c tm fx s r := by
 cases r with
 | mk e tm' fx' s' => exact h
theorem rD {e1 : Ex} {e : Exit} (h : ExR π e1 e) (hn : e1 ≠ .nrm) {nx : Act → World → Prop} {a : Act} {w : World} (hq : Q e a w) : Exit.then nx Q e a w := by
 cases e1 with
 | nrm => exact (hn rfl).elim
 | ret => have h : e = .ret := h; subst h; exact hq
 | exit i => have h : e = .exit i := h; subst h; exact hq
 | pan v => obtain ⟨v', rfl, _⟩ := h; exact hq
theorem oZ (hih : IHOk P ih) {b : Code} {r : XR} (h : codeS P O ih (.loop b) tm fx s = some r) : SoundL P b tm fx s r := by
 obtain ⟨e1, tm1, fx1, s1, h1, h2⟩ := fB (show kLoop ih b tm fx s = some r from h)
 have q1 := hih.fx _ _ _ _ _ h1
 have q2 := hih.code _ _ _ _ _ h1
 rcases h2 with ⟨rfl, h2⟩ | ⟨hn, rfl⟩
 ·obtain ⟨m, hm⟩ := hih.loop _ _ _ _ _ h2
  refine ⟨m + 1, fun Q w0 π a w ro' hfr hro hf hr hQ => ?_⟩
  rw [roundsIn_succ]
  refine wpIn_mono (zQ q2 hfr hro hf hr) fun e a1 w1 ⟨π1, k1, k2, k3⟩ => ?_
  have k3 : e = .normal := k3
  subst k3
  exact hm Q w0 π1 a1 w1 ro' k2 (by rw [q1.2]; exact hro.mono k1.le) k1.fresh k1.rel fun e' a' w' he => hQ e' a' w' (Ends.of k1 he)
 ·refine ⟨1, fun Q w0 π a w ro' hfr hro hf hr hQ => ?_⟩
  rw [roundsIn_succ]
  exact wpIn_mono (zQ q2 hfr hro hf hr) fun e a1 w1 ⟨π1, k1, k2, k3⟩ => rD k3 hn (hQ _ _ _ ⟨π1, k1, k2, k3⟩)
theorem rangeS_ok (hih : IHOk P ih) {g : Operand} {ps : Array Tmp} {asg body : Code} {r : XR} (h : kRange ih g ps asg body tm fx s = some r) : SoundC P (.rangeFunc g ps asg body) tm fx s r := by
 refine yZ fun w0 π a w ro' hfr hro hf hr => ?_
 obtain ⟨⟨d, df, s1⟩, k, h1, h2, h3⟩ := iA h
 have enter : ∀ fn, ∃ mark w1 π1 L, (Instr.enterLoop fn a.tmps ps asg body ro').run P w = .ok (L.b, mark) w1 ∧ Nx w0 π s π1 ⟨s1.h.put s1.c (.loop .ready none fx.n tm ps asg body d), Nat.succ s1.c⟩ w1 ∧ π1 s1.c = some L ∧ RepDs π1 df (mark ++ a.defers) := fun fn => by
  unfold rangeIn at h1
  cases hro0 : fx.ro with
  | none =>
   rw [hro0] at h1 hro
   have hro : ro' = none := hro
   subst hro
   cases h1
   have hc := zV hf
   have hr1 := hr.new (dr := w.drawn) (N := 0) (o := .dfr) (ob' := .deferred (some [])) hc rfl
   have nx1 := Nx.new hf (h' := s.h) (o := .dfr) (fun _ _ => rfl) hr1
   have hc1 := zV nx1.fresh
   have hD : (π.upd s.c ⟨w.heap.size, 0, 0⟩) s.c = some ⟨w.heap.size, 0, 0⟩ := Pl.upd_self _ _ _
   have hr2 := nx1.rel.new (dr := w.drawn) (N := 0) (o := .loop .ready none fx.n tm ps asg body s.c) (ob' := .loop { state := .ready, pending := none, fn, tmps := a.tmps, params := ps, assign := asg, body, defers := w.heap.size }) hc1 ⟨fn, a.tmps, _, rfl, hfr.size, hfr.tm.mono nx1.le, hD⟩
   have nx2 := Nx.new nx1.fresh (h' := s.h.put s.c .dfr) (fun _ _ => rfl) hr2
   refine ⟨[{ target := .collected w.heap.size, args := #[] }], _, _, _, ?_, nx1.trans nx2, Pl.upd_self _ _ _, .cons (.mark s.c ⟨w.heap.size, 0, 0⟩ (nx2.le _ _ hD)) (hfr.df.mono (nx1.le.trans nx2.le))⟩
   rw [run_enterLoop_outer]
   show Result.ok (w.heap.size + 1, _) _ = Result.ok ((w.heap.push _).size, _) _
   rw [Array.size_push]
   rfl
  | some l =>
   rw [hro0] at h1 hro
   obtain ⟨L0, hL0, rfl⟩ := hro
   obtain ⟨st, pend, n, tm0, ps0, asg0, body0, d0, h4, h5⟩ := zP (show loopOf s.h l (fun _ _ _ _ _ _ _ d => some (d, fx.df, s)) = some (d, df, s1) from h1)
   cases h5
   obtain ⟨ob, g1, fn0, tmps0, D, rfl, g2, g3, g4⟩ := hr.obj l _ L0 h4 hL0
   have hc := zV hf
   have hr2 := hr.new (dr := w.drawn) (N := 0) (o := .loop .ready none fx.n tm ps asg body d) (ob' := .loop { state := .ready, pending := none, fn, tmps := a.tmps, params := ps, assign := asg, body, defers := D.b }) hc ⟨fn, a.tmps, D, rfl, hfr.size, hfr.tm, g4⟩
   have nx2 := Nx.new hf (h' := s.h) (fun _ _ => rfl) hr2
   refine ⟨[], _, _, _, ?_, nx2, Pl.upd_self _ _ _, hfr.df.mono nx2.le⟩
   rw [run_enterLoop_inner g1]
   rfl
 refine wpIn_rangeFunc fun fn _ => ?_
 obtain ⟨mark, w1, π1, L, e1, nx1, hL, hdf⟩ := enter fn
 obtain ⟨f, fi, ca, hg, hcall⟩ := callR_some h2
 have hx := (hfr.mono nx1.le).ev g
 rw [hg, Rep] at hx
 obtain ⟨vs, us, hx, hv, hu⟩ := hx
 have hargs : RepL π1 (app fi (.yl s1.c :: ca)) (vs ++ #[Value.func (.yield L.b) #[] #[]] ++ us).toList := by
  rw [xX]
  simp only [Array.toList_append, List.append_assoc]
  exact hv.append (RepL.cons (by rw [Rep]; exact ⟨L, hL, rfl⟩) hu)
 have hs := hih.call _ _ _ _ hcall
 obtain ⟨cr, s'⟩ := k
 obtain ⟨hen, hs⟩ := hs
 have hfrA : ∀ π', π1.le π' → FrR π' tm ⟨fx.n, df, fx.ro⟩ { a with defers := mark ++ a.defers } := fun π' hle => ⟨hfr.size, hfr.tm.mono (nx1.le.trans hle), hdf.mono hle⟩
 refine ⟨L.b, mark, w1, { target := .fn (.func f) us, args := vs ++ #[Value.func (.yield L.b) #[] #[]] }, w1, f, vs ++ #[Value.func (.yield L.b) #[] #[]] ++ us, w1, e1, ?_, fun _ _ => trivial, ?_, fun h => (by cases h), ?_⟩
 ·have e2 : Array.map a.eval #[Operand.const (Value.func (Fn.yield L.b) #[] #[])] = #[Value.func (Fn.yield L.b) #[] #[]] := by
   apply Array.toList_inj.1
   rw [Array.toList_map]
   rfl
  simp only [resolve, hx, Deferred.ofValue, Sem.run_bind, Sem.run_pure, Result.andThen_ok, e2]
 ·exact cY hen _ _
 ·refine (show CallsIn (wideR ro') (0 - 1) P f _ w1 _ from callsIn_wide.2 ((hs w0 π1 _ w1 hargs nx1.fresh nx1.rel).mono fun e w3 ⟨π', nx', hcr⟩ => ?_))
  rcases h3 with ⟨v, s2, st, pend, n, tm0, ps0, asg0, body0, d0, hk, hget, hbusy, h4⟩ | ⟨v, s2, hk, rfl⟩
  ·cases hk
   obtain ⟨v', rfl, _⟩ := hcr
   have hL' := nx'.le _ _ hL
   obtain ⟨ob, g1, fn0, tmps0, D, rfl, g2, g3, g4⟩ := nx'.rel.obj s1.c _ L hget hL'
   have hr5 := Rel.setLoop nx'.rel hget rfl hL' (r' := { state := .exhausted, pending := pend, fn := fn0, tmps := tmps0, params := ps0, assign := asg0, body := body0, defers := D.b }) (o' := .loop .exhausted pend n tm0 ps0 asg0 body0 d0) g1 ⟨fn0, tmps0, D, rfl, g2, g3, g4⟩
   have nx5 := (nx1.trans nx').trans (Nx.upd nx'.fresh nx'.rel hget hL' hr5)
   refine ⟨pend, _, run_endLoop g1 (fun e => by simp only at e; rw [e] at hbusy; cases hbusy), ?_⟩
   rcases h4 with ⟨rfl, rfl⟩ | ⟨c, rfl, h5⟩
   ·exact ⟨π', nx5, hfrA _ nx'.le, rfl⟩
   ·exact wpIn_mono (zQ (hih.code _ _ _ _ _ h5) (hfrA _ nx'.le) (hro.mono nx5.le) nx5.fresh nx5.rel) fun e' a' w' he => Ends.of nx5 he
  ·cases hk
   obtain ⟨v', rfl, hv'⟩ := hcr
   exact ⟨π', nx1.trans nx', hfrA _ nx'.le, v', rfl, hv'⟩
theorem codeS_ok (hP : P.follows .mixedOrders = true) (hih : IHOk P ih) (hO : OraOk P O) {c : Code} {r : XR} (h : codeS P O ih c tm fx s = some r) : SoundC P c tm fx s r := by
 cases c with
 | rangeFunc g ps asg body => exact rangeS_ok hih h
 | skip => cases h; exact fun w0 π a w ro' hfr hro hf hr => wpIn_skip ⟨π, Nx.refl hf hr, hfr, rfl⟩
 | region id ops draw =>
  refine yZ fun w0 π a w ro' hfr hro hf hr => ?_
  rcases xU (show bc draw (og (okOf ops.toList) (drawS P O ih ops.toList (planOf ops.toList) [] tm fx s)) (opsS P O ih ops.toList ops.toList tm fx s) = some r from h) with ⟨rfl, h1⟩ | ⟨rfl, h1⟩
  ·obtain ⟨h2, h3⟩ := uM h1
   exact drawn_ok hP hih hO h2 h3 hf hr hfr hro fun e' a' w' he => he
  ·refine wpIn_region ?_
   rw [List.range_eq_range', ← Array.length_toList]
   exact rR rfl hih hO ops.toList 0 tm fx s π a w r rfl h1 hf hr hfr hro fun e' a' w' he => he
 | seq x y =>
  refine yZ fun w0 π a w ro' hfr hro hf hr => ?_
  obtain ⟨e1, tm1, fx1, s1, h1, h2⟩ := fB (show kSeq ih x y tm fx s = some r from h)
  have q1 := hih.fx _ _ _ _ _ h1
  refine wpIn_seq (wpIn_mono (zQ (hih.code _ _ _ _ _ h1) hfr hro hf hr) fun e a1 w1 ⟨π1, k1, k2, k3⟩ => ?_)
  rcases h2 with ⟨rfl, h2⟩ | ⟨hn, rfl⟩
  ·have k3 : e = .normal := k3
   subst k3
   exact wpIn_mono (zQ (hih.code _ _ _ _ _ h2) k2 (by rw [q1.2]; exact hro.mono k1.le) k1.fresh k1.rel) fun e' a' w' he => Ends.of k1 he
  ·exact rD k3 hn ⟨π1, k1, k2, k3⟩
 | cond c x y =>
  refine yZ fun w0 π a w ro' hfr hro hf hr => ?_
  obtain ⟨b, h1, h2⟩ := cK (show kCond ih c x y tm fx s = some r from h)
  have hc := hfr.ev c
  rw [h1] at hc
  refine wpIn_cond (zO hc) ?_
  rcases xU h2 with ⟨rfl, h3⟩ | ⟨rfl, h3⟩
  ·exact zQ (hih.code _ _ _ _ _ h3) hfr hro hf hr
  ·exact zQ (hih.code _ _ _ _ _ h3) hfr hro hf hr
 | block i b =>
  refine yZ fun w0 π a w ro' hfr hro hf hr => ?_
  obtain ⟨q, h1, h2⟩ := uB (show kBlock ih i b tm fx s = some r from h)
  refine wpIn_block (wpIn_mono (zQ (hih.code _ _ _ _ _ h1) hfr hro hf hr) fun e a1 w1 he => ?_)
  obtain ⟨e1, tm1, fx1, s1⟩ := q
  obtain ⟨π1, k1, k2, k3⟩ := he
  cases e1 with
  | nrm => cases h2; have k3 : e = .normal := k3; subst k3; exact ⟨π1, k1, k2, rfl⟩
  | ret => cases h2; have k3 : e = .ret := k3; subst k3; exact ⟨π1, k1, k2, rfl⟩
  | exit j =>
   cases h2
   have k3 : e = .exit j := k3
   subst k3
   show if j = i then _ else _
   by_cases hj : j = i
   ·rw [if_pos hj]
    refine ⟨π1, k1, k2, ?_⟩
    subst hj
    rw [show Nat.beq j j = true from Nat.beq_refl j]
    exact rfl
   ·rw [if_neg hj]
    refine ⟨π1, k1, k2, ?_⟩
    rw [show Nat.beq j i = false from by
     cases hb : Nat.beq j i with
     | false => rfl
     | true => exact (hj (beq_eq hb)).elim]
    exact rfl
  | pan v => cases h2; obtain ⟨v', rfl, k4⟩ := k3; exact ⟨π1, k1, k2, v', rfl, k4⟩
 | loop b =>
  refine yZ fun w0 π a w ro' hfr hro hf hr => ?_
  obtain ⟨m, hm⟩ := oZ hih h
  exact wpIn_loop_rounds m (hm _ w0 π a w ro' hfr hro hf hr fun e' a' w' he => he)
 | exit i => cases h; exact fun w0 π a w ro' hfr hro hf hr => wpIn_exit ⟨π, Nx.refl hf hr, hfr, rfl⟩
 | scope b =>
  refine yZ fun w0 π a w ro' hfr hro hf hr => wpIn_scope1 (wpIn_mono (zQ (hih.code _ _ _ _ _ (show ih.code b tm fx s = some r from h)) hfr hro hf hr) fun e a1 w1 he => ?_)
  obtain ⟨e1, tm1, fx1, s1⟩ := r
  obtain ⟨π1, k1, k2, k3⟩ := he
  cases e1 with
  | nrm => have k3 : e = .normal := k3; subst k3; exact ⟨π1, k1, k2, rfl⟩
  | ret => have k3 : e = .ret := k3; subst k3; exact ⟨π1, k1, k2, rfl⟩
  | exit j => have k3 : e = .exit j := k3; subst k3; exact ⟨π1, k1, k2, rfl⟩
  | pan v => obtain ⟨v', rfl, k4⟩ := k3; exact ⟨π1, k1, k2, v', rfl, k4⟩
 | label l => cases h; exact fun w0 π a w ro' hfr hro hf hr => wpIn_label ⟨π, Nx.refl hf hr, hfr, rfl⟩
 | goto l => cases h
 | ret => cases h; exact fun w0 π a w ro' hfr hro hf hr => wpIn_ret ⟨π, Nx.refl hf hr, hfr, rfl⟩
 | refuse why => cases h
end
end Ev
namespace Ev
open Go
def resOne (tmps : Array Value) : ResultVar → Sem Value
 | .tmp t => pure (tmps.getD t undef)
 | .cell a t => do loadVar t (← asAddr (tmps.getD a undef))
def resVal (xs : List Value) : Value := if h : xs.toArray.size = 1 then xs.toArray[0] else .tuple xs.toArray
theorem results_eq (fn : Func) (tmps : Array Value) : results fn tmps = (fn.results.mapM (resOne tmps)) >>= fun vs => pure (if h : vs.size = 1 then vs[0] else .tuple vs) := by
 unfold results
 refine congrArg (· >>= _) (congrArg (fun f => Array.mapM f fn.results) (funext fun x => ?_))
 cases x <;> rfl
theorem results_run {P : Program} {w w' : World} {fn : Func} {xs : List Value} (tmps : Array Value) (h : (fn.results.toList.mapM (resOne tmps)).run P w = .ok xs w') : (results fn tmps).run P w = .ok (resVal xs) w' := by
 have e : (fn.results.mapM (resOne tmps)).run P w = .ok xs.toArray w' := by
  rw [show fn.results = fn.results.toList.toArray from (Array.toArray_toList).symm, List.mapM_toArray]
  simp [h]
 rw [results_eq]
 simp only [Sem.run_bind, e, Result.andThen_ok, Sem.run_pure]
 rfl
section
variable {P : Program} {O : Ora} {ih : IH} {w0 w : World} {π : Pl} {s : St} {tm : T AV} {fx : Fx} {a : Act}
theorem rM {h : T AObj} (hr : Rel w0 π h w) (htm : TmRel π tm a.tmps) : ∀ {l : List ResultVar} {vs : List AV}, resS P tm h l = some vs → ∃ xs, (l.mapM (resOne a.tmps)).run P w = .ok xs w ∧ RepL π vs xs
 | [], vs, hh => by cases hh; exact ⟨[], by simp, RepL.nil⟩
 | r :: l, vs, hh => by
  obtain ⟨us, h1, h2⟩ := uB (show ob (resS P tm h l) (fun vs => match r with
   | .tmp t => some (od (tm.get t) .bad :: vs)
   | .cell a t => ob (tm.get a) fun a => asPtr a fun i o => cellsOf h i fun cs => ob (partA P t cs o) fun v => some (v :: vs)) = some vs from hh)
  obtain ⟨xs, h3, h4⟩ := rM hr htm h1
  cases r with
  | tmp t =>
   cases h2
   refine ⟨a.tmps.getD t undef :: xs, by simp [List.mapM_cons, resOne, h3], RepL.cons ?_ h4⟩
   cases hg : tm.get t with
   | none => show Rep π .bad _; rw [Rep]; trivial
   | some y =>
    obtain ⟨v, e1, e2⟩ := htm t y hg
    show Rep π y _
    rw [Array.getD_eq_getD_getElem?, e1]; exact e2
  | cell c t =>
   obtain ⟨y, g1, g2⟩ := uB h2
   obtain ⟨i, o, rfl, g3⟩ := bX g2
   obtain ⟨wr, cs, g4, g5⟩ := wW g3
   obtain ⟨v, g6, g7⟩ := uB g5
   cases g7
   obtain ⟨u, e1, e2⟩ := htm c _ g1
   rw [Rep] at e2
   obtain ⟨L, hL, rfl⟩ := e2
   obtain ⟨v', e3, e4⟩ := rT (P := P) hr hL g4 g6
   refine ⟨v' :: xs, ?_, RepL.cons e4 h4⟩
   have hgd : a.tmps.getD c undef = .pointer (some ⟨L.b, L.o + o, none⟩) := by rw [Array.getD_eq_getD_getElem?, e1]; rfl
   simp [List.mapM_cons, resOne, hgd, asAddr, e3, h3]
theorem oneV_ok {vs : List AV} {xs : List Value} (h : RepL π vs xs) : Rep π (oneV vs) (resVal xs) := by
 match vs, h with
 | [], h => rw [RepL] at h; subst h; show Rep π (.tup []) (.tuple #[]); rw [Rep]; exact ⟨#[], rfl, RepL.nil⟩
 | [v], h =>
  rw [RepL] at h
  obtain ⟨x, us, rfl, h1, h2⟩ := h
  rw [RepL] at h2; subst h2
  exact h1
 | v :: v' :: vs, h =>
  have hl := h.length
  have e : resVal xs = .tuple xs.toArray := by
   unfold resVal
   rw [dif_neg (by simp only [List.size_toArray, hl]; simp)]
  rw [e]
  show Rep π (.tup (v :: v' :: vs)) _
  rw [Rep]; exact ⟨_, rfl, by simpa using h⟩
theorem mM : ∀ {l : List AV} {i : Nat} {t : T AV} {j : Nat} {x : AV}, (argsT l i t).get j = some x → (∃ k, j = i + k ∧ l[k]? = some x) ∨ t.get j = some x
 | [], i, t, j, x, h => .inr h
 | v :: l, i, t, j, x, h => by
  rcases mM (l := l) (show (argsT l (Nat.succ i) (t.put i v)).get j = some x from h) with ⟨k, h1, h2⟩ | h1
  ·exact .inl ⟨k + 1, by omega, by simpa using h2⟩
  ·rw [T.get_put] at h1
   by_cases e : j = i
   ·rw [if_pos e] at h1; cases h1
    exact .inl ⟨0, by omega, rfl⟩
   ·rw [if_neg e] at h1; exact .inr h1
theorem kG {fn : Func} {args : List AV} {args' : Array Value} (h : RepL π args args'.toList) : FrR π (argsT args 0 .nil) ⟨sizeF fn args, [], none⟩ { tmps := args' ++ Array.replicate (fn.ntmps - args'.size) undef, defers := [] } := by
 have hl := h.eqs
 refine ⟨?_, fun t x ht => ?_, .nil⟩
 ·show (args' ++ Array.replicate (fn.ntmps - args'.size) undef).size = len args + (fn.ntmps - len args)
  rw [wJ, Array.size_append, Array.size_replicate, hl]
 ·rcases mM ht with ⟨k, h1, h2⟩ | h1
  ·have h1 : t = k := by omega
   subst h1
   obtain ⟨v, h3, h4⟩ := h.get h2
   have h3 : args'[t]? = some v := by simpa using h3
   refine ⟨v, ?_, h4⟩
   show (args' ++ Array.replicate (fn.ntmps - args'.size) undef)[t]? = _
   rw [Array.getElem?_append_left (Array.getElem?_eq_some_iff.1 h3).1]; exact h3
  ·cases h1
theorem Rel.gone {h : T AObj} (hr : Rel w0 π h w) {i : Nat} {o : AObj} {L : Loc} {w' : World} (hi : h.get i = some o) (ho : o.rw = true) (hL : π i = some L) (h2 : ∀ b, b ≠ L.b → w'.heap[b]? = w.heap[b]?)
  (hs : w'.heap.size = w.heap.size) (ht : w'.tape = w.tape) (hos : w'.os = w.os) (hp : w'.output = w.output) : Rel w0 π (h.del i) w' where
 obj j q M hj hM := by
  have hne : j ≠ i := fun e => by subst e; rw [T.del_self] at hj; cases hj
  rw [T.del_ne _ hne] at hj
  obtain ⟨q', g1, g2⟩ := hr.obj j q M hj hM
  exact ⟨q', (h2 _ fun eb => hne (hr.inj i j o q L M hi hj hL hM ho eb.symm).symm).trans g1, g2⟩
 own j q M hj hM hq := by
  have hne : j ≠ i := fun e => by subst e; rw [T.del_self] at hj; cases hj
  rw [T.del_ne _ hne] at hj
  exact hr.own j q M hj hM hq
 inj j k p q M N hj hk := by
  have hne : j ≠ i := fun e => by subst e; rw [T.del_self] at hj; cases hj
  have hne' : k ≠ i := fun e => by subst e; rw [T.del_self] at hk; cases hk
  rw [T.del_ne _ hne] at hj
  rw [T.del_ne _ hne'] at hk
  exact hr.inj j k p q M N hj hk
 keep b hb := by
  have := hr.own i o L hi hL ho
  exact (h2 b (by omega)).trans (hr.keep b hb)
 size := by rw [hs]; exact hr.size
 tape := ht.trans hr.tape
 os := hos.trans hr.os
 output := hp.trans hr.output
theorem Nx.gone (hf : Fresh π s) {i : Nat} {L : Loc} {w' : World} (hL : π i = some L) (h : Rel w0 π (s.h.del i) w') : Nx w0 π s π ⟨s.h.del i, s.c⟩ w' := by
 refine ⟨.refl π, fun j hj hn => ⟨hn, T.del_ne _ (fun e => by rw [e, hL] at hn; cases hn)⟩, Nat.le_refl _, fun j hj => ⟨?_, (hf j hj).2⟩, h⟩
 show (s.h.del i).get j = none
 rw [T.get_del]
 split
 ·rfl
 ·exact (hf j hj).1
theorem PanR.mono {π π' : Pl} (h : π.le π') {p : Option AV} {u : FrameMode} (hr : PanR π p u) : PanR π' p u := by
 cases p with
 | none => exact hr
 | some v => obtain ⟨v', h1, h2⟩ := hr; exact ⟨v', h1, h2.mono h⟩
theorem PanR.out {π : Pl} {p : Option AV} {u : FrameMode} (hr : PanR π p u) : u ≠ .run := by
 cases p with
 | none => rw [show u = .returning from hr]; exact fun e => by cases e
 | some v => obtain ⟨v', h1, h2⟩ := hr; rw [h1]; exact fun e => by cases e
theorem PanR.settled {π : Pl} {p : Option AV} {u : FrameMode} (hr : PanR π p u) : settle u = u := by
 cases p with
 | none => rw [show u = .returning from hr]; rfl
 | some v => obtain ⟨v', h1, h2⟩ := hr; rw [h1]; rfl
theorem nA (hih : IHOk P ih) {fn : Func} {tmps : Array Value} {R : Ending → World → Prop} : ∀ (l : List (AV × List AV)) (p : Option AV) (s : St) (r : Option AV × St), outS ih l p s = some r → ∀ (ds : List Deferred) (u : FrameMode) (π : Pl) (w : World), RepDs π l ds → PanR π p u → Fresh π s → Rel w0 π s.h w →
  (∀ π' u' w', Nx w0 π s π' r.2 w' → PanR π' r.1 u' → LeavesInM Fence.wide 0 P fn tmps R [] u' w') → LeavesInM Fence.wide 0 P fn tmps R ds u w
 | [], p, s, r, h, ds, u, π, w, hd, hp, hf, hr, hk => by
  cases hd
  cases h
  exact hk π u w (Nx.refl hf hr) hp
 | d :: l, p, s, r, h, ds, u, π, w, hd, hp, hf, hr, hk => by
  cases hd with
  | cons hd hds =>
   cases hd with
   | mark i D hD =>
    have h : (ob (s.h.get i) fun o => match o with
     | .dfr => outS ih l p ⟨s.h.del i, s.c⟩
     | _ => none) = some r := h
    obtain ⟨o, h1, h2⟩ := uB h
    cases o <;> first | (cases h2; done) | skip
    obtain ⟨o', g1, g2⟩ := hr.obj i _ D h1 hD
    have g2 : o' = .deferred (some []) := g2
    subst g2
    have hr' : Rel w0 π (s.h.del i) (w.putObj D.b (.deferred none)) := hr.gone h1 rfl hD (fun b hb => World.putObj_heap_other hb) World.putObj_size rfl rfl rfl
    have nx := Nx.gone hf hD hr'
    refine ⟨hp.out, .inl ⟨D.b, _, rfl, run_takeDeferred g1, ?_⟩⟩
    exact nA hih l p _ r h2 _ u π _ hds hp nx.fresh nx.rel fun π' u' w' k1 k2 => hk π' u' w' (nx.trans k1) k2
   | fn g fi ca args vs us az q1 q2 q3 =>
    obtain ⟨r1, h1, h2⟩ := uB (show ob (ih.dcall g (app fi (app args ca)) p s) (fun r => outS ih l r.1 r.2) = some r from h)
    obtain ⟨hen, hs⟩ := hih.dcall _ _ _ _ _ h1
    have hargs : RepL π (app fi (app args ca)) (vs ++ az ++ us).toList := by
     rw [xX, xX]
     simp only [Array.toList_append, List.append_assoc]
     exact q1.append (q3.append q2)
    refine ⟨hp.out, .inr ⟨fun h => (by cases h), .func g, us, g, vs ++ az ++ us, rfl, cY hen _ _, fun _ _ => trivial, ?_⟩⟩
    refine (show CallsDIn Fence.wide (0 - 1) P g _ u w _ from (hs w0 π _ w u hargs hp hf hr).mono fun e u' w' hq => ?_)
    obtain ⟨⟨x, rfl⟩, π1, k1, k2⟩ := hq
    exact nA hih l r1.1 r1.2 r h2 _ (settle u') π1 w' (hds.mono k1.le) k2 k1.fresh k1.rel fun π' u' w' k3 k4 => hk π' u' w' (k1.trans k3) k4
theorem callS_ok (hih : IHOk P ih) {f : FuncId} {args : List AV} {r : KR} (h : callS P ih f args s = some r) : SoundF P f args s r := by
 obtain ⟨fn, h1, h2⟩ := uB h
 obtain ⟨h3, h4⟩ := uM h2
 obtain ⟨c, h5, h6⟩ := uB h4
 obtain ⟨x, h7, h8⟩ := uB h6
 obtain ⟨cr, s'⟩ := r
 refine ⟨⟨fn, h1, by simpa using h3, by rw [h5]; rfl⟩, fun w0 π args' w ha hf hr => ?_⟩
 refine callsIn_wide.1 (callsIn_of_wp_marks (F := Fence.wide) (n := 0) h1 h5 trivial ?_)
 refine wpIn_mono (zQ (ro' := none) (hih.code _ _ _ _ _ h7) (kG ha) rfl hf hr) fun e a1 w1 he => ?_
 obtain ⟨e1, tm1, fx1, s1⟩ := x
 obtain ⟨π1, k1, k2, k3⟩ := he
 have leave : ∀ (p : Option AV) (u : FrameMode), endS P ih fn p tm1 fx1 s1 = some (.mk cr s') → PanR π1 p u → LeavesInM Fence.wide 0 P fn a1.tmps (fun e w' => ∃ π', Nx w0 π s π' s' w' ∧ CrR π' cr e) a1.defers u w1 := fun p u he hp => by
  obtain ⟨r, g1, g2⟩ := uB he
  refine nA hih _ _ _ _ g1 _ u π1 w1 k2.df hp k1.fresh k1.rel fun π2 u2 w2 m1 m2 => ?_
  obtain ⟨p2, s2⟩ := r
  cases p2 with
  | none =>
   have m2 : u2 = .returning := m2
   subst m2
   obtain ⟨vs, g3, g4⟩ := uB (show ob (resS P tm1 s2.h fn.results.toList) (fun vs => some (KR.mk (.ret (oneV vs)) s2)) = some (.mk cr s') from g2)
   cases g4
   obtain ⟨xs, g5, g6⟩ := rM (P := P) m1.rel (k2.tm.mono m1.le) g3
   exact ⟨_, results_run _ g5, π2, k1.trans m1, _, rfl, oneV_ok g6⟩
  | some v =>
   cases (show some (KR.mk (.pan v) s2) = some (.mk cr s') from g2)
   obtain ⟨v', rfl, m3⟩ := m2
   exact ⟨π2, k1.trans m1, v', rfl, m3⟩
 cases e1 with
 | nrm => have k3 : e = .normal := k3; subst k3; exact leave none .returning h8 rfl
 | ret => have k3 : e = .ret := k3; subst k3; exact leave none .returning h8 rfl
 | pan v => obtain ⟨v', rfl, k4⟩ := k3; exact leave (some v) _ h8 ⟨v', rfl, k4⟩
 | exit i => cases h8
theorem mF {p : Option AV} {x : XR} {r : Option AV × St} (h : dEnd p x = some r) : ∃ e tm n ro s', x = .mk e tm ⟨n, [], ro⟩ s' ∧ (e = .nrm ∨ e = .ret) ∧ r = (p, s') := by
 obtain ⟨e, tm, ⟨n, df, ro⟩, s'⟩ := x
 cases e with
 | nrm => cases df with
  | nil => cases h; exact ⟨_, _, _, _, _, rfl, .inl rfl, rfl⟩
  | cons d ds => cases h
 | ret => cases df with
  | nil => cases h; exact ⟨_, _, _, _, _, rfl, .inr rfl, rfl⟩
  | cons d ds => cases h
 | exit i => cases h
 | pan v => cases h
theorem recB_some {c : Code} {d : Option Tmp} {rest : Code} (h : recB c = some (d, rest)) : ∃ id ty pos af tys, c = .seq (.region id #[⟨d, .call { callee := .builtin .recover, args := #[], argTypes := tys }, ty, pos, af, none⟩] false) rest := by
 unfold recB at h
 split at h
 ·rename_i id ops rest'
  split at h
  ·rename_i o ho
   split at h
   ·rename_i cl hg hop
    split at h
    ·rename_i hc ha
     cases h
     obtain ⟨dst, op, ty, pos, af, gd⟩ := o
     obtain ⟨callee, args, tys⟩ := cl
     simp only at hg hop hc ha
     subst hg hop hc
     refine ⟨id, ty, pos, af, tys, ?_⟩
     rw [show ops = ops.toList.toArray from Array.toArray_toList.symm, ho, show args = args.toList.toArray from Array.toArray_toList.symm, ha]
    ·cases h
   ·cases h
  ·cases h
 ·cases h
theorem oO {fn : Func} (h : Nat.beq fn.results.size 0 = true) (tmps : Array Value) (w : World) : ∃ v, (results fn tmps).run P w = .ok v w := by
 have h : fn.results = #[] := Array.eq_empty_of_size_eq_zero (beq_eq h)
 exact ⟨_, results_none h tmps P w⟩
theorem dcallS_ok (hih : IHOk P ih) {f : FuncId} {args : List AV} {p : Option AV} {r : Option AV × St} (h : dcallS P ih f args p s = some r) : SoundD P f args p s r := by
 obtain ⟨fn, h1, h2⟩ := uB h
 obtain ⟨h3, h4⟩ := uM h2
 obtain ⟨c, h5, h6⟩ := uB h4
 obtain ⟨hres, h7⟩ := uM h6
 refine ⟨⟨fn, h1, by simpa using h3, by rw [h5]; rfl⟩, fun w0 π args' w u ha hp hf hr => ?_⟩
 cases hrec : recB c with
 | none =>
  rw [hrec] at h7
  obtain ⟨x, h8, h9⟩ := uB (show ob (ih.code c (argsT args 0 .nil) ⟨sizeF fn args, [], none⟩ s) (dEnd p) = some r from h7)
  obtain ⟨e1, tm1, n1, ro1, s1, rfl, h10, rfl⟩ := mF h9
  refine (callsDIn_of_wp (u := u) (R := fun e w' => (∃ x, e = .returned x) ∧ ∃ π', Nx w0 π s π' s1 w' ∧ PanR π' p (settle u)) h1 h5 trivial ?_).mono fun e u' w' hq => ?_
  ·refine wpIn_mono (zQ (ro' := none) (hih.code _ _ _ _ _ h8) (kG ha) rfl hf hr) fun e a1 w1 ⟨π1, k1, k2, k3⟩ => ?_
   obtain ⟨v, hv⟩ := oO (P := P) hres a1.tmps w1
   have hd : a1.defers = [] := by
    have := k2.df
    generalize a1.defers = ds at this
    cases this; rfl
   have fin : a1.defers = [] ∧ ∃ v, (results fn a1.tmps).run P w1 = .ok v w1 ∧ ((∃ x, Ending.returned v = .returned x) ∧ ∃ π', Nx w0 π s π' s1 w1 ∧ PanR π' p (settle u)) := ⟨hd, v, hv, ⟨v, rfl⟩, π1, k1, by rw [hp.settled]; exact hp.mono k1.le⟩
   rcases h10 with rfl | rfl
   ·have k3 : e = .normal := k3; subst k3; exact fin
   ·have k3 : e = .ret := k3; subst k3; exact fin
  ·obtain ⟨rfl, hq⟩ := hq; exact hq
 | some y =>
  obtain ⟨d, rest⟩ := y
  rw [hrec] at h7
  obtain ⟨hdst, h7⟩ := uM (show og (dstOk (sizeF fn args) d) (ob (ih.code rest (putD (argsT args 0 .nil) d (od p .nili)) ⟨sizeF fn args, [], none⟩ s) (dEnd none)) = some r from h7)
  obtain ⟨x, h8, h9⟩ := uB h7
  obtain ⟨e1, tm1, n1, ro1, s1, rfl, h10, rfl⟩ := mF h9
  obtain ⟨id, ty, pos, af, tys, rfl⟩ := recB_some hrec
  refine callsDIn_of_wpSIn h1 h5 trivial fun c0 cs hu0 => wpSIn_seq (wpSIn_region ?_)
  have hfr0 := kG (fn := fn) ha
  have hs : ∀ (v : Value) (u' : FrameMode), Rep π (od p .nili) v → settle u' = .returning → rest.wpSIn Fence.wide 0 P (bodyPostS P fn c0 cs (fun e u' w' => (∃ x, e = .returned x) ∧ ∃ π', Nx w0 π s π' s1 w' ∧ PanR π' none (settle u'))) (Act.put { tmps := args' ++ Array.replicate (fn.ntmps - args'.size) undef, defers := [] } d v) ({ c0 with mode := u' } :: cs) w := fun v u' hv hu' => by
   refine wpSIn_of_wpIn rfl (wpIn_mono (zQ (ro' := none) (hih.code _ _ _ _ _ h8) (hfr0.put hdst hv) rfl hf hr) fun e a1 w1 ⟨π1, k1, k2, k3⟩ => ?_)
   obtain ⟨v, hv⟩ := oO (P := P) hres a1.tmps w1
   have hd : a1.defers = [] := by
    have := k2.df
    generalize a1.defers = ds at this
    cases this; rfl
   have fin : a1.defers = [] ∧ ∃ u2, ({ c0 with mode := u' } :: cs : List Frame) = { c0 with mode := u2 } :: cs ∧ ∃ v, (results fn a1.tmps).run P w1 = .ok v w1 ∧ ((∃ x, Ending.returned v = .returned x) ∧ ∃ π', Nx w0 π s π' s1 w1 ∧ PanR π' none (settle u2)) := ⟨hd, u', rfl, v, hv, ⟨v, rfl⟩, π1, k1, hu'⟩
   rcases h10 with rfl | rfl
   ·have k3 : e = .normal := k3; subst k3; exact fin
   ·have k3 : e = .ret := k3; subst k3; exact fin
  show wpOpsSIn Fence.wide 0 P _ _ [0] _ _ _
  unfold wpOpsSIn
  have hrun : ∀ (ρ : Operand → Value), (execOp ρ ⟨d, .call { callee := .builtin .recover, args := #[], argTypes := tys }, ty, pos, af, none⟩).run P w = .ok .recover w := fun ρ => rfl
  simp only [List.getElem?_toArray, List.getElem?_cons_zero, Region.wanted, if_true, hrun]
  refine ⟨fun _ _ => trivial, ?_⟩
  cases p with
  | none =>
   have hp : u = .returning := hp
   subst hp
   have e : recoverD (c0 :: cs) = none := by simp [recoverD, hu0]
   rw [e]
   have hc : ({ c0 with mode := .returning } : Frame) = c0 := by rw [← hu0]
   have := hs .nilIface .returning (by show Rep π .nili _; rw [Rep]) rfl
   rw [hc] at this
   exact this
  | some v =>
   obtain ⟨v', rfl, hv⟩ := hp
   have e : recoverD (c0 :: cs) = some (v', { c0 with mode := .panicking [{ v := v', recovered := true }] } :: cs) := by simp [recoverD, hu0]
   rw [e]
   exact hs v' _ hv rfl
theorem tR (hP : P.follows .mixedOrders = true) (hO : OraOk P O) : ∀ n, IHOk P (ev P O n)
 | 0 => ⟨fun _ _ _ _ _ h => (by cases h), fun _ _ _ _ _ h => (by cases h), fun _ _ _ _ _ h => (by cases h), fun _ _ _ _ h => (by cases h), fun _ _ _ _ _ h => (by cases h)⟩
 | n + 1 =>
  have hih := tR hP hO n
  ⟨fun c tm fx s r h => codeS_fx hih (show codeS P O (ev P O n) c tm fx s = some r from h), fun c tm fx s r h => codeS_ok hP hih hO (show codeS P O (ev P O n) c tm fx s = some r from h), fun b tm fx s r h => oZ hih (show codeS P O (ev P O n) (.loop b) tm fx s = some r from h),
   fun f args s r h => callS_ok hih (show callS P (ev P O n) f args s = some r from h), fun f args p s r h => dcallS_ok hih (show dcallS P (ev P O n) f args p s = some r from h)⟩
end
end Ev
namespace Ev
open Go
def isS : AV → Bool
 | .bool _ | .int _ _ | .str _ | .nilp | .nils | .nilm | .nilf | .nili => true
 | _ => false
inductive D1 where
 | lf (v : AV)
 | sl (s n : Nat) (cs : List AV)
inductive D2 where
 | lf (v : AV)
 | sl (s n : Nat) (cs : List D1)
inductive D3 where
 | one (d : D2)
 | agg (l : List D2)
noncomputable def mapO {α β : Type} (f : α → Option β) (l : List α) : Option (List β) := @List.rec α (fun _ => Option (List β)) (some []) (fun a _ ih => ob (f a) fun x => ob ih fun xs => some (x :: xs)) l
section
variable (h : T AObj)
noncomputable def rdS {β : Type} (v : AV) (lf : Option β) (sl : Nat → Nat → List AV → Option β) : Option β := match v with
 | .sl i o s n _ => cellsOf h i fun cs => ob (takeO (Nat.mul n s) (dropL o cs)) fun l => sl s n l
 | _ => lf
noncomputable def rd1 (v : AV) : Option D1 := rdS h v (og (isS v) (some (.lf v))) fun s n l => og (allL isS l) (some (.sl s n l))
noncomputable def rd2 (v : AV) : Option D2 := rdS h v (og (isS v) (some (.lf v))) fun s n l => ob (mapO (rd1 h) l) fun ds => some (.sl s n ds)
noncomputable def rd3 (v : AV) : Option D3 := match v with
 | .agg l => ob (mapO (rd2 h) l) fun ds => some (.agg ds)
 | v => ob (rd2 h v) fun d => some (.one d)
end
noncomputable def ly1 (d : D1) (s : St) : AV × St := match d with
 | .lf v => (v, s)
 | .sl z n cs => (.sl s.c 0 z n none, ⟨s.h.put s.c (.cells false cs), Nat.succ s.c⟩)
noncomputable def lyL {α : Type} (f : α → St → AV × St) (l : List α) : St → List AV × St := @List.rec α (fun _ => St → List AV × St) (fun s => ([], s)) (fun d _ ih s => ((f d s).1 :: (ih (f d s).2).1, (ih (f d s).2).2)) l
noncomputable def ly2 (d : D2) (s : St) : AV × St := match d with
 | .lf v => (v, s)
 | .sl z n ds => (.sl (lyL ly1 ds s).2.c 0 z n none, ⟨(lyL ly1 ds s).2.h.put (lyL ly1 ds s).2.c (.cells false (lyL ly1 ds s).1), Nat.succ (lyL ly1 ds s).2.c⟩)
noncomputable def ly3 (d : D3) (s : St) : AV × St := match d with
 | .one d => ly2 d s
 | .agg l => (.agg (lyL ly2 l s).1, (lyL ly2 l s).2)
noncomputable def eqG {α : Type} (p : α → α → Bool) (l : List α) : List α → Bool := @List.rec α (fun _ => List α → Bool) (fun m => @List.rec α (fun _ => Bool) true (fun _ _ _ => false) m)
 (fun a _ ih m => @List.rec α (fun _ => Bool) false (fun b m _ => p a b && ih m) m) l
noncomputable def eq1 (a b : D1) : Bool := match a with
 | .lf v => match b with
  | .lf u => eqX v u
  | _ => false
 | .sl s n l => match b with
  | .sl s' n' l' => Nat.beq s s' && (Nat.beq n n' && eqXs l l')
  | _ => false
noncomputable def eq2 (a b : D2) : Bool := match a with
 | .lf v => match b with
  | .lf u => eqX v u
  | _ => false
 | .sl s n l => match b with
  | .sl s' n' l' => Nat.beq s s' && (Nat.beq n n' && eqG eq1 l l')
  | _ => false
noncomputable def eq3 (a b : D3) : Bool := match a with
 | .one d => match b with
  | .one e => eq2 d e
  | _ => false
 | .agg l => match b with
  | .agg m => eqG eq2 l m
  | _ => false
noncomputable def plainV (v : AV) : Bool := match v with
 | .agg l => allL isS l
 | .tup l => allL (fun x => match x with
  | .agg m => allL isS m
  | x => isS x) l
 | v => isS v
structure Ent where
 f : FuncId
 args : List D3
 res : AV
noncomputable def find (f : FuncId) (ts : List D3) (l : List Ent) : Option AV := @List.rec Ent (fun _ => Option AV) none (fun e _ ih => bc (Nat.beq f e.f && eqG eq3 ts e.args) (some e.res) ih) l
noncomputable def hasF (f : FuncId) (l : List Ent) : Bool := @List.rec Ent (fun _ => Bool) false (fun e _ ih => Nat.beq f e.f || ih) l
noncomputable def memo (tab : List Ent) : Ora := fun f args s => og (hasF f tab) (ob (mapO (rd3 s.h) args) fun ts => ob (find f ts tab) fun v => some (v, s))
noncomputable def orO (A B : Ora) : Ora := fun f args s => @Option.rec (AV × St) (fun _ => Option (AV × St)) (B f args s) (fun r => some r) (A f args s)
noncomputable def entOk (P : Program) (O : Ora) (n : Nat) (e : Ent) : Bool := plainV e.res && (match (ev P O n).call e.f (lyL ly3 e.args ⟨.nil, 0⟩).1 (lyL ly3 e.args ⟨.nil, 0⟩).2 with
 | some (.mk (.ret v) _) => eqW v e.res || eqWs' v e.res
 | _ => false)
where eqWs' (a b : AV) : Bool := match a with
 | .tup l => match b with
  | .tup m => eqWs l m || eqG eqY l m
  | _ => false
 | _ => false
def noPl : Pl := fun _ => none
theorem bV {v : AV} (h : isS v = true) {π π' : Pl} {x : Value} (hr : Rep π v x) : Rep π' v x := by
 cases v <;> first | (cases h; done) | (rw [Rep] at *; exact hr)
theorem fL {π π' : Pl} : ∀ {l : List AV} {xs : List Value}, allL isS l = true → RepL π l xs → RepL π' l xs
 | [], xs, _, h => by rw [RepL] at *; exact h
 | v :: l, xs, hs, h => by
  rw [RepL] at h
  obtain ⟨x, us, rfl, h1, h2⟩ := h
  have hv := wG hs
  refine RepL.cons (bV (hv v (by simp)) h1) (fL ?_ h2)
  have : @Bool.rec (fun _ => Bool) false (allL isS l) (isS v) = true := hs
  rw [hv v (by simp)] at this
  exact this
def SlV (w : World) (s n : Nat) (vs : List Value) (x : Value) : Prop := ∃ (L : Loc) (m a : Nat) (rcs : Array Value) (T : TypeId) (fz : Nat × Nat), x = .slice (some ⟨L.b, a, none⟩) n m ∧ n ≤ m ∧ (m = 0 ∨ a = L.o) ∧ L.o + m * s ≤ L.N ∧ w.heap[L.b]? = some (.cells rcs T fz) ∧ rcs.size = L.N ∧ L.o + vs.length ≤ L.N ∧ ∀ i v, vs[i]? = some v → rcs[L.o + i]? = some v
def V1 (w : World) : D1 → Value → Prop
 | .lf v, x => isS v = true ∧ Rep noPl v x
 | .sl s n cs, x => ∃ vs, SlV w s n vs x ∧ RepL noPl cs vs
def VL {α : Type} (V : α → Value → Prop) : List α → List Value → Prop
 | [], vs => vs = []
 | d :: ds, vs => ∃ v us, vs = v :: us ∧ V d v ∧ VL V ds us
def V2 (w : World) : D2 → Value → Prop
 | .lf v, x => isS v = true ∧ Rep noPl v x
 | .sl s n ds, x => ∃ vs, SlV w s n vs x ∧ VL (V1 w) ds vs
def V3 (w : World) : D3 → Value → Prop
 | .one d, x => V2 w d x
 | .agg l, x => ∃ vs : Array Value, x = .agg vs ∧ VL (V2 w) l vs.toList
section
variable {w0 w : World} {π : Pl} {h : T AObj}
theorem iP {α : Type} {f : AV → Option α} {V : α → Value → Prop} (hf : ∀ v d x, f v = some d → Rep π v x → V d x) : ∀ {l : List AV} {ds : List α} {vs : List Value}, mapO f l = some ds → RepL π l vs → VL V ds vs
 | [], ds, vs, h, hr => by
  cases h
  rw [RepL] at hr; exact hr
 | v :: l, ds, vs, h, hr => by
  obtain ⟨d, h1, h2⟩ := uB (show ob (f v) (fun x => ob (mapO f l) fun xs => some (x :: xs)) = some ds from h)
  obtain ⟨es, h3, h4⟩ := uB h2
  cases h4
  rw [RepL] at hr
  obtain ⟨x, us, rfl, g1, g2⟩ := hr
  exact ⟨x, us, rfl, hf v d x h1 g1, iP hf h3 g2⟩
theorem oP (hr : Rel w0 π h w) {β : Type} {v : AV} {lf : Option β} {sl : Nat → Nat → List AV → Option β} {r : β} (hh : rdS h v lf sl = some r) {x : Value} (hx : Rep π v x) : lf = some r ∨ ∃ s n l vs, sl s n l = some r ∧ SlV w s n vs x ∧ RepL π l vs := by
 cases v <;> first | exact .inl hh | skip
 rename_i i o s n c
 right
 obtain ⟨wr, cs, h1, h2⟩ := wW hh
 obtain ⟨l, h3, h4⟩ := uB h2
 obtain ⟨h5, h6⟩ := yY h3
 rw [bG] at h5 h6
 rw [Rep] at hx
 obtain ⟨L, m, a, hL, rfl, g1, g2, g3, g4⟩ := hx
 obtain ⟨o', g5, rcs, T, fz, rfl, g6, g7, g8, g9⟩ := hr.obj i _ L h1 hL
 have hlen : l.length = n * s := by rw [h5, List.length_take]; exact Nat.min_eq_left h6
 have hcell : ∀ j y, l[j]? = some y → ∃ v, rcs[L.o + (o + j)]? = some v ∧ Rep π y v := fun j y hj => by
  rw [h5, List.getElem?_take] at hj
  split at hj
  ·rw [List.getElem?_drop] at hj
   exact g9 _ y hj
  ·cases hj
 refine ⟨s, n, l, (List.range l.length).map fun j => (rcs[L.o + (o + j)]?).getD undef, h4, ⟨⟨L.b, L.o + o, L.N⟩, m, a, rcs, T, fz, rfl, g1, g3, g4, g5, g6, ?_, fun j v hj => ?_⟩, ?_⟩
 ·rw [List.length_map, List.length_range, hlen]
  show L.o + o + n * s ≤ L.N
  have := Nat.mul_le_mul_right s g1
  omega
 ·rw [List.getElem?_map] at hj
  have hjl : j < l.length := by
   rcases Nat.lt_or_ge j l.length with hh | hh
   ·exact hh
   ·rw [List.getElem?_eq_none (by simpa using hh)] at hj; cases hj
  rw [List.getElem?_range hjl] at hj
  obtain ⟨u, e1, _⟩ := hcell j _ (List.getElem?_eq_getElem hjl)
  have hj : (rcs[L.o + (o + j)]?).getD undef = v := by simpa using hj
  rw [e1] at hj
  show rcs[L.o + o + j]? = some v
  rw [Nat.add_assoc, e1, ← hj]; rfl
 ·refine RepL.of_get (by simp) fun j y v hy hv => ?_
  obtain ⟨u, e1, e2⟩ := hcell j y hy
  rw [List.getElem?_map, List.getElem?_range (List.getElem?_eq_some_iff.1 hy).1] at hv
  have hv : (rcs[L.o + (o + j)]?).getD undef = v := by simpa using hv
  rw [e1] at hv
  rw [← hv]; exact e2
theorem rd1_ok (hr : Rel w0 π h w) {v : AV} {d : D1} {x : Value} (hh : rd1 h v = some d) (hx : Rep π v x) : V1 w d x := by
 rcases oP hr hh hx with h1 | ⟨s, n, l, vs, h1, h2, h3⟩
 ·obtain ⟨h2, h3⟩ := uM h1
  cases h3
  exact ⟨h2, bV h2 hx⟩
 ·obtain ⟨h4, h5⟩ := uM h1
  cases h5
  exact ⟨vs, h2, fL h4 h3⟩
theorem tA (hr : Rel w0 π h w) {v : AV} {d : D2} {x : Value} (hh : rd2 h v = some d) (hx : Rep π v x) : V2 w d x := by
 rcases oP hr hh hx with h1 | ⟨s, n, l, vs, h1, h2, h3⟩
 ·obtain ⟨h2, h3⟩ := uM h1
  cases h3
  exact ⟨h2, bV h2 hx⟩
 ·obtain ⟨ds, h4, h5⟩ := uB h1
  cases h5
  exact ⟨vs, h2, iP (fun v d x => rd1_ok hr) h4 h3⟩
theorem rd3_ok (hr : Rel w0 π h w) {v : AV} {d : D3} {x : Value} (hh : rd3 h v = some d) (hx : Rep π v x) : V3 w d x := by
 unfold rd3 at hh
 split at hh
 ·obtain ⟨ds, h4, h5⟩ := uB hh
  cases h5
  rw [Rep] at hx
  obtain ⟨vs, rfl, hv⟩ := hx
  exact ⟨vs, rfl, iP (fun v d x => tA hr) h4 hv⟩
 ·obtain ⟨d', h4, h5⟩ := uB hh
  cases h5
  exact tA hr h4 hx
structure Laid (w : World) (π : Pl) (s : St) : Prop where
 rel : Rel w π s.h w
 fresh : Fresh π s
 ro : ∀ i o, s.h.get i = some o → o.rw = false
theorem Laid.put {s : St} (hl : Laid w π s) {z n : Nat} {cs : List AV} {vs : List Value} {x : Value} (hv : SlV w z n vs x) (hr : RepL π cs vs) : ∃ π', π.le π' ∧ Laid w π' ⟨s.h.put s.c (.cells false cs), Nat.succ s.c⟩ ∧ Rep π' (.sl s.c 0 z n none) x := by
 obtain ⟨L, m, a, rcs, ty, fz, rfl, g1, g2, g3, g4, g5, g6, g7⟩ := hv
 have hc := zV hl.fresh
 have hle := Pl.le_upd L hc
 have ro' : ∀ i o, (s.h.put s.c (.cells false cs)).get i = some o → o.rw = false := fun i o hi => by
  rw [T.get_put] at hi
  split at hi
  ·cases hi; rfl
  ·exact hl.ro i o hi
 refine ⟨π.upd s.c L, hle, ⟨⟨fun i o M hi hM => ?_, fun i o M hi _ hrw => ?_, fun i j o p M M' hi _ _ _ hrw => ?_, fun _ _ => rfl, Nat.le_refl _, rfl, rfl, rfl⟩, fun i hi => ?_, ro'⟩, ?_⟩
 ·by_cases e : i = s.c
  ·subst e
   rw [T.put_self] at hi; cases hi
   rw [Pl.upd_self] at hM; cases hM
   refine ⟨_, g4, rcs, ty, fz, rfl, g5, fun h => (by cases h), ?_, fun j y hj => ?_⟩
   ·rw [← hr.length]; exact g6
   ·obtain ⟨v, e1, e2⟩ := hr.get hj
    exact ⟨v, g7 j v e1, e2.mono hle⟩
  ·rw [T.put_ne _ _ e] at hi
   rw [Pl.upd_ne _ _ e] at hM
   obtain ⟨o', e1, e2⟩ := hl.rel.obj i o M hi hM
   exact ⟨o', e1, e2.mono hle⟩
 ·rw [ro' i o hi] at hrw; cases hrw
 ·rw [ro' i o hi] at hrw; cases hrw
 ·have hi : s.c + 1 ≤ i := hi
  obtain ⟨e1, e2⟩ := hl.fresh i (by omega)
  exact ⟨(T.put_ne _ _ (by omega)).trans e1, (Pl.upd_ne _ _ (by omega)).trans e2⟩
 ·rw [Rep]
  exact ⟨L, m, a, Pl.upd_self _ _ _, rfl, g1, fun c' h => (by cases h), g2, g3⟩
theorem ly1_ok {s : St} (hl : Laid w π s) {d : D1} {x : Value} (hv : V1 w d x) : ∃ π', π.le π' ∧ Laid w π' (ly1 d s).2 ∧ Rep π' (ly1 d s).1 x := by
 cases d with
 | lf v => exact ⟨π, .refl π, hl, bV hv.1 hv.2⟩
 | sl z n cs =>
  obtain ⟨vs, h1, h2⟩ := hv
  exact hl.put h1 (h2.mono fun i L h => (by cases h))
theorem nF {α : Type} {f : α → St → AV × St} {V : α → Value → Prop} (hf : ∀ (π : Pl) (s : St) d x, Laid w π s → V d x → ∃ π', π.le π' ∧ Laid w π' (f d s).2 ∧ Rep π' (f d s).1 x) : ∀ (ds : List α) (vs : List Value) (π : Pl) (s : St), Laid w π s → VL V ds vs →
  ∃ π', π.le π' ∧ Laid w π' (lyL f ds s).2 ∧ RepL π' (lyL f ds s).1 vs
 | [], vs, π, s, hl, hv => by
  have hv : vs = [] := hv
  subst hv
  exact ⟨π, .refl π, hl, RepL.nil⟩
 | d :: ds, vs, π, s, hl, hv => by
  obtain ⟨v, us, rfl, h1, h2⟩ := hv
  obtain ⟨π1, e1, e2, e3⟩ := hf π s d v hl h1
  obtain ⟨π2, e4, e5, e6⟩ := nF hf ds us π1 _ e2 h2
  exact ⟨π2, e1.trans e4, e5, RepL.cons (e3.mono e4) e6⟩
theorem tE {s : St} (hl : Laid w π s) {d : D2} {x : Value} (hv : V2 w d x) : ∃ π', π.le π' ∧ Laid w π' (ly2 d s).2 ∧ Rep π' (ly2 d s).1 x := by
 cases d with
 | lf v => exact ⟨π, .refl π, hl, bV hv.1 hv.2⟩
 | sl z n ds =>
  obtain ⟨vs, h1, h2⟩ := hv
  obtain ⟨π1, e1, e2, e3⟩ := nF (V := V1 w) (fun π s d x hl hv => ly1_ok hl hv) ds vs π s hl h2
  obtain ⟨π2, e4, e5, e6⟩ := e2.put h1 e3
  exact ⟨π2, e1.trans e4, e5, e6⟩
theorem ly3_ok {s : St} (hl : Laid w π s) {d : D3} {x : Value} (hv : V3 w d x) : ∃ π', π.le π' ∧ Laid w π' (ly3 d s).2 ∧ Rep π' (ly3 d s).1 x := by
 cases d with
 | one d => exact tE hl hv
 | agg l =>
  obtain ⟨vs, rfl, h1⟩ := hv
  obtain ⟨π1, e1, e2, e3⟩ := nF (V := V2 w) (fun π s d x hl hv => tE hl hv) l vs.toList π s hl h1
  refine ⟨π1, e1, e2, ?_⟩
  show Rep π1 (.agg _) _
  rw [Rep]; exact ⟨vs, rfl, e3⟩
end
theorem kF {α : Type} {p : α → α → Bool} (hp : ∀ a b, p a b = true → a = b) : ∀ {l m : List α}, eqG p l m = true → l = m
 | [], [], _ => rfl
 | [], _ :: _, h => by cases h
 | _ :: _, [], h => by cases h
 | a :: l, b :: m, h => by
  obtain ⟨h1, h2⟩ := band (show (p a b && eqG p l m) = true from h)
  rw [hp a b h1, kF hp h2]
theorem eq1_eq {a b : D1} (h : eq1 a b = true) : a = b := by
 cases a <;> cases b <;> first | (cases h; done) | skip
 ·rw [nP (show eqX _ _ = true from h)]
 ·obtain ⟨h1, h2⟩ := band h
  obtain ⟨h3, h4⟩ := band h2
  rw [beq_eq h1, beq_eq h3, fR h4]
theorem tU {a b : D2} (h : eq2 a b = true) : a = b := by
 cases a <;> cases b <;> first | (cases h; done) | skip
 ·rw [nP (show eqX _ _ = true from h)]
 ·obtain ⟨h1, h2⟩ := band h
  obtain ⟨h3, h4⟩ := band h2
  rw [beq_eq h1, beq_eq h3, kF (fun _ _ => eq1_eq) h4]
theorem eq3_eq {a b : D3} (h : eq3 a b = true) : a = b := by
 cases a <;> cases b <;> first | (cases h; done) | skip
 ·rw [tU (show eq2 _ _ = true from h)]
 ·rw [kF (fun _ _ => tU) (show eqG eq2 _ _ = true from h)]
theorem pJ {f : FuncId} {ts : List D3} {v : AV} : ∀ {l : List Ent}, find f ts l = some v → ∃ e ∈ l, e.f = f ∧ e.args = ts ∧ e.res = v
 | [], h => by cases h
 | e :: l, h => by
  rcases xU (show bc (Nat.beq f e.f && eqG eq3 ts e.args) (some e.res) (find f ts l) = some v from h) with ⟨h1, h2⟩ | ⟨_, h2⟩
  ·obtain ⟨h3, h4⟩ := band h1
   cases h2
   exact ⟨e, by simp, (beq_eq h3).symm, (kF (fun _ _ => eq3_eq) h4).symm, rfl⟩
  ·obtain ⟨e', g1, g2⟩ := pJ h2
   exact ⟨e', by simp [g1], g2⟩
theorem plain_rep {v : AV} (h : plainV v = true) {π π' : Pl} {x : Value} (hr : Rep π v x) : Rep π' v x := by
 unfold plainV at h
 split at h
 ·rw [Rep] at *
  obtain ⟨vs, rfl, h1⟩ := hr
  exact ⟨vs, rfl, fL h h1⟩
 ·rename_i l
  rw [Rep] at *
  obtain ⟨vs, rfl, h1⟩ := hr
  refine ⟨vs, rfl, RepL.of_get h1.length fun i t v ht hv => ?_⟩
  obtain ⟨u, e1, e2⟩ := h1.get ht
  rw [e1] at hv; cases hv
  have hs := wG h t (List.mem_of_getElem? ht)
  split at hs
  ·rw [Rep] at *
   obtain ⟨us, rfl, h2⟩ := e2
   exact ⟨us, rfl, fL hs h2⟩
  ·exact bV hs e2
 ·exact bV h hr
theorem Rel.later {w0 w w' : World} {π π' : Pl} {h h' : T AObj} (hr : Rel w0 π h w) (hr' : Rel w π' h' w') : Rel w0 π h w' :=
 ⟨fun i o L hi hL => let ⟨o', h1, h2⟩ := hr.obj i o L hi hL; ⟨o', (hr'.keep _ (Array.getElem?_eq_some_iff.1 h1).1).trans h1, h2⟩, hr.own, hr.inj, fun b hb => (hr'.keep b (Nat.lt_of_lt_of_le hb hr.size)).trans (hr.keep b hb), Nat.le_trans hr.size hr'.size, hr'.tape.trans hr.tape, hr'.os.trans hr.os, hr'.output.trans hr.output⟩
theorem kH {P : Program} {O : Ora} {n : Nat} {e : Ent} (h : entOk P O n e = true) : plainV e.res = true ∧ ∃ s', (ev P O n).call e.f (lyL ly3 e.args ⟨.nil, 0⟩).1 (lyL ly3 e.args ⟨.nil, 0⟩).2 = some (.mk (.ret e.res) s') := by
 obtain ⟨h1, h2⟩ := band h
 refine ⟨h1, ?_⟩
 split at h2
 ·rename_i v s' hc
  refine ⟨s', ?_⟩
  rw [hc]
  rcases (by simpa using h2 : eqW v e.res = true ∨ entOk.eqWs' v e.res = true) with h3 | h3
  ·rw [qO h3]
  ·unfold entOk.eqWs' at h3
   split at h3
   ·split at h3
    ·rename_i hb
     rcases (by simpa using h3 : eqWs _ _ = true ∨ eqG eqY _ _ = true) with h4 | h4
     ·rw [fS h4, ← hb]
     ·rw [kF (fun _ _ => nO) h4, ← hb]
    ·cases h3
   ·cases h3
 ·cases h2
theorem iO {P : Program} (hP : P.follows .mixedOrders = true) {tab : List Ent} (ht : ∀ e ∈ tab, ∃ O n, OraOk P O ∧ entOk P O n e = true) : OraOk P (memo tab) := fun f args s r h w0 π args' w ha hf hr => by
 obtain ⟨_, h⟩ := uM h
 obtain ⟨ts, h1, h2⟩ := uB h
 obtain ⟨v, h3, h4⟩ := uB h2
 cases h4
 obtain ⟨e, he, rfl, rfl, rfl⟩ := pJ h3
 obtain ⟨O, n, hO, hok⟩ := ht e he
 obtain ⟨hpl, s', hc⟩ := kH hok
 have hv := iP (fun v d x => rd3_ok hr) h1 ha
 have l0 : Laid w noPl ⟨.nil, 0⟩ := ⟨⟨fun i o L hi => (by cases hi), fun i o L hi => (by cases hi), fun i j o p L M hi => (by cases hi), fun _ _ => rfl, Nat.le_refl _, rfl, rfl, rfl⟩, fun i _ => ⟨rfl, rfl⟩, fun i o hi => (by cases hi)⟩
 obtain ⟨π1, _, e2, e3⟩ := nF (V := V3 w) (fun π s d x hl hv => ly3_ok hl hv) _ _ noPl _ l0 hv
 obtain ⟨hen, hs⟩ := (tR hP hO n).call _ _ _ _ hc
 refine .inr ⟨hen, (hs w π1 args' w e3 e2.fresh e2.rel).mono fun e' w' ⟨π2, k1, k2⟩ => ?_⟩
 obtain ⟨v', rfl, k3⟩ := k2
 exact ⟨π, ⟨.refl π, fun i _ h => ⟨h, rfl⟩, Nat.le_refl _, hf, hr.later k1.rel⟩, v', rfl, plain_rep hpl k3⟩
theorem gH {P : Program} {A B : Ora} (hA : OraOk P A) (hB : OraOk P B) : OraOk P (orO A B) := fun f args s r h => by
 cases ha : A f args s with
 | none =>
  have h : @Option.rec (AV × St) (fun _ => Option (AV × St)) (B f args s) (fun r => some r) (A f args s) = some r := h
  rw [ha] at h
  exact hB f args s r h
 | some q =>
  have h : @Option.rec (AV × St) (fun _ => Option (AV × St)) (B f args s) (fun r => some r) (A f args s) = some r := h
  rw [ha] at h
  cases h
  exact hA f args s _ ha
theorem closed_ok {P : Program} (hP : P.follows .mixedOrders = true) {O : Ora} (hO : OraOk P O) {n : Nat} {f : FuncId} {v : AV} {s' : St} (h : (ev P O n).call f [] ⟨.nil, 0⟩ = some (.mk (.ret v) s')) (w : World) : Enters P f ∧ Calls P f #[] w (fun e w' => ∃ x π, e = .returned x ∧ Rep π v x ∧ Rel w π s'.h w') := by
 obtain ⟨hen, hs⟩ := (tR hP hO n).call _ _ _ _ h
 refine ⟨hen, (hs w noPl #[] w RepL.nil (fun i _ => ⟨rfl, rfl⟩) ⟨fun i o L hi => (by cases hi), fun i o L hi => (by cases hi), fun i j o p L M hi => (by cases hi), fun _ _ => rfl, Nat.le_refl _, rfl, rfl, rfl⟩).mono fun e w' ⟨π2, k1, k2⟩ => ?_⟩
 obtain ⟨v', rfl, k3⟩ := k2
 exact ⟨v', π2, rfl, k3, k1.rel⟩
end Ev
section
open Go.RowKit Go.Sort
abbrev encU : Int → Value := Value.int .u32
theorem isNaN_u (x : Int) (w : World) : Calls Tryz.prog 205 #[.int .u32 x] w fun e w' => e = .returned (.bool false) ∧ w' = w := by
 go_enter Tryz.func205, Tryz.ntmps205
 go_wp2
 go_ret
 exact ⟨by simp, rfl⟩
theorem tH (x y : Int) (w : World) : Calls Tryz.prog 293 #[.int .u32 x, .int .u32 y] w fun e w' => e = .returned (.bool (ltInt x y)) ∧ w' = w := by
 go_enter Tryz.func293, Tryz.ntmps293
 go_wp2_with (go_at_call 205; refine (isNaN_u _ _).mono ?_; rintro e w' ⟨rfl, rfl⟩)
 go_ret
 exact ⟨rfl, rfl⟩
theorem insertion_u (blk off cap a b : Nat) (d : Array Int) (w : World) (hH : Holds encU w blk off d) (hab : a ≤ b) (hb : b ≤ d.size) (hsz : d.size < 4611686018427387904) :
  Calls Tryz.prog 287 #[.slice (some ⟨blk, off, none⟩) d.size cap, .int .i64 a, .int .i64 b] w fun e w' =>
   e = .returned (.tuple #[]) ∧ ∃ n, w' = putRow encU (Sort.ahead w n) blk off (Sort.insertionSort ltInt d a b) := by
 go_enter Tryz.func287, Tryz.ntmps287
 go_wp2
 go_loopw [6] (fun vi wr => ∃ (i n : Nat) (dk : Array Int), vi = .int .i64 i ∧ a < i ∧ i ≤ b + 1 ∧ dk.size = d.size ∧ wr = putRow encU (Sort.ahead w n) blk off dk ∧
   insOuter ltInt a b i dk = insOuter ltInt a b (a + 1) d) (fun vi _ => b + 1 - (RowKit.intOf vi).toNat)
 case atStart => exact ⟨a + 1, 0, d, by go_num, by omega, by omega, rfl, (putRow_self _ _ _ _ _ hH).symm, rfl⟩
 case round =>
  obtain ⟨i, n, dk, rfl, hai, hib, hsk, hwr, hO⟩ := hrel
  have HO := Lib.hid hO
  clear hO
  by_cases hlt : i < b
  ·go_wp2
   go_loopw [7] (fun vj w2 => ∃ (j m : Nat) (dj : Array Int), vj = .int .i64 j ∧ a ≤ j ∧ j ≤ i ∧ dj.size = d.size ∧ w2 = putRow encU (Sort.ahead w m) blk off dj ∧
     insInner ltInt a j dj = insInner ltInt a i dk) (fun vj _ => (RowKit.intOf vj).toNat)
   case atStart => exact ⟨i, n, dk, rfl, by omega, Nat.le_refl _, hsk, rfl, rfl⟩
   case round =>
    obtain ⟨j, m, dj, rfl, haj, hji, hsj, hw2, hI⟩ := hrel
    obtain ⟨G, hG⟩ : ∃ G : Nat → Int, ∀ t, G t = dj[t]! := ⟨fun t => dj[t]!, fun _ => rfl⟩
    have hcw : ∀ t, t < d.size → wr.cell? ⟨blk, off + t, none⟩ = some (.int .u32 (G t)) := fun t ht => by
     rw [hw2, hG]; exact cell?_putRow _ _ _ _ d dj (holds_ahead _ _ _ _ _ _ hH) hsj t (by omega)
    have hfw : ∀ t, t < d.size → wr.frozen? ⟨blk, off + t, none⟩ = false := fun t ht => by
     rw [hw2, frozen?_putRow]; exact ((holds_ahead _ _ m _ _ _ hH) t ht).2
    have HW := Lib.hid hw2
    have HG := Lib.hid hG
    have HI := Lib.hid hI
    clear hw2 hG hI
    have OUT : Hid ((j ≤ a ∨ ltInt (G j) (G (j - 1)) = false) → ∀ q, wr.drewN q = putRow encU (Sort.ahead w (m + q)) blk off dj ∧ insOuter ltInt a b (i + 1) dj = insOuter ltInt a b (a + 1) d) := Lib.hid (fun hs q =>
     ⟨by rw [HW.out]; exact putRow_drewN _ _ _ _ _ _ _, by rw [← HO.out, insOuter_go _ _ _ _ _ hlt, ← HI.out, insInner_stop _ _ _ _ (by rw [← HG.out, ← HG.out]; exact hs)]⟩)
    by_cases hja : a < j
    ·cases hl : ltInt (G j) (G (j - 1)) with
     | true =>
      have HL := Lib.hid hl
      have LT := Lib.hid (fun w => tH (G j) (G (j - 1)) w)
      clear hl
      go_wp2
      go_quiet ((go_at_call 293; have t := LT.out; rw [HL.out] at t; refine Calls.quiet_of_same (t _)))
      go_wp2
      go_region
      all_goals go_wp2
      go_roundw
      case rel =>
       refine ⟨j - 1, m + (nq + 1), swp dj j (j - 1), by congr 1; omega, by omega, by omega, by rw [size_swp]; exact hsj, ?_, ?_⟩
       ·rw [HW.out, HG.out, HG.out]
        exact swap_worldA _ w m (nq + 1) blk off dj j (j - 1) (by omega) (by omega)
       ·rw [← HI.out, insInner_go ltInt a j dj hja (by rw [← HG.out, ← HG.out]; exact HL.out)]
      case measure => simp [RowKit.intOf]; omega
     | false =>
      have HL := Lib.hid hl
      have LT := Lib.hid (fun w => tH (G j) (G (j - 1)) w)
      clear hl
      go_wp2
      go_quiet ((go_at_call 293; have t := LT.out; rw [HL.out] at t; refine Calls.quiet_of_same (t _)))
      go_wp2
      go_roundw
      case rel => exact ⟨i + 1, m + nq, dj, by go_num, by omega, by omega, hsj, (OUT.out (Or.inr HL.out) nq).1, (OUT.out (Or.inr HL.out) nq).2⟩
      case measure => simp [RowKit.intOf]; omega
    ·have hja2 : decide (a < j) = false := by simpa using hja
     go_wp2
     go_quiet (fail)
     go_wp2
     go_roundw
     case rel => exact ⟨i + 1, m + nq, dj, by go_num, by omega, by omega, hsj, (OUT.out (Or.inl (by omega)) nq).1, (OUT.out (Or.inl (by omega)) nq).2⟩
     case measure => simp [RowKit.intOf]; omega
  ·go_wp2
   go_end0
   exact ⟨rfl, n, by unfold Sort.insertionSort; rw [← HO.out, insOuter_stop _ _ _ _ _ hlt]⟩
end
section
open Go.RowKit Go.Shelf Go.Maps Go.Sort
theorem holds_of_blockE (enc : Int → Value) {w : World} {g : Nat} {cur : Array Value} {e : TypeId} {ss : List Int} (hb : w.heap[g]? = some (.cells cur e (0, 0))) (ht : cur.toList.take ss.length = ss.map enc) : Holds enc w g 0 ss.toArray := by
 intro j hj
 have hj' : j < ss.length := by simpa using hj
 refine ⟨?_, by simp [World.frozen?, hb]⟩
 have h1 : (cur.toList.take ss.length)[j]? = (ss.map enc)[j]? := by rw [ht]
 rw [List.getElem?_take_of_lt hj'] at h1
 simp only [World.cell?, hb, Nat.zero_add]
 simp only [Option.isSome_none, Bool.false_eq_true, if_false]
 rw [← Array.getElem?_toList, h1]
 simp [hj']
theorem heap_sortedE (enc : Int → Value) {w : World} {g n : Nat} {os : Array Obj} {cur : Array Value} {e : TypeId} {fr : Nat × Nat} (d : Array Int) (hb : w.heap[g]? = some (.cells cur e fr)) :
  (grow (putRow enc (Sort.ahead w n) g 0 d) os).heap[g]? = some (.cells (putCells enc 0 d cur) e fr) := by
 have hg : g < w.heap.size := (Array.getElem?_eq_some_iff.1 hb).1
 rw [heap_grow_old _ _ (by simpa using hg)]
 simp [putRow, mapBlock, Sort.ahead, Array.getElem?_modify, hb, onCells]
theorem grownBy_sortedE (enc : Int → Value) {w : World} {g n : Nat} {os : Array Obj} (d : Array Int) : w.grownBy (grow (putRow enc (Sort.ahead w n) g 0 d) os) (some g) := by
 refine ⟨rfl, rfl, rfl, by simp, fun k hk hne => ?_⟩
 rw [heap_grow_old _ _ (by simpa using hk)]
 have : g ≠ k := fun e => hne (by rw [e])
 simp [putRow, mapBlock, Sort.ahead, Array.getElem?_modify, this]
theorem take_putCellsE (enc : Int → Value) (cur : Array Value) (ts : List Int) (h : ts.length ≤ cur.size) : (putCells enc 0 ts.toArray cur).toList.take ts.length = ts.map enc := by
 apply List.ext_getElem?
 intro j
 by_cases hj : j < ts.length
 ·rw [List.getElem?_take_of_lt hj, Array.getElem?_toList]
  simp [putCells, hj, show j < cur.size by omega]
 ·rw [List.getElem?_take_eq_none (by omega), List.getElem?_eq_none (by simp; omega)]
theorem ownsRow_sortedE (enc : Int → Value) {w : World} {base g cap n : Nat} {e : TypeId} {os : Array Obj} {cur : Array Value} {ss ts : List Int} (hl : ts.length = ss.length) (hbase : base ≤ g) (hb : w.heap[g]? = some (.cells cur e (0, 0)))
  (h1 : ss.length ≤ cap) (h2 : cap ≤ maxLen) (h3 : cur.size = cap * 1) :
  (grow (putRow enc (Sort.ahead w n) g 0 ts.toArray) os).ownsRow base e 1 (.slice (some ⟨g, 0, none⟩) ss.length cap) ss.length (ts.map enc) :=
 ⟨by simp [hl], .inr ⟨g, cap, _, rfl, hbase, heap_sortedE enc _ hb, h1, h2, by simp [putCells, h3], by rw [Nat.mul_one, ← hl]; exact take_putCellsE enc cur ts (by omega)⟩⟩
def KeysAre {H : Type} (D0 : DataW H) (ss : List Int) : Prop := ss.Nodup ∧ ∀ x, x ∈ ss ↔ has D0 (.int .u32 x) = true
def CollectedU {H : Type} (D0 : DataW H) (left : Lit → Bool) (ss : List Int) : Prop := ss.Nodup ∧ ∀ x, x ∈ ss ↔ (has D0 (.int .u32 x) = true ∧ left (.int .u32 x) = false)
theorem CollectedU.start {H : Type} (D0 : DataW H) : CollectedU D0 (has D0) [] := ⟨List.nodup_nil, fun x => by cases has D0 (.int .u32 x) <;> simp⟩
theorem CollectedU.step {H : Type} {D0 : DataW H} {left : Lit → Bool} {ss : List Int} (h : CollectedU D0 left ss) {x : Int} {y : DataW H} (hlk : left (.int .u32 x) = true) (hat : ∀ zd, D0.atKey (.int .u32 x) zd = y) :
  CollectedU D0 (fun z => left z && !z.sameKey (.int .u32 x)) (ss ++ [x]) := by
 have hhas : has D0 (.int .u32 x) = true := has_true_of_atKey hat
 have hnew : x ∉ ss := fun hx => by have := ((h.2 x).1 hx).2; rw [hlk] at this; cases this
 refine ⟨List.nodup_append.2 ⟨h.1, by simp, fun a ha b hb => by simp at hb; subst hb; exact fun e => hnew (e ▸ ha)⟩, fun y => ?_⟩
 by_cases hy : y = x
 ·subst hy; simp [hhas, Lit.sameKey]
 ·simp [h.2 y, hy, Lit.sameKey]
theorem CollectedU.done {H : Type} {D0 : DataW H} {left : Lit → Bool} {ss : List Int} (h : CollectedU D0 left ss) (hl : ∀ kl, left kl = false) : KeysAre D0 ss := ⟨h.1, fun x => by rw [h.2 x, hl]; simp⟩
theorem lawU : Keyed Tryz.prog 34 := int_keyed Tryz.underlying34
def RowOf (n₀ : Nat) (W : World) (sv : Value) (zs : List Int) : Prop :=
 ((∃ a c, sv = .slice a 0 c) ∧ zs = []) ∨ ∃ b off cap, sv = .slice (some ⟨b, off, none⟩) zs.length cap ∧ b < n₀ ∧ ∀ j, j < zs.length → W.cell? ⟨b, off + j, none⟩ = some (.int .i64 (zs.getD j 0))
theorem RowOf.below {n₀ : Nat} {A B : World} (h : Below n₀ A B) {sv : Value} {zs : List Int} : RowOf n₀ A sv zs → RowOf n₀ B sv zs
 | .inl e => .inl e
 | .inr ⟨b, off, cap, e, hb, hc⟩ => .inr ⟨b, off, cap, e, hb, fun j hj => (h.cell (p := ⟨b, off + j, none⟩) hb).trans (hc j hj)⟩
end
section
open Go.RowKit Go.Shelf Go.Maps Go.Sort
theorem info_u : (Tryz.prog.info? 34).map (fun i => (i.zero, i.size, i.bytes)) = some (some (.int .u32 0), 1, 4) := by kernel_rfl
set_option maxRecDepth 100000 in
set_option maxHeartbeats 2000000 in
theorem append_u (F : Fence) (hF : ∀ f, F.fn f) (n : Nat) (hro : F.round = none) (hn : 2 ≤ n) (g : Nat) (lb : Array Value) (eg : ∀ args w, (callFunc g args).run Tryz.prog w = .ok (.enter g args) w)
  (Kp : World → World → Prop) (S Sp : List Int → Prop) (N : Nat) (hN : N ≤ maxLen) (hNb : N * 4 ≤ 140737488355328) (w : World)
  (hKt : ∀ {A B C : World}, Kp A B → Kp B C → Kp A C) (hKb : ∀ (W : World) (l : Nat) (o o' : Obj), w.heap.size ≤ l → W.heap[l]? = some o → o.isCells = false → o.isWalk = false → Kp W (W.putObj l o'))
  (hKo : ∀ W W', KeepsOthers W W' → Below w.heap.size W W' → Kp W W')
  (hseq : SeqStopsK F (n - 1) Tryz.prog g lb (fun x : Int => #[Value.int .u32 x]) Kp S Sp N w) :
  CallsIn F n Tryz.prog 277 #[.slice none 0 0, .func (.func g) #[] lb] w fun e w' => ∃ (v : Value) (ss : List Int), e = .returned v ∧ S ss ∧ ss.length ≤ N ∧ w'.ownsRow w.heap.size 34 1 v ss.length (ss.map (Value.int .u32)) ∧ (v = .slice none 0 0 ↔ ss = []) ∧ Below w.heap.size w w' := by
 have h1 : 1 ≤ n := by omega
 obtain ⟨i0, hi, hz0, hz1, hz2⟩ := info_parts info_u
 refine callsIn_of_wp_marks Tryz.func277 rfl (hF _) ?_ hro
 simp only [Tryz.ntmps277, List.size_toArray, List.length_cons, List.length_nil, Nat.reduceAdd, Nat.reduceSub, Array.replicate_succ, Array.replicate_zero, List.push_toArray, List.append_toArray, List.nil_append, List.cons_append]
 gi_wp2
 have bO := Boxed.new w 167 (.slice none 0 0)
 have hB0 : Below w.heap.size w (w.alloc (.cells #[.slice none 0 0] 167)) := (Below.refl _ w).alloc (Nat.le_refl _) _
 refine wpIn_rangeFunc_ownG hro h1 (gf := g) (lb := lb) rfl (hF _) eg (N := N) hseq hKt (fun W l o o' hl h1 h2 h3 => hKb W l o o' (by simp at hl; omega) h1 h2 h3) hB0 (fun _ => rfl)
  (fun pre W => ((∃ v, Boxed W w.heap.size 167 v ∧ W.ownsRow w.heap.size 34 1 v pre.length (pre.map (Value.int .u32)) ∧ (v = .slice none 0 0 ↔ pre = [])) ∧ Below w.heap.size w W) ∧ pre.length ≤ N)
  (fun _ _ _ => False)
  (OwnFrom.and (OwnFrom.and (Own.from (holdsRow_own w.heap.size w.heap.size 167 34 1 (fun pre : List Int => pre.length) (fun pre => pre.map (Value.int .u32)) (fun pre v => v = .slice none 0 0 ↔ pre = [])) _) (ownFrom_below (Nat.le_refl _) (by simp))) (fun _ _ _ _ hs _ _ => hs))
  (fun _ _ _ _ _ hs _ _ => hs)
  ⟨⟨⟨_, bO, World.ownsRow_nil _ _ _ _, by simp⟩, hB0⟩, by simp⟩
  (fun x => { tmps := #[.slice none 0 0, .func (.func g) #[] lb, .pointer (some ⟨w.heap.size, 0, none⟩), undef, .slice none 0 0, .int .u32 x, .func (.func g) #[] lb, .int .u32 x, undef, undef, undef, undef, undef], defers := [] }) ?assign ?body ?done ?stop
 case assign =>
  intro l x W K hK
  gi_wp2_with (rw [Oper.semAt_eq _ _ _ (fun c h => by cases h)]; go_simp; try go_bits)
  exact hK
 case body =>
  rintro l pre x W ⟨⟨⟨v, hv, hrow, hnil⟩, hB⟩, _⟩ hlt
  have hc := hv.cell
  gi_wp2_with (first | (gi_at_builtin; refine wpListIn_append_own _ rfl _ _ 167 rfl w.heap.size 34 i0 (.int .u32 0) 1 4 Tryz.underlying167 hi hz0 hz1 hz2 rfl (by decide) _ _ _ rfl (hrow.alloc _) ⟨W.heap.size, 0, none⟩ 1 1 [.int .u32 x] rfl rfl (cell_one_new _ _ _) (by simp [Value.oneCell']) (by omega) (by omega) (by have := hB.size; simp; omega) ?_; intro v' w1 hown' hgrow _; obtain ⟨g', cap', rfl⟩ := ownsRow_succ hown'; obtain ⟨hv1, hv2, hr2, hk2, hb2⟩ := hv.appended (by decide) hrow hB.size (Nat.le_refl _) hown' hgrow; have hc1 := hv1.cell; have hf1 := hv1.frozen; go_frame) | (rw [Oper.semAt_eq _ _ _ (fun c h => by cases h)]; go_simp; try go_bits))
  exact ⟨hk2.from _, hKo _ _ hk2 hb2, ⟨⟨_, hv2, by simpa using hr2, by simp⟩, hB.trans hb2⟩, by simp; omega⟩
 case done =>
  rintro D ys W hD hS ⟨⟨⟨v, hv, hrow, hnil⟩, hB⟩, hlen⟩ hK
  have hc := hv.cell
  gi_wp2
  refine ⟨by simp, .inl ⟨_, _, rfl, run_takeDeferred hK, ?_⟩⟩
  exact ⟨_, results_tmp rfl _ _ _, v, ys, rfl, hS, hlen, ownsRow_putObj hrow _ hK rfl, hnil, hB.trans (belowK_b (w := w) (Nat.le_refl _) W D _ _ (by simp at hD; omega) hK rfl rfl)⟩
 case stop =>
  rintro D c pre W _ _ h _
  exact h.elim
set_option maxHeartbeats 1000000 in
theorem collect_u (F : Fence) (hF : ∀ f, F.fn f) (n : Nat) (hro : F.round = none) (hn : 3 ≤ n) (g : Nat) (lb : Array Value) (eg : ∀ args w, (callFunc g args).run Tryz.prog w = .ok (.enter g args) w)
  (Kp : World → World → Prop) (S Sp : List Int → Prop) (N : Nat) (hN : N ≤ maxLen) (hNb : N * 4 ≤ 140737488355328) (w : World)
  (hKt : ∀ {A B C : World}, Kp A B → Kp B C → Kp A C) (hKb : ∀ (W : World) (l : Nat) (o o' : Obj), w.heap.size ≤ l → W.heap[l]? = some o → o.isCells = false → o.isWalk = false → Kp W (W.putObj l o'))
  (hKo : ∀ W W', KeepsOthers W W' → Below w.heap.size W W' → Kp W W')
  (hseq : SeqStopsK F (n - 1 - 1) Tryz.prog g lb (fun x : Int => #[Value.int .u32 x]) Kp S Sp N w) :
  CallsIn F n Tryz.prog 253 #[.func (.func g) #[] lb] w fun e w' => ∃ (v : Value) (ss : List Int), e = .returned v ∧ S ss ∧ ss.length ≤ N ∧ w'.ownsRow w.heap.size 34 1 v ss.length (ss.map (Value.int .u32)) ∧ (v = .slice none 0 0 ↔ ss = []) ∧ Below w.heap.size w w' := by
 have h1 : 1 ≤ n := by omega
 refine callsIn_of_wp Tryz.func253 rfl (hF _) ?_ hro
 simp only [Tryz.ntmps253, List.size_toArray, List.length_cons, List.length_nil, Nat.reduceAdd, Nat.reduceSub, Array.replicate_succ, Array.replicate_zero, List.push_toArray, List.append_toArray, List.nil_append, List.cons_append]
 gi_wp2_with (gi_at_call 277; refine (append_u F hF (n - 1) hro (by omega) g lb eg Kp S Sp N hN hNb _ hKt hKb hKo hseq).mono ?_; rintro e w' ⟨v, ss, rfl, hS, hlen, hrow, hnil, hb⟩)
 go_ret
 exact ⟨v, ss, rfl, hS, hlen, hrow, hnil, hb⟩
def SortsB_u (F : Fence) (B m : Nat) : Prop :=
 (∀ (blk off cap : Nat) (ss : List Int) (W : World), Holds (Value.int .u32) W blk off ss.toArray → blk < W.heap.size → ss.length ≤ B →
  CallsIn F m Tryz.prog 254 #[.slice (some ⟨blk, off, none⟩) ss.length cap] W fun e w' => e = .returned (.tuple #[]) ∧ ∃ k os, w' = grow (putRow (Value.int .u32) (Sort.ahead W k) blk off (ss.mergeSort fun x y => decide (x ≤ y)).toArray) os) ∧
 (∀ (p : Option Addr) (cap : Nat) (W : World), CallsIn F m Tryz.prog 254 #[.slice p 0 cap] W fun e w' => e = .returned (.tuple #[]) ∧ w' = W)
set_option maxRecDepth 100000 in
set_option maxHeartbeats 2000000 in
theorem sorted_u (F : Fence) (hF : ∀ f, F.fn f) (n : Nat) (hro : F.round = none) (hn : 4 ≤ n) {B : Nat} (hsort : SortsB_u F B (n - 1)) (g : Nat) (lb : Array Value) (eg : ∀ args w, (callFunc g args).run Tryz.prog w = .ok (.enter g args) w)
  (Kp : World → World → Prop) (S Sp : List Int → Prop) (N : Nat) (hN : N ≤ maxLen) (hNb : N * 4 ≤ 140737488355328) (hNB : N ≤ B) (w : World)
  (hKt : ∀ {A B C : World}, Kp A B → Kp B C → Kp A C) (hKb : ∀ (W : World) (l : Nat) (o o' : Obj), w.heap.size ≤ l → W.heap[l]? = some o → o.isCells = false → o.isWalk = false → Kp W (W.putObj l o'))
  (hKo : ∀ W W', KeepsOthers W W' → Below w.heap.size W W' → Kp W W')
  (hseq : SeqStopsK F (n - 1 - 1 - 1) Tryz.prog g lb (fun x : Int => #[Value.int .u32 x]) Kp S Sp N w) :
  CallsIn F n Tryz.prog 206 #[.func (.func g) #[] lb] w fun e w' => ∃ (v : Value) (ss : List Int), e = .returned v ∧ S ss ∧ ss.length ≤ N ∧
   w'.ownsRow w.heap.size 34 1 v ss.length ((ss.mergeSort (fun x y => decide (x ≤ y))).map (Value.int .u32)) ∧ (v = .slice none 0 0 ↔ ss = []) ∧ Below w.heap.size w w' := by
 have h1 : 1 ≤ n := by omega
 have hN2 : N < 4611686018427387904 := by omega
 refine callsIn_of_wp Tryz.func206 rfl (hF _) ?_ hro
 simp only [Tryz.ntmps206, List.size_toArray, List.length_cons, List.length_nil, Nat.reduceAdd, Nat.reduceSub, Array.replicate_succ, Array.replicate_zero, List.push_toArray, List.append_toArray, List.nil_append, List.cons_append]
 gi_wp2_with (gi_at_call 253; refine (collect_u F hF (n - 1) hro (by omega) g lb eg Kp S Sp N hN hNb _ hKt hKb hKo hseq).mono ?_; rintro e W ⟨v, ss, rfl, hS, hlen, hrow, hnil, hb⟩)
 rcases hrow.2 with ⟨rfl, hz⟩ | ⟨gb, cap, cur, rfl, hbase, hgb, r1, r2, r3, r4⟩
 ·have hss : ss = [] := List.eq_nil_of_length_eq_zero hz
  subst hss
  gi_wp2_with (gi_at_call 254; refine (hsort.2 none 0 W).mono ?_; rintro e w' ⟨rfl, rfl⟩)
  go_ret
  exact ⟨.slice none 0 0, [], rfl, hS, by simp, by simpa using hrow, by simp, hb⟩
 ·have hH : Holds (Value.int .u32) W gb 0 ss.toArray := holds_of_blockE _ hgb (by simpa using r4)
  have hgl : gb < W.heap.size := (Array.getElem?_eq_some_iff.1 hgb).1
  have cS := hsort.1 gb 0 cap ss W hH hgl (by omega)
  gi_wp2_with (gi_at_call 254; refine cS.mono ?_; rintro e w' ⟨rfl, nn, os, rfl⟩)
  go_ret
  exact ⟨_, ss, rfl, hS, hlen, ownsRow_sortedE _ (by simp) hbase hgb r1 r2 r3, hnil, hb.grown (grownBy_sortedE _ _) hb.size (fun j hj => by cases hj; exact hbase)⟩
end
section
open Go.RowKit Go.Maps Go.Sort
def addIn (a : Int) : List Int → List Int
 | [] => [a]
 | x :: r => if x < a then x :: addIn a r else if x = a then x :: r else a :: x :: r
theorem lX (a x : Int) : ∀ l, x ∈ addIn a l ↔ x = a ∨ x ∈ l
 | [] => by simp [addIn]
 | y :: r => by
  unfold addIn
  split
  ·simp only [List.mem_cons, lX a x r]; exact or_left_comm
  ·split
   ·rename_i h1 h2; subst h2; simp
   ·simp
theorem sorted_same {ss l : List Int} (hn : ss.Nodup) (hl : l.Pairwise (· < ·)) (hm : ∀ x, x ∈ ss ↔ x ∈ l) : ss.mergeSort (fun x y => decide (x ≤ y)) = l := by
 have hp : ss.Perm l := (List.perm_ext_iff_of_nodup hn (hl.imp (fun h => by omega))).2 hm
 refine List.Perm.eq_of_pairwise (le := fun a b : Int => a ≤ b) (fun a b _ _ h1 h2 => by omega) ?_ (hl.imp (fun h => by omega)) ((List.mergeSort_perm ss _).trans hp)
 refine (List.pairwise_mergeSort (le := fun x y : Int => decide (x ≤ y)) (fun a b c h1 h2 => by simp at *; omega) (fun a b => by simp; omega) ss).imp ?_
 intro a b h; simpa using h
def Has (D : DataW Unit) (l : List Int) : Prop := ∀ x, has D (.int .u32 x) = true ↔ x ∈ l
theorem Has.put {D : DataW Unit} {l : List Int} (h : Has D l) (hm : IsMap D) (a : Int) (d : DataW Unit) : Has (D.put (.int .u32 a) d) (addIn a l) := by
 intro x
 rw [lX]
 by_cases hx : x = a
 ·subst hx
  simp [has_put_same hm (show WideAt.IsKeyLit (Lit.int .u32 x) from trivial)]
 ·rw [has_put_other (by simpa using hx), h x]
  simp [hx]
theorem enters_keys : ∀ args w, (callFunc 255 args).run Tryz.prog w = .ok (.enter 255 args) w := enters_of Tryz.func255 (by kernel_rfl) rfl
theorem u32_wf {a : Int} (h1 : 0 ≤ a) (h2 : a < 4294967296) : (Lit.int .u32 a).wf = true := by
 simp only [Lit.wf, Bool.and_eq_true, decide_eq_true_eq]
 have e1 : IntKind.u32.min = 0 := by decide
 have e2 : IntKind.u32.max = 4294967295 := by decide
 omega
end
end Go.Proofs.YtjogffchdejabaaGreatDoor
