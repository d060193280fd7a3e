/- Parts. -/
import Derived.WideLaws
import Derived.Test.YtjogffchdejabaaGreatDoorPp3
import Derived.Test.YtjogffchdejabaaGreatDoorPp4
import Derived.Test.YtjogffchdejabaaGreatDoorPp8
import Derived.Test.YtjogffchdejabaaGreatDoorPp9
import Derived.Test.YtjogffchdejabaaGreatDoorPp10
import Derived.Test.YtjogffchdejabaaGreatDoorPp11
set_option linter.unusedVariables false
set_option linter.unusedSimpArgs false
set_option maxHeartbeats 4000000
set_option maxRecDepth 100000
namespace Go.Proofs.YtjogffchdejabaaGreatDoor
open Go.RowKit
section
open Go.RowKit Go.Lib
theorem uAU (s : Bt) (u : Nat) (hl : s.length ≤ 65536) (h : parseUintB 32 s = .ok u) : Pure E.P 142 [.bs s, .int .i64 10, .int .i64 32] (.tu [.int .u64 u, .d (.c .nilIface)]) :=
  ⟨⟨_, Tryz.func142, by decide, rfl⟩, fun G w vs N hr hw => by
    rw [RepOL] at hr
    obtain ⟨v, us, rfl, r0, hr⟩ := hr
    rw [RepOL] at hr
    obtain ⟨v2, us, rfl, r2, hr⟩ := hr
    rw [RepOL] at hr
    obtain ⟨v3, us, rfl, r3, hr⟩ := hr
    rw [RepOL] at hr
    subst hr
    rw [vA r0, vA r2, vA r3]
    have hsz : (⟨s.toArray⟩ : ByteArray).size = s.length := by simp [ByteArray.size]
    refine (Any.strconv_ParseUint_10_at32_ok Tryz.laysPu14 ⟨s.toArray⟩ (by omega) u h w).mono fun e w' ⟨h1, h2⟩ => ⟨_, G, _, Store.nil, h1, rfl, Gh.le.refl G, ?_, hw.below ?_⟩
    · rw [RepO]
      refine ⟨_, rfl, ?_⟩
      rw [RepOL]
      refine ⟨_, _, rfl, wE rfl, ?_⟩
      rw [RepOL]
      exact ⟨_, _, rfl, wE rfl, by rw [RepOL]⟩
    · rcases h2 with rfl | rfl
      · exact Below.refl _ _
      · exact Lib.bytesWorld_below _ _ _⟩
theorem pu_no (s : Bt) (hl : s.length ≤ 65536) (h : ∀ u, parseUintB 32 s ≠ .ok u) : FnW E.P 142 [.bs s, .int .i64 10, .int .i64 32] (stL []) (IsX (X := Int × TypeId × Value) (fun _ => True) (fun p => .tu [.int .u64 p.1, .d (.c (.iface p.2.1 p.2.2))]) fun _ => []) :=
  ⟨⟨_, Tryz.func142, by decide, rfl⟩, fun G w vs N hr hw => by
    rw [RepOL] at hr
    obtain ⟨v, us, rfl, r0, hr⟩ := hr
    rw [RepOL] at hr
    obtain ⟨v2, us, rfl, r2, hr⟩ := hr
    rw [RepOL] at hr
    obtain ⟨v3, us, rfl, r3, hr⟩ := hr
    rw [RepOL] at hr
    subst hr
    rw [vA r0, vA r2, vA r3]
    have hsz : (⟨s.toArray⟩ : ByteArray).size = s.length := by simp [ByteArray.size]
    have fin : ∀ (n : Int) (t : TypeId) (x : Value) (w' : World), Below w.heap.size w w' → ∃ x_1 G' r σ', Ending.returned (.tuple #[.int .u64 n, .iface t x]) = .returned x_1 ∧ IsX (X := Int × TypeId × Value) (fun _ => True) (fun p => .tu [.int .u64 p.1, .d (.c (.iface p.2.1 p.2.2))]) (fun _ => []) r σ' ∧ G.le G' ∧ RepO G' r x_1 ∧ WRel ⟨w, Blks G (stL []), G, N⟩ G' σ' w' := fun n t x w' hb => by
      refine ⟨_, G, .tu [.int .u64 n, .d (.c (.iface t x))], stL [], rfl, ⟨(n, t, x), trivial, rfl, (by repeat' (first | exact vW _ | exact uS _ | refine uL rfl ?_ | refine uY rfl ?_))⟩, Gh.le.refl G, ?_, hw.below hb⟩
      rw [RepO]
      refine ⟨_, rfl, ?_⟩
      rw [RepOL]
      refine ⟨_, _, rfl, wE rfl, ?_⟩
      rw [RepOL]
      exact ⟨_, _, rfl, wE rfl, by rw [RepOL]⟩
    obtain ⟨kn1, ⟨t1, p1, k1⟩, t2, p2, k2⟩ := G.kn
    cases e : parseUintB 32 s with
    | ok u => exact absurd e (h u)
    | range =>
      refine (Any.strconv_ParseUint_10_at32_range Tryz.laysPu14 ⟨s.toArray⟩ (by omega) e (.iface t2 p2) w (hw.mem _ _ _ k2) (Or.inr ⟨_, _, rfl⟩)).mono fun e w' ⟨N, h1, h2, h3, h4⟩ => ?_
      subst h1
      exact fin _ _ _ _ h4
    | _ =>
      refine (Any.strconv_ParseUint_10_at32_syntax Tryz.laysPu14 ⟨s.toArray⟩ (by omega) e (.iface t1 p1) w (hw.mem _ _ _ k1) (Or.inr ⟨_, _, rfl⟩)).mono fun e w' ⟨N, h1, h2, h3, h4⟩ => ?_
      subst h1
      exact fin _ _ _ _ h4⟩
end
section
variable {P : Program} {v : Nat} {ops : Array Oper} {F : Nat → Foot}
def Closed (ops : Array Oper) (listed : Array Bool) : Prop := ∀ j oj, ops[j]? = some oj → listed.getD j false = true → ∀ e ∈ oj.after, Region.binds .any e = true → listed.getD e.on false = true
theorem Closed.set {listed : Array Bool} (h : Closed ops listed) {i : Nat} (hi : i ∈ Region.ready .any ops listed) : Closed ops (listed.setIfInBounds i true) := by
 obtain ⟨hun, oi, hoi, hall⟩ := mem_ready.1 hi
 have up : ∀ q, listed.getD q false = true → (listed.setIfInBounds i true).getD q false = true := fun q hq => by
  by_cases e : i = q
  ·subst e
   rcases Nat.lt_or_ge i listed.size with h' | h'
   ·simp [h']
   ·simp [Array.getElem?_eq_none h'] at hq
  ·rw [getD_set_ne false e]; exact hq
 intro j oj hoj hj e he hb
 by_cases e' : i = j
 ·subst e'
  rw [hoi] at hoj; cases hoj
  exact up _ (hall e he hb)
 ·rw [getD_set_ne false e'] at hj
  exact up _ (h j oj hoj hj e he hb)
def depsC (ops : Array Oper) : Nat → Nat → Nat → Bool
 | 0, _, _ => false
 | fuel + 1, k, i => match ops[k]? with
  | some o => o.after.any fun e => Region.binds .any e && (Nat.beq e.on i || depsC ops fuel e.on i)
  | none => false
theorem fT {listed : Array Bool} (h : Closed ops listed) {i : Nat} : ∀ (fuel k : Nat), (∀ o, ops[k]? = some o → ∀ e ∈ o.after, Region.binds .any e = true → listed.getD e.on false = true) → depsC ops fuel k i = true → listed.getD i false = true
 | 0, _, _, hd => by cases hd
 | fuel + 1, k, hk, hd => by
  unfold depsC at hd
  cases ho : ops[k]? with
  | none => rw [ho] at hd; cases hd
  | some o =>
   rw [ho] at hd
   obtain ⟨e, he, h1⟩ := Array.any_eq_true'.1 hd
   simp only [Bool.and_eq_true, Bool.or_eq_true] at h1
   have hl := hk o ho e he h1.1
   rcases h1.2 with h2 | h2
   ·rw [← Nat.eq_of_beq_eq_true h2]; exact hl
   ·exact fT h fuel e.on (fun o' ho' e' he' hb' => h e.on o' ho' hl e' he' hb') h2
theorem dep_not_ready {listed : Array Bool} (h : Closed ops listed) {fuel k i : Nat} (hd : depsC ops fuel k i = true) (hi : listed.getD i true = false) : k ∉ Region.ready .any ops listed := fun hk => by
 obtain ⟨_, o, ho, hall⟩ := mem_ready.1 hk
 have h1 := fT h fuel k (fun o' ho' e he hb => by rw [ho] at ho'; cases ho'; exact hall e he hb) hd
 rcases Nat.lt_or_ge i listed.size with h' | h'
 ·simp [h'] at h1 hi
  rw [h1] at hi; cases hi
 ·simp [Array.getElem?_eq_none h'] at hi
def lstTo (listed : Array Bool) (k : Nat) : Nat → Array Bool
 | 0 => listed
 | n + 1 => lstTo (listed.setIfInBounds k true) (k + 1) n
def lexP (ops : Array Oper) (F : Nat → Foot) : Nat → Nat → Array Bool → Bool
 | 0, _, _ => true
 | fuel + 1, k, listed => (Region.ready .any ops listed).contains k && Region.free .any ops listed k && freeF ops F listed k && lexP ops F fuel (k + 1) (listed.setIfInBounds k true)
end
section
variable {E : Env} {v j k : Nat} {ops : Array Oper} {Q : Tm → Store → Prop} {l2 : List Oper} {acc : List Foot} {tm : Tm} {σ : Store} {dst : Option Tmp} {ty : TypeId} {pos : String} {af : Array Edge} {gd : Option (Nat × Bool)}
end
section
variable {P : Program} {v : Nat} {ops : Array Oper} {F : Nat → Foot} {p : Nat} {H : Tm → Store → Prop}
def anyX (P : Program) (v : Nat) (ops : Array Oper) (F : Nat → Foot) (p : Nat) (H : Tm → Store → Prop) : Nat → Array Bool → Tm → Store → Prop
 | 0, listed, tm, σ => Region.ready .any ops listed = [p] ∧ H tm σ
 | fuel + 1, listed, tm, σ => Region.ready .any ops listed ≠ [] ∧ (p ∈ Region.ready .any ops listed → H tm σ) ∧ ∀ i ∈ Region.ready .any ops listed, i ≠ p → stepA P v ops F i (anyX P v ops F p H fuel (listed.setIfInBounds i true)) tm σ
theorem anyX_first {i : Nat} {oi : Oper} {r : OV} (hi : ops[i]? = some oi) (hip : i ≠ p) (hb : ∀ listed tm σ r, Closed ops listed → p ∈ Region.ready .any ops listed → listed.getD i true = false → H (tm.putO oi.dst r) σ → H tm σ) :
  ∀ (fuel : Nat) (listed : Array Bool) (tm : Tm) (σ : Store), Closed ops listed →
   (∀ j oj, ops[j]? = some oj → j ≠ i → listed.getD j true = false → (∀ e ∈ oj.after, Region.binds .any e = true → e.on ≠ i) → oi.apart ops oj = true ∧ (F i).apart (F j) = true) →
   i ∈ Region.ready .any ops listed → YieldsA P v ops F i oi r [] tm σ → anyX P v ops F p H fuel (listed.setIfInBounds i true) (tm.putO oi.dst r) σ → anyX P v ops F p H (fuel + 1) listed tm σ := by
 intro fuel
 induction fuel with
 | zero =>
  intro listed tm σ hcl _ hr hy HH
  refine ⟨fun h => (by rw [h] at hr; cases hr), fun hp => hb listed tm σ r hcl hp (mem_ready.1 hr).1 HH.2, fun j hj hjp => ?_⟩
  by_cases hji : j = i
  ·subst hji; exact hy.step hi HH
  ·have h1 := ready_mono hj hji
   rw [HH.1] at h1
   simp only [List.mem_singleton] at h1
   exact absurd h1 hjp
 | succ fuel ih =>
  intro listed tm σ hcl hfree hr hy HH
  refine ⟨fun h => (by rw [h] at hr; cases hr), fun hp => hb listed tm σ r hcl hp (mem_ready.1 hr).1 (HH.2.1 (ready_mono hp (Ne.symm hip))), fun j hj hjp => ?_⟩
  by_cases hji : j = i
  ·subst hji; exact hy.step hi HH
  ·have h1 := HH.2.2 j (ready_mono hj hji) hjp
   obtain ⟨hjun, oj, hoj, hall⟩ := mem_ready.1 hj
   have hnot : ∀ e ∈ oj.after, Region.binds .any e = true → e.on ≠ i := fun e he hb heq => by
    have h1 := hall e he hb
    have h0 := (mem_ready.1 hr).1
    rw [heq] at h1
    rcases Nat.lt_or_ge i listed.size with h' | h'
    ·simp [h'] at h0 h1; rw [h0] at h1; cases h1
    ·simp [Array.getElem?_eq_none h'] at h1
   obtain ⟨hap, hfo⟩ := hfree j oj hoj hji hjun hnot
   have h2 := lD (δ := []) hoj hap hfo hy h1
   have hfree' : ∀ k ok, ops[k]? = some ok → k ≠ i → (listed.setIfInBounds j true).getD k true = false →
     (∀ e ∈ ok.after, Region.binds .any e = true → e.on ≠ i) → oi.apart ops ok = true ∧ (F i).apart (F k) = true := fun k ok hk hki hun hno => by
    refine hfree k ok hk hki ?_ hno
    by_cases hjk : j = k
    ·subst hjk; exact hjun
    ·rw [getD_set_ne true hjk] at hun; exact hun
   refine jF (fun tm' σ' h3 => ih (listed.setIfInBounds j true) tm' σ' (hcl.set hj) hfree' (ready_mono hr (Ne.symm hji)) h3.1 ?_) h2
   rw [Array.setIfInBounds_comm _ _ hji]
   exact h3.2
theorem wkeys_nil {δ : Diff} (h : wkeys δ = []) : δ = [] := by
 cases δ with
 | nil => rfl
 | cons x δ => obtain ⟨k, y⟩ := x; cases h
theorem kT {m : Nat} (hb : ∀ i oi, ops[i]? = some oi → i ≠ p → ∀ listed tm σ r, Closed ops listed → p ∈ Region.ready .any ops listed → listed.getD i true = false → H (tm.putO oi.dst r) σ → H tm σ) : ∀ (l : List Oper) (k : Nat) (listed : Array Bool) (tm : Tm) (σ : Store) (acc : List Foot), (∀ j, j < l.length → k + j ≠ p) → Closed ops listed → (∀ j, j < l.length → l[j]? = ops[k + j]?) → acc.length = k →
  lexP ops F l.length k listed = true → adops P v ops (fun acc' tm σ => (∀ i f, acc'.reverse[i]? = some f → F i = f) ∧ (∀ f ∈ acc', f.ws = []) ∧ (Closed ops (lstTo listed k l.length) → anyX P v ops F p H m (lstTo listed k l.length) tm σ)) k l tm σ acc → anyX P v ops F p H (l.length + m) listed tm σ
 | [], k, listed, tm, σ, acc, _, hcl, _, _, _, h => by
  have h2 := h.2.2 hcl
  rw [List.length_nil, Nat.zero_add]
  exact h2
 | o :: l, k, listed, tm, σ, acc, hkp, hcl, hl, ha, hB, h => by
  have h0 : ops[k]? = some o := by simpa using (hl 0 (by simp)).symm
  simp only [List.length_cons, lexP, Bool.and_eq_true] at hB
  obtain ⟨⟨⟨hr, hf⟩, hff⟩, hB'⟩ := hB
  have hr' : k ∈ Region.ready .any ops listed := by simpa using hr
  have hk0 : k ≠ p := by have := hkp 0 (by simp); simpa using this
  have known : ∀ (f : Foot) tm σ, adops P v ops (fun acc' tm σ => (∀ i f, acc'.reverse[i]? = some f → F i = f) ∧ (∀ f ∈ acc', f.ws = []) ∧ (Closed ops (lstTo listed k (o :: l).length) → anyX P v ops F p H m (lstTo listed k (o :: l).length) tm σ)) (k + 1) l tm σ (f :: acc) → F k = f ∧ f.ws = [] := fun f tm σ h => by
   have h1 := gQ l (k + 1) tm σ (f :: acc) h
   obtain ⟨a, t, s, ⟨⟨h2, h2', _⟩, m', h3⟩⟩ := xS _ _ _ _ _ h1
   refine ⟨h2 k f ?_, h2' f ?_⟩
   ·rw [h3, List.reverse_append, List.reverse_cons, List.getElem?_append_left (by simp; omega), List.getElem?_append_right (by simp; omega)]
    simp [ha]
   ·rw [h3]; simp
  have main : ∀ f r, YieldsA P v ops F k o r [] tm σ → adops P v ops (fun acc' tm σ => (∀ i f, acc'.reverse[i]? = some f → F i = f) ∧ (∀ f ∈ acc', f.ws = []) ∧ (Closed ops (lstTo listed k (o :: l).length) → anyX P v ops F p H m (lstTo listed k (o :: l).length) tm σ)) (k + 1) l (tm.putO o.dst r) σ (f :: acc) → anyX P v ops F p H ((o :: l).length + m) listed tm σ := fun f r hy h => by
   rw [List.length_cons, show l.length + 1 + m = (l.length + m) + 1 by omega]
   refine anyX_first h0 hk0 (hb k o h0 hk0) (l.length + m) listed tm σ hcl (fun j oj hj hjk hun hno => ⟨Region.free_spec h0 hf j oj hj hjk hun hno, ?_⟩) hr' hy ?_
   ·have h1 := List.all_eq_true.1 hff j (List.mem_range.2 (Array.getElem?_eq_some_iff.1 hj).1)
    rw [hj, cH hjk, hun] at h1
    simp only [Bool.false_or, Bool.or_eq_true] at h1
    rcases h1 with h1 | h1
    ·obtain ⟨e, he, hb⟩ := Array.any_eq_true'.1 h1
     simp only [Bool.and_eq_true] at hb
     exact (hno e he hb.1 (Nat.eq_of_beq_eq_true hb.2)).elim
    ·exact h1
   ·exact kT hb l (k + 1) _ _ _ (f :: acc) (fun j hj => by have := hkp (j + 1) (by simpa using hj); omega) (hcl.set hr') (fun j hj => by have := hl (j + 1) (by simpa using hj); simpa [Nat.add_assoc, Nat.add_comm 1 j] using this) (by simp [ha]) hB' h
  unfold adops at h
  rcases h with ⟨hw, ks, r, δ, h1, h2⟩ | ⟨hw, h⟩ | ⟨c, r, ks, hg, hy, h⟩
  ·obtain ⟨hk, hws⟩ := known _ _ _ h2
   have hd : δ = [] := wkeys_nil hws
   subst hd
   exact main _ r (Or.inl ⟨hw, ks, hk, h1⟩) h2
  ·obtain ⟨hk, _⟩ := known _ _ _ h
   exact main _ .un (Or.inr (Or.inl ⟨hw, hk, rfl, rfl⟩)) h
  ·obtain ⟨hk, _⟩ := known _ _ _ h
   exact main _ (.mb c r) (Or.inr (Or.inr ⟨c, r, ks, hg, hk, hy, rfl, rfl⟩)) h
theorem fY {X : Type} {K : X → List Foot → Tm → Store → Prop} : ∀ (l : List Oper) (j : Nat) (tm : Tm) (σ : Store) (acc : List Foot), adops P v ops (fun a t s => ∃ x, K x a t s) j l tm σ acc → ∃ x, adops P v ops (K x) j l tm σ acc
 | [], j, tm, σ, acc, h => h
 | o :: l, j, tm, σ, acc, h => by
  unfold adops at h
  rcases h with ⟨hw, ks, r, δ, h1, h2⟩ | ⟨hw, h⟩ | ⟨c, r, ks, hg, hy, h⟩
  ·obtain ⟨x, hx⟩ := fY l _ _ _ _ h2
   exact ⟨x, by unfold adops; exact Or.inl ⟨hw, ks, r, δ, h1, hx⟩⟩
  ·obtain ⟨x, hx⟩ := fY l _ _ _ _ h
   exact ⟨x, by unfold adops; exact Or.inr (Or.inl ⟨hw, hx⟩)⟩
  ·obtain ⟨x, hx⟩ := fY l _ _ _ _ h
   exact ⟨x, by unfold adops; exact Or.inr (Or.inr ⟨c, r, ks, hg, hy, hx⟩)⟩
def okX (ops : Array Oper) (p m : Nat) (acc : List Foot) : Bool :=
 (acc.all fun f => f.ws.isEmpty) && lexP ops (footsOf acc.reverse) p 0 (Array.replicate ops.size false) && lexP ops (footsOf acc.reverse) m (p + 1) (lstTo (Array.replicate ops.size false) 0 p) &&
  decide (Region.ready .any ops (lstTo (lstTo (Array.replicate ops.size false) 0 p) (p + 1) m) = [p])
theorem closed_none (ops : Array Oper) : Closed ops (Array.replicate ops.size false) := fun j oj hj hjl => by
 have : j < ops.size := (Array.getElem?_eq_some_iff.1 hj).1
 simp [this] at hjl
theorem eP {K : List Foot → Tm → Store → Prop} : ∀ (l : List Oper) (j : Nat) (tm : Tm) (σ : Store) (acc : List Foot), adops P v ops K j l tm σ acc → adops P v ops (fun a t s => K a t s ∧ (∃ m, a = m ++ acc) ∧ a.length = acc.length + l.length) j l tm σ acc
 | [], j, tm, σ, acc, h => ⟨h, ⟨[], rfl⟩, rfl⟩
 | o :: l, j, tm, σ, acc, h => by
  have step : ∀ f tm σ, adops P v ops K (j + 1) l tm σ (f :: acc) → adops P v ops (fun a t s => K a t s ∧ (∃ m, a = m ++ acc) ∧ a.length = acc.length + (o :: l).length) (j + 1) l tm σ (f :: acc) := fun f tm σ h =>
   wZ (fun a t s ⟨h1, ⟨m, h2⟩, h3⟩ => ⟨h1, ⟨m ++ [f], by rw [h2]; simp⟩, by rw [h3]; simp only [List.length_cons]; omega⟩) _ _ _ _ _ (eP l (j + 1) tm σ (f :: acc) h)
  unfold adops at h ⊢
  rcases h with ⟨hw, ks, r, δ, h1, h2⟩ | ⟨hw, h⟩ | ⟨c, r, ks, hg, hy, h⟩
  ·exact Or.inl ⟨hw, ks, r, δ, h1, step _ _ _ h2⟩
  ·exact Or.inr (Or.inl ⟨hw, step _ _ _ h⟩)
  ·exact Or.inr (Or.inr ⟨c, r, ks, hg, hy, step _ _ _ h⟩)
theorem anyX_of {l1 l2 : List Oper} {tm : Tm} {σ : Store} (hb : ∀ i oi, ops[i]? = some oi → i ≠ p → ∀ listed tm σ r, Closed ops listed → p ∈ Region.ready .any ops listed → listed.getD i true = false → H (tm.putO oi.dst r) σ → H tm σ)
  (h1 : l1.length = p) (hl1 : ∀ j, j < l1.length → l1[j]? = ops[0 + j]?) (hl2 : ∀ j, j < l2.length → l2[j]? = ops[p + 1 + j]?)
  (h : adops P v ops (fun acc tm σ => adops P v ops (fun acc tm σ => okX ops p l2.length acc = true ∧ H tm σ) (p + 1) l2 tm σ (⟨[], []⟩ :: acc)) 0 l1 tm σ []) : ∃ F, anyX P v ops F p H (p + l2.length) (Array.replicate ops.size false) tm σ := by
 have h' := wZ (fun a t s hi => bJ _ _ _ _ _ hi) _ _ _ _ _ h
 obtain ⟨acc0, h2⟩ := fY _ _ _ _ _ h'
 have hok : okX ops p l2.length acc0 = true := by
  obtain ⟨a, t, s, hi⟩ := xS _ _ _ _ _ h2
  obtain ⟨a', t', s', e, hk, _⟩ := xS _ _ _ _ _ hi
  rw [← e]; exact hk
 have hok' := hok
 unfold okX at hok'
 simp only [Bool.and_eq_true, decide_eq_true_eq] at hok'
 obtain ⟨⟨⟨hws, hx1⟩, hx2⟩, hrd⟩ := hok'
 have hws' : ∀ f ∈ acc0, f.ws = [] := fun f hf => by
  have := List.all_eq_true.1 hws f hf
  simpa using this
 have hF : ∀ i f, acc0.reverse[i]? = some f → footsOf acc0.reverse i = f := fun i f hf => by
  simp [footsOf, List.getD_eq_getElem?_getD, hf]
 refine ⟨footsOf acc0.reverse, ?_⟩
 have key := kT (F := footsOf acc0.reverse) (m := l2.length) (v := v) (P := P) (H := H) hb l1 0 (Array.replicate ops.size false) tm σ [] (fun j hj => by omega) (closed_none ops) hl1 rfl (by rw [h1]; exact hx1) (wZ (fun a t s hi => ?_) _ _ _ _ _ (eP _ _ _ _ _ h2))
 ·rw [h1] at key; exact key
 ·obtain ⟨hi, _, hlen⟩ := hi
  have hlen : a.length = p := by rw [hlen, h1]; simp
  obtain ⟨a', t', s', ⟨e, _, _⟩, ⟨m', hm⟩, _⟩ := xS _ _ _ _ _ (eP _ _ _ _ _ hi)
  subst e
  have hpre : ∀ i f, a.reverse[i]? = some f → a'.reverse[i]? = some f := fun i f hf => by
   have hlt := (List.getElem?_eq_some_iff.1 hf).1
   rw [hm, List.reverse_append, List.reverse_cons, List.append_assoc, List.getElem?_append_left hlt]
   exact hf
  refine ⟨fun i f hf => hF i f (hpre i f hf), fun f hf => hws' f (by rw [hm]; simp [hf]), fun hcl => ?_⟩
  rw [h1] at hcl ⊢
  have k2 := kT (F := footsOf a'.reverse) (m := 0) (v := v) (P := P) (H := H) hb l2 (p + 1) (lstTo (Array.replicate ops.size false) 0 p) t s (⟨[], []⟩ :: a) (fun j hj => by omega) hcl hl2 (by simp [hlen]) hx2 (wZ (fun b t s hb' => ?_) _ _ _ _ _ hi)
  ·exact k2
  ·obtain ⟨e, _, hH⟩ := hb'
   subst e
   exact ⟨hF, hws', fun _ => ⟨hrd, hH⟩⟩
theorem zF {n m : Nat} {C0 : Cx} {ro : Option Nat} {Q' : Exit → Act → World → Prop} (hn : dstsLt n ops.toList = true) (hp : ∀ (m : Nat) (listed : Array Bool) (C : Cx) (G : Gh) (tm : Tm) (σ : Store) (a : Act) (w : World), C0.le C → C.ro = ro → C.Γ.N ≤ v → SRel n C G tm σ a w → H tm σ → wpOpIn (wideR ro) 0 P ops Q' p (wpAnyIn (wideR ro) 0 P .any ops Q' m (listed.setIfInBounds p true)) a w) :
  ∀ (fuel : Nat) (listed : Array Bool) (C : Cx) (G : Gh) (tm : Tm) (σ : Store) (a : Act) (w : World), C0.le C → C.ro = ro → C.Γ.N ≤ v → (∀ k i, listed.getD i true = false → G.μ k (v, i) = none) → SRel n C G tm σ a w → anyX P v ops F p H fuel listed tm σ → wpAnyIn (wideR ro) 0 P .any ops Q' (fuel + (m + 1)) listed a w
 | 0, listed, C, G, tm, σ, a, w, hC, hro, hN, hf, hs, h => by
  rw [Nat.zero_add]
  refine ⟨fun h0 => (by rw [h.1] at h0; cases h0), fun i hi => ?_⟩
  rw [h.1] at hi
  simp only [List.mem_singleton] at hi
  subst hi
  exact hp m listed C G tm σ a w hC hro hN hs h.2
 | fuel + 1, listed, C, G, tm, σ, a, w, hC, hro, hN, hf, hs, h => by
  rw [Nat.succ_add]
  refine ⟨fun h0 => (h.1 h0).elim, fun i hi => ?_⟩
  by_cases hip : i = p
  ·subst hip
   exact hp _ listed C G tm σ a w hC hro hN hs (h.2.1 hi)
  have hst := h.2.2 i hi hip
  have hun := (mem_ready.1 hi).1
  have later : ∀ (G' : Gh), (∀ k v' i', v' ≤ v → (v' = v → i' ≠ i) → G'.μ k (v', i') = G.μ k (v', i')) → ∀ k i', (listed.setIfInBounds i true).getD i' true = false → G'.μ k (v, i') = none := fun G' hG k i' hi' => by
   by_cases e : i = i'
   ·subst e
    rcases Nat.lt_or_ge i listed.size with h' | h'
    ·simp [h'] at hi'
    ·simp [Array.getElem?_eq_none h'] at hun
   ·rw [getD_set_ne true e] at hi'
    rw [hG k v i' (Nat.le_refl _) (fun _ => Ne.symm e)]
    exact hf k i' hi'
  unfold stepA at hst
  unfold wpOpIn
  cases ho : ops[i]? with
  | none =>
   rw [ho] at hst
   exact zF hn hp fuel _ C G tm σ a w hC hro hN (later G fun _ _ _ _ _ => rfl) hs hst
  | some o =>
   rw [ho] at hst
   obtain ⟨r, δ, hy, hK⟩ := hst
   have hd := wV hn (o := o) (by simpa using Array.mem_of_getElem? ho)
   rcases hy with ⟨hw, ks, h2, h3⟩ | ⟨hw, h2, rfl, rfl⟩ | ⟨c, r0, ks, hw, h2, h3, rfl, rfl⟩
   ·simp only [zZ hw hs.tm, if_true]
    refine h3.ok (K := fun r' σ' => r' = r ∧ σ' = σ.apply δ) ⟨rfl, rfl⟩ n C G a w ro _ Q' hd hro hN (fun k => hf k i hun) hs fun C' G' tm1 σ' a' w' g0 g1 g2 g3 g4 => ?_
    obtain ⟨r', rfl, rfl, rfl⟩ := g4
    exact zF hn hp fuel _ C' G' _ _ a' w' (hC.trans g0) (g0.ro.trans hro) (by rw [g0.N]; exact hN) (later G' g2) g3 hK
   ·simp only [zZ hw hs.tm, Bool.false_eq_true, if_false]
    exact ⟨fun _ _ => trivial, zF hn hp fuel _ C G _ _ _ w hC hro hN (later G fun _ _ _ _ _ => rfl) ⟨by rw [Act.put_size, hs.size], by rw [Act.put_defers, hs.defers], hs.tm.put (mR G) o.dst (by rw [hs.size]; exact fun d e => (hd d e).1), hs.w, hs.fix, hs.marks, fun i Y hi => hs.gh i Y ((yD hd _).symm.trans hi)⟩ hK⟩
   ·simp only [kA hw hs.tm]
    cases c with
    | true =>
     simp only [if_true]
     refine (h3 rfl).ok (K := fun r' σ' => r' = r0 ∧ σ' = σ) ⟨rfl, rfl⟩ n C G a w ro _ Q' hd hro hN (fun k => hf k i hun) hs fun C' G' tm1 σ' a' w' g0 g1 g2 g3 g4 => ?_
     obtain ⟨r', rfl, rfl, rfl⟩ := g4
     refine zF hn hp fuel _ C' G' _ _ a' w' (hC.trans g0) (g0.ro.trans hro) (by rw [g0.N]; exact hN) (later G' g2) ⟨g3.size, g3.defers, ?_, g3.w, g3.fix, g3.marks, fun i Y hi => g3.gh i Y ((yD hd _).trans ((yD hd _).symm.trans hi))⟩ hK
     intro t y hy
     cases hdst : o.dst with
     | none =>
      rw [hdst] at hy
      have h5 := g3.tm t y
      rw [hdst] at h5
      exact h5 hy
     | some d =>
      rw [hdst] at hy
      simp only [Tm.putO] at hy
      by_cases e : t = d
      ·subst e
       rw [Tm.put_self] at hy
       cases hy
       have hlt : t < a'.tmps.size := by rw [g3.size]; exact (hd t hdst).1
       refine Or.inr ⟨a'.tmps[t], Array.getElem?_eq_getElem hlt, ?_⟩
       have h6 := g3.tm.val (t := t) (y := r') (by rw [hdst]; exact Tm.put_self _ _ _)
       rw [Array.getD_eq_getD_getElem?, Array.getElem?_eq_getElem hlt] at h6
       rw [RepO]; exact ⟨fun _ => h6, (fun e => by cases e)⟩
      ·rw [Tm.put_ne _ _ e] at hy
       exact g3.tm t y (by rw [hdst]; exact (Tm.put_ne _ _ e).trans hy)
    | false =>
     simp only [Bool.false_eq_true, if_false]
     exact ⟨fun _ _ => trivial, zF hn hp fuel _ C G _ _ _ w hC hro hN (later G fun _ _ _ _ _ => rfl) ⟨by rw [Act.put_size, hs.size], by rw [Act.put_defers, hs.defers], hs.tm.put (by rw [RepO]; exact ⟨(fun e => by cases e), fun _ => rfl⟩) o.dst (by rw [hs.size]; exact fun d e => (hd d e).1), hs.w, hs.fix, hs.marks, fun i Y hi => hs.gh i Y ((yD hd _).symm.trans hi)⟩ hK⟩
end
variable {P : Program} {tm : Tm} {σ : Store} {x : Operand} {xs : List Operand} {tys : Array TypeId} {ty : TypeId} {pos : String} {af : Array Edge} {ch : List PanicEntry} {Q : Exit → Tm → Store → Prop} {next : Act → World → Prop} {r : OV} {Rr K : OV → Store → Prop} {Rp : List PanicEntry → Store → Prop} {y : Value} {w : Bt} {W : List Bt}
theorem pan_wp {n v : Nat} {C0 C : Cx} {G : Gh} {a : Act} {w : World} {ro : Option Nat} {dst : Option Tmp} (hC : C0.le C) (hro : C.ro = ro) (hN : C.Γ.N ≤ v) (hs : SRel n C G tm σ a w) (hp : PanK P ch Q x xs tm σ) :
  (⟨dst, .call { callee := .value x, args := xs.toArray, argTypes := tys }, ty, pos, af, none⟩ : Oper).wpIn (wideR ro) 0 P a w next (Lift n C0 Q) := by
 obtain ⟨y, f, fi, ca, ys, l0, R1, hx, hfn, ha, hc, hle, hnd, hQ⟩ := hp
 obtain ⟨vs, us, h1, h2, h3⟩ := hfn.rep (yG hs.tm hx)
 have h4 := bW ha fun z _ y hy => yG hs.tm hy
 have h5 := hc.2 G w (vs.toList ++ xs.map a.eval ++ us.toList) (v + 1) ((h2.append h4).append h3) (hs.w.startW hle (v + 1))
 have e : (vs.toList ++ xs.map a.eval ++ us.toList).toArray = vs ++ (xs.map a.eval).toArray ++ us := by simp
 rw [e] at h5
 unfold Oper.wpIn
 refine ⟨fun _ _ => trivial, ?_⟩
 rw [show (wideR ro).round = ro from rfl, Oper.semAt_eq ro a.eval _ (fun c hc => by cases hc), fC h1 hc.1]
 simp only [Oper.uponIn]
 refine ⟨fun e => (by cases e), ?_⟩
 refine (show CallsIn (wideR ro) (0 - 1) P f _ w _ from callsIn_wide.2 (h5.mono fun e w2 ⟨he, l1, hl1, G2, σ2, g1, g2, g3⟩ => ?_))
 subst he
 have hst := hs.w.startW hle (v + 1)
 refine ⟨C, G2, tm, (σ.apply (dels l0)).apply (outD l1), hC, ⟨hs.size, hs.defers, hs.tm.mono g2, hs.w.backX hle g3 (Nat.le_succ_of_le hN) (fun k τ r hr => eJ (hnd l1 hl1) g1 hr), fun b o hb => ?_, hs.marks, fun i Y hi => ?_⟩, hQ l1 hl1⟩
 ·obtain ⟨e1, e2⟩ := hs.fix b o hb
  exact ⟨(g3.keep b (Array.getElem?_eq_some_iff.1 e1).1 (hs.fix.not_own hst hb)).trans e1, e2⟩
 ·obtain ⟨e1, e2, e3, e4⟩ := hs.gh i Y hi
  refine ⟨Y.st i _ _ e1 fun b hb => ?_, e2.trans g2, e3, e4⟩
  obtain ⟨o, f1, f2⟩ := Y.nc i _ b e1 hb
  refine g3.keep b (Array.getElem?_eq_some_iff.1 f1).1 fun ⟨k, τ, r, β, q1, q2, q3⟩ => ?_
  obtain ⟨cs, f4, _⟩ := hst.blk q1 q2
  rw [q3, f1] at f4
  cases f4; cases f2
def tmpOf : Operand → List Nat
 | .tmp t => [t]
 | _ => []
theorem tS {d : Nat} (h : d ∉ tmpOf x) : ev (tm.put d r) x = ev tm x := by
 cases x with
 | tmp t => exact Tm.put_ne _ _ fun e => h (by simp [tmpOf, e])
 | _ => rfl
theorem sB {tm : Tm} {d : Nat} {r : OV} : ∀ {xs : List Operand}, d ∉ xs.flatMap tmpOf → evs (tm.put d r) xs = evs tm xs
 | [], _ => rfl
 | x :: xs, h => by
  simp only [List.flatMap_cons, List.mem_append, not_or] at h
  unfold evs
  rw [tS h.1, sB h.2]
theorem PanK.off {d : Nat} {T : List Nat} (hT : ∀ t ∈ (x :: xs).flatMap tmpOf, t ∈ T) (hd : d ∉ T) (hQ : ∀ d r tm σ, d ∉ T → Q (.panic ch) (tm.put d r) σ → Q (.panic ch) tm σ) (h : PanK P ch Q x xs (tm.put d r) σ) : PanK P ch Q x xs tm σ := by
 obtain ⟨y, f, fi, ca, ys, l0, R1, hx, hfn, ha, hc, hle, hnd, hq⟩ := h
 have h0 : d ∉ (x :: xs).flatMap tmpOf := fun hm => hd (hT d hm)
 simp only [List.flatMap_cons, List.mem_append, not_or] at h0
 rw [tS h0.1] at hx
 rw [sB h0.2] at ha
 exact ⟨y, f, fi, ca, ys, l0, R1, hx, hfn, ha, hc, hle, hnd, fun l1 hl => hQ d r tm _ hd (hq l1 hl)⟩
def ckT (ops : Array Oper) (p : Nat) (T : List Nat) : Bool := (List.range ops.size).all fun i => Nat.beq i p || depsC ops ops.size p i || match ops[i]? with
 | some o => match o.dst with
  | some d => !T.contains d
  | none => true
 | none => true
theorem ckT_spec {ops : Array Oper} {p : Nat} {T : List Nat} (h : ckT ops p T = true) {i : Nat} {oi : Oper} (hi : ops[i]? = some oi) (hip : i ≠ p) {listed : Array Bool} (hcl : Closed ops listed) (hp : p ∈ Region.ready .any ops listed) (hun : listed.getD i true = false) : ∀ d, oi.dst = some d → d ∉ T := fun d hd hT => by
 have h1 := List.all_eq_true.1 h i (List.mem_range.2 (Array.getElem?_eq_some_iff.1 hi).1)
 rw [cH hip, hi] at h1
 simp only [Bool.false_or, Bool.or_eq_true] at h1
 rcases h1 with h1 | h1
 ·exact dep_not_ready hcl h1 hun hp
 ·rw [hd] at h1
  simp [hT] at h1
def PanX (P : Program) (v : Nat) (ops : Array Oper) (p m : Nat) (l2 : List Oper) (H : Tm → Store → Prop) (acc : List Foot) (tm : Tm) (σ : Store) : Prop :=
 DO P v ops (fun acc tm σ => okX ops p m acc = true ∧ H tm σ) (p + 1) l2 tm σ (⟨[], []⟩ :: acc)
theorem zD {E : Env} {n id : Nat} {l : List Oper} (p m : Nat) (T : List Nat) {dst : Option Tmp} (hn : dstsLt n l = true) (ho : l[p]? = some ⟨dst, .call { callee := .value x, args := xs.toArray, argTypes := tys }, ty, pos, af, none⟩) (hT : ((x :: xs).flatMap tmpOf).all (fun t => T.contains t) = true) (hc : ckT l.toArray p T = true) (hm : Nat.ble (p + 1 + m) l.length = true) (hQ : ∀ d r tm σ, d ∉ T → Q (.panic ch) (tm.put d r) σ → Q (.panic ch) tm σ) (h : ∀ v, DO E.P v l.toArray (PanX E.P v l.toArray p m ((l.drop (p + 1)).take m) (PanK E.P ch Q x xs)) 0 (l.take p) tm σ []) : awp E.P n (.region id l.toArray true) Q tm σ := fun C ro G a w hro hs => by
 obtain ⟨v, hv, hf⟩ := hs.w.free
 have hm' := Nat.le_of_ble_eq_true hm
 have hoA : l.toArray[p]? = some ⟨dst, .call { callee := .value x, args := xs.toArray, argTypes := tys }, ty, pos, af, none⟩ := by simpa using ho
 have hsz : l.toArray.size = l.length := by simp
 refine wpIn_region_any E.mixed ?_
 have hT' : ∀ t ∈ (x :: xs).flatMap tmpOf, t ∈ T := fun t ht => by simpa using List.all_eq_true.1 hT t ht
 have hl2 : ((l.drop (p + 1)).take m).length = m := by simp; omega
 have hh := wZ (fun a t s (hi : PanX E.P v l.toArray p m ((l.drop (p + 1)).take m) (PanK E.P ch Q x xs) a t s) => hi.out) _ _ _ _ _ (h v).out
 obtain ⟨F, hA⟩ := anyX_of (P := E.P) (v := v) (ops := l.toArray) (p := p) (H := PanK E.P ch Q x xs) (l1 := l.take p) (l2 := (l.drop (p + 1)).take m) (tm := tm) (σ := σ) (fun i oi hi hip listed tm σ r hcl hp hun hH => by
   have hd := ckT_spec hc hi hip hcl hp hun
   cases e : oi.dst with
   | none => rw [e] at hH; exact hH
   | some d => rw [e] at hH; exact PanK.off hT' (hd d e) hQ hH) (by simp; omega) (fun j hj => by
   have : j < p := by simp at hj; omega
   rw [List.getElem?_take_of_lt this]; simp) (fun j hj => by
   rw [hl2] at hj
   rw [List.getElem?_take_of_lt hj, List.getElem?_drop]; simp) (by rw [hl2]; exact hh)
 rw [hl2] at hA
 have hlen : l.toArray.size = p + m + ((l.length - p - m - 1) + 1) := by rw [hsz]; omega
 have key := zF (C0 := C) (ro := ro) (m := l.length - p - m - 1) (n := n) (Q' := Lift n C Q) (by simpa using hn) (fun m listed C1 G1 tm1 σ1 a1 w1 hC1 hro1 hN1 hs1 hH => by
  unfold wpOpIn
  have haw : awant l.toArray tm1 ⟨dst, .call { callee := .value x, args := xs.toArray, argTypes := tys }, ty, pos, af, none⟩ = some true := rfl
  simp only [hoA, zZ haw hs1.tm, if_true]
  exact pan_wp hC1 hro1 hN1 hs1 hH) _ _ C G tm σ a { w with drawn := w.drawn + 1 } (.refl C) hro hv (fun k i _ => hf k i) ⟨hs.size, hs.defers, hs.tm, hs.w.drawn _, hs.fix, hs.marks, fun i Y hi => ⟨Y.st i _ _ (hs.gh i Y hi).1 fun _ _ => rfl, (hs.gh i Y hi).2⟩⟩ hA
 rw [← hlen] at key
 exact key
section
variable {P : Program} {v j p m : Nat} {ops : Array Oper} {H : Tm → Store → Prop} {l2 : List Oper} {acc : List Foot} {tm : Tm} {σ : Store}
theorem bS (h : DO P v ops (fun acc tm σ => okX ops p m acc = true ∧ H tm σ) (p + 1) l2 tm σ (⟨[], []⟩ :: acc)) : DO P v ops (PanX P v ops p m l2 H) j [] tm σ acc := ⟨h⟩
theorem bT (hB : okX ops p m acc = true) (h : H tm σ) : DO P v ops (fun acc tm σ => okX ops p m acc = true ∧ H tm σ) j [] tm σ acc := ⟨⟨hB, h⟩⟩
end
theorem cE {E : Env} {vs : List ResultVar} {tm' : Tm} (h : Fin0 E vs Rr Rp (.panic ch) tm σ) : Fin0 E vs Rr Rp (.panic ch) tm' σ := by
 obtain ⟨u, hu, h⟩ := h
 cases hu
 exact ⟨_, rfl, h⟩
set_option maxRecDepth 100000
section
open Go.RowKit Go.Lib
set_option maxHeartbeats 1000000 in
theorem yN (n a b : Int) : Pure E.P 50 [.int .i64 n, .int .i64 a, .int .i64 b] (.bool (inR n a b)) := by
 refine fnA Tryz.func50 Tryz.ntmps50 ?_
 refine rZ ?_; refine aoR fun _ => ?_
 refine rZ ?_; refine aoR fun _ => ?_
 refine rZ ?_; rotate_left
 all_goals exact vX rfl rfl
set_option maxHeartbeats 1000000 in
theorem lO (s : Stp) : Pure E.P 51 [stOV s] (.bool s.acc) := by
 have f1 : Frozen 1 := ⟨trivial⟩
 have c1 := yN s.kind 1 4
 refine fnA Tryz.func51 Tryz.ntmps51 ?_
 refine rZ ?_; refine aoR fun _ => ?_
 refine rZ ?_; refine aoR fun _ => ?_
 refine rZ ?_
 apply uE; exact rfl; exact .fn _ _ _; exact rfl; exact c1
 refine rZ ?_; rotate_left
 all_goals exact vX rfl rfl
set_option maxHeartbeats 1000000 in
theorem cC (s : Stp) : Pure E.P 70 [stOV s] (.bool s.sts) := by
 have f1 : Frozen 1 := ⟨trivial⟩
 have c1 := yN s.kind 2 4
 refine fnA Tryz.func70 Tryz.ntmps70 ?_
 refine rZ ?_; refine aoR fun _ => ?_
 refine rZ ?_; refine aoR fun _ => ?_
 refine rZ ?_
 apply uE; exact rfl; exact .fn _ _ _; exact rfl; exact c1
 refine rZ ?_; rotate_left
 all_goals (refine vX rfl ?_; unfold Stp.sts Stp.acc inR; rw [Bool.eq_iff_iff]; simp; omega)
set_option maxHeartbeats 1000000 in
theorem eB (s : Stp) : Pure E.P 69 [stOV s] (.bool s.lds) := by
 have f1 : Frozen 1 := ⟨trivial⟩
 have c1 := lO s
 refine fnA Tryz.func69 Tryz.ntmps69 ?_
 refine rZ ?_; refine aoR fun _ => ?_
 refine rZ ?_; refine aoR fun _ => ?_
 refine rZ ?_
 apply uE; exact rfl; exact .fn _ _ _; exact rfl; exact c1
 refine rZ ?_; rotate_left
 all_goals exact vX rfl rfl
def ItoaP : Prop := ∀ n : Nat, n < 100 → Pure E.P 136 [.int .i64 n] (.bs (decDigits n))
def FmtP : Prop := ∀ n : Int, 0 ≤ n → n ≤ 18446744073709551615 → Pure E.P 127 [.int .u64 n, .int .i64 10] (.bs (decDigits n.toNat))
set_option maxHeartbeats 1000000 in
theorem aU (hI : ItoaP) {n : Int} (h : 1 ≤ n ∧ n ≤ 4) : Pure E.P 71 [.int .i64 n] (.bs (regW n)) := by
 rcases sQ h with rfl | rfl | rfl | rfl
 ·have c := hI 1 (by decide)
  rw [decDigits_one (by decide)] at c
  refine fnA Tryz.func71 Tryz.ntmps71 ?_
  refine rZ ?_; refine aoR fun _ => ?_
  refine rZ ?_; refine aoR fun _ => ?_
  refine rZ ?_
  apply uE; exact rfl; exact .fn _ _ _; exact rfl; exact c
  apply vF; exact rfl; exact rfl; (((simp only [List.length_append, List.length_cons, List.length_nil]); omega))
  refine rZ ?_; rotate_left
  all_goals exact wQ rfl rfl
 ·have c := hI 2 (by decide)
  rw [decDigits_one (by decide)] at c
  refine fnA Tryz.func71 Tryz.ntmps71 ?_
  refine rZ ?_; refine aoR fun _ => ?_
  refine rZ ?_; refine aoR fun _ => ?_
  refine rZ ?_
  apply uE; exact rfl; exact .fn _ _ _; exact rfl; exact c
  apply vF; exact rfl; exact rfl; (((simp only [List.length_append, List.length_cons, List.length_nil]); omega))
  refine rZ ?_; rotate_left
  all_goals exact wQ rfl rfl
 ·have c := hI 3 (by decide)
  rw [decDigits_one (by decide)] at c
  refine fnA Tryz.func71 Tryz.ntmps71 ?_
  refine rZ ?_; refine aoR fun _ => ?_
  refine rZ ?_; refine aoR fun _ => ?_
  refine rZ ?_
  apply uE; exact rfl; exact .fn _ _ _; exact rfl; exact c
  apply vF; exact rfl; exact rfl; (((simp only [List.length_append, List.length_cons, List.length_nil]); omega))
  refine rZ ?_; rotate_left
  all_goals exact wQ rfl rfl
 ·have c := hI 4 (by decide)
  rw [decDigits_one (by decide)] at c
  refine fnA Tryz.func71 Tryz.ntmps71 ?_
  refine rZ ?_; refine aoR fun _ => ?_
  refine rZ ?_; refine aoR fun _ => ?_
  refine rZ ?_
  apply uE; exact rfl; exact .fn _ _ _; exact rfl; exact c
  apply vF; exact rfl; exact rfl; (((simp only [List.length_append, List.length_cons, List.length_nil]); omega))
  refine rZ ?_; rotate_left
  all_goals exact wQ rfl rfl
set_option maxHeartbeats 1000000 in
theorem fD {n : Int} (h : 0 ≤ n ∧ n ≤ 3) : Pure E.P 72 [.int .i64 n] (.bs (nameW n)) := by
 rcases (by omega : n = 0 ∨ n = 1 ∨ n = 2 ∨ n = 3) with rfl | rfl | rfl | rfl
 ·refine fnA Tryz.func72 Tryz.ntmps72 ?_
  refine rZ ?_; refine aoR fun _ => ?_
  refine rZ ?_; refine aoR fun _ => ?_
  refine rZ ?_; rotate_left
  all_goals exact wQ rfl rfl
 ·refine fnA Tryz.func72 Tryz.ntmps72 ?_
  refine rZ ?_; refine aoR fun _ => ?_
  refine rZ ?_; refine aoR fun _ => ?_
  refine rZ ?_; rotate_left
  all_goals exact wQ rfl rfl
 ·refine fnA Tryz.func72 Tryz.ntmps72 ?_
  refine rZ ?_; refine aoR fun _ => ?_
  refine rZ ?_; refine aoR fun _ => ?_
  refine rZ ?_; rotate_left
  all_goals exact wQ rfl rfl
 ·refine fnA Tryz.func72 Tryz.ntmps72 ?_
  refine rZ ?_; refine aoR fun _ => ?_
  refine rZ ?_; refine aoR fun _ => ?_
  refine rZ ?_; rotate_left
  all_goals exact wQ rfl rfl
set_option maxHeartbeats 1000000 in
theorem qI {n : Int} (h : 0 ≤ n ∧ n ≤ 3) : Pure E.P 74 [.int .i64 n] (.bs (setW n)) := by
 rcases (by omega : n = 0 ∨ n = 1 ∨ n = 2 ∨ n = 3) with rfl | rfl | rfl | rfl
 ·refine fnA Tryz.func74 Tryz.ntmps74 ?_
  refine rZ ?_; refine aoR fun _ => ?_
  refine rZ ?_; refine aoR fun _ => ?_
  refine rZ ?_; rotate_left
  all_goals exact wQ rfl rfl
 ·refine fnA Tryz.func74 Tryz.ntmps74 ?_
  refine rZ ?_; refine aoR fun _ => ?_
  refine rZ ?_; refine aoR fun _ => ?_
  refine rZ ?_; rotate_left
  all_goals exact wQ rfl rfl
 ·refine fnA Tryz.func74 Tryz.ntmps74 ?_
  refine rZ ?_; refine aoR fun _ => ?_
  refine rZ ?_; refine aoR fun _ => ?_
  refine rZ ?_; rotate_left
  all_goals exact wQ rfl rfl
 ·refine fnA Tryz.func74 Tryz.ntmps74 ?_
  refine rZ ?_; refine aoR fun _ => ?_
  refine rZ ?_; refine aoR fun _ => ?_
  refine rZ ?_; rotate_left
  all_goals exact wQ rfl rfl
set_option maxHeartbeats 1000000 in
theorem jG (hI : ItoaP) (hF : FmtP) (s : Stp) (hd : 0 ≤ s.data ∧ s.data ≤ 4) (hn : s.n32) : Pure E.P 73 [stOV s] (.bs (valW s.data s.num)) := by
 have f1 : Frozen 1 := ⟨trivial⟩
 obtain ⟨n0, n1⟩ := hn
 by_cases h0 : 0 < s.data
 ·have c := aU hI (n := s.data) ⟨by omega, hd.2⟩
  rw [aY _ h0]
  refine fnA Tryz.func73 Tryz.ntmps73 ?_
  refine rZ ?_; refine aoR fun _ => ?_
  refine rZ ?_; refine aoR fun _ => ?_
  refine rZ ?_; refine cnd ?_ ?_
  refine uF fun _ => ?_; try omega
  refine rZ ?_; refine aoR fun _ => ?_
  refine rZ ?_
  apply uE; exact rfl; exact .fn _ _ _; exact rfl; exact c
  refine rZ ?_; rotate_left
  refine uG fun _ => ?_; try omega
  all_goals first | exact wQ rfl rfl | (exfalso; omega)
 ·have h1 : s.data = 0 := by omega
  have c := hF s.num n0 (by omega)
  rw [h1, aZ]
  refine fnA Tryz.func73 Tryz.ntmps73 ?_
  refine rZ ?_; refine aoR fun _ => ?_
  refine rZ ?_; refine aoR fun _ => ?_
  refine rZ ?_; refine cnd ?_ ?_
  refine uF fun _ => ?_; try omega
  refine uG fun _ => ?_; try omega
  refine rZ ?_; refine aoR fun _ => ?_
  refine rZ ?_
  apply S_convU; exact rfl; exact rfl; exact rfl; exact rfl; exact rfl; omega
  apply uE; exact rfl; exact .fn _ _ _; exact rfl; exact c
  refine rZ ?_; rotate_left
  all_goals first | exact wQ rfl rfl | (exfalso; omega)
def stT (k r v n d b : Int) (a l : Bool) (p q : Int) : List TV := [.c (.int .i64 k), .c (.int .i64 r), .c (.int .i64 v), .c (.int .u32 n), .c (.int .i64 d), .c (.int .i64 b), .c (.bool a), .c (.bool l), .c (.int .i64 p), .c (.int .i64 q)]
theorem aQ {t : Nat} {x y : Bt} (h : tm t = some (.bs x)) (e : x = y) : Done t (fun r' _ => r' = .bs y) .ret tm σ := wQ h (by rw [e])
set_option maxHeartbeats 4000000 in
theorem rline1_p (hI : ItoaP) (r v b : Int) (a l : Bool) (h1 : 1 ≤ r ∧ r ≤ 4) (h2 : 0 ≤ v ∧ v ≤ 3) (h3 : 0 ≤ b ∧ b ≤ 4) : Pure E.P 34 [.ag ((stT 1 r v 0 0 b a l 0 0).map .d)] (.bs (regW r ++ [32, 61, 32] ++ nameW v ++ sufB b a l)) := by
 have f1 : Frozen 1 := ⟨trivial⟩
 have lr := yP b
 have lg := yP r
 have lm := dG v
 have c1 := aU hI h1
 have c2 := fD h2
 refine fnA Tryz.func34 Tryz.ntmps34 ?_
 refine uR (X := Unit) (fun _ => tmL [(1, .d (.pt (stT 1 r v 0 0 b a l 0 0) 0))]) (fun _ => stL []) ?_ fun _ => ?_
 ·refine aoR fun _ => ?_
  refine rZ ?_; rotate_left
  exact wA () leP leP
 refine uR (X := Unit) (fun _ => tmL [(1, .d (.pt (stT 1 r v 0 0 b a l 0 0) 0)), (3, .bs [])]) (fun _ => stL []) ?_ fun _ => ?_
 ·refine aoR fun _ => ?_
  refine rZ ?_; rotate_left
  exact wA () leP leP
 refine uR (X := Unit) (fun _ => tmL [(1, .d (.pt (stT 1 r v 0 0 b a l 0 0) 0)), (3, .bs (regW r ++ [32, 61, 32] ++ nameW v))]) (fun _ => stL []) ?_ fun _ => ?_
 ·refine rZ ?_
  refine aoR fun _ => ?_; refine rZ ?_
  refine aoR fun _ => ?_; refine rZ ?_
  refine cnd ?_ ?_
  refine uF fun _ => ?_; try omega
  refine uJ (E := E) ?_ (fun _ => ?_); exact rfl
  refine rZ ?_
  apply vJ; exact rfl; exact .fn _ _ _; exact rfl; (exact c1)
  apply yX; exact rfl; exact rfl; (((simp only [List.length_append, List.length_cons, List.length_nil]); omega))
  refine rZ ?_
  apply vJ; exact rfl; exact .fn _ _ _; exact rfl; (exact c2)
  apply yX; exact rfl; exact rfl; (((simp only [List.length_append, List.length_cons, List.length_nil]); omega))
  refine rZ ?_; rotate_left
  refine uG fun _ => ?_; try omega
  all_goals exact wA () leP leP
 generalize hb : regW r ++ [32, 61, 32] ++ nameW v = base
 have hbl : base.length ≤ 60 := by rw [← hb]; simp only [List.length_append, List.length_cons, List.length_nil]; omega
 by_cases h0 : 0 < b
 ·have c1 := aU hI (n := b) ⟨by omega, h3.2⟩
  refine rZ ?_; refine aoR fun _ => ?_
  refine rZ ?_; refine cnd ?_ ?_
  refine uF fun _ => ?_; try omega
  refine aoR fun _ => ?_; refine rZ ?_
  apply vF; exact rfl; exact rfl; (((simp only [List.length_append, List.length_cons, List.length_nil]); omega))
  refine rZ ?_
  apply uE; exact rfl; exact .fn _ _ _; exact rfl; exact c1
  apply vF; exact rfl; exact rfl; (((simp only [List.length_append, List.length_cons, List.length_nil]); omega))
  refine rZ ?_; refine aoR fun _ => ?_
  refine rZ ?_; refine cnd ?_ ?_
  refine vV (fun _ => ?_)
  refine aoR fun _ => ?_; refine rZ ?_
  apply vF; exact rfl; exact rfl; (((simp only [List.length_append, List.length_cons, List.length_nil]); omega))
  refine rZ ?_; refine aoR fun _ => ?_
  refine rZ ?_; refine cnd ?_ ?_
  refine vV (fun _ => ?_)
  refine aoR fun _ => ?_; refine rZ ?_
  apply vF; exact rfl; exact rfl; (((simp only [List.length_append, List.length_cons, List.length_nil]); omega))
  refine rZ ?_; refine aoR fun _ => ?_
  refine rZ ?_; rotate_left
  refine vY (fun _ => ?_)
  refine rZ ?_; refine aoR fun _ => ?_
  refine rZ ?_; rotate_left
  refine vY (fun _ => ?_)
  refine rZ ?_; refine aoR fun _ => ?_
  refine rZ ?_; refine cnd ?_ ?_
  refine vV (fun _ => ?_)
  refine aoR fun _ => ?_; refine rZ ?_
  apply vF; exact rfl; exact rfl; (((simp only [List.length_append, List.length_cons, List.length_nil]); omega))
  refine rZ ?_; refine aoR fun _ => ?_
  refine rZ ?_; rotate_left
  refine vY (fun _ => ?_)
  refine rZ ?_; refine aoR fun _ => ?_
  refine rZ ?_; rotate_left
  refine uG fun _ => ?_; try omega
  all_goals first | (exfalso; omega) | (refine aQ rfl ?_; simp [sufB, h0, *])
 ·refine rZ ?_
  refine aoR fun _ => ?_; refine rZ ?_
  refine cnd ?_ ?_
  refine uF fun _ => ?_; try omega
  refine uG fun _ => ?_; try omega
  refine rZ ?_; refine aoR fun _ => ?_
  refine rZ ?_; refine cnd ?_ ?_
  refine vV (fun _ => ?_)
  refine aoR fun _ => ?_; refine rZ ?_
  apply vF; exact rfl; exact rfl; (((simp only [List.length_append, List.length_cons, List.length_nil]); omega))
  refine rZ ?_; refine aoR fun _ => ?_
  refine rZ ?_; refine cnd ?_ ?_
  refine vV (fun _ => ?_)
  refine aoR fun _ => ?_; refine rZ ?_
  apply vF; exact rfl; exact rfl; (((simp only [List.length_append, List.length_cons, List.length_nil]); omega))
  refine rZ ?_; refine aoR fun _ => ?_
  refine rZ ?_; rotate_left
  refine vY (fun _ => ?_)
  refine rZ ?_; refine aoR fun _ => ?_
  refine rZ ?_; rotate_left
  refine vY (fun _ => ?_)
  refine rZ ?_; refine aoR fun _ => ?_
  refine rZ ?_; refine cnd ?_ ?_
  refine vV (fun _ => ?_)
  refine aoR fun _ => ?_; refine rZ ?_
  apply vF; exact rfl; exact rfl; (((simp only [List.length_append, List.length_cons, List.length_nil]); omega))
  refine rZ ?_; refine aoR fun _ => ?_
  refine rZ ?_; rotate_left
  refine vY (fun _ => ?_)
  refine rZ ?_; refine aoR fun _ => ?_
  refine rZ ?_; rotate_left
  all_goals first | (exfalso; omega) | (refine aQ rfl ?_; simp [sufB, h0, *])
set_option maxHeartbeats 4000000 in
theorem rline2_p (hI : ItoaP) (hF : FmtP) (v n d b : Int) (a l : Bool) (h2 : 0 ≤ v ∧ v ≤ 3) (h3 : 0 ≤ b ∧ b ≤ 4) (h4 : 0 ≤ d ∧ d ≤ 4) (hn : 0 ≤ n ∧ n ≤ 4294967295) : Pure E.P 34 [.ag ((stT 2 0 v n d b a l 0 0).map .d)] (.bs (nameW v ++ [32, 61, 32] ++ valW d n ++ sufB b a l)) := by
 have f1 : Frozen 1 := ⟨trivial⟩
 have lr := yP b
 have lm := dG v
 have lv := iZ (d := d) hn
 have c1 := jG hI hF ⟨2, 0, v, n, d, b, a, l, 0, 0⟩ h4 hn
 have c2 := fD h2
 refine fnA Tryz.func34 Tryz.ntmps34 ?_
 refine uR (X := Unit) (fun _ => tmL [(1, .d (.pt (stT 2 0 v n d b a l 0 0) 0))]) (fun _ => stL []) ?_ fun _ => ?_
 ·refine aoR fun _ => ?_
  refine rZ ?_; rotate_left
  exact wA () leP leP
 refine uR (X := Unit) (fun _ => tmL [(1, .d (.pt (stT 2 0 v n d b a l 0 0) 0)), (3, .bs [])]) (fun _ => stL []) ?_ fun _ => ?_
 ·refine aoR fun _ => ?_
  refine rZ ?_; rotate_left
  exact wA () leP leP
 refine uR (X := Unit) (fun _ => tmL [(1, .d (.pt (stT 2 0 v n d b a l 0 0) 0)), (3, .bs (nameW v ++ [32, 61, 32] ++ valW d n))]) (fun _ => stL []) ?_ fun _ => ?_
 ·refine rZ ?_
  refine aoR fun _ => ?_; refine rZ ?_
  refine aoR fun _ => ?_; refine rZ ?_
  refine cnd ?_ ?_
  refine uF fun _ => ?_; try omega
  refine uG fun _ => ?_; try omega
  refine rZ ?_; refine aoR fun _ => ?_
  refine rZ ?_; refine cnd ?_ ?_
  refine uF fun _ => ?_; try omega
  refine uJ (E := E) ?_ (fun _ => ?_); exact rfl
  refine rZ ?_
  apply vJ; exact rfl; exact .fn _ _ _; exact rfl; (exact c2)
  apply yX; exact rfl; exact rfl; (((simp only [List.length_append, List.length_cons, List.length_nil]); omega))
  refine rZ ?_
  apply vJ; exact rfl; exact .fn _ _ _; exact rfl; (exact c1)
  apply yX; exact rfl; exact rfl; (((simp only [List.length_append, List.length_cons, List.length_nil]); omega))
  refine rZ ?_; rotate_left
  refine uG fun _ => ?_; try omega
  all_goals exact wA () leP leP
 generalize hb : nameW v ++ [32, 61, 32] ++ valW d n = base
 have hbl : base.length ≤ 60 := by rw [← hb]; simp only [List.length_append, List.length_cons, List.length_nil]; omega
 by_cases h0 : 0 < b
 ·have c1 := aU hI (n := b) ⟨by omega, h3.2⟩
  refine rZ ?_; refine aoR fun _ => ?_
  refine rZ ?_; refine cnd ?_ ?_
  refine uF fun _ => ?_; try omega
  refine aoR fun _ => ?_; refine rZ ?_
  apply vF; exact rfl; exact rfl; (((simp only [List.length_append, List.length_cons, List.length_nil]); omega))
  refine rZ ?_
  apply uE; exact rfl; exact .fn _ _ _; exact rfl; exact c1
  apply vF; exact rfl; exact rfl; (((simp only [List.length_append, List.length_cons, List.length_nil]); omega))
  refine rZ ?_; refine aoR fun _ => ?_
  refine rZ ?_; refine cnd ?_ ?_
  refine vV (fun _ => ?_)
  refine aoR fun _ => ?_; refine rZ ?_
  apply vF; exact rfl; exact rfl; (((simp only [List.length_append, List.length_cons, List.length_nil]); omega))
  refine rZ ?_; refine aoR fun _ => ?_
  refine rZ ?_; refine cnd ?_ ?_
  refine vV (fun _ => ?_)
  refine aoR fun _ => ?_; refine rZ ?_
  apply vF; exact rfl; exact rfl; (((simp only [List.length_append, List.length_cons, List.length_nil]); omega))
  refine rZ ?_; refine aoR fun _ => ?_
  refine rZ ?_; rotate_left
  refine vY (fun _ => ?_)
  refine rZ ?_; refine aoR fun _ => ?_
  refine rZ ?_; rotate_left
  refine vY (fun _ => ?_)
  refine rZ ?_; refine aoR fun _ => ?_
  refine rZ ?_; refine cnd ?_ ?_
  refine vV (fun _ => ?_)
  refine aoR fun _ => ?_; refine rZ ?_
  apply vF; exact rfl; exact rfl; (((simp only [List.length_append, List.length_cons, List.length_nil]); omega))
  refine rZ ?_; refine aoR fun _ => ?_
  refine rZ ?_; rotate_left
  refine vY (fun _ => ?_)
  refine rZ ?_; refine aoR fun _ => ?_
  refine rZ ?_; rotate_left
  refine uG fun _ => ?_; try omega
  all_goals first | (exfalso; omega) | (refine aQ rfl ?_; simp [sufB, h0, *])
 ·refine rZ ?_
  refine aoR fun _ => ?_; refine rZ ?_
  refine cnd ?_ ?_
  refine uF fun _ => ?_; try omega
  refine uG fun _ => ?_; try omega
  refine rZ ?_; refine aoR fun _ => ?_
  refine rZ ?_; refine cnd ?_ ?_
  refine vV (fun _ => ?_)
  refine aoR fun _ => ?_; refine rZ ?_
  apply vF; exact rfl; exact rfl; (((simp only [List.length_append, List.length_cons, List.length_nil]); omega))
  refine rZ ?_; refine aoR fun _ => ?_
  refine rZ ?_; refine cnd ?_ ?_
  refine vV (fun _ => ?_)
  refine aoR fun _ => ?_; refine rZ ?_
  apply vF; exact rfl; exact rfl; (((simp only [List.length_append, List.length_cons, List.length_nil]); omega))
  refine rZ ?_; refine aoR fun _ => ?_
  refine rZ ?_; rotate_left
  refine vY (fun _ => ?_)
  refine rZ ?_; refine aoR fun _ => ?_
  refine rZ ?_; rotate_left
  refine vY (fun _ => ?_)
  refine rZ ?_; refine aoR fun _ => ?_
  refine rZ ?_; refine cnd ?_ ?_
  refine vV (fun _ => ?_)
  refine aoR fun _ => ?_; refine rZ ?_
  apply vF; exact rfl; exact rfl; (((simp only [List.length_append, List.length_cons, List.length_nil]); omega))
  refine rZ ?_; refine aoR fun _ => ?_
  refine rZ ?_; rotate_left
  refine vY (fun _ => ?_)
  refine rZ ?_; refine aoR fun _ => ?_
  refine rZ ?_; rotate_left
  all_goals first | (exfalso; omega) | (refine aQ rfl ?_; simp [sufB, h0, *])
set_option maxHeartbeats 4000000 in
theorem rline3_p (hI : ItoaP) (hF : FmtP) (r v n d b : Int) (a l : Bool) (h1 : 1 ≤ r ∧ r ≤ 4) (h2 : 0 ≤ v ∧ v ≤ 3) (h3 : 0 ≤ b ∧ b ≤ 4) (h4 : 0 ≤ d ∧ d ≤ 4) (hn : 0 ≤ n ∧ n ≤ 4294967295) : Pure E.P 34 [.ag ((stT 3 r v n d b a l 0 0).map .d)] (.bs (regW r ++ [32, 61, 32, 115, 119, 97, 112, 32] ++ nameW v ++ [32] ++ valW d n ++ sufB b a l)) := by
 have f1 : Frozen 1 := ⟨trivial⟩
 have lr := yP b
 have lg := yP r
 have lm := dG v
 have lv := iZ (d := d) hn
 have c1 := jG hI hF ⟨3, r, v, n, d, b, a, l, 0, 0⟩ h4 hn
 have c2 := fD h2
 have c3 := aU hI h1
 refine fnA Tryz.func34 Tryz.ntmps34 ?_
 refine uR (X := Unit) (fun _ => tmL [(1, .d (.pt (stT 3 r v n d b a l 0 0) 0))]) (fun _ => stL []) ?_ fun _ => ?_
 ·refine aoR fun _ => ?_
  refine rZ ?_; rotate_left
  exact wA () leP leP
 refine uR (X := Unit) (fun _ => tmL [(1, .d (.pt (stT 3 r v n d b a l 0 0) 0)), (3, .bs [])]) (fun _ => stL []) ?_ fun _ => ?_
 ·refine aoR fun _ => ?_
  refine rZ ?_; rotate_left
  exact wA () leP leP
 refine uR (X := Unit) (fun _ => tmL [(1, .d (.pt (stT 3 r v n d b a l 0 0) 0)), (3, .bs (regW r ++ [32, 61, 32, 115, 119, 97, 112, 32] ++ nameW v ++ [32] ++ valW d n))]) (fun _ => stL []) ?_ fun _ => ?_
 ·refine rZ ?_
  refine aoR fun _ => ?_; refine rZ ?_
  refine aoR fun _ => ?_; refine rZ ?_
  refine cnd ?_ ?_
  refine uF fun _ => ?_; try omega
  refine uG fun _ => ?_; try omega
  refine rZ ?_; refine aoR fun _ => ?_
  refine rZ ?_; refine cnd ?_ ?_
  refine uF fun _ => ?_; try omega
  refine uG fun _ => ?_; try omega
  refine rZ ?_; refine aoR fun _ => ?_
  refine rZ ?_; refine cnd ?_ ?_
  refine uF fun _ => ?_; try omega
  refine uJ (E := E) ?_ (fun _ => ?_); exact rfl
  refine rZ ?_
  apply vJ; exact rfl; exact .fn _ _ _; exact rfl; (exact c3)
  apply yX; exact rfl; exact rfl; (((simp only [List.length_append, List.length_cons, List.length_nil]); omega))
  refine rZ ?_
  apply vJ; exact rfl; exact .fn _ _ _; exact rfl; (exact c2)
  iterate 2 (apply yX; exact rfl; exact rfl; (((simp only [List.length_append, List.length_cons, List.length_nil]); omega)))
  refine rZ ?_
  apply vJ; exact rfl; exact .fn _ _ _; exact rfl; (exact c1)
  apply yX; exact rfl; exact rfl; (((simp only [List.length_append, List.length_cons, List.length_nil]); omega))
  refine rZ ?_; rotate_left
  refine uG fun _ => ?_; try omega
  all_goals exact wA () leP leP
 generalize hb : regW r ++ [32, 61, 32, 115, 119, 97, 112, 32] ++ nameW v ++ [32] ++ valW d n = base
 have hbl : base.length ≤ 60 := by rw [← hb]; simp only [List.length_append, List.length_cons, List.length_nil]; omega
 by_cases h0 : 0 < b
 ·have c1 := aU hI (n := b) ⟨by omega, h3.2⟩
  refine rZ ?_; refine aoR fun _ => ?_
  refine rZ ?_; refine cnd ?_ ?_
  refine uF fun _ => ?_; try omega
  refine aoR fun _ => ?_; refine rZ ?_
  apply vF; exact rfl; exact rfl; (((simp only [List.length_append, List.length_cons, List.length_nil]); omega))
  refine rZ ?_
  apply uE; exact rfl; exact .fn _ _ _; exact rfl; exact c1
  apply vF; exact rfl; exact rfl; (((simp only [List.length_append, List.length_cons, List.length_nil]); omega))
  refine rZ ?_; refine aoR fun _ => ?_
  refine rZ ?_; refine cnd ?_ ?_
  refine vV (fun _ => ?_)
  refine aoR fun _ => ?_; refine rZ ?_
  apply vF; exact rfl; exact rfl; (((simp only [List.length_append, List.length_cons, List.length_nil]); omega))
  refine rZ ?_; refine aoR fun _ => ?_
  refine rZ ?_; refine cnd ?_ ?_
  refine vV (fun _ => ?_)
  refine aoR fun _ => ?_; refine rZ ?_
  apply vF; exact rfl; exact rfl; (((simp only [List.length_append, List.length_cons, List.length_nil]); omega))
  refine rZ ?_; refine aoR fun _ => ?_
  refine rZ ?_; rotate_left
  refine vY (fun _ => ?_)
  refine rZ ?_; refine aoR fun _ => ?_
  refine rZ ?_; rotate_left
  refine vY (fun _ => ?_)
  refine rZ ?_; refine aoR fun _ => ?_
  refine rZ ?_; refine cnd ?_ ?_
  refine vV (fun _ => ?_)
  refine aoR fun _ => ?_; refine rZ ?_
  apply vF; exact rfl; exact rfl; (((simp only [List.length_append, List.length_cons, List.length_nil]); omega))
  refine rZ ?_; refine aoR fun _ => ?_
  refine rZ ?_; rotate_left
  refine vY (fun _ => ?_)
  refine rZ ?_; refine aoR fun _ => ?_
  refine rZ ?_; rotate_left
  refine uG fun _ => ?_; try omega
  all_goals first | (exfalso; omega) | (refine aQ rfl ?_; simp [sufB, h0, *])
 ·refine rZ ?_
  refine aoR fun _ => ?_; refine rZ ?_
  refine cnd ?_ ?_
  refine uF fun _ => ?_; try omega
  refine uG fun _ => ?_; try omega
  refine rZ ?_; refine aoR fun _ => ?_
  refine rZ ?_; refine cnd ?_ ?_
  refine vV (fun _ => ?_)
  refine aoR fun _ => ?_; refine rZ ?_
  apply vF; exact rfl; exact rfl; (((simp only [List.length_append, List.length_cons, List.length_nil]); omega))
  refine rZ ?_; refine aoR fun _ => ?_
  refine rZ ?_; refine cnd ?_ ?_
  refine vV (fun _ => ?_)
  refine aoR fun _ => ?_; refine rZ ?_
  apply vF; exact rfl; exact rfl; (((simp only [List.length_append, List.length_cons, List.length_nil]); omega))
  refine rZ ?_; refine aoR fun _ => ?_
  refine rZ ?_; rotate_left
  refine vY (fun _ => ?_)
  refine rZ ?_; refine aoR fun _ => ?_
  refine rZ ?_; rotate_left
  refine vY (fun _ => ?_)
  refine rZ ?_; refine aoR fun _ => ?_
  refine rZ ?_; refine cnd ?_ ?_
  refine vV (fun _ => ?_)
  refine aoR fun _ => ?_; refine rZ ?_
  apply vF; exact rfl; exact rfl; (((simp only [List.length_append, List.length_cons, List.length_nil]); omega))
  refine rZ ?_; refine aoR fun _ => ?_
  refine rZ ?_; rotate_left
  refine vY (fun _ => ?_)
  refine rZ ?_; refine aoR fun _ => ?_
  refine rZ ?_; rotate_left
  all_goals first | (exfalso; omega) | (refine aQ rfl ?_; simp [sufB, h0, *])
set_option maxHeartbeats 4000000 in
theorem rline4_p (hI : ItoaP) (hF : FmtP) (r v n d b : Int) (a l : Bool) (h1 : 1 ≤ r ∧ r ≤ 4) (h2 : 0 ≤ v ∧ v ≤ 3) (h3 : 0 ≤ b ∧ b ≤ 4) (h4 : 0 ≤ d ∧ d ≤ 4) (hn : 0 ≤ n ∧ n ≤ 4294967295) : Pure E.P 34 [.ag ((stT 4 r v n d b a l 0 0).map .d)] (.bs (regW r ++ [32, 61, 32, 97, 100, 100, 32] ++ nameW v ++ [32] ++ valW d n ++ sufB b a l)) := by
 have f1 : Frozen 1 := ⟨trivial⟩
 have lr := yP b
 have lg := yP r
 have lm := dG v
 have lv := iZ (d := d) hn
 have c1 := jG hI hF ⟨4, r, v, n, d, b, a, l, 0, 0⟩ h4 hn
 have c2 := fD h2
 have c3 := aU hI h1
 refine fnA Tryz.func34 Tryz.ntmps34 ?_
 refine uR (X := Unit) (fun _ => tmL [(1, .d (.pt (stT 4 r v n d b a l 0 0) 0))]) (fun _ => stL []) ?_ fun _ => ?_
 ·refine aoR fun _ => ?_
  refine rZ ?_; rotate_left
  exact wA () leP leP
 refine uR (X := Unit) (fun _ => tmL [(1, .d (.pt (stT 4 r v n d b a l 0 0) 0)), (3, .bs [])]) (fun _ => stL []) ?_ fun _ => ?_
 ·refine aoR fun _ => ?_
  refine rZ ?_; rotate_left
  exact wA () leP leP
 refine uR (X := Unit) (fun _ => tmL [(1, .d (.pt (stT 4 r v n d b a l 0 0) 0)), (3, .bs (regW r ++ [32, 61, 32, 97, 100, 100, 32] ++ nameW v ++ [32] ++ valW d n))]) (fun _ => stL []) ?_ fun _ => ?_
 ·refine rZ ?_
  refine aoR fun _ => ?_; refine rZ ?_
  refine aoR fun _ => ?_; refine rZ ?_
  refine cnd ?_ ?_
  refine uF fun _ => ?_; try omega
  refine uG fun _ => ?_; try omega
  refine rZ ?_; refine aoR fun _ => ?_
  refine rZ ?_; refine cnd ?_ ?_
  refine uF fun _ => ?_; try omega
  refine uG fun _ => ?_; try omega
  refine rZ ?_; refine aoR fun _ => ?_
  refine rZ ?_; refine cnd ?_ ?_
  refine uF fun _ => ?_; try omega
  refine uG fun _ => ?_; try omega
  refine rZ ?_; refine aoR fun _ => ?_
  refine rZ ?_; refine cnd ?_ ?_
  refine uF fun _ => ?_; try omega
  refine uJ (E := E) ?_ (fun _ => ?_); exact rfl
  refine rZ ?_
  apply vJ; exact rfl; exact .fn _ _ _; exact rfl; (exact c3)
  apply yX; exact rfl; exact rfl; (((simp only [List.length_append, List.length_cons, List.length_nil]); omega))
  refine rZ ?_
  apply vJ; exact rfl; exact .fn _ _ _; exact rfl; (exact c2)
  iterate 2 (apply yX; exact rfl; exact rfl; (((simp only [List.length_append, List.length_cons, List.length_nil]); omega)))
  refine rZ ?_
  apply vJ; exact rfl; exact .fn _ _ _; exact rfl; (exact c1)
  apply yX; exact rfl; exact rfl; (((simp only [List.length_append, List.length_cons, List.length_nil]); omega))
  refine rZ ?_; rotate_left
  refine uG fun _ => ?_; try omega
  all_goals exact wA () leP leP
 generalize hb : regW r ++ [32, 61, 32, 97, 100, 100, 32] ++ nameW v ++ [32] ++ valW d n = base
 have hbl : base.length ≤ 60 := by rw [← hb]; simp only [List.length_append, List.length_cons, List.length_nil]; omega
 by_cases h0 : 0 < b
 ·have c1 := aU hI (n := b) ⟨by omega, h3.2⟩
  refine rZ ?_; refine aoR fun _ => ?_
  refine rZ ?_; refine cnd ?_ ?_
  refine uF fun _ => ?_; try omega
  refine aoR fun _ => ?_; refine rZ ?_
  apply vF; exact rfl; exact rfl; (((simp only [List.length_append, List.length_cons, List.length_nil]); omega))
  refine rZ ?_
  apply uE; exact rfl; exact .fn _ _ _; exact rfl; exact c1
  apply vF; exact rfl; exact rfl; (((simp only [List.length_append, List.length_cons, List.length_nil]); omega))
  refine rZ ?_; refine aoR fun _ => ?_
  refine rZ ?_; refine cnd ?_ ?_
  refine vV (fun _ => ?_)
  refine aoR fun _ => ?_; refine rZ ?_
  apply vF; exact rfl; exact rfl; (((simp only [List.length_append, List.length_cons, List.length_nil]); omega))
  refine rZ ?_; refine aoR fun _ => ?_
  refine rZ ?_; refine cnd ?_ ?_
  refine vV (fun _ => ?_)
  refine aoR fun _ => ?_; refine rZ ?_
  apply vF; exact rfl; exact rfl; (((simp only [List.length_append, List.length_cons, List.length_nil]); omega))
  refine rZ ?_; refine aoR fun _ => ?_
  refine rZ ?_; rotate_left
  refine vY (fun _ => ?_)
  refine rZ ?_; refine aoR fun _ => ?_
  refine rZ ?_; rotate_left
  refine vY (fun _ => ?_)
  refine rZ ?_; refine aoR fun _ => ?_
  refine rZ ?_; refine cnd ?_ ?_
  refine vV (fun _ => ?_)
  refine aoR fun _ => ?_; refine rZ ?_
  apply vF; exact rfl; exact rfl; (((simp only [List.length_append, List.length_cons, List.length_nil]); omega))
  refine rZ ?_; refine aoR fun _ => ?_
  refine rZ ?_; rotate_left
  refine vY (fun _ => ?_)
  refine rZ ?_; refine aoR fun _ => ?_
  refine rZ ?_; rotate_left
  refine uG fun _ => ?_; try omega
  all_goals first | (exfalso; omega) | (refine aQ rfl ?_; simp [sufB, h0, *])
 ·refine rZ ?_
  refine aoR fun _ => ?_; refine rZ ?_
  refine cnd ?_ ?_
  refine uF fun _ => ?_; try omega
  refine uG fun _ => ?_; try omega
  refine rZ ?_; refine aoR fun _ => ?_
  refine rZ ?_; refine cnd ?_ ?_
  refine vV (fun _ => ?_)
  refine aoR fun _ => ?_; refine rZ ?_
  apply vF; exact rfl; exact rfl; (((simp only [List.length_append, List.length_cons, List.length_nil]); omega))
  refine rZ ?_; refine aoR fun _ => ?_
  refine rZ ?_; refine cnd ?_ ?_
  refine vV (fun _ => ?_)
  refine aoR fun _ => ?_; refine rZ ?_
  apply vF; exact rfl; exact rfl; (((simp only [List.length_append, List.length_cons, List.length_nil]); omega))
  refine rZ ?_; refine aoR fun _ => ?_
  refine rZ ?_; rotate_left
  refine vY (fun _ => ?_)
  refine rZ ?_; refine aoR fun _ => ?_
  refine rZ ?_; rotate_left
  refine vY (fun _ => ?_)
  refine rZ ?_; refine aoR fun _ => ?_
  refine rZ ?_; refine cnd ?_ ?_
  refine vV (fun _ => ?_)
  refine aoR fun _ => ?_; refine rZ ?_
  apply vF; exact rfl; exact rfl; (((simp only [List.length_append, List.length_cons, List.length_nil]); omega))
  refine rZ ?_; refine aoR fun _ => ?_
  refine rZ ?_; rotate_left
  refine vY (fun _ => ?_)
  refine rZ ?_; refine aoR fun _ => ?_
  refine rZ ?_; rotate_left
  all_goals first | (exfalso; omega) | (refine aQ rfl ?_; simp [sufB, h0, *])
set_option maxHeartbeats 4000000 in
theorem rline5_p (p q : Int) (hp : 1 ≤ p ∧ p ≤ 3) (hq : 1 ≤ q ∧ q ≤ 3) : Pure E.P 34 [.ag ((fenceTV p q).map .d)] (.bs ([102, 101, 110, 99, 101, 32] ++ setW p ++ [32] ++ setW q)) := by
 have f1 : Frozen 1 := ⟨trivial⟩
 have c1 := qI (n := p) ⟨by omega, hp.2⟩
 have c2 := qI (n := q) ⟨by omega, hq.2⟩
 have l1 := oH p
 have l2 := oH q
 refine fnA Tryz.func34 Tryz.ntmps34 ?_
 refine rZ ?_; refine aoR fun _ => ?_
 refine rZ ?_; refine aoR fun _ => ?_
 refine rZ ?_; refine aoR fun _ => ?_
 refine rZ ?_; refine aoR fun _ => ?_
 refine rZ ?_; refine cnd ?_ ?_
 refine uF fun _ => ?_; try omega
 refine uG fun _ => ?_; try omega
 refine rZ ?_; refine aoR fun _ => ?_
 refine rZ ?_; refine cnd ?_ ?_
 refine uF fun _ => ?_; try omega
 refine uG fun _ => ?_; try omega
 refine rZ ?_; refine aoR fun _ => ?_
 refine rZ ?_; refine cnd ?_ ?_
 refine uF fun _ => ?_; try omega
 refine uG fun _ => ?_; try omega
 refine rZ ?_; refine aoR fun _ => ?_
 refine rZ ?_; refine cnd ?_ ?_
 refine uF fun _ => ?_; try omega
 refine uG fun _ => ?_; try omega
 refine rZ ?_; refine aoR fun _ => ?_
 refine rZ ?_; refine cnd ?_ ?_
 refine uF fun _ => ?_; try omega
 refine rZ ?_
 refine uJ (E := E) ?_ (fun _ => ?_); exact rfl
 refine rZ ?_
 apply vJ; exact rfl; exact .fn _ _ _; exact rfl; (exact c1)
 iterate 2 (apply yX; exact rfl; exact rfl; (((simp only [List.length_append, List.length_cons, List.length_nil]); omega)))
 refine rZ ?_
 apply vJ; exact rfl; exact .fn _ _ _; exact rfl; (exact c2)
 apply yX; exact rfl; exact rfl; (((simp only [List.length_append, List.length_cons, List.length_nil]); omega))
 refine rZ ?_; rotate_left
 refine uG fun _ => ?_; try omega
 all_goals exact wQ rfl rfl
set_option maxHeartbeats 4000000 in
theorem rline6_p (hI : ItoaP) (n : Int) (h : 1 ≤ n ∧ n ≤ 4) : Pure E.P 34 [.ag ((stT 6 n 0 0 0 0 false false 0 0).map .d)] (.bs ([105, 102, 32] ++ regW n)) := by
 have f1 : Frozen 1 := ⟨trivial⟩
 have c1 := aU hI h
 have l1 := yP n
 refine fnA Tryz.func34 Tryz.ntmps34 ?_
 refine rZ ?_; refine aoR fun _ => ?_
 refine rZ ?_; refine aoR fun _ => ?_
 refine rZ ?_; refine aoR fun _ => ?_
 refine rZ ?_; refine aoR fun _ => ?_
 refine rZ ?_; refine cnd ?_ ?_
 refine uF fun _ => ?_; try omega
 refine uG fun _ => ?_; try omega
 refine rZ ?_; refine aoR fun _ => ?_
 refine rZ ?_; refine cnd ?_ ?_
 refine uF fun _ => ?_; try omega
 refine uG fun _ => ?_; try omega
 refine rZ ?_; refine aoR fun _ => ?_
 refine rZ ?_; refine cnd ?_ ?_
 refine uF fun _ => ?_; try omega
 refine uG fun _ => ?_; try omega
 refine rZ ?_; refine aoR fun _ => ?_
 refine rZ ?_; refine cnd ?_ ?_
 refine uF fun _ => ?_; try omega
 refine uG fun _ => ?_; try omega
 refine rZ ?_; refine aoR fun _ => ?_
 refine rZ ?_; refine cnd ?_ ?_
 refine uF fun _ => ?_; try omega
 refine uG fun _ => ?_; try omega
 refine rZ ?_; refine aoR fun _ => ?_
 refine rZ ?_
 apply uE; exact rfl; exact .fn _ _ _; exact rfl; exact c1
 apply vF; exact rfl; exact rfl; (((simp only [List.length_append, List.length_cons, List.length_nil]); omega))
 refine rZ ?_; rotate_left
 all_goals exact wQ rfl rfl
theorem rline_p (hI : ItoaP) (hF : FmtP) (s : Stp) (hr : s.right = true) (hn : s.n32) : Pure E.P 34 [stOV s] (.bs (lineB s)) := by
 rw [line_eq hr]
 cases aB hr with
 | fence p q hp hq =>
  have := rline5_p p q hp hq
  rw [← List.append_nil ([102, 101, 110, 99, 101, 32] ++ setW p ++ [32] ++ setW q)] at this
  exact this
 | cond n h =>
  have := rline6_p hI n h
  rw [← List.append_nil ([105, 102, 32] ++ regW n)] at this
  exact this
 | load r v b a l h1 h2 h3 => exact rline1_p hI r v b a l h1 h2 h3
 | store v n d b a l h2 h3 h4 h5 => exact rline2_p hI hF v n d b a l h2 h3 h4 hn
 | both k r v n d b a l hk h1 h2 h3 h4 h5 =>
  rcases hk with rfl | rfl
  ·exact rline3_p hI hF r v n d b a l h1 h2 h3 h4 hn
  ·exact rline4_p hI hF r v n d b a l h1 h2 h3 h4 hn
end
set_option maxRecDepth 100000
section
open Go.RowKit Go.Lib
section
variable {P : Program} {v j : Nat} {tm : Tm} {σ : Store} {dst : Option Tmp} {ty : TypeId} {pos : String} {af : Array Edge} {gd : Option (Nat × Bool)}
theorem eqNI_ok {T T' : TypeId} (hT : P.underlying T = some (.interface (P.methodsAt T))) (hx : ev tm x = some (.d (.c .nilIface))) (hK : K (.bool true) σ) : OpOk P v j ⟨dst, .binOp .eql T x (.const .nilIface) T', ty, pos, af, gd⟩ tm σ K := fA (fun c h => by cases h) fun n C G a w hs => by
 have r1 := vA (yG hs.tm hx)
 have hg : (eqGuard .eql T x (.const .nilIface) .nilIface .nilIface).run P w = .ok () w := by cases x <;> rfl
 have hb : (binOp .eql T .nilIface .nilIface).run P w = .ok (.bool true) w := by
  show Sem.run P (do pure (Value.bool (← Op.equal T .nilIface .nilIface))) w = _
  simp [run_equal_nil_nil w T hT]
 have e : a.eval (.const .nilIface) = .nilIface := rfl
 refine ⟨.bool true, .bool true, ?_, wE rfl, hK⟩
 simp only [execOp, r1, e, Sem.run_bind, hg, hb, Sem.run_pure, Result.andThen_ok]
theorem eqHI_ok {T T' u : TypeId} (hT : P.underlying T = some (.interface (P.methodsAt T))) (hx : ev tm x = some (.d (.c (.iface u y)))) (hK : K (.bool false) σ) : OpOk P v j ⟨dst, .binOp .eql T x (.const .nilIface) T', ty, pos, af, gd⟩ tm σ K := fA (fun c h => by cases h) fun n C G a w hs => by
 have r1 := vA (yG hs.tm hx)
 have hb : (binOp .eql T (.iface u y) .nilIface).run P w = .ok (.bool false) w := by
  show Sem.run P (do pure (Value.bool (← Op.equal T (.iface u y) .nilIface))) w = _
  simp [run_equal_held_nil w T u y hT]
 have e : a.eval (.const .nilIface) = .nilIface := rfl
 refine ⟨.bool false, .bool false, ?_, wE rfl, hK⟩
 simp only [execOp, r1, e, Sem.run_bind, eqGuard_run w (a := .iface u y) (by simp) (by simp), hb, Sem.run_pure, Result.andThen_ok]
end
section
variable {P : Program} {v j : Nat} {ops : Array Oper} {Q : Tm → Store → Prop} {rest : List Oper} {tm : Tm} {σ : Store} {dst : Option Tmp} {ty : TypeId} {pos : String} {af : Array Edge}
theorem kX {T T' : TypeId} (hT : P.underlying T = some (.interface (P.methodsAt T))) (hx : ev tm x = some (.d (.c .nilIface))) (h : AO P v ops Q (j + 1) rest (tm.putO dst (.bool true)) σ) : AO P v ops Q j (⟨dst, .binOp .eql T x (.const .nilIface) T', ty, pos, af, none⟩ :: rest) tm σ := pX (eqNI_ok hT hx h)
theorem oA {T T' u : TypeId} (hT : P.underlying T = some (.interface (P.methodsAt T))) (hx : ev tm x = some (.d (.c (.iface u y)))) (h : AO P v ops Q (j + 1) rest (tm.putO dst (.bool false)) σ) : AO P v ops Q j (⟨dst, .binOp .eql T x (.const .nilIface) T', ty, pos, af, none⟩ :: rest) tm σ := pX (eqHI_ok hT hx h)
end
theorem eH : Tryz.prog.underlying 123 = some (.interface (Tryz.prog.methodsAt 123)) := by kernel_rfl
theorem gN : Tryz.prog.underlying 20 = some (.interface (Tryz.prog.methodsAt 20)) := by kernel_rfl
def stR (k r v n d b : Int) (a l : Bool) (p q : Int) : List OV := [.int .i64 k, .int .i64 r, .int .i64 v, .int .u32 n, .int .i64 d, .int .i64 b, .bool a, .bool l, .int .i64 p, .int .i64 q]
theorem nI : hasB w [114] = decide (w.head? = some 114) := by
 unfold hasB
 cases w with
 | nil => rfl
 | cons c w => simp
theorem numOf_y {u : Nat} (h : numOf w = some u) : parseUintB 32 w = .ok u ∧ decDigits u = w ∧ u ≤ 4294967295 := by
 have hs := jT h
 unfold numOf at h
 split at h
 ·cases h
 ·rename_i hne
  split at h
  ·rename_i u' hu
   split at h
   ·rename_i e
    cases h
    refine ⟨?_, e, hs.1⟩
    unfold parseUintB
    rw [if_neg hne]
    exact hu
   ·cases h
  ·cases h
theorem numOf_n (h : numOf w = none) : (∀ u, parseUintB 32 w ≠ .ok u) ∨ ∃ u, parseUintB 32 w = .ok u ∧ decDigits u ≠ w ∧ u ≤ 4294967295 := by
 cases e : parseUintB 32 w with
 | ok u =>
  refine Or.inr ⟨u, rfl, fun hd => ?_, parseUintB_le e⟩
  unfold parseUintB at e
  split at e
  ·cases e
  ·rename_i hne
   have e' : parseUintM 4294967295 0 w = .ok u := e
   unfold numOf at h
   rw [if_neg hne, e'] at h
   simp only [hd, if_true] at h
   cases h
 | range => exact Or.inl fun u h => by cases h
 | _ => exact Or.inl fun u h => by cases h
set_option maxHeartbeats 4000000 in
theorem gI {o : Int × Int} (hw : operOf w = some o) (hl : w.length ≤ 65536) (k r v b : Int) (a l : Bool) (p q : Int) (τ : Stamp) : FnW E.P 90 [.lo 2 τ 10 0 0, .bs w] (stL [(2, (τ, ⟨10, [stR k r v 0 0 b a l p q]⟩))]) (IsW (.tu []) (stL [(2, (τ, ⟨10, [stR k r v o.2 o.1 b a l p q]⟩))])) := by
 have c1 := tN w [114] (by omega) (by decide)
 rw [nI] at c1
 unfold operOf at hw
 by_cases h : w.head? = some 114
 ·rw [if_pos h] at hw
  obtain ⟨n, hn, rfl⟩ := Option.map_eq_some_iff.1 hw
  have c2 := eQ hn
  rw [decide_eq_true h] at c1
  refine xD Tryz.func90 (by decide) rfl Tryz.ntmps90 (Nat.le_of_ble_eq_true rfl) rfl ?_
  refine rZ ?_; refine aoR fun _ => ?_
  refine rZ ?_
  apply uE; exact rfl; exact .fn _ _ _; exact rfl; (exact c1)
  refine rZ ?_; refine cnd ?_ ?_; refine uH ?_; refine rZ ?_; refine aoR fun _ => ?_
  refine rZ ?_
  apply uE; exact rfl; exact .fn _ _ _; exact rfl; (exact c2)
  refine aI ?_ (by exact rfl) ?_; exact rfl
  refine rZ ?_; rotate_left
  exact uI
  all_goals exact ⟨rfl, leP⟩
 ·rw [if_neg h] at hw
  obtain ⟨u, hu, rfl⟩ := Option.map_eq_some_iff.1 hw
  obtain ⟨h1, h2, h3⟩ := numOf_y hu
  have c2 := uAU w u hl h1
  have c3 := tQ (u : Int) (by omega) (by omega)
  rw [decide_eq_false h] at c1
  refine xD Tryz.func90 (by decide) rfl Tryz.ntmps90 (Nat.le_of_ble_eq_true rfl) rfl ?_
  refine rZ ?_; refine aoR fun _ => ?_
  refine rZ ?_
  apply uE; exact rfl; exact .fn _ _ _; exact rfl; (exact c1)
  refine rZ ?_; refine cnd ?_ ?_
  exact vN
  refine uV ?_; refine rZ ?_; refine aoR fun _ => ?_
  refine rZ ?_
  apply uE; exact rfl; exact .fn _ _ _; exact rfl; (exact c2)
  refine rZ ?_; refine aoR fun _ => ?_
  refine rZ ?_
  apply kX; (exact eH); exact rfl
  refine rZ ?_
  apply spT; exact rfl
  intro hc_
  have hp_ := hc_; try simp only [nrm] at hp_
  apply uZ; exact evm; exact .fn _ _ _; exact wP; (exact c3)
  refine rZ ?_
  apply spT; exact rfl
  intro hc_
  have hp_ := hc_; try simp only [nrm] at hp_
  apply vC; exact evm; exact evm
  refine rZ ?_
  apply uE; exact rfl; exact .fn _ _ _; exact rfl; (exact aW (by simp [h2]))
  refine rZ ?_; refine aoR fun _ => ?_
  refine rZ ?_
  refine aI ?_ (by exact rfl) ?_; exact rfl
  refine rZ ?_; rotate_left
  all_goals exact ⟨rfl, leP⟩
set_option maxHeartbeats 4000000 in
theorem lT (hw : operOf w = none) (hl : w.length ≤ 65536) (k r v n d b : Int) (a l : Bool) (p q : Int) (τ : Stamp) : FnP E.P 90 [.lo 2 τ 10 0 0, .bs w] [(2, (τ, ⟨10, [stR k r v n d b a l p q]⟩))] failC (fun l1 => l1 = [(2, (τ, ⟨10, [stR k r v n d b a l p q]⟩))]) := by
 have c1 := tN w [114] (by omega) (by decide)
 rw [nI] at c1
 unfold operOf at hw
 by_cases h : w.head? = some 114
 ·rw [if_pos h, Option.map_eq_none_iff] at hw
  have c2 := kV hw
  rw [decide_eq_true h] at c1
  refine vO (args := [.lo 2 τ 10 0 0, .bs w]) Tryz.func90 (by decide) rfl Tryz.ntmps90 (Nat.le_of_ble_eq_true rfl) ?_
  refine wX (vs := []) rfl ?_
  refine rZ ?_ 2; refine aoR fun _ => ?_
  refine rZ ?_ 2
  apply uE; exact rfl; exact .fn _ _ _; exact rfl; exact c1
  refine rZ ?_ 2; rotate_left
  refine uA (eL rfl (uD ?_))
  refine (uN (ch := failC) 2 (by decide) rfl fun v => ?_)
  simp only [List.take_succ_cons, List.take_zero]
  refine rZ ?_; rotate_left
  refine wS (R1 := fun l1 => l1 = []) (l0 := []) rfl (.fn _ _ _) rfl ?_ (uS _) (fun l1 hl => ?_) (fun l1 hl => ?_)
  rotate_left 1
  (subst hl; exact List.nodup_nil)
  rotate_left 1
  exact c2
  subst hl
  exact ⟨.panicking failC, rfl, rfl, _, rfl, leP⟩
 ·rw [if_neg h, Option.map_eq_none_iff] at hw
  rw [decide_eq_false h] at c1
  rcases numOf_n hw with h2 | ⟨u, h1, h2, h3⟩
  ·have c2 := pu_no w hl h2
   refine vO (args := [.lo 2 τ 10 0 0, .bs w]) Tryz.func90 (by decide) rfl Tryz.ntmps90 (Nat.le_of_ble_eq_true rfl) ?_
   refine wX (vs := []) rfl ?_
   refine rZ ?_ 2; refine aoR fun _ => ?_
   refine rZ ?_ 2
   apply uE; exact rfl; exact .fn _ _ _; exact rfl; exact c1
   refine rZ ?_ 2; rotate_left
   refine uA ?_; refine cnd ?_ ?_
   exact vN
   refine uV ?_; refine rZ ?_ 2; rotate_left
   refine uA ?_; refine rZ ?_ 2; refine aoR fun _ => ?_
   refine rZ ?_ 2
   apply S_callX; exact rfl; exact .fn _ _ _; exact rfl; exact c2; exact uS _; (intro _; simp); (intro x _)
   refine rZ ?_ 2; rotate_left
   refine uA (uD ?_)
   refine (uN (ch := failC) 8 (by decide) rfl fun v => ?_)
   simp only [List.take_succ_cons, List.take_zero]
   refine rZ ?_
   apply oA; (exact eH); exact rfl
   refine rZ ?_; rotate_left
   refine wS (R1 := fun l1 => l1 = []) (l0 := []) rfl (.fn _ _ _) rfl ?_ (uS _) (fun l1 hl => ?_) (fun l1 hl => ?_)
   rotate_left 1
   (subst hl; exact List.nodup_nil)
   rotate_left 1
   exact oV
   subst hl
   exact ⟨.panicking failC, rfl, rfl, _, rfl, leP⟩
  ·have c2 := uAU w u hl h1
   have c3 := tQ (u : Int) (by omega) (by omega)
   refine vO (args := [.lo 2 τ 10 0 0, .bs w]) Tryz.func90 (by decide) rfl Tryz.ntmps90 (Nat.le_of_ble_eq_true rfl) ?_
   refine wX (vs := []) rfl ?_
   refine rZ ?_ 2; refine aoR fun _ => ?_
   refine rZ ?_ 2
   apply uE; exact rfl; exact .fn _ _ _; exact rfl; exact c1
   refine rZ ?_ 2; rotate_left
   refine uA ?_; refine cnd ?_ ?_
   exact vN
   refine uV ?_; refine rZ ?_ 2; rotate_left
   refine uA ?_; refine rZ ?_ 2; refine aoR fun _ => ?_
   refine rZ ?_ 2
   apply uE; exact rfl; exact .fn _ _ _; exact rfl; exact c2
   refine rZ ?_ 2; rotate_left
   refine uA (uD ?_)
   refine (uN (ch := failC) 8 (by decide) rfl fun v => ?_)
   simp only [List.take_succ_cons, List.take_zero]
   refine rZ ?_
   apply kX; (exact eH); exact rfl
   refine rZ ?_
   apply spT; exact rfl
   intro hc_
   have hp_ := hc_; try simp only [nrm] at hp_
   apply uZ; exact evm; exact .fn _ _ _; exact wP; exact c3
   refine rZ ?_
   apply spT; exact rfl
   intro hc_
   have hp_ := hc_; try simp only [nrm] at hp_
   apply vC; exact evm; exact evm
   refine rZ ?_; rotate_left
   refine wS (R1 := fun l1 => l1 = []) (l0 := []) rfl (.fn _ _ _) rfl ?_ (uS _) (fun l1 hl => ?_) (fun l1 hl => ?_)
   rotate_left 1
   (subst hl; exact List.nodup_nil)
   rotate_left 1
   exact aE (by simp [h2])
   subst hl
   exact ⟨.panicking failC, rfl, rfl, _, rfl, leP⟩
end
set_option maxRecDepth 100000
section
open Go.RowKit Go.Lib
theorem wY {t s : Nat} {rows rows' : List (List TV)} {rest : List (Nat × OV)} (h : tm t = some (.d (.sl s rows'))) (e : rows' = rows) (hr : (tmL rest).le tm) : (tmL ((t, .d (.sl s rows)) :: rest)).le tm := uL (by rw [h, e]) hr
def wsTV (W : List Bt) : TV := .sl 1 (W.map wTV)
def sfW (W : List Bt) : Nat → List Bt
 | 0 => W
 | 1 => (sufAq wAq W).2
 | _ => (sufAq wRl (sufAq wAq W).2).2
def sfA (W : List Bt) : Nat → Bool
 | 0 => false
 | _ => (sufAq wAq W).1
def sfR (W : List Bt) : Nat → Bool
 | 0 => false
 | 1 => false
 | _ => (sufAq wRl (sufAq wAq W).2).1
theorem cU (h : (0 : Int) < W.length) (h' : W.getD (Int.toNat 0) default = w) : sufAq w W = (true, W.drop 1) := by
 rcases W with _ | ⟨w0, W⟩
 ·simp at h
 ·show (if w0 = w then (true, W) else (false, w0 :: W)) = _
  rw [if_pos (show w0 = w from h')]; rfl
theorem eY (h : (W.length : Int) ≤ 0 ∨ ¬ W.getD (Int.toNat 0) default = w) : sufAq w W = (false, W) := by
 rcases W with _ | ⟨w0, W⟩
 ·rfl
 ·show (if w0 = w then (true, W) else (false, w0 :: W)) = _
  rw [if_neg]
  intro e
  rcases h with h | h
  ·simp at h; omega
  ·exact h e
theorem eV (W : List Bt) (n : Nat) (h : W.length ≤ n + 1) : List.take n (List.drop 1 (W.map wTV)) = (W.drop 1).map wTV := by
 rw [List.take_of_length_le (by simp; omega), List.map_drop]
set_option maxHeartbeats 4000000 in
theorem jB {x : Int × Bool × Bool} (hw : suffOf W = some x) (hl : W.length ≤ 65536) (k r v n d : Int) (p q : Int) (τ : Stamp) : FnW E.P 91 [.lo 2 τ 10 0 0, .d (wsTV W)] (stL [(2, (τ, ⟨10, [stR k r v n d 0 false false p q]⟩))]) (IsW (.tu []) (stL [(2, (τ, ⟨10, [stR k r v n d x.1 x.2.1 x.2.2 p q]⟩))])) := by
 unfold suffOf at hw
 obtain ⟨⟨b, W1⟩, hb, hw⟩ := Option.bind_eq_some_iff.1 hw
 dsimp only at hw
 refine xD Tryz.func91 (by decide) rfl Tryz.ntmps91 (Nat.le_of_ble_eq_true rfl) rfl ?_
 have h3 : sfW W1 2 = [] := by
  show (sufAq wRl (sufAq wAq W1).2).2 = []
  by_cases h : (sufAq wRl (sufAq wAq W1).2).2 = []
  ·exact h
  ·rw [if_neg h] at hw; cases hw
 have hx : x = (b, sfA W1 2, sfR W1 2) := by
  have h3' : (sufAq wRl (sufAq wAq W1).2).2 = [] := h3
  rw [if_pos h3'] at hw
  cases hw; rfl
 unfold wsTV
 refine uR (X := Unit) (fun _ => tmL [(0, .lo 2 τ 10 0 0), (1, .d (.sl 1 (W1.map wTV)))]) (fun _ => stL [(2, (τ, ⟨10, [stR k r v n d b false false p q]⟩))]) ?_ fun _ => ?_
 ·rcases W with _ | ⟨w0, _ | ⟨w1, W⟩⟩
  ·cases hb
   refine rZ ?_; refine aoR fun _ => ?_
   refine rZ ?_
   apply spT; exact rfl
   intro hc_
   have hp_ := hc_; try simp only [nrm] at hp_
   apply vC; exact evm; exact evm
   refine rZ ?_; refine cnd ?_ ?_; refine wT ?_
   iterate 2 refine uF fun _ => ?_; try omega
   refine uJ (E := E) ?_ (fun _ => ?_); exact rfl
   refine rZ ?_; rotate_left
   refine wU (fun hc_ => ?_); (try simp only [nrm] at hc_)
   refine rZ ?_; rotate_left
   all_goals first | exact wA () leP leP | (exfalso; simp at *; done)
  ·cases hb
   refine rZ ?_; refine aoR fun _ => ?_
   refine rZ ?_
   apply spT; exact rfl
   intro hc_
   have hp_ := hc_; try simp only [nrm] at hp_
   apply vC; exact evm; exact evm
   refine rZ ?_; refine cnd ?_ ?_; refine wT ?_
   iterate 2 refine uF fun _ => ?_; try omega
   refine uJ (E := E) ?_ (fun _ => ?_); exact rfl
   refine rZ ?_; rotate_left
   refine wU (fun hc_ => ?_); (try simp only [nrm] at hc_)
   refine rZ ?_; rotate_left
   all_goals first | exact wA () leP leP | (exfalso; simp at *; done)
  ·have hb : (if w0 = wBy then (regOf w1).map fun n => (n, W) else some (0, w0 :: w1 :: W)) = some (b, W1) := hb
   by_cases h0 : w0 = wBy
   ·rw [if_pos h0] at hb
    obtain ⟨m, hm, e⟩ := Option.map_eq_some_iff.1 hb
    cases e
    have c1 := eQ hm
    subst h0
    have hml : (List.map wTV (wBy :: w1 :: W1)).length = W1.length + 2 := by simp
    have hml' : (wBy :: w1 :: W1).length = W1.length + 2 := by simp
    have hg : (wBy :: w1 :: W1).getD (Int.toNat 0) default = [98, 121] := rfl
    refine rZ ?_; refine aoR fun _ => ?_
    refine rZ ?_
    apply spT; exact rfl
    intro hc_
    have hp_ := hc_; try simp only [nrm] at hp_
    apply vC; exact evm; exact evm
    refine rZ ?_; refine cnd ?_ ?_; refine wT ?_
    iterate 2 refine uF fun _ => ?_; try omega
    refine uJ (E := E) ?_ (fun _ => ?_); exact rfl
    refine rZ ?_
    apply vJ; exact rfl; exact .fn _ _ _; exact rfl; exact c1
    refine rZ ?_
    refine vI ?_ (by exact rfl) ?_; exact rfl
    refine rZ ?_; rotate_left
    refine wU (fun hc_ => ?_); (try simp only [nrm] at hc_)
    refine rZ ?_; rotate_left
    ·exact wA () (uL rfl (wY rfl (by simp; exact List.take_of_length_le (by simp)) (vW _))) leP
    all_goals (exfalso; rename_i hc_; rcases hc_ with hc_ | hc_; omega; exact hc_ hg)
   ·rw [if_neg h0] at hb
    cases hb
    have hg : ¬ (w0 :: w1 :: W).getD (Int.toNat 0) default = [98, 121] := h0
    refine rZ ?_; refine aoR fun _ => ?_
    refine rZ ?_
    apply spT; exact rfl
    intro hc_
    have hp_ := hc_; try simp only [nrm] at hp_
    apply vC; exact evm; exact evm
    refine rZ ?_; refine cnd ?_ ?_; refine wT ?_
    iterate 2 refine uF fun _ => ?_; try omega
    refine uJ (E := E) ?_ (fun _ => ?_); exact rfl
    refine rZ ?_; rotate_left
    refine wU (fun hc_ => ?_); (try simp only [nrm] at hc_)
    refine rZ ?_; rotate_left
    all_goals first | exact wA () leP leP | (exfalso; exact hg (by assumption))
 refine rZ ?_
 refine uJ (E := E) ?_ (fun _ => ?_); exact rfl
 refine rZ ?_
 refine vI ?_ (by exact rfl) ?_; exact rfl
 refine rZ ?_
 refine vI ?_ (by exact rfl) ?_; exact rfl
 refine rZ ?_; rotate_left
 rename_i u
 refine vB (X := Nat) (fun i => tmL [(0, .lo 2 τ 10 0 0), (1, .d (.sl 1 ((sfW W1 i).map wTV))), (32, .os 32 (u, 8) 2 2), (33, .int .i64 2), (34, .int .i64 i)]) (fun i => stL [(2, (τ, ⟨10, [stR k r v n d b (sfA W1 i) (sfR W1 i) p q]⟩)), (32, ((u, 8), ⟨2, [[.lo 2 τ 10 0 6, .bs wAq], [.lo 2 τ 10 0 7, .bs wRl]]⟩))]) (fun i => i ≤ 2) (fun i => 2 - i) 0 (by omega) leP leP ?_
 intro i hi
 have hmap : ∀ W : List Bt, (List.map wTV W).length = W.length := fun W => List.length_map ..
 rcases (by omega : i = 0 ∨ i = 1 ∨ i = 2) with rfl | rfl | rfl
 ·have hm := hmap (sfW W1 0)
  refine rZ ?_; refine aoR fun _ => ?_
  refine rZ ?_; refine cnd ?_ ?_
  refine uF fun _ => ?_; try omega
  refine rZ ?_; refine aoR fun _ => ?_
  refine rZ ?_
  refine uJ (E := E) ?_ (fun _ => ?_); exact rfl
  refine rZ ?_
  apply dpT; exact rfl
  intro hc_
  have hp_ := hc_; try simp only [nrm] at hp_
  apply vC; exact evm; exact evm
  refine rZ ?_; refine cnd ?_ ?_; refine wT ?_
  iterate 2 refine uF fun _ => ?_; try omega
  refine uJ (E := E) ?_ (fun _ => ?_); exact rfl
  refine rZ ?_
  refine vI ?_ (by exact rfl) ?_; exact rfl
  refine rZ ?_; refine aoR fun _ => ?_
  refine rZ ?_; rotate_left
  refine wU (fun hc_ => ?_); (try simp only [nrm] at hc_)
  refine rZ ?_; refine aoR fun _ => ?_
  refine rZ ?_; rotate_left
  refine uG fun _ => ?_; try omega
  ·have e := cU (w := wAq) (W := sfW W1 0) (by assumption) (by assumption)
   have e : sufAq wAq W1 = (true, W1.drop 1) := e
   refine uU 1 (by omega) (by omega) (uL rfl (wY rfl ?_ leP)) (uP rfl ?_ leP)
   ·show _ = ((sufAq wAq W1).2).map wTV
    rw [e]
    exact eV (sfW W1 0) _ (by omega)
   ·show _ = [stR k r v n d b (sufAq wAq W1).1 false p q]
    (rw [e]; first | done | rfl)
  ·rename_i hc_ _
   have e := eY (w := wAq) (W := W1) hc_
   refine uU 1 (by omega) (by omega) (uL rfl (wY rfl ?_ leP)) (uP rfl ?_ leP)
   ·show _ = ((sufAq wAq W1).2).map wTV
    (rw [e]; first | done | rfl)
   ·show _ = [stR k r v n d b (sufAq wAq W1).1 false p q]
    (rw [e]; first | done | rfl)
 ·have hm := hmap (sfW W1 1)
  refine rZ ?_; refine aoR fun _ => ?_
  refine rZ ?_; refine cnd ?_ ?_
  refine uF fun _ => ?_; try omega
  refine rZ ?_; refine aoR fun _ => ?_
  refine rZ ?_
  refine uJ (E := E) ?_ (fun _ => ?_); exact rfl
  refine rZ ?_
  apply dpT; exact rfl
  intro hc_
  have hp_ := hc_; try simp only [nrm] at hp_
  apply vC; exact evm; exact evm
  refine rZ ?_; refine cnd ?_ ?_; refine wT ?_
  iterate 2 refine uF fun _ => ?_; try omega
  refine uJ (E := E) ?_ (fun _ => ?_); exact rfl
  refine rZ ?_
  refine vI ?_ (by exact rfl) ?_; exact rfl
  refine rZ ?_; refine aoR fun _ => ?_
  refine rZ ?_; rotate_left
  refine wU (fun hc_ => ?_); (try simp only [nrm] at hc_)
  refine rZ ?_; refine aoR fun _ => ?_
  refine rZ ?_; rotate_left
  refine uG fun _ => ?_; try omega
  ·have e := cU (w := wRl) (W := sfW W1 1) (by assumption) (by assumption)
   refine uU 2 (by omega) (by omega) (uL rfl (wY rfl ?_ leP)) (uP rfl ?_ leP)
   ·show _ = ((sufAq wRl (sfW W1 1)).2).map wTV
    rw [e]
    exact eV (sfW W1 1) _ (by omega)
   ·show _ = [stR k r v n d b (sfA W1 1) (sufAq wRl (sfW W1 1)).1 p q]
    (rw [e]; first | done | rfl)
  ·rename_i hc_ _
   have e := eY (w := wRl) (W := sfW W1 1) hc_
   refine uU 2 (by omega) (by omega) (uL rfl (wY rfl ?_ leP)) (uP rfl ?_ leP)
   ·show _ = ((sufAq wRl (sfW W1 1)).2).map wTV
    (rw [e]; first | done | rfl)
   ·show _ = [stR k r v n d b (sfA W1 1) (sufAq wRl (sfW W1 1)).1 p q]
    (rw [e]; first | done | rfl)
 ·refine rZ ?_
  refine aoR fun _ => ?_; refine rZ ?_
  refine cnd ?_ ?_
  refine uF fun _ => ?_; try omega
  refine uG fun _ => ?_; try omega
  refine rZ ?_; refine aoR fun _ => ?_
  refine rZ ?_
  apply uE; exact rfl; exact .fn _ _ _; exact rfl; exact aW (by rw [h3]; rfl)
  refine rZ ?_; rotate_left
  rw [hx]
  exact ⟨rfl, leP⟩
set_option maxHeartbeats 4000000 in
theorem jC (hw : suffOf W = none) (hl : W.length ≤ 65536) (k r v n d : Int) (p q : Int) (τ : Stamp) : FnP E.P 91 [.lo 2 τ 10 0 0, .d (wsTV W)] [(2, (τ, ⟨10, [stR k r v n d 0 false false p q]⟩))] failC (fun l1 => ∃ b a l, l1 = [(2, (τ, ⟨10, [stR k r v n d b a l p q]⟩))]) := by
 unfold suffOf at hw
 cases hb' : sufBy W with
 | none =>
  rcases W with _ | ⟨w0, _ | ⟨w1, W⟩⟩ <;> first | (cases hb'; done) | skip
  have hb2 : (if w0 = wBy then (regOf w1).map fun n => (n, W) else some (0, w0 :: w1 :: W)) = none := hb'
  split at hb2
  ·rename_i h0
   rw [Option.map_eq_none_iff] at hb2
   have c1 := kV hb2
   subst h0
   have hml : (List.map wTV (wBy :: w1 :: W)).length = W.length + 2 := by simp
   have hml' : (wBy :: w1 :: W).length = W.length + 2 := by simp
   have hg : (wBy :: w1 :: W).getD (Int.toNat 0) default = [98, 121] := rfl
   unfold wsTV
   refine vO (args := [.lo 2 τ 10 0 0, .d (.sl 1 (List.map wTV (wBy :: w1 :: W)))]) Tryz.func91 (by decide) rfl Tryz.ntmps91 (Nat.le_of_ble_eq_true rfl) ?_
   refine wX (vs := []) rfl ?_
   refine rZ ?_ 2; refine aoR fun _ => ?_
   refine rZ ?_ 2
   apply spT; exact rfl
   intro hc_
   have hp_ := hc_; try simp only [nrm] at hp_
   apply vC; exact evm; exact evm
   refine rZ ?_ 2; rotate_left
   refine uA (uK rfl (fun _ => ?_) (fun hf => ?_))
   ·refine zD (ch := failC) 4 2 [18] (by decide) rfl (by decide) (by decide +kernel) (by decide) (fun d r tm σ _ h => cE h) fun v => ?_
    simp only [List.take_succ_cons, List.take_zero, List.drop_succ_cons, List.drop_zero]
    refine rZ ?_; rotate_left
    refine bS ?_; refine rZ ?_; rotate_left
    refine bT (by first | decide +kernel | (simp only [wkeys, outD, List.map_cons, List.map_nil]; decide +kernel)) ?_
    refine wS (R1 := fun l1 => l1 = []) (l0 := []) rfl (.fn _ _ _) rfl ?_ (uS _) (fun l1 hl => ?_) (fun l1 hl => ?_)
    rotate_left 1
    (subst hl; exact List.nodup_nil)
    rotate_left 1
    exact c1
    subst hl
    exact ⟨.panicking failC, rfl, rfl, _, ⟨0, false, false, rfl⟩, leP⟩
   ·exfalso
    simp [wBy] at hf
    omega
  ·cases hb2
 | some y =>
  obtain ⟨b, W1⟩ := y
  have hb := hb'
  rw [hb'] at hw
  have hw : (if (sufAq wRl (sufAq wAq W1).2).2 = [] then some (b, (sufAq wAq W1).1, (sufAq wRl (sufAq wAq W1).2).1) else none) = none := hw
  have h3 : sfW W1 2 ≠ [] := fun h => by
   rw [if_pos (show (sufAq wRl (sufAq wAq W1).2).2 = [] from h)] at hw; cases hw
  refine vO (args := [.lo 2 τ 10 0 0, .d (wsTV W)]) Tryz.func91 (by decide) rfl Tryz.ntmps91 (Nat.le_of_ble_eq_true rfl) ?_
  refine wX (vs := []) rfl ?_
  unfold wsTV
  refine uR (X := Unit) (fun _ => tmL [(0, .lo 2 τ 10 0 0), (1, .d (.sl 1 (W1.map wTV)))]) (fun _ => stL [(2, (τ, ⟨10, [stR k r v n d b false false p q]⟩))]) ?_ fun _ => ?_
  ·rcases W with _ | ⟨w0, _ | ⟨w1, W⟩⟩
   ·cases hb
    refine rZ ?_; refine aoR fun _ => ?_
    refine rZ ?_
    apply spT; exact rfl
    intro hc_
    have hp_ := hc_; try simp only [nrm] at hp_
    apply vC; exact evm; exact evm
    refine rZ ?_; refine cnd ?_ ?_; refine wT ?_
    iterate 2 refine uF fun _ => ?_; try omega
    refine uJ (E := E) ?_ (fun _ => ?_); exact rfl
    refine rZ ?_; rotate_left
    refine wU (fun hc_ => ?_); (try simp only [nrm] at hc_)
    refine rZ ?_; rotate_left
    all_goals first | exact wA () leP leP | (exfalso; simp at *; done)
   ·cases hb
    refine rZ ?_; refine aoR fun _ => ?_
    refine rZ ?_
    apply spT; exact rfl
    intro hc_
    have hp_ := hc_; try simp only [nrm] at hp_
    apply vC; exact evm; exact evm
    refine rZ ?_; refine cnd ?_ ?_; refine wT ?_
    iterate 2 refine uF fun _ => ?_; try omega
    refine uJ (E := E) ?_ (fun _ => ?_); exact rfl
    refine rZ ?_; rotate_left
    refine wU (fun hc_ => ?_); (try simp only [nrm] at hc_)
    refine rZ ?_; rotate_left
    all_goals first | exact wA () leP leP | (exfalso; simp at *; done)
   ·have hb : (if w0 = wBy then (regOf w1).map fun n => (n, W) else some (0, w0 :: w1 :: W)) = some (b, W1) := hb
    by_cases h0 : w0 = wBy
    ·rw [if_pos h0] at hb
     obtain ⟨m, hm, e⟩ := Option.map_eq_some_iff.1 hb
     cases e
     have c1 := eQ hm
     subst h0
     have hml : (List.map wTV (wBy :: w1 :: W1)).length = W1.length + 2 := by simp
     have hml' : (wBy :: w1 :: W1).length = W1.length + 2 := by simp
     have hg : (wBy :: w1 :: W1).getD (Int.toNat 0) default = [98, 121] := rfl
     refine rZ ?_; refine aoR fun _ => ?_
     refine rZ ?_
     apply spT; exact rfl
     intro hc_
     have hp_ := hc_; try simp only [nrm] at hp_
     apply vC; exact evm; exact evm
     refine rZ ?_; refine cnd ?_ ?_; refine wT ?_
     iterate 2 refine uF fun _ => ?_; try omega
     refine uJ (E := E) ?_ (fun _ => ?_); exact rfl
     refine rZ ?_
     apply vJ; exact rfl; exact .fn _ _ _; exact rfl; exact c1
     refine rZ ?_
     refine vI ?_ (by exact rfl) ?_; exact rfl
     refine rZ ?_; rotate_left
     refine wU (fun hc_ => ?_); (try simp only [nrm] at hc_)
     refine rZ ?_; rotate_left
     ·exact wA () (uL rfl (wY rfl (by simp; exact List.take_of_length_le (by simp)) (vW _))) leP
     all_goals (exfalso; rename_i hc_; rcases hc_ with hc_ | hc_; omega; exact hc_ hg)
    ·rw [if_neg h0] at hb
     cases hb
     have hg : ¬ (w0 :: w1 :: W).getD (Int.toNat 0) default = [98, 121] := h0
     refine rZ ?_; refine aoR fun _ => ?_
     refine rZ ?_
     apply spT; exact rfl
     intro hc_
     have hp_ := hc_; try simp only [nrm] at hp_
     apply vC; exact evm; exact evm
     refine rZ ?_; refine cnd ?_ ?_; refine wT ?_
     iterate 2 refine uF fun _ => ?_; try omega
     refine uJ (E := E) ?_ (fun _ => ?_); exact rfl
     refine rZ ?_; rotate_left
     refine wU (fun hc_ => ?_); (try simp only [nrm] at hc_)
     refine rZ ?_; rotate_left
     all_goals first | exact wA () leP leP | (exfalso; exact hg (by assumption))
  refine rZ ?_
  refine uJ (E := E) ?_ (fun _ => ?_); exact rfl
  refine rZ ?_
  refine vI ?_ (by exact rfl) ?_; exact rfl
  refine rZ ?_
  refine vI ?_ (by exact rfl) ?_; exact rfl
  refine rZ ?_; rotate_left
  rename_i u
  refine vB (X := Nat) (fun i => tmL [(0, .lo 2 τ 10 0 0), (1, .d (.sl 1 ((sfW W1 i).map wTV))), (32, .os 32 (u, 8) 2 2), (33, .int .i64 2), (34, .int .i64 i)]) (fun i => stL [(2, (τ, ⟨10, [stR k r v n d b (sfA W1 i) (sfR W1 i) p q]⟩)), (32, ((u, 8), ⟨2, [[.lo 2 τ 10 0 6, .bs wAq], [.lo 2 τ 10 0 7, .bs wRl]]⟩))]) (fun i => i ≤ 2) (fun i => 2 - i) 0 (by omega) leP leP ?_
  intro i hi
  have hmap : ∀ W : List Bt, (List.map wTV W).length = W.length := fun W => List.length_map ..
  rcases (by omega : i = 0 ∨ i = 1 ∨ i = 2) with rfl | rfl | rfl
  ·have hm := hmap (sfW W1 0)
   refine rZ ?_; refine aoR fun _ => ?_
   refine rZ ?_; refine cnd ?_ ?_
   refine uF fun _ => ?_; try omega
   refine rZ ?_; refine aoR fun _ => ?_
   refine rZ ?_
   refine uJ (E := E) ?_ (fun _ => ?_); exact rfl
   refine rZ ?_
   apply dpT; exact rfl
   intro hc_
   have hp_ := hc_; try simp only [nrm] at hp_
   apply vC; exact evm; exact evm
   refine rZ ?_; refine cnd ?_ ?_; refine wT ?_
   iterate 2 refine uF fun _ => ?_; try omega
   refine uJ (E := E) ?_ (fun _ => ?_); exact rfl
   refine rZ ?_
   refine vI ?_ (by exact rfl) ?_; exact rfl
   refine rZ ?_; refine aoR fun _ => ?_
   refine rZ ?_; rotate_left
   refine wU (fun hc_ => ?_); (try simp only [nrm] at hc_)
   refine rZ ?_; refine aoR fun _ => ?_
   refine rZ ?_; rotate_left
   refine uG fun _ => ?_; try omega
   ·have e := cU (w := wAq) (W := sfW W1 0) (by assumption) (by assumption)
    have e : sufAq wAq W1 = (true, W1.drop 1) := e
    refine uU 1 (by omega) (by omega) (uL rfl (wY rfl ?_ leP)) (uP rfl ?_ leP)
    ·show _ = ((sufAq wAq W1).2).map wTV
     rw [e]
     exact eV (sfW W1 0) _ (by omega)
    ·show _ = [stR k r v n d b (sufAq wAq W1).1 false p q]
     (rw [e]; first | done | rfl)
   ·rename_i hc_ _
    have e := eY (w := wAq) (W := W1) hc_
    refine uU 1 (by omega) (by omega) (uL rfl (wY rfl ?_ leP)) (uP rfl ?_ leP)
    ·show _ = ((sufAq wAq W1).2).map wTV
     (rw [e]; first | done | rfl)
    ·show _ = [stR k r v n d b (sufAq wAq W1).1 false p q]
     (rw [e]; first | done | rfl)
  ·have hm := hmap (sfW W1 1)
   refine rZ ?_; refine aoR fun _ => ?_
   refine rZ ?_; refine cnd ?_ ?_
   refine uF fun _ => ?_; try omega
   refine rZ ?_; refine aoR fun _ => ?_
   refine rZ ?_
   refine uJ (E := E) ?_ (fun _ => ?_); exact rfl
   refine rZ ?_
   apply dpT; exact rfl
   intro hc_
   have hp_ := hc_; try simp only [nrm] at hp_
   apply vC; exact evm; exact evm
   refine rZ ?_; refine cnd ?_ ?_; refine wT ?_
   iterate 2 refine uF fun _ => ?_; try omega
   refine uJ (E := E) ?_ (fun _ => ?_); exact rfl
   refine rZ ?_
   refine vI ?_ (by exact rfl) ?_; exact rfl
   refine rZ ?_; refine aoR fun _ => ?_
   refine rZ ?_; rotate_left
   refine wU (fun hc_ => ?_); (try simp only [nrm] at hc_)
   refine rZ ?_; refine aoR fun _ => ?_
   refine rZ ?_; rotate_left
   refine uG fun _ => ?_; try omega
   ·have e := cU (w := wRl) (W := sfW W1 1) (by assumption) (by assumption)
    refine uU 2 (by omega) (by omega) (uL rfl (wY rfl ?_ leP)) (uP rfl ?_ leP)
    ·show _ = ((sufAq wRl (sfW W1 1)).2).map wTV
     rw [e]
     exact eV (sfW W1 1) _ (by omega)
    ·show _ = [stR k r v n d b (sfA W1 1) (sufAq wRl (sfW W1 1)).1 p q]
     (rw [e]; first | done | rfl)
   ·rename_i hc_ _
    have e := eY (w := wRl) (W := sfW W1 1) hc_
    refine uU 2 (by omega) (by omega) (uL rfl (wY rfl ?_ leP)) (uP rfl ?_ leP)
    ·show _ = ((sufAq wRl (sfW W1 1)).2).map wTV
     (rw [e]; first | done | rfl)
    ·show _ = [stR k r v n d b (sfA W1 1) (sufAq wRl (sfW W1 1)).1 p q]
     (rw [e]; first | done | rfl)
  ·refine rZ ?_ 2
   refine aoR fun _ => ?_; refine rZ ?_ 2
   rotate_left; refine uA ?_
   refine rZ ?_ 2; refine cnd ?_ ?_
   refine uF fun _ => ?_; try omega
   refine uG fun _ => ?_; try omega
   refine rZ ?_ 2; rotate_left
   refine uA ?_
   refine (uN (ch := failC) 3 (by decide) rfl fun v => ?_)
   simp only [List.take_succ_cons, List.take_zero]
   refine rZ ?_; rotate_left
   refine wS (R1 := fun l1 => l1 = []) (l0 := []) rfl (.fn _ _ _) rfl ?_ (uS _) (fun l1 hl => ?_) (fun l1 hl => ?_)
   rotate_left 1
   (subst hl; exact List.nodup_nil)
   rotate_left 1
   exact aE (decide_eq_false fun h => h3 (List.eq_nil_of_length_eq_zero (by omega)))
   subst hl
   exact ⟨.panicking failC, rfl, rfl, _, ⟨b, _, _, rfl⟩, leP⟩
end
end Go.Proofs.YtjogffchdejabaaGreatDoor
