/- Parts. -/
import Derived.MapKept
import Derived.Test.YtjogffchdejabaaGreatDoorPp3
import Derived.Test.YtjogffchdejabaaGreatDoorPp4
import Derived.Test.YtjogffchdejabaaGreatDoorPp8
import Derived.Test.YtjogffchdejabaaGreatDoorPp9
import Derived.Test.YtjogffchdejabaaGreatDoorPp12
set_option linter.unusedVariables false
set_option linter.unusedSimpArgs false
set_option maxHeartbeats 4000000
set_option maxRecDepth 100000
namespace Go.Proofs.YtjogffchdejabaaGreatDoor
open Go.RowKit
section
open Go.RowKit Go.Lib
abbrev sRows (τ : Stamp) (k r v n d b : Int) (a l : Bool) (p q : Int) : Rows := [(2, (τ, ⟨10, [stR k r v n d b a l p q]⟩))]
def anyS (τ : Stamp) (l1 : Rows) : Prop := ∃ k r v n d b a l p q, l1 = sRows τ k r v n d b a l p q
def kindTV (k : Int) : TV := .pt [.c (.int .i64 k)] 0
theorem anyS.nodup {τ : Stamp} {l1 : Rows} (h : anyS τ l1) : (l1.map (·.1)).Nodup := by
 obtain ⟨k, r, v, n, d, b, a, l, p, q, rfl⟩ := h
 exact List.nodup_cons.2 ⟨List.not_mem_nil, List.nodup_nil⟩
theorem aX (W : List Bt) (k n : Nat) (h : W.length ≤ n + k) : List.take n (List.drop k (W.map wTV)) = (W.drop k).map wTV := by
 rw [List.take_of_length_le (by simp; omega), List.map_drop]
set_option maxHeartbeats 4000000 in
theorem tZ {W : List Bt} {kk : Int} {s : Stp} (hw : bothOf kk W = some s) (hl : W.length ≤ 65536) (hs : ∀ w ∈ W, w.length ≤ 65536) (τ : Stamp) : FnW E.P 140 [.lo 2 τ 10 0 0, .d (wsTV W), .d (kindTV kk)] (stL (sRows τ 0 0 0 0 0 0 false false 0 0)) (IsW (.tu []) (stL (sRows τ s.kind s.reg s.var s.num s.data s.byr s.aq s.rl s.pred s.succ))) := by
 rcases W with _ | ⟨w0, _ | ⟨w1, _ | ⟨w2, _ | ⟨w3, _ | ⟨w4, W⟩⟩⟩⟩⟩ <;> first | (cases hw; done) | skip
 have hw : ((regOf w0).bind fun r => (nameOf w3).bind fun v => (operOf w4).bind fun o => (suffOf W).map fun x => (⟨kk, r, v, o.2, o.1, x.1, x.2.1, x.2.2, 0, 0⟩ : Stp)) = some s := hw
 obtain ⟨r, hr, hw⟩ := Option.bind_eq_some_iff.1 hw
 obtain ⟨v, hv, hw⟩ := Option.bind_eq_some_iff.1 hw
 obtain ⟨o, ho, hw⟩ := Option.bind_eq_some_iff.1 hw
 obtain ⟨x, hx, rfl⟩ := Option.map_eq_some_iff.1 hw
 have c1 := eQ hr
 have c2 := iW hv
 have hl4 := hs w4 (by simp)
 have c3 := gI ho hl4 kk r v 0 false false 0 0 τ
 have hln : (w0 :: w1 :: w2 :: w3 :: w4 :: W).length = W.length + 5 := by simp
 have hlm : (List.map wTV (w0 :: w1 :: w2 :: w3 :: w4 :: W)).length = W.length + 5 := by simp
 have c4 : ∀ L, L = W.map wTV → FnW E.P 91 [.lo 2 τ 10 0 0, .d (.sl 1 L)] (stL (sRows τ kk r v o.2 o.1 0 false false 0 0)) (IsW (.tu []) (stL (sRows τ kk r v o.2 o.1 x.1 x.2.1 x.2.2 0 0))) := fun L hL => by
  subst hL
  exact jB hx (by simp at hl; omega) kk r v o.2 o.1 0 0 τ
 unfold wsTV
 refine xD Tryz.func140 (by decide) rfl Tryz.ntmps140 (Nat.le_of_ble_eq_true rfl) rfl ?_
 refine rZ ?_; refine aoR fun _ => ?_
 refine rZ ?_
 apply uE; exact rfl; exact .fn _ _ _; exact rfl; (exact aW (decide_eq_true (by omega)))
 refine rZ ?_
 refine uJ (E := E) ?_ (fun _ => ?_); exact rfl
 refine rZ ?_
 apply vJ; exact rfl; exact .fn _ _ _; exact rfl; (exact c1)
 refine rZ ?_
 apply vJ; exact rfl; exact .fn _ _ _; exact rfl; (exact c2)
 refine vI ?_ (by exact rfl) ?_; exact rfl
 refine rZ ?_
 refine vI ?_ (by exact rfl) ?_; exact rfl
 refine rZ ?_
 refine vI ?_ (by exact rfl) ?_; exact rfl
 refine rZ ?_; refine aoR fun _ => ?_
 refine rZ ?_
 apply xT; exact rfl; exact .fn _ _ _; exact rfl; exact c3; exact leP; exact rfl; (exact List.nodup_cons.2 ⟨List.not_mem_nil, List.nodup_nil⟩)
 refine rZ ?_; refine aoR fun _ => ?_
 refine rZ ?_
 apply xT; exact rfl; exact .fn _ _ _; exact rfl; exact c4 _ (aX (w0 :: w1 :: w2 :: w3 :: w4 :: W) 5 _ (by omega)); exact leP; exact rfl; (exact List.nodup_cons.2 ⟨List.not_mem_nil, List.nodup_nil⟩)
 refine rZ ?_; rotate_left
 all_goals exact ⟨rfl, leP⟩
theorem FnP.imp {P : Program} {f : FuncId} {args : List OV} {l0 : Rows} {ch : List PanicEntry} {R R' : Rows → Prop} (h : FnP P f args l0 ch R) (hR : ∀ l, R l → R' l) : FnP P f args l0 ch R' :=
 ⟨h.1, fun G w vs N a b => (h.2 G w vs N a b).mono fun e w' ⟨x, l1, hl, rest⟩ => ⟨x, l1, hR _ hl, rest⟩⟩
theorem yA (τ : Stamp) (k r v n d b : Int) (a l : Bool) (p q : Int) : anyS τ (sRows τ k r v n d b a l p q) := ⟨k, r, v, n, d, b, a, l, p, q, rfl⟩
set_option maxHeartbeats 4000000 in
theorem uAA {W : List Bt} {kk : Int} (hw : bothOf kk W = none) (hl : W.length ≤ 65536) (hs : ∀ w ∈ W, w.length ≤ 65536) (τ : Stamp) : FnP E.P 140 [.lo 2 τ 10 0 0, .d (wsTV W), .d (kindTV kk)] (sRows τ 0 0 0 0 0 0 false false 0 0) failC (anyS τ) := by
 unfold wsTV
 by_cases h5 : W.length < 5
 ·refine vO (args := [.lo 2 τ 10 0 0, .d (.sl 1 (W.map wTV)), .d (kindTV kk)]) Tryz.func140 (by decide) rfl Tryz.ntmps140 (Nat.le_of_ble_eq_true rfl) ?_
  refine wX (vs := []) rfl ?_; refine uD ?_
  refine (uN (ch := failC) 3 (by decide) rfl fun v => ?_)
  simp only [List.take_succ_cons, List.take_zero]
  refine rZ ?_; rotate_left
  refine wS (R1 := fun l1 => l1 = []) (l0 := []) rfl (.fn _ _ _) rfl ?_ (uS _) (fun l1 hl => ?_) (fun l1 hl => ?_)
  rotate_left 1
  (subst hl; exact List.nodup_nil)
  rotate_left 1
  exact aE (decide_eq_false (by omega))
  subst hl
  exact ⟨.panicking failC, rfl, rfl, _, yA _ _ _ _ _ _ _ _ _ _ _, leP⟩
 rcases W with _ | ⟨w0, _ | ⟨w1, _ | ⟨w2, _ | ⟨w3, _ | ⟨w4, W⟩⟩⟩⟩⟩ <;> first | (exfalso; simp at h5; done) | skip
 have hln : (w0 :: w1 :: w2 :: w3 :: w4 :: W).length = W.length + 5 := by simp
 have hlm : (List.map wTV (w0 :: w1 :: w2 :: w3 :: w4 :: W)).length = W.length + 5 := by simp
 have hw : ((regOf w0).bind fun r => (nameOf w3).bind fun v => (operOf w4).bind fun o => (suffOf W).map fun x => (⟨kk, r, v, o.2, o.1, x.1, x.2.1, x.2.2, 0, 0⟩ : Stp)) = none := hw
 have c0 : Pure E.P 83 [.bool (decide (5 ≤ ((w0 :: w1 :: w2 :: w3 :: w4 :: W).length : Int)))] (.tu []) := aW (decide_eq_true (by omega))
 refine vO (args := [.lo 2 τ 10 0 0, .d (.sl 1 ((w0 :: w1 :: w2 :: w3 :: w4 :: W).map wTV)), .d (kindTV kk)]) Tryz.func140 (by decide) rfl Tryz.ntmps140 (Nat.le_of_ble_eq_true rfl) ?_
 refine wX (vs := []) rfl ?_
 refine rZ ?_ 2; refine aoR fun _ => ?_
 refine rZ ?_ 2
 apply uE; exact rfl; exact .fn _ _ _; exact rfl; exact c0
 refine rZ ?_ 2; rotate_left
 refine uA (uD ?_)
 cases hr : regOf w0 with
 | none =>
  refine zD (ch := failC) 7 3 [15] (by decide) rfl (by decide) (by decide +kernel) (by decide) (fun d r tm σ _ h => cE h) fun v => ?_
  simp only [List.take_succ_cons, List.take_zero, List.drop_succ_cons, List.drop_zero]
  refine rZ ?_; rotate_left
  refine bS ?_; refine rZ ?_; rotate_left
  refine bT (by first | decide +kernel | (simp only [wkeys, outD, List.map_cons, List.map_nil]; decide +kernel)) ?_
  refine wS (R1 := fun l1 => l1 = []) (l0 := []) rfl (.fn _ _ _) rfl ?_ (uS _) (fun l1 hl => ?_) (fun l1 hl => ?_)
  rotate_left 1
  (subst hl; exact List.nodup_nil)
  rotate_left 1
  exact kV hr
  subst hl
  exact ⟨.panicking failC, rfl, rfl, _, yA _ _ _ _ _ _ _ _ _ _ _, leP⟩
 | some r =>
  rw [hr, Option.bind_some] at hw
  have c1 := eQ hr
  cases hv : nameOf w3 with
  | none =>
   refine zD (ch := failC) 11 0 [19] (by decide) rfl (by decide) (by decide +kernel) (by decide) (fun d r tm σ _ h => cE h) fun v => ?_
   simp only [List.take_succ_cons, List.take_zero, List.drop_succ_cons, List.drop_zero]
   refine rZ ?_
   apply vJ; exact rfl; exact .fn _ _ _; exact rfl; exact c1
   refine rZ ?_; rotate_left
   refine bS ?_; rotate_left
   refine bT (by first | decide +kernel | (simp only [wkeys, outD, List.map_cons, List.map_nil]; decide +kernel)) ?_
   refine wS (R1 := fun l1 => l1 = []) (l0 := []) rfl (.fn _ _ _) rfl ?_ (uS _) (fun l1 hl => ?_) (fun l1 hl => ?_)
   rotate_left 1
   (subst hl; exact List.nodup_nil)
   rotate_left 1
   exact nW hv
   subst hl
   exact ⟨.panicking failC, rfl, rfl, _, yA _ _ _ _ _ _ _ _ _ _ _, leP⟩
  | some vv =>
   rw [hv, Option.bind_some] at hw
   have c2 := iW hv
   have hl4 := hs w4 (by simp)
   refine uJ (E := E) ?_ (fun _ => ?_); exact rfl
   refine rZ ?_ 2
   apply vJ; exact rfl; exact .fn _ _ _; exact rfl; (exact c1)
   refine rZ ?_ 2
   apply vJ; exact rfl; exact .fn _ _ _; exact rfl; (exact c2)
   refine vI ?_ (by exact rfl) ?_; exact rfl
   refine rZ ?_ 2
   refine vI ?_ (by exact rfl) ?_; exact rfl
   refine rZ ?_ 2
   refine vI ?_ (by exact rfl) ?_; exact rfl
   refine rZ ?_ 2; rotate_left
   refine uA (uD ?_)
   cases ho : operOf w4 with
   | none =>
    have c3 := lT ho hl4 kk r vv 0 0 0 false false 0 0 τ
    refine (uN (ch := failC) 4 (by decide) rfl fun v => ?_)
    simp only [List.take_succ_cons, List.take_zero]
    refine rZ ?_; rotate_left
    refine wS (R1 := fun l1 => l1 = sRows τ kk r vv 0 0 0 false false 0 0) (l0 := sRows τ kk r vv 0 0 0 false false 0 0) rfl (.fn _ _ _) rfl ?_ leP (fun l1 hl => ?_) (fun l1 hl => ?_)
    exact c3
    ·subst hl; exact (yA _ _ _ _ _ _ _ _ _ _ _).nodup
    ·subst hl
     exact ⟨.panicking failC, rfl, rfl, _, yA _ _ _ _ _ _ _ _ _ _ _, leP⟩
   | some o =>
    rw [ho, Option.bind_some, Option.map_eq_none_iff] at hw
    have c3 := gI ho hl4 kk r vv 0 false false 0 0 τ
    refine aoR fun _ => ?_; refine rZ ?_ 2
    apply xT; exact rfl; exact .fn _ _ _; exact rfl; exact c3; exact leP; exact rfl; (exact List.nodup_cons.2 ⟨List.not_mem_nil, List.nodup_nil⟩)
    refine rZ ?_ 2; rotate_left
    refine uA ?_
    have c4 : ∀ L, L = W.map wTV → FnP E.P 91 [.lo 2 τ 10 0 0, .d (.sl 1 L)] (sRows τ kk r vv o.2 o.1 0 false false 0 0) failC (anyS τ) := fun L hL => by
     subst hL
     exact (jC hw (by omega) kk r vv o.2 o.1 0 0 τ).imp fun l1 ⟨b, a, l, e⟩ => ⟨_, _, _, _, _, b, a, l, _, _, e⟩
    refine (uN (ch := failC) 3 (by decide) rfl fun v => ?_)
    simp only [List.take_succ_cons, List.take_zero]
    refine rZ ?_; rotate_left
    refine wS (R1 := anyS τ) (l0 := sRows τ kk r vv o.2 o.1 0 false false 0 0) rfl (.fn _ _ _) rfl ?_ leP (fun l1 hl => ?_) (fun l1 hl => ?_)
    exact c4 _ (aX (w0 :: w1 :: w2 :: w3 :: w4 :: W) 5 _ (by omega))
    ·exact hl.nodup
    ·obtain ⟨k2, r2, v2, n2, d2, b2, a2, l2, p2, q2, rfl⟩ := hl
     exact ⟨.panicking failC, rfl, rfl, _, yA _ _ _ _ _ _ _ _ _ _ _, leP⟩
end
set_option maxRecDepth 100000
section
open Go.RowKit Go.Lib
section
attribute [local semireducible] NextOk
section
variable {E : Env} {v j : Nat} {ops : Array Oper} {K : Tm → Store → Prop} {KD : List Foot → Tm → Store → Prop} {acc : List Foot} {rest : List Oper} {tm : Tm} {σ : Store} {ty : TypeId} {pos : String} {af : Array Edge} {gd : Option (Nat × Bool)} {d : Option Nat}
theorem Y_slice_pt {T e : TypeId} {te ee : TE} {x : Operand} {n p : Nat} {row : List TV} (hT : E.tab T = some te) (hk : te.k = .arr n e) (hE : E.tab e = some ee) (hs : ee.size = 1) (hx : ev tm x = some (.d (.pt row p))) (hl : p + n ≤ row.length) :
  YL E.P v j ⟨d, .slice T x none none none, ty, pos, af, gd⟩ tm σ [] (.d (.sl 1 (((row.drop p).take n).map fun t => [t]))) [] := fun σ _ Γ G ρ w hv hf hρ hw => by
 have hx1 := hρ x (by simp [Op.operands]) _ hx
 rw [RepO, Rep] at hx1
 obtain ⟨b, off, hx1, h4⟩ := hx1
 have ht := (E.ok T te hT).1
 rw [hk] at ht
 simp only [TK.fits] at ht
 have hb : (Instr.sliceBounds false n n none none none).run E.P w = .ok (0, n, n) w := by simp [Instr.sliceBounds]
 have hr : (Instr.sliceAt T (ρ x) none none none).run E.P w = .ok (.slice (some ⟨b, off + p, none⟩) n n) w := by
  simp only [Instr.sliceAt, Instr.sureAddr, hx1, Sem.run_bind, run_underlying ht, Result.andThen_ok, hb, vR (E.ok e ee hE), Sem.run_pure]
  have e1 : (if n = 0 then (⟨b, off + p, none⟩ : Addr) else (⟨b, off + p, none⟩ : Addr).add (0 * ee.size)) = ⟨b, off + p, none⟩ := by
   split
   ·rfl
   ·rw [xN]; simp
  rw [e1]; rfl
 simp only [execOp, Option.map_none, Sem.run_bind, hr, Result.andThen_ok, Sem.run_pure, NextOk]
 refine Leaves.still ?_ hw
 rw [RepO, Rep]
 have hl' : (((row.drop p).take n).map fun t => [t]).length = n := by simp; omega
 refine ⟨_, n, by rw [hl'], by omega, Or.inr ⟨b, off + p, rfl, RepR.of_get fun i r hi => ?_⟩⟩
 rw [List.getElem?_map] at hi
 obtain ⟨t, ht', rfl⟩ := Option.map_eq_some_iff.1 hi
 refine ⟨rfl, RepC.of_get fun o t2 ho => ?_⟩
 cases o with
 | succ o => simp at ho
 | zero =>
  simp only [List.getElem?_cons_zero, Option.some.injEq] at ho
  subst ho
  rw [List.getElem?_take] at ht'
  split at ht'
  ·rw [List.getElem?_drop] at ht'
   obtain ⟨u, h5, h6⟩ := h4.get ht'
   exact ⟨u, by rw [show off + p + i * 1 + 0 = off + (p + i) by omega]; exact h5, h6⟩
  ·cases ht'
theorem zH {T e : TypeId} {te ee : TE} {x : Operand} {n p : Nat} {row : List TV} (hT : E.tab T = some te) (hk : te.k = .arr n e) (hE : E.tab e = some ee) (hs : ee.size = 1) (hx : ev tm x = some (.d (.pt row p))) (hl : p + n ≤ row.length)
  (h : DO E.P v ops KD (j + 1) rest (tm.putO d (.d (.sl 1 (((row.drop p).take n).map fun t => [t])))) (σ.apply []) (Foot.mk [] (wkeys []) :: acc)) : DO E.P v ops KD j (⟨d, .slice T x none none none, ty, pos, af, none⟩ :: rest) tm σ acc := xA (Y_slice_pt hT hk hE hs hx hl) h
end
set_option maxHeartbeats 4000000 in
theorem ifc_y {W : List Bt} {s : Stp} (hw : ifOf W = some s) (τ : Stamp) : FnW E.P 85 [.lo 2 τ 10 0 0, .d (wsTV W)] (stL (sRows τ 0 0 0 0 0 0 false false 0 0)) (IsW (.tu []) (stL (sRows τ s.kind s.reg s.var s.num s.data s.byr s.aq s.rl s.pred s.succ))) := by
 rcases W with _ | ⟨w0, _ | ⟨w1, _ | ⟨w2, W⟩⟩⟩ <;> first | (cases hw; done) | skip
 have hw : ((regOf w1).map fun n => (⟨6, n, 0, 0, 0, 0, false, false, 0, 0⟩ : Stp)) = some s := hw
 obtain ⟨r, hr, rfl⟩ := Option.map_eq_some_iff.1 hw
 have c1 := eQ hr
 have c0 : Pure E.P 83 [.bool (decide (([w0, w1].length : Int) = 2))] (.tu []) := aW rfl
 have hlm : (List.map wTV [w0, w1]).length = 2 := rfl
 have hln : [w0, w1].length = 2 := rfl
 unfold wsTV
 refine xD Tryz.func85 (by decide) rfl Tryz.ntmps85 (Nat.le_of_ble_eq_true rfl) rfl ?_
 refine rZ ?_; refine aoR fun _ => ?_
 refine rZ ?_
 apply uE; exact rfl; exact .fn _ _ _; exact rfl; (exact c0)
 refine rZ ?_; refine aoR fun _ => ?_
 refine rZ ?_
 apply uE; exact rfl; exact .fn _ _ _; exact rfl; (exact c1)
 refine rZ ?_
 refine aI ?_ (by exact rfl) ?_; exact rfl
 refine rZ ?_; rotate_left
 all_goals exact ⟨rfl, leP⟩
set_option maxHeartbeats 4000000 in
theorem ifc_n {W : List Bt} (hw : ifOf W = none) (hl : W.length ≤ 65536) (τ : Stamp) : FnP E.P 85 [.lo 2 τ 10 0 0, .d (wsTV W)] (sRows τ 0 0 0 0 0 0 false false 0 0) failC (anyS τ) := by
 unfold wsTV
 by_cases h2 : W.length = 2
 ·rcases W with _ | ⟨w0, _ | ⟨w1, _ | ⟨w2, W⟩⟩⟩ <;> first | (exfalso; simp at h2; done) | skip
  have hw : ((regOf w1).map fun n => (⟨6, n, 0, 0, 0, 0, false, false, 0, 0⟩ : Stp)) = none := hw
  rw [Option.map_eq_none_iff] at hw
  have c0 : Pure E.P 83 [.bool (decide (([w0, w1].length : Int) = 2))] (.tu []) := aW rfl
  have hlm : (List.map wTV [w0, w1]).length = 2 := rfl
  have hln : [w0, w1].length = 2 := rfl
  refine vO (args := [.lo 2 τ 10 0 0, .d (.sl 1 ([w0, w1].map wTV))]) Tryz.func85 (by decide) rfl Tryz.ntmps85 (Nat.le_of_ble_eq_true rfl) ?_
  refine wX (vs := []) rfl ?_
  refine rZ ?_ 2; refine aoR fun _ => ?_
  refine rZ ?_ 2
  apply uE; exact rfl; exact .fn _ _ _; exact rfl; exact c0
  refine rZ ?_ 2; rotate_left
  refine uA ?_
  refine (uN (ch := failC) 4 (by decide) rfl fun v => ?_)
  simp only [List.take_succ_cons, List.take_zero]
  refine rZ ?_; rotate_left
  refine wS (R1 := fun l1 => l1 = []) (l0 := []) rfl (.fn _ _ _) rfl ?_ (uS _) (fun l1 hl => ?_) (fun l1 hl => ?_)
  rotate_left 1
  (subst hl; exact List.nodup_nil)
  rotate_left 1
  exact kV hw
  subst hl
  exact ⟨.panicking failC, rfl, rfl, _, yA _ _ _ _ _ _ _ _ _ _ _, leP⟩
 ·refine vO (args := [.lo 2 τ 10 0 0, .d (.sl 1 (W.map wTV))]) Tryz.func85 (by decide) rfl Tryz.ntmps85 (Nat.le_of_ble_eq_true rfl) ?_
  refine wX (vs := []) rfl ?_; refine uD ?_
  refine (uN (ch := failC) 3 (by decide) rfl fun v => ?_)
  simp only [List.take_succ_cons, List.take_zero]
  refine rZ ?_; rotate_left
  refine wS (R1 := fun l1 => l1 = []) (l0 := []) rfl (.fn _ _ _) rfl ?_ (uS _) (fun l1 hl => ?_) (fun l1 hl => ?_)
  rotate_left 1
  (subst hl; exact List.nodup_nil)
  rotate_left 1
  exact aE (decide_eq_false (by omega))
  subst hl
  exact ⟨.panicking failC, rfl, rfl, _, yA _ _ _ _ _ _ _ _ _ _ _, leP⟩
set_option maxHeartbeats 4000000 in
theorem fence_y {W : List Bt} {s : Stp} (hw : fenceOf W = some s) (τ : Stamp) : FnW E.P 82 [.lo 2 τ 10 0 0, .d (wsTV W), .d (.pt setsTV 0)] (stL (sRows τ 0 0 0 0 0 0 false false 0 0)) (IsW (.tu []) (stL (sRows τ s.kind s.reg s.var s.num s.data s.byr s.aq s.rl s.pred s.succ))) := by
 rcases W with _ | ⟨w0, _ | ⟨w1, _ | ⟨w2, _ | ⟨w3, W⟩⟩⟩⟩ <;> first | (cases hw; done) | skip
 have hw : ((setOf w1).bind fun p => (setOf w2).map fun q => (⟨5, 0, 0, 0, 0, 0, false, false, p, q⟩ : Stp)) = some s := hw
 obtain ⟨p, hp, hw⟩ := Option.bind_eq_some_iff.1 hw
 obtain ⟨q, hq, rfl⟩ := Option.map_eq_some_iff.1 hw
 have c1 := mP hp
 have c2 := mP hq
 have c0 : Pure E.P 83 [.bool (decide (([w0, w1, w2].length : Int) = 3))] (.tu []) := aW rfl
 have hlm : (List.map wTV [w0, w1, w2]).length = 3 := rfl
 have hln : [w0, w1, w2].length = 3 := rfl
 unfold wsTV
 refine xD Tryz.func82 (by decide) rfl Tryz.ntmps82 (Nat.le_of_ble_eq_true rfl) rfl ?_
 refine rZ ?_; refine aoR fun _ => ?_
 refine rZ ?_
 apply uE; exact rfl; exact .fn _ _ _; exact rfl; (exact c0)
 refine rZ ?_
 refine uJ (E := E) ?_ (fun _ => ?_); exact rfl
 refine rZ ?_
 apply zH; exact rfl; exact rfl; exact rfl; exact rfl; exact rfl; decide
 apply vJ; exact rfl; exact .fn _ _ _; exact rfl; (exact c1)
 refine rZ ?_
 apply zH; exact rfl; exact rfl; exact rfl; exact rfl; exact rfl; decide
 apply vJ; exact rfl; exact .fn _ _ _; exact rfl; (exact c2)
 refine rZ ?_
 refine vI ?_ (by exact rfl) ?_; exact rfl
 refine rZ ?_; rotate_left
 all_goals exact ⟨rfl, leP⟩
set_option maxHeartbeats 4000000 in
theorem fence_n {W : List Bt} (hw : fenceOf W = none) (hl : W.length ≤ 65536) (τ : Stamp) : FnP E.P 82 [.lo 2 τ 10 0 0, .d (wsTV W), .d (.pt setsTV 0)] (sRows τ 0 0 0 0 0 0 false false 0 0) failC (anyS τ) := by
 unfold wsTV
 by_cases h2 : W.length = 3
 ·rcases W with _ | ⟨w0, _ | ⟨w1, _ | ⟨w2, _ | ⟨w3, W⟩⟩⟩⟩ <;> first | (exfalso; simp at h2; done) | skip
  have hw : ((setOf w1).bind fun p => (setOf w2).map fun q => (⟨5, 0, 0, 0, 0, 0, false, false, p, q⟩ : Stp)) = none := hw
  have c0 : Pure E.P 83 [.bool (decide (([w0, w1, w2].length : Int) = 3))] (.tu []) := aW rfl
  have hlm : (List.map wTV [w0, w1, w2]).length = 3 := rfl
  have hln : [w0, w1, w2].length = 3 := rfl
  refine vO (args := [.lo 2 τ 10 0 0, .d (.sl 1 ([w0, w1, w2].map wTV)), .d (.pt setsTV 0)]) Tryz.func82 (by decide) rfl Tryz.ntmps82 (Nat.le_of_ble_eq_true rfl) ?_
  refine wX (vs := []) rfl ?_
  refine rZ ?_ 2; refine aoR fun _ => ?_
  refine rZ ?_ 2
  apply uE; exact rfl; exact .fn _ _ _; exact rfl; exact c0
  refine rZ ?_ 2; rotate_left
  refine uA ?_
  cases hp : setOf w1 with
  | none =>
   refine zD (ch := failC) 5 4 [12, 13] (by decide) rfl (by decide) (by decide +kernel) (by decide) (fun d r tm σ _ h => cE h) fun v => ?_
   simp only [List.take_succ_cons, List.take_zero, List.drop_succ_cons, List.drop_zero]
   refine rZ ?_
   apply zH; exact rfl; exact rfl; exact rfl; exact rfl; exact rfl; decide
   rotate_left; refine bS ?_
   refine rZ ?_
   apply zH; exact rfl; exact rfl; exact rfl; exact rfl; exact rfl; decide
   rotate_left
   refine bT (by first | decide +kernel | (simp only [wkeys, outD, List.map_cons, List.map_nil]; decide +kernel)) ?_
   refine wS (R1 := fun l1 => l1 = []) (l0 := []) rfl (.fn _ _ _) rfl ?_ (uS _) (fun l1 hl => ?_) (fun l1 hl => ?_)
   rotate_left 1
   (subst hl; exact List.nodup_nil)
   rotate_left 1
   exact rB hp
   subst hl
   exact ⟨.panicking failC, rfl, rfl, _, yA _ _ _ _ _ _ _ _ _ _ _, leP⟩
  | some pp =>
   rw [hp, Option.bind_some, Option.map_eq_none_iff] at hw
   have c1 := mP hp
   refine zD (ch := failC) 10 0 [17, 18] (by decide) rfl (by decide) (by decide +kernel) (by decide) (fun d r tm σ _ h => cE h) fun v => ?_
   simp only [List.take_succ_cons, List.take_zero, List.drop_succ_cons, List.drop_zero]
   refine rZ ?_
   apply zH; exact rfl; exact rfl; exact rfl; exact rfl; exact rfl; decide
   apply vJ; exact rfl; exact .fn _ _ _; exact rfl; exact c1
   refine rZ ?_
   apply zH; exact rfl; exact rfl; exact rfl; exact rfl; exact rfl; decide
   rotate_left; refine bS ?_
   rotate_left
   refine bT (by first | decide +kernel | (simp only [wkeys, outD, List.map_cons, List.map_nil]; decide +kernel)) ?_
   refine wS (R1 := fun l1 => l1 = []) (l0 := []) rfl (.fn _ _ _) rfl ?_ (uS _) (fun l1 hl => ?_) (fun l1 hl => ?_)
   rotate_left 1
   (subst hl; exact List.nodup_nil)
   rotate_left 1
   exact rB hw
   subst hl
   exact ⟨.panicking failC, rfl, rfl, _, yA _ _ _ _ _ _ _ _ _ _ _, leP⟩
 ·refine vO (args := [.lo 2 τ 10 0 0, .d (.sl 1 (W.map wTV)), .d (.pt setsTV 0)]) Tryz.func82 (by decide) rfl Tryz.ntmps82 (Nat.le_of_ble_eq_true rfl) ?_
  refine wX (vs := []) rfl ?_; refine uD ?_
  refine (uN (ch := failC) 3 (by decide) rfl fun v => ?_)
  simp only [List.take_succ_cons, List.take_zero]
  refine rZ ?_; rotate_left
  refine wS (R1 := fun l1 => l1 = []) (l0 := []) rfl (.fn _ _ _) rfl ?_ (uS _) (fun l1 hl => ?_) (fun l1 hl => ?_)
  rotate_left 1
  (subst hl; exact List.nodup_nil)
  rotate_left 1
  exact aE (decide_eq_false (by omega))
  subst hl
  exact ⟨.panicking failC, rfl, rfl, _, yA _ _ _ _ _ _ _ _ _ _ _, leP⟩
theorem sL (k : Int) : Pure E.P 87 [.int .i64 k] (.fn 140 [] [.d (kindTV k)]) := by
 have f1 : Frozen 1 := ⟨trivial⟩
 refine fnA Tryz.func87 Tryz.ntmps87 ?_
 refine rZ ?_; refine aoR fun _ => ?_
 refine rZ ?_; refine aoR fun _ => ?_
 refine rZ ?_; rotate_left
 all_goals exact wQ rfl rfl
end
end
set_option maxRecDepth 100000
section
open Go.RowKit Go.Lib
section
variable {P : Program} {v j : Nat} {ops : Array Oper} {Q : Tm → Store → Prop} {rest : List Oper} {tm : Tm} {σ : Store} {dst : Option Tmp} {ty : TypeId} {pos : String} {af : Array Edge} {gd : Option (Nat × Bool)}
theorem ta_ok {T A : TypeId} {fs : Array Field} {cs : Array Value} {ys : List OV} {x : Operand} {K : OV → Store → Prop} (hA : P.underlying A = some (.struct fs)) (hx : ev tm x = some (.d (.c (.iface A (.agg cs))))) (hy : ∀ G, RepOL G ys cs.toList) (hK : K (.tu [.ag ys, .bool true]) σ) : OpOk P v j ⟨dst, .typeAssert x T A true, ty, pos, af, gd⟩ tm σ K := fA (fun c h => by cases h) fun n C G a w hs => by
 have r1 := vA (yG hs.tm hx)
 refine ⟨.tuple #[.agg cs, .bool true], _, ?_, ?_, hK⟩
 ·simp only [execOp, r1, Instr.typeAssert, Sem.run_bind, run_underlying hA, Result.andThen_ok, if_true, Sem.run_pure]
 ·rw [RepO]
  refine ⟨_, rfl, ?_⟩
  rw [RepOL]
  refine ⟨_, _, rfl, ?_, ?_⟩
  ·rw [RepO]
   exact ⟨_, rfl, hy G⟩
  ·rw [RepOL]
   exact ⟨_, _, rfl, wE rfl, by rw [RepOL]⟩
theorem S_ta {T A : TypeId} {fs : Array Field} {cs : Array Value} {ys : List OV} {x : Operand} (hA : P.underlying A = some (.struct fs)) (hx : ev tm x = some (.d (.c (.iface A (.agg cs))))) (hy : ∀ G, RepOL G ys cs.toList)
  (h : AO P v ops Q (j + 1) rest (tm.putO dst (.tu [.ag ys, .bool true])) σ) : AO P v ops Q j (⟨dst, .typeAssert x T A true, ty, pos, af, none⟩ :: rest) tm σ := pX (ta_ok hA hx hy h)
end
theorem rep_none (G : Gh) : RepOL G [] (#[] : Array Value).toList := by rw [RepOL]
def te0 : TE := ⟨.st [], 0, 0, []⟩
theorem te0_ok : te0.fits Tryz.prog 131 := ⟨⟨_, Tryz.underlying131, rfl⟩, by
 have h : (Tryz.prog.info? 131).map (fun i => (i.zero, i.size, i.bytes)) = some (some (Value.agg #[]), 0, 0) := by kernel_rfl
 obtain ⟨i, hi, h⟩ := Option.map_eq_some_iff.1 h
 simp only [Prod.mk.injEq] at h
 exact ⟨i, _, hi, h.2.1, h.2.2, h.1, rfl, rfl, rfl⟩⟩
noncomputable def E9 : Env := ⟨Tryz.prog, fun T => if T = 131 then some te0 else tyTab T, fun T e h => by
 have h : (if T = 131 then some te0 else tyTab T) = some e := h
 split at h
 ·rename_i e'; cases h; rw [e']; exact te0_ok
 ·exact oD T e h, by kernel_rfl⟩
section
variable {v j : Nat} {ops : Array Oper} {Q : Tm → Store → Prop} {rest : List Oper} {tm : Tm} {σ : Store} {ty : TypeId} {pos : String} {af : Array Edge}
theorem S_alloc0 {d k : Nat} (hK : KeyOf d k) (h : AO E.P v ops Q (j + 1) rest (tm.putO (some d) (.lo k (v, j) 0 0 0)) (σ.apply [(k, some ((v, j), ⟨0, [[]]⟩))])) : AO E.P v ops Q j (⟨some d, .alloc 131, ty, pos, af, none⟩ :: rest) tm σ := S_allocK (E := E9) (te := te0) hK rfl h
theorem S_store0 {d : Option Nat} {x z : Operand} {k : Nat} {τ : Stamp} (hx : ev tm x = some (.lo k τ 0 0 0)) (hz : ev tm z = some (.ag [])) (hs : σ k = some (τ, ⟨0, [[]]⟩))
  (h : AO E.P v ops Q (j + 1) rest (tm.putO d .un) (σ.apply [(k, some (τ, ⟨0, [[]]⟩))])) : AO E.P v ops Q j (⟨d, .store 131 x z, ty, pos, af, none⟩ :: rest) tm σ := dQ (E := E9) (te := te0) rfl hx hz rfl rfl hs rfl (Nat.le_refl _) h
end
abbrev stRows (τ τf : Stamp) (k r v n d b : Int) (a l : Bool) (p q : Int) (f : Bool) : Rows := [(2, (τ, ⟨10, [stR k r v n d b a l p q]⟩)), (3, (τf, ⟨1, [[.bool f]]⟩))]
theorem def_ok (τ τf : Stamp) (k r v n d b : Int) (a l : Bool) (p q : Int) (f : Bool) : FnD E.P 79 [.lo 2 τ 10 0 0, .lo 3 τf 1 0 0] .returning (stRows τ τf k r v n d b a l p q f) .returning (fun l1 => l1 = stRows τ τf k r v n d b a l p q f) := by
 refine sA (v := .nilIface) (fn := Tryz.f79) Tryz.func79 (by decide) rfl Tryz.ntmps79 (Nat.le_of_ble_eq_true rfl) rfl (by decide) (by decide) rfl ⟨rfl, rfl⟩ ?_
 refine rZ ?_; refine aoR fun _ => ?_
 apply kX; (exact gN); exact rfl
 refine rZ ?_; refine cnd ?_ ?_; refine uH ?_; refine aoR fun _ => ?_
 refine rZ ?_; rotate_left
 exact uI
 all_goals exact ⟨Or.inl rfl, _, rfl, leP⟩
theorem def_pan (τ τf : Stamp) (k r v n d b : Int) (a l : Bool) (p q : Int) (f : Bool) : FnD E.P 79 [.lo 2 τ 10 0 0, .lo 3 τf 1 0 0] (.panicking failC) (stRows τ τf k r v n d b a l p q f) (.panicking [{ v := failV, recovered := true }]) (fun l1 => l1 = stRows τ τf 0 0 0 0 0 0 false false 0 0 false) := by
 have k3 : KeyOf 3 950 := ⟨trivial⟩
 refine sA (v := failV) (fn := Tryz.f79) Tryz.func79 (by decide) rfl Tryz.ntmps79 (Nat.le_of_ble_eq_true rfl) rfl (by decide) (by decide) rfl ⟨rfl, rfl⟩ ?_
 refine rZ ?_; refine aoR fun _ => ?_
 apply oA; (exact gN); exact rfl
 refine rZ ?_; refine cnd ?_ ?_
 exact vN
 refine uV ?_; refine rZ ?_; refine aoR fun _ => ?_
 apply S_ta; exact Tryz.underlying131; exact rfl; exact rep_none
 refine rZ ?_; refine cnd ?_ ?_; refine uH ?_; refine rZ ?_; refine aoR fun _ => ?_
 apply S_alloc0; assumption
 apply S_store0; exact rfl; exact rfl; exact rfl
 refine rZ ?_; refine aoR fun _ => ?_
 refine rZ ?_; rotate_left
 exact uI
 all_goals exact ⟨Or.inl rfl, _, rfl, leP⟩
end
set_option maxRecDepth 100000
section
open Go.RowKit Go.Lib
def readFs : List (Value × TV) := [(.string ⟨wFence.toArray⟩, .fn 82 [] [.pt setsTV 0]), (.string ⟨wIf.toArray⟩, .fn 85 [] []), (.string ⟨wSwap.toArray⟩, .fn 140 [] [kindTV 3]), (.string ⟨wAdd.toArray⟩, .fn 140 [] [kindTV 4])]
def stepR (l : Bt) : Stp × Bool := match stepB l with
 | some s => (s, true)
 | none => (stp0, false)
theorem ba_eq {w v : Bt} : ((⟨w.toArray⟩ : ByteArray) = ⟨v.toArray⟩) ↔ w = v := by
 constructor
 ·intro h
  have := congrArg (fun x : ByteArray => x.data.toList) h
  simpa using this
 ·rintro rfl; rfl
theorem same_str (w v : Bt) : Instr.sameNow .string (.string ⟨w.toArray⟩) (.string ⟨v.toArray⟩) = some (decide (w = v)) := by
 show some ((⟨w.toArray⟩ : ByteArray) == ⟨v.toArray⟩) = _
 congr 1
 rw [Bool.eq_iff_iff, MapKept.bytes_beq, decide_eq_true_iff, ba_eq]
theorem dH (w : Bt) : lookV .string (.string ⟨w.toArray⟩) readFs = some (if w = wFence then some (.fn 82 [] [.pt setsTV 0]) else if w = wIf then some (.fn 85 [] []) else if w = wSwap then some (.fn 140 [] [kindTV 3]) else if w = wAdd then some (.fn 140 [] [kindTV 4]) else none) := by
 unfold readFs
 simp only [lookV, same_str]
 by_cases h1 : w = wFence
 ·simp [h1]
 by_cases h2 : w = wIf
 ·subst h2; simp [h1]
 by_cases h3 : w = wSwap
 ·subst h3; simp [h1, h2]
 by_cases h4 : w = wAdd
 ·subst h4; simp [h1, h2, h3]
 ·simp [h1, h2, h3, h4]
theorem zI (w : World) : (zeroValue 139).run Tryz.prog w = .ok .nilFunc w := Tryz.zeroValue139 w
theorem cX (c : UInt8) : ∀ (l w : Bt), w ∈ splitC c l → w.length ≤ l.length
 | [], w, h => by simp [splitC] at h; simp [h]
 | x :: l, w, h => by
  unfold splitC at h
  split at h
  ·rcases List.mem_cons.1 h with h | h
   ·simp [h]
   ·have := cX c l w h
    simp only [List.length_cons]; omega
  ·cases hs : splitC c l with
   | nil => exact absurd hs (yM c l)
   | cons v vs =>
    rw [hs] at h
    simp only [consW] at h
    rcases List.mem_cons.1 h with h | h
    ·have := cX c l v (by rw [hs]; simp)
     rw [h]; simp only [List.length_cons]; omega
    ·have := cX c l w (by rw [hs]; simp [h])
     simp only [List.length_cons]; omega
abbrev vs9 : List ResultVar := [.cell 2 47, .cell 3 4]
theorem finR {tm : Tm} {σ : Store} {τ τf : Stamp} {k r v n d b : Int} {a l : Bool} {p q : Int} {f : Bool} {X : OV} {Rp : List PanicEntry → Store → Prop} (hg : tm GS = none) (h2 : tm 2 = some (.lo 2 τ 10 0 0)) (h3 : tm 3 = some (.lo 3 τf 1 0 0)) (s2 : σ 2 = some (τ, ⟨10, [stR k r v n d b a l p q]⟩)) (s3 : σ 3 = some (τf, ⟨1, [[.bool f]]⟩))
  (hr : X = .tu [.ag (stR k r v n d b a l p q), .bool f]) : FinM E vs9 (fun r _ => r = X) Rp .returning tm σ :=
 ⟨hg, _, .cons (.one ⟨_, _, _, _, _, rfl, rfl, rfl, h2, s2, rfl⟩) (.cons (.cell rfl rfl h3 s3) .nil), hr.symm⟩
theorem okD {tm : Tm} {σ : Store} {τ τf : Stamp} {k r v n d b : Int} {a l : Bool} {p q : Int} {f : Bool} {X : OV} {Rp : List PanicEntry → Store → Prop} (hg : tm GS = none) (h2 : tm 2 = some (.lo 2 τ 10 0 0)) (h3 : tm 3 = some (.lo 3 τf 1 0 0)) (hs : (stL (stRows τ τf k r v n d b a l p q f)).le σ) (hr : X = .tu [.ag (stR k r v n d b a l p q), .bool f]) :
  FinD E vs9 79 [.lo 2 τ 10 0 0, .lo 3 τf 1 0 0] (fun r _ => r = X) Rp .ret tm σ :=
 ⟨.returning, rfl, _, _, _, def_ok τ τf k r v n d b a l p q f, hs, fun l1 hl => by subst hl; exact (by decide : [2, 3].Nodup), fun l1 hl => by
  subst hl
  exact finR hg h2 h3 rfl rfl hr⟩
theorem jO {tm : Tm} {σ : Store} {τ τf : Stamp} {k r v n d b : Int} {a l : Bool} {p q : Int} {f : Bool} {X : OV} {Rp : List PanicEntry → Store → Prop} (hg : tm GS = none) (h2 : tm 2 = some (.lo 2 τ 10 0 0)) (h3 : tm 3 = some (.lo 3 τf 1 0 0)) (hs : (stL (stRows τ τf k r v n d b a l p q f)).le σ) (hr : X = .tu [.ag (stR 0 0 0 0 0 0 false false 0 0), .bool false]) :
  FinD E vs9 79 [.lo 2 τ 10 0 0, .lo 3 τf 1 0 0] (fun r _ => r = X) Rp (.panic failC) tm σ :=
 ⟨.panicking failC, rfl, _, _, _, def_pan τ τf k r v n d b a l p q f, hs, fun l1 hl => by subst hl; exact (by decide : [2, 3].Nodup), fun l1 hl => by
  subst hl
  exact finR hg h2 h3 rfl rfl hr⟩
theorem finM_off {tm : Tm} {σ : Store} {X : OV} {Rp : List PanicEntry → Store → Prop} {d : Nat} {r : OV} {u : FrameMode} (hd : d ∉ [2, 3, GS]) (h : FinM E vs9 (fun r _ => r = X) Rp u (tm.put d r) σ) : FinM E vs9 (fun r _ => r = X) Rp u tm σ := by
 simp only [List.mem_cons, List.not_mem_nil, or_false, not_or] at hd
 cases u with
 | run => exact h
 | panicking ch => exact h
 | returning =>
  obtain ⟨hg, rs, hrs, hr⟩ := h
  rw [Tm.put_ne _ _ (Ne.symm hd.2.2)] at hg
  refine ⟨hg, rs, ?_, hr⟩
  have one : ∀ {t : Nat} {T : Nat} {y : OV}, t ≠ d → ResC E (tm.put d r) σ (.cell t T) y → ResC E tm σ (.cell t T) y := fun {t T y} hne h => by
   cases h with
   | one h =>
    obtain ⟨te, k, τ, row, rest, e1, e2, e3, e4, e5, e6⟩ := h
    rw [Tm.put_ne _ _ hne] at e4
    exact .one ⟨te, k, τ, row, rest, e1, e2, e3, e4, e5, e6⟩
   | cell hT ha ht hk =>
    rw [Tm.put_ne _ _ hne] at ht
    exact .cell hT ha ht hk
  cases hrs with
  | cons h1 hl =>
   cases hl with
   | cons h2 hl =>
    cases hl
    exact .cons (one (Ne.symm hd.1) h1) (.cons (one (Ne.symm hd.2.1) h2) .nil)
theorem pK {tm : Tm} {σ : Store} {X : OV} {Rp : List PanicEntry → Store → Prop} {d : Nat} {r : OV} {g : FuncId} {ca : List OV} {e : Exit} (hd : d ∉ [2, 3, GS]) (h : FinD E vs9 g ca (fun r _ => r = X) Rp e (tm.put d r) σ) : FinD E vs9 g ca (fun r _ => r = X) Rp e tm σ := by
 obtain ⟨u, hu, l0, u', R1, h1, h2, h3, h4⟩ := h
 exact ⟨u, hu, l0, u', R1, h1, h2, h3, fun l1 hl => finM_off hd (h4 l1 hl)⟩
theorem cV {l : Bt} {s : Stp} (h : stepW (splitC 32 l) = some s) : stepR l = (s, true) := by
 have : stepB l = some s := h
 unfold stepR; rw [this]
theorem yO {l : Bt} (h : stepW (splitC 32 l) = none) : stepR l = (stp0, false) := by
 have : stepB l = none := h
 unfold stepR; rw [this]
set_option maxHeartbeats 4000000 in
theorem sU (l : Bt) (hl : l.length ≤ 65535) : Pure E.P 38 [.bs l] (.tu [stOV (stepR l).1, .bool (stepR l).2]) := by
 obtain ⟨W, hW⟩ : ∃ W, W = splitC 32 l := ⟨_, rfl⟩
 have c1 := split_p l 32 (by omega)
 have hl5 : W.length ≤ 65536 := by
  have := zM 32 l
  have := fV 32 l
  rw [hW]; omega
 have hs5 : ∀ w ∈ W, w.length ≤ 65536 := fun w hw => by
  have := cX 32 l w (by rw [← hW]; exact hw)
  omega
 rw [← hW] at c1
 refine FnW.toR (fnw_of_awpF (E := E) (args := [.bs l]) (Rr := fun r _ => r = .tu [stOV (stepR l).1, .bool (stepR l).2]) Tryz.func38 (by decide) rfl Tryz.ntmps38 (Nat.le_of_ble_eq_true rfl) ?_)
 refine awpF_seq (vs := [.cell 2 47, .cell 3 4]) rfl ?_
 refine aoR fun _ => ?_; refine rZ ?_ 2
 rotate_left; refine uA ?_
 refine awpF_defer 1 rfl (by decide) rfl rfl fun v => ?_
 simp only [List.take_succ_cons, List.take_zero]
 refine rZ ?_; rotate_left
 refine ⟨_, _, rfl, rfl, ?_⟩
 rename_i v0
 refine uR (X := Unit) (fun _ => tmL [(2, .lo 2 (v0, 0) 10 0 0), (3, .lo 3 (v0, 1) 1 0 0), (4, .d (wsTV W))]) (fun _ => stL (stRows (v0, 0) (v0, 1) 0 0 0 0 0 0 false false 0 0 false)) ?_ fun _ => ?_
 ·refine aoR fun _ => ?_
  refine rZ ?_
  apply uE; exact rfl; exact .fn _ _ _; exact rfl; exact c1
  refine rZ ?_; rotate_left
  exact wA () leP leP
 refine uR (X := Stamp) (fun τ5 => tmL [(2, .lo 2 (v0, 0) 10 0 0), (3, .lo 3 (v0, 1) 1 0 0), (4, .d (wsTV W)), (5, .lo 5 τ5 4 0 0)]) (fun τ5 => stL ((5, (τ5, ⟨4, [setsTV.map .d]⟩)) :: stRows (v0, 0) (v0, 1) 0 0 0 0 0 0 false false 0 0 false)) ?_ fun τ5 => ?_
 ·refine aoR fun _ => ?_
  apply uE; exact rfl; exact .fn _ _ _; exact rfl; exact sets_p
  refine rZ ?_; rotate_left
  rename_i u
  exact wA (u, 1) leP leP
 refine wM 5 τ5 4 [setsTV] (tmL [(2, .lo 2 (v0, 0) 10 0 0), (3, .lo 3 (v0, 1) 1 0 0), (4, .d (wsTV W)), (5, .d (.pt setsTV 0))]) (stL (stRows (v0, 0) (v0, 1) 0 0 0 0 0 0 false false 0 0 false)) rfl (by repeat' (first | exact xV | exact xB | refine vK rfl (.same _) ?_ | refine vK rfl (.lo _ _ _ rfl) ?_)) (by repeat' (first | exact xV | exact xB | exact xR | exact xQ | refine vK rfl (.same _) ?_ | refine vK rfl (vL (by simp)) ?_ | refine uX (by decide) rfl (FrozR.same _) ?_ | refine uX (by decide) rfl ?_ ?_ | refine vG xC ?_ | refine vG ?_ ?_ | refine uT (.same _) ?_ | refine uT (vL (by first | rfl | simp)) ?_ | refine uT (.nil _) ?_)) ?_
 refine uR (X := Gh × Nat) (fun x => tmL [(2, .lo 2 (v0, 0) 10 0 0), (3, .lo 3 (v0, 1) 1 0 0), (4, .d (wsTV W)), (6, .d (.c (.map (some x.2)))), (GS, .gh 0 (fnmY x.1 x.2 readFs))]) (fun _ => stL (stRows (v0, 0) (v0, 1) 0 0 0 0 0 0 false false 0 0 false)) ?_ fun x => ?_
 ·refine aoR fun _ => ?_
  refine S_makeF ?_; intro _ _
  refine rZ ?_
  iterate 2 (apply qW; exact Tryz.underlying142; exact rfl; exact rfl; exact .str Tryz.underlying9; exact rfl; exact rfl; exact rfl; exact rfl; intro _)
  apply uE; exact rfl; exact .fn _ _ _; exact rfl; exact sL _
  apply qW; exact Tryz.underlying142; exact rfl; exact rfl; exact .str Tryz.underlying9; exact rfl; exact rfl; exact rfl; exact rfl; intro _
  apply uE; exact rfl; exact .fn _ _ _; exact rfl; exact sL _
  apply qW; exact Tryz.underlying142; exact rfl; exact rfl; exact .str Tryz.underlying9; exact rfl; exact rfl; exact rfl; exact rfl; intro _
  refine rZ ?_; rotate_left
  rename_i b _ _ _ g
  exact wA (g, b) leP leP
 obtain ⟨g, b⟩ := x
 have hne := yM 32 l
 rw [← hW] at hne
 obtain ⟨w0, W0, hW0⟩ := List.exists_cons_of_ne_nil hne
 have hlm : (List.map wTV W).length = W.length := List.length_map ..
 have hln : 0 < W.length := by rw [hW0]; simp
 have hg0 : W.getD (Int.toNat 0) default = w0 := by rw [hW0]; rfl
 by_cases hf : w0 = wFence
 ·have hk := dH w0
  rw [if_pos hf, ← hg0] at hk
  refine uD (uD (aoR fun _ => ?_))
  refine rZ ?_ 2
  apply xJ; exact Tryz.underlying142; exact zI; exact rfl; exact rfl; exact .str Tryz.underlying9; exact rfl; exact hk
  refine rZ ?_ 2; rotate_left
  refine uA (uD (aoR fun _ => ?_))
  refine rZ ?_ 2
  apply spT; exact rfl
  intro hc_
  have hp_ := hc_; try simp only [nrm] at hp_
  apply kY; exact rfl; exact rfl; exact evm
  refine rZ ?_ 2
  apply spT; exact rfl
  intro hc_
  have hp_ := hc_; try simp only [nrm] at hp_
  apply xO; exact evm; exact evm
  refine rZ ?_ 2; rotate_left
  refine uA (uK rfl (fun _ => ?_) (fun hx => ?_))
  ·refine cI (tmL [(2, .lo 2 (v0, 0) 10 0 0), (3, .lo 3 (v0, 1) 1 0 0), (4, .d (wsTV W)), (7, .d (.fn 82 [] [.pt setsTV 0]))]) (stL (stRows (v0, 0) (v0, 1) 0 0 0 0 0 0 false false 0 0 false)) leP leP ?_
   cases hs : fenceOf W with
   | some s =>
    have hR : stepR l = (s, true) := cV (by rw [← hW]; unfold stepW; rw [hW0, if_pos (show List.getD (w0 :: W0) 0 [] = wFence from hf), ← hW0]; exact hs)
    refine rZ ?_; refine aoR fun _ => ?_
    refine rZ ?_
    apply xT; exact rfl; (exact .d _ _ _); exact rfl; exact fence_y hs (v0, 0); exact leP; exact rfl; (exact List.nodup_cons.2 ⟨List.not_mem_nil, List.nodup_nil⟩)
    refine rZ ?_; refine aoR fun _ => ?_
    refine rZ ?_; rotate_left
    all_goals exact okD rfl rfl rfl leP (by rw [hR]; rfl)
   | none =>
    have hR : stepR l = (stp0, false) := yO (by rw [← hW]; unfold stepW; rw [hW0, if_pos (show List.getD (w0 :: W0) 0 [] = wFence from hf), ← hW0]; exact hs)
    refine uD ?_
    refine (uN (ch := failC) 2 (by decide) rfl fun v => ?_)
    simp only [List.take_succ_cons, List.take_zero]
    refine rZ ?_; rotate_left
    refine wS (R1 := anyS (v0, 0)) (l0 := sRows (v0, 0) 0 0 0 0 0 0 false false 0 0) rfl (.d _ _ _) rfl ?_ leP (fun l1 hl => ?_) (fun l1 hl => ?_)
    exact fence_n hs hl5 (v0, 0)
    ·exact hl.nodup
    ·obtain ⟨k2, r2, v2, n2, d2, b2, a2, l2, p2, q2, rfl⟩ := hl
     exact jO rfl rfl rfl leP (by rw [hR]; rfl)
  ·exfalso
   simp only [hg0] at hx
   simp [hf, wFence, wAdd] at hx
 by_cases hi : w0 = wIf
 ·have hk := dH w0
  rw [if_neg hf, if_pos hi, ← hg0] at hk
  refine uD (uD (aoR fun _ => ?_))
  refine rZ ?_ 2
  apply xJ; exact Tryz.underlying142; exact zI; exact rfl; exact rfl; exact .str Tryz.underlying9; exact rfl; exact hk
  refine rZ ?_ 2; rotate_left
  refine uA (uD (aoR fun _ => ?_))
  refine rZ ?_ 2
  apply spT; exact rfl
  intro hc_
  have hp_ := hc_; try simp only [nrm] at hp_
  apply kY; exact rfl; exact rfl; exact evm
  refine rZ ?_ 2
  apply spT; exact rfl
  intro hc_
  have hp_ := hc_; try simp only [nrm] at hp_
  apply xO; exact evm; exact evm
  refine rZ ?_ 2; rotate_left
  refine uA (uK rfl (fun _ => ?_) (fun hx => ?_))
  ·refine cI (tmL [(2, .lo 2 (v0, 0) 10 0 0), (3, .lo 3 (v0, 1) 1 0 0), (4, .d (wsTV W)), (7, .d (.fn 85 [] []))]) (stL (stRows (v0, 0) (v0, 1) 0 0 0 0 0 0 false false 0 0 false)) leP leP ?_
   cases hs : ifOf W with
   | some s =>
    have hR : stepR l = (s, true) := cV (by rw [← hW]; unfold stepW; rw [hW0, if_neg (show ¬ List.getD (w0 :: W0) 0 [] = wFence from hf), if_pos (show List.getD (w0 :: W0) 0 [] = wIf from hi), ← hW0]; exact hs)
    refine rZ ?_; refine aoR fun _ => ?_
    refine rZ ?_
    apply xT; exact rfl; (exact .d _ _ _); exact rfl; exact ifc_y hs (v0, 0); exact leP; exact rfl; (exact List.nodup_cons.2 ⟨List.not_mem_nil, List.nodup_nil⟩)
    refine rZ ?_; refine aoR fun _ => ?_
    refine rZ ?_; rotate_left
    all_goals exact okD rfl rfl rfl leP (by rw [hR]; rfl)
   | none =>
    have hR : stepR l = (stp0, false) := yO (by rw [← hW]; unfold stepW; rw [hW0, if_neg (show ¬ List.getD (w0 :: W0) 0 [] = wFence from hf), if_pos (show List.getD (w0 :: W0) 0 [] = wIf from hi), ← hW0]; exact hs)
    refine uD ?_
    refine (uN (ch := failC) 2 (by decide) rfl fun v => ?_)
    simp only [List.take_succ_cons, List.take_zero]
    refine rZ ?_; rotate_left
    refine wS (R1 := anyS (v0, 0)) (l0 := sRows (v0, 0) 0 0 0 0 0 0 false false 0 0) rfl (.d _ _ _) rfl ?_ leP (fun l1 hl => ?_) (fun l1 hl => ?_)
    exact ifc_n hs hl5 (v0, 0)
    ·exact hl.nodup
    ·obtain ⟨k2, r2, v2, n2, d2, b2, a2, l2, p2, q2, rfl⟩ := hl
     exact jO rfl rfl rfl leP (by rw [hR]; rfl)
  ·exfalso
   simp only [hg0] at hx
   simp [hi, wIf, wAdd] at hx
 refine uR (X := Unit) (fun _ => tmL [(2, .lo 2 (v0, 0) 10 0 0), (3, .lo 3 (v0, 1) 1 0 0), (4, .d (wsTV W)), (6, .d (.c (.map (some b)))), (GS, .gh 0 (fnmY g b readFs))]) (fun _ => stL (stRows (v0, 0) (v0, 1) 0 0 0 0 0 0 false false 0 0 false)) ?_ fun _ => ?_
 ·have hk := dH w0
  rw [if_neg hf, if_neg hi, ← hg0] at hk
  rw [hg0] at hk
  by_cases h3 : w0 = wSwap
  ·rw [if_pos h3, ← hg0] at hk
   refine uD (aoR fun _ => ?_)
   refine rZ ?_ 2
   apply xJ; exact Tryz.underlying142; exact zI; exact rfl; exact rfl; exact .str Tryz.underlying9; exact rfl; exact hk
   refine rZ ?_ 2; rotate_left
   refine uA (uD (aoR fun _ => ?_))
   refine rZ ?_ 2
   apply spT; exact rfl
   intro hc_
   have hp_ := hc_; try simp only [nrm] at hp_
   apply kY; exact rfl; exact rfl; exact evm
   refine rZ ?_ 2
   apply spT; exact rfl
   intro hc_
   have hp_ := hc_; try simp only [nrm] at hp_
   apply xO; exact evm; exact evm
   refine rZ ?_ 2; rotate_left
   refine uA (uK rfl (fun hx => ?_) (fun _ => ?_))
   rotate_left 1
   exact vM (wA () leP leP)
   exfalso
   simp only [hg0] at hx
   simp [h3, wSwap] at hx
  by_cases h4 : w0 = wAdd
  ·rw [if_neg h3, if_pos h4, ← hg0] at hk
   refine uD (aoR fun _ => ?_)
   refine rZ ?_ 2
   apply xJ; exact Tryz.underlying142; exact zI; exact rfl; exact rfl; exact .str Tryz.underlying9; exact rfl; exact hk
   refine rZ ?_ 2; rotate_left
   refine uA (uD (aoR fun _ => ?_))
   refine rZ ?_ 2
   apply spT; exact rfl
   intro hc_
   have hp_ := hc_; try simp only [nrm] at hp_
   apply kY; exact rfl; exact rfl; exact evm
   refine rZ ?_ 2
   apply spT; exact rfl
   intro hc_
   have hp_ := hc_; try simp only [nrm] at hp_
   apply xO; exact evm; exact evm
   refine rZ ?_ 2; rotate_left
   refine uA (uK rfl (fun hx => ?_) (fun _ => ?_))
   rotate_left 1
   exact vM (wA () leP leP)
   exfalso
   simp only [hg0] at hx
   simp [h4, wAdd] at hx
  ·rw [if_neg h3, if_neg h4, ← hg0] at hk
   refine uD (aoR fun _ => ?_)
   refine rZ ?_ 2
   apply xJ; exact Tryz.underlying142; exact zI; exact rfl; exact rfl; exact .str Tryz.underlying9; exact rfl; exact hk
   refine rZ ?_ 2; rotate_left
   refine uA (uD (aoR fun _ => ?_))
   refine rZ ?_ 2
   apply spT; exact rfl
   intro hc_
   have hp_ := hc_; try simp only [nrm] at hp_
   apply kY; exact rfl; exact rfl; exact evm
   refine rZ ?_ 2
   apply spT; exact rfl
   intro hc_
   have hp_ := hc_; try simp only [nrm] at hp_
   apply xO; exact evm; exact evm
   refine rZ ?_ 2; rotate_left
   refine uA (uK rfl (fun hx => ?_) (fun _ => ?_))
   rotate_left 1
   exact vM (wA () leP leP)
   exfalso
   simp at hx
 have hE : stepW (splitC 32 l) = if ¬ (3 ≤ W.length ∧ W.getD 1 [] = wEq) then none else if W.getD 2 [] = wSwap then bothOf 3 W else if W.getD 2 [] = wAdd then bothOf 4 W else if w0.head? = some 114 then loadOf W else storeOf W := by
  rw [← hW]
  unfold stepW
  rw [if_neg (show ¬ W.getD 0 [] = wFence by rw [hW0]; exact hf), if_neg (show ¬ W.getD 0 [] = wIf by rw [hW0]; exact hi)]
  have e : W.getD 0 [] = w0 := by rw [hW0]; rfl
  rw [e]
 by_cases h9 : 3 ≤ W.length ∧ W.getD 1 [] = wEq
 rotate_left 1
 ·rw [if_pos h9] at hE
  have hR : stepR l = (stp0, false) := yO hE
  refine cI (tmL [(2, .lo 2 (v0, 0) 10 0 0), (3, .lo 3 (v0, 1) 1 0 0), (4, .d (wsTV W))]) (stL (stRows (v0, 0) (v0, 1) 0 0 0 0 0 0 false false 0 0 false)) leP leP ?_; refine uD ?_
  refine (uN (ch := failC) 9 (by decide) rfl fun v => ?_)
  simp only [List.take_succ_cons, List.take_zero]
  refine rZ ?_
  apply spT; exact rfl
  intro hc_
  have hp_ := hc_; try simp only [nrm] at hp_
  apply vC; exact evm; exact evm
  refine rZ ?_; rotate_left
  refine wS (R1 := fun l1 => l1 = []) (l0 := []) rfl (.fn _ _ _) rfl ?_ (uS _) (fun l1 hl => ?_) (fun l1 hl => ?_)
  rotate_left 1
  (subst hl; exact List.nodup_nil)
  rotate_left 1
  (exact aE (by
     by_cases h0 : 3 ≤ W.length
     ·rw [decide_eq_false (show ¬ W.getD (Int.toNat 1) default = [61] from fun h => h9 ⟨h0, h⟩), Bool.and_false]
     ·rw [decide_eq_false (show ¬ (3 : Int) ≤ W.length by omega), Bool.false_and]))
  subst hl
  exact jO rfl rfl rfl leP (by rw [hR]; rfl)
 rw [if_neg (not_not_intro h9)] at hE
 obtain ⟨h3l, h3e⟩ := h9
 have c9 : Pure E.P 83 [.bool (decide ((3 : Int) ≤ W.length) && decide (W.getD (Int.toNat 1) default = [61]))] (.tu []) := aW (by
  rw [decide_eq_true (show (3 : Int) ≤ W.length by omega), decide_eq_true (show W.getD (Int.toNat 1) default = [61] from h3e)]; rfl)
 refine uD (aoR fun _ => ?_)
 refine rZ ?_ 2
 apply spT; exact rfl
 intro hc_
 have hp_ := hc_; try simp only [nrm] at hp_
 apply vC; exact evm; exact evm
 refine rZ ?_ 2
 apply uE; exact rfl; exact .fn _ _ _; exact rfl; exact c9
 refine rZ ?_ 2; rotate_left
 refine uA ?_
 obtain ⟨w2, hg2⟩ : ∃ w2, W.getD (Int.toNat 2) default = w2 := ⟨_, rfl⟩
 have hg2' : W.getD 2 [] = w2 := hg2
 rw [hg2'] at hE
 have hk := dH w2
 by_cases h6 : w2 = wSwap
 ·rw [if_neg (by rw [h6]; decide), if_neg (by rw [h6]; decide), if_pos h6, ← hg2] at hk
  rw [if_pos h6] at hE
  refine uD (uD (aoR fun _ => ?_))
  refine rZ ?_ 2
  apply xJ; exact Tryz.underlying142; exact zI; exact rfl; exact rfl; exact .str Tryz.underlying9; exact rfl; exact hk
  refine rZ ?_ 2; rotate_left
  refine uA (uD (aoR fun _ => ?_))
  refine rZ ?_ 2
  apply spT; exact rfl
  intro hc_
  have hp_ := hc_; try simp only [nrm] at hp_
  apply xO; exact evm; exact evm
  refine rZ ?_ 2
  apply spT; exact rfl
  intro hc_
  have hp_ := hc_; try simp only [nrm] at hp_
  apply xO; exact evm; exact evm
  refine rZ ?_ 2; rotate_left
  refine uA (uK rfl (fun _ => ?_) (fun hx => ?_))
  ·refine cI (tmL [(2, .lo 2 (v0, 0) 10 0 0), (3, .lo 3 (v0, 1) 1 0 0), (4, .d (wsTV W)), (9, .d (.fn 140 [] [kindTV 3]))]) (stL (stRows (v0, 0) (v0, 1) 0 0 0 0 0 0 false false 0 0 false)) leP leP ?_
   cases hs : bothOf 3 W with
   | some s =>
    have hR : stepR l = (s, true) := cV (by rw [hE]; exact hs)
    refine rZ ?_; refine aoR fun _ => ?_
    refine rZ ?_
    apply xT; exact rfl; (exact .d _ _ _); exact rfl; exact tZ hs hl5 hs5 (v0, 0); exact leP; exact rfl; (exact List.nodup_cons.2 ⟨List.not_mem_nil, List.nodup_nil⟩)
    refine rZ ?_; refine aoR fun _ => ?_
    refine rZ ?_; rotate_left
    all_goals exact okD rfl rfl rfl leP (by rw [hR]; rfl)
   | none =>
    have hR : stepR l = (stp0, false) := yO (by rw [hE]; exact hs)
    refine uD ?_
    refine (uN (ch := failC) 2 (by decide) rfl fun v => ?_)
    simp only [List.take_succ_cons, List.take_zero]
    refine rZ ?_; rotate_left
    refine wS (R1 := anyS (v0, 0)) (l0 := sRows (v0, 0) 0 0 0 0 0 0 false false 0 0) rfl (.d _ _ _) rfl ?_ leP (fun l1 hl => ?_) (fun l1 hl => ?_)
    exact uAA hs hl5 hs5 (v0, 0)
    ·exact hl.nodup
    ·obtain ⟨k2, r2, v2, n2, d2, b2, a2, l2, p2, q2, rfl⟩ := hl
     exact jO rfl rfl rfl leP (by rw [hR]; rfl)
  ·exfalso
   simp only [hg2] at hx
   simp [h6, wSwap] at hx
 by_cases h7 : w2 = wAdd
 ·rw [if_neg (by rw [h7]; decide), if_neg (by rw [h7]; decide), if_neg h6, if_pos h7, ← hg2] at hk
  rw [if_neg h6, if_pos h7] at hE
  refine uD (uD (aoR fun _ => ?_))
  refine rZ ?_ 2
  apply xJ; exact Tryz.underlying142; exact zI; exact rfl; exact rfl; exact .str Tryz.underlying9; exact rfl; exact hk
  refine rZ ?_ 2; rotate_left
  refine uA (uD (aoR fun _ => ?_))
  refine rZ ?_ 2
  apply spT; exact rfl
  intro hc_
  have hp_ := hc_; try simp only [nrm] at hp_
  apply xO; exact evm; exact evm
  refine rZ ?_ 2
  apply spT; exact rfl
  intro hc_
  have hp_ := hc_; try simp only [nrm] at hp_
  apply xO; exact evm; exact evm
  refine rZ ?_ 2; rotate_left
  refine uA (uK rfl (fun _ => ?_) (fun hx => ?_))
  ·refine cI (tmL [(2, .lo 2 (v0, 0) 10 0 0), (3, .lo 3 (v0, 1) 1 0 0), (4, .d (wsTV W)), (9, .d (.fn 140 [] [kindTV 4]))]) (stL (stRows (v0, 0) (v0, 1) 0 0 0 0 0 0 false false 0 0 false)) leP leP ?_
   cases hs : bothOf 4 W with
   | some s =>
    have hR : stepR l = (s, true) := cV (by rw [hE]; exact hs)
    refine rZ ?_; refine aoR fun _ => ?_
    refine rZ ?_
    apply xT; exact rfl; (exact .d _ _ _); exact rfl; exact tZ hs hl5 hs5 (v0, 0); exact leP; exact rfl; (exact List.nodup_cons.2 ⟨List.not_mem_nil, List.nodup_nil⟩)
    refine rZ ?_; refine aoR fun _ => ?_
    refine rZ ?_; rotate_left
    all_goals exact okD rfl rfl rfl leP (by rw [hR]; rfl)
   | none =>
    have hR : stepR l = (stp0, false) := yO (by rw [hE]; exact hs)
    refine uD ?_
    refine (uN (ch := failC) 2 (by decide) rfl fun v => ?_)
    simp only [List.take_succ_cons, List.take_zero]
    refine rZ ?_; rotate_left
    refine wS (R1 := anyS (v0, 0)) (l0 := sRows (v0, 0) 0 0 0 0 0 0 false false 0 0) rfl (.d _ _ _) rfl ?_ leP (fun l1 hl => ?_) (fun l1 hl => ?_)
    exact uAA hs hl5 hs5 (v0, 0)
    ·exact hl.nodup
    ·obtain ⟨k2, r2, v2, n2, d2, b2, a2, l2, p2, q2, rfl⟩ := hl
     exact jO rfl rfl rfl leP (by rw [hR]; rfl)
  ·exfalso
   simp only [hg2] at hx
   simp [h7, wAdd] at hx
 rw [if_neg h6, if_neg h7] at hE
 refine uR (X := Unit) (fun _ => tmL [(2, .lo 2 (v0, 0) 10 0 0), (3, .lo 3 (v0, 1) 1 0 0), (4, .d (wsTV W))]) (fun _ => stL (stRows (v0, 0) (v0, 1) 0 0 0 0 0 0 false false 0 0 false)) ?_ fun _ => ?_
 ·by_cases h4 : w2 = wFence
  ·rw [if_pos h4, ← hg2] at hk
   refine uD (aoR fun _ => ?_)
   refine rZ ?_ 2
   apply xJ; exact Tryz.underlying142; exact zI; exact rfl; exact rfl; exact .str Tryz.underlying9; exact rfl; exact hk
   refine rZ ?_ 2; rotate_left
   refine uA (uD (aoR fun _ => ?_))
   refine rZ ?_ 2
   apply spT; exact rfl
   intro hc_
   have hp_ := hc_; try simp only [nrm] at hp_
   apply xO; exact evm; exact evm
   refine rZ ?_ 2
   apply spT; exact rfl
   intro hc_
   have hp_ := hc_; try simp only [nrm] at hp_
   apply xO; exact evm; exact evm
   refine rZ ?_ 2; rotate_left
   refine uA (uK rfl (fun hx => ?_) (fun _ => ?_))
   rotate_left 1
   exact vM (wA () leP leP)
   exfalso
   simp only [hg2] at hx
   simp [h4, wFence] at hx
  by_cases h5 : w2 = wIf
  ·rw [if_neg h4, if_pos h5, ← hg2] at hk
   refine uD (aoR fun _ => ?_)
   refine rZ ?_ 2
   apply xJ; exact Tryz.underlying142; exact zI; exact rfl; exact rfl; exact .str Tryz.underlying9; exact rfl; exact hk
   refine rZ ?_ 2; rotate_left
   refine uA (uD (aoR fun _ => ?_))
   refine rZ ?_ 2
   apply spT; exact rfl
   intro hc_
   have hp_ := hc_; try simp only [nrm] at hp_
   apply xO; exact evm; exact evm
   refine rZ ?_ 2
   apply spT; exact rfl
   intro hc_
   have hp_ := hc_; try simp only [nrm] at hp_
   apply xO; exact evm; exact evm
   refine rZ ?_ 2; rotate_left
   refine uA (uK rfl (fun hx => ?_) (fun _ => ?_))
   rotate_left 1
   exact vM (wA () leP leP)
   exfalso
   simp only [hg2] at hx
   simp [h5, wIf] at hx
  ·rw [if_neg h4, if_neg h5, if_neg h6, if_neg h7, ← hg2] at hk
   refine uD (aoR fun _ => ?_)
   refine rZ ?_ 2
   apply xJ; exact Tryz.underlying142; exact zI; exact rfl; exact rfl; exact .str Tryz.underlying9; exact rfl; exact hk
   refine rZ ?_ 2; rotate_left
   refine uA (uD (aoR fun _ => ?_))
   refine rZ ?_ 2
   apply spT; exact rfl
   intro hc_
   have hp_ := hc_; try simp only [nrm] at hp_
   apply xO; exact evm; exact evm
   refine rZ ?_ 2
   apply spT; exact rfl
   intro hc_
   have hp_ := hc_; try simp only [nrm] at hp_
   apply xO; exact evm; exact evm
   refine rZ ?_ 2; rotate_left
   refine uA (uK rfl (fun hx => ?_) (fun _ => ?_))
   rotate_left 1
   exact vM (wA () leP leP)
   exfalso
   simp at hx
 subst hW0
 rcases W0 with _ | ⟨w1, _ | ⟨w2', W3⟩⟩ <;> first | (exfalso; simp at h3l; done) | skip
 obtain rfl : w2 = w2' := hg2.symm
 have hl3 : (w0 :: w1 :: w2 :: W3).length = W3.length + 3 := by simp
 have c14 := tN w0 [114] (by have := hs5 w0 (by simp); omega) (by decide)
 rw [nI] at c14
 by_cases hh : w0.head? = some 114
 ·rw [decide_eq_true hh] at c14
  rw [if_pos hh] at hE
  have hE : stepW (splitC 32 l) = (regOf w0).bind fun r => (nameOf w2).bind fun v => (suffOf W3).map fun x => (⟨1, r, v, 0, 0, x.1, x.2.1, x.2.2, 0, 0⟩ : Stp) := hE
  cases hr : regOf w0 with
  | none =>
   have hR : stepR l = (stp0, false) := yO (by rw [hE, hr]; rfl)
   refine uD (uD (aoR fun _ => ?_))
   refine rZ ?_ 2
   apply uE; exact rfl; exact .fn _ _ _; exact rfl; exact c14
   refine rZ ?_ 2; rotate_left
   refine uA (eL rfl ?_)
   refine zD (ch := failC) 3 3 [87, 2, 3, GS] (by decide) rfl (by decide) (by decide +kernel) (by decide) (fun d r tm σ hd h => pK (fun hm => hd (List.mem_cons_of_mem _ hm)) h) fun v => ?_
   simp only [List.take_succ_cons, List.take_zero, List.drop_succ_cons, List.drop_zero]
   refine rZ ?_; rotate_left
   refine bS ?_; refine rZ ?_; rotate_left
   refine bT (by first | decide +kernel | (simp only [wkeys, outD, List.map_cons, List.map_nil]; decide +kernel)) ?_
   refine wS (R1 := fun l1 => l1 = []) (l0 := []) rfl (.fn _ _ _) rfl ?_ (uS _) (fun l1 hl => ?_) (fun l1 hl => ?_)
   rotate_left 1
   (subst hl; exact List.nodup_nil)
   rotate_left 1
   exact kV hr
   subst hl
   exact jO rfl rfl rfl leP (by rw [hR]; rfl)
  | some rr =>
   rw [hr, Option.bind_some] at hE
   have c15 := eQ hr
   cases hv : nameOf w2 with
   | none =>
    have hR : stepR l = (stp0, false) := yO (by rw [hE, hv]; rfl)
    refine uD (uD (aoR fun _ => ?_))
    refine rZ ?_ 2
    apply uE; exact rfl; exact .fn _ _ _; exact rfl; exact c14
    refine rZ ?_ 2; rotate_left
    refine uA (eL rfl ?_)
    refine zD (ch := failC) 7 0 [91, 2, 3, GS] (by decide) rfl (by decide) (by decide +kernel) (by decide) (fun d r tm σ hd h => pK (fun hm => hd (List.mem_cons_of_mem _ hm)) h) fun v => ?_
    simp only [List.take_succ_cons, List.take_zero, List.drop_succ_cons, List.drop_zero]
    refine rZ ?_
    apply vJ; exact rfl; exact .fn _ _ _; exact rfl; exact c15
    refine rZ ?_; rotate_left
    refine bS ?_; rotate_left
    refine bT (by first | decide +kernel | (simp only [wkeys, outD, List.map_cons, List.map_nil]; decide +kernel)) ?_
    refine wS (R1 := fun l1 => l1 = []) (l0 := []) rfl (.fn _ _ _) rfl ?_ (uS _) (fun l1 hl => ?_) (fun l1 hl => ?_)
    rotate_left 1
    (subst hl; exact List.nodup_nil)
    rotate_left 1
    exact nW hv
    subst hl
    exact jO rfl rfl rfl leP (by rw [hR]; rfl)
   | some vv =>
    rw [hv, Option.bind_some] at hE
    have c16 := iW hv
    refine uR (X := Unit) (fun _ => tmL [(2, .lo 2 (v0, 0) 10 0 0), (3, .lo 3 (v0, 1) 1 0 0), (4, .d (wsTV (w0 :: w1 :: w2 :: W3)))]) (fun _ => stL (stRows (v0, 0) (v0, 1) 1 rr vv 0 0 0 false false 0 0 false)) ?_ fun _ => ?_
    ·refine rZ ?_
     refine aoR fun _ => ?_; refine rZ ?_
     apply uE; exact rfl; exact .fn _ _ _; exact rfl; (exact c14)
     refine rZ ?_; refine cnd ?_ ?_; refine uH ?_
     refine uJ (E := E) ?_ (fun _ => ?_); exact rfl
     refine rZ ?_
     apply vJ; exact rfl; exact .fn _ _ _; exact rfl; (exact c15)
     refine rZ ?_
     apply vJ; exact rfl; exact .fn _ _ _; exact rfl; (exact c16)
     refine rZ ?_; rotate_left
     exact uI
     all_goals exact wA () leP leP
    cases hx : suffOf W3 with
    | none =>
     have hR : stepR l = (stp0, false) := yO (by rw [hE]; rw [hx]; rfl)
     have c4 : ∀ L, L = W3.map wTV → FnP E.P 91 [.lo 2 (v0, 0) 10 0 0, .d (.sl 1 L)] (sRows (v0, 0) 1 rr vv 0 0 0 false false 0 0) failC (anyS (v0, 0)) := fun L hL => by
      subst hL
      exact (jC hx (by omega) 1 rr vv 0 0 0 0 (v0, 0)).imp fun l1 ⟨b, a, l, e⟩ => ⟨_, _, _, _, _, b, a, l, _, _, e⟩
     refine uD ?_
     refine (uN (ch := failC) 2 (by decide) rfl fun v => ?_)
     simp only [List.take_succ_cons, List.take_zero]
     refine rZ ?_; rotate_left
     refine wS (R1 := anyS (v0, 0)) (l0 := sRows (v0, 0) 1 rr vv 0 0 0 false false 0 0) rfl (.fn _ _ _) rfl ?_ leP (fun l1 hl => ?_) (fun l1 hl => ?_)
     exact c4 _ (aX (w0 :: w1 :: w2 :: W3) 3 _ (by omega))
     ·exact hl.nodup
     ·obtain ⟨k2, r2, v2, n2, d2, b2, a2, l2, p2, q2, rfl⟩ := hl
      exact jO rfl rfl rfl leP (by rw [hR]; rfl)
    | some x =>
     have hR : stepR l = (⟨1, rr, vv, 0, 0, x.1, x.2.1, x.2.2, 0, 0⟩, true) := cV (by rw [hE]; rw [hx]; rfl)
     have c4 : ∀ L, L = W3.map wTV → FnW E.P 91 [.lo 2 (v0, 0) 10 0 0, .d (.sl 1 L)] (stL (sRows (v0, 0) 1 rr vv 0 0 0 false false 0 0)) (IsW (.tu []) (stL (sRows (v0, 0) 1 rr vv 0 0 x.1 x.2.1 x.2.2 0 0))) := fun L hL => by
      subst hL
      exact jB hx (by omega) 1 rr vv 0 0 0 0 (v0, 0)
     refine rZ ?_; refine aoR fun _ => ?_
     refine rZ ?_
     apply xT; exact rfl; exact .fn _ _ _; exact rfl; exact c4 _ (aX (w0 :: w1 :: w2 :: W3) 3 _ (by omega)); exact leP; exact rfl; (exact List.nodup_cons.2 ⟨List.not_mem_nil, List.nodup_nil⟩)
     refine rZ ?_; refine aoR fun _ => ?_
     refine rZ ?_; rotate_left
     all_goals exact okD rfl rfl rfl leP (by rw [hR]; rfl)
 ·rw [decide_eq_false hh] at c14
  rw [if_neg hh] at hE
  have hE : stepW (splitC 32 l) = (nameOf w0).bind fun v => (operOf w2).bind fun o => (suffOf W3).map fun x => (⟨2, 0, v, o.2, o.1, x.1, x.2.1, x.2.2, 0, 0⟩ : Stp) := hE
  cases hv : nameOf w0 with
  | none =>
   have hR : stepR l = (stp0, false) := yO (by rw [hE, hv]; rfl)
   refine uD (uD (aoR fun _ => ?_))
   refine rZ ?_ 2
   apply uE; exact rfl; exact .fn _ _ _; exact rfl; exact c14
   refine rZ ?_ 2; rotate_left
   refine uA (kQ rfl (uD ?_))
   refine (uN (ch := failC) 3 (by decide) rfl fun v => ?_)
   simp only [List.take_succ_cons, List.take_zero]
   refine rZ ?_; rotate_left
   refine wS (R1 := fun l1 => l1 = []) (l0 := []) rfl (.fn _ _ _) rfl ?_ (uS _) (fun l1 hl => ?_) (fun l1 hl => ?_)
   rotate_left 1
   (subst hl; exact List.nodup_nil)
   rotate_left 1
   exact nW hv
   subst hl
   exact jO rfl rfl rfl leP (by rw [hR]; rfl)
  | some vv =>
   rw [hv, Option.bind_some] at hE
   have c16 := iW hv
   have hl2 := hs5 w2 (by simp)
   cases ho : operOf w2 with
   | none =>
    have hR : stepR l = (stp0, false) := yO (by rw [hE, ho]; rfl)
    refine uD (uD (aoR fun _ => ?_))
    refine rZ ?_ 2
    apply uE; exact rfl; exact .fn _ _ _; exact rfl; exact c14
    refine rZ ?_ 2; rotate_left
    refine uA (kQ rfl (uD ?_)); refine aoR fun _ => ?_
    refine rZ ?_ 2
    apply uE; exact rfl; exact .fn _ _ _; exact rfl; exact c16
    refine rZ ?_ 2; rotate_left
    refine uA ?_
    refine (uN (ch := failC) 3 (by decide) rfl fun v => ?_)
    simp only [List.take_succ_cons, List.take_zero]
    refine rZ ?_; rotate_left
    refine wS (R1 := fun l1 => l1 = sRows (v0, 0) 2 0 vv 0 0 0 false false 0 0) (l0 := sRows (v0, 0) 2 0 vv 0 0 0 false false 0 0) rfl (.fn _ _ _) rfl ?_ leP (fun l1 hl => ?_) (fun l1 hl => ?_)
    exact lT ho hl2 2 0 vv 0 0 0 false false 0 0 (v0, 0)
    ·subst hl; exact (yA _ _ _ _ _ _ _ _ _ _ _).nodup
    ·subst hl
     exact jO rfl rfl rfl leP (by rw [hR]; rfl)
   | some o =>
    rw [ho, Option.bind_some] at hE
    have c17 := gI ho hl2 2 0 vv 0 false false 0 0 (v0, 0)
    refine uR (X := Unit) (fun _ => tmL [(2, .lo 2 (v0, 0) 10 0 0), (3, .lo 3 (v0, 1) 1 0 0), (4, .d (wsTV (w0 :: w1 :: w2 :: W3)))]) (fun _ => stL (stRows (v0, 0) (v0, 1) 2 0 vv o.2 o.1 0 false false 0 0 false)) ?_ fun _ => ?_
    ·refine rZ ?_
     refine aoR fun _ => ?_; refine rZ ?_
     apply uE; exact rfl; exact .fn _ _ _; exact rfl; (exact c14)
     refine rZ ?_; refine cnd ?_ ?_
     exact vN
     refine uV ?_; refine rZ ?_; refine aoR fun _ => ?_
     refine rZ ?_
     apply uE; exact rfl; exact .fn _ _ _; exact rfl; (exact c16)
     refine rZ ?_; refine aoR fun _ => ?_
     refine rZ ?_
     apply xT; exact rfl; exact .fn _ _ _; exact rfl; exact c17; exact leP; exact rfl; (exact List.nodup_cons.2 ⟨List.not_mem_nil, List.nodup_nil⟩)
     refine rZ ?_; rotate_left
     all_goals exact wA () leP leP
    cases hx : suffOf W3 with
    | none =>
     have hR : stepR l = (stp0, false) := yO (by rw [hE]; rw [hx]; rfl)
     have c4 : ∀ L, L = W3.map wTV → FnP E.P 91 [.lo 2 (v0, 0) 10 0 0, .d (.sl 1 L)] (sRows (v0, 0) 2 0 vv o.2 o.1 0 false false 0 0) failC (anyS (v0, 0)) := fun L hL => by
      subst hL
      exact (jC hx (by omega) 2 0 vv o.2 o.1 0 0 (v0, 0)).imp fun l1 ⟨b, a, l, e⟩ => ⟨_, _, _, _, _, b, a, l, _, _, e⟩
     refine uD ?_
     refine (uN (ch := failC) 2 (by decide) rfl fun v => ?_)
     simp only [List.take_succ_cons, List.take_zero]
     refine rZ ?_; rotate_left
     refine wS (R1 := anyS (v0, 0)) (l0 := sRows (v0, 0) 2 0 vv o.2 o.1 0 false false 0 0) rfl (.fn _ _ _) rfl ?_ leP (fun l1 hl => ?_) (fun l1 hl => ?_)
     exact c4 _ (aX (w0 :: w1 :: w2 :: W3) 3 _ (by omega))
     ·exact hl.nodup
     ·obtain ⟨k2, r2, v2, n2, d2, b2, a2, l2, p2, q2, rfl⟩ := hl
      exact jO rfl rfl rfl leP (by rw [hR]; rfl)
    | some x =>
     have hR : stepR l = (⟨2, 0, vv, o.2, o.1, x.1, x.2.1, x.2.2, 0, 0⟩, true) := cV (by rw [hE]; rw [hx]; rfl)
     have c4 : ∀ L, L = W3.map wTV → FnW E.P 91 [.lo 2 (v0, 0) 10 0 0, .d (.sl 1 L)] (stL (sRows (v0, 0) 2 0 vv o.2 o.1 0 false false 0 0)) (IsW (.tu []) (stL (sRows (v0, 0) 2 0 vv o.2 o.1 x.1 x.2.1 x.2.2 0 0))) := fun L hL => by
      subst hL
      exact jB hx (by omega) 2 0 vv o.2 o.1 0 0 (v0, 0)
     refine rZ ?_; refine aoR fun _ => ?_
     refine rZ ?_
     apply xT; exact rfl; exact .fn _ _ _; exact rfl; exact c4 _ (aX (w0 :: w1 :: w2 :: W3) 3 _ (by omega)); exact leP; exact rfl; (exact List.nodup_cons.2 ⟨List.not_mem_nil, List.nodup_nil⟩)
     refine rZ ?_; refine aoR fun _ => ?_
     refine rZ ?_; rotate_left
     all_goals exact okD rfl rfl rfl leP (by rw [hR]; rfl)
end
section
variable {k s : Nat} {τ : Stamp} {rows : List (List TV)}
structure FrC (k : Nat) (τ : Stamp) (s : Nat) (rows : List (List TV)) (a b : List OV) : Prop where
 len : a.length = b.length
 cells : ∀ (o : Nat) (y' : OV), b[o]? = some y' → ∃ y : OV, a[o]? = some y ∧ Froz k τ s rows y y'
theorem xR : FrC k τ s rows [] [] := ⟨rfl, fun o y' h => by simp at h⟩
theorem uT {y y' : OV} {a b : List OV} (h : Froz k τ s rows y y') (hl : FrC k τ s rows a b) : FrC k τ s rows (y :: a) (y' :: b) :=
 ⟨by simp [hl.len], fun o z hz => by
  match o, hz with
  | 0, hz => cases hz; exact ⟨y, rfl, h⟩
  | o + 1, hz => exact hl.cells o z hz⟩
theorem xC {a : List OV} : FrC k τ s rows a a := ⟨rfl, fun _ y' h => ⟨y', h, .same y'⟩⟩
theorem xQ {q : Nat} : FrozR k τ s rows ⟨q, []⟩ ⟨q, []⟩ := FrozR.same _
theorem vG {q : Nat} {a b : List OV} {l l' : List (List OV)} (h : FrC k τ s rows a b) (hl : FrozR k τ s rows ⟨q, l⟩ ⟨q, l'⟩) : FrozR k τ s rows ⟨q, a :: l⟩ ⟨q, b :: l'⟩ :=
 ⟨rfl, by simpa using hl.2.1, fun i row' hi => by
  match i, hi with
  | 0, hi => cases hi; exact ⟨a, rfl, h.len, h.cells⟩
  | i + 1, hi => exact hl.2.2 i row' hi⟩
end
variable {σ : Store} {w : World} {τx : Stamp} {row : List OV} {tm : Tm} {Q : Exit → Tm → Store → Prop}
theorem WRel.cell {Γ : Ctx} {G : Gh} {kx q i o : Nat} {rows : List (List OV)} {y y' : OV} (hw : WRel Γ G σ w) (hk : σ kx = some (τx, ⟨q, rows⟩)) (hr : rows[i]? = some row) (ho : row[o]? = some y) (hy : ∀ x, RepO G y x → RepO G y' x) :
  WRel Γ G (σ.put kx (τx, ⟨q, rows.set i (row.set o y')⟩)) w where
 mem := hw.mem
 own j τ' r' hj := by
  by_cases e : j = kx
  ·subst e
   rw [Store.put_self] at hj
   cases hj
   rcases hw.own j _ _ hk with ⟨_, g2⟩ | ⟨β, g1, ⟨cs, c1, c2, c3, c4⟩, g3, g4⟩
   ·have g2' : rows = [] := g2
    rw [g2'] at hr; simp at hr
   ·refine Or.inr ⟨β, g1, ⟨cs, c1, c2, by simpa using c3, fun i' row' hi => ?_⟩, g3, g4⟩
    by_cases ei : i' = i
    ·subst ei
     obtain ⟨d1, d2⟩ := c4 i' row hr
     have hlt : i' < rows.length := by
      rcases Nat.lt_or_ge i' rows.length with h | h
      ·exact h
      ·rw [List.getElem?_eq_none h] at hr; cases hr
     have hi' : (rows.set i' (row.set o y'))[i']? = some row' := hi
     rw [List.getElem?_set_self hlt] at hi'
     cases hi'
     refine ⟨by rw [List.length_set]; exact d1, fun o' z hz => ?_⟩
     by_cases eo : o' = o
     ·subst eo
      have hlo : o' < row.length := by
       rcases Nat.lt_or_ge o' row.length with h | h
       ·exact h
       ·rw [List.getElem?_eq_none h] at ho; cases ho
      rw [List.getElem?_set_self hlo] at hz
      cases hz
      obtain ⟨v, e6, e7⟩ := d2 o' y ho
      exact ⟨v, e6, hy v e7⟩
     ·rw [List.getElem?_set_ne (Ne.symm eo)] at hz
      exact d2 o' z hz
    ·have hi' : (rows.set i (row.set o y'))[i']? = some row' := hi
     rw [List.getElem?_set_ne (Ne.symm ei)] at hi'
     exact c4 i' row' hi'
  ·rw [Store.put_ne _ _ e] at hj
   exact hw.own j τ' r' hj
 inj j j' τ1 τ2 β β' r r' hj hj' hμ hμ' e := by
  have old : ∀ j τ r, (σ.put kx (τx, ⟨q, rows.set i (row.set o y')⟩)) j = some (τ, r) → ∃ r0, σ j = some (τ, r0) := fun j τ r h => by
   by_cases e : j = kx
   ·subst e; rw [Store.put_self] at h; cases h; exact ⟨_, hk⟩
   ·rw [Store.put_ne _ _ e] at h; exact ⟨r, h⟩
  obtain ⟨r1, h1⟩ := old _ _ _ hj
  obtain ⟨r2, h2⟩ := old _ _ _ hj'
  exact hw.inj j j' τ1 τ2 β β' r1 r2 h1 h2 hμ hμ' e
 keep := hw.keep
 size := hw.size
 tape := hw.tape
 os := hw.os
 output := hw.output
 g0 := hw.g0
 new := hw.new
 bound := hw.bound
 low := hw.low
theorem SRel.tell {n : Nat} {C : Cx} {G G' : Gh} {σ' : Store} {a : Act} (hs : SRel n C G tm σ a w) (hle : G.le G') (hw : WRel C.Γ G' σ' w) : SRel n C G' tm σ' a w :=
 ⟨hs.size, hs.defers, hs.tm.mono hle, hw, hs.fix, hs.marks, fun i Y hi => let ⟨h1, h2, h3⟩ := hs.gh i Y hi; ⟨h1, h2.trans hle, h3⟩⟩
theorem bI {P : Program} {n : Nat} {c : Code} {kx q i o : Nat} {rows : List (List OV)} (k s : Nat) (hk : σ kx = some (τx, ⟨q, rows⟩)) (hr : rows[i]? = some row) (ho : row[o]? = some (.d (.c (.slice none 0 0)))) (hne : kx ≠ k) (h : ∀ τ, awp P n c Q tm ((σ.put k (τ, ⟨s, []⟩)).put kx (τx, ⟨q, rows.set i (row.set o (.os k τ s 0))⟩))) : awp P n c Q tm σ := fun C ro G a w hro hs => by
 obtain ⟨v, hv, hf⟩ := hs.w.free
 have hle := Gh.name_le G none (hf k 0)
 refine h (v, 0) C ro (G.name k (v, 0) none) a w hro (hs.tell hle ((hs.w.phantom k hv (hf k 0) s).cell (by rw [Store.put_ne _ _ hne]; exact hk) hr ho fun x hx => ?_))
 rw [RepO, Rep] at hx
 rw [RepO]
 exact Or.inr ⟨Gh.name_self _ _ _ _, hx.1, rfl⟩
set_option maxRecDepth 100000
theorem cD : ∀ (l : Ts) (n : Nat), (∀ x ∈ l, x.length ≤ n) → l.flatten.length ≤ l.length * n
 | [], _, _ => by simp
 | a :: l, n, h => by
  have h1 := h a (by simp)
  have h2 := cD l n fun x hx => h x (by simp [hx])
  rw [List.flatten_cons, List.length_append, List.length_cons, Nat.succ_mul]
  omega
theorem cM (a b : List Stp) : accs (a ++ b) = accs a + accs b := by unfold accs; rw [List.filter_append, List.length_append]
theorem pZ (s : Stp) : accs [s] = if s.acc then 1 else 0 := by unfold accs; cases h : s.acc <;> simp [h]
theorem nV (a : List Stp) : accs a ≤ a.length := List.length_filter_le _ _
theorem xI {α : Type} {l : List α} {d : α} {k : Nat} (h : k < l.length) : l.getD k d ∈ l := by
 rw [List.getD_eq_getElem?_getD, List.getElem?_eq_getElem h]; exact List.getElem_mem h
set_option maxHeartbeats 4000000 in
theorem pU (t : Ts) : Pure E.P 20 [testOV t] (.int .i64 (checkT t)) := by
 have f1 : Frozen 1 := ⟨trivial⟩
 have f7 : Frozen 7 := ⟨trivial⟩
 refine fnA Tryz.func20 Tryz.ntmps20 ?_
 by_cases h0 : t.length < 1 ∨ 4 < t.length
 ·have e : checkT t = 2 := by unfold checkT; rw [if_pos h0]
  rw [e]
  refine rZ ?_; refine aoR fun _ => ?_
  refine rZ ?_; refine aoR fun _ => ?_
  refine rZ ?_; refine cnd ?_ ?_
  refine zR (fun hc_ => ?_); (try simp only [nrm] at hc_)
  refine rZ ?_; refine aoR fun _ => ?_
  refine rZ ?_; rotate_left
  refine zS ?_
  iterate 2 refine uG fun _ => ?_; try omega
  all_goals first | exact wL rfl rfl | (exfalso; omega)
 ·have hn1 : 1 ≤ t.length := by omega
  have hn4 : t.length ≤ 4 := by omega
  refine rZ ?_; refine aoR fun _ => ?_
  refine rZ ?_; refine aoR fun _ => ?_
  refine rZ ?_; refine cnd ?_ ?_
  refine zR (fun hc_ => ?_); (try simp only [nrm] at hc_)
  refine rZ ?_; refine aoR fun _ => ?_
  refine rZ ?_; rotate_left
  refine zS ?_
  iterate 2 refine uG fun _ => ?_; try omega
  refine rZ ?_; refine aoR fun _ => ?_
  refine rZ ?_; refine aoR fun _ => ?_
  refine rZ ?_; rotate_left
  all_goals try omega
  refine vB (X := Nat) (fun i => tmL [(1, .d (.pt [.sl 1 (t.map catRowT)] 0)), (3, .int .i64 (accs (t.take i).flatten)), (19, .d (.sl 1 (t.map catRowT))), (20, .int .i64 t.length), (21, .int .i64 i)]) (fun _ => stL []) (fun i => i ≤ t.length ∧ (t.take i).all threadOk = true) (fun i => t.length - i) 0 ⟨Nat.zero_le _, rfl⟩ (by repeat' (first | exact vW _ | exact uS _ | refine uL rfl ?_ | refine uY rfl ?_ | (refine vP rfl ?_ ?_; (simp)) | (refine uO rfl ?_ ?_; (simp)) | (refine uP rfl ?_ ?_; (simp)))) leP ?_
  rintro i ⟨hi, hok⟩
  have hfl : (t.take i).flatten.length ≤ 64 := by
   have := cD (t.take i) 16 fun x hx => by
    have h := List.all_eq_true.1 hok x hx
    unfold threadOk at h
    simp only [Bool.and_eq_true, decide_eq_true_eq] at h
    exact h.1
   rw [List.length_take] at this; omega
  have hac := nV (t.take i).flatten
  by_cases hlt : i < t.length
  ·have hst := vT t default i hlt
   obtain ⟨l, hl⟩ : ∃ l, l = t.getD (i : Int).toNat default := ⟨_, rfl⟩
   have hl' : t.getD i default = l := by rw [hl, Int.toNat_natCast]
   rw [hl'] at hst
   by_cases h16 : 16 < l.length
   ·have e : checkT t = 2 := by
     have hno : t.all threadOk = false := by
      rw [List.all_eq_false]
      refine ⟨l, by rw [← hl']; exact xI hlt, ?_⟩
      unfold threadOk
      rw [decide_eq_false (by omega)]; simp
     unfold checkT
     rw [if_neg h0, if_pos hno]
    rw [e]
    subst hl
    refine rZ ?_; refine aoR fun _ => ?_
    refine rZ ?_; refine cnd ?_ ?_
    refine uF fun _ => ?_; try omega
    refine rZ ?_; refine aoR fun _ => ?_
    refine rZ ?_; refine aoR fun _ => ?_
    refine rZ ?_; refine cnd ?_ ?_
    refine uF fun _ => ?_; try omega
    refine rZ ?_; refine aoR fun _ => ?_
    refine rZ ?_; rotate_left
    iterate 2 refine uG fun _ => ?_; try omega
    all_goals first | exact wL rfl rfl | (exfalso; omega)
   ·have h16' : l.length ≤ 16 := by omega
    subst hl
    refine rZ ?_; refine aoR fun _ => ?_
    refine rZ ?_; refine cnd ?_ ?_
    refine uF fun _ => ?_; try omega
    refine rZ ?_; refine aoR fun _ => ?_
    refine rZ ?_; refine aoR fun _ => ?_
    refine rZ ?_; refine cnd ?_ ?_
    refine uF fun _ => ?_; try omega
    refine uG fun _ => ?_; try omega
    refine rZ ?_; refine aoR fun _ => ?_
    refine rZ ?_; rotate_left
    refine uG fun _ => ?_; try omega
    refine vB (X := Nat) (fun k => tmL [(1, .d (.pt [.sl 1 (t.map catRowT)] 0)), (3, .int .i64 ((accs (t.take i).flatten : Int) + (accs ((t.getD (i : Int).toNat default).take k) : Int))), (19, .d (.sl 1 (t.map catRowT))), (20, .int .i64 t.length), (21, .int .i64 i), (28, .d (.sl 10 ((t.getD (i : Int).toNat default).map stTV))), (29, .int .i64 (t.getD (i : Int).toNat default).length), (30, .int .i64 k)]) (fun _ => stL []) (fun k => k ≤ (t.getD (i : Int).toNat default).length ∧ ((t.getD (i : Int).toNat default).take k).all Stp.right = true) (fun k => (t.getD (i : Int).toNat default).length - k) 0 ⟨Nat.zero_le _, rfl⟩ (by repeat' (first | exact vW _ | exact uS _ | refine uL rfl ?_ | refine uY rfl ?_ | (refine vP rfl ?_ ?_; (simp [accs])) | (refine uO rfl ?_ ?_; (simp [accs])) | (refine uP rfl ?_ ?_; (simp [accs])))) leP ?_
    rintro k ⟨hk, hkr⟩
    have hak := nV ((t.getD (i : Int).toNat default).take k)
    have hkl : ((t.getD (i : Int).toNat default).take k).length ≤ 16 := by rw [List.length_take]; omega
    by_cases hlk : k < (t.getD (i : Int).toNat default).length
    ·have hsk := vT (t.getD (i : Int).toNat default) default k hlk
     obtain ⟨s, hs⟩ : ∃ s, s = (t.getD (i : Int).toNat default).getD (k : Int).toNat default := ⟨_, rfl⟩
     have hs' : (t.getD (i : Int).toNat default).getD k default = s := by rw [hs]; rfl
     rw [hs'] at hsk
     have c1 := right9_p s
     have c2 := dN s
     cases hsr : s.right with
     | false =>
      rw [hsr] at c1
      have e : checkT t = 2 := by
       have hno : t.all threadOk = false := by
        rw [List.all_eq_false]
        refine ⟨t.getD i default, xI hlt, ?_⟩
        unfold threadOk
        rw [show t.getD i default = t.getD (i : Int).toNat default from hl']
        rw [List.all_eq_false.2 ⟨s, by rw [← hs']; exact xI hlk, by rw [hsr]; decide⟩]; simp
       unfold checkT
       rw [if_neg h0, if_pos hno]
      rw [e]
      subst hs
      refine rZ ?_; refine aoR fun _ => ?_
      refine rZ ?_; refine cnd ?_ ?_
      refine uF fun _ => ?_; try omega
      refine rZ ?_; refine aoR fun _ => ?_
      refine rZ ?_; refine aoR fun _ => ?_
      refine rZ ?_
      apply uE; exact rfl; exact .fn _ _ _; exact rfl; exact c1
      refine rZ ?_; refine cnd ?_ ?_; refine zU ?_; refine uV ?_; refine rZ ?_; refine aoR fun _ => ?_
      refine rZ ?_; rotate_left
      refine yS ?_
      exact vN
      refine uG fun _ => ?_; try omega
      all_goals exact wL rfl rfl
     | true =>
      rw [hsr] at c1
      have hak1 : accs ((t.getD (i : Int).toNat default).take (k + 1)) = accs ((t.getD (i : Int).toNat default).take k) + (if s.acc then 1 else 0) := by
       rw [hsk, cM]
       rw [pZ]
      have hkr1 : ((t.getD (i : Int).toNat default).take (k + 1)).all Stp.right = true := by
       rw [hsk, List.all_append, hkr]; simp [hsr]
      cases hsa : s.acc with
      | false =>
       rw [hsa] at c2 hak1
       subst hs
       refine rZ ?_; refine aoR fun _ => ?_
       refine rZ ?_; refine cnd ?_ ?_
       refine uF fun _ => ?_; try omega
       refine rZ ?_; refine aoR fun _ => ?_
       refine rZ ?_; refine aoR fun _ => ?_
       refine rZ ?_
       apply uE; exact rfl; exact .fn _ _ _; exact rfl; exact c1
       refine rZ ?_; refine cnd ?_ ?_; refine zU ?_
       exact uI
       refine yS ?_; refine uH ?_; refine rZ ?_; refine aoR fun _ => ?_
       refine rZ ?_
       apply uE; exact rfl; exact .fn _ _ _; exact rfl; exact c2
       refine rZ ?_; refine cnd ?_ ?_
       exact vN
       refine uV ?_; refine rZ ?_; refine aoR fun _ => ?_
       refine rZ ?_; rotate_left
       refine uG fun _ => ?_; try omega
       refine uU (k + 1) ⟨by omega, hkr1⟩ (by omega) (by repeat' (first | exact vW _ | exact uS _ | refine uL rfl ?_ | refine uY rfl ?_ | (refine vP rfl ?_ ?_; (rw [hak1]; simp)) | (refine uO rfl ?_ ?_; (rw [hak1]; simp)) | (refine uP rfl ?_ ?_; (rw [hak1]; simp)))) leP
      | true =>
       rw [hsa] at c2 hak1
       subst hs
       refine rZ ?_; refine aoR fun _ => ?_
       refine rZ ?_; refine cnd ?_ ?_
       refine uF fun _ => ?_; try omega
       refine rZ ?_; refine aoR fun _ => ?_
       refine rZ ?_; refine aoR fun _ => ?_
       refine rZ ?_
       apply uE; exact rfl; exact .fn _ _ _; exact rfl; exact c1
       refine rZ ?_; refine cnd ?_ ?_; refine zU ?_
       exact uI
       refine yS ?_; refine uH ?_; refine rZ ?_; refine aoR fun _ => ?_
       refine rZ ?_
       apply uE; exact rfl; exact .fn _ _ _; exact rfl; exact c2
       refine rZ ?_; refine cnd ?_ ?_; refine uH ?_; refine aoR fun _ => ?_
       refine rZ ?_; refine aoR fun _ => ?_
       refine rZ ?_; rotate_left
       exact uI
       refine uG fun _ => ?_; try omega
       refine uU (k + 1) ⟨by omega, hkr1⟩ (by omega) (by repeat' (first | exact vW _ | exact uS _ | refine uL rfl ?_ | refine uY rfl ?_ | (refine vP rfl ?_ ?_; (rw [hak1]; simp; omega)) | (refine uO rfl ?_ ?_; (rw [hak1]; simp; omega)) | (refine uP rfl ?_ ?_; (rw [hak1]; simp; omega)))) leP
    ·have hkk : k = (t.getD (i : Int).toNat default).length := by omega
     subst hkk
     refine rZ ?_; refine aoR fun _ => ?_
     refine rZ ?_; refine cnd ?_ ?_
     refine uF fun _ => ?_; try omega
     refine uG fun _ => ?_; try omega
     refine rZ ?_; refine aoR fun _ => ?_
     refine rZ ?_; rotate_left
     rw [List.take_length] at hkr
     have hf : (t.take (i + 1)).flatten = (t.take i).flatten ++ t.getD (i : Int).toNat default := by rw [hst, List.flatten_append]; simp
     refine uU (i + 1) ⟨by omega, ?_⟩ (by omega) (by repeat' (first | exact vW _ | exact uS _ | refine uL rfl ?_ | refine uY rfl ?_ | (refine vP rfl ?_ ?_; (rw [hf, cM, List.take_length]; simp)) | (refine uO rfl ?_ ?_; (rw [hf, cM, List.take_length]; simp)) | (refine uP rfl ?_ ?_; (rw [hf, cM, List.take_length]; simp)))) leP
     rw [hst, List.all_append, hok]
     simp only [List.all_cons, List.all_nil, Bool.and_true, Bool.true_and]
     unfold threadOk
     rw [hkr, decide_eq_true h16']; rfl
  ·have hil : i = t.length := by omega
   subst hil
   rw [List.take_length] at hok hfl hac ⊢
   have hr : ∀ s ∈ t.flatten, s.right = true := fun s hs => by
    obtain ⟨l, hl, hs⟩ := List.mem_flatten.1 hs
    have h := List.all_eq_true.1 hok l hl
    unfold threadOk at h
    simp only [Bool.and_eq_true] at h
    exact List.all_eq_true.1 h.2 s hs
   have c1 := ways_p t hr hfl (by omega)
   have e : checkT t = if 8 < accs t.flatten ∨ 10000 < waysT t then 2 else 0 := by
    unfold checkT
    rw [if_neg h0, if_neg (by rw [hok]; decide)]
   rw [e]
   refine rZ ?_; refine aoR fun _ => ?_
   refine rZ ?_; refine cnd ?_ ?_
   refine uF fun _ => ?_; try omega
   refine uG fun _ => ?_; try omega
   refine rZ ?_; refine aoR fun _ => ?_
   refine rZ ?_
   apply spF; exact rfl
   intro hc_
   have hp_ := hc_; try simp only [nrm] at hp_
   apply uZ; exact evm; exact .fn _ _ _; exact wP; exact c1
   refine rZ ?_; refine cnd ?_ ?_
   refine zR (fun hc_ => ?_); (try simp only [nrm] at hc_)
   refine rZ ?_; refine aoR fun _ => ?_
   refine rZ ?_; rotate_left
   refine zS ?_
   iterate 2 refine uG fun _ => ?_; try omega
   refine rZ ?_; refine aoR fun _ => ?_
   refine rZ ?_; rotate_left
   all_goals (refine wL rfl ?_; split <;> first | rfl | (exfalso; omega))
end Go.Proofs.YtjogffchdejabaaGreatDoor
