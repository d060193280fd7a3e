/- Parts. -/
import Derived.MapKept
import Derived.Shelf.Strings.Builder1
import Derived.Test.YtjogffchdejabaaGreatDoorPb3
import Derived.Test.YtjogffchdejabaaGreatDoorPb4
import Derived.Test.YtjogffchdejabaaGreatDoorPb8
import Derived.Test.YtjogffchdejabaaGreatDoorPb10
import Derived.Test.YtjogffchdejabaaGreatDoorPb12
set_option linter.unusedVariables false
set_option linter.unusedSimpArgs false
set_option maxHeartbeats 4000000
set_option maxRecDepth 100000
namespace Go.Proofs.YtjogffchdejabaaGreatDoor
open Go.RowKit
section
open Go.RowKit Go.Lib
def readFs : List (Value × TV) := [(.string ⟨wFence.toArray⟩, .fn 82 [] [.pt setsTV 0]), (.string ⟨wIf.toArray⟩, .fn 85 [] []), (.string ⟨wSwap.toArray⟩, .fn 140 [] [kindTV 3]), (.string ⟨wAdd.toArray⟩, .fn 140 [] [kindTV 4])]
def stepR (l : Bt) : Stp × Bool := match stepB l with
 | some s => (s, true)
 | none => (stp0, false)
theorem ba_eq {w v : Bt} : ((⟨w.toArray⟩ : ByteArray) = ⟨v.toArray⟩) ↔ w = v := by
 constructor
 ·intro h
  have := congrArg (fun x : ByteArray => x.data.toList) h
  simpa using this
 ·rintro rfl; rfl
theorem same_str (w v : Bt) : Instr.sameNow .string (.string ⟨w.toArray⟩) (.string ⟨v.toArray⟩) = some (decide (w = v)) := by
 show some ((⟨w.toArray⟩ : ByteArray) == ⟨v.toArray⟩) = _
 congr 1
 rw [Bool.eq_iff_iff, MapKept.bytes_beq, decide_eq_true_iff, ba_eq]
theorem cU (w : Bt) : lookV .string (.string ⟨w.toArray⟩) readFs = some (if w = wFence then some (.fn 82 [] [.pt setsTV 0]) else if w = wIf then some (.fn 85 [] []) else if w = wSwap then some (.fn 140 [] [kindTV 3]) else if w = wAdd then some (.fn 140 [] [kindTV 4]) else none) := by
 unfold readFs
 simp only [lookV, same_str]
 by_cases h1 : w = wFence
 ·simp [h1]
 by_cases h2 : w = wIf
 ·subst h2; simp [h1]
 by_cases h3 : w = wSwap
 ·subst h3; simp [h1, h2]
 by_cases h4 : w = wAdd
 ·subst h4; simp [h1, h2, h3]
 ·simp [h1, h2, h3, h4]
theorem yP (w : World) : (zeroValue 139).run Tryz.prog w = .ok .nilFunc w := Tryz.zeroValue139 w
theorem cM (c : UInt8) : ∀ (l w : Bt), w ∈ splitC c l → w.length ≤ l.length
 | [], w, h => by simp [splitC] at h; simp [h]
 | x :: l, w, h => by
  unfold splitC at h
  split at h
  ·rcases List.mem_cons.1 h with h | h
   ·simp [h]
   ·have := cM c l w h
    simp only [List.length_cons]; omega
  ·cases hs : splitC c l with
   | nil => exact absurd hs (zB c l)
   | cons v vs =>
    rw [hs] at h
    simp only [consW] at h
    rcases List.mem_cons.1 h with h | h
    ·have := cM c l v (by rw [hs]; simp)
     rw [h]; simp only [List.length_cons]; omega
    ·have := cM c l w (by rw [hs]; simp [h])
     simp only [List.length_cons]; omega
abbrev vs9 : List ResultVar := [.cell 2 47, .cell 3 4]
theorem finR {tm : Tm} {σ : Store} {τ τf : Stamp} {k r v n d b : Int} {a l : Bool} {p q : Int} {f : Bool} {X : OV} {Rp : List PanicEntry → Store → Prop} (hg : tm GS = none) (h2 : tm 2 = some (.lo 2 τ 10 0 0)) (h3 : tm 3 = some (.lo 3 τf 1 0 0)) (s2 : σ 2 = some (τ, ⟨10, [stR k r v n d b a l p q]⟩)) (s3 : σ 3 = some (τf, ⟨1, [[.bool f]]⟩))
  (hr : X = .tu [.ag (stR k r v n d b a l p q), .bool f]) : FinM E vs9 (fun r _ => r = X) Rp .returning tm σ :=
 ⟨hg, _, .cons (.one ⟨_, _, _, _, _, rfl, rfl, rfl, h2, s2, rfl⟩) (.cons (.cell rfl rfl h3 s3) .nil), hr.symm⟩
theorem okD {tm : Tm} {σ : Store} {τ τf : Stamp} {k r v n d b : Int} {a l : Bool} {p q : Int} {f : Bool} {X : OV} {Rp : List PanicEntry → Store → Prop} (hg : tm GS = none) (h2 : tm 2 = some (.lo 2 τ 10 0 0)) (h3 : tm 3 = some (.lo 3 τf 1 0 0)) (hs : (stL (stRows τ τf k r v n d b a l p q f)).le σ) (hr : X = .tu [.ag (stR k r v n d b a l p q), .bool f]) :
  FinD E vs9 79 [.lo 2 τ 10 0 0, .lo 3 τf 1 0 0] (fun r _ => r = X) Rp .ret tm σ :=
 ⟨.returning, rfl, _, _, _, def_ok τ τf k r v n d b a l p q f, hs, fun l1 hl => by subst hl; exact (by decide : [2, 3].Nodup), fun l1 hl => by
  subst hl
  exact finR hg h2 h3 rfl rfl hr⟩
theorem jA {tm : Tm} {σ : Store} {τ τf : Stamp} {k r v n d b : Int} {a l : Bool} {p q : Int} {f : Bool} {X : OV} {Rp : List PanicEntry → Store → Prop} (hg : tm GS = none) (h2 : tm 2 = some (.lo 2 τ 10 0 0)) (h3 : tm 3 = some (.lo 3 τf 1 0 0)) (hs : (stL (stRows τ τf k r v n d b a l p q f)).le σ) (hr : X = .tu [.ag (stR 0 0 0 0 0 0 false false 0 0), .bool false]) :
  FinD E vs9 79 [.lo 2 τ 10 0 0, .lo 3 τf 1 0 0] (fun r _ => r = X) Rp (.panic failC) tm σ :=
 ⟨.panicking failC, rfl, _, _, _, def_pan τ τf k r v n d b a l p q f, hs, fun l1 hl => by subst hl; exact (by decide : [2, 3].Nodup), fun l1 hl => by
  subst hl
  exact finR hg h2 h3 rfl rfl hr⟩
theorem finM_off {tm : Tm} {σ : Store} {X : OV} {Rp : List PanicEntry → Store → Prop} {d : Nat} {r : OV} {u : FrameMode} (hd : d ∉ [2, 3, GS]) (h : FinM E vs9 (fun r _ => r = X) Rp u (tm.put d r) σ) : FinM E vs9 (fun r _ => r = X) Rp u tm σ := by
 simp only [List.mem_cons, List.not_mem_nil, or_false, not_or] at hd
 cases u with
 | run => exact h
 | panicking ch => exact h
 | returning =>
  obtain ⟨hg, rs, hrs, hr⟩ := h
  rw [Tm.put_ne _ _ (Ne.symm hd.2.2)] at hg
  refine ⟨hg, rs, ?_, hr⟩
  have one : ∀ {t : Nat} {T : Nat} {y : OV}, t ≠ d → ResC E (tm.put d r) σ (.cell t T) y → ResC E tm σ (.cell t T) y := fun {t T y} hne h => by
   cases h with
   | one h =>
    obtain ⟨te, k, τ, row, rest, e1, e2, e3, e4, e5, e6⟩ := h
    rw [Tm.put_ne _ _ hne] at e4
    exact .one ⟨te, k, τ, row, rest, e1, e2, e3, e4, e5, e6⟩
   | cell hT ha ht hk =>
    rw [Tm.put_ne _ _ hne] at ht
    exact .cell hT ha ht hk
  cases hrs with
  | cons h1 hl =>
   cases hl with
   | cons h2 hl =>
    cases hl
    exact .cons (one (Ne.symm hd.1) h1) (.cons (one (Ne.symm hd.2.1) h2) .nil)
theorem pC {tm : Tm} {σ : Store} {X : OV} {Rp : List PanicEntry → Store → Prop} {d : Nat} {r : OV} {g : FuncId} {ca : List OV} {e : Exit} (hd : d ∉ [2, 3, GS]) (h : FinD E vs9 g ca (fun r _ => r = X) Rp e (tm.put d r) σ) : FinD E vs9 g ca (fun r _ => r = X) Rp e tm σ := by
 obtain ⟨u, hu, l0, u', R1, h1, h2, h3, h4⟩ := h
 exact ⟨u, hu, l0, u', R1, h1, h2, h3, fun l1 hl => finM_off hd (h4 l1 hl)⟩
theorem cK {l : Bt} {s : Stp} (h : stepW (splitC 32 l) = some s) : stepR l = (s, true) := by
 have : stepB l = some s := h
 unfold stepR; rw [this]
theorem yA {l : Bt} (h : stepW (splitC 32 l) = none) : stepR l = (stp0, false) := by
 have : stepB l = none := h
 unfold stepR; rw [this]
set_option maxHeartbeats 4000000 in
theorem sN (l : Bt) (hl : l.length ≤ 65535) : Pure E.P 38 [.bs l] (.tu [stOV (stepR l).1, .bool (stepR l).2]) := by
 obtain ⟨W, hW⟩ : ∃ W, W = splitC 32 l := ⟨_, rfl⟩
 have c1 := split_p l 32 (by omega)
 have hl5 : W.length ≤ 65536 := by
  have := bM 32 l
  have := pI 32 l
  rw [hW]; omega
 have hs5 : ∀ w ∈ W, w.length ≤ 65536 := fun w hw => by
  have := cM 32 l w (by rw [← hW]; exact hw)
  omega
 rw [← hW] at c1
 refine FnW.toR (fnw_of_awpF (E := E) (args := [.bs l]) (Rr := fun r _ => r = .tu [stOV (stepR l).1, .bool (stepR l).2]) Tryz.func38 (by decide) rfl Tryz.ntmps38 (Nat.le_of_ble_eq_true rfl) ?_)
 refine awpF_seq (vs := [.cell 2 47, .cell 3 4]) rfl ?_
 refine aoR fun _ => ?_; refine run ?_ 2
 rotate_left; refine uC ?_
 refine awpF_defer 1 rfl (by decide) rfl rfl fun v => ?_
 simp only [List.take_succ_cons, List.take_zero]
 refine run ?_; rotate_left
 refine ⟨_, _, rfl, rfl, ?_⟩
 rename_i v0
 refine vB (X := Unit) (fun _ => tmL [(2, .lo 2 (v0, 0) 10 0 0), (3, .lo 3 (v0, 1) 1 0 0), (4, .d (wsTV W))]) (fun _ => stL (stRows (v0, 0) (v0, 1) 0 0 0 0 0 0 false false 0 0 false)) ?_ fun _ => ?_
 ·refine aoR fun _ => ?_
  refine run ?_
  apply uA; exact rfl; exact .fn _ _ _; exact rfl; exact c1
  refine run ?_; rotate_left
  exact wQ () leP leP
 refine vB (X := Stamp) (fun τ5 => tmL [(2, .lo 2 (v0, 0) 10 0 0), (3, .lo 3 (v0, 1) 1 0 0), (4, .d (wsTV W)), (5, .lo 5 τ5 4 0 0)]) (fun τ5 => stL ((5, (τ5, ⟨4, [setsTV.map .d]⟩)) :: stRows (v0, 0) (v0, 1) 0 0 0 0 0 0 false false 0 0 false)) ?_ fun τ5 => ?_
 ·refine aoR fun _ => ?_
  apply uA; exact rfl; exact .fn _ _ _; exact rfl; exact sR
  refine run ?_; rotate_left
  rename_i u
  exact wQ (u, 1) leP leP
 refine xC 5 τ5 4 [setsTV] (tmL [(2, .lo 2 (v0, 0) 10 0 0), (3, .lo 3 (v0, 1) 1 0 0), (4, .d (wsTV W)), (5, .d (.pt setsTV 0))]) (stL (stRows (v0, 0) (v0, 1) 0 0 0 0 0 0 false false 0 0 false)) rfl (by repeat' (first | exact zS | exact xT | refine vN rfl (.same _) ?_ | refine vN rfl (.lo _ _ _ rfl) ?_)) (by repeat' (first | exact zS | exact xT | exact bB | exact bA | refine vN rfl (.same _) ?_ | refine vN rfl (wF (by simp)) ?_ | refine vT (by decide) rfl (FrozR.same _) ?_ | refine vT (by decide) rfl ?_ ?_ | refine wE zT ?_ | refine wE ?_ ?_ | refine vF (.same _) ?_ | refine vF (wF (by first | rfl | simp)) ?_ | refine vF (.nil _) ?_)) ?_
 refine vB (X := Gh × Nat) (fun x => tmL [(2, .lo 2 (v0, 0) 10 0 0), (3, .lo 3 (v0, 1) 1 0 0), (4, .d (wsTV W)), (6, .d (.c (.map (some x.2)))), (GS, .gh 0 (fnmY x.1 x.2 readFs))]) (fun _ => stL (stRows (v0, 0) (v0, 1) 0 0 0 0 0 0 false false 0 0 false)) ?_ fun x => ?_
 ·refine aoR fun _ => ?_
  refine sF ?_; intro _ _
  refine run ?_
  iterate 2 (apply bH; exact Tryz.underlying142; exact rfl; exact rfl; exact .str Tryz.underlying9; exact rfl; exact rfl; exact rfl; exact rfl; intro _)
  apply uA; exact rfl; exact .fn _ _ _; exact rfl; exact rZ _
  apply bH; exact Tryz.underlying142; exact rfl; exact rfl; exact .str Tryz.underlying9; exact rfl; exact rfl; exact rfl; exact rfl; intro _
  apply uA; exact rfl; exact .fn _ _ _; exact rfl; exact rZ _
  apply bH; exact Tryz.underlying142; exact rfl; exact rfl; exact .str Tryz.underlying9; exact rfl; exact rfl; exact rfl; exact rfl; intro _
  refine run ?_; rotate_left
  rename_i b _ _ _ g
  exact wQ (g, b) leP leP
 obtain ⟨g, b⟩ := x
 have hne := zB 32 l
 rw [← hW] at hne
 obtain ⟨w0, W0, hW0⟩ := List.exists_cons_of_ne_nil hne
 have hlm : (List.map wTV W).length = W.length := List.length_map ..
 have hln : 0 < W.length := by rw [hW0]; simp
 have hg0 : W.getD (Int.toNat 0) default = w0 := by rw [hW0]; rfl
 by_cases hf : w0 = wFence
 ·have hk := cU w0
  rw [if_pos hf, ← hg0] at hk
  refine uD (uD (aoR fun _ => ?_))
  refine run ?_ 2
  apply wX; exact Tryz.underlying142; exact yP; exact rfl; exact rfl; exact .str Tryz.underlying9; exact rfl; exact hk
  refine run ?_ 2; rotate_left
  refine uC (uD (aoR fun _ => ?_))
  refine run ?_ 2
  apply spT; exact rfl
  intro hc_
  have hp_ := hc_; try simp only [nrm] at hp_
  apply zU; exact rfl; exact rfl; exact evm
  refine run ?_ 2
  apply spT; exact rfl
  intro hc_
  have hp_ := hc_; try simp only [nrm] at hp_
  apply wU; exact evm; exact evm
  refine run ?_ 2; rotate_left
  refine uC (vC rfl (fun _ => ?_) (fun hx => ?_))
  ·refine eA (tmL [(2, .lo 2 (v0, 0) 10 0 0), (3, .lo 3 (v0, 1) 1 0 0), (4, .d (wsTV W)), (7, .d (.fn 82 [] [.pt setsTV 0]))]) (stL (stRows (v0, 0) (v0, 1) 0 0 0 0 0 0 false false 0 0 false)) leP leP ?_
   cases hs : fenceOf W with
   | some s =>
    have hR : stepR l = (s, true) := cK (by rw [← hW]; unfold stepW; rw [hW0, if_pos (show List.getD (w0 :: W0) 0 [] = wFence from hf), ← hW0]; exact hs)
    refine run ?_; refine aoR fun _ => ?_
    refine run ?_
    apply xH; exact rfl; (exact .d _ _ _); exact rfl; exact fence_y hs (v0, 0); exact leP; exact rfl; (exact List.nodup_cons.2 ⟨List.not_mem_nil, List.nodup_nil⟩)
    refine run ?_; refine aoR fun _ => ?_
    refine run ?_; rotate_left
    all_goals exact okD rfl rfl rfl leP (by rw [hR]; rfl)
   | none =>
    have hR : stepR l = (stp0, false) := yA (by rw [← hW]; unfold stepW; rw [hW0, if_pos (show List.getD (w0 :: W0) 0 [] = wFence from hf), ← hW0]; exact hs)
    refine uD ?_
    refine (uK (ch := failC) 2 (by decide) rfl fun v => ?_)
    simp only [List.take_succ_cons, List.take_zero]
    refine run ?_; rotate_left
    refine wD (R1 := anyS (v0, 0)) (l0 := sRows (v0, 0) 0 0 0 0 0 0 false false 0 0) rfl (.d _ _ _) rfl ?_ leP (fun l1 hl => ?_) (fun l1 hl => ?_)
    exact fence_n hs hl5 (v0, 0)
    ·exact hl.nodup
    ·obtain ⟨k2, r2, v2, n2, d2, b2, a2, l2, p2, q2, rfl⟩ := hl
     exact jA rfl rfl rfl leP (by rw [hR]; rfl)
  ·exfalso
   simp only [hg0] at hx
   simp [hf, wFence, wAdd] at hx
 by_cases hi : w0 = wIf
 ·have hk := cU w0
  rw [if_neg hf, if_pos hi, ← hg0] at hk
  refine uD (uD (aoR fun _ => ?_))
  refine run ?_ 2
  apply wX; exact Tryz.underlying142; exact yP; exact rfl; exact rfl; exact .str Tryz.underlying9; exact rfl; exact hk
  refine run ?_ 2; rotate_left
  refine uC (uD (aoR fun _ => ?_))
  refine run ?_ 2
  apply spT; exact rfl
  intro hc_
  have hp_ := hc_; try simp only [nrm] at hp_
  apply zU; exact rfl; exact rfl; exact evm
  refine run ?_ 2
  apply spT; exact rfl
  intro hc_
  have hp_ := hc_; try simp only [nrm] at hp_
  apply wU; exact evm; exact evm
  refine run ?_ 2; rotate_left
  refine uC (vC rfl (fun _ => ?_) (fun hx => ?_))
  ·refine eA (tmL [(2, .lo 2 (v0, 0) 10 0 0), (3, .lo 3 (v0, 1) 1 0 0), (4, .d (wsTV W)), (7, .d (.fn 85 [] []))]) (stL (stRows (v0, 0) (v0, 1) 0 0 0 0 0 0 false false 0 0 false)) leP leP ?_
   cases hs : ifOf W with
   | some s =>
    have hR : stepR l = (s, true) := cK (by rw [← hW]; unfold stepW; rw [hW0, if_neg (show ¬ List.getD (w0 :: W0) 0 [] = wFence from hf), if_pos (show List.getD (w0 :: W0) 0 [] = wIf from hi), ← hW0]; exact hs)
    refine run ?_; refine aoR fun _ => ?_
    refine run ?_
    apply xH; exact rfl; (exact .d _ _ _); exact rfl; exact ifc_y hs (v0, 0); exact leP; exact rfl; (exact List.nodup_cons.2 ⟨List.not_mem_nil, List.nodup_nil⟩)
    refine run ?_; refine aoR fun _ => ?_
    refine run ?_; rotate_left
    all_goals exact okD rfl rfl rfl leP (by rw [hR]; rfl)
   | none =>
    have hR : stepR l = (stp0, false) := yA (by rw [← hW]; unfold stepW; rw [hW0, if_neg (show ¬ List.getD (w0 :: W0) 0 [] = wFence from hf), if_pos (show List.getD (w0 :: W0) 0 [] = wIf from hi), ← hW0]; exact hs)
    refine uD ?_
    refine (uK (ch := failC) 2 (by decide) rfl fun v => ?_)
    simp only [List.take_succ_cons, List.take_zero]
    refine run ?_; rotate_left
    refine wD (R1 := anyS (v0, 0)) (l0 := sRows (v0, 0) 0 0 0 0 0 0 false false 0 0) rfl (.d _ _ _) rfl ?_ leP (fun l1 hl => ?_) (fun l1 hl => ?_)
    exact ifc_n hs hl5 (v0, 0)
    ·exact hl.nodup
    ·obtain ⟨k2, r2, v2, n2, d2, b2, a2, l2, p2, q2, rfl⟩ := hl
     exact jA rfl rfl rfl leP (by rw [hR]; rfl)
  ·exfalso
   simp only [hg0] at hx
   simp [hi, wIf, wAdd] at hx
 refine vB (X := Unit) (fun _ => tmL [(2, .lo 2 (v0, 0) 10 0 0), (3, .lo 3 (v0, 1) 1 0 0), (4, .d (wsTV W)), (6, .d (.c (.map (some b)))), (GS, .gh 0 (fnmY g b readFs))]) (fun _ => stL (stRows (v0, 0) (v0, 1) 0 0 0 0 0 0 false false 0 0 false)) ?_ fun _ => ?_
 ·have hk := cU w0
  rw [if_neg hf, if_neg hi, ← hg0] at hk
  rw [hg0] at hk
  by_cases h3 : w0 = wSwap
  ·rw [if_pos h3, ← hg0] at hk
   refine uD (aoR fun _ => ?_)
   refine run ?_ 2
   apply wX; exact Tryz.underlying142; exact yP; exact rfl; exact rfl; exact .str Tryz.underlying9; exact rfl; exact hk
   refine run ?_ 2; rotate_left
   refine uC (uD (aoR fun _ => ?_))
   refine run ?_ 2
   apply spT; exact rfl
   intro hc_
   have hp_ := hc_; try simp only [nrm] at hp_
   apply zU; exact rfl; exact rfl; exact evm
   refine run ?_ 2
   apply spT; exact rfl
   intro hc_
   have hp_ := hc_; try simp only [nrm] at hp_
   apply wU; exact evm; exact evm
   refine run ?_ 2; rotate_left
   refine uC (vC rfl (fun hx => ?_) (fun _ => ?_))
   rotate_left 1
   exact vG (wQ () leP leP)
   exfalso
   simp only [hg0] at hx
   simp [h3, wSwap] at hx
  by_cases h4 : w0 = wAdd
  ·rw [if_neg h3, if_pos h4, ← hg0] at hk
   refine uD (aoR fun _ => ?_)
   refine run ?_ 2
   apply wX; exact Tryz.underlying142; exact yP; exact rfl; exact rfl; exact .str Tryz.underlying9; exact rfl; exact hk
   refine run ?_ 2; rotate_left
   refine uC (uD (aoR fun _ => ?_))
   refine run ?_ 2
   apply spT; exact rfl
   intro hc_
   have hp_ := hc_; try simp only [nrm] at hp_
   apply zU; exact rfl; exact rfl; exact evm
   refine run ?_ 2
   apply spT; exact rfl
   intro hc_
   have hp_ := hc_; try simp only [nrm] at hp_
   apply wU; exact evm; exact evm
   refine run ?_ 2; rotate_left
   refine uC (vC rfl (fun hx => ?_) (fun _ => ?_))
   rotate_left 1
   exact vG (wQ () leP leP)
   exfalso
   simp only [hg0] at hx
   simp [h4, wAdd] at hx
  ·rw [if_neg h3, if_neg h4, ← hg0] at hk
   refine uD (aoR fun _ => ?_)
   refine run ?_ 2
   apply wX; exact Tryz.underlying142; exact yP; exact rfl; exact rfl; exact .str Tryz.underlying9; exact rfl; exact hk
   refine run ?_ 2; rotate_left
   refine uC (uD (aoR fun _ => ?_))
   refine run ?_ 2
   apply spT; exact rfl
   intro hc_
   have hp_ := hc_; try simp only [nrm] at hp_
   apply zU; exact rfl; exact rfl; exact evm
   refine run ?_ 2
   apply spT; exact rfl
   intro hc_
   have hp_ := hc_; try simp only [nrm] at hp_
   apply wU; exact evm; exact evm
   refine run ?_ 2; rotate_left
   refine uC (vC rfl (fun hx => ?_) (fun _ => ?_))
   rotate_left 1
   exact vG (wQ () leP leP)
   exfalso
   simp at hx
 have hE : stepW (splitC 32 l) = if ¬ (3 ≤ W.length ∧ W.getD 1 [] = wEq) then none else if W.getD 2 [] = wSwap then bothOf 3 W else if W.getD 2 [] = wAdd then bothOf 4 W else if w0.head? = some 114 then loadOf W else storeOf W := by
  rw [← hW]
  unfold stepW
  rw [if_neg (show ¬ W.getD 0 [] = wFence by rw [hW0]; exact hf), if_neg (show ¬ W.getD 0 [] = wIf by rw [hW0]; exact hi)]
  have e : W.getD 0 [] = w0 := by rw [hW0]; rfl
  rw [e]
 by_cases h9 : 3 ≤ W.length ∧ W.getD 1 [] = wEq
 rotate_left 1
 ·rw [if_pos h9] at hE
  have hR : stepR l = (stp0, false) := yA hE
  refine eA (tmL [(2, .lo 2 (v0, 0) 10 0 0), (3, .lo 3 (v0, 1) 1 0 0), (4, .d (wsTV W))]) (stL (stRows (v0, 0) (v0, 1) 0 0 0 0 0 0 false false 0 0 false)) leP leP ?_; refine uD ?_
  refine (uK (ch := failC) 9 (by decide) rfl fun v => ?_)
  simp only [List.take_succ_cons, List.take_zero]
  refine run ?_
  apply spT; exact rfl
  intro hc_
  have hp_ := hc_; try simp only [nrm] at hp_
  apply wL; exact evm; exact evm
  refine run ?_; rotate_left
  refine wD (R1 := fun l1 => l1 = []) (l0 := []) rfl (.fn _ _ _) rfl ?_ (uL _) (fun l1 hl => ?_) (fun l1 hl => ?_)
  rotate_left 1
  (subst hl; exact List.nodup_nil)
  rotate_left 1
  (exact zQ (by
     by_cases h0 : 3 ≤ W.length
     ·rw [decide_eq_false (show ¬ W.getD (Int.toNat 1) default = [61] from fun h => h9 ⟨h0, h⟩), Bool.and_false]
     ·rw [decide_eq_false (show ¬ (3 : Int) ≤ W.length by omega), Bool.false_and]))
  subst hl
  exact jA rfl rfl rfl leP (by rw [hR]; rfl)
 rw [if_neg (not_not_intro h9)] at hE
 obtain ⟨h3l, h3e⟩ := h9
 have c9 : Pure E.P 83 [.bool (decide ((3 : Int) ≤ W.length) && decide (W.getD (Int.toNat 1) default = [61]))] (.tu []) := aG (by
  rw [decide_eq_true (show (3 : Int) ≤ W.length by omega), decide_eq_true (show W.getD (Int.toNat 1) default = [61] from h3e)]; rfl)
 refine uD (aoR fun _ => ?_)
 refine run ?_ 2
 apply spT; exact rfl
 intro hc_
 have hp_ := hc_; try simp only [nrm] at hp_
 apply wL; exact evm; exact evm
 refine run ?_ 2
 apply uA; exact rfl; exact .fn _ _ _; exact rfl; exact c9
 refine run ?_ 2; rotate_left
 refine uC ?_
 obtain ⟨w2, hg2⟩ : ∃ w2, W.getD (Int.toNat 2) default = w2 := ⟨_, rfl⟩
 have hg2' : W.getD 2 [] = w2 := hg2
 rw [hg2'] at hE
 have hk := cU w2
 by_cases h6 : w2 = wSwap
 ·rw [if_neg (by rw [h6]; decide), if_neg (by rw [h6]; decide), if_pos h6, ← hg2] at hk
  rw [if_pos h6] at hE
  refine uD (uD (aoR fun _ => ?_))
  refine run ?_ 2
  apply wX; exact Tryz.underlying142; exact yP; exact rfl; exact rfl; exact .str Tryz.underlying9; exact rfl; exact hk
  refine run ?_ 2; rotate_left
  refine uC (uD (aoR fun _ => ?_))
  refine run ?_ 2
  apply spT; exact rfl
  intro hc_
  have hp_ := hc_; try simp only [nrm] at hp_
  apply wU; exact evm; exact evm
  refine run ?_ 2
  apply spT; exact rfl
  intro hc_
  have hp_ := hc_; try simp only [nrm] at hp_
  apply wU; exact evm; exact evm
  refine run ?_ 2; rotate_left
  refine uC (vC rfl (fun _ => ?_) (fun hx => ?_))
  ·refine eA (tmL [(2, .lo 2 (v0, 0) 10 0 0), (3, .lo 3 (v0, 1) 1 0 0), (4, .d (wsTV W)), (9, .d (.fn 140 [] [kindTV 3]))]) (stL (stRows (v0, 0) (v0, 1) 0 0 0 0 0 0 false false 0 0 false)) leP leP ?_
   cases hs : bothOf 3 W with
   | some s =>
    have hR : stepR l = (s, true) := cK (by rw [hE]; exact hs)
    refine run ?_; refine aoR fun _ => ?_
    refine run ?_
    apply xH; exact rfl; (exact .d _ _ _); exact rfl; exact tR hs hl5 hs5 (v0, 0); exact leP; exact rfl; (exact List.nodup_cons.2 ⟨List.not_mem_nil, List.nodup_nil⟩)
    refine run ?_; refine aoR fun _ => ?_
    refine run ?_; rotate_left
    all_goals exact okD rfl rfl rfl leP (by rw [hR]; rfl)
   | none =>
    have hR : stepR l = (stp0, false) := yA (by rw [hE]; exact hs)
    refine uD ?_
    refine (uK (ch := failC) 2 (by decide) rfl fun v => ?_)
    simp only [List.take_succ_cons, List.take_zero]
    refine run ?_; rotate_left
    refine wD (R1 := anyS (v0, 0)) (l0 := sRows (v0, 0) 0 0 0 0 0 0 false false 0 0) rfl (.d _ _ _) rfl ?_ leP (fun l1 hl => ?_) (fun l1 hl => ?_)
    exact tS hs hl5 hs5 (v0, 0)
    ·exact hl.nodup
    ·obtain ⟨k2, r2, v2, n2, d2, b2, a2, l2, p2, q2, rfl⟩ := hl
     exact jA rfl rfl rfl leP (by rw [hR]; rfl)
  ·exfalso
   simp only [hg2] at hx
   simp [h6, wSwap] at hx
 by_cases h7 : w2 = wAdd
 ·rw [if_neg (by rw [h7]; decide), if_neg (by rw [h7]; decide), if_neg h6, if_pos h7, ← hg2] at hk
  rw [if_neg h6, if_pos h7] at hE
  refine uD (uD (aoR fun _ => ?_))
  refine run ?_ 2
  apply wX; exact Tryz.underlying142; exact yP; exact rfl; exact rfl; exact .str Tryz.underlying9; exact rfl; exact hk
  refine run ?_ 2; rotate_left
  refine uC (uD (aoR fun _ => ?_))
  refine run ?_ 2
  apply spT; exact rfl
  intro hc_
  have hp_ := hc_; try simp only [nrm] at hp_
  apply wU; exact evm; exact evm
  refine run ?_ 2
  apply spT; exact rfl
  intro hc_
  have hp_ := hc_; try simp only [nrm] at hp_
  apply wU; exact evm; exact evm
  refine run ?_ 2; rotate_left
  refine uC (vC rfl (fun _ => ?_) (fun hx => ?_))
  ·refine eA (tmL [(2, .lo 2 (v0, 0) 10 0 0), (3, .lo 3 (v0, 1) 1 0 0), (4, .d (wsTV W)), (9, .d (.fn 140 [] [kindTV 4]))]) (stL (stRows (v0, 0) (v0, 1) 0 0 0 0 0 0 false false 0 0 false)) leP leP ?_
   cases hs : bothOf 4 W with
   | some s =>
    have hR : stepR l = (s, true) := cK (by rw [hE]; exact hs)
    refine run ?_; refine aoR fun _ => ?_
    refine run ?_
    apply xH; exact rfl; (exact .d _ _ _); exact rfl; exact tR hs hl5 hs5 (v0, 0); exact leP; exact rfl; (exact List.nodup_cons.2 ⟨List.not_mem_nil, List.nodup_nil⟩)
    refine run ?_; refine aoR fun _ => ?_
    refine run ?_; rotate_left
    all_goals exact okD rfl rfl rfl leP (by rw [hR]; rfl)
   | none =>
    have hR : stepR l = (stp0, false) := yA (by rw [hE]; exact hs)
    refine uD ?_
    refine (uK (ch := failC) 2 (by decide) rfl fun v => ?_)
    simp only [List.take_succ_cons, List.take_zero]
    refine run ?_; rotate_left
    refine wD (R1 := anyS (v0, 0)) (l0 := sRows (v0, 0) 0 0 0 0 0 0 false false 0 0) rfl (.d _ _ _) rfl ?_ leP (fun l1 hl => ?_) (fun l1 hl => ?_)
    exact tS hs hl5 hs5 (v0, 0)
    ·exact hl.nodup
    ·obtain ⟨k2, r2, v2, n2, d2, b2, a2, l2, p2, q2, rfl⟩ := hl
     exact jA rfl rfl rfl leP (by rw [hR]; rfl)
  ·exfalso
   simp only [hg2] at hx
   simp [h7, wAdd] at hx
 rw [if_neg h6, if_neg h7] at hE
 refine vB (X := Unit) (fun _ => tmL [(2, .lo 2 (v0, 0) 10 0 0), (3, .lo 3 (v0, 1) 1 0 0), (4, .d (wsTV W))]) (fun _ => stL (stRows (v0, 0) (v0, 1) 0 0 0 0 0 0 false false 0 0 false)) ?_ fun _ => ?_
 ·by_cases h4 : w2 = wFence
  ·rw [if_pos h4, ← hg2] at hk
   refine uD (aoR fun _ => ?_)
   refine run ?_ 2
   apply wX; exact Tryz.underlying142; exact yP; exact rfl; exact rfl; exact .str Tryz.underlying9; exact rfl; exact hk
   refine run ?_ 2; rotate_left
   refine uC (uD (aoR fun _ => ?_))
   refine run ?_ 2
   apply spT; exact rfl
   intro hc_
   have hp_ := hc_; try simp only [nrm] at hp_
   apply wU; exact evm; exact evm
   refine run ?_ 2
   apply spT; exact rfl
   intro hc_
   have hp_ := hc_; try simp only [nrm] at hp_
   apply wU; exact evm; exact evm
   refine run ?_ 2; rotate_left
   refine uC (vC rfl (fun hx => ?_) (fun _ => ?_))
   rotate_left 1
   exact vG (wQ () leP leP)
   exfalso
   simp only [hg2] at hx
   simp [h4, wFence] at hx
  by_cases h5 : w2 = wIf
  ·rw [if_neg h4, if_pos h5, ← hg2] at hk
   refine uD (aoR fun _ => ?_)
   refine run ?_ 2
   apply wX; exact Tryz.underlying142; exact yP; exact rfl; exact rfl; exact .str Tryz.underlying9; exact rfl; exact hk
   refine run ?_ 2; rotate_left
   refine uC (uD (aoR fun _ => ?_))
   refine run ?_ 2
   apply spT; exact rfl
   intro hc_
   have hp_ := hc_; try simp only [nrm] at hp_
   apply wU; exact evm; exact evm
   refine run ?_ 2
   apply spT; exact rfl
   intro hc_
   have hp_ := hc_; try simp only [nrm] at hp_
   apply wU; exact evm; exact evm
   refine run ?_ 2; rotate_left
   refine uC (vC rfl (fun hx => ?_) (fun _ => ?_))
   rotate_left 1
   exact vG (wQ () leP leP)
   exfalso
   simp only [hg2] at hx
   simp [h5, wIf] at hx
  ·rw [if_neg h4, if_neg h5, if_neg h6, if_neg h7, ← hg2] at hk
   refine uD (aoR fun _ => ?_)
   refine run ?_ 2
   apply wX; exact Tryz.underlying142; exact yP; exact rfl; exact rfl; exact .str Tryz.underlying9; exact rfl; exact hk
   refine run ?_ 2; rotate_left
   refine uC (uD (aoR fun _ => ?_))
   refine run ?_ 2
   apply spT; exact rfl
   intro hc_
   have hp_ := hc_; try simp only [nrm] at hp_
   apply wU; exact evm; exact evm
   refine run ?_ 2
   apply spT; exact rfl
   intro hc_
   have hp_ := hc_; try simp only [nrm] at hp_
   apply wU; exact evm; exact evm
   refine run ?_ 2; rotate_left
   refine uC (vC rfl (fun hx => ?_) (fun _ => ?_))
   rotate_left 1
   exact vG (wQ () leP leP)
   exfalso
   simp at hx
 subst hW0
 rcases W0 with _ | ⟨w1, _ | ⟨w2', W3⟩⟩ <;> first | (exfalso; simp at h3l; done) | skip
 obtain rfl : w2 = w2' := hg2.symm
 have hl3 : (w0 :: w1 :: w2 :: W3).length = W3.length + 3 := by simp
 have c14 := tH w0 [114] (by have := hs5 w0 (by simp); omega) (by decide)
 rw [nA] at c14
 by_cases hh : w0.head? = some 114
 ·rw [decide_eq_true hh] at c14
  rw [if_pos hh] at hE
  have hE : stepW (splitC 32 l) = (regOf w0).bind fun r => (nameOf w2).bind fun v => (suffOf W3).map fun x => (⟨1, r, v, 0, 0, x.1, x.2.1, x.2.2, 0, 0⟩ : Stp) := hE
  cases hr : regOf w0 with
  | none =>
   have hR : stepR l = (stp0, false) := yA (by rw [hE, hr]; rfl)
   refine uD (uD (aoR fun _ => ?_))
   refine run ?_ 2
   apply uA; exact rfl; exact .fn _ _ _; exact rfl; exact c14
   refine run ?_ 2; rotate_left
   refine uC (eB rfl ?_)
   refine yK (ch := failC) 3 3 [87, 2, 3, GS] (by decide) rfl (by decide) (by decide +kernel) (by decide) (fun d r tm σ hd h => pC (fun hm => hd (List.mem_cons_of_mem _ hm)) h) fun v => ?_
   simp only [List.take_succ_cons, List.take_zero, List.drop_succ_cons, List.drop_zero]
   refine run ?_; rotate_left
   refine aW ?_; refine run ?_; rotate_left
   refine aX (by first | decide +kernel | (simp only [wkeys, outD, List.map_cons, List.map_nil]; decide +kernel)) ?_
   refine wD (R1 := fun l1 => l1 = []) (l0 := []) rfl (.fn _ _ _) rfl ?_ (uL _) (fun l1 hl => ?_) (fun l1 hl => ?_)
   rotate_left 1
   (subst hl; exact List.nodup_nil)
   rotate_left 1
   exact kK hr
   subst hl
   exact jA rfl rfl rfl leP (by rw [hR]; rfl)
  | some rr =>
   rw [hr, Option.bind_some] at hE
   have c15 := eF hr
   cases hv : nameOf w2 with
   | none =>
    have hR : stepR l = (stp0, false) := yA (by rw [hE, hv]; rfl)
    refine uD (uD (aoR fun _ => ?_))
    refine run ?_ 2
    apply uA; exact rfl; exact .fn _ _ _; exact rfl; exact c14
    refine run ?_ 2; rotate_left
    refine uC (eB rfl ?_)
    refine yK (ch := failC) 7 0 [91, 2, 3, GS] (by decide) rfl (by decide) (by decide +kernel) (by decide) (fun d r tm σ hd h => pC (fun hm => hd (List.mem_cons_of_mem _ hm)) h) fun v => ?_
    simp only [List.take_succ_cons, List.take_zero, List.drop_succ_cons, List.drop_zero]
    refine run ?_
    apply wC; exact rfl; exact .fn _ _ _; exact rfl; exact c15
    refine run ?_; rotate_left
    refine aW ?_; rotate_left
    refine aX (by first | decide +kernel | (simp only [wkeys, outD, List.map_cons, List.map_nil]; decide +kernel)) ?_
    refine wD (R1 := fun l1 => l1 = []) (l0 := []) rfl (.fn _ _ _) rfl ?_ (uL _) (fun l1 hl => ?_) (fun l1 hl => ?_)
    rotate_left 1
    (subst hl; exact List.nodup_nil)
    rotate_left 1
    exact nP hv
    subst hl
    exact jA rfl rfl rfl leP (by rw [hR]; rfl)
   | some vv =>
    rw [hv, Option.bind_some] at hE
    have c16 := iH hv
    refine vB (X := Unit) (fun _ => tmL [(2, .lo 2 (v0, 0) 10 0 0), (3, .lo 3 (v0, 1) 1 0 0), (4, .d (wsTV (w0 :: w1 :: w2 :: W3)))]) (fun _ => stL (stRows (v0, 0) (v0, 1) 1 rr vv 0 0 0 false false 0 0 false)) ?_ fun _ => ?_
    ·refine run ?_
     refine aoR fun _ => ?_; refine run ?_
     apply uA; exact rfl; exact .fn _ _ _; exact rfl; (exact c14)
     refine run ?_; refine cnd ?_ ?_; refine uJ ?_
     refine uG (E := E) ?_ (fun _ => ?_); exact rfl
     refine run ?_
     apply wC; exact rfl; exact .fn _ _ _; exact rfl; (exact c15)
     refine run ?_
     apply wC; exact rfl; exact .fn _ _ _; exact rfl; (exact c16)
     refine run ?_; rotate_left
     exact uM
     all_goals exact wQ () leP leP
    cases hx : suffOf W3 with
    | none =>
     have hR : stepR l = (stp0, false) := yA (by rw [hE]; rw [hx]; rfl)
     have c4 : ∀ L, L = W3.map wTV → FnP E.P 91 [.lo 2 (v0, 0) 10 0 0, .d (.sl 1 L)] (sRows (v0, 0) 1 rr vv 0 0 0 false false 0 0) failC (anyS (v0, 0)) := fun L hL => by
      subst hL
      exact (iM hx (by omega) 1 rr vv 0 0 0 0 (v0, 0)).imp fun l1 ⟨b, a, l, e⟩ => ⟨_, _, _, _, _, b, a, l, _, _, e⟩
     refine uD ?_
     refine (uK (ch := failC) 2 (by decide) rfl fun v => ?_)
     simp only [List.take_succ_cons, List.take_zero]
     refine run ?_; rotate_left
     refine wD (R1 := anyS (v0, 0)) (l0 := sRows (v0, 0) 1 rr vv 0 0 0 false false 0 0) rfl (.fn _ _ _) rfl ?_ leP (fun l1 hl => ?_) (fun l1 hl => ?_)
     exact c4 _ (aH (w0 :: w1 :: w2 :: W3) 3 _ (by omega))
     ·exact hl.nodup
     ·obtain ⟨k2, r2, v2, n2, d2, b2, a2, l2, p2, q2, rfl⟩ := hl
      exact jA rfl rfl rfl leP (by rw [hR]; rfl)
    | some x =>
     have hR : stepR l = (⟨1, rr, vv, 0, 0, x.1, x.2.1, x.2.2, 0, 0⟩, true) := cK (by rw [hE]; rw [hx]; rfl)
     have c4 : ∀ L, L = W3.map wTV → FnW E.P 91 [.lo 2 (v0, 0) 10 0 0, .d (.sl 1 L)] (stL (sRows (v0, 0) 1 rr vv 0 0 0 false false 0 0)) (IsW (.tu []) (stL (sRows (v0, 0) 1 rr vv 0 0 x.1 x.2.1 x.2.2 0 0))) := fun L hL => by
      subst hL
      exact iL hx (by omega) 1 rr vv 0 0 0 0 (v0, 0)
     refine run ?_; refine aoR fun _ => ?_
     refine run ?_
     apply xH; exact rfl; exact .fn _ _ _; exact rfl; exact c4 _ (aH (w0 :: w1 :: w2 :: W3) 3 _ (by omega)); exact leP; exact rfl; (exact List.nodup_cons.2 ⟨List.not_mem_nil, List.nodup_nil⟩)
     refine run ?_; refine aoR fun _ => ?_
     refine run ?_; rotate_left
     all_goals exact okD rfl rfl rfl leP (by rw [hR]; rfl)
 ·rw [decide_eq_false hh] at c14
  rw [if_neg hh] at hE
  have hE : stepW (splitC 32 l) = (nameOf w0).bind fun v => (operOf w2).bind fun o => (suffOf W3).map fun x => (⟨2, 0, v, o.2, o.1, x.1, x.2.1, x.2.2, 0, 0⟩ : Stp) := hE
  cases hv : nameOf w0 with
  | none =>
   have hR : stepR l = (stp0, false) := yA (by rw [hE, hv]; rfl)
   refine uD (uD (aoR fun _ => ?_))
   refine run ?_ 2
   apply uA; exact rfl; exact .fn _ _ _; exact rfl; exact c14
   refine run ?_ 2; rotate_left
   refine uC (kE rfl (uD ?_))
   refine (uK (ch := failC) 3 (by decide) rfl fun v => ?_)
   simp only [List.take_succ_cons, List.take_zero]
   refine run ?_; rotate_left
   refine wD (R1 := fun l1 => l1 = []) (l0 := []) rfl (.fn _ _ _) rfl ?_ (uL _) (fun l1 hl => ?_) (fun l1 hl => ?_)
   rotate_left 1
   (subst hl; exact List.nodup_nil)
   rotate_left 1
   exact nP hv
   subst hl
   exact jA rfl rfl rfl leP (by rw [hR]; rfl)
  | some vv =>
   rw [hv, Option.bind_some] at hE
   have c16 := iH hv
   have hl2 := hs5 w2 (by simp)
   cases ho : operOf w2 with
   | none =>
    have hR : stepR l = (stp0, false) := yA (by rw [hE, ho]; rfl)
    refine uD (uD (aoR fun _ => ?_))
    refine run ?_ 2
    apply uA; exact rfl; exact .fn _ _ _; exact rfl; exact c14
    refine run ?_ 2; rotate_left
    refine uC (kE rfl (uD ?_)); refine aoR fun _ => ?_
    refine run ?_ 2
    apply uA; exact rfl; exact .fn _ _ _; exact rfl; exact c16
    refine run ?_ 2; rotate_left
    refine uC ?_
    refine (uK (ch := failC) 3 (by decide) rfl fun v => ?_)
    simp only [List.take_succ_cons, List.take_zero]
    refine run ?_; rotate_left
    refine wD (R1 := fun l1 => l1 = sRows (v0, 0) 2 0 vv 0 0 0 false false 0 0) (l0 := sRows (v0, 0) 2 0 vv 0 0 0 false false 0 0) rfl (.fn _ _ _) rfl ?_ leP (fun l1 hl => ?_) (fun l1 hl => ?_)
    exact lJ ho hl2 2 0 vv 0 0 0 false false 0 0 (v0, 0)
    ·subst hl; exact (xP _ _ _ _ _ _ _ _ _ _ _).nodup
    ·subst hl
     exact jA rfl rfl rfl leP (by rw [hR]; rfl)
   | some o =>
    rw [ho, Option.bind_some] at hE
    have c17 := fY ho hl2 2 0 vv 0 false false 0 0 (v0, 0)
    refine vB (X := Unit) (fun _ => tmL [(2, .lo 2 (v0, 0) 10 0 0), (3, .lo 3 (v0, 1) 1 0 0), (4, .d (wsTV (w0 :: w1 :: w2 :: W3)))]) (fun _ => stL (stRows (v0, 0) (v0, 1) 2 0 vv o.2 o.1 0 false false 0 0 false)) ?_ fun _ => ?_
    ·refine run ?_
     refine aoR fun _ => ?_; refine run ?_
     apply uA; exact rfl; exact .fn _ _ _; exact rfl; (exact c14)
     refine run ?_; refine cnd ?_ ?_
     exact vS
     refine vH ?_; refine run ?_; refine aoR fun _ => ?_
     refine run ?_
     apply uA; exact rfl; exact .fn _ _ _; exact rfl; (exact c16)
     refine run ?_; refine aoR fun _ => ?_
     refine run ?_
     apply xH; exact rfl; exact .fn _ _ _; exact rfl; exact c17; exact leP; exact rfl; (exact List.nodup_cons.2 ⟨List.not_mem_nil, List.nodup_nil⟩)
     refine run ?_; rotate_left
     all_goals exact wQ () leP leP
    cases hx : suffOf W3 with
    | none =>
     have hR : stepR l = (stp0, false) := yA (by rw [hE]; rw [hx]; rfl)
     have c4 : ∀ L, L = W3.map wTV → FnP E.P 91 [.lo 2 (v0, 0) 10 0 0, .d (.sl 1 L)] (sRows (v0, 0) 2 0 vv o.2 o.1 0 false false 0 0) failC (anyS (v0, 0)) := fun L hL => by
      subst hL
      exact (iM hx (by omega) 2 0 vv o.2 o.1 0 0 (v0, 0)).imp fun l1 ⟨b, a, l, e⟩ => ⟨_, _, _, _, _, b, a, l, _, _, e⟩
     refine uD ?_
     refine (uK (ch := failC) 2 (by decide) rfl fun v => ?_)
     simp only [List.take_succ_cons, List.take_zero]
     refine run ?_; rotate_left
     refine wD (R1 := anyS (v0, 0)) (l0 := sRows (v0, 0) 2 0 vv o.2 o.1 0 false false 0 0) rfl (.fn _ _ _) rfl ?_ leP (fun l1 hl => ?_) (fun l1 hl => ?_)
     exact c4 _ (aH (w0 :: w1 :: w2 :: W3) 3 _ (by omega))
     ·exact hl.nodup
     ·obtain ⟨k2, r2, v2, n2, d2, b2, a2, l2, p2, q2, rfl⟩ := hl
      exact jA rfl rfl rfl leP (by rw [hR]; rfl)
    | some x =>
     have hR : stepR l = (⟨2, 0, vv, o.2, o.1, x.1, x.2.1, x.2.2, 0, 0⟩, true) := cK (by rw [hE]; rw [hx]; rfl)
     have c4 : ∀ L, L = W3.map wTV → FnW E.P 91 [.lo 2 (v0, 0) 10 0 0, .d (.sl 1 L)] (stL (sRows (v0, 0) 2 0 vv o.2 o.1 0 false false 0 0)) (IsW (.tu []) (stL (sRows (v0, 0) 2 0 vv o.2 o.1 x.1 x.2.1 x.2.2 0 0))) := fun L hL => by
      subst hL
      exact iL hx (by omega) 2 0 vv o.2 o.1 0 0 (v0, 0)
     refine run ?_; refine aoR fun _ => ?_
     refine run ?_
     apply xH; exact rfl; exact .fn _ _ _; exact rfl; exact c4 _ (aH (w0 :: w1 :: w2 :: W3) 3 _ (by omega)); exact leP; exact rfl; (exact List.nodup_cons.2 ⟨List.not_mem_nil, List.nodup_nil⟩)
     refine run ?_; refine aoR fun _ => ?_
     refine run ?_; rotate_left
     all_goals exact okD rfl rfl rfl leP (by rw [hR]; rfl)
end
section
variable {k s : Nat} {τ : Stamp} {rows : List (List TV)}
structure FrC (k : Nat) (τ : Stamp) (s : Nat) (rows : List (List TV)) (a b : List OV) : Prop where
 len : a.length = b.length
 cells : ∀ (o : Nat) (y' : OV), b[o]? = some y' → ∃ y : OV, a[o]? = some y ∧ Froz k τ s rows y y'
theorem bB : FrC k τ s rows [] [] := ⟨rfl, fun o y' h => by simp at h⟩
theorem vF {y y' : OV} {a b : List OV} (h : Froz k τ s rows y y') (hl : FrC k τ s rows a b) : FrC k τ s rows (y :: a) (y' :: b) :=
 ⟨by simp [hl.len], fun o z hz => by
  match o, hz with
  | 0, hz => cases hz; exact ⟨y, rfl, h⟩
  | o + 1, hz => exact hl.cells o z hz⟩
theorem zT {a : List OV} : FrC k τ s rows a a := ⟨rfl, fun _ y' h => ⟨y', h, .same y'⟩⟩
theorem bA {q : Nat} : FrozR k τ s rows ⟨q, []⟩ ⟨q, []⟩ := FrozR.same _
theorem wE {q : Nat} {a b : List OV} {l l' : List (List OV)} (h : FrC k τ s rows a b) (hl : FrozR k τ s rows ⟨q, l⟩ ⟨q, l'⟩) : FrozR k τ s rows ⟨q, a :: l⟩ ⟨q, b :: l'⟩ :=
 ⟨rfl, by simpa using hl.2.1, fun i row' hi => by
  match i, hi with
  | 0, hi => cases hi; exact ⟨a, rfl, h.len, h.cells⟩
  | i + 1, hi => exact hl.2.2 i row' hi⟩
end
variable {σ : Store} {w : World} {τx : Stamp} {row x : List OV} {tm : Tm} {Q : Exit → Tm → Store → Prop} {t a : Ts} {s : Stp} {l : List Stp}
theorem WRel.cell {Γ : Ctx} {G : Gh} {kx q i o : Nat} {rows : List (List OV)} {y y' : OV} (hw : WRel Γ G σ w) (hk : σ kx = some (τx, ⟨q, rows⟩)) (hr : rows[i]? = some row) (ho : row[o]? = some y) (hy : ∀ x, RepO G y x → RepO G y' x) :
  WRel Γ G (σ.put kx (τx, ⟨q, rows.set i (row.set o y')⟩)) w where
 mem := hw.mem
 own j τ' r' hj := by
  by_cases e : j = kx
  ·subst e
   rw [Store.put_self] at hj
   cases hj
   rcases hw.own j _ _ hk with ⟨_, g2⟩ | ⟨β, g1, ⟨cs, c1, c2, c3, c4⟩, g3, g4⟩
   ·have g2' : rows = [] := g2
    rw [g2'] at hr; simp at hr
   ·refine Or.inr ⟨β, g1, ⟨cs, c1, c2, by simpa using c3, fun i' row' hi => ?_⟩, g3, g4⟩
    by_cases ei : i' = i
    ·subst ei
     obtain ⟨d1, d2⟩ := c4 i' row hr
     have hlt : i' < rows.length := by
      rcases Nat.lt_or_ge i' rows.length with h | h
      ·exact h
      ·rw [List.getElem?_eq_none h] at hr; cases hr
     have hi' : (rows.set i' (row.set o y'))[i']? = some row' := hi
     rw [List.getElem?_set_self hlt] at hi'
     cases hi'
     refine ⟨by rw [List.length_set]; exact d1, fun o' z hz => ?_⟩
     by_cases eo : o' = o
     ·subst eo
      have hlo : o' < row.length := by
       rcases Nat.lt_or_ge o' row.length with h | h
       ·exact h
       ·rw [List.getElem?_eq_none h] at ho; cases ho
      rw [List.getElem?_set_self hlo] at hz
      cases hz
      obtain ⟨v, e6, e7⟩ := d2 o' y ho
      exact ⟨v, e6, hy v e7⟩
     ·rw [List.getElem?_set_ne (Ne.symm eo)] at hz
      exact d2 o' z hz
    ·have hi' : (rows.set i (row.set o y'))[i']? = some row' := hi
     rw [List.getElem?_set_ne (Ne.symm ei)] at hi'
     exact c4 i' row' hi'
  ·rw [Store.put_ne _ _ e] at hj
   exact hw.own j τ' r' hj
 inj j j' τ1 τ2 β β' r r' hj hj' hμ hμ' e := by
  have old : ∀ j τ r, (σ.put kx (τx, ⟨q, rows.set i (row.set o y')⟩)) j = some (τ, r) → ∃ r0, σ j = some (τ, r0) := fun j τ r h => by
   by_cases e : j = kx
   ·subst e; rw [Store.put_self] at h; cases h; exact ⟨_, hk⟩
   ·rw [Store.put_ne _ _ e] at h; exact ⟨r, h⟩
  obtain ⟨r1, h1⟩ := old _ _ _ hj
  obtain ⟨r2, h2⟩ := old _ _ _ hj'
  exact hw.inj j j' τ1 τ2 β β' r1 r2 h1 h2 hμ hμ' e
 keep := hw.keep
 size := hw.size
 tape := hw.tape
 os := hw.os
 output := hw.output
 g0 := hw.g0
 new := hw.new
 bound := hw.bound
 low := hw.low
theorem SRel.tell {n : Nat} {C : Cx} {G G' : Gh} {σ' : Store} {a : Act} (hs : SRel n C G tm σ a w) (hle : G.le G') (hw : WRel C.Γ G' σ' w) : SRel n C G' tm σ' a w :=
 ⟨hs.size, hs.defers, hs.tm.mono hle, hw, hs.fix, hs.marks, fun i Y hi => let ⟨h1, h2, h3⟩ := hs.gh i Y hi; ⟨h1, h2.trans hle, h3⟩⟩
theorem kD {P : Program} {n : Nat} {c : Code} {kx q i o : Nat} {rows : List (List OV)} (k s : Nat) (hk : σ kx = some (τx, ⟨q, rows⟩)) (hr : rows[i]? = some row) (ho : row[o]? = some (.d (.c (.slice none 0 0)))) (hne : kx ≠ k) (h : ∀ τ, awp P n c Q tm ((σ.put k (τ, ⟨s, []⟩)).put kx (τx, ⟨q, rows.set i (row.set o (.os k τ s 0))⟩))) : awp P n c Q tm σ := fun C ro G a w hro hs => by
 obtain ⟨v, hv, hf⟩ := hs.w.free
 have hle := Gh.name_le G none (hf k 0)
 refine h (v, 0) C ro (G.name k (v, 0) none) a w hro (hs.tell hle ((hs.w.phantom k hv (hf k 0) s).cell (by rw [Store.put_ne _ _ hne]; exact hk) hr ho fun x hx => ?_))
 rw [RepO, Rep] at hx
 rw [RepO]
 exact Or.inr ⟨Gh.name_self _ _ _ _, hx.1, rfl⟩
set_option maxRecDepth 100000
theorem bT : ∀ (l : Ts) (n : Nat), (∀ x ∈ l, x.length ≤ n) → l.flatten.length ≤ l.length * n
 | [], _, _ => by simp
 | a :: l, n, h => by
  have h1 := h a (by simp)
  have h2 := bT l n fun x hx => h x (by simp [hx])
  rw [List.flatten_cons, List.length_append, List.length_cons, Nat.succ_mul]
  omega
theorem cA (a b : List Stp) : accs (a ++ b) = accs a + accs b := by unfold accs; rw [List.filter_append, List.length_append]
theorem pN (s : Stp) : accs [s] = if s.acc then 1 else 0 := by unfold accs; cases h : s.acc <;> simp [h]
theorem nO (a : List Stp) : accs a ≤ a.length := List.length_filter_le _ _
theorem wP {α : Type} {l : List α} {d : α} {k : Nat} (h : k < l.length) : l.getD k d ∈ l := by
 rw [List.getD_eq_getElem?_getD, List.getElem?_eq_getElem h]; exact List.getElem_mem h
set_option maxHeartbeats 4000000 in
theorem fL (t : Ts) : Pure E.P 20 [testOV t] (.int .i64 (checkT t)) := by
 have f1 : Frozen 1 := ⟨trivial⟩
 have f7 : Frozen 7 := ⟨trivial⟩
 refine fnA Tryz.func20 Tryz.ntmps20 ?_
 by_cases h0 : t.length < 1 ∨ 4 < t.length
 ·have e : checkT t = 2 := by unfold checkT; rw [if_pos h0]
  rw [e]
  refine run ?_; refine aoR fun _ => ?_
  refine run ?_; refine aoR fun _ => ?_
  refine run ?_; refine cnd ?_ ?_
  refine xI (fun hc_ => ?_); (try simp only [nrm] at hc_)
  refine run ?_; refine aoR fun _ => ?_
  refine run ?_; rotate_left
  refine xJ ?_
  iterate 2 refine uF fun _ => ?_; try omega
  all_goals first | exact xL rfl rfl | (exfalso; omega)
 ·have hn1 : 1 ≤ t.length := by omega
  have hn4 : t.length ≤ 4 := by omega
  refine run ?_; refine aoR fun _ => ?_
  refine run ?_; refine aoR fun _ => ?_
  refine run ?_; refine cnd ?_ ?_
  refine xI (fun hc_ => ?_); (try simp only [nrm] at hc_)
  refine run ?_; refine aoR fun _ => ?_
  refine run ?_; rotate_left
  refine xJ ?_
  iterate 2 refine uF fun _ => ?_; try omega
  refine run ?_; refine aoR fun _ => ?_
  refine run ?_; refine aoR fun _ => ?_
  refine run ?_; rotate_left
  all_goals try omega
  refine vA (X := Nat) (fun i => tmL [(1, .d (.pt [.sl 1 (t.map catRowT)] 0)), (3, .int .i64 (accs (t.take i).flatten)), (19, .d (.sl 1 (t.map catRowT))), (20, .int .i64 t.length), (21, .int .i64 i)]) (fun _ => stL []) (fun i => i ≤ t.length ∧ (t.take i).all threadOk = true) (fun i => t.length - i) 0 ⟨Nat.zero_le _, rfl⟩ (by repeat' (first | exact vP _ | exact uL _ | refine uO rfl ?_ | refine uS rfl ?_ | (refine vD rfl ?_ ?_; (simp)) | (refine uR rfl ?_ ?_; (simp)) | (refine uN rfl ?_ ?_; (simp)))) leP ?_
  rintro i ⟨hi, hok⟩
  have hfl : (t.take i).flatten.length ≤ 64 := by
   have := bT (t.take i) 16 fun x hx => by
    have h := List.all_eq_true.1 hok x hx
    unfold threadOk at h
    simp only [Bool.and_eq_true, decide_eq_true_eq] at h
    exact h.1
   rw [List.length_take] at this; omega
  have hac := nO (t.take i).flatten
  by_cases hlt : i < t.length
  ·have hst := vR t default i hlt
   obtain ⟨l, hl⟩ : ∃ l, l = t.getD (i : Int).toNat default := ⟨_, rfl⟩
   have hl' : t.getD i default = l := by rw [hl, Int.toNat_natCast]
   rw [hl'] at hst
   by_cases h16 : 16 < l.length
   ·have e : checkT t = 2 := by
     have hno : t.all threadOk = false := by
      rw [List.all_eq_false]
      refine ⟨l, by rw [← hl']; exact wP hlt, ?_⟩
      unfold threadOk
      rw [decide_eq_false (by omega)]; simp
     unfold checkT
     rw [if_neg h0, if_pos hno]
    rw [e]
    subst hl
    refine run ?_; refine aoR fun _ => ?_
    refine run ?_; refine cnd ?_ ?_
    refine uE fun _ => ?_; try omega
    refine run ?_; refine aoR fun _ => ?_
    refine run ?_; refine aoR fun _ => ?_
    refine run ?_; refine cnd ?_ ?_
    refine uE fun _ => ?_; try omega
    refine run ?_; refine aoR fun _ => ?_
    refine run ?_; rotate_left
    iterate 2 refine uF fun _ => ?_; try omega
    all_goals first | exact xL rfl rfl | (exfalso; omega)
   ·have h16' : l.length ≤ 16 := by omega
    subst hl
    refine run ?_; refine aoR fun _ => ?_
    refine run ?_; refine cnd ?_ ?_
    refine uE fun _ => ?_; try omega
    refine run ?_; refine aoR fun _ => ?_
    refine run ?_; refine aoR fun _ => ?_
    refine run ?_; refine cnd ?_ ?_
    refine uE fun _ => ?_; try omega
    refine uF fun _ => ?_; try omega
    refine run ?_; refine aoR fun _ => ?_
    refine run ?_; rotate_left
    refine uF fun _ => ?_; try omega
    refine vA (X := Nat) (fun k => tmL [(1, .d (.pt [.sl 1 (t.map catRowT)] 0)), (3, .int .i64 ((accs (t.take i).flatten : Int) + (accs ((t.getD (i : Int).toNat default).take k) : Int))), (19, .d (.sl 1 (t.map catRowT))), (20, .int .i64 t.length), (21, .int .i64 i), (28, .d (.sl 10 ((t.getD (i : Int).toNat default).map stTV))), (29, .int .i64 (t.getD (i : Int).toNat default).length), (30, .int .i64 k)]) (fun _ => stL []) (fun k => k ≤ (t.getD (i : Int).toNat default).length ∧ ((t.getD (i : Int).toNat default).take k).all Stp.right = true) (fun k => (t.getD (i : Int).toNat default).length - k) 0 ⟨Nat.zero_le _, rfl⟩ (by repeat' (first | exact vP _ | exact uL _ | refine uO rfl ?_ | refine uS rfl ?_ | (refine vD rfl ?_ ?_; (simp [accs])) | (refine uR rfl ?_ ?_; (simp [accs])) | (refine uN rfl ?_ ?_; (simp [accs])))) leP ?_
    rintro k ⟨hk, hkr⟩
    have hak := nO ((t.getD (i : Int).toNat default).take k)
    have hkl : ((t.getD (i : Int).toNat default).take k).length ≤ 16 := by rw [List.length_take]; omega
    by_cases hlk : k < (t.getD (i : Int).toNat default).length
    ·have hsk := vR (t.getD (i : Int).toNat default) default k hlk
     obtain ⟨s, hs⟩ : ∃ s, s = (t.getD (i : Int).toNat default).getD (k : Int).toNat default := ⟨_, rfl⟩
     have hs' : (t.getD (i : Int).toNat default).getD k default = s := by rw [hs]; rfl
     rw [hs'] at hsk
     have c1 := right9_p s
     have c2 := dF s
     cases hsr : s.right with
     | false =>
      rw [hsr] at c1
      have e : checkT t = 2 := by
       have hno : t.all threadOk = false := by
        rw [List.all_eq_false]
        refine ⟨t.getD i default, wP hlt, ?_⟩
        unfold threadOk
        rw [show t.getD i default = t.getD (i : Int).toNat default from hl']
        rw [List.all_eq_false.2 ⟨s, by rw [← hs']; exact wP hlk, by rw [hsr]; decide⟩]; simp
       unfold checkT
       rw [if_neg h0, if_pos hno]
      rw [e]
      subst hs
      refine run ?_; refine aoR fun _ => ?_
      refine run ?_; refine cnd ?_ ?_
      refine uE fun _ => ?_; try omega
      refine run ?_; refine aoR fun _ => ?_
      refine run ?_; refine aoR fun _ => ?_
      refine run ?_
      apply uA; exact rfl; exact .fn _ _ _; exact rfl; exact c1
      refine run ?_; refine cnd ?_ ?_; refine yY ?_; refine vH ?_; refine run ?_; refine aoR fun _ => ?_
      refine run ?_; rotate_left
      refine wN ?_
      exact vS
      refine uF fun _ => ?_; try omega
      all_goals exact xL rfl rfl
     | true =>
      rw [hsr] at c1
      have hak1 : accs ((t.getD (i : Int).toNat default).take (k + 1)) = accs ((t.getD (i : Int).toNat default).take k) + (if s.acc then 1 else 0) := by
       rw [hsk, cA]
       rw [pN]
      have hkr1 : ((t.getD (i : Int).toNat default).take (k + 1)).all Stp.right = true := by
       rw [hsk, List.all_append, hkr]; simp [hsr]
      cases hsa : s.acc with
      | false =>
       rw [hsa] at c2 hak1
       subst hs
       refine run ?_; refine aoR fun _ => ?_
       refine run ?_; refine cnd ?_ ?_
       refine uE fun _ => ?_; try omega
       refine run ?_; refine aoR fun _ => ?_
       refine run ?_; refine aoR fun _ => ?_
       refine run ?_
       apply uA; exact rfl; exact .fn _ _ _; exact rfl; exact c1
       refine run ?_; refine cnd ?_ ?_; refine yY ?_
       exact uM
       refine wN ?_; refine uJ ?_; refine run ?_; refine aoR fun _ => ?_
       refine run ?_
       apply uA; exact rfl; exact .fn _ _ _; exact rfl; exact c2
       refine run ?_; refine cnd ?_ ?_
       exact vS
       refine vH ?_; refine run ?_; refine aoR fun _ => ?_
       refine run ?_; rotate_left
       refine uF fun _ => ?_; try omega
       refine uU (k + 1) ⟨by omega, hkr1⟩ (by omega) (by repeat' (first | exact vP _ | exact uL _ | refine uO rfl ?_ | refine uS rfl ?_ | (refine vD rfl ?_ ?_; (rw [hak1]; simp)) | (refine uR rfl ?_ ?_; (rw [hak1]; simp)) | (refine uN rfl ?_ ?_; (rw [hak1]; simp)))) leP
      | true =>
       rw [hsa] at c2 hak1
       subst hs
       refine run ?_; refine aoR fun _ => ?_
       refine run ?_; refine cnd ?_ ?_
       refine uE fun _ => ?_; try omega
       refine run ?_; refine aoR fun _ => ?_
       refine run ?_; refine aoR fun _ => ?_
       refine run ?_
       apply uA; exact rfl; exact .fn _ _ _; exact rfl; exact c1
       refine run ?_; refine cnd ?_ ?_; refine yY ?_
       exact uM
       refine wN ?_; refine uJ ?_; refine run ?_; refine aoR fun _ => ?_
       refine run ?_
       apply uA; exact rfl; exact .fn _ _ _; exact rfl; exact c2
       refine run ?_; refine cnd ?_ ?_; refine uJ ?_; refine aoR fun _ => ?_
       refine run ?_; refine aoR fun _ => ?_
       refine run ?_; rotate_left
       exact uM
       refine uF fun _ => ?_; try omega
       refine uU (k + 1) ⟨by omega, hkr1⟩ (by omega) (by repeat' (first | exact vP _ | exact uL _ | refine uO rfl ?_ | refine uS rfl ?_ | (refine vD rfl ?_ ?_; (rw [hak1]; simp; omega)) | (refine uR rfl ?_ ?_; (rw [hak1]; simp; omega)) | (refine uN rfl ?_ ?_; (rw [hak1]; simp; omega)))) leP
    ·have hkk : k = (t.getD (i : Int).toNat default).length := by omega
     subst hkk
     refine run ?_; refine aoR fun _ => ?_
     refine run ?_; refine cnd ?_ ?_
     refine uE fun _ => ?_; try omega
     refine uF fun _ => ?_; try omega
     refine run ?_; refine aoR fun _ => ?_
     refine run ?_; rotate_left
     rw [List.take_length] at hkr
     have hf : (t.take (i + 1)).flatten = (t.take i).flatten ++ t.getD (i : Int).toNat default := by rw [hst, List.flatten_append]; simp
     refine uU (i + 1) ⟨by omega, ?_⟩ (by omega) (by repeat' (first | exact vP _ | exact uL _ | refine uO rfl ?_ | refine uS rfl ?_ | (refine vD rfl ?_ ?_; (rw [hf, cA, List.take_length]; simp)) | (refine uR rfl ?_ ?_; (rw [hf, cA, List.take_length]; simp)) | (refine uN rfl ?_ ?_; (rw [hf, cA, List.take_length]; simp)))) leP
     rw [hst, List.all_append, hok]
     simp only [List.all_cons, List.all_nil, Bool.and_true, Bool.true_and]
     unfold threadOk
     rw [hkr, decide_eq_true h16']; rfl
  ·have hil : i = t.length := by omega
   subst hil
   rw [List.take_length] at hok hfl hac ⊢
   have hr : ∀ s ∈ t.flatten, s.right = true := fun s hs => by
    obtain ⟨l, hl, hs⟩ := List.mem_flatten.1 hs
    have h := List.all_eq_true.1 hok l hl
    unfold threadOk at h
    simp only [Bool.and_eq_true] at h
    exact List.all_eq_true.1 h.2 s hs
   have c1 := ways_p t hr hfl (by omega)
   have e : checkT t = if 8 < accs t.flatten ∨ 10000 < waysT t then 2 else 0 := by
    unfold checkT
    rw [if_neg h0, if_neg (by rw [hok]; decide)]
   rw [e]
   refine run ?_; refine aoR fun _ => ?_
   refine run ?_; refine cnd ?_ ?_
   refine uE fun _ => ?_; try omega
   refine uF fun _ => ?_; try omega
   refine run ?_; refine aoR fun _ => ?_
   refine run ?_
   apply spF; exact rfl
   intro hc_
   have hp_ := hc_; try simp only [nrm] at hp_
   apply uV; exact evm; exact .fn _ _ _; exact wM; exact c1
   refine run ?_; refine cnd ?_ ?_
   refine xI (fun hc_ => ?_); (try simp only [nrm] at hc_)
   refine run ?_; refine aoR fun _ => ?_
   refine run ?_; rotate_left
   refine xJ ?_
   iterate 2 refine uF fun _ => ?_; try omega
   refine run ?_; refine aoR fun _ => ?_
   refine run ?_; rotate_left
   all_goals (refine xL rfl ?_; split <;> first | rfl | (exfalso; omega))
set_option maxRecDepth 100000
section
open Go.RowKit Go.Lib
theorem sV {f : Nat} {n : Int} : parseGo (f + 1) [] t n = if checkT t = 0 then (t, 0, 0) else ([], 0, 190) := by rw [parseGo, if_pos rfl]
theorem qZ {text : Bt} {n : Int} (h0 : text ≠ []) (h : (cutC 10 text).2.2 = true ∧ (cutC 10 text).1 = wHart ∧ t.length < 4) : parseGo (text.length + 1) text t n = parseGo ((cutC 10 text).2.1.length + 1) (cutC 10 text).2.1 (t ++ [[]]) (n + 1) := by
 have hl := cZ 10 h0
 rw [parseGo, if_neg h0, if_pos h]
 exact zP _ _ _ _ _ (by omega) (by omega)
theorem pg_none {text : Bt} {n : Int} (h0 : text ≠ []) (h : ¬ ((cutC 10 text).2.2 = true ∧ (cutC 10 text).1 = wHart ∧ t.length < 4)) (hs : stepB (cutC 10 text).1 = none) : parseGo (text.length + 1) text t n = ([], n, 190) := by
 rw [parseGo, if_neg h0, if_neg h, hs]
theorem pg_bad {text : Bt} {n : Int} (h0 : text ≠ []) (h : ¬ ((cutC 10 text).2.2 = true ∧ (cutC 10 text).1 = wHart ∧ t.length < 4)) (hs : stepB (cutC 10 text).1 = some s) (hb : (cutC 10 text).2.2 = false ∨ t.length = 0 ∨ (t.getD (t.length - 1) []).length = 16) : parseGo (text.length + 1) text t n = ([], n, 190) := by
 rw [parseGo, if_neg h0, if_neg h, hs]
 exact if_pos hb
theorem pg_step {text : Bt} {n : Int} (h0 : text ≠ []) (h : ¬ ((cutC 10 text).2.2 = true ∧ (cutC 10 text).1 = wHart ∧ t.length < 4)) (hs : stepB (cutC 10 text).1 = some s) (hb : ¬ ((cutC 10 text).2.2 = false ∨ t.length = 0 ∨ (t.getD (t.length - 1) []).length = 16)) : parseGo (text.length + 1) text t n = parseGo ((cutC 10 text).2.1.length + 1) (cutC 10 text).2.1 (addS t s) (n + 1) := by
 have hl := cZ 10 h0
 rw [parseGo, if_neg h0, if_neg h, hs]
 dsimp only
 rw [if_neg hb]
 exact zP _ _ _ _ _ (by omega) (by omega)
theorem sW {text : Bt} {n : Int} (h0 : text ≠ []) (h : ¬ ((cutC 10 text).2.2 = true ∧ (cutC 10 text).1 = wHart ∧ t.length < 4)) (hb : (cutC 10 text).2.2 = false ∨ (stepR (cutC 10 text).1).2 = false ∨ t.length = 0 ∨ (t.getD (t.length - 1) []).length = 16) : parseGo (text.length + 1) text t n = ([], n, 190) := by
 cases hs : stepB (cutC 10 text).1 with
 | none => exact pg_none h0 h hs
 | some s =>
  refine pg_bad h0 h hs ?_
  rcases hb with hb | hb | hb
  ·exact .inl hb
  ·rw [stepR, hs] at hb; cases hb
  ·exact .inr hb
theorem pg_go {text : Bt} {n : Int} (h0 : text ≠ []) (h : ¬ ((cutC 10 text).2.2 = true ∧ (cutC 10 text).1 = wHart ∧ t.length < 4)) (h1 : (cutC 10 text).2.2 = true) (h2 : (stepR (cutC 10 text).1).2 = true) (h3 : t.length ≠ 0) (h4 : (t.getD (t.length - 1) []).length ≠ 16) : parseGo (text.length + 1) text t n = parseGo ((cutC 10 text).2.1.length + 1) (cutC 10 text).2.1 (addS t (stepR (cutC 10 text).1).1) (n + 1) := by
 cases hs : stepB (cutC 10 text).1 with
 | none => rw [stepR, hs] at h2; cases h2
 | some s =>
  have he : (stepR (cutC 10 text).1).1 = s := by rw [stepR, hs]
  rw [he]
  refine pg_step h0 h hs ?_
  rintro (e | e | e)
  ·rw [h1] at e; cases e
  ·exact h3 e
  ·exact h4 e
theorem jV (c : UInt8) : ∀ l : Bt, (cutC c l).1.length ≤ l.length
 | [] => by simp [cutC]
 | x :: l => by
  have := jV c l
  rw [cutC]
  split
  ·simp
  ·simp only [List.length_cons]; omega
inductive PX where
 | none (text : Bt) (n : Nat) (τT : Stamp)
 | some (text : Bt) (n : Nat) (τT : Stamp) (a : Ts) (l : List Stp) (τL : Stamp)
def PX.text : PX → Bt
 | .none x _ _ => x
 | .some x _ _ _ _ _ => x
def PX.n : PX → Nat
 | .none _ n _ => n
 | .some _ n _ _ _ _ => n
def PX.ts : PX → Ts
 | .none _ _ _ => []
 | .some _ _ _ a l _ => a ++ [l]
def thO (l : List Stp) : List OV := [.d (stsTV l)]
def PX.rows (τ5 : Stamp) : PX → Rows
 | .none _ _ τT => [(5, (τ5, ⟨1, [[.os 900 τT 1 0]]⟩)), (900, (τT, ⟨1, []⟩))]
 | .some _ _ τT a l τL => [(5, (τ5, ⟨1, [[.os 900 τT 1 (a.length + 1)]]⟩)), (900, (τT, ⟨1, a.map thO ++ [[.os 901 τL 10 l.length]]⟩)), (901, (τL, ⟨10, l.map stO⟩))]
def PX.ok (text0 : Bt) (x : PX) : Prop := parseT text0 = parseGo (x.text.length + 1) x.text x.ts x.n ∧ x.text.length ≤ text0.length ∧ x.n + x.text.length ≤ text0.length + 1 ∧ x.ts.length ≤ 4 ∧ ∀ l ∈ x.ts, l.length ≤ 16
theorem rL {τL : Stamp} : FrozR 901 τL 10 (l.map stTV) ⟨1, a.map thO ++ [[.os 901 τL 10 l.length]]⟩ ⟨1, (a ++ [l]).map thO⟩ := by
 refine ⟨rfl, by simp, fun i row' h => ?_⟩
 have h : ((a ++ [l]).map thO)[i]? = some row' := h
 rw [List.map_append] at h
 show ∃ row, (a.map thO ++ [[OV.os 901 τL 10 l.length]])[i]? = some row ∧ _
 by_cases hi : i < (a.map thO).length
 ·rw [List.getElem?_append_left hi] at h ⊢
  exact ⟨row', h, rfl, fun o y ho => ⟨y, ho, .same y⟩⟩
 ·rw [List.getElem?_append_right (by omega)] at h ⊢
  match i - (a.map thO).length, h with
  | 0, h =>
   cases h
   refine ⟨_, rfl, rfl, fun o y ho => ?_⟩
   match o, ho with
   | 0, ho => cases ho; exact ⟨_, rfl, wF (by simp)⟩
  | j + 1, h => cases h
theorem oS : (a.map thO ++ [x])[a.length]? = some x := by rw [List.getElem?_append_right (by simp)]; simp
theorem oQ {y : List OV} : (a.map thO ++ [x]).set a.length y = a.map thO ++ [y] := by
 rw [List.set_append_right _ _ (by simp)]; simp
theorem oR : ((a ++ [l]).getD ((a ++ [l]).length - 1) []).length = l.length := by simp [List.getD_eq_getElem?_getD]
theorem zE {i : Int} (h : i = a.length) : (a.map thO ++ [x])[i.toNat]? = some x := by
 rw [h]; exact oS
theorem last_step {τ τ' : Stamp} {i : Int} (h : i = a.length) : (a.map thO ++ [[OV.os 901 τ 10 l.length]]).set i.toNat [OV.os 901 τ' 10 ((l.map stO).length + 1)] = a.map thO ++ [[OV.os 901 τ' 10 (l ++ [s]).length]] := by
 rw [h, List.length_append, List.length_map]
 exact oQ
theorem qP (l : List Stp) : (l.map stTV).map (fun r => r.map OV.d) = l.map stO := by rw [List.map_map]; rfl
theorem thO_map (a : Ts) : (a.map fun l => [stsTV l]).map (fun r => r.map OV.d) = a.map thO := by rw [List.map_map]; rfl
theorem gU {τ2 : Stamp} {y : OV} {a b : Int} {X : OV} (h2 : tm 2 = some (.lo 2 τ2 1 0 0)) (h3 : tm 3 = some (.int .i64 a)) (h4 : tm 4 = some (.int .i64 b)) (s2 : σ 2 = some (τ2, ⟨1, [[y]]⟩)) (hr : X = .tu [.ag [y], .int .i64 a, .int .i64 b]) :
  DoneN E [.cell 2 27, .tmp 3, .tmp 4] (fun r' _ => r' = X) .ret tm σ :=
 ⟨_, ⟨_, _, rfl, ⟨_, _, _, _, _, rfl, rfl, rfl, h2, s2, rfl⟩, _, _, rfl, h3, _, _, rfl, h4, rfl⟩, hr.symm⟩
set_option maxHeartbeats 4000000 in
theorem rA (text : Bt) (hl : text.length ≤ 65535) : Pure E.P 14 [.bs text] (.tu [testOV (parseT text).1, .int .i64 (parseT text).2.1, .int .i64 (parseT text).2.2]) := by
  have n16 : NilS 16 := ⟨trivial⟩
  have n70 : NilS 70 := ⟨trivial⟩
  have n89 : NilS 89 := ⟨trivial⟩
  refine FnW.toR ?_
  refine yI (vs := [.cell 2 27, .tmp 3, .tmp 4]) Tryz.func14 (by decide) rfl Tryz.ntmps14 (Nat.le_of_ble_eq_true rfl) rfl ?_
  refine vB (X := Stamp) (fun τ2 => tmL [(0, .bs text), (2, .lo 2 τ2 1 0 0), (3, .int .i64 0), (4, .int .i64 0)]) (fun τ2 => stL [(2, (τ2, ⟨1, [[.d (.c (.slice none 0 0))]]⟩))]) ?_ fun τ2 => ?_
  · refine aoR fun _ => ?_
    refine run ?_; rotate_left
    rename_i u
    exact wQ (u, 0) leP leP
  refine vB (X := Unit) (fun _ => tmL [(0, .bs text), (2, .lo 2 τ2 1 0 0)]) (fun _ => stL [(2, (τ2, ⟨1, [[.d (.c (.slice none 0 0))]]⟩))]) ?_ fun _ => ?_
  · refine run ?_
    refine aoR fun _ => ?_; refine run ?_
    apply bG; exact rfl; exact rfl; exact rfl
    refine run ?_; refine cnd ?_ ?_
    refine uE fun _ => ?_; try omega
    refine uF fun _ => ?_; try omega
    refine run ?_; rotate_left
    all_goals first | (exfalso; omega) | exact wQ () leP leP
  refine vB (X := Stamp) (fun τ5 => tmL [(0, .bs text), (2, .lo 2 τ2 1 0 0), (5, .lo 5 τ5 1 0 0)]) (fun τ5 => stL [(2, (τ2, ⟨1, [[.d (.c (.slice none 0 0))]]⟩)), (5, (τ5, ⟨1, [[.d (.c (.slice none 0 0))]]⟩))]) ?_ fun τ5 => ?_
  · refine aoR fun _ => ?_
    refine run ?_; rotate_left
    rename_i u
    exact wQ (u, 0) leP leP
  refine kD (kx := 5) (i := 0) (o := 0) 900 1 rfl rfl rfl (by decide) fun τT => ?_
  refine uD (uD (aoR fun _ => ?_))
  refine run ?_ 2; rotate_left
  refine uC (dB ?_)
  refine vA (X := PX) (fun x => tmL [(0, .bs x.text), (2, .lo 2 τ2 1 0 0), (5, .lo 5 τ5 1 0 0), (6, .int .i64 x.n)]) (fun x => stL ((2, (τ2, ⟨1, [[.d (.c (.slice none 0 0))]]⟩)) :: x.rows τ5)) (PX.ok text) (fun x => x.text.length) (.none text 1 τT) ⟨by show parseT text = _; unfold parseT; rw [if_neg (by omega)]; rfl, Nat.le_refl _, by show 1 + text.length ≤ _; omega, Nat.zero_le _, fun l h => by cases h⟩ leP leP ?_
  rintro x ⟨hP, hx1, hx2, hx3, hx4⟩
  cases x with
  | none xt n τT =>
    have hP : parseT text = parseGo (xt.length + 1) xt [] n := hP
    by_cases he : xt = []
    · subst he
      refine run ?_ 2; refine aoR fun _ => ?_
      refine run ?_ 2
      apply eJ; exact rfl; exact rfl
      refine run ?_ 2; rotate_left
      refine uC ?_; refine cnd ?_ ?_; refine yY ?_
      refine dN (fun _ => ?_)
      refine run ?_ 2; rotate_left
      refine wN ?_
      refine bR (fun _ => ?_)
      refine run ?_ 2; rotate_left
      · rename_i hx
        exact absurd hx (show ¬ decide (([] : Bt) = []) = false by decide)
      refine uC ?_
      refine xC 900 τT 1 [] (tmL [(2, .lo 2 τ2 1 0 0), (5, .lo 5 τ5 1 0 0)]) (stL [(2, (τ2, ⟨1, [[.d (.c (.slice none 0 0))]]⟩)), (5, (τ5, ⟨1, [[.d (.sl 1 [])]]⟩))]) rfl (by repeat' (first | exact zS | exact xT | exact bB | exact bA | refine vN rfl (.same _) ?_ | refine vN rfl (wF (by simp)) ?_ | refine vT (by decide) rfl (FrozR.same _) ?_ | refine vT (by decide) rfl ?_ ?_ | refine wE zT ?_ | refine wE ?_ ?_ | refine vF (.same _) ?_ | refine vF (wF (by first | rfl | simp)) ?_ | refine vF (.nil _) ?_)) (by repeat' (first | exact zS | exact xT | exact bB | exact bA | refine vN rfl (.same _) ?_ | refine vN rfl (wF (by simp)) ?_ | refine vT (by decide) rfl (FrozR.same _) ?_ | refine vT (by decide) rfl ?_ ?_ | refine wE zT ?_ | refine wE ?_ ?_ | refine vF (.same _) ?_ | refine vF (wF (by first | rfl | simp)) ?_ | refine vF (.nil _) ?_)) ?_
      have hc := fL ([])
      have hE : parseT text = if checkT ([]) = 0 then ([], 0, 0) else ([], 0, 190) := by rw [hP]; exact sV
      by_cases h0 : checkT ([]) = 0
      · rw [if_pos h0] at hE
        rw [h0] at hc
        refine run ?_; refine aoR fun _ => ?_
        refine run ?_
        apply uA; exact rfl; exact .fn _ _ _; exact rfl; exact hc
        refine run ?_; refine cnd ?_ ?_
        refine bS (fun _ => ?_); (try omega)
        refine yX (fun _ => ?_); (try omega)
        refine run ?_; refine aoR fun _ => ?_
        refine run ?_; rotate_left
        all_goals first | exact gU rfl rfl rfl rfl (by rw [hE]; rfl) | skip
      · rw [if_neg h0] at hE
        refine run ?_; refine aoR fun _ => ?_
        refine run ?_
        apply uA; exact rfl; exact .fn _ _ _; exact rfl; exact hc
        refine run ?_; refine cnd ?_ ?_
        refine bS (fun _ => ?_); (try omega)
        refine run ?_; refine aoR fun _ => ?_
        refine run ?_; rotate_left
        refine yX (fun _ => ?_); (try omega)
        all_goals first | (exfalso; exact h0 (by assumption)) | exact gU rfl rfl rfl rfl (by rw [hE]; rfl)
    · have c1 := uAP xt 10 (by have : xt.length ≤ text.length := hx1; omega)
      have hlt := cZ 10 he
      by_cases hh : (cutC 10 xt).2.2 = true ∧ (cutC 10 xt).1 = wHart
      · have k43 : KeyOf 43 900 := ⟨trivial⟩
        have hq := qZ (t := []) (n := (n : Int)) he ⟨hh.1, hh.2, by decide⟩
        obtain ⟨⟨w, rest, whole⟩, hc⟩ : ∃ c, c = cutC 10 xt := ⟨_, rfl⟩
        rw [← hc] at c1 hh hq hlt
        obtain ⟨rfl, rfl⟩ := hh
        refine run ?_ 2; refine aoR fun _ => ?_
        refine run ?_ 2
        apply eJ; exact rfl; exact rfl
        refine run ?_ 2; rotate_left
        refine uC (vC rfl (fun _ => vG (uC ?_)) (fun hx => absurd (of_decide_eq_true ((Bool.not_eq_false' _).mp hx)) he))
        refine run ?_ 2; refine aoR fun _ => ?_
        refine run ?_ 2
        apply uA; exact rfl; exact .fn _ _ _; exact rfl; exact c1
        refine run ?_ 2; rotate_left
        refine uC ?_; refine run ?_ 2; refine aoR fun _ => ?_
        refine run ?_ 2; rotate_left
        refine uC ?_; refine run ?_ 2; refine aoR fun _ => ?_
        refine run ?_ 2; rotate_left
        refine uC ?_; refine run ?_ 2; refine aoR fun _ => ?_
        refine run ?_ 2
        apply spT; exact rfl
        intro hc_
        have hp_ := hc_; try simp only [nrm] at hp_
        apply wL; exact evm; exact evm
        refine run ?_ 2; rotate_left
        refine uC (vC rfl (fun _ => ?_) (fun hx => absurd hx (show ¬ (true && decide (wHart = [104, 97, 114, 116]) && decide (((0 : Nat) : Int) < 4)) = false by decide)))
        refine run ?_ 2; refine aoR fun _ => ?_
        refine run ?_ 2; rotate_left
        refine uC (fO ?_)
        show awp _ _ (.region 6 _ _) _ _ _
        refine kD (kx := 900) (i := 0) (o := 0) 901 10 rfl rfl rfl (by decide) fun τL => ?_
        rename_i v11
        refine aoR fun _ => ?_; refine run ?_ 2
        rotate_left
        have hlt' : rest.length < xt.length := hlt
        have hx2' : n + xt.length ≤ text.length + 1 := hx2
        have hx1' : xt.length ≤ text.length := hx1
        refine uC (uU (.some rest (n + 1) (v11, 3) [] [] τL) ⟨hP.trans hq, by show rest.length ≤ _; omega, by show n + 1 + rest.length ≤ _; omega, (by decide : 1 ≤ 4), fun l h => ?_⟩ hlt' (uO rfl (uO rfl (uO rfl (uR rfl (by show (n : Int) + 1 = ((n + 1 : Nat) : Int); omega) (vP _))))) leP)
        rcases List.mem_singleton.1 h with rfl
        exact Nat.zero_le _
      · have hE : parseT text = ([], (n : Int), 190) := hP.trans (sW he (fun h => hh ⟨h.1, h.2.1⟩) (.inr (.inr (.inl rfl))))
        obtain ⟨⟨w, rest, whole⟩, hc⟩ : ∃ c, c = cutC 10 xt := ⟨_, rfl⟩
        have hw : w.length ≤ 65535 := by
          have h1 := jV 10 xt
          have h2 : xt.length ≤ text.length := hx1
          rw [← hc] at h1
          have h3 : w.length ≤ xt.length := h1
          omega
        have c2 := sN w hw
        rw [← hc] at c1 hh hlt
        refine run ?_ 2; refine aoR fun _ => ?_
        refine run ?_ 2
        apply eJ; exact rfl; exact rfl
        refine run ?_ 2; rotate_left
        refine uC (vC rfl (fun _ => vG (uC ?_)) (fun hx => absurd (of_decide_eq_true ((Bool.not_eq_false' _).mp hx)) he))
        refine run ?_ 2; refine aoR fun _ => ?_
        refine run ?_ 2
        apply uA; exact rfl; exact .fn _ _ _; exact rfl; exact c1
        refine run ?_ 2; rotate_left
        refine uC ?_; refine run ?_ 2; refine aoR fun _ => ?_
        refine run ?_ 2; rotate_left
        refine uC ?_; refine run ?_ 2; refine aoR fun _ => ?_
        refine run ?_ 2; rotate_left
        refine uC ?_; refine run ?_ 2; refine aoR fun _ => ?_
        refine run ?_ 2
        apply spT; exact rfl
        intro hc_
        have hp_ := hc_; try simp only [nrm] at hp_
        apply wL; exact evm; exact evm
        refine run ?_ 2; rotate_left
        refine uC (vC rfl (fun hx => ?_) (fun hx => ?_))
        · exfalso
          simp only [Bool.and_eq_true, decide_eq_true_eq] at hx
          exact hh ⟨hx.1.1, hx.1.2⟩
        · refine vG (uC ?_)
          refine run ?_ 2; refine aoR fun _ => ?_
          refine run ?_ 2
          apply uA; exact rfl; exact .fn _ _ _; exact rfl; exact c2
          refine run ?_ 2; rotate_left
          refine uC ?_; refine run ?_ 1; refine aoR fun _ => ?_
          refine run ?_ 1
          apply uH; exact rfl; exact rfl
          refine wN ?_
          refine bR (fun _ => ?_)
          refine run ?_ 1
          apply uH; exact rfl; exact rfl
          refine vH ?_; refine run ?_ 1
          apply uH; exact rfl; exact rfl
          refine xJ ?_; refine vH ?_; refine wN ?_
          refine bR (fun _ => ?_)
          refine run ?_ 1
          apply uH; exact rfl; exact rfl
          refine vH ?_; refine run ?_ 1
          apply uH; exact rfl; exact rfl
          refine xJ ?_; refine vH ?_
          refine uF fun _ => ?_; try omega
          refine xI (fun hc_ => ?_); (try simp only [nrm] at hc_)
          apply uH; exact rfl; exact rfl
          exact uM
          refine uJ ?_
          apply uH; exact rfl; exact rfl
          exact uM
          refine uJ ?_
          apply uH; exact rfl; exact rfl
          exact uM
          refine uJ ?_
          apply uH; exact rfl; exact rfl
          exact uM
          refine uJ ?_
          apply uH; exact rfl; exact rfl
          exact uM
          refine uJ ?_
          apply uH; exact rfl; exact rfl
          exact uM
          refine uJ ?_
          apply uH; exact rfl; exact rfl
          exact uM
          refine uJ ?_; refine run ?_ 1; refine cnd ?_ ?_; refine uJ ?_; refine run ?_ 1; refine aoR fun _ => ?_
          refine run ?_ 1; rotate_left
          exact uM
          exact vS
          refine xI (fun hc_ => ?_); (try simp only [nrm] at hc_)
          apply uH; exact rfl; exact rfl
          exact uM
          refine uJ ?_; refine run ?_ 1
          apply uH; exact rfl; exact rfl
          exact uM
          refine uJ ?_
          apply uH; exact rfl; exact rfl
          exact uM
          refine uJ ?_
          apply uH; exact rfl; exact rfl
          exact uM
          refine uJ ?_
          apply uH; exact rfl; exact rfl
          exact uM
          refine uJ ?_
          apply uH; exact rfl; exact rfl
          exact uM
          refine uJ ?_
          apply uH; exact rfl; exact rfl
          exact uM
          refine uJ ?_
          apply uH; exact rfl; exact rfl
          exact uM
          refine uJ ?_
          apply uH; exact rfl; exact rfl
          exact uM
          refine uJ ?_; refine run ?_ 1; refine cnd ?_ ?_; refine uJ ?_; refine run ?_ 1; refine aoR fun _ => ?_
          refine run ?_ 1; rotate_left
          exact uM
          exact vS
          refine yY ?_
          refine dN (fun _ => ?_)
          apply uH; exact rfl; exact rfl
          exact uM
          refine uJ ?_; refine run ?_ 1
          apply uH; exact rfl; exact rfl
          exact uM
          refine uJ ?_
          apply uH; exact rfl; exact rfl
          exact uM
          refine uJ ?_; refine run ?_ 1
          apply uH; exact rfl; exact rfl
          exact uM
          refine uJ ?_
          apply uH; exact rfl; exact rfl
          exact uM
          refine uJ ?_
          apply uH; exact rfl; exact rfl
          exact uM
          refine uJ ?_
          apply uH; exact rfl; exact rfl
          exact uM
          refine uJ ?_
          apply uH; exact rfl; exact rfl
          exact uM
          refine uJ ?_
          apply uH; exact rfl; exact rfl
          exact uM
          refine uJ ?_
          apply uH; exact rfl; exact rfl
          exact uM
          refine uJ ?_
          apply uH; exact rfl; exact rfl
          exact uM
          refine uJ ?_; refine run ?_ 1; refine cnd ?_ ?_; refine uJ ?_; refine run ?_ 1; refine aoR fun _ => ?_
          refine run ?_ 1; rotate_left
          exact uM
          all_goals first | (exfalso; omega) | exact gU rfl rfl rfl rfl (by rw [hE]; rfl) | skip
  | some xt n τT a l τL =>
    have hP : parseT text = parseGo (xt.length + 1) xt (a ++ [l]) n := hP
    have ha : a.length + 1 ≤ 4 := by
      have h : (a ++ [l]).length ≤ 4 := hx3
      rwa [List.length_append] at h
    have hl16 : l.length ≤ 16 := hx4 l (by show l ∈ a ++ [l]; simp)
    by_cases he : xt = []
    · subst he
      refine run ?_ 2; refine aoR fun _ => ?_
      refine run ?_ 2
      apply eJ; exact rfl; exact rfl
      refine run ?_ 2; rotate_left
      refine uC ?_; refine cnd ?_ ?_; refine yY ?_
      refine dN (fun _ => ?_)
      refine run ?_ 2; rotate_left
      refine wN ?_
      refine bR (fun _ => ?_)
      refine run ?_ 2; rotate_left
      · rename_i hx
        exact absurd hx (show ¬ decide (([] : Bt) = []) = false by decide)
      refine uC ?_
      refine xC 901 τL 10 (l.map stTV) (tmL [(2, .lo 2 τ2 1 0 0), (5, .lo 5 τ5 1 0 0)]) (stL [(2, (τ2, ⟨1, [[.d (.c (.slice none 0 0))]]⟩)), (5, (τ5, ⟨1, [[.os 900 τT 1 (a.length + 1)]]⟩)), (900, (τT, ⟨1, (a ++ [l]).map thO⟩))]) (by show some (τL, (⟨10, l.map stO⟩ : Row)) = _; rw [qP]) (by repeat' (first | exact zS | exact xT | exact bB | exact bA | refine vN rfl (.same _) ?_ | refine vN rfl (wF (by simp)) ?_ | refine vT (by decide) rfl (FrozR.same _) ?_ | refine vT (by decide) rfl ?_ ?_ | refine wE zT ?_ | refine wE ?_ ?_ | refine vF (.same _) ?_ | refine vF (wF (by first | rfl | simp)) ?_ | refine vF (.nil _) ?_)) (vT (by decide) rfl (FrozR.same _) (vT (by decide) rfl (FrozR.same _) (vT (by decide) rfl rL xT))) ?_
      refine xC 900 τT 1 ((a ++ [l]).map fun l => [stsTV l]) (tmL [(2, .lo 2 τ2 1 0 0), (5, .lo 5 τ5 1 0 0)]) (stL [(2, (τ2, ⟨1, [[.d (.c (.slice none 0 0))]]⟩)), (5, (τ5, ⟨1, [[.d (.sl 1 ((a ++ [l]).map fun l => [stsTV l]))]]⟩))]) (by show some (τT, (⟨1, (a ++ [l]).map thO⟩ : Row)) = _; rw [thO_map]) (by repeat' (first | exact zS | exact xT | exact bB | exact bA | refine vN rfl (.same _) ?_ | refine vN rfl (wF (by simp)) ?_ | refine vT (by decide) rfl (FrozR.same _) ?_ | refine vT (by decide) rfl ?_ ?_ | refine wE zT ?_ | refine wE ?_ ?_ | refine vF (.same _) ?_ | refine vF (wF (by first | rfl | simp)) ?_ | refine vF (.nil _) ?_)) (by repeat' (first | exact zS | exact xT | exact bB | exact bA | refine vN rfl (.same _) ?_ | refine vN rfl (wF (by simp)) ?_ | refine vT (by decide) rfl (FrozR.same _) ?_ | refine vT (by decide) rfl ?_ ?_ | refine wE zT ?_ | refine wE ?_ ?_ | refine vF (.same _) ?_ | refine vF (wF (by first | rfl | simp)) ?_ | refine vF (.nil _) ?_)) ?_
      have hc := fL (a ++ [l])
      have hE : parseT text = if checkT (a ++ [l]) = 0 then (a ++ [l], 0, 0) else ([], 0, 190) := by rw [hP]; exact sV
      by_cases h0 : checkT (a ++ [l]) = 0
      · rw [if_pos h0] at hE
        rw [h0] at hc
        refine run ?_; refine aoR fun _ => ?_
        refine run ?_
        apply uA; exact rfl; exact .fn _ _ _; exact rfl; exact hc
        refine run ?_; refine cnd ?_ ?_
        refine bS (fun _ => ?_); (try omega)
        refine yX (fun _ => ?_); (try omega)
        refine run ?_; refine aoR fun _ => ?_
        refine run ?_; rotate_left
        all_goals first | exact gU rfl rfl rfl rfl (by rw [hE]; rfl) | skip
      · rw [if_neg h0] at hE
        refine run ?_; refine aoR fun _ => ?_
        refine run ?_
        apply uA; exact rfl; exact .fn _ _ _; exact rfl; exact hc
        refine run ?_; refine cnd ?_ ?_
        refine bS (fun _ => ?_); (try omega)
        refine run ?_; refine aoR fun _ => ?_
        refine run ?_; rotate_left
        refine yX (fun _ => ?_); (try omega)
        all_goals first | (exfalso; exact h0 (by assumption)) | exact gU rfl rfl rfl rfl (by rw [hE]; rfl)
    · have c1 := uAP xt 10 (by have : xt.length ≤ text.length := hx1; omega)
      have hlt := cZ 10 he
      by_cases hh : (cutC 10 xt).2.2 = true ∧ (cutC 10 xt).1 = wHart ∧ a.length + 1 < 4
      · have k43 : KeyOf 43 900 := ⟨trivial⟩
        have hq := qZ (t := a ++ [l]) (n := (n : Int)) he ⟨hh.1, hh.2.1, by rw [List.length_append]; exact hh.2.2⟩
        obtain ⟨⟨w, rest, whole⟩, hc⟩ : ∃ c, c = cutC 10 xt := ⟨_, rfl⟩
        rw [← hc] at c1 hh hq hlt
        obtain ⟨rfl, rfl, h4⟩ := hh
        refine run ?_ 2; refine aoR fun _ => ?_
        refine run ?_ 2
        apply eJ; exact rfl; exact rfl
        refine run ?_ 2; rotate_left
        refine uC (vC rfl (fun _ => vG (uC ?_)) (fun hx => absurd (of_decide_eq_true ((Bool.not_eq_false' _).mp hx)) he))
        refine run ?_ 2; refine aoR fun _ => ?_
        refine run ?_ 2
        apply uA; exact rfl; exact .fn _ _ _; exact rfl; exact c1
        refine run ?_ 2; rotate_left
        refine uC ?_; refine run ?_ 2; refine aoR fun _ => ?_
        refine run ?_ 2; rotate_left
        refine uC ?_; refine run ?_ 2; refine aoR fun _ => ?_
        refine run ?_ 2; rotate_left
        refine uC ?_; refine run ?_ 2; refine aoR fun _ => ?_
        refine run ?_ 2
        apply spT; exact rfl
        intro hc_
        have hp_ := hc_; try simp only [nrm] at hp_
        apply wL; exact evm; exact evm
        refine run ?_ 2; rotate_left
        refine uC (vC rfl (fun _ => ?_) (fun hx => ?_))
        · refine xC 901 τL 10 (l.map stTV) (tmL [(0, .bs rest), (2, .lo 2 τ2 1 0 0), (5, .lo 5 τ5 1 0 0), (6, .int .i64 n)]) (stL [(2, (τ2, ⟨1, [[.d (.c (.slice none 0 0))]]⟩)), (5, (τ5, ⟨1, [[.os 900 τT 1 (a.length + 1)]]⟩)), (900, (τT, ⟨1, (a ++ [l]).map thO⟩))]) (by show some (τL, (⟨10, l.map stO⟩ : Row)) = _; rw [qP]) (by repeat' (first | exact zS | exact xT | exact bB | exact bA | refine vN rfl (.same _) ?_ | refine vN rfl (wF (by simp)) ?_ | refine vT (by decide) rfl (FrozR.same _) ?_ | refine vT (by decide) rfl ?_ ?_ | refine wE zT ?_ | refine wE ?_ ?_ | refine vF (.same _) ?_ | refine vF (wF (by first | rfl | simp)) ?_ | refine vF (.nil _) ?_)) (vT (by decide) rfl (FrozR.same _) (vT (by decide) rfl (FrozR.same _) (vT (by decide) rfl rL xT))) ?_
          refine run ?_ 2; refine aoR fun _ => ?_
          refine run ?_ 2; rotate_left
          refine uC (fO ?_)
          show awp _ _ (.region 6 _ _) _ _ _
          refine kD (kx := 900) (q := 1) (i := (a ++ [l]).length) (o := 0) (rows := (a ++ [l]).map thO ++ [[.d (.c (.slice none 0 0))]]) (row := [.d (.c (.slice none 0 0))]) 901 10 rfl oS rfl (by decide) fun τL' => ?_
          rename_i v11
          have hlt' : rest.length < xt.length := hlt
          have hx2' : n + xt.length ≤ text.length + 1 := hx2
          have hx1' : xt.length ≤ text.length := hx1
          refine aoR fun _ => ?_; refine run ?_ 2
          rotate_left
          refine uC (uU (.some rest (n + 1) (v11, 3) (a ++ [l]) [] τL') ⟨hP.trans hq, by show rest.length ≤ _; omega, by show n + 1 + rest.length ≤ _; omega, by show (a ++ [l] ++ [[]]).length ≤ 4; rw [List.length_append, List.length_append]; exact h4, fun k h => ?_⟩ hlt' (uO rfl (uO rfl (uO rfl (uR rfl (by show (n : Int) + 1 = ((n + 1 : Nat) : Int); omega) (vP _))))) (uS rfl (uN rfl (by show [[OV.os 900 _ 1 (((a ++ [l]).map thO).length + 1)]] = [[OV.os 900 _ 1 ((a ++ [l]).length + 1)]]; rw [List.length_map]) (uN rfl oQ (uS rfl (uL _))))))
          rcases List.mem_append.1 h with h | h
          · exact hx4 k h
          · rcases List.mem_singleton.1 h with rfl
            exact Nat.zero_le _
        · have hx : ((true && decide (wHart = [104, 97, 114, 116])) && decide (((a.length + 1 : Nat) : Int) < 4)) = false := hx
          rw [show decide (((a.length + 1 : Nat) : Int) < 4) = true from decide_eq_true (by omega)] at hx
          exact absurd hx (by decide)
      · have hh' : ¬ ((cutC 10 xt).2.2 = true ∧ (cutC 10 xt).1 = wHart ∧ (a ++ [l]).length < 4) := fun h => hh ⟨h.1, h.2.1, by have := h.2.2; rwa [List.length_append] at this⟩
        have hEr : ((cutC 10 xt).2.2 = false ∨ (stepR (cutC 10 xt).1).2 = false ∨ l.length = 16) → parseT text = ([], (n : Int), 190) := fun h => hP.trans (sW he hh' (by
          rcases h with h | h | h
          · exact .inl h
          · exact .inr (.inl h)
          · exact .inr (.inr (.inr (by rw [oR]; exact h)))))
        have hGo : (cutC 10 xt).2.2 = true → (stepR (cutC 10 xt).1).2 = true → l.length ≠ 16 → parseT text = parseGo ((cutC 10 xt).2.1.length + 1) (cutC 10 xt).2.1 (a ++ [l ++ [(stepR (cutC 10 xt).1).1]]) (n + 1) := fun h1 h2 h3 => hP.trans ((pg_go he hh' h1 h2 (by simp) (by rw [oR]; exact h3)).trans (by rw [dE]))
        obtain ⟨⟨w, rest, whole⟩, hc⟩ : ∃ c, c = cutC 10 xt := ⟨_, rfl⟩
        have hw : w.length ≤ 65535 := by
          have h1 := jV 10 xt
          have h2 : xt.length ≤ text.length := hx1
          rw [← hc] at h1
          have h3 : w.length ≤ xt.length := h1
          omega
        have c2 := sN w hw
        rw [← hc] at c1 hh hlt hEr hGo
        refine run ?_ 2; refine aoR fun _ => ?_
        refine run ?_ 2
        apply eJ; exact rfl; exact rfl
        refine run ?_ 2; rotate_left
        refine uC (vC rfl (fun _ => vG (uC ?_)) (fun hx => absurd (of_decide_eq_true ((Bool.not_eq_false' _).mp hx)) he))
        refine run ?_ 2; refine aoR fun _ => ?_
        refine run ?_ 2
        apply uA; exact rfl; exact .fn _ _ _; exact rfl; exact c1
        refine run ?_ 2; rotate_left
        refine uC ?_; refine run ?_ 2; refine aoR fun _ => ?_
        refine run ?_ 2; rotate_left
        refine uC ?_; refine run ?_ 2; refine aoR fun _ => ?_
        refine run ?_ 2; rotate_left
        refine uC ?_; refine run ?_ 2; refine aoR fun _ => ?_
        refine run ?_ 2
        apply spT; exact rfl
        intro hc_
        have hp_ := hc_; try simp only [nrm] at hp_
        apply wL; exact evm; exact evm
        refine run ?_ 2; rotate_left
        refine uC (vC rfl (fun hx => ?_) (fun hx => ?_))
        · exfalso
          simp only [Bool.and_eq_true, decide_eq_true_eq] at hx
          have h3 : ((a.length + 1 : Nat) : Int) < 4 := hx.2
          exact hh ⟨hx.1.1, hx.1.2, by omega⟩
        · refine vG (uC ?_)
          refine run ?_ 2; refine aoR fun _ => ?_
          refine run ?_ 2
          apply uA; exact rfl; exact .fn _ _ _; exact rfl; exact c2
          refine run ?_ 2; rotate_left
          refine uC ?_
          rename_i v11
          have k84 : KeyOf 84 901 := ⟨trivial⟩
          refine run ?_ 1; refine aoR fun _ => ?_
          refine run ?_ 1
          apply uH; exact rfl; exact rfl
          refine wN ?_
          refine bR (fun _ => ?_)
          refine run ?_ 1
          apply uH; exact rfl; exact rfl
          refine vH ?_; refine run ?_ 1
          apply uH; exact rfl; exact rfl
          refine xJ ?_; refine vH ?_; refine wN ?_
          refine bR (fun _ => ?_)
          refine run ?_ 1
          apply uH; exact rfl; exact rfl
          refine vH ?_; refine run ?_ 1
          apply uH; exact rfl; exact rfl
          refine xJ ?_; refine vH ?_
          refine uF fun _ => ?_; try omega
          refine run ?_ 1
          apply uH; exact rfl; exact rfl
          refine vH ?_; refine run ?_ 1
          apply uH; exact rfl; exact rfl
          refine vH ?_; refine run ?_ 1
          apply uH; exact rfl; exact rfl
          refine vH ?_; refine run ?_ 1
          apply uH; exact rfl; exact rfl
          refine vH ?_; refine run ?_ 1
          apply uH; exact rfl; exact rfl
          refine vH ?_
          ((first | first
            | (apply uA; exact rfl; exact .fn _ _ _; exact rfl; fail)
            | (apply wC; exact rfl; exact .fn _ _ _; exact rfl; fail) | (first | (refine uZ ?_ (by exact rfl) ?_; exact rfl) | (refine bF ?_ (by exact rfl) ?_; exact rfl)) | (first | (apply nS; (first | exact jJ | exact mZ); exact rfl) | (apply qG; (first | exact jJ | exact mZ); exact rfl)) | (first
            | (apply kM; exact rfl; exact rfl; (first | omega | ((simp only [List.length_append, List.length_cons, List.length_nil]); omega)))
            | (apply vK; exact rfl; exact rfl; (first | omega | ((simp only [List.length_append, List.length_cons, List.length_nil]); omega)))
            | (apply nR; exact rfl; exact rfl)
            | (apply D_eqlL; exact rfl; exact rfl)
            | (apply eJ; exact rfl; exact rfl)
            | (apply D_neqL; exact rfl; exact rfl)
            | (apply bG; exact rfl; exact rfl; exact rfl)
            | (apply uAH; exact rfl; exact rfl; exact rfl)
            | (apply wV; exact rfl; exact rfl; exact rfl; (first | exact rfl | exact ⟨_, _, rfl, by omega, rfl⟩); (first | exact rfl | exact ⟨_, _, rfl, by omega, rfl⟩); (first | decide | omega); (first | decide | omega))
            | (apply kN; exact rfl; exact rfl; exact rfl; (first | exact rfl | exact ⟨_, _, rfl, by omega, rfl⟩); (first | exact rfl | exact ⟨_, _, rfl, by omega, rfl⟩); (first | decide | omega); (first | decide | omega))) | (first | (apply vZ; exact rfl; exact rfl; exact rfl; exact rfl; exact zE (by omega); exact rfl) | (apply mF; exact rfl; exact rfl; exact rfl; exact rfl; exact zE (by omega); exact rfl) | (apply fS; exact rfl; exact rfl; exact rfl; exact rfl; exact rfl; exact rfl; exact zE (by omega); exact Nat.le_of_ble_eq_true rfl) | (apply yR; exact rfl; exact rfl; exact rfl; exact rfl; exact rfl; exact rfl; exact zE (by omega); exact Nat.le_of_ble_eq_true rfl))))
          apply uH; exact rfl; exact rfl
          refine vH ?_; refine run ?_ 1
          apply uH; exact rfl; exact rfl
          refine vH ?_; refine run ?_ 1; refine cnd ?_ ?_
          refine xI (fun hc_ => ?_); (try simp only [nrm] at hc_)
          refine run ?_ 1; refine aoR fun _ => ?_
          refine run ?_ 1; rotate_left
          refine xJ ?_; refine vH ?_
          refine uF fun _ => ?_; try omega
          refine run ?_ 1; rotate_left
          iterate 7 exact vS
          refine xI (fun hc_ => ?_); (try simp only [nrm] at hc_)
          apply uH; exact rfl; exact rfl
          exact uM
          refine uJ ?_
          apply uH; exact rfl; exact rfl
          exact uM
          refine uJ ?_
          apply uH; exact rfl; exact rfl
          exact uM
          refine uJ ?_
          apply uH; exact rfl; exact rfl
          exact uM
          refine uJ ?_
          apply uH; exact rfl; exact rfl
          exact uM
          refine uJ ?_
          apply uH; exact rfl; exact rfl
          exact uM
          refine uJ ?_
          apply uH; exact rfl; exact rfl
          exact uM
          refine uJ ?_; refine run ?_ 1; refine cnd ?_ ?_; refine uJ ?_; refine run ?_ 1; refine aoR fun _ => ?_
          refine run ?_ 1; rotate_left
          exact uM
          exact vS
          refine xI (fun hc_ => ?_); (try simp only [nrm] at hc_)
          apply uH; exact rfl; exact rfl
          exact uM
          refine uJ ?_; refine run ?_ 1
          apply uH; exact rfl; exact rfl
          exact uM
          refine uJ ?_
          apply uH; exact rfl; exact rfl
          exact uM
          refine uJ ?_
          apply uH; exact rfl; exact rfl
          exact uM
          refine uJ ?_
          apply uH; exact rfl; exact rfl
          exact uM
          refine uJ ?_
          apply uH; exact rfl; exact rfl
          exact uM
          refine uJ ?_
          apply uH; exact rfl; exact rfl
          exact uM
          refine uJ ?_
          apply uH; exact rfl; exact rfl
          exact uM
          refine uJ ?_
          apply uH; exact rfl; exact rfl
          exact uM
          refine uJ ?_; refine run ?_ 1; refine cnd ?_ ?_; refine uJ ?_; refine run ?_ 1; refine aoR fun _ => ?_
          refine run ?_ 1; rotate_left
          exact uM
          exact vS
          refine yY ?_
          refine dN (fun _ => ?_)
          apply uH; exact rfl; exact rfl
          exact uM
          refine uJ ?_; refine run ?_ 1
          apply uH; exact rfl; exact rfl
          exact uM
          refine uJ ?_
          apply uH; exact rfl; exact rfl
          exact uM
          refine uJ ?_; refine run ?_ 1
          apply uH; exact rfl; exact rfl
          exact uM
          refine uJ ?_
          apply uH; exact rfl; exact rfl
          exact uM
          refine uJ ?_
          apply uH; exact rfl; exact rfl
          exact uM
          refine uJ ?_
          apply uH; exact rfl; exact rfl
          exact uM
          refine uJ ?_
          apply uH; exact rfl; exact rfl
          exact uM
          refine uJ ?_
          apply uH; exact rfl; exact rfl
          exact uM
          refine uJ ?_
          apply uH; exact rfl; exact rfl
          exact uM
          refine uJ ?_
          apply uH; exact rfl; exact rfl
          exact uM
          refine uJ ?_; refine run ?_ 1; refine cnd ?_ ?_; refine uJ ?_; refine run ?_ 1; refine aoR fun _ => ?_
          refine run ?_ 1; rotate_left
          exact uM
          all_goals first | (exfalso; omega) | (exfalso; have h : ((a.length + 1 : Nat) : Int) = 0 := hc_.resolve_left (by decide); omega) | skip
          · exact gU rfl rfl rfl rfl (by rw [hEr (.inr (.inr (by have h : (l.length : Int) = 16 := hc_.resolve_left (by decide); omega)))]; rfl)
          · rename_i g1 g2 g3 g4
            refine eA (tmL [(0, .bs rest), (2, .lo 2 τ2 1 0 0), (5, .lo 5 τ5 1 0 0), (6, .int .i64 n), (10, .int .i64 (a.length + 1 : Nat)), (11, .lo 11 (v11, 5) 10 0 0)]) (stL [(2, (τ2, ⟨1, [[.d (.c (.slice none 0 0))]]⟩)), (5, (τ5, ⟨1, [[.os 900 τT 1 (a.length + 1)]]⟩)), (900, (τT, ⟨1, a.map thO ++ [[.os 901 τL 10 l.length]]⟩)), (901, (τL, ⟨10, l.map stO⟩)), (11, ((v11, 5), ⟨10, [stO (stepR w).1]⟩))]) leP leP ?_
            have hlt' : rest.length < xt.length := hlt
            have hx2' : n + xt.length ≤ text.length + 1 := hx2
            have hx1' : xt.length ≤ text.length := hx1
            refine uG (E := E) ?_ (fun _ => ?_); exact rfl
            refine run ?_
            apply mF; exact rfl; exact rfl; exact rfl; exact rfl; exact zE (by omega); exact rfl
            refine run ?_
            apply yR; exact rfl; exact rfl; exact rfl; exact rfl; exact rfl; exact rfl; exact zE (by omega); exact Nat.le_of_ble_eq_true rfl
            refine run ?_; refine aoR fun _ => ?_
            refine run ?_; rotate_left
            have hn16 : ¬ l.length = 16 := fun h => g4 (by rw [h]; rfl)
            refine uU (.some rest (n + 1) τT a (l ++ [(stepR w).1]) (_, 12)) ⟨hGo g1 g2 hn16, by show rest.length ≤ _; omega, by show n + 1 + rest.length ≤ _; omega, by show (a ++ [l ++ [(stepR w).1]]).length ≤ 4; rw [List.length_append]; exact ha, fun k h => ?_⟩ hlt' (uO rfl (uO rfl (uO rfl (uR rfl (by show (n : Int) + 1 = ((n + 1 : Nat) : Int); omega) (vP _))))) (uS rfl (uS rfl (uN rfl (last_step (a := a) (l := l) (s := (stepR w).1) (i := ((a.length + 1 : Nat) : Int) - 1) (by omega)) (uN rfl (by rw [List.map_append]; rfl) (uL _)))))
            rcases List.mem_append.1 h with h | h
            · exact hx4 k (List.mem_append.2 (.inl h))
            · rcases List.mem_singleton.1 h with rfl
              rw [List.length_append]
              show l.length + 1 ≤ 16
              omega
          · exact gU rfl rfl rfl rfl (by rw [hEr (.inr (.inl (hc_.resolve_left (by decide))))]; rfl)
          · exact gU rfl rfl rfl rfl (by rw [hEr (.inl (by assumption))]; rfl)
end
section
open Go.Shelf Go.RowKit Go.Sort Go.Lib
theorem rH : (Tryz.prog.info? 121).map (·.size) = some 2 := by kernel_rfl
theorem liesB72 : liesAt Tryz.prog Tryz.prog.depth 121 (2 / Tryz.prog.cellsOf 121) 0 121 1 = true := by kernel_rfl
theorem infoB5 : (Tryz.prog.info? 5).map (fun i => (i.zero, i.size, i.bytes)) = some (some (.int .u8 0), 1, 1) := by kernel_rfl
set_option maxHeartbeats 1000000 in
set_option maxRecDepth 100000 in
theorem ccUsed (b : Nat) (w : World) (h0 : w.cell? ⟨b, 0, none⟩ = some (.pointer (some ⟨b, 0, none⟩))) :
  Calls Tryz.prog 126 #[.pointer (some ⟨b, 0, none⟩)] w fun e w' => e = .returned (.tuple #[]) ∧ w' = w := by
 obtain ⟨j, hj, _⟩ := Option.map_eq_some_iff.1 rH
 have mixed := jG
 go_enter Tryz.func126, Tryz.ntmps126
 go_wp2
 rw [Lib.run_neq_ptr_same w _ Tryz.underlying118 hj]
 go_wp2
 go_end0
 exact ⟨rfl, rfl⟩
set_option maxHeartbeats 1000000 in
set_option maxRecDepth 100000 in
theorem ccFresh (b : Nat) (w : World) (h0 : w.cell? ⟨b, 0, none⟩ = some (.pointer none)) (hsh : w.shape? b = some (121, 2)) (hfz : w.frozen? ⟨b, 0, none⟩ = false) :
  Calls Tryz.prog 126 #[.pointer (some ⟨b, 0, none⟩)] w fun e w' => e = .returned (.tuple #[]) ∧ w' = w.setCell ⟨b, 0, none⟩ (.pointer (some ⟨b, 0, none⟩)) := by
 obtain ⟨j, hj, hjs⟩ := Option.map_eq_some_iff.1 rH
 have mixed := jG
 go_enter Tryz.func126, Tryz.ntmps126
 go_wp2
 rw [Lib.run_to_unsafe w ⟨b, 0, none⟩ Tryz.underlying118 Tryz.underlying235 hj (by rw [hjs]; decide) hsh (Nat.zero_lt_succ 1)]
 simp only [Result.andThen]
 rw [Oper.upon_value]
 go_wp2
 rw [run_callFunc_extern Tryz.func186 (by kernel_rfl) (by kernel_rfl) (by kernel_rfl) (e := Extern.AbiNoEscape.same) (by kernel_rfl)]
 rw [Lib.run_noEscape]
 simp only [Result.andThen]
 rw [Oper.upon_value]
 go_wp2
 rw [Lib.run_from_unsafe w ⟨b, 0, none⟩ Tryz.underlying235 Tryz.underlying118 hj hsh liesB72]
 simp only [Result.andThen]
 rw [Oper.upon_value]
 go_wp2
 go_end0
 exact ⟨rfl, rfl⟩
theorem cc_c (B b : Nat) (bs : List Value) (w : World) (h : Lib.IsBuilder 121 5 B b bs w) :
  Calls Tryz.prog 126 #[.pointer (some ⟨b, 0, none⟩)] w fun e w' => e = .returned (.tuple #[]) ∧ (Lib.BuilderAt 121 5 B b (.pointer (some ⟨b, 0, none⟩)) bs w' ∧ Below B w w') := by
 rcases h with h | h
 ·refine (ccFresh b w h.cell0 h.shape h.frozen0).mono ?_
  rintro e w' ⟨rfl, rfl⟩
  exact ⟨rfl, h.used _, (Below.refl B w).setCell (p := ⟨b, 0, none⟩) h.1 _⟩
 ·refine (ccUsed b w h.cell0).mono ?_
  rintro e w' ⟨rfl, rfl⟩
  exact ⟨rfl, h, Below.refl B _⟩
set_option maxHeartbeats 2000000 in
set_option maxRecDepth 100000 in
theorem write_c (B b : Nat) (bs : List Value) (s : ByteArray) (w : World) (h : Lib.IsBuilder 121 5 B b bs w) (hlen : bs.length + s.size ≤ 140737488355328) (hBw : B ≤ w.heap.size) :
  Calls Tryz.prog 66 #[.pointer (some ⟨b, 0, none⟩), .string s] w fun e w' => e = .returned (.tuple #[.int .i64 s.size, .nilIface]) ∧ (Lib.BuilderAt 121 5 B b (.pointer (some ⟨b, 0, none⟩)) (bs ++ Lib.strCells s) w' ∧ Below B w w') := by
 obtain ⟨i0, hi, hz0, hz1, hz2⟩ := info_parts infoB5
 have mixed := jG
 have e240 : ∀ args w, (callFunc 126 args).run Tryz.prog w = .ok (.enter 126 args) w := enters_of Tryz.func126 (by kernel_rfl) rfl
 go_enter Tryz.func66, Tryz.ntmps66
 go_wp2_with (go_at_fn 126; refine (cc_c B b bs _ h).mono ?_)
 rintro e w1 ⟨rfl, h1, hb1⟩
 obtain ⟨hB, v, hbk, hown, hne⟩ := h1
 have c0 : w1.cell? ⟨b, 0, none⟩ = some (.pointer (some ⟨b, 0, none⟩)) := by rw [Lib.cell_of_heap hbk]; rfl
 have c1 : w1.cell? ⟨b, 1, none⟩ = some v := by rw [Lib.cell_of_heap hbk]; rfl
 go_wp2_with (at_builtin; refine Lib.wpList_append_own_string _ rfl _ _ 119 9 rfl B 5 i0 Tryz.underlying119 Tryz.underlying9 hi hz0 hz1 hz2 _ _ _ rfl hown s rfl ?c3 ?c4 ?c5 ?_)
 case c3 => unfold maxLen; omega
 case c4 => omega
 case c5 => have := hb1.size; omega
 intro v' w2 hown' hgrow _
 have hlt : b < w1.heap.size := by
  rcases Nat.lt_or_ge b w1.heap.size with h' | h'
  ·exact h'
  ·simp [Array.getElem?_eq_none h'] at hbk
 have hb2 : w2.heap[b]? = some (.cells #[.pointer (some ⟨b, 0, none⟩), v] 121 (0, 0)) := by
  rw [hgrow.block b hlt (fun e => hne e.symm)]
  exact hbk
 have d0 : w2.cell? ⟨b, 0, none⟩ = some (.pointer (some ⟨b, 0, none⟩)) := by rw [Lib.cell_of_heap hb2]; rfl
 have d1 : w2.cell? ⟨b, 1, none⟩ = some v := by rw [Lib.cell_of_heap hb2]; rfl
 have f1 : w2.frozen? ⟨b, 1, none⟩ = false := Lib.frozen_of_heap hb2 1
 obtain ⟨ao, n', cap, rfl⟩ : ∃ ao n' cap, v' = .slice ao n' cap := by
  rcases hown'.2 with ⟨hv, _⟩ | ⟨g, cap, cur, hv, _⟩
  ·exact ⟨_, _, _, hv⟩
  ·exact ⟨_, _, _, hv⟩
 go_wp2
 go_ret2
 refine ⟨rfl, ?_, ?_⟩
 ·exact Lib.BuilderAt.put (T := 121) (e := 5) hB hb2 (bs' := bs ++ Lib.strCells s) (by simpa [Lib.strCells_length] using hown') (by decide)
 ·exact (hb1.grown hgrow (by have := hb1.size; omega) (fun k hk => (hown.lt k hk).1)).setCell (p := ⟨b, 1, none⟩) hB _
end
end Go.Proofs.YtjogffchdejabaaGreatDoor
