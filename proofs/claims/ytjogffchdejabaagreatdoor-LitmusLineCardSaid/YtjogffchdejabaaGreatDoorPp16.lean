/- Parts. -/
import Derived.Test.YtjogffchdejabaaGreatDoorPp3
import Derived.Test.YtjogffchdejabaaGreatDoorPp4
import Derived.Test.YtjogffchdejabaaGreatDoorPp8
import Derived.Test.YtjogffchdejabaaGreatDoorPp9
import Derived.Test.YtjogffchdejabaaGreatDoorPp12
import Derived.Test.YtjogffchdejabaaGreatDoorPp13
import Derived.Test.YtjogffchdejabaaGreatDoorPp14
import Derived.Test.YtjogffchdejabaaGreatDoorPp15
set_option linter.unusedVariables false
set_option linter.unusedSimpArgs false
set_option maxHeartbeats 4000000
set_option maxRecDepth 100000
namespace Go.Proofs.YtjogffchdejabaaGreatDoor
section
open Go.RowKit Go.Lib
def seqR : Code → Code
 | .seq _ b => b
 | c => c
noncomputable def tail46 : Code := seqR (seqR (seqR (seqR (seqR ((Tryz.f46.body).getD .skip)))))
theorem rTail_step {W : List Bt} {j : Nat} (h : j < W.length) (s : Stp) : rTail (W.drop j) s = if W.getD j default = wBy ∧ j + 1 < W.length then rTail (W.drop (j + 2)) { s with byr := regI (W.getD (j + 1) default) } else if W.getD j default = wAq then rTail (W.drop (j + 1)) { s with aq := true } else if W.getD j default = wRl then rTail (W.drop (j + 1)) { s with rl := true } else (s, false) := by
 have e1 : W.drop j = W.getD j default :: W.drop (j + 1) := by
  rw [List.getD_eq_getElem?_getD, List.getElem?_eq_getElem h]; exact List.drop_eq_getElem_cons h
 rw [e1]
 by_cases h2 : j + 1 < W.length
 ·have e2 : W.drop (j + 1) = W.getD (j + 1) default :: W.drop (j + 2) := by
   rw [List.getD_eq_getElem?_getD, List.getElem?_eq_getElem h2]; exact List.drop_eq_getElem_cons h2
  rw [e2, rTail]
  by_cases hb : W.getD j default = wBy
  ·rw [if_pos hb, if_pos ⟨hb, h2⟩]
  ·rw [if_neg hb, if_neg (show ¬ (W.getD j default = wBy ∧ j + 1 < W.length) from fun h => hb h.1)]
 ·have e2 : W.drop (j + 1) = [] := List.drop_eq_nil_of_le (by omega)
  rw [e2, if_neg (fun h => h2 h.2), rTail]
  simp only [rTail]
theorem rTail_end {W : List Bt} {j : Nat} (h : W.length ≤ j) (s : Stp) : rTail (W.drop j) s = (s, true) := by
 rw [List.drop_eq_nil_of_le h, rTail]
abbrev stp3 (k r v n d : Int) (p q : Int) (x : Int × Bool × Bool) : Stp := ⟨k, r, v, n, d, x.1, x.2.1, x.2.2, p, q⟩
theorem pO {tm : Tm} {σ : Store} {τ2 : Stamp} {k r v n d b : Int} {a l : Bool} {p q : Int} {f : Bool} {X : OV} (h2 : tm 2 = some (.lo 2 τ2 10 0 0)) (h3 : tm 3 = some (.bool f)) (s2 : σ 2 = some (τ2, ⟨10, [stR k r v n d b a l p q]⟩)) (hr : X = .tu [.ag (stR k r v n d b a l p q), .bool f]) :
  DoneN E [.cell 2 47, .tmp 3] (fun r' _ => r' = X) .ret tm σ :=
 ⟨_, ⟨_, _, rfl, ⟨_, _, _, _, _, rfl, rfl, rfl, h2, s2, rfl⟩, _, _, rfl, h3, rfl⟩, hr.symm⟩
set_option maxHeartbeats 4000000 in
theorem cZ (l : Bt) (W : List Bt) (hl5 : W.length ≤ 65536) (τ2 τ5 : Stamp) (k r v n d p q : Int) (k0 : Nat) (hk : k0 ≤ W.length) (hn : 0 ≤ n ∧ n ≤ 4294967295) :
  awp E.P 176 tail46 (DoneN E [.cell 2 47, .tmp 3] (fun r' _ => r' = .tu [stOV (rEnd l (rTail (W.drop k0) ⟨k, r, v, n, d, 0, false, false, p, q⟩)).1, .bool (rEnd l (rTail (W.drop k0) ⟨k, r, v, n, d, 0, false, false, p, q⟩)).2]))
   (tmL [(0, .bs l), (2, .lo 2 τ2 10 0 0), (4, .d (.sl 1 (W.map wTV))), (5, .lo 5 τ5 10 0 0), (6, .int .i64 k0)]) (stL [(2, (τ2, ⟨10, [stR 0 0 0 0 0 0 false false 0 0]⟩)), (5, (τ5, ⟨10, [stR k r v n d 0 false false p q]⟩))]) := by
 have hlm : (List.map wTV W).length = W.length := List.length_map ..
 show awp _ _ (.seq (.seq _ _) (.seq _ .ret)) _ _ _
 refine uD ?_; refine rZ ?_; refine aoR fun _ => ?_
 refine rZ ?_; rotate_left
 refine vB (X := Nat × Int × Bool × Bool) (fun x => tmL [(0, .bs l), (2, .lo 2 τ2 10 0 0), (4, .d (.sl 1 (W.map wTV))), (5, .lo 5 τ5 10 0 0), (7, .int .i64 x.1)]) (fun x => stL [(2, (τ2, ⟨10, [stR 0 0 0 0 0 0 false false 0 0]⟩)), (5, (τ5, ⟨10, [stR k r v n d x.2.1 x.2.2.1 x.2.2.2 p q]⟩))]) (fun x => x.1 ≤ W.length ∧ rTail (W.drop k0) (stp3 k r v n d p q (0, false, false)) = rTail (W.drop x.1) (stp3 k r v n d p q x.2)) (fun x => W.length - x.1) (k0, 0, false, false) ⟨hk, rfl⟩ leP leP ?_
 rintro ⟨j, b, a, rl⟩ ⟨hj, hI⟩
 dsimp only at hj hI ⊢
 by_cases hlt : j < W.length
 ·have hs := rTail_step hlt (stp3 k r v n d p q (b, a, rl))
  have hR := fun k : Nat => xY (W.getD k default)
  refine rZ ?_ 1; refine aoR fun _ => ?_
  refine rZ ?_ 1; refine cnd ?_ ?_
  refine uF fun _ => ?_; try omega
  refine rZ ?_ 1; refine aoR fun _ => ?_
  refine rZ ?_ 1
  apply xG; exact rfl; exact rfl
  refine rZ ?_ 1
  apply vE; exact rfl; exact rfl
  refine uF fun _ => ?_; try omega
  refine rZ ?_ 1
  apply vE; exact rfl; exact rfl
  refine uH ?_; refine rZ ?_ 1
  apply vE; exact rfl; exact rfl
  refine uH ?_; refine rZ ?_ 1
  apply vE; exact rfl; exact rfl
  refine uH ?_; refine rZ ?_ 1
  apply vE; exact rfl; exact rfl
  refine uH ?_; refine rZ ?_ 1; refine cnd ?_ ?_; refine wT ?_; refine uH ?_
  refine uF fun _ => ?_; try omega
  refine rZ ?_ 1; refine aoR fun _ => ?_
  refine rZ ?_ 1
  apply uE; exact rfl; exact .fn _ _ _; exact rfl; exact xY _
  refine rZ ?_ 1; refine aoR fun _ => ?_
  refine rZ ?_ 1; refine aoR fun _ => ?_
  refine rZ ?_ 1; rotate_left
  refine wU (fun hc_ => ?_); (try simp only [nrm] at hc_)
  refine rZ ?_ 1; refine aoR fun _ => ?_
  refine rZ ?_ 1
  apply xG; exact rfl; exact rfl
  refine rZ ?_ 1; refine cnd ?_ ?_
  refine uF fun _ => ?_; try omega
  refine aoR fun _ => ?_; refine rZ ?_ 1
  refine aoR fun _ => ?_; refine rZ ?_ 1
  rotate_left
  refine uG fun _ => ?_; try omega
  refine rZ ?_ 1; refine aoR fun _ => ?_
  refine rZ ?_ 1
  apply xG; exact rfl; exact rfl
  refine rZ ?_ 1; refine cnd ?_ ?_
  refine uF fun _ => ?_; try omega
  refine aoR fun _ => ?_; refine rZ ?_ 1
  refine aoR fun _ => ?_; refine rZ ?_ 1
  rotate_left
  refine uG fun _ => ?_; try omega
  refine rZ ?_ 1; refine aoR fun _ => ?_
  refine rZ ?_ 1; rotate_left
  iterate 4 exact uI
  refine uG fun _ => ?_; try omega
  apply vE; exact rfl; exact rfl
  exact vN
  refine uV ?_
  apply vE; exact rfl; exact rfl
  exact vN
  refine uV ?_
  apply vE; exact rfl; exact rfl
  exact vN
  refine uV ?_
  apply vE; exact rfl; exact rfl
  exact vN
  refine uV ?_; refine rZ ?_ 1; refine cnd ?_ ?_
  exact vN
  refine uV ?_; refine rZ ?_ 1; refine aoR fun _ => ?_
  refine rZ ?_ 1
  apply xG; exact rfl; exact rfl
  refine rZ ?_ 1; refine cnd ?_ ?_
  refine uF fun _ => ?_; try omega
  refine aoR fun _ => ?_; refine rZ ?_ 1
  refine aoR fun _ => ?_; refine rZ ?_ 1
  rotate_left
  refine uG fun _ => ?_; try omega
  refine rZ ?_ 1; refine aoR fun _ => ?_
  refine rZ ?_ 1
  apply xG; exact rfl; exact rfl
  refine rZ ?_ 1; refine cnd ?_ ?_
  refine uF fun _ => ?_; try omega
  refine aoR fun _ => ?_; refine rZ ?_ 1
  refine aoR fun _ => ?_; refine rZ ?_ 1
  rotate_left
  refine uG fun _ => ?_; try omega
  refine rZ ?_ 1; refine aoR fun _ => ?_
  refine rZ ?_ 1; rotate_left
  refine uG fun _ => ?_; try omega
  ·rw [if_pos ⟨by assumption, by omega⟩] at hs
   rw [show ((j : Int) + 1).toNat = j + 1 by omega]
   exact uU (j + 2, regI (W.getD (j + 1) default), a, rl) ⟨by dsimp only; omega, hI.trans hs⟩ (by dsimp only; omega) (uL rfl (uL rfl (uL rfl (uL rfl (uO rfl (by simp; omega) (vW _)))))) leP
  ·rename_i h1 _ _ h2 _ _
   exfalso
   have := (by assumption : W.getD (j : Int).toNat default = [98, 121]).symm.trans (by assumption : W.getD (j : Int).toNat default = [97, 113])
   cases this
  ·exfalso
   have := (by assumption : W.getD (j : Int).toNat default = [98, 121]).symm.trans (by assumption : W.getD (j : Int).toNat default = [114, 108])
   cases this
  ·rename_i hc_ _ _ _ _ _
   have hnx : ¬ (W.getD j default = wBy ∧ j + 1 < W.length) := fun h => by
    rcases hc_ with e | e
    ·cases e
    ·omega
   rw [if_neg hnx, if_neg (by assumption), if_neg (by assumption)] at hs
   have e := hI.trans hs
   exact pO rfl rfl rfl (by rw [e]; rfl)
  ·rw [if_neg (fun h => absurd h.1 (by assumption)), if_pos (by assumption)] at hs
   exact uU (j + 1, b, true, rl) ⟨by dsimp only; omega, hI.trans hs⟩ (by dsimp only; omega) leP leP
  ·rw [if_neg (fun h => absurd h.1 (by assumption)), if_neg (by assumption), if_pos (by assumption)] at hs
   exact uU (j + 1, b, a, true) ⟨by dsimp only; omega, hI.trans hs⟩ (by dsimp only; omega) leP leP
  ·rw [if_neg (fun h => absurd h.1 (by assumption)), if_neg (by assumption), if_neg (by assumption)] at hs
   have e := hI.trans hs
   exact pO rfl rfl rfl (by rw [e]; rfl)
 ·have hs := rTail_end (show W.length ≤ j by omega) (stp3 k r v n d p q (b, a, rl))
  have e := hI.trans hs
  rw [e]
  have c1 := oQ (stp3 k r v n d p q (b, a, rl))
  cases hr : (stp3 k r v n d p q (b, a, rl)).right with
  | true =>
   rw [hr] at c1
   have c2 := rline_p tM tQ (stp3 k r v n d p q (b, a, rl)) hr hn
   refine rZ ?_ 1; refine aoR fun _ => ?_
   refine rZ ?_ 1; refine cnd ?_ ?_
   refine uF fun _ => ?_; try omega
   refine uG fun _ => ?_; try omega
   refine rZ ?_ 1
   refine uJ (E := E) ?_ (fun _ => ?_); exact rfl
   refine rZ ?_ 1
   apply vJ; exact rfl; exact .fn _ _ _; exact rfl; (exact c1)
   refine rZ ?_ 1
   apply xM; exact rfl; exact rfl
   refine uH ?_; refine rZ ?_ 1
   apply xM; exact rfl; exact rfl
   refine uH ?_
   apply vJ; exact rfl; exact .fn _ _ _; exact rfl; (exact c2)
   apply xM; exact rfl; exact rfl
   refine uH ?_; refine rZ ?_ 1
   apply xM; exact rfl; exact rfl
   refine uH ?_
   apply qZ; exact rfl; exact rfl
   refine rZ ?_ 1; rotate_left
   iterate 4 exact uI
   have e2 : rEnd l (stp3 k r v n d p q (b, a, rl), true) = (stp3 k r v n d p q (b, a, rl), decide (lineB (stp3 k r v n d p q (b, a, rl)) = l)) := by
    show (if true = true then (stp3 k r v n d p q (b, a, rl), (stp3 k r v n d p q (b, a, rl)).right && decide (lineB (stp3 k r v n d p q (b, a, rl)) = l)) else _) = _
    rw [if_pos rfl, hr, Bool.true_and]
   rw [e2]
   all_goals exact pO rfl rfl rfl rfl
  | false =>
   rw [hr] at c1
   refine rZ ?_ 1; refine aoR fun _ => ?_
   refine rZ ?_ 1; refine cnd ?_ ?_
   refine uF fun _ => ?_; try omega
   refine uG fun _ => ?_; try omega
   refine rZ ?_ 1
   refine uJ (E := E) ?_ (fun _ => ?_); exact rfl
   refine rZ ?_ 1
   apply vJ; exact rfl; exact .fn _ _ _; exact rfl; exact c1
   refine rZ ?_ 1
   apply xM; exact rfl; exact rfl
   exact vN
   refine uV ?_
   apply xM; exact rfl; exact rfl
   exact vN
   refine uV ?_
   apply xM; exact rfl; exact rfl
   exact vN
   refine uV ?_
   apply xM; exact rfl; exact rfl
   exact vN
   refine uV ?_; refine rZ ?_ 1; rotate_left
   have e2 : rEnd l (stp3 k r v n d p q (b, a, rl), true) = (stp3 k r v n d p q (b, a, rl), false) := by
    show (if true = true then (stp3 k r v n d p q (b, a, rl), (stp3 k r v n d p q (b, a, rl)).right && decide (lineB (stp3 k r v n d p q (b, a, rl)) = l)) else _) = _
    rw [if_pos rfl, hr, Bool.false_and]
   rw [e2]
   all_goals exact pO rfl rfl rfl rfl
end
set_option maxRecDepth 100000
section
open Go.RowKit Go.Lib
theorem dS {A B : Prop} [Decidable A] [Decidable B] : (decide A && decide B) = true ↔ A ∧ B := by simp
theorem pV {A B C : Prop} [Decidable A] [Decidable B] [Decidable C] : (decide A && (decide B || decide C)) = true ↔ A ∧ (B ∨ C) := by simp
theorem zB {l : Bt} {p : Stp × Nat} (h : rHead (splitC 32 l) = some p) : rStep l = rEnd l (rTail ((splitC 32 l).drop p.2) p.1) := by unfold rStep; rw [h]
theorem rStep_none {l : Bt} (h : rHead (splitC 32 l) = none) : rStep l = (stp0, false) := by unfold rStep; rw [h]
set_option maxHeartbeats 4000000 in
theorem rstep_p (l : Bt) (hl : l.length ≤ 65535) : Pure E.P 46 [.bs l] (.tu [stOV (rStep l).1, .bool (rStep l).2]) := by
 obtain ⟨W, hW⟩ : ∃ W, W = splitC 32 l := ⟨_, rfl⟩
 have c1 := rwords_p l (by omega)
 rw [← hW] at c1
 have hl5 : W.length ≤ 65536 := by
  have := zM 32 l
  have := fV 32 l
  rw [hW]; omega
 have hlm : (List.map wTV W).length = W.length := List.length_map ..
 refine FnW.toR ?_
 refine xL (vs := [.cell 2 47, .tmp 3]) Tryz.func46 (by decide) rfl Tryz.ntmps46 (Nat.le_of_ble_eq_true rfl) rfl ?_
 refine uR (X := Stamp × Stamp) (fun y => tmL [(0, .bs l), (2, .lo 2 y.1 10 0 0), (3, .bool false)]) (fun y => stL [(2, (y.1, ⟨10, [stR 0 0 0 0 0 0 false false 0 0]⟩))]) ?_ fun y => ?_
 ·refine aoR fun _ => ?_
  refine rZ ?_; rotate_left
  rename_i u
  exact wA ((u, 0), (0, 0)) leP leP
 obtain ⟨τ2, _⟩ := y
 refine uR (X := Unit) (fun _ => tmL [(0, .bs l), (2, .lo 2 τ2 10 0 0), (4, .d (.sl 1 (W.map wTV)))]) (fun y => stL [(2, (τ2, ⟨10, [stR 0 0 0 0 0 0 false false 0 0]⟩))]) ?_ fun y => ?_
 ·refine aoR fun _ => ?_
  refine rZ ?_
  apply uE; exact rfl; exact .fn _ _ _; exact rfl; exact c1
  refine rZ ?_; rotate_left
  exact wA () leP leP
 refine uR (X := Stamp) (fun τ5 => tmL [(0, .bs l), (2, .lo 2 τ2 10 0 0), (4, .d (.sl 1 (W.map wTV))), (5, .lo 5 τ5 10 0 0)]) (fun τ5 => stL [(2, (τ2, ⟨10, [stR 0 0 0 0 0 0 false false 0 0]⟩)), (5, (τ5, ⟨10, [stR 0 0 0 0 0 0 false false 0 0]⟩))]) ?_ fun τ5 => ?_
 ·refine aoR fun _ => ?_
  refine rZ ?_; rotate_left
  rename_i u
  exact wA (u, 1) leP leP
 refine uR (X := Unit) (fun _ => tmL [(0, .bs l), (2, .lo 2 τ2 10 0 0), (4, .d (.sl 1 (W.map wTV))), (5, .lo 5 τ5 10 0 0)]) (fun _ => stL [(2, (τ2, ⟨10, [stR 0 0 0 0 0 0 false false 0 0]⟩)), (5, (τ5, ⟨10, [stR 0 0 0 0 0 0 false false 0 0]⟩))]) ?_ fun _ => ?_
 ·refine aoR fun _ => ?_
  refine rZ ?_; rotate_left
  exact wA () leP leP
 have hop : ∀ k : Nat, Pure E.P 111 [.bs (W.getD k default)] (.tu [.int .i64 (rOper (W.getD k default)).1, .int .u32 (rOper (W.getD k default)).2]) := fun k => roperand_p _ (by
  rw [hW, List.getD_eq_getElem?_getD]
  cases e : (splitC 32 l)[k]? with
  | none => exact Nat.zero_le _
  | some w =>
   have := bM 32 l w (List.mem_of_getElem? e)
   show w.length ≤ _
   omega)
 by_cases h1 : (W.length : Int) = 3 ∧ W.getD (Int.toNat 0) default = [102, 101, 110, 99, 101]
 ·refine uR (X := Unit) (fun _ => tmL [(0, .bs l), (2, .lo 2 τ2 10 0 0), (4, .d (.sl 1 (W.map wTV))), (5, .lo 5 τ5 10 0 0), (6, .int .i64 3)]) (fun _ => stL [(2, (τ2, ⟨10, [stR 0 0 0 0 0 0 false false 0 0]⟩)), (5, (τ5, ⟨10, [stR 5 0 0 0 0 0 false false (setI (W.getD 1 [])) (setI (W.getD 2 []))]⟩))]) ?_ fun _ => ?_
  ·refine wH (uD (aoR fun _ => ?_))
   refine rZ ?_ 2
   apply spT; exact rfl
   intro hc_
   have hp_ := hc_; try simp only [nrm] at hp_
   apply vC; exact evm; exact evm
   refine rZ ?_ 2; rotate_left
   refine uA (uK rfl (fun _ => ?_) (fun hx => absurd (dS.2 h1) (by rw [hx]; decide)))
   obtain ⟨h1, _⟩ := h1
   refine rZ ?_ 1
   refine uJ (E := E) ?_ (fun _ => ?_); exact rfl
   refine rZ ?_ 1
   apply vJ; exact rfl; exact .fn _ _ _; exact rfl; (exact oJ _)
   refine rZ ?_ 1
   apply vJ; exact rfl; exact .fn _ _ _; exact rfl; (exact oJ _)
   refine rZ ?_ 1; refine aoR fun _ => ?_
   refine rZ ?_ 1; rotate_left
   all_goals first | exact wA () leP leP | skip
  have hH : rHead W = some (⟨5, 0, 0, 0, 0, 0, false, false, (setI (W.getD 1 [])), (setI (W.getD 2 []))⟩, 3) := by unfold rHead; rw [if_pos ⟨by omega, h1.2⟩]
  rw [hW] at hH
  have hS := zB hH
  rw [← hW] at hS
  rw [hS]
  exact cZ l W hl5 τ2 τ5 5 0 0 0 0 (setI (W.getD 1 [])) (setI (W.getD 2 [])) 3 (by omega) (⟨Int.le_refl 0, by decide⟩)
 have n1 : ¬ (W.length = 3 ∧ W.getD 0 [] = wFence) := fun h => h1 ⟨by omega, h.2⟩
 by_cases h2 : (W.length : Int) = 2 ∧ W.getD (Int.toNat 0) default = [105, 102]
 ·refine uR (X := Unit) (fun _ => tmL [(0, .bs l), (2, .lo 2 τ2 10 0 0), (4, .d (.sl 1 (W.map wTV))), (5, .lo 5 τ5 10 0 0), (6, .int .i64 2)]) (fun _ => stL [(2, (τ2, ⟨10, [stR 0 0 0 0 0 0 false false 0 0]⟩)), (5, (τ5, ⟨10, [stR 6 (regI (W.getD 1 [])) 0 0 0 0 false false 0 0]⟩))]) ?_ fun _ => ?_
  ·refine wH (uD (aoR fun _ => ?_))
   refine rZ ?_ 2
   apply spT; exact rfl
   intro hc_
   have hp_ := hc_; try simp only [nrm] at hp_
   apply vC; exact evm; exact evm
   refine rZ ?_ 2; rotate_left
   refine uA (uK rfl (fun hx => absurd (dS.1 hx) h1) (fun _ => ?_))
   refine uD (aoR fun _ => ?_)
   refine rZ ?_ 2
   apply spT; exact rfl
   intro hc_
   have hp_ := hc_; try simp only [nrm] at hp_
   apply vC; exact evm; exact evm
   refine rZ ?_ 2; rotate_left
   refine uA (uK rfl (fun _ => ?_) (fun hx => absurd (dS.2 h2) (by rw [hx]; decide)))
   obtain ⟨h2, _⟩ := h2
   refine rZ ?_ 1; refine aoR fun _ => ?_
   refine rZ ?_ 1
   apply uE; exact rfl; exact .fn _ _ _; exact rfl; (exact xY _)
   refine rZ ?_ 1; refine aoR fun _ => ?_
   refine rZ ?_ 1; rotate_left
   all_goals first | exact wA () leP leP | skip
  have hH : rHead W = some (⟨6, (regI (W.getD 1 [])), 0, 0, 0, 0, false, false, 0, 0⟩, 2) := by unfold rHead; rw [if_neg n1, if_pos ⟨by omega, h2.2⟩]
  rw [hW] at hH
  have hS := zB hH
  rw [← hW] at hS
  rw [hS]
  exact cZ l W hl5 τ2 τ5 6 (regI (W.getD 1 [])) 0 0 0 0 0 2 (by omega) (⟨Int.le_refl 0, by decide⟩)
 have n2 : ¬ (W.length = 2 ∧ W.getD 0 [] = wIf) := fun h => h2 ⟨by omega, h.2⟩
 by_cases h3 : (5 : Int) ≤ W.length ∧ (W.getD (Int.toNat 2) default = [115, 119, 97, 112] ∨ W.getD (Int.toNat 2) default = [97, 100, 100])
 ·by_cases ha : W.getD (Int.toNat 2) default = [97, 100, 100]
  ·refine uR (X := Unit) (fun _ => tmL [(0, .bs l), (2, .lo 2 τ2 10 0 0), (4, .d (.sl 1 (W.map wTV))), (5, .lo 5 τ5 10 0 0), (6, .int .i64 5)]) (fun _ => stL [(2, (τ2, ⟨10, [stR 0 0 0 0 0 0 false false 0 0]⟩)), (5, (τ5, ⟨10, [stR 4 (regI (W.getD 0 [])) (nameI (W.getD 3 [])) (rOper (W.getD 4 [])).2 (rOper (W.getD 4 [])).1 0 false false 0 0]⟩))]) ?_ fun _ => ?_
   ·refine wH (uD (aoR fun _ => ?_))
    refine rZ ?_ 2
    apply spT; exact rfl
    intro hc_
    have hp_ := hc_; try simp only [nrm] at hp_
    apply vC; exact evm; exact evm
    refine rZ ?_ 2; rotate_left
    refine uA (uK rfl (fun hx => absurd (dS.1 hx) h1) (fun _ => ?_))
    refine uD (aoR fun _ => ?_)
    refine rZ ?_ 2
    apply spT; exact rfl
    intro hc_
    have hp_ := hc_; try simp only [nrm] at hp_
    apply vC; exact evm; exact evm
    refine rZ ?_ 2; rotate_left
    refine uA (uK rfl (fun hx => absurd (dS.1 hx) h2) (fun _ => ?_))
    refine uD (aoR fun _ => ?_)
    refine rZ ?_ 2
    apply spT; exact rfl
    intro hc_
    have hp_ := hc_; try simp only [nrm] at hp_
    apply vC; exact evm; exact evm
    refine rZ ?_ 2
    apply zJ; exact rfl; exact rfl
    intro hc_
    have hp_ := hc_; try simp only [nrm] at hp_
    apply vC; exact evm; exact evm
    refine rZ ?_ 2; rotate_left
    refine uA (uK rfl (fun _ => ?_) (fun hx => absurd (pV.2 h3) (by rw [hx]; decide)))
    obtain ⟨h3, _⟩ := h3
    refine rZ ?_ 1
    refine uJ (E := E) ?_ (fun _ => ?_); exact rfl
    refine rZ ?_ 1
    apply vJ; exact rfl; exact .fn _ _ _; exact rfl; (exact xY _)
    refine rZ ?_ 1
    apply vJ; exact rfl; exact .fn _ _ _; exact rfl; (exact dA _)
    refine rZ ?_ 1; refine aoR fun _ => ?_
    refine rZ ?_ 1
    apply xG; exact rfl; exact rfl
    refine rZ ?_ 1; refine cnd ?_ ?_
    refine uF fun _ => ?_; try omega
    refine aoR fun _ => ?_; refine rZ ?_ 1
    refine aoR fun _ => ?_; refine rZ ?_ 1
    apply uE; exact rfl; exact .fn _ _ _; exact rfl; (exact hop _)
    refine rZ ?_ 1; refine aoR fun _ => ?_
    refine rZ ?_ 1; rotate_left
    refine uG fun _ => ?_; try omega
    refine rZ ?_ 1; refine aoR fun _ => ?_
    refine rZ ?_ 1
    apply uE; exact rfl; exact .fn _ _ _; exact rfl; (exact hop _)
    refine rZ ?_ 1; refine aoR fun _ => ?_
    refine rZ ?_ 1; rotate_left
    all_goals first | (exfalso; exact absurd ha (by assumption)) | exact wA () leP leP
   have hH : rHead W = some (⟨4, (regI (W.getD 0 [])), (nameI (W.getD 3 [])), (rOper (W.getD 4 [])).2, (rOper (W.getD 4 [])).1, 0, false, false, 0, 0⟩, 5) := by unfold rHead; rw [if_neg n1, if_neg n2, if_pos ⟨by omega, h3.2⟩, if_pos (show W.getD 2 [] = wAdd from ha)]
   rw [hW] at hH
   have hS := zB hH
   rw [← hW] at hS
   rw [hS]
   exact cZ l W hl5 τ2 τ5 4 (regI (W.getD 0 [])) (nameI (W.getD 3 [])) (rOper (W.getD 4 [])).2 (rOper (W.getD 4 [])).1 0 0 5 (by omega) (iJ _)
  ·refine uR (X := Unit) (fun _ => tmL [(0, .bs l), (2, .lo 2 τ2 10 0 0), (4, .d (.sl 1 (W.map wTV))), (5, .lo 5 τ5 10 0 0), (6, .int .i64 5)]) (fun _ => stL [(2, (τ2, ⟨10, [stR 0 0 0 0 0 0 false false 0 0]⟩)), (5, (τ5, ⟨10, [stR 3 (regI (W.getD 0 [])) (nameI (W.getD 3 [])) (rOper (W.getD 4 [])).2 (rOper (W.getD 4 [])).1 0 false false 0 0]⟩))]) ?_ fun _ => ?_
   ·refine wH (uD (aoR fun _ => ?_))
    refine rZ ?_ 2
    apply spT; exact rfl
    intro hc_
    have hp_ := hc_; try simp only [nrm] at hp_
    apply vC; exact evm; exact evm
    refine rZ ?_ 2; rotate_left
    refine uA (uK rfl (fun hx => absurd (dS.1 hx) h1) (fun _ => ?_))
    refine uD (aoR fun _ => ?_)
    refine rZ ?_ 2
    apply spT; exact rfl
    intro hc_
    have hp_ := hc_; try simp only [nrm] at hp_
    apply vC; exact evm; exact evm
    refine rZ ?_ 2; rotate_left
    refine uA (uK rfl (fun hx => absurd (dS.1 hx) h2) (fun _ => ?_))
    refine uD (aoR fun _ => ?_)
    refine rZ ?_ 2
    apply spT; exact rfl
    intro hc_
    have hp_ := hc_; try simp only [nrm] at hp_
    apply vC; exact evm; exact evm
    refine rZ ?_ 2
    apply zJ; exact rfl; exact rfl
    intro hc_
    have hp_ := hc_; try simp only [nrm] at hp_
    apply vC; exact evm; exact evm
    refine rZ ?_ 2; rotate_left
    refine uA (uK rfl (fun _ => ?_) (fun hx => absurd (pV.2 h3) (by rw [hx]; decide)))
    obtain ⟨h3, _⟩ := h3
    refine rZ ?_ 1
    refine uJ (E := E) ?_ (fun _ => ?_); exact rfl
    refine rZ ?_ 1
    apply vJ; exact rfl; exact .fn _ _ _; exact rfl; (exact xY _)
    refine rZ ?_ 1
    apply vJ; exact rfl; exact .fn _ _ _; exact rfl; (exact dA _)
    refine rZ ?_ 1; refine aoR fun _ => ?_
    refine rZ ?_ 1
    apply xG; exact rfl; exact rfl
    refine rZ ?_ 1; refine cnd ?_ ?_
    refine uF fun _ => ?_; try omega
    refine aoR fun _ => ?_; refine rZ ?_ 1
    refine aoR fun _ => ?_; refine rZ ?_ 1
    apply uE; exact rfl; exact .fn _ _ _; exact rfl; (exact hop _)
    refine rZ ?_ 1; refine aoR fun _ => ?_
    refine rZ ?_ 1; rotate_left
    refine uG fun _ => ?_; try omega
    refine rZ ?_ 1; refine aoR fun _ => ?_
    refine rZ ?_ 1
    apply uE; exact rfl; exact .fn _ _ _; exact rfl; (exact hop _)
    refine rZ ?_ 1; refine aoR fun _ => ?_
    refine rZ ?_ 1; rotate_left
    all_goals first | (exfalso; exact ha (by assumption)) | exact wA () leP leP
   have hH : rHead W = some (⟨3, (regI (W.getD 0 [])), (nameI (W.getD 3 [])), (rOper (W.getD 4 [])).2, (rOper (W.getD 4 [])).1, 0, false, false, 0, 0⟩, 5) := by unfold rHead; rw [if_neg n1, if_neg n2, if_pos ⟨by omega, h3.2⟩, if_neg (show ¬ W.getD 2 [] = wAdd from ha)]
   rw [hW] at hH
   have hS := zB hH
   rw [← hW] at hS
   rw [hS]
   exact cZ l W hl5 τ2 τ5 3 (regI (W.getD 0 [])) (nameI (W.getD 3 [])) (rOper (W.getD 4 [])).2 (rOper (W.getD 4 [])).1 0 0 5 (by omega) (iJ _)
 have n3 : ¬ (5 ≤ W.length ∧ (W.getD 2 [] = wSwap ∨ W.getD 2 [] = wAdd)) := fun h => h3 ⟨by omega, h.2⟩
 by_cases h4 : (3 : Int) ≤ W.length ∧ 0 < regI (W.getD (Int.toNat 0) default)
 ·refine uR (X := Unit) (fun _ => tmL [(0, .bs l), (2, .lo 2 τ2 10 0 0), (4, .d (.sl 1 (W.map wTV))), (5, .lo 5 τ5 10 0 0), (6, .int .i64 3)]) (fun _ => stL [(2, (τ2, ⟨10, [stR 0 0 0 0 0 0 false false 0 0]⟩)), (5, (τ5, ⟨10, [stR 1 (regI (W.getD 0 [])) (nameI (W.getD 2 [])) 0 0 0 false false 0 0]⟩))]) ?_ fun _ => ?_
  ·refine wH (uD (aoR fun _ => ?_))
   refine rZ ?_ 2
   apply spT; exact rfl
   intro hc_
   have hp_ := hc_; try simp only [nrm] at hp_
   apply vC; exact evm; exact evm
   refine rZ ?_ 2; rotate_left
   refine uA (uK rfl (fun hx => absurd (dS.1 hx) h1) (fun _ => ?_))
   refine uD (aoR fun _ => ?_)
   refine rZ ?_ 2
   apply spT; exact rfl
   intro hc_
   have hp_ := hc_; try simp only [nrm] at hp_
   apply vC; exact evm; exact evm
   refine rZ ?_ 2; rotate_left
   refine uA (uK rfl (fun hx => absurd (dS.1 hx) h2) (fun _ => ?_))
   refine uD (aoR fun _ => ?_)
   refine rZ ?_ 2
   apply spT; exact rfl
   intro hc_
   have hp_ := hc_; try simp only [nrm] at hp_
   apply vC; exact evm; exact evm
   refine rZ ?_ 2
   apply zJ; exact rfl; exact rfl
   intro hc_
   have hp_ := hc_; try simp only [nrm] at hp_
   apply vC; exact evm; exact evm
   refine rZ ?_ 2; rotate_left
   refine uA (uK rfl (fun hx => absurd (pV.1 hx) h3) (fun _ => ?_))
   refine uD (aoR fun _ => ?_)
   refine rZ ?_ 2
   apply spT; exact rfl
   intro hc_
   have hp_ := hc_; try simp only [nrm] at hp_
   apply uZ; exact evm; exact .fn _ _ _; exact wP; (exact xY _)
   refine rZ ?_ 2; rotate_left
   refine uA (uK rfl (fun _ => ?_) (fun hx => absurd (dS.2 h4) (by rw [hx]; decide)))
   obtain ⟨h4, _⟩ := h4
   refine rZ ?_ 1
   refine uJ (E := E) ?_ (fun _ => ?_); exact rfl
   refine rZ ?_ 1
   apply vJ; exact rfl; exact .fn _ _ _; exact rfl; (exact xY _)
   refine rZ ?_ 1
   apply vJ; exact rfl; exact .fn _ _ _; exact rfl; (exact dA _)
   refine rZ ?_ 1; refine aoR fun _ => ?_
   refine rZ ?_ 1; rotate_left
   all_goals exact wA () leP leP
  have hH : rHead W = some (⟨1, (regI (W.getD 0 [])), (nameI (W.getD 2 [])), 0, 0, 0, false, false, 0, 0⟩, 3) := by unfold rHead; rw [if_neg n1, if_neg n2, if_neg n3, if_pos ⟨by omega, h4.2⟩]
  rw [hW] at hH
  have hS := zB hH
  rw [← hW] at hS
  rw [hS]
  exact cZ l W hl5 τ2 τ5 1 (regI (W.getD 0 [])) (nameI (W.getD 2 [])) 0 0 0 0 3 (by omega) (⟨Int.le_refl 0, by decide⟩)
 have n4 : ¬ (3 ≤ W.length ∧ 0 < regI (W.getD 0 [])) := fun h => h4 ⟨by omega, h.2⟩
 by_cases h5 : (3 : Int) ≤ W.length
 ·refine uR (X := Unit) (fun _ => tmL [(0, .bs l), (2, .lo 2 τ2 10 0 0), (4, .d (.sl 1 (W.map wTV))), (5, .lo 5 τ5 10 0 0), (6, .int .i64 3)]) (fun _ => stL [(2, (τ2, ⟨10, [stR 0 0 0 0 0 0 false false 0 0]⟩)), (5, (τ5, ⟨10, [stR 2 0 (nameI (W.getD 0 [])) (rOper (W.getD 2 [])).2 (rOper (W.getD 2 [])).1 0 false false 0 0]⟩))]) ?_ fun _ => ?_
  ·refine wH (uD (aoR fun _ => ?_))
   refine rZ ?_ 2
   apply spT; exact rfl
   intro hc_
   have hp_ := hc_; try simp only [nrm] at hp_
   apply vC; exact evm; exact evm
   refine rZ ?_ 2; rotate_left
   refine uA (uK rfl (fun hx => absurd (dS.1 hx) h1) (fun _ => ?_))
   refine uD (aoR fun _ => ?_)
   refine rZ ?_ 2
   apply spT; exact rfl
   intro hc_
   have hp_ := hc_; try simp only [nrm] at hp_
   apply vC; exact evm; exact evm
   refine rZ ?_ 2; rotate_left
   refine uA (uK rfl (fun hx => absurd (dS.1 hx) h2) (fun _ => ?_))
   refine uD (aoR fun _ => ?_)
   refine rZ ?_ 2
   apply spT; exact rfl
   intro hc_
   have hp_ := hc_; try simp only [nrm] at hp_
   apply vC; exact evm; exact evm
   refine rZ ?_ 2
   apply zJ; exact rfl; exact rfl
   intro hc_
   have hp_ := hc_; try simp only [nrm] at hp_
   apply vC; exact evm; exact evm
   refine rZ ?_ 2; rotate_left
   refine uA (uK rfl (fun hx => absurd (pV.1 hx) h3) (fun _ => ?_))
   refine uD (aoR fun _ => ?_)
   refine rZ ?_ 2
   apply spT; exact rfl
   intro hc_
   have hp_ := hc_; try simp only [nrm] at hp_
   apply uZ; exact evm; exact .fn _ _ _; exact wP; (exact xY _)
   refine rZ ?_ 2; rotate_left
   refine uA (uK rfl (fun hx => absurd (dS.1 hx) h4) (fun _ => ?_))
   refine uD (aoR fun _ => ?_)
   refine rZ ?_ 2; rotate_left
   refine uA (uK rfl (fun _ => ?_) (fun hx => absurd h5 (of_decide_eq_false hx)))
   refine rZ ?_ 1; refine aoR fun _ => ?_
   refine rZ ?_ 1
   apply uE; exact rfl; exact .fn _ _ _; exact rfl; (exact dA _)
   refine rZ ?_ 1; refine aoR fun _ => ?_
   refine rZ ?_ 1
   apply uE; exact rfl; exact .fn _ _ _; exact rfl; (exact hop _)
   refine rZ ?_ 1; refine aoR fun _ => ?_
   refine rZ ?_ 1; rotate_left
   all_goals exact wA () leP leP
  have hH : rHead W = some (⟨2, 0, (nameI (W.getD 0 [])), (rOper (W.getD 2 [])).2, (rOper (W.getD 2 [])).1, 0, false, false, 0, 0⟩, 3) := by unfold rHead; rw [if_neg n1, if_neg n2, if_neg n3, if_neg n4, if_pos (by omega)]
  rw [hW] at hH
  have hS := zB hH
  rw [← hW] at hS
  rw [hS]
  exact cZ l W hl5 τ2 τ5 2 0 (nameI (W.getD 0 [])) (rOper (W.getD 2 [])).2 (rOper (W.getD 2 [])).1 0 0 3 (by omega) (iJ _)
 have hH : rHead W = none := by unfold rHead; rw [if_neg n1, if_neg n2, if_neg n3, if_neg n4, if_neg (by omega)]
 rw [hW] at hH
 have hS := rStep_none hH
 rw [hS]
 refine uD (wH (uD (aoR fun _ => ?_)))
 refine rZ ?_ 2
 apply spT; exact rfl
 intro hc_
 have hp_ := hc_; try simp only [nrm] at hp_
 apply vC; exact evm; exact evm
 refine rZ ?_ 2; rotate_left
 refine uA (uK rfl (fun hx => absurd (dS.1 hx) h1) (fun _ => ?_))
 refine uD (aoR fun _ => ?_)
 refine rZ ?_ 2
 apply spT; exact rfl
 intro hc_
 have hp_ := hc_; try simp only [nrm] at hp_
 apply vC; exact evm; exact evm
 refine rZ ?_ 2; rotate_left
 refine uA (uK rfl (fun hx => absurd (dS.1 hx) h2) (fun _ => ?_))
 refine uD (aoR fun _ => ?_)
 refine rZ ?_ 2
 apply spT; exact rfl
 intro hc_
 have hp_ := hc_; try simp only [nrm] at hp_
 apply vC; exact evm; exact evm
 refine rZ ?_ 2
 apply zJ; exact rfl; exact rfl
 intro hc_
 have hp_ := hc_; try simp only [nrm] at hp_
 apply vC; exact evm; exact evm
 refine rZ ?_ 2; rotate_left
 refine uA (uK rfl (fun hx => absurd (pV.1 hx) h3) (fun _ => ?_))
 refine uD (aoR fun _ => ?_)
 refine rZ ?_ 2
 apply spT; exact rfl
 intro hc_
 have hp_ := hc_; try simp only [nrm] at hp_
 apply uZ; exact evm; exact .fn _ _ _; exact wP; (exact xY _)
 refine rZ ?_ 2; rotate_left
 refine uA (uK rfl (fun hx => absurd (dS.1 hx) h4) (fun _ => ?_))
 refine uD (aoR fun _ => ?_)
 refine rZ ?_ 2; rotate_left
 refine uA (uK rfl (fun hx => absurd (of_decide_eq_true hx) h5) (fun _ => ?_))
 refine rZ ?_ 1; refine aoR fun _ => ?_
 refine rZ ?_ 1; rotate_left
 all_goals exact pO rfl rfl rfl rfl
end
set_option maxRecDepth 100000
variable {s : Stp} {t : Ts} {m : List Int}
theorem mG (c : UInt8) : ∀ l : Bt, (cutC c l).1.length ≤ l.length ∧ l.take (cutC c l).1.length = (cutC c l).1 ∧ (∀ j, j < (cutC c l).1.length → l.getD j 0 ≠ c) ∧ ((cutC c l).2.2 = true → (cutC c l).1.length < l.length ∧ l.getD (cutC c l).1.length 0 = c ∧ (cutC c l).2.1 = l.drop ((cutC c l).1.length + 1)) ∧ ((cutC c l).2.2 = false → (cutC c l).1.length = l.length)
 | [] => by
  refine ⟨by simp [cutC], by simp [cutC], fun j hj => ?_, fun h => ?_, fun _ => by simp [cutC]⟩
  ·simp [cutC] at hj
  ·simp [cutC] at h
 | x :: l => by
  obtain ⟨h1, h2, h3, h4, h5⟩ := mG c l
  by_cases hx : x = c
  ·have e : cutC c (x :: l) = ([], l, true) := by rw [cutC, if_pos hx]
   rw [e]
   refine ⟨by simp, by simp, fun j hj => ?_, fun _ => ⟨by simp, by simpa using hx, by simp⟩, fun h => by cases h⟩
   simp at hj
  ·have e : cutC c (x :: l) = (x :: (cutC c l).1, (cutC c l).2) := by rw [cutC, if_neg hx]
   rw [e]
   refine ⟨by simp only [List.length_cons]; omega, by simp only [List.length_cons, List.take_succ_cons]; rw [h2], fun j hj => ?_, fun h => ?_, fun h => ?_⟩
   ·cases j with
    | zero => simpa using hx
    | succ j =>
     have hj : j < (cutC c l).1.length := by simpa using hj
     simpa using h3 j hj
   ·obtain ⟨g1, g2, g3⟩ := h4 h
    exact ⟨by simp only [List.length_cons]; omega, by simpa using g2, by simpa using g3⟩
   ·have := h5 h
    simp only [List.length_cons]; omega
theorem cut_at (c : UInt8) {text w rest : Bt} {whole : Bool} {k : Nat} (hk : k ≤ text.length) (h : (w, rest, whole) = cutC c (text.drop k)) :
  k + w.length ≤ text.length ∧ (text.drop k).take w.length = w ∧ (∀ j, j < w.length → text.getD (k + j) 0 ≠ c) ∧ (whole = true → k + w.length < text.length ∧ text.getD (k + w.length) 0 = c ∧ rest = text.drop (k + w.length + 1)) ∧ (whole = false → k + w.length = text.length) := by
 have hf := mG c (text.drop k)
 rw [← h] at hf
 simp only [List.length_drop] at hf
 obtain ⟨h1, h2, h3, h4, h5⟩ := hf
 have hg : ∀ j, (text.drop k).getD j 0 = text.getD (k + j) 0 := fun j => by
  simp [List.getD_eq_getElem?_getD, List.getElem?_drop]
 refine ⟨by omega, h2, fun j hj => by rw [← hg]; exact h3 j hj, fun hw => ?_, fun hw => by have := h5 hw; omega⟩
 obtain ⟨g1, g2, g3⟩ := h4 hw
 refine ⟨by omega, by rw [← hg]; exact g2, ?_⟩
 rw [g3, List.drop_drop, Nat.add_assoc]
def prodL : List Int → Int
 | [] => 1
 | a :: l => a * prodL l
def mulC (n f : Int) : Int := if n ≤ 10000 then n * f else n
theorem eE {n f : Int} (hn : 1 ≤ n) (hf : 1 ≤ f) : n ≤ n * f := by
 have := Int.mul_le_mul_of_nonneg_left hf (by omega : 0 ≤ n)
 rwa [Int.mul_one] at this
theorem capI_mulC {n f : Int} (hn : 1 ≤ n) (hf : 1 ≤ f) : capI (mulC n f) = capI (n * f) := by
 have := eE hn hf
 by_cases h : n ≤ 10000
 ·have e : mulC n f = n * f := if_pos h
  rw [e]
 ·have e : mulC n f = n := if_neg h
  rw [e]
  unfold capI
  split <;> split <;> omega
theorem bH {x f : Int} (hx : 1 ≤ x) (hf : 1 ≤ f) : capI (capI x * f) = capI (x * f) := by
 by_cases h : 10001 < x
 ·have h1 := eE hx hf
  have h2 := eE (n := 10001) (by decide) hf
  have e : capI x = 10001 := if_pos h
  rw [e]
  unfold capI
  rw [if_pos (by omega : 10001 < x * f)]
  split <;> omega
 ·have e : capI x = x := if_neg h
  rw [e]
theorem dC (a b : List Int) : prodL (a ++ b) = prodL a * prodL b := by
 induction a with
 | nil => simp [prodL]
 | cons x a ih => simp [prodL, ih, Int.mul_assoc]
theorem gF : ∀ l : List Int, (∀ f ∈ l, 1 ≤ f) → 1 ≤ prodL l
 | [], _ => by decide
 | a :: l, h => by
  have h1 := h a (by simp)
  have h2 := gF l fun f hf => h f (by simp [hf])
  have := eE h1 h2
  simp only [prodL]; omega
theorem tP : ∀ (l : List Int) (n : Int), 1 ≤ n → (∀ f ∈ l, 1 ≤ f) → capI (l.foldl mulC n) = capI (n * prodL l) ∧ 1 ≤ l.foldl mulC n
 | [], n, hn, _ => by simp [prodL, hn]
 | a :: l, n, hn, h => by
  have ha := h a (by simp)
  have hp := gF l fun f hf => h f (by simp [hf])
  have hm := eE hn ha
  have h1 : 1 ≤ mulC n a := by unfold mulC; split <;> omega
  obtain ⟨e1, e2⟩ := tP l (mulC n a) h1 fun f hf => h f (by simp [hf])
  refine ⟨?_, e2⟩
  rw [List.foldl_cons, e1, prodL, ← Int.mul_assoc, ← bH h1 hp, capI_mulC hn ha, bH (by omega) hp]
def cntS (l : List Stp) (v : Int) : Nat := (l.filter fun s => s.sts && decide (s.var = v)).length
def fac : Nat → Int
 | 0 => 1
 | n + 1 => fac n * ((n : Int) + 1)
theorem dK : ∀ n, 1 ≤ fac n
 | 0 => by decide
 | n + 1 => by
  have := eE (dK n) (f := (n : Int) + 1) (by omega)
  have := dK n
  simp only [fac]; omega
def cnts (l : List Stp) : List Int := [(cntS l 0 : Int), (cntS l 1 : Int), (cntS l 2 : Int), (cntS l 3 : Int)]
def facP (l : List Stp) : Int := fac (cntS l 0) * fac (cntS l 1) * fac (cntS l 2) * fac (cntS l 3)
theorem iL {a b : Int} (ha : 1 ≤ a) (hb : 1 ≤ b) : 1 ≤ a * b := by have := eE ha hb; omega
theorem kD (l : List Stp) : 1 ≤ facP l := iL (iL (iL (dK _) (dK _)) (dK _)) (dK _)
theorem mI (l : List Stp) (s : Stp) (v : Int) : cntS (l ++ [s]) v = cntS l v + (if s.sts = true ∧ s.var = v then 1 else 0) := by
 unfold cntS
 rw [List.filter_append, List.length_append]
 by_cases h : s.sts = true ∧ s.var = v
 ·simp [h.1, h.2]
 ·rw [if_neg h]
  have : (s.sts && decide (s.var = v)) = false := by
   rw [Bool.eq_false_iff]
   simpa using h
  simp [this]
theorem cT (h : s.right = true) : 0 ≤ s.var ∧ s.var ≤ 3 := by cases aB h <;> simp <;> omega
theorem sStep_eq (l : List Stp) (s : Stp) (h : s.right = true) : sStep (cnts l, capI (facP l)) s = (cnts (l ++ [s]), capI (facP (l ++ [s]))) := by
 have hv := cT h
 unfold sStep
 cases hs : s.sts with
 | false =>
  have e : ∀ v, cntS (l ++ [s]) v = cntS l v := fun v => by rw [mI, if_neg (by simp [hs])]; rfl
  simp [cnts, facP, e]
 | true =>
  have e : ∀ v, cntS (l ++ [s]) v = cntS l v + (if s.var = v then 1 else 0) := fun v => by rw [mI]; simp [hs]
  have p := kD l
  dsimp only [cond_true]
  rcases (by omega : s.var = 0 ∨ s.var = 1 ∨ s.var = 2 ∨ s.var = 3) with q | q | q | q
  all_goals
   rw [q] at e ⊢
   simp only [cnts, facP, e, if_true, Int.reduceEq, if_false, Nat.add_zero, fac, Int.toNat_zero, Int.toNat_one, Int.reduceToNat, List.getD_cons_zero, List.getD_cons_succ, List.set_cons_zero, List.set_cons_succ]
   unfold facP at p
   rw [bH p (by omega)]
   refine Prod.ext ?_ ?_
   ·simp
   ·congr 1
    simp only [Int.mul_comm, Int.mul_left_comm, Int.mul_assoc, Int.natCast_add, Int.cast_ofNat_Int]
theorem uAS : ∀ (l2 l1 : List Stp), (∀ s ∈ l2, s.right = true) → l2.foldl sStep (cnts l1, capI (facP l1)) = (cnts (l1 ++ l2), capI (facP (l1 ++ l2)))
 | [], l1, _ => by simp
 | s :: l2, l1, h => by
  rw [List.foldl_cons, sStep_eq l1 s (h s (by simp)), uAS l2 (l1 ++ [s]) fun x hx => h x (by simp [hx])]
  simp
theorem rI (l : List Stp) (h : ∀ s ∈ l, s.right = true) : sAll l = (cnts l, capI (facP l)) := by
 have := uAS l [] h
 rw [List.nil_append] at this
 exact this
def lfac (m : List Int) (s : Stp) : Int := if s.sts then m.getD s.var.toNat 0 else m.getD s.var.toNat 0 + 1
def lfacs (m : List Int) (l : List Stp) : List Int := (l.filter Stp.lds).map (lfac m)
theorem tK (m : List Int) : ∀ (l : List Stp) (x : Int), 1 ≤ x → (∀ s ∈ l, s.lds = true → 1 ≤ lfac m s) → l.foldl (lStep m) (capI x) = capI (x * prodL (lfacs m l))
 | [], x, _, _ => by simp [lfacs, prodL]
 | s :: l, x, hx, h => by
  rw [List.foldl_cons]
  cases hl : s.lds with
  | false =>
   have e1 : lStep m (capI x) s = capI x := by simp [lStep, hl]
   have e2 : lfacs m (s :: l) = lfacs m l := by simp [lfacs, hl]
   rw [e1, e2]
   exact tK m l x hx fun y hy => h y (by simp [hy])
  | true =>
   have hf := h s (by simp) hl
   have e1 : lStep m (capI x) s = capI (x * lfac m s) := by
    rw [← bH hx hf]
    unfold lStep lfac
    cases hs : s.sts <;> simp [hl]
   have e2 : lfacs m (s :: l) = lfac m s :: lfacs m l := by simp [lfacs, hl]
   rw [e1, e2, tK m l _ (iL hx hf) fun y hy => h y (by simp [hy]), prodL, Int.mul_assoc]
theorem pB {l : List Stp} (h : ∀ s ∈ l, s.right = true) (hs : s ∈ l) : 1 ≤ lfac (cnts l) s := by
 have hv := cT (h s hs)
 have g : ∀ v, (0 : Int) ≤ (cntS l v : Int) := fun v => by omega
 have c : s.sts = true → 1 ≤ cntS l s.var := fun h2 => by
  unfold cntS
  have : s ∈ l.filter fun x => x.sts && decide (x.var = s.var) := List.mem_filter.2 ⟨hs, by simp [h2]⟩
  exact List.length_pos_of_mem this
 unfold lfac
 rcases (by omega : s.var = 0 ∨ s.var = 1 ∨ s.var = 2 ∨ s.var = 3) with q | q | q | q
 all_goals
  rw [q] at c ⊢
  split
  ·rename_i h2
   have := c h2
   simp [cnts]
   omega
  ·simp [cnts]
   omega
def upto (n : Nat) : List Int := (List.range n).map fun i : Nat => (i : Int) + 1
theorem bD : ∀ n, prodL (upto n) = fac n
 | 0 => rfl
 | n + 1 => by
  unfold upto
  rw [List.range_succ, List.map_append, dC]
  have := bD n
  unfold upto at this
  rw [this]
  simp [prodL, fac]
theorem upto_pos (n : Nat) : ∀ f ∈ upto n, 1 ≤ f := fun f hf => by
 obtain ⟨i, _, rfl⟩ := List.mem_map.1 hf
 omega
def facL (l : List Stp) : List Int := upto (cntS l 0) ++ (upto (cntS l 1) ++ (upto (cntS l 2) ++ upto (cntS l 3)))
def refWays (t : Ts) : Int := capI ((lfacs (cnts t.flatten) t.flatten).foldl mulC ((facL t.flatten).foldl mulC 1))
theorem refWays_eq (t : Ts) (h : ∀ s ∈ t.flatten, s.right = true) : refWays t = waysT t := by
 have hp : ∀ f ∈ facL t.flatten, 1 ≤ f := fun f hf => by
  unfold facL at hf
  simp only [List.mem_append] at hf
  rcases hf with h | h | h | h <;> exact upto_pos _ f h
 have hl : ∀ f ∈ lfacs (cnts t.flatten) t.flatten, 1 ≤ f := fun f hf => by
  obtain ⟨s, hs, rfl⟩ := List.mem_map.1 hf
  exact pB h (List.mem_filter.1 hs).1
 obtain ⟨e1, e2⟩ := tP (facL t.flatten) 1 (by decide) hp
 obtain ⟨e3, _⟩ := tP (lfacs (cnts t.flatten) t.flatten) _ e2 hl
 have hq := gF _ hl
 have ef : 1 * prodL (facL t.flatten) = facP t.flatten := by
  unfold facL facP
  rw [dC, dC, dC, bD, bD, bD, bD, Int.one_mul]
  simp only [Int.mul_assoc]
 unfold refWays waysT
 rw [e3, ← bH e2 hq, e1, ef, bH (kD _) hq, rI _ h]
 exact (tK _ _ _ (kD _) fun s hs hl' => pB h hs).symm
set_option maxRecDepth 100000
section
open Go.RowKit Go.Lib
theorem jU {α : Type} {l m : List α} {d : α} {i : Nat} (h : l.getD i d ≠ m.getD i d) : ¬ l = m := fun e => h (by rw [e])
theorem eq_take_succ {l m : List Stp} {i : Nat} (hl : i < l.length) (hm : i < m.length) (h : l.take i = m.take i) (e : l.getD i default = m.getD i default) : l.take (i + 1) = m.take (i + 1) := by
 rw [vT l default i hl, vT m default i hm, h, e]
theorem eq_take_succT {l m : Ts} {i : Nat} (hl : i < l.length) (hm : i < m.length) (h : l.take i = m.take i) (e : l.getD i default = m.getD i default) : l.take (i + 1) = m.take (i + 1) := by
 rw [vT l default i hl, vT m default i hm, h, e]
theorem pG {a : Ts} {i : Nat} (ha : ∀ l ∈ a, l.length ≤ 1152921504606846976) (h : i < a.length) : (a.getD i default).length ≤ 1152921504606846976 := ha _ (xI h)
set_option maxHeartbeats 4000000 in
theorem rJ (a b : Ts) (hl : a.length ≤ 1152921504606846976) (hm : b.length ≤ 1152921504606846976) (ha : ∀ l ∈ a, l.length ≤ 1152921504606846976) (hb : ∀ l ∈ b, l.length ≤ 1152921504606846976) :
  Pure E.P 19 [testOV a, testOV b] (.bool (decide (a = b))) := by
 have f2 : Frozen 2 := ⟨trivial⟩
 have f3 : Frozen 3 := ⟨trivial⟩
 refine fnA Tryz.func19 Tryz.ntmps19 ?_
 by_cases h0 : a.length = b.length
 ·refine rZ ?_
  refine aoR fun _ => ?_; refine rZ ?_
  refine aoR fun _ => ?_; refine rZ ?_
  refine cnd ?_ ?_
  refine zT (fun _ => ?_); (try omega)
  refine aG (fun _ => ?_); (try omega)
  refine rZ ?_; refine aoR fun _ => ?_
  refine rZ ?_; rotate_left
  all_goals try omega
  refine vB (X := Nat) (fun i => tmL [(2, .d (.pt [.sl 1 (a.map catRowT)] 0)), (3, .d (.pt [.sl 1 (b.map catRowT)] 0)), (5, .int .i64 i)]) (fun _ => stL []) (fun i => i ≤ a.length ∧ a.take i = b.take i) (fun i => a.length - i) 0 ⟨Nat.zero_le _, rfl⟩ leP leP ?_
  rintro i ⟨hi, ht⟩
  by_cases hlt : i < a.length
  ·have h1 : (a.getD (i : Int).toNat default).length ≤ 1152921504606846976 := pG ha hlt
   have h2 : (b.getD (i : Int).toNat default).length ≤ 1152921504606846976 := pG hb (show i < b.length by omega)
   by_cases hlen : (a.getD (i : Int).toNat default).length = (b.getD (i : Int).toNat default).length
   ·refine rZ ?_
    refine aoR fun _ => ?_; refine rZ ?_
    refine cnd ?_ ?_
    refine uF fun _ => ?_; try omega
    refine rZ ?_
    refine uJ (E := E) ?_ (fun _ => ?_); exact rfl
    refine rZ ?_; refine cnd ?_ ?_
    refine zT (fun _ => ?_); (try omega)
    refine aG (fun _ => ?_); (try omega)
    refine rZ ?_; refine aoR fun _ => ?_
    refine rZ ?_; rotate_left
    refine uG fun _ => ?_; try omega
    all_goals try omega
    refine vB (X := Nat) (fun k => tmL [(2, .d (.pt [.sl 1 (a.map catRowT)] 0)), (3, .d (.pt [.sl 1 (b.map catRowT)] 0)), (5, .int .i64 i), (6, .int .i64 k)]) (fun _ => stL []) (fun k => k ≤ (a.getD (i : Int).toNat default).length ∧ (a.getD (i : Int).toNat default).take k = (b.getD (i : Int).toNat default).take k) (fun k => (a.getD (i : Int).toNat default).length - k) 0 ⟨Nat.zero_le _, rfl⟩ leP leP ?_
    rintro k ⟨hk, hkt⟩
    by_cases hlk : k < (a.getD (i : Int).toNat default).length
    ·by_cases he : (a.getD (i : Int).toNat default).getD (k : Int).toNat default = (b.getD (i : Int).toNat default).getD (k : Int).toNat default
     ·refine rZ ?_
      refine aoR fun _ => ?_; refine rZ ?_
      refine cnd ?_ ?_
      refine uF fun _ => ?_; try omega
      refine rZ ?_
      refine uJ (E := E) ?_ (fun _ => ?_); exact rfl
      refine rZ ?_
      ((apply qX ((a.getD (i : Int).toNat default).getD (k : Int).toNat default) ((b.getD (i : Int).toNat default).getD (k : Int).toNat default)); exact rfl; exact rfl)
      refine rZ ?_; refine cnd ?_ ?_
      refine zT (fun _ => ?_); (try omega)
      refine rZ ?_; refine aoR fun _ => ?_
      refine rZ ?_; rotate_left
      refine aG (fun _ => ?_); (try omega)
      refine rZ ?_; refine aoR fun _ => ?_
      refine rZ ?_; rotate_left
      refine uG fun _ => ?_; try omega
      all_goals first
       | exact uU (k + 1) ⟨by omega, eq_take_succ hlk (by omega) hkt he⟩ (by omega) leP leP
       | (exfalso; contradiction)
       | (exfalso; omega)
     ·have e : decide (a = b) = false := decide_eq_false (jU (d := default) (i := (i : Int).toNat) (jU (d := default) (i := (k : Int).toNat) he))
      rw [e]
      refine rZ ?_; refine aoR fun _ => ?_
      refine rZ ?_; refine cnd ?_ ?_
      refine uF fun _ => ?_; try omega
      refine rZ ?_
      refine uJ (E := E) ?_ (fun _ => ?_); exact rfl
      refine rZ ?_
      ((apply qX ((a.getD (i : Int).toNat default).getD (k : Int).toNat default) ((b.getD (i : Int).toNat default).getD (k : Int).toNat default)); exact rfl; exact rfl)
      refine rZ ?_; refine cnd ?_ ?_
      refine zT (fun _ => ?_); (try omega)
      refine rZ ?_; refine aoR fun _ => ?_
      refine rZ ?_; rotate_left
      refine aG (fun _ => ?_); (try omega)
      refine rZ ?_; refine aoR fun _ => ?_
      refine rZ ?_; rotate_left
      refine uG fun _ => ?_; try omega
      all_goals first
       | exact vX rfl rfl
       | (exfalso; contradiction)
       | (exfalso; omega)
    ·have hkl : k = (a.getD (i : Int).toNat default).length := by omega
     have he : (a.getD (i : Int).toNat default) = (b.getD (i : Int).toNat default) := by rwa [hkl, List.take_length, hlen, List.take_length] at hkt
     refine rZ ?_; refine aoR fun _ => ?_
     refine rZ ?_; refine cnd ?_ ?_
     refine uF fun _ => ?_; try omega
     refine uG fun _ => ?_; try omega
     refine rZ ?_; refine aoR fun _ => ?_
     refine rZ ?_; rotate_left
     all_goals first
      | exact uU (i + 1) ⟨by omega, eq_take_succT hlt (by omega) ht he⟩ (by omega) leP leP
      | (exfalso; omega)
   ·have e : decide (a = b) = false := decide_eq_false (jU (d := default) (i := (i : Int).toNat) fun h => hlen (by rw [h]))
    rw [e]
    refine rZ ?_; refine aoR fun _ => ?_
    refine rZ ?_; refine cnd ?_ ?_
    refine uF fun _ => ?_; try omega
    refine rZ ?_
    refine uJ (E := E) ?_ (fun _ => ?_); exact rfl
    refine rZ ?_; refine cnd ?_ ?_
    refine zT (fun _ => ?_); (try omega)
    refine rZ ?_; refine aoR fun _ => ?_
    refine rZ ?_; rotate_left
    refine aG (fun _ => ?_); (try omega)
    refine uG fun _ => ?_; try omega
    all_goals first | exact vX rfl rfl | (exfalso; omega)
  ·have hil : i = a.length := by omega
   subst hil
   have e : decide (a = b) = true := decide_eq_true (by rwa [List.take_length, h0, List.take_length] at ht)
   rw [e]
   refine rZ ?_; refine aoR fun _ => ?_
   refine rZ ?_; refine cnd ?_ ?_
   refine uF fun _ => ?_; try omega
   refine uG fun _ => ?_; try omega
   refine rZ ?_; refine aoR fun _ => ?_
   refine rZ ?_; rotate_left
   all_goals first | exact vX rfl rfl | (exfalso; omega)
 ·have e : decide (a = b) = false := decide_eq_false fun e => h0 (by rw [e])
  rw [e]
  refine rZ ?_; refine aoR fun _ => ?_
  refine rZ ?_; refine aoR fun _ => ?_
  refine rZ ?_; refine cnd ?_ ?_
  refine zT (fun _ => ?_); (try omega)
  refine rZ ?_; refine aoR fun _ => ?_
  refine rZ ?_; rotate_left
  refine aG (fun _ => ?_); (try omega)
  all_goals first | exact vX rfl rfl | (exfalso; omega)
end
set_option maxRecDepth 100000
section
open Go.RowKit Go.Lib
def pre (t : Ts) (i k : Nat) : List Stp := (t.take i).flatten ++ (t.getD i default).take k
theorem jK (t : Ts) : pre t 0 0 = [] := by simp [pre]
theorem mX (t : Ts) : pre t t.length 0 = t.flatten := by simp [pre]
theorem jL {i k : Nat} (h : k < (t.getD i default).length) : pre t i (k + 1) = pre t i k ++ [(t.getD i default).getD k default] := by
 unfold pre
 rw [vT _ default k h, List.append_assoc]
theorem jM {i : Nat} (h : i < t.length) : pre t (i + 1) 0 = pre t i (t.getD i default).length := by
 unfold pre
 rw [vT _ default i h]
 simp
theorem kC : ∀ (t : Ts), (∀ l ∈ t, l.length ≤ 16) → t.flatten.length ≤ 16 * t.length
 | [], _ => by simp
 | l :: t, h => by
  have := kC t fun x hx => h x (by simp [hx])
  have := h l (by simp)
  simp only [List.flatten_cons, List.length_append, List.length_cons]
  omega
theorem pre_rest {i : Nat} (h : i < t.length) (k : Nat) : ∃ r, t.flatten = pre t i k ++ r := by
 refine ⟨(t.getD i default).drop k ++ (t.drop (i + 1)).flatten, ?_⟩
 unfold pre
 have e1 : t = t.take i ++ t.getD i default :: t.drop (i + 1) := by
  rw [List.getD_eq_getElem?_getD, List.getElem?_eq_getElem h, Option.getD_some]
  rw [← List.drop_eq_getElem_cons h, List.take_append_drop]
 have e2 : t.flatten = (t.take i ++ t.getD i default :: t.drop (i + 1)).flatten := by rw [← e1]
 rw [e2, List.flatten_append, List.flatten_cons, List.append_assoc, ← List.append_assoc (List.take k _), List.take_append_drop]
theorem pre_len {i : Nat} (h : i < t.length) (k : Nat) (h16 : ∀ l ∈ t, l.length ≤ 16) (ht : t.length ≤ 4) : (pre t i k).length ≤ 64 := by
 obtain ⟨r, hr⟩ := pre_rest h k
 have := kC t h16
 rw [hr, List.length_append] at this
 omega
def rl (m : List Int) (n : Int) (s : Stp) : Int := if s.lds then mulC n (lfac m s) else n
theorem mV (m : List Int) : ∀ (l : List Stp) (n : Int), l.foldl (rl m) n = (lfacs m l).foldl mulC n
 | [], n => rfl
 | s :: l, n => by
  rw [List.foldl_cons, mV m l]
  cases hl : s.lds with
  | false =>
   rw [show lfacs m (s :: l) = lfacs m l by simp [lfacs, hl], show rl m n s = n by simp [rl, hl]]
  | true =>
   rw [show lfacs m (s :: l) = lfac m s :: lfacs m l by simp [lfacs, hl], show rl m n s = mulC n (lfac m s) by simp [rl, hl]]
   rfl
theorem oW {n f : Int} (h : 10000 < n) : mulC n f = n := if_neg (by omega)
theorem rl_big {n : Int} (h : 10000 < n) : rl m n s = n := by unfold rl; rw [oW h]; split <;> rfl
theorem pH : ∀ (l : List Int) {n : Int}, 10000 < n → l.foldl mulC n = n
 | [], n, _ => rfl
 | f :: l, n, h => by rw [List.foldl_cons, oW h]; exact pH l h
theorem lL (m : List Int) : ∀ (l : List Stp) {n : Int}, 10000 < n → l.foldl (rl m) n = n
 | [], n, _ => rfl
 | f :: l, n, h => by rw [List.foldl_cons, rl_big h]; exact lL m l h
theorem nE {n f : Int} (h0 : 0 ≤ n) (h1 : n ≤ 1000000) (g0 : 0 ≤ f) (g1 : f ≤ 100) : 0 ≤ mulC n f ∧ mulC n f ≤ 1000000 := by
 by_cases h : n ≤ 10000
 ·have e : mulC n f = n * f := if_pos h
  rw [e]
  refine ⟨Int.mul_nonneg h0 g0, ?_⟩
  have := Int.mul_le_mul h g1 g0 (by decide)
  omega
 ·have e : mulC n f = n := if_neg h
  rw [e]; exact ⟨h0, h1⟩
theorem gL : ∀ (l : List Int) {n : Int}, 0 ≤ n → n ≤ 1000000 → (∀ f ∈ l, 0 ≤ f ∧ f ≤ 100) → 0 ≤ l.foldl mulC n ∧ l.foldl mulC n ≤ 1000000
 | [], n, h0, h1, _ => ⟨h0, h1⟩
 | f :: l, n, h0, h1, h => by
  have g := h f (by simp)
  have := nE h0 h1 g.1 g.2
  exact gL l this.1 this.2 fun x hx => h x (by simp [hx])
def preV (m : List Int) (v : Nat) : List Int := ((List.range v).map fun u => upto (m.getD u 0).toNat).flatten
theorem bE (m : List Int) (v : Nat) : preV m (v + 1) = preV m v ++ upto (m.getD v 0).toNat := by
 unfold preV
 rw [List.range_succ]; simp
theorem preV_four (l : List Stp) : preV (cnts l) 4 = facL l := by
 unfold facL
 rw [bE, bE, bE, bE]
 simp [preV, cnts]
theorem lA (n : Nat) : upto (n + 1) = upto n ++ [(n : Int) + 1] := by
 unfold upto
 rw [List.range_succ]; simp
theorem jA {k : Nat} : ∀ {n : Nat}, k ≤ n → ∃ r, upto n = upto k ++ r
 | 0, h => ⟨[], by rw [show k = 0 by omega]; simp⟩
 | n + 1, h => by
  by_cases e : k = n + 1
  ·exact ⟨[], by rw [e]; simp⟩
  ·obtain ⟨r, hr⟩ := jA (k := k) (n := n) (by omega)
   exact ⟨r ++ [(n : Int) + 1], by rw [lA, hr, List.append_assoc]⟩
theorem rC {n : Nat} (h : n ≤ 64) : ∀ f ∈ upto n, 0 ≤ f ∧ f ≤ 100 := fun f hf => by
 obtain ⟨i, hi, rfl⟩ := List.mem_map.1 hf
 have := List.mem_range.1 hi
 omega
theorem preV_bd (h : ∀ i, 0 ≤ m.getD i 0 ∧ m.getD i 0 ≤ ((64 : Nat) : Int)) (v : Nat) : ∀ f ∈ preV m v, 0 ≤ f ∧ f ≤ 100 := fun f hf => by
 unfold preV at hf
 obtain ⟨x, hx, hf⟩ := List.mem_flatten.1 hf
 obtain ⟨u, _, rfl⟩ := List.mem_map.1 hx
 exact rC (by have := h u; omega) f hf
theorem lfacs_bd (h : ∀ i, 0 ≤ m.getD i 0 ∧ m.getD i 0 ≤ ((64 : Nat) : Int)) (l : List Stp) : ∀ f ∈ lfacs m l, 0 ≤ f ∧ f ≤ 100 := fun f hf => by
 obtain ⟨s, _, rfl⟩ := List.mem_map.1 hf
 have := h s.var.toNat
 unfold lfac
 split <;> omega
def wn (m : List Int) (v k : Nat) : Int := (preV m v ++ upto k).foldl mulC 1
theorem wn_succ (m : List Int) (v k : Nat) : wn m v (k + 1) = mulC (wn m v k) ((k : Int) + 1) := by
 unfold wn
 rw [lA, ← List.append_assoc, List.foldl_append]; rfl
theorem wn_next {v k : Nat} (h : k ≤ (m.getD v 0).toNat) (hk : k = (m.getD v 0).toNat ∨ 10000 < wn m v k) : wn m (v + 1) 0 = wn m v k := by
 obtain ⟨r, hr⟩ := jA h
 have e : wn m (v + 1) 0 = r.foldl mulC (wn m v k) := by
  unfold wn
  rw [bE, hr, ← List.append_assoc, ← List.foldl_append]
  simp [upto]
 rw [e]
 rcases hk with hk | hk
 ·have : r = [] := by
   have h2 := congrArg List.length hr
   rw [← hk] at h2
   simp [upto] at h2
   exact h2
  rw [this]; rfl
 ·exact pH r hk
theorem uAO (h : ∀ i, 0 ≤ m.getD i 0 ∧ m.getD i 0 ≤ ((64 : Nat) : Int)) {v k : Nat} (hk : k ≤ 64) : 0 ≤ wn m v k ∧ wn m v k ≤ 1000000 := by
 refine gL _ (by decide) (by decide) fun f hf => ?_
 rcases List.mem_append.1 hf with hf | hf
 ·exact preV_bd h v f hf
 ·exact rC hk f hf
def rn (m : List Int) (n : Int) (l : List Stp) : Int := l.foldl (rl m) n
theorem uAT (h : ∀ i, 0 ≤ m.getD i 0 ∧ m.getD i 0 ≤ ((64 : Nat) : Int)) {n : Int} (h0 : 0 ≤ n) (h1 : n ≤ 1000000) (l : List Stp) : 0 ≤ rn m n l ∧ rn m n l ≤ 1000000 := by
 unfold rn
 rw [mV]
 exact gL _ h0 h1 (lfacs_bd h l)
theorem rn_rest {n : Int} {i k : Nat} (hi : i < t.length) (hk : k ≤ (t.getD i default).length) (hb : k = (t.getD i default).length ∨ 10000 < rn m n (pre t i k)) : rn m n (pre t (i + 1) 0) = rn m n (pre t i k) := by
 rw [jM hi]
 rcases hb with hb | hb
 ·rw [hb]
 ·have e : pre t i (t.getD i default).length = pre t i k ++ (t.getD i default).drop k := by
   unfold pre
   rw [List.append_assoc, List.take_append_drop, List.take_length]
  unfold rn at hb ⊢
  rw [e, List.foldl_append, lL m _ hb]
theorem waysT_rn (hr : ∀ s ∈ t.flatten, s.right = true) (hm : m = (sAll t.flatten).1) : capI (rn m (wn m 4 0) t.flatten) = waysT t := by
 rw [← refWays_eq t hr]
 have e : m = cnts t.flatten := by rw [hm, rI _ hr]
 unfold refWays rn wn
 rw [mV, e, preV_four]
 simp [upto]
set_option maxHeartbeats 4000000 in
theorem rWays_p (t : Ts) (ht : t.length ≤ 4) (h16 : ∀ l ∈ t, l.length ≤ 16) (hr : ∀ l ∈ t, ∀ s ∈ l, s.right = true) : Pure E.P 52 [testOV t] (.int .i64 (waysT t)) := by
 have f1 : Frozen 1 := ⟨trivial⟩
 have hrf : ∀ s ∈ t.flatten, s.right = true := fun s hs => by obtain ⟨l, hl, hs⟩ := List.mem_flatten.1 hs; exact hr l hl s hs
 have hS : ∀ l : List Stp, l.length ≤ 64 → (sAll l).1.length = 4 ∧ ∀ i, 0 ≤ (sAll l).1.getD i 0 ∧ (sAll l).1.getD i 0 ≤ ((64 : Nat) : Int) := fun l hl => by
  obtain ⟨h1, h2, _, _⟩ := SOk.all l 0 ([0, 0, 0, 0], 1) ⟨rfl, fun i => by rcases i with _ | _ | _ | _ | i <;> simp, by decide, by decide⟩ (by omega)
  exact ⟨h1, fun i => ⟨(h2 i).1, Int.le_trans (h2 i).2 (by omega)⟩⟩
 refine fnA Tryz.func52 Tryz.ntmps52 ?_
 refine rZ ?_; refine aoR fun _ => ?_
 refine rZ ?_; refine aoR fun _ => ?_
 refine rZ ?_; refine aoR fun _ => ?_
 refine rZ ?_; rotate_left
 rename_i v0 v1
 refine vB (X := Nat) (fun i => tmL [(1, .d (.pt [.sl 1 (t.map catRowT)] 0)), (3, .lo 3 (v0, 0) 4 0 0), (4, .int .i64 i)]) (fun i => stL [(3, ((v0, 0), ⟨4, [manyO (sAll (pre t i 0)).1]⟩))]) (fun i => i ≤ t.length) (fun i => t.length - i) 0 (Nat.zero_le _) leP (by rw [jK]; exact leP) ?_
 intro i hi
 by_cases hlt : i < t.length
 ·have hmem : t.getD (i : Int).toNat default ∈ t := xI (k := (i : Int).toNat) (by simpa using hlt)
  have hl16 := h16 _ hmem
  have eN : ∀ k, pre t i k = (t.take i).flatten ++ (t.getD (i : Int).toNat default).take k := fun k => rfl
  refine rZ ?_; refine aoR fun _ => ?_
  refine rZ ?_; refine cnd ?_ ?_
  refine uF fun _ => ?_; try omega
  refine rZ ?_; refine aoR fun _ => ?_
  refine rZ ?_; rotate_left
  refine uG fun _ => ?_; try omega
  refine vB (X := Nat) (fun k => tmL [(1, .d (.pt [.sl 1 (t.map catRowT)] 0)), (3, .lo 3 (v0, 0) 4 0 0), (4, .int .i64 i), (5, .int .i64 k)]) (fun k => stL [(3, ((v0, 0), ⟨4, [manyO (sAll (pre t i k)).1]⟩))]) (fun k => k ≤ (t.getD (i : Int).toNat default).length) (fun k => (t.getD (i : Int).toNat default).length - k) 0 (Nat.zero_le _) leP leP ?_
  intro k hk
  by_cases hlk : k < (t.getD (i : Int).toNat default).length
  ·have hs := hr _ hmem _ (xI (l := t.getD (i : Int).toNat default) (d := default) (k := (k : Int).toNat) (by simpa using hlk))
   have hv := cT hs
   have c := cC ((t.getD (i : Int).toNat default).getD (k : Int).toNat default)
   have hst : sAll (pre t i (k + 1)) = sStep (sAll (pre t i k)) ((t.getD (i : Int).toNat default).getD (k : Int).toNat default) := by
    rw [jL (by simpa using hlk)]; unfold sAll; rw [List.foldl_append]; rfl
   obtain ⟨g1, g2⟩ := hS _ (pre_len hlt k h16 ht)
   obtain ⟨p, hp⟩ : ∃ p, p = sAll (pre t i k) := ⟨_, rfl⟩
   rw [← hp] at hst g1 g2 ⊢
   cases hb : ((t.getD (i : Int).toNat default).getD (k : Int).toNat default).sts with
   | false =>
    rw [hb] at c
    have e : sStep p ((t.getD (i : Int).toNat default).getD (k : Int).toNat default) = p := by unfold sStep; rw [hb]; rfl
    rw [e] at hst
    refine rZ ?_; refine aoR fun _ => ?_
    refine rZ ?_; refine cnd ?_ ?_
    refine uF fun _ => ?_; try omega
    refine rZ ?_; refine aoR fun _ => ?_
    refine rZ ?_
    apply uE; exact rfl; exact .fn _ _ _; exact rfl; exact c
    refine rZ ?_; refine cnd ?_ ?_
    exact vN
    refine uV ?_; refine rZ ?_; refine aoR fun _ => ?_
    refine rZ ?_; rotate_left
    refine uG fun _ => ?_; try omega
    refine uU (k + 1) (by omega) (by omega) leP (by rw [hst]; exact leP)
   | true =>
    rw [hb] at c
    have e : (sStep p ((t.getD (i : Int).toNat default).getD (k : Int).toNat default)).1 = p.1.set ((t.getD (i : Int).toNat default).getD (k : Int).toNat default).var.toNat (p.1.getD ((t.getD (i : Int).toNat default).getD (k : Int).toNat default).var.toNat 0 + 1) := by unfold sStep; rw [hb]; rfl
    have g3 := g2 ((t.getD (i : Int).toNat default).getD (k : Int).toNat default).var.toNat
    refine rZ ?_; refine aoR fun _ => ?_
    refine rZ ?_; refine cnd ?_ ?_
    refine uF fun _ => ?_; try omega
    refine rZ ?_; refine aoR fun _ => ?_
    refine rZ ?_
    apply uE; exact rfl; exact .fn _ _ _; exact rfl; exact c
    refine rZ ?_; refine cnd ?_ ?_; refine uH ?_; refine aoR fun _ => ?_
    refine rZ ?_
    apply wD; exact rfl; exact rfl; exact rfl; exact rfl; exact rfl; (rw [show te3.size = 1 from rfl, Nat.mul_one, Nat.zero_add]; exact uW (f := oneO) (by omega) 0)
    refine rZ ?_
    apply dQ; exact rfl; exact rfl; exact rfl; exact rfl; exact rfl; exact rfl; exact rfl; (show _ + _ * 1 + 1 ≤ List.length (List.map oneO _); (rw [List.length_map]; omega))
    refine rZ ?_; refine aoR fun _ => ?_
    refine rZ ?_; rotate_left
    exact uI
    refine uG fun _ => ?_; try omega
    refine uU (k + 1) (by omega) (by omega) leP ?_
    rw [hst, e]
    refine uP rfl ?_ (uS _)
    show [setAt (p.1.map oneO) (0 + ((t.getD (i : Int).toNat default).getD (k : Int).toNat default).var.toNat * 1) [oneO _]] = [manyO _]
    rw [Nat.mul_one, Nat.zero_add, lI _ _ _ _ (by omega)]; rfl
  ·have hkl : k = (t.getD (i : Int).toNat default).length := by omega
   have e1 := jM hlt
   refine rZ ?_; refine aoR fun _ => ?_
   refine rZ ?_; refine cnd ?_ ?_
   refine uF fun _ => ?_; try omega
   refine uG fun _ => ?_; try omega
   refine rZ ?_; refine aoR fun _ => ?_
   refine rZ ?_; rotate_left
   refine uU (i + 1) (by omega) (by omega) leP (by rw [e1, hkl]; exact leP)
 ·have hil : i = t.length := by omega
  subst hil
  rw [mX]
  obtain ⟨m, hm⟩ : ∃ m, m = (sAll t.flatten).1 := ⟨_, rfl⟩
  have hfl := kC t h16
  obtain ⟨g1, g2⟩ := hS t.flatten (by omega)
  have hW := waysT_rn hrf hm
  rw [← hm] at g1 g2 ⊢
  refine rZ ?_; refine aoR fun _ => ?_
  refine rZ ?_; refine cnd ?_ ?_
  refine uF fun _ => ?_; try omega
  refine uG fun _ => ?_; try omega
  refine rZ ?_; refine aoR fun _ => ?_
  refine rZ ?_; refine aoR fun _ => ?_
  refine rZ ?_; rotate_left
  refine vB (X := Nat) (fun v => tmL [(1, .d (.pt [.sl 1 (t.map catRowT)] 0)), (3, .lo 3 (v0, 0) 4 0 0), (6, .int .i64 (wn m v 0)), (7, .int .i64 v)]) (fun v => stL [(3, ((v0, 0), ⟨4, [manyO m]⟩))]) (fun v => v ≤ 4) (fun v => 4 - v) 0 (Nat.zero_le _) leP leP ?_
  intro v hv
  by_cases hv4 : v < 4
  ·have gv := g2 v
   refine rZ ?_; refine aoR fun _ => ?_
   refine rZ ?_; refine cnd ?_ ?_
   refine uF fun _ => ?_; try omega
   refine rZ ?_; refine aoR fun _ => ?_
   refine rZ ?_; rotate_left
   refine uG fun _ => ?_; try omega
   refine vB (X := Nat) (fun k => tmL [(1, .d (.pt [.sl 1 (t.map catRowT)] 0)), (3, .lo 3 (v0, 0) 4 0 0), (6, .int .i64 (wn m v k)), (7, .int .i64 v), (8, .int .i64 ((k : Int) + 1))]) (fun k => stL [(3, ((v0, 0), ⟨4, [manyO m]⟩))]) (fun k => k ≤ (m.getD (v : Int).toNat 0).toNat) (fun k => (m.getD (v : Int).toNat 0).toNat - k) 0 (Nat.zero_le _) leP leP ?_
   intro k hk
   obtain ⟨b0, b1⟩ := uAO g2 (v := v) (k := k) (by rw [Int.toNat_natCast] at hk; omega)
   have es := wn_succ m v k
   have en := wn_next (m := m) (v := v) (k := k) (by rw [Int.toNat_natCast] at hk; exact hk)
   have gv' := g2 (v : Int).toNat
   obtain ⟨n, hn⟩ : ∃ n, n = wn m v k := ⟨_, rfl⟩
   rw [← hn] at b0 b1 es en ⊢
   by_cases h1 : (k : Int) + 1 ≤ m.getD (v : Int).toNat 0
   ·by_cases h2 : n ≤ 10000
    ·have hmu : 0 ≤ n * ((k : Int) + 1) ∧ n * ((k : Int) + 1) ≤ 1000000 := by
      have := nE b0 b1 (show 0 ≤ (k : Int) + 1 by omega) (by omega)
      rwa [show mulC n ((k : Int) + 1) = n * ((k : Int) + 1) from if_pos h2] at this
     rw [show mulC n ((k : Int) + 1) = n * ((k : Int) + 1) from if_pos h2] at es
     refine rZ ?_; refine aoR fun _ => ?_
     refine rZ ?_
     apply wD; exact rfl; exact rfl; exact rfl; exact rfl; exact rfl; (rw [show te3.size = 1 from rfl, Nat.mul_one, Nat.zero_add]; exact uW (f := oneO) (by omega) 0)
     refine rZ ?_; refine cnd ?_ ?_; refine wT ?_
     iterate 2 refine uF fun _ => ?_; try omega
     refine rZ ?_; refine aoR fun _ => ?_
     refine rZ ?_; refine aoR fun _ => ?_
     refine rZ ?_; rotate_left
     refine wU (fun hc_ => ?_); (try simp only [nrm] at hc_)
     refine rZ ?_; refine aoR fun _ => ?_
     refine rZ ?_; rotate_left
     all_goals first | exact uU (k + 1) (by omega) (by omega) (by rw [es]; exact leP) leP | (exfalso; omega)
    ·refine rZ ?_
     refine aoR fun _ => ?_; refine rZ ?_
     apply wD; exact rfl; exact rfl; exact rfl; exact rfl; exact rfl; (rw [show te3.size = 1 from rfl, Nat.mul_one, Nat.zero_add]; exact uW (f := oneO) (by omega) 0)
     refine rZ ?_; refine cnd ?_ ?_; refine wT ?_
     iterate 2 refine uF fun _ => ?_; try omega
     refine wU (fun hc_ => ?_); (try simp only [nrm] at hc_)
     refine rZ ?_; refine aoR fun _ => ?_
     refine rZ ?_; rotate_left
     all_goals first | exact uU (v + 1) (by omega) (by omega) (by rw [en (Or.inr (by omega))]; exact leP) leP | (exfalso; omega)
   ·have ek : k = (m.getD v 0).toNat := by rw [Int.toNat_natCast] at hk h1; omega
    refine rZ ?_; refine aoR fun _ => ?_
    refine rZ ?_
    apply wD; exact rfl; exact rfl; exact rfl; exact rfl; exact rfl; (rw [show te3.size = 1 from rfl, Nat.mul_one, Nat.zero_add]; exact uW (f := oneO) (by omega) 0)
    refine rZ ?_; refine cnd ?_ ?_; refine wT ?_
    refine uF fun _ => ?_; try omega
    refine wU (fun hc_ => ?_); (try simp only [nrm] at hc_)
    refine rZ ?_; refine aoR fun _ => ?_
    refine rZ ?_; rotate_left
    all_goals first | exact uU (v + 1) (by omega) (by omega) (by rw [en (Or.inl ek)]; exact leP) leP | (exfalso; omega)
  ·have h44 : v = 4 := by omega
   subst h44
   obtain ⟨N, hN⟩ : ∃ N, N = wn m 4 0 := ⟨_, rfl⟩
   have hb := uAO g2 (v := 4) (k := 0) (by omega)
   rw [← hN] at hW hb ⊢
   refine rZ ?_; refine aoR fun _ => ?_
   refine rZ ?_; refine cnd ?_ ?_
   refine uF fun _ => ?_; try omega
   refine uG fun _ => ?_; try omega
   refine rZ ?_; refine aoR fun _ => ?_
   refine rZ ?_; rotate_left
   clear hv4 hv
   refine vB (X := Nat) (fun i => tmL [(1, .d (.pt [.sl 1 (t.map catRowT)] 0)), (3, .lo 3 (v0, 0) 4 0 0), (6, .int .i64 (rn m N (pre t i 0))), (9, .int .i64 i)]) (fun _ => stL [(3, ((v0, 0), ⟨4, [manyO m]⟩))]) (fun i => i ≤ t.length) (fun i => t.length - i) 0 (Nat.zero_le _) (by rw [jK]; exact leP) leP ?_
   intro i hi
   by_cases hlt : i < t.length
   ·have hmem : t.getD (i : Int).toNat default ∈ t := xI (k := (i : Int).toNat) (by simpa using hlt)
    have hl16 := h16 _ hmem
    refine rZ ?_; refine aoR fun _ => ?_
    refine rZ ?_; refine cnd ?_ ?_
    refine uF fun _ => ?_; try omega
    refine rZ ?_; refine aoR fun _ => ?_
    refine rZ ?_; rotate_left
    refine uG fun _ => ?_; try omega
    refine vB (X := Nat) (fun k => tmL [(1, .d (.pt [.sl 1 (t.map catRowT)] 0)), (3, .lo 3 (v0, 0) 4 0 0), (6, .int .i64 (rn m N (pre t i k))), (9, .int .i64 i), (10, .int .i64 k)]) (fun _ => stL [(3, ((v0, 0), ⟨4, [manyO m]⟩))]) (fun k => k ≤ (t.getD (i : Int).toNat default).length) (fun k => (t.getD (i : Int).toNat default).length - k) 0 (Nat.zero_le _) leP leP ?_
    intro k hk
    obtain ⟨b0, b1⟩ := uAT g2 hb.1 hb.2 (pre t i k)
    have er := rn_rest (m := m) (n := N) hlt hk
    by_cases hlk : k < (t.getD (i : Int).toNat default).length
    ·have hs := hr _ hmem _ (xI (l := t.getD (i : Int).toNat default) (d := default) (k := (k : Int).toNat) (by simpa using hlk))
     have hv := cT hs
     have c2 := cC ((t.getD (i : Int).toNat default).getD (k : Int).toNat default)
     have c3 := eB ((t.getD (i : Int).toNat default).getD (k : Int).toNat default)
     have g3 := g2 ((t.getD (i : Int).toNat default).getD (k : Int).toNat default).var.toNat
     have hst : rn m N (pre t i (k + 1)) = rl m (rn m N (pre t i k)) ((t.getD (i : Int).toNat default).getD (k : Int).toNat default) := by
      rw [jL (by simpa using hlk)]; unfold rn; rw [List.foldl_append]; rfl
     obtain ⟨n, hn⟩ : ∃ n, n = rn m N (pre t i k) := ⟨_, rfl⟩
     rw [← hn] at hst b0 b1 er ⊢
     by_cases h2 : n ≤ 10000
     ·have hmu : ∀ f : Int, 0 ≤ f → f ≤ 100 → 0 ≤ n * f ∧ n * f ≤ 1000000 := fun f h0 h1 => by
       have := nE b0 b1 h0 h1
       rwa [show mulC n f = n * f from if_pos h2] at this
      have hm0 := hmu (m.getD ((t.getD (i : Int).toNat default).getD (k : Int).toNat default).var.toNat 0) (by omega) (by omega)
      have hm1 := hmu (m.getD ((t.getD (i : Int).toNat default).getD (k : Int).toNat default).var.toNat 0 + 1) (by omega) (by omega)
      unfold rl mulC lfac at hst
      simp only [if_pos h2] at hst
      cases hl1 : ((t.getD (i : Int).toNat default).getD (k : Int).toNat default).lds with
      | false =>
       rw [hl1] at c3 hst
       simp only [Bool.false_eq_true, if_false, if_true] at hst
       refine rZ ?_; refine aoR fun _ => ?_
       refine rZ ?_; refine cnd ?_ ?_; refine wT ?_
       iterate 2 refine uF fun _ => ?_; try omega
       refine rZ ?_; refine aoR fun _ => ?_
       refine rZ ?_; refine aoR fun _ => ?_
       refine rZ ?_
       apply uE; exact rfl; exact .fn _ _ _; exact rfl; exact c3
       refine rZ ?_; refine cnd ?_ ?_
       exact vN
       refine uV ?_; refine rZ ?_; refine aoR fun _ => ?_
       refine rZ ?_
       apply uE; exact rfl; exact .fn _ _ _; exact rfl; exact c3
       refine rZ ?_; refine cnd ?_ ?_
       exact vN
       refine uV ?_; refine rZ ?_; refine aoR fun _ => ?_
       refine rZ ?_; rotate_left
       refine wU (fun hc_ => ?_); (try simp only [nrm] at hc_)
       refine rZ ?_; refine aoR fun _ => ?_
       refine rZ ?_; rotate_left
       all_goals first | exact (rF ‹_›).elim | exact uU (k + 1) (by omega) (by omega) (by rw [hst]; exact leP) leP | (exfalso; omega)
      | true =>
       rw [hl1] at c3 hst
       simp only [Bool.false_eq_true, if_false, if_true] at hst
       cases hs1 : ((t.getD (i : Int).toNat default).getD (k : Int).toNat default).sts with
       | true =>
        rw [hs1] at c2 hst
        simp only [Bool.false_eq_true, if_false, if_true] at hst
        refine rZ ?_; refine aoR fun _ => ?_
        refine rZ ?_; refine cnd ?_ ?_; refine wT ?_
        iterate 2 refine uF fun _ => ?_; try omega
        refine rZ ?_; refine aoR fun _ => ?_
        refine rZ ?_; refine aoR fun _ => ?_
        refine rZ ?_
        apply uE; exact rfl; exact .fn _ _ _; exact rfl; exact c3
        refine rZ ?_
        apply spT; exact rfl
        intro hc_
        have hp_ := hc_; try simp only [nrm] at hp_
        apply uZ; exact evm; exact .fn _ _ _; exact wP; exact c2
        refine rZ ?_; refine cnd ?_ ?_; refine wT ?_
        iterate 2 refine uH ?_
        refine aoR fun _ => ?_; refine rZ ?_
        apply wD; exact rfl; exact rfl; exact rfl; exact rfl; exact rfl; (rw [show te3.size = 1 from rfl, Nat.mul_one, Nat.zero_add]; exact uW (f := oneO) (by omega) 0)
        refine rZ ?_; refine aoR fun _ => ?_
        refine rZ ?_; rotate_left
        refine wU (fun hc_ => ?_); (try simp only [nrm] at hc_)
        refine rZ ?_; refine aoR fun _ => ?_
        refine rZ ?_
        apply uE; exact rfl; exact .fn _ _ _; exact rfl; exact c3
        refine rZ ?_; refine cnd ?_ ?_; refine uH ?_; refine aoR fun _ => ?_
        refine rZ ?_
        apply wD; exact rfl; exact rfl; exact rfl; exact rfl; exact rfl; (rw [show te3.size = 1 from rfl, Nat.mul_one, Nat.zero_add]; exact uW (f := oneO) (by omega) 0)
        refine rZ ?_; refine aoR fun _ => ?_
        refine rZ ?_; rotate_left
        exact uI
        refine wU (fun hc_ => ?_); (try simp only [nrm] at hc_)
        refine rZ ?_; refine aoR fun _ => ?_
        refine rZ ?_; rotate_left
        all_goals first | exact (rF ‹_›).elim | exact uU (k + 1) (by omega) (by omega) (by rw [hst]; exact leP) leP | (exfalso; omega)
       | false =>
        rw [hs1] at c2 hst
        simp only [Bool.false_eq_true, if_false, if_true] at hst
        refine rZ ?_; refine aoR fun _ => ?_
        refine rZ ?_; refine cnd ?_ ?_; refine wT ?_
        iterate 2 refine uF fun _ => ?_; try omega
        refine rZ ?_; refine aoR fun _ => ?_
        refine rZ ?_; refine aoR fun _ => ?_
        refine rZ ?_
        apply uE; exact rfl; exact .fn _ _ _; exact rfl; exact c3
        refine rZ ?_
        apply spT; exact rfl
        intro hc_
        have hp_ := hc_; try simp only [nrm] at hp_
        apply uZ; exact evm; exact .fn _ _ _; exact wP; exact c2
        refine rZ ?_; refine cnd ?_ ?_; refine wT ?_; refine uH ?_
        exact vN
        refine wU (fun hc_ => ?_); (try simp only [nrm] at hc_)
        refine rZ ?_; refine aoR fun _ => ?_
        refine rZ ?_
        apply uE; exact rfl; exact .fn _ _ _; exact rfl; exact c3
        refine rZ ?_; refine cnd ?_ ?_; refine uH ?_; refine aoR fun _ => ?_
        refine rZ ?_
        apply wD; exact rfl; exact rfl; exact rfl; exact rfl; exact rfl; (rw [show te3.size = 1 from rfl, Nat.mul_one, Nat.zero_add]; exact uW (f := oneO) (by omega) 0)
        refine rZ ?_; refine aoR fun _ => ?_
        refine rZ ?_; rotate_left
        exact uI
        refine wU (fun hc_ => ?_); (try simp only [nrm] at hc_)
        refine rZ ?_; refine aoR fun _ => ?_
        refine rZ ?_; rotate_left
        all_goals first | exact (rF ‹_›).elim | exact uU (k + 1) (by omega) (by omega) (by rw [hst]; exact leP) leP | (exfalso; omega)
     ·refine rZ ?_
      refine aoR fun _ => ?_; refine rZ ?_
      refine cnd ?_ ?_; refine wT ?_
      iterate 2 refine uF fun _ => ?_; try omega
      refine wU (fun hc_ => ?_); (try simp only [nrm] at hc_)
      refine rZ ?_; refine aoR fun _ => ?_
      refine rZ ?_; rotate_left
      all_goals first | exact uU (i + 1) (by omega) (by omega) (by rw [er (Or.inr (by omega))]; exact leP) leP | (exfalso; omega)
    ·have ekl : k = (t.getD i default).length := by rw [Int.toNat_natCast] at hk hlk; omega
     refine rZ ?_; refine aoR fun _ => ?_
     refine rZ ?_; refine cnd ?_ ?_; refine wT ?_
     refine uF fun _ => ?_; try omega
     refine wU (fun hc_ => ?_); (try simp only [nrm] at hc_)
     refine rZ ?_; refine aoR fun _ => ?_
     refine rZ ?_; rotate_left
     all_goals first | exact uU (i + 1) (by omega) (by omega) (by rw [er (Or.inl ekl)]; exact leP) leP | (exfalso; omega)
   ·have hil : i = t.length := by omega
    subst hil
    rw [mX]
    have b := uAT g2 hb.1 hb.2 t.flatten
    obtain ⟨n, hn⟩ : ∃ n, n = rn m N t.flatten := ⟨_, rfl⟩
    rw [← hn] at hW b ⊢
    refine rZ ?_; refine aoR fun _ => ?_
    refine rZ ?_; refine cnd ?_ ?_
    refine uF fun _ => ?_; try omega
    refine uG fun _ => ?_; try omega
    refine rZ ?_; refine aoR fun _ => ?_
    refine rZ ?_; rotate_left
    exact wL rfl hW
end
set_option maxRecDepth 100000
section
open Go.RowKit Go.Lib
theorem pre_acc {i k : Nat} (h : k < (t.getD i default).length) : accs (pre t i (k + 1)) = accs (pre t i k) + (if ((t.getD i default).getD k default).acc then 1 else 0) := by
 rw [jL h, cM, pZ]
theorem pT (h0 : ¬ (t.length < 1 ∨ 4 < t.length)) {i : Nat} (hi : i < t.length) (h : threadOk (t.getD i default) = false) : checkT t = 2 := by
 have hno : t.all threadOk = false := by
  rw [List.all_eq_false]
  exact ⟨t.getD i default, xI hi, by rw [h]; decide⟩
 unfold checkT
 rw [if_neg h0, if_pos hno]
set_option maxHeartbeats 4000000 in
theorem oR (t : Ts) : Pure E.P 22 [testOV t] (.int .i64 (checkT t)) := by
 have f1 : Frozen 1 := ⟨trivial⟩
 have cw := yN t.length 1 4
 refine fnA Tryz.func22 Tryz.ntmps22 ?_
 by_cases h0 : t.length < 1 ∨ 4 < t.length
 ·have e : checkT t = 2 := by unfold checkT; rw [if_pos h0]
  have ew : inR t.length 1 4 = false := by
   unfold inR
   rcases h0 with h | h
   ·rw [decide_eq_false (by omega : ¬ (1 : Int) ≤ t.length)]; rfl
   ·rw [decide_eq_false (by omega : ¬ (t.length : Int) ≤ 4)]; simp
  rw [ew] at cw
  rw [e]
  refine rZ ?_; refine aoR fun _ => ?_
  refine rZ ?_; refine aoR fun _ => ?_
  refine rZ ?_
  apply uE; exact rfl; exact .fn _ _ _; exact rfl; exact cw
  refine rZ ?_; refine cnd ?_ ?_; refine zU ?_; refine uV ?_; refine rZ ?_; refine aoR fun _ => ?_
  refine rZ ?_; rotate_left
  refine yS ?_
  exact vN
  all_goals exact wL rfl rfl
 ·have hn1 : 1 ≤ t.length := by omega
  have hn4 : t.length ≤ 4 := by omega
  have ew : inR t.length 1 4 = true := by
   unfold inR
   rw [decide_eq_true (by omega : (1 : Int) ≤ t.length), decide_eq_true (by omega : (t.length : Int) ≤ 4)]; rfl
  rw [ew] at cw
  refine rZ ?_; refine aoR fun _ => ?_
  refine rZ ?_; refine aoR fun _ => ?_
  refine rZ ?_
  apply uE; exact rfl; exact .fn _ _ _; exact rfl; exact cw
  refine rZ ?_; refine cnd ?_ ?_; refine zU ?_
  exact uI
  refine yS ?_; refine uH ?_; refine rZ ?_; refine aoR fun _ => ?_
  refine rZ ?_; refine aoR fun _ => ?_
  refine rZ ?_; rotate_left
  refine vB (X := Nat) (fun i => tmL [(1, .d (.pt [.sl 1 (t.map catRowT)] 0)), (3, .int .i64 (accs (pre t i 0))), (4, .int .i64 i)]) (fun _ => stL []) (fun i => i ≤ t.length ∧ (t.take i).all threadOk = true) (fun i => t.length - i) 0 ⟨Nat.zero_le _, rfl⟩ (by rw [jK]; exact leP) leP ?_
  rintro i ⟨hi, hok⟩
  have hfl : i < 4 → (t.take i).flatten.length ≤ 48 := fun h4 => by
   have := cD (t.take i) 16 fun x hx => by
    have h := List.all_eq_true.1 hok x hx
    unfold threadOk at h
    simp only [Bool.and_eq_true, decide_eq_true_eq] at h
    exact h.1
   rw [List.length_take] at this; omega
  by_cases hlt : i < t.length
  ·by_cases h16 : 16 < (t.getD (i : Int).toNat default).length
   ·rw [pT h0 hlt (by unfold threadOk; rw [decide_eq_false (by rw [Int.toNat_natCast] at h16; omega)]; rfl)]
    refine rZ ?_; refine aoR fun _ => ?_
    refine rZ ?_; refine cnd ?_ ?_
    refine uF fun _ => ?_; try omega
    refine rZ ?_; refine aoR fun _ => ?_
    refine rZ ?_; refine cnd ?_ ?_
    refine uF fun _ => ?_; try omega
    refine rZ ?_; refine aoR fun _ => ?_
    refine rZ ?_; rotate_left
    iterate 2 refine uG fun _ => ?_; try omega
    all_goals first | exact wL rfl rfl | (exfalso; omega)
   ·refine rZ ?_
    refine aoR fun _ => ?_; refine rZ ?_
    refine cnd ?_ ?_
    refine uF fun _ => ?_; try omega
    refine rZ ?_; refine aoR fun _ => ?_
    refine rZ ?_; refine cnd ?_ ?_
    refine uF fun _ => ?_; try omega
    refine uG fun _ => ?_; try omega
    refine rZ ?_; refine aoR fun _ => ?_
    refine rZ ?_; rotate_left
    refine uG fun _ => ?_; try omega
    all_goals try omega
    refine vB (X := Nat) (fun k => tmL [(1, .d (.pt [.sl 1 (t.map catRowT)] 0)), (3, .int .i64 (accs (pre t i k))), (4, .int .i64 i), (5, .int .i64 k)]) (fun _ => stL []) (fun k => k ≤ (t.getD (i : Int).toNat default).length ∧ ((t.getD (i : Int).toNat default).take k).all Stp.right = true) (fun k => (t.getD (i : Int).toNat default).length - k) 0 ⟨Nat.zero_le _, rfl⟩ leP leP ?_
    rintro k ⟨hk, hkr⟩
    have hka := nV (pre t i k)
    have hpl : (pre t i k).length ≤ 64 := by
     unfold pre
     rw [List.length_append, List.length_take]
     rw [Int.toNat_natCast] at h16
     omega
    by_cases hlk : k < (t.getD (i : Int).toNat default).length
    ·have c1 := oQ ((t.getD (i : Int).toNat default).getD (k : Int).toNat default)
     have c2 := lO ((t.getD (i : Int).toNat default).getD (k : Int).toNat default)
     have hac := pre_acc (t := t) (i := i) (k := k) (by simpa using hlk)
     have hsk := vT (t.getD (i : Int).toNat default) default k hlk
     change _ = _ + (if ((t.getD (i : Int).toNat default).getD (k : Int).toNat default).acc then 1 else 0) at hac
     change _ = _ ++ [(t.getD (i : Int).toNat default).getD (k : Int).toNat default] at hsk
     cases hsr : ((t.getD (i : Int).toNat default).getD (k : Int).toNat default).right with
     | false =>
      rw [hsr] at c1
      rw [pT h0 hlt (by
       unfold threadOk
       rw [show (t.getD i default).all Stp.right = false from List.all_eq_false.2 ⟨(t.getD (i : Int).toNat default).getD (k : Int).toNat default, xI hlk, by rw [hsr]; decide⟩]; simp)]
      refine rZ ?_; refine aoR fun _ => ?_
      refine rZ ?_; refine cnd ?_ ?_
      refine uF fun _ => ?_; try omega
      refine rZ ?_; refine aoR fun _ => ?_
      refine rZ ?_
      apply uE; exact rfl; exact .fn _ _ _; exact rfl; exact c1
      refine rZ ?_; refine cnd ?_ ?_; refine zU ?_; refine uV ?_; refine rZ ?_; refine aoR fun _ => ?_
      refine rZ ?_; rotate_left
      refine yS ?_
      exact vN
      refine uG fun _ => ?_; try omega
      all_goals exact wL rfl rfl
     | true =>
      rw [hsr] at c1
      have hkr1 : ((t.getD (i : Int).toNat default).take (k + 1)).all Stp.right = true := by
       rw [hsk, List.all_append, hkr, List.all_cons, hsr]; rfl
      cases hsa : ((t.getD (i : Int).toNat default).getD (k : Int).toNat default).acc with
      | false =>
       rw [hsa] at c2 hac
       refine rZ ?_; refine aoR fun _ => ?_
       refine rZ ?_; refine cnd ?_ ?_
       refine uF fun _ => ?_; try omega
       refine rZ ?_; refine aoR fun _ => ?_
       refine rZ ?_
       apply uE; exact rfl; exact .fn _ _ _; exact rfl; exact c1
       refine rZ ?_; refine cnd ?_ ?_; refine zU ?_
       exact uI
       refine yS ?_; refine uH ?_; refine rZ ?_; refine aoR fun _ => ?_
       refine rZ ?_
       apply uE; exact rfl; exact .fn _ _ _; exact rfl; exact c2
       refine rZ ?_; refine cnd ?_ ?_
       exact vN
       refine uV ?_; refine rZ ?_; refine aoR fun _ => ?_
       refine rZ ?_; rotate_left
       refine uG fun _ => ?_; try omega
       refine uU (k + 1) ⟨by omega, hkr1⟩ (by omega) (by repeat' (first | exact vW _ | exact uS _ | refine uL rfl ?_ | refine uY rfl ?_ | (refine vP rfl ?_ ?_; (rw [hac]; simp)) | (refine uO rfl ?_ ?_; (rw [hac]; simp)) | (refine uP rfl ?_ ?_; (rw [hac]; simp)))) leP
      | true =>
       rw [hsa] at c2 hac
       refine rZ ?_; refine aoR fun _ => ?_
       refine rZ ?_; refine cnd ?_ ?_
       refine uF fun _ => ?_; try omega
       refine rZ ?_; refine aoR fun _ => ?_
       refine rZ ?_
       apply uE; exact rfl; exact .fn _ _ _; exact rfl; exact c1
       refine rZ ?_; refine cnd ?_ ?_; refine zU ?_
       exact uI
       refine yS ?_; refine uH ?_; refine rZ ?_; refine aoR fun _ => ?_
       refine rZ ?_
       apply uE; exact rfl; exact .fn _ _ _; exact rfl; exact c2
       refine rZ ?_; refine cnd ?_ ?_; refine uH ?_; refine aoR fun _ => ?_
       refine rZ ?_; refine aoR fun _ => ?_
       refine rZ ?_; rotate_left
       exact uI
       refine uG fun _ => ?_; try omega
       refine uU (k + 1) ⟨by omega, hkr1⟩ (by omega) (by repeat' (first | exact vW _ | exact uS _ | refine uL rfl ?_ | refine uY rfl ?_ | (refine vP rfl ?_ ?_; (rw [hac]; simp)) | (refine uO rfl ?_ ?_; (rw [hac]; simp)) | (refine uP rfl ?_ ?_; (rw [hac]; simp)))) leP
    ·have hkk : k = (t.getD (i : Int).toNat default).length := by omega
     have en := jM hlt
     refine rZ ?_; refine aoR fun _ => ?_
     refine rZ ?_; refine cnd ?_ ?_
     refine uF fun _ => ?_; try omega
     refine uG fun _ => ?_; try omega
     refine rZ ?_; refine aoR fun _ => ?_
     refine rZ ?_; rotate_left
     rw [hkk, List.take_length] at hkr
     refine uU (i + 1) ⟨by omega, ?_⟩ (by omega) (by rw [en, hkk]; exact leP) leP
     rw [vT t default i hlt, List.all_append, hok]
     simp only [List.all_cons, List.all_nil, Bool.and_true, Bool.true_and]
     unfold threadOk
     rw [show (t.getD i default).all Stp.right = true from hkr, decide_eq_true (show (t.getD i default).length ≤ 16 by rw [Int.toNat_natCast] at h16; omega)]; rfl
  ·have hil : i = t.length := by omega
   subst hil
   rw [List.take_length] at hok
   rw [mX]
   have h16 : ∀ l ∈ t, l.length ≤ 16 := fun l hl => by
    have h := List.all_eq_true.1 hok l hl
    unfold threadOk at h
    simp only [Bool.and_eq_true, decide_eq_true_eq] at h
    exact h.1
   have hr : ∀ l ∈ t, ∀ s ∈ l, s.right = true := fun l hl s hs => by
    have h := List.all_eq_true.1 hok l hl
    unfold threadOk at h
    simp only [Bool.and_eq_true] at h
    exact List.all_eq_true.1 h.2 s hs
   have c1 := rWays_p t hn4 h16 hr
   have e : checkT t = if 8 < accs t.flatten ∨ 10000 < waysT t then 2 else 0 := by
    unfold checkT
    rw [if_neg h0, if_neg (by rw [hok]; decide)]
   rw [e]
   refine rZ ?_; refine aoR fun _ => ?_
   refine rZ ?_; refine cnd ?_ ?_
   refine uF fun _ => ?_; try omega
   refine uG fun _ => ?_; try omega
   refine rZ ?_; refine aoR fun _ => ?_
   refine rZ ?_
   apply spF; exact rfl
   intro hc_
   have hp_ := hc_; try simp only [nrm] at hp_
   apply uZ; exact evm; exact .fn _ _ _; exact wP; exact c1
   refine rZ ?_; refine cnd ?_ ?_
   refine zR (fun hc_ => ?_); (try simp only [nrm] at hc_)
   refine rZ ?_; refine aoR fun _ => ?_
   refine rZ ?_; rotate_left
   refine zS ?_
   iterate 2 refine uG fun _ => ?_; try omega
   refine rZ ?_; refine aoR fun _ => ?_
   refine rZ ?_; rotate_left
   all_goals (refine wL rfl ?_; split <;> first | rfl | (exfalso; omega))
end
end Go.Proofs.YtjogffchdejabaaGreatDoor
