/- Parts. -/
import Derived.Test.YtnkocjkkefnelaaGreatPg4
import Derived.Test.YtnkocjkkefnelaaGreatPg6
import Derived.Test.YtnkocjkkefnelaaGreatPg26
import Derived.Test.YtnkocjkkefnelaaGreatPg35
import Derived.Test.YtnkocjkkefnelaaGreatPg36
import Derived.Test.YtnkocjkkefnelaaGreatPg38
set_option linter.unusedVariables false
set_option linter.unusedSimpArgs false
set_option maxHeartbeats 4000000
set_option maxRecDepth 100000
namespace Go.Proofs.YtnkocjkkefnelaaGreat
open Go.RowKit
theorem oN {N : Nat} {fe : Nat → Bool} {L : List (Int × Int)} : ∀ (k : Nat) (o : List Int), (grun N fe L k o).1.length ≤ o.length + k
 | 0, o => Nat.le_refl _
 | k + 1, o => by
  unfold grun
  split
  ·simp
  ·rename_i n _
   have := oN k (o ++ [(n : Int)]) (N := N) (fe := fe) (L := L)
   rw [List.length_append] at this
   simp at this
   omega
set_option maxHeartbeats 4000000 in
theorem lawGlobal_p (x : Ex) (hx : x.ok) : Pure E.P 10 [exOV x] (.bool true) := by
 have hwd := wide8_p x hx
 have hkn := known8_p
 have f1 : Frozen 1 := ⟨trivial⟩
 refine fnA Tryz.func10 Tryz.ntmps10 ?_
 cases hw : wideB8 x with
 | true =>
  rw [hw] at hwd
  refine run ?_; refine aoR fun _ => ?_
  refine run ?_; refine aoR fun _ => ?_
  refine run ?_
  apply uM; exact rfl; exact .fn _ _ _; exact rfl; (exact hwd)
  refine run ?_; refine cnd ?_ ?_; refine uL ?_; refine run ?_; refine aoR fun _ => ?_
  apply uM; exact rfl; exact .fn _ _ _; exact rfl; (exact hkn)
  refine run ?_; rotate_left
  exact wA
  exact uU rfl rfl
 | false =>
  rw [hw] at hwd
  obtain ⟨hfit, hl⟩ := fit8 hx hw
  have hA := Global_p x hfit
  have hC := rcheck_p x hx (fun e he => (hx.2.1 e he).bare)
  by_cases hc : checkI x = 0
  ·have hT : gloT x = grun x.evs.length (feB x) (gloL x) (gmany (feB x) x.evs.length) [] := by unfold gloT; rw [if_pos hc]
   rw [hT] at hA
   rw [hc] at hC
   have hr : x.rel := ⟨hfit, hc⟩
   have hS := rGlobal_p x hr (iS hx hc)
   have hn := oN (N := x.evs.length) (fe := feB x) (L := gloL x) (gmany (feB x) x.evs.length) []
   have hm := eH (fe := feB x) x.evs.length
   generalize grun x.evs.length (feB x) (gloL x) (gmany (feB x) x.evs.length) [] = gr at hA hS hn
   obtain ⟨l, b⟩ := gr
   dsimp only at hA hS hn
   have hln : l.length ≤ 1152921504606846976 := by simp only [List.length_nil] at hn; omega
   have hE := rsameInts_p l l hln hln
   rw [eqI_refl] at hE
   refine run ?_; refine aoR fun _ => ?_
   refine run ?_; refine aoR fun _ => ?_
   refine run ?_
   apply uM; exact rfl; exact .fn _ _ _; exact rfl; (exact hwd)
   refine run ?_; refine cnd ?_ ?_
   exact uK
   refine uJ ?_; refine run ?_; refine aoR fun _ => ?_
   refine run ?_
   apply uM; exact rfl; exact .fn _ _ _; exact rfl; (exact hA)
   refine run ?_; refine aoR fun _ => ?_
   refine run ?_
   apply uM; exact rfl; exact .fn _ _ _; exact rfl; (exact hC)
   refine run ?_; refine cnd ?_ ?_
   refine wB (fun _ => ?_); (try (exfalso; omega))
   refine vV (fun _ => ?_); (try (exfalso; omega))
   refine run ?_; refine aoR fun _ => ?_
   refine run ?_
   apply uM; exact rfl; exact .fn _ _ _; exact rfl; (exact hS)
   refine run ?_; refine aoR fun _ => ?_
   refine run ?_
   apply spT; exact rfl
   intro hc_
   have hp_ := hc_; try simp only [nrm] at hp_
   apply vE; (exact EvM.plain rfl rfl); exact .fn _ _ _; exact vR; (exact hE)
   refine run ?_
   apply spT; exact rfl
   intro hc_
   have hp_ := hc_; try simp only [nrm] at hp_
   apply vE; (exact EvM.plain rfl rfl); exact .fn _ _ _; exact vR; (exact hkn)
   refine run ?_; rotate_left
   exact uU rfl (by simp)
  ·have hT : gloT x = ([], false) := by unfold gloT; rw [if_neg hc]
   rw [hT] at hA
   refine run ?_; refine aoR fun _ => ?_
   refine run ?_; refine aoR fun _ => ?_
   refine run ?_
   apply uM; exact rfl; exact .fn _ _ _; exact rfl; (exact hwd)
   refine run ?_; refine cnd ?_ ?_
   exact uK
   refine uJ ?_; refine run ?_; refine aoR fun _ => ?_
   refine run ?_
   apply uM; exact rfl; exact .fn _ _ _; exact rfl; (exact hA)
   refine run ?_; refine aoR fun _ => ?_
   refine run ?_
   apply uM; exact rfl; exact .fn _ _ _; exact rfl; (exact hC)
   refine run ?_; refine cnd ?_ ?_
   refine wB (fun _ => ?_); (try (exfalso; omega))
   refine run ?_; refine aoR fun _ => ?_
   refine run ?_
   apply spT; exact rfl
   intro hc_
   have hp_ := hc_; try simp only [nrm] at hp_
   apply vE; (exact EvM.plain rfl rfl); exact .fn _ _ _; exact vR; (exact hkn)
   refine run ?_; rotate_left
   refine vV (fun _ => ?_); (try (exfalso; omega))
   exact uU rfl (by simp)
end Go.Proofs.YtnkocjkkefnelaaGreat
