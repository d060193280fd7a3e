/- Parts. -/
import Derived.Test.YtnkocjkkefnelaaGreatPs4
import Derived.Test.YtnkocjkkefnelaaGreatPs6
import Derived.Test.YtnkocjkkefnelaaGreatPs31
set_option linter.unusedVariables false
set_option linter.unusedSimpArgs false
set_option maxHeartbeats 4000000
set_option maxHeartbeats 4000000
set_option maxRecDepth 100000
namespace Go.Proofs.YtnkocjkkefnelaaGreat
open Go.RowKit
theorem pK {d : Nat} {a b : Bool} {l : List (Nat × OV)} {tm : Tm} (h : tm d = some (.bool a)) (e : a = b) (hl : (tmL l).le tm) : (tmL ((d, .bool b) :: l)).le tm := uL (by rw [h, e]) hl
def hitR (x : Ex) (r : Int) (a b n : Nat) : Bool := decide (r = 4) && hit4 x a b n || (decide (r = 12) && (x.evs.getD b default).ldB && hit12 x a b n) || (decide (r = 13) && (x.evs.getD b default).stB && hit13 x a n)
def clrB (x : Ex) (a n : Nat) : Bool := (x.evs.getD n default).stB && decide ((x.evs.getD n default).addr = (x.evs.getD a default).addr)
theorem lQ (a b : Nat) (q : Bool) (f : Nat → Bool) : someB a b (fun n => q && f n) = (q && someB a b f) := by
 cases q with
 | true => simp only [Bool.true_and]
 | false =>
  simp only [Bool.false_and]
  unfold someB
  simp
theorem hit_4 (x : Ex) (a b : Nat) : someB a b (hitR x 4 a b) = ruleR x 4 a b := bZ fun n _ _ => by
 unfold hitR
 rw [show decide ((4 : Int) = 4) = true from rfl, show decide ((4 : Int) = 12) = false from rfl, show decide ((4 : Int) = 13) = false from rfl]
 simp only [Bool.true_and, Bool.false_and, Bool.or_false]
theorem hit_12 (x : Ex) (a b : Nat) : someB a b (hitR x 12 a b) = ruleR x 12 a b := by
 refine Eq.trans (bZ (g := fun n => (x.evs.getD b default).ldB && hit12 x a b n) fun n _ _ => ?_) (lQ _ _ _ _)
 unfold hitR
 rw [show decide ((12 : Int) = 4) = false from rfl, show decide ((12 : Int) = 12) = true from rfl, show decide ((12 : Int) = 13) = false from rfl]
 simp only [Bool.true_and, Bool.false_and, Bool.or_false, Bool.false_or]
theorem hit_13 (x : Ex) (a b : Nat) : someB a b (hitR x 13 a b) = ruleR x 13 a b := by
 refine Eq.trans (bZ (g := fun n => (x.evs.getD b default).stB && hit13 x a n) fun n _ _ => ?_) (lQ _ _ _ _)
 unfold hitR
 rw [show decide ((13 : Int) = 4) = false from rfl, show decide ((13 : Int) = 12) = false from rfl, show decide ((13 : Int) = 13) = true from rfl]
 simp only [Bool.true_and, Bool.false_and, Bool.or_false, Bool.false_or]
set_option maxHeartbeats 8000000 in
theorem rrule_p (x : Ex) (hx : x.rok) (r : Int) (a b : Nat) (ha : a < x.evs.length) (hb : b < x.evs.length) (h1 : 1 ≤ r) (h13 : r ≤ 13) :
  Pure E.P 69 [exOV x, .int .i64 r, .int .i64 a, .int .i64 b] (.bool (ruleB x r a b)) := by
 have hl := hx.len
 have hfl := hx.from_
 have hpo := uAO x hl a b ha hb
 have f4 : Frozen 4 := ⟨trivial⟩
 have hq := pairOf_eq x a b
 refine fnA Tryz.func69 Tryz.ntmps69 ?_
 cases hpb : isPo x a b with
 | false =>
  rw [hpb] at hpo hq
  refine run ?_; refine aoR fun _ => ?_
  refine run ?_; refine aoR fun _ => ?_
  refine run ?_
  apply uP; exact rfl; exact .fn _ _ _; exact rfl; (exact hpo)
  refine run ?_; refine cnd ?_ ?_
  refine xJ (fun hc_ => ?_); (try simp only [nrm] at hc_)
  refine run ?_; refine aoR fun _ => ?_
  refine run ?_; rotate_left
  iterate 2 refine xP ?_
  refine xR ?_
  exact uH
  refine uU rfl ?_
  unfold ruleB
  rw [hq]; rfl
 | true =>
 rw [hpb] at hpo hq
 by_cases ka : (x.evs.getD (a : Int).toNat default).kind = 4
 ·refine run ?_
  refine aoR fun _ => ?_; refine run ?_
  refine aoR fun _ => ?_; refine run ?_
  apply uP; exact rfl; exact .fn _ _ _; exact rfl; (exact hpo)
  refine run ?_; refine cnd ?_ ?_
  refine xJ (fun hc_ => ?_); (try simp only [nrm] at hc_)
  refine run ?_; refine aoR fun _ => ?_
  refine run ?_; rotate_left
  iterate 2 refine xP ?_
  refine xR ?_; refine uJ ?_
  refine uI fun _ => ?_; try omega
  refine uU rfl ?_
  have ka' : (x.evs.getD a default).kind = 4 := ka
  unfold ruleB
  rw [hq, decide_eq_true ka']; rfl
 by_cases kb : (x.evs.getD (b : Int).toNat default).kind = 4
 ·refine run ?_
  refine aoR fun _ => ?_; refine run ?_
  refine aoR fun _ => ?_; refine run ?_
  apply uP; exact rfl; exact .fn _ _ _; exact rfl; (exact hpo)
  refine run ?_; refine cnd ?_ ?_
  refine xJ (fun hc_ => ?_); (try simp only [nrm] at hc_)
  refine run ?_; refine aoR fun _ => ?_
  refine run ?_; rotate_left
  iterate 2 refine xP ?_
  refine xR ?_; refine uJ ?_
  iterate 2 refine uI fun _ => ?_; try omega
  refine uU rfl ?_
  have kb' : (x.evs.getD b default).kind = 4 := kb
  unfold ruleB
  rw [hq, decide_eq_true kb', Bool.not_true, Bool.and_false]; rfl
 have ka' : ¬ (x.evs.getD a default).kind = 4 := ka
 have kb' : ¬ (x.evs.getD b default).kind = 4 := kb
 have hR : ruleB x r a b = ruleR x r a b := by
  unfold ruleB
  rw [hq, decide_eq_false ka', decide_eq_false kb']; rfl
 rw [hR]
 refine run ?_; refine aoR fun _ => ?_
 refine run ?_; refine aoR fun _ => ?_
 refine run ?_
 apply uP; exact rfl; exact .fn _ _ _; exact rfl; (exact hpo)
 refine run ?_; refine cnd ?_ ?_
 refine xJ (fun hc_ => ?_); (try simp only [nrm] at hc_)
 refine run ?_; refine aoR fun _ => ?_
 refine run ?_; rotate_left
 iterate 2 refine xP ?_
 refine xR ?_; refine uJ ?_
 iterate 2 refine uI fun _ => ?_; try omega
 refine run ?_
 refine uO (E := E) ?_ (fun _ => ?_); exact rfl
 refine run ?_; refine aoR fun _ => ?_
 refine run ?_; refine aoR fun _ => ?_
 refine run ?_; refine aoR fun _ => ?_
 refine run ?_; refine cnd ?_ ?_
 refine uF fun _ => ?_; try omega
 refine run ?_; refine aoR fun _ => ?_
 refine run ?_
 apply spT; exact rfl
 intro hc_
 have hp_ := hc_; try simp only [nrm] at hp_
 apply vD; exact .plain rfl rfl; exact .fn _ _ _; exact vY; (exact wO _)
 refine run ?_; rotate_left
 refine uI fun _ => ?_; try omega
 refine run ?_; refine aoR fun _ => ?_
 refine run ?_; refine cnd ?_ ?_
 refine uF fun _ => ?_; try omega
 refine run ?_; refine aoR fun _ => ?_
 refine run ?_; rotate_left
 refine uI fun _ => ?_; try omega
 refine run ?_; refine aoR fun _ => ?_
 refine run ?_; refine cnd ?_ ?_
 refine uF fun _ => ?_; try omega
 refine run ?_; refine aoR fun _ => ?_
 refine run ?_; rotate_left
 refine uI fun _ => ?_; try omega
 refine run ?_; refine aoR fun _ => ?_
 refine run ?_; refine cnd ?_ ?_
 refine uF fun _ => ?_; try omega
 refine run ?_; refine aoR fun _ => ?_
 refine run ?_; rotate_left
 refine uI fun _ => ?_; try omega
 refine run ?_; refine aoR fun _ => ?_
 refine run ?_; refine cnd ?_ ?_
 refine uF fun _ => ?_; try omega
 refine run ?_; refine aoR fun _ => ?_
 refine run ?_
 apply uP; exact rfl; exact .fn _ _ _; exact rfl; (exact lT _)
 refine run ?_
 apply spT; exact rfl
 intro hc_
 have hp_ := hc_; try simp only [nrm] at hp_
 apply vD; exact .plain rfl rfl; exact .fn _ _ _; exact vY; (exact lT _)
 refine run ?_; rotate_left
 refine uI fun _ => ?_; try omega
 refine run ?_; refine aoR fun _ => ?_
 refine run ?_; refine cnd ?_ ?_
 refine uF fun _ => ?_; try omega
 refine run ?_; refine aoR fun _ => ?_
 refine run ?_
 apply uP; exact rfl; exact .fn _ _ _; exact rfl; (exact lU x hx b hb)
 refine run ?_; rotate_left
 refine uI fun _ => ?_; try omega
 refine run ?_; refine aoR fun _ => ?_
 refine run ?_; refine cnd ?_ ?_
 refine uF fun _ => ?_; try omega
 refine run ?_; refine aoR fun _ => ?_
 refine run ?_
 apply uP; exact rfl; exact .fn _ _ _; exact rfl; (exact lH _ _ (by first | exact (hx.small _).1 | exact (hx.small _).2.1 | exact (hx.small _).2.2))
 refine run ?_; rotate_left
 refine uI fun _ => ?_; try omega
 refine run ?_; refine aoR fun _ => ?_
 refine run ?_; refine cnd ?_ ?_
 refine uF fun _ => ?_; try omega
 refine run ?_; refine aoR fun _ => ?_
 refine run ?_
 apply uP; exact rfl; exact .fn _ _ _; exact rfl; (exact lH _ _ (by first | exact (hx.small _).1 | exact (hx.small _).2.1 | exact (hx.small _).2.2))
 refine run ?_; rotate_left
 refine uI fun _ => ?_; try omega
 refine run ?_; refine aoR fun _ => ?_
 refine run ?_; refine cnd ?_ ?_
 refine uF fun _ => ?_; try omega
 refine run ?_; refine aoR fun _ => ?_
 refine run ?_
 apply uP; exact rfl; exact .fn _ _ _; exact rfl; (exact wO _)
 refine run ?_
 apply spT; exact rfl
 intro hc_
 have hp_ := hc_; try simp only [nrm] at hp_
 apply vD; exact .plain rfl rfl; exact .fn _ _ _; exact vY; (exact lH _ _ (by first | exact (hx.small _).1 | exact (hx.small _).2.1 | exact (hx.small _).2.2))
 refine run ?_; rotate_left
 refine uI fun _ => ?_; try omega
 refine run ?_; refine aoR fun _ => ?_
 refine run ?_; refine aoR fun _ => ?_
 refine run ?_; rotate_left
 ·exfalso
  rcases hc_ with h9 | h9
  ·exact ka h9
  ·exact kb h9
 ·rename_i hr _; subst hr; exact uU rfl (by rw [ruleR, if_pos rfl]; exact Bool.and_comm _ _)
 ·rename_i hr _; subst hr; exact uU rfl rfl
 ·rename_i hr _; subst hr; exact uU rfl rfl
 ·rename_i hr _; subst hr; exact uU rfl rfl
 ·rename_i hr _; subst hr; exact uU rfl rfl
 ·rename_i hr _; subst hr; exact uU rfl rfl
 ·rename_i hr _; subst hr; exact uU rfl rfl
 ·rename_i hr _; subst hr; exact uU rfl rfl
 ·rename_i hr _; subst hr; exact uU rfl rfl
 rename_i v3 _ _ _ n1 _ n3 _ n5 _ n6 _ n7 _ n8 _ n9 _ n10 _ n11 _ _
 have hab : a < b := by
  unfold isPo at hpb
  simp only [Bool.and_eq_true, decide_eq_true_eq] at hpb
  exact hpb.1.1
 refine uT (X := Nat × Bool × Bool) (fun p => tmL [(1, .int .i64 r), (2, .int .i64 a), (3, .int .i64 b), (4, .d (.pt (exRow x) 0)), (9, .lo 9 (v3, 10) 13 0 0), (10, .lo 10 (v3, 11) 13 0 0), (11, .bool (oneB (x.evs.getD a default) (x.evs.getD b default))), (12, .bool p.2.1), (13, .bool p.2.2), (14, .int .i64 p.1)])
  (fun p => stL [(9, ((v3, 10), ⟨13, [(evTV (x.evs.getD a default)).map .d]⟩)), (10, ((v3, 11), ⟨13, [(evTV (x.evs.getD b default)).map .d]⟩))])
  (fun p => a < p.1 ∧ p.1 ≤ b ∧ p.2.1 = !someB a p.1 (clrB x a) ∧ p.2.2 = someB a p.1 (hitR x r a b)) (fun p => b - p.1) (a + 1, true, false) ⟨by dsimp only; omega, hab, by dsimp only; rw [aS (Nat.le_refl _)]; rfl, by dsimp only; rw [aS (Nat.le_refl _)]⟩ leP leP ?_
 rintro ⟨m, c, s⟩ ⟨ham, hm, hc, hs⟩
 dsimp only at ham hm hc hs ⊢
 by_cases hmb : m < b
 ·refine run ?_
  refine aoR fun _ => ?_; refine run ?_
  refine cnd ?_ ?_
  refine uF fun _ => ?_; try omega
  refine run ?_; refine aoR fun _ => ?_
  refine run ?_; refine aoR fun _ => ?_
  refine run ?_
  apply spT; exact rfl
  intro hc_
  have hp_ := hc_; try simp only [nrm] at hp_
  apply vD; exact .plain rfl rfl; exact .fn _ _ _; exact vY; (exact wO _)
  refine run ?_; refine aoR fun _ => ?_
  refine run ?_
  apply yK; exact rfl; exact rfl
  intro hc_
  have hp_ := hc_; try simp only [nrm] at hp_
  apply vD; exact .plain rfl rfl; exact .fn _ _ _; exact vY; (exact uAP _ _ (hx.sets _).1 (hx.sets _).2.1)
  refine run ?_
  apply yK; exact rfl; exact rfl
  intro hc_
  have hp_ := hc_; try simp only [nrm] at hp_
  apply vD; exact .plain rfl rfl; exact .fn _ _ _; exact vY; (exact uAP _ _ (hx.sets _).2.2.1 (hx.sets _).2.2.2)
  refine run ?_; refine aoR fun _ => ?_
  refine run ?_
  apply yK; exact rfl; exact rfl
  intro hc_
  have hp_ := hc_; try simp only [nrm] at hp_
  apply vD; exact .plain rfl rfl; exact .fn _ _ _; exact vY; (exact yP _)
  refine run ?_
  apply yK; exact rfl; exact rfl
  intro hc_
  have hp_ := hc_; try simp only [nrm] at hp_
  apply vD; exact .plain rfl rfl; exact .fn _ _ _; exact vY; (exact wO _)
  refine run ?_
  apply yK; exact rfl; exact rfl
  intro hc_
  have hp_ := hc_; try simp only [nrm] at hp_
  apply vD; exact .plain rfl rfl; exact .fn _ _ _; exact vY; (exact lH _ _ (by first | exact (hx.small _).1 | exact (hx.small _).2.1 | exact (hx.small _).2.2))
  refine run ?_
  apply nJ; exact rfl; exact rfl
  intro hc_
  have hp_ := hc_; try simp only [nrm] at hp_
  apply vD; exact .plain rfl rfl; exact .fn _ _ _; exact vY; (exact lH _ _ (by first | exact (hx.small _).1 | exact (hx.small _).2.1 | exact (hx.small _).2.2))
  refine run ?_; refine aoR fun _ => ?_
  refine run ?_
  apply yK; exact rfl; exact rfl
  intro hc_
  have hp_ := hc_; try simp only [nrm] at hp_
  apply vD; exact .plain rfl rfl; exact .fn _ _ _; exact vY; (exact wO _)
  refine run ?_
  apply yK; exact rfl; exact rfl
  intro hc_
  have hp_ := hc_; try simp only [nrm] at hp_
  apply vD; exact .plain rfl rfl; exact .fn _ _ _; exact vY; (exact lH _ _ (by first | exact (hx.small _).1 | exact (hx.small _).2.1 | exact (hx.small _).2.2))
  refine run ?_; refine aoR fun _ => ?_
  refine run ?_; rotate_left
  refine uI fun _ => ?_; try omega
  refine ⟨(m + 1, !someB a (m + 1) (clrB x a), someB a (m + 1) (hitR x r a b)), ⟨by dsimp only; omega, by dsimp only; omega, rfl, rfl⟩, by dsimp only; omega, ?_, leP⟩
  refine uL rfl (uL rfl (uL rfl (uL rfl (uL rfl (uL rfl (uL rfl (pK rfl ?_ (pK rfl ?_ (uL rfl (vW _))))))))))
  ·dsimp only
   rw [dV ham, Bool.not_or, ← hc]; rfl
  ·dsimp only
   rw [dV ham, ← hs]
   unfold hitR hit4 hit12 hit13 hasB
   simp only [Int.toNat_natCast, Bool.and_assoc, Bool.or_assoc]
 ·have hmb' : m = b := by omega
  subst hmb'
  refine run ?_; refine aoR fun _ => ?_
  refine run ?_; refine cnd ?_ ?_
  refine uF fun _ => ?_; try omega
  refine uI fun _ => ?_; try omega
  refine run ?_; refine aoR fun _ => ?_
  refine run ?_; refine cnd ?_ ?_
  refine uF fun _ => ?_; try omega
  refine run ?_
  refine uO (E := E) ?_ (fun _ => ?_); exact rfl
  refine run ?_
  apply xD; exact rfl; exact .fn _ _ _; exact rfl; (exact yP _)
  refine run ?_
  apply dpT; exact rfl
  intro hc_
  have hp_ := hc_; try simp only [nrm] at hp_
  apply vD; exact .plain rfl rfl; exact .fn _ _ _; exact vY; (exact yP _)
  refine run ?_; rotate_left
  refine uI fun _ => ?_; try omega
  refine run ?_; refine aoR fun _ => ?_
  refine run ?_; rotate_left
  ·rename_i hr _
   subst hr
   refine uU rfl ?_
   rw [hc]; rfl
  ·rename_i n2 _
   refine uU rfl ?_
   rw [hs]
   obtain rfl | rfl | rfl : r = 4 ∨ r = 12 ∨ r = 13 := by omega
   ·exact hit_4 x a m
   ·exact hit_12 x a m
   ·exact hit_13 x a m
end Go.Proofs.YtnkocjkkefnelaaGreat
