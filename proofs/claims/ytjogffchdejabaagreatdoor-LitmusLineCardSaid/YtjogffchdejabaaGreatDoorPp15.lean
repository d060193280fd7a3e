/- Parts. -/
import Derived.Test.YtjogffchdejabaaGreatDoorPp3
import Derived.Test.YtjogffchdejabaaGreatDoorPp4
import Derived.Test.YtjogffchdejabaaGreatDoorPp12
set_option linter.unusedVariables false
set_option linter.unusedSimpArgs false
set_option maxHeartbeats 4000000
set_option maxRecDepth 100000
namespace Go.Proofs.YtjogffchdejabaaGreatDoor
open Go.RowKit Go.Lib
theorem z0 (x : Int) : (0 = x) = (x = 0) := propext eq_comm
theorem zf (x : Bool) : (false = x) = (x = false) := propext eq_comm
theorem in6 : inR 1 1 6 = true ∧ inR 2 1 6 = true ∧ inR 3 1 6 = true ∧ inR 4 1 6 = true ∧ inR 5 1 6 = true ∧ inR 6 1 6 = true := by decide
theorem in0 : inR 0 0 3 = true ∧ inR 0 0 4 = true := by decide
theorem rr1 {s : Stp} (h : s.kind = 1) : (decide ((⟨s.kind, s.reg, s.var, 0, 0, s.byr, s.aq, s.rl, 0, 0⟩ : Stp) = s) && inR s.var 0 3 && inR s.byr 0 4 && inR s.data 0 4 && (decide (s.data = 0) || decide (s.num = 0)) && (!true || inR s.reg 1 4)) = s.right := by
 obtain ⟨k, r, v, n, d, b, a, l, p, q⟩ := s
 dsimp only at h
 subst h
 simp only [Stp.right, Stp.bare, Stp.lds, Stp.sts, Stp.acc, Stp.mk.injEq, Int.reduceLE, Int.reduceEq, decide_true, decide_false, Bool.and_true, Bool.and_false, Bool.true_and, Bool.false_and, Bool.or_true, Bool.or_false, Bool.true_or, Bool.false_or, Bool.not_true, Bool.not_false, cond_true, cond_false, true_and, and_true, z0, zf, if_true, if_false, Bool.false_eq_true]
 by_cases hx : (n = 0 ∧ d = 0 ∧ p = 0 ∧ q = 0) <;> cases hE : inR r 1 4 <;> simp [hx, hE, in6, in0]
theorem rr2 {s : Stp} (h : s.kind = 2) : (decide ((⟨s.kind, 0, s.var, s.num, s.data, s.byr, s.aq, s.rl, 0, 0⟩ : Stp) = s) && inR s.var 0 3 && inR s.byr 0 4 && inR s.data 0 4 && (decide (s.data = 0) || decide (s.num = 0)) && (!false || inR s.reg 1 4)) = s.right := by
 obtain ⟨k, r, v, n, d, b, a, l, p, q⟩ := s
 dsimp only at h
 subst h
 simp only [Stp.right, Stp.bare, Stp.lds, Stp.sts, Stp.acc, Stp.mk.injEq, Int.reduceLE, Int.reduceEq, decide_true, decide_false, Bool.and_true, Bool.and_false, Bool.true_and, Bool.false_and, Bool.or_true, Bool.or_false, Bool.true_or, Bool.false_or, Bool.not_true, Bool.not_false, cond_true, cond_false, true_and, and_true, z0, zf, if_true, if_false, Bool.false_eq_true]
 by_cases hx : (r = 0 ∧ p = 0 ∧ q = 0) <;> cases hE : inR r 1 4 <;> simp [hx, hE, in6, in0]
theorem rr3 {s : Stp} (h : s.kind = 3) : (decide ((⟨s.kind, s.reg, s.var, s.num, s.data, s.byr, s.aq, s.rl, 0, 0⟩ : Stp) = s) && inR s.var 0 3 && inR s.byr 0 4 && inR s.data 0 4 && (decide (s.data = 0) || decide (s.num = 0)) && (!true || inR s.reg 1 4)) = s.right := by
 obtain ⟨k, r, v, n, d, b, a, l, p, q⟩ := s
 dsimp only at h
 subst h
 simp only [Stp.right, Stp.bare, Stp.lds, Stp.sts, Stp.acc, Stp.mk.injEq, Int.reduceLE, Int.reduceEq, decide_true, decide_false, Bool.and_true, Bool.and_false, Bool.true_and, Bool.false_and, Bool.or_true, Bool.or_false, Bool.true_or, Bool.false_or, Bool.not_true, Bool.not_false, cond_true, cond_false, true_and, and_true, z0, zf, if_true, if_false, Bool.false_eq_true]
 by_cases hx : (p = 0 ∧ q = 0) <;> cases hE : inR r 1 4 <;> simp [hx, hE, in6, in0]
theorem rr4 {s : Stp} (h : s.kind = 4) : (decide ((⟨s.kind, s.reg, s.var, s.num, s.data, s.byr, s.aq, s.rl, 0, 0⟩ : Stp) = s) && inR s.var 0 3 && inR s.byr 0 4 && inR s.data 0 4 && (decide (s.data = 0) || decide (s.num = 0)) && (!true || inR s.reg 1 4)) = s.right := by
 obtain ⟨k, r, v, n, d, b, a, l, p, q⟩ := s
 dsimp only at h
 subst h
 simp only [Stp.right, Stp.bare, Stp.lds, Stp.sts, Stp.acc, Stp.mk.injEq, Int.reduceLE, Int.reduceEq, decide_true, decide_false, Bool.and_true, Bool.and_false, Bool.true_and, Bool.false_and, Bool.or_true, Bool.or_false, Bool.true_or, Bool.false_or, Bool.not_true, Bool.not_false, cond_true, cond_false, true_and, and_true, z0, zf, if_true, if_false, Bool.false_eq_true]
 by_cases hx : (p = 0 ∧ q = 0) <;> cases hE : inR r 1 4 <;> simp [hx, hE, in6, in0]
theorem rr5 {s : Stp} (h : s.kind = 5) : (decide ((⟨s.kind, 0, 0, 0, 0, 0, false, false, s.pred, s.succ⟩ : Stp) = s) && inR s.pred 1 3 && inR s.succ 1 3) = s.right := by
 obtain ⟨k, r, v, n, d, b, a, l, p, q⟩ := s
 dsimp only at h
 subst h
 simp only [Stp.right, Stp.bare, Stp.lds, Stp.sts, Stp.acc, Stp.mk.injEq, Int.reduceLE, Int.reduceEq, decide_true, decide_false, Bool.and_true, Bool.and_false, Bool.true_and, Bool.false_and, Bool.or_true, Bool.or_false, Bool.true_or, Bool.false_or, Bool.not_true, Bool.not_false, cond_true, cond_false, true_and, and_true, z0, zf, if_true, if_false, Bool.false_eq_true]
 by_cases hx : (r = 0 ∧ v = 0 ∧ n = 0 ∧ d = 0 ∧ b = 0 ∧ a = false ∧ l = false) <;> cases hE : inR r 1 4 <;> simp [hx, hE, in6, in0]
theorem rr6 {s : Stp} (h : s.kind = 6) : (decide ((⟨s.kind, s.reg, 0, 0, 0, 0, false, false, 0, 0⟩ : Stp) = s) && inR s.reg 1 4) = s.right := by
 obtain ⟨k, r, v, n, d, b, a, l, p, q⟩ := s
 dsimp only at h
 subst h
 simp only [Stp.right, Stp.bare, Stp.lds, Stp.sts, Stp.acc, Stp.mk.injEq, Int.reduceLE, Int.reduceEq, decide_true, decide_false, Bool.and_true, Bool.and_false, Bool.true_and, Bool.false_and, Bool.or_true, Bool.or_false, Bool.true_or, Bool.false_or, Bool.not_true, Bool.not_false, cond_true, cond_false, true_and, and_true, z0, zf, if_true, if_false, Bool.false_eq_true]
 by_cases hx : (v = 0 ∧ n = 0 ∧ d = 0 ∧ b = 0 ∧ a = false ∧ l = false ∧ p = 0 ∧ q = 0) <;> cases hE : inR r 1 4 <;> simp [hx, hE, in6, in0]
theorem rr7 {s : Stp} (h : ¬ (1 ≤ s.kind ∧ s.kind ≤ 6)) : false = s.right := sY (Or.inr (by unfold inR; simpa using h))
set_option maxHeartbeats 4000000 in
theorem rRight1_p (s : Stp) (h1 : s.kind = 1) : Pure E.P 33 [stOV s] (.bool s.right) := by
 have f1 : Frozen 1 := ⟨trivial⟩
 have c1 : Pure E.P 69 [stOV s] (.bool true) := (show s.lds = true by simp [Stp.lds, Stp.acc, h1]) ▸ eB s
 have c2 : Pure E.P 70 [stOV s] (.bool false) := (show s.sts = false by simp [Stp.sts, Stp.acc, h1]) ▸ cC s
 have cw := fun n a b => yN n a b
 refine fnA Tryz.func33 Tryz.ntmps33 ?_
 refine rZ ?_; refine aoR fun _ => ?_
 refine rZ ?_; refine aoR fun _ => ?_
 refine rZ ?_; refine aoR fun _ => ?_
 refine rZ ?_; refine aoR fun _ => ?_
 refine rZ ?_; refine cnd ?_ ?_
 refine uF fun _ => ?_; try omega
 refine rZ ?_; refine cnd ?_ ?_
 refine uF fun _ => ?_; try omega
 refine rZ ?_
 refine uJ (E := E) ?_ (fun _ => ?_); exact rfl
 refine rZ ?_; refine aoR fun _ => ?_
 refine rZ ?_
 apply uE; exact rfl; exact .fn _ _ _; exact rfl; (exact c1)
 refine rZ ?_; refine cnd ?_ ?_; refine uH ?_; refine aoR fun _ => ?_
 refine rZ ?_; refine aoR fun _ => ?_
 refine rZ ?_
 apply uE; exact rfl; exact .fn _ _ _; exact rfl; (exact c2)
 refine rZ ?_; refine cnd ?_ ?_
 exact vN
 refine uV ?_; refine rZ ?_; refine aoR fun _ => ?_
 refine rZ ?_
 apply gR ⟨s.kind, s.reg, s.var, 0, 0, s.byr, s.aq, s.rl, 0, 0⟩ s; exact rfl; exact rfl
 refine rZ ?_
 apply spT; exact rfl
 intro hc_
 have hp_ := hc_; try simp only [nrm] at hp_
 apply uZ; exact evm; exact .fn _ _ _; exact wP; (exact cw _ _ _)
 refine rZ ?_
 apply spT; exact rfl
 intro hc_
 have hp_ := hc_; try simp only [nrm] at hp_
 apply uZ; exact evm; exact .fn _ _ _; exact wP; (exact cw _ _ _)
 refine rZ ?_
 apply spT; exact rfl
 intro hc_
 have hp_ := hc_; try simp only [nrm] at hp_
 apply uZ; exact evm; exact .fn _ _ _; exact wP; (exact cw _ _ _)
 refine rZ ?_
 apply spT; exact rfl
 intro hc_
 have hp_ := hc_; try simp only [nrm] at hp_
 apply uZ; exact evm; exact .fn _ _ _; exact wP; (exact c1)
 refine rZ ?_
 apply zJ; exact rfl; exact rfl
 intro hc_
 have hp_ := hc_; try simp only [nrm] at hp_
 apply uZ; exact evm; exact .fn _ _ _; exact wP; (exact cw _ _ _)
 refine rZ ?_; rotate_left
 exact uI
 iterate 2 refine uG fun _ => ?_; try omega
 all_goals first | (exfalso; omega) | (refine vX rfl ?_; exact rr1 h1)
set_option maxHeartbeats 4000000 in
theorem rRight2_p (s : Stp) (h2 : s.kind = 2) : Pure E.P 33 [stOV s] (.bool s.right) := by
 have f1 : Frozen 1 := ⟨trivial⟩
 have c1 : Pure E.P 69 [stOV s] (.bool false) := (show s.lds = false by simp [Stp.lds, Stp.acc, h2]) ▸ eB s
 have c2 : Pure E.P 70 [stOV s] (.bool true) := (show s.sts = true by simp [Stp.sts, Stp.acc, h2]) ▸ cC s
 have cw := fun n a b => yN n a b
 refine fnA Tryz.func33 Tryz.ntmps33 ?_
 refine rZ ?_; refine aoR fun _ => ?_
 refine rZ ?_; refine aoR fun _ => ?_
 refine rZ ?_; refine aoR fun _ => ?_
 refine rZ ?_; refine aoR fun _ => ?_
 refine rZ ?_; refine cnd ?_ ?_
 refine uF fun _ => ?_; try omega
 refine uG fun _ => ?_; try omega
 refine rZ ?_; refine aoR fun _ => ?_
 refine rZ ?_; refine cnd ?_ ?_
 refine uF fun _ => ?_; try omega
 refine rZ ?_; refine cnd ?_ ?_
 refine uF fun _ => ?_; try omega
 refine rZ ?_
 refine uJ (E := E) ?_ (fun _ => ?_); exact rfl
 refine rZ ?_; refine aoR fun _ => ?_
 refine rZ ?_
 apply uE; exact rfl; exact .fn _ _ _; exact rfl; (exact c1)
 refine rZ ?_; refine cnd ?_ ?_
 exact vN
 refine uV ?_; refine rZ ?_; refine aoR fun _ => ?_
 refine rZ ?_
 apply uE; exact rfl; exact .fn _ _ _; exact rfl; (exact c2)
 refine rZ ?_; refine cnd ?_ ?_; refine uH ?_
 refine uJ (E := E) ?_ (fun _ => ?_); exact rfl
 refine rZ ?_; refine aoR fun _ => ?_
 refine rZ ?_
 apply gR ⟨s.kind, 0, s.var, s.num, s.data, s.byr, s.aq, s.rl, 0, 0⟩ s; exact rfl; exact rfl
 refine rZ ?_
 apply spT; exact rfl
 intro hc_
 have hp_ := hc_; try simp only [nrm] at hp_
 apply uZ; exact evm; exact .fn _ _ _; exact wP; (exact cw _ _ _)
 refine rZ ?_
 apply spT; exact rfl
 intro hc_
 have hp_ := hc_; try simp only [nrm] at hp_
 apply uZ; exact evm; exact .fn _ _ _; exact wP; (exact cw _ _ _)
 refine rZ ?_
 apply spT; exact rfl
 intro hc_
 have hp_ := hc_; try simp only [nrm] at hp_
 apply uZ; exact evm; exact .fn _ _ _; exact wP; (exact cw _ _ _)
 refine rZ ?_
 apply spT; exact rfl
 intro hc_
 have hp_ := hc_; try simp only [nrm] at hp_
 apply uZ; exact evm; exact .fn _ _ _; exact wP; (exact c1)
 refine rZ ?_
 apply zJ; exact rfl; exact rfl
 intro hc_
 have hp_ := hc_; try simp only [nrm] at hp_
 apply uZ; exact evm; exact .fn _ _ _; exact wP; (exact cw _ _ _)
 refine rZ ?_; rotate_left
 exact uI
 iterate 2 refine uG fun _ => ?_; try omega
 all_goals first | (exfalso; omega) | (refine vX rfl ?_; exact rr2 h2)
set_option maxHeartbeats 4000000 in
theorem rRight3_p (s : Stp) (h3 : s.kind = 3) : Pure E.P 33 [stOV s] (.bool s.right) := by
 have f1 : Frozen 1 := ⟨trivial⟩
 have c1 : Pure E.P 69 [stOV s] (.bool true) := (show s.lds = true by simp [Stp.lds, Stp.acc, h3]) ▸ eB s
 have c2 : Pure E.P 70 [stOV s] (.bool true) := (show s.sts = true by simp [Stp.sts, Stp.acc, h3]) ▸ cC s
 have cw := fun n a b => yN n a b
 refine fnA Tryz.func33 Tryz.ntmps33 ?_
 refine rZ ?_; refine aoR fun _ => ?_
 refine rZ ?_; refine aoR fun _ => ?_
 refine rZ ?_; refine aoR fun _ => ?_
 refine rZ ?_; refine aoR fun _ => ?_
 refine rZ ?_; refine cnd ?_ ?_
 refine uF fun _ => ?_; try omega
 refine uG fun _ => ?_; try omega
 refine rZ ?_; refine aoR fun _ => ?_
 refine rZ ?_; refine cnd ?_ ?_
 refine uF fun _ => ?_; try omega
 refine uG fun _ => ?_; try omega
 refine rZ ?_; refine aoR fun _ => ?_
 refine rZ ?_; refine cnd ?_ ?_
 refine uF fun _ => ?_; try omega
 refine rZ ?_; refine cnd ?_ ?_
 refine uF fun _ => ?_; try omega
 refine rZ ?_
 refine uJ (E := E) ?_ (fun _ => ?_); exact rfl
 refine rZ ?_; refine aoR fun _ => ?_
 refine rZ ?_
 apply uE; exact rfl; exact .fn _ _ _; exact rfl; (exact c1)
 refine rZ ?_; refine cnd ?_ ?_; refine uH ?_; refine aoR fun _ => ?_
 refine rZ ?_; refine aoR fun _ => ?_
 refine rZ ?_
 apply uE; exact rfl; exact .fn _ _ _; exact rfl; (exact c2)
 refine rZ ?_; refine cnd ?_ ?_; refine uH ?_
 refine uJ (E := E) ?_ (fun _ => ?_); exact rfl
 refine rZ ?_; refine aoR fun _ => ?_
 refine rZ ?_
 apply gR ⟨s.kind, s.reg, s.var, s.num, s.data, s.byr, s.aq, s.rl, 0, 0⟩ s; exact rfl; exact rfl
 refine rZ ?_
 apply spT; exact rfl
 intro hc_
 have hp_ := hc_; try simp only [nrm] at hp_
 apply uZ; exact evm; exact .fn _ _ _; exact wP; (exact cw _ _ _)
 refine rZ ?_
 apply spT; exact rfl
 intro hc_
 have hp_ := hc_; try simp only [nrm] at hp_
 apply uZ; exact evm; exact .fn _ _ _; exact wP; (exact cw _ _ _)
 refine rZ ?_
 apply spT; exact rfl
 intro hc_
 have hp_ := hc_; try simp only [nrm] at hp_
 apply uZ; exact evm; exact .fn _ _ _; exact wP; (exact cw _ _ _)
 refine rZ ?_
 apply spT; exact rfl
 intro hc_
 have hp_ := hc_; try simp only [nrm] at hp_
 apply uZ; exact evm; exact .fn _ _ _; exact wP; (exact c1)
 refine rZ ?_
 apply zJ; exact rfl; exact rfl
 intro hc_
 have hp_ := hc_; try simp only [nrm] at hp_
 apply uZ; exact evm; exact .fn _ _ _; exact wP; (exact cw _ _ _)
 refine rZ ?_; rotate_left
 iterate 2 exact uI
 iterate 2 refine uG fun _ => ?_; try omega
 all_goals first | (exfalso; omega) | (refine vX rfl ?_; exact rr3 h3)
set_option maxHeartbeats 4000000 in
theorem rRight4_p (s : Stp) (h4 : s.kind = 4) : Pure E.P 33 [stOV s] (.bool s.right) := by
 have f1 : Frozen 1 := ⟨trivial⟩
 have c1 : Pure E.P 69 [stOV s] (.bool true) := (show s.lds = true by simp [Stp.lds, Stp.acc, h4]) ▸ eB s
 have c2 : Pure E.P 70 [stOV s] (.bool true) := (show s.sts = true by simp [Stp.sts, Stp.acc, h4]) ▸ cC s
 have cw := fun n a b => yN n a b
 refine fnA Tryz.func33 Tryz.ntmps33 ?_
 refine rZ ?_; refine aoR fun _ => ?_
 refine rZ ?_; refine aoR fun _ => ?_
 refine rZ ?_; refine aoR fun _ => ?_
 refine rZ ?_; refine aoR fun _ => ?_
 refine rZ ?_; refine cnd ?_ ?_
 refine uF fun _ => ?_; try omega
 refine uG fun _ => ?_; try omega
 refine rZ ?_; refine aoR fun _ => ?_
 refine rZ ?_; refine cnd ?_ ?_
 refine uF fun _ => ?_; try omega
 refine uG fun _ => ?_; try omega
 refine rZ ?_; refine aoR fun _ => ?_
 refine rZ ?_; refine cnd ?_ ?_
 refine uF fun _ => ?_; try omega
 refine uG fun _ => ?_; try omega
 refine aoR fun _ => ?_; refine rZ ?_
 refine cnd ?_ ?_
 refine uF fun _ => ?_; try omega
 refine rZ ?_
 refine uJ (E := E) ?_ (fun _ => ?_); exact rfl
 refine rZ ?_; refine aoR fun _ => ?_
 refine rZ ?_
 apply uE; exact rfl; exact .fn _ _ _; exact rfl; (exact c1)
 refine rZ ?_; refine cnd ?_ ?_; refine uH ?_; refine aoR fun _ => ?_
 refine rZ ?_; refine aoR fun _ => ?_
 refine rZ ?_
 apply uE; exact rfl; exact .fn _ _ _; exact rfl; (exact c2)
 refine rZ ?_; refine cnd ?_ ?_; refine uH ?_
 refine uJ (E := E) ?_ (fun _ => ?_); exact rfl
 refine rZ ?_; refine aoR fun _ => ?_
 refine rZ ?_
 apply gR ⟨s.kind, s.reg, s.var, s.num, s.data, s.byr, s.aq, s.rl, 0, 0⟩ s; exact rfl; exact rfl
 refine rZ ?_
 apply spT; exact rfl
 intro hc_
 have hp_ := hc_; try simp only [nrm] at hp_
 apply uZ; exact evm; exact .fn _ _ _; exact wP; (exact cw _ _ _)
 refine rZ ?_
 apply spT; exact rfl
 intro hc_
 have hp_ := hc_; try simp only [nrm] at hp_
 apply uZ; exact evm; exact .fn _ _ _; exact wP; (exact cw _ _ _)
 refine rZ ?_
 apply spT; exact rfl
 intro hc_
 have hp_ := hc_; try simp only [nrm] at hp_
 apply uZ; exact evm; exact .fn _ _ _; exact wP; (exact cw _ _ _)
 refine rZ ?_
 apply spT; exact rfl
 intro hc_
 have hp_ := hc_; try simp only [nrm] at hp_
 apply uZ; exact evm; exact .fn _ _ _; exact wP; (exact c1)
 refine rZ ?_
 apply zJ; exact rfl; exact rfl
 intro hc_
 have hp_ := hc_; try simp only [nrm] at hp_
 apply uZ; exact evm; exact .fn _ _ _; exact wP; (exact cw _ _ _)
 refine rZ ?_; rotate_left
 iterate 2 exact uI
 refine uG fun _ => ?_; try omega
 all_goals first | (exfalso; omega) | (refine vX rfl ?_; exact rr4 h4)
set_option maxHeartbeats 4000000 in
theorem rRight5_p (s : Stp) (h5 : s.kind = 5) : Pure E.P 33 [stOV s] (.bool s.right) := by
 have f1 : Frozen 1 := ⟨trivial⟩
 have c1 : Pure E.P 69 [stOV s] (.bool false) := (show s.lds = false by simp [Stp.lds, Stp.acc, h5]) ▸ eB s
 have c2 : Pure E.P 70 [stOV s] (.bool false) := (show s.sts = false by simp [Stp.sts, Stp.acc, h5]) ▸ cC s
 have cw := fun n a b => yN n a b
 refine fnA Tryz.func33 Tryz.ntmps33 ?_
 refine rZ ?_; refine aoR fun _ => ?_
 refine rZ ?_; refine aoR fun _ => ?_
 refine rZ ?_; refine aoR fun _ => ?_
 refine rZ ?_; refine aoR fun _ => ?_
 refine rZ ?_; refine cnd ?_ ?_
 refine uF fun _ => ?_; try omega
 refine uG fun _ => ?_; try omega
 refine rZ ?_; refine aoR fun _ => ?_
 refine rZ ?_; refine cnd ?_ ?_
 refine uF fun _ => ?_; try omega
 refine uG fun _ => ?_; try omega
 refine rZ ?_; refine aoR fun _ => ?_
 refine rZ ?_; refine cnd ?_ ?_
 refine uF fun _ => ?_; try omega
 refine uG fun _ => ?_; try omega
 refine aoR fun _ => ?_; refine rZ ?_
 refine cnd ?_ ?_
 refine uF fun _ => ?_; try omega
 refine uG fun _ => ?_; try omega
 refine rZ ?_; refine aoR fun _ => ?_
 refine rZ ?_; refine cnd ?_ ?_
 refine uF fun _ => ?_; try omega
 refine rZ ?_
 refine uJ (E := E) ?_ (fun _ => ?_); exact rfl
 refine rZ ?_; refine aoR fun _ => ?_
 refine rZ ?_
 apply gR ⟨s.kind, 0, 0, 0, 0, 0, false, false, s.pred, s.succ⟩ s; exact rfl; exact rfl
 refine rZ ?_
 apply spT; exact rfl
 intro hc_
 have hp_ := hc_; try simp only [nrm] at hp_
 apply uZ; exact evm; exact .fn _ _ _; exact wP; (exact cw _ _ _)
 refine rZ ?_
 apply spT; exact rfl
 intro hc_
 have hp_ := hc_; try simp only [nrm] at hp_
 apply uZ; exact evm; exact .fn _ _ _; exact wP; (exact cw _ _ _)
 refine rZ ?_; rotate_left
 refine uG fun _ => ?_; try omega
 all_goals first | (exfalso; omega) | (refine vX rfl ?_; exact rr5 h5)
set_option maxHeartbeats 4000000 in
theorem rRight6_p (s : Stp) (h6 : s.kind = 6) : Pure E.P 33 [stOV s] (.bool s.right) := by
 have f1 : Frozen 1 := ⟨trivial⟩
 have c1 : Pure E.P 69 [stOV s] (.bool false) := (show s.lds = false by simp [Stp.lds, Stp.acc, h6]) ▸ eB s
 have c2 : Pure E.P 70 [stOV s] (.bool false) := (show s.sts = false by simp [Stp.sts, Stp.acc, h6]) ▸ cC s
 have cw := fun n a b => yN n a b
 refine fnA Tryz.func33 Tryz.ntmps33 ?_
 refine rZ ?_; refine aoR fun _ => ?_
 refine rZ ?_; refine aoR fun _ => ?_
 refine rZ ?_; refine aoR fun _ => ?_
 refine rZ ?_; refine aoR fun _ => ?_
 refine rZ ?_; refine cnd ?_ ?_
 refine uF fun _ => ?_; try omega
 refine uG fun _ => ?_; try omega
 refine rZ ?_; refine aoR fun _ => ?_
 refine rZ ?_; refine cnd ?_ ?_
 refine uF fun _ => ?_; try omega
 refine uG fun _ => ?_; try omega
 refine rZ ?_; refine aoR fun _ => ?_
 refine rZ ?_; refine cnd ?_ ?_
 refine uF fun _ => ?_; try omega
 refine uG fun _ => ?_; try omega
 refine aoR fun _ => ?_; refine rZ ?_
 refine cnd ?_ ?_
 refine uF fun _ => ?_; try omega
 refine uG fun _ => ?_; try omega
 refine rZ ?_; refine aoR fun _ => ?_
 refine rZ ?_; refine cnd ?_ ?_
 refine uF fun _ => ?_; try omega
 refine uG fun _ => ?_; try omega
 refine rZ ?_; refine aoR fun _ => ?_
 refine rZ ?_; refine cnd ?_ ?_
 refine uF fun _ => ?_; try omega
 refine rZ ?_; refine aoR fun _ => ?_
 refine rZ ?_; refine aoR fun _ => ?_
 refine rZ ?_
 apply gR ⟨s.kind, s.reg, 0, 0, 0, 0, false, false, 0, 0⟩ s; exact rfl; exact rfl
 refine rZ ?_
 apply spT; exact rfl
 intro hc_
 have hp_ := hc_; try simp only [nrm] at hp_
 apply uZ; exact evm; exact .fn _ _ _; exact wP; (exact cw _ _ _)
 refine rZ ?_; rotate_left
 refine uG fun _ => ?_; try omega
 all_goals first | (exfalso; omega) | (refine vX rfl ?_; exact rr6 h6)
set_option maxHeartbeats 4000000 in
theorem rRight7_p (s : Stp) (h : ¬ (1 ≤ s.kind ∧ s.kind ≤ 6)) : Pure E.P 33 [stOV s] (.bool s.right) := by
 have f1 : Frozen 1 := ⟨trivial⟩
 refine fnA Tryz.func33 Tryz.ntmps33 ?_
 refine rZ ?_; refine aoR fun _ => ?_
 refine rZ ?_; refine aoR fun _ => ?_
 refine rZ ?_; refine aoR fun _ => ?_
 refine rZ ?_; refine aoR fun _ => ?_
 refine rZ ?_; refine cnd ?_ ?_
 refine uF fun _ => ?_; try omega
 refine uG fun _ => ?_; try omega
 refine rZ ?_; refine aoR fun _ => ?_
 refine rZ ?_; refine cnd ?_ ?_
 refine uF fun _ => ?_; try omega
 refine uG fun _ => ?_; try omega
 refine rZ ?_; refine aoR fun _ => ?_
 refine rZ ?_; refine cnd ?_ ?_
 refine uF fun _ => ?_; try omega
 refine uG fun _ => ?_; try omega
 refine aoR fun _ => ?_; refine rZ ?_
 refine cnd ?_ ?_
 refine uF fun _ => ?_; try omega
 refine uG fun _ => ?_; try omega
 refine rZ ?_; refine aoR fun _ => ?_
 refine rZ ?_; refine cnd ?_ ?_
 refine uF fun _ => ?_; try omega
 refine uG fun _ => ?_; try omega
 refine rZ ?_; refine aoR fun _ => ?_
 refine rZ ?_; refine cnd ?_ ?_
 refine uF fun _ => ?_; try omega
 refine uG fun _ => ?_; try omega
 refine rZ ?_; refine aoR fun _ => ?_
 refine rZ ?_; rotate_left
 all_goals first | (exfalso; omega) | (refine vX rfl ?_; exact rr7 h)
theorem oQ (s : Stp) : Pure E.P 33 [stOV s] (.bool s.right) := by
 by_cases h : 1 ≤ s.kind ∧ s.kind ≤ 6
 ·rcases (by omega : s.kind = 1 ∨ s.kind = 2 ∨ s.kind = 3 ∨ s.kind = 4 ∨ s.kind = 5 ∨ s.kind = 6) with h | h | h | h | h | h
  ·exact rRight1_p s h
  ·exact rRight2_p s h
  ·exact rRight3_p s h
  ·exact rRight4_p s h
  ·exact rRight5_p s h
  ·exact rRight6_p s h
 ·exact rRight7_p s h
end Go.Proofs.YtjogffchdejabaaGreatDoor
