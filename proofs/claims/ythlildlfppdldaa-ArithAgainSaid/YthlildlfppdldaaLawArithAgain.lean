/- The statement ArithAgain: the call returns true at all inputs, and leaves its arguments as they were. (The frame by the kit's shell; the walk by contracts.) -/
import Derived.Test.YthlildlfppdldaaRows
import Derived.Test.YthlildlfppdldaaAgw
import Derived.WalkKit
import Derived.ProofKit
import Derived.OpenShut
namespace Go.Proofs.Ythlildlfppdldaa.arithAgain
open Go.ChangeShapes Go.WideShapes Go.ChangeAt Go.RowKit
set_option linter.unusedVariables false      -- a walk need not use every 'w<i>' (that an integer argument fits its kind)

theorem own : ownKnob Try.prog.godebug = none := by kernel_rfl

/-! ### STEP 1: THE WALK: the Go text returns true. 'Grown w w'': the world has at most new blocks (Derived/RowKit3.lean). Part the cases AHEAD of 'go_enter' where a test parts the walk; take each callee by a contract of your own. -/
theorem walk (a0 : Int) (a1 : Int) (w0 : (Lit.int .u32 a0).wf = true) (w1 : (Lit.int .u32 a1).wf = true) (w : World) :
    Calls Try.prog 11 #[.int .u32 a0, .int .u32 a1] w fun e w' => e = .returned (.bool true) ∧ Grown w w' := by
  obtain ⟨x0, x1⟩ := Am.wf_bd a0 w0
  obtain ⟨y0, y1⟩ := Am.wf_bd a1 w1
  have ord : (Am.sg a0 < Am.sg a1) ∨ (Am.sg a1 < Am.sg a0) ∨ (a0 = a1) := by
    rcases Int.lt_trichotomy (Am.sg a0) (Am.sg a1) with h | h | h
    · exact Or.inl h
    · exact Or.inr (Or.inr (sg_inj a0 a1 x0 x1 y0 y1 h))
    · exact Or.inr (Or.inl h)
  by_cases hb : a1 = 0
  · have hk : a1 % 32 = 0 := by omega
    rcases ord with h | h | h
    · exact walk000 a0 a1 w0 w1 w hb hk (Lib.hid (by simpa using h)) (Lib.hid (by simp; omega)) (by simp; intro e; subst e; omega)
    · exact walk001 a0 a1 w0 w1 w hb hk (Lib.hid (by simp; omega)) (Lib.hid (by simpa using h)) (by simp; intro e; subst e; omega)
    · exact walk002 a0 a1 w0 w1 w hb hk (Lib.hid (by subst h; simp)) (Lib.hid (by subst h; simp)) (by simpa using h)
  · by_cases hk : a1 % 32 = 0
    · rcases ord with h | h | h
      · exact walk100 a0 a1 w0 w1 w hb hk (Lib.hid (by simpa using h)) (Lib.hid (by simp; omega)) (by simp; intro e; subst e; omega)
      · exact walk101 a0 a1 w0 w1 w hb hk (Lib.hid (by simp; omega)) (Lib.hid (by simpa using h)) (by simp; intro e; subst e; omega)
      · exact walk102 a0 a1 w0 w1 w hb hk (Lib.hid (by subst h; simp)) (Lib.hid (by subst h; simp)) (by simpa using h)
    · have hk' : 0 < a1 % 32 := by omega
      rcases ord with h | h | h
      · exact walk110 a0 a1 w0 w1 w hb hk' (Lib.hid (by simpa using h)) (Lib.hid (by simp; omega)) (by simp; intro e; subst e; omega)
      · exact walk111 a0 a1 w0 w1 w hb hk' (Lib.hid (by simp; omega)) (Lib.hid (by simpa using h)) (by simp; intro e; subst e; omega)
      · exact walk112 a0 a1 w0 w1 w hb hk' (Lib.hid (by subst h; simp)) (Lib.hid (by subst h; simp)) (by simpa using h)

/-! ### THE ROW's STEP: WRITTEN OUT: LEAVE IT -/
set_option maxRecDepth 100000 in
theorem lifted (os : Os) (started : os.Started) (H : Type) (enc : TypeId × Value → H) :
    ReturnsInHanded {} Try.checked os 11 .any (Rows.arithAgainSpec.pre6 enc Try.prog Try.f11 Rows.arithAgainRow.domain false) (Rows.arithAgainSpec.post enc Try.prog Try.f11 false true false false) := by
  refine returnsInHanded_of_change (C := Try.checked) own started (by kernel_rfl) Try.func11
    (ChangeSpec.witness6 (enc := enc) (C := Try.checked) false ⟨#[], #[.int .u32 0, .int .u32 0], []⟩ 8 (by kernel_rfl) (by kernel_rfl) (by kernel_rfl) (by kernel_rfl)) ?_
  intro W base args ds gs before hval0 hW hcnd _
  have hval : ∀ (j : Nat) t v, Try.f11.params[j]? = some t → args[j]? = some v → Value.okWide Try.prog W .any base t v := hval0
  have hW' := hW
  obtain ⟨p, q, hA0, hV, rfl, hfz, hnd⟩ := hW
  have hA : DataW.TrodAll enc Try.prog W 0 (fun _ => true) true Try.f11.params.toList args.toList ds p := hA0
  rw [Try.params11] at hA hval
  obtain ⟨v0, vs0, d0, ds0, p0, q0, hargs, rfl, rfl, h0, r0⟩ := trodAll_cons hA
  obtain ⟨v1, vs1, d1, ds1, p1, q1, rfl, rfl, rfl, h1, r1⟩ := trodAll_cons r0
  obtain ⟨rfl, rfl, rfl⟩ := trodAll_nil r1
  obtain rfl : args = #[v0, v1] := by cases args; simp_all
  obtain ⟨rfl, rfl⟩ := trodVars_none hV
  obtain ⟨a0, rfl, rfl, rfl, w0⟩ := open_int Try.underlying22 (hval 0 22 v0 rfl rfl) h0
  obtain ⟨a1, rfl, rfl, rfl, w1⟩ := open_int Try.underlying22 (hval 1 22 v1 rfl rfl) h1
  clear hA0 hval0
  simp only [List.append_nil] at hW'
  refine (walk a0 a1 w0 w1 W).mono fun e W' ⟨he, hg⟩ => ?_
  subst he
  exact ⟨_, rfl, post_of_same (pa := []) (pv := []) hW' (fun _ _ _ => (trodAll_cons_mk (shut_bool Try.underlying4 _) trodAll_mk0)) (fun sp _ => (trodAll_cons_mk (shut_int Try.underlying22 w0) (trodAll_cons_mk (shut_int Try.underlying22 w1) trodAll_mk0))) (fun _ _ => rfl) rfl
    (hg.frame _) hg.2.1 (ok_one (by kernel_rfl) rfl (okWide_bool_mk Try.underlying4 _))⟩

theorem over : Rows.arithAgainRow.holds Try.pinned (OpenSpec.ofChange Rows.arithAgainSpec) :=
  OpenClaim.holds_of_wide 11 Try.f11 rfl rfl rfl rfl rfl rfl rfl ⟨rfl, rfl, rfl, rfl, rfl⟩ rfl rfl rfl rfl rfl (by kernel_rfl) Try.func11 (by kernel_rfl)
    (of_decide_eq_true (by kernel_rfl)) (by unfold Func.isWrapper; first | (rw [if_pos (by decide +kernel)]; kernel_rfl) | (rw [if_neg (by decide +kernel)]; exact ⟨rfl, rfl⟩))
    (fun os started H enc _ => lifted os started H enc)

/-- ████ THE STATEMENT ████ -/
theorem proved : Rows.ArithAgainSaid :=
  over
end Go.Proofs.Ythlildlfppdldaa.arithAgain
