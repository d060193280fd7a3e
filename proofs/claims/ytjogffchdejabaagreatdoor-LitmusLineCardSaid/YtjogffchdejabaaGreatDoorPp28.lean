/- Parts. -/
import Derived.Test.YtjogffchdejabaaGreatDoorPp25
import Derived.Test.YtjogffchdejabaaGreatDoorPp26
import Derived.Test.YtjogffchdejabaaGreatDoorPp27
set_option linter.unusedVariables false
set_option linter.unusedSimpArgs false
set_option maxHeartbeats 4000000
set_option maxRecDepth 1000000
namespace Go.Proofs.YtjogffchdejabaaGreatDoor.Ev
open Go
theorem mixed : Tryz.prog.follows .mixedOrders = true := by kernel_rfl
def EntA (e : Ent) : Prop := ∃ O n, OraOk Tryz.prog O ∧ entOk Tryz.prog O n e = true
theorem one_ok {e : Ent} (h : entOk Tryz.prog ora0 fuel e = true) : OraOk Tryz.prog (memo [e]) := iO mixed fun e' he => by cases List.mem_singleton.1 he; exact ⟨ora0, fuel, fG, h⟩
theorem cF {c a : Ent} (h : entOk Tryz.prog ora0 fuel c = true) (h' : entOk Tryz.prog (orO (memo [c]) ora0) fuel a = true) : EntA a := ⟨_, fuel, gH (one_ok h) fG, h'⟩
theorem ec {e : Ent} {l : List Ent} (h : EntA e) (h' : ∀ x ∈ l, EntA x) : ∀ x ∈ e :: l, EntA x := List.forall_mem_cons.2 ⟨h, h'⟩
theorem en : ∀ x ∈ ([] : List Ent), EntA x := fun x h => by cases h
theorem t0_ok : OraOk Tryz.prog (memo t0) := iO mixed (ec (cF c0_ok a0_ok) (ec (cF c1_ok a1_ok) (ec (cF c2_ok a2_ok) (ec (cF c3_ok a3_ok) en))))
theorem l0_ent : EntA l0 := ⟨_, fuel, gH t0_ok fG, l0_ok⟩
theorem t1_ok : OraOk Tryz.prog (memo t1) := iO mixed (ec (cF c4_ok a4_ok) (ec (cF c5_ok a5_ok) (ec (cF c6_ok a6_ok) (ec (cF c7_ok a7_ok) en))))
theorem l1_ent : EntA l1 := ⟨_, fuel, gH t1_ok fG, l1_ok⟩
def tW : List Ent := [l0, l1]
theorem tW_ok : OraOk Tryz.prog (memo tW) := iO mixed (ec l0_ent (ec l1_ent en))
theorem works_ev : entOk Tryz.prog (orO (memo tW) ora0) fuel ⟨17, [], .bool true⟩ = true := by decide +kernel
def Runs (f : FuncId) (b : Bool) : Prop := ∀ w, Enters Tryz.prog f ∧ Calls Tryz.prog f #[] w (fun e w' => e = .returned (.bool b) ∧ w'.os = w.os ∧ w'.tape = w.tape ∧ w'.output = w.output ∧ w.heap.size ≤ w'.heap.size ∧ ∀ k, k < w.heap.size → w'.heap[k]? = w.heap[k]?)
theorem closed_run {f : FuncId} {b : Bool} {O : Ora} (hO : OraOk Tryz.prog O) (h : entOk Tryz.prog O fuel ⟨f, [], .bool b⟩ = true) : Runs f b := fun w => by
 obtain ⟨_, s', hc⟩ := kH h
 obtain ⟨hen, hs⟩ := closed_ok mixed hO hc w
 refine ⟨hen, hs.mono fun e w' ⟨x, π, he, hx, hr⟩ => ?_⟩
 rw [zO hx] at he
 exact ⟨he, hr.os, hr.tape, hr.output, hr.size, hr.keep⟩
theorem works_run : Runs 17 true := closed_run (gH tW_ok fG) works_ev
end Go.Proofs.YtjogffchdejabaaGreatDoor.Ev
