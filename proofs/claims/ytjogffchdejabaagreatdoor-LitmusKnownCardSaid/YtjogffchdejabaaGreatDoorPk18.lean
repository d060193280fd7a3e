/- Parts. -/
import Derived.Test.YtjogffchdejabaaGreatDoorPk7
import Derived.Test.YtjogffchdejabaaGreatDoorPk8
import Derived.Test.YtjogffchdejabaaGreatDoorPk9
import Derived.Test.YtjogffchdejabaaGreatDoorPk10
import Derived.Test.YtjogffchdejabaaGreatDoorPk11
import Derived.Test.YtjogffchdejabaaGreatDoorPk12
import Derived.Test.YtjogffchdejabaaGreatDoorPk13
import Derived.Test.YtjogffchdejabaaGreatDoorPk14
import Derived.Test.YtjogffchdejabaaGreatDoorPk15
import Derived.Test.YtjogffchdejabaaGreatDoorPk16
import Derived.Test.YtjogffchdejabaaGreatDoorPk17
set_option maxRecDepth 1000000
namespace Go.Proofs.YtjogffchdejabaaGreatDoor.Ev
open Go
theorem mixed : Tryz.prog.follows .mixedOrders = true := by kernel_rfl
def EntA (e : Ent) : Prop := ∃ O n, OraOk Tryz.prog O ∧ entOk Tryz.prog O n e = true
theorem one_ok {e : Ent} (h : entOk Tryz.prog ora0 fuel e = true) : OraOk Tryz.prog (memo [e]) := memo_ok mixed fun e' he => by cases List.mem_singleton.1 he; exact ⟨ora0, fuel, ora0_ok, h⟩
theorem ent_of {c a : Ent} (h : entOk Tryz.prog ora0 fuel c = true) (h' : entOk Tryz.prog (orO (memo [c]) ora0) fuel a = true) : EntA a := ⟨_, fuel, orO_ok (one_ok h) ora0_ok, h'⟩
theorem ec {e : Ent} {l : List Ent} (h : EntA e) (h' : ∀ x ∈ l, EntA x) : ∀ x ∈ e :: l, EntA x := List.forall_mem_cons.2 ⟨h, h'⟩
theorem en : ∀ x ∈ ([] : List Ent), EntA x := fun x h => by cases h
theorem t0_ok : OraOk Tryz.prog (memo t0) := memo_ok mixed (ec (ent_of c0_ok a0_ok) (ec (ent_of c1_ok a1_ok) (ec (ent_of c2_ok a2_ok) (ec (ent_of c3_ok a3_ok) en))))
theorem l0_ent : EntA l0 := ⟨_, fuel, orO_ok t0_ok ora0_ok, l0_ok⟩
theorem t1_ok : OraOk Tryz.prog (memo t1) := memo_ok mixed (ec (ent_of c4_ok a4_ok) (ec (ent_of c5_ok a5_ok) (ec (ent_of c6_ok a6_ok) (ec (ent_of c7_ok a7_ok) en))))
theorem l1_ent : EntA l1 := ⟨_, fuel, orO_ok t1_ok ora0_ok, l1_ok⟩
theorem t2_ok : OraOk Tryz.prog (memo t2) := memo_ok mixed (ec (ent_of c8_ok a8_ok) (ec (ent_of c9_ok a9_ok) (ec (ent_of c10_ok a10_ok) (ec (ent_of c11_ok a11_ok) en))))
theorem l2_ent : EntA l2 := ⟨_, fuel, orO_ok t2_ok ora0_ok, l2_ok⟩
theorem t3_ok : OraOk Tryz.prog (memo t3) := memo_ok mixed (ec (ent_of c12_ok a12_ok) (ec (ent_of c13_ok a13_ok) (ec (ent_of c14_ok a14_ok) en)))
theorem l3_ent : EntA l3 := ⟨_, fuel, orO_ok t3_ok ora0_ok, l3_ok⟩
theorem t4_ok : OraOk Tryz.prog (memo t4) := memo_ok mixed (ec (ent_of c15_ok a15_ok) (ec (ent_of c16_ok a16_ok) (ec (ent_of c17_ok a17_ok) (ec (ent_of c18_ok a18_ok) en))))
theorem l4_ent : EntA l4 := ⟨_, fuel, orO_ok t4_ok ora0_ok, l4_ok⟩
theorem t5_ok : OraOk Tryz.prog (memo t5) := memo_ok mixed (ec (ent_of c19_ok a19_ok) (ec (ent_of c20_ok a20_ok) (ec (ent_of c21_ok a21_ok) (ec (ent_of c22_ok a22_ok) en))))
theorem l5_ent : EntA l5 := ⟨_, fuel, orO_ok t5_ok ora0_ok, l5_ok⟩
theorem t6_ok : OraOk Tryz.prog (memo t6) := memo_ok mixed (ec (ent_of c23_ok a23_ok) (ec (ent_of c24_ok a24_ok) (ec (ent_of c25_ok a25_ok) (ec (ent_of c26_ok a26_ok) (ec (ent_of c27_ok a27_ok) (ec (ent_of c28_ok a28_ok) (ec (ent_of c29_ok a29_ok) (ec (ent_of c30_ok a30_ok) en))))))))
theorem l6_ent : EntA l6 := ⟨_, fuel, orO_ok t6_ok ora0_ok, l6_ok⟩
def tW : List Ent := [l0, l1]
theorem tW_ok : OraOk Tryz.prog (memo tW) := memo_ok mixed (ec l0_ent (ec l1_ent en))
def tL : List Ent := [l0, l1, l2, l3, l4, l5, l6]
theorem tL_ok : OraOk Tryz.prog (memo tL) := memo_ok mixed (ec l0_ent (ec l1_ent (ec l2_ent (ec l3_ent (ec l4_ent (ec l5_ent (ec l6_ent en)))))))
theorem works_ev : entOk Tryz.prog (orO (memo tW) ora0) fuel ⟨17, [], .bool true⟩ = true := by decide +kernel
theorem known_ev : entOk Tryz.prog (orO (memo tL) (orO (memo t5) ora0)) fuel ⟨3, [], .bool true⟩ = true := by decide +kernel
def Runs (f : FuncId) (b : Bool) : Prop := ∀ w, Enters Tryz.prog f ∧ Calls Tryz.prog f #[] w (fun e w' => e = .returned (.bool b) ∧ w'.os = w.os ∧ w'.tape = w.tape ∧ w'.output = w.output ∧ w.heap.size ≤ w'.heap.size ∧ ∀ k, k < w.heap.size → w'.heap[k]? = w.heap[k]?)
theorem closed_run {f : FuncId} {b : Bool} {O : Ora} (hO : OraOk Tryz.prog O) (h : entOk Tryz.prog O fuel ⟨f, [], .bool b⟩ = true) : Runs f b := fun w => by
  obtain ⟨_, s', hc⟩ := entOk_call h
  obtain ⟨hen, hs⟩ := closed_ok mixed hO hc w
  refine ⟨hen, hs.mono fun e w' ⟨x, π, he, hx, hr⟩ => ?_⟩
  rw [rep_bool hx] at he
  exact ⟨he, hr.os, hr.tape, hr.output, hr.size, hr.keep⟩
theorem works_run : Runs 17 true := closed_run (orO_ok tW_ok ora0_ok) works_ev
theorem known_run : Runs 3 true := closed_run (orO_ok tL_ok (orO_ok t5_ok ora0_ok)) known_ev
end Go.Proofs.YtjogffchdejabaaGreatDoor.Ev
