/- The tied card of LitmusLine. -/
import Derived.Test.YtjogffchdejabaaGreatDoorPp34
import Derived.Test.YtjogffchdejabaaGreatDoorTie
import Derived.Test.YtjogffchdejabaaGreatDoorPp35
import Derived.Test.YtjogffchdejabaaGreatDoorCards
import Derived.SevenTiedAt
set_option maxRecDepth 100000
namespace Go.Proofs.YtjogffchdejabaaGreatDoor.litmusLine
open Go Go.Proofs.YtjogffchdejabaaGreatDoor
theorem w6 (f : FuncId) (fn : Func) (hf : Tryz.pinned.checked.prog.funcNamed Rows.litmusLineRow.func = some f) (hfn : Tryz.pinned.checked.prog.funcs[f]? = some fn) : true = Tryz.pinned.checked.prog.looks [] ∧ ∀ (j : Nat) t, fn.params[j]? = some t → Tryz.pinned.checked.prog.wantsStandIn t = false := by
  obtain rfl : f = 6 := (Option.some.inj (w5.symm.trans hf)).symm
  obtain rfl : fn = Tryz.f6 := (Option.some.inj (Tryz.func6.symm.trans hfn)).symm
  refine ⟨w3, fun j t ht => ?_⟩
  rw [Tryz.params6] at ht
  rcases j with _ | _ <;> simp at ht <;> subst ht <;> kernel_rfl
theorem proved : Rows.LitmusLineCardSaid :=
  Claim7.holds_tied_plain_at .later [] [.data, .data, .data, .data, .sentinel, .sentinel, .pinned] true (true, "9bd9f53e159ef81f0dd348efca9026319f0511cec34f5bfdeb39d8e428c0258b") true
    over (fun _ h => by cases h) w1 (fun _ h => by cases h) litmusLine_row_tie rfl ⟨rfl, rfl⟩ w2 rfl w6 w4
#print axioms proved
end Go.Proofs.YtjogffchdejabaaGreatDoor.litmusLine
