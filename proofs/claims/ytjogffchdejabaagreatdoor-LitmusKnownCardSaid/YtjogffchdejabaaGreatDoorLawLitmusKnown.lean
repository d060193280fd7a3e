/- The tied card of LitmusKnown. -/
import Derived.Test.YtjogffchdejabaaGreatDoorPk20
import Derived.Test.YtjogffchdejabaaGreatDoorTie
import Derived.Test.YtjogffchdejabaaGreatDoorPk21
import Derived.Test.YtjogffchdejabaaGreatDoorCards
import Derived.SevenTiedAt
set_option maxRecDepth 100000
namespace Go.Proofs.YtjogffchdejabaaGreatDoor.litmusKnown
open Go Go.Proofs.YtjogffchdejabaaGreatDoor
theorem w6 (f : FuncId) (fn : Func) (hf : Tryz.pinned.checked.prog.funcNamed Rows.litmusKnownRow.func = some f) (hfn : Tryz.pinned.checked.prog.funcs[f]? = some fn) : true = Tryz.pinned.checked.prog.looks [] ∧ ∀ (j : Nat) t, fn.params[j]? = some t → Tryz.pinned.checked.prog.wantsStandIn t = false := by
  obtain rfl : f = 3 := (Option.some.inj (w5.symm.trans hf)).symm
  obtain rfl : fn = Tryz.f3 := (Option.some.inj (Tryz.func3.symm.trans hfn)).symm
  refine ⟨w3, fun j t ht => ?_⟩
  rw [Tryz.params3] at ht
  cases ht
theorem proved : Rows.LitmusKnownCardSaid :=
  Claim7.holds_tied_plain_at .later [] [.data, .data, .data, .data, .sentinel, .sentinel, .pinned] true (true, "9bd9f53e159ef81f0dd348efca9026319f0511cec34f5bfdeb39d8e428c0258b") true
    over (fun _ h => by cases h) w1 (fun _ h => by cases h) litmusKnown_row_tie rfl ⟨rfl, rfl⟩ w2 rfl w6 w4
#print axioms proved
end Go.Proofs.YtjogffchdejabaaGreatDoor.litmusKnown
