/- The tied card of LitmusBounds. -/
import Derived.Test.YtjogffchdejabaaGreatDoorPk25
import Derived.Test.YtjogffchdejabaaGreatDoorTie
import Derived.Test.YtjogffchdejabaaGreatDoorPk26
import Derived.Test.YtjogffchdejabaaGreatDoorCards
import Derived.SevenTiedAt
set_option maxRecDepth 100000
namespace Go.Proofs.YtjogffchdejabaaGreatDoor.litmusBounds
open Go Go.Proofs.YtjogffchdejabaaGreatDoor
theorem w6 (f : FuncId) (fn : Func) (hf : Tryz.pinned.checked.prog.funcNamed Rows.litmusBoundsRow.func = some f) (hfn : Tryz.pinned.checked.prog.funcs[f]? = some fn) : true = Tryz.pinned.checked.prog.looks [] ∧ ∀ (j : Nat) t, fn.params[j]? = some t → Tryz.pinned.checked.prog.wantsStandIn t = false := by
  obtain rfl : f = 5 := (Option.some.inj (w5.symm.trans hf)).symm
  obtain rfl : fn = Tryz.f5 := (Option.some.inj (Tryz.func5.symm.trans hfn)).symm
  refine ⟨w3, fun j t ht => ?_⟩
  rw [Tryz.params5] at ht
  cases ht
theorem proved : Rows.LitmusBoundsCardSaid :=
  Claim7.holds_tied_plain_at .later [] [.data, .data, .data, .data, .sentinel, .sentinel, .pinned] true (true, "9bd9f53e159ef81f0dd348efca9026319f0511cec34f5bfdeb39d8e428c0258b") true
    over (fun _ h => by cases h) w1 (fun _ h => by cases h) litmusBounds_row_tie rfl ⟨rfl, rfl⟩ w2 rfl w6 w4
#print axioms proved
end Go.Proofs.YtjogffchdejabaaGreatDoor.litmusBounds
