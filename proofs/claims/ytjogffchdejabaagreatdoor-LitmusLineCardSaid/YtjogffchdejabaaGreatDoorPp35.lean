/- Parts. -/
import Derived.Test.YtjogffchdejabaaGreatDoorRows
import Derived.SevenTiedAt
set_option linter.unusedVariables false
set_option linter.unusedSimpArgs false
set_option maxHeartbeats 4000000
set_option maxRecDepth 100000
namespace Go.Proofs.YtjogffchdejabaaGreatDoor.litmusLine
open Go Go.Proofs.YtjogffchdejabaaGreatDoor
theorem w1 : Rows.litmusLineRow.wfByText (OpenSpec.ofChange Rows.litmusLineSpec) = true := by kernel_rfl
theorem w2 : Tryz.pinned.checked.prog.mainIs = some (true, "9bd9f53e159ef81f0dd348efca9026319f0511cec34f5bfdeb39d8e428c0258b".toList) := by kernel_rfl
theorem w3 : true = Tryz.pinned.checked.prog.looks [] := by kernel_rfl
theorem w4 : false = Rows.litmusLineRow.goesBy Tryz.pinned.checked.prog := by kernel_rfl
theorem w5 : Tryz.prog.funcNamed "quadrille/quadrillelaw09.LitmusLine" = some 6 := by kernel_rfl
end Go.Proofs.YtjogffchdejabaaGreatDoor.litmusLine
