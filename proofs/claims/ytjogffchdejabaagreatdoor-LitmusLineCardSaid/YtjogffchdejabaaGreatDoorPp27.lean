/- Parts. -/
import Derived.Test.YtjogffchdejabaaGreatDoorPp24
set_option linter.unusedVariables false
set_option linter.unusedSimpArgs false
set_option maxHeartbeats 4000000
set_option maxRecDepth 1000000
namespace Go.Proofs.YtjogffchdejabaaGreatDoor.Ev
open Go
def t1 : List Ent := [a4, a5, a6, a7]
theorem l1_ok : entOk Tryz.prog (orO (memo t1) ora0) fuel l1 = true := by decide +kernel
end Go.Proofs.YtjogffchdejabaaGreatDoor.Ev
