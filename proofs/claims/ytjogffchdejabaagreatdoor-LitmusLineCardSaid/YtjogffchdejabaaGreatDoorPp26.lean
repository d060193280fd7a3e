/- Parts. -/
import Derived.Test.YtjogffchdejabaaGreatDoorPp24
set_option linter.unusedVariables false
set_option linter.unusedSimpArgs false
set_option maxHeartbeats 4000000
set_option maxRecDepth 1000000
namespace Go.Proofs.YtjogffchdejabaaGreatDoor.Ev
open Go
def t0 : List Ent := [a0, a1, a2, a3]
theorem l0_ok : entOk Tryz.prog (orO (memo t0) ora0) fuel l0 = true := by decide +kernel
end Go.Proofs.YtjogffchdejabaaGreatDoor.Ev
