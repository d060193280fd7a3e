/- Parts. -/
import Derived.Test.YtjogffchdejabaaGreatDoorPk6
set_option maxRecDepth 1000000
namespace Go.Proofs.YtjogffchdejabaaGreatDoor.Ev
open Go
def t5 : List Ent := [a19, a20, a21, a22]
theorem l5_ok : entOk Tryz.prog (orO (memo t5) ora0) fuel l5 = true := by decide +kernel
end Go.Proofs.YtjogffchdejabaaGreatDoor.Ev
