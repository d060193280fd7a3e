/- Parts. -/
import Derived.Test.YtjogffchdejabaaGreatDoorPk6
set_option maxRecDepth 1000000
namespace Go.Proofs.YtjogffchdejabaaGreatDoor.Ev
open Go
def t3 : List Ent := [a12, a13, a14]
theorem l3_ok : entOk Tryz.prog (orO (memo t3) ora0) fuel l3 = true := by decide +kernel
end Go.Proofs.YtjogffchdejabaaGreatDoor.Ev
