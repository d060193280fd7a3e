/- Parts. -/
import Derived.Test.YtjogffchdejabaaGreatDoorPk6
set_option maxRecDepth 1000000
namespace Go.Proofs.YtjogffchdejabaaGreatDoor.Ev
open Go
def t2 : List Ent := [a8, a9, a10, a11]
theorem l2_ok : entOk Tryz.prog (orO (memo t2) ora0) fuel l2 = true := by decide +kernel
end Go.Proofs.YtjogffchdejabaaGreatDoor.Ev
