/- Parts. -/
import Derived.Test.YtjogffchdejabaaGreatDoorPk6
set_option maxRecDepth 1000000
namespace Go.Proofs.YtjogffchdejabaaGreatDoor.Ev
open Go
def t4 : List Ent := [a15, a16, a17, a18]
theorem l4_ok : entOk Tryz.prog (orO (memo t4) ora0) fuel l4 = true := by decide +kernel
end Go.Proofs.YtjogffchdejabaaGreatDoor.Ev
