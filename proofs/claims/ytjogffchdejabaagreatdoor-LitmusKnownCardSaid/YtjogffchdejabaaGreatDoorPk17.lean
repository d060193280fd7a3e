/- Parts. -/
import Derived.Test.YtjogffchdejabaaGreatDoorPk6
set_option maxRecDepth 1000000
namespace Go.Proofs.YtjogffchdejabaaGreatDoor.Ev
open Go
def t6 : List Ent := [a23, a24, a25, a26, a27, a28, a29, a30]
theorem l6_ok : entOk Tryz.prog (orO (memo t6) ora0) fuel l6 = true := by decide +kernel
end Go.Proofs.YtjogffchdejabaaGreatDoor.Ev
