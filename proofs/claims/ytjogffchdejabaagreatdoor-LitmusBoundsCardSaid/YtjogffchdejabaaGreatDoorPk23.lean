/- Parts. -/
import Derived.Test.YtjogffchdejabaaGreatDoorPk22
set_option maxRecDepth 1000000
namespace Go.Proofs.YtjogffchdejabaaGreatDoor.Ev
open Go
theorem bounds_ev : entOk Tryz.prog (orO (memo tW) ora0) fuel ⟨5, [], .bool true⟩ = true := by decide +kernel
theorem bounds_run : Runs 5 true := closed_run (orO_ok tW_ok ora0_ok) bounds_ev
end Go.Proofs.YtjogffchdejabaaGreatDoor.Ev
