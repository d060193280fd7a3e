/- Parts. -/
import Derived.Test.YtjogffchdejabaaGreatDoorPp24
set_option linter.unusedVariables false
set_option linter.unusedSimpArgs false
set_option maxHeartbeats 4000000
set_option maxRecDepth 1000000
namespace Go.Proofs.YtjogffchdejabaaGreatDoor.Ev
open Go
theorem c0_ok : entOk Tryz.prog ora0 fuel c0 = true := by decide +kernel
theorem a0_ok : entOk Tryz.prog (orO (memo [c0]) ora0) fuel a0 = true := by decide +kernel
theorem c1_ok : entOk Tryz.prog ora0 fuel c1 = true := by decide +kernel
theorem a1_ok : entOk Tryz.prog (orO (memo [c1]) ora0) fuel a1 = true := by decide +kernel
theorem c2_ok : entOk Tryz.prog ora0 fuel c2 = true := by decide +kernel
theorem a2_ok : entOk Tryz.prog (orO (memo [c2]) ora0) fuel a2 = true := by decide +kernel
theorem c3_ok : entOk Tryz.prog ora0 fuel c3 = true := by decide +kernel
theorem a3_ok : entOk Tryz.prog (orO (memo [c3]) ora0) fuel a3 = true := by decide +kernel
theorem c4_ok : entOk Tryz.prog ora0 fuel c4 = true := by decide +kernel
theorem a4_ok : entOk Tryz.prog (orO (memo [c4]) ora0) fuel a4 = true := by decide +kernel
theorem c5_ok : entOk Tryz.prog ora0 fuel c5 = true := by decide +kernel
theorem a5_ok : entOk Tryz.prog (orO (memo [c5]) ora0) fuel a5 = true := by decide +kernel
theorem c6_ok : entOk Tryz.prog ora0 fuel c6 = true := by decide +kernel
theorem a6_ok : entOk Tryz.prog (orO (memo [c6]) ora0) fuel a6 = true := by decide +kernel
theorem c7_ok : entOk Tryz.prog ora0 fuel c7 = true := by decide +kernel
theorem a7_ok : entOk Tryz.prog (orO (memo [c7]) ora0) fuel a7 = true := by decide +kernel
end Go.Proofs.YtjogffchdejabaaGreatDoor.Ev
