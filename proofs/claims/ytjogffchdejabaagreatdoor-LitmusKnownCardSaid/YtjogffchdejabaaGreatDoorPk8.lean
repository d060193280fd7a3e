/- Parts. -/
import Derived.Test.YtjogffchdejabaaGreatDoorPk6
set_option maxRecDepth 1000000
namespace Go.Proofs.YtjogffchdejabaaGreatDoor.Ev
open Go
theorem c8_ok : entOk Tryz.prog ora0 fuel c8 = true := by decide +kernel
theorem a8_ok : entOk Tryz.prog (orO (memo [c8]) ora0) fuel a8 = true := by decide +kernel
theorem c9_ok : entOk Tryz.prog ora0 fuel c9 = true := by decide +kernel
theorem a9_ok : entOk Tryz.prog (orO (memo [c9]) ora0) fuel a9 = true := by decide +kernel
theorem c10_ok : entOk Tryz.prog ora0 fuel c10 = true := by decide +kernel
theorem a10_ok : entOk Tryz.prog (orO (memo [c10]) ora0) fuel a10 = true := by decide +kernel
theorem c11_ok : entOk Tryz.prog ora0 fuel c11 = true := by decide +kernel
theorem a11_ok : entOk Tryz.prog (orO (memo [c11]) ora0) fuel a11 = true := by decide +kernel
theorem c12_ok : entOk Tryz.prog ora0 fuel c12 = true := by decide +kernel
theorem a12_ok : entOk Tryz.prog (orO (memo [c12]) ora0) fuel a12 = true := by decide +kernel
theorem c13_ok : entOk Tryz.prog ora0 fuel c13 = true := by decide +kernel
theorem a13_ok : entOk Tryz.prog (orO (memo [c13]) ora0) fuel a13 = true := by decide +kernel
theorem c14_ok : entOk Tryz.prog ora0 fuel c14 = true := by decide +kernel
theorem a14_ok : entOk Tryz.prog (orO (memo [c14]) ora0) fuel a14 = true := by decide +kernel
theorem c15_ok : entOk Tryz.prog ora0 fuel c15 = true := by decide +kernel
theorem a15_ok : entOk Tryz.prog (orO (memo [c15]) ora0) fuel a15 = true := by decide +kernel
end Go.Proofs.YtjogffchdejabaaGreatDoor.Ev
