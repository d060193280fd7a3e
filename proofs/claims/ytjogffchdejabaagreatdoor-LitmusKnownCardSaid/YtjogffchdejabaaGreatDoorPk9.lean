/- Parts. -/
import Derived.Test.YtjogffchdejabaaGreatDoorPk6
set_option maxRecDepth 1000000
namespace Go.Proofs.YtjogffchdejabaaGreatDoor.Ev
open Go
theorem c16_ok : entOk Tryz.prog ora0 fuel c16 = true := by decide +kernel
theorem a16_ok : entOk Tryz.prog (orO (memo [c16]) ora0) fuel a16 = true := by decide +kernel
theorem c17_ok : entOk Tryz.prog ora0 fuel c17 = true := by decide +kernel
theorem a17_ok : entOk Tryz.prog (orO (memo [c17]) ora0) fuel a17 = true := by decide +kernel
theorem c18_ok : entOk Tryz.prog ora0 fuel c18 = true := by decide +kernel
theorem a18_ok : entOk Tryz.prog (orO (memo [c18]) ora0) fuel a18 = true := by decide +kernel
theorem c19_ok : entOk Tryz.prog ora0 fuel c19 = true := by decide +kernel
theorem a19_ok : entOk Tryz.prog (orO (memo [c19]) ora0) fuel a19 = true := by decide +kernel
theorem c20_ok : entOk Tryz.prog ora0 fuel c20 = true := by decide +kernel
theorem a20_ok : entOk Tryz.prog (orO (memo [c20]) ora0) fuel a20 = true := by decide +kernel
theorem c21_ok : entOk Tryz.prog ora0 fuel c21 = true := by decide +kernel
theorem a21_ok : entOk Tryz.prog (orO (memo [c21]) ora0) fuel a21 = true := by decide +kernel
theorem c22_ok : entOk Tryz.prog ora0 fuel c22 = true := by decide +kernel
theorem a22_ok : entOk Tryz.prog (orO (memo [c22]) ora0) fuel a22 = true := by decide +kernel
theorem c23_ok : entOk Tryz.prog ora0 fuel c23 = true := by decide +kernel
theorem a23_ok : entOk Tryz.prog (orO (memo [c23]) ora0) fuel a23 = true := by decide +kernel
end Go.Proofs.YtjogffchdejabaaGreatDoor.Ev
