/- Parts. -/
import Derived.Test.YtjogffchdejabaaGreatDoorPk6
set_option maxRecDepth 1000000
namespace Go.Proofs.YtjogffchdejabaaGreatDoor.Ev
open Go
theorem c24_ok : entOk Tryz.prog ora0 fuel c24 = true := by decide +kernel
theorem a24_ok : entOk Tryz.prog (orO (memo [c24]) ora0) fuel a24 = true := by decide +kernel
theorem c25_ok : entOk Tryz.prog ora0 fuel c25 = true := by decide +kernel
theorem a25_ok : entOk Tryz.prog (orO (memo [c25]) ora0) fuel a25 = true := by decide +kernel
theorem c26_ok : entOk Tryz.prog ora0 fuel c26 = true := by decide +kernel
theorem a26_ok : entOk Tryz.prog (orO (memo [c26]) ora0) fuel a26 = true := by decide +kernel
theorem c27_ok : entOk Tryz.prog ora0 fuel c27 = true := by decide +kernel
theorem a27_ok : entOk Tryz.prog (orO (memo [c27]) ora0) fuel a27 = true := by decide +kernel
theorem c28_ok : entOk Tryz.prog ora0 fuel c28 = true := by decide +kernel
theorem a28_ok : entOk Tryz.prog (orO (memo [c28]) ora0) fuel a28 = true := by decide +kernel
theorem c29_ok : entOk Tryz.prog ora0 fuel c29 = true := by decide +kernel
theorem a29_ok : entOk Tryz.prog (orO (memo [c29]) ora0) fuel a29 = true := by decide +kernel
theorem c30_ok : entOk Tryz.prog ora0 fuel c30 = true := by decide +kernel
theorem a30_ok : entOk Tryz.prog (orO (memo [c30]) ora0) fuel a30 = true := by decide +kernel
end Go.Proofs.YtjogffchdejabaaGreatDoor.Ev
