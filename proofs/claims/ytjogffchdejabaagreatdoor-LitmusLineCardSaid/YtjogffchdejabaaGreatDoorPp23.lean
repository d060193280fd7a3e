/- Parts. -/
import Derived.Shelf.SlSortCmp.WholeK
import Derived.Shelf.SlGeneric
import Derived.Ground.SlsfProg
import Derived.Test.YtjogffchdejabaaGreatDoorProg
set_option linter.unusedVariables false
set_option linter.unusedSimpArgs false
set_option maxHeartbeats 4000000
namespace Go.Proofs
open Go.Shelf
def Tryz.sortPairs_ren : Go.Shelf.Ren := ⟨fun | 6 => 263 | 15 => 105 | 14 => 283 | 28 => 169 | 29 => 170 | 20 => 319 | 21 => 320 | 22 => 321 | 23 => 322 | 24 => 323 | 25 => 324 | 26 => 325 | 27 => 326 | 46 => 331 | 47 => 201 | 48 => 202 | 49 => 332 | 50 => 333 | 57 => 336 | n => n, fun | 22 => 180 | 24 => 229 | 25 => 274 | 3 => 3 | 39 => 165 | 0 => 0 | 53 => 34 | 55 => 178 | 4 => 4 | 46 => 214 | 45 => 213 | 50 => 218 | 5 => 5 | 9 => 9 | 66 => 242 | 70 => 246 | 76 => 296 | 77 => 297 | n => n, fun | n => n⟩
theorem Tryz.sortPairs : Go.Proofs.SlLaysF0.n6 Tryz.prog Tryz.sortPairs_ren := {
 mixed := by kernel_rfl
 f6 := ⟨Tryz.f263.name, by decide, Tryz.func263.trans (congrArg some (by kernel_rfl))⟩
 f14 := ⟨Tryz.f283.name, by decide, Tryz.func283.trans (congrArg some (by kernel_rfl))⟩
 f15 := Tryz.func105.trans (congrArg some (by kernel_rfl))
 f20 := ⟨Tryz.f319.name, by decide, Tryz.func319.trans (congrArg some (by kernel_rfl))⟩
 f21 := ⟨Tryz.f320.name, by decide, Tryz.func320.trans (congrArg some (by kernel_rfl))⟩
 f22 := ⟨Tryz.f321.name, by decide, Tryz.func321.trans (congrArg some (by kernel_rfl))⟩
 f23 := ⟨Tryz.f322.name, by decide, Tryz.func322.trans (congrArg some (by kernel_rfl))⟩
 f24 := ⟨Tryz.f323.name, by decide, Tryz.func323.trans (congrArg some (by kernel_rfl))⟩
 f25 := ⟨Tryz.f324.name, by decide, Tryz.func324.trans (congrArg some (by kernel_rfl))⟩
 f26 := ⟨Tryz.f325.name, by decide, Tryz.func325.trans (congrArg some (by kernel_rfl))⟩
 f27 := ⟨Tryz.f326.name, by decide, Tryz.func326.trans (congrArg some (by kernel_rfl))⟩
 f28 := Tryz.func169.trans (congrArg some (by kernel_rfl))
 f29 := Tryz.func170.trans (congrArg some (by kernel_rfl))
 f46 := ⟨Tryz.f331.name, by decide, Tryz.func331.trans (congrArg some (by kernel_rfl))⟩
 f47 := Tryz.func201.trans (congrArg some (by kernel_rfl))
 f48 := Tryz.func202.trans (congrArg some (by kernel_rfl))
 f49 := ⟨Tryz.f332.name, by decide, Tryz.func332.trans (congrArg some (by kernel_rfl))⟩
 f50 := ⟨Tryz.f333.name, by decide, Tryz.func333.trans (congrArg some (by kernel_rfl))⟩
 f57 := ⟨Tryz.f336.name, by decide, Tryz.func336.trans (congrArg some (by kernel_rfl))⟩
 t0 := Tryz.underlying0
 a0 := Tryz.isAgg0
 z0 := Tryz.sizeOf0
 v0 := Tryz.zeroValue0
 t3 := Tryz.underlying3
 a3 := Tryz.isAgg3
 z3 := Tryz.sizeOf3
 v3 := Tryz.zeroValue3
 t4 := Tryz.underlying4
 a4 := Tryz.isAgg4
 z4 := Tryz.sizeOf4
 v4 := Tryz.zeroValue4
 t5 := Tryz.underlying5
 a5 := Tryz.isAgg5
 z5 := Tryz.sizeOf5
 v5 := Tryz.zeroValue5
 t9 := Tryz.underlying9
 a9 := Tryz.isAgg9
 z9 := Tryz.sizeOf9
 v9 := Tryz.zeroValue9
 t22 := Tryz.underlying180
 a22 := Tryz.isAgg180
 z22 := Tryz.sizeOf180
 v22 := Tryz.zeroValue180
 t25 := Tryz.underlying274
 a25 := Tryz.isAgg274
 z25 := Tryz.sizeOf274
 v25 := Tryz.zeroValue274
 t39 := Tryz.underlying165
 a39 := Tryz.isAgg165
 z39 := Tryz.sizeOf165
 v39 := Tryz.zeroValue165
 t45 := Tryz.underlying213
 a45 := Tryz.isAgg213
 z45 := Tryz.sizeOf213
 v45 := Tryz.zeroValue213
 t46 := Tryz.underlying214
 a46 := Tryz.isAgg214
 z46 := Tryz.sizeOf214
 v46 := Tryz.zeroValue214
 t50 := Tryz.underlying218
 a50 := Tryz.isAgg218
 z50 := Tryz.sizeOf218
 v50 := Tryz.zeroValue218
 t53 := Tryz.underlying34
 a53 := Tryz.isAgg34
 z53 := Tryz.sizeOf34
 v53 := Tryz.zeroValue34
 t55 := Tryz.underlying178
 a55 := Tryz.isAgg178
 z55 := Tryz.sizeOf178
 v55 := Tryz.zeroValue178
 t66 := Tryz.underlying242
 a66 := Tryz.isAgg242
 z66 := Tryz.sizeOf242
 v66 := Tryz.zeroValue242
 t70 := Tryz.underlying246
 a70 := Tryz.isAgg246
 z70 := Tryz.sizeOf246
 v70 := Tryz.zeroValue246
 t76 := Tryz.underlying296
 a76 := Tryz.isAgg296
 z76 := Tryz.sizeOf296
 v76 := Tryz.zeroValue296
 t77 := Tryz.underlying297
 a77 := Tryz.isAgg297
 z77 := Tryz.sizeOf297
 v77 := Tryz.zeroValue297 }
end Go.Proofs
