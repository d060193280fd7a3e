/- The table of the types that the walks meet, out of the program's own. -/
import Derived.Test.YtnghoibkjphfmaaGreatRows
import Derived.Test.YtnghoibkjphfmaaGreatPe2
set_option linter.unusedSimpArgs false
set_option maxRecDepth 100000
namespace Go.Proofs.YtnghoibkjphfmaaGreat
open Go.RowKit
theorem te_fits {P : Program} {T : TypeId} {k : TK} {size bytes : Nat} {zero : List Value} {z : Value} (hk : k.fits P T) (hi : (P.info? T).map (fun i => (i.zero, i.size, i.bytes)) = some (some z, size, bytes)) (hz : z.cells.toList = zero) (hl : zero.length = size) (h1 : zero.all (·.oneCell') = true) : TE.fits P T ⟨k, size, bytes, zero⟩ := by
  obtain ⟨i, h2, h3⟩ := Option.map_eq_some_iff.1 hi
  simp only [Prod.mk.injEq] at h3
  exact ⟨hk, i, z, h2, h3.2.1, h3.2.2, h3.1, hz, hl, h1⟩
def te1 : TE := ⟨.sc (.func #[] #[] false), 1, 8, [.nilFunc]⟩
theorem te1_ok : te1.fits Tryz.prog 1 := te_fits (z := (.nilFunc)) ⟨Tryz.underlying1, rfl⟩ (by kernel_rfl) rfl rfl rfl
def te2 : TE := ⟨.sc (.int .i64), 1, 8, [.int .i64 0]⟩
theorem te2_ok : te2.fits Tryz.prog 2 := te_fits (z := (.int .i64 0)) ⟨Tryz.underlying2, rfl⟩ (by kernel_rfl) rfl rfl rfl
def te3 : TE := ⟨.sc (.int .i64), 1, 8, [.int .i64 0]⟩
theorem te3_ok : te3.fits Tryz.prog 3 := te_fits (z := (.int .i64 0)) ⟨Tryz.underlying3, rfl⟩ (by kernel_rfl) rfl rfl rfl
def te4 : TE := ⟨.sc (.bool), 1, 1, [.bool false]⟩
theorem te4_ok : te4.fits Tryz.prog 4 := te_fits (z := (.bool false)) ⟨Tryz.underlying4, rfl⟩ (by kernel_rfl) rfl rfl rfl
def te5 : TE := ⟨.sc (.int .u8), 1, 1, [.int .u8 0]⟩
theorem te5_ok : te5.fits Tryz.prog 5 := te_fits (z := (.int .u8 0)) ⟨Tryz.underlying5, rfl⟩ (by kernel_rfl) rfl rfl rfl
def te6 : TE := ⟨.sc (.int .u8), 1, 1, [.int .u8 0]⟩
theorem te6_ok : te6.fits Tryz.prog 6 := te_fits (z := (.int .u8 0)) ⟨Tryz.underlying6, rfl⟩ (by kernel_rfl) rfl rfl rfl
def te7 : TE := ⟨.st [(0, 2), (1, 3), (2, 4), (3, 6)], 4, 24, [.int .i64 0, .int .i64 0, .bool false, .int .u8 0]⟩
theorem te7_ok : te7.fits Tryz.prog 7 := te_fits (z := (.agg #[.int .i64 0, .int .i64 0, .bool false, .int .u8 0])) ⟨_, Tryz.underlying7, rfl⟩ (by kernel_rfl) rfl rfl rfl
def te8 : TE := ⟨.st [(0, 2), (1, 3), (2, 4), (3, 6)], 4, 24, [.int .i64 0, .int .i64 0, .bool false, .int .u8 0]⟩
theorem te8_ok : te8.fits Tryz.prog 8 := te_fits (z := (.agg #[.int .i64 0, .int .i64 0, .bool false, .int .u8 0])) ⟨_, Tryz.underlying8, rfl⟩ (by kernel_rfl) rfl rfl rfl
def te9 : TE := ⟨.sc (.string), 1, 16, [.string ⟨#[]⟩]⟩
theorem te9_ok : te9.fits Tryz.prog 9 := te_fits (z := (.string ⟨#[]⟩)) ⟨Tryz.underlying9, rfl⟩ (by kernel_rfl) rfl rfl rfl
def te10 : TE := ⟨.sc (.string), 1, 16, [.string ⟨#[]⟩]⟩
theorem te10_ok : te10.fits Tryz.prog 10 := te_fits (z := (.string ⟨#[]⟩)) ⟨Tryz.underlying10, rfl⟩ (by kernel_rfl) rfl rfl rfl
def te11 : TE := ⟨.sc (.string), 1, 16, [.string ⟨#[]⟩]⟩
theorem te11_ok : te11.fits Tryz.prog 11 := te_fits (z := (.string ⟨#[]⟩)) ⟨Tryz.underlying11, rfl⟩ (by kernel_rfl) rfl rfl rfl
def te12 : TE := ⟨.sc (.int .u64), 1, 8, [.int .u64 0]⟩
theorem te12_ok : te12.fits Tryz.prog 12 := te_fits (z := (.int .u64 0)) ⟨Tryz.underlying12, rfl⟩ (by kernel_rfl) rfl rfl rfl
def te13 : TE := ⟨.st [(0, 9), (1, 12)], 2, 24, [.string ⟨#[]⟩, .int .u64 0]⟩
theorem te13_ok : te13.fits Tryz.prog 13 := te_fits (z := (.agg #[.string ⟨#[]⟩, .int .u64 0])) ⟨_, Tryz.underlying13, rfl⟩ (by kernel_rfl) rfl rfl rfl
def te14 : TE := ⟨.st [(0, 9), (1, 12)], 2, 24, [.string ⟨#[]⟩, .int .u64 0]⟩
theorem te14_ok : te14.fits Tryz.prog 14 := te_fits (z := (.agg #[.string ⟨#[]⟩, .int .u64 0])) ⟨_, Tryz.underlying14, rfl⟩ (by kernel_rfl) rfl rfl rfl
def te15 : TE := ⟨.sc (.pointer 150), 1, 8, [.pointer none]⟩
theorem te15_ok : te15.fits Tryz.prog 15 := te_fits (z := (.pointer none)) ⟨Tryz.underlying15, rfl⟩ (by kernel_rfl) rfl rfl rfl
def te16 : TE := ⟨.sc (.pointer 153), 1, 8, [.pointer none]⟩
theorem te16_ok : te16.fits Tryz.prog 16 := te_fits (z := (.pointer none)) ⟨Tryz.underlying16, rfl⟩ (by kernel_rfl) rfl rfl rfl
def te17 : TE := ⟨.sc (.pointer 162), 1, 8, [.pointer none]⟩
theorem te17_ok : te17.fits Tryz.prog 17 := te_fits (z := (.pointer none)) ⟨Tryz.underlying17, rfl⟩ (by kernel_rfl) rfl rfl rfl
def te18 : TE := ⟨.st [(0, 17)], 1, 8, [.pointer none]⟩
theorem te18_ok : te18.fits Tryz.prog 18 := te_fits (z := (.agg #[.pointer none])) ⟨_, Tryz.underlying18, rfl⟩ (by kernel_rfl) rfl rfl rfl
def te19 : TE := ⟨.st [(0, 17)], 1, 8, [.pointer none]⟩
theorem te19_ok : te19.fits Tryz.prog 19 := te_fits (z := (.agg #[.pointer none])) ⟨_, Tryz.underlying19, rfl⟩ (by kernel_rfl) rfl rfl rfl
def te21 : TE := ⟨.sc (.int .i32), 1, 4, [.int .i32 0]⟩
theorem te21_ok : te21.fits Tryz.prog 21 := te_fits (z := (.int .i32 0)) ⟨Tryz.underlying21, rfl⟩ (by kernel_rfl) rfl rfl rfl
def te22 : TE := ⟨.slice 41, 1, 24, [.slice none 0 0]⟩
theorem te22_ok : te22.fits Tryz.prog 22 := te_fits (z := (.slice none 0 0)) Tryz.underlying22 (by kernel_rfl) rfl rfl rfl
def te23 : TE := ⟨.slice 3, 1, 24, [.slice none 0 0]⟩
theorem te23_ok : te23.fits Tryz.prog 23 := te_fits (z := (.slice none 0 0)) Tryz.underlying23 (by kernel_rfl) rfl rfl rfl
def te24 : TE := ⟨.slice 23, 1, 24, [.slice none 0 0]⟩
theorem te24_ok : te24.fits Tryz.prog 24 := te_fits (z := (.slice none 0 0)) Tryz.underlying24 (by kernel_rfl) rfl rfl rfl
def te25 : TE := ⟨.st [(0, 22), (1, 23), (2, 24)], 3, 72, [.slice none 0 0, .slice none 0 0, .slice none 0 0]⟩
theorem te25_ok : te25.fits Tryz.prog 25 := te_fits (z := (.agg #[.slice none 0 0, .slice none 0 0, .slice none 0 0])) ⟨_, Tryz.underlying25, rfl⟩ (by kernel_rfl) rfl rfl rfl
def te26 : TE := ⟨.st [(0, 22), (1, 23), (2, 24)], 3, 72, [.slice none 0 0, .slice none 0 0, .slice none 0 0]⟩
theorem te26_ok : te26.fits Tryz.prog 26 := te_fits (z := (.agg #[.slice none 0 0, .slice none 0 0, .slice none 0 0])) ⟨_, Tryz.underlying26, rfl⟩ (by kernel_rfl) rfl rfl rfl
def te27 : TE := ⟨.sc (.func #[26] #[4] false), 1, 8, [.nilFunc]⟩
theorem te27_ok : te27.fits Tryz.prog 27 := te_fits (z := (.nilFunc)) ⟨Tryz.underlying27, rfl⟩ (by kernel_rfl) rfl rfl rfl
def te28 : TE := ⟨.sc (.func #[] #[4] false), 1, 8, [.nilFunc]⟩
theorem te28_ok : te28.fits Tryz.prog 28 := te_fits (z := (.nilFunc)) ⟨Tryz.underlying28, rfl⟩ (by kernel_rfl) rfl rfl rfl
def te29 : TE := ⟨.slice 37, 1, 24, [.slice none 0 0]⟩
theorem te29_ok : te29.fits Tryz.prog 29 := te_fits (z := (.slice none 0 0)) Tryz.underlying29 (by kernel_rfl) rfl rfl rfl
def te30 : TE := ⟨.sc (.int .i64), 1, 8, [.int .i64 0]⟩
theorem te30_ok : te30.fits Tryz.prog 30 := te_fits (z := (.int .i64 0)) ⟨Tryz.underlying30, rfl⟩ (by kernel_rfl) rfl rfl rfl
def te32 : TE := ⟨.sc (.func #[26] #[29, 30] false), 1, 8, [.nilFunc]⟩
theorem te32_ok : te32.fits Tryz.prog 32 := te_fits (z := (.nilFunc)) ⟨Tryz.underlying32, rfl⟩ (by kernel_rfl) rfl rfl rfl
def te33 : TE := ⟨.sc (.func #[26] #[3] false), 1, 8, [.nilFunc]⟩
theorem te33_ok : te33.fits Tryz.prog 33 := te_fits (z := (.nilFunc)) ⟨Tryz.underlying33, rfl⟩ (by kernel_rfl) rfl rfl rfl
def te34 : TE := ⟨.sc (.func #[29, 29] #[4] false), 1, 8, [.nilFunc]⟩
theorem te34_ok : te34.fits Tryz.prog 34 := te_fits (z := (.nilFunc)) ⟨Tryz.underlying34, rfl⟩ (by kernel_rfl) rfl rfl rfl
def te35 : TE := ⟨.sc (.func #[26, 3] #[29] false), 1, 8, [.nilFunc]⟩
theorem te35_ok : te35.fits Tryz.prog 35 := te_fits (z := (.nilFunc)) ⟨Tryz.underlying35, rfl⟩ (by kernel_rfl) rfl rfl rfl
def te36 : TE := ⟨.st [(0, 3), (1, 3)], 2, 16, [.int .i64 0, .int .i64 0]⟩
theorem te36_ok : te36.fits Tryz.prog 36 := te_fits (z := (.agg #[.int .i64 0, .int .i64 0])) ⟨_, Tryz.underlying36, rfl⟩ (by kernel_rfl) rfl rfl rfl
def te37 : TE := ⟨.st [(0, 3), (1, 3)], 2, 16, [.int .i64 0, .int .i64 0]⟩
theorem te37_ok : te37.fits Tryz.prog 37 := te_fits (z := (.agg #[.int .i64 0, .int .i64 0])) ⟨_, Tryz.underlying37, rfl⟩ (by kernel_rfl) rfl rfl rfl
def te38 : TE := ⟨.sc (.int .i64), 1, 8, [.int .i64 0]⟩
theorem te38_ok : te38.fits Tryz.prog 38 := te_fits (z := (.int .i64 0)) ⟨Tryz.underlying38, rfl⟩ (by kernel_rfl) rfl rfl rfl
def te39 : TE := ⟨.sc (.int .u32), 1, 4, [.int .u32 0]⟩
theorem te39_ok : te39.fits Tryz.prog 39 := te_fits (z := (.int .u32 0)) ⟨Tryz.underlying39, rfl⟩ (by kernel_rfl) rfl rfl rfl
def te40 : TE := ⟨.st [(0, 3), (1, 38), (2, 39), (3, 39), (4, 39), (5, 4), (6, 4), (7, 3), (8, 3), (9, 4), (10, 23), (11, 23), (12, 23)], 13, 128, [.int .i64 0, .int .i64 0, .int .u32 0, .int .u32 0, .int .u32 0, .bool false, .bool false, .int .i64 0, .int .i64 0, .bool false, .slice none 0 0, .slice none 0 0, .slice none 0 0]⟩
theorem te40_ok : te40.fits Tryz.prog 40 := te_fits (z := (.agg #[.int .i64 0, .int .i64 0, .int .u32 0, .int .u32 0, .int .u32 0, .bool false, .bool false, .int .i64 0, .int .i64 0, .bool false, .slice none 0 0, .slice none 0 0, .slice none 0 0])) ⟨_, Tryz.underlying40, rfl⟩ (by kernel_rfl) rfl rfl rfl
def te41 : TE := ⟨.st [(0, 3), (1, 38), (2, 39), (3, 39), (4, 39), (5, 4), (6, 4), (7, 3), (8, 3), (9, 4), (10, 23), (11, 23), (12, 23)], 13, 128, [.int .i64 0, .int .i64 0, .int .u32 0, .int .u32 0, .int .u32 0, .bool false, .bool false, .int .i64 0, .int .i64 0, .bool false, .slice none 0 0, .slice none 0 0, .slice none 0 0]⟩
theorem te41_ok : te41.fits Tryz.prog 41 := te_fits (z := (.agg #[.int .i64 0, .int .i64 0, .int .u32 0, .int .u32 0, .int .u32 0, .bool false, .bool false, .int .i64 0, .int .i64 0, .bool false, .slice none 0 0, .slice none 0 0, .slice none 0 0])) ⟨_, Tryz.underlying41, rfl⟩ (by kernel_rfl) rfl rfl rfl
def te43 : TE := ⟨.sc (.func #[26] #[26, 23] false), 1, 8, [.nilFunc]⟩
theorem te43_ok : te43.fits Tryz.prog 43 := te_fits (z := (.nilFunc)) ⟨Tryz.underlying43, rfl⟩ (by kernel_rfl) rfl rfl rfl
def te44 : TE := ⟨.sc (.func #[29, 37] #[4] false), 1, 8, [.nilFunc]⟩
theorem te44_ok : te44.fits Tryz.prog 44 := te_fits (z := (.nilFunc)) ⟨Tryz.underlying44, rfl⟩ (by kernel_rfl) rfl rfl rfl
def te45 : TE := ⟨.sc (.func #[3, 3, 23] #[4] false), 1, 8, [.nilFunc]⟩
theorem te45_ok : te45.fits Tryz.prog 45 := te_fits (z := (.nilFunc)) ⟨Tryz.underlying45, rfl⟩ (by kernel_rfl) rfl rfl rfl
def te47 : TE := ⟨.sc (.func #[26, 3, 3, 3] #[4, 30] false), 1, 8, [.nilFunc]⟩
theorem te47_ok : te47.fits Tryz.prog 47 := te_fits (z := (.nilFunc)) ⟨Tryz.underlying47, rfl⟩ (by kernel_rfl) rfl rfl rfl
def te48 : TE := ⟨.sc (.func #[26, 3, 3, 3] #[4] false), 1, 8, [.nilFunc]⟩
theorem te48_ok : te48.fits Tryz.prog 48 := te_fits (z := (.nilFunc)) ⟨Tryz.underlying48, rfl⟩ (by kernel_rfl) rfl rfl rfl
def te50 : TE := ⟨.sc (.func #[26, 3] #[3, 4] false), 1, 8, [.nilFunc]⟩
theorem te50_ok : te50.fits Tryz.prog 50 := te_fits (z := (.nilFunc)) ⟨Tryz.underlying50, rfl⟩ (by kernel_rfl) rfl rfl rfl
def te51 : TE := ⟨.sc (.func #[26, 3] #[3] false), 1, 8, [.nilFunc]⟩
theorem te51_ok : te51.fits Tryz.prog 51 := te_fits (z := (.nilFunc)) ⟨Tryz.underlying51, rfl⟩ (by kernel_rfl) rfl rfl rfl
def te52 : TE := ⟨.sc (.func #[26, 3] #[4] false), 1, 8, [.nilFunc]⟩
theorem te52_ok : te52.fits Tryz.prog 52 := te_fits (z := (.nilFunc)) ⟨Tryz.underlying52, rfl⟩ (by kernel_rfl) rfl rfl rfl
def te53 : TE := ⟨.slice 5, 1, 24, [.slice none 0 0]⟩
theorem te53_ok : te53.fits Tryz.prog 53 := te_fits (z := (.slice none 0 0)) Tryz.underlying53 (by kernel_rfl) rfl rfl rfl
def te54 : TE := ⟨.sc (.func #[53] #[4] false), 1, 8, [.nilFunc]⟩
theorem te54_ok : te54.fits Tryz.prog 54 := te_fits (z := (.nilFunc)) ⟨Tryz.underlying54, rfl⟩ (by kernel_rfl) rfl rfl rfl
def te56 : TE := ⟨.sc (.func #[26, 3, 3] #[23, 30] false), 1, 8, [.nilFunc]⟩
theorem te56_ok : te56.fits Tryz.prog 56 := te_fits (z := (.nilFunc)) ⟨Tryz.underlying56, rfl⟩ (by kernel_rfl) rfl rfl rfl
def te57 : TE := ⟨.sc (.func #[23, 23] #[4] false), 1, 8, [.nilFunc]⟩
theorem te57_ok : te57.fits Tryz.prog 57 := te_fits (z := (.nilFunc)) ⟨Tryz.underlying57, rfl⟩ (by kernel_rfl) rfl rfl rfl
def te58 : TE := ⟨.sc (.func #[26, 3, 37] #[4] false), 1, 8, [.nilFunc]⟩
theorem te58_ok : te58.fits Tryz.prog 58 := te_fits (z := (.nilFunc)) ⟨Tryz.underlying58, rfl⟩ (by kernel_rfl) rfl rfl rfl
def te59 : TE := ⟨.sc (.func #[26] #[30] false), 1, 8, [.nilFunc]⟩
theorem te59_ok : te59.fits Tryz.prog 59 := te_fits (z := (.nilFunc)) ⟨Tryz.underlying59, rfl⟩ (by kernel_rfl) rfl rfl rfl
def te60 : TE := ⟨.st [(0, 26)], 3, 72, [.slice none 0 0, .slice none 0 0, .slice none 0 0]⟩
theorem te60_ok : te60.fits Tryz.prog 60 := te_fits (z := (.agg #[.slice none 0 0, .slice none 0 0, .slice none 0 0])) ⟨_, Tryz.underlying60, rfl⟩ (by kernel_rfl) rfl rfl rfl
def te61 : TE := ⟨.st [(0, 26)], 3, 72, [.slice none 0 0, .slice none 0 0, .slice none 0 0]⟩
theorem te61_ok : te61.fits Tryz.prog 61 := te_fits (z := (.agg #[.slice none 0 0, .slice none 0 0, .slice none 0 0])) ⟨_, Tryz.underlying61, rfl⟩ (by kernel_rfl) rfl rfl rfl
def te62 : TE := ⟨.sc (.func #[26] #[29] false), 1, 8, [.nilFunc]⟩
theorem te62_ok : te62.fits Tryz.prog 62 := te_fits (z := (.nilFunc)) ⟨Tryz.underlying62, rfl⟩ (by kernel_rfl) rfl rfl rfl
def te63 : TE := ⟨.sc (.func #[3, 3] #[4] false), 1, 8, [.nilFunc]⟩
theorem te63_ok : te63.fits Tryz.prog 63 := te_fits (z := (.nilFunc)) ⟨Tryz.underlying63, rfl⟩ (by kernel_rfl) rfl rfl rfl
def te64 : TE := ⟨.sc (.func #[3, 3] #[23] false), 1, 8, [.nilFunc]⟩
theorem te64_ok : te64.fits Tryz.prog 64 := te_fits (z := (.nilFunc)) ⟨Tryz.underlying64, rfl⟩ (by kernel_rfl) rfl rfl rfl
def te65 : TE := ⟨.slice 39, 1, 24, [.slice none 0 0]⟩
theorem te65_ok : te65.fits Tryz.prog 65 := te_fits (z := (.slice none 0 0)) Tryz.underlying65 (by kernel_rfl) rfl rfl rfl
def te66 : TE := ⟨.sc (.func #[26] #[65] false), 1, 8, [.nilFunc]⟩
theorem te66_ok : te66.fits Tryz.prog 66 := te_fits (z := (.nilFunc)) ⟨Tryz.underlying66, rfl⟩ (by kernel_rfl) rfl rfl rfl
def te67 : TE := ⟨.sc (.func #[41] #[4] false), 1, 8, [.nilFunc]⟩
theorem te67_ok : te67.fits Tryz.prog 67 := te_fits (z := (.nilFunc)) ⟨Tryz.underlying67, rfl⟩ (by kernel_rfl) rfl rfl rfl
def te68 : TE := ⟨.sc (.func #[26, 3, 23] #[4] false), 1, 8, [.nilFunc]⟩
theorem te68_ok : te68.fits Tryz.prog 68 := te_fits (z := (.nilFunc)) ⟨Tryz.underlying68, rfl⟩ (by kernel_rfl) rfl rfl rfl
def te69 : TE := ⟨.sc (.func #[23, 3] #[3] false), 1, 8, [.nilFunc]⟩
theorem te69_ok : te69.fits Tryz.prog 69 := te_fits (z := (.nilFunc)) ⟨Tryz.underlying69, rfl⟩ (by kernel_rfl) rfl rfl rfl
def te70 : TE := ⟨.sc (.func #[26, 3, 3] #[4] false), 1, 8, [.nilFunc]⟩
theorem te70_ok : te70.fits Tryz.prog 70 := te_fits (z := (.nilFunc)) ⟨Tryz.underlying70, rfl⟩ (by kernel_rfl) rfl rfl rfl
def te71 : TE := ⟨.sc (.func #[23, 23] #[23] false), 1, 8, [.nilFunc]⟩
theorem te71_ok : te71.fits Tryz.prog 71 := te_fits (z := (.nilFunc)) ⟨Tryz.underlying71, rfl⟩ (by kernel_rfl) rfl rfl rfl
def te72 : TE := ⟨.arr 14 63, 14, 112, [.nilFunc, .nilFunc, .nilFunc, .nilFunc, .nilFunc, .nilFunc, .nilFunc, .nilFunc, .nilFunc, .nilFunc, .nilFunc, .nilFunc, .nilFunc, .nilFunc]⟩
theorem te72_ok : te72.fits Tryz.prog 72 := te_fits (z := (.agg #[.nilFunc, .nilFunc, .nilFunc, .nilFunc, .nilFunc, .nilFunc, .nilFunc, .nilFunc, .nilFunc, .nilFunc, .nilFunc, .nilFunc, .nilFunc, .nilFunc])) Tryz.underlying72 (by kernel_rfl) rfl rfl rfl
def te73 : TE := ⟨.sc (.func #[] #[72] false), 1, 8, [.nilFunc]⟩
theorem te73_ok : te73.fits Tryz.prog 73 := te_fits (z := (.nilFunc)) ⟨Tryz.underlying73, rfl⟩ (by kernel_rfl) rfl rfl rfl
def te74 : TE := ⟨.sc (.func #[3, 41] #[4] false), 1, 8, [.nilFunc]⟩
theorem te74_ok : te74.fits Tryz.prog 74 := te_fits (z := (.nilFunc)) ⟨Tryz.underlying74, rfl⟩ (by kernel_rfl) rfl rfl rfl
def te75 : TE := ⟨.sc (.func #[3] #[3, 4] false), 1, 8, [.nilFunc]⟩
theorem te75_ok : te75.fits Tryz.prog 75 := te_fits (z := (.nilFunc)) ⟨Tryz.underlying75, rfl⟩ (by kernel_rfl) rfl rfl rfl
def te76 : TE := ⟨.sc (.func #[26, 3, 3, 65] #[4] false), 1, 8, [.nilFunc]⟩
theorem te76_ok : te76.fits Tryz.prog 76 := te_fits (z := (.nilFunc)) ⟨Tryz.underlying76, rfl⟩ (by kernel_rfl) rfl rfl rfl
def te77 : TE := ⟨.sc (.func #[26, 65] #[4] false), 1, 8, [.nilFunc]⟩
theorem te77_ok : te77.fits Tryz.prog 77 := te_fits (z := (.nilFunc)) ⟨Tryz.underlying77, rfl⟩ (by kernel_rfl) rfl rfl rfl
def te78 : TE := ⟨.sc (.func #[94] #[29] false), 1, 8, [.nilFunc]⟩
theorem te78_ok : te78.fits Tryz.prog 78 := te_fits (z := (.nilFunc)) ⟨Tryz.underlying78, rfl⟩ (by kernel_rfl) rfl rfl rfl
def te79 : TE := ⟨.sc (.func #[37] #[4] false), 1, 8, [.nilFunc]⟩
theorem te79_ok : te79.fits Tryz.prog 79 := te_fits (z := (.nilFunc)) ⟨Tryz.underlying79, rfl⟩ (by kernel_rfl) rfl rfl rfl
def te80 : TE := ⟨.sc (.func #[79] #[] false), 1, 8, [.nilFunc]⟩
theorem te80_ok : te80.fits Tryz.prog 80 := te_fits (z := (.nilFunc)) ⟨Tryz.underlying80, rfl⟩ (by kernel_rfl) rfl rfl rfl
def te81 : TE := ⟨.sc (.func #[3] #[4] false), 1, 8, [.nilFunc]⟩
theorem te81_ok : te81.fits Tryz.prog 81 := te_fits (z := (.nilFunc)) ⟨Tryz.underlying81, rfl⟩ (by kernel_rfl) rfl rfl rfl
def te82 : TE := ⟨.sc (.func #[3] #[41] false), 1, 8, [.nilFunc]⟩
theorem te82_ok : te82.fits Tryz.prog 82 := te_fits (z := (.nilFunc)) ⟨Tryz.underlying82, rfl⟩ (by kernel_rfl) rfl rfl rfl
def te83 : TE := ⟨.sc (.func #[3, 3, 74] #[4] false), 1, 8, [.nilFunc]⟩
theorem te83_ok : te83.fits Tryz.prog 83 := te_fits (z := (.nilFunc)) ⟨Tryz.underlying83, rfl⟩ (by kernel_rfl) rfl rfl rfl
def te84 : TE := ⟨.sc (.func #[23, 3] #[4] false), 1, 8, [.nilFunc]⟩
theorem te84_ok : te84.fits Tryz.prog 84 := te_fits (z := (.nilFunc)) ⟨Tryz.underlying84, rfl⟩ (by kernel_rfl) rfl rfl rfl
def te85 : TE := ⟨.sc (.map 39 3), 1, 8, [.map none]⟩
theorem te85_ok : te85.fits Tryz.prog 85 := te_fits (z := (.map none)) ⟨Tryz.underlying85, rfl⟩ (by kernel_rfl) rfl rfl rfl
def te86 : TE := ⟨.sc (.func #[88] #[65] false), 1, 8, [.nilFunc]⟩
theorem te86_ok : te86.fits Tryz.prog 86 := te_fits (z := (.nilFunc)) ⟨Tryz.underlying86, rfl⟩ (by kernel_rfl) rfl rfl rfl
def te87 : TE := ⟨.sc (.func #[101] #[] false), 1, 8, [.nilFunc]⟩
theorem te87_ok : te87.fits Tryz.prog 87 := te_fits (z := (.nilFunc)) ⟨Tryz.underlying87, rfl⟩ (by kernel_rfl) rfl rfl rfl
def te88 : TE := ⟨.sc (.func #[101] #[] false), 1, 8, [.nilFunc]⟩
theorem te88_ok : te88.fits Tryz.prog 88 := te_fits (z := (.nilFunc)) ⟨Tryz.underlying88, rfl⟩ (by kernel_rfl) rfl rfl rfl
def te89 : TE := ⟨.sc (.func #[85] #[88] false), 1, 8, [.nilFunc]⟩
theorem te89_ok : te89.fits Tryz.prog 89 := te_fits (z := (.nilFunc)) ⟨Tryz.underlying89, rfl⟩ (by kernel_rfl) rfl rfl rfl
def te90 : TE := ⟨.sc (.func #[92] #[23] false), 1, 8, [.nilFunc]⟩
theorem te90_ok : te90.fits Tryz.prog 90 := te_fits (z := (.nilFunc)) ⟨Tryz.underlying90, rfl⟩ (by kernel_rfl) rfl rfl rfl
def te91 : TE := ⟨.sc (.func #[81] #[] false), 1, 8, [.nilFunc]⟩
theorem te91_ok : te91.fits Tryz.prog 91 := te_fits (z := (.nilFunc)) ⟨Tryz.underlying91, rfl⟩ (by kernel_rfl) rfl rfl rfl
def te92 : TE := ⟨.sc (.func #[81] #[] false), 1, 8, [.nilFunc]⟩
theorem te92_ok : te92.fits Tryz.prog 92 := te_fits (z := (.nilFunc)) ⟨Tryz.underlying92, rfl⟩ (by kernel_rfl) rfl rfl rfl
def te93 : TE := ⟨.sc (.func #[23] #[92] false), 1, 8, [.nilFunc]⟩
theorem te93_ok : te93.fits Tryz.prog 93 := te_fits (z := (.nilFunc)) ⟨Tryz.underlying93, rfl⟩ (by kernel_rfl) rfl rfl rfl
def te94 : TE := ⟨.sc (.func #[79] #[] false), 1, 8, [.nilFunc]⟩
theorem te94_ok : te94.fits Tryz.prog 94 := te_fits (z := (.nilFunc)) ⟨Tryz.underlying94, rfl⟩ (by kernel_rfl) rfl rfl rfl
def te95 : TE := ⟨.sc (.func #[94, 96] #[29] false), 1, 8, [.nilFunc]⟩
theorem te95_ok : te95.fits Tryz.prog 95 := te_fits (z := (.nilFunc)) ⟨Tryz.underlying95, rfl⟩ (by kernel_rfl) rfl rfl rfl
def te96 : TE := ⟨.sc (.func #[37, 37] #[3] false), 1, 8, [.nilFunc]⟩
theorem te96_ok : te96.fits Tryz.prog 96 := te_fits (z := (.nilFunc)) ⟨Tryz.underlying96, rfl⟩ (by kernel_rfl) rfl rfl rfl
def te97 : TE := ⟨.sc (.func #[74] #[] false), 1, 8, [.nilFunc]⟩
theorem te97_ok : te97.fits Tryz.prog 97 := te_fits (z := (.nilFunc)) ⟨Tryz.underlying97, rfl⟩ (by kernel_rfl) rfl rfl rfl
def te98 : TE := ⟨.sc (.func #[74] #[] false), 1, 8, [.nilFunc]⟩
theorem te98_ok : te98.fits Tryz.prog 98 := te_fits (z := (.nilFunc)) ⟨Tryz.underlying98, rfl⟩ (by kernel_rfl) rfl rfl rfl
def te99 : TE := ⟨.sc (.func #[3, 3] #[98] false), 1, 8, [.nilFunc]⟩
theorem te99_ok : te99.fits Tryz.prog 99 := te_fits (z := (.nilFunc)) ⟨Tryz.underlying99, rfl⟩ (by kernel_rfl) rfl rfl rfl
def te100 : TE := ⟨.sc (.func #[65] #[] false), 1, 8, [.nilFunc]⟩
theorem te100_ok : te100.fits Tryz.prog 100 := te_fits (z := (.nilFunc)) ⟨Tryz.underlying100, rfl⟩ (by kernel_rfl) rfl rfl rfl
def te101 : TE := ⟨.sc (.func #[39] #[4] false), 1, 8, [.nilFunc]⟩
theorem te101_ok : te101.fits Tryz.prog 101 := te_fits (z := (.nilFunc)) ⟨Tryz.underlying101, rfl⟩ (by kernel_rfl) rfl rfl rfl
def te102 : TE := ⟨.sc (.func #[23] #[] false), 1, 8, [.nilFunc]⟩
theorem te102_ok : te102.fits Tryz.prog 102 := te_fits (z := (.nilFunc)) ⟨Tryz.underlying102, rfl⟩ (by kernel_rfl) rfl rfl rfl
def te103 : TE := ⟨.sc (.func #[29, 96] #[] false), 1, 8, [.nilFunc]⟩
theorem te103_ok : te103.fits Tryz.prog 103 := te_fits (z := (.nilFunc)) ⟨Tryz.underlying103, rfl⟩ (by kernel_rfl) rfl rfl rfl
def te104 : TE := ⟨.sc (.func #[65, 88] #[65] false), 1, 8, [.nilFunc]⟩
theorem te104_ok : te104.fits Tryz.prog 104 := te_fits (z := (.nilFunc)) ⟨Tryz.underlying104, rfl⟩ (by kernel_rfl) rfl rfl rfl
def te105 : TE := ⟨.sc (.func #[65, 3, 3, 3] #[] false), 1, 8, [.nilFunc]⟩
theorem te105_ok : te105.fits Tryz.prog 105 := te_fits (z := (.nilFunc)) ⟨Tryz.underlying105, rfl⟩ (by kernel_rfl) rfl rfl rfl
def te106 : TE := ⟨.sc (.func #[107] #[3] false), 1, 8, [.nilFunc]⟩
theorem te106_ok : te106.fits Tryz.prog 106 := te_fits (z := (.nilFunc)) ⟨Tryz.underlying106, rfl⟩ (by kernel_rfl) rfl rfl rfl
def te107 : TE := ⟨.sc (.int .u64), 1, 8, [.int .u64 0]⟩
theorem te107_ok : te107.fits Tryz.prog 107 := te_fits (z := (.int .u64 0)) ⟨Tryz.underlying107, rfl⟩ (by kernel_rfl) rfl rfl rfl
def te108 : TE := ⟨.sc (.func #[23, 92] #[23] false), 1, 8, [.nilFunc]⟩
theorem te108_ok : te108.fits Tryz.prog 108 := te_fits (z := (.nilFunc)) ⟨Tryz.underlying108, rfl⟩ (by kernel_rfl) rfl rfl rfl
def te109 : TE := ⟨.sc (.func #[23, 3, 3, 3] #[] false), 1, 8, [.nilFunc]⟩
theorem te109_ok : te109.fits Tryz.prog 109 := te_fits (z := (.nilFunc)) ⟨Tryz.underlying109, rfl⟩ (by kernel_rfl) rfl rfl rfl
def te110 : TE := ⟨.sc (.func #[29, 94] #[29] false), 1, 8, [.nilFunc]⟩
theorem te110_ok : te110.fits Tryz.prog 110 := te_fits (z := (.nilFunc)) ⟨Tryz.underlying110, rfl⟩ (by kernel_rfl) rfl rfl rfl
def te111 : TE := ⟨.sc (.func #[29, 3, 3, 3, 96] #[] false), 1, 8, [.nilFunc]⟩
theorem te111_ok : te111.fits Tryz.prog 111 := te_fits (z := (.nilFunc)) ⟨Tryz.underlying111, rfl⟩ (by kernel_rfl) rfl rfl rfl
def te112 : TE := ⟨.sc (.func #[65, 3, 3] #[] false), 1, 8, [.nilFunc]⟩
theorem te112_ok : te112.fits Tryz.prog 112 := te_fits (z := (.nilFunc)) ⟨Tryz.underlying112, rfl⟩ (by kernel_rfl) rfl rfl rfl
def te113 : TE := ⟨.sc (.int .i64), 1, 8, [.int .i64 0]⟩
theorem te113_ok : te113.fits Tryz.prog 113 := te_fits (z := (.int .i64 0)) ⟨Tryz.underlying113, rfl⟩ (by kernel_rfl) rfl rfl rfl
def te115 : TE := ⟨.sc (.func #[65, 3, 3] #[3, 113] false), 1, 8, [.nilFunc]⟩
theorem te115_ok : te115.fits Tryz.prog 115 := te_fits (z := (.nilFunc)) ⟨Tryz.underlying115, rfl⟩ (by kernel_rfl) rfl rfl rfl
def te116 : TE := ⟨.sc (.func #[65, 3, 3] #[4] false), 1, 8, [.nilFunc]⟩
theorem te116_ok : te116.fits Tryz.prog 116 := te_fits (z := (.nilFunc)) ⟨Tryz.underlying116, rfl⟩ (by kernel_rfl) rfl rfl rfl
def te117 : TE := ⟨.sc (.func #[39, 39] #[4] false), 1, 8, [.nilFunc]⟩
theorem te117_ok : te117.fits Tryz.prog 117 := te_fits (z := (.nilFunc)) ⟨Tryz.underlying117, rfl⟩ (by kernel_rfl) rfl rfl rfl
def te118 : TE := ⟨.sc (.func #[65, 3, 3, 3] #[3] false), 1, 8, [.nilFunc]⟩
theorem te118_ok : te118.fits Tryz.prog 118 := te_fits (z := (.nilFunc)) ⟨Tryz.underlying118, rfl⟩ (by kernel_rfl) rfl rfl rfl
def te119 : TE := ⟨.sc (.func #[65, 3, 3, 3] #[3, 4] false), 1, 8, [.nilFunc]⟩
theorem te119_ok : te119.fits Tryz.prog 119 := te_fits (z := (.nilFunc)) ⟨Tryz.underlying119, rfl⟩ (by kernel_rfl) rfl rfl rfl
def te120 : TE := ⟨.sc (.func #[39] #[3] false), 1, 8, [.nilFunc]⟩
theorem te120_ok : te120.fits Tryz.prog 120 := te_fits (z := (.nilFunc)) ⟨Tryz.underlying120, rfl⟩ (by kernel_rfl) rfl rfl rfl
def te121 : TE := ⟨.sc (.func #[122] #[3] false), 1, 8, [.nilFunc]⟩
theorem te121_ok : te121.fits Tryz.prog 121 := te_fits (z := (.nilFunc)) ⟨Tryz.underlying121, rfl⟩ (by kernel_rfl) rfl rfl rfl
def te122 : TE := ⟨.sc (.int .u64), 1, 8, [.int .u64 0]⟩
theorem te122_ok : te122.fits Tryz.prog 122 := te_fits (z := (.int .u64 0)) ⟨Tryz.underlying122, rfl⟩ (by kernel_rfl) rfl rfl rfl
def te123 : TE := ⟨.sc (.func #[23, 3, 3] #[] false), 1, 8, [.nilFunc]⟩
theorem te123_ok : te123.fits Tryz.prog 123 := te_fits (z := (.nilFunc)) ⟨Tryz.underlying123, rfl⟩ (by kernel_rfl) rfl rfl rfl
def te124 : TE := ⟨.sc (.func #[23, 3, 3] #[3, 113] false), 1, 8, [.nilFunc]⟩
theorem te124_ok : te124.fits Tryz.prog 124 := te_fits (z := (.nilFunc)) ⟨Tryz.underlying124, rfl⟩ (by kernel_rfl) rfl rfl rfl
def te125 : TE := ⟨.sc (.func #[23, 3, 3] #[4] false), 1, 8, [.nilFunc]⟩
theorem te125_ok : te125.fits Tryz.prog 125 := te_fits (z := (.nilFunc)) ⟨Tryz.underlying125, rfl⟩ (by kernel_rfl) rfl rfl rfl
def te126 : TE := ⟨.sc (.func #[23, 3, 3, 3] #[3] false), 1, 8, [.nilFunc]⟩
theorem te126_ok : te126.fits Tryz.prog 126 := te_fits (z := (.nilFunc)) ⟨Tryz.underlying126, rfl⟩ (by kernel_rfl) rfl rfl rfl
def te127 : TE := ⟨.sc (.func #[23, 3, 3, 3] #[3, 4] false), 1, 8, [.nilFunc]⟩
theorem te127_ok : te127.fits Tryz.prog 127 := te_fits (z := (.nilFunc)) ⟨Tryz.underlying127, rfl⟩ (by kernel_rfl) rfl rfl rfl
def te128 : TE := ⟨.sc (.func #[29, 3, 3, 96] #[] false), 1, 8, [.nilFunc]⟩
theorem te128_ok : te128.fits Tryz.prog 128 := te_fits (z := (.nilFunc)) ⟨Tryz.underlying128, rfl⟩ (by kernel_rfl) rfl rfl rfl
def te129 : TE := ⟨.sc (.func #[29, 3, 3, 96] #[3, 113] false), 1, 8, [.nilFunc]⟩
theorem te129_ok : te129.fits Tryz.prog 129 := te_fits (z := (.nilFunc)) ⟨Tryz.underlying129, rfl⟩ (by kernel_rfl) rfl rfl rfl
def te130 : TE := ⟨.sc (.func #[29, 3, 3, 96] #[4] false), 1, 8, [.nilFunc]⟩
theorem te130_ok : te130.fits Tryz.prog 130 := te_fits (z := (.nilFunc)) ⟨Tryz.underlying130, rfl⟩ (by kernel_rfl) rfl rfl rfl
def te131 : TE := ⟨.sc (.func #[29, 3, 3, 3, 96] #[3] false), 1, 8, [.nilFunc]⟩
theorem te131_ok : te131.fits Tryz.prog 131 := te_fits (z := (.nilFunc)) ⟨Tryz.underlying131, rfl⟩ (by kernel_rfl) rfl rfl rfl
def te132 : TE := ⟨.sc (.func #[29, 3, 3, 3, 96] #[3, 4] false), 1, 8, [.nilFunc]⟩
theorem te132_ok : te132.fits Tryz.prog 132 := te_fits (z := (.nilFunc)) ⟨Tryz.underlying132, rfl⟩ (by kernel_rfl) rfl rfl rfl
def te133 : TE := ⟨.sc (.int .u64), 1, 8, [.int .u64 0]⟩
theorem te133_ok : te133.fits Tryz.prog 133 := te_fits (z := (.int .u64 0)) ⟨Tryz.underlying133, rfl⟩ (by kernel_rfl) rfl rfl rfl
def te134 : TE := ⟨.sc (.func #[3] #[107] false), 1, 8, [.nilFunc]⟩
theorem te134_ok : te134.fits Tryz.prog 134 := te_fits (z := (.nilFunc)) ⟨Tryz.underlying134, rfl⟩ (by kernel_rfl) rfl rfl rfl
def te135 : TE := ⟨.sc (.func #[] #[122] false), 1, 8, [.nilFunc]⟩
theorem te135_ok : te135.fits Tryz.prog 135 := te_fits (z := (.nilFunc)) ⟨Tryz.underlying135, rfl⟩ (by kernel_rfl) rfl rfl rfl
def te136 : TE := ⟨.sc (.func #[65, 3, 137] #[3] false), 1, 8, [.nilFunc]⟩
theorem te136_ok : te136.fits Tryz.prog 136 := te_fits (z := (.nilFunc)) ⟨Tryz.underlying136, rfl⟩ (by kernel_rfl) rfl rfl rfl
def te137 : TE := ⟨.sc (.pointer 3), 1, 8, [.pointer none]⟩
theorem te137_ok : te137.fits Tryz.prog 137 := te_fits (z := (.pointer none)) ⟨Tryz.underlying137, rfl⟩ (by kernel_rfl) rfl rfl rfl
def te138 : TE := ⟨.sc (.func #[65, 3, 3, 3, 137] #[3] false), 1, 8, [.nilFunc]⟩
theorem te138_ok : te138.fits Tryz.prog 138 := te_fits (z := (.nilFunc)) ⟨Tryz.underlying138, rfl⟩ (by kernel_rfl) rfl rfl rfl
def te139 : TE := ⟨.sc (.func #[23, 3, 137] #[3] false), 1, 8, [.nilFunc]⟩
theorem te139_ok : te139.fits Tryz.prog 139 := te_fits (z := (.nilFunc)) ⟨Tryz.underlying139, rfl⟩ (by kernel_rfl) rfl rfl rfl
def te140 : TE := ⟨.sc (.func #[23, 3, 3, 3, 137] #[3] false), 1, 8, [.nilFunc]⟩
theorem te140_ok : te140.fits Tryz.prog 140 := te_fits (z := (.nilFunc)) ⟨Tryz.underlying140, rfl⟩ (by kernel_rfl) rfl rfl rfl
def te141 : TE := ⟨.sc (.func #[29, 3, 137, 96] #[3] false), 1, 8, [.nilFunc]⟩
theorem te141_ok : te141.fits Tryz.prog 141 := te_fits (z := (.nilFunc)) ⟨Tryz.underlying141, rfl⟩ (by kernel_rfl) rfl rfl rfl
def te142 : TE := ⟨.sc (.func #[29, 3, 3, 3, 137, 96] #[3] false), 1, 8, [.nilFunc]⟩
theorem te142_ok : te142.fits Tryz.prog 142 := te_fits (z := (.nilFunc)) ⟨Tryz.underlying142, rfl⟩ (by kernel_rfl) rfl rfl rfl
def te143 : TE := ⟨.sc (.pointer 133), 1, 8, [.pointer none]⟩
theorem te143_ok : te143.fits Tryz.prog 143 := te_fits (z := (.pointer none)) ⟨Tryz.underlying143, rfl⟩ (by kernel_rfl) rfl rfl rfl
def te145 : TE := ⟨.sc (.func #[65, 3, 3, 137] #[3, 3] false), 1, 8, [.nilFunc]⟩
theorem te145_ok : te145.fits Tryz.prog 145 := te_fits (z := (.nilFunc)) ⟨Tryz.underlying145, rfl⟩ (by kernel_rfl) rfl rfl rfl
def te146 : TE := ⟨.sc (.func #[23, 3, 3, 137] #[3, 3] false), 1, 8, [.nilFunc]⟩
theorem te146_ok : te146.fits Tryz.prog 146 := te_fits (z := (.nilFunc)) ⟨Tryz.underlying146, rfl⟩ (by kernel_rfl) rfl rfl rfl
def te147 : TE := ⟨.sc (.func #[29, 3, 3, 137, 96] #[3, 3] false), 1, 8, [.nilFunc]⟩
theorem te147_ok : te147.fits Tryz.prog 147 := te_fits (z := (.nilFunc)) ⟨Tryz.underlying147, rfl⟩ (by kernel_rfl) rfl rfl rfl
def te148 : TE := ⟨.sc (.func #[] #[9] false), 1, 8, [.nilFunc]⟩
theorem te148_ok : te148.fits Tryz.prog 148 := te_fits (z := (.nilFunc)) ⟨Tryz.underlying148, rfl⟩ (by kernel_rfl) rfl rfl rfl
def te149 : TE := ⟨.st [(0, 17), (1, 17), (2, 17), (3, 9)], 4, 40, [.pointer none, .pointer none, .pointer none, .string ⟨#[]⟩]⟩
theorem te149_ok : te149.fits Tryz.prog 149 := te_fits (z := (.agg #[.pointer none, .pointer none, .pointer none, .string ⟨#[]⟩])) ⟨_, Tryz.underlying149, rfl⟩ (by kernel_rfl) rfl rfl rfl
def te150 : TE := ⟨.st [(0, 17), (1, 17), (2, 17), (3, 9)], 4, 40, [.pointer none, .pointer none, .pointer none, .string ⟨#[]⟩]⟩
theorem te150_ok : te150.fits Tryz.prog 150 := te_fits (z := (.agg #[.pointer none, .pointer none, .pointer none, .string ⟨#[]⟩])) ⟨_, Tryz.underlying150, rfl⟩ (by kernel_rfl) rfl rfl rfl
def te154 : TE := ⟨.sc (.func #[] #[3] false), 1, 8, [.nilFunc]⟩
theorem te154_ok : te154.fits Tryz.prog 154 := te_fits (z := (.nilFunc)) ⟨Tryz.underlying154, rfl⟩ (by kernel_rfl) rfl rfl rfl
def te155 : TE := ⟨.sc (.int .u8), 1, 1, [.int .u8 0]⟩
theorem te155_ok : te155.fits Tryz.prog 155 := te_fits (z := (.int .u8 0)) ⟨Tryz.underlying155, rfl⟩ (by kernel_rfl) rfl rfl rfl
def te156 : TE := ⟨.sc (.int .u8), 1, 1, [.int .u8 0]⟩
theorem te156_ok : te156.fits Tryz.prog 156 := te_fits (z := (.int .u8 0)) ⟨Tryz.underlying156, rfl⟩ (by kernel_rfl) rfl rfl rfl
def te157 : TE := ⟨.sc (.func #[163, 163] #[4] false), 1, 8, [.nilFunc]⟩
theorem te157_ok : te157.fits Tryz.prog 157 := te_fits (z := (.nilFunc)) ⟨Tryz.underlying157, rfl⟩ (by kernel_rfl) rfl rfl rfl
def te158 : TE := ⟨.sc (.pointer 5), 1, 8, [.pointer none]⟩
theorem te158_ok : te158.fits Tryz.prog 158 := te_fits (z := (.pointer none)) ⟨Tryz.underlying158, rfl⟩ (by kernel_rfl) rfl rfl rfl
def te159 : TE := ⟨.sc (.int .i32), 1, 4, [.int .i32 0]⟩
theorem te159_ok : te159.fits Tryz.prog 159 := te_fits (z := (.int .i32 0)) ⟨Tryz.underlying159, rfl⟩ (by kernel_rfl) rfl rfl rfl
def te160 : TE := ⟨.sc (.int .i32), 1, 4, [.int .i32 0]⟩
theorem te160_ok : te160.fits Tryz.prog 160 := te_fits (z := (.int .i32 0)) ⟨Tryz.underlying160, rfl⟩ (by kernel_rfl) rfl rfl rfl
def te161 : TE := ⟨.st [(0, 12), (1, 12), (2, 39), (3, 155), (4, 5), (5, 5), (6, 156), (7, 157), (8, 158), (9, 159), (10, 160)], 11, 48, [.int .u64 0, .int .u64 0, .int .u32 0, .int .u8 0, .int .u8 0, .int .u8 0, .int .u8 0, .nilFunc, .pointer none, .int .i32 0, .int .i32 0]⟩
theorem te161_ok : te161.fits Tryz.prog 161 := te_fits (z := (.agg #[.int .u64 0, .int .u64 0, .int .u32 0, .int .u8 0, .int .u8 0, .int .u8 0, .int .u8 0, .nilFunc, .pointer none, .int .i32 0, .int .i32 0])) ⟨_, Tryz.underlying161, rfl⟩ (by kernel_rfl) rfl rfl rfl
def te162 : TE := ⟨.st [(0, 12), (1, 12), (2, 39), (3, 155), (4, 5), (5, 5), (6, 156), (7, 157), (8, 158), (9, 159), (10, 160)], 11, 48, [.int .u64 0, .int .u64 0, .int .u32 0, .int .u8 0, .int .u8 0, .int .u8 0, .int .u8 0, .nilFunc, .pointer none, .int .i32 0, .int .i32 0]⟩
theorem te162_ok : te162.fits Tryz.prog 162 := te_fits (z := (.agg #[.int .u64 0, .int .u64 0, .int .u32 0, .int .u8 0, .int .u8 0, .int .u8 0, .int .u8 0, .nilFunc, .pointer none, .int .i32 0, .int .i32 0])) ⟨_, Tryz.underlying162, rfl⟩ (by kernel_rfl) rfl rfl rfl
def te163 : TE := ⟨.sc (.unsafePointer), 1, 8, [.pointer none]⟩
theorem te163_ok : te163.fits Tryz.prog 163 := te_fits (z := (.pointer none)) ⟨Tryz.underlying163, rfl⟩ (by kernel_rfl) rfl rfl rfl
def tyList : List (TypeId × TE) := [(1, te1), (2, te2), (3, te3), (4, te4), (5, te5), (6, te6), (7, te7), (8, te8), (9, te9), (10, te10), (11, te11), (12, te12), (13, te13), (14, te14), (15, te15), (16, te16), (17, te17), (18, te18), (19, te19), (21, te21), (22, te22), (23, te23), (24, te24), (25, te25), (26, te26), (27, te27), (28, te28), (29, te29), (30, te30), (32, te32), (33, te33), (34, te34), (35, te35), (36, te36), (37, te37), (38, te38), (39, te39), (40, te40), (41, te41), (43, te43), (44, te44), (45, te45), (47, te47), (48, te48), (50, te50), (51, te51), (52, te52), (53, te53), (54, te54), (56, te56), (57, te57), (58, te58), (59, te59), (60, te60), (61, te61), (62, te62), (63, te63), (64, te64), (65, te65), (66, te66), (67, te67), (68, te68), (69, te69), (70, te70), (71, te71), (72, te72), (73, te73), (74, te74), (75, te75), (76, te76), (77, te77), (78, te78), (79, te79), (80, te80), (81, te81), (82, te82), (83, te83), (84, te84), (85, te85), (86, te86), (87, te87), (88, te88), (89, te89), (90, te90), (91, te91), (92, te92), (93, te93), (94, te94), (95, te95), (96, te96), (97, te97), (98, te98), (99, te99), (100, te100), (101, te101), (102, te102), (103, te103), (104, te104), (105, te105), (106, te106), (107, te107), (108, te108), (109, te109), (110, te110), (111, te111), (112, te112), (113, te113), (115, te115), (116, te116), (117, te117), (118, te118), (119, te119), (120, te120), (121, te121), (122, te122), (123, te123), (124, te124), (125, te125), (126, te126), (127, te127), (128, te128), (129, te129), (130, te130), (131, te131), (132, te132), (133, te133), (134, te134), (135, te135), (136, te136), (137, te137), (138, te138), (139, te139), (140, te140), (141, te141), (142, te142), (143, te143), (145, te145), (146, te146), (147, te147), (148, te148), (149, te149), (150, te150), (154, te154), (155, te155), (156, te156), (157, te157), (158, te158), (159, te159), (160, te160), (161, te161), (162, te162), (163, te163)]
def tyFind (T : TypeId) : List (TypeId × TE) → Option TE
  | [] => none
  | (t, e) :: l => bif Nat.beq T t then some e else tyFind T l
theorem tyFind_ok {P : Program} (T : TypeId) (e : TE) : ∀ l : List (TypeId × TE), (∀ p ∈ l, p.2.fits P p.1) → tyFind T l = some e → e.fits P T
  | [], _, h => by cases h
  | (t, e') :: l, hl, h => by
    unfold tyFind at h
    cases hb : Nat.beq T t with
    | true => rw [hb] at h; cases h; rw [Nat.eq_of_beq_eq_true hb]; exact hl (t, e) (by simp)
    | false => rw [hb] at h; exact tyFind_ok T e l (fun p hp => hl p (by simp [hp])) h
theorem all_nil {α : Type} (p : α → Prop) : ∀ x ∈ ([] : List α), p x := fun x h => by cases h
theorem all_cons {α : Type} {p : α → Prop} {a : α} {l : List α} (h : p a) (hl : ∀ x ∈ l, p x) : ∀ x ∈ a :: l, p x := fun x hx => by
  cases hx with
  | head => exact h
  | tail _ hx => exact hl x hx
def tyTab (T : TypeId) : Option TE := tyFind T tyList
theorem tyTab_ok (T : TypeId) (e : TE) (h : tyTab T = some e) : e.fits Tryz.prog T := tyFind_ok T e tyList (all_cons te1_ok (all_cons te2_ok (all_cons te3_ok (all_cons te4_ok (all_cons te5_ok (all_cons te6_ok (all_cons te7_ok (all_cons te8_ok (all_cons te9_ok (all_cons te10_ok (all_cons te11_ok (all_cons te12_ok (all_cons te13_ok (all_cons te14_ok (all_cons te15_ok (all_cons te16_ok (all_cons te17_ok (all_cons te18_ok (all_cons te19_ok (all_cons te21_ok (all_cons te22_ok (all_cons te23_ok (all_cons te24_ok (all_cons te25_ok (all_cons te26_ok (all_cons te27_ok (all_cons te28_ok (all_cons te29_ok (all_cons te30_ok (all_cons te32_ok (all_cons te33_ok (all_cons te34_ok (all_cons te35_ok (all_cons te36_ok (all_cons te37_ok (all_cons te38_ok (all_cons te39_ok (all_cons te40_ok (all_cons te41_ok (all_cons te43_ok (all_cons te44_ok (all_cons te45_ok (all_cons te47_ok (all_cons te48_ok (all_cons te50_ok (all_cons te51_ok (all_cons te52_ok (all_cons te53_ok (all_cons te54_ok (all_cons te56_ok (all_cons te57_ok (all_cons te58_ok (all_cons te59_ok (all_cons te60_ok (all_cons te61_ok (all_cons te62_ok (all_cons te63_ok (all_cons te64_ok (all_cons te65_ok (all_cons te66_ok (all_cons te67_ok (all_cons te68_ok (all_cons te69_ok (all_cons te70_ok (all_cons te71_ok (all_cons te72_ok (all_cons te73_ok (all_cons te74_ok (all_cons te75_ok (all_cons te76_ok (all_cons te77_ok (all_cons te78_ok (all_cons te79_ok (all_cons te80_ok (all_cons te81_ok (all_cons te82_ok (all_cons te83_ok (all_cons te84_ok (all_cons te85_ok (all_cons te86_ok (all_cons te87_ok (all_cons te88_ok (all_cons te89_ok (all_cons te90_ok (all_cons te91_ok (all_cons te92_ok (all_cons te93_ok (all_cons te94_ok (all_cons te95_ok (all_cons te96_ok (all_cons te97_ok (all_cons te98_ok (all_cons te99_ok (all_cons te100_ok (all_cons te101_ok (all_cons te102_ok (all_cons te103_ok (all_cons te104_ok (all_cons te105_ok (all_cons te106_ok (all_cons te107_ok (all_cons te108_ok (all_cons te109_ok (all_cons te110_ok (all_cons te111_ok (all_cons te112_ok (all_cons te113_ok (all_cons te115_ok (all_cons te116_ok (all_cons te117_ok (all_cons te118_ok (all_cons te119_ok (all_cons te120_ok (all_cons te121_ok (all_cons te122_ok (all_cons te123_ok (all_cons te124_ok (all_cons te125_ok (all_cons te126_ok (all_cons te127_ok (all_cons te128_ok (all_cons te129_ok (all_cons te130_ok (all_cons te131_ok (all_cons te132_ok (all_cons te133_ok (all_cons te134_ok (all_cons te135_ok (all_cons te136_ok (all_cons te137_ok (all_cons te138_ok (all_cons te139_ok (all_cons te140_ok (all_cons te141_ok (all_cons te142_ok (all_cons te143_ok (all_cons te145_ok (all_cons te146_ok (all_cons te147_ok (all_cons te148_ok (all_cons te149_ok (all_cons te150_ok (all_cons te154_ok (all_cons te155_ok (all_cons te156_ok (all_cons te157_ok (all_cons te158_ok (all_cons te159_ok (all_cons te160_ok (all_cons te161_ok (all_cons te162_ok (all_cons te163_ok (all_nil _))))))))))))))))))))))))))))))))))))))))))))))))))))))))))))))))))))))))))))))))))))))))))))))))))))))))))))))))))))))))))))))))))))))))))))))))))))))))) h
noncomputable def E : Env := ⟨Tryz.prog, tyTab, tyTab_ok, by kernel_rfl⟩
end Go.Proofs.YtnghoibkjphfmaaGreat
