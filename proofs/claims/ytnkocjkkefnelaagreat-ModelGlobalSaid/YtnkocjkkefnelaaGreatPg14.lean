/- Parts. -/
import Derived.Test.YtnkocjkkefnelaaGreatRows
import Derived.Test.YtnkocjkkefnelaaGreatPg2
set_option linter.unusedVariables false
set_option linter.unusedSimpArgs false
set_option maxHeartbeats 4000000
set_option maxRecDepth 100000
namespace Go.Proofs.YtnkocjkkefnelaaGreat
open Go.RowKit
theorem uB {P : Program} {T : TypeId} {k : TK} {size bytes : Nat} {zero : List Value} {z : Value} (hk : k.fits P T) (hi : (P.info? T).map (fun i => (i.zero, i.size, i.bytes)) = some (some z, size, bytes) := by kernel_rfl) (hz : z.cells.toList = zero := by exact rfl) (hl : zero.length = size := by exact rfl) (h1 : zero.all (·.oneCell') = true := by exact rfl) : TE.fits P T ⟨k, size, bytes, zero⟩ := by
 obtain ⟨i, h2, h3⟩ := Option.map_eq_some_iff.1 hi
 simp only [Prod.mk.injEq] at h3
 exact ⟨hk, i, z, h2, h3.2.1, h3.2.2, h3.1, hz, hl, h1⟩
def te1 : TE := ⟨.sc (.func #[] #[] false), 1, 8, [.nilFunc]⟩
theorem te1_ok : te1.fits Tryz.prog 1 := uB (z := (.nilFunc)) ⟨Tryz.underlying1, rfl⟩
def te2 : TE := ⟨.sc (.int .i64), 1, 8, [.int .i64 0]⟩
theorem te2_ok : te2.fits Tryz.prog 2 := uB (z := (.int .i64 0)) ⟨Tryz.underlying2, rfl⟩
def te3 : TE := ⟨.sc (.int .i64), 1, 8, [.int .i64 0]⟩
theorem te3_ok : te3.fits Tryz.prog 3 := uB (z := (.int .i64 0)) ⟨Tryz.underlying3, rfl⟩
def te4 : TE := ⟨.sc (.bool), 1, 1, [.bool false]⟩
theorem te4_ok : te4.fits Tryz.prog 4 := uB (z := (.bool false)) ⟨Tryz.underlying4, rfl⟩
def te5 : TE := ⟨.sc (.int .u8), 1, 1, [.int .u8 0]⟩
theorem te5_ok : te5.fits Tryz.prog 5 := uB (z := (.int .u8 0)) ⟨Tryz.underlying5, rfl⟩
def te6 : TE := ⟨.sc (.int .u8), 1, 1, [.int .u8 0]⟩
theorem te6_ok : te6.fits Tryz.prog 6 := uB (z := (.int .u8 0)) ⟨Tryz.underlying6, rfl⟩
def te7 : TE := ⟨.st [(0, 2), (1, 3), (2, 4), (3, 6)], 4, 24, [.int .i64 0, .int .i64 0, .bool false, .int .u8 0]⟩
theorem te7_ok : te7.fits Tryz.prog 7 := uB (z := (.agg #[.int .i64 0, .int .i64 0, .bool false, .int .u8 0])) ⟨_, Tryz.underlying7, rfl⟩
def te8 : TE := ⟨.st [(0, 2), (1, 3), (2, 4), (3, 6)], 4, 24, [.int .i64 0, .int .i64 0, .bool false, .int .u8 0]⟩
theorem te8_ok : te8.fits Tryz.prog 8 := uB (z := (.agg #[.int .i64 0, .int .i64 0, .bool false, .int .u8 0])) ⟨_, Tryz.underlying8, rfl⟩
def te9 : TE := ⟨.sc (.string), 1, 16, [.string ⟨#[]⟩]⟩
theorem te9_ok : te9.fits Tryz.prog 9 := uB (z := (.string ⟨#[]⟩)) ⟨Tryz.underlying9, rfl⟩
def te10 : TE := ⟨.sc (.string), 1, 16, [.string ⟨#[]⟩]⟩
theorem te10_ok : te10.fits Tryz.prog 10 := uB (z := (.string ⟨#[]⟩)) ⟨Tryz.underlying10, rfl⟩
def te11 : TE := ⟨.sc (.string), 1, 16, [.string ⟨#[]⟩]⟩
theorem te11_ok : te11.fits Tryz.prog 11 := uB (z := (.string ⟨#[]⟩)) ⟨Tryz.underlying11, rfl⟩
def te12 : TE := ⟨.sc (.int .u64), 1, 8, [.int .u64 0]⟩
theorem te12_ok : te12.fits Tryz.prog 12 := uB (z := (.int .u64 0)) ⟨Tryz.underlying12, rfl⟩
def te13 : TE := ⟨.st [(0, 9), (1, 12)], 2, 24, [.string ⟨#[]⟩, .int .u64 0]⟩
theorem te13_ok : te13.fits Tryz.prog 13 := uB (z := (.agg #[.string ⟨#[]⟩, .int .u64 0])) ⟨_, Tryz.underlying13, rfl⟩
def te14 : TE := ⟨.st [(0, 9), (1, 12)], 2, 24, [.string ⟨#[]⟩, .int .u64 0]⟩
theorem te14_ok : te14.fits Tryz.prog 14 := uB (z := (.agg #[.string ⟨#[]⟩, .int .u64 0])) ⟨_, Tryz.underlying14, rfl⟩
def te15 : TE := ⟨.sc (.pointer 179), 1, 8, [.pointer none]⟩
theorem te15_ok : te15.fits Tryz.prog 15 := uB (z := (.pointer none)) ⟨Tryz.underlying15, rfl⟩
def te16 : TE := ⟨.sc (.pointer 182), 1, 8, [.pointer none]⟩
theorem te16_ok : te16.fits Tryz.prog 16 := uB (z := (.pointer none)) ⟨Tryz.underlying16, rfl⟩
def te17 : TE := ⟨.sc (.pointer 191), 1, 8, [.pointer none]⟩
theorem te17_ok : te17.fits Tryz.prog 17 := uB (z := (.pointer none)) ⟨Tryz.underlying17, rfl⟩
def te18 : TE := ⟨.st [(0, 17)], 1, 8, [.pointer none]⟩
theorem te18_ok : te18.fits Tryz.prog 18 := uB (z := (.agg #[.pointer none])) ⟨_, Tryz.underlying18, rfl⟩
def te19 : TE := ⟨.st [(0, 17)], 1, 8, [.pointer none]⟩
theorem te19_ok : te19.fits Tryz.prog 19 := uB (z := (.agg #[.pointer none])) ⟨_, Tryz.underlying19, rfl⟩
def te21 : TE := ⟨.sc (.int .i32), 1, 4, [.int .i32 0]⟩
theorem te21_ok : te21.fits Tryz.prog 21 := uB (z := (.int .i32 0)) ⟨Tryz.underlying21, rfl⟩
def te22 : TE := ⟨.slice 40, 1, 24, [.slice none 0 0]⟩
theorem te22_ok : te22.fits Tryz.prog 22 := uB (z := (.slice none 0 0)) Tryz.underlying22
def te23 : TE := ⟨.slice 3, 1, 24, [.slice none 0 0]⟩
theorem te23_ok : te23.fits Tryz.prog 23 := uB (z := (.slice none 0 0)) Tryz.underlying23
def te24 : TE := ⟨.slice 23, 1, 24, [.slice none 0 0]⟩
theorem te24_ok : te24.fits Tryz.prog 24 := uB (z := (.slice none 0 0)) Tryz.underlying24
def te25 : TE := ⟨.st [(0, 22), (1, 23), (2, 24)], 3, 72, [.slice none 0 0, .slice none 0 0, .slice none 0 0]⟩
theorem te25_ok : te25.fits Tryz.prog 25 := uB (z := (.agg #[.slice none 0 0, .slice none 0 0, .slice none 0 0])) ⟨_, Tryz.underlying25, rfl⟩
def te26 : TE := ⟨.st [(0, 22), (1, 23), (2, 24)], 3, 72, [.slice none 0 0, .slice none 0 0, .slice none 0 0]⟩
theorem te26_ok : te26.fits Tryz.prog 26 := uB (z := (.agg #[.slice none 0 0, .slice none 0 0, .slice none 0 0])) ⟨_, Tryz.underlying26, rfl⟩
def te27 : TE := ⟨.sc (.func #[26] #[4] false), 1, 8, [.nilFunc]⟩
theorem te27_ok : te27.fits Tryz.prog 27 := uB (z := (.nilFunc)) ⟨Tryz.underlying27, rfl⟩
def te28 : TE := ⟨.sc (.func #[26] #[3] false), 1, 8, [.nilFunc]⟩
theorem te28_ok : te28.fits Tryz.prog 28 := uB (z := (.nilFunc)) ⟨Tryz.underlying28, rfl⟩
def te29 : TE := ⟨.sc (.func #[] #[4] false), 1, 8, [.nilFunc]⟩
theorem te29_ok : te29.fits Tryz.prog 29 := uB (z := (.nilFunc)) ⟨Tryz.underlying29, rfl⟩
def te30 : TE := ⟨.sc (.int .i64), 1, 8, [.int .i64 0]⟩
theorem te30_ok : te30.fits Tryz.prog 30 := uB (z := (.int .i64 0)) ⟨Tryz.underlying30, rfl⟩
def te32 : TE := ⟨.sc (.func #[26] #[4, 30] false), 1, 8, [.nilFunc]⟩
theorem te32_ok : te32.fits Tryz.prog 32 := uB (z := (.nilFunc)) ⟨Tryz.underlying32, rfl⟩
def te33 : TE := ⟨.st [(0, 4), (1, 4), (2, 4)], 3, 3, [.bool false, .bool false, .bool false]⟩
theorem te33_ok : te33.fits Tryz.prog 33 := uB (z := (.agg #[.bool false, .bool false, .bool false])) ⟨_, Tryz.underlying33, rfl⟩
def te34 : TE := ⟨.st [(0, 4), (1, 4), (2, 4)], 3, 3, [.bool false, .bool false, .bool false]⟩
theorem te34_ok : te34.fits Tryz.prog 34 := uB (z := (.agg #[.bool false, .bool false, .bool false])) ⟨_, Tryz.underlying34, rfl⟩
def te36 : TE := ⟨.sc (.func #[26] #[34, 30] false), 1, 8, [.nilFunc]⟩
theorem te36_ok : te36.fits Tryz.prog 36 := uB (z := (.nilFunc)) ⟨Tryz.underlying36, rfl⟩
def te37 : TE := ⟨.sc (.int .i64), 1, 8, [.int .i64 0]⟩
theorem te37_ok : te37.fits Tryz.prog 37 := uB (z := (.int .i64 0)) ⟨Tryz.underlying37, rfl⟩
def te38 : TE := ⟨.sc (.int .u32), 1, 4, [.int .u32 0]⟩
theorem te38_ok : te38.fits Tryz.prog 38 := uB (z := (.int .u32 0)) ⟨Tryz.underlying38, rfl⟩
def te39 : TE := ⟨.st [(0, 3), (1, 37), (2, 38), (3, 38), (4, 38), (5, 4), (6, 4), (7, 3), (8, 3), (9, 4), (10, 23), (11, 23), (12, 23)], 13, 128, [.int .i64 0, .int .i64 0, .int .u32 0, .int .u32 0, .int .u32 0, .bool false, .bool false, .int .i64 0, .int .i64 0, .bool false, .slice none 0 0, .slice none 0 0, .slice none 0 0]⟩
theorem te39_ok : te39.fits Tryz.prog 39 := uB (z := (.agg #[.int .i64 0, .int .i64 0, .int .u32 0, .int .u32 0, .int .u32 0, .bool false, .bool false, .int .i64 0, .int .i64 0, .bool false, .slice none 0 0, .slice none 0 0, .slice none 0 0])) ⟨_, Tryz.underlying39, rfl⟩
def te40 : TE := ⟨.st [(0, 3), (1, 37), (2, 38), (3, 38), (4, 38), (5, 4), (6, 4), (7, 3), (8, 3), (9, 4), (10, 23), (11, 23), (12, 23)], 13, 128, [.int .i64 0, .int .i64 0, .int .u32 0, .int .u32 0, .int .u32 0, .bool false, .bool false, .int .i64 0, .int .i64 0, .bool false, .slice none 0 0, .slice none 0 0, .slice none 0 0]⟩
theorem te40_ok : te40.fits Tryz.prog 40 := uB (z := (.agg #[.int .i64 0, .int .i64 0, .int .u32 0, .int .u32 0, .int .u32 0, .bool false, .bool false, .int .i64 0, .int .i64 0, .bool false, .slice none 0 0, .slice none 0 0, .slice none 0 0])) ⟨_, Tryz.underlying40, rfl⟩
def te41 : TE := ⟨.sc (.func #[26, 3] #[4] false), 1, 8, [.nilFunc]⟩
theorem te41_ok : te41.fits Tryz.prog 41 := uB (z := (.nilFunc)) ⟨Tryz.underlying41, rfl⟩
def te42 : TE := ⟨.slice 44, 1, 24, [.slice none 0 0]⟩
theorem te42_ok : te42.fits Tryz.prog 42 := uB (z := (.slice none 0 0)) Tryz.underlying42
def te43 : TE := ⟨.st [(0, 5), (1, 4), (2, 38)], 3, 8, [.int .u8 0, .bool false, .int .u32 0]⟩
theorem te43_ok : te43.fits Tryz.prog 43 := uB (z := (.agg #[.int .u8 0, .bool false, .int .u32 0])) ⟨_, Tryz.underlying43, rfl⟩
def te44 : TE := ⟨.st [(0, 5), (1, 4), (2, 38)], 3, 8, [.int .u8 0, .bool false, .int .u32 0]⟩
theorem te44_ok : te44.fits Tryz.prog 44 := uB (z := (.agg #[.int .u8 0, .bool false, .int .u32 0])) ⟨_, Tryz.underlying44, rfl⟩
def te45 : TE := ⟨.sc (.func #[42] #[4] false), 1, 8, [.nilFunc]⟩
theorem te45_ok : te45.fits Tryz.prog 45 := uB (z := (.nilFunc)) ⟨Tryz.underlying45, rfl⟩
def te46 : TE := ⟨.arr 4 3, 4, 32, [.int .i64 0, .int .i64 0, .int .i64 0, .int .i64 0]⟩
theorem te46_ok : te46.fits Tryz.prog 46 := uB (z := (.agg #[.int .i64 0, .int .i64 0, .int .i64 0, .int .i64 0])) Tryz.underlying46
def te47 : TE := ⟨.arr 4 4, 4, 4, [.bool false, .bool false, .bool false, .bool false]⟩
theorem te47_ok : te47.fits Tryz.prog 47 := uB (z := (.agg #[.bool false, .bool false, .bool false, .bool false])) Tryz.underlying47
def te48 : TE := ⟨.sc (.func #[46, 49, 47] #[26] false), 1, 8, [.nilFunc]⟩
theorem te48_ok : te48.fits Tryz.prog 48 := uB (z := (.nilFunc)) ⟨Tryz.underlying48, rfl⟩
def te49 : TE := ⟨.arr 2 3, 2, 16, [.int .i64 0, .int .i64 0]⟩
theorem te49_ok : te49.fits Tryz.prog 49 := uB (z := (.agg #[.int .i64 0, .int .i64 0])) Tryz.underlying49
def te50 : TE := ⟨.sc (.func #[5, 5, 5] #[4] false), 1, 8, [.nilFunc]⟩
theorem te50_ok : te50.fits Tryz.prog 50 := uB (z := (.nilFunc)) ⟨Tryz.underlying50, rfl⟩
def te51 : TE := ⟨.slice 73, 1, 24, [.slice none 0 0]⟩
theorem te51_ok : te51.fits Tryz.prog 51 := uB (z := (.slice none 0 0)) Tryz.underlying51
def te53 : TE := ⟨.sc (.func #[26] #[51, 30] false), 1, 8, [.nilFunc]⟩
theorem te53_ok : te53.fits Tryz.prog 53 := uB (z := (.nilFunc)) ⟨Tryz.underlying53, rfl⟩
def te54 : TE := ⟨.sc (.func #[51, 51] #[4] false), 1, 8, [.nilFunc]⟩
theorem te54_ok : te54.fits Tryz.prog 54 := uB (z := (.nilFunc)) ⟨Tryz.underlying54, rfl⟩
def te55 : TE := ⟨.sc (.func #[26, 3] #[51] false), 1, 8, [.nilFunc]⟩
theorem te55_ok : te55.fits Tryz.prog 55 := uB (z := (.nilFunc)) ⟨Tryz.underlying55, rfl⟩
def te57 : TE := ⟨.sc (.func #[26] #[23, 4] false), 1, 8, [.nilFunc]⟩
theorem te57_ok : te57.fits Tryz.prog 57 := uB (z := (.nilFunc)) ⟨Tryz.underlying57, rfl⟩
def te58 : TE := ⟨.sc (.func #[23, 23] #[4] false), 1, 8, [.nilFunc]⟩
theorem te58_ok : te58.fits Tryz.prog 58 := uB (z := (.nilFunc)) ⟨Tryz.underlying58, rfl⟩
def te59 : TE := ⟨.slice 38, 1, 24, [.slice none 0 0]⟩
theorem te59_ok : te59.fits Tryz.prog 59 := uB (z := (.slice none 0 0)) Tryz.underlying59
def te60 : TE := ⟨.sc (.func #[26] #[59] false), 1, 8, [.nilFunc]⟩
theorem te60_ok : te60.fits Tryz.prog 60 := uB (z := (.nilFunc)) ⟨Tryz.underlying60, rfl⟩
def te61 : TE := ⟨.sc (.func #[40] #[4] false), 1, 8, [.nilFunc]⟩
theorem te61_ok : te61.fits Tryz.prog 61 := uB (z := (.nilFunc)) ⟨Tryz.underlying61, rfl⟩
def te62 : TE := ⟨.sc (.func #[26, 3, 23] #[4] false), 1, 8, [.nilFunc]⟩
theorem te62_ok : te62.fits Tryz.prog 62 := uB (z := (.nilFunc)) ⟨Tryz.underlying62, rfl⟩
def te63 : TE := ⟨.sc (.func #[23, 3] #[3] false), 1, 8, [.nilFunc]⟩
theorem te63_ok : te63.fits Tryz.prog 63 := uB (z := (.nilFunc)) ⟨Tryz.underlying63, rfl⟩
def te64 : TE := ⟨.sc (.func #[26, 23, 23] #[4] false), 1, 8, [.nilFunc]⟩
theorem te64_ok : te64.fits Tryz.prog 64 := uB (z := (.nilFunc)) ⟨Tryz.underlying64, rfl⟩
def te65 : TE := ⟨.sc (.func #[26] #[30] false), 1, 8, [.nilFunc]⟩
theorem te65_ok : te65.fits Tryz.prog 65 := uB (z := (.nilFunc)) ⟨Tryz.underlying65, rfl⟩
def te66 : TE := ⟨.st [(0, 26), (3, 51), (4, 51), (5, 51)], 6, 144, [.slice none 0 0, .slice none 0 0, .slice none 0 0, .slice none 0 0, .slice none 0 0, .slice none 0 0]⟩
theorem te66_ok : te66.fits Tryz.prog 66 := uB (z := (.agg #[.slice none 0 0, .slice none 0 0, .slice none 0 0, .slice none 0 0, .slice none 0 0, .slice none 0 0])) ⟨_, Tryz.underlying66, rfl⟩
def te67 : TE := ⟨.st [(0, 26), (3, 51), (4, 51), (5, 51)], 6, 144, [.slice none 0 0, .slice none 0 0, .slice none 0 0, .slice none 0 0, .slice none 0 0, .slice none 0 0]⟩
theorem te67_ok : te67.fits Tryz.prog 67 := uB (z := (.agg #[.slice none 0 0, .slice none 0 0, .slice none 0 0, .slice none 0 0, .slice none 0 0, .slice none 0 0])) ⟨_, Tryz.underlying67, rfl⟩
def te68 : TE := ⟨.sc (.func #[26] #[67] false), 1, 8, [.nilFunc]⟩
theorem te68_ok : te68.fits Tryz.prog 68 := uB (z := (.nilFunc)) ⟨Tryz.underlying68, rfl⟩
def te69 : TE := ⟨.sc (.pointer 4), 1, 8, [.pointer none]⟩
theorem te69_ok : te69.fits Tryz.prog 69 := uB (z := (.pointer none)) ⟨Tryz.underlying69, rfl⟩
def te70 : TE := ⟨.st [(0, 69), (1, 29)], 2, 16, [.pointer none, .nilFunc]⟩
theorem te70_ok : te70.fits Tryz.prog 70 := uB (z := (.agg #[.pointer none, .nilFunc])) ⟨_, Tryz.underlying70, rfl⟩
def te71 : TE := ⟨.slice 70, 1, 24, [.slice none 0 0]⟩
theorem te71_ok : te71.fits Tryz.prog 71 := uB (z := (.slice none 0 0)) Tryz.underlying71
def te72 : TE := ⟨.st [(0, 3), (1, 3)], 2, 16, [.int .i64 0, .int .i64 0]⟩
theorem te72_ok : te72.fits Tryz.prog 72 := uB (z := (.agg #[.int .i64 0, .int .i64 0])) ⟨_, Tryz.underlying72, rfl⟩
def te73 : TE := ⟨.st [(0, 3), (1, 3)], 2, 16, [.int .i64 0, .int .i64 0]⟩
theorem te73_ok : te73.fits Tryz.prog 73 := uB (z := (.agg #[.int .i64 0, .int .i64 0])) ⟨_, Tryz.underlying73, rfl⟩
def te74 : TE := ⟨.sc (.func #[3, 51] #[4] false), 1, 8, [.nilFunc]⟩
theorem te74_ok : te74.fits Tryz.prog 74 := uB (z := (.nilFunc)) ⟨Tryz.underlying74, rfl⟩
def te75 : TE := ⟨.sc (.func #[26, 3] #[3] false), 1, 8, [.nilFunc]⟩
theorem te75_ok : te75.fits Tryz.prog 75 := uB (z := (.nilFunc)) ⟨Tryz.underlying75, rfl⟩
def te76 : TE := ⟨.sc (.func #[26, 3, 3] #[4] false), 1, 8, [.nilFunc]⟩
theorem te76_ok : te76.fits Tryz.prog 76 := uB (z := (.nilFunc)) ⟨Tryz.underlying76, rfl⟩
def te77 : TE := ⟨.sc (.func #[] #[51] false), 1, 8, [.nilFunc]⟩
theorem te77_ok : te77.fits Tryz.prog 77 := uB (z := (.nilFunc)) ⟨Tryz.underlying77, rfl⟩
def te78 : TE := ⟨.sc (.map 3 3), 1, 8, [.map none]⟩
theorem te78_ok : te78.fits Tryz.prog 78 := uB (z := (.map none)) ⟨Tryz.underlying78, rfl⟩
def te79 : TE := ⟨.sc (.func #[81] #[23] false), 1, 8, [.nilFunc]⟩
theorem te79_ok : te79.fits Tryz.prog 79 := uB (z := (.nilFunc)) ⟨Tryz.underlying79, rfl⟩
def te80 : TE := ⟨.sc (.func #[101] #[] false), 1, 8, [.nilFunc]⟩
theorem te80_ok : te80.fits Tryz.prog 80 := uB (z := (.nilFunc)) ⟨Tryz.underlying80, rfl⟩
def te81 : TE := ⟨.sc (.func #[101] #[] false), 1, 8, [.nilFunc]⟩
theorem te81_ok : te81.fits Tryz.prog 81 := uB (z := (.nilFunc)) ⟨Tryz.underlying81, rfl⟩
def te82 : TE := ⟨.sc (.func #[78] #[81] false), 1, 8, [.nilFunc]⟩
theorem te82_ok : te82.fits Tryz.prog 82 := uB (z := (.nilFunc)) ⟨Tryz.underlying82, rfl⟩
def te83 : TE := ⟨.sc (.func #[26, 23] #[4] false), 1, 8, [.nilFunc]⟩
theorem te83_ok : te83.fits Tryz.prog 83 := uB (z := (.nilFunc)) ⟨Tryz.underlying83, rfl⟩
def te84 : TE := ⟨.sc (.func #[26, 3, 3, 59] #[4] false), 1, 8, [.nilFunc]⟩
theorem te84_ok : te84.fits Tryz.prog 84 := uB (z := (.nilFunc)) ⟨Tryz.underlying84, rfl⟩
def te85 : TE := ⟨.sc (.func #[26, 59] #[4] false), 1, 8, [.nilFunc]⟩
theorem te85_ok : te85.fits Tryz.prog 85 := uB (z := (.nilFunc)) ⟨Tryz.underlying85, rfl⟩
def te86 : TE := ⟨.sc (.func #[26] #[51] false), 1, 8, [.nilFunc]⟩
theorem te86_ok : te86.fits Tryz.prog 86 := uB (z := (.nilFunc)) ⟨Tryz.underlying86, rfl⟩
def te87 : TE := ⟨.sc (.func #[3, 51] #[4] true), 1, 8, [.nilFunc]⟩
theorem te87_ok : te87.fits Tryz.prog 87 := uB (z := (.nilFunc)) ⟨Tryz.underlying87, rfl⟩
def te88 : TE := ⟨.sc (.func #[113] #[51] true), 1, 8, [.nilFunc]⟩
theorem te88_ok : te88.fits Tryz.prog 88 := uB (z := (.nilFunc)) ⟨Tryz.underlying88, rfl⟩
def te90 : TE := ⟨.sc (.func #[3] #[3, 4] false), 1, 8, [.nilFunc]⟩
theorem te90_ok : te90.fits Tryz.prog 90 := uB (z := (.nilFunc)) ⟨Tryz.underlying90, rfl⟩
def te91 : TE := ⟨.slice 4, 1, 24, [.slice none 0 0]⟩
theorem te91_ok : te91.fits Tryz.prog 91 := uB (z := (.slice none 0 0)) Tryz.underlying91
def te92 : TE := ⟨.sc (.map 73 3), 1, 8, [.map none]⟩
theorem te92_ok : te92.fits Tryz.prog 92 := uB (z := (.map none)) ⟨Tryz.underlying92, rfl⟩
def te93 : TE := ⟨.sc (.func #[51] #[] false), 1, 8, [.nilFunc]⟩
theorem te93_ok : te93.fits Tryz.prog 93 := uB (z := (.nilFunc)) ⟨Tryz.underlying93, rfl⟩
def te94 : TE := ⟨.sc (.func #[96, 98] #[51] false), 1, 8, [.nilFunc]⟩
theorem te94_ok : te94.fits Tryz.prog 94 := uB (z := (.nilFunc)) ⟨Tryz.underlying94, rfl⟩
def te95 : TE := ⟨.sc (.func #[110] #[] false), 1, 8, [.nilFunc]⟩
theorem te95_ok : te95.fits Tryz.prog 95 := uB (z := (.nilFunc)) ⟨Tryz.underlying95, rfl⟩
def te96 : TE := ⟨.sc (.func #[110] #[] false), 1, 8, [.nilFunc]⟩
theorem te96_ok : te96.fits Tryz.prog 96 := uB (z := (.nilFunc)) ⟨Tryz.underlying96, rfl⟩
def te97 : TE := ⟨.sc (.func #[92] #[96] false), 1, 8, [.nilFunc]⟩
theorem te97_ok : te97.fits Tryz.prog 97 := uB (z := (.nilFunc)) ⟨Tryz.underlying97, rfl⟩
def te98 : TE := ⟨.sc (.func #[73, 73] #[3] false), 1, 8, [.nilFunc]⟩
theorem te98_ok : te98.fits Tryz.prog 98 := uB (z := (.nilFunc)) ⟨Tryz.underlying98, rfl⟩
def te99 : TE := ⟨.sc (.func #[26, 3, 3, 3] #[4] false), 1, 8, [.nilFunc]⟩
theorem te99_ok : te99.fits Tryz.prog 99 := uB (z := (.nilFunc)) ⟨Tryz.underlying99, rfl⟩
def te100 : TE := ⟨.sc (.func #[23] #[] false), 1, 8, [.nilFunc]⟩
theorem te100_ok : te100.fits Tryz.prog 100 := uB (z := (.nilFunc)) ⟨Tryz.underlying100, rfl⟩
def te101 : TE := ⟨.sc (.func #[3] #[4] false), 1, 8, [.nilFunc]⟩
theorem te101_ok : te101.fits Tryz.prog 101 := uB (z := (.nilFunc)) ⟨Tryz.underlying101, rfl⟩
def te102 : TE := ⟨.sc (.func #[26, 23, 3] #[3] false), 1, 8, [.nilFunc]⟩
theorem te102_ok : te102.fits Tryz.prog 102 := uB (z := (.nilFunc)) ⟨Tryz.underlying102, rfl⟩
def te103 : TE := ⟨.sc (.map 38 3), 1, 8, [.map none]⟩
theorem te103_ok : te103.fits Tryz.prog 103 := uB (z := (.map none)) ⟨Tryz.underlying103, rfl⟩
def te104 : TE := ⟨.sc (.func #[106] #[59] false), 1, 8, [.nilFunc]⟩
theorem te104_ok : te104.fits Tryz.prog 104 := uB (z := (.nilFunc)) ⟨Tryz.underlying104, rfl⟩
def te105 : TE := ⟨.sc (.func #[127] #[] false), 1, 8, [.nilFunc]⟩
theorem te105_ok : te105.fits Tryz.prog 105 := uB (z := (.nilFunc)) ⟨Tryz.underlying105, rfl⟩
def te106 : TE := ⟨.sc (.func #[127] #[] false), 1, 8, [.nilFunc]⟩
theorem te106_ok : te106.fits Tryz.prog 106 := uB (z := (.nilFunc)) ⟨Tryz.underlying106, rfl⟩
def te107 : TE := ⟨.sc (.func #[103] #[106] false), 1, 8, [.nilFunc]⟩
theorem te107_ok : te107.fits Tryz.prog 107 := uB (z := (.nilFunc)) ⟨Tryz.underlying107, rfl⟩
def te108 : TE := ⟨.sc (.func #[23] #[81] false), 1, 8, [.nilFunc]⟩
theorem te108_ok : te108.fits Tryz.prog 108 := uB (z := (.nilFunc)) ⟨Tryz.underlying108, rfl⟩
def te109 : TE := ⟨.sc (.func #[96] #[51] false), 1, 8, [.nilFunc]⟩
theorem te109_ok : te109.fits Tryz.prog 109 := uB (z := (.nilFunc)) ⟨Tryz.underlying109, rfl⟩
def te110 : TE := ⟨.sc (.func #[73] #[4] false), 1, 8, [.nilFunc]⟩
theorem te110_ok : te110.fits Tryz.prog 110 := uB (z := (.nilFunc)) ⟨Tryz.underlying110, rfl⟩
def te111 : TE := ⟨.sc (.func #[51, 110] #[4] false), 1, 8, [.nilFunc]⟩
theorem te111_ok : te111.fits Tryz.prog 111 := uB (z := (.nilFunc)) ⟨Tryz.underlying111, rfl⟩
def te112 : TE := ⟨.sc (.map 3 23), 1, 8, [.map none]⟩
theorem te112_ok : te112.fits Tryz.prog 112 := uB (z := (.map none)) ⟨Tryz.underlying112, rfl⟩
def te113 : TE := ⟨.slice 51, 1, 24, [.slice none 0 0]⟩
theorem te113_ok : te113.fits Tryz.prog 113 := uB (z := (.slice none 0 0)) Tryz.underlying113
def te114 : TE := ⟨.sc (.func #[51, 3] #[51] false), 1, 8, [.nilFunc]⟩
theorem te114_ok : te114.fits Tryz.prog 114 := uB (z := (.nilFunc)) ⟨Tryz.underlying114, rfl⟩
def te115 : TE := ⟨.sc (.func #[26, 3] #[3, 4] false), 1, 8, [.nilFunc]⟩
theorem te115_ok : te115.fits Tryz.prog 115 := uB (z := (.nilFunc)) ⟨Tryz.underlying115, rfl⟩
def te116 : TE := ⟨.st [(0, 26)], 3, 72, [.slice none 0 0, .slice none 0 0, .slice none 0 0]⟩
theorem te116_ok : te116.fits Tryz.prog 116 := uB (z := (.agg #[.slice none 0 0, .slice none 0 0, .slice none 0 0])) ⟨_, Tryz.underlying116, rfl⟩
def te117 : TE := ⟨.st [(0, 26)], 3, 72, [.slice none 0 0, .slice none 0 0, .slice none 0 0]⟩
theorem te117_ok : te117.fits Tryz.prog 117 := uB (z := (.agg #[.slice none 0 0, .slice none 0 0, .slice none 0 0])) ⟨_, Tryz.underlying117, rfl⟩
def te118 : TE := ⟨.sc (.func #[3, 3] #[4] false), 1, 8, [.nilFunc]⟩
theorem te118_ok : te118.fits Tryz.prog 118 := uB (z := (.nilFunc)) ⟨Tryz.underlying118, rfl⟩
def te119 : TE := ⟨.sc (.func #[3, 3] #[23] false), 1, 8, [.nilFunc]⟩
theorem te119_ok : te119.fits Tryz.prog 119 := uB (z := (.nilFunc)) ⟨Tryz.underlying119, rfl⟩
def te120 : TE := ⟨.sc (.func #[51, 98] #[] false), 1, 8, [.nilFunc]⟩
theorem te120_ok : te120.fits Tryz.prog 120 := uB (z := (.nilFunc)) ⟨Tryz.underlying120, rfl⟩
def te121 : TE := ⟨.sc (.func #[3, 40] #[4] false), 1, 8, [.nilFunc]⟩
theorem te121_ok : te121.fits Tryz.prog 121 := uB (z := (.nilFunc)) ⟨Tryz.underlying121, rfl⟩
def te122 : TE := ⟨.sc (.func #[23, 81] #[23] false), 1, 8, [.nilFunc]⟩
theorem te122_ok : te122.fits Tryz.prog 122 := uB (z := (.nilFunc)) ⟨Tryz.underlying122, rfl⟩
def te123 : TE := ⟨.sc (.func #[23, 3, 3, 3] #[] false), 1, 8, [.nilFunc]⟩
theorem te123_ok : te123.fits Tryz.prog 123 := uB (z := (.nilFunc)) ⟨Tryz.underlying123, rfl⟩
def te124 : TE := ⟨.sc (.func #[125] #[3] false), 1, 8, [.nilFunc]⟩
theorem te124_ok : te124.fits Tryz.prog 124 := uB (z := (.nilFunc)) ⟨Tryz.underlying124, rfl⟩
def te125 : TE := ⟨.sc (.int .u64), 1, 8, [.int .u64 0]⟩
theorem te125_ok : te125.fits Tryz.prog 125 := uB (z := (.int .u64 0)) ⟨Tryz.underlying125, rfl⟩
def te126 : TE := ⟨.sc (.func #[59] #[] false), 1, 8, [.nilFunc]⟩
theorem te126_ok : te126.fits Tryz.prog 126 := uB (z := (.nilFunc)) ⟨Tryz.underlying126, rfl⟩
def te127 : TE := ⟨.sc (.func #[38] #[4] false), 1, 8, [.nilFunc]⟩
theorem te127_ok : te127.fits Tryz.prog 127 := uB (z := (.nilFunc)) ⟨Tryz.underlying127, rfl⟩
def te128 : TE := ⟨.sc (.func #[51, 110] #[3] false), 1, 8, [.nilFunc]⟩
theorem te128_ok : te128.fits Tryz.prog 128 := uB (z := (.nilFunc)) ⟨Tryz.underlying128, rfl⟩
def te129 : TE := ⟨.arr 14 118, 14, 112, [.nilFunc, .nilFunc, .nilFunc, .nilFunc, .nilFunc, .nilFunc, .nilFunc, .nilFunc, .nilFunc, .nilFunc, .nilFunc, .nilFunc, .nilFunc, .nilFunc]⟩
theorem te129_ok : te129.fits Tryz.prog 129 := uB (z := (.agg #[.nilFunc, .nilFunc, .nilFunc, .nilFunc, .nilFunc, .nilFunc, .nilFunc, .nilFunc, .nilFunc, .nilFunc, .nilFunc, .nilFunc, .nilFunc, .nilFunc])) Tryz.underlying129
def te130 : TE := ⟨.sc (.func #[] #[129] false), 1, 8, [.nilFunc]⟩
theorem te130_ok : te130.fits Tryz.prog 130 := uB (z := (.nilFunc)) ⟨Tryz.underlying130, rfl⟩
def te131 : TE := ⟨.sc (.func #[51, 96] #[51] false), 1, 8, [.nilFunc]⟩
theorem te131_ok : te131.fits Tryz.prog 131 := uB (z := (.nilFunc)) ⟨Tryz.underlying131, rfl⟩
def te132 : TE := ⟨.sc (.func #[51, 3, 3, 3, 98] #[] false), 1, 8, [.nilFunc]⟩
theorem te132_ok : te132.fits Tryz.prog 132 := uB (z := (.nilFunc)) ⟨Tryz.underlying132, rfl⟩
def te133 : TE := ⟨.sc (.func #[23, 3, 3] #[] false), 1, 8, [.nilFunc]⟩
theorem te133_ok : te133.fits Tryz.prog 133 := uB (z := (.nilFunc)) ⟨Tryz.underlying133, rfl⟩
def te134 : TE := ⟨.sc (.int .i64), 1, 8, [.int .i64 0]⟩
theorem te134_ok : te134.fits Tryz.prog 134 := uB (z := (.int .i64 0)) ⟨Tryz.underlying134, rfl⟩
def te136 : TE := ⟨.sc (.func #[23, 3, 3] #[3, 134] false), 1, 8, [.nilFunc]⟩
theorem te136_ok : te136.fits Tryz.prog 136 := uB (z := (.nilFunc)) ⟨Tryz.underlying136, rfl⟩
def te137 : TE := ⟨.sc (.func #[23, 3, 3] #[4] false), 1, 8, [.nilFunc]⟩
theorem te137_ok : te137.fits Tryz.prog 137 := uB (z := (.nilFunc)) ⟨Tryz.underlying137, rfl⟩
def te138 : TE := ⟨.sc (.func #[23, 3, 3, 3] #[3] false), 1, 8, [.nilFunc]⟩
theorem te138_ok : te138.fits Tryz.prog 138 := uB (z := (.nilFunc)) ⟨Tryz.underlying138, rfl⟩
def te139 : TE := ⟨.sc (.func #[23, 3, 3, 3] #[3, 4] false), 1, 8, [.nilFunc]⟩
theorem te139_ok : te139.fits Tryz.prog 139 := uB (z := (.nilFunc)) ⟨Tryz.underlying139, rfl⟩
def te140 : TE := ⟨.sc (.func #[38] #[3] false), 1, 8, [.nilFunc]⟩
theorem te140_ok : te140.fits Tryz.prog 140 := uB (z := (.nilFunc)) ⟨Tryz.underlying140, rfl⟩
def te141 : TE := ⟨.sc (.func #[142] #[3] false), 1, 8, [.nilFunc]⟩
theorem te141_ok : te141.fits Tryz.prog 141 := uB (z := (.nilFunc)) ⟨Tryz.underlying141, rfl⟩
def te142 : TE := ⟨.sc (.int .u64), 1, 8, [.int .u64 0]⟩
theorem te142_ok : te142.fits Tryz.prog 142 := uB (z := (.int .u64 0)) ⟨Tryz.underlying142, rfl⟩
def te143 : TE := ⟨.sc (.func #[59, 106] #[59] false), 1, 8, [.nilFunc]⟩
theorem te143_ok : te143.fits Tryz.prog 143 := uB (z := (.nilFunc)) ⟨Tryz.underlying143, rfl⟩
def te144 : TE := ⟨.sc (.func #[59, 3, 3, 3] #[] false), 1, 8, [.nilFunc]⟩
theorem te144_ok : te144.fits Tryz.prog 144 := uB (z := (.nilFunc)) ⟨Tryz.underlying144, rfl⟩
def te145 : TE := ⟨.sc (.func #[3] #[40] false), 1, 8, [.nilFunc]⟩
theorem te145_ok : te145.fits Tryz.prog 145 := uB (z := (.nilFunc)) ⟨Tryz.underlying145, rfl⟩
def te146 : TE := ⟨.sc (.func #[3, 3, 121] #[4] false), 1, 8, [.nilFunc]⟩
theorem te146_ok : te146.fits Tryz.prog 146 := uB (z := (.nilFunc)) ⟨Tryz.underlying146, rfl⟩
def te147 : TE := ⟨.sc (.func #[23, 3] #[4] false), 1, 8, [.nilFunc]⟩
theorem te147_ok : te147.fits Tryz.prog 147 := uB (z := (.nilFunc)) ⟨Tryz.underlying147, rfl⟩
def te148 : TE := ⟨.sc (.func #[51, 3, 3, 98] #[] false), 1, 8, [.nilFunc]⟩
theorem te148_ok : te148.fits Tryz.prog 148 := uB (z := (.nilFunc)) ⟨Tryz.underlying148, rfl⟩
def te149 : TE := ⟨.sc (.func #[51, 3, 3, 98] #[3, 134] false), 1, 8, [.nilFunc]⟩
theorem te149_ok : te149.fits Tryz.prog 149 := uB (z := (.nilFunc)) ⟨Tryz.underlying149, rfl⟩
def te150 : TE := ⟨.sc (.func #[51, 3, 3, 98] #[4] false), 1, 8, [.nilFunc]⟩
theorem te150_ok : te150.fits Tryz.prog 150 := uB (z := (.nilFunc)) ⟨Tryz.underlying150, rfl⟩
def te151 : TE := ⟨.sc (.func #[51, 3, 3, 3, 98] #[3] false), 1, 8, [.nilFunc]⟩
theorem te151_ok : te151.fits Tryz.prog 151 := uB (z := (.nilFunc)) ⟨Tryz.underlying151, rfl⟩
def te152 : TE := ⟨.sc (.func #[51, 3, 3, 3, 98] #[3, 4] false), 1, 8, [.nilFunc]⟩
theorem te152_ok : te152.fits Tryz.prog 152 := uB (z := (.nilFunc)) ⟨Tryz.underlying152, rfl⟩
def te153 : TE := ⟨.sc (.int .u64), 1, 8, [.int .u64 0]⟩
theorem te153_ok : te153.fits Tryz.prog 153 := uB (z := (.int .u64 0)) ⟨Tryz.underlying153, rfl⟩
def te154 : TE := ⟨.sc (.func #[3] #[125] false), 1, 8, [.nilFunc]⟩
theorem te154_ok : te154.fits Tryz.prog 154 := uB (z := (.nilFunc)) ⟨Tryz.underlying154, rfl⟩
def te155 : TE := ⟨.sc (.func #[] #[142] false), 1, 8, [.nilFunc]⟩
theorem te155_ok : te155.fits Tryz.prog 155 := uB (z := (.nilFunc)) ⟨Tryz.underlying155, rfl⟩
def te156 : TE := ⟨.sc (.func #[23, 3, 157] #[3] false), 1, 8, [.nilFunc]⟩
theorem te156_ok : te156.fits Tryz.prog 156 := uB (z := (.nilFunc)) ⟨Tryz.underlying156, rfl⟩
def te157 : TE := ⟨.sc (.pointer 3), 1, 8, [.pointer none]⟩
theorem te157_ok : te157.fits Tryz.prog 157 := uB (z := (.pointer none)) ⟨Tryz.underlying157, rfl⟩
def te158 : TE := ⟨.sc (.func #[23, 3, 3, 3, 157] #[3] false), 1, 8, [.nilFunc]⟩
theorem te158_ok : te158.fits Tryz.prog 158 := uB (z := (.nilFunc)) ⟨Tryz.underlying158, rfl⟩
def te159 : TE := ⟨.sc (.func #[59, 3, 3] #[] false), 1, 8, [.nilFunc]⟩
theorem te159_ok : te159.fits Tryz.prog 159 := uB (z := (.nilFunc)) ⟨Tryz.underlying159, rfl⟩
def te160 : TE := ⟨.sc (.func #[59, 3, 3] #[3, 134] false), 1, 8, [.nilFunc]⟩
theorem te160_ok : te160.fits Tryz.prog 160 := uB (z := (.nilFunc)) ⟨Tryz.underlying160, rfl⟩
def te161 : TE := ⟨.sc (.func #[59, 3, 3] #[4] false), 1, 8, [.nilFunc]⟩
theorem te161_ok : te161.fits Tryz.prog 161 := uB (z := (.nilFunc)) ⟨Tryz.underlying161, rfl⟩
def te162 : TE := ⟨.sc (.func #[38, 38] #[4] false), 1, 8, [.nilFunc]⟩
theorem te162_ok : te162.fits Tryz.prog 162 := uB (z := (.nilFunc)) ⟨Tryz.underlying162, rfl⟩
def te163 : TE := ⟨.sc (.func #[59, 3, 3, 3] #[3] false), 1, 8, [.nilFunc]⟩
theorem te163_ok : te163.fits Tryz.prog 163 := uB (z := (.nilFunc)) ⟨Tryz.underlying163, rfl⟩
def te164 : TE := ⟨.sc (.func #[59, 3, 3, 3] #[3, 4] false), 1, 8, [.nilFunc]⟩
theorem te164_ok : te164.fits Tryz.prog 164 := uB (z := (.nilFunc)) ⟨Tryz.underlying164, rfl⟩
def te165 : TE := ⟨.sc (.func #[121] #[] false), 1, 8, [.nilFunc]⟩
theorem te165_ok : te165.fits Tryz.prog 165 := uB (z := (.nilFunc)) ⟨Tryz.underlying165, rfl⟩
def te166 : TE := ⟨.sc (.func #[121] #[] false), 1, 8, [.nilFunc]⟩
theorem te166_ok : te166.fits Tryz.prog 166 := uB (z := (.nilFunc)) ⟨Tryz.underlying166, rfl⟩
def te167 : TE := ⟨.sc (.func #[3, 3] #[166] false), 1, 8, [.nilFunc]⟩
theorem te167_ok : te167.fits Tryz.prog 167 := uB (z := (.nilFunc)) ⟨Tryz.underlying167, rfl⟩
def te168 : TE := ⟨.sc (.func #[51, 3, 157, 98] #[3] false), 1, 8, [.nilFunc]⟩
theorem te168_ok : te168.fits Tryz.prog 168 := uB (z := (.nilFunc)) ⟨Tryz.underlying168, rfl⟩
def te169 : TE := ⟨.sc (.func #[51, 3, 3, 3, 157, 98] #[3] false), 1, 8, [.nilFunc]⟩
theorem te169_ok : te169.fits Tryz.prog 169 := uB (z := (.nilFunc)) ⟨Tryz.underlying169, rfl⟩
def te170 : TE := ⟨.sc (.pointer 153), 1, 8, [.pointer none]⟩
theorem te170_ok : te170.fits Tryz.prog 170 := uB (z := (.pointer none)) ⟨Tryz.underlying170, rfl⟩
def te172 : TE := ⟨.sc (.func #[23, 3, 3, 157] #[3, 3] false), 1, 8, [.nilFunc]⟩
theorem te172_ok : te172.fits Tryz.prog 172 := uB (z := (.nilFunc)) ⟨Tryz.underlying172, rfl⟩
def te173 : TE := ⟨.sc (.func #[59, 3, 157] #[3] false), 1, 8, [.nilFunc]⟩
theorem te173_ok : te173.fits Tryz.prog 173 := uB (z := (.nilFunc)) ⟨Tryz.underlying173, rfl⟩
def te174 : TE := ⟨.sc (.func #[59, 3, 3, 3, 157] #[3] false), 1, 8, [.nilFunc]⟩
theorem te174_ok : te174.fits Tryz.prog 174 := uB (z := (.nilFunc)) ⟨Tryz.underlying174, rfl⟩
def te175 : TE := ⟨.sc (.func #[51, 3, 3, 157, 98] #[3, 3] false), 1, 8, [.nilFunc]⟩
theorem te175_ok : te175.fits Tryz.prog 175 := uB (z := (.nilFunc)) ⟨Tryz.underlying175, rfl⟩
def te176 : TE := ⟨.sc (.func #[59, 3, 3, 157] #[3, 3] false), 1, 8, [.nilFunc]⟩
theorem te176_ok : te176.fits Tryz.prog 176 := uB (z := (.nilFunc)) ⟨Tryz.underlying176, rfl⟩
def te177 : TE := ⟨.sc (.func #[] #[9] false), 1, 8, [.nilFunc]⟩
theorem te177_ok : te177.fits Tryz.prog 177 := uB (z := (.nilFunc)) ⟨Tryz.underlying177, rfl⟩
def te178 : TE := ⟨.st [(0, 17), (1, 17), (2, 17), (3, 9)], 4, 40, [.pointer none, .pointer none, .pointer none, .string ⟨#[]⟩]⟩
theorem te178_ok : te178.fits Tryz.prog 178 := uB (z := (.agg #[.pointer none, .pointer none, .pointer none, .string ⟨#[]⟩])) ⟨_, Tryz.underlying178, rfl⟩
def te179 : TE := ⟨.st [(0, 17), (1, 17), (2, 17), (3, 9)], 4, 40, [.pointer none, .pointer none, .pointer none, .string ⟨#[]⟩]⟩
theorem te179_ok : te179.fits Tryz.prog 179 := uB (z := (.agg #[.pointer none, .pointer none, .pointer none, .string ⟨#[]⟩])) ⟨_, Tryz.underlying179, rfl⟩
def te183 : TE := ⟨.sc (.func #[] #[3] false), 1, 8, [.nilFunc]⟩
theorem te183_ok : te183.fits Tryz.prog 183 := uB (z := (.nilFunc)) ⟨Tryz.underlying183, rfl⟩
def te184 : TE := ⟨.sc (.int .u8), 1, 1, [.int .u8 0]⟩
theorem te184_ok : te184.fits Tryz.prog 184 := uB (z := (.int .u8 0)) ⟨Tryz.underlying184, rfl⟩
def te185 : TE := ⟨.sc (.int .u8), 1, 1, [.int .u8 0]⟩
theorem te185_ok : te185.fits Tryz.prog 185 := uB (z := (.int .u8 0)) ⟨Tryz.underlying185, rfl⟩
def te186 : TE := ⟨.sc (.func #[192, 192] #[4] false), 1, 8, [.nilFunc]⟩
theorem te186_ok : te186.fits Tryz.prog 186 := uB (z := (.nilFunc)) ⟨Tryz.underlying186, rfl⟩
def te187 : TE := ⟨.sc (.pointer 5), 1, 8, [.pointer none]⟩
theorem te187_ok : te187.fits Tryz.prog 187 := uB (z := (.pointer none)) ⟨Tryz.underlying187, rfl⟩
def te188 : TE := ⟨.sc (.int .i32), 1, 4, [.int .i32 0]⟩
theorem te188_ok : te188.fits Tryz.prog 188 := uB (z := (.int .i32 0)) ⟨Tryz.underlying188, rfl⟩
def te189 : TE := ⟨.sc (.int .i32), 1, 4, [.int .i32 0]⟩
theorem te189_ok : te189.fits Tryz.prog 189 := uB (z := (.int .i32 0)) ⟨Tryz.underlying189, rfl⟩
def te190 : TE := ⟨.st [(0, 12), (1, 12), (2, 38), (3, 184), (4, 5), (5, 5), (6, 185), (7, 186), (8, 187), (9, 188), (10, 189)], 11, 48, [.int .u64 0, .int .u64 0, .int .u32 0, .int .u8 0, .int .u8 0, .int .u8 0, .int .u8 0, .nilFunc, .pointer none, .int .i32 0, .int .i32 0]⟩
theorem te190_ok : te190.fits Tryz.prog 190 := uB (z := (.agg #[.int .u64 0, .int .u64 0, .int .u32 0, .int .u8 0, .int .u8 0, .int .u8 0, .int .u8 0, .nilFunc, .pointer none, .int .i32 0, .int .i32 0])) ⟨_, Tryz.underlying190, rfl⟩
def te191 : TE := ⟨.st [(0, 12), (1, 12), (2, 38), (3, 184), (4, 5), (5, 5), (6, 185), (7, 186), (8, 187), (9, 188), (10, 189)], 11, 48, [.int .u64 0, .int .u64 0, .int .u32 0, .int .u8 0, .int .u8 0, .int .u8 0, .int .u8 0, .nilFunc, .pointer none, .int .i32 0, .int .i32 0]⟩
theorem te191_ok : te191.fits Tryz.prog 191 := uB (z := (.agg #[.int .u64 0, .int .u64 0, .int .u32 0, .int .u8 0, .int .u8 0, .int .u8 0, .int .u8 0, .nilFunc, .pointer none, .int .i32 0, .int .i32 0])) ⟨_, Tryz.underlying191, rfl⟩
def te192 : TE := ⟨.sc (.unsafePointer), 1, 8, [.pointer none]⟩
theorem te192_ok : te192.fits Tryz.prog 192 := uB (z := (.pointer none)) ⟨Tryz.underlying192, rfl⟩
def tyList : List (TypeId × TE) := [(1, te1), (2, te2), (3, te3), (4, te4), (5, te5), (6, te6), (7, te7), (8, te8), (9, te9), (10, te10), (11, te11), (12, te12), (13, te13), (14, te14), (15, te15), (16, te16), (17, te17), (18, te18), (19, te19), (21, te21), (22, te22), (23, te23), (24, te24), (25, te25), (26, te26), (27, te27), (28, te28), (29, te29), (30, te30), (32, te32), (33, te33), (34, te34), (36, te36), (37, te37), (38, te38), (39, te39), (40, te40), (41, te41), (42, te42), (43, te43), (44, te44), (45, te45), (46, te46), (47, te47), (48, te48), (49, te49), (50, te50), (51, te51), (53, te53), (54, te54), (55, te55), (57, te57), (58, te58), (59, te59), (60, te60), (61, te61), (62, te62), (63, te63), (64, te64), (65, te65), (66, te66), (67, te67), (68, te68), (69, te69), (70, te70), (71, te71), (72, te72), (73, te73), (74, te74), (75, te75), (76, te76), (77, te77), (78, te78), (79, te79), (80, te80), (81, te81), (82, te82), (83, te83), (84, te84), (85, te85), (86, te86), (87, te87), (88, te88), (90, te90), (91, te91), (92, te92), (93, te93), (94, te94), (95, te95), (96, te96), (97, te97), (98, te98), (99, te99), (100, te100), (101, te101), (102, te102), (103, te103), (104, te104), (105, te105), (106, te106), (107, te107), (108, te108), (109, te109), (110, te110), (111, te111), (112, te112), (113, te113), (114, te114), (115, te115), (116, te116), (117, te117), (118, te118), (119, te119), (120, te120), (121, te121), (122, te122), (123, te123), (124, te124), (125, te125), (126, te126), (127, te127), (128, te128), (129, te129), (130, te130), (131, te131), (132, te132), (133, te133), (134, te134), (136, te136), (137, te137), (138, te138), (139, te139), (140, te140), (141, te141), (142, te142), (143, te143), (144, te144), (145, te145), (146, te146), (147, te147), (148, te148), (149, te149), (150, te150), (151, te151), (152, te152), (153, te153), (154, te154), (155, te155), (156, te156), (157, te157), (158, te158), (159, te159), (160, te160), (161, te161), (162, te162), (163, te163), (164, te164), (165, te165), (166, te166), (167, te167), (168, te168), (169, te169), (170, te170), (172, te172), (173, te173), (174, te174), (175, te175), (176, te176), (177, te177), (178, te178), (179, te179), (183, te183), (184, te184), (185, te185), (186, te186), (187, te187), (188, te188), (189, te189), (190, te190), (191, te191), (192, te192)]
def tyFind (T : TypeId) : List (TypeId × TE) → Option TE
 | [] => none
 | (t, e) :: l => bif Nat.beq T t then some e else tyFind T l
theorem kN {P : Program} (T : TypeId) (e : TE) : ∀ l : List (TypeId × TE), (∀ p ∈ l, p.2.fits P p.1) → tyFind T l = some e → e.fits P T
 | [], _, h => by cases h
 | (t, e') :: l, hl, h => by
  unfold tyFind at h
  cases hb : Nat.beq T t with
  | true => rw [hb] at h; cases h; rw [Nat.eq_of_beq_eq_true hb]; exact hl (t, e) (by simp)
  | false => rw [hb] at h; exact kN T e l (fun p hp => hl p (by simp [hp])) h
theorem all_nil {α : Type} (p : α → Prop) : ∀ x ∈ ([] : List α), p x := fun x h => by cases h
theorem all_cons {α : Type} {p : α → Prop} {a : α} {l : List α} (h : p a) (hl : ∀ x ∈ l, p x) : ∀ x ∈ a :: l, p x := fun x hx => by
 cases hx with
 | head => exact h
 | tail _ hx => exact hl x hx
def tyTab (T : TypeId) : Option TE := tyFind T tyList
theorem tyTab_ok (T : TypeId) (e : TE) (h : tyTab T = some e) : e.fits Tryz.prog T := kN T e tyList (all_cons te1_ok (all_cons te2_ok (all_cons te3_ok (all_cons te4_ok (all_cons te5_ok (all_cons te6_ok (all_cons te7_ok (all_cons te8_ok (all_cons te9_ok (all_cons te10_ok (all_cons te11_ok (all_cons te12_ok (all_cons te13_ok (all_cons te14_ok (all_cons te15_ok (all_cons te16_ok (all_cons te17_ok (all_cons te18_ok (all_cons te19_ok (all_cons te21_ok (all_cons te22_ok (all_cons te23_ok (all_cons te24_ok (all_cons te25_ok (all_cons te26_ok (all_cons te27_ok (all_cons te28_ok (all_cons te29_ok (all_cons te30_ok (all_cons te32_ok (all_cons te33_ok (all_cons te34_ok (all_cons te36_ok (all_cons te37_ok (all_cons te38_ok (all_cons te39_ok (all_cons te40_ok (all_cons te41_ok (all_cons te42_ok (all_cons te43_ok (all_cons te44_ok (all_cons te45_ok (all_cons te46_ok (all_cons te47_ok (all_cons te48_ok (all_cons te49_ok (all_cons te50_ok (all_cons te51_ok (all_cons te53_ok (all_cons te54_ok (all_cons te55_ok (all_cons te57_ok (all_cons te58_ok (all_cons te59_ok (all_cons te60_ok (all_cons te61_ok (all_cons te62_ok (all_cons te63_ok (all_cons te64_ok (all_cons te65_ok (all_cons te66_ok (all_cons te67_ok (all_cons te68_ok (all_cons te69_ok (all_cons te70_ok (all_cons te71_ok (all_cons te72_ok (all_cons te73_ok (all_cons te74_ok (all_cons te75_ok (all_cons te76_ok (all_cons te77_ok (all_cons te78_ok (all_cons te79_ok (all_cons te80_ok (all_cons te81_ok (all_cons te82_ok (all_cons te83_ok (all_cons te84_ok (all_cons te85_ok (all_cons te86_ok (all_cons te87_ok (all_cons te88_ok (all_cons te90_ok (all_cons te91_ok (all_cons te92_ok (all_cons te93_ok (all_cons te94_ok (all_cons te95_ok (all_cons te96_ok (all_cons te97_ok (all_cons te98_ok (all_cons te99_ok (all_cons te100_ok (all_cons te101_ok (all_cons te102_ok (all_cons te103_ok (all_cons te104_ok (all_cons te105_ok (all_cons te106_ok (all_cons te107_ok (all_cons te108_ok (all_cons te109_ok (all_cons te110_ok (all_cons te111_ok (all_cons te112_ok (all_cons te113_ok (all_cons te114_ok (all_cons te115_ok (all_cons te116_ok (all_cons te117_ok (all_cons te118_ok (all_cons te119_ok (all_cons te120_ok (all_cons te121_ok (all_cons te122_ok (all_cons te123_ok (all_cons te124_ok (all_cons te125_ok (all_cons te126_ok (all_cons te127_ok (all_cons te128_ok (all_cons te129_ok (all_cons te130_ok (all_cons te131_ok (all_cons te132_ok (all_cons te133_ok (all_cons te134_ok (all_cons te136_ok (all_cons te137_ok (all_cons te138_ok (all_cons te139_ok (all_cons te140_ok (all_cons te141_ok (all_cons te142_ok (all_cons te143_ok (all_cons te144_ok (all_cons te145_ok (all_cons te146_ok (all_cons te147_ok (all_cons te148_ok (all_cons te149_ok (all_cons te150_ok (all_cons te151_ok (all_cons te152_ok (all_cons te153_ok (all_cons te154_ok (all_cons te155_ok (all_cons te156_ok (all_cons te157_ok (all_cons te158_ok (all_cons te159_ok (all_cons te160_ok (all_cons te161_ok (all_cons te162_ok (all_cons te163_ok (all_cons te164_ok (all_cons te165_ok (all_cons te166_ok (all_cons te167_ok (all_cons te168_ok (all_cons te169_ok (all_cons te170_ok (all_cons te172_ok (all_cons te173_ok (all_cons te174_ok (all_cons te175_ok (all_cons te176_ok (all_cons te177_ok (all_cons te178_ok (all_cons te179_ok (all_cons te183_ok (all_cons te184_ok (all_cons te185_ok (all_cons te186_ok (all_cons te187_ok (all_cons te188_ok (all_cons te189_ok (all_cons te190_ok (all_cons te191_ok (all_cons te192_ok (all_nil _)))))))))))))))))))))))))))))))))))))))))))))))))))))))))))))))))))))))))))))))))))))))))))))))))))))))))))))))))))))))))))))))))))))))))))))))))))))))))))))))))))))))))))))))))))))) h
noncomputable def E : Env := ⟨Tryz.prog, tyTab, tyTab_ok, by kernel_rfl⟩
end Go.Proofs.YtnkocjkkefnelaaGreat
