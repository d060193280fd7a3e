/- Parts. -/
import Derived.Test.YtnkocjkkefnelaaGreatRows
import Derived.Test.YtnkocjkkefnelaaGreatPn3
set_option linter.unusedVariables false
set_option linter.unusedSimpArgs false
set_option maxHeartbeats 4000000
set_option maxRecDepth 100000
namespace Go.Proofs.YtnkocjkkefnelaaGreat
open Go.RowKit
theorem vG {P : Program} {T : TypeId} {k : TK} {size bytes : Nat} {zero : List Value} {z : Value} (hk : k.fits P T) (hi : (P.info? T).map (fun i => (i.zero, i.size, i.bytes)) = some (some z, size, bytes) := by kernel_rfl) (hz : z.cells.toList = zero := by exact rfl) (hl : zero.length = size := by exact rfl) (h1 : zero.all (·.oneCell') = true := by exact rfl) : TE.fits P T ⟨k, size, bytes, zero⟩ := by
 obtain ⟨i, h2, h3⟩ := Option.map_eq_some_iff.1 hi
 simp only [Prod.mk.injEq] at h3
 exact ⟨hk, i, z, h2, h3.2.1, h3.2.2, h3.1, hz, hl, h1⟩
def te3 : TE := ⟨.sc (.int .i64), 1, 8, [.int .i64 0]⟩
theorem te3_ok : te3.fits Tryz.prog 3 := vG (z := (.int .i64 0)) ⟨Tryz.underlying3, rfl⟩
def te4 : TE := ⟨.sc (.bool), 1, 1, [.bool false]⟩
theorem te4_ok : te4.fits Tryz.prog 4 := vG (z := (.bool false)) ⟨Tryz.underlying4, rfl⟩
def te5 : TE := ⟨.sc (.int .u8), 1, 1, [.int .u8 0]⟩
theorem te5_ok : te5.fits Tryz.prog 5 := vG (z := (.int .u8 0)) ⟨Tryz.underlying5, rfl⟩
def te22 : TE := ⟨.slice 40, 1, 24, [.slice none 0 0]⟩
theorem te22_ok : te22.fits Tryz.prog 22 := vG (z := (.slice none 0 0)) Tryz.underlying22
def te23 : TE := ⟨.slice 3, 1, 24, [.slice none 0 0]⟩
theorem te23_ok : te23.fits Tryz.prog 23 := vG (z := (.slice none 0 0)) Tryz.underlying23
def te24 : TE := ⟨.slice 23, 1, 24, [.slice none 0 0]⟩
theorem te24_ok : te24.fits Tryz.prog 24 := vG (z := (.slice none 0 0)) Tryz.underlying24
def te26 : TE := ⟨.st [(0, 22), (1, 23), (2, 24)], 3, 72, [.slice none 0 0, .slice none 0 0, .slice none 0 0]⟩
theorem te26_ok : te26.fits Tryz.prog 26 := vG (z := (.agg #[.slice none 0 0, .slice none 0 0, .slice none 0 0])) ⟨_, Tryz.underlying26, rfl⟩
def te29 : TE := ⟨.sc (.func #[] #[4] false), 1, 8, [.nilFunc]⟩
theorem te29_ok : te29.fits Tryz.prog 29 := vG (z := (.nilFunc)) ⟨Tryz.underlying29, rfl⟩
def te34 : TE := ⟨.st [(0, 4), (1, 4), (2, 4)], 3, 3, [.bool false, .bool false, .bool false]⟩
theorem te34_ok : te34.fits Tryz.prog 34 := vG (z := (.agg #[.bool false, .bool false, .bool false])) ⟨_, Tryz.underlying34, rfl⟩
def te37 : TE := ⟨.sc (.int .i64), 1, 8, [.int .i64 0]⟩
theorem te37_ok : te37.fits Tryz.prog 37 := vG (z := (.int .i64 0)) ⟨Tryz.underlying37, rfl⟩
def te38 : TE := ⟨.sc (.int .u32), 1, 4, [.int .u32 0]⟩
theorem te38_ok : te38.fits Tryz.prog 38 := vG (z := (.int .u32 0)) ⟨Tryz.underlying38, rfl⟩
def te40 : TE := ⟨.st [(0, 3), (1, 37), (2, 38), (3, 38), (4, 38), (5, 4), (6, 4), (7, 3), (8, 3), (9, 4), (10, 23), (11, 23), (12, 23)], 13, 128, [.int .i64 0, .int .i64 0, .int .u32 0, .int .u32 0, .int .u32 0, .bool false, .bool false, .int .i64 0, .int .i64 0, .bool false, .slice none 0 0, .slice none 0 0, .slice none 0 0]⟩
theorem te40_ok : te40.fits Tryz.prog 40 := vG (z := (.agg #[.int .i64 0, .int .i64 0, .int .u32 0, .int .u32 0, .int .u32 0, .bool false, .bool false, .int .i64 0, .int .i64 0, .bool false, .slice none 0 0, .slice none 0 0, .slice none 0 0])) ⟨_, Tryz.underlying40, rfl⟩
def te42 : TE := ⟨.slice 44, 1, 24, [.slice none 0 0]⟩
theorem te42_ok : te42.fits Tryz.prog 42 := vG (z := (.slice none 0 0)) Tryz.underlying42
def te44 : TE := ⟨.st [(0, 5), (1, 4), (2, 38)], 3, 8, [.int .u8 0, .bool false, .int .u32 0]⟩
theorem te44_ok : te44.fits Tryz.prog 44 := vG (z := (.agg #[.int .u8 0, .bool false, .int .u32 0])) ⟨_, Tryz.underlying44, rfl⟩
def te46 : TE := ⟨.arr 4 3, 4, 32, [.int .i64 0, .int .i64 0, .int .i64 0, .int .i64 0]⟩
theorem te46_ok : te46.fits Tryz.prog 46 := vG (z := (.agg #[.int .i64 0, .int .i64 0, .int .i64 0, .int .i64 0])) Tryz.underlying46
def te47 : TE := ⟨.arr 4 4, 4, 4, [.bool false, .bool false, .bool false, .bool false]⟩
theorem te47_ok : te47.fits Tryz.prog 47 := vG (z := (.agg #[.bool false, .bool false, .bool false, .bool false])) Tryz.underlying47
def te49 : TE := ⟨.arr 2 3, 2, 16, [.int .i64 0, .int .i64 0]⟩
theorem te49_ok : te49.fits Tryz.prog 49 := vG (z := (.agg #[.int .i64 0, .int .i64 0])) Tryz.underlying49
def te51 : TE := ⟨.slice 73, 1, 24, [.slice none 0 0]⟩
theorem te51_ok : te51.fits Tryz.prog 51 := vG (z := (.slice none 0 0)) Tryz.underlying51
def te59 : TE := ⟨.slice 38, 1, 24, [.slice none 0 0]⟩
theorem te59_ok : te59.fits Tryz.prog 59 := vG (z := (.slice none 0 0)) Tryz.underlying59
def te67 : TE := ⟨.st [(0, 26), (3, 51), (4, 51), (5, 51)], 6, 144, [.slice none 0 0, .slice none 0 0, .slice none 0 0, .slice none 0 0, .slice none 0 0, .slice none 0 0]⟩
theorem te67_ok : te67.fits Tryz.prog 67 := vG (z := (.agg #[.slice none 0 0, .slice none 0 0, .slice none 0 0, .slice none 0 0, .slice none 0 0, .slice none 0 0])) ⟨_, Tryz.underlying67, rfl⟩
def te69 : TE := ⟨.sc (.pointer 4), 1, 8, [.pointer none]⟩
theorem te69_ok : te69.fits Tryz.prog 69 := vG (z := (.pointer none)) ⟨Tryz.underlying69, rfl⟩
def te70 : TE := ⟨.st [(0, 69), (1, 29)], 2, 16, [.pointer none, .nilFunc]⟩
theorem te70_ok : te70.fits Tryz.prog 70 := vG (z := (.agg #[.pointer none, .nilFunc])) ⟨_, Tryz.underlying70, rfl⟩
def te71 : TE := ⟨.slice 70, 1, 24, [.slice none 0 0]⟩
theorem te71_ok : te71.fits Tryz.prog 71 := vG (z := (.slice none 0 0)) Tryz.underlying71
def te73 : TE := ⟨.st [(0, 3), (1, 3)], 2, 16, [.int .i64 0, .int .i64 0]⟩
theorem te73_ok : te73.fits Tryz.prog 73 := vG (z := (.agg #[.int .i64 0, .int .i64 0])) ⟨_, Tryz.underlying73, rfl⟩
def te92 : TE := ⟨.sc (.map 73 3), 1, 8, [.map none]⟩
theorem te92_ok : te92.fits Tryz.prog 92 := vG (z := (.map none)) ⟨Tryz.underlying92, rfl⟩
def te113 : TE := ⟨.slice 51, 1, 24, [.slice none 0 0]⟩
theorem te113_ok : te113.fits Tryz.prog 113 := vG (z := (.slice none 0 0)) Tryz.underlying113
def te117 : TE := ⟨.st [(0, 26)], 3, 72, [.slice none 0 0, .slice none 0 0, .slice none 0 0]⟩
theorem te117_ok : te117.fits Tryz.prog 117 := vG (z := (.agg #[.slice none 0 0, .slice none 0 0, .slice none 0 0])) ⟨_, Tryz.underlying117, rfl⟩
def te118 : TE := ⟨.sc (.func #[3, 3] #[4] false), 1, 8, [.nilFunc]⟩
theorem te118_ok : te118.fits Tryz.prog 118 := vG (z := (.nilFunc)) ⟨Tryz.underlying118, rfl⟩
def te121 : TE := ⟨.sc (.func #[3, 40] #[4] false), 1, 8, [.nilFunc]⟩
theorem te121_ok : te121.fits Tryz.prog 121 := vG (z := (.nilFunc)) ⟨Tryz.underlying121, rfl⟩
def te129 : TE := ⟨.arr 14 118, 14, 112, [.nilFunc, .nilFunc, .nilFunc, .nilFunc, .nilFunc, .nilFunc, .nilFunc, .nilFunc, .nilFunc, .nilFunc, .nilFunc, .nilFunc, .nilFunc, .nilFunc]⟩
theorem te129_ok : te129.fits Tryz.prog 129 := vG (z := (.agg #[.nilFunc, .nilFunc, .nilFunc, .nilFunc, .nilFunc, .nilFunc, .nilFunc, .nilFunc, .nilFunc, .nilFunc, .nilFunc, .nilFunc, .nilFunc, .nilFunc])) Tryz.underlying129
def te145 : TE := ⟨.sc (.func #[3] #[40] false), 1, 8, [.nilFunc]⟩
theorem te145_ok : te145.fits Tryz.prog 145 := vG (z := (.nilFunc)) ⟨Tryz.underlying145, rfl⟩
def tyList : List (TypeId × TE) := [(3, te3), (4, te4), (5, te5), (22, te22), (23, te23), (24, te24), (26, te26), (29, te29), (34, te34), (37, te37), (38, te38), (40, te40), (42, te42), (44, te44), (46, te46), (47, te47), (49, te49), (51, te51), (59, te59), (67, te67), (69, te69), (70, te70), (71, te71), (73, te73), (92, te92), (113, te113), (117, te117), (118, te118), (121, te121), (129, te129), (145, te145)]
def tyFind (T : TypeId) : List (TypeId × TE) → Option TE
 | [] => none
 | (t, e) :: l => bif Nat.beq T t then some e else tyFind T l
theorem jQ {P : Program} (T : TypeId) (e : TE) : ∀ l : List (TypeId × TE), (∀ p ∈ l, p.2.fits P p.1) → tyFind T l = some e → e.fits P T
 | [], _, h => by cases h
 | (t, e') :: l, hl, h => by
  unfold tyFind at h
  cases hb : Nat.beq T t with
  | true => rw [hb] at h; cases h; rw [Nat.eq_of_beq_eq_true hb]; exact hl (t, e) (by simp)
  | false => rw [hb] at h; exact jQ T e l (fun p hp => hl p (by simp [hp])) h
theorem all_nil {α : Type} (p : α → Prop) : ∀ x ∈ ([] : List α), p x := fun x h => by cases h
theorem all_cons {α : Type} {p : α → Prop} {a : α} {l : List α} (h : p a) (hl : ∀ x ∈ l, p x) : ∀ x ∈ a :: l, p x := fun x hx => by
 cases hx with
 | head => exact h
 | tail _ hx => exact hl x hx
def tyTab (T : TypeId) : Option TE := tyFind T tyList
theorem tyTab_ok (T : TypeId) (e : TE) (h : tyTab T = some e) : e.fits Tryz.prog T := jQ T e tyList (all_cons te3_ok (all_cons te4_ok (all_cons te5_ok (all_cons te22_ok (all_cons te23_ok (all_cons te24_ok (all_cons te26_ok (all_cons te29_ok (all_cons te34_ok (all_cons te37_ok (all_cons te38_ok (all_cons te40_ok (all_cons te42_ok (all_cons te44_ok (all_cons te46_ok (all_cons te47_ok (all_cons te49_ok (all_cons te51_ok (all_cons te59_ok (all_cons te67_ok (all_cons te69_ok (all_cons te70_ok (all_cons te71_ok (all_cons te73_ok (all_cons te92_ok (all_cons te113_ok (all_cons te117_ok (all_cons te118_ok (all_cons te121_ok (all_cons te129_ok (all_cons te145_ok (all_nil _)))))))))))))))))))))))))))))))) h
noncomputable def E : Env := ⟨Tryz.prog, tyTab, tyTab_ok, by kernel_rfl⟩
end Go.Proofs.YtnkocjkkefnelaaGreat
