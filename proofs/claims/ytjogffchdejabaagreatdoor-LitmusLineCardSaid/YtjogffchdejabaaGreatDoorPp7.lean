/- Parts. -/
import Derived.Test.YtjogffchdejabaaGreatDoorRows
import Derived.Test.YtjogffchdejabaaGreatDoorPp2
set_option linter.unusedVariables false
set_option linter.unusedSimpArgs false
set_option maxHeartbeats 4000000
set_option maxRecDepth 100000
namespace Go.Proofs.YtjogffchdejabaaGreatDoor
open Go.RowKit
theorem vZ {P : Program} {T : TypeId} {k : TK} {size bytes : Nat} {zero : List Value} {z : Value} (hk : k.fits P T) (hi : (P.info? T).map (fun i => (i.zero, i.size, i.bytes)) = some (some z, size, bytes) := by kernel_rfl) (hz : z.cells.toList = zero := by exact rfl) (hl : zero.length = size := by exact rfl) (h1 : zero.all (·.oneCell') = true := by exact rfl) : TE.fits P T ⟨k, size, bytes, zero⟩ := by
 obtain ⟨i, h2, h3⟩ := Option.map_eq_some_iff.1 hi
 simp only [Prod.mk.injEq] at h3
 exact ⟨hk, i, z, h2, h3.2.1, h3.2.2, h3.1, hz, hl, h1⟩
def te3 : TE := ⟨.sc (.int .i64), 1, 8, [.int .i64 0]⟩
theorem te3_ok : te3.fits Tryz.prog 3 := vZ (z := (.int .i64 0)) ⟨Tryz.underlying3, rfl⟩
def te4 : TE := ⟨.sc (.bool), 1, 1, [.bool false]⟩
theorem te4_ok : te4.fits Tryz.prog 4 := vZ (z := (.bool false)) ⟨Tryz.underlying4, rfl⟩
def te5 : TE := ⟨.sc (.int .u8), 1, 1, [.int .u8 0]⟩
theorem te5_ok : te5.fits Tryz.prog 5 := vZ (z := (.int .u8 0)) ⟨Tryz.underlying5, rfl⟩
def te9 : TE := ⟨.sc (.string), 1, 16, [.string ⟨#[]⟩]⟩
theorem te9_ok : te9.fits Tryz.prog 9 := vZ (z := (.string ⟨#[]⟩)) ⟨Tryz.underlying9, rfl⟩
def te25 : TE := ⟨.slice 49, 1, 24, [.slice none 0 0]⟩
theorem te25_ok : te25.fits Tryz.prog 25 := vZ (z := (.slice none 0 0)) Tryz.underlying25
def te27 : TE := ⟨.st [(0, 25)], 1, 24, [.slice none 0 0]⟩
theorem te27_ok : te27.fits Tryz.prog 27 := vZ (z := (.agg #[.slice none 0 0])) ⟨_, Tryz.underlying27, rfl⟩
def te34 : TE := ⟨.sc (.int .u32), 1, 4, [.int .u32 0]⟩
theorem te34_ok : te34.fits Tryz.prog 34 := vZ (z := (.int .u32 0)) ⟨Tryz.underlying34, rfl⟩
def te45 : TE := ⟨.sc (.int .i64), 1, 8, [.int .i64 0]⟩
theorem te45_ok : te45.fits Tryz.prog 45 := vZ (z := (.int .i64 0)) ⟨Tryz.underlying45, rfl⟩
def te47 : TE := ⟨.st [(0, 45), (1, 3), (2, 3), (3, 34), (4, 3), (5, 3), (6, 4), (7, 4), (8, 3), (9, 3)], 10, 72, [.int .i64 0, .int .i64 0, .int .i64 0, .int .u32 0, .int .i64 0, .int .i64 0, .bool false, .bool false, .int .i64 0, .int .i64 0]⟩
theorem te47_ok : te47.fits Tryz.prog 47 := vZ (z := (.agg #[.int .i64 0, .int .i64 0, .int .i64 0, .int .u32 0, .int .i64 0, .int .i64 0, .bool false, .bool false, .int .i64 0, .int .i64 0])) ⟨_, Tryz.underlying47, rfl⟩
def te49 : TE := ⟨.slice 47, 1, 24, [.slice none 0 0]⟩
theorem te49_ok : te49.fits Tryz.prog 49 := vZ (z := (.slice none 0 0)) Tryz.underlying49
def te67 : TE := ⟨.arr 4 3, 4, 32, [.int .i64 0, .int .i64 0, .int .i64 0, .int .i64 0]⟩
theorem te67_ok : te67.fits Tryz.prog 67 := vZ (z := (.agg #[.int .i64 0, .int .i64 0, .int .i64 0, .int .i64 0])) Tryz.underlying67
def te132 : TE := ⟨.slice 9, 1, 24, [.slice none 0 0]⟩
theorem te132_ok : te132.fits Tryz.prog 132 := vZ (z := (.slice none 0 0)) Tryz.underlying132
def te134 : TE := ⟨.arr 4 9, 4, 64, [.string ⟨#[]⟩, .string ⟨#[]⟩, .string ⟨#[]⟩, .string ⟨#[]⟩]⟩
theorem te134_ok : te134.fits Tryz.prog 134 := vZ (z := (.agg #[.string ⟨#[]⟩, .string ⟨#[]⟩, .string ⟨#[]⟩, .string ⟨#[]⟩])) Tryz.underlying134
def te178 : TE := ⟨.sc (.int .u64), 1, 8, [.int .u64 0]⟩
theorem te178_ok : te178.fits Tryz.prog 178 := vZ (z := (.int .u64 0)) ⟨Tryz.underlying178, rfl⟩
def te180 : TE := ⟨.slice 229, 1, 24, [.slice none 0 0]⟩
theorem te180_ok : te180.fits Tryz.prog 180 := vZ (z := (.slice none 0 0)) Tryz.underlying180
def te184 : TE := ⟨.sc (.pointer 4), 1, 8, [.pointer none]⟩
theorem te184_ok : te184.fits Tryz.prog 184 := vZ (z := (.pointer none)) ⟨Tryz.underlying184, rfl⟩
def te189 : TE := ⟨.st [(0, 4), (1, 9)], 2, 24, [.bool false, .string ⟨#[]⟩]⟩
theorem te189_ok : te189.fits Tryz.prog 189 := vZ (z := (.agg #[.bool false, .string ⟨#[]⟩])) ⟨_, Tryz.underlying189, rfl⟩
def te190 : TE := ⟨.slice 189, 1, 24, [.slice none 0 0]⟩
theorem te190_ok : te190.fits Tryz.prog 190 := vZ (z := (.slice none 0 0)) Tryz.underlying190
def te197 : TE := ⟨.st [(0, 184), (1, 9)], 2, 24, [.pointer none, .string ⟨#[]⟩]⟩
theorem te197_ok : te197.fits Tryz.prog 197 := vZ (z := (.agg #[.pointer none, .string ⟨#[]⟩])) ⟨_, Tryz.underlying197, rfl⟩
def te198 : TE := ⟨.slice 197, 1, 24, [.slice none 0 0]⟩
theorem te198_ok : te198.fits Tryz.prog 198 := vZ (z := (.slice none 0 0)) Tryz.underlying198
def te229 : TE := ⟨.st [(0, 3), (1, 3)], 2, 16, [.int .i64 0, .int .i64 0]⟩
theorem te229_ok : te229.fits Tryz.prog 229 := vZ (z := (.agg #[.int .i64 0, .int .i64 0])) ⟨_, Tryz.underlying229, rfl⟩
def tyList : List (TypeId × TE) := [(3, te3), (4, te4), (5, te5), (9, te9), (25, te25), (27, te27), (34, te34), (45, te45), (47, te47), (49, te49), (67, te67), (132, te132), (134, te134), (178, te178), (180, te180), (184, te184), (189, te189), (190, te190), (197, te197), (198, te198), (229, te229)]
def tyFind (T : TypeId) : List (TypeId × TE) → Option TE
 | [] => none
 | (t, e) :: l => bif Nat.beq T t then some e else tyFind T l
theorem lB {P : Program} (T : TypeId) (e : TE) : ∀ l : List (TypeId × TE), (∀ p ∈ l, p.2.fits P p.1) → tyFind T l = some e → e.fits P T
 | [], _, h => by cases h
 | (t, e') :: l, hl, h => by
  unfold tyFind at h
  cases hb : Nat.beq T t with
  | true => rw [hb] at h; cases h; rw [Nat.eq_of_beq_eq_true hb]; exact hl (t, e) (by simp)
  | false => rw [hb] at h; exact lB T e l (fun p hp => hl p (by simp [hp])) h
theorem all_nil {α : Type} (p : α → Prop) : ∀ x ∈ ([] : List α), p x := fun x h => by cases h
theorem all_cons {α : Type} {p : α → Prop} {a : α} {l : List α} (h : p a) (hl : ∀ x ∈ l, p x) : ∀ x ∈ a :: l, p x := fun x hx => by
 cases hx with
 | head => exact h
 | tail _ hx => exact hl x hx
def tyTab (T : TypeId) : Option TE := tyFind T tyList
theorem oD (T : TypeId) (e : TE) (h : tyTab T = some e) : e.fits Tryz.prog T := lB T e tyList (all_cons te3_ok (all_cons te4_ok (all_cons te5_ok (all_cons te9_ok (all_cons te25_ok (all_cons te27_ok (all_cons te34_ok (all_cons te45_ok (all_cons te47_ok (all_cons te49_ok (all_cons te67_ok (all_cons te132_ok (all_cons te134_ok (all_cons te178_ok (all_cons te180_ok (all_cons te184_ok (all_cons te189_ok (all_cons te190_ok (all_cons te197_ok (all_cons te198_ok (all_cons te229_ok (all_nil _)))))))))))))))))))))) h
noncomputable def E : Env := ⟨Tryz.prog, tyTab, oD, by kernel_rfl⟩
end Go.Proofs.YtjogffchdejabaaGreatDoor
