/- Parts. -/
import Derived.Laws.Strings
import Derived.Laws.Strings2
import Derived.Laws.Cover1
import Derived.Laws.Slices
import Derived.Test.YtjogffchdejabaaGreatDoorPp3
set_option linter.unusedVariables false
set_option linter.unusedSimpArgs false
set_option maxHeartbeats 4000000
namespace Go.Proofs.YtjogffchdejabaaGreatDoor
open Go.RowKit
section
attribute [local semireducible] NextOk
abbrev OV.bs (l : List UInt8) : OV := .d (.c (.string ⟨l.toArray⟩))
theorem bs_app (a b : List UInt8) : (ByteArray.mk a.toArray ++ ByteArray.mk b.toArray : ByteArray) = ByteArray.mk (a ++ b).toArray := by
 apply ByteArray.ext
 simp
section
variable {E : Env} {V J : Nat} {tm : Tm} {σ : Store} {dst : Option Tmp} {ty : TypeId} {pos : String} {af : Array Edge} {gd : Option (Nat × Bool)}
theorem qU {op : BinOp} {T T' : TypeId} {x y : Operand} {a b : ByteArray} {v : Value} (hx : ev tm x = some (.d (.c (.string a)))) (hy : ev tm y = some (.d (.c (.string b))))
  (h : ∀ w, (binOp op T (.string a) (.string b)).run E.P w = .ok v w) (hv : v.oneCell' = true) : YL E.P V J ⟨dst, .binOp op T x y T', ty, pos, af, gd⟩ tm σ [] (.d (.c v)) [] := qV hx hy (fun M u u' w hu hv' => by
 rw [vA hu, vA hv']
 exact ⟨eqGuard_run w (by simp) (by simp), h w⟩) hv
theorem qS {T T' : TypeId} {x y : Operand} {a b : List UInt8} (hx : ev tm x = some (.bs a)) (hy : ev tm y = some (.bs b)) :
  YL E.P V J ⟨dst, .binOp .eql T x y T', ty, pos, af, gd⟩ tm σ [] (.bool (decide (a = b))) [] := qU hx hy (fun w => by
 rw [binOp_string_eql, ByteArray.toList_mk, ByteArray.toList_mk]
 by_cases h : a = b <;> simp [h, Sem.run_pure]) rfl
theorem uAG {T T' : TypeId} {x y : Operand} {a b : List UInt8} (hx : ev tm x = some (.bs a)) (hy : ev tm y = some (.bs b)) :
  YL E.P V J ⟨dst, .binOp .neq T x y T', ty, pos, af, gd⟩ tm σ [] (.bool (!decide (a = b))) [] := qU hx hy (fun w => by
 rw [binOp_string_neq, ByteArray.toList_mk, ByteArray.toList_mk]
 by_cases h : a = b <;> simp [h, Sem.run_pure]) rfl
theorem uAJ {T T' : TypeId} {x y : Operand} {a b : List UInt8} (hx : ev tm x = some (.bs a)) (hy : ev tm y = some (.bs b)) (hl : a.length + b.length ≤ 1152921504606846976) :
  YL E.P V J ⟨dst, .binOp .add T x y T', ty, pos, af, gd⟩ tm σ [] (.bs (a ++ b)) [] := qU hx hy (fun w => by
 rw [binOp_string_add]
 unfold Op.stringOp
 dsimp only
 have e1 : (ByteArray.mk a.toArray).size = a.length := by simp [ByteArray.size]
 have e2 : (ByteArray.mk b.toArray).size = b.length := by simp [ByteArray.size]
 rw [if_neg (by
  have e : IntKind.i64.max = 9223372036854775807 := by decide
  rw [e, e1, e2]; omega), bs_app]
 rfl) rfl
theorem qR {T : TypeId} {te : TE} {x : Operand} {a : List UInt8} (hT : E.tab T = some te) (hk : te.k = .sc .string) (hx : ev tm x = some (.bs a)) :
  YL E.P V J ⟨dst, .call { callee := .builtin .len, args := #[x], argTypes := #[T] }, ty, pos, af, gd⟩ tm σ [] (.int .i64 a.length) [] := fun σ _ Γ G ρ w hv hf hρ hw => by
 have h1 := vA (hρ x (by simp [Op.operands, Call.operands]) _ hx)
 have h := (E.ok T te hT).1
 rw [hk] at h
 have e1 : (ByteArray.mk a.toArray).size = a.length := by simp [ByteArray.size]
 have hr : (execOp ρ ⟨dst, .call { callee := .builtin .len, args := #[x], argTypes := #[T] }, ty, pos, af, gd⟩).run E.P w = .ok (.value (.int .i64 a.length)) w := by
  simp only [execOp, resolve, List.map_toArray, List.map_cons, List.map_nil, h1, Sem.run_bind, Sem.run_pure, Result.andThen_ok, invoke, builtin, run_len_string w T ty _ h.1, e1]
  rfl
 rw [hr]
 exact Leaves.still (wE rfl) hw
theorem Y_indexL {T : TypeId} {te : TE} {x ix : Operand} {a : List UInt8} {k : IntKind} {i : Int} (hT : E.tab T = some te) (hk : te.k = .sc .string) (hx : ev tm x = some (.bs a)) (hi : ev tm ix = some (.int k i)) (hin : 0 ≤ i ∧ i < a.length) :
  YL E.P V J ⟨dst, .index T x ix, ty, pos, af, gd⟩ tm σ [] (.int .u8 (a.getD i.toNat 0).toNat) [] := fun σ _ Γ G ρ w _ _ hρ hw => by
 have h1 := vA (hρ x (by simp [Op.operands]) _ hx)
 have h0 := vA (hρ ix (by simp [Op.operands]) _ hi)
 have h := (E.ok T te hT).1
 rw [hk] at h
 have e1 : (ByteArray.mk a.toArray).size = a.length := by simp [ByteArray.size]
 have hr := run_index_string w T ⟨a.toArray⟩ k i h.1
 rw [dif_pos (by rw [e1]; exact hin)] at hr
 have e2 : ((ByteArray.mk a.toArray)[i.toNat]'(by rw [e1]; omega)) = a.getD i.toNat 0 := by
  rw [List.getD_eq_getElem?_getD, List.getElem?_eq_getElem (by omega)]
  rfl
 rw [e2] at hr
 simp only [execOp, h1, h0, Sem.run_bind, Sem.run_pure, hr, Result.andThen_ok, NextOk]
 exact Leaves.still (wE rfl) hw
theorem run_sliceBoundsB {P : Program} {w : World} (b : Bool) {lo hi : Option Value} {l h len cap : Nat} (hl : (lo = none ∧ l = 0) ∨ ∃ k i, lo = some (.int k i) ∧ 0 ≤ i ∧ i.toNat = l)
  (hh : (hi = none ∧ h = len) ∨ ∃ k i, hi = some (.int k i) ∧ 0 ≤ i ∧ i.toNat = h) (h1 : l ≤ h) (h2 : h ≤ cap) : (Instr.sliceBounds b len cap lo hi none).run P w = .ok (l, h, cap) w := by
 rcases hl with ⟨rfl, rfl⟩ | ⟨k, i, rfl, i1, rfl⟩ <;> rcases hh with ⟨rfl, rfl⟩ | ⟨k', i', rfl, j1, rfl⟩
 ·simp [Instr.sliceBounds]
 ·simp only [Instr.sliceBounds, Instr.sliceBound, asIntOf, Sem.run_bind, Sem.run_pure, Result.andThen_ok]
  rw [if_pos (by omega)]; simp
 ·simp only [Instr.sliceBounds, Instr.sliceBound, asIntOf, Sem.run_bind, Sem.run_pure, Result.andThen_ok]
  rw [if_pos (by omega)]; simp
 ·simp only [Instr.sliceBounds, Instr.sliceBound, asIntOf, Sem.run_bind, Sem.run_pure, Result.andThen_ok]
  rw [if_pos (by omega)]
  simp only [Sem.run_pure, Result.andThen_ok]
  rw [if_pos (by omega)]; simp
theorem qA {T : TypeId} {te : TE} {x : Operand} {lo hi : Option Operand} {l h : Nat} {a : List UInt8} (hT : E.tab T = some te) (hk : te.k = .sc .string) (hx : ev tm x = some (.bs a)) (hlo : Bnd tm lo 0 l) (hhi : Bnd tm hi a.length h) (h1 : l ≤ h) (h2 : h ≤ a.length) :
  YL E.P V J ⟨dst, .slice T x lo hi none, ty, pos, af, gd⟩ tm σ [] (.bs ((a.drop l).take (h - l))) [] := fun σ _ Γ G ρ w hv hf hρ hw => by
 have hx1 := vA (hρ x (by simp [Op.operands]) _ hx)
 have ht := (E.ok T te hT).1
 rw [hk] at ht
 have e1 : (ByteArray.mk a.toArray).size = a.length := by simp [ByteArray.size]
 have hb := run_sliceBoundsB (P := E.P) (w := w) false (len := a.length) (cap := a.length) (hlo.run fun z hz => hρ z (by simp [Op.operands]; simp at hz; simp [hz])) (hhi.run fun z hz => hρ z (by simp [Op.operands]; simp at hz; simp [hz])) h1 h2
 have hr : (Instr.sliceAt T (.string ⟨a.toArray⟩) (lo.map ρ) (hi.map ρ) none).run E.P w = .ok (.string ⟨((a.drop l).take (h - l)).toArray⟩) w := by
  rw [← ByteArray.extract_mk]
  simp only [Instr.sliceAt, Sem.run_bind, run_underlying ht.1, Result.andThen_ok, Instr.slice, Option.isSome_none, Bool.false_eq_true, if_false, Sem.run_pure, e1, hb]
 simp only [execOp, hx1, Option.map_none, Sem.run_bind, hr, Result.andThen_ok, Sem.run_pure, NextOk]
 exact Leaves.still (wE rfl) hw
end
end
end Go.Proofs.YtjogffchdejabaaGreatDoor
