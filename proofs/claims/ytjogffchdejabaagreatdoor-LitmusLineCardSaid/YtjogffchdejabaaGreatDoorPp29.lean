/- Parts. -/
import Derived.Test.YtjogffchdejabaaGreatDoorRows
import Derived.LaidSub
import Derived.LaidMore
import Derived.Lib.LaidTab
import Derived.Lib.LaidU8
import Derived.Stop.LaidErr
import Derived.Test.YtjogffchdejabaaGreatDoorPp3
import Derived.Test.YtjogffchdejabaaGreatDoorPp4
import Derived.Test.YtjogffchdejabaaGreatDoorPp9
import Derived.Test.YtjogffchdejabaaGreatDoorPp15
import Derived.Test.YtjogffchdejabaaGreatDoorPp16
import Derived.Test.YtjogffchdejabaaGreatDoorPp17
import Derived.Test.YtjogffchdejabaaGreatDoorPp28
set_option linter.unusedVariables false
set_option linter.unusedSimpArgs false
set_option maxHeartbeats 4000000
set_option maxRecDepth 100000
namespace Go.Proofs.YtjogffchdejabaaGreatDoor
section
open Go.RowKit Go.Lib
theorem rA : Pure E.P 17 [] (.bool true) := gE (Ev.works_run default).1 rfl fun G w vs hr hm => by
 rw [RepOL] at hr
 subst hr
 exact (Ev.works_run w).2.mono fun e w' ⟨h1, h2, h3, h4, h5, h6⟩ => ⟨h1, ⟨h2, h3, h4, h5, h6⟩⟩
theorem uAW (n : Int) : Pure E.P 16 [.int .i64 n] (.int .i64 n) := by
 refine fnA Tryz.func16 Tryz.ntmps16 ?_
 refine rZ ?_; refine aoR fun _ => ?_
 refine rZ ?_; refine aoR fun _ => ?_
 refine rZ ?_; rotate_left
 all_goals exact wL rfl rfl
end
set_option maxRecDepth 100000
section
open Go.RowKit Go.Lib
set_option maxHeartbeats 4000000 in
theorem parses_p (text : Bt) (hx : text.length ≤ 1152921504606846976) : Pure E.P 4 [.bs text] (.bool true) := by
 have f3 : Frozen 3 := ⟨trivial⟩
 have f6 : Frozen 6 := ⟨trivial⟩
 have cw := rA
 have cn := fun n => uAW n
 by_cases hl : 2000 < text.length
 ·refine fnA Tryz.func4 Tryz.ntmps4 ?_
  refine rZ ?_; refine aoR fun _ => ?_
  refine rZ ?_; refine aoR fun _ => ?_
  refine rZ ?_
  apply vS; exact rfl; exact rfl; exact rfl
  refine rZ ?_; refine cnd ?_ ?_
  refine uF fun _ => ?_; try omega
  refine rZ ?_; refine aoR fun _ => ?_
  apply uE; exact rfl; exact .fn _ _ _; exact rfl; exact cw
  refine rZ ?_; rotate_left
  refine uG fun _ => ?_; try omega
  all_goals first | (exfalso; simp at hc_; done) | (exfalso; simp at hc_; omega) | exact vX rfl rfl
 ·have c1 := rP text (by omega)
  have c2 := oK text (by omega)
  obtain ⟨s1, s2⟩ := fF text
  obtain ⟨⟨v, k, e⟩, hv⟩ : ∃ q, q = parseT text := ⟨_, rfl⟩
  rw [← hv] at c1 c2 s1 s2
  have s1 : v.length ≤ 4 := s1
  have s2 : ∀ l ∈ v, l.length ≤ 16 := s2
  have m1 := rJ v v (by omega) (by omega) (fun l h => Nat.le_trans (s2 l h) (by decide)) (fun l h => Nat.le_trans (s2 l h) (by decide))
  rw [decide_eq_true (rfl : v = v)] at m1
  refine fnA Tryz.func4 Tryz.ntmps4 ?_
  refine rZ ?_; refine aoR fun _ => ?_
  refine rZ ?_; refine aoR fun _ => ?_
  refine rZ ?_
  apply vS; exact rfl; exact rfl; exact rfl
  refine rZ ?_; refine cnd ?_ ?_
  refine uF fun _ => ?_; try omega
  refine uG fun _ => ?_; try omega
  refine rZ ?_; refine aoR fun _ => ?_
  refine rZ ?_
  apply uE; exact rfl; exact .fn _ _ _; exact rfl; (exact c1)
  refine rZ ?_; refine aoR fun _ => ?_
  refine rZ ?_
  apply uE; exact rfl; exact .fn _ _ _; exact rfl; (exact c2)
  refine rZ ?_; refine aoR fun _ => ?_
  refine rZ ?_
  apply uE; exact rfl; exact .fn _ _ _; exact rfl; (exact m1)
  refine rZ ?_
  apply spT; exact rfl
  intro hc_
  have hp_ := hc_; try simp only [nrm] at hp_
  apply uZ; exact evm; exact .fn _ _ _; exact wP; (exact cn _)
  refine rZ ?_
  apply spT; exact rfl
  intro hc_
  have hp_ := hc_; try simp only [nrm] at hp_
  apply uZ; exact evm; exact .fn _ _ _; exact wP; (exact cw)
  refine rZ ?_; rotate_left
  all_goals first | (exfalso; simp at hc_; done) | (exfalso; simp at hc_; omega) | (refine vX rfl ?_; simp; done)
set_option maxHeartbeats 4000000 in
theorem line_q (text : Bt) (hx : text.length ≤ 1152921504606846976) : Pure E.P 6 [.bs text] (.bool true) := by
 have f3 : Frozen 3 := ⟨trivial⟩
 have f6 : Frozen 6 := ⟨trivial⟩
 have cw := rA
 have cn := fun n => uAW n
 by_cases hl : 300 < text.length
 ·refine fnA Tryz.func6 Tryz.ntmps6 ?_
  refine rZ ?_; refine aoR fun _ => ?_
  refine rZ ?_; refine aoR fun _ => ?_
  refine rZ ?_
  apply vS; exact rfl; exact rfl; exact rfl
  refine rZ ?_; refine cnd ?_ ?_
  refine uF fun _ => ?_; try omega
  refine rZ ?_; refine aoR fun _ => ?_
  apply uE; exact rfl; exact .fn _ _ _; exact rfl; exact cw
  refine rZ ?_; rotate_left
  refine uG fun _ => ?_; try omega
  all_goals first | (exfalso; simp at hc_; done) | (exfalso; simp at hc_; omega) | exact vX rfl rfl
 ·have hlen : ([104, 97, 114, 116, 10] ++ text ++ [10] : Bt).length ≤ 65535 := by simp; omega
  have c1 := rP ([104, 97, 114, 116, 10] ++ text ++ [10]) hlen
  have c2 := oK ([104, 97, 114, 116, 10] ++ text ++ [10]) hlen
  obtain ⟨s1, s2⟩ := fF ([104, 97, 114, 116, 10] ++ text ++ [10])
  obtain ⟨⟨v, k, e⟩, hv⟩ : ∃ q, q = parseT ([104, 97, 114, 116, 10] ++ text ++ [10]) := ⟨_, rfl⟩
  rw [← hv] at c1 c2 s1 s2
  have s1 : v.length ≤ 4 := s1
  have s2 : ∀ l ∈ v, l.length ≤ 16 := s2
  have m1 := rJ v v (by omega) (by omega) (fun l h => Nat.le_trans (s2 l h) (by decide)) (fun l h => Nat.le_trans (s2 l h) (by decide))
  rw [decide_eq_true (rfl : v = v)] at m1
  refine fnA Tryz.func6 Tryz.ntmps6 ?_
  refine rZ ?_; refine aoR fun _ => ?_
  refine rZ ?_; refine aoR fun _ => ?_
  refine rZ ?_
  apply vS; exact rfl; exact rfl; exact rfl
  refine rZ ?_; refine cnd ?_ ?_
  refine uF fun _ => ?_; try omega
  refine uG fun _ => ?_; try omega
  refine rZ ?_; refine aoR fun _ => ?_
  refine rZ ?_
  iterate 2 (apply vF; exact rfl; exact rfl; (((simp only [List.length_append, List.length_cons, List.length_nil]); omega)))
  apply uE; exact rfl; exact .fn _ _ _; exact rfl; (exact c1)
  refine rZ ?_; refine aoR fun _ => ?_
  refine rZ ?_
  iterate 2 (apply vF; exact rfl; exact rfl; (((simp only [List.length_append, List.length_cons, List.length_nil]); omega)))
  apply uE; exact rfl; exact .fn _ _ _; exact rfl; (exact c2)
  refine rZ ?_; refine aoR fun _ => ?_
  refine rZ ?_
  apply uE; exact rfl; exact .fn _ _ _; exact rfl; (exact m1)
  refine rZ ?_
  apply spT; exact rfl
  intro hc_
  have hp_ := hc_; try simp only [nrm] at hp_
  apply uZ; exact evm; exact .fn _ _ _; exact wP; (exact cn _)
  refine rZ ?_
  apply spT; exact rfl
  intro hc_
  have hp_ := hc_; try simp only [nrm] at hp_
  apply uZ; exact evm; exact .fn _ _ _; exact wP; (exact cw)
  refine rZ ?_; rotate_left
  all_goals first | (exfalso; simp at hc_; done) | (exfalso; simp at hc_; omega) | (refine vX rfl ?_; simp; done)
end
set_option maxRecDepth 100000
section
open Go.RowKit Go.Lib
def pow10L : List Int := (List.range 20).map fun i => ((10 ^ i : Nat) : Int)
def powVar : String × DataW Unit := Rows.litmusStepsRow.laid.getD 2 ("", .nil)
theorem powG : Tryz.prog.globalNamed powVar.1 = some 1 := by kernel_rfl
theorem pow_of {L : List (String × DataW Unit)} (hf : (L.filter fun x => x.1.length == 28) = [powVar]) {W : World} (h : laidMetH Tryz.prog L W) : Pow10 W := by
 have h1 := h.filter fun x => x.1.length == 28
 rw [hf, MakeChecks.laidMetH_plain _ _ _ (by kernel_rfl)] at h1
 have hd : powVar = (powVar.1, tabData .u64 pow10L) := by kernel_rfl
 rw [hd] at h1
 have hT : Lib.TabIs Tryz.prog W powVar.1 .u64 pow10L := tabIs_of_head powG (by kernel_rfl) Tryz.underlying306 Tryz.underlying178 (by kernel_rfl) (by kernel_rfl) h1
 intro i hi
 have hl : pow10L.length = 20 := by decide
 rw [hT.cell powG i (by omega)]
 simp [pow10L, List.getD, hi]
end
set_option maxRecDepth 100000
section
open Go.RowKit Go.ChangeShapes Go.WideShapes Go.Deep
section
variable {H : Type} {enc : TypeId × Value → H} {W : World} {sp : Nat → Bool} {held : Bool}
end
end
set_option maxRecDepth 100000
section
open Go.RowKit Go.ChangeShapes Go.WideShapes Go.Deep
def synVar : String × DataW Unit := ("strconv.ErrSyntax", .iface "*errors.errorString" (.ptr (.agg [.lit (.string [105, 110, 118, 97, 108, 105, 100, 32, 115, 121, 110, 116, 97, 120])])))
def rngVar : String × DataW Unit := ("strconv.ErrRange", .iface "*errors.errorString" (.ptr (.agg [.lit (.string [118, 97, 108, 117, 101, 32, 111, 117, 116, 32, 111, 102, 32, 114, 97, 110, 103, 101])])))
theorem uAR : "*" ++ "errors.errorString" = "*errors.errorString" := by decide
theorem row9 (u : TypeId) (h : Tryz.prog.typeName? 3 u = some "*errors.errorString") : u = 325 :=
 typeName_ptr_named (nm := "errors.errorString") (by rw [uAR]; kernel_rfl) (by kernel_rfl) (by decide) u (by rw [uAR]; exact h)
theorem synG : Tryz.prog.globalNamed "strconv.ErrSyntax" = some 2 := by kernel_rfl
theorem rngG : Tryz.prog.globalNamed "strconv.ErrRange" = some 3 := by kernel_rfl
theorem tJ {L : List (String × DataW Unit)} (hf : (L.filter fun x => x.1.length == 28) = [powVar]) (hs : (L.filter fun x => x.1.length == 17) = [synVar]) (hr : (L.filter fun x => x.1.length == 16) = [rngVar]) {W : World} (h : laidMetH Tryz.prog L W) : Lay9 W := by
 refine ⟨fun i hi => ?_, ?_, ?_⟩
 ·exact pow_of hf h i hi
 ·have h1 := h.filter fun x => x.1.length == 17
  rw [hs, MakeChecks.laidMetH_plain _ _ _ (by kernel_rfl)] at h1
  obtain ⟨a, s, hv, _⟩ := laid_sentinel h1 synG (ti := 123) (by kernel_rfl) Tryz.underlying123 row9 Tryz.underlying325 Tryz.underlying327 rfl rfl Tryz.underlying9 (by kernel_rfl) (by kernel_rfl)
  exact ⟨_, _, by show W.cell? _ = _; simpa using World.var?_cell synG hv 0⟩
 ·have h1 := h.filter fun x => x.1.length == 16
  rw [hr, MakeChecks.laidMetH_plain _ _ _ (by kernel_rfl)] at h1
  obtain ⟨a, s, hv, _⟩ := laid_sentinel h1 rngG (ti := 123) (by kernel_rfl) Tryz.underlying123 row9 Tryz.underlying325 Tryz.underlying327 rfl rfl Tryz.underlying9 (by kernel_rfl) (by kernel_rfl)
  exact ⟨_, _, by show W.cell? _ = _; simpa using World.var?_cell rngG hv 0⟩
section
variable {H : Type} {enc : TypeId × Value → H} {W : World} {sp : Nat → Bool} {held : Bool}
theorem jD {r : Reach} {b0 : Nat} {v : Value} {d : DataW H} {p : List MemPlace} (hv : Value.okWide Tryz.prog W r b0 9 v) (h : DataW.Trod enc Tryz.prog W 0 sp held 9 v d p) (hw : ∀ n ∈ d.weights Tryz.prog 9, n ≤ reachBytes) :
  ∃ x : Bt, v = .string ⟨x.toArray⟩ ∧ x.length ≤ 1152921504606846976 := by
 obtain ⟨s, rfl⟩ := okWide_string Tryz.underlying9 hv
 obtain ⟨fuel, hf⟩ := h
 obtain ⟨s', h1, h2, _⟩ := DataW.trod_string Tryz.underlying9 hf
 cases h1
 cases h2
 refine ⟨s.data.toList, by cases s; rfl, ?_⟩
 have := hw s.data.toList.length (by rw [DataW.weights]; simp)
 unfold reachBytes at this
 omega
end
end
end Go.Proofs.YtjogffchdejabaaGreatDoor
