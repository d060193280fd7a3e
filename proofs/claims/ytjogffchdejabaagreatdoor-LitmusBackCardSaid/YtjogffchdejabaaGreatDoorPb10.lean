/- Parts. -/
import Derived.OwnWalk
import Derived.Lib.AppendZerosOnto
import Derived.Lib.SliceRun
import Derived.Test.YtjogffchdejabaaGreatDoorPb3
import Derived.Test.YtjogffchdejabaaGreatDoorPb4
import Derived.Test.YtjogffchdejabaaGreatDoorPb7
import Derived.Test.YtjogffchdejabaaGreatDoorPb8
import Derived.Test.YtjogffchdejabaaGreatDoorPb9
set_option linter.unusedVariables false
set_option linter.unusedSimpArgs false
set_option maxHeartbeats 4000000
set_option maxRecDepth 100000
namespace Go.Proofs.YtjogffchdejabaaGreatDoor
open Go.RowKit
variable {α : Type} {k : Nat} {s : Stp} {c : UInt8} {W : List Bt} {b : Bool} {w : Bt}
def allM (w : World) : Mem := fun b o => w.cell? ⟨b, o, none⟩
def allG (w : World) (kn : KN (allM w)) : Gh := ⟨allM w, fun _ _ => none, kn⟩
theorem WRel.all (w : World) (kn : KN (allM w)) (N : Nat) : WRel ⟨w, fun _ => False, allG w kn, N⟩ (allG w kn) Store.nil w where
 mem _ _ _ h := h
 own k τ r hk := by cases hk
 inj k k' τ τ' β β' r r' hk := by cases hk
 keep _ _ _ := rfl
 size := Nat.le_refl _
 tape := rfl
 os := rfl
 output := rfl
 g0 := .refl _
 new _ _ _ h := Or.inl h
 bound := ⟨0, fun _ _ _ _ => rfl⟩
 low _ _ _ _ := rfl
theorem zN {M : Mem} {v : Value} (h : v.oneCell' = true) : Rep M (.c v) v := by rw [Rep]; exact ⟨rfl, h⟩
theorem IntsIn.rep {q : IntKind} {B : Nat} {w : World} {s : Sl} {l : List Int} (h : IntsIn q B w s l) (hc : s.n ≤ s.c) : Rep (allM w) (.sl 1 (l.map fun n => [TV.c (.int q n)])) (.slice s.a s.n s.c) := by
 obtain ⟨h1, h2, h3⟩ := h
 rw [Rep]
 refine ⟨s.a, s.c, by simp [h1], by simpa [h1] using hc, ?_⟩
 rcases h3 with rfl | ⟨b, off, h4, h5, h6⟩
 ·exact Or.inl rfl
 ·refine Or.inr ⟨b, off, h4, RepR.of_get fun i r hi => ?_⟩
  rw [List.getElem?_map] at hi
  obtain ⟨n, hn, rfl⟩ := Option.map_eq_some_iff.1 hi
  obtain ⟨hlt, rfl⟩ := List.getElem?_eq_some_iff.1 hn
  refine ⟨rfl, RepC.of_get fun o t ht => ?_⟩
  cases o with
  | succ o => simp at ht
  | zero =>
   simp at ht
   subst ht
   have := h6 i hlt
   rw [List.getD_eq_getElem?_getD, List.getElem?_eq_getElem hlt] at this
   exact ⟨_, by simpa [allM] using this, zN rfl⟩
section
open Go.RowKit Go.ChangeShapes Go.WideShapes Go.Deep
def Ev.ok (e : Ev) : Prop := e.wf ∧ e.addrs.length ≤ 1152921504606846976 ∧ e.datas.length ≤ 1152921504606846976 ∧ e.ctrls.length ≤ 1152921504606846976 ∧ e.av.n = e.addrs.length ∧ e.dv.n = e.datas.length ∧ e.cv.n = e.ctrls.length
def Ex.ok (x : Ex) : Prop := x.evs.length ≤ 1152921504606846976 ∧ (∀ e ∈ x.evs, e.ok) ∧ x.from_.length ≤ 1152921504606846976 ∧ x.order.length ≤ 1152921504606846976 ∧ ∀ r ∈ x.order, r.2.length ≤ 1152921504606846976
section
variable {H : Type} {enc : TypeId × Value → H} {W : World} {sp : Nat → Bool} {held : Bool}
end
end
set_option maxHeartbeats 4000000
set_option maxRecDepth 100000
theorem take_get' (l : List α) (d : α) (k : Nat) (h : k < l.length) : l.take (k + 1) = l.take k ++ [l.getD k d] := by
 rw [List.take_succ_eq_append_getElem h, List.getD_eq_getElem?_getD, List.getElem?_eq_getElem h]; rfl
set_option maxRecDepth 100000
section
attribute [local semireducible] NextOk
section
variable {E : Env} {V J : Nat} {ty : TypeId} {pos : String} {af : Array Edge} {gd : Option (Nat × Bool)} {tm : Tm} {σ : Store}
end
structure RenOf (d : Nat) : Prop where
 on : True
variable {E : Env} {v j : Nat} {ops : Array Oper} {K : Tm → Store → Prop} {KD : List Foot → Tm → Store → Prop} {acc : List Foot} {rest : List Oper} {tm : Tm} {σ : Store} {ty : TypeId} {pos : String} {af : Array Edge} {gd : Option (Nat × Bool)}
end
set_option maxRecDepth 100000
section
open Go.RowKit Go.Lib
def stO (s : Stp) : List OV := (stTV s).map .d
def stsTV (l : List Stp) : TV := .sl 10 (l.map stTV)
theorem info_st : (Tryz.prog.info? 47).map (fun i => (i.zero, i.size, i.bytes)) = some (some (Value.agg #[.int .i64 0, .int .i64 0, .int .i64 0, .int .u32 0, .int .i64 0, .int .i64 0, .bool false, .bool false, .int .i64 0, .int .i64 0]), 10, 72) := by kernel_rfl
set_option maxHeartbeats 2000000 in
theorem grow_zeroT (w : World) : Calls Tryz.prog 143 #[.slice none 0 0, .int .i64 0] w fun e w' => e = .returned (.slice none 0 0) ∧ w' = w := by
 go_enter Tryz.func143, Tryz.ntmps143
 go_wp2
 go_ret
 exact ⟨rfl, rfl⟩
set_option maxHeartbeats 2000000 in
theorem grow_moreT (n : Nat) (h0 : 0 < n) (hn : n ≤ 65536) (w : World) : Calls Tryz.prog 143 #[.slice none 0 0, .int .i64 n] w fun e w' =>
  ∃ cs : Array Value, cs.size = grownCap w n 0 47 * 10 ∧ e = .returned (.slice (some ⟨w.heap.size, 0, none⟩) 0 (grownCap w n 0 47)) ∧ w' = w.drew.alloc (.cells cs 47) := by
 obtain ⟨i0, hi, jz0, jz1, jz2⟩ := info_parts info_st
 have h1 : ¬ ((n : Int) < 0) := by omega
 have h2 : RowKit.wrap64 ((0 : Int) - (0 : Int)) = 0 := by unfold RowKit.wrap64; omega
 have h3 : RowKit.wrap64 ((n : Int) - (0 : Int)) = (n : Int) := by unfold RowKit.wrap64; omega
 have h4 : (n : Int) > 0 := by omega
 have hGn : n ≤ grownCap w n 0 47 := grownCap_ge w _ _ _
 have hrz : ∀ ty, (Builtin.append_ #[49, 3] ty #[.slice none 0 0, .int .i64 (n : Int)]).run Tryz.prog w =
   .ok (.slice (some ⟨w.heap.size, 0, none⟩) n (grownCap w n 0 47)) (w.drew.alloc (.cells ((#[] : Array Value) ++ Builtin.zeroCells (Value.agg #[.int .i64 0, .int .i64 0, .int .i64 0, .int .u32 0, .int .i64 0, .int .i64 0, .bool false, .bool false, .int .i64 0, .int .i64 0]).cells n ++ Builtin.zeroCells (Value.agg #[.int .i64 0, .int .i64 0, .int .i64 0, .int .u32 0, .int .i64 0, .int .i64 0, .bool false, .bool false, .int .i64 0, .int .i64 0]).cells (grownCap w n 0 47 - n)) 47)) := fun ty => by
  have h := Lib.run_append_grow_zeros w 49 3 ty 47 i0 _ .i64 .i64 Tryz.underlying49 Tryz.underlying3 hi jz0 none 0 0 [] (run_firstCells_none w.drew i0.size 0 0 0) n h0 (by omega) (by omega) (by omega) (by rw [jz2]; omega) (growslice_fits (by omega) (by rw [jz2]; omega))
  simpa using h
 have hcs : ((#[] : Array Value) ++ Builtin.zeroCells (Value.agg #[.int .i64 0, .int .i64 0, .int .i64 0, .int .u32 0, .int .i64 0, .int .i64 0, .bool false, .bool false, .int .i64 0, .int .i64 0]).cells n ++ Builtin.zeroCells (Value.agg #[.int .i64 0, .int .i64 0, .int .i64 0, .int .u32 0, .int .i64 0, .int .i64 0, .bool false, .bool false, .int .i64 0, .int .i64 0]).cells (grownCap w n 0 47 - n)).size = grownCap w n 0 47 * 10 := by
  simp only [Array.size_append, List.size_toArray, List.length_nil, size_zeroCells, Value.cells, List.length_cons]
  omega
 obtain ⟨CS, hCS⟩ : ∃ CS, ((#[] : Array Value) ++ Builtin.zeroCells (Value.agg #[.int .i64 0, .int .i64 0, .int .i64 0, .int .u32 0, .int .i64 0, .int .i64 0, .bool false, .bool false, .int .i64 0, .int .i64 0]).cells n ++ Builtin.zeroCells (Value.agg #[.int .i64 0, .int .i64 0, .int .i64 0, .int .u32 0, .int .i64 0, .int .i64 0, .bool false, .bool false, .int .i64 0, .int .i64 0]).cells (grownCap w n 0 47 - n)) = CS := ⟨_, rfl⟩
 rw [hCS] at hcs
 simp only [hCS] at hrz
 obtain ⟨Gc, hG⟩ : ∃ Gc, grownCap w n 0 47 = Gc := ⟨_, rfl⟩
 rw [hG] at hcs hGn ⊢
 simp only [hG] at hrz
 have hG63 : Gc ≤ 9223372036854775807 := by
  have := grownCap_le_maxLen w n 0 47 (by unfold maxLen; omega)
  rw [hG] at this
  unfold maxLen at this
  omega
 clear hCS hG
 go_enter Tryz.func143, Tryz.ntmps143
 go_wp2_with (at_builtin; refine Lib.wpList_append_run _ rfl _ _ _ _ rfl _ _ rfl rfl _ _ (hrz _) ?_)
 all_goals (go_ret; exact ⟨CS, hcs, rfl, rfl⟩)
theorem rI (n : Nat) (hn : n ≤ 65536) : Own E.P 143 [.d (.c (.slice none 0 0)), .int .i64 n] 10 [] := by
 refine ⟨⟨_, Tryz.func143, by decide, rfl⟩, fun G w vs N hv hw => ?_⟩
 rw [RepOL] at hv
 obtain ⟨x1, us, rfl, h1, hv⟩ := hv
 rw [RepOL] at hv
 obtain ⟨x2, us, rfl, h2, hv⟩ := hv
 rw [RepOL] at hv
 subst hv
 have e1 := uT h1
 have e2 := uT h2
 subst e1 e2
 obtain ⟨v, hv, hf⟩ := hw.free
 rcases Nat.eq_zero_or_pos n with h0 | h0
 ·subst h0
  refine (grow_zeroT w).mono ?_
  rintro e w' ⟨rfl, rfl⟩
  exact ⟨_, _, .os 0 (v, 0) 10 0, _, rfl, ⟨0, (v, 0), rfl, Store.put_self _ _ _⟩, Gh.name_le G none (hf 0 0), by rw [RepO]; exact Or.inr ⟨Gh.name_self _ _ _ _, rfl, rfl⟩, hw.phantom 0 hv (hf 0 0) 10⟩
 ·refine (grow_moreT n h0 hn w).mono ?_
  rintro e w' ⟨cs, hcs, rfl, rfl⟩
  have hc := grownCap_le_maxLen w n 0 47 (by unfold maxLen; omega)
  have hw2 := (hw.drawn (w.drawn + 1)).alloc 0 hv (hf 0 0) cs 47 ⟨10, []⟩ (by simp) (fun i row hi => by simp at hi)
  exact ⟨_, _, .os 0 (v, 0) 10 0, _, rfl, ⟨0, (v, 0), rfl, Store.put_self _ _ _⟩, Gh.name_le G _ (hf 0 0), by rw [RepO]; exact Or.inl ⟨_, _, Gh.name_self _ _ _ _, rfl, Nat.zero_le _, hcs, hc⟩, hw2⟩
theorem jM (ls : List (List Stp)) (k : Nat) (h : k < ls.length) : (ls.take (k + 1)).flatten = (ls.take k).flatten ++ ls.getD k default := by
 rw [take_get' ls default k h, List.flatten_append]; simp
theorem fE (ls : List (List Stp)) (k : Nat) : ((ls.take k).flatten).length ≤ ls.flatten.length := by
 have h : ls = ls.take k ++ ls.drop k := (List.take_append_drop k ls).symm
 have := congrArg (fun l : List (List Stp) => l.flatten.length) h
 simp only [List.flatten_append, List.length_append] at this
 omega
def catRowT (l : List Stp) : List TV := [stsTV l]
set_option maxHeartbeats 4000000 in
theorem concat_oT (ls : List (List Stp)) (hl : ls.flatten.length ≤ 65536) (hn : ls.length ≤ 64) : Own E.P 92 [.d (.sl 1 (ls.map catRowT))] 10 (ls.flatten.map stO) := by
 have hG := fun n hn => rI n hn
 refine fnA Tryz.func92 Tryz.ntmps92 ?_
 refine run ?_; refine aoR fun _ => ?_
 refine run ?_; refine aoR fun _ => ?_
 refine run ?_; refine aoR fun _ => ?_
 refine run ?_; rotate_left
 refine vA (X := Nat) (fun k => tmL [(0, .d (.sl 1 (ls.map catRowT))), (3, .int .i64 ((ls.take k).flatten).length), (9, .d (.sl 1 (ls.map catRowT))), (10, .int .i64 ls.length), (11, .int .i64 k)]) (fun _ => stL []) (fun k => k ≤ ls.length) (fun k => ls.length - k) 0 (Nat.zero_le _) (by repeat' (first | exact vP _ | exact uL _ | refine uO rfl ?_ | refine uS rfl ?_ | (refine vD rfl ?_ ?_; (simp)) | (refine uR rfl ?_ ?_; (simp)) | (refine uN rfl ?_ ?_; (simp)))) leP ?_
 intro k hk
 have hfl := fE ls k
 by_cases hlt : k < ls.length
 ·have hfl1 := fE ls (k + 1)
  have hft := congrArg List.length (jM ls k hlt)
  rw [List.length_append] at hft
  have hA : ((ls.take k).flatten).length + (ls.getD (k : Int).toNat default).length ≤ 65536 := by rw [Int.toNat_natCast]; omega
  refine run ?_; refine aoR fun _ => ?_
  refine run ?_; refine cnd ?_ ?_
  refine uE fun _ => ?_; try omega
  refine run ?_; refine aoR fun _ => ?_
  refine run ?_; refine aoR fun _ => ?_
  refine run ?_; refine aoR fun _ => ?_
  refine run ?_; refine cnd ?_ ?_
  refine uE fun _ => ?_; try omega
  refine uF fun _ => ?_; try omega
  refine run ?_; refine aoR fun _ => ?_
  refine run ?_; rotate_left
  refine uF fun _ => ?_; try omega
  refine uU (k + 1) (by omega) (by omega) ?_ leP
  refine uO rfl (uO ?_ (uO rfl (uO rfl (uO rfl (vP _)))))
  show some (OV.int .i64 _) = some (OV.int .i64 _)
  rw [hft]; rfl
 ·have hkl : k = ls.length := by omega
  subst hkl
  rw [List.take_length]
  refine run ?_; refine aoR fun _ => ?_
  refine run ?_; refine cnd ?_ ?_
  refine uE fun _ => ?_; try omega
  refine uF fun _ => ?_; try omega
  refine run ?_; refine aoR fun _ => ?_
  refine run ?_
  apply S_own; exact rfl; exact .fn _ _ _; exact rfl; exact rI _ hl
  refine run ?_; refine aoR fun _ => ?_
  refine run ?_; rotate_left
  rename_i v24 _
  refine vA (X := Nat × Stamp) (fun p => tmL [(6, .os 6 p.2 10 ((ls.take p.1).flatten).length), (25, .d (.sl 1 (ls.map catRowT))), (26, .int .i64 ls.length), (27, .int .i64 p.1)]) (fun p => stL [(6, (p.2, ⟨10, ((ls.take p.1).flatten).map stO⟩))]) (fun p => p.1 ≤ ls.length) (fun p => ls.length - p.1) (0, (v24, 2)) (Nat.zero_le _) (by repeat' (first | exact vP _ | exact uL _ | refine uO rfl ?_ | refine uS rfl ?_ | (refine vD rfl ?_ ?_; (simp)) | (refine uR rfl ?_ ?_; (simp)) | (refine uN rfl ?_ ?_; (simp)))) (by repeat' (first | exact vP _ | exact uL _ | refine uO rfl ?_ | refine uS rfl ?_ | (refine vD rfl ?_ ?_; (simp)) | (refine uR rfl ?_ ?_; (simp)) | (refine uN rfl ?_ ?_; (simp)))) ?_
  rintro ⟨k, τ⟩ hk
  dsimp only at hk ⊢
  have hfl := fE ls k
  by_cases hlt : k < ls.length
  ·have hfl1 := fE ls (k + 1)
   have hft0 := jM ls k hlt
   have hft := congrArg List.length hft0
   rw [List.length_append] at hft
   have hA : ((ls.take k).flatten).length + (ls.getD (k : Int).toNat default).length ≤ 65536 := by rw [Int.toNat_natCast]; omega
   refine run ?_; refine aoR fun _ => ?_
   refine run ?_; refine cnd ?_ ?_
   refine uE fun _ => ?_; try omega
   refine run ?_; refine aoR fun _ => ?_
   refine run ?_; refine aoR fun _ => ?_
   refine run ?_; refine aoR fun _ => ?_
   refine run ?_; rotate_left
   refine uF fun _ => ?_; try omega
   rename_i v33 _
   refine uU (k + 1, (v33, 3)) (by dsimp only; omega) (by dsimp only; omega) ?_ ?_
   ·refine uO ?_ (uO rfl (uO rfl (uO rfl (vP _))))
    show some (OV.os 6 _ 10 _) = some (OV.os 6 _ 10 _)
    rw [hft, List.length_map, List.length_map, List.length_map]; rfl
   ·refine uS ?_ (uL _)
    show some (_, Row.mk 10 _) = some (_, Row.mk 10 _)
    rw [hft0, List.map_append, List.map_map]; rfl
  ·have hkl : k = ls.length := by omega
   subst hkl
   rw [List.take_length]
   refine run ?_; refine aoR fun _ => ?_
   refine run ?_; refine cnd ?_ ?_
   refine uE fun _ => ?_; try omega
   refine uF fun _ => ?_; try omega
   refine run ?_; refine aoR fun _ => ?_
   refine run ?_; rotate_left
   refine own_done (d := 2) rfl rfl rfl ?_
   first | exact (List.length_map ..).symm | exact List.length_map ..
end
set_option maxRecDepth 100000
set_option maxHeartbeats 1000000 in
theorem mJ (n k : Int) (h0 : 0 ≤ n * k) (h1 : n * k ≤ 4611686018427387904) (τ : Stamp) : FnW E.P 115 [.int .i64 k, .lo 5 τ 1 0 0] (stL [(5, (τ, ⟨1, [[.int .i64 n]]⟩))]) (IsW (.tu []) (stL [(5, (τ, ⟨1, [[.int .i64 (capI (n * k))]]⟩))])) := by
 refine wR Tryz.func115 (by decide) rfl Tryz.ntmps115 (Nat.le_of_ble_eq_true rfl) rfl ?_
 refine aoR fun _ => ?_; refine run ?_
 rotate_left
 exact ⟨rfl, leP⟩
def oneO (n : Int) : OV := .int .i64 n
def manyO (m : List Int) : List OV := m.map oneO
def testOV (t : Ts) : OV := .ag [.d (.sl 1 (t.map catRowT))]
theorem kY (f : α → OV) (l : List α) (p : Nat) (a : α) (h : p < l.length) : setAt (l.map f) p [f a] = (l.set p a).map f := by
 unfold setAt
 rw [List.map_set, ← List.map_take, ← List.map_drop]
 simp only [List.length_cons, List.length_nil]
 rw [List.set_eq_take_append_cons_drop, if_pos (by simpa using h)]
 simp
def SOk (k : Nat) (p : List Int × Int) : Prop := p.1.length = 4 ∧ (∀ i, 0 ≤ p.1.getD i 0 ∧ p.1.getD i 0 ≤ k) ∧ 0 ≤ p.2 ∧ p.2 ≤ 10001
theorem pZ {n : Int} (h : 0 ≤ n) : 0 ≤ capI n ∧ capI n ≤ 10001 := by unfold capI; split <;> omega
theorem hU {a b : Int} (h0 : 0 ≤ a) (h1 : a ≤ 10001) (h2 : 0 ≤ b) (h3 : b ≤ k) (hk : k ≤ 100) : 0 ≤ a * b ∧ a * b ≤ 1000100 := by
 refine ⟨Int.mul_nonneg h0 h2, ?_⟩
 have := Int.mul_le_mul h1 (show b ≤ 100 by omega) h2 (by omega)
 omega
theorem SOk.step {p : List Int × Int} (h : SOk k p) (s : Stp) (hk : k < 100) : SOk (k + 1) (sStep p s) := by
 obtain ⟨h1, h2, h3, h4⟩ := h
 unfold sStep
 cases s.sts with
 | false => exact ⟨h1, fun i => ⟨(h2 i).1, by have := (h2 i).2; show p.1.getD i 0 ≤ ((k + 1 : Nat) : Int); omega⟩, h3, h4⟩
 | true =>
  have hv := h2 s.var.toNat
  have := hU (k := k + 1) h3 h4 (show 0 ≤ p.1.getD s.var.toNat 0 + 1 by omega) (by omega) (by omega)
  refine ⟨by simp [h1], fun i => ?_, pZ this.1⟩
  show 0 ≤ (p.1.set s.var.toNat (p.1.getD s.var.toNat 0 + 1)).getD i 0 ∧ (p.1.set s.var.toNat (p.1.getD s.var.toNat 0 + 1)).getD i 0 ≤ ((k + 1 : Nat) : Int)
  have hi := h2 i
  rw [List.getD_eq_getElem?_getD, List.getElem?_set]
  rw [List.getD_eq_getElem?_getD] at hi
  split
  ·split
   ·simp only [Option.getD_some]; omega
   ·simp only [Option.getD_none]; omega
  ·omega
theorem SOk.all : ∀ (l : List Stp) (k : Nat) (p : List Int × Int), SOk k p → k + l.length ≤ 100 → SOk (k + l.length) (l.foldl sStep p)
 | [], k, p, h, _ => h
 | s :: l, k, p, h, hk => by
  simp only [List.length_cons] at hk ⊢
  have := SOk.all l (k + 1) _ (h.step s (by omega)) (by omega)
  rwa [show k + 1 + l.length = k + (l.length + 1) by omega] at this
theorem st_fz (l : List Stp) : FzR (l.map stO) (l.map stTV) := by
 have : l.map stO = (l.map stTV).map (fun r => r.map .d) := by rw [List.map_map]; rfl
 rw [this]
 exact FzR.d _
theorem sK (h : s.right = true) (ha : s.acc = true) : 0 ≤ s.var ∧ s.var ≤ 3 := by
 unfold Stp.right at h
 unfold Stp.acc at ha
 simp only [Bool.and_eq_true, decide_eq_true_eq] at ha
 split at h
 ·cases h
 ·split at h
  ·omega
  ·split at h
   ·cases h
   ·simp only [inR, Bool.and_eq_true, decide_eq_true_eq] at h
    omega
theorem setAt_self {l : List OV} {p : Nat} {y : OV} (hp : p < l.length) : (setAt l p [y])[p]? = some y := by
 have h1 : (l.take p).length = p := by rw [List.length_take]; omega
 unfold setAt
 rw [List.append_assoc, List.getElem?_append_right (by omega), h1, Nat.sub_self]
 rfl
theorem vR (l : List α) (d : α) (k : Nat) (h : k < l.length) : l.take (k + 1) = l.take k ++ [l.getD k d] := by
 rw [List.take_add_one, List.getElem?_eq_getElem h, List.getD_eq_getElem?_getD, List.getElem?_eq_getElem h]; rfl
theorem sts_acc (h : s.sts = true) : s.acc = true := by
 unfold Stp.sts at h
 simp only [Bool.and_eq_true] at h
 exact h.1
theorem lds_acc (h : s.lds = true) : s.acc = true := by
 unfold Stp.lds at h
 simp only [Bool.and_eq_true] at h
 exact h.1
theorem qO (h : true = false ∨ true = false) : False := by rcases h with h | h <;> cases h
set_option maxHeartbeats 4000000 in
theorem ways_p (t : Ts) (hr : ∀ s ∈ t.flatten, s.right = true) (hl : t.flatten.length ≤ 64) (hn : t.length ≤ 64) : Pure E.P 49 [testOV t] (.int .i64 (waysT t)) := by
 have f1 : Frozen 1 := ⟨trivial⟩
 have f13 : Frozen 13 := ⟨trivial⟩
 have c1 := concat_oT t (by omega) hn
 obtain ⟨all, hall⟩ : ∃ all, all = t.flatten := ⟨_, rfl⟩
 unfold waysT
 rw [← hall] at c1 hr hl ⊢
 refine fnA Tryz.func49 Tryz.ntmps49 ?_
 refine run ?_; refine aoR fun _ => ?_
 refine run ?_; refine aoR fun _ => ?_
 refine run ?_; refine aoR fun _ => ?_
 refine run ?_
 apply S_ownF; assumption; exact rfl; exact .fn _ _ _; exact rfl; exact c1; exact st_fz _; exact rfl
 refine run ?_; refine aoR fun _ => ?_
 refine run ?_; refine aoR fun _ => ?_
 refine run ?_; refine aoR fun _ => ?_
 refine run ?_; rotate_left
 rename_i v0 v1 v2 v3 v4 v5
 obtain ⟨B, hB⟩ : ∃ B, B = sAll all := ⟨_, rfl⟩
 have hS := fun i : Nat => SOk.all (all.take i) 0 ([0, 0, 0, 0], 1) ⟨rfl, fun i => by rcases i with _ | _ | _ | _ | i <;> simp, by decide, by decide⟩ (by simp; omega)
 refine vA (X := Nat) (fun i => tmL [(3, .lo 3 (v1, 0) 4 0 0), (4, .d (.sl 10 (all.map stTV))), (5, .lo 5 (v3, 0) 1 0 0), (6, .fn 115 [] [.lo 5 (v3, 0) 1 0 0]), (15, .d (.sl 10 (all.map stTV))), (16, .int .i64 all.length), (17, .int .i64 i)]) (fun i => stL [(3, ((v1, 0), ⟨4, [manyO (sAll (all.take i)).1]⟩)), (5, ((v3, 0), ⟨1, [[.int .i64 (sAll (all.take i)).2]]⟩))]) (fun i => i ≤ all.length) (fun i => all.length - i) 0 (Nat.zero_le _) (by repeat' (first | exact vP _ | exact uL _ | refine uO rfl ?_ | refine uS rfl ?_ | (refine vD rfl ?_ ?_; (simp)) | (refine uR rfl ?_ ?_; (simp)) | (refine uN rfl ?_ ?_; (simp)))) leP ?_
 intro i hi
 obtain ⟨h1, h2, h3, h4⟩ := hS i
 by_cases hlt : i < all.length
 ·have hx := hr (all.getD i default) (by rw [List.getD_eq_getElem?_getD, List.getElem?_eq_getElem hlt]; exact List.getElem_mem hlt)
  have hst := vR all default i hlt
  have hS1 := hS (i + 1)
  obtain ⟨s, hs⟩ : ∃ s, s = all.getD (i : Int).toNat default := ⟨_, rfl⟩
  have hs' : all.getD i default = s := by rw [hs, Int.toNat_natCast]
  have hb : s.sts = true → 0 ≤ s.var ∧ s.var ≤ 3 := fun h => sK (by rw [← hs']; exact hx) (sts_acc h)
  have c2 := iO s
  have hstep : sAll (all.take (i + 1)) = sStep (sAll (all.take i)) s := by
   rw [hst, hs']; unfold sAll; rw [List.foldl_append]; rfl
  obtain ⟨p, hp⟩ : ∃ p, p = sAll (all.take i) := ⟨_, rfl⟩
  change (sAll (all.take i)).1.length = 4 at h1
  change ∀ j, 0 ≤ (sAll (all.take i)).1.getD j 0 ∧ (sAll (all.take i)).1.getD j 0 ≤ ((0 + (all.take i).length : Nat) : Int) at h2
  change 0 ≤ (sAll (all.take i)).2 at h3
  change (sAll (all.take i)).2 ≤ 10001 at h4
  rw [← hp] at hstep h1 h2 h3 h4 ⊢
  have hti : (all.take i).length ≤ 64 := by rw [List.length_take]; omega
  cases hsts : s.sts with
  | false =>
   rw [hsts] at c2
   refine run ?_; refine aoR fun _ => ?_
   refine run ?_; refine cnd ?_ ?_
   refine uE fun _ => ?_; try omega
   refine run ?_; refine aoR fun _ => ?_
   refine run ?_; refine aoR fun _ => ?_
   refine run ?_
   apply uA; exact rfl; exact .fn _ _ _; exact rfl; rw [← hs]; exact c2
   refine run ?_; refine cnd ?_ ?_
   exact vS
   refine vH ?_; refine run ?_; refine aoR fun _ => ?_
   refine run ?_; rotate_left
   refine uF fun _ => ?_; try omega
   have e : sStep p s = p := by unfold sStep; rw [hsts]; rfl
   rw [e] at hstep
   refine uU (i + 1) (by omega) (by omega) leP ?_
   rw [hstep]
   exact leP
  | true =>
   rw [hsts] at c2
   obtain ⟨hb1, hb2⟩ := hb hsts
   have hv := h2 s.var.toNat
   have hm := hU (k := 100) h3 h4 (show 0 ≤ p.1.getD s.var.toNat 0 + 1 by omega) (by omega) (by omega)
   subst hs
   refine run ?_; refine aoR fun _ => ?_
   refine run ?_; refine cnd ?_ ?_
   refine uE fun _ => ?_; try omega
   refine run ?_; refine aoR fun _ => ?_
   refine run ?_; refine aoR fun _ => ?_
   refine run ?_
   apply uA; exact rfl; exact .fn _ _ _; exact rfl; exact c2
   refine run ?_; refine cnd ?_ ?_; refine uJ ?_; refine run ?_; refine aoR fun _ => ?_
   refine run ?_
   apply vZ; exact rfl; exact rfl; exact rfl; exact rfl; exact rfl; (rw [show te3.size = 1 from rfl, Nat.mul_one, Nat.zero_add]; exact uQ (f := oneO) (by omega) 0)
   refine run ?_
   apply fS; exact rfl; exact rfl; exact rfl; exact rfl; exact rfl; exact rfl; exact rfl; (show _ + _ * 1 + 1 ≤ List.length (List.map oneO _); (rw [List.length_map]; omega))
   refine run ?_; refine aoR fun _ => ?_
   refine run ?_
   (apply vZ; exact rfl; exact rfl; exact rfl; exact rfl; exact rfl; exact setAt_self (show _ + _ * 1 < List.length (List.map oneO _) by (rw [List.length_map]; omega)))
   apply xH; exact rfl; exact .fn _ _ _; exact rfl; exact mJ p.2 _ (hm).1 (Int.le_trans (hm).2 (by decide)) _; exact leP; exact rfl; simp
   refine run ?_; refine aoR fun _ => ?_
   refine run ?_; rotate_left
   exact uM
   refine uF fun _ => ?_; try omega
   have e : sStep p (all.getD (i : Int).toNat default) = (p.1.set (all.getD (i : Int).toNat default).var.toNat (p.1.getD (all.getD (i : Int).toNat default).var.toNat 0 + 1), capI (p.2 * (p.1.getD (all.getD (i : Int).toNat default).var.toNat 0 + 1))) := by unfold sStep; rw [hsts]; rfl
   rw [e] at hstep
   refine uU (i + 1) (by omega) (by omega) leP ?_
   rw [hstep]
   refine uN rfl ?_ (uS rfl (uL _))
   show [setAt (p.1.map oneO) (0 + (all.getD (i : Int).toNat default).var.toNat * 1) [oneO _]] = [manyO _]
   rw [Nat.mul_one, Nat.zero_add, kY _ _ _ _ (by omega)]; rfl
 ·have hil : i = all.length := by omega
  subst hil
  have e2 : sAll (all.take all.length) = B := by rw [List.take_length, hB]
  obtain ⟨g1, g2, g3, g4⟩ : SOk (0 + all.length) B := by have := hS all.length; rw [List.take_length] at this; rw [hB]; exact this
  rw [e2]
  clear hS h1 h2 h3 h4
  refine run ?_; refine aoR fun _ => ?_
  refine run ?_; refine cnd ?_ ?_
  refine uE fun _ => ?_; try omega
  refine uF fun _ => ?_; try omega
  refine run ?_; refine aoR fun _ => ?_
  refine run ?_; rotate_left
  rename_i w1 w2
  refine vA (X := Nat) (fun i => tmL [(3, .lo 3 (v1, 0) 4 0 0), (5, .lo 5 (v3, 0) 1 0 0), (6, .fn 115 [] [.lo 5 (v3, 0) 1 0 0]), (36, .d (.sl 10 (all.map stTV))), (37, .int .i64 all.length), (38, .int .i64 i)]) (fun i => stL [(3, ((v1, 0), ⟨4, [manyO B.1]⟩)), (5, ((v3, 0), ⟨1, [[.int .i64 ((all.take i).foldl (lStep B.1) B.2)]]⟩))]) (fun i => i ≤ all.length ∧ 0 ≤ (all.take i).foldl (lStep B.1) B.2 ∧ (all.take i).foldl (lStep B.1) B.2 ≤ 10001) (fun i => all.length - i) 0 ⟨Nat.zero_le _, by simpa using ⟨g3, g4⟩⟩ (by repeat' (first | exact vP _ | exact uL _ | refine uO rfl ?_ | refine uS rfl ?_ | (refine vD rfl ?_ ?_; (simp)) | (refine uR rfl ?_ ?_; (simp)) | (refine uN rfl ?_ ?_; (simp)))) leP ?_
  rintro i ⟨hi, n0, n1⟩
  by_cases hlt : i < all.length
  ·have hx := hr (all.getD i default) (by rw [List.getD_eq_getElem?_getD, List.getElem?_eq_getElem hlt]; exact List.getElem_mem hlt)
   have hst := vR all default i hlt
   obtain ⟨s, hs⟩ : ∃ s, s = all.getD (i : Int).toNat default := ⟨_, rfl⟩
   have hs' : all.getD i default = s := by rw [hs, Int.toNat_natCast]
   have hb : s.lds = true → 0 ≤ s.var ∧ s.var ≤ 3 := fun h => sK (by rw [← hs']; exact hx) (lds_acc h)
   have c2 := iO s
   have c3 := mX s
   have hstep : (all.take (i + 1)).foldl (lStep B.1) B.2 = lStep B.1 ((all.take i).foldl (lStep B.1) B.2) s := by
    rw [hst, hs', List.foldl_append]; rfl
   obtain ⟨n, hn⟩ : ∃ n, n = (all.take i).foldl (lStep B.1) B.2 := ⟨_, rfl⟩
   rw [← hn] at hstep n0 n1 ⊢
   have hv := g2 s.var.toNat
   have hm := hU (k := 100) n0 n1 (show 0 ≤ B.1.getD s.var.toNat 0 + 1 by omega) (by omega) (by omega)
   have hm0 := hU (k := 100) n0 n1 (show 0 ≤ B.1.getD s.var.toNat 0 by omega) (by omega) (by omega)
   subst hs
   cases hl1 : (all.getD (i : Int).toNat default).lds with
   | false =>
    rw [hl1] at c3
    have e : lStep B.1 n (all.getD (i : Int).toNat default) = n := by unfold lStep; rw [hl1]; rfl
    rw [e] at hstep
    refine run ?_; refine aoR fun _ => ?_
    refine run ?_; refine cnd ?_ ?_
    refine uE fun _ => ?_; try omega
    refine run ?_; refine aoR fun _ => ?_
    refine run ?_; refine aoR fun _ => ?_
    refine run ?_
    apply uA; exact rfl; exact .fn _ _ _; exact rfl; exact c3
    refine run ?_; refine cnd ?_ ?_
    exact vS
    refine vH ?_; refine run ?_; refine aoR fun _ => ?_
    refine run ?_
    apply uA; exact rfl; exact .fn _ _ _; exact rfl; exact c3
    refine run ?_; refine cnd ?_ ?_
    exact vS
    refine vH ?_; refine run ?_; refine aoR fun _ => ?_
    refine run ?_; rotate_left
    refine uF fun _ => ?_; try omega
    refine uU (i + 1) ⟨by omega, by rw [hstep]; exact ⟨n0, n1⟩⟩ (by omega) leP ?_
    rw [hstep]
    exact leP
   | true =>
    rw [hl1] at c3
    obtain ⟨hb1, hb2⟩ := hb hl1
    cases hs1 : (all.getD (i : Int).toNat default).sts with
    | true =>
     rw [hs1] at c2
     have e : lStep B.1 n (all.getD (i : Int).toNat default) = capI (n * B.1.getD (all.getD (i : Int).toNat default).var.toNat 0) := by unfold lStep; rw [hl1, hs1]; rfl
     rw [e] at hstep
     refine run ?_; refine aoR fun _ => ?_
     refine run ?_; refine cnd ?_ ?_
     refine uE fun _ => ?_; try omega
     refine run ?_; refine aoR fun _ => ?_
     refine run ?_; refine aoR fun _ => ?_
     refine run ?_
     apply uA; exact rfl; exact .fn _ _ _; exact rfl; exact c3
     refine run ?_
     apply spT; exact rfl
     intro hc_
     have hp_ := hc_; try simp only [nrm] at hp_
     apply uV; exact evm; exact .fn _ _ _; exact wM; exact c2
     refine run ?_; refine cnd ?_ ?_; refine wY ?_
     iterate 2 refine uJ ?_
     refine aoR fun _ => ?_; refine run ?_
     apply vZ; exact rfl; exact rfl; exact rfl; exact rfl; exact rfl; (rw [show te3.size = 1 from rfl, Nat.mul_one, Nat.zero_add]; exact uQ (f := oneO) (by omega) 0)
     apply xH; exact rfl; exact .fn _ _ _; exact rfl; exact mJ n _ (hm0).1 (Int.le_trans (hm0).2 (by decide)) _; exact leP; exact rfl; simp
     refine run ?_; refine aoR fun _ => ?_
     refine run ?_; rotate_left
     refine wZ (fun hc_ => ?_); (try simp only [nrm] at hc_)
     refine run ?_; refine aoR fun _ => ?_
     refine run ?_
     apply uA; exact rfl; exact .fn _ _ _; exact rfl; exact c3
     refine run ?_; refine cnd ?_ ?_; refine uJ ?_; refine aoR fun _ => ?_
     refine run ?_
     apply vZ; exact rfl; exact rfl; exact rfl; exact rfl; exact rfl; (rw [show te3.size = 1 from rfl, Nat.mul_one, Nat.zero_add]; exact uQ (f := oneO) (by omega) 0)
     refine run ?_; rotate_left
     exact uM
     refine uF fun _ => ?_; try omega
     all_goals try (exact (qO ‹_›).elim)
     refine uU (i + 1) ⟨by omega, by rw [hstep]; exact pZ hm0.1⟩ (by omega) leP ?_
     rw [hstep]
     exact leP
    | false =>
     rw [hs1] at c2
     have e : lStep B.1 n (all.getD (i : Int).toNat default) = capI (n * (B.1.getD (all.getD (i : Int).toNat default).var.toNat 0 + 1)) := by unfold lStep; rw [hl1, hs1]; rfl
     rw [e] at hstep
     refine run ?_; refine aoR fun _ => ?_
     refine run ?_; refine cnd ?_ ?_
     refine uE fun _ => ?_; try omega
     refine run ?_; refine aoR fun _ => ?_
     refine run ?_; refine aoR fun _ => ?_
     refine run ?_
     apply uA; exact rfl; exact .fn _ _ _; exact rfl; exact c3
     refine run ?_
     apply spT; exact rfl
     intro hc_
     have hp_ := hc_; try simp only [nrm] at hp_
     apply uV; exact evm; exact .fn _ _ _; exact wM; exact c2
     refine run ?_; refine cnd ?_ ?_; refine wY ?_; refine uJ ?_
     exact vS
     refine wZ (fun hc_ => ?_); (try simp only [nrm] at hc_)
     refine run ?_; refine aoR fun _ => ?_
     refine run ?_
     apply uA; exact rfl; exact .fn _ _ _; exact rfl; exact c3
     refine run ?_; refine cnd ?_ ?_; refine uJ ?_; refine aoR fun _ => ?_
     refine run ?_
     apply vZ; exact rfl; exact rfl; exact rfl; exact rfl; exact rfl; (rw [show te3.size = 1 from rfl, Nat.mul_one, Nat.zero_add]; exact uQ (f := oneO) (by omega) 0)
     refine run ?_
     apply xH; exact rfl; exact .fn _ _ _; exact rfl; exact mJ n _ (hm).1 (Int.le_trans (hm).2 (by decide)) _; exact leP; exact rfl; simp
     refine run ?_; refine aoR fun _ => ?_
     refine run ?_; rotate_left
     exact uM
     refine uF fun _ => ?_; try omega
     refine uU (i + 1) ⟨by omega, by rw [hstep]; exact pZ hm.1⟩ (by omega) leP ?_
     rw [hstep]
     exact leP
  ·have hil : i = all.length := by omega
   subst hil
   refine run ?_; refine aoR fun _ => ?_
   refine run ?_; refine cnd ?_ ?_
   refine uE fun _ => ?_; try omega
   refine uF fun _ => ?_; try omega
   refine run ?_; refine aoR fun _ => ?_
   refine run ?_; rotate_left
   refine xL rfl ?_
   rw [List.take_length, hB]
set_option maxRecDepth 100000
section
open Go.RowKit Go.Lib
theorem sindex1_p (s : Bt) (c : UInt8) : Pure E.P 195 [.bs s, .bs [c]] (.int .i64 (indexByte s c)) := iV ⟨_, Tryz.func195, by decide, rfl⟩ rfl fun G w vs hr hm => by
 rw [RepOL] at hr
 obtain ⟨v, us, rfl, r0, hr⟩ := hr
 rw [RepOL] at hr
 obtain ⟨v2, us, rfl, r2, hr⟩ := hr
 rw [RepOL] at hr
 subst hr
 rw [uT r0, uT r2]
 have := Tryz.strings_Index_one ⟨s.toArray⟩ c w
 refine this.mono fun e w' ⟨h1, h2⟩ => ⟨h1, ?_⟩
 subst h2
 exact Below.refl _ _
theorem scount1_p (s : Bt) (c : UInt8) : Pure E.P 194 [.bs s, .bs [c]] (.int .i64 (countByte s c)) := iV ⟨_, Tryz.func194, by decide, rfl⟩ rfl fun G w vs hr hm => by
 rw [RepOL] at hr
 obtain ⟨v, us, rfl, r0, hr⟩ := hr
 rw [RepOL] at hr
 obtain ⟨v2, us, rfl, r2, hr⟩ := hr
 rw [RepOL] at hr
 subst hr
 rw [uT r0, uT r2]
 have := Tryz.strings_Count_one ⟨s.toArray⟩ c w
 refine this.mono fun e w' ⟨h1, h2⟩ => ⟨h1, ?_⟩
 subst h2
 exact Below.refl _ _
theorem lS {c : UInt8} : ∀ (w l : Bt), c ∉ w → indexByte (w ++ c :: l) c = w.length
 | [], l, _ => by simp [indexByte]
 | x :: w, l, h => by
  have hx : ¬ x = c := fun e => h (by simp [e])
  have hw : ¬ c ∈ w := fun e => h (List.mem_cons_of_mem _ e)
  have ih := lS w l hw
  have e : indexByte (x :: (w ++ c :: l)) c = (w.length : Int) + 1 := by
   rw [indexByte, if_neg (by simp [hx]), ih, if_neg (by simp)]
  rw [List.cons_append, e]
  rfl
theorem cL {c : UInt8} : ∀ {l w : Bt}, w ∈ splitC c l → c ∉ w
 | [], w, h => by simp [splitC] at h; simp [h]
 | x :: l, w, h => by
  unfold splitC at h
  split at h
  ·rcases List.mem_cons.1 h with h | h
   ·simp [h]
   ·exact cL h
  ·rename_i hx
   cases hs : splitC c l with
   | nil => exact absurd hs (zB c l)
   | cons v vs =>
    rw [hs] at h
    simp only [consW] at h
    have hv : c ∉ v := cL (l := l) (by rw [hs]; simp)
    rcases List.mem_cons.1 h with h | h
    ·rw [h]
     simp only [List.mem_cons, not_or]
     exact ⟨fun e => hx e.symm, hv⟩
    ·exact cL (l := l) (by rw [hs]; simp [h])
theorem bM (c : UInt8) : ∀ l : Bt, (splitC c l).length = countByte l c + 1
 | [] => rfl
 | x :: l => by
  have ih := bM c l
  unfold splitC
  split
  ·rename_i hx
   simp only [List.length_cons, ih, countByte, hx, List.count_cons_self]
  ·rename_i hx
   cases hs : splitC c l with
   | nil => exact absurd hs (zB c l)
   | cons v vs =>
    rw [hs] at ih
    simp only [consW, List.length_cons] at ih ⊢
    rw [ih, countByte, countByte, List.count_cons_of_ne hx]
theorem pI (c : UInt8) (l : Bt) : countByte l c ≤ l.length := List.count_le_length
def restC (c : UInt8) (W : List Bt) (i : Nat) : Bt := joinC c (W.drop i)
theorem lC {i : Nat} (h : i + 1 < W.length) : restC c W i = W.getD i [] ++ c :: restC c W (i + 1) := by
 unfold restC
 have e : W.drop i = W.getD i [] :: W.drop (i + 1) := by
  rw [List.getD_eq_getElem?_getD, List.getElem?_eq_getElem (by omega), Option.getD_some]
  exact List.drop_eq_getElem_cons (by omega)
 rw [e, jI]
 intro h2
 have := congrArg List.length h2
 rw [List.length_drop] at this
 simp at this
 omega
theorem rest_last {i : Nat} (h : i + 1 = W.length) : restC c W i = W.getD i [] := by
 unfold restC
 have e : W.drop i = [W.getD i []] := by
  rw [List.getD_eq_getElem?_getD, List.getElem?_eq_getElem (by omega), Option.getD_some]
  rw [List.drop_eq_getElem_cons (by omega), List.drop_eq_nil_of_le (by omega)]
 rw [e]; rfl
def wO (w : Bt) : List OV := [.bs w]
def wTV (w : Bt) : List TV := [.c (.string ⟨w.toArray⟩)]
def rowsW (W : List Bt) (i : Nat) : List (List OV) := (W.take i).map wO ++ List.replicate (W.length - i) (wO [])
theorem kZ {i : Nat} (h : i < W.length) : (rowsW W i).set i (wO (W.getD i [])) = rowsW W (i + 1) := by
 unfold rowsW
 have e : W.length - i = (W.length - (i + 1)) + 1 := by omega
 rw [List.set_append_right _ _ (by rw [List.length_map, List.length_take]; omega), e, List.replicate_succ]
 rw [show i - ((W.take i).map wO).length = 0 by rw [List.length_map, List.length_take]; omega, List.set_cons_zero]
 rw [vR W [] i h]
 simp
theorem lA {i : Nat} (h : i ≤ W.length) : (rowsW W i).length = W.length := by
 unfold rowsW; simp; omega
theorem oA {i : Nat} (h : i < W.length) : (rowsW W i)[i]? = some (wO []) := by
 unfold rowsW
 have hl : ((W.take i).map wO).length = i := by rw [List.length_map, List.length_take]; omega
 rw [List.getElem?_append_right (by omega), hl, Nat.sub_self]
 have e : W.length - i = (W.length - (i + 1)) + 1 := by omega
 rw [e, List.replicate_succ]; rfl
theorem rowsW_all (W : List Bt) : rowsW W W.length = (W.map wTV).map fun r => r.map .d := by
 unfold rowsW
 simp [wO, wTV]
theorem oC {c : UInt8} {W : List Bt} : ∀ {i : Nat}, i + 1 ≤ W.length → (restC c W i).length ≤ (restC c W 0).length
 | 0, _ => Nat.le_refl _
 | i + 1, h => by
  have := oC (c := c) (W := W) (i := i) (by omega)
  rw [lC (by omega)] at this
  simp only [List.length_append, List.length_cons] at this
  omega
set_option maxHeartbeats 4000000 in
theorem genSplit_p (s : Bt) (c : UInt8) (hl : s.length ≤ 65536) : Pure E.P 138 [.bs s, .bs [c], .int .i64 0, .int .i64 (-1)] (.d (.sl 1 ((splitC c s).map wTV))) := by
 have c1 := scount1_p s c
 have hcl := pI c s
 have hsc := bM c s
 obtain ⟨W, hW⟩ : ∃ W, W = splitC c s := ⟨_, rfl⟩
 have hj : restC c W 0 = s := by rw [hW]; exact dW c s
 have hm : ∀ w ∈ W, c ∉ w := fun w hw => cL (by rw [← hW]; exact hw)
 rw [← hW] at hsc ⊢
 refine fnA Tryz.func138 Tryz.ntmps138 ?_
 have e1 : decide (([c] : Bt) = []) = false := by simp
 refine uD (aoR fun _ => ?_)
 refine q51 (uY (uC ?_))
 iterate 2 refine uD ?_
 refine aoR fun _ => ?_; refine q11 ?_; refine q46 (uY (uC ?_))
 refine cnd ?_ ?_
 refine uE fun _ => ?_; try omega
 refine uF fun _ => ?_; try omega
 refine vG (uC ?_)
 iterate 2 refine uD ?_
 refine aoR fun _ => ?_; refine q11 ?_
 apply nR; exact rfl; exact rfl
 refine uY (uC ?_); refine cnd ?_ ?_
 refine bR (fun _ => ?_)
 refine uD (aoR fun _ => ?_)
 iterate 2 refine q11 ?_
 rotate_left
 refine dN (fun _ => ?_)
 refine vG (uC ?_)
 iterate 2 refine uD ?_
 refine aoR fun _ => ?_; refine q11 ?_; refine q37 (uY (uC ?_))
 refine cnd ?_ ?_
 refine uE fun _ => ?_; try omega
 refine aoR fun _ => ?_
 iterate 2 refine q11 ?_
 apply uA; exact rfl; exact .fn _ _ _; exact rfl; exact c1
 refine q36 ?_; refine q12 (uY (uC (uD (aoR fun _ => ?_))))
 iterate 2 refine q11 ?_
 apply bG; exact rfl; exact rfl; exact rfl
 refine q36 ?_
 apply S_min; exact rfl; exact rfl
 refine q12 (uY (uC (uD (aoR fun _ => ?_))))
 refine q11 ?_
 apply S_makeSlice; exact rfl; exact rfl; exact rfl; decide; exact rfl; exact rfl; omega; (show ((Nat.succ _ : Nat) : Int) * _ ≤ _; omega); omega
 apply S_ren; exact rfl; exact rfl
 refine uY (uC (uD (aoR fun _ => ?_)))
 refine q11 ?_
 apply S_sub64; exact rfl; exact rfl; omega
 refine q12 (uY (uC (uD (aoR fun _ => ?_))))
 refine q12 (uY (uC (uD (dB ?_)))); rotate_left
 refine uF fun _ => ?_; try omega
 ·exfalso
  simp at *
 rename_i v0 v1 v2 v3 v4 v5
 have e2 : (if (s.length : Int) + 1 < (countByte s c : Int) + 1 then (s.length : Int) + 1 else (countByte s c : Int) + 1) = (W.length : Int) := by rw [if_neg (by omega)]; omega
 rw [e2]
 refine vA (X := Nat) (fun i => tmL [(0, .bs (restC c W i)), (1, .bs [c]), (2, .int .i64 0), (3, .int .i64 ((W.length : Int) - 1)), (9, .os 9 (v3, 0 + 1 + 1) 1 W.length), (10, .int .i64 i)]) (fun i => stL [(9, ((v3, 0 + 1 + 1), ⟨1, rowsW W i⟩))]) (fun i => i + 1 ≤ W.length) (fun i => W.length - i) 0 (by omega) (by rw [hj]; exact leP) leP ?_
 intro i hi
 by_cases h1 : i + 1 < W.length
 ·have hrl := oC (c := c) hi
  rw [hj] at hrl
  have hrs := kZ (W := W) (i := i) (by omega)
  have hrw := lA (W := W) (i := i) (by omega)
  have hmi := hm (W.getD i []) (by rw [List.getD_eq_getElem?_getD, List.getElem?_eq_getElem (by omega)]; exact List.getElem_mem _)
  have hr := lC (c := c) h1
  obtain ⟨w, hw⟩ : ∃ w, w = W.getD i [] := ⟨_, rfl⟩
  obtain ⟨r, hr'⟩ : ∃ r, r = restC c W (i + 1) := ⟨_, rfl⟩
  rw [← hw] at hrs hmi hr
  rw [← hr'] at hr
  have c2 := sindex1_p (w ++ c :: r) c
  rw [lS w r hmi] at c2
  rw [hr] at hrl ⊢
  have hll : (w ++ c :: r).length = w.length + (r.length + 1) := by simp
  have hc1 : (([c] : Bt).length : Int) = 1 := rfl
  have hat := oA (W := W) (i := i) (by omega)
  iterate 2 refine uD ?_
  refine aoR fun _ => ?_
  iterate 2 refine q11 ?_
  refine q37 (uY (uC ?_)); refine cnd ?_ ?_
  refine uE fun _ => ?_; try omega
  refine vG (uC (dB (uD (aoR fun _ => ?_))))
  iterate 2 refine q11 ?_
  apply uA; exact rfl; exact .fn _ _ _; exact rfl; exact c2
  refine q12 (uY (uC ?_))
  iterate 2 refine uD ?_
  refine aoR fun _ => ?_; refine q11 ?_; refine q37 (uY (uC ?_))
  refine cnd ?_ ?_
  refine uE fun _ => ?_; try omega
  refine uF fun _ => ?_; try omega
  refine vG (uC (uD (aoR fun _ => ?_)))
  iterate 5 refine q11 ?_
  refine q36 ?_
  (apply wV; exact rfl; exact rfl; exact rfl; exact rfl; (exact ⟨_, _, rfl, by omega, rfl⟩); omega; omega)
  apply cD; exact rfl; exact rfl; exact rfl; exact rfl; exact rfl; exact rfl; omega
  refine q15 (uY (uC (uD (aoR fun _ => ?_))))
  iterate 3 refine q11 ?_
  apply bG; exact rfl; exact rfl; exact rfl
  refine q36 ?_
  (apply wV; exact rfl; exact rfl; exact rfl; (exact ⟨_, _, rfl, by omega, rfl⟩); exact rfl; omega; omega)
  refine q12 (uY (uC (aoR fun _ => ?_)))
  refine q11 ?_; refine q36 ?_; refine q12 (uY ?_); refine uAS ?_; refine uC ?_; rotate_left
  refine uF fun _ => ?_; try omega
  have e3 : List.take (List.length (w ++ c :: r) - ((w.length : Int) + (([c] : Bt).length : Nat)).toNat) (List.drop ((w.length : Int) + (([c] : Bt).length : Nat)).toNat (w ++ c :: r)) = r := by
   have e : ((w.length : Int) + (([c] : Bt).length : Nat)).toNat = w.length + 1 := by omega
   have e5 : List.drop (w.length + 1) (w ++ c :: r) = r := by
    rw [← List.drop_drop, List.drop_left' rfl]; rfl
   rw [e, e5, List.take_of_length_le (by omega)]
  have e4 : List.take (((w.length : Int) + 0).toNat - 0) (List.drop 0 (w ++ c :: r)) = w := by
   have e : ((w.length : Int) + 0).toNat - 0 = w.length := by omega
   rw [e, List.drop_zero, List.take_left']
   rfl
  rw [e3, e4]
  exact uU (i + 1) (by omega) (by omega) (by rw [← hr']; exact leP) (by rw [← hrs]; exact leP)
 ·have hil : i + 1 = W.length := by omega
  have hrl := rest_last (c := c) hil
  rw [hrl]
  have hat := oA (W := W) (i := i) (by omega)
  have hrs := kZ (W := W) (i := i) (by omega)
  have hrw := lA (W := W) (i := i) (by omega)
  obtain ⟨w, hw⟩ : ∃ w, w = W.getD i [] := ⟨_, rfl⟩
  rw [← hw] at hrs ⊢
  iterate 2 refine uD ?_
  refine aoR fun _ => ?_
  iterate 2 refine q11 ?_
  refine q37 (uY (uC ?_)); refine cnd ?_ ?_
  refine uE fun _ => ?_; try omega
  refine uF fun _ => ?_; try omega
  refine fO ?_
  iterate 2 refine sM ?_
  refine uAR ?_; refine uC (uD (aoR fun _ => ?_))
  iterate 3 refine q11 ?_
  apply cD; exact rfl; exact rfl; exact rfl; exact rfl; exact rfl; exact rfl; omega
  refine q15 (uY (uC (uD (aoR fun _ => ?_))))
  iterate 2 refine q11 ?_
  refine q36 ?_
  (apply S_slice_os; exact rfl; exact rfl; exact rfl; exact rfl; exact rfl; (first | exact rfl | exact ⟨_, _, rfl, by omega, rfl⟩); (first | exact rfl | exact ⟨_, _, rfl, by omega, rfl⟩); omega; omega)
  refine q12 (uY (uC ?_)); rotate_left
  refine xC 9 (v3, 0 + 1 + 1) 1 (W.map wTV) (tmL [(8, .d (.sl 1 (((W.map wTV).drop 0).take (((i : Int) + 1).toNat - 0))))]) (stL []) ?_ (vN rfl (.vw _ _ (by rw [List.length_map]; omega)) zS) xT ?_
  ·have ha := rowsW_all W
   rw [← hil, ← hrs] at ha
   rw [← ha]; rfl
  ·refine aF (vM rfl ?_)
   have e : ((i : Int) + 1).toNat - 0 = (W.map wTV).length := by rw [List.length_map]; omega
   rw [e, List.drop_zero, List.take_length]
theorem split_p (s : Bt) (c : UInt8) (hl : s.length ≤ 65536) : Pure E.P 80 [.bs s, .bs [c]] (.d (.sl 1 ((splitC c s).map wTV))) := by
 have c1 := genSplit_p s c hl
 refine fnA Tryz.func80 Tryz.ntmps80 ?_
 refine uD (aoR fun _ => ?_)
 refine q51 (uY (uC (uD (aoR fun _ => ?_))))
 iterate 2 refine q11 ?_
 apply uA; exact rfl; exact .fn _ _ _; exact rfl; exact c1
 refine q12 (uY (uC ?_)); refine aF ?_; rotate_left
 all_goals exact vM rfl rfl
end
set_option maxRecDepth 100000
section
open Go.RowKit Go.Lib
def hasB (s p : Bt) : Bool := decide (p.length ≤ s.length) && decide (s.take p.length = p)
set_option maxHeartbeats 4000000 in
theorem slhas_p (s p : Bt) (hl : s.length ≤ 1152921504606846976) (hp : p.length ≤ 1152921504606846976) : Pure E.P 141 [.bs s, .bs p] (.bool (hasB s p)) := by
 refine fnA Tryz.func141 Tryz.ntmps141 ?_
 by_cases h : p.length ≤ s.length
 ·refine run ?_ 1
  refine aoR fun _ => ?_; refine run ?_ 1
  refine aoR fun _ => ?_; refine run ?_ 1
  apply bG; exact rfl; exact rfl; exact rfl
  refine run ?_ 1
  apply bG; exact rfl; exact rfl; exact rfl
  refine run ?_ 1
  apply xO; exact rfl; exact rfl
  refine uE fun _ => ?_; try omega
  refine run ?_ 1
  apply xO; exact rfl; exact rfl
  refine uJ ?_; refine run ?_ 1
  apply xO; exact rfl; exact rfl
  refine uJ ?_
  apply bG; exact rfl; exact rfl; exact rfl
  apply xO; exact rfl; exact rfl
  refine uJ ?_
  (apply wV; exact rfl; exact rfl; exact rfl; exact rfl; (exact ⟨_, _, rfl, by omega, rfl⟩); omega; omega)
  apply xO; exact rfl; exact rfl
  refine uJ ?_; refine run ?_ 1
  apply xO; exact rfl; exact rfl
  refine uJ ?_
  apply nR; exact rfl; exact rfl
  refine run ?_ 1; rotate_left
  iterate 5 exact uM
  refine uF fun _ => ?_; try omega
  all_goals first | (exfalso; omega) | skip
  refine uX rfl ?_
  simp [hasB, h]
 ·have e : hasB s p = false := by unfold hasB; rw [decide_eq_false h]; rfl
  rw [e]
  refine run ?_ 1; refine aoR fun _ => ?_
  refine run ?_ 1; refine aoR fun _ => ?_
  refine run ?_ 1
  apply bG; exact rfl; exact rfl; exact rfl
  refine run ?_ 1
  apply bG; exact rfl; exact rfl; exact rfl
  refine run ?_ 1
  apply xO; exact rfl; exact rfl
  refine uE fun _ => ?_; try omega
  refine uF fun _ => ?_; try omega
  apply xO; exact rfl; exact rfl
  exact vS
  refine vH ?_
  apply xO; exact rfl; exact rfl
  exact vS
  refine vH ?_
  apply xO; exact rfl; exact rfl
  exact vS
  refine vH ?_
  apply xO; exact rfl; exact rfl
  exact vS
  refine vH ?_
  apply xO; exact rfl; exact rfl
  exact vS
  refine vH ?_; refine run ?_ 1; rotate_left
  all_goals first | (exfalso; omega) | exact uX rfl rfl
theorem tH (s p : Bt) (hl : s.length ≤ 1152921504606846976) (hp : p.length ≤ 1152921504606846976) : Pure E.P 88 [.bs s, .bs p] (.bool (hasB s p)) := by
 have c1 := slhas_p s p hl hp
 refine fnA Tryz.func88 Tryz.ntmps88 ?_
 refine run ?_; refine aoR fun _ => ?_
 refine run ?_; refine aoR fun _ => ?_
 refine run ?_
 apply uA; exact rfl; exact .fn _ _ _; exact rfl; exact c1
 refine run ?_; rotate_left
 all_goals exact uX rfl rfl
def idxF (v : Bt) : List Bt → Nat → Int
 | [], _ => -1
 | w :: W, k => if w = v then k else idxF v W (k + 1)
theorem idxF_drop (W : List Bt) (v : Bt) (k : Nat) (h : k < W.length) : idxF v (W.drop k) k = if W.getD k default = v then (k : Int) else idxF v (W.drop (k + 1)) (k + 1) := by
 rw [List.drop_eq_getElem_cons h, List.getD_eq_getElem?_getD, List.getElem?_eq_getElem h]; rfl
set_option maxHeartbeats 4000000 in
theorem kW (W : List Bt) (v : Bt) (hl : W.length ≤ 1152921504606846976) : Pure E.P 139 [.d (.sl 1 (W.map wTV)), .bs v] (.int .i64 (idxF v W 0)) := by
 refine fnA Tryz.func139 Tryz.ntmps139 ?_
 refine run ?_; refine aoR fun _ => ?_
 refine run ?_; refine aoR fun _ => ?_
 refine run ?_; rotate_left
 refine vA (X := Nat) (fun k => tmL [(0, .d (.sl 1 (W.map wTV))), (1, .bs v), (7, .int .i64 W.length), (8, .int .i64 k)]) (fun _ => stL []) (fun k => k ≤ W.length ∧ idxF v W 0 = idxF v (W.drop k) k) (fun k => W.length - k) 0 ⟨Nat.zero_le _, rfl⟩ (by repeat' (first | exact vP _ | exact uL _ | refine uO rfl ?_ | refine uS rfl ?_ | (refine vD rfl ?_ ?_; (simp)) | (refine uR rfl ?_ ?_; (simp)) | (refine uN rfl ?_ ?_; (simp)))) leP ?_
 rintro k ⟨hk, ht⟩
 by_cases hlt : k < W.length
 ·have hd := idxF_drop W v k hlt
  refine run ?_; refine aoR fun _ => ?_
  refine run ?_; refine cnd ?_ ?_
  refine uE fun _ => ?_; try omega
  refine run ?_; refine aoR fun _ => ?_
  refine run ?_; refine aoR fun _ => ?_
  refine run ?_
  apply nR; exact rfl; exact rfl
  refine run ?_; refine cnd ?_ ?_
  refine uE fun _ => ?_; try omega
  refine run ?_; refine aoR fun _ => ?_
  refine run ?_; rotate_left
  refine uF fun _ => ?_; try omega
  refine run ?_; refine aoR fun _ => ?_
  refine run ?_; rotate_left
  refine uF fun _ => ?_; try omega
  ·rename_i he _
   refine xL rfl ?_
   have he' : v = W.getD k default := he
   rw [ht, hd, if_pos he'.symm]
  ·rename_i he _
   have he' : ¬ v = W.getD k default := he
   refine uU (k + 1) ⟨by omega, ?_⟩ (by omega) leP leP
   rw [ht, hd, if_neg (fun h => he' h.symm)]
 ·have hn : W.drop k = [] := List.drop_eq_nil_of_le (by omega)
  rw [ht, hn]
  refine run ?_; refine aoR fun _ => ?_
  refine run ?_; refine cnd ?_ ?_
  refine uE fun _ => ?_; try omega
  refine uF fun _ => ?_; try omega
  refine run ?_; refine aoR fun _ => ?_
  refine run ?_; rotate_left
  all_goals first | exact xL rfl rfl | (exfalso; omega)
end
set_option maxRecDepth 100000
section
open Go.Shelf Go.RowKit Go.Sort Go.Lib
set_option maxHeartbeats 1000000 in
theorem sZ : FnW E.P 83 [.bool true] (stL []) (IsW (.tu []) (stL [])) := by
 refine wR Tryz.func83 (by decide) rfl Tryz.ntmps83 (Nat.le_of_ble_eq_true rfl) rfl ?_
 refine run ?_; refine aoR fun _ => ?_
 refine run ?_; refine cnd ?_ ?_; refine yY ?_
 exact uM
 refine wN ?_; refine uJ ?_; refine run ?_; rotate_left
 all_goals first | exact ⟨rfl, leP⟩ | (exfalso; simp at *; done)
def failV : Value := .iface 131 (.agg #[])
def failC : List PanicEntry := [{ v := failV, recovered := false }]
set_option maxHeartbeats 1000000 in
theorem mustNo_c (w : World) : Calls Tryz.prog 83 #[.bool false] w fun e w' => e = .panicked failC ∧ w' = w := by
 go_enter Tryz.func83, Tryz.ntmps83
 go_wp2
 exact ⟨rfl, rfl, rfl⟩
theorem oI : FnP E.P 83 [.bool false] [] failC (fun l1 => l1 = []) := by
 refine ⟨⟨_, Tryz.func83, by decide, rfl⟩, fun G w vs N hr hw => ?_⟩
 rw [RepOL] at hr
 obtain ⟨v, us, rfl, r0, hr⟩ := hr
 rw [RepOL] at hr
 subst hr
 rw [uT r0]
 refine (mustNo_c w).mono fun e w' ⟨h1, h2⟩ => ⟨h1, [], rfl, G, stL [], leP, Gh.le.refl G, ?_⟩
 subst h2
 exact hw
theorem must_p : Pure E.P 83 [.bool true] (.tu []) :=
 ⟨sZ.1, fun G w vs N h1 h2 => ((FnW.toR sZ).2 G w vs N h1 h2).mono fun e w' ⟨x, G', r, σ', a, ⟨b, _⟩, c, d, e⟩ => ⟨x, G', r, σ', a, b, c, d, e⟩⟩
theorem aG (h : b = true) : Pure E.P 83 [.bool b] (.tu []) := by subst h; exact must_p
theorem zQ (h : b = false) : FnP E.P 83 [.bool b] [] failC (fun l1 => l1 = []) := by subst h; exact oI
set_option maxHeartbeats 4000000 in
theorem pS (s : Bt) (W : List Bt) (hl : W.length ≤ 1152921504606846976) (h1 : 0 ≤ idxF s W 0) (h2 : s ≠ []) : Pure E.P 84 [.bs s, .d (.sl 1 (W.map wTV))] (.int .i64 (idxF s W 0)) := by
 have c1 := kW W s hl
 refine fnA Tryz.func84 Tryz.ntmps84 ?_
 refine run ?_; refine aoR fun _ => ?_
 refine run ?_; refine aoR fun _ => ?_
 refine run ?_
 apply uA; exact rfl; exact .fn _ _ _; exact rfl; (exact c1)
 refine run ?_; refine aoR fun _ => ?_
 refine run ?_
 apply spT; exact rfl
 intro hc_
 have hp_ := hc_; try simp only [nrm] at hp_
 apply wU; exact evm; exact evm
 refine run ?_
 apply uA; exact rfl; exact .fn _ _ _; exact rfl; (exact aG (by simp [h1, h2]))
 refine run ?_; refine aoR fun _ => ?_
 refine run ?_; rotate_left
 all_goals exact xL rfl rfl
set_option maxHeartbeats 4000000 in
theorem iJ (s : Bt) (W : List Bt) (hl : W.length ≤ 1152921504606846976) (h : idxF s W 0 < 0 ∨ s = []) : FnP E.P 84 [.bs s, .d (.sl 1 (W.map wTV))] [] failC (fun l1 => l1 = []) := by
 have c1 := kW W s hl
 refine vE (args := [.bs s, .d (.sl 1 (W.map wTV))]) Tryz.func84 (by decide) rfl Tryz.ntmps84 (Nat.le_of_ble_eq_true rfl) ?_
 refine wI (vs := [.tmp 4]) rfl ?_
 refine run ?_ 2; refine aoR fun _ => ?_
 refine run ?_ 2; rotate_left
 refine uC ?_; refine run ?_ 2; refine aoR fun _ => ?_
 refine run ?_ 2
 apply uA; exact rfl; exact .fn _ _ _; exact rfl; exact c1
 refine run ?_ 2; rotate_left
 refine uC ?_
 refine uD (uK (ch := failC) 6 (by decide) rfl fun v => ?_)
 simp only [List.take_succ_cons, List.take_zero]
 refine run ?_
 apply spT; exact rfl
 intro hc_
 have hp_ := hc_; try simp only [nrm] at hp_
 apply wU; exact evm; exact evm
 refine run ?_; rotate_left
 refine wD (R1 := fun l1 => l1 = []) (l0 := []) rfl (.fn _ _ _) rfl ?_ (uL _) (fun l1 hl => ?_) (fun l1 hl => ?_)
 ·refine zQ ?_
  rcases h with h | h
  ·simp; intro h2; omega
  ·simp [h]
 ·subst hl; exact List.nodup_nil
 ·exact ⟨.panicking failC, rfl, rfl, [], rfl, uL _⟩
end
set_option maxRecDepth 100000
section
open Go.RowKit Go.Lib
def regsW : List Bt := [[], [114, 49], [114, 50], [114, 51], [114, 52]]
def namesW : List Bt := [[120], [121], [122], [119]]
set_option maxHeartbeats 4000000 in
theorem aReg_p (s : Bt) (h1 : 0 ≤ idxF s regsW 0) (h2 : s ≠ []) : Pure E.P 86 [.bs s] (.int .i64 (idxF s regsW 0)) := by
 have f4 : Frozen 4 := ⟨trivial⟩
 have c1 := pS s regsW (by decide) h1 h2
 refine fnA Tryz.func86 Tryz.ntmps86 ?_
 refine run ?_; refine aoR fun _ => ?_
 refine run ?_; refine aoR fun _ => ?_
 refine run ?_
 apply uA; exact rfl; exact .fn _ _ _; exact rfl; exact c1
 refine run ?_; rotate_left
 all_goals exact xL rfl rfl
set_option maxHeartbeats 4000000 in
theorem aName_p (s : Bt) (h1 : 0 ≤ idxF s namesW 0) (h2 : s ≠ []) : Pure E.P 89 [.bs s] (.int .i64 (idxF s namesW 0)) := by
 have f4 : Frozen 4 := ⟨trivial⟩
 have c1 := pS s namesW (by decide) h1 h2
 refine fnA Tryz.func89 Tryz.ntmps89 ?_
 refine run ?_; refine aoR fun _ => ?_
 refine run ?_; refine aoR fun _ => ?_
 refine run ?_
 apply uA; exact rfl; exact .fn _ _ _; exact rfl; exact c1
 refine run ?_; rotate_left
 all_goals exact xL rfl rfl
set_option maxHeartbeats 4000000 in
theorem aRegNo_w (s : Bt) (h : idxF s regsW 0 < 0 ∨ s = []) : FnP E.P 86 [.bs s] [] failC (fun l1 => l1 = []) := by
 have f4 : Frozen 4 := ⟨trivial⟩
 have c1 := iJ s regsW (by decide) h
 refine vE (args := [.bs s]) Tryz.func86 (by decide) rfl Tryz.ntmps86 (Nat.le_of_ble_eq_true rfl) ?_
 refine wI (vs := [.tmp 2]) rfl ?_
 refine run ?_ 2; refine aoR fun _ => ?_
 refine run ?_ 2; rotate_left
 refine uC ?_
 refine uD (uK (ch := failC) 2 (by decide) rfl fun v => ?_)
 simp only [List.take_succ_cons, List.take_zero]
 refine run ?_; rotate_left
 refine wD (R1 := fun l1 => l1 = []) (l0 := []) rfl (.fn _ _ _) rfl ?_ (uL _) (fun l1 hl => ?_) (fun l1 hl => ?_)
 ·exact c1
 ·subst hl; exact List.nodup_nil
 ·exact ⟨.panicking failC, rfl, rfl, [], rfl, uL _⟩
set_option maxHeartbeats 4000000 in
theorem aNameNo_w (s : Bt) (h : idxF s namesW 0 < 0 ∨ s = []) : FnP E.P 89 [.bs s] [] failC (fun l1 => l1 = []) := by
 have f4 : Frozen 4 := ⟨trivial⟩
 have c1 := iJ s namesW (by decide) h
 refine vE (args := [.bs s]) Tryz.func89 (by decide) rfl Tryz.ntmps89 (Nat.le_of_ble_eq_true rfl) ?_
 refine wI (vs := [.tmp 2]) rfl ?_
 refine run ?_ 2; refine aoR fun _ => ?_
 refine run ?_ 2; rotate_left
 refine uC ?_
 refine uD (uK (ch := failC) 2 (by decide) rfl fun v => ?_)
 simp only [List.take_succ_cons, List.take_zero]
 refine run ?_; rotate_left
 refine wD (R1 := fun l1 => l1 = []) (l0 := []) rfl (.fn _ _ _) rfl ?_ (uL _) (fun l1 hl => ?_) (fun l1 hl => ?_)
 ·exact c1
 ·subst hl; exact List.nodup_nil
 ·exact ⟨.panicking failC, rfl, rfl, [], rfl, uL _⟩
end
section
open Go.Lib
def stp0 : Stp := ⟨0, 0, 0, 0, 0, 0, false, false, 0, 0⟩
end
set_option maxRecDepth 100000
section
open Go.RowKit Go.Lib
def setsW : List Bt := [[], [119], [114], [114, 119]]
theorem reg_yes {n : Int} (h : regOf w = some n) : 0 ≤ idxF w regsW 0 ∧ w ≠ [] ∧ idxF w regsW 0 = n := by
 obtain ⟨h1, rfl⟩ := yH h
 rcases sH h1 with rfl | rfl | rfl | rfl <;> decide
theorem name_yes {n : Int} (h : nameOf w = some n) : 0 ≤ idxF w namesW 0 ∧ w ≠ [] ∧ idxF w namesW 0 = n := by
 obtain ⟨h1, rfl⟩ := zZ h
 rcases (by omega : n = 0 ∨ n = 1 ∨ n = 2 ∨ n = 3) with rfl | rfl | rfl | rfl <;> decide
theorem set_yes {n : Int} (h : setOf w = some n) : 0 ≤ idxF w setsW 0 ∧ w ≠ [] ∧ idxF w setsW 0 = n := by
 obtain ⟨h1, rfl⟩ := dO h
 rcases (by omega : n = 1 ∨ n = 2 ∨ n = 3) with rfl | rfl | rfl <;> decide
theorem iB {w : Bt} : ∀ (W : List Bt) (k : Nat), (∀ v ∈ W, v ≠ w) → idxF w W k < 0
 | [], _, _ => by show (-1 : Int) < 0; decide
 | v :: W, k, h => by
  unfold idxF
  rw [if_neg (h v (by simp))]
  exact iB W (k + 1) fun x hx => h x (by simp [hx])
theorem reg_not (h : regOf w = none) : idxF w regsW 0 < 0 ∨ w = [] := by
 by_cases h0 : w = []
 ·exact Or.inr h0
 ·refine Or.inl (iB _ _ fun v hv e => ?_)
  subst e
  unfold regOf at h
  simp only [regsW, List.mem_cons, List.not_mem_nil, or_false] at hv
  rcases hv with rfl | rfl | rfl | rfl | rfl
  ·exact h0 rfl
  all_goals (revert h; decide)
theorem name_not (h : nameOf w = none) : idxF w namesW 0 < 0 ∨ w = [] := by
 refine Or.inl (iB _ _ fun v hv e => ?_)
 subst e
 unfold nameOf at h
 simp only [namesW, List.mem_cons, List.not_mem_nil, or_false] at hv
 rcases hv with rfl | rfl | rfl | rfl
 all_goals (revert h; decide)
theorem set_not (h : setOf w = none) : idxF w setsW 0 < 0 ∨ w = [] := by
 by_cases h0 : w = []
 ·exact Or.inr h0
 ·refine Or.inl (iB _ _ fun v hv e => ?_)
  subst e
  unfold setOf at h
  simp only [setsW, List.mem_cons, List.not_mem_nil, or_false] at hv
  rcases hv with rfl | rfl | rfl | rfl
  ·exact h0 rfl
  all_goals (revert h; decide)
theorem eF {n : Int} (h : regOf w = some n) : Pure E.P 86 [.bs w] (.int .i64 n) := by
 obtain ⟨h1, h2, h3⟩ := reg_yes h
 have := aReg_p w h1 h2
 rwa [h3] at this
theorem iH {n : Int} (h : nameOf w = some n) : Pure E.P 89 [.bs w] (.int .i64 n) := by
 obtain ⟨h1, h2, h3⟩ := name_yes h
 have := aName_p w h1 h2
 rwa [h3] at this
theorem mG {n : Int} (h : setOf w = some n) : Pure E.P 84 [.bs w, .d (.sl 1 (setsW.map wTV))] (.int .i64 n) := by
 obtain ⟨h1, h2, h3⟩ := set_yes h
 have := pS w setsW (by decide) h1 h2
 rwa [h3] at this
theorem kK (h : regOf w = none) : FnP E.P 86 [.bs w] [] failC (fun l1 => l1 = []) := aRegNo_w w (reg_not h)
theorem nP (h : nameOf w = none) : FnP E.P 89 [.bs w] [] failC (fun l1 => l1 = []) := aNameNo_w w (name_not h)
theorem qJ (h : setOf w = none) : FnP E.P 84 [.bs w, .d (.sl 1 (setsW.map wTV))] [] failC (fun l1 => l1 = []) := iJ w setsW (by decide) (set_not h)
end
end Go.Proofs.YtjogffchdejabaaGreatDoor
