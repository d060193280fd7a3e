/- Parts. -/
import Derived.Lib.AppendZerosOnto
import Derived.Lib.SliceRun
import Derived.Test.YtnkocjkkefnelaaGreatPs4
import Derived.Test.YtnkocjkkefnelaaGreatPs6
import Derived.Test.YtnkocjkkefnelaaGreatPs19
import Derived.Test.YtnkocjkkefnelaaGreatPs22
import Derived.Test.YtnkocjkkefnelaaGreatPs23
import Derived.Test.YtnkocjkkefnelaaGreatPs33
import Derived.Test.YtnkocjkkefnelaaGreatPs34
set_option linter.unusedVariables false
set_option linter.unusedSimpArgs false
set_option maxHeartbeats 4000000
set_option maxHeartbeats 4000000
set_option maxRecDepth 100000
namespace Go.Proofs.YtnkocjkkefnelaaGreat
open Go.RowKit Go.Lib
set_option maxHeartbeats 2000000 in
theorem grow_zero (w : World) : Calls Tryz.prog 90 #[.slice none 0 0, .int .i64 0] w fun e w' => e = .returned (.slice none 0 0) ∧ w' = w := by
 go_enter Tryz.func90, Tryz.ntmps90
 go_wp2
 go_ret
 exact ⟨rfl, rfl⟩
set_option maxHeartbeats 2000000 in
theorem grow_more (n : Nat) (h0 : 0 < n) (hn : n ≤ 65536) (w : World) : Calls Tryz.prog 90 #[.slice none 0 0, .int .i64 n] w fun e w' =>
  ∃ cs : Array Value, cs.size = grownCap w n 0 73 * 2 ∧ e = .returned (.slice (some ⟨w.heap.size, 0, none⟩) 0 (grownCap w n 0 73)) ∧ w' = w.drew.alloc (.cells cs 73) := by
 obtain ⟨i0, hi, jz0, jz1, jz2⟩ := info_parts sX
 have h1 : ¬ ((n : Int) < 0) := by omega
 have h2 : RowKit.wrap64 ((0 : Int) - (0 : Int)) = 0 := by unfold RowKit.wrap64; omega
 have h3 : RowKit.wrap64 ((n : Int) - (0 : Int)) = (n : Int) := by unfold RowKit.wrap64; omega
 have h4 : (n : Int) > 0 := by omega
 have hGn : n ≤ grownCap w n 0 73 := grownCap_ge w _ _ _
 have hrz : ∀ ty, (Builtin.append_ #[51, 3] ty #[.slice none 0 0, .int .i64 (n : Int)]).run Tryz.prog w =
   .ok (.slice (some ⟨w.heap.size, 0, none⟩) n (grownCap w n 0 73)) (w.drew.alloc (.cells ((#[] : Array Value) ++ Builtin.zeroCells (Value.agg #[.int .i64 0, .int .i64 0]).cells n ++ Builtin.zeroCells (Value.agg #[.int .i64 0, .int .i64 0]).cells (grownCap w n 0 73 - n)) 73)) := fun ty => by
  have h := Lib.run_append_grow_zeros w 51 3 ty 73 i0 _ .i64 .i64 Tryz.underlying51 Tryz.underlying3 hi jz0 none 0 0 [] (run_firstCells_none w.drew i0.size 0 0 0) n h0 (by omega) (by omega) (by omega) (by rw [jz2]; omega) (growslice_fits (by omega) (by rw [jz2]; omega))
  simpa using h
 have hcs : ((#[] : Array Value) ++ Builtin.zeroCells (Value.agg #[.int .i64 0, .int .i64 0]).cells n ++ Builtin.zeroCells (Value.agg #[.int .i64 0, .int .i64 0]).cells (grownCap w n 0 73 - n)).size = grownCap w n 0 73 * 2 := by
  simp only [Array.size_append, List.size_toArray, List.length_nil, size_zeroCells, Value.cells, List.length_cons]
  omega
 obtain ⟨CS, hCS⟩ : ∃ CS, ((#[] : Array Value) ++ Builtin.zeroCells (Value.agg #[.int .i64 0, .int .i64 0]).cells n ++ Builtin.zeroCells (Value.agg #[.int .i64 0, .int .i64 0]).cells (grownCap w n 0 73 - n)) = CS := ⟨_, rfl⟩
 rw [hCS] at hcs
 simp only [hCS] at hrz
 obtain ⟨Gc, hG⟩ : ∃ Gc, grownCap w n 0 73 = Gc := ⟨_, rfl⟩
 rw [hG] at hcs hGn ⊢
 simp only [hG] at hrz
 have hG63 : Gc ≤ 9223372036854775807 := by
  have := grownCap_le_maxLen w n 0 73 (by unfold maxLen; omega)
  rw [hG] at this
  unfold maxLen at this
  omega
 clear hCS hG
 go_enter Tryz.func90, Tryz.ntmps90
 go_wp2_with (at_builtin; refine Lib.wpList_append_run _ rfl _ _ _ _ rfl _ _ rfl rfl _ _ (hrz _) ?_)
 all_goals (go_ret; exact ⟨CS, hcs, rfl, rfl⟩)
theorem sY (n : Nat) (hn : n ≤ 65536) : Own E.P 90 [.d (.c (.slice none 0 0)), .int .i64 n] 2 [] := by
 refine ⟨⟨_, Tryz.func90, by decide, rfl⟩, fun G w vs N hv hw => ?_⟩
 rw [RepOL] at hv
 obtain ⟨x1, us, rfl, h1, hv⟩ := hv
 rw [RepOL] at hv
 obtain ⟨x2, us, rfl, h2, hv⟩ := hv
 rw [RepOL] at hv
 subst hv
 have e1 := vR h1
 have e2 := vR h2
 subst e1 e2
 obtain ⟨v, hv, hf⟩ := hw.free
 rcases Nat.eq_zero_or_pos n with h0 | h0
 ·subst h0
  refine (grow_zero w).mono ?_
  rintro e w' ⟨rfl, rfl⟩
  exact ⟨_, _, .os 0 (v, 0) 2 0, _, rfl, ⟨0, (v, 0), rfl, Store.put_self _ _ _⟩, Gh.name_le G none (hf 0 0), by rw [RepO]; exact Or.inr ⟨Gh.name_self _ _ _ _, rfl, rfl⟩, hw.phantom 0 hv (hf 0 0) 2⟩
 ·refine (grow_more n h0 hn w).mono ?_
  rintro e w' ⟨cs, hcs, rfl, rfl⟩
  have hc := grownCap_le_maxLen w n 0 73 (by unfold maxLen; omega)
  have hw2 := (hw.drawn (w.drawn + 1)).alloc 0 hv (hf 0 0) cs 73 ⟨2, []⟩ (by simp) (fun i row hi => by simp at hi)
  exact ⟨_, _, .os 0 (v, 0) 2 0, _, rfl, ⟨0, (v, 0), rfl, Store.put_self _ _ _⟩, Gh.name_le G _ (hf 0 0), by rw [RepO]; exact Or.inl ⟨_, _, Gh.name_self _ _ _ _, rfl, Nat.zero_le _, hcs, hc⟩, hw2⟩
theorem mK (ls : List (List (Int × Int))) (k : Nat) (h : k < ls.length) : (ls.take (k + 1)).flatten = (ls.take k).flatten ++ ls.getD k default := by
 rw [wZ ls default k h, List.flatten_append]; simp
theorem jE (ls : List (List (Int × Int))) (k : Nat) : ((ls.take k).flatten).length ≤ ls.flatten.length := by
 have h : ls = ls.take k ++ ls.drop k := (List.take_append_drop k ls).symm
 have := congrArg (fun l : List (List (Int × Int)) => l.flatten.length) h
 simp only [List.flatten_append, List.length_append] at this
 omega
def catRow (l : List (Int × Int)) : List TV := [pairsTV l]
set_option maxHeartbeats 4000000 in
theorem concat_o (ls : List (List (Int × Int))) (hl : ls.flatten.length ≤ 65536) (hn : ls.length ≤ 64) : Own E.P 60 [.d (.sl 1 (ls.map catRow))] 2 (ls.flatten.map pairO') := by
 have hG := fun n hn => sY n hn
 refine fnA Tryz.func60 Tryz.ntmps60 ?_
 refine run ?_; refine aoR fun _ => ?_
 refine run ?_; refine aoR fun _ => ?_
 refine run ?_; refine aoR fun _ => ?_
 refine run ?_; rotate_left
 refine uT (X := Nat) (fun k => tmL [(0, .d (.sl 1 (ls.map catRow))), (3, .int .i64 ((ls.take k).flatten).length), (9, .d (.sl 1 (ls.map catRow))), (10, .int .i64 ls.length), (11, .int .i64 k)]) (fun _ => stL []) (fun k => k ≤ ls.length) (fun k => ls.length - k) 0 (Nat.zero_le _) (by repeat' (first | exact vW _ | exact vP _ | refine uL rfl ?_ | refine vH rfl ?_ | (refine vF rfl ?_ ?_; (simp)) | (refine uR rfl ?_ ?_; (simp)) | (refine uS rfl ?_ ?_; (simp)))) leP ?_
 intro k hk
 have hfl := jE ls k
 by_cases hlt : k < ls.length
 ·have hfl1 := jE ls (k + 1)
  have hft := congrArg List.length (mK ls k hlt)
  rw [List.length_append] at hft
  have hA : ((ls.take k).flatten).length + (ls.getD (k : Int).toNat default).length ≤ 65536 := by rw [Int.toNat_natCast]; omega
  refine run ?_; refine aoR fun _ => ?_
  refine run ?_; refine cnd ?_ ?_
  refine uF fun _ => ?_; try omega
  refine run ?_; refine aoR fun _ => ?_
  refine run ?_; refine aoR fun _ => ?_
  refine run ?_; refine aoR fun _ => ?_
  refine run ?_; refine cnd ?_ ?_
  refine uF fun _ => ?_; try omega
  refine uI fun _ => ?_; try omega
  refine run ?_; refine aoR fun _ => ?_
  refine run ?_; rotate_left
  refine uI fun _ => ?_; try omega
  refine uV (k + 1) (by omega) (by omega) ?_ leP
  refine uL rfl (uL ?_ (uL rfl (uL rfl (uL rfl (vW _)))))
  show some (OV.int .i64 _) = some (OV.int .i64 _)
  rw [hft]; rfl
 ·have hkl : k = ls.length := by omega
  subst hkl
  rw [List.take_length]
  refine run ?_; refine aoR fun _ => ?_
  refine run ?_; refine cnd ?_ ?_
  refine uF fun _ => ?_; try omega
  refine uI fun _ => ?_; try omega
  refine run ?_; refine aoR fun _ => ?_
  refine run ?_
  apply gD; exact rfl; exact .fn _ _ _; exact rfl; exact sY _ hl
  refine run ?_; refine aoR fun _ => ?_
  refine run ?_; rotate_left
  rename_i v24 _
  refine uT (X := Nat × Stamp) (fun p => tmL [(6, .os 6 p.2 2 ((ls.take p.1).flatten).length), (25, .d (.sl 1 (ls.map catRow))), (26, .int .i64 ls.length), (27, .int .i64 p.1)]) (fun p => stL [(6, (p.2, ⟨2, ((ls.take p.1).flatten).map pairO'⟩))]) (fun p => p.1 ≤ ls.length) (fun p => ls.length - p.1) (0, (v24, 2)) (Nat.zero_le _) (by repeat' (first | exact vW _ | exact vP _ | refine uL rfl ?_ | refine vH rfl ?_ | (refine vF rfl ?_ ?_; (simp)) | (refine uR rfl ?_ ?_; (simp)) | (refine uS rfl ?_ ?_; (simp)))) (by repeat' (first | exact vW _ | exact vP _ | refine uL rfl ?_ | refine vH rfl ?_ | (refine vF rfl ?_ ?_; (simp)) | (refine uR rfl ?_ ?_; (simp)) | (refine uS rfl ?_ ?_; (simp)))) ?_
  rintro ⟨k, τ⟩ hk
  dsimp only at hk ⊢
  have hfl := jE ls k
  by_cases hlt : k < ls.length
  ·have hfl1 := jE ls (k + 1)
   have hft0 := mK ls k hlt
   have hft := congrArg List.length hft0
   rw [List.length_append] at hft
   have hA : ((ls.take k).flatten).length + (ls.getD (k : Int).toNat default).length ≤ 65536 := by rw [Int.toNat_natCast]; omega
   refine run ?_; refine aoR fun _ => ?_
   refine run ?_; refine cnd ?_ ?_
   refine uF fun _ => ?_; try omega
   refine run ?_; refine aoR fun _ => ?_
   refine run ?_; refine aoR fun _ => ?_
   refine run ?_; refine aoR fun _ => ?_
   refine run ?_; rotate_left
   refine uI fun _ => ?_; try omega
   rename_i v33 _
   refine uV (k + 1, (v33, 3)) (by dsimp only; omega) (by dsimp only; omega) ?_ ?_
   ·refine uL ?_ (uL rfl (uL rfl (uL rfl (vW _))))
    show some (OV.os 6 _ 2 _) = some (OV.os 6 _ 2 _)
    rw [hft, List.length_map, List.length_map, List.length_map]; rfl
   ·refine vH ?_ (vP _)
    show some (_, Row.mk 2 _) = some (_, Row.mk 2 _)
    rw [hft0, List.map_append, List.map_map]; rfl
  ·have hkl : k = ls.length := by omega
   subst hkl
   rw [List.take_length]
   refine run ?_; refine aoR fun _ => ?_
   refine run ?_; refine cnd ?_ ?_
   refine uF fun _ => ?_; try omega
   refine uI fun _ => ?_; try omega
   refine run ?_; refine aoR fun _ => ?_
   refine run ?_; rotate_left
   refine xA (d := 2) rfl rfl rfl ?_
   first | exact (List.length_map ..).symm | exact List.length_map ..
set_option maxHeartbeats 4000000
set_option maxRecDepth 100000
def cohG (x : Ex) (p : Int × Int) : Bool := !decide ((x.evs.getD p.1.toNat default).kind = 4) && !decide ((x.evs.getD p.2.toNat default).kind = 4) && decide ((x.evs.getD p.1.toNat default).addr = (x.evs.getD p.2.toNat default).addr)
def cohL (x : Ex) : List (Int × Int) := refPairs x.evs.length (isRf x) ++ refPairs x.evs.length (isCoB x) ++ refPairs x.evs.length (isFrB x)
def rcohL (x : Ex) : List (Int × Int) := cohL x ++ (refPairs x.evs.length (isPo x)).filter (cohG x)
theorem yV {n : Nat} {f : Nat → Nat → Bool} {p : Int × Int} (h : p ∈ refPairs n f) : outB n p = false := by
 obtain ⟨a, b, h1, h2, _, rfl⟩ := vE.1 h
 unfold outB
 simp only [Bool.or_eq_false_iff, decide_eq_false_iff_not]
 omega
theorem lX (x : Ex) : (rcohL x).any (outB x.evs.length) = false := by
 rw [List.any_eq_false]
 intro p hp
 have : outB x.evs.length p = false := by
  unfold rcohL cohL at hp
  simp only [List.mem_append] at hp
  rcases hp with ((h | h) | h) | h
  ·exact yV h
  ·exact yV h
  ·exact yV h
  ·exact yV (List.mem_filter.1 h).1
 rw [this]; decide
namespace Ren
end Ren
set_option maxHeartbeats 4000000
set_option maxRecDepth 100000
def ratR (x : Ex) (n : Nat) : Int := if (x.evs.getD n default).kind = 3 then (n : Int) else pairedI x n
def ratM (x : Ex) (n f m : Nat) : Bool := !decide ((x.evs.getD m default).hart = (x.evs.getD n default).hart) && isCoB x f m && isCoB x m n
def ratEv (x : Ex) (n : Nat) : Bool := decide (ratR x n < 0) || (List.range x.evs.length).all fun m => !ratM x n (x.from_.getD (ratR x n).toNat 0).toNat m
def ratB (x : Ex) : Bool := (List.range x.evs.length).all (ratEv x)
theorem mB {es : List Ev} (hb : ∀ i, (es.getD i default).rsv = true → (es.getD i default).kind = 1 ∨ (es.getD i default).kind = 2) (f : Ev) : ∀ k, 0 ≤ pairTo es f k → (es.getD (pairTo es f k).toNat default).ldB = true
 | 0, h => by unfold pairTo at h; omega
 | k + 1, h => by
  have ih := mB hb f k
  have hq := hb k
  unfold pairTo at h ⊢
  by_cases h1 : (es.getD k default).hart = f.hart
  ·rw [if_pos h1] at h ⊢
   by_cases h2 : (es.getD k default).rsv = true
   ·rw [if_pos h2] at h ⊢
    by_cases h3 : (es.getD k default).kind = 2
    ·rw [if_pos h3] at h; omega
    ·rw [if_neg h3] at h ⊢
     by_cases h4 : (es.getD k default).addr = f.addr
     ·rw [if_pos h4] at h ⊢
      rw [Int.toNat_natCast]
      unfold Ev.ldB
      have := (hq h2).resolve_right h3
      rw [this]; rfl
     ·rw [if_neg h4] at h; omega
   ·rw [if_neg h2] at h ⊢; exact ih h
  ·rw [if_neg h1] at h; omega
theorem rP {x : Ex} (hx : x.rel) {n : Nat} (hn : n < x.evs.length) (h : 0 ≤ ratR x n) : ratR x n ≤ n ∧ 0 ≤ x.from_.getD (ratR x n).toNat 0 ∧ x.from_.getD (ratR x n).toNat 0 < x.evs.length := by
 have hok := gI hx.fit.1 hx.check
 unfold ratR at h ⊢
 split
 ·rename_i h3
  refine ⟨Int.le_refl _, ?_⟩
  rw [Int.toNat_natCast]
  exact hx.src n hn (by unfold Ev.ldB; rw [h3]; rfl)
 ·rename_i h3
  rw [if_neg h3] at h
  unfold pairedI at h ⊢
  split
  ·rename_i h4
   rw [if_pos h4] at h
   have hb := gL x.evs (x.evs.getD n default) n
   refine ⟨by omega, hx.src _ (by omega) (mB hok.rsv _ _ h)⟩
  ·rename_i h4
   rw [if_neg h4] at h; omega
set_option maxHeartbeats 4000000 in
theorem ratomic_p (x : Ex) (hx : x.rel) : Pure E.P 20 [exOV x] (.bool (ratB x)) := by
 have f1 : Frozen 1 := ⟨trivial⟩
 have hl := hx.len
 have hlf := hx.from_
 have hok := gI hx.fit.1 hx.check
 refine fnA Tryz.func20 Tryz.ntmps20 ?_
 refine run ?_; refine aoR fun _ => ?_
 refine run ?_; refine aoR fun _ => ?_
 refine run ?_; rotate_left
 refine uT (X := Nat) (fun n => tmL [(1, .d (.pt (exRow x) 0)), (3, .int .i64 n)]) (fun _ => stL []) (fun n => n ≤ x.evs.length ∧ ∀ j, j < n → ratEv x j = true) (fun n => x.evs.length - n) 0 ⟨Nat.zero_le _, fun j hj => by omega⟩ leP leP ?_
 rintro n ⟨hn, hall⟩
 by_cases hlt : n < x.evs.length
 rotate_left
 ·refine run ?_
  refine aoR fun _ => ?_; refine run ?_
  refine cnd ?_ ?_
  refine uF fun _ => ?_; try omega
  refine uI fun _ => ?_; try omega
  refine run ?_; refine aoR fun _ => ?_
  refine run ?_; rotate_left
  refine uU rfl ?_
  unfold ratB
  refine (List.all_eq_true.2 fun j hj => hall j ?_).symm
  have := List.mem_range.1 hj
  omega
 have hnext : ratEv x n = true → ∀ j, j < n + 1 → ratEv x j = true := fun h j hj => by
  rcases Nat.lt_or_ge j n with e | e
  ·exact hall j e
  ·rw [show j = n by omega]; exact h
 have hP := lU x hok n hlt
 have hbd := fun h => rP hx hlt h
 by_cases hk : (x.evs.getD n default).kind = 3
 ·have hk' : (x.evs.getD (n : Int).toNat default).kind = 3 := hk
  have hR : ratR x n = (n : Int) := by unfold ratR; rw [if_pos hk]
  have hR0 : (0 : Int) ≤ (n : Int) := by omega
  rw [hR] at hbd
  refine run ?_; refine aoR fun _ => ?_
  refine run ?_; refine cnd ?_ ?_
  refine uF fun _ => ?_; try omega
  refine run ?_; refine aoR fun _ => ?_
  refine run ?_
  apply uP; exact rfl; exact .fn _ _ _; exact rfl; exact hP
  refine run ?_; refine aoR fun _ => ?_
  refine run ?_; refine cnd ?_ ?_
  refine uF fun _ => ?_; try omega
  refine aoR fun _ => ?_; refine run ?_
  refine aoR fun _ => ?_; refine run ?_
  refine cnd ?_ ?_
  refine uF fun _ => ?_; try omega
  refine uI fun _ => ?_; try omega
  refine run ?_; refine aoR fun _ => ?_
  refine run ?_; rotate_left
  iterate 2 refine uI fun _ => ?_; try omega
  obtain ⟨hb1, hb2, hb3⟩ := hbd hR0
  obtain ⟨f, hf⟩ : ∃ f : Nat, x.from_.getD (((n : Nat) : Int)).toNat 0 = (f : Int) := ⟨_, (Int.toNat_of_nonneg hb2).symm⟩
  have hE : ratEv x n = (List.range x.evs.length).all fun m => !ratM x n f m := by
   unfold ratEv
   rw [hR, decide_eq_false (by omega), Bool.false_or, hf, Int.toNat_natCast]
  have hrf : 0 ≤ ((n : Nat) : Int) ∧ ((n : Nat) : Int) < x.from_.length := by omega
  refine uT (X := Nat) (fun m => tmL [(1, .d (.pt (exRow x) 0)), (3, .int .i64 n), (4, .int .i64 (((n : Nat) : Int))), (5, .int .i64 m)]) (fun _ => stL []) (fun m => m ≤ x.evs.length ∧ ∀ j, j < m → ratM x n f j = false) (fun m => x.evs.length - m) 0 ⟨Nat.zero_le _, fun j hj => by omega⟩ leP leP ?_
  rintro m ⟨hm, hms⟩
  by_cases hltm : m < x.evs.length
  rotate_left
  ·refine run ?_
   refine aoR fun _ => ?_; refine run ?_
   refine cnd ?_ ?_
   refine uF fun _ => ?_; try omega
   refine uI fun _ => ?_; try omega
   refine run ?_; refine aoR fun _ => ?_
   refine run ?_; rotate_left
   refine uV (n + 1) ⟨by omega, hnext ?_⟩ (by omega) leP leP
   rw [hE, List.all_eq_true]
   intro j hj
   have := List.mem_range.1 hj
   rw [hms j (by omega)]; rfl
  have c1 := fE x (by omega) hx.ord hx.rows f m (by omega) hltm
  have c2 := fE x (by omega) hx.ord hx.rows m n hltm hlt
  rw [← hf] at c1
  refine run ?_; refine aoR fun _ => ?_
  refine run ?_; refine cnd ?_ ?_
  refine uF fun _ => ?_; try omega
  refine run ?_
  refine uO (E := E) ?_ (fun _ => ?_); exact rfl
  refine run ?_
  apply dpT; exact rfl
  intro hc_
  have hp_ := hc_; try simp only [nrm] at hp_
  apply vD; (exact EvM.plain rfl rfl); exact .fn _ _ _; exact vY; (exact c1)
  refine run ?_
  apply dpT; exact rfl
  intro hc_
  have hp_ := hc_; try simp only [nrm] at hp_
  apply vD; (exact EvM.plain rfl rfl); exact .fn _ _ _; exact vY; (exact c2)
  refine run ?_; refine cnd ?_ ?_
  iterate 2 refine wX ?_
  refine wR (fun _ => ?_); (try omega)
  iterate 2 (refine wQ (fun _ => ?_))
  refine run ?_; refine aoR fun _ => ?_
  refine run ?_; rotate_left
  refine wK (fun hc_ => ?_); (try simp only [nrm] at hc_)
  refine run ?_; refine aoR fun _ => ?_
  refine run ?_; rotate_left
  refine uI fun _ => ?_; try omega
  ·rename_i g1 g2 g3 _
   have hM : ratM x n f m = true := by
    have g1' : ¬ (x.evs.getD m default).hart = (x.evs.getD n default).hart := g1
    unfold ratM
    rw [decide_eq_false g1', g2, g3]; rfl
   refine uU rfl ?_
   have he : ratEv x n = false := by
    rw [hE, List.all_eq_false]
    exact ⟨m, List.mem_range.2 hltm, by rw [hM]; decide⟩
   unfold ratB
   refine (List.all_eq_false.2 ⟨n, List.mem_range.2 hlt, by rw [he]; decide⟩).symm
  ·refine uV (m + 1) ⟨by omega, fun j hj => ?_⟩ (by omega) leP leP
   rcases Nat.lt_or_ge j m with e | e
   ·exact hms j e
   ·rw [show j = m by omega]
    have h9 := hc_
    simp only [Int.toNat_natCast] at h9
    cases hM : ratM x n f m with
    | false => rfl
    | true =>
     exfalso
     unfold ratM at hM
     simp only [Bool.and_eq_true, Bool.not_eq_true', decide_eq_false_iff_not] at hM
     obtain ⟨⟨g1, g2⟩, g3⟩ := hM
     rcases h9 with (h | h) | h
     ·exact g1 h
     ·rw [g2] at h; exact absurd h (by decide)
     ·rw [g3] at h; exact absurd h (by decide)
 ·have hk' : ¬ (x.evs.getD (n : Int).toNat default).kind = 3 := hk
  have hR : ratR x n = pairedI x n := by unfold ratR; rw [if_neg hk]
  by_cases hR0 : 0 ≤ pairedI x n
  ·rw [hR] at hbd
   refine run ?_; refine aoR fun _ => ?_
   refine run ?_; refine cnd ?_ ?_
   refine uF fun _ => ?_; try omega
   refine run ?_; refine aoR fun _ => ?_
   refine run ?_
   apply uP; exact rfl; exact .fn _ _ _; exact rfl; exact hP
   refine run ?_; refine aoR fun _ => ?_
   refine run ?_; refine cnd ?_ ?_
   refine uF fun _ => ?_; try omega
   refine uI fun _ => ?_; try omega
   refine run ?_; refine aoR fun _ => ?_
   refine run ?_; refine cnd ?_ ?_
   refine uF fun _ => ?_; try omega
   refine uI fun _ => ?_; try omega
   refine run ?_; refine aoR fun _ => ?_
   refine run ?_; rotate_left
   refine uI fun _ => ?_; try omega
   obtain ⟨hb1, hb2, hb3⟩ := hbd hR0
   obtain ⟨f, hf⟩ : ∃ f : Nat, x.from_.getD (pairedI x n).toNat 0 = (f : Int) := ⟨_, (Int.toNat_of_nonneg hb2).symm⟩
   have hE : ratEv x n = (List.range x.evs.length).all fun m => !ratM x n f m := by
    unfold ratEv
    rw [hR, decide_eq_false (by omega), Bool.false_or, hf, Int.toNat_natCast]
   have hrf : 0 ≤ pairedI x n ∧ pairedI x n < x.from_.length := by omega
   refine uT (X := Nat) (fun m => tmL [(1, .d (.pt (exRow x) 0)), (3, .int .i64 n), (4, .int .i64 (pairedI x n)), (5, .int .i64 m)]) (fun _ => stL []) (fun m => m ≤ x.evs.length ∧ ∀ j, j < m → ratM x n f j = false) (fun m => x.evs.length - m) 0 ⟨Nat.zero_le _, fun j hj => by omega⟩ leP leP ?_
   rintro m ⟨hm, hms⟩
   by_cases hltm : m < x.evs.length
   rotate_left
   ·refine run ?_
    refine aoR fun _ => ?_; refine run ?_
    refine cnd ?_ ?_
    refine uF fun _ => ?_; try omega
    refine uI fun _ => ?_; try omega
    refine run ?_; refine aoR fun _ => ?_
    refine run ?_; rotate_left
    refine uV (n + 1) ⟨by omega, hnext ?_⟩ (by omega) leP leP
    rw [hE, List.all_eq_true]
    intro j hj
    have := List.mem_range.1 hj
    rw [hms j (by omega)]; rfl
   have c1 := fE x (by omega) hx.ord hx.rows f m (by omega) hltm
   have c2 := fE x (by omega) hx.ord hx.rows m n hltm hlt
   rw [← hf] at c1
   refine run ?_; refine aoR fun _ => ?_
   refine run ?_; refine cnd ?_ ?_
   refine uF fun _ => ?_; try omega
   refine run ?_
   refine uO (E := E) ?_ (fun _ => ?_); exact rfl
   refine run ?_
   apply dpT; exact rfl
   intro hc_
   have hp_ := hc_; try simp only [nrm] at hp_
   apply vD; (exact EvM.plain rfl rfl); exact .fn _ _ _; exact vY; (exact c1)
   refine run ?_
   apply dpT; exact rfl
   intro hc_
   have hp_ := hc_; try simp only [nrm] at hp_
   apply vD; (exact EvM.plain rfl rfl); exact .fn _ _ _; exact vY; (exact c2)
   refine run ?_; refine cnd ?_ ?_
   iterate 2 refine wX ?_
   refine wR (fun _ => ?_); (try omega)
   iterate 2 (refine wQ (fun _ => ?_))
   refine run ?_; refine aoR fun _ => ?_
   refine run ?_; rotate_left
   refine wK (fun hc_ => ?_); (try simp only [nrm] at hc_)
   refine run ?_; refine aoR fun _ => ?_
   refine run ?_; rotate_left
   refine uI fun _ => ?_; try omega
   ·rename_i g1 g2 g3 _
    have hM : ratM x n f m = true := by
     have g1' : ¬ (x.evs.getD m default).hart = (x.evs.getD n default).hart := g1
     unfold ratM
     rw [decide_eq_false g1', g2, g3]; rfl
    refine uU rfl ?_
    have he : ratEv x n = false := by
     rw [hE, List.all_eq_false]
     exact ⟨m, List.mem_range.2 hltm, by rw [hM]; decide⟩
    unfold ratB
    refine (List.all_eq_false.2 ⟨n, List.mem_range.2 hlt, by rw [he]; decide⟩).symm
   ·refine uV (m + 1) ⟨by omega, fun j hj => ?_⟩ (by omega) leP leP
    rcases Nat.lt_or_ge j m with e | e
    ·exact hms j e
    ·rw [show j = m by omega]
     have h9 := hc_
     simp only [Int.toNat_natCast] at h9
     cases hM : ratM x n f m with
     | false => rfl
     | true =>
      exfalso
      unfold ratM at hM
      simp only [Bool.and_eq_true, Bool.not_eq_true', decide_eq_false_iff_not] at hM
      obtain ⟨⟨g1, g2⟩, g3⟩ := hM
      rcases h9 with (h | h) | h
      ·exact g1 h
      ·rw [g2] at h; exact absurd h (by decide)
      ·rw [g3] at h; exact absurd h (by decide)
  ·refine run ?_
   refine aoR fun _ => ?_; refine run ?_
   refine cnd ?_ ?_
   refine uF fun _ => ?_; try omega
   refine run ?_; refine aoR fun _ => ?_
   refine run ?_
   apply uP; exact rfl; exact .fn _ _ _; exact rfl; exact hP
   refine run ?_; refine aoR fun _ => ?_
   refine run ?_; refine cnd ?_ ?_
   refine uF fun _ => ?_; try omega
   refine uI fun _ => ?_; try omega
   refine run ?_; refine aoR fun _ => ?_
   refine run ?_; refine cnd ?_ ?_
   refine uF fun _ => ?_; try omega
   refine run ?_; refine aoR fun _ => ?_
   refine run ?_; rotate_left
   iterate 2 refine uI fun _ => ?_; try omega
   refine uV (n + 1) ⟨by omega, hnext ?_⟩ (by omega) leP leP
   unfold ratEv
   rw [hR, decide_eq_true (by omega), Bool.true_or]
theorem pS {l : List Int} {a k p : Nat} (hp : p < ((l.drop a).take k).length) : ((l.drop a).take k).getD p 0 = l.getD (a + p) 0 ∧ a + p < l.length ∧ p < k := by
 have h1 : p < k ∧ a + p < l.length := by
  rw [List.length_take, List.length_drop] at hp; omega
 refine ⟨?_, h1.2, h1.1⟩
 rw [List.getD_eq_getElem?_getD, List.getElem?_take_of_lt h1.1, List.getElem?_drop, ← List.getD_eq_getElem?_getD]
theorem sH {l : List Int} {a : Int} (h : 0 ≤ atI l a) : l.getD (atI l a).toNat 0 = a ∧ (atI l a).toNat < l.length := by
 have hm : a ∈ l := by
  rcases Classical.em (a ∈ l) with hm | hm
  ·exact hm
  ·have : atI l a = -1 := gZ hm
   omega
 have main : ∀ (l : List Int) (k : Nat), a ∈ l → ∃ i, i < l.length ∧ l.getD i 0 = a ∧ atFrom a l k = ((k + i : Nat) : Int) := by
  intro l
  induction l with
  | nil => intro k hm; cases hm
  | cons b r ih =>
   intro k hm
   unfold atFrom
   by_cases e : b = a
   ·rw [if_pos e]
    exact ⟨0, by simp, e, by simp⟩
   ·rw [if_neg e]
    obtain ⟨i, h1, h2, h3⟩ := ih (k + 1) ((List.mem_cons.1 hm).resolve_left fun h => e h.symm)
    exact ⟨i + 1, by simpa using h1, h2, by rw [h3]; congr 1; omega⟩
 obtain ⟨i, h1, h2, h3⟩ := main l 0 hm
 have e : atI l a = i := by unfold atI; rw [h3]; simp
 rw [e, Int.toNat_natCast]
 exact ⟨h2, h1⟩
theorem nT {l : List Int} (hn : l.Nodup) {i : Nat} (hi : i < l.length) {a : Int} (e : l.getD i 0 = a) : atI l a = i := by
 have := eH (k := 0) hn hi e
 rw [Nat.zero_add] at this
 exact this
section
variable {x : Ex}
theorem reads_rat (hx : x.rel) {n : Nat} (hn : n < x.evs.length) : (readsR x n).2 = decide (0 ≤ ratR x n) ∧ ((readsR x n).2 = true → (readsR x n).1 = ratR x n) := by
 unfold readsR ratR
 by_cases hk : (x.evs.getD n default).kind = 3
 ·rw [if_pos hk, if_pos hk]
  exact ⟨(decide_eq_true (by omega)).symm, fun _ => rfl⟩
 ·rw [if_neg hk, if_neg hk]
  unfold pairedR
  rw [Int.toNat_natCast]
  by_cases h0 : 0 ≤ pairedI x n
  ·rw [if_pos ⟨hx.check, by omega, by omega, h0⟩]
   exact ⟨(decide_eq_true h0).symm, fun _ => rfl⟩
  ·rw [if_neg (fun h => h0 h.2.2.2)]
   exact ⟨(decide_eq_false h0).symm, fun h => by cases h⟩
theorem atom_ev (hx : x.rel) {n : Nat} (hn : n < x.evs.length) : atomEv x n = ratEv x n := by
 obtain ⟨h1, h2⟩ := reads_rat hx hn
 by_cases h0 : 0 ≤ ratR x n
 rotate_left
 ·unfold atomEv ratEv
  rw [h1, decide_eq_false h0, decide_eq_true (show ratR x n < 0 by omega)]; rfl
 rw [decide_eq_true h0] at h1
 have h3 := h2 h1
 obtain ⟨b1, b2, b3⟩ := rP hx hn h0
 have ho := (vI hx.check).2.2.2
 obtain ⟨f, hf⟩ : ∃ f : Nat, x.from_.getD (ratR x n).toNat 0 = (f : Int) := ⟨_, (Int.toNat_of_nonneg b2).symm⟩
 have hfl : f < x.evs.length := by omega
 unfold atomEv ratEv
 rw [h1, h3, hf, decide_eq_false (show ¬ ratR x n < 0 by omega), Bool.not_true, Bool.false_or, Bool.false_or, Int.toNat_natCast, Bool.eq_iff_iff, List.all_eq_true, List.all_eq_true]
 constructor
 ·intro hall m hm
  have hm := List.mem_range.1 hm
  cases hM : ratM x n f m with
  | false => rfl
  | true =>
   exfalso
   unfold ratM at hM
   simp only [Bool.and_eq_true, Bool.not_eq_true', decide_eq_false_iff_not] at hM
   obtain ⟨⟨g1, g2⟩, g3⟩ := hM
   rw [← bD hx.check hfl hm] at g2
   rw [← bD hx.check hm hn] at g3
   unfold coB at g2 g3
   obtain ⟨r, i, j, hr, a2, a3, a4, a5⟩ := cL (of_decide_eq_true g2)
   obtain ⟨r', i', j', hr', c2, c3, c4, c5⟩ := cL (of_decide_eq_true g3)
   have e1 := (aV ho hr a3 a5).2.2
   have e2 := (aV ho hr' (by omega) c4).2.2
   have er := fD ho hr hr' (e1.symm.trans e2)
   subst er
   have hnd := zC ho hr
   have hij : j = i' := by
    have q1 := nT hnd a3 a5
    have q2 := nT hnd (show i' < _ by omega) c4
    omega
   subst hij
   have qf := nT hnd (show i < _ by omega) a4
   have qn := nT hnd c3 c5
   have hmem : x.order.getD r default ∈ x.order := by
    rw [List.getD_eq_getElem?_getD, List.getElem?_eq_getElem hr]; exact List.getElem_mem hr
   have hrow := hall _ hmem
   unfold atomRow at hrow
   rw [qf, qn, decide_eq_false (by omega), decide_eq_false (by omega), Bool.false_or, Bool.false_or, List.all_eq_true] at hrow
   have hlo : atomLo n (f : Int) (x.order.getD r default).2 = i + 1 := by unfold atomLo; rw [qf, qn]; omega
   have hms : (m : Int) ∈ atomSl n (f : Int) (x.order.getD r default).2 := by
    unfold atomSl
    rw [hlo, qn, Int.toNat_natCast]
    have hp : j - (i + 1) < (((x.order.getD r default).2.drop (i + 1)).take (j' - (i + 1))).length := by
     rw [List.length_take, List.length_drop]; omega
    have := (pS hp).1
    rw [show i + 1 + (j - (i + 1)) = j by omega, a5] at this
    rw [← this]
    exact dI hp
   have := hrow _ hms
   unfold atomM at this
   rw [Int.toNat_natCast] at this
   exact g1 (of_decide_eq_true this)
 ·intro hall row hrow
  obtain ⟨r, hr, rfl⟩ := List.mem_iff_getElem.1 hrow
  have er : x.order.getD r default = x.order[r] := by rw [List.getD_eq_getElem?_getD, List.getElem?_eq_getElem hr]; rfl
  rw [← er]
  have hnd := zC ho hr
  unfold atomRow
  by_cases hfn : atI (x.order.getD r default).2 (f : Int) < 0 ∨ atI (x.order.getD r default).2 (n : Int) < 0
  ·rcases hfn with h | h
   ·rw [decide_eq_true h]; rfl
   ·rw [decide_eq_true h, Bool.or_true]; rfl
  ·have hf0 : 0 ≤ atI (x.order.getD r default).2 (f : Int) := by omega
   have hn0 : 0 ≤ atI (x.order.getD r default).2 (n : Int) := by omega
   obtain ⟨pf1, pf2⟩ := sH hf0
   obtain ⟨pn1, pn2⟩ := sH hn0
   rw [decide_eq_false (by omega), decide_eq_false (by omega), Bool.false_or, Bool.false_or, List.all_eq_true]
   intro m hm
   unfold atomSl at hm
   obtain ⟨p, hp, e⟩ := List.mem_iff_getElem.1 hm
   have e' := (pS hp)
   rw [List.getD_eq_getElem?_getD, List.getElem?_eq_getElem hp, Option.getD_some, e] at e'
   obtain ⟨q1, q2, q3⟩ := e'
   have hlo1 : (atI (x.order.getD r default).2 (f : Int)).toNat + 1 ≤ atomLo n (f : Int) (x.order.getD r default).2 + p := by unfold atomLo at *; omega
   have hlo2 : atomLo n (f : Int) (x.order.getD r default).2 + p < (atI (x.order.getD r default).2 (n : Int)).toNat := by omega
   have hm0 := rL hx.check hr _ q2
   rw [← q1] at hm0
   obtain ⟨m', hm'⟩ : ∃ m' : Nat, m = (m' : Int) := ⟨m.toNat, (Int.toNat_of_nonneg hm0.1).symm⟩
   subst hm'
   have hml : m' < x.evs.length := by omega
   unfold atomM
   rw [Int.toNat_natCast]
   have hM := hall m' (List.mem_range.2 hml)
   rw [Bool.not_eq_true'] at hM
   by_cases hh : (x.evs.getD m' default).hart = (x.evs.getD n default).hart
   ·exact decide_eq_true hh
   ·exfalso
    have c1 : coB x f m' = true := decide_eq_true ((fH _ _).2 ⟨r, hr, (cF _ _ _).2 ⟨_, _, by omega, q2, pf1, q1.symm⟩⟩)
    have c2 : coB x m' n = true := decide_eq_true ((fH _ _).2 ⟨r, hr, (cF _ _ _).2 ⟨_, _, hlo2, pn2, q1.symm, pn1⟩⟩)
    rw [bD hx.check hfl hml] at c1
    rw [bD hx.check hml hn] at c2
    unfold ratM at hM
    rw [decide_eq_false hh, c1, c2] at hM
    exact absurd hM (by decide)
theorem atom_eq (hx : x.rel) : atomB x = ratB x := by
 unfold atomB ratB
 rw [Bool.eq_iff_iff, List.all_eq_true, List.all_eq_true]
 refine forall_congr' fun n => forall_congr' fun hn => ?_
 rw [atom_ev hx (List.mem_range.1 hn)]
end
set_option maxRecDepth 100000
abbrev V3 := Bool × Bool × Bool
def judOV (b : V3) : OV := .ag [.bool b.1, .bool b.2.1, .bool b.2.2]
def eqV (a b : V3) : Bool := a.1 == b.1 && (a.2.1 == b.2.1 && a.2.2 == b.2.2)
theorem eqVer_run (a b : V3) (w : World) : (Op.equalIn 10000 34 (.agg #[.bool a.1, .bool a.2.1, .bool a.2.2]) (.agg #[.bool b.1, .bool b.2.1, .bool b.2.2])).run Tryz.prog w = .ok (eqV a b) w := by
 obtain ⟨a1, a2, a3⟩ := a
 obtain ⟨b1, b2, b3⟩ := b
 cases a1 <;> cases a2 <;> cases a3 <;> cases b1 <;> cases b2 <;> cases b3 <;> kernel_rfl
theorem rH {G : Gh} {p : V3} {u : Value} (h : RepO G (judOV p) u) : u = .agg #[.bool p.1, .bool p.2.1, .bool p.2.2] := by
 unfold judOV at h
 rw [RepO] at h
 obtain ⟨cs, rfl, h⟩ := h
 rw [RepOL] at h
 obtain ⟨a, l, e1, h1, h⟩ := h
 rw [RepOL] at h
 obtain ⟨b, l2, rfl, h2, h⟩ := h
 rw [RepOL] at h
 obtain ⟨c, l3, rfl, h3, h⟩ := h
 rw [RepOL] at h
 subst h
 have := vR h1
 have := vR h2
 have := vR h3
 subst a b c
 rw [show cs = cs.toList.toArray by simp, e1]
section
variable {v j : Nat} {ops : Array Oper} {K : Tm → Store → Prop} {KD : List Foot → Tm → Store → Prop} {acc : List Foot} {rest : List Oper} {tm : Tm} {σ : Store} {dst : Option Tmp} {ty : TypeId} {pos : String} {af : Array Edge} {gd : Option (Nat × Bool)}
theorem Y_eqlV {x y : Operand} {T' : TypeId} {p q : V3} (hx : ev tm x = some (judOV p)) (hy : ev tm y = some (judOV q)) :
  YL E.P v j ⟨dst, .binOp .eql 34 x y T', ty, pos, af, gd⟩ tm σ [] (.bool (eqV p q)) [] := kX hx hy (fun M u w' w hu hv => by
 rw [rH hu, rH hv]
 exact ⟨run_eqGuard_agg w _ _ _ _ _ _ (by kernel_rfl), by
  rw [run_eql_struct, show E.P = Tryz.prog from rfl, eqVer_run]; rfl⟩) rfl
theorem S_eqlV {x y : Operand} {T' : TypeId} (p q : V3) (hx : ev tm x = some (judOV p)) (hy : ev tm y = some (judOV q)) (hcont : AO E.P v ops K (j + 1) rest (tm.putO dst (.bool (eqV p q))) (σ.apply [])) : AO E.P v ops K j (⟨dst, .binOp .eql 34 x y T', ty, pos, af, none⟩ :: rest) tm σ := uQ (Y_eqlV hx hy) hcont
end
end Go.Proofs.YtnkocjkkefnelaaGreat
