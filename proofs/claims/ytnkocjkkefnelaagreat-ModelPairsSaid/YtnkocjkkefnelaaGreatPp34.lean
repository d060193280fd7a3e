/- Parts. -/
import Derived.Lib.AppendZerosOnto
import Derived.Lib.SliceRun
import Derived.Test.YtnkocjkkefnelaaGreatPp4
import Derived.Test.YtnkocjkkefnelaaGreatPp5
import Derived.Test.YtnkocjkkefnelaaGreatPp6
import Derived.Test.YtnkocjkkefnelaaGreatPp19
import Derived.Test.YtnkocjkkefnelaaGreatPp22
import Derived.Test.YtnkocjkkefnelaaGreatPp24
import Derived.Test.YtnkocjkkefnelaaGreatPp33
set_option linter.unusedVariables false
set_option linter.unusedSimpArgs false
set_option maxHeartbeats 4000000
set_option maxRecDepth 100000
namespace Go.Proofs.YtnkocjkkefnelaaGreat
open Go.RowKit
section
variable {E : Env} {V J : Nat} {ty : TypeId} {pos : String} {af : Array Edge} {gd : Option (Nat × Bool)} {tm : Tm} {σ : Store}
theorem Y_appendR {d : Nat} {T e : TypeId} {te ee : TE} {x z : Operand} {s k n : Nat} {τ : Stamp} {y2 : OV} {ks2 : List Nat} {rows1 rows2 : List (List OV)} (hT : E.tab T = some te) (hk : te.k = .slice e) (hE : E.tab e = some ee) (hs : ee.size = s) (hpos : 0 < s)
  (hx : ev tm x = some (.os k τ s n)) (hz : ev tm z = some y2) (hs1 : σ k = some (τ, ⟨s, rows1⟩)) (hn : n = rows1.length) (h2 : Src σ s y2 ks2 rows2) (hlf : ∀ r ∈ rows2, ∀ y ∈ r, y.leaf = true)
  (hb : (rows1.length + rows2.length) * ee.bytes ≤ 140737488355328) (hm : rows1.length + rows2.length ≤ maxLen) :
  YL E.P V J ⟨some d, .call { callee := .builtin .append, args := #[x, z], argTypes := #[T, T] }, ty, pos, af, gd⟩ tm σ (k :: ks2) (.os d (V, J) s (rows1.length + rows2.length)) [(k, none), (d, some ((V, J), ⟨s, rows1 ++ rows2⟩))] :=
 fun σ' hσ Γ G ρ w hv hf hρ hw => by
 have hs1 : σ' k = some (τ, ⟨s, rows1⟩) := by rw [hσ k (by simp)]; exact hs1
 have hwd : WRel Γ G (σ'.del k) w := hw.forget (Store.del_le σ' k)
 have h2 := h2.move (σ' := σ') fun k hk => hσ k (by simp [hk])
 have r1 := hρ x (by simp [Op.operands, Call.operands]) _ hx
 obtain ⟨a, c, e2, hlc, hsrc⟩ := h2.lies hw (hρ z (by simp [Op.operands, Call.operands]) _ hz) hlf
 obtain ⟨_, i, zv, hi, i1, i2, hzv, hzc, hlen, hone⟩ := E.ok e ee hE
 have ht := (E.ok T te hT).1
 rw [hk] at ht
 simp only [TK.fits] at ht
 have hzs : zv.cells.size = s := by rw [← Array.length_toList, hzc, hlen, hs]
 have his : i.size = s := by omega
 have hmI : ((rows1.length + rows2.length : Nat) : Int) ≤ 9223372036854775807 := by unfold maxLen at hm; omega
 show NextOk E.P Γ G V J _ ((σ'.del k).put d ((V, J), ⟨s, rows1 ++ rows2⟩)) _
 -- the first slice's block, where it has one
 have nilCase : ρ x = .slice none 0 0 → rows1 = [] → NextOk E.P Γ G V J (.os d (V, J) s (rows1.length + rows2.length)) ((σ'.del k).put d ((V, J), ⟨s, rows1 ++ rows2⟩))
   ((execOp ρ ⟨some d, .call { callee := .builtin .append, args := #[x, z], argTypes := #[T, T] }, ty, pos, af, gd⟩).run E.P w) := fun e1 hr1 => by
  subst hr1
  simp only [List.nil_append, List.length_nil, Nat.zero_add] at hb hm hmI ⊢
  rcases hsrc with ⟨rfl, rfl⟩ | ⟨ad, rfl, vs, v1, v2, v3, v4⟩
  ·rw [vR (u := .slice none 0 0) (w' := w) (by rw [e1, e2]; exact xJ ht hi none 0 0 c (Nat.le_refl _))]
   exact ⟨_, Gh.name_le G _ (hf d), vY G d V J _, by rw [RepO]; exact Or.inr ⟨Gh.name_self _ _ _ _, rfl, rfl⟩, hwd.phantom d hv (hf d) s⟩
  ·by_cases h0 : rows2.length = 0
   ·have : rows2 = [] := List.eq_nil_of_length_eq_zero h0
    subst this
    have hvs : vs = [] := List.eq_nil_of_length_eq_zero (by simpa using v1)
    subst hvs
    have hr : (Builtin.append_ #[T, T] ty #[ρ x, ρ z]).run E.P w = .ok (.slice none 0 0) w := by
     rw [e1, e2]
     simp [Builtin.append_, run_underlying ht, sizeOf, typeInfo, hi, Builtin.lenOf, Builtin.firstCells, loadCells, loadCellsFrom]
    rw [vR hr]
    exact ⟨_, Gh.name_le G _ (hf d), vY G d V J _, by rw [RepO]; exact Or.inr ⟨Gh.name_self _ _ _ _, rfl, rfl⟩, hwd.phantom d hv (hf d) s⟩
   ·have hr := run_append_nil (P := E.P) w T ty e i zv ht hi hzv ad rows2.length c vs (by rw [his]; exact v1) v2 (by omega) hmI (by rw [i2]; omega)
    rw [vR (by rw [e1, e2]; exact hr)]
    have hge := grownCap_ge w rows2.length 0 e
    refine Leaves.made hwd hv hf ?_ rfl hge (grownCap_le_maxLen w rows2.length 0 e hm) (by simp only [Array.size_append, List.size_toArray, size_zeroCells, hzs, v1, ← Nat.add_mul]; congr 1; omega)
    intro i' row hi'
    obtain ⟨q1, q2⟩ := v4 i' row hi'
    refine ⟨q1, fun p y hy => ?_⟩
    obtain ⟨v, q3, q4⟩ := q2 p y hy
    refine ⟨v, ?_, q4⟩
    rw [Array.getElem?_append_left]
    ·exact q3
    ·rcases Nat.lt_or_ge (i' * s + p) vs.toArray.size with hh | hh
     ·exact hh
     ·rw [Array.getElem?_eq_none hh] at q3; cases q3
 subst hn
 rw [RepO] at r1
 rcases r1 with ⟨β, cap, hμ, e1, c1, c2, c3⟩ | ⟨hμ, e1, hn⟩
 ·have hother : ∀ k' τ' r' β', k' ≠ d → (σ'.del k) k' = some (τ', r') → G.μ k' τ' = some (some β') → β'.b ≠ β.b := fun k' τ' r' β' _ hk' hμ' e => by
   by_cases hkk : k' = k
   ·subst hkk; rw [Store.del_self] at hk'; cases hk'
   ·rw [Store.del_ne _ hkk] at hk'
    exact hkk (hw.inj k' k τ' τ β' β r' _ hk' hs1 hμ' hμ e)
  obtain ⟨hsep, hfr⟩ : (∀ o, G.M β.b o = none) ∧ (Γ.w0.heap.size ≤ β.b ∨ Γ.S β.b) := by
   rcases hw.own k τ _ hs1 with ⟨h1, _⟩ | ⟨β0, h1, h2, hsep, hfr⟩
   ·rw [hμ] at h1; cases h1
   ·rw [hμ] at h1; cases h1; exact ⟨hsep, hfr⟩
  obtain ⟨cs, g1, g2, g3, g4⟩ := hw.blk hs1 hμ
  simp only at g3
  rcases hsrc with ⟨rfl, rfl⟩ | ⟨ad, rfl, vs, v1, v2, v3, v4⟩
  ·rw [vR (u := ρ x) (w' := w) (by rw [e1, e2]; exact xJ ht hi _ rows1.length cap c c1), e1]
   refine ⟨_, Gh.name_le G _ (hf d), vY G d V J _, ?_, hwd.named (k := d) (β := β) hv (hf d) (Nat.le_refl _) rfl rfl rfl (fun _ _ _ => rfl) ⟨cs, g1, g2, by simpa using g3, by simpa using g4⟩ hsep hfr hother⟩
   rw [RepO]
   exact Or.inl ⟨β, cap, Gh.name_self _ _ _ _, rfl, by simpa using c1, c2, c3⟩
  ·by_cases hroom : rows1.length + rows2.length ≤ cap
   ·have hfit : rows1.length * s + vs.length ≤ cs.size := by rw [v1, g2, c2, ← Nat.add_mul]; exact Nat.mul_le_mul_right _ hroom
    have hr := aJ (P := E.P) w T ty e β.T i ht hi β.b rows1.length cap cs g1 ad rows2.length c vs (by rw [his]; exact v1) v2 v3 hroom (by rw [his]; exact hfit)
    rw [his] at hr
    rw [vR (by rw [e1, e2]; exact hr)]
    refine ⟨_, Gh.name_le G _ (hf d), vY G d V J _, ?_, hwd.named (k := d) (β := β) hv (hf d) (by simp) rfl rfl rfl (fun b _ hb => setRow_other w β.b b _ hb) ⟨_, setRow_heap w β.b cs _ β.T _ g1, ?_, ?_, ?_⟩ hsep hfr hother⟩
    ·rw [RepO]
     exact Or.inl ⟨β, cap, Gh.name_self _ _ _ _, rfl, hroom, c2, c3⟩
    ·simp only [List.size_toArray, List.length_append, List.length_take, List.length_drop, Array.length_toList]
     omega
    ·simp only [List.length_append, Nat.add_mul]
     rw [← v1, ← g2]; exact hfit
    ·have htl : (cs.toList.take (rows1.length * s)).length = rows1.length * s := by simp; omega
     refine RowAt.append (vs := vs) ?_ ?_ ?_ v4 v1
     ·have e3 : (cs.toList.take (rows1.length * s) ++ vs).length = rows1.length * s + vs.length := by rw [List.length_append, htl]
      rw [← e3, List.take_left]
      rw [List.append_assoc, ← htl, List.length_take]
      rw [Nat.min_eq_left (by simp; omega), List.take_left' (by simp; omega)]
     ·simp only [List.size_toArray, List.length_append, List.length_take, List.length_drop, Array.length_toList]
      omega
     ·intro i' row hi'
      obtain ⟨q1, q2⟩ := g4 i' row hi'
      refine ⟨q1, fun p y hy => ?_⟩
      obtain ⟨v, q3, q4⟩ := q2 p y hy
      refine ⟨v, ?_, q4⟩
      have hlt : i' < rows1.length := by
       rcases Nat.lt_or_ge i' rows1.length with hh | hh
       ·exact hh
       ·rw [show (Row.rows ⟨s, rows1⟩) = rows1 from rfl, List.getElem?_eq_none hh] at hi'; cases hi'
      have hp : p < s := by
       rcases Nat.lt_or_ge p row.length with hh | hh
       ·have := q1; simp only at this; omega
       ·rw [List.getElem?_eq_none hh] at hy; cases hy
      have hb' : (i' + 1) * s ≤ rows1.length * s := Nat.mul_le_mul_right s hlt
      rw [Nat.succ_mul] at hb'
      simp only [List.getElem?_toArray, List.append_assoc]
      rw [List.getElem?_append_left (by rw [htl]; omega), List.getElem?_take, if_pos (by omega)]
      simpa using q3
   ·have hol : ∀ j u, (cs.toList.take (rows1.length * s))[j]? = some u → w.cell? ((⟨β.b, 0, none⟩ : Addr).add j) = some u := fun j u hu => by
     rw [List.getElem?_take] at hu
     split at hu
     ·rw [xT]; simpa [World.cell?, g1] using hu
     ·cases hu
    have htl : (cs.toList.take (rows1.length * s)).length = rows1.length * s := by simp; omega
    have hr := run_append_grow (P := E.P) w T ty e i zv ht hi hzv ⟨β.b, 0, none⟩ rows1.length cap (cs.toList.take (rows1.length * s)) (by rw [htl, his]) hol ad rows2.length c vs (by rw [his]; exact v1) v2 (by omega) hmI (growslice_fits (by omega) (by rw [i2]; exact hb))
    rw [vR (by rw [e1, e2]; exact hr)]
    have hge := grownCap_ge w (rows1.length + rows2.length) cap e
    refine Leaves.made hwd hv hf ?_ (by simp) hge (grownCap_le_maxLen w _ cap e hm) (by
     simp only [Array.size_append, List.size_toArray, size_zeroCells, hzs, htl, v1, ← Nat.add_mul]; congr 1; omega)
    refine RowAt.append (vs := vs) ?_ ?_ ?_ v4 v1
    ·simp only [Array.toList_append, List.append_assoc]
     exact oL _ vs _ _ htl
    ·simp only [Array.size_append, List.size_toArray, htl]; omega
    ·intro i' row hi'
     obtain ⟨q1, q2⟩ := g4 i' row hi'
     refine ⟨q1, fun p y hy => ?_⟩
     obtain ⟨v, q3, q4⟩ := q2 p y hy
     refine ⟨v, ?_, q4⟩
     have hlt : i' < rows1.length := by
      rcases Nat.lt_or_ge i' rows1.length with hh | hh
      ·exact hh
      ·rw [show (Row.rows ⟨s, rows1⟩) = rows1 from rfl, List.getElem?_eq_none hh] at hi'; cases hi'
     have hp : p < s := by
      rcases Nat.lt_or_ge p row.length with hh | hh
      ·have := q1; simp only at this; omega
      ·rw [List.getElem?_eq_none hh] at hy; cases hy
     have hb' : (i' + 1) * s ≤ rows1.length * s := Nat.mul_le_mul_right s hlt
     rw [Nat.succ_mul] at hb'
     have hlt2 : i' * s + p < rows1.length * s := by omega
     rw [Array.append_assoc, Array.getElem?_append_left (by simpa [htl] using hlt2)]
     simp only [List.getElem?_toArray]
     rw [List.getElem?_take, if_pos hlt2]
     simpa using q3
 ·exact nilCase e1 (List.eq_nil_of_length_eq_zero hn)
end
structure RenOf (d : Nat) : Prop where
 on : True
variable {E : Env} {v j : Nat} {ops : Array Oper} {K : Tm → Store → Prop} {KD : List Foot → Tm → Store → Prop} {acc : List Foot} {rest : List Oper} {tm : Tm} {σ : Store} {ty : TypeId} {pos : String} {af : Array Edge} {gd : Option (Nat × Bool)}
theorem Ren.D_appendK {d : Nat} {T e : TypeId} {te ee : TE} {x z : Operand} {s k n : Nat} {τ : Stamp} {y2 : OV} {ks2 : List Nat} {rows1 rows2 : List (List OV)} (hmk : RenOf d) (hT : E.tab T = some te) (hk : te.k = .slice e) (hE : E.tab e = some ee) (hs : ee.size = s) (hpos : 0 < s) (hx : ev tm x = some (.os k τ s n)) (hz : ev tm z = some y2) (h1 : Dst σ s d (.os k τ s n) [k] k rows1) (h2 : Src σ s y2 ks2 rows2) (hlf : ∀ r ∈ rows2, ∀ y ∈ r, y.leaf = true) (hb : (rows1.length + rows2.length) * ee.bytes ≤ 140737488355328) (hm : rows1.length + rows2.length ≤ maxLen) (hcont : DO E.P v ops KD (j + 1) rest (tm.putO (some d) (.os d (v, j) s (rows1.length + rows2.length))) (σ.apply [(k, none), (d, some ((v, j), ⟨s, rows1 ++ rows2⟩))]) (Foot.mk (k :: ks2) (wkeys [(k, none), (d, some ((v, j), ⟨s, rows1 ++ rows2⟩))]) :: acc)) : DO E.P v ops KD j (⟨some d, .call { callee := .builtin .append, args := #[x, z], argTypes := #[T, T] }, ty, pos, af, none⟩ :: rest) tm σ acc := by
 cases h1 with
 | os _ _ _ _ hs1 hn => exact vL (Y_appendR hT hk hE hs hpos hx hz hs1 hn h2 hlf hb hm) hcont
end Go.Proofs.YtnkocjkkefnelaaGreat
set_option maxHeartbeats 4000000
set_option maxRecDepth 100000
namespace Go.Proofs.YtnkocjkkefnelaaGreat
open Go.RowKit
open Go.RowKit Go.Lib
set_option maxHeartbeats 2000000 in
theorem grow_zero (w : World) : Calls Tryz.prog 90 #[.slice none 0 0, .int .i64 0] w fun e w' => e = .returned (.slice none 0 0) ∧ w' = w := by
 go_enter Tryz.func90, Tryz.ntmps90
 go_wp2
 go_ret
 exact ⟨rfl, rfl⟩
set_option maxHeartbeats 2000000 in
theorem grow_more (n : Nat) (h0 : 0 < n) (hn : n ≤ 65536) (w : World) : Calls Tryz.prog 90 #[.slice none 0 0, .int .i64 n] w fun e w' =>
  ∃ cs : Array Value, cs.size = grownCap w n 0 73 * 2 ∧ e = .returned (.slice (some ⟨w.heap.size, 0, none⟩) 0 (grownCap w n 0 73)) ∧ w' = w.drew.alloc (.cells cs 73) := by
 obtain ⟨i0, hi, jz0, jz1, jz2⟩ := info_parts sV
 have h1 : ¬ ((n : Int) < 0) := by omega
 have h2 : RowKit.wrap64 ((0 : Int) - (0 : Int)) = 0 := by unfold RowKit.wrap64; omega
 have h3 : RowKit.wrap64 ((n : Int) - (0 : Int)) = (n : Int) := by unfold RowKit.wrap64; omega
 have h4 : (n : Int) > 0 := by omega
 have hGn : n ≤ grownCap w n 0 73 := grownCap_ge w _ _ _
 have hrz : ∀ ty, (Builtin.append_ #[51, 3] ty #[.slice none 0 0, .int .i64 (n : Int)]).run Tryz.prog w =
   .ok (.slice (some ⟨w.heap.size, 0, none⟩) n (grownCap w n 0 73)) (w.drew.alloc (.cells ((#[] : Array Value) ++ Builtin.zeroCells (Value.agg #[.int .i64 0, .int .i64 0]).cells n ++ Builtin.zeroCells (Value.agg #[.int .i64 0, .int .i64 0]).cells (grownCap w n 0 73 - n)) 73)) := fun ty => by
  have h := Lib.run_append_grow_zeros w 51 3 ty 73 i0 _ .i64 .i64 Tryz.underlying51 Tryz.underlying3 hi jz0 none 0 0 [] (run_firstCells_none w.drew i0.size 0 0 0) n h0 (by omega) (by omega) (by omega) (by rw [jz2]; omega) (growslice_fits (by omega) (by rw [jz2]; omega))
  simpa using h
 have hcs : ((#[] : Array Value) ++ Builtin.zeroCells (Value.agg #[.int .i64 0, .int .i64 0]).cells n ++ Builtin.zeroCells (Value.agg #[.int .i64 0, .int .i64 0]).cells (grownCap w n 0 73 - n)).size = grownCap w n 0 73 * 2 := by
  simp only [Array.size_append, List.size_toArray, List.length_nil, size_zeroCells, Value.cells, List.length_cons]
  omega
 obtain ⟨CS, hCS⟩ : ∃ CS, ((#[] : Array Value) ++ Builtin.zeroCells (Value.agg #[.int .i64 0, .int .i64 0]).cells n ++ Builtin.zeroCells (Value.agg #[.int .i64 0, .int .i64 0]).cells (grownCap w n 0 73 - n)) = CS := ⟨_, rfl⟩
 rw [hCS] at hcs
 simp only [hCS] at hrz
 obtain ⟨Gc, hG⟩ : ∃ Gc, grownCap w n 0 73 = Gc := ⟨_, rfl⟩
 rw [hG] at hcs hGn ⊢
 simp only [hG] at hrz
 have hG63 : Gc ≤ 9223372036854775807 := by
  have := grownCap_le_maxLen w n 0 73 (by unfold maxLen; omega)
  rw [hG] at this
  unfold maxLen at this
  omega
 clear hCS hG
 go_enter Tryz.func90, Tryz.ntmps90
 go_wp2_with (at_builtin; refine Lib.wpList_append_run _ rfl _ _ _ _ rfl _ _ rfl rfl _ _ (hrz _) ?_)
 all_goals (go_ret; exact ⟨CS, hcs, rfl, rfl⟩)
theorem sW (n : Nat) (hn : n ≤ 65536) : Own E.P 90 [.d (.c (.slice none 0 0)), .int .i64 n] 2 [] := by
 refine ⟨⟨_, Tryz.func90, by decide, rfl⟩, fun G w vs N hv hw => ?_⟩
 rw [RepOL] at hv
 obtain ⟨x1, us, rfl, h1, hv⟩ := hv
 rw [RepOL] at hv
 obtain ⟨x2, us, rfl, h2, hv⟩ := hv
 rw [RepOL] at hv
 subst hv
 have e1 := vP h1
 have e2 := vP h2
 subst e1 e2
 obtain ⟨v, hv, hf⟩ := hw.free
 rcases Nat.eq_zero_or_pos n with h0 | h0
 ·subst h0
  refine (grow_zero w).mono ?_
  rintro e w' ⟨rfl, rfl⟩
  exact ⟨_, _, .os 0 (v, 0) 2 0, _, rfl, ⟨0, (v, 0), rfl, Store.put_self _ _ _⟩, Gh.name_le G none (hf 0 0), by rw [RepO]; exact Or.inr ⟨Gh.name_self _ _ _ _, rfl, rfl⟩, hw.phantom 0 hv (hf 0 0) 2⟩
 ·refine (grow_more n h0 hn w).mono ?_
  rintro e w' ⟨cs, hcs, rfl, rfl⟩
  have hc := grownCap_le_maxLen w n 0 73 (by unfold maxLen; omega)
  have hw2 := (hw.drawn (w.drawn + 1)).alloc 0 hv (hf 0 0) cs 73 ⟨2, []⟩ (by simp) (fun i row hi => by simp at hi)
  exact ⟨_, _, .os 0 (v, 0) 2 0, _, rfl, ⟨0, (v, 0), rfl, Store.put_self _ _ _⟩, Gh.name_le G _ (hf 0 0), by rw [RepO]; exact Or.inl ⟨_, _, Gh.name_self _ _ _ _, rfl, Nat.zero_le _, hcs, hc⟩, hw2⟩
theorem mO (ls : List (List (Int × Int))) (k : Nat) (h : k < ls.length) : (ls.take (k + 1)).flatten = (ls.take k).flatten ++ ls.getD k default := by
 rw [wI ls default k h, List.flatten_append]; simp
theorem jI (ls : List (List (Int × Int))) (k : Nat) : ((ls.take k).flatten).length ≤ ls.flatten.length := by
 have h : ls = ls.take k ++ ls.drop k := (List.take_append_drop k ls).symm
 have := congrArg (fun l : List (List (Int × Int)) => l.flatten.length) h
 simp only [List.flatten_append, List.length_append] at this
 omega
def catRow (l : List (Int × Int)) : List TV := [pairsTV l]
set_option maxHeartbeats 4000000 in
theorem concat_o (ls : List (List (Int × Int))) (hl : ls.flatten.length ≤ 65536) (hn : ls.length ≤ 64) : Own E.P 60 [.d (.sl 1 (ls.map catRow))] 2 (ls.flatten.map pairO') := by
 have hG := fun n hn => sW n hn
 refine fnA Tryz.func60 Tryz.ntmps60 ?_
 refine run ?_; refine aoR fun _ => ?_
 refine run ?_; refine aoR fun _ => ?_
 refine run ?_; refine aoR fun _ => ?_
 refine run ?_; rotate_left
 refine uS (X := Nat) (fun k => tmL [(0, .d (.sl 1 (ls.map catRow))), (3, .int .i64 ((ls.take k).flatten).length), (9, .d (.sl 1 (ls.map catRow))), (10, .int .i64 ls.length), (11, .int .i64 k)]) (fun _ => stL []) (fun k => k ≤ ls.length) (fun k => ls.length - k) 0 (Nat.zero_le _) (by repeat' (first | exact vH _ | exact uX _ | refine uH rfl ?_ | refine uR rfl ?_ | (refine uK rfl ?_ ?_; (simp)) | (refine uI rfl ?_ ?_; (simp)) | (refine uM rfl ?_ ?_; (simp)))) leP ?_
 intro k hk
 have hfl := jI ls k
 by_cases hlt : k < ls.length
 ·have hfl1 := jI ls (k + 1)
  have hft := congrArg List.length (mO ls k hlt)
  rw [List.length_append] at hft
  have hA : ((ls.take k).flatten).length + (ls.getD (k : Int).toNat default).length ≤ 65536 := by rw [Int.toNat_natCast]; omega
  refine run ?_; refine aoR fun _ => ?_
  refine run ?_; refine cnd ?_ ?_
  refine uE fun _ => ?_; try (exfalso; omega)
  refine run ?_; refine aoR fun _ => ?_
  refine run ?_; refine aoR fun _ => ?_
  refine run ?_; refine aoR fun _ => ?_
  refine run ?_; refine cnd ?_ ?_
  refine uE fun _ => ?_; try (exfalso; omega)
  refine uG fun _ => ?_; try (exfalso; omega)
  refine run ?_; refine aoR fun _ => ?_
  refine run ?_; rotate_left
  refine uG fun _ => ?_; try (exfalso; omega)
  refine uY (k + 1) (by omega) (by omega) ?_ leP
  refine uH rfl (uH ?_ (uH rfl (uH rfl (uH rfl (vH _)))))
  show some (OV.int .i64 _) = some (OV.int .i64 _)
  rw [hft]; rfl
 ·have hkl : k = ls.length := by omega
  subst hkl
  rw [List.take_length]
  refine run ?_; refine aoR fun _ => ?_
  refine run ?_; refine cnd ?_ ?_
  refine uE fun _ => ?_; try (exfalso; omega)
  refine uG fun _ => ?_; try (exfalso; omega)
  refine run ?_; refine aoR fun _ => ?_
  refine run ?_
  apply gB; exact rfl; exact .fn _ _ _; exact rfl; exact sW _ hl
  refine run ?_; refine aoR fun _ => ?_
  refine run ?_; rotate_left
  rename_i v24 _
  refine uS (X := Nat × Stamp) (fun p => tmL [(6, .os 6 p.2 2 ((ls.take p.1).flatten).length), (25, .d (.sl 1 (ls.map catRow))), (26, .int .i64 ls.length), (27, .int .i64 p.1)]) (fun p => stL [(6, (p.2, ⟨2, ((ls.take p.1).flatten).map pairO'⟩))]) (fun p => p.1 ≤ ls.length) (fun p => ls.length - p.1) (0, (v24, 2)) (Nat.zero_le _) (by repeat' (first | exact vH _ | exact uX _ | refine uH rfl ?_ | refine uR rfl ?_ | (refine uK rfl ?_ ?_; (simp)) | (refine uI rfl ?_ ?_; (simp)) | (refine uM rfl ?_ ?_; (simp)))) (by repeat' (first | exact vH _ | exact uX _ | refine uH rfl ?_ | refine uR rfl ?_ | (refine uK rfl ?_ ?_; (simp)) | (refine uI rfl ?_ ?_; (simp)) | (refine uM rfl ?_ ?_; (simp)))) ?_
  rintro ⟨k, τ⟩ hk
  dsimp only at hk ⊢
  have hfl := jI ls k
  by_cases hlt : k < ls.length
  ·have hfl1 := jI ls (k + 1)
   have hft0 := mO ls k hlt
   have hft := congrArg List.length hft0
   rw [List.length_append] at hft
   have hA : ((ls.take k).flatten).length + (ls.getD (k : Int).toNat default).length ≤ 65536 := by rw [Int.toNat_natCast]; omega
   refine run ?_; refine aoR fun _ => ?_
   refine run ?_; refine cnd ?_ ?_
   refine uE fun _ => ?_; try (exfalso; omega)
   refine run ?_; refine aoR fun _ => ?_
   refine run ?_; refine aoR fun _ => ?_
   refine run ?_; refine aoR fun _ => ?_
   refine run ?_; rotate_left
   refine uG fun _ => ?_; try (exfalso; omega)
   rename_i v33 _
   refine uY (k + 1, (v33, 3)) (by dsimp only; omega) (by dsimp only; omega) ?_ ?_
   ·refine uH ?_ (uH rfl (uH rfl (uH rfl (vH _))))
    show some (OV.os 6 _ 2 _) = some (OV.os 6 _ 2 _)
    rw [hft, List.length_map, List.length_map, List.length_map]; rfl
   ·refine uR ?_ (uX _)
    show some (_, Row.mk 2 _) = some (_, Row.mk 2 _)
    rw [hft0, List.map_append, List.map_map]; rfl
  ·have hkl : k = ls.length := by omega
   subst hkl
   rw [List.take_length]
   refine run ?_; refine aoR fun _ => ?_
   refine run ?_; refine cnd ?_ ?_
   refine uE fun _ => ?_; try (exfalso; omega)
   refine uG fun _ => ?_; try (exfalso; omega)
   refine run ?_; refine aoR fun _ => ?_
   refine run ?_; rotate_left
   refine wP (d := 2) rfl rfl rfl ?_
   first | exact (List.length_map ..).symm | exact List.length_map ..
set_option maxHeartbeats 4000000
set_option maxRecDepth 100000
set_option maxHeartbeats 4000000 in
theorem rpairs2_o (x : Ex) (hx : x.evs.length ≤ 4096) (f : Nat → Nat → Bool) (hrel : ∀ a b : Nat, a < x.evs.length → b < x.evs.length → Pure E.P 45 [exOV x, .int .i64 a, .int .i64 b] (.bool (f a b))) : Own E.P 24 [exOV x, .int .i64 2] 2 ((refPairs x.evs.length f).map pairO') := by
 have f2 : Frozen 2 := ⟨trivial⟩
 have hsq : x.evs.length * x.evs.length ≤ 16777216 := Nat.mul_le_mul hx hx
 refine fnA Tryz.func24 Tryz.ntmps24 ?_
 refine run ?_; refine aoR fun _ => ?_
 refine run ?_; refine aoR fun _ => ?_
 refine run ?_; refine aoR fun _ => ?_
 refine run ?_; refine aoR fun _ => ?_
 refine run ?_; rotate_left
 rename_i v5 _ _
 refine uS (X := Nat × Stamp × List (Int × Int)) (fun p => tmL [(1, .int .i64 2), (2, .d (.pt (exRow x) 0)), (5, .os 5 p.2.1 2 p.2.2.length), (6, .int .i64 x.evs.length), (7, .int .i64 p.1)]) (fun p => stL [(5, (p.2.1, ⟨2, p.2.2.map pairO'⟩))])
  (fun p => p.1 ≤ x.evs.length ∧ p.2.2 = prTo x.evs.length f p.1) (fun p => x.evs.length - p.1) (0, (v5, 0), []) ⟨Nat.zero_le _, rfl⟩ (by repeat' (first | exact vH _ | exact uX _ | refine uH rfl ?_ | refine uR rfl ?_ | (refine uK rfl ?_ ?_; (simp)) | (refine uI rfl ?_ ?_; (simp)) | (refine uM rfl ?_ ?_; (simp)))) leP ?_
 rintro ⟨a, τ, l⟩ ⟨hk, hl⟩
 dsimp only at hk hl ⊢
 by_cases hlt : a < x.evs.length
 ·refine run ?_
  refine aoR fun _ => ?_; refine run ?_
  refine cnd ?_ ?_
  refine uE fun _ => ?_; try (exfalso; omega)
  refine run ?_; refine aoR fun _ => ?_
  refine run ?_; rotate_left
  refine uG fun _ => ?_; try (exfalso; omega)
  refine uS (X := Nat × Stamp × List (Int × Int)) (fun p => tmL [(1, .int .i64 2), (2, .d (.pt (exRow x) 0)), (5, .os 5 p.2.1 2 p.2.2.length), (6, .int .i64 x.evs.length), (7, .int .i64 a), (8, .int .i64 p.1)]) (fun p => stL [(5, (p.2.1, ⟨2, p.2.2.map pairO'⟩))])
   (fun p => p.1 ≤ x.evs.length ∧ p.2.2 = l ++ prRow f a p.1) (fun p => x.evs.length - p.1) (0, τ, l) ⟨Nat.zero_le _, by simp [prRow]⟩ leP leP ?_
  rintro ⟨b, τ2, l2⟩ ⟨hk2, hl2⟩
  dsimp only at hk2 hl2 ⊢
  have hlen : l2.length ≤ 16777216 + 4096 := by
   rw [hl2, List.length_append, hl]
   have h1 := wD x.evs.length f a
   have h2 := aM f a b
   have h3 : a * x.evs.length ≤ x.evs.length * x.evs.length := Nat.mul_le_mul hk (Nat.le_refl _)
   omega
  by_cases hlt2 : b < x.evs.length
  ·have hr := hrel a b hlt hlt2
   refine run ?_; refine aoR fun _ => ?_
   refine run ?_; refine cnd ?_ ?_
   refine uE fun _ => ?_; try (exfalso; omega)
   refine run ?_; refine aoR fun _ => ?_
   refine run ?_; refine aoR fun _ => ?_
   refine run ?_; refine aoR fun _ => ?_
   refine run ?_; refine cnd ?_ ?_
   refine uE fun _ => ?_; try (exfalso; omega)
   refine uG fun _ => ?_; try (exfalso; omega)
   refine run ?_; refine aoR fun _ => ?_
   refine run ?_; refine cnd ?_ ?_
   refine uE fun _ => ?_; try (exfalso; omega)
   refine aoR fun _ => ?_; refine run ?_
   apply uO; exact rfl; exact .fn _ _ _; exact rfl; exact hr
   refine run ?_; refine aoR fun _ => ?_
   refine run ?_; refine cnd ?_ ?_
   refine wQ (fun _ => ?_)
   refine aoR fun _ => ?_; refine run ?_
   refine aoR fun _ => ?_; refine run ?_
   rotate_left
   refine cG (fun _ => ?_)
   refine run ?_; refine aoR fun _ => ?_
   refine run ?_; rotate_left
   iterate 2 refine uG fun _ => ?_; try (exfalso; omega)
   ·rename_i hy v24 _
    exact uY (b + 1, (v24, 6), l2 ++ [((a : Int), (b : Int))]) ⟨by dsimp only; omega, by dsimp only; rw [hl2, cW hy, List.append_assoc]⟩ (by dsimp only; omega) (by repeat' (first | exact vH _ | exact uX _ | refine uH rfl ?_ | refine uR rfl ?_ | (refine uK rfl ?_ ?_; (simp <;> rfl)) | (refine uI rfl ?_ ?_; (simp <;> rfl)) | (refine uM rfl ?_ ?_; (simp <;> rfl)))) (by repeat' (first | exact vH _ | exact uX _ | refine uH rfl ?_ | refine uR rfl ?_ | (refine uK rfl ?_ ?_; (simp <;> rfl)) | (refine uI rfl ?_ ?_; (simp <;> rfl)) | (refine uM rfl ?_ ?_; (simp <;> rfl))))
   ·rename_i hy _
    exact uY (b + 1, τ2, l2) ⟨by dsimp only; omega, by dsimp only; rw [hl2, fD (by rw [hy]; decide)]⟩ (by dsimp only; omega) leP leP
  ·have hb : b = x.evs.length := by omega
   subst hb
   refine run ?_; refine aoR fun _ => ?_
   refine run ?_; refine cnd ?_ ?_
   refine uE fun _ => ?_; try (exfalso; omega)
   refine uG fun _ => ?_; try (exfalso; omega)
   refine run ?_; refine aoR fun _ => ?_
   refine run ?_; rotate_left
   exact uY (a + 1, τ2, l2) ⟨by dsimp only; omega, by dsimp only; rw [hl2, aL, hl]⟩ (by dsimp only; omega) leP leP
 ·refine run ?_
  refine aoR fun _ => ?_; refine run ?_
  refine cnd ?_ ?_
  refine uE fun _ => ?_; try (exfalso; omega)
  refine uG fun _ => ?_; try (exfalso; omega)
  refine run ?_; refine aoR fun _ => ?_
  refine run ?_; rotate_left
  have ha : a = x.evs.length := by omega
  refine wP (d := 4) rfl rfl ?_ ?_
  ·rw [hl, ha]; rfl
  ·simp
def cohG (x : Ex) (p : Int × Int) : Bool := !decide ((x.evs.getD p.1.toNat default).kind = 4) && !decide ((x.evs.getD p.2.toNat default).kind = 4) && decide ((x.evs.getD p.1.toNat default).addr = (x.evs.getD p.2.toNat default).addr)
def cohL (x : Ex) : List (Int × Int) := refPairs x.evs.length (isRf x) ++ refPairs x.evs.length (isCoB x) ++ refPairs x.evs.length (isFrB x)
def rcohL (x : Ex) : List (Int × Int) := cohL x ++ (refPairs x.evs.length (isPo x)).filter (cohG x)
theorem wG (n : Nat) (f : Nat → Nat → Bool) : (refPairs n f).length ≤ n * n := wD n f n
theorem yU {n : Nat} {f : Nat → Nat → Bool} {p : Int × Int} (h : p ∈ refPairs n f) : outB n p = false := by
 obtain ⟨a, b, h1, h2, _, rfl⟩ := vG.1 h
 unfold outB
 simp only [Bool.or_eq_false_iff, decide_eq_false_iff_not]
 omega
theorem gK (x : Ex) : (rcohL x).any (outB x.evs.length) = false := by
 rw [List.any_eq_false]
 intro p hp
 have : outB x.evs.length p = false := by
  unfold rcohL cohL at hp
  simp only [List.mem_append] at hp
  rcases hp with ((h | h) | h) | h
  ·exact yU h
  ·exact yU h
  ·exact yU h
  ·exact yU (List.mem_filter.1 h).1
 rw [this]; decide
theorem rcohL_len {x : Ex} (h : x.evs.length ≤ 32) : (rcohL x).length ≤ 4096 := by
 unfold rcohL cohL
 simp only [List.length_append]
 have hs : x.evs.length * x.evs.length ≤ 1024 := Nat.mul_le_mul h h
 have h1 := wG x.evs.length (isRf x)
 have h2 := wG x.evs.length (isCoB x)
 have h3 := wG x.evs.length (isFrB x)
 have h4 := wG x.evs.length (isPo x)
 have h5 := List.length_filter_le (cohG x) (refPairs x.evs.length (isPo x))
 omega
theorem wY (l : List (Int × Int)) : (l.map pairTV).map (fun r => r.map OV.d) = l.map pairO' := by
 rw [List.map_map]; rfl
namespace Ren
set_option maxHeartbeats 4000000 in
theorem rcoherent_p (x : Ex) (hx : x.rel) (hN : x.evs.length ≤ 32) : Pure E.P 18 [exOV x] (.bool (!circleB x.evs.length (rcohL x))) := by
 have f1 : Frozen 1 := ⟨trivial⟩
 have f6 : Frozen 6 := ⟨trivial⟩
 have f7 : Frozen 7 := ⟨trivial⟩
 have h2 := rpairs2_o x (by omega) (isRf x) fun a b ha hb => risRf_p x (by omega) hx.from_ a b ha hb
 have h3 := rCo_p hx
 have h4 := rFr_p hx
 have h1 := rPo_p hx
 have hs : x.evs.length * x.evs.length ≤ 1024 := Nat.mul_le_mul hN hN
 have l1 := wG x.evs.length (isPo x)
 have l2 := wG x.evs.length (isRf x)
 have l3 := wG x.evs.length (isCoB x)
 have l4 := wG x.evs.length (isFrB x)
 refine fnA Tryz.func18 Tryz.ntmps18 ?_
 have r12 : RenOf 12 := ⟨trivial⟩
 have r15 : RenOf 15 := ⟨trivial⟩
 refine run ?_; refine aoR fun _ => ?_
 refine run ?_
 refine uU (E := E) ?_ (fun _ => ?_); exact rfl
 refine run ?_
 apply D_own; exact rfl; exact .fn _ _ _; exact rfl; exact h2
 refine run ?_
 apply wM; exact rfl; exact .fn _ _ _; exact rfl; (exact h3)
 refine run ?_
 apply wM; exact rfl; exact .fn _ _ _; exact rfl; (exact h4)
 refine run ?_; refine aoR fun _ => ?_
 refine run ?_
 apply uO; exact rfl; exact .fn _ _ _; exact rfl; (exact h1)
 refine run ?_; refine aoR fun _ => ?_
 refine run ?_; rotate_left
 rename_i _ v8 _ _
 generalize hL : refPairs x.evs.length (isPo x) = L at l1
 have hln : L.length ≤ 1024 := by omega
 have hmem : ∀ k, k < L.length → ∃ a b : Nat, a < x.evs.length ∧ b < x.evs.length ∧ (L.getD k default).1 = (a : Int) ∧ (L.getD k default).2 = (b : Int) := fun k hk' => by
  have : L.getD k default ∈ L := by rw [List.getD_eq_getElem?_getD, List.getElem?_eq_getElem hk']; exact List.getElem_mem hk'
  rw [← hL] at this
  obtain ⟨a, b, g1, g2, _, g3⟩ := vG.1 this
  rw [hL] at g3
  exact ⟨a, b, g1, g2, by rw [g3], by rw [g3]⟩
 refine uS (X := Nat × Stamp × List (Int × Int)) (fun p => tmL [(1, .d (.pt (exRow x) 0)), (2, .bool false), (3, .os 3 p.2.1 2 p.2.2.length), (4, .d (pairsTV L)), (5, .int .i64 p.1)]) (fun p => stL [(3, (p.2.1, ⟨2, p.2.2.map pairO'⟩))])
  (fun p => p.1 ≤ L.length ∧ p.2.2 = cohL x ++ (L.take p.1).filter (cohG x)) (fun p => L.length - p.1) (0, (v8, 8), cohL x) ⟨Nat.zero_le _, by simp⟩ (by repeat' (first | exact vH _ | exact uX _ | refine uH rfl ?_ | refine uR rfl ?_ | (refine uK rfl ?_ ?_; (simp [cohL]; try omega)) | (refine uI rfl ?_ ?_; (simp [cohL]; try omega)) | (refine uM rfl ?_ ?_; (simp [cohL]; try omega)))) (by repeat' (first | exact vH _ | exact uX _ | refine uH rfl ?_ | refine uR rfl ?_ | (refine uK rfl ?_ ?_; (first | (simp only [cohL, wY, List.map_append]; done) | (show List.map pairO' (cohL x) = _; unfold cohL; rw [wY, wY, List.map_append, List.map_append]) | (show _ = List.map pairO' (cohL x); unfold cohL; rw [wY, wY, List.map_append, List.map_append]))) | (refine uI rfl ?_ ?_; (first | (simp only [cohL, wY, List.map_append]; done) | (show List.map pairO' (cohL x) = _; unfold cohL; rw [wY, wY, List.map_append, List.map_append]) | (show _ = List.map pairO' (cohL x); unfold cohL; rw [wY, wY, List.map_append, List.map_append]))) | (refine uM rfl ?_ ?_; (first | (simp only [cohL, wY, List.map_append]; done) | (show List.map pairO' (cohL x) = _; unfold cohL; rw [wY, wY, List.map_append, List.map_append]) | (show _ = List.map pairO' (cohL x); unfold cohL; rw [wY, wY, List.map_append, List.map_append]))))) ?_
 rintro ⟨k, τ, l⟩ ⟨hk', hl⟩
 dsimp only at hk' hl ⊢
 have hlen : l.length ≤ 4096 := by
  rw [hl, List.length_append]
  have h5 := List.length_filter_le (cohG x) (L.take k)
  have h6 : (L.take k).length ≤ L.length := by simp; omega
  have h7 : (cohL x).length ≤ 3072 := by unfold cohL; simp only [List.length_append]; omega
  omega
 by_cases hlt : k < L.length
 ·obtain ⟨a, b, ha, hb, e1, e2⟩ := hmem k hlt
  have b1 : 0 ≤ (L.getD k default).1 := by omega
  have b2 : 0 ≤ (L.getD k default).2 := by omega
  have b3 : (L.getD k default).1 < x.evs.length := by omega
  have b4 : (L.getD k default).2 < x.evs.length := by omega
  have htk : L.take (k + 1) = L.take k ++ [L.getD k default] := wI L default k hlt
  have e1' : (L.getD ((k : Int)).toNat default).1 = (a : Int) := e1
  have e2' : (L.getD ((k : Int)).toNat default).2 = (b : Int) := e2
  refine run ?_; refine aoR fun _ => ?_
  refine run ?_; refine cnd ?_ ?_
  refine uE fun _ => ?_; try (exfalso; omega)
  refine run ?_
  refine uU (E := E) ?_ (fun _ => ?_); exact rfl
  refine run ?_; refine aoR fun _ => ?_
  refine run ?_; refine cnd ?_ ?_
  iterate 2 refine xC ?_
  iterate 2 (refine wL (fun _ => ?_); (try (exfalso; omega)))
  refine uE fun _ => ?_; try (exfalso; omega)
  refine aoR fun _ => ?_; refine run ?_
  refine aoR fun _ => ?_; refine run ?_
  rotate_left
  refine wT (fun hc_ => ?_); (try simp only [nrm] at hc_)
  refine run ?_; refine aoR fun _ => ?_
  refine run ?_; rotate_left
  refine uG fun _ => ?_; try (exfalso; omega)
  ·rename_i g1 g2 g3 v10 _
   rw [e1', Int.toNat_natCast] at g1 g3
   rw [e2', Int.toNat_natCast] at g2 g3
   have hg2 : cohG x (L.getD k default) = true := by
    unfold cohG
    rw [e1, e2, Int.toNat_natCast, Int.toNat_natCast]
    rw [decide_eq_false g1, decide_eq_false g2, decide_eq_true g3]; rfl
   exact uY (k + 1, (v10, 7), l ++ [L.getD k default]) ⟨by dsimp only; omega, by dsimp only; rw [hl, htk, List.filter_append, List.filter_cons, if_pos hg2, List.filter_nil, List.append_assoc]⟩ (by dsimp only; omega) (by repeat' (first | exact vH _ | exact uX _ | refine uH rfl ?_ | refine uR rfl ?_ | (refine uK rfl ?_ ?_; (simp <;> rfl)) | (refine uI rfl ?_ ?_; (simp <;> rfl)) | (refine uM rfl ?_ ?_; (simp <;> rfl)))) (by repeat' (first | exact vH _ | exact uX _ | refine uH rfl ?_ | refine uR rfl ?_ | (refine uK rfl ?_ ?_; (simp <;> rfl)) | (refine uI rfl ?_ ?_; (simp <;> rfl)) | (refine uM rfl ?_ ?_; (simp <;> rfl))))
  ·rw [e1', e2', Int.toNat_natCast, Int.toNat_natCast] at hc_
   have hg2 : cohG x (L.getD k default) = false := by
    unfold cohG
    rw [e1, e2, Int.toNat_natCast, Int.toNat_natCast]
    rcases hc_ with (h9 | h9) | h9
    ·rw [decide_eq_true h9]; simp only [Bool.not_true, Bool.and_false, Bool.false_and]
    ·rw [decide_eq_true h9]; simp only [Bool.not_true, Bool.and_false, Bool.false_and]
    ·rw [decide_eq_false h9]; simp only [Bool.and_false]
   exact uY (k + 1, τ, l) ⟨by dsimp only; omega, by dsimp only; rw [hl, htk, List.filter_append, List.filter_cons, if_neg (by rw [hg2]; decide), List.filter_nil, List.append_nil]⟩ (by dsimp only; omega) leP leP
 ·have hkl : k = L.length := by omega
  have hL' : l = rcohL x := by rw [hl, hkl, List.take_length, ← hL]; rfl
  subst hL'
  have f3 : Frozen 3 := ⟨trivial⟩
  have hfz := xD
  have hC := rcircle_p x.evs.length (rcohL x) (by omega) (gK x) (rcohL_len hN)
  refine run ?_; refine aoR fun _ => ?_
  refine run ?_; refine cnd ?_ ?_
  refine uE fun _ => ?_; try (exfalso; omega)
  refine uG fun _ => ?_; try (exfalso; omega)
  refine run ?_; refine aoR fun _ => ?_
  refine run ?_
  apply uO; exact rfl; exact .fn _ _ _; exact rfl; (exact hC)
  refine run ?_; rotate_left
  exact uV rfl rfl
end Ren
end Go.Proofs.YtnkocjkkefnelaaGreat
